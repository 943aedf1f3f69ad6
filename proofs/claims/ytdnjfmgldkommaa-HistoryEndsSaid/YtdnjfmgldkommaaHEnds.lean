/- Proved here: A workflow that is closed stays closed: no input changes it. -/
import Derived.Test.YtdnjfmgldkommaaLa
import Derived.Test.YtdnjfmgldkommaaQa
import Derived.Test.YtdnjfmgldkommaaLc
import Derived.Test.YtdnjfmgldkommaaRows
import Derived.HandedShaped
import Derived.Carry
import Derived.Test.YtdnjfmgldkommaaWd
namespace Go.Proofs.Ytdnjfmgldkommaa
open Go.Sx
@[reducible] def o4_16 : List Nat := [1, 2, 3, 5, 6, 7, 0, 4, 8]
@[reducible] def t4_16 : Ch := .or (.eff (9, [0, 4]) [] (.or (.eff (10, []) [11, 12, 13, 14, 15] (.eff (16, [0, 4, 8]) [17] (.eff (18, []) [19, 20] (.fin)))) (.eff (16, [0, 4, 8]) [] (.eff (10, []) [11, 12, 13, 14, 15, 17] (.eff (18, []) [19, 20] (.fin)))))) (.eff (16, [0, 4, 8]) [] (.eff (9, [0, 4]) [] (.eff (10, []) [11, 12, 13, 14, 15, 17] (.eff (18, []) [19, 20] (.fin)))))
theorem stepL_start {D : Df} {S : Sta} {a : Inp} (h0 : S.status = 0) (ha : a.kind = 1) : (stepL D S a).1 = 0 := by
  have : (stepR D a.now ⟨S, [], []⟩ a).1 = 0 := by
    unfold stepR
    rw [if_pos ha, if_neg (fun h => h h0)]
  unfold stepL
  rw [if_pos this]
  exact this
theorem stepL_cancel {D : Df} {S : Sta} {a : Inp} (h1 : S.status = 1) (ha : a.kind = 8) (ht : a.text.size ≤ 256) : (stepL D S a).1 = 0 ∧ (stepL D S a).2.S.status = 4 := by
  have : stepR D a.now ⟨S, [], []⟩ a = (0, cls D ⟨S, [], []⟩ 4 a.text) := by
    unfold stepR
    rw [if_neg (by omega), if_neg (show ¬ S.status = 0 by omega), if_neg (show ¬ S.status ≠ 1 by omega), if_neg (by omega), if_neg (by omega), if_neg (by omega), if_neg (by omega), if_pos ha, if_neg (by omega)]
  unfold stepL
  rw [if_pos (by rw [this]), this]
  obtain ⟨_, ts, he, _⟩ := cls_eq (D := D) (R := ⟨S, [], []⟩) (t := a.text) h1 (.inr (.inr rfl))
  rw [he]
  exact ⟨rfl, rfl⟩
theorem playL_status {D : Df} {p : Sta × List Ev} {a : Inp} (hD : DefOK D) (hg : Good D p.1) (h : 1 ≤ p.1.status) : 1 ≤ (playL D p a).1.status := by
  unfold playL
  split
  · rename_i h0
    exact (stepL_stp hD hg.ln h0).status.1
  · exact h
theorem playL_start {D : Df} {l : List Ev} {a : Inp} (hD : DefOK D) (ha : a.kind = 1) : 1 ≤ (playL D (sta0, l) a).1.status := by
  have h0 := stepL_start (D := D) (S := sta0) rfl ha
  unfold playL
  rw [if_pos h0]
  exact (stepL_stp hD (fun h => absurd h (by decide)) h0).status.1
theorem playL_cancel {D : Df} {p : Sta × List Ev} {a : Inp} (h : 1 ≤ p.1.status) (ha : a.kind = 8) (ht : a.text.size ≤ 256) : 2 ≤ (playL D p a).1.status := by
  unfold playL
  by_cases h1 : p.1.status = 1
  · obtain ⟨g1, g2⟩ := stepL_cancel (D := D) h1 ha ht
    rw [if_pos g1]
    show 2 ≤ (stepL D p.1 a).2.S.status
    omega
  · rw [if_neg (stepL_closed (by omega) h1)]
    omega
@[reducible] def inEnd : Inp := ⟨8, e0, e0, ⟨#[101, 110, 100]⟩, 0, 0, 0, e0, e0⟩
set_option maxRecDepth 100000 in
set_option maxHeartbeats 8000000 in
theorem ends4 (D : Df) (A : Option Addr) (cap : Nat) (iv : Value) (l : List Inp) (mo : Value) (m : List Inp) (w : World) (hc : D.nodes.length ≤ cap) (hd0 : RDf (Vw w []) (.agg #[.string D.name, .slice A D.nodes.length cap]) D) (hT : Texts D)
    (hi : RSl (Vw w []) iv l.length (l.flatMap Inp.c)) (hI : InOK l) (hmo : RSl (Vw w []) mo m.length (m.flatMap Inp.c)) (hI2 : InOK m) (hG : ∃ m, Vw w [] 0 0 (.int .i64 m)) :
    Ans 4 [.agg #[.string D.name, .slice A D.nodes.length cap], iv, mo] w (.bool true) := by
  obtain ⟨Ai, ci, rfl, hin⟩ := hi.open inp_len
  obtain ⟨Am, cm, rfl, hmn⟩ := hmo.open inp_len
  have hd := cut_rdf hd0
  have hTc := hT.cut
  have hG1 : ∀ w1 : World, (∀ b o v, Vw w [] b o v → Vw w1 [] b o v) → ∃ m, Vw w1 [] 0 0 (.int .i64 m) := fun w1 g => by obtain ⟨m, hm⟩ := hG; exact ⟨m, g _ _ _ hm⟩
  refine enter0 Try.func4 rfl Try.ntmps4 rfl ?_
  (repeat first|(with_reducible first|apply Za|apply Zb|apply Zc|apply Zd|apply Zi|apply Zs)|((with_reducible apply ZJ);rfl;rfl)|((with_reducible apply Zra);rfl;rfl;(focus (repeat constructor));rfl)|((with_reducible apply Zrf);rfl;rfl;intro _))
  refine SK.callA rfl rfl (fun w1 g1 _ => cut15 D A cap hc hT.2.1 w1 (hd0.mono g1)) ?_
  unfold cutV at hd ⊢
  generalize cutD D = E at hd hTc ⊢
  have hname : ∀ nm, nm = D.name → RDf (Vw w []) (.agg #[.string nm, .slice A E.nodes.length cap]) E → nm = E.name := by
    intro nm _ h
    obtain ⟨A', cap', he, _⟩ := h.nds
    have := congrArg (fun v => match v with | .agg a => (match a[0]? with | some (Value.string s) => some s | _ => none) | _ => none) he
    simpa using this
  have hnm := hname D.name rfl hd
  rw [hnm] at hd ⊢
  (repeat first|(with_reducible first|apply Za|apply Zb|apply Zc|apply Zd|apply Zi|apply Zs)|((with_reducible apply Zra);rfl;rfl;(focus (repeat constructor));rfl)|((with_reducible apply Zrc);rfl;rfl;rfl;exact List.cons_ne_nil _ _;(first|rfl|(repeat first|exact plain_nil|(refine plain_cons (by first|rfl|exact OwnD.plain_val _ _) ?_)));(focus (repeat constructor));rfl))
  refine SK.callO rfl rfl (fun w1 g1 _ => taken16 _ E w1 (hd.mono g1) hTc) ?_
  rintro bb htk
  cases bb with
  | false =>
    (repeat first|(with_reducible first|apply Za|apply Zb|apply Zc|apply Zd|apply Zi|apply Zs)|((with_reducible apply ZP);rfl;rfl)|((with_reducible apply ZC);rfl))
    refine SK.callA rfl rfl (fun w1 g1 _ => wakes17 w1 (hG1 w1 g1)) ?_
    (repeat first|(with_reducible first|apply Zc|apply Zd|apply Zi|apply Zk|apply Zp|apply Zs)|((with_reducible apply ZJ);rfl;rfl))
    exact SK.retQ rfl (by (repeat constructor)) (fun w' hm' => ⟨(), trivial, rfl, hm'.wk (by (repeat constructor))⟩)
  | true =>
    have hDO : DefOK E := (htk rfl).ok (fun n hn => (hTc.2.2 n hn).2.2.2)
    (repeat first|(with_reducible first|apply Za|apply Zb|apply Zc|apply Zd|apply Zi|apply Zo|apply Zs)|((with_reducible first|apply ZI|apply ZJ);rfl;rfl)|((with_reducible apply ZP);rfl;rfl)|((with_reducible apply Zqr);rfl;rfl;rfl)|((with_reducible apply Zra);rfl;rfl;(focus (repeat constructor));rfl)|((with_reducible apply Zrf);rfl;rfl;intro _)|((with_reducible apply ZD);rfl))
    have hp1 := playL_good (p := (sta0, [])) (a := inW1) hDO (good0 E) (by decide)
    have hs1 := playL_start (l := []) (a := inW1) hDO rfl
    rename_i b3 bp
    refine SK.call rfl rfl (plM bp E (.slice A E.nodes.length cap) sta0 [] ((none, none), none)) [some (b3, [.string E.name, .slice A E.nodes.length cap], 24)] (by (repeat constructor)) _ _ _ (fun w1 g0 g1 _ => input18 E (.slice A E.nodes.length cap) sta0 [] ((none, none), none) inW1 _ w1 hDO (good0 E) (by decide) (Nat.zero_le _) ⟨⟨⟨rfl, rfl⟩, ⟨rfl, rfl⟩⟩, ⟨rfl, rfl⟩⟩ (hd.mono g1) (by obtain ⟨m, hm⟩ := hG; exact ⟨m, g1 _ _ _ hm⟩) g0) (fun z1 hz1 => ?_)
    generalize playL E (sta0, []) inW1 = p1 at hp1 hs1 hz1 ⊢
    (repeat ((fail_if_success (with_reducible refine SK.atS 6 ?_)); first|(with_reducible first|apply Zd|apply Zi|apply Zs)))
    refine SK.seqJ (fun g : Sta × List Ev × ((OwnD × OwnD) × OwnD) => [(2, .slice Am m.length cm), (3, .pointer (some ⟨b3, 0, none⟩)), (7, .pointer (some ⟨bp, 0, none⟩))])
      (fun g => some (b3, [.string E.name, .slice A E.nodes.length cap], 24) :: plM bp E (.slice A E.nodes.length cap) g.1 g.2.1 g.2.2) (fun g => Good E g.1 ∧ OPl g.1 g.2.1 g.2.2 ∧ g.2.1.length ≤ 100000 * 61 ∧ 1 ≤ g.1.status) ?_ ?_
    · (repeat first|(with_reducible first|apply Za|apply Zb|apply Zc|apply Zd|apply Zi|apply Zr)|((with_reducible apply ZJ);rfl;rfl))
      refine SK.loopW (fun g : Nat × Sta × List Ev × ((OwnD × OwnD) × OwnD) => [(8, .int .i64 (g.1 : Int)), (1, .slice Ai l.length ci), (2, .slice Am m.length cm), (3, .pointer (some ⟨b3, 0, none⟩)), (7, .pointer (some ⟨bp, 0, none⟩))])
        (fun g => some (b3, [.string E.name, .slice A E.nodes.length cap], 24) :: plM bp E (.slice A E.nodes.length cap) g.2.1 g.2.2.1 g.2.2.2)
        (fun g => g.1 ≤ l.length ∧ g.1 ≤ 60 ∧ Good E g.2.1 ∧ OPl g.2.1 g.2.2.1 g.2.2.2 ∧ g.2.2.1.length ≤ 100000 * (g.1 + 1) ∧ 1 ≤ g.2.1.status) (fun g => l.length - g.1) (0, p1.1, p1.2, z1)
        ⟨Nat.zero_le _, Nat.zero_le _, hp1.1, hz1, by have := hp1.2; simp at this ⊢; omega, hs1⟩ (by (repeat constructor)) (by (repeat constructor)) ?_
      rintro ⟨i, S, ev, z⟩ ⟨hil, hi60, hgo, hz, hev, hst⟩
      dsimp only at hil hi60 hgo hz hev hst ⊢
      by_cases hlt : i < l.length
      · by_cases h60 : i < 60
        · obtain ⟨a, ha⟩ : ∃ a, l[i]? = some a := ⟨_, List.getElem?_eq_getElem hlt⟩
          obtain ⟨bi, oi, rfl, hcell⟩ := hin i a ha (by omega)
          obtain ⟨t1, t2⟩ := hI.2 a (List.mem_of_getElem? ha)
          have hna : (clipI a).name.size ≤ 1000 := by have := clipS_size a.name; show (clipS a.name).size ≤ 1000; omega
          obtain ⟨g3, g4⟩ := playL_good (p := (S, ev)) hDO hgo hna
          have g5 := playL_status (p := (S, ev)) (a := clipI a) hDO hgo hst
          (repeat first|(with_reducible first|apply Za|apply Zb|apply Zc|apply Zd|apply Zi|apply Zo|apply Zr)|((with_reducible refine Yz ?_);first|((with_reducible apply SK.indexAddr); rfl; rfl; rfl; exact hlt)|((with_reducible apply SK.loadAR); rfl; rfl; exact hcell; rfl)|((with_reducible first|apply ZI|apply ZM|apply ZO);rfl;rfl)|((with_reducible apply ZS);rfl;rfl;rfl;omega)|((with_reducible apply Zqo);rfl;rfl;rfl))|((with_reducible apply ZC);rfl))
          refine SK.callA rfl rfl (fun w1 _ _ => clip19 a w1 t1 t2) ?_
          (repeat first|(with_reducible first|apply Zc|apply Zs))
          refine SK.call rfl rfl (plM bp E (.slice A E.nodes.length cap) S ev z) [some (b3, [.string E.name, .slice A E.nodes.length cap], 24)] (by (repeat constructor)) _ _ _ (fun w1 g0 g1 _ => input18 E (.slice A E.nodes.length cap) S ev z (clipI a) bp w1 hDO hgo hna (by omega) hz (hd.mono g1) (by obtain ⟨m, hm⟩ := hG; exact ⟨m, g1 _ _ _ hm⟩) g0) (fun z' hz' => ?_)
          (repeat first|(with_reducible first|apply Zb|apply Zc|apply Zd|apply Zi|apply Zl|apply Zo|apply Zs)|((with_reducible first|apply ZI|apply ZJ);rfl;rfl)|((with_reducible apply ZP);rfl;rfl)|((with_reducible apply ZR);rfl;rfl;rfl;omega)|((with_reducible apply ZD);rfl))
          exact SK.roundW (i + 1, (playL E (S, ev) (clipI a)).1, (playL E (S, ev) (clipI a)).2, z') ⟨by omega, by omega, g3, hz', by dsimp only at g4 ⊢; omega, g5⟩ (by dsimp only; omega) (by (repeat constructor)) (by (repeat constructor))
        · (repeat first|(with_reducible first|apply Za|apply Zb|apply Zc|apply Zd|apply Zi|apply Zj|apply Zn|apply Zq)|((with_reducible first|apply ZI|apply ZM|apply ZO);rfl;rfl)|((with_reducible apply ZS);rfl;rfl;rfl;omega)|((with_reducible apply ZY);rfl;rfl;rfl;omega)|((with_reducible apply Zqo);rfl;rfl;rfl)|((with_reducible apply ZD);rfl))
          exact SK.jumped (S, ev, z) ⟨hgo, hz, by dsimp only; omega, hst⟩ (by (repeat constructor)) (by (repeat constructor))
      · (repeat first|(with_reducible first|apply Za|apply Zb|apply Zc|apply Zd|apply Zi|apply Zj|apply Zn|apply Zq)|((with_reducible first|apply ZI|apply ZM);rfl;rfl)|((with_reducible apply ZY);rfl;rfl;rfl;omega)|((with_reducible apply Zqs);rfl;rfl;rfl)|((with_reducible apply Zqx);rfl;rfl;rfl;rfl)|((with_reducible apply ZD);rfl))
        exact SK.jumped (S, ev, z) ⟨hgo, hz, by dsimp only; omega, hst⟩ (by (repeat constructor)) (by (repeat constructor))
    rintro ⟨S, ev, z⟩ ⟨hgo, hz, hev, hst⟩
    dsimp only at hgo hz hev hst ⊢
    (repeat first|(with_reducible first|apply Za|apply Zb|apply Zc)|((with_reducible apply ZI);rfl;rfl)|((with_reducible apply Zqr);rfl;rfl;rfl))
    have hp2 := playL_good (p := (S, ev)) (a := inEnd) hDO hgo (by decide)
    have hs2 := playL_cancel (D := E) (p := (S, ev)) (a := inEnd) hst rfl (by decide)
    refine SK.call rfl rfl (plM bp E (.slice A E.nodes.length cap) S ev z) [some (b3, [.string E.name, .slice A E.nodes.length cap], 24)] (by (repeat constructor)) _ _ _ (fun w1 g0 g1 _ => input18 E (.slice A E.nodes.length cap) S ev z inEnd bp w1 hDO hgo (by decide) (by omega) hz (hd.mono g1) (by obtain ⟨m, hm⟩ := hG; exact ⟨m, g1 _ _ _ hm⟩) g0) (fun z2 hz2 => ?_)
    generalize playL E (S, ev) inEnd = p2 at hp2 hs2 hz2 ⊢
    obtain ⟨S2, ev2⟩ := p2
    dsimp only at hp2 hs2 hz2 ⊢
    obtain ⟨hgo2, _⟩ := hp2
    have h2n : ¬ S2.status < 2 := by omega
    (repeat ((fail_if_success (with_reducible refine SK.atS 13 ?_)); first|(with_reducible first|apply Zc|apply Zd|apply Zi|apply Zo|apply Zs)|((with_reducible apply ZP);rfl;rfl)|((with_reducible apply ZD);rfl)))
    refine SK.seqJ (fun _ : Unit => [(7, .pointer (some ⟨bp, 0, none⟩))]) (fun _ => plM bp E (.slice A E.nodes.length cap) S2 ev2 z2) (fun _ => True) ?_ ?_
    · (repeat first|(with_reducible first|apply Za|apply Zb|apply Zc|apply Zd|apply Zi|apply Zr)|((with_reducible apply ZJ);rfl;rfl))
      refine SK.loopW (fun i : Nat => [(9, .int .i64 (i : Int)), (2, .slice Am m.length cm), (3, .pointer (some ⟨b3, 0, none⟩)), (7, .pointer (some ⟨bp, 0, none⟩))])
        (fun _ => some (b3, [.string E.name, .slice A E.nodes.length cap], 24) :: plM bp E (.slice A E.nodes.length cap) S2 ev2 z2)
        (fun i => i ≤ m.length ∧ i ≤ 20) (fun i => m.length - i) 0 ⟨Nat.zero_le _, by decide⟩ (by (repeat constructor)) (by (repeat constructor)) ?_
      rintro i ⟨hil, hi20⟩
      by_cases hlt : i < m.length
      · by_cases h60 : i < 20
        · obtain ⟨a, ha⟩ : ∃ a, m[i]? = some a := ⟨_, List.getElem?_eq_getElem hlt⟩
          obtain ⟨bi, oi, rfl, hcell⟩ := hmn i a ha (by omega)
          obtain ⟨t1, t2⟩ := hI2.2 a (List.mem_of_getElem? ha)
          have hna : (clipI a).name.size ≤ 1000 := by have := clipS_size a.name; show (clipS a.name).size ≤ 1000; omega
          have hst1 : ∀ w1 : World, RDf (Vw w1 []) (.agg #[.string E.name, .slice A E.nodes.length cap]) E → RSt (Vw w1 []) (stV S2 z2.1) S2 → (∃ m, Vw w1 [] 0 0 (.int .i64 m)) → _ := fun w1 h1 h2 h3 => step20 _ _ E S2 (clipI a) w1 hDO hgo2 hna h1 h2 h3
          have he := stepL_closed (D := E) (S := S2) (a := clipI a) (by omega) (by omega)
          have hr := stepL_err he
          generalize stepL E S2 (clipI a) = r at he hr hst1
          obtain ⟨e, R⟩ := r
          dsimp only at he hr
          subst hr
          obtain ⟨⟨zN, zS⟩, zL⟩ := z2
          obtain ⟨⟨hzN, hzS⟩, hzL⟩ := id hz2
          dsimp only at hzN hzS hzL
          (repeat ((fail_if_success (with_reducible refine SK.atR 16 ?_)); first|(with_reducible first|apply Za|apply Zb|apply Zc|apply Zd|apply Zi|apply Zo|apply Zr)|((with_reducible first|apply ZI|apply ZM|apply ZO);rfl;rfl)|((with_reducible apply ZS);rfl;rfl;rfl;omega)|((with_reducible apply Zqo);rfl;rfl;rfl)|((with_reducible apply ZC);rfl)))
          refine SK.seqJ (fun y : Y4 => [(10, y.2.1.val 0), (12, y.2.2.val 0), (13, .int .i64 e), (9, .int .i64 (i : Int)), (2, .slice (some ⟨bi, oi, none⟩) m.length cm), (3, .pointer (some ⟨b3, 0, none⟩)), (7, .pointer (some ⟨bp, 0, none⟩))])
            (fun _ => some (b3, [.string E.name, .slice A E.nodes.length cap], 24) :: plM bp E (.slice A E.nodes.length cap) S2 ev2 ((zN, zS), zL)) (fun y => ORn rn0 y) ?_ ?_
          · (repeat first|(with_reducible apply Zf)|((with_reducible refine Yz ?_);first|((with_reducible apply SK.indexAddr); rfl; rfl; rfl; exact hlt)|((with_reducible apply SK.loadAR); rfl; rfl; exact hcell; rfl)|((with_reducible first|apply ZI|apply ZK|apply ZN);rfl;rfl)|((with_reducible apply Zra);rfl;rfl;(focus (repeat constructor));rfl))|((with_reducible apply ZA);rfl)|refine Yd 16 o4_16 t4_16 (by kernel_rfl) ?_)
            refine SK.orC ?_ ?_
            · (repeat first|(with_reducible apply Zh)|((with_reducible apply Zz);rfl))
              refine SK.callA rfl rfl (fun w1 _ _ => clip19 a w1 t1 t2) ?_
              (repeat first|(with_reducible first|apply Zf|apply Zs)|((with_reducible apply ZF);rfl;infer_instance;rfl;(focus (repeat constructor));rfl;rfl))
              refine SK.orC ?_ ?_
              · (repeat first|(with_reducible apply Zh)|((with_reducible apply Zz);rfl))
                refine SK.callO rfl rfl (fun w1 g1 g2 => hst1 w1 (hd.mono g1) (RSt.own hzN hzS (fun b cs hb j u hu => g2 b cs _ (by rw [← hb]; (repeat constructor)) j u hu) (fun b cs hb j u hu => g2 b cs _ (by rw [← hb]; (repeat constructor)) j u hu)) (by obtain ⟨m, hm⟩ := hG; exact ⟨m, g1 _ _ _ hm⟩)) ?_
                intro y hy
                (repeat first|(with_reducible first|apply Zf|apply Zg|apply Zh|apply Zi|apply Zs)|((with_reducible first|apply ZI|apply ZJ);rfl;rfl)|((with_reducible apply Zqn);rfl;rfl;rfl)|((with_reducible apply Zrc);rfl;rfl;rfl;exact List.cons_ne_nil _ _;(first|rfl|(repeat first|exact plain_nil|(refine plain_cons (by first|rfl|exact OwnD.plain_val _ _) ?_)));(focus (repeat constructor));rfl)|((with_reducible apply Zrg);rfl;intro _)|((with_reducible first|apply Zz|apply ZA);rfl)|((with_reducible apply ZF);rfl;infer_instance;rfl;(focus (repeat constructor));rfl;rfl)|((with_reducible apply SK.chkAR); rfl; infer_instance; rfl; exact hcell; rfl; rfl))
                exact SK.jumped y hy (by (repeat constructor)) (by (repeat constructor))
              · (repeat first|(with_reducible first|apply Zf|apply Zh|apply Zs)|((with_reducible apply Zrg);rfl;intro _)|((with_reducible apply Zz);rfl)|((with_reducible apply ZF);rfl;infer_instance;rfl;(focus (repeat constructor));rfl;rfl)|((with_reducible apply SK.chkAR); rfl; infer_instance; rfl; exact hcell; rfl; rfl))
                refine SK.callO rfl rfl (fun w1 g1 g2 => hst1 w1 (hd.mono g1) (RSt.own hzN hzS (fun b cs hb j u hu => g2 b cs _ (by rw [← hb]; (repeat constructor)) j u hu) (fun b cs hb j u hu => g2 b cs _ (by rw [← hb]; (repeat constructor)) j u hu)) (by obtain ⟨m, hm⟩ := hG; exact ⟨m, g1 _ _ _ hm⟩)) ?_
                intro y hy
                (repeat first|(with_reducible first|apply Zf|apply Zg|apply Zh|apply Zi|apply Zs)|((with_reducible first|apply ZI|apply ZJ);rfl;rfl)|((with_reducible apply Zqn);rfl;rfl;rfl)|((with_reducible apply Zrc);rfl;rfl;rfl;exact List.cons_ne_nil _ _;(first|rfl|(repeat first|exact plain_nil|(refine plain_cons (by first|rfl|exact OwnD.plain_val _ _) ?_)));(focus (repeat constructor));rfl)|((with_reducible first|apply Zz|apply ZA);rfl))
                exact SK.jumped y hy (by (repeat constructor)) (by (repeat constructor))
            · (repeat first|(with_reducible first|apply Zf|apply Zh|apply Zs)|((with_reducible apply Zrg);rfl;intro _)|((with_reducible apply Zz);rfl)|((with_reducible apply ZF);rfl;infer_instance;rfl;(focus (repeat constructor));rfl;rfl)|((with_reducible apply SK.chkAR); rfl; infer_instance; rfl; exact hcell; rfl; rfl))
              refine SK.callA rfl rfl (fun w1 _ _ => clip19 a w1 t1 t2) ?_
              (repeat first|(with_reducible first|apply Zf|apply Zh|apply Zs)|((with_reducible apply Zz);rfl)|((with_reducible apply ZF);rfl;infer_instance;rfl;(focus (repeat constructor));rfl;rfl))
              refine SK.callO rfl rfl (fun w1 g1 g2 => hst1 w1 (hd.mono g1) (RSt.own hzN hzS (fun b cs hb j u hu => g2 b cs _ (by rw [← hb]; (repeat constructor)) j u hu) (fun b cs hb j u hu => g2 b cs _ (by rw [← hb]; (repeat constructor)) j u hu)) (by obtain ⟨m, hm⟩ := hG; exact ⟨m, g1 _ _ _ hm⟩)) ?_
              intro y hy
              (repeat first|(with_reducible first|apply Zf|apply Zg|apply Zh|apply Zi|apply Zs)|((with_reducible first|apply ZI|apply ZJ);rfl;rfl)|((with_reducible apply Zqn);rfl;rfl;rfl)|((with_reducible apply Zrc);rfl;rfl;rfl;exact List.cons_ne_nil _ _;(first|rfl|(repeat first|exact plain_nil|(refine plain_cons (by first|rfl|exact OwnD.plain_val _ _) ?_)));(focus (repeat constructor));rfl)|((with_reducible first|apply Zz|apply ZA);rfl))
              exact SK.jumped y hy (by (repeat constructor)) (by (repeat constructor))
          rintro ⟨yS, yE, yT⟩ ⟨_, hyE, hyT⟩
          dsimp only at hyE hyT ⊢
          obtain ⟨A1, c1, hv1⟩ := val_sl hyE
          obtain ⟨A2, c2, hv2⟩ := val_sl hyT
          have hv1 : yE.val 0 = .slice A1 0 c1 := hv1
          have hv2 : yT.val 0 = .slice A2 0 c2 := hv2
          rw [hv1, hv2]
          (repeat first|(with_reducible first|apply Za|apply Zb|apply Zc|apply Zd|apply Zi|apply Zl|apply Zo)|((with_reducible first|apply ZI|apply ZJ|apply ZM|apply ZO);rfl;rfl)|((with_reducible apply ZR);rfl;rfl;rfl;omega)|((with_reducible first|apply Zqc|apply Zqd);rfl;rfl;rfl;omega)|((with_reducible apply Zqs);rfl;rfl;rfl)|((with_reducible apply ZD);rfl))
          exact SK.roundW (i + 1) ⟨by omega, by omega⟩ (by omega) (by (repeat constructor)) (by (repeat constructor))
        · (repeat first|(with_reducible first|apply Za|apply Zb|apply Zc|apply Zd|apply Zi|apply Zj|apply Zn|apply Zq)|((with_reducible first|apply ZI|apply ZM|apply ZO);rfl;rfl)|((with_reducible apply ZS);rfl;rfl;rfl;omega)|((with_reducible apply ZY);rfl;rfl;rfl;omega)|((with_reducible apply Zqo);rfl;rfl;rfl)|((with_reducible apply ZD);rfl))
          exact SK.jumped () trivial (by (repeat constructor)) (by (repeat constructor))
      · (repeat first|(with_reducible first|apply Za|apply Zb|apply Zc|apply Zd|apply Zi|apply Zj|apply Zn|apply Zq)|((with_reducible first|apply ZI|apply ZM);rfl;rfl)|((with_reducible apply ZY);rfl;rfl;rfl;omega)|((with_reducible apply Zqs);rfl;rfl;rfl)|((with_reducible apply Zqx);rfl;rfl;rfl;rfl)|((with_reducible apply ZD);rfl))
        exact SK.jumped () trivial (by (repeat constructor)) (by (repeat constructor))
    rintro _ _
    (repeat first|(with_reducible first|apply Za|apply Zb|apply Zc)|((with_reducible first|apply ZI|apply ZK|apply ZN|apply ZO);rfl;rfl)|((with_reducible apply ZV);rfl;rfl;rfl;omega)|((with_reducible apply Zqm);rfl;rfl;rfl)|((with_reducible apply Zqz);rfl;rfl;(focus (repeat constructor));rfl))
    refine SK.callA rfl rfl (fun w1 g1 _ => wakes17 w1 (hG1 w1 g1)) ?_
    (repeat first|(with_reducible first|apply Zc|apply Zd|apply Zi|apply Zp|apply Zs)|((with_reducible apply ZJ);rfl;rfl)|((with_reducible apply Zqo);rfl;rfl;rfl))
    exact SK.retQ rfl (by (repeat constructor)) (fun w' hm' => ⟨(), trivial, rfl, hm'.wk (by (repeat constructor))⟩)
open Go.ChangeShapes Go.WideShapes Go.ChangeAt Go.RowKit
set_option maxRecDepth 100000 in
set_option maxHeartbeats 4000000 in
theorem historyEnds_lifted (os : Os) (started : os.Started) (H : Type) (enc : TypeId × Value → H) :
    ReturnsInHanded {} Try.checked os 4 .any (Rows.historyEndsSpec.pre6 enc Try.prog Try.f4 Rows.historyEndsRow.domain false) (Rows.historyEndsSpec.post enc Try.prog Try.f4 false true false false) := by
  refine returnsInHanded_of_change_shaped (C := Try.checked) Try.own started (by kernel_rfl) Try.func4
    (ChangeSpec.witness6 (enc := enc) (C := Try.checked) false ⟨#[], #[.agg #[.string ⟨#[]⟩, .slice none 0 0], .slice none 0 0, .slice none 0 0], []⟩ 8 (by kernel_rfl) (by kernel_rfl) (by kernel_rfl) (by kernel_rfl)) ?_
  intro W base args ds gs before hval0 hW hcnd0 hsz0 hsh _
  have hsz : (DataW.weightsEach Try.prog (Try.f4.params.toList ++ Rows.historyEndsSpec.plain.varTypes Try.prog) (ds ++ gs)).all (· ≤ reachBytes) = true := hsz0
  have hval : ∀ (j : Nat) t v, Try.f4.params[j]? = some t → args[j]? = some v → Value.okWide Try.prog W .any base t v := hval0
  have hW' := hW
  obtain ⟨p, q, hA0, hV, rfl, hfz, hnd⟩ := hW
  have hA : DataW.TrodAll enc Try.prog W 0 (fun _ => true) true Try.f4.params.toList args.toList ds p := hA0
  rw [Try.params4] at hA hval hsz
  obtain ⟨v0, v1, v2, d0, d1, d2, p0, p1, p2, rfl, rfl, rfl, h0, h1, h2⟩ := trodAll_three hA
  obtain ⟨rfl, rfl⟩ := trodVars_none hV
  have hlt := hW'.lt
  have hw0 : ∀ n ∈ d0.weights Try.prog 24, n ≤ reachBytes := fun n hn => by
    have := List.all_eq_true.1 hsz n (DataW.weights_mem_each (j := 0) rfl rfl n hn)
    simpa using this
  have hw1 : ∀ n ∈ d1.weights Try.prog 25, n ≤ reachBytes := fun n hn => by
    have := List.all_eq_true.1 hsz n (DataW.weights_mem_each (j := 1) rfl rfl n hn)
    simpa using this
  have hw2 : ∀ n ∈ d2.weights Try.prog 25, n ≤ reachBytes := fun n hn => by
    have := List.all_eq_true.1 hsz n (DataW.weights_mem_each (j := 2) rfl rfl n hn)
    simpa using this
  have hR : reachBytes < 9223372036854775807 := by decide
  obtain ⟨f0, t0⟩ := id h0
  have ok0 := hval 0 24 v0 rfl rfl
  unfold Value.okWide at ok0
  rw [Try.underlying24] at ok0
  obtain ⟨cs0, rfl, _, _⟩ := ok0
  obtain ⟨D, A, cap, e0, hcap, hrd, hT⟩ := open24 t0 hw0 hR
  have e0' : cs0 = #[.string D.name, .slice A D.nodes.length cap] := Array.ext' e0
  subst e0'
  obtain ⟨f1, t1⟩ := id h1
  obtain ⟨a1, len1, cap1, rfl⟩ := okWide_slice Try.underlying25 (hval 1 25 v1 rfl rfl)
  obtain ⟨c1, l1, e1, hrl1, hI1⟩ := open25 t1 hw1 hR
  have e1' : c1 = .slice a1 len1 cap1 := by
    have : ([Value.slice a1 len1 cap1] : List Value) = [c1] := e1
    exact (List.cons.inj this).1.symm
  subst e1'
  obtain ⟨f2, t2⟩ := id h2
  obtain ⟨a2, len2, cap2, rfl⟩ := okWide_slice Try.underlying25 (hval 2 25 v2 rfl rfl)
  obtain ⟨c2, l2, e2, hrl2, hI2⟩ := open25 t2 hw2 hR
  have e2' : c2 = .slice a2 len2 cap2 := by
    have : ([Value.slice a2 len2 cap2] : List Value) = [c2] := e2
    exact (List.cons.inj this).1.symm
  subst e2'
  obtain ⟨m, hm⟩ := Try.laysM144.s1_3 W hsh
  have hrun := ends4 D A cap _ l1 _ l2 W hcap (hrd.mono fun b o v h => Cw.vw h) hT (hrl1.mono fun b o v h => Cw.vw h) hI1 (hrl2.mono fun b o v h => Cw.vw h) hI2 ⟨m, Cw.vw hm⟩
  refine Calls.mono hrun fun e W' ⟨_, _, he, hmem⟩ => ?_
  have hb := Mem.below hmem
  subst he
  have r0 := Below.trod Try.laidOut (ty_ok 24 (by kernel_rfl) (by kernel_rfl)).1 (ty_ok 24 (by kernel_rfl) (by kernel_rfl)).2 h0 hb (fun x hx => hlt x (by simp [hx]))
  have r1 := Below.trod Try.laidOut (ty_ok 25 (by kernel_rfl) (by kernel_rfl)).1 (ty_ok 25 (by kernel_rfl) (by kernel_rfl)).2 h1 hb (fun x hx => hlt x (by simp [hx]))
  have r2 := Below.trod Try.laidOut (ty_ok 25 (by kernel_rfl) (by kernel_rfl)).1 (ty_ok 25 (by kernel_rfl) (by kernel_rfl)).2 h2 hb (fun x hx => hlt x (by simp [hx]))
  exact ⟨_, rfl, ⟨_, _, _, [], _, [], hW', trodAll_mk1 (shut_bool Try.underlying4 _), trodAll_mk3 r0 r1 r2, rfl, hb.frame _, fun h => by cases h⟩⟩
theorem HistoryEnds_holds : Rows.HistoryEndsSaid :=
  OpenClaim.holds_of_wide 4 Try.f4 rfl rfl rfl rfl rfl rfl rfl ⟨rfl, rfl, rfl, rfl, rfl⟩ rfl rfl rfl rfl rfl (by kernel_rfl) Try.func4 (by kernel_rfl)
    (of_decide_eq_true (by kernel_rfl)) (by unfold Func.isWrapper; rw [if_neg (of_decide_eq_false (by kernel_rfl))]; exact ⟨rfl, rfl⟩)
    (fun os started H enc _ => historyEnds_lifted os started H enc)
#print axioms HistoryEnds_holds
end Go.Proofs.Ytdnjfmgldkommaa
