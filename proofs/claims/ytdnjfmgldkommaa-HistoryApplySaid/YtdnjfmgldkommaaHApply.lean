/- Proved here: Any event fits a state, or it is refused, and the state is as it was. -/
import Derived.Test.YtdnjfmgldkommaaFe
import Derived.Test.YtdnjfmgldkommaaLd
import Derived.Test.YtdnjfmgldkommaaQa
import Derived.Test.YtdnjfmgldkommaaLc
import Derived.Test.YtdnjfmgldkommaaRows
import Derived.HandedShaped
import Derived.Carry
import Derived.Test.YtdnjfmgldkommaaWd
namespace Go.Proofs.Ytdnjfmgldkommaa
open Go.Sx
@[reducible] def o12_14 : List Nat := [2, 3, 4, 0, 1, 5]
@[reducible] def t12_14 : Ch := .or (.eff (6, []) [7, 8, 9] (.eff (10, [0, 1, 5]) [] (.eff (11, []) [12] (.fin)))) (.eff (10, [0, 1, 5]) [] (.eff (6, []) [7, 8, 9] (.eff (11, []) [12] (.fin))))
@[reducible] def o12_15 : List Nat := [2, 3, 4, 0, 1, 5]
@[reducible] def t12_15 : Ch := .or (.eff (6, []) [7, 8, 9] (.eff (10, [0, 1, 5]) [] (.eff (11, []) [12] (.fin)))) (.eff (10, [0, 1, 5]) [] (.eff (6, []) [7, 8, 9] (.eff (11, []) [12] (.fin))))
theorem foldE_small {D : Df} (hD : D.nodes.length ≤ 64) : ∀ (l : List Ev) (S T : Sta), foldE D S l = some T → S.nodes.length ≤ 64 → T.nodes.length ≤ 64 ∧ T.sigs.length ≤ S.sigs.length + l.length
  | [], S, T, h, hn => by cases h; exact ⟨hn, Nat.le_add_right _ _⟩
  | e :: l, S, T, h, hn => by
    simp only [foldE] at h
    cases ha : applyL D S e with
    | none => rw [ha] at h; cases h
    | some U =>
      rw [ha] at h
      obtain ⟨_, _, _, h4, h5⟩ := applyL_keeps ha
      have hU : U.nodes.length ≤ 64 := by rcases h5 with h5 | h5 <;> omega
      obtain ⟨g1, g2⟩ := foldE_small hD l U T h hU
      exact ⟨g1, by simp only [List.length_cons]; omega⟩
theorem foldA_small {D : Df} (hD : D.nodes.length ≤ 64) (id : ByteArray) (l : List Ev) : (foldA D id l).nodes.length ≤ 64 ∧ (foldA D id l).sigs.length ≤ l.length := by
  unfold foldA
  cases h : foldE D { sta0 with id := id } l with
  | none => exact ⟨Nat.zero_le _, Nat.zero_le _⟩
  | some T =>
    have := foldE_small hD l _ T h (Nat.zero_le _)
    simpa using this
theorem ev_take {V : View} {A : Option Addr} {cap : Nat} {l : List Ev} (h : RSl V (.slice A l.length cap) l.length (l.flatMap Ev.c)) (k : Nat) : RSl V (.slice A (l.take k).length cap) (l.take k).length ((l.take k).flatMap Ev.c) := by
  obtain ⟨A', cap', he, h2⟩ := h
  cases he
  refine ⟨A, cap, rfl, ?_⟩
  have hpre : l.flatMap Ev.c = (l.take k).flatMap Ev.c ++ (l.drop k).flatMap Ev.c := by
    rw [← List.flatMap_append, List.take_append_drop]
  rcases h2 with h2 | ⟨b, o, h3, h4⟩
  · rw [hpre] at h2
    exact .inl (List.append_eq_nil_iff.1 h2).1
  · refine .inr ⟨b, o, h3, fun j u hu => h4 j u ?_⟩
    rw [hpre, List.getElem?_append_left (List.getElem?_eq_some_iff.1 hu).1]
    exact hu
set_option maxRecDepth 100000 in
set_option maxHeartbeats 16000000 in
theorem apply12 (D : Df) (A : Option Addr) (cap : Nat) (iv : Value) (ins : List Inp) (lv : Value) (l : List Ev) (w : World) (hc : D.nodes.length ≤ cap) (hd0 : RDf (Vw w []) (.agg #[.string D.name, .slice A D.nodes.length cap]) D) (hT : Texts D)
    (hi : RSl (Vw w []) iv ins.length (ins.flatMap Inp.c)) (hI : InOK ins) (hl : RSl (Vw w []) lv l.length (l.flatMap Ev.c)) (hL : EvOK lv l) (hG : ∃ m, Vw w [] 0 0 (.int .i64 m)) :
    Ans 12 [.agg #[.string D.name, .slice A D.nodes.length cap], iv, lv] w (.bool true) := by
  obtain ⟨Ai, ci, rfl, hin⟩ := hi.open inp_len
  obtain ⟨Al, cl, rfl, hev⟩ := hl.open ev_len
  obtain ⟨hll, hlc⟩ := hL
  have hlc := hlc _ _ _ rfl
  have hd := cut_rdf hd0
  have hTc := hT.cut
  have hG1 : ∀ w1 : World, (∀ b o v, Vw w [] b o v → Vw w1 [] b o v) → ∃ m, Vw w1 [] 0 0 (.int .i64 m) := fun w1 g => by obtain ⟨m, hm⟩ := hG; exact ⟨m, g _ _ _ hm⟩
  refine enter0 Try.func12 rfl Try.ntmps12 rfl ?_
  (repeat first|(with_reducible first|apply Za|apply Zb|apply Zc|apply Zd|apply Zi|apply Zs)|((with_reducible apply ZJ);rfl;rfl)|((with_reducible apply Zra);rfl;rfl;(focus (repeat constructor));rfl)|((with_reducible apply Zrf);rfl;rfl;intro _))
  refine SK.callA rfl rfl (fun w1 g1 _ => cut15 D A cap hc hT.2.1 w1 (hd0.mono g1)) ?_
  unfold cutV at hd ⊢
  generalize cutD D = E at hd hTc ⊢
  have hname : ∀ nm, nm = D.name → RDf (Vw w []) (.agg #[.string nm, .slice A E.nodes.length cap]) E → nm = E.name := by
    intro nm _ h
    obtain ⟨A', cap', he, _⟩ := h.nds
    have := congrArg (fun v => match v with | .agg a => (match a[0]? with | some (Value.string s) => some s | _ => none) | _ => none) he
    simpa using this
  have hnm := hname D.name rfl hd
  rw [hnm] at hd ⊢
  (repeat first|(with_reducible first|apply Za|apply Zb|apply Zc|apply Zd|apply Zi|apply Zs)|((with_reducible apply Zra);rfl;rfl;(focus (repeat constructor));rfl)|((with_reducible apply Zrc);rfl;rfl;rfl;exact List.cons_ne_nil _ _;(first|rfl|(repeat first|exact plain_nil|(refine plain_cons (by first|rfl|exact OwnD.plain_val _ _) ?_)));(focus (repeat constructor));rfl))
  refine SK.callO rfl rfl (fun w1 g1 _ => taken16 _ E w1 (hd.mono g1) hTc) ?_
  rintro bb htk
  cases bb with
  | false =>
    (repeat first|(with_reducible first|apply Za|apply Zb|apply Zc|apply Zd|apply Zi|apply Zs)|((with_reducible apply ZP);rfl;rfl)|((with_reducible apply ZC);rfl))
    refine SK.callA rfl rfl (fun w1 g1 _ => wakes17 w1 (hG1 w1 g1)) ?_
    (repeat first|(with_reducible first|apply Zc|apply Zd|apply Zi|apply Zk|apply Zp|apply Zs)|((with_reducible apply ZJ);rfl;rfl))
    exact SK.retQ rfl (by (repeat constructor)) (fun w' hm' => ⟨(), trivial, rfl, hm'.wk (by (repeat constructor))⟩)
  | true =>
    have hDO : DefOK E := (htk rfl).ok (fun n hn => (hTc.2.2 n hn).2.2.2)
    have hTr : Tries E := (htk rfl).tries
    have hdn : E.nodes.length ≤ 64 := by have := hDO.le; omega
    (repeat ((fail_if_success (with_reducible refine SK.atS 5 ?_)); first|(with_reducible first|apply Za|apply Zb|apply Zc|apply Zd|apply Zi|apply Zo|apply Zs)|((with_reducible apply ZJ);rfl;rfl)|((with_reducible apply ZP);rfl;rfl)|((with_reducible apply Zqr);rfl;rfl;rfl)|((with_reducible apply Zra);rfl;rfl;(focus (repeat constructor));rfl)|((with_reducible apply Zrf);rfl;rfl;intro _)|((with_reducible apply ZD);rfl)))
    rename_i b3 bp
    refine SK.seqJ (fun g : Sta × List Ev × ((OwnD × OwnD) × OwnD) => [(2, .slice Al l.length cl), (3, .pointer (some ⟨b3, 0, none⟩)), (7, .pointer (some ⟨bp, 0, none⟩))])
      (fun g => some (b3, [.string E.name, .slice A E.nodes.length cap], 24) :: plM bp E (.slice A E.nodes.length cap) g.1 g.2.1 g.2.2) (fun g => Good E g.1 ∧ OPl g.1 g.2.1 g.2.2 ∧ WS E g.1) ?_ ?_
    · (repeat first|(with_reducible first|apply Za|apply Zb|apply Zc|apply Zd|apply Zi|apply Zr)|((with_reducible apply ZJ);rfl;rfl))
      refine SK.loopW (fun g : Nat × Sta × List Ev × ((OwnD × OwnD) × OwnD) => [(8, .int .i64 (g.1 : Int)), (1, .slice Ai ins.length ci), (2, .slice Al l.length cl), (3, .pointer (some ⟨b3, 0, none⟩)), (7, .pointer (some ⟨bp, 0, none⟩))])
        (fun g => some (b3, [.string E.name, .slice A E.nodes.length cap], 24) :: plM bp E (.slice A E.nodes.length cap) g.2.1 g.2.2.1 g.2.2.2)
        (fun g => g.1 ≤ ins.length ∧ g.1 ≤ 20 ∧ Good E g.2.1 ∧ OPl g.2.1 g.2.2.1 g.2.2.2 ∧ g.2.2.1.length ≤ 100000 * g.1 ∧ WS E g.2.1) (fun g => ins.length - g.1) (0, sta0, [], ((none, none), none))
        ⟨Nat.zero_le _, Nat.zero_le _, good0 E, ⟨⟨⟨rfl, rfl⟩, ⟨rfl, rfl⟩⟩, ⟨rfl, rfl⟩⟩, Nat.zero_le _, ws0 E⟩ (by (repeat constructor)) (by (repeat constructor)) ?_
      rintro ⟨i, S, ev, z⟩ ⟨hil, hi20, hgo, hz, hevl, hws⟩
      dsimp only at hil hi20 hgo hz hevl hws ⊢
      by_cases hlt : i < ins.length
      · by_cases h20 : i < 20
        · obtain ⟨a, ha⟩ : ∃ a, ins[i]? = some a := ⟨_, List.getElem?_eq_getElem hlt⟩
          obtain ⟨bi, oi, rfl, hcell⟩ := hin i a ha (by omega)
          obtain ⟨t1, t2⟩ := hI.2 a (List.mem_of_getElem? ha)
          have hna : (clipI a).name.size ≤ 1000 := by have := clipS_size a.name; show (clipS a.name).size ≤ 1000; omega
          obtain ⟨g3, g4⟩ := playL_good (p := (S, ev)) hDO hgo hna
          have g5 := playL_ws (p := (S, ev)) (a := clipI a) hDO hTr hws
          (repeat first|(with_reducible first|apply Za|apply Zb|apply Zc|apply Zd|apply Zi|apply Zo|apply Zr)|((with_reducible refine Yz ?_);first|((with_reducible apply SK.indexAddr); rfl; rfl; rfl; exact hlt)|((with_reducible apply SK.loadAR); rfl; rfl; exact hcell; rfl)|((with_reducible first|apply ZI|apply ZM|apply ZO);rfl;rfl)|((with_reducible apply ZS);rfl;rfl;rfl;omega)|((with_reducible apply Zqo);rfl;rfl;rfl))|((with_reducible apply ZC);rfl))
          refine SK.callA rfl rfl (fun w1 _ _ => clip19 a w1 t1 t2) ?_
          (repeat first|(with_reducible first|apply Zc|apply Zs))
          refine SK.call rfl rfl (plM bp E (.slice A E.nodes.length cap) S ev z) [some (b3, [.string E.name, .slice A E.nodes.length cap], 24)] (by (repeat constructor)) _ _ _ (fun w1 g0 g1 _ => input18 E (.slice A E.nodes.length cap) S ev z (clipI a) bp w1 hDO hgo hna (by omega) hz (hd.mono g1) (by obtain ⟨m, hm⟩ := hG; exact ⟨m, g1 _ _ _ hm⟩) g0) (fun z' hz' => ?_)
          (repeat first|(with_reducible first|apply Zb|apply Zc|apply Zd|apply Zi|apply Zl|apply Zo|apply Zs)|((with_reducible first|apply ZI|apply ZJ);rfl;rfl)|((with_reducible apply ZP);rfl;rfl)|((with_reducible apply ZR);rfl;rfl;rfl;omega)|((with_reducible apply ZD);rfl))
          exact SK.roundW (i + 1, (playL E (S, ev) (clipI a)).1, (playL E (S, ev) (clipI a)).2, z') ⟨by omega, by omega, g3, hz', by dsimp only at g4 ⊢; omega, g5⟩ (by dsimp only; omega) (by (repeat constructor)) (by (repeat constructor))
        · (repeat first|(with_reducible first|apply Za|apply Zb|apply Zc|apply Zd|apply Zi|apply Zj|apply Zn|apply Zq)|((with_reducible first|apply ZI|apply ZM|apply ZO);rfl;rfl)|((with_reducible apply ZS);rfl;rfl;rfl;omega)|((with_reducible apply ZY);rfl;rfl;rfl;omega)|((with_reducible apply Zqo);rfl;rfl;rfl)|((with_reducible apply ZD);rfl))
          exact SK.jumped (S, ev, z) ⟨hgo, hz, hws⟩ (by (repeat constructor)) (by (repeat constructor))
      · (repeat first|(with_reducible first|apply Za|apply Zb|apply Zc|apply Zd|apply Zi|apply Zj|apply Zn|apply Zq)|((with_reducible first|apply ZI|apply ZM);rfl;rfl)|((with_reducible apply ZY);rfl;rfl;rfl;omega)|((with_reducible apply Zqs);rfl;rfl;rfl)|((with_reducible apply Zqx);rfl;rfl;rfl;rfl)|((with_reducible apply ZD);rfl))
        exact SK.jumped (S, ev, z) ⟨hgo, hz, hws⟩ (by (repeat constructor)) (by (repeat constructor))
    rintro ⟨S0, ev0, ⟨⟨zN, zS⟩, zL⟩⟩ ⟨hgo0, hz0, hws0⟩
    dsimp only at hgo0 hz0 hws0 ⊢
    obtain ⟨⟨hzN, hzS⟩, hzL⟩ := hz0
    dsimp only at hzN hzS
    (repeat ((fail_if_success (with_reducible refine SK.atS 11 ?_)); first|(with_reducible first|apply Za|apply Zb|apply Zc|apply Zd|apply Zi|apply Zs)|((with_reducible first|apply ZI|apply ZK|apply ZN);rfl;rfl)|((with_reducible apply Zra);rfl;rfl;(focus (repeat constructor));rfl)|((with_reducible apply Zrc);rfl;rfl;rfl;exact List.cons_ne_nil _ _;(first|rfl|(repeat first|exact plain_nil|(refine plain_cons (by first|rfl|exact OwnD.plain_val _ _) ?_)));(focus (repeat constructor));rfl)|((with_reducible apply Zrg);rfl;intro _)))
    rename_i b9
    refine SK.seqJ (fun _ : Unit => [(2, .slice Al l.length cl), (3, .pointer (some ⟨b3, 0, none⟩))]) (fun _ => [some (b3, [.string E.name, .slice A E.nodes.length cap], 24)]) (fun _ => True) ?_ ?_
    · (repeat first|(with_reducible first|apply Za|apply Zb|apply Zc|apply Zd|apply Zi|apply Zr)|((with_reducible apply ZJ);rfl;rfl))
      refine SK.loopW (fun g : Nat × Sta × OwnD × OwnD => [(10, .int .i64 (g.1 : Int)), (2, .slice Al l.length cl), (3, .pointer (some ⟨b3, 0, none⟩)), (9, .pointer (some ⟨b9, 0, none⟩))])
        (fun g => some (b3, [.string E.name, .slice A E.nodes.length cap], 24) :: some (b9, g.2.1.c (g.2.2.1.val g.2.1.nodes.length) (g.2.2.2.val g.2.1.sigs.length), 33) :: stM g.2.1 g.2.2)
        (fun g => g.1 ≤ l.length ∧ g.1 ≤ 30 ∧ g.2.1.nodes.length ≤ 64 ∧ g.2.1.sigs.length ≤ 32 + g.1 ∧ TextOK g.2.1 ∧ OSt g.2.1 g.2.2) (fun g => l.length - g.1) (0, S0, zN, zS)
        ⟨Nat.zero_le _, Nat.zero_le _, hgo0.sn, by have := hws0.sg; dsimp only; omega, hgo0.tx, ⟨hzN, hzS⟩⟩ (by (repeat constructor)) (by (repeat constructor)) ?_
      rintro ⟨i, S, oN, oS⟩ ⟨hil, hi30, hsn, hsg, htx, ⟨hoN, hoS⟩⟩
      dsimp only at hil hi30 hsn hsg htx hoN hoS ⊢
      by_cases hlt : i < l.length
      · by_cases h30 : i < 30
        · obtain ⟨e, he⟩ : ∃ e, l[i]? = some e := ⟨_, List.getElem?_eq_getElem hlt⟩
          obtain ⟨bi, oi, hAl, hcell⟩ := hev i e he (by omega)
          subst hAl
          have hsm : Small S := ⟨hsn, by omega⟩
          cases ha : applyL E S e with
          | some T =>
            obtain ⟨k1, k2, k3, k4, k5⟩ := applyL_keeps ha
            have hTn : T.nodes.length ≤ 64 := by rcases k5 with k5 | k5 <;> omega
            (repeat ((fail_if_success (with_reducible refine SK.atR 14 ?_)); first|(with_reducible first|apply Za|apply Zb|apply Zc|apply Zd|apply Zi|apply Zo|apply Zr)|((with_reducible first|apply ZI|apply ZM|apply ZO);rfl;rfl)|((with_reducible apply ZS);rfl;rfl;rfl;omega)|((with_reducible apply Zqo);rfl;rfl;rfl)|((with_reducible apply ZC);rfl)))
            refine SK.seqJ (fun g : Nat × OwnD × OwnD => [(11, .pointer (some ⟨g.1, 0, none⟩)), (12, .int .i64 0), (10, .int .i64 (i : Int)), (2, .slice (some ⟨bi, oi, none⟩) l.length cl), (3, .pointer (some ⟨b3, 0, none⟩)), (9, .pointer (some ⟨b9, 0, none⟩))]) (fun g => some (g.1, T.c (g.2.1.val T.nodes.length) (g.2.2.val T.sigs.length), 33) :: (stM T g.2 ++ (some (b3, [.string E.name, .slice A E.nodes.length cap], 24) :: some (b9, S.c (oN.val S.nodes.length) (oS.val S.sigs.length), 33) :: stM S (oN, oS)))) (fun g => OSt T g.2) ?_ ?_
            · (repeat first|(with_reducible apply Zf)|((with_reducible refine Yz ?_);first|((with_reducible apply SK.indexAddr); rfl; rfl; rfl; exact hlt)|((with_reducible apply SK.loadAR); rfl; rfl; exact hcell; rfl)|((with_reducible apply ZI);rfl;rfl)|((with_reducible apply Zra);rfl;rfl;(focus (repeat constructor));rfl))|((with_reducible apply ZA);rfl)|refine Yd 14 o12_14 t12_14 (by kernel_rfl) ?_)
              refine SK.orC ?_ ?_
              · (repeat first|(with_reducible apply Zh)|((with_reducible apply Zz);rfl))
                refine SK.callO rfl rfl (fun w1 g1 g2 => apply27 _ (stV S (oN, oS)) E S e hsm hdn w1 (hd.mono g1) (RSt.own hoN hoS (fun b cs hb j u hu => g2 b cs _ (by rw [← hb]; (repeat constructor)) j u hu) (fun b cs hb j u hu => g2 b cs _ (by rw [← hb]; (repeat constructor)) j u hu))) ?_
                rintro ⟨qN, qS⟩ hq
                unfold AppV
                rw [ha] at hq ⊢
                dsimp only [Option.getD_some] at hq ⊢
                simp only [Option.isSome_some, if_true]
                (repeat first|(with_reducible first|apply Zf|apply Zg|apply Zh|apply Zi|apply Zs)|((with_reducible first|apply ZI|apply ZJ);rfl;rfl)|((with_reducible apply Zqn);rfl;rfl;rfl)|((with_reducible apply Zrc);rfl;rfl;rfl;exact List.cons_ne_nil _ _;(first|rfl|(repeat first|exact plain_nil|(refine plain_cons (by first|rfl|exact OwnD.plain_val _ _) ?_)));(focus (repeat constructor));rfl)|((with_reducible apply Zrg);rfl;intro _)|((with_reducible first|apply Zz|apply ZA);rfl)|((with_reducible apply ZF);rfl;infer_instance;rfl;(focus (repeat constructor));rfl;rfl)|((with_reducible apply SK.chkAR); rfl; infer_instance; rfl; exact hcell; rfl; rfl))
                rename_i b11
                exact SK.jumped (b11, qN, qS) hq (by (repeat constructor)) (by (repeat constructor))
              · (repeat first|(with_reducible first|apply Zf|apply Zh|apply Zs)|((with_reducible apply Zrg);rfl;intro _)|((with_reducible apply Zz);rfl)|((with_reducible apply ZF);rfl;infer_instance;rfl;(focus (repeat constructor));rfl;rfl)|((with_reducible apply SK.chkAR); rfl; infer_instance; rfl; exact hcell; rfl; rfl))
                rename_i b11
                refine SK.callO rfl rfl (fun w1 g1 g2 => apply27 _ (stV S (oN, oS)) E S e hsm hdn w1 (hd.mono g1) (RSt.own hoN hoS (fun b cs hb j u hu => g2 b cs _ (by rw [← hb]; (repeat constructor)) j u hu) (fun b cs hb j u hu => g2 b cs _ (by rw [← hb]; (repeat constructor)) j u hu))) ?_
                rintro ⟨qN, qS⟩ hq
                unfold AppV
                rw [ha] at hq ⊢
                dsimp only [Option.getD_some] at hq ⊢
                simp only [Option.isSome_some, if_true]
                (repeat first|(with_reducible first|apply Zf|apply Zg|apply Zh|apply Zi|apply Zs)|((with_reducible first|apply ZI|apply ZJ);rfl;rfl)|((with_reducible apply Zqn);rfl;rfl;rfl)|((with_reducible apply Zrc);rfl;rfl;rfl;exact List.cons_ne_nil _ _;(first|rfl|(repeat first|exact plain_nil|(refine plain_cons (by first|rfl|exact OwnD.plain_val _ _) ?_)));(focus (repeat constructor));rfl)|((with_reducible first|apply Zz|apply ZA);rfl))
                exact SK.jumped (b11, qN, qS) hq (by (repeat constructor)) (by (repeat constructor))
            rintro ⟨b11, qN, qS⟩ ⟨hqN, hqS⟩
            dsimp only at hqN hqS ⊢
            (repeat ((fail_if_success (with_reducible refine SK.atR 15 ?_)); skip))
            refine SK.seqJ (fun g : Nat × OwnD × OwnD => [(13, .pointer (some ⟨g.1, 0, none⟩)), (14, .int .i64 0), (11, .pointer (some ⟨b11, 0, none⟩)), (12, .int .i64 0), (10, .int .i64 (i : Int)), (2, .slice (some ⟨bi, oi, none⟩) l.length cl), (3, .pointer (some ⟨b3, 0, none⟩)), (9, .pointer (some ⟨b9, 0, none⟩))]) (fun g => some (g.1, T.c (g.2.1.val T.nodes.length) (g.2.2.val T.sigs.length), 33) :: (stM T g.2 ++ (some (b11, T.c (qN.val T.nodes.length) (qS.val T.sigs.length), 33) :: (stM T (qN, qS) ++ (some (b3, [.string E.name, .slice A E.nodes.length cap], 24) :: some (b9, S.c (oN.val S.nodes.length) (oS.val S.sigs.length), 33) :: stM S (oN, oS)))))) (fun g => OSt T g.2) ?_ ?_
            · (repeat first|(with_reducible apply Zf)|((with_reducible refine Yz ?_);first|((with_reducible apply SK.indexAddr); rfl; rfl; rfl; exact hlt)|((with_reducible apply SK.loadAR); rfl; rfl; exact hcell; rfl)|((with_reducible apply ZI);rfl;rfl)|((with_reducible apply Zra);rfl;rfl;(focus (repeat constructor));rfl))|((with_reducible apply ZA);rfl)|refine Yd 15 o12_15 t12_15 (by kernel_rfl) ?_)
              refine SK.orC ?_ ?_
              · (repeat first|(with_reducible apply Zh)|((with_reducible apply Zz);rfl))
                refine SK.callO rfl rfl (fun w1 g1 g2 => apply28 _ E S (oN, oS) e hsm hdn ⟨hoN, hoS⟩ htx w1 (hd.mono g1) (RSt.own hoN hoS (fun b cs hb j u hu => g2 b cs _ (by rw [← hb]; (repeat constructor)) j u hu) (fun b cs hb j u hu => g2 b cs _ (by rw [← hb]; (repeat constructor)) j u hu))) ?_
                intro z hz
                cases z with
                | none => exact absurd (show applyL E S e = none from hz) (by rw [ha]; simp)
                | some y1 =>
                obtain ⟨rN, rS⟩ := y1
                obtain ⟨T', ha', hrr⟩ := hz
                have hTT : T' = T := by rw [ha] at ha'; exact (Option.some.inj ha').symm
                subst hTT
                have hg : (applyL E S e).getD S = T' := by rw [ha]; rfl
                dsimp only [v28, m28]
                rw [hg]
                (repeat first|(with_reducible first|apply Zf|apply Zg|apply Zh|apply Zi|apply Zs)|((with_reducible first|apply ZI|apply ZJ);rfl;rfl)|((with_reducible apply Zqn);rfl;rfl;rfl)|((with_reducible apply Zrc);rfl;rfl;rfl;exact List.cons_ne_nil _ _;(first|rfl|(repeat first|exact plain_nil|(refine plain_cons (by first|rfl|exact OwnD.plain_val _ _) ?_)));(focus (repeat constructor));rfl)|((with_reducible apply Zrg);rfl;intro _)|((with_reducible first|apply Zz|apply ZA);rfl)|((with_reducible apply ZF);rfl;infer_instance;rfl;(focus (repeat constructor));rfl;rfl)|((with_reducible apply SK.chkAR); rfl; infer_instance; rfl; exact hcell; rfl; rfl))
                rename_i b13
                exact SK.jumped (b13, rN, rS) hrr (by (repeat constructor)) (by (repeat constructor))
              · (repeat first|(with_reducible first|apply Zf|apply Zh|apply Zs)|((with_reducible apply Zrg);rfl;intro _)|((with_reducible apply Zz);rfl)|((with_reducible apply ZF);rfl;infer_instance;rfl;(focus (repeat constructor));rfl;rfl)|((with_reducible apply SK.chkAR); rfl; infer_instance; rfl; exact hcell; rfl; rfl))
                rename_i b13
                refine SK.callO rfl rfl (fun w1 g1 g2 => apply28 _ E S (oN, oS) e hsm hdn ⟨hoN, hoS⟩ htx w1 (hd.mono g1) (RSt.own hoN hoS (fun b cs hb j u hu => g2 b cs _ (by rw [← hb]; (repeat constructor)) j u hu) (fun b cs hb j u hu => g2 b cs _ (by rw [← hb]; (repeat constructor)) j u hu))) ?_
                intro z hz
                cases z with
                | none => exact absurd (show applyL E S e = none from hz) (by rw [ha]; simp)
                | some y1 =>
                obtain ⟨rN, rS⟩ := y1
                obtain ⟨T', ha', hrr⟩ := hz
                have hTT : T' = T := by rw [ha] at ha'; exact (Option.some.inj ha').symm
                subst hTT
                have hg : (applyL E S e).getD S = T' := by rw [ha]; rfl
                dsimp only [v28, m28]
                rw [hg]
                (repeat first|(with_reducible first|apply Zf|apply Zg|apply Zh|apply Zi|apply Zs)|((with_reducible first|apply ZI|apply ZJ);rfl;rfl)|((with_reducible apply Zqn);rfl;rfl;rfl)|((with_reducible apply Zrc);rfl;rfl;rfl;exact List.cons_ne_nil _ _;(first|rfl|(repeat first|exact plain_nil|(refine plain_cons (by first|rfl|exact OwnD.plain_val _ _) ?_)));(focus (repeat constructor));rfl)|((with_reducible first|apply Zz|apply ZA);rfl))
                exact SK.jumped (b13, rN, rS) hrr (by (repeat constructor)) (by (repeat constructor))
            rintro ⟨b13, rN, rS⟩ ⟨hrN, hrS⟩
            dsimp only at hrN hrS ⊢
            (repeat first|(with_reducible first|apply Za|apply Zb|apply Zc)|((with_reducible first|apply ZI|apply ZO);rfl;rfl)|((with_reducible apply Zqd);rfl;rfl;rfl;omega)|((with_reducible apply Zra);rfl;rfl;(focus (repeat constructor));rfl))
            refine SK.callA rfl rfl (fun w1 _ g2 => state24 (stV T (qN, qS)) (stV T (rN, rS)) T w1 (RSt.own hqN hqS (fun b cs hb j u hu => g2 b cs _ (by rw [← hb]; (repeat constructor)) j u hu) (fun b cs hb j u hu => g2 b cs _ (by rw [← hb]; (repeat constructor)) j u hu)) (RSt.own hrN hrS (fun b cs hb j u hu => g2 b cs _ (by rw [← hb]; (repeat constructor)) j u hu) (fun b cs hb j u hu => g2 b cs _ (by rw [← hb]; (repeat constructor)) j u hu)) (by omega) (by omega)) ?_
            (repeat first|(with_reducible first|apply Za|apply Zb|apply Zc|apply Zd|apply Zi|apply Zo|apply Zs)|((with_reducible first|apply ZI|apply ZO);rfl;rfl)|((with_reducible apply ZP);rfl;rfl)|((with_reducible apply Zqd);rfl;rfl;rfl;omega)|((with_reducible apply Zqs);rfl;rfl;rfl)|((with_reducible apply Zqx);rfl;rfl;rfl;rfl)|((with_reducible apply Zra);rfl;rfl;(focus (repeat constructor));rfl)|((with_reducible apply ZD);rfl))
            refine SK.callP2 rfl rfl (by (repeat constructor)) (by (repeat constructor)) (fun w1 g0 => spoilS29 T (qN, qS) w1 ⟨hqN, hqS⟩ ⟨hTn, by omega⟩ g0) ?_
            (repeat first|(with_reducible first|apply Zb|apply Zc|apply Zd|apply Zi|apply Zl|apply Zs)|((with_reducible first|apply ZI|apply ZJ);rfl;rfl)|((with_reducible apply ZR);rfl;rfl;rfl;omega)|((with_reducible apply Zra);rfl;rfl;(focus (repeat constructor));rfl)|((with_reducible apply Zrc);rfl;rfl;rfl;exact List.cons_ne_nil _ _;(first|rfl|(repeat first|exact plain_nil|(refine plain_cons (by first|rfl|exact OwnD.plain_val _ _) ?_)));(focus (repeat constructor));rfl))
            exact SK.roundW (i + 1, T, rN, rS) ⟨by omega, by omega, hTn, by dsimp only; omega, k2 htx, ⟨hrN, hrS⟩⟩ (by dsimp only; omega) (by (repeat constructor)) (by (repeat constructor))
          | none =>
            (repeat ((fail_if_success (with_reducible refine SK.atR 14 ?_)); first|(with_reducible first|apply Za|apply Zb|apply Zc|apply Zd|apply Zi|apply Zo|apply Zr)|((with_reducible first|apply ZI|apply ZM|apply ZO);rfl;rfl)|((with_reducible apply ZS);rfl;rfl;rfl;omega)|((with_reducible apply Zqo);rfl;rfl;rfl)|((with_reducible apply ZC);rfl)))
            refine SK.seqJ (fun g : Nat × OwnD × OwnD => [(11, .pointer (some ⟨g.1, 0, none⟩)), (12, .int .i64 12), (10, .int .i64 (i : Int)), (2, .slice (some ⟨bi, oi, none⟩) l.length cl), (3, .pointer (some ⟨b3, 0, none⟩)), (9, .pointer (some ⟨b9, 0, none⟩))]) (fun g => some (g.1, S.c (g.2.1.val S.nodes.length) (g.2.2.val S.sigs.length), 33) :: (stM S g.2 ++ (some (b3, [.string E.name, .slice A E.nodes.length cap], 24) :: some (b9, S.c (oN.val S.nodes.length) (oS.val S.sigs.length), 33) :: stM S (oN, oS)))) (fun g => OSt S g.2) ?_ ?_
            · (repeat first|(with_reducible apply Zf)|((with_reducible refine Yz ?_);first|((with_reducible apply SK.indexAddr); rfl; rfl; rfl; exact hlt)|((with_reducible apply SK.loadAR); rfl; rfl; exact hcell; rfl)|((with_reducible apply ZI);rfl;rfl)|((with_reducible apply Zra);rfl;rfl;(focus (repeat constructor));rfl))|((with_reducible apply ZA);rfl)|refine Yd 14 o12_14 t12_14 (by kernel_rfl) ?_)
              refine SK.orC ?_ ?_
              · (repeat first|(with_reducible apply Zh)|((with_reducible apply Zz);rfl))
                refine SK.callO rfl rfl (fun w1 g1 g2 => apply27 _ (stV S (oN, oS)) E S e hsm hdn w1 (hd.mono g1) (RSt.own hoN hoS (fun b cs hb j u hu => g2 b cs _ (by rw [← hb]; (repeat constructor)) j u hu) (fun b cs hb j u hu => g2 b cs _ (by rw [← hb]; (repeat constructor)) j u hu))) ?_
                rintro ⟨qN, qS⟩ hq
                unfold AppV
                rw [ha] at hq ⊢
                dsimp only [Option.getD_none] at hq ⊢
                simp only [Option.isSome_none, Bool.false_eq_true, if_false]
                (repeat first|(with_reducible first|apply Zf|apply Zg|apply Zh|apply Zi|apply Zs)|((with_reducible first|apply ZI|apply ZJ);rfl;rfl)|((with_reducible apply Zqn);rfl;rfl;rfl)|((with_reducible apply Zrc);rfl;rfl;rfl;exact List.cons_ne_nil _ _;(first|rfl|(repeat first|exact plain_nil|(refine plain_cons (by first|rfl|exact OwnD.plain_val _ _) ?_)));(focus (repeat constructor));rfl)|((with_reducible apply Zrg);rfl;intro _)|((with_reducible first|apply Zz|apply ZA);rfl)|((with_reducible apply ZF);rfl;infer_instance;rfl;(focus (repeat constructor));rfl;rfl)|((with_reducible apply SK.chkAR); rfl; infer_instance; rfl; exact hcell; rfl; rfl))
                rename_i b11
                exact SK.jumped (b11, qN, qS) hq (by (repeat constructor)) (by (repeat constructor))
              · (repeat first|(with_reducible first|apply Zf|apply Zh|apply Zs)|((with_reducible apply Zrg);rfl;intro _)|((with_reducible apply Zz);rfl)|((with_reducible apply ZF);rfl;infer_instance;rfl;(focus (repeat constructor));rfl;rfl)|((with_reducible apply SK.chkAR); rfl; infer_instance; rfl; exact hcell; rfl; rfl))
                rename_i b11
                refine SK.callO rfl rfl (fun w1 g1 g2 => apply27 _ (stV S (oN, oS)) E S e hsm hdn w1 (hd.mono g1) (RSt.own hoN hoS (fun b cs hb j u hu => g2 b cs _ (by rw [← hb]; (repeat constructor)) j u hu) (fun b cs hb j u hu => g2 b cs _ (by rw [← hb]; (repeat constructor)) j u hu))) ?_
                rintro ⟨qN, qS⟩ hq
                unfold AppV
                rw [ha] at hq ⊢
                dsimp only [Option.getD_none] at hq ⊢
                simp only [Option.isSome_none, Bool.false_eq_true, if_false]
                (repeat first|(with_reducible first|apply Zf|apply Zg|apply Zh|apply Zi|apply Zs)|((with_reducible first|apply ZI|apply ZJ);rfl;rfl)|((with_reducible apply Zqn);rfl;rfl;rfl)|((with_reducible apply Zrc);rfl;rfl;rfl;exact List.cons_ne_nil _ _;(first|rfl|(repeat first|exact plain_nil|(refine plain_cons (by first|rfl|exact OwnD.plain_val _ _) ?_)));(focus (repeat constructor));rfl)|((with_reducible first|apply Zz|apply ZA);rfl))
                exact SK.jumped (b11, qN, qS) hq (by (repeat constructor)) (by (repeat constructor))
            rintro ⟨b11, qN, qS⟩ ⟨hqN, hqS⟩
            dsimp only at hqN hqS ⊢
            (repeat ((fail_if_success (with_reducible refine SK.atR 15 ?_)); skip))
            refine SK.seqJ (fun g : Nat => [(13, .pointer (some ⟨g, 0, none⟩)), (14, .int .i64 12), (11, .pointer (some ⟨b11, 0, none⟩)), (12, .int .i64 12), (10, .int .i64 (i : Int)), (2, .slice (some ⟨bi, oi, none⟩) l.length cl), (3, .pointer (some ⟨b3, 0, none⟩)), (9, .pointer (some ⟨b9, 0, none⟩))]) (fun g => some (g, S.c (oN.val S.nodes.length) (oS.val S.sigs.length), 33) :: (some (b11, S.c (qN.val S.nodes.length) (qS.val S.sigs.length), 33) :: (stM S (qN, qS) ++ (some (b3, [.string E.name, .slice A E.nodes.length cap], 24) :: some (b9, S.c (oN.val S.nodes.length) (oS.val S.sigs.length), 33) :: stM S (oN, oS))))) (fun _ => True) ?_ ?_
            · (repeat first|(with_reducible apply Zf)|((with_reducible refine Yz ?_);first|((with_reducible apply SK.indexAddr); rfl; rfl; rfl; exact hlt)|((with_reducible apply SK.loadAR); rfl; rfl; exact hcell; rfl)|((with_reducible apply ZI);rfl;rfl)|((with_reducible apply Zra);rfl;rfl;(focus (repeat constructor));rfl))|((with_reducible apply ZA);rfl)|refine Yd 15 o12_15 t12_15 (by kernel_rfl) ?_)
              refine SK.orC ?_ ?_
              · (repeat first|(with_reducible apply Zh)|((with_reducible apply Zz);rfl))
                refine SK.callO rfl rfl (fun w1 g1 g2 => apply28 _ E S (oN, oS) e hsm hdn ⟨hoN, hoS⟩ htx w1 (hd.mono g1) (RSt.own hoN hoS (fun b cs hb j u hu => g2 b cs _ (by rw [← hb]; (repeat constructor)) j u hu) (fun b cs hb j u hu => g2 b cs _ (by rw [← hb]; (repeat constructor)) j u hu))) ?_
                intro z hz
                cases z with
                | some y1 =>
                  obtain ⟨T', ha', _⟩ := hz
                  exact absurd ha' (by rw [ha]; simp)
                | none =>
                dsimp only [v28, m28]
                (repeat first|(with_reducible first|apply Zf|apply Zg|apply Zh|apply Zi|apply Zs)|((with_reducible first|apply ZI|apply ZJ);rfl;rfl)|((with_reducible apply Zqn);rfl;rfl;rfl)|((with_reducible apply Zrc);rfl;rfl;rfl;exact List.cons_ne_nil _ _;(first|rfl|(repeat first|exact plain_nil|(refine plain_cons (by first|rfl|exact OwnD.plain_val _ _) ?_)));(focus (repeat constructor));rfl)|((with_reducible apply Zrg);rfl;intro _)|((with_reducible first|apply Zz|apply ZA);rfl)|((with_reducible apply ZF);rfl;infer_instance;rfl;(focus (repeat constructor));rfl;rfl)|((with_reducible apply SK.chkAR); rfl; infer_instance; rfl; exact hcell; rfl; rfl))
                rename_i b13
                exact SK.jumped b13 trivial (by (repeat constructor)) (by (repeat constructor))
              · (repeat first|(with_reducible first|apply Zf|apply Zh|apply Zs)|((with_reducible apply Zrg);rfl;intro _)|((with_reducible apply Zz);rfl)|((with_reducible apply ZF);rfl;infer_instance;rfl;(focus (repeat constructor));rfl;rfl)|((with_reducible apply SK.chkAR); rfl; infer_instance; rfl; exact hcell; rfl; rfl))
                rename_i b13
                refine SK.callO rfl rfl (fun w1 g1 g2 => apply28 _ E S (oN, oS) e hsm hdn ⟨hoN, hoS⟩ htx w1 (hd.mono g1) (RSt.own hoN hoS (fun b cs hb j u hu => g2 b cs _ (by rw [← hb]; (repeat constructor)) j u hu) (fun b cs hb j u hu => g2 b cs _ (by rw [← hb]; (repeat constructor)) j u hu))) ?_
                intro z hz
                cases z with
                | some y1 =>
                  obtain ⟨T', ha', _⟩ := hz
                  exact absurd ha' (by rw [ha]; simp)
                | none =>
                dsimp only [v28, m28]
                (repeat first|(with_reducible first|apply Zf|apply Zg|apply Zh|apply Zi|apply Zs)|((with_reducible first|apply ZI|apply ZJ);rfl;rfl)|((with_reducible apply Zqn);rfl;rfl;rfl)|((with_reducible apply Zrc);rfl;rfl;rfl;exact List.cons_ne_nil _ _;(first|rfl|(repeat first|exact plain_nil|(refine plain_cons (by first|rfl|exact OwnD.plain_val _ _) ?_)));(focus (repeat constructor));rfl)|((with_reducible first|apply Zz|apply ZA);rfl))
                exact SK.jumped b13 trivial (by (repeat constructor)) (by (repeat constructor))
            rintro b13 _
            (repeat first|(with_reducible first|apply Za|apply Zb|apply Zc)|((with_reducible first|apply ZI|apply ZO);rfl;rfl)|((with_reducible apply Zqd);rfl;rfl;rfl;omega)|((with_reducible apply Zra);rfl;rfl;(focus (repeat constructor));rfl))
            refine SK.callA rfl rfl (fun w1 _ g2 => state24 (stV S (qN, qS)) (stV S (oN, oS)) S w1 (RSt.own hqN hqS (fun b cs hb j u hu => g2 b cs _ (by rw [← hb]; (repeat constructor)) j u hu) (fun b cs hb j u hu => g2 b cs _ (by rw [← hb]; (repeat constructor)) j u hu)) (RSt.own hoN hoS (fun b cs hb j u hu => g2 b cs _ (by rw [← hb]; (repeat constructor)) j u hu) (fun b cs hb j u hu => g2 b cs _ (by rw [← hb]; (repeat constructor)) j u hu)) (by omega) (by omega)) ?_
            (repeat first|(with_reducible first|apply Zc|apply Zs)|((with_reducible first|apply ZI|apply ZO);rfl;rfl)|((with_reducible apply ZP);rfl;rfl)|((with_reducible apply ZX);rfl;rfl;rfl;omega)|((with_reducible apply Zqs);rfl;rfl;rfl)|((with_reducible apply Zra);rfl;rfl;(focus (repeat constructor));rfl))
            refine SK.callA rfl rfl (fun w1 _ g2 => state24 (stV S (qN, qS)) (stV S (oN, oS)) S w1 (RSt.own hqN hqS (fun b cs hb j u hu => g2 b cs _ (by rw [← hb]; (repeat constructor)) j u hu) (fun b cs hb j u hu => g2 b cs _ (by rw [← hb]; (repeat constructor)) j u hu)) (RSt.own hoN hoS (fun b cs hb j u hu => g2 b cs _ (by rw [← hb]; (repeat constructor)) j u hu) (fun b cs hb j u hu => g2 b cs _ (by rw [← hb]; (repeat constructor)) j u hu)) (by omega) (by omega)) ?_
            (repeat first|(with_reducible first|apply Za|apply Zb|apply Zc|apply Zd|apply Zi|apply Zo|apply Zs)|((with_reducible apply ZO);rfl;rfl)|((with_reducible apply ZP);rfl;rfl)|((with_reducible apply Zqo);rfl;rfl;rfl)|((with_reducible apply Zqs);rfl;rfl;rfl)|((with_reducible apply Zra);rfl;rfl;(focus (repeat constructor));rfl)|((with_reducible apply ZD);rfl))
            refine SK.callP2 rfl rfl (by (repeat constructor)) (by (repeat constructor)) (fun w1 g0 => spoilS29 S (qN, qS) w1 ⟨hqN, hqS⟩ hsm g0) ?_
            (repeat first|(with_reducible first|apply Zb|apply Zc|apply Zd|apply Zi|apply Zl|apply Zs)|((with_reducible first|apply ZI|apply ZJ);rfl;rfl)|((with_reducible apply ZR);rfl;rfl;rfl;omega)|((with_reducible apply Zra);rfl;rfl;(focus (repeat constructor));rfl)|((with_reducible apply Zrc);rfl;rfl;rfl;exact List.cons_ne_nil _ _;(first|rfl|(repeat first|exact plain_nil|(refine plain_cons (by first|rfl|exact OwnD.plain_val _ _) ?_)));(focus (repeat constructor));rfl))
            exact SK.roundW (i + 1, S, oN, oS) ⟨by omega, by omega, hsn, by dsimp only; omega, htx, ⟨hoN, hoS⟩⟩ (by dsimp only; omega) (by (repeat constructor)) (by (repeat constructor))
        · (repeat first|(with_reducible first|apply Za|apply Zb|apply Zc|apply Zd|apply Zi|apply Zj|apply Zn|apply Zq)|((with_reducible first|apply ZI|apply ZM|apply ZO);rfl;rfl)|((with_reducible apply ZS);rfl;rfl;rfl;omega)|((with_reducible apply ZY);rfl;rfl;rfl;omega)|((with_reducible apply Zqo);rfl;rfl;rfl)|((with_reducible apply ZD);rfl))
          exact SK.jumped () trivial (by (repeat constructor)) (by (repeat constructor))
      · (repeat first|(with_reducible first|apply Za|apply Zb|apply Zc|apply Zd|apply Zi|apply Zj|apply Zn|apply Zq)|((with_reducible first|apply ZI|apply ZM);rfl;rfl)|((with_reducible apply ZY);rfl;rfl;rfl;omega)|((with_reducible apply Zqs);rfl;rfl;rfl)|((with_reducible apply Zqx);rfl;rfl;rfl;rfl)|((with_reducible apply ZD);rfl))
        exact SK.jumped () trivial (by (repeat constructor)) (by (repeat constructor))
    rintro _ _
    (repeat ((fail_if_success (with_reducible refine SK.atS 20 ?_)); skip))
    refine SK.seqJ (fun _ : Unit => [(2, .slice Al (l.take 30).length cl), (3, .pointer (some ⟨b3, 0, none⟩))]) (fun _ => [some (b3, [.string E.name, .slice A E.nodes.length cap], 24)]) (fun _ => True) ?_ ?_
    · by_cases h30 : 30 < l.length
      · have hl30 : (l.take 30).length = 30 := by rw [List.length_take]; omega
        have hA : ∃ b o, Al = some ⟨b, o, none⟩ := by
          obtain ⟨b, o, h, _⟩ := hev 0 _ (List.getElem?_eq_getElem (by omega)) (by omega)
          exact ⟨b, o, h⟩
        obtain ⟨ba, oa, rfl⟩ := hA
        (repeat first|(with_reducible first|apply Za|apply Zb|apply Zc|apply Zd|apply Zi)|((with_reducible first|apply ZI|apply ZM);rfl;rfl)|((with_reducible apply ZU);rfl;rfl;rfl;omega)|((with_reducible apply ZC);rfl))
        refine SK.sliceOp (h := 30) (v := .slice (some ⟨ba, oa, none⟩) 30 cl) rfl rfl (Bd.none _) (Bd.some _ rfl) (Bd.none _) rfl (Nat.le_refl _) (by omega) (Nat.zero_le _) (sl_zero _ _ _ _ _) ?_
        (repeat first|(with_reducible first|apply Zc|apply Zd|apply Zi)|((with_reducible apply ZJ);rfl;rfl))
        rw [hl30]
        exact SK.jumped () trivial (by (repeat constructor)) (by (repeat constructor))
      · have hl30 : (l.take 30).length = l.length := by rw [List.length_take]; omega
        (repeat first|(with_reducible first|apply Za|apply Zb|apply Zc|apply Zd|apply Zi|apply Zo)|((with_reducible first|apply ZI|apply ZM);rfl;rfl)|((with_reducible apply Zqa);rfl;rfl;rfl;omega)|((with_reducible apply ZD);rfl))
        rw [hl30]
        exact SK.jumped () trivial (by (repeat constructor)) (by (repeat constructor))
    rintro _ _
    have hk30 : (l.take 30).length ≤ 30 := by rw [List.length_take]; omega
    have hl2 := ev_take hl 30
    generalize l.take 30 = l2 at hk30 hl2
    have hkp : keep13 l2 ≤ 900 := Nat.le_trans List.countP_le_length (by omega)
    obtain ⟨s1, s2⟩ := foldA_small hdn bF l2
    have hf1 := fun dv w1 h => fold30 dv (.slice Al l2.length cl) E bF l2 w1 hdn hkp (by omega) h
    have hf2 := fun dv w1 h => fold31 dv (.slice Al l2.length cl) E bF l2 w1 hdn hkp (by omega) h
    generalize foldA E bF l2 = FA at hf1 hf2 s1 s2
    generalize foldN E bF l2 = FN at hf1 hf2
    (repeat first|(with_reducible first|apply Za|apply Zb|apply Zc)|((with_reducible apply ZI);rfl;rfl)|((with_reducible apply Zra);rfl;rfl;(focus (repeat constructor));rfl))
    refine SK.callO rfl rfl (fun w1 g1 _ => hf1 _ w1 (hd.mono g1) (hl2.mono g1)) ?_
    rintro ⟨pN, pS⟩ ⟨hpN, hpS⟩
    dsimp only at hpN hpS ⊢
    (repeat first|(with_reducible first|apply Za|apply Zb|apply Zc|apply Zd|apply Zi|apply Zs)|((with_reducible first|apply ZI|apply ZJ);rfl;rfl)|((with_reducible apply Zqn);rfl;rfl;rfl)|((with_reducible apply Zra);rfl;rfl;(focus (repeat constructor));rfl)|((with_reducible apply Zrc);rfl;rfl;rfl;exact List.cons_ne_nil _ _;(first|rfl|(repeat first|exact plain_nil|(refine plain_cons (by first|rfl|exact OwnD.plain_val _ _) ?_)));(focus (repeat constructor));rfl)|((with_reducible apply Zrg);rfl;intro _))
    refine SK.callO rfl rfl (fun w1 g1 _ => hf2 _ w1 (hd.mono g1) (hl2.mono g1)) ?_
    rintro ⟨qN, qS⟩ ⟨hqN, hqS⟩
    dsimp only at hqN hqS ⊢
    (repeat first|(with_reducible first|apply Za|apply Zb|apply Zc|apply Zd|apply Zi|apply Zs)|((with_reducible first|apply ZI|apply ZJ|apply ZO);rfl;rfl)|((with_reducible apply ZW);rfl;rfl;rfl;omega)|((with_reducible apply Zqn);rfl;rfl;rfl)|((with_reducible apply Zra);rfl;rfl;(focus (repeat constructor));rfl)|((with_reducible apply Zrc);rfl;rfl;rfl;exact List.cons_ne_nil _ _;(first|rfl|(repeat first|exact plain_nil|(refine plain_cons (by first|rfl|exact OwnD.plain_val _ _) ?_)));(focus (repeat constructor));rfl)|((with_reducible apply Zrg);rfl;intro _))
    refine SK.callA rfl rfl (fun w1 _ g2 => state24 (stV FA (pN, pS)) (stV FA (qN, qS)) FA w1 (RSt.own hpN hpS (fun b cs hb j u hu => g2 b cs _ (by rw [← hb]; (repeat constructor)) j u hu) (fun b cs hb j u hu => g2 b cs _ (by rw [← hb]; (repeat constructor)) j u hu)) (RSt.own hqN hqS (fun b cs hb j u hu => g2 b cs _ (by rw [← hb]; (repeat constructor)) j u hu) (fun b cs hb j u hu => g2 b cs _ (by rw [← hb]; (repeat constructor)) j u hu)) (by omega) (by omega)) ?_
    (repeat first|(with_reducible first|apply Zc|apply Zs)|((with_reducible first|apply ZI|apply ZO);rfl;rfl)|((with_reducible apply Zqo);rfl;rfl;rfl))
    refine SK.callA rfl rfl (fun w1 g1 _ => wakes17 w1 (hG1 w1 g1)) ?_
    (repeat first|(with_reducible first|apply Zc|apply Zd|apply Zi|apply Zp|apply Zs)|((with_reducible apply ZJ);rfl;rfl)|((with_reducible apply Zqo);rfl;rfl;rfl))
    exact SK.retQ rfl (by (repeat constructor)) (fun w' hm' => ⟨(), trivial, rfl, hm'.wk (by (repeat constructor))⟩)
open Go.ChangeShapes Go.WideShapes Go.ChangeAt Go.RowKit
set_option maxRecDepth 100000 in
set_option maxHeartbeats 4000000 in
theorem historyApply_lifted (os : Os) (started : os.Started) (H : Type) (enc : TypeId × Value → H) :
    ReturnsInHanded {} Try.checked os 12 .any (Rows.historyApplySpec.pre6 enc Try.prog Try.f12 Rows.historyApplyRow.domain false) (Rows.historyApplySpec.post enc Try.prog Try.f12 false true false false) := by
  refine returnsInHanded_of_change_shaped (C := Try.checked) Try.own started (by kernel_rfl) Try.func12
    (ChangeSpec.witness6 (enc := enc) (C := Try.checked) false ⟨#[], #[.agg #[.string ⟨#[]⟩, .slice none 0 0], .slice none 0 0, .slice none 0 0], []⟩ 8 (by kernel_rfl) (by kernel_rfl) (by kernel_rfl) (by kernel_rfl)) ?_
  intro W base args ds gs before hval0 hW hcnd0 hsz0 hsh _
  have hsz : (DataW.weightsEach Try.prog (Try.f12.params.toList ++ Rows.historyApplySpec.plain.varTypes Try.prog) (ds ++ gs)).all (· ≤ reachBytes) = true := hsz0
  have hval : ∀ (j : Nat) t v, Try.f12.params[j]? = some t → args[j]? = some v → Value.okWide Try.prog W .any base t v := hval0
  have hW' := hW
  obtain ⟨p, q, hA0, hV, rfl, hfz, hnd⟩ := hW
  have hA : DataW.TrodAll enc Try.prog W 0 (fun _ => true) true Try.f12.params.toList args.toList ds p := hA0
  rw [Try.params12] at hA hval hsz
  obtain ⟨v0, v1, v2, d0, d1, d2, p0, p1, p2, rfl, rfl, rfl, h0, h1, h2⟩ := trodAll_three hA
  obtain ⟨rfl, rfl⟩ := trodVars_none hV
  have hlt := hW'.lt
  have hw0 : ∀ n ∈ d0.weights Try.prog 24, n ≤ reachBytes := fun n hn => by
    have := List.all_eq_true.1 hsz n (DataW.weights_mem_each (j := 0) rfl rfl n hn)
    simpa using this
  have hw1 : ∀ n ∈ d1.weights Try.prog 25, n ≤ reachBytes := fun n hn => by
    have := List.all_eq_true.1 hsz n (DataW.weights_mem_each (j := 1) rfl rfl n hn)
    simpa using this
  have hw2 : ∀ n ∈ d2.weights Try.prog 34, n ≤ reachBytes := fun n hn => by
    have := List.all_eq_true.1 hsz n (DataW.weights_mem_each (j := 2) rfl rfl n hn)
    simpa using this
  have hR : reachBytes < 9223372036854775807 := by decide
  obtain ⟨f0, t0⟩ := id h0
  have ok0 := hval 0 24 v0 rfl rfl
  unfold Value.okWide at ok0
  rw [Try.underlying24] at ok0
  obtain ⟨cs0, rfl, _, _⟩ := ok0
  obtain ⟨D, A, cap, e0, hcap, hrd, hT⟩ := open24 t0 hw0 hR
  have e0' : cs0 = #[.string D.name, .slice A D.nodes.length cap] := Array.ext' e0
  subst e0'
  obtain ⟨f1, t1⟩ := id h1
  obtain ⟨a1, len1, cap1, rfl⟩ := okWide_slice Try.underlying25 (hval 1 25 v1 rfl rfl)
  obtain ⟨c1, l1, e1, hrl1, hI1⟩ := open25 t1 hw1 hR
  have e1' : c1 = .slice a1 len1 cap1 := by
    have : ([Value.slice a1 len1 cap1] : List Value) = [c1] := e1
    exact (List.cons.inj this).1.symm
  subst e1'
  obtain ⟨f2, t2⟩ := id h2
  obtain ⟨a2, len2, cap2, rfl⟩ := okWide_slice Try.underlying34 (hval 2 34 v2 rfl rfl)
  obtain ⟨c2, l2, e2, hrl2, hI2⟩ := open34 t2 hw2 hR
  have e2' : c2 = .slice a2 len2 cap2 := by
    have : ([Value.slice a2 len2 cap2] : List Value) = [c2] := e2
    exact (List.cons.inj this).1.symm
  subst e2'
  obtain ⟨m, hm⟩ := Try.laysM144.s1_3 W hsh
  have hrun := apply12 D A cap _ l1 _ l2 W hcap (hrd.mono fun b o v h => Cw.vw h) hT (hrl1.mono fun b o v h => Cw.vw h) hI1 (hrl2.mono fun b o v h => Cw.vw h) hI2 ⟨m, Cw.vw hm⟩
  refine Calls.mono hrun fun e W' ⟨_, _, he, hmem⟩ => ?_
  have hb := Mem.below hmem
  subst he
  have r0 := Below.trod Try.laidOut (ty_ok 24 (by kernel_rfl) (by kernel_rfl)).1 (ty_ok 24 (by kernel_rfl) (by kernel_rfl)).2 h0 hb (fun x hx => hlt x (by simp [hx]))
  have r1 := Below.trod Try.laidOut (ty_ok 25 (by kernel_rfl) (by kernel_rfl)).1 (ty_ok 25 (by kernel_rfl) (by kernel_rfl)).2 h1 hb (fun x hx => hlt x (by simp [hx]))
  have r2 := Below.trod Try.laidOut (ty_ok 34 (by kernel_rfl) (by kernel_rfl)).1 (ty_ok 34 (by kernel_rfl) (by kernel_rfl)).2 h2 hb (fun x hx => hlt x (by simp [hx]))
  exact ⟨_, rfl, ⟨_, _, _, [], _, [], hW', trodAll_mk1 (shut_bool Try.underlying4 _), trodAll_mk3 r0 r1 r2, rfl, hb.frame _, fun h => by cases h⟩⟩
theorem HistoryApply_holds : Rows.HistoryApplySaid :=
  OpenClaim.holds_of_wide 12 Try.f12 rfl rfl rfl rfl rfl rfl rfl ⟨rfl, rfl, rfl, rfl, rfl⟩ rfl rfl rfl rfl rfl (by kernel_rfl) Try.func12 (by kernel_rfl)
    (of_decide_eq_true (by kernel_rfl)) (by unfold Func.isWrapper; rw [if_neg (of_decide_eq_false (by kernel_rfl))]; exact ⟨rfl, rfl⟩)
    (fun os started H enc _ => historyApply_lifted os started H enc)
#print axioms HistoryApply_holds
end Go.Proofs.Ytdnjfmgldkommaa
