/- Proved here: Every task that is made is for a node that waits for it. -/
import Derived.Test.YtdnjfmgldkommaaQa
import Derived.Test.YtdnjfmgldkommaaLc
import Derived.Test.YtdnjfmgldkommaaRows
import Derived.HandedShaped
import Derived.Carry
import Derived.Test.YtdnjfmgldkommaaWd
namespace Go.Proofs.Ytdnjfmgldkommaa
open Go.Sx
@[reducible] def o5_9 : List Nat := [1, 2, 3, 0, 4, 5]
@[reducible] def t5_9 : Ch := .or (.eff (6, []) [7, 8, 9, 10, 11] (.eff (12, [0, 4, 5]) [13] (.eff (14, []) [15, 16] (.fin)))) (.eff (12, [0, 4, 5]) [] (.eff (6, []) [7, 8, 9, 10, 11, 13] (.eff (14, []) [15, 16] (.fin))))
@[reducible] def i5_19 : List Ent := [(0, []), (1, []), (2, []), (3, []), (5, []), (4, []), (6, []), (7, []), (8, []), (9, []), (10, []), (11, []), (12, []), (13, []), (14, []), (15, []), (16, []), (17, []), (19, []), (24, []), (18, []), (20, []), (21, []), (22, []), (23, []), (25, []), (26, []), (27, []), (28, []), (29, []), (31, []), (30, []), (32, []), (33, []), (34, []), (35, []), (36, [])]
@[reducible] def i5_22 : List Ent := [(0, []), (1, []), (2, []), (3, []), (5, []), (7, []), (9, []), (4, []), (6, []), (8, []), (10, []), (11, []), (12, []), (13, []), (14, []), (15, []), (16, []), (17, []), (19, []), (18, []), (20, []), (21, []), (22, []), (23, []), (24, []), (25, []), (26, []), (27, []), (28, []), (29, [])]
def TkOK (D : Df) (S : Sta) (now : Int) (t : Tk) : Prop := t.flow = S.id ∧
  ((t.kind = 1 ∧ ∃ i n x, fI D.nodes t.node = some i ∧ D.nodes[i]? = some n ∧ S.nodes[i]? = some x ∧ (S.status = 1 → x.st = 1) ∧ W64 (x.try_ + 1) = t.try_ ∧ n.kind = 1) ∨
   (t.kind = 2 ∧ ∃ i n x, fI D.nodes t.node = some i ∧ D.nodes[i]? = some n ∧ S.nodes[i]? = some x ∧ (S.status = 1 → x.st = 2) ∧ t.at_ = W64 (now + n.delay)) ∨
   (t.kind = 3 ∧ t.mail.from_ = S.id ∧ 1 ≤ t.mail.kind ∧ t.mail.kind ≤ 4))
theorem MailT.ok {D : Df} {S : Sta} {now : Int} {t : Tk} (h : MailT S.id t) : TkOK D S now t := by
  obtain ⟨m, rfl, h1, h2, h3⟩ := h
  exact ⟨rfl, .inr (.inr ⟨rfl, h1, h2, h3⟩)⟩
theorem TkOK.mv {D : Df} {R : Rn} {now : Int} {t : Tk} {i : Nat} {x y : Ns} {g : List Sg} {e : Ev} {ts : List Tk} (h : TkOK D R.S now t) (hs : R.S.status = 1) (hx : R.S.nodes[i]? = some x) (h0 : x.st = 0) : TkOK D (mv R i y g e ts).S now t := by
  have other : ∀ {j : Nat} {z : Ns}, R.S.nodes[j]? = some z → z.st ≠ 0 → (Ytdnjfmgldkommaa.mv R i y g e ts).S.nodes[j]? = some z := by
    intro j z hz h1
    show (R.S.nodes.set i y)[j]? = some z
    rw [List.getElem?_set]
    split
    · rename_i hij; subst hij; rw [hx] at hz; cases hz; exact absurd h0 h1
    · exact hz
  obtain ⟨hf, h | h | h⟩ := h
  · obtain ⟨hk, j, n, z, h1, h2, h3, h4, h5, h6⟩ := h
    exact ⟨hf, .inl ⟨hk, j, n, z, h1, h2, other h3 (by rw [h4 hs]; decide), h4, h5, h6⟩⟩
  · obtain ⟨hk, j, n, z, h1, h2, h3, h4, h5⟩ := h
    exact ⟨hf, .inr (.inl ⟨hk, j, n, z, h1, h2, other h3 (by rw [h4 hs]; decide), h4, h5⟩)⟩
  · exact ⟨hf, .inr (.inr h)⟩
theorem TkOK.cls {D : Df} {S : Sta} {now : Int} {t : Tk} {st : Int} {x : ByteArray} (h : TkOK D S now t) (hs : st ≠ 1) : TkOK D (clsS S st x) now t := by
  obtain ⟨hf, h | h | h⟩ := h
  · obtain ⟨hk, j, n, z, h1, h2, h3, h4, h5, h6⟩ := h
    exact ⟨hf, .inl ⟨hk, j, n, z, h1, h2, h3, fun h => absurd h hs, h5, h6⟩⟩
  · obtain ⟨hk, j, n, z, h1, h2, h3, h4, h5⟩ := h
    exact ⟨hf, .inr (.inl ⟨hk, j, n, z, h1, h2, h3, fun h => absurd h hs, h5⟩)⟩
  · exact ⟨hf, .inr (.inr h)⟩
theorem cls_tasks {D : Df} {now : Int} {R : Rn} {st : Int} {x : ByteArray} (hs : R.S.status = 1) (h4 : st = 2 ∨ st = 3 ∨ st = 4) (h : ∀ t ∈ R.tk, TkOK D R.S now t) : ∀ t ∈ (cls D R st x).tk, TkOK D (cls D R st x).S now t := by
  obtain ⟨_, ts, he, hm⟩ := cls_eq (D := D) (t := x) hs h4
  rw [he]
  intro t ht
  rcases List.mem_append.1 ht with ht | ht
  · exact (h t ht).cls (by omega)
  · exact MailT.ok (S := clsS R.S st x) (hm t ht)
theorem set_at {l : List Ns} {i : Nat} {x y : Ns} (hx : l[i]? = some x) : (l.set i y)[i]? = some y := by
  rw [List.getElem?_set]
  simp [(List.getElem?_eq_some_iff.1 hx).1]
theorem On.tasks {D : Df} {now : Int} (hD : DefOK D) (hT : Tries D) {R R' : Rn} (h : On D now R R') (hw : WN D R.S) (ht : ∀ t ∈ R.tk, TkOK D R.S now t) : ∀ t ∈ R'.tk, TkOK D R'.S now t := by
  induction h with
  | @more R R' i n x y g e ts hs hl hr hn hx h0 hm ha h ih =>
    obtain ⟨w1, w2, w3, w4⟩ := hm.nodeW (hw.nd _ _ _ hn hx) h0 (hT _ (List.mem_of_getElem? hn))
    refine ih (hw.mv hn hx (by omega) (rdy_ahead hr) w1 w4) fun t hk0 => ?_
    have hk1 : t ∈ R.tk ∨ t ∈ ts := List.mem_append.1 hk0
    clear hk0 ih
    rcases hk1 with hk | hk
    · exact (ht t hk).mv hs hx h0
    · have hy : (mv R i y g e ts).S.nodes[i]? = some y := set_at hx
      have hf := hD.ds i n hn
      have ht0 := (hw.nd _ _ _ hn hx).t0 h0
      cases hm with
      | sched k =>
        rw [List.mem_singleton] at hk
        subst hk
        exact ⟨rfl, .inl ⟨rfl, i, n, _, hf, hn, hy, fun _ => rfl, by dsimp only; rw [ht0]; rfl, k⟩⟩
      | timer k =>
        rw [List.mem_singleton] at hk
        subst hk
        exact ⟨rfl, .inr (.inl ⟨rfl, i, n, _, hf, hn, hy, fun _ => rfl, rfl⟩)⟩
      | child k =>
        rw [List.mem_singleton] at hk
        subst hk
        exact ⟨rfl, .inr (.inr ⟨rfl, rfl, by simp, by simp⟩)⟩
      | await k => cases hk
      | got j k => cases hk
      | send k =>
        rw [List.mem_singleton] at hk
        subst hk
        exact ⟨rfl, .inr (.inr ⟨rfl, rfl, (show (1 : Int) ≤ 3 by decide), (show (3 : Int) ≤ 4 by decide)⟩)⟩
  | stay hs hl hr ha => exact ht
  | done hs hl hr ha => exact cls_tasks hs (.inl rfl) ht
  | @long R i n x hs hl hr hn hx h0 k hsz ha =>
    refine cls_tasks (R := mv R i { x with st := 4, text := longT } R.S.sigs ⟨6, n.name, longT, 0⟩ []) hs (.inr (.inl rfl)) fun t hk => ?_
    have hk : t ∈ R.tk := by simpa [mv] using hk
    exact (ht t hk).mv hs hx h0
theorem Stp.tasks {D : Df} (hD : DefOK D) (hT : Tries D) {S : Sta} {a : Inp} {R : Rn} (hw : WS D S) (h : Stp D S a R) : ∀ t ∈ R.tk, TkOK D R.S a.now t := by
  cases h with
  | start h0 ha hp h => exact h.tasks hD hT (startW hw.sg).1 (fun t ht => by cases ht)
  | @on i n x y e ts _ h1 hn hx hm ha h =>
    have hwn := hw.wn (by omega)
    obtain ⟨w1, w2, w3, w4⟩ := hm.nodeW (hwn.nd _ _ _ hn hx) (hT _ (List.mem_of_getElem? hn))
    refine h.tasks hD hT (WN.mv (R := ⟨S, [], []⟩) hwn hn hx w3 (hwn.ah _ _ hx w4) w1 (Nat.le_refl _)) fun t ht => ?_
    have : ts = [] := by cases hm <;> rfl
    subst this
    cases ht
  | @stop i n x y e ts h1 hn hx hm ha =>
    have hy : (mv ⟨S, [], []⟩ i y S.sigs e ts).S.nodes[i]? = some y := set_at hx
    have hf := hD.ds i n hn
    intro t ht0
    have ht : t ∈ ts := by simpa [mv] using ht0
    clear ht0
    cases hm with
    | taken ha k h =>
      split at ht
      · rw [List.mem_singleton] at ht
        subst ht
        exact ⟨rfl, .inr (.inl ⟨rfl, i, n, _, hf, hn, hy, fun _ => rfl, rfl⟩)⟩
      · cases ht
    | again ha k h htr =>
      rw [List.mem_singleton] at ht
      subst ht
      exact ⟨rfl, .inl ⟨rfl, i, n, _, hf, hn, hy, fun _ => rfl, rfl, k⟩⟩
  | kept h1 ha hk hp => intro t ht; cases ht
  | fail h1 hn hx h ha => exact cls_tasks (R := mv _ _ _ _ _ _) h1 (.inr (.inl rfl)) (fun t ht => by cases ht)
  | cancel h1 ha => exact cls_tasks (R := ⟨S, [], []⟩) h1 (.inr (.inr rfl)) (fun t ht => by cases ht)
theorem tk_sl {l : List Tk} {k : Nat} {t : Tk} (sp : List Value) (h : l[k]? = some t) : sl (l.flatMap Tk.c ++ sp) (0 + k * 13) 13 = some t.c := by
  rw [Nat.zero_add]; exact flat_sl tk_len l sp k t h
set_option maxRecDepth 100000 in
set_option maxHeartbeats 16000000 in
theorem tasks5 (D : Df) (A : Option Addr) (cap : Nat) (iv : Value) (l : List Inp) (w : World) (hc : D.nodes.length ≤ cap) (hd0 : RDf (Vw w []) (.agg #[.string D.name, .slice A D.nodes.length cap]) D) (hT : Texts D)
    (hi : RSl (Vw w []) iv l.length (l.flatMap Inp.c)) (hI : InOK l) (hG : ∃ m, Vw w [] 0 0 (.int .i64 m)) :
    Ans 5 [.agg #[.string D.name, .slice A D.nodes.length cap], iv] w (.bool true) := by
  obtain ⟨Ai, ci, rfl, hin⟩ := hi.open inp_len
  have hd := cut_rdf hd0
  have hTc := hT.cut
  have hG1 : ∀ w1 : World, (∀ b o v, Vw w [] b o v → Vw w1 [] b o v) → ∃ m, Vw w1 [] 0 0 (.int .i64 m) := fun w1 g => by obtain ⟨m, hm⟩ := hG; exact ⟨m, g _ _ _ hm⟩
  refine enter0 Try.func5 rfl Try.ntmps5 rfl ?_
  (repeat first|(with_reducible first|apply Za|apply Zb|apply Zc|apply Zd|apply Zi|apply Zs)|((with_reducible apply ZJ);rfl;rfl)|((with_reducible apply Zra);rfl;rfl;(focus (repeat constructor));rfl)|((with_reducible apply Zrf);rfl;rfl;intro _))
  refine SK.callA rfl rfl (fun w1 g1 _ => cut15 D A cap hc hT.2.1 w1 (hd0.mono g1)) ?_
  unfold cutV at hd ⊢
  generalize cutD D = E at hd hTc ⊢
  have hname : ∀ nm, nm = D.name → RDf (Vw w []) (.agg #[.string nm, .slice A E.nodes.length cap]) E → nm = E.name := by
    intro nm _ h
    obtain ⟨A', cap', he, _⟩ := h.nds
    have := congrArg (fun v => match v with | .agg a => (match a[0]? with | some (Value.string s) => some s | _ => none) | _ => none) he
    simpa using this
  have hnm := hname D.name rfl hd
  rw [hnm] at hd ⊢
  (repeat first|(with_reducible first|apply Za|apply Zb|apply Zc|apply Zd|apply Zi|apply Zs)|((with_reducible apply Zra);rfl;rfl;(focus (repeat constructor));rfl)|((with_reducible apply Zrc);rfl;rfl;rfl;exact List.cons_ne_nil _ _;(first|rfl|(repeat first|exact plain_nil|(refine plain_cons (by first|rfl|exact OwnD.plain_val _ _) ?_)));(focus (repeat constructor));rfl))
  refine SK.callO rfl rfl (fun w1 g1 _ => taken16 _ E w1 (hd.mono g1) hTc) ?_
  rintro bb htk
  cases bb with
  | false =>
    (repeat first|(with_reducible first|apply Za|apply Zb|apply Zc|apply Zd|apply Zi|apply Zs)|((with_reducible apply ZP);rfl;rfl)|((with_reducible apply ZC);rfl))
    refine SK.callA rfl rfl (fun w1 g1 _ => wakes17 w1 (hG1 w1 g1)) ?_
    (repeat first|(with_reducible first|apply Zc|apply Zd|apply Zi|apply Zk|apply Zp|apply Zs)|((with_reducible apply ZJ);rfl;rfl))
    exact SK.retQ rfl (by (repeat constructor)) (fun w' hm' => ⟨(), trivial, rfl, hm'.wk (by (repeat constructor))⟩)
  | true =>
    have hDO : DefOK E := (htk rfl).ok (fun n hn => (hTc.2.2 n hn).2.2.2)
    have hTr : Tries E := (htk rfl).tries
    have hdn : E.nodes.length < 9223372036854775807 := by have := hDO.le; omega
    obtain ⟨A0, cap0, hA0, hnds⟩ := hd.nds
    have hA1 : A0 = A := by
      have := congrArg (fun v => match v with | .agg a => (match a[1]? with | some (Value.slice A _ _) => some A | _ => none) | _ => none) hA0
      simpa using this.symm
    subst hA1
    (repeat first|(with_reducible first|apply Za|apply Zb|apply Zc|apply Zd|apply Zi|apply Zo|apply Zr|apply Zs)|((with_reducible apply ZJ);rfl;rfl)|((with_reducible apply ZP);rfl;rfl)|((with_reducible apply Zqr);rfl;rfl;rfl)|((with_reducible apply Zra);rfl;rfl;(focus (repeat constructor));rfl)|((with_reducible apply Zrf);rfl;rfl;intro _)|((with_reducible apply ZD);rfl))
    rename_i b2 bp
    refine SK.loopW (fun g : Nat × Sta × List Ev × ((OwnD × OwnD) × OwnD) => [(6, .int .i64 (g.1 : Int)), (1, .slice Ai l.length ci), (2, .pointer (some ⟨b2, 0, none⟩)), (5, .pointer (some ⟨bp, 0, none⟩))])
      (fun g => some (b2, [.string E.name, .slice A0 E.nodes.length cap], 24) :: plM bp E (.slice A0 E.nodes.length cap) g.2.1 g.2.2.1 g.2.2.2)
      (fun g => g.1 ≤ l.length ∧ g.1 ≤ 60 ∧ Good E g.2.1 ∧ OPl g.2.1 g.2.2.1 g.2.2.2 ∧ g.2.2.1.length ≤ 100000 * g.1 ∧ WS E g.2.1) (fun g => l.length - g.1) (0, sta0, [], ((none, none), none))
      ⟨Nat.zero_le _, Nat.zero_le _, good0 E, ⟨⟨⟨rfl, rfl⟩, ⟨rfl, rfl⟩⟩, ⟨rfl, rfl⟩⟩, Nat.zero_le _, ws0 E⟩ (by (repeat constructor))
      (by (repeat constructor)) ?_
    rintro ⟨i, S, ev, z⟩ ⟨hil, hi60, hgo, hz, hev, hws⟩
    dsimp only at hil hi60 hgo hz hev hws ⊢
    by_cases hlt : i < l.length
    · by_cases h60 : i < 60
      · obtain ⟨a0, ha0⟩ : ∃ a, l[i]? = some a := ⟨_, List.getElem?_eq_getElem hlt⟩
        obtain ⟨bi, oi, rfl, hcell⟩ := hin i a0 ha0 (by omega)
        obtain ⟨t1, t2⟩ := hI.2 a0 (List.mem_of_getElem? ha0)
        have hna : (clipI a0).name.size ≤ 1000 := by have := clipS_size a0.name; show (clipS a0.name).size ≤ 1000; omega
        (repeat first|(with_reducible first|apply Za|apply Zb|apply Zc|apply Zd|apply Zi|apply Zo|apply Zr)|((with_reducible refine Yz ?_);first|((with_reducible apply SK.indexAddr); rfl; rfl; rfl; exact hlt)|((with_reducible apply SK.loadAR); rfl; rfl; exact hcell; rfl)|((with_reducible first|apply ZI|apply ZM|apply ZO);rfl;rfl)|((with_reducible apply ZS);rfl;rfl;rfl;omega)|((with_reducible apply Zqo);rfl;rfl;rfl))|((with_reducible apply ZC);rfl))
        refine SK.callA rfl rfl (fun w1 _ _ => clip19 a0 w1 t1 t2) ?_
        generalize clipI a0 = a at hna ⊢
        obtain ⟨g3, g4⟩ := playL_good (p := (S, ev)) hDO hgo hna
        have g5 := playL_ws (p := (S, ev)) (a := a) hDO hTr hws
        have hst1 : ∀ w1 : World, RDf (Vw w1 []) (.agg #[.string E.name, .slice A0 E.nodes.length cap]) E → RSt (Vw w1 []) (stV S z.1) S → (∃ m, Vw w1 [] 0 0 (.int .i64 m)) → _ := fun w1 h1 h2 h3 => step20 _ _ E S a w1 hDO hgo hna h1 h2 h3
        have htks : (stepL E S a).1 = 0 → ∀ t ∈ (stepL E S a).2.tk, TkOK E (stepL E S a).2.S a.now t := fun h0 => (stepL_stp hDO hgo.ln h0).tasks hDO hTr hws
        have haft := stepL_aft hDO hgo hna
        generalize stepL E S a = r at htks hst1 haft
        obtain ⟨e, R⟩ := r
        dsimp only at htks haft
        obtain ⟨⟨zN, zS⟩, zL⟩ := z
        obtain ⟨⟨hzN, hzS⟩, hzL⟩ := id hz
        dsimp only at hzN hzS hzL
        (repeat ((fail_if_success (with_reducible refine SK.atR 9 ?_)); first|(with_reducible first|apply Zc|apply Zd|apply Zi|apply Zs)|((with_reducible apply Zrc);rfl;rfl;rfl;exact List.cons_ne_nil _ _;(first|rfl|(repeat first|exact plain_nil|(refine plain_cons (by first|rfl|exact OwnD.plain_val _ _) ?_)));(focus (repeat constructor));rfl)|((with_reducible apply Zrg);rfl;intro _)))
        rename_i b7
        refine SK.seqJ (fun g : Nat × Y4 => [(9, .pointer (some ⟨g.1, 0, none⟩)), (10, g.2.2.2.val R.tk.length), (11, .int .i64 e), (7, .pointer (some ⟨b7, 0, none⟩)), (6, .int .i64 (i : Int)), (1, .slice (some ⟨bi, oi, none⟩) l.length ci), (2, .pointer (some ⟨b2, 0, none⟩)), (5, .pointer (some ⟨bp, 0, none⟩))])
          (fun g => some (g.1, R.S.c (g.2.1.1.val R.S.nodes.length) (g.2.1.2.val R.S.sigs.length), 33) :: some (b7, a.c, 39) :: some (b2, [.string E.name, .slice A0 E.nodes.length cap], 24) :: stepM R g.2 ++ plM bp E (.slice A0 E.nodes.length cap) S ev ((zN, zS), zL)) (fun g => ORn R g.2) ?_ ?_
        · (repeat first|(with_reducible apply Zf)|((with_reducible first|apply ZI|apply ZK|apply ZN);rfl;rfl)|((with_reducible apply Zra);rfl;rfl;(focus (repeat constructor));rfl)|((with_reducible apply ZA);rfl)|refine Yd 9 o5_9 t5_9 (by kernel_rfl) ?_)
          refine SK.orC ?_ ?_
          · (repeat first|(with_reducible apply Zh)|((with_reducible apply Zz);rfl))
            refine SK.callO rfl rfl (fun w1 g1 g2 => hst1 w1 (hd.mono g1) (RSt.own hzN hzS (fun b cs hb j u hu => g2 b cs _ (by rw [← hb]; (repeat constructor)) j u hu) (fun b cs hb j u hu => g2 b cs _ (by rw [← hb]; (repeat constructor)) j u hu)) (by obtain ⟨m, hm⟩ := hG; exact ⟨m, g1 _ _ _ hm⟩)) ?_
            intro y hy
            (repeat first|(with_reducible first|apply Zf|apply Zg|apply Zh|apply Zi|apply Zs)|((with_reducible first|apply ZI|apply ZJ);rfl;rfl)|((with_reducible apply Zqn);rfl;rfl;rfl)|((with_reducible apply Zrc);rfl;rfl;rfl;exact List.cons_ne_nil _ _;(first|rfl|(repeat first|exact plain_nil|(refine plain_cons (by first|rfl|exact OwnD.plain_val _ _) ?_)));(focus (repeat constructor));rfl)|((with_reducible apply Zrg);rfl;intro _)|((with_reducible first|apply Zz|apply ZA);rfl)|((with_reducible apply ZF);rfl;infer_instance;rfl;(focus (repeat constructor));rfl;rfl))
            rename_i b9
            exact SK.jumped (b9, y) hy (by (repeat constructor)) (by (repeat constructor))
          · (repeat first|(with_reducible first|apply Zf|apply Zh|apply Zs)|((with_reducible apply Zrg);rfl;intro _)|((with_reducible apply Zz);rfl)|((with_reducible apply ZF);rfl;infer_instance;rfl;(focus (repeat constructor));rfl;rfl))
            rename_i b9
            refine SK.callO rfl rfl (fun w1 g1 g2 => hst1 w1 (hd.mono g1) (RSt.own hzN hzS (fun b cs hb j u hu => g2 b cs _ (by rw [← hb]; (repeat constructor)) j u hu) (fun b cs hb j u hu => g2 b cs _ (by rw [← hb]; (repeat constructor)) j u hu)) (by obtain ⟨m, hm⟩ := hG; exact ⟨m, g1 _ _ _ hm⟩)) ?_
            intro y hy
            (repeat first|(with_reducible first|apply Zf|apply Zg|apply Zh|apply Zi|apply Zs)|((with_reducible first|apply ZI|apply ZJ);rfl;rfl)|((with_reducible apply Zqn);rfl;rfl;rfl)|((with_reducible apply Zrc);rfl;rfl;rfl;exact List.cons_ne_nil _ _;(first|rfl|(repeat first|exact plain_nil|(refine plain_cons (by first|rfl|exact OwnD.plain_val _ _) ?_)));(focus (repeat constructor));rfl)|((with_reducible first|apply Zz|apply ZA);rfl))
            exact SK.jumped (b9, y) hy (by (repeat constructor)) (by (repeat constructor))
        rintro ⟨b9, ⟨oN, oS⟩, oE, oT⟩ ⟨⟨hoN, hoS⟩, hoE, hoT⟩
        dsimp only at hoN hoS hoE hoT ⊢
        by_cases h0 : e = 0
        · have h0' : ¬ e ≠ 0 := fun h => h h0
          have htk1 := htks h0
          have htl := haft.tk
          (repeat first|(with_reducible first|apply Za|apply Zb|apply Zc|apply Zd|apply Zi|apply Zo|apply Zr)|((with_reducible first|apply ZI|apply ZJ);rfl;rfl)|((with_reducible apply Zqd);rfl;rfl;rfl;omega)|((with_reducible apply ZD);rfl))
          refine SK.loopW (fun k : Nat => [(12, .int .i64 (k : Int)), (9, .pointer (some ⟨b9, 0, none⟩)), (10, oT.val R.tk.length), (7, .pointer (some ⟨b7, 0, none⟩)), (6, .int .i64 (i : Int)), (1, .slice (some ⟨bi, oi, none⟩) l.length ci), (2, .pointer (some ⟨b2, 0, none⟩)), (5, .pointer (some ⟨bp, 0, none⟩))])
            (fun _ => some (b9, R.S.c (oN.val R.S.nodes.length) (oS.val R.S.sigs.length), 33) :: some (b7, a.c, 39) :: some (b2, [.string E.name, .slice A0 E.nodes.length cap], 24) :: stepM R ((oN, oS), oE, oT) ++ plM bp E (.slice A0 E.nodes.length cap) S ev ((zN, zS), zL))
            (fun k => k ≤ R.tk.length) (fun k => R.tk.length - k) 0 (Nat.zero_le _) (by (repeat constructor)) (by (repeat constructor)) ?_
          intro k hk
          obtain ⟨At, ct, hvT⟩ := val_sl hoT
          by_cases hkl : k < R.tk.length
          · cases oT with
            | none => have : R.tk.length = 0 := hoT.2; omega
            | some q =>
              obtain ⟨bT, capT, spT⟩ := q
              obtain ⟨t, ht⟩ : ∃ t, R.tk[k]? = some t := ⟨_, List.getElem?_eq_getElem hkl⟩
              have hok := htk1 t (List.mem_of_getElem? ht)
              obtain ⟨kd, fl, nd, tr, at_, ⟨mk, mt, mf, mn, mname, mtext, mst⟩⟩ := t
              have htc : sl (R.tk.flatMap Tk.c ++ spT) (0 + k * 13) 13 = some [.int .i64 kd, .complex .f64 0 0, .string fl, .string nd, .int .i64 tr, .int .i64 at_, .int .i64 mk, .string mt, .string mf, .string mn, .string mname, .string mtext, .int .i64 mst] := tk_sl spT ht
              obtain ⟨hfl, hok⟩ := hok
              dsimp only at hfl hok
              subst hfl
              (repeat first|(with_reducible first|apply Za|apply Zb|apply Zc|apply Zd|apply Zi|apply Zo|apply Zr|apply Zs)|((with_reducible refine Yz ?_);first|((with_reducible apply SK.indexAddr); rfl; rfl; rfl; exact hkl)|((with_reducible apply SK.loadA); rfl; rfl; (focus (repeat constructor)); exact htc)|((with_reducible first|apply ZI|apply ZK|apply ZM);rfl;rfl)|((with_reducible apply ZS);rfl;rfl;rfl;omega)|((with_reducible first|apply Zqz|apply Zra);rfl;rfl;(focus (repeat constructor));rfl)|((with_reducible apply Zrc);rfl;rfl;rfl;exact List.cons_ne_nil _ _;(first|rfl|(repeat first|exact plain_nil|(refine plain_cons (by first|rfl|exact OwnD.plain_val _ _) ?_)));(focus (repeat constructor));rfl)|((with_reducible apply Zrg);rfl;intro _))|((with_reducible apply ZC);rfl))
              rename_i b13
              refine SK.callA rfl rfl (fun w1 g1 _ => find21 _ E nd w1 (hd.mono g1) hdn) ?_
              rcases hok with ⟨rfl, ix, n, x, hfi, hn, hx, hs1, htr, hkn⟩ | ⟨rfl, ix, n, x, hfi, hn, hx, hs1, hat⟩ | ⟨rfl, hm1, hm2, hm3⟩
              · obtain ⟨bd, od, av, hA, hnd2⟩ := hnds ix n hn
                subst hA
                have hcn := hnd2.2
                have hnl := (List.getElem?_eq_some_iff.1 hn).1
                have hxl := (List.getElem?_eq_some_iff.1 hx).1
                have htr : IntKind.i64.wrap (x.try_ + 1) = tr := htr
                unfold findV
                rw [hfi]
                cases oN with
                | none => have : R.S.nodes.length = 0 := hoN.2; omega
                | some q2 =>
                  obtain ⟨bN, capN, spN⟩ := q2
                  have hld0 := nld hx spN 0 (.int .i64 x.st) rfl
                  have hld1 := nld hx spN 1 (.int .i64 x.try_) rfl
                  by_cases hst : R.S.status = 1
                  · have hs := hs1 hst
                    (repeat first|(with_reducible first|apply Za|apply Zb|apply Zc|apply Zd|apply Ze|apply Zi|apply Zl|apply Zo|apply Zr|apply Zs)|((with_reducible refine Yz ?_);first|((with_reducible apply SK.indexAddr); rfl; rfl; rfl; first | exact hxl | exact hnl)|((with_reducible apply SK.load1); rfl; rfl; (focus (repeat constructor)); first | with_reducible exact hld0 | with_reducible exact hld1)|((with_reducible apply SK.load1R); rfl; rfl; first | exact hcn 1 _ rfl | exact hcn 4 _ rfl)|((with_reducible refine SK.isBin ?_); first | ((with_reducible apply SK.iadd1); rfl; rfl; rfl; omega) | ((with_reducible apply SK.iadd); rfl; rfl; rfl))|((with_reducible apply SK.neC0); rfl; rfl; rfl)|((with_reducible first|apply ZI|apply ZJ|apply ZK|apply ZO);rfl;rfl)|((with_reducible apply ZP);rfl;rfl)|((with_reducible apply ZW);rfl;rfl;rfl;omega)|((with_reducible apply Zqd);rfl;rfl;rfl;omega)|((with_reducible apply Zqe);rfl;rfl;rfl;exact fun h=>h rfl)|((with_reducible first|apply Zqm|apply Zqn);rfl;rfl;rfl)|((with_reducible apply Zqs);rfl;rfl;rfl)|((with_reducible apply Zqx);rfl;rfl;rfl;rfl)|((with_reducible apply Zqz);rfl;rfl;(focus (repeat constructor));rfl))|((with_reducible first|apply Zz|apply ZC);rfl)|((with_reducible apply ZD);rfl)|refine Yi 19 i5_19 (by kernel_rfl) ?_)
                    exact SK.roundW (k + 1) (by omega) (by omega) (by (repeat constructor)) (by (repeat constructor))
                  · by_cases hs : x.st = 1
                    · (repeat first|(with_reducible first|apply Za|apply Zb|apply Zc|apply Zd|apply Ze|apply Zi|apply Zl|apply Zo|apply Zr|apply Zs)|((with_reducible refine Yz ?_);first|((with_reducible apply SK.indexAddr); rfl; rfl; rfl; first | exact hxl | exact hnl)|((with_reducible apply SK.load1); rfl; rfl; (focus (repeat constructor)); first | with_reducible exact hld0 | with_reducible exact hld1)|((with_reducible apply SK.load1R); rfl; rfl; first | exact hcn 1 _ rfl | exact hcn 4 _ rfl)|((with_reducible refine SK.isBin ?_); first | ((with_reducible apply SK.iadd1); rfl; rfl; rfl; omega) | ((with_reducible apply SK.iadd); rfl; rfl; rfl))|((with_reducible apply SK.neC0); rfl; rfl; rfl)|((with_reducible first|apply ZI|apply ZJ|apply ZK|apply ZO);rfl;rfl)|((with_reducible apply ZP);rfl;rfl)|((with_reducible apply ZW);rfl;rfl;rfl;omega)|((with_reducible apply Zqd);rfl;rfl;rfl;omega)|((with_reducible apply Zqe);rfl;rfl;rfl;exact fun h=>h rfl)|((with_reducible first|apply Zqm|apply Zqn);rfl;rfl;rfl)|((with_reducible apply Zqs);rfl;rfl;rfl)|((with_reducible apply Zqx);rfl;rfl;rfl;rfl)|((with_reducible apply Zqz);rfl;rfl;(focus (repeat constructor));rfl))|((with_reducible first|apply Zz|apply ZC);rfl)|((with_reducible apply ZD);rfl)|refine Yi 19 i5_19 (by kernel_rfl) ?_)
                      exact SK.roundW (k + 1) (by omega) (by omega) (by (repeat constructor)) (by (repeat constructor))
                    · (repeat first|(with_reducible first|apply Za|apply Zb|apply Zc|apply Zd|apply Ze|apply Zi|apply Zl|apply Zo|apply Zr|apply Zs)|((with_reducible refine Yz ?_);first|((with_reducible apply SK.indexAddr); rfl; rfl; rfl; first | exact hxl | exact hnl)|((with_reducible apply SK.load1); rfl; rfl; (focus (repeat constructor)); first | with_reducible exact hld0 | with_reducible exact hld1)|((with_reducible apply SK.load1R); rfl; rfl; first | exact hcn 1 _ rfl | exact hcn 4 _ rfl)|((with_reducible refine SK.isBin ?_); first | ((with_reducible apply SK.iadd1); rfl; rfl; rfl; omega) | ((with_reducible apply SK.iadd); rfl; rfl; rfl))|((with_reducible apply SK.neC0); rfl; rfl; rfl)|((with_reducible first|apply ZI|apply ZJ|apply ZK|apply ZO);rfl;rfl)|((with_reducible apply ZP);rfl;rfl)|((with_reducible first|apply ZW|apply ZX);rfl;rfl;rfl;omega)|((with_reducible first|apply Zqc|apply Zqd);rfl;rfl;rfl;omega)|((with_reducible apply Zqe);rfl;rfl;rfl;exact fun h=>h rfl)|((with_reducible first|apply Zqm|apply Zqn|apply Zqo);rfl;rfl;rfl)|((with_reducible apply Zqs);rfl;rfl;rfl)|((with_reducible apply Zqz);rfl;rfl;(focus (repeat constructor));rfl))|((with_reducible first|apply Zz|apply ZC);rfl)|((with_reducible apply ZD);rfl)|refine Yi 19 i5_19 (by kernel_rfl) ?_)
                      exact SK.roundW (k + 1) (by omega) (by omega) (by (repeat constructor)) (by (repeat constructor))
              · obtain ⟨bd, od, av, hA, hnd2⟩ := hnds ix n hn
                subst hA
                have hcn := hnd2.2
                have hnl := (List.getElem?_eq_some_iff.1 hn).1
                have hxl := (List.getElem?_eq_some_iff.1 hx).1
                have hat : at_ = IntKind.i64.wrap (a.now + n.delay) := hat
                unfold findV
                rw [hfi]
                cases oN with
                | none => have : R.S.nodes.length = 0 := hoN.2; omega
                | some q2 =>
                  obtain ⟨bN, capN, spN⟩ := q2
                  have hld0 := nld hx spN 0 (.int .i64 x.st) rfl
                  have hld1 := nld hx spN 1 (.int .i64 x.try_) rfl
                  by_cases hst : R.S.status = 1
                  · have hs := hs1 hst
                    (repeat first|(with_reducible first|apply Za|apply Zb|apply Zc|apply Zd|apply Ze|apply Zi|apply Zl|apply Zo|apply Zr|apply Zs)|((with_reducible refine Yz ?_);first|((with_reducible apply SK.indexAddr); rfl; rfl; rfl; first | exact hxl | exact hnl)|((with_reducible apply SK.load1); rfl; rfl; (focus (repeat constructor)); first | with_reducible exact hld0 | with_reducible exact hld1)|((with_reducible apply SK.load1R); rfl; rfl; first | exact hcn 1 _ rfl | exact hcn 4 _ rfl)|((with_reducible refine SK.isBin ?_); first | ((with_reducible apply SK.iadd1); rfl; rfl; rfl; omega) | ((with_reducible apply SK.iadd); rfl; rfl; rfl))|((with_reducible apply SK.neC0); rfl; rfl; rfl)|((with_reducible first|apply ZI|apply ZJ|apply ZK|apply ZO);rfl;rfl)|((with_reducible apply ZP);rfl;rfl)|((with_reducible apply ZW);rfl;rfl;rfl;omega)|((with_reducible first|apply Zqc|apply Zqd);rfl;rfl;rfl;omega)|((with_reducible apply Zqe);rfl;rfl;rfl;exact fun h=>h rfl)|((with_reducible first|apply Zqm|apply Zqn);rfl;rfl;rfl)|((with_reducible apply Zqs);rfl;rfl;rfl)|((with_reducible apply Zqx);rfl;rfl;rfl;rfl)|((with_reducible apply Zqz);rfl;rfl;(focus (repeat constructor));rfl))|((with_reducible first|apply Zz|apply ZC);rfl)|((with_reducible apply ZD);rfl)|refine Yi 22 i5_22 (by kernel_rfl) ?_)
                    exact SK.roundW (k + 1) (by omega) (by omega) (by (repeat constructor)) (by (repeat constructor))
                  · by_cases hs : x.st = 2
                    · (repeat first|(with_reducible first|apply Za|apply Zb|apply Zc|apply Zd|apply Ze|apply Zi|apply Zl|apply Zo|apply Zr|apply Zs)|((with_reducible refine Yz ?_);first|((with_reducible apply SK.indexAddr); rfl; rfl; rfl; first | exact hxl | exact hnl)|((with_reducible apply SK.load1); rfl; rfl; (focus (repeat constructor)); first | with_reducible exact hld0 | with_reducible exact hld1)|((with_reducible apply SK.load1R); rfl; rfl; first | exact hcn 1 _ rfl | exact hcn 4 _ rfl)|((with_reducible refine SK.isBin ?_); first | ((with_reducible apply SK.iadd1); rfl; rfl; rfl; omega) | ((with_reducible apply SK.iadd); rfl; rfl; rfl))|((with_reducible apply SK.neC0); rfl; rfl; rfl)|((with_reducible first|apply ZI|apply ZJ|apply ZK|apply ZO);rfl;rfl)|((with_reducible apply ZP);rfl;rfl)|((with_reducible apply ZW);rfl;rfl;rfl;omega)|((with_reducible first|apply Zqc|apply Zqd);rfl;rfl;rfl;omega)|((with_reducible apply Zqe);rfl;rfl;rfl;exact fun h=>h rfl)|((with_reducible first|apply Zqm|apply Zqn);rfl;rfl;rfl)|((with_reducible apply Zqs);rfl;rfl;rfl)|((with_reducible apply Zqx);rfl;rfl;rfl;rfl)|((with_reducible apply Zqz);rfl;rfl;(focus (repeat constructor));rfl))|((with_reducible first|apply Zz|apply ZC);rfl)|((with_reducible apply ZD);rfl)|refine Yi 22 i5_22 (by kernel_rfl) ?_)
                      exact SK.roundW (k + 1) (by omega) (by omega) (by (repeat constructor)) (by (repeat constructor))
                    · (repeat first|(with_reducible first|apply Za|apply Zb|apply Zc|apply Zd|apply Ze|apply Zi|apply Zl|apply Zo|apply Zr|apply Zs)|((with_reducible refine Yz ?_);first|((with_reducible apply SK.indexAddr); rfl; rfl; rfl; first | exact hxl | exact hnl)|((with_reducible apply SK.load1); rfl; rfl; (focus (repeat constructor)); first | with_reducible exact hld0 | with_reducible exact hld1)|((with_reducible apply SK.load1R); rfl; rfl; first | exact hcn 1 _ rfl | exact hcn 4 _ rfl)|((with_reducible refine SK.isBin ?_); first | ((with_reducible apply SK.iadd1); rfl; rfl; rfl; omega) | ((with_reducible apply SK.iadd); rfl; rfl; rfl))|((with_reducible apply SK.neC0); rfl; rfl; rfl)|((with_reducible first|apply ZI|apply ZJ|apply ZK|apply ZO);rfl;rfl)|((with_reducible apply ZP);rfl;rfl)|((with_reducible first|apply ZW|apply ZX);rfl;rfl;rfl;omega)|((with_reducible first|apply Zqc|apply Zqd);rfl;rfl;rfl;omega)|((with_reducible apply Zqe);rfl;rfl;rfl;exact fun h=>h rfl)|((with_reducible first|apply Zqm|apply Zqn|apply Zqo);rfl;rfl;rfl)|((with_reducible apply Zqs);rfl;rfl;rfl)|((with_reducible apply Zqz);rfl;rfl;(focus (repeat constructor));rfl))|((with_reducible first|apply Zz|apply ZC);rfl)|((with_reducible apply ZD);rfl)|refine Yi 22 i5_22 (by kernel_rfl) ?_)
                      exact SK.roundW (k + 1) (by omega) (by omega) (by (repeat constructor)) (by (repeat constructor))
              · subst hm1
                unfold findV
                cases hfi : fI E.nodes nd with
                | none =>
                  (repeat first|(with_reducible first|apply Za|apply Zb|apply Zc|apply Zd|apply Zi|apply Zl|apply Zo|apply Zr|apply Zs)|((with_reducible refine Yz ?_);first|((with_reducible apply SK.neC0); rfl; rfl; rfl)|((with_reducible first|apply ZI|apply ZJ|apply ZK|apply ZO);rfl;rfl)|((with_reducible first|apply ZR|apply ZW);rfl;rfl;rfl;omega)|((with_reducible first|apply ZY|apply Zqa|apply Zqc);rfl;rfl;rfl;omega)|((with_reducible apply Zqe);rfl;rfl;rfl;exact fun h=>h rfl)|((with_reducible first|apply Zqm|apply Zqn);rfl;rfl;rfl)|((with_reducible apply Zqs);rfl;rfl;rfl)|((with_reducible apply Zqz);rfl;rfl;(focus (repeat constructor));rfl))|((with_reducible apply ZC);rfl)|((with_reducible apply ZD);rfl))
                  exact SK.roundW (k + 1) (by omega) (by omega) (by (repeat constructor)) (by (repeat constructor))
                | some ix =>
                  (repeat first|(with_reducible first|apply Za|apply Zb|apply Zc|apply Zd|apply Zi|apply Zl|apply Zo|apply Zr|apply Zs)|((with_reducible refine Yz ?_);first|((with_reducible apply SK.neC0); rfl; rfl; rfl)|((with_reducible first|apply ZI|apply ZJ|apply ZK|apply ZO);rfl;rfl)|((with_reducible first|apply ZR|apply ZW);rfl;rfl;rfl;omega)|((with_reducible first|apply ZY|apply Zqa|apply Zqc);rfl;rfl;rfl;omega)|((with_reducible apply Zqe);rfl;rfl;rfl;exact fun h=>h rfl)|((with_reducible first|apply Zqm|apply Zqn);rfl;rfl;rfl)|((with_reducible apply Zqs);rfl;rfl;rfl)|((with_reducible apply Zqz);rfl;rfl;(focus (repeat constructor));rfl))|((with_reducible apply ZC);rfl)|((with_reducible apply ZD);rfl))
                  exact SK.roundW (k + 1) (by omega) (by omega) (by (repeat constructor)) (by (repeat constructor))
          · rw [hvT]
            (repeat first|(with_reducible first|apply Za|apply Zb|apply Zc|apply Zd|apply Zi|apply Zj|apply Zn|apply Zq)|((with_reducible first|apply ZI|apply ZM);rfl;rfl)|((with_reducible apply ZY);rfl;rfl;rfl;omega)|((with_reducible apply Zra);rfl;rfl;(focus (repeat constructor));rfl)|((with_reducible apply ZD);rfl))
            refine SK.call rfl rfl (plM bp E (.slice A0 E.nodes.length cap) S ev ((zN, zS), zL)) [some (b2, [.string E.name, .slice A0 E.nodes.length cap], 24)] (by (repeat constructor)) _ _ _ (fun w1 g0 g1 _ => input18 E (.slice A0 E.nodes.length cap) S ev ((zN, zS), zL) a bp w1 hDO hgo hna (by omega) hz (hd.mono g1) (by obtain ⟨m, hm⟩ := hG; exact ⟨m, g1 _ _ _ hm⟩) g0) (fun z' hz' => ?_)
            (repeat first|(with_reducible first|apply Zb|apply Zc|apply Zd|apply Zi|apply Zl|apply Zo|apply Zs)|((with_reducible first|apply ZI|apply ZJ);rfl;rfl)|((with_reducible apply ZP);rfl;rfl)|((with_reducible apply ZR);rfl;rfl;rfl;omega)|((with_reducible apply ZD);rfl))
            exact SK.roundW (i + 1, (playL E (S, ev) a).1, (playL E (S, ev) a).2, z') ⟨by omega, by omega, g3, hz', by dsimp only at g4 ⊢; omega, g5⟩ (by dsimp only; omega) (by (repeat constructor)) (by (repeat constructor))
        · (repeat first|(with_reducible first|apply Za|apply Zb|apply Zc|apply Zd|apply Zi|apply Zj|apply Zn|apply Zq)|((with_reducible first|apply ZI|apply ZJ);rfl;rfl)|((with_reducible first|apply ZR|apply ZX);rfl;rfl;rfl;omega)|((with_reducible apply ZC);rfl))
          exact SK.roundW (i + 1, S, ev, ((zN, zS), zL)) ⟨by omega, by omega, hgo, hz, by dsimp only; omega, hws⟩ (by dsimp only; omega) (by (repeat constructor)) (by (repeat constructor))
      · (repeat first|(with_reducible first|apply Za|apply Zb|apply Zc|apply Zd|apply Zi|apply Zj|apply Zn|apply Zq)|((with_reducible first|apply ZI|apply ZM|apply ZO);rfl;rfl)|((with_reducible apply ZS);rfl;rfl;rfl;omega)|((with_reducible apply ZY);rfl;rfl;rfl;omega)|((with_reducible apply Zqo);rfl;rfl;rfl)|((with_reducible apply ZD);rfl))
        refine SK.callA rfl rfl (fun w1 g1 _ => wakes17 w1 (hG1 w1 g1)) ?_
        (repeat first|(with_reducible first|apply Zc|apply Zd|apply Zi|apply Zp|apply Zs)|((with_reducible apply ZJ);rfl;rfl))
        exact SK.retQ rfl (by (repeat constructor)) (fun w' hm' => ⟨(), trivial, rfl, hm'.wk (by (repeat constructor))⟩)
    · (repeat first|(with_reducible first|apply Za|apply Zb|apply Zc|apply Zd|apply Zi|apply Zj|apply Zn|apply Zq)|((with_reducible first|apply ZI|apply ZM);rfl;rfl)|((with_reducible apply ZY);rfl;rfl;rfl;omega)|((with_reducible apply Zqs);rfl;rfl;rfl)|((with_reducible apply Zqx);rfl;rfl;rfl;rfl)|((with_reducible apply ZD);rfl))
      refine SK.callA rfl rfl (fun w1 g1 _ => wakes17 w1 (hG1 w1 g1)) ?_
      (repeat first|(with_reducible first|apply Zc|apply Zd|apply Zi|apply Zp|apply Zs)|((with_reducible apply ZJ);rfl;rfl))
      exact SK.retQ rfl (by (repeat constructor)) (fun w' hm' => ⟨(), trivial, rfl, hm'.wk (by (repeat constructor))⟩)
open Go.ChangeShapes Go.WideShapes Go.ChangeAt Go.RowKit
set_option maxRecDepth 100000 in
set_option maxHeartbeats 4000000 in
theorem historyTasks_lifted (os : Os) (started : os.Started) (H : Type) (enc : TypeId × Value → H) :
    ReturnsInHanded {} Try.checked os 5 .any (Rows.historyTasksSpec.pre6 enc Try.prog Try.f5 Rows.historyTasksRow.domain false) (Rows.historyTasksSpec.post enc Try.prog Try.f5 false true false false) := by
  refine returnsInHanded_of_change_shaped (C := Try.checked) Try.own started (by kernel_rfl) Try.func5
    (ChangeSpec.witness6 (enc := enc) (C := Try.checked) false ⟨#[], #[.agg #[.string ⟨#[]⟩, .slice none 0 0], .slice none 0 0], []⟩ 8 (by kernel_rfl) (by kernel_rfl) (by kernel_rfl) (by kernel_rfl)) ?_
  intro W base args ds gs before hval0 hW hcnd0 hsz0 hsh _
  have hsz : (DataW.weightsEach Try.prog (Try.f5.params.toList ++ Rows.historyTasksSpec.plain.varTypes Try.prog) (ds ++ gs)).all (· ≤ reachBytes) = true := hsz0
  have hval : ∀ (j : Nat) t v, Try.f5.params[j]? = some t → args[j]? = some v → Value.okWide Try.prog W .any base t v := hval0
  have hW' := hW
  obtain ⟨p, q, hA0, hV, rfl, hfz, hnd⟩ := hW
  have hA : DataW.TrodAll enc Try.prog W 0 (fun _ => true) true Try.f5.params.toList args.toList ds p := hA0
  rw [Try.params5] at hA hval hsz
  obtain ⟨v0, v1, d0, d1, p0, p1, rfl, rfl, rfl, h0, h1⟩ := trodAll_two hA
  obtain ⟨rfl, rfl⟩ := trodVars_none hV
  have hlt := hW'.lt
  have hw0 : ∀ n ∈ d0.weights Try.prog 24, n ≤ reachBytes := fun n hn => by
    have := List.all_eq_true.1 hsz n (DataW.weights_mem_each (j := 0) rfl rfl n hn)
    simpa using this
  have hw1 : ∀ n ∈ d1.weights Try.prog 25, n ≤ reachBytes := fun n hn => by
    have := List.all_eq_true.1 hsz n (DataW.weights_mem_each (j := 1) rfl rfl n hn)
    simpa using this
  have hR : reachBytes < 9223372036854775807 := by decide
  obtain ⟨f0, t0⟩ := id h0
  have ok0 := hval 0 24 v0 rfl rfl
  unfold Value.okWide at ok0
  rw [Try.underlying24] at ok0
  obtain ⟨cs0, rfl, _, _⟩ := ok0
  obtain ⟨D, A, cap, e0, hcap, hrd, hT⟩ := open24 t0 hw0 hR
  have e0' : cs0 = #[.string D.name, .slice A D.nodes.length cap] := Array.ext' e0
  subst e0'
  obtain ⟨f1, t1⟩ := id h1
  obtain ⟨a1, len1, cap1, rfl⟩ := okWide_slice Try.underlying25 (hval 1 25 v1 rfl rfl)
  obtain ⟨c1, l1, e1, hrl1, hI1⟩ := open25 t1 hw1 hR
  have e1' : c1 = .slice a1 len1 cap1 := by
    have : ([Value.slice a1 len1 cap1] : List Value) = [c1] := e1
    exact (List.cons.inj this).1.symm
  subst e1'
  obtain ⟨m, hm⟩ := Try.laysM144.s1_3 W hsh
  have hrun := tasks5 D A cap _ l1 W hcap (hrd.mono fun b o v h => Cw.vw h) hT (hrl1.mono fun b o v h => Cw.vw h) hI1 ⟨m, Cw.vw hm⟩
  refine Calls.mono hrun fun e W' ⟨_, _, he, hmem⟩ => ?_
  have hb := Mem.below hmem
  subst he
  have r0 := Below.trod Try.laidOut (ty_ok 24 (by kernel_rfl) (by kernel_rfl)).1 (ty_ok 24 (by kernel_rfl) (by kernel_rfl)).2 h0 hb (fun x hx => hlt x (by simp [hx]))
  have r1 := Below.trod Try.laidOut (ty_ok 25 (by kernel_rfl) (by kernel_rfl)).1 (ty_ok 25 (by kernel_rfl) (by kernel_rfl)).2 h1 hb (fun x hx => hlt x (by simp [hx]))
  exact ⟨_, rfl, ⟨_, _, _, [], _, [], hW', trodAll_mk1 (shut_bool Try.underlying4 _), trodAll_mk2 r0 r1, rfl, hb.frame _, fun h => by cases h⟩⟩
theorem HistoryTasks_holds : Rows.HistoryTasksSaid :=
  OpenClaim.holds_of_wide 5 Try.f5 rfl rfl rfl rfl rfl rfl rfl ⟨rfl, rfl, rfl, rfl, rfl⟩ rfl rfl rfl rfl rfl (by kernel_rfl) Try.func5 (by kernel_rfl)
    (of_decide_eq_true (by kernel_rfl)) (by unfold Func.isWrapper; rw [if_neg (of_decide_eq_false (by kernel_rfl))]; exact ⟨rfl, rfl⟩)
    (fun os started H enc _ => historyTasks_lifted os started H enc)
#print axioms HistoryTasks_holds
end Go.Proofs.Ytdnjfmgldkommaa
