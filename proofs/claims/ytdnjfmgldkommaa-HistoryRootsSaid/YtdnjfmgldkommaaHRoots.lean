/- Proved here: At its start just those nodes begin whose predecessors are none, or begin and end at once. -/
import Derived.Test.YtdnjfmgldkommaaQb
import Derived.Test.YtdnjfmgldkommaaQa
import Derived.Test.YtdnjfmgldkommaaLa
import Derived.Test.YtdnjfmgldkommaaLc
import Derived.Test.YtdnjfmgldkommaaRows
import Derived.HandedShaped
import Derived.Carry
import Derived.Test.YtdnjfmgldkommaaWd
namespace Go.Proofs.Ytdnjfmgldkommaa
open Go.Sx
@[reducible] def i10_18 : List Ent := [(0, []), (1, []), (2, []), (4, []), (8, []), (10, []), (14, []), (3, []), (5, []), (6, []), (7, []), (9, []), (11, []), (12, []), (13, []), (15, []), (16, []), (17, []), (18, []), (19, []), (21, []), (20, []), (22, []), (23, []), (24, []), (25, []), (26, []), (27, []), (28, [])]
@[reducible] def i10_25 : List Ent := [(0, []), (1, []), (2, []), (3, []), (5, []), (7, []), (4, []), (6, []), (8, []), (9, []), (10, []), (11, []), (12, []), (13, []), (14, []), (15, []), (16, []), (17, []), (18, []), (19, [])]
@[reducible] def i10_27 : List Ent := [(0, []), (1, []), (2, []), (3, []), (4, []), (5, []), (6, []), (7, []), (8, []), (9, []), (10, []), (12, []), (14, []), (11, []), (13, []), (15, []), (16, []), (17, []), (18, []), (19, []), (20, []), (21, []), (22, []), (23, []), (24, []), (26, []), (27, []), (29, []), (25, []), (28, []), (30, []), (31, []), (32, []), (33, []), (34, []), (35, [])]
structure Began (D : Df) (now : Int) (S : Sta) (l : List Ev) : Prop where
  ct : ∀ (i : Nat) (n : Nd) (x : Ns), D.nodes[i]? = some n → S.nodes[i]? = some x → l.countP (fun e => decide (e.node = n.name) && decide (e.kind ≠ 1)) = if x.st = 0 then 0 else 1
  tm : ∀ e ∈ l, e.kind = 7 → ∀ n ∈ D.nodes, e.node = n.name → e.number = W64 (now + n.delay)
theorem DefOK.inj {D : Df} (hD : DefOK D) {i j : Nat} {n m : Nd} (hn : D.nodes[i]? = some n) (hm : D.nodes[j]? = some m) (h : n.name = m.name) : i = j := by
  have h1 := hD.ds i n hn
  have h2 := hD.ds j m hm
  rw [h] at h1
  rw [h1] at h2
  exact Option.some.inj h2
theorem Bm.evs {now : Int} {S : Sta} {n : Nd} {x y : Ns} {g : List Sg} {e : Ev} {ts : List Tk} (hm : Bm now S n x y g e ts) : e.node = n.name ∧ e.kind ≠ 1 ∧ y.st ≠ 0 ∧ (e.kind = 7 → e.number = W64 (now + n.delay)) := by
  cases hm <;> simp
theorem Began.mv {D : Df} {now : Int} {R : Rn} {i : Nat} {n : Nd} {x y : Ns} {g : List Sg} {e : Ev} {ts : List Tk} (hD : DefOK D) (h : Began D now R.S R.ev) (hn : D.nodes[i]? = some n) (hx : R.S.nodes[i]? = some x) (h0 : x.st = 0) (hm : Bm now R.S n x y g e ts) :
    Began D now (mv R i y g e ts).S (mv R i y g e ts).ev := by
  obtain ⟨e1, e2, e3, e4⟩ := hm.evs
  refine ⟨fun j m z hj hz => ?_, fun e' he' hk m hmem hname => ?_⟩
  · show (R.ev ++ [e]).countP _ = _
    rw [List.countP_append, List.countP_singleton]
    have hz2 : (R.S.nodes.set i y)[j]? = some z := hz
    clear hz
    rename (R.S.nodes.set i y)[j]? = some z => hz
    rw [List.getElem?_set] at hz
    split at hz
    · rename_i hij
      subst hij
      split at hz
      · cases hz
        rw [hn] at hj; cases hj
        rw [h.ct i n x hn hx, if_pos h0, if_neg e3]
        simp [e1, e2]
      · cases hz
    · rename_i hij
      rw [h.ct j m z hj hz]
      have : ¬ e.node = m.name := fun hh => hij (hD.inj hn hj (e1 ▸ hh))
      simp [this]
  · have he' : e' ∈ R.ev ++ [e] := he'
    rcases List.mem_append.1 he' with he' | he'
    · exact h.tm e' he' hk m hmem hname
    · rw [List.mem_singleton] at he'
      subst he'
      obtain ⟨j, hj⟩ := List.getElem?_of_mem hmem
      have hij : i = j := hD.inj hn hj (e1 ▸ hname)
      subst hij
      rw [hn] at hj; cases hj
      exact e4 hk
theorem On.began {D : Df} {now : Int} (hD : DefOK D) {R R' : Rn} (h : On D now R R') (hb : Began D now R.S R.ev) (h1 : R'.S.status = 1) : Began D now R'.S R'.ev ∧ (rdy D R'.S).head? = none := by
  induction h with
  | more hs hl hr hn hx h0 hm ha h ih => exact ih (hb.mv hD hn hx h0 hm) h1
  | stay hs hl hr ha => exact ⟨hb, hr⟩
  | @done R hs hl hr ha =>
    obtain ⟨_, ts, he, _⟩ := cls_eq (D := D) (t := lastT R.S) hs (.inl rfl)
    rw [he] at h1
    exact absurd (show (2 : Int) = 1 from h1) (by decide)
  | @long R i n x hs hl hr hn hx h0 k hsz ha =>
    obtain ⟨_, ts, he, _⟩ := cls_eq (D := D) (R := mv R i { x with st := 4, text := longT } R.S.sigs ⟨6, n.name, longT, 0⟩ []) (t := longT) hs (.inr (.inl rfl))
    rw [he] at h1
    exact absurd (show (3 : Int) = 1 from h1) (by decide)
theorem Stp.began {D : Df} (hD : DefOK D) {a : Inp} {R : Rn} (h : Stp D sta0 a R) (h1 : R.S.status = 1) : Began D a.now R.S R.ev ∧ (rdy D R.S).head? = none := by
  cases h with
  | start h0 ha hp h =>
    refine h.began hD ⟨fun i n x hn hx => ?_, fun e he hk => ?_⟩ h1
    · have : x = ns0 := List.eq_of_mem_replicate (List.mem_of_getElem? hx)
      subst this
      simp [startR]
    · have : e = ⟨1, a.pnode, a.parent, 0⟩ := by simpa [startR] using he
      subst this
      exact absurd (show (1 : Int) = 7 from hk) (by decide)
  | on h9 hn hx hm ha h => exact absurd h9 (by decide)
  | stop h9 hn hx hm ha => exact absurd h9 (by decide)
  | kept h9 ha hk hp => exact absurd h9 (by decide)
  | fail h9 hn hx h ha => exact absurd h9 (by decide)
  | cancel h9 ha => exact absurd h9 (by decide)
theorem stepL_start0 {D : Df} {a : Inp} (ha : a.kind = 1) : (stepL D sta0 a).1 = 0 := by
  have : (stepR D a.now ⟨sta0, [], []⟩ a).1 = 0 := by
    unfold stepR
    rw [if_pos ha, if_neg (fun h => h rfl)]
  unfold stepL
  rw [if_pos this]
  exact this
def okJ (D : Df) (S : Sta) (s : ByteArray) (j : Nat) : Bool :=
  match D.nodes[j]?, S.nodes[j]? with
  | some m, some x => !decide (m.name = s) || decide (x.st = 3)
  | _, _ => true
def freeJ (D : Df) (S : Sta) (s : ByteArray) (j : Nat) : Bool := (List.range j).all (okJ D S s)
def freeK (D : Df) (S : Sta) (n : Nd) (k : Nat) : Bool := (n.after.take k).all fun s => freeJ D S s D.nodes.length
theorem freeJ_succ (D : Df) (S : Sta) (s : ByteArray) (j : Nat) : freeJ D S s (j + 1) = (freeJ D S s j && okJ D S s j) := by
  unfold freeJ
  rw [List.range_succ, List.all_append]
  simp
theorem freeK_succ {D : Df} {S : Sta} {n : Nd} {k : Nat} {s : ByteArray} (h : n.after[k]? = some s) : freeK D S n (k + 1) = (freeK D S n k && freeJ D S s D.nodes.length) := by
  unfold freeK
  rw [List.take_add_one, h, List.all_append]
  simp
theorem okJ_at {D : Df} {S : Sta} {s : ByteArray} {j : Nat} {m : Nd} {x : Ns} (hm : D.nodes[j]? = some m) (hx : S.nodes[j]? = some x) : okJ D S s j = (!decide (m.name = s) || decide (x.st = 3)) := by
  unfold okJ
  rw [hm, hx]
theorem seqd_self {D : Df} {l : List Nat} (hs : Seqd D l) {i : Nat} (hi : i ∈ l) {n : Nd} (hn : D.nodes[i]? = some n) : ∀ s ∈ n.after, ∃ j, fI D.nodes s = some j ∧ j ≠ i := by
  induction hs with
  | nil => cases hi
  | @snoc l k m h hk hm hmet ih =>
    rcases List.mem_append.1 hi with hi | hi
    · exact ih hi
    · rw [List.mem_singleton] at hi
      subst hi
      rw [hn] at hm; cases hm
      intro s hsm
      unfold metL at hmet
      have := List.all_eq_true.1 hmet s hsm
      unfold okS at this
      split at this
      · rename_i j hj
        simp only [Bool.and_eq_true, Bool.not_eq_true', decide_eq_false_iff_not] at this
        exact ⟨j, hj, this.1⟩
      · cases this
theorem free_met {D : Df} {S : Sta} (hT : Taken D) (hD : DefOK D) (hl : S.nodes.length = D.nodes.length) {i : Nat} {n : Nd} (hn : D.nodes[i]? = some n) : freeK D S n n.after.length = metL D.nodes i n (fun k => (ovL S).getD k false) := by
  obtain ⟨q, hq, hql⟩ := hT.sq
  have hi := (List.getElem?_eq_some_iff.1 hn).1
  have hself := seqd_self hq (seqd_all hq hql hi) hn
  unfold freeK metL
  rw [List.take_length]
  have : ∀ s ∈ n.after, freeJ D S s D.nodes.length = okS D.nodes i (fun k => (ovL S).getD k false) s := by
    intro s hs
    obtain ⟨j0, hj0, hne⟩ := hself s hs
    obtain ⟨m0, hm0, hmn⟩ := fI_get hj0
    have hj0l := (List.getElem?_eq_some_iff.1 hm0).1
    have hx0 := List.getElem?_eq_getElem (l := S.nodes) (i := j0) (by omega)
    unfold okS
    rw [hj0]
    have hd : decide (j0 = i) = false := by simp [hne]
    simp only [hd, Bool.not_false, Bool.true_and]
    rw [Bool.eq_iff_iff, ov_get]
    unfold freeJ
    rw [List.all_eq_true]
    constructor
    · intro h
      have := h j0 (List.mem_range.2 hj0l)
      rw [okJ_at hm0 hx0] at this
      simp only [hmn, decide_true, Bool.not_true, Bool.false_or, decide_eq_true_eq] at this
      exact ⟨_, hx0, this⟩
    · rintro ⟨x, hx, h3⟩ j hj
      have hjl := List.mem_range.1 hj
      have hmj := List.getElem?_eq_getElem hjl
      have hxj := List.getElem?_eq_getElem (l := S.nodes) (i := j) (by omega)
      rw [okJ_at hmj hxj]
      by_cases hnm : (D.nodes[j]).name = s
      · have : j = j0 := hD.inj hmj hm0 (by rw [hnm, hmn])
        subst this
        have e := Option.some.inj (hxj.symm.trans hx)
        rw [e]
        simp [h3]
      · simp [hnm]
  rw [Bool.eq_iff_iff, List.all_eq_true, List.all_eq_true]
  exact ⟨fun h s hs => by rw [← this s hs]; exact h s hs, fun h s hs => by rw [this s hs]; exact h s hs⟩
theorem root_free {D : Df} {S : Sta} (hT : Taken D) (hD : DefOK D) (hw : WS D S) (h1 : S.status = 1) (hr : (rdy D S).head? = none) {i : Nat} {n : Nd} {x : Ns} (hn : D.nodes[i]? = some n) (hx : S.nodes[i]? = some x) : freeK D S n n.after.length = decide (x.st ≠ 0) := by
  have hl := hw.ln (by omega)
  rw [free_met hT hD hl hn, Bool.eq_iff_iff, decide_eq_true_eq]
  constructor
  · intro h
    exact rdy_none hl hr hx (fun n' hn' => by rw [hn] at hn'; cases hn'; exact h)
  · intro h
    exact hw.ah i x hx h n hn
theorem und4 : Try.prog.underlying 4 = some .bool := by kernel_rfl
section
variable {ops : Array Oper} {w0 : World} {Mod : List Nat} {n : Nat} {F : FL} {M : ML} {K : Act → World → Prop} {chk : List Nat} {ty : TypeId} {pos : String} {aft : Array Edge} {d : Nat}
theorem SK.neB {U : TypeId} {x y : Operand} {a b : Bool} (hd : Nat.blt d n = true) (hx : ev F x = some (.bool a)) (hy : ev F y = some (.bool b))
    (h : SK w0 Mod n K ((d, .bool (!(a == b))) :: F) M) : SK w0 Mod n (stepE Try.prog ops ⟨some d, .binOp .neq 4 x y U, ty, pos, aft, none⟩ chk K) F M :=
  SK.bin hd hx hy (fun w' => by
    have := run_neq_bool (P := Try.prog) w' 4 a b und4
    simp only [eqGuard]
    simp [this]) h
end
theorem eld {l : List Ev} {i : Nat} {x : Ev} (hx : l[i]? = some x) (sp : List Value) (j : Nat) (u : Value) (hu : (Ev.c x)[j]? = some u) : nv (l.flatMap Ev.c ++ sp) (0 + i * 4 + j) = some u := by
  rw [Nat.zero_add]; exact flat_nv ev_len l sp i x hx j u hu
@[reducible] def inR (now : Int) : Inp := ⟨1, e0, bF, e0, 0, 0, now, e0, e0⟩
structure Root (D : Df) (now : Int) (R : Rn) : Prop where
  ln : R.S.nodes.length = D.nodes.length
  ev : R.S.events = (R.ev.length : Int)
  ne : 1 ≤ R.ev.length
  ws : WS D R.S
  bg : R.S.status = 1 → Began D now R.S R.ev ∧ (rdy D R.S).head? = none
theorem root_of {D : Df} (hT : Taken D) (hD : DefOK D) (now : Int) : (stepL D sta0 (inR now)).1 = 0 ∧ Root D now (stepL D sta0 (inR now)).2 := by
  have hA := stepL_aft (a := inR now) hD (good0 D) (show bF.size ≤ 1000 by decide)
  have h0 := stepL_start0 (D := D) (a := inR now) rfl
  have hs := stepL_stp hD (fun h => absurd h (by decide)) h0
  have hst := hs.status
  have hws := hs.ws hT.tries (ws0 D)
  have hf := hs.fold0
  refine ⟨h0, ⟨hws.ln (by omega), ?_, ?_, hws, fun h1 => hs.began hD h1⟩⟩
  · have := foldE_events hf (by show (0 : Int) ≤ 0; decide) (by have := hA.ev; show (0 : Int) + _ < _; omega)
    rw [this]
    show (0 : Int) + _ = _
    omega
  · refine Nat.one_le_iff_ne_zero.2 fun hz => ?_
    have hnil := List.eq_nil_of_length_eq_zero hz
    rw [hnil] at hf
    have : born (stepL D sta0 (inR now)).2.S = (stepL D sta0 (inR now)).2.S := Option.some.inj hf
    have h2 : (born (stepL D sta0 (inR now)).2.S).status = 0 := rfl
    rw [this] at h2
    omega
def cntP (n : Nd) (l : List Ev) : Nat := l.countP fun e => decide (e.node = n.name) && decide (e.kind ≠ 1)
theorem cntP_succ {n : Nd} {l : List Ev} {q : Nat} {e : Ev} (h : l[q]? = some e) : cntP n (l.take (q + 1)) = cntP n (l.take q) + (if e.node = n.name ∧ e.kind ≠ 1 then 1 else 0) := by
  unfold cntP
  rw [List.take_add_one, h, List.countP_append, Option.toList_some, List.countP_singleton]
  simp
set_option maxRecDepth 100000 in
set_option maxHeartbeats 16000000 in
theorem roots10 (D : Df) (A : Option Addr) (cap : Nat) (now0 : Int) (w : World) (hc : D.nodes.length ≤ cap) (hd0 : RDf (Vw w []) (.agg #[.string D.name, .slice A D.nodes.length cap]) D) (hT : Texts D)
    (hG : ∃ m, Vw w [] 0 0 (.int .i64 m)) : Ans 10 [.agg #[.string D.name, .slice A D.nodes.length cap], .int .i64 now0] w (.bool true) := by
  have hd := cut_rdf hd0
  have hTc := hT.cut
  have hG1 : ∀ w1 : World, (∀ b o v, Vw w [] b o v → Vw w1 [] b o v) → ∃ m, Vw w1 [] 0 0 (.int .i64 m) := fun w1 g => by obtain ⟨m, hm⟩ := hG; exact ⟨m, g _ _ _ hm⟩
  refine enter0 Try.func10 rfl Try.ntmps10 rfl ?_
  (repeat first|(with_reducible first|apply Za|apply Zb|apply Zc|apply Zd|apply Zi|apply Zs)|((with_reducible apply ZJ);rfl;rfl)|((with_reducible apply Zra);rfl;rfl;(focus (repeat constructor));rfl)|((with_reducible apply Zrf);rfl;rfl;intro _))
  refine SK.callA rfl rfl (fun w1 g1 _ => cut15 D A cap hc hT.2.1 w1 (hd0.mono g1)) ?_
  unfold cutV at hd ⊢
  generalize cutD D = E at hd hTc ⊢
  have hname : ∀ nm, nm = D.name → RDf (Vw w []) (.agg #[.string nm, .slice A E.nodes.length cap]) E → nm = E.name := by
    intro nm _ h
    obtain ⟨A', cap', he, _⟩ := h.nds
    have := congrArg (fun v => match v with | .agg a => (match a[0]? with | some (Value.string s) => some s | _ => none) | _ => none) he
    simpa using this
  have hnm := hname D.name rfl hd
  rw [hnm] at hd ⊢
  (repeat first|(with_reducible first|apply Za|apply Zb|apply Zc|apply Zd|apply Zi|apply Zs)|((with_reducible apply Zra);rfl;rfl;(focus (repeat constructor));rfl)|((with_reducible apply Zrc);rfl;rfl;rfl;exact List.cons_ne_nil _ _;(first|rfl|(repeat first|exact plain_nil|(refine plain_cons (by first|rfl|exact OwnD.plain_val _ _) ?_)));(focus (repeat constructor));rfl))
  refine SK.callO rfl rfl (fun w1 g1 _ => taken16 _ E w1 (hd.mono g1) hTc) ?_
  rintro bb htk
  cases bb with
  | false =>
    (repeat first|(with_reducible first|apply Za|apply Zb|apply Zc|apply Zd|apply Zi|apply Zs)|((with_reducible apply ZP);rfl;rfl)|((with_reducible apply ZC);rfl))
    refine SK.callA rfl rfl (fun w1 g1 _ => wakes17 w1 (hG1 w1 g1)) ?_
    (repeat first|(with_reducible first|apply Zc|apply Zd|apply Zi|apply Zk|apply Zp|apply Zs)|((with_reducible apply ZJ);rfl;rfl))
    exact SK.retQ rfl (by (repeat constructor)) (fun w' hm' => ⟨(), trivial, rfl, hm'.wk (by (repeat constructor))⟩)
  | true =>
    have hTk := htk rfl
    have hDO : DefOK E := hTk.ok (fun n hn => (hTc.2.2 n hn).2.2.2)
    have hne := hDO.ne
    have hle := hDO.le
    obtain ⟨A0, cap0, hA0, hnds⟩ := hd.nds
    have hA1 : A0 = A := by
      have := congrArg (fun v => match v with | .agg a => (match a[1]? with | some (Value.slice A _ _) => some A | _ => none) | _ => none) hA0
      simpa using this.symm
    subst hA1
    obtain ⟨bd, od, av0, hAd, hav0⟩ := hnds 0 _ (List.getElem?_eq_getElem (by omega))
    subst hAd
    clear hav0 av0
    have hnda : ∀ (i : Nat) (n : Nd), E.nodes[i]? = some n → ∃ av, RNd (Vw w []) bd (od + i * 7) n av := by
      intro i n hn
      obtain ⟨b', o', av, h1, h2⟩ := hnds i n hn
      cases h1
      exact ⟨av, h2⟩
    (repeat first|(with_reducible first|apply Za|apply Zb|apply Zc|apply Zd|apply Zi|apply Zo|apply Zs)|((with_reducible apply ZI);rfl;rfl)|((with_reducible apply ZP);rfl;rfl)|((with_reducible apply ZD);rfl))
    refine SK.callA rfl rfl (fun w1 _ _ => within22 now0 1125899906842625 w1 (by decide) (by decide)) ?_
    generalize withinL now0 1125899906842625 = now
    have hst1 := fun dv sv w1 h1 h2 h3 => step20 dv sv E sta0 (inR now) w1 hDO (good0 _) (show bF.size ≤ 1000 by decide) h1 h2 h3
    obtain ⟨r1, r2⟩ := root_of hTk hDO now
    have hA := (stepL_aft (a := inR now) hDO (good0 E) (show bF.size ≤ 1000 by decide)).ev
    generalize stepL E sta0 (inR now) = r at hst1 r1 r2 hA
    obtain ⟨e, R⟩ := r
    dsimp only at r1 r2 hA
    obtain ⟨hln, hev, hne1, hws, hbg⟩ := r2
    (repeat first|(with_reducible first|apply Za|apply Zb|apply Zc|apply Zd|apply Zi|apply Zs)|((with_reducible first|apply ZI|apply ZJ);rfl;rfl)|((with_reducible apply Zqr);rfl;rfl;rfl)|((with_reducible apply Zra);rfl;rfl;(focus (repeat constructor));rfl))
    refine SK.callO rfl rfl (fun w1 g1 _ => hst1 _ (stV sta0 (none, none)) w1 (hd.mono g1) (RSt.own ⟨rfl, rfl⟩ ⟨rfl, rfl⟩ (fun b cs hb => by cases hb) (fun b cs hb => by cases hb)) (by obtain ⟨m, hm⟩ := hG; exact ⟨m, g1 _ _ _ hm⟩)) ?_
    rintro ⟨⟨oN, oS⟩, oE, oT⟩ ⟨⟨hoN, hoS⟩, hoE, hoT⟩
    dsimp only at hoN hoS hoE hoT ⊢
    cases oN with
    | none => exact absurd hoN.2 (by show ¬ R.S.nodes.length = 0; omega)
    | some qN =>
    obtain ⟨bN, capN, spN⟩ := qN
    cases oE with
    | none => exact absurd hoE.2 (by show ¬ R.ev.length = 0; omega)
    | some qE =>
    obtain ⟨bE, capE, spE⟩ := qE
    (repeat first|(with_reducible first|apply Za|apply Zb|apply Zc|apply Zd|apply Zi|apply Zo|apply Zr|apply Zs)|((with_reducible first|apply ZI|apply ZJ|apply ZK|apply ZM|apply ZO);rfl;rfl)|((with_reducible apply Zqd);rfl;rfl;rfl;omega)|((with_reducible apply Zqn);rfl;rfl;rfl)|((with_reducible apply Zqs);rfl;rfl;rfl)|((with_reducible apply Zqz);rfl;rfl;(focus (repeat constructor));rfl)|((with_reducible apply Zrc);rfl;rfl;rfl;exact List.cons_ne_nil _ _;(first|rfl|(repeat first|exact plain_nil|(refine plain_cons (by first|rfl|exact OwnD.plain_val _ _) ?_)));(focus (repeat constructor));rfl)|((with_reducible apply Zrg);rfl;intro _)|((with_reducible apply ZD);rfl))
    rename_i b2 b6
    refine SK.loopW (fun i : Nat => [(9, .int .i64 (i : Int)), (1, .int .i64 now), (2, .pointer (some ⟨b2, 0, none⟩)), (5, .slice (some ⟨bE, 0, none⟩) R.ev.length capE), (6, .pointer (some ⟨b6, 0, none⟩))])
      (fun _ => some (b2, [.string E.name, .slice (some ⟨bd, od, none⟩) E.nodes.length cap], 24) :: some (b6, R.S.c (OwnD.val (some (bN, capN, spN)) R.S.nodes.length) (oS.val R.S.sigs.length), 33) :: stepM R ((some (bN, capN, spN), oS), some (bE, capE, spE), oT))
      (fun i => i ≤ E.nodes.length) (fun i => E.nodes.length - i) 0 (Nat.zero_le _) (by (repeat constructor)) (by (repeat constructor)) ?_
    intro i hi
    by_cases hil : i < E.nodes.length
    · by_cases hs1 : R.S.status = 1
      · obtain ⟨hbe, hrn⟩ := hbg hs1
        obtain ⟨n, hn⟩ : ∃ n, E.nodes[i]? = some n := ⟨_, List.getElem?_eq_getElem hil⟩
        have hilS : i < R.S.nodes.length := by omega
        obtain ⟨x, hx⟩ : ∃ x, R.S.nodes[i]? = some x := ⟨_, List.getElem?_eq_getElem hilS⟩
        obtain ⟨av, hnd⟩ := hnda i n hn
        have hcn := hnd.2
        obtain ⟨Aa, ca, rfl, haf⟩ := hnd.1.open (k := 1) (fun _ => rfl)
        have hafl := hDO.af n (List.mem_of_getElem? hn)
        have hlx0 := nld hx spN 0 (.int .i64 x.st) rfl
        have hfree := root_free hTk hDO hws hs1 hrn hn hx
        (repeat ((fail_if_success (with_reducible refine SK.atB 2 ?_)); first|(with_reducible first|apply Za|apply Zb|apply Zc|apply Zd|apply Zi|apply Zo|apply Zr)|((with_reducible first|apply ZI|apply ZJ|apply ZK|apply ZM|apply ZO);rfl;rfl)|((with_reducible first|apply ZS|apply ZW);rfl;rfl;rfl;omega)|((with_reducible apply Zqo);rfl;rfl;rfl)|((with_reducible apply Zqz);rfl;rfl;(focus (repeat constructor));rfl)|((with_reducible apply ZC);rfl)))
        refine SK.loopW (fun g : Nat × Bool => [(11, .int .i64 (g.1 : Int)), (10, .bool g.2), (9, .int .i64 (i : Int)), (1, .int .i64 now), (2, .pointer (some ⟨b2, 0, none⟩)), (5, .slice (some ⟨bE, 0, none⟩) R.ev.length capE), (6, .pointer (some ⟨b6, 0, none⟩))]) (fun _ => some (b2, [.string E.name, .slice (some ⟨bd, od, none⟩) E.nodes.length cap], 24) :: some (b6, R.S.c (OwnD.val (some (bN, capN, spN)) R.S.nodes.length) (oS.val R.S.sigs.length), 33) :: stepM R ((some (bN, capN, spN), oS), some (bE, capE, spE), oT))
          (fun g => g.1 ≤ n.after.length ∧ g.2 = freeK E R.S n g.1) (fun g => n.after.length - g.1) (0, true) ⟨Nat.zero_le _, by simp [freeK]⟩ (by (repeat constructor)) (by (repeat constructor)) ?_
        rintro ⟨k, fr⟩ ⟨hk, hfr⟩
        dsimp only at hk hfr ⊢
        by_cases hkl : k < n.after.length
        · obtain ⟨s, hs⟩ : ∃ s, n.after[k]? = some s := ⟨_, List.getElem?_eq_getElem hkl⟩
          obtain ⟨ba, oa, rfl, hsc⟩ := haf k s hs (by omega)
          have hsc0 := hsc 0 _ rfl
          (repeat ((fail_if_success (with_reducible refine SK.atB 4 ?_)); first|(with_reducible first|apply Za|apply Zb|apply Zc|apply Zd|apply Zi|apply Zo|apply Zr)|((with_reducible refine Yz ?_);first|((with_reducible apply SK.indexAddr); rfl; rfl; rfl; first | exact hil | exact hjl | exact hkl | exact hql | exact hilS | exact hjlS)|((with_reducible apply SK.load1R); rfl; rfl; first | exact hcn 0 _ rfl | exact hcn 4 _ rfl | exact hcn 6 _ rfl | exact hcm 0 _ rfl | exact hsc0)|((with_reducible first|apply ZI|apply ZJ|apply ZK|apply ZM);rfl;rfl)|((with_reducible apply ZS);rfl;rfl;rfl;omega)|((with_reducible apply Zqm);rfl;rfl;rfl)|((with_reducible apply Zqz);rfl;rfl;(focus (repeat constructor));rfl))|((with_reducible apply ZC);rfl)))
          refine SK.loopW (fun g : Nat × Bool => [(12, .int .i64 (g.1 : Int)), (10, .bool g.2), (11, .int .i64 (k : Int)), (9, .int .i64 (i : Int)), (1, .int .i64 now), (2, .pointer (some ⟨b2, 0, none⟩)), (5, .slice (some ⟨bE, 0, none⟩) R.ev.length capE), (6, .pointer (some ⟨b6, 0, none⟩))]) (fun _ => some (b2, [.string E.name, .slice (some ⟨bd, od, none⟩) E.nodes.length cap], 24) :: some (b6, R.S.c (OwnD.val (some (bN, capN, spN)) R.S.nodes.length) (oS.val R.S.sigs.length), 33) :: stepM R ((some (bN, capN, spN), oS), some (bE, capE, spE), oT))
            (fun g => g.1 ≤ E.nodes.length ∧ g.2 = (fr && freeJ E R.S s g.1)) (fun g => E.nodes.length - g.1) (0, fr) ⟨Nat.zero_le _, by simp [freeJ]⟩ (by (repeat constructor)) (by (repeat constructor)) ?_
          rintro ⟨j, fl⟩ ⟨hj, hfl⟩
          dsimp only at hj hfl ⊢
          by_cases hjl : j < E.nodes.length
          · have hjlS : j < R.S.nodes.length := by omega
            obtain ⟨m, hm⟩ : ∃ m, E.nodes[j]? = some m := ⟨_, List.getElem?_eq_getElem hjl⟩
            obtain ⟨z, hz⟩ : ∃ z, R.S.nodes[j]? = some z := ⟨_, List.getElem?_eq_getElem hjlS⟩
            obtain ⟨am, hmd⟩ := hnda j m hm
            have hcm := hmd.2
            have hlz0 := nld hz spN 0 (.int .i64 z.st) rfl
            have hok : freeJ E R.S s (j + 1) = (freeJ E R.S s j && (!decide (m.name = s) || decide (z.st = 3))) := by rw [freeJ_succ, okJ_at hm hz]
            cases fl with
            | false =>
              (repeat first|(with_reducible first|apply Za|apply Zb|apply Zc|apply Zd|apply Ze|apply Zi|apply Zl|apply Zo|apply Zr)|((with_reducible refine Yz ?_);first|((with_reducible refine SK.isBin ?_); first | ((with_reducible apply SK.iadd1); rfl; rfl; rfl; omega) | ((with_reducible apply SK.iadd); rfl; rfl; rfl))|((with_reducible first|apply ZI|apply ZJ|apply ZK|apply ZM);rfl;rfl)|((with_reducible apply ZS);rfl;rfl;rfl;omega)|((with_reducible apply Zqs);rfl;rfl;rfl)|((with_reducible apply Zqx);rfl;rfl;rfl;rfl)|((with_reducible apply Zqy);rfl;rfl;rfl)|((with_reducible apply Zqz);rfl;rfl;(focus (repeat constructor));rfl))|((with_reducible first|apply Zz|apply ZC);rfl)|refine Yi 18 i10_18 (by kernel_rfl) ?_)
              exact SK.roundW (j + 1, false) ⟨by omega, by dsimp only; rw [hok, ← Bool.and_assoc, ← hfl]; rfl⟩ (by dsimp only; omega) (by (repeat constructor)) (by (repeat constructor))
            | true =>
              by_cases hnm : m.name = s
              · have hnm' : ¬ (m.name ≠ s) := fun h => h hnm
                by_cases h3 : z.st = 3
                · (repeat first|(with_reducible first|apply Za|apply Zb|apply Zc|apply Zd|apply Ze|apply Zi|apply Zl|apply Zo|apply Zr)|((with_reducible refine Yz ?_);first|((with_reducible apply SK.indexAddr); rfl; rfl; rfl; first | exact hil | exact hjl | exact hkl | exact hql | exact hilS | exact hjlS)|((with_reducible apply SK.load1); rfl; rfl; (focus (repeat constructor)); first | with_reducible exact hlx0 | with_reducible exact hlz0 | with_reducible exact hle0 | with_reducible exact hle1 | with_reducible exact hle3)|((with_reducible apply SK.load1R); rfl; rfl; first | exact hcn 0 _ rfl | exact hcn 4 _ rfl | exact hcn 6 _ rfl | exact hcm 0 _ rfl | exact hsc0)|((with_reducible refine SK.isBin ?_); first | ((with_reducible apply SK.iadd1); rfl; rfl; rfl; omega) | ((with_reducible apply SK.iadd); rfl; rfl; rfl))|((with_reducible first|apply ZI|apply ZJ|apply ZK|apply ZM|apply ZO);rfl;rfl)|((with_reducible first|apply ZS|apply ZW);rfl;rfl;rfl;omega)|((with_reducible first|apply Zqm|apply Zqo);rfl;rfl;rfl)|((with_reducible apply Zqs);rfl;rfl;rfl)|((with_reducible apply Zqe);rfl;rfl;rfl;assumption)|((with_reducible apply Zqz);rfl;rfl;(focus (repeat constructor));rfl))|((with_reducible first|apply Zz|apply ZC);rfl)|refine Yi 18 i10_18 (by kernel_rfl) ?_)
                  exact SK.roundW (j + 1, true) ⟨by omega, by dsimp only; rw [hok, ← Bool.and_assoc, ← hfl]; simp [h3]⟩ (by dsimp only; omega) (by (repeat constructor)) (by (repeat constructor))
                · (repeat first|(with_reducible first|apply Za|apply Zb|apply Zc|apply Zd|apply Ze|apply Zi|apply Zl|apply Zo|apply Zr)|((with_reducible refine Yz ?_);first|((with_reducible apply SK.indexAddr); rfl; rfl; rfl; first | exact hil | exact hjl | exact hkl | exact hql | exact hilS | exact hjlS)|((with_reducible apply SK.load1); rfl; rfl; (focus (repeat constructor)); first | with_reducible exact hlx0 | with_reducible exact hlz0 | with_reducible exact hle0 | with_reducible exact hle1 | with_reducible exact hle3)|((with_reducible apply SK.load1R); rfl; rfl; first | exact hcn 0 _ rfl | exact hcn 4 _ rfl | exact hcn 6 _ rfl | exact hcm 0 _ rfl | exact hsc0)|((with_reducible refine SK.isBin ?_); first | ((with_reducible apply SK.iadd1); rfl; rfl; rfl; omega) | ((with_reducible apply SK.iadd); rfl; rfl; rfl))|((with_reducible first|apply ZI|apply ZJ|apply ZK|apply ZM|apply ZO);rfl;rfl)|((with_reducible apply ZS);rfl;rfl;rfl;omega)|((with_reducible apply Zqc);rfl;rfl;rfl;omega)|((with_reducible first|apply Zqm|apply Zqo);rfl;rfl;rfl)|((with_reducible apply Zqs);rfl;rfl;rfl)|((with_reducible apply Zqe);rfl;rfl;rfl;assumption)|((with_reducible apply Zqz);rfl;rfl;(focus (repeat constructor));rfl))|((with_reducible first|apply Zz|apply ZC);rfl)|refine Yi 18 i10_18 (by kernel_rfl) ?_)
                  exact SK.roundW (j + 1, false) ⟨by omega, by dsimp only; rw [hok, ← Bool.and_assoc, ← hfl]; simp [h3, hnm]⟩ (by dsimp only; omega) (by (repeat constructor)) (by (repeat constructor))
              · (repeat first|(with_reducible first|apply Za|apply Zb|apply Zc|apply Zd|apply Ze|apply Zi|apply Zl|apply Zo|apply Zr)|((with_reducible refine Yz ?_);first|((with_reducible apply SK.indexAddr); rfl; rfl; rfl; first | exact hil | exact hjl | exact hkl | exact hql | exact hilS | exact hjlS)|((with_reducible apply SK.load1R); rfl; rfl; first | exact hcn 0 _ rfl | exact hcn 4 _ rfl | exact hcn 6 _ rfl | exact hcm 0 _ rfl | exact hsc0)|((with_reducible refine SK.isBin ?_); first | ((with_reducible apply SK.iadd1); rfl; rfl; rfl; omega) | ((with_reducible apply SK.iadd); rfl; rfl; rfl))|((with_reducible first|apply ZI|apply ZJ|apply ZK|apply ZM|apply ZO);rfl;rfl)|((with_reducible apply ZS);rfl;rfl;rfl;omega)|((with_reducible first|apply Zqm|apply Zqo);rfl;rfl;rfl)|((with_reducible apply Zqt);rfl;rfl;rfl;assumption)|((with_reducible apply Zqx);rfl;rfl;rfl;rfl)|((with_reducible apply Zqz);rfl;rfl;(focus (repeat constructor));rfl))|((with_reducible first|apply Zz|apply ZC);rfl)|refine Yi 18 i10_18 (by kernel_rfl) ?_)
                exact SK.roundW (j + 1, true) ⟨by omega, by dsimp only; rw [hok, ← Bool.and_assoc, ← hfl]; simp [hnm]⟩ (by dsimp only; omega) (by (repeat constructor)) (by (repeat constructor))
          · have hj2 : j = E.nodes.length := by omega
            subst hj2
            (repeat first|(with_reducible first|apply Za|apply Zb|apply Zc|apply Zd|apply Zi|apply Zj|apply Zl|apply Zn|apply Zq)|((with_reducible refine Yz ?_);first|((with_reducible refine SK.isBin ?_); first | ((with_reducible apply SK.iadd1); rfl; rfl; rfl; omega) | ((with_reducible apply SK.iadd); rfl; rfl; rfl))|((with_reducible first|apply ZI|apply ZJ|apply ZK|apply ZM);rfl;rfl)|((with_reducible apply ZY);rfl;rfl;rfl;omega)|((with_reducible apply Zqz);rfl;rfl;(focus (repeat constructor));rfl))|((with_reducible apply ZD);rfl))
            exact SK.roundW (k + 1, fl) ⟨by omega, by dsimp only; rw [freeK_succ hs, ← hfr]; exact hfl⟩ (by dsimp only; omega) (by (repeat constructor)) (by (repeat constructor))
        · have hk2 : k = n.after.length := by omega
          subst hk2
          rw [hfree] at hfr
          have hb1 : cntP n R.ev = if x.st = 0 then 0 else 1 := hbe.ct i n x hn hx
          have htm := hbe.tm
          (repeat ((fail_if_success (with_reducible refine SK.atS 19 ?_)); first|(with_reducible first|apply Za|apply Zb|apply Zc|apply Zd|apply Zi|apply Zj|apply Zn|apply Zq)|((with_reducible refine Yz ?_);first|((with_reducible apply SK.indexAddr); rfl; rfl; rfl; first | exact hil | exact hjl | exact hkl | exact hql | exact hilS | exact hjlS)|((with_reducible apply SK.load1R); rfl; rfl; first | exact hcn 0 _ rfl | exact hcn 4 _ rfl | exact hcn 6 _ rfl | exact hcm 0 _ rfl | exact hsc0)|((with_reducible first|apply ZI|apply ZK|apply ZM);rfl;rfl)|((with_reducible apply ZY);rfl;rfl;rfl;omega)|((with_reducible apply Zqm);rfl;rfl;rfl)|((with_reducible apply Zqz);rfl;rfl;(focus (repeat constructor));rfl))|((with_reducible apply ZD);rfl)))
          refine SK.seqJ (fun _ : Unit => [(10, .bool fr), (9, .int .i64 (i : Int)), (1, .int .i64 now), (2, .pointer (some ⟨b2, 0, none⟩)), (5, .slice (some ⟨bE, 0, none⟩) R.ev.length capE), (6, .pointer (some ⟨b6, 0, none⟩))]) (fun _ => some (b2, [.string E.name, .slice (some ⟨bd, od, none⟩) E.nodes.length cap], 24) :: some (b6, R.S.c (OwnD.val (some (bN, capN, spN)) R.S.nodes.length) (oS.val R.S.sigs.length), 33) :: stepM R ((some (bN, capN, spN), oS), some (bE, capE, spE), oT)) (fun _ => True) ?_ ?_
          · by_cases hx0 : x.st = 0
            · have hf0 : fr = false := by rw [hfr]; simp [hx0]
              subst hf0
              (repeat first|(with_reducible first|apply Za|apply Zb|apply Zc|apply Zd|apply Zi|apply Zo)|((with_reducible refine Yz ?_);first|((with_reducible apply SK.indexAddr); rfl; rfl; rfl; first | exact hil | exact hjl | exact hkl | exact hql | exact hilS | exact hjlS)|((with_reducible apply SK.load1); rfl; rfl; (focus (repeat constructor)); first | with_reducible exact hlx0 | with_reducible exact hlz0 | with_reducible exact hle0 | with_reducible exact hle1 | with_reducible exact hle3)|((with_reducible apply SK.neB); rfl; rfl; rfl)|((with_reducible first|apply ZI|apply ZK);rfl;rfl)|((with_reducible apply Zqd);rfl;rfl;rfl;omega)|((with_reducible apply Zqm);rfl;rfl;rfl)|((with_reducible apply Zqz);rfl;rfl;(focus (repeat constructor));rfl))|((with_reducible apply ZD);rfl))
              exact SK.jumped () trivial (by (repeat constructor)) (by (repeat constructor))
            · have hf0 : fr = true := by rw [hfr]; simp [hx0]
              subst hf0
              (repeat first|(with_reducible first|apply Za|apply Zb|apply Zc|apply Zd|apply Zi|apply Zo)|((with_reducible refine Yz ?_);first|((with_reducible apply SK.indexAddr); rfl; rfl; rfl; first | exact hil | exact hjl | exact hkl | exact hql | exact hilS | exact hjlS)|((with_reducible apply SK.load1); rfl; rfl; (focus (repeat constructor)); first | with_reducible exact hlx0 | with_reducible exact hlz0 | with_reducible exact hle0 | with_reducible exact hle1 | with_reducible exact hle3)|((with_reducible apply SK.neB); rfl; rfl; rfl)|((with_reducible first|apply ZI|apply ZK);rfl;rfl)|((with_reducible apply ZX);rfl;rfl;rfl;omega)|((with_reducible apply Zqm);rfl;rfl;rfl)|((with_reducible apply Zqz);rfl;rfl;(focus (repeat constructor));rfl))|((with_reducible apply ZD);rfl))
              exact SK.jumped () trivial (by (repeat constructor)) (by (repeat constructor))
          rintro _ _
          (repeat ((fail_if_success (with_reducible refine SK.atB 6 ?_)); first|(with_reducible first|apply Za|apply Zb|apply Zc|apply Zd|apply Zi|apply Zr)|((with_reducible apply ZJ);rfl;rfl)))
          refine SK.loopW (fun g : Nat × Nat => [(14, .int .i64 (g.1 : Int)), (13, .int .i64 (g.2 : Int)), (10, .bool fr), (9, .int .i64 (i : Int)), (1, .int .i64 now), (2, .pointer (some ⟨b2, 0, none⟩)), (5, .slice (some ⟨bE, 0, none⟩) R.ev.length capE), (6, .pointer (some ⟨b6, 0, none⟩))]) (fun _ => some (b2, [.string E.name, .slice (some ⟨bd, od, none⟩) E.nodes.length cap], 24) :: some (b6, R.S.c (OwnD.val (some (bN, capN, spN)) R.S.nodes.length) (oS.val R.S.sigs.length), 33) :: stepM R ((some (bN, capN, spN), oS), some (bE, capE, spE), oT))
            (fun g => g.1 ≤ R.ev.length ∧ g.2 ≤ g.1 ∧ g.2 = cntP n (R.ev.take g.1)) (fun g => R.ev.length - g.1) (0, 0) ⟨Nat.zero_le _, Nat.zero_le _, by simp [cntP]⟩ (by (repeat constructor)) (by (repeat constructor)) ?_
          rintro ⟨q, c⟩ ⟨hq, hcq, hct⟩
          dsimp only at hq hcq hct ⊢
          by_cases hql : q < R.ev.length
          · obtain ⟨v, hv⟩ : ∃ v, R.ev[q]? = some v := ⟨_, List.getElem?_eq_getElem hql⟩
            have hle0 := eld hv spE 0 (.int .i64 v.kind) rfl
            have hle1 := eld hv spE 1 (.string v.node) rfl
            have hle3 := eld hv spE 3 (.int .i64 v.number) rfl
            have hsu := cntP_succ (n := n) hv
            by_cases hnode : v.node = n.name
            · have hnode' : ¬ (v.node ≠ n.name) := fun h => h hnode
              by_cases hk1 : v.kind = 1
              · rw [if_neg (fun h => h.2 hk1)] at hsu
                (repeat first|(with_reducible first|apply Za|apply Zb|apply Zc|apply Zd|apply Ze|apply Zi|apply Zl|apply Zo|apply Zr)|((with_reducible refine Yz ?_);first|((with_reducible apply SK.indexAddr); rfl; rfl; rfl; first | exact hil | exact hjl | exact hkl | exact hql | exact hilS | exact hjlS)|((with_reducible apply SK.load1); rfl; rfl; (focus (repeat constructor)); first | with_reducible exact hlx0 | with_reducible exact hlz0 | with_reducible exact hle0 | with_reducible exact hle1 | with_reducible exact hle3)|((with_reducible apply SK.load1R); rfl; rfl; first | exact hcn 0 _ rfl | exact hcn 4 _ rfl | exact hcn 6 _ rfl | exact hcm 0 _ rfl | exact hsc0)|((with_reducible refine SK.isBin ?_); first | ((with_reducible apply SK.iadd1); rfl; rfl; rfl; omega) | ((with_reducible apply SK.iadd); rfl; rfl; rfl))|((with_reducible first|apply ZI|apply ZJ|apply ZK|apply ZM|apply ZO);rfl;rfl)|((with_reducible apply ZS);rfl;rfl;rfl;omega)|((with_reducible first|apply Zqc|apply Zqd);rfl;rfl;rfl;omega)|((with_reducible first|apply Zqm|apply Zqo);rfl;rfl;rfl)|((with_reducible apply Zqs);rfl;rfl;rfl)|((with_reducible apply Zqf);rfl;rfl;rfl;assumption)|((with_reducible apply Zqx);rfl;rfl;rfl;rfl)|((with_reducible apply Zqz);rfl;rfl;(focus (repeat constructor));rfl))|((with_reducible first|apply Zz|apply ZC);rfl)|((with_reducible apply ZD);rfl)|refine Yi 25 i10_25 (by kernel_rfl) ?_|refine Yi 27 i10_27 (by kernel_rfl) ?_)
                exact SK.roundW (q + 1, c) ⟨by omega, by dsimp only; omega, by dsimp only; omega⟩ (by dsimp only; omega) (by (repeat constructor)) (by (repeat constructor))
              · rw [if_pos ⟨hnode, hk1⟩] at hsu
                by_cases hk7 : v.kind = 7
                · have hat : v.number = IntKind.i64.wrap (now + n.delay) := htm v (List.mem_of_getElem? hv) hk7 n (List.mem_of_getElem? hn) hnode
                  (repeat first|(with_reducible first|apply Za|apply Zb|apply Zc|apply Zd|apply Ze|apply Zi|apply Zl|apply Zo|apply Zr)|((with_reducible refine Yz ?_);first|((with_reducible apply SK.indexAddr); rfl; rfl; rfl; first | exact hil | exact hjl | exact hkl | exact hql | exact hilS | exact hjlS)|((with_reducible apply SK.load1); rfl; rfl; (focus (repeat constructor)); first | with_reducible exact hlx0 | with_reducible exact hlz0 | with_reducible exact hle0 | with_reducible exact hle1 | with_reducible exact hle3)|((with_reducible apply SK.load1R); rfl; rfl; first | exact hcn 0 _ rfl | exact hcn 4 _ rfl | exact hcn 6 _ rfl | exact hcm 0 _ rfl | exact hsc0)|((with_reducible refine SK.isBin ?_); first | ((with_reducible apply SK.iadd1); rfl; rfl; rfl; omega) | ((with_reducible apply SK.iadd); rfl; rfl; rfl))|((with_reducible first|apply ZI|apply ZJ|apply ZK|apply ZM|apply ZO);rfl;rfl)|((with_reducible first|apply ZS|apply ZW|apply ZX);rfl;rfl;rfl;omega)|((with_reducible apply Zqd);rfl;rfl;rfl;omega)|((with_reducible first|apply Zqm|apply Zqo);rfl;rfl;rfl)|((with_reducible apply Zqf);rfl;rfl;rfl;assumption)|((with_reducible apply Zqz);rfl;rfl;(focus (repeat constructor));rfl))|((with_reducible first|apply Zz|apply ZC);rfl)|((with_reducible apply ZD);rfl)|refine Yi 25 i10_25 (by kernel_rfl) ?_|refine Yi 27 i10_27 (by kernel_rfl) ?_)
                  exact SK.roundW (q + 1, c + 1) ⟨by omega, by dsimp only; omega, by dsimp only; omega⟩ (by dsimp only; omega) (by (repeat constructor)) (by (repeat constructor))
                · (repeat first|(with_reducible first|apply Za|apply Zb|apply Zc|apply Zd|apply Ze|apply Zi|apply Zl|apply Zo|apply Zr)|((with_reducible refine Yz ?_);first|((with_reducible apply SK.indexAddr); rfl; rfl; rfl; first | exact hil | exact hjl | exact hkl | exact hql | exact hilS | exact hjlS)|((with_reducible apply SK.load1); rfl; rfl; (focus (repeat constructor)); first | with_reducible exact hlx0 | with_reducible exact hlz0 | with_reducible exact hle0 | with_reducible exact hle1 | with_reducible exact hle3)|((with_reducible apply SK.load1R); rfl; rfl; first | exact hcn 0 _ rfl | exact hcn 4 _ rfl | exact hcn 6 _ rfl | exact hcm 0 _ rfl | exact hsc0)|((with_reducible refine SK.isBin ?_); first | ((with_reducible apply SK.iadd1); rfl; rfl; rfl; omega) | ((with_reducible apply SK.iadd); rfl; rfl; rfl))|((with_reducible first|apply ZI|apply ZJ|apply ZK|apply ZM|apply ZO);rfl;rfl)|((with_reducible first|apply ZS|apply ZX);rfl;rfl;rfl;omega)|((with_reducible apply Zqc);rfl;rfl;rfl;omega)|((with_reducible first|apply Zqm|apply Zqo);rfl;rfl;rfl)|((with_reducible apply Zqs);rfl;rfl;rfl)|((with_reducible apply Zqf);rfl;rfl;rfl;assumption)|((with_reducible apply Zqx);rfl;rfl;rfl;rfl)|((with_reducible apply Zqz);rfl;rfl;(focus (repeat constructor));rfl))|((with_reducible first|apply Zz|apply ZC);rfl)|((with_reducible apply ZD);rfl)|refine Yi 25 i10_25 (by kernel_rfl) ?_|refine Yi 27 i10_27 (by kernel_rfl) ?_)
                  exact SK.roundW (q + 1, c + 1) ⟨by omega, by dsimp only; omega, by dsimp only; omega⟩ (by dsimp only; omega) (by (repeat constructor)) (by (repeat constructor))
            · rw [if_neg (fun h => hnode h.1)] at hsu
              by_cases hk7 : v.kind = 7
              · (repeat first|(with_reducible first|apply Za|apply Zb|apply Zc|apply Zd|apply Ze|apply Zi|apply Zl|apply Zo|apply Zr)|((with_reducible refine Yz ?_);first|((with_reducible apply SK.indexAddr); rfl; rfl; rfl; first | exact hil | exact hjl | exact hkl | exact hql | exact hilS | exact hjlS)|((with_reducible apply SK.load1); rfl; rfl; (focus (repeat constructor)); first | with_reducible exact hlx0 | with_reducible exact hlz0 | with_reducible exact hle0 | with_reducible exact hle1 | with_reducible exact hle3)|((with_reducible apply SK.load1R); rfl; rfl; first | exact hcn 0 _ rfl | exact hcn 4 _ rfl | exact hcn 6 _ rfl | exact hcm 0 _ rfl | exact hsc0)|((with_reducible refine SK.isBin ?_); first | ((with_reducible apply SK.iadd1); rfl; rfl; rfl; omega) | ((with_reducible apply SK.iadd); rfl; rfl; rfl))|((with_reducible first|apply ZI|apply ZJ|apply ZK|apply ZM|apply ZO);rfl;rfl)|((with_reducible first|apply ZS|apply ZW);rfl;rfl;rfl;omega)|((with_reducible first|apply Zqm|apply Zqo);rfl;rfl;rfl)|((with_reducible apply Zqs);rfl;rfl;rfl)|((with_reducible apply Zqu);rfl;rfl;rfl;assumption)|((with_reducible apply Zqx);rfl;rfl;rfl;rfl)|((with_reducible apply Zqz);rfl;rfl;(focus (repeat constructor));rfl))|((with_reducible first|apply Zz|apply ZC);rfl)|((with_reducible apply ZD);rfl)|refine Yi 25 i10_25 (by kernel_rfl) ?_|refine Yi 27 i10_27 (by kernel_rfl) ?_)
                exact SK.roundW (q + 1, c) ⟨by omega, by dsimp only; omega, by dsimp only; omega⟩ (by dsimp only; omega) (by (repeat constructor)) (by (repeat constructor))
              · (repeat first|(with_reducible first|apply Za|apply Zb|apply Zc|apply Zd|apply Ze|apply Zi|apply Zl|apply Zo|apply Zr)|((with_reducible refine Yz ?_);first|((with_reducible apply SK.indexAddr); rfl; rfl; rfl; first | exact hil | exact hjl | exact hkl | exact hql | exact hilS | exact hjlS)|((with_reducible apply SK.load1); rfl; rfl; (focus (repeat constructor)); first | with_reducible exact hlx0 | with_reducible exact hlz0 | with_reducible exact hle0 | with_reducible exact hle1 | with_reducible exact hle3)|((with_reducible apply SK.load1R); rfl; rfl; first | exact hcn 0 _ rfl | exact hcn 4 _ rfl | exact hcn 6 _ rfl | exact hcm 0 _ rfl | exact hsc0)|((with_reducible refine SK.isBin ?_); first | ((with_reducible apply SK.iadd1); rfl; rfl; rfl; omega) | ((with_reducible apply SK.iadd); rfl; rfl; rfl))|((with_reducible first|apply ZI|apply ZJ|apply ZK|apply ZM);rfl;rfl)|((with_reducible apply ZS);rfl;rfl;rfl;omega)|((with_reducible apply Zqc);rfl;rfl;rfl;omega)|((with_reducible apply Zqm);rfl;rfl;rfl)|((with_reducible apply Zqs);rfl;rfl;rfl)|((with_reducible apply Zqu);rfl;rfl;rfl;assumption)|((with_reducible apply Zqx);rfl;rfl;rfl;rfl)|((with_reducible apply Zqz);rfl;rfl;(focus (repeat constructor));rfl))|((with_reducible first|apply Zz|apply ZC);rfl)|((with_reducible apply ZD);rfl)|refine Yi 25 i10_25 (by kernel_rfl) ?_|refine Yi 27 i10_27 (by kernel_rfl) ?_)
                exact SK.roundW (q + 1, c) ⟨by omega, by dsimp only; omega, by dsimp only; omega⟩ (by dsimp only; omega) (by (repeat constructor)) (by (repeat constructor))
          · have hq2 : q = R.ev.length := by omega
            subst hq2
            rw [List.take_length, hb1] at hct
            by_cases hx0 : x.st = 0
            · have hf0 : fr = false := by rw [hfr]; simp [hx0]
              subst hf0
              rw [if_pos hx0] at hct
              subst hct
              (repeat first|(with_reducible first|apply Za|apply Zb|apply Zc|apply Zd|apply Zi|apply Zj|apply Zl|apply Zn|apply Zo|apply Zq)|((with_reducible refine Yz ?_);first|((with_reducible apply SK.neB); rfl; rfl; rfl)|((with_reducible refine SK.isBin ?_); first | ((with_reducible apply SK.iadd1); rfl; rfl; rfl; omega) | ((with_reducible apply SK.iadd); rfl; rfl; rfl))|((with_reducible first|apply ZI|apply ZJ|apply ZM|apply ZO);rfl;rfl)|((with_reducible first|apply ZY|apply Zqa|apply Zqc);rfl;rfl;rfl;omega)|((with_reducible apply Zqs);rfl;rfl;rfl))|((with_reducible apply ZD);rfl))
              exact SK.roundW (i + 1) (by omega) (by omega) (by (repeat constructor)) (by (repeat constructor))
            · have hf0 : fr = true := by rw [hfr]; simp [hx0]
              subst hf0
              rw [if_neg hx0] at hct
              subst hct
              (repeat first|(with_reducible first|apply Za|apply Zb|apply Zc|apply Zd|apply Zi|apply Zj|apply Zl|apply Zn|apply Zo|apply Zq)|((with_reducible refine Yz ?_);first|((with_reducible apply SK.neB); rfl; rfl; rfl)|((with_reducible refine SK.isBin ?_); first | ((with_reducible apply SK.iadd1); rfl; rfl; rfl; omega) | ((with_reducible apply SK.iadd); rfl; rfl; rfl))|((with_reducible first|apply ZI|apply ZJ|apply ZM|apply ZO);rfl;rfl)|((with_reducible apply ZW);rfl;rfl;rfl;omega)|((with_reducible first|apply ZY|apply Zqa);rfl;rfl;rfl;omega)|((with_reducible apply Zqs);rfl;rfl;rfl))|((with_reducible apply ZD);rfl))
              exact SK.roundW (i + 1) (by omega) (by omega) (by (repeat constructor)) (by (repeat constructor))
      · (repeat first|(with_reducible first|apply Za|apply Zb|apply Zc|apply Zd|apply Zi|apply Zj|apply Zn|apply Zq)|((with_reducible first|apply ZI|apply ZK|apply ZM|apply ZO);rfl;rfl)|((with_reducible apply ZS);rfl;rfl;rfl;omega)|((with_reducible apply Zqc);rfl;rfl;rfl;omega)|((with_reducible apply Zqo);rfl;rfl;rfl)|((with_reducible apply Zqz);rfl;rfl;(focus (repeat constructor));rfl)|((with_reducible apply ZD);rfl))
        refine SK.callA rfl rfl (fun w1 g1 _ => wakes17 w1 (hG1 w1 g1)) ?_
        (repeat first|(with_reducible first|apply Zc|apply Zd|apply Zi|apply Zp|apply Zs)|((with_reducible apply ZJ);rfl;rfl))
        exact SK.retQ rfl (by (repeat constructor)) (fun w' hm' => ⟨(), trivial, rfl, hm'.wk (by (repeat constructor))⟩)
    · (repeat first|(with_reducible first|apply Za|apply Zb|apply Zc|apply Zd|apply Zi|apply Zj|apply Zn|apply Zq)|((with_reducible first|apply ZI|apply ZK|apply ZM);rfl;rfl)|((with_reducible apply ZY);rfl;rfl;rfl;omega)|((with_reducible apply Zqs);rfl;rfl;rfl)|((with_reducible apply Zqx);rfl;rfl;rfl;rfl)|((with_reducible apply Zqz);rfl;rfl;(focus (repeat constructor));rfl)|((with_reducible apply ZD);rfl))
      refine SK.callA rfl rfl (fun w1 g1 _ => wakes17 w1 (hG1 w1 g1)) ?_
      (repeat first|(with_reducible first|apply Zc|apply Zd|apply Zi|apply Zp|apply Zs)|((with_reducible apply ZJ);rfl;rfl))
      exact SK.retQ rfl (by (repeat constructor)) (fun w' hm' => ⟨(), trivial, rfl, hm'.wk (by (repeat constructor))⟩)
open Go.ChangeShapes Go.WideShapes Go.ChangeAt Go.RowKit
set_option maxRecDepth 100000 in
set_option maxHeartbeats 4000000 in
theorem historyRoots_lifted (os : Os) (started : os.Started) (H : Type) (enc : TypeId × Value → H) :
    ReturnsInHanded {} Try.checked os 10 .any (Rows.historyRootsSpec.pre6 enc Try.prog Try.f10 Rows.historyRootsRow.domain false) (Rows.historyRootsSpec.post enc Try.prog Try.f10 false true false false) := by
  refine returnsInHanded_of_change_shaped (C := Try.checked) Try.own started (by kernel_rfl) Try.func10
    (ChangeSpec.witness6 (enc := enc) (C := Try.checked) false ⟨#[], #[.agg #[.string ⟨#[]⟩, .slice none 0 0], .int .i64 0], []⟩ 8 (by kernel_rfl) (by kernel_rfl) (by kernel_rfl) (by kernel_rfl)) ?_
  intro W base args ds gs before hval0 hW hcnd0 hsz0 hsh _
  have hsz : (DataW.weightsEach Try.prog (Try.f10.params.toList ++ Rows.historyRootsSpec.plain.varTypes Try.prog) (ds ++ gs)).all (· ≤ reachBytes) = true := hsz0
  have hval : ∀ (j : Nat) t v, Try.f10.params[j]? = some t → args[j]? = some v → Value.okWide Try.prog W .any base t v := hval0
  have hW' := hW
  obtain ⟨p, q, hA0, hV, rfl, hfz, hnd⟩ := hW
  have hA : DataW.TrodAll enc Try.prog W 0 (fun _ => true) true Try.f10.params.toList args.toList ds p := hA0
  rw [Try.params10] at hA hval hsz
  obtain ⟨v0, v1, d0, d1, p0, p1, rfl, rfl, rfl, h0, h1⟩ := trodAll_two hA
  obtain ⟨rfl, rfl⟩ := trodVars_none hV
  have hlt := hW'.lt
  have hw0 : ∀ n ∈ d0.weights Try.prog 24, n ≤ reachBytes := fun n hn => by
    have := List.all_eq_true.1 hsz n (DataW.weights_mem_each (j := 0) rfl rfl n hn)
    simpa using this
  have hR : reachBytes < 9223372036854775807 := by decide
  obtain ⟨f0, t0⟩ := id h0
  have ok0 := hval 0 24 v0 rfl rfl
  unfold Value.okWide at ok0
  rw [Try.underlying24] at ok0
  obtain ⟨cs0, rfl, _, _⟩ := ok0
  obtain ⟨D, A, cap, e0, hcap, hrd, hT⟩ := open24 t0 hw0 hR
  have e0' : cs0 = #[.string D.name, .slice A D.nodes.length cap] := Array.ext' e0
  subst e0'
  obtain ⟨f1, t1⟩ := id h1
  obtain ⟨m1, rfl⟩ := okWide_int Try.underlying3 (hval 1 3 v1 rfl rfl)
  obtain ⟨m, hm⟩ := Try.laysM144.s1_3 W hsh
  have hrun := roots10 D A cap m1 W hcap (hrd.mono fun b o v h => Cw.vw h) hT  ⟨m, Cw.vw hm⟩
  refine Calls.mono hrun fun e W' ⟨_, _, he, hmem⟩ => ?_
  have hb := Mem.below hmem
  subst he
  have r0 := Below.trod Try.laidOut (ty_ok 24 (by kernel_rfl) (by kernel_rfl)).1 (ty_ok 24 (by kernel_rfl) (by kernel_rfl)).2 h0 hb (fun x hx => hlt x (by simp [hx]))
  have r1 := Below.trod Try.laidOut (ty_ok 3 (by kernel_rfl) (by kernel_rfl)).1 (ty_ok 3 (by kernel_rfl) (by kernel_rfl)).2 h1 hb (fun x hx => hlt x (by simp [hx]))
  exact ⟨_, rfl, ⟨_, _, _, [], _, [], hW', trodAll_mk1 (shut_bool Try.underlying4 _), trodAll_mk2 r0 r1, rfl, hb.frame _, fun h => by cases h⟩⟩
theorem HistoryRoots_holds : Rows.HistoryRootsSaid :=
  OpenClaim.holds_of_wide 10 Try.f10 rfl rfl rfl rfl rfl rfl rfl ⟨rfl, rfl, rfl, rfl, rfl⟩ rfl rfl rfl rfl rfl (by kernel_rfl) Try.func10 (by kernel_rfl)
    (of_decide_eq_true (by kernel_rfl)) (by unfold Func.isWrapper; rw [if_neg (of_decide_eq_false (by kernel_rfl))]; exact ⟨rfl, rfl⟩)
    (fun os started H enc _ => historyRoots_lifted os started H enc)
#print axioms HistoryRoots_holds
end Go.Proofs.Ytdnjfmgldkommaa
