/- Proved here: However a workflow goes, its events are bounded. -/
import Derived.Test.YtdnjfmgldkommaaQa
import Derived.Test.YtdnjfmgldkommaaLc
import Derived.Test.YtdnjfmgldkommaaRows
import Derived.HandedShaped
import Derived.Carry
namespace Go.Proofs.Ytdnjfmgldkommaa
open Go.Sx
def left (n : Nd) (x : Ns) : Int :=
  if n.kind = 1 then (if x.st = 0 then 1 + 2 * n.tries else if x.st = 1 then 2 * (n.tries - x.try_) else if x.st = 2 then 2 * (n.tries - x.try_) + 1 else 0)
  else (if x.st = 0 then 2 else if x.st = 2 then 1 else 0)
def leftS : List Nd → List Ns → Int
  | n :: l, x :: m => left n x + leftS l m
  | _, _ => 0
theorem leftS_set : ∀ {l : List Nd} {m : List Ns} {i : Nat} {n : Nd} {x : Ns} (y : Ns), l[i]? = some n → m[i]? = some x → leftS l (m.set i y) = leftS l m - left n x + left n y
  | n' :: l, x' :: m, 0, n, x, y, hn, hx => by
    simp at hn hx
    subst hn; subst hx
    simp [leftS]
    omega
  | n' :: l, x' :: m, i + 1, n, x, y, hn, hx => by
    simp at hn hx
    have := leftS_set (l := l) (m := m) y hn hx
    simp only [List.set_cons_succ, leftS, this]
    omega
  | [], m, i, n, x, y, hn, hx => by simp at hn
  | n' :: l, [], i, n, x, y, hn, hx => by simp at hx
theorem left_pos {n : Nd} {x : Ns} (h : NodeW n x) (ht : n.kind = 1 → 1 ≤ n.tries ∧ n.tries ≤ 10) : 0 ≤ left n x := by
  have h1 := h.t1
  have h2 := h.t2
  unfold left
  split
  · rename_i k
    have := ht k
    split
    · omega
    · split
      · rename_i hs; have := h1 k hs; omega
      · split
        · rename_i hs; have := h2 k hs; omega
        · omega
  · split
    · omega
    · split <;> omega
theorem leftS_pos : ∀ {l : List Nd} {m : List Ns}, (∀ (i : Nat) (n : Nd) (x : Ns), l[i]? = some n → m[i]? = some x → NodeW n x) → (∀ n ∈ l, n.kind = 1 → 1 ≤ n.tries ∧ n.tries ≤ 10) → 0 ≤ leftS l m
  | n :: l, x :: m, h, ht => by
    have h1 := left_pos (h 0 n x rfl rfl) (ht n List.mem_cons_self)
    have h2 := leftS_pos (l := l) (m := m) (fun i n x hn hx => h (i + 1) n x (by simpa using hn) (by simpa using hx)) (fun n hn => ht n (List.mem_cons_of_mem _ hn))
    simp only [leftS]
    omega
  | [], m, _, _ => by simp [leftS]
  | n :: l, [], _, _ => by simp [leftS]
def pot (D : Df) (S : Sta) (l : List Ev) : Int := l.length + leftS D.nodes S.nodes + (if S.status = 1 then 1 else 0)
theorem pot_mv {D : Df} {R : Rn} {i : Nat} {n : Nd} {x y : Ns} {g : List Sg} {e : Ev} {ts : List Tk} (hn : D.nodes[i]? = some n) (hx : R.S.nodes[i]? = some x) (h : left n y + 1 ≤ left n x) : pot D (mv R i y g e ts).S (mv R i y g e ts).ev ≤ pot D R.S R.ev := by
  unfold pot
  show ((R.ev ++ [e]).length : Int) + leftS D.nodes (R.S.nodes.set i y) + (if R.S.status = 1 then 1 else 0) ≤ _
  rw [leftS_set y hn hx, List.length_append, List.length_singleton]
  omega
theorem pot_cls {D : Df} {R : Rn} {st : Int} {t : ByteArray} (hs : R.S.status = 1) (h4 : st = 2 ∨ st = 3 ∨ st = 4) : pot D (cls D R st t).S (cls D R st t).ev ≤ pot D R.S R.ev := by
  obtain ⟨_, ts, he, _⟩ := cls_eq (D := D) (t := t) hs h4
  rw [he]
  unfold pot
  show ((R.ev ++ [_]).length : Int) + leftS D.nodes R.S.nodes + (if st = 1 then 1 else 0) ≤ _
  rw [if_pos hs, if_neg (by omega), List.length_append, List.length_singleton]
  omega
theorem Bm.leftE {now : Int} {S : Sta} {n : Nd} {x y : Ns} {g : List Sg} {e : Ev} {ts : List Tk} (hm : Bm now S n x y g e ts) (hx : NodeW n x) (h0 : x.st = 0) (ht : n.kind = 1 → 1 ≤ n.tries ∧ n.tries ≤ 10) : left n y + 1 ≤ left n x := by
  have ht0 := hx.t0 h0
  unfold left
  cases hm with
  | sched k => have := ht k; simp [k, h0, ht0]; omega
  | timer k => simp [k, h0]
  | child k => simp [k, h0]
  | await k => simp [k, h0]
  | got j k => simp [k, h0]
  | send k => simp [k, h0]
theorem Fm.leftE {S : Sta} {a : Inp} {n : Nd} {x y : Ns} {e : Ev} {ts : List Tk} {b : Bool} (hm : Fm S a n x b y e ts) (hx : NodeW n x) (ht : n.kind = 1 → 1 ≤ n.tries ∧ n.tries ≤ 10) : left n y + 1 ≤ left n x := by
  unfold left
  cases hm with
  | taken ha k h =>
    have h1 := hx.t1 k h
    have h2 := ht k
    have h3 : W64 (x.try_ + 1) = x.try_ + 1 := wrap_small (by omega) (by omega)
    simp [k, h, h3]; omega
  | again ha k h htr => simp [k, h]
  | full ha k h => have := hx.t2 k h; simp [k, h]; omega
  | fired ha k h => simp [k, h]
  | told ha k h => simp [k, h]
  | recv ha k h => simp [k, h]
theorem left_fail {n : Nd} {x : Ns} {t : ByteArray} (hx : NodeW n x) (h : x.st = 2) : left n { x with st := 4, text := t } + 1 ≤ left n x := by
  unfold left
  by_cases k : n.kind = 1
  · have := hx.t2 k h
    simp [k, h]; omega
  · simp [k, h]
theorem On.potE {D : Df} {now : Int} (hT : Tries D) {R R' : Rn} (h : On D now R R') (hw : WN D R.S) : pot D R'.S R'.ev ≤ pot D R.S R.ev := by
  induction h with
  | @more R R' i n x y g e ts hs hl hr hn hx h0 hm ha h ih =>
    obtain ⟨w1, w2, w3, w4⟩ := hm.nodeW (hw.nd _ _ _ hn hx) h0 (hT _ (List.mem_of_getElem? hn))
    exact Int.le_trans (ih (hw.mv hn hx (by omega) (rdy_ahead hr) w1 w4)) (pot_mv hn hx (hm.leftE (hw.nd _ _ _ hn hx) h0 (hT _ (List.mem_of_getElem? hn))))
  | stay hs hl hr ha => exact Int.le_refl _
  | done hs hl hr ha => exact pot_cls hs (.inl rfl)
  | @long R i n x hs hl hr hn hx h0 k hsz ha =>
    refine Int.le_trans (pot_cls (R := mv R i { x with st := 4, text := longT } R.S.sigs ⟨6, n.name, longT, 0⟩ []) hs (.inr (.inl rfl))) (pot_mv hn hx ?_)
    unfold left
    simp [k, h0]
theorem Stp.potE {D : Df} (hT : Tries D) {S : Sta} {a : Inp} {R : Rn} (hw : WS D S) (h1 : S.status = 1) (h : Stp D S a R) : pot D R.S R.ev ≤ pot D S [] + (if a.kind = 2 then 1 else 0) := by
  have hwn := hw.wn (by omega)
  have hz : (0 : Int) ≤ (if a.kind = 2 then 1 else 0) := by split <;> omega
  cases h with
  | start h0 ha hp h => omega
  | @on i n x y e ts _ h1 hn hx hm ha h =>
    obtain ⟨w1, w2, w3, w4⟩ := hm.nodeW (hwn.nd _ _ _ hn hx) (hT _ (List.mem_of_getElem? hn))
    have g1 := h.potE hT (WN.mv (R := ⟨S, [], []⟩) hwn hn hx w3 (hwn.ah _ _ hx w4) w1 (Nat.le_refl _))
    have g2 := pot_mv (R := ⟨S, [], []⟩) (g := S.sigs) (e := e) (ts := ts) hn hx (hm.leftE (hwn.nd _ _ _ hn hx) (hT _ (List.mem_of_getElem? hn)))
    have g3 : pot D R.S R.ev ≤ pot D S [] := Int.le_trans g1 g2
    omega
  | @stop i n x y e ts h1 hn hx hm ha =>
    have g2 := pot_mv (R := ⟨S, [], []⟩) (g := S.sigs) (e := e) (ts := ts) hn hx (hm.leftE (hwn.nd _ _ _ hn hx) (hT _ (List.mem_of_getElem? hn)))
    exact Int.le_trans g2 (by show pot D S [] ≤ _; omega)
  | kept h1 ha hk hp =>
    rw [if_pos ha]
    unfold pot
    show (([_] : List Ev).length : Int) + leftS D.nodes S.nodes + (if S.status = 1 then 1 else 0) ≤ ((([] : List Ev).length : Int) + leftS D.nodes S.nodes + _) + 1
    simp only [List.length_singleton, List.length_nil]
    omega
  | @fail i n x t h1 hn hx h ha =>
    have g1 := pot_cls (D := D) (R := mv ⟨S, [], []⟩ i { x with st := 4, text := t } S.sigs ⟨6, n.name, t, 0⟩ []) (st := 3) (t := t) h1 (.inr (.inl rfl))
    have g2 := pot_mv (D := D) (R := ⟨S, [], []⟩) (i := i) (g := S.sigs) (e := ⟨6, n.name, t, 0⟩) (ts := []) hn hx (left_fail (t := t) (hwn.nd _ _ _ hn hx) h)
    exact Int.le_trans g1 (Int.le_trans g2 (by show pot D S [] ≤ _; omega))
  | cancel h1 ha => exact Int.le_trans (pot_cls (R := ⟨S, [], []⟩) h1 (.inr (.inr rfl))) (by show pot D S [] ≤ _; omega)
def full (D : Df) : Int := leftS D.nodes (List.replicate D.nodes.length ns0)
theorem Stp.pot0 {D : Df} (hT : Tries D) {a : Inp} {R : Rn} (h : Stp D sta0 a R) : pot D R.S R.ev ≤ 2 + full D := by
  cases h with
  | start h0 ha hp h =>
    have := h.potE hT (startW (a := a) (show sta0.sigs.length ≤ 32 by decide)).1
    refine Int.le_trans this ?_
    unfold pot full
    show (([_] : List Ev).length : Int) + leftS D.nodes (List.replicate D.nodes.length ns0) + (if (1 : Int) = 1 then 1 else 0) ≤ _
    simp only [List.length_singleton]
    omega
  | on h1 hn hx hm ha h => exact absurd h1 (by decide)
  | stop h1 hn hx hm ha => exact absurd h1 (by decide)
  | kept h1 ha hk hp => exact absurd h1 (by decide)
  | fail h1 hn hx h ha => exact absurd h1 (by decide)
  | cancel h1 ha => exact absurd h1 (by decide)
def LongI (D : Df) (S : Sta) (l : List Ev) (sig : Nat) : Prop := (S = sta0 ∧ l = []) ∨ (1 ≤ S.status ∧ pot D S l ≤ 2 + full D + sig)
theorem pot_app {D : Df} {S : Sta} {l m : List Ev} : pot D S (l ++ m) = l.length + pot D S m := by
  unfold pot
  rw [List.length_append]
  omega
theorem playL_long {D : Df} {p : Sta × List Ev} {a : Inp} {sig : Nat} (hD : DefOK D) (hT : Tries D) (hw : WS D p.1) (h : LongI D p.1 p.2 sig) : LongI D (playL D p a).1 (playL D p a).2 (if a.kind = 2 then sig + 1 else sig) := by
  have hup : LongI D p.1 p.2 (if a.kind = 2 then sig + 1 else sig) := by
    rcases h with h | ⟨h1, h2⟩
    · exact .inl h
    · exact .inr ⟨h1, by split <;> omega⟩
  unfold playL
  split
  · rename_i h0
    have hs := stepL_stp hD (fun h1 => hw.ln (by omega)) h0
    refine .inr ⟨hs.status.1, ?_⟩
    show pot D (stepL D p.1 a).2.S (p.2 ++ (stepL D p.1 a).2.ev) ≤ _
    rw [pot_app]
    rcases h with ⟨h1, h2⟩ | ⟨h1, h2⟩
    · rw [h1] at hs ⊢
      rw [h2]
      have := hs.pot0 hT
      simp only [List.length_nil]
      have : (0 : Int) ≤ ((if a.kind = 2 then sig + 1 else sig : Nat) : Int) := Int.natCast_nonneg _
      omega
    · have hs1 : p.1.status = 1 := by
        refine Classical.byContradiction fun hn => ?_
        exact stepL_closed (a := a) (by omega) hn h0
      have h3 := hs.potE hT hw hs1
      have h4 : pot D p.1 p.2 = p.2.length + pot D p.1 [] := by
        have := pot_app (D := D) (S := p.1) (l := p.2) (m := [])
        rwa [List.append_nil] at this
      by_cases hk : a.kind = 2
      · rw [if_pos hk] at h3 ⊢; omega
      · rw [if_neg hk] at h3 ⊢; omega
  · exact hup
def capN : List Nd → Int
  | [] => 0
  | n :: l => 4 + 3 * n.tries + capN l
theorem capN_snoc : ∀ {l : List Nd} {n : Nd}, capN (l ++ [n]) = capN l + 4 + 3 * n.tries
  | [], n => by simp [capN]
  | m :: l, n => by simp only [List.cons_append, capN, capN_snoc]; omega
theorem capN_take {l : List Nd} {k : Nat} {n : Nd} (h : l[k]? = some n) : capN (l.take (k + 1)) = capN (l.take k) + 4 + 3 * n.tries := by
  rw [List.take_add_one, h]
  exact capN_snoc
theorem capN_range : ∀ {l : List Nd}, (∀ n ∈ l, 0 ≤ n.tries ∧ n.tries ≤ 10) → 0 ≤ capN l ∧ capN l ≤ 34 * l.length
  | [], _ => by simp [capN]
  | n :: l, h => by
    have h1 := h n List.mem_cons_self
    have h2 := capN_range (l := l) (fun m hm => h m (List.mem_cons_of_mem _ hm))
    simp only [capN, List.length_cons]
    omega
theorem full_cap : ∀ {l : List Nd}, (∀ n ∈ l, 0 ≤ n.tries ∧ n.tries ≤ 10) → leftS l (List.replicate l.length ns0) ≤ capN l
  | [], _ => by simp [leftS, capN]
  | n :: l, h => by
    have h1 := h n List.mem_cons_self
    have h2 := full_cap (l := l) (fun m hm => h m (List.mem_cons_of_mem _ hm))
    simp only [List.length_cons, List.replicate_succ, leftS, capN]
    have : left n ns0 ≤ 4 + 3 * n.tries := by
      unfold left
      split
      · simp; omega
      · simp; omega
    omega
theorem long_end {D : Df} {S : Sta} {l : List Ev} {sig : Nat} (hT : Tries D) (hr : ∀ n ∈ D.nodes, 0 ≤ n.tries ∧ n.tries ≤ 10) (hw : WS D S) (h : LongI D S l sig) : (l.length : Int) ≤ 2 + 2 * sig + capN D.nodes := by
  have hc := full_cap hr
  have hc0 := (capN_range hr).1
  rcases h with ⟨_, h2⟩ | ⟨_, h2⟩
  · rw [h2]; simp; omega
  · have hp := leftS_pos (l := D.nodes) (m := S.nodes) hw.nd hT
    unfold pot full at h2
    split at h2 <;> omega
theorem Taken.range {D : Df} (h : Taken D) : ∀ n ∈ D.nodes, 0 ≤ n.tries ∧ n.tries ≤ 10 := fun n hn => by
  obtain ⟨i, hi⟩ := List.getElem?_of_mem hn
  by_cases k : n.kind = 1
  · have := (h.nd i n hi).t1 k; omega
  · have := (h.nd i n hi).t0 k; omega
set_option maxRecDepth 100000 in
set_option maxHeartbeats 16000000 in
theorem long6 (D : Df) (A : Option Addr) (cap : Nat) (iv : Value) (l : List Inp) (w : World) (hc : D.nodes.length ≤ cap) (hd0 : RDf (Vw w []) (.agg #[.string D.name, .slice A D.nodes.length cap]) D) (hT : Texts D)
    (hi : RSl (Vw w []) iv l.length (l.flatMap Inp.c)) (hI : InOK l) (hG : ∃ m, Vw w [] 0 0 (.int .i64 m)) :
    Ans 6 [.agg #[.string D.name, .slice A D.nodes.length cap], iv] w (.bool true) := by
  obtain ⟨Ai, ci, rfl, hin⟩ := hi.open inp_len
  have hd := cut_rdf hd0
  have hTc := hT.cut
  have hG1 : ∀ w1 : World, (∀ b o v, Vw w [] b o v → Vw w1 [] b o v) → ∃ m, Vw w1 [] 0 0 (.int .i64 m) := fun w1 g => by obtain ⟨m, hm⟩ := hG; exact ⟨m, g _ _ _ hm⟩
  refine enter0 Try.func6 rfl Try.ntmps6 rfl ?_
  (repeat first|(with_reducible first|apply Za|apply Zb|apply Zc|apply Zd|apply Zi|apply Zs)|((with_reducible apply ZJ);rfl;rfl)|((with_reducible apply Zra);rfl;rfl;(focus (repeat constructor));rfl)|((with_reducible apply Zrf);rfl;rfl;intro _))
  refine SK.callA rfl rfl (fun w1 g1 _ => cut15 D A cap hc hT.2.1 w1 (hd0.mono g1)) ?_
  unfold cutV at hd ⊢
  generalize cutD D = E at hd hTc ⊢
  have hname : ∀ nm, nm = D.name → RDf (Vw w []) (.agg #[.string nm, .slice A E.nodes.length cap]) E → nm = E.name := by
    intro nm _ h
    obtain ⟨A', cap', he, _⟩ := h.nds
    have := congrArg (fun v => match v with | .agg a => (match a[0]? with | some (Value.string s) => some s | _ => none) | _ => none) he
    simpa using this
  have hnm := hname D.name rfl hd
  rw [hnm] at hd ⊢
  (repeat first|(with_reducible first|apply Za|apply Zb|apply Zc|apply Zd|apply Zi|apply Zs)|((with_reducible apply Zra);rfl;rfl;(focus (repeat constructor));rfl)|((with_reducible apply Zrc);rfl;rfl;rfl;exact List.cons_ne_nil _ _;(first|rfl|(repeat first|exact plain_nil|(refine plain_cons (by first|rfl|exact OwnD.plain_val _ _) ?_)));(focus (repeat constructor));rfl))
  refine SK.callO rfl rfl (fun w1 g1 _ => taken16 _ E w1 (hd.mono g1) hTc) ?_
  rintro bb htk
  cases bb with
  | false =>
    (repeat first|(with_reducible first|apply Za|apply Zb|apply Zc|apply Zd|apply Zi|apply Zs)|((with_reducible apply ZP);rfl;rfl)|((with_reducible apply ZC);rfl))
    refine SK.callA rfl rfl (fun w1 g1 _ => wakes17 w1 (hG1 w1 g1)) ?_
    (repeat first|(with_reducible first|apply Zc|apply Zd|apply Zi|apply Zk|apply Zp|apply Zs)|((with_reducible apply ZJ);rfl;rfl))
    exact SK.retQ rfl (by (repeat constructor)) (fun w' hm' => ⟨(), trivial, rfl, hm'.wk (by (repeat constructor))⟩)
  | true =>
    have hDO : DefOK E := (htk rfl).ok (fun n hn => (hTc.2.2 n hn).2.2.2)
    have hTr : Tries E := (htk rfl).tries
    have hRa := (htk rfl).range
    have hdn := hDO.le
    obtain ⟨A0, cap0, hA0, hnds⟩ := hd.nds
    have hA1 : A0 = A := by
      have := congrArg (fun v => match v with | .agg a => (match a[1]? with | some (Value.slice A _ _) => some A | _ => none) | _ => none) hA0
      simpa using this.symm
    subst hA1
    (repeat ((fail_if_success (with_reducible refine SK.atS 6 ?_)); first|(with_reducible first|apply Za|apply Zb|apply Zc|apply Zd|apply Zi|apply Zo|apply Zs)|((with_reducible apply ZJ);rfl;rfl)|((with_reducible apply ZP);rfl;rfl)|((with_reducible apply Zqr);rfl;rfl;rfl)|((with_reducible apply Zra);rfl;rfl;(focus (repeat constructor));rfl)|((with_reducible apply Zrf);rfl;rfl;intro _)|((with_reducible apply ZD);rfl)))
    rename_i b2 bp
    refine SK.seqJ (fun g : Nat × Sta × List Ev × ((OwnD × OwnD) × OwnD) => [(6, .int .i64 (g.1 : Int)), (2, .pointer (some ⟨b2, 0, none⟩)), (5, .pointer (some ⟨bp, 0, none⟩))])
      (fun g => some (b2, [.string E.name, .slice A0 E.nodes.length cap], 24) :: plM bp E (.slice A0 E.nodes.length cap) g.2.1 g.2.2.1 g.2.2.2)
      (fun g => OPl g.2.1 g.2.2.1 g.2.2.2 ∧ WS E g.2.1 ∧ LongI E g.2.1 g.2.2.1 g.1 ∧ g.1 ≤ 60 ∧ g.2.2.1.length ≤ 6000000) ?_ ?_
    · (repeat first|(with_reducible first|apply Za|apply Zb|apply Zc|apply Zd|apply Zi|apply Zr)|((with_reducible apply ZJ);rfl;rfl))
      refine SK.loopW (fun g : Nat × Nat × Sta × List Ev × ((OwnD × OwnD) × OwnD) => [(7, .int .i64 (g.1 : Int)), (6, .int .i64 (g.2.1 : Int)), (1, .slice Ai l.length ci), (2, .pointer (some ⟨b2, 0, none⟩)), (5, .pointer (some ⟨bp, 0, none⟩))])
        (fun g => some (b2, [.string E.name, .slice A0 E.nodes.length cap], 24) :: plM bp E (.slice A0 E.nodes.length cap) g.2.2.1 g.2.2.2.1 g.2.2.2.2)
        (fun g => g.1 ≤ l.length ∧ g.1 ≤ 60 ∧ g.2.1 ≤ g.1 ∧ Good E g.2.2.1 ∧ OPl g.2.2.1 g.2.2.2.1 g.2.2.2.2 ∧ g.2.2.2.1.length ≤ 100000 * g.1 ∧ WS E g.2.2.1 ∧ LongI E g.2.2.1 g.2.2.2.1 g.2.1) (fun g => l.length - g.1) (0, 0, sta0, [], ((none, none), none))
        ⟨Nat.zero_le _, Nat.zero_le _, Nat.le_refl _, good0 E, ⟨⟨⟨rfl, rfl⟩, ⟨rfl, rfl⟩⟩, ⟨rfl, rfl⟩⟩, Nat.zero_le _, ws0 E, .inl ⟨rfl, rfl⟩⟩ (by (repeat constructor)) (by (repeat constructor)) ?_
      rintro ⟨i, sig, S, ev, z⟩ ⟨hil, hi60, hsg, hgo, hz, hev, hws, hlo⟩
      dsimp only at hil hi60 hsg hgo hz hev hws hlo ⊢
      by_cases hlt : i < l.length
      · by_cases h60 : i < 60
        · obtain ⟨a0, ha0⟩ : ∃ a, l[i]? = some a := ⟨_, List.getElem?_eq_getElem hlt⟩
          obtain ⟨bi, oi, rfl, hcell⟩ := hin i a0 ha0 (by omega)
          obtain ⟨t1, t2⟩ := hI.2 a0 (List.mem_of_getElem? ha0)
          have hna : (clipI a0).name.size ≤ 1000 := by have := clipS_size a0.name; show (clipS a0.name).size ≤ 1000; omega
          (repeat first|(with_reducible first|apply Za|apply Zb|apply Zc|apply Zd|apply Zi|apply Zo|apply Zr)|((with_reducible refine Yz ?_);first|((with_reducible apply SK.indexAddr); rfl; rfl; rfl; exact hlt)|((with_reducible apply SK.loadAR); rfl; rfl; exact hcell; rfl)|((with_reducible first|apply ZI|apply ZM|apply ZO);rfl;rfl)|((with_reducible apply ZS);rfl;rfl;rfl;omega)|((with_reducible apply Zqo);rfl;rfl;rfl))|((with_reducible apply ZC);rfl))
          refine SK.callA rfl rfl (fun w1 _ _ => clip19 a0 w1 t1 t2) ?_
          generalize clipI a0 = a at hna ⊢
          obtain ⟨g3, g4⟩ := playL_good (p := (S, ev)) hDO hgo hna
          have g5 := playL_ws (p := (S, ev)) (a := a) hDO hTr hws
          have g6 := playL_long (p := (S, ev)) (a := a) hDO hTr hws hlo
          by_cases hk : a.kind = 2
          · rw [if_pos hk] at g6
            (repeat first|(with_reducible first|apply Za|apply Zb|apply Zc|apply Zd|apply Zi|apply Zs)|((with_reducible first|apply ZI|apply ZJ|apply ZK);rfl;rfl)|((with_reducible first|apply ZR|apply ZW);rfl;rfl;rfl;omega)|((with_reducible first|apply Zqz|apply Zra);rfl;rfl;(focus (repeat constructor));rfl)|((with_reducible apply Zrc);rfl;rfl;rfl;exact List.cons_ne_nil _ _;(first|rfl|(repeat first|exact plain_nil|(refine plain_cons (by first|rfl|exact OwnD.plain_val _ _) ?_)));(focus (repeat constructor));rfl)|((with_reducible apply Zrg);rfl;intro _)|((with_reducible apply ZC);rfl))
            refine SK.call rfl rfl (plM bp E (.slice A0 E.nodes.length cap) S ev z) [some (b2, [.string E.name, .slice A0 E.nodes.length cap], 24)] (by (repeat constructor)) _ _ _ (fun w1 g0 g1 _ => input18 E (.slice A0 E.nodes.length cap) S ev z a bp w1 hDO hgo hna (by omega) hz (hd.mono g1) (by obtain ⟨m, hm⟩ := hG; exact ⟨m, g1 _ _ _ hm⟩) g0) (fun z' hz' => ?_)
            (repeat first|(with_reducible first|apply Zb|apply Zc|apply Zd|apply Zi|apply Zl|apply Zo|apply Zs)|((with_reducible first|apply ZI|apply ZJ);rfl;rfl)|((with_reducible apply ZP);rfl;rfl)|((with_reducible apply ZR);rfl;rfl;rfl;omega)|((with_reducible apply ZD);rfl))
            exact SK.roundW (i + 1, sig + 1, (playL E (S, ev) a).1, (playL E (S, ev) a).2, z') ⟨by omega, by omega, by dsimp only; omega, g3, hz', by dsimp only at g4 ⊢; omega, g5, g6⟩ (by dsimp only; omega) (by (repeat constructor)) (by (repeat constructor))
          · rw [if_neg hk] at g6
            (repeat first|(with_reducible first|apply Za|apply Zb|apply Zc|apply Zd|apply Zi|apply Zo|apply Zs)|((with_reducible first|apply ZI|apply ZK);rfl;rfl)|((with_reducible apply Zqc);rfl;rfl;rfl;omega)|((with_reducible first|apply Zqz|apply Zra);rfl;rfl;(focus (repeat constructor));rfl)|((with_reducible apply Zrc);rfl;rfl;rfl;exact List.cons_ne_nil _ _;(first|rfl|(repeat first|exact plain_nil|(refine plain_cons (by first|rfl|exact OwnD.plain_val _ _) ?_)));(focus (repeat constructor));rfl)|((with_reducible apply Zrg);rfl;intro _)|((with_reducible apply ZD);rfl))
            refine SK.call rfl rfl (plM bp E (.slice A0 E.nodes.length cap) S ev z) [some (b2, [.string E.name, .slice A0 E.nodes.length cap], 24)] (by (repeat constructor)) _ _ _ (fun w1 g0 g1 _ => input18 E (.slice A0 E.nodes.length cap) S ev z a bp w1 hDO hgo hna (by omega) hz (hd.mono g1) (by obtain ⟨m, hm⟩ := hG; exact ⟨m, g1 _ _ _ hm⟩) g0) (fun z' hz' => ?_)
            (repeat first|(with_reducible first|apply Zb|apply Zc|apply Zd|apply Zi|apply Zl|apply Zo|apply Zs)|((with_reducible first|apply ZI|apply ZJ);rfl;rfl)|((with_reducible apply ZP);rfl;rfl)|((with_reducible apply ZR);rfl;rfl;rfl;omega)|((with_reducible apply ZD);rfl))
            exact SK.roundW (i + 1, sig, (playL E (S, ev) a).1, (playL E (S, ev) a).2, z') ⟨by omega, by omega, by dsimp only; omega, g3, hz', by dsimp only at g4 ⊢; omega, g5, g6⟩ (by dsimp only; omega) (by (repeat constructor)) (by (repeat constructor))
        · (repeat first|(with_reducible first|apply Za|apply Zb|apply Zc|apply Zd|apply Zi|apply Zj|apply Zn|apply Zq)|((with_reducible first|apply ZI|apply ZM|apply ZO);rfl;rfl)|((with_reducible apply ZS);rfl;rfl;rfl;omega)|((with_reducible apply ZY);rfl;rfl;rfl;omega)|((with_reducible apply Zqo);rfl;rfl;rfl)|((with_reducible apply ZD);rfl))
          exact SK.jumped (sig, S, ev, z) ⟨hz, hws, hlo, by dsimp only; omega, by dsimp only; omega⟩ (by (repeat constructor)) (by (repeat constructor))
      · (repeat first|(with_reducible first|apply Za|apply Zb|apply Zc|apply Zd|apply Zi|apply Zj|apply Zn|apply Zq)|((with_reducible first|apply ZI|apply ZM);rfl;rfl)|((with_reducible apply ZY);rfl;rfl;rfl;omega)|((with_reducible apply Zqs);rfl;rfl;rfl)|((with_reducible apply Zqx);rfl;rfl;rfl;rfl)|((with_reducible apply ZD);rfl))
        exact SK.jumped (sig, S, ev, z) ⟨hz, hws, hlo, by dsimp only; omega, by dsimp only; omega⟩ (by (repeat constructor)) (by (repeat constructor))
    rintro ⟨sig, S, ev, ⟨zN, zS⟩, zL⟩ ⟨hz, hws, hlo, h60, hevl⟩
    dsimp only at hz hws hlo h60 hevl ⊢
    obtain ⟨⟨hzN, hzS⟩, hzL⟩ := hz
    dsimp only at hzN hzS hzL
    have hend := long_end hTr hRa hws hlo
    have hsig := hws.sg
    have hB : ∀ k, k ≤ E.nodes.length → 0 ≤ 2 + 2 * (sig : Int) + capN (E.nodes.take k) ∧ 2 + 2 * (sig : Int) + capN (E.nodes.take k) ≤ 5000 := fun k hk => by
      have := capN_range (l := E.nodes.take k) (fun n hn => hRa n (List.mem_of_mem_take hn))
      have h2 : (E.nodes.take k).length ≤ 32 := by rw [List.length_take]; omega
      omega
    (repeat first|(with_reducible first|apply Za|apply Zb|apply Zc|apply Zd|apply Zi|apply Zr)|((with_reducible refine Yz ?_);first|((with_reducible refine SK.isBin ?_); first | ((with_reducible apply SK.imul); rfl; rfl; rfl) | ((with_reducible apply SK.iadd); rfl; rfl; rfl))|((with_reducible first|apply ZI|apply ZJ);rfl;rfl)))
    refine SK.slot (j := 9) (v := .int .i64 (2 + 2 * (sig : Int) + capN (E.nodes.take 0))) rfl (by rw [wrap64_in (a := 2 * (sig : Int)) (by omega) (by omega), wrap64_in (by omega) (by omega)]; simp [capN]) ?_
    refine SK.loopW (fun k : Nat => [(10, .int .i64 (k : Int)), (9, .int .i64 (2 + 2 * (sig : Int) + capN (E.nodes.take k))), (2, .pointer (some ⟨b2, 0, none⟩)), (5, .pointer (some ⟨bp, 0, none⟩))])
      (fun _ => some (b2, [.string E.name, .slice A0 E.nodes.length cap], 24) :: plM bp E (.slice A0 E.nodes.length cap) S ev ((zN, zS), zL)) (fun k => k ≤ E.nodes.length) (fun k => E.nodes.length - k) 0 (Nat.zero_le _) (by (repeat constructor)) (by (repeat constructor)) ?_
    intro k hk
    by_cases hkl : k < E.nodes.length
    · obtain ⟨n, hn⟩ : ∃ n, E.nodes[k]? = some n := ⟨_, List.getElem?_eq_getElem hkl⟩
      obtain ⟨bd, od, av, hA, hnd2⟩ := hnds k n hn
      subst hA
      have hcn := hnd2.2
      have hk1 := hB k hk
      have hk2 := hB (k + 1) (by omega)
      have hk3 := capN_take hn
      have hrn := hRa n (List.mem_of_getElem? hn)
      (repeat first|(with_reducible first|apply Za|apply Zb|apply Zc|apply Zd|apply Zi|apply Zl|apply Zo|apply Zr)|((with_reducible refine Yz ?_);first|((with_reducible apply SK.indexAddr); rfl; rfl; rfl; exact hkl)|((with_reducible apply SK.load1R); rfl; rfl; exact hcn 5 _ rfl)|((with_reducible refine SK.isBin ?_); first | ((with_reducible apply SK.iadd1); rfl; rfl; rfl; omega) | ((with_reducible apply SK.imul); rfl; rfl; rfl) | ((with_reducible apply SK.iadd); rfl; rfl; rfl))|((with_reducible first|apply ZI|apply ZJ|apply ZK|apply ZM);rfl;rfl)|((with_reducible apply ZS);rfl;rfl;rfl;omega)|((with_reducible apply Zqm);rfl;rfl;rfl)|((with_reducible apply Zqz);rfl;rfl;(focus (repeat constructor));rfl))|((with_reducible apply ZC);rfl))
      refine SK.slot (j := 9) (v := .int .i64 (2 + 2 * (sig : Int) + capN (E.nodes.take (k + 1)))) rfl (by rw [wrap64_in (a := 2 + 2 * (sig : Int) + capN (E.nodes.take k) + 4) (by omega) (by omega), wrap64_in (a := 3 * n.tries) (by omega) (by omega), wrap64_in (by omega) (by omega), hk3]; congr 1; omega) ?_
      exact SK.roundW (k + 1) (by omega) (by omega) (by (repeat constructor)) (by (repeat constructor))
    · have hke : k = E.nodes.length := by omega
      subst hke
      rw [List.take_length]
      obtain ⟨AL, cL, hvL⟩ := val_sl hzL
      obtain ⟨AS, cS, hvS⟩ := val_sl hzS
      (repeat first|(with_reducible first|apply Za|apply Zb|apply Zc|apply Zd|apply Zi|apply Zj|apply Zn|apply Zq)|((with_reducible first|apply ZI|apply ZK|apply ZM|apply ZN);rfl;rfl)|((with_reducible apply ZY);rfl;rfl;rfl;omega)|((with_reducible apply Zqz);rfl;rfl;(focus (repeat constructor));rfl)|((with_reducible apply ZD);rfl))
      refine SK.slot (j := 67) rfl hvL ?_
      (repeat first|(with_reducible apply Zc)|((with_reducible first|apply ZI|apply ZK|apply ZM|apply ZN|apply ZO);rfl;rfl)|((with_reducible apply ZT);rfl;rfl;rfl;omega)|((with_reducible apply Zqm);rfl;rfl;rfl)|((with_reducible apply Zqz);rfl;rfl;(focus (repeat constructor));rfl))
      refine SK.slot (j := 76) rfl hvS ?_
      (repeat first|(with_reducible apply Zc)|((with_reducible first|apply ZI|apply ZM|apply ZO);rfl;rfl)|((with_reducible apply ZT);rfl;rfl;rfl;omega)|((with_reducible apply Zqo);rfl;rfl;rfl))
      refine SK.callA rfl rfl (fun w1 g1 _ => wakes17 w1 (hG1 w1 g1)) ?_
      (repeat first|(with_reducible first|apply Zc|apply Zd|apply Zi|apply Zp|apply Zs)|((with_reducible apply ZJ);rfl;rfl)|((with_reducible apply Zqo);rfl;rfl;rfl))
      exact SK.retQ rfl (by (repeat constructor)) (fun w' hm' => ⟨(), trivial, rfl, hm'.wk (by (repeat constructor))⟩)
open Go.ChangeShapes Go.WideShapes Go.ChangeAt Go.RowKit
set_option maxRecDepth 100000 in
set_option maxHeartbeats 4000000 in
theorem historyLong_lifted (os : Os) (started : os.Started) (H : Type) (enc : TypeId × Value → H) :
    ReturnsInHanded {} Try.checked os 6 .any (Rows.historyLongSpec.pre6 enc Try.prog Try.f6 Rows.historyLongRow.domain false) (Rows.historyLongSpec.post enc Try.prog Try.f6 false true false false) := by
  refine returnsInHanded_of_change_shaped (C := Try.checked) Try.own started (by kernel_rfl) Try.func6
    (ChangeSpec.witness6 (enc := enc) (C := Try.checked) false ⟨#[], #[.agg #[.string ⟨#[]⟩, .slice none 0 0], .slice none 0 0], []⟩ 8 (by kernel_rfl) (by kernel_rfl) (by kernel_rfl) (by kernel_rfl)) ?_
  intro W base args ds gs before hval0 hW hcnd0 hsz0 hsh _
  have hsz : (DataW.weightsEach Try.prog (Try.f6.params.toList ++ Rows.historyLongSpec.plain.varTypes Try.prog) (ds ++ gs)).all (· ≤ reachBytes) = true := hsz0
  have hval : ∀ (j : Nat) t v, Try.f6.params[j]? = some t → args[j]? = some v → Value.okWide Try.prog W .any base t v := hval0
  have hW' := hW
  obtain ⟨p, q, hA0, hV, rfl, hfz, hnd⟩ := hW
  have hA : DataW.TrodAll enc Try.prog W 0 (fun _ => true) true Try.f6.params.toList args.toList ds p := hA0
  rw [Try.params6] at hA hval hsz
  obtain ⟨v0, v1, d0, d1, p0, p1, rfl, rfl, rfl, h0, h1⟩ := trodAll_two hA
  obtain ⟨rfl, rfl⟩ := trodVars_none hV
  have hlt := hW'.lt
  have hw0 : ∀ n ∈ d0.weights Try.prog 24, n ≤ reachBytes := fun n hn => by
    have := List.all_eq_true.1 hsz n (DataW.weights_mem_each (j := 0) rfl rfl n hn)
    simpa using this
  have hw1 : ∀ n ∈ d1.weights Try.prog 25, n ≤ reachBytes := fun n hn => by
    have := List.all_eq_true.1 hsz n (DataW.weights_mem_each (j := 1) rfl rfl n hn)
    simpa using this
  have hR : reachBytes < 9223372036854775807 := by decide
  obtain ⟨f0, t0⟩ := id h0
  have ok0 := hval 0 24 v0 rfl rfl
  unfold Value.okWide at ok0
  rw [Try.underlying24] at ok0
  obtain ⟨cs0, rfl, _, _⟩ := ok0
  obtain ⟨D, A, cap, e0, hcap, hrd, hT⟩ := open24 t0 hw0 hR
  have e0' : cs0 = #[.string D.name, .slice A D.nodes.length cap] := Array.ext' e0
  subst e0'
  obtain ⟨f1, t1⟩ := id h1
  obtain ⟨a1, len1, cap1, rfl⟩ := okWide_slice Try.underlying25 (hval 1 25 v1 rfl rfl)
  obtain ⟨c1, l1, e1, hrl1, hI1⟩ := open25 t1 hw1 hR
  have e1' : c1 = .slice a1 len1 cap1 := by
    have : ([Value.slice a1 len1 cap1] : List Value) = [c1] := e1
    exact (List.cons.inj this).1.symm
  subst e1'
  obtain ⟨m, hm⟩ := Try.laysM144.s1_3 W hsh
  have hrun := long6 D A cap _ l1 W hcap (hrd.mono fun b o v h => Cw.vw h) hT (hrl1.mono fun b o v h => Cw.vw h) hI1 ⟨m, Cw.vw hm⟩
  refine Calls.mono hrun fun e W' ⟨_, _, he, hmem⟩ => ?_
  have hb := Mem.below hmem
  subst he
  have r0 := Below.trod Try.laidOut (ty_ok 24 (by kernel_rfl) (by kernel_rfl)).1 (ty_ok 24 (by kernel_rfl) (by kernel_rfl)).2 h0 hb (fun x hx => hlt x (by simp [hx]))
  have r1 := Below.trod Try.laidOut (ty_ok 25 (by kernel_rfl) (by kernel_rfl)).1 (ty_ok 25 (by kernel_rfl) (by kernel_rfl)).2 h1 hb (fun x hx => hlt x (by simp [hx]))
  exact ⟨_, rfl, ⟨_, _, _, [], _, [], hW', trodAll_mk1 (shut_bool Try.underlying4 _), trodAll_mk2 r0 r1, rfl, hb.frame _, fun h => by cases h⟩⟩
theorem HistoryLong_holds : Rows.HistoryLongSaid :=
  OpenClaim.holds_of_wide 6 Try.f6 rfl rfl rfl rfl rfl rfl rfl ⟨rfl, rfl, rfl, rfl, rfl⟩ rfl rfl rfl rfl rfl (by kernel_rfl) Try.func6 (by kernel_rfl)
    (of_decide_eq_true (by kernel_rfl)) (by unfold Func.isWrapper; rw [if_neg (of_decide_eq_false (by kernel_rfl))]; exact ⟨rfl, rfl⟩)
    (fun os started H enc _ => historyLong_lifted os started H enc)
#print axioms HistoryLong_holds
end Go.Proofs.Ytdnjfmgldkommaa
