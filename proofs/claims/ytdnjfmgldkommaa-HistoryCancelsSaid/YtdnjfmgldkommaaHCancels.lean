/- Proved here: A workflow that is closed cancels each child that is still busy, in order, and then tells its parent. -/
import Derived.Test.YtdnjfmgldkommaaQa
import Derived.Test.YtdnjfmgldkommaaNb
import Derived.Test.YtdnjfmgldkommaaTb
import Derived.Test.YtdnjfmgldkommaaLd
import Derived.Test.YtdnjfmgldkommaaLc
import Derived.Test.YtdnjfmgldkommaaRows
import Derived.HandedShaped
import Derived.Carry
import Derived.Test.YtdnjfmgldkommaaWd
namespace Go.Proofs.Ytdnjfmgldkommaa
open Go.Sx
@[reducible] def i8_1 : List Ent := [(0, []), (2, []), (4, []), (1, []), (6, []), (3, []), (7, []), (5, []), (8, [])]
@[reducible] def i8_21 : List Ent := [(2, []), (4, []), (0, []), (1, []), (3, []), (5, []), (6, []), (7, []), (8, []), (9, []), (10, []), (11, []), (12, []), (13, []), (14, []), (15, []), (16, [])]
@[reducible] def i8_44 : List Ent := [(0, []), (1, []), (2, []), (3, []), (4, []), (5, []), (6, []), (7, []), (8, []), (10, []), (12, []), (17, []), (19, []), (9, []), (11, []), (13, []), (14, []), (15, []), (16, []), (18, []), (20, []), (21, []), (22, []), (23, []), (24, []), (25, [])]
@[reducible] def bX : ByteArray := ⟨#[120]⟩
@[reducible] def bWhy : ByteArray := ⟨#[119, 104, 121]⟩
@[reducible] def bPar : ByteArray := ⟨#[112]⟩
@[reducible] def bNod : ByteArray := ⟨#[109]⟩
@[reducible] def ndK (i : Nat) : Nd := ⟨nmS i, 3, bX, e0, 0, 0, []⟩
@[reducible] def dfK (n : Nat) : Df := ⟨bW, (List.range n).map ndK⟩
theorem dfK_get {n i : Nat} (h : i < n) : (dfK n).nodes[i]? = some (ndK i) := by simp [h]
theorem dfK_inv {n i : Nat} {m : Nd} (h : (dfK n).nodes[i]? = some m) : i < n ∧ m = ndK i := by
  have hlt : i < n := by have := (List.getElem?_eq_some_iff.1 h).1; simpa using this
  rw [dfK_get hlt] at h
  exact ⟨hlt, (Option.some.inj h).symm⟩
theorem dfK_len (n : Nat) : (dfK n).nodes.length = n := by simp
theorem dfK_fI {n i : Nat} (hn : n ≤ 12) (h : i < n) : fI (dfK n).nodes (nmS i) = some i :=
  fI_some (dfK_get h) rfl fun j y hj hy => by
    obtain ⟨h1, rfl⟩ := dfK_inv hy
    intro he
    have := nmS_inj (by omega) (by omega) he
    omega
theorem okK {n : Nat} (h1 : 1 ≤ n) (h2 : n ≤ 12) : DefOK (dfK n) := by
  refine ⟨by rw [dfK_len]; exact h1, by rw [dfK_len]; omega, fun m hm => ?_, fun i m hm => ?_, fun m hm => ?_, fun m hm => ?_⟩
  · obtain ⟨i, hi⟩ := List.getElem?_of_mem hm
    obtain ⟨_, rfl⟩ := dfK_inv hi
    exact ⟨by show (1 : Int) ≤ 3; decide, by show (3 : Int) ≤ 5; decide⟩
  · obtain ⟨hlt, rfl⟩ := dfK_inv hm
    exact dfK_fI h2 hlt
  · obtain ⟨i, hi⟩ := List.getElem?_of_mem hm
    obtain ⟨hlt, rfl⟩ := dfK_inv hi
    have := nmS_size (i := i) (by omega)
    show (nmS i).size ≤ 64
    omega
  · obtain ⟨i, hi⟩ := List.getElem?_of_mem hm
    obtain ⟨_, rfl⟩ := dfK_inv hi
    show (0 : Nat) < _
    decide
def cnt (q : List Bool) : Nat := q.countP id
theorem cnt_set {q : List Bool} {i : Nat} (h : q[i]? = some true) : cnt (q.set i false) + 1 = cnt q := by
  obtain ⟨hlt, he⟩ := List.getElem?_eq_some_iff.1 h
  unfold cnt
  rw [List.countP_set hlt]
  have hpos : 0 < q.countP id := List.countP_pos_iff.2 ⟨true, he ▸ List.getElem_mem hlt, rfl⟩
  simp [he]
  omega
theorem cnt_pos {q : List Bool} (h : 1 ≤ cnt q) : ∃ j : Nat, q[j]? = some true := by
  obtain ⟨b, hb, ht⟩ := List.countP_pos_iff.1 (show 0 < q.countP id from h)
  obtain ⟨j, hj⟩ := List.getElem?_of_mem hb
  exact ⟨j, by rw [hj]; simpa using ht⟩
theorem cnt_two {q : List Bool} {i : Nat} (h : q[i]? = some true) (h2 : 2 ≤ cnt q) : ∃ j : Nat, j ≠ i ∧ q[j]? = some true := by
  have := cnt_set h
  obtain ⟨j, hj⟩ := cnt_pos (q := q.set i false) (by omega)
  rw [List.getElem?_set] at hj
  split at hj
  · split at hj <;> cases hj
  · rename_i hij
    exact ⟨j, fun e => hij e.symm, hj⟩
structure KS (n : Nat) (S : Sta) (q : List Bool) (p m : ByteArray) : Prop where
  st : S.status = 1
  id : S.id = bF
  pa : S.parent = p
  pn : S.pnode = m
  ln : S.nodes.length = n
  ql : q.length = n
  nd : ∀ (i : Nat) (x : Ns), S.nodes[i]? = some x → x.st = if q[i]? = some true then 2 else 3
  gd : Good (dfK n) S
structure KW (n : Nat) (R : Rn) (p m : ByteArray) : Prop where
  id : R.S.id = bF
  pa : R.S.parent = p
  pn : R.S.pnode = m
  ln : R.S.nodes.length = n
  nd : ∀ x ∈ R.S.nodes, x.st = 0 ∨ x.st = 2
  tk : R.tk.length + idle R.S = n
theorem kid_ahead {n i : Nat} {S : Sta} : ahead (dfK n) S i := by
  intro m hm
  obtain ⟨_, rfl⟩ := dfK_inv hm
  rfl
theorem On.kids {n : Nat} {now : Int} {p m : ByteArray} (h1 : 1 ≤ n) (h12 : n ≤ 12) {R R' : Rn} (h : On (dfK n) now R R') (hw : KW n R p m) : KW n R' p m ∧ R'.S.status = 1 ∧ (∀ x ∈ R'.S.nodes, x.st = 2) ∧ R'.tk.length = n := by
  induction h with
  | @more R R' i nd x y g e ts hs hl hr hn hx h0 hm ha h ih =>
    obtain ⟨hlt, rfl⟩ := dfK_inv hn
    refine ih ?_
    have hxl := (List.getElem?_eq_some_iff.1 hx)
    obtain ⟨hxl1, hxl2⟩ := hxl
    cases hm with
    | child k hsz =>
      refine ⟨hw.id, hw.pa, hw.pn, by show (R.S.nodes.set i _).length = n; rw [List.length_set]; exact hw.ln, fun z hz => ?_, ?_⟩
      · rcases List.mem_or_eq_of_mem_set hz with hz | rfl
        · exact hw.nd z hz
        · exact .inr rfl
      · have h2 := hw.tk
        show (R.tk ++ [_]).length + (R.S.nodes.set i _).countP (fun x => decide (x.st = 0)) = n
        unfold idle at h2
        rw [List.countP_set hxl1, List.length_append, List.length_singleton]
        have hpos : 0 < R.S.nodes.countP fun x => decide (x.st = 0) := List.countP_pos_iff.2 ⟨x, List.mem_of_getElem? hx, by simp [h0]⟩
        simp [hxl2, h0]
        omega
    | sched k => exact absurd k (show ¬ (3 : Int) = 1 by decide)
    | timer k => exact absurd k (show ¬ (3 : Int) = 2 by decide)
    | await k => exact absurd k (show ¬ (3 : Int) = 4 by decide)
    | got j k => exact absurd k (show ¬ (3 : Int) = 4 by decide)
    | send k => exact absurd k (show ¬ (3 : Int) = 5 by decide)
  | @stay R hs hl hr ha =>
    have hall : ∀ x ∈ R.S.nodes, x.st = 2 := by
      intro x hx
      obtain ⟨i, hi⟩ := List.getElem?_of_mem hx
      have := rdy_none hl hr hi kid_ahead
      rcases hw.nd x hx with h | h
      · exact absurd h this
      · exact h
    refine ⟨hw, hs, hall, ?_⟩
    have h2 := hw.tk
    have : idle R.S = 0 := by
      unfold idle
      rw [List.countP_eq_zero]
      intro x hx
      simp [hall x hx]
    omega
  | @done R hs hl hr ha =>
    exfalso
    have h0 : 0 < R.S.nodes.length := by rw [hw.ln]; omega
    have hx := List.getElem_mem h0
    have h3 := List.all_eq_true.1 ha _ hx
    rcases hw.nd _ hx with h | h <;> simp [h] at h3
  | @long R i nd x hs hl hr hn hx h0 k hsz ha =>
    exfalso
    obtain ⟨hlt, rfl⟩ := dfK_inv hn
    have : (chl R.S (ndK i)).size = R.S.id.size + 1 + (nmS i).size := by
      unfold chl
      rw [ByteArray.size_append, ByteArray.size_append]
      rfl
    rw [hw.id, nmS_size (by omega)] at this
    have hb : bF.size = 1 := rfl
    omega
theorem kids_start {n : Nat} (h1 : 1 ≤ n) (h12 : n ≤ 12) {a : Inp} (ha : a.kind = 1) (hn : a.name = bF) : ∃ R, stepL (dfK n) sta0 a = (0, R) ∧ KS n R.S (List.replicate n true) a.parent a.pnode ∧ R.tk.length = n := by
  have hD := okK h1 h12
  have h0 : (stepL (dfK n) sta0 a).1 = 0 := by
    have : (stepR (dfK n) a.now ⟨sta0, [], []⟩ a).1 = 0 := by
      unfold stepR
      rw [if_pos ha, if_neg (fun h => h rfl)]
    unfold stepL
    rw [if_pos this]
    exact this
  have hs := stepL_stp hD (fun h => absurd h (by decide)) h0
  have hA := (stepL_aft (a := a) hD (good0 (dfK n)) (by rw [hn]; decide)).go
  refine ⟨(stepL (dfK n) sta0 a).2, Prod.ext h0 rfl, ?_⟩
  generalize (stepL (dfK n) sta0 a).2 = R at hs hA
  cases hs with
  | start h0 ha hp h =>
    obtain ⟨g1, g2, g3, g4⟩ := h.kids h1 h12 ⟨hn, rfl, rfl, by simp [startR, startS], fun x hx => .inl (by have : x = ns0 := List.eq_of_mem_replicate hx; rw [this]), by
      show 0 + idle (startS (dfK n) sta0 a) = n
      unfold idle startS
      rw [List.countP_replicate]
      simp⟩
    refine ⟨⟨g2, g1.id, g1.pa, g1.pn, g1.ln, by simp, fun i x hx => ?_, hA⟩, g4⟩
    have hlt : i < n := by rw [← g1.ln]; exact (List.getElem?_eq_some_iff.1 hx).1
    rw [g3 x (List.mem_of_getElem? hx), if_pos (by rw [List.getElem?_replicate]; simp [hlt])]
  | on h9 => exact absurd h9 (by decide)
  | stop h9 => exact absurd h9 (by decide)
  | kept h9 => exact absurd h9 (by decide)
  | fail h9 => exact absurd h9 (by decide)
  | cancel h9 => exact absurd h9 (by decide)
@[reducible] def inC (i : Nat) (st : Int) (t : ByteArray) : Inp := ⟨7, nmS i, e0, t, 0, st, 0, e0, e0⟩
@[reducible] def inE : Inp := ⟨8, e0, e0, bWhy, 0, 0, 0, e0, e0⟩
theorem KS.node {n : Nat} {S : Sta} {q : List Bool} {p m : ByteArray} (h : KS n S q p m) (h12 : n ≤ 12) {i : Nat} (hi : q[i]? = some true) : i < n ∧ ∃ x, S.nodes[i]? = some x ∧ x.st = 2 ∧ nodeL (dfK n) S (nmS i) = some (ndK i, x) := by
  have hlt : i < n := by rw [← h.ql]; exact (List.getElem?_eq_some_iff.1 hi).1
  have hx := List.getElem?_eq_getElem (l := S.nodes) (i := i) (by rw [h.ln]; exact hlt)
  refine ⟨hlt, _, hx, by rw [h.nd i _ hx, if_pos hi], ?_⟩
  unfold nodeL
  rw [dfK_fI h12 hlt]
  simp only [dfK_get hlt, hx]
theorem kids_done {n : Nat} {S : Sta} {q : List Bool} {p m : ByteArray} (h1 : 1 ≤ n) (h12 : n ≤ 12) (h : KS n S q p m) {i : Nat} (hi : q[i]? = some true) (h2 : 2 ≤ cnt q) :
    ∃ R, stepL (dfK n) S (inC i 2 e0) = (0, R) ∧ KS n R.S (q.set i false) p m := by
  have hD := okK h1 h12
  obtain ⟨hlt, x, hx, hx2, hnl⟩ := h.node h12 hi
  obtain ⟨j, hji, hj⟩ := cnt_two hi h2
  have hst := h.st
  obtain ⟨g1, _⟩ := happ_mv (D := dfK n) (R := ⟨S, [], []⟩) (e := ⟨10, nmS i, e0, 0⟩) (y := { x with st := 3, text := e0 }) (b := false) hst (by simp) (by simp) (by simp) (dfK_fI h12 hlt) (dfK_get hlt) hx (by simp [moveL, isL, hx2])
  simp only [mvG] at g1
  have hR : stepR (dfK n) 0 ⟨S, [], []⟩ (inC i 2 e0) = (0, onL (dfK n) 0 (mv ⟨S, [], []⟩ i { x with st := 3, text := e0 } S.sigs ⟨10, nmS i, e0, 0⟩ [])) := by
    unfold stepR
    rw [if_neg (by simp), if_neg (show ¬ S.status = 0 by omega), if_neg (show ¬ S.status ≠ 1 by omega), if_neg (by simp), if_neg (by simp), if_neg (by simp), if_pos (by simp)]
    unfold toldL
    have : nodeL (dfK n) (⟨S, [], []⟩ : Rn).S (inC i 2 e0).node = some (ndK i, x) := hnl
    rw [this]
    simp only [hx2]
    rw [if_pos trivial, if_neg (fun h => h rfl), if_pos trivial, g1]
  have hL : stepL (dfK n) S (inC i 2 e0) = (0, onL (dfK n) 0 (mv ⟨S, [], []⟩ i { x with st := 3, text := e0 } S.sigs ⟨10, nmS i, e0, 0⟩ [])) := by
    unfold stepL
    rw [show (inC i 2 e0).now = 0 from rfl, hR, if_pos rfl]
  refine ⟨_, hL, ?_⟩
  have hA := (stepL_aft (a := inC i 2 e0) hD h.gd (show e0.size ≤ 1000 by decide)).go
  rw [hL] at hA
  have hon := On.go (D := dfK n) (now := 0) hD _ (mv ⟨S, [], []⟩ i { x with st := 3, text := e0 } S.sigs ⟨10, nmS i, e0, 0⟩ []) (Nat.le_refl _) (by show (S.nodes.set i _).length = _; rw [List.length_set, h.ln, dfK_len]) hst
  have hnd : ∀ (k : Nat) (z : Ns), (S.nodes.set i { x with st := 3, text := e0 })[k]? = some z → z.st = if (q.set i false)[k]? = some true then 2 else 3 := by
    intro k z hz
    rw [List.getElem?_set] at hz
    rw [List.getElem?_set]
    split at hz
    · rename_i hik
      subst hik
      rw [if_pos rfl]
      split at hz
      · cases hz
        split
        · rfl
        · rfl
      · cases hz
    · rename_i hik
      rw [if_neg hik]
      exact h.nd k z hz
  generalize onL (dfK n) 0 (mv ⟨S, [], []⟩ i { x with st := 3, text := e0 } S.sigs ⟨10, nmS i, e0, 0⟩ []) = R at hA hon
  cases hon with
  | more hs hl hr hn hz h0 hm ha h' =>
    exfalso
    have := hnd _ _ hz
    rw [h0] at this
    split at this <;> omega
  | stay hs hl hr ha =>
    exact ⟨hst, h.id, h.pa, h.pn, by show (S.nodes.set i _).length = n; rw [List.length_set]; exact h.ln, by rw [List.length_set]; exact h.ql, hnd, hA⟩
  | done hs hl hr ha =>
    exfalso
    have hjl : j < (S.nodes.set i { x with st := 3, text := e0 }).length := by rw [List.length_set, h.ln, ← h.ql]; exact (List.getElem?_eq_some_iff.1 hj).1
    have hz := List.getElem?_eq_getElem hjl
    have h3 := List.all_eq_true.1 ha _ (List.mem_of_getElem? hz)
    have h4 := hnd j _ hz
    have hq : (q.set i false)[j]? = some true := by rw [List.getElem?_set, if_neg (fun e => hji e.symm)]; exact hj
    rw [if_pos hq] at h4
    rw [h4] at h3
    simp at h3
  | long hs hl hr hn hz h0 k hsz ha =>
    exfalso
    have := hnd _ _ hz
    rw [h0] at this
    split at this <;> omega
def bzB (D : Df) (S : Sta) (i : Nat) : Bool := match D.nodes[i]?, S.nodes[i]? with
  | some n, some x => decide (n.kind = 3 ∧ x.st = 2)
  | _, _ => false
def mkT (D : Df) (S : Sta) (t : ByteArray) (i : Nat) : Tk := match D.nodes[i]? with
  | some n => ⟨3, S.id, e0, 0, 0, ⟨4, chl S n, S.id, n.name, e0, t, 0⟩⟩
  | none => ⟨0, e0, e0, 0, 0, ml0⟩
theorem clm_all {D : Df} {t : ByteArray} {R : Rn} : ∀ k, clm D t R k = ⟨R.S, R.ev, R.tk ++ ((List.range k).filter (bzB D R.S)).map (mkT D R.S t)⟩
  | 0 => by simp [clm]
  | k + 1 => by
    simp only [clm, clm_all k]
    rw [List.range_succ, List.filter_append, List.map_append, ← List.append_assoc]
    unfold cnc
    cases hn : D.nodes[k]? with
    | none => simp [bzB, hn]
    | some n =>
      cases hx : R.S.nodes[k]? with
      | none => simp [bzB, hn, hx]
      | some x =>
        by_cases hb : n.kind = 3 ∧ x.st = 2
        · simp [bzB, hn, hx, hb, mkT, mlr, tsk, chl]
        · simp [bzB, hn, hx, hb]
theorem cls_all {D : Df} {R : Rn} {st : Int} {t : ByteArray} (hs : R.S.status = 1) (h : st = 2 ∨ st = 3 ∨ st = 4) :
    cls D R st t = ⟨clsS R.S st t, R.ev ++ [⟨15, e0, t, st⟩], R.tk ++ ((List.range D.nodes.length).filter (bzB D R.S)).map (mkT D R.S t) ++ (if R.S.parent = e0 then [] else [⟨3, R.S.id, e0, 0, 0, ⟨2, R.S.parent, R.S.id, R.S.pnode, e0, t, st⟩⟩])⟩ := by
  have ha := (cls_eq (D := D) (t := t) hs h).1
  have hh : happ D R ⟨15, e0, t, st⟩ = ⟨clsS R.S st t, R.ev ++ [⟨15, e0, t, st⟩], R.tk⟩ := by
    unfold happ
    rw [ha]
    rfl
  unfold cls
  rw [hh, clm_all]
  unfold par
  by_cases hp : R.S.parent = e0
  · rw [if_pos hp, if_pos (show (clsS R.S st t).parent = e0 from hp), List.append_nil]
    rfl
  · rw [if_neg hp, if_neg (show ¬ (clsS R.S st t).parent = e0 from hp)]
    rfl
def busyL (n : Nat) (q : List Bool) : List Nat := (List.range n).filter fun i => decide (q[i]? = some true)
@[reducible] def mkK (i : Nat) : Tk := ⟨3, bF, e0, 0, 0, ⟨4, bF ++ slash ++ nmS i, bF, nmS i, e0, bWhy, 0⟩⟩
def parK (p m : ByteArray) (st : Int) : List Tk := if p = e0 then [] else [⟨3, bF, e0, 0, 0, ⟨2, p, bF, m, e0, bWhy, st⟩⟩]
theorem busyL_succ (n : Nat) (q : List Bool) : busyL (n + 1) q = busyL n q ++ (if q[n]? = some true then [n] else []) := by
  unfold busyL
  rw [List.range_succ, List.filter_append]
  by_cases h : q[n]? = some true
  · rw [if_pos h]; simp [h]
  · rw [if_neg h]; simp [h]
theorem busyL_at {q : List Bool} : ∀ {n i : Nat}, i < n → q[i]? = some true → (busyL n q)[(busyL i q).length]? = some i
  | 0, i, h, _ => absurd h (Nat.not_lt_zero _)
  | n + 1, i, h, hi => by
    rw [busyL_succ]
    by_cases hin : i = n
    · subst hin
      rw [if_pos hi, List.getElem?_append_right (Nat.le_refl _), Nat.sub_self]
      rfl
    · have h2 := busyL_at (n := n) (by omega) hi
      rw [List.getElem?_append_left (List.getElem?_eq_some_iff.1 h2).1]
      exact h2
theorem busyL_le (n : Nat) (q : List Bool) : (busyL n q).length ≤ n := by
  unfold busyL
  have := List.length_filter_le (fun i => decide (q[i]? = some true)) (List.range n)
  simpa using this
theorem kids_tasks {n : Nat} {S : Sta} {q : List Bool} (hid : S.id = bF) (hnd : ∀ i, i < n → ∃ x, S.nodes[i]? = some x ∧ (x.st = 2 ↔ q[i]? = some true)) :
    ((List.range (dfK n).nodes.length).filter (bzB (dfK n) S)).map (mkT (dfK n) S bWhy) = (busyL n q).map mkK := by
  rw [dfK_len]
  unfold busyL
  have h1 : (List.range n).filter (bzB (dfK n) S) = (List.range n).filter fun i => decide (q[i]? = some true) := by
    refine List.filter_congr fun i hi => ?_
    have hlt := List.mem_range.1 hi
    obtain ⟨x, hx, hq⟩ := hnd i hlt
    unfold bzB
    rw [dfK_get hlt, hx]
    simp [hq]
  rw [h1]
  refine List.map_congr_left fun i hi => ?_
  have hlt := List.mem_range.1 (List.mem_filter.1 hi).1
  unfold mkT
  rw [dfK_get hlt]
  simp only [hid, chl]
theorem kids_cancel {n : Nat} {S : Sta} {q : List Bool} {p m : ByteArray} (h : KS n S q p m) :
    ∃ R, stepL (dfK n) S inE = (0, R) ∧ R.S.status = 4 ∧ R.S.text = bWhy ∧ R.tk = (busyL n q).map mkK ++ parK p m 4 := by
  have hst := h.st
  have hR : stepR (dfK n) 0 ⟨S, [], []⟩ inE = (0, cls (dfK n) ⟨S, [], []⟩ 4 bWhy) := by
    unfold stepR
    rw [if_neg (by simp), if_neg (show ¬ S.status = 0 by omega), if_neg (show ¬ S.status ≠ 1 by omega), if_neg (by simp), if_neg (by simp), if_neg (by simp), if_neg (by simp), if_pos (by simp), if_neg (by decide)]
  have hL : stepL (dfK n) S inE = (0, cls (dfK n) ⟨S, [], []⟩ 4 bWhy) := by
    unfold stepL
    rw [show inE.now = 0 from rfl, hR, if_pos rfl]
  rw [cls_all (D := dfK n) (R := ⟨S, [], []⟩) (t := bWhy) hst (.inr (.inr rfl))] at hL
  refine ⟨_, hL, rfl, rfl, ?_⟩
  show [] ++ _ ++ _ = _
  rw [kids_tasks (q := q) h.id (fun i hi => ?_)]
  · show [] ++ _ ++ (if S.parent = e0 then [] else [(⟨3, S.id, e0, 0, 0, ⟨2, S.parent, S.id, S.pnode, e0, bWhy, 4⟩⟩ : Tk)]) = _
    rw [h.pa, h.id, h.pn]
    rfl
  · have hx := List.getElem?_eq_getElem (l := S.nodes) (i := i) (by rw [h.ln]; exact hi)
    refine ⟨_, hx, ?_⟩
    rw [h.nd i _ hx]
    split
    · simp_all
    · simp_all
theorem kids_fail {n : Nat} {S : Sta} {q : List Bool} {p m : ByteArray} (h12 : n ≤ 12) (h : KS n S q p m) {i : Nat} (hi : q[i]? = some true) :
    ∃ R, stepL (dfK n) S (inC i 3 bWhy) = (0, R) ∧ R.S.status = 3 ∧ R.S.text = bWhy ∧ R.tk = (busyL n (q.set i false)).map mkK ++ parK p m 3 := by
  obtain ⟨hlt, x, hx, hx2, hnl⟩ := h.node h12 hi
  have hst := h.st
  obtain ⟨g1, _⟩ := happ_mv (D := dfK n) (R := ⟨S, [], []⟩) (e := ⟨6, nmS i, bWhy, 0⟩) (y := { x with st := 4, text := bWhy }) (b := false) hst (by simp) (by simp) (by simp) (dfK_fI h12 hlt) (dfK_get hlt) hx (by simp [moveL, isL, hx2])
  simp only [mvG] at g1
  have hR : stepR (dfK n) 0 ⟨S, [], []⟩ (inC i 3 bWhy) = (0, cls (dfK n) (mv ⟨S, [], []⟩ i { x with st := 4, text := bWhy } S.sigs ⟨6, nmS i, bWhy, 0⟩ []) 3 bWhy) := by
    unfold stepR
    rw [if_neg (by simp), if_neg (show ¬ S.status = 0 by omega), if_neg (show ¬ S.status ≠ 1 by omega), if_neg (by simp), if_neg (by simp), if_neg (by simp), if_pos (by simp)]
    unfold toldL
    have : nodeL (dfK n) (⟨S, [], []⟩ : Rn).S (inC i 3 bWhy).node = some (ndK i, x) := hnl
    rw [this]
    simp only [hx2]
    rw [if_pos trivial, if_neg (fun h => h rfl), if_neg (by simp), g1]
  have hL : stepL (dfK n) S (inC i 3 bWhy) = (0, cls (dfK n) (mv ⟨S, [], []⟩ i { x with st := 4, text := bWhy } S.sigs ⟨6, nmS i, bWhy, 0⟩ []) 3 bWhy) := by
    unfold stepL
    rw [show (inC i 3 bWhy).now = 0 from rfl, hR, if_pos rfl]
  rw [cls_all (D := dfK n) (R := mv ⟨S, [], []⟩ i { x with st := 4, text := bWhy } S.sigs ⟨6, nmS i, bWhy, 0⟩ []) (t := bWhy) hst (.inr (.inl rfl))] at hL
  refine ⟨_, hL, rfl, rfl, ?_⟩
  show ([] ++ []) ++ _ ++ _ = _
  rw [kids_tasks (S := (mv ⟨S, [], []⟩ i { x with st := 4, text := bWhy } S.sigs ⟨6, nmS i, bWhy, 0⟩ []).S) (q := q.set i false) h.id (fun j hj => ?_)]
  · show ([] ++ []) ++ _ ++ (if S.parent = e0 then [] else [(⟨3, S.id, e0, 0, 0, ⟨2, S.parent, S.id, S.pnode, e0, bWhy, 3⟩⟩ : Tk)]) = _
    rw [h.pa, h.id, h.pn]
    rfl
  · show ∃ z, (S.nodes.set i { x with st := 4, text := bWhy })[j]? = some z ∧ _
    by_cases hij : i = j
    · subst hij
      refine ⟨{ x with st := 4, text := bWhy }, by rw [List.getElem?_set]; simp [h.ln, hlt], ?_⟩
      rw [List.getElem?_set]
      simp [h.ql, hlt]
    · have hz := List.getElem?_eq_getElem (l := S.nodes) (i := j) (by rw [h.ln]; exact hj)
      refine ⟨_, by rw [List.getElem?_set, if_neg hij]; exact hz, ?_⟩
      rw [List.getElem?_set, if_neg hij, h.nd j _ hz]
      split
      · simp_all
      · simp_all
@[reducible] def ndC0 (m : Nd) : List Value := m.c (.slice none 0 0)
def celK (n : Nat) : List Value := ((List.range n).map ndK).flatMap ndC0
theorem celK_succ (n : Nat) : celK (n + 1) = celK n ++ ndC0 (ndK n) := by
  unfold celK
  rw [List.range_succ, List.map_append, List.flatMap_append]
  simp
theorem ndC0_len (m : Nd) : (ndC0 m).length = 7 := rfl
theorem celK_ld {n i : Nat} (h : i < n) (sp : List Value) (j : Nat) (u : Value) (hu : (ndC0 (ndK i))[j]? = some u) : nv (celK n ++ sp) (0 + i * 7 + j) = some u := by
  rw [Nat.zero_add]
  exact flat_nv ndC0_len _ sp i (ndK i) (by simp [h]) j u hu
theorem rdfK {V : View} {b n cap : Nat} {sp : List Value} (h : ∀ (j : Nat) (u : Value), nv (celK n ++ sp) j = some u → V b j u) : RDf V (.agg #[.string bW, .slice (some ⟨b, 0, none⟩) n cap]) (dfK n) := by
  refine ⟨some ⟨b, 0, none⟩, cap, by rw [dfK_len], fun i x hx => ?_⟩
  obtain ⟨hlt, rfl⟩ := dfK_inv hx
  exact ⟨b, 0, .slice none 0 0, rfl, ⟨none, 0, rfl, .inl rfl⟩, fun j u hu => h _ u (celK_ld hlt sp j u hu)⟩
def markC (bl : List Bool) : List Value := bl.flatMap boolC
theorem boolC_len (b : Bool) : (boolC b).length = 1 := rfl
theorem mark_st {bl : List Bool} {i : Nat} (h : i < bl.length) (b : Bool) : st (markC bl) (0 + i * 1) [.bool b] = some (markC (bl.set i b)) := by
  have := flat_st boolC_len bl [] i bl[i] b (List.getElem?_eq_getElem h)
  simpa [markC] using this
theorem mark_ld {bl : List Bool} {i : Nat} {b : Bool} (h : bl[i]? = some b) : nv (markC bl) (0 + i * 1) = some (.bool b) := by
  have := flat_nv boolC_len bl [] i b h 0 (.bool b) rfl
  simpa [markC] using this
def Marks (bl q : List Bool) (i : Nat) : Prop := bl.length = 12 ∧ ∀ j, j < 12 → bl[j]? = some (decide (j < i ∧ q[j]? = some true))
theorem Marks.yes {bl q : List Bool} {i : Nat} (h : Marks bl q i) (hi : i < 12) (hq : q[i]? = some true) : Marks (bl.set i true) q (i + 1) := by
  refine ⟨by rw [List.length_set]; exact h.1, fun j hj => ?_⟩
  rw [List.getElem?_set]
  split
  · rename_i hij
    subst hij
    simp [h.1, hi, hq]
  · rename_i hij
    rw [h.2 j hj]
    have : (j < i + 1) ↔ (j < i) := by omega
    simp [this]
theorem Marks.no {bl q : List Bool} {i : Nat} (h : Marks bl q i) (hi : i < 12) : Marks ((bl.set i true).set i false) (q.set i false) (i + 1) := by
  refine ⟨by rw [List.length_set, List.length_set]; exact h.1, fun j hj => ?_⟩
  rw [List.getElem?_set, List.length_set]
  split
  · rename_i hij
    subst hij
    rw [if_pos (by rw [h.1]; exact hi), List.getElem?_set]
    simp
  · rename_i hij
    rw [List.getElem?_set, if_neg hij, h.2 j hj, List.getElem?_set, if_neg hij]
    have : (j < i + 1) ↔ (j < i) := by omega
    simp [this]
theorem Marks.off {bl q : List Bool} {n i : Nat} (h : Marks bl q n) (hi : i < 12) : Marks (bl.set i false) (q.set i false) n := by
  refine ⟨by rw [List.length_set]; exact h.1, fun j hj => ?_⟩
  rw [List.getElem?_set]
  split
  · rename_i hij
    subst hij
    rw [if_pos (by rw [h.1]; exact hi), List.getElem?_set]
    simp
  · rename_i hij
    rw [h.2 j hj, List.getElem?_set, if_neg hij]
@[reducible] def inP : Inp := ⟨1, e0, bF, e0, 0, 0, 0, bPar, bNod⟩
def aP (p : Bool) : Inp := if p then inP else inW1
theorem aP_kind (p : Bool) : (aP p).kind = 1 ∧ (aP p).name = bF := by cases p <;> exact ⟨rfl, rfl⟩
theorem tk_mail {l : List Tk} {k : Nat} {t : Tk} (sp : List Value) (h : l[k]? = some t) : sl (l.flatMap Tk.c ++ sp) (0 + k * 13 + 6) 7 = some t.mail.c := by
  have h1 := flat_split (f := Tk.c) l k t h
  rw [h1]
  have h2 : ((l.take k).flatMap Tk.c).length = k * 13 := by
    rw [flat_len tk_len, List.length_take, Nat.min_eq_left (Nat.le_of_lt (List.getElem?_eq_some_iff.1 h).1)]
  have h3 : (l.take k).flatMap Tk.c ++ (Tk.c t ++ (l.drop (k + 1)).flatMap Tk.c) ++ sp = ((l.take k).flatMap Tk.c ++ (Tk.c t).take 6) ++ (t.mail.c ++ ((l.drop (k + 1)).flatMap Tk.c ++ sp)) := by
    simp only [List.append_assoc]
    rfl
  rw [h3]
  have h4 := sl_append ((l.take k).flatMap Tk.c ++ (Tk.c t).take 6) t.mail.c ((l.drop (k + 1)).flatMap Tk.c ++ sp)
  rw [List.length_append, h2] at h4
  rw [Nat.zero_add]
  exact h4
set_option maxRecDepth 100000 in
set_option maxHeartbeats 16000000 in
theorem cancels8 (c : Cz) (w : World) (hb : RSl (Vw w []) c.v c.l.length (c.l.flatMap boolC)) (hbl : c.l.length < 9223372036854775807) (hG : ∃ m, Vw w [] 0 0 (.int .i64 m)) :
    Ans 8 [.agg #[.int .i64 c.m, c.v, .bool c.f, .bool c.p]] w (.bool true) := by
  obtain ⟨Ab, cb, htv, hbn⟩ := hb.open (k := 1) (fun _ => rfl)
  have hG1 : ∀ w1 : World, (∀ b o v, Vw w [] b o v → Vw w1 [] b o v) → ∃ m, Vw w1 [] 0 0 (.int .i64 m) := fun w1 g => by obtain ⟨m, hm⟩ := hG; exact ⟨m, g _ _ _ hm⟩
  have hwn := within_nn c.m 12 (by decide) (by decide)
  obtain ⟨m, hm⟩ : ∃ m : Nat, withinL c.m 12 = (m : Int) := ⟨(withinL c.m 12).toNat, by have : 0 ≤ withinL c.m 12 := hwn.1; omega⟩
  have hm9 : m ≤ 11 := by have : withinL c.m 12 < 12 := hwn.2; omega
  rw [htv]
  refine enter0 Try.func8 rfl Try.ntmps8 rfl ?_
  (repeat first|(with_reducible first|apply Za|apply Zb|apply Zc|apply Zd|apply Ze|apply Zi|apply Zs)|((with_reducible first|apply ZJ|apply ZK);rfl;rfl)|((with_reducible apply Zqz);rfl;rfl;(focus (repeat constructor));rfl)|((with_reducible apply Zrf);rfl;rfl;intro _)|((with_reducible apply Zz);rfl)|refine Yi 1 i8_1 (by kernel_rfl) ?_)
  refine SK.callA rfl rfl (fun w1 _ _ => within22 c.m 12 w1 (by decide) (by decide)) ?_
  rw [hm]
  (repeat first|(with_reducible first|apply Zc|apply Zs))
  refine SK.iadd rfl rfl rfl ?_
  refine SK.slot (j := 31) rfl (show Value.int .i64 (IntKind.i64.wrap (1 + (m : Int))) = .int .i64 ((m + 1 : Nat) : Int) from by rw [wrap64_in (by omega) (by omega)]; congr 1; omega) ?_
  obtain ⟨n, hn⟩ : ∃ n : Nat, n = m + 1 := ⟨_, rfl⟩
  rw [← hn]
  have hn1 : 1 ≤ n := by omega
  have hn12 : n ≤ 12 := by omega
  clear hn hm hwn
  (repeat first|(with_reducible first|apply Za|apply Zb|apply Zc|apply Zd|apply Zi|apply Zr|apply Zs)|((with_reducible apply ZJ);rfl;rfl)|((with_reducible apply Zqr);rfl;rfl;rfl)|((with_reducible apply Zrc);rfl;rfl;rfl;exact List.cons_ne_nil _ _;(first|rfl|(repeat first|exact plain_nil|(refine plain_cons (by first|rfl|exact OwnD.plain_val _ _) ?_)));(focus (repeat constructor));rfl)|((with_reducible apply Zrg);rfl;intro _))
  rename_i b7
  refine SK.loopW (fun g : Nat × OwnD => [(8, .int .i64 (g.1 : Int)), (6, .int .i64 (n : Int)), (7, .pointer (some ⟨b7, 0, none⟩)), (3, .slice Ab c.l.length cb), (4, .bool c.f), (5, .bool c.p)]) (fun g => some (b7, [.string bW, g.2.val g.1], 24) :: [g.2.ent (celK g.1) 59]) (fun g => g.1 ≤ n ∧ g.2.ok g.1 7 (celK g.1)) (fun g => n - g.1) (0, none) ⟨Nat.zero_le _, rfl, rfl⟩ (by (repeat constructor)) (by (repeat constructor)) ?_
  rintro ⟨i, oD⟩ ⟨hi, hoD⟩
  dsimp only at hi hoD ⊢
  by_cases hin : i < n
  · (repeat ((fail_if_success (with_reducible refine SK.atB 1 ?_)); first|(with_reducible first|apply Za|apply Zb|apply Zc|apply Zd|apply Zi|apply Zo)|((with_reducible apply ZI);rfl;rfl)|((with_reducible apply ZS);rfl;rfl;rfl;omega)|((with_reducible apply ZC);rfl)))
    refine SK.seq (SK.block (SK.regionX ?_))
    (repeat first|(with_reducible apply Zs)|((with_reducible refine Yz ?_);first|((with_reducible apply SK.convI); rfl; rfl; exact und3s; exact und5k; exact knd5)|((with_reducible refine SK.isBin ?_); (with_reducible apply SK.iadd); rfl; rfl; rfl)|((with_reducible first|apply ZI|apply ZK);rfl;rfl)|((with_reducible apply Zqr);rfl;rfl;rfl)|((with_reducible apply Zqz);rfl;rfl;(focus (repeat constructor));rfl)|((with_reducible apply Zrd);rfl;rfl;rfl;rfl;rfl;rfl;rfl;intro _))|((with_reducible apply SK.nextTB); rfl; rfl; (focus (repeat constructor)))|(with_reducible apply SK.nextTX))
    refine SK.appendP (o := oD) (xs := celK i) (news := ndC0 (ndK i)) (m := 1) rfl rfl hoD rfl (by (repeat constructor)) (Src.mem (by (repeat constructor)) rfl) rfl rfl rfl rfl (by unfold maxLen; omega) (by omega) (fun o1 ho1 _ => ?_)
    (repeat first|(with_reducible first|apply Zb|apply Zc|apply Zd|apply Zi|apply Zl|apply Zs)|((with_reducible first|apply ZI|apply ZJ|apply ZK);rfl;rfl)|((with_reducible apply ZR);rfl;rfl;rfl;omega)|((with_reducible apply Zrb);rfl;rfl;(first|rfl|exact OwnD.plain_val _ _);(focus (repeat constructor));rfl)|(with_reducible apply SK.nextTX)|(with_reducible apply SK.nextTD))
    exact SK.roundW (i + 1, o1) ⟨by omega, by dsimp only; rw [celK_succ]; exact ho1⟩ (by dsimp only; omega) (by (repeat constructor)) (by dsimp only; rw [celK_succ]; (repeat constructor))
  · have hie : i = n := by omega
    subst hie
    cases oD with
    | none => exact absurd hoD.2 (by omega)
    | some qD =>
    obtain ⟨bD, capD, spD⟩ := qD
    generalize hn' : i = n at *
    (repeat ((fail_if_success (with_reducible refine SK.atS 9 ?_)); first|(with_reducible first|apply Za|apply Zb|apply Zc|apply Zd|apply Zi|apply Zj|apply Zn|apply Zq|apply Zs)|((with_reducible apply ZI);rfl;rfl)|((with_reducible apply ZY);rfl;rfl;rfl;omega)|((with_reducible apply Zqr);rfl;rfl;rfl)|((with_reducible apply Zrc);rfl;rfl;rfl;exact List.cons_ne_nil _ _;(first|rfl|(repeat first|exact plain_nil|(refine plain_cons (by first|rfl|exact OwnD.plain_val _ _) ?_)));(focus (repeat constructor));rfl)|((with_reducible apply Zrg);rfl;intro _)|((with_reducible apply ZD);rfl)))
    rename_i b9
    refine SK.seqJ (fun _ : Unit => [(9, .pointer (some ⟨b9, 0, none⟩)), (6, .int .i64 (n : Int)), (7, .pointer (some ⟨b7, 0, none⟩)), (3, .slice Ab c.l.length cb), (4, .bool c.f), (5, .bool c.p)]) (fun _ => some (b9, (aP c.p).c, 39) :: some (b7, [.string bW, .slice (some ⟨bD, 0, none⟩) n capD], 24) :: [some (bD, celK n ++ spD, 59)]) (fun _ => True) ?_ ?_
    · cases hp : c.p with
      | true =>
        (repeat first|(with_reducible first|apply Za|apply Zb|apply Zc|apply Zd|apply Zi|apply Zs)|((with_reducible first|apply ZI|apply ZK);rfl;rfl)|((with_reducible apply Zrb);rfl;rfl;(first|rfl|exact OwnD.plain_val _ _);(focus (repeat constructor));rfl)|((with_reducible apply ZC);rfl))
        exact SK.jumped () trivial (by (repeat constructor)) (by (repeat constructor))
      | false =>
        (repeat first|(with_reducible first|apply Za|apply Zb|apply Zc|apply Zd|apply Zi|apply Zo)|((with_reducible apply ZI);rfl;rfl)|((with_reducible apply ZD);rfl))
        exact SK.jumped () trivial (by (repeat constructor)) (by (repeat constructor))
    rintro _ _
    obtain ⟨R0, hst0, hks0, htk0⟩ := kids_start hn1 hn12 (aP_kind c.p).1 (aP_kind c.p).2
    have hna0 : (aP c.p).name.size ≤ 1000 := by rw [(aP_kind c.p).2]; decide
    generalize hPP : (aP c.p).parent = PP at hks0
    generalize hMM : (aP c.p).pnode = MM at hks0
    (repeat first|(with_reducible first|apply Za|apply Zb|apply Zc)|((with_reducible apply Zqr);rfl;rfl;rfl)|((with_reducible apply Zra);rfl;rfl;(focus (repeat constructor));rfl))
    refine SK.callO rfl rfl (fun w1 g1 g2 => step20e (D := dfK n) (S := sta0) (a := aP c.p) (dv := (.agg #[.string bW, .slice (some ⟨bD, 0, none⟩) n capD])) (sv := stV sta0 (none, none)) hst0 (okK hn1 hn12) (good0 _) hna0 (rdfK (g2 _ _ _ (by (repeat constructor)))) (RSt.own (S := sta0) (oN := none) (oS := none) ⟨rfl, rfl⟩ ⟨rfl, rfl⟩ (fun b cs hb => by cases hb) (fun b cs hb => by cases hb)) (by obtain ⟨m, hm⟩ := hG; exact ⟨m, g1 _ _ _ hm⟩)) ?_
    rintro ⟨⟨aN, aS⟩, aE, aT⟩ ⟨⟨haN, haS⟩, haE, haT⟩
    dsimp only at haN haS haE haT ⊢
    obtain ⟨AT, cT, hvT⟩ := val_sl haT
    (repeat ((fail_if_success (with_reducible refine SK.atS 12 ?_)); first|(with_reducible first|apply Zc|apply Zd|apply Zi|apply Zs)|((with_reducible first|apply ZI|apply ZJ);rfl;rfl)|((with_reducible apply Zqn);rfl;rfl;rfl)|((with_reducible apply Zrc);rfl;rfl;rfl;exact List.cons_ne_nil _ _;(first|rfl|(repeat first|exact plain_nil|(refine plain_cons (by first|rfl|exact OwnD.plain_val _ _) ?_)));(focus (repeat constructor));rfl)|((with_reducible apply Zrg);rfl;intro _)))
    rename_i b11
    refine SK.slot (j := 12) rfl hvT ?_
    (repeat ((fail_if_success (with_reducible refine SK.atS 16 ?_)); first|(with_reducible first|apply Za|apply Zb|apply Zc|apply Zd|apply Zi|apply Zo|apply Zs)|((with_reducible first|apply ZI|apply ZJ|apply ZM|apply ZO);rfl;rfl)|((with_reducible apply Zqd);rfl;rfl;rfl;omega)|((with_reducible apply Zqs);rfl;rfl;rfl)|((with_reducible apply Zrg);rfl;intro _)|((with_reducible apply ZD);rfl)))
    rename_i b15
    refine SK.seqJ (fun g : List Bool × List Bool × Sta × OwnD × OwnD => [(15, .pointer (some ⟨b15, 0, none⟩)), (11, .pointer (some ⟨b11, 0, none⟩)), (6, .int .i64 (n : Int)), (7, .pointer (some ⟨b7, 0, none⟩)), (3, .slice Ab c.l.length cb), (4, .bool c.f), (5, .bool c.p)]) (fun g => some (b15, markC g.2.1, 66) :: some (b11, g.2.2.1.c (g.2.2.2.1.val g.2.2.1.nodes.length) (g.2.2.2.2.val g.2.2.1.sigs.length), 33) :: (stM g.2.2.1 g.2.2.2 ++ (some (b7, [.string bW, .slice (some ⟨bD, 0, none⟩) n capD], 24) :: [some (bD, celK n ++ spD, 59)])))
      (fun g => KS n g.2.2.1 g.1 PP MM ∧ Marks g.2.1 g.1 n ∧ 1 ≤ cnt g.1 ∧ OSt g.2.2.1 g.2.2.2) ?_ ?_
    · (repeat first|(with_reducible first|apply Za|apply Zb|apply Zc|apply Zd|apply Zi|apply Zr)|((with_reducible apply ZJ);rfl;rfl))
      refine SK.loopW (fun g : Nat × List Bool × List Bool × Sta × OwnD × OwnD => [(16, .int .i64 (g.1 : Int)), (14, .int .i64 (cnt g.2.1 : Int)), (15, .pointer (some ⟨b15, 0, none⟩)), (11, .pointer (some ⟨b11, 0, none⟩)), (6, .int .i64 (n : Int)), (7, .pointer (some ⟨b7, 0, none⟩)), (3, .slice Ab c.l.length cb), (4, .bool c.f), (5, .bool c.p)])
        (fun g => some (b15, markC g.2.2.1, 66) :: some (b11, g.2.2.2.1.c (g.2.2.2.2.1.val g.2.2.2.1.nodes.length) (g.2.2.2.2.2.val g.2.2.2.1.sigs.length), 33) :: (stM g.2.2.2.1 g.2.2.2.2 ++ (some (b7, [.string bW, .slice (some ⟨bD, 0, none⟩) n capD], 24) :: [some (bD, celK n ++ spD, 59)])))
        (fun g => g.1 ≤ n ∧ KS n g.2.2.2.1 g.2.1 PP MM ∧ Marks g.2.2.1 g.2.1 g.1 ∧ 1 ≤ cnt g.2.1 ∧ OSt g.2.2.2.1 g.2.2.2.2 ∧ ∀ j, g.1 ≤ j → j < n → g.2.1[j]? = some true) (fun g => n - g.1) (0, List.replicate n true, List.replicate 12 false, R0.S, aN, aS)
        ⟨Nat.zero_le _, hks0, ⟨rfl, fun j hj => by show (List.replicate 12 false)[j]? = _; rw [List.getElem?_replicate, if_pos hj]; simp⟩, by simp [cnt]; omega, ⟨haN, haS⟩, fun j _ hj => by simp [hj]⟩ (by simp only [cnt, List.countP_replicate]; (repeat constructor)) (by (repeat constructor)) ?_
      rintro ⟨i, q, bl, S, oN, oS⟩ ⟨hin', hks, hmk, hct, ⟨hoN, hoS⟩, hrest⟩
      dsimp only at hin' hks hmk hct hoN hoS hrest ⊢
      have hql := hks.ql
      have hcl : cnt q ≤ n := by have := List.countP_le_length (p := id) (l := q); show q.countP id ≤ n; omega
      by_cases hin : i < n
      · have hi12 : i < 12 := by omega
        have hqi := hrest i (Nat.le_refl _) hin
        have hstT := mark_st (bl := bl) (i := i) (by rw [hmk.1]; exact hi12) true
        have hmy := hmk.yes hi12 hqi
        have hmn := hmk.no hi12
        have hr2 : ∀ j, i + 1 ≤ j → j < n → q[j]? = some true := fun j hj => hrest j (by omega)
        by_cases hil : i < c.l.length
        · obtain ⟨bb, hbb⟩ : ∃ bb, c.l[i]? = some bb := ⟨_, List.getElem?_eq_getElem hil⟩
          obtain ⟨ba, oa, hAb, hcb⟩ := hbn i bb hbb (by omega)
          subst hAb
          have hcb0 := hcb 0 _ rfl
          cases bb with
          | true =>
            by_cases hc1 : 1 < cnt q
            · obtain ⟨R1, hst1, hks1⟩ := kids_done hn1 hn12 hks hqi (by omega)
              have hkn := celK_ld hin spD 0 (.string (nmS i)) rfl
              have hcs := cnt_set hqi
              (repeat first|(with_reducible first|apply Za|apply Zb|apply Zc|apply Zd|apply Zi|apply Zo|apply Zr|apply Zs)|((with_reducible refine Yz ?_);first|((with_reducible apply SK.indexAddr); rfl; rfl; rfl; first | exact hil | exact hin | exact hkt)|((with_reducible apply SK.indexAddrA); rfl; rfl; rfl; exact hi12)|((with_reducible apply SK.load1); rfl; rfl; (focus (repeat constructor)); first | with_reducible exact hkn | with_reducible exact hbi)|((with_reducible apply SK.load1R); rfl; rfl; exact hcb0)|((with_reducible apply SK.store1); rfl; rfl; rfl; (focus (repeat constructor)); first | with_reducible exact hstT | with_reducible exact hstF)|((with_reducible first|apply ZI|apply ZK|apply ZM|apply ZO);rfl;rfl)|((with_reducible first|apply ZS|apply ZU);rfl;rfl;rfl;omega)|((with_reducible first|apply Zqm|apply Zqo|apply Zqr);rfl;rfl;rfl)|((with_reducible first|apply Zqz|apply Zra);rfl;rfl;(focus (repeat constructor));rfl))|((with_reducible first|apply Zz|apply ZC);rfl)|refine Yi 21 i8_21 (by kernel_rfl) ?_)
              refine SK.callO rfl rfl (fun w1 g1 g2 => step20e (D := dfK n) (S := S) (a := inC i 2 e0) (dv := (.agg #[.string bW, .slice (some ⟨bD, 0, none⟩) n capD])) (sv := stV S (oN, oS)) hst1 (okK hn1 hn12) hks.gd (show e0.size ≤ 1000 by decide) (rdfK (g2 _ _ _ (by (repeat constructor)))) (RSt.own hoN hoS (fun b cs hb j u hu => g2 b cs _ (by rw [← hb]; (repeat constructor)) j u hu) (fun b cs hb j u hu => g2 b cs _ (by rw [← hb]; (repeat constructor)) j u hu)) (by obtain ⟨m, hm⟩ := hG; exact ⟨m, g1 _ _ _ hm⟩)) ?_
              rintro ⟨⟨pN, pS⟩, pE, pT⟩ ⟨⟨hpN, hpS⟩, hpE, hpT⟩
              dsimp only at hpN hpS hpE hpT ⊢
              have hstF := mark_st (bl := bl.set i true) (i := i) (by rw [List.length_set, hmk.1]; exact hi12) false
              (repeat first|(with_reducible first|apply Za|apply Zb|apply Zc|apply Zd|apply Ze|apply Zi|apply Zo|apply Zs)|((with_reducible refine Yz ?_);first|((with_reducible apply SK.indexAddrA); rfl; rfl; rfl; exact hi12)|((with_reducible apply SK.store1); rfl; rfl; rfl; (focus (repeat constructor)); first | with_reducible exact hstT | with_reducible exact hstF)|((with_reducible first|apply ZI|apply ZJ);rfl;rfl)|((with_reducible apply Zqd);rfl;rfl;rfl;omega)|((with_reducible apply Zqn);rfl;rfl;rfl)|((with_reducible apply Zrc);rfl;rfl;rfl;exact List.cons_ne_nil _ _;(first|rfl|(repeat first|exact plain_nil|(refine plain_cons (by first|rfl|exact OwnD.plain_val _ _) ?_)));(focus (repeat constructor));rfl))|((with_reducible apply Zz);rfl)|((with_reducible apply ZD);rfl))
              refine SK.isub rfl rfl rfl ?_
              refine SK.slot (j := 112) rfl (show Value.int .i64 (IntKind.i64.wrap ((cnt q : Int) - 1)) = .int .i64 (cnt (q.set i false) : Int) from by rw [wrap64_in (by omega) (by omega)]; congr 1; omega) ?_
              (repeat first|(with_reducible first|apply Zb|apply Zc|apply Zd|apply Zi|apply Zl)|((with_reducible first|apply ZI|apply ZJ);rfl;rfl)|((with_reducible apply ZR);rfl;rfl;rfl;omega))
              exact SK.roundW (i + 1, q.set i false, (bl.set i true).set i false, R1.S, pN, pS) ⟨by omega, hks1, hmn, by dsimp only; omega, ⟨hpN, hpS⟩, fun j hj hjn => by dsimp only at hj ⊢; rw [List.getElem?_set, if_neg (by omega)]; exact hrest j (by omega) hjn⟩ (by dsimp only; omega) (by (repeat constructor)) (by (repeat constructor))
            · (repeat first|(with_reducible first|apply Za|apply Zb|apply Zc|apply Zd|apply Zi|apply Zl|apply Zo|apply Zr|apply Zs)|((with_reducible refine Yz ?_);first|((with_reducible apply SK.indexAddr); rfl; rfl; rfl; first | exact hil | exact hin | exact hkt)|((with_reducible apply SK.indexAddrA); rfl; rfl; rfl; exact hi12)|((with_reducible apply SK.load1R); rfl; rfl; exact hcb0)|((with_reducible apply SK.store1); rfl; rfl; rfl; (focus (repeat constructor)); first | with_reducible exact hstT | with_reducible exact hstF)|((with_reducible first|apply ZI|apply ZJ|apply ZM|apply ZO);rfl;rfl)|((with_reducible first|apply ZR|apply ZS);rfl;rfl;rfl;omega)|((with_reducible apply Zqa);rfl;rfl;rfl;omega)|((with_reducible apply Zqo);rfl;rfl;rfl))|((with_reducible apply ZC);rfl)|((with_reducible apply ZD);rfl))
              exact SK.roundW (i + 1, q, bl.set i true, S, oN, oS) ⟨by omega, hks, hmy, hct, ⟨hoN, hoS⟩, hr2⟩ (by dsimp only; omega) (by (repeat constructor)) (by (repeat constructor))
          | false =>
            (repeat first|(with_reducible first|apply Za|apply Zb|apply Zc|apply Zd|apply Zi|apply Zl|apply Zo|apply Zr|apply Zs)|((with_reducible refine Yz ?_);first|((with_reducible apply SK.indexAddr); rfl; rfl; rfl; first | exact hil | exact hin | exact hkt)|((with_reducible apply SK.indexAddrA); rfl; rfl; rfl; exact hi12)|((with_reducible apply SK.load1R); rfl; rfl; exact hcb0)|((with_reducible apply SK.store1); rfl; rfl; rfl; (focus (repeat constructor)); first | with_reducible exact hstT | with_reducible exact hstF)|((with_reducible first|apply ZI|apply ZJ|apply ZM|apply ZO);rfl;rfl)|((with_reducible first|apply ZR|apply ZS);rfl;rfl;rfl;omega)|((with_reducible apply Zqo);rfl;rfl;rfl)|((with_reducible apply Zqs);rfl;rfl;rfl)|((with_reducible apply Zqx);rfl;rfl;rfl;rfl))|((with_reducible apply ZC);rfl)|((with_reducible apply ZD);rfl))
            exact SK.roundW (i + 1, q, bl.set i true, S, oN, oS) ⟨by omega, hks, hmy, hct, ⟨hoN, hoS⟩, hr2⟩ (by dsimp only; omega) (by (repeat constructor)) (by (repeat constructor))
        · (repeat first|(with_reducible first|apply Za|apply Zb|apply Zc|apply Zd|apply Zi|apply Zl|apply Zo|apply Zr|apply Zs)|((with_reducible refine Yz ?_);first|((with_reducible apply SK.indexAddrA); rfl; rfl; rfl; exact hi12)|((with_reducible apply SK.store1); rfl; rfl; rfl; (focus (repeat constructor)); first | with_reducible exact hstT | with_reducible exact hstF)|((with_reducible first|apply ZI|apply ZJ|apply ZM);rfl;rfl)|((with_reducible first|apply ZR|apply ZS);rfl;rfl;rfl;omega)|((with_reducible apply ZY);rfl;rfl;rfl;omega)|((with_reducible apply Zqs);rfl;rfl;rfl)|((with_reducible apply Zqx);rfl;rfl;rfl;rfl))|((with_reducible apply ZC);rfl)|((with_reducible apply ZD);rfl))
          exact SK.roundW (i + 1, q, bl.set i true, S, oN, oS) ⟨by omega, hks, hmy, hct, ⟨hoN, hoS⟩, hr2⟩ (by dsimp only; omega) (by (repeat constructor)) (by (repeat constructor))
      · have hie2 : i = n := by omega
        rw [hie2] at hmk
        (repeat first|(with_reducible first|apply Za|apply Zb|apply Zc|apply Zd|apply Zi|apply Zj|apply Zn|apply Zq)|((with_reducible apply ZI);rfl;rfl)|((with_reducible apply ZY);rfl;rfl;rfl;omega)|((with_reducible apply ZD);rfl))
        exact SK.jumped (q, bl, S, oN, oS) ⟨hks, hmk, hct, ⟨hoN, hoS⟩⟩ (by (repeat constructor)) (by (repeat constructor))
    rintro ⟨q, bl, S, oN, oS⟩ ⟨hks, hmk, hct, ⟨hoN, hoS⟩⟩
    dsimp only at hks hmk hct hoN hoS ⊢
    (repeat ((fail_if_success (with_reducible refine SK.atS 28 ?_)); first|(with_reducible first|apply Za|apply Zb|apply Zc|apply Zd|apply Zi|apply Zs)|((with_reducible apply ZJ);rfl;rfl)|((with_reducible apply Zqr);rfl;rfl;rfl)|((with_reducible apply Zrc);rfl;rfl;rfl;exact List.cons_ne_nil _ _;(first|rfl|(repeat first|exact plain_nil|(refine plain_cons (by first|rfl|exact OwnD.plain_val _ _) ?_)));(focus (repeat constructor));rfl)|((with_reducible apply Zrg);rfl;intro _)))
    rename_i b17
    refine SK.seqJ (fun g : Inp × Int × List Bool × List Bool => [(18, .int .i64 g.2.1), (17, .pointer (some ⟨b17, 0, none⟩)), (15, .pointer (some ⟨b15, 0, none⟩)), (11, .pointer (some ⟨b11, 0, none⟩)), (6, .int .i64 (n : Int)), (7, .pointer (some ⟨b7, 0, none⟩)), (3, .slice Ab c.l.length cb), (4, .bool c.f), (5, .bool c.p)]) (fun g => some (b17, g.1.c, 39) :: some (b15, markC g.2.2.2, 66) :: some (b11, S.c (oN.val S.nodes.length) (oS.val S.sigs.length), 33) :: (stM S (oN, oS) ++ (some (b7, [.string bW, .slice (some ⟨bD, 0, none⟩) n capD], 24) :: [some (bD, celK n ++ spD, 59)])))
      (fun g => (∃ R, stepL (dfK n) S g.1 = (0, R) ∧ R.S.status = g.2.1 ∧ R.S.text = bWhy ∧ R.tk = (busyL n g.2.2.1).map mkK ++ parK PP MM g.2.1) ∧ Marks g.2.2.2 g.2.2.1 n ∧ g.1.name.size ≤ 1000) ?_ ?_
    · cases hcf : c.f with
      | false =>
        (repeat first|(with_reducible first|apply Za|apply Zb|apply Zc|apply Zd|apply Zi|apply Zo)|((with_reducible apply ZI);rfl;rfl)|((with_reducible apply ZD);rfl))
        exact SK.jumped (inE, 4, q, bl) ⟨kids_cancel hks, hmk, by show e0.size ≤ 1000; decide⟩ (by (repeat constructor)) (by (repeat constructor))
      | true =>
        (repeat first|(with_reducible first|apply Za|apply Zb|apply Zc|apply Zd|apply Zi|apply Zr)|((with_reducible first|apply ZI|apply ZJ);rfl;rfl)|((with_reducible apply ZC);rfl))
        refine SK.loopW (fun i : Nat => [(19, .int .i64 (i : Int)), (17, .pointer (some ⟨b17, 0, none⟩)), (15, .pointer (some ⟨b15, 0, none⟩)), (11, .pointer (some ⟨b11, 0, none⟩)), (6, .int .i64 (n : Int)), (7, .pointer (some ⟨b7, 0, none⟩)), (3, .slice Ab c.l.length cb), (4, .bool true), (5, .bool c.p)])
          (fun _ => some (b17, inE.c, 39) :: some (b15, markC bl, 66) :: some (b11, S.c (oN.val S.nodes.length) (oS.val S.sigs.length), 33) :: (stM S (oN, oS) ++ (some (b7, [.string bW, .slice (some ⟨bD, 0, none⟩) n capD], 24) :: [some (bD, celK n ++ spD, 59)])))
          (fun i => i ≤ n ∧ ∀ j, j < i → q[j]? ≠ some true) (fun i => n - i) 0 ⟨Nat.zero_le _, fun j hj => absurd hj (Nat.not_lt_zero _)⟩ (by (repeat constructor)) (by (repeat constructor)) ?_
        rintro i ⟨hile, hno⟩
        by_cases hin : i < n
        · have hi12 : i < 12 := by omega
          have hbi := mark_ld (hmk.2 i hi12)
          by_cases hqi : q[i]? = some true
          · have hdd : decide (i < n ∧ q[i]? = some true) = true := by simp [hin, hqi]
            rw [hdd] at hbi
            have hkn := celK_ld hin spD 0 (.string (nmS i)) rfl
            have hstF := mark_st (bl := bl) (i := i) (by rw [hmk.1]; exact hi12) false
            (repeat first|(with_reducible first|apply Za|apply Zb|apply Zc|apply Zd|apply Zi|apply Zj|apply Zn|apply Zo|apply Zq|apply Zr|apply Zs)|((with_reducible refine Yz ?_);first|((with_reducible apply SK.indexAddr); rfl; rfl; rfl; first | exact hil | exact hin | exact hkt)|((with_reducible apply SK.indexAddrA); rfl; rfl; rfl; exact hi12)|((with_reducible apply SK.load1); rfl; rfl; (focus (repeat constructor)); first | with_reducible exact hkn | with_reducible exact hbi)|((with_reducible apply SK.store1); rfl; rfl; rfl; (focus (repeat constructor)); first | with_reducible exact hstT | with_reducible exact hstF)|((with_reducible first|apply ZI|apply ZJ|apply ZK);rfl;rfl)|((with_reducible apply ZS);rfl;rfl;rfl;omega)|((with_reducible first|apply Zqm|apply Zqr);rfl;rfl;rfl)|((with_reducible apply Zqz);rfl;rfl;(focus (repeat constructor));rfl)|((with_reducible apply Zrc);rfl;rfl;rfl;exact List.cons_ne_nil _ _;(first|rfl|(repeat first|exact plain_nil|(refine plain_cons (by first|rfl|exact OwnD.plain_val _ _) ?_)));(focus (repeat constructor));rfl))|((with_reducible first|apply ZB|apply ZC);rfl))
            exact SK.jumped (inC i 3 bWhy, 3, q.set i false, bl.set i false) ⟨kids_fail hn12 hks hqi, hmk.off hi12, by show e0.size ≤ 1000; decide⟩ (by (repeat constructor)) (by (repeat constructor))
          · have hdd : decide (i < n ∧ q[i]? = some true) = false := by simp [hqi]
            rw [hdd] at hbi
            (repeat first|(with_reducible first|apply Za|apply Zb|apply Zc|apply Zd|apply Zi|apply Zl|apply Zo|apply Zr)|((with_reducible refine Yz ?_);first|((with_reducible apply SK.indexAddrA); rfl; rfl; rfl; exact hi12)|((with_reducible apply SK.load1); rfl; rfl; (focus (repeat constructor)); first | with_reducible exact hkn | with_reducible exact hbi)|((with_reducible first|apply ZI|apply ZJ);rfl;rfl)|((with_reducible first|apply ZR|apply ZS);rfl;rfl;rfl;omega))|((with_reducible apply ZC);rfl)|((with_reducible apply ZD);rfl))
            exact SK.roundW (i + 1) ⟨by omega, fun j hj => by
              by_cases hji : j = i
              · subst hji; exact hqi
              · exact hno j (by omega)⟩ (by omega) (by (repeat constructor)) (by (repeat constructor))
        · exfalso
          obtain ⟨j, hj⟩ := cnt_pos hct
          have hjl := (List.getElem?_eq_some_iff.1 hj).1
          have hql := hks.ql
          exact hno j (by omega) hj
    rintro ⟨a, st1, q2, bl2⟩ ⟨⟨R, hR, hRs, hRt, hRk⟩, hmk2, hna⟩
    dsimp only at hR hRs hRt hRk hmk2 hna ⊢
    have hRt' : ¬ (R.S.text ≠ bWhy) := fun h => h hRt
    (repeat first|(with_reducible first|apply Za|apply Zb|apply Zc)|((with_reducible apply Zra);rfl;rfl;(focus (repeat constructor));rfl))
    refine SK.callO rfl rfl (fun w1 g1 g2 => step20e (D := dfK n) (S := S) (a := a) (dv := (.agg #[.string bW, .slice (some ⟨bD, 0, none⟩) n capD])) (sv := stV S (oN, oS)) hR (okK hn1 hn12) hks.gd hna (rdfK (g2 _ _ _ (by (repeat constructor)))) (RSt.own hoN hoS (fun b cs hb j u hu => g2 b cs _ (by rw [← hb]; (repeat constructor)) j u hu) (fun b cs hb j u hu => g2 b cs _ (by rw [← hb]; (repeat constructor)) j u hu)) (by obtain ⟨m, hm⟩ := hG; exact ⟨m, g1 _ _ _ hm⟩)) ?_
    rintro ⟨⟨pN, pS⟩, pE, pT⟩ ⟨⟨hpN, hpS⟩, hpE, hpT⟩
    dsimp only at hpN hpS hpE hpT ⊢
    (repeat ((fail_if_success (with_reducible refine SK.atS 40 ?_)); first|(with_reducible first|apply Za|apply Zb|apply Zc|apply Zd|apply Zi|apply Zo|apply Zs)|((with_reducible first|apply ZI|apply ZJ|apply ZK|apply ZO);rfl;rfl)|((with_reducible apply Zqd);rfl;rfl;rfl;omega)|((with_reducible apply Zqn);rfl;rfl;rfl)|((with_reducible apply Zqs);rfl;rfl;rfl)|((with_reducible apply Zqe);rfl;rfl;rfl;assumption)|((with_reducible apply Zqz);rfl;rfl;(focus (repeat constructor));rfl)|((with_reducible apply Zrc);rfl;rfl;rfl;exact List.cons_ne_nil _ _;(first|rfl|(repeat first|exact plain_nil|(refine plain_cons (by first|rfl|exact OwnD.plain_val _ _) ?_)));(focus (repeat constructor));rfl)|((with_reducible apply ZD);rfl)))
    obtain ⟨AT2, cT2, hvT2⟩ := val_sl hpT
    have hcat : ∀ i, bF ++ slash ++ nmS i = (⟨#[102, 47]⟩ : ByteArray) ++ nmS i := fun i => by rw [show bF ++ slash = (⟨#[102, 47]⟩ : ByteArray) from by kernel_rfl]
    have hbl1 := busyL_le n q2
    have htl : R.tk.length = (busyL n q2).length + (parK PP MM st1).length := by rw [hRk]; simp
    (repeat first|(with_reducible first|apply Za|apply Zb|apply Zc|apply Zd|apply Zi|apply Zr)|((with_reducible apply ZJ);rfl;rfl))
    refine SK.loopW (fun g : Nat × Nat => [(21, .int .i64 (g.1 : Int)), (20, .int .i64 (g.2 : Int)), (12, pT.val R.tk.length), (18, .int .i64 st1), (15, .pointer (some ⟨b15, 0, none⟩)), (6, .int .i64 (n : Int)), (7, .pointer (some ⟨b7, 0, none⟩)), (5, .bool c.p)])
      (fun _ => some (b15, markC bl2, 66) :: pT.ent (R.tk.flatMap Tk.c) 52 :: some (b7, [.string bW, .slice (some ⟨bD, 0, none⟩) n capD], 24) :: [some (bD, celK n ++ spD, 59)]) (fun g => g.1 ≤ n ∧ g.2 = (busyL g.1 q2).length) (fun g => n - g.1) (0, 0) ⟨Nat.zero_le _, rfl⟩ (by (repeat constructor)) (by (repeat constructor)) ?_
    rintro ⟨i, k⟩ ⟨hile, hk⟩
    dsimp only at hile hk ⊢
    have hkl := busyL_le i q2
    by_cases hin : i < n
    · have hi12 : i < 12 := by omega
      have hbi := mark_ld (hmk2.2 i hi12)
      have hsu := busyL_succ i q2
      by_cases hqi : q2[i]? = some true
      · have hdd : decide (i < n ∧ q2[i]? = some true) = true := by simp [hin, hqi]
        rw [hdd] at hbi
        rw [if_pos hqi] at hsu
        have hat := busyL_at hin hqi
        rw [← hk] at hat
        have hbk := (List.getElem?_eq_some_iff.1 hat).1
        have htk : R.tk[k]? = some (mkK i) := by rw [hRk, List.getElem?_append_left (by simpa using hbk), List.getElem?_map, hat]; rfl
        have hkt := (List.getElem?_eq_some_iff.1 htk).1
        cases pT with
        | none => exact absurd hpT.2 (by omega)
        | some qT =>
        obtain ⟨bT, capT, spT⟩ := qT
        have hlm : sl (R.tk.flatMap Tk.c ++ spT) (0 + k * 13 + 6) 7 = some [.int .i64 4, .string ((⟨#[102, 47]⟩ : ByteArray) ++ nmS i), .string bF, .string (nmS i), .string e0, .string bWhy, .int .i64 0] := by
          rw [tk_mail spT htk]
          show some [Value.int .i64 4, .string (bF ++ slash ++ nmS i), _, _, _, _, _] = _
          rw [hcat i]
        have hkn := celK_ld hin spD 0 (.string (nmS i)) rfl
        have hsz : (⟨#[102, 47]⟩ : ByteArray).size + (nmS i).size ≤ 9223372036854775807 := by rw [nmS_size hi12]; decide
        (repeat first|(with_reducible first|apply Za|apply Zb|apply Zc|apply Zd|apply Zi|apply Zo|apply Zr)|((with_reducible refine Yz ?_);first|((with_reducible apply SK.indexAddr); rfl; rfl; rfl; first | exact hil | exact hin | exact hkt)|((with_reducible apply SK.indexAddrA); rfl; rfl; rfl; exact hi12)|((with_reducible apply SK.load1); rfl; rfl; (focus (repeat constructor)); first | with_reducible exact hkn | with_reducible exact hbi)|((with_reducible apply SK.loadA); rfl; rfl; (focus (repeat constructor)); exact hlm)|((with_reducible refine SK.isBin ?_); (with_reducible apply SK.addS); rfl; rfl; rfl; exact hsz)|((with_reducible first|apply ZI|apply ZK|apply ZM|apply ZO);rfl;rfl)|((with_reducible apply ZP);rfl;rfl)|((with_reducible apply ZS);rfl;rfl;rfl;omega)|((with_reducible apply Zqb);rfl;rfl;rfl;omega)|((with_reducible first|apply Zqm|apply Zqr);rfl;rfl;rfl)|((with_reducible apply Zqz);rfl;rfl;(focus (repeat constructor));rfl))|((with_reducible first|apply Zz|apply ZC);rfl)|((with_reducible apply ZD);rfl)|refine Yi 44 i8_44 (by kernel_rfl) ?_)
        refine SK.neSame rfl rfl rfl (alikeMl ⟨4, (⟨#[102, 47]⟩ : ByteArray) ++ nmS i, bF, nmS i, e0, bWhy, 0⟩) guard50 ?_
        (repeat first|(with_reducible first|apply Zb|apply Zc|apply Zd|apply Ze|apply Zi|apply Zl|apply Zo)|((with_reducible first|apply ZI|apply ZJ);rfl;rfl)|((with_reducible apply ZR);rfl;rfl;rfl;omega)|((with_reducible apply Zqs);rfl;rfl;rfl)|((with_reducible apply Zz);rfl)|((with_reducible apply ZD);rfl))
        exact SK.roundW (i + 1, k + 1) ⟨by omega, by dsimp only; rw [hsu, hk]; simp⟩ (by dsimp only; omega) (by (repeat constructor)) (by (repeat constructor))
      · have hdd : decide (i < n ∧ q2[i]? = some true) = false := by simp [hqi]
        rw [hdd] at hbi
        rw [if_neg hqi, List.append_nil] at hsu
        (repeat first|(with_reducible first|apply Za|apply Zb|apply Zc|apply Zd|apply Zi|apply Zj|apply Zn|apply Zo|apply Zq|apply Zr)|((with_reducible refine Yz ?_);first|((with_reducible apply SK.indexAddrA); rfl; rfl; rfl; exact hi12)|((with_reducible apply SK.load1); rfl; rfl; (focus (repeat constructor)); first | with_reducible exact hkn | with_reducible exact hbi)|((with_reducible first|apply ZI|apply ZJ);rfl;rfl)|((with_reducible apply ZP);rfl;rfl)|((with_reducible first|apply ZR|apply ZS);rfl;rfl;rfl;omega))|((with_reducible apply ZC);rfl))
        exact SK.roundW (i + 1, k) ⟨by omega, by dsimp only; rw [hsu]; exact hk⟩ (by dsimp only; omega) (by (repeat constructor)) (by (repeat constructor))
    · have hie2 : i = n := by omega
      rw [hie2] at hk
      cases hcp : c.p with
      | true =>
        rw [hcp] at hPP hMM
        have hPP : bPar = PP := hPP
        have hMM : bNod = MM := hMM
        subst hPP
        subst hMM
        have hpk : parK bPar bNod st1 = [⟨3, bF, e0, 0, 0, ⟨2, bPar, bF, bNod, e0, bWhy, st1⟩⟩] := by unfold parK; rw [if_neg (by decide)]
        rw [hpk] at hRk htl
        have hl1 : R.tk.length = k + 1 := by rw [htl, hk]; rfl
        have hkt : k < R.tk.length := by omega
        have htk : R.tk[k]? = some ⟨3, bF, e0, 0, 0, ⟨2, bPar, bF, bNod, e0, bWhy, st1⟩⟩ := by rw [hRk, List.getElem?_append_right (by simp; omega)]; simp [hk]
        cases pT with
        | none => exact absurd hpT.2 (by omega)
        | some qT =>
        obtain ⟨bT, capT, spT⟩ := qT
        have hlm := tk_mail spT htk
        (repeat first|(with_reducible first|apply Za|apply Zb|apply Zc|apply Zd|apply Zi|apply Zj|apply Zn|apply Zq)|((with_reducible refine Yz ?_);first|((with_reducible apply SK.indexAddr); rfl; rfl; rfl; first | exact hil | exact hin | exact hkt)|((with_reducible apply SK.loadA); rfl; rfl; (focus (repeat constructor)); exact hlm)|((with_reducible first|apply ZI|apply ZM|apply ZO);rfl;rfl)|((with_reducible first|apply ZY|apply Zqb);rfl;rfl;rfl;omega)|((with_reducible first|apply Zqm|apply Zqr);rfl;rfl;rfl))|((with_reducible apply ZC);rfl)|((with_reducible apply ZD);rfl))
        refine SK.neSame rfl rfl rfl (alikeMl ⟨2, bPar, bF, bNod, e0, bWhy, st1⟩) guard50 ?_
        (repeat first|(with_reducible first|apply Za|apply Zb|apply Zc|apply Zd|apply Zi|apply Zo)|((with_reducible first|apply ZI|apply ZJ|apply ZM|apply ZO);rfl;rfl)|((with_reducible first|apply ZR|apply ZW);rfl;rfl;rfl;omega)|((with_reducible apply Zqs);rfl;rfl;rfl)|((with_reducible apply ZD);rfl))
        refine SK.callA rfl rfl (fun w1 g1 _ => wakes17 w1 (hG1 w1 g1)) ?_
        (repeat first|(with_reducible first|apply Zc|apply Zd|apply Zi|apply Zp|apply Zs)|((with_reducible apply ZJ);rfl;rfl)|((with_reducible apply Zqo);rfl;rfl;rfl))
        exact SK.retQ rfl (by (repeat constructor)) (fun w' hm' => ⟨(), trivial, rfl, hm'.wk (by (repeat constructor))⟩)
      | false =>
        rw [hcp] at hPP
        have hPP : e0 = PP := hPP
        subst hPP
        have hpk : parK e0 MM st1 = [] := by unfold parK; rw [if_pos rfl]
        rw [hpk] at htl
        have hl1 : R.tk.length = k := by rw [htl, hk]; rfl
        refine SK.slot (j := 12) rfl hvT2 ?_
        (repeat first|(with_reducible first|apply Za|apply Zb|apply Zc|apply Zd|apply Zi|apply Zj|apply Zn|apply Zo|apply Zq)|((with_reducible first|apply ZI|apply ZM|apply ZO);rfl;rfl)|((with_reducible apply ZW);rfl;rfl;rfl;omega)|((with_reducible apply ZY);rfl;rfl;rfl;omega)|((with_reducible apply ZD);rfl))
        refine SK.callA rfl rfl (fun w1 g1 _ => wakes17 w1 (hG1 w1 g1)) ?_
        (repeat first|(with_reducible first|apply Zc|apply Zd|apply Zi|apply Zp|apply Zs)|((with_reducible apply ZJ);rfl;rfl)|((with_reducible apply Zqo);rfl;rfl;rfl))
        exact SK.retQ rfl (by (repeat constructor)) (fun w' hm' => ⟨(), trivial, rfl, hm'.wk (by (repeat constructor))⟩)
open Go.ChangeShapes Go.WideShapes Go.ChangeAt Go.RowKit
set_option maxRecDepth 100000 in
set_option maxHeartbeats 4000000 in
theorem historyCancels_lifted (os : Os) (started : os.Started) (H : Type) (enc : TypeId × Value → H) :
    ReturnsInHanded {} Try.checked os 8 .any (Rows.historyCancelsSpec.pre6 enc Try.prog Try.f8 Rows.historyCancelsRow.domain false) (Rows.historyCancelsSpec.post enc Try.prog Try.f8 false true false false) := by
  refine returnsInHanded_of_change_shaped (C := Try.checked) Try.own started (by kernel_rfl) Try.func8
    (ChangeSpec.witness6 (enc := enc) (C := Try.checked) false ⟨#[], #[.agg #[.int .i64 0, .slice none 0 0, .bool false, .bool false]], []⟩ 8 (by kernel_rfl) (by kernel_rfl) (by kernel_rfl) (by kernel_rfl)) ?_
  intro W base args ds gs before hval0 hW hcnd0 hsz0 hsh _
  have hsz : (DataW.weightsEach Try.prog (Try.f8.params.toList ++ Rows.historyCancelsSpec.plain.varTypes Try.prog) (ds ++ gs)).all (· ≤ reachBytes) = true := hsz0
  have hval : ∀ (j : Nat) t v, Try.f8.params[j]? = some t → args[j]? = some v → Value.okWide Try.prog W .any base t v := hval0
  have hW' := hW
  obtain ⟨p, q, hA0, hV, rfl, hfz, hnd⟩ := hW
  have hA : DataW.TrodAll enc Try.prog W 0 (fun _ => true) true Try.f8.params.toList args.toList ds p := hA0
  rw [Try.params8] at hA hval hsz
  obtain ⟨v0, d0, rfl, rfl, h0⟩ := trodAll_one hA
  obtain ⟨rfl, rfl⟩ := trodVars_none hV
  have hlt := hW'.lt
  have hw0 : ∀ n ∈ d0.weights Try.prog 64, n ≤ reachBytes := fun n hn => by
    have := List.all_eq_true.1 hsz n (DataW.weights_mem_each (j := 0) rfl rfl n hn)
    simpa using this
  have hR : reachBytes < 9223372036854775807 := by decide
  obtain ⟨f0, t0⟩ := id h0
  have ok0 := hval 0 64 v0 rfl rfl
  unfold Value.okWide at ok0
  rw [Try.underlying64] at ok0
  obtain ⟨cs0, rfl, _, _⟩ := ok0
  obtain ⟨c, e0, hc⟩ := open64 t0 hw0 hR
  have e0' : cs0 = _ := Array.ext' e0
  subst e0'
  obtain ⟨m, hm⟩ := Try.laysM144.s1_3 W hsh
  have hrun := cancels8 c W (hc.1.mono fun b o v h => Cw.vw h) hc.2 ⟨m, Cw.vw hm⟩
  refine Calls.mono hrun fun e W' ⟨_, _, he, hmem⟩ => ?_
  have hb := Mem.below hmem
  subst he
  have r0 := Below.trod Try.laidOut (ty_ok 64 (by kernel_rfl) (by kernel_rfl)).1 (ty_ok 64 (by kernel_rfl) (by kernel_rfl)).2 h0 hb (fun x hx => hlt x (by simp [hx]))
  exact ⟨_, rfl, ⟨_, _, _, [], _, [], hW', trodAll_mk1 (shut_bool Try.underlying4 _), trodAll_mk1 r0, rfl, hb.frame _, fun h => by cases h⟩⟩
theorem HistoryCancels_holds : Rows.HistoryCancelsSaid :=
  OpenClaim.holds_of_wide 8 Try.f8 rfl rfl rfl rfl rfl rfl rfl ⟨rfl, rfl, rfl, rfl, rfl⟩ rfl rfl rfl rfl rfl (by kernel_rfl) Try.func8 (by kernel_rfl)
    (of_decide_eq_true (by kernel_rfl)) (by unfold Func.isWrapper; rw [if_neg (of_decide_eq_false (by kernel_rfl))]; exact ⟨rfl, rfl⟩)
    (fun os started H enc _ => historyCancels_lifted os started H enc)
#print axioms HistoryCancels_holds
end Go.Proofs.Ytdnjfmgldkommaa
