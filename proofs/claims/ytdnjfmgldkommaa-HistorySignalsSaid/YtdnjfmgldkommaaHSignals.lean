/- Proved here: Signals of one name are received in the order in which they came, each by one wait. -/
import Derived.Test.YtdnjfmgldkommaaQa
import Derived.Test.YtdnjfmgldkommaaNb
import Derived.Test.YtdnjfmgldkommaaTb
import Derived.Test.YtdnjfmgldkommaaLd
import Derived.Test.YtdnjfmgldkommaaLc
import Derived.Test.YtdnjfmgldkommaaRows
import Derived.HandedShaped
import Derived.Carry
import Derived.Test.YtdnjfmgldkommaaWd
namespace Go.Proofs.Ytdnjfmgldkommaa
open Go.Sx
@[reducible] def i9_30 : List Ent := [(0, []), (2, []), (1, []), (3, []), (4, []), (5, []), (6, []), (7, []), (8, []), (10, []), (14, []), (9, []), (11, []), (12, []), (13, []), (15, []), (16, []), (17, [])]
@[reducible] def bT : ByteArray := ⟨#[116]⟩
@[reducible] def bOth : ByteArray := ⟨#[111, 116, 104, 101, 114]⟩
def aftS (i : Nat) : List ByteArray := if i = 0 then [] else [nmS (i - 1)]
@[reducible] def ndS (i : Nat) : Nd := ⟨nmS i, 4, bS, e0, 0, 0, aftS i⟩
@[reducible] def dfS (n : Nat) : Df := ⟨bW, (List.range n).map ndS⟩
@[reducible] def inO : Inp := ⟨2, e0, bT, bOth, 0, 0, 0, e0, e0⟩
@[reducible] def inS (t : ByteArray) : Inp := ⟨2, e0, bS, t, 0, 0, 0, e0, e0⟩
theorem dfS_get {n i : Nat} (h : i < n) : (dfS n).nodes[i]? = some (ndS i) := by simp [h]
theorem dfS_inv {n i : Nat} {m : Nd} (h : (dfS n).nodes[i]? = some m) : i < n ∧ m = ndS i := by
  have hlt : i < n := by have := (List.getElem?_eq_some_iff.1 h).1; simpa using this
  rw [dfS_get hlt] at h
  exact ⟨hlt, (Option.some.inj h).symm⟩
theorem dfS_len (n : Nat) : (dfS n).nodes.length = n := by simp
theorem dfS_fI {n i : Nat} (hn : n ≤ 12) (h : i < n) : fI (dfS n).nodes (nmS i) = some i :=
  fI_some (dfS_get h) rfl fun j y hj hy => by
    obtain ⟨h1, rfl⟩ := dfS_inv hy
    intro he
    have := nmS_inj (by omega) (by omega) he
    omega
theorem aftS_len (i : Nat) : (aftS i).length ≤ 1 := by unfold aftS; split <;> simp
theorem okS9 {n : Nat} (h1 : 1 ≤ n) (h2 : n ≤ 12) : DefOK (dfS n) := by
  refine ⟨by rw [dfS_len]; exact h1, by rw [dfS_len]; omega, fun m hm => ?_, fun i m hm => ?_, fun m hm => ?_, fun m hm => ?_⟩
  · obtain ⟨i, hi⟩ := List.getElem?_of_mem hm
    obtain ⟨_, rfl⟩ := dfS_inv hi
    exact ⟨by show (1 : Int) ≤ 4; decide, by show (4 : Int) ≤ 5; decide⟩
  · obtain ⟨hlt, rfl⟩ := dfS_inv hm
    exact dfS_fI h2 hlt
  · obtain ⟨i, hi⟩ := List.getElem?_of_mem hm
    obtain ⟨hlt, rfl⟩ := dfS_inv hi
    have := nmS_size (i := i) (by omega)
    show (nmS i).size ≤ 64
    omega
  · obtain ⟨i, hi⟩ := List.getElem?_of_mem hm
    obtain ⟨_, rfl⟩ := dfS_inv hi
    have := aftS_len i
    show (aftS i).length < _
    omega
structure SW (n : Nat) (S : Sta) (g : Nat) (b : Bool) : Prop where
  ln : S.nodes.length = n
  ov : ∀ (i : Nat) (x : Ns), i < g → S.nodes[i]? = some x → x.st = 3
  cur : ∀ x : Ns, S.nodes[g]? = some x → x.st = if b then 2 else 0
  idl : ∀ (i : Nat) (x : Ns), g < i → S.nodes[i]? = some x → x.st = 0
  sg : ∀ s ∈ S.sigs, s.name ≠ bS
theorem ahead_pred {n i : Nat} {S : Sta} (h12 : n ≤ 12) (hi : i < n) (h0 : 0 < i) (h : ahead (dfS n) S i) : ∃ x, S.nodes[i - 1]? = some x ∧ x.st = 3 := by
  have h1 := h _ (dfS_get hi)
  unfold metL at h1
  have h2 : okS (dfS n).nodes i (fun k => (ovL S).getD k false) (nmS (i - 1)) = true := List.all_eq_true.1 h1 _ (by show nmS (i - 1) ∈ aftS i; unfold aftS; rw [if_neg (by omega)]; simp)
  unfold okS at h2
  rw [dfS_fI h12 (by omega)] at h2
  simp only [Bool.and_eq_true] at h2
  exact ov_get.1 h2.2
theorem ahead_mk {n i : Nat} {S : Sta} (h12 : n ≤ 12) (hi : i < n) (h : 0 < i → ∃ x, S.nodes[i - 1]? = some x ∧ x.st = 3) : ahead (dfS n) S i := by
  intro m hm
  obtain ⟨_, rfl⟩ := dfS_inv hm
  unfold metL
  rw [List.all_eq_true]
  intro s hs
  have hs : s ∈ aftS i := hs
  unfold aftS at hs
  split at hs
  · cases hs
  · rename_i h0
    rw [List.mem_singleton] at hs
    subst hs
    unfold okS
    rw [dfS_fI h12 (by omega)]
    have h2 := ov_get.2 (h (by omega))
    dsimp only
    rw [h2]
    simp
    omega
theorem SW.stuck {n g i : Nat} {S : Sta} {b : Bool} (h12 : n ≤ 12) (h : SW n S g b) {x : Ns} (hi : i < n) (hx : S.nodes[i]? = some x) (h0 : x.st = 0) (ha : ahead (dfS n) S i) : i = g ∧ b = false := by
  have h1 : ¬ i < g := fun hlt => by have := h.ov i x hlt hx; omega
  by_cases hig : i = g
  · subst hig
    refine ⟨rfl, ?_⟩
    have := h.cur x hx
    cases b with
    | false => rfl
    | true => rw [h0] at this; simp at this
  · exfalso
    obtain ⟨y, hy, hy3⟩ := ahead_pred h12 hi (by omega) ha
    by_cases hp : i - 1 = g
    · rw [hp] at hy
      have := h.cur y hy
      rw [hy3] at this
      cases b <;> simp at this
    · have := h.idl (i - 1) y (by omega) hy
      omega
theorem kI_no {l : List Sg} (h : ∀ s ∈ l, s.name ≠ bS) : kI l bS = none := kI_none fun j x hx => h x (List.mem_of_getElem? hx)
theorem On.chain {n g : Nat} {now : Int} (h12 : n ≤ 12) {R R' : Rn} (h : On (dfS n) now R R') (hw : SW n R.S g false) (hg : g ≤ n) :
    (R'.S.status = if g < n then 1 else 2) ∧ SW n R'.S g true ∧ R'.S.sigs = R.S.sigs ∧ ∀ i, i < g → R'.S.nodes[i]? = R.S.nodes[i]? := by
  cases h with
  | @more _ _ i nd x y g' e ts hs hl hr hn hx h0 hm ha h =>
    obtain ⟨hlt, rfl⟩ := dfS_inv hn
    obtain ⟨hig, _⟩ := hw.stuck h12 hlt hx h0 (rdy_ahead hr)
    subst hig
    cases hm with
    | await k hk =>
      have hw1 : SW n (mv R i { x with st := 2 } R.S.sigs ⟨11, (ndS i).name, e0, 0⟩ []).S i true := by
        have hset : ∀ (j : Nat) (z : Ns), (R.S.nodes.set i { x with st := 2 })[j]? = some z → (j = i ∧ z.st = 2) ∨ (j ≠ i ∧ R.S.nodes[j]? = some z) := by
          intro j z hz
          rw [List.getElem?_set] at hz
          split at hz
          · rename_i hij
            split at hz
            · cases hz; exact .inl ⟨hij.symm, rfl⟩
            · cases hz
          · rename_i hij
            exact .inr ⟨fun e => hij e.symm, hz⟩
        refine ⟨by show (R.S.nodes.set i _).length = n; rw [List.length_set]; exact hw.ln, fun j z hj hz => ?_, fun z hz => ?_, fun j z hj hz => ?_, hw.sg⟩
        · rcases hset j z hz with ⟨e, _⟩ | ⟨_, hz⟩
          · omega
          · exact hw.ov j z hj hz
        · rcases hset i z hz with ⟨_, h2⟩ | ⟨e, _⟩
          · exact h2
          · exact absurd rfl e
        · rcases hset j z hz with ⟨e, _⟩ | ⟨_, hz⟩
          · omega
          · exact hw.idl j z hj hz
      have hsame : ∀ j, j < i → (R.S.nodes.set i { x with st := 2 })[j]? = R.S.nodes[j]? := fun j hj => by rw [List.getElem?_set, if_neg (by omega)]
      rw [if_pos hlt]
      cases h with
      | more hs' hl' hr' hn' hx' h0' hm' ha' h' =>
        exfalso
        obtain ⟨hlt', rfl⟩ := dfS_inv hn'
        have := (hw1.stuck h12 hlt' hx' h0' (rdy_ahead hr')).2
        cases this
      | stay hs' hl' hr' ha' => exact ⟨hs, hw1, rfl, hsame⟩
      | done hs' hl' hr' ha' =>
        exfalso
        have hil : i < (mv R i { x with st := 2 } R.S.sigs ⟨11, (ndS i).name, e0, 0⟩ []).S.nodes.length := by rw [hw1.ln]; exact hlt
        have hz := List.getElem?_eq_getElem hil
        have h3 := List.all_eq_true.1 ha' _ (List.mem_of_getElem? hz)
        have h4 := hw1.cur _ hz
        rw [h4] at h3
        simp at h3
      | long hs' hl' hr' hn' hx' h0' k' hsz' ha' =>
        exfalso
        obtain ⟨_, rfl⟩ := dfS_inv hn'
        exact absurd k' (show ¬ (4 : Int) = 3 by decide)
    | got j k hk =>
      exfalso
      have hk : kI R.S.sigs bS = some j := hk
      rw [kI_no hw.sg] at hk
      cases hk
    | sched k => exact absurd k (show ¬ (4 : Int) = 1 by decide)
    | timer k => exact absurd k (show ¬ (4 : Int) = 2 by decide)
    | child k => exact absurd k (show ¬ (4 : Int) = 3 by decide)
    | send k => exact absurd k (show ¬ (4 : Int) = 5 by decide)
  | stay hs hl hr ha =>
    exfalso
    by_cases hgn : g < n
    · have hx := List.getElem?_eq_getElem (l := R.S.nodes) (i := g) (by rw [hw.ln]; exact hgn)
      have h1 := rdy_none hl hr hx (ahead_mk h12 hgn fun h0 => by
        have hy := List.getElem?_eq_getElem (l := R.S.nodes) (i := g - 1) (by rw [hw.ln]; omega)
        exact ⟨_, hy, hw.ov (g - 1) _ (by omega) hy⟩)
      exact h1 (hw.cur _ hx)
    · have : over R.S = true := by
        unfold over
        rw [List.all_eq_true]
        intro x hx
        obtain ⟨i, hi⟩ := List.getElem?_of_mem hx
        have hil := (List.getElem?_eq_some_iff.1 hi).1
        have hln := hw.ln
        simp [hw.ov i x (by omega) hi]
      rw [this] at ha
      cases ha
  | done hs hl hr ha =>
    by_cases hgn : g < n
    · exfalso
      have hx := List.getElem?_eq_getElem (l := R.S.nodes) (i := g) (by rw [hw.ln]; exact hgn)
      have h3 := List.all_eq_true.1 ha _ (List.mem_of_getElem? hx)
      rw [hw.cur _ hx] at h3
      simp at h3
    · obtain ⟨_, ts, he, _⟩ := cls_eq (D := dfS n) (t := lastT R.S) hs (.inl rfl)
      rw [he, if_neg hgn]
      have hln := hw.ln
      refine ⟨rfl, ⟨hw.ln, hw.ov, fun x hx => ?_, fun i x hi hx => hw.idl i x hi hx, hw.sg⟩, rfl, fun _ _ => rfl⟩
      have hil := (List.getElem?_eq_some_iff.1 hx).1
      have hil : g < R.S.nodes.length := hil
      omega
  | long hs hl hr hn hx h0 k hsz ha =>
    exfalso
    obtain ⟨_, rfl⟩ := dfS_inv hn
    exact absurd k (show ¬ (4 : Int) = 3 by decide)
structure SG (n : Nat) (S : Sta) (g o : Nat) : Prop where
  gd : Good (dfS n) S
  le : g ≤ n
  st : S.status = if g < n then 1 else 2
  sw : SW n S g true
  ol : S.sigs.length = o
theorem sig_start {n : Nat} (h1 : 1 ≤ n) (h12 : n ≤ 12) : ∃ R, stepL (dfS n) sta0 inW1 = (0, R) ∧ SG n R.S 0 0 := by
  have hD := okS9 h1 h12
  have h0 : (stepL (dfS n) sta0 inW1).1 = 0 := by
    have : (stepR (dfS n) 0 ⟨sta0, [], []⟩ inW1).1 = 0 := by
      unfold stepR
      rw [if_pos rfl, if_neg (fun h => h rfl)]
    unfold stepL
    rw [show inW1.now = 0 from rfl, if_pos this]
    exact this
  have hs := stepL_stp hD (fun h => absurd h (by decide)) h0
  have hA := (stepL_aft (a := inW1) hD (good0 (dfS n)) (show bF.size ≤ 1000 by decide)).go
  refine ⟨(stepL (dfS n) sta0 inW1).2, Prod.ext h0 rfl, ?_⟩
  generalize (stepL (dfS n) sta0 inW1).2 = R at hs hA
  cases hs with
  | start h0 ha hp h =>
    have hx : ∀ {i : Nat} {x : Ns}, (List.replicate (dfS n).nodes.length ns0)[i]? = some x → x.st = 0 := fun {i x} h => by have : x = ns0 := List.eq_of_mem_replicate (List.mem_of_getElem? h); rw [this]
    obtain ⟨g1, g2, g3, _⟩ := h.chain (g := 0) h12 ⟨by simp [startR, startS], fun i x hi => absurd hi (Nat.not_lt_zero _), fun x h => hx h, fun i x _ h => hx h, fun s hs => by cases hs⟩ (Nat.zero_le _)
    exact ⟨hA, Nat.zero_le _, g1, g2, by rw [g3]; rfl⟩
  | on h9 => exact absurd h9 (by decide)
  | stop h9 => exact absurd h9 (by decide)
  | kept h9 => exact absurd h9 (by decide)
  | fail h9 => exact absurd h9 (by decide)
  | cancel h9 => exact absurd h9 (by decide)
theorem nameT : nameL bT false 64 = true := by
  unfold nameL
  rw [ByteArray.toList_eq]
  decide
theorem sig_other {n g o : Nat} {S : Sta} (h1 : 1 ≤ n) (h12 : n ≤ 12) (h : SG n S g o) (hg : g < n) :
    (o < 32 → ∃ R, stepL (dfS n) S inO = (0, R) ∧ SG n R.S g (o + 1)) ∧ (¬ o < 32 → stepL (dfS n) S inO = (8, rn0)) := by
  have hD := okS9 h1 h12
  have hst : S.status = 1 := by rw [h.st, if_pos hg]
  have hwt : waits (dfS n) S bT = none := waits_none fun j hj => by
    rw [dfS_len] at hj
    have hx := List.getElem?_eq_getElem (l := S.nodes) (i := j) (by rw [h.sw.ln]; exact hj)
    rw [waitB_at (dfS_get hj) hx]
    have : decide (bS = bT) = false := by decide
    simp only [this, Bool.and_false, Bool.false_and]
  have hR : stepR (dfS n) 0 ⟨S, [], []⟩ inO = if 32 ≤ S.sigs.length then (8, ⟨S, [], []⟩) else (0, happ (dfS n) ⟨S, [], []⟩ ⟨13, bT, bOth, 0⟩) := by
    unfold stepR
    rw [if_neg (by simp), if_neg (show ¬ S.status = 0 by omega), if_neg (show ¬ S.status ≠ 1 by omega), if_pos (by simp)]
    unfold signalL
    rw [if_neg (by rw [show inO.name = bT from rfl, nameT]; decide), if_neg (by decide)]
    have : waits (dfS n) (⟨S, [], []⟩ : Rn).S inO.name = none := hwt
    rw [this]
  refine ⟨fun ho => ?_, fun ho => ?_⟩
  · rw [if_neg (by rw [h.ol]; omega)] at hR
    have hp : applyL (dfS n) S ⟨13, bT, bOth, 0⟩ = some (keptS S inO) := by
      unfold applyL applyQ
      rw [if_neg (by simp), if_pos hst, if_pos rfl]
      rfl
    have he : happ (dfS n) ⟨S, [], []⟩ ⟨13, bT, bOth, 0⟩ = ⟨keptS S inO, [⟨13, bT, bOth, 0⟩], []⟩ := by
      unfold happ
      rw [hp]
      rfl
    rw [he] at hR
    have hL : stepL (dfS n) S inO = (0, ⟨keptS S inO, [⟨13, bT, bOth, 0⟩], []⟩) := by
      unfold stepL
      rw [show inO.now = 0 from rfl, hR, if_pos rfl]
    have hA := (stepL_aft (a := inO) hD h.gd (show bT.size ≤ 1000 by decide)).go
    rw [hL] at hA
    refine ⟨_, hL, hA, h.le, h.st, ⟨h.sw.ln, h.sw.ov, h.sw.cur, h.sw.idl, fun s hs => ?_⟩, ?_⟩
    · rcases List.mem_append.1 (show s ∈ S.sigs ++ [⟨bT, bOth⟩] from hs) with hs | hs
      · exact h.sw.sg s hs
      · rw [List.mem_singleton] at hs
        subst hs
        show bT ≠ bS
        decide
    · show (S.sigs ++ [_]).length = o + 1
      rw [List.length_append, h.ol]
      rfl
  · rw [if_pos (by rw [h.ol]; omega)] at hR
    unfold stepL
    rw [show inO.now = 0 from rfl, hR, if_neg (by simp)]
theorem sig_got {n g o : Nat} {S : Sta} {t : ByteArray} (h1 : 1 ≤ n) (h12 : n ≤ 12) (h : SG n S g o) (hg : g < n) (ht : t.size ≤ 256) :
    ∃ R, stepL (dfS n) S (inS t) = (0, R) ∧ SG n R.S (g + 1) o ∧ ∃ x, R.S.nodes[g]? = some x ∧ x.st = 3 ∧ x.text = t := by
  have hD := okS9 h1 h12
  have hst : S.status = 1 := by rw [h.st, if_pos hg]
  have hx := List.getElem?_eq_getElem (l := S.nodes) (i := g) (by rw [h.sw.ln]; exact hg)
  generalize S.nodes[g]'(by rw [h.sw.ln]; exact hg) = x at hx
  have hx2 : x.st = 2 := h.sw.cur x hx
  have hwt : waits (dfS n) S bS = some g := waits_some (by rw [dfS_len]; exact hg) (by rw [waitB_at (dfS_get hg) hx]; simp [hx2]) (fun j hj => by
    have hy := List.getElem?_eq_getElem (l := S.nodes) (i := j) (by rw [h.sw.ln]; omega)
    rw [waitB_at (dfS_get (by omega)) hy, h.sw.ov j _ hj hy]
    simp)
  obtain ⟨g1, _⟩ := happ_mv (D := dfS n) (R := ⟨S, [], []⟩) (e := ⟨12, nmS g, t, 0⟩) (y := { x with st := 3, text := t }) (b := false) hst (by simp) (by simp) (by simp) (dfS_fI h12 hg) (dfS_get hg) hx (by simp [moveL, isL, hx2])
  simp only [mvG] at g1
  have hR : stepR (dfS n) 0 ⟨S, [], []⟩ (inS t) = (0, onL (dfS n) 0 (mv ⟨S, [], []⟩ g { x with st := 3, text := t } S.sigs ⟨12, nmS g, t, 0⟩ [])) := by
    unfold stepR
    rw [if_neg (by simp), if_neg (show ¬ S.status = 0 by omega), if_neg (show ¬ S.status ≠ 1 by omega), if_pos (by simp)]
    unfold signalL
    rw [if_neg (by rw [show (inS t).name = bS from rfl, nameW]; decide), if_neg (by show ¬ 256 < t.size; omega)]
    have : waits (dfS n) (⟨S, [], []⟩ : Rn).S (inS t).name = some g := hwt
    rw [this]
    have h2 : ((dfS n).nodes[g]?.map (·.name)).getD e0 = nmS g := by rw [dfS_get hg]; rfl
    simp only [h2]
    rw [g1]
  have hL : stepL (dfS n) S (inS t) = (0, onL (dfS n) 0 (mv ⟨S, [], []⟩ g { x with st := 3, text := t } S.sigs ⟨12, nmS g, t, 0⟩ [])) := by
    unfold stepL
    rw [show (inS t).now = 0 from rfl, hR, if_pos rfl]
  have hA := (stepL_aft (a := inS t) hD h.gd (show bS.size ≤ 1000 by decide)).go
  rw [hL] at hA
  have hset : ∀ (j : Nat) (z : Ns), (S.nodes.set g { x with st := 3, text := t })[j]? = some z → (j = g ∧ z = { x with st := 3, text := t }) ∨ (j ≠ g ∧ S.nodes[j]? = some z) := by
    intro j z hz
    rw [List.getElem?_set] at hz
    split at hz
    · rename_i hij
      split at hz
      · cases hz; exact .inl ⟨hij.symm, rfl⟩
      · cases hz
    · rename_i hij
      exact .inr ⟨fun e => hij e.symm, hz⟩
  have hon := On.go (D := dfS n) (now := 0) hD _ (mv ⟨S, [], []⟩ g { x with st := 3, text := t } S.sigs ⟨12, nmS g, t, 0⟩ []) (Nat.le_refl _) (by show (S.nodes.set g _).length = _; rw [List.length_set, h.sw.ln, dfS_len]) hst
  obtain ⟨c1, c2, c3, c4⟩ := hon.chain (g := g + 1) h12 ⟨by show (S.nodes.set g _).length = n; rw [List.length_set]; exact h.sw.ln, fun j z hj hz => by
      rcases hset j z hz with ⟨_, e⟩ | ⟨hne, hz⟩
      · rw [e]
      · exact h.sw.ov j z (by omega) hz,
    fun z hz => by
      rcases hset (g + 1) z hz with ⟨e, _⟩ | ⟨_, hz⟩
      · omega
      · exact h.sw.idl (g + 1) z (by omega) hz,
    fun j z hj hz => by
      rcases hset j z hz with ⟨e, _⟩ | ⟨_, hz⟩
      · omega
      · exact h.sw.idl j z (by omega) hz, h.sw.sg⟩ (by omega)
  refine ⟨_, hL, ⟨hA, by omega, c1, c2, by rw [c3]; exact h.ol⟩, { x with st := 3, text := t }, ?_, rfl, rfl⟩
  rw [c4 g (by omega)]
  show (S.nodes.set g _)[g]? = _
  rw [List.getElem?_set]
  simp [h.sw.ln, hg]
end Go.Proofs.Ytdnjfmgldkommaa
namespace Go.Sx
section
variable {P : Program} {w0 : World} {Mod : List Nat} {n : Nat} {F : FL} {M N : ML} {X : Act → World → Prop} {Q : Exit → Act → World → Prop}
theorem Wk.skip {x : Option (Nat × List Value × TypeId)} (h : Wk M N) : Wk (x :: M) N := by
  induction h with
  | nil M => exact Wk.nil _
  | none _ ih => exact Wk.none ih
  | pick hp _ ih => exact Wk.pick (Pick.tail _ hp) ih
theorem SK.rebase (h : ∀ w1, Mem w0 Mod M w1 → SK w1 [] n X F []) : SK w0 Mod n X F M := fun a w hf hm => h w hm a w hf (Mem.zero w)
theorem SK.atC {t : Operand} {x y : Code} (h : SK w0 Mod n ((Code.cond t x y).wp P Q) F M) : SK w0 Mod n ((Code.cond t x y).wp P Q) F M := h
theorem Mem.vwAt {w1 : World} (hm : Mem w0 Mod M w1) {b o : Nat} {cs : List Value} {T : TypeId} {v : Value} (hb : some (b, cs, T) ∈ M) (hv : nv cs o = some v) : Vw w1 [] b o v := by
  have h : Mem w0 Mod ([] ++ M) w1 := hm
  exact h.vwRest hb hv
theorem Mem.vwUp {w1 : World} (hm : Mem w0 Mod M w1) {b o : Nat} {v : Value} (h : Vw w0 Mod b o v) : Vw w1 [] b o v := by
  have h1 : Mem w0 Mod ([] ++ M) w1 := hm
  exact h1.vw h
theorem Mem.end0 {w1 w' : World} {M1 : ML} (hm : Mem w0 Mod M w1) (hc : Mem w1 [] M1 w') : Mem w0 Mod [] w' := by
  have h1 : Mem w0 Mod ([] ++ M) w1 := hm
  exact (h1.called hc).wk (Wk.nil _)
end
end Go.Sx
namespace Go.Proofs.Ytdnjfmgldkommaa
open Go.Sx
theorem und4q : Try.prog.underlying 4 = some .bool := by kernel_rfl
section
variable {ops : Array Oper} {w0 : World} {Mod : List Nat} {n : Nat} {F : FL} {M : ML} {K : Act → World → Prop} {chk : List Nat} {ty : TypeId} {pos : String} {aft : Array Edge} {d : Nat}
theorem SK.neQ {U : TypeId} {x y : Operand} {a b : Bool} (hd : Nat.blt d n = true) (hx : ev F x = some (.bool a)) (hy : ev F y = some (.bool b))
    (h : SK w0 Mod n K ((d, .bool (!(a == b))) :: F) M) : SK w0 Mod n (stepE Try.prog ops ⟨some d, .binOp .neq 4 x y U, ty, pos, aft, none⟩ chk K) F M :=
  SK.bin hd hx hy (fun w' => by
    have := run_neq_bool (P := Try.prog) w' 4 a b und4q
    simp only [eqGuard]
    simp [this]) h
theorem SK.eqQ {U : TypeId} {x y : Operand} {a b : Bool} (hd : Nat.blt d n = true) (hx : ev F x = some (.bool a)) (hy : ev F y = some (.bool b))
    (h : SK w0 Mod n K ((d, .bool (a == b)) :: F) M) : SK w0 Mod n (stepE Try.prog ops ⟨some d, .binOp .eql 4 x y U, ty, pos, aft, none⟩ chk K) F M :=
  SK.bin hd hx hy (fun w' => by
    have := run_eql_bool (P := Try.prog) w' 4 a b und4q
    simp only [eqGuard]
    simp [this]) h
end
@[reducible] def ndI (p : Nd × Value) : List Value := p.1.c p.2
theorem ndI_len (p : Nd × Value) : (ndI p).length = 7 := rfl
def AftAt (L : ML) (j : Nat) (v : Value) : Prop := (j = 0 ∧ v = .slice none 0 0) ∨ (0 < j ∧ ∃ b, v = .slice (some ⟨b, 0, none⟩) 1 1 ∧ some (b, [.string (nmS (j - 1))], 9) ∈ L)
def ItsOK (its : List (Nd × Value)) (i : Nat) (L : ML) : Prop := its.length = i ∧ ∀ (j : Nat) (p : Nd × Value), its[j]? = some p → p.1 = ndS j ∧ AftAt L j p.2
theorem ItsOK.snoc {its : List (Nd × Value)} {i : Nat} {L L' : ML} {v : Value} (h : ItsOK its i L) (hL : ∀ e ∈ L, e ∈ L') (hv : AftAt L' i v) : ItsOK (its ++ [(ndS i, v)]) (i + 1) L' := by
  refine ⟨by rw [List.length_append, h.1]; rfl, fun j p hp => ?_⟩
  by_cases hj : j < its.length
  · rw [List.getElem?_append_left hj] at hp
    obtain ⟨h1, h2⟩ := h.2 j p hp
    refine ⟨h1, ?_⟩
    rcases h2 with h2 | ⟨h2, b, h3, h4⟩
    · exact .inl h2
    · exact .inr ⟨h2, b, h3, hL _ h4⟩
  · rw [List.getElem?_append_right (by omega)] at hp
    have hlt := (List.getElem?_eq_some_iff.1 hp).1
    simp at hlt
    have hji : j = i := by have := h.1; omega
    subst hji
    rw [h.1, Nat.sub_self] at hp
    cases hp
    exact ⟨rfl, hv⟩
theorem rdfS {V : View} {b n cap : Nat} {its : List (Nd × Value)} {L : ML} {sp : List Value} (hi : ItsOK its n L) (h : ∀ (j : Nat) (u : Value), nv (its.flatMap ndI ++ sp) j = some u → V b j u)
    (hL : ∀ b cs T, some (b, cs, T) ∈ L → ∀ j u, nv cs j = some u → V b j u) : RDf V (.agg #[.string bW, .slice (some ⟨b, 0, none⟩) n cap]) (dfS n) := by
  refine ⟨some ⟨b, 0, none⟩, cap, by rw [dfS_len], fun i x hx => ?_⟩
  obtain ⟨hlt, rfl⟩ := dfS_inv hx
  have hp := List.getElem?_eq_getElem (l := its) (i := i) (by rw [hi.1]; exact hlt)
  generalize its[i]'(by rw [hi.1]; exact hlt) = p at hp
  obtain ⟨e1, e2⟩ := hi.2 i p hp
  obtain ⟨p1, p2⟩ := p
  dsimp only at e1 e2
  subst e1
  refine ⟨b, 0, p2, rfl, ?_, fun j u hu => h _ u ?_⟩
  · rcases e2 with ⟨h0, rfl⟩ | ⟨h0, b', rfl, hb'⟩
    · have : (ndS i).after = [] := by show aftS i = []; unfold aftS; rw [if_pos h0]
      rw [this]
      exact ⟨none, 0, rfl, .inl rfl⟩
    · have : (ndS i).after = [nmS (i - 1)] := by show aftS i = _; unfold aftS; rw [if_neg (by omega)]
      rw [this]
      exact ⟨some ⟨b', 0, none⟩, 1, rfl, .inr ⟨b', 0, rfl, fun j u hu => by
        rw [Nat.zero_add]
        exact hL b' _ 9 hb' j u (by rw [nv_eq]; exact hu)⟩⟩
  · have := flat_nv ndI_len its sp i _ hp j u hu
    rw [Nat.zero_add]
    exact this
set_option maxRecDepth 100000 in
set_option maxHeartbeats 16000000 in
theorem signals9 (many : Int) (tv0 : Value) (bl : List Bool) (w : World) (hb : RSl (Vw w []) tv0 bl.length (bl.flatMap boolC)) (hbl : bl.length < 9223372036854775807) (hG : ∃ m, Vw w [] 0 0 (.int .i64 m)) :
    Ans 9 [.int .i64 many, tv0] w (.bool true) := by
  obtain ⟨Ab, cb, htv, hbn⟩ := hb.open (k := 1) (fun _ => rfl)
  have hwn := within_nn many 10 (by decide) (by decide)
  obtain ⟨m, hm⟩ : ∃ m : Nat, withinL many 10 = (m : Int) := ⟨(withinL many 10).toNat, by have : 0 ≤ withinL many 10 := hwn.1; omega⟩
  have hm9 : m ≤ 9 := by have : withinL many 10 < 10 := hwn.2; omega
  subst htv
  refine enter0 Try.func9 rfl Try.ntmps9 rfl ?_
  (repeat first|(with_reducible first|apply Za|apply Zb|apply Zc|apply Zd|apply Zi)|((with_reducible first|apply ZI|apply ZJ);rfl;rfl))
  refine SK.callA rfl rfl (fun w1 _ _ => within22 many 10 w1 (by decide) (by decide)) ?_
  rw [hm]
  (repeat first|(with_reducible first|apply Zc|apply Zs))
  refine SK.iadd rfl rfl rfl ?_
  refine SK.slot (j := 23) rfl (show Value.int .i64 (IntKind.i64.wrap (1 + (m : Int))) = .int .i64 ((m + 1 : Nat) : Int) from by rw [wrap64_in (by omega) (by omega)]; congr 1; omega) ?_
  obtain ⟨n, hn⟩ : ∃ n : Nat, n = m + 1 := ⟨_, rfl⟩
  rw [← hn]
  have hn1 : 1 ≤ n := by omega
  have hn10 : n ≤ 10 := by omega
  have hn12 : n ≤ 12 := by omega
  clear hn hm hwn
  (repeat first|(with_reducible first|apply Za|apply Zb|apply Zc|apply Zd|apply Zi|apply Zr|apply Zs)|((with_reducible apply ZJ);rfl;rfl)|((with_reducible apply Zqr);rfl;rfl;rfl)|((with_reducible apply Zrc);rfl;rfl;rfl;exact List.cons_ne_nil _ _;(first|rfl|(repeat first|exact plain_nil|(refine plain_cons (by first|rfl|exact OwnD.plain_val _ _) ?_)));(focus (repeat constructor));rfl)|((with_reducible apply Zrg);rfl;intro _))
  rename_i b6
  refine SK.loopW (fun g : Nat × OwnD × List (Nd × Value) × ML => [(7, .int .i64 (g.1 : Int)), (5, .int .i64 (n : Int)), (6, .pointer (some ⟨b6, 0, none⟩)), (1, .slice Ab bl.length cb)]) (fun g => some (b6, [.string bW, g.2.1.val g.1], 24) :: g.2.1.ent (g.2.2.1.flatMap ndI) 59 :: g.2.2.2)
    (fun g => g.1 ≤ n ∧ g.2.1.ok g.1 7 (g.2.2.1.flatMap ndI) ∧ ItsOK g.2.2.1 g.1 g.2.2.2) (fun g => n - g.1) (0, none, [], []) ⟨Nat.zero_le _, ⟨rfl, rfl⟩, rfl, fun j p h => by cases h⟩ (by (repeat constructor)) (by (repeat constructor)) ?_
  rintro ⟨i, oD, its, L⟩ ⟨hi, hoD, hits⟩
  dsimp only at hi hoD hits ⊢
  have hfl : ∀ v : Value, (its ++ [(ndS i, v)]).flatMap ndI = its.flatMap ndI ++ ndI (ndS i, v) := fun v => by simp
  by_cases hin : i < n
  · by_cases hi0 : i = 0
    · subst hi0
      (repeat ((fail_if_success (with_reducible refine SK.atR 6 ?_)); first|(with_reducible first|apply Za|apply Zb|apply Zc|apply Zd|apply Zi|apply Zo|apply Zr)|((with_reducible apply ZI);rfl;rfl)|((with_reducible apply ZS);rfl;rfl;rfl;omega)|((with_reducible apply ZC);rfl)))
      refine SK.seq (SK.regionX ?_)
      (repeat first|(with_reducible first|apply Za|apply Zb|apply Zc|apply Zd|apply Zi|apply Zo|apply Zs)|((with_reducible refine Yz ?_);first|((with_reducible apply SK.convI); rfl; rfl; exact und3s; exact und5k; exact knd5)|((with_reducible refine SK.isBin ?_); (with_reducible apply SK.iadd); rfl; rfl; rfl)|((with_reducible first|apply ZI|apply ZK);rfl;rfl)|((with_reducible apply Zqa);rfl;rfl;rfl;omega)|((with_reducible apply Zqr);rfl;rfl;rfl)|((with_reducible first|apply Zqz|apply Zra);rfl;rfl;(focus (repeat constructor));rfl)|((with_reducible apply Zrc);rfl;rfl;rfl;exact List.cons_ne_nil _ _;(first|rfl|(repeat first|exact plain_nil|(refine plain_cons (by first|rfl|exact OwnD.plain_val _ _) ?_)));(focus (repeat constructor));rfl)|((with_reducible apply Zrd);rfl;rfl;rfl;rfl;rfl;rfl;rfl;intro _)|((with_reducible apply Zrg);rfl;intro _))|((with_reducible apply ZD);rfl)|((with_reducible apply SK.nextTB); rfl; rfl; (focus (repeat constructor)))|(with_reducible apply SK.nextTX)|(with_reducible apply SK.nextTD))
      refine SK.appendP (nn := 0) (o := oD) (xs := its.flatMap ndI) (news := ndI (ndS 0, .slice none 0 0)) (m := 1) rfl rfl hoD rfl (by (repeat constructor)) (Src.mem (by (repeat constructor)) rfl) rfl rfl rfl rfl (by unfold maxLen; omega) (by omega) (fun o1 ho1 _ => ?_)
      (repeat first|(with_reducible first|apply Zb|apply Zc|apply Zd|apply Zi|apply Zl|apply Zs)|((with_reducible first|apply ZI|apply ZJ|apply ZK);rfl;rfl)|((with_reducible apply ZR);rfl;rfl;rfl;omega)|((with_reducible apply Zrb);rfl;rfl;(first|rfl|exact OwnD.plain_val _ _);(focus (repeat constructor));rfl))
      exact SK.roundW (0 + 1, o1, its ++ [(ndS 0, .slice none 0 0)], L) ⟨by omega, by dsimp only; rw [hfl]; exact ho1, hits.snoc (fun e h => h) (.inl ⟨rfl, rfl⟩)⟩ (by dsimp only; omega) (by (repeat constructor)) (by dsimp only; rw [hfl]; ((repeat constructor) <;> (repeat (first | exact Wk.refl _ | apply Wk.skip))))
    · cases oD with
      | none => exact absurd hoD.2 hi0
      | some qD =>
      obtain ⟨bD, capD, spD⟩ := qD
      have hil : i - 1 < i := by omega
      have hp := List.getElem?_eq_getElem (l := its) (i := i - 1) (by rw [hits.1]; exact hil)
      generalize its[i - 1]'(by rw [hits.1]; exact hil) = p at hp
      obtain ⟨e1, _⟩ := hits.2 (i - 1) p hp
      have hnm : nv (its.flatMap ndI ++ spD) (0 + (i - 1) * 7 + 0) = some (.string (nmS (i - 1))) := by
        have := flat_nv ndI_len its spD (i - 1) p hp 0 (.string p.1.name) rfl
        rw [Nat.zero_add, this, e1]
      (repeat ((fail_if_success (with_reducible refine SK.atR 6 ?_)); first|(with_reducible first|apply Za|apply Zb|apply Zc|apply Zd|apply Zi|apply Zo|apply Zr)|((with_reducible apply ZI);rfl;rfl)|((with_reducible apply ZS);rfl;rfl;rfl;omega)|((with_reducible apply ZC);rfl)))
      refine SK.seq (SK.regionX ?_)
      (repeat first|(with_reducible first|apply Za|apply Zb|apply Zc|apply Zd|apply Zi|apply Zs)|((with_reducible refine Yz ?_);first|((with_reducible apply SK.convI); rfl; rfl; exact und3s; exact und5k; exact knd5)|((with_reducible refine SK.isBin ?_); (with_reducible apply SK.iadd); rfl; rfl; rfl)|((with_reducible first|apply ZI|apply ZK);rfl;rfl)|((with_reducible apply ZU);rfl;rfl;rfl;omega)|((with_reducible apply Zqr);rfl;rfl;rfl)|((with_reducible apply Zqz);rfl;rfl;(focus (repeat constructor));rfl)|((with_reducible apply Zrc);rfl;rfl;rfl;exact List.cons_ne_nil _ _;(first|rfl|(repeat first|exact plain_nil|(refine plain_cons (by first|rfl|exact OwnD.plain_val _ _) ?_)));(focus (repeat constructor));rfl)|((with_reducible apply Zrd);rfl;rfl;rfl;rfl;rfl;rfl;rfl;intro _)|((with_reducible apply Zrg);rfl;intro _))|((with_reducible apply ZC);rfl)|((with_reducible apply SK.nextTB); rfl; rfl; (focus (repeat constructor)))|(with_reducible apply SK.nextTX)|(with_reducible apply SK.nextTD))
      refine SK.isub rfl rfl rfl ?_
      refine SK.slot (j := 41) rfl (show Value.int .i64 (IntKind.i64.wrap ((i : Int) - 1)) = .int .i64 ((i - 1 : Nat) : Int) from by rw [wrap64_in (by omega) (by omega)]; congr 1; omega) ?_
      (repeat first|(with_reducible first|apply Zb|apply Zc|apply Zd|apply Zi|apply Zs)|((with_reducible refine Yz ?_);first|((with_reducible apply SK.indexAddr); rfl; rfl; rfl; first | exact hil | exact hjl | exact hgn2)|((with_reducible apply SK.load1); rfl; rfl; (focus (repeat constructor)); first | with_reducible exact hnm | with_reducible exact hx0 | with_reducible exact hx2)|((with_reducible apply ZK);rfl;rfl)|((with_reducible apply Zqm);rfl;rfl;rfl)|((with_reducible first|apply Zqz|apply Zra);rfl;rfl;(focus (repeat constructor));rfl)|((with_reducible apply Zrb);rfl;rfl;(first|rfl|exact OwnD.plain_val _ _);(focus (repeat constructor));rfl)|((with_reducible apply Zrd);rfl;rfl;rfl;rfl;rfl;rfl;rfl;intro _)))
      rename_i bB b8 b45 b50
      have haft : aftS i = [nmS (i - 1)] := by unfold aftS; rw [if_neg hi0]
      refine SK.appendP (o := some (bD, capD, spD)) (xs := its.flatMap ndI) (news := ndI (ndS i, .slice (some ⟨b45, 0, none⟩) 1 1)) (m := 1) rfl rfl hoD rfl (by (repeat constructor)) (Src.mem (by (repeat constructor)) rfl) rfl rfl rfl rfl (by unfold maxLen; omega) (by omega) (fun o1 ho1 _ => ?_)
      (repeat first|(with_reducible first|apply Zb|apply Zc|apply Zd|apply Zi|apply Zl|apply Zs)|((with_reducible first|apply ZI|apply ZJ|apply ZK);rfl;rfl)|((with_reducible apply ZR);rfl;rfl;rfl;omega)|((with_reducible apply Zrb);rfl;rfl;(first|rfl|exact OwnD.plain_val _ _);(focus (repeat constructor));rfl))
      exact SK.roundW (i + 1, o1, its ++ [(ndS i, .slice (some ⟨b45, 0, none⟩) 1 1)], some (b45, [.string (nmS (i - 1))], 9) :: L) ⟨by omega, by dsimp only; rw [hfl]; exact ho1, hits.snoc (fun e h => List.mem_cons_of_mem _ h) (.inr ⟨by omega, b45, rfl, List.mem_cons_self⟩)⟩ (by dsimp only; omega) (by (repeat constructor)) (by dsimp only; rw [hfl]; ((repeat constructor) <;> (repeat (first | exact Wk.refl _ | apply Wk.skip))))
  · have hie : i = n := by omega
    subst hie
    cases oD with
    | none => exact absurd hoD.2 (by omega)
    | some qD =>
    obtain ⟨bD, capD, spD⟩ := qD
    generalize hn' : i = n at *
    (repeat ((fail_if_success (with_reducible refine SK.atR 10 ?_)); first|(with_reducible first|apply Za|apply Zb|apply Zc|apply Zd|apply Zi|apply Zj|apply Zn|apply Zq)|((with_reducible apply ZI);rfl;rfl)|((with_reducible apply ZY);rfl;rfl;rfl;omega)|((with_reducible apply ZD);rfl)))
    refine SK.rebase (fun w1 hm0 => ?_)
    have hG' : ∃ m, Vw w1 [] 0 0 (.int .i64 m) := by obtain ⟨m, hm⟩ := hG; exact ⟨m, hm0.vwUp hm⟩
    have hG1 : ∀ w2 : World, (∀ b o v, Vw w1 [] b o v → Vw w2 [] b o v) → ∃ m, Vw w2 [] 0 0 (.int .i64 m) := fun w2 g => by obtain ⟨m, hm⟩ := hG'; exact ⟨m, g _ _ _ hm⟩
    have hbn' : ∀ (i : Nat) (x : Bool), bl[i]? = some x → ∃ b o, Ab = some ⟨b, o, none⟩ ∧ ∀ (j : Nat) (u : Value), (boolC x)[j]? = some u → Vw w1 [] b (o + i * 1 + j) u := fun i x hx => by
      obtain ⟨b, o, h1, h2⟩ := hbn i x hx (by omega)
      exact ⟨b, o, h1, fun j u hu => hm0.vwUp (h2 j u hu)⟩
    have hd6 : ∀ (j : Nat) (v : Value), [Value.string bW, .slice (some ⟨bD, 0, none⟩) n capD][j]? = some v → Vw w1 [] b6 (0 + j) v := fun j v h => by
      rw [Nat.zero_add]
      exact hm0.vwAt (cs := [Value.string bW, .slice (some ⟨bD, 0, none⟩) n capD]) (T := 24) (by (repeat constructor)) (by rw [nv_eq]; exact h)
    have hdS : RDf (Vw w1 []) (.agg #[.string bW, .slice (some ⟨bD, 0, none⟩) n capD]) (dfS n) := rdfS hits (fun j u hu => hm0.vwAt (T := 59) (by (repeat constructor)) hu) (fun b cs T hb j u hu => hm0.vwAt (by repeat (first | exact hb | apply List.mem_cons_of_mem)) hu)
    obtain ⟨R0, hst0, hsg0⟩ := sig_start hn1 hn12
    (repeat first|(with_reducible first|apply Za|apply Zb|apply Zc)|((with_reducible refine Yz ?_);first|((with_reducible apply SK.loadAR); rfl; rfl; exact hd6; rfl)|((with_reducible apply Zqr);rfl;rfl;rfl)))
    refine SK.callO rfl rfl (fun w2 g1 g2 => step20e (D := dfS n) (S := sta0) (a := inW1) (dv := (.agg #[.string bW, .slice (some ⟨bD, 0, none⟩) n capD])) (sv := stV sta0 (none, none)) hst0 (okS9 hn1 hn12) (good0 _) (show bF.size ≤ 1000 by decide) (hdS.mono g1) (RSt.own (S := sta0) (oN := none) (oS := none) ⟨rfl, rfl⟩ ⟨rfl, rfl⟩ (fun b cs hb => by cases hb) (fun b cs hb => by cases hb)) (by obtain ⟨m, hm⟩ := hG'; exact ⟨m, g1 _ _ _ hm⟩)) ?_
    rintro ⟨⟨aN, aS⟩, aE, aT⟩ ⟨⟨haN, haS⟩, haE, haT⟩
    dsimp only at haN haS haE haT ⊢
    (repeat ((fail_if_success (with_reducible refine SK.atS 14 ?_)); first|(with_reducible first|apply Za|apply Zb|apply Zc|apply Zd|apply Zi|apply Zo|apply Zs)|((with_reducible first|apply ZI|apply ZJ);rfl;rfl)|((with_reducible apply Zqd);rfl;rfl;rfl;omega)|((with_reducible apply Zqn);rfl;rfl;rfl)|((with_reducible apply Zrc);rfl;rfl;rfl;exact List.cons_ne_nil _ _;(first|rfl|(repeat first|exact plain_nil|(refine plain_cons (by first|rfl|exact OwnD.plain_val _ _) ?_)));(focus (repeat constructor));rfl)|((with_reducible apply Zrg);rfl;intro _)|((with_reducible apply ZD);rfl)))
    rename_i b10
    refine SK.seqJ (fun g : Nat × Nat × Sta × OwnD × OwnD => [(13, .int .i64 (g.1 : Int)), (14, .int .i64 (g.2.1 : Int)), (10, .pointer (some ⟨b10, 0, none⟩)), (5, .int .i64 (n : Int)), (6, .pointer (some ⟨b6, 0, none⟩)), (1, .slice Ab bl.length cb)]) (fun g => some (b10, g.2.2.1.c (g.2.2.2.1.val g.2.2.1.nodes.length) (g.2.2.2.2.val g.2.2.1.sigs.length), 33) :: stM g.2.2.1 g.2.2.2)
      (fun g => SG n g.2.2.1 g.1 g.2.1 ∧ OSt g.2.2.1 g.2.2.2) ?_ ?_
    · (repeat first|(with_reducible first|apply Za|apply Zb|apply Zc|apply Zd|apply Zi|apply Zr)|((with_reducible apply ZJ);rfl;rfl))
      refine SK.loopW (fun g : Nat × Nat × Nat × Sta × OwnD × OwnD => [(15, .int .i64 (g.1 : Int)), (13, .int .i64 (g.2.1 : Int)), (14, .int .i64 (g.2.2.1 : Int)), (10, .pointer (some ⟨b10, 0, none⟩)), (5, .int .i64 (n : Int)), (6, .pointer (some ⟨b6, 0, none⟩)), (1, .slice Ab bl.length cb)]) (fun g => some (b10, g.2.2.2.1.c (g.2.2.2.2.1.val g.2.2.2.1.nodes.length) (g.2.2.2.2.2.val g.2.2.2.1.sigs.length), 33) :: stM g.2.2.2.1 g.2.2.2.2)
        (fun g => g.1 ≤ bl.length ∧ g.1 ≤ 50 ∧ SG n g.2.2.2.1 g.2.1 g.2.2.1 ∧ OSt g.2.2.2.1 g.2.2.2.2) (fun g => bl.length - g.1) (0, 0, 0, R0.S, aN, aS) ⟨Nat.zero_le _, Nat.zero_le _, hsg0, ⟨haN, haS⟩⟩ (by (repeat constructor)) (by (repeat constructor)) ?_
      rintro ⟨j, g, o, S, oN, oS⟩ ⟨hjle, hj50, hsg, ⟨hoN, hoS⟩⟩
      dsimp only at hjle hj50 hsg hoN hoS ⊢
      have hsst := hsg.st
      by_cases hjl : j < bl.length
      · by_cases h50 : j < 50
        · by_cases hgn : g < n
          · rw [if_pos hgn] at hsst
            obtain ⟨bb, hbb⟩ : ∃ bb, bl[j]? = some bb := ⟨_, List.getElem?_eq_getElem hjl⟩
            obtain ⟨ba, oa, hAb, hcb⟩ := hbn' j bb hbb
            subst hAb
            have hcb0 := hcb 0 _ rfl
            cases bb with
            | true =>
              obtain ⟨R, hR, hsg', x, hx, hx3, hxt⟩ := sig_got (t := nmS g) hn1 hn12 hsg hgn (by rw [nmS_size (by omega)]; decide)
              have hxt' : ¬ (x.text ≠ nmS g) := fun h => h hxt
              (repeat ((fail_if_success (with_reducible refine SK.atS 18 ?_)); first|(with_reducible first|apply Za|apply Zb|apply Zc|apply Zd|apply Zi|apply Zo|apply Zr|apply Zs)|((with_reducible first|apply ZI|apply ZK|apply ZM|apply ZO);rfl;rfl)|((with_reducible first|apply ZS|apply ZW);rfl;rfl;rfl;omega)|((with_reducible first|apply Zqo|apply Zqr);rfl;rfl;rfl)|((with_reducible apply Zqz);rfl;rfl;(focus (repeat constructor));rfl)|((with_reducible apply Zrc);rfl;rfl;rfl;exact List.cons_ne_nil _ _;(first|rfl|(repeat first|exact plain_nil|(refine plain_cons (by first|rfl|exact OwnD.plain_val _ _) ?_)));(focus (repeat constructor));rfl)|((with_reducible apply Zrg);rfl;intro _)|((with_reducible apply ZC);rfl)))
              rename_i b16
              refine SK.seq (SK.seq ?_)
              (repeat ((fail_if_success (with_reducible refine SK.atC ?_)); (first|(with_reducible first|apply Zb|apply Zc|apply Zd|apply Zi)|((with_reducible refine Yz ?_);first|((with_reducible apply SK.indexAddr); rfl; rfl; rfl; first | exact hil | exact hjl | exact hgn2)|((with_reducible apply SK.load1R); rfl; rfl; first | exact hcb0 | exact hd1)|((with_reducible apply ZI);rfl;rfl)))))
              refine SK.cond_true rfl ?_
              refine SK.regionX ?_
              (repeat first|(with_reducible first|apply Za|apply Zb|apply Zc|apply Zi|apply Zs)|((with_reducible refine Yz ?_);first|((with_reducible apply SK.convI); rfl; rfl; exact und3s; exact und5k; exact knd5)|((with_reducible refine SK.isBin ?_); (with_reducible apply SK.iadd); rfl; rfl; rfl)|((with_reducible apply ZI);rfl;rfl)|((with_reducible apply Zqr);rfl;rfl;rfl)|((with_reducible apply Zrc);rfl;rfl;rfl;exact List.cons_ne_nil _ _;(first|rfl|(repeat first|exact plain_nil|(refine plain_cons (by first|rfl|exact OwnD.plain_val _ _) ?_)));(focus (repeat constructor));rfl)|((with_reducible apply Zrd);rfl;rfl;rfl;rfl;rfl;rfl;rfl;intro _))|((with_reducible apply SK.nextTB); rfl; rfl; (focus (repeat constructor)))|(with_reducible apply SK.nextTX)|(with_reducible apply SK.nextTD))
              (repeat first|(with_reducible apply Zc)|((with_reducible refine Yz ?_);first|((with_reducible apply SK.loadAR); rfl; rfl; exact hd6; rfl)|((with_reducible apply Zra);rfl;rfl;(focus (repeat constructor));rfl)))
              refine SK.callO rfl rfl (fun w2 g1 g2 => step20e (D := dfS n) (S := S) (a := inS (nmS g)) (dv := (.agg #[.string bW, .slice (some ⟨bD, 0, none⟩) n capD])) (sv := stV S (oN, oS)) hR (okS9 hn1 hn12) hsg.gd (show bS.size ≤ 1000 by decide) (hdS.mono g1) (RSt.own hoN hoS (fun b cs hb j u hu => g2 b cs _ (by rw [← hb]; (repeat constructor)) j u hu) (fun b cs hb j u hu => g2 b cs _ (by rw [← hb]; (repeat constructor)) j u hu)) (by obtain ⟨m, hm⟩ := hG'; exact ⟨m, g1 _ _ _ hm⟩)) ?_
              rintro ⟨⟨pN, pS⟩, pE, pT⟩ ⟨⟨hpN, hpS⟩, hpE, hpT⟩
              dsimp only at hpN hpS hpE hpT ⊢
              have hgn2 := (List.getElem?_eq_some_iff.1 hx).1
              cases pN with
              | none => exact absurd hpN.2 (by omega)
              | some qN =>
              obtain ⟨bN, capN, spN⟩ := qN
              have hx0 := nld hx spN 0 (.int .i64 x.st) rfl
              have hx2 := nld hx spN 2 (.string x.text) rfl
              (repeat first|(with_reducible first|apply Za|apply Zb|apply Zc|apply Zd|apply Ze|apply Zi|apply Zl|apply Zo|apply Zs)|((with_reducible refine Yz ?_);first|((with_reducible apply SK.indexAddr); rfl; rfl; rfl; first | exact hil | exact hjl | exact hgn2)|((with_reducible apply SK.load1); rfl; rfl; (focus (repeat constructor)); first | with_reducible exact hnm | with_reducible exact hx0 | with_reducible exact hx2)|((with_reducible apply SK.load1R); rfl; rfl; first | exact hcb0 | exact hd1)|((with_reducible first|apply ZI|apply ZJ|apply ZK|apply ZO);rfl;rfl)|((with_reducible apply ZP);rfl;rfl)|((with_reducible apply ZR);rfl;rfl;rfl;omega)|((with_reducible apply Zqd);rfl;rfl;rfl;omega)|((with_reducible first|apply Zqm|apply Zqn);rfl;rfl;rfl)|((with_reducible apply Zqs);rfl;rfl;rfl)|((with_reducible apply Zqe);rfl;rfl;rfl;assumption)|((with_reducible first|apply Zqz|apply Zra);rfl;rfl;(focus (repeat constructor));rfl)|((with_reducible apply Zrc);rfl;rfl;rfl;exact List.cons_ne_nil _ _;(first|rfl|(repeat first|exact plain_nil|(refine plain_cons (by first|rfl|exact OwnD.plain_val _ _) ?_)));(focus (repeat constructor));rfl)|((with_reducible apply Zrg);rfl;intro _))|((with_reducible apply Zz);rfl)|((with_reducible apply ZD);rfl)|refine Yi 30 i9_30 (by kernel_rfl) ?_)
              exact SK.roundW (j + 1, g + 1, o, R.S, some (bN, capN, spN), pS) ⟨by omega, by omega, hsg', ⟨hpN, hpS⟩⟩ (by dsimp only; omega) (by (repeat constructor)) (by (repeat constructor))
            | false =>
              obtain ⟨ho1, ho2⟩ := sig_other hn1 hn12 hsg hgn
              by_cases ho : o < 32
              · obtain ⟨R, hR, hsg'⟩ := ho1 ho
                (repeat first|(with_reducible first|apply Za|apply Zb|apply Zc|apply Zd|apply Zi|apply Zo|apply Zr|apply Zs)|((with_reducible refine Yz ?_);first|((with_reducible apply SK.indexAddr); rfl; rfl; rfl; first | exact hil | exact hjl | exact hgn2)|((with_reducible apply SK.load1R); rfl; rfl; first | exact hcb0 | exact hd1)|((with_reducible apply SK.loadAR); rfl; rfl; exact hd6; rfl)|((with_reducible first|apply ZI|apply ZK|apply ZM|apply ZO);rfl;rfl)|((with_reducible first|apply ZS|apply ZW);rfl;rfl;rfl;omega)|((with_reducible first|apply Zqo|apply Zqr);rfl;rfl;rfl)|((with_reducible first|apply Zqz|apply Zra);rfl;rfl;(focus (repeat constructor));rfl)|((with_reducible apply Zrc);rfl;rfl;rfl;exact List.cons_ne_nil _ _;(first|rfl|(repeat first|exact plain_nil|(refine plain_cons (by first|rfl|exact OwnD.plain_val _ _) ?_)));(focus (repeat constructor));rfl)|((with_reducible apply Zrg);rfl;intro _))|((with_reducible apply ZC);rfl)|((with_reducible apply ZD);rfl))
                refine SK.callO rfl rfl (fun w2 g1 g2 => step20e (D := dfS n) (S := S) (a := inO) (dv := (.agg #[.string bW, .slice (some ⟨bD, 0, none⟩) n capD])) (sv := stV S (oN, oS)) hR (okS9 hn1 hn12) hsg.gd (show bT.size ≤ 1000 by decide) (hdS.mono g1) (RSt.own hoN hoS (fun b cs hb j u hu => g2 b cs _ (by rw [← hb]; (repeat constructor)) j u hu) (fun b cs hb j u hu => g2 b cs _ (by rw [← hb]; (repeat constructor)) j u hu)) (by obtain ⟨m, hm⟩ := hG'; exact ⟨m, g1 _ _ _ hm⟩)) ?_
                rintro ⟨⟨pN, pS⟩, pE, pT⟩ ⟨⟨hpN, hpS⟩, hpE, hpT⟩
                dsimp only at hpN hpS hpE hpT ⊢
                (repeat first|(with_reducible first|apply Za|apply Zb|apply Zc|apply Zd|apply Zi|apply Zj|apply Zn|apply Zo|apply Zq|apply Zs)|((with_reducible refine Yz ?_);first|((with_reducible apply SK.indexAddr); rfl; rfl; rfl; first | exact hil | exact hjl | exact hgn2)|((with_reducible apply SK.load1R); rfl; rfl; first | exact hcb0 | exact hd1)|((with_reducible apply SK.neQ); rfl; rfl; rfl)|((with_reducible first|apply ZI|apply ZJ|apply ZO);rfl;rfl)|((with_reducible apply ZP);rfl;rfl)|((with_reducible first|apply ZR|apply ZS|apply ZW);rfl;rfl;rfl;omega)|((with_reducible apply Zqd);rfl;rfl;rfl;omega)|((with_reducible apply Zqn);rfl;rfl;rfl)|((with_reducible apply Zqs);rfl;rfl;rfl)|((with_reducible apply Zqx);rfl;rfl;rfl;rfl)|((with_reducible apply Zra);rfl;rfl;(focus (repeat constructor));rfl)|((with_reducible apply Zrc);rfl;rfl;rfl;exact List.cons_ne_nil _ _;(first|rfl|(repeat first|exact plain_nil|(refine plain_cons (by first|rfl|exact OwnD.plain_val _ _) ?_)));(focus (repeat constructor));rfl)|((with_reducible apply Zrg);rfl;intro _))|((with_reducible apply ZC);rfl)|((with_reducible apply ZD);rfl))
                exact SK.roundW (j + 1, g, o + 1, R.S, pN, pS) ⟨by omega, by omega, hsg', ⟨hpN, hpS⟩⟩ (by dsimp only; omega) (by (repeat constructor)) (by (repeat constructor))
              · have hR := ho2 ho
                (repeat first|(with_reducible first|apply Za|apply Zb|apply Zc|apply Zd|apply Zi|apply Zo|apply Zr|apply Zs)|((with_reducible refine Yz ?_);first|((with_reducible apply SK.indexAddr); rfl; rfl; rfl; first | exact hil | exact hjl | exact hgn2)|((with_reducible apply SK.load1R); rfl; rfl; first | exact hcb0 | exact hd1)|((with_reducible apply SK.loadAR); rfl; rfl; exact hd6; rfl)|((with_reducible first|apply ZI|apply ZK|apply ZM|apply ZO);rfl;rfl)|((with_reducible first|apply ZS|apply ZW);rfl;rfl;rfl;omega)|((with_reducible first|apply Zqo|apply Zqr);rfl;rfl;rfl)|((with_reducible first|apply Zqz|apply Zra);rfl;rfl;(focus (repeat constructor));rfl)|((with_reducible apply Zrc);rfl;rfl;rfl;exact List.cons_ne_nil _ _;(first|rfl|(repeat first|exact plain_nil|(refine plain_cons (by first|rfl|exact OwnD.plain_val _ _) ?_)));(focus (repeat constructor));rfl)|((with_reducible apply Zrg);rfl;intro _))|((with_reducible apply ZC);rfl)|((with_reducible apply ZD);rfl))
                refine SK.callO rfl rfl (fun w2 g1 g2 => step20e (D := dfS n) (S := S) (a := inO) (dv := (.agg #[.string bW, .slice (some ⟨bD, 0, none⟩) n capD])) (sv := stV S (oN, oS)) hR (okS9 hn1 hn12) hsg.gd (show bT.size ≤ 1000 by decide) (hdS.mono g1) (RSt.own hoN hoS (fun b cs hb j u hu => g2 b cs _ (by rw [← hb]; (repeat constructor)) j u hu) (fun b cs hb j u hu => g2 b cs _ (by rw [← hb]; (repeat constructor)) j u hu)) (by obtain ⟨m, hm⟩ := hG'; exact ⟨m, g1 _ _ _ hm⟩)) ?_
                rintro ⟨⟨pN, pS⟩, pE, pT⟩ ⟨⟨hpN, hpS⟩, hpE, hpT⟩
                dsimp only at hpN hpS hpE hpT ⊢
                (repeat first|(with_reducible first|apply Za|apply Zb|apply Zc|apply Zd|apply Zi|apply Zj|apply Zn|apply Zo|apply Zq|apply Zs)|((with_reducible refine Yz ?_);first|((with_reducible apply SK.indexAddr); rfl; rfl; rfl; first | exact hil | exact hjl | exact hgn2)|((with_reducible apply SK.load1R); rfl; rfl; first | exact hcb0 | exact hd1)|((with_reducible apply SK.neQ); rfl; rfl; rfl)|((with_reducible first|apply ZI|apply ZJ|apply ZO);rfl;rfl)|((with_reducible apply ZP);rfl;rfl)|((with_reducible first|apply ZR|apply ZX);rfl;rfl;rfl;omega)|((with_reducible first|apply ZY|apply Zqc|apply Zqd);rfl;rfl;rfl;omega)|((with_reducible first|apply Zqn|apply Zqo);rfl;rfl;rfl)|((with_reducible apply Zqs);rfl;rfl;rfl)|((with_reducible apply Zrc);rfl;rfl;rfl;exact List.cons_ne_nil _ _;(first|rfl|(repeat first|exact plain_nil|(refine plain_cons (by first|rfl|exact OwnD.plain_val _ _) ?_)));(focus (repeat constructor));rfl)|((with_reducible apply Zrg);rfl;intro _))|((with_reducible apply ZC);rfl)|((with_reducible apply ZD);rfl))
                exact SK.roundW (j + 1, g, o, S, oN, oS) ⟨by omega, by omega, hsg, ⟨hoN, hoS⟩⟩ (by dsimp only; omega) (by (repeat constructor)) (by (repeat constructor))
          · rw [if_neg hgn] at hsst
            (repeat first|(with_reducible first|apply Za|apply Zb|apply Zc|apply Zd|apply Zi|apply Zj|apply Zn|apply Zq)|((with_reducible first|apply ZI|apply ZK|apply ZM|apply ZO);rfl;rfl)|((with_reducible apply ZS);rfl;rfl;rfl;omega)|((with_reducible apply Zqc);rfl;rfl;rfl;omega)|((with_reducible apply Zqo);rfl;rfl;rfl)|((with_reducible apply Zqz);rfl;rfl;(focus (repeat constructor));rfl)|((with_reducible apply ZD);rfl))
            exact SK.jumped (g, o, S, oN, oS) ⟨hsg, ⟨hoN, hoS⟩⟩ (by (repeat constructor)) (by (repeat constructor))
        · (repeat first|(with_reducible first|apply Za|apply Zb|apply Zc|apply Zd|apply Zi|apply Zj|apply Zn|apply Zq)|((with_reducible first|apply ZI|apply ZM|apply ZO);rfl;rfl)|((with_reducible apply ZS);rfl;rfl;rfl;omega)|((with_reducible apply ZY);rfl;rfl;rfl;omega)|((with_reducible apply Zqo);rfl;rfl;rfl)|((with_reducible apply Zqs);rfl;rfl;rfl)|((with_reducible apply Zqx);rfl;rfl;rfl;rfl)|((with_reducible apply ZD);rfl))
          exact SK.jumped (g, o, S, oN, oS) ⟨hsg, ⟨hoN, hoS⟩⟩ (by (repeat constructor)) (by (repeat constructor))
      · (repeat first|(with_reducible first|apply Za|apply Zb|apply Zc|apply Zd|apply Zi|apply Zj|apply Zn|apply Zq)|((with_reducible first|apply ZI|apply ZM);rfl;rfl)|((with_reducible apply ZY);rfl;rfl;rfl;omega)|((with_reducible apply Zqs);rfl;rfl;rfl)|((with_reducible apply Zqx);rfl;rfl;rfl;rfl)|((with_reducible apply ZD);rfl))
        exact SK.jumped (g, o, S, oN, oS) ⟨hsg, ⟨hoN, hoS⟩⟩ (by (repeat constructor)) (by (repeat constructor))
    rintro ⟨g, o, S, oN, oS⟩ ⟨hsg, ⟨hoN, hoS⟩⟩
    dsimp only at hsg hoN hoS ⊢
    have hsst := hsg.st
    have hol := hsg.ol
    have hgle := hsg.le
    obtain ⟨AS, cS, hvS⟩ := val_sl hoS
    by_cases hgn : g < n
    · rw [if_pos hgn] at hsst
      (repeat first|(with_reducible first|apply Za|apply Zb|apply Zc)|((with_reducible refine Yz ?_);first|((with_reducible apply SK.eqQ); rfl; rfl; rfl)|((with_reducible first|apply ZI|apply ZK|apply ZO);rfl;rfl)|((with_reducible apply Zqc);rfl;rfl;rfl;omega)|((with_reducible apply Zqz);rfl;rfl;(focus (repeat constructor));rfl)))
      refine SK.slot (j := 154) rfl hvS ?_
      (repeat first|(with_reducible apply Zc)|((with_reducible first|apply ZI|apply ZM|apply ZO);rfl;rfl)|((with_reducible apply ZW);rfl;rfl;rfl;omega)|((with_reducible apply Zqo);rfl;rfl;rfl))
      refine SK.callA rfl rfl (fun w2 g1 _ => wakes17 w2 (hG1 w2 g1)) ?_
      (repeat first|(with_reducible first|apply Zc|apply Zd|apply Zi|apply Zp|apply Zs)|((with_reducible apply ZJ);rfl;rfl)|((with_reducible apply Zqo);rfl;rfl;rfl))
      exact SK.retQ rfl (by (repeat constructor)) (fun w' hm' => ⟨(), trivial, rfl, hm0.end0 hm'⟩)
    · rw [if_neg hgn] at hsst
      (repeat first|(with_reducible first|apply Za|apply Zb|apply Zc)|((with_reducible refine Yz ?_);first|((with_reducible apply SK.eqQ); rfl; rfl; rfl)|((with_reducible first|apply ZI|apply ZK|apply ZO);rfl;rfl)|((with_reducible apply ZW);rfl;rfl;rfl;omega)|((with_reducible apply Zqz);rfl;rfl;(focus (repeat constructor));rfl)))
      refine SK.slot (j := 154) rfl hvS ?_
      (repeat first|(with_reducible apply Zc)|((with_reducible first|apply ZI|apply ZM|apply ZO);rfl;rfl)|((with_reducible apply ZW);rfl;rfl;rfl;omega)|((with_reducible apply Zqo);rfl;rfl;rfl))
      refine SK.callA rfl rfl (fun w2 g1 _ => wakes17 w2 (hG1 w2 g1)) ?_
      (repeat first|(with_reducible first|apply Zc|apply Zd|apply Zi|apply Zp|apply Zs)|((with_reducible apply ZJ);rfl;rfl)|((with_reducible apply Zqo);rfl;rfl;rfl))
      exact SK.retQ rfl (by (repeat constructor)) (fun w' hm' => ⟨(), trivial, rfl, hm0.end0 hm'⟩)
open Go.ChangeShapes Go.WideShapes Go.ChangeAt Go.RowKit
set_option maxRecDepth 100000 in
set_option maxHeartbeats 4000000 in
theorem historySignals_lifted (os : Os) (started : os.Started) (H : Type) (enc : TypeId × Value → H) :
    ReturnsInHanded {} Try.checked os 9 .any (Rows.historySignalsSpec.pre6 enc Try.prog Try.f9 Rows.historySignalsRow.domain false) (Rows.historySignalsSpec.post enc Try.prog Try.f9 false true false false) := by
  refine returnsInHanded_of_change_shaped (C := Try.checked) Try.own started (by kernel_rfl) Try.func9
    (ChangeSpec.witness6 (enc := enc) (C := Try.checked) false ⟨#[], #[.int .i64 0, .slice none 0 0], []⟩ 8 (by kernel_rfl) (by kernel_rfl) (by kernel_rfl) (by kernel_rfl)) ?_
  intro W base args ds gs before hval0 hW hcnd0 hsz0 hsh _
  have hsz : (DataW.weightsEach Try.prog (Try.f9.params.toList ++ Rows.historySignalsSpec.plain.varTypes Try.prog) (ds ++ gs)).all (· ≤ reachBytes) = true := hsz0
  have hval : ∀ (j : Nat) t v, Try.f9.params[j]? = some t → args[j]? = some v → Value.okWide Try.prog W .any base t v := hval0
  have hW' := hW
  obtain ⟨p, q, hA0, hV, rfl, hfz, hnd⟩ := hW
  have hA : DataW.TrodAll enc Try.prog W 0 (fun _ => true) true Try.f9.params.toList args.toList ds p := hA0
  rw [Try.params9] at hA hval hsz
  obtain ⟨v0, v1, d0, d1, p0, p1, rfl, rfl, rfl, h0, h1⟩ := trodAll_two hA
  obtain ⟨rfl, rfl⟩ := trodVars_none hV
  have hlt := hW'.lt
  have hw1 : ∀ n ∈ d1.weights Try.prog 60, n ≤ reachBytes := fun n hn => by
    have := List.all_eq_true.1 hsz n (DataW.weights_mem_each (j := 1) rfl rfl n hn)
    simpa using this
  have hR : reachBytes < 9223372036854775807 := by decide
  obtain ⟨f0, t0⟩ := id h0
  obtain ⟨m0, rfl⟩ := okWide_int Try.underlying3 (hval 0 3 v0 rfl rfl)
  obtain ⟨f1, t1⟩ := id h1
  obtain ⟨a1, len1, cap1, rfl⟩ := okWide_slice Try.underlying60 (hval 1 60 v1 rfl rfl)
  obtain ⟨c1, l1, e1, hrl1, hI1⟩ := open60 t1 hw1 hR
  have e1' : c1 = .slice a1 len1 cap1 := by
    have : ([Value.slice a1 len1 cap1] : List Value) = [c1] := e1
    exact (List.cons.inj this).1.symm
  subst e1'
  obtain ⟨m, hm⟩ := Try.laysM144.s1_3 W hsh
  have hrun := signals9 m0 _ l1 W  (hrl1.mono fun b o v h => Cw.vw h) hI1 ⟨m, Cw.vw hm⟩
  refine Calls.mono hrun fun e W' ⟨_, _, he, hmem⟩ => ?_
  have hb := Mem.below hmem
  subst he
  have r0 := Below.trod Try.laidOut (ty_ok 3 (by kernel_rfl) (by kernel_rfl)).1 (ty_ok 3 (by kernel_rfl) (by kernel_rfl)).2 h0 hb (fun x hx => hlt x (by simp [hx]))
  have r1 := Below.trod Try.laidOut (ty_ok 60 (by kernel_rfl) (by kernel_rfl)).1 (ty_ok 60 (by kernel_rfl) (by kernel_rfl)).2 h1 hb (fun x hx => hlt x (by simp [hx]))
  exact ⟨_, rfl, ⟨_, _, _, [], _, [], hW', trodAll_mk1 (shut_bool Try.underlying4 _), trodAll_mk2 r0 r1, rfl, hb.frame _, fun h => by cases h⟩⟩
theorem HistorySignals_holds : Rows.HistorySignalsSaid :=
  OpenClaim.holds_of_wide 9 Try.f9 rfl rfl rfl rfl rfl rfl rfl ⟨rfl, rfl, rfl, rfl, rfl⟩ rfl rfl rfl rfl rfl (by kernel_rfl) Try.func9 (by kernel_rfl)
    (of_decide_eq_true (by kernel_rfl)) (by unfold Func.isWrapper; rw [if_neg (of_decide_eq_false (by kernel_rfl))]; exact ⟨rfl, rfl⟩)
    (fun os started H enc _ => historySignals_lifted os started H enc)
#print axioms HistorySignals_holds
end Go.Proofs.Ytdnjfmgldkommaa
