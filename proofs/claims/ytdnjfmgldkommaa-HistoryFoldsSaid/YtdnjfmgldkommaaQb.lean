/- Proved here: a state is what its events come to; what is over stays over. -/
import Derived.Test.YtdnjfmgldkommaaQa
namespace Go.Sx
section
variable {P : Program} {w0 : World} {Mod : List Nat} {n : Nat} {F : FL} {M : ML} {Q : Exit → Act → World → Prop}
theorem SK.tail2 {α : Type} {x1 x2 y : Code} (Fi : α → FL) (Mi : α → ML) (p : α → Prop)
    (h1 : SK w0 Mod n (x1.wp P (Exit.then (x2.wp P (Exit.then (Jumped w0 Mod n Fi Mi p) Q)) (Exit.then (Jumped w0 Mod n Fi Mi p) Q))) F M)
    (h2 : ∀ g, p g → SK w0 Mod n (y.wp P Q) (Fi g) (Mi g)) : SK w0 Mod n ((Code.seq x1 (Code.seq x2 y)).wp P Q) F M := by
  intro a w hf hm
  refine wp_seq (wp_mono (h1 a w hf hm) ?_)
  intro e a w he
  cases e with
  | normal =>
    refine wp_seq (wp_mono he ?_)
    intro e a w he
    cases e with
    | normal => obtain ⟨g, hp, hf, hm⟩ := he; exact h2 g hp a w hf hm
    | _ => exact he
  | _ => exact he
theorem SK.tail3 {α : Type} {x1 x2 x3 y : Code} (Fi : α → FL) (Mi : α → ML) (p : α → Prop)
    (h1 : SK w0 Mod n (x1.wp P (Exit.then (x2.wp P (Exit.then (x3.wp P (Exit.then (Jumped w0 Mod n Fi Mi p) Q)) (Exit.then (Jumped w0 Mod n Fi Mi p) Q))) (Exit.then (Jumped w0 Mod n Fi Mi p) Q))) F M)
    (h2 : ∀ g, p g → SK w0 Mod n (y.wp P Q) (Fi g) (Mi g)) : SK w0 Mod n ((Code.seq x1 (Code.seq x2 (Code.seq x3 y))).wp P Q) F M := by
  intro a w hf hm
  refine wp_seq (wp_mono (h1 a w hf hm) ?_)
  intro e a w he
  cases e with
  | normal =>
    refine wp_seq (wp_mono he ?_)
    intro e a w he
    cases e with
    | normal =>
      refine wp_seq (wp_mono he ?_)
      intro e a w he
      cases e with
      | normal => obtain ⟨g, hp, hf, hm⟩ := he; exact h2 g hp a w hf hm
      | _ => exact he
    | _ => exact he
  | _ => exact he
theorem SK.tail4 {α : Type} {x1 x2 x3 x4 y : Code} (Fi : α → FL) (Mi : α → ML) (p : α → Prop)
    (h1 : SK w0 Mod n (x1.wp P (Exit.then (x2.wp P (Exit.then (x3.wp P (Exit.then (x4.wp P (Exit.then (Jumped w0 Mod n Fi Mi p) Q)) (Exit.then (Jumped w0 Mod n Fi Mi p) Q))) (Exit.then (Jumped w0 Mod n Fi Mi p) Q))) (Exit.then (Jumped w0 Mod n Fi Mi p) Q))) F M)
    (h2 : ∀ g, p g → SK w0 Mod n (y.wp P Q) (Fi g) (Mi g)) : SK w0 Mod n ((Code.seq x1 (Code.seq x2 (Code.seq x3 (Code.seq x4 y)))).wp P Q) F M := by
  intro a w hf hm
  refine wp_seq (wp_mono (h1 a w hf hm) ?_)
  intro e a w he
  cases e with
  | normal =>
    refine wp_seq (wp_mono he ?_)
    intro e a w he
    cases e with
    | normal =>
      refine wp_seq (wp_mono he ?_)
      intro e a w he
      cases e with
      | normal =>
        refine wp_seq (wp_mono he ?_)
        intro e a w he
        cases e with
        | normal => obtain ⟨g, hp, hf, hm⟩ := he; exact h2 g hp a w hf hm
        | _ => exact he
      | _ => exact he
    | _ => exact he
  | _ => exact he
end
end Go.Sx
namespace Go.Proofs.Ytdnjfmgldkommaa
open Go.Sx
def foldE (D : Df) : Sta → List Ev → Option Sta
  | S, [] => some S
  | S, e :: l => (applyL D S e).bind fun T => foldE D T l
theorem foldE_append {D : Df} : ∀ {l m : List Ev} {S : Sta}, foldE D S (l ++ m) = (foldE D S l).bind fun T => foldE D T m
  | [], m, S => rfl
  | e :: l, m, S => by
    simp only [List.cons_append, foldE]
    cases applyL D S e with
    | none => rfl
    | some T => exact foldE_append
theorem foldE_snoc {D : Df} {l : List Ev} {e : Ev} {S T U : Sta} (h : foldE D S l = some T) (ha : applyL D T e = some U) : foldE D S (l ++ [e]) = some U := by
  rw [foldE_append, h]
  simp [foldE, ha]
theorem cls_fold {D : Df} {S0 : Sta} {R : Rn} {st : Int} {t : ByteArray} (hs : R.S.status = 1) (h4 : st = 2 ∨ st = 3 ∨ st = 4) (h : foldE D S0 R.ev = some R.S) : foldE D S0 (cls D R st t).ev = some (cls D R st t).S := by
  obtain ⟨ha, ts, he, _⟩ := cls_eq (D := D) (t := t) hs h4
  rw [he]
  exact foldE_snoc h ha
theorem On.fold {D : Df} {now : Int} {S0 : Sta} {R R' : Rn} (h : On D now R R') (hf : foldE D S0 R.ev = some R.S) : foldE D S0 R'.ev = some R'.S := by
  induction h with
  | more hs hl hr hn hx h0 hm ha h ih => exact ih (foldE_snoc hf ha)
  | stay hs hl hr ha => exact hf
  | done hs hl hr ha => exact cls_fold hs (.inl rfl) hf
  | long hs hl hr hn hx h0 k hsz ha => exact cls_fold (R := mv _ _ _ _ _ _) hs (.inr (.inl rfl)) (foldE_snoc hf ha)
theorem On.id {D : Df} {now : Int} {R R' : Rn} (h : On D now R R') : R'.S.id = R.S.id := by
  induction h with
  | more hs hl hr hn hx h0 hm ha h ih => exact ih
  | stay hs hl hr ha => rfl
  | done hs hl hr ha =>
    obtain ⟨_, ts, he, _⟩ := cls_eq (D := D) (t := lastT _) hs (.inl rfl)
    rw [he]; rfl
  | @long R i n x hs hl hr hn hx h0 k hsz ha =>
    obtain ⟨_, ts, he, _⟩ := cls_eq (D := D) (R := mv R i { x with st := 4, text := longT } R.S.sigs ⟨6, n.name, longT, 0⟩ []) (t := longT) hs (.inr (.inl rfl))
    rw [he]; rfl
def born (S : Sta) : Sta := { sta0 with id := S.id }
theorem Stp.fold {D : Df} {S : Sta} {a : Inp} {R : Rn} (h : Stp D S a R) (h1 : S.status = 1) : foldE D S R.ev = some R.S ∧ R.S.id = S.id := by
  cases h with
  | start h0 ha hp h => omega
  | @on i n x y e ts _ h1 hn hx hm ha h => exact ⟨h.fold (S0 := S) (by show foldE D S [e] = _; simp [foldE, ha]), h.id⟩
  | stop h1 hn hx hm ha => exact ⟨by show foldE D S [_] = _; simp [foldE, ha], rfl⟩
  | kept h1 ha hk hp => exact ⟨by show foldE D S [_] = _; simp [foldE, hp], rfl⟩
  | @fail i n x t h1 hn hx h ha =>
    refine ⟨cls_fold (R := mv _ _ _ _ _ _) h1 (.inr (.inl rfl)) (by show foldE D S [_] = _; simp [foldE, ha]), ?_⟩
    obtain ⟨_, ts, he, _⟩ := cls_eq (D := D) (R := mv ⟨S, [], []⟩ i { x with st := 4, text := t } S.sigs ⟨6, n.name, t, 0⟩ []) (t := t) h1 (.inr (.inl rfl))
    rw [he]; rfl
  | cancel h1 ha =>
    refine ⟨cls_fold (R := ⟨S, [], []⟩) h1 (.inr (.inr rfl)) rfl, ?_⟩
    obtain ⟨_, ts, he, _⟩ := cls_eq (D := D) (R := ⟨S, [], []⟩) (t := a.text) h1 (.inr (.inr rfl))
    rw [he]; rfl
theorem Stp.fold0 {D : Df} {a : Inp} {R : Rn} (h : Stp D sta0 a R) : foldE D (born R.S) R.ev = some R.S := by
  cases h with
  | start h0 ha hp h =>
    have hid := h.id
    have : born R.S = { sta0 with id := a.name } := by unfold born; rw [hid]; rfl
    rw [this]
    exact h.fold (by show foldE D _ [_] = _; simp [foldE, hp, startR])
  | on h1 hn hx hm ha h => exact absurd h1 (by decide)
  | stop h1 hn hx hm ha => exact absurd h1 (by decide)
  | kept h1 ha hk hp => exact absurd h1 (by decide)
  | fail h1 hn hx h ha => exact absurd h1 (by decide)
  | cancel h1 ha => exact absurd h1 (by decide)
theorem foldE_events {D : Df} : ∀ {l : List Ev} {S T : Sta}, foldE D S l = some T → 0 ≤ S.events → S.events + l.length < 9223372036854775807 → T.events = S.events + l.length
  | [], S, T, h, _, _ => by cases h; simp
  | e :: l, S, T, h, h0, hl => by
    simp only [foldE] at h
    cases ha : applyL D S e with
    | none => rw [ha] at h; cases h
    | some U =>
      rw [ha] at h
      have hU : U.events = S.events + 1 := by
        unfold applyL at ha
        cases hq : applyQ D S e with
        | none => rw [hq] at ha; cases ha
        | some V =>
          rw [hq] at ha
          cases ha
          have := (applyQ_keeps hq).2.1
          simp only [List.length_cons] at hl
          show IntKind.i64.wrap (V.events + 1) = _
          rw [this, wrap64_in (by omega) (by omega)]
      simp only [List.length_cons] at hl ⊢
      have := foldE_events (l := l) (S := U) (T := T) h (by omega) (by omega)
      omega
theorem foldE_take {D : Df} {l : List Ev} {S T : Sta} (h : foldE D S l = some T) (k : Nat) : ∃ U, foldE D S (l.take k) = some U := by
  rw [← List.take_append_drop k l, foldE_append] at h
  cases hk : foldE D S (l.take k) with
  | none => rw [hk] at h; cases h
  | some U => exact ⟨U, rfl⟩
theorem foldE_step {D : Df} {l : List Ev} {S T U : Sta} {k : Nat} {e : Ev} (h : foldE D S l = some T) (hk : foldE D S (l.take k) = some U) (he : l[k]? = some e) : ∃ V, applyL D U e = some V ∧ foldE D S (l.take (k + 1)) = some V := by
  obtain ⟨V, hV⟩ := foldE_take h (k + 1)
  have hlt := (List.getElem?_eq_some_iff.1 he).1
  have : l.take (k + 1) = l.take k ++ [e] := by rw [List.take_add_one, he]; rfl
  rw [this, foldE_append, hk] at hV
  simp only [Option.bind_some, foldE] at hV
  cases ha : applyL D U e with
  | none => rw [ha] at hV; cases hV
  | some W =>
    rw [ha] at hV
    cases hV
    exact ⟨V, rfl, by rw [this, foldE_append, hk]; simp [foldE, ha]⟩
def Stays (S T : Sta) : Prop := ∀ (k : Nat) (x : Ns), S.nodes[k]? = some x → x.st = 3 → T.nodes[k]? = some x
theorem Stays.refl (S : Sta) : Stays S S := fun _ _ h _ => h
theorem Stays.trans {S T U : Sta} (h1 : Stays S T) (h2 : Stays T U) : Stays S U := fun k x hx h3 => h2 k x (h1 k x hx h3) h3
theorem mv_stays {R : Rn} {i : Nat} {x y : Ns} {g : List Sg} {e : Ev} {ts : List Tk} (hx : R.S.nodes[i]? = some x) (h : x.st ≠ 3) : Stays R.S (mv R i y g e ts).S := by
  intro k z hz h3
  show (R.S.nodes.set i y)[k]? = some z
  rw [List.getElem?_set]
  split
  · rename_i hik; subst hik; rw [hx] at hz; cases hz; exact absurd h3 h
  · exact hz
theorem cls_stays {D : Df} {R : Rn} {st : Int} {t : ByteArray} : Stays R.S (cls D R st t).S := fun k x hx _ => by rw [cls_S_nodes]; exact hx
theorem On.stays {D : Df} {now : Int} {R R' : Rn} (h : On D now R R') : Stays R.S R'.S := by
  induction h with
  | more hs hl hr hn hx h0 hm ha h ih => exact (mv_stays hx (by omega)).trans ih
  | stay hs hl hr ha => exact Stays.refl _
  | done hs hl hr ha => exact cls_stays
  | long hs hl hr hn hx h0 k hsz ha => exact (mv_stays hx (by omega)).trans cls_stays
theorem Stp.stays {D : Df} {S : Sta} {a : Inp} {R : Rn} (hw : WS D S) (h : Stp D S a R) : Stays S R.S := by
  cases h with
  | start h0 ha hp h =>
    have := hw.zero h0
    subst this
    intro k x hx
    cases hx
  | on h1 hn hx hm ha h => exact Stays.trans (mv_stays (R := ⟨S, [], []⟩) hx (by cases hm <;> omega)) h.stays
  | stop h1 hn hx hm ha => exact mv_stays (R := ⟨S, [], []⟩) hx (by cases hm <;> omega)
  | kept h1 ha hk hp => exact fun k x hx _ => hx
  | fail h1 hn hx h ha => exact Stays.trans (mv_stays (R := ⟨S, [], []⟩) hx (by omega)) cls_stays
  | cancel h1 ha => exact cls_stays (R := ⟨S, [], []⟩)
def Live (S : Sta) : Prop := ∃ x ∈ S.nodes, x.st = 1 ∨ x.st = 2
theorem live_at {D : Df} {S : Sta} (hw : WN D S) (hb : ∀ x ∈ S.nodes, x.st ≠ 4) (hr : (rdy D S).head? = none) {l : List Nat} (hs : Seqd D l) : Live S ∨ ∀ i ∈ l, ∃ x, S.nodes[i]? = some x ∧ x.st = 3 := by
  induction hs with
  | nil => exact .inr (by simp)
  | @snoc l i n h hi hn hm ih =>
    rcases ih with ih | ih
    · exact .inl ih
    · have hlt : i < S.nodes.length := by rw [hw.ln]; exact (List.getElem?_eq_some_iff.1 hn).1
      have hx := List.getElem?_eq_getElem hlt
      have ha : ahead D S i := by
        intro n' hn'
        rw [hn] at hn'; cases hn'
        exact metL_mono (fun k hk => ov_get.2 (ih k (by simpa using hk))) hm
      have h0 := rdy_none hw.ln hr hx ha
      have h4 := hb _ (List.mem_of_getElem? hx)
      have hrr := (hw.nd i n _ hn hx).r
      by_cases h3 : (S.nodes[i]).st = 3
      · refine .inr fun j hj => ?_
        rcases List.mem_append.1 hj with hj | hj
        · exact ih j hj
        · rw [List.mem_singleton] at hj; subst hj; exact ⟨_, hx, h3⟩
      · exact .inl ⟨_, List.mem_of_getElem? hx, by omega⟩
theorem seqd_all {D : Df} {l : List Nat} (hs : Seqd D l) (hl : l.length = D.nodes.length) {i : Nat} (hi : i < D.nodes.length) : i ∈ l := by
  refine Classical.byContradiction fun hn => ?_
  have := nodup_lt hs.lt.2 hs.lt.1 hi hn
  omega
theorem live_end {D : Df} {S : Sta} (hw : WN D S) (hb : ∀ x ∈ S.nodes, x.st ≠ 4) (hr : (rdy D S).head? = none) (ho : over S = false) (hq : ∃ l, Seqd D l ∧ l.length = D.nodes.length) : Live S := by
  obtain ⟨l, hs, hl⟩ := hq
  rcases live_at hw hb hr hs with h | h
  · exact h
  · have : over S = true := by
      unfold over
      rw [List.all_eq_true]
      intro x hx
      obtain ⟨i, hi⟩ := List.getElem?_of_mem hx
      obtain ⟨y, hy, h3⟩ := h i (seqd_all hs hl (by rw [← hw.ln]; exact (List.getElem?_eq_some_iff.1 hi).1))
      rw [hi] at hy; cases hy
      simpa using h3
    rw [this] at ho; cases ho
theorem On.live {D : Df} {now : Int} (hT : Tries D) (hq : ∃ l, Seqd D l ∧ l.length = D.nodes.length) {R R' : Rn} (h : On D now R R') (hw : WN D R.S) (hb : ∀ x ∈ R.S.nodes, x.st ≠ 4) (h1 : R'.S.status = 1) : Live R'.S ∧ (rdy D R'.S).head? = none := by
  induction h with
  | more hs hl hr hn hx h0 hm ha h ih =>
    obtain ⟨w1, w2, w3, w4⟩ := hm.nodeW (hw.nd _ _ _ hn hx) h0 (hT _ (List.mem_of_getElem? hn))
    exact ih (hw.mv hn hx (by omega) (rdy_ahead hr) w1 w4) (mv_bad hb w2) h1
  | stay hs hl hr ha => exact ⟨live_end hw hb hr ha hq, hr⟩
  | @done R hs hl hr ha =>
    obtain ⟨_, ts, he, _⟩ := cls_eq (D := D) (t := lastT R.S) hs (.inl rfl)
    rw [he] at h1
    exact absurd (show (2 : Int) = 1 from h1) (by decide)
  | @long R i n x hs hl hr hn hx h0 k hsz ha =>
    obtain ⟨_, ts, he, _⟩ := cls_eq (D := D) (R := mv R i { x with st := 4, text := longT } R.S.sigs ⟨6, n.name, longT, 0⟩ []) (t := longT) hs (.inr (.inl rfl))
    rw [he] at h1
    exact absurd (show (3 : Int) = 1 from h1) (by decide)
theorem Stp.live {D : Df} (hT : Tries D) (hq : ∃ l, Seqd D l ∧ l.length = D.nodes.length) {S : Sta} {a : Inp} {R : Rn} (hw : WS D S) (hv : S.status = 1 → Live S) (h : Stp D S a R) (hr : R.S.status = 1) : Live R.S := by
  cases h with
  | start h0 ha hp h => exact (h.live hT hq (startW hw.sg).1 (startW hw.sg).2 hr).1
  | on h1 hn hx hm ha h =>
    have hwn := hw.wn (by omega)
    obtain ⟨w1, w2, w3, w4⟩ := hm.nodeW (hwn.nd _ _ _ hn hx) (hT _ (List.mem_of_getElem? hn))
    exact (h.live hT hq (WN.mv (R := ⟨S, [], []⟩) hwn hn hx w3 (hwn.ah _ _ hx w4) w1 (Nat.le_refl _)) (mv_bad (R := ⟨S, [], []⟩) (hw.bad h1) w2) hr).1
  | @stop i n x y e ts h1 hn hx hm ha =>
    have hlt := (List.getElem?_eq_some_iff.1 hx).1
    exact ⟨y, List.mem_iff_getElem?.2 ⟨i, by show (S.nodes.set i y)[i]? = _; simp [hlt]⟩, by cases hm <;> simp⟩
  | kept h1 ha hk hp => exact hv h1
  | @fail i n x t h1 hn hx h ha =>
    obtain ⟨_, ts, he, _⟩ := cls_eq (D := D) (R := mv ⟨S, [], []⟩ i { x with st := 4, text := t } S.sigs ⟨6, n.name, t, 0⟩ []) (t := t) h1 (.inr (.inl rfl))
    rw [he] at hr
    exact absurd (show (3 : Int) = 1 from hr) (by decide)
  | cancel h1 ha =>
    obtain ⟨_, ts, he, _⟩ := cls_eq (D := D) (R := ⟨S, [], []⟩) (t := a.text) h1 (.inr (.inr rfl))
    rw [he] at hr
    exact absurd (show (4 : Int) = 1 from hr) (by decide)
end Go.Proofs.Ytdnjfmgldkommaa
