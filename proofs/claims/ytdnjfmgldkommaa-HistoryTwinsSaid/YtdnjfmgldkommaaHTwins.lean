/- Proved here: Two workflows to which the same happens stand alike, but for their names. -/
import Derived.Test.YtdnjfmgldkommaaQa
import Derived.Test.YtdnjfmgldkommaaQb
import Derived.Test.YtdnjfmgldkommaaMa
import Derived.Test.YtdnjfmgldkommaaLc
import Derived.Test.YtdnjfmgldkommaaRows
import Derived.HandedShaped
import Derived.Carry
import Derived.Test.YtdnjfmgldkommaaWd
namespace Go.Proofs.Ytdnjfmgldkommaa
open Go.Sx
@[reducible] def i11_18 : List Ent := [(0, []), (1, []), (2, [1]), (3, [])]
@[reducible] def i11_20 : List Ent := [(0, []), (2, []), (4, []), (1, []), (6, []), (3, []), (5, []), (7, [3, 5]), (8, []), (9, [5]), (10, []), (11, [])]
@[reducible] def tw (i p q : ByteArray) (S : Sta) : Sta := ⟨S.df, i, p, q, S.status, S.text, S.nodes, S.sigs, S.events⟩
section
variable {D : Df} {now : Int} {i p q : ByteArray} {S : Sta} {R R' : Rn}
theorem applyQ_tw {e : Ev} (h : e.kind ≠ 1) : applyQ D (tw i p q S) e = (applyQ D S e).map (tw i p q) := by
  unfold applyQ
  rw [if_neg h, if_neg h]
  show (if S.status = 1 then _ else _) = _
  by_cases h1 : S.status = 1
  · rw [if_pos h1, if_pos h1]
    by_cases h13 : e.kind = 13
    · rw [if_pos h13, if_pos h13]; rfl
    · rw [if_neg h13, if_neg h13]
      by_cases h15 : e.kind = 15
      · rw [if_pos h15, if_pos h15]
        by_cases hn : e.number = 2 ∨ e.number = 3 ∨ e.number = 4
        · rw [if_pos hn, if_pos hn]; rfl
        · rw [if_neg hn, if_neg hn]; rfl
      · rw [if_neg h15, if_neg h15]
        cases hf : fI D.nodes e.node with
        | none => rfl
        | some j =>
          dsimp only
          cases hnd : D.nodes[j]? with
          | none => rfl
          | some nd =>
            cases hx : S.nodes[j]? with
            | none => rfl
            | some x =>
              cases hm : moveL nd.kind x e (kI S.sigs nd.arg) with
              | none => simp [hm]
              | some r => simp [hm]
  · rw [if_neg h1, if_neg h1]; rfl
theorem applyL_tw {e : Ev} (h : e.kind ≠ 1) : applyL D (tw i p q S) e = (applyL D S e).map (tw i p q) := by
  unfold applyL
  rw [applyQ_tw h]
  cases applyQ D S e <;> rfl
structure Tw (i p q : ByteArray) (R R' : Rn) : Prop where
  s : R'.S = tw i p q R.S
  ev : R'.ev = R.ev
  tk : R'.tk.length = R.tk.length
  id : R.S.id.size ≤ 100
def TwG (i p q : ByteArray) (R R' : Rn) : Prop := Tw i p q R R' ∨ (R'.S = tw i p q R.S ∧ R'.ev = R.ev ∧ R.S.status ≠ 1)
theorem Tw.happ (h : Tw i p q R R') (e : Ev) (he : e.kind ≠ 1) : Tw i p q (happ D R e) (happ D R' e) := by
  refine ⟨?_, ?_, h.tk, by rw [(happ_keeps D R e).1]; exact h.id⟩
  · unfold Ytdnjfmgldkommaa.happ
    simp only [h.s]
    rw [applyL_tw he]
    cases applyL D R.S e <;> rfl
  · unfold Ytdnjfmgldkommaa.happ
    simp only [h.ev]
theorem Tw.tsk (h : Tw i p q R R') (t t' : Tk) : Tw i p q (tsk R t) (tsk R' t') := by
  refine ⟨h.s, h.ev, ?_, h.id⟩
  simp only [Ytdnjfmgldkommaa.tsk, List.length_append, List.length_singleton, h.tk]
theorem Tw.mlr (h : Tw i p q R R') (m m' : Ml) : Tw i p q (mlr R m) (mlr R' m') := h.tsk _ _
theorem par_ev (R : Rn) (st : Int) (t : ByteArray) : (par R st t).ev = R.ev := by
  unfold par
  split <;> rfl
theorem cnc_ev (R : Rn) (t : ByteArray) (n : Option Nd) (x : Option Ns) : (cnc R t n x).ev = R.ev := by
  unfold cnc
  split
  · split <;> rfl
  · rfl
theorem clm_ev (R : Rn) (t : ByteArray) : ∀ k, (clm D t R k).ev = R.ev
  | 0 => rfl
  | k + 1 => by simp only [clm, cnc_ev, clm_ev R t k]
theorem cls_ev (R : Rn) (st : Int) (t : ByteArray) : (cls D R st t).ev = R.ev ++ [⟨15, e0, t, st⟩] := by
  unfold cls
  rw [par_ev, clm_ev]
  rfl
theorem cls_st (R : Rn) (st : Int) (t : ByteArray) (h : st = 2 ∨ st = 3 ∨ st = 4) : (cls D R st t).S.status ≠ 1 := by
  rw [cls_nodes]
  unfold happ applyL applyQ
  rw [if_neg (by simp)]
  by_cases h1 : R.S.status = 1
  · rw [if_pos h1, if_neg (by simp), if_pos rfl, if_pos h]
    show st ≠ 1
    omega
  · rw [if_neg h1]
    exact h1
theorem Tw.cls (h : Tw i p q R R') (st : Int) (t : ByteArray) (h4 : st = 2 ∨ st = 3 ∨ st = 4) : TwG i p q (cls D R st t) (cls D R' st t) := by
  refine .inr ⟨?_, ?_, cls_st R st t h4⟩
  · rw [cls_nodes, cls_nodes]
    exact (h.happ _ (show (15 : Int) ≠ 1 by decide)).s
  · rw [cls_ev, cls_ev, h.ev]
theorem chl_size (S : Sta) (n : Nd) : (chl S n).size = S.id.size + 1 + n.name.size := by
  unfold chl
  rw [ByteArray.size_append, ByteArray.size_append]
  rfl
theorem Tw.bgn (h : Tw i p q R R') (hi : i.size ≤ 100) {n : Nd} (hn : n.name.size ≤ 64) : TwG i p q (bgn D now R n) (bgn D now R' n) := by
  have hc : ¬ 256 < (chl R.S n).size := by rw [chl_size]; have := h.id; omega
  have hc' : ¬ 256 < (chl R'.S n).size := by rw [chl_size, h.s]; show ¬ 256 < i.size + 1 + n.name.size; omega
  unfold Ytdnjfmgldkommaa.bgn
  split
  · exact .inl ((h.happ _ (show (2 : Int) ≠ 1 by decide)).tsk _ _)
  · split
    · exact .inl ((h.happ _ (show (7 : Int) ≠ 1 by decide)).tsk _ _)
    · split
      · exact .inl ((h.happ _ (show (9 : Int) ≠ 1 by decide)).mlr _ _)
      · split
        · have hsg : R'.S.sigs = R.S.sigs := by rw [h.s]
          rw [hsg]
          cases kI R.S.sigs n.arg with
          | none => exact .inl (h.happ _ (show (11 : Int) ≠ 1 by decide))
          | some k => exact .inl (h.happ _ (show (12 : Int) ≠ 1 by decide))
        · exact .inl ((h.happ _ (show (14 : Int) ≠ 1 by decide)).mlr _ _)
theorem TwG.onF (hD : DefOK D) (hi : i.size ≤ 100) : ∀ (f : Nat) (R R' : Rn), TwG i p q R R' → TwG i p q (onF D now f R) (onF D now f R')
  | 0, R, R', h => h
  | f + 1, R, R', h => by
    simp only [Ytdnjfmgldkommaa.onF]
    rcases h with h | h
    · have hst : R'.S.status = R.S.status := by rw [h.s]
      have hr : rdy D R'.S = rdy D R.S := by rw [h.s]; rfl
      rw [hst, hr]
      by_cases h1 : R.S.status = 1
      · rw [if_pos h1, if_pos h1]
        cases hh : (rdy D R.S).head? with
        | none =>
          have hno : R'.S.nodes = R.S.nodes := by rw [h.s]
          have hlt : lastT R'.S = lastT R.S := by rw [h.s]; rfl
          simp only [hno, hlt]
          split
          · exact h.cls _ _ (.inl rfl)
          · exact .inl h
        | some k =>
          cases hn : D.nodes[k]? with
          | none => first | exact .inl h | (simp only [hn]; exact .inl h)
          | some n =>
            simp only [hn]
            exact TwG.onF hD hi f _ _ (h.bgn hi (hD.nm n (List.mem_of_getElem? hn)))
      · rw [if_neg h1, if_neg h1]
        exact .inl h
    · obtain ⟨a, b, c⟩ := h
      have hst : R'.S.status ≠ 1 := by rw [a]; exact c
      rw [if_neg c, if_neg hst]
      exact .inr ⟨a, b, c⟩
theorem TwG.onL (hD : DefOK D) (hi : i.size ≤ 100) (h : TwG i p q R R') : TwG i p q (onL D now R) (onL D now R') := by
  have hid : idle R'.S = idle R.S := by
    rcases h with h | h
    · rw [h.s]; rfl
    · rw [h.1]; rfl
  unfold Ytdnjfmgldkommaa.onL
  rw [hid]
  exact TwG.onF hD hi _ _ _ h
def TwR (i p q : ByteArray) (r r' : Int × Rn) : Prop := r'.1 = r.1 ∧ TwG i p q r.2 r'.2
theorem signalL_tw (hD : DefOK D) (hi : i.size ≤ 100) (h : Tw i p q R R') (a : Inp) : TwR i p q (signalL D now R a) (signalL D now R' a) := by
  have hw : waits D R'.S a.name = waits D R.S a.name := by rw [h.s]; rfl
  have hsg : R'.S.sigs = R.S.sigs := by rw [h.s]
  unfold signalL
  rw [hw, hsg]
  split
  · exact ⟨rfl, .inl h⟩
  · split
    · exact ⟨rfl, .inl h⟩
    · cases waits D R.S a.name with
      | some k => exact ⟨rfl, TwG.onL hD hi (.inl (h.happ _ (show (12 : Int) ≠ 1 by decide)))⟩
      | none =>
        simp only []
        split
        · exact ⟨rfl, .inl h⟩
        · exact ⟨rfl, .inl (h.happ _ (show (13 : Int) ≠ 1 by decide))⟩
theorem nodeL_tw (s : ByteArray) : nodeL D (tw i p q S) s = nodeL D S s := rfl
theorem failL_tw (h : Tw i p q R R') (n : Nd) (x : Ns) (t : ByteArray) : TwG i p q (failL D R n x t) (failL D R' n x t) := by
  unfold failL
  split
  · exact .inl ((h.happ _ (show (5 : Int) ≠ 1 by decide)).tsk _ _)
  · exact (h.happ _ (show (6 : Int) ≠ 1 by decide)).cls _ _ (.inr (.inl rfl))
theorem takeL_tw (h : Tw i p q R R') (a : Inp) : TwR i p q (takeL D now R a) (takeL D now R' a) := by
  have hn : nodeL D R'.S a.node = nodeL D R.S a.node := by rw [h.s]; rfl
  unfold takeL
  rw [hn]
  cases nodeL D R.S a.node with
  | none => exact ⟨rfl, .inl h⟩
  | some r =>
    obtain ⟨n, x⟩ := r
    simp only []
    split
    · split
      · refine ⟨rfl, ?_⟩
        dsimp only
        split
        · exact .inl ((h.happ _ (show (3 : Int) ≠ 1 by decide)).tsk _ _)
        · exact .inl (h.happ _ (show (3 : Int) ≠ 1 by decide))
      · exact ⟨rfl, .inl h⟩
    · exact ⟨rfl, .inl h⟩
theorem endsL_tw (hD : DefOK D) (hi : i.size ≤ 100) (h : Tw i p q R R') (a : Inp) : TwR i p q (endsL D now R a) (endsL D now R' a) := by
  have hn : nodeL D R'.S a.node = nodeL D R.S a.node := by rw [h.s]; rfl
  unfold endsL
  rw [hn]
  cases nodeL D R.S a.node with
  | none => exact ⟨rfl, .inl h⟩
  | some r =>
    obtain ⟨n, x⟩ := r
    simp only []
    split
    · split
      · exact ⟨rfl, .inl h⟩
      · split
        · exact ⟨rfl, .inl h⟩
        · split
          · exact ⟨rfl, TwG.onL hD hi (.inl (h.happ _ (show (8 : Int) ≠ 1 by decide)))⟩
          · split
            · exact ⟨rfl, TwG.onL hD hi (.inl (h.happ _ (show (4 : Int) ≠ 1 by decide)))⟩
            · exact ⟨rfl, failL_tw h n x _⟩
    · exact ⟨rfl, .inl h⟩
theorem toldL_tw (hD : DefOK D) (hi : i.size ≤ 100) (h : Tw i p q R R') (a : Inp) : TwR i p q (toldL D now R a) (toldL D now R' a) := by
  have hn : nodeL D R'.S a.node = nodeL D R.S a.node := by rw [h.s]; rfl
  unfold toldL
  rw [hn]
  cases nodeL D R.S a.node with
  | none => exact ⟨rfl, .inl h⟩
  | some r =>
    obtain ⟨n, x⟩ := r
    simp only []
    split
    · split
      · exact ⟨rfl, .inl h⟩
      · split
        · exact ⟨rfl, TwG.onL hD hi (.inl (h.happ _ (show (10 : Int) ≠ 1 by decide)))⟩
        · exact ⟨rfl, (h.happ _ (show (6 : Int) ≠ 1 by decide)).cls _ _ (.inr (.inl rfl))⟩
    · exact ⟨rfl, .inl h⟩
theorem stepR_tw (hD : DefOK D) (hi : i.size ≤ 100) (h : Tw i p q R R') (a : Inp) (ha : a.kind ≠ 1) : TwR i p q (stepR D now R a) (stepR D now R' a) := by
  have hst : R'.S.status = R.S.status := by rw [h.s]
  unfold stepR
  rw [if_neg ha, if_neg ha, hst]
  split
  · exact ⟨rfl, .inl h⟩
  · split
    · exact ⟨rfl, .inl h⟩
    · split
      · exact signalL_tw hD hi h a
      · split
        · exact takeL_tw h a
        · split
          · exact endsL_tw hD hi h a
          · split
            · exact toldL_tw hD hi h a
            · split
              · split
                · exact ⟨rfl, .inl h⟩
                · exact ⟨rfl, h.cls _ _ (.inr (.inr rfl))⟩
              · exact ⟨rfl, .inl h⟩
end
theorem stepL_tw {D : Df} {S : Sta} {a : Inp} {i p q : ByteArray} (hD : DefOK D) (hi : i.size ≤ 100) (hid : S.id.size ≤ 100) (ha : a.kind ≠ 1) :
    (stepL D (tw i p q S) a).1 = (stepL D S a).1 ∧ (stepL D (tw i p q S) a).2.ev = (stepL D S a).2.ev ∧
    ((stepL D S a).1 = 0 → (stepL D (tw i p q S) a).2.S = tw i p q (stepL D S a).2.S) ∧ ((stepL D S a).2.S.status = 1 → (stepL D (tw i p q S) a).2.tk.length = (stepL D S a).2.tk.length) := by
  have h : TwR i p q (stepR D a.now ⟨S, [], []⟩ a) (stepR D a.now ⟨tw i p q S, [], []⟩ a) := by
    have hTw : Tw i p q ⟨S, [], []⟩ ⟨tw i p q S, [], []⟩ := ⟨rfl, rfl, rfl, hid⟩
    exact stepR_tw hD hi hTw a ha
  obtain ⟨h1, h2⟩ := h
  unfold stepL
  rw [h1]
  by_cases h0 : (stepR D a.now ⟨S, [], []⟩ a).1 = 0
  · rw [if_pos h0, if_pos h0]
    refine ⟨h1, ?_, fun _ => ?_, fun hs => ?_⟩
    · rcases h2 with h2 | h2
      · exact h2.ev
      · exact h2.2.1
    · rcases h2 with h2 | h2
      · exact h2.s
      · exact h2.1
    · rcases h2 with h2 | h2
      · exact h2.tk
      · exact absurd hs h2.2.2
  · rw [if_neg h0, if_neg h0]
    exact ⟨rfl, rfl, fun h => absurd h h0, fun _ => rfl⟩
theorem happ_SS {D : Df} {R R' : Rn} (h : R'.S = R.S) (e : Ev) : (happ D R' e).S = (happ D R e).S := by
  unfold happ
  simp only [h]
theorem cls_SS {D : Df} {R R' : Rn} (h : R'.S = R.S) (st : Int) (t : ByteArray) : (cls D R' st t).S = (cls D R st t).S := by
  rw [cls_nodes, cls_nodes]
  exact happ_SS h _
theorem bgn_SS {D : Df} {now : Int} {R R' : Rn} (h : R'.S = R.S) (n : Nd) : (bgn D now R' n).S = (bgn D now R n).S := by
  unfold bgn
  split
  · exact happ_SS h _
  · split
    · exact happ_SS h _
    · split
      · rw [h]
        split
        · exact cls_SS (happ_SS h _) _ _
        · exact happ_SS h _
      · split
        · rw [h]
          cases kI R.S.sigs n.arg with
          | none => exact happ_SS h _
          | some k => exact happ_SS h _
        · exact happ_SS h _
theorem onF_SS {D : Df} {now : Int} : ∀ (f : Nat) (R R' : Rn), R'.S = R.S → (onF D now f R').S = (onF D now f R).S
  | 0, R, R', h => h
  | f + 1, R, R', h => by
    simp only [onF]
    rw [h]
    by_cases h1 : R.S.status = 1
    · rw [if_pos h1, if_pos h1]
      cases hh : (rdy D R.S).head? with
      | none =>
        simp only []
        split
        · exact cls_SS h _ _
        · exact h
      | some k =>
        cases hn : D.nodes[k]? with
        | none => simpa [hn] using h
        | some n =>
          simp only [hn]
          exact onF_SS f _ _ (bgn_SS h n)
    · rw [if_neg h1, if_neg h1]
      exact h
theorem onL_S (D : Df) (now : Int) (R : Rn) : (onL D now R).S = (onL D now ⟨R.S, [], []⟩).S := onF_SS _ _ _ rfl
theorem stepL_tws {D : Df} {a b : Inp} (hD : DefOK D) (ha : a.kind = 1) (hb : b.kind = 1) (hia : a.name.size ≤ 100) (hib : b.name.size ≤ 100) (hn : a.now = b.now) :
    (stepL D sta0 a).1 = 0 ∧ (stepL D sta0 b).1 = 0 ∧ (stepL D sta0 b).2.S = tw b.name b.parent b.pnode (stepL D sta0 a).2.S := by
  have key : ∀ c : Inp, c.kind = 1 → stepL D sta0 c = (0, onL D c.now (startR D sta0 c)) := by
    intro c hc
    have hp : applyL D { sta0 with id := c.name } ⟨1, c.pnode, c.parent, 0⟩ = some (startS D sta0 c) := by
      unfold applyL applyQ
      rw [if_pos rfl, if_pos rfl]
      rfl
    have he : happ D { (⟨sta0, [], []⟩ : Rn) with S := { sta0 with id := c.name } } ⟨1, c.pnode, c.parent, 0⟩ = startR D sta0 c := by
      unfold happ
      rw [hp]
      rfl
    have : stepR D c.now ⟨sta0, [], []⟩ c = (0, onL D c.now (startR D sta0 c)) := by
      unfold stepR
      rw [if_pos hc, if_neg (by decide)]
      exact congrArg (fun R => (0, onL D c.now R)) he
    unfold stepL
    rw [this, if_pos rfl]
  rw [key a ha, key b hb]
  refine ⟨rfl, rfl, ?_⟩
  have hg : TwG b.name b.parent b.pnode ⟨(startR D sta0 a).S, [], []⟩ ⟨(startR D sta0 b).S, [], []⟩ := .inl ⟨rfl, rfl, rfl, hia⟩
  have hon := TwG.onL (D := D) (now := a.now) hD hib hg
  have hev : ∀ (R : Rn), (onL D a.now R).S = (onL D a.now ⟨R.S, [], []⟩).S := onL_S D a.now
  show (onL D b.now (startR D sta0 b)).S = _
  rw [← hn, hev (startR D sta0 b), hev (startR D sta0 a)]
  rcases hon with h | h
  · exact h.s
  · exact h.1
@[reducible] def bG : ByteArray := ⟨#[103, 47, 104]⟩
@[reducible] def bP : ByteArray := ⟨#[103]⟩
@[reducible] def bH : ByteArray := ⟨#[104]⟩
@[reducible] def inG : Inp := ⟨1, e0, bG, e0, 0, 0, 0, bP, bH⟩
theorem Good.tw {D : Df} {S : Sta} (h : Good D S) : Good D (tw bG bP bH S) := ⟨h.sn, h.sg, h.tx, by show bG.size ≤ 1000; decide, h.ln⟩
theorem Stp.idk {D : Df} {S : Sta} {a : Inp} {R : Rn} (h : Stp D S a R) (ha : a.kind ≠ 1) : R.S.id = S.id := by
  have h1 : S.status = 1 := by
    cases h with
    | start h0 ha' => exact absurd ha' ha
    | on h1 => exact h1
    | stop h1 => exact h1
    | kept h1 => exact h1
    | fail h1 => exact h1
    | cancel h1 => exact h1
  exact (h.fold h1).2
theorem Stp.ids {D : Df} {a : Inp} {R : Rn} (h : Stp D sta0 a R) : R.S.id = a.name := by
  cases h with
  | start h0 ha hp h => exact h.id
  | on h1 => exact absurd h1 (by decide)
  | stop h1 => exact absurd h1 (by decide)
  | kept h1 => exact absurd h1 (by decide)
  | fail h1 => exact absurd h1 (by decide)
  | cancel h1 => exact absurd h1 (by decide)
theorem stepL_id {D : Df} {S : Sta} {a : Inp} (hD : DefOK D) (hl : S.status = 1 → S.nodes.length = D.nodes.length) (ha : a.kind ≠ 1) (h0 : (stepL D S a).1 = 0) : (stepL D S a).2.S.id = S.id := (stepL_stp hD hl h0).idk ha
theorem stepL_ids {D : Df} {a : Inp} (hD : DefOK D) (h0 : (stepL D sta0 a).1 = 0) : (stepL D sta0 a).2.S.id = a.name := (stepL_stp hD (fun h => absurd h (by decide)) h0).ids
set_option maxRecDepth 100000 in
set_option maxHeartbeats 16000000 in
theorem twins11 (D : Df) (A : Option Addr) (cap : Nat) (iv : Value) (l : List Inp) (w : World) (hc : D.nodes.length ≤ cap) (hd0 : RDf (Vw w []) (.agg #[.string D.name, .slice A D.nodes.length cap]) D) (hT : Texts D)
    (hi : RSl (Vw w []) iv l.length (l.flatMap Inp.c)) (hI : InOK l) (hG : ∃ m, Vw w [] 0 0 (.int .i64 m)) :
    Ans 11 [.agg #[.string D.name, .slice A D.nodes.length cap], iv] w (.bool true) := by
  obtain ⟨Ai, ci, rfl, hin⟩ := hi.open inp_len
  have hd := cut_rdf hd0
  have hTc := hT.cut
  have hG1 : ∀ w1 : World, (∀ b o v, Vw w [] b o v → Vw w1 [] b o v) → ∃ m, Vw w1 [] 0 0 (.int .i64 m) := fun w1 g => by obtain ⟨m, hm⟩ := hG; exact ⟨m, g _ _ _ hm⟩
  refine enter0 Try.func11 rfl Try.ntmps11 rfl ?_
  (repeat first|(with_reducible first|apply Za|apply Zb|apply Zc|apply Zd|apply Zi|apply Zs)|((with_reducible apply ZJ);rfl;rfl)|((with_reducible apply Zra);rfl;rfl;(focus (repeat constructor));rfl)|((with_reducible apply Zrf);rfl;rfl;intro _))
  refine SK.callA rfl rfl (fun w1 g1 _ => cut15 D A cap hc hT.2.1 w1 (hd0.mono g1)) ?_
  unfold cutV at hd ⊢
  generalize cutD D = E at hd hTc ⊢
  have hname : ∀ nm, nm = D.name → RDf (Vw w []) (.agg #[.string nm, .slice A E.nodes.length cap]) E → nm = E.name := by
    intro nm _ h
    obtain ⟨A', cap', he, _⟩ := h.nds
    have := congrArg (fun v => match v with | .agg a => (match a[0]? with | some (Value.string s) => some s | _ => none) | _ => none) he
    simpa using this
  have hnm := hname D.name rfl hd
  rw [hnm] at hd ⊢
  (repeat first|(with_reducible first|apply Za|apply Zb|apply Zc|apply Zd|apply Zi|apply Zs)|((with_reducible apply Zra);rfl;rfl;(focus (repeat constructor));rfl)|((with_reducible apply Zrc);rfl;rfl;rfl;exact List.cons_ne_nil _ _;(first|rfl|(repeat first|exact plain_nil|(refine plain_cons (by first|rfl|exact OwnD.plain_val _ _) ?_)));(focus (repeat constructor));rfl))
  refine SK.callO rfl rfl (fun w1 g1 _ => taken16 _ E w1 (hd.mono g1) hTc) ?_
  rintro bb htk
  cases bb with
  | false =>
    (repeat first|(with_reducible first|apply Za|apply Zb|apply Zc|apply Zd|apply Zi|apply Zs)|((with_reducible apply ZP);rfl;rfl)|((with_reducible apply ZC);rfl))
    refine SK.callA rfl rfl (fun w1 g1 _ => wakes17 w1 (hG1 w1 g1)) ?_
    (repeat first|(with_reducible first|apply Zc|apply Zd|apply Zi|apply Zk|apply Zp|apply Zs)|((with_reducible apply ZJ);rfl;rfl))
    exact SK.retQ rfl (by (repeat constructor)) (fun w' hm' => ⟨(), trivial, rfl, hm'.wk (by (repeat constructor))⟩)
  | true =>
    have hDO : DefOK E := (htk rfl).ok (fun n hn => (hTc.2.2 n hn).2.2.2)
    have hst1 := fun dv sv w1 h1 h2 h3 => step20 dv sv E sta0 inW1 w1 hDO (good0 _) (by decide) h1 h2 h3
    have hst2 := fun dv sv w1 h1 h2 h3 => step20 dv sv E sta0 inG w1 hDO (good0 _) (by decide) h1 h2 h3
    obtain ⟨r1, r2, r3⟩ := stepL_tws (D := E) (a := inW1) (b := inG) hDO rfl rfl (by decide) (by decide) rfl
    have g0 := (stepL_aft (a := inW1) hDO (good0 E) (show bF.size ≤ 1000 by decide)).go
    have i0 := stepL_ids (a := inW1) hDO r1
    generalize stepL E sta0 inW1 = q1 at hst1 r1 r3 g0 i0
    generalize stepL E sta0 inG = q2 at hst2 r2 r3
    obtain ⟨f1, ⟨S0, ev1, tk1⟩⟩ := q1
    obtain ⟨f2, ⟨S0', ev2, tk2⟩⟩ := q2
    dsimp only at r1 r2 r3 g0 i0
    subst r1
    subst r2
    subst r3
    (repeat first|(with_reducible first|apply Za|apply Zb|apply Zc|apply Zd|apply Zi|apply Zo|apply Zs)|((with_reducible apply ZP);rfl;rfl)|((with_reducible apply Zqr);rfl;rfl;rfl)|((with_reducible apply Zra);rfl;rfl;(focus (repeat constructor));rfl)|((with_reducible apply ZD);rfl))
    refine SK.callO rfl rfl (fun w1 g1 _ => hst1 _ (stV sta0 (none, none)) w1 (hd.mono g1) (RSt.own ⟨rfl, rfl⟩ ⟨rfl, rfl⟩ (fun b cs hb => by cases hb) (fun b cs hb => by cases hb)) (by obtain ⟨m, hm⟩ := hG; exact ⟨m, g1 _ _ _ hm⟩)) ?_
    rintro ⟨⟨aN, aS⟩, aE, aT⟩ ⟨⟨haN, haS⟩, haE, haT⟩
    dsimp only at haN haS haE haT ⊢
    (repeat first|(with_reducible first|apply Za|apply Zb|apply Zc|apply Zd|apply Zi|apply Zs)|((with_reducible first|apply ZI|apply ZJ);rfl;rfl)|((with_reducible first|apply Zqn|apply Zqr);rfl;rfl;rfl)|((with_reducible apply Zra);rfl;rfl;(focus (repeat constructor));rfl)|((with_reducible apply Zrc);rfl;rfl;rfl;exact List.cons_ne_nil _ _;(first|rfl|(repeat first|exact plain_nil|(refine plain_cons (by first|rfl|exact OwnD.plain_val _ _) ?_)));(focus (repeat constructor));rfl)|((with_reducible apply Zrg);rfl;intro _))
    rename_i b2 b6
    refine SK.callO rfl rfl (fun w1 g1 _ => hst2 _ (stV sta0 (none, none)) w1 (hd.mono g1) (RSt.own ⟨rfl, rfl⟩ ⟨rfl, rfl⟩ (fun b cs hb => by cases hb) (fun b cs hb => by cases hb)) (by obtain ⟨m, hm⟩ := hG; exact ⟨m, g1 _ _ _ hm⟩)) ?_
    rintro ⟨⟨cN, cS⟩, cE, cT⟩ ⟨⟨hcN, hcS⟩, hcE, hcT⟩
    dsimp only at hcN hcS hcE hcT ⊢
    (repeat ((fail_if_success (with_reducible refine SK.atS 8 ?_)); first|(with_reducible first|apply Za|apply Zb|apply Zc|apply Zd|apply Zi|apply Zo|apply Zs)|((with_reducible first|apply ZI|apply ZJ|apply ZO);rfl;rfl)|((with_reducible apply Zqd);rfl;rfl;rfl;omega)|((with_reducible apply Zqn);rfl;rfl;rfl)|((with_reducible apply Zqs);rfl;rfl;rfl)|((with_reducible apply Zrc);rfl;rfl;rfl;exact List.cons_ne_nil _ _;(first|rfl|(repeat first|exact plain_nil|(refine plain_cons (by first|rfl|exact OwnD.plain_val _ _) ?_)));(focus (repeat constructor));rfl)|((with_reducible apply Zrg);rfl;intro _)|((with_reducible apply ZD);rfl)))
    rename_i b10
    refine SK.seqJ (fun _ : Sta × (OwnD × OwnD) × (OwnD × OwnD) => [(2, .pointer (some ⟨b2, 0, none⟩)), (6, .pointer (some ⟨b6, 0, none⟩)), (10, .pointer (some ⟨b10, 0, none⟩))])
      (fun g => some (b2, [.string E.name, .slice A E.nodes.length cap], 24) :: some (b6, g.1.c (g.2.1.1.val g.1.nodes.length) (g.2.1.2.val g.1.sigs.length), 33) :: some (b10, (tw bG bP bH g.1).c (g.2.2.1.val g.1.nodes.length) (g.2.2.2.val g.1.sigs.length), 33) :: (stM g.1 g.2.1 ++ stM g.1 g.2.2))
      (fun g => Good E g.1 ∧ OSt g.1 g.2.1 ∧ OSt g.1 g.2.2) ?_ ?_
    · (repeat first|(with_reducible first|apply Za|apply Zb|apply Zc|apply Zd|apply Zi|apply Zr)|((with_reducible apply ZJ);rfl;rfl))
      refine SK.loopW (fun g : Nat × Sta × (OwnD × OwnD) × (OwnD × OwnD) => [(13, .int .i64 (g.1 : Int)), (1, .slice Ai l.length ci), (2, .pointer (some ⟨b2, 0, none⟩)), (6, .pointer (some ⟨b6, 0, none⟩)), (10, .pointer (some ⟨b10, 0, none⟩))])
        (fun g => some (b2, [.string E.name, .slice A E.nodes.length cap], 24) :: some (b6, g.2.1.c (g.2.2.1.1.val g.2.1.nodes.length) (g.2.2.1.2.val g.2.1.sigs.length), 33) :: some (b10, (tw bG bP bH g.2.1).c (g.2.2.2.1.val g.2.1.nodes.length) (g.2.2.2.2.val g.2.1.sigs.length), 33) :: (stM g.2.1 g.2.2.1 ++ stM g.2.1 g.2.2.2))
        (fun g => g.1 ≤ l.length ∧ g.1 ≤ 40 ∧ Good E g.2.1 ∧ OSt g.2.1 g.2.2.1 ∧ OSt g.2.1 g.2.2.2 ∧ g.2.1.id.size ≤ 100) (fun g => l.length - g.1) (0, S0, (aN, aS), (cN, cS))
        ⟨Nat.zero_le _, Nat.zero_le _, g0, ⟨haN, haS⟩, ⟨hcN, hcS⟩, by rw [i0]; decide⟩ (by (repeat constructor)) (by (repeat constructor)) ?_
      rintro ⟨i, S, ⟨zN, zS⟩, ⟨uN, uS⟩⟩ ⟨hil, hi40, hgo, ⟨hzN, hzS⟩, ⟨huN, huS⟩, hid⟩
      dsimp only at hil hi40 hgo hzN hzS huN huS hid ⊢
      by_cases hlt : i < l.length
      · by_cases h40 : i < 40
        · obtain ⟨a0, ha0⟩ : ∃ a, l[i]? = some a := ⟨_, List.getElem?_eq_getElem hlt⟩
          obtain ⟨bi, oi, rfl, hcell⟩ := hin i a0 ha0 (by omega)
          obtain ⟨t1, t2⟩ := hI.2 a0 (List.mem_of_getElem? ha0)
          have hna : (clipI a0).name.size ≤ 1000 := by have := clipS_size a0.name; show (clipS a0.name).size ≤ 1000; omega
          (repeat first|(with_reducible first|apply Za|apply Zb|apply Zc|apply Zd|apply Zi|apply Zo|apply Zr)|((with_reducible refine Yz ?_);first|((with_reducible apply SK.indexAddr); rfl; rfl; rfl; exact hlt)|((with_reducible apply SK.loadAR); rfl; rfl; exact hcell; rfl)|((with_reducible first|apply ZI|apply ZM|apply ZO);rfl;rfl)|((with_reducible apply ZS);rfl;rfl;rfl;omega)|((with_reducible apply Zqo);rfl;rfl;rfl))|((with_reducible apply ZC);rfl))
          refine SK.callA rfl rfl (fun w1 _ _ => clip19 a0 w1 t1 t2) ?_
          generalize clipI a0 = a at hna ⊢
          by_cases hk1 : a.kind = 1
          · (repeat first|(with_reducible first|apply Za|apply Zb|apply Zc|apply Zd|apply Zi|apply Zj|apply Zn|apply Zq|apply Zs)|((with_reducible first|apply ZI|apply ZJ|apply ZK);rfl;rfl)|((with_reducible first|apply ZR|apply ZW);rfl;rfl;rfl;omega)|((with_reducible apply Zqz);rfl;rfl;(focus (repeat constructor));rfl)|((with_reducible apply Zrc);rfl;rfl;rfl;exact List.cons_ne_nil _ _;(first|rfl|(repeat first|exact plain_nil|(refine plain_cons (by first|rfl|exact OwnD.plain_val _ _) ?_)));(focus (repeat constructor));rfl)|((with_reducible apply Zrg);rfl;intro _)|((with_reducible apply ZC);rfl))
            exact SK.roundW (i + 1, S, (zN, zS), (uN, uS)) ⟨by omega, by omega, hgo, ⟨hzN, hzS⟩, ⟨huN, huS⟩, hid⟩ (by dsimp only; omega) (by (repeat constructor)) (by (repeat constructor))
          · have hs1 := fun dv sv w1 h1 h2 h3 => step20 dv sv E S a w1 hDO hgo hna h1 h2 h3
            have hs2 := fun dv sv w1 h1 h2 h3 => step20 dv sv E (tw bG bP bH S) a w1 hDO hgo.tw hna h1 h2 h3
            obtain ⟨k1, k2, k3, k4⟩ := stepL_tw (D := E) (S := S) (a := a) (i := bG) (p := bP) (q := bH) hDO (by decide) hid hk1
            have hA := stepL_aft hDO hgo hna
            have hid2 := stepL_id hDO hgo.ln hk1
            generalize stepL E S a = r at hs1 k1 k2 k3 k4 hA hid2
            generalize stepL E (tw bG bP bH S) a = r' at hs2 k1 k2 k3 k4
            obtain ⟨e, ⟨T, ev, tk⟩⟩ := r
            obtain ⟨e', ⟨T', ev', tk'⟩⟩ := r'
            dsimp only at k1 k2 k3 k4 hA hid2
            subst k1
            subst k2
            obtain ⟨hA1, hA2, hA3⟩ := hA
            dsimp only at hA1 hA2 hA3
            (repeat first|(with_reducible first|apply Za|apply Zb|apply Zc|apply Zd|apply Zi|apply Zo|apply Zs)|((with_reducible apply ZK);rfl;rfl)|((with_reducible apply Zqc);rfl;rfl;rfl;omega)|((with_reducible first|apply Zqz|apply Zra);rfl;rfl;(focus (repeat constructor));rfl)|((with_reducible apply Zrc);rfl;rfl;rfl;exact List.cons_ne_nil _ _;(first|rfl|(repeat first|exact plain_nil|(refine plain_cons (by first|rfl|exact OwnD.plain_val _ _) ?_)));(focus (repeat constructor));rfl)|((with_reducible apply Zrg);rfl;intro _)|((with_reducible apply ZD);rfl))
            rename_i b14
            refine SK.callO rfl rfl (fun w1 g1 g2 => hs1 _ (stV S (zN, zS)) w1 (hd.mono g1) (RSt.own hzN hzS (fun b cs hb j u hu => g2 b cs _ (by rw [← hb]; (repeat constructor)) j u hu) (fun b cs hb j u hu => g2 b cs _ (by rw [← hb]; (repeat constructor)) j u hu)) (by obtain ⟨m, hm⟩ := hG; exact ⟨m, g1 _ _ _ hm⟩)) ?_
            rintro ⟨⟨pN, pS⟩, pE, pT⟩ ⟨⟨hpN, hpS⟩, hpE, hpT⟩
            dsimp only at hpN hpS hpE hpT ⊢
            (repeat first|(with_reducible first|apply Za|apply Zb|apply Zc|apply Zd|apply Zi|apply Zs)|((with_reducible first|apply ZI|apply ZJ);rfl;rfl)|((with_reducible apply Zqn);rfl;rfl;rfl)|((with_reducible apply Zra);rfl;rfl;(focus (repeat constructor));rfl)|((with_reducible apply Zrc);rfl;rfl;rfl;exact List.cons_ne_nil _ _;(first|rfl|(repeat first|exact plain_nil|(refine plain_cons (by first|rfl|exact OwnD.plain_val _ _) ?_)));(focus (repeat constructor));rfl)|((with_reducible apply Zrg);rfl;intro _))
            rename_i b16
            refine SK.callO rfl rfl (fun w1 g1 g2 => hs2 _ (stV (tw bG bP bH S) (uN, uS)) w1 (hd.mono g1) (RSt.own (S := tw bG bP bH S) huN huS (fun b cs hb j u hu => g2 b cs _ (by rw [← hb]; (repeat constructor)) j u hu) (fun b cs hb j u hu => g2 b cs _ (by rw [← hb]; (repeat constructor)) j u hu)) (by obtain ⟨m, hm⟩ := hG; exact ⟨m, g1 _ _ _ hm⟩)) ?_
            rintro ⟨⟨qN, qS⟩, qE, qT⟩ ⟨⟨hqN, hqS⟩, hqE, hqT⟩
            dsimp only at hqN hqS hqE hqT ⊢
            (repeat ((fail_if_success (with_reducible refine SK.atS 15 ?_)); first|(with_reducible first|apply Zc|apply Zd|apply Zi|apply Zs)|((with_reducible first|apply ZI|apply ZJ);rfl;rfl)|((with_reducible apply Zqn);rfl;rfl;rfl)|((with_reducible apply Zrc);rfl;rfl;rfl;exact List.cons_ne_nil _ _;(first|rfl|(repeat first|exact plain_nil|(refine plain_cons (by first|rfl|exact OwnD.plain_val _ _) ?_)));(focus (repeat constructor));rfl)|((with_reducible apply Zrg);rfl;intro _)))
            rename_i b20
            obtain ⟨A1, c1, hv1⟩ := val_sl hpT
            obtain ⟨A2, c2, hv2⟩ := val_sl hqT
            refine SK.slot (j := 17) rfl hv1 ?_
            refine SK.slot (j := 21) rfl hv2 ?_
            refine SK.seqJ (fun _ : Unit => [(18, .int .i64 e'), (16, .pointer (some ⟨b16, 0, none⟩)), (20, .pointer (some ⟨b20, 0, none⟩)), (13, .int .i64 (i : Int)), (1, .slice (some ⟨bi, oi, none⟩) l.length ci), (2, .pointer (some ⟨b2, 0, none⟩)), (6, .pointer (some ⟨b6, 0, none⟩)), (10, .pointer (some ⟨b10, 0, none⟩))])
              (fun _ => some (b16, T.c (pN.val T.nodes.length) (pS.val T.sigs.length), 33) :: some (b20, T'.c (qN.val T'.nodes.length) (qS.val T'.sigs.length), 33) :: (stM T (pN, pS) ++ (stM T' (qN, qS) ++ (some (b2, [.string E.name, .slice A E.nodes.length cap], 24) :: some (b6, S.c (zN.val S.nodes.length) (zS.val S.sigs.length), 33) :: some (b10, (tw bG bP bH S).c (uN.val S.nodes.length) (uS.val S.sigs.length), 33) :: (stM S (zN, zS) ++ stM S (uN, uS)))))) (fun _ => True) ?_ ?_
            · by_cases hs1 : T.status = 1
              · have k4 := k4 hs1
                (repeat first|(with_reducible first|apply Za|apply Zb|apply Zc)|((with_reducible first|apply ZI|apply ZO);rfl;rfl)|((with_reducible apply Zqd);rfl;rfl;rfl;omega))
                refine SK.callA rfl rfl (fun w1 _ g2 => events23 _ _ ev' w1 (RSl.own pE hpE (fun b cs hb j u hu => g2 b cs _ (by rw [← hb]; (repeat constructor)) j u hu)) (RSl.own qE hqE (fun b cs hb j u hu => g2 b cs _ (by rw [← hb]; (repeat constructor)) j u hu)) (by omega)) ?_
                (repeat first|(with_reducible first|apply Zc|apply Zd|apply Zi|apply Zo|apply Zs)|((with_reducible first|apply ZI|apply ZK|apply ZM|apply ZO);rfl;rfl)|((with_reducible apply ZP);rfl;rfl)|((with_reducible apply ZW);rfl;rfl;rfl;omega)|((with_reducible apply Zqd);rfl;rfl;rfl;omega)|((with_reducible apply Zqo);rfl;rfl;rfl)|((with_reducible apply Zqs);rfl;rfl;rfl)|((with_reducible apply Zqz);rfl;rfl;(focus (repeat constructor));rfl)|((with_reducible apply ZD);rfl))
                exact SK.jumped () trivial (by (repeat constructor)) (by (repeat constructor))
              · (repeat first|(with_reducible first|apply Za|apply Zb|apply Zc)|((with_reducible first|apply ZI|apply ZO);rfl;rfl)|((with_reducible apply Zqd);rfl;rfl;rfl;omega))
                refine SK.callA rfl rfl (fun w1 _ g2 => events23 _ _ ev' w1 (RSl.own pE hpE (fun b cs hb j u hu => g2 b cs _ (by rw [← hb]; (repeat constructor)) j u hu)) (RSl.own qE hqE (fun b cs hb j u hu => g2 b cs _ (by rw [← hb]; (repeat constructor)) j u hu)) (by omega)) ?_
                (repeat first|(with_reducible first|apply Zc|apply Zd|apply Zi|apply Zo|apply Zs)|((with_reducible first|apply ZI|apply ZK|apply ZO);rfl;rfl)|((with_reducible apply ZP);rfl;rfl)|((with_reducible apply Zqc);rfl;rfl;rfl;omega)|((with_reducible apply Zqs);rfl;rfl;rfl)|((with_reducible apply Zqx);rfl;rfl;rfl;rfl)|((with_reducible apply Zqz);rfl;rfl;(focus (repeat constructor));rfl)|((with_reducible apply ZD);rfl))
                exact SK.jumped () trivial (by (repeat constructor)) (by (repeat constructor))
            rintro _ _
            have s1 := hgo.sn
            have s2 := hgo.sg
            by_cases h0 : e' = 0
            · subst h0
              have k3 := k3 rfl
              subst k3
              have i2 := hid2 rfl
              have a1 := hA1.sn
              have a2 := hA1.sg
              (repeat first|(with_reducible first|apply Za|apply Zb|apply Zc|apply Zd|apply Ze|apply Zi|apply Zs)|((with_reducible first|apply ZI|apply ZK);rfl;rfl)|((with_reducible apply ZW);rfl;rfl;rfl;omega)|((with_reducible first|apply Zqz|apply Zra);rfl;rfl;(focus (repeat constructor));rfl)|((with_reducible apply Zrb);rfl;rfl;(first|rfl|exact OwnD.plain_val _ _);(focus (repeat constructor));rfl)|((with_reducible apply Zrc);rfl;rfl;rfl;exact List.cons_ne_nil _ _;(first|rfl|(repeat first|exact plain_nil|(refine plain_cons (by first|rfl|exact OwnD.plain_val _ _) ?_)));(focus (repeat constructor));rfl)|((with_reducible apply Zrg);rfl;intro _)|((with_reducible first|apply Zz|apply ZC);rfl)|((with_reducible apply ZE);rfl;infer_instance;rfl;(focus (repeat constructor));rfl;rfl)|((with_reducible apply ZF);rfl;infer_instance;rfl;(focus (repeat constructor));rfl;rfl)|refine Yi 18 i11_18 (by kernel_rfl) ?_|refine Yi 20 i11_20 (by kernel_rfl) ?_)
              refine SK.callA rfl rfl (fun w1 _ g2 => state24 (stV T (pN, pS)) (stV T (qN, qS)) T w1 (RSt.own hpN hpS (fun b cs hb j u hu => g2 b cs _ (by rw [← hb]; (repeat constructor)) j u hu) (fun b cs hb j u hu => g2 b cs _ (by rw [← hb]; (repeat constructor)) j u hu)) (RSt.own (S := T) hqN hqS (fun b cs hb j u hu => g2 b cs _ (by rw [← hb]; (repeat constructor)) j u hu) (fun b cs hb j u hu => g2 b cs _ (by rw [← hb]; (repeat constructor)) j u hu)) (by omega) (by omega)) ?_
              (repeat first|(with_reducible first|apply Zb|apply Zc|apply Zd|apply Zi|apply Zl|apply Zo|apply Zs)|((with_reducible first|apply ZI|apply ZJ);rfl;rfl)|((with_reducible apply ZP);rfl;rfl)|((with_reducible apply ZR);rfl;rfl;rfl;omega)|((with_reducible apply ZD);rfl))
              exact SK.roundW (i + 1, T, (pN, pS), (qN, qS)) ⟨by omega, by omega, hA1, ⟨hpN, hpS⟩, ⟨hqN, hqS⟩, by dsimp only; rw [i2]; exact hid⟩ (by dsimp only; omega) (by (repeat constructor)) (by (repeat constructor))
            · have h0' : e' ≠ 0 := h0
              (repeat first|(with_reducible first|apply Za|apply Zb|apply Zc|apply Zd|apply Ze|apply Zi|apply Zo|apply Zs)|((with_reducible first|apply ZI|apply ZK);rfl;rfl)|((with_reducible apply Zqc);rfl;rfl;rfl;omega)|((with_reducible first|apply Zqz|apply Zra);rfl;rfl;(focus (repeat constructor));rfl)|((with_reducible apply Zrb);rfl;rfl;(first|rfl|exact OwnD.plain_val _ _);(focus (repeat constructor));rfl)|((with_reducible apply Zrc);rfl;rfl;rfl;exact List.cons_ne_nil _ _;(first|rfl|(repeat first|exact plain_nil|(refine plain_cons (by first|rfl|exact OwnD.plain_val _ _) ?_)));(focus (repeat constructor));rfl)|((with_reducible apply Zrg);rfl;intro _)|((with_reducible apply Zz);rfl)|((with_reducible apply ZD);rfl)|((with_reducible apply ZE);rfl;infer_instance;rfl;(focus (repeat constructor));rfl;rfl)|refine Yi 20 i11_20 (by kernel_rfl) ?_)
              refine SK.callA rfl rfl (fun w1 _ g2 => state24 (stV S (zN, zS)) (stV S (uN, uS)) S w1 (RSt.own hzN hzS (fun b cs hb j u hu => g2 b cs _ (by rw [← hb]; (repeat constructor)) j u hu) (fun b cs hb j u hu => g2 b cs _ (by rw [← hb]; (repeat constructor)) j u hu)) (RSt.own (S := S) huN huS (fun b cs hb j u hu => g2 b cs _ (by rw [← hb]; (repeat constructor)) j u hu) (fun b cs hb j u hu => g2 b cs _ (by rw [← hb]; (repeat constructor)) j u hu)) (by omega) (by omega)) ?_
              (repeat first|(with_reducible first|apply Zb|apply Zc|apply Zd|apply Zi|apply Zl|apply Zo|apply Zs)|((with_reducible first|apply ZI|apply ZJ);rfl;rfl)|((with_reducible apply ZP);rfl;rfl)|((with_reducible apply ZR);rfl;rfl;rfl;omega)|((with_reducible apply ZD);rfl))
              exact SK.roundW (i + 1, S, (zN, zS), (uN, uS)) ⟨by omega, by omega, hgo, ⟨hzN, hzS⟩, ⟨huN, huS⟩, hid⟩ (by dsimp only; omega) (by (repeat constructor)) (by (repeat constructor))
        · (repeat first|(with_reducible first|apply Za|apply Zb|apply Zc|apply Zd|apply Zi|apply Zj|apply Zn|apply Zq)|((with_reducible first|apply ZI|apply ZM|apply ZO);rfl;rfl)|((with_reducible apply ZS);rfl;rfl;rfl;omega)|((with_reducible apply ZY);rfl;rfl;rfl;omega)|((with_reducible apply Zqo);rfl;rfl;rfl)|((with_reducible apply ZD);rfl))
          exact SK.jumped (S, (zN, zS), (uN, uS)) ⟨hgo, ⟨hzN, hzS⟩, ⟨huN, huS⟩⟩ (by (repeat constructor)) (by (repeat constructor))
      · (repeat first|(with_reducible first|apply Za|apply Zb|apply Zc|apply Zd|apply Zi|apply Zj|apply Zn|apply Zq)|((with_reducible first|apply ZI|apply ZM);rfl;rfl)|((with_reducible apply ZY);rfl;rfl;rfl;omega)|((with_reducible apply Zqs);rfl;rfl;rfl)|((with_reducible apply Zqx);rfl;rfl;rfl;rfl)|((with_reducible apply ZD);rfl))
        exact SK.jumped (S, (zN, zS), (uN, uS)) ⟨hgo, ⟨hzN, hzS⟩, ⟨huN, huS⟩⟩ (by (repeat constructor)) (by (repeat constructor))
    rintro ⟨S, ⟨zN, zS⟩, ⟨uN, uS⟩⟩ ⟨hgo, ⟨hzN, hzS⟩, ⟨huN, huS⟩⟩
    dsimp only at hgo hzN hzS huN huS ⊢
    have hsn := hgo.sn
    have hov := ovr_le S S.nodes.length
    (repeat first|(with_reducible first|apply Za|apply Zb|apply Zc)|((with_reducible apply Zra);rfl;rfl;(focus (repeat constructor));rfl))
    refine SK.callA rfl rfl (fun w1 _ g2 => count25 (stV S (zN, zS)) S w1 (RSt.own hzN hzS (fun b cs hb j u hu => g2 b cs _ (by rw [← hb]; (repeat constructor)) j u hu) (fun b cs hb j u hu => g2 b cs _ (by rw [← hb]; (repeat constructor)) j u hu)) hsn) ?_
    (repeat first|(with_reducible first|apply Za|apply Zb|apply Zc|apply Zd|apply Zi|apply Zs)|((with_reducible first|apply ZI|apply ZJ);rfl;rfl)|((with_reducible apply Zqn);rfl;rfl;rfl)|((with_reducible apply Zra);rfl;rfl;(focus (repeat constructor));rfl))
    refine SK.callA rfl rfl (fun w1 _ g2 => count26 (stV (tw bG bP bH S) (uN, uS)) (tw bG bP bH S) w1 (RSt.own (S := tw bG bP bH S) huN huS (fun b cs hb j u hu => g2 b cs _ (by rw [← hb]; (repeat constructor)) j u hu) (fun b cs hb j u hu => g2 b cs _ (by rw [← hb]; (repeat constructor)) j u hu)) hsn) ?_
    have e1 : (FloatKind.f64.format.order (cF (ovr (tw bG bP bH S) (tw bG bP bH S).nodes.length)) (floatOfInt .f64 (ovr S S.nodes.length : Int)) == some .eq) = true := cF_near (n := ovr S S.nodes.length) (by omega)
    have e2 : (FloatKind.f64.format.order (cF ((tw bG bP bH S).nodes.length - ovr (tw bG bP bH S) (tw bG bP bH S).nodes.length)) (floatOfInt .f64 ((S.nodes.length - ovr S S.nodes.length : Nat) : Int)) == some .eq) = true := cF_near (n := S.nodes.length - ovr S S.nodes.length) (by omega)
    (repeat first|(with_reducible first|apply Za|apply Zb|apply Zc|apply Zd|apply Zi|apply Zs)|((with_reducible refine Yz ?_);first|((with_reducible apply SK.real); rfl; rfl)|((with_reducible apply SK.convF); rfl; rfl; exact und3; exact und77)|((with_reducible first|apply ZI|apply ZJ);rfl;rfl)))
    refine SK.eqF rfl rfl rfl ?_
    rw [e1]
    (repeat first|(with_reducible apply Zc)|((with_reducible refine Yz ?_);first|((with_reducible apply SK.imag); rfl; rfl)|((with_reducible apply SK.convF); rfl; rfl; exact und3; exact und77)|((with_reducible first|apply ZI|apply ZO);rfl;rfl)))
    refine SK.eqF rfl rfl rfl ?_
    rw [e2]
    (repeat first|(with_reducible apply Zc)|((with_reducible first|apply ZI|apply ZO);rfl;rfl)|((with_reducible apply Zqo);rfl;rfl;rfl))
    refine SK.callA rfl rfl (fun w1 g1 _ => wakes17 w1 (hG1 w1 g1)) ?_
    (repeat first|(with_reducible first|apply Zc|apply Zd|apply Zi|apply Zp|apply Zs)|((with_reducible apply ZJ);rfl;rfl)|((with_reducible apply Zqo);rfl;rfl;rfl))
    exact SK.retQ rfl (by (repeat constructor)) (fun w' hm' => ⟨(), trivial, rfl, hm'.wk (by (repeat constructor))⟩)
open Go.ChangeShapes Go.WideShapes Go.ChangeAt Go.RowKit
set_option maxRecDepth 100000 in
set_option maxHeartbeats 4000000 in
theorem historyTwins_lifted (os : Os) (started : os.Started) (H : Type) (enc : TypeId × Value → H) :
    ReturnsInHanded {} Try.checked os 11 .any (Rows.historyTwinsSpec.pre6 enc Try.prog Try.f11 Rows.historyTwinsRow.domain false) (Rows.historyTwinsSpec.post enc Try.prog Try.f11 false true false false) := by
  refine returnsInHanded_of_change_shaped (C := Try.checked) Try.own started (by kernel_rfl) Try.func11
    (ChangeSpec.witness6 (enc := enc) (C := Try.checked) false ⟨#[], #[.agg #[.string ⟨#[]⟩, .slice none 0 0], .slice none 0 0], []⟩ 8 (by kernel_rfl) (by kernel_rfl) (by kernel_rfl) (by kernel_rfl)) ?_
  intro W base args ds gs before hval0 hW hcnd0 hsz0 hsh _
  have hsz : (DataW.weightsEach Try.prog (Try.f11.params.toList ++ Rows.historyTwinsSpec.plain.varTypes Try.prog) (ds ++ gs)).all (· ≤ reachBytes) = true := hsz0
  have hval : ∀ (j : Nat) t v, Try.f11.params[j]? = some t → args[j]? = some v → Value.okWide Try.prog W .any base t v := hval0
  have hW' := hW
  obtain ⟨p, q, hA0, hV, rfl, hfz, hnd⟩ := hW
  have hA : DataW.TrodAll enc Try.prog W 0 (fun _ => true) true Try.f11.params.toList args.toList ds p := hA0
  rw [Try.params11] at hA hval hsz
  obtain ⟨v0, v1, d0, d1, p0, p1, rfl, rfl, rfl, h0, h1⟩ := trodAll_two hA
  obtain ⟨rfl, rfl⟩ := trodVars_none hV
  have hlt := hW'.lt
  have hw0 : ∀ n ∈ d0.weights Try.prog 24, n ≤ reachBytes := fun n hn => by
    have := List.all_eq_true.1 hsz n (DataW.weights_mem_each (j := 0) rfl rfl n hn)
    simpa using this
  have hw1 : ∀ n ∈ d1.weights Try.prog 25, n ≤ reachBytes := fun n hn => by
    have := List.all_eq_true.1 hsz n (DataW.weights_mem_each (j := 1) rfl rfl n hn)
    simpa using this
  have hR : reachBytes < 9223372036854775807 := by decide
  obtain ⟨f0, t0⟩ := id h0
  have ok0 := hval 0 24 v0 rfl rfl
  unfold Value.okWide at ok0
  rw [Try.underlying24] at ok0
  obtain ⟨cs0, rfl, _, _⟩ := ok0
  obtain ⟨D, A, cap, e0, hcap, hrd, hT⟩ := open24 t0 hw0 hR
  have e0' : cs0 = #[.string D.name, .slice A D.nodes.length cap] := Array.ext' e0
  subst e0'
  obtain ⟨f1, t1⟩ := id h1
  obtain ⟨a1, len1, cap1, rfl⟩ := okWide_slice Try.underlying25 (hval 1 25 v1 rfl rfl)
  obtain ⟨c1, l1, e1, hrl1, hI1⟩ := open25 t1 hw1 hR
  have e1' : c1 = .slice a1 len1 cap1 := by
    have : ([Value.slice a1 len1 cap1] : List Value) = [c1] := e1
    exact (List.cons.inj this).1.symm
  subst e1'
  obtain ⟨m, hm⟩ := Try.laysM144.s1_3 W hsh
  have hrun := twins11 D A cap _ l1 W hcap (hrd.mono fun b o v h => Cw.vw h) hT (hrl1.mono fun b o v h => Cw.vw h) hI1 ⟨m, Cw.vw hm⟩
  refine Calls.mono hrun fun e W' ⟨_, _, he, hmem⟩ => ?_
  have hb := Mem.below hmem
  subst he
  have r0 := Below.trod Try.laidOut (ty_ok 24 (by kernel_rfl) (by kernel_rfl)).1 (ty_ok 24 (by kernel_rfl) (by kernel_rfl)).2 h0 hb (fun x hx => hlt x (by simp [hx]))
  have r1 := Below.trod Try.laidOut (ty_ok 25 (by kernel_rfl) (by kernel_rfl)).1 (ty_ok 25 (by kernel_rfl) (by kernel_rfl)).2 h1 hb (fun x hx => hlt x (by simp [hx]))
  exact ⟨_, rfl, ⟨_, _, _, [], _, [], hW', trodAll_mk1 (shut_bool Try.underlying4 _), trodAll_mk2 r0 r1, rfl, hb.frame _, fun h => by cases h⟩⟩
theorem HistoryTwins_holds : Rows.HistoryTwinsSaid :=
  OpenClaim.holds_of_wide 11 Try.f11 rfl rfl rfl rfl rfl rfl rfl ⟨rfl, rfl, rfl, rfl, rfl⟩ rfl rfl rfl rfl rfl (by kernel_rfl) Try.func11 (by kernel_rfl)
    (of_decide_eq_true (by kernel_rfl)) (by unfold Func.isWrapper; rw [if_neg (of_decide_eq_false (by kernel_rfl))]; exact ⟨rfl, rfl⟩)
    (fun os started H enc _ => historyTwins_lifted os started H enc)
#print axioms HistoryTwins_holds
end Go.Proofs.Ytdnjfmgldkommaa
