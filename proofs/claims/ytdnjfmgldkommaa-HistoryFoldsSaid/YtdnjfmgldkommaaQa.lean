/- Proved here: a step, move by move, and what every step keeps. -/
import Derived.Test.YtdnjfmgldkommaaWc
import Derived.Test.YtdnjfmgldkommaaRf
import Derived.Test.YtdnjfmgldkommaaCa
import Derived.Test.YtdnjfmgldkommaaLa
namespace Go.Sx
section
variable {P : Program} {w0 : World} {Mod : List Nat} {n : Nat} {F : FL} {M : ML} {Q : Exit → Act → World → Prop}
theorem SK.seqJ {α : Type} {x y : Code} (Fi : α → FL) (Mi : α → ML) (p : α → Prop) (h1 : SK w0 Mod n (x.wp P (Exit.then (Jumped w0 Mod n Fi Mi p) Q)) F M)
    (h2 : ∀ g, p g → SK w0 Mod n (y.wp P Q) (Fi g) (Mi g)) : SK w0 Mod n ((Code.seq x y).wp P Q) F M :=
  SK.seqW _ h1 fun a w ⟨g, hp, hf, hm⟩ => h2 g hp a w hf hm
theorem SK.jumped {α : Type} {Fi : α → FL} {Mi : α → ML} {p : α → Prop} (g : α) (hp : p g) (hF : Sub (Fi g) F) (hM : Wk M (Mi g)) : SK w0 Mod n (Jumped w0 Mod n Fi Mi p) F M :=
  fun _ _ hf hm => ⟨g, hp, hf.sub hF, hm.wk hM⟩
theorem SK.atB (id : Nat) {x y : Code} (h : SK w0 Mod n ((Code.seq (Code.block id x) y).wp P Q) F M) : SK w0 Mod n ((Code.seq (Code.block id x) y).wp P Q) F M := h
theorem SK.atS (id : Nat) {ops : Array Oper} {b : Bool} {y z : Code} (h : SK w0 Mod n ((Code.seq (Code.seq (Code.region id ops b) y) z).wp P Q) F M) : SK w0 Mod n ((Code.seq (Code.seq (Code.region id ops b) y) z).wp P Q) F M := h
end
end Go.Sx
namespace Go.Proofs.Ytdnjfmgldkommaa
open Go.Sx
abbrev W64 (a : Int) : Int := IntKind.i64.wrap a
def mv (R : Rn) (i : Nat) (y : Ns) (g : List Sg) (e : Ev) (ts : List Tk) : Rn :=
  ⟨{ R.S with nodes := R.S.nodes.set i y, sigs := g, events := W64 (R.S.events + 1) }, R.ev ++ [e], R.tk ++ ts⟩
inductive Bm (now : Int) (S : Sta) (n : Nd) (x : Ns) : Ns → List Sg → Ev → List Tk → Prop
  | sched (k : n.kind = 1) : Bm now S n x { x with st := 1 } S.sigs ⟨2, n.name, e0, 0⟩ [⟨1, S.id, n.name, 1, 0, ml0⟩]
  | timer (k : n.kind = 2) : Bm now S n x { x with st := 2 } S.sigs ⟨7, n.name, e0, W64 (now + n.delay)⟩ [⟨2, S.id, n.name, 0, W64 (now + n.delay), ml0⟩]
  | child (k : n.kind = 3) (hs : ¬ 256 < (chl S n).size) : Bm now S n x { x with st := 2 } S.sigs ⟨9, n.name, e0, 0⟩ [⟨3, S.id, e0, 0, 0, ⟨1, chl S n, S.id, n.name, n.arg, e0, 0⟩⟩]
  | await (k : n.kind = 4) (hk : kI S.sigs n.arg = none) : Bm now S n x { x with st := 2 } S.sigs ⟨11, n.name, e0, 0⟩ []
  | got (j : Nat) (k : n.kind = 4) (hk : kI S.sigs n.arg = some j) : Bm now S n x { x with st := 3, text := ((S.sigs[j]?).map (·.text)).getD e0 } (S.sigs.eraseIdx j) ⟨12, n.name, ((S.sigs[j]?).map (·.text)).getD e0, 1⟩ []
  | send (k : n.kind = 5) : Bm now S n x { x with st := 3 } S.sigs ⟨14, n.name, e0, 0⟩ [⟨3, S.id, e0, 0, 0, ⟨3, n.to_, S.id, n.name, n.arg, e0, 0⟩⟩]
def over (S : Sta) : Bool := S.nodes.all (fun x => decide (x.st = 3))
inductive On (D : Df) (now : Int) : Rn → Rn → Prop
  | more {R R' : Rn} {i : Nat} {n : Nd} {x y : Ns} {g : List Sg} {e : Ev} {ts : List Tk} (hs : R.S.status = 1) (hl : R.S.nodes.length = D.nodes.length) (hr : (rdy D R.S).head? = some i) (hn : D.nodes[i]? = some n) (hx : R.S.nodes[i]? = some x) (h0 : x.st = 0)
      (hm : Bm now R.S n x y g e ts) (ha : applyL D R.S e = some (mv R i y g e ts).S) (h : On D now (mv R i y g e ts) R') : On D now R R'
  | stay {R : Rn} (hs : R.S.status = 1) (hl : R.S.nodes.length = D.nodes.length) (hr : (rdy D R.S).head? = none) (ha : over R.S = false) : On D now R R
  | done {R : Rn} (hs : R.S.status = 1) (hl : R.S.nodes.length = D.nodes.length) (hr : (rdy D R.S).head? = none) (ha : over R.S = true) : On D now R (cls D R 2 (lastT R.S))
  | long {R : Rn} {i : Nat} {n : Nd} {x : Ns} (hs : R.S.status = 1) (hl : R.S.nodes.length = D.nodes.length) (hr : (rdy D R.S).head? = some i) (hn : D.nodes[i]? = some n) (hx : R.S.nodes[i]? = some x) (h0 : x.st = 0) (k : n.kind = 3) (hs : 256 < (chl R.S n).size)
      (ha : applyL D R.S ⟨6, n.name, longT, 0⟩ = some (mv R i { x with st := 4, text := longT } R.S.sigs ⟨6, n.name, longT, 0⟩ []).S) :
      On D now R (cls D (mv R i { x with st := 4, text := longT } R.S.sigs ⟨6, n.name, longT, 0⟩ []) 3 longT)
inductive Fm (S : Sta) (a : Inp) (n : Nd) (x : Ns) : Bool → Ns → Ev → List Tk → Prop
  | taken (ha : a.kind = 3) (k : n.kind = 1) (h : x.st = 1) : Fm S a n x false { x with st := 2, try_ := W64 (x.try_ + 1) } ⟨3, n.name, e0, W64 (x.try_ + 1)⟩ (if 0 < n.delay then [⟨2, S.id, n.name, W64 (x.try_ + 1), W64 (a.now + n.delay), ml0⟩] else [])
  | again (ha : a.kind = 5 ∨ a.kind = 6) (k : n.kind = 1) (h : x.st = 2) (ht : x.try_ < n.tries) :
      Fm S a n x false { x with st := 1 } ⟨5, n.name, if a.kind = 6 then timeoutT else a.text, x.try_⟩ [⟨1, S.id, n.name, W64 (x.try_ + 1), 0, ml0⟩]
  | full (ha : a.kind = 4) (k : n.kind = 1) (h : x.st = 2) : Fm S a n x true { x with st := 3, text := a.text } ⟨4, n.name, a.text, 0⟩ []
  | fired (ha : a.kind = 6) (k : n.kind = 2) (h : x.st = 2) : Fm S a n x true { x with st := 3 } ⟨8, n.name, e0, 0⟩ []
  | told (ha : a.kind = 7) (k : n.kind = 3) (h : x.st = 2) : Fm S a n x true { x with st := 3, text := a.text } ⟨10, n.name, a.text, 0⟩ []
  | recv (ha : a.kind = 2) (k : n.kind = 4) (h : x.st = 2) (hw : n.arg = a.name) : Fm S a n x true { x with st := 3, text := a.text } ⟨12, n.name, a.text, 0⟩ []
def startS (D : Df) (S : Sta) (a : Inp) : Sta := { S with id := a.name, status := 1, df := D.name, nodes := List.replicate D.nodes.length ns0, parent := a.parent, pnode := a.pnode, events := W64 (S.events + 1) }
def startR (D : Df) (S : Sta) (a : Inp) : Rn := ⟨startS D S a, [⟨1, a.pnode, a.parent, 0⟩], []⟩
def keptS (S : Sta) (a : Inp) : Sta := { S with sigs := S.sigs ++ [⟨a.name, a.text⟩], events := W64 (S.events + 1) }
inductive Stp (D : Df) (S : Sta) (a : Inp) : Rn → Prop
  | start {R : Rn} (h0 : S.status = 0) (ha : a.kind = 1) (hp : applyL D { S with id := a.name } ⟨1, a.pnode, a.parent, 0⟩ = some (startS D S a)) (h : On D a.now (startR D S a) R) : Stp D S a R
  | on {i : Nat} {n : Nd} {x y : Ns} {e : Ev} {ts : List Tk} {R : Rn} (h1 : S.status = 1) (hn : D.nodes[i]? = some n) (hx : S.nodes[i]? = some x) (hm : Fm S a n x true y e ts) (ha : applyL D S e = some (mv ⟨S, [], []⟩ i y S.sigs e ts).S)
      (h : On D a.now (mv ⟨S, [], []⟩ i y S.sigs e ts) R) : Stp D S a R
  | stop {i : Nat} {n : Nd} {x y : Ns} {e : Ev} {ts : List Tk} (h1 : S.status = 1) (hn : D.nodes[i]? = some n) (hx : S.nodes[i]? = some x) (hm : Fm S a n x false y e ts) (ha : applyL D S e = some (mv ⟨S, [], []⟩ i y S.sigs e ts).S) :
      Stp D S a (mv ⟨S, [], []⟩ i y S.sigs e ts)
  | kept (h1 : S.status = 1) (ha : a.kind = 2) (hk : S.sigs.length < 32) (hp : applyL D S ⟨13, a.name, a.text, 0⟩ = some (keptS S a)) : Stp D S a ⟨keptS S a, [⟨13, a.name, a.text, 0⟩], []⟩
  | fail {i : Nat} {n : Nd} {x : Ns} {t : ByteArray} (h1 : S.status = 1) (hn : D.nodes[i]? = some n) (hx : S.nodes[i]? = some x) (h : x.st = 2) (ha : applyL D S ⟨6, n.name, t, 0⟩ = some (mv ⟨S, [], []⟩ i { x with st := 4, text := t } S.sigs ⟨6, n.name, t, 0⟩ []).S) :
      Stp D S a (cls D (mv ⟨S, [], []⟩ i { x with st := 4, text := t } S.sigs ⟨6, n.name, t, 0⟩ []) 3 t)
  | cancel (h1 : S.status = 1) (ha : a.kind = 8) : Stp D S a (cls D ⟨S, [], []⟩ 4 a.text)
section
variable {D : Df} {now : Int} {R : Rn} {i : Nat} {n : Nd} {x : Ns}
theorem happ_mv {e : Ev} {y : Ns} {b : Bool} (hs : R.S.status = 1) (h1 : e.kind ≠ 1) (h13 : e.kind ≠ 13) (h15 : e.kind ≠ 15) (hf : fI D.nodes e.node = some i) (hn : D.nodes[i]? = some n) (hx : R.S.nodes[i]? = some x)
    (hm : moveL n.kind x e (kI R.S.sigs n.arg) = some (y, b)) : happ D R e = mv R i y (mvG R.S.sigs (kI R.S.sigs n.arg) (some (y, b))) e [] ∧ applyL D R.S e = some (mv R i y (mvG R.S.sigs (kI R.S.sigs n.arg) (some (y, b))) e []).S := by
  have h := applyL_node hs h1 h13 h15 hf hn hx hm
  refine ⟨?_, h⟩
  unfold happ mv
  rw [h, List.append_nil]
  rfl
theorem bgn_mv (hs : R.S.status = 1) (hf : fI D.nodes n.name = some i) (hn : D.nodes[i]? = some n) (hx : R.S.nodes[i]? = some x) (h0 : x.st = 0) (hk1 : 1 ≤ n.kind) (hk5 : n.kind ≤ 5) :
    (∃ y g e ts, bgn D now R n = mv R i y g e ts ∧ Bm now R.S n x y g e ts ∧ applyL D R.S e = some (mv R i y g e ts).S) ∨
    (n.kind = 3 ∧ 256 < (chl R.S n).size ∧ bgn D now R n = cls D (mv R i { x with st := 4, text := longT } R.S.sigs ⟨6, n.name, longT, 0⟩ []) 3 longT ∧
      applyL D R.S ⟨6, n.name, longT, 0⟩ = some (mv R i { x with st := 4, text := longT } R.S.sigs ⟨6, n.name, longT, 0⟩ []).S) := by
  unfold bgn
  split
  · rename_i k
    obtain ⟨g1, g2⟩ := happ_mv (e := ⟨2, n.name, e0, 0⟩) (y := { x with st := 1 }) (b := false) hs (by simp) (by simp) (by simp) hf hn hx (by simp [moveL, isL, k, h0])
    exact .inl ⟨_, _, _, _, by rw [g1]; simp [tsk, mv, mvG], .sched k, g2⟩
  · split
    · rename_i k
      obtain ⟨g1, g2⟩ := happ_mv (e := ⟨7, n.name, e0, W64 (now + n.delay)⟩) (y := { x with st := 2 }) (b := false) hs (by simp) (by simp) (by simp) hf hn hx (by simp [moveL, isL, k, h0])
      exact .inl ⟨_, _, _, _, by rw [g1]; simp [tsk, mv, mvG], .timer k, g2⟩
    · split
      · rename_i k
        split
        · rename_i hsz
          obtain ⟨g1, g2⟩ := happ_mv (e := ⟨6, n.name, longT, 0⟩) (y := { x with st := 4, text := longT }) (b := false) hs (by simp) (by simp) (by simp) hf hn hx (by simp [moveL, isL, k, h0])
          exact .inr ⟨k, hsz, by rw [g1]; rfl, g2⟩
        · rename_i hsz
          obtain ⟨g1, g2⟩ := happ_mv (e := ⟨9, n.name, e0, 0⟩) (y := { x with st := 2 }) (b := false) hs (by simp) (by simp) (by simp) hf hn hx (by simp [moveL, isL, k, h0])
          exact .inl ⟨_, _, _, _, by rw [g1]; simp [mlr, tsk, mv, mvG, chl], .child k hsz, g2⟩
      · split
        · rename_i k
          split
          · rename_i j hj
            obtain ⟨g1, g2⟩ := happ_mv (e := ⟨12, n.name, ((R.S.sigs[j]?).map (·.text)).getD e0, 1⟩) (y := { x with st := 3, text := ((R.S.sigs[j]?).map (·.text)).getD e0 }) (b := true) hs (by simp) (by simp) (by simp) hf hn hx (by simp [moveL, isL, k, h0, hj])
            rw [hj] at g1 g2
            exact .inl ⟨_, _, _, _, by rw [g1]; rfl, .got j k hj, g2⟩
          · rename_i hj
            obtain ⟨g1, g2⟩ := happ_mv (e := ⟨11, n.name, e0, 0⟩) (y := { x with st := 2 }) (b := false) hs (by simp) (by simp) (by simp) hf hn hx (by simp [moveL, isL, k, h0])
            exact .inl ⟨_, _, _, _, by rw [g1]; rfl, .await k hj, g2⟩
        · have k : n.kind = 5 := by omega
          obtain ⟨g1, g2⟩ := happ_mv (e := ⟨14, n.name, e0, 0⟩) (y := { x with st := 3 }) (b := false) hs (by simp) (by simp) (by simp) hf hn hx (by simp [moveL, isL, k, h0])
          exact .inl ⟨_, _, _, _, by rw [g1]; simp [mlr, tsk, mv, mvG], .send k, g2⟩
end
theorem On.go {D : Df} {now : Int} (hD : DefOK D) : ∀ (k : Nat) (R : Rn), idle R.S ≤ k → R.S.nodes.length = D.nodes.length → R.S.status = 1 → On D now R (onL D now R) := by
  intro k
  induction k with
  | zero =>
    intro R hk hl hs
    cases hr : (rdy D R.S).head? with
    | none =>
      rw [onL_end hs hr]
      split
      · rename_i ha; exact .done hs hl hr ha
      · rename_i ha; exact .stay hs hl hr (by cases h : over R.S with | false => rfl | true => exact absurd h ha)
    | some i =>
      obtain ⟨n, x, hn, hx, h0⟩ := rdy_spec hl hr
      have := (bgn_good (now := now) hD hl hs hr hn).2
      omega
  | succ k ih =>
    intro R hk hl hs
    cases hr : (rdy D R.S).head? with
    | none =>
      rw [onL_end hs hr]
      split
      · rename_i ha; exact .done hs hl hr ha
      · rename_i ha; exact .stay hs hl hr (by cases h : over R.S with | false => rfl | true => exact absurd h ha)
    | some i =>
      obtain ⟨n, x, hn, hx, h0⟩ := rdy_spec hl hr
      obtain ⟨k1, k5⟩ := hD.kd n (List.mem_of_getElem? hn)
      obtain ⟨g1, g2⟩ := bgn_good (now := now) hD hl hs hr hn
      rw [onL_step hD hl hs hr hn]
      rcases bgn_mv (now := now) hs (hD.ds i n hn) hn hx h0 k1 k5 with ⟨y, g, e, ts, hb, hm, ha⟩ | ⟨k3, hsz, hb, ha⟩
      · rw [hb] at g1 g2 ⊢
        exact .more hs hl hr hn hx h0 hm ha (ih _ (by omega) g1 hs)
      · rw [hb, onL_stop]
        · exact .long hs hl hr hn hx h0 k3 hsz ha
        · rw [cls_nodes]
          have hs2 : (mv R i { x with st := 4, text := longT } R.S.sigs ⟨6, n.name, longT, 0⟩ []).S.status = 1 := hs
          unfold happ applyL applyQ
          rw [if_neg (by decide), if_pos hs2, if_neg (by decide), if_pos rfl, if_pos (.inr (.inl rfl))]
          simp
theorem nodeL_get {D : Df} {S : Sta} {s : ByteArray} {n : Nd} {x : Ns} (h : nodeL D S s = some (n, x)) : ∃ i, fI D.nodes s = some i ∧ D.nodes[i]? = some n ∧ S.nodes[i]? = some x ∧ n.name = s := by
  unfold nodeL at h
  split at h
  · cases h
  · rename_i i hi
    split at h
    · rename_i n' x' hn hx
      obtain ⟨z, hz, hzn⟩ := fI_get hi
      cases h
      rw [hn] at hz
      cases hz
      exact ⟨i, hi, hn, hx, hzn⟩
    · cases h
theorem waits_get {D : Df} {S : Sta} {s : ByteArray} {i : Nat} (h : waits D S s = some i) : ∃ n x, D.nodes[i]? = some n ∧ S.nodes[i]? = some x ∧ n.kind = 4 ∧ n.arg = s ∧ x.st = 2 := by
  unfold waits at h
  have h2 := List.find?_some h
  split at h2
  · rename_i n x hn hx
    simp only [Bool.and_eq_true, decide_eq_true_eq] at h2
    exact ⟨n, x, hn, hx, h2.1.1, h2.1.2, h2.2⟩
  · cases h2
theorem stepL_err {D : Df} {S : Sta} {a : Inp} (h : (stepL D S a).1 ≠ 0) : (stepL D S a).2 = rn0 := by
  unfold stepL at h ⊢
  split
  · rename_i h0; rw [if_pos h0] at h; exact absurd h0 h
  · rfl
theorem stepL_closed {D : Df} {S : Sta} {a : Inp} (h0 : S.status ≠ 0) (h1 : S.status ≠ 1) : (stepL D S a).1 ≠ 0 := by
  have : (stepR D a.now ⟨S, [], []⟩ a).1 ≠ 0 := by
    unfold stepR
    split
    · simp
    · simp
  unfold stepL
  rw [if_neg this]
  exact this
theorem stepL_stp {D : Df} {S : Sta} {a : Inp} (hD : DefOK D) (hl : S.status = 1 → S.nodes.length = D.nodes.length) (h : (stepL D S a).1 = 0) : Stp D S a (stepL D S a).2 := by
  have hR : stepL D S a = stepR D a.now ⟨S, [], []⟩ a := by
    unfold stepL at h ⊢
    split
    · rfl
    · rename_i h0; rw [if_neg h0] at h; exact absurd h h0
  rw [hR] at h ⊢
  have on : ∀ (R : Rn), R.S.nodes.length = D.nodes.length → R.S.status = 1 → On D a.now R (onL D a.now R) := fun R h1 h2 => On.go hD _ R (Nat.le_refl _) h1 h2
  unfold stepR at h ⊢
  split at h
  · rename_i ka
    split at h
    · simp at h
    · rename_i s0
      have s0 : S.status = 0 := Classical.not_not.1 s0
      rw [if_pos ka, if_neg (fun hh => hh s0)]
      have hp : applyL D { S with id := a.name } ⟨1, a.pnode, a.parent, 0⟩ = some (startS D S a) := by
        unfold applyL applyQ
        rw [if_pos rfl, if_pos s0]
        rfl
      have he : happ D { (⟨S, [], []⟩ : Rn) with S := { S with id := a.name } } ⟨1, a.pnode, a.parent, 0⟩ = startR D S a := by
        unfold happ
        rw [hp]
        rfl
      refine .start s0 ka hp ?_
      show On D a.now _ (onL D a.now (happ D { (⟨S, [], []⟩ : Rn) with S := { S with id := a.name } } ⟨1, a.pnode, a.parent, 0⟩))
      rw [he]
      exact on _ (by simp [startR, startS]) rfl
  · rename_i ka
    split at h
    · simp at h
    · rename_i s0
      split at h
      · simp at h
      · rename_i s1
        have s1' : S.status = 1 := Classical.not_not.1 s1
        have hll := hl s1'
        rw [if_neg ka, if_neg s0, if_neg s1]
        have onm : ∀ (i : Nat) (y : Ns) (e : Ev) (ts : List Tk), On D a.now (mv ⟨S, [], []⟩ i y S.sigs e ts) (onL D a.now (mv ⟨S, [], []⟩ i y S.sigs e ts)) := fun i y e ts => on _ (by simp [mv, hll]) s1'
        split at h
        · rename_i k2
          rw [if_pos k2]
          unfold signalL at h ⊢
          split at h
          · simp at h
          · rename_i hnm
            split at h
            · simp at h
            · rename_i htx
              rw [if_neg hnm, if_neg htx]
              split at h
              · rename_i i hw
                obtain ⟨n, x, hn, hx, k4, har, hst⟩ := waits_get hw
                simp only [hw]
                obtain ⟨g1, g2⟩ := happ_mv (R := ⟨S, [], []⟩) (e := ⟨12, ((D.nodes[i]?).map (·.name)).getD e0, a.text, 0⟩) (y := { x with st := 3, text := a.text }) (b := false) s1' (by simp) (by simp) (by simp) (by rw [hn]; exact hD.ds i n hn) hn hx (by simp [moveL, isL, k4, hst])
                rw [hn] at g1 g2 ⊢
                simp only [Option.map_some, Option.getD_some, mvG] at g1 g2 ⊢
                rw [g1]
                exact .on s1' hn hx (.recv k2 k4 hst har) g2 (onm _ _ _ _)
              · rename_i hw
                split at h
                · simp at h
                · rename_i hsg
                  simp only [hw]
                  rw [if_neg hsg]
                  have hp : applyL D S ⟨13, a.name, a.text, 0⟩ = some (keptS S a) := by
                    unfold applyL applyQ
                    rw [if_neg (by simp), if_pos s1', if_pos rfl]
                    rfl
                  have he : happ D ⟨S, [], []⟩ ⟨13, a.name, a.text, 0⟩ = ⟨keptS S a, [⟨13, a.name, a.text, 0⟩], []⟩ := by
                    unfold happ
                    rw [hp]
                    rfl
                  rw [he]
                  exact .kept s1' k2 (Nat.lt_of_not_le hsg) hp
        · rename_i k2
          rw [if_neg k2]
          split at h
          · rename_i k3
            rw [if_pos k3]
            unfold takeL at h ⊢
            split at h
            · simp at h
            · rename_i n x hnl
              obtain ⟨i, hf, hn, hx, hname⟩ := nodeL_get hnl
              split at h
              · rename_i kk
                rw [if_pos kk]
                split at h
                · rename_i hst
                  rw [if_pos hst]
                  obtain ⟨g1, g2⟩ := happ_mv (R := ⟨S, [], []⟩) (e := ⟨3, n.name, e0, W64 (x.try_ + 1)⟩) (y := { x with st := 2, try_ := W64 (x.try_ + 1) }) (b := false) s1' (by simp) (by simp) (by simp) (hD.ds i n hn) hn hx (by simp [moveL, isL, kk, hst])
                  simp only [mvG] at g1 g2
                  have := Stp.stop s1' hn hx (.taken k3 kk hst) g2
                  rw [g1]
                  by_cases hd : 0 < n.delay
                  · rw [if_pos hd]
                    rw [if_pos hd] at this
                    exact this
                  · rw [if_neg hd]
                    rw [if_neg hd] at this
                    exact this
                · simp at h
              · simp at h
          · rename_i k3
            rw [if_neg k3]
            split at h
            · rename_i k456
              rw [if_pos k456]
              unfold endsL at h ⊢
              split at h
              · simp at h
              · rename_i n x hnl
                obtain ⟨i, hf, hn, hx, hname⟩ := nodeL_get hnl
                split at h
                · rename_i kk
                  rw [if_pos kk]
                  split at h
                  · simp at h
                  · rename_i hst
                    rw [if_neg hst]
                    have hst2 : x.st = 2 := Classical.byContradiction fun hh => hst (.inl hh)
                    split at h
                    · simp at h
                    · rename_i htx
                      rw [if_neg htx]
                      split at h
                      · rename_i kt
                        rw [if_pos kt]
                        obtain ⟨g1, g2⟩ := happ_mv (R := ⟨S, [], []⟩) (e := ⟨8, n.name, e0, 0⟩) (y := { x with st := 3 }) (b := false) s1' (by simp) (by simp) (by simp) (hD.ds i n hn) hn hx (by simp [moveL, isL, kt, hst2])
                        simp only [mvG] at g1 g2
                        rw [g1]
                        exact .on s1' hn hx (.fired (by rcases kk with kk | kk; omega; exact kk.1) kt hst2) g2 (onm _ _ _ _)
                      · rename_i kt
                        have kn : n.kind = 1 := by rcases kk with kk | kk; exact kk; exact absurd kk.2 kt
                        rw [if_neg kt]
                        split at h
                        · rename_i k4
                          rw [if_pos k4]
                          obtain ⟨g1, g2⟩ := happ_mv (R := ⟨S, [], []⟩) (e := ⟨4, n.name, a.text, 0⟩) (y := { x with st := 3, text := a.text }) (b := false) s1' (by simp) (by simp) (by simp) (hD.ds i n hn) hn hx (by simp [moveL, isL, kn, hst2])
                          simp only [mvG] at g1 g2
                          rw [g1]
                          exact .on s1' hn hx (.full k4 kn hst2) g2 (onm _ _ _ _)
                        · rename_i k4
                          rw [if_neg k4]
                          unfold failL
                          have k56 : a.kind = 5 ∨ a.kind = 6 := by omega
                          by_cases htr : x.try_ < n.tries
                          · rw [if_pos htr]
                            obtain ⟨g1, g2⟩ := happ_mv (R := ⟨S, [], []⟩) (e := ⟨5, n.name, if a.kind = 6 then timeoutT else a.text, x.try_⟩) (y := { x with st := 1 }) (b := false) s1' (by simp) (by simp) (by simp) (hD.ds i n hn) hn hx (by simp [moveL, isL, kn, hst2])
                            simp only [mvG] at g1 g2
                            rw [g1]
                            exact Stp.stop s1' hn hx (.again k56 kn hst2 htr) g2
                          · rw [if_neg htr]
                            obtain ⟨g1, g2⟩ := happ_mv (R := ⟨S, [], []⟩) (e := ⟨6, n.name, if a.kind = 6 then timeoutT else a.text, 0⟩) (y := { x with st := 4, text := if a.kind = 6 then timeoutT else a.text }) (b := false) s1' (by simp) (by simp) (by simp) (hD.ds i n hn) hn hx (by simp [moveL, isL, hst2])
                            simp only [mvG] at g1 g2
                            rw [g1]
                            exact .fail s1' hn hx hst2 g2
                · simp at h
            · rename_i k456
              rw [if_neg k456]
              split at h
              · rename_i k7
                rw [if_pos k7]
                unfold toldL at h ⊢
                split at h
                · simp at h
                · rename_i n x hnl
                  obtain ⟨i, hf, hn, hx, hname⟩ := nodeL_get hnl
                  split at h
                  · rename_i kk
                    rw [if_pos kk]
                    split at h
                    · simp at h
                    · rename_i hst
                      rw [if_neg hst]
                      have hst2 : x.st = 2 := Classical.not_not.1 hst
                      split at h
                      · rename_i ks
                        rw [if_pos ks]
                        obtain ⟨g1, g2⟩ := happ_mv (R := ⟨S, [], []⟩) (e := ⟨10, n.name, a.text, 0⟩) (y := { x with st := 3, text := a.text }) (b := false) s1' (by simp) (by simp) (by simp) (hD.ds i n hn) hn hx (by simp [moveL, isL, kk, hst2])
                        simp only [mvG] at g1 g2
                        rw [g1]
                        exact .on s1' hn hx (.told k7 kk hst2) g2 (onm _ _ _ _)
                      · rename_i ks
                        rw [if_neg ks]
                        obtain ⟨g1, g2⟩ := happ_mv (R := ⟨S, [], []⟩) (e := ⟨6, n.name, a.text, 0⟩) (y := { x with st := 4, text := a.text }) (b := false) s1' (by simp) (by simp) (by simp) (hD.ds i n hn) hn hx (by simp [moveL, isL, hst2])
                        simp only [mvG] at g1 g2
                        rw [g1]
                        exact .fail s1' hn hx hst2 g2
                  · simp at h
              · rename_i k7
                rw [if_neg k7]
                split at h
                · rename_i k8
                  rw [if_pos k8]
                  split at h
                  · simp at h
                  · rename_i htx
                    rw [if_neg htx]
                    exact .cancel s1' k8
                · simp at h
def MailT (id : ByteArray) (t : Tk) : Prop := ∃ m : Ml, t = ⟨3, id, e0, 0, 0, m⟩ ∧ m.from_ = id ∧ 1 ≤ m.kind ∧ m.kind ≤ 4
theorem clm_tk {D : Df} {text : ByteArray} {R : Rn} : ∀ k, ∃ ts, clm D text R k = ⟨R.S, R.ev, R.tk ++ ts⟩ ∧ ∀ t ∈ ts, MailT R.S.id t
  | 0 => ⟨[], by simp [clm], by simp⟩
  | k + 1 => by
    obtain ⟨ts, h1, h2⟩ := clm_tk (D := D) (text := text) (R := R) k
    simp only [clm, h1]
    unfold cnc
    split
    · split
      · rename_i n _ _ _ _
        refine ⟨ts ++ [⟨3, R.S.id, e0, 0, 0, ⟨4, chl R.S n, R.S.id, n.name, e0, text, 0⟩⟩], by simp [mlr, tsk, chl], fun t ht => ?_⟩
        rcases List.mem_append.1 ht with ht | ht
        · exact h2 t ht
        · rw [List.mem_singleton] at ht
          exact ⟨_, ht, rfl, by simp, by simp⟩
      · exact ⟨ts, rfl, h2⟩
    · exact ⟨ts, rfl, h2⟩
def clsS (S : Sta) (st : Int) (t : ByteArray) : Sta := { S with status := st, text := t, events := W64 (S.events + 1) }
theorem cls_eq {D : Df} {R : Rn} {st : Int} {t : ByteArray} (hs : R.S.status = 1) (h : st = 2 ∨ st = 3 ∨ st = 4) :
    applyL D R.S ⟨15, e0, t, st⟩ = some (clsS R.S st t) ∧ ∃ ts, cls D R st t = ⟨clsS R.S st t, R.ev ++ [⟨15, e0, t, st⟩], R.tk ++ ts⟩ ∧ ∀ k ∈ ts, MailT R.S.id k := by
  have ha : applyL D R.S ⟨15, e0, t, st⟩ = some (clsS R.S st t) := by
    unfold applyL applyQ
    rw [if_neg (by simp), if_pos hs, if_neg (by simp), if_pos rfl, if_pos h]
    rfl
  refine ⟨ha, ?_⟩
  have hh : happ D R ⟨15, e0, t, st⟩ = ⟨clsS R.S st t, R.ev ++ [⟨15, e0, t, st⟩], R.tk⟩ := by
    unfold happ
    rw [ha]
    rfl
  unfold cls
  rw [hh]
  obtain ⟨ts, h1, h2⟩ := clm_tk (D := D) (text := t) (R := ⟨clsS R.S st t, R.ev ++ [⟨15, e0, t, st⟩], R.tk⟩) D.nodes.length
  rw [h1]
  unfold par
  split
  · exact ⟨ts, rfl, h2⟩
  · refine ⟨ts ++ [⟨3, R.S.id, e0, 0, 0, ⟨2, R.S.parent, R.S.id, R.S.pnode, e0, t, st⟩⟩], by simp [mlr, tsk, clsS], fun k hk => ?_⟩
    rcases List.mem_append.1 hk with hk | hk
    · exact h2 k hk
    · rw [List.mem_singleton] at hk
      exact ⟨_, hk, rfl, (show (1 : Int) ≤ 2 by decide), (show (2 : Int) ≤ 4 by decide)⟩
structure NodeW (n : Nd) (x : Ns) : Prop where
  r : 0 ≤ x.st ∧ x.st ≤ 4
  t0 : x.st = 0 → x.try_ = 0
  na : n.kind ≠ 1 → x.try_ = 0 ∧ x.st ≠ 1
  t1 : n.kind = 1 → x.st = 1 → 0 ≤ x.try_ ∧ x.try_ < n.tries
  t2 : n.kind = 1 → x.st = 2 → 1 ≤ x.try_ ∧ x.try_ ≤ n.tries
def ahead (D : Df) (S : Sta) (i : Nat) : Prop := ∀ n : Nd, D.nodes[i]? = some n → metL D.nodes i n (fun k => (ovL S).getD k false) = true
structure WS (D : Df) (S : Sta) : Prop where
  st : 0 ≤ S.status ∧ S.status ≤ 4
  zero : S.status = 0 → S = sta0
  ln : S.status ≠ 0 → S.nodes.length = D.nodes.length
  nd : ∀ (i : Nat) (n : Nd) (x : Ns), D.nodes[i]? = some n → S.nodes[i]? = some x → NodeW n x
  ah : ∀ (i : Nat) (x : Ns), S.nodes[i]? = some x → x.st ≠ 0 → ahead D S i
  bad : S.status = 1 → ∀ x ∈ S.nodes, x.st ≠ 4
  sg : S.sigs.length ≤ 32
theorem ov_get {S : Sta} {k : Nat} : (ovL S).getD k false = true ↔ ∃ x, S.nodes[k]? = some x ∧ x.st = 3 := by
  unfold ovL
  rw [List.getD_eq_getElem?_getD, List.getElem?_map]
  cases h : S.nodes[k]? with
  | none => simp
  | some x => simp
theorem metL_mono {l : List Nd} {i : Nat} {n : Nd} {f g : Nat → Bool} (h : ∀ k, f k = true → g k = true) (hm : metL l i n f = true) : metL l i n g = true := by
  unfold metL at hm ⊢
  rw [List.all_eq_true] at hm ⊢
  intro s hs
  have := hm s hs
  unfold okS at this ⊢
  split
  · rename_i j hj
    rw [hj] at this
    simp only [Bool.and_eq_true] at this ⊢
    exact ⟨this.1, h _ this.2⟩
  · rename_i hj
    rw [hj] at this
    exact this
theorem rdy_ahead {D : Df} {S : Sta} {i : Nat} (h : (rdy D S).head? = some i) : ahead D S i := by
  intro n hn
  have hm : i ∈ rdy D S := List.mem_of_head? h
  unfold rdy readyL at hm
  have h2 := (List.mem_filter.1 hm).2
  unfold mayB at h2
  rw [hn] at h2
  simp only [Bool.and_eq_true] at h2
  exact h2.2
theorem rdy_none {D : Df} {S : Sta} (hl : S.nodes.length = D.nodes.length) (h : (rdy D S).head? = none) {i : Nat} {x : Ns} (hx : S.nodes[i]? = some x) (ha : ahead D S i) : x.st ≠ 0 := by
  intro h0
  have hlt : i < D.nodes.length := by rw [← hl]; exact (List.getElem?_eq_some_iff.1 hx).1
  have hnil : rdy D S = [] := List.head?_eq_none_iff.1 h
  have : i ∈ rdy D S := by
    unfold rdy readyL
    refine List.mem_filter.2 ⟨List.mem_range.2 hlt, ?_⟩
    unfold mayB
    have hn := List.getElem?_eq_getElem hlt
    rw [hn]
    simp only [Bool.and_eq_true, Bool.not_eq_true']
    refine ⟨?_, ha _ hn⟩
    unfold bgL
    rw [List.getD_eq_getElem?_getD, List.getElem?_map, hx]
    simp [h0]
  rw [hnil] at this
  cases this
theorem ov_set {S : Sta} {i : Nat} {x y : Ns} {g : List Sg} {e : Ev} {ts : List Tk} {R : Rn} (hS : R.S = S) (hx : S.nodes[i]? = some x) (h3 : x.st ≠ 3) (k : Nat) (h : (ovL S).getD k false = true) : (ovL (mv R i y g e ts).S).getD k false = true := by
  subst hS
  rw [ov_get] at h ⊢
  obtain ⟨z, hz, hz3⟩ := h
  refine ⟨z, ?_, hz3⟩
  show (R.S.nodes.set i y)[k]? = some z
  rw [List.getElem?_set]
  split
  · rename_i hik; subst hik; rw [hx] at hz; cases hz; exact absurd hz3 h3
  · exact hz
structure WN (D : Df) (S : Sta) : Prop where
  ln : S.nodes.length = D.nodes.length
  nd : ∀ (i : Nat) (n : Nd) (x : Ns), D.nodes[i]? = some n → S.nodes[i]? = some x → NodeW n x
  ah : ∀ (i : Nat) (x : Ns), S.nodes[i]? = some x → x.st ≠ 0 → ahead D S i
  sg : S.sigs.length ≤ 32
theorem WS.wn {D : Df} {S : Sta} (h : WS D S) (hs : S.status ≠ 0) : WN D S := ⟨h.ln hs, h.nd, h.ah, h.sg⟩
theorem WN.ws {D : Df} {S : Sta} (h : WN D S) (hs : 1 ≤ S.status ∧ S.status ≤ 4) (hb : S.status = 1 → ∀ x ∈ S.nodes, x.st ≠ 4) : WS D S := ⟨by omega, fun h0 => by omega, fun _ => h.ln, h.nd, h.ah, hb, h.sg⟩
theorem WN.cls {D : Df} {S : Sta} (h : WN D S) (st : Int) (t : ByteArray) : WN D (clsS S st t) := ⟨h.ln, h.nd, h.ah, h.sg⟩
theorem WN.clsW {D : Df} {R : Rn} {st : Int} {t : ByteArray} (h : WN D R.S) (hs : R.S.status = 1) (h4 : st = 2 ∨ st = 3 ∨ st = 4) : WS D (Ytdnjfmgldkommaa.cls D R st t).S := by
  obtain ⟨_, ts, he, _⟩ := cls_eq (D := D) (t := t) hs h4
  rw [he]
  exact (h.cls st t).ws (by show 1 ≤ st ∧ st ≤ 4; omega) (fun h1 => by have : st = 1 := h1; omega)
theorem WN.mv {D : Df} {R : Rn} {i : Nat} {n : Nd} {x y : Ns} {g : List Sg} {e : Ev} {ts : List Tk} (h : WN D R.S) (hn : D.nodes[i]? = some n) (hx : R.S.nodes[i]? = some x) (h3 : x.st ≠ 3) (ha : ahead D R.S i) (hy : NodeW n y) (hg : g.length ≤ R.S.sigs.length) : WN D (mv R i y g e ts).S := by
  have hnodes : (Ytdnjfmgldkommaa.mv R i y g e ts).S.nodes = R.S.nodes.set i y := rfl
  have mono : ∀ k, ahead D R.S k → ahead D (Ytdnjfmgldkommaa.mv R i y g e ts).S k := fun k hk m hm => metL_mono (fun j hj => ov_set rfl hx h3 j hj) (hk m hm)
  refine ⟨by rw [hnodes, List.length_set]; exact h.ln, fun j m z hm hz => ?_, fun j z hz hz0 => ?_, Nat.le_trans hg h.sg⟩
  · rw [hnodes, List.getElem?_set] at hz
    split at hz
    · rename_i hij
      subst hij
      split at hz
      · cases hz; rw [hn] at hm; cases hm; exact hy
      · cases hz
    · exact h.nd j m z hm hz
  · rw [hnodes, List.getElem?_set] at hz
    split at hz
    · rename_i hij
      subst hij
      exact mono _ ha
    · exact mono _ (h.ah j z hz hz0)
theorem mv_bad {R : Rn} {i : Nat} {y : Ns} {g : List Sg} {e : Ev} {ts : List Tk} (h : ∀ x ∈ R.S.nodes, x.st ≠ 4) (hy : y.st ≠ 4) : ∀ x ∈ (mv R i y g e ts).S.nodes, x.st ≠ 4 := by
  intro x hx
  rcases List.mem_or_eq_of_mem_set hx with hx | rfl
  · exact h x hx
  · exact hy
theorem wrap_small {a : Int} (h1 : -1000 ≤ a) (h2 : a ≤ 1000) : W64 a = a := wrap64_in (by omega) (by omega)
theorem Bm.nodeW {now : Int} {S : Sta} {n : Nd} {x y : Ns} {g : List Sg} {e : Ev} {ts : List Tk} (hm : Bm now S n x y g e ts) (hx : NodeW n x) (h0 : x.st = 0) (ht : n.kind = 1 → 1 ≤ n.tries ∧ n.tries ≤ 10) : NodeW n y ∧ y.st ≠ 4 ∧ y.st ≠ 0 ∧ g.length ≤ S.sigs.length := by
  have ht0 := hx.t0 h0
  cases hm with
  | sched k => exact ⟨⟨⟨by simp, by simp⟩, fun h => absurd h (by simp), fun h => absurd k h, fun _ _ => by have := ht k; dsimp only; omega, fun _ h => absurd h (by simp)⟩, by simp, by simp, Nat.le_refl _⟩
  | timer k => exact ⟨⟨⟨by simp, by simp⟩, fun h => absurd h (by simp), fun _ => ⟨ht0, by simp⟩, fun h => by omega, fun h => by omega⟩, by simp, by simp, Nat.le_refl _⟩
  | child k => exact ⟨⟨⟨by simp, by simp⟩, fun h => absurd h (by simp), fun _ => ⟨ht0, by simp⟩, fun h => by omega, fun h => by omega⟩, by simp, by simp, Nat.le_refl _⟩
  | await k => exact ⟨⟨⟨by simp, by simp⟩, fun h => absurd h (by simp), fun _ => ⟨ht0, by simp⟩, fun h => by omega, fun h => by omega⟩, by simp, by simp, Nat.le_refl _⟩
  | got j k => exact ⟨⟨⟨by simp, by simp⟩, fun h => absurd h (by simp), fun _ => ⟨ht0, by simp⟩, fun h => by omega, fun h => by omega⟩, by simp, by simp, eraseIdx_le _ _⟩
  | send k => exact ⟨⟨⟨by simp, by simp⟩, fun h => absurd h (by simp), fun _ => ⟨ht0, by simp⟩, fun h => by omega, fun h => by omega⟩, by simp, by simp, Nat.le_refl _⟩
theorem Fm.nodeW {S : Sta} {a : Inp} {n : Nd} {x y : Ns} {e : Ev} {ts : List Tk} {b : Bool} (hm : Fm S a n x b y e ts) (hx : NodeW n x) (ht : n.kind = 1 → 1 ≤ n.tries ∧ n.tries ≤ 10) : NodeW n y ∧ y.st ≠ 4 ∧ x.st ≠ 3 ∧ x.st ≠ 0 := by
  cases hm with
  | taken ha k h =>
    have h1 := hx.t1 k h
    have h2 := ht k
    have h3 : W64 (x.try_ + 1) = x.try_ + 1 := wrap_small (by omega) (by omega)
    exact ⟨⟨⟨by simp, by simp⟩, fun h => absurd h (by simp), fun h => absurd k h, fun _ h => absurd h (by simp), fun _ _ => by dsimp only; rw [h3]; omega⟩, by simp, by omega, by omega⟩
  | again ha k h htr =>
    have h1 := hx.t2 k h
    exact ⟨⟨⟨by simp, by simp⟩, fun h => absurd h (by simp), fun h => absurd k h, fun _ _ => by dsimp only; omega, fun _ h => absurd h (by simp)⟩, by simp, by omega, by omega⟩
  | full ha k h => exact ⟨⟨⟨by simp, by simp⟩, fun h => absurd h (by simp), fun h => absurd k h, fun _ h => absurd h (by simp), fun _ h => absurd h (by simp)⟩, by simp, by omega, by omega⟩
  | fired ha k h => exact ⟨⟨⟨by simp, by simp⟩, fun h => absurd h (by simp), fun h => ⟨(hx.na h).1, by simp⟩, fun _ h => absurd h (by simp), fun _ h => absurd h (by simp)⟩, by simp, by omega, by omega⟩
  | told ha k h => exact ⟨⟨⟨by simp, by simp⟩, fun h => absurd h (by simp), fun h => ⟨(hx.na h).1, by simp⟩, fun _ h => absurd h (by simp), fun _ h => absurd h (by simp)⟩, by simp, by omega, by omega⟩
  | recv ha k h => exact ⟨⟨⟨by simp, by simp⟩, fun h => absurd h (by simp), fun h => ⟨(hx.na h).1, by simp⟩, fun _ h => absurd h (by simp), fun _ h => absurd h (by simp)⟩, by simp, by omega, by omega⟩
theorem NodeW.bad {n : Nd} {x : Ns} (h : NodeW n x) (t : ByteArray) : NodeW n { x with st := 4, text := t } :=
  ⟨⟨by simp, by simp⟩, fun h => absurd h (by simp), fun hk => ⟨(h.na hk).1, by simp⟩, fun _ h => absurd h (by simp), fun _ h => absurd h (by simp)⟩
def Tries (D : Df) : Prop := ∀ n ∈ D.nodes, n.kind = 1 → 1 ≤ n.tries ∧ n.tries ≤ 10
theorem On.ws {D : Df} {now : Int} (hT : Tries D) {R R' : Rn} (h : On D now R R') (hw : WN D R.S) (hb : ∀ x ∈ R.S.nodes, x.st ≠ 4) : WS D R'.S := by
  induction h with
  | more hs hl hr hn hx h0 hm ha h ih =>
    obtain ⟨w1, w2, w3, w4⟩ := hm.nodeW (hw.nd _ _ _ hn hx) h0 (hT _ (List.mem_of_getElem? hn))
    exact ih (hw.mv hn hx (by omega) (rdy_ahead hr) w1 w4) (mv_bad hb w2)
  | stay hs hl hr ha => exact hw.ws (by omega) (fun _ => hb)
  | done hs hl hr ha => exact hw.clsW hs (.inl rfl)
  | long hs hl hr hn hx h0 k hsz ha =>
    exact WN.clsW (hw.mv hn hx (by omega) (rdy_ahead hr) ((hw.nd _ _ _ hn hx).bad longT) (Nat.le_refl _)) (show _ from hs) (.inr (.inl rfl))
theorem startW {D : Df} {S : Sta} {a : Inp} (hg : S.sigs.length ≤ 32) : WN D (startS D S a) ∧ ∀ x ∈ (startS D S a).nodes, x.st ≠ 4 := by
  have hx : ∀ {i x}, (startS D S a).nodes[i]? = some x → x = ns0 := fun {i x} h => List.eq_of_mem_replicate (List.mem_of_getElem? h)
  refine ⟨⟨by simp [startS], fun i n x _ h => ?_, fun i x h h0 => ?_, hg⟩, fun x h => ?_⟩
  · rw [hx h]
    exact ⟨⟨by decide, by decide⟩, fun _ => rfl, fun _ => ⟨rfl, by decide⟩, fun _ h => absurd h (by decide), fun _ h => absurd h (by decide)⟩
  · rw [hx h] at h0
    exact absurd rfl h0
  · have : x = ns0 := List.eq_of_mem_replicate h
    rw [this]
    decide
theorem Stp.ws {D : Df} (hT : Tries D) {S : Sta} {a : Inp} {R : Rn} (hw : WS D S) (h : Stp D S a R) : WS D R.S := by
  cases h with
  | start h0 ha hp h => exact h.ws hT (startW hw.sg).1 (startW hw.sg).2
  | on h1 hn hx hm ha h =>
    have hwn := hw.wn (by omega)
    obtain ⟨w1, w2, w3, w4⟩ := hm.nodeW (hwn.nd _ _ _ hn hx) (hT _ (List.mem_of_getElem? hn))
    exact h.ws hT (WN.mv (R := ⟨S, [], []⟩) hwn hn hx w3 (hwn.ah _ _ hx w4) w1 (Nat.le_refl _)) (mv_bad (R := ⟨S, [], []⟩) (hw.bad h1) w2)
  | stop h1 hn hx hm ha =>
    have hwn := hw.wn (by omega)
    obtain ⟨w1, w2, w3, w4⟩ := hm.nodeW (hwn.nd _ _ _ hn hx) (hT _ (List.mem_of_getElem? hn))
    exact (WN.mv (R := ⟨S, [], []⟩) hwn hn hx w3 (hwn.ah _ _ hx w4) w1 (Nat.le_refl _)).ws (show 1 ≤ S.status ∧ S.status ≤ 4 by omega) (fun _ => mv_bad (R := ⟨S, [], []⟩) (hw.bad h1) w2)
  | kept h1 ha hk hp =>
    have hwn := hw.wn (by omega)
    exact WN.ws ⟨hwn.ln, hwn.nd, hwn.ah, by simp [keptS]; omega⟩ (show 1 ≤ S.status ∧ S.status ≤ 4 by omega) (fun _ => hw.bad h1)
  | fail h1 hn hx h ha =>
    have hwn := hw.wn (by omega)
    exact WN.clsW (WN.mv (R := ⟨S, [], []⟩) hwn hn hx (by omega) (hwn.ah _ _ hx (by omega)) ((hwn.nd _ _ _ hn hx).bad _) (Nat.le_refl _)) h1 (.inr (.inl rfl))
  | cancel h1 ha => exact WN.clsW (R := ⟨S, [], []⟩) (hw.wn (by omega)) h1 (.inr (.inr rfl))
theorem ws0 (D : Df) : WS D sta0 := ⟨by decide, (fun _ => rfl), (fun h => absurd rfl h), (fun i n x _ h => by cases h), (fun i x h => by cases h), (fun h => absurd h (by decide)), by decide⟩
theorem On.status {D : Df} {now : Int} {R R' : Rn} (h : On D now R R') : 1 ≤ R'.S.status ∧ R'.S.status ≤ 4 := by
  induction h with
  | more hs hl hr hn hx h0 hm ha h ih => exact ih
  | stay hs hl hr ha => omega
  | done hs hl hr ha =>
    obtain ⟨_, ts, he, _⟩ := cls_eq (D := D) (t := lastT _) hs (.inl rfl)
    rw [he]
    exact ⟨(by decide : (1 : Int) ≤ 2), (by decide : (2 : Int) ≤ 4)⟩
  | @long R i n x hs hl hr hn hx h0 k hsz ha =>
    obtain ⟨_, ts, he, _⟩ := cls_eq (D := D) (R := mv R i { x with st := 4, text := longT } R.S.sigs ⟨6, n.name, longT, 0⟩ []) (t := longT) hs (.inr (.inl rfl))
    rw [he]
    exact ⟨(by decide : (1 : Int) ≤ 3), (by decide : (3 : Int) ≤ 4)⟩
theorem Stp.status {D : Df} {S : Sta} {a : Inp} {R : Rn} (h : Stp D S a R) : 1 ≤ R.S.status ∧ R.S.status ≤ 4 := by
  cases h with
  | start h0 ha hp h => exact h.status
  | on h1 hn hx hm ha h => exact h.status
  | stop h1 hn hx hm ha => show 1 ≤ S.status ∧ S.status ≤ 4; omega
  | kept h1 ha hk hp => show 1 ≤ S.status ∧ S.status ≤ 4; omega
  | @fail i n x t h1 hn hx h ha =>
    obtain ⟨_, ts, he, _⟩ := cls_eq (D := D) (R := mv ⟨S, [], []⟩ i { x with st := 4, text := t } S.sigs ⟨6, n.name, t, 0⟩ []) (t := t) h1 (.inr (.inl rfl))
    rw [he]
    exact ⟨(by decide : (1 : Int) ≤ 3), (by decide : (3 : Int) ≤ 4)⟩
  | cancel h1 ha =>
    obtain ⟨_, ts, he, _⟩ := cls_eq (D := D) (R := ⟨S, [], []⟩) (t := a.text) h1 (.inr (.inr rfl))
    rw [he]
    exact ⟨(by decide : (1 : Int) ≤ 4), (by decide : (4 : Int) ≤ 4)⟩
theorem Taken.tries {D : Df} (h : Taken D) : Tries D := fun n hn k => by
  obtain ⟨i, hi⟩ := List.getElem?_of_mem hn
  exact (h.nd i n hi).t1 k
theorem playL_ws {D : Df} {p : Sta × List Ev} {a : Inp} (hD : DefOK D) (hT : Tries D) (h : WS D p.1) : WS D (playL D p a).1 := by
  unfold playL
  split
  · rename_i h0
    exact (stepL_stp hD (fun h1 => h.ln (by omega)) h0).ws hT h
  · exact h
section
variable {P : Program} {ops : Array Oper} {w0 : World} {Mod : List Nat} {n : Nat} {F : FL} {M : ML} {K : Act → World → Prop} {chk : List Nat} {ty : TypeId} {pos : String} {aft : Array Edge} {d : Nat}
theorem SK.neC0 {T U : TypeId} {x y : Operand} (hd : Nat.blt d n = true) (hx : ev F x = some (.complex .f64 0 0)) (hy : ev F y = some (.complex .f64 0 0))
    (h : SK w0 Mod n K ((d, .bool false) :: F) M) : SK w0 Mod n (stepE P ops ⟨some d, .binOp .neq T x y U, ty, pos, aft, none⟩ chk K) F M :=
  SK.bin hd hx hy (fun w' => by
    have h0 : FloatKind.f64.format.order 0 0 = some .eq := by decide
    simp [eqGuard, Go.binOp, Op.complexOp, Op.Complex.cmp, Op.floatCmp, asBool, h0]) h
end
end Go.Proofs.Ytdnjfmgldkommaa
