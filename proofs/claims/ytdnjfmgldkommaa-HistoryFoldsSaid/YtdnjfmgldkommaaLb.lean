/- Proved here: arguments are opened. -/
import Derived.Test.YtdnjfmgldkommaaLa
import Derived.SizedLaws
import Derived.ProofKit
namespace Go.Proofs.Ytdnjfmgldkommaa
open Go.Sx
def Cw (w : World) : View := fun b o v => w.cell? ⟨b, o, none⟩ = some v
theorem Cw.vw {w : World} {b o : Nat} {v : Value} (h : Cw w b o v) : Vw w [] b o v := by
  refine ⟨?_, by simp, h⟩
  unfold Cw World.cell? at h
  cases hb : w.heap[b]? with
  | none => simp [hb] at h
  | some x => exact (Array.getElem?_eq_some_iff.1 hb).1
theorem cell_spot {w : World} {a : Addr} {v : Value} (h : w.cell? a = some v) : a = ⟨a.block, a.off, none⟩ := by
  unfold World.cell? at h
  split at h
  · split at h
    · cases h
    · rename_i hs
      obtain ⟨b, o, s⟩ := a
      cases s with
      | none => rfl
      | some x => simp at hs
  · cases h
theorem mapM_get {α β : Type} {f : α → Option β} : ∀ {l : List α} {ys : List β}, l.mapM f = some ys → ys.length = l.length ∧ ∀ (i : Nat) (x : α), l[i]? = some x → ∃ y, ys[i]? = some y ∧ f x = some y := by
  intro l
  induction l with
  | nil => intro ys h; simp at h; subst h; exact ⟨rfl, by simp⟩
  | cons a l ih =>
    intro ys h
    rw [List.mapM_cons] at h
    simp only [Option.bind_eq_bind, Option.bind_eq_some_iff, Option.pure_def, Option.some.injEq] at h
    obtain ⟨y, hy, zs, hz, rfl⟩ := h
    obtain ⟨h1, h2⟩ := ih hz
    refine ⟨by simp [h1], fun i x hx => ?_⟩
    cases i with
    | zero => simp at hx; subst hx; exact ⟨y, rfl, hy⟩
    | succ i => simp at hx; simpa using h2 i x hx
theorem cells_get {w : World} {a : Addr} {n : Nat} {cs : List Value} (h : w.cells? 0 a n = some cs) : cs.length = n ∧ ∀ (j : Nat) (u : Value), cs[j]? = some u → w.cell? (a.add j) = some u := by
  unfold World.cells? at h
  rw [if_pos (Nat.zero_le _)] at h
  obtain ⟨h1, h2⟩ := mapM_get h
  refine ⟨by simpa using h1, fun j u hu => ?_⟩
  have hj : j < n := by have := (List.getElem?_eq_some_iff.1 hu).1; simp at h1; omega
  obtain ⟨y, hy, hc⟩ := h2 j j (by simp [hj])
  rw [hu] at hy; cases hy; exact hc
theorem list_of {α : Type} {Q : Nat → α → Prop} : ∀ n : Nat, (∀ i, i < n → ∃ x, Q i x) → ∃ l : List α, l.length = n ∧ ∀ (i : Nat) (x : α), l[i]? = some x → Q i x
  | 0, _ => ⟨[], rfl, fun i x h => by simp at h⟩
  | n + 1, h => by
    obtain ⟨l, h1, h2⟩ := list_of n (fun i hi => h i (by omega))
    obtain ⟨x, hx⟩ := h n (by omega)
    refine ⟨l ++ [x], by simp [h1], fun i y hy => ?_⟩
    by_cases hi : i < n
    · rw [List.getElem?_append_left (by omega)] at hy; exact h2 i y hy
    · rw [List.getElem?_append_right (by omega)] at hy
      have hin : i - l.length = 0 := by
        have := (List.getElem?_eq_some_iff.1 hy).1
        simp at this; omega
      rw [hin] at hy; simp at hy; subst hy
      rw [show i = n by omega]; exact hx
section
variable {H : Type} {enc : TypeId × Value → H} {P : Program} {w : World} {sp : Nat → Bool} {held : Bool} {R : Nat}
theorem open_slc {T e k : Nat} (hu : P.underlying T = some (.slice e)) (hk : P.cellsOf e = k) {fuel : Nat} {cs : List Value} {x : DataW H × List MemPlace} (h : DataW.trod enc P w 0 sp held fuel T cs = some x) (hw : ∀ n ∈ x.1.weights P T, n ≤ R) :
    cs = [.slice none 0 0] ∨ ∃ a len cap fuel', cs = [.slice (some a) len cap] ∧ len ≤ cap ∧ cap ≤ maxLen ∧ len * P.bytesOf e ≤ R ∧
      ∀ i, i < len → ∃ xs y, w.cells? 0 (a.add (i * k)) k = some xs ∧ DataW.trod enc P w 0 sp held fuel' e xs = some y ∧ ∀ n ∈ y.1.weights P e, n ≤ R := by
  cases fuel with
  | zero => cases h
  | succ fuel =>
    unfold DataW.trod at h
    rw [hu] at h
    split at h
    all_goals first
      | contradiction
      | (injection ‹some (TypeDesc.slice e) = some _› with h9; cases h9; done)
      | skip
    · exact .inl rfl
    · rename_i e' a len cap heq
      injection heq with heq
      injection heq with heq
      subst heq
      subst hk
      dsimp only at h
      split at h
      · rename_i hc
        obtain ⟨_, hc1, hc2⟩ := hc
        simp only [Option.bind_eq_some_iff, Option.map_eq_some_iff] at h
        obtain ⟨elems, hel, rest, hrest, hx⟩ := h
        obtain ⟨g1, g2⟩ := mapM_get hel
        subst hx
        have hlen : elems.length = len := by simpa using g1
        refine .inr ⟨a, len, cap, fuel, rfl, hc1, hc2, ?_, fun i hi => ?_⟩
        · have := hw ((elems.length + rest.length) * P.bytesOf e) (by simp [DataW.weights, hu])
          refine Nat.le_trans (Nat.mul_le_mul_right _ ?_) this
          omega
        · obtain ⟨y, hy, hf⟩ := g2 i i (by simp [hi])
          simp only [Option.bind_eq_some_iff] at hf
          obtain ⟨xs, hxs, hf⟩ := hf
          refine ⟨xs, y, hxs, hf, fun n hn => hw n ?_⟩
          simp only [DataW.weights, hu, List.mem_cons, List.mem_append]
          refine .inr (.inl ?_)
          have hm : y.1 ∈ elems.map (·.1) := List.mem_map.2 ⟨y, List.mem_of_getElem? hy, rfl⟩
          revert hm
          generalize elems.map (·.1) = ds
          intro hm
          induction ds with
          | nil => cases hm
          | cons d ds ih =>
            simp only [DataW.weightsAll, List.mem_append]
            rcases List.mem_cons.1 hm with hm | hm
            · subst hm; exact .inl hn
            · exact .inr (ih hm)
      · cases h
theorem open_str {T : Nat} (hu : P.underlying T = some .string) {fuel : Nat} {cs : List Value} {x : DataW H × List MemPlace} (h : DataW.trod enc P w 0 sp held fuel T cs = some x) (hw : ∀ n ∈ x.1.weights P T, n ≤ R) :
    ∃ s, cs = [.string s] ∧ s.size ≤ R := by
  obtain ⟨s, h1, h2, _⟩ := DataW.trod_string hu h
  refine ⟨s, h1, ?_⟩
  subst h2
  have := hw s.data.toList.length (by simp [DataW.weights])
  simpa using this
theorem open_i64 {T : Nat} (hu : P.underlying T = some (.int .i64)) {fuel : Nat} {cs : List Value} {x : DataW H × List MemPlace} (h : DataW.trod enc P w 0 sp held fuel T cs = some x) : ∃ n, cs = [.int .i64 n] := by
  obtain ⟨n, h1, _⟩ := DataW.trod_int hu h
  exact ⟨n, h1⟩
theorem open_agg {T : Nat} {fs : Array Field} (hu : P.underlying T = some (.struct fs)) {fuel : Nat} {cs : List Value} {x : DataW H × List MemPlace} (h : DataW.trod enc P w 0 sp held fuel T cs = some x) (hw : ∀ n ∈ x.1.weights P T, n ≤ R) :
    cs.length = P.cellsOf T ∧ ∃ fuel', ∀ (i : Nat) f, fs.toList[i]? = some f → ∃ y, DataW.trod enc P w 0 sp held fuel' f.type ((cs.drop f.offset).take (P.cellsOf f.type)) = some y ∧ ∀ n ∈ y.1.weights P f.type, n ≤ R := by
  cases fuel with
  | zero => cases h
  | succ fuel =>
    unfold DataW.trod at h
    rw [hu] at h
    split at h
    all_goals first
      | contradiction
      | (injection ‹some (TypeDesc.struct fs) = some _› with h9; cases h9; done)
      | skip
    · rename_i fs' heq
      injection heq with heq
      injection heq with heq
      subst heq
      split at h
      · rename_i hc
        refine ⟨hc, fuel, fun i f hf => ?_⟩
        simp only [Option.map_eq_some_iff] at h
        obtain ⟨ys, hys, hx⟩ := h
        subst hx
        obtain ⟨g1, g2⟩ := mapM_get hys
        obtain ⟨y, hy, hty⟩ := g2 i f hf
        refine ⟨y, hty, fun n hn => hw n ?_⟩
        simp only [DataW.weights, hu]
        refine DataW.weights_mem_each (j := i) (t := f.type) (d := y.1) ?_ ?_ n hn
        · simp [hf]
        · simp [hy]
      · cases h
    · exact (‹∀ fs_1 : Array Field, some (TypeDesc.struct fs) = some (TypeDesc.struct fs_1) → False› fs rfl).elim
end
theorem c9 : Try.prog.cellsOf 9 = 1 := by kernel_rfl
theorem c3 : Try.prog.cellsOf 3 = 1 := by kernel_rfl
theorem c57 : Try.prog.cellsOf 57 = 1 := by kernel_rfl
theorem c22 : Try.prog.cellsOf 22 = 1 := by kernel_rfl
theorem c59 : Try.prog.cellsOf 59 = 7 := by kernel_rfl
theorem c39 : Try.prog.cellsOf 39 = 9 := by kernel_rfl
theorem c24 : Try.prog.cellsOf 24 = 2 := by kernel_rfl
theorem y9 : Try.prog.bytesOf 9 = 16 := by kernel_rfl
theorem y59 : Try.prog.bytesOf 59 = 96 := by kernel_rfl
theorem y39 : Try.prog.bytesOf 39 = 112 := by kernel_rfl
theorem flat_inv {α : Type} {f : α → List Value} {k : Nat} (hk : ∀ x, (f x).length = k) (hk0 : 0 < k) {l : List α} {j : Nat} {u : Value} (h : (l.flatMap f)[j]? = some u) :
    ∃ i x j', l[i]? = some x ∧ (f x)[j']? = some u ∧ j = i * k + j' := by
  have hj : j < l.length * k := by
    have := (List.getElem?_eq_some_iff.1 h).1
    rwa [flat_len hk] at this
  have hi : j / k < l.length := Nat.div_lt_of_lt_mul (by rw [Nat.mul_comm]; exact hj)
  have hm : j % k < (f l[j / k]).length := by rw [hk]; exact Nat.mod_lt _ hk0
  have e : j = (j / k) * k + j % k := by rw [Nat.mul_comm]; exact (Nat.div_add_mod j k).symm
  refine ⟨j / k, l[j / k], j % k, List.getElem?_eq_getElem hi, ?_, e⟩
  have h2 := flat_get hk l (j / k) _ (List.getElem?_eq_getElem hi) (j % k) _ (List.getElem?_eq_getElem hm)
  rw [← e, h] at h2
  rw [List.getElem?_eq_getElem hm]
  exact h2.symm
theorem elems_at {α : Type} {f : α → List Value} {k : Nat} (hk : ∀ x, (f x).length = k) (hk0 : 0 < k) {w : World} {a : Addr} {l : List α} (h : ∀ (i : Nat) (x : α), l[i]? = some x → ∀ (j : Nat) (u : Value), (f x)[j]? = some u → w.cell? ((a.add (i * k)).add j) = some u) (hne : l ≠ []) :
    a = ⟨a.block, a.off, none⟩ ∧ ∀ (i : Nat) (x : α), l[i]? = some x → ∀ (j : Nat) (u : Value), (f x)[j]? = some u → Cw w a.block (a.off + i * k + j) u := by
  have ha : a = ⟨a.block, a.off, none⟩ := by
    cases l with
    | nil => exact absurd rfl hne
    | cons y r =>
      have h0 : 0 < (f y).length := by rw [hk]; exact hk0
      have := h 0 y rfl 0 _ (List.getElem?_eq_getElem h0)
      rw [Nat.zero_mul] at this
      simp only [Addr.add, if_true] at this
      exact cell_spot this
  refine ⟨ha, fun i x hx j u hu => ?_⟩
  have := h i x hx j u hu
  rw [ha, add_lit, add_lit] at this
  exact this
theorem RSl_of {α : Type} {f : α → List Value} {k : Nat} (hk : ∀ x, (f x).length = k) (hk0 : 0 < k) {w : World} {a : Addr} {len cap : Nat} {l : List α} (hl : l.length = len) (h : ∀ (i : Nat) (x : α), l[i]? = some x → ∀ (j : Nat) (u : Value), (f x)[j]? = some u → w.cell? ((a.add (i * k)).add j) = some u) :
    RSl (Cw w) (.slice (some a) len cap) len (l.flatMap f) := by
  subst hl
  refine ⟨some a, cap, rfl, ?_⟩
  by_cases hne : l = []
  · subst hne; exact .inl rfl
  · obtain ⟨ha, hc⟩ := elems_at hk hk0 h hne
    refine .inr ⟨a.block, a.off, congrArg some ha, fun j u hu => ?_⟩
    obtain ⟨i, x, j', hx, hu', e⟩ := flat_inv hk hk0 hu
    have := hc i x hx j' u hu'
    rwa [Nat.add_assoc, ← e] at this
section
variable {H : Type} {enc : TypeId × Value → H} {w : World} {sp : Nat → Bool} {held : Bool} {R : Nat}
theorem open57 {fuel : Nat} {cs : List Value} {x : DataW H × List MemPlace} (h : DataW.trod enc Try.prog w 0 sp held fuel 57 cs = some x) (hw : ∀ n ∈ x.1.weights Try.prog 57, n ≤ R) :
    ∃ (c : Value) (l : List ByteArray), cs = [c] ∧ RSl (Cw w) c l.length (l.flatMap strC) ∧ l.length ≤ R := by
  rcases open_slc Try.underlying57 c9 h hw with rfl | ⟨a, len, cap, fuel', rfl, _, _, hb, hel⟩
  · exact ⟨_, [], rfl, ⟨none, 0, rfl, .inl rfl⟩, Nat.zero_le _⟩
  · obtain ⟨l, hl, hq⟩ := list_of (Q := fun i s => ∀ (j : Nat) (u : Value), (strC s)[j]? = some u → w.cell? ((a.add (i * 1)).add j) = some u) len (fun i hi => by
      obtain ⟨xs, y, h1, h2, h3⟩ := hel i hi
      obtain ⟨s, rfl, _⟩ := open_str Try.underlying9 h2 h3
      exact ⟨s, fun j u hu => (cells_get h1).2 j u hu⟩)
    refine ⟨_, l, rfl, by rw [hl]; exact RSl_of (f := strC) (k := 1) (fun _ => rfl) Nat.one_pos hl hq, ?_⟩
    rw [y9] at hb
    omega
set_option maxRecDepth 100000 in
theorem open59 {fuel : Nat} {cs : List Value} {x : DataW H × List MemPlace} (h : DataW.trod enc Try.prog w 0 sp held fuel 59 cs = some x) (hw : ∀ n ∈ x.1.weights Try.prog 59, n ≤ R) :
    ∃ (n : Nd) (av : Value), cs = n.c av ∧ RSl (Cw w) av n.after.length (n.after.flatMap strC) ∧ n.after.length ≤ R ∧ n.name.size ≤ R ∧ n.arg.size ≤ R ∧ n.to_.size ≤ R := by
  obtain ⟨hlen, fuel', hf⟩ := open_agg Try.underlying59 h hw
  rw [c59] at hlen
  match cs, hlen with
  | [v0, v1, v2, v3, v4, v5, v6], _ =>
    obtain ⟨y0, h0, w0⟩ := hf 0 _ rfl
    obtain ⟨y1, h1, w1⟩ := hf 1 _ rfl
    obtain ⟨y2, h2, w2⟩ := hf 2 _ rfl
    obtain ⟨y3, h3, w3⟩ := hf 3 _ rfl
    obtain ⟨y4, h4, w4⟩ := hf 4 _ rfl
    obtain ⟨y5, h5, w5⟩ := hf 5 _ rfl
    obtain ⟨y6, h6, w6⟩ := hf 6 _ rfl
    simp only [c9, c3, c57] at h0 h1 h2 h3 h4 h5 h6
    obtain ⟨s0, e0', z0⟩ := open_str Try.underlying9 h0 w0
    obtain ⟨i1, e1⟩ := open_i64 Try.underlying3 h1
    obtain ⟨s2, e2, z2⟩ := open_str Try.underlying9 h2 w2
    obtain ⟨s3, e3, z3⟩ := open_str Try.underlying9 h3 w3
    obtain ⟨i4, e4⟩ := open_i64 Try.underlying3 h4
    obtain ⟨i5, e5⟩ := open_i64 Try.underlying3 h5
    obtain ⟨c6, l6, e6, r6, z6⟩ := open57 h6 w6
    simp at e0' e1 e2 e3 e4 e5 e6
    subst e0'; subst e1; subst e2; subst e3; subst e4; subst e5; subst e6
    exact ⟨⟨s0, i1, s2, s3, i4, i5, l6⟩, _, rfl, r6, z6, z0, z2, z3⟩
set_option maxRecDepth 100000 in
theorem open39 {fuel : Nat} {cs : List Value} {x : DataW H × List MemPlace} (h : DataW.trod enc Try.prog w 0 sp held fuel 39 cs = some x) (hw : ∀ n ∈ x.1.weights Try.prog 39, n ≤ R) :
    ∃ a : Inp, cs = a.c ∧ a.text.size ≤ R ∧ a.name.size ≤ R := by
  obtain ⟨hlen, fuel', hf⟩ := open_agg Try.underlying39 h hw
  rw [c39] at hlen
  match cs, hlen with
  | [v0, v1, v2, v3, v4, v5, v6, v7, v8], _ =>
    obtain ⟨y0, h0, w0⟩ := hf 0 _ rfl
    obtain ⟨y1, h1, w1⟩ := hf 1 _ rfl
    obtain ⟨y2, h2, w2⟩ := hf 2 _ rfl
    obtain ⟨y3, h3, w3⟩ := hf 3 _ rfl
    obtain ⟨y4, h4, w4⟩ := hf 4 _ rfl
    obtain ⟨y5, h5, w5⟩ := hf 5 _ rfl
    obtain ⟨y6, h6, w6⟩ := hf 6 _ rfl
    obtain ⟨y7, h7, w7⟩ := hf 7 _ rfl
    obtain ⟨y8, h8, w8⟩ := hf 8 _ rfl
    simp only [c9, c3] at h0 h1 h2 h3 h4 h5 h6 h7 h8
    obtain ⟨i0, e0'⟩ := open_i64 Try.underlying3 h0
    obtain ⟨s1, e1, z1⟩ := open_str Try.underlying9 h1 w1
    obtain ⟨s2, e2, z2⟩ := open_str Try.underlying9 h2 w2
    obtain ⟨s3, e3, z3⟩ := open_str Try.underlying9 h3 w3
    obtain ⟨i4, e4⟩ := open_i64 Try.underlying3 h4
    obtain ⟨i5, e5⟩ := open_i64 Try.underlying3 h5
    obtain ⟨i6, e6⟩ := open_i64 Try.underlying3 h6
    obtain ⟨s7, e7, z7⟩ := open_str Try.underlying9 h7 w7
    obtain ⟨s8, e8, z8⟩ := open_str Try.underlying9 h8 w8
    simp at e0' e1 e2 e3 e4 e5 e6 e7 e8
    subst e0'; subst e1; subst e2; subst e3; subst e4; subst e5; subst e6; subst e7; subst e8
    exact ⟨⟨i0, s1, s2, s3, i4, i5, i6, s7, s8⟩, rfl, z3, z2⟩
set_option maxRecDepth 100000 in
theorem open24 {fuel : Nat} {cs : List Value} {x : DataW H × List MemPlace} (h : DataW.trod enc Try.prog w 0 sp held fuel 24 cs = some x) (hw : ∀ n ∈ x.1.weights Try.prog 24, n ≤ R) (hR : R < 9223372036854775807) :
    ∃ (D : Df) (A : Option Addr) (cap : Nat), cs = [.string D.name, .slice A D.nodes.length cap] ∧ D.nodes.length ≤ cap ∧ RDf (Cw w) (.agg #[.string D.name, .slice A D.nodes.length cap]) D ∧ Texts D := by
  obtain ⟨hlen, fuel', hf⟩ := open_agg Try.underlying24 h hw
  rw [c24] at hlen
  match cs, hlen with
  | [v0, v1], _ =>
    obtain ⟨y0, h0, w0⟩ := hf 0 _ rfl
    obtain ⟨y1, h1, w1⟩ := hf 1 _ rfl
    simp only [c9, c22] at h0 h1
    obtain ⟨s0, e0', z0⟩ := open_str Try.underlying9 h0 w0
    simp at e0'
    subst e0'
    rcases open_slc Try.underlying22 c59 h1 w1 with e1 | ⟨a, len, cap, fuel', e1, hcap, _, hb, hel⟩
    · simp at e1
      subst e1
      exact ⟨⟨s0, []⟩, none, 0, rfl, Nat.le_refl _, ⟨none, 0, rfl, fun i x hx => by simp at hx⟩, by show s0.size < _; omega, (by show (0 : Nat) < _; decide), fun n hn => by cases hn⟩
    · simp at e1
      subst e1
      obtain ⟨l, hl, hq⟩ := list_of (Q := fun i (z : Nd × Value) => (∀ (j : Nat) (u : Value), (z.1.c z.2)[j]? = some u → w.cell? ((a.add (i * 7)).add j) = some u) ∧ RSl (Cw w) z.2 z.1.after.length (z.1.after.flatMap strC) ∧
          z.1.after.length ≤ R ∧ z.1.name.size ≤ R ∧ z.1.arg.size ≤ R ∧ z.1.to_.size ≤ R) len (fun i hi => by
        obtain ⟨xs, y, h1, h2, h3⟩ := hel i hi
        obtain ⟨n, av, rfl, g1, g2, g3, g4, g5⟩ := open59 h2 h3
        exact ⟨(n, av), fun j u hu => (cells_get h1).2 j u hu, g1, g2, g3, g4, g5⟩)
      subst hl
      rw [y59] at hb
      have hll : (l.map (·.1)).length = l.length := by simp
      refine ⟨⟨s0, l.map (·.1)⟩, some a, cap, by simp, by simpa using hcap, ?_, by show s0.size < _; omega, by show (l.map (·.1)).length < _; omega, fun n hn => ?_⟩
      · refine ⟨some a, cap, rfl, fun i x hx => ?_⟩
        simp only [List.getElem?_map, Option.map_eq_some_iff] at hx
        obtain ⟨z, hz, rfl⟩ := hx
        obtain ⟨ha, hc⟩ := elems_at (f := fun z : Nd × Value => z.1.c z.2) (k := 7) (fun _ => rfl) (by decide) (fun i x hx => (hq i x hx).1) (fun hnil => by rw [hnil] at hz; simp at hz)
        exact ⟨a.block, a.off, z.2, congrArg some ha, (hq i z hz).2.1, fun j u hu => hc i z hz j u hu⟩
      · obtain ⟨z, hz, rfl⟩ := List.mem_map.1 hn
        obtain ⟨i, hi⟩ := List.getElem?_of_mem hz
        obtain ⟨_, _, g2, g3, g4, g5⟩ := hq i z hi
        exact ⟨by omega, by omega, by omega, by omega⟩
set_option maxRecDepth 100000 in
theorem open25 {fuel : Nat} {cs : List Value} {x : DataW H × List MemPlace} (h : DataW.trod enc Try.prog w 0 sp held fuel 25 cs = some x) (hw : ∀ n ∈ x.1.weights Try.prog 25, n ≤ R) (hR : R < 9223372036854775807) :
    ∃ (c : Value) (l : List Inp), cs = [c] ∧ RSl (Cw w) c l.length (l.flatMap Inp.c) ∧ InOK l := by
  rcases open_slc Try.underlying25 c39 h hw with rfl | ⟨a, len, cap, fuel', rfl, _, _, hb, hel⟩
  · exact ⟨_, [], rfl, ⟨none, 0, rfl, .inl rfl⟩, by decide, fun a ha => by cases ha⟩
  · obtain ⟨l, hl, hq⟩ := list_of (Q := fun i (z : Inp) => (∀ (j : Nat) (u : Value), z.c[j]? = some u → w.cell? ((a.add (i * 9)).add j) = some u) ∧ z.text.size ≤ R ∧ z.name.size ≤ R) len (fun i hi => by
      obtain ⟨xs, y, h1, h2, h3⟩ := hel i hi
      obtain ⟨z, rfl, g1, g2⟩ := open39 h2 h3
      exact ⟨z, fun j u hu => (cells_get h1).2 j u hu, g1, g2⟩)
    rw [y39] at hb
    refine ⟨_, l, rfl, by rw [hl]; exact RSl_of inp_len (by decide) hl (fun i x hx => (hq i x hx).1), by omega, fun z hz => ?_⟩
    obtain ⟨i, hi⟩ := List.getElem?_of_mem hz
    obtain ⟨_, g1, g2⟩ := hq i z hi
    exact ⟨by omega, by omega⟩
end
end Go.Proofs.Ytdnjfmgldkommaa
