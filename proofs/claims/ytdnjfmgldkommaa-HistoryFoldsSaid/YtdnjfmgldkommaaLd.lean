/- Proved here: further arguments are opened. -/
import Derived.Test.YtdnjfmgldkommaaLb
namespace Go.Proofs.Ytdnjfmgldkommaa
open Go.Sx
theorem c4 : Try.prog.cellsOf 4 = 1 := by kernel_rfl
theorem c70 : Try.prog.cellsOf 70 = 4 := by kernel_rfl
theorem c60 : Try.prog.cellsOf 60 = 1 := by kernel_rfl
theorem c64 : Try.prog.cellsOf 64 = 4 := by kernel_rfl
theorem y4 : Try.prog.bytesOf 4 = 1 := by kernel_rfl
theorem y70 : Try.prog.bytesOf 70 = 48 := by kernel_rfl
section
variable {H : Type} {enc : TypeId × Value → H} {P : Program} {w : World} {sp : Nat → Bool} {held : Bool} {R : Nat}
theorem open_bool {T : Nat} (hu : P.underlying T = some .bool) {fuel : Nat} {cs : List Value} {x : DataW H × List MemPlace} (h : DataW.trod enc P w 0 sp held fuel T cs = some x) : ∃ n, cs = [.bool n] := by
  obtain ⟨n, h1, _⟩ := DataW.trod_bool hu h
  exact ⟨n, h1⟩
end
section
variable {H : Type} {enc : TypeId × Value → H} {w : World} {sp : Nat → Bool} {held : Bool} {R : Nat}
theorem open9 {fuel : Nat} {s : ByteArray} {x : DataW H × List MemPlace} (h : DataW.trod enc Try.prog w 0 sp held fuel 9 [.string s] = some x) (hw : ∀ n ∈ x.1.weights Try.prog 9, n ≤ R) : s.size ≤ R := by
  obtain ⟨t, h1, h2⟩ := open_str Try.underlying9 h hw
  cases h1
  exact h2
set_option maxRecDepth 100000 in
theorem open60 {fuel : Nat} {cs : List Value} {x : DataW H × List MemPlace} (h : DataW.trod enc Try.prog w 0 sp held fuel 60 cs = some x) (hw : ∀ n ∈ x.1.weights Try.prog 60, n ≤ R) (hR : R < 9223372036854775807) :
    ∃ (c : Value) (l : List Bool), cs = [c] ∧ RSl (Cw w) c l.length (l.flatMap boolC) ∧ l.length < 9223372036854775807 := by
  rcases open_slc Try.underlying60 c4 h hw with rfl | ⟨a, len, cap, fuel', rfl, _, _, hb, hel⟩
  · exact ⟨_, [], rfl, ⟨none, 0, rfl, .inl rfl⟩, by decide⟩
  · obtain ⟨l, hl, hq⟩ := list_of (Q := fun i s => ∀ (j : Nat) (u : Value), (boolC s)[j]? = some u → w.cell? ((a.add (i * 1)).add j) = some u) len (fun i hi => by
      obtain ⟨xs, y, h1, h2, h3⟩ := hel i hi
      obtain ⟨s, rfl⟩ := open_bool Try.underlying4 h2
      exact ⟨s, fun j u hu => (cells_get h1).2 j u hu⟩)
    refine ⟨_, l, rfl, by rw [hl]; exact RSl_of (f := boolC) (k := 1) (fun _ => rfl) Nat.one_pos hl hq, ?_⟩
    rw [y4] at hb
    omega
set_option maxRecDepth 100000 in
theorem open70 {fuel : Nat} {cs : List Value} {x : DataW H × List MemPlace} (h : DataW.trod enc Try.prog w 0 sp held fuel 70 cs = some x) (hw : ∀ n ∈ x.1.weights Try.prog 70, n ≤ R) :
    ∃ a : Ev, cs = a.c ∧ a.node.size ≤ R ∧ a.text.size ≤ R := by
  obtain ⟨hlen, fuel', hf⟩ := open_agg Try.underlying70 h hw
  rw [c70] at hlen
  match cs, hlen with
  | [v0, v1, v2, v3], _ =>
    obtain ⟨y0, h0, w0⟩ := hf 0 _ rfl
    obtain ⟨y1, h1, w1⟩ := hf 1 _ rfl
    obtain ⟨y2, h2, w2⟩ := hf 2 _ rfl
    obtain ⟨y3, h3, w3⟩ := hf 3 _ rfl
    simp only [c9, c3] at h0 h1 h2 h3
    obtain ⟨i0, e0'⟩ := open_i64 Try.underlying3 h0
    obtain ⟨s1, e1, z1⟩ := open_str Try.underlying9 h1 w1
    obtain ⟨s2, e2, z2⟩ := open_str Try.underlying9 h2 w2
    obtain ⟨i3, e3⟩ := open_i64 Try.underlying3 h3
    simp at e0' e1 e2 e3
    subst e0'; subst e1; subst e2; subst e3
    exact ⟨⟨i0, s1, s2, i3⟩, rfl, z1, z2⟩
def EvOK (c : Value) (l : List Ev) : Prop := l.length < 9223372036854775807 ∧ ∀ A n cap, c = .slice A n cap → n ≤ cap
set_option maxRecDepth 100000 in
theorem open34 {fuel : Nat} {cs : List Value} {x : DataW H × List MemPlace} (h : DataW.trod enc Try.prog w 0 sp held fuel 34 cs = some x) (hw : ∀ n ∈ x.1.weights Try.prog 34, n ≤ R) (hR : R < 9223372036854775807) :
    ∃ (c : Value) (l : List Ev), cs = [c] ∧ RSl (Cw w) c l.length (l.flatMap Ev.c) ∧ EvOK c l := by
  rcases open_slc Try.underlying34 c70 h hw with rfl | ⟨a, len, cap, fuel', rfl, hcap, _, hb, hel⟩
  · exact ⟨_, [], rfl, ⟨none, 0, rfl, .inl rfl⟩, by decide, fun A n cap h => by cases h; exact Nat.le_refl _⟩
  · obtain ⟨l, hl, hq⟩ := list_of (Q := fun i (z : Ev) => (∀ (j : Nat) (u : Value), z.c[j]? = some u → w.cell? ((a.add (i * 4)).add j) = some u)) len (fun i hi => by
      obtain ⟨xs, y, h1, h2, h3⟩ := hel i hi
      obtain ⟨z, rfl, _, _⟩ := open70 h2 h3
      exact ⟨z, fun j u hu => (cells_get h1).2 j u hu⟩)
    rw [y70] at hb
    exact ⟨_, l, rfl, by rw [hl]; exact RSl_of ev_len (by decide) hl (fun i x hx => hq i x hx), by omega, fun A n cap' h => by cases h; exact hcap⟩
structure Cz where
  m : Int
  v : Value
  l : List Bool
  f : Bool
  p : Bool
set_option maxRecDepth 100000 in
theorem open64 {fuel : Nat} {cs : List Value} {x : DataW H × List MemPlace} (h : DataW.trod enc Try.prog w 0 sp held fuel 64 cs = some x) (hw : ∀ n ∈ x.1.weights Try.prog 64, n ≤ R) (hR : R < 9223372036854775807) :
    ∃ c : Cz, cs = [.int .i64 c.m, c.v, .bool c.f, .bool c.p] ∧ RSl (Cw w) c.v c.l.length (c.l.flatMap boolC) ∧ c.l.length < 9223372036854775807 := by
  obtain ⟨hlen, fuel', hf⟩ := open_agg Try.underlying64 h hw
  rw [c64] at hlen
  match cs, hlen with
  | [v0, v1, v2, v3], _ =>
    obtain ⟨y0, h0, w0⟩ := hf 0 _ rfl
    obtain ⟨y1, h1, w1⟩ := hf 1 _ rfl
    obtain ⟨y2, h2, w2⟩ := hf 2 _ rfl
    obtain ⟨y3, h3, w3⟩ := hf 3 _ rfl
    simp only [c4, c3, c60] at h0 h1 h2 h3
    obtain ⟨i0, e0'⟩ := open_i64 Try.underlying3 h0
    obtain ⟨c1, l1, e1, r1, z1⟩ := open60 h1 w1 hR
    obtain ⟨b2, e2⟩ := open_bool Try.underlying4 h2
    obtain ⟨b3, e3⟩ := open_bool Try.underlying4 h3
    simp at e0' e1 e2 e3
    subst e0'; subst e1; subst e2; subst e3
    exact ⟨⟨i0, v1, l1, b2, b3⟩, rfl, r1, z1⟩
end
end Go.Proofs.Ytdnjfmgldkommaa
