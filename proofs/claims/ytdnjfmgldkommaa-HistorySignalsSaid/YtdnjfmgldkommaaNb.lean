/- Proved here: a byte becomes a text. -/
import Derived.Test.YtdnjfmgldkommaaLa
import Derived.Laws.BytesArg
namespace Go.Sx
section
variable {P : Program} {ops : Array Oper} {Q : Exit → Act → World → Prop} {K : Act → World → Prop} {a : Act} {w : World}
def wpX (P : Program) (ops : Array Oper) : List Oper → (Act → World → Prop) → Act → World → Prop
  | [], K => K
  | o :: r, K => fun a w => stepE P ops o [] (wpX P ops r K) a w ∨ (o.guard = none ∧ ∃ v, (execOp a.eval o).run P w = .ok (.value v) w ∧ wpX P ops r K (a.put o.dst v) w)
theorem wpOp_of_read {i : Nat} {o : Oper} {v : Value} (hi : ops[i]? = some o) (hg : o.guard = none) (h1 : (execOp a.eval o).run P w = .ok (.value v) w) (h2 : K (a.put o.dst v) w) : wpOp P ops Q i K a w := by
  unfold wpOp
  simp only [hi]
  simp only [wanted_none hg, if_true]
  refine .inl ?_
  unfold Oper.wp
  rw [h1]
  exact h2
theorem wpOps_of_wpX : ∀ (l : List Oper) (k : Nat), (∀ j, l[j]? = ops[k + j]?) → ∀ a w, wpX P ops l (Q .normal) a w → wpOps P ops Q (List.range' k l.length) a w := by
  intro l
  induction l with
  | nil => intro k _ a w h; simpa [wpOps, wpX] using h
  | cons o l ih =>
    intro k hl a w h
    have h0 : ops[k]? = some o := by simpa using (hl 0).symm
    rw [List.length_cons, List.range'_succ, wpOps_cons]
    have hm : ∀ a w, wpX P ops l (Q .normal) a w → wpOps P ops Q (List.range' (k + 1) l.length) a w := fun a w h => ih (k + 1) (fun j => by have := hl (j + 1); simpa [Nat.add_assoc, Nat.add_comm 1 j] using this) a w h
    rcases h with h | ⟨hg, v, h1, h2⟩
    · exact wpOp_mono hm (wpOp_of_stepE h0 h)
    · exact wpOp_mono hm (wpOp_of_read h0 hg h1 h2)
theorem wp_region_X {id : Nat} {l : List Oper} (h : wpX P l.toArray l (Q .normal) a w) : (Code.region id l.toArray false).wp P Q a w :=
  wp_region (by
    rw [List.range_eq_range']
    have := wpOps_of_wpX (P := P) (ops := l.toArray) (Q := Q) l 0 (by simp) a w h
    simpa using this)
end
section
variable {P : Program} {ops : Array Oper} {w0 : World} {Mod : List Nat} {n : Nat} {F : FL} {M : ML} {K : Act → World → Prop} {Q : Exit → Act → World → Prop}
theorem SK.regionX {id : Nat} {l : List Oper} (h : SK w0 Mod n (wpX P l.toArray l (Q .normal)) F M) : SK w0 Mod n ((Code.region id l.toArray false).wp P Q) F M :=
  fun _ _ hf hm => wp_region_X (h _ _ hf hm)
theorem SK.nextTX {o : Oper} {r : List Oper} (h : SK w0 Mod n (stepE P ops o [] (wpX P ops r K)) F M) : SK w0 Mod n (wpX P ops (o :: r) K) F M := fun a w hf hm => .inl (h a w hf hm)
theorem SK.nextTD (h : SK w0 Mod n K F M) : SK w0 Mod n (wpX P ops [] K) F M := h
end
end Go.Sx
namespace Go.Proofs.Ytdnjfmgldkommaa
open Go.Sx
theorem und65 : Try.prog.underlying 65 = some (.slice 5) := by kernel_rfl
theorem und5u : Try.prog.underlying 5 = some (.int .u8) := by kernel_rfl
theorem und9s : Try.prog.underlying 9 = some .string := by kernel_rfl
theorem und3s : (Try.prog.underlying 3).isSome = true := by kernel_rfl
theorem und5k : Try.prog.underlying 5 = some (.int (Try.prog.intKind 5)) := by kernel_rfl
theorem knd5 : Try.prog.intKind 5 = .u8 := by kernel_rfl
section
variable {ops : Array Oper} {w0 : World} {Mod : List Nat} {n : Nat} {F : FL} {M : ML} {K : Act → World → Prop} {ty : TypeId} {pos : String} {aft : Array Edge} {d : Nat}
theorem SK.nextTB {x : Operand} {b cap : Nat} {v : Int} {sp : List Value} {T' : TypeId} {r : List Oper} (hd : Nat.blt d n = true) (hx : ev F x = some (.slice (some ⟨b, 0, none⟩) 1 cap)) (hb : some (b, .int .u8 v :: sp, T') ∈ M)
    (h : SK w0 Mod n (wpX Try.prog ops r K) ((d, .string (strOfNums [v])) :: F) M) : SK w0 Mod n (wpX Try.prog ops (⟨some d, .convert 65 9 x, ty, pos, aft, none⟩ :: r) K) F M :=
  fun a w hf hm => .inr ⟨rfl, _, by
    have := run_convert_bytes_arg (P := Try.prog) w 65 5 und65 und5u b 0 1 cap [v] rfl (fun i hi => by
      have : i = 0 := by omega
      subst this
      rw [hm.cell hb]
      rfl) 9 und9s
    simp only [execOp, hf.ev hx, Sem.run_bind, this, Result.andThen_ok, Sem.run_pure], h _ _ (hf.put hd _) hm⟩
end
def nmS (i : Nat) : ByteArray := strOfNums [IntKind.u8.wrap (IntKind.i64.wrap (97 + (i : Int)))]
theorem nmS_all : (List.range 12).all (fun i => decide ((nmS i).size = 1) && (List.range 12).all (fun j => decide (nmS i = nmS j → i = j))) = true := by kernel_rfl
theorem nmS_size {i : Nat} (h : i < 12) : (nmS i).size = 1 := by
  have := List.all_eq_true.1 nmS_all i (List.mem_range.2 h)
  simp only [Bool.and_eq_true, decide_eq_true_eq] at this
  exact this.1
theorem nmS_inj {i j : Nat} (hi : i < 12) (hj : j < 12) (h : nmS i = nmS j) : i = j := by
  have := List.all_eq_true.1 nmS_all i (List.mem_range.2 hi)
  simp only [Bool.and_eq_true, decide_eq_true_eq] at this
  have := List.all_eq_true.1 this.2 j (List.mem_range.2 hj)
  simp only [decide_eq_true_eq] at this
  exact this h
end Go.Proofs.Ytdnjfmgldkommaa
