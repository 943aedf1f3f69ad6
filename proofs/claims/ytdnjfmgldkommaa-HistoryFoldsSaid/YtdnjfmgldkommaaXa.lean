/- Proved here: a loop over a function: the rules of a round and of a call of yield. -/
import Derived.Test.YtdnjfmgldkommaaLa
import Derived.Test.YtdnjfmgldkommaaQa
import Derived.RangeFuncLeaves
import Derived.RangeFuncSeq
import Derived.OrdersIn
import Derived.RangeFuncOwn
namespace Go.Sx
abbrev Fr (l : Nat) : Fence := Fence.wide.inRound l
def noDefer (ops : Array Oper) : Bool := ops.toList.all fun o => match o.op with | .defer _ => false | _ => true
theorem noDefer_at {ops : Array Oper} (h : noDefer ops = true) {i : Nat} {o : Oper} (hi : ops[i]? = some o) : ∀ c, o.op ≠ .defer c := by
  intro c hc
  have := List.all_eq_true.1 h o (by have := Array.mem_of_getElem? hi; exact Array.mem_toList_iff.2 this)
  rw [hc] at this
  cases this
section
variable {P : Program} {ops : Array Oper} {Q : Exit → Act → World → Prop} {K : Act → World → Prop} {a : Act} {w : World} {l m : Nat}
theorem rowsIn_fr {row : String} {args : Array Value} {R : Value → World → Prop} (h : Rows P row args w R) : RowsIn (Fr l) m P row args w R :=
  fun c cs _ => let ⟨v, w', r, s⟩ := h c cs; ⟨v, w', r, stepsIn_wide.2 s⟩
theorem no_depth {q : Prop} : (Fr l).depth.isSome = true → q := fun hd => by
  have hd : (none : Option Nat).isSome = true := hd
  cases hd
theorem wpOpIn_of {i : Nat} (hlo : ∀ a w, ¬ Q .outgrown a w) (hnd : noDefer ops = true) (h : wpOp P ops Q i K a w) : wpOpIn (Fr l) m P ops Q i K a w := by
  unfold wpOp at h
  unfold wpOpIn
  cases hi : ops[i]? with
  | none => simpa [hi] using h
  | some o =>
    simp only [hi] at h ⊢
    split at h
    · rename_i hw
      rw [if_pos hw]
      rcases h with h | ⟨_, a0, w0, hq⟩
      · refine ⟨fun _ _ => trivial, ?_⟩
        rw [Oper.semAt_eq _ _ _ (noDefer_at hnd hi)]
        unfold Oper.wp at h
        generalize (execOp a.eval o).run P w = r at h ⊢
        cases r with
        | ok x w' =>
          cases x with
          | enter f args =>
            have h : Calls P f args w' _ := h
            have h2 : CallsIn Fence.wide (m - 1) P f args w' _ := callsIn_wide.2 h
            exact ⟨no_depth, h2⟩
          | row r args => exact ⟨no_depth, rowsIn_fr h⟩
          | value v => exact h
          | skip => exact h
          | defer d => exact h
          | _ => exact False.elim h
        | halt x w' => cases x <;> simp only [Oper.upon] at h <;> simp only [Oper.uponIn] <;> first | exact h | exact h.elim
      · exact absurd hq (hlo a0 w0)
    · rename_i hw
      rw [if_neg hw]
      exact ⟨fun _ _ => trivial, h⟩
theorem wpOpsIn_of (hlo : ∀ a w, ¬ Q .outgrown a w) (hnd : noDefer ops = true) : ∀ (is : List Nat) (a : Act) (w : World), wpOps P ops Q is a w → wpOpsIn (Fr l) m P ops Q is a w
  | [], a, w, h => h
  | i :: is, a, w, h => by
    rw [wpOpsIn_cons]
    rw [wpOps_cons] at h
    exact wpOpIn_mono (fun a w h => wpOpsIn_of hlo hnd is a w h) (wpOpIn_of hlo hnd h)
theorem wpAnyIn_of (hlo : ∀ a w, ¬ Q .outgrown a w) (hnd : noDefer ops = true) : ∀ (fuel : Nat) (L : Array Bool) (a : Act) (w : World), wpAny P .any ops Q fuel L a w → wpAnyIn (Fr l) m P .any ops Q fuel L a w
  | 0, L, a, w, h => h
  | fuel + 1, L, a, w, h => ⟨h.1, fun i hi => wpOpIn_mono (fun a w h => wpAnyIn_of hlo hnd fuel _ a w h) (wpOpIn_of hlo hnd (h.2 i hi))⟩
theorem regionT_R {id : Nat} {is : List Oper} (hlo : ∀ a w, ¬ Q .outgrown a w) (hnd : noDefer is.toArray = true) (h : wpT P is.toArray is (Q .normal) a w) : (Code.region id is.toArray false).wpIn (Fr l) m P Q a w :=
  wpIn_region (wpOpsIn_of hlo hnd _ _ _ (by
    rw [List.range_eq_range']
    have := wpOps_of_wpT (P := P) (ops := is.toArray) (Q := Q) is 0 (by simp) a w h
    simpa using this))
theorem any_of_I {ord : List Ent} (hok : ordOK ops ord = true) (h : wpI P ops ord (Q .normal) a w) : wpAny P .any ops Q ops.size (Array.replicate ops.size false) a w := by
  have H := ordOK_spec hok
  refine wpAny_of_wpI H ops.size _ a _ (by simp) ?_ ?_ ?_
  · intro i o ho hL
    exfalso
    have := (Array.getElem?_eq_some_iff.1 ho).1
    simp [Array.getD, this] at hL
  · exact Nat.le_trans (List.length_filterMap_le _ _) H.len
  · have e : rst (Array.replicate ops.size false) ord = ord := by
      unfold rst
      have : ∀ j, (Array.replicate ops.size false).getD j false = false := by
        intro j
        simp [Array.getD]
      simp [this]
      conv => rhs; rw [← List.map_id ord]
      refine List.map_congr_left fun x _ => ?_
      obtain ⟨i, c⟩ := x
      have : c.filter (fun _ => true) = c := List.filter_eq_self.2 (by simp)
      simp [this]
    rw [e]; exact h
theorem any_of_Tr {l : List Nat} {c : Ch} (hok : treeOK ops l c = true) (h : wpI P ops (bare l) (wpC P ops c (Q .normal)) a w) : wpAny P .any ops Q ops.size (Array.replicate ops.size false) a w := by
  simp only [treeOK, Bool.and_eq_true] at hok
  obtain ⟨⟨h1, h2⟩, h3⟩ := hok
  have hz : ∀ j, (Array.replicate ops.size false).getD j false = false := by
    intro j
    simp [Array.getD]
  refine wpAny_of_Tr (pre := preOf ops.toList []) ?_ ops.size _ l l c a _ (by simp) ?_ ?_ ?_ h2 h3 ?_ ?_
  · intro i o ho k hk
    have := List.all_eq_true.1 h1 i (List.mem_range.2 (Array.getElem?_eq_some_iff.1 ho).1)
    simp only [preOK, ho] at this
    have := List.all_eq_true.1 this k hk
    simp only [Bool.or_eq_true, List.contains_iff_mem, List.any_eq_true] at this
    exact this
  · intro i o ho hL
    rw [hz] at hL; cases hL
  · intro i _; exact hz i
  · intro i hi hn; exact absurd hi hn
  · exact Nat.le_trans (List.length_filter_le _ _) (by simp)
  · have e : lft (Array.replicate ops.size false) l = l := List.filter_eq_self.2 fun x _ => by rw [hz]; rfl
    rw [e]; exact h
theorem regionI_R {id : Nat} {ord : List Ent} (hm : P.follows .mixedOrders = true) (hlo : ∀ a w, ¬ Q .outgrown a w) (hnd : noDefer ops = true) (hok : ordOK ops ord = true)
    (h : wpI P ops ord (Q .normal) a { w with drawn := w.drawn + 1 }) : (Code.region id ops true).wpIn (Fr l) m P Q a w :=
  wpIn_region_any hm (wpAnyIn_of hlo hnd _ _ _ _ (any_of_I hok h))
theorem regionD_R {id : Nat} {is : List Nat} {c : Ch} (hm : P.follows .mixedOrders = true) (hlo : ∀ a w, ¬ Q .outgrown a w) (hnd : noDefer ops = true) (hok : treeOK ops is c = true)
    (h : wpI P ops (bare is) (wpC P ops c (Q .normal)) a { w with drawn := w.drawn + 1 }) : (Code.region id ops true).wpIn (Fr l) m P Q a w :=
  wpIn_region_any hm (wpAnyIn_of hlo hnd _ _ _ _ (any_of_Tr hok h))
end
class NoOut (Q : Exit → Act → World → Prop) : Prop where
  no : ∀ a w, ¬ Q .outgrown a w
instance {K : Act → World → Prop} {Q : Exit → Act → World → Prop} [h : NoOut Q] : NoOut (Exit.then K Q) := ⟨h.no⟩
section
variable {P : Program} {w0 : World} {Mod : List Nat} {n : Nat} {F : FL} {M : ML} {Q : Exit → Act → World → Prop} {l m : Nat}
theorem SK.nextTRseq {x y : Code} (h : SK w0 Mod n (x.wpIn (Fr l) m P (Exit.then (y.wpIn (Fr l) m P Q) Q)) F M) : SK w0 Mod n ((Code.seq x y).wpIn (Fr l) m P Q) F M := fun a w hf hm => wpIn_seq (h a w hf hm)
theorem SK.nextTRskip (h : SK w0 Mod n (Q .normal) F M) : SK w0 Mod n (Code.skip.wpIn (Fr l) m P Q) F M := fun a w hf hm => wpIn_skip (h a w hf hm)
theorem SK.nextTRret (h : SK w0 Mod n (Q .ret) F M) : SK w0 Mod n (Code.ret.wpIn (Fr l) m P Q) F M := fun a w hf hm => wpIn_ret (h a w hf hm)
theorem SK.nextTRblk {id : Nat} {c : Code} (h : SK w0 Mod n (c.wpIn (Fr l) m P (Exit.inBlock id Q)) F M) : SK w0 Mod n ((Code.block id c).wpIn (Fr l) m P Q) F M := fun a w hf hm => wpIn_block (h a w hf hm)
theorem SK.nextTRcT {c : Operand} {x y : Code} (hc : ev F c = some (.bool true)) (h : SK w0 Mod n (x.wpIn (Fr l) m P Q) F M) : SK w0 Mod n ((Code.cond c x y).wpIn (Fr l) m P Q) F M := fun a w hf hm => wpIn_cond_true (hf.ev hc) (h a w hf hm)
theorem SK.nextTRcF {c : Operand} {x y : Code} (hc : ev F c = some (.bool false)) (h : SK w0 Mod n (y.wpIn (Fr l) m P Q) F M) : SK w0 Mod n ((Code.cond c x y).wpIn (Fr l) m P Q) F M := fun a w hf hm => wpIn_cond_false (hf.ev hc) (h a w hf hm)
theorem SK.nextTRreg {id : Nat} {is : List Oper} [hQ : NoOut Q] (hnd : noDefer is.toArray = true) (h : SK w0 Mod n (wpT P is.toArray is (Q .normal)) F M) : SK w0 Mod n ((Code.region id is.toArray false).wpIn (Fr l) m P Q) F M :=
  fun a w hf hm => regionT_R hQ.no hnd (h a w hf hm)
theorem SK.nextTRI {id : Nat} {ops : Array Oper} [hQ : NoOut Q] (ord : List Ent) (hm : P.follows .mixedOrders = true) (hnd : noDefer ops = true) (hok : ordOK ops ord = true) (h : SK w0 Mod n (wpI P ops ord (Q .normal)) F M) : SK w0 Mod n ((Code.region id ops true).wpIn (Fr l) m P Q) F M :=
  fun a w hf hw => regionI_R hm hQ.no hnd hok (h a _ hf hw.drew)
theorem SK.nextTRD {id : Nat} {ops : Array Oper} [hQ : NoOut Q] (is : List Nat) (c : Ch) (hm : P.follows .mixedOrders = true) (hnd : noDefer ops = true) (hok : treeOK ops is c = true) (h : SK w0 Mod n (wpI P ops (bare is) (wpC P ops c (Q .normal))) F M) : SK w0 Mod n ((Code.region id ops true).wpIn (Fr l) m P Q) F M :=
  fun a w hf hw => regionD_R hm hQ.no hnd hok (h a _ hf hw.drew)
end
end Go.Sx
namespace Go.Sx
theorem keys_self {w0 : World} {Mod : List Nat} {M : ML} {w : World} (hm : Mem w0 Mod M w) {l : Nat} {o : Obj} (hl : w.heap[l]? = some o) (hnc : o.isCells = false) : l ∉ keys M := by
  intro h
  obtain ⟨cs, T, he⟩ := mem_keys.1 h
  rw [hm.blk l cs T he] at hl
  cases hl
  cases hnc
theorem Mem.put {w0 : World} {Mod : List Nat} {M : ML} {w : World} (hm : Mem w0 Mod M w) {l : Nat} {o : Obj} (o' : Obj) (hl : w.heap[l]? = some o) (hnc : o.isCells = false) : Mem (w.putObj l o') (keys M) M (w.putObj l o') := by
  refine ⟨hm.nodup, fun b cs T he => ?_, Nat.le_refl _, fun _ _ _ => rfl, fun b hb => .inl hb, rfl, rfl, rfl⟩
  have hb := hm.blk b cs T he
  rw [World.putObj_heap_other (by rintro rfl; rw [hl] at hb; cases hb; cases hnc)]
  exact hb
structure RB (w : World) (Mf : ML) (l : Nat) (rec : Loop) (M' : ML) (w₂ : World) : Prop where
  hl : w.heap[l]? = some (.loop rec)
  st : rec.state = .ready
  pe : rec.pending = none
  ln : l ∉ keys Mf
  mem : Mem w₂ (keys M') M' w₂
  vw : ∀ b o v, Vw w (keys Mf) b o v → Vw w₂ (keys M') b o v
  busy : w₂.heap[l]? = some (.loop { rec with state := .busy })
  lm : l ∉ keys M'
  le : w.heap.size ≤ w₂.heap.size
  old : ∀ b, b < w.heap.size → b ∉ keys Mf → b ≠ l → b ∉ keys M' ∧ w₂.heap[b]? = w.heap[b]?
  fresh : ∀ b ∈ keys M', b ∈ keys Mf ∨ w.heap.size ≤ b
  os : w₂.os = w.os
  tape : w₂.tape = w.tape
  output : w₂.output = w.output
theorem RB.mk' {w w₁ : World} {Mf M' : ML} {l : Nat} {rec : Loop} (hl : w.heap[l]? = some (.loop rec)) (st : rec.state = .ready) (pe : rec.pending = none) (ln : l ∉ keys Mf) (hm : Mem w (keys Mf) M' w₁) :
    RB w Mf l rec M' (w₁.putObj l (.loop { rec with state := .busy })) := by
  have hlt : l < w.heap.size := (Array.getElem?_eq_some_iff.1 hl).1
  have hl1 : w₁.heap[l]? = some (.loop rec) := by rw [hm.old l hlt ln, hl]
  have hlt1 : l < w₁.heap.size := (Array.getElem?_eq_some_iff.1 hl1).1
  have lm : l ∉ keys M' := keys_self hm hl1 rfl
  have hin : ∀ b, b < w.heap.size → b ∉ keys Mf → b ∉ keys M' := fun b hb hbf hbm => by
    rcases hm.fresh b hbm with h | h
    · exact hbf h
    · omega
  refine ⟨hl, st, pe, ln, hm.put _ hl1 rfl, fun b o v hv => ?_, World.putObj_heap_same hlt1, lm, by rw [World.putObj_size]; exact hm.size, fun b hb hbf hbl => ⟨hin b hb hbf, by rw [World.putObj_heap_other hbl]; exact hm.old b hb hbf⟩, hm.fresh, hm.os, hm.tape, hm.output⟩
  obtain ⟨h1, h2, h3⟩ := id hv
  have hc := hm.view hv
  refine ⟨by rw [World.putObj_size]; have := hm.size; omega, hin b h1 h2, ?_⟩
  exact cell_kept hc (grownBy_putObj' w₁ l _) (fun r e => by cases e; exact ⟨_, hl1, rfl⟩)
theorem RB.goes {w w₂ w₃ : World} {Mf M' M3 N : ML} {l : Nat} {rec : Loop} (h : RB w Mf l rec M' w₂) (hm : Mem w₂ (keys M') M3 w₃) (hw : Wk M3 N) :
    (Instr.endRound l none).run Go.Proofs.Try.prog w₃ = .ok (.bool true) (w₃.putObj l (.loop { rec with state := .ready, pending := none })) ∧ Mem w (keys Mf) N (w₃.putObj l (.loop { rec with state := .ready, pending := none })) := by
  have hlt2 : l < w₂.heap.size := (Array.getElem?_eq_some_iff.1 h.busy).1
  have hl3 : w₃.heap[l]? = some (.loop { rec with state := .busy }) := by rw [hm.old l hlt2 h.lm, h.busy]
  have hlt3 : l < w₃.heap.size := (Array.getElem?_eq_some_iff.1 hl3).1
  have hN := hm.wk hw
  have hrec : ({ rec with state := .ready, pending := none } : Loop) = rec := by
    have h1 := h.st
    have h2 := h.pe
    cases rec
    simp_all
  refine ⟨by have := run_endRound (P := Go.Proofs.Try.prog) (w := w₃) (l := l) none hl3; exact this, ⟨hN.nodup, fun b cs T he => ?_, by rw [World.putObj_size]; have := h.le; have := hm.size; omega, fun b hb hbf => ?_, fun b hb => ?_, hm.os.trans h.os, hm.tape.trans h.tape, hm.output.trans h.output⟩⟩
  · have hb := hN.blk b cs T he
    rw [World.putObj_heap_other (by rintro rfl; rw [hl3] at hb; cases hb)]
    exact hb
  · by_cases hbl : b = l
    · subst hbl
      rw [World.putObj_heap_same hlt3, h.hl, hrec]
    · rw [World.putObj_heap_other hbl]
      obtain ⟨g1, g2⟩ := h.old b hb hbf hbl
      rw [hm.old b (by have := h.le; omega) g1, g2]
  · rcases hN.fresh b hb with g | g
    · exact h.fresh b g
    · exact .inr (by have := h.le; omega)
theorem RB.leaves {w w₂ w₃ : World} {Mf M' M3 N : ML} {l : Nat} {rec : Loop} (h : RB w Mf l rec M' w₂) (hm : Mem w₂ (keys M') M3 w₃) (hw : Wk M3 N) :
    (Instr.endRound l (some .ret)).run Go.Proofs.Try.prog w₃ = .ok (.bool false) (w₃.putObj l (.loop { rec with state := .done, pending := some .ret })) ∧ Mem w (l :: keys Mf) N (w₃.putObj l (.loop { rec with state := .done, pending := some .ret })) ∧
    (w₃.putObj l (.loop { rec with state := .done, pending := some .ret })).heap[l]? = some (.loop { rec with state := .done, pending := some .ret }) := by
  have hlt2 : l < w₂.heap.size := (Array.getElem?_eq_some_iff.1 h.busy).1
  have hl3 : w₃.heap[l]? = some (.loop { rec with state := .busy }) := by rw [hm.old l hlt2 h.lm, h.busy]
  have hlt3 : l < w₃.heap.size := (Array.getElem?_eq_some_iff.1 hl3).1
  have hN := hm.wk hw
  refine ⟨by have := run_endRound (P := Go.Proofs.Try.prog) (w := w₃) (l := l) (some .ret) hl3; exact this, ⟨hN.nodup, fun b cs T he => ?_, by rw [World.putObj_size]; have := h.le; have := hm.size; omega, fun b hb hbf => ?_, fun b hb => ?_, hm.os.trans h.os, hm.tape.trans h.tape, hm.output.trans h.output⟩, World.putObj_heap_same hlt3⟩
  · have hb := hN.blk b cs T he
    rw [World.putObj_heap_other (by rintro rfl; rw [hl3] at hb; cases hb)]
    exact hb
  · simp only [List.mem_cons, not_or] at hbf
    rw [World.putObj_heap_other hbf.1]
    obtain ⟨g1, g2⟩ := h.old b hb hbf.2 hbf.1
    rw [hm.old b (by have := h.le; omega) g1, g2]
  · rcases hN.fresh b hb with g | g
    · rcases h.fresh b g with g | g
      · exact .inl (List.mem_cons_of_mem _ g)
      · exact .inr g
    · exact .inr (by have := h.le; omega)
section
variable {P : Program} {ops : Array Oper} {Q : Exit → Act → World → Prop} {K : Act → World → Prop} {a : Act} {w : World}
theorem wide_depth {q : Prop} : Fence.wide.depth.isSome = true → q := fun hd => by
  have hd : (none : Option Nat).isSome = true := hd
  cases hd
theorem wpOpW_of {m i : Nat} (hlo : ∀ a w, ¬ Q .outgrown a w) (h : wpOp P ops Q i K a w) : wpOpIn Fence.wide m P ops Q i K a w := by
  unfold wpOp at h
  unfold wpOpIn
  cases hi : ops[i]? with
  | none => simpa [hi] using h
  | some o =>
    simp only [hi] at h ⊢
    split at h
    · rename_i hw
      rw [if_pos hw]
      rcases h with h | ⟨_, a0, w0, hq⟩
      · refine ⟨fun _ _ => trivial, ?_⟩
        show o.uponIn _ _ _ _ _ _ ((execOp a.eval o).run P w)
        unfold Oper.wp at h
        generalize (execOp a.eval o).run P w = r at h ⊢
        cases r with
        | ok x w' =>
          cases x with
          | enter f args =>
            have h : Calls P f args w' _ := h
            have h2 : CallsIn Fence.wide (m - 1) P f args w' _ := callsIn_wide.2 h
            exact ⟨wide_depth, h2⟩
          | row r args => exact ⟨wide_depth, fun c cs _ => let ⟨v, w', r, s⟩ := h c cs; ⟨v, w', r, stepsIn_wide.2 s⟩⟩
          | value v => exact h
          | skip => exact h
          | defer d => exact h
          | _ => exact False.elim h
        | halt x w' => cases x <;> simp only [Oper.upon] at h <;> simp only [Oper.uponIn] <;> first | exact h | exact h.elim
      · exact absurd hq (hlo a0 w0)
    · rename_i hw
      rw [if_neg hw]
      exact ⟨fun _ _ => trivial, h⟩
def wpZ (P : Program) (ops : Array Oper) (K : Act → World → Prop) : List Oper → Act → World → Prop
  | [] => K
  | o :: r => fun a w => stepE P ops o [] (wpZ P ops K r) a w ∨
    (Region.wanted o (yielded ops a.tmps) = true ∧ ∃ l f tmps assign body, (execOp a.eval o).run P w = .ok (.round l f tmps assign body) w ∧
      RoundIn Fence.wide 0 P l f tmps assign body w (fun e w'' => ∃ v, e = .returned v ∧ wpZ P ops K r (a.put o.dst v) w''))
theorem wpOpsW_of_wpZ (hlo : ∀ a w, ¬ Q .outgrown a w) : ∀ (is : List Oper) (k : Nat), (∀ j, is[j]? = ops[k + j]?) → ∀ a w, wpZ P ops (Q .normal) is a w → wpOpsIn Fence.wide 1 P ops Q (List.range' k is.length) a w := by
  intro is
  induction is with
  | nil => intro k _ a w h; exact h
  | cons o is ih =>
    intro k hl a w h
    have h0 : ops[k]? = some o := by simpa using (hl 0).symm
    rw [List.length_cons, List.range'_succ, wpOpsIn_cons]
    have hm : ∀ a w, wpZ P ops (Q .normal) is a w → wpOpsIn Fence.wide 1 P ops Q (List.range' (k + 1) is.length) a w := fun a w h => ih (k + 1) (fun j => by have := hl (j + 1); simpa [Nat.add_assoc, Nat.add_comm 1 j] using this) a w h
    rcases h with h | ⟨hw, l, f, tmps, assign, body, hr, hR⟩
    · exact wpOpIn_mono hm (wpOpW_of hlo (wpOp_of_stepE h0 h))
    · unfold wpOpIn
      simp only [h0]
      rw [if_pos hw]
      refine ⟨fun _ _ => trivial, ?_⟩
      show o.uponIn _ _ _ _ _ _ ((execOp a.eval o).run P w)
      rw [hr]
      refine ⟨wide_depth, hR.mono fun e w'' ⟨v, he, hk⟩ => ?_⟩
      subst he
      exact hm _ _ hk
theorem wp_region_Z {id : Nat} {is : List Oper} (hlo : ∀ a w, ¬ Q .outgrown a w) (h : wpZ P is.toArray (Q .normal) is a w) : (Code.region id is.toArray false).wp P Q a w :=
  (wpIn_wide (n := 1)).1 (wpIn_region (by
    rw [List.range_eq_range']
    have := wpOpsW_of_wpZ (P := P) (ops := is.toArray) (Q := Q) hlo is 0 (by simp) a w h
    simpa using this))
end
section
variable {P : Program} {ops : Array Oper} {w0 : World} {Mod : List Nat} {n : Nat} {F : FL} {M : ML} {K : Act → World → Prop} {Q : Exit → Act → World → Prop}
theorem SK.nextTZreg {id : Nat} {is : List Oper} [hQ : NoOut Q] (h : SK w0 Mod n (wpZ P is.toArray (Q .normal) is) F M) : SK w0 Mod n ((Code.region id is.toArray false).wp P Q) F M := fun a w hf hm => wp_region_Z hQ.no (h a w hf hm)
theorem SK.nextTZ {o : Oper} {r : List Oper} (h : SK w0 Mod n (stepE P ops o [] (wpZ P ops K r)) F M) : SK w0 Mod n (wpZ P ops K (o :: r)) F M := fun a w hf hm => .inl (h a w hf hm)
theorem SK.nextTZd (h : SK w0 Mod n K F M) : SK w0 Mod n (wpZ P ops K []) F M := h
end
end Go.Sx
namespace Go.Sx
instance {P : Program} {l : Nat} {R : Ending → World → Prop} : NoOut (roundPost P l R) := ⟨fun _ _ h => h⟩
class NoOutR (R : Ending → World → Prop) : Prop where
  no : ∀ w, ¬ R .outgrown w
instance {P : Program} {fn : Func} {R : Ending → World → Prop} [h : NoOutR R] : NoOut (bodyPost P fn R) := ⟨fun _ w => h.no w⟩
instance {id : Nat} {Q : Exit → Act → World → Prop} [h : NoOut Q] : NoOut (Exit.inBlock id Q) := ⟨fun a w hq => h.no a w hq⟩
theorem Mem.calledL {w0 : World} {Mod : List Nat} {Mf Rest N : ML} {w w' : World} {l : Nat} (hm : Mem w0 Mod (Mf ++ Rest) w) (hl : l < w0.heap.size) (hc : Mem w (l :: keys Mf) N w') : Mem w0 (l :: Mod) N w' := by
  refine ⟨hc.nodup, hc.blk, Nat.le_trans hm.size hc.size, fun b hb hbm => ?_, fun b hb => ?_, hc.os.trans hm.os, hc.tape.trans hm.tape, hc.output.trans hm.output⟩
  · simp only [List.mem_cons, not_or] at hbm
    have h1 : b ∉ keys Mf := fun h => by
      have : b ∈ keys (Mf ++ Rest) := by
        obtain ⟨cs, T, he⟩ := mem_keys.1 h
        exact mem_keys.2 ⟨cs, T, List.mem_append_left _ he⟩
      rcases hm.fresh b this with g | g
      · exact hbm.2 g
      · omega
    rw [hc.old b (by have := hm.size; omega) (by simp only [List.mem_cons, not_or]; exact ⟨hbm.1, h1⟩), hm.old b hb hbm.2]
  · rcases hc.fresh b hb with g | g
    · rcases List.mem_cons.1 g with g | g
      · exact .inl (by rw [g]; exact List.mem_cons_self)
      · have : b ∈ keys (Mf ++ Rest) := by
          obtain ⟨cs, T, he⟩ := mem_keys.1 g
          exact mem_keys.2 ⟨cs, T, List.mem_append_left _ he⟩
        rcases hm.fresh b this with g | g
        · exact .inl (List.mem_cons_of_mem _ g)
        · exact .inr g
    · exact .inr (by have := hm.size; omega)
section
variable {P : Program} {ops : Array Oper} {w0 : World} {Mod : List Nat} {n : Nat} {F : FL} {M : ML} {K : Act → World → Prop} {ty : TypeId} {pos : String} {aft : Array Edge} {d : Nat}
theorem SK.nextTZy {x : Operand} {args : Array Operand} {ats : Array TypeId} {vs : List Value} {l j t : Nat} {b : Bool} {r : List Oper} {rec : Loop} {N : ML} {done : Loop} (hd : Nat.blt d n = true) (hx : ev F x = some (.func (.yield l) #[] #[])) (hargs : evL F args.toList = some vs)
    (hj0 : (nthO ops.toList j).bind (·.dst) = some t) (hv : lk F t = some (.bool b)) (hl : w0.heap[l]? = some (.loop rec)) (hlm : l ∉ Mod) (Mf Rest : ML) (hM : Wk M (Mf ++ Rest)) {Y : Type} (q : Y → Prop) (M1 : Y → ML)
    (hc : ∀ w, Mem w (keys Mf) Mf w → w.heap[l]? = some (.loop rec) → l ∉ keys Mf → (∀ b o v, Vw w0 Mod b o v → Vw w (keys Mf) b o v) → (∀ b cs T, some (b, cs, T) ∈ Rest → ∀ o v, nv cs o = some v → Vw w (keys Mf) b o v) →
      YieldAt Fence.wide 0 P l vs.toArray w (fun e w' => (e = .returned (.bool true) ∧ ∃ y, q y ∧ Mem w (keys Mf) (M1 y) w') ∨ (e = .returned (.bool false) ∧ Mem w (l :: keys Mf) N w' ∧ w'.heap[l]? = some (.loop done))))
    (h1 : ∀ y, q y → SK w0 Mod n (wpZ P ops K r) ((d, .bool true) :: F) (M1 y ++ Rest))
    (h2 : ∀ w', Mem w0 (l :: Mod) N w' → w'.heap[l]? = some (.loop done) → SK w' [] n (wpZ P ops K r) ((d, .bool false) :: F) []) :
    SK w0 Mod n (wpZ P ops K (⟨some d, .call ⟨.value x, args, ats⟩, ty, pos, aft, some (j, b)⟩ :: r)) F M := by
  have hj : (ops[j]?).bind (·.dst) = some t := by rw [nthO_eq] at hj0; simpa using hj0
  intro a w hf hm0
  have hm := hm0.wk hM
  have hlt : l < w0.heap.size := (Array.getElem?_eq_some_iff.1 hl).1
  have hl1 : w.heap[l]? = some (.loop rec) := by rw [hm0.old l hlt hlm, hl]
  have hself : Mem w (keys Mf) Mf w := (hm.part (List.sublist_append_left Mf Rest)).self
  obtain ⟨fn, tmps, assign, body, hy, hR⟩ := hc w hself hl1 (keys_self hself hl1 rfl) (fun b o v hv => hm.vw hv) (fun b cs T hb o v hv => hm.vwRest hb hv)
  refine .inr ⟨by simp [Region.wanted, yielded, hj, hf.at_ t _ hv], l, fn, tmps, assign, body, ?_, hR.mono fun e w' he => ?_⟩
  · simp only [execOp, resolve, evs hf hargs, hf.ev hx, Deferred.ofValue, Sem.run_bind, Sem.run_pure, Result.andThen_ok, invoke, callFunc]
    simpa using hy
  · rcases he with ⟨rfl, y, hq, hm'⟩ | ⟨rfl, hm', hl'⟩
    · exact ⟨_, rfl, h1 y hq _ _ (hf.put hd _) (hm.called hm')⟩
    · exact ⟨_, rfl, h2 w' (hm.calledL hlt hm') hl' _ _ (hf.put hd _) (Mem.zero w')⟩
end
section
variable {P : Program} {n : Nat} {F : FL} {M' : ML}
theorem SK.beginR {w : World} {Mf : ML} {l m : Nat} {rec : Loop} {body : Code} {R : Ending → World → Prop} (hl : w.heap[l]? = some (.loop rec)) (st : rec.state = .ready) (pe : rec.pending = none) (ln : l ∉ keys Mf)
    (h : ∀ w₂, RB w Mf l rec M' w₂ → SK w₂ (keys M') n (body.wpIn (Fr l) m P (roundPost P l R)) F M') :
    SK w (keys Mf) n (fun a₁ w₁ => ∃ w₂, (Instr.beginRound l).run P w₁ = .ok () w₂ ∧ body.wpIn (Fr l) m P (roundPost P l R) a₁ w₂) F M' := by
  intro a w₁ hf hm
  have hlt : l < w.heap.size := (Array.getElem?_eq_some_iff.1 hl).1
  have hl1 : w₁.heap[l]? = some (.loop rec) := by rw [hm.old l hlt ln, hl]
  have hrb := RB.mk' hl st pe ln hm
  exact ⟨_, run_beginRound hl1 st, h _ hrb a _ hf hrb.mem⟩
theorem FOK.args2 {a : Act} (hf : FOK n F a) {p q : Nat} {u v : Value} (hp : Nat.blt p n = true) (hq : Nat.blt q n = true) : FOK n ((q, v) :: (p, u) :: F) { tmps := ((#[p, q] : Array Tmp).zip #[u, v]).foldl (fun t (p, v) => t.setIfInBounds p v) a.tmps, defers := [] } := by
  have h := (hf.put hp u).put hq v
  have hd := hf.defers
  obtain ⟨tm, df⟩ := a
  dsimp only at hd
  subst hd
  have e : ({ tmps := ((#[p, q] : Array Tmp).zip #[u, v]).foldl (fun t (p, v) => t.setIfInBounds p v) tm, defers := [] } : Act) = (({ tmps := tm, defers := [] } : Act).put (some p) u).put (some q) v := by
    simp [Act.put]
  rw [e]
  exact h
theorem yield_of {w : World} {Mf : ML} {l : Nat} {rec : Loop} {u v : Value} {a : Act} {p q : Nat} {R : Ending → World → Prop} (hl : w.heap[l]? = some (.loop rec)) (hps : rec.params = #[p, q]) (htm : rec.tmps = a.tmps) (hf : FOK n F a) (hp : Nat.blt p n = true) (hq : Nat.blt q n = true)
    (hm : Mem w (keys Mf) Mf w) (h : SK w (keys Mf) n (rec.assign.wpIn (Fr l) 0 P (Exit.then (fun a₁ w₁ => ∃ w₂, (Instr.beginRound l).run P w₁ = .ok () w₂ ∧ rec.body.wpIn (Fr l) 0 P (roundPost P l R) a₁ w₂) (fun _ _ _ => False))) ((q, v) :: (p, u) :: F) Mf) :
    YieldAt Fence.wide 0 P l #[u, v] w R := by
  have hy := run_yield (P := P) (args := #[u, v]) hl (by rw [hps]; rfl)
  refine ⟨_, _, _, _, hy, roundIn_of_wpIn trivial ?_⟩
  rw [hps, htm]
  exact h _ _ (hf.args2 hp hq) hm
end
end Go.Sx
