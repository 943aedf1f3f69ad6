/- Proved here: the lists that tell of a frame and of memory, and the order of a region. -/
import Derived.Orders
import Derived.Below
import Derived.Deep.LoopGhost
import Derived.KernelRfl
namespace Go.Sx
abbrev FL := List (Nat × Value)
def lk : FL → Nat → Option Value
  | [], _ => none
  | (k, v) :: r, t => bif Nat.beq k t then some v else lk r t
structure FOK (n : Nat) (F : FL) (a : Act) : Prop where
  defers : a.defers = []
  size : a.tmps.size = n
  at_ : ∀ t v, lk F t = some v → a.tmps[t]? = some v
def ev (F : FL) : Operand → Option Value
  | .tmp t => lk F t
  | .const v => some v
  | .global g => some (.pointer (some ⟨g, 0, none⟩))
  | .func f => some (.func (.func f) #[] #[])
theorem FOK.ev {n : Nat} {F : FL} {a : Act} (h : FOK n F a) {x : Operand} {v : Value} (hx : ev F x = some v) : a.eval x = v := by
  cases x with
  | tmp t =>
    have := h.at_ t v hx
    simp [Act.eval, this]
  | const u => simpa [Sx.ev, Act.eval] using hx
  | global g => simpa [Sx.ev, Act.eval] using hx
  | func f => simpa [Sx.ev, Act.eval] using hx
theorem FOK.put {n : Nat} {F : FL} {a : Act} (h : FOK n F a) {d : Nat} (hd : Nat.blt d n = true) (v : Value) : FOK n ((d, v) :: F) (a.put (some d) v) := by
  refine ⟨h.defers, by simp [Act.put, h.size], ?_⟩
  intro t u hu
  have hdn : d < a.tmps.size := by rw [h.size]; exact Nat.blt_eq ▸ hd
  simp only [lk] at hu
  by_cases hdt : d = t
  · subst hdt
    simp at hu
    subst hu
    simp [Act.put, hdn]
  · have hb : Nat.beq d t = false := by
      cases hb : Nat.beq d t with
      | false => rfl
      | true => exact absurd (Nat.eq_of_beq_eq_true hb) hdt
    simp only [hb, cond_false] at hu
    have := h.at_ t u hu
    simpa [Act.put, Array.getElem?_setIfInBounds_ne hdt] using this
theorem FOK.none {n : Nat} {F : FL} {a : Act} (h : FOK n F a) (v : Value) : FOK n F (a.put none v) := h
inductive Sub : FL → FL → Prop
  | nil (F : FL) : Sub [] F
  | cons {t : Nat} {v : Value} {G F : FL} (h : lk F t = some v) (r : Sub G F) : Sub ((t, v) :: G) F
theorem Sub.lk {G F : FL} (h : Sub G F) : ∀ t v, lk G t = some v → lk F t = some v := by
  induction h with
  | nil F => intro t v hv; simp [Sx.lk] at hv
  | @cons t v G F hF _ ih =>
    intro t' v' hv
    simp only [Sx.lk] at hv
    cases hb : Nat.beq t t' with
    | true =>
      have := Nat.eq_of_beq_eq_true hb
      subst this
      simp at hv
      subst hv
      exact hF
    | false => simp [hb] at hv; exact ih t' v' hv
theorem FOK.sub {n : Nat} {F G : FL} {a : Act} (h : FOK n F a) (hs : Sub G F) : FOK n G a := ⟨h.defers, h.size, fun t v hv => h.at_ t v (hs.lk t v hv)⟩
abbrev ML := List (Option (Nat × List Value × TypeId))
def keys (M : ML) : List Nat := M.filterMap fun e => e.map (·.1)
theorem mem_keys {M : ML} {b : Nat} : b ∈ keys M ↔ ∃ cs T, some (b, cs, T) ∈ M := by
  unfold keys
  rw [List.mem_filterMap]
  constructor
  · rintro ⟨e, he, h⟩
    cases e with
    | none => cases h
    | some x => obtain ⟨b', cs, T⟩ := x; cases h; exact ⟨cs, T, he⟩
  · rintro ⟨cs, T, h⟩
    exact ⟨_, h, rfl⟩
structure Mem (w0 : World) (Mod : List Nat) (M : ML) (w : World) : Prop where
  nodup : (keys M).Nodup
  blk : ∀ b cs T, some (b, cs, T) ∈ M → w.heap[b]? = some (.cells cs.toArray T (0, 0))
  size : w0.heap.size ≤ w.heap.size
  old : ∀ b, b < w0.heap.size → b ∉ Mod → w.heap[b]? = w0.heap[b]?
  fresh : ∀ b ∈ keys M, b ∈ Mod ∨ w0.heap.size ≤ b
  os : w.os = w0.os
  tape : w.tape = w0.tape
  output : w.output = w0.output
theorem Mem.lt {w0 : World} {Mod : List Nat} {M : ML} {w : World} (h : Mem w0 Mod M w) : ∀ b ∈ keys M, b < w.heap.size := by
  intro b hb
  obtain ⟨cs, T, he⟩ := mem_keys.1 hb
  exact (Array.getElem?_eq_some_iff.1 (h.blk b cs T he)).1
theorem Mem.drew {w0 : World} {Mod : List Nat} {M : ML} {w : World} (h : Mem w0 Mod M w) : Mem w0 Mod M { w with drawn := w.drawn + 1 } :=
  ⟨h.nodup, h.blk, h.size, h.old, h.fresh, h.os, h.tape, h.output⟩
theorem Mem.part {w0 : World} {Mod : List Nat} {M N : ML} {w : World} (h : Mem w0 Mod M w) (hs : N.Sublist M) : Mem w0 Mod N w :=
  ⟨(hs.filterMap _).nodup h.nodup, fun b cs T hm => h.blk b cs T (hs.subset hm), h.size, h.old, fun b hb => h.fresh b ((hs.filterMap _).subset hb), h.os, h.tape, h.output⟩
theorem Mem.perm {w0 : World} {Mod : List Nat} {M N : ML} {w : World} (h : Mem w0 Mod M w) (hs : M.Perm N) : Mem w0 Mod N w :=
  ⟨(hs.filterMap _).nodup_iff.1 h.nodup, fun b cs T hm => h.blk b cs T (hs.symm.subset hm), h.size, h.old, fun b hb => h.fresh b ((hs.filterMap _).symm.subset hb), h.os, h.tape, h.output⟩
def SK (w0 : World) (Mod : List Nat) (n : Nat) (X : Act → World → Prop) (F : FL) (M : ML) : Prop := ∀ a w, FOK n F a → Mem w0 Mod M w → X a w
def At (w0 : World) (Mod : List Nat) (n : Nat) (F : FL) (M : ML) (a : Act) (w : World) : Prop := FOK n F a ∧ Mem w0 Mod M w
section
variable {P : Program} {w0 : World} {Mod : List Nat} {n : Nat} {F G : FL} {M N : ML} {Q : Exit → Act → World → Prop} {K X : Act → World → Prop}
theorem SK.mono {Y : Act → World → Prop} (h : SK w0 Mod n X F M) (hxy : ∀ a w, X a w → Y a w) : SK w0 Mod n Y F M := fun a w hf hm => hxy a w (h a w hf hm)
theorem SK.sub (hs : Sub G F) (h : SK w0 Mod n X G M) : SK w0 Mod n X F M := fun a w hf hm => h a w (hf.sub hs) hm
theorem SK.part (hs : N.Sublist M) (h : SK w0 Mod n X F N) : SK w0 Mod n X F M := fun a w hf hm => h a w hf (hm.part hs)
theorem SK.perm (hs : M.Perm N) (h : SK w0 Mod n X F N) : SK w0 Mod n X F M := fun a w hf hm => h a w hf (hm.perm hs)
theorem SK.cut (G : FL) (N : ML) (h : SK w0 Mod n (At w0 Mod n G N) F M) (k : SK w0 Mod n X G N) : SK w0 Mod n X F M :=
  fun a w hf hm => let ⟨hg, hn⟩ := h a w hf hm; k a w hg hn
theorem SK.at_ (hs : Sub G F) (hn : N.Sublist M) : SK w0 Mod n (At w0 Mod n G N) F M := fun _ _ hf hm => ⟨hf.sub hs, hm.part hn⟩
theorem SK.seq {x y : Code} (h : SK w0 Mod n (x.wp P (Exit.then (y.wp P Q) Q)) F M) : SK w0 Mod n ((Code.seq x y).wp P Q) F M :=
  fun a w hf hm => wp_seq (h a w hf hm)
theorem SK.skip (h : SK w0 Mod n (Q .normal) F M) : SK w0 Mod n (Code.skip.wp P Q) F M := fun a w hf hm => wp_skip (h a w hf hm)
theorem SK.ret (h : SK w0 Mod n (Q .ret) F M) : SK w0 Mod n (Code.ret.wp P Q) F M := fun a w hf hm => wp_ret (h a w hf hm)
theorem SK.exit {id : Nat} (h : SK w0 Mod n (Q (.exit id)) F M) : SK w0 Mod n ((Code.exit id).wp P Q) F M := fun a w hf hm => wp_exit (h a w hf hm)
theorem SK.block {id : Nat} {c : Code} (h : SK w0 Mod n (c.wp P (Exit.inBlock id Q)) F M) : SK w0 Mod n ((Code.block id c).wp P Q) F M := fun a w hf hm => wp_block (h a w hf hm)
theorem SK.cond {c : Operand} {x y : Code} {t : Bool} (hc : ev F c = some (.bool t)) (h1 : t = true → SK w0 Mod n (x.wp P Q) F M) (h2 : t = false → SK w0 Mod n (y.wp P Q) F M) :
    SK w0 Mod n ((Code.cond c x y).wp P Q) F M := fun a w hf hm => wp_cond_split (hf.ev hc) (fun h => h1 h a w hf hm) (fun h => h2 h a w hf hm)
theorem SK.cond_true {c : Operand} {x y : Code} (hc : ev F c = some (.bool true)) (h1 : SK w0 Mod n (x.wp P Q) F M) :
    SK w0 Mod n ((Code.cond c x y).wp P Q) F M := fun a w hf hm => wp_cond_true (hf.ev hc) (h1 a w hf hm)
theorem SK.cond_false {c : Operand} {x y : Code} (hc : ev F c = some (.bool false)) (h1 : SK w0 Mod n (y.wp P Q) F M) :
    SK w0 Mod n ((Code.cond c x y).wp P Q) F M := fun a w hf hm => wp_cond_false (hf.ev hc) (h1 a w hf hm)
theorem SK.then_normal (h : SK w0 Mod n K F M) : SK w0 Mod n (Exit.then K Q .normal) F M := h
theorem SK.then_exit {id : Nat} (h : SK w0 Mod n (Q (.exit id)) F M) : SK w0 Mod n (Exit.then K Q (.exit id)) F M := h
theorem SK.then_ret (h : SK w0 Mod n (Q .ret) F M) : SK w0 Mod n (Exit.then K Q .ret) F M := h
theorem SK.then_goto {l : Nat} (h : SK w0 Mod n (Q (.goto l)) F M) : SK w0 Mod n (Exit.then K Q (.goto l)) F M := h
theorem SK.in_normal {id : Nat} (h : SK w0 Mod n (Q .normal) F M) : SK w0 Mod n (Exit.inBlock id Q .normal) F M := h
theorem SK.in_ret {id : Nat} (h : SK w0 Mod n (Q .ret) F M) : SK w0 Mod n (Exit.inBlock id Q .ret) F M := h
theorem SK.in_goto {id l : Nat} (h : SK w0 Mod n (Q (.goto l)) F M) : SK w0 Mod n (Exit.inBlock id Q (.goto l)) F M := h
theorem SK.in_hit {id : Nat} (h : SK w0 Mod n (Q .normal) F M) : SK w0 Mod n (Exit.inBlock id Q (.exit id)) F M :=
  fun a w hf hm => by simpa [Exit.inBlock] using h a w hf hm
theorem SK.in_miss {id id' : Nat} (hne : Nat.beq id' id = false) (h : SK w0 Mod n (Q (.exit id')) F M) : SK w0 Mod n (Exit.inBlock id Q (.exit id')) F M :=
  fun a w hf hm => by
    have : id' ≠ id := fun e => by subst e; simp at hne
    simpa [Exit.inBlock, this] using h a w hf hm
def Round {α : Type} (w0 : World) (Mod : List Nat) (n : Nat) (Fi : α → FL) (Mi : α → ML) (p : α → Prop) (m : α → Nat) (g : α) (a : Act) (w : World) : Prop :=
  ∃ g', p g' ∧ m g' < m g ∧ FOK n (Fi g') a ∧ Mem w0 Mod (Mi g') w
theorem SK.loop {α : Type} {c : Code} (Fi : α → FL) (Mi : α → ML) (p : α → Prop) (m : α → Nat) (g0 : α) (hp : p g0) (hF : Sub (Fi g0) F) (hM : (Mi g0).Sublist M)
    (h : ∀ g, p g → SK w0 Mod n (c.wp P (Exit.then (Round w0 Mod n Fi Mi p m g) Q)) (Fi g) (Mi g)) : SK w0 Mod n ((Code.loop c).wp P Q) F M := by
  intro a w hf hm
  refine wp_loop_ghost (fun k a w => ∃ g, m g = k ∧ p g ∧ FOK n (Fi g) a ∧ Mem w0 Mod (Mi g) w) (m g0) ⟨g0, rfl, hp, hf.sub hF, hm.part hM⟩ ?_
  rintro k a w ⟨g, rfl, hg, hf, hm⟩
  refine Code.wp_mono (fun e a w q => ?_) (h g hg a w hf hm)
  cases e with
  | normal =>
    obtain ⟨g', hg', hlt, hf', hm'⟩ := q
    exact ⟨m g', hlt, g', rfl, hg', hf', hm'⟩
  | exit id => exact q
  | goto l => exact q
  | ret => exact q
  | panic ch => exact q
  | outgrown => exact q
theorem SK.round {α : Type} {Fi : α → FL} {Mi : α → ML} {p : α → Prop} {m : α → Nat} {g : α} (g' : α) (hp : p g') (hlt : m g' < m g) (hF : Sub (Fi g') F) (hM : (Mi g').Sublist M) :
    SK w0 Mod n (Round w0 Mod n Fi Mi p m g) F M := fun _ _ hf hm => ⟨g', hp, hlt, hf.sub hF, hm.part hM⟩
end
end Go.Sx
namespace Go.Sx
def opKind : Op → Nat
  | .move _ | .assign _ | .pick .. | .nilCheck _ | .binOp .. | .unOp .. | .convert .. | .fieldAddr .. | .field .. | .indexAddr .. | .index .. | .extract .. | .slice .. | .build .. | .makeFunc .. => 0
  | .call { callee := .builtin .len, .. } | .call { callee := .builtin .max, .. } | .call { callee := .builtin .real, .. } | .call { callee := .builtin .imag, .. } | .call { callee := .builtin .complex, .. } => 0
  | .load .. => 1
  | _ => 2
section
variable (P : Program) (ops : Array Oper)
def eff (o : Oper) (a : Act) (X : Act → World → Prop) : Result Next → Prop
  | .ok (.value v) w' => X (a.put o.dst v) w'
  | .ok .skip w' => X (a.put o.dst undef) w'
  | .ok (.enter f args) w' => Calls P f args w' (fun e w'' => ∃ v, e = .returned v ∧ X (a.put o.dst v) w'')
  | _ => False
def stable (j : Nat) (a : Act) (w : World) : Prop :=
  ∀ o, ops[j]? = some o → Region.wanted o (yielded ops a.tmps) = true → ∃ d v, o.dst = some d ∧ a.tmps[d]? = some v ∧ (execOp a.eval o).run P w = .ok (.value v) w
def chkE (chk : List Nat) (K : Act → World → Prop) (a : Act) (w : World) : Prop := (∀ j ∈ chk, stable P ops j a w) ∧ K a w
def stepE (o : Oper) (chk : List Nat) (K : Act → World → Prop) (a : Act) (w : World) : Prop :=
  if Region.wanted o (yielded ops a.tmps) = true then
    (match opKind o.op with
     | 0 => ∃ v, (∀ w', (execOp a.eval o).run P w' = .ok (.value v) w') ∧ K (a.put o.dst v) w
     | 1 => ∃ v, (execOp a.eval o).run P w = .ok (.value v) w ∧ K (a.put o.dst v) w
     | _ => eff P o a (chkE P ops chk K) ((execOp a.eval o).run P w))
  else K (a.put o.dst undef) w
def wpT : List Oper → (Act → World → Prop) → Act → World → Prop
  | [], K => K
  | o :: r, K => stepE P ops o [] (wpT r K)
def wpI : List (Nat × List Nat) → (Act → World → Prop) → Act → World → Prop
  | [], K => K
  | (i, c) :: r, K => fun a w => ∃ o, ops[i]? = some o ∧ stepE P ops o c (wpI r K) a w
end
section
variable {P : Program} {ops : Array Oper} {Q : Exit → Act → World → Prop} {K K' : Act → World → Prop} {a : Act} {w : World}
theorem eff_mono {o : Oper} {X Y : Act → World → Prop} (h : ∀ a w, X a w → Y a w) {r : Result Next} (hr : eff P o a X r) : eff P o a Y r := by
  cases r with
  | ok n w' =>
    cases n <;> simp only [eff] at hr ⊢ <;> first | exact h _ _ hr | exact hr.mono (fun e w'' ⟨v, he, hv⟩ => ⟨v, he, h _ _ hv⟩)
  | halt x w' => simp [eff] at hr
theorem stepE_mono {o : Oper} {c c' : List Nat} (hc : ∀ j ∈ c', j ∈ c) (h : ∀ a w, K a w → K' a w) (hs : stepE P ops o c K a w) : stepE P ops o c' K' a w := by
  unfold stepE at *
  split
  · rename_i hw
    simp only [hw, if_true] at hs
    split <;> rename_i hk <;> simp only [hk] at hs
    · obtain ⟨v, h1, h2⟩ := hs; exact ⟨v, h1, h _ _ h2⟩
    · obtain ⟨v, h1, h2⟩ := hs; exact ⟨v, h1, h _ _ h2⟩
    · exact eff_mono (fun a w ⟨h1, h2⟩ => ⟨fun j hj => h1 j (hc j hj), h _ _ h2⟩) hs
  · rename_i hw
    simp only [hw] at hs
    exact h _ _ hs
theorem upon_of_eff {o : Oper} {X : Act → World → Prop} {r : Result Next} (h : eff P o a X r) : o.upon P a X Q r := by
  cases r with
  | ok n w' =>
    cases n <;> simp only [eff] at h <;> simp only [Oper.upon] <;> first | exact h | exact h.mono (fun e w'' ⟨v, he, hv⟩ => by subst he; exact hv)
  | halt x w' => simp [eff] at h
theorem stepE_cases {o : Oper} {c : List Nat} : stepE P ops o c K a w ↔
    (Region.wanted o (yielded ops a.tmps) = false ∧ K (a.put o.dst undef) w) ∨
    (Region.wanted o (yielded ops a.tmps) = true ∧
      ((opKind o.op = 0 ∧ ∃ v, (∀ w', (execOp a.eval o).run P w' = .ok (.value v) w') ∧ K (a.put o.dst v) w) ∨
       (opKind o.op = 1 ∧ ∃ v, (execOp a.eval o).run P w = .ok (.value v) w ∧ K (a.put o.dst v) w) ∨
       (2 ≤ opKind o.op ∧ eff P o a (chkE P ops c K) ((execOp a.eval o).run P w)))) := by
  unfold stepE
  cases hw : Region.wanted o (yielded ops a.tmps)
  · simp
  · simp only [if_true, Bool.true_eq_false, false_and, true_and, false_or]
    rcases hk : opKind o.op with _ | _ | k
    · simp
    · simp
    · simp
theorem wpOp_of_stepE {i : Nat} {o : Oper} {c : List Nat} (hi : ops[i]? = some o) (h : stepE P ops o c K a w) : wpOp P ops Q i K a w := by
  unfold wpOp
  simp only [hi]
  rcases stepE_cases.1 h with ⟨hw, hk⟩ | ⟨hw, h⟩
  · simp only [hw]; exact hk
  · simp only [hw, if_true]
    refine .inl ?_
    unfold Oper.wp
    rcases h with ⟨_, v, h1, h2⟩ | ⟨_, v, h1, h2⟩ | ⟨_, h⟩
    · rw [h1 w]; exact h2
    · rw [h1]; exact h2
    · exact upon_of_eff (eff_mono (fun a w h => h.2) h)
theorem wpOps_of_wpT : ∀ (l : List Oper) (k : Nat), (∀ j, l[j]? = ops[k + j]?) → ∀ a w, wpT P ops l (Q .normal) a w → wpOps P ops Q (List.range' k l.length) a w := by
  intro l
  induction l with
  | nil => intro k _ a w h; simpa [wpOps, wpT] using h
  | cons o l ih =>
    intro k hl a w h
    have h0 : ops[k]? = some o := by simpa using (hl 0).symm
    rw [List.length_cons, List.range'_succ, wpOps_cons]
    refine wpOp_mono (fun a w h => ih (k + 1) (fun j => by have := hl (j + 1); simpa [Nat.add_assoc, Nat.add_comm 1 j] using this) a w h) (wpOp_of_stepE h0 h)
theorem wp_region_T {id : Nat} {l : List Oper} (h : wpT P l.toArray l (Q .normal) a w) : (Code.region id l.toArray false).wp P Q a w :=
  wp_region (by
    rw [List.range_eq_range']
    have := wpOps_of_wpT (P := P) (ops := l.toArray) (Q := Q) l 0 (by simp) a w h
    simpa using this)
def quietFor (ops : Array Oper) (o lo : Oper) : Bool :=
  match o.dst with
  | some d => !(lo.looksAt ops).contains d && lo.dst != some d
  | none => true
def noSel (o : Oper) : Bool := match o.op with | .select .. => false | _ => true
theorem noSel_spec {o : Oper} (h : noSel o = true) : ∀ cs b, o.op ≠ .select cs b := by
  intro cs b he
  simp [noSel, he] at h
theorem stable_put {j : Nat} {o lo : Oper} (hj : ops[j]? = some lo) (hs : noSel lo = true) (hq : quietFor ops o lo = true) (v : Value) :
    stable P ops j (a.put o.dst v) w ↔ stable P ops j a w := by
  have h1 : ∀ d, o.dst = some d → d ∉ lo.looksAt ops := by
    intro d hd
    simp [quietFor, hd] at hq
    exact hq.1
  have h2 : ∀ d, o.dst = some d → lo.dst ≠ some d := by
    intro d hd
    simp [quietFor, hd] at hq
    exact hq.2
  have e1 := execOp_put lo (noSel_spec hs) a o.dst v h1
  have e2 := wanted_put lo a o.dst v h1
  have e3 : ∀ d, lo.dst = some d → (a.put o.dst v).tmps[d]? = a.tmps[d]? := by
    intro d hd
    cases ho : o.dst with
    | none => rfl
    | some d' =>
      have hne : d' ≠ d := fun e => h2 d' ho (by rw [hd, e])
      simp [Act.put, Array.getElem?_setIfInBounds_ne hne]
  unfold stable
  constructor
  · intro h x hx hw
    have : x = lo := by rw [hj] at hx; exact (Option.some.inj hx).symm
    subst this
    obtain ⟨d, u, hd, hu, hr⟩ := h x hx (by rw [e2]; exact hw)
    exact ⟨d, u, hd, by rw [← e3 d hd]; exact hu, by rw [← e1]; exact hr⟩
  · intro h x hx hw
    have : x = lo := by rw [hj] at hx; exact (Option.some.inj hx).symm
    subst this
    obtain ⟨d, u, hd, hu, hr⟩ := h x hx (by rw [← e2]; exact hw)
    exact ⟨d, u, hd, by rw [e3 d hd]; exact hu, by rw [e1]; exact hr⟩
def kindsOK (ok oi : Oper) (k : Nat) (ci : List Nat) : Bool :=
  opKind ok.op == 0 || opKind oi.op == 0 || (opKind ok.op == 1 && (opKind oi.op == 1 || ci.contains k))
theorem bubble {k i : Nat} {ok oi : Oper} {ck ci : List Nat} (hk : ops[k]? = some ok) (_hi : ops[i]? = some oi) (hsk : noSel ok = true) (hsi : noSel oi = true)
    (hap : ok.apart ops oi = true) (hkind : kindsOK ok oi k ci = true)
    (hself : ci.contains k = true → quietFor ops ok ok = true ∨ ∀ d, ok.dst = some d → d ∉ ok.looksAt ops)
    (hci : ∀ j ∈ ci, j ≠ k → ∃ lo, ops[j]? = some lo ∧ noSel lo = true ∧ quietFor ops ok lo = true)
    (hck : ∀ j ∈ ck, ∃ lo, ops[j]? = some lo ∧ noSel lo = true ∧ quietFor ops oi lo = true)
    (h : stepE P ops ok ck (stepE P ops oi ci K) a w) : stepE P ops oi (ci.filter (· != k)) (stepE P ops ok ck K) a w := by
  obtain ⟨h1, h2, h3⟩ := Oper.apart_spec hap
  have ek : ∀ (a : Act) v, execOp (a.put oi.dst v).eval ok = execOp a.eval ok := fun a v => execOp_put ok (noSel_spec hsk) a oi.dst v h3
  have ewk : ∀ (a : Act) v, Region.wanted ok (yielded ops (a.put oi.dst v).tmps) = Region.wanted ok (yielded ops a.tmps) := fun a v => wanted_put ok a oi.dst v h3
  have ei : ∀ (a : Act) v, execOp (a.put ok.dst v).eval oi = execOp a.eval oi := fun a v => execOp_put oi (noSel_spec hsi) a ok.dst v h1
  have ewi : ∀ (a : Act) v, Region.wanted oi (yielded ops (a.put ok.dst v).tmps) = Region.wanted oi (yielded ops a.tmps) := fun a v => wanted_put oi a ok.dst v h1
  have comm : ∀ (a : Act) v u, (a.put ok.dst v).put oi.dst u = (a.put oi.dst u).put ok.dst v := fun a v u => Act.put_comm a v u h2
  have cki : ∀ (a : Act) w v, chkE P ops ci K (a.put ok.dst v) w → (∀ j ∈ ci.filter (· != k), stable P ops j a w) ∧ K (a.put ok.dst v) w := by
    rintro a w v ⟨hc, hK⟩
    refine ⟨fun j hj => ?_, hK⟩
    obtain ⟨hj1, hj2⟩ := List.mem_filter.1 hj
    obtain ⟨lo, hlo, hs, hq⟩ := hci j hj1 (by simpa using hj2)
    exact (stable_put hlo hs hq v).1 (hc j hj1)
  have ckk : ∀ (a : Act) w v, (∀ j ∈ ck, stable P ops j a w) → (∀ j ∈ ck, stable P ops j (a.put oi.dst v) w) := by
    intro a w v hc j hj
    obtain ⟨lo, hlo, hs, hq⟩ := hck j hj
    exact (stable_put hlo hs hq v).2 (hc j hj)
  rw [stepE_cases] at h
  rcases h with ⟨hwk, h⟩ | ⟨hwk, h⟩
  ·
    rw [stepE_cases] at h ⊢
    rw [ewi, ei] at h
    have fin : ∀ u w', K ((a.put ok.dst undef).put oi.dst u) w' → stepE P ops ok ck K (a.put oi.dst u) w' := fun u w' hK =>
      stepE_cases.2 (.inl ⟨by rw [ewk]; exact hwk, by rw [← comm]; exact hK⟩)
    rcases h with ⟨hwi, h⟩ | ⟨hwi, h⟩
    · exact .inl ⟨hwi, fin _ _ h⟩
    · refine .inr ⟨hwi, ?_⟩
      rcases h with ⟨h0, v, hr, h⟩ | ⟨h0, v, hr, h⟩ | ⟨h0, h⟩
      · exact .inl ⟨h0, v, hr, fin _ _ h⟩
      · exact .inr (.inl ⟨h0, v, hr, fin _ _ h⟩)
      · refine .inr (.inr ⟨h0, ?_⟩)
        have go : ∀ u w', chkE P ops ci K ((a.put ok.dst undef).put oi.dst u) w' → chkE P ops (ci.filter (· != k)) (stepE P ops ok ck K) (a.put oi.dst u) w' := by
          intro u w' hc
          rw [comm] at hc
          obtain ⟨c1, c2⟩ := cki _ _ _ hc
          exact ⟨c1, fin _ _ (by rw [comm]; exact c2)⟩
        generalize (execOp a.eval oi).run P w = r at h
        cases r with
        | ok n w' =>
          cases n <;> simp only [eff] at h ⊢ <;> first | exact go _ _ h | exact h.mono (fun e w'' ⟨v, he, hv⟩ => ⟨v, he, go _ _ hv⟩)
        | halt x w' => simp [eff] at h
  · rcases h with ⟨hk0, v, hr, h⟩ | ⟨hk0, v, hr, h⟩ | ⟨hk0, h⟩
    ·
      have fin : ∀ u w', K ((a.put ok.dst v).put oi.dst u) w' → stepE P ops ok ck K (a.put oi.dst u) w' := fun u w' hK =>
        stepE_cases.2 (.inr ⟨by rw [ewk]; exact hwk, .inl ⟨hk0, v, by rw [ek]; exact hr, by rw [← comm]; exact hK⟩⟩)
      rw [stepE_cases] at h ⊢
      rw [ewi, ei] at h
      rcases h with ⟨hwi, h⟩ | ⟨hwi, h⟩
      · exact .inl ⟨hwi, fin _ _ h⟩
      · refine .inr ⟨hwi, ?_⟩
        rcases h with ⟨h0, v', hr', h⟩ | ⟨h0, v', hr', h⟩ | ⟨h0, h⟩
        · exact .inl ⟨h0, v', hr', fin _ _ h⟩
        · exact .inr (.inl ⟨h0, v', hr', fin _ _ h⟩)
        · refine .inr (.inr ⟨h0, ?_⟩)
          have go : ∀ u w', chkE P ops ci K ((a.put ok.dst v).put oi.dst u) w' → chkE P ops (ci.filter (· != k)) (stepE P ops ok ck K) (a.put oi.dst u) w' := by
            intro u w' hc
            rw [comm] at hc
            obtain ⟨c1, c2⟩ := cki _ _ _ hc
            exact ⟨c1, fin _ _ (by rw [comm]; exact c2)⟩
          generalize (execOp a.eval oi).run P w = r at h
          cases r with
          | ok n w' =>
            cases n <;> simp only [eff] at h ⊢ <;> first | exact go _ _ h | exact h.mono (fun e w'' ⟨v, he, hv⟩ => ⟨v, he, go _ _ hv⟩)
          | halt x w' => simp [eff] at h
    ·
      have fin : ∀ u, K ((a.put ok.dst v).put oi.dst u) w → stepE P ops ok ck K (a.put oi.dst u) w := fun u hK =>
        stepE_cases.2 (.inr ⟨by rw [ewk]; exact hwk, .inr (.inl ⟨hk0, v, by rw [ek]; exact hr, by rw [← comm]; exact hK⟩)⟩)
      rw [stepE_cases] at h ⊢
      rw [ewi, ei] at h
      rcases h with ⟨hwi, h⟩ | ⟨hwi, h⟩
      · exact .inl ⟨hwi, fin _ h⟩
      · refine .inr ⟨hwi, ?_⟩
        rcases h with ⟨h0, v', hr', h⟩ | ⟨h0, v', hr', h⟩ | ⟨h0, h⟩
        · exact .inl ⟨h0, v', hr', fin _ h⟩
        · exact .inr (.inl ⟨h0, v', hr', fin _ h⟩)
        · refine .inr (.inr ⟨h0, ?_⟩)
          have hkc : ci.contains k = true := by
            simp only [kindsOK, hk0] at hkind
            simp at hkind
            rcases hkind with h | h | h
            · omega
            · omega
            · simpa using h
          have hself' : ∀ d, ok.dst = some d → d ∉ ok.looksAt ops := by
            rcases hself hkc with hq | hq
            · intro d hd
              simp [quietFor, hd] at hq
            · exact hq
          have go : ∀ u w', chkE P ops ci K ((a.put ok.dst v).put oi.dst u) w' → chkE P ops (ci.filter (· != k)) (stepE P ops ok ck K) (a.put oi.dst u) w' := by
            intro u w' hc
            have hst := hc.1 k (by simpa using hkc) ok hk
            rw [comm] at hc hst
            obtain ⟨c1, c2⟩ := cki _ _ _ hc
            refine ⟨c1, stepE_cases.2 (.inr ⟨by rw [ewk]; exact hwk, .inr (.inl ⟨hk0, v, ?_, c2⟩)⟩)⟩
            obtain ⟨d, v', hd, hv', hrun⟩ := hst (by rw [wanted_put ok _ ok.dst v hself', ewk]; exact hwk)
            rw [execOp_put ok (noSel_spec hsk) _ ok.dst v hself'] at hrun
            have : v' = v := by
              rw [hd] at hv'
              simp only [Act.put] at hv'
              rw [Array.getElem?_setIfInBounds] at hv'
              simp at hv'
              exact hv'.2.symm
            rw [← this]; exact hrun
          generalize (execOp a.eval oi).run P w = r at h
          cases r with
          | ok n w' =>
            cases n <;> simp only [eff] at h ⊢ <;> first | exact go _ _ h | exact h.mono (fun e w'' ⟨v, he, hv⟩ => ⟨v, he, go _ _ hv⟩)
          | halt x w' => simp [eff] at h
    ·
      have hi0 : opKind oi.op = 0 := by
        simp only [kindsOK] at hkind
        simp at hkind
        rcases hkind with (h | h) | h
        · omega
        · exact h
        · omega
      cases hwi : Region.wanted oi (yielded ops a.tmps) with
      | false =>
        refine stepE_cases.2 (.inl ⟨hwi, stepE_cases.2 (.inr ⟨by rw [ewk]; exact hwk, .inr (.inr ⟨hk0, ?_⟩)⟩)⟩)
        rw [ek]
        have go : ∀ u w', chkE P ops ck (stepE P ops oi ci K) (a.put ok.dst u) w' → chkE P ops ck K ((a.put oi.dst undef).put ok.dst u) w' := by
          rintro u w' ⟨hc, hs⟩
          rw [stepE_cases, ewi] at hs
          rcases hs with ⟨_, hs⟩ | ⟨hs, _⟩
          · rw [← comm]
            exact ⟨ckk _ _ _ hc, hs⟩
          · rw [hwi] at hs; cases hs
        generalize (execOp a.eval ok).run P w = r at h
        cases r with
        | ok n w' =>
          cases n <;> simp only [eff] at h ⊢ <;> first | exact go _ _ h | exact h.mono (fun e w'' ⟨v, he, hv⟩ => ⟨v, he, go _ _ hv⟩)
        | halt x w' => simp [eff] at h
      | true =>
        have get : ∀ u w', chkE P ops ck (stepE P ops oi ci K) (a.put ok.dst u) w' → ∃ v, (∀ w', (execOp a.eval oi).run P w' = .ok (.value v) w') ∧ K ((a.put ok.dst u).put oi.dst v) w' ∧ ∀ j ∈ ck, stable P ops j (a.put ok.dst u) w' := by
          rintro u w' ⟨hc, hs⟩
          rw [stepE_cases, ewi, ei] at hs
          rcases hs with ⟨hs, _⟩ | ⟨_, hs⟩
          · rw [hwi] at hs; cases hs
          · rcases hs with ⟨_, v, hr, hK⟩ | ⟨h1, _⟩ | ⟨h1, _⟩
            · exact ⟨v, hr, hK, hc⟩
            · omega
            · omega
        have uniq : ∀ v v', (∀ w', (execOp a.eval oi).run P w' = .ok (.value v) w') → (∀ w', (execOp a.eval oi).run P w' = .ok (.value v') w') → v = v' := by
          intro v v' h1 h2
          have := (h1 w).symm.trans (h2 w)
          injection this with h _
          injection h
        have fin : ∀ v, (∀ w', (execOp a.eval oi).run P w' = .ok (.value v) w') → ∀ u w', chkE P ops ck (stepE P ops oi ci K) (a.put ok.dst u) w' → chkE P ops ck K ((a.put oi.dst v).put ok.dst u) w' := by
          intro v hv u w' hc
          obtain ⟨v', hr, hK, hcs⟩ := get u w' hc
          have := uniq v v' hv hr
          subst this
          rw [← comm]
          exact ⟨ckk _ _ _ hcs, hK⟩
        have ex : ∃ v, (∀ w', (execOp a.eval oi).run P w' = .ok (.value v) w') := by
          generalize (execOp a.eval ok).run P w = r at h
          cases r with
          | ok n w' =>
            cases n <;> simp only [eff] at h
            case value u => obtain ⟨v, hv, _⟩ := get _ _ h; exact ⟨v, hv⟩
            case skip => obtain ⟨v, hv, _⟩ := get _ _ h; exact ⟨v, hv⟩
            case enter f args =>
              obtain ⟨e, w'', fr, ⟨u, he, hX⟩, _⟩ := h []
              obtain ⟨v, hv, _⟩ := get _ _ hX
              exact ⟨v, hv⟩
          | halt x w' => simp [eff] at h
        obtain ⟨v, hv⟩ := ex
        refine stepE_cases.2 (.inr ⟨hwi, .inl ⟨hi0, v, hv, stepE_cases.2 (.inr ⟨by rw [ewk]; exact hwk, .inr (.inr ⟨hk0, ?_⟩)⟩)⟩⟩)
        rw [ek]
        have go := fin v hv
        generalize (execOp a.eval ok).run P w = r at h
        cases r with
        | ok n w' =>
          cases n <;> simp only [eff] at h ⊢ <;> first | exact go _ _ h | exact h.mono (fun e w'' ⟨v, he, hv⟩ => ⟨v, he, go _ _ hv⟩)
        | halt x w' => simp [eff] at h
abbrev Ent := Nat × List Nat
def needs (o : Oper) : List Nat := (o.after.toList.filter fun e => Region.binds .any e).map (·.on)
def preOf : List Oper → List (List Nat) → List (List Nat)
  | [], acc => acc
  | o :: r, acc => preOf r (acc ++ [((needs o) ++ (needs o).flatMap fun j => acc.getD j []).eraseDups])
def pairOK (ops : Array Oper) (pre : List (List Nat)) (all : List Nat) (x y : Ent) : Bool :=
  match ops[x.1]?, ops[y.1]? with
  | some ok, some oi =>
    x.1 != y.1 && !(needs ok).contains y.1 &&
    ((pre.getD y.1 []).contains x.1 || (Oper.apart ops ok oi && kindsOK ok oi x.1 y.2)) &&
    (!all.contains x.1 || quietFor ops oi ok)
  | _, _ => false
def pairsOK (ops : Array Oper) (pre : List (List Nat)) (all : List Nat) : List Ent → Bool
  | [] => true
  | x :: r => r.all (pairOK ops pre all x) && pairsOK ops pre all r
def entOK (ops : Array Oper) (n : Nat) : List Nat → List Ent → Bool
  | _, [] => true
  | seen, (i, c) :: r =>
    (match ops[i]? with
     | some o => noSel o && (needs o).all (· < n) && !(needs o).contains i
     | none => false) &&
    c.all (fun k => seen.contains k && (match ops[k]? with | some o => (match o.dst with | some d => !(o.looksAt ops).contains d | none => true) | none => false)) &&
    entOK ops n (i :: seen) r
def preOK (ops : Array Oper) (pre : List (List Nat)) (i : Nat) : Bool :=
  match ops[i]? with
  | some o => (pre.getD i []).all fun k => (needs o).contains k || (needs o).any fun j => (pre.getD j []).contains k
  | none => false
def ordOK (ops : Array Oper) (ord : List Ent) : Bool :=
  let pre := preOf ops.toList []
  let n := ops.size
  (List.range n).all (fun i => (ord.map (·.1)).contains i) && (ord.map (·.1)).all (· < n) && ord.length == n &&
  entOK ops n [] ord && (List.range n).all (preOK ops pre) && pairsOK ops pre (ord.flatMap (·.2)) ord
theorem pull {i : Nat} {oi : Oper} {ci : List Nat} (hi : ops[i]? = some oi) (hsi : noSel oi = true) (post : List Ent) :
    ∀ (pre : List Ent) (a : Act) (w : World), (pre.map (·.1)).Nodup →
      (∀ x ∈ pre, ∃ ok, ops[x.1]? = some ok ∧ noSel ok = true ∧ ok.apart ops oi = true ∧ kindsOK ok oi x.1 ci = true ∧ (ci.contains x.1 = true → ∀ d, ok.dst = some d → d ∉ ok.looksAt ops)) →
      (∀ p1 x p2, pre = p1 ++ x :: p2 → ∀ ok, ops[x.1]? = some ok → ∀ j ∈ ci, j ∉ p2.map (·.1) → j ≠ x.1 → ∃ lo, ops[j]? = some lo ∧ noSel lo = true ∧ quietFor ops ok lo = true) →
      (∀ x ∈ pre, ∀ j ∈ x.2, ∃ lo, ops[j]? = some lo ∧ noSel lo = true ∧ quietFor ops oi lo = true) →
      wpI P ops (pre ++ (i, ci) :: post) K a w → stepE P ops oi (ci.filter fun j => !(pre.map (·.1)).contains j) (wpI P ops (pre ++ post) K) a w := by
  intro pre
  induction pre with
  | nil =>
    intro a w _ _ _ _ h
    obtain ⟨o, ho, h⟩ := h
    have : o = oi := by rw [hi] at ho; exact (Option.some.inj ho).symm
    subst this
    exact stepE_mono (fun j hj => (List.mem_filter.1 hj).1) (fun _ _ h => h) h
  | cons x pre ih =>
    intro a w hnd hap hci hck h
    obtain ⟨ok, hok, h⟩ := h
    obtain ⟨ok', hok', hsk, hap', hkd, hself⟩ := hap x (by simp)
    have e : ok' = ok := by rw [hok] at hok'; exact (Option.some.inj hok').symm
    subst e
    have hnd' : (pre.map (·.1)).Nodup := (List.nodup_cons.1 (by simpa using hnd)).2
    have hx : x.1 ∉ pre.map (·.1) := (List.nodup_cons.1 (by simpa using hnd)).1
    have h' := stepE_mono (c' := x.2) (fun j hj => hj) (fun a w h => ih a w hnd' (fun y hy => hap y (List.mem_cons_of_mem _ hy))
      (fun p1 y p2 he => hci (x :: p1) y p2 (by rw [he]; rfl)) (fun y hy => hck y (List.mem_cons_of_mem _ hy)) h) h
    have hb := bubble hok hi hsk hsi hap'
      (by
        unfold kindsOK at hkd ⊢
        simp only [Bool.or_eq_true, Bool.and_eq_true] at hkd ⊢
        rcases hkd with h | ⟨h1, h2 | h2⟩
        · exact .inl h
        · exact .inr ⟨h1, .inl h2⟩
        · refine .inr ⟨h1, .inr ?_⟩
          simp only [List.contains_iff_mem, List.mem_filter] at h2 ⊢
          exact ⟨h2, by simpa using hx⟩)
      (fun hc => .inr (hself (by
        simp only [List.contains_iff_mem, List.mem_filter] at hc ⊢
        exact hc.1)))
      (fun j hj hne => by
        obtain ⟨h1, h2⟩ := List.mem_filter.1 hj
        exact hci [] x pre rfl ok' hok j h1 (by simpa using h2) hne)
      (fun j hj => hck x (by simp) j hj) h'
    refine stepE_mono (fun j hj => ?_) (fun a w h => ?_) hb
    · obtain ⟨h1, h2⟩ := List.mem_filter.1 hj
      simp at h2
      refine List.mem_filter.2 ⟨List.mem_filter.2 ⟨h1, ?_⟩, ?_⟩
      · simp; intro y hy; exact h2.2 _ hy
      · simpa using h2.1
    · exact ⟨ok', hok, h⟩
def rst (L : Array Bool) (ord : List Ent) : List Ent := ord.filterMap fun x => if L.getD x.1 false = true then none else some (x.1, x.2.filter fun k => !L.getD k false)
theorem mem_rst {L : Array Bool} {ord : List Ent} {y : Ent} (h : y ∈ rst L ord) : ∃ x ∈ ord, L.getD x.1 false = false ∧ y = (x.1, x.2.filter fun k => !L.getD k false) := by
  obtain ⟨x, hx, hy⟩ := List.mem_filterMap.1 h
  split at hy
  · cases hy
  · rename_i hL
    exact ⟨x, hx, by simpa using hL, (Option.some.inj hy).symm⟩
theorem rst_mem {L : Array Bool} {ord : List Ent} {x : Ent} (hx : x ∈ ord) (hL : L.getD x.1 false = false) : (x.1, x.2.filter fun k => !L.getD k false) ∈ rst L ord :=
  List.mem_filterMap.2 ⟨x, hx, if_neg (by rw [hL]; exact Bool.false_ne_true)⟩
theorem rst_cons {L : Array Bool} {ord : List Ent} {x : Ent} (hL : L.getD x.1 false = false) : rst L (x :: ord) = (x.1, x.2.filter fun k => !L.getD k false) :: rst L ord := by
  unfold rst
  simp only [List.filterMap_cons, hL, Bool.false_eq_true, if_false]
theorem rst_append {L : Array Bool} {p q : List Ent} : rst L (p ++ q) = rst L p ++ rst L q := List.filterMap_append
theorem wpI_drop (i : Nat) : ∀ (l : List Ent) (a : Act) (w : World), wpI P ops l K a w → wpI P ops (l.map fun x => (x.1, x.2.filter (· != i))) K a w := by
  intro l
  induction l with
  | nil => intro a w h; exact h
  | cons x l ih =>
    intro a w h
    obtain ⟨o, ho, h⟩ := h
    exact ⟨o, ho, stepE_mono (fun j hj => (List.mem_filter.1 hj).1) ih h⟩
structure OrdP (ops : Array Oper) (ord : List Ent) (pre : List (List Nat)) : Prop where
  all_in : ∀ i, i < ops.size → i ∈ ord.map (·.1)
  len : ord.length ≤ ops.size
  ent : ∀ x ∈ ord, ∃ o, ops[x.1]? = some o ∧ noSel o = true ∧ (∀ j ∈ needs o, j < ops.size ∧ j ≠ x.1)
  chk : ∀ p1 x p2, ord = p1 ++ x :: p2 → ∀ k ∈ x.2, k ∈ p1.map (·.1) ∧ ∀ o, ops[k]? = some o → ∀ d, o.dst = some d → d ∉ o.looksAt ops
  clo : ∀ i o, ops[i]? = some o → ∀ k ∈ pre.getD i [], k ∈ needs o ∨ ∃ j ∈ needs o, k ∈ pre.getD j []
  pair : ord.Pairwise fun x y => x.1 ≠ y.1 ∧ ∃ ok oi, ops[x.1]? = some ok ∧ ops[y.1]? = some oi ∧ y.1 ∉ needs ok ∧
    (x.1 ∈ pre.getD y.1 [] ∨ (Oper.apart ops ok oi = true ∧ kindsOK ok oi x.1 y.2 = true)) ∧ ((∃ z ∈ ord, x.1 ∈ z.2) → quietFor ops oi ok = true)
theorem entOK_spec {n : Nat} : ∀ (l : List Ent) (seen : List Nat), entOK ops n seen l = true →
    (∀ x ∈ l, ∃ o, ops[x.1]? = some o ∧ noSel o = true ∧ (∀ j ∈ needs o, j < n ∧ j ≠ x.1)) ∧
    (∀ p1 x p2, l = p1 ++ x :: p2 → ∀ k ∈ x.2, (k ∈ seen ∨ k ∈ p1.map (·.1)) ∧ ∀ o, ops[k]? = some o → ∀ d, o.dst = some d → d ∉ o.looksAt ops) := by
  intro l
  induction l with
  | nil =>
    intro seen _
    refine ⟨by simp, fun p1 x p2 he => ?_⟩
    cases p1 <;> cases he
  | cons y l ih =>
    intro seen h
    obtain ⟨i, c⟩ := y
    simp only [entOK, Bool.and_eq_true] at h
    obtain ⟨⟨h1, h2⟩, h3⟩ := h
    obtain ⟨i1, i2⟩ := ih _ h3
    refine ⟨fun x hx => ?_, fun p1 x p2 he k hk => ?_⟩
    · rcases List.mem_cons.1 hx with rfl | hx
      · cases ho : ops[i]? with
        | none => simp [ho] at h1
        | some o =>
          simp [ho] at h1
          exact ⟨o, rfl, h1.1.1, fun j hj => ⟨h1.1.2 j hj, fun e => h1.2 (by rw [← show j = i from e]; exact hj)⟩⟩
      · exact i1 x hx
    · cases p1 with
      | nil =>
        simp only [List.nil_append, List.cons.injEq] at he
        obtain ⟨rfl, rfl⟩ := he
        have := List.all_eq_true.1 h2 k hk
        simp only [Bool.and_eq_true, List.contains_iff_mem] at this
        refine ⟨.inl this.1, fun o ho d hd => ?_⟩
        have h4 := this.2
        simp [ho, hd] at h4
        exact h4
      | cons z p1 =>
        simp only [List.cons_append, List.cons.injEq] at he
        obtain ⟨rfl, rfl⟩ := he
        obtain ⟨j1, j2⟩ := i2 p1 x p2 rfl k hk
        refine ⟨?_, j2⟩
        rcases j1 with j1 | j1
        · rcases List.mem_cons.1 j1 with rfl | j1
          · exact .inr (by simp)
          · exact .inl j1
        · exact .inr (by simp only [List.map_cons]; exact List.mem_cons_of_mem _ j1)
theorem pairsOK_spec {pre : List (List Nat)} {all : List Nat} : ∀ (l : List Ent), pairsOK ops pre all l = true → l.Pairwise fun x y => pairOK ops pre all x y = true := by
  intro l
  induction l with
  | nil => intro _; exact .nil
  | cons x l ih =>
    intro h
    simp only [pairsOK, Bool.and_eq_true] at h
    exact .cons (fun y hy => List.all_eq_true.1 h.1 y hy) (ih h.2)
theorem ordOK_spec {ord : List Ent} (h : ordOK ops ord = true) : OrdP ops ord (preOf ops.toList []) := by
  simp only [ordOK, Bool.and_eq_true] at h
  obtain ⟨⟨⟨⟨⟨h1, _⟩, h3⟩, h4⟩, h5⟩, h6⟩ := h
  obtain ⟨e1, e2⟩ := entOK_spec ord [] h4
  refine ⟨fun i hi => ?_, ?_, e1, fun p1 x p2 he k hk => ?_, fun i o ho k hk => ?_, ?_⟩
  · have := List.all_eq_true.1 h1 i (List.mem_range.2 hi)
    simpa using this
  · have : ord.length = ops.size := by simpa using h3
    omega
  · obtain ⟨j1, j2⟩ := e2 p1 x p2 he k hk
    exact ⟨by simpa using j1, j2⟩
  · have := List.all_eq_true.1 h5 i (List.mem_range.2 (Array.getElem?_eq_some_iff.1 ho).1)
    simp only [preOK, ho] at this
    have := List.all_eq_true.1 this k hk
    simp only [Bool.or_eq_true, List.contains_iff_mem, List.any_eq_true] at this
    exact this
  · refine (pairsOK_spec ord h6).imp fun {x y} h => ?_
    unfold pairOK at h
    cases hx : ops[x.1]? with
    | none => simp [hx] at h
    | some ok =>
      cases hy : ops[y.1]? with
      | none => simp [hx, hy] at h
      | some oi =>
        simp only [hx, hy, Bool.and_eq_true, Bool.or_eq_true, List.contains_iff_mem, bne_iff_ne, Bool.not_eq_true'] at h
        obtain ⟨⟨⟨h1, h2⟩, h3⟩, h4⟩ := h
        refine ⟨h1, ok, oi, rfl, rfl, by simpa using h2, h3, fun ⟨z, hz, hxz⟩ => ?_⟩
        rcases h4 with h4 | h4
        · exfalso
          have : x.1 ∈ ord.flatMap (·.2) := List.mem_flatMap.2 ⟨z, hz, hxz⟩
          have h5 : (ord.flatMap (·.2)).contains x.1 = true := by simpa using this
          rw [h5] at h4; cases h4
        · exact h4
theorem wpAny_of_wpI {ord : List Ent} {pre : List (List Nat)} (H : OrdP ops ord pre) : ∀ (fuel : Nat) (L : Array Bool) (a : Act) (w : World), L.size = ops.size →
    (∀ i o, ops[i]? = some o → L.getD i false = true → ∀ k ∈ pre.getD i [], L.getD k false = true) → (rst L ord).length ≤ fuel →
    wpI P ops (rst L ord) (Q .normal) a w → wpAny P .any ops Q fuel L a w := by
  have inRst : ∀ (L : Array Bool) i, i < ops.size → L.getD i false = false → ∃ c, (i, c) ∈ rst L ord := by
    intro L i hi hL
    obtain ⟨x, hx, rfl⟩ := List.mem_map.1 (H.all_in i hi)
    exact ⟨_, rst_mem hx hL⟩
  have pairR : ∀ (L : Array Bool), (rst L ord).Pairwise fun x y => x.1 ≠ y.1 ∧ ∃ ok oi, ops[x.1]? = some ok ∧ ops[y.1]? = some oi ∧ y.1 ∉ needs ok ∧
      (x.1 ∈ pre.getD y.1 [] ∨ (Oper.apart ops ok oi = true ∧ kindsOK ok oi x.1 y.2 = true)) ∧ ((∃ z ∈ ord, x.1 ∈ z.2) → quietFor ops oi ok = true) := by
    intro L
    refine List.Pairwise.filterMap _ (fun x y hxy x' hx' y' hy' => ?_) H.pair
    split at hx'
    · cases hx'
    · rename_i hLx
      split at hy'
      · cases hy'
      · cases hx'; cases hy'
        obtain ⟨h1, ok, oi, h2, h3, h4, h5, h6⟩ := hxy
        refine ⟨h1, ok, oi, h2, h3, h4, ?_, h6⟩
        rcases h5 with h5 | ⟨h5, h7⟩
        · exact .inl h5
        · refine .inr ⟨h5, ?_⟩
          unfold kindsOK at h7 ⊢
          simp only [Bool.or_eq_true, Bool.and_eq_true] at h7 ⊢
          rcases h7 with h | ⟨h1, h2 | h2⟩
          · exact .inl h
          · exact .inr ⟨h1, .inl h2⟩
          · refine .inr ⟨h1, .inr ?_⟩
            simp only [List.contains_iff_mem, List.mem_filter] at h2 ⊢
            exact ⟨h2, by simpa using hLx⟩
  have readyIn : ∀ (L : Array Bool), L.size = ops.size → ∀ i ∈ Region.ready .any ops L, i < ops.size ∧ L.getD i false = false ∧ ∃ o, ops[i]? = some o ∧ ∀ j ∈ needs o, L.getD j false = true := by
    intro L hL i hi
    obtain ⟨h0, o, ho, hall⟩ := mem_ready.1 hi
    have hlt := (Array.getElem?_eq_some_iff.1 ho).1
    refine ⟨hlt, ?_, o, ho, fun j hj => ?_⟩
    · have : i < L.size := by omega
      simpa [Array.getD, this] using h0
    · obtain ⟨e, he, rfl⟩ := List.mem_map.1 hj
      obtain ⟨he1, he2⟩ := List.mem_filter.1 he
      exact hall e (by simpa using he1) he2
  intro fuel
  induction fuel with
  | zero =>
    intro L a w hL _ hlen h
    have hnil : rst L ord = [] := List.eq_nil_of_length_eq_zero (by omega)
    rw [hnil] at h
    refine ⟨?_, h⟩
    refine List.eq_nil_iff_forall_not_mem.2 fun i hi => ?_
    obtain ⟨hlt, hf, _⟩ := readyIn L hL i hi
    obtain ⟨c, hc⟩ := inRst L i hlt hf
    rw [hnil] at hc; cases hc
  | succ fuel ih =>
    intro L a w hL hclo hlen h
    refine ⟨fun hr => ?_, fun i hi => ?_⟩
    · have hnil : rst L ord = [] := by
        cases hx : rst L ord with
        | nil => rfl
        | cons x r =>
          exfalso
          have hmem : x ∈ rst L ord := by rw [hx]; simp
          obtain ⟨x0, hx0, hLx, rfl⟩ := mem_rst hmem
          obtain ⟨o, ho, _, hn⟩ := H.ent x0 hx0
          have hlt := (Array.getElem?_eq_some_iff.1 ho).1
          have : x0.1 ∈ Region.ready .any ops L := by
            refine mem_ready.2 ⟨?_, o, ho, fun e he hb => ?_⟩
            · have : x0.1 < L.size := by omega
              simpa [Array.getD, this] using hLx
            · have hj : e.on ∈ needs o := List.mem_map.2 ⟨e, List.mem_filter.2 ⟨by simpa using he, hb⟩, rfl⟩
              obtain ⟨hj1, hj2⟩ := hn _ hj
              cases hLj : L.getD e.on false with
              | true => rfl
              | false =>
                exfalso
                obtain ⟨c, hc⟩ := inRst L e.on hj1 hLj
                rw [hx] at hc
                rcases List.mem_cons.1 hc with hc | hc
                · exact hj2 (congrArg Prod.fst hc)
                · have hp := pairR L
                  rw [hx] at hp
                  obtain ⟨_, ok, oi, hok, _, hnn, _⟩ := (List.pairwise_cons.1 hp).1 _ hc
                  have : ok = o := by rw [ho] at hok; exact (Option.some.inj hok).symm
                  subst this
                  exact hnn hj
          rw [hr] at this; cases this
      rw [hnil] at h
      exact h
    · obtain ⟨hlt, hf, oi, hoi, hneed⟩ := readyIn L hL i hi
      obtain ⟨ci, hci⟩ := inRst L i hlt hf
      obtain ⟨p, q, hpq⟩ := List.append_of_mem hci
      obtain ⟨x0, hx0, _, hxe⟩ := mem_rst hci
      obtain ⟨o', ho', hsi, _⟩ := H.ent x0 hx0
      have hx1 : x0.1 = i := (congrArg Prod.fst hxe).symm
      have eo : o' = oi := by rw [hx1, hoi] at ho'; exact (Option.some.inj ho').symm
      subst eo
      have hpre : ∀ k ∈ pre.getD i [], L.getD k false = true := by
        intro k hk
        rcases H.clo i o' hoi k hk with h1 | ⟨j, hj, hk'⟩
        · exact hneed k h1
        · have hLj := hneed j hj
          have hjlt : j < L.size := by
            rcases Nat.lt_or_ge j L.size with h | h
            · exact h
            · rw [Array.getD_eq_getD_getElem?, Array.getElem?_eq_none h] at hLj; cases hLj
          obtain ⟨oj, hoj⟩ : ∃ oj, ops[j]? = some oj := ⟨_, Array.getElem?_eq_getElem (by omega)⟩
          exact hclo j oj hoj hLj k hk'
      have hP := pairR L
      rw [hpq] at hP
      have hP1 := List.pairwise_append.1 hP
      have hids : ((rst L ord).map (·.1)).Nodup := by
        rw [hpq]
        exact (List.pairwise_map.2 (hP.imp fun h => h.1))
      have hpnd : (p.map (·.1)).Nodup := (List.pairwise_map.2 (hP1.1.imp fun h => h.1))
      have unl : ∀ x ∈ p, L.getD x.1 false = false := by
        intro x hx
        obtain ⟨y, _, hy, hxe⟩ := mem_rst (L := L) (ord := ord) (y := x) (by rw [hpq]; simp [hx])
        rw [hxe]; exact hy
      have hcin : ∀ j ∈ ci, j ∈ p.map (·.1) := by
        intro j hj
        have hci2 : ci = x0.2.filter fun k => !L.getD k false := congrArg Prod.snd hxe
        rw [hci2] at hj
        obtain ⟨hj1, hj2⟩ := List.mem_filter.1 hj
        obtain ⟨p0, q0, hpq0⟩ := List.append_of_mem hx0
        obtain ⟨hj3, _⟩ := H.chk p0 x0 q0 hpq0 j hj1
        have hj4 : j ∈ (rst L p0).map (·.1) := by
          obtain ⟨z, hz, rfl⟩ := List.mem_map.1 hj3
          exact List.mem_map.2 ⟨_, rst_mem hz (by simpa using hj2), rfl⟩
        have hsplit : rst L ord = rst L p0 ++ (i, ci) :: rst L q0 := by
          rw [hpq0]
          rw [rst_append, rst_cons (by rw [hx1]; exact hf), ← hxe]
        have hpp : rst L p0 = p := by
          rw [hpq] at hsplit
          have hnot1 : (i, ci).1 ∉ p.map (·.1) := by
            intro hm
            obtain ⟨y, hy, hye⟩ := List.mem_map.1 hm
            exact (hP1.2.2 y hy (i, ci) (by simp)).1 hye
          have hnd2 : ((rst L p0 ++ (i, ci) :: rst L q0).map (·.1)).Nodup := by rw [← hsplit, ← hpq]; exact hids
          have hnot2 : (i, ci).1 ∉ (rst L p0).map (·.1) := by
            rw [List.map_append, List.map_cons] at hnd2
            intro hm
            exact (List.nodup_append.1 hnd2).2.2 _ hm _ (by simp) rfl
          clear hj4 hj3 hpq0
          generalize rst L p0 = u at *
          generalize rst L q0 = v at *
          clear hnd2 hids hP hP1 hpnd unl hpq
          induction p generalizing u with
          | nil =>
            cases u with
            | nil => rfl
            | cons y u =>
              simp at hsplit
              exact absurd (by simp [← hsplit.1]) hnot2
          | cons y p ihp =>
            cases u with
            | nil =>
              simp at hsplit
              exact absurd (by simp [hsplit.1]) hnot1
            | cons z u =>
              simp only [List.cons_append, List.cons.injEq] at hsplit
              rw [hsplit.1]
              congr 1
              exact ihp (fun h => hnot1 (by simp only [List.map_cons]; exact List.mem_cons_of_mem _ h)) u (fun h => hnot2 (by simp only [List.map_cons]; exact List.mem_cons_of_mem _ h)) hsplit.2
        rw [← hpp]; exact hj4
      have selfq : ∀ j ∈ ci, ∀ o, ops[j]? = some o → ∀ d, o.dst = some d → d ∉ o.looksAt ops := by
        intro j hj
        have hci2 : ci = x0.2.filter fun k => !L.getD k false := congrArg Prod.snd hxe
        rw [hci2] at hj
        obtain ⟨p0, q0, hpq0⟩ := List.append_of_mem hx0
        exact (H.chk p0 x0 q0 hpq0 j (List.mem_filter.1 hj).1).2
      have inAll : ∀ (y : Ent), y ∈ rst L ord → ∀ j ∈ y.2, ∃ z ∈ ord, j ∈ z.2 := by
        intro y hy j hj
        obtain ⟨z, hz, _, rfl⟩ := mem_rst hy
        exact ⟨z, hz, (List.mem_filter.1 hj).1⟩
      have noselOf : ∀ (y : Ent), y ∈ rst L ord → ∀ o, ops[y.1]? = some o → noSel o = true := by
        intro y hy o ho
        obtain ⟨z, hz, _, rfl⟩ := mem_rst hy
        obtain ⟨o2, ho2, hs, _⟩ := H.ent z hz
        have : o2 = o := by rw [ho] at ho2; exact (Option.some.inj ho2).symm
        rw [← this]; exact hs
      rw [hpq] at h
      have hpull := pull (K := Q .normal) hoi hsi q p a w hpnd
        (fun x hx => by
          obtain ⟨_, ok, oi, h2, h3, _, h5, _⟩ := hP1.2.2 x hx (i, ci) (by simp)
          have e2 : oi = o' := by rw [hoi] at h3; exact (Option.some.inj h3).symm
          subst e2
          have hs := noselOf x (by rw [hpq]; simp [hx]) ok h2
          rcases h5 with h5 | ⟨h5, h6⟩
          · exact absurd (hpre x.1 h5) (by rw [unl x hx]; simp)
          · exact ⟨ok, h2, hs, h5, h6, fun hc => selfq x.1 (by simpa using hc) ok h2⟩)
        (fun p1 x p2 hp ok hok j hj hj2 hjx => by
          have hjp := hcin j hj
          rw [hp, List.map_append, List.map_cons, List.mem_append, List.mem_cons] at hjp
          rcases hjp with hjp | hjp | hjp
          · obtain ⟨y, hy, rfl⟩ := List.mem_map.1 hjp
            rw [hp] at hP1
            obtain ⟨_, lo, ok2, h2, h3, _, _, h6⟩ := (List.pairwise_append.1 hP1.1).2.2 y hy x (by simp)
            have e2 : ok2 = ok := by rw [hok] at h3; exact (Option.some.inj h3).symm
            subst e2
            exact ⟨lo, h2, noselOf y (by rw [hpq, hp]; simp [hy]) lo h2, h6 (inAll (i, ci) hci y.1 hj)⟩
          · exact absurd hjp hjx
          · exact absurd hjp hj2)
        (fun x hx j hj => by
          obtain ⟨x1, hx1', _, hxe1⟩ := mem_rst (L := L) (ord := ord) (y := x) (by rw [hpq]; simp [hx])
          have hj0 : j ∈ x1.2 := by rw [hxe1] at hj; exact (List.mem_filter.1 hj).1
          have hLj : L.getD j false = false := by rw [hxe1] at hj; simpa using (List.mem_filter.1 hj).2
          obtain ⟨p0, q0, hpq0⟩ := List.append_of_mem hx1'
          obtain ⟨hj3, _⟩ := H.chk p0 x1 q0 hpq0 j hj0
          obtain ⟨z, hz, rfl⟩ := List.mem_map.1 hj3
          have hz1 : z ∈ ord := by rw [hpq0]; simp [hz]
          have hzr : (z.1, z.2.filter fun k => !L.getD k false) ∈ rst L ord := rst_mem hz1 hLj
          have hsub : List.Sublist [(z.1, z.2.filter fun k => !L.getD k false), x] (rst L ord) := by
            rw [hpq0, rst_append]
            have s1 : List.Sublist [(z.1, z.2.filter fun k => !L.getD k false)] (rst L p0) := List.singleton_sublist.2 (rst_mem hz hLj)
            have hxin : x ∈ rst L (x1 :: q0) := by
              have h1 : L.getD x1.1 false = false := by have := unl x hx; rw [hxe1] at this; exact this
              rw [rst_cons h1, ← hxe1]; simp
            exact List.Sublist.append s1 (List.singleton_sublist.2 hxin)
          have hsub2 : List.Sublist [x, (i, ci)] (rst L ord) := by
            rw [hpq]
            exact List.Sublist.append (List.singleton_sublist.2 hx) (List.singleton_sublist.2 (by simp))
          have hzi : List.Sublist [(z.1, z.2.filter fun k => !L.getD k false), (i, ci)] (rst L ord) := by
            rw [hpq] at hsub ⊢
            have hzp : (z.1, z.2.filter fun k => !L.getD k false) ∈ p := by
              obtain ⟨l1, l2, hl, s1, s2⟩ := List.sublist_append_iff.1 hsub
              cases l1 with
              | nil =>
                exfalso
                simp at hl
                rw [← hl] at s2
                have hxq : x ∈ (i, ci) :: q := s2.subset (by simp)
                exact (hP1.2.2 x hx x hxq).1 rfl
              | cons y l1 =>
                simp at hl
                exact s1.subset (by rw [← hl.1]; simp)
            exact List.Sublist.append (List.singleton_sublist.2 hzp) (List.singleton_sublist.2 (by simp))
          have hPz := (pairR L).sublist hzi
          obtain ⟨_, lo, oi2, h2, h3, _, _, h6⟩ := (List.pairwise_cons.1 hPz).1 (i, ci) (by simp)
          have e2 : oi2 = o' := by rw [hoi] at h3; exact (Option.some.inj h3).symm
          subst e2
          exact ⟨lo, h2, noselOf _ hzr lo h2, h6 ⟨x1, hx1', hj0⟩⟩) h
      refine wpOp_of_stepE (c := []) hoi (stepE_mono (by simp) (fun a w hw => ?_) hpull)
      have hnoti : ∀ x ∈ p ++ q, x.1 ≠ i := by
        intro x hx he
        rcases List.mem_append.1 hx with hx | hx
        · exact (hP1.2.2 x hx (i, ci) (by simp)).1 he
        · exact ((List.pairwise_cons.1 hP1.2.1).1 x hx).1 he.symm
      have hLi : i < L.size := by omega
      have getS : ∀ j, (L.setIfInBounds i true).getD j false = (L.getD j false || j == i) := by
        intro j
        by_cases hji : j = i
        · subst hji
          simp [Array.getD, hLi]
        · rw [getD_set_ne false (Ne.symm hji)]; simp [hji]
      have hrst : rst (L.setIfInBounds i true) ord = (p ++ q).map fun x => (x.1, x.2.filter (· != i)) := by
        have e1 : rst (L.setIfInBounds i true) ord = (rst L ord).filterMap fun x => if x.1 = i then none else some (x.1, x.2.filter (· != i)) := by
          unfold rst
          rw [List.filterMap_filterMap]
          congr 1
          funext x
          rw [getS]
          cases hx : L.getD x.1 false
          · by_cases hxi : x.1 = i
            · simp [hxi]
            · simp [hxi, List.filter_filter, getS]
              congr 1
              funext k
              cases L[k]?.getD false <;> simp [bne]
          · simp
        rw [e1, hpq, List.filterMap_append, List.filterMap_cons_none (by simp), ← List.filterMap_append]
        have e2 : ∀ l : List Ent, (∀ x ∈ l, x.1 ≠ i) → l.filterMap (fun x => if x.1 = i then none else some (x.1, x.2.filter (· != i))) = l.map fun x => (x.1, x.2.filter (· != i)) := by
          intro l
          induction l with
          | nil => intro _; rfl
          | cons y l ihl =>
            intro hl
            rw [List.filterMap_cons_some (b := (y.1, y.2.filter (· != i))) (by simp [hl y (by simp)]), ihl (fun x hx => hl x (List.mem_cons_of_mem _ hx))]
            rfl
        exact e2 _ hnoti
      refine ih (L.setIfInBounds i true) a w (by simp [hL]) ?_ ?_ (by rw [hrst]; exact wpI_drop i _ a w hw)
      · intro j oj hoj hLj k hk
        rw [getS] at hLj ⊢
        simp only [Bool.or_eq_true, beq_iff_eq] at hLj ⊢
        rcases hLj with hLj | rfl
        · exact .inl (hclo j oj hoj hLj k hk)
        · exact .inl (hpre k hk)
      · rw [hrst, List.length_map]
        rw [hpq] at hlen
        simp only [List.length_append, List.length_cons] at hlen ⊢
        omega
theorem wp_region_I {id : Nat} {ord : List Ent} (hm : P.follows .mixedOrders = true) (hok : ordOK ops ord = true)
    (h : wpI P ops ord (Q .normal) a { w with drawn := w.drawn + 1 }) : (Code.region id ops true).wp P Q a w := by
  have H := ordOK_spec hok
  refine wp_region_any hm (wpAny_of_wpI H ops.size _ a _ (by simp) ?_ ?_ ?_)
  · intro i o ho hL
    exfalso
    have := (Array.getElem?_eq_some_iff.1 ho).1
    simp [Array.getD, this] at hL
  · exact Nat.le_trans (List.length_filterMap_le _ _) H.len
  · have e : rst (Array.replicate ops.size false) ord = ord := by
      unfold rst
      have : ∀ j, (Array.replicate ops.size false).getD j false = false := by
        intro j
        simp [Array.getD]
      simp [this]
      conv => rhs; rw [← List.map_id ord]
      refine List.map_congr_left fun x _ => ?_
      obtain ⟨i, c⟩ := x
      have : c.filter (fun _ => true) = c := List.filter_eq_self.2 (by simp)
      simp [this]
    rw [e]; exact h
end
end Go.Sx
