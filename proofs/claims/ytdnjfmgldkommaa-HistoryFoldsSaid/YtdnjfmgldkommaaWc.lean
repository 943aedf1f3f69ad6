/- Proved here: the rules for calls, numbers, tests and jumps. -/
import Derived.Test.YtdnjfmgldkommaaWb
import Derived.WalkSpells
import Derived.Laws.MakeOwn
import Derived.ScopeJumps
namespace Go.Sx
abbrev OwnD := Option (Nat × Nat × List Value)
def OwnD.val : OwnD → Nat → Value
  | none, _ => .slice none 0 0
  | some (E, cap, _), n => .slice (some ⟨E, 0, none⟩) n cap
def OwnD.ent (o : OwnD) (xs : List Value) (T : TypeId) : Option (Nat × List Value × TypeId) := o.map fun x => (x.1, xs ++ x.2.2, T)
def OwnD.ok (o : OwnD) (n k : Nat) (xs : List Value) : Prop :=
  xs.length = n * k ∧ (match o with | none => n = 0 | some (_, cap, sp) => n ≤ cap ∧ cap ≤ maxLen ∧ (xs ++ sp).length = cap * k)
section
variable {P : Program} {ops : Array Oper} {w0 : World} {Mod : List Nat} {n : Nat} {F G : FL} {M N : ML} {Q : Exit → Act → World → Prop} {K X : Act → World → Prop} {chk : List Nat}
  {ty : TypeId} {pos : String} {aft : Array Edge} {d : Nat}
def Src (w0 : World) (Mod : List Nat) (M : ML) (A : Option Addr) (news : List Value) : Prop :=
  news = [] ∨ ∃ b o, A = some ⟨b, o, none⟩ ∧ ((∃ cs T, some (b, cs, T) ∈ M ∧ sl cs o news.length = some news) ∨ ∀ j v, news[j]? = some v → Vw w0 Mod b (o + j) v)
theorem Src.nil {A : Option Addr} : Src w0 Mod M A [] := .inl rfl
theorem Src.mem {b o : Nat} {cs news : List Value} {T : TypeId} (hb : some (b, cs, T) ∈ M) (hs : sl cs o news.length = some news) : Src w0 Mod M (some ⟨b, o, none⟩) news := .inr ⟨b, o, rfl, .inl ⟨cs, T, hb, hs⟩⟩
theorem Src.view {b o : Nat} {news : List Value} (h : ∀ j v, news[j]? = some v → Vw w0 Mod b (o + j) v) : Src w0 Mod M (some ⟨b, o, none⟩) news := .inr ⟨b, o, rfl, .inr h⟩
theorem Src.cells {A : Option Addr} {news : List Value} (h : Src w0 Mod M A news) {w : World} (hm : Mem w0 Mod M w) (hne : news ≠ []) :
    ∃ b o, A = some ⟨b, o, none⟩ ∧ ∀ (j : Nat) (u : Value), news[j]? = some u → w.cell? ⟨b, o + j, none⟩ = some u := by
  rcases h with h | ⟨b, o, rfl, h⟩
  · exact absurd h hne
  · refine ⟨b, o, rfl, fun j u hu => ?_⟩
    rcases h with ⟨cs, T, hb, hs⟩ | h
    · rw [hm.cell hb]; exact (sl_spec cs o _ news hs).2 j u hu
    · exact hm.view (h j u hu)
theorem add_lit (b o j : Nat) : (⟨b, o, none⟩ : Addr).add j = ⟨b, o + j, none⟩ := by unfold Addr.add; split <;> simp_all
theorem SK.appendX {T E : TypeId} {k bb : Nat} {z : List Value} {x y : Operand} {o : OwnD} {xs news : List Value} {m nn c : Nat} {A : Option Addr} {sl : Value} [hT : Slc P T E k bb] [hz : Zero P E z] (hd : Nat.blt d n = true)
    (hx : ev F x = some sl) (hsl : sl = o.val nn) (ho : o.ok nn k xs) (hy : ev F y = some (.slice A m c)) (hsrc : Src w0 Mod M A news) (hl : news.length = m * k) (hp : plain news = true) (hzk : z.length = k) (hk0 : 0 < k)
    (N : Option (Nat × List Value × TypeId) → ML) (hu : ∀ e, Upd (o.ent xs E) e M (N e))
    (h63 : nn + m ≤ maxLen) (hbytes : (nn + m) * bb ≤ 140737488355328)
    (h : ∀ o' : OwnD, o'.ok (nn + m) k (xs ++ news) → (o' = none ↔ o = none ∧ m = 0) → (∀ B cap sp, o = some (B, cap, sp) → nn + m ≤ cap → o' = some (B, cap, sp.drop news.length)) → SK w0 Mod n (chkE P ops chk K) ((d, o'.val (nn + m)) :: F) (N (o'.ent (xs ++ news) E))) :
    SK w0 Mod n (stepE P ops ⟨some d, .call ⟨.builtin .append, #[x, y], #[T, T]⟩, ty, pos, aft, none⟩ chk K) F M :=
  SK.eff rfl fun a w hf hm => by
    subst hsl
    have h1 := hT.und
    have h2 := hT.size
    have h3 := hT.bytes
    have h4 := hz.zero
    cases hu0 : P.underlying T with
    | none => simp [hu0] at h1
    | some dd =>
      cases dd <;> simp [hu0] at h1
      rename_i e
      subst h1
      cases hi : P.info? e with
      | none => simp [hi] at h2
      | some i =>
        simp [hi] at h2 h3
        cases hzz : i.zero with
        | none => simp [hi, hzz] at h4
        | some v =>
          simp [hi, hzz] at h4
          have hexec : ∀ r w1, (Builtin.append_ #[T, T] ty #[o.val nn, .slice A m c]).run P w = .ok r w1 →
              (execOp a.eval ⟨some d, .call ⟨.builtin .append, #[x, y], #[T, T]⟩, ty, pos, aft, none⟩).run P w = .ok (.value r) w1 := by
            intro r w1 hr
            simp only [execOp, resolve, invoke, builtin, List.map_toArray, List.map_cons, List.map_nil, hf.ev hx, hf.ev hy, Sem.run_bind, Sem.run_pure, Result.andThen_ok, hr]
          have hbase : 0 ≤ w.heap.size := Nat.zero_le _
          obtain ⟨hol, ho2⟩ := ho
          by_cases hm0 : m = 0
          ·
            subst hm0
            have hn0 : news = [] := List.eq_nil_of_length_eq_zero (by simpa using hl)
            subst hn0
            have hroom : ∀ base cap, nn ≤ cap → (Builtin.append_ #[T, T] ty #[.slice base nn cap, .slice A 0 c]).run P w = .ok (.slice base nn cap) w := by
              intro base cap hcap
              have hfc : (Builtin.firstCells k 0 (.slice A 0 c)).run P w = .ok #[] w := by
                cases A <;> simp [Builtin.firstCells, loadCells, loadCellsFrom]
              cases base <;> simp [Builtin.append_, run_underlying hu0, sizeOf, typeInfo, hi, h2, Builtin.lenOf, hcap, hfc, storeCells]
            have hN : N (o.ent xs e) = M := by
              obtain ⟨A1, B1, e1, e2⟩ := (hu (o.ent xs e)).split
              rw [e1, e2]
            cases ho' : o with
            | none =>
              rw [ho'] at ho2 hN
              simp only at ho2
              subst ho2
              have hr := hroom none 0 (Nat.le_refl _)
              rw [hexec _ _ (by rw [ho']; exact hr)]
              have hh := h none ⟨by simpa using hol, rfl⟩ (by simp [ho']) (fun _ _ _ e => by rw [ho'] at e; cases e)
              simp only [Nat.add_zero, List.append_nil, OwnD.val] at hh
              rw [hN] at hh
              exact hh _ _ (hf.put hd _) hm
            | some q =>
              obtain ⟨E, cap, sp⟩ := q
              rw [ho'] at ho2 hN
              obtain ⟨g1, g2, g3⟩ := ho2
              have hr := hroom (some ⟨E, 0, none⟩) cap g1
              rw [hexec _ _ (by rw [ho']; exact hr)]
              have hh := h (some (E, cap, sp)) ⟨by simpa using hol, by simpa using ⟨g1, g2, by simpa using g3⟩⟩ (by simp [ho']) (fun B c1 s1 e _ => by rw [ho'] at e; cases e; rfl)
              simp only [Nat.add_zero, List.append_nil, OwnD.val] at hh
              rw [hN] at hh
              exact hh _ _ (hf.put hd _) hm
          · have hnn : news ≠ [] := by
              intro e
              rw [e] at hl
              have := hl.symm
              simp only [List.length_nil] at this
              rcases Nat.mul_eq_zero.1 this with h | h <;> omega
            obtain ⟨b, oo, rfl, hcells⟩ := hsrc.cells hm hnn
            have hnews : ∀ j u, news[j]? = some u → w.cell? ((⟨b, oo, none⟩ : Addr).add j) = some u := fun j u hu => by rw [add_lit]; exact hcells j u hu
            have hone : ∀ u ∈ news, u.oneCell' = true := fun u hu => List.all_eq_true.1 hp u hu
            have hl' : news.length = m * i.size := by rw [h2]; exact hl
            have hsmall : nn + m ≤ 9223372036854775807 := by simp only [maxLen] at h63; omega
            have spareLen : ∀ cap', nn + m ≤ cap' → (xs ++ news ++ (Builtin.zeroCells v.cells (cap' - (nn + m))).toList).length = cap' * k := by
              intro cap' hc
              have e1 : (Builtin.zeroCells v.cells (cap' - (nn + m))).toList.length = (cap' - (nn + m)) * k := by
                rw [Array.length_toList, size_zeroCells, h4]; simp [hzk]
              rw [List.length_append, List.length_append, hol, hl, e1, ← Nat.add_mul, ← Nat.add_mul]
              congr 1
              omega
            have fresh : (∀ B cap sp, o = some (B, cap, sp) → ¬ (nn + m ≤ cap)) → ∀ old, (Builtin.append_ #[T, T] ty #[o.val nn, .slice (some ⟨b, oo, none⟩) m c]).run P w =
                .ok (.slice (some ⟨w.heap.size, 0, none⟩) (nn + m) (grownCap w (nn + m) old e)) (w.drew.alloc (.cells (xs.toArray ++ news.toArray ++ Builtin.zeroCells v.cells (grownCap w (nn + m) old e - (nn + m))) e)) →
                Sx.eff P ⟨some d, .call ⟨.builtin .append, #[x, y], #[T, T]⟩, ty, pos, aft, none⟩ a (chkE P ops chk K) ((execOp a.eval ⟨some d, .call ⟨.builtin .append, #[x, y], #[T, T]⟩, ty, pos, aft, none⟩).run P w) := by
              intro hno old hr
              rw [hexec _ _ hr]
              have hge := grownCap_ge w (nn + m) old e
              have hcm : grownCap w (nn + m) old e ≤ maxLen := grownCap_le_maxLen w (nn + m) old e h63
              have hh := h (some (w.heap.size, grownCap w (nn + m) old e, (Builtin.zeroCells v.cells (grownCap w (nn + m) old e - (nn + m))).toList))
                ⟨by rw [List.length_append, hol, hl, Nat.add_mul], hge, hcm, spareLen _ hge⟩ (by simp [hm0]) (fun B c1 s1 e hle => absurd hle (hno B c1 s1 e))
              have hmem := hm.renew (xs ++ news ++ (Builtin.zeroCells v.cells (grownCap w (nn + m) old e - (nn + m))).toList) e (w.drawn + 1) (hu _)
              have ew : (w.drew.alloc (.cells (xs.toArray ++ news.toArray ++ Builtin.zeroCells v.cells (grownCap w (nn + m) old e - (nn + m))) e)) =
                  { w with heap := w.heap.push (.cells (xs ++ news ++ (Builtin.zeroCells v.cells (grownCap w (nn + m) old e - (nn + m))).toList).toArray e (0, 0)), drawn := w.drawn + 1 } := by
                have ec : xs.toArray ++ news.toArray ++ Builtin.zeroCells v.cells (grownCap w (nn + m) old e - (nn + m)) = (xs ++ news ++ (Builtin.zeroCells v.cells (grownCap w (nn + m) old e - (nn + m))).toList).toArray := Array.ext' (by simp)
                rw [ec]
                rfl
              rw [ew]
              exact hh _ _ (hf.put hd _) hmem
            cases ho' : o with
            | none =>
              rw [ho'] at ho2
              simp only at ho2
              subst ho2
              have hxs : xs = [] := List.eq_nil_of_length_eq_zero (by simpa using hol)
              subst hxs
              have hr := run_append_nil (P := P) w T ty e i v hu0 hi hzz ⟨b, oo, none⟩ m c news hl' hnews (by omega) (by omega) (by rw [h3]; rw [Nat.zero_add] at hbytes; omega)
              refine fresh (fun _ _ _ e => by rw [ho'] at e; cases e) 0 ?_
              rw [ho']
              simp only [Nat.zero_add, List.nil_append, OwnD.val] at hr ⊢
              rw [hr]
              simp
            | some q =>
              obtain ⟨E, cap, sp⟩ := q
              rw [ho'] at ho2
              obtain ⟨g1, g2, g3⟩ := ho2
              have hblk : w.heap[E]? = some (.cells (xs ++ sp).toArray e (0, 0)) := hm.blk E _ e (by have := (hu none).mem; rw [ho'] at this; exact this)
              by_cases hroom : nn + m ≤ cap
              · have hfit : nn * i.size + news.length ≤ (xs ++ sp).toArray.size := by
                  rw [h2, hl, ← Nat.add_mul]
                  simp only [List.size_toArray, g3]
                  exact Nat.mul_le_mul_right _ hroom
                have hr := run_append_room (P := P) w T ty e i hu0 hi E nn cap (xs ++ sp).toArray hblk ⟨b, oo, none⟩ m c news hl' hnews hone hroom hfit
                rw [hexec _ _ (by rw [ho']; exact hr)]
                have htake : (xs ++ sp).take (nn * i.size) = xs := by rw [h2, ← hol]; exact List.take_left
                have hdrop : (xs ++ sp).drop (nn * i.size + news.length) = sp.drop news.length := by
                  rw [h2, ← hol, ← List.drop_drop, List.drop_left]
                have hh := h (some (E, cap, sp.drop news.length)) ⟨by rw [List.length_append, hol, hl, Nat.add_mul], hroom, g2, by
                  have : news.length ≤ sp.length := by
                    have := hfit
                    rw [h2, ← hol] at this
                    simp at this
                    exact this
                  have g3' := g3
                  simp only [List.length_append, List.length_drop] at g3' ⊢
                  omega⟩ (by simp [ho']) (fun B c1 s1 e _ => by rw [ho'] at e; cases e; rfl)
                have hmem := Mem.set (cs' := xs ++ news ++ sp.drop news.length) hm (hu (some (E, xs ++ news ++ sp.drop news.length, e)) |> fun q => by rw [ho'] at q; exact q) (by
                  have : news.length ≤ sp.length := by
                    have := hfit
                    rw [h2, ← hol] at this
                    simp at this
                    exact this
                  simp only [List.length_append, List.length_drop]
                  omega)
                have e5 : (((xs ++ sp).toArray.toList.take (nn * i.size)) ++ news ++ ((xs ++ sp).toArray.toList.drop (nn * i.size + news.length))).toArray = (xs ++ news ++ sp.drop news.length).toArray := by
                  simp only [htake, hdrop]
                rw [e5]
                exact hh _ _ (hf.put hd _) hmem
              · have holds : ∀ j u, xs[j]? = some u → w.cell? ((⟨E, 0, none⟩ : Addr).add j) = some u := by
                  intro j u hu
                  rw [add_lit, cell_of_row w E _ _ _ _ hblk, Nat.zero_add]
                  have hlt := (List.getElem?_eq_some_iff.1 hu).1
                  simp only [List.getElem?_toArray]
                  rw [List.getElem?_append_left hlt]; exact hu
                have hr := run_append_grow (P := P) w T ty e i v hu0 hi hzz ⟨E, 0, none⟩ nn cap xs (by rw [h2]; exact hol) holds ⟨b, oo, none⟩ m c news hl' hnews (by omega) (by omega) (growslice_fits (by omega) (by rw [h3]; exact hbytes))
                refine fresh (fun _ _ _ e => by rw [ho'] at e; cases e; exact hroom) cap ?_
                rw [ho']
                exact hr
theorem SK.append {T E : TypeId} {k bb : Nat} {z : List Value} {x y : Operand} {o : OwnD} {xs news : List Value} {m nn c : Nat} {A : Option Addr} {sl : Value} [hT : Slc P T E k bb] [hz : Zero P E z] (hd : Nat.blt d n = true)
    (hx : ev F x = some sl) (hsl : sl = o.val nn) (ho : o.ok nn k xs) (hy : ev F y = some (.slice A m c)) (hsrc : Src w0 Mod M A news) (hl : news.length = m * k) (hp : plain news = true) (hzk : z.length = k) (hk0 : 0 < k)
    (N : Option (Nat × List Value × TypeId) → ML) (hu : ∀ e, Upd (o.ent xs E) e M (N e))
    (h63 : nn + m ≤ maxLen) (hbytes : (nn + m) * bb ≤ 140737488355328)
    (h : ∀ o' : OwnD, o'.ok (nn + m) k (xs ++ news) → (o' = none ↔ o = none ∧ m = 0) → SK w0 Mod n (chkE P ops chk K) ((d, o'.val (nn + m)) :: F) (N (o'.ent (xs ++ news) E))) :
    SK w0 Mod n (stepE P ops ⟨some d, .call ⟨.builtin .append, #[x, y], #[T, T]⟩, ty, pos, aft, none⟩ chk K) F M :=
  SK.appendX hd hx hsl ho hy hsrc hl hp hzk hk0 N hu h63 hbytes (fun o' h1 h2 _ => h o' h1 h2)
theorem Src.of_nil {A : Option Addr} {news : List Value} (h : Src w0 Mod [] A news) : Src w0 Mod M A news := by
  rcases h with h | ⟨b, o, h1, h2⟩
  · exact .inl h
  · refine .inr ⟨b, o, h1, ?_⟩
    rcases h2 with ⟨cs, T, hb, _⟩ | h2
    · cases hb
    · exact .inr h2
end
section
variable {w0 : World} {Mod : List Nat} {n : Nat} {F : FL} {M : ML} {X : Act → World → Prop}
theorem SK.addnone (h : SK w0 Mod n X F (none :: M)) : SK w0 Mod n X F M := fun a w hf hm => h a w hf (hm.wk (Wk.none (by
  have : ∀ M : ML, Wk M M := by
    intro M
    induction M with
    | nil => exact Wk.nil _
    | cons e M ih => exact Wk.pick (Pick.head M) ih
  exact this M)))
end
section
variable {P : Program} {ops : Array Oper} {w0 : World} {Mod : List Nat} {n : Nat} {F G : FL} {M N : ML} {Q : Exit → Act → World → Prop} {K X : Act → World → Prop} {chk : List Nat}
  {ty : TypeId} {pos : String} {aft : Array Edge} {d : Nat}
theorem SK.appendP {T E : TypeId} {k bb : Nat} {z : List Value} {x y : Operand} {o : OwnD} {xs news : List Value} {m nn c : Nat} {A : Option Addr} {M' : ML} [hT : Slc P T E k bb] [hz : Zero P E z] (hd : Nat.blt d n = true)
    (hx : ev F x = some (o.val nn)) (ho : o.ok nn k xs) (hy : ev F y = some (.slice A m c)) (hpick : Pick (o.ent xs E) M M') (hsrc : Src w0 Mod M A news) (hl : news.length = m * k) (hp : plain news = true) (hzk : Nat.beq z.length k = true) (hk0 : Nat.blt 0 k = true)
    (h63 : nn + m ≤ maxLen) (hbytes : (nn + m) * bb ≤ 140737488355328)
    (h : ∀ o' : OwnD, o'.ok (nn + m) k (xs ++ news) → (o' = none ↔ o = none ∧ m = 0) → SK w0 Mod n (chkE P ops chk K) ((d, o'.val (nn + m)) :: F) (o'.ent (xs ++ news) E :: M')) :
    SK w0 Mod n (stepE P ops ⟨some d, .call ⟨.builtin .append, #[x, y], #[T, T]⟩, ty, pos, aft, none⟩ chk K) F M := by
  refine SK.perm hpick.perm ?_
  have hsrc' : Src w0 Mod (o.ent xs E :: M') A news := by
    rcases hsrc with h | ⟨b, oo, h1, h2⟩
    · exact .inl h
    · refine .inr ⟨b, oo, h1, ?_⟩
      rcases h2 with ⟨cs, T, hb, h3⟩ | h2
      · exact .inl ⟨cs, T, hpick.perm.subset hb, h3⟩
      · exact .inr h2
  exact SK.append hd hx rfl ho hy hsrc' hl hp (Nat.eq_of_beq_eq_true hzk) (by exact Nat.blt_eq ▸ hk0) (fun e => e :: M') (fun e => Upd.head M') h63 hbytes h
theorem evs {a : Act} (hf : FOK n F a) {l : Array Operand} {vs : List Value} (h0 : evL F l.toList = some vs) : l.map a.eval = vs.toArray := by
  have h := evL_spec h0
  have key : ∀ (l : List Operand) (vs : List Value), l.map (ev F) = vs.map some → l.map a.eval = vs := by
    intro l
    induction l with
    | nil => intro vs hv; cases vs with | nil => rfl | cons => simp at hv
    | cons x l ih =>
      intro vs hv
      cases vs with
      | nil => simp at hv
      | cons v vs =>
        simp only [List.map_cons, List.cons.injEq] at hv ⊢
        exact ⟨hf.ev hv.1, ih vs hv.2⟩
  exact Array.ext' (by simpa using key _ _ h)
def Ret (w : World) (Mf : ML) {Y : Type} (q : Y → Prop) (val : Y → Value) (M1 : Y → ML) (e : Ending) (w' : World) : Prop :=
  ∃ y, q y ∧ e = .returned (val y) ∧ Mem w (keys Mf) (M1 y) w'
theorem SK.callV {x : Operand} {f : FuncId} {fs cs : Array Value} {args : Array Operand} {ats : Array TypeId} {vs : List Value} [hT : Fun P f] (hd : Nat.blt d n = true)
    (hx : ev F x = some (.func (.func f) fs cs)) (hargs : evL F args.toList = some vs) (Mf Rest : ML) (hM : Wk M (Mf ++ Rest)) {Y : Type} (q : Y → Prop) (val : Y → Value) (M1 : Y → ML)
    (hc : ∀ w, Mem w (keys Mf) Mf w → (∀ b o v, Vw w0 Mod b o v → Vw w (keys Mf) b o v) → (∀ b cs T, some (b, cs, T) ∈ Rest → ∀ o v, nv cs o = some v → Vw w (keys Mf) b o v) →
      Calls P f (fs ++ vs.toArray ++ cs) w (Ret w Mf q val M1))
    (h : ∀ y, q y → SK w0 Mod n (chkE P ops chk K) ((d, val y) :: F) (M1 y ++ Rest)) :
    SK w0 Mod n (stepE P ops ⟨some d, .call ⟨.value x, args, ats⟩, ty, pos, aft, none⟩ chk K) F M :=
  SK.eff rfl fun a w hf hm0 => by
    have hm := hm0.wk hM
    have h1 := hT.ok
    have hself : Mem w (keys Mf) Mf w := (hm.part (List.sublist_append_left Mf Rest)).self
    have hcall := hc w hself (fun b o v hv => hm.vw hv) (fun b cs T hb o v hv => hm.vwRest hb hv)
    cases hfn : P.funcs[f]? with
    | none => simp [hfn] at h1
    | some fn =>
      simp [hfn] at h1
      have hbody : fn.body.isNone = false := by cases hb : fn.body <;> simp [hb] at h1 ⊢
      have hname : ¬ fn.name = "runtime.NumGoroutine" := h1.1
      have hbody2 : ¬ fn.body = none := by intro e; simp [e] at hbody
      have hexec : (execOp a.eval ⟨some d, .call ⟨.value x, args, ats⟩, ty, pos, aft, none⟩).run P w = .ok (.enter f (fs ++ vs.toArray ++ cs)) w := by
        simp only [execOp, resolve, evs hf hargs, hf.ev hx, Deferred.ofValue, Sem.run_bind, Sem.run_pure, Result.andThen_ok, invoke, callFunc]
        simp [hfn, hbody2, hname]
      rw [hexec]
      refine hcall.mono fun e w' ⟨y, hq, he, hm'⟩ => ⟨val y, he, h y hq _ _ (hf.put hd _) (hm.called hm')⟩
theorem SK.call {f : FuncId} {args : Array Operand} {ats : Array TypeId} {vs : List Value} [hT : Fun P f] (hd : Nat.blt d n = true)
    (hargs : evL F args.toList = some vs) (Mf Rest : ML) (hM : Wk M (Mf ++ Rest)) {Y : Type} (q : Y → Prop) (val : Y → Value) (M1 : Y → ML)
    (hc : ∀ w, Mem w (keys Mf) Mf w → (∀ b o v, Vw w0 Mod b o v → Vw w (keys Mf) b o v) → (∀ b cs T, some (b, cs, T) ∈ Rest → ∀ o v, nv cs o = some v → Vw w (keys Mf) b o v) →
      Calls P f vs.toArray w (Ret w Mf q val M1))
    (h : ∀ y, q y → SK w0 Mod n (chkE P ops chk K) ((d, val y) :: F) (M1 y ++ Rest)) :
    SK w0 Mod n (stepE P ops ⟨some d, .call ⟨.value (.func f), args, ats⟩, ty, pos, aft, none⟩ chk K) F M :=
  SK.callV (fs := #[]) (cs := #[]) hd rfl hargs Mf Rest hM q val M1 (fun w h1 h2 h3 => by simpa using hc w h1 h2 h3) h
theorem SK.callV0 {x : Operand} {f : FuncId} {fs cs : Array Value} {args : Array Operand} {ats : Array TypeId} {vs : List Value} [hT : Fun P f]
    (hx : ev F x = some (.func (.func f) fs cs)) (hargs : evL F args.toList = some vs) (Mf Rest : ML) (hM : Wk M (Mf ++ Rest)) {Y : Type} (q : Y → Prop) (val : Y → Value) (M1 : Y → ML)
    (hc : ∀ w, Mem w (keys Mf) Mf w → (∀ b o v, Vw w0 Mod b o v → Vw w (keys Mf) b o v) → (∀ b cs T, some (b, cs, T) ∈ Rest → ∀ o v, nv cs o = some v → Vw w (keys Mf) b o v) →
      Calls P f (fs ++ vs.toArray ++ cs) w (Ret w Mf q val M1))
    (h : ∀ y, q y → SK w0 Mod n (chkE P ops chk K) F (M1 y ++ Rest)) :
    SK w0 Mod n (stepE P ops ⟨none, .call ⟨.value x, args, ats⟩, ty, pos, aft, none⟩ chk K) F M :=
  SK.eff rfl fun a w hf hm0 => by
    have hm := hm0.wk hM
    have h1 := hT.ok
    have hself : Mem w (keys Mf) Mf w := (hm.part (List.sublist_append_left Mf Rest)).self
    have hcall := hc w hself (fun b o v hv => hm.vw hv) (fun b cs T hb o v hv => hm.vwRest hb hv)
    cases hfn : P.funcs[f]? with
    | none => simp [hfn] at h1
    | some fn =>
      simp [hfn] at h1
      have hbody : fn.body.isNone = false := by cases hb : fn.body <;> simp [hb] at h1 ⊢
      have hname : ¬ fn.name = "runtime.NumGoroutine" := h1.1
      have hbody2 : ¬ fn.body = none := by intro e; simp [e] at hbody
      have hexec : (execOp a.eval ⟨none, .call ⟨.value x, args, ats⟩, ty, pos, aft, none⟩).run P w = .ok (.enter f (fs ++ vs.toArray ++ cs)) w := by
        simp only [execOp, resolve, evs hf hargs, hf.ev hx, Deferred.ofValue, Sem.run_bind, Sem.run_pure, Result.andThen_ok, invoke, callFunc]
        simp [hfn, hbody2, hname]
      rw [hexec]
      refine hcall.mono fun e w' ⟨y, hq, he, hm'⟩ => ⟨val y, he, h y hq _ _ hf (hm.called hm')⟩
theorem Wk.refl : ∀ M : ML, Wk M M
  | [] => Wk.nil _
  | _ :: M => Wk.pick (Pick.head M) (Wk.refl M)
theorem SK.callO {f : FuncId} {args : Array Operand} {ats : Array TypeId} {vs : List Value} [hT : Fun P f] (hd : Nat.blt d n = true)
    (hargs : evL F args.toList = some vs) {Y : Type} {q : Y → Prop} {val : Y → Value} {M1 : Y → ML}
    (hc : ∀ w, (∀ b o v, Vw w0 Mod b o v → Vw w [] b o v) → (∀ b cs T, some (b, cs, T) ∈ M → ∀ o v, nv cs o = some v → Vw w [] b o v) → Calls P f vs.toArray w (Ret w [] q val M1))
    (h : ∀ y, q y → SK w0 Mod n (chkE P ops chk K) ((d, val y) :: F) (M1 y ++ M)) :
    SK w0 Mod n (stepE P ops ⟨some d, .call ⟨.value (.func f), args, ats⟩, ty, pos, aft, none⟩ chk K) F M :=
  SK.call hd hargs [] M (Wk.refl M) q val M1 (fun w _ h1 h2 => hc w h1 h2) h
theorem SK.call0 {f : FuncId} {args : Array Operand} {ats : Array TypeId} {vs : List Value} [hT : Fun P f]
    (hargs : evL F args.toList = some vs) (Mf Rest : ML) (hM : Wk M (Mf ++ Rest)) {Y : Type} (q : Y → Prop) (val : Y → Value) (M1 : Y → ML)
    (hc : ∀ w, Mem w (keys Mf) Mf w → (∀ b o v, Vw w0 Mod b o v → Vw w (keys Mf) b o v) → (∀ b cs T, some (b, cs, T) ∈ Rest → ∀ o v, nv cs o = some v → Vw w (keys Mf) b o v) →
      Calls P f vs.toArray w (Ret w Mf q val M1))
    (h : ∀ y, q y → SK w0 Mod n (chkE P ops chk K) F (M1 y ++ Rest)) :
    SK w0 Mod n (stepE P ops ⟨none, .call ⟨.value (.func f), args, ats⟩, ty, pos, aft, none⟩ chk K) F M :=
  SK.callV0 (fs := #[]) (cs := #[]) rfl hargs Mf Rest hM q val M1 (fun w h1 h2 h3 => by simpa using hc w h1 h2 h3) h
def ents : Nat → List Value → FL
  | _, [] => []
  | i, v :: r => (i, v) :: ents (i + 1) r
theorem lk_ents : ∀ (vs : List Value) (i t : Nat) (v : Value), lk (ents i vs) t = some v → i ≤ t ∧ vs[t - i]? = some v
  | [], i, t, v, h => by simp [ents, lk] at h
  | u :: r, i, t, v, h => by
    simp only [ents, lk] at h
    cases hb : Nat.beq i t with
    | true =>
      have := Nat.eq_of_beq_eq_true hb
      subst this
      simp [hb] at h
      simp [h]
    | false =>
      simp only [hb, cond_false] at h
      obtain ⟨h1, h2⟩ := lk_ents r (i + 1) t v h
      refine ⟨by omega, ?_⟩
      rw [show t - i = (t - (i + 1)) + 1 from by omega]
      simpa using h2
theorem enterF {f : FuncId} {fn : Func} {c : Code} {w : World} {args : List Value} {R : Ending → World → Prop} (hf : P.funcs[f]? = some fn) (hb : fn.body = some c) (hn : fn.ntmps = n) (hl : Nat.ble args.length n = true)
    (hm : Mem w (keys M) M w) (h : SK w (keys M) n (c.wp P (bodyPost P fn R)) (ents 0 args) M) : Calls P f args.toArray w R := by
  refine calls_of_wp hf hb (h _ w ⟨rfl, ?_, fun t v ht => ?_⟩ hm)
  · have := Nat.le_of_ble_eq_true hl
    simp [hn]; omega
  · obtain ⟨_, h2⟩ := lk_ents args 0 t v ht
    have hlt : t < args.length := by
      have := (List.getElem?_eq_some_iff.1 h2).1
      simpa using this
    rw [Array.getElem?_append_left (by simpa using hlt)]
    simpa using h2
theorem Mem.zero (w : World) : Mem w [] [] w := ⟨by simp [keys], by simp, Nat.le_refl _, fun _ _ _ => rfl, by simp [keys], rfl, rfl, rfl⟩
theorem enter0 {f : FuncId} {fn : Func} {c : Code} {w : World} {args : List Value} {R : Ending → World → Prop} (hf : P.funcs[f]? = some fn) (hb : fn.body = some c) (hn : fn.ntmps = n) (hl : Nat.ble args.length n = true)
    (h : SK w [] n (c.wp P (bodyPost P fn R)) (ents 0 args) []) : Calls P f args.toArray w R := enterF hf hb hn hl (M := []) (Mem.zero w) h
inductive Res (P : Program) (F : FL) (M : ML) : List ResultVar → List Value → Prop
  | nil : Res P F M [] []
  | tmp {t : Nat} {v : Value} {rs : List ResultVar} {vs : List Value} (h : lk F t = some v) (r : Res P F M rs vs) : Res P F M (.tmp t :: rs) (v :: vs)
  | one {t T T' b o : Nat} {cs : List Value} {v : Value} {rs : List ResultVar} {vs : List Value} [One P T] (h : lk F t = some (.pointer (some ⟨b, o, none⟩))) (hb : some (b, cs, T') ∈ M) (hv : nv cs o = some v)
      (r : Res P F M rs vs) : Res P F M (.cell t T :: rs) (v :: vs)
  | agg {t T T' b o k : Nat} {cs us : List Value} {rs : List ResultVar} {vs : List Value} [Agg P T k] (h : lk F t = some (.pointer (some ⟨b, o, none⟩))) (hb : some (b, cs, T') ∈ M) (hv : sl cs o k = some us)
      (r : Res P F M rs vs) : Res P F M (.cell t T :: rs) (.agg us.toArray :: vs)
def retV : List Value → Value
  | [v] => v
  | vs => .tuple vs.toArray
def resF (tmps : Array Value) : ResultVar → Sem Value
  | .tmp t => Pure.pure (tmps.getD t undef)
  | .cell p t => do loadVar t (← asAddr (tmps.getD p undef))
theorem Res.run {a : Act} {w : World} (hf : FOK n F a) (hm : Mem w0 Mod M w) : ∀ (rs : List ResultVar) (vs : List Value), Res P F M rs vs →
    (rs.mapM (m := Sem) (resF a.tmps)).run P w = .ok vs w := by
  intro rs vs h
  induction h with
  | nil => rfl
  | tmp h r ih =>
    rw [List.mapM_cons]
    have := hf.at_ _ _ h
    simp only [resF, Sem.run_bind, Sem.run_pure, Result.andThen_ok, ih]
    simp [this]
  | @one t T T' b o cs v rs vs hT h hb hv r ih =>
    rw [List.mapM_cons]
    have h1 := hf.at_ _ _ h
    have h2 := One.run (P := P) (T := T) w b o (v := v) (by rw [hm.cell hb, ← nv_eq]; exact hv)
    simp only [Instr.loadAt, Instr.sureAddr, Sem.run_bind, Sem.run_pure, Result.andThen_ok] at h2
    have h3 : (asAddr (a.tmps.getD t undef)).run P w = .ok ⟨b, o, none⟩ w := by simp [h1, asAddr]
    simp only [resF, Sem.run_bind, Sem.run_pure, Result.andThen_ok, ih, h3, h2]
  | @agg t T T' b o k cs us rs vs hT h hb hv r ih =>
    rw [List.mapM_cons]
    have h1 := hf.at_ _ _ h
    obtain ⟨g1, g2⟩ := sl_spec cs o k us hv
    have h2 := Agg.run (P := P) (T := T) (k := k) w b o g1 (fun j v hj => by rw [hm.cell hb]; exact g2 j v hj)
    simp only [Instr.loadAt, Instr.sureAddr, Sem.run_bind, Sem.run_pure, Result.andThen_ok] at h2
    have h3 : (asAddr (a.tmps.getD t undef)).run P w = .ok ⟨b, o, none⟩ w := by simp [h1, asAddr]
    simp only [resF, Sem.run_bind, Sem.run_pure, Result.andThen_ok, ih, h3, h2]
theorem results_run {fn : Func} {a : Act} {w : World} {rs : List ResultVar} {vs : List Value} (hr : fn.results.toList = rs) (hf : FOK n F a) (hm : Mem w0 Mod M w) (h : Res P F M rs vs) :
    (results fn a.tmps).run P w = .ok (retV vs) w := by
  have h1 := Res.run hf hm rs vs h
  have e : results fn a.tmps = (do let vs ← fn.results.mapM (resF a.tmps); Pure.pure (if h : vs.size = 1 then vs[0] else .tuple vs)) := by
    unfold results
    congr 2
  rw [e, Array.mapM_eq_mapM_toList, hr]
  rw [Sem.run_bind, Sem.run_map, h1]
  simp only [Result.andThen_ok, Sem.run_pure]
  congr 1
  cases vs with
  | nil => simp [retV]
  | cons v vs =>
    cases vs with
    | nil => simp [retV]
    | cons u vs => simp [retV]
theorem SK.retQ {fn : Func} {R : Ending → World → Prop} {rs : List ResultVar} {vs : List Value} (hr : fn.results.toList = rs) (h : Res P F M rs vs) (hR : ∀ w, Mem w0 Mod M w → R (.returned (retV vs)) w) :
    SK w0 Mod n (bodyPost P fn R .ret) F M := fun _ w hf hm => ⟨hf.defers, retV vs, results_run hr hf hm h, hR w hm⟩
theorem SK.endQ {fn : Func} {R : Ending → World → Prop} {rs : List ResultVar} {vs : List Value} (hr : fn.results.toList = rs) (h : Res P F M rs vs) (hR : ∀ w, Mem w0 Mod M w → R (.returned (retV vs)) w) :
    SK w0 Mod n (bodyPost P fn R .normal) F M := fun _ w hf hm => ⟨hf.defers, retV vs, results_run hr hf hm h, hR w hm⟩
end
end Go.Sx
namespace Go.Sx
theorem str_eq (s t : ByteArray) : (s.toList == t.toList) = decide (s = t) := by
  rw [ByteArray.toList_eq, ByteArray.toList_eq]
  by_cases h : s = t
  · subst h; simp
  · have : s.data.toList ≠ t.data.toList := fun e => h (ByteArray.ext (Array.ext' e))
    rw [decide_eq_false h]
    exact beq_eq_false_iff_ne.2 this
theorem int_eq (a b : Int) : (a == b) = decide (a = b) := by
  by_cases h : a = b <;> simp [h]
@[irreducible] def dc (p : Prop) [Decidable p] : Bool := decide p
theorem dc_eq (p : Prop) [Decidable p] : dc p = decide p := by unfold dc; rfl
theorem dc_true {p : Prop} [Decidable p] (h : p) : dc p = true := by rw [dc_eq]; exact decide_eq_true h
theorem dc_false {p : Prop} [Decidable p] (h : ¬p) : dc p = false := by rw [dc_eq]; exact decide_eq_false h
theorem of_dc_true {p : Prop} [Decidable p] (h : dc p = true) : p := by rw [dc_eq] at h; exact of_decide_eq_true h
theorem of_dc_false {p : Prop} [Decidable p] (h : dc p = false) : ¬p := by rw [dc_eq] at h; exact of_decide_eq_false h
section
variable {P : Program} {ops : Array Oper} {w0 : World} {Mod : List Nat} {n : Nat} {F G : FL} {M N : ML} {Q : Exit → Act → World → Prop} {K X : Act → World → Prop} {chk : List Nat}
  {ty : TypeId} {pos : String} {aft : Array Edge} {d : Nat} {T U : TypeId} {x y : Operand} {k k' : IntKind} {a b : Int} {s t : ByteArray} {p : Prop} [Decidable p]
theorem SK.ieq (hd : Nat.blt d n = true) (hx : ev F x = some (.int k a)) (hy : ev F y = some (.int k b)) (h : SK w0 Mod n K ((d, .bool (dc (a = b))) :: F) M) :
    SK w0 Mod n (stepE P ops ⟨some d, .binOp .eql T x y U, ty, pos, aft, none⟩ chk K) F M :=
  SK.bin hd hx hy (fun w' => by simp [eqGuard, binOp_eql, int_eq, dc_eq]) h
theorem SK.ine (hd : Nat.blt d n = true) (hx : ev F x = some (.int k a)) (hy : ev F y = some (.int k b)) (h : SK w0 Mod n K ((d, .bool (dc (a ≠ b))) :: F) M) :
    SK w0 Mod n (stepE P ops ⟨some d, .binOp .neq T x y U, ty, pos, aft, none⟩ chk K) F M :=
  SK.bin hd hx hy (fun w' => by simp [eqGuard, binOp_neq, bne, int_eq, dc_eq]) h
theorem SK.ilt (hd : Nat.blt d n = true) (hx : ev F x = some (.int k a)) (hy : ev F y = some (.int k b)) (h : SK w0 Mod n K ((d, .bool (dc (a < b))) :: F) M) :
    SK w0 Mod n (stepE P ops ⟨some d, .binOp .lss T x y U, ty, pos, aft, none⟩ chk K) F M :=
  SK.bin hd hx hy (fun w' => by simp [eqGuard, binOp_lss, dc_eq]) h
theorem SK.ile (hd : Nat.blt d n = true) (hx : ev F x = some (.int k a)) (hy : ev F y = some (.int k b)) (h : SK w0 Mod n K ((d, .bool (dc (a ≤ b))) :: F) M) :
    SK w0 Mod n (stepE P ops ⟨some d, .binOp .leq T x y U, ty, pos, aft, none⟩ chk K) F M :=
  SK.bin hd hx hy (fun w' => by simp [eqGuard, binOp_leq, dc_eq]) h
theorem SK.igt (hd : Nat.blt d n = true) (hx : ev F x = some (.int k a)) (hy : ev F y = some (.int k b)) (h : SK w0 Mod n K ((d, .bool (dc (b < a))) :: F) M) :
    SK w0 Mod n (stepE P ops ⟨some d, .binOp .gtr T x y U, ty, pos, aft, none⟩ chk K) F M :=
  SK.bin hd hx hy (fun w' => by simp [eqGuard, binOp_gtr, dc_eq]) h
theorem SK.ige (hd : Nat.blt d n = true) (hx : ev F x = some (.int k a)) (hy : ev F y = some (.int k b)) (h : SK w0 Mod n K ((d, .bool (dc (b ≤ a))) :: F) M) :
    SK w0 Mod n (stepE P ops ⟨some d, .binOp .geq T x y U, ty, pos, aft, none⟩ chk K) F M :=
  SK.bin hd hx hy (fun w' => by simp [eqGuard, binOp_geq, dc_eq]) h
theorem SK.iadd (hd : Nat.blt d n = true) (hx : ev F x = some (.int k a)) (hy : ev F y = some (.int k b)) (h : SK w0 Mod n K ((d, .int k (k.wrap (a + b))) :: F) M) :
    SK w0 Mod n (stepE P ops ⟨some d, .binOp .add T x y U, ty, pos, aft, none⟩ chk K) F M :=
  SK.bin hd hx hy (fun w' => by simp [eqGuard, binOp_add, Op.intArith]) h
theorem SK.isub (hd : Nat.blt d n = true) (hx : ev F x = some (.int k a)) (hy : ev F y = some (.int k b)) (h : SK w0 Mod n K ((d, .int k (k.wrap (a - b))) :: F) M) :
    SK w0 Mod n (stepE P ops ⟨some d, .binOp .sub T x y U, ty, pos, aft, none⟩ chk K) F M :=
  SK.bin hd hx hy (fun w' => by simp [eqGuard, binOp_sub, Op.intArith]) h
theorem SK.imul (hd : Nat.blt d n = true) (hx : ev F x = some (.int k a)) (hy : ev F y = some (.int k b)) (h : SK w0 Mod n K ((d, .int k (k.wrap (a * b))) :: F) M) :
    SK w0 Mod n (stepE P ops ⟨some d, .binOp .mul T x y U, ty, pos, aft, none⟩ chk K) F M :=
  SK.bin hd hx hy (fun w' => by simp [eqGuard, binOp_mul, Op.intArith]) h
theorem SK.irem (hd : Nat.blt d n = true) (hx : ev F x = some (.int k a)) (hy : ev F y = some (.int k b)) (hb : b ≠ 0) (h : SK w0 Mod n K ((d, .int k (a.tmod b)) :: F) M) :
    SK w0 Mod n (stepE P ops ⟨some d, .binOp .rem T x y U, ty, pos, aft, none⟩ chk K) F M :=
  SK.bin hd hx hy (fun w' => by simp [eqGuard, binOp_rem, Op.intDiv, hb]) h
theorem wrap64_in {a : Int} (h1 : -9223372036854775808 ≤ a) (h2 : a < 9223372036854775808) : IntKind.i64.wrap a = a := by
  rw [IntKind.wrap_i64]; omega
theorem SK.iaddN {i j : Nat} (hd : Nat.blt d n = true) (hx : ev F x = some (.int .i64 (i : Int))) (hy : ev F y = some (.int .i64 (j : Int))) (hb : i + j < 9223372036854775808)
    (h : SK w0 Mod n K ((d, .int .i64 ((i + j : Nat) : Int)) :: F) M) : SK w0 Mod n (stepE P ops ⟨some d, .binOp .add T x y U, ty, pos, aft, none⟩ chk K) F M :=
  SK.iadd hd hx hy (by
    have e : IntKind.i64.wrap ((i : Int) + (j : Int)) = ((i + j : Nat) : Int) := by rw [wrap64_in (by omega) (by omega)]; omega
    rw [e]; exact h)
theorem SK.iadd1 {i : Nat} (hd : Nat.blt d n = true) (hx : ev F x = some (.int .i64 (i : Int))) (hy : ev F y = some (.int .i64 1)) (hb : i < 9223372036854775807)
    (h : SK w0 Mod n K ((d, .int .i64 ((i + 1 : Nat) : Int)) :: F) M) : SK w0 Mod n (stepE P ops ⟨some d, .binOp .add T x y U, ty, pos, aft, none⟩ chk K) F M :=
  SK.iadd hd hx hy (by
    have e : IntKind.i64.wrap ((i : Int) + 1) = ((i + 1 : Nat) : Int) := by rw [wrap64_in (by omega) (by omega)]; omega
    rw [e]; exact h)
theorem SK.seqS (hd : Nat.blt d n = true) (hx : ev F x = some (.string s)) (hy : ev F y = some (.string t)) (h : SK w0 Mod n K ((d, .bool (dc (s = t))) :: F) M) :
    SK w0 Mod n (stepE P ops ⟨some d, .binOp .eql T x y U, ty, pos, aft, none⟩ chk K) F M :=
  SK.bin hd hx hy (fun w' => by simp [eqGuard, binOp_string_eql, str_eq, dc_eq]) h
theorem SK.sneS (hd : Nat.blt d n = true) (hx : ev F x = some (.string s)) (hy : ev F y = some (.string t)) (h : SK w0 Mod n K ((d, .bool (dc (s ≠ t))) :: F) M) :
    SK w0 Mod n (stepE P ops ⟨some d, .binOp .neq T x y U, ty, pos, aft, none⟩ chk K) F M :=
  SK.bin hd hx hy (fun w' => by simp [eqGuard, binOp_string_neq, str_eq, dc_eq]) h
theorem SK.addS (hd : Nat.blt d n = true) (hx : ev F x = some (.string s)) (hy : ev F y = some (.string t)) (hb : s.size + t.size ≤ 9223372036854775807) (h : SK w0 Mod n K ((d, .string (s ++ t)) :: F) M) :
    SK w0 Mod n (stepE P ops ⟨some d, .binOp .add T x y U, ty, pos, aft, none⟩ chk K) F M :=
  SK.bin hd hx hy (fun w' => by
    have := run_string_add_sum (P := P) w' s t (by omega)
    simp only [eqGuard, Sem.run_bind, binOp_string_add]
    simp [this]) h
theorem SK.nilS {A : Option Addr} {l c E : Nat} {kk bb : Nat} [hT : Slc P T E kk bb] (hd : Nat.blt d n = true) (hx : ev F x = some (.slice A l c)) (hy : ev F y = some (.slice none 0 0)) (h : SK w0 Mod n K ((d, .bool A.isNone) :: F) M) :
    SK w0 Mod n (stepE P ops ⟨some d, .binOp .eql T x y U, ty, pos, aft, none⟩ chk K) F M :=
  SK.bin hd hx hy (fun w' => by
    have h1 := hT.und
    cases hu : P.underlying T with
    | none => simp [hu] at h1
    | some dd =>
      cases dd <;> simp [hu] at h1
      have := Lib.run_eql_slice_nil (P := P) w' T _ A l c 0 0 hu
      simp only [eqGuard, Sem.run_bind]
      simp [this]) h
theorem SK.condP {c : Operand} {u v : Code} (hc : ev F c = some (.bool (dc p))) (h1 : p → SK w0 Mod n (u.wp P Q) F M) (h2 : ¬p → SK w0 Mod n (v.wp P Q) F M) :
    SK w0 Mod n ((Code.cond c u v).wp P Q) F M := SK.cond hc (fun h => h1 (of_dc_true h)) (fun h => h2 (of_dc_false h))
theorem SK.condT {c : Operand} {u v : Code} (hc : ev F c = some (.bool (dc p))) (hp : p) (h1 : SK w0 Mod n (u.wp P Q) F M) :
    SK w0 Mod n ((Code.cond c u v).wp P Q) F M := SK.condP hc (fun _ => h1) (fun h => absurd hp h)
theorem SK.condF {c : Operand} {u v : Code} (hc : ev F c = some (.bool (dc p))) (hp : ¬p) (h1 : SK w0 Mod n (v.wp P Q) F M) :
    SK w0 Mod n ((Code.cond c u v).wp P Q) F M := SK.condP hc (fun h => absurd h hp) (fun _ => h1)
theorem SK.notP (hd : Nat.blt d n = true) (hx : ev F x = some (.bool (dc p))) (h : SK w0 Mod n K ((d, .bool (dc (¬p))) :: F) M) :
    SK w0 Mod n (stepE P ops ⟨some d, .unOp .not T x, ty, pos, aft, none⟩ chk K) F M := SK.not hd hx (by rw [show (!dc p) = dc (¬p) from by simp [dc_eq]]; exact h)
theorem SK.splitP {j : Nat} (hv : lk F j = some (.bool (dc p))) (h1 : p → SK w0 Mod n X ((j, .bool true) :: F) M) (h2 : ¬p → SK w0 Mod n X ((j, .bool false) :: F) M) : SK w0 Mod n X F M :=
  SK.split_bool hv (fun h => h1 (of_dc_true h)) (fun h => h2 (of_dc_false h))
theorem SK.slot {j : Nat} {u v : Value} (hv : lk F j = some u) (e : u = v) (h : SK w0 Mod n X ((j, v) :: F) M) : SK w0 Mod n X F M := by
  intro aa w hf hm
  refine h aa w ⟨hf.defers, hf.size, fun t' v' h => ?_⟩ hm
  simp only [lk] at h
  cases hb : Nat.beq j t' with
  | true =>
    have := Nat.eq_of_beq_eq_true hb
    subst this
    simp at h
    rw [← h, ← e]
    exact hf.at_ _ _ hv
  | false => simp [hb] at h; exact hf.at_ t' v' h
theorem SK.fieldAddr0 {f bb o : Nat} [Fld P T f o] (hd : Nat.blt d n = true) (hx : ev F x = some (.pointer (some ⟨bb, 0, none⟩)))
    (h : SK w0 Mod n K ((d, .pointer (some ⟨bb, o, none⟩)) :: F) M) : SK w0 Mod n (stepE P ops ⟨some d, .fieldAddr T x f, ty, pos, aft, none⟩ chk K) F M :=
  SK.fieldAddr hd hx (Nat.zero_add o) h
theorem SK.pickB {c : Operand} {b1 b2 b3 : Bool} (hd : Nat.blt d n = true) (hc : ev F c = some (.bool b1)) (hx : ev F x = some (.bool b2)) (hy : ev F y = some (.bool b3))
    (h : SK w0 Mod n K ((d, .bool (if b1 then b2 else b3)) :: F) M) : SK w0 Mod n (stepE P ops ⟨some d, .pick c x y, ty, pos, aft, none⟩ chk K) F M := by
  cases b1 with
  | true => exact SK.pick_true hd hc hx h
  | false => exact SK.pick_false hd hc hy h
theorem SK.wk (hs : Wk M N) (h : SK w0 Mod n X F N) : SK w0 Mod n X F M := fun a w hf hm => h a w hf (hm.wk hs)
theorem SK.atW (hs : Sub G F) (hn : Wk M N) : SK w0 Mod n (At w0 Mod n G N) F M := fun _ _ hf hm => ⟨hf.sub hs, hm.wk hn⟩
theorem SK.roundW {α : Type} {Fi : α → FL} {Mi : α → ML} {p : α → Prop} {m : α → Nat} {g : α} (g' : α) (hp : p g') (hlt : m g' < m g) (hF : Sub (Fi g') F) (hM : Wk M (Mi g')) :
    SK w0 Mod n (Round w0 Mod n Fi Mi p m g) F M := fun _ _ hf hm => ⟨g', hp, hlt, hf.sub hF, hm.wk hM⟩
theorem SK.loopW {α : Type} {c : Code} (Fi : α → FL) (Mi : α → ML) (p : α → Prop) (m : α → Nat) (g0 : α) (hp : p g0) (hF : Sub (Fi g0) F) (hM : Wk M (Mi g0))
    (h : ∀ g, p g → SK w0 Mod n (c.wp P (Exit.then (Round w0 Mod n Fi Mi p m g) Q)) (Fi g) (Mi g)) : SK w0 Mod n ((Code.loop c).wp P Q) F M :=
  SK.wk hM (SK.loop Fi Mi p m g0 hp hF (List.Sublist.refl _) h)
theorem SK.ieqT (hd : Nat.blt d n = true) (hx : ev F x = some (.int k a)) (hy : ev F y = some (.int k b)) (hp : a = b) (h : SK w0 Mod n K ((d, .bool true) :: F) M) :
    SK w0 Mod n (stepE P ops ⟨some d, .binOp .eql T x y U, ty, pos, aft, none⟩ chk K) F M := SK.ieq hd hx hy (by rw [dc_true hp]; exact h)
theorem SK.ieqF (hd : Nat.blt d n = true) (hx : ev F x = some (.int k a)) (hy : ev F y = some (.int k b)) (hp : ¬ (a = b)) (h : SK w0 Mod n K ((d, .bool false) :: F) M) :
    SK w0 Mod n (stepE P ops ⟨some d, .binOp .eql T x y U, ty, pos, aft, none⟩ chk K) F M := SK.ieq hd hx hy (by rw [dc_false hp]; exact h)
theorem SK.ineT (hd : Nat.blt d n = true) (hx : ev F x = some (.int k a)) (hy : ev F y = some (.int k b)) (hp : a ≠ b) (h : SK w0 Mod n K ((d, .bool true) :: F) M) :
    SK w0 Mod n (stepE P ops ⟨some d, .binOp .neq T x y U, ty, pos, aft, none⟩ chk K) F M := SK.ine hd hx hy (by rw [dc_true hp]; exact h)
theorem SK.ineF (hd : Nat.blt d n = true) (hx : ev F x = some (.int k a)) (hy : ev F y = some (.int k b)) (hp : ¬ (a ≠ b)) (h : SK w0 Mod n K ((d, .bool false) :: F) M) :
    SK w0 Mod n (stepE P ops ⟨some d, .binOp .neq T x y U, ty, pos, aft, none⟩ chk K) F M := SK.ine hd hx hy (by rw [dc_false hp]; exact h)
theorem SK.iltT (hd : Nat.blt d n = true) (hx : ev F x = some (.int k a)) (hy : ev F y = some (.int k b)) (hp : a < b) (h : SK w0 Mod n K ((d, .bool true) :: F) M) :
    SK w0 Mod n (stepE P ops ⟨some d, .binOp .lss T x y U, ty, pos, aft, none⟩ chk K) F M := SK.ilt hd hx hy (by rw [dc_true hp]; exact h)
theorem SK.iltF (hd : Nat.blt d n = true) (hx : ev F x = some (.int k a)) (hy : ev F y = some (.int k b)) (hp : ¬ (a < b)) (h : SK w0 Mod n K ((d, .bool false) :: F) M) :
    SK w0 Mod n (stepE P ops ⟨some d, .binOp .lss T x y U, ty, pos, aft, none⟩ chk K) F M := SK.ilt hd hx hy (by rw [dc_false hp]; exact h)
theorem SK.ileT (hd : Nat.blt d n = true) (hx : ev F x = some (.int k a)) (hy : ev F y = some (.int k b)) (hp : a ≤ b) (h : SK w0 Mod n K ((d, .bool true) :: F) M) :
    SK w0 Mod n (stepE P ops ⟨some d, .binOp .leq T x y U, ty, pos, aft, none⟩ chk K) F M := SK.ile hd hx hy (by rw [dc_true hp]; exact h)
theorem SK.ileF (hd : Nat.blt d n = true) (hx : ev F x = some (.int k a)) (hy : ev F y = some (.int k b)) (hp : ¬ (a ≤ b)) (h : SK w0 Mod n K ((d, .bool false) :: F) M) :
    SK w0 Mod n (stepE P ops ⟨some d, .binOp .leq T x y U, ty, pos, aft, none⟩ chk K) F M := SK.ile hd hx hy (by rw [dc_false hp]; exact h)
theorem SK.igtT (hd : Nat.blt d n = true) (hx : ev F x = some (.int k a)) (hy : ev F y = some (.int k b)) (hp : b < a) (h : SK w0 Mod n K ((d, .bool true) :: F) M) :
    SK w0 Mod n (stepE P ops ⟨some d, .binOp .gtr T x y U, ty, pos, aft, none⟩ chk K) F M := SK.igt hd hx hy (by rw [dc_true hp]; exact h)
theorem SK.igtF (hd : Nat.blt d n = true) (hx : ev F x = some (.int k a)) (hy : ev F y = some (.int k b)) (hp : ¬ (b < a)) (h : SK w0 Mod n K ((d, .bool false) :: F) M) :
    SK w0 Mod n (stepE P ops ⟨some d, .binOp .gtr T x y U, ty, pos, aft, none⟩ chk K) F M := SK.igt hd hx hy (by rw [dc_false hp]; exact h)
theorem SK.igeT (hd : Nat.blt d n = true) (hx : ev F x = some (.int k a)) (hy : ev F y = some (.int k b)) (hp : b ≤ a) (h : SK w0 Mod n K ((d, .bool true) :: F) M) :
    SK w0 Mod n (stepE P ops ⟨some d, .binOp .geq T x y U, ty, pos, aft, none⟩ chk K) F M := SK.ige hd hx hy (by rw [dc_true hp]; exact h)
theorem SK.igeF (hd : Nat.blt d n = true) (hx : ev F x = some (.int k a)) (hy : ev F y = some (.int k b)) (hp : ¬ (b ≤ a)) (h : SK w0 Mod n K ((d, .bool false) :: F) M) :
    SK w0 Mod n (stepE P ops ⟨some d, .binOp .geq T x y U, ty, pos, aft, none⟩ chk K) F M := SK.ige hd hx hy (by rw [dc_false hp]; exact h)
theorem SK.seqST (hd : Nat.blt d n = true) (hx : ev F x = some (.string s)) (hy : ev F y = some (.string t)) (hp : s = t) (h : SK w0 Mod n K ((d, .bool true) :: F) M) :
    SK w0 Mod n (stepE P ops ⟨some d, .binOp .eql T x y U, ty, pos, aft, none⟩ chk K) F M := SK.seqS hd hx hy (by rw [dc_true hp]; exact h)
theorem SK.seqSF (hd : Nat.blt d n = true) (hx : ev F x = some (.string s)) (hy : ev F y = some (.string t)) (hp : ¬ (s = t)) (h : SK w0 Mod n K ((d, .bool false) :: F) M) :
    SK w0 Mod n (stepE P ops ⟨some d, .binOp .eql T x y U, ty, pos, aft, none⟩ chk K) F M := SK.seqS hd hx hy (by rw [dc_false hp]; exact h)
theorem SK.sneST (hd : Nat.blt d n = true) (hx : ev F x = some (.string s)) (hy : ev F y = some (.string t)) (hp : s ≠ t) (h : SK w0 Mod n K ((d, .bool true) :: F) M) :
    SK w0 Mod n (stepE P ops ⟨some d, .binOp .neq T x y U, ty, pos, aft, none⟩ chk K) F M := SK.sneS hd hx hy (by rw [dc_true hp]; exact h)
theorem SK.sneSF (hd : Nat.blt d n = true) (hx : ev F x = some (.string s)) (hy : ev F y = some (.string t)) (hp : ¬ (s ≠ t)) (h : SK w0 Mod n K ((d, .bool false) :: F) M) :
    SK w0 Mod n (stepE P ops ⟨some d, .binOp .neq T x y U, ty, pos, aft, none⟩ chk K) F M := SK.sneS hd hx hy (by rw [dc_false hp]; exact h)
theorem SK.maxI {ats : Array TypeId} (hd : Nat.blt d n = true) (hx : ev F x = some (.int k a)) (hy : ev F y = some (.int k b)) (h : SK w0 Mod n K ((d, .int k (if a < b then b else a)) :: F) M) :
    SK w0 Mod n (stepE P ops ⟨some d, .call ⟨.builtin .max, #[x, y], ats⟩, ty, pos, aft, none⟩ chk K) F M :=
  SK.pure rfl hd (fun aa hf w' => by simp [execOp, resolve, invoke, builtin, Builtin.max_, Builtin.max2, hf.ev hx, hf.ev hy]) h
theorem SK.condBT {c : Operand} {u v : Code} {bb : Bool} (hc : ev F c = some (.bool bb)) (hp : bb = true) (h1 : SK w0 Mod n (u.wp P Q) F M) :
    SK w0 Mod n ((Code.cond c u v).wp P Q) F M := by subst hp; exact SK.cond_true hc h1
theorem SK.condBF {c : Operand} {u v : Code} {bb : Bool} (hc : ev F c = some (.bool bb)) (hp : bb = false) (h1 : SK w0 Mod n (v.wp P Q) F M) :
    SK w0 Mod n ((Code.cond c u v).wp P Q) F M := by subst hp; exact SK.cond_false hc h1
theorem SK.isStep {o : Oper} (h : SK w0 Mod n (stepE P ops o chk K) F M) : SK w0 Mod n (stepE P ops o chk K) F M := h
theorem SK.isBin {dst : Option Tmp} {op : BinOp} {g : Option (Nat × Bool)} (h : SK w0 Mod n (stepE P ops ⟨dst, .binOp op T x y U, ty, pos, aft, g⟩ chk K) F M) :
    SK w0 Mod n (stepE P ops ⟨dst, .binOp op T x y U, ty, pos, aft, g⟩ chk K) F M := h
end
end Go.Sx
namespace Go.Sx
section
variable {P : Program} {ops : Array Oper} {w0 : World} {Mod : List Nat} {n : Nat} {F G : FL} {M N : ML} {Q : Exit → Act → World → Prop} {K X : Act → World → Prop} {chk : List Nat}
  {ty : TypeId} {pos : String} {aft : Array Edge} {d : Nat}
theorem SK.guard_none {op : Op} {j : Nat} {b : Bool} {t : Nat} (hd : Nat.blt d n = true) (hj0 : (nthO ops.toList j).bind (·.dst) = some t) (hv : lk F t = some undef)
    (h : SK w0 Mod n K ((d, undef) :: F) M) : SK w0 Mod n (stepE P ops ⟨some d, op, ty, pos, aft, some (j, b)⟩ chk K) F M := by
  have hj : (ops[j]?).bind (·.dst) = some t := by rw [nthO_eq] at hj0; simpa using hj0
  intro a w hf hm
  have hw : Region.wanted ⟨some d, op, ty, pos, aft, some (j, b)⟩ (yielded ops a.tmps) = false := by
    simp [Region.wanted, yielded, hj, hf.at_ t _ hv, undef]
  exact stepE_cases.2 (.inl ⟨hw, h _ _ (hf.put hd _) hm⟩)
theorem SK.seqW {x y : Code} (R : Act → World → Prop) (h1 : SK w0 Mod n (x.wp P (Exit.then R Q)) F M) (h2 : ∀ a w, R a w → y.wp P Q a w) : SK w0 Mod n ((Code.seq x y).wp P Q) F M := by
  refine SK.seq (SK.mono h1 fun a w h => Code.wp_mono (fun e a w q => ?_) h)
  cases e with
  | normal => exact h2 a w q
  | exit id => exact q
  | goto l => exact q
  | ret => exact q
  | panic ch => exact q
  | outgrown => exact q
def Outcome (w0 : World) (Mod : List Nat) (n : Nat) (t : Nat) (p : Prop) (F : FL) (M : ML) (a : Act) (w : World) : Prop := ∃ b : Bool, (b = true ↔ p) ∧ FOK n ((t, .bool b) :: F) a ∧ Mem w0 Mod M w
theorem SK.test {x y : Code} (t : Nat) (p : Prop) (h1 : SK w0 Mod n (x.wp P (Exit.then (Outcome w0 Mod n t p F M) Q)) F M)
    (h2 : p → SK w0 Mod n (y.wp P Q) ((t, .bool true) :: F) M) (h3 : ¬p → SK w0 Mod n (y.wp P Q) ((t, .bool false) :: F) M) : SK w0 Mod n ((Code.seq x y).wp P Q) F M := by
  refine SK.seqW _ h1 fun a w ⟨b, hb, hf, hm⟩ => ?_
  cases b with
  | true => exact h2 (hb.1 rfl) a w hf hm
  | false => exact h3 (fun h => by cases hb.2 h) a w hf hm
theorem SK.outcome {t : Nat} {p : Prop} {b : Bool} (hs : Sub ((t, .bool b) :: G) F) (hn : Wk M N) (hb : b = true ↔ p) : SK w0 Mod n (Outcome w0 Mod n t p G N) F M :=
  fun _ _ hf hm => ⟨b, hb, hf.sub hs, hm.wk hn⟩
inductive Bd (F : FL) : Option Operand → Nat → Nat → Prop
  | none (d : Nat) : Bd F none d d
  | some {x : Operand} {q : IntKind} {l : Nat} (d : Nat) (h : ev F x = some (.int q (l : Int))) : Bd F (some x) d l
theorem run_sliceBound {x : Value} {q : IntKind} {l y : Nat} {code : BoundsCode} (h : x = .int q (l : Int)) (hl : l ≤ y) (w : World) : (Instr.sliceBound x y code).run P w = .ok l w := by
  subst h
  have : (l : Int) ≤ (y : Int) := by omega
  simp [Instr.sliceBound, asIntOf, this]
theorem SK.sliceOp {T E k bb : Nat} {x : Operand} {lo hi mx : Option Operand} {A : Option Addr} {len cap l h m : Nat} {v : Value} [hT : Slc P T E k bb] (hd : Nat.blt d n = true)
    (hx : ev F x = some (.slice A len cap)) (hm : Bd F mx cap m) (hh : Bd F hi len h) (hl : Bd F lo 0 l) (hok : (mx.isNone || hi.isSome) = true) (h1 : m ≤ cap) (h2 : h ≤ m) (h3 : l ≤ h)
    (hv : Value.slice (if m = l then A else A.map (·.add (l * k))) (h - l) (m - l) = v)
    (hh' : SK w0 Mod n K ((d, v) :: F) M) : SK w0 Mod n (stepE P ops ⟨some d, .slice T x lo hi mx, ty, pos, aft, none⟩ chk K) F M := by
  refine SK.pure rfl hd (fun a hf w' => ?_) hh'
  have h4 := hT.und
  have h5 := hT.size
  cases hu : P.underlying T with
  | none => simp [hu] at h4
  | some dd =>
    cases dd <;> simp [hu] at h4
    rename_i e
    subst h4
    cases hi' : P.info? e with
    | none => simp [hi'] at h5
    | some i =>
      simp [hi'] at h5
      have hsz : (sizeOf e).run P w' = .ok k w' := by simp [sizeOf, typeInfo, hi', h5]
      have bds : (Instr.sliceBounds true len cap (lo.map a.eval) (hi.map a.eval) (mx.map a.eval)).run P w' = .ok (l, h, m) w' := by
        unfold Instr.sliceBounds
        cases hm with
        | none =>
          cases hh with
          | none =>
            cases hl with
            | none => simp
            | some _ h' => simp [run_sliceBound (hf.ev h') h3]
          | some _ h6 =>
            cases hl with
            | none => simp [run_sliceBound (hf.ev h6) h2]
            | some _ h' => simp [run_sliceBound (hf.ev h6) h2, run_sliceBound (hf.ev h') h3]
        | some _ h7 =>
          cases hh with
          | none => cases hok
          | some _ h6 =>
            cases hl with
            | none => simp [run_sliceBound (hf.ev h7) h1, run_sliceBound (hf.ev h6) h2]
            | some _ h' => simp [run_sliceBound (hf.ev h7) h1, run_sliceBound (hf.ev h6) h2, run_sliceBound (hf.ev h') h3]
      simp only [execOp, hf.ev hx, Instr.sliceAt, Instr.slice, Sem.run_bind, run_underlying hu, Result.andThen_ok, bds, hsz, Sem.run_pure, hv]
theorem made_flat (z : List Value) : ∀ m : Nat, ((List.range (m * z.length)).map fun i => z.toArray[i % z.toArray.size]!) = (List.replicate m z).flatten := by
  intro m
  induction m with
  | zero => simp
  | succ m ih =>
    rw [Nat.succ_mul, List.range_add, List.map_append, ih, List.replicate_succ', List.flatten_append]
    congr 1
    simp only [List.map_map, List.flatten_cons, List.flatten_nil, List.append_nil]
    apply List.ext_getElem
    · simp
    · intro i h1 h2
      have : (m * z.length + i) % z.length = i := by rw [Nat.add_comm, Nat.add_mul_mod_self_right]; exact Nat.mod_eq_of_lt h2
      simp [this, h2]
theorem SK.makeS {T E k bb : Nat} {x y : Operand} {m : Nat} {z : List Value} {q q' : IntKind} [hT : Slc P T E k bb] [hz : Zero P E z] (hd : Nat.blt d n = true)
    (hx : ev F x = some (.int q (m : Int))) (hy : ev F y = some (.int q' (m : Int))) (hzk : Nat.beq z.length k = true) (hb : m * bb ≤ 140737488355328) (h63 : m ≤ 9223372036854775807)
    (h : ∀ b, SK w0 Mod n (chkE P ops chk K) ((d, .slice (some ⟨b, 0, none⟩) m m) :: F) (some (b, (List.replicate m z).flatten, E) :: M)) :
    SK w0 Mod n (stepE P ops ⟨some d, .makeSlice T x y, ty, pos, aft, none⟩ chk K) F M :=
  SK.eff rfl fun a w hf hm => by
    have h1 := hT.und
    have h2 := hT.size
    have h3 := hT.bytes
    have h4 := hz.zero
    have hzk' := Nat.eq_of_beq_eq_true hzk
    cases hu : P.underlying T with
    | none => simp [hu] at h1
    | some dd =>
      cases dd <;> simp [hu] at h1
      rename_i e
      subst h1
      cases hi : P.info? e with
      | none => simp [hi] at h2
      | some i =>
        simp [hi] at h2 h3
        cases hzz : i.zero with
        | none => simp [hi, hzz] at h4
        | some v =>
          simp [hi, hzz] at h4
          have hb2 : (i.bytes : Int) * (m : Int) ≤ 281474976710656 := by
            have : ((i.bytes * m : Nat) : Int) ≤ 281474976710656 := by rw [h3, Nat.mul_comm]; omega
            rwa [Int.natCast_mul] at this
          have hr := run_make (P := P) w T e i v hu hi hzz q q' (m : Int) (m : Int) (by omega) (Int.le_refl _) hb2 (by omega)
          have hc : madeCells v.cells ((m : Int).toNat * i.size) = ((List.replicate m z).flatten).toArray := by
            apply Array.ext'
            rw [h4, h2, ← hzk']
            simp only [madeCells, Int.toNat_natCast, Array.toList_map, Array.toList_range]
            exact made_flat z m
          rw [hc] at hr
          simp only [Int.toNat_natCast] at hr
          have hex : (execOp a.eval ⟨some d, .makeSlice T x y, ty, pos, aft, none⟩).run P w = .ok (.value (.slice (some ⟨w.heap.size, 0, none⟩) m m)) { w with heap := w.heap.push (.cells ((List.replicate m z).flatten).toArray e (0, 0)) } := by
            simp only [execOp, hf.ev hx, hf.ev hy, Sem.run_bind, hr, Result.andThen_ok, Sem.run_pure]
            rfl
          rw [hex]
          exact h w.heap.size _ _ (hf.put hd _) (hm.new _ e w.drawn)
theorem SK.clear1 {T E k bb : Nat} {x : Operand} {b o c : Nat} {cs cs' z : List Value} {T' : TypeId} [hT : Slc P T E k bb] [hz : Zero P E z]
    (hx : ev F x = some (.slice (some ⟨b, o, none⟩) 1 c)) (hz0 : z.isEmpty = false) (hp : plain z = true) (hu : Upd (some (b, cs, T')) (some (b, cs', T')) M N) (hst : st cs o z = some cs') (h : SK w0 Mod n (chkE P ops chk K) F N) :
    SK w0 Mod n (stepE P ops ⟨none, .call ⟨.builtin .clear, #[x], #[T]⟩, ty, pos, aft, none⟩ chk K) F M :=
  SK.eff rfl fun a w hf hm => by
    have h1 := hT.und
    have h4 := hz.zero
    have hne : z ≠ [] := fun e => by rw [e] at hz0; cases hz0
    obtain ⟨g1, g2⟩ := st_spec cs o z cs' hne hst
    have hb := hm.blk b cs T' hu.mem
    have hstore := run_storeCells_at P b o T' z 0 cs.toArray w hb (by simpa using g1) (fun v hv => List.all_eq_true.1 hp v hv)
    simp only [Nat.add_zero] at hstore
    rw [← g2] at hstore
    cases hun : P.underlying T with
    | none => simp [hun] at h1
    | some dd =>
      cases dd <;> simp [hun] at h1
      rename_i e
      subst h1
      cases hi : P.info? e with
      | none => simp [hi] at h4
      | some i =>
        cases hzz : i.zero with
        | none => simp [hi, hzz] at h4
        | some v =>
          simp [hi, hzz] at h4
          have hzr : (zeroValue e).run P w = .ok v w := by simp [zeroValue, typeInfo, hi, hzz]
          have hzc : (Builtin.zeroCells v.cells 1).toList = z := by
            have := made_flat z 1
            simp only [Nat.one_mul, List.replicate_one, List.flatten_cons, List.flatten_nil, List.append_nil] at this
            rw [h4]
            simp only [Builtin.zeroCells, Array.toList_map, Array.toList_range, Nat.one_mul]
            simpa using this
          have hex : (execOp a.eval ⟨none, .call ⟨.builtin .clear, #[x], #[T]⟩, ty, pos, aft, none⟩).run P w = .ok (.value (.tuple #[])) (w.setRow b cs'.toArray) := by
            simp only [execOp, resolve, invoke, builtin, List.map_toArray, List.map_cons, List.map_nil, hf.ev hx, Sem.run_bind, Sem.run_pure, Result.andThen_ok]
            simp [Builtin.clear_, run_underlying hun, hzr, hzc, hstore]
          rw [hex]
          exact h _ _ hf (hm.set hu (st_len hne hst))
end
end Go.Sx
namespace Go.Sx
section
variable {P : Program} {ops : Array Oper} {w0 : World} {Mod : List Nat} {n : Nat} {F G : FL} {M N : ML} {Q : Exit → Act → World → Prop} {K X : Act → World → Prop}
theorem SK.regionD {id : Nat} (l : List Nat) (c : Ch) (hm : P.follows .mixedOrders = true) (hok : treeOK ops l c = true) (h : SK w0 Mod n (wpI P ops (bare l) (wpC P ops c (Q .normal))) F M) :
    SK w0 Mod n ((Code.region id ops true).wp P Q) F M :=
  fun a _ hf hm' => wp_region_Tr hm hok (h a _ hf hm'.drew)
theorem SK.nextB {i : Nat} {o : Oper} {r : List Nat} (ho : nthO ops.toList i = some o) (h : SK w0 Mod n (stepE P ops o [] (wpI P ops (bare r) K)) F M) :
    SK w0 Mod n (wpI P ops (bare (i :: r)) K) F M := SK.nextI ho h
theorem SK.nextE {i : Nat} {c : List Nat} {o : Oper} {r : List Nat} (ho : nthO ops.toList i = some o) (h : SK w0 Mod n (stepE P ops o c (wpI P ops (bare r) K)) F M) :
    SK w0 Mod n (wpI P ops ((i, c) :: bare r) K) F M := SK.nextI ho h
theorem SK.doneB (h : SK w0 Mod n K F M) : SK w0 Mod n (wpI P ops (bare []) K) F M := h
theorem SK.finC (h : SK w0 Mod n K F M) : SK w0 Mod n (wpC P ops .fin K) F M := h
theorem SK.effC {e : Ent} {l : List Nat} {c : Ch} (h : SK w0 Mod n (wpI P ops (e :: bare l) (wpC P ops c K)) F M) : SK w0 Mod n (wpC P ops (.eff e l c) K) F M := h
theorem SK.orC {s t : Ch} (h1 : SK w0 Mod n (wpC P ops s K) F M) (h2 : SK w0 Mod n (wpC P ops t K) F M) : SK w0 Mod n (wpC P ops (.or s t) K) F M :=
  fun a w hf hm => ⟨h1 a w hf hm, h2 a w hf hm⟩
end
end Go.Sx
namespace Go.Sx
theorem least_of {p : Nat → Prop} : ∀ n, p n → ∃ m, p m ∧ ∀ k, p k → m ≤ k := by
  intro n
  induction n using Nat.strongRecOn with
  | _ n ih =>
    intro h
    by_cases hl : ∃ k, k < n ∧ p k
    · obtain ⟨k, hk, hp⟩ := hl
      exact ih k hk hp
    · exact ⟨n, h, fun k hk => Nat.le_of_not_lt fun hlt => hl ⟨k, hlt, hk⟩⟩
open Classical in
noncomputable def leastOf (p : Nat → Prop) : Nat := if h : ∃ n, p n then Classical.choose (least_of _ (Classical.choose_spec h)) else 0
theorem leastOf_spec {p : Nat → Prop} {n : Nat} (h : p n) : p (leastOf p) ∧ leastOf p ≤ n := by
  have he : ∃ n, p n := ⟨n, h⟩
  unfold leastOf
  rw [dif_pos he]
  have := Classical.choose_spec (least_of _ (Classical.choose_spec he))
  exact ⟨this.1, this.2 n h⟩
section
variable {P : Program} {w0 : World} {Mod : List Nat} {n : Nat} {F : FL} {M : ML} {Q : Exit → Act → World → Prop}
def Jumped {α : Type} (w0 : World) (Mod : List Nat) (n : Nat) (Fi : α → FL) (Mi : α → ML) (p : α → Prop) (a : Act) (w : World) : Prop := ∃ g, p g ∧ FOK n (Fi g) a ∧ Mem w0 Mod (Mi g) w
theorem SK.scope {α : Type} {c rest : Code} (l : Nat) (Fi : α → FL) (Mi : α → ML) (p : α → Prop) (m : α → Nat) (hf : findLabel c l = some rest)
    (pass : ∀ g, p g → SK w0 Mod n (rest.wp P (Exit.jump l (Round w0 Mod n Fi Mi p m g) Q)) (Fi g) (Mi g))
    (first : SK w0 Mod n (c.wp P (Exit.jump l (Jumped w0 Mod n Fi Mi p) Q)) F M) : SK w0 Mod n ((Code.scope c).wp P Q) F M := by
  intro a w hfo hm
  have key : ∀ a w, Jumped w0 Mod n Fi Mi p a w → ∃ k, ∃ g, m g = k ∧ p g ∧ FOK n (Fi g) a ∧ Mem w0 Mod (Mi g) w := fun a w ⟨g, h⟩ => ⟨m g, g, rfl, h⟩
  refine wp_scope_jumps l (Jumped w0 Mod n Fi Mi p) (fun a w => leastOf fun k => ∃ g, m g = k ∧ p g ∧ FOK n (Fi g) a ∧ Mem w0 Mod (Mi g) w) hf (first a w hfo hm) ?_
  intro a w hJ
  obtain ⟨k, hk⟩ := key a w hJ
  obtain ⟨⟨g, hg, hp, h1, h2⟩, _⟩ := leastOf_spec (p := fun k => ∃ g, m g = k ∧ p g ∧ FOK n (Fi g) a ∧ Mem w0 Mod (Mi g) w) hk
  refine Code.wp_mono (fun e a' w' q => ?_) (pass g hp a w h1 h2)
  cases e with
  | goto l' =>
    obtain ⟨hl, g', hp', hlt, hf', hm'⟩ := q
    refine ⟨hl, ⟨g', hp', hf', hm'⟩, ?_⟩
    have := (leastOf_spec (p := fun k => ∃ g, m g = k ∧ p g ∧ FOK n (Fi g) a' ∧ Mem w0 Mod (Mi g) w') (n := m g') ⟨g', rfl, hp', hf', hm'⟩).2
    omega
  | normal => exact q
  | exit id => exact q
  | ret => exact q
  | panic ch => exact q
  | outgrown => exact q
theorem SK.firstPass {α : Type} {c : Code} {l : Nat} {Fi : α → FL} {Mi : α → ML} {p : α → Prop} {m : α → Nat} {g : α} (hF : Sub (Fi g) F) (hM : Wk M (Mi g))
    (h : SK w0 Mod n (c.wp P (Exit.jump l (Round w0 Mod n Fi Mi p m g) Q)) (Fi g) (Mi g)) : SK w0 Mod n (c.wp P (Exit.jump l (Jumped w0 Mod n Fi Mi p) Q)) F M := by
  intro a w hfo hm
  refine Code.wp_mono (fun e a' w' q => ?_) (h a w (hfo.sub hF) (hm.wk hM))
  cases e with
  | goto l' =>
    obtain ⟨hl, g', hp', _, hf', hm'⟩ := q
    exact ⟨hl, g', hp', hf', hm'⟩
  | normal => exact q
  | exit id => exact q
  | ret => exact q
  | panic ch => exact q
  | outgrown => exact q
theorem SK.label {l : Nat} (h : SK w0 Mod n (Q .normal) F M) : SK w0 Mod n ((Code.label l).wp P Q) F M := fun a w hf hm => wp_label (h a w hf hm)
theorem SK.goto {l : Nat} (h : SK w0 Mod n (Q (.goto l)) F M) : SK w0 Mod n ((Code.goto l).wp P Q) F M := fun a w hf hm => wp_goto (h a w hf hm)
theorem SK.jump_normal {l : Nat} {J : Act → World → Prop} (h : SK w0 Mod n (Q .normal) F M) : SK w0 Mod n (Exit.jump l J Q .normal) F M := h
theorem SK.jump_ret {l : Nat} {J : Act → World → Prop} (h : SK w0 Mod n (Q .ret) F M) : SK w0 Mod n (Exit.jump l J Q .ret) F M := h
theorem SK.jump_goto {l : Nat} {J : Act → World → Prop} (h : SK w0 Mod n J F M) : SK w0 Mod n (Exit.jump l J Q (.goto l)) F M := fun a w hf hm => ⟨rfl, h a w hf hm⟩
end
end Go.Sx
namespace Go.Sx
abbrev Za := @SK.seq
abbrev Zb := @SK.regionT
abbrev Zc := @SK.nextT
abbrev Zd := @SK.doneT
abbrev Ze := @SK.doneI
abbrev Zf := @SK.doneB
abbrev Zg := @SK.finC
abbrev Zh := @SK.effC
abbrev Zi := @SK.then_normal
abbrev Zj := @SK.then_exit
abbrev Zk := @SK.then_ret
abbrev Zl := @SK.in_normal
abbrev Zm := @SK.in_ret
abbrev Zn := @SK.in_hit
abbrev Zo := @SK.skip
abbrev Zp := @SK.ret
abbrev Zq := @SK.exit
abbrev Zr := @SK.block
abbrev Zs := @SK.chk_nil
abbrev Zt := @SK.goto
abbrev Zu := @SK.jump_normal
abbrev Zv := @SK.jump_ret
abbrev Zw := @SK.jump_goto
abbrev Zx := @SK.in_goto
abbrev Zy := @SK.then_goto
abbrev Zz := @SK.nextI
abbrev ZA := @SK.nextB
abbrev ZB := @SK.in_miss
abbrev ZC := @SK.cond_true
abbrev ZD := @SK.cond_false
abbrev ZE := @SK.chk1
abbrev ZF := @SK.chkA
abbrev ZG := @SK.condT
abbrev ZH := @SK.condF
abbrev ZI := @SK.move
abbrev ZJ := @SK.assign
abbrev ZK := @SK.fieldAddr0
abbrev ZL := @SK.notP
abbrev ZM := @SK.lenS
abbrev ZN := @SK.nilCheck
abbrev ZO := @SK.guard_on
abbrev ZP := @SK.not
abbrev ZQ := @SK.lenStr
abbrev ZR := @SK.iadd1
abbrev ZS := @SK.iltT
abbrev ZT := @SK.ileT
abbrev ZU := @SK.igtT
abbrev ZV := @SK.igeT
abbrev ZW := @SK.ieqT
abbrev ZX := @SK.ineT
abbrev ZY := @SK.iltF
abbrev ZZ := @SK.ileF
abbrev Zqa := @SK.igtF
abbrev Zqb := @SK.igeF
abbrev Zqc := @SK.ieqF
abbrev Zqd := @SK.ineF
abbrev Zqe := @SK.sneSF
abbrev Zqf := @SK.seqST
abbrev Zqg := @SK.ieq
abbrev Zqh := @SK.ine
abbrev Zqi := @SK.ilt
abbrev Zqj := @SK.ile
abbrev Zqk := @SK.igt
abbrev Zql := @SK.ige
abbrev Zqm := @SK.fieldAddr
abbrev Zqn := @SK.extract
abbrev Zqo := @SK.pick_true
abbrev Zqp := @SK.makeFunc
abbrev Zqq := @SK.maxI
abbrev Zqr := @SK.build
abbrev Zqs := @SK.pick_false
abbrev Zqt := @SK.sneST
abbrev Zqu := @SK.seqSF
abbrev Zqv := @SK.seqS
abbrev Zqw := @SK.sneS
abbrev Zqx := @SK.guard_off
abbrev Zqy := @SK.guard_none
abbrev Zqz := @SK.load1
abbrev Zra := @SK.loadA
abbrev Zrb := @SK.store1
abbrev Zrc := @SK.storeA
abbrev Zrd := @SK.slice1
abbrev Zre := @SK.slice0
abbrev Zrf := @SK.box
abbrev Zrg := @SK.alloc
theorem Yz {P : Program} {ops : Array Oper} {w0 : World} {Mod : List Nat} {n : Nat} {F : FL} {M : ML} {K : Act → World → Prop} {chk : List Nat} {o : Oper} (h : SK w0 Mod n (stepE P ops o chk K) F M) : SK w0 Mod n (stepE P ops o chk K) F M := h
end Go.Sx
