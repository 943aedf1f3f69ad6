/- Proved here: the rules for operations. -/
import Derived.Test.YtdnjfmgldkommaaWa
import Derived.WalkKit
import Derived.WalkLawsBesides
namespace Go.Sx
inductive Ch where
  | fin
  | eff (e : Ent) (l : List Nat) (c : Ch)
  | or (s t : Ch)
abbrev bare (l : List Nat) : List Ent := l.map fun i => (i, [])
def Ch.heads : Ch → List Nat
  | .fin => []
  | .eff e _ _ => [e.1]
  | .or s t => s.heads ++ t.heads
section
variable (P : Program) (ops : Array Oper)
def wpC : Ch → (Act → World → Prop) → Act → World → Prop
  | .fin, K => K
  | .eff e l c, K => wpI P ops (e :: bare l) (wpC c K)
  | .or s t, K => fun a w => wpC s K a w ∧ wpC t K a w
end
def pairN (ops : Array Oper) (pre : List (List Nat)) (x y : Nat) : Bool :=
  match ops[x]?, ops[y]? with
  | some ok, some oi => x != y && !(needs ok).contains y && ((pre.getD y []).contains x || (Oper.apart ops ok oi && kindsOK ok oi x []))
  | _, _ => false
def segOK (ops : Array Oper) (pre : List (List Nat)) : List Nat → Bool
  | [] => true
  | x :: r => r.all (pairN ops pre x) && segOK ops pre r
def entN (ops : Array Oper) (S : List Nat) (x : Nat) : Bool :=
  match ops[x]? with
  | some o => noSel o && (needs o).all (S.contains ·) && !(needs o).contains x
  | none => false
def chkSeq (ops : Array Oper) (c : List Nat) : List Nat → Bool
  | [] => true
  | j :: r => (!c.contains j || r.all fun x => match ops[j]?, ops[x]? with
      | some lo, some ok => quietFor ops ok lo
      | _, _ => false) && chkSeq ops c r
def headOK (ops : Array Oper) (pre : List (List Nat)) (S acc : List Nat) (e : Ent) : Bool :=
  match ops[e.1]? with
  | some oe => noSel oe && !S.contains e.1 && (needs oe).all (S.contains ·) &&
      acc.all (fun x => (pre.getD e.1 []).contains x || (match ops[x]? with
        | some ok => Oper.apart ops ok oe && kindsOK ok oe x e.2 && (!e.2.contains x || (match ok.dst with | some d => !(ok.looksAt ops).contains d | none => true))
        | none => false)) && chkSeq ops e.2 acc
  | none => false
def nodeOK (ops : Array Oper) (pre : List (List Nat)) (S acc : List Nat) (c : Ch) : Bool :=
  acc.all (fun x => S.contains x && entN ops S x) && segOK ops pre acc &&
  (List.range ops.size).all (fun i => S.contains i || c.heads.contains i || (pre.getD i []).any (!S.contains ·)) &&
  (!c.heads.isEmpty || (List.range ops.size).all (S.contains ·))
def subOK (ops : Array Oper) (pre : List (List Nat)) : List Nat → List Nat → Ch → Bool
  | _, _, .fin => true
  | S, acc, .eff e l c => l.all (fun x => !S.contains x && x != e.1) && headOK ops pre S acc e &&
      nodeOK ops pre (e.1 :: (l ++ S)) (acc ++ l) c && subOK ops pre (e.1 :: (l ++ S)) (acc ++ l) c
  | S, acc, .or s t => subOK ops pre S acc s && subOK ops pre S acc t
def treeOK (ops : Array Oper) (l : List Nat) (c : Ch) : Bool :=
  let pre := preOf ops.toList []
  (List.range ops.size).all (preOK ops pre) && nodeOK ops pre l l c && subOK ops pre l l c
section
variable {P : Program} {ops : Array Oper} {Q : Exit → Act → World → Prop} {K K' : Act → World → Prop} {a : Act} {w : World}
theorem wpI_mono (h : ∀ a w, K a w → K' a w) : ∀ (l : List Ent) (a : Act) (w : World), wpI P ops l K a w → wpI P ops l K' a w := by
  intro l
  induction l with
  | nil => intro a w hw; exact h _ _ hw
  | cons x l ih =>
    intro a w hw
    obtain ⟨o, ho, hw⟩ := hw
    exact ⟨o, ho, stepE_mono (fun _ h => h) ih hw⟩
theorem wpI_append (q : List Ent) : ∀ (l : List Ent), wpI P ops (l ++ q) K = wpI P ops l (wpI P ops q K) := by
  intro l
  induction l with
  | nil => rfl
  | cons x l ih => simp only [List.cons_append, wpI]; rw [ih]
theorem bare_ids (l : List Nat) : (bare l).map (·.1) = l := by
  induction l with
  | nil => rfl
  | cons x l ih => simp only [bare, List.map_cons] at ih ⊢; rw [ih]
theorem heads_mem {pre : List (List Nat)} {S acc : List Nat} {i : Nat} : ∀ (c : Ch), i ∈ c.heads → subOK ops pre S acc c = true →
    ∃ e l c', e.1 = i ∧ (∀ x ∈ l, x ∉ S ∧ x ≠ i) ∧ headOK ops pre S acc e = true ∧ nodeOK ops pre (i :: (l ++ S)) (acc ++ l) c' = true ∧
      subOK ops pre (i :: (l ++ S)) (acc ++ l) c' = true ∧ ∀ K a w, wpC P ops c K a w → wpI P ops (e :: bare l) (wpC P ops c' K) a w := by
  intro c
  induction c with
  | fin => intro h; cases h
  | eff e l c _ =>
    intro hi h
    simp only [Ch.heads, List.mem_singleton] at hi
    subst hi
    simp only [subOK, Bool.and_eq_true] at h
    obtain ⟨⟨⟨h1, h2⟩, h3⟩, h4⟩ := h
    refine ⟨e, l, c, rfl, fun x hx => ?_, h2, h3, h4, fun K a w h => h⟩
    have := List.all_eq_true.1 h1 x hx
    simpa using this
  | or s t ihs iht =>
    intro hi h
    simp only [subOK, Bool.and_eq_true] at h
    rcases List.mem_append.1 hi with hi | hi
    · obtain ⟨e, l, c', h1, h2, h3, h4, h5, h6⟩ := ihs hi h.1
      exact ⟨e, l, c', h1, h2, h3, h4, h5, fun K a w h => h6 K a w h.1⟩
    · obtain ⟨e, l, c', h1, h2, h3, h4, h5, h6⟩ := iht hi h.2
      exact ⟨e, l, c', h1, h2, h3, h4, h5, fun K a w h => h6 K a w h.2⟩
theorem heads_nil : ∀ (c : Ch) (K : Act → World → Prop) (a : Act) (w : World), c.heads = [] → wpC P ops c K a w → K a w := by
  intro c
  induction c with
  | fin => intro K a w _ h; exact h
  | eff e l c _ => intro K a w h; cases h
  | or s t ihs _ =>
    intro K a w h hw
    exact ihs K a w (List.append_eq_nil_iff.1 h).1 hw.1
theorem segOK_spec {pre : List (List Nat)} : ∀ (l : List Nat), segOK ops pre l = true → l.Pairwise fun x y => x ≠ y ∧ ∃ ok oi, ops[x]? = some ok ∧ ops[y]? = some oi ∧ y ∉ needs ok ∧
    (x ∈ pre.getD y [] ∨ (Oper.apart ops ok oi = true ∧ kindsOK ok oi x [] = true)) := by
  intro l
  induction l with
  | nil => intro _; exact .nil
  | cons x l ih =>
    intro h
    simp only [segOK, Bool.and_eq_true] at h
    refine .cons (fun y hy => ?_) (ih h.2)
    have h := List.all_eq_true.1 h.1 y hy
    unfold pairN at h
    cases hx : ops[x]? with
    | none => simp [hx] at h
    | some ok =>
      cases hy : ops[y]? with
      | none => simp [hx, hy] at h
      | some oi =>
        simp only [hx, hy, Bool.and_eq_true, Bool.or_eq_true, List.contains_iff_mem, bne_iff_ne, Bool.not_eq_true'] at h
        obtain ⟨⟨h1, h2⟩, h3⟩ := h
        exact ⟨h1, ok, oi, rfl, rfl, by simpa using h2, h3⟩
theorem chkSeq_spec {c : List Nat} : ∀ (l : List Nat), chkSeq ops c l = true → l.Pairwise fun j x => j ∈ c → ∃ lo ok, ops[j]? = some lo ∧ ops[x]? = some ok ∧ quietFor ops ok lo = true := by
  intro l
  induction l with
  | nil => intro _; exact .nil
  | cons j l ih =>
    intro h
    simp only [chkSeq, Bool.and_eq_true] at h
    refine .cons (fun x hx hj => ?_) (ih h.2)
    have h := h.1
    simp only [Bool.or_eq_true, Bool.not_eq_true'] at h
    rcases h with h | h
    · have : c.contains j = true := by simpa using hj
      rw [this] at h; cases h
    · have h := List.all_eq_true.1 h x hx
      cases hjo : ops[j]? with
      | none => simp [hjo] at h
      | some lo =>
        cases hxo : ops[x]? with
        | none => simp [hjo, hxo] at h
        | some ok => simp [hjo, hxo] at h; exact ⟨lo, ok, rfl, rfl, h⟩
abbrev lft (L : Array Bool) (l : List Nat) : List Nat := l.filter fun i => !L.getD i false
theorem lft_set {L : Array Bool} {i : Nat} (hi : i < L.size) (l : List Nat) : lft (L.setIfInBounds i true) l = (lft L l).filter (· != i) := by
  unfold lft
  rw [List.filter_filter]
  congr 1
  funext j
  by_cases hji : j = i
  · subst hji; simp [Array.getD, hi]
  · rw [getD_set_ne false (Ne.symm hji)]
    have : (j != i) = true := by simpa using hji
    rw [this]; simp
theorem wpAny_of_Tr {pre : List (List Nat)} (hclo0 : ∀ i o, ops[i]? = some o → ∀ k ∈ pre.getD i [], k ∈ needs o ∨ ∃ j ∈ needs o, k ∈ pre.getD j []) :
    ∀ (fuel : Nat) (L : Array Bool) (S acc : List Nat) (c : Ch) (a : Act) (w : World), L.size = ops.size →
    (∀ i o, ops[i]? = some o → L.getD i false = true → ∀ k ∈ pre.getD i [], L.getD k false = true) →
    (∀ i, i ∉ S → L.getD i false = false) → (∀ i ∈ S, i ∉ acc → L.getD i false = true) →
    nodeOK ops pre S acc c = true → subOK ops pre S acc c = true → (lft L (List.range ops.size)).length ≤ fuel →
    wpI P ops (bare (lft L acc)) (wpC P ops c (Q .normal)) a w → wpAny P .any ops Q fuel L a w := by
  intro fuel
  induction fuel with
  | zero =>
    intro L S acc c a w hL _ hS1 _ hn _ hf h
    have hall : ∀ i, i < ops.size → L.getD i false = true := by
      intro i hi
      have hnil : lft L (List.range ops.size) = [] := List.eq_nil_of_length_eq_zero (by omega)
      cases hLi : L.getD i false with
      | true => rfl
      | false =>
        have : i ∈ lft L (List.range ops.size) := List.mem_filter.2 ⟨List.mem_range.2 hi, by rw [hLi]; rfl⟩
        rw [hnil] at this; cases this
    simp only [nodeOK, Bool.and_eq_true] at hn
    obtain ⟨⟨⟨n1, n2⟩, n3⟩, n4⟩ := hn
    have haccS : ∀ x ∈ acc, x < ops.size := by
      intro x hx
      have := List.all_eq_true.1 n1 x hx
      simp only [Bool.and_eq_true, entN] at this
      cases ho : ops[x]? with
      | none => simp [ho] at this
      | some o => exact (Array.getElem?_eq_some_iff.1 ho).1
    have hrem : lft L acc = [] := by
      refine List.eq_nil_iff_forall_not_mem.2 fun x hx => ?_
      obtain ⟨h1, h2⟩ := List.mem_filter.1 hx
      rw [hall x (haccS x h1)] at h2; cases h2
    rw [hrem] at h
    refine ⟨?_, ?_⟩
    · refine List.eq_nil_iff_forall_not_mem.2 fun i hi => ?_
      obtain ⟨h0, o, ho, _⟩ := mem_ready.1 hi
      have hlt := (Array.getElem?_eq_some_iff.1 ho).1
      have h1 := hall i hlt
      have : i < L.size := by omega
      simp [Array.getD, this] at h0 h1
      rw [h0] at h1; cases h1
    · cases hh : c.heads with
      | nil => exact heads_nil c _ a w hh h
      | cons i r =>
        exfalso
        obtain ⟨e, l, c', he, _, hk, _⟩ := heads_mem (P := P) (pre := pre) (S := S) (acc := acc) c (i := i) (by rw [hh]; simp) (by assumption)
        subst he
        unfold headOK at hk
        cases ho : ops[e.1]? with
        | none => simp [ho] at hk
        | some oe =>
          simp only [ho, Bool.and_eq_true] at hk
          have h1 : e.1 ∉ S := by have := hk.1.1.1.2; simpa using this
          have h2 := hS1 e.1 h1
          rw [hall e.1 (Array.getElem?_eq_some_iff.1 ho).1] at h2; cases h2
  | succ fuel ih =>
    intro L S acc c a w hL hclo hS1 hS2 hn hsub hf h
    have hn0 := hn
    simp only [nodeOK, Bool.and_eq_true] at hn
    obtain ⟨⟨⟨n1, n2⟩, n3⟩, n4⟩ := hn
    have hent : ∀ x ∈ acc, x ∈ S ∧ ∃ o, ops[x]? = some o ∧ noSel o = true ∧ (∀ j ∈ needs o, j ∈ S ∧ j ≠ x) := by
      intro x hx
      have := List.all_eq_true.1 n1 x hx
      simp only [Bool.and_eq_true, entN] at this
      refine ⟨by simpa using this.1, ?_⟩
      cases ho : ops[x]? with
      | none => simp [ho] at this
      | some o =>
        simp only [ho, Bool.and_eq_true] at this
        obtain ⟨_, ⟨h1, h2⟩, h3⟩ := this
        refine ⟨o, rfl, h1, fun j hj => ⟨by simpa using List.all_eq_true.1 h2 j hj, fun e => ?_⟩⟩
        subst e
        have : (needs o).contains j = true := by simpa using hj
        rw [this] at h3; cases h3
    have hseg := segOK_spec acc n2
    have hsegR : (lft L acc).Pairwise _ := hseg.filter _
    have readyIn : ∀ i, i < ops.size → L.getD i false = false → ∀ o, ops[i]? = some o → (∀ j ∈ needs o, L.getD j false = true) → i ∈ Region.ready .any ops L := by
      intro i hi hLi o ho hall
      refine mem_ready.2 ⟨?_, o, ho, fun e he hb => hall e.on (List.mem_map.2 ⟨e, List.mem_filter.2 ⟨by simpa using he, hb⟩, rfl⟩)⟩
      have : i < L.size := by omega
      simpa [Array.getD, this] using hLi
    refine ⟨fun hr => ?_, fun i hi => ?_⟩
    · have hrem : lft L acc = [] := by
        cases hx : lft L acc with
        | nil => rfl
        | cons x r =>
          exfalso
          have hxm : x ∈ lft L acc := by rw [hx]; simp
          obtain ⟨hxa, hLx⟩ := List.mem_filter.1 hxm
          obtain ⟨hxS, o, ho, _, hne⟩ := hent x hxa
          have : x ∈ Region.ready .any ops L := by
            refine readyIn x (Array.getElem?_eq_some_iff.1 ho).1 (by simpa using hLx) o ho fun j hj => ?_
            obtain ⟨hjS, hjx⟩ := hne j hj
            cases hLj : L.getD j false with
            | true => rfl
            | false =>
              exfalso
              by_cases hja : j ∈ acc
              · have hjm : j ∈ lft L acc := List.mem_filter.2 ⟨hja, by rw [hLj]; rfl⟩
                rw [hx] at hjm hsegR
                rcases List.mem_cons.1 hjm with rfl | hjm
                · exact hjx rfl
                · obtain ⟨_, ok, oi, h1, _, h3, _⟩ := (List.pairwise_cons.1 hsegR).1 j hjm
                  have : ok = o := by rw [ho] at h1; exact (Option.some.inj h1).symm
                  subst this
                  exact h3 hj
              · rw [hS2 j hjS hja] at hLj; cases hLj
          rw [hr] at this; cases this
      rw [hrem] at h
      cases hh : c.heads with
      | nil => exact heads_nil c _ a w hh h
      | cons i r =>
        exfalso
        obtain ⟨e, l, c', he, _, hk, _⟩ := heads_mem (P := P) (pre := pre) (S := S) (acc := acc) c (i := i) (by rw [hh]; simp) hsub
        subst he
        unfold headOK at hk
        cases ho : ops[e.1]? with
        | none => simp [ho] at hk
        | some oe =>
          simp only [ho, Bool.and_eq_true] at hk
          have h1 : e.1 ∉ S := by have := hk.1.1.1.2; simpa using this
          have h2 := hk.1.1.2
          have : e.1 ∈ Region.ready .any ops L := by
            refine readyIn e.1 (Array.getElem?_eq_some_iff.1 ho).1 (hS1 _ h1) oe ho fun j hj => ?_
            have hjS : j ∈ S := by simpa using List.all_eq_true.1 h2 j hj
            by_cases hja : j ∈ acc
            · cases hLj : L.getD j false with
              | true => rfl
              | false =>
                have hjm : j ∈ lft L acc := List.mem_filter.2 ⟨hja, by rw [hLj]; rfl⟩
                rw [hrem] at hjm; cases hjm
            · exact hS2 j hjS hja
          rw [hr] at this; cases this
    · obtain ⟨h0, oi, hoi, hall⟩ := mem_ready.1 hi
      have hlt := (Array.getElem?_eq_some_iff.1 hoi).1
      have hLi : L.getD i false = false := by
        have : i < L.size := by omega
        simpa [Array.getD, this] using h0
      have hneed : ∀ j ∈ needs oi, L.getD j false = true := by
        intro j hj
        obtain ⟨e, he, rfl⟩ := List.mem_map.1 hj
        obtain ⟨he1, he2⟩ := List.mem_filter.1 he
        exact hall e (by simpa using he1) he2
      have hpre : ∀ k ∈ pre.getD i [], L.getD k false = true := by
        intro k hk
        rcases hclo0 i oi hoi k hk with h1 | ⟨j, hj, hk'⟩
        · exact hneed k h1
        · have hLj := hneed j hj
          have hjlt : j < L.size := by
            rcases Nat.lt_or_ge j L.size with h | h
            · exact h
            · rw [Array.getD_eq_getD_getElem?, Array.getElem?_eq_none h] at hLj; cases hLj
          obtain ⟨oj, hoj⟩ : ∃ oj, ops[j]? = some oj := ⟨_, Array.getElem?_eq_getElem (by omega)⟩
          exact hclo j oj hoj hLj k hk'
      have hiL : i < L.size := by omega
      have getS : ∀ j, (L.setIfInBounds i true).getD j false = (L.getD j false || j == i) := by
        intro j
        by_cases hji : j = i
        · subst hji
          simp [Array.getD, hiL]
        · rw [getD_set_ne false (Ne.symm hji)]; simp [hji]
      have hclo' : ∀ j oj, ops[j]? = some oj → (L.setIfInBounds i true).getD j false = true → ∀ k ∈ pre.getD j [], (L.setIfInBounds i true).getD k false = true := by
        intro j oj hoj hLj k hk
        rw [getS] at hLj ⊢
        simp only [Bool.or_eq_true, beq_iff_eq] at hLj ⊢
        rcases hLj with hLj | rfl
        · exact .inl (hclo j oj hoj hLj k hk)
        · exact .inl (hpre k hk)
      have hf' : (lft (L.setIfInBounds i true) (List.range ops.size)).length ≤ fuel := by
        rw [lft_set hiL]
        have hm : i ∈ lft L (List.range ops.size) := List.mem_filter.2 ⟨List.mem_range.2 hlt, by rw [hLi]; rfl⟩
        have := List.length_filter_lt_length_iff_exists (p := (· != i)) (l := lft L (List.range ops.size))
        have := this.2 ⟨i, hm, by simp⟩
        omega
      have hnd : (lft L acc).Nodup := hsegR.imp fun h => h.1
      have unl : ∀ x ∈ lft L acc, L.getD x false = false := fun x hx => by simpa using (List.mem_filter.1 hx).2
      by_cases hiS : i ∈ S
      ·
        have hia : i ∈ acc := by
          refine Classical.byContradiction fun hia => ?_
          rw [hS2 i hiS hia] at hLi; cases hLi
        have him : i ∈ lft L acc := List.mem_filter.2 ⟨hia, by rw [hLi]; rfl⟩
        obtain ⟨p, q, hpq⟩ := List.append_of_mem him
        obtain ⟨_, o', ho', hsi, _⟩ := hent i hia
        have eo : o' = oi := by rw [hoi] at ho'; exact (Option.some.inj ho').symm
        subst eo
        rw [hpq] at h hnd hsegR
        have hP := List.pairwise_append.1 hsegR
        have hb : bare (p ++ i :: q) = bare p ++ (i, []) :: bare q := by simp [bare]
        rw [hb] at h
        have hids : (bare p).map (·.1) = p := bare_ids p
        have hpull := pull (K := wpC P ops c (Q .normal)) hoi hsi (bare q) (bare p) a w
          (by rw [hids]; exact (List.nodup_append.1 hnd).1)
          (fun x hx => by
            obtain ⟨y, hy, rfl⟩ := List.mem_map.1 hx
            obtain ⟨_, ok, oi2, h2, h3, _, h5⟩ := hP.2.2 y hy i (by simp)
            have e2 : oi2 = o' := by rw [hoi] at h3; exact (Option.some.inj h3).symm
            subst e2
            have hya : y ∈ lft L acc := by rw [hpq]; simp [hy]
            obtain ⟨_, o3, ho3, hs3, _⟩ := hent y (List.mem_filter.1 hya).1
            have e3 : o3 = ok := by rw [h2] at ho3; exact (Option.some.inj ho3).symm
            subst e3
            rcases h5 with h5 | ⟨h5, h6⟩
            · exact absurd (hpre y h5) (by rw [unl y hya]; simp)
            · exact ⟨o3, h2, hs3, h5, h6, fun hc => by simp at hc⟩)
          (fun p1 x p2 hp ok hok j hj => by cases hj)
          (fun x hx j hj => by
            obtain ⟨y, hy, rfl⟩ := List.mem_map.1 hx
            cases hj) h
        refine wpOp_of_stepE (c := []) hoi (stepE_mono (by simp) (fun a w hw => ?_) hpull)
        refine ih (L.setIfInBounds i true) S acc c a w (by simp [hL]) hclo' (fun j hj => ?_) (fun j hj hja => ?_) hn0 hsub hf' ?_
        · rw [getS, hS1 j hj]
          have : j ≠ i := fun e => hj (by rw [e]; exact hiS)
          simpa using this
        · rw [getS, hS2 j hj hja]; rfl
        · rw [lft_set hiL, hpq]
          have e1 : (p ++ i :: q).filter (· != i) = p ++ q := by
            have hd := List.nodup_append.1 hnd
            rw [List.filter_append, List.filter_cons_of_neg (by simp)]
            congr 1
            · refine List.filter_eq_self.2 fun x hx => ?_
              have := hd.2.2 x hx i (by simp)
              simpa using this
            · refine List.filter_eq_self.2 fun x hx => ?_
              have := (List.nodup_cons.1 hd.2.1).1
              have : x ≠ i := fun e => this (by rw [← e]; exact hx)
              simpa using this
          rw [e1]
          have : bare (p ++ q) = bare p ++ bare q := by simp [bare]
          rw [this]; exact hw
      ·
        have hhd : i ∈ c.heads := by
          have := List.all_eq_true.1 n3 i (List.mem_range.2 hlt)
          simp only [Bool.or_eq_true, List.contains_iff_mem] at this
          rcases this with (h1 | h1) | h1
          · exact absurd h1 hiS
          · exact h1
          · obtain ⟨k, hk, hkS⟩ := List.any_eq_true.1 h1
            have hkS : k ∉ S := by simpa using hkS
            have := hS1 k hkS
            rw [hpre k hk] at this; cases this
        obtain ⟨e, l, c', he, hl, hhead, hn', hsub', hstep⟩ := heads_mem (P := P) c hhd hsub
        subst he
        unfold headOK at hhead
        simp only [hoi, Bool.and_eq_true] at hhead
        obtain ⟨⟨⟨⟨k1, k2⟩, k3⟩, k4⟩, k5⟩ := hhead
        have h2 : wpI P ops (bare (lft L acc) ++ (e.1, e.2.filter fun j => (lft L acc).contains j) :: bare l) (wpC P ops c' (Q .normal)) a w := by
          rw [wpI_append]
          refine wpI_mono (fun a w hc => ?_) _ a w h
          obtain ⟨o, ho, hs⟩ := hstep _ a w hc
          exact ⟨o, ho, stepE_mono (fun j hj => (List.mem_filter.1 hj).1) (fun _ _ h => h) hs⟩
        have hids : (bare (lft L acc)).map (·.1) = lft L acc := bare_ids _
        have hcs := chkSeq_spec acc k5
        have hpull := pull (K := wpC P ops c' (Q .normal)) hoi k1 (bare l) (bare (lft L acc)) a w
          (by rw [hids]; exact hnd)
          (fun x hx => by
            obtain ⟨y, hy, rfl⟩ := List.mem_map.1 hx
            obtain ⟨hya, _⟩ := List.mem_filter.1 hy
            obtain ⟨_, o3, ho3, hs3, _⟩ := hent y hya
            have h6 := List.all_eq_true.1 k4 y hya
            simp only [Bool.or_eq_true, List.contains_iff_mem, ho3, Bool.and_eq_true] at h6
            rcases h6 with h6 | ⟨⟨h6, h7⟩, h8⟩
            · exact absurd (hpre y h6) (by rw [unl y hy]; simp)
            · refine ⟨o3, ho3, hs3, h6, ?_, fun hc d hd => ?_⟩
              · unfold kindsOK at h7 ⊢
                simp only [Bool.or_eq_true, Bool.and_eq_true] at h7 ⊢
                rcases h7 with h | ⟨h1, h2 | h2⟩
                · exact .inl h
                · exact .inr ⟨h1, .inl h2⟩
                · refine .inr ⟨h1, .inr ?_⟩
                  simp only [List.contains_iff_mem, List.mem_filter] at h2 ⊢
                  exact ⟨h2, by simpa using hy⟩
              · have hc1 : y ∈ e.2 := by
                  have : y ∈ e.2.filter fun j => (lft L acc).contains j := by simpa using hc
                  exact (List.mem_filter.1 this).1
                rcases h8 with h8 | h8
                · have : e.2.contains y = true := by simpa using hc1
                  rw [this] at h8; cases h8
                · simp [hd] at h8; exact h8)
          (fun p1 x p2 hp ok hok j hj hj2 hjx => by
            obtain ⟨hj1, hj3⟩ := List.mem_filter.1 hj
            have hjm : j ∈ lft L acc := by simpa using hj3
            have hjb : (j, ([] : List Nat)) ∈ bare (lft L acc) := List.mem_map.2 ⟨j, hjm, rfl⟩
            have hjp : (j, ([] : List Nat)) ∈ p1 := by
              rw [hp] at hjb
              rcases List.mem_append.1 hjb with hjb | hjb
              · exact hjb
              · rcases List.mem_cons.1 hjb with hjb | hjb
                · exact absurd (congrArg Prod.fst hjb) hjx
                · exact absurd (List.mem_map.2 ⟨_, hjb, rfl⟩) hj2
            have hsubl : List.Sublist [j, x.1] (lft L acc) := by
              have h1 : lft L acc = (p1.map (·.1)) ++ x.1 :: p2.map (·.1) := by
                have := congrArg (List.map (·.1)) hp
                rw [hids] at this
                rw [this, List.map_append, List.map_cons]
              rw [h1]
              have hj4 : j ∈ p1.map (·.1) := List.mem_map.2 ⟨_, hjp, rfl⟩
              have s1 : List.Sublist [j] (p1.map (·.1)) := List.singleton_sublist.2 hj4
              have s2 : List.Sublist [x.1] (x.1 :: p2.map (·.1)) := List.singleton_sublist.2 List.mem_cons_self
              exact s1.append s2
            have hs2 : List.Sublist [j, x.1] acc := hsubl.trans (List.filter_sublist)
            obtain ⟨lo, ok2, g1, g2, g3⟩ := (List.pairwise_cons.1 (hcs.sublist hs2)).1 x.1 (by simp) hj1
            have e2 : ok2 = ok := by rw [hok] at g2; exact (Option.some.inj g2).symm
            subst e2
            obtain ⟨_, o4, ho4, hs4, _⟩ := hent j (List.mem_filter.1 hjm).1
            have e4 : o4 = lo := by rw [g1] at ho4; exact (Option.some.inj ho4).symm
            subst e4
            exact ⟨o4, g1, hs4, g3⟩)
          (fun x hx j hj => by
            obtain ⟨y, hy, rfl⟩ := List.mem_map.1 hx
            cases hj) h2
        refine wpOp_of_stepE (c := []) hoi (stepE_mono (by simp) (fun a w hw => ?_) hpull)
        have hei : e.1 ∉ acc := fun hm => hiS (hent _ hm).1
        refine ih (L.setIfInBounds e.1 true) (e.1 :: (l ++ S)) (acc ++ l) c' a w (by simp [hL]) hclo' (fun j hj => ?_) (fun j hj hja => ?_) hn' hsub' hf' ?_
        · simp only [List.mem_cons, List.mem_append, not_or] at hj
          rw [getS, hS1 j hj.2.2]
          simpa using hj.1
        · simp only [List.mem_cons, List.mem_append, not_or] at hj hja
          rw [getS]
          rcases hj with rfl | hj | hj
          · simp
          · exact absurd hj hja.2
          · rw [hS2 j hj hja.1]; rfl
        · have e1 : lft (L.setIfInBounds e.1 true) (acc ++ l) = lft L acc ++ l := by
            rw [lft_set hiL]
            unfold lft
            rw [List.filter_append, List.filter_append]
            congr 1
            · refine List.filter_eq_self.2 fun x hx => ?_
              have : x ≠ e.1 := fun e => hei (by rw [← e]; exact (List.mem_filter.1 hx).1)
              simpa using this
            · rw [List.filter_filter]
              refine List.filter_eq_self.2 fun x hx => ?_
              obtain ⟨g1, g2⟩ := hl x hx
              simp [g2, hS1 x g1]
          rw [e1]
          have : bare (lft L acc ++ l) = bare (lft L acc) ++ bare l := by simp [bare]
          rw [this]; exact hw
theorem wp_region_Tr {id : Nat} {l : List Nat} {c : Ch} (hm : P.follows .mixedOrders = true) (hok : treeOK ops l c = true)
    (h : wpI P ops (bare l) (wpC P ops c (Q .normal)) a { w with drawn := w.drawn + 1 }) : (Code.region id ops true).wp P Q a w := by
  simp only [treeOK, Bool.and_eq_true] at hok
  obtain ⟨⟨h1, h2⟩, h3⟩ := hok
  have hz : ∀ j, (Array.replicate ops.size false).getD j false = false := by
    intro j
    simp [Array.getD]
  refine wp_region_any hm (wpAny_of_Tr (pre := preOf ops.toList []) ?_ ops.size _ l l c a _ (by simp) ?_ ?_ ?_ h2 h3 ?_ ?_)
  · intro i o ho k hk
    have := List.all_eq_true.1 h1 i (List.mem_range.2 (Array.getElem?_eq_some_iff.1 ho).1)
    simp only [preOK, ho] at this
    have := List.all_eq_true.1 this k hk
    simp only [Bool.or_eq_true, List.contains_iff_mem, List.any_eq_true] at this
    exact this
  · intro i o ho hL
    rw [hz] at hL; cases hL
  · intro i _; exact hz i
  · intro i hi hn; exact absurd hi hn
  · exact Nat.le_trans (List.length_filter_le _ _) (by simp)
  · have e : lft (Array.replicate ops.size false) l = l := List.filter_eq_self.2 fun x _ => by rw [hz]; rfl
    rw [e]; exact h
end
end Go.Sx
namespace Go.Sx
class One (P : Program) (T : TypeId) : Prop where
  row : (match P.underlying T with | some (.struct _) | some (.array _ _) | none => false | _ => true) = true
  size : (P.info? T).map (·.size) = some 1
class Agg (P : Program) (T : TypeId) (k : outParam Nat) : Prop where
  row : (match P.underlying T with | some (.struct _) | some (.array _ _) => true | _ => false) = true
  size : (P.info? T).map (·.size) = some k
class Zero (P : Program) (T : TypeId) (z : outParam (List Value)) : Prop where
  zero : ((P.info? T).bind (·.zero)).map (·.cells) = some z.toArray
class Fld (P : Program) (T : TypeId) (f : Nat) (o : outParam Nat) : Prop where
  fld : (match P.underlying T with
    | some (.struct fs) => (match fs[f]? with | some x => x.offset == o && (match (P.info? x.type).map (·.size) with | some (_ + 1) => true | _ => false) | none => false)
    | _ => false) = true
class Slc (P : Program) (T : TypeId) (E : outParam TypeId) (k bb : outParam Nat) : Prop where
  und : (match P.underlying T with | some (.slice e) => e == E | _ => false) = true
  size : (P.info? E).map (·.size) = some k
  bytes : (P.info? E).map (·.bytes) = some bb
class Arr (P : Program) (T : TypeId) (m k : outParam Nat) : Prop where
  arr : (match P.underlying T with | some (.array len e) => len == m && (P.info? e).map (·.size) == some k | _ => false) = true
class Str (P : Program) (T : TypeId) : Prop where
  str : (match P.underlying T with | some .string => true | _ => false) = true
class Bld (P : Program) (T : TypeId) (z : outParam (List Value)) (pl : outParam (List (Nat × Nat))) : Prop where
  zero : ((P.info? T).bind (·.zero)).map (·.cells) = some z.toArray
  pl : (match P.underlying T with | some (.struct fs) => fs.toList.map (fun f => ((P.info? f.type).map (fun i => (f.offset, i.size)))) == pl.map some | _ => false) = true
class Fun (P : Program) (f : FuncId) : Prop where
  ok : (match P.funcs[f]? with | some fn => fn.name != "runtime.NumGoroutine" && fn.body.isSome | none => false) = true
section
variable {P : Program} (w : World)
theorem One.run {T : TypeId} [h : One P T] (b o : Nat) {v : Value} (hc : w.cell? ⟨b, o, none⟩ = some v) : (Instr.loadAt T (.pointer (some ⟨b, o, none⟩))).run P w = .ok v w := by
  have h1 := h.row
  cases hu : P.underlying T with
  | none => simp [hu] at h1
  | some d =>
    simp only [Instr.loadAt, Instr.sureAddr, loadVar, isAgg, Sem.run_bind, Sem.run_pure, Result.andThen_ok, run_underlying hu]
    cases d <;> simp [hu] at h1 <;> simp [load, Sem.run, hc]
theorem Agg.run {T : TypeId} {k : Nat} [h : Agg P T k] (b o : Nat) {vs : List Value} (hl : vs.length = k) (hc : ∀ j v, vs[j]? = some v → w.cell? ⟨b, o + j, none⟩ = some v) :
    (Instr.loadAt T (.pointer (some ⟨b, o, none⟩))).run P w = .ok (.agg vs.toArray) w := by
  have h1 := h.row
  have h2 := h.size
  have hlc := run_loadCells_list (P := P) w ⟨b, o, none⟩ vs (fun j v hv => by
    have : (⟨b, o, none⟩ : Addr).add j = ⟨b, o + j, none⟩ := by unfold Addr.add; split <;> simp_all
    rw [this]; exact hc j v hv)
  rw [hl] at hlc
  cases hi : P.info? T with
  | none => simp [hi] at h2
  | some i =>
    simp [hi] at h2
    cases hu : P.underlying T with
    | none => simp [hu] at h1
    | some d =>
      have hsz : (sizeOf T).run P w = .ok k w := by simp [sizeOf, typeInfo, hi, h2]
      simp only [Instr.loadAt, Instr.sureAddr, loadVar, isAgg, Sem.run_bind, Sem.run_pure, Result.andThen_ok, run_underlying hu]
      cases d <;> simp [hu] at h1 <;> simp only [Sem.run_pure, Result.andThen_ok, if_true, Sem.run_bind, hsz, hlc]
theorem Fld.run {T : TypeId} {f o : Nat} [h : Fld P T f o] (b off : Nat) : (Instr.fieldAt T (.pointer (some ⟨b, off, none⟩)) f).run P w = .ok (.pointer (some ⟨b, off + o, none⟩)) w := by
  have h1 := h.fld
  cases hu : P.underlying T with
  | none => simp [hu] at h1
  | some d =>
    cases d <;> simp [hu] at h1
    rename_i fs
    cases hf : fs[f]? with
    | none => simp [hf] at h1
    | some x =>
      simp [hf] at h1
      obtain ⟨ho, h2⟩ := h1
      cases hi : P.info? x.type with
      | none => simp [hi] at h2
      | some i =>
        simp [hi] at h2
        have hne : i.size ≠ 0 := by intro e; simp [e] at h2
        simp [Instr.fieldAt, run_underlying hu, hf, Instr.sureAddr, fieldPlace, sizeOf, typeInfo, hi, hne, ho]
        unfold Addr.add
        split <;> simp_all
end
def evL (F : FL) : List Operand → Option (List Value)
  | [] => some []
  | x :: r => match ev F x with
    | some v => match evL F r with
      | some l => some (v :: l)
      | none => none
    | none => none
theorem evL_spec {F : FL} : ∀ {l : List Operand} {vs : List Value}, evL F l = some vs → l.map (ev F) = vs.map some
  | [], vs, h => by simp [evL] at h; subst h; rfl
  | x :: r, vs, h => by
    simp only [evL] at h
    cases hx : ev F x with
    | none => simp [hx] at h
    | some v =>
      cases hr : evL F r with
      | none => simp [hx, hr] at h
      | some l =>
        simp [hx, hr] at h
        subst h
        simp [hx, evL_spec hr]
def evP (F : FL) : List (Nat × Operand) → Option (List (Nat × Value))
  | [] => some []
  | x :: r => match ev F x.2 with
    | some v => match evP F r with
      | some l => some ((x.1, v) :: l)
      | none => none
    | none => none
theorem evP_spec {F : FL} : ∀ {l : List (Nat × Operand)} {vs : List (Nat × Value)}, evP F l = some vs → l.map (fun x => (ev F x.2).map fun v => (x.1, v)) = vs.map some
  | [], vs, h => by simp [evP] at h; subst h; rfl
  | x :: r, vs, h => by
    simp only [evP] at h
    cases hx : ev F x.2 with
    | none => simp [hx] at h
    | some v =>
      cases hr : evP F r with
      | none => simp [hx, hr] at h
      | some l =>
        simp [hx, hr] at h
        subst h
        simp [hx, evP_spec hr]
section
variable {P : Program} {ops : Array Oper} {w0 : World} {Mod : List Nat} {n : Nat} {F G : FL} {M N : ML} {Q : Exit → Act → World → Prop} {K X : Act → World → Prop} {chk : List Nat}
  {ty : TypeId} {pos : String} {aft : Array Edge} {g : Option (Nat × Bool)} {d : Nat}
def nthO : List Oper → Nat → Option Oper
  | [], _ => none
  | o :: _, 0 => some o
  | _ :: r, i + 1 => nthO r i
theorem nthO_eq : ∀ (l : List Oper) (i : Nat), nthO l i = l[i]?
  | [], i => by simp [nthO]
  | v :: r, 0 => by simp [nthO]
  | v :: r, i + 1 => by simp [nthO, nthO_eq r i]
theorem nthO_ops {ops : Array Oper} {i : Nat} {o : Oper} (h : nthO ops.toList i = some o) : ops[i]? = some o := by rw [nthO_eq] at h; simpa using h
theorem SK.nextT {o : Oper} {r : List Oper} (h : SK w0 Mod n (stepE P ops o [] (wpT P ops r K)) F M) : SK w0 Mod n (wpT P ops (o :: r) K) F M := h
theorem SK.doneT (h : SK w0 Mod n K F M) : SK w0 Mod n (wpT P ops [] K) F M := h
theorem SK.nextI {i : Nat} {c : List Nat} {o : Oper} {r : List Ent} (ho : nthO ops.toList i = some o) (h : SK w0 Mod n (stepE P ops o c (wpI P ops r K)) F M) :
    SK w0 Mod n (wpI P ops ((i, c) :: r) K) F M := fun a w hf hm => ⟨o, nthO_ops ho, h a w hf hm⟩
theorem SK.doneI (h : SK w0 Mod n K F M) : SK w0 Mod n (wpI P ops [] K) F M := h
theorem SK.regionT {id : Nat} {l : List Oper} (h : SK w0 Mod n (wpT P l.toArray l (Q .normal)) F M) : SK w0 Mod n ((Code.region id l.toArray false).wp P Q) F M :=
  fun a w hf hm => wp_region_T (h a w hf hm)
theorem SK.regionI {id : Nat} (ord : List Ent) (hm : P.follows .mixedOrders = true) (hok : ordOK ops ord = true) (h : SK w0 Mod n (wpI P ops ord (Q .normal)) F M) :
    SK w0 Mod n ((Code.region id ops true).wp P Q) F M :=
  fun a w hf hw => wp_region_I hm hok (h a _ hf hw.drew)
theorem wanted_none {o : Oper} {tmps : Array Value} (h : o.guard = none) : Region.wanted o (yielded ops tmps) = true := by simp [Region.wanted, h]
theorem SK.guard_on {dst : Option Tmp} {op : Op} {j : Nat} {b : Bool} {t : Nat} (hj0 : (nthO ops.toList j).bind (·.dst) = some t) (hv : lk F t = some (.bool b))
    (h : SK w0 Mod n (stepE P ops ⟨dst, op, ty, pos, aft, none⟩ chk K) F M) : SK w0 Mod n (stepE P ops ⟨dst, op, ty, pos, aft, some (j, b)⟩ chk K) F M := by
  have hj : (ops[j]?).bind (·.dst) = some t := by rw [nthO_eq] at hj0; simpa using hj0
  intro a w hf hm
  have := h a w hf hm
  have hw : Region.wanted ⟨dst, op, ty, pos, aft, some (j, b)⟩ (yielded ops a.tmps) = true := by
    simp [Region.wanted, yielded, hj, hf.at_ t _ hv]
  rw [stepE_cases] at this ⊢
  rw [hw]
  rw [wanted_none rfl] at this
  rcases this with ⟨h1, _⟩ | ⟨_, h1⟩
  · cases h1
  · exact .inr ⟨rfl, h1⟩
theorem SK.guard_off {op : Op} {j : Nat} {b b' : Bool} {t : Nat} (hd : Nat.blt d n = true) (hj0 : (nthO ops.toList j).bind (·.dst) = some t) (hv : lk F t = some (.bool b')) (hne : (b' == b) = false)
    (h : SK w0 Mod n K ((d, undef) :: F) M) : SK w0 Mod n (stepE P ops ⟨some d, op, ty, pos, aft, some (j, b)⟩ chk K) F M := by
  have hj : (ops[j]?).bind (·.dst) = some t := by rw [nthO_eq] at hj0; simpa using hj0
  intro a w hf hm
  have hw : Region.wanted ⟨some d, op, ty, pos, aft, some (j, b)⟩ (yielded ops a.tmps) = false := by
    simp [Region.wanted, yielded, hj, hf.at_ t _ hv]
    intro e; subst e; simp at hne
  exact stepE_cases.2 (.inl ⟨hw, h _ _ (hf.put hd _) hm⟩)
theorem SK.split_bool {t : Nat} {b : Bool} (hv : lk F t = some (.bool b)) (h1 : b = true → SK w0 Mod n X ((t, .bool true) :: F) M) (h2 : b = false → SK w0 Mod n X ((t, .bool false) :: F) M) :
    SK w0 Mod n X F M := by
  intro a w hf hm
  have hn : t < a.tmps.size := (Array.getElem?_eq_some_iff.1 (hf.at_ t _ hv)).1
  have key : ∀ c, b = c → FOK n ((t, .bool c) :: F) a := by
    intro c hc
    refine ⟨hf.defers, hf.size, fun t' v' h => ?_⟩
    simp only [lk] at h
    cases hb : Nat.beq t t' with
    | true =>
      have := Nat.eq_of_beq_eq_true hb
      subst this
      simp at h
      subst h
      rw [hf.at_ t _ hv, hc]
    | false => simp [hb] at h; exact hf.at_ t' v' h
  cases b with
  | true => exact h1 rfl a w (key _ rfl) hm
  | false => exact h2 rfl a w (key _ rfl) hm
theorem SK.pure {op : Op} {v : Value} (hk : opKind op = 0) (hd : Nat.blt d n = true) (hv : ∀ a, FOK n F a → ∀ w', (execOp a.eval ⟨some d, op, ty, pos, aft, none⟩).run P w' = .ok (.value v) w')
    (h : SK w0 Mod n K ((d, v) :: F) M) : SK w0 Mod n (stepE P ops ⟨some d, op, ty, pos, aft, none⟩ chk K) F M :=
  fun a w hf hm => stepE_cases.2 (.inr ⟨wanted_none rfl, .inl ⟨hk, v, hv a hf, h _ _ (hf.put hd v) hm⟩⟩)
theorem SK.move {x : Operand} {v : Value} (hd : Nat.blt d n = true) (hx : ev F x = some v) (h : SK w0 Mod n K ((d, v) :: F) M) :
    SK w0 Mod n (stepE P ops ⟨some d, .move x, ty, pos, aft, none⟩ chk K) F M :=
  SK.pure rfl hd (fun a hf w' => by simp [execOp, hf.ev hx]) h
theorem SK.assign {x : Operand} {v : Value} (hd : Nat.blt d n = true) (hx : ev F x = some v) (h : SK w0 Mod n K ((d, v) :: F) M) :
    SK w0 Mod n (stepE P ops ⟨some d, .assign x, ty, pos, aft, none⟩ chk K) F M :=
  SK.pure rfl hd (fun a hf w' => by simp [execOp, hf.ev hx]) h
theorem SK.pick_true {c x y : Operand} {v : Value} (hd : Nat.blt d n = true) (hc : ev F c = some (.bool true)) (hx : ev F x = some v) (h : SK w0 Mod n K ((d, v) :: F) M) :
    SK w0 Mod n (stepE P ops ⟨some d, .pick c x y, ty, pos, aft, none⟩ chk K) F M :=
  SK.pure rfl hd (fun a hf w' => by simp [execOp, hf.ev hc, hf.ev hx, asBool]) h
theorem SK.pick_false {c x y : Operand} {v : Value} (hd : Nat.blt d n = true) (hc : ev F c = some (.bool false)) (hy : ev F y = some v) (h : SK w0 Mod n K ((d, v) :: F) M) :
    SK w0 Mod n (stepE P ops ⟨some d, .pick c x y, ty, pos, aft, none⟩ chk K) F M :=
  SK.pure rfl hd (fun a hf w' => by simp [execOp, hf.ev hc, hf.ev hy, asBool]) h
theorem SK.nilCheck {x : Operand} {b o : Nat} (hd : Nat.blt d n = true) (hx : ev F x = some (.pointer (some ⟨b, o, none⟩))) (h : SK w0 Mod n K ((d, .pointer (some ⟨b, o, none⟩)) :: F) M) :
    SK w0 Mod n (stepE P ops ⟨some d, .nilCheck x, ty, pos, aft, none⟩ chk K) F M :=
  SK.pure rfl hd (fun a hf w' => by simp [execOp, hf.ev hx]) h
theorem SK.nilCheckF {x : Operand} {f : FuncId} {fs cs : Array Value} (hd : Nat.blt d n = true) (hx : ev F x = some (.func (.func f) fs cs)) (h : SK w0 Mod n K ((d, .func (.func f) fs cs) :: F) M) :
    SK w0 Mod n (stepE P ops ⟨some d, .nilCheck x, ty, pos, aft, none⟩ chk K) F M :=
  SK.pure rfl hd (fun a hf w' => by simp [execOp, hf.ev hx]) h
theorem SK.fieldAddr {T : TypeId} {x : Operand} {f b off o off' : Nat} [Fld P T f o] (hd : Nat.blt d n = true) (hx : ev F x = some (.pointer (some ⟨b, off, none⟩))) (ho : off + o = off')
    (h : SK w0 Mod n K ((d, .pointer (some ⟨b, off', none⟩)) :: F) M) : SK w0 Mod n (stepE P ops ⟨some d, .fieldAddr T x f, ty, pos, aft, none⟩ chk K) F M :=
  SK.pure rfl hd (fun a hf w' => by simp only [execOp, hf.ev hx, Sem.run_bind, Fld.run (P := P) (o := o) w' b off, Result.andThen_ok, Sem.run_pure, ho]) h
theorem SK.indexAddr {T E : TypeId} {x ix : Operand} {b off len cap k bb j : Nat} {q : IntKind} [hT : Slc P T E k bb] (hd : Nat.blt d n = true) (hx : ev F x = some (.slice (some ⟨b, off, none⟩) len cap))
    (hi : ev F ix = some (.int q (j : Int))) (hj : j < len) (h : SK w0 Mod n K ((d, .pointer (some ⟨b, off + j * k, none⟩)) :: F) M) :
    SK w0 Mod n (stepE P ops ⟨some d, .indexAddr T x ix, ty, pos, aft, none⟩ chk K) F M := by
  refine SK.pure rfl hd (fun a hf w' => ?_) h
  have h1 := hT.und
  have h2 := hT.size
  cases hu : P.underlying T with
  | none => simp [hu] at h1
  | some dd =>
    cases dd <;> simp [hu] at h1
    rename_i e
    subst h1
    cases hq : P.info? e with
    | none => simp [hq] at h2
    | some i =>
      simp [hq] at h2
      simp [execOp, hf.ev hx, hf.ev hi, Instr.indexAt, asIntOf, run_underlying hu, sizeOf, typeInfo, hq, h2, hj]
      unfold Addr.add
      split <;> simp_all
theorem SK.indexAddrA {T : TypeId} {x ix : Operand} {b off m k j : Nat} {q : IntKind} [hT : Arr P T m k] (hd : Nat.blt d n = true) (hx : ev F x = some (.pointer (some ⟨b, off, none⟩)))
    (hi : ev F ix = some (.int q (j : Int))) (hj : j < m) (h : SK w0 Mod n K ((d, .pointer (some ⟨b, off + j * k, none⟩)) :: F) M) :
    SK w0 Mod n (stepE P ops ⟨some d, .indexAddr T x ix, ty, pos, aft, none⟩ chk K) F M := by
  refine SK.pure rfl hd (fun a hf w' => ?_) h
  have h1 := hT.arr
  cases hu : P.underlying T with
  | none => simp [hu] at h1
  | some dd =>
    cases dd <;> simp [hu] at h1
    rename_i len e
    obtain ⟨h1, h2⟩ := h1
    subst h1
    cases hq : P.info? e with
    | none => simp [hq] at h2
    | some i =>
      simp [hq] at h2
      simp [execOp, hf.ev hx, hf.ev hi, Instr.indexAt, asIntOf, run_underlying hu, sizeOf, typeInfo, hq, h2, hj, Instr.sureAddr]
      unfold Addr.add
      split <;> simp_all
theorem SK.extract {x : Operand} {vs : Array Value} {i : Nat} {v : Value} (hd : Nat.blt d n = true) (hx : ev F x = some (.tuple vs)) (hi : vs[i]? = some v) (h : SK w0 Mod n K ((d, v) :: F) M) :
    SK w0 Mod n (stepE P ops ⟨some d, .extract x i, ty, pos, aft, none⟩ chk K) F M :=
  SK.pure rfl hd (fun a hf w' => by simp [execOp, hf.ev hx, Instr.extract, hi]) h
theorem SK.not {x : Operand} {T : TypeId} {b : Bool} (hd : Nat.blt d n = true) (hx : ev F x = some (.bool b)) (h : SK w0 Mod n K ((d, .bool (!b)) :: F) M) :
    SK w0 Mod n (stepE P ops ⟨some d, .unOp .not T x, ty, pos, aft, none⟩ chk K) F M :=
  SK.pure rfl hd (fun a hf w' => by simp [execOp, hf.ev hx, Op.unary]) h
theorem SK.bin {op : BinOp} {T U : TypeId} {x y : Operand} {u u' v : Value} (hd : Nat.blt d n = true) (hx : ev F x = some u) (hy : ev F y = some u')
    (hr : ∀ w', (do eqGuard op T x y u u'; binOp op T u u').run P w' = .ok v w') (h : SK w0 Mod n K ((d, v) :: F) M) :
    SK w0 Mod n (stepE P ops ⟨some d, .binOp op T x y U, ty, pos, aft, none⟩ chk K) F M :=
  SK.pure rfl hd (fun a hf w' => by
    have := hr w'
    simp only [execOp, hf.ev hx, hf.ev hy]
    rw [Sem.run_bind, this]
    rfl) h
theorem SK.makeFunc {fn : Fn} {first captured : Array Operand} {fs cs : List Value} (hd : Nat.blt d n = true) (h1 : evL F first.toList = some fs) (h2 : evL F captured.toList = some cs)
    (h : SK w0 Mod n K ((d, .func fn fs.toArray cs.toArray) :: F) M) : SK w0 Mod n (stepE P ops ⟨some d, .makeFunc fn first captured, ty, pos, aft, none⟩ chk K) F M := by
  refine SK.pure rfl hd (fun a hf w' => ?_) h
  have key : ∀ (l : List Operand) (vs : List Value), l.map (ev F) = vs.map some → l.map a.eval = vs := by
    intro l
    induction l with
    | nil => intro vs hv; cases vs with | nil => rfl | cons => simp at hv
    | cons x l ih =>
      intro vs hv
      cases vs with
      | nil => simp at hv
      | cons v vs =>
        simp only [List.map_cons, List.cons.injEq] at hv ⊢
        exact ⟨hf.ev hv.1, ih vs hv.2⟩
  have e1 := key _ _ (evL_spec h1)
  have e2 := key _ _ (evL_spec h2)
  have e1' : first.map a.eval = fs.toArray := Array.ext' (by simpa using e1)
  have e2' : captured.map a.eval = cs.toArray := Array.ext' (by simpa using e2)
  simp [execOp, Instr.makeFunc, e1', e2']
theorem SK.lenS {x : Operand} {T E : TypeId} {k bb : Nat} {A : Option Addr} {len cap : Nat} [hT : Slc P T E k bb] (hd : Nat.blt d n = true) (hx : ev F x = some (.slice A len cap))
    (h : SK w0 Mod n K ((d, .int .i64 (len : Int)) :: F) M) : SK w0 Mod n (stepE P ops ⟨some d, .call ⟨.builtin .len, #[x], #[T]⟩, ty, pos, aft, none⟩ chk K) F M := by
  refine SK.pure rfl hd (fun a hf w' => ?_) h
  have h1 := hT.und
  cases hu : P.underlying T with
  | none => simp [hu] at h1
  | some dd =>
    cases dd <;> simp [hu] at h1
    simp [execOp, resolve, invoke, builtin, Builtin.len_, hf.ev hx, run_underlying hu, goInt]
theorem SK.lenStr {x : Operand} {T : TypeId} {s : ByteArray} [hT : Str P T] (hd : Nat.blt d n = true) (hx : ev F x = some (.string s))
    (h : SK w0 Mod n K ((d, .int .i64 (s.size : Int)) :: F) M) : SK w0 Mod n (stepE P ops ⟨some d, .call ⟨.builtin .len, #[x], #[T]⟩, ty, pos, aft, none⟩ chk K) F M := by
  refine SK.pure rfl hd (fun a hf w' => ?_) h
  have h1 := hT.str
  cases hu : P.underlying T with
  | none => simp [hu] at h1
  | some dd =>
    cases dd <;> simp [hu] at h1
    simp [execOp, resolve, invoke, builtin, Builtin.len_, hf.ev hx, run_underlying hu, goInt]
theorem SK.read {op : Op} {v : Value} (hk : opKind op = 1) (hd : Nat.blt d n = true) (hv : ∀ a w, FOK n F a → Mem w0 Mod M w → (execOp a.eval ⟨some d, op, ty, pos, aft, none⟩).run P w = .ok (.value v) w)
    (h : SK w0 Mod n K ((d, v) :: F) M) : SK w0 Mod n (stepE P ops ⟨some d, op, ty, pos, aft, none⟩ chk K) F M :=
  fun a w hf hm => stepE_cases.2 (.inr ⟨wanted_none rfl, .inr (.inl ⟨hk, v, hv a w hf hm, h _ _ (hf.put hd v) hm⟩)⟩)
def nv : List Value → Nat → Option Value
  | [], _ => none
  | v :: _, 0 => some v
  | _ :: r, i + 1 => nv r i
theorem nv_eq : ∀ (cs : List Value) (i : Nat), nv cs i = cs[i]?
  | [], i => by simp [nv]
  | v :: r, 0 => by simp [nv]
  | v :: r, i + 1 => by simp [nv, nv_eq r i]
def tk : List Value → Nat → Option (List Value)
  | _, 0 => some []
  | [], _ + 1 => none
  | v :: r, k + 1 => match tk r k with | some l => some (v :: l) | none => none
def sl : List Value → Nat → Nat → Option (List Value)
  | cs, 0, k => tk cs k
  | [], _ + 1, k => tk [] k
  | _ :: r, o + 1, k => sl r o k
theorem tk_spec : ∀ (cs : List Value) (k : Nat) (vs : List Value), tk cs k = some vs → vs.length = k ∧ ∀ (j : Nat) (v : Value), vs[j]? = some v → cs[j]? = some v
  | _, 0, vs, h => by simp [tk] at h; subst h; simp
  | [], k + 1, vs, h => by simp [tk] at h
  | u :: r, k + 1, vs, h => by
    simp only [tk] at h
    split at h
    · rename_i l hl
      obtain ⟨h1, h2⟩ := tk_spec r k l hl
      cases h
      refine ⟨by simp [h1], fun j v hv => ?_⟩
      cases j with
      | zero => simpa using hv
      | succ j => simp at hv ⊢; exact h2 j v hv
    · cases h
theorem sl_spec : ∀ (cs : List Value) (o k : Nat) (vs : List Value), sl cs o k = some vs → vs.length = k ∧ ∀ (j : Nat) (v : Value), vs[j]? = some v → cs[o + j]? = some v
  | cs, 0, k, vs, h => by
    have := tk_spec cs k vs (by cases cs <;> exact h)
    simpa using this
  | [], o + 1, k, vs, h => by
    have := tk_spec [] k vs h
    refine ⟨this.1, fun j v hv => ?_⟩
    have := this.2 j v hv
    simp at this
  | u :: r, o + 1, k, vs, h => by
    obtain ⟨h1, h2⟩ := sl_spec r o k vs h
    refine ⟨h1, fun j v hv => ?_⟩
    have := h2 j v hv
    rw [show o + 1 + j = (o + j) + 1 from by omega]
    simpa using this
theorem Mem.cell {M : ML} {w : World} (hm : Mem w0 Mod M w) {b : Nat} {cs : List Value} {T : TypeId} (hb : some (b, cs, T) ∈ M) (o : Nat) : w.cell? ⟨b, o, none⟩ = cs[o]? := by
  rw [cell_of_row w b o cs.toArray T (0, 0) (hm.blk b cs T hb)]; simp
theorem SK.load1 {T T' : TypeId} {x : Operand} {b o : Nat} {cs : List Value} {v : Value} [One P T] (hd : Nat.blt d n = true) (hx : ev F x = some (.pointer (some ⟨b, o, none⟩)))
    (hb : some (b, cs, T') ∈ M) (hv : nv cs o = some v) (h : SK w0 Mod n K ((d, v) :: F) M) : SK w0 Mod n (stepE P ops ⟨some d, .load T x, ty, pos, aft, none⟩ chk K) F M :=
  SK.read rfl hd (fun a w hf hm => by
    have := One.run (P := P) (T := T) w b o (v := v) (by rw [hm.cell hb, ← nv_eq]; exact hv)
    simp only [execOp, hf.ev hx, Sem.run_bind, this, Result.andThen_ok, Sem.run_pure]) h
theorem SK.loadA {T T' : TypeId} {x : Operand} {b o k : Nat} {cs vs : List Value} [hT : Agg P T k] (hd : Nat.blt d n = true) (hx : ev F x = some (.pointer (some ⟨b, o, none⟩)))
    (hb : some (b, cs, T') ∈ M) (hv : sl cs o k = some vs) (h : SK w0 Mod n K ((d, .agg vs.toArray) :: F) M) : SK w0 Mod n (stepE P ops ⟨some d, .load T x, ty, pos, aft, none⟩ chk K) F M :=
  SK.read rfl hd (fun a w hf hm => by
    obtain ⟨h1, h2⟩ := sl_spec cs o k vs hv
    have := Agg.run (P := P) (T := T) (k := k) w b o h1 (fun j v hj => by rw [hm.cell hb]; exact h2 j v hj)
    simp only [execOp, hf.ev hx, Sem.run_bind, this, Result.andThen_ok, Sem.run_pure]) h
def Vw (w0 : World) (Mod : List Nat) (b o : Nat) (v : Value) : Prop := b < w0.heap.size ∧ b ∉ Mod ∧ w0.cell? ⟨b, o, none⟩ = some v
theorem Mem.view {M : ML} {w : World} (hm : Mem w0 Mod M w) {b o : Nat} {v : Value} (h : Vw w0 Mod b o v) : w.cell? ⟨b, o, none⟩ = some v := by
  obtain ⟨h1, h2, h3⟩ := h
  rw [← h3]
  exact World.cell?_of_block (hm.old b h1 h2)
theorem SK.load1R {T : TypeId} {x : Operand} {b o : Nat} {v : Value} [One P T] (hd : Nat.blt d n = true) (hx : ev F x = some (.pointer (some ⟨b, o, none⟩)))
    (hv : Vw w0 Mod b o v) (h : SK w0 Mod n K ((d, v) :: F) M) : SK w0 Mod n (stepE P ops ⟨some d, .load T x, ty, pos, aft, none⟩ chk K) F M :=
  SK.read rfl hd (fun a w hf hm => by
    have := One.run (P := P) (T := T) w b o (v := v) (hm.view hv)
    simp only [execOp, hf.ev hx, Sem.run_bind, this, Result.andThen_ok, Sem.run_pure]) h
theorem SK.loadAR {T : TypeId} {x : Operand} {b o k : Nat} {vs : List Value} [hT : Agg P T k] (hd : Nat.blt d n = true) (hx : ev F x = some (.pointer (some ⟨b, o, none⟩)))
    (hv : ∀ (j : Nat) (v : Value), vs[j]? = some v → Vw w0 Mod b (o + j) v) (hl : vs.length = k) (h : SK w0 Mod n K ((d, .agg vs.toArray) :: F) M) : SK w0 Mod n (stepE P ops ⟨some d, .load T x, ty, pos, aft, none⟩ chk K) F M :=
  SK.read rfl hd (fun a w hf hm => by
    have := Agg.run (P := P) (T := T) (k := k) w b o hl (fun j v hj => hm.view (hv j v hj))
    simp only [execOp, hf.ev hx, Sem.run_bind, this, Result.andThen_ok, Sem.run_pure]) h
end
end Go.Sx
namespace Go.Sx
inductive Upd (e e' : Option (Nat × List Value × TypeId)) : ML → ML → Prop
  | head (M : ML) : Upd e e' (e :: M) (e' :: M)
  | tail (x : Option (Nat × List Value × TypeId)) {M N : ML} (h : Upd e e' M N) : Upd e e' (x :: M) (x :: N)
theorem Upd.mem {e e' : Option (Nat × List Value × TypeId)} {M N : ML} (h : Upd e e' M N) : e ∈ M := by
  induction h with
  | head => simp
  | tail x _ ih => exact List.mem_cons_of_mem _ ih
theorem Upd.split {e e' : Option (Nat × List Value × TypeId)} {M N : ML} (h : Upd e e' M N) : ∃ A B, M = A ++ e :: B ∧ N = A ++ e' :: B := by
  induction h with
  | head M => exact ⟨[], M, rfl, rfl⟩
  | tail x _ ih =>
    obtain ⟨A, B, rfl, rfl⟩ := ih
    exact ⟨x :: A, B, rfl, rfl⟩
theorem keys_append (A B : ML) : keys (A ++ B) = keys A ++ keys B := List.filterMap_append
theorem keys_some (b : Nat) (cs : List Value) (T : TypeId) (M : ML) : keys (some (b, cs, T) :: M) = b :: keys M := rfl
theorem keys_none (M : ML) : keys (none :: M) = keys M := rfl
section
variable {w0 : World} {Mod : List Nat} {M N : ML} {w w' : World}
theorem Mem.new (hm : Mem w0 Mod M w) (cs : List Value) (T : TypeId) (dr : Nat) :
    Mem w0 Mod (some (w.heap.size, cs, T) :: M) { w with heap := w.heap.push (.cells cs.toArray T (0, 0)), drawn := dr } := by
  have hold : ∀ b, b < w.heap.size → (w.heap.push (.cells cs.toArray T (0, 0)))[b]? = w.heap[b]? := fun b hb => by rw [Array.getElem?_push, if_neg (by omega)]
  refine ⟨?_, ?_, ?_, ?_, ?_, hm.os, hm.tape, hm.output⟩
  · rw [keys_some]
    exact List.nodup_cons.2 ⟨fun h => absurd (hm.lt _ h) (Nat.lt_irrefl _), hm.nodup⟩
  · intro b cs' T' hb
    rcases List.mem_cons.1 hb with hb | hb
    · cases hb
      simp
    · have hlt := hm.lt b (mem_keys.2 ⟨cs', T', hb⟩)
      rw [hold b hlt]
      exact hm.blk b cs' T' hb
  · have := hm.size
    simp; omega
  · intro b hb hM
    rw [hold b (Nat.lt_of_lt_of_le hb hm.size)]
    exact hm.old b hb hM
  · intro b hb
    rw [keys_some] at hb
    rcases List.mem_cons.1 hb with rfl | hb
    · exact .inr hm.size
    · exact hm.fresh b hb
theorem Mem.set {b : Nat} {cs cs' : List Value} {T : TypeId} (hm : Mem w0 Mod M w) (hu : Upd (some (b, cs, T)) (some (b, cs', T)) M N) (hlen : cs'.length = cs.length) :
    Mem w0 Mod N (w.setRow b cs'.toArray) := by
  have _ := hlen
  obtain ⟨A, B, rfl, rfl⟩ := hu.split
  have hb := hm.blk b cs T (by simp)
  have hnd := hm.nodup
  have ek : keys (A ++ some (b, cs', T) :: B) = keys (A ++ some (b, cs, T) :: B) := by simp [keys_append, keys_some]
  have hbA : b ∉ keys A ∧ b ∉ keys B := by
    rw [keys_append, keys_some] at hnd
    obtain ⟨_, h2, h3⟩ := List.nodup_append.1 hnd
    exact ⟨fun h => h3 b h b (by simp) rfl, (List.nodup_cons.1 h2).1⟩
  refine ⟨by rw [ek]; exact hnd, ?_, by simpa using hm.size, ?_, by rw [ek]; exact hm.fresh, hm.os, hm.tape, hm.output⟩
  · intro b' cs2 T2 h
    rcases List.mem_append.1 h with h | h
    · have hne : b' ≠ b := fun e => hbA.1 (e ▸ mem_keys.2 ⟨cs2, T2, h⟩)
      rw [setRow_other w b b' _ hne]
      exact hm.blk b' cs2 T2 (by simp [h])
    · rcases List.mem_cons.1 h with h | h
      · cases h
        exact setRow_heap w b _ _ T (0, 0) hb
      · have hne : b' ≠ b := fun e => hbA.2 (e ▸ mem_keys.2 ⟨cs2, T2, h⟩)
        rw [setRow_other w b b' _ hne]
        exact hm.blk b' cs2 T2 (by simp [h])
  · intro b' hb' hM
    have hne : b' ≠ b := by
      intro e
      subst e
      rcases hm.fresh b' (mem_keys.2 ⟨cs, T, by simp⟩) with h | h
      · exact hM h
      · omega
    rw [setRow_other w b b' _ hne]
    exact hm.old b' hb' hM
theorem Mem.drop {e : Option (Nat × List Value × TypeId)} (hm : Mem w0 Mod M w) (hu : Upd e none M N) : Mem w0 Mod N w := by
  obtain ⟨A, B, rfl, rfl⟩ := hu.split
  have h1 : Mem w0 Mod (A ++ B) w := hm.part (List.Sublist.append (List.Sublist.refl A) (List.sublist_cons_self _ _))
  refine ⟨by simpa [keys_append, keys_none] using h1.nodup, fun b cs T h => ?_, h1.size, h1.old, fun b hb => h1.fresh b (by simpa [keys_append, keys_none] using hb), h1.os, h1.tape, h1.output⟩
  rcases List.mem_append.1 h with h | h
  · exact h1.blk b cs T (by simp [h])
  · rcases List.mem_cons.1 h with h | h
    · cases h
    · exact h1.blk b cs T (by simp [h])
theorem Mem.renew {e : Option (Nat × List Value × TypeId)} (hm : Mem w0 Mod M w) (cs : List Value) (T : TypeId) (dr : Nat) (hu : Upd e (some (w.heap.size, cs, T)) M N) :
    Mem w0 Mod N { w with heap := w.heap.push (.cells cs.toArray T (0, 0)), drawn := dr } := by
  obtain ⟨A, B, rfl, rfl⟩ := hu.split
  have h1 : Mem w0 Mod (A ++ B) w := hm.part (List.Sublist.append (List.Sublist.refl A) (List.sublist_cons_self _ _))
  have h2 := h1.new cs T dr
  exact h2.perm (by
    have : (some (w.heap.size, cs, T) :: (A ++ B)).Perm (A ++ some (w.heap.size, cs, T) :: B) := (List.perm_middle).symm
    exact this)
theorem Mem.self (hm : Mem w0 Mod M w) : Mem w (keys M) M w :=
  ⟨hm.nodup, hm.blk, Nat.le_refl _, fun _ _ _ => rfl, fun _ h => .inl h, rfl, rfl, rfl⟩
theorem Mem.vw {Mf Rest : ML} (hm : Mem w0 Mod (Mf ++ Rest) w) {b o : Nat} {v : Value} (h : Vw w0 Mod b o v) : Vw w (keys Mf) b o v := by
  obtain ⟨h1, h2, _⟩ := id h
  refine ⟨Nat.lt_of_lt_of_le h1 hm.size, fun hb => ?_, hm.view h⟩
  rcases hm.fresh b (by rw [keys_append]; exact List.mem_append_left _ hb) with h3 | h3
  · exact h2 h3
  · omega
theorem Mem.vwRest {Mf Rest : ML} (hm : Mem w0 Mod (Mf ++ Rest) w) {b o : Nat} {cs : List Value} {T : TypeId} {v : Value} (hb : some (b, cs, T) ∈ Rest) (hv : nv cs o = some v) : Vw w (keys Mf) b o v := by
  have hk : b ∈ keys Rest := mem_keys.2 ⟨cs, T, hb⟩
  have hnd := hm.nodup
  rw [keys_append] at hnd
  refine ⟨hm.lt b (by rw [keys_append]; exact List.mem_append_right _ hk), fun h => (List.nodup_append.1 hnd).2.2 b h b hk rfl, ?_⟩
  rw [hm.cell (List.mem_append_right _ hb), ← nv_eq]; exact hv
theorem Mem.called {Mf Rest M1 : ML} (hm : Mem w0 Mod (Mf ++ Rest) w) (hc : Mem w (keys Mf) M1 w') : Mem w0 Mod (M1 ++ Rest) w' := by
  have hnd := hm.nodup
  rw [keys_append] at hnd
  obtain ⟨n1, n2, n3⟩ := List.nodup_append.1 hnd
  have hlt := hm.lt
  refine ⟨?_, ?_, Nat.le_trans hm.size hc.size, ?_, ?_, hc.os.trans hm.os, hc.tape.trans hm.tape, hc.output.trans hm.output⟩
  · rw [keys_append]
    refine List.nodup_append.2 ⟨hc.nodup, n2, fun x hx y hy hxy => ?_⟩
    subst hxy
    rcases hc.fresh x hx with h | h
    · exact n3 x h x hy rfl
    · have := hlt x (by rw [keys_append]; exact List.mem_append_right _ hy); omega
  · intro b cs T h
    rcases List.mem_append.1 h with h | h
    · exact hc.blk b cs T h
    · have hk : b ∈ keys Rest := mem_keys.2 ⟨cs, T, h⟩
      rw [hc.old b (hlt b (by rw [keys_append]; exact List.mem_append_right _ hk)) (fun h' => n3 b h' b hk rfl)]
      exact hm.blk b cs T (List.mem_append_right _ h)
  · intro b hb hM
    rw [hc.old b (Nat.lt_of_lt_of_le hb hm.size) (fun h => by
      rcases hm.fresh b (by rw [keys_append]; exact List.mem_append_left _ h) with h | h
      · exact hM h
      · omega)]
    exact hm.old b hb hM
  · intro b hb
    rw [keys_append] at hb
    rcases List.mem_append.1 hb with hb | hb
    · rcases hc.fresh b hb with h | h
      · exact hm.fresh b (by rw [keys_append]; exact List.mem_append_left _ h)
      · exact .inr (Nat.le_trans hm.size h)
    · exact hm.fresh b (by rw [keys_append]; exact List.mem_append_right _ hb)
end
inductive Pick (e : Option (Nat × List Value × TypeId)) : ML → ML → Prop
  | head (M : ML) : Pick e (e :: M) M
  | tail (x : Option (Nat × List Value × TypeId)) {M N : ML} (h : Pick e M N) : Pick e (x :: M) (x :: N)
theorem Pick.perm {e : Option (Nat × List Value × TypeId)} {M N : ML} (h : Pick e M N) : M.Perm (e :: N) := by
  induction h with
  | head M => exact List.Perm.refl _
  | tail x _ ih => exact (ih.cons x).trans (List.Perm.swap _ _ _)
inductive Wk : ML → ML → Prop
  | nil (M : ML) : Wk M []
  | none {M N : ML} (h : Wk M N) : Wk M (Option.none :: N)
  | pick {e : Option (Nat × List Value × TypeId)} {M M' N : ML} (h : Pick e M M') (r : Wk M' N) : Wk M (e :: N)
theorem keys_filter (M : ML) : keys (M.filter (·.isSome)) = keys M := by
  induction M with
  | nil => rfl
  | cons e M ih =>
    cases e with
    | none => simpa [keys_none] using ih
    | some x => obtain ⟨b, cs, T⟩ := x; simp [keys_some, ih]
theorem Mem.filter {w0 : World} {Mod : List Nat} {M : ML} {w : World} : Mem w0 Mod M w ↔ Mem w0 Mod (M.filter (·.isSome)) w := by
  constructor
  · exact fun h => h.part List.filter_sublist
  · intro h
    have hk := keys_filter M
    refine ⟨by rw [← hk]; exact h.nodup, fun b cs T hb => h.blk b cs T (List.mem_filter.2 ⟨hb, rfl⟩), h.size, h.old, by rw [← hk]; exact h.fresh, h.os, h.tape, h.output⟩
theorem Wk.perm {M N : ML} (h : Wk M N) : ∃ R : ML, (M.filter (·.isSome)).Perm (N.filter (·.isSome) ++ R) := by
  induction h with
  | nil M => exact ⟨_, List.Perm.refl _⟩
  | none _ ih => obtain ⟨R, hR⟩ := ih; exact ⟨R, by simpa using hR⟩
  | @pick e M M' N hp _ ih =>
    obtain ⟨R, hR⟩ := ih
    refine ⟨R, ((hp.perm.filter _).trans ?_)⟩
    cases e with
    | none => simpa using hR
    | some x => simpa using hR
theorem Mem.wk {w0 : World} {Mod : List Nat} {M N : ML} {w : World} (hm : Mem w0 Mod M w) (h : Wk M N) : Mem w0 Mod N w := by
  obtain ⟨R, hR⟩ := h.perm
  exact Mem.filter.2 (((Mem.filter.1 hm).perm hR).part (List.sublist_append_left _ _))
def ov : List Value → List Value → Option (List Value)
  | cs, [] => some cs
  | [], _ :: _ => none
  | _ :: r, v :: vs => match ov r vs with | some l => some (v :: l) | none => none
def st : List Value → Nat → List Value → Option (List Value)
  | cs, 0, vs => ov cs vs
  | [], _ + 1, vs => ov [] vs
  | c :: r, o + 1, vs => match st r o vs with | some l => some (c :: l) | none => none
theorem ov_spec : ∀ (cs vs cs' : List Value), ov cs vs = some cs' → vs.length ≤ cs.length ∧ cs' = vs ++ cs.drop vs.length
  | cs, [], cs', h => by simp [ov] at h; subst h; simp
  | [], _ :: _, cs', h => by simp [ov] at h
  | c :: r, v :: vs, cs', h => by
    simp only [ov] at h
    split at h
    · rename_i l hl
      obtain ⟨h1, h2⟩ := ov_spec r vs l hl
      cases h
      exact ⟨by simpa using h1, by simp [h2]⟩
    · cases h
theorem st_spec : ∀ (cs : List Value) (o : Nat) (vs cs' : List Value), vs ≠ [] → st cs o vs = some cs' → o + vs.length ≤ cs.length ∧ cs' = cs.take o ++ vs ++ cs.drop (o + vs.length)
  | cs, 0, vs, cs', _, h => by
    have := ov_spec cs vs cs' (by cases cs <;> exact h)
    simpa using this
  | [], o + 1, vs, cs', hne, h => by
    cases vs with
    | nil => exact absurd rfl hne
    | cons v vs => simp [st, ov] at h
  | c :: r, o + 1, vs, cs', hne, h => by
    simp only [st] at h
    split at h
    · rename_i l hl
      obtain ⟨h1, h2⟩ := st_spec r o vs l hne hl
      cases h
      refine ⟨by simp; omega, ?_⟩
      rw [h2, show o + 1 + vs.length = (o + vs.length) + 1 from by omega]
      simp
    · cases h
theorem st_len {cs : List Value} {o : Nat} {vs cs' : List Value} (hne : vs ≠ []) (h : st cs o vs = some cs') : cs'.length = cs.length := by
  obtain ⟨h1, rfl⟩ := st_spec cs o vs cs' hne h
  simp; omega
def plain (vs : List Value) : Bool := vs.all (·.oneCell')
theorem plain_nil : plain [] = true := rfl
theorem plain_cons {v : Value} {vs : List Value} (h : v.oneCell' = true) (r : plain vs = true) : plain (v :: vs) = true := by simp only [plain, List.all_cons, Bool.and_eq_true]; exact ⟨h, r⟩
section
variable {P : Program} {ops : Array Oper} {w0 : World} {Mod : List Nat} {n : Nat} {F G : FL} {M N : ML} {Q : Exit → Act → World → Prop} {K X : Act → World → Prop} {chk : List Nat}
  {ty : TypeId} {pos : String} {aft : Array Edge} {d : Nat}
theorem SK.chk_nil (h : SK w0 Mod n K F M) : SK w0 Mod n (chkE P ops [] K) F M := fun a w hf hm => ⟨by simp, h a w hf hm⟩
theorem SK.chk1 {j dj : Nat} {T T' : TypeId} {x : Operand} {b o : Nat} {cs : List Value} {v : Value} {g : Option (Nat × Bool)} (ho0 : nthO ops.toList j = some ⟨some dj, .load T x, ty, pos, aft, g⟩) (hT : One P T)
    (hx : ev F x = some (.pointer (some ⟨b, o, none⟩))) (hb : some (b, cs, T') ∈ M) (hv : nv cs o = some v) (hd : lk F dj = some v) (h : SK w0 Mod n (chkE P ops chk K) F M) :
    SK w0 Mod n (chkE P ops (j :: chk) K) F M := by
  have ho := nthO_ops ho0
  intro a w hf hm
  obtain ⟨h1, h2⟩ := h a w hf hm
  refine ⟨fun i hi => ?_, h2⟩
  rcases List.mem_cons.1 hi with rfl | hi
  · intro o' ho' _
    have : o' = ⟨some dj, .load T x, ty, pos, aft, g⟩ := by rw [ho] at ho'; exact (Option.some.inj ho').symm
    subst this
    refine ⟨dj, v, rfl, hf.at_ dj v hd, ?_⟩
    have := One.run (P := P) (T := T) w b o (v := v) (by rw [hm.cell hb, ← nv_eq]; exact hv)
    simp only [execOp, hf.ev hx, Sem.run_bind, this, Result.andThen_ok, Sem.run_pure]
  · exact h1 i hi
theorem SK.chkA {j dj : Nat} {T T' : TypeId} {x : Operand} {b o k : Nat} {cs vs : List Value} {g : Option (Nat × Bool)} (ho0 : nthO ops.toList j = some ⟨some dj, .load T x, ty, pos, aft, g⟩) (hT : Agg P T k)
    (hx : ev F x = some (.pointer (some ⟨b, o, none⟩))) (hb : some (b, cs, T') ∈ M) (hv : sl cs o k = some vs) (hd : lk F dj = some (.agg vs.toArray)) (h : SK w0 Mod n (chkE P ops chk K) F M) :
    SK w0 Mod n (chkE P ops (j :: chk) K) F M := by
  have ho := nthO_ops ho0
  intro a w hf hm
  obtain ⟨h1, h2⟩ := h a w hf hm
  refine ⟨fun i hi => ?_, h2⟩
  rcases List.mem_cons.1 hi with rfl | hi
  · intro o' ho' _
    have : o' = ⟨some dj, .load T x, ty, pos, aft, g⟩ := by rw [ho] at ho'; exact (Option.some.inj ho').symm
    subst this
    refine ⟨dj, _, rfl, hf.at_ dj _ hd, ?_⟩
    obtain ⟨h1, h2⟩ := sl_spec cs o k vs hv
    have := Agg.run (P := P) (T := T) (k := k) w b o h1 (fun j v hj => by rw [hm.cell hb]; exact h2 j v hj)
    simp only [execOp, hf.ev hx, Sem.run_bind, this, Result.andThen_ok, Sem.run_pure]
  · exact h1 i hi
theorem SK.chkR {j dj : Nat} {T : TypeId} {x : Operand} {b o : Nat} {v : Value} {g : Option (Nat × Bool)} (ho0 : nthO ops.toList j = some ⟨some dj, .load T x, ty, pos, aft, g⟩) (hT : One P T)
    (hx : ev F x = some (.pointer (some ⟨b, o, none⟩))) (hv : Vw w0 Mod b o v) (hd : lk F dj = some v) (h : SK w0 Mod n (chkE P ops chk K) F M) :
    SK w0 Mod n (chkE P ops (j :: chk) K) F M := by
  have ho := nthO_ops ho0
  intro a w hf hm
  obtain ⟨h1, h2⟩ := h a w hf hm
  refine ⟨fun i hi => ?_, h2⟩
  rcases List.mem_cons.1 hi with rfl | hi
  · intro o' ho' _
    have : o' = ⟨some dj, .load T x, ty, pos, aft, g⟩ := by rw [ho] at ho'; exact (Option.some.inj ho').symm
    subst this
    refine ⟨dj, v, rfl, hf.at_ dj v hd, ?_⟩
    have := One.run (P := P) (T := T) w b o (v := v) (hm.view hv)
    simp only [execOp, hf.ev hx, Sem.run_bind, this, Result.andThen_ok, Sem.run_pure]
  · exact h1 i hi
theorem SK.eff {op : Op} {dst : Option Tmp} (hk : Nat.ble 2 (opKind op) = true)
    (hv : ∀ a w, FOK n F a → Mem w0 Mod M w → eff P ⟨dst, op, ty, pos, aft, none⟩ a (chkE P ops chk K) ((execOp a.eval ⟨dst, op, ty, pos, aft, none⟩).run P w)) :
    SK w0 Mod n (stepE P ops ⟨dst, op, ty, pos, aft, none⟩ chk K) F M :=
  fun a w hf hm => stepE_cases.2 (.inr ⟨wanted_none rfl, .inr (.inr ⟨Nat.le_of_ble_eq_true hk, hv a w hf hm⟩)⟩)
theorem run_storeVar {T : TypeId} {k : Nat} (hs : (P.info? T).map (·.size) = some k) {w : World} {b o : Nat} {cs cs' vs : List Value} {T' : TypeId} {v : Value} (hb : w.heap[b]? = some (.cells cs.toArray T' (0, 0)))
    (hvs : v.cells = vs.toArray) (hk : vs.length = k) (hk0 : vs ≠ []) (hp : plain vs = true) (hst : st cs o vs = some cs') :
    (Instr.storeAt T (.pointer (some ⟨b, o, none⟩)) v).run P w = .ok () (w.setRow b cs'.toArray) := by
  obtain ⟨h1, h2⟩ := st_spec cs o vs cs' hk0 hst
  have := run_storeCells_at P b o T' vs 0 cs.toArray w hb (by simpa using h1) (fun v hv => List.all_eq_true.1 hp v hv)
  cases hi : P.info? T with
  | none => simp [hi] at hs
  | some i =>
    simp [hi] at hs
    have hsz : (sizeOf T).run P w = .ok k w := by simp [sizeOf, typeInfo, hi, hs]
    have e : ¬ (v.cells.size ≠ k) := by rw [hvs]; simp [hk]
    have el : v.cells.toList = vs := by rw [hvs]
    simp only [Instr.storeAt, Instr.sureAddr, storeVar, Sem.run_bind, Sem.run_pure, Result.andThen_ok, hsz, e, if_false, el]
    simp only [Nat.add_zero] at this
    simpa [h2, storeCells] using this
theorem SK.store1 {T T' : TypeId} {x y : Operand} {b o : Nat} {cs cs' : List Value} {v : Value} [hT : One P T] (hx : ev F x = some (.pointer (some ⟨b, o, none⟩))) (hy : ev F y = some v)
    (hp : v.oneCell' = true) (hu : Upd (some (b, cs, T')) (some (b, cs', T')) M N) (hst : st cs o [v] = some cs') (h : SK w0 Mod n (chkE P ops chk K) F N) :
    SK w0 Mod n (stepE P ops ⟨none, .store T x y, ty, pos, aft, none⟩ chk K) F M :=
  SK.eff rfl fun a w hf hm => by
    have := run_storeVar (P := P) hT.size (hm.blk b cs T' hu.mem) (v := v) (vs := [v]) (by cases v <;> first | rfl | cases hp) rfl (by simp) (by simp [plain, hp]) hst
    simp only [execOp, hf.ev hx, hf.ev hy, Sem.run_bind, this, Result.andThen_ok, Sem.run_pure, Sx.eff]
    exact h _ _ hf (hm.set hu (st_len (by simp) hst))
theorem SK.storeA {T T' : TypeId} {x y : Operand} {b o k : Nat} {cs cs' vs : List Value} [hT : Agg P T k] (hx : ev F x = some (.pointer (some ⟨b, o, none⟩))) (hy : ev F y = some (.agg vs.toArray))
    (hk : vs.length = k) (hk0 : vs ≠ []) (hp : plain vs = true) (hu : Upd (some (b, cs, T')) (some (b, cs', T')) M N) (hst : st cs o vs = some cs') (h : SK w0 Mod n (chkE P ops chk K) F N) :
    SK w0 Mod n (stepE P ops ⟨none, .store T x y, ty, pos, aft, none⟩ chk K) F M :=
  SK.eff rfl fun a w hf hm => by
    have := run_storeVar (P := P) hT.size (hm.blk b cs T' hu.mem) (v := .agg vs.toArray) (vs := vs) rfl hk hk0 hp hst
    simp only [execOp, hf.ev hx, hf.ev hy, Sem.run_bind, this, Result.andThen_ok, Sem.run_pure, Sx.eff]
    exact h _ _ hf (hm.set hu (st_len hk0 hst))
theorem SK.alloc {T : TypeId} {z : List Value} [hT : Zero P T z] (hd : Nat.blt d n = true) (h : ∀ b, SK w0 Mod n (chkE P ops chk K) ((d, .pointer (some ⟨b, 0, none⟩)) :: F) (some (b, z, T) :: M)) :
    SK w0 Mod n (stepE P ops ⟨some d, .alloc T, ty, pos, aft, none⟩ chk K) F M :=
  SK.eff rfl fun a w hf hm => by
    have h1 := hT.zero
    cases hi : P.info? T with
    | none => simp [hi] at h1
    | some i =>
      cases hz : i.zero with
      | none => simp [hi, hz] at h1
      | some v =>
        simp [hi, hz] at h1
        have hzr : (zeroValue T).run P w = .ok v w := by simp [zeroValue, typeInfo, hi, hz]
        have : (Instr.alloc T true (.tuple #[])).run P w = .ok (.pointer (some ⟨w.heap.size, 0, none⟩)) { w with heap := w.heap.push (.cells z.toArray T (0, 0)) } := by
          simp only [Instr.alloc, Sem.run_bind, hzr, Result.andThen_ok]
          simp [newVar, newRow, newObj, Sem.run, h1]
        simp only [execOp, Sem.run_bind, this, Result.andThen_ok, Sem.run_pure, Sx.eff]
        exact h w.heap.size _ _ (hf.put hd _) (hm.new z T w.drawn)
theorem SK.box {T : TypeId} {x : Operand} {v : Value} (hd : Nat.blt d n = true) (hx : ev F x = some v)
    (h : ∀ b, SK w0 Mod n (chkE P ops chk K) ((d, .pointer (some ⟨b, 0, none⟩)) :: F) (some (b, v.cells.toList, T) :: M)) :
    SK w0 Mod n (stepE P ops ⟨some d, .box T x, ty, pos, aft, none⟩ chk K) F M :=
  SK.eff rfl fun a w hf hm => by
    have : (Instr.box T v).run P w = .ok (.pointer (some ⟨w.heap.size, 0, none⟩)) { w with heap := w.heap.push (.cells v.cells.toList.toArray T (0, 0)) } := by
      simp [Instr.box, newVar, newRow, newObj, Sem.run]
    simp only [execOp, hf.ev hx, Sem.run_bind, this, Result.andThen_ok, Sem.run_pure, Sx.eff]
    exact h w.heap.size _ _ (hf.put hd _) (hm.new _ T w.drawn)
def setAll : List Value → Nat → List Value → List Value
  | cs, _, [] => cs
  | cs, o, v :: r => setAll (cs.set o v) (o + 1) r
theorem setAll_len : ∀ (vs cs : List Value) (o : Nat), (setAll cs o vs).length = cs.length
  | [], cs, o => rfl
  | v :: r, cs, o => by simp [setAll, setAll_len r]
theorem foldl_set : ∀ (vs : List Value) (s : Nat) (o : Nat) (cs : List Value),
    (vs.zipIdx s).foldl (fun (cs : Array Value) (x : Value × Nat) => cs.setIfInBounds (o + x.2) x.1) cs.toArray = (setAll cs (o + s) vs).toArray
  | [], s, o, cs => rfl
  | v :: r, s, o, cs => by
    simp only [List.zipIdx_cons, List.foldl_cons, setAll]
    rw [show (cs.toArray.setIfInBounds (o + s) v) = (cs.set (o + s) v).toArray from by simp]
    rw [foldl_set r (s + 1) o (cs.set (o + s) v)]
    rfl
theorem setAll_cons (c : Value) : ∀ (vs cs : List Value) (o : Nat), setAll (c :: cs) (o + 1) vs = c :: setAll cs o vs
  | [], cs, o => rfl
  | v :: r, cs, o => by simp only [setAll, List.set_cons_succ]; exact setAll_cons c r _ _
theorem ov_setAll : ∀ (cs vs cs' : List Value), ov cs vs = some cs' → setAll cs 0 vs = cs'
  | cs, [], cs', h => by simp [ov] at h; subst h; rfl
  | [], _ :: _, cs', h => by simp [ov] at h
  | c :: r, v :: vs, cs', h => by
    simp only [ov] at h
    split at h
    · rename_i l hl
      cases h
      simp only [setAll, List.set_cons_zero]
      rw [setAll_cons, ov_setAll r vs l hl]
    · cases h
theorem st_setAll : ∀ (cs : List Value) (o : Nat) (vs cs' : List Value), st cs o vs = some cs' → setAll cs o vs = cs' ∧ (vs ≠ [] → o + vs.length ≤ cs.length)
  | cs, 0, vs, cs', h => by
    have h' : ov cs vs = some cs' := by cases cs <;> exact h
    exact ⟨ov_setAll cs vs cs' h', fun _ => by have := (ov_spec cs vs cs' h').1; omega⟩
  | [], o + 1, vs, cs', h => by
    cases vs with
    | nil => simp [st, ov] at h; subst h; exact ⟨rfl, fun h => absurd rfl h⟩
    | cons v vs => simp [st, ov] at h
  | c :: r, o + 1, vs, cs', h => by
    simp only [st] at h
    split at h
    · rename_i l hl
      cases h
      obtain ⟨h1, h2⟩ := st_setAll r o vs l hl
      refine ⟨by rw [setAll_cons, h1], fun hne => ?_⟩
      have := h2 hne
      simp; omega
    · cases h
def nthP : List (Nat × Nat) → Nat → Option (Nat × Nat)
  | [], _ => none
  | p :: _, 0 => some p
  | _ :: r, i + 1 => nthP r i
theorem nthP_eq : ∀ (l : List (Nat × Nat)) (i : Nat), nthP l i = l[i]?
  | [], i => by simp [nthP]
  | v :: r, 0 => by simp [nthP]
  | v :: r, i + 1 => by simp [nthP, nthP_eq r i]
def fillL (pl : List (Nat × Nat)) : List Value → List (Nat × Value) → Option (List Value)
  | cs, [] => some cs
  | cs, (i, v) :: r =>
    match nthP pl i with
    | none => none
    | some (o, k) => match Nat.beq v.cells.toList.length k && !v.cells.toList.isEmpty with
      | true => match st cs o v.cells.toList with
        | some cs' => fillL pl cs' r
        | none => none
      | false => none
theorem fill_eq (pl : List (Nat × Nat)) : ∀ (ps : List (Nat × Value)) (cs cs' : List Value), fillL pl cs ps = some cs' → Instr.fill (fun i => pl[i]?) cs.toArray ps = some cs'.toArray
  | [], cs, cs', h => by simp [fillL] at h; simp [Instr.fill, h]
  | (i, v) :: r, cs, cs', h => by
    simp only [fillL, nthP_eq] at h
    cases hp : pl[i]? with
    | none => simp [hp] at h
    | some x =>
      obtain ⟨o, k⟩ := x
      simp only [hp] at h
      split at h
      · rename_i hk
        split at h
        · rename_i cs2 hst
          obtain ⟨h3, h4⟩ := st_setAll _ _ _ _ hst
          simp only [Bool.and_eq_true] at hk
          have h1 : v.cells.size = k := by have := Nat.eq_of_beq_eq_true hk.1; simpa using this
          have hne : v.cells.toList ≠ [] := by
            intro e
            rw [e] at hk
            simp at hk
          have hle := h4 hne
          have ih := fill_eq pl r _ cs' h
          have e := foldl_set v.cells.toList 0 o cs
          simp only [Nat.add_zero] at e
          simp only [Instr.fill, hp]
          rw [if_neg (by simp [h1]; simp at hle; omega)]
          rw [← ih, ← h3, ← e]
          congr 1
          rw [← Array.foldl_toList]
          simp [Array.toList_zipIdx]
        · cases h
      · cases h
theorem SK.build {T : TypeId} {parts : Array (Nat × Operand)} {vs : List (Nat × Value)} {z cs : List Value} {pl : List (Nat × Nat)} [hT : Bld P T z pl] (hd : Nat.blt d n = true)
    (hp : evP F parts.toList = some vs) (hf' : fillL pl z vs = some cs) (h : SK w0 Mod n K ((d, .agg cs.toArray) :: F) M) :
    SK w0 Mod n (stepE P ops ⟨some d, .build T parts, ty, pos, aft, none⟩ chk K) F M := by
  refine SK.pure rfl hd (fun a hf w' => ?_) h
  have key : ∀ (l : List (Nat × Operand)) (us : List (Nat × Value)), l.map (fun x => (ev F x.2).map fun v => (x.1, v)) = us.map some → l.map (fun x => (x.1, a.eval x.2)) = us := by
    intro l
    induction l with
    | nil => intro us hv; cases us with | nil => rfl | cons => simp at hv
    | cons x l ih =>
      intro us hv
      cases us with
      | nil => simp at hv
      | cons u us =>
        simp only [List.map_cons, List.cons.injEq] at hv ⊢
        refine ⟨?_, ih us hv.2⟩
        cases hx : ev F x.2 with
        | none => rw [hx] at hv; simp at hv
        | some v =>
          rw [hx] at hv
          rw [hf.ev hx]
          exact Option.some.inj hv.1
  have e1 : parts.map (fun x => (x.1, a.eval x.2)) = vs.toArray := Array.ext' (by simpa using key _ _ (evP_spec hp))
  have h1 := hT.zero
  have h2 := hT.pl
  cases hi : P.info? T with
  | none => simp [hi] at h1
  | some i =>
    cases hz : i.zero with
    | none => simp [hi, hz] at h1
    | some v =>
      simp [hi, hz] at h1
      have hzr : (zeroValue T).run P w' = .ok v w' := by simp [zeroValue, typeInfo, hi, hz]
      cases hu : P.underlying T with
      | none => simp [hu] at h2
      | some dd =>
        cases dd <;> simp [hu] at h2
        rename_i fs
        have hm : (fs.mapM fun (f : Field) => (do Pure.pure (f.offset, ← sizeOf f.type) : Sem (Nat × Nat))).run P w' = .ok pl.toArray w' := by
          have hl : ∀ (l : List Field) (q : List (Nat × Nat)), l.map (fun f => (P.info? f.type).map (fun i => (f.offset, i.size))) = q.map some →
              (l.mapM fun (f : Field) => (do Pure.pure (f.offset, ← sizeOf f.type) : Sem (Nat × Nat))).run P w' = .ok q w' := by
            intro l
            induction l with
            | nil => intro q hq; cases q with | nil => rfl | cons => simp at hq
            | cons f l ih =>
              intro q hq
              cases q with
              | nil => simp at hq
              | cons u q =>
                simp only [List.map_cons, List.cons.injEq] at hq
                cases hif : P.info? f.type with
                | none => rw [hif] at hq; simp at hq
                | some j =>
                  rw [hif] at hq
                  have hu1 : u = (f.offset, j.size) := (Option.some.inj hq.1).symm
                  subst hu1
                  have hsz : (sizeOf f.type).run P w' = .ok j.size w' := by simp [sizeOf, typeInfo, hif]
                  rw [List.mapM_cons]
                  simp only [Sem.run_bind, hsz, Result.andThen_ok, Sem.run_pure, ih q hq.2]
          rw [Array.mapM_eq_mapM_toList]
          have := hl fs.toList pl (by simpa using h2)
          rw [Sem.run_map, this]
          rfl
        have hfl := fill_eq pl vs z cs hf'
        simp only [execOp]
        rw [show (parts.map fun (x : Nat × Operand) => match x with | (i, x) => (i, a.eval x)) = vs.toArray from by rw [← e1]]
        simp only [Instr.build, Sem.run_bind, hzr, Result.andThen_ok, run_underlying hu, hm]
        have e3 : Instr.fill (fun x => pl[x]?) v.cells vs = some cs.toArray := by
          rw [h1]
          exact hfl
        simp [e3]
theorem SK.buildSlice {T E : TypeId} {len k bb : Nat} {parts : Array (Nat × Operand)} {vs : List (Nat × Value)} {z cs : List Value} [hT : Slc P T E k bb] [hz : Zero P E z] (hd : Nat.blt d n = true)
    (hp : evP F parts.toList = some vs) (hsm : Nat.ble (len * k) 16777216 = true)
    (hf' : fillL ((List.range len).map fun i => (i * k, k)) ((List.range (len * k)).map fun i => z.getD (i % k) undef) vs = some cs) (hzk : z.length = k) (hlt : ∀ x ∈ vs, x.1 < len)
    (h : ∀ b, SK w0 Mod n (chkE P ops chk K) ((d, .slice (some ⟨b, 0, none⟩) len len) :: F) (some (b, cs, E) :: M)) :
    SK w0 Mod n (stepE P ops ⟨some d, .buildSlice T len parts, ty, pos, aft, none⟩ chk K) F M :=
  SK.eff rfl fun a w hf hm => by
    have key : ∀ (l : List (Nat × Operand)) (us : List (Nat × Value)), l.map (fun x => (ev F x.2).map fun v => (x.1, v)) = us.map some → l.map (fun x => (x.1, a.eval x.2)) = us := by
      intro l
      induction l with
      | nil => intro us hv; cases us with | nil => rfl | cons => simp at hv
      | cons x l ih =>
        intro us hv
        cases us with
        | nil => simp at hv
        | cons u us =>
          simp only [List.map_cons, List.cons.injEq] at hv ⊢
          refine ⟨?_, ih us hv.2⟩
          cases hx : ev F x.2 with
          | none => rw [hx] at hv; simp at hv
          | some v =>
            rw [hx] at hv
            rw [hf.ev hx]
            exact Option.some.inj hv.1
    have e1 : parts.map (fun x => (x.1, a.eval x.2)) = vs.toArray := Array.ext' (by simpa using key _ _ (evP_spec hp))
    have h1 := hT.und
    have h2 := hT.size
    have h3 := hz.zero
    cases hu : P.underlying T with
    | none => simp [hu] at h1
    | some dd =>
      cases dd <;> simp [hu] at h1
      rename_i e
      subst h1
      cases hi : P.info? e with
      | none => simp [hi] at h2
      | some i =>
        simp [hi] at h2
        cases hzz : i.zero with
        | none => simp [hi, hzz] at h3
        | some v =>
          simp [hi, hzz] at h3
          have hsz : (sizeOf e).run P w = .ok k w := by simp [sizeOf, typeInfo, hi, h2]
          have hzr : (zeroValue e).run P w = .ok v w := by simp [zeroValue, typeInfo, hi, hzz]
          have hle : ¬ (len * k > 2 ^ 24) := by have := Nat.le_of_ble_eq_true hsm; omega
          have hcells : ∀ zz : Array Value, (len * k = 0 → zz = #[]) → (len * k ≠ 0 → zz = z.toArray) →
              (Array.range (len * k)).map (fun x => zz[x % zz.size]!) = (((List.range (len * k)).map fun i => z.getD (i % k) undef)).toArray := by
            intro zz h0 h1
            by_cases hk : len * k = 0
            · simp [hk]
            · have := h1 hk
              subst this
              apply Array.ext'
              have hz0 : 0 < z.length := by
                rw [hzk]
                rcases Nat.eq_zero_or_pos k with hk0 | hk0
                · exact absurd (by rw [hk0]; simp) hk
                · exact hk0
              simp only [Array.toList_map, Array.toList_range, List.size_toArray, hzk]
              refine List.map_congr_left fun i _ => ?_
              have hlt : i % k < z.length := by rw [hzk]; exact Nat.mod_lt _ (by omega)
              simp [hlt]
          have hfl := fill_eq _ vs _ cs hf'
          have hfl2 : Instr.fill (fun i => some (i * k, k)) (((List.range (len * k)).map fun i => z.getD (i % k) undef)).toArray vs = some cs.toArray := by
            rw [← hfl]
            clear hfl hf' hp e1 key
            generalize (((List.range (len * k)).map fun i => z.getD (i % k) undef)).toArray = cc
            induction vs generalizing cc with
            | nil => rfl
            | cons x vs ih =>
              obtain ⟨j, u⟩ := x
              have hj := hlt (j, u) (by simp)
              simp only [Instr.fill]
              rw [show ((List.range len).map fun i => (i * k, k))[j]? = some (j * k, k) from by simp only [List.getElem?_map, List.getElem?_range hj, Option.map_some]]
              simp only
              split
              · rfl
              · exact ih (fun x hx => hlt x (by simp [hx])) _
          have hmain : (Instr.buildSlice T len vs.toArray).run P w = .ok (.slice (some ⟨w.heap.size, 0, none⟩) len len) { w with heap := w.heap.push (.cells cs.toArray e (0, 0)) } := by
            simp only [Instr.buildSlice, Sem.run_bind, run_underlying hu, Result.andThen_ok, hsz, hle, if_false, Sem.run_pure]
            by_cases hk : len * k = 0
            · have := hcells #[] (fun _ => rfl) (fun h => absurd hk h)
              rw [← this] at hfl2
              simp only [hk] at hfl2
              simp only [hk, if_true, Sem.run_bind, Sem.run_pure, Result.andThen_ok, hfl2]
              simp [newRow, newObj, Sem.run]
            · have := hcells v.cells (fun h => absurd h hk) (fun _ => h3)
              rw [← this] at hfl2
              simp only [hk, if_false, Sem.run_bind, hzr, Sem.run_pure, Result.andThen_ok, hfl2]
              simp [newRow, newObj, Sem.run]
          simp only [execOp]
          rw [show (parts.map fun (x : Nat × Operand) => match x with | (i, x) => (i, a.eval x)) = vs.toArray from by rw [← e1]]
          simp only [Sem.run_bind, hmain, Result.andThen_ok, Sem.run_pure, Sx.eff]
          exact h w.heap.size _ _ (hf.put hd _) (hm.new cs e w.drawn)
theorem setAll_whole : ∀ (vs cs : List Value), cs.length = vs.length → setAll cs 0 vs = vs
  | [], cs, h => by have : cs = [] := List.eq_nil_of_length_eq_zero (by simpa using h); subst this; rfl
  | v :: r, [], h => by simp at h
  | v :: r, c :: cs, h => by
    simp only [setAll, List.set_cons_zero]
    rw [setAll_cons, setAll_whole r cs (by simpa using h)]
theorem ov_whole : ∀ (vs cs : List Value), cs.length = vs.length → ov cs vs = some vs
  | [], cs, h => by have : cs = [] := List.eq_nil_of_length_eq_zero (by simpa using h); subst this; rfl
  | v :: r, [], h => by simp at h
  | v :: r, c :: cs, h => by simp only [ov, ov_whole r cs (by simpa using h)]
theorem SK.slice1 {T E k bb : Nat} {x : Operand} {v : Value} {vs z : List Value} [hT : Slc P T E k bb] [hz : Zero P E z] (hd : Nat.blt d n = true)
    (hx : ev F x = some v) (hv : v.cells.toList = vs) (hl : Nat.beq vs.length k = true) (hne : vs.isEmpty = false) (hzk : Nat.beq z.length k = true) (hk : Nat.ble k 16777216 = true)
    (h : ∀ b, SK w0 Mod n (chkE P ops chk K) ((d, .slice (some ⟨b, 0, none⟩) 1 1) :: F) (some (b, vs, E) :: M)) :
    SK w0 Mod n (stepE P ops ⟨some d, .buildSlice T 1 #[(0, x)], ty, pos, aft, none⟩ chk K) F M := by
  have hl' := Nat.eq_of_beq_eq_true hl
  have hzk' := Nat.eq_of_beq_eq_true hzk
  refine SK.buildSlice (vs := [(0, v)]) (cs := vs) hd (by simp [evP, hx]) (by simpa using hk) ?_ hzk' (by simp) h
  simp only [fillL, hv, hl', hne]
  have e : ((List.range (1 * k)).map fun i => z.getD (i % k) undef).length = vs.length := by simp [hl']
  have e2 : (List.map (fun i => (i * k, k)) (List.range 1)) = [(0, k)] := by simp [List.range_succ]
  rw [e2]
  have h3 : st ((List.range (1 * k)).map fun i => z.getD (i % k) undef) 0 vs = some vs := by
    have := ov_whole vs _ e
    cases hc : ((List.range (1 * k)).map fun i => z.getD (i % k) undef) <;> rw [hc] at this <;> simpa [st] using this
  simp only [nthP, h3]
  simp
theorem SK.slice0 {T E k bb : Nat} {z : List Value} [hT : Slc P T E k bb] [hz : Zero P E z] (hd : Nat.blt d n = true) (hzk : Nat.beq z.length k = true)
    (h : ∀ b, SK w0 Mod n (chkE P ops chk K) ((d, .slice (some ⟨b, 0, none⟩) 0 0) :: F) (some (b, [], E) :: M)) :
    SK w0 Mod n (stepE P ops ⟨some d, .buildSlice T 0 #[], ty, pos, aft, none⟩ chk K) F M :=
  SK.buildSlice (vs := []) (cs := []) hd rfl (by simp) (by simp [fillL]) (Nat.eq_of_beq_eq_true hzk) (by simp) h
end
end Go.Sx
