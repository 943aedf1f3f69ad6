/- Proved here: finding nodes. -/
import Derived.Test.YtdnjfmgldkommaaWd
namespace Go.Proofs.Ytdnjfmgldkommaa
open Go.Sx
def fI (l : List Nd) (s : ByteArray) : Option Nat := l.findIdx? fun x => decide (x.name = s)
def ixV : Option Nat → Int
  | some i => i
  | none => -1
def RNds (V : View) (A : Option Addr) (l : List Nd) : Prop := ∀ (i : Nat) (x : Nd), l[i]? = some x → ∃ b o av, A = some ⟨b, o, none⟩ ∧ RNd V b (o + i * 7) x av
theorem RNds.mono {V V' : View} {A : Option Addr} {l : List Nd} (h : RNds V A l) (hv : ∀ b o u, V b o u → V' b o u) : RNds V' A l := by
  intro i x hx
  obtain ⟨b, o, av, h3, h4⟩ := h i x hx
  exact ⟨b, o, av, h3, h4.mono hv⟩
theorem fI_none {l : List Nd} {s : ByteArray} (h : ∀ (j : Nat) (x : Nd), l[j]? = some x → ¬ x.name = s) : fI l s = none := by
  unfold fI
  rw [List.findIdx?_eq_none_iff]
  intro x hx
  obtain ⟨j, hj⟩ := List.getElem?_of_mem hx
  simpa using h j x hj
theorem fI_some {l : List Nd} {s : ByteArray} {i : Nat} {x : Nd} (hx : l[i]? = some x) (hs : x.name = s) (h : ∀ (j : Nat) (y : Nd), j < i → l[j]? = some y → ¬ y.name = s) : fI l s = some i := by
  unfold fI
  rw [List.findIdx?_eq_some_iff_getElem]
  obtain ⟨hlt, he⟩ := List.getElem?_eq_some_iff.1 hx
  refine ⟨hlt, by rw [he]; simpa using hs, fun j hj => ?_⟩
  have := h j l[j] hj (List.getElem?_eq_getElem (by omega))
  simpa using this
set_option maxRecDepth 100000 in
theorem find1_calls (x : Nd) (av : Value) (bn : Nat) (s : ByteArray) (w : World) (hb : Vw w [] bn 0 (.string s)) :
    Ans 83 [.agg (x.c av).toArray, .pointer (some ⟨bn, 0, none⟩)] w (.bool (dc (x.name = s))) := by
  refine enter0 Try.func83 rfl Try.ntmps83 rfl ?_
  (repeat first|(with_reducible first|apply Za|apply Zb|apply Zc|apply Zd|apply Zi|apply Zp|apply Zs)|((with_reducible refine Yz ?_);first|((with_reducible apply SK.load1R); rfl; rfl; exact hb)|((with_reducible first|apply ZJ|apply ZK);rfl;rfl)|((with_reducible apply Zqv);rfl;rfl;rfl)|((with_reducible apply Zqz);rfl;rfl;(focus (repeat constructor));rfl)|((with_reducible apply Zrf);rfl;rfl;intro _)))
  exact SK.retQ rfl (by (repeat constructor)) (fun w' hm' => ⟨(), trivial, rfl, hm'.wk (by (repeat constructor))⟩)
set_option maxRecDepth 100000 in
theorem indexNode_calls (A : Option Addr) (cap : Nat) (l : List Nd) (bn : Nat) (s : ByteArray) (w : World) (hb : Vw w [] bn 0 (.string s)) (hl : RNds (Vw w []) A l) (hn : l.length < 9223372036854775807) :
    Ans 82 [.slice A l.length cap, .func (.func 83) #[] #[.pointer (some ⟨bn, 0, none⟩)]] w (.int .i64 (ixV (fI l s))) := by
  refine enter0 Try.func82 rfl Try.ntmps82 rfl ?_
  (repeat first|(with_reducible first|apply Za|apply Zb|apply Zc|apply Zd|apply Zi|apply Zr)|((with_reducible first|apply ZI|apply ZJ|apply ZM);rfl;rfl))
  refine SK.loopW (fun i : Nat => [(0, .slice A l.length cap), (1, .func (.func 83) #[] #[.pointer (some ⟨bn, 0, none⟩)]), (7, .int .i64 (l.length : Int)), (8, .int .i64 (i : Int))]) (fun _ => [])
    (fun i => i ≤ l.length ∧ ∀ (j : Nat) (x : Nd), j < i → l[j]? = some x → ¬ x.name = s) (fun i => l.length - i) 0 ⟨Nat.zero_le _, by omega⟩ (by (repeat constructor)) (by (repeat constructor)) ?_
  rintro i ⟨hi, hno⟩
  by_cases hlt : i < l.length
  · obtain ⟨x, hx⟩ : ∃ x, l[i]? = some x := ⟨_, List.getElem?_eq_getElem hlt⟩
    obtain ⟨b, o, av, rfl, hnd⟩ := hl i x hx
    have hcell := hnd.2
    (repeat first|(with_reducible first|apply Za|apply Zb|apply Zc|apply Zd|apply Zi|apply Zo|apply Zr)|((with_reducible refine Yz ?_);first|((with_reducible apply SK.indexAddr); rfl; rfl; rfl; exact hlt)|((with_reducible apply SK.loadAR); rfl; rfl; exact hcell; rfl)|((with_reducible first|apply ZI|apply ZJ);rfl;rfl)|((with_reducible apply ZS);rfl;rfl;rfl;omega))|((with_reducible apply ZC);rfl))
    refine SK.callV rfl rfl rfl [] [] (by (repeat constructor)) (fun _ : Unit => True) (fun _ => .bool (dc (x.name = s))) (fun _ => []) (vs := [.agg (x.c av).toArray]) (fun w1 hm1 hv1 _ => ?_) ?_
    · have := find1_calls x av bn s w1 (hv1 _ _ _ hb)
      simpa [Ans] using this
    rintro - -
    (repeat first|(with_reducible first|apply Zd|apply Zi|apply Zs))
    apply SK.condP rfl
    · intro hs
      (repeat first|(with_reducible first|apply Za|apply Zb|apply Zc|apply Zd|apply Zi|apply Zk|apply Zm|apply Zp)|((with_reducible first|apply ZI|apply ZJ);rfl;rfl))
      exact SK.retQ rfl (by (repeat constructor)) (fun w' hm' => ⟨(), trivial, by rw [fI_some hx hs hno]; rfl, hm'.wk (by (repeat constructor))⟩)
    · intro hs
      (repeat first|(with_reducible first|apply Zb|apply Zc|apply Zd|apply Zi|apply Zl|apply Zo)|((with_reducible apply ZI);rfl;rfl)|((with_reducible apply ZR);rfl;rfl;rfl;omega))
      exact SK.roundW (i + 1) ⟨by omega, fun j y hj hy => by
        by_cases hji : j = i
        · subst hji; rw [hx] at hy; cases hy; exact hs
        · exact hno j y (by omega) hy⟩ (by omega) (by (repeat constructor)) (by (repeat constructor))
  · (repeat first|(with_reducible first|apply Za|apply Zb|apply Zc|apply Zd|apply Zi|apply Zj|apply Zn|apply Zp|apply Zq)|((with_reducible apply ZJ);rfl;rfl)|((with_reducible apply ZY);rfl;rfl;rfl;omega)|((with_reducible apply ZD);rfl))
    exact SK.retQ rfl (by (repeat constructor)) (fun w' hm' => ⟨(), trivial, by rw [fI_none (fun j x hx => hno j x (by have := (List.getElem?_eq_some_iff.1 hx).1; omega) hx)]; rfl, hm'.wk (by (repeat constructor))⟩)
theorem RDf.nds {V : View} {dv : Value} {D : Df} (h : RDf V dv D) : ∃ A cap, dv = .agg #[.string D.name, .slice A D.nodes.length cap] ∧ RNds V A D.nodes := h
def findV (l : List Nd) (s : ByteArray) : Value :=
  match fI l s with
  | some j => .tuple #[.int .i64 (j : Int), .bool true]
  | none => .tuple #[.int .i64 0, .bool false]
set_option maxRecDepth 100000 in
theorem find62 (dv : Value) (D : Df) (s : ByteArray) (w : World) (hd : RDf (Vw w []) dv D) (hn : D.nodes.length < 9223372036854775807) :
    Ans 62 [dv, .string s] w (findV D.nodes s) := by
  obtain ⟨A, cap, rfl, hl⟩ := hd.nds
  refine enter0 Try.func62 rfl Try.ntmps62 rfl ?_
  (repeat first|(with_reducible first|apply Za|apply Zb|apply Zc|apply Zd|apply Zi|apply Zs)|((with_reducible first|apply ZJ|apply ZK);rfl;rfl)|((with_reducible apply Zqp);rfl;rfl;rfl)|((with_reducible apply Zqz);rfl;rfl;(focus (repeat constructor));rfl)|((with_reducible apply Zrf);rfl;rfl;intro _))
  refine SK.callA rfl rfl (vs := [.slice A D.nodes.length cap, .func (.func 83) #[] #[.pointer (some ⟨_, 0, none⟩)]]) (fun w1 h1 h2 => indexNode_calls A cap D.nodes _ s w1 (h2 _ _ _ (by (repeat constructor)) 0 _ rfl) (hl.mono h1) hn) ?_
  (repeat first|(with_reducible first|apply Za|apply Zb|apply Zc|apply Zd|apply Zi|apply Zp|apply Zs)|((with_reducible first|apply ZI|apply ZJ);rfl;rfl)|((with_reducible first|apply Zql|apply Zqq);rfl;rfl;rfl))
  unfold findV
  cases h : fI D.nodes s with
  | none =>
    skip
    exact SK.retQ rfl (by (repeat constructor)) (fun w' hm' => ⟨(), trivial, by simp [retV, ixV, dc_eq], hm'.wk (by (repeat constructor))⟩)
  | some i =>
    skip
    have hi0 : ¬ ((i : Int) < 0) := by omega
    exact SK.retQ rfl (by (repeat constructor)) (fun w' hm' => ⟨(), trivial, by simp [retV, ixV, dc_eq, hi0], hm'.wk (by (repeat constructor))⟩)
set_option maxRecDepth 100000 in
theorem find21 (dv : Value) (D : Df) (s : ByteArray) (w : World) (hd : RDf (Vw w []) dv D) (hn : D.nodes.length < 9223372036854775807) :
    Ans 21 [dv, .string s] w (findV D.nodes s) := by
  obtain ⟨A, cap, rfl, hl⟩ := hd.nds
  refine enter0 Try.func21 rfl Try.ntmps21 rfl ?_
  (repeat first|(with_reducible first|apply Za|apply Zb|apply Zc|apply Zd|apply Zi|apply Zr|apply Zs)|((with_reducible apply ZJ);rfl;rfl)|((with_reducible apply Zrf);rfl;rfl;intro _))
  rename_i b2
  refine SK.loopW (fun i : Nat => [(6, .int .i64 (i : Int)), (1, .string s), (2, .pointer (some ⟨b2, 0, none⟩))]) (fun _ => [some (b2, [.string D.name, .slice A D.nodes.length cap], 24)])
    (fun i => i ≤ D.nodes.length ∧ ∀ (j : Nat) (x : Nd), j < i → D.nodes[j]? = some x → ¬ x.name = s) (fun i => D.nodes.length - i) 0 ⟨Nat.zero_le _, by omega⟩ (by (repeat constructor)) (by (repeat constructor)) ?_
  rintro i ⟨hi, hno⟩
  by_cases hlt : i < D.nodes.length
  · obtain ⟨x, hx⟩ : ∃ x, D.nodes[i]? = some x := ⟨_, List.getElem?_eq_getElem hlt⟩
    obtain ⟨b, o, av, rfl, hnd⟩ := hl i x hx
    have hcell := hnd.2
    by_cases hs : x.name = s
    · (repeat first|(with_reducible first|apply Za|apply Zb|apply Zc|apply Zd|apply Zi|apply Zk|apply Zm|apply Zo|apply Zp|apply Zr)|((with_reducible refine Yz ?_);first|((with_reducible apply SK.indexAddr); rfl; rfl; rfl; exact hlt)|((with_reducible apply SK.load1R); rfl; rfl; exact hcell 0 _ rfl)|((with_reducible first|apply ZI|apply ZJ|apply ZK|apply ZM);rfl;rfl)|((with_reducible apply ZS);rfl;rfl;rfl;omega)|((with_reducible apply Zqm);rfl;rfl;rfl)|((with_reducible apply Zqf);rfl;rfl;rfl;assumption)|((with_reducible apply Zqz);rfl;rfl;(focus (repeat constructor));rfl))|((with_reducible apply ZC);rfl))
      exact SK.retQ rfl (by (repeat constructor)) (fun w' hm' => ⟨(), trivial, by unfold findV; rw [fI_some hx hs hno]; rfl, hm'.wk (by (repeat constructor))⟩)
    · (repeat first|(with_reducible first|apply Za|apply Zb|apply Zc|apply Zd|apply Zi|apply Zl|apply Zo|apply Zr)|((with_reducible refine Yz ?_);first|((with_reducible apply SK.indexAddr); rfl; rfl; rfl; exact hlt)|((with_reducible apply SK.load1R); rfl; rfl; exact hcell 0 _ rfl)|((with_reducible first|apply ZI|apply ZJ|apply ZK|apply ZM);rfl;rfl)|((with_reducible first|apply ZR|apply ZS);rfl;rfl;rfl;omega)|((with_reducible apply Zqm);rfl;rfl;rfl)|((with_reducible apply Zqu);rfl;rfl;rfl;assumption)|((with_reducible apply Zqz);rfl;rfl;(focus (repeat constructor));rfl))|((with_reducible apply ZC);rfl)|((with_reducible apply ZD);rfl))
      exact SK.roundW (i + 1) ⟨by omega, fun j y hj hy => by
        by_cases hji : j = i
        · subst hji; rw [hx] at hy; cases hy; exact hs
        · exact hno j y (by omega) hy⟩ (by omega) (by (repeat constructor)) (by (repeat constructor))
  · (repeat first|(with_reducible first|apply Za|apply Zb|apply Zc|apply Zd|apply Zi|apply Zj|apply Zn|apply Zp|apply Zq)|((with_reducible first|apply ZI|apply ZJ|apply ZK|apply ZM);rfl;rfl)|((with_reducible apply ZY);rfl;rfl;rfl;omega)|((with_reducible apply Zqz);rfl;rfl;(focus (repeat constructor));rfl)|((with_reducible apply ZD);rfl))
    exact SK.retQ rfl (by (repeat constructor)) (fun w' hm' => ⟨(), trivial, by unfold findV; rw [fI_none (fun j x hx => hno j x (by have := (List.getElem?_eq_some_iff.1 hx).1; omega) hx)]; rfl, hm'.wk (by (repeat constructor))⟩)
theorem RSl.open {α : Type} {f : α → List Value} {k : Nat} (hk : ∀ x, (f x).length = k) {V : View} {v : Value} {n : Nat} {l : List α} (h : RSl V v n (l.flatMap f)) :
    ∃ A cap, v = .slice A n cap ∧ ∀ (i : Nat) (x : α), l[i]? = some x → 0 < k → ∃ b o, A = some ⟨b, o, none⟩ ∧ ∀ (j : Nat) (u : Value), (f x)[j]? = some u → V b (o + i * k + j) u := by
  obtain ⟨A, cap, h1, h2⟩ := h
  refine ⟨A, cap, h1, fun i x hx hk0 => ?_⟩
  rcases h2 with h2 | ⟨b, o, h2, h3⟩
  · exfalso
    have := flat_len hk l
    rw [h2] at this
    have hlt := (List.getElem?_eq_some_iff.1 hx).1
    simp only [List.length_nil] at this
    rcases Nat.mul_eq_zero.1 this.symm with h | h <;> omega
  · refine ⟨b, o, h2, fun j u hu => ?_⟩
    have := h3 _ u (flat_get hk l i x hx j u hu)
    rw [show o + i * k + j = o + (i * k + j) from by omega]
    exact this
@[reducible] def natC (i : Nat) : List Value := [.int .i64 (i : Int)]
def okS (l : List Nd) (i : Nat) (so : Nat → Bool) (s : ByteArray) : Bool :=
  match fI l s with
  | some j => !decide (j = i) && so j
  | none => false
def metL (l : List Nd) (i : Nat) (x : Nd) (so : Nat → Bool) : Bool := x.after.all (okS l i so)
def mayB (l : List Nd) (over begun : List Bool) (i : Nat) : Bool :=
  match l[i]? with
  | some x => !begun.getD i false && metL l i x (fun k => over.getD k false)
  | none => false
def readyL (l : List Nd) (over begun : List Bool) : List Nat := (List.range l.length).filter (mayB l over begun)
theorem at_step {w : World} {v : Value} {l : List Bool} (hl : RSl (Vw w []) v l.length (l.flatMap boolC)) :
    ∃ A cap, v = .slice A l.length cap ∧ ∀ i, i < l.length → ∃ b o, A = some ⟨b, o, none⟩ ∧ Vw w [] b (o + i * 1) (.bool (l.getD i false)) := by
  obtain ⟨A, cap, h1, h2⟩ := hl.open (k := 1) (fun _ => rfl)
  refine ⟨A, cap, h1, fun i hi => ?_⟩
  obtain ⟨b, o, h3, h4⟩ := h2 i (l.getD i false) (by simp [List.getD, List.getElem?_eq_getElem hi]) (by omega)
  exact ⟨b, o, h3, h4 0 _ rfl⟩
set_option maxRecDepth 100000 in
theorem at94 (v : Value) (l : List Bool) (i : Nat) (w : World) (hl : RSl (Vw w []) v l.length (l.flatMap boolC)) : Ans 94 [v, .int .i64 (i : Int)] w (.bool (l.getD i false)) := by
  obtain ⟨A, cap, rfl, hc⟩ := at_step hl
  refine enter0 Try.func94 rfl Try.ntmps94 rfl ?_
  by_cases hlt : i < l.length
  · obtain ⟨b, o, rfl, hv⟩ := hc i hlt
    (repeat first|(with_reducible first|apply Za|apply Zb|apply Zc|apply Zd|apply Zi|apply Zp)|((with_reducible refine Yz ?_);first|((with_reducible apply SK.indexAddr); rfl; rfl; rfl; exact hlt)|((with_reducible apply SK.load1R); rfl; rfl; exact hv)|((with_reducible first|apply ZI|apply ZJ|apply ZM|apply ZO);rfl;rfl)|((with_reducible apply ZS);rfl;rfl;rfl;omega)|((with_reducible apply Zqo);rfl;rfl;rfl)))
    exact SK.retQ rfl (by (repeat constructor)) (fun w' hm' => ⟨(), trivial, rfl, hm'.wk (by (repeat constructor))⟩)
  · (repeat first|(with_reducible first|apply Za|apply Zb|apply Zc|apply Zd|apply Zi|apply Zp)|((with_reducible first|apply ZI|apply ZJ|apply ZM);rfl;rfl)|((with_reducible apply ZY);rfl;rfl;rfl;omega)|((with_reducible apply Zqs);rfl;rfl;rfl)|((with_reducible apply Zqx);rfl;rfl;rfl;rfl))
    exact SK.retQ rfl (by (repeat constructor)) (fun w' hm' => ⟨(), trivial, by simp [retV, List.getD, List.getElem?_eq_none (Nat.not_lt.1 hlt)], hm'.wk (by (repeat constructor))⟩)
set_option maxRecDepth 100000 in
theorem at87 (v : Value) (l : List Bool) (i : Nat) (w : World) (hl : RSl (Vw w []) v l.length (l.flatMap boolC)) : Ans 87 [v, .int .i64 (i : Int)] w (.bool (l.getD i false)) := by
  obtain ⟨A, cap, rfl, hc⟩ := at_step hl
  refine enter0 Try.func87 rfl Try.ntmps87 rfl ?_
  by_cases hlt : i < l.length
  · obtain ⟨b, o, rfl, hv⟩ := hc i hlt
    (repeat first|(with_reducible first|apply Za|apply Zb|apply Zc|apply Zd|apply Zi|apply Zp)|((with_reducible refine Yz ?_);first|((with_reducible apply SK.indexAddr); rfl; rfl; rfl; exact hlt)|((with_reducible apply SK.load1R); rfl; rfl; exact hv)|((with_reducible first|apply ZI|apply ZJ|apply ZM|apply ZO);rfl;rfl)|((with_reducible apply ZS);rfl;rfl;rfl;omega)|((with_reducible apply Zqo);rfl;rfl;rfl)))
    exact SK.retQ rfl (by (repeat constructor)) (fun w' hm' => ⟨(), trivial, rfl, hm'.wk (by (repeat constructor))⟩)
  · (repeat first|(with_reducible first|apply Za|apply Zb|apply Zc|apply Zd|apply Zi|apply Zp)|((with_reducible first|apply ZI|apply ZJ|apply ZM);rfl;rfl)|((with_reducible apply ZY);rfl;rfl;rfl;omega)|((with_reducible apply Zqs);rfl;rfl;rfl)|((with_reducible apply Zqx);rfl;rfl;rfl;rfl))
    exact SK.retQ rfl (by (repeat constructor)) (fun w' hm' => ⟨(), trivial, by simp [retV, List.getD, List.getElem?_eq_none (Nat.not_lt.1 hlt)], hm'.wk (by (repeat constructor))⟩)
set_option maxRecDepth 100000 in
theorem so96 (v : Value) (l : List Bool) (i b1 b2 : Nat) (w : World) (hl : RSl (Vw w []) v l.length (l.flatMap boolC)) (h1 : Vw w [] b1 0 (.func (.func 94) #[] #[])) (h2 : Vw w [] b2 0 v) :
    Ans 96 [.int .i64 (i : Int), .pointer (some ⟨b1, 0, none⟩), .pointer (some ⟨b2, 0, none⟩)] w (.bool (l.getD i false)) := by
  refine enter0 Try.func96 rfl Try.ntmps96 rfl ?_
  (repeat first|(with_reducible first|apply Za|apply Zb|apply Zc|apply Zd|apply Zi)|((with_reducible refine Yz ?_);first|((with_reducible apply SK.load1R); rfl; rfl; first | exact h1 | exact h2)|((with_reducible first|apply ZI|apply ZJ);rfl;rfl)))
  refine SK.callVA rfl rfl rfl (vs := [v, .int .i64 (i : Int)]) (fun w1 g1 _ => at94 v l i w1 (hl.mono g1)) ?_
  (repeat first|(with_reducible first|apply Zc|apply Zd|apply Zi|apply Zp|apply Zs)|((with_reducible apply ZJ);rfl;rfl))
  exact SK.retQ rfl (by (repeat constructor)) (fun w' hm' => ⟨(), trivial, rfl, hm'.wk (by (repeat constructor))⟩)
theorem metL_false {l : List Nd} {i : Nat} {x : Nd} {so : Nat → Bool} {k : Nat} {s : ByteArray} (hk : x.after[k]? = some s) (h : okS l i so s = false) : metL l i x so = false := by
  unfold metL
  rw [List.all_eq_false]
  exact ⟨s, List.mem_of_getElem? hk, by simp [h]⟩
theorem metL_true {l : List Nd} {i : Nat} {x : Nd} {so : Nat → Bool} (h : ∀ (j : Nat) (s : ByteArray), x.after[j]? = some s → okS l i so s = true) : metL l i x so = true := by
  unfold metL
  rw [List.all_eq_true]
  intro s hs
  obtain ⟨j, hj⟩ := List.getElem?_of_mem hs
  exact h j s hj
set_option maxRecDepth 100000 in
set_option maxHeartbeats 1000000 in
theorem met95 (dv v : Value) (D : Df) (over : List Bool) (i b1 b2 : Nat) (x : Nd) (w : World) (hd : RDf (Vw w []) dv D) (hn : D.nodes.length ≤ 64) (hx : D.nodes[i]? = some x) (ha : x.after.length < 9223372036854775807)
    (hl : RSl (Vw w []) v over.length (over.flatMap boolC)) (h1 : Vw w [] b1 0 (.func (.func 94) #[] #[])) (h2 : Vw w [] b2 0 v) :
    Ans 95 [dv, .int .i64 (i : Int), .func (.func 96) #[] #[.pointer (some ⟨b1, 0, none⟩), .pointer (some ⟨b2, 0, none⟩)]] w (.bool (metL D.nodes i x fun k => over.getD k false)) := by
  obtain ⟨A, cap, rfl, hnds⟩ := hd.nds
  have hlt : i < D.nodes.length := (List.getElem?_eq_some_iff.1 hx).1
  obtain ⟨b, o, av, rfl, hnd⟩ := hnds i x hx
  have hcell := hnd.2
  obtain ⟨A2, cap2, rfl, haf⟩ := hnd.1.open (k := 1) (fun _ => rfl)
  refine enter0 Try.func95 rfl Try.ntmps95 rfl ?_
  (repeat first|(with_reducible first|apply Za|apply Zb|apply Zc|apply Zd|apply Zi|apply Zr|apply Zs)|((with_reducible refine Yz ?_);first|((with_reducible apply SK.indexAddr); rfl; rfl; rfl; exact hlt)|((with_reducible apply SK.load1R); rfl; rfl; exact hcell 6 _ rfl)|((with_reducible first|apply ZI|apply ZJ|apply ZK|apply ZM);rfl;rfl)|((with_reducible apply Zqm);rfl;rfl;rfl)|((with_reducible apply Zqz);rfl;rfl;(focus (repeat constructor));rfl)|((with_reducible apply Zrf);rfl;rfl;intro _)))
  rename_i b3
  refine SK.loopW (fun k : Nat => [(18, .int .i64 (k : Int)), (17, .int .i64 (x.after.length : Int)), (16, .slice A2 x.after.length cap2), (1, .int .i64 (i : Int)),
      (2, .func (.func 96) #[] #[.pointer (some ⟨b1, 0, none⟩), .pointer (some ⟨b2, 0, none⟩)]), (3, .pointer (some ⟨b3, 0, none⟩))])
    (fun _ => [some (b3, [.string D.name, .slice (some ⟨b, o, none⟩) D.nodes.length cap], 24)])
    (fun k => k ≤ x.after.length ∧ ∀ (j : Nat) (s : ByteArray), j < k → x.after[j]? = some s → okS D.nodes i (fun k => over.getD k false) s = true) (fun k => x.after.length - k) 0 ⟨Nat.zero_le _, by omega⟩ (by (repeat constructor)) (by (repeat constructor)) ?_
  rintro k ⟨hk, hall⟩
  by_cases hkl : k < x.after.length
  · obtain ⟨s, hs⟩ : ∃ s, x.after[k]? = some s := ⟨_, List.getElem?_eq_getElem hkl⟩
    obtain ⟨b4, o4, rfl, hsc⟩ := haf k s hs (by omega)
    have hsc0 := hsc 0 _ rfl
    (repeat first|(with_reducible first|apply Za|apply Zb|apply Zc|apply Zd|apply Zi|apply Zo|apply Zr)|((with_reducible refine Yz ?_);first|((with_reducible apply SK.indexAddr); rfl; rfl; rfl; exact hkl)|((with_reducible apply SK.load1R); rfl; rfl; exact hsc0)|((with_reducible first|apply ZI|apply ZJ);rfl;rfl)|((with_reducible apply ZS);rfl;rfl;rfl;omega)|((with_reducible apply Zra);rfl;rfl;(focus (repeat constructor));rfl))|((with_reducible apply ZC);rfl))
    refine SK.callA rfl rfl (fun w1 g1 _ => find62 _ D s w1 (hd.mono g1) (by omega)) ?_
    unfold findV
    cases hf : fI D.nodes s with
    | none =>
      (repeat first|(with_reducible first|apply Za|apply Zb|apply Zc|apply Zd|apply Zi|apply Zk|apply Zm|apply Zp|apply Zs)|((with_reducible first|apply ZI|apply ZJ);rfl;rfl)|((with_reducible apply ZP);rfl;rfl)|((with_reducible first|apply Zqn|apply Zqo);rfl;rfl;rfl)|((with_reducible apply Zqx);rfl;rfl;rfl;rfl)|((with_reducible apply ZC);rfl))
      exact SK.retQ rfl (by (repeat constructor)) (fun w' hm' => ⟨(), trivial, by rw [metL_false hs (by simp [okS, hf])]; rfl, hm'.wk (by (repeat constructor))⟩)
    | some j =>
      by_cases hji : j = i
      · (repeat first|(with_reducible first|apply Za|apply Zb|apply Zc|apply Zd|apply Zi|apply Zk|apply Zm|apply Zp|apply Zs)|((with_reducible first|apply ZI|apply ZJ|apply ZO);rfl;rfl)|((with_reducible apply ZP);rfl;rfl)|((with_reducible apply ZW);rfl;rfl;rfl;omega)|((with_reducible first|apply Zqn|apply Zqo);rfl;rfl;rfl)|((with_reducible apply Zqs);rfl;rfl;rfl)|((with_reducible apply Zqx);rfl;rfl;rfl;rfl)|((with_reducible apply ZC);rfl))
        exact SK.retQ rfl (by (repeat constructor)) (fun w' hm' => ⟨(), trivial, by rw [metL_false hs (by simp [okS, hf, hji])]; rfl, hm'.wk (by (repeat constructor))⟩)
      · (repeat first|(with_reducible first|apply Za|apply Zb|apply Zc|apply Zd|apply Zi|apply Zs)|((with_reducible first|apply ZI|apply ZJ|apply ZO);rfl;rfl)|((with_reducible apply ZP);rfl;rfl)|((with_reducible apply Zqc);rfl;rfl;rfl;omega)|((with_reducible apply Zqn);rfl;rfl;rfl)|((with_reducible apply Zqs);rfl;rfl;rfl))
        refine SK.callVA rfl rfl rfl (vs := [.int .i64 (j : Int)]) (fun w1 g1 _ => so96 v over j b1 b2 w1 (hl.mono g1) (g1 _ _ _ h1) (g1 _ _ _ h2)) ?_
        cases hso : over.getD j false with
        | false =>
          (repeat first|(with_reducible first|apply Za|apply Zb|apply Zc|apply Zd|apply Zi|apply Zk|apply Zm|apply Zp|apply Zs)|((with_reducible first|apply ZJ|apply ZO);rfl;rfl)|((with_reducible apply ZP);rfl;rfl)|((with_reducible apply Zqs);rfl;rfl;rfl)|((with_reducible apply ZC);rfl))
          exact SK.retQ rfl (by (repeat constructor)) (fun w' hm' => ⟨(), trivial, by rw [metL_false hs (by simp only [okS, hf, hso, Bool.and_false])]; rfl, hm'.wk (by (repeat constructor))⟩)
        | true =>
          (repeat first|(with_reducible first|apply Zb|apply Zc|apply Zd|apply Zi|apply Zl|apply Zo|apply Zs)|((with_reducible first|apply ZI|apply ZO);rfl;rfl)|((with_reducible apply ZP);rfl;rfl)|((with_reducible apply ZR);rfl;rfl;rfl;omega)|((with_reducible apply Zqs);rfl;rfl;rfl)|((with_reducible apply ZD);rfl))
          exact SK.roundW (k + 1) ⟨by omega, fun j' s' hj' hs' => by
            by_cases hjk : j' = k
            · subst hjk; rw [hs] at hs'; cases hs'; simp only [okS, hf, hso, Bool.and_true]; simpa using hji
            · exact hall j' s' (by omega) hs'⟩ (by omega) (by (repeat constructor)) (by (repeat constructor))
  · (repeat first|(with_reducible first|apply Za|apply Zb|apply Zc|apply Zd|apply Zi|apply Zj|apply Zn|apply Zp|apply Zq)|((with_reducible apply ZJ);rfl;rfl)|((with_reducible apply ZY);rfl;rfl;rfl;omega)|((with_reducible apply ZD);rfl))
    exact SK.retQ rfl (by (repeat constructor)) (fun w' hm' => ⟨(), trivial, by rw [metL_true (fun j s hs => hall j s (by have := (List.getElem?_eq_some_iff.1 hs).1; omega) hs)]; rfl, hm'.wk (by (repeat constructor))⟩)
set_option maxRecDepth 100000 in
set_option maxHeartbeats 1000000 in
theorem may66 (dv v : Value) (D : Df) (over : List Bool) (i : Nat) (x : Nd) (w : World) (hd : RDf (Vw w []) dv D) (hn : D.nodes.length ≤ 64) (hx : D.nodes[i]? = some x) (ha : x.after.length < 9223372036854775807)
    (hl : RSl (Vw w []) v over.length (over.flatMap boolC)) :
    Ans 66 [dv, .int .i64 (i : Int), v] w (.bool (metL D.nodes i x fun k => over.getD k false)) := by
  obtain ⟨A, cap, rfl, hnds⟩ := hd.nds
  have hlt : i < D.nodes.length := (List.getElem?_eq_some_iff.1 hx).1
  obtain ⟨b, o, av, rfl, hnd⟩ := hnds i x hx
  have hcell := hnd.2
  obtain ⟨A2, cap2, rfl, haf⟩ := hnd.1.open (k := 1) (fun _ => rfl)
  refine enter0 Try.func66 rfl Try.ntmps66 rfl ?_
  (repeat first|(with_reducible first|apply Za|apply Zb|apply Zc|apply Zd|apply Zi|apply Zr|apply Zs)|((with_reducible apply ZJ);rfl;rfl)|((with_reducible apply Zrf);rfl;rfl;intro _))
  rename_i b3
  refine SK.loopW (fun k : Nat => [(7, .int .i64 (k : Int)), (1, .int .i64 (i : Int)), (2, v), (3, .pointer (some ⟨b3, 0, none⟩))])
    (fun _ => [some (b3, [.string D.name, .slice (some ⟨b, o, none⟩) D.nodes.length cap], 24)])
    (fun k => k ≤ x.after.length ∧ ∀ (j : Nat) (s : ByteArray), j < k → x.after[j]? = some s → okS D.nodes i (fun k => over.getD k false) s = true) (fun k => x.after.length - k) 0 ⟨Nat.zero_le _, by omega⟩ (by (repeat constructor)) (by (repeat constructor)) ?_
  rintro k ⟨hk, hall⟩
  by_cases hkl : k < x.after.length
  · obtain ⟨s, hs⟩ : ∃ s, x.after[k]? = some s := ⟨_, List.getElem?_eq_getElem hkl⟩
    obtain ⟨b4, o4, rfl, hsc⟩ := haf k s hs (by omega)
    have hsc0 := hsc 0 _ rfl
    (repeat first|(with_reducible first|apply Za|apply Zb|apply Zc|apply Zd|apply Zi|apply Zo|apply Zr)|((with_reducible refine Yz ?_);first|((with_reducible apply SK.indexAddr); rfl; rfl; rfl; first | exact hkl | exact hlt)|((with_reducible apply SK.load1R); rfl; rfl; first | exact hsc0 | exact hcell 6 _ rfl)|((with_reducible first|apply ZI|apply ZK|apply ZM);rfl;rfl)|((with_reducible apply ZS);rfl;rfl;rfl;omega)|((with_reducible apply Zqm);rfl;rfl;rfl)|((with_reducible first|apply Zqz|apply Zra);rfl;rfl;(focus (repeat constructor));rfl))|((with_reducible first|apply Zz|apply ZC);rfl)|refine Yi 4 i66_4 (by kernel_rfl) ?_)
    refine SK.callA rfl rfl (fun w1 g1 _ => find21 _ D s w1 (hd.mono g1) (by omega)) ?_
    unfold findV
    cases hf : fI D.nodes s with
    | none =>
      (repeat first|(with_reducible first|apply Za|apply Zb|apply Zc|apply Zd|apply Ze|apply Zi|apply Zk|apply Zm|apply Zp|apply Zs)|((with_reducible first|apply ZI|apply ZJ);rfl;rfl)|((with_reducible apply ZP);rfl;rfl)|((with_reducible first|apply Zqn|apply Zqo);rfl;rfl;rfl)|((with_reducible apply Zqx);rfl;rfl;rfl;rfl)|((with_reducible first|apply Zz|apply ZC);rfl))
      exact SK.retQ rfl (by (repeat constructor)) (fun w' hm' => ⟨(), trivial, by rw [metL_false hs (by simp [okS, hf])]; rfl, hm'.wk (by (repeat constructor))⟩)
    | some j =>
      by_cases hji : j = i
      · (repeat first|(with_reducible first|apply Za|apply Zb|apply Zc|apply Zd|apply Ze|apply Zi|apply Zk|apply Zm|apply Zp|apply Zs)|((with_reducible first|apply ZI|apply ZJ|apply ZO);rfl;rfl)|((with_reducible apply ZP);rfl;rfl)|((with_reducible apply ZW);rfl;rfl;rfl;omega)|((with_reducible first|apply Zqn|apply Zqo);rfl;rfl;rfl)|((with_reducible apply Zqs);rfl;rfl;rfl)|((with_reducible apply Zqx);rfl;rfl;rfl;rfl)|((with_reducible first|apply Zz|apply ZC);rfl))
        exact SK.retQ rfl (by (repeat constructor)) (fun w' hm' => ⟨(), trivial, by rw [metL_false hs (by simp [okS, hf, hji])]; rfl, hm'.wk (by (repeat constructor))⟩)
      · (repeat first|(with_reducible first|apply Za|apply Zb|apply Zc|apply Ze|apply Zi|apply Zs)|((with_reducible first|apply ZI|apply ZJ|apply ZO);rfl;rfl)|((with_reducible apply ZP);rfl;rfl)|((with_reducible apply Zqc);rfl;rfl;rfl;omega)|((with_reducible apply Zqn);rfl;rfl;rfl)|((with_reducible apply Zqs);rfl;rfl;rfl)|((with_reducible apply Zz);rfl))
        refine SK.callA rfl rfl (fun w1 g1 _ => at87 v over j w1 (hl.mono g1)) ?_
        cases hso : over.getD j false with
        | false =>
          (repeat first|(with_reducible first|apply Za|apply Zb|apply Zc|apply Zd|apply Zi|apply Zk|apply Zm|apply Zp|apply Zs)|((with_reducible first|apply ZJ|apply ZO);rfl;rfl)|((with_reducible apply ZP);rfl;rfl)|((with_reducible apply Zqs);rfl;rfl;rfl)|((with_reducible apply ZC);rfl))
          exact SK.retQ rfl (by (repeat constructor)) (fun w' hm' => ⟨(), trivial, by rw [metL_false hs (by simp only [okS, hf, hso, Bool.and_false])]; rfl, hm'.wk (by (repeat constructor))⟩)
        | true =>
          (repeat first|(with_reducible first|apply Zb|apply Zc|apply Zd|apply Zi|apply Zl|apply Zo|apply Zs)|((with_reducible first|apply ZI|apply ZJ|apply ZO);rfl;rfl)|((with_reducible apply ZP);rfl;rfl)|((with_reducible apply ZR);rfl;rfl;rfl;omega)|((with_reducible apply Zqs);rfl;rfl;rfl)|((with_reducible apply ZD);rfl))
          exact SK.roundW (k + 1) ⟨by omega, fun j' s' hj' hs' => by
            by_cases hjk : j' = k
            · subst hjk; rw [hs] at hs'; cases hs'; simp only [okS, hf, hso, Bool.and_true]; simpa using hji
            · exact hall j' s' (by omega) hs'⟩ (by omega) (by (repeat constructor)) (by (repeat constructor))
  · (repeat first|(with_reducible first|apply Za|apply Zb|apply Zc|apply Zd|apply Zi|apply Zj|apply Zn|apply Zp|apply Zq)|((with_reducible refine Yz ?_);first|((with_reducible apply SK.indexAddr); rfl; rfl; rfl; exact hlt)|((with_reducible apply SK.load1R); rfl; rfl; exact hcell 6 _ rfl)|((with_reducible first|apply ZI|apply ZJ|apply ZK|apply ZM);rfl;rfl)|((with_reducible apply ZY);rfl;rfl;rfl;omega)|((with_reducible apply Zqm);rfl;rfl;rfl)|((with_reducible apply Zqz);rfl;rfl;(focus (repeat constructor));rfl))|((with_reducible apply ZD);rfl))
    exact SK.retQ rfl (by (repeat constructor)) (fun w' hm' => ⟨(), trivial, by rw [metL_true (fun j s hs => hall j s (by have := (List.getElem?_eq_some_iff.1 hs).1; omega) hs)]; rfl, hm'.wk (by (repeat constructor))⟩)
end Go.Proofs.Ytdnjfmgldkommaa
