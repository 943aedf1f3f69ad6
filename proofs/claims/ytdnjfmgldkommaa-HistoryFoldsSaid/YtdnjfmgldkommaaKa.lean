/- Proved here: how the law compares and spoils. -/
import Derived.Test.YtdnjfmgldkommaaWd
import Derived.Tactics
import Derived.Tactics2
import Derived.Laws.StructEq
import Derived.Laws.Small
import Derived.Laws.Tables
import Derived.Test.YtdnjfmgldkommaaFb
import Derived.Test.YtdnjfmgldkommaaRa
namespace Go.Proofs.Ytdnjfmgldkommaa
open Go.Sx
def Alike (T : TypeId) (xs : List Value) : Prop := ∀ w, (Op.equalIn 10000 T (.agg xs.toArray) (.agg xs.toArray)).run Try.prog w = .ok true w
theorem alikeEv (x : Ev) : Alike 70 x.c := by
  intro w
  have u3 := Try.underlying3
  have a3 := Try.isAgg3
  have z3 := Try.sizeOf3
  have u9 := Try.underlying9
  have a9 := Try.isAgg9
  have z9 := Try.sizeOf9
  have hS : Try.prog.underlying 70 = some (.struct (Try.prog.fieldsOf 70)) := by kernel_rfl
  rw [show (10000 : Nat) = 9999 + 1 from rfl, run_equalIn_agg w 9999 70 _ _ hS (by kernel_rfl)]
  simp only [Program.fieldsOf, Try.underlying70]
  go_simp
theorem alikeNs (x : Ns) : Alike 56 x.c := by
  intro w
  have u3 := Try.underlying3
  have a3 := Try.isAgg3
  have z3 := Try.sizeOf3
  have u9 := Try.underlying9
  have a9 := Try.isAgg9
  have z9 := Try.sizeOf9
  have hS : Try.prog.underlying 56 = some (.struct (Try.prog.fieldsOf 56)) := by kernel_rfl
  rw [show (10000 : Nat) = 9999 + 1 from rfl, run_equalIn_agg w 9999 56 _ _ hS (by kernel_rfl)]
  simp only [Program.fieldsOf, Try.underlying56]
  go_simp
theorem alikeSg (x : Sg) : Alike 100 x.c := by
  intro w
  have u3 := Try.underlying3
  have a3 := Try.isAgg3
  have z3 := Try.sizeOf3
  have u9 := Try.underlying9
  have a9 := Try.isAgg9
  have z9 := Try.sizeOf9
  have hS : Try.prog.underlying 100 = some (.struct (Try.prog.fieldsOf 100)) := by kernel_rfl
  rw [show (10000 : Nat) = 9999 + 1 from rfl, run_equalIn_agg w 9999 100 _ _ hS (by kernel_rfl)]
  simp only [Program.fieldsOf, Try.underlying100]
  go_simp
theorem alikeMl (x : Ml) : Alike 50 x.c := by
  intro w
  have u3 := Try.underlying3
  have a3 := Try.isAgg3
  have z3 := Try.sizeOf3
  have u9 := Try.underlying9
  have a9 := Try.isAgg9
  have z9 := Try.sizeOf9
  have hS : Try.prog.underlying 50 = some (.struct (Try.prog.fieldsOf 50)) := by kernel_rfl
  rw [show (10000 : Nat) = 9999 + 1 from rfl, run_equalIn_agg w 9999 50 _ _ hS (by kernel_rfl)]
  simp only [Program.fieldsOf, Try.underlying50]
  go_simp
section
variable {P : Program} {ops : Array Oper} {w0 : World} {Mod : List Nat} {n : Nat} {F : FL} {M : ML} {K : Act → World → Prop} {chk : List Nat} {ty : TypeId} {pos : String} {aft : Array Edge} {d : Nat}
theorem SK.neSame {T U : TypeId} {x y : Operand} {xs : List Value} (hd : Nat.blt d n = true) (hx : ev F x = some (.agg xs.toArray)) (hy : ev F y = some (.agg xs.toArray)) (hal : Alike T xs) (hg : Try.prog.eqGuardType Try.prog.depth T = false)
    (h : SK w0 Mod n K ((d, .bool false) :: F) M) : SK w0 Mod n (stepE Try.prog ops ⟨some d, .binOp .neq T x y U, ty, pos, aft, none⟩ chk K) F M :=
  SK.bin hd hx hy (fun w' => by
    have h1 := run_eqGuard_agg (P := Try.prog) w' .neq T x y xs.toArray xs.toArray hg
    have h2 := run_neq_struct (P := Try.prog) w' T xs.toArray xs.toArray
    rw [hal w'] at h2
    rw [Sem.run_bind, h1, Result.andThen_ok, h2, Result.andThen_ok]
    rfl) h
end
theorem guard70 : Try.prog.eqGuardType Try.prog.depth 70 = false := by kernel_rfl
theorem guard56 : Try.prog.eqGuardType Try.prog.depth 56 = false := by kernel_rfl
theorem guard100 : Try.prog.eqGuardType Try.prog.depth 100 = false := by kernel_rfl
theorem guard50 : Try.prog.eqGuardType Try.prog.depth 50 = false := by kernel_rfl
theorem guard52 : Try.prog.eqGuardType Try.prog.depth 52 = false := by kernel_rfl
theorem eqCx (d : Nat) (w : World) : (Op.equalIn (d + 1) 48 (Value.complex FloatKind.f64 0 0) (Value.complex FloatKind.f64 0 0)).run Try.prog w = .ok true w := by
  have hf : Op.floatEq .f64 0 0 = true := by kernel_rfl
  simp [Op.equalIn, run_underlying Try.underlying48, hf]
theorem alikeTk (x : Tk) : Alike 52 x.c := by
  intro w
  have u3 := Try.underlying3
  have a3 := Try.isAgg3
  have z3 := Try.sizeOf3
  have u9 := Try.underlying9
  have a9 := Try.isAgg9
  have z9 := Try.sizeOf9
  have u50 := Try.underlying50
  have a50 := Try.isAgg50
  have z50 := Try.sizeOf50
  have hS : Try.prog.underlying 52 = some (.struct (Try.prog.fieldsOf 52)) := by kernel_rfl
  rw [show (10000 : Nat) = 9999 + 1 from rfl, run_equalIn_agg w 9999 52 _ _ hS (by kernel_rfl)]
  simp only [Program.fieldsOf, Try.underlying52]
  go_simp
  rw [show (9999 : Nat) = 9998 + 1 from rfl, eqCx]
  simp [Result.andThen]
theorem RSl.getSl {α : Type} {f : α → List Value} {k : Nat} {V : View} {l : List α} {b o : Nat} {i : Nat} {x : α} (h : ∀ (i : Nat) (x : α), l[i]? = some x → 0 < k → ∃ b' o', (some ⟨b, o, none⟩ : Option Addr) = some ⟨b', o', none⟩ ∧ ∀ (j : Nat) (u : Value), (f x)[j]? = some u → V b' (o' + i * k + j) u)
    (hx : l[i]? = some x) (hk : 0 < k) : ∀ (j : Nat) (u : Value), (f x)[j]? = some u → V b (o + i * k + j) u := by
  obtain ⟨b', o', he, hc⟩ := h i x hx hk
  injection he with he
  injection he with e1 e2 _
  subst e1; subst e2
  exact hc
set_option maxRecDepth 100000 in
set_option maxHeartbeats 2000000 in
theorem events23 (v1 v2 : Value) (l : List Ev) (w : World) (h1 : RSl (Vw w []) v1 l.length (l.flatMap Ev.c)) (h2 : RSl (Vw w []) v2 l.length (l.flatMap Ev.c)) (hl : l.length < 9223372036854775807) : Ans 23 [v1, v2] w (.bool true) := by
  obtain ⟨A1, c1, rfl, g1⟩ := h1.open (k := 4) (fun _ => rfl)
  obtain ⟨A2, c2, rfl, g2⟩ := h2.open (k := 4) (fun _ => rfl)
  refine enter0 Try.func23 rfl Try.ntmps23 rfl ?_
  (repeat first|(with_reducible first|apply Za|apply Zb|apply Zc|apply Zd|apply Zi|apply Zo|apply Zr)|((with_reducible first|apply ZI|apply ZJ|apply ZM);rfl;rfl)|((with_reducible apply Zqd);rfl;rfl;rfl;omega)|((with_reducible apply ZD);rfl))
  refine SK.loopW (fun i : Nat => [(5, .int .i64 (i : Int)), (0, .slice A1 l.length c1), (1, .slice A2 l.length c2)]) (fun _ => []) (fun i => i ≤ l.length) (fun i => l.length - i) 0 (Nat.zero_le _) (by (repeat constructor)) (by (repeat constructor)) ?_
  intro i hi
  by_cases hlt : i < l.length
  · obtain ⟨x, hx⟩ : ∃ x, l[i]? = some x := ⟨_, List.getElem?_eq_getElem hlt⟩
    obtain ⟨b1, o1, rfl, k1⟩ := g1 i x hx (by omega)
    obtain ⟨b2, o2, rfl, k2⟩ := g2 i x hx (by omega)
    (repeat first|(with_reducible first|apply Za|apply Zb|apply Zc|apply Zd|apply Zi|apply Zo|apply Zr)|((with_reducible refine Yz ?_);first|((with_reducible apply SK.indexAddr); rfl; rfl; rfl; exact hlt)|((with_reducible apply SK.loadAR); rfl; rfl; (first | exact k1 | exact k2); rfl)|((with_reducible first|apply ZI|apply ZM);rfl;rfl)|((with_reducible apply ZS);rfl;rfl;rfl;omega))|((with_reducible first|apply Zz|apply ZC);rfl)|refine Yi 6 i23_6 (by kernel_rfl) ?_)
    refine SK.neSame rfl rfl rfl (alikeEv x) guard70 ?_
    (repeat first|(with_reducible first|apply Zb|apply Zc|apply Zd|apply Ze|apply Zi|apply Zl|apply Zo)|((with_reducible first|apply ZI|apply ZJ);rfl;rfl)|((with_reducible apply ZR);rfl;rfl;rfl;omega)|((with_reducible apply ZD);rfl))
    exact SK.roundW (i + 1) (by omega) (by omega) (by (repeat constructor)) (by (repeat constructor))
  · (repeat first|(with_reducible first|apply Za|apply Zb|apply Zc|apply Zd|apply Zi|apply Zj|apply Zn|apply Zp|apply Zq)|((with_reducible first|apply ZI|apply ZJ|apply ZM);rfl;rfl)|((with_reducible apply ZY);rfl;rfl;rfl;omega)|((with_reducible apply ZD);rfl))
    exact SK.retQ rfl (by (repeat constructor)) (fun w' hm' => ⟨(), trivial, rfl, hm'.wk (by (repeat constructor))⟩)
set_option maxRecDepth 100000 in
set_option maxHeartbeats 2000000 in
theorem tasks39 (v1 v2 : Value) (l : List Tk) (w : World) (h1 : RSl (Vw w []) v1 l.length (l.flatMap Tk.c)) (h2 : RSl (Vw w []) v2 l.length (l.flatMap Tk.c)) (hl : l.length < 9223372036854775807) : Ans 39 [v1, v2] w (.bool true) := by
  obtain ⟨A1, c1, rfl, g1⟩ := h1.open (k := 13) (fun _ => rfl)
  obtain ⟨A2, c2, rfl, g2⟩ := h2.open (k := 13) (fun _ => rfl)
  refine enter0 Try.func39 rfl Try.ntmps39 rfl ?_
  (repeat first|(with_reducible first|apply Za|apply Zb|apply Zc|apply Zd|apply Zi|apply Zo|apply Zr)|((with_reducible first|apply ZI|apply ZJ|apply ZM);rfl;rfl)|((with_reducible apply Zqd);rfl;rfl;rfl;omega)|((with_reducible apply ZD);rfl))
  refine SK.loopW (fun i : Nat => [(5, .int .i64 (i : Int)), (0, .slice A1 l.length c1), (1, .slice A2 l.length c2)]) (fun _ => []) (fun i => i ≤ l.length) (fun i => l.length - i) 0 (Nat.zero_le _) (by (repeat constructor)) (by (repeat constructor)) ?_
  intro i hi
  by_cases hlt : i < l.length
  · obtain ⟨x, hx⟩ : ∃ x, l[i]? = some x := ⟨_, List.getElem?_eq_getElem hlt⟩
    obtain ⟨b1, o1, rfl, k1⟩ := g1 i x hx (by omega)
    obtain ⟨b2, o2, rfl, k2⟩ := g2 i x hx (by omega)
    (repeat first|(with_reducible first|apply Za|apply Zb|apply Zc|apply Zd|apply Zi|apply Zo|apply Zr)|((with_reducible refine Yz ?_);first|((with_reducible apply SK.indexAddr); rfl; rfl; rfl; exact hlt)|((with_reducible apply SK.loadAR); rfl; rfl; (first | exact k1 | exact k2); rfl)|((with_reducible first|apply ZI|apply ZM);rfl;rfl)|((with_reducible apply ZS);rfl;rfl;rfl;omega))|((with_reducible first|apply Zz|apply ZC);rfl)|refine Yi 6 i39_6 (by kernel_rfl) ?_)
    refine SK.neSame rfl rfl rfl (alikeTk x) guard52 ?_
    (repeat first|(with_reducible first|apply Zb|apply Zc|apply Zd|apply Ze|apply Zi|apply Zl|apply Zo)|((with_reducible first|apply ZI|apply ZJ);rfl;rfl)|((with_reducible apply ZR);rfl;rfl;rfl;omega)|((with_reducible apply ZD);rfl))
    exact SK.roundW (i + 1) (by omega) (by omega) (by (repeat constructor)) (by (repeat constructor))
  · (repeat first|(with_reducible first|apply Za|apply Zb|apply Zc|apply Zd|apply Zi|apply Zj|apply Zn|apply Zp|apply Zq)|((with_reducible first|apply ZI|apply ZJ|apply ZM);rfl;rfl)|((with_reducible apply ZY);rfl;rfl;rfl;omega)|((with_reducible apply ZD);rfl))
    exact SK.retQ rfl (by (repeat constructor)) (fun w' hm' => ⟨(), trivial, rfl, hm'.wk (by (repeat constructor))⟩)
theorem within_nn (n m : Int) (hm : 0 < m) (hm2 : m ≤ 1125899906842625) : 0 ≤ (if n.tmod m < 0 then n.tmod m + m else n.tmod m) ∧ (if n.tmod m < 0 then n.tmod m + m else n.tmod m) < m := by
  have h1 := Int.tmod_lt_of_pos n hm
  have h2 : -m < n.tmod m := Int.lt_tmod_of_pos n hm
  split <;> omega
def withinL (n m : Int) : Int := if n.tmod m < 0 then n.tmod m + m else n.tmod m
set_option maxRecDepth 100000 in
theorem within22 (n m : Int) (w : World) (hm : 0 < m) (hm2 : m ≤ 1125899906842625) : Ans 22 [.int .i64 n, .int .i64 m] w (.int .i64 (withinL n m)) := by
  have h1 := Int.tmod_lt_of_pos n hm
  have h2 : -m < n.tmod m := Int.lt_tmod_of_pos n hm
  have hm0 : m ≠ 0 := by omega
  refine enter0 Try.func22 rfl Try.ntmps22 rfl ?_
  (repeat first|(with_reducible first|apply Za|apply Zb|apply Zc|apply Zd|apply Zi)|((with_reducible first|apply ZI|apply ZJ);rfl;rfl))
  refine SK.irem rfl rfl rfl hm0 ?_
  by_cases hn : n.tmod m < 0
  · (repeat first|(with_reducible first|apply Za|apply Zb|apply Zc|apply Zd|apply Zi)|((with_reducible first|apply ZI|apply ZJ);rfl;rfl)|((with_reducible apply ZS);rfl;rfl;rfl;omega)|((with_reducible apply ZC);rfl))
    refine SK.iadd rfl rfl rfl ?_
    rw [wrap64_in (by omega) (by omega)]
    (repeat first|(with_reducible first|apply Za|apply Zb|apply Zc|apply Zd|apply Zi|apply Zp)|((with_reducible first|apply ZI|apply ZJ);rfl;rfl))
    exact SK.retQ rfl (by (repeat constructor)) (fun w' hm' => ⟨(), trivial, by unfold withinL; rw [if_pos hn]; rfl, hm'.wk (by (repeat constructor))⟩)
  · (repeat first|(with_reducible first|apply Za|apply Zb|apply Zc|apply Zd|apply Zi|apply Zo|apply Zp)|((with_reducible first|apply ZI|apply ZJ);rfl;rfl)|((with_reducible apply ZY);rfl;rfl;rfl;omega)|((with_reducible apply ZD);rfl))
    exact SK.retQ rfl (by (repeat constructor)) (fun w' hm' => ⟨(), trivial, by unfold withinL; rw [if_neg hn]; rfl, hm'.wk (by (repeat constructor))⟩)
set_option maxRecDepth 100000 in
set_option maxHeartbeats 4000000 in
theorem state24 (v1 v2 : Value) (S : Sta) (w : World) (h1 : RSt (Vw w []) v1 S) (h2 : RSt (Vw w []) v2 S) (hn : S.nodes.length < 9223372036854775807) (hs : S.sigs.length < 9223372036854775807) : Ans 24 [v1, v2] w (.bool true) := by
  obtain ⟨n1, s1, rfl, hn1, hs1⟩ := h1
  obtain ⟨n2, s2, rfl, hn2, hs2⟩ := h2
  obtain ⟨A1, c1, rfl, g1⟩ := hn1.open (k := 3) (fun _ => rfl)
  obtain ⟨A2, c2, rfl, g2⟩ := hn2.open (k := 3) (fun _ => rfl)
  obtain ⟨B1, d1, rfl, f1⟩ := hs1.open (k := 2) (fun _ => rfl)
  obtain ⟨B2, d2, rfl, f2⟩ := hs2.open (k := 2) (fun _ => rfl)
  refine enter0 Try.func24 rfl Try.ntmps24 rfl ?_
  (repeat first|(with_reducible first|apply Za|apply Zb|apply Zc|apply Zd|apply Zi|apply Zo|apply Zr|apply Zs)|((with_reducible first|apply ZI|apply ZJ|apply ZK|apply ZM|apply ZO);rfl;rfl)|((with_reducible apply Zqd);rfl;rfl;rfl;omega)|((with_reducible apply Zqe);rfl;rfl;rfl;exact fun h=>h rfl)|((with_reducible apply Zqs);rfl;rfl;rfl)|((with_reducible apply Zqz);rfl;rfl;(focus (repeat constructor));rfl)|((with_reducible apply Zrf);rfl;rfl;intro _)|((with_reducible apply ZD);rfl)|(refine SK.nextT ?_))
  rename_i b2 b3
  refine SK.loopW (fun i : Nat => [(5, .int .i64 (i : Int)), (2, .pointer (some ⟨b2, 0, none⟩)), (3, .pointer (some ⟨b3, 0, none⟩))]) (fun _ => [some (b2, S.c (.slice A1 S.nodes.length c1) (.slice B1 S.sigs.length d1), 33), some (b3, S.c (.slice A2 S.nodes.length c2) (.slice B2 S.sigs.length d2), 33)])
    (fun i => i ≤ S.nodes.length) (fun i => S.nodes.length - i) 0 (Nat.zero_le _) (by (repeat constructor)) (by (repeat constructor)) ?_
  intro i hi
  by_cases hlt : i < S.nodes.length
  · obtain ⟨x, hx⟩ : ∃ x, S.nodes[i]? = some x := ⟨_, List.getElem?_eq_getElem hlt⟩
    obtain ⟨p1, o1, rfl, k1⟩ := g1 i x hx (by omega)
    obtain ⟨p2, o2, rfl, k2⟩ := g2 i x hx (by omega)
    (repeat first|(with_reducible first|apply Za|apply Zb|apply Zc|apply Zd|apply Zi|apply Zo|apply Zr)|((with_reducible refine Yz ?_);first|((with_reducible apply SK.indexAddr); rfl; rfl; rfl; exact hlt)|((with_reducible apply SK.loadAR); rfl; rfl; (first | exact k1 | exact k2); rfl)|((with_reducible first|apply ZI|apply ZK|apply ZM);rfl;rfl)|((with_reducible apply ZS);rfl;rfl;rfl;omega)|((with_reducible apply Zqz);rfl;rfl;(focus (repeat constructor));rfl))|((with_reducible first|apply Zz|apply ZC);rfl)|refine Yi 6 i24_6 (by kernel_rfl) ?_)
    refine SK.neSame rfl rfl rfl (alikeNs x) guard56 ?_
    (repeat first|(with_reducible first|apply Zb|apply Zc|apply Zd|apply Ze|apply Zi|apply Zl|apply Zo)|((with_reducible first|apply ZI|apply ZJ);rfl;rfl)|((with_reducible apply ZR);rfl;rfl;rfl;omega)|((with_reducible apply ZD);rfl))
    exact SK.roundW (i + 1) (by omega) (by omega) (by (repeat constructor)) (by (repeat constructor))
  · (repeat first|(with_reducible first|apply Za|apply Zb|apply Zc|apply Zd|apply Zi|apply Zj|apply Zn|apply Zq|apply Zr)|((with_reducible first|apply ZI|apply ZJ|apply ZK|apply ZM);rfl;rfl)|((with_reducible apply ZY);rfl;rfl;rfl;omega)|((with_reducible apply Zqz);rfl;rfl;(focus (repeat constructor));rfl)|((with_reducible apply ZD);rfl))
    refine SK.loopW (fun i : Nat => [(6, .int .i64 (i : Int)), (2, .pointer (some ⟨b2, 0, none⟩)), (3, .pointer (some ⟨b3, 0, none⟩))]) (fun _ => [some (b2, S.c (.slice A1 S.nodes.length c1) (.slice B1 S.sigs.length d1), 33), some (b3, S.c (.slice A2 S.nodes.length c2) (.slice B2 S.sigs.length d2), 33)])
      (fun i => i ≤ S.sigs.length) (fun i => S.sigs.length - i) 0 (Nat.zero_le _) (by (repeat constructor)) (by (repeat constructor)) ?_
    intro i hi
    by_cases hlt : i < S.sigs.length
    · obtain ⟨x, hx⟩ : ∃ x, S.sigs[i]? = some x := ⟨_, List.getElem?_eq_getElem hlt⟩
      obtain ⟨p1, o1, rfl, k1⟩ := f1 i x hx (by omega)
      obtain ⟨p2, o2, rfl, k2⟩ := f2 i x hx (by omega)
      (repeat first|(with_reducible first|apply Za|apply Zb|apply Zc|apply Zd|apply Zi|apply Zo|apply Zr)|((with_reducible refine Yz ?_);first|((with_reducible apply SK.indexAddr); rfl; rfl; rfl; exact hlt)|((with_reducible apply SK.loadAR); rfl; rfl; (first | exact k1 | exact k2); rfl)|((with_reducible first|apply ZI|apply ZK|apply ZM);rfl;rfl)|((with_reducible apply ZS);rfl;rfl;rfl;omega)|((with_reducible apply Zqz);rfl;rfl;(focus (repeat constructor));rfl))|((with_reducible first|apply Zz|apply ZC);rfl)|refine Yi 11 i24_11 (by kernel_rfl) ?_)
      refine SK.neSame rfl rfl rfl (alikeSg x) guard100 ?_
      (repeat first|(with_reducible first|apply Zb|apply Zc|apply Zd|apply Ze|apply Zi|apply Zl|apply Zo)|((with_reducible first|apply ZI|apply ZJ);rfl;rfl)|((with_reducible apply ZR);rfl;rfl;rfl;omega)|((with_reducible apply ZD);rfl))
      exact SK.roundW (i + 1) (by omega) (by omega) (by (repeat constructor)) (by (repeat constructor))
    · (repeat first|(with_reducible first|apply Za|apply Zb|apply Zc|apply Zd|apply Zi|apply Zj|apply Zn|apply Zp|apply Zq)|((with_reducible first|apply ZI|apply ZJ|apply ZK|apply ZM);rfl;rfl)|((with_reducible apply ZY);rfl;rfl;rfl;omega)|((with_reducible apply Zqz);rfl;rfl;(focus (repeat constructor));rfl)|((with_reducible apply ZD);rfl))
      exact SK.retQ rfl (by (repeat constructor)) (fun w' hm' => ⟨(), trivial, rfl, hm'.wk (by (repeat constructor))⟩)
theorem wst_spoilE {l : List Ev} {i : Nat} (hi : i < l.length) (sp : List Value) (y : Ev) : st (l.flatMap Ev.c ++ sp) (0 + i * 4) (Ev.c y) = some ((l.set i y).flatMap Ev.c ++ sp) := by
  rw [Nat.zero_add]; exact flat_st (f := Ev.c) (k := 4) (fun _ => rfl) l sp i l[i] y (List.getElem?_eq_getElem hi)
set_option maxRecDepth 100000 in
set_option maxHeartbeats 4000000 in
theorem spoilE41 (o : OwnD) (l : List Ev) (w : World) (ho : o.ok l.length 4 (l.flatMap Ev.c)) (hl : l.length ≤ 100000) (hm : Mem w (keys [o.ent (l.flatMap Ev.c) 70]) [o.ent (l.flatMap Ev.c) 70] w) :
    Calls Try.prog 41 [o.val l.length].toArray w (Ret w [o.ent (l.flatMap Ev.c) 70] (fun _ : Unit => True) (fun _ => .tuple #[]) (fun _ => [])) := by
  refine enterF (M := [o.ent (l.flatMap Ev.c) 70]) Try.func41 rfl Try.ntmps41 rfl hm ?_
  obtain ⟨A, cap, hv⟩ : ∃ A cap, o.val l.length = .slice A l.length cap := by
    cases o with
    | none => have h0 : l.length = 0 := ho.2; exact ⟨none, 0, by rw [h0]; rfl⟩
    | some q => exact ⟨_, _, rfl⟩
  (repeat first|(with_reducible first|apply Za|apply Zb|apply Zc|apply Zd|apply Zi|apply Zr)|((with_reducible apply ZJ);rfl;rfl))
  refine SK.loopW (fun g : Nat × List Ev => [(2, .int .i64 (g.1 : Int)), (0, o.val l.length)]) (fun g => [o.ent (g.2.flatMap Ev.c) 70]) (fun g => g.1 ≤ l.length ∧ g.2.length = l.length) (fun g => l.length - g.1) (0, l) ⟨Nat.zero_le _, rfl⟩ (by (repeat constructor)) (by (repeat constructor)) ?_
  rintro ⟨i, l1⟩ ⟨hi, hl1⟩
  dsimp only at hi hl1 ⊢
  by_cases hlt : i < l.length
  · cases o with
    | none => have h0 : l.length = 0 := ho.2; omega
    | some q =>
      obtain ⟨B, cb, sp⟩ := q
      have hst := wst_spoilE (l := l1) (i := i) (by omega) sp (⟨-1, e0, e0, 0⟩ : Ev)
      (repeat first|(with_reducible first|apply Za|apply Zb|apply Zc|apply Zd|apply Zi|apply Zl|apply Zo|apply Zr|apply Zs)|((with_reducible refine Yz ?_);first|((with_reducible apply SK.indexAddr); rfl; rfl; rfl; exact hlt)|((with_reducible apply SK.storeA); rfl; rfl; rfl; exact List.cons_ne_nil _ _; rfl; (focus (repeat (first | exact Upd.head _ | apply Upd.tail))); with_reducible exact hst)|((with_reducible first|apply ZI|apply ZJ|apply ZM);rfl;rfl)|((with_reducible first|apply ZR|apply ZS);rfl;rfl;rfl;omega)|((with_reducible apply Zqr);rfl;rfl;rfl))|((with_reducible apply ZC);rfl))
      exact SK.roundW (i + 1, l1.set i (⟨-1, e0, e0, 0⟩ : Ev)) ⟨by omega, by simpa using hl1⟩ (by dsimp only; omega) (by (repeat constructor)) (by (repeat constructor))
  · (repeat first|(with_reducible first|apply Za|apply Zb|apply Zc)|((with_reducible apply ZI);rfl;rfl))
    refine SK.slot (j := 5) rfl hv ?_
    (repeat first|(with_reducible first|apply Za|apply Zb|apply Zc|apply Zd|apply Zi|apply Zj|apply Zn|apply Zq|apply Zr)|((with_reducible first|apply ZJ|apply ZM);rfl;rfl)|((with_reducible apply ZY);rfl;rfl;rfl;omega)|((with_reducible apply ZD);rfl))
    have hok1 : o.ok l1.length 4 (l1.flatMap Ev.c) := by
      rw [hl1]
      have e1 : (l1.flatMap Ev.c).length = (l.flatMap Ev.c).length := by rw [flat_len (f := Ev.c) (k := 4) (fun _ => rfl), flat_len (f := Ev.c) (k := 4) (fun _ => rfl), hl1]
      cases o with
      | none => exact ⟨by rw [e1]; exact ho.1, ho.2⟩
      | some q => exact ⟨by rw [e1]; exact ho.1, ho.2.1, ho.2.2.1, by rw [List.length_append, e1, ← List.length_append]; exact ho.2.2.2⟩
    refine SK.loopW (fun g : Nat × OwnD × List Ev => [(3, .int .i64 (g.1 : Int)), (0, g.2.1.val g.2.2.length)]) (fun g => [g.2.1.ent (g.2.2.flatMap Ev.c) 70]) (fun g => g.1 ≤ 10 ∧ g.2.2.length = l.length + g.1 ∧ g.2.1.ok g.2.2.length 4 (g.2.2.flatMap Ev.c)) (fun g => 10 - g.1) (0, o, l1) ⟨by omega, hl1, hok1⟩ (by dsimp only; rw [hl1]; (repeat constructor)) (by (repeat constructor)) ?_
    rintro ⟨j, o2, l2⟩ ⟨hj, hl2, ho2⟩
    dsimp only at hj hl2 ho2 ⊢
    by_cases h10 : j < 10
    · (repeat first|(with_reducible first|apply Za|apply Zb|apply Zc|apply Zd|apply Zi|apply Zo|apply Zr|apply Zs)|((with_reducible apply ZI);rfl;rfl)|((with_reducible apply ZS);rfl;rfl;rfl;omega)|((with_reducible apply Zqr);rfl;rfl;rfl)|((with_reducible apply Zrd);rfl;rfl;rfl;rfl;rfl;rfl;rfl;intro _)|((with_reducible apply ZC);rfl))
      refine SK.appendP (o := o2) (xs := l2.flatMap Ev.c) (news := Ev.c (⟨-2, e0, e0, 0⟩ : Ev)) (m := 1) rfl rfl ho2 rfl (by (repeat constructor)) (Src.mem (by (repeat constructor)) rfl) rfl rfl rfl rfl (by unfold maxLen; omega) (by omega) (fun o3 ho3 _ => ?_)
      (repeat first|(with_reducible first|apply Zb|apply Zc|apply Zd|apply Zi|apply Zl|apply Zs)|((with_reducible first|apply ZI|apply ZJ);rfl;rfl)|((with_reducible apply ZR);rfl;rfl;rfl;omega))
      have e3 : (l2 ++ [(⟨-2, e0, e0, 0⟩ : Ev)]).flatMap Ev.c = l2.flatMap Ev.c ++ Ev.c (⟨-2, e0, e0, 0⟩ : Ev) := by simp
      refine SK.roundW (j + 1, o3, l2 ++ [(⟨-2, e0, e0, 0⟩ : Ev)]) ⟨by omega, by simp; omega, by dsimp only; rw [e3, List.length_append]; exact ho3⟩ (by dsimp only; omega) (by dsimp only; rw [List.length_append]; (repeat constructor)) (by dsimp only; rw [e3]; (repeat constructor))
    · (repeat first|(with_reducible first|apply Za|apply Zb|apply Zc|apply Zd|apply Zi|apply Zj|apply Zn|apply Zq)|((with_reducible apply ZI);rfl;rfl)|((with_reducible apply ZY);rfl;rfl;rfl;omega)|((with_reducible apply ZD);rfl))
      exact SK.endQ rfl (by (repeat constructor)) (fun w' hm' => ⟨(), trivial, rfl, hm'.wk (by (repeat constructor))⟩)
theorem wst_spoilT {l : List Tk} {i : Nat} (hi : i < l.length) (sp : List Value) (y : Tk) : st (l.flatMap Tk.c ++ sp) (0 + i * 13) (Tk.c y) = some ((l.set i y).flatMap Tk.c ++ sp) := by
  rw [Nat.zero_add]; exact flat_st (f := Tk.c) (k := 13) (fun _ => rfl) l sp i l[i] y (List.getElem?_eq_getElem hi)
set_option maxRecDepth 100000 in
set_option maxHeartbeats 4000000 in
theorem spoilT40 (o : OwnD) (l : List Tk) (w : World) (ho : o.ok l.length 13 (l.flatMap Tk.c)) (hl : l.length ≤ 100000) (hm : Mem w (keys [o.ent (l.flatMap Tk.c) 52]) [o.ent (l.flatMap Tk.c) 52] w) :
    Calls Try.prog 40 [o.val l.length].toArray w (Ret w [o.ent (l.flatMap Tk.c) 52] (fun _ : Unit => True) (fun _ => .tuple #[]) (fun _ => [])) := by
  refine enterF (M := [o.ent (l.flatMap Tk.c) 52]) Try.func40 rfl Try.ntmps40 rfl hm ?_
  obtain ⟨A, cap, hv⟩ : ∃ A cap, o.val l.length = .slice A l.length cap := by
    cases o with
    | none => have h0 : l.length = 0 := ho.2; exact ⟨none, 0, by rw [h0]; rfl⟩
    | some q => exact ⟨_, _, rfl⟩
  (repeat first|(with_reducible first|apply Za|apply Zb|apply Zc|apply Zd|apply Zi|apply Zr)|((with_reducible apply ZJ);rfl;rfl))
  refine SK.loopW (fun g : Nat × List Tk => [(2, .int .i64 (g.1 : Int)), (0, o.val l.length)]) (fun g => [o.ent (g.2.flatMap Tk.c) 52]) (fun g => g.1 ≤ l.length ∧ g.2.length = l.length) (fun g => l.length - g.1) (0, l) ⟨Nat.zero_le _, rfl⟩ (by (repeat constructor)) (by (repeat constructor)) ?_
  rintro ⟨i, l1⟩ ⟨hi, hl1⟩
  dsimp only at hi hl1 ⊢
  by_cases hlt : i < l.length
  · cases o with
    | none => have h0 : l.length = 0 := ho.2; omega
    | some q =>
      obtain ⟨B, cb, sp⟩ := q
      have hst := wst_spoilT (l := l1) (i := i) (by omega) sp (⟨-1, e0, e0, 0, 0, ml0⟩ : Tk)
      (repeat first|(with_reducible first|apply Za|apply Zb|apply Zc|apply Zd|apply Zi|apply Zl|apply Zo|apply Zr|apply Zs)|((with_reducible refine Yz ?_);first|((with_reducible apply SK.indexAddr); rfl; rfl; rfl; exact hlt)|((with_reducible apply SK.storeA); rfl; rfl; rfl; exact List.cons_ne_nil _ _; rfl; (focus (repeat (first | exact Upd.head _ | apply Upd.tail))); with_reducible exact hst)|((with_reducible first|apply ZI|apply ZJ|apply ZM);rfl;rfl)|((with_reducible first|apply ZR|apply ZS);rfl;rfl;rfl;omega)|((with_reducible apply Zqr);rfl;rfl;rfl))|((with_reducible apply ZC);rfl))
      exact SK.roundW (i + 1, l1.set i (⟨-1, e0, e0, 0, 0, ml0⟩ : Tk)) ⟨by omega, by simpa using hl1⟩ (by dsimp only; omega) (by (repeat constructor)) (by (repeat constructor))
  · (repeat first|(with_reducible first|apply Za|apply Zb|apply Zc)|((with_reducible apply ZI);rfl;rfl))
    refine SK.slot (j := 5) rfl hv ?_
    (repeat first|(with_reducible first|apply Za|apply Zb|apply Zc|apply Zd|apply Zi|apply Zj|apply Zn|apply Zq|apply Zr)|((with_reducible first|apply ZJ|apply ZM);rfl;rfl)|((with_reducible apply ZY);rfl;rfl;rfl;omega)|((with_reducible apply ZD);rfl))
    have hok1 : o.ok l1.length 13 (l1.flatMap Tk.c) := by
      rw [hl1]
      have e1 : (l1.flatMap Tk.c).length = (l.flatMap Tk.c).length := by rw [flat_len (f := Tk.c) (k := 13) (fun _ => rfl), flat_len (f := Tk.c) (k := 13) (fun _ => rfl), hl1]
      cases o with
      | none => exact ⟨by rw [e1]; exact ho.1, ho.2⟩
      | some q => exact ⟨by rw [e1]; exact ho.1, ho.2.1, ho.2.2.1, by rw [List.length_append, e1, ← List.length_append]; exact ho.2.2.2⟩
    refine SK.loopW (fun g : Nat × OwnD × List Tk => [(3, .int .i64 (g.1 : Int)), (0, g.2.1.val g.2.2.length)]) (fun g => [g.2.1.ent (g.2.2.flatMap Tk.c) 52]) (fun g => g.1 ≤ 10 ∧ g.2.2.length = l.length + g.1 ∧ g.2.1.ok g.2.2.length 13 (g.2.2.flatMap Tk.c)) (fun g => 10 - g.1) (0, o, l1) ⟨by omega, hl1, hok1⟩ (by dsimp only; rw [hl1]; (repeat constructor)) (by (repeat constructor)) ?_
    rintro ⟨j, o2, l2⟩ ⟨hj, hl2, ho2⟩
    dsimp only at hj hl2 ho2 ⊢
    by_cases h10 : j < 10
    · (repeat first|(with_reducible first|apply Za|apply Zb|apply Zc|apply Zd|apply Zi|apply Zo|apply Zr|apply Zs)|((with_reducible apply ZI);rfl;rfl)|((with_reducible apply ZS);rfl;rfl;rfl;omega)|((with_reducible apply Zqr);rfl;rfl;rfl)|((with_reducible apply Zrd);rfl;rfl;rfl;rfl;rfl;rfl;rfl;intro _)|((with_reducible apply ZC);rfl))
      refine SK.appendP (o := o2) (xs := l2.flatMap Tk.c) (news := Tk.c (⟨-2, e0, e0, 0, 0, ml0⟩ : Tk)) (m := 1) rfl rfl ho2 rfl (by (repeat constructor)) (Src.mem (by (repeat constructor)) rfl) rfl rfl rfl rfl (by unfold maxLen; omega) (by omega) (fun o3 ho3 _ => ?_)
      (repeat first|(with_reducible first|apply Zb|apply Zc|apply Zd|apply Zi|apply Zl|apply Zs)|((with_reducible first|apply ZI|apply ZJ);rfl;rfl)|((with_reducible apply ZR);rfl;rfl;rfl;omega))
      have e3 : (l2 ++ [(⟨-2, e0, e0, 0, 0, ml0⟩ : Tk)]).flatMap Tk.c = l2.flatMap Tk.c ++ Tk.c (⟨-2, e0, e0, 0, 0, ml0⟩ : Tk) := by simp
      refine SK.roundW (j + 1, o3, l2 ++ [(⟨-2, e0, e0, 0, 0, ml0⟩ : Tk)]) ⟨by omega, by simp; omega, by dsimp only; rw [e3, List.length_append]; exact ho3⟩ (by dsimp only; omega) (by dsimp only; rw [List.length_append]; (repeat constructor)) (by dsimp only; rw [e3]; (repeat constructor))
    · (repeat first|(with_reducible first|apply Za|apply Zb|apply Zc|apply Zd|apply Zi|apply Zj|apply Zn|apply Zq)|((with_reducible apply ZI);rfl;rfl)|((with_reducible apply ZY);rfl;rfl;rfl;omega)|((with_reducible apply ZD);rfl))
      exact SK.endQ rfl (by (repeat constructor)) (fun w' hm' => ⟨(), trivial, rfl, hm'.wk (by (repeat constructor))⟩)
@[reducible] def badN : Ns := ⟨-1, 0, ⟨#[115, 112, 111, 105, 108, 116]⟩⟩
@[reducible] def grN : Ns := ⟨-2, 0, e0⟩
@[reducible] def grS : Sg := ⟨⟨#[103, 114, 111, 119, 110]⟩, e0⟩
@[reducible] def badS : Sg := ⟨⟨#[115, 112, 111, 105, 108, 116]⟩, e0⟩
theorem wst_N {l : List Ns} {i : Nat} (hi : i < l.length) (sp : List Value) (y : Ns) : st (l.flatMap Ns.c ++ sp) (0 + i * 3) (Ns.c y) = some ((l.set i y).flatMap Ns.c ++ sp) := by
  rw [Nat.zero_add]; exact flat_st (f := Ns.c) (k := 3) (fun _ => rfl) l sp i l[i] y (List.getElem?_eq_getElem hi)
theorem wst_S {l : List Sg} {i : Nat} (hi : i < l.length) (sp : List Value) (y : Sg) : st (l.flatMap Sg.c ++ sp) (0 + i * 2) (Sg.c y) = some ((l.set i y).flatMap Sg.c ++ sp) := by
  rw [Nat.zero_add]; exact flat_st (f := Sg.c) (k := 2) (fun _ => rfl) l sp i l[i] y (List.getElem?_eq_getElem hi)
theorem ok_len {α : Type} {f : α → List Value} {k : Nat} (hk : ∀ x, (f x).length = k) {o : OwnD} {l m : List α} (h : m.length = l.length) (ho : o.ok l.length k (l.flatMap f)) : o.ok m.length k (m.flatMap f) := by
  have e1 : (m.flatMap f).length = (l.flatMap f).length := by rw [flat_len hk, flat_len hk, h]
  rw [h]
  cases o with
  | none => exact ⟨by rw [e1]; exact ho.1, ho.2⟩
  | some q => exact ⟨by rw [e1]; exact ho.1, ho.2.1, ho.2.2.1, by rw [List.length_append, e1, ← List.length_append]; exact ho.2.2.2⟩
theorem val_sl {k n : Nat} {xs : List Value} {o : OwnD} (ho : o.ok n k xs) : ∃ A cap, o.val n = .slice A n cap := by
  cases o with
  | none => have h0 : n = 0 := ho.2; exact ⟨none, 0, by rw [h0]; rfl⟩
  | some q => exact ⟨_, _, rfl⟩
set_option maxRecDepth 100000 in
set_option maxHeartbeats 8000000 in
theorem spoilS29 (S : Sta) (y : OwnD × OwnD) (w : World) (hy : OSt S y) (hsm : Small S) (hm : Mem w (keys (stM S y)) (stM S y) w) :
    Calls Try.prog 29 [stV S y].toArray w (Ret w (stM S y) (fun _ : Unit => True) (fun _ => .tuple #[]) (fun _ => [])) := by
  obtain ⟨oN, oS⟩ := y
  obtain ⟨hoN, hoS⟩ := hy
  obtain ⟨hs1, hs2⟩ := hsm
  dsimp only at hoN hoS
  refine enterF (M := stM S (oN, oS)) Try.func29 rfl Try.ntmps29 rfl hm ?_
  (repeat first|(with_reducible first|apply Za|apply Zb|apply Zc|apply Zd|apply Zi|apply Zr|apply Zs)|((with_reducible apply ZJ);rfl;rfl)|((with_reducible apply Zrf);rfl;rfl;intro _))
  rename_i b1
  refine SK.loopW (fun g : Nat × List Ns => [(2, .int .i64 (g.1 : Int)), (1, .pointer (some ⟨b1, 0, none⟩))]) (fun g => [some (b1, S.c (oN.val S.nodes.length) (oS.val S.sigs.length), 33), oN.ent (g.2.flatMap Ns.c) 56, oS.ent (S.sigs.flatMap Sg.c) 100])
    (fun g => g.1 ≤ S.nodes.length ∧ g.2.length = S.nodes.length) (fun g => S.nodes.length - g.1) (0, S.nodes) ⟨Nat.zero_le _, rfl⟩ (by (repeat constructor)) (by (repeat constructor)) ?_
  rintro ⟨i, l1⟩ ⟨hi, hl1⟩
  dsimp only at hi hl1 ⊢
  by_cases hlt : i < S.nodes.length
  · cases oN with
    | none => have h0 : S.nodes.length = 0 := hoN.2; omega
    | some q =>
      obtain ⟨B, cb, sp⟩ := q
      have hst := wst_N (l := l1) (i := i) (by omega) sp badN
      (repeat first|(with_reducible first|apply Za|apply Zb|apply Zc|apply Zd|apply Zi|apply Zl|apply Zo|apply Zr|apply Zs)|((with_reducible refine Yz ?_);first|((with_reducible apply SK.indexAddr); rfl; rfl; rfl; exact hlt)|((with_reducible apply SK.storeA); rfl; rfl; rfl; exact List.cons_ne_nil _ _; rfl; (focus (repeat (first | exact Upd.head _ | apply Upd.tail))); with_reducible exact hst)|((with_reducible first|apply ZI|apply ZJ|apply ZK|apply ZM);rfl;rfl)|((with_reducible first|apply ZR|apply ZS);rfl;rfl;rfl;omega)|((with_reducible apply Zqr);rfl;rfl;rfl)|((with_reducible apply Zqz);rfl;rfl;(focus (repeat constructor));rfl))|((with_reducible apply ZC);rfl))
      exact SK.roundW (i + 1, l1.set i badN) ⟨by omega, by simpa using hl1⟩ (by dsimp only; omega) (by (repeat constructor)) (by (repeat constructor))
  · obtain ⟨AN, cN, hvN⟩ := val_sl hoN
    (repeat first|(with_reducible first|apply Za|apply Zb|apply Zc)|((with_reducible first|apply ZI|apply ZK);rfl;rfl)|((with_reducible apply Zqz);rfl;rfl;(focus (repeat constructor));rfl))
    refine SK.slot (j := 7) rfl hvN ?_
    (repeat first|(with_reducible first|apply Za|apply Zb|apply Zc|apply Zd|apply Zi|apply Zj|apply Zn|apply Zq|apply Zr)|((with_reducible first|apply ZJ|apply ZM);rfl;rfl)|((with_reducible apply ZY);rfl;rfl;rfl;omega)|((with_reducible apply ZD);rfl))
    have hok1 : oN.ok l1.length 3 (l1.flatMap Ns.c) := ok_len ns_len hl1 hoN
    refine SK.loopW (fun g : Nat × (OwnD × List Ns) × (OwnD × List Sg) => [(3, .int .i64 (g.1 : Int)), (1, .pointer (some ⟨b1, 0, none⟩))])
      (fun g => [some (b1, S.c (g.2.1.1.val g.2.1.2.length) (g.2.2.1.val g.2.2.2.length), 33), g.2.1.1.ent (g.2.1.2.flatMap Ns.c) 56, g.2.2.1.ent (g.2.2.2.flatMap Sg.c) 100])
      (fun g => g.1 ≤ 10 ∧ g.2.1.2.length = S.nodes.length + g.1 ∧ g.2.2.2.length = S.sigs.length + g.1 ∧ g.2.1.1.ok g.2.1.2.length 3 (g.2.1.2.flatMap Ns.c) ∧ g.2.2.1.ok g.2.2.2.length 2 (g.2.2.2.flatMap Sg.c)) (fun g => 10 - g.1)
      (0, (oN, l1), (oS, S.sigs)) ⟨by omega, hl1, rfl, hok1, hoS⟩ (by (repeat constructor)) (by dsimp only; rw [hl1]; (repeat constructor)) ?_
    rintro ⟨j, ⟨o2, l2⟩, o3, l3⟩ ⟨hj, hl2, hl3, ho2, ho3⟩
    dsimp only at hj hl2 hl3 ho2 ho3 ⊢
    by_cases h10 : j < 10
    · (repeat first|(with_reducible first|apply Za|apply Zb|apply Zc|apply Zd|apply Zi|apply Zo|apply Zr|apply Zs)|((with_reducible first|apply ZI|apply ZK);rfl;rfl)|((with_reducible apply ZS);rfl;rfl;rfl;omega)|((with_reducible apply Zqr);rfl;rfl;rfl)|((with_reducible apply Zqz);rfl;rfl;(focus (repeat constructor));rfl)|((with_reducible apply Zrd);rfl;rfl;rfl;rfl;rfl;rfl;rfl;intro _)|((with_reducible apply ZC);rfl))
      refine SK.appendP (o := o2) (xs := l2.flatMap Ns.c) (news := Ns.c grN) (m := 1) rfl rfl ho2 rfl (by (repeat constructor)) (Src.mem (by (repeat constructor)) rfl) rfl rfl rfl rfl (by unfold maxLen; omega) (by omega) (fun o4 ho4 _ => ?_)
      (repeat first|(with_reducible first|apply Zb|apply Zc|apply Zd|apply Zi|apply Zs)|((with_reducible apply ZK);rfl;rfl)|((with_reducible apply Zqr);rfl;rfl;rfl)|((with_reducible apply Zqz);rfl;rfl;(focus (repeat constructor));rfl)|((with_reducible apply Zrb);rfl;rfl;(first|rfl|exact OwnD.plain_val _ _);(focus (repeat constructor));rfl)|((with_reducible apply Zrd);rfl;rfl;rfl;rfl;rfl;rfl;rfl;intro _))
      refine SK.appendP (o := o3) (xs := l3.flatMap Sg.c) (news := Sg.c grS) (m := 1) rfl rfl ho3 rfl (by (repeat constructor)) (Src.mem (by (repeat constructor)) rfl) rfl rfl rfl rfl (by unfold maxLen; omega) (by omega) (fun o5 ho5 _ => ?_)
      (repeat first|(with_reducible first|apply Zb|apply Zc|apply Zd|apply Zi|apply Zl|apply Zs)|((with_reducible first|apply ZI|apply ZJ|apply ZK);rfl;rfl)|((with_reducible apply ZR);rfl;rfl;rfl;omega)|((with_reducible apply Zrb);rfl;rfl;(first|rfl|exact OwnD.plain_val _ _);(focus (repeat constructor));rfl))
      have e4 : (l2 ++ [grN]).flatMap Ns.c = l2.flatMap Ns.c ++ Ns.c grN := by simp
      have e5 : (l3 ++ [grS]).flatMap Sg.c = l3.flatMap Sg.c ++ Sg.c grS := by simp
      refine SK.roundW (j + 1, (o4, l2 ++ [grN]), (o5, l3 ++ [grS])) ⟨by omega, by simp; omega, by simp; omega, by dsimp only; rw [e4, List.length_append]; exact ho4, by dsimp only; rw [e5, List.length_append]; exact ho5⟩ (by dsimp only; omega) (by (repeat constructor)) (by dsimp only; rw [e4, e5, List.length_append, List.length_append]; (repeat constructor))
    · (repeat first|(with_reducible first|apply Za|apply Zb|apply Zc|apply Zd|apply Zi|apply Zj|apply Zn|apply Zq|apply Zr)|((with_reducible first|apply ZI|apply ZJ);rfl;rfl)|((with_reducible apply ZY);rfl;rfl;rfl;omega)|((with_reducible apply ZD);rfl))
      refine SK.loopW (fun g : Nat × List Sg => [(4, .int .i64 (g.1 : Int)), (1, .pointer (some ⟨b1, 0, none⟩))]) (fun g => [some (b1, S.c (o2.val l2.length) (o3.val l3.length), 33), o3.ent (g.2.flatMap Sg.c) 100])
        (fun g => g.1 ≤ l3.length ∧ g.2.length = l3.length) (fun g => l3.length - g.1) (0, l3) ⟨Nat.zero_le _, rfl⟩ (by (repeat constructor)) (by (repeat constructor)) ?_
      rintro ⟨i, l4⟩ ⟨hi4, hl4⟩
      dsimp only at hi4 hl4 ⊢
      by_cases hlt4 : i < l3.length
      · cases o3 with
        | none => have h0 : l3.length = 0 := ho3.2; omega
        | some q =>
          obtain ⟨B, cb, sp⟩ := q
          have hst := wst_S (l := l4) (i := i) (by omega) sp badS
          (repeat first|(with_reducible first|apply Za|apply Zb|apply Zc|apply Zd|apply Zi|apply Zl|apply Zo|apply Zr|apply Zs)|((with_reducible refine Yz ?_);first|((with_reducible apply SK.indexAddr); rfl; rfl; rfl; exact hlt4)|((with_reducible apply SK.storeA); rfl; rfl; rfl; exact List.cons_ne_nil _ _; rfl; (focus (repeat (first | exact Upd.head _ | apply Upd.tail))); with_reducible exact hst)|((with_reducible first|apply ZI|apply ZJ|apply ZK|apply ZM);rfl;rfl)|((with_reducible first|apply ZR|apply ZS);rfl;rfl;rfl;omega)|((with_reducible apply Zqr);rfl;rfl;rfl)|((with_reducible apply Zqz);rfl;rfl;(focus (repeat constructor));rfl))|((with_reducible apply ZC);rfl))
          exact SK.roundW (i + 1, l4.set i badS) ⟨by omega, by simpa using hl4⟩ (by dsimp only; omega) (by (repeat constructor)) (by (repeat constructor))
      · obtain ⟨AS, cS, hvS⟩ := val_sl ho3
        (repeat first|(with_reducible first|apply Za|apply Zb|apply Zc)|((with_reducible first|apply ZI|apply ZK);rfl;rfl)|((with_reducible apply Zqz);rfl;rfl;(focus (repeat constructor));rfl))
        refine SK.slot (j := 35) rfl hvS ?_
        (repeat first|(with_reducible first|apply Zc|apply Zd|apply Zi|apply Zj|apply Zn|apply Zq)|((with_reducible apply ZM);rfl;rfl)|((with_reducible apply ZY);rfl;rfl;rfl;omega)|((with_reducible apply ZD);rfl))
        exact SK.endQ rfl (by (repeat constructor)) (fun w' hm' => ⟨(), trivial, rfl, hm'.wk (by (repeat constructor))⟩)
end Go.Proofs.Ytdnjfmgldkommaa
