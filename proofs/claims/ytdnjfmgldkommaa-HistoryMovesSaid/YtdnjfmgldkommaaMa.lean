/- Proved here: what is read of a state. -/
import Derived.Test.YtdnjfmgldkommaaLa
import Derived.Laws.Cover2
import Derived.Test.YtdnjfmgldkommaaWd
namespace Go.Proofs.Ytdnjfmgldkommaa
open Go.Sx
@[reducible] def i25_7 : List Ent := [(0, []), (1, []), (4, []), (6, []), (2, []), (3, []), (5, []), (7, [])]
section
variable {P : Program} {ops : Array Oper} {w0 : World} {Mod : List Nat} {n : Nat} {F : FL} {M : ML} {K : Act → World → Prop} {chk : List Nat} {ty : TypeId} {pos : String} {aft : Array Edge} {d : Nat}
theorem SK.real {x : Operand} {ats : Array TypeId} {a b : Nat} (hd : Nat.blt d n = true) (hx : ev F x = some (.complex .f64 a b)) (h : SK w0 Mod n K ((d, .float .f64 a) :: F) M) :
    SK w0 Mod n (stepE P ops ⟨some d, .call ⟨.builtin .real, #[x], ats⟩, ty, pos, aft, none⟩ chk K) F M :=
  SK.pure rfl hd (fun a hf w' => by
    simp only [execOp, resolve, invoke, builtin, List.map_toArray, List.map_cons, List.map_nil, hf.ev hx, Sem.run_bind, Sem.run_pure, Result.andThen_ok]
    rfl) h
theorem SK.convF {src dst : TypeId} {x : Operand} {q : IntKind} {v : Int} (hd : Nat.blt d n = true) (hx : ev F x = some (.int q v)) (hs : (P.underlying src).isSome = true) (hD : P.underlying dst = some (.float .f64))
    (h : SK w0 Mod n K ((d, .float .f64 (floatOfInt .f64 v)) :: F) M) : SK w0 Mod n (stepE P ops ⟨some d, .convert src dst x, ty, pos, aft, none⟩ chk K) F M :=
  SK.pure rfl hd (fun a hf w' => by
    have := run_convert_int_float (P := P) w' src dst q .f64 v hs hD
    simp only [execOp, hf.ev hx, Sem.run_bind, this, Result.andThen_ok, Sem.run_pure]) h
end
theorem und3 : (Try.prog.underlying 3).isSome = true := by kernel_rfl
theorem und77 : Try.prog.underlying 77 = some (.float .f64) := by kernel_rfl
theorem cF_near_all : (List.range 65).all (fun n => FloatKind.f64.format.order (cF n) (floatOfInt .f64 (n : Int)) == some .eq) = true := by kernel_rfl
theorem cF_near {n : Nat} (h : n ≤ 64) : (FloatKind.f64.format.order (cF n) (floatOfInt .f64 (n : Int)) == some .eq) = true := List.all_eq_true.1 cF_near_all n (List.mem_range.2 (by omega))
set_option maxRecDepth 100000 in
set_option maxHeartbeats 2000000 in
theorem count25 (sv : Value) (S : Sta) (w : World) (h : RSt (Vw w []) sv S) (hn : S.nodes.length ≤ 64) :
    Ans 25 [sv] w (.tuple #[.int .i64 (ovr S S.nodes.length : Int), .int .i64 ((S.nodes.length - ovr S S.nodes.length : Nat) : Int)]) := by
  obtain ⟨n, g, rfl, hnn, _⟩ := h
  obtain ⟨A, cap, rfl, hc⟩ := hnn.open ns_len
  refine enter0 Try.func25 rfl Try.ntmps25 rfl ?_
  (repeat first|(with_reducible first|apply Za|apply Zb|apply Zc|apply Zd|apply Zi|apply Zr|apply Zs)|((with_reducible apply ZJ);rfl;rfl)|((with_reducible apply Zrf);rfl;rfl;intro _))
  rename_i b1
  refine SK.loopW (fun i : Nat => [(5, .int .i64 (i : Int)), (4, .int .i64 (ovr S i : Int)), (1, .pointer (some ⟨b1, 0, none⟩))]) (fun _ => [some (b1, S.c (.slice A S.nodes.length cap) g, 33)])
    (fun i => i ≤ S.nodes.length) (fun i => S.nodes.length - i) 0 (Nat.zero_le _) (by (repeat constructor)) (by (repeat constructor)) ?_
  intro i hi
  have hle := ovr_le S i
  by_cases hlt : i < S.nodes.length
  · obtain ⟨x, hx⟩ : ∃ x, S.nodes[i]? = some x := ⟨_, List.getElem?_eq_getElem hlt⟩
    obtain ⟨b, o, rfl, hcell⟩ := hc i x hx (by omega)
    have hc0 := hcell 0 _ rfl
    by_cases h3 : x.st = 3
    · (repeat first|(with_reducible first|apply Za|apply Zb|apply Zc|apply Zd|apply Zi|apply Zl|apply Zo|apply Zr)|((with_reducible refine Yz ?_);first|((with_reducible apply SK.indexAddr); rfl; rfl; rfl; exact hlt)|((with_reducible apply SK.load1R); rfl; rfl; exact hc0)|((with_reducible first|apply ZI|apply ZJ|apply ZK|apply ZM);rfl;rfl)|((with_reducible first|apply ZR|apply ZS|apply ZW);rfl;rfl;rfl;omega)|((with_reducible apply Zqm);rfl;rfl;rfl)|((with_reducible apply Zqz);rfl;rfl;(focus (repeat constructor));rfl))|((with_reducible apply ZC);rfl))
      exact SK.roundW (i + 1) (by omega) (by omega) (by rw [ovr_yes hx h3]; (repeat constructor)) (by (repeat constructor))
    · (repeat first|(with_reducible first|apply Za|apply Zb|apply Zc|apply Zd|apply Zi|apply Zl|apply Zo|apply Zr)|((with_reducible refine Yz ?_);first|((with_reducible apply SK.indexAddr); rfl; rfl; rfl; exact hlt)|((with_reducible apply SK.load1R); rfl; rfl; exact hc0)|((with_reducible first|apply ZI|apply ZJ|apply ZK|apply ZM);rfl;rfl)|((with_reducible first|apply ZR|apply ZS);rfl;rfl;rfl;omega)|((with_reducible apply Zqc);rfl;rfl;rfl;omega)|((with_reducible apply Zqm);rfl;rfl;rfl)|((with_reducible apply Zqz);rfl;rfl;(focus (repeat constructor));rfl))|((with_reducible apply ZC);rfl)|((with_reducible apply ZD);rfl))
      exact SK.roundW (i + 1) (by omega) (by omega) (by rw [ovr_no hx h3]; (repeat constructor)) (by (repeat constructor))
  · have hie : i = S.nodes.length := by omega
    subst hie
    have hsb : IntKind.i64.wrap ((S.nodes.length : Int) - (ovr S S.nodes.length : Int)) = ((S.nodes.length - ovr S S.nodes.length : Nat) : Int) := by
      rw [wrap64_in (by omega) (by omega)]; omega
    (repeat first|(with_reducible first|apply Za|apply Zb|apply Zc|apply Zd|apply Ze|apply Zi|apply Zj|apply Zn|apply Zp|apply Zq)|((with_reducible refine Yz ?_);first|((with_reducible refine SK.isBin ?_); (with_reducible apply SK.isub); rfl; rfl; rfl)|((with_reducible first|apply ZI|apply ZJ|apply ZK|apply ZM);rfl;rfl)|((with_reducible apply ZY);rfl;rfl;rfl;omega)|((with_reducible apply Zqz);rfl;rfl;(focus (repeat constructor));rfl))|((with_reducible apply Zz);rfl)|((with_reducible apply ZD);rfl)|refine Yi 7 i25_7 (by kernel_rfl) ?_)
    rw [hsb]
    skip
    exact SK.retQ rfl (by (repeat constructor)) (fun w' hm' => ⟨(), trivial, rfl, hm'.wk (by (repeat constructor))⟩)
def OpenP (D : Df) (S : Sta) : Prop := S.status = 1 ∧ ∃ (i : Nat) (n : Nd) (x : Ns), D.nodes[i]? = some n ∧ S.nodes[i]? = some x ∧ (n.kind = 2 ∨ n.kind = 4) ∧ x.st = 2
set_option maxRecDepth 100000 in
set_option maxHeartbeats 4000000 in
theorem openF33 (dv sv : Value) (D : Df) (S : Sta) (w : World) (hd : RDf (Vw w []) dv D) (h : RSt (Vw w []) sv S) (hn : S.nodes.length ≤ 64) (hdn : D.nodes.length ≤ 64) :
    Calls Try.prog 33 [dv, sv].toArray w (Ret w [] (fun b : Bool => b = true ↔ OpenP D S) (fun b => .bool b) (fun _ => [])) := by
  obtain ⟨Ad, capd, rfl, hnds⟩ := hd.nds
  obtain ⟨n, g, rfl, hnn, _⟩ := h
  obtain ⟨A, cap, rfl, hc⟩ := hnn.open ns_len
  refine enter0 Try.func33 rfl Try.ntmps33 rfl ?_
  by_cases h1 : S.status = 1
  · (repeat first|(with_reducible first|apply Za|apply Zb|apply Zc|apply Zd|apply Zi|apply Zo|apply Zr|apply Zs)|((with_reducible first|apply ZI|apply ZJ|apply ZK|apply ZM);rfl;rfl)|((with_reducible apply Zqd);rfl;rfl;rfl;omega)|((with_reducible apply Zqz);rfl;rfl;(focus (repeat constructor));rfl)|((with_reducible apply Zrf);rfl;rfl;intro _)|((with_reducible apply ZD);rfl))
    rename_i b2 b3
    refine SK.loopW (fun i : Nat => [(13, .int .i64 (i : Int)), (12, .int .i64 (S.nodes.length : Int)), (11, .slice A S.nodes.length cap), (2, .pointer (some ⟨b2, 0, none⟩)), (3, .pointer (some ⟨b3, 0, none⟩))])
      (fun _ => [some (b3, S.c (.slice A S.nodes.length cap) g, 33), some (b2, [.string D.name, .slice Ad D.nodes.length capd], 24)])
      (fun i => i ≤ S.nodes.length ∧ ∀ (j : Nat), j < i → ∀ (n : Nd) (x : Ns), D.nodes[j]? = some n → S.nodes[j]? = some x → ¬ ((n.kind = 2 ∨ n.kind = 4) ∧ x.st = 2)) (fun i => S.nodes.length - i) 0 ⟨Nat.zero_le _, by omega⟩ (by (repeat constructor)) (by (repeat constructor)) ?_
    rintro i ⟨hi, hall⟩
    by_cases hlt : i < S.nodes.length
    · obtain ⟨x, hx⟩ : ∃ x, S.nodes[i]? = some x := ⟨_, List.getElem?_eq_getElem hlt⟩
      obtain ⟨b, o, rfl, hcell⟩ := hc i x hx (by omega)
      by_cases hil : i < D.nodes.length
      · obtain ⟨m, hm⟩ : ∃ m, D.nodes[i]? = some m := ⟨_, List.getElem?_eq_getElem hil⟩
        obtain ⟨bd, od, av, rfl, hnd⟩ := hnds i m hm
        have hcn := hnd.2
        have next : ¬ ((m.kind = 2 ∨ m.kind = 4) ∧ x.st = 2) → ∀ (j : Nat), j < i + 1 → ∀ (n : Nd) (y : Ns), D.nodes[j]? = some n → S.nodes[j]? = some y → ¬ ((n.kind = 2 ∨ n.kind = 4) ∧ y.st = 2) := by
          intro hno j hj n y hn hy
          by_cases hji : j = i
          · subst hji; rw [hm] at hn; rw [hx] at hy; cases hn; cases hy; exact hno
          · exact hall j (by omega) n y hn hy
        by_cases h2 : x.st = 2
        · by_cases k2 : m.kind = 2
          · (repeat first|(with_reducible first|apply Za|apply Zb|apply Zc|apply Zd|apply Zi|apply Zk|apply Zm|apply Zo|apply Zp|apply Zr|apply Zs)|((with_reducible refine Yz ?_);first|((with_reducible apply SK.indexAddr); rfl; rfl; rfl; first | exact hil | exact hlt)|((with_reducible apply SK.loadAR); rfl; rfl; exact hcell; rfl)|((with_reducible apply SK.load1R); rfl; rfl; first | exact hcn 1 _ rfl | exact hc0)|((with_reducible first|apply ZI|apply ZJ|apply ZK|apply ZM|apply ZO);rfl;rfl)|((with_reducible first|apply ZS|apply ZW);rfl;rfl;rfl;omega)|((with_reducible first|apply Zqm|apply Zqo);rfl;rfl;rfl)|((with_reducible apply Zqx);rfl;rfl;rfl;rfl)|((with_reducible apply Zqz);rfl;rfl;(focus (repeat constructor));rfl)|((with_reducible apply Zrc);rfl;rfl;rfl;exact List.cons_ne_nil _ _;(first|rfl|(repeat first|exact plain_nil|(refine plain_cons (by first|rfl|exact OwnD.plain_val _ _) ?_)));(focus (repeat constructor));rfl)|((with_reducible apply Zrg);rfl;intro _))|((with_reducible apply ZC);rfl))
            exact SK.retQ rfl (by (repeat constructor)) (fun w' hm' => ⟨true, ⟨fun _ => ⟨h1, i, m, x, hm, hx, .inl k2, h2⟩, fun _ => rfl⟩, rfl, hm'.wk (by (repeat constructor))⟩)
          · by_cases k4 : m.kind = 4
            · (repeat first|(with_reducible first|apply Za|apply Zb|apply Zc|apply Zd|apply Zi|apply Zk|apply Zm|apply Zo|apply Zp|apply Zr|apply Zs)|((with_reducible refine Yz ?_);first|((with_reducible apply SK.indexAddr); rfl; rfl; rfl; first | exact hil | exact hlt)|((with_reducible apply SK.loadAR); rfl; rfl; exact hcell; rfl)|((with_reducible apply SK.load1R); rfl; rfl; first | exact hcn 1 _ rfl | exact hc0)|((with_reducible first|apply ZI|apply ZJ|apply ZK|apply ZM|apply ZO);rfl;rfl)|((with_reducible first|apply ZS|apply ZW);rfl;rfl;rfl;omega)|((with_reducible apply Zqc);rfl;rfl;rfl;omega)|((with_reducible first|apply Zqm|apply Zqo);rfl;rfl;rfl)|((with_reducible apply Zqs);rfl;rfl;rfl)|((with_reducible apply Zqz);rfl;rfl;(focus (repeat constructor));rfl)|((with_reducible apply Zrc);rfl;rfl;rfl;exact List.cons_ne_nil _ _;(first|rfl|(repeat first|exact plain_nil|(refine plain_cons (by first|rfl|exact OwnD.plain_val _ _) ?_)));(focus (repeat constructor));rfl)|((with_reducible apply Zrg);rfl;intro _))|((with_reducible apply ZC);rfl))
              exact SK.retQ rfl (by (repeat constructor)) (fun w' hm' => ⟨true, ⟨fun _ => ⟨h1, i, m, x, hm, hx, .inr k4, h2⟩, fun _ => rfl⟩, rfl, hm'.wk (by (repeat constructor))⟩)
            · (repeat first|(with_reducible first|apply Za|apply Zb|apply Zc|apply Zd|apply Zi|apply Zl|apply Zo|apply Zr|apply Zs)|((with_reducible refine Yz ?_);first|((with_reducible apply SK.indexAddr); rfl; rfl; rfl; first | exact hil | exact hlt)|((with_reducible apply SK.loadAR); rfl; rfl; exact hcell; rfl)|((with_reducible apply SK.load1R); rfl; rfl; first | exact hcn 1 _ rfl | exact hc0)|((with_reducible first|apply ZI|apply ZJ|apply ZK|apply ZM|apply ZO);rfl;rfl)|((with_reducible first|apply ZR|apply ZS|apply ZW);rfl;rfl;rfl;omega)|((with_reducible apply Zqc);rfl;rfl;rfl;omega)|((with_reducible first|apply Zqm|apply Zqo);rfl;rfl;rfl)|((with_reducible apply Zqs);rfl;rfl;rfl)|((with_reducible apply Zqz);rfl;rfl;(focus (repeat constructor));rfl)|((with_reducible apply Zrc);rfl;rfl;rfl;exact List.cons_ne_nil _ _;(first|rfl|(repeat first|exact plain_nil|(refine plain_cons (by first|rfl|exact OwnD.plain_val _ _) ?_)));(focus (repeat constructor));rfl)|((with_reducible apply Zrg);rfl;intro _))|((with_reducible apply ZC);rfl)|((with_reducible apply ZD);rfl))
              exact SK.roundW (i + 1) ⟨by omega, next (by omega)⟩ (by omega) (by (repeat constructor)) (by (repeat constructor))
        · (repeat first|(with_reducible first|apply Za|apply Zb|apply Zc|apply Zd|apply Zi|apply Zl|apply Zo|apply Zr|apply Zs)|((with_reducible refine Yz ?_);first|((with_reducible apply SK.indexAddr); rfl; rfl; rfl; first | exact hil | exact hlt)|((with_reducible apply SK.loadAR); rfl; rfl; exact hcell; rfl)|((with_reducible first|apply ZI|apply ZJ|apply ZK|apply ZM|apply ZO);rfl;rfl)|((with_reducible first|apply ZR|apply ZS);rfl;rfl;rfl;omega)|((with_reducible apply Zqc);rfl;rfl;rfl;omega)|((with_reducible apply Zqo);rfl;rfl;rfl)|((with_reducible apply Zqs);rfl;rfl;rfl)|((with_reducible apply Zqx);rfl;rfl;rfl;rfl)|((with_reducible apply Zqy);rfl;rfl;rfl)|((with_reducible apply Zqz);rfl;rfl;(focus (repeat constructor));rfl)|((with_reducible apply Zrc);rfl;rfl;rfl;exact List.cons_ne_nil _ _;(first|rfl|(repeat first|exact plain_nil|(refine plain_cons (by first|rfl|exact OwnD.plain_val _ _) ?_)));(focus (repeat constructor));rfl)|((with_reducible apply Zrg);rfl;intro _))|((with_reducible apply ZC);rfl)|((with_reducible apply ZD);rfl))
          exact SK.roundW (i + 1) ⟨by omega, next (by omega)⟩ (by omega) (by (repeat constructor)) (by (repeat constructor))
      · (repeat first|(with_reducible first|apply Za|apply Zb|apply Zc|apply Zd|apply Zi|apply Zl|apply Zo|apply Zr|apply Zs)|((with_reducible refine Yz ?_);first|((with_reducible apply SK.indexAddr); rfl; rfl; rfl; first | exact hil | exact hlt)|((with_reducible apply SK.loadAR); rfl; rfl; exact hcell; rfl)|((with_reducible first|apply ZI|apply ZJ|apply ZK|apply ZM);rfl;rfl)|((with_reducible first|apply ZR|apply ZS);rfl;rfl;rfl;omega)|((with_reducible apply ZY);rfl;rfl;rfl;omega)|((with_reducible apply Zqs);rfl;rfl;rfl)|((with_reducible apply Zqx);rfl;rfl;rfl;rfl)|((with_reducible apply Zqy);rfl;rfl;rfl)|((with_reducible apply Zqz);rfl;rfl;(focus (repeat constructor));rfl)|((with_reducible apply Zrc);rfl;rfl;rfl;exact List.cons_ne_nil _ _;(first|rfl|(repeat first|exact plain_nil|(refine plain_cons (by first|rfl|exact OwnD.plain_val _ _) ?_)));(focus (repeat constructor));rfl)|((with_reducible apply Zrg);rfl;intro _))|((with_reducible apply ZC);rfl)|((with_reducible apply ZD);rfl))
        exact SK.roundW (i + 1) ⟨by omega, fun j hj n y hn hy => hall j (by have := (List.getElem?_eq_some_iff.1 hn).1; omega) n y hn hy⟩ (by omega) (by (repeat constructor)) (by (repeat constructor))
    · (repeat first|(with_reducible first|apply Za|apply Zb|apply Zc|apply Zd|apply Zi|apply Zj|apply Zn|apply Zp|apply Zq)|((with_reducible apply ZJ);rfl;rfl)|((with_reducible apply ZY);rfl;rfl;rfl;omega)|((with_reducible apply ZD);rfl))
      exact SK.retQ rfl (by (repeat constructor)) (fun w' hm' => ⟨false, ⟨fun h => (by cases h), fun ⟨_, j, n, x, hn, hx, hk⟩ => absurd hk (hall j (by have := (List.getElem?_eq_some_iff.1 hx).1; omega) n x hn hx)⟩, rfl, hm'.wk (by (repeat constructor))⟩)
  · (repeat first|(with_reducible first|apply Za|apply Zb|apply Zc|apply Zd|apply Zi|apply Zk|apply Zp|apply Zs)|((with_reducible first|apply ZJ|apply ZK);rfl;rfl)|((with_reducible apply ZX);rfl;rfl;rfl;omega)|((with_reducible apply Zqz);rfl;rfl;(focus (repeat constructor));rfl)|((with_reducible apply Zrf);rfl;rfl;intro _)|((with_reducible apply ZC);rfl))
    exact SK.retQ rfl (by (repeat constructor)) (fun w' hm' => ⟨false, ⟨fun h => (by cases h), fun h => absurd h.1 h1⟩, rfl, hm'.wk (by (repeat constructor))⟩)
set_option maxRecDepth 100000 in
set_option maxHeartbeats 4000000 in
theorem openF34 (dv sv : Value) (D : Df) (S : Sta) (w : World) (hd : RDf (Vw w []) dv D) (h : RSt (Vw w []) sv S) (hn : S.nodes.length ≤ 64) (hdn : D.nodes.length ≤ 64) :
    Calls Try.prog 34 [dv, sv].toArray w (Ret w [] (fun b : Bool => b = true ↔ OpenP D S) (fun b => .bool b) (fun _ => [])) := by
  obtain ⟨Ad, capd, rfl, hnds⟩ := hd.nds
  obtain ⟨n, g, rfl, hnn, _⟩ := h
  obtain ⟨A, cap, rfl, hc⟩ := hnn.open ns_len
  refine enter0 Try.func34 rfl Try.ntmps34 rfl ?_
  (repeat first|(with_reducible first|apply Za|apply Zb|apply Zc|apply Zd|apply Zi|apply Zr|apply Zs)|((with_reducible apply ZJ);rfl;rfl)|((with_reducible apply Zrf);rfl;rfl;intro _))
  rename_i b2 b3
  refine SK.loopW (fun i : Nat => [(5, .int .i64 (i : Int)), (2, .pointer (some ⟨b2, 0, none⟩)), (3, .pointer (some ⟨b3, 0, none⟩))])
    (fun _ => [some (b3, S.c (.slice A S.nodes.length cap) g, 33), some (b2, [.string D.name, .slice Ad D.nodes.length capd], 24)])
    (fun i => i ≤ D.nodes.length ∧ ∀ (j : Nat), j < i → ∀ (n : Nd) (x : Ns), D.nodes[j]? = some n → S.nodes[j]? = some x → ¬ ((n.kind = 2 ∨ n.kind = 4) ∧ x.st = 2)) (fun i => D.nodes.length - i) 0 ⟨Nat.zero_le _, by omega⟩ (by (repeat constructor)) (by (repeat constructor)) ?_
  rintro i ⟨hi, hall⟩
  by_cases hil : i < D.nodes.length
  · by_cases hlt : i < S.nodes.length
    · by_cases h1 : S.status = 1
      · obtain ⟨x, hx⟩ : ∃ x, S.nodes[i]? = some x := ⟨_, List.getElem?_eq_getElem hlt⟩
        obtain ⟨b, o, rfl, hcell⟩ := hc i x hx (by omega)
        have hc0 := hcell 0 _ rfl
        obtain ⟨m, hm⟩ : ∃ m, D.nodes[i]? = some m := ⟨_, List.getElem?_eq_getElem hil⟩
        obtain ⟨bd, od, av, rfl, hnd⟩ := hnds i m hm
        have hcn := hnd.2
        have next : ¬ ((m.kind = 2 ∨ m.kind = 4) ∧ x.st = 2) → ∀ (j : Nat), j < i + 1 → ∀ (n : Nd) (y : Ns), D.nodes[j]? = some n → S.nodes[j]? = some y → ¬ ((n.kind = 2 ∨ n.kind = 4) ∧ y.st = 2) := by
          intro hno j hj n y hn hy
          by_cases hji : j = i
          · subst hji; rw [hm] at hn; rw [hx] at hy; cases hn; cases hy; exact hno
          · exact hall j (by omega) n y hn hy
        by_cases k2 : m.kind = 2
        · by_cases h2 : x.st = 2
          · (repeat first|(with_reducible first|apply Za|apply Zb|apply Zc|apply Zd|apply Zi|apply Zk|apply Zm|apply Zo|apply Zp|apply Zr)|((with_reducible refine Yz ?_);first|((with_reducible apply SK.indexAddr); rfl; rfl; rfl; first | exact hil | exact hlt)|((with_reducible apply SK.load1R); rfl; rfl; first | exact hcn 1 _ rfl | exact hc0)|((with_reducible first|apply ZI|apply ZJ|apply ZK|apply ZM|apply ZO);rfl;rfl)|((with_reducible first|apply ZS|apply ZW);rfl;rfl;rfl;omega)|((with_reducible first|apply Zqm|apply Zqo);rfl;rfl;rfl)|((with_reducible apply Zqx);rfl;rfl;rfl;rfl)|((with_reducible apply Zqz);rfl;rfl;(focus (repeat constructor));rfl))|((with_reducible apply ZC);rfl))
            exact SK.retQ rfl (by (repeat constructor)) (fun w' hm' => ⟨true, ⟨fun _ => ⟨h1, i, m, x, hm, hx, .inl k2, h2⟩, fun _ => rfl⟩, rfl, hm'.wk (by (repeat constructor))⟩)
          · (repeat first|(with_reducible first|apply Za|apply Zb|apply Zc|apply Zd|apply Zi|apply Zl|apply Zo|apply Zr)|((with_reducible refine Yz ?_);first|((with_reducible apply SK.indexAddr); rfl; rfl; rfl; first | exact hil | exact hlt)|((with_reducible apply SK.load1R); rfl; rfl; first | exact hcn 1 _ rfl | exact hc0)|((with_reducible first|apply ZI|apply ZJ|apply ZK|apply ZM|apply ZO);rfl;rfl)|((with_reducible first|apply ZR|apply ZS|apply ZW);rfl;rfl;rfl;omega)|((with_reducible apply Zqc);rfl;rfl;rfl;omega)|((with_reducible first|apply Zqm|apply Zqo);rfl;rfl;rfl)|((with_reducible apply Zqx);rfl;rfl;rfl;rfl)|((with_reducible apply Zqz);rfl;rfl;(focus (repeat constructor));rfl))|((with_reducible apply ZC);rfl)|((with_reducible apply ZD);rfl))
            exact SK.roundW (i + 1) ⟨by omega, next (by omega)⟩ (by omega) (by (repeat constructor)) (by (repeat constructor))
        · by_cases k4 : m.kind = 4
          · by_cases h2 : x.st = 2
            · (repeat first|(with_reducible first|apply Za|apply Zb|apply Zc|apply Zd|apply Zi|apply Zk|apply Zm|apply Zo|apply Zp|apply Zr)|((with_reducible refine Yz ?_);first|((with_reducible apply SK.indexAddr); rfl; rfl; rfl; first | exact hil | exact hlt)|((with_reducible apply SK.load1R); rfl; rfl; first | exact hcn 1 _ rfl | exact hc0)|((with_reducible first|apply ZI|apply ZJ|apply ZK|apply ZM|apply ZO);rfl;rfl)|((with_reducible first|apply ZS|apply ZW);rfl;rfl;rfl;omega)|((with_reducible apply Zqc);rfl;rfl;rfl;omega)|((with_reducible first|apply Zqm|apply Zqo);rfl;rfl;rfl)|((with_reducible apply Zqs);rfl;rfl;rfl)|((with_reducible apply Zqz);rfl;rfl;(focus (repeat constructor));rfl))|((with_reducible apply ZC);rfl))
              exact SK.retQ rfl (by (repeat constructor)) (fun w' hm' => ⟨true, ⟨fun _ => ⟨h1, i, m, x, hm, hx, .inr k4, h2⟩, fun _ => rfl⟩, rfl, hm'.wk (by (repeat constructor))⟩)
            · (repeat first|(with_reducible first|apply Za|apply Zb|apply Zc|apply Zd|apply Zi|apply Zl|apply Zo|apply Zr)|((with_reducible refine Yz ?_);first|((with_reducible apply SK.indexAddr); rfl; rfl; rfl; first | exact hil | exact hlt)|((with_reducible apply SK.load1R); rfl; rfl; first | exact hcn 1 _ rfl | exact hc0)|((with_reducible first|apply ZI|apply ZJ|apply ZK|apply ZM|apply ZO);rfl;rfl)|((with_reducible first|apply ZR|apply ZS|apply ZW);rfl;rfl;rfl;omega)|((with_reducible apply Zqc);rfl;rfl;rfl;omega)|((with_reducible first|apply Zqm|apply Zqo);rfl;rfl;rfl)|((with_reducible apply Zqs);rfl;rfl;rfl)|((with_reducible apply Zqz);rfl;rfl;(focus (repeat constructor));rfl))|((with_reducible apply ZC);rfl)|((with_reducible apply ZD);rfl))
              exact SK.roundW (i + 1) ⟨by omega, next (by omega)⟩ (by omega) (by (repeat constructor)) (by (repeat constructor))
          · (repeat first|(with_reducible first|apply Za|apply Zb|apply Zc|apply Zd|apply Zi|apply Zl|apply Zo|apply Zr)|((with_reducible refine Yz ?_);first|((with_reducible apply SK.indexAddr); rfl; rfl; rfl; first | exact hil | exact hlt)|((with_reducible apply SK.load1R); rfl; rfl; first | exact hcn 1 _ rfl | exact hc0)|((with_reducible first|apply ZI|apply ZJ|apply ZK|apply ZM|apply ZO);rfl;rfl)|((with_reducible first|apply ZR|apply ZS|apply ZW);rfl;rfl;rfl;omega)|((with_reducible apply Zqc);rfl;rfl;rfl;omega)|((with_reducible first|apply Zqm|apply Zqo);rfl;rfl;rfl)|((with_reducible apply Zqs);rfl;rfl;rfl)|((with_reducible apply Zqx);rfl;rfl;rfl;rfl)|((with_reducible apply Zqz);rfl;rfl;(focus (repeat constructor));rfl))|((with_reducible apply ZC);rfl)|((with_reducible apply ZD);rfl))
            exact SK.roundW (i + 1) ⟨by omega, next (by omega)⟩ (by omega) (by (repeat constructor)) (by (repeat constructor))
      · (repeat first|(with_reducible first|apply Za|apply Zb|apply Zc|apply Zd|apply Zi|apply Zj|apply Zn|apply Zp|apply Zq)|((with_reducible first|apply ZI|apply ZJ|apply ZK|apply ZM|apply ZO);rfl;rfl)|((with_reducible apply ZS);rfl;rfl;rfl;omega)|((with_reducible apply Zqc);rfl;rfl;rfl;omega)|((with_reducible apply Zqo);rfl;rfl;rfl)|((with_reducible apply Zqz);rfl;rfl;(focus (repeat constructor));rfl)|((with_reducible apply ZD);rfl))
        exact SK.retQ rfl (by (repeat constructor)) (fun w' hm' => ⟨false, ⟨fun h => (by cases h), fun h => absurd h.1 h1⟩, rfl, hm'.wk (by (repeat constructor))⟩)
    · (repeat first|(with_reducible first|apply Za|apply Zb|apply Zc|apply Zd|apply Zi|apply Zj|apply Zn|apply Zp|apply Zq)|((with_reducible first|apply ZI|apply ZJ|apply ZK|apply ZM|apply ZO);rfl;rfl)|((with_reducible apply ZS);rfl;rfl;rfl;omega)|((with_reducible apply ZY);rfl;rfl;rfl;omega)|((with_reducible apply Zqo);rfl;rfl;rfl)|((with_reducible apply Zqs);rfl;rfl;rfl)|((with_reducible apply Zqx);rfl;rfl;rfl;rfl)|((with_reducible apply Zqz);rfl;rfl;(focus (repeat constructor));rfl)|((with_reducible apply ZD);rfl))
      exact SK.retQ rfl (by (repeat constructor)) (fun w' hm' => ⟨false, ⟨fun h => (by cases h), fun ⟨_, j, n, x, hn, hx, hk⟩ => absurd hk (hall j (by have := (List.getElem?_eq_some_iff.1 hx).1; omega) n x hn hx)⟩, rfl, hm'.wk (by (repeat constructor))⟩)
  · (repeat first|(with_reducible first|apply Za|apply Zb|apply Zc|apply Zd|apply Zi|apply Zj|apply Zn|apply Zp|apply Zq)|((with_reducible first|apply ZI|apply ZJ|apply ZK|apply ZM);rfl;rfl)|((with_reducible apply ZY);rfl;rfl;rfl;omega)|((with_reducible apply Zqs);rfl;rfl;rfl)|((with_reducible apply Zqx);rfl;rfl;rfl;rfl)|((with_reducible apply Zqz);rfl;rfl;(focus (repeat constructor));rfl)|((with_reducible apply ZD);rfl))
    exact SK.retQ rfl (by (repeat constructor)) (fun w' hm' => ⟨false, ⟨fun h => (by cases h), fun ⟨_, j, n, x, hn, hx, hk⟩ => absurd hk (hall j (by have := (List.getElem?_eq_some_iff.1 hn).1; omega) n x hn hx)⟩, rfl, hm'.wk (by (repeat constructor))⟩)
def wordsL (s : Int) : ByteArray := if s = 1 then ⟨#[114, 117, 110, 110, 105, 110, 103]⟩ else if s = 2 then ⟨#[100, 111, 110, 101]⟩ else if s = 3 then ⟨#[98, 114, 111, 107, 101, 110]⟩ else if s = 4 then ⟨#[99, 97, 110, 99, 101, 108, 101, 100]⟩ else ⟨#[110, 111, 110, 101]⟩
set_option maxRecDepth 100000 in
theorem words35 (s : Int) (w : World) : Ans 35 [.int .i64 s] w (.string (wordsL s)) := by
  refine enter0 Try.func35 rfl Try.ntmps35 rfl ?_
  unfold wordsL
  split
  · (repeat first|(with_reducible first|apply Za|apply Zb|apply Zc|apply Zd|apply Zi|apply Zk|apply Zm|apply Zp|apply Zr)|((with_reducible first|apply ZI|apply ZJ);rfl;rfl)|((with_reducible apply ZW);rfl;rfl;rfl;omega)|((with_reducible apply ZC);rfl))
    exact SK.retQ rfl (by (repeat constructor)) (fun w' hm' => ⟨(), trivial, rfl, hm'.wk (by (repeat constructor))⟩)
  · split
    · (repeat first|(with_reducible first|apply Za|apply Zb|apply Zc|apply Zd|apply Zi|apply Zk|apply Zm|apply Zp|apply Zr)|((with_reducible first|apply ZI|apply ZJ);rfl;rfl)|((with_reducible apply ZW);rfl;rfl;rfl;omega)|((with_reducible apply Zqc);rfl;rfl;rfl;omega)|((with_reducible apply ZC);rfl)|((with_reducible apply ZD);rfl))
      exact SK.retQ rfl (by (repeat constructor)) (fun w' hm' => ⟨(), trivial, rfl, hm'.wk (by (repeat constructor))⟩)
    · split
      · (repeat first|(with_reducible first|apply Za|apply Zb|apply Zc|apply Zd|apply Zi|apply Zk|apply Zm|apply Zp|apply Zr)|((with_reducible first|apply ZI|apply ZJ);rfl;rfl)|((with_reducible apply ZW);rfl;rfl;rfl;omega)|((with_reducible apply Zqc);rfl;rfl;rfl;omega)|((with_reducible apply ZC);rfl)|((with_reducible apply ZD);rfl))
        exact SK.retQ rfl (by (repeat constructor)) (fun w' hm' => ⟨(), trivial, rfl, hm'.wk (by (repeat constructor))⟩)
      · split
        · (repeat first|(with_reducible first|apply Za|apply Zb|apply Zc|apply Zd|apply Zi|apply Zk|apply Zm|apply Zp|apply Zr)|((with_reducible first|apply ZI|apply ZJ);rfl;rfl)|((with_reducible apply ZW);rfl;rfl;rfl;omega)|((with_reducible apply Zqc);rfl;rfl;rfl;omega)|((with_reducible apply ZC);rfl)|((with_reducible apply ZD);rfl))
          exact SK.retQ rfl (by (repeat constructor)) (fun w' hm' => ⟨(), trivial, rfl, hm'.wk (by (repeat constructor))⟩)
        · (repeat first|(with_reducible first|apply Za|apply Zb|apply Zc|apply Zd|apply Zi|apply Zl|apply Zo|apply Zp|apply Zr)|((with_reducible first|apply ZI|apply ZJ);rfl;rfl)|((with_reducible apply Zqc);rfl;rfl;rfl;omega)|((with_reducible apply ZD);rfl))
          exact SK.retQ rfl (by (repeat constructor)) (fun w' hm' => ⟨(), trivial, rfl, hm'.wk (by (repeat constructor))⟩)
set_option maxRecDepth 100000 in
theorem words36 (s : Int) (w : World) : Ans 36 [.int .i64 s] w (.string (wordsL s)) := by
  refine enter0 Try.func36 rfl Try.ntmps36 rfl ?_
  unfold wordsL
  split
  · (repeat first|(with_reducible first|apply Za|apply Zb|apply Zc|apply Zd|apply Zi|apply Zk|apply Zm|apply Zp|apply Zr)|((with_reducible first|apply ZI|apply ZJ);rfl;rfl)|((with_reducible apply ZW);rfl;rfl;rfl;omega)|((with_reducible apply ZC);rfl))
    exact SK.retQ rfl (by (repeat constructor)) (fun w' hm' => ⟨(), trivial, rfl, hm'.wk (by (repeat constructor))⟩)
  · split
    · (repeat first|(with_reducible first|apply Za|apply Zb|apply Zc|apply Zd|apply Zi|apply Zk|apply Zm|apply Zp|apply Zr)|((with_reducible first|apply ZI|apply ZJ);rfl;rfl)|((with_reducible apply ZW);rfl;rfl;rfl;omega)|((with_reducible apply Zqc);rfl;rfl;rfl;omega)|((with_reducible apply ZC);rfl)|((with_reducible apply ZD);rfl))
      exact SK.retQ rfl (by (repeat constructor)) (fun w' hm' => ⟨(), trivial, rfl, hm'.wk (by (repeat constructor))⟩)
    · split
      · (repeat first|(with_reducible first|apply Za|apply Zb|apply Zc|apply Zd|apply Zi|apply Zk|apply Zm|apply Zp|apply Zr)|((with_reducible first|apply ZI|apply ZJ);rfl;rfl)|((with_reducible apply ZW);rfl;rfl;rfl;omega)|((with_reducible apply Zqc);rfl;rfl;rfl;omega)|((with_reducible apply ZC);rfl)|((with_reducible apply ZD);rfl))
        exact SK.retQ rfl (by (repeat constructor)) (fun w' hm' => ⟨(), trivial, rfl, hm'.wk (by (repeat constructor))⟩)
      · split
        · (repeat first|(with_reducible first|apply Za|apply Zb|apply Zc|apply Zd|apply Zi|apply Zk|apply Zm|apply Zp|apply Zr)|((with_reducible first|apply ZI|apply ZJ);rfl;rfl)|((with_reducible apply ZW);rfl;rfl;rfl;omega)|((with_reducible apply Zqc);rfl;rfl;rfl;omega)|((with_reducible apply ZC);rfl)|((with_reducible apply ZD);rfl))
          exact SK.retQ rfl (by (repeat constructor)) (fun w' hm' => ⟨(), trivial, rfl, hm'.wk (by (repeat constructor))⟩)
        · (repeat first|(with_reducible first|apply Za|apply Zb|apply Zc|apply Zd|apply Zi|apply Zl|apply Zo|apply Zp|apply Zr)|((with_reducible first|apply ZI|apply ZJ);rfl;rfl)|((with_reducible apply Zqc);rfl;rfl;rfl;omega)|((with_reducible apply ZD);rfl))
          exact SK.retQ rfl (by (repeat constructor)) (fun w' hm' => ⟨(), trivial, rfl, hm'.wk (by (repeat constructor))⟩)
end Go.Proofs.Ytdnjfmgldkommaa
