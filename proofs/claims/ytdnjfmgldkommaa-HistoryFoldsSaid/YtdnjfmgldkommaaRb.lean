/- Proved here: a run: nodes begin. -/
import Derived.Test.YtdnjfmgldkommaaRa
namespace Go.Proofs.Ytdnjfmgldkommaa
open Go.Sx
theorem sgld {l : List Sg} {i : Nat} {x : Sg} (hx : l[i]? = some x) (sp : List Value) (j : Nat) (u : Value) (hu : (Sg.c x)[j]? = some u) : nv (l.flatMap Sg.c ++ sp) (0 + i * 2 + j) = some u := by
  rw [Nat.zero_add]; exact flat_nv sg_len l sp i x hx j u hu
set_option maxRecDepth 100000 in
set_option maxHeartbeats 8000000 in
theorem begin75 (c : Cx) (hT : c.T = 97) (R : Rn) (nd : Nd) (av : Value) (hf : Room c.D R 80) (hnd : nd ∈ c.D.nodes) (hk1 : 1 ≤ nd.kind) (hk5 : nd.kind ≤ 5) : Meth 75 c [.agg (nd.c av).toArray] R (bgn c.D c.now R nd) (.tuple #[]) := by
  intro b y w hy hD hm
  obtain ⟨T, D, dsl, now⟩ := c
  dsimp only at hT hf hnd ⊢
  subst hT
  obtain ⟨A, cap, hdsl, hnds⟩ := RDf.dsl hD
  dsimp only at hdsl hnds
  subst hdsl
  have hdn := hf.dn
  have hnm := hf.nm nd hnd
  refine enterF (M := rnM _ b R y) Try.func75 rfl Try.ntmps75 rfl hm ?_
  by_cases k1 : nd.kind = 1
  · have he : bgn D now R nd = tsk (happ D R ⟨2, nd.name, e0, 0⟩) ⟨1, e0, nd.name, 1, 0, ml0⟩ := by unfold bgn; rw [if_pos k1]
    rw [he]
    (repeat first|(with_reducible first|apply Za|apply Zb|apply Zc|apply Zd|apply Zi|apply Zr|apply Zs)|((with_reducible first|apply ZI|apply ZJ|apply ZK);rfl;rfl)|((with_reducible apply ZW);rfl;rfl;rfl;omega)|((with_reducible apply Zqr);rfl;rfl;rfl)|((with_reducible apply Zqz);rfl;rfl;(focus (repeat constructor));rfl)|((with_reducible apply Zrf);rfl;rfl;intro _)|((with_reducible apply ZC);rfl))
    refine SK.meth (vs := [.agg (Ev.c ⟨2, nd.name, e0, 0⟩).toArray]) rfl rfl (happens55 _ rfl R ⟨2, nd.name, e0, 0⟩ hf.fit hdn) hy hD (by (repeat constructor)) (by (repeat constructor)) (by (repeat constructor)) (by (repeat constructor)) (by (repeat constructor)) (fun y1 hy1 => ?_)
    have hr1 : Room D (happ D R ⟨2, nd.name, e0, 0⟩) 79 := hf.happ _ (show (2 : Int) ≠ 13 by decide)
    (repeat first|(with_reducible first|apply Zb|apply Zc|apply Zd|apply Zi|apply Zs)|((with_reducible first|apply ZI|apply ZK);rfl;rfl)|((with_reducible apply Zqr);rfl;rfl;rfl)|((with_reducible apply Zqz);rfl;rfl;(focus (repeat constructor));rfl))
    refine SK.meth (vs := [.agg (Tk.c ⟨1, e0, nd.name, 1, 0, ml0⟩).toArray]) rfl rfl (task78 _ rfl _ ⟨1, e0, nd.name, 1, 0, ml0⟩ hr1.fit) hy1 hD (by (repeat constructor)) (by (repeat constructor)) (by (repeat constructor)) (by (repeat constructor)) (by (repeat constructor)) (fun y2 hy2 => ?_)
    (repeat first|(with_reducible first|apply Zd|apply Zl|apply Zs))
    exact SK.endQ rfl (by (repeat constructor)) (fun w' hm' => ⟨y2, hy2, rfl, hm'.wk (by (repeat constructor))⟩)
  by_cases k2 : nd.kind = 2
  · have he : bgn D now R nd = tsk (happ D R ⟨7, nd.name, e0, IntKind.i64.wrap (now + nd.delay)⟩) ⟨2, e0, nd.name, 0, IntKind.i64.wrap (now + nd.delay), ml0⟩ := by unfold bgn; rw [if_neg k1, if_pos k2]
    rw [he]
    (repeat first|(with_reducible first|apply Za|apply Zb|apply Zc|apply Zd|apply Zi|apply Zr|apply Zs)|((with_reducible first|apply ZI|apply ZJ|apply ZK|apply ZN);rfl;rfl)|((with_reducible apply ZW);rfl;rfl;rfl;omega)|((with_reducible apply Zqc);rfl;rfl;rfl;omega)|((with_reducible apply Zqz);rfl;rfl;(focus (repeat constructor));rfl)|((with_reducible apply Zrf);rfl;rfl;intro _)|((with_reducible first|apply Zz|apply ZC);rfl)|((with_reducible apply ZD);rfl)|refine Yi 6 i75_6 (by kernel_rfl) ?_)
    refine SK.iadd rfl rfl rfl ?_
    (repeat first|((with_reducible apply Zz);rfl)|((with_reducible apply Zqr);rfl;rfl;rfl))
    refine SK.meth (vs := [.agg (Ev.c ⟨7, nd.name, e0, IntKind.i64.wrap (now + nd.delay)⟩).toArray]) rfl rfl (happens55 _ rfl R ⟨7, nd.name, e0, IntKind.i64.wrap (now + nd.delay)⟩ hf.fit hdn) hy hD (by (repeat constructor)) (by (repeat constructor)) (by (repeat constructor)) (by (repeat constructor)) (by (repeat constructor)) (fun y1 hy1 => ?_)
    have hr1 : Room D (happ D R ⟨7, nd.name, e0, IntKind.i64.wrap (now + nd.delay)⟩) 79 := hf.happ _ (show (7 : Int) ≠ 13 by decide)
    (repeat first|(with_reducible first|apply Ze|apply Zi|apply Zs)|((with_reducible first|apply ZI|apply ZK|apply ZN);rfl;rfl)|((with_reducible apply Zqz);rfl;rfl;(focus (repeat constructor));rfl)|((with_reducible apply Zz);rfl)|refine Yi 7 i75_7 (by kernel_rfl) ?_)
    refine SK.iadd rfl rfl rfl ?_
    (repeat first|((with_reducible apply Zz);rfl)|((with_reducible apply Zqr);rfl;rfl;rfl))
    refine SK.meth (vs := [.agg (Tk.c ⟨2, e0, nd.name, 0, IntKind.i64.wrap (now + nd.delay), ml0⟩).toArray]) rfl rfl (task78 _ rfl _ ⟨2, e0, nd.name, 0, IntKind.i64.wrap (now + nd.delay), ml0⟩ hr1.fit) hy1 hD (by (repeat constructor)) (by (repeat constructor)) (by (repeat constructor)) (by (repeat constructor)) (by (repeat constructor)) (fun y2 hy2 => ?_)
    (repeat first|(with_reducible first|apply Ze|apply Zl|apply Zs))
    exact SK.endQ rfl (by (repeat constructor)) (fun w' hm' => ⟨y2, hy2, rfl, hm'.wk (by (repeat constructor))⟩)
  by_cases k3 : nd.kind = 3
  · by_cases hl : 256 < (chl R.S nd).size
    · have he : bgn D now R nd = cls D (happ D R ⟨6, nd.name, longT, 0⟩) 3 longT := by unfold bgn; rw [if_neg k1, if_neg k2, if_pos k3, if_pos hl]
      have hli : ((chl R.S nd).size : Int) > 256 := by omega
      rw [he]
      (repeat first|(with_reducible first|apply Za|apply Zb|apply Zc|apply Zd|apply Zi|apply Zr|apply Zs)|((with_reducible first|apply ZI|apply ZJ|apply ZK);rfl;rfl)|((with_reducible apply ZW);rfl;rfl;rfl;omega)|((with_reducible apply Zqc);rfl;rfl;rfl;omega)|((with_reducible first|apply Zqz|apply Zra);rfl;rfl;(focus (repeat constructor));rfl)|((with_reducible apply Zrf);rfl;rfl;intro _)|((with_reducible apply ZC);rfl)|((with_reducible apply ZD);rfl))
      refine SK.callA (v := .string (chl R.S nd)) rfl rfl (fun w1 _ g2 => child81 b R.S.id nd av w1 (g2 _ _ _ (by (repeat constructor)) 3 _ rfl) hf.id hnm) ?_
      (repeat first|(with_reducible first|apply Za|apply Zb|apply Zc|apply Zd|apply Zi|apply Zs)|((with_reducible first|apply ZI|apply ZK);rfl;rfl)|((with_reducible apply ZQ);rfl;rfl)|((with_reducible apply ZU);rfl;rfl;rfl;omega)|((with_reducible apply Zqr);rfl;rfl;rfl)|((with_reducible apply Zqz);rfl;rfl;(focus (repeat constructor));rfl)|((with_reducible apply ZC);rfl))
      refine SK.meth (vs := [.agg (Ev.c ⟨6, nd.name, longT, 0⟩).toArray]) rfl rfl (happens55 _ rfl R ⟨6, nd.name, longT, 0⟩ hf.fit hdn) hy hD (by (repeat constructor)) (by (repeat constructor)) (by (repeat constructor)) (by (repeat constructor)) (by (repeat constructor)) (fun y1 hy1 => ?_)
      have hr1 : Room D (happ D R ⟨6, nd.name, longT, 0⟩) 79 := hf.happ _ (show (6 : Int) ≠ 13 by decide)
      (repeat first|(with_reducible first|apply Za|apply Zb|apply Zc|apply Zd|apply Zi|apply Zs)|((with_reducible apply ZI);rfl;rfl))
      refine SK.meth rfl rfl (close61 _ rfl _ 3 longT (hr1.mono (by omega))) hy1 hD (by (repeat constructor)) (by (repeat constructor)) (by (repeat constructor)) (by (repeat constructor)) (by (repeat constructor)) (fun y2 hy2 => ?_)
      (repeat first|(with_reducible first|apply Zd|apply Zi|apply Zk|apply Zm|apply Zp|apply Zs))
      exact SK.retQ rfl (by (repeat constructor)) (fun w' hm' => ⟨y2, hy2, rfl, hm'.wk (by (repeat constructor))⟩)
    · have he : bgn D now R nd = mlr (happ D R ⟨9, nd.name, e0, 0⟩) ⟨1, chl (happ D R ⟨9, nd.name, e0, 0⟩).S nd, e0, nd.name, nd.arg, e0, 0⟩ := by unfold bgn; rw [if_neg k1, if_neg k2, if_pos k3, if_neg hl]
      have hli : ¬ ((chl R.S nd).size : Int) > 256 := by omega
      rw [he]
      (repeat first|(with_reducible first|apply Za|apply Zb|apply Zc|apply Zd|apply Zi|apply Zr|apply Zs)|((with_reducible first|apply ZI|apply ZJ|apply ZK);rfl;rfl)|((with_reducible apply ZW);rfl;rfl;rfl;omega)|((with_reducible apply Zqc);rfl;rfl;rfl;omega)|((with_reducible first|apply Zqz|apply Zra);rfl;rfl;(focus (repeat constructor));rfl)|((with_reducible apply Zrf);rfl;rfl;intro _)|((with_reducible apply ZC);rfl)|((with_reducible apply ZD);rfl))
      refine SK.callA (v := .string (chl R.S nd)) rfl rfl (fun w1 _ g2 => child81 b R.S.id nd av w1 (g2 _ _ _ (by (repeat constructor)) 3 _ rfl) hf.id hnm) ?_
      (repeat first|(with_reducible first|apply Za|apply Zb|apply Zc|apply Zd|apply Zi|apply Zo|apply Zs)|((with_reducible first|apply ZI|apply ZK);rfl;rfl)|((with_reducible apply ZQ);rfl;rfl)|((with_reducible apply Zqa);rfl;rfl;rfl;omega)|((with_reducible apply Zqr);rfl;rfl;rfl)|((with_reducible apply Zqz);rfl;rfl;(focus (repeat constructor));rfl)|((with_reducible apply ZD);rfl))
      refine SK.meth (vs := [.agg (Ev.c ⟨9, nd.name, e0, 0⟩).toArray]) rfl rfl (happens55 _ rfl R ⟨9, nd.name, e0, 0⟩ hf.fit hdn) hy hD (by (repeat constructor)) (by (repeat constructor)) (by (repeat constructor)) (by (repeat constructor)) (by (repeat constructor)) (fun y1 hy1 => ?_)
      have hr1 : Room D (happ D R ⟨9, nd.name, e0, 0⟩) 79 := hf.happ _ (show (9 : Int) ≠ 13 by decide)
      generalize happ D R ⟨9, nd.name, e0, 0⟩ = R1 at *
      (repeat first|(with_reducible first|apply Zd|apply Zi|apply Zs)|((with_reducible first|apply ZI|apply ZK);rfl;rfl)|((with_reducible first|apply Zqz|apply Zra);rfl;rfl;(focus (repeat constructor));rfl)|((with_reducible apply Zz);rfl)|refine Yi 13 i75_13 (by kernel_rfl) ?_)
      refine SK.callA (v := .string (chl R1.S nd)) rfl rfl (fun w1 _ g2 => child81 b R1.S.id nd av w1 (g2 _ _ _ (by (repeat constructor)) 3 _ rfl) hr1.id hnm) ?_
      (repeat first|(with_reducible apply Zs)|((with_reducible apply Zqr);rfl;rfl;rfl)|((with_reducible apply Zz);rfl)|((with_reducible apply ZE);rfl;infer_instance;rfl;(focus (repeat constructor));rfl;rfl))
      refine SK.meth (vs := [.agg (Ml.c ⟨1, chl R1.S nd, e0, nd.name, nd.arg, e0, 0⟩).toArray]) rfl rfl (mail80 _ rfl _ ⟨1, chl R1.S nd, e0, nd.name, nd.arg, e0, 0⟩ hr1.fit) hy1 hD (by (repeat constructor)) (by (repeat constructor)) (by (repeat constructor)) (by (repeat constructor)) (by (repeat constructor)) (fun y2 hy2 => ?_)
      (repeat first|(with_reducible first|apply Ze|apply Zl|apply Zs))
      exact SK.endQ rfl (by (repeat constructor)) (fun w' hm' => ⟨y2, hy2, rfl, hm'.wk (by (repeat constructor))⟩)
  by_cases k4 : nd.kind = 4
  · obtain ⟨⟨oN, oS⟩, oE, oT⟩ := y
    have hoS := hy.1.2
    dsimp only at hoS
    cases hk : kI R.S.sigs nd.arg with
    | none =>
      have he : bgn D now R nd = happ D R ⟨11, nd.name, e0, 0⟩ := by unfold bgn; rw [if_neg k1, if_neg k2, if_neg k3, if_pos k4, hk]
      rw [he]
      (repeat first|(with_reducible first|apply Za|apply Zb|apply Zc|apply Zd|apply Zi|apply Zr|apply Zs)|((with_reducible first|apply ZI|apply ZJ|apply ZK|apply ZN);rfl;rfl)|((with_reducible apply ZW);rfl;rfl;rfl;omega)|((with_reducible apply Zqc);rfl;rfl;rfl;omega)|((with_reducible first|apply Zqz|apply Zra);rfl;rfl;(focus (repeat constructor));rfl)|((with_reducible apply Zrf);rfl;rfl;intro _)|((with_reducible first|apply Zz|apply ZC);rfl)|((with_reducible apply ZD);rfl)|refine Yi 15 i75_15 (by kernel_rfl) ?_)
      refine SK.callA (v := .int .i64 (-1)) rfl rfl (fun w1 _ g2 => by
        have := kept85 (stV R.S (oN, oS)) R.S nd.arg w1 (RSt.own hy.1.1 hy.1.2 (fun b cs hb j u hu => g2 b cs _ (by rw [← hb]; (repeat constructor)) j u hu) (fun b cs hb j u hu => g2 b cs _ (by rw [← hb]; (repeat constructor)) j u hu)) (by have := hf.sg; omega)
        rw [hk] at this; exact this) ?_
      (repeat first|(with_reducible first|apply Za|apply Zb|apply Zc|apply Zd|apply Ze|apply Zi|apply Zo|apply Zs)|((with_reducible first|apply ZI|apply ZJ|apply ZK);rfl;rfl)|((with_reducible apply Zqb);rfl;rfl;rfl;omega)|((with_reducible apply Zqr);rfl;rfl;rfl)|((with_reducible apply Zqz);rfl;rfl;(focus (repeat constructor));rfl)|((with_reducible apply Zz);rfl)|((with_reducible apply ZD);rfl))
      refine SK.meth (vs := [.agg (Ev.c ⟨11, nd.name, e0, 0⟩).toArray]) rfl rfl (happens55 _ rfl R ⟨11, nd.name, e0, 0⟩ hf.fit hdn) hy hD (by (repeat constructor)) (by (repeat constructor)) (by (repeat constructor)) (by (repeat constructor)) (by (repeat constructor)) (fun y1 hy1 => ?_)
      (repeat first|(with_reducible first|apply Zd|apply Zl|apply Zs))
      exact SK.endQ rfl (by (repeat constructor)) (fun w' hm' => ⟨y1, hy1, rfl, hm'.wk (by (repeat constructor))⟩)
    | some k =>
      obtain ⟨sg, hsg, hsgn⟩ := kI_lt hk
      have hkl : k < R.S.sigs.length := (List.getElem?_eq_some_iff.1 hsg).1
      have he : bgn D now R nd = happ D R ⟨12, nd.name, sg.text, 1⟩ := by
        unfold bgn
        rw [if_neg k1, if_neg k2, if_neg k3, if_pos k4, hk]
        simp only [hsg, Option.map_some, Option.getD_some]
      rw [he]
      cases oS with
      | none => have : R.S.sigs.length = 0 := hoS.2; omega
      | some q =>
        obtain ⟨bG, capG, spG⟩ := q
        have hld := sgld hsg spG 1 (.string sg.text) rfl
        (repeat first|(with_reducible first|apply Za|apply Zb|apply Zc|apply Zd|apply Zi|apply Zr|apply Zs)|((with_reducible first|apply ZI|apply ZJ|apply ZK|apply ZN);rfl;rfl)|((with_reducible apply ZW);rfl;rfl;rfl;omega)|((with_reducible apply Zqc);rfl;rfl;rfl;omega)|((with_reducible first|apply Zqz|apply Zra);rfl;rfl;(focus (repeat constructor));rfl)|((with_reducible apply Zrf);rfl;rfl;intro _)|((with_reducible first|apply Zz|apply ZC);rfl)|((with_reducible apply ZD);rfl)|refine Yi 15 i75_15 (by kernel_rfl) ?_)
        refine SK.callA (v := .int .i64 (k : Int)) rfl rfl (fun w1 _ g2 => by
          have := kept85 (stV R.S (oN, some (bG, capG, spG))) R.S nd.arg w1 (RSt.own hy.1.1 hy.1.2 (fun b cs hb j u hu => g2 b cs _ (by rw [← hb]; (repeat constructor)) j u hu) (fun b cs hb j u hu => g2 b cs _ (by rw [← hb]; (repeat constructor)) j u hu)) (by have := hf.sg; omega)
          rw [hk] at this; exact this) ?_
        (repeat first|(with_reducible first|apply Za|apply Zb|apply Zc|apply Zd|apply Ze|apply Zi|apply Zs)|((with_reducible refine Yz ?_);first|((with_reducible apply SK.indexAddr); rfl; rfl; rfl; exact hkl)|((with_reducible apply SK.load1); rfl; rfl; (focus (repeat (first | exact List.mem_cons_self | apply List.mem_cons_of_mem))); with_reducible exact hld)|((with_reducible first|apply ZI|apply ZJ|apply ZK|apply ZN);rfl;rfl)|((with_reducible apply ZV);rfl;rfl;rfl;omega)|((with_reducible first|apply Zqm|apply Zqr);rfl;rfl;rfl)|((with_reducible apply Zqz);rfl;rfl;(focus (repeat constructor));rfl))|((with_reducible first|apply Zz|apply ZC);rfl)|refine Yi 17 i75_17 (by kernel_rfl) ?_)
        refine SK.meth (vs := [.agg (Ev.c ⟨12, nd.name, sg.text, 1⟩).toArray]) rfl rfl (happens55 _ rfl R ⟨12, nd.name, sg.text, 1⟩ hf.fit hdn) hy hD (by (repeat constructor)) (by (repeat constructor)) (by (repeat constructor)) (by (repeat constructor)) (by (repeat constructor)) (fun y1 hy1 => ?_)
        (repeat first|(with_reducible first|apply Ze|apply Zi|apply Zk|apply Zm|apply Zp|apply Zs))
        exact SK.retQ rfl (by (repeat constructor)) (fun w' hm' => ⟨y1, hy1, rfl, hm'.wk (by (repeat constructor))⟩)
  · have k5 : nd.kind = 5 := by omega
    have he : bgn D now R nd = mlr (happ D R ⟨14, nd.name, e0, 0⟩) ⟨3, nd.to_, e0, nd.name, nd.arg, e0, 0⟩ := by unfold bgn; rw [if_neg k1, if_neg k2, if_neg k3, if_neg k4]
    rw [he]
    (repeat first|(with_reducible first|apply Za|apply Zb|apply Zc|apply Zd|apply Zi|apply Zr|apply Zs)|((with_reducible first|apply ZI|apply ZJ|apply ZK);rfl;rfl)|((with_reducible apply ZW);rfl;rfl;rfl;omega)|((with_reducible apply Zqc);rfl;rfl;rfl;omega)|((with_reducible apply Zqr);rfl;rfl;rfl)|((with_reducible apply Zqz);rfl;rfl;(focus (repeat constructor));rfl)|((with_reducible apply Zrf);rfl;rfl;intro _)|((with_reducible apply ZC);rfl)|((with_reducible apply ZD);rfl))
    refine SK.meth (vs := [.agg (Ev.c ⟨14, nd.name, e0, 0⟩).toArray]) rfl rfl (happens55 _ rfl R ⟨14, nd.name, e0, 0⟩ hf.fit hdn) hy hD (by (repeat constructor)) (by (repeat constructor)) (by (repeat constructor)) (by (repeat constructor)) (by (repeat constructor)) (fun y1 hy1 => ?_)
    have hr1 : Room D (happ D R ⟨14, nd.name, e0, 0⟩) 79 := hf.happ _ (show (14 : Int) ≠ 13 by decide)
    (repeat first|(with_reducible first|apply Zb|apply Zc|apply Zd|apply Zi|apply Zs)|((with_reducible first|apply ZI|apply ZK);rfl;rfl)|((with_reducible apply Zqr);rfl;rfl;rfl)|((with_reducible apply Zqz);rfl;rfl;(focus (repeat constructor));rfl))
    refine SK.meth (vs := [.agg (Ml.c ⟨3, nd.to_, e0, nd.name, nd.arg, e0, 0⟩).toArray]) rfl rfl (mail80 _ rfl _ ⟨3, nd.to_, e0, nd.name, nd.arg, e0, 0⟩ hr1.fit) hy1 hD (by (repeat constructor)) (by (repeat constructor)) (by (repeat constructor)) (by (repeat constructor)) (by (repeat constructor)) (fun y2 hy2 => ?_)
    (repeat first|(with_reducible first|apply Zd|apply Zl|apply Zs))
    exact SK.endQ rfl (by (repeat constructor)) (fun w' hm' => ⟨y2, hy2, rfl, hm'.wk (by (repeat constructor))⟩)
def cF : Nat → Nat
  | 0 => 0
  | n + 1 => (FloatKind.f64.format.add (cF n) 4607182418800017408).getD 0
theorem cF_all : (List.range 65).all (fun n => decide (FloatKind.f64.format.add (cF n) 4607182418800017408 = some (cF (n + 1))) && decide (FloatKind.f64.format.add (cF n) 0 = some (cF n)) &&
    (decide (FloatKind.f64.format.order (cF n) 0 = some .eq) == decide (n = 0))) = true := by kernel_rfl
theorem cF_spec {n : Nat} (h : n ≤ 64) : FloatKind.f64.format.add (cF n) 4607182418800017408 = some (cF (n + 1)) ∧ FloatKind.f64.format.add (cF n) 0 = some (cF n) ∧ (FloatKind.f64.format.order (cF n) 0 = some .eq ↔ n = 0) := by
  have := List.all_eq_true.1 cF_all n (List.mem_range.2 (by omega))
  simp only [Bool.and_eq_true, decide_eq_true_eq, beq_iff_eq] at this
  obtain ⟨⟨h1, h2⟩, h3⟩ := this
  refine ⟨h1, h2, ?_⟩
  rw [← decide_eq_true_eq (p := n = 0), ← h3, decide_eq_true_eq]
section
variable {P : Program} {ops : Array Oper} {w0 : World} {Mod : List Nat} {n : Nat} {F : FL} {M : ML} {K : Act → World → Prop} {chk : List Nat} {ty : TypeId} {pos : String} {aft : Array Edge} {d : Nat}
theorem SK.addC {T U : TypeId} {x y : Operand} {a b a' b' e f : Nat} (hd : Nat.blt d n = true) (hx : ev F x = some (.complex .f64 a b)) (hy : ev F y = some (.complex .f64 a' b')) (h1 : FloatKind.f64.format.add a a' = some e) (h2 : FloatKind.f64.format.add b b' = some f)
    (h : SK w0 Mod n K ((d, .complex .f64 e f) :: F) M) : SK w0 Mod n (stepE P ops ⟨some d, .binOp .add T x y U, ty, pos, aft, none⟩ chk K) F M :=
  SK.bin hd hx hy (fun w' => by
    simp [eqGuard, Go.binOp, Op.complexOp, Op.Complex.arith, Op.floatArith, h1, h2]) h
theorem SK.eqF {T U : TypeId} {x y : Operand} {a b : Nat} (hd : Nat.blt d n = true) (hx : ev F x = some (.float .f64 a)) (hy : ev F y = some (.float .f64 b))
    (h : SK w0 Mod n K ((d, .bool (FloatKind.f64.format.order a b == some .eq)) :: F) M) : SK w0 Mod n (stepE P ops ⟨some d, .binOp .eql T x y U, ty, pos, aft, none⟩ chk K) F M :=
  SK.bin hd hx hy (fun w' => by
    simp [eqGuard, Go.binOp, Op.floatCmp]) h
theorem SK.imag {x : Operand} {ats : Array TypeId} {a b : Nat} (hd : Nat.blt d n = true) (hx : ev F x = some (.complex .f64 a b)) (h : SK w0 Mod n K ((d, .float .f64 b) :: F) M) :
    SK w0 Mod n (stepE P ops ⟨some d, .call ⟨.builtin .imag, #[x], ats⟩, ty, pos, aft, none⟩ chk K) F M :=
  SK.pure rfl hd (fun a hf w' => by
    simp only [execOp, resolve, invoke, builtin, List.map_toArray, List.map_cons, List.map_nil, hf.ev hx, Sem.run_bind, Sem.run_pure, Result.andThen_ok]
    rfl) h
end
def ovr (S : Sta) (k : Nat) : Nat := (S.nodes.take k).countP fun x => decide (x.st = 3)
theorem ovr_le (S : Sta) (k : Nat) : ovr S k ≤ k := Nat.le_trans List.countP_le_length (by rw [List.length_take]; exact Nat.min_le_left _ _)
theorem ovr_yes {S : Sta} {k : Nat} {x : Ns} (h : S.nodes[k]? = some x) (hx : x.st = 3) : ovr S (k + 1) = ovr S k + 1 := by
  unfold ovr; rw [List.take_add_one, h]; simp [List.countP_append, hx]
theorem ovr_no {S : Sta} {k : Nat} {x : Ns} (h : S.nodes[k]? = some x) (hx : ¬ x.st = 3) : ovr S (k + 1) = ovr S k := by
  unfold ovr; rw [List.take_add_one, h]; simp [List.countP_append, hx]
set_option maxRecDepth 100000 in
set_option maxHeartbeats 2000000 in
theorem count26 (sv : Value) (S : Sta) (w : World) (h : RSt (Vw w []) sv S) (hn : S.nodes.length ≤ 64) :
    Ans 26 [sv] w (.complex .f64 (cF (ovr S S.nodes.length)) (cF (S.nodes.length - ovr S S.nodes.length))) := by
  obtain ⟨n, g, rfl, hnn, _⟩ := h
  obtain ⟨A, cap, rfl, hc⟩ := hnn.open ns_len
  refine enter0 Try.func26 rfl Try.ntmps26 rfl ?_
  (repeat first|(with_reducible first|apply Za|apply Zb|apply Zc|apply Zd|apply Zi|apply Zr|apply Zs)|((with_reducible first|apply ZI|apply ZJ|apply ZK|apply ZM);rfl;rfl)|((with_reducible apply Zqz);rfl;rfl;(focus (repeat constructor));rfl)|((with_reducible apply Zrf);rfl;rfl;intro _))
  refine SK.loopW (fun i : Nat => [(9, .int .i64 (i : Int)), (8, .int .i64 (S.nodes.length : Int)), (7, .slice A S.nodes.length cap), (3, .complex .f64 (cF (ovr S i)) (cF (i - ovr S i)))]) (fun _ => [])
    (fun i => i ≤ S.nodes.length) (fun i => S.nodes.length - i) 0 (Nat.zero_le _) (by (repeat constructor)) (by (repeat constructor)) ?_
  intro i hi
  have hle := ovr_le S i
  by_cases hlt : i < S.nodes.length
  · obtain ⟨x, hx⟩ : ∃ x, S.nodes[i]? = some x := ⟨_, List.getElem?_eq_getElem hlt⟩
    obtain ⟨b, o, rfl, hcell⟩ := hc i x hx (by omega)
    by_cases h3 : x.st = 3
    · (repeat first|(with_reducible first|apply Za|apply Zb|apply Zc|apply Zd|apply Zi|apply Zo|apply Zr|apply Zs)|((with_reducible refine Yz ?_);first|((with_reducible apply SK.indexAddr); rfl; rfl; rfl; exact hlt)|((with_reducible apply SK.loadAR); rfl; rfl; exact hcell; rfl)|((with_reducible first|apply ZI|apply ZK);rfl;rfl)|((with_reducible first|apply ZS|apply ZW);rfl;rfl;rfl;omega)|((with_reducible apply Zqz);rfl;rfl;(focus (repeat constructor));rfl)|((with_reducible apply Zrc);rfl;rfl;rfl;exact List.cons_ne_nil _ _;(first|rfl|(repeat first|exact plain_nil|(refine plain_cons (by first|rfl|exact OwnD.plain_val _ _) ?_)));(focus (repeat constructor));rfl)|((with_reducible apply Zrg);rfl;intro _))|((with_reducible apply ZC);rfl))
      refine SK.addC rfl rfl rfl (cF_spec (by omega)).1 (cF_spec (by omega)).2.1 ?_
      (repeat first|(with_reducible first|apply Zb|apply Zc|apply Zd|apply Zi|apply Zl)|((with_reducible first|apply ZI|apply ZJ);rfl;rfl)|((with_reducible apply ZR);rfl;rfl;rfl;omega))
      exact SK.roundW (i + 1) (by omega) (by omega) (by rw [ovr_yes hx h3, show i + 1 - (ovr S i + 1) = i - ovr S i by omega]; (repeat constructor)) (by (repeat constructor))
    · (repeat first|(with_reducible first|apply Za|apply Zb|apply Zc|apply Zd|apply Zi|apply Zo|apply Zr|apply Zs)|((with_reducible refine Yz ?_);first|((with_reducible apply SK.indexAddr); rfl; rfl; rfl; exact hlt)|((with_reducible apply SK.loadAR); rfl; rfl; exact hcell; rfl)|((with_reducible first|apply ZI|apply ZK);rfl;rfl)|((with_reducible apply ZS);rfl;rfl;rfl;omega)|((with_reducible apply Zqc);rfl;rfl;rfl;omega)|((with_reducible apply Zqz);rfl;rfl;(focus (repeat constructor));rfl)|((with_reducible apply Zrc);rfl;rfl;rfl;exact List.cons_ne_nil _ _;(first|rfl|(repeat first|exact plain_nil|(refine plain_cons (by first|rfl|exact OwnD.plain_val _ _) ?_)));(focus (repeat constructor));rfl)|((with_reducible apply Zrg);rfl;intro _))|((with_reducible apply ZC);rfl)|((with_reducible apply ZD);rfl))
      refine SK.addC rfl rfl rfl (cF_spec (by omega)).2.1 (cF_spec (by omega)).1 ?_
      (repeat first|(with_reducible first|apply Zb|apply Zc|apply Zd|apply Zi|apply Zl)|((with_reducible first|apply ZI|apply ZJ);rfl;rfl)|((with_reducible apply ZR);rfl;rfl;rfl;omega))
      exact SK.roundW (i + 1) (by omega) (by omega) (by rw [ovr_no hx h3, show i + 1 - ovr S i = i - ovr S i + 1 by omega]; (repeat constructor)) (by (repeat constructor))
  · have hie : i = S.nodes.length := by omega
    subst hie
    (repeat first|(with_reducible first|apply Za|apply Zb|apply Zc|apply Zd|apply Zi|apply Zj|apply Zn|apply Zp|apply Zq)|((with_reducible first|apply ZI|apply ZJ);rfl;rfl)|((with_reducible apply ZY);rfl;rfl;rfl;omega)|((with_reducible apply ZD);rfl))
    exact SK.retQ rfl (by (repeat constructor)) (fun w' hm' => ⟨(), trivial, rfl, hm'.wk (by (repeat constructor))⟩)
set_option maxRecDepth 100000 in
set_option maxHeartbeats 8000000 in
theorem begin89 (c : Cx) (hT : c.T = 113) (R : Rn) (nd : Nd) (av : Value) (hf : Room c.D R 80) (hnd : nd ∈ c.D.nodes) (hk1 : 1 ≤ nd.kind) (hk5 : nd.kind ≤ 5) : Meth 89 c [.agg (nd.c av).toArray] R (bgn c.D c.now R nd) (.tuple #[]) := by
  intro b y w hy hD hm
  obtain ⟨T, D, dsl, now⟩ := c
  dsimp only at hT hf hnd ⊢
  subst hT
  obtain ⟨A, cap, hdsl, hnds⟩ := RDf.dsl hD
  dsimp only at hdsl hnds
  subst hdsl
  have hdn := hf.dn
  have hnm := hf.nm nd hnd
  refine enterF (M := rnM _ b R y) Try.func89 rfl Try.ntmps89 rfl hm ?_
  by_cases k1 : nd.kind = 1
  · have he : bgn D now R nd = tsk (happ D R ⟨2, nd.name, e0, 0⟩) ⟨1, e0, nd.name, 1, 0, ml0⟩ := by unfold bgn; rw [if_pos k1]
    rw [he]
    (repeat first|(with_reducible first|apply Za|apply Zb|apply Zc|apply Zd|apply Zi|apply Zr|apply Zs)|((with_reducible first|apply ZI|apply ZJ|apply ZK);rfl;rfl)|((with_reducible apply ZW);rfl;rfl;rfl;omega)|((with_reducible apply Zqz);rfl;rfl;(focus (repeat constructor));rfl)|((with_reducible apply Zrf);rfl;rfl;intro _)|((with_reducible apply ZC);rfl))
    refine SK.meth rfl rfl (event67 _ rfl R ⟨2, nd.name, e0, 0⟩ hf.fit hdn) hy hD (by (repeat constructor)) (by (repeat constructor)) (by (repeat constructor)) (by (repeat constructor)) (by (repeat constructor)) (fun y1 hy1 => ?_)
    have hr1 : Room D (happ D R ⟨2, nd.name, e0, 0⟩) 79 := hf.happ _ (show (2 : Int) ≠ 13 by decide)
    (repeat first|(with_reducible first|apply Zb|apply Zc|apply Zd|apply Zi|apply Zs)|((with_reducible first|apply ZI|apply ZK);rfl;rfl)|((with_reducible apply Zqr);rfl;rfl;rfl)|((with_reducible apply Zqz);rfl;rfl;(focus (repeat constructor));rfl))
    refine SK.meth (vs := [.agg (Tk.c ⟨1, e0, nd.name, 1, 0, ml0⟩).toArray]) rfl rfl (task91 _ rfl _ ⟨1, e0, nd.name, 1, 0, ml0⟩ hr1.fit) hy1 hD (by (repeat constructor)) (by (repeat constructor)) (by (repeat constructor)) (by (repeat constructor)) (by (repeat constructor)) (fun y2 hy2 => ?_)
    (repeat first|(with_reducible first|apply Zd|apply Zl|apply Zs))
    exact SK.endQ rfl (by (repeat constructor)) (fun w' hm' => ⟨y2, hy2, rfl, hm'.wk (by (repeat constructor))⟩)
  by_cases k2 : nd.kind = 2
  · have he : bgn D now R nd = tsk (happ D R ⟨7, nd.name, e0, IntKind.i64.wrap (now + nd.delay)⟩) ⟨2, e0, nd.name, 0, IntKind.i64.wrap (now + nd.delay), ml0⟩ := by unfold bgn; rw [if_neg k1, if_pos k2]
    rw [he]
    (repeat first|(with_reducible first|apply Za|apply Zb|apply Zc|apply Zd|apply Zi|apply Zr|apply Zs)|((with_reducible first|apply ZI|apply ZJ|apply ZK|apply ZN);rfl;rfl)|((with_reducible apply ZW);rfl;rfl;rfl;omega)|((with_reducible apply Zqc);rfl;rfl;rfl;omega)|((with_reducible apply Zqz);rfl;rfl;(focus (repeat constructor));rfl)|((with_reducible apply Zrf);rfl;rfl;intro _)|((with_reducible first|apply Zz|apply ZC);rfl)|((with_reducible apply ZD);rfl)|refine Yi 8 i89_8 (by kernel_rfl) ?_)
    refine SK.iadd rfl rfl rfl ?_
    (repeat first|((with_reducible apply Zz);rfl))
    refine SK.meth rfl rfl (event67 _ rfl R ⟨7, nd.name, e0, IntKind.i64.wrap (now + nd.delay)⟩ hf.fit hdn) hy hD (by (repeat constructor)) (by (repeat constructor)) (by (repeat constructor)) (by (repeat constructor)) (by (repeat constructor)) (fun y1 hy1 => ?_)
    have hr1 : Room D (happ D R ⟨7, nd.name, e0, IntKind.i64.wrap (now + nd.delay)⟩) 79 := hf.happ _ (show (7 : Int) ≠ 13 by decide)
    (repeat first|(with_reducible first|apply Ze|apply Zi|apply Zs)|((with_reducible first|apply ZI|apply ZK|apply ZN);rfl;rfl)|((with_reducible apply Zqz);rfl;rfl;(focus (repeat constructor));rfl)|((with_reducible apply Zz);rfl)|refine Yi 9 i89_9 (by kernel_rfl) ?_)
    refine SK.iadd rfl rfl rfl ?_
    (repeat first|((with_reducible apply Zz);rfl)|((with_reducible apply Zqr);rfl;rfl;rfl))
    refine SK.meth (vs := [.agg (Tk.c ⟨2, e0, nd.name, 0, IntKind.i64.wrap (now + nd.delay), ml0⟩).toArray]) rfl rfl (task91 _ rfl _ ⟨2, e0, nd.name, 0, IntKind.i64.wrap (now + nd.delay), ml0⟩ hr1.fit) hy1 hD (by (repeat constructor)) (by (repeat constructor)) (by (repeat constructor)) (by (repeat constructor)) (by (repeat constructor)) (fun y2 hy2 => ?_)
    (repeat first|(with_reducible first|apply Ze|apply Zl|apply Zs))
    exact SK.endQ rfl (by (repeat constructor)) (fun w' hm' => ⟨y2, hy2, rfl, hm'.wk (by (repeat constructor))⟩)
  by_cases k3 : nd.kind = 3
  · by_cases hl : 256 < (chl R.S nd).size
    · have he : bgn D now R nd = cls D (happ D R ⟨6, nd.name, longT, 0⟩) 3 longT := by unfold bgn; rw [if_neg k1, if_neg k2, if_pos k3, if_pos hl]
      have hli : ((R.S.id ++ ⟨#[47]⟩ ++ nd.name).size : Int) > 256 := (show ((chl R.S nd).size : Int) > 256 by omega)
      rw [he]
      have hid := hf.id
      have hsz := sizeSlash R.S.id
      (repeat first|(with_reducible first|apply Za|apply Zb|apply Zc|apply Zd|apply Ze|apply Zi|apply Zr|apply Zs)|((with_reducible refine Yz ?_);first|((with_reducible refine SK.isBin ?_); (with_reducible apply SK.addS); rfl; rfl; rfl; (first | (show R.S.id.size + 1 ≤ _; omega) | (show (R.S.id ++ slash).size + nd.name.size ≤ _; omega)))|((with_reducible first|apply ZI|apply ZJ|apply ZK|apply ZN);rfl;rfl)|((with_reducible apply ZQ);rfl;rfl)|((with_reducible first|apply ZU|apply ZW);rfl;rfl;rfl;omega)|((with_reducible apply Zqc);rfl;rfl;rfl;omega)|((with_reducible apply Zqm);rfl;rfl;rfl)|((with_reducible apply Zqz);rfl;rfl;(focus (repeat constructor));rfl)|((with_reducible apply Zrf);rfl;rfl;intro _))|((with_reducible first|apply Zz|apply ZC);rfl)|((with_reducible apply ZD);rfl)|refine Yi 11 i89_11 (by kernel_rfl) ?_)
      refine SK.meth rfl rfl (event67 _ rfl R ⟨6, nd.name, longT, 0⟩ hf.fit hdn) hy hD (by (repeat constructor)) (by (repeat constructor)) (by (repeat constructor)) (by (repeat constructor)) (by (repeat constructor)) (fun y1 hy1 => ?_)
      have hr1 : Room D (happ D R ⟨6, nd.name, longT, 0⟩) 79 := hf.happ _ (show (6 : Int) ≠ 13 by decide)
      (repeat first|(with_reducible first|apply Za|apply Zb|apply Zc|apply Zd|apply Zi|apply Zs)|((with_reducible apply ZI);rfl;rfl))
      refine SK.meth rfl rfl (closed73 _ rfl _ 3 longT (hr1.mono (by omega))) hy1 hD (by (repeat constructor)) (by (repeat constructor)) (by (repeat constructor)) (by (repeat constructor)) (by (repeat constructor)) (fun y2 hy2 => ?_)
      (repeat first|(with_reducible first|apply Zd|apply Zi|apply Zk|apply Zm|apply Zp|apply Zs))
      exact SK.retQ rfl (by (repeat constructor)) (fun w' hm' => ⟨y2, hy2, rfl, hm'.wk (by (repeat constructor))⟩)
    · have he : bgn D now R nd = mlr (happ D R ⟨9, nd.name, e0, 0⟩) ⟨1, chl (happ D R ⟨9, nd.name, e0, 0⟩).S nd, e0, nd.name, nd.arg, e0, 0⟩ := by unfold bgn; rw [if_neg k1, if_neg k2, if_pos k3, if_neg hl]
      have hli : ¬ ((R.S.id ++ ⟨#[47]⟩ ++ nd.name).size : Int) > 256 := (show ¬ ((chl R.S nd).size : Int) > 256 by omega)
      rw [he]
      have hid := hf.id
      have hsz := sizeSlash R.S.id
      (repeat first|(with_reducible first|apply Za|apply Zb|apply Zc|apply Zd|apply Ze|apply Zi|apply Zo|apply Zr|apply Zs)|((with_reducible refine Yz ?_);first|((with_reducible refine SK.isBin ?_); (with_reducible apply SK.addS); rfl; rfl; rfl; (first | (show R.S.id.size + 1 ≤ _; omega) | (show (R.S.id ++ slash).size + nd.name.size ≤ _; omega)))|((with_reducible first|apply ZI|apply ZJ|apply ZK|apply ZN);rfl;rfl)|((with_reducible apply ZQ);rfl;rfl)|((with_reducible apply ZW);rfl;rfl;rfl;omega)|((with_reducible first|apply Zqa|apply Zqc);rfl;rfl;rfl;omega)|((with_reducible apply Zqm);rfl;rfl;rfl)|((with_reducible apply Zqz);rfl;rfl;(focus (repeat constructor));rfl)|((with_reducible apply Zrf);rfl;rfl;intro _))|((with_reducible first|apply Zz|apply ZC);rfl)|((with_reducible apply ZD);rfl)|refine Yi 11 i89_11 (by kernel_rfl) ?_)
      refine SK.meth rfl rfl (event67 _ rfl R ⟨9, nd.name, e0, 0⟩ hf.fit hdn) hy hD (by (repeat constructor)) (by (repeat constructor)) (by (repeat constructor)) (by (repeat constructor)) (by (repeat constructor)) (fun y1 hy1 => ?_)
      have hr1 : Room D (happ D R ⟨9, nd.name, e0, 0⟩) 79 := hf.happ _ (show (9 : Int) ≠ 13 by decide)
      rw [show chl (happ D R ⟨9, nd.name, e0, 0⟩).S nd = chl R.S nd by unfold chl; rw [(happ_keeps D R _).1]]
      generalize happ D R ⟨9, nd.name, e0, 0⟩ = R1 at *
      (repeat first|(with_reducible first|apply Zb|apply Zc|apply Zd|apply Zi|apply Zs)|((with_reducible first|apply ZI|apply ZK);rfl;rfl)|((with_reducible apply Zqr);rfl;rfl;rfl)|((with_reducible apply Zqz);rfl;rfl;(focus (repeat constructor));rfl))
      refine SK.meth (vs := [.agg (Ml.c ⟨1, chl R.S nd, e0, nd.name, nd.arg, e0, 0⟩).toArray]) rfl rfl (mail93 _ rfl _ ⟨1, chl R.S nd, e0, nd.name, nd.arg, e0, 0⟩ hr1.fit) hy1 hD (by (repeat constructor)) (by (repeat constructor)) (by (repeat constructor)) (by (repeat constructor)) (by (repeat constructor)) (fun y2 hy2 => ?_)
      (repeat first|(with_reducible first|apply Zd|apply Zl|apply Zs))
      exact SK.endQ rfl (by (repeat constructor)) (fun w' hm' => ⟨y2, hy2, rfl, hm'.wk (by (repeat constructor))⟩)
  by_cases k4 : nd.kind = 4
  · obtain ⟨⟨oN, oS⟩, oE, oT⟩ := y
    have hoS := hy.1.2
    dsimp only at hoS
    cases hk : kI R.S.sigs nd.arg with
    | none =>
      have he : bgn D now R nd = happ D R ⟨11, nd.name, e0, 0⟩ := by unfold bgn; rw [if_neg k1, if_neg k2, if_neg k3, if_pos k4, hk]
      rw [he]
      (repeat first|(with_reducible first|apply Za|apply Zb|apply Zc|apply Zd|apply Zi|apply Zr|apply Zs)|((with_reducible first|apply ZI|apply ZJ|apply ZK|apply ZN);rfl;rfl)|((with_reducible apply ZW);rfl;rfl;rfl;omega)|((with_reducible apply Zqc);rfl;rfl;rfl;omega)|((with_reducible first|apply Zqz|apply Zra);rfl;rfl;(focus (repeat constructor));rfl)|((with_reducible apply Zrf);rfl;rfl;intro _)|((with_reducible first|apply Zz|apply ZC);rfl)|((with_reducible apply ZD);rfl)|refine Yi 18 i89_18 (by kernel_rfl) ?_)
      refine SK.callA (v := .int .i64 (-1)) rfl rfl (fun w1 _ g2 => by
        have := kept46 (stV R.S (oN, oS)) R.S nd.arg w1 (RSt.own hy.1.1 hy.1.2 (fun b cs hb j u hu => g2 b cs _ (by rw [← hb]; (repeat constructor)) j u hu) (fun b cs hb j u hu => g2 b cs _ (by rw [← hb]; (repeat constructor)) j u hu)) (by have := hf.sg; omega)
        rw [hk] at this; exact this) ?_
      (repeat first|(with_reducible first|apply Za|apply Zb|apply Zc|apply Zd|apply Ze|apply Zi|apply Zs)|((with_reducible first|apply ZI|apply ZJ|apply ZK);rfl;rfl)|((with_reducible apply Zqb);rfl;rfl;rfl;omega)|((with_reducible apply Zqz);rfl;rfl;(focus (repeat constructor));rfl)|((with_reducible apply Zz);rfl)|((with_reducible apply ZD);rfl))
      refine SK.meth rfl rfl (event67 _ rfl R ⟨11, nd.name, e0, 0⟩ hf.fit hdn) hy hD (by (repeat constructor)) (by (repeat constructor)) (by (repeat constructor)) (by (repeat constructor)) (by (repeat constructor)) (fun y1 hy1 => ?_)
      (repeat first|(with_reducible first|apply Zd|apply Zl|apply Zs))
      exact SK.endQ rfl (by (repeat constructor)) (fun w' hm' => ⟨y1, hy1, rfl, hm'.wk (by (repeat constructor))⟩)
    | some k =>
      obtain ⟨sg, hsg, hsgn⟩ := kI_lt hk
      have hkl : k < R.S.sigs.length := (List.getElem?_eq_some_iff.1 hsg).1
      have he : bgn D now R nd = happ D R ⟨12, nd.name, sg.text, 1⟩ := by
        unfold bgn
        rw [if_neg k1, if_neg k2, if_neg k3, if_pos k4, hk]
        simp only [hsg, Option.map_some, Option.getD_some]
      rw [he]
      cases oS with
      | none => have : R.S.sigs.length = 0 := hoS.2; omega
      | some q =>
        obtain ⟨bG, capG, spG⟩ := q
        have hld := sgld hsg spG 1 (.string sg.text) rfl
        (repeat first|(with_reducible first|apply Za|apply Zb|apply Zc|apply Zd|apply Zi|apply Zr|apply Zs)|((with_reducible first|apply ZI|apply ZJ|apply ZK|apply ZN);rfl;rfl)|((with_reducible apply ZW);rfl;rfl;rfl;omega)|((with_reducible apply Zqc);rfl;rfl;rfl;omega)|((with_reducible first|apply Zqz|apply Zra);rfl;rfl;(focus (repeat constructor));rfl)|((with_reducible apply Zrf);rfl;rfl;intro _)|((with_reducible first|apply Zz|apply ZC);rfl)|((with_reducible apply ZD);rfl)|refine Yi 18 i89_18 (by kernel_rfl) ?_)
        refine SK.callA (v := .int .i64 (k : Int)) rfl rfl (fun w1 _ g2 => by
          have := kept46 (stV R.S (oN, some (bG, capG, spG))) R.S nd.arg w1 (RSt.own hy.1.1 hy.1.2 (fun b cs hb j u hu => g2 b cs _ (by rw [← hb]; (repeat constructor)) j u hu) (fun b cs hb j u hu => g2 b cs _ (by rw [← hb]; (repeat constructor)) j u hu)) (by have := hf.sg; omega)
          rw [hk] at this; exact this) ?_
        (repeat first|(with_reducible first|apply Za|apply Zb|apply Zc|apply Zd|apply Ze|apply Zi|apply Zs)|((with_reducible refine Yz ?_);first|((with_reducible apply SK.indexAddr); rfl; rfl; rfl; exact hkl)|((with_reducible apply SK.load1); rfl; rfl; (focus (repeat (first | exact List.mem_cons_self | apply List.mem_cons_of_mem))); with_reducible exact hld)|((with_reducible first|apply ZI|apply ZJ|apply ZK|apply ZN);rfl;rfl)|((with_reducible apply ZV);rfl;rfl;rfl;omega)|((with_reducible apply Zqm);rfl;rfl;rfl)|((with_reducible apply Zqz);rfl;rfl;(focus (repeat constructor));rfl))|((with_reducible first|apply Zz|apply ZC);rfl)|refine Yi 20 i89_20 (by kernel_rfl) ?_)
        refine SK.meth rfl rfl (event67 _ rfl R ⟨12, nd.name, sg.text, 1⟩ hf.fit hdn) hy hD (by (repeat constructor)) (by (repeat constructor)) (by (repeat constructor)) (by (repeat constructor)) (by (repeat constructor)) (fun y1 hy1 => ?_)
        (repeat first|(with_reducible first|apply Ze|apply Zl|apply Zs))
        exact SK.endQ rfl (by (repeat constructor)) (fun w' hm' => ⟨y1, hy1, rfl, hm'.wk (by (repeat constructor))⟩)
  · have k5 : nd.kind = 5 := by omega
    have he : bgn D now R nd = mlr (happ D R ⟨14, nd.name, e0, 0⟩) ⟨3, nd.to_, e0, nd.name, nd.arg, e0, 0⟩ := by unfold bgn; rw [if_neg k1, if_neg k2, if_neg k3, if_neg k4]
    rw [he]
    (repeat first|(with_reducible first|apply Za|apply Zb|apply Zc|apply Zd|apply Zi|apply Zr|apply Zs)|((with_reducible first|apply ZI|apply ZJ|apply ZK);rfl;rfl)|((with_reducible apply Zqc);rfl;rfl;rfl;omega)|((with_reducible apply Zqz);rfl;rfl;(focus (repeat constructor));rfl)|((with_reducible apply Zrf);rfl;rfl;intro _)|((with_reducible apply ZD);rfl))
    refine SK.meth rfl rfl (event67 _ rfl R ⟨14, nd.name, e0, 0⟩ hf.fit hdn) hy hD (by (repeat constructor)) (by (repeat constructor)) (by (repeat constructor)) (by (repeat constructor)) (by (repeat constructor)) (fun y1 hy1 => ?_)
    have hr1 : Room D (happ D R ⟨14, nd.name, e0, 0⟩) 79 := hf.happ _ (show (14 : Int) ≠ 13 by decide)
    (repeat first|(with_reducible first|apply Zb|apply Zc|apply Zd|apply Zi|apply Zs)|((with_reducible first|apply ZI|apply ZK);rfl;rfl)|((with_reducible apply Zqr);rfl;rfl;rfl)|((with_reducible apply Zqz);rfl;rfl;(focus (repeat constructor));rfl))
    refine SK.meth (vs := [.agg (Ml.c ⟨3, nd.to_, e0, nd.name, nd.arg, e0, 0⟩).toArray]) rfl rfl (mail93 _ rfl _ ⟨3, nd.to_, e0, nd.name, nd.arg, e0, 0⟩ hr1.fit) hy1 hD (by (repeat constructor)) (by (repeat constructor)) (by (repeat constructor)) (by (repeat constructor)) (by (repeat constructor)) (fun y2 hy2 => ?_)
    (repeat first|(with_reducible first|apply Zd|apply Zl|apply Zs))
    exact SK.endQ rfl (by (repeat constructor)) (fun w' hm' => ⟨y2, hy2, rfl, hm'.wk (by (repeat constructor))⟩)
end Go.Proofs.Ytdnjfmgldkommaa
