/- Proved here: a run: inputs to nodes, the document. -/
import Derived.Test.YtdnjfmgldkommaaRd
import Derived.Test.YtdnjfmgldkommaaWd
namespace Go.Proofs.Ytdnjfmgldkommaa
open Go.Sx
set_option maxRecDepth 100000 in
set_option maxHeartbeats 8000000 in
theorem fail92 (c : Cx) (hT : c.T = 113) (R : Rn) (n : Nd) (av : Value) (x : Ns) (text : ByteArray) (hf : Room c.D R 80) : Meth 92 c [.agg (n.c av).toArray, .agg x.c.toArray, .string text] R (failL c.D R n x text) (.tuple #[]) := by
  intro b y w hy hD hm
  obtain ⟨T, D, dsl, now⟩ := c
  dsimp only at *
  subst hT
  have hdn := hf.dn
  obtain ⟨⟨oN, oS⟩, oE, oT⟩ := y
  refine enterF (M := rnM _ b R ((oN, oS), oE, oT)) Try.func92 rfl Try.ntmps92 rfl hm ?_
  by_cases htr : x.try_ < n.tries
  · have he : failL D R n x text = tsk (happ D R ⟨5, n.name, text, x.try_⟩) ⟨1, e0, n.name, IntKind.i64.wrap (x.try_ + 1), 0, ml0⟩ := by unfold failL; rw [if_pos htr]
    (repeat first|(with_reducible first|apply Za|apply Zb|apply Zc|apply Zd|apply Zi|apply Zs)|((with_reducible first|apply ZI|apply ZK);rfl;rfl)|((with_reducible apply ZS);rfl;rfl;rfl;omega)|((with_reducible apply Zqz);rfl;rfl;(focus (repeat constructor));rfl)|((with_reducible apply Zrf);rfl;rfl;intro _)|((with_reducible apply ZC);rfl))
    refine SK.meth rfl rfl (event67 _ rfl R ⟨5, n.name, text, x.try_⟩ hf.fit hdn) hy hD (by (repeat constructor)) (by (repeat constructor)) (by (repeat constructor)) (by (repeat constructor)) (by (repeat constructor)) (fun y1 hy1 => ?_)
    have hr1 : Room D (happ D R ⟨5, n.name, text, x.try_⟩) 79 := hf.happ _ (show (5 : Int) ≠ 13 by decide)
    (repeat first|(with_reducible first|apply Za|apply Zb|apply Zc|apply Zd|apply Zi|apply Zs)|((with_reducible first|apply ZI|apply ZK);rfl;rfl)|((with_reducible apply Zqz);rfl;rfl;(focus (repeat constructor));rfl))
    refine SK.iadd rfl rfl rfl ?_
    (repeat first|(with_reducible apply Zc)|((with_reducible apply Zqr);rfl;rfl;rfl))
    refine SK.meth (vs := [.agg (Tk.c ⟨1, e0, n.name, IntKind.i64.wrap (x.try_ + 1), 0, ml0⟩).toArray]) rfl rfl (task91 _ rfl _ ⟨1, e0, n.name, IntKind.i64.wrap (x.try_ + 1), 0, ml0⟩ hr1.fit) hy1 hD (by (repeat constructor)) (by (repeat constructor)) (by (repeat constructor)) (by (repeat constructor)) (by (repeat constructor)) (fun y2 hy2 => ?_)
    (repeat first|(with_reducible first|apply Zd|apply Zi|apply Zk|apply Zp|apply Zs))
    exact SK.retQ rfl (by (repeat constructor)) (fun w' hm' => ⟨y2, by rw [he]; exact hy2, rfl, by rw [he]; exact hm'.wk (by (repeat constructor))⟩)
  · have he : failL D R n x text = cls D (happ D R ⟨6, n.name, text, 0⟩) 3 text := by unfold failL; rw [if_neg htr]
    (repeat first|(with_reducible first|apply Za|apply Zb|apply Zc|apply Zd|apply Zi|apply Zo|apply Zs)|((with_reducible first|apply ZI|apply ZK);rfl;rfl)|((with_reducible apply ZY);rfl;rfl;rfl;omega)|((with_reducible apply Zqz);rfl;rfl;(focus (repeat constructor));rfl)|((with_reducible apply Zrf);rfl;rfl;intro _)|((with_reducible apply ZD);rfl))
    refine SK.meth rfl rfl (event67 _ rfl R ⟨6, n.name, text, 0⟩ hf.fit hdn) hy hD (by (repeat constructor)) (by (repeat constructor)) (by (repeat constructor)) (by (repeat constructor)) (by (repeat constructor)) (fun y1 hy1 => ?_)
    have hr1 : Room D (happ D R ⟨6, n.name, text, 0⟩) 79 := hf.happ _ (show (6 : Int) ≠ 13 by decide)
    (repeat first|(with_reducible first|apply Zb|apply Zc|apply Zd|apply Zi|apply Zs)|((with_reducible apply ZI);rfl;rfl))
    refine SK.meth rfl rfl (closed73 _ rfl _ 3 text (hr1.mono (by omega))) hy1 hD (by (repeat constructor)) (by (repeat constructor)) (by (repeat constructor)) (by (repeat constructor)) (by (repeat constructor)) (fun y2 hy2 => ?_)
    (repeat first|(with_reducible first|apply Zd|apply Zs))
    exact SK.endQ rfl (by (repeat constructor)) (fun w' hm' => ⟨y2, by rw [he]; exact hy2, rfl, by rw [he]; exact hm'.wk (by (repeat constructor))⟩)
set_option maxRecDepth 100000 in
set_option maxHeartbeats 8000000 in
theorem take70 (c : Cx) (hT : c.T = 113) (R : Rn) (a : Inp) (hnow : a.now = c.now) (k3 : a.kind = 3) (hf : Room c.D R 6000) : Meth 70 c [.agg a.c.toArray] R (takeL c.D c.now R a).2 (.int .i64 (takeL c.D c.now R a).1) := by
  intro b y w hy hD hm
  obtain ⟨T, D, dsl, now⟩ := c
  dsimp only at *
  subst hT
  have hdn := hf.dn
  obtain ⟨⟨oN, oS⟩, oE, oT⟩ := y
  refine enterF (M := rnM _ b R ((oN, oS), oE, oT)) Try.func70 rfl Try.ntmps70 rfl hm ?_
  (repeat first|(with_reducible first|apply Za|apply Zb|apply Zc|apply Zd|apply Zi|apply Zs)|((with_reducible first|apply ZI|apply ZJ|apply ZK);rfl;rfl)|((with_reducible apply Zqz);rfl;rfl;(focus (repeat constructor));rfl)|((with_reducible apply Zrf);rfl;rfl;intro _))
  refine SK.callO rfl rfl (fun w1 g1 g2 => node90 D dsl (oN.val R.S.nodes.length) R.S a.node 1 b w1 hdn (g2 _ _ _ (by (repeat constructor)) 0 _ rfl) (g2 _ _ _ (by (repeat constructor)) 1 _ rfl) (g2 _ _ _ (by (repeat constructor)) 8 _ rfl) (hD.mono g1) (RSl.own oN hy.1.1 (fun b cs hb j u hu => g2 b cs _ (by rw [← hb]; (repeat constructor)) j u hu))) ?_
  rintro av ⟨Aa, la, ca, rfl⟩
  cases hp : pickN D R.S a.node ([1] : List Int).contains with
  | none =>
    have he : takeL D now R a = (6, R) := by
      have h := pickN_none hp
      unfold takeL
      split
      · rfl
      · rename_i n x hn
        have := h n x hn
        rw [if_neg (by simpa using this)]
    (repeat first|(with_reducible first|apply Za|apply Zb|apply Zc|apply Zd|apply Zi|apply Zk|apply Zp|apply Zs)|((with_reducible first|apply ZI|apply ZJ);rfl;rfl)|((with_reducible apply ZP);rfl;rfl)|((with_reducible apply Zqn);rfl;rfl;rfl)|((with_reducible apply Zrc);rfl;rfl;rfl;exact List.cons_ne_nil _ _;(first|rfl|(repeat first|exact plain_nil|(refine plain_cons (by first|rfl|exact OwnD.plain_val _ _) ?_)));(focus (repeat constructor));rfl)|((with_reducible apply Zrg);rfl;intro _)|((with_reducible apply ZC);rfl))
    exact SK.retQ rfl (by (repeat constructor)) (fun w' hm' => ⟨((oN, oS), oE, oT), by rw [he]; exact hy, by rw [he]; rfl, by rw [he]; exact hm'.wk (by (repeat constructor))⟩)
  | some p =>
    obtain ⟨n, x⟩ := p
    obtain ⟨hn, hk⟩ := pickN_some hp
    have k1 : n.kind = 1 := by simpa using hk
    by_cases hs : x.st = 1
    · by_cases hd0 : 0 < n.delay
      · have he : takeL D now R a = (0, tsk (happ D R ⟨3, n.name, e0, IntKind.i64.wrap (x.try_ + 1)⟩) ⟨2, e0, n.name, IntKind.i64.wrap (x.try_ + 1), IntKind.i64.wrap (now + n.delay), ml0⟩) := by unfold takeL; rw [hn]; simp only; rw [if_pos k1, if_pos hs, if_pos hd0]
        (repeat first|(with_reducible first|apply Za|apply Zb|apply Zc|apply Zd|apply Zi|apply Zo|apply Zs)|((with_reducible first|apply ZI|apply ZJ|apply ZK);rfl;rfl)|((with_reducible apply ZP);rfl;rfl)|((with_reducible apply ZW);rfl;rfl;rfl;omega)|((with_reducible apply Zqd);rfl;rfl;rfl;omega)|((with_reducible apply Zqn);rfl;rfl;rfl)|((with_reducible apply Zqz);rfl;rfl;(focus (repeat constructor));rfl)|((with_reducible apply Zrc);rfl;rfl;rfl;exact List.cons_ne_nil _ _;(first|rfl|(repeat first|exact plain_nil|(refine plain_cons (by first|rfl|exact OwnD.plain_val _ _) ?_)));(focus (repeat constructor));rfl)|((with_reducible apply Zrg);rfl;intro _)|((with_reducible apply ZC);rfl)|((with_reducible apply ZD);rfl))
        refine SK.iadd rfl rfl rfl ?_
        (repeat first|(with_reducible apply Zc))
        refine SK.meth rfl rfl (event67 _ rfl R ⟨3, n.name, e0, IntKind.i64.wrap (x.try_ + 1)⟩ hf.fit hdn) hy hD (by (repeat constructor)) (by (repeat constructor)) (by (repeat constructor)) (by (repeat constructor)) (by (repeat constructor)) (fun y1 hy1 => ?_)
        have hr1 : Room D (happ D R ⟨3, n.name, e0, IntKind.i64.wrap (x.try_ + 1)⟩) 5999 := hf.happ _ (show (3 : Int) ≠ 13 by decide)
        (repeat first|(with_reducible first|apply Za|apply Zb|apply Zc|apply Zd|apply Zi|apply Zs)|((with_reducible first|apply ZI|apply ZK);rfl;rfl)|((with_reducible apply ZU);rfl;rfl;rfl;omega)|((with_reducible apply Zqz);rfl;rfl;(focus (repeat constructor));rfl)|((with_reducible apply ZC);rfl))
        refine SK.iadd rfl rfl rfl ?_
        (repeat first|(with_reducible apply Zc)|((with_reducible apply ZK);rfl;rfl)|((with_reducible apply Zqz);rfl;rfl;(focus (repeat constructor));rfl))
        refine SK.iadd rfl rfl rfl ?_
        rw [hnow]
        (repeat first|(with_reducible apply Zc)|((with_reducible apply Zqr);rfl;rfl;rfl))
        refine SK.meth (vs := [.agg (Tk.c ⟨2, e0, n.name, IntKind.i64.wrap (x.try_ + 1), IntKind.i64.wrap (now + n.delay), ml0⟩).toArray]) rfl rfl (task91 _ rfl _ ⟨2, e0, n.name, IntKind.i64.wrap (x.try_ + 1), IntKind.i64.wrap (now + n.delay), ml0⟩ hr1.fit) hy1 hD (by (repeat constructor)) (by (repeat constructor)) (by (repeat constructor)) (by (repeat constructor)) (by (repeat constructor)) (fun y2 hy2 => ?_)
        (repeat first|(with_reducible first|apply Za|apply Zb|apply Zc|apply Zd|apply Zi|apply Zk|apply Zp|apply Zs)|((with_reducible apply ZJ);rfl;rfl))
        exact SK.retQ rfl (by (repeat constructor)) (fun w' hm' => ⟨y2, by rw [he]; exact hy2, by rw [he]; rfl, by rw [he]; exact hm'.wk (by (repeat constructor))⟩)
      · have he : takeL D now R a = (0, happ D R ⟨3, n.name, e0, IntKind.i64.wrap (x.try_ + 1)⟩) := by unfold takeL; rw [hn]; simp only; rw [if_pos k1, if_pos hs, if_neg hd0]
        (repeat first|(with_reducible first|apply Za|apply Zb|apply Zc|apply Zd|apply Zi|apply Zo|apply Zs)|((with_reducible first|apply ZI|apply ZJ|apply ZK);rfl;rfl)|((with_reducible apply ZP);rfl;rfl)|((with_reducible apply ZW);rfl;rfl;rfl;omega)|((with_reducible apply Zqd);rfl;rfl;rfl;omega)|((with_reducible apply Zqn);rfl;rfl;rfl)|((with_reducible apply Zqz);rfl;rfl;(focus (repeat constructor));rfl)|((with_reducible apply Zrc);rfl;rfl;rfl;exact List.cons_ne_nil _ _;(first|rfl|(repeat first|exact plain_nil|(refine plain_cons (by first|rfl|exact OwnD.plain_val _ _) ?_)));(focus (repeat constructor));rfl)|((with_reducible apply Zrg);rfl;intro _)|((with_reducible apply ZC);rfl)|((with_reducible apply ZD);rfl))
        refine SK.iadd rfl rfl rfl ?_
        (repeat first|(with_reducible apply Zc))
        refine SK.meth rfl rfl (event67 _ rfl R ⟨3, n.name, e0, IntKind.i64.wrap (x.try_ + 1)⟩ hf.fit hdn) hy hD (by (repeat constructor)) (by (repeat constructor)) (by (repeat constructor)) (by (repeat constructor)) (by (repeat constructor)) (fun y1 hy1 => ?_)
        (repeat first|(with_reducible first|apply Za|apply Zb|apply Zc|apply Zd|apply Zi|apply Zk|apply Zo|apply Zp|apply Zs)|((with_reducible first|apply ZJ|apply ZK);rfl;rfl)|((with_reducible apply Zqa);rfl;rfl;rfl;omega)|((with_reducible apply Zqz);rfl;rfl;(focus (repeat constructor));rfl)|((with_reducible apply ZD);rfl))
        exact SK.retQ rfl (by (repeat constructor)) (fun w' hm' => ⟨y1, by rw [he]; exact hy1, by rw [he]; rfl, by rw [he]; exact hm'.wk (by (repeat constructor))⟩)
    · have he : takeL D now R a = (12, R) := by unfold takeL; rw [hn]; simp only; rw [if_pos k1, if_neg hs]
      (repeat first|(with_reducible first|apply Za|apply Zb|apply Zc|apply Zd|apply Zi|apply Zk|apply Zo|apply Zp|apply Zs)|((with_reducible first|apply ZI|apply ZJ|apply ZK);rfl;rfl)|((with_reducible apply ZP);rfl;rfl)|((with_reducible first|apply ZW|apply ZX);rfl;rfl;rfl;omega)|((with_reducible apply Zqn);rfl;rfl;rfl)|((with_reducible apply Zqz);rfl;rfl;(focus (repeat constructor));rfl)|((with_reducible apply Zrc);rfl;rfl;rfl;exact List.cons_ne_nil _ _;(first|rfl|(repeat first|exact plain_nil|(refine plain_cons (by first|rfl|exact OwnD.plain_val _ _) ?_)));(focus (repeat constructor));rfl)|((with_reducible apply Zrg);rfl;intro _)|((with_reducible apply ZC);rfl)|((with_reducible apply ZD);rfl))
      exact SK.retQ rfl (by (repeat constructor)) (fun w' hm' => ⟨((oN, oS), oE, oT), by rw [he]; exact hy, by rw [he]; rfl, by rw [he]; exact hm'.wk (by (repeat constructor))⟩)
set_option maxRecDepth 100000 in
set_option maxHeartbeats 8000000 in
theorem ends70 (c : Cx) (hT : c.T = 113) (R : Rn) (hDO : DefOK c.D) (hl : R.S.nodes.length = c.D.nodes.length) (a : Inp) (k45 : a.kind = 4 ∨ a.kind = 5) (hf : Room c.D R 6000) : Meth 70 c [.agg a.c.toArray] R (endsL c.D c.now R a).2 (.int .i64 (endsL c.D c.now R a).1) := by
  intro b y w hy hD hm
  obtain ⟨T, D, dsl, now⟩ := c
  dsimp only at *
  subst hT
  have hdn := hf.dn
  obtain ⟨⟨oN, oS⟩, oE, oT⟩ := y
  refine enterF (M := rnM _ b R ((oN, oS), oE, oT)) Try.func70 rfl Try.ntmps70 rfl hm ?_
  have k3 : ¬ a.kind = 3 := by omega
  have k6 : ¬ a.kind = 6 := by omega
  (repeat first|(with_reducible first|apply Za|apply Zb|apply Zc|apply Zd|apply Zi|apply Zs)|((with_reducible first|apply ZI|apply ZJ|apply ZK);rfl;rfl)|((with_reducible apply Zqz);rfl;rfl;(focus (repeat constructor));rfl)|((with_reducible apply Zrf);rfl;rfl;intro _))
  refine SK.callO rfl rfl (fun w1 g1 g2 => node90 D dsl (oN.val R.S.nodes.length) R.S a.node 1 b w1 hdn (g2 _ _ _ (by (repeat constructor)) 0 _ rfl) (g2 _ _ _ (by (repeat constructor)) 1 _ rfl) (g2 _ _ _ (by (repeat constructor)) 8 _ rfl) (hD.mono g1) (RSl.own oN hy.1.1 (fun b cs hb j u hu => g2 b cs _ (by rw [← hb]; (repeat constructor)) j u hu))) ?_
  rintro av ⟨Aa, la, ca, rfl⟩
  cases hp : pickN D R.S a.node ([1] : List Int).contains with
  | none =>
    have he : endsL D now R a = (6, R) := by
      have h := pickN_none hp
      unfold endsL
      split
      · rfl
      · rename_i n x hn
        have := h n x hn
        rw [if_neg]
        simp at this
        omega
    (repeat first|(with_reducible first|apply Za|apply Zb|apply Zc|apply Zd|apply Zi|apply Zk|apply Zp|apply Zs)|((with_reducible first|apply ZI|apply ZJ);rfl;rfl)|((with_reducible apply ZP);rfl;rfl)|((with_reducible apply Zqn);rfl;rfl;rfl)|((with_reducible apply Zrc);rfl;rfl;rfl;exact List.cons_ne_nil _ _;(first|rfl|(repeat first|exact plain_nil|(refine plain_cons (by first|rfl|exact OwnD.plain_val _ _) ?_)));(focus (repeat constructor));rfl)|((with_reducible apply Zrg);rfl;intro _)|((with_reducible apply ZC);rfl))
    exact SK.retQ rfl (by (repeat constructor)) (fun w' hm' => ⟨((oN, oS), oE, oT), by rw [he]; exact hy, by rw [he]; rfl, by rw [he]; exact hm'.wk (by (repeat constructor))⟩)
  | some p =>
    obtain ⟨n, x⟩ := p
    obtain ⟨hn, hk⟩ := pickN_some hp
    have k1 : n.kind = 1 := by simpa using hk
    by_cases hs : x.st = 2
    · by_cases htry : x.try_ = a.try_
      · by_cases hsz : 256 < a.text.size
        · have he : endsL D now R a = (9, R) := by unfold endsL; rw [hn]; simp only; rw [if_pos (.inl k1), if_neg (by omega), if_pos ⟨k6, hsz⟩]
          (repeat first|(with_reducible first|apply Za|apply Zb|apply Zc|apply Zd|apply Zi|apply Zk|apply Zo|apply Zp|apply Zs)|((with_reducible first|apply ZI|apply ZJ|apply ZK|apply ZO);rfl;rfl)|((with_reducible first|apply ZP|apply ZQ);rfl;rfl)|((with_reducible apply ZU);rfl;rfl;rfl;omega)|((with_reducible first|apply Zqc|apply Zqd);rfl;rfl;rfl;omega)|((with_reducible apply Zqn);rfl;rfl;rfl)|((with_reducible apply Zqs);rfl;rfl;rfl)|((with_reducible apply Zqz);rfl;rfl;(focus (repeat constructor));rfl)|((with_reducible apply Zrc);rfl;rfl;rfl;exact List.cons_ne_nil _ _;(first|rfl|(repeat first|exact plain_nil|(refine plain_cons (by first|rfl|exact OwnD.plain_val _ _) ?_)));(focus (repeat constructor));rfl)|((with_reducible apply Zrg);rfl;intro _)|((with_reducible apply ZC);rfl)|((with_reducible apply ZD);rfl))
          exact SK.retQ rfl (by (repeat constructor)) (fun w' hm' => ⟨((oN, oS), oE, oT), by rw [he]; exact hy, by rw [he]; rfl, by rw [he]; exact hm'.wk (by (repeat constructor))⟩)
        · by_cases k4 : a.kind = 4
          · have he : endsL D now R a = (0, onL D now (happ D R ⟨4, n.name, a.text, 0⟩)) := by unfold endsL; rw [hn]; simp only; rw [if_pos (.inl k1), if_neg (by omega), if_neg (by omega), if_neg (by omega), if_pos k4]
            (repeat first|(with_reducible first|apply Za|apply Zb|apply Zc|apply Zd|apply Zi|apply Zo|apply Zs)|((with_reducible first|apply ZI|apply ZJ|apply ZK|apply ZO);rfl;rfl)|((with_reducible first|apply ZP|apply ZQ);rfl;rfl)|((with_reducible first|apply Zqa|apply Zqc|apply Zqd);rfl;rfl;rfl;omega)|((with_reducible apply Zqn);rfl;rfl;rfl)|((with_reducible apply Zqs);rfl;rfl;rfl)|((with_reducible apply Zqz);rfl;rfl;(focus (repeat constructor));rfl)|((with_reducible apply Zrc);rfl;rfl;rfl;exact List.cons_ne_nil _ _;(first|rfl|(repeat first|exact plain_nil|(refine plain_cons (by first|rfl|exact OwnD.plain_val _ _) ?_)));(focus (repeat constructor));rfl)|((with_reducible apply Zrg);rfl;intro _)|((with_reducible apply ZD);rfl))
            refine SK.meth rfl rfl (event67 _ rfl R ⟨4, n.name, a.text, 0⟩ hf.fit hdn) hy hD (by (repeat constructor)) (by (repeat constructor)) (by (repeat constructor)) (by (repeat constructor)) (by (repeat constructor)) (fun y1 hy1 => ?_)
            have hr1 : Room D (happ D R ⟨4, n.name, a.text, 0⟩) 5999 := hf.happ _ (show (4 : Int) ≠ 13 by decide)
            (repeat first|(with_reducible first|apply Za|apply Zb|apply Zc|apply Zd|apply Zi|apply Zs)|((with_reducible apply ZI);rfl;rfl))
            refine SK.meth rfl rfl (on68 _ rfl hDO _ (Room.on (hr1.mono (by omega))) (happ_len hl)) hy1 hD (by (repeat constructor)) (by (repeat constructor)) (by (repeat constructor)) (by (repeat constructor)) (by (repeat constructor)) (fun y2 hy2 => ?_)
            (repeat first|(with_reducible first|apply Za|apply Zb|apply Zc|apply Zd|apply Zi|apply Zp|apply Zs)|((with_reducible apply ZJ);rfl;rfl))
            exact SK.retQ rfl (by (repeat constructor)) (fun w' hm' => ⟨y2, by rw [he]; exact hy2, by rw [he]; rfl, by rw [he]; exact hm'.wk (by (repeat constructor))⟩)
          · have he : endsL D now R a = (0, failL D R n x a.text) := by unfold endsL; rw [hn]; simp only; rw [if_pos (.inl k1), if_neg (by omega), if_neg (by omega), if_neg (by omega), if_neg k4, if_neg k6]
            (repeat first|(with_reducible first|apply Za|apply Zb|apply Zc|apply Zd|apply Zi|apply Zo|apply Zs)|((with_reducible first|apply ZI|apply ZJ|apply ZK|apply ZO);rfl;rfl)|((with_reducible first|apply ZP|apply ZQ);rfl;rfl)|((with_reducible apply ZW);rfl;rfl;rfl;omega)|((with_reducible first|apply Zqa|apply Zqc|apply Zqd);rfl;rfl;rfl;omega)|((with_reducible apply Zqn);rfl;rfl;rfl)|((with_reducible apply Zqs);rfl;rfl;rfl)|((with_reducible first|apply Zqz|apply Zra);rfl;rfl;(focus (repeat constructor));rfl)|((with_reducible apply Zrc);rfl;rfl;rfl;exact List.cons_ne_nil _ _;(first|rfl|(repeat first|exact plain_nil|(refine plain_cons (by first|rfl|exact OwnD.plain_val _ _) ?_)));(focus (repeat constructor));rfl)|((with_reducible apply Zrg);rfl;intro _)|((with_reducible apply ZC);rfl)|((with_reducible apply ZD);rfl))
            refine SK.meth rfl rfl (fail92 _ rfl R n _ x a.text (hf.mono (by omega))) hy hD (by (repeat constructor)) (by (repeat constructor)) (by (repeat constructor)) (by (repeat constructor)) (by (repeat constructor)) (fun y2 hy2 => ?_)
            (repeat first|(with_reducible first|apply Za|apply Zb|apply Zc|apply Zd|apply Zi|apply Zk|apply Zp|apply Zs)|((with_reducible apply ZJ);rfl;rfl))
            exact SK.retQ rfl (by (repeat constructor)) (fun w' hm' => ⟨y2, by rw [he]; exact hy2, by rw [he]; rfl, by rw [he]; exact hm'.wk (by (repeat constructor))⟩)
      · have he : endsL D now R a = (12, R) := by unfold endsL; rw [hn]; simp only; rw [if_pos (.inl k1), if_pos (.inr ⟨k1, htry⟩)]
        (repeat first|(with_reducible first|apply Za|apply Zb|apply Zc|apply Zd|apply Zi|apply Zk|apply Zo|apply Zp|apply Zs)|((with_reducible first|apply ZI|apply ZJ|apply ZK|apply ZO);rfl;rfl)|((with_reducible apply ZP);rfl;rfl)|((with_reducible apply ZX);rfl;rfl;rfl;omega)|((with_reducible first|apply Zqc|apply Zqd);rfl;rfl;rfl;omega)|((with_reducible apply Zqn);rfl;rfl;rfl)|((with_reducible apply Zqs);rfl;rfl;rfl)|((with_reducible apply Zqz);rfl;rfl;(focus (repeat constructor));rfl)|((with_reducible apply Zrc);rfl;rfl;rfl;exact List.cons_ne_nil _ _;(first|rfl|(repeat first|exact plain_nil|(refine plain_cons (by first|rfl|exact OwnD.plain_val _ _) ?_)));(focus (repeat constructor));rfl)|((with_reducible apply Zrg);rfl;intro _)|((with_reducible apply ZC);rfl)|((with_reducible apply ZD);rfl))
        exact SK.retQ rfl (by (repeat constructor)) (fun w' hm' => ⟨((oN, oS), oE, oT), by rw [he]; exact hy, by rw [he]; rfl, by rw [he]; exact hm'.wk (by (repeat constructor))⟩)
    · have he : endsL D now R a = (12, R) := by unfold endsL; rw [hn]; simp only; rw [if_pos (.inl k1), if_pos (.inl hs)]
      (repeat first|(with_reducible first|apply Za|apply Zb|apply Zc|apply Zd|apply Zi|apply Zk|apply Zo|apply Zp|apply Zs)|((with_reducible first|apply ZI|apply ZJ|apply ZK);rfl;rfl)|((with_reducible apply ZP);rfl;rfl)|((with_reducible apply ZX);rfl;rfl;rfl;omega)|((with_reducible apply Zqc);rfl;rfl;rfl;omega)|((with_reducible first|apply Zqn|apply Zqo);rfl;rfl;rfl)|((with_reducible apply Zqx);rfl;rfl;rfl;rfl)|((with_reducible apply Zqz);rfl;rfl;(focus (repeat constructor));rfl)|((with_reducible apply Zrc);rfl;rfl;rfl;exact List.cons_ne_nil _ _;(first|rfl|(repeat first|exact plain_nil|(refine plain_cons (by first|rfl|exact OwnD.plain_val _ _) ?_)));(focus (repeat constructor));rfl)|((with_reducible apply Zrg);rfl;intro _)|((with_reducible apply ZC);rfl)|((with_reducible apply ZD);rfl))
      exact SK.retQ rfl (by (repeat constructor)) (fun w' hm' => ⟨((oN, oS), oE, oT), by rw [he]; exact hy, by rw [he]; rfl, by rw [he]; exact hm'.wk (by (repeat constructor))⟩)
set_option maxRecDepth 100000 in
set_option maxHeartbeats 8000000 in
theorem fire71 (c : Cx) (hT : c.T = 113) (R : Rn) (hDO : DefOK c.D) (hl : R.S.nodes.length = c.D.nodes.length) (a : Inp) (k6 : a.kind = 6) (hf : Room c.D R 6000) : Meth 71 c [.agg a.c.toArray] R (endsL c.D c.now R a).2 (.int .i64 (endsL c.D c.now R a).1) := by
  intro b y w hy hD hm
  obtain ⟨T, D, dsl, now⟩ := c
  dsimp only at *
  subst hT
  have hdn := hf.dn
  obtain ⟨⟨oN, oS⟩, oE, oT⟩ := y
  refine enterF (M := rnM _ b R ((oN, oS), oE, oT)) Try.func71 rfl Try.ntmps71 rfl hm ?_
  (repeat first|(with_reducible first|apply Za|apply Zb|apply Zc|apply Zd|apply Zi|apply Zs)|((with_reducible first|apply ZI|apply ZJ|apply ZK);rfl;rfl)|((with_reducible apply Zqz);rfl;rfl;(focus (repeat constructor));rfl)|((with_reducible apply Zrf);rfl;rfl;intro _))
  refine SK.callO rfl rfl (fun w1 g1 g2 => node90 D dsl (oN.val R.S.nodes.length) R.S a.node 2 b w1 hdn (g2 _ _ _ (by (repeat constructor)) 0 _ rfl) (g2 _ _ _ (by (repeat constructor)) 1 _ rfl) (g2 _ _ _ (by (repeat constructor)) 8 _ rfl) (hD.mono g1) (RSl.own oN hy.1.1 (fun b cs hb j u hu => g2 b cs _ (by rw [← hb]; (repeat constructor)) j u hu))) ?_
  rintro av ⟨Aa, la, ca, rfl⟩
  cases hp2 : pickN D R.S a.node ([2] : List Int).contains with
  | some p =>
    obtain ⟨n, x⟩ := p
    obtain ⟨hn, hk⟩ := pickN_some hp2
    have k2 : n.kind = 2 := by simpa using hk
    by_cases hs : x.st = 2
    · have he : endsL D now R a = (0, onL D now (happ D R ⟨8, n.name, e0, 0⟩)) := by unfold endsL; rw [hn]; simp only; rw [if_pos (.inr ⟨k6, k2⟩), if_neg (by omega), if_neg (by omega), if_pos k2]
      (repeat first|(with_reducible first|apply Za|apply Zb|apply Zc|apply Zd|apply Zi|apply Zo|apply Zs)|((with_reducible first|apply ZI|apply ZJ|apply ZK);rfl;rfl)|((with_reducible apply Zqd);rfl;rfl;rfl;omega)|((with_reducible apply Zqn);rfl;rfl;rfl)|((with_reducible apply Zqz);rfl;rfl;(focus (repeat constructor));rfl)|((with_reducible apply Zrc);rfl;rfl;rfl;exact List.cons_ne_nil _ _;(first|rfl|(repeat first|exact plain_nil|(refine plain_cons (by first|rfl|exact OwnD.plain_val _ _) ?_)));(focus (repeat constructor));rfl)|((with_reducible apply Zrg);rfl;intro _)|((with_reducible apply ZC);rfl)|((with_reducible apply ZD);rfl))
      refine SK.meth rfl rfl (event67 _ rfl R ⟨8, n.name, e0, 0⟩ hf.fit hdn) hy hD (by (repeat constructor)) (by (repeat constructor)) (by (repeat constructor)) (by (repeat constructor)) (by (repeat constructor)) (fun y1 hy1 => ?_)
      have hr1 : Room D (happ D R ⟨8, n.name, e0, 0⟩) 5999 := hf.happ _ (show (8 : Int) ≠ 13 by decide)
      (repeat first|(with_reducible first|apply Za|apply Zb|apply Zc|apply Zd|apply Zi|apply Zs)|((with_reducible apply ZI);rfl;rfl))
      refine SK.meth rfl rfl (on68 _ rfl hDO _ (Room.on (hr1.mono (by omega))) (happ_len hl)) hy1 hD (by (repeat constructor)) (by (repeat constructor)) (by (repeat constructor)) (by (repeat constructor)) (by (repeat constructor)) (fun y2 hy2 => ?_)
      (repeat first|(with_reducible first|apply Za|apply Zb|apply Zc|apply Zd|apply Zi|apply Zk|apply Zp|apply Zs)|((with_reducible apply ZJ);rfl;rfl))
      exact SK.retQ rfl (by (repeat constructor)) (fun w' hm' => ⟨y2, by rw [he]; exact hy2, by rw [he]; rfl, by rw [he]; exact hm'.wk (by (repeat constructor))⟩)
    · have he : endsL D now R a = (12, R) := by unfold endsL; rw [hn]; simp only; rw [if_pos (.inr ⟨k6, k2⟩), if_pos (.inl hs)]
      (repeat first|(with_reducible first|apply Za|apply Zb|apply Zc|apply Zd|apply Zi|apply Zk|apply Zp|apply Zs)|((with_reducible first|apply ZI|apply ZJ|apply ZK);rfl;rfl)|((with_reducible apply ZX);rfl;rfl;rfl;omega)|((with_reducible apply Zqn);rfl;rfl;rfl)|((with_reducible apply Zqz);rfl;rfl;(focus (repeat constructor));rfl)|((with_reducible apply Zrc);rfl;rfl;rfl;exact List.cons_ne_nil _ _;(first|rfl|(repeat first|exact plain_nil|(refine plain_cons (by first|rfl|exact OwnD.plain_val _ _) ?_)));(focus (repeat constructor));rfl)|((with_reducible apply Zrg);rfl;intro _)|((with_reducible apply ZC);rfl))
      exact SK.retQ rfl (by (repeat constructor)) (fun w' hm' => ⟨((oN, oS), oE, oT), by rw [he]; exact hy, by rw [he]; rfl, by rw [he]; exact hm'.wk (by (repeat constructor))⟩)
  | none =>
    (repeat first|(with_reducible first|apply Za|apply Zb|apply Zc|apply Zd|apply Zi|apply Zo|apply Zs)|((with_reducible first|apply ZI|apply ZJ|apply ZK);rfl;rfl)|((with_reducible apply Zqn);rfl;rfl;rfl)|((with_reducible apply Zqz);rfl;rfl;(focus (repeat constructor));rfl)|((with_reducible apply Zrc);rfl;rfl;rfl;exact List.cons_ne_nil _ _;(first|rfl|(repeat first|exact plain_nil|(refine plain_cons (by first|rfl|exact OwnD.plain_val _ _) ?_)));(focus (repeat constructor));rfl)|((with_reducible apply Zrg);rfl;intro _)|((with_reducible apply ZD);rfl))
    refine SK.callO rfl rfl (fun w1 g1 g2 => node90 D dsl (oN.val R.S.nodes.length) R.S a.node 1 b w1 hdn (g2 _ _ _ (by (repeat constructor)) 0 _ rfl) (g2 _ _ _ (by (repeat constructor)) 1 _ rfl) (g2 _ _ _ (by (repeat constructor)) 8 _ rfl) (hD.mono g1) (RSl.own oN hy.1.1 (fun b cs hb j u hu => g2 b cs _ (by rw [← hb]; (repeat constructor)) j u hu))) ?_
    rintro av ⟨Ab, lb, cb, rfl⟩
    cases hp : pickN D R.S a.node ([1] : List Int).contains with
    | none =>
      have he : endsL D now R a = (6, R) := by
        have h := pickN_none hp
        have h2 := pickN_none hp2
        unfold endsL
        split
        · rfl
        · rename_i n x hn
          have := h n x hn
          have := h2 n x hn
          rw [if_neg]
          simp at *
          omega
      (repeat first|(with_reducible first|apply Za|apply Zb|apply Zc|apply Zd|apply Zi|apply Zk|apply Zp|apply Zs)|((with_reducible first|apply ZI|apply ZJ);rfl;rfl)|((with_reducible apply ZP);rfl;rfl)|((with_reducible apply Zqn);rfl;rfl;rfl)|((with_reducible apply Zrc);rfl;rfl;rfl;exact List.cons_ne_nil _ _;(first|rfl|(repeat first|exact plain_nil|(refine plain_cons (by first|rfl|exact OwnD.plain_val _ _) ?_)));(focus (repeat constructor));rfl)|((with_reducible apply ZC);rfl))
      exact SK.retQ rfl (by (repeat constructor)) (fun w' hm' => ⟨((oN, oS), oE, oT), by rw [he]; exact hy, by rw [he]; rfl, by rw [he]; exact hm'.wk (by (repeat constructor))⟩)
    | some p =>
      obtain ⟨n, x⟩ := p
      obtain ⟨hn, hk⟩ := pickN_some hp
      have k1 : n.kind = 1 := by simpa using hk
      by_cases hs : x.st = 2
      · by_cases htry : x.try_ = a.try_
        · have he : endsL D now R a = (0, failL D R n x timeoutT) := by unfold endsL; rw [hn]; simp only; rw [if_pos (.inl k1), if_neg (by omega), if_neg (by omega), if_neg (by omega), if_neg (by omega), if_pos k6]
          (repeat first|(with_reducible first|apply Za|apply Zb|apply Zc|apply Zd|apply Zi|apply Zo|apply Zs)|((with_reducible first|apply ZI|apply ZJ|apply ZK|apply ZO);rfl;rfl)|((with_reducible apply ZP);rfl;rfl)|((with_reducible apply Zqd);rfl;rfl;rfl;omega)|((with_reducible apply Zqn);rfl;rfl;rfl)|((with_reducible apply Zqs);rfl;rfl;rfl)|((with_reducible first|apply Zqz|apply Zra);rfl;rfl;(focus (repeat constructor));rfl)|((with_reducible apply Zrc);rfl;rfl;rfl;exact List.cons_ne_nil _ _;(first|rfl|(repeat first|exact plain_nil|(refine plain_cons (by first|rfl|exact OwnD.plain_val _ _) ?_)));(focus (repeat constructor));rfl)|((with_reducible apply ZD);rfl))
          refine SK.meth rfl rfl (fail92 _ rfl R n _ x timeoutT (hf.mono (by omega))) hy hD (by (repeat constructor)) (by (repeat constructor)) (by (repeat constructor)) (by (repeat constructor)) (by (repeat constructor)) (fun y2 hy2 => ?_)
          (repeat first|(with_reducible first|apply Za|apply Zb|apply Zc|apply Zd|apply Zi|apply Zp|apply Zs)|((with_reducible apply ZJ);rfl;rfl))
          exact SK.retQ rfl (by (repeat constructor)) (fun w' hm' => ⟨y2, by rw [he]; exact hy2, by rw [he]; rfl, by rw [he]; exact hm'.wk (by (repeat constructor))⟩)
        · have he : endsL D now R a = (12, R) := by unfold endsL; rw [hn]; simp only; rw [if_pos (.inl k1), if_pos (.inr ⟨k1, htry⟩)]
          (repeat first|(with_reducible first|apply Za|apply Zb|apply Zc|apply Zd|apply Zi|apply Zk|apply Zo|apply Zp|apply Zs)|((with_reducible first|apply ZI|apply ZJ|apply ZK|apply ZO);rfl;rfl)|((with_reducible apply ZP);rfl;rfl)|((with_reducible apply ZX);rfl;rfl;rfl;omega)|((with_reducible apply Zqd);rfl;rfl;rfl;omega)|((with_reducible apply Zqn);rfl;rfl;rfl)|((with_reducible apply Zqs);rfl;rfl;rfl)|((with_reducible apply Zqz);rfl;rfl;(focus (repeat constructor));rfl)|((with_reducible apply Zrc);rfl;rfl;rfl;exact List.cons_ne_nil _ _;(first|rfl|(repeat first|exact plain_nil|(refine plain_cons (by first|rfl|exact OwnD.plain_val _ _) ?_)));(focus (repeat constructor));rfl)|((with_reducible apply ZC);rfl)|((with_reducible apply ZD);rfl))
          exact SK.retQ rfl (by (repeat constructor)) (fun w' hm' => ⟨((oN, oS), oE, oT), by rw [he]; exact hy, by rw [he]; rfl, by rw [he]; exact hm'.wk (by (repeat constructor))⟩)
      · have he : endsL D now R a = (12, R) := by unfold endsL; rw [hn]; simp only; rw [if_pos (.inl k1), if_pos (.inl hs)]
        (repeat first|(with_reducible first|apply Za|apply Zb|apply Zc|apply Zd|apply Zi|apply Zk|apply Zo|apply Zp|apply Zs)|((with_reducible first|apply ZI|apply ZJ|apply ZK);rfl;rfl)|((with_reducible apply ZP);rfl;rfl)|((with_reducible apply ZX);rfl;rfl;rfl;omega)|((with_reducible first|apply Zqn|apply Zqo);rfl;rfl;rfl)|((with_reducible apply Zqx);rfl;rfl;rfl;rfl)|((with_reducible apply Zqz);rfl;rfl;(focus (repeat constructor));rfl)|((with_reducible apply Zrc);rfl;rfl;rfl;exact List.cons_ne_nil _ _;(first|rfl|(repeat first|exact plain_nil|(refine plain_cons (by first|rfl|exact OwnD.plain_val _ _) ?_)));(focus (repeat constructor));rfl)|((with_reducible apply ZC);rfl)|((with_reducible apply ZD);rfl))
        exact SK.retQ rfl (by (repeat constructor)) (fun w' hm' => ⟨((oN, oS), oE, oT), by rw [he]; exact hy, by rw [he]; rfl, by rw [he]; exact hm'.wk (by (repeat constructor))⟩)
set_option maxRecDepth 100000 in
set_option maxHeartbeats 8000000 in
theorem child72 (c : Cx) (hT : c.T = 113) (R : Rn) (hDO : DefOK c.D) (hl : R.S.nodes.length = c.D.nodes.length) (a : Inp) (hf : Room c.D R 6000) : Meth 72 c [.agg a.c.toArray] R (toldL c.D c.now R a).2 (.int .i64 (toldL c.D c.now R a).1) := by
  intro b y w hy hD hm
  obtain ⟨T, D, dsl, now⟩ := c
  dsimp only at *
  subst hT
  have hdn := hf.dn
  obtain ⟨⟨oN, oS⟩, oE, oT⟩ := y
  refine enterF (M := rnM _ b R ((oN, oS), oE, oT)) Try.func72 rfl Try.ntmps72 rfl hm ?_
  (repeat first|(with_reducible first|apply Za|apply Zb|apply Zc|apply Zd|apply Zi|apply Zs)|((with_reducible first|apply ZI|apply ZJ|apply ZK);rfl;rfl)|((with_reducible apply Zqz);rfl;rfl;(focus (repeat constructor));rfl)|((with_reducible apply Zrf);rfl;rfl;intro _))
  refine SK.callO rfl rfl (fun w1 g1 g2 => node90 D dsl (oN.val R.S.nodes.length) R.S a.node 3 b w1 hdn (g2 _ _ _ (by (repeat constructor)) 0 _ rfl) (g2 _ _ _ (by (repeat constructor)) 1 _ rfl) (g2 _ _ _ (by (repeat constructor)) 8 _ rfl) (hD.mono g1) (RSl.own oN hy.1.1 (fun b cs hb j u hu => g2 b cs _ (by rw [← hb]; (repeat constructor)) j u hu))) ?_
  rintro av ⟨Aa, la, ca, rfl⟩
  cases hp : pickN D R.S a.node ([3] : List Int).contains with
  | none =>
    have he : toldL D now R a = (6, R) := by
      have h := pickN_none hp
      unfold toldL
      split
      · rfl
      · rename_i n x hn
        have := h n x hn
        rw [if_neg (by simpa using this)]
    (repeat first|(with_reducible first|apply Za|apply Zb|apply Zc|apply Zd|apply Zi|apply Zk|apply Zp|apply Zs)|((with_reducible first|apply ZI|apply ZJ);rfl;rfl)|((with_reducible apply ZP);rfl;rfl)|((with_reducible apply Zqn);rfl;rfl;rfl)|((with_reducible apply Zrc);rfl;rfl;rfl;exact List.cons_ne_nil _ _;(first|rfl|(repeat first|exact plain_nil|(refine plain_cons (by first|rfl|exact OwnD.plain_val _ _) ?_)));(focus (repeat constructor));rfl)|((with_reducible apply Zrg);rfl;intro _)|((with_reducible apply ZC);rfl))
    exact SK.retQ rfl (by (repeat constructor)) (fun w' hm' => ⟨((oN, oS), oE, oT), by rw [he]; exact hy, by rw [he]; rfl, by rw [he]; exact hm'.wk (by (repeat constructor))⟩)
  | some p =>
    obtain ⟨n, x⟩ := p
    obtain ⟨hn, hk⟩ := pickN_some hp
    have k3 : n.kind = 3 := by simpa using hk
    by_cases hs : x.st = 2
    · by_cases h2 : a.status = 2
      · have he : toldL D now R a = (0, onL D now (happ D R ⟨10, n.name, a.text, 0⟩)) := by unfold toldL; rw [hn]; simp only; rw [if_pos k3, if_neg (by omega), if_pos h2]
        (repeat first|(with_reducible first|apply Za|apply Zb|apply Zc|apply Zd|apply Zi|apply Zo|apply Zs)|((with_reducible first|apply ZI|apply ZJ|apply ZK);rfl;rfl)|((with_reducible apply ZP);rfl;rfl)|((with_reducible apply ZW);rfl;rfl;rfl;omega)|((with_reducible apply Zqd);rfl;rfl;rfl;omega)|((with_reducible apply Zqn);rfl;rfl;rfl)|((with_reducible apply Zqz);rfl;rfl;(focus (repeat constructor));rfl)|((with_reducible apply Zrc);rfl;rfl;rfl;exact List.cons_ne_nil _ _;(first|rfl|(repeat first|exact plain_nil|(refine plain_cons (by first|rfl|exact OwnD.plain_val _ _) ?_)));(focus (repeat constructor));rfl)|((with_reducible apply Zrg);rfl;intro _)|((with_reducible apply ZC);rfl)|((with_reducible apply ZD);rfl))
        refine SK.meth rfl rfl (event67 _ rfl R ⟨10, n.name, a.text, 0⟩ hf.fit hdn) hy hD (by (repeat constructor)) (by (repeat constructor)) (by (repeat constructor)) (by (repeat constructor)) (by (repeat constructor)) (fun y1 hy1 => ?_)
        have hr1 : Room D (happ D R ⟨10, n.name, a.text, 0⟩) 5999 := hf.happ _ (show (10 : Int) ≠ 13 by decide)
        (repeat first|(with_reducible first|apply Za|apply Zb|apply Zc|apply Zd|apply Zi|apply Zs)|((with_reducible apply ZI);rfl;rfl))
        refine SK.meth rfl rfl (on68 _ rfl hDO _ (Room.on (hr1.mono (by omega))) (happ_len hl)) hy1 hD (by (repeat constructor)) (by (repeat constructor)) (by (repeat constructor)) (by (repeat constructor)) (by (repeat constructor)) (fun y2 hy2 => ?_)
        (repeat first|(with_reducible first|apply Za|apply Zb|apply Zc|apply Zd|apply Zi|apply Zk|apply Zp|apply Zs)|((with_reducible apply ZJ);rfl;rfl))
        exact SK.retQ rfl (by (repeat constructor)) (fun w' hm' => ⟨y2, by rw [he]; exact hy2, by rw [he]; rfl, by rw [he]; exact hm'.wk (by (repeat constructor))⟩)
      · have he : toldL D now R a = (0, cls D (happ D R ⟨6, n.name, a.text, 0⟩) 3 a.text) := by unfold toldL; rw [hn]; simp only; rw [if_pos k3, if_neg (by omega), if_neg h2]
        (repeat first|(with_reducible first|apply Za|apply Zb|apply Zc|apply Zd|apply Zi|apply Zo|apply Zs)|((with_reducible first|apply ZI|apply ZJ|apply ZK);rfl;rfl)|((with_reducible apply ZP);rfl;rfl)|((with_reducible first|apply Zqc|apply Zqd);rfl;rfl;rfl;omega)|((with_reducible apply Zqn);rfl;rfl;rfl)|((with_reducible apply Zqz);rfl;rfl;(focus (repeat constructor));rfl)|((with_reducible apply Zrc);rfl;rfl;rfl;exact List.cons_ne_nil _ _;(first|rfl|(repeat first|exact plain_nil|(refine plain_cons (by first|rfl|exact OwnD.plain_val _ _) ?_)));(focus (repeat constructor));rfl)|((with_reducible apply Zrg);rfl;intro _)|((with_reducible apply ZD);rfl))
        refine SK.meth rfl rfl (event67 _ rfl R ⟨6, n.name, a.text, 0⟩ hf.fit hdn) hy hD (by (repeat constructor)) (by (repeat constructor)) (by (repeat constructor)) (by (repeat constructor)) (by (repeat constructor)) (fun y1 hy1 => ?_)
        have hr1 : Room D (happ D R ⟨6, n.name, a.text, 0⟩) 5999 := hf.happ _ (show (6 : Int) ≠ 13 by decide)
        (repeat first|(with_reducible first|apply Za|apply Zb|apply Zc|apply Zd|apply Zi|apply Zs)|((with_reducible first|apply ZI|apply ZK);rfl;rfl)|((with_reducible apply Zqz);rfl;rfl;(focus (repeat constructor));rfl))
        refine SK.meth rfl rfl (closed73 _ rfl _ 3 a.text (hr1.mono (by omega))) hy1 hD (by (repeat constructor)) (by (repeat constructor)) (by (repeat constructor)) (by (repeat constructor)) (by (repeat constructor)) (fun y2 hy2 => ?_)
        (repeat first|(with_reducible first|apply Za|apply Zb|apply Zc|apply Zd|apply Zi|apply Zp|apply Zs)|((with_reducible apply ZJ);rfl;rfl))
        exact SK.retQ rfl (by (repeat constructor)) (fun w' hm' => ⟨y2, by rw [he]; exact hy2, by rw [he]; rfl, by rw [he]; exact hm'.wk (by (repeat constructor))⟩)
    · have he : toldL D now R a = (12, R) := by unfold toldL; rw [hn]; simp only; rw [if_pos k3, if_pos hs]
      (repeat first|(with_reducible first|apply Za|apply Zb|apply Zc|apply Zd|apply Zi|apply Zk|apply Zo|apply Zp|apply Zs)|((with_reducible first|apply ZI|apply ZJ|apply ZK);rfl;rfl)|((with_reducible apply ZP);rfl;rfl)|((with_reducible apply ZX);rfl;rfl;rfl;omega)|((with_reducible apply Zqn);rfl;rfl;rfl)|((with_reducible apply Zqz);rfl;rfl;(focus (repeat constructor));rfl)|((with_reducible apply Zrc);rfl;rfl;rfl;exact List.cons_ne_nil _ _;(first|rfl|(repeat first|exact plain_nil|(refine plain_cons (by first|rfl|exact OwnD.plain_val _ _) ?_)));(focus (repeat constructor));rfl)|((with_reducible apply Zrg);rfl;intro _)|((with_reducible apply ZC);rfl)|((with_reducible apply ZD);rfl))
      exact SK.retQ rfl (by (repeat constructor)) (fun w' hm' => ⟨((oN, oS), oE, oT), by rw [he]; exact hy, by rw [he]; rfl, by rw [he]; exact hm'.wk (by (repeat constructor))⟩)
section
variable {P : Program} {ops : Array Oper} {w0 : World} {Mod : List Nat} {n : Nat} {F : FL} {M : ML} {K : Act → World → Prop} {chk : List Nat} {ty : TypeId} {pos : String} {aft : Array Edge} {d : Nat}
theorem SK.indexS {T : TypeId} {x ix : Operand} {s : ByteArray} {q : IntKind} {i : Nat} [hT : Str P T] (hd : Nat.blt d n = true) (hx : ev F x = some (.string s)) (hi : ev F ix = some (.int q (i : Int))) (hlt : i < s.size)
    (h : SK w0 Mod n K ((d, .int .u8 ((s[i]'hlt).toNat : Int)) :: F) M) : SK w0 Mod n (stepE P ops ⟨some d, .index T x ix, ty, pos, aft, none⟩ chk K) F M :=
  SK.pure rfl hd (fun a hf w' => by
    have h1 := hT.str
    have h2 : P.underlying T = some .string := by
      cases hu : P.underlying T with
      | none => simp [hu] at h1
      | some d => cases d <;> simp [hu] at h1 ⊢
    have := run_index_string (P := P) w' T s q (i : Int) h2
    rw [dif_pos ⟨by omega, by omega⟩] at this
    simp only [execOp, hf.ev hx, hf.ev hi, Sem.run_bind, this, Result.andThen_ok, Sem.run_pure]
    rfl) h
theorem SK.convI {src dst : TypeId} {x : Operand} {q k : IntKind} {v : Int} (hd : Nat.blt d n = true) (hx : ev F x = some (.int q v)) (hs : (P.underlying src).isSome = true) (hD : P.underlying dst = some (.int (P.intKind dst))) (hk : P.intKind dst = k)
    (h : SK w0 Mod n K ((d, .int k (k.wrap v)) :: F) M) : SK w0 Mod n (stepE P ops ⟨some d, .convert src dst x, ty, pos, aft, none⟩ chk K) F M :=
  SK.pure rfl hd (fun a hf w' => by
    have := run_convert_int (P := P) w' src dst q v hs hD
    rw [hk] at this
    simp only [execOp, hf.ev hx, Sem.run_bind, this, Result.andThen_ok, Sem.run_pure]) h
theorem SK.convS {src dst : TypeId} {x : Operand} {q : IntKind} {v : Int} (hd : Nat.blt d n = true) (hx : ev F x = some (.int q v)) (hs : (P.underlying src).isSome = true) (hD : P.underlying dst = some .string)
    (h : SK w0 Mod n K ((d, .string (Utf8.encode v)) :: F) M) : SK w0 Mod n (stepE P ops ⟨some d, .convert src dst x, ty, pos, aft, none⟩ chk K) F M :=
  SK.pure rfl hd (fun a hf w' => by
    obtain ⟨dd, hd'⟩ := Option.isSome_iff_exists.mp hs
    have : (convert src dst (.int q v)).run P w' = .ok (.string (Utf8.encode v)) w' := by
      simp [convert, run_underlying hd', run_underlying hD, Conv.intToString]
    simp only [execOp, hf.ev hx, Sem.run_bind, this, Result.andThen_ok, Sem.run_pure]) h
end
theorem und5 : (Try.prog.underlying 5).isSome = true := by kernel_rfl
theorem und21 : Try.prog.underlying 21 = some (.int (Try.prog.intKind 21)) := by kernel_rfl
theorem und21s : (Try.prog.underlying 21).isSome = true := by kernel_rfl
theorem knd21 : Try.prog.intKind 21 = .i32 := by kernel_rfl
theorem und9 : Try.prog.underlying 9 = some .string := by kernel_rfl
@[reducible] def dots : ByteArray := ⟨#[46, 45, 95]⟩
def letterB (n : Nat) : Bool := (decide (97 ≤ n) && decide (n ≤ 122)) || (decide (65 ≤ n) && decide (n ≤ 90)) || (decide (48 ≤ n) && decide (n ≤ 57))
theorem name_all : (List.range 256).all (fun n => (letterB n || Lib.contains dots.data.toList (Utf8.encode (IntKind.i32.wrap (n : Int))).data.toList) == nameB (UInt8.ofNat n) false) = true := by kernel_rfl
theorem name_byte (b : UInt8) : (letterB b.toNat || Lib.contains dots.data.toList (Utf8.encode (IntKind.i32.wrap (b.toNat : Int))).data.toList) = nameB b false := by
  have := List.all_eq_true.1 name_all b.toNat (List.mem_range.2 b.toNat_lt)
  rw [beq_iff_eq] at this
  rw [this, UInt8.ofNat_toNat]
theorem nameAll_no {s : ByteArray} {sl : Bool} {i : Nat} (hi : i < s.size) (h : nameB s[i] sl = false) : s.toList.all (nameB · sl) = false := by
  rw [ByteArray.toList_eq, List.all_eq_false]
  exact ⟨s[i], by show s.data[i] ∈ _; simp, by rw [h]; simp⟩
theorem nameAll_yes {s : ByteArray} {sl : Bool} (h : ∀ (j : Nat) (hj : j < s.size), nameB (s[j]'hj) sl = true) : s.toList.all (nameB · sl) = true := by
  rw [ByteArray.toList_eq, List.all_eq_true]
  intro x hx
  obtain ⟨j, hj, rfl⟩ := List.mem_iff_getElem.1 hx
  exact h j (by simpa using hj)
theorem contains101 (s sub : ByteArray) (m : Int) (w : World) (hs : s.size < 4294967281) (hm : Vw w [] 0 0 (.int .i64 m)) : Ans 101 [.string s, .string sub] w (.bool (Lib.contains s.data.toList sub.data.toList)) :=
  (Try.strings_Contains s sub m w hs hm.2.2).mono (fun e w' ⟨h1, h2⟩ => ⟨(), trivial, h1, by rw [h2]; exact Mem.zero w⟩)
set_option maxRecDepth 100000 in
set_option maxHeartbeats 4000000 in
theorem made97 (s : ByteArray) (m : Int) (w : World) (hs : s.size ≤ 64) (hm : Vw w [] 0 0 (.int .i64 m)) : Ans 97 [.string s, .string dots] w (.bool (s.toList.all (nameB · false) && decide (s ≠ ⟨#[]⟩))) := by
  refine enter0 Try.func97 rfl Try.ntmps97 rfl ?_
  (repeat first|(with_reducible first|apply Za|apply Zb|apply Zc|apply Zd|apply Zi|apply Zr)|((with_reducible first|apply ZI|apply ZJ);rfl;rfl)|((with_reducible apply ZQ);rfl;rfl))
  refine SK.loopW (fun i : Nat => [(10, .int .i64 (i : Int)), (9, .int .i64 (s.size : Int)), (0, .string s), (1, .string dots)]) (fun _ => []) (fun i => i ≤ s.size ∧ ∀ (j : Nat) (hj : j < s.size), j < i → nameB (s[j]'hj) false = true) (fun i => s.size - i) 0
    ⟨Nat.zero_le _, fun j _ hj => absurd hj (Nat.not_lt_zero j)⟩ (by (repeat constructor)) (by (repeat constructor)) ?_
  rintro i ⟨hi, hall⟩
  by_cases hlt : i < s.size
  · have hb := s[i].toNat_lt
    have hnb := name_byte s[i]
    (repeat ((fail_if_success (with_reducible refine SK.atR 5 ?_)); first|(with_reducible first|apply Za|apply Zb|apply Zc|apply Zd|apply Zi|apply Zo|apply Zr)|((with_reducible refine Yz ?_);first|((with_reducible apply SK.indexS (hlt := hlt)); rfl; rfl; rfl)|((with_reducible first|apply ZI|apply ZJ);rfl;rfl)|((with_reducible apply ZS);rfl;rfl;rfl;omega))|((with_reducible apply ZC);rfl)))
    generalize hn : s[i].toNat = n at hb hnb ⊢
    refine SK.test 7 (letterB n = true) ?_ (fun hl => ?_) (fun hl => ?_)
    · by_cases a1 : 97 ≤ n
      · by_cases a2 : n ≤ 122
        · (repeat first|(with_reducible first|apply Zb|apply Zc|apply Zd|apply Zi)|((with_reducible first|apply ZI|apply ZJ|apply ZO);rfl;rfl)|((with_reducible first|apply ZT|apply ZV);rfl;rfl;rfl;omega)|((with_reducible apply Zqo);rfl;rfl;rfl)|((with_reducible apply Zqx);rfl;rfl;rfl;rfl)|((with_reducible apply Zqy);rfl;rfl;rfl))
          exact SK.outcome (by (repeat constructor)) (by (repeat constructor)) (by simp [letterB, a1, a2])
        · (repeat first|(with_reducible first|apply Zb|apply Zc|apply Zd|apply Zi)|((with_reducible first|apply ZI|apply ZJ|apply ZO);rfl;rfl)|((with_reducible apply ZV);rfl;rfl;rfl;omega)|((with_reducible apply ZZ);rfl;rfl;rfl;omega)|((with_reducible apply Zqo);rfl;rfl;rfl)|((with_reducible apply Zqs);rfl;rfl;rfl))
          exact SK.outcome (by (repeat constructor)) (by (repeat constructor)) (by simp [letterB]; omega)
      · by_cases b1 : 65 ≤ n
        · by_cases b2 : n ≤ 90
          · (repeat first|(with_reducible first|apply Zb|apply Zc|apply Zd|apply Zi)|((with_reducible first|apply ZI|apply ZJ|apply ZO);rfl;rfl)|((with_reducible first|apply ZT|apply ZV);rfl;rfl;rfl;omega)|((with_reducible apply Zqb);rfl;rfl;rfl;omega)|((with_reducible apply Zqo);rfl;rfl;rfl)|((with_reducible apply Zqs);rfl;rfl;rfl)|((with_reducible apply Zqx);rfl;rfl;rfl;rfl)|((with_reducible apply Zqy);rfl;rfl;rfl))
            exact SK.outcome (by (repeat constructor)) (by (repeat constructor)) (by simp [letterB, b1, b2])
          · (repeat first|(with_reducible first|apply Zb|apply Zc|apply Zd|apply Zi)|((with_reducible first|apply ZI|apply ZJ|apply ZO);rfl;rfl)|((with_reducible apply ZV);rfl;rfl;rfl;omega)|((with_reducible first|apply ZZ|apply Zqb);rfl;rfl;rfl;omega)|((with_reducible apply Zqo);rfl;rfl;rfl)|((with_reducible apply Zqs);rfl;rfl;rfl)|((with_reducible apply Zqx);rfl;rfl;rfl;rfl))
            exact SK.outcome (by (repeat constructor)) (by (repeat constructor)) (by simp [letterB]; omega)
        · by_cases c1 : 48 ≤ n
          · by_cases c2 : n ≤ 57
            · (repeat first|(with_reducible first|apply Zb|apply Zc|apply Zd|apply Zi)|((with_reducible first|apply ZI|apply ZJ|apply ZO);rfl;rfl)|((with_reducible first|apply ZT|apply ZV);rfl;rfl;rfl;omega)|((with_reducible apply Zqb);rfl;rfl;rfl;omega)|((with_reducible apply Zqo);rfl;rfl;rfl)|((with_reducible apply Zqs);rfl;rfl;rfl)|((with_reducible apply Zqx);rfl;rfl;rfl;rfl))
              exact SK.outcome (by (repeat constructor)) (by (repeat constructor)) (by simp [letterB, c1, c2])
            · (repeat first|(with_reducible first|apply Zb|apply Zc|apply Zd|apply Zi)|((with_reducible first|apply ZI|apply ZJ|apply ZO);rfl;rfl)|((with_reducible apply ZV);rfl;rfl;rfl;omega)|((with_reducible first|apply ZZ|apply Zqb);rfl;rfl;rfl;omega)|((with_reducible apply Zqo);rfl;rfl;rfl)|((with_reducible apply Zqs);rfl;rfl;rfl)|((with_reducible apply Zqx);rfl;rfl;rfl;rfl))
              exact SK.outcome (by (repeat constructor)) (by (repeat constructor)) (by simp [letterB]; omega)
          · (repeat first|(with_reducible first|apply Zb|apply Zc|apply Zd|apply Zi)|((with_reducible first|apply ZI|apply ZJ|apply ZO);rfl;rfl)|((with_reducible apply Zqb);rfl;rfl;rfl;omega)|((with_reducible apply Zqs);rfl;rfl;rfl)|((with_reducible apply Zqx);rfl;rfl;rfl;rfl))
            exact SK.outcome (by (repeat constructor)) (by (repeat constructor)) (by simp [letterB]; omega)
    · rw [hl, Bool.true_or] at hnb
      (repeat first|(with_reducible first|apply Za|apply Zb|apply Zc|apply Zd|apply Zi|apply Zl|apply Zo)|((with_reducible apply ZI);rfl;rfl)|((with_reducible apply ZP);rfl;rfl)|((with_reducible apply ZR);rfl;rfl;rfl;omega)|((with_reducible apply Zqs);rfl;rfl;rfl)|((with_reducible apply Zqx);rfl;rfl;rfl;rfl)|((with_reducible apply ZD);rfl))
      exact SK.roundW (i + 1) ⟨by omega, fun j hj hji => by
        by_cases hje : j = i
        · subst hje; exact hnb.symm
        · exact hall j hj (by omega)⟩ (by omega) (by (repeat constructor)) (by (repeat constructor))
    · rw [Bool.not_eq_true] at hl
      rw [hl, Bool.false_or] at hnb
      (repeat first|(with_reducible first|apply Za|apply Zb|apply Zc)|((with_reducible first|apply ZI|apply ZO);rfl;rfl)|((with_reducible apply ZP);rfl;rfl))
      refine SK.convI rfl rfl und5 und21 knd21 ?_
      (repeat first|(with_reducible apply Zc)|((with_reducible apply ZO);rfl;rfl))
      refine SK.convS rfl rfl und21s und9 ?_
      (repeat first|(with_reducible apply Zc)|((with_reducible apply ZO);rfl;rfl))
      refine SK.callA rfl rfl (fun w1 g1 _ => contains101 dots _ m w1 (by decide) (g1 _ _ _ hm)) ?_
      rw [hnb]
      cases hc : nameB s[i] false with
      | true =>
        (repeat first|(with_reducible first|apply Zb|apply Zc|apply Zd|apply Zi|apply Zl|apply Zo|apply Zs)|((with_reducible first|apply ZI|apply ZO);rfl;rfl)|((with_reducible apply ZP);rfl;rfl)|((with_reducible apply ZR);rfl;rfl;rfl;omega)|((with_reducible apply Zqo);rfl;rfl;rfl)|((with_reducible apply ZD);rfl))
        exact SK.roundW (i + 1) ⟨by omega, fun j hj hji => by
          by_cases hje : j = i
          · subst hje; exact hc
          · exact hall j hj (by omega)⟩ (by omega) (by (repeat constructor)) (by (repeat constructor))
      | false =>
        (repeat first|(with_reducible first|apply Za|apply Zb|apply Zc|apply Zd|apply Zi|apply Zk|apply Zm|apply Zp|apply Zs)|((with_reducible first|apply ZJ|apply ZO);rfl;rfl)|((with_reducible apply ZP);rfl;rfl)|((with_reducible apply Zqo);rfl;rfl;rfl)|((with_reducible apply ZC);rfl))
        exact SK.retQ rfl (by (repeat constructor)) (fun w' hm' => ⟨(), trivial, by rw [nameAll_no hlt hc]; rfl, hm'.wk (by (repeat constructor))⟩)
  · have hy := nameAll_yes (s := s) (sl := false) (fun j hj => hall j hj (by omega))
    by_cases he : s = ⟨#[]⟩
    · have he2 : ¬ (s ≠ ⟨#[]⟩) := fun h => h he
      (repeat first|(with_reducible first|apply Za|apply Zb|apply Zc|apply Zd|apply Zi|apply Zj|apply Zn|apply Zp|apply Zq)|((with_reducible first|apply ZI|apply ZJ);rfl;rfl)|((with_reducible apply ZY);rfl;rfl;rfl;omega)|((with_reducible apply Zqe);rfl;rfl;rfl;assumption)|((with_reducible apply ZD);rfl))
      exact SK.retQ rfl (by (repeat constructor)) (fun w' hm' => ⟨(), trivial, by rw [hy, decide_eq_false he2]; rfl, hm'.wk (by (repeat constructor))⟩)
    · have he2 : s ≠ ⟨#[]⟩ := he
      (repeat first|(with_reducible first|apply Za|apply Zb|apply Zc|apply Zd|apply Zi|apply Zj|apply Zn|apply Zp|apply Zq)|((with_reducible first|apply ZI|apply ZJ);rfl;rfl)|((with_reducible apply ZY);rfl;rfl;rfl;omega)|((with_reducible apply Zqt);rfl;rfl;rfl;assumption)|((with_reducible apply ZD);rfl))
      exact SK.retQ rfl (by (repeat constructor)) (fun w' hm' => ⟨(), trivial, by rw [hy, decide_eq_true he2]; rfl, hm'.wk (by (repeat constructor))⟩)
theorem size_pos (s : ByteArray) : decide (s ≠ ⟨#[]⟩) = decide (1 ≤ s.size) := by
  rw [decide_eq_decide]
  constructor
  · intro h
    refine Classical.byContradiction fun hn => h ?_
    have h0 : s.data.size = 0 := by show s.size = 0; omega
    exact ByteArray.ext (Array.eq_empty_of_size_eq_zero h0)
  · rintro h rfl
    exact absurd h (by decide)
set_option maxRecDepth 100000 in
set_option maxHeartbeats 4000000 in
theorem name76 (s : ByteArray) (m : Int) (w : World) (hm : Vw w [] 0 0 (.int .i64 m)) (hs : s.size ≤ 1000) : Ans 76 [.string s] w (.bool (nameL s false 64)) := by
  refine enter0 Try.func76 rfl Try.ntmps76 rfl ?_
  by_cases h64 : s.size ≤ 64
  · (repeat first|(with_reducible first|apply Za|apply Zb|apply Zc|apply Zd|apply Zi)|((with_reducible first|apply ZI|apply ZJ|apply ZO);rfl;rfl)|((with_reducible apply ZQ);rfl;rfl)|((with_reducible apply ZT);rfl;rfl;rfl;omega))
    refine SK.callA rfl rfl (fun w1 g1 _ => made97 s m w1 h64 (g1 _ _ _ hm)) ?_
    have he : nameL s false 64 = (s.toList.all (nameB · false) && decide (s ≠ ⟨#[]⟩)) := by
      unfold nameL; rw [size_pos, decide_eq_true h64, Bool.and_true]
    rw [he]
    (repeat first|(with_reducible first|apply Zc|apply Zd|apply Zi|apply Zp|apply Zs)|((with_reducible apply ZJ);rfl;rfl)|((with_reducible apply Zqo);rfl;rfl;rfl))
    exact SK.retQ rfl (by (repeat constructor)) (fun w' hm' => ⟨(), trivial, rfl, hm'.wk (by (repeat constructor))⟩)
  · have he : nameL s false 64 = false := by unfold nameL; rw [decide_eq_false h64, Bool.and_false]
    rw [he]
    (repeat first|(with_reducible first|apply Za|apply Zb|apply Zc|apply Zd|apply Zi|apply Zp)|((with_reducible first|apply ZI|apply ZJ);rfl;rfl)|((with_reducible apply ZQ);rfl;rfl)|((with_reducible apply ZZ);rfl;rfl;rfl;omega)|((with_reducible apply Zqs);rfl;rfl;rfl)|((with_reducible apply Zqx);rfl;rfl;rfl;rfl))
    exact SK.retQ rfl (by (repeat constructor)) (fun w' hm' => ⟨(), trivial, rfl, hm'.wk (by (repeat constructor))⟩)
def nmB (n : Nat) (sl : Bool) : Bool := letterB n || decide (n = 46) || decide (n = 45) || decide (n = 95) || (decide (n = 47) && sl)
theorem nm_all : (List.range 256).all (fun n => (nmB n true == nameB (UInt8.ofNat n) true) && (nmB n false == nameB (UInt8.ofNat n) false)) = true := by kernel_rfl
theorem nm_byte (b : UInt8) (sl : Bool) : nmB b.toNat sl = nameB b sl := by
  have := List.all_eq_true.1 nm_all b.toNat (List.mem_range.2 b.toNat_lt)
  rw [Bool.and_eq_true, beq_iff_eq, beq_iff_eq, UInt8.ofNat_toNat] at this
  cases sl
  · exact this.2
  · exact this.1
set_option maxRecDepth 100000 in
set_option maxHeartbeats 4000000 in
theorem named64 (s : ByteArray) (sl : Bool) (most : Nat) (w : World) (hs : s.size < 9223372036854775807) : Ans 64 [.string s, .bool sl, .int .i64 (most : Int)] w (.bool (nameL s sl most)) := by
  refine enter0 Try.func64 rfl Try.ntmps64 rfl ?_
  (repeat first|(with_reducible first|apply Za|apply Zb|apply Zc|apply Zd|apply Zi|apply Zr)|((with_reducible apply ZJ);rfl;rfl))
  refine SK.loopW (fun i : Nat => [(7, .int .i64 (i : Int)), (0, .string s), (1, .bool sl), (2, .int .i64 (most : Int))]) (fun _ => []) (fun i => i ≤ s.size ∧ ∀ (j : Nat) (hj : j < s.size), j < i → nameB (s[j]'hj) sl = true) (fun i => s.size - i) 0
    ⟨Nat.zero_le _, fun j _ hj => absurd hj (Nat.not_lt_zero j)⟩ (by (repeat constructor)) (by (repeat constructor)) ?_
  rintro i ⟨hi, hall⟩
  by_cases hlt : i < s.size
  · have hb := s[i].toNat_lt
    have hnb := nm_byte s[i] sl
    (repeat ((fail_if_success (with_reducible refine SK.atR 5 ?_)); first|(with_reducible first|apply Za|apply Zb|apply Zc|apply Zd|apply Zi|apply Zo|apply Zr)|((with_reducible refine Yz ?_);first|((with_reducible apply SK.indexS (hlt := hlt)); rfl; rfl; rfl)|((with_reducible first|apply ZI|apply ZJ);rfl;rfl)|((with_reducible apply ZQ);rfl;rfl)|((with_reducible apply ZS);rfl;rfl;rfl;omega))|((with_reducible apply ZC);rfl)))
    generalize hn : s[i].toNat = n at hb hnb ⊢
    refine SK.test 59 (¬ nmB n sl = true) ?_ (fun hl => ?_) (fun hl => ?_)
    · by_cases a1 : 97 ≤ n
      · by_cases a2 : n ≤ 122
        · (repeat first|(with_reducible first|apply Zb|apply Zc|apply Zd|apply Zi)|((with_reducible first|apply ZI|apply ZO);rfl;rfl)|((with_reducible apply ZP);rfl;rfl)|((with_reducible first|apply ZT|apply ZV);rfl;rfl;rfl;omega)|((with_reducible apply Zqo);rfl;rfl;rfl)|((with_reducible apply Zqx);rfl;rfl;rfl;rfl)|((with_reducible apply Zqy);rfl;rfl;rfl))
          exact SK.outcome (by (repeat constructor)) (by (repeat constructor)) (by simp [nmB, letterB, a1, a2])
        · (repeat first|(with_reducible first|apply Zb|apply Zc|apply Zd|apply Zi)|((with_reducible first|apply ZI|apply ZO);rfl;rfl)|((with_reducible apply ZP);rfl;rfl)|((with_reducible apply ZV);rfl;rfl;rfl;omega)|((with_reducible first|apply ZZ|apply Zqc);rfl;rfl;rfl;omega)|((with_reducible apply Zqo);rfl;rfl;rfl)|((with_reducible apply Zqs);rfl;rfl;rfl)|((with_reducible apply Zqx);rfl;rfl;rfl;rfl))
          exact SK.outcome (by (repeat constructor)) (by (repeat constructor)) (by simp [nmB, letterB]; omega)
      · by_cases b1 : 65 ≤ n
        · by_cases b2 : n ≤ 90
          · (repeat first|(with_reducible first|apply Zb|apply Zc|apply Zd|apply Zi)|((with_reducible first|apply ZI|apply ZO);rfl;rfl)|((with_reducible apply ZP);rfl;rfl)|((with_reducible first|apply ZT|apply ZV);rfl;rfl;rfl;omega)|((with_reducible apply Zqb);rfl;rfl;rfl;omega)|((with_reducible apply Zqo);rfl;rfl;rfl)|((with_reducible apply Zqs);rfl;rfl;rfl)|((with_reducible apply Zqx);rfl;rfl;rfl;rfl)|((with_reducible apply Zqy);rfl;rfl;rfl))
            exact SK.outcome (by (repeat constructor)) (by (repeat constructor)) (by simp [nmB, letterB, b1, b2])
          · by_cases d95 : n = 95
            · (repeat first|(with_reducible first|apply Zb|apply Zc|apply Zd|apply Zi)|((with_reducible first|apply ZI|apply ZO);rfl;rfl)|((with_reducible apply ZP);rfl;rfl)|((with_reducible first|apply ZV|apply ZW);rfl;rfl;rfl;omega)|((with_reducible first|apply ZZ|apply Zqb|apply Zqc);rfl;rfl;rfl;omega)|((with_reducible apply Zqo);rfl;rfl;rfl)|((with_reducible apply Zqs);rfl;rfl;rfl)|((with_reducible apply Zqx);rfl;rfl;rfl;rfl)|((with_reducible apply Zqy);rfl;rfl;rfl))
              exact SK.outcome (by (repeat constructor)) (by (repeat constructor)) (by simp [nmB, letterB, d95])
            · (repeat first|(with_reducible first|apply Zb|apply Zc|apply Zd|apply Zi)|((with_reducible first|apply ZI|apply ZO);rfl;rfl)|((with_reducible apply ZP);rfl;rfl)|((with_reducible apply ZV);rfl;rfl;rfl;omega)|((with_reducible first|apply ZZ|apply Zqb|apply Zqc);rfl;rfl;rfl;omega)|((with_reducible apply Zqo);rfl;rfl;rfl)|((with_reducible apply Zqs);rfl;rfl;rfl)|((with_reducible apply Zqx);rfl;rfl;rfl;rfl))
              exact SK.outcome (by (repeat constructor)) (by (repeat constructor)) (by simp [nmB, letterB]; omega)
        · by_cases c1 : 48 ≤ n
          · by_cases c2 : n ≤ 57
            · (repeat first|(with_reducible first|apply Zb|apply Zc|apply Zd|apply Zi)|((with_reducible first|apply ZI|apply ZO);rfl;rfl)|((with_reducible apply ZP);rfl;rfl)|((with_reducible first|apply ZT|apply ZV);rfl;rfl;rfl;omega)|((with_reducible apply Zqb);rfl;rfl;rfl;omega)|((with_reducible apply Zqo);rfl;rfl;rfl)|((with_reducible apply Zqs);rfl;rfl;rfl)|((with_reducible apply Zqx);rfl;rfl;rfl;rfl)|((with_reducible apply Zqy);rfl;rfl;rfl))
              exact SK.outcome (by (repeat constructor)) (by (repeat constructor)) (by simp [nmB, letterB, c1, c2])
            · (repeat first|(with_reducible first|apply Zb|apply Zc|apply Zd|apply Zi)|((with_reducible first|apply ZI|apply ZO);rfl;rfl)|((with_reducible apply ZP);rfl;rfl)|((with_reducible apply ZV);rfl;rfl;rfl;omega)|((with_reducible first|apply ZZ|apply Zqb|apply Zqc);rfl;rfl;rfl;omega)|((with_reducible apply Zqo);rfl;rfl;rfl)|((with_reducible apply Zqs);rfl;rfl;rfl)|((with_reducible apply Zqx);rfl;rfl;rfl;rfl))
              exact SK.outcome (by (repeat constructor)) (by (repeat constructor)) (by simp [nmB, letterB]; omega)
          · by_cases d46 : n = 46
            · (repeat first|(with_reducible first|apply Zb|apply Zc|apply Zd|apply Zi)|((with_reducible first|apply ZI|apply ZO);rfl;rfl)|((with_reducible apply ZP);rfl;rfl)|((with_reducible apply ZW);rfl;rfl;rfl;omega)|((with_reducible apply Zqb);rfl;rfl;rfl;omega)|((with_reducible apply Zqo);rfl;rfl;rfl)|((with_reducible apply Zqs);rfl;rfl;rfl)|((with_reducible apply Zqx);rfl;rfl;rfl;rfl)|((with_reducible apply Zqy);rfl;rfl;rfl))
              exact SK.outcome (by (repeat constructor)) (by (repeat constructor)) (by simp [nmB, letterB, d46])
            · by_cases d45 : n = 45
              · (repeat first|(with_reducible first|apply Zb|apply Zc|apply Zd|apply Zi)|((with_reducible first|apply ZI|apply ZO);rfl;rfl)|((with_reducible apply ZP);rfl;rfl)|((with_reducible apply ZW);rfl;rfl;rfl;omega)|((with_reducible first|apply Zqb|apply Zqc);rfl;rfl;rfl;omega)|((with_reducible apply Zqo);rfl;rfl;rfl)|((with_reducible apply Zqs);rfl;rfl;rfl)|((with_reducible apply Zqx);rfl;rfl;rfl;rfl)|((with_reducible apply Zqy);rfl;rfl;rfl))
                exact SK.outcome (by (repeat constructor)) (by (repeat constructor)) (by simp [nmB, letterB, d45])
              · by_cases d47 : n = 47
                · cases sl with
                  | true =>
                    (repeat first|(with_reducible first|apply Zb|apply Zc|apply Zd|apply Zi)|((with_reducible first|apply ZI|apply ZO);rfl;rfl)|((with_reducible apply ZP);rfl;rfl)|((with_reducible apply ZW);rfl;rfl;rfl;omega)|((with_reducible first|apply Zqb|apply Zqc);rfl;rfl;rfl;omega)|((with_reducible apply Zqo);rfl;rfl;rfl)|((with_reducible apply Zqs);rfl;rfl;rfl)|((with_reducible apply Zqx);rfl;rfl;rfl;rfl))
                    exact SK.outcome (by (repeat constructor)) (by (repeat constructor)) (by simp [nmB, letterB, d47])
                  | false =>
                    (repeat first|(with_reducible first|apply Zb|apply Zc|apply Zd|apply Zi)|((with_reducible first|apply ZI|apply ZO);rfl;rfl)|((with_reducible apply ZP);rfl;rfl)|((with_reducible apply ZW);rfl;rfl;rfl;omega)|((with_reducible first|apply Zqb|apply Zqc);rfl;rfl;rfl;omega)|((with_reducible apply Zqo);rfl;rfl;rfl)|((with_reducible apply Zqs);rfl;rfl;rfl)|((with_reducible apply Zqx);rfl;rfl;rfl;rfl))
                    exact SK.outcome (by (repeat constructor)) (by (repeat constructor)) (by simp [nmB, letterB, d47])
                · (repeat first|(with_reducible first|apply Zb|apply Zc|apply Zd|apply Zi)|((with_reducible first|apply ZI|apply ZO);rfl;rfl)|((with_reducible apply ZP);rfl;rfl)|((with_reducible first|apply Zqb|apply Zqc);rfl;rfl;rfl;omega)|((with_reducible apply Zqs);rfl;rfl;rfl)|((with_reducible apply Zqx);rfl;rfl;rfl;rfl))
                  exact SK.outcome (by (repeat constructor)) (by (repeat constructor)) (by simp [nmB, letterB]; omega)
    · have hc : nameB s[i] sl = false := by rw [← hnb]; simpa using hl
      have he : nameL s sl most = false := by unfold nameL; rw [nameAll_no hlt hc]; rfl
      (repeat first|(with_reducible first|apply Za|apply Zb|apply Zc|apply Zd|apply Zi|apply Zk|apply Zm|apply Zp)|((with_reducible apply ZJ);rfl;rfl)|((with_reducible apply ZC);rfl))
      exact SK.retQ rfl (by (repeat constructor)) (fun w' hm' => ⟨(), trivial, by rw [he]; rfl, hm'.wk (by (repeat constructor))⟩)
    · have hc : nameB s[i] sl = true := by rw [← hnb]; simpa using hl
      (repeat first|(with_reducible first|apply Zb|apply Zc|apply Zd|apply Zi|apply Zl|apply Zo)|((with_reducible first|apply ZI|apply ZJ);rfl;rfl)|((with_reducible apply ZR);rfl;rfl;rfl;omega)|((with_reducible apply ZD);rfl))
      exact SK.roundW (i + 1) ⟨by omega, fun j hj hji => by
        by_cases hje : j = i
        · subst hje; exact hc
        · exact hall j hj (by omega)⟩ (by omega) (by (repeat constructor)) (by (repeat constructor))
  · have hy := nameAll_yes (s := s) (sl := sl) (fun j hj => hall j hj (by omega))
    by_cases h1 : 1 ≤ s.size
    · by_cases h2 : s.size ≤ most
      · (repeat first|(with_reducible first|apply Za|apply Zb|apply Zc|apply Zd|apply Zi|apply Zj|apply Zn|apply Zp|apply Zq)|((with_reducible first|apply ZI|apply ZJ|apply ZO);rfl;rfl)|((with_reducible apply ZQ);rfl;rfl)|((with_reducible first|apply ZT|apply ZV);rfl;rfl;rfl;omega)|((with_reducible apply ZY);rfl;rfl;rfl;omega)|((with_reducible apply Zqo);rfl;rfl;rfl)|((with_reducible apply ZD);rfl))
        exact SK.retQ rfl (by (repeat constructor)) (fun w' hm' => ⟨(), trivial, by unfold nameL; rw [hy, decide_eq_true h1, decide_eq_true h2]; rfl, hm'.wk (by (repeat constructor))⟩)
      · (repeat first|(with_reducible first|apply Za|apply Zb|apply Zc|apply Zd|apply Zi|apply Zj|apply Zn|apply Zp|apply Zq)|((with_reducible first|apply ZI|apply ZJ|apply ZO);rfl;rfl)|((with_reducible apply ZQ);rfl;rfl)|((with_reducible apply ZV);rfl;rfl;rfl;omega)|((with_reducible first|apply ZY|apply ZZ);rfl;rfl;rfl;omega)|((with_reducible apply Zqo);rfl;rfl;rfl)|((with_reducible apply ZD);rfl))
        exact SK.retQ rfl (by (repeat constructor)) (fun w' hm' => ⟨(), trivial, by unfold nameL; rw [hy, decide_eq_true h1, decide_eq_false h2]; rfl, hm'.wk (by (repeat constructor))⟩)
    · (repeat first|(with_reducible first|apply Za|apply Zb|apply Zc|apply Zd|apply Zi|apply Zj|apply Zn|apply Zp|apply Zq)|((with_reducible first|apply ZI|apply ZJ);rfl;rfl)|((with_reducible apply ZQ);rfl;rfl)|((with_reducible first|apply ZY|apply Zqb);rfl;rfl;rfl;omega)|((with_reducible apply Zqs);rfl;rfl;rfl)|((with_reducible apply Zqx);rfl;rfl;rfl;rfl)|((with_reducible apply ZD);rfl))
      exact SK.retQ rfl (by (repeat constructor)) (fun w' hm' => ⟨(), trivial, by unfold nameL; rw [hy, decide_eq_false h1]; rfl, hm'.wk (by (repeat constructor))⟩)
set_option maxRecDepth 100000 in
theorem name49 (s : ByteArray) (w : World) (hs : s.size < 9223372036854775807) : Ans 49 [.string s] w (.bool (nameL s false 64)) := by
  refine enter0 Try.func49 rfl Try.ntmps49 rfl ?_
  (repeat first|(with_reducible first|apply Za|apply Zb|apply Zc|apply Zd|apply Zi)|((with_reducible first|apply ZI|apply ZJ);rfl;rfl))
  refine SK.callA rfl rfl (fun w1 g1 _ => named64 s false 64 w1 hs) ?_
  (repeat first|(with_reducible first|apply Zc|apply Zd|apply Zi|apply Zp|apply Zs)|((with_reducible apply ZJ);rfl;rfl))
  exact SK.retQ rfl (by (repeat constructor)) (fun w' hm' => ⟨(), trivial, rfl, hm'.wk (by (repeat constructor))⟩)
set_option maxRecDepth 100000 in
theorem flow65 (s : ByteArray) (w : World) (hs : s.size < 9223372036854775807) : Ans 65 [.string s] w (.bool (nameL s true 256)) := by
  refine enter0 Try.func65 rfl Try.ntmps65 rfl ?_
  (repeat first|(with_reducible first|apply Za|apply Zb|apply Zc|apply Zd|apply Zi)|((with_reducible first|apply ZI|apply ZJ);rfl;rfl))
  refine SK.callA rfl rfl (fun w1 g1 _ => named64 s true 256 w1 hs) ?_
  (repeat first|(with_reducible first|apply Zc|apply Zd|apply Zi|apply Zp|apply Zs)|((with_reducible apply ZJ);rfl;rfl))
  exact SK.retQ rfl (by (repeat constructor)) (fun w' hm' => ⟨(), trivial, rfl, hm'.wk (by (repeat constructor))⟩)
end Go.Proofs.Ytdnjfmgldkommaa
