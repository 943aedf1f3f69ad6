/- Proved here: A running workflow always has a node that is ready or busy; what is over stays over; no node begins ahead of its predecessors. -/
import Derived.Test.YtdnjfmgldkommaaLa
import Derived.Test.YtdnjfmgldkommaaQb
import Derived.Test.YtdnjfmgldkommaaQa
import Derived.Test.YtdnjfmgldkommaaMa
import Derived.Test.YtdnjfmgldkommaaLc
import Derived.Test.YtdnjfmgldkommaaRows
import Derived.HandedShaped
import Derived.Carry
import Derived.Test.YtdnjfmgldkommaaWd
namespace Go.Proofs.Ytdnjfmgldkommaa
open Go.Sx
@[reducible] def i14_17 : List Ent := [(0, []), (1, []), (2, []), (3, []), (4, []), (5, []), (6, []), (7, []), (8, []), (9, []), (10, []), (11, []), (12, []), (13, []), (14, []), (15, []), (16, []), (18, []), (21, []), (22, []), (23, []), (17, []), (19, []), (20, []), (24, []), (25, []), (26, [])]
@[reducible] def i14_22 : List Ent := [(1, []), (3, []), (7, []), (0, []), (2, []), (4, []), (5, []), (6, []), (8, []), (9, []), (10, []), (11, []), (12, []), (13, []), (14, []), (15, [])]
@[reducible] def i14_30 : List Ent := [(0, []), (1, []), (2, []), (3, []), (4, []), (5, []), (6, []), (7, []), (8, []), (9, []), (10, []), (11, []), (12, []), (14, []), (15, []), (16, []), (20, []), (21, []), (22, []), (13, []), (17, []), (19, []), (23, []), (18, [19, 23]), (24, []), (25, []), (26, []), (27, []), (28, []), (29, []), (30, []), (31, []), (34, []), (35, []), (36, []), (37, []), (32, []), (38, []), (33, [38]), (39, []), (40, []), (41, [])]
@[reducible] def plM2 (bp : Nat) (D : Df) (dsl : Value) (S : Sta) (l : List Ev) (y : OwnD × OwnD) (oL : OwnD) : ML := [some (bp, plC D dsl S y l oL, 36), oL.ent (l.flatMap Ev.c) 70]
set_option maxRecDepth 100000 in
set_option maxHeartbeats 16000000 in
theorem input18k (D : Df) (dsl : Value) (S : Sta) (l : List Ev) (z : (OwnD × OwnD) × OwnD) (a : Inp) (bp : Nat) (w : World) (hDO : DefOK D) (hgo : Good D S) (hna : a.name.size ≤ 1000) (hl : l.length ≤ 10000000) (hz : OPl S l z)
    (hd : RDf (Vw w (keys (plM2 bp D dsl S l z.1 z.2))) (.agg #[.string D.name, dsl]) D) (hS : RSt (Vw w (keys (plM2 bp D dsl S l z.1 z.2))) (stV S z.1) S) (h0 : (stepL D S a).1 = 0) (hG : ∃ m, Vw w (keys (plM2 bp D dsl S l z.1 z.2)) 0 0 (.int .i64 m)) (hm : Mem w (keys (plM2 bp D dsl S l z.1 z.2)) (plM2 bp D dsl S l z.1 z.2) w) :
    Calls Try.prog 18 [.pointer (some ⟨bp, 0, none⟩), .agg a.c.toArray].toArray w (Ret w (plM2 bp D dsl S l z.1 z.2) (OPl (playL D (S, l) a).1 (playL D (S, l) a).2) (fun _ => .bool true) (plM bp D dsl (playL D (S, l) a).1 (playL D (S, l) a).2)) := by
  obtain ⟨⟨oN, oS⟩, oL⟩ := z
  obtain ⟨hz1, hzL⟩ := id hz
  obtain ⟨hoN, hoS⟩ := id hz1
  dsimp only at hoN hoS hzL hd hG hm hS ⊢
  have hA := stepL_aft hDO hgo hna
  have hpl : playL D (S, l) a = if (stepL D S a).1 = 0 then ((stepL D S a).2.S, l ++ (stepL D S a).2.ev) else (S, l) := rfl
  have st1 : ∀ w1 : World, RDf (Vw w1 []) (.agg #[.string D.name, dsl]) D → RSt (Vw w1 []) (stV S (oN, oS)) S → (∃ m, Vw w1 [] 0 0 (.int .i64 m)) → _ := fun w1 h1 h2 h3 => step20 _ _ D S a w1 hDO hgo hna h1 h2 h3
  have st2 : ∀ w1 : World, RDf (Vw w1 []) (.agg #[.string D.name, dsl]) D → RSt (Vw w1 []) (stV S (oN, oS)) S → (∃ m, Vw w1 [] 0 0 (.int .i64 m)) → _ := fun w1 h1 h2 h3 => step38 _ _ D S a w1 hDO hgo hna h1 h2 h3
  generalize stepL D S a = r at *
  obtain ⟨e, R1⟩ := r
  dsimp only at hA hpl st1 st2 h0
  obtain ⟨hA1, hA2, hA3⟩ := hA
  have a1 := hA1.sn
  have a2 := hA1.sg
  have s1 := hgo.sn
  have s2 := hgo.sg
  refine enterF (M := plM2 bp D dsl S l (oN, oS) oL) Try.func18 rfl Try.ntmps18 rfl hm ?_
  (repeat ((fail_if_success (with_reducible refine SK.atR 2 ?_)); first|(with_reducible first|apply Za|apply Zb|apply Zc|apply Zd|apply Zi|apply Zs)|((with_reducible first|apply ZI|apply ZJ|apply ZK|apply ZN);rfl;rfl)|((with_reducible apply Zra);rfl;rfl;(focus (repeat constructor));rfl)|((with_reducible apply Zrc);rfl;rfl;rfl;exact List.cons_ne_nil _ _;(first|rfl|(repeat first|exact plain_nil|(refine plain_cons (by first|rfl|exact OwnD.plain_val _ _) ?_)));(focus (repeat constructor));rfl)|((with_reducible apply Zrf);rfl;rfl;intro _)|((with_reducible apply Zrg);rfl;intro _)))
  rename_i b3 b5
  refine SK.seqW (Jumped w (keys (plM2 bp D dsl S l (oN, oS) oL)) 99 (fun g : Nat × Y4 => [(6, g.2.2.1.val R1.ev.length), (7, .pointer (some ⟨g.1, 0, none⟩)), (8, g.2.2.2.val R1.tk.length), (9, .int .i64 e), (0, .pointer (some ⟨bp, 0, none⟩)), (3, .pointer (some ⟨b3, 0, none⟩)), (5, .pointer (some ⟨b5, 0, none⟩))])
    (fun g => some (b3, a.c, 39) :: some (b5, S.c (oN.val S.nodes.length) (oS.val S.sigs.length), 33) :: some (g.1, R1.S.c (g.2.1.1.val R1.S.nodes.length) (g.2.1.2.val R1.S.sigs.length), 33) :: stepM R1 g.2 ++ plM2 bp D dsl S l (oN, oS) oL) (fun g => ORn R1 g.2)) ?_ ?_
  · (repeat first|(with_reducible apply Zf)|((with_reducible first|apply ZI|apply ZK|apply ZN);rfl;rfl)|((with_reducible apply Zra);rfl;rfl;(focus (repeat constructor));rfl)|((with_reducible apply ZA);rfl)|refine Yd 2 o18_2 t18_2 (by kernel_rfl) ?_)
    refine SK.orC ?_ ?_
    · (repeat first|(with_reducible apply Zh)|((with_reducible apply Zz);rfl))
      refine SK.callO rfl rfl (fun w1 g1 g2 => st1 w1 (hd.mono g1) (hS.mono g1) (by obtain ⟨m, hm⟩ := hG; exact ⟨m, g1 _ _ _ hm⟩)) ?_
      intro y1 hy1
      (repeat first|(with_reducible first|apply Zf|apply Zg|apply Zh|apply Zi|apply Zs)|((with_reducible first|apply ZI|apply ZJ);rfl;rfl)|((with_reducible apply Zqn);rfl;rfl;rfl)|((with_reducible apply Zrc);rfl;rfl;rfl;exact List.cons_ne_nil _ _;(first|rfl|(repeat first|exact plain_nil|(refine plain_cons (by first|rfl|exact OwnD.plain_val _ _) ?_)));(focus (repeat constructor));rfl)|((with_reducible apply Zrg);rfl;intro _)|((with_reducible first|apply Zz|apply ZA);rfl)|((with_reducible apply ZF);rfl;infer_instance;rfl;(focus (repeat constructor));rfl;rfl))
      rename_i b7
      exact fun _ _ hf hm => ⟨(b7, y1), hy1, hf.sub (by (repeat constructor)), hm.wk (by (repeat constructor))⟩
    · (repeat first|(with_reducible first|apply Zf|apply Zh|apply Zs)|((with_reducible apply Zrg);rfl;intro _)|((with_reducible apply Zz);rfl)|((with_reducible apply ZF);rfl;infer_instance;rfl;(focus (repeat constructor));rfl;rfl))
      rename_i b7
      refine SK.callO rfl rfl (fun w1 g1 g2 => st1 w1 (hd.mono g1) (hS.mono g1) (by obtain ⟨m, hm⟩ := hG; exact ⟨m, g1 _ _ _ hm⟩)) ?_
      intro y1 hy1
      (repeat first|(with_reducible first|apply Zf|apply Zg|apply Zh|apply Zi|apply Zs)|((with_reducible first|apply ZI|apply ZJ);rfl;rfl)|((with_reducible apply Zqn);rfl;rfl;rfl)|((with_reducible apply Zrc);rfl;rfl;rfl;exact List.cons_ne_nil _ _;(first|rfl|(repeat first|exact plain_nil|(refine plain_cons (by first|rfl|exact OwnD.plain_val _ _) ?_)));(focus (repeat constructor));rfl)|((with_reducible first|apply Zz|apply ZA);rfl))
      exact fun _ _ hf hm => ⟨(b7, y1), hy1, hf.sub (by (repeat constructor)), hm.wk (by (repeat constructor))⟩
  rintro a1' w1' ⟨⟨b7, y1⟩, hy1, hf1, hm1⟩
  dsimp only at hy1 hf1 hm1
  revert a1' w1'
  intro a1' w1' hf1 hm1
  refine (?_ : SK w (keys (plM2 bp D dsl S l (oN, oS) oL)) 99 _ [(6, y1.2.1.val R1.ev.length), (7, .pointer (some ⟨b7, 0, none⟩)), (8, y1.2.2.val R1.tk.length), (9, .int .i64 e), (0, .pointer (some ⟨bp, 0, none⟩)), (3, .pointer (some ⟨b3, 0, none⟩)), (5, .pointer (some ⟨b5, 0, none⟩))] _) a1' w1' hf1 hm1
  clear hf1 hm1
  refine SK.seqW (Jumped w (keys (plM2 bp D dsl S l (oN, oS) oL)) 99 (fun g : Nat × Y4 => [(10, g.2.2.1.val R1.ev.length), (11, .pointer (some ⟨g.1, 0, none⟩)), (12, g.2.2.2.val R1.tk.length), (13, .int .i64 e), (6, y1.2.1.val R1.ev.length), (7, .pointer (some ⟨b7, 0, none⟩)), (8, y1.2.2.val R1.tk.length), (9, .int .i64 e), (0, .pointer (some ⟨bp, 0, none⟩)), (5, .pointer (some ⟨b5, 0, none⟩))])
    (fun g => some (b5, S.c (oN.val S.nodes.length) (oS.val S.sigs.length), 33) :: some (b7, R1.S.c (y1.1.1.val R1.S.nodes.length) (y1.1.2.val R1.S.sigs.length), 33) :: some (g.1, R1.S.c (g.2.1.1.val R1.S.nodes.length) (g.2.1.2.val R1.S.sigs.length), 33) :: stepM R1 g.2 ++ (stepM R1 y1 ++ plM2 bp D dsl S l (oN, oS) oL)) (fun g => ORn R1 g.2)) ?_ ?_
  · (repeat first|(with_reducible apply Zf)|((with_reducible first|apply ZI|apply ZK|apply ZN);rfl;rfl)|((with_reducible apply Zra);rfl;rfl;(focus (repeat constructor));rfl)|((with_reducible apply ZA);rfl)|refine Yd 3 o18_3 t18_3 (by kernel_rfl) ?_)
    refine SK.orC ?_ ?_
    · (repeat first|(with_reducible apply Zh)|((with_reducible apply Zz);rfl))
      refine SK.callO rfl rfl (fun w1 g1 g2 => st2 w1 (hd.mono g1) (hS.mono g1) (by obtain ⟨m, hm⟩ := hG; exact ⟨m, g1 _ _ _ hm⟩)) ?_
      intro y2 hy2
      (repeat first|(with_reducible first|apply Zf|apply Zg|apply Zh|apply Zi|apply Zs)|((with_reducible first|apply ZI|apply ZJ);rfl;rfl)|((with_reducible apply Zqn);rfl;rfl;rfl)|((with_reducible apply Zrc);rfl;rfl;rfl;exact List.cons_ne_nil _ _;(first|rfl|(repeat first|exact plain_nil|(refine plain_cons (by first|rfl|exact OwnD.plain_val _ _) ?_)));(focus (repeat constructor));rfl)|((with_reducible apply Zrg);rfl;intro _)|((with_reducible first|apply Zz|apply ZA);rfl)|((with_reducible apply ZF);rfl;infer_instance;rfl;(focus (repeat constructor));rfl;rfl))
      rename_i b11
      exact fun _ _ hf hm => ⟨(b11, y2), hy2, hf.sub (by (repeat constructor)), hm.wk (by (repeat constructor))⟩
    · (repeat first|(with_reducible first|apply Zf|apply Zh|apply Zs)|((with_reducible apply Zrg);rfl;intro _)|((with_reducible apply Zz);rfl)|((with_reducible apply ZF);rfl;infer_instance;rfl;(focus (repeat constructor));rfl;rfl))
      rename_i b11
      refine SK.callO rfl rfl (fun w1 g1 g2 => st2 w1 (hd.mono g1) (hS.mono g1) (by obtain ⟨m, hm⟩ := hG; exact ⟨m, g1 _ _ _ hm⟩)) ?_
      intro y2 hy2
      (repeat first|(with_reducible first|apply Zf|apply Zg|apply Zh|apply Zi|apply Zs)|((with_reducible first|apply ZI|apply ZJ);rfl;rfl)|((with_reducible apply Zqn);rfl;rfl;rfl)|((with_reducible apply Zrc);rfl;rfl;rfl;exact List.cons_ne_nil _ _;(first|rfl|(repeat first|exact plain_nil|(refine plain_cons (by first|rfl|exact OwnD.plain_val _ _) ?_)));(focus (repeat constructor));rfl)|((with_reducible first|apply Zz|apply ZA);rfl))
      exact fun _ _ hf hm => ⟨(b11, y2), hy2, hf.sub (by (repeat constructor)), hm.wk (by (repeat constructor))⟩
  rintro a2' w2' ⟨⟨b11, y2⟩, hy2, hf2, hm2⟩
  dsimp only at hy2 hf2 hm2
  refine (?_ : SK w (keys (plM2 bp D dsl S l (oN, oS) oL)) 99 _ [(10, y2.2.1.val R1.ev.length), (11, .pointer (some ⟨b11, 0, none⟩)), (12, y2.2.2.val R1.tk.length), (13, .int .i64 e), (6, y1.2.1.val R1.ev.length), (7, .pointer (some ⟨b7, 0, none⟩)), (8, y1.2.2.val R1.tk.length), (9, .int .i64 e), (0, .pointer (some ⟨bp, 0, none⟩)), (5, .pointer (some ⟨b5, 0, none⟩))] _) a2' w2' hf2 hm2
  clear hf2 hm2
  obtain ⟨⟨p1, p2⟩, p3, p4⟩ := y1
  obtain ⟨⟨q1, q2⟩, q3, q4⟩ := y2
  obtain ⟨⟨hp1, hp2⟩, hp3, hp4⟩ := id hy1
  obtain ⟨⟨hq1, hq2⟩, hq3, hq4⟩ := id hy2
  dsimp only at hp1 hp2 hp3 hp4 hq1 hq2 hq3 hq4 ⊢
  (repeat first|(with_reducible apply Za)|((with_reducible first|apply ZI|apply ZO);rfl;rfl)|((with_reducible apply Zqd);rfl;rfl;rfl;omega)|((with_reducible apply Zz);rfl)|refine Yi 4 i18_4 (by kernel_rfl) ?_)
  refine SK.callA rfl rfl (fun w1 _ g2 => events23 _ _ R1.ev w1 (RSl.own p3 hp3 (fun b cs hb j u hu => g2 b cs _ (by rw [← hb]; (repeat constructor)) j u hu)) (RSl.own q3 hq3 (fun b cs hb j u hu => g2 b cs _ (by rw [← hb]; (repeat constructor)) j u hu)) (by omega)) ?_
  (repeat first|(with_reducible apply Zs)|((with_reducible first|apply ZI|apply ZO);rfl;rfl)|((with_reducible apply ZP);rfl;rfl)|((with_reducible apply Zqs);rfl;rfl;rfl)|((with_reducible apply Zra);rfl;rfl;(focus (repeat constructor));rfl)|((with_reducible apply Zz);rfl))
  refine SK.callA rfl rfl (fun w1 _ g2 => state24 (stV R1.S (p1, p2)) (stV R1.S (q1, q2)) R1.S w1 (RSt.own hp1 hp2 (fun b cs hb j u hu => g2 b cs _ (by rw [← hb]; (repeat constructor)) j u hu) (fun b cs hb j u hu => g2 b cs _ (by rw [← hb]; (repeat constructor)) j u hu)) (RSt.own hq1 hq2 (fun b cs hb j u hu => g2 b cs _ (by rw [← hb]; (repeat constructor)) j u hu) (fun b cs hb j u hu => g2 b cs _ (by rw [← hb]; (repeat constructor)) j u hu)) (by omega) (by omega)) ?_
  (repeat first|(with_reducible apply Zs)|((with_reducible first|apply ZI|apply ZO);rfl;rfl)|((with_reducible apply ZP);rfl;rfl)|((with_reducible apply Zqs);rfl;rfl;rfl)|((with_reducible apply Zz);rfl))
  refine SK.callA rfl rfl (fun w1 _ g2 => tasks39 _ _ R1.tk w1 (RSl.own p4 hp4 (fun b cs hb j u hu => g2 b cs _ (by rw [← hb]; (repeat constructor)) j u hu)) (RSl.own q4 hq4 (fun b cs hb j u hu => g2 b cs _ (by rw [← hb]; (repeat constructor)) j u hu)) (by omega)) ?_
  (repeat first|(with_reducible apply Zs)|((with_reducible first|apply ZI|apply ZK|apply ZN|apply ZO);rfl;rfl)|((with_reducible apply ZP);rfl;rfl)|((with_reducible apply Zqs);rfl;rfl;rfl)|((with_reducible apply Zra);rfl;rfl;(focus (repeat constructor));rfl)|((with_reducible apply Zz);rfl))
  refine SK.callA rfl rfl (fun w1 g1 _ => state24 (stV S (oN, oS)) (stV S (oN, oS)) S w1 (hS.mono g1) (hS.mono g1) (by omega) (by omega)) ?_
  rw [if_pos h0] at hpl
  have h0' : ¬ (e ≠ 0) := fun h => h h0
  rw [hpl]
  (repeat first|(with_reducible first|apply Za|apply Zb|apply Zc|apply Zd|apply Ze|apply Zi|apply Zo|apply Zs)|((with_reducible first|apply ZI|apply ZO);rfl;rfl)|((with_reducible apply ZP);rfl;rfl)|((with_reducible apply Zqd);rfl;rfl;rfl;omega)|((with_reducible apply Zqs);rfl;rfl;rfl)|((with_reducible apply Zra);rfl;rfl;(focus (repeat constructor));rfl)|((with_reducible apply Zz);rfl)|((with_reducible apply ZD);rfl))
  refine SK.callP2 rfl rfl (by (repeat constructor)) (by (repeat constructor)) (fun w1 g0 => spoilS29 R1.S (p1, p2) w1 ⟨hp1, hp2⟩ ⟨a1, a2⟩ g0) ?_
  (repeat first|(with_reducible first|apply Za|apply Zb|apply Zc|apply Zd|apply Zi|apply Zs)|((with_reducible apply ZI);rfl;rfl))
  refine SK.callP1 rfl rfl (by (repeat constructor)) (fun w1 g0 => spoilT40 p4 R1.tk w1 hp4 hA3 g0) ?_
  (repeat first|(with_reducible first|apply Za|apply Zb|apply Zc|apply Zd|apply Zi|apply Zs)|((with_reducible apply ZI);rfl;rfl))
  refine SK.callP1 rfl rfl (by (repeat constructor)) (fun w1 g0 => spoilE41 p3 R1.ev w1 hp3 hA2 g0) ?_
  have efl : (l ++ R1.ev).flatMap Ev.c = l.flatMap Ev.c ++ R1.ev.flatMap Ev.c := by simp
  cases q3 with
  | none =>
    have hn0 : R1.ev.length = 0 := hq3.2
    have hnil : R1.ev = [] := List.eq_nil_of_length_eq_zero hn0
    simp only [OwnD.val]
    (repeat first|(with_reducible first|apply Za|apply Zb|apply Zc|apply Zd|apply Zi|apply Zs)|((with_reducible first|apply ZI|apply ZK|apply ZN);rfl;rfl)|((with_reducible apply Zqz);rfl;rfl;(focus (repeat constructor));rfl))
    refine SK.appendP (o := oL) (xs := l.flatMap Ev.c) (news := []) (m := 0) rfl rfl hzL rfl (by (repeat constructor)) Src.nil rfl rfl rfl rfl (by unfold maxLen; omega) (by omega) (fun oL' hoL' _ => ?_)
    simp only [List.append_nil, Nat.add_zero] at hoL' ⊢
    (repeat first|(with_reducible first|apply Za|apply Zb|apply Zc|apply Zd|apply Zi|apply Zp|apply Zs)|((with_reducible first|apply ZI|apply ZJ|apply ZK|apply ZN);rfl;rfl)|((with_reducible apply Zra);rfl;rfl;(focus (repeat constructor));rfl)|((with_reducible apply Zrb);rfl;rfl;(first|rfl|exact OwnD.plain_val _ _);(focus (repeat constructor));rfl)|((with_reducible apply Zrc);rfl;rfl;rfl;exact List.cons_ne_nil _ _;(first|rfl|(repeat first|exact plain_nil|(refine plain_cons (by first|rfl|exact OwnD.plain_val _ _) ?_)));(focus (repeat constructor));rfl))
    refine SK.retQ rfl (by (repeat constructor)) (fun w' hm' => ⟨((q1, q2), oL'), ⟨⟨hq1, hq2⟩, by dsimp only; rw [hnil, List.append_nil]; exact hoL'⟩, rfl, ?_⟩)
    rw [hnil, List.append_nil]
    exact hm'.wk (by (repeat constructor))
  | some q =>
    obtain ⟨E, cE, spE⟩ := q
    (repeat first|(with_reducible first|apply Za|apply Zb|apply Zc|apply Zd|apply Zi|apply Zs)|((with_reducible first|apply ZI|apply ZK|apply ZN);rfl;rfl)|((with_reducible apply Zqz);rfl;rfl;(focus (repeat constructor));rfl))
    refine SK.appendP (o := oL) (xs := l.flatMap Ev.c) (news := R1.ev.flatMap Ev.c) (m := R1.ev.length) rfl rfl hzL rfl (by (repeat constructor)) (Src.mem (by (repeat constructor)) (sl_own _ _)) (flat_len ev_len _) (ev_plain _) rfl rfl (by unfold maxLen; omega) (by omega) (fun oL' hoL' _ => ?_)
    (repeat first|(with_reducible first|apply Za|apply Zb|apply Zc|apply Zd|apply Zi|apply Zp|apply Zs)|((with_reducible first|apply ZI|apply ZJ|apply ZK|apply ZN);rfl;rfl)|((with_reducible apply Zra);rfl;rfl;(focus (repeat constructor));rfl)|((with_reducible apply Zrb);rfl;rfl;(first|rfl|exact OwnD.plain_val _ _);(focus (repeat constructor));rfl)|((with_reducible apply Zrc);rfl;rfl;rfl;exact List.cons_ne_nil _ _;(first|rfl|(repeat first|exact plain_nil|(refine plain_cons (by first|rfl|exact OwnD.plain_val _ _) ?_)));(focus (repeat constructor));rfl))
    refine SK.retQ rfl (by (repeat constructor)) (fun w' hm' => ⟨((q1, q2), oL'), ⟨⟨hq1, hq2⟩, by dsimp only; rw [efl, List.length_append]; exact hoL'⟩, rfl, ?_⟩)
    dsimp only [plM, plC]
    rw [efl, List.length_append]
    exact hm'.wk (by (repeat constructor))
set_option maxRecDepth 100000 in
set_option maxHeartbeats 16000000 in
theorem input18e (D : Df) (dsl : Value) (S : Sta) (l : List Ev) (z : (OwnD × OwnD) × OwnD) (a : Inp) (bp : Nat) (w : World) (hDO : DefOK D) (hgo : Good D S) (hna : a.name.size ≤ 1000) (hl : l.length ≤ 10000000) (hz : OPl S l z)
    (hd : RDf (Vw w (keys (plM2 bp D dsl S l z.1 z.2))) (.agg #[.string D.name, dsl]) D) (hS : RSt (Vw w (keys (plM2 bp D dsl S l z.1 z.2))) (stV S z.1) S) (h0 : (stepL D S a).1 ≠ 0) (hG : ∃ m, Vw w (keys (plM2 bp D dsl S l z.1 z.2)) 0 0 (.int .i64 m)) (hm : Mem w (keys (plM2 bp D dsl S l z.1 z.2)) (plM2 bp D dsl S l z.1 z.2) w) :
    Calls Try.prog 18 [.pointer (some ⟨bp, 0, none⟩), .agg a.c.toArray].toArray w (Ret w (plM2 bp D dsl S l z.1 z.2) (fun _ : Unit => True) (fun _ => .bool true) (fun _ => plM2 bp D dsl S l z.1 z.2)) := by
  obtain ⟨⟨oN, oS⟩, oL⟩ := z
  obtain ⟨hz1, hzL⟩ := id hz
  obtain ⟨hoN, hoS⟩ := id hz1
  dsimp only at hoN hoS hzL hd hG hm hS ⊢
  have hA := stepL_aft hDO hgo hna
  have hpl : playL D (S, l) a = if (stepL D S a).1 = 0 then ((stepL D S a).2.S, l ++ (stepL D S a).2.ev) else (S, l) := rfl
  have st1 : ∀ w1 : World, RDf (Vw w1 []) (.agg #[.string D.name, dsl]) D → RSt (Vw w1 []) (stV S (oN, oS)) S → (∃ m, Vw w1 [] 0 0 (.int .i64 m)) → _ := fun w1 h1 h2 h3 => step20 _ _ D S a w1 hDO hgo hna h1 h2 h3
  have st2 : ∀ w1 : World, RDf (Vw w1 []) (.agg #[.string D.name, dsl]) D → RSt (Vw w1 []) (stV S (oN, oS)) S → (∃ m, Vw w1 [] 0 0 (.int .i64 m)) → _ := fun w1 h1 h2 h3 => step38 _ _ D S a w1 hDO hgo hna h1 h2 h3
  generalize stepL D S a = r at *
  obtain ⟨e, R1⟩ := r
  dsimp only at hA hpl st1 st2 h0
  obtain ⟨hA1, hA2, hA3⟩ := hA
  have a1 := hA1.sn
  have a2 := hA1.sg
  have s1 := hgo.sn
  have s2 := hgo.sg
  refine enterF (M := plM2 bp D dsl S l (oN, oS) oL) Try.func18 rfl Try.ntmps18 rfl hm ?_
  (repeat ((fail_if_success (with_reducible refine SK.atR 2 ?_)); first|(with_reducible first|apply Za|apply Zb|apply Zc|apply Zd|apply Zi|apply Zs)|((with_reducible first|apply ZI|apply ZJ|apply ZK|apply ZN);rfl;rfl)|((with_reducible apply Zra);rfl;rfl;(focus (repeat constructor));rfl)|((with_reducible apply Zrc);rfl;rfl;rfl;exact List.cons_ne_nil _ _;(first|rfl|(repeat first|exact plain_nil|(refine plain_cons (by first|rfl|exact OwnD.plain_val _ _) ?_)));(focus (repeat constructor));rfl)|((with_reducible apply Zrf);rfl;rfl;intro _)|((with_reducible apply Zrg);rfl;intro _)))
  rename_i b3 b5
  refine SK.seqW (Jumped w (keys (plM2 bp D dsl S l (oN, oS) oL)) 99 (fun g : Nat × Y4 => [(6, g.2.2.1.val R1.ev.length), (7, .pointer (some ⟨g.1, 0, none⟩)), (8, g.2.2.2.val R1.tk.length), (9, .int .i64 e), (0, .pointer (some ⟨bp, 0, none⟩)), (3, .pointer (some ⟨b3, 0, none⟩)), (5, .pointer (some ⟨b5, 0, none⟩))])
    (fun g => some (b3, a.c, 39) :: some (b5, S.c (oN.val S.nodes.length) (oS.val S.sigs.length), 33) :: some (g.1, R1.S.c (g.2.1.1.val R1.S.nodes.length) (g.2.1.2.val R1.S.sigs.length), 33) :: stepM R1 g.2 ++ plM2 bp D dsl S l (oN, oS) oL) (fun g => ORn R1 g.2)) ?_ ?_
  · (repeat first|(with_reducible apply Zf)|((with_reducible first|apply ZI|apply ZK|apply ZN);rfl;rfl)|((with_reducible apply Zra);rfl;rfl;(focus (repeat constructor));rfl)|((with_reducible apply ZA);rfl)|refine Yd 2 o18_2 t18_2 (by kernel_rfl) ?_)
    refine SK.orC ?_ ?_
    · (repeat first|(with_reducible apply Zh)|((with_reducible apply Zz);rfl))
      refine SK.callO rfl rfl (fun w1 g1 g2 => st1 w1 (hd.mono g1) (hS.mono g1) (by obtain ⟨m, hm⟩ := hG; exact ⟨m, g1 _ _ _ hm⟩)) ?_
      intro y1 hy1
      (repeat first|(with_reducible first|apply Zf|apply Zg|apply Zh|apply Zi|apply Zs)|((with_reducible first|apply ZI|apply ZJ);rfl;rfl)|((with_reducible apply Zqn);rfl;rfl;rfl)|((with_reducible apply Zrc);rfl;rfl;rfl;exact List.cons_ne_nil _ _;(first|rfl|(repeat first|exact plain_nil|(refine plain_cons (by first|rfl|exact OwnD.plain_val _ _) ?_)));(focus (repeat constructor));rfl)|((with_reducible apply Zrg);rfl;intro _)|((with_reducible first|apply Zz|apply ZA);rfl)|((with_reducible apply ZF);rfl;infer_instance;rfl;(focus (repeat constructor));rfl;rfl))
      rename_i b7
      exact fun _ _ hf hm => ⟨(b7, y1), hy1, hf.sub (by (repeat constructor)), hm.wk (by (repeat constructor))⟩
    · (repeat first|(with_reducible first|apply Zf|apply Zh|apply Zs)|((with_reducible apply Zrg);rfl;intro _)|((with_reducible apply Zz);rfl)|((with_reducible apply ZF);rfl;infer_instance;rfl;(focus (repeat constructor));rfl;rfl))
      rename_i b7
      refine SK.callO rfl rfl (fun w1 g1 g2 => st1 w1 (hd.mono g1) (hS.mono g1) (by obtain ⟨m, hm⟩ := hG; exact ⟨m, g1 _ _ _ hm⟩)) ?_
      intro y1 hy1
      (repeat first|(with_reducible first|apply Zf|apply Zg|apply Zh|apply Zi|apply Zs)|((with_reducible first|apply ZI|apply ZJ);rfl;rfl)|((with_reducible apply Zqn);rfl;rfl;rfl)|((with_reducible apply Zrc);rfl;rfl;rfl;exact List.cons_ne_nil _ _;(first|rfl|(repeat first|exact plain_nil|(refine plain_cons (by first|rfl|exact OwnD.plain_val _ _) ?_)));(focus (repeat constructor));rfl)|((with_reducible first|apply Zz|apply ZA);rfl))
      exact fun _ _ hf hm => ⟨(b7, y1), hy1, hf.sub (by (repeat constructor)), hm.wk (by (repeat constructor))⟩
  rintro a1' w1' ⟨⟨b7, y1⟩, hy1, hf1, hm1⟩
  dsimp only at hy1 hf1 hm1
  revert a1' w1'
  intro a1' w1' hf1 hm1
  refine (?_ : SK w (keys (plM2 bp D dsl S l (oN, oS) oL)) 99 _ [(6, y1.2.1.val R1.ev.length), (7, .pointer (some ⟨b7, 0, none⟩)), (8, y1.2.2.val R1.tk.length), (9, .int .i64 e), (0, .pointer (some ⟨bp, 0, none⟩)), (3, .pointer (some ⟨b3, 0, none⟩)), (5, .pointer (some ⟨b5, 0, none⟩))] _) a1' w1' hf1 hm1
  clear hf1 hm1
  refine SK.seqW (Jumped w (keys (plM2 bp D dsl S l (oN, oS) oL)) 99 (fun g : Nat × Y4 => [(10, g.2.2.1.val R1.ev.length), (11, .pointer (some ⟨g.1, 0, none⟩)), (12, g.2.2.2.val R1.tk.length), (13, .int .i64 e), (6, y1.2.1.val R1.ev.length), (7, .pointer (some ⟨b7, 0, none⟩)), (8, y1.2.2.val R1.tk.length), (9, .int .i64 e), (0, .pointer (some ⟨bp, 0, none⟩)), (5, .pointer (some ⟨b5, 0, none⟩))])
    (fun g => some (b5, S.c (oN.val S.nodes.length) (oS.val S.sigs.length), 33) :: some (b7, R1.S.c (y1.1.1.val R1.S.nodes.length) (y1.1.2.val R1.S.sigs.length), 33) :: some (g.1, R1.S.c (g.2.1.1.val R1.S.nodes.length) (g.2.1.2.val R1.S.sigs.length), 33) :: stepM R1 g.2 ++ (stepM R1 y1 ++ plM2 bp D dsl S l (oN, oS) oL)) (fun g => ORn R1 g.2)) ?_ ?_
  · (repeat first|(with_reducible apply Zf)|((with_reducible first|apply ZI|apply ZK|apply ZN);rfl;rfl)|((with_reducible apply Zra);rfl;rfl;(focus (repeat constructor));rfl)|((with_reducible apply ZA);rfl)|refine Yd 3 o18_3 t18_3 (by kernel_rfl) ?_)
    refine SK.orC ?_ ?_
    · (repeat first|(with_reducible apply Zh)|((with_reducible apply Zz);rfl))
      refine SK.callO rfl rfl (fun w1 g1 g2 => st2 w1 (hd.mono g1) (hS.mono g1) (by obtain ⟨m, hm⟩ := hG; exact ⟨m, g1 _ _ _ hm⟩)) ?_
      intro y2 hy2
      (repeat first|(with_reducible first|apply Zf|apply Zg|apply Zh|apply Zi|apply Zs)|((with_reducible first|apply ZI|apply ZJ);rfl;rfl)|((with_reducible apply Zqn);rfl;rfl;rfl)|((with_reducible apply Zrc);rfl;rfl;rfl;exact List.cons_ne_nil _ _;(first|rfl|(repeat first|exact plain_nil|(refine plain_cons (by first|rfl|exact OwnD.plain_val _ _) ?_)));(focus (repeat constructor));rfl)|((with_reducible apply Zrg);rfl;intro _)|((with_reducible first|apply Zz|apply ZA);rfl)|((with_reducible apply ZF);rfl;infer_instance;rfl;(focus (repeat constructor));rfl;rfl))
      rename_i b11
      exact fun _ _ hf hm => ⟨(b11, y2), hy2, hf.sub (by (repeat constructor)), hm.wk (by (repeat constructor))⟩
    · (repeat first|(with_reducible first|apply Zf|apply Zh|apply Zs)|((with_reducible apply Zrg);rfl;intro _)|((with_reducible apply Zz);rfl)|((with_reducible apply ZF);rfl;infer_instance;rfl;(focus (repeat constructor));rfl;rfl))
      rename_i b11
      refine SK.callO rfl rfl (fun w1 g1 g2 => st2 w1 (hd.mono g1) (hS.mono g1) (by obtain ⟨m, hm⟩ := hG; exact ⟨m, g1 _ _ _ hm⟩)) ?_
      intro y2 hy2
      (repeat first|(with_reducible first|apply Zf|apply Zg|apply Zh|apply Zi|apply Zs)|((with_reducible first|apply ZI|apply ZJ);rfl;rfl)|((with_reducible apply Zqn);rfl;rfl;rfl)|((with_reducible apply Zrc);rfl;rfl;rfl;exact List.cons_ne_nil _ _;(first|rfl|(repeat first|exact plain_nil|(refine plain_cons (by first|rfl|exact OwnD.plain_val _ _) ?_)));(focus (repeat constructor));rfl)|((with_reducible first|apply Zz|apply ZA);rfl))
      exact fun _ _ hf hm => ⟨(b11, y2), hy2, hf.sub (by (repeat constructor)), hm.wk (by (repeat constructor))⟩
  rintro a2' w2' ⟨⟨b11, y2⟩, hy2, hf2, hm2⟩
  dsimp only at hy2 hf2 hm2
  refine (?_ : SK w (keys (plM2 bp D dsl S l (oN, oS) oL)) 99 _ [(10, y2.2.1.val R1.ev.length), (11, .pointer (some ⟨b11, 0, none⟩)), (12, y2.2.2.val R1.tk.length), (13, .int .i64 e), (6, y1.2.1.val R1.ev.length), (7, .pointer (some ⟨b7, 0, none⟩)), (8, y1.2.2.val R1.tk.length), (9, .int .i64 e), (0, .pointer (some ⟨bp, 0, none⟩)), (5, .pointer (some ⟨b5, 0, none⟩))] _) a2' w2' hf2 hm2
  clear hf2 hm2
  obtain ⟨⟨p1, p2⟩, p3, p4⟩ := y1
  obtain ⟨⟨q1, q2⟩, q3, q4⟩ := y2
  obtain ⟨⟨hp1, hp2⟩, hp3, hp4⟩ := id hy1
  obtain ⟨⟨hq1, hq2⟩, hq3, hq4⟩ := id hy2
  dsimp only at hp1 hp2 hp3 hp4 hq1 hq2 hq3 hq4 ⊢
  (repeat first|(with_reducible apply Za)|((with_reducible first|apply ZI|apply ZO);rfl;rfl)|((with_reducible apply Zqd);rfl;rfl;rfl;omega)|((with_reducible apply Zz);rfl)|refine Yi 4 i18_4 (by kernel_rfl) ?_)
  refine SK.callA rfl rfl (fun w1 _ g2 => events23 _ _ R1.ev w1 (RSl.own p3 hp3 (fun b cs hb j u hu => g2 b cs _ (by rw [← hb]; (repeat constructor)) j u hu)) (RSl.own q3 hq3 (fun b cs hb j u hu => g2 b cs _ (by rw [← hb]; (repeat constructor)) j u hu)) (by omega)) ?_
  (repeat first|(with_reducible apply Zs)|((with_reducible first|apply ZI|apply ZO);rfl;rfl)|((with_reducible apply ZP);rfl;rfl)|((with_reducible apply Zqs);rfl;rfl;rfl)|((with_reducible apply Zra);rfl;rfl;(focus (repeat constructor));rfl)|((with_reducible apply Zz);rfl))
  refine SK.callA rfl rfl (fun w1 _ g2 => state24 (stV R1.S (p1, p2)) (stV R1.S (q1, q2)) R1.S w1 (RSt.own hp1 hp2 (fun b cs hb j u hu => g2 b cs _ (by rw [← hb]; (repeat constructor)) j u hu) (fun b cs hb j u hu => g2 b cs _ (by rw [← hb]; (repeat constructor)) j u hu)) (RSt.own hq1 hq2 (fun b cs hb j u hu => g2 b cs _ (by rw [← hb]; (repeat constructor)) j u hu) (fun b cs hb j u hu => g2 b cs _ (by rw [← hb]; (repeat constructor)) j u hu)) (by omega) (by omega)) ?_
  (repeat first|(with_reducible apply Zs)|((with_reducible first|apply ZI|apply ZO);rfl;rfl)|((with_reducible apply ZP);rfl;rfl)|((with_reducible apply Zqs);rfl;rfl;rfl)|((with_reducible apply Zz);rfl))
  refine SK.callA rfl rfl (fun w1 _ g2 => tasks39 _ _ R1.tk w1 (RSl.own p4 hp4 (fun b cs hb j u hu => g2 b cs _ (by rw [← hb]; (repeat constructor)) j u hu)) (RSl.own q4 hq4 (fun b cs hb j u hu => g2 b cs _ (by rw [← hb]; (repeat constructor)) j u hu)) (by omega)) ?_
  (repeat first|(with_reducible apply Zs)|((with_reducible first|apply ZI|apply ZK|apply ZN|apply ZO);rfl;rfl)|((with_reducible apply ZP);rfl;rfl)|((with_reducible apply Zqs);rfl;rfl;rfl)|((with_reducible apply Zra);rfl;rfl;(focus (repeat constructor));rfl)|((with_reducible apply Zz);rfl))
  refine SK.callA rfl rfl (fun w1 g1 _ => state24 (stV S (oN, oS)) (stV S (oN, oS)) S w1 (hS.mono g1) (hS.mono g1) (by omega) (by omega)) ?_
  (repeat first|(with_reducible first|apply Za|apply Zb|apply Zc|apply Zd|apply Ze|apply Zi|apply Zk|apply Zo|apply Zp|apply Zs)|((with_reducible first|apply ZI|apply ZJ|apply ZO);rfl;rfl)|((with_reducible apply ZP);rfl;rfl)|((with_reducible apply ZX);rfl;rfl;rfl;omega)|((with_reducible apply Zqs);rfl;rfl;rfl)|((with_reducible first|apply Zz|apply ZC);rfl)|((with_reducible apply ZD);rfl))
  exact SK.retQ rfl (by (repeat constructor)) (fun w' hm' => ⟨(), trivial, rfl, hm'.wk (by (repeat constructor))⟩)
theorem und4b : Try.prog.underlying 4 = some .bool := by kernel_rfl
section
variable {P : Program} {ops : Array Oper} {w0 : World} {Mod : List Nat} {n : Nat} {F : FL} {M : ML} {K : Act → World → Prop} {chk : List Nat} {ty : TypeId} {pos : String} {aft : Array Edge} {d : Nat}
theorem SK.neBool {U : TypeId} {x y : Operand} {a b : Bool} (hd : Nat.blt d n = true) (hx : ev F x = some (.bool a)) (hy : ev F y = some (.bool b))
    (h : SK w0 Mod n K ((d, .bool (!(a == b))) :: F) M) : SK w0 Mod n (stepE Try.prog ops ⟨some d, .binOp .neq 4 x y U, ty, pos, aft, none⟩ chk K) F M :=
  SK.bin hd hx hy (fun w' => by
    have := run_neq_bool (P := Try.prog) w' 4 a b und4b
    simp only [eqGuard]
    simp [this]) h
theorem SK.neF {T U : TypeId} {x y : Operand} {a b : Nat} (hd : Nat.blt d n = true) (hx : ev F x = some (.float .f64 a)) (hy : ev F y = some (.float .f64 b)) (he : (FloatKind.f64.format.order a b == some .eq) = true)
    (h : SK w0 Mod n K ((d, .bool false) :: F) M) : SK w0 Mod n (stepE P ops ⟨some d, .binOp .neq T x y U, ty, pos, aft, none⟩ chk K) F M :=
  SK.bin hd hx hy (fun w' => by
    have he : FloatKind.f64.format.order a b = some .eq := by simpa using he
    simp [eqGuard, Go.binOp, Op.floatCmp, he]) h
end
theorem nsl {l : List Ns} {k : Nat} {x : Ns} (h : l[k]? = some x) (sp : List Value) : sl (l.flatMap Ns.c ++ sp) (0 + k * 3) 3 = some x.c := by
  rw [Nat.zero_add]; exact flat_sl ns_len l sp k x h
theorem moves_met {D : Df} {S : Sta} (hw : WS D S) {k : Nat} {n : Nd} {x : Ns} (hn : D.nodes[k]? = some n) (hx : S.nodes[k]? = some x) (h0 : x.st ≠ 0) : ∀ s ∈ n.after, ∃ (j : Nat) (u : Ns), fI D.nodes s = some j ∧ S.nodes[j]? = some u ∧ u.st = 3 := by
  intro s hs
  have h1 := hw.ah k x hx h0 n hn
  unfold metL at h1
  have h2 := List.all_eq_true.1 h1 s hs
  unfold okS at h2
  split at h2
  · rename_i j hj
    simp only [Bool.and_eq_true] at h2
    obtain ⟨u, hu, hu3⟩ := ov_get.1 h2.2
    exact ⟨j, u, hj, hu, hu3⟩
  · cases h2
theorem playL_live {D : Df} {p : Sta × List Ev} {a : Inp} (hD : DefOK D) (hT : Taken D) (hw : WS D p.1) (hv : p.1.status = 1 → Live p.1) : (playL D p a).1.status = 1 → Live (playL D p a).1 := by
  unfold playL
  split
  · rename_i h0
    exact fun h1 => (stepL_stp hD (fun h1 => hw.ln (by omega)) h0).live hT.tries hT.sq hw hv h1
  · exact hv
theorem playL_stays {D : Df} {p : Sta × List Ev} {a : Inp} (hD : DefOK D) (hw : WS D p.1) : Stays p.1 (playL D p a).1 := by
  unfold playL
  split
  · rename_i h0
    exact (stepL_stp hD (fun h1 => hw.ln (by omega)) h0).stays hw
  · exact Stays.refl _
theorem WS.some {D : Df} {S : Sta} (h : WS D S) (h0 : 0 < S.nodes.length) : S.nodes.length = D.nodes.length := by
  refine h.ln fun hz => ?_
  have := h.zero hz
  subst this
  exact absurd h0 (Nat.lt_irrefl 0)
set_option maxRecDepth 100000 in
set_option maxHeartbeats 16000000 in
theorem moves14 (D : Df) (A : Option Addr) (cap : Nat) (iv : Value) (l : List Inp) (w : World) (hc : D.nodes.length ≤ cap) (hd0 : RDf (Vw w []) (.agg #[.string D.name, .slice A D.nodes.length cap]) D) (hT : Texts D)
    (hi : RSl (Vw w []) iv l.length (l.flatMap Inp.c)) (hI : InOK l) (hG : ∃ m, Vw w [] 0 0 (.int .i64 m)) :
    Ans 14 [.agg #[.string D.name, .slice A D.nodes.length cap], iv] w (.bool true) := by
  obtain ⟨Ai, ci, rfl, hin⟩ := hi.open inp_len
  have hd := cut_rdf hd0
  have hTc := hT.cut
  have hG1 : ∀ w1 : World, (∀ b o v, Vw w [] b o v → Vw w1 [] b o v) → ∃ m, Vw w1 [] 0 0 (.int .i64 m) := fun w1 g => by obtain ⟨m, hm⟩ := hG; exact ⟨m, g _ _ _ hm⟩
  refine enter0 Try.func14 rfl Try.ntmps14 rfl ?_
  (repeat first|(with_reducible first|apply Za|apply Zb|apply Zc|apply Zd|apply Zi|apply Zs)|((with_reducible apply ZJ);rfl;rfl)|((with_reducible apply Zra);rfl;rfl;(focus (repeat constructor));rfl)|((with_reducible apply Zrf);rfl;rfl;intro _))
  refine SK.callA rfl rfl (fun w1 g1 _ => cut15 D A cap hc hT.2.1 w1 (hd0.mono g1)) ?_
  unfold cutV at hd ⊢
  generalize cutD D = E at hd hTc ⊢
  have hname : ∀ nm, nm = D.name → RDf (Vw w []) (.agg #[.string nm, .slice A E.nodes.length cap]) E → nm = E.name := by
    intro nm _ h
    obtain ⟨A', cap', he, _⟩ := h.nds
    have := congrArg (fun v => match v with | .agg a => (match a[0]? with | some (Value.string s) => some s | _ => none) | _ => none) he
    simpa using this
  have hnm := hname D.name rfl hd
  rw [hnm] at hd ⊢
  (repeat first|(with_reducible first|apply Za|apply Zb|apply Zc|apply Zd|apply Zi|apply Zs)|((with_reducible apply Zra);rfl;rfl;(focus (repeat constructor));rfl)|((with_reducible apply Zrc);rfl;rfl;rfl;exact List.cons_ne_nil _ _;(first|rfl|(repeat first|exact plain_nil|(refine plain_cons (by first|rfl|exact OwnD.plain_val _ _) ?_)));(focus (repeat constructor));rfl))
  refine SK.callO rfl rfl (fun w1 g1 _ => taken16 _ E w1 (hd.mono g1) hTc) ?_
  rintro bb htk
  cases bb with
  | false =>
    (repeat first|(with_reducible first|apply Za|apply Zb|apply Zc|apply Zd|apply Zi|apply Zs)|((with_reducible apply ZP);rfl;rfl)|((with_reducible apply ZC);rfl))
    refine SK.callA rfl rfl (fun w1 g1 _ => wakes17 w1 (hG1 w1 g1)) ?_
    (repeat first|(with_reducible first|apply Zc|apply Zd|apply Zi|apply Zk|apply Zp|apply Zs)|((with_reducible apply ZJ);rfl;rfl))
    exact SK.retQ rfl (by (repeat constructor)) (fun w' hm' => ⟨(), trivial, rfl, hm'.wk (by (repeat constructor))⟩)
  | true =>
    have hDO : DefOK E := (htk rfl).ok (fun n hn => (hTc.2.2 n hn).2.2.2)
    have hTr : Tries E := (htk rfl).tries
    have hle64 := hDO.le
    have hdn : E.nodes.length < 9223372036854775807 := by have := hDO.le; omega
    obtain ⟨A0, cap0, hA0, hnds⟩ := hd.nds
    have hA1 : A0 = A := by
      have := congrArg (fun v => match v with | .agg a => (match a[1]? with | some (Value.slice A _ _) => some A | _ => none) | _ => none) hA0
      simpa using this.symm
    subst hA1
    (repeat first|(with_reducible first|apply Za|apply Zb|apply Zc|apply Zd|apply Zi|apply Zo|apply Zr|apply Zs)|((with_reducible apply ZJ);rfl;rfl)|((with_reducible apply ZP);rfl;rfl)|((with_reducible apply Zqr);rfl;rfl;rfl)|((with_reducible apply Zra);rfl;rfl;(focus (repeat constructor));rfl)|((with_reducible apply Zrf);rfl;rfl;intro _)|((with_reducible apply ZD);rfl))
    rename_i b2 bp
    refine SK.loopW (fun g : Nat × Sta × List Ev × ((OwnD × OwnD) × OwnD) => [(7, .int .i64 (g.1 : Int)), (6, g.2.2.2.1.1.val g.2.1.nodes.length), (1, .slice Ai l.length ci), (2, .pointer (some ⟨b2, 0, none⟩)), (5, .pointer (some ⟨bp, 0, none⟩))])
      (fun g => some (b2, [.string E.name, .slice A0 E.nodes.length cap], 24) :: plM bp E (.slice A0 E.nodes.length cap) g.2.1 g.2.2.1 g.2.2.2)
      (fun g => g.1 ≤ l.length ∧ g.1 ≤ 60 ∧ Good E g.2.1 ∧ OPl g.2.1 g.2.2.1 g.2.2.2 ∧ g.2.2.1.length ≤ 100000 * g.1 ∧ WS E g.2.1 ∧ (g.2.1.status = 1 → Live g.2.1)) (fun g => l.length - g.1) (0, sta0, [], ((none, none), none))
      ⟨Nat.zero_le _, Nat.zero_le _, good0 E, ⟨⟨⟨rfl, rfl⟩, ⟨rfl, rfl⟩⟩, ⟨rfl, rfl⟩⟩, Nat.zero_le _, ws0 E, fun h => absurd h (by decide)⟩ (by (repeat constructor))
      (by (repeat constructor)) ?_
    rintro ⟨i, S, ev, ⟨⟨zN, zS⟩, zL⟩⟩ ⟨hil, hi60, hgo, hz, hev, hws, hlv⟩
    dsimp only at hil hi60 hgo hz hev hws hlv ⊢
    obtain ⟨⟨hzN, hzS⟩, hzL⟩ := id hz
    dsimp only at hzN hzS hzL
    by_cases hlt : i < l.length
    · by_cases h60 : i < 60
      · obtain ⟨a0, ha0⟩ : ∃ a, l[i]? = some a := ⟨_, List.getElem?_eq_getElem hlt⟩
        obtain ⟨bi, oi, rfl, hcell⟩ := hin i a0 ha0 (by omega)
        obtain ⟨t1, t2⟩ := hI.2 a0 (List.mem_of_getElem? ha0)
        have hna : (clipI a0).name.size ≤ 1000 := by have := clipS_size a0.name; show (clipS a0.name).size ≤ 1000; omega
        obtain ⟨g3, g4⟩ := playL_good (p := (S, ev)) (a := clipI a0) hDO hgo hna
        have g5 := playL_ws (p := (S, ev)) (a := clipI a0) hDO hTr hws
        have g6 := playL_live (p := (S, ev)) (a := clipI a0) hDO (htk rfl) hws hlv
        have g7 := playL_stays (p := (S, ev)) (a := clipI a0) hDO hws
        have hk18 := fun w1 h1 h2 h3 h4 h5 h6 => input18k E (.slice A0 E.nodes.length cap) S ev ((zN, zS), zL) (clipI a0) bp w1 hDO hgo hna h1 hz h2 h3 h4 h5 h6
        have he18 := fun w1 h1 h2 h3 h4 h5 h6 => input18e E (.slice A0 E.nodes.length cap) S ev ((zN, zS), zL) (clipI a0) bp w1 hDO hgo hna h1 hz h2 h3 h4 h5 h6
        have hpe : (stepL E S (clipI a0)).1 ≠ 0 → playL E (S, ev) (clipI a0) = (S, ev) := fun h => by unfold playL; rw [if_neg h]
        (repeat ((fail_if_success (with_reducible refine SK.atS 9 ?_)); first|(with_reducible first|apply Za|apply Zb|apply Zc|apply Zd|apply Zi|apply Zo|apply Zr)|((with_reducible first|apply ZI|apply ZM|apply ZO);rfl;rfl)|((with_reducible apply ZS);rfl;rfl;rfl;omega)|((with_reducible apply Zqo);rfl;rfl;rfl)|((with_reducible apply ZC);rfl)))
        refine SK.tail3 (fun g : Bool × ((OwnD × OwnD) × OwnD) => [(8, .bool g.1), (7, .int .i64 (i : Int)), (1, .slice (some ⟨bi, oi, none⟩) l.length ci), (2, .pointer (some ⟨b2, 0, none⟩)), (5, .pointer (some ⟨bp, 0, none⟩))])
          (fun g => some (b2, [.string E.name, .slice A0 E.nodes.length cap], 24) :: plM bp E (.slice A0 E.nodes.length cap) (playL E (S, ev) (clipI a0)).1 (playL E (S, ev) (clipI a0)).2 g.2)
          (fun g => OPl (playL E (S, ev) (clipI a0)).1 (playL E (S, ev) (clipI a0)).2 g.2 ∧ ((playL E (S, ev) (clipI a0)).1.status = 1 → g.1 = true)) ?_ ?_
        · (repeat first|(with_reducible first|apply Za|apply Zb|apply Zc)|((with_reducible refine Yz ?_);first|((with_reducible apply SK.indexAddr); rfl; rfl; rfl; exact hlt)|((with_reducible apply SK.loadAR); rfl; rfl; exact hcell; rfl)|((with_reducible apply ZI);rfl;rfl)))
          refine SK.callA rfl rfl (fun w1 _ _ => clip19 a0 w1 t1 t2) ?_
          by_cases h0 : (stepL E S (clipI a0)).1 = 0
          · generalize playL E (S, ev) (clipI a0) = p2 at g3 g4 g5 g6 g7 hk18 ⊢
            obtain ⟨S2, ev2⟩ := p2
            dsimp only at g3 g4 g5 g6 g7 hk18 ⊢
            have hw2 := g5
            have hlv2 := g6
            have hsty := g7
            have hln2 : 0 < S2.nodes.length → S2.nodes.length = E.nodes.length := g5.some
            have hsn2 := g3.sn
            have hsn1 := hgo.sn
            (repeat first|(with_reducible first|apply Zc|apply Zs))
            refine SK.call rfl rfl (plM2 bp E (.slice A0 E.nodes.length cap) S ev (zN, zS) zL) [some (b2, [.string E.name, .slice A0 E.nodes.length cap], 24), zN.ent (S.nodes.flatMap Ns.c) 56, zS.ent (S.sigs.flatMap Sg.c) 100] (by (repeat constructor)) _ _ _ (fun w1 g0 g1 g2 => hk18 w1 (by omega) (hd.mono g1) (RSt.own hzN hzS (fun b cs hb j u hu => g2 b cs _ (by rw [← hb]; (repeat constructor)) j u hu) (fun b cs hb j u hu => g2 b cs _ (by rw [← hb]; (repeat constructor)) j u hu)) h0 (by obtain ⟨m, hm⟩ := hG; exact ⟨m, g1 _ _ _ hm⟩) g0) (fun z' hz' => ?_)
            obtain ⟨⟨nN, nS⟩, nL⟩ := z'
            have hz2 := hz'
            obtain ⟨⟨hnN, hnS⟩, hnL⟩ := id hz'
            dsimp only at hnN hnS hnL
            (repeat first|(with_reducible first|apply Za|apply Zb|apply Zc|apply Zd|apply Zi|apply Zo|apply Zr|apply Zs)|((with_reducible apply ZJ);rfl;rfl)|((with_reducible apply ZP);rfl;rfl)|((with_reducible apply ZD);rfl))
            refine SK.loopW (fun g : Nat × Bool => [(9, .int .i64 (g.1 : Int)), (8, .bool g.2), (6, zN.val S.nodes.length), (7, .int .i64 (i : Int)), (1, .slice (some ⟨bi, oi, none⟩) l.length ci), (2, .pointer (some ⟨b2, 0, none⟩)), (5, .pointer (some ⟨bp, 0, none⟩))]) (fun _ => (some (b2, [.string E.name, .slice A0 E.nodes.length cap], 24) :: (plM bp E (.slice A0 E.nodes.length cap) S2 ev2 ((nN, nS), nL) ++ [zN.ent (S.nodes.flatMap Ns.c) 56])))
              (fun g => g.1 ≤ S2.nodes.length ∧ ∀ (j : Nat) (x : Ns), j < g.1 → S2.nodes[j]? = some x → (x.st = 1 ∨ x.st = 2) → g.2 = true) (fun g => S2.nodes.length - g.1) (0, false) ⟨Nat.zero_le _, fun j x hj => absurd hj (Nat.not_lt_zero _)⟩ (by (repeat constructor)) (by (repeat constructor)) ?_
            rintro ⟨k, mv⟩ ⟨hk, hmv⟩
            dsimp only at hk hmv ⊢
            by_cases hkl : k < S2.nodes.length
            · obtain ⟨x, hx⟩ : ∃ x, S2.nodes[k]? = some x := ⟨_, List.getElem?_eq_getElem hkl⟩
              have hkd : k < E.nodes.length := by have := hln2 (by omega); omega
              obtain ⟨n, hn⟩ : ∃ n, E.nodes[k]? = some n := ⟨_, List.getElem?_eq_getElem hkd⟩
              obtain ⟨bd, od, av, hAd, hnd⟩ := hnds k n hn
              have hcn := hnd.2
              obtain ⟨Aa, ca, hav, haf⟩ := hnd.1.open (k := 1) (fun _ => rfl)
              subst hav
              have hafl := hDO.af n (List.mem_of_getElem? hn)
              have hst0 : x.st ≠ 0 → ∀ s ∈ n.after, ∃ (j : Nat) (u : Ns), fI E.nodes s = some j ∧ S2.nodes[j]? = some u ∧ u.st = 3 := moves_met hw2 hn hx
              cases nN with
              | none => exact absurd hnN.2 (by omega)
              | some q =>
              obtain ⟨bN, capN, spN⟩ := q
              have hlx0 := nld hx spN 0 (.int .i64 x.st) rfl
              have hlxA := nsl hx spN
              (repeat ((fail_if_success (with_reducible refine SK.atR 16 ?_)); first|(with_reducible first|apply Za|apply Zb|apply Zc|apply Zd|apply Zi|apply Zo|apply Zr)|((with_reducible refine Yz ?_);first|((with_reducible apply SK.indexAddr); rfl; rfl; rfl; first | exact hkl | exact hkd | exact hql | exact hkw | exact hjl)|((with_reducible apply SK.load1); rfl; rfl; (focus (repeat constructor)); first | with_reducible exact hlx0 | with_reducible exact hlu0 | with_reducible exact hlj0)|((with_reducible first|apply ZI|apply ZJ|apply ZK|apply ZM|apply ZN);rfl;rfl)|((with_reducible apply ZS);rfl;rfl;rfl;omega)|((with_reducible apply Zqm);rfl;rfl;rfl)|((with_reducible apply Zqz);rfl;rfl;(focus (repeat constructor));rfl))|((with_reducible apply ZC);rfl)))
              refine SK.seqJ (fun mv2 : Bool => [(10, .int .i64 x.st), (9, .int .i64 (k : Int)), (8, .bool mv2), (6, zN.val S.nodes.length), (7, .int .i64 (i : Int)), (1, .slice (some ⟨bi, oi, none⟩) l.length ci), (2, .pointer (some ⟨b2, 0, none⟩)), (5, .pointer (some ⟨bp, 0, none⟩))]) (fun _ => (some (b2, [.string E.name, .slice A0 E.nodes.length cap], 24) :: (plM bp E (.slice A0 E.nodes.length cap) S2 ev2 ((some (bN, capN, spN), nS), nL) ++ [zN.ent (S.nodes.flatMap Ns.c) 56]))) (fun mv2 => (mv = true → mv2 = true) ∧ ((x.st = 1 ∨ x.st = 2) → mv2 = true)) ?_ ?_
              · cases mv with
                | true =>
                  (repeat first|(with_reducible first|apply Zb|apply Zc|apply Zd|apply Zi)|((with_reducible first|apply ZI|apply ZJ);rfl;rfl)|((with_reducible apply Zqo);rfl;rfl;rfl)|((with_reducible apply Zqx);rfl;rfl;rfl;rfl))
                  exact SK.jumped true ⟨fun _ => rfl, fun _ => rfl⟩ (by (repeat constructor)) (by (repeat constructor))
                | false =>
                  by_cases h1 : x.st = 1
                  · (repeat first|(with_reducible first|apply Zb|apply Zc|apply Zd|apply Zi)|((with_reducible first|apply ZI|apply ZJ|apply ZO);rfl;rfl)|((with_reducible apply ZW);rfl;rfl;rfl;omega)|((with_reducible apply Zqo);rfl;rfl;rfl)|((with_reducible apply Zqs);rfl;rfl;rfl)|((with_reducible apply Zqx);rfl;rfl;rfl;rfl))
                    exact SK.jumped true ⟨fun _ => rfl, fun _ => rfl⟩ (by (repeat constructor)) (by (repeat constructor))
                  · by_cases h2 : x.st = 2
                    · (repeat first|(with_reducible first|apply Zb|apply Zc|apply Zd|apply Zi)|((with_reducible first|apply ZI|apply ZJ|apply ZO);rfl;rfl)|((with_reducible apply ZW);rfl;rfl;rfl;omega)|((with_reducible apply Zqc);rfl;rfl;rfl;omega)|((with_reducible apply Zqs);rfl;rfl;rfl))
                      exact SK.jumped true ⟨fun _ => rfl, fun _ => rfl⟩ (by (repeat constructor)) (by (repeat constructor))
                    · (repeat first|(with_reducible first|apply Zb|apply Zc|apply Zd|apply Zi)|((with_reducible first|apply ZI|apply ZJ|apply ZO);rfl;rfl)|((with_reducible apply Zqc);rfl;rfl;rfl;omega)|((with_reducible apply Zqs);rfl;rfl;rfl))
                      exact SK.jumped false ⟨fun h => h, fun h => by omega⟩ (by (repeat constructor)) (by (repeat constructor))
              rintro mv2 ⟨hm1, hm2⟩
              have hmv2 : ∀ (j : Nat) (y : Ns), j < k + 1 → S2.nodes[j]? = some y → (y.st = 1 ∨ y.st = 2) → mv2 = true := by
                intro j y hj hy hs
                by_cases hjk : j = k
                · subst hjk; rw [hx] at hy; cases hy; exact hm2 hs
                · exact hm1 (hmv j y (by omega) hy hs)
              (repeat ((fail_if_success (with_reducible refine SK.atS 17 ?_)); skip))
              refine SK.seqJ (fun _ : Unit => [(10, .int .i64 x.st), (9, .int .i64 (k : Int)), (8, .bool mv2), (6, zN.val S.nodes.length), (7, .int .i64 (i : Int)), (1, .slice (some ⟨bi, oi, none⟩) l.length ci), (2, .pointer (some ⟨b2, 0, none⟩)), (5, .pointer (some ⟨bp, 0, none⟩))]) (fun _ => (some (b2, [.string E.name, .slice A0 E.nodes.length cap], 24) :: (plM bp E (.slice A0 E.nodes.length cap) S2 ev2 ((some (bN, capN, spN), nS), nL) ++ [zN.ent (S.nodes.flatMap Ns.c) 56]))) (fun _ => True) ?_ ?_
              · by_cases hkw : k < S.nodes.length
                · obtain ⟨u, hu⟩ : ∃ u, S.nodes[k]? = some u := ⟨_, List.getElem?_eq_getElem hkw⟩
                  cases zN with
                  | none => exact absurd hzN.2 (by omega)
                  | some qz =>
                  obtain ⟨bZ, capZ, spZ⟩ := qz
                  have hlu0 := nld hu spZ 0 (.int .i64 u.st) rfl
                  have hluA := nsl hu spZ
                  by_cases hu3 : u.st = 3
                  · have hxu : x = u := by have := hsty k u hu hu3; rw [hx] at this; exact Option.some.inj this
                    subst hxu
                    (repeat first|(with_reducible apply Za)|((with_reducible refine Yz ?_);first|((with_reducible apply SK.indexAddr); rfl; rfl; rfl; first | exact hkl | exact hkd | exact hql | exact hkw | exact hjl)|((with_reducible apply SK.load1); rfl; rfl; (focus (repeat constructor)); first | with_reducible exact hlx0 | with_reducible exact hlu0 | with_reducible exact hlj0)|((with_reducible apply SK.loadA); rfl; rfl; (focus (repeat constructor)); first | with_reducible exact hlxA | with_reducible exact hluA)|((with_reducible first|apply ZI|apply ZK|apply ZM|apply ZN|apply ZO);rfl;rfl)|((with_reducible first|apply ZS|apply ZW);rfl;rfl;rfl;omega)|((with_reducible first|apply Zqm|apply Zqo);rfl;rfl;rfl)|((with_reducible apply Zqz);rfl;rfl;(focus (repeat constructor));rfl))|((with_reducible apply Zz);rfl)|refine Yi 17 i14_17 (by kernel_rfl) ?_)
                    refine SK.neSame rfl rfl rfl (alikeNs x) guard56 ?_
                    (repeat first|(with_reducible first|apply Ze|apply Zi|apply Zo)|((with_reducible apply Zqo);rfl;rfl;rfl)|((with_reducible apply Zz);rfl)|((with_reducible apply ZD);rfl))
                    exact SK.jumped () trivial (by (repeat constructor)) (by (repeat constructor))
                  · (repeat first|(with_reducible first|apply Za|apply Ze|apply Zi|apply Zo)|((with_reducible refine Yz ?_);first|((with_reducible apply SK.indexAddr); rfl; rfl; rfl; first | exact hkl | exact hkd | exact hql | exact hkw | exact hjl)|((with_reducible apply SK.load1); rfl; rfl; (focus (repeat constructor)); first | with_reducible exact hlx0 | with_reducible exact hlu0 | with_reducible exact hlj0)|((with_reducible first|apply ZI|apply ZM|apply ZO);rfl;rfl)|((with_reducible apply ZS);rfl;rfl;rfl;omega)|((with_reducible apply Zqc);rfl;rfl;rfl;omega)|((with_reducible first|apply Zqm|apply Zqo);rfl;rfl;rfl)|((with_reducible apply Zqs);rfl;rfl;rfl)|((with_reducible apply Zqx);rfl;rfl;rfl;rfl))|((with_reducible apply Zz);rfl)|((with_reducible apply ZD);rfl)|refine Yi 17 i14_17 (by kernel_rfl) ?_)
                    exact SK.jumped () trivial (by (repeat constructor)) (by (repeat constructor))
                · obtain ⟨AW, cW, hvW⟩ := val_sl hzN
                  refine SK.slot (j := 6) rfl hvW ?_
                  (repeat first|(with_reducible first|apply Za|apply Ze|apply Zi|apply Zo)|((with_reducible first|apply ZI|apply ZM);rfl;rfl)|((with_reducible apply ZY);rfl;rfl;rfl;omega)|((with_reducible apply Zqs);rfl;rfl;rfl)|((with_reducible apply Zqx);rfl;rfl;rfl;rfl)|((with_reducible apply Zz);rfl)|((with_reducible apply ZD);rfl)|refine Yi 17 i14_17 (by kernel_rfl) ?_)
                  refine SK.slot (j := 6) rfl hvW.symm ?_
                  exact SK.jumped () trivial (by (repeat constructor)) (by (repeat constructor))
              rintro _ _
              (repeat first|(with_reducible first|apply Za|apply Zb|apply Zc|apply Zd|apply Zi|apply Zr)|((with_reducible apply ZJ);rfl;rfl))
              refine SK.loopW (fun q : Nat => [(11, .int .i64 (q : Int)), (10, .int .i64 x.st), (9, .int .i64 (k : Int)), (8, .bool mv2), (6, zN.val S.nodes.length), (7, .int .i64 (i : Int)), (1, .slice (some ⟨bi, oi, none⟩) l.length ci), (2, .pointer (some ⟨b2, 0, none⟩)), (5, .pointer (some ⟨bp, 0, none⟩))]) (fun _ => (some (b2, [.string E.name, .slice A0 E.nodes.length cap], 24) :: (plM bp E (.slice A0 E.nodes.length cap) S2 ev2 ((some (bN, capN, spN), nS), nL) ++ [zN.ent (S.nodes.flatMap Ns.c) 56])))
                (fun q => q ≤ n.after.length) (fun q => n.after.length - q) 0 (Nat.zero_le _) (by (repeat constructor)) (by (repeat constructor)) ?_
              intro q hq
              subst hAd
              by_cases hql : q < n.after.length
              · by_cases h0x : x.st = 0
                · (repeat first|(with_reducible first|apply Za|apply Zb|apply Zc|apply Zd|apply Zi|apply Zj|apply Zl|apply Zn|apply Zq)|((with_reducible refine Yz ?_);first|((with_reducible apply SK.indexAddr); rfl; rfl; rfl; first | exact hkl | exact hkd | exact hql | exact hkw | exact hjl)|((with_reducible apply SK.load1R); rfl; rfl; first | exact hcn 6 _ rfl | exact hsc0)|((with_reducible first|apply ZI|apply ZJ|apply ZK|apply ZM|apply ZO);rfl;rfl)|((with_reducible first|apply ZR|apply ZS);rfl;rfl;rfl;omega)|((with_reducible apply Zqd);rfl;rfl;rfl;omega)|((with_reducible first|apply Zqm|apply Zqo);rfl;rfl;rfl)|((with_reducible apply Zqz);rfl;rfl;(focus (repeat constructor));rfl))|((with_reducible apply ZD);rfl))
                  exact SK.roundW (k + 1, mv2) ⟨by omega, hmv2⟩ (by dsimp only; omega) (by (repeat constructor)) (by (repeat constructor))
                · obtain ⟨s, hs⟩ : ∃ s, n.after[q]? = some s := ⟨_, List.getElem?_eq_getElem hql⟩
                  obtain ⟨ba, oa, hAa, hsc⟩ := haf q s hs (by omega)
                  subst hAa
                  have hsc0 := hsc 0 _ rfl
                  obtain ⟨jj, u, hf, hu, hu3⟩ := hst0 h0x s (List.mem_of_getElem? hs)
                  have hjl := (List.getElem?_eq_some_iff.1 hu).1
                  have hlj0 := nld hu spN 0 (.int .i64 u.st) rfl
                  (repeat first|(with_reducible first|apply Za|apply Zb|apply Zc|apply Zd|apply Zi|apply Zo|apply Zr)|((with_reducible refine Yz ?_);first|((with_reducible apply SK.indexAddr); rfl; rfl; rfl; first | exact hkl | exact hkd | exact hql | exact hkw | exact hjl)|((with_reducible apply SK.load1R); rfl; rfl; first | exact hcn 6 _ rfl | exact hsc0)|((with_reducible first|apply ZI|apply ZK|apply ZM|apply ZO);rfl;rfl)|((with_reducible first|apply ZS|apply ZX);rfl;rfl;rfl;omega)|((with_reducible first|apply Zqm|apply Zqo);rfl;rfl;rfl)|((with_reducible first|apply Zqz|apply Zra);rfl;rfl;(focus (repeat constructor));rfl))|((with_reducible first|apply Zz|apply ZC);rfl)|refine Yi 22 i14_22 (by kernel_rfl) ?_)
                  refine SK.callA rfl rfl (fun w1 g1 _ => find21 _ E s w1 (hd.mono g1) hdn) ?_
                  unfold findV
                  rw [hf]
                  (repeat first|(with_reducible first|apply Za|apply Zb|apply Zc|apply Zd|apply Ze|apply Zi|apply Zl|apply Zo|apply Zs)|((with_reducible refine Yz ?_);first|((with_reducible apply SK.indexAddr); rfl; rfl; rfl; first | exact hkl | exact hkd | exact hql | exact hkw | exact hjl)|((with_reducible apply SK.load1); rfl; rfl; (focus (repeat constructor)); first | with_reducible exact hlx0 | with_reducible exact hlu0 | with_reducible exact hlj0)|((with_reducible first|apply ZI|apply ZJ|apply ZK|apply ZN);rfl;rfl)|((with_reducible apply ZR);rfl;rfl;rfl;omega)|((with_reducible apply Zqd);rfl;rfl;rfl;omega)|((with_reducible first|apply Zqm|apply Zqn);rfl;rfl;rfl)|((with_reducible apply Zqz);rfl;rfl;(focus (repeat constructor));rfl))|((with_reducible apply Zz);rfl)|((with_reducible apply ZD);rfl))
                  exact SK.roundW (q + 1) (by omega) (by omega) (by (repeat constructor)) (by (repeat constructor))
              · (repeat first|(with_reducible first|apply Za|apply Zb|apply Zc|apply Zd|apply Zi|apply Zj|apply Zl|apply Zn|apply Zq)|((with_reducible refine Yz ?_);first|((with_reducible apply SK.indexAddr); rfl; rfl; rfl; first | exact hkl | exact hkd | exact hql | exact hkw | exact hjl)|((with_reducible apply SK.load1R); rfl; rfl; first | exact hcn 6 _ rfl | exact hsc0)|((with_reducible first|apply ZI|apply ZJ|apply ZK|apply ZM);rfl;rfl)|((with_reducible apply ZR);rfl;rfl;rfl;omega)|((with_reducible apply ZY);rfl;rfl;rfl;omega)|((with_reducible apply Zqm);rfl;rfl;rfl)|((with_reducible apply Zqs);rfl;rfl;rfl)|((with_reducible apply Zqx);rfl;rfl;rfl;rfl)|((with_reducible apply Zqz);rfl;rfl;(focus (repeat constructor));rfl))|((with_reducible apply ZD);rfl))
                exact SK.roundW (k + 1, mv2) ⟨by omega, hmv2⟩ (by dsimp only; omega) (by (repeat constructor)) (by (repeat constructor))
            · have hk2 : k = S2.nodes.length := by omega
              obtain ⟨AN, cN, hvN⟩ := val_sl hnN
              (repeat first|(with_reducible first|apply Za|apply Zb|apply Zc)|((with_reducible first|apply ZI|apply ZK|apply ZN);rfl;rfl)|((with_reducible apply Zqm);rfl;rfl;rfl)|((with_reducible apply Zqz);rfl;rfl;(focus (repeat constructor));rfl))
              refine SK.slot (j := 49) rfl hvN ?_
              (repeat first|(with_reducible first|apply Zc|apply Zd|apply Zi|apply Zj|apply Zn|apply Zq)|((with_reducible apply ZM);rfl;rfl)|((with_reducible apply ZY);rfl;rfl;rfl;omega)|((with_reducible apply ZD);rfl))
              exact SK.jumped (mv, ((nN, nS), nL)) ⟨hz2, fun h1 => by obtain ⟨y, hy, hs⟩ := hlv2 h1; obtain ⟨j, hj⟩ := List.getElem?_of_mem hy; exact hmv j y (by have := (List.getElem?_eq_some_iff.1 hj).1; omega) hj hs⟩ (by (repeat constructor)) (by (repeat constructor))
          · rw [hpe h0]
            rw [hpe h0] at g3 g5 g6
            dsimp only at g3 g5 g6
            have hw2 := g5
            have hlv2 := g6
            have hln2 : 0 < S.nodes.length → S.nodes.length = E.nodes.length := g5.some
            have hsn1 := hgo.sn
            (repeat first|(with_reducible first|apply Zc|apply Zs))
            refine SK.call rfl rfl (plM2 bp E (.slice A0 E.nodes.length cap) S ev (zN, zS) zL) [some (b2, [.string E.name, .slice A0 E.nodes.length cap], 24), zN.ent (S.nodes.flatMap Ns.c) 56, zS.ent (S.sigs.flatMap Sg.c) 100] (by (repeat constructor)) _ _ _ (fun w1 g0 g1 g2 => he18 w1 (by omega) (hd.mono g1) (RSt.own hzN hzS (fun b cs hb j u hu => g2 b cs _ (by rw [← hb]; (repeat constructor)) j u hu) (fun b cs hb j u hu => g2 b cs _ (by rw [← hb]; (repeat constructor)) j u hu)) h0 (by obtain ⟨m, hm⟩ := hG; exact ⟨m, g1 _ _ _ hm⟩) g0) (fun _ _ => ?_)
            (repeat first|(with_reducible first|apply Za|apply Zb|apply Zc|apply Zd|apply Zi|apply Zo|apply Zr|apply Zs)|((with_reducible apply ZJ);rfl;rfl)|((with_reducible apply ZP);rfl;rfl)|((with_reducible apply ZD);rfl))
            refine SK.loopW (fun g : Nat × Bool => [(9, .int .i64 (g.1 : Int)), (8, .bool g.2), (6, zN.val S.nodes.length), (7, .int .i64 (i : Int)), (1, .slice (some ⟨bi, oi, none⟩) l.length ci), (2, .pointer (some ⟨b2, 0, none⟩)), (5, .pointer (some ⟨bp, 0, none⟩))]) (fun _ => (some (b2, [.string E.name, .slice A0 E.nodes.length cap], 24) :: plM bp E (.slice A0 E.nodes.length cap) S ev ((zN, zS), zL)))
              (fun g => g.1 ≤ S.nodes.length ∧ ∀ (j : Nat) (x : Ns), j < g.1 → S.nodes[j]? = some x → (x.st = 1 ∨ x.st = 2) → g.2 = true) (fun g => S.nodes.length - g.1) (0, false) ⟨Nat.zero_le _, fun j x hj => absurd hj (Nat.not_lt_zero _)⟩ (by (repeat constructor)) (by (repeat constructor)) ?_
            rintro ⟨k, mv⟩ ⟨hk, hmv⟩
            dsimp only at hk hmv ⊢
            by_cases hkl : k < S.nodes.length
            · obtain ⟨x, hx⟩ : ∃ x, S.nodes[k]? = some x := ⟨_, List.getElem?_eq_getElem hkl⟩
              have hkd : k < E.nodes.length := by have := hln2 (by omega); omega
              obtain ⟨n, hn⟩ : ∃ n, E.nodes[k]? = some n := ⟨_, List.getElem?_eq_getElem hkd⟩
              obtain ⟨bd, od, av, hAd, hnd⟩ := hnds k n hn
              have hcn := hnd.2
              obtain ⟨Aa, ca, hav, haf⟩ := hnd.1.open (k := 1) (fun _ => rfl)
              subst hav
              have hafl := hDO.af n (List.mem_of_getElem? hn)
              have hst0 : x.st ≠ 0 → ∀ s ∈ n.after, ∃ (j : Nat) (u : Ns), fI E.nodes s = some j ∧ S.nodes[j]? = some u ∧ u.st = 3 := moves_met hw2 hn hx
              cases zN with
              | none => exact absurd hzN.2 (by omega)
              | some q =>
              obtain ⟨bN, capN, spN⟩ := q
              have hlx0 := nld hx spN 0 (.int .i64 x.st) rfl
              have hlxA := nsl hx spN
              (repeat ((fail_if_success (with_reducible refine SK.atR 16 ?_)); first|(with_reducible first|apply Za|apply Zb|apply Zc|apply Zd|apply Zi|apply Zo|apply Zr)|((with_reducible refine Yz ?_);first|((with_reducible apply SK.indexAddr); rfl; rfl; rfl; first | exact hkl | exact hkd | exact hql | exact hkw | exact hjl)|((with_reducible apply SK.load1); rfl; rfl; (focus (repeat constructor)); first | with_reducible exact hlx0 | with_reducible exact hlu0 | with_reducible exact hlj0)|((with_reducible first|apply ZI|apply ZJ|apply ZK|apply ZM|apply ZN);rfl;rfl)|((with_reducible apply ZS);rfl;rfl;rfl;omega)|((with_reducible apply Zqm);rfl;rfl;rfl)|((with_reducible apply Zqz);rfl;rfl;(focus (repeat constructor));rfl))|((with_reducible apply ZC);rfl)))
              refine SK.seqJ (fun mv2 : Bool => [(10, .int .i64 x.st), (9, .int .i64 (k : Int)), (8, .bool mv2), (6, OwnD.val (some (bN, capN, spN)) S.nodes.length), (7, .int .i64 (i : Int)), (1, .slice (some ⟨bi, oi, none⟩) l.length ci), (2, .pointer (some ⟨b2, 0, none⟩)), (5, .pointer (some ⟨bp, 0, none⟩))]) (fun _ => (some (b2, [.string E.name, .slice A0 E.nodes.length cap], 24) :: plM bp E (.slice A0 E.nodes.length cap) S ev ((some (bN, capN, spN), zS), zL))) (fun mv2 => (mv = true → mv2 = true) ∧ ((x.st = 1 ∨ x.st = 2) → mv2 = true)) ?_ ?_
              · cases mv with
                | true =>
                  (repeat first|(with_reducible first|apply Zb|apply Zc|apply Zd|apply Zi)|((with_reducible first|apply ZI|apply ZJ);rfl;rfl)|((with_reducible apply Zqo);rfl;rfl;rfl)|((with_reducible apply Zqx);rfl;rfl;rfl;rfl))
                  exact SK.jumped true ⟨fun _ => rfl, fun _ => rfl⟩ (by (repeat constructor)) (by (repeat constructor))
                | false =>
                  by_cases h1 : x.st = 1
                  · (repeat first|(with_reducible first|apply Zb|apply Zc|apply Zd|apply Zi)|((with_reducible first|apply ZI|apply ZJ|apply ZO);rfl;rfl)|((with_reducible apply ZW);rfl;rfl;rfl;omega)|((with_reducible apply Zqo);rfl;rfl;rfl)|((with_reducible apply Zqs);rfl;rfl;rfl)|((with_reducible apply Zqx);rfl;rfl;rfl;rfl))
                    exact SK.jumped true ⟨fun _ => rfl, fun _ => rfl⟩ (by (repeat constructor)) (by (repeat constructor))
                  · by_cases h2 : x.st = 2
                    · (repeat first|(with_reducible first|apply Zb|apply Zc|apply Zd|apply Zi)|((with_reducible first|apply ZI|apply ZJ|apply ZO);rfl;rfl)|((with_reducible apply ZW);rfl;rfl;rfl;omega)|((with_reducible apply Zqc);rfl;rfl;rfl;omega)|((with_reducible apply Zqs);rfl;rfl;rfl))
                      exact SK.jumped true ⟨fun _ => rfl, fun _ => rfl⟩ (by (repeat constructor)) (by (repeat constructor))
                    · (repeat first|(with_reducible first|apply Zb|apply Zc|apply Zd|apply Zi)|((with_reducible first|apply ZI|apply ZJ|apply ZO);rfl;rfl)|((with_reducible apply Zqc);rfl;rfl;rfl;omega)|((with_reducible apply Zqs);rfl;rfl;rfl))
                      exact SK.jumped false ⟨fun h => h, fun h => by omega⟩ (by (repeat constructor)) (by (repeat constructor))
              rintro mv2 ⟨hm1, hm2⟩
              have hmv2 : ∀ (j : Nat) (y : Ns), j < k + 1 → S.nodes[j]? = some y → (y.st = 1 ∨ y.st = 2) → mv2 = true := by
                intro j y hj hy hs
                by_cases hjk : j = k
                · subst hjk; rw [hx] at hy; cases hy; exact hm2 hs
                · exact hm1 (hmv j y (by omega) hy hs)
              (repeat ((fail_if_success (with_reducible refine SK.atS 17 ?_)); skip))
              refine SK.seqJ (fun _ : Unit => [(10, .int .i64 x.st), (9, .int .i64 (k : Int)), (8, .bool mv2), (6, OwnD.val (some (bN, capN, spN)) S.nodes.length), (7, .int .i64 (i : Int)), (1, .slice (some ⟨bi, oi, none⟩) l.length ci), (2, .pointer (some ⟨b2, 0, none⟩)), (5, .pointer (some ⟨bp, 0, none⟩))]) (fun _ => (some (b2, [.string E.name, .slice A0 E.nodes.length cap], 24) :: plM bp E (.slice A0 E.nodes.length cap) S ev ((some (bN, capN, spN), zS), zL))) (fun _ => True) ?_ ?_
              · by_cases hu3 : x.st = 3
                · (repeat first|(with_reducible apply Za)|((with_reducible refine Yz ?_);first|((with_reducible apply SK.indexAddr); rfl; rfl; rfl; first | exact hkl | exact hkd | exact hql | exact hkw | exact hjl)|((with_reducible apply SK.load1); rfl; rfl; (focus (repeat constructor)); first | with_reducible exact hlx0 | with_reducible exact hlu0 | with_reducible exact hlj0)|((with_reducible apply SK.loadA); rfl; rfl; (focus (repeat constructor)); first | with_reducible exact hlxA | with_reducible exact hluA)|((with_reducible first|apply ZI|apply ZK|apply ZM|apply ZN|apply ZO);rfl;rfl)|((with_reducible first|apply ZS|apply ZW);rfl;rfl;rfl;omega)|((with_reducible first|apply Zqm|apply Zqo);rfl;rfl;rfl)|((with_reducible apply Zqz);rfl;rfl;(focus (repeat constructor));rfl))|((with_reducible apply Zz);rfl)|refine Yi 17 i14_17 (by kernel_rfl) ?_)
                  refine SK.neSame rfl rfl rfl (alikeNs x) guard56 ?_
                  (repeat first|(with_reducible first|apply Ze|apply Zi|apply Zo)|((with_reducible apply Zqo);rfl;rfl;rfl)|((with_reducible apply Zz);rfl)|((with_reducible apply ZD);rfl))
                  exact SK.jumped () trivial (by (repeat constructor)) (by (repeat constructor))
                · (repeat first|(with_reducible first|apply Za|apply Ze|apply Zi|apply Zo)|((with_reducible refine Yz ?_);first|((with_reducible apply SK.indexAddr); rfl; rfl; rfl; first | exact hkl | exact hkd | exact hql | exact hkw | exact hjl)|((with_reducible apply SK.load1); rfl; rfl; (focus (repeat constructor)); first | with_reducible exact hlx0 | with_reducible exact hlu0 | with_reducible exact hlj0)|((with_reducible first|apply ZI|apply ZM|apply ZO);rfl;rfl)|((with_reducible apply ZS);rfl;rfl;rfl;omega)|((with_reducible apply Zqc);rfl;rfl;rfl;omega)|((with_reducible first|apply Zqm|apply Zqo);rfl;rfl;rfl)|((with_reducible apply Zqs);rfl;rfl;rfl)|((with_reducible apply Zqx);rfl;rfl;rfl;rfl))|((with_reducible apply Zz);rfl)|((with_reducible apply ZD);rfl)|refine Yi 17 i14_17 (by kernel_rfl) ?_)
                  exact SK.jumped () trivial (by (repeat constructor)) (by (repeat constructor))
              rintro _ _
              (repeat first|(with_reducible first|apply Za|apply Zb|apply Zc|apply Zd|apply Zi|apply Zr)|((with_reducible apply ZJ);rfl;rfl))
              refine SK.loopW (fun q : Nat => [(11, .int .i64 (q : Int)), (10, .int .i64 x.st), (9, .int .i64 (k : Int)), (8, .bool mv2), (6, OwnD.val (some (bN, capN, spN)) S.nodes.length), (7, .int .i64 (i : Int)), (1, .slice (some ⟨bi, oi, none⟩) l.length ci), (2, .pointer (some ⟨b2, 0, none⟩)), (5, .pointer (some ⟨bp, 0, none⟩))]) (fun _ => (some (b2, [.string E.name, .slice A0 E.nodes.length cap], 24) :: plM bp E (.slice A0 E.nodes.length cap) S ev ((some (bN, capN, spN), zS), zL)))
                (fun q => q ≤ n.after.length) (fun q => n.after.length - q) 0 (Nat.zero_le _) (by (repeat constructor)) (by (repeat constructor)) ?_
              intro q hq
              subst hAd
              by_cases hql : q < n.after.length
              · by_cases h0x : x.st = 0
                · (repeat first|(with_reducible first|apply Za|apply Zb|apply Zc|apply Zd|apply Zi|apply Zj|apply Zl|apply Zn|apply Zq)|((with_reducible refine Yz ?_);first|((with_reducible apply SK.indexAddr); rfl; rfl; rfl; first | exact hkl | exact hkd | exact hql | exact hkw | exact hjl)|((with_reducible apply SK.load1R); rfl; rfl; first | exact hcn 6 _ rfl | exact hsc0)|((with_reducible first|apply ZI|apply ZJ|apply ZK|apply ZM|apply ZO);rfl;rfl)|((with_reducible first|apply ZR|apply ZS);rfl;rfl;rfl;omega)|((with_reducible apply Zqd);rfl;rfl;rfl;omega)|((with_reducible first|apply Zqm|apply Zqo);rfl;rfl;rfl)|((with_reducible apply Zqz);rfl;rfl;(focus (repeat constructor));rfl))|((with_reducible apply ZD);rfl))
                  exact SK.roundW (k + 1, mv2) ⟨by omega, hmv2⟩ (by dsimp only; omega) (by (repeat constructor)) (by (repeat constructor))
                · obtain ⟨s, hs⟩ : ∃ s, n.after[q]? = some s := ⟨_, List.getElem?_eq_getElem hql⟩
                  obtain ⟨ba, oa, hAa, hsc⟩ := haf q s hs (by omega)
                  subst hAa
                  have hsc0 := hsc 0 _ rfl
                  obtain ⟨jj, u, hf, hu, hu3⟩ := hst0 h0x s (List.mem_of_getElem? hs)
                  have hjl := (List.getElem?_eq_some_iff.1 hu).1
                  have hlj0 := nld hu spN 0 (.int .i64 u.st) rfl
                  (repeat first|(with_reducible first|apply Za|apply Zb|apply Zc|apply Zd|apply Zi|apply Zo|apply Zr)|((with_reducible refine Yz ?_);first|((with_reducible apply SK.indexAddr); rfl; rfl; rfl; first | exact hkl | exact hkd | exact hql | exact hkw | exact hjl)|((with_reducible apply SK.load1R); rfl; rfl; first | exact hcn 6 _ rfl | exact hsc0)|((with_reducible first|apply ZI|apply ZK|apply ZM|apply ZO);rfl;rfl)|((with_reducible first|apply ZS|apply ZX);rfl;rfl;rfl;omega)|((with_reducible first|apply Zqm|apply Zqo);rfl;rfl;rfl)|((with_reducible first|apply Zqz|apply Zra);rfl;rfl;(focus (repeat constructor));rfl))|((with_reducible first|apply Zz|apply ZC);rfl)|refine Yi 22 i14_22 (by kernel_rfl) ?_)
                  refine SK.callA rfl rfl (fun w1 g1 _ => find21 _ E s w1 (hd.mono g1) hdn) ?_
                  unfold findV
                  rw [hf]
                  (repeat first|(with_reducible first|apply Za|apply Zb|apply Zc|apply Zd|apply Ze|apply Zi|apply Zl|apply Zo|apply Zs)|((with_reducible refine Yz ?_);first|((with_reducible apply SK.indexAddr); rfl; rfl; rfl; first | exact hkl | exact hkd | exact hql | exact hkw | exact hjl)|((with_reducible apply SK.load1); rfl; rfl; (focus (repeat constructor)); first | with_reducible exact hlx0 | with_reducible exact hlu0 | with_reducible exact hlj0)|((with_reducible first|apply ZI|apply ZJ|apply ZK|apply ZN);rfl;rfl)|((with_reducible apply ZR);rfl;rfl;rfl;omega)|((with_reducible apply Zqd);rfl;rfl;rfl;omega)|((with_reducible first|apply Zqm|apply Zqn);rfl;rfl;rfl)|((with_reducible apply Zqz);rfl;rfl;(focus (repeat constructor));rfl))|((with_reducible apply Zz);rfl)|((with_reducible apply ZD);rfl))
                  exact SK.roundW (q + 1) (by omega) (by omega) (by (repeat constructor)) (by (repeat constructor))
              · (repeat first|(with_reducible first|apply Za|apply Zb|apply Zc|apply Zd|apply Zi|apply Zj|apply Zl|apply Zn|apply Zq)|((with_reducible refine Yz ?_);first|((with_reducible apply SK.indexAddr); rfl; rfl; rfl; first | exact hkl | exact hkd | exact hql | exact hkw | exact hjl)|((with_reducible apply SK.load1R); rfl; rfl; first | exact hcn 6 _ rfl | exact hsc0)|((with_reducible first|apply ZI|apply ZJ|apply ZK|apply ZM);rfl;rfl)|((with_reducible apply ZR);rfl;rfl;rfl;omega)|((with_reducible apply ZY);rfl;rfl;rfl;omega)|((with_reducible apply Zqm);rfl;rfl;rfl)|((with_reducible apply Zqs);rfl;rfl;rfl)|((with_reducible apply Zqx);rfl;rfl;rfl;rfl)|((with_reducible apply Zqz);rfl;rfl;(focus (repeat constructor));rfl))|((with_reducible apply ZD);rfl))
                exact SK.roundW (k + 1, mv2) ⟨by omega, hmv2⟩ (by dsimp only; omega) (by (repeat constructor)) (by (repeat constructor))
            · have hk2 : k = S.nodes.length := by omega
              obtain ⟨AN, cN, hvN⟩ := val_sl hzN
              (repeat first|(with_reducible first|apply Za|apply Zb|apply Zc)|((with_reducible first|apply ZI|apply ZK|apply ZN);rfl;rfl)|((with_reducible apply Zqm);rfl;rfl;rfl)|((with_reducible apply Zqz);rfl;rfl;(focus (repeat constructor));rfl))
              refine SK.slot (j := 49) rfl hvN ?_
              (repeat first|(with_reducible first|apply Zc|apply Zd|apply Zi|apply Zj|apply Zn|apply Zq)|((with_reducible apply ZM);rfl;rfl)|((with_reducible apply ZY);rfl;rfl;rfl;omega)|((with_reducible apply ZD);rfl))
              exact SK.jumped (mv, ((zN, zS), zL)) ⟨hz, fun h1 => by obtain ⟨y, hy, hs⟩ := hlv2 h1; obtain ⟨j, hj⟩ := List.getElem?_of_mem hy; exact hmv j y (by have := (List.getElem?_eq_some_iff.1 hj).1; omega) hj hs⟩ (by (repeat constructor)) (by (repeat constructor))
        · generalize playL E (S, ev) (clipI a0) = p2 at g3 g4 g5 g6 ⊢
          obtain ⟨S2, ev2⟩ := p2
          dsimp only at g3 g4 g5 g6 ⊢
          rintro ⟨mv, ⟨⟨nN, nS⟩, nL⟩⟩ ⟨hz2, hmv⟩
          dsimp only at hz2 hmv ⊢
          obtain ⟨⟨hnN, hnS⟩, hnL⟩ := id hz2
          dsimp only at hnN hnS hnL
          have hsn2 := g3.sn
          have hov := ovr_le S2 S2.nodes.length
          (repeat ((fail_if_success (with_reducible refine SK.atS 25 ?_)); skip))
          refine SK.seqJ (fun _ : Unit => [(7, .int .i64 (i : Int)), (1, .slice (some ⟨bi, oi, none⟩) l.length ci), (2, .pointer (some ⟨b2, 0, none⟩)), (5, .pointer (some ⟨bp, 0, none⟩))])
            (fun _ => some (b2, [.string E.name, .slice A0 E.nodes.length cap], 24) :: plM bp E (.slice A0 E.nodes.length cap) S2 ev2 ((nN, nS), nL)) (fun _ => True) ?_ ?_
          · by_cases h1 : S2.status = 1
            · have hm1 := hmv h1
              subst hm1
              (repeat first|(with_reducible first|apply Za|apply Zb|apply Zc|apply Zd|apply Zi|apply Zo)|((with_reducible first|apply ZI|apply ZK|apply ZN|apply ZO);rfl;rfl)|((with_reducible apply ZP);rfl;rfl)|((with_reducible apply ZW);rfl;rfl;rfl;omega)|((with_reducible first|apply Zqm|apply Zqo);rfl;rfl;rfl)|((with_reducible apply Zqz);rfl;rfl;(focus (repeat constructor));rfl)|((with_reducible apply ZD);rfl))
              exact SK.jumped () trivial (by (repeat constructor)) (by (repeat constructor))
            · (repeat first|(with_reducible first|apply Za|apply Zb|apply Zc|apply Zd|apply Zi|apply Zo)|((with_reducible first|apply ZI|apply ZK|apply ZN);rfl;rfl)|((with_reducible apply Zqc);rfl;rfl;rfl;omega)|((with_reducible apply Zqm);rfl;rfl;rfl)|((with_reducible apply Zqs);rfl;rfl;rfl)|((with_reducible apply Zqx);rfl;rfl;rfl;rfl)|((with_reducible apply Zqz);rfl;rfl;(focus (repeat constructor));rfl)|((with_reducible apply ZD);rfl))
              exact SK.jumped () trivial (by (repeat constructor)) (by (repeat constructor))
          rintro _ _
          (repeat first|(with_reducible first|apply Za|apply Zb|apply Zc|apply Zd|apply Zi)|((with_reducible first|apply ZI|apply ZJ|apply ZK|apply ZN);rfl;rfl)|((with_reducible apply Zqm);rfl;rfl;rfl)|((with_reducible first|apply Zqz|apply Zra);rfl;rfl;(focus (repeat constructor));rfl))
          refine SK.callA rfl rfl (fun w1 _ g2 => count25 (stV S2 (nN, nS)) S2 w1 (RSt.own hnN hnS (fun b cs hb j u hu => g2 b cs _ (by rw [← hb]; (repeat constructor)) j u hu) (fun b cs hb j u hu => g2 b cs _ (by rw [← hb]; (repeat constructor)) j u hu)) hsn2) ?_
          (repeat first|(with_reducible first|apply Za|apply Zb|apply Zc|apply Zd|apply Zi|apply Zs)|((with_reducible first|apply ZI|apply ZJ|apply ZK|apply ZN);rfl;rfl)|((with_reducible apply Zqn);rfl;rfl;rfl)|((with_reducible apply Zra);rfl;rfl;(focus (repeat constructor));rfl))
          refine SK.callA rfl rfl (fun w1 _ g2 => count26 (stV S2 (nN, nS)) S2 w1 (RSt.own hnN hnS (fun b cs hb j u hu => g2 b cs _ (by rw [← hb]; (repeat constructor)) j u hu) (fun b cs hb j u hu => g2 b cs _ (by rw [← hb]; (repeat constructor)) j u hu)) hsn2) ?_
          (repeat first|(with_reducible first|apply Za|apply Zc|apply Zd|apply Zi|apply Zs)|((with_reducible refine Yz ?_);first|((with_reducible apply SK.real); rfl; rfl)|((with_reducible apply SK.convF); rfl; rfl; exact und3; exact und77)|((with_reducible first|apply ZI|apply ZJ);rfl;rfl))|((with_reducible apply Zz);rfl)|refine Yi 30 i14_30 (by kernel_rfl) ?_)
          refine SK.neF rfl rfl rfl (cF_near (by omega)) ?_
          (repeat first|((with_reducible apply Zz);rfl)|((with_reducible refine Yz ?_);first|((with_reducible apply SK.imag); rfl; rfl)|((with_reducible apply SK.convF); rfl; rfl; exact und3; exact und77)|((with_reducible first|apply ZI|apply ZO);rfl;rfl)))
          refine SK.neF rfl rfl rfl (cF_near (by omega)) ?_
          (repeat first|((with_reducible apply Zz);rfl)|((with_reducible first|apply ZI|apply ZK|apply ZN|apply ZO);rfl;rfl)|((with_reducible apply Zqs);rfl;rfl;rfl)|((with_reducible apply Zra);rfl;rfl;(focus (repeat constructor));rfl))
          refine SK.callO rfl rfl (fun w1 g1 g2 => openF33 _ (stV S2 (nN, nS)) E S2 w1 (hd.mono g1) (RSt.own hnN hnS (fun b cs hb j u hu => g2 b cs _ (by rw [← hb]; (repeat constructor)) j u hu) (fun b cs hb j u hu => g2 b cs _ (by rw [← hb]; (repeat constructor)) j u hu)) hsn2 (by omega)) ?_
          intro q1 hq1
          (repeat first|(with_reducible apply Zs)|((with_reducible apply ZO);rfl;rfl)|((with_reducible apply Zz);rfl)|((with_reducible apply ZF);rfl;infer_instance;rfl;(focus (repeat constructor));rfl;rfl))
          refine SK.callO rfl rfl (fun w1 g1 g2 => openF34 _ (stV S2 (nN, nS)) E S2 w1 (hd.mono g1) (RSt.own hnN hnS (fun b cs hb j u hu => g2 b cs _ (by rw [← hb]; (repeat constructor)) j u hu) (fun b cs hb j u hu => g2 b cs _ (by rw [← hb]; (repeat constructor)) j u hu)) hsn2 (by omega)) ?_
          intro q2 hq2
          have hqq : q1 = q2 := Bool.eq_iff_iff.2 (hq1.trans hq2.symm)
          subst hqq
          (repeat first|(with_reducible apply Zs)|((with_reducible apply ZO);rfl;rfl)|((with_reducible apply Zz);rfl))
          refine SK.neBool rfl rfl rfl ?_
          have hqf : (!(q1 == q1)) = false := by simp
          rw [hqf]
          (repeat first|((with_reducible apply Zz);rfl)|((with_reducible first|apply ZI|apply ZK|apply ZN|apply ZO);rfl;rfl)|((with_reducible apply Zqm);rfl;rfl;rfl)|((with_reducible apply Zqs);rfl;rfl;rfl)|((with_reducible apply Zqz);rfl;rfl;(focus (repeat constructor));rfl))
          refine SK.callA rfl rfl (fun w1 _ _ => words35 S2.status w1) ?_
          (repeat first|(with_reducible apply Zs)|((with_reducible apply ZO);rfl;rfl)|((with_reducible apply Zz);rfl)|((with_reducible apply ZE);rfl;infer_instance;rfl;(focus (repeat constructor));rfl;rfl))
          refine SK.callA rfl rfl (fun w1 _ _ => words36 S2.status w1) ?_
          (repeat first|(with_reducible first|apply Zb|apply Zc|apply Zd|apply Ze|apply Zi|apply Zl|apply Zo|apply Zs)|((with_reducible first|apply ZI|apply ZJ|apply ZO);rfl;rfl)|((with_reducible apply ZR);rfl;rfl;rfl;omega)|((with_reducible apply Zqe);rfl;rfl;rfl;exact fun h=>h rfl)|((with_reducible apply Zqs);rfl;rfl;rfl)|((with_reducible apply Zz);rfl)|((with_reducible apply ZD);rfl))
          exact SK.roundW (i + 1, S2, ev2, ((nN, nS), nL)) ⟨by omega, by omega, g3, hz2, by dsimp only at g4 ⊢; omega, g5, g6⟩ (by dsimp only; omega) (by (repeat constructor)) (by (repeat constructor))
      · (repeat first|(with_reducible first|apply Za|apply Zb|apply Zc|apply Zd|apply Zi|apply Zj|apply Zn|apply Zq)|((with_reducible first|apply ZI|apply ZM|apply ZO);rfl;rfl)|((with_reducible apply ZS);rfl;rfl;rfl;omega)|((with_reducible apply ZY);rfl;rfl;rfl;omega)|((with_reducible apply Zqo);rfl;rfl;rfl)|((with_reducible apply ZD);rfl))
        refine SK.callA rfl rfl (fun w1 g1 _ => wakes17 w1 (hG1 w1 g1)) ?_
        (repeat first|(with_reducible first|apply Zc|apply Zd|apply Zi|apply Zp|apply Zs)|((with_reducible apply ZJ);rfl;rfl))
        exact SK.retQ rfl (by (repeat constructor)) (fun w' hm' => ⟨(), trivial, rfl, hm'.wk (by (repeat constructor))⟩)
    · (repeat first|(with_reducible first|apply Za|apply Zb|apply Zc|apply Zd|apply Zi|apply Zj|apply Zn|apply Zq)|((with_reducible first|apply ZI|apply ZM);rfl;rfl)|((with_reducible apply ZY);rfl;rfl;rfl;omega)|((with_reducible apply Zqs);rfl;rfl;rfl)|((with_reducible apply Zqx);rfl;rfl;rfl;rfl)|((with_reducible apply ZD);rfl))
      refine SK.callA rfl rfl (fun w1 g1 _ => wakes17 w1 (hG1 w1 g1)) ?_
      (repeat first|(with_reducible first|apply Zc|apply Zd|apply Zi|apply Zp|apply Zs)|((with_reducible apply ZJ);rfl;rfl))
      exact SK.retQ rfl (by (repeat constructor)) (fun w' hm' => ⟨(), trivial, rfl, hm'.wk (by (repeat constructor))⟩)
open Go.ChangeShapes Go.WideShapes Go.ChangeAt Go.RowKit
set_option maxRecDepth 100000 in
set_option maxHeartbeats 4000000 in
theorem historyMoves_lifted (os : Os) (started : os.Started) (H : Type) (enc : TypeId × Value → H) :
    ReturnsInHanded {} Try.checked os 14 .any (Rows.historyMovesSpec.pre6 enc Try.prog Try.f14 Rows.historyMovesRow.domain false) (Rows.historyMovesSpec.post enc Try.prog Try.f14 false true false false) := by
  refine returnsInHanded_of_change_shaped (C := Try.checked) Try.own started (by kernel_rfl) Try.func14
    (ChangeSpec.witness6 (enc := enc) (C := Try.checked) false ⟨#[], #[.agg #[.string ⟨#[]⟩, .slice none 0 0], .slice none 0 0], []⟩ 8 (by kernel_rfl) (by kernel_rfl) (by kernel_rfl) (by kernel_rfl)) ?_
  intro W base args ds gs before hval0 hW hcnd0 hsz0 hsh _
  have hsz : (DataW.weightsEach Try.prog (Try.f14.params.toList ++ Rows.historyMovesSpec.plain.varTypes Try.prog) (ds ++ gs)).all (· ≤ reachBytes) = true := hsz0
  have hval : ∀ (j : Nat) t v, Try.f14.params[j]? = some t → args[j]? = some v → Value.okWide Try.prog W .any base t v := hval0
  have hW' := hW
  obtain ⟨p, q, hA0, hV, rfl, hfz, hnd⟩ := hW
  have hA : DataW.TrodAll enc Try.prog W 0 (fun _ => true) true Try.f14.params.toList args.toList ds p := hA0
  rw [Try.params14] at hA hval hsz
  obtain ⟨v0, v1, d0, d1, p0, p1, rfl, rfl, rfl, h0, h1⟩ := trodAll_two hA
  obtain ⟨rfl, rfl⟩ := trodVars_none hV
  have hlt := hW'.lt
  have hw0 : ∀ n ∈ d0.weights Try.prog 24, n ≤ reachBytes := fun n hn => by
    have := List.all_eq_true.1 hsz n (DataW.weights_mem_each (j := 0) rfl rfl n hn)
    simpa using this
  have hw1 : ∀ n ∈ d1.weights Try.prog 25, n ≤ reachBytes := fun n hn => by
    have := List.all_eq_true.1 hsz n (DataW.weights_mem_each (j := 1) rfl rfl n hn)
    simpa using this
  have hR : reachBytes < 9223372036854775807 := by decide
  obtain ⟨f0, t0⟩ := id h0
  have ok0 := hval 0 24 v0 rfl rfl
  unfold Value.okWide at ok0
  rw [Try.underlying24] at ok0
  obtain ⟨cs0, rfl, _, _⟩ := ok0
  obtain ⟨D, A, cap, e0, hcap, hrd, hT⟩ := open24 t0 hw0 hR
  have e0' : cs0 = #[.string D.name, .slice A D.nodes.length cap] := Array.ext' e0
  subst e0'
  obtain ⟨f1, t1⟩ := id h1
  obtain ⟨a1, len1, cap1, rfl⟩ := okWide_slice Try.underlying25 (hval 1 25 v1 rfl rfl)
  obtain ⟨c1, l1, e1, hrl1, hI1⟩ := open25 t1 hw1 hR
  have e1' : c1 = .slice a1 len1 cap1 := by
    have : ([Value.slice a1 len1 cap1] : List Value) = [c1] := e1
    exact (List.cons.inj this).1.symm
  subst e1'
  obtain ⟨m, hm⟩ := Try.laysM144.s1_3 W hsh
  have hrun := moves14 D A cap _ l1 W hcap (hrd.mono fun b o v h => Cw.vw h) hT (hrl1.mono fun b o v h => Cw.vw h) hI1 ⟨m, Cw.vw hm⟩
  refine Calls.mono hrun fun e W' ⟨_, _, he, hmem⟩ => ?_
  have hb := Mem.below hmem
  subst he
  have r0 := Below.trod Try.laidOut (ty_ok 24 (by kernel_rfl) (by kernel_rfl)).1 (ty_ok 24 (by kernel_rfl) (by kernel_rfl)).2 h0 hb (fun x hx => hlt x (by simp [hx]))
  have r1 := Below.trod Try.laidOut (ty_ok 25 (by kernel_rfl) (by kernel_rfl)).1 (ty_ok 25 (by kernel_rfl) (by kernel_rfl)).2 h1 hb (fun x hx => hlt x (by simp [hx]))
  exact ⟨_, rfl, ⟨_, _, _, [], _, [], hW', trodAll_mk1 (shut_bool Try.underlying4 _), trodAll_mk2 r0 r1, rfl, hb.frame _, fun h => by cases h⟩⟩
theorem HistoryMoves_holds : Rows.HistoryMovesSaid :=
  OpenClaim.holds_of_wide 14 Try.f14 rfl rfl rfl rfl rfl rfl rfl ⟨rfl, rfl, rfl, rfl, rfl⟩ rfl rfl rfl rfl rfl (by kernel_rfl) Try.func14 (by kernel_rfl)
    (of_decide_eq_true (by kernel_rfl)) (by unfold Func.isWrapper; rw [if_neg (of_decide_eq_false (by kernel_rfl))]; exact ⟨rfl, rfl⟩)
    (fun os started H enc _ => historyMoves_lifted os started H enc)
#print axioms HistoryMoves_holds
end Go.Proofs.Ytdnjfmgldkommaa
