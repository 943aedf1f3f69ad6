/- Proved here: A workflow is what its events come to, told at once or one after another. -/
import Derived.Test.YtdnjfmgldkommaaXc
import Derived.Test.YtdnjfmgldkommaaLd
import Derived.Test.YtdnjfmgldkommaaLc
import Derived.Test.YtdnjfmgldkommaaRows
import Derived.HandedShaped
import Derived.Carry
import Derived.Test.YtdnjfmgldkommaaWd
namespace Go.Proofs.Ytdnjfmgldkommaa
open Go.Sx
@[reducible] def o13_10 : List Nat := [0, 1, 2, 3, 4, 5, 7, 8, 9, 10]
@[reducible] def t13_10 : Ch := .or (.eff (6, [0, 1, 5, 7, 10]) [] (.or (.eff (11, [0, 1, 5]) [] (.or (.eff (12, []) [13, 14, 15] (.eff (16, [0, 1, 5, 7, 10]) [] (.eff (17, []) [18] (.fin)))) (.eff (16, [0, 1, 5, 7, 10]) [] (.eff (12, []) [13, 14, 15] (.eff (17, []) [18] (.fin)))))) (.eff (16, [0, 1, 5, 7, 10]) [] (.eff (11, [0, 1, 5]) [] (.eff (12, []) [13, 14, 15] (.eff (17, []) [18] (.fin))))))) (.eff (16, [0, 1, 5, 7, 10]) [] (.eff (6, [0, 1, 5, 7, 10]) [] (.eff (11, [0, 1, 5]) [] (.eff (12, []) [13, 14, 15] (.eff (17, []) [18] (.fin))))))
@[reducible] def i13_8 : List Ent := [(1, []), (2, []), (3, []), (0, []), (4, []), (5, [0]), (6, []), (7, [])]
@[reducible] def i13_11 : List Ent := [(0, []), (1, []), (2, []), (3, []), (4, []), (5, []), (6, []), (7, []), (8, []), (9, []), (10, []), (11, []), (12, []), (13, []), (14, []), (15, []), (16, []), (17, []), (18, []), (19, []), (20, [])]
@[reducible] def i13_15 : List Ent := [(0, []), (1, []), (2, []), (3, []), (4, []), (5, []), (6, []), (7, []), (8, []), (9, []), (10, []), (11, [])]
theorem und84 : isFn (Try.prog.underlying 84) = true := by kernel_rfl
set_option maxRecDepth 100000 in
set_option maxHeartbeats 16000000 in
theorem folds13 (D : Df) (A : Option Addr) (cap : Nat) (iv : Value) (ins : List Inp) (n0 : Int) (w : World) (hc : D.nodes.length ≤ cap) (hd0 : RDf (Vw w []) (.agg #[.string D.name, .slice A D.nodes.length cap]) D) (hT : Texts D)
    (hi : RSl (Vw w []) iv ins.length (ins.flatMap Inp.c)) (hI : InOK ins) (hG : ∃ m, Vw w [] 0 0 (.int .i64 m)) :
    Ans 13 [.agg #[.string D.name, .slice A D.nodes.length cap], iv, .int .i64 n0] w (.bool true) := by
  obtain ⟨Ai, ci, rfl, hin⟩ := hi.open inp_len
  have hd := cut_rdf hd0
  have hTc := hT.cut
  have hG1 : ∀ w1 : World, (∀ b o v, Vw w [] b o v → Vw w1 [] b o v) → ∃ m, Vw w1 [] 0 0 (.int .i64 m) := fun w1 g => by obtain ⟨m, hm⟩ := hG; exact ⟨m, g _ _ _ hm⟩
  refine enterM Try.func13 rfl Try.ntmps13 rfl ?_
  (repeat first|(with_reducible first|apply Za|apply Zb|apply Zc|apply Zd|apply Zi|apply Zs)|((with_reducible apply Zra);rfl;rfl;(focus (repeat constructor));rfl)|((with_reducible apply Zrf);rfl;rfl;intro _)|((with_reducible apply Zrg);rfl;intro _))
  refine SK.callA rfl rfl (fun w1 g1 _ => cut15 D A cap hc hT.2.1 w1 (hd0.mono g1)) ?_
  unfold cutV at hd ⊢
  generalize cutD D = E at hd hTc ⊢
  have hname : ∀ nm, nm = D.name → RDf (Vw w []) (.agg #[.string nm, .slice A E.nodes.length cap]) E → nm = E.name := by
    intro nm _ h
    obtain ⟨A', cap', he, _⟩ := h.nds
    have := congrArg (fun v => match v with | .agg a => (match a[0]? with | some (Value.string s) => some s | _ => none) | _ => none) he
    simpa using this
  have hnm := hname D.name rfl hd
  rw [hnm] at hd ⊢
  (repeat first|(with_reducible first|apply Za|apply Zb|apply Zc|apply Zd|apply Zi|apply Zs)|((with_reducible apply Zra);rfl;rfl;(focus (repeat constructor));rfl)|((with_reducible apply Zrc);rfl;rfl;rfl;exact List.cons_ne_nil _ _;(first|rfl|(repeat first|exact plain_nil|(refine plain_cons (by first|rfl|exact OwnD.plain_val _ _) ?_)));(focus (repeat constructor));rfl))
  refine SK.callO rfl rfl (fun w1 g1 _ => taken16 _ E w1 (hd.mono g1) hTc) ?_
  rintro bb htk
  cases bb with
  | false =>
    (repeat first|(with_reducible first|apply Za|apply Zb|apply Zc|apply Zd|apply Zi|apply Zs)|((with_reducible apply ZP);rfl;rfl)|((with_reducible apply ZC);rfl))
    refine SK.callA rfl rfl (fun w1 g1 _ => wakes17 w1 (hG1 w1 g1)) ?_
    (repeat first|(with_reducible first|apply Zc|apply Zd|apply Zi|apply Zk|apply Zp|apply Zs)|((with_reducible apply Zrb);rfl;rfl;(first|rfl|exact OwnD.plain_val _ _);(focus (repeat constructor));rfl))
    exact SK.retM rfl (by (repeat constructor)) (fun w' hm' => ⟨(), trivial, rfl, hm'.wk (by (repeat constructor))⟩)
  | true =>
    have hDO : DefOK E := (htk rfl).ok (fun n hn => (hTc.2.2 n hn).2.2.2)
    have hTr : Tries E := (htk rfl).tries
    have hdn : E.nodes.length ≤ 64 := by have := hDO.le; omega
    (repeat ((fail_if_success (with_reducible refine SK.atS 5 ?_)); first|(with_reducible first|apply Za|apply Zb|apply Zc|apply Zd|apply Zi|apply Zo|apply Zs)|((with_reducible apply ZP);rfl;rfl)|((with_reducible apply Zqr);rfl;rfl;rfl)|((with_reducible apply Zra);rfl;rfl;(focus (repeat constructor));rfl)|((with_reducible apply Zrb);rfl;rfl;(first|rfl|exact OwnD.plain_val _ _);(focus (repeat constructor));rfl)|((with_reducible apply Zrf);rfl;rfl;intro _)|((with_reducible apply Zrg);rfl;intro _)|((with_reducible apply ZD);rfl)))
    rename_i b3 b5 b6 bp b7
    refine SK.seqJ (fun g : Nat × Sta × List Ev × ((OwnD × OwnD) × OwnD) => [(3, .pointer (some ⟨b3, 0, none⟩)), (5, .pointer (some ⟨b5, 0, none⟩)), (6, .pointer (some ⟨b6, 0, none⟩)), (7, .pointer (some ⟨b7, 0, none⟩))])
      (fun g => some (b3, [.string E.name, .slice A E.nodes.length cap], 24) :: some (b5, [.int .i64 n0], 3) :: some (b6, [.bool false], 4) :: some (b7, [.pointer (some ⟨bp, 0, none⟩)], 29) :: plM bp E (.slice A E.nodes.length cap) g.2.1 g.2.2.1 g.2.2.2) (fun g => g.1 ≤ 60 ∧ Good E g.2.1 ∧ OPl g.2.1 g.2.2.1 g.2.2.2 ∧ WS E g.2.1 ∧ g.2.2.1.length ≤ 100000 * g.1 ∧ FI E (g.2.1, g.2.2.1) g.1) ?_ ?_
    · (repeat first|(with_reducible first|apply Za|apply Zb|apply Zc|apply Zd|apply Zi|apply Zr)|((with_reducible apply ZJ);rfl;rfl))
      refine SK.loopW (fun g : Nat × Sta × List Ev × ((OwnD × OwnD) × OwnD) => [(8, .int .i64 (g.1 : Int)), (1, .slice Ai ins.length ci), (3, .pointer (some ⟨b3, 0, none⟩)), (5, .pointer (some ⟨b5, 0, none⟩)), (6, .pointer (some ⟨b6, 0, none⟩)), (7, .pointer (some ⟨b7, 0, none⟩))])
        (fun g => some (b3, [.string E.name, .slice A E.nodes.length cap], 24) :: some (b5, [.int .i64 n0], 3) :: some (b6, [.bool false], 4) :: some (b7, [.pointer (some ⟨bp, 0, none⟩)], 29) :: plM bp E (.slice A E.nodes.length cap) g.2.1 g.2.2.1 g.2.2.2)
        (fun g => g.1 ≤ ins.length ∧ g.1 ≤ 60 ∧ Good E g.2.1 ∧ OPl g.2.1 g.2.2.1 g.2.2.2 ∧ g.2.2.1.length ≤ 100000 * g.1 ∧ WS E g.2.1 ∧ FI E (g.2.1, g.2.2.1) g.1) (fun g => ins.length - g.1) (0, sta0, [], ((none, none), none))
        ⟨Nat.zero_le _, Nat.zero_le _, good0 E, ⟨⟨⟨rfl, rfl⟩, ⟨rfl, rfl⟩⟩, ⟨rfl, rfl⟩⟩, Nat.zero_le _, ws0 E, fi0 E⟩ (by (repeat constructor)) (by (repeat constructor)) ?_
      rintro ⟨i, S, ev, z⟩ ⟨hil, hi60, hgo, hz, hevl, hws, hfi⟩
      dsimp only at hil hi60 hgo hz hevl hws hfi ⊢
      by_cases hlt : i < ins.length
      · by_cases h60 : i < 60
        · obtain ⟨a, ha⟩ : ∃ a, ins[i]? = some a := ⟨_, List.getElem?_eq_getElem hlt⟩
          obtain ⟨bi, oi, rfl, hcell⟩ := hin i a ha (by omega)
          obtain ⟨t1, t2⟩ := hI.2 a (List.mem_of_getElem? ha)
          have hna : (clipI a).name.size ≤ 1000 := by have := clipS_size a.name; show (clipS a.name).size ≤ 1000; omega
          obtain ⟨g3, g4⟩ := playL_good (p := (S, ev)) hDO hgo hna
          have g5 := playL_ws (p := (S, ev)) (a := clipI a) hDO hTr hws
          have g6 := playL_fi (p := (S, ev)) (a := clipI a) hDO hws hfi
          (repeat first|(with_reducible first|apply Za|apply Zb|apply Zc|apply Zd|apply Zi|apply Zo|apply Zr)|((with_reducible refine Yz ?_);first|((with_reducible apply SK.indexAddr); rfl; rfl; rfl; exact hlt)|((with_reducible apply SK.loadAR); rfl; rfl; exact hcell; rfl)|((with_reducible first|apply ZI|apply ZM|apply ZO);rfl;rfl)|((with_reducible apply ZS);rfl;rfl;rfl;omega)|((with_reducible apply Zqo);rfl;rfl;rfl)|((with_reducible apply Zqz);rfl;rfl;(focus (repeat constructor));rfl))|((with_reducible first|apply Zz|apply ZC);rfl)|refine Yi 8 i13_8 (by kernel_rfl) ?_)
          refine SK.callA rfl rfl (fun w1 _ _ => clip19 a w1 t1 t2) ?_
          (repeat first|(with_reducible apply Zs)|((with_reducible apply Zz);rfl)|((with_reducible apply ZE);rfl;infer_instance;rfl;(focus (repeat constructor));rfl;rfl))
          refine SK.call rfl rfl (plM bp E (.slice A E.nodes.length cap) S ev z) [some (b3, [.string E.name, .slice A E.nodes.length cap], 24), some (b5, [.int .i64 n0], 3), some (b6, [.bool false], 4), some (b7, [.pointer (some ⟨bp, 0, none⟩)], 29)] (by (repeat constructor)) _ _ _ (fun w1 g0 g1 _ => input18 E (.slice A E.nodes.length cap) S ev z (clipI a) bp w1 hDO hgo hna (by omega) hz (hd.mono g1) (by obtain ⟨m, hm⟩ := hG; exact ⟨m, g1 _ _ _ hm⟩) g0) (fun z' hz' => ?_)
          (repeat first|(with_reducible first|apply Zb|apply Zc|apply Zd|apply Ze|apply Zi|apply Zl|apply Zo|apply Zs)|((with_reducible first|apply ZI|apply ZJ);rfl;rfl)|((with_reducible apply ZP);rfl;rfl)|((with_reducible apply ZR);rfl;rfl;rfl;omega)|((with_reducible apply Zz);rfl)|((with_reducible apply ZD);rfl))
          exact SK.roundW (i + 1, (playL E (S, ev) (clipI a)).1, (playL E (S, ev) (clipI a)).2, z') ⟨by omega, by omega, g3, hz', by dsimp only at g4 ⊢; omega, g5, g6⟩ (by dsimp only; omega) (by (repeat constructor)) (by (repeat constructor))
        · (repeat first|(with_reducible first|apply Za|apply Zb|apply Zc|apply Zd|apply Zi|apply Zj|apply Zn|apply Zq)|((with_reducible first|apply ZI|apply ZM|apply ZO);rfl;rfl)|((with_reducible apply ZS);rfl;rfl;rfl;omega)|((with_reducible apply ZY);rfl;rfl;rfl;omega)|((with_reducible apply Zqo);rfl;rfl;rfl)|((with_reducible apply ZD);rfl))
          exact SK.jumped (i, S, ev, z) ⟨hi60, hgo, hz, hws, hevl, hfi⟩ (by (repeat constructor)) (by (repeat constructor))
      · (repeat first|(with_reducible first|apply Za|apply Zb|apply Zc|apply Zd|apply Zi|apply Zj|apply Zn|apply Zq)|((with_reducible first|apply ZI|apply ZM);rfl;rfl)|((with_reducible apply ZY);rfl;rfl;rfl;omega)|((with_reducible apply Zqs);rfl;rfl;rfl)|((with_reducible apply Zqx);rfl;rfl;rfl;rfl)|((with_reducible apply ZD);rfl))
        exact SK.jumped (i, S, ev, z) ⟨hi60, hgo, hz, hws, hevl, hfi⟩ (by (repeat constructor)) (by (repeat constructor))
    rintro ⟨k, S, ev, ⟨⟨zN, zS⟩, zL⟩⟩ ⟨hk60, hgo, hz, hws, hevl, hfi⟩
    dsimp only at hk60 hgo hz hws hevl hfi ⊢
    obtain ⟨⟨hzN, hzS⟩, hzL⟩ := id hz
    dsimp only at hzN hzS hzL
    have hkp : keep13 ev ≤ 900 := by have := hfi.k; dsimp only at this; omega
    have hln : ev.length < 9223372036854775807 := by omega
    have hfo : foldE E { sta0 with id := S.id } ev = some S := hfi.fo
    have hSe : S.events = (ev.length : Int) := by have := foldE_events hfo (by show (0 : Int) ≤ 0; omega) (by show (0 : Int) + _ < _; omega); rw [this]; show (0 : Int) + _ = _; omega
    obtain ⟨fa1, fa2⟩ := foldA_some hfo
    have hf1 := fun dv lv w1 hd' hl' => fold30 dv lv E S.id ev w1 hdn hkp hln hd' hl'
    rw [fa1, fa2] at hf1
    refine SK.seqJ (fun g : Nat × OwnD × OwnD => [(9, .pointer (some ⟨g.1, 0, none⟩)), (10, .int .i64 0), (3, .pointer (some ⟨b3, 0, none⟩)), (5, .pointer (some ⟨b5, 0, none⟩)), (6, .pointer (some ⟨b6, 0, none⟩)), (7, .pointer (some ⟨b7, 0, none⟩))]) (fun g => some (g.1, S.c (g.2.1.val S.nodes.length) (g.2.2.val S.sigs.length), 33) :: (stM S g.2 ++ (some (b3, [.string E.name, .slice A E.nodes.length cap], 24) :: some (b5, [.int .i64 n0], 3) :: some (b6, [.bool false], 4) :: some (b7, [.pointer (some ⟨bp, 0, none⟩)], 29) :: plM bp E (.slice A E.nodes.length cap) S ev ((zN, zS), zL)))) (fun g => OSt S g.2) ?_ ?_
    · (repeat first|(with_reducible apply Zf)|((with_reducible first|apply ZK|apply ZN);rfl;rfl)|((with_reducible apply Zqm);rfl;rfl;rfl)|((with_reducible first|apply Zqz|apply Zra);rfl;rfl;(focus (repeat constructor));rfl)|((with_reducible apply ZA);rfl)|refine Yd 10 o13_10 t13_10 (by kernel_rfl) ?_)
      refine SK.orC ?_ ?_
      · (repeat first|(with_reducible first|apply Zf|apply Zh|apply Zs)|((with_reducible apply Zre);rfl;rfl;intro _)|((with_reducible apply Zz);rfl)|((with_reducible apply ZE);rfl;infer_instance;rfl;(focus (repeat constructor));rfl;rfl)|((with_reducible apply ZF);rfl;infer_instance;rfl;(focus (repeat constructor));rfl;rfl))
        rename_i bs
        refine SK.orC ?_ ?_
        · (repeat first|(with_reducible apply Zh)|((with_reducible apply Zz);rfl))
          refine SK.appendC (oL := zL) (news := ev.flatMap Ev.c) rfl rfl rfl hzL (by (repeat constructor)) (by (repeat constructor)) (ev_plain _) rfl rfl (by unfold maxLen; omega) (by omega) (fun oC hoC => ?_)
          (repeat first|(with_reducible first|apply Zf|apply Zs)|((with_reducible apply ZE);rfl;infer_instance;rfl;(focus (repeat constructor));rfl;rfl)|((with_reducible apply ZF);rfl;infer_instance;rfl;(focus (repeat constructor));rfl;rfl))
          refine SK.orC ?_ ?_
          · (repeat first|(with_reducible apply Zh)|((with_reducible apply Zz);rfl))
            refine SK.callO rfl rfl (fun w1 g1 g2 => hf1 _ _ w1 (hd.mono g1) (RSl.own oC hoC (fun b cs hb j u hu => g2 b cs _ (by rw [← hb]; (repeat constructor)) j u hu))) ?_; rintro ⟨oN, oS⟩ ⟨hoN, hoS⟩; dsimp only at hoN hoS ⊢
            (repeat first|(with_reducible first|apply Zf|apply Zg|apply Zh|apply Zi|apply Zs)|((with_reducible first|apply ZI|apply ZJ);rfl;rfl)|((with_reducible apply Zqn);rfl;rfl;rfl)|((with_reducible apply Zrc);rfl;rfl;rfl;exact List.cons_ne_nil _ _;(first|rfl|(repeat first|exact plain_nil|(refine plain_cons (by first|rfl|exact OwnD.plain_val _ _) ?_)));(focus (repeat constructor));rfl)|((with_reducible apply Zrg);rfl;intro _)|((with_reducible first|apply Zz|apply ZA);rfl)|((with_reducible apply ZE);rfl;infer_instance;rfl;(focus (repeat constructor));rfl;rfl)|((with_reducible apply ZF);rfl;infer_instance;rfl;(focus (repeat constructor));rfl;rfl))
            rename_i b9
            exact SK.jumped (b9, oN, oS) ⟨hoN, hoS⟩ (by (repeat constructor)) (by (repeat constructor))
          · (repeat first|(with_reducible first|apply Zf|apply Zh|apply Zs)|((with_reducible apply Zrg);rfl;intro _)|((with_reducible apply Zz);rfl)|((with_reducible apply ZE);rfl;infer_instance;rfl;(focus (repeat constructor));rfl;rfl)|((with_reducible apply ZF);rfl;infer_instance;rfl;(focus (repeat constructor));rfl;rfl))
            rename_i b9
            refine SK.callO rfl rfl (fun w1 g1 g2 => hf1 _ _ w1 (hd.mono g1) (RSl.own oC hoC (fun b cs hb j u hu => g2 b cs _ (by rw [← hb]; (repeat constructor)) j u hu))) ?_; rintro ⟨oN, oS⟩ ⟨hoN, hoS⟩; dsimp only at hoN hoS ⊢
            (repeat first|(with_reducible first|apply Zf|apply Zg|apply Zh|apply Zi|apply Zs)|((with_reducible first|apply ZI|apply ZJ);rfl;rfl)|((with_reducible apply Zqn);rfl;rfl;rfl)|((with_reducible apply Zrc);rfl;rfl;rfl;exact List.cons_ne_nil _ _;(first|rfl|(repeat first|exact plain_nil|(refine plain_cons (by first|rfl|exact OwnD.plain_val _ _) ?_)));(focus (repeat constructor));rfl)|((with_reducible first|apply Zz|apply ZA);rfl))
            exact SK.jumped (b9, oN, oS) ⟨hoN, hoS⟩ (by (repeat constructor)) (by (repeat constructor))
        · (repeat first|(with_reducible first|apply Zf|apply Zh|apply Zs)|((with_reducible apply Zrg);rfl;intro _)|((with_reducible apply Zz);rfl)|((with_reducible apply ZE);rfl;infer_instance;rfl;(focus (repeat constructor));rfl;rfl)|((with_reducible apply ZF);rfl;infer_instance;rfl;(focus (repeat constructor));rfl;rfl))
          rename_i b9
          refine SK.appendC (oL := zL) (news := ev.flatMap Ev.c) rfl rfl rfl hzL (by (repeat constructor)) (by (repeat constructor)) (ev_plain _) rfl rfl (by unfold maxLen; omega) (by omega) (fun oC hoC => ?_)
          (repeat first|(with_reducible first|apply Zf|apply Zh|apply Zs)|((with_reducible apply Zz);rfl)|((with_reducible apply ZE);rfl;infer_instance;rfl;(focus (repeat constructor));rfl;rfl)|((with_reducible apply ZF);rfl;infer_instance;rfl;(focus (repeat constructor));rfl;rfl))
          refine SK.callO rfl rfl (fun w1 g1 g2 => hf1 _ _ w1 (hd.mono g1) (RSl.own oC hoC (fun b cs hb j u hu => g2 b cs _ (by rw [← hb]; (repeat constructor)) j u hu))) ?_; rintro ⟨oN, oS⟩ ⟨hoN, hoS⟩; dsimp only at hoN hoS ⊢
          (repeat first|(with_reducible first|apply Zf|apply Zg|apply Zh|apply Zi|apply Zs)|((with_reducible first|apply ZI|apply ZJ);rfl;rfl)|((with_reducible apply Zqn);rfl;rfl;rfl)|((with_reducible apply Zrc);rfl;rfl;rfl;exact List.cons_ne_nil _ _;(first|rfl|(repeat first|exact plain_nil|(refine plain_cons (by first|rfl|exact OwnD.plain_val _ _) ?_)));(focus (repeat constructor));rfl)|((with_reducible first|apply Zz|apply ZA);rfl))
          exact SK.jumped (b9, oN, oS) ⟨hoN, hoS⟩ (by (repeat constructor)) (by (repeat constructor))
      · (repeat first|(with_reducible first|apply Zf|apply Zh|apply Zs)|((with_reducible apply Zre);rfl;rfl;intro _)|((with_reducible apply Zrg);rfl;intro _)|((with_reducible apply Zz);rfl)|((with_reducible apply ZE);rfl;infer_instance;rfl;(focus (repeat constructor));rfl;rfl)|((with_reducible apply ZF);rfl;infer_instance;rfl;(focus (repeat constructor));rfl;rfl))
        rename_i b9 bs
        refine SK.appendC (oL := zL) (news := ev.flatMap Ev.c) rfl rfl rfl hzL (by (repeat constructor)) (by (repeat constructor)) (ev_plain _) rfl rfl (by unfold maxLen; omega) (by omega) (fun oC hoC => ?_)
        (repeat first|(with_reducible first|apply Zf|apply Zh|apply Zs)|((with_reducible apply Zz);rfl)|((with_reducible apply ZE);rfl;infer_instance;rfl;(focus (repeat constructor));rfl;rfl)|((with_reducible apply ZF);rfl;infer_instance;rfl;(focus (repeat constructor));rfl;rfl))
        refine SK.callO rfl rfl (fun w1 g1 g2 => hf1 _ _ w1 (hd.mono g1) (RSl.own oC hoC (fun b cs hb j u hu => g2 b cs _ (by rw [← hb]; (repeat constructor)) j u hu))) ?_; rintro ⟨oN, oS⟩ ⟨hoN, hoS⟩; dsimp only at hoN hoS ⊢
        (repeat first|(with_reducible first|apply Zf|apply Zg|apply Zh|apply Zi|apply Zs)|((with_reducible first|apply ZI|apply ZJ);rfl;rfl)|((with_reducible apply Zqn);rfl;rfl;rfl)|((with_reducible apply Zrc);rfl;rfl;rfl;exact List.cons_ne_nil _ _;(first|rfl|(repeat first|exact plain_nil|(refine plain_cons (by first|rfl|exact OwnD.plain_val _ _) ?_)));(focus (repeat constructor));rfl)|((with_reducible first|apply Zz|apply ZA);rfl))
        exact SK.jumped (b9, oN, oS) ⟨hoN, hoS⟩ (by (repeat constructor)) (by (repeat constructor))
    rintro ⟨b9, oN, oS⟩ ⟨hoN, hoS⟩
    dsimp only at hoN hoS ⊢
    have hsm : Small S := ⟨hgo.sn, by have := hws.sg; omega⟩
    (repeat first|(with_reducible apply Za)|((with_reducible first|apply ZI|apply ZK|apply ZN|apply ZO);rfl;rfl)|((with_reducible apply Zqd);rfl;rfl;rfl;omega)|((with_reducible first|apply Zqz|apply Zra);rfl;rfl;(focus (repeat constructor));rfl)|((with_reducible apply Zz);rfl)|refine Yi 11 i13_11 (by kernel_rfl) ?_)
    refine SK.callA rfl rfl (fun w1 _ g2 => state24 (stV S (oN, oS)) (stV S (zN, zS)) S w1 (RSt.own hoN hoS (fun b cs hb j u hu => g2 b cs _ (by rw [← hb]; (repeat constructor)) j u hu) (fun b cs hb j u hu => g2 b cs _ (by rw [← hb]; (repeat constructor)) j u hu)) (RSt.own hzN hzS (fun b cs hb j u hu => g2 b cs _ (by rw [← hb]; (repeat constructor)) j u hu) (fun b cs hb j u hu => g2 b cs _ (by rw [← hb]; (repeat constructor)) j u hu)) (by have := hsm.1; omega) (by have := hsm.2; omega)) ?_
    (repeat first|(with_reducible first|apply Za|apply Zb|apply Zc|apply Zd|apply Ze|apply Zi|apply Zo|apply Zs)|((with_reducible refine Yz ?_);first|((with_reducible apply SK.lenO); rfl; rfl; exact hzL)|((with_reducible first|apply ZI|apply ZK|apply ZN|apply ZO);rfl;rfl)|((with_reducible apply ZP);rfl;rfl)|((with_reducible apply Zqd);rfl;rfl;rfl;omega)|((with_reducible first|apply Zqm|apply Zqr);rfl;rfl;rfl)|((with_reducible apply Zqs);rfl;rfl;rfl)|((with_reducible first|apply Zqz|apply Zra);rfl;rfl;(focus (repeat constructor));rfl)|((with_reducible apply Zrb);rfl;rfl;(first|rfl|exact OwnD.plain_val _ _);(focus (repeat constructor));rfl)|((with_reducible apply Zrc);rfl;rfl;rfl;exact List.cons_ne_nil _ _;(first|rfl|(repeat first|exact plain_nil|(refine plain_cons (by first|rfl|exact OwnD.plain_val _ _) ?_)));(focus (repeat constructor));rfl)|((with_reducible apply Zrg);rfl;intro _))|((with_reducible apply Zz);rfl)|((with_reducible apply ZD);rfl)|refine Yi 15 i13_15 (by kernel_rfl) ?_)
    rename_i b11 b12
    refine SK.callO rfl rfl (fun w1 g1 g2 => states32 _ _ S.id _ ev w1 (RSl.own zL hzL (fun b cs hb j u hu => g2 b cs _ (by rw [← hb]; (repeat constructor)) j u hu)) (by omega)) ?_
    rintro ⟨⟨bF, bE, bd⟩, oE⟩ hoE
    dsimp only at hoE ⊢
    (repeat first|(with_reducible first|apply Za|apply Zb|apply Zc|apply Zd|apply Ze|apply Zi|apply Zo|apply Zr|apply Zs)|((with_reducible refine Yz ?_);first|((with_reducible apply SK.eqFn); exact und84; rfl; rfl; rfl)|((with_reducible first|apply ZI|apply ZJ);rfl;rfl))|((with_reducible apply Zz);rfl)|((with_reducible apply ZD);rfl))
    obtain ⟨St, hS0, hSn, hWay⟩ := ways hdn hfo
    refine SK.rangeF rfl (MB13 b11 b12 b6 (St 0) 0 (none, none)) [some (b3, [.string E.name, .slice A E.nodes.length cap], 24), some (b5, [.int .i64 n0], 3), some (b7, [.pointer (some ⟨bp, 0, none⟩)], 29), some (bp, plC E (.slice A E.nodes.length cap) S (zN, zS) ev zL, 36),
        zL.ent (ev.flatMap Ev.c) 70, some (bF, [.string S.id], 9), some (bE, [oE.val ev.length], 34), some (bd, [.string E.name, .slice A E.nodes.length cap], 24), oE.ent (ev.flatMap Ev.c) 70] [some (b6, [.bool true], 4)] (by rw [hS0]; (repeat constructor))
      (fun y => OSt (St ev.length) y) (fun y => MB13 b11 b12 b6 (St ev.length) ev.length y) ?_ ?_ ?_
    · intro w1 l rec a hmB hl hlk hst hpe hps htm hf has hbd vw vr
      have v3 := fun (j : Nat) (v : Value) (h : [Value.string E.name, .slice A E.nodes.length cap][j]? = some v) => vr b3 _ _ (by (repeat constructor)) (0 + j) v (by rw [Nat.zero_add, nv_eq]; exact h)
      have vd := fun (j : Nat) (v : Value) (h : [Value.string E.name, .slice A E.nodes.length cap][j]? = some v) => vr bd _ _ (by (repeat constructor)) (0 + j) v (by rw [Nat.zero_add, nv_eq]; exact h)
      have vF := vr bF _ _ (by (repeat constructor)) 0 (.string S.id) rfl
      have vE := vr bE _ _ (by (repeat constructor)) 0 (oE.val ev.length) rfl
      have v7 := vr b7 _ _ (by (repeat constructor)) 0 (.pointer (some ⟨bp, 0, none⟩)) rfl
      have v5 := vr b5 _ _ (by (repeat constructor)) 0 (.int .i64 n0) rfl
      have vp := vr bp _ _ (by (repeat constructor)) 11 (zL.val ev.length) rfl
      have hlE := RSl.own oE hoE (fun b cs hb j u hu => vr b cs _ (by rw [← hb]; (repeat constructor)) j u hu)
      have hlz := RSl.own zL hzL (fun b cs hb j u hu => vr b cs _ (by rw [← hb]; (repeat constructor)) j u hu)
      obtain ⟨Az, cz, hze, _⟩ := id hlz
      rw [hze] at hlz vp
      have hd1 := hd.mono vw
      obtain ⟨mg, hmg⟩ := hG
      rw [show (#[Value.func (.yield l) #[] #[]] ++ #[Value.pointer (some ⟨bF, 0, none⟩), Value.pointer (some ⟨bE, 0, none⟩), Value.pointer (some ⟨bd, 0, none⟩)] : Array Value) = [Value.func (.yield l) #[] #[], Value.pointer (some ⟨bF, 0, none⟩), Value.pointer (some ⟨bE, 0, none⟩), Value.pointer (some ⟨bd, 0, none⟩)].toArray from by simp]
      refine states48 E (.slice A E.nodes.length cap) S.id ev (oE.val ev.length) St hWay hkp hdn hln (fun i y => MB13 b11 b12 b6 (St i) i y) l rec _ _ w1 (none, none) hmB (by rw [hS0]; exact ⟨⟨rfl, rfl⟩, ⟨rfl, rfl⟩⟩) hl hlk bF bE bd vF vE hlE vd hd1 ?_
      intro i y w2 cv hi hy hm2 hl2 hlk2 vv hcv
      obtain ⟨e, he⟩ : ∃ e, ev[i]? = some e := ⟨_, List.getElem?_eq_getElem hi⟩
      have hw1 := hWay i (by omega)
      have hw2 := hWay (i + 1) (by omega)
      exact round13 E (.slice A E.nodes.length cap) ev Az cz (St i) (St (i + 1)) i e he (way_step hw1 hw2 he) (hw1.small hkp) (hw2.small hkp) hdn hln y hy w2 cv l rec b3 b5 b6 b7 b11 b12 bp n0 a hm2 hl2 hlk2 hps htm (hf.sub (by (repeat constructor))) hst hpe (by rw [has, hbd]; rfl)
        (fun j v h => vv _ _ _ (v3 j v h)) (hd1.mono vv) (vv _ _ _ v7) (vv _ _ _ vp) (hlz.mono vv) (vv _ _ _ v5) ⟨mg, vv _ _ _ (vw _ _ _ hmg)⟩ hcv
    · intro y hy w4 D hm4 hD hlo
      obtain ⟨yN, yS⟩ := y
      obtain ⟨mg, hmg⟩ := hG
      have hmg4 := hm4.vw1 hmg
      show SK w4 _ _ (fun a w => (Code.seq _ _).wp Try.prog _ (wd _ a) w) _ _
      refine SK.seqD ?_
      refine SK.regionId [(0, []), (1, []), (2, []), (3, []), (4, []), (5, []), (6, []), (7, []), (8, []), (9, []), (10, [])] mixed (by kernel_rfl) ?_
      (repeat first|((with_reducible apply Zz);rfl)|((with_reducible refine Yz ?_);first|((with_reducible apply SK.lenO); rfl; rfl; exact hzL)|((with_reducible first|apply ZI|apply ZK|apply ZN|apply ZO);rfl;rfl)|((with_reducible apply ZW);rfl;rfl;rfl;omega)|((with_reducible apply Zqz);rfl;rfl;(focus (repeat constructor));rfl)))
      refine SK.callA rfl rfl (fun w1 g1 _ => wakes17 w1 ⟨mg, g1 _ _ _ hmg4⟩) ?_
      (repeat first|(with_reducible first|apply Ze|apply Zs)|((with_reducible apply Zqo);rfl;rfl;rfl)|((with_reducible apply Zrb);rfl;rfl;(first|rfl|exact OwnD.plain_val _ _);(focus (repeat constructor));rfl)|((with_reducible apply Zz);rfl))
      exact fun a w5 hf hm => wp_ret (leavesD rfl (by (repeat constructor)) hf (hm4.called1 hm) (by rw [hm.old D (Array.getElem?_eq_some_iff.1 hD).1 (keys_self hm4 hD rfl), hD]) hlo (fun w' hm' => ⟨(), trivial, rfl, hm'.wk (by (repeat constructor))⟩))
    · intro w4 D a hf hm hD hlo
      exact leavesD rfl (by (repeat constructor)) hf hm hD hlo (fun w' hm' => ⟨(), trivial, rfl, hm'.wk (by (repeat constructor))⟩)
open Go.ChangeShapes Go.WideShapes Go.ChangeAt Go.RowKit
set_option maxRecDepth 100000 in
set_option maxHeartbeats 4000000 in
theorem historyFolds_lifted (os : Os) (started : os.Started) (H : Type) (enc : TypeId × Value → H) :
    ReturnsInHanded {} Try.checked os 13 .any (Rows.historyFoldsSpec.pre6 enc Try.prog Try.f13 Rows.historyFoldsRow.domain false) (Rows.historyFoldsSpec.post enc Try.prog Try.f13 false true false false) := by
  refine returnsInHanded_of_change_shaped (C := Try.checked) Try.own started (by kernel_rfl) Try.func13
    (ChangeSpec.witness6 (enc := enc) (C := Try.checked) false ⟨#[], #[.agg #[.string ⟨#[]⟩, .slice none 0 0], .slice none 0 0, .int .i64 0], []⟩ 8 (by kernel_rfl) (by kernel_rfl) (by kernel_rfl) (by kernel_rfl)) ?_
  intro W base args ds gs before hval0 hW hcnd0 hsz0 hsh _
  have hsz : (DataW.weightsEach Try.prog (Try.f13.params.toList ++ Rows.historyFoldsSpec.plain.varTypes Try.prog) (ds ++ gs)).all (· ≤ reachBytes) = true := hsz0
  have hval : ∀ (j : Nat) t v, Try.f13.params[j]? = some t → args[j]? = some v → Value.okWide Try.prog W .any base t v := hval0
  have hW' := hW
  obtain ⟨p, q, hA0, hV, rfl, hfz, hnd⟩ := hW
  have hA : DataW.TrodAll enc Try.prog W 0 (fun _ => true) true Try.f13.params.toList args.toList ds p := hA0
  rw [Try.params13] at hA hval hsz
  obtain ⟨v0, v1, v2, d0, d1, d2, p0, p1, p2, rfl, rfl, rfl, h0, h1, h2⟩ := trodAll_three hA
  obtain ⟨rfl, rfl⟩ := trodVars_none hV
  have hlt := hW'.lt
  have hw0 : ∀ n ∈ d0.weights Try.prog 24, n ≤ reachBytes := fun n hn => by
    have := List.all_eq_true.1 hsz n (DataW.weights_mem_each (j := 0) rfl rfl n hn)
    simpa using this
  have hw1 : ∀ n ∈ d1.weights Try.prog 25, n ≤ reachBytes := fun n hn => by
    have := List.all_eq_true.1 hsz n (DataW.weights_mem_each (j := 1) rfl rfl n hn)
    simpa using this
  have hR : reachBytes < 9223372036854775807 := by decide
  obtain ⟨f0, t0⟩ := id h0
  have ok0 := hval 0 24 v0 rfl rfl
  unfold Value.okWide at ok0
  rw [Try.underlying24] at ok0
  obtain ⟨cs0, rfl, _, _⟩ := ok0
  obtain ⟨D, A, cap, e0, hcap, hrd, hT⟩ := open24 t0 hw0 hR
  have e0' : cs0 = #[.string D.name, .slice A D.nodes.length cap] := Array.ext' e0
  subst e0'
  obtain ⟨f1, t1⟩ := id h1
  obtain ⟨a1, len1, cap1, rfl⟩ := okWide_slice Try.underlying25 (hval 1 25 v1 rfl rfl)
  obtain ⟨c1, l1, e1, hrl1, hI1⟩ := open25 t1 hw1 hR
  have e1' : c1 = .slice a1 len1 cap1 := by
    have : ([Value.slice a1 len1 cap1] : List Value) = [c1] := e1
    exact (List.cons.inj this).1.symm
  subst e1'
  obtain ⟨f2, t2⟩ := id h2
  obtain ⟨m2, rfl⟩ := okWide_int Try.underlying3 (hval 2 3 v2 rfl rfl)
  obtain ⟨m, hm⟩ := Try.laysM144.s1_3 W hsh
  have hrun := folds13 D A cap _ l1 m2 W hcap (hrd.mono fun b o v h => Cw.vw h) hT (hrl1.mono fun b o v h => Cw.vw h) hI1  ⟨m, Cw.vw hm⟩
  refine Calls.mono hrun fun e W' ⟨_, _, he, hmem⟩ => ?_
  have hb := Mem.below hmem
  subst he
  have r0 := Below.trod Try.laidOut (ty_ok 24 (by kernel_rfl) (by kernel_rfl)).1 (ty_ok 24 (by kernel_rfl) (by kernel_rfl)).2 h0 hb (fun x hx => hlt x (by simp [hx]))
  have r1 := Below.trod Try.laidOut (ty_ok 25 (by kernel_rfl) (by kernel_rfl)).1 (ty_ok 25 (by kernel_rfl) (by kernel_rfl)).2 h1 hb (fun x hx => hlt x (by simp [hx]))
  have r2 := Below.trod Try.laidOut (ty_ok 3 (by kernel_rfl) (by kernel_rfl)).1 (ty_ok 3 (by kernel_rfl) (by kernel_rfl)).2 h2 hb (fun x hx => hlt x (by simp [hx]))
  exact ⟨_, rfl, ⟨_, _, _, [], _, [], hW', trodAll_mk1 (shut_bool Try.underlying4 _), trodAll_mk3 r0 r1 r2, rfl, hb.frame _, fun h => by cases h⟩⟩
theorem HistoryFolds_holds : Rows.HistoryFoldsSaid :=
  OpenClaim.holds_of_wide 13 Try.f13 rfl rfl rfl rfl rfl rfl rfl ⟨rfl, rfl, rfl, rfl, rfl⟩ rfl rfl rfl rfl rfl (by kernel_rfl) Try.func13 (by kernel_rfl)
    (of_decide_eq_true (by kernel_rfl)) (by unfold Func.isWrapper; rw [if_neg (of_decide_eq_false (by kernel_rfl))]; exact ⟨rfl, rfl⟩)
    (fun os started H enc _ => historyFolds_lifted os started H enc)
#print axioms HistoryFolds_holds
end Go.Proofs.Ytdnjfmgldkommaa
