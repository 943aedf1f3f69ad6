/- Proved here: events are folded. -/
import Derived.Test.YtdnjfmgldkommaaQb
import Derived.Test.YtdnjfmgldkommaaLa
import Derived.Test.YtdnjfmgldkommaaWd
namespace Go.Proofs.Ytdnjfmgldkommaa
open Go.Sx
@[reducible] def o31_5 : List Nat := [2, 3, 4, 0, 1, 5]
@[reducible] def t31_5 : Ch := .or (.eff (6, []) [7, 8, 9] (.eff (10, [0, 1, 5]) [] (.eff (11, []) [12] (.fin)))) (.eff (10, [0, 1, 5]) [] (.eff (6, []) [7, 8, 9] (.eff (11, []) [12] (.fin))))
def keep13 (l : List Ev) : Nat := l.countP fun e => decide (e.kind = 13)
theorem keep13_succ {l : List Ev} {i : Nat} {e : Ev} (h : l[i]? = some e) : keep13 (l.take (i + 1)) = keep13 (l.take i) + (if e.kind = 13 then 1 else 0) := by
  unfold keep13
  rw [List.take_add_one, h, List.countP_append, Option.toList_some, List.countP_singleton]
  simp
theorem keep13_take (l : List Ev) (i : Nat) : keep13 (l.take i) ≤ keep13 l := by
  unfold keep13
  exact List.Sublist.countP_le (List.take_sublist i l)
structure Way (D : Df) (id : ByteArray) (l : List Ev) (i : Nat) (S : Sta) : Prop where
  fo : foldE D { sta0 with id := id } (l.take i) = some S
  sn : S.nodes.length ≤ 64
  sg : S.sigs.length ≤ keep13 (l.take i)
  tx : TextOK S
theorem Way.start (D : Df) (id : ByteArray) (l : List Ev) : Way D id l 0 { sta0 with id := id } := ⟨rfl, Nat.zero_le _, Nat.zero_le _, fun x hx => by cases hx⟩
theorem Way.small {D : Df} {id : ByteArray} {l : List Ev} {i : Nat} {S : Sta} (h : Way D id l i S) (hk : keep13 l ≤ 900) : Small S := ⟨h.sn, by have := h.sg; have := keep13_take l i; omega⟩
theorem Way.next {D : Df} {id : ByteArray} {l : List Ev} {i : Nat} {S T : Sta} {e : Ev} (h : Way D id l i S) (hD : D.nodes.length ≤ 64) (he : l[i]? = some e) (ha : applyL D S e = some T) : Way D id l (i + 1) T := by
  obtain ⟨h1, h2, h3, h4, h5⟩ := applyL_keeps ha
  refine ⟨?_, ?_, ?_, h2 h.tx⟩
  · rw [List.take_add_one, he]
    exact foldE_snoc h.fo ha
  · have := h.sn
    rcases h5 with h5 | h5 <;> omega
  · rw [keep13_succ he]
    have := h.sg
    by_cases hk : e.kind = 13
    · rw [if_pos hk]; omega
    · rw [if_neg hk]; have := h3 hk; omega
theorem Way.none {D : Df} {id : ByteArray} {l : List Ev} {i : Nat} {S : Sta} {e : Ev} (h : Way D id l i S) (he : l[i]? = some e) (ha : applyL D S e = none) : foldE D { sta0 with id := id } l = none := by
  have hl : l = l.take i ++ e :: l.drop (i + 1) := by
    have hlt := (List.getElem?_eq_some_iff.1 he).1
    have h1 := List.take_append_drop i l
    rw [List.drop_eq_getElem_cons hlt, (List.getElem?_eq_some_iff.1 he).2] at h1
    exact h1.symm
  rw [hl, foldE_append, h.fo]
  simp [foldE, ha]
theorem Way.end {D : Df} {id : ByteArray} {l : List Ev} {S : Sta} (h : Way D id l l.length S) : foldE D { sta0 with id := id } l = some S := by
  have := h.fo
  rwa [List.take_length] at this
def foldA (D : Df) (id : ByteArray) (l : List Ev) : Sta := (foldE D { sta0 with id := id } l).getD sta0
def foldN (D : Df) (id : ByteArray) (l : List Ev) : Int := if (foldE D { sta0 with id := id } l).isSome then 0 else 12
def FoldC (f : FuncId) : Prop := ∀ (dv lv : Value) (D : Df) (id : ByteArray) (l : List Ev) (w : World), D.nodes.length ≤ 64 → keep13 l ≤ 900 → l.length < 9223372036854775807 → RDf (Vw w []) dv D → RSl (Vw w []) lv l.length (l.flatMap Ev.c) →
  Calls Try.prog f [dv, .string id, lv].toArray w (Ret w [] (OSt (foldA D id l)) (fun y => .tuple #[stV (foldA D id l) y, .int .i64 (foldN D id l)]) (stM (foldA D id l)))
theorem foldA_some {D : Df} {id : ByteArray} {l : List Ev} {S : Sta} (h : foldE D { sta0 with id := id } l = some S) : foldA D id l = S ∧ foldN D id l = 0 := by
  unfold foldA foldN; rw [h]; exact ⟨rfl, rfl⟩
theorem foldA_none {D : Df} {id : ByteArray} {l : List Ev} (h : foldE D { sta0 with id := id } l = none) : foldA D id l = sta0 ∧ foldN D id l = 12 := by
  unfold foldA foldN; rw [h]; exact ⟨rfl, rfl⟩
set_option maxRecDepth 100000 in
set_option maxHeartbeats 4000000 in
theorem fold30 : FoldC 30 := by
  intro dv lv D id l w hdn hkp hln hd hl
  obtain ⟨Ad, capd, rfl, hnds⟩ := hd.nds
  obtain ⟨A, cap, rfl, hin⟩ := hl.open ev_len
  refine enter0 Try.func30 rfl Try.ntmps30 rfl ?_
  (repeat first|(with_reducible first|apply Za|apply Zb|apply Zc|apply Zd|apply Zi|apply Zr|apply Zs)|((with_reducible first|apply ZI|apply ZJ|apply ZM);rfl;rfl)|((with_reducible apply Zqr);rfl;rfl;rfl)|((with_reducible apply Zrc);rfl;rfl;rfl;exact List.cons_ne_nil _ _;(first|rfl|(repeat first|exact plain_nil|(refine plain_cons (by first|rfl|exact OwnD.plain_val _ _) ?_)));(focus (repeat constructor));rfl)|((with_reducible apply Zrf);rfl;rfl;intro _)|((with_reducible apply Zrg);rfl;intro _))
  rename_i b3 b6 b8
  refine SK.loopW (fun g : Nat × Sta × (OwnD × OwnD) => [(17, .int .i64 (g.1 : Int)), (16, .int .i64 (l.length : Int)), (15, .slice A l.length cap), (3, .pointer (some ⟨b3, 0, none⟩)), (6, .pointer (some ⟨b6, 0, none⟩)), (8, .pointer (some ⟨b8, 0, none⟩)), (7, .int .i64 0)])
    (fun g => some (b3, [.string D.name, .slice Ad D.nodes.length capd], 24) :: some (b6, Sta.c sta0 (.slice none 0 0) (.slice none 0 0), 33) :: some (b8, g.2.1.c (g.2.2.1.val g.2.1.nodes.length) (g.2.2.2.val g.2.1.sigs.length), 33) :: stM g.2.1 g.2.2)
    (fun g => g.1 ≤ l.length ∧ Way D id l g.1 g.2.1 ∧ OSt g.2.1 g.2.2) (fun g => l.length - g.1) (0, { sta0 with id := id }, (none, none)) ⟨Nat.zero_le _, Way.start D id l, ⟨rfl, rfl⟩, ⟨rfl, rfl⟩⟩ (by (repeat constructor)) (by (repeat constructor)) ?_
  rintro ⟨i, S, ⟨oN, oS⟩⟩ ⟨hi, hw, ⟨hoN, hoS⟩⟩
  dsimp only at hi hw hoN hoS ⊢
  by_cases hlt : i < l.length
  · obtain ⟨e, he⟩ : ∃ e, l[i]? = some e := ⟨_, List.getElem?_eq_getElem hlt⟩
    obtain ⟨bi, oi, rfl, hcell⟩ := hin i e he (by omega)
    have hsm := hw.small hkp
    (repeat first|(with_reducible first|apply Za|apply Zb|apply Zc|apply Zd|apply Zi|apply Zo|apply Zr|apply Zs)|((with_reducible refine Yz ?_);first|((with_reducible apply SK.indexAddr); rfl; rfl; rfl; exact hlt)|((with_reducible apply SK.loadAR); rfl; rfl; exact hcell; rfl)|((with_reducible apply ZS);rfl;rfl;rfl;omega)|((with_reducible apply Zra);rfl;rfl;(focus (repeat constructor));rfl)|((with_reducible apply Zrc);rfl;rfl;rfl;exact List.cons_ne_nil _ _;(first|rfl|(repeat first|exact plain_nil|(refine plain_cons (by first|rfl|exact OwnD.plain_val _ _) ?_)));(focus (repeat constructor));rfl)|((with_reducible apply Zrg);rfl;intro _))|((with_reducible apply ZC);rfl))
    refine SK.callO rfl rfl (fun w1 g1 g2 => apply27 _ (stV S (oN, oS)) D S e hsm hdn w1 (hd.mono g1) (RSt.own hoN hoS (fun b cs hb j u hu => g2 b cs _ (by rw [← hb]; (repeat constructor)) j u hu) (fun b cs hb j u hu => g2 b cs _ (by rw [← hb]; (repeat constructor)) j u hu))) ?_
    rintro ⟨qN, qS⟩ hq
    unfold AppV
    cases ha : applyL D S e with
    | some T =>
      rw [ha] at hq
      obtain ⟨hqN, hqS⟩ := hq
      dsimp only [Option.getD_some] at hqN hqS ⊢
      simp only [Option.isSome_some, if_true]
      (repeat first|(with_reducible first|apply Za|apply Zb|apply Zc|apply Zd|apply Zi|apply Zl|apply Zo|apply Zs)|((with_reducible first|apply ZI|apply ZJ);rfl;rfl)|((with_reducible apply ZR);rfl;rfl;rfl;omega)|((with_reducible apply Zqd);rfl;rfl;rfl;omega)|((with_reducible apply Zqn);rfl;rfl;rfl)|((with_reducible apply Zra);rfl;rfl;(focus (repeat constructor));rfl)|((with_reducible apply Zrc);rfl;rfl;rfl;exact List.cons_ne_nil _ _;(first|rfl|(repeat first|exact plain_nil|(refine plain_cons (by first|rfl|exact OwnD.plain_val _ _) ?_)));(focus (repeat constructor));rfl)|((with_reducible apply Zrg);rfl;intro _)|((with_reducible apply ZD);rfl))
      exact SK.roundW (i + 1, T, (qN, qS)) ⟨by omega, hw.next hdn he ha, ⟨hqN, hqS⟩⟩ (by dsimp only; omega) (by (repeat constructor)) (by (repeat constructor))
    | none =>
      obtain ⟨f1, f2⟩ := foldA_none (hw.none he ha)
      simp only [Option.isSome_none, Bool.false_eq_true, if_false]
      (repeat first|(with_reducible first|apply Za|apply Zb|apply Zc|apply Zd|apply Zi|apply Zk|apply Zm|apply Zp|apply Zs)|((with_reducible first|apply ZI|apply ZJ);rfl;rfl)|((with_reducible apply ZX);rfl;rfl;rfl;omega)|((with_reducible first|apply Zqn|apply Zqr);rfl;rfl;rfl)|((with_reducible apply Zrc);rfl;rfl;rfl;exact List.cons_ne_nil _ _;(first|rfl|(repeat first|exact plain_nil|(refine plain_cons (by first|rfl|exact OwnD.plain_val _ _) ?_)));(focus (repeat constructor));rfl)|((with_reducible apply Zrg);rfl;intro _)|((with_reducible apply ZC);rfl))
      exact SK.retQ rfl (by (repeat constructor)) (fun w' hm' => ⟨(none, none), by rw [f1]; exact ⟨⟨rfl, rfl⟩, ⟨rfl, rfl⟩⟩, by rw [f1, f2]; rfl, by rw [f1]; exact hm'.wk (by (repeat constructor))⟩)
  · have hie : i = l.length := by omega
    subst hie
    obtain ⟨f1, f2⟩ := foldA_some hw.end
    (repeat first|(with_reducible first|apply Za|apply Zb|apply Zc|apply Zd|apply Zi|apply Zj|apply Zn|apply Zp|apply Zq|apply Zs)|((with_reducible apply ZJ);rfl;rfl)|((with_reducible apply ZY);rfl;rfl;rfl;omega)|((with_reducible apply Zra);rfl;rfl;(focus (repeat constructor));rfl)|((with_reducible apply Zrc);rfl;rfl;rfl;exact List.cons_ne_nil _ _;(first|rfl|(repeat first|exact plain_nil|(refine plain_cons (by first|rfl|exact OwnD.plain_val _ _) ?_)));(focus (repeat constructor));rfl)|((with_reducible apply ZD);rfl))
    exact SK.retQ rfl (by (repeat constructor)) (fun w' hm' => ⟨(oN, oS), by rw [f1]; exact ⟨hoN, hoS⟩, by rw [f1, f2]; rfl, by rw [f1]; exact hm'.wk (by (repeat constructor))⟩)
set_option maxRecDepth 100000 in
set_option maxHeartbeats 4000000 in
theorem fold31 : FoldC 31 := by
  intro dv lv D id l w hdn hkp hln hd hl
  obtain ⟨Ad, capd, rfl, hnds⟩ := hd.nds
  obtain ⟨A, cap, rfl, hin⟩ := hl.open ev_len
  refine enter0 Try.func31 rfl Try.ntmps31 rfl ?_
  (repeat first|(with_reducible first|apply Za|apply Zb|apply Zc|apply Zd|apply Zi|apply Zr|apply Zs)|((with_reducible first|apply ZI|apply ZJ);rfl;rfl)|((with_reducible apply Zqr);rfl;rfl;rfl)|((with_reducible apply Zrc);rfl;rfl;rfl;exact List.cons_ne_nil _ _;(first|rfl|(repeat first|exact plain_nil|(refine plain_cons (by first|rfl|exact OwnD.plain_val _ _) ?_)));(focus (repeat constructor));rfl)|((with_reducible apply Zrf);rfl;rfl;intro _)|((with_reducible apply Zrg);rfl;intro _))
  rename_i b3 b6 b8
  refine SK.loopW (fun g : Nat × Sta × (OwnD × OwnD) => [(9, .int .i64 (g.1 : Int)), (2, .slice A l.length cap), (3, .pointer (some ⟨b3, 0, none⟩)), (6, .pointer (some ⟨b6, 0, none⟩)), (8, .pointer (some ⟨b8, 0, none⟩)), (7, .int .i64 0)])
    (fun g => some (b3, [.string D.name, .slice Ad D.nodes.length capd], 24) :: some (b6, Sta.c sta0 (.slice none 0 0) (.slice none 0 0), 33) :: some (b8, g.2.1.c (g.2.2.1.val g.2.1.nodes.length) (g.2.2.2.val g.2.1.sigs.length), 33) :: stM g.2.1 g.2.2)
    (fun g => g.1 ≤ l.length ∧ Way D id l g.1 g.2.1 ∧ OSt g.2.1 g.2.2) (fun g => l.length - g.1) (0, { sta0 with id := id }, (none, none)) ⟨Nat.zero_le _, Way.start D id l, ⟨rfl, rfl⟩, ⟨rfl, rfl⟩⟩ (by (repeat constructor)) (by (repeat constructor)) ?_
  rintro ⟨i, S, ⟨oN, oS⟩⟩ ⟨hi, hw, ⟨hoN, hoS⟩⟩
  dsimp only at hi hw hoN hoS ⊢
  by_cases hlt : i < l.length
  · obtain ⟨e, he⟩ : ∃ e, l[i]? = some e := ⟨_, List.getElem?_eq_getElem hlt⟩
    obtain ⟨bi, oi, rfl, hcell⟩ := hin i e he (by omega)
    have hsm := hw.small hkp
    cases ha : applyL D S e with
    | some T =>
      (repeat ((fail_if_success (with_reducible refine SK.atR 5 ?_)); first|(with_reducible first|apply Za|apply Zb|apply Zc|apply Zd|apply Zi|apply Zo|apply Zr)|((with_reducible first|apply ZI|apply ZM);rfl;rfl)|((with_reducible apply ZS);rfl;rfl;rfl;omega)|((with_reducible apply ZC);rfl)))
      refine SK.seqJ (fun g : Nat × OwnD × OwnD => [(10, .pointer (some ⟨g.1, 0, none⟩)), (11, .int .i64 0), (9, .int .i64 (i : Int)), (2, .slice (some ⟨bi, oi, none⟩) l.length cap), (3, .pointer (some ⟨b3, 0, none⟩)), (6, .pointer (some ⟨b6, 0, none⟩)), (8, .pointer (some ⟨b8, 0, none⟩)), (7, .int .i64 0)]) (fun g => some (g.1, T.c (g.2.1.val T.nodes.length) (g.2.2.val T.sigs.length), 33) :: (stM T g.2 ++ (some (b3, [.string D.name, .slice Ad D.nodes.length capd], 24) :: some (b6, Sta.c sta0 (.slice none 0 0) (.slice none 0 0), 33) :: some (b8, S.c (oN.val S.nodes.length) (oS.val S.sigs.length), 33) :: stM S (oN, oS)))) (fun g => OSt T g.2) ?_ ?_
      · (repeat first|(with_reducible apply Zf)|((with_reducible refine Yz ?_);first|((with_reducible apply SK.indexAddr); rfl; rfl; rfl; exact hlt)|((with_reducible apply SK.loadAR); rfl; rfl; exact hcell; rfl)|((with_reducible apply ZI);rfl;rfl)|((with_reducible apply Zra);rfl;rfl;(focus (repeat constructor));rfl))|((with_reducible apply ZA);rfl)|refine Yd 5 o31_5 t31_5 (by kernel_rfl) ?_)
        refine SK.orC ?_ ?_
        · (repeat first|(with_reducible apply Zh)|((with_reducible apply Zz);rfl))
          refine SK.callO rfl rfl (fun w1 g1 g2 => apply28 _ D S (oN, oS) e hsm hdn ⟨hoN, hoS⟩ hw.tx w1 (hd.mono g1) (RSt.own hoN hoS (fun b cs hb j u hu => g2 b cs _ (by rw [← hb]; (repeat constructor)) j u hu) (fun b cs hb j u hu => g2 b cs _ (by rw [← hb]; (repeat constructor)) j u hu))) ?_
          intro z hz
          cases z with
          | none => exact absurd (show applyL D S e = none from hz) (by rw [ha]; simp)
          | some y1 =>
          obtain ⟨qN, qS⟩ := y1
          obtain ⟨T', ha', hqN, hqS⟩ := hz
          have hTT : T' = T := by rw [ha] at ha'; exact (Option.some.inj ha').symm
          subst hTT
          have hg : (applyL D S e).getD S = T' := by rw [ha]; rfl
          dsimp only [v28, m28] at hqN hqS ⊢
          rw [hg]
          (repeat first|(with_reducible first|apply Zf|apply Zg|apply Zh|apply Zi|apply Zs)|((with_reducible first|apply ZI|apply ZJ);rfl;rfl)|((with_reducible apply Zqn);rfl;rfl;rfl)|((with_reducible apply Zrc);rfl;rfl;rfl;exact List.cons_ne_nil _ _;(first|rfl|(repeat first|exact plain_nil|(refine plain_cons (by first|rfl|exact OwnD.plain_val _ _) ?_)));(focus (repeat constructor));rfl)|((with_reducible apply Zrg);rfl;intro _)|((with_reducible first|apply Zz|apply ZA);rfl)|((with_reducible apply ZF);rfl;infer_instance;rfl;(focus (repeat constructor));rfl;rfl)|((with_reducible apply SK.chkAR); rfl; infer_instance; rfl; exact hcell; rfl; rfl))
          rename_i b10
          exact SK.jumped (b10, qN, qS) ⟨hqN, hqS⟩ (by (repeat constructor)) (by (repeat constructor))
        · (repeat first|(with_reducible first|apply Zf|apply Zh|apply Zs)|((with_reducible apply Zrg);rfl;intro _)|((with_reducible apply Zz);rfl)|((with_reducible apply ZF);rfl;infer_instance;rfl;(focus (repeat constructor));rfl;rfl)|((with_reducible apply SK.chkAR); rfl; infer_instance; rfl; exact hcell; rfl; rfl))
          rename_i b10
          refine SK.callO rfl rfl (fun w1 g1 g2 => apply28 _ D S (oN, oS) e hsm hdn ⟨hoN, hoS⟩ hw.tx w1 (hd.mono g1) (RSt.own hoN hoS (fun b cs hb j u hu => g2 b cs _ (by rw [← hb]; (repeat constructor)) j u hu) (fun b cs hb j u hu => g2 b cs _ (by rw [← hb]; (repeat constructor)) j u hu))) ?_
          intro z hz
          cases z with
          | none => exact absurd (show applyL D S e = none from hz) (by rw [ha]; simp)
          | some y1 =>
          obtain ⟨qN, qS⟩ := y1
          obtain ⟨T', ha', hqN, hqS⟩ := hz
          have hTT : T' = T := by rw [ha] at ha'; exact (Option.some.inj ha').symm
          subst hTT
          have hg : (applyL D S e).getD S = T' := by rw [ha]; rfl
          dsimp only [v28, m28] at hqN hqS ⊢
          rw [hg]
          (repeat first|(with_reducible first|apply Zf|apply Zg|apply Zh|apply Zi|apply Zs)|((with_reducible first|apply ZI|apply ZJ);rfl;rfl)|((with_reducible apply Zqn);rfl;rfl;rfl)|((with_reducible apply Zrc);rfl;rfl;rfl;exact List.cons_ne_nil _ _;(first|rfl|(repeat first|exact plain_nil|(refine plain_cons (by first|rfl|exact OwnD.plain_val _ _) ?_)));(focus (repeat constructor));rfl)|((with_reducible first|apply Zz|apply ZA);rfl))
          exact SK.jumped (b10, qN, qS) ⟨hqN, hqS⟩ (by (repeat constructor)) (by (repeat constructor))
      rintro ⟨b10, qN, qS⟩ ⟨hqN, hqS⟩
      dsimp only at hqN hqS ⊢
      (repeat first|(with_reducible first|apply Za|apply Zb|apply Zc|apply Zd|apply Zi|apply Zl|apply Zo|apply Zs)|((with_reducible first|apply ZI|apply ZJ);rfl;rfl)|((with_reducible apply ZR);rfl;rfl;rfl;omega)|((with_reducible apply Zqd);rfl;rfl;rfl;omega)|((with_reducible apply Zra);rfl;rfl;(focus (repeat constructor));rfl)|((with_reducible apply Zrc);rfl;rfl;rfl;exact List.cons_ne_nil _ _;(first|rfl|(repeat first|exact plain_nil|(refine plain_cons (by first|rfl|exact OwnD.plain_val _ _) ?_)));(focus (repeat constructor));rfl)|((with_reducible apply ZD);rfl))
      exact SK.roundW (i + 1, T, (qN, qS)) ⟨by omega, hw.next hdn he ha, ⟨hqN, hqS⟩⟩ (by dsimp only; omega) (by (repeat constructor)) (by (repeat constructor))
    | none =>
      obtain ⟨f1, f2⟩ := foldA_none (hw.none he ha)
      (repeat ((fail_if_success (with_reducible refine SK.atR 5 ?_)); first|(with_reducible first|apply Za|apply Zb|apply Zc|apply Zd|apply Zi|apply Zo|apply Zr)|((with_reducible first|apply ZI|apply ZM);rfl;rfl)|((with_reducible apply ZS);rfl;rfl;rfl;omega)|((with_reducible apply ZC);rfl)))
      refine SK.seqJ (fun g : Nat => [(10, .pointer (some ⟨g, 0, none⟩)), (11, .int .i64 12), (9, .int .i64 (i : Int)), (2, .slice (some ⟨bi, oi, none⟩) l.length cap), (3, .pointer (some ⟨b3, 0, none⟩)), (6, .pointer (some ⟨b6, 0, none⟩)), (8, .pointer (some ⟨b8, 0, none⟩)), (7, .int .i64 0)]) (fun g => some (g, S.c (oN.val S.nodes.length) (oS.val S.sigs.length), 33) :: (some (b3, [.string D.name, .slice Ad D.nodes.length capd], 24) :: some (b6, Sta.c sta0 (.slice none 0 0) (.slice none 0 0), 33) :: some (b8, S.c (oN.val S.nodes.length) (oS.val S.sigs.length), 33) :: stM S (oN, oS))) (fun _ => True) ?_ ?_
      · (repeat first|(with_reducible apply Zf)|((with_reducible refine Yz ?_);first|((with_reducible apply SK.indexAddr); rfl; rfl; rfl; exact hlt)|((with_reducible apply SK.loadAR); rfl; rfl; exact hcell; rfl)|((with_reducible apply ZI);rfl;rfl)|((with_reducible apply Zra);rfl;rfl;(focus (repeat constructor));rfl))|((with_reducible apply ZA);rfl)|refine Yd 5 o31_5 t31_5 (by kernel_rfl) ?_)
        refine SK.orC ?_ ?_
        · (repeat first|(with_reducible apply Zh)|((with_reducible apply Zz);rfl))
          refine SK.callO rfl rfl (fun w1 g1 g2 => apply28 _ D S (oN, oS) e hsm hdn ⟨hoN, hoS⟩ hw.tx w1 (hd.mono g1) (RSt.own hoN hoS (fun b cs hb j u hu => g2 b cs _ (by rw [← hb]; (repeat constructor)) j u hu) (fun b cs hb j u hu => g2 b cs _ (by rw [← hb]; (repeat constructor)) j u hu))) ?_
          intro z hz
          cases z with
          | some y1 =>
            obtain ⟨T', ha', _, _⟩ := hz
            exact absurd ha' (by rw [ha]; simp)
          | none =>
          dsimp only [v28, m28]
          (repeat first|(with_reducible first|apply Zf|apply Zg|apply Zh|apply Zi|apply Zs)|((with_reducible first|apply ZI|apply ZJ);rfl;rfl)|((with_reducible apply Zqn);rfl;rfl;rfl)|((with_reducible apply Zrc);rfl;rfl;rfl;exact List.cons_ne_nil _ _;(first|rfl|(repeat first|exact plain_nil|(refine plain_cons (by first|rfl|exact OwnD.plain_val _ _) ?_)));(focus (repeat constructor));rfl)|((with_reducible apply Zrg);rfl;intro _)|((with_reducible first|apply Zz|apply ZA);rfl)|((with_reducible apply ZF);rfl;infer_instance;rfl;(focus (repeat constructor));rfl;rfl)|((with_reducible apply SK.chkAR); rfl; infer_instance; rfl; exact hcell; rfl; rfl))
          rename_i b10
          exact SK.jumped b10 trivial (by (repeat constructor)) (by (repeat constructor))
        · (repeat first|(with_reducible first|apply Zf|apply Zh|apply Zs)|((with_reducible apply Zrg);rfl;intro _)|((with_reducible apply Zz);rfl)|((with_reducible apply ZF);rfl;infer_instance;rfl;(focus (repeat constructor));rfl;rfl)|((with_reducible apply SK.chkAR); rfl; infer_instance; rfl; exact hcell; rfl; rfl))
          rename_i b10
          refine SK.callO rfl rfl (fun w1 g1 g2 => apply28 _ D S (oN, oS) e hsm hdn ⟨hoN, hoS⟩ hw.tx w1 (hd.mono g1) (RSt.own hoN hoS (fun b cs hb j u hu => g2 b cs _ (by rw [← hb]; (repeat constructor)) j u hu) (fun b cs hb j u hu => g2 b cs _ (by rw [← hb]; (repeat constructor)) j u hu))) ?_
          intro z hz
          cases z with
          | some y1 =>
            obtain ⟨T', ha', _, _⟩ := hz
            exact absurd ha' (by rw [ha]; simp)
          | none =>
          dsimp only [v28, m28]
          (repeat first|(with_reducible first|apply Zf|apply Zg|apply Zh|apply Zi|apply Zs)|((with_reducible first|apply ZI|apply ZJ);rfl;rfl)|((with_reducible apply Zqn);rfl;rfl;rfl)|((with_reducible apply Zrc);rfl;rfl;rfl;exact List.cons_ne_nil _ _;(first|rfl|(repeat first|exact plain_nil|(refine plain_cons (by first|rfl|exact OwnD.plain_val _ _) ?_)));(focus (repeat constructor));rfl)|((with_reducible first|apply Zz|apply ZA);rfl))
          exact SK.jumped b10 trivial (by (repeat constructor)) (by (repeat constructor))
      rintro b10 _
      (repeat first|(with_reducible first|apply Za|apply Zb|apply Zc|apply Zd|apply Zi|apply Zk|apply Zm|apply Zp|apply Zs)|((with_reducible first|apply ZI|apply ZJ);rfl;rfl)|((with_reducible apply ZX);rfl;rfl;rfl;omega)|((with_reducible apply Zqr);rfl;rfl;rfl)|((with_reducible apply Zrc);rfl;rfl;rfl;exact List.cons_ne_nil _ _;(first|rfl|(repeat first|exact plain_nil|(refine plain_cons (by first|rfl|exact OwnD.plain_val _ _) ?_)));(focus (repeat constructor));rfl)|((with_reducible apply ZC);rfl))
      exact SK.retQ rfl (by (repeat constructor)) (fun w' hm' => ⟨(none, none), by rw [f1]; exact ⟨⟨rfl, rfl⟩, ⟨rfl, rfl⟩⟩, by rw [f1, f2]; rfl, by rw [f1]; exact hm'.wk (by (repeat constructor))⟩)
  · have hie : i = l.length := by omega
    subst hie
    obtain ⟨f1, f2⟩ := foldA_some hw.end
    (repeat first|(with_reducible first|apply Za|apply Zb|apply Zc|apply Zd|apply Zi|apply Zj|apply Zn|apply Zp|apply Zq|apply Zs)|((with_reducible first|apply ZI|apply ZJ|apply ZM);rfl;rfl)|((with_reducible apply ZY);rfl;rfl;rfl;omega)|((with_reducible apply Zra);rfl;rfl;(focus (repeat constructor));rfl)|((with_reducible apply Zrc);rfl;rfl;rfl;exact List.cons_ne_nil _ _;(first|rfl|(repeat first|exact plain_nil|(refine plain_cons (by first|rfl|exact OwnD.plain_val _ _) ?_)));(focus (repeat constructor));rfl)|((with_reducible apply ZD);rfl))
    exact SK.retQ rfl (by (repeat constructor)) (fun w' hm' => ⟨(oN, oS), by rw [f1]; exact ⟨hoN, hoS⟩, by rw [f1, f2]; rfl, by rw [f1]; exact hm'.wk (by (repeat constructor))⟩)
end Go.Proofs.Ytdnjfmgldkommaa
