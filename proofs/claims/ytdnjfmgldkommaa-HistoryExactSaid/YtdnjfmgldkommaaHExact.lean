/- Proved here: Whatever happens to a workflow, its events, state and tasks are the document's. -/
import Derived.Test.YtdnjfmgldkommaaLa
import Derived.Test.YtdnjfmgldkommaaLb
import Derived.Test.YtdnjfmgldkommaaRows
import Derived.HandedShaped
import Derived.Carry
namespace Go.Proofs.Ytdnjfmgldkommaa
open Go.Sx
set_option maxRecDepth 100000 in
set_option maxHeartbeats 8000000 in
theorem exact3 (D : Df) (A : Option Addr) (cap : Nat) (iv : Value) (l : List Inp) (w : World) (hc : D.nodes.length ≤ cap) (hd0 : RDf (Vw w []) (.agg #[.string D.name, .slice A D.nodes.length cap]) D) (hT : Texts D)
    (hi : RSl (Vw w []) iv l.length (l.flatMap Inp.c)) (hI : InOK l) (hG : ∃ m, Vw w [] 0 0 (.int .i64 m)) : Ans 3 [.agg #[.string D.name, .slice A D.nodes.length cap], iv] w (.bool true) := by
  obtain ⟨Ai, ci, rfl, hin⟩ := hi.open inp_len
  have hd := cut_rdf hd0
  have hTc := hT.cut
  have hG1 : ∀ w1 : World, (∀ b o v, Vw w [] b o v → Vw w1 [] b o v) → ∃ m, Vw w1 [] 0 0 (.int .i64 m) := fun w1 g => by obtain ⟨m, hm⟩ := hG; exact ⟨m, g _ _ _ hm⟩
  refine enter0 Try.func3 rfl Try.ntmps3 rfl ?_
  (repeat first|(with_reducible first|apply Za|apply Zb|apply Zc|apply Zd|apply Zi|apply Zs)|((with_reducible apply ZJ);rfl;rfl)|((with_reducible apply Zra);rfl;rfl;(focus (repeat constructor));rfl)|((with_reducible apply Zrf);rfl;rfl;intro _))
  refine SK.callA rfl rfl (fun w1 g1 _ => cut15 D A cap hc hT.2.1 w1 (hd0.mono g1)) ?_
  unfold cutV at hd ⊢
  generalize cutD D = E at hd hTc ⊢
  have hname : ∀ nm, nm = D.name → RDf (Vw w []) (.agg #[.string nm, .slice A E.nodes.length cap]) E → nm = E.name := by
    intro nm _ h
    obtain ⟨A', cap', he, _⟩ := h.nds
    have := congrArg (fun v => match v with | .agg a => (match a[0]? with | some (Value.string s) => some s | _ => none) | _ => none) he
    simpa using this
  have hnm := hname D.name rfl hd
  rw [hnm] at hd ⊢
  (repeat first|(with_reducible first|apply Za|apply Zb|apply Zc|apply Zd|apply Zi|apply Zs)|((with_reducible apply Zra);rfl;rfl;(focus (repeat constructor));rfl)|((with_reducible apply Zrc);rfl;rfl;rfl;exact List.cons_ne_nil _ _;(first|rfl|(repeat first|exact plain_nil|(refine plain_cons (by first|rfl|exact OwnD.plain_val _ _) ?_)));(focus (repeat constructor));rfl))
  refine SK.callO rfl rfl (fun w1 g1 _ => taken16 _ E w1 (hd.mono g1) hTc) ?_
  rintro bb htk
  cases bb with
  | false =>
    (repeat first|(with_reducible first|apply Za|apply Zb|apply Zc|apply Zd|apply Zi|apply Zs)|((with_reducible apply ZP);rfl;rfl)|((with_reducible apply ZC);rfl))
    refine SK.callA rfl rfl (fun w1 g1 _ => wakes17 w1 (hG1 w1 g1)) ?_
    (repeat first|(with_reducible first|apply Zc|apply Zd|apply Zi|apply Zk|apply Zp|apply Zs)|((with_reducible apply ZJ);rfl;rfl))
    exact SK.retQ rfl (by (repeat constructor)) (fun w' hm' => ⟨(), trivial, rfl, hm'.wk (by (repeat constructor))⟩)
  | true =>
    have hDO : DefOK E := (htk rfl).ok (fun n hn => (hTc.2.2 n hn).2.2.2)
    (repeat first|(with_reducible first|apply Za|apply Zb|apply Zc|apply Zd|apply Zi|apply Zo|apply Zr|apply Zs)|((with_reducible apply ZJ);rfl;rfl)|((with_reducible apply ZP);rfl;rfl)|((with_reducible apply Zqr);rfl;rfl;rfl)|((with_reducible apply Zra);rfl;rfl;(focus (repeat constructor));rfl)|((with_reducible apply Zrf);rfl;rfl;intro _)|((with_reducible apply ZD);rfl))
    rename_i bp
    refine SK.loopW (fun g : Nat × Sta × List Ev × ((OwnD × OwnD) × OwnD) => [(6, .int .i64 (g.1 : Int)), (1, .slice Ai l.length ci), (5, .pointer (some ⟨bp, 0, none⟩))])
      (fun g => plM bp E (.slice A E.nodes.length cap) g.2.1 g.2.2.1 g.2.2.2)
      (fun g => g.1 ≤ l.length ∧ g.1 ≤ 60 ∧ Good E g.2.1 ∧ OPl g.2.1 g.2.2.1 g.2.2.2 ∧ g.2.2.1.length ≤ 100000 * g.1) (fun g => l.length - g.1) (0, sta0, [], ((none, none), none)) ⟨Nat.zero_le _, by decide, good0 E, ⟨⟨⟨rfl, rfl⟩, ⟨rfl, rfl⟩⟩, ⟨rfl, rfl⟩⟩, Nat.zero_le _⟩ (by (repeat constructor))
      (by exact Wk.pick (Pick.head _) (Wk.none (Wk.none (Wk.none (Wk.nil _))))) ?_
    rintro ⟨i, S, ev, z⟩ ⟨hil, hi60, hgo, hz, hev⟩
    dsimp only at hil hi60 hgo hz hev ⊢
    by_cases hlt : i < l.length
    · by_cases h60 : i < 60
      · obtain ⟨a, ha⟩ : ∃ a, l[i]? = some a := ⟨_, List.getElem?_eq_getElem hlt⟩
        obtain ⟨bi, oi, rfl, hcell⟩ := hin i a ha (by omega)
        obtain ⟨t1, t2⟩ := hI.2 a (List.mem_of_getElem? ha)
        have hna : (clipI a).name.size ≤ 1000 := by have := clipS_size a.name; show (clipS a.name).size ≤ 1000; omega
        obtain ⟨g3, g4⟩ := playL_good (p := (S, ev)) hDO hgo hna
        (repeat first|(with_reducible first|apply Za|apply Zb|apply Zc|apply Zd|apply Zi|apply Zo|apply Zr)|((with_reducible refine Yz ?_);first|((with_reducible apply SK.indexAddr); rfl; rfl; rfl; exact hlt)|((with_reducible apply SK.loadAR); rfl; rfl; exact hcell; rfl)|((with_reducible first|apply ZI|apply ZM|apply ZO);rfl;rfl)|((with_reducible apply ZS);rfl;rfl;rfl;omega)|((with_reducible apply Zqo);rfl;rfl;rfl))|((with_reducible apply ZC);rfl))
        refine SK.callA rfl rfl (fun w1 _ _ => clip19 a w1 t1 t2) ?_
        (repeat first|(with_reducible first|apply Zc|apply Zs))
        refine SK.call rfl rfl (plM bp E (.slice A E.nodes.length cap) S ev z) [] (by (repeat constructor)) _ _ _ (fun w1 g0 g1 _ => input18 E (.slice A E.nodes.length cap) S ev z (clipI a) bp w1 hDO hgo hna (by omega) hz (hd.mono g1) (by obtain ⟨m, hm⟩ := hG; exact ⟨m, g1 _ _ _ hm⟩) g0) (fun z' hz' => ?_)
        (repeat first|(with_reducible first|apply Zb|apply Zc|apply Zd|apply Zi|apply Zl|apply Zo|apply Zs)|((with_reducible first|apply ZI|apply ZJ);rfl;rfl)|((with_reducible apply ZP);rfl;rfl)|((with_reducible apply ZR);rfl;rfl;rfl;omega)|((with_reducible apply ZD);rfl))
        exact SK.roundW (i + 1, (playL E (S, ev) (clipI a)).1, (playL E (S, ev) (clipI a)).2, z') ⟨by omega, by omega, g3, hz', by dsimp only at g4 ⊢; omega⟩ (by dsimp only; omega) (by (repeat constructor)) (by (repeat constructor))
      · (repeat first|(with_reducible first|apply Za|apply Zb|apply Zc|apply Zd|apply Zi|apply Zj|apply Zn|apply Zq)|((with_reducible first|apply ZI|apply ZM|apply ZO);rfl;rfl)|((with_reducible apply ZS);rfl;rfl;rfl;omega)|((with_reducible apply ZY);rfl;rfl;rfl;omega)|((with_reducible apply Zqo);rfl;rfl;rfl)|((with_reducible apply ZD);rfl))
        refine SK.callA rfl rfl (fun w1 g1 _ => wakes17 w1 (hG1 w1 g1)) ?_
        (repeat first|(with_reducible first|apply Zc|apply Zd|apply Zi|apply Zp|apply Zs)|((with_reducible apply ZJ);rfl;rfl))
        exact SK.retQ rfl (by (repeat constructor)) (fun w' hm' => ⟨(), trivial, rfl, hm'.wk (by (repeat constructor))⟩)
    · (repeat first|(with_reducible first|apply Za|apply Zb|apply Zc|apply Zd|apply Zi|apply Zj|apply Zn|apply Zq)|((with_reducible first|apply ZI|apply ZM);rfl;rfl)|((with_reducible apply ZY);rfl;rfl;rfl;omega)|((with_reducible apply Zqs);rfl;rfl;rfl)|((with_reducible apply Zqx);rfl;rfl;rfl;rfl)|((with_reducible apply ZD);rfl))
      refine SK.callA rfl rfl (fun w1 g1 _ => wakes17 w1 (hG1 w1 g1)) ?_
      (repeat first|(with_reducible first|apply Zc|apply Zd|apply Zi|apply Zp|apply Zs)|((with_reducible apply ZJ);rfl;rfl))
      exact SK.retQ rfl (by (repeat constructor)) (fun w' hm' => ⟨(), trivial, rfl, hm'.wk (by (repeat constructor))⟩)
open Go.ChangeShapes Go.WideShapes Go.ChangeAt Go.RowKit
theorem Try.own : ownKnob Try.prog.godebug = none := by kernel_rfl
theorem Try.laidOut : laidOutB Try.prog = true := by kernel_rfl
theorem read24 : Try.prog.readableRec 24 = true ∧ 24 < Try.prog.types.size := ⟨by kernel_rfl, of_decide_eq_true (by kernel_rfl)⟩
theorem read25 : Try.prog.readableRec 25 = true ∧ 25 < Try.prog.types.size := ⟨by kernel_rfl, of_decide_eq_true (by kernel_rfl)⟩
theorem Mem.below {w w' : World} (h : Mem w [] [] w') : Below w.heap.size w w' := ⟨h.os, h.tape, h.output, h.size, fun k hk => h.old k hk (by simp)⟩
set_option maxRecDepth 100000 in
theorem exact_lifted (os : Os) (started : os.Started) (H : Type) (enc : TypeId × Value → H) :
    ReturnsInHanded {} Try.checked os 3 .any (Rows.historyExactSpec.pre6 enc Try.prog Try.f3 Rows.historyExactRow.domain false) (Rows.historyExactSpec.post enc Try.prog Try.f3 false true false false) := by
  refine returnsInHanded_of_change_shaped (C := Try.checked) Try.own started (by kernel_rfl) Try.func3
    (ChangeSpec.witness6 (enc := enc) (C := Try.checked) false ⟨#[], #[.agg #[.string ⟨#[]⟩, .slice none 0 0], .slice none 0 0], []⟩ 8 (by kernel_rfl) (by kernel_rfl) (by kernel_rfl) (by kernel_rfl)) ?_
  intro W base args ds gs before hval0 hW hcnd0 hsz0 hsh _
  have hsz : (DataW.weightsEach Try.prog (Try.f3.params.toList ++ Rows.historyExactSpec.plain.varTypes Try.prog) (ds ++ gs)).all (· ≤ reachBytes) = true := hsz0
  have hval : ∀ (j : Nat) t v, Try.f3.params[j]? = some t → args[j]? = some v → Value.okWide Try.prog W .any base t v := hval0
  have hW' := hW
  obtain ⟨p, q, hA0, hV, rfl, hfz, hnd⟩ := hW
  have hA : DataW.TrodAll enc Try.prog W 0 (fun _ => true) true Try.f3.params.toList args.toList ds p := hA0
  rw [Try.params3] at hA hval hsz
  obtain ⟨v0, v1, d0, d1, p0, p1, rfl, rfl, rfl, h0, h1⟩ := trodAll_two hA
  obtain ⟨rfl, rfl⟩ := trodVars_none hV
  have hlt := hW'.lt
  have hw0 : ∀ n ∈ d0.weights Try.prog 24, n ≤ reachBytes := fun n hn => by
    have := List.all_eq_true.1 hsz n (DataW.weights_mem_each (j := 0) rfl rfl n hn)
    simpa using this
  have hw1 : ∀ n ∈ d1.weights Try.prog 25, n ≤ reachBytes := fun n hn => by
    have := List.all_eq_true.1 hsz n (DataW.weights_mem_each (j := 1) rfl rfl n hn)
    simpa using this
  have hR : reachBytes < 9223372036854775807 := by decide
  have ok0 := hval 0 24 v0 rfl rfl
  unfold Value.okWide at ok0
  rw [Try.underlying24] at ok0
  obtain ⟨cs0, rfl, _, _⟩ := ok0
  obtain ⟨a1, len1, cap1, rfl⟩ := okWide_slice Try.underlying25 (hval 1 25 v1 rfl rfl)
  obtain ⟨f0, t0⟩ := id h0
  obtain ⟨f1, t1⟩ := id h1
  obtain ⟨D, A, cap, e0, hcap, hrd, hT⟩ := open24 t0 hw0 hR
  obtain ⟨c1, l, e1, hrl, hI⟩ := open25 t1 hw1 hR
  have e0' : cs0 = #[.string D.name, .slice A D.nodes.length cap] := Array.ext' e0
  subst e0'
  have e1' : c1 = .slice a1 len1 cap1 := by
    have : ([Value.slice a1 len1 cap1] : List Value) = [c1] := e1
    exact (List.cons.inj this).1.symm
  subst e1'
  obtain ⟨m, hm⟩ := Try.laysM144.s1_3 W hsh
  have hrun := exact3 D A cap _ l W hcap (hrd.mono fun b o v h => Cw.vw h) hT (hrl.mono fun b o v h => Cw.vw h) hI ⟨m, Cw.vw hm⟩
  refine Calls.mono hrun fun e W' ⟨_, _, he, hmem⟩ => ?_
  have hb := Mem.below hmem
  subst he
  have r0 := Below.trod Try.laidOut read24.1 read24.2 h0 hb (fun x hx => hlt x (by simp [hx]))
  have r1 := Below.trod Try.laidOut read25.1 read25.2 h1 hb (fun x hx => hlt x (by simp [hx]))
  exact ⟨_, rfl, ⟨_, _, _, [], _, [], hW', trodAll_mk1 (shut_bool Try.underlying4 _), trodAll_mk2 r0 r1, rfl, hb.frame _, fun h => by cases h⟩⟩
theorem HistoryExact_holds : Rows.HistoryExactSaid :=
  OpenClaim.holds_of_wide 3 Try.f3 rfl rfl rfl rfl rfl rfl rfl ⟨rfl, rfl, rfl, rfl, rfl⟩ rfl rfl rfl rfl rfl (by kernel_rfl) Try.func3 (by kernel_rfl)
    (of_decide_eq_true (by kernel_rfl)) (by unfold Func.isWrapper; rw [if_neg (of_decide_eq_false (by kernel_rfl))]; exact ⟨rfl, rfl⟩)
    (fun os started H enc _ => exact_lifted os started H enc)
#print axioms HistoryExact_holds
end Go.Proofs.Ytdnjfmgldkommaa
