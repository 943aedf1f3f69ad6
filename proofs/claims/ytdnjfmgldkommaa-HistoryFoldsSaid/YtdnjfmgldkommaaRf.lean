/- Proved here: a step, both ways. -/
import Derived.Test.YtdnjfmgldkommaaRe
namespace Go.Proofs.Ytdnjfmgldkommaa
open Go.Sx
def MethG (f : FuncId) (c : Cx) (vs : List Value) (R R' : Rn) (v : Value) : Prop :=
  ∀ (b : Nat) (y : Y4) (w : World), ORn R y → RDf (Vw w (keys (rnM c b R y))) c.dv c.D → (∃ m, Vw w (keys (rnM c b R y)) 0 0 (.int .i64 m)) → Mem w (keys (rnM c b R y)) (rnM c b R y) w →
    Calls Try.prog f (.pointer (some ⟨b, 0, none⟩) :: vs).toArray w (Ret w (rnM c b R y) (ORn R') (fun _ => v) (rnM c b R'))
theorem Meth.g {f : FuncId} {c : Cx} {vs : List Value} {R R' : Rn} {v : Value} (h : Meth f c vs R R' v) : MethG f c vs R R' v := fun b y w h1 h2 _ h4 => h b y w h1 h2 h4
section
variable {ops : Array Oper} {w0 : World} {Mod : List Nat} {n : Nat} {F : FL} {M : ML} {K : Act → World → Prop} {chk : List Nat} {ty : TypeId} {pos : String} {aft : Array Edge} {d : Nat}
set_option maxRecDepth 100000 in
theorem SK.methG {f : FuncId} {args : Array Operand} {ats : Array TypeId} {vs : List Value} {v : Value} {c : Cx} {b : Nat} {y : Y4} {R R' : Rn} {M1 M2 M3 M4 M5 : ML} [Fun Try.prog f] (hd : Nat.blt d n = true)
    (hargs : evL F args.toList = some (.pointer (some ⟨b, 0, none⟩) :: vs)) (hm : MethG f c vs R R' v) (hy : ORn R y) (hD : RDf (Vw w0 Mod) c.dv c.D) (hG : ∃ m, Vw w0 Mod 0 0 (.int .i64 m))
    (p1 : Pick (some (b, rnC c R y, c.T)) M M1) (p2 : Pick (y.1.1.ent (R.S.nodes.flatMap Ns.c) 56) M1 M2) (p3 : Pick (y.1.2.ent (R.S.sigs.flatMap Sg.c) 100) M2 M3)
    (p4 : Pick (y.2.1.ent (R.ev.flatMap Ev.c) 70) M3 M4) (p5 : Pick (y.2.2.ent (R.tk.flatMap Tk.c) 52) M4 M5)
    (h : ∀ y', ORn R' y' → SK w0 Mod n (chkE Try.prog ops chk K) ((d, v) :: F) (some (b, rnC c R' y', c.T) :: y'.1.1.ent (R'.S.nodes.flatMap Ns.c) 56 :: y'.1.2.ent (R'.S.sigs.flatMap Sg.c) 100 :: y'.2.1.ent (R'.ev.flatMap Ev.c) 70 :: y'.2.2.ent (R'.tk.flatMap Tk.c) 52 :: M5)) :
    SK w0 Mod n (stepE Try.prog ops ⟨some d, .call ⟨.value (.func f), args, ats⟩, ty, pos, aft, none⟩ chk K) F M :=
  SK.call hd hargs (rnM c b R y) M5 (Wk.pick p1 (Wk.pick p2 (Wk.pick p3 (Wk.pick p4 (Wk.pick p5 (Wk.refl M5)))))) (ORn R') (fun _ => v) (rnM c b R')
    (fun w1 g0 g1 _ => hm b y w1 hy (hD.mono g1) (by obtain ⟨m, hm⟩ := hG; exact ⟨m, g1 _ _ _ hm⟩) g0) h
end
def waitB (D : Df) (S : Sta) (s : ByteArray) (i : Nat) : Bool :=
  match D.nodes[i]?, S.nodes[i]? with
  | some n, some x => decide (n.kind = 4) && decide (n.arg = s) && decide (x.st = 2)
  | _, _ => false
theorem waits_eq (D : Df) (S : Sta) (s : ByteArray) : waits D S s = (List.range D.nodes.length).find? (waitB D S s) := rfl
theorem waits_some {D : Df} {S : Sta} {s : ByteArray} {i : Nat} (hi : i < D.nodes.length) (h : waitB D S s i = true) (hall : ∀ j, j < i → waitB D S s j = false) : waits D S s = some i := by
  rw [waits_eq, List.find?_range_eq_some]
  exact ⟨h, List.mem_range.2 hi, fun j hj => by rw [hall j hj]; rfl⟩
theorem waits_none {D : Df} {S : Sta} {s : ByteArray} (hall : ∀ j, j < D.nodes.length → waitB D S s j = false) : waits D S s = none := by
  rw [waits_eq, List.find?_eq_none]
  intro j hj
  rw [hall j (List.mem_range.1 hj)]; exact Bool.false_ne_true
theorem waitB_at {D : Df} {S : Sta} {s : ByteArray} {i : Nat} {n : Nd} {x : Ns} (hn : D.nodes[i]? = some n) (hx : S.nodes[i]? = some x) : waitB D S s i = (decide (n.kind = 4) && decide (n.arg = s) && decide (x.st = 2)) := by
  unfold waitB; rw [hn, hx]
theorem wait_step {D : Df} {S : Sta} {s : ByteArray} {i : Nat} (h : waitB D S s i = false) (hall : ∀ j, j < i → waitB D S s j = false) : ∀ j, j < i + 1 → waitB D S s j = false := by
  intro j hj
  by_cases hji : j = i
  · subst hji; exact h
  · exact hall j (by omega)
set_option maxRecDepth 100000 in
set_option maxHeartbeats 8000000 in
theorem signal57 (c : Cx) (hT : c.T = 97) (R : Rn) (hDO : DefOK c.D) (hl : R.S.nodes.length = c.D.nodes.length) (a : Inp) (hna : a.name.size ≤ 1000) (hf : Room c.D R 6000) : MethG 57 c [.agg a.c.toArray] R (signalL c.D c.now R a).2 (.int .i64 (signalL c.D c.now R a).1) := by
  intro b y w hy hD hG hm
  obtain ⟨T, D, dsl, now⟩ := c
  dsimp only at *
  subst hT
  obtain ⟨A, cap, hdsl, hnds⟩ := RDf.dsl hD
  dsimp only at hdsl hnds
  subst hdsl
  have hdn := hf.dn
  have hne := hDO.ne
  have hsg := hf.sg
  obtain ⟨mG, hmG⟩ := hG
  obtain ⟨⟨oN, oS⟩, oE, oT⟩ := y
  have hoN := hy.1.1
  dsimp only at hoN
  refine enterF (M := rnM _ b R ((oN, oS), oE, oT)) Try.func57 rfl Try.ntmps57 rfl hm ?_
  cases oN with
  | none => have : R.S.nodes.length = 0 := hoN.2; omega
  | some q =>
    obtain ⟨bN, capN, spN⟩ := q
    (repeat first|(with_reducible first|apply Za|apply Zb|apply Zc|apply Zd|apply Zi|apply Zr|apply Zs)|((with_reducible first|apply ZJ|apply ZK);rfl;rfl)|((with_reducible apply Zqz);rfl;rfl;(focus (repeat constructor));rfl)|((with_reducible apply Zrf);rfl;rfl;intro _))
    rename_i b3
    refine SK.callA rfl rfl (fun w1 g1 _ => name76 a.name mG w1 (g1 _ _ _ hmG) hna) ?_
    cases hnm : nameL a.name false 64 with
    | false =>
      have he : signalL D now R a = (17, R) := by unfold signalL; rw [if_pos hnm]
      (repeat first|(with_reducible first|apply Za|apply Zb|apply Zc|apply Zd|apply Zi|apply Zk|apply Zm|apply Zp|apply Zs)|((with_reducible apply ZJ);rfl;rfl)|((with_reducible apply ZP);rfl;rfl)|((with_reducible apply ZC);rfl))
      exact SK.retQ rfl (by (repeat constructor)) (fun w' hm' => ⟨((some (bN, capN, spN), oS), oE, oT), by rw [he]; exact hy, by rw [he]; rfl, by rw [he]; exact hm'.wk (by (repeat constructor))⟩)
    | true =>
      have hnm2 : ¬ (nameL a.name false 64 = false) := by rw [hnm]; exact Bool.noConfusion
      by_cases hsz : 256 < a.text.size
      · have he : signalL D now R a = (9, R) := by unfold signalL; rw [if_neg hnm2, if_pos hsz]
        (repeat first|(with_reducible first|apply Za|apply Zb|apply Zc|apply Zd|apply Zi|apply Zk|apply Zm|apply Zp|apply Zs)|((with_reducible first|apply ZJ|apply ZK);rfl;rfl)|((with_reducible first|apply ZP|apply ZQ);rfl;rfl)|((with_reducible apply ZU);rfl;rfl;rfl;omega)|((with_reducible apply Zqz);rfl;rfl;(focus (repeat constructor));rfl)|((with_reducible apply ZC);rfl)|((with_reducible apply ZD);rfl))
        exact SK.retQ rfl (by (repeat constructor)) (fun w' hm' => ⟨((some (bN, capN, spN), oS), oE, oT), by rw [he]; exact hy, by rw [he]; rfl, by rw [he]; exact hm'.wk (by (repeat constructor))⟩)
      · (repeat first|(with_reducible first|apply Za|apply Zb|apply Zc|apply Zd|apply Zi|apply Zl|apply Zo|apply Zr|apply Zs)|((with_reducible first|apply ZI|apply ZJ|apply ZK|apply ZM|apply ZN);rfl;rfl)|((with_reducible first|apply ZP|apply ZQ);rfl;rfl)|((with_reducible apply Zqa);rfl;rfl;rfl;omega)|((with_reducible apply Zqz);rfl;rfl;(focus (repeat constructor));rfl)|((with_reducible apply ZD);rfl))
        refine SK.loopW (fun i : Nat => [(23, .int .i64 (i : Int)), (22, .int .i64 (D.nodes.length : Int)), (21, .slice A D.nodes.length cap), (0, .pointer (some ⟨b, 0, none⟩)), (3, .pointer (some ⟨b3, 0, none⟩))]) (fun _ => some (b3, a.c, 39) :: rnM ⟨97, D, .slice A D.nodes.length cap, now⟩ b R ((some (bN, capN, spN), oS), oE, oT))
          (fun i => i ≤ D.nodes.length ∧ ∀ j, j < i → waitB D R.S a.name j = false) (fun i => D.nodes.length - i) 0 ⟨Nat.zero_le _, fun j hj => absurd hj (Nat.not_lt_zero j)⟩ (by (repeat constructor)) (by (repeat constructor)) ?_
        rintro i ⟨hi, hall⟩
        by_cases hkl : i < D.nodes.length
        · have hlt : i < R.S.nodes.length := by omega
          obtain ⟨nd, hnd⟩ : ∃ nd, D.nodes[i]? = some nd := ⟨_, List.getElem?_eq_getElem hkl⟩
          obtain ⟨bd, o, av, rfl, hnd2⟩ := hnds i nd hnd
          obtain ⟨Aa, ca, hav, havx⟩ := id hnd2.1
          subst hav
          have hcell := hnd2.2
          obtain ⟨x, hx⟩ : ∃ x, R.S.nodes[i]? = some x := ⟨_, List.getElem?_eq_getElem hlt⟩
          have hld := nld hx spN 0 (.int .i64 x.st) rfl
          by_cases k4 : nd.kind = 4
          · by_cases ha : nd.arg = a.name
            · by_cases hst : x.st = 2
              · have hw := waits_some (D := D) (S := R.S) (s := a.name) hkl (by rw [waitB_at hnd hx]; simp [k4, ha, hst]) hall
                have he : signalL D now R a = (0, onL D now (happ D R ⟨12, nd.name, a.text, 0⟩)) := by
                  unfold signalL; rw [if_neg hnm2, if_neg hsz, hw]
                  simp only [hnd, Option.map_some, Option.getD_some]
                (repeat first|(with_reducible first|apply Za|apply Zb|apply Zc|apply Zd|apply Zi|apply Zo|apply Zr|apply Zs)|((with_reducible refine Yz ?_);first|((with_reducible apply SK.indexAddr); rfl; rfl; rfl; first | exact hkl | exact hlt)|((with_reducible apply SK.loadAR); rfl; rfl; exact hcell; rfl)|((with_reducible apply SK.load1); rfl; rfl; (focus (repeat (first | exact List.mem_cons_self | apply List.mem_cons_of_mem))); with_reducible exact hld)|((with_reducible first|apply ZI|apply ZJ|apply ZK|apply ZN|apply ZO);rfl;rfl)|((with_reducible first|apply ZS|apply ZW);rfl;rfl;rfl;omega)|((with_reducible first|apply Zqm|apply Zqo|apply Zqr);rfl;rfl;rfl)|((with_reducible apply Zqf);rfl;rfl;rfl;assumption)|((with_reducible apply Zqz);rfl;rfl;(focus (repeat constructor));rfl)|((with_reducible apply Zrc);rfl;rfl;rfl;exact List.cons_ne_nil _ _;(first|rfl|(repeat first|exact plain_nil|(refine plain_cons (by first|rfl|exact OwnD.plain_val _ _) ?_)));(focus (repeat constructor));rfl)|((with_reducible apply Zrg);rfl;intro _))|((with_reducible apply ZC);rfl))
                refine SK.meth (vs := [.agg (Ev.c ⟨12, nd.name, a.text, 0⟩).toArray]) rfl rfl (happens55 _ rfl R ⟨12, nd.name, a.text, 0⟩ hf.fit hdn) hy hD (by (repeat constructor)) (by (repeat constructor)) (by (repeat constructor)) (by (repeat constructor)) (by (repeat constructor)) (fun y1 hy1 => ?_)
                have hr1 : Room D (happ D R ⟨12, nd.name, a.text, 0⟩) 5999 := hf.happ _ (show (12 : Int) ≠ 13 by decide)
                (repeat first|(with_reducible first|apply Za|apply Zb|apply Zc|apply Zd|apply Zi|apply Zs)|((with_reducible apply ZI);rfl;rfl))
                refine SK.meth rfl rfl (on56 _ rfl hDO _ (Room.on (hr1.mono (by omega))) (happ_len hl)) hy1 hD (by (repeat constructor)) (by (repeat constructor)) (by (repeat constructor)) (by (repeat constructor)) (by (repeat constructor)) (fun y2 hy2 => ?_)
                (repeat first|(with_reducible first|apply Za|apply Zb|apply Zc|apply Zd|apply Zi|apply Zk|apply Zm|apply Zp|apply Zs)|((with_reducible apply ZJ);rfl;rfl))
                exact SK.retQ rfl (by (repeat constructor)) (fun w' hm' => ⟨y2, by rw [he]; exact hy2, by rw [he]; rfl, by rw [he]; exact hm'.wk (by (repeat constructor))⟩)
              · (repeat first|(with_reducible first|apply Za|apply Zb|apply Zc|apply Zd|apply Zi|apply Zl|apply Zo|apply Zr|apply Zs)|((with_reducible refine Yz ?_);first|((with_reducible apply SK.indexAddr); rfl; rfl; rfl; first | exact hkl | exact hlt)|((with_reducible apply SK.loadAR); rfl; rfl; exact hcell; rfl)|((with_reducible apply SK.load1); rfl; rfl; (focus (repeat (first | exact List.mem_cons_self | apply List.mem_cons_of_mem))); with_reducible exact hld)|((with_reducible first|apply ZI|apply ZJ|apply ZK|apply ZN|apply ZO);rfl;rfl)|((with_reducible first|apply ZR|apply ZS|apply ZW);rfl;rfl;rfl;omega)|((with_reducible apply Zqc);rfl;rfl;rfl;omega)|((with_reducible first|apply Zqm|apply Zqo);rfl;rfl;rfl)|((with_reducible apply Zqf);rfl;rfl;rfl;assumption)|((with_reducible apply Zqz);rfl;rfl;(focus (repeat constructor));rfl)|((with_reducible apply Zrc);rfl;rfl;rfl;exact List.cons_ne_nil _ _;(first|rfl|(repeat first|exact plain_nil|(refine plain_cons (by first|rfl|exact OwnD.plain_val _ _) ?_)));(focus (repeat constructor));rfl)|((with_reducible apply Zrg);rfl;intro _))|((with_reducible apply ZC);rfl)|((with_reducible apply ZD);rfl))
                exact SK.roundW (i + 1) ⟨by omega, wait_step (by rw [waitB_at hnd hx]; simp [hst]) hall⟩ (by omega) (by (repeat constructor)) (by (repeat constructor))
            · have ha2 : ¬ nd.arg = a.name := ha
              (repeat first|(with_reducible first|apply Za|apply Zb|apply Zc|apply Zd|apply Zi|apply Zl|apply Zo|apply Zr|apply Zs)|((with_reducible refine Yz ?_);first|((with_reducible apply SK.indexAddr); rfl; rfl; rfl; first | exact hkl | exact hlt)|((with_reducible apply SK.loadAR); rfl; rfl; exact hcell; rfl)|((with_reducible first|apply ZI|apply ZJ|apply ZK|apply ZO);rfl;rfl)|((with_reducible first|apply ZR|apply ZS|apply ZW);rfl;rfl;rfl;omega)|((with_reducible apply Zqo);rfl;rfl;rfl)|((with_reducible apply Zqs);rfl;rfl;rfl)|((with_reducible apply Zqu);rfl;rfl;rfl;assumption)|((with_reducible apply Zqx);rfl;rfl;rfl;rfl)|((with_reducible apply Zqz);rfl;rfl;(focus (repeat constructor));rfl)|((with_reducible apply Zrc);rfl;rfl;rfl;exact List.cons_ne_nil _ _;(first|rfl|(repeat first|exact plain_nil|(refine plain_cons (by first|rfl|exact OwnD.plain_val _ _) ?_)));(focus (repeat constructor));rfl)|((with_reducible apply Zrg);rfl;intro _))|((with_reducible apply ZC);rfl)|((with_reducible apply ZD);rfl))
              exact SK.roundW (i + 1) ⟨by omega, wait_step (by rw [waitB_at hnd hx]; simp [ha]) hall⟩ (by omega) (by (repeat constructor)) (by (repeat constructor))
          · (repeat first|(with_reducible first|apply Za|apply Zb|apply Zc|apply Zd|apply Zi|apply Zl|apply Zo|apply Zr|apply Zs)|((with_reducible refine Yz ?_);first|((with_reducible apply SK.indexAddr); rfl; rfl; rfl; first | exact hkl | exact hlt)|((with_reducible apply SK.loadAR); rfl; rfl; exact hcell; rfl)|((with_reducible first|apply ZI|apply ZJ|apply ZK);rfl;rfl)|((with_reducible first|apply ZR|apply ZS);rfl;rfl;rfl;omega)|((with_reducible apply Zqc);rfl;rfl;rfl;omega)|((with_reducible apply Zqs);rfl;rfl;rfl)|((with_reducible apply Zqx);rfl;rfl;rfl;rfl)|((with_reducible apply Zqz);rfl;rfl;(focus (repeat constructor));rfl)|((with_reducible apply Zrc);rfl;rfl;rfl;exact List.cons_ne_nil _ _;(first|rfl|(repeat first|exact plain_nil|(refine plain_cons (by first|rfl|exact OwnD.plain_val _ _) ?_)));(focus (repeat constructor));rfl)|((with_reducible apply Zrg);rfl;intro _))|((with_reducible apply ZC);rfl)|((with_reducible apply ZD);rfl))
            exact SK.roundW (i + 1) ⟨by omega, wait_step (by rw [waitB_at hnd hx]; simp [k4]) hall⟩ (by omega) (by (repeat constructor)) (by (repeat constructor))
        · have hw := waits_none (D := D) (S := R.S) (s := a.name) (fun j hj => hall j (by omega))
          have hil : ¬ i < R.S.nodes.length := by omega
          obtain ⟨vS, cS, hvS⟩ : ∃ vS cS, oS.val R.S.sigs.length = .slice vS R.S.sigs.length cS := by
            have hoS := hy.1.2
            dsimp only at hoS
            cases oS with
            | none => have h0 : R.S.sigs.length = 0 := hoS.2; exact ⟨none, 0, by rw [h0]; rfl⟩
            | some q => exact ⟨_, _, rfl⟩
          by_cases hfull : 32 ≤ R.S.sigs.length
          · have he : signalL D now R a = (8, R) := by unfold signalL; rw [if_neg hnm2, if_neg hsz, hw]; simp only; rw [if_pos hfull]
            (repeat first|(with_reducible first|apply Za|apply Zb|apply Zc|apply Zd|apply Zi|apply Zj|apply Zn|apply Zq)|((with_reducible first|apply ZI|apply ZK|apply ZN);rfl;rfl)|((with_reducible apply ZY);rfl;rfl;rfl;omega)|((with_reducible apply Zqm);rfl;rfl;rfl)|((with_reducible apply Zqz);rfl;rfl;(focus (repeat constructor));rfl)|((with_reducible apply ZD);rfl))
            refine SK.slot (j := 64) rfl hvS ?_
            (repeat first|(with_reducible first|apply Za|apply Zb|apply Zc|apply Zd|apply Zi|apply Zk|apply Zp)|((with_reducible first|apply ZJ|apply ZM);rfl;rfl)|((with_reducible apply ZV);rfl;rfl;rfl;omega)|((with_reducible apply ZC);rfl))
            exact SK.retQ rfl (by (repeat constructor)) (fun w' hm' => ⟨((some (bN, capN, spN), oS), oE, oT), by rw [he]; exact hy, by rw [he]; rfl, by rw [he]; exact hm'.wk (by (repeat constructor))⟩)
          · have he : signalL D now R a = (0, happ D R ⟨13, a.name, a.text, 0⟩) := by unfold signalL; rw [if_neg hnm2, if_neg hsz, hw]; simp only; rw [if_neg hfull]
            (repeat first|(with_reducible first|apply Za|apply Zb|apply Zc|apply Zd|apply Zi|apply Zj|apply Zn|apply Zq)|((with_reducible first|apply ZI|apply ZK|apply ZN);rfl;rfl)|((with_reducible apply ZY);rfl;rfl;rfl;omega)|((with_reducible apply Zqm);rfl;rfl;rfl)|((with_reducible apply Zqz);rfl;rfl;(focus (repeat constructor));rfl)|((with_reducible apply ZD);rfl))
            refine SK.slot (j := 64) rfl hvS ?_
            (repeat first|(with_reducible first|apply Za|apply Zb|apply Zc|apply Zd|apply Zi|apply Zo)|((with_reducible first|apply ZI|apply ZK|apply ZM);rfl;rfl)|((with_reducible apply Zqb);rfl;rfl;rfl;omega)|((with_reducible apply Zqr);rfl;rfl;rfl)|((with_reducible apply Zqz);rfl;rfl;(focus (repeat constructor));rfl)|((with_reducible apply ZD);rfl))
            refine SK.meth (vs := [.agg (Ev.c ⟨13, a.name, a.text, 0⟩).toArray]) rfl rfl (happens55 _ rfl R ⟨13, a.name, a.text, 0⟩ hf.fit hdn) hy hD (by (repeat constructor)) (by (repeat constructor)) (by (repeat constructor)) (by (repeat constructor)) (by (repeat constructor)) (fun y1 hy1 => ?_)
            (repeat first|(with_reducible first|apply Za|apply Zb|apply Zc|apply Zd|apply Zi|apply Zp|apply Zs)|((with_reducible apply ZJ);rfl;rfl))
            exact SK.retQ rfl (by (repeat constructor)) (fun w' hm' => ⟨y1, by rw [he]; exact hy1, by rw [he]; rfl, by rw [he]; exact hm'.wk (by (repeat constructor))⟩)
set_option maxRecDepth 100000 in
set_option maxHeartbeats 8000000 in
theorem signal69 (c : Cx) (hT : c.T = 113) (R : Rn) (hDO : DefOK c.D) (hl : R.S.nodes.length = c.D.nodes.length) (a : Inp) (hna : a.name.size ≤ 1000) (hf : Room c.D R 6000) : MethG 69 c [.agg a.c.toArray] R (signalL c.D c.now R a).2 (.int .i64 (signalL c.D c.now R a).1) := by
  intro b y w hy hD hG hm
  obtain ⟨T, D, dsl, now⟩ := c
  dsimp only at *
  subst hT
  obtain ⟨A, cap, hdsl, hnds⟩ := RDf.dsl hD
  dsimp only at hdsl hnds
  subst hdsl
  have hdn := hf.dn
  have hne := hDO.ne
  have hsg := hf.sg
  obtain ⟨mG, hmG⟩ := hG
  obtain ⟨⟨oN, oS⟩, oE, oT⟩ := y
  have hoN := hy.1.1
  dsimp only at hoN
  refine enterF (M := rnM _ b R ((oN, oS), oE, oT)) Try.func69 rfl Try.ntmps69 rfl hm ?_
  cases oN with
  | none => have : R.S.nodes.length = 0 := hoN.2; omega
  | some q =>
    obtain ⟨bN, capN, spN⟩ := q
    (repeat first|(with_reducible first|apply Za|apply Zb|apply Zc|apply Zd|apply Zi|apply Zs)|((with_reducible first|apply ZJ|apply ZK);rfl;rfl)|((with_reducible apply Zqz);rfl;rfl;(focus (repeat constructor));rfl)|((with_reducible apply Zrf);rfl;rfl;intro _))
    rename_i b3
    refine SK.callA rfl rfl (fun w1 g1 _ => name49 a.name w1 (by omega)) ?_
    cases hnm : nameL a.name false 64 with
    | false =>
      have he : signalL D now R a = (17, R) := by unfold signalL; rw [if_pos hnm]
      (repeat first|(with_reducible first|apply Za|apply Zb|apply Zc|apply Zd|apply Zi|apply Zk|apply Zp|apply Zs)|((with_reducible apply ZJ);rfl;rfl)|((with_reducible apply ZP);rfl;rfl)|((with_reducible apply ZC);rfl))
      exact SK.retQ rfl (by (repeat constructor)) (fun w' hm' => ⟨((some (bN, capN, spN), oS), oE, oT), by rw [he]; exact hy, by rw [he]; rfl, by rw [he]; exact hm'.wk (by (repeat constructor))⟩)
    | true =>
      have hnm2 : ¬ (nameL a.name false 64 = false) := by rw [hnm]; exact Bool.noConfusion
      by_cases hsz : 256 < a.text.size
      · have he : signalL D now R a = (9, R) := by unfold signalL; rw [if_neg hnm2, if_pos hsz]
        (repeat first|(with_reducible first|apply Za|apply Zb|apply Zc|apply Zd|apply Zi|apply Zk|apply Zo|apply Zp|apply Zs)|((with_reducible first|apply ZJ|apply ZK);rfl;rfl)|((with_reducible first|apply ZP|apply ZQ);rfl;rfl)|((with_reducible apply ZU);rfl;rfl;rfl;omega)|((with_reducible apply Zqz);rfl;rfl;(focus (repeat constructor));rfl)|((with_reducible apply ZC);rfl)|((with_reducible apply ZD);rfl))
        exact SK.retQ rfl (by (repeat constructor)) (fun w' hm' => ⟨((some (bN, capN, spN), oS), oE, oT), by rw [he]; exact hy, by rw [he]; rfl, by rw [he]; exact hm'.wk (by (repeat constructor))⟩)
      · (repeat first|(with_reducible first|apply Za|apply Zb|apply Zc|apply Zd|apply Zi|apply Zo|apply Zr|apply Zs)|((with_reducible first|apply ZJ|apply ZK);rfl;rfl)|((with_reducible first|apply ZP|apply ZQ);rfl;rfl)|((with_reducible apply Zqa);rfl;rfl;rfl;omega)|((with_reducible apply Zqz);rfl;rfl;(focus (repeat constructor));rfl)|((with_reducible apply ZD);rfl))
        refine SK.loopW (fun i : Nat => [(5, .int .i64 (i : Int)), (0, .pointer (some ⟨b, 0, none⟩)), (3, .pointer (some ⟨b3, 0, none⟩))]) (fun _ => some (b3, a.c, 39) :: rnM ⟨113, D, .slice A D.nodes.length cap, now⟩ b R ((some (bN, capN, spN), oS), oE, oT))
          (fun i => i ≤ D.nodes.length ∧ ∀ j, j < i → waitB D R.S a.name j = false) (fun i => D.nodes.length - i) 0 ⟨Nat.zero_le _, fun j hj => absurd hj (Nat.not_lt_zero j)⟩ (by (repeat constructor)) (by (repeat constructor)) ?_
        rintro i ⟨hi, hall⟩
        by_cases hkl : i < D.nodes.length
        · have hlt : i < R.S.nodes.length := by omega
          obtain ⟨nd, hnd⟩ : ∃ nd, D.nodes[i]? = some nd := ⟨_, List.getElem?_eq_getElem hkl⟩
          obtain ⟨bd, o, av, rfl, hnd2⟩ := hnds i nd hnd
          obtain ⟨Aa, ca, hav, havx⟩ := id hnd2.1
          subst hav
          have hcell := hnd2.2
          obtain ⟨x, hx⟩ : ∃ x, R.S.nodes[i]? = some x := ⟨_, List.getElem?_eq_getElem hlt⟩
          have hld := nld hx spN 0 (.int .i64 x.st) rfl
          by_cases k4 : nd.kind = 4
          · by_cases ha : nd.arg = a.name
            · by_cases hst : x.st = 2
              · have hw := waits_some (D := D) (S := R.S) (s := a.name) hkl (by rw [waitB_at hnd hx]; simp [k4, ha, hst]) hall
                have he : signalL D now R a = (0, onL D now (happ D R ⟨12, nd.name, a.text, 0⟩)) := by
                  unfold signalL; rw [if_neg hnm2, if_neg hsz, hw]
                  simp only [hnd, Option.map_some, Option.getD_some]
                (repeat first|(with_reducible first|apply Za|apply Zb|apply Zc|apply Zd|apply Zi|apply Zo|apply Zr|apply Zs)|((with_reducible refine Yz ?_);first|((with_reducible apply SK.indexAddr); rfl; rfl; rfl; first | exact hkl | exact hlt)|((with_reducible apply SK.loadAR); rfl; rfl; exact hcell; rfl)|((with_reducible apply SK.load1); rfl; rfl; (focus (repeat (first | exact List.mem_cons_self | apply List.mem_cons_of_mem))); with_reducible exact hld)|((with_reducible first|apply ZI|apply ZK|apply ZM|apply ZN|apply ZO);rfl;rfl)|((with_reducible first|apply ZS|apply ZW);rfl;rfl;rfl;omega)|((with_reducible first|apply Zqm|apply Zqo);rfl;rfl;rfl)|((with_reducible apply Zqf);rfl;rfl;rfl;assumption)|((with_reducible apply Zqz);rfl;rfl;(focus (repeat constructor));rfl)|((with_reducible apply Zrc);rfl;rfl;rfl;exact List.cons_ne_nil _ _;(first|rfl|(repeat first|exact plain_nil|(refine plain_cons (by first|rfl|exact OwnD.plain_val _ _) ?_)));(focus (repeat constructor));rfl)|((with_reducible apply Zrg);rfl;intro _))|((with_reducible apply ZC);rfl))
                refine SK.meth rfl rfl (event67 _ rfl R ⟨12, nd.name, a.text, 0⟩ hf.fit hdn) hy hD (by (repeat constructor)) (by (repeat constructor)) (by (repeat constructor)) (by (repeat constructor)) (by (repeat constructor)) (fun y1 hy1 => ?_)
                have hr1 : Room D (happ D R ⟨12, nd.name, a.text, 0⟩) 5999 := hf.happ _ (show (12 : Int) ≠ 13 by decide)
                (repeat first|(with_reducible first|apply Za|apply Zb|apply Zc|apply Zd|apply Zi|apply Zs)|((with_reducible apply ZI);rfl;rfl))
                refine SK.meth rfl rfl (on68 _ rfl hDO _ (Room.on (hr1.mono (by omega))) (happ_len hl)) hy1 hD (by (repeat constructor)) (by (repeat constructor)) (by (repeat constructor)) (by (repeat constructor)) (by (repeat constructor)) (fun y2 hy2 => ?_)
                (repeat first|(with_reducible first|apply Za|apply Zb|apply Zc|apply Zd|apply Zi|apply Zk|apply Zm|apply Zp|apply Zs)|((with_reducible apply ZJ);rfl;rfl))
                exact SK.retQ rfl (by (repeat constructor)) (fun w' hm' => ⟨y2, by rw [he]; exact hy2, by rw [he]; rfl, by rw [he]; exact hm'.wk (by (repeat constructor))⟩)
              · (repeat first|(with_reducible first|apply Za|apply Zb|apply Zc|apply Zd|apply Zi|apply Zl|apply Zo|apply Zr|apply Zs)|((with_reducible refine Yz ?_);first|((with_reducible apply SK.indexAddr); rfl; rfl; rfl; first | exact hkl | exact hlt)|((with_reducible apply SK.loadAR); rfl; rfl; exact hcell; rfl)|((with_reducible apply SK.load1); rfl; rfl; (focus (repeat (first | exact List.mem_cons_self | apply List.mem_cons_of_mem))); with_reducible exact hld)|((with_reducible first|apply ZI|apply ZJ|apply ZK|apply ZM|apply ZN|apply ZO);rfl;rfl)|((with_reducible first|apply ZR|apply ZS|apply ZW);rfl;rfl;rfl;omega)|((with_reducible apply Zqc);rfl;rfl;rfl;omega)|((with_reducible first|apply Zqm|apply Zqo);rfl;rfl;rfl)|((with_reducible apply Zqf);rfl;rfl;rfl;assumption)|((with_reducible apply Zqz);rfl;rfl;(focus (repeat constructor));rfl)|((with_reducible apply Zrc);rfl;rfl;rfl;exact List.cons_ne_nil _ _;(first|rfl|(repeat first|exact plain_nil|(refine plain_cons (by first|rfl|exact OwnD.plain_val _ _) ?_)));(focus (repeat constructor));rfl)|((with_reducible apply Zrg);rfl;intro _))|((with_reducible apply ZC);rfl)|((with_reducible apply ZD);rfl))
                exact SK.roundW (i + 1) ⟨by omega, wait_step (by rw [waitB_at hnd hx]; simp [hst]) hall⟩ (by omega) (by (repeat constructor)) (by (repeat constructor))
            · have ha2 : ¬ nd.arg = a.name := ha
              (repeat first|(with_reducible first|apply Za|apply Zb|apply Zc|apply Zd|apply Zi|apply Zl|apply Zo|apply Zr|apply Zs)|((with_reducible refine Yz ?_);first|((with_reducible apply SK.indexAddr); rfl; rfl; rfl; first | exact hkl | exact hlt)|((with_reducible apply SK.loadAR); rfl; rfl; exact hcell; rfl)|((with_reducible first|apply ZI|apply ZJ|apply ZK|apply ZM|apply ZN|apply ZO);rfl;rfl)|((with_reducible first|apply ZR|apply ZS|apply ZW);rfl;rfl;rfl;omega)|((with_reducible first|apply Zqm|apply Zqo);rfl;rfl;rfl)|((with_reducible apply Zqs);rfl;rfl;rfl)|((with_reducible apply Zqu);rfl;rfl;rfl;assumption)|((with_reducible apply Zqx);rfl;rfl;rfl;rfl)|((with_reducible apply Zqz);rfl;rfl;(focus (repeat constructor));rfl)|((with_reducible apply Zrc);rfl;rfl;rfl;exact List.cons_ne_nil _ _;(first|rfl|(repeat first|exact plain_nil|(refine plain_cons (by first|rfl|exact OwnD.plain_val _ _) ?_)));(focus (repeat constructor));rfl)|((with_reducible apply Zrg);rfl;intro _))|((with_reducible apply ZC);rfl)|((with_reducible apply ZD);rfl))
              exact SK.roundW (i + 1) ⟨by omega, wait_step (by rw [waitB_at hnd hx]; simp [ha]) hall⟩ (by omega) (by (repeat constructor)) (by (repeat constructor))
          · (repeat first|(with_reducible first|apply Za|apply Zb|apply Zc|apply Zd|apply Zi|apply Zl|apply Zo|apply Zr|apply Zs)|((with_reducible refine Yz ?_);first|((with_reducible apply SK.indexAddr); rfl; rfl; rfl; first | exact hkl | exact hlt)|((with_reducible apply SK.loadAR); rfl; rfl; exact hcell; rfl)|((with_reducible first|apply ZI|apply ZJ|apply ZK|apply ZM|apply ZN|apply ZO);rfl;rfl)|((with_reducible first|apply ZR|apply ZS);rfl;rfl;rfl;omega)|((with_reducible apply Zqc);rfl;rfl;rfl;omega)|((with_reducible first|apply Zqm|apply Zqo);rfl;rfl;rfl)|((with_reducible apply Zqs);rfl;rfl;rfl)|((with_reducible apply Zqx);rfl;rfl;rfl;rfl)|((with_reducible apply Zqz);rfl;rfl;(focus (repeat constructor));rfl)|((with_reducible apply Zrc);rfl;rfl;rfl;exact List.cons_ne_nil _ _;(first|rfl|(repeat first|exact plain_nil|(refine plain_cons (by first|rfl|exact OwnD.plain_val _ _) ?_)));(focus (repeat constructor));rfl)|((with_reducible apply Zrg);rfl;intro _))|((with_reducible apply ZC);rfl)|((with_reducible apply ZD);rfl))
            exact SK.roundW (i + 1) ⟨by omega, wait_step (by rw [waitB_at hnd hx]; simp [k4]) hall⟩ (by omega) (by (repeat constructor)) (by (repeat constructor))
        · have hw := waits_none (D := D) (S := R.S) (s := a.name) (fun j hj => hall j (by omega))
          have hil : ¬ i < R.S.nodes.length := by omega
          obtain ⟨vS, cS, hvS⟩ : ∃ vS cS, oS.val R.S.sigs.length = .slice vS R.S.sigs.length cS := by
            have hoS := hy.1.2
            dsimp only at hoS
            cases oS with
            | none => have h0 : R.S.sigs.length = 0 := hoS.2; exact ⟨none, 0, by rw [h0]; rfl⟩
            | some q => exact ⟨_, _, rfl⟩
          by_cases hfull : 32 ≤ R.S.sigs.length
          · have he : signalL D now R a = (8, R) := by unfold signalL; rw [if_neg hnm2, if_neg hsz, hw]; simp only; rw [if_pos hfull]
            (repeat first|(with_reducible first|apply Za|apply Zb|apply Zc|apply Zd|apply Zi|apply Zj|apply Zn|apply Zq)|((with_reducible first|apply ZI|apply ZK|apply ZM|apply ZN);rfl;rfl)|((with_reducible apply ZY);rfl;rfl;rfl;omega)|((with_reducible apply Zqm);rfl;rfl;rfl)|((with_reducible apply Zqs);rfl;rfl;rfl)|((with_reducible apply Zqx);rfl;rfl;rfl;rfl)|((with_reducible apply Zqz);rfl;rfl;(focus (repeat constructor));rfl)|((with_reducible apply ZD);rfl))
            refine SK.slot (j := 77) rfl hvS ?_
            (repeat first|(with_reducible first|apply Za|apply Zb|apply Zc|apply Zd|apply Zi|apply Zk|apply Zp)|((with_reducible first|apply ZJ|apply ZM);rfl;rfl)|((with_reducible apply ZV);rfl;rfl;rfl;omega)|((with_reducible apply ZC);rfl))
            exact SK.retQ rfl (by (repeat constructor)) (fun w' hm' => ⟨((some (bN, capN, spN), oS), oE, oT), by rw [he]; exact hy, by rw [he]; rfl, by rw [he]; exact hm'.wk (by (repeat constructor))⟩)
          · have he : signalL D now R a = (0, happ D R ⟨13, a.name, a.text, 0⟩) := by unfold signalL; rw [if_neg hnm2, if_neg hsz, hw]; simp only; rw [if_neg hfull]
            (repeat first|(with_reducible first|apply Za|apply Zb|apply Zc|apply Zd|apply Zi|apply Zj|apply Zn|apply Zq)|((with_reducible first|apply ZI|apply ZK|apply ZM|apply ZN);rfl;rfl)|((with_reducible apply ZY);rfl;rfl;rfl;omega)|((with_reducible apply Zqm);rfl;rfl;rfl)|((with_reducible apply Zqs);rfl;rfl;rfl)|((with_reducible apply Zqx);rfl;rfl;rfl;rfl)|((with_reducible apply Zqz);rfl;rfl;(focus (repeat constructor));rfl)|((with_reducible apply ZD);rfl))
            refine SK.slot (j := 77) rfl hvS ?_
            (repeat first|(with_reducible first|apply Za|apply Zb|apply Zc|apply Zd|apply Zi|apply Zo)|((with_reducible first|apply ZI|apply ZK|apply ZM);rfl;rfl)|((with_reducible apply Zqb);rfl;rfl;rfl;omega)|((with_reducible apply Zqz);rfl;rfl;(focus (repeat constructor));rfl)|((with_reducible apply ZD);rfl))
            refine SK.meth rfl rfl (event67 _ rfl R ⟨13, a.name, a.text, 0⟩ hf.fit hdn) hy hD (by (repeat constructor)) (by (repeat constructor)) (by (repeat constructor)) (by (repeat constructor)) (by (repeat constructor)) (fun y1 hy1 => ?_)
            (repeat first|(with_reducible first|apply Za|apply Zb|apply Zc|apply Zd|apply Zi|apply Zp|apply Zs)|((with_reducible apply ZJ);rfl;rfl))
            exact SK.retQ rfl (by (repeat constructor)) (fun w' hm' => ⟨y1, by rw [he]; exact hy1, by rw [he]; rfl, by rw [he]; exact hm'.wk (by (repeat constructor))⟩)
theorem happ_start {D : Df} {R : Rn} {e : Ev} (h1 : e.kind = 1) (h0 : R.S.status = 0) : (happ D R e).S.nodes.length = D.nodes.length := by
  unfold happ applyL applyQ
  rw [if_pos h1, if_pos h0]
  simp
@[reducible] def named (R : Rn) (s : ByteArray) : Rn := ⟨⟨R.S.df, s, R.S.parent, R.S.pnode, R.S.status, R.S.text, R.S.nodes, R.S.sigs, R.S.events⟩, R.ev, R.tk⟩
theorem Room.named {D : Df} {R : Rn} {k : Nat} (h : Room D R k) (s : ByteArray) (hs : s.size ≤ 1000) : Room D (named R s) k :=
  ⟨h.dn, h.nm, h.af, hs, h.sn, h.sg, h.ev, h.tk, h.tx⟩
theorem ORn.named {R : Rn} {y : Y4} (h : ORn R y) (s : ByteArray) : ORn (named R s) y := h
set_option maxRecDepth 100000 in
set_option maxHeartbeats 8000000 in
theorem step43 (c : Cx) (hT : c.T = 97) (R : Rn) (hDO : DefOK c.D) (hl : R.S.status = 1 → R.S.nodes.length = c.D.nodes.length) (a : Inp) (hna : a.name.size ≤ 1000) (hf : Room c.D R 6000) : MethG 43 c [.agg a.c.toArray] R (stepR c.D c.now R a).2 (.int .i64 (stepR c.D c.now R a).1) := by
  intro b y w hy hD hG hm
  obtain ⟨T, D, dsl, now⟩ := c
  dsimp only at *
  subst hT
  have hdn := hf.dn
  refine enterF (M := rnM _ b R y) Try.func43 rfl Try.ntmps43 rfl hm ?_
  by_cases k1 : a.kind = 1
  · by_cases s0 : R.S.status = 0
    · have he : stepR D now R a = (0, onL D now (happ D (named R a.name) ⟨1, a.pnode, a.parent, 0⟩)) := by
        unfold stepR; rw [if_pos k1, if_neg (by simpa using s0)]
      have hf1 : Room D (named R a.name) 6000 := hf.named a.name hna
      (repeat first|(with_reducible first|apply Za|apply Zb|apply Zc|apply Zd|apply Zi|apply Zr|apply Zs)|((with_reducible first|apply ZI|apply ZJ|apply ZK|apply ZN|apply ZO);rfl;rfl)|((with_reducible apply ZW);rfl;rfl;rfl;omega)|((with_reducible apply Zqd);rfl;rfl;rfl;omega)|((with_reducible first|apply Zqm|apply Zqo|apply Zqr);rfl;rfl;rfl)|((with_reducible apply Zqz);rfl;rfl;(focus (repeat constructor));rfl)|((with_reducible apply Zrb);rfl;rfl;(first|rfl|exact OwnD.plain_val _ _);(focus (repeat constructor));rfl)|((with_reducible apply Zrf);rfl;rfl;intro _)|((with_reducible apply ZC);rfl)|((with_reducible apply ZD);rfl))
      refine SK.meth (vs := [.agg (Ev.c ⟨1, a.pnode, a.parent, 0⟩).toArray]) rfl rfl (happens55 _ rfl (named R a.name) ⟨1, a.pnode, a.parent, 0⟩ hf1.fit hdn) (hy.named a.name) hD (by (repeat constructor)) (by (repeat constructor)) (by (repeat constructor)) (by (repeat constructor)) (by (repeat constructor)) (fun y1 hy1 => ?_)
      have hr1 : Room D (happ D (named R a.name) ⟨1, a.pnode, a.parent, 0⟩) 5999 := hf1.happ _ (show (1 : Int) ≠ 13 by decide)
      (repeat first|(with_reducible first|apply Za|apply Zb|apply Zc|apply Zd|apply Zi|apply Zs)|((with_reducible apply ZI);rfl;rfl))
      refine SK.meth rfl rfl (on56 _ rfl hDO (happ D (named R a.name) ⟨1, a.pnode, a.parent, 0⟩) (Room.on (hr1.mono (by omega))) (happ_start (R := named R a.name) rfl s0)) hy1 hD (by (repeat constructor)) (by (repeat constructor)) (by (repeat constructor)) (by (repeat constructor)) (by (repeat constructor)) (fun y2 hy2 => ?_)
      (repeat first|(with_reducible first|apply Za|apply Zb|apply Zc|apply Zd|apply Zi|apply Zk|apply Zm|apply Zp|apply Zs)|((with_reducible apply ZJ);rfl;rfl))
      exact SK.retQ rfl (by (repeat constructor)) (fun w' hm' => ⟨y2, by rw [he]; exact hy2, by rw [he]; rfl, by rw [he]; exact hm'.wk (by (repeat constructor))⟩)
    · have he : stepR D now R a = (7, R) := by unfold stepR; rw [if_pos k1, if_pos s0]
      (repeat first|(with_reducible first|apply Za|apply Zb|apply Zc|apply Zd|apply Zi|apply Zk|apply Zm|apply Zp|apply Zr|apply Zs)|((with_reducible first|apply ZI|apply ZJ|apply ZK|apply ZN|apply ZO);rfl;rfl)|((with_reducible first|apply ZW|apply ZX);rfl;rfl;rfl;omega)|((with_reducible first|apply Zqm|apply Zqo);rfl;rfl;rfl)|((with_reducible apply Zqz);rfl;rfl;(focus (repeat constructor));rfl)|((with_reducible apply Zrf);rfl;rfl;intro _)|((with_reducible apply ZC);rfl))
      exact SK.retQ rfl (by (repeat constructor)) (fun w' hm' => ⟨y, by rw [he]; exact hy, by rw [he]; rfl, by rw [he]; exact hm'.wk (by (repeat constructor))⟩)
  by_cases s0 : R.S.status = 0
  · have he : stepR D now R a = (6, R) := by unfold stepR; rw [if_neg k1, if_pos s0]
    (repeat first|(with_reducible first|apply Za|apply Zb|apply Zc|apply Zd|apply Zi|apply Zk|apply Zm|apply Zp|apply Zr|apply Zs)|((with_reducible first|apply ZI|apply ZJ|apply ZK|apply ZN);rfl;rfl)|((with_reducible apply ZW);rfl;rfl;rfl;omega)|((with_reducible apply Zqc);rfl;rfl;rfl;omega)|((with_reducible apply Zqm);rfl;rfl;rfl)|((with_reducible apply Zqs);rfl;rfl;rfl)|((with_reducible apply Zqx);rfl;rfl;rfl;rfl)|((with_reducible apply Zqz);rfl;rfl;(focus (repeat constructor));rfl)|((with_reducible apply Zrf);rfl;rfl;intro _)|((with_reducible apply ZC);rfl)|((with_reducible apply ZD);rfl))
    exact SK.retQ rfl (by (repeat constructor)) (fun w' hm' => ⟨y, by rw [he]; exact hy, by rw [he]; rfl, by rw [he]; exact hm'.wk (by (repeat constructor))⟩)
  by_cases s1 : R.S.status = 1
  · have hs2 : ¬ (R.S.status ≠ 1) := fun h => h s1
    by_cases k2 : a.kind = 2
    · skip
      have he : stepR D now R a = signalL D now R a := by unfold stepR; rw [if_neg k1, if_neg s0, if_neg hs2, if_pos k2]
      (repeat first|(with_reducible first|apply Za|apply Zb|apply Zc|apply Zd|apply Zi|apply Zl|apply Zo|apply Zr|apply Zs)|((with_reducible first|apply ZI|apply ZJ|apply ZK|apply ZN);rfl;rfl)|((with_reducible apply ZW);rfl;rfl;rfl;omega)|((with_reducible first|apply Zqc|apply Zqd);rfl;rfl;rfl;omega)|((with_reducible apply Zqm);rfl;rfl;rfl)|((with_reducible apply Zqs);rfl;rfl;rfl)|((with_reducible apply Zqx);rfl;rfl;rfl;rfl)|((with_reducible first|apply Zqz|apply Zra);rfl;rfl;(focus (repeat constructor));rfl)|((with_reducible apply Zrf);rfl;rfl;intro _)|((with_reducible apply ZC);rfl)|((with_reducible apply ZD);rfl))
      refine SK.methG rfl rfl (signal57 _ rfl R hDO (hl s1) a hna hf) hy hD hG (by (repeat constructor)) (by (repeat constructor)) (by (repeat constructor)) (by (repeat constructor)) (by (repeat constructor)) (fun y2 hy2 => ?_)
      (repeat first|(with_reducible first|apply Zc|apply Zd|apply Zi|apply Zk|apply Zm|apply Zp|apply Zs)|((with_reducible apply ZJ);rfl;rfl))
      exact SK.retQ rfl (by (repeat constructor)) (fun w' hm' => ⟨y2, by rw [he]; exact hy2, by rw [he]; rfl, by rw [he]; exact hm'.wk (by (repeat constructor))⟩)
    by_cases k3 : a.kind = 3
    · skip
      have he : stepR D now R a = takeL D now R a := by unfold stepR; rw [if_neg k1, if_neg s0, if_neg hs2, if_neg k2, if_pos k3]
      (repeat first|(with_reducible first|apply Za|apply Zb|apply Zc|apply Zd|apply Zi|apply Zl|apply Zo|apply Zr|apply Zs)|((with_reducible first|apply ZI|apply ZJ|apply ZK|apply ZN);rfl;rfl)|((with_reducible apply ZW);rfl;rfl;rfl;omega)|((with_reducible first|apply Zqc|apply Zqd);rfl;rfl;rfl;omega)|((with_reducible apply Zqm);rfl;rfl;rfl)|((with_reducible apply Zqs);rfl;rfl;rfl)|((with_reducible apply Zqx);rfl;rfl;rfl;rfl)|((with_reducible first|apply Zqz|apply Zra);rfl;rfl;(focus (repeat constructor));rfl)|((with_reducible apply Zrf);rfl;rfl;intro _)|((with_reducible apply ZC);rfl)|((with_reducible apply ZD);rfl))
      refine SK.meth rfl rfl (take58 _ rfl R a hf) hy hD (by (repeat constructor)) (by (repeat constructor)) (by (repeat constructor)) (by (repeat constructor)) (by (repeat constructor)) (fun y2 hy2 => ?_)
      (repeat first|(with_reducible first|apply Zc|apply Zd|apply Zi|apply Zk|apply Zm|apply Zp|apply Zs)|((with_reducible apply ZJ);rfl;rfl))
      exact SK.retQ rfl (by (repeat constructor)) (fun w' hm' => ⟨y2, by rw [he]; exact hy2, by rw [he]; rfl, by rw [he]; exact hm'.wk (by (repeat constructor))⟩)
    by_cases k4 : a.kind = 4
    · skip
      have he : stepR D now R a = endsL D now R a := by unfold stepR; rw [if_neg k1, if_neg s0, if_neg hs2, if_neg k2, if_neg k3, if_pos (.inl k4)]
      (repeat first|(with_reducible first|apply Za|apply Zb|apply Zc|apply Zd|apply Zi|apply Zl|apply Zo|apply Zr|apply Zs)|((with_reducible first|apply ZI|apply ZJ|apply ZK|apply ZN);rfl;rfl)|((with_reducible apply ZW);rfl;rfl;rfl;omega)|((with_reducible first|apply Zqc|apply Zqd);rfl;rfl;rfl;omega)|((with_reducible apply Zqm);rfl;rfl;rfl)|((with_reducible apply Zqs);rfl;rfl;rfl)|((with_reducible apply Zqx);rfl;rfl;rfl;rfl)|((with_reducible first|apply Zqz|apply Zra);rfl;rfl;(focus (repeat constructor));rfl)|((with_reducible apply Zrf);rfl;rfl;intro _)|((with_reducible apply ZC);rfl)|((with_reducible apply ZD);rfl))
      refine SK.meth rfl rfl (ends59 _ rfl R hDO (hl s1) a hf) hy hD (by (repeat constructor)) (by (repeat constructor)) (by (repeat constructor)) (by (repeat constructor)) (by (repeat constructor)) (fun y2 hy2 => ?_)
      (repeat first|(with_reducible first|apply Zc|apply Zd|apply Zi|apply Zk|apply Zm|apply Zp|apply Zs)|((with_reducible apply ZJ);rfl;rfl))
      exact SK.retQ rfl (by (repeat constructor)) (fun w' hm' => ⟨y2, by rw [he]; exact hy2, by rw [he]; rfl, by rw [he]; exact hm'.wk (by (repeat constructor))⟩)
    by_cases k5 : a.kind = 5
    · skip
      have he : stepR D now R a = endsL D now R a := by unfold stepR; rw [if_neg k1, if_neg s0, if_neg hs2, if_neg k2, if_neg k3, if_pos (.inr (.inl k5))]
      (repeat first|(with_reducible first|apply Za|apply Zb|apply Zc|apply Zd|apply Zi|apply Zl|apply Zo|apply Zr|apply Zs)|((with_reducible first|apply ZI|apply ZJ|apply ZK|apply ZN);rfl;rfl)|((with_reducible apply ZW);rfl;rfl;rfl;omega)|((with_reducible first|apply Zqc|apply Zqd);rfl;rfl;rfl;omega)|((with_reducible apply Zqm);rfl;rfl;rfl)|((with_reducible apply Zqs);rfl;rfl;rfl)|((with_reducible apply Zqx);rfl;rfl;rfl;rfl)|((with_reducible first|apply Zqz|apply Zra);rfl;rfl;(focus (repeat constructor));rfl)|((with_reducible apply Zrf);rfl;rfl;intro _)|((with_reducible apply ZC);rfl)|((with_reducible apply ZD);rfl))
      refine SK.meth rfl rfl (ends59 _ rfl R hDO (hl s1) a hf) hy hD (by (repeat constructor)) (by (repeat constructor)) (by (repeat constructor)) (by (repeat constructor)) (by (repeat constructor)) (fun y2 hy2 => ?_)
      (repeat first|(with_reducible first|apply Zc|apply Zd|apply Zi|apply Zk|apply Zm|apply Zp|apply Zs)|((with_reducible apply ZJ);rfl;rfl))
      exact SK.retQ rfl (by (repeat constructor)) (fun w' hm' => ⟨y2, by rw [he]; exact hy2, by rw [he]; rfl, by rw [he]; exact hm'.wk (by (repeat constructor))⟩)
    by_cases k6 : a.kind = 6
    · skip
      have he : stepR D now R a = endsL D now R a := by unfold stepR; rw [if_neg k1, if_neg s0, if_neg hs2, if_neg k2, if_neg k3, if_pos (.inr (.inr k6))]
      (repeat first|(with_reducible first|apply Za|apply Zb|apply Zc|apply Zd|apply Zi|apply Zl|apply Zo|apply Zr|apply Zs)|((with_reducible first|apply ZI|apply ZJ|apply ZK|apply ZN);rfl;rfl)|((with_reducible apply ZW);rfl;rfl;rfl;omega)|((with_reducible first|apply Zqc|apply Zqd);rfl;rfl;rfl;omega)|((with_reducible apply Zqm);rfl;rfl;rfl)|((with_reducible apply Zqs);rfl;rfl;rfl)|((with_reducible apply Zqx);rfl;rfl;rfl;rfl)|((with_reducible first|apply Zqz|apply Zra);rfl;rfl;(focus (repeat constructor));rfl)|((with_reducible apply Zrf);rfl;rfl;intro _)|((with_reducible apply ZC);rfl)|((with_reducible apply ZD);rfl))
      refine SK.meth rfl rfl (ends59 _ rfl R hDO (hl s1) a hf) hy hD (by (repeat constructor)) (by (repeat constructor)) (by (repeat constructor)) (by (repeat constructor)) (by (repeat constructor)) (fun y2 hy2 => ?_)
      (repeat first|(with_reducible first|apply Zc|apply Zd|apply Zi|apply Zk|apply Zm|apply Zp|apply Zs)|((with_reducible apply ZJ);rfl;rfl))
      exact SK.retQ rfl (by (repeat constructor)) (fun w' hm' => ⟨y2, by rw [he]; exact hy2, by rw [he]; rfl, by rw [he]; exact hm'.wk (by (repeat constructor))⟩)
    have k456 : ¬ (a.kind = 4 ∨ a.kind = 5 ∨ a.kind = 6) := by omega
    by_cases k7 : a.kind = 7
    · skip
      have he : stepR D now R a = toldL D now R a := by unfold stepR; rw [if_neg k1, if_neg s0, if_neg hs2, if_neg k2, if_neg k3, if_neg k456, if_pos k7]
      (repeat first|(with_reducible first|apply Za|apply Zb|apply Zc|apply Zd|apply Zi|apply Zl|apply Zo|apply Zr|apply Zs)|((with_reducible first|apply ZI|apply ZJ|apply ZK|apply ZN);rfl;rfl)|((with_reducible apply ZW);rfl;rfl;rfl;omega)|((with_reducible first|apply Zqc|apply Zqd);rfl;rfl;rfl;omega)|((with_reducible apply Zqm);rfl;rfl;rfl)|((with_reducible apply Zqs);rfl;rfl;rfl)|((with_reducible apply Zqx);rfl;rfl;rfl;rfl)|((with_reducible first|apply Zqz|apply Zra);rfl;rfl;(focus (repeat constructor));rfl)|((with_reducible apply Zrf);rfl;rfl;intro _)|((with_reducible apply ZC);rfl)|((with_reducible apply ZD);rfl))
      refine SK.meth rfl rfl (told60 _ rfl R hDO (hl s1) a hf) hy hD (by (repeat constructor)) (by (repeat constructor)) (by (repeat constructor)) (by (repeat constructor)) (by (repeat constructor)) (fun y2 hy2 => ?_)
      (repeat first|(with_reducible first|apply Zc|apply Zd|apply Zi|apply Zk|apply Zm|apply Zp|apply Zs)|((with_reducible apply ZJ);rfl;rfl))
      exact SK.retQ rfl (by (repeat constructor)) (fun w' hm' => ⟨y2, by rw [he]; exact hy2, by rw [he]; rfl, by rw [he]; exact hm'.wk (by (repeat constructor))⟩)
    by_cases k8 : a.kind = 8
    · by_cases hsz : 256 < a.text.size
      · have he : stepR D now R a = (9, R) := by unfold stepR; rw [if_neg k1, if_neg s0, if_neg hs2, if_neg k2, if_neg k3, if_neg k456, if_neg k7, if_pos k8, if_pos hsz]
        (repeat first|(with_reducible first|apply Za|apply Zb|apply Zc|apply Zd|apply Zi|apply Zk|apply Zl|apply Zm|apply Zo|apply Zp|apply Zr|apply Zs)|((with_reducible first|apply ZI|apply ZJ|apply ZK|apply ZN);rfl;rfl)|((with_reducible apply ZQ);rfl;rfl)|((with_reducible first|apply ZU|apply ZW);rfl;rfl;rfl;omega)|((with_reducible first|apply Zqc|apply Zqd);rfl;rfl;rfl;omega)|((with_reducible apply Zqm);rfl;rfl;rfl)|((with_reducible apply Zqs);rfl;rfl;rfl)|((with_reducible apply Zqx);rfl;rfl;rfl;rfl)|((with_reducible apply Zqz);rfl;rfl;(focus (repeat constructor));rfl)|((with_reducible apply Zrf);rfl;rfl;intro _)|((with_reducible apply ZC);rfl)|((with_reducible apply ZD);rfl))
        exact SK.retQ rfl (by (repeat constructor)) (fun w' hm' => ⟨y, by rw [he]; exact hy, by rw [he]; rfl, by rw [he]; exact hm'.wk (by (repeat constructor))⟩)
      · have he : stepR D now R a = (0, cls D R 4 a.text) := by unfold stepR; rw [if_neg k1, if_neg s0, if_neg hs2, if_neg k2, if_neg k3, if_neg k456, if_neg k7, if_pos k8, if_neg hsz]
        (repeat first|(with_reducible first|apply Za|apply Zb|apply Zc|apply Zd|apply Zi|apply Zl|apply Zo|apply Zr|apply Zs)|((with_reducible first|apply ZI|apply ZJ|apply ZK|apply ZN);rfl;rfl)|((with_reducible apply ZQ);rfl;rfl)|((with_reducible apply ZW);rfl;rfl;rfl;omega)|((with_reducible first|apply Zqa|apply Zqc|apply Zqd);rfl;rfl;rfl;omega)|((with_reducible apply Zqm);rfl;rfl;rfl)|((with_reducible apply Zqs);rfl;rfl;rfl)|((with_reducible apply Zqx);rfl;rfl;rfl;rfl)|((with_reducible apply Zqz);rfl;rfl;(focus (repeat constructor));rfl)|((with_reducible apply Zrf);rfl;rfl;intro _)|((with_reducible apply ZC);rfl)|((with_reducible apply ZD);rfl))
        refine SK.meth rfl rfl (close61 _ rfl R 4 a.text (hf.mono (by omega))) hy hD (by (repeat constructor)) (by (repeat constructor)) (by (repeat constructor)) (by (repeat constructor)) (by (repeat constructor)) (fun y2 hy2 => ?_)
        (repeat first|(with_reducible first|apply Za|apply Zb|apply Zc|apply Zd|apply Zi|apply Zk|apply Zm|apply Zp|apply Zs)|((with_reducible apply ZJ);rfl;rfl))
        exact SK.retQ rfl (by (repeat constructor)) (fun w' hm' => ⟨y2, by rw [he]; exact hy2, by rw [he]; rfl, by rw [he]; exact hm'.wk (by (repeat constructor))⟩)
    · have he : stepR D now R a = (1, R) := by unfold stepR; rw [if_neg k1, if_neg s0, if_neg hs2, if_neg k2, if_neg k3, if_neg k456, if_neg k7, if_neg k8]
      (repeat first|(with_reducible first|apply Za|apply Zb|apply Zc|apply Zd|apply Zi|apply Zl|apply Zo|apply Zp|apply Zr|apply Zs)|((with_reducible first|apply ZI|apply ZJ|apply ZK|apply ZN);rfl;rfl)|((with_reducible first|apply Zqc|apply Zqd);rfl;rfl;rfl;omega)|((with_reducible apply Zqm);rfl;rfl;rfl)|((with_reducible apply Zqs);rfl;rfl;rfl)|((with_reducible apply Zqx);rfl;rfl;rfl;rfl)|((with_reducible apply Zqz);rfl;rfl;(focus (repeat constructor));rfl)|((with_reducible apply Zrf);rfl;rfl;intro _)|((with_reducible apply ZD);rfl))
      exact SK.retQ rfl (by (repeat constructor)) (fun w' hm' => ⟨y, by rw [he]; exact hy, by rw [he]; rfl, by rw [he]; exact hm'.wk (by (repeat constructor))⟩)
  · have he : stepR D now R a = (11, R) := by unfold stepR; rw [if_neg k1, if_neg s0, if_pos s1]
    (repeat first|(with_reducible first|apply Za|apply Zb|apply Zc|apply Zd|apply Zi|apply Zk|apply Zm|apply Zp|apply Zr|apply Zs)|((with_reducible first|apply ZI|apply ZJ|apply ZK|apply ZN);rfl;rfl)|((with_reducible apply ZX);rfl;rfl;rfl;omega)|((with_reducible apply Zqc);rfl;rfl;rfl;omega)|((with_reducible apply Zqm);rfl;rfl;rfl)|((with_reducible apply Zqs);rfl;rfl;rfl)|((with_reducible apply Zqx);rfl;rfl;rfl;rfl)|((with_reducible apply Zqz);rfl;rfl;(focus (repeat constructor));rfl)|((with_reducible apply Zrf);rfl;rfl;intro _)|((with_reducible apply ZC);rfl)|((with_reducible apply ZD);rfl))
    exact SK.retQ rfl (by (repeat constructor)) (fun w' hm' => ⟨y, by rw [he]; exact hy, by rw [he]; rfl, by rw [he]; exact hm'.wk (by (repeat constructor))⟩)
set_option maxRecDepth 100000 in
set_option maxHeartbeats 8000000 in
theorem does52 (c : Cx) (hT : c.T = 113) (R : Rn) (hDO : DefOK c.D) (hl : R.S.status = 1 → R.S.nodes.length = c.D.nodes.length) (a : Inp) (hna : a.name.size ≤ 1000) (hnow : a.now = c.now) (hf : Room c.D R 6000) : MethG 52 c [.agg a.c.toArray] R (stepR c.D c.now R a).2 (.int .i64 (stepR c.D c.now R a).1) := by
  intro b y w hy hD hG hm
  obtain ⟨T, D, dsl, now⟩ := c
  dsimp only at *
  subst hT
  have hdn := hf.dn
  refine enterF (M := rnM _ b R y) Try.func52 rfl Try.ntmps52 rfl hm ?_
  by_cases k1 : a.kind = 1
  · by_cases s0 : R.S.status = 0
    · have he : stepR D now R a = (0, onL D now (happ D (named R a.name) ⟨1, a.pnode, a.parent, 0⟩)) := by
        unfold stepR; rw [if_pos k1, if_neg (by simpa using s0)]
      have hf1 : Room D (named R a.name) 6000 := hf.named a.name hna
      (repeat first|(with_reducible first|apply Za|apply Zb|apply Zc|apply Zd|apply Zi|apply Zo|apply Zs)|((with_reducible first|apply ZI|apply ZJ|apply ZK|apply ZN);rfl;rfl)|((with_reducible apply ZW);rfl;rfl;rfl;omega)|((with_reducible apply Zqd);rfl;rfl;rfl;omega)|((with_reducible apply Zqm);rfl;rfl;rfl)|((with_reducible apply Zqz);rfl;rfl;(focus (repeat constructor));rfl)|((with_reducible apply Zrb);rfl;rfl;(first|rfl|exact OwnD.plain_val _ _);(focus (repeat constructor));rfl)|((with_reducible apply Zrf);rfl;rfl;intro _)|((with_reducible apply ZC);rfl)|((with_reducible apply ZD);rfl))
      refine SK.meth rfl rfl (event67 _ rfl (named R a.name) ⟨1, a.pnode, a.parent, 0⟩ hf1.fit hdn) (hy.named a.name) hD (by (repeat constructor)) (by (repeat constructor)) (by (repeat constructor)) (by (repeat constructor)) (by (repeat constructor)) (fun y1 hy1 => ?_)
      have hr1 : Room D (happ D (named R a.name) ⟨1, a.pnode, a.parent, 0⟩) 5999 := hf1.happ _ (show (1 : Int) ≠ 13 by decide)
      (repeat first|(with_reducible first|apply Za|apply Zb|apply Zc|apply Zd|apply Zi|apply Zs)|((with_reducible apply ZI);rfl;rfl))
      refine SK.meth rfl rfl (on68 _ rfl hDO (happ D (named R a.name) ⟨1, a.pnode, a.parent, 0⟩) (Room.on (hr1.mono (by omega))) (happ_start (R := named R a.name) rfl s0)) hy1 hD (by (repeat constructor)) (by (repeat constructor)) (by (repeat constructor)) (by (repeat constructor)) (by (repeat constructor)) (fun y2 hy2 => ?_)
      (repeat first|(with_reducible first|apply Za|apply Zb|apply Zc|apply Zd|apply Zi|apply Zk|apply Zp|apply Zs)|((with_reducible apply ZJ);rfl;rfl))
      exact SK.retQ rfl (by (repeat constructor)) (fun w' hm' => ⟨y2, by rw [he]; exact hy2, by rw [he]; rfl, by rw [he]; exact hm'.wk (by (repeat constructor))⟩)
    · have he : stepR D now R a = (7, R) := by unfold stepR; rw [if_pos k1, if_pos s0]
      (repeat first|(with_reducible first|apply Za|apply Zb|apply Zc|apply Zd|apply Zi|apply Zk|apply Zp|apply Zs)|((with_reducible first|apply ZI|apply ZJ|apply ZK|apply ZN);rfl;rfl)|((with_reducible first|apply ZW|apply ZX);rfl;rfl;rfl;omega)|((with_reducible apply Zqm);rfl;rfl;rfl)|((with_reducible apply Zqz);rfl;rfl;(focus (repeat constructor));rfl)|((with_reducible apply Zrf);rfl;rfl;intro _)|((with_reducible apply ZC);rfl))
      exact SK.retQ rfl (by (repeat constructor)) (fun w' hm' => ⟨y, by rw [he]; exact hy, by rw [he]; rfl, by rw [he]; exact hm'.wk (by (repeat constructor))⟩)
  by_cases s0 : R.S.status = 0
  · have he : stepR D now R a = (6, R) := by unfold stepR; rw [if_neg k1, if_pos s0]
    (repeat first|(with_reducible first|apply Za|apply Zb|apply Zc|apply Zd|apply Zi|apply Zk|apply Zo|apply Zp|apply Zs)|((with_reducible first|apply ZI|apply ZJ|apply ZK|apply ZN);rfl;rfl)|((with_reducible apply ZW);rfl;rfl;rfl;omega)|((with_reducible apply Zqc);rfl;rfl;rfl;omega)|((with_reducible apply Zqm);rfl;rfl;rfl)|((with_reducible apply Zqz);rfl;rfl;(focus (repeat constructor));rfl)|((with_reducible apply Zrf);rfl;rfl;intro _)|((with_reducible apply ZC);rfl)|((with_reducible apply ZD);rfl))
    exact SK.retQ rfl (by (repeat constructor)) (fun w' hm' => ⟨y, by rw [he]; exact hy, by rw [he]; rfl, by rw [he]; exact hm'.wk (by (repeat constructor))⟩)
  by_cases s1 : R.S.status = 1
  · have hs2 : ¬ (R.S.status ≠ 1) := fun h => h s1
    by_cases k2 : a.kind = 2
    · skip
      have he : stepR D now R a = signalL D now R a := by unfold stepR; rw [if_neg k1, if_neg s0, if_neg hs2, if_pos k2]
      (repeat first|(with_reducible first|apply Za|apply Zb|apply Zc|apply Zd|apply Zi|apply Zo|apply Zr|apply Zs)|((with_reducible first|apply ZI|apply ZJ|apply ZK|apply ZN);rfl;rfl)|((with_reducible apply ZW);rfl;rfl;rfl;omega)|((with_reducible first|apply Zqc|apply Zqd);rfl;rfl;rfl;omega)|((with_reducible apply Zqm);rfl;rfl;rfl)|((with_reducible first|apply Zqz|apply Zra);rfl;rfl;(focus (repeat constructor));rfl)|((with_reducible apply Zrf);rfl;rfl;intro _)|((with_reducible apply ZC);rfl)|((with_reducible apply ZD);rfl))
      refine SK.methG rfl rfl (signal69 _ rfl R hDO (hl s1) a hna hf) hy hD hG (by (repeat constructor)) (by (repeat constructor)) (by (repeat constructor)) (by (repeat constructor)) (by (repeat constructor)) (fun y2 hy2 => ?_)
      (repeat first|(with_reducible first|apply Zc|apply Zd|apply Zi|apply Zk|apply Zm|apply Zp|apply Zs)|((with_reducible apply ZJ);rfl;rfl))
      exact SK.retQ rfl (by (repeat constructor)) (fun w' hm' => ⟨y2, by rw [he]; exact hy2, by rw [he]; rfl, by rw [he]; exact hm'.wk (by (repeat constructor))⟩)
    by_cases k3 : a.kind = 3
    · skip
      have he : stepR D now R a = takeL D now R a := by unfold stepR; rw [if_neg k1, if_neg s0, if_neg hs2, if_neg k2, if_pos k3]
      (repeat first|(with_reducible first|apply Za|apply Zb|apply Zc|apply Zd|apply Zi|apply Zo|apply Zr|apply Zs)|((with_reducible first|apply ZI|apply ZJ|apply ZK|apply ZN);rfl;rfl)|((with_reducible apply ZW);rfl;rfl;rfl;omega)|((with_reducible first|apply Zqc|apply Zqd);rfl;rfl;rfl;omega)|((with_reducible apply Zqm);rfl;rfl;rfl)|((with_reducible first|apply Zqz|apply Zra);rfl;rfl;(focus (repeat constructor));rfl)|((with_reducible apply Zrf);rfl;rfl;intro _)|((with_reducible apply ZC);rfl)|((with_reducible apply ZD);rfl))
      refine SK.meth rfl rfl (take70 _ rfl R a hnow k3 hf) hy hD (by (repeat constructor)) (by (repeat constructor)) (by (repeat constructor)) (by (repeat constructor)) (by (repeat constructor)) (fun y2 hy2 => ?_)
      (repeat first|(with_reducible first|apply Zc|apply Zd|apply Zi|apply Zk|apply Zm|apply Zp|apply Zs)|((with_reducible apply ZJ);rfl;rfl))
      exact SK.retQ rfl (by (repeat constructor)) (fun w' hm' => ⟨y2, by rw [he]; exact hy2, by rw [he]; rfl, by rw [he]; exact hm'.wk (by (repeat constructor))⟩)
    by_cases k4 : a.kind = 4
    · skip
      have he : stepR D now R a = endsL D now R a := by unfold stepR; rw [if_neg k1, if_neg s0, if_neg hs2, if_neg k2, if_neg k3, if_pos (.inl k4)]
      (repeat first|(with_reducible first|apply Za|apply Zb|apply Zc|apply Zd|apply Zi|apply Zo|apply Zr|apply Zs)|((with_reducible first|apply ZI|apply ZJ|apply ZK|apply ZN);rfl;rfl)|((with_reducible apply ZW);rfl;rfl;rfl;omega)|((with_reducible first|apply Zqc|apply Zqd);rfl;rfl;rfl;omega)|((with_reducible apply Zqm);rfl;rfl;rfl)|((with_reducible first|apply Zqz|apply Zra);rfl;rfl;(focus (repeat constructor));rfl)|((with_reducible apply Zrf);rfl;rfl;intro _)|((with_reducible apply ZC);rfl)|((with_reducible apply ZD);rfl))
      refine SK.meth rfl rfl (ends70 _ rfl R hDO (hl s1) a (by omega) hf) hy hD (by (repeat constructor)) (by (repeat constructor)) (by (repeat constructor)) (by (repeat constructor)) (by (repeat constructor)) (fun y2 hy2 => ?_)
      (repeat first|(with_reducible first|apply Zc|apply Zd|apply Zi|apply Zk|apply Zm|apply Zp|apply Zs)|((with_reducible apply ZJ);rfl;rfl))
      exact SK.retQ rfl (by (repeat constructor)) (fun w' hm' => ⟨y2, by rw [he]; exact hy2, by rw [he]; rfl, by rw [he]; exact hm'.wk (by (repeat constructor))⟩)
    by_cases k5 : a.kind = 5
    · skip
      have he : stepR D now R a = endsL D now R a := by unfold stepR; rw [if_neg k1, if_neg s0, if_neg hs2, if_neg k2, if_neg k3, if_pos (.inr (.inl k5))]
      (repeat first|(with_reducible first|apply Za|apply Zb|apply Zc|apply Zd|apply Zi|apply Zo|apply Zr|apply Zs)|((with_reducible first|apply ZI|apply ZJ|apply ZK|apply ZN);rfl;rfl)|((with_reducible apply ZW);rfl;rfl;rfl;omega)|((with_reducible first|apply Zqc|apply Zqd);rfl;rfl;rfl;omega)|((with_reducible apply Zqm);rfl;rfl;rfl)|((with_reducible first|apply Zqz|apply Zra);rfl;rfl;(focus (repeat constructor));rfl)|((with_reducible apply Zrf);rfl;rfl;intro _)|((with_reducible apply ZC);rfl)|((with_reducible apply ZD);rfl))
      refine SK.meth rfl rfl (ends70 _ rfl R hDO (hl s1) a (by omega) hf) hy hD (by (repeat constructor)) (by (repeat constructor)) (by (repeat constructor)) (by (repeat constructor)) (by (repeat constructor)) (fun y2 hy2 => ?_)
      (repeat first|(with_reducible first|apply Zc|apply Zd|apply Zi|apply Zk|apply Zm|apply Zp|apply Zs)|((with_reducible apply ZJ);rfl;rfl))
      exact SK.retQ rfl (by (repeat constructor)) (fun w' hm' => ⟨y2, by rw [he]; exact hy2, by rw [he]; rfl, by rw [he]; exact hm'.wk (by (repeat constructor))⟩)
    by_cases k6 : a.kind = 6
    · skip
      have he : stepR D now R a = endsL D now R a := by unfold stepR; rw [if_neg k1, if_neg s0, if_neg hs2, if_neg k2, if_neg k3, if_pos (.inr (.inr k6))]
      (repeat first|(with_reducible first|apply Za|apply Zb|apply Zc|apply Zd|apply Zi|apply Zo|apply Zr|apply Zs)|((with_reducible first|apply ZI|apply ZJ|apply ZK|apply ZN);rfl;rfl)|((with_reducible apply ZW);rfl;rfl;rfl;omega)|((with_reducible first|apply Zqc|apply Zqd);rfl;rfl;rfl;omega)|((with_reducible apply Zqm);rfl;rfl;rfl)|((with_reducible first|apply Zqz|apply Zra);rfl;rfl;(focus (repeat constructor));rfl)|((with_reducible apply Zrf);rfl;rfl;intro _)|((with_reducible apply ZC);rfl)|((with_reducible apply ZD);rfl))
      refine SK.meth rfl rfl (fire71 _ rfl R hDO (hl s1) a k6 hf) hy hD (by (repeat constructor)) (by (repeat constructor)) (by (repeat constructor)) (by (repeat constructor)) (by (repeat constructor)) (fun y2 hy2 => ?_)
      (repeat first|(with_reducible first|apply Zc|apply Zd|apply Zi|apply Zk|apply Zm|apply Zp|apply Zs)|((with_reducible apply ZJ);rfl;rfl))
      exact SK.retQ rfl (by (repeat constructor)) (fun w' hm' => ⟨y2, by rw [he]; exact hy2, by rw [he]; rfl, by rw [he]; exact hm'.wk (by (repeat constructor))⟩)
    have k456 : ¬ (a.kind = 4 ∨ a.kind = 5 ∨ a.kind = 6) := by omega
    by_cases k7 : a.kind = 7
    · skip
      have he : stepR D now R a = toldL D now R a := by unfold stepR; rw [if_neg k1, if_neg s0, if_neg hs2, if_neg k2, if_neg k3, if_neg k456, if_pos k7]
      (repeat first|(with_reducible first|apply Za|apply Zb|apply Zc|apply Zd|apply Zi|apply Zo|apply Zr|apply Zs)|((with_reducible first|apply ZI|apply ZJ|apply ZK|apply ZN);rfl;rfl)|((with_reducible apply ZW);rfl;rfl;rfl;omega)|((with_reducible first|apply Zqc|apply Zqd);rfl;rfl;rfl;omega)|((with_reducible apply Zqm);rfl;rfl;rfl)|((with_reducible first|apply Zqz|apply Zra);rfl;rfl;(focus (repeat constructor));rfl)|((with_reducible apply Zrf);rfl;rfl;intro _)|((with_reducible apply ZC);rfl)|((with_reducible apply ZD);rfl))
      refine SK.meth rfl rfl (child72 _ rfl R hDO (hl s1) a hf) hy hD (by (repeat constructor)) (by (repeat constructor)) (by (repeat constructor)) (by (repeat constructor)) (by (repeat constructor)) (fun y2 hy2 => ?_)
      (repeat first|(with_reducible first|apply Zc|apply Zd|apply Zi|apply Zk|apply Zm|apply Zp|apply Zs)|((with_reducible apply ZJ);rfl;rfl))
      exact SK.retQ rfl (by (repeat constructor)) (fun w' hm' => ⟨y2, by rw [he]; exact hy2, by rw [he]; rfl, by rw [he]; exact hm'.wk (by (repeat constructor))⟩)
    by_cases k8 : a.kind = 8
    · by_cases hsz : 256 < a.text.size
      · have he : stepR D now R a = (9, R) := by unfold stepR; rw [if_neg k1, if_neg s0, if_neg hs2, if_neg k2, if_neg k3, if_neg k456, if_neg k7, if_pos k8, if_pos hsz]
        (repeat first|(with_reducible first|apply Za|apply Zb|apply Zc|apply Zd|apply Zi|apply Zk|apply Zm|apply Zo|apply Zp|apply Zr|apply Zs)|((with_reducible first|apply ZI|apply ZJ|apply ZK|apply ZN);rfl;rfl)|((with_reducible apply ZQ);rfl;rfl)|((with_reducible first|apply ZU|apply ZW);rfl;rfl;rfl;omega)|((with_reducible first|apply Zqc|apply Zqd);rfl;rfl;rfl;omega)|((with_reducible apply Zqm);rfl;rfl;rfl)|((with_reducible apply Zqz);rfl;rfl;(focus (repeat constructor));rfl)|((with_reducible apply Zrf);rfl;rfl;intro _)|((with_reducible apply ZC);rfl)|((with_reducible apply ZD);rfl))
        exact SK.retQ rfl (by (repeat constructor)) (fun w' hm' => ⟨y, by rw [he]; exact hy, by rw [he]; rfl, by rw [he]; exact hm'.wk (by (repeat constructor))⟩)
      · have he : stepR D now R a = (0, cls D R 4 a.text) := by unfold stepR; rw [if_neg k1, if_neg s0, if_neg hs2, if_neg k2, if_neg k3, if_neg k456, if_neg k7, if_pos k8, if_neg hsz]
        (repeat first|(with_reducible first|apply Za|apply Zb|apply Zc|apply Zd|apply Zi|apply Zo|apply Zr|apply Zs)|((with_reducible first|apply ZI|apply ZJ|apply ZK|apply ZN);rfl;rfl)|((with_reducible apply ZQ);rfl;rfl)|((with_reducible apply ZW);rfl;rfl;rfl;omega)|((with_reducible first|apply Zqa|apply Zqc|apply Zqd);rfl;rfl;rfl;omega)|((with_reducible apply Zqm);rfl;rfl;rfl)|((with_reducible apply Zqz);rfl;rfl;(focus (repeat constructor));rfl)|((with_reducible apply Zrf);rfl;rfl;intro _)|((with_reducible apply ZC);rfl)|((with_reducible apply ZD);rfl))
        refine SK.meth rfl rfl (closed73 _ rfl R 4 a.text (hf.mono (by omega))) hy hD (by (repeat constructor)) (by (repeat constructor)) (by (repeat constructor)) (by (repeat constructor)) (by (repeat constructor)) (fun y2 hy2 => ?_)
        (repeat first|(with_reducible first|apply Za|apply Zb|apply Zc|apply Zd|apply Zi|apply Zk|apply Zm|apply Zp|apply Zs)|((with_reducible apply ZJ);rfl;rfl))
        exact SK.retQ rfl (by (repeat constructor)) (fun w' hm' => ⟨y2, by rw [he]; exact hy2, by rw [he]; rfl, by rw [he]; exact hm'.wk (by (repeat constructor))⟩)
    · have he : stepR D now R a = (1, R) := by unfold stepR; rw [if_neg k1, if_neg s0, if_neg hs2, if_neg k2, if_neg k3, if_neg k456, if_neg k7, if_neg k8]
      (repeat first|(with_reducible first|apply Za|apply Zb|apply Zc|apply Zd|apply Zi|apply Zl|apply Zo|apply Zp|apply Zr|apply Zs)|((with_reducible first|apply ZI|apply ZJ|apply ZK|apply ZN);rfl;rfl)|((with_reducible first|apply Zqc|apply Zqd);rfl;rfl;rfl;omega)|((with_reducible apply Zqm);rfl;rfl;rfl)|((with_reducible apply Zqz);rfl;rfl;(focus (repeat constructor));rfl)|((with_reducible apply Zrf);rfl;rfl;intro _)|((with_reducible apply ZD);rfl))
      exact SK.retQ rfl (by (repeat constructor)) (fun w' hm' => ⟨y, by rw [he]; exact hy, by rw [he]; rfl, by rw [he]; exact hm'.wk (by (repeat constructor))⟩)
  · have he : stepR D now R a = (11, R) := by unfold stepR; rw [if_neg k1, if_neg s0, if_pos s1]
    (repeat first|(with_reducible first|apply Za|apply Zb|apply Zc|apply Zd|apply Zi|apply Zk|apply Zo|apply Zp|apply Zs)|((with_reducible first|apply ZI|apply ZJ|apply ZK|apply ZN);rfl;rfl)|((with_reducible apply ZX);rfl;rfl;rfl;omega)|((with_reducible apply Zqc);rfl;rfl;rfl;omega)|((with_reducible apply Zqm);rfl;rfl;rfl)|((with_reducible apply Zqz);rfl;rfl;(focus (repeat constructor));rfl)|((with_reducible apply Zrf);rfl;rfl;intro _)|((with_reducible apply ZC);rfl)|((with_reducible apply ZD);rfl))
    exact SK.retQ rfl (by (repeat constructor)) (fun w' hm' => ⟨y, by rw [he]; exact hy, by rw [he]; rfl, by rw [he]; exact hm'.wk (by (repeat constructor))⟩)
@[reducible] def sta0 : Sta := ⟨e0, e0, e0, e0, 0, e0, [], [], 0⟩
@[reducible] def rn0 : Rn := ⟨sta0, [], []⟩
def stepL (D : Df) (S : Sta) (a : Inp) : Int × Rn := if (stepR D a.now ⟨S, [], []⟩ a).1 = 0 then stepR D a.now ⟨S, [], []⟩ a else ((stepR D a.now ⟨S, [], []⟩ a).1, rn0)
@[reducible] def stepV (e : Int) (R : Rn) (y : Y4) : Value := .tuple #[y.2.1.val R.ev.length, stV R.S y.1, y.2.2.val R.tk.length, .int .i64 e]
@[reducible] def stepM (R : Rn) (y : Y4) : ML := [y.1.1.ent (R.S.nodes.flatMap Ns.c) 56, y.1.2.ent (R.S.sigs.flatMap Sg.c) 100, y.2.1.ent (R.ev.flatMap Ev.c) 70, y.2.2.ent (R.tk.flatMap Tk.c) 52]
structure Good (D : Df) (S : Sta) : Prop where
  sn : S.nodes.length ≤ 64
  sg : S.sigs.length ≤ 1000
  tx : TextOK S
  id : S.id.size ≤ 1000
  ln : S.status = 1 → S.nodes.length = D.nodes.length
theorem Good.room {D : Df} {S : Sta} (h : Good D S) (hD : DefOK D) : Room D ⟨S, [], []⟩ 6000 :=
  ⟨by have := hD.le; omega, fun n hn => by have := hD.nm n hn; omega, hD.af, h.id, h.sn, h.sg, show 0 + 6000 ≤ 100000 by decide, show 0 + 6000 ≤ 100000 by decide, h.tx⟩
def StepC (f : FuncId) : Prop := ∀ (dv sv : Value) (D : Df) (S : Sta) (a : Inp) (w : World), DefOK D → Good D S → a.name.size ≤ 1000 → RDf (Vw w []) dv D → RSt (Vw w []) sv S → (∃ m, Vw w [] 0 0 (.int .i64 m)) →
  Calls Try.prog f [dv, sv, .agg a.c.toArray].toArray w (Ret w [] (ORn (stepL D S a).2) (stepV (stepL D S a).1 (stepL D S a).2) (stepM (stepL D S a).2))
set_option maxRecDepth 100000 in
set_option maxHeartbeats 4000000 in
theorem step20 : StepC 20 := by
  intro dv sv D S a w hDO hgo hna hd hs hG
  obtain ⟨n, s, rfl, hn1, hg1⟩ := id hs
  obtain ⟨A, cap, rfl, hnds⟩ := hd.nds
  have hrm := hgo.room hDO
  refine enter0 Try.func20 rfl Try.ntmps20 rfl ?_
  (repeat first|(with_reducible first|apply Za|apply Zb|apply Zc|apply Zd|apply Zi|apply Zs)|((with_reducible first|apply ZJ|apply ZK);rfl;rfl)|((with_reducible first|apply Zqz|apply Zra);rfl;rfl;(focus (repeat constructor));rfl)|((with_reducible apply Zrf);rfl;rfl;intro _)|((with_reducible apply Zrg);rfl;intro _)|((with_reducible apply Zz);rfl)|refine Yi 1 i20_1 (by kernel_rfl) ?_)
  refine SK.callO rfl rfl (fun w1 g1 _ => copied42 _ S w1 (hs.mono g1) ⟨hgo.sn, hgo.sg⟩) ?_
  intro y hy
  (repeat first|(with_reducible first|apply Za|apply Zb|apply Zc|apply Ze|apply Zi|apply Zs)|((with_reducible first|apply ZI|apply ZJ);rfl;rfl)|((with_reducible apply Zqr);rfl;rfl;rfl)|((with_reducible apply Zra);rfl;rfl;(focus (repeat constructor));rfl)|((with_reducible apply Zrf);rfl;rfl;intro _)|((with_reducible apply Zz);rfl)|((with_reducible apply ZE);rfl;infer_instance;rfl;(focus (repeat constructor));rfl;rfl)|((with_reducible apply ZF);rfl;infer_instance;rfl;(focus (repeat constructor));rfl;rfl))
  refine SK.addnone (SK.addnone ?_)
  refine SK.methG rfl rfl (step43 ⟨97, D, .slice A D.nodes.length cap, a.now⟩ rfl ⟨S, [], []⟩ hDO hgo.ln a hna hrm) (y := (y, none, none)) ⟨hy, ⟨rfl, rfl⟩, ⟨rfl, rfl⟩⟩ hd hG (by (repeat constructor)) (by (repeat constructor)) (by (repeat constructor)) (by (repeat constructor)) (by (repeat constructor)) (fun y2 hy2 => ?_)
  have hst : stepL D S a = if (stepR D a.now ⟨S, [], []⟩ a).1 = 0 then stepR D a.now ⟨S, [], []⟩ a else ((stepR D a.now ⟨S, [], []⟩ a).1, rn0) := rfl
  dsimp only at hy2 ⊢
  generalize stepR D a.now ⟨S, [], []⟩ a = r at hst hy2 ⊢
  by_cases h0 : r.1 = 0
  · rw [if_pos h0] at hst
    rw [hst]
    have h0' : ¬ (r.1 ≠ 0) := fun h => h h0
    (repeat first|(with_reducible first|apply Za|apply Zb|apply Zc|apply Zd|apply Ze|apply Zi|apply Zo|apply Zp|apply Zs)|((with_reducible first|apply ZI|apply ZJ|apply ZK|apply ZN);rfl;rfl)|((with_reducible apply Zqd);rfl;rfl;rfl;omega)|((with_reducible first|apply Zqz|apply Zra);rfl;rfl;(focus (repeat constructor));rfl)|((with_reducible apply Zrc);rfl;rfl;rfl;exact List.cons_ne_nil _ _;(first|rfl|(repeat first|exact plain_nil|(refine plain_cons (by first|rfl|exact OwnD.plain_val _ _) ?_)));(focus (repeat constructor));rfl)|((with_reducible apply Zz);rfl)|((with_reducible apply ZD);rfl)|((with_reducible apply ZE);rfl;infer_instance;rfl;(focus (repeat constructor));rfl;rfl)|refine Yi 5 i20_5 (by kernel_rfl) ?_)
    exact SK.retQ rfl (by (repeat constructor)) (fun w' hm' => ⟨y2, hy2, by rw [h0]; rfl, hm'.wk (by (repeat constructor))⟩)
  · rw [if_neg h0] at hst
    rw [hst]
    (repeat first|(with_reducible first|apply Za|apply Zb|apply Zc|apply Zd|apply Zi|apply Zk|apply Zp|apply Zs)|((with_reducible first|apply ZI|apply ZJ);rfl;rfl)|((with_reducible apply ZX);rfl;rfl;rfl;omega)|((with_reducible apply Zqr);rfl;rfl;rfl)|((with_reducible apply Zrc);rfl;rfl;rfl;exact List.cons_ne_nil _ _;(first|rfl|(repeat first|exact plain_nil|(refine plain_cons (by first|rfl|exact OwnD.plain_val _ _) ?_)));(focus (repeat constructor));rfl)|((with_reducible apply ZC);rfl))
    exact SK.retQ rfl (by (repeat constructor)) (fun w' hm' => ⟨((none, none), none, none), ⟨⟨⟨rfl, rfl⟩, ⟨rfl, rfl⟩⟩, ⟨rfl, rfl⟩, ⟨rfl, rfl⟩⟩, rfl, hm'.wk (by (repeat constructor))⟩)
set_option maxRecDepth 100000 in
set_option maxHeartbeats 4000000 in
theorem step38 : StepC 38 := by
  intro dv sv D S a w hDO hgo hna hd hs hG
  obtain ⟨n, s, rfl, hn1, hg1⟩ := id hs
  obtain ⟨A, cap, rfl, hnds⟩ := hd.nds
  have hrm := hgo.room hDO
  refine enter0 Try.func38 rfl Try.ntmps38 rfl ?_
  (repeat first|(with_reducible first|apply Za|apply Zb|apply Zc|apply Zd|apply Zi|apply Zs)|((with_reducible first|apply ZJ|apply ZK);rfl;rfl)|((with_reducible first|apply Zqz|apply Zra);rfl;rfl;(focus (repeat constructor));rfl)|((with_reducible apply Zrf);rfl;rfl;intro _)|((with_reducible apply Zrg);rfl;intro _)|((with_reducible apply Zz);rfl)|refine Yi 1 i38_1 (by kernel_rfl) ?_)
  refine SK.callO rfl rfl (fun w1 g1 _ => copied45 _ S w1 (hs.mono g1) ⟨hgo.sn, hgo.sg⟩) ?_
  intro y hy
  (repeat first|(with_reducible first|apply Za|apply Zb|apply Zc|apply Ze|apply Zi|apply Zs)|((with_reducible first|apply ZI|apply ZJ);rfl;rfl)|((with_reducible apply Zqr);rfl;rfl;rfl)|((with_reducible apply Zra);rfl;rfl;(focus (repeat constructor));rfl)|((with_reducible apply Zrf);rfl;rfl;intro _)|((with_reducible apply Zz);rfl)|((with_reducible apply ZE);rfl;infer_instance;rfl;(focus (repeat constructor));rfl;rfl)|((with_reducible apply ZF);rfl;infer_instance;rfl;(focus (repeat constructor));rfl;rfl))
  refine SK.addnone (SK.addnone ?_)
  refine SK.methG rfl rfl (does52 ⟨113, D, .slice A D.nodes.length cap, a.now⟩ rfl ⟨S, [], []⟩ hDO hgo.ln a hna rfl hrm) (y := (y, none, none)) ⟨hy, ⟨rfl, rfl⟩, ⟨rfl, rfl⟩⟩ hd hG (by (repeat constructor)) (by (repeat constructor)) (by (repeat constructor)) (by (repeat constructor)) (by (repeat constructor)) (fun y2 hy2 => ?_)
  have hst : stepL D S a = if (stepR D a.now ⟨S, [], []⟩ a).1 = 0 then stepR D a.now ⟨S, [], []⟩ a else ((stepR D a.now ⟨S, [], []⟩ a).1, rn0) := rfl
  dsimp only at hy2 ⊢
  generalize stepR D a.now ⟨S, [], []⟩ a = r at hst hy2 ⊢
  by_cases h0 : r.1 = 0
  · rw [if_pos h0] at hst
    rw [hst]
    have h0' : ¬ (r.1 ≠ 0) := fun h => h h0
    (repeat first|(with_reducible first|apply Za|apply Zb|apply Zc|apply Zd|apply Ze|apply Zi|apply Zo|apply Zp|apply Zs)|((with_reducible first|apply ZI|apply ZJ|apply ZK|apply ZN);rfl;rfl)|((with_reducible apply Zqd);rfl;rfl;rfl;omega)|((with_reducible first|apply Zqz|apply Zra);rfl;rfl;(focus (repeat constructor));rfl)|((with_reducible apply Zrc);rfl;rfl;rfl;exact List.cons_ne_nil _ _;(first|rfl|(repeat first|exact plain_nil|(refine plain_cons (by first|rfl|exact OwnD.plain_val _ _) ?_)));(focus (repeat constructor));rfl)|((with_reducible apply Zz);rfl)|((with_reducible apply ZD);rfl)|((with_reducible apply ZE);rfl;infer_instance;rfl;(focus (repeat constructor));rfl;rfl)|refine Yi 5 i38_5 (by kernel_rfl) ?_)
    exact SK.retQ rfl (by (repeat constructor)) (fun w' hm' => ⟨y2, hy2, by rw [h0]; rfl, hm'.wk (by (repeat constructor))⟩)
  · rw [if_neg h0] at hst
    rw [hst]
    (repeat first|(with_reducible first|apply Za|apply Zb|apply Zc|apply Zd|apply Zi|apply Zk|apply Zp|apply Zs)|((with_reducible first|apply ZI|apply ZJ);rfl;rfl)|((with_reducible apply ZX);rfl;rfl;rfl;omega)|((with_reducible apply Zqr);rfl;rfl;rfl)|((with_reducible apply Zrc);rfl;rfl;rfl;exact List.cons_ne_nil _ _;(first|rfl|(repeat first|exact plain_nil|(refine plain_cons (by first|rfl|exact OwnD.plain_val _ _) ?_)));(focus (repeat constructor));rfl)|((with_reducible apply ZC);rfl))
    exact SK.retQ rfl (by (repeat constructor)) (fun w' hm' => ⟨((none, none), none, none), ⟨⟨⟨rfl, rfl⟩, ⟨rfl, rfl⟩⟩, ⟨rfl, rfl⟩, ⟨rfl, rfl⟩⟩, rfl, hm'.wk (by (repeat constructor))⟩)
def Inv (D : Df) (R : Rn) (k : Nat) : Prop := Room D R k ∧ R.S.nodes.length = D.nodes.length
section
variable {D : Df} {R : Rn} {k : Nat}
theorem Inv.mono {k' : Nat} (h : Inv D R k) (hk : k' ≤ k) : Inv D R k' := ⟨h.1.mono hk, h.2⟩
theorem Inv.happ (h : Inv D R (k + 1)) (e : Ev) (he : e.kind ≠ 13) : Inv D (happ D R e) k := ⟨h.1.happ e he, happ_len h.2⟩
theorem Inv.tsk (h : Inv D R (k + 1)) (t : Tk) : Inv D (tsk R t) k := ⟨h.1.tsk t, h.2⟩
theorem Inv.mlr (h : Inv D R (k + 1)) (m : Ml) : Inv D (mlr R m) k := ⟨h.1.mlr m, h.2⟩
theorem Inv.cls (h : Inv D R (k + 70)) (st : Int) (t : ByteArray) : Inv D (cls D R st t) k := ⟨h.1.cls st t, by rw [cls_S_nodes]; exact h.2⟩
theorem bgn_len (now : Int) (n : Nd) (h : R.S.nodes.length = D.nodes.length) : (bgn D now R n).S.nodes.length = D.nodes.length := by
  unfold bgn
  split
  · exact happ_len h
  · split
    · exact happ_len h
    · split
      · split
        · rw [cls_S_nodes]; exact happ_len h
        · exact happ_len h
      · split
        · split <;> exact happ_len h
        · exact happ_len h
theorem Inv.bgn (h : Inv D R (k + 80)) (now : Int) (n : Nd) : Inv D (bgn D now R n) k := ⟨h.1.bgn now n, bgn_len now n h.2⟩
end
theorem Inv.onF {D : Df} {now : Int} : ∀ (f k : Nat) (R : Rn), Inv D R (k + 80 * f) → Inv D (onF D now f R) k
  | 0, k, R, h => h.mono (by omega)
  | f + 1, k, R, h => by
    simp only [Ytdnjfmgldkommaa.onF]
    split
    · split
      · split
        · exact Inv.onF f k _ (Inv.bgn (h.mono (by omega)) now _)
        · exact h.mono (by omega)
      · split
        · exact Inv.cls (h.mono (by omega)) _ _
        · exact h.mono (by omega)
    · exact h.mono (by omega)
theorem Inv.onL {D : Df} {R : Rn} {k : Nat} (now : Int) (h : Inv D R (k + 5300)) : Inv D (onL D now R) k :=
  Inv.onF _ _ _ (h.mono (by have := idle_le R.S; have := h.1.sn; omega))
structure Aft (D : Df) (R : Rn) : Prop where
  go : Good D R.S
  ev : R.ev.length ≤ 100000
  tk : R.tk.length ≤ 100000
theorem Inv.aft {D : Df} {R : Rn} {k : Nat} (h : Inv D R k) : Aft D R := ⟨⟨h.1.sn, h.1.sg, h.1.tx, h.1.id, fun _ => h.2⟩, by have := h.1.ev; omega, by have := h.1.tk; omega⟩
theorem stepR_aft {D : Df} {now : Int} {R : Rn} {a : Inp} (h : Room D R 6000) (hl : R.S.status = 1 → R.S.nodes.length = D.nodes.length) (hna : a.name.size ≤ 1000) : Aft D (stepR D now R a).2 := by
  have h0 : Aft D R := ⟨⟨h.sn, h.sg, h.tx, h.id, hl⟩, by have := h.ev; omega, by have := h.tk; omega⟩
  unfold stepR
  split
  · split
    · exact h0
    · rename_i s0
      have s0 : R.S.status = 0 := Classical.not_not.1 s0
      have h1 : Room D (named R a.name) 6000 := h.named a.name hna
      have h2 : Inv D (happ D (named R a.name) ⟨1, a.pnode, a.parent, 0⟩) 5999 := ⟨h1.happ _ (show (1 : Int) ≠ 13 by decide), happ_start (R := named R a.name) rfl s0⟩
      exact (Inv.onL (k := 0) now (h2.mono (by omega))).aft
  · split
    · exact h0
    · split
      · exact h0
      · rename_i s1
        have s1 : R.S.status = 1 := Classical.not_not.1 s1
        have hI : Inv D R 6000 := ⟨h, hl s1⟩
        have ev : ∀ e : Ev, e.kind ≠ 13 → Inv D (happ D R e) 5999 := fun e he => hI.happ e he
        have on : ∀ e : Ev, e.kind ≠ 13 → Aft D (onL D now (happ D R e)) := fun e he => (Inv.onL (k := 0) now ((ev e he).mono (by omega))).aft
        split
        · unfold signalL
          split
          · exact h0
          · split
            · exact h0
            · split
              · exact on _ (show (12 : Int) ≠ 13 by decide)
              · split
                · exact h0
                · rename_i hs
                  obtain ⟨g1, g2, _, g4, _⟩ := happ_keeps D R ⟨13, a.name, a.text, 0⟩
                  have g5 := happ_len (D := D) (R := R) (e := ⟨13, a.name, a.text, 0⟩) (hl s1)
                  refine ⟨⟨by rw [g5]; exact h.dn, by have : (happ D R ⟨13, a.name, a.text, 0⟩).S.sigs.length ≤ R.S.sigs.length + 1 := g4; show (happ D R ⟨13, a.name, a.text, 0⟩).S.sigs.length ≤ 1000; omega, g2 h.tx, by rw [g1]; exact h.id, fun _ => g5⟩, ?_, ?_⟩
                  · have := h.ev; simp only [happ, List.length_append, List.length_singleton]; omega
                  · have := h.tk; show R.tk.length ≤ _; omega
        · split
          · unfold takeL
            split
            · exact h0
            · split
              · split
                · split
                  · exact ((ev _ (show (3 : Int) ≠ 13 by decide)).tsk (k := 5998) _).aft
                  · exact (ev _ (show (3 : Int) ≠ 13 by decide)).aft
                · exact h0
              · exact h0
          · split
            · unfold endsL
              split
              · exact h0
              · split
                · split
                  · exact h0
                  · split
                    · exact h0
                    · split
                      · exact on _ (show (8 : Int) ≠ 13 by decide)
                      · split
                        · exact on _ (show (4 : Int) ≠ 13 by decide)
                        · unfold failL
                          split
                          · exact ((ev _ (show (5 : Int) ≠ 13 by decide)).tsk (k := 5998) _).aft
                          · exact (Inv.cls (k := 0) ((ev _ (show (6 : Int) ≠ 13 by decide)).mono (by omega)) _ _).aft
                · exact h0
            · split
              · unfold toldL
                split
                · exact h0
                · split
                  · split
                    · exact h0
                    · split
                      · exact on _ (show (10 : Int) ≠ 13 by decide)
                      · exact (Inv.cls (k := 0) ((ev _ (show (6 : Int) ≠ 13 by decide)).mono (by omega)) _ _).aft
                  · exact h0
              · split
                · split
                  · exact h0
                  · exact (Inv.cls (k := 0) (hI.mono (by omega)) _ _).aft
                · exact h0
theorem good0 (D : Df) : Good D sta0 := ⟨by decide, by decide, (fun x hx => by cases hx), by decide, (fun h => by cases h)⟩
theorem stepL_aft {D : Df} {S : Sta} {a : Inp} (hD : DefOK D) (h : Good D S) (hna : a.name.size ≤ 1000) : Aft D (stepL D S a).2 := by
  unfold stepL
  split
  · exact stepR_aft (h.room hD) h.ln hna
  · exact ⟨good0 D, Nat.zero_le _, Nat.zero_le _⟩
end Go.Proofs.Ytdnjfmgldkommaa
