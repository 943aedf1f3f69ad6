/- Proved here: a run: events and tasks. -/
import Derived.Test.YtdnjfmgldkommaaFd
namespace Go.Proofs.Ytdnjfmgldkommaa
open Go.Sx
abbrev Y4 := (OwnD × OwnD) × (OwnD × OwnD)
structure Cx where
  T : Nat
  D : Df
  dsl : Value
  now : Int
@[reducible] def Cx.dv (c : Cx) : Value := .agg #[.string c.D.name, c.dsl]
@[reducible] def rnC (c : Cx) (R : Rn) (y : Y4) : List Value :=
  [.string c.D.name, c.dsl, .string R.S.df, .string R.S.id, .string R.S.parent, .string R.S.pnode, .int .i64 R.S.status, .string R.S.text, y.1.1.val R.S.nodes.length, y.1.2.val R.S.sigs.length, .int .i64 R.S.events, .int .i64 c.now, y.2.1.val R.ev.length, y.2.2.val R.tk.length]
@[reducible] def rnM (c : Cx) (b : Nat) (R : Rn) (y : Y4) : ML :=
  [some (b, rnC c R y, c.T), y.1.1.ent (R.S.nodes.flatMap Ns.c) 56, y.1.2.ent (R.S.sigs.flatMap Sg.c) 100, y.2.1.ent (R.ev.flatMap Ev.c) 70, y.2.2.ent (R.tk.flatMap Tk.c) 52]
def ORn (R : Rn) (y : Y4) : Prop := OSt R.S y.1 ∧ y.2.1.ok R.ev.length 4 (R.ev.flatMap Ev.c) ∧ y.2.2.ok R.tk.length 13 (R.tk.flatMap Tk.c)
def Fit (R : Rn) : Prop := Small R.S ∧ R.ev.length ≤ 100000 ∧ R.tk.length ≤ 100000 ∧ TextOK R.S
def Meth (f : FuncId) (c : Cx) (vs : List Value) (R R' : Rn) (v : Value) : Prop :=
  ∀ (b : Nat) (y : Y4) (w : World), ORn R y → RDf (Vw w (keys (rnM c b R y))) c.dv c.D → Mem w (keys (rnM c b R y)) (rnM c b R y) w →
    Calls Try.prog f (.pointer (some ⟨b, 0, none⟩) :: vs).toArray w (Ret w (rnM c b R y) (ORn R') (fun _ => v) (rnM c b R'))
section
variable {ops : Array Oper} {w0 : World} {Mod : List Nat} {n : Nat} {F : FL} {M : ML} {K : Act → World → Prop} {chk : List Nat} {ty : TypeId} {pos : String} {aft : Array Edge} {d : Nat}
set_option maxRecDepth 100000 in
theorem SK.meth {f : FuncId} {args : Array Operand} {ats : Array TypeId} {vs : List Value} {v : Value} {c : Cx} {b : Nat} {y : Y4} {R R' : Rn} {M1 M2 M3 M4 M5 : ML} [Fun Try.prog f] (hd : Nat.blt d n = true)
    (hargs : evL F args.toList = some (.pointer (some ⟨b, 0, none⟩) :: vs)) (hm : Meth f c vs R R' v) (hy : ORn R y) (hD : RDf (Vw w0 Mod) c.dv c.D)
    (p1 : Pick (some (b, rnC c R y, c.T)) M M1) (p2 : Pick (y.1.1.ent (R.S.nodes.flatMap Ns.c) 56) M1 M2) (p3 : Pick (y.1.2.ent (R.S.sigs.flatMap Sg.c) 100) M2 M3)
    (p4 : Pick (y.2.1.ent (R.ev.flatMap Ev.c) 70) M3 M4) (p5 : Pick (y.2.2.ent (R.tk.flatMap Tk.c) 52) M4 M5)
    (h : ∀ y', ORn R' y' → SK w0 Mod n (chkE Try.prog ops chk K) ((d, v) :: F) (some (b, rnC c R' y', c.T) :: y'.1.1.ent (R'.S.nodes.flatMap Ns.c) 56 :: y'.1.2.ent (R'.S.sigs.flatMap Sg.c) 100 :: y'.2.1.ent (R'.ev.flatMap Ev.c) 70 :: y'.2.2.ent (R'.tk.flatMap Tk.c) 52 :: M5)) :
    SK w0 Mod n (stepE Try.prog ops ⟨some d, .call ⟨.value (.func f), args, ats⟩, ty, pos, aft, none⟩ chk K) F M :=
  SK.call hd hargs (rnM c b R y) M5 (Wk.pick p1 (Wk.pick p2 (Wk.pick p3 (Wk.pick p4 (Wk.pick p5 (Wk.refl M5)))))) (ORn R') (fun _ => v) (rnM c b R')
    (fun w1 g0 g1 _ => hm b y w1 hy (hD.mono g1) g0) h
end
theorem ev_snoc (l : List Ev) (x : Ev) : (l ++ [x]).flatMap Ev.c = l.flatMap Ev.c ++ Ev.c x := by simp
theorem tk_snoc (l : List Tk) (x : Tk) : (l ++ [x]).flatMap Tk.c = l.flatMap Tk.c ++ Tk.c x := by simp
set_option maxRecDepth 100000 in
set_option maxHeartbeats 1000000 in
theorem happens55 (c : Cx) (hT : c.T = 97) (R : Rn) (e : Ev) (hf : Fit R) (hn : c.D.nodes.length ≤ 64) : Meth 55 c [.agg e.c.toArray] R (happ c.D R e) (.tuple #[]) := by
  intro b y w hy hD hm
  obtain ⟨⟨oN, oS⟩, oE, oT⟩ := y
  obtain ⟨hy1, hyE, hyT⟩ := hy
  obtain ⟨hsm, hev, htk, htx⟩ := hf
  obtain ⟨T, D, dsl, now⟩ := c
  dsimp only at hT hn
  subst hT
  obtain ⟨A, cap, he, hnds⟩ := hD.nds
  have e1 : dsl = .slice A D.nodes.length cap := by
    have := congrArg (fun v => match v with | .agg a => a[1]? | _ => none) he
    simpa using this
  subst e1
  refine enterF (M := rnM _ b R ((oN, oS), oE, oT)) Try.func55 rfl Try.ntmps55 rfl hm ?_
  (repeat first|(with_reducible first|apply Za|apply Zb|apply Zc|apply Zd|apply Zi|apply Zs)|((with_reducible first|apply ZI|apply ZK|apply ZN);rfl;rfl)|((with_reducible apply Zra);rfl;rfl;(focus (repeat constructor));rfl)|((with_reducible apply Zrf);rfl;rfl;intro _)|((with_reducible apply Zz);rfl)|refine Yi 1 i55_1 (by kernel_rfl) ?_)
  refine SK.callO rfl rfl (fun w1 g1 g2 => apply27 _ (stV R.S (oN, oS)) D R.S e hsm hn w1 (hD.mono g1) (RSt.own hy1.1 hy1.2 (fun b cs hb j u hu => g2 b cs _ (by rw [← hb]; (repeat constructor)) j u hu) (fun b cs hb j u hu => g2 b cs _ (by rw [← hb]; (repeat constructor)) j u hu))) ?_
  intro y1 hy1'
  unfold AppV
  (repeat first|(with_reducible first|apply Ze|apply Zi|apply Zs)|((with_reducible first|apply ZI|apply ZK|apply ZN);rfl;rfl)|((with_reducible apply Zqn);rfl;rfl;rfl)|((with_reducible first|apply Zqz|apply Zra);rfl;rfl;(focus (repeat constructor));rfl)|((with_reducible apply Zrc);rfl;rfl;rfl;exact List.cons_ne_nil _ _;(first|rfl|(repeat first|exact plain_nil|(refine plain_cons (by first|rfl|exact OwnD.plain_val _ _) ?_)));(focus (repeat constructor));rfl)|((with_reducible apply Zrd);rfl;rfl;rfl;rfl;rfl;rfl;rfl;intro _)|((with_reducible apply Zz);rfl)|((with_reducible apply ZE);rfl;infer_instance;rfl;(focus (repeat constructor));rfl;rfl)|refine Yi 2 i55_2 (by kernel_rfl) ?_)
  refine SK.appendP (o := oE) (xs := R.ev.flatMap Ev.c) (news := Ev.c e) (m := 1) rfl rfl hyE rfl (by (repeat constructor)) (Src.mem (by (repeat constructor)) rfl) rfl rfl rfl rfl (by unfold maxLen; omega) (by omega) (fun o1 ho1 _ => ?_)
  (repeat first|(with_reducible first|apply Ze|apply Zs)|((with_reducible first|apply ZK|apply ZN);rfl;rfl)|((with_reducible apply Zrb);rfl;rfl;(first|rfl|exact OwnD.plain_val _ _);(focus (repeat constructor));rfl)|((with_reducible apply Zz);rfl))
  refine SK.endQ rfl (by (repeat constructor)) (fun w' hm' => ⟨(y1, o1, oT), ⟨hy1', ?_, hyT⟩, rfl, ?_⟩)
  · simp only [happ, ev_snoc, List.length_append, List.length_singleton]; exact ho1
  · simp only [rnM, rnC, happ, ev_snoc, List.length_append, List.length_singleton]
    exact hm'.wk (by (repeat constructor))
set_option maxRecDepth 100000 in
set_option maxHeartbeats 1000000 in
theorem task78 (c : Cx) (hT : c.T = 97) (R : Rn) (t : Tk) (hf : Fit R) : Meth 78 c [.agg t.c.toArray] R (tsk R t) (.tuple #[]) := by
  intro b y w hy hD hm
  obtain ⟨⟨oN, oS⟩, oE, oT⟩ := y
  obtain ⟨hy1, hyE, hyT⟩ := hy
  obtain ⟨hsm, hev, htk, htx⟩ := hf
  obtain ⟨T, D, dsl, now⟩ := c
  dsimp only at hT
  subst hT
  refine enterF (M := rnM _ b R ((oN, oS), oE, oT)) Try.func78 rfl Try.ntmps78 rfl hm ?_
  (repeat first|(with_reducible first|apply Za|apply Zb|apply Zc|apply Zd|apply Zi|apply Zs)|((with_reducible first|apply ZI|apply ZK|apply ZN);rfl;rfl)|((with_reducible apply Zqm);rfl;rfl;rfl)|((with_reducible first|apply Zqz|apply Zra);rfl;rfl;(focus (repeat constructor));rfl)|((with_reducible apply Zrb);rfl;rfl;(first|rfl|exact OwnD.plain_val _ _);(focus (repeat constructor));rfl)|((with_reducible apply Zrd);rfl;rfl;rfl;rfl;rfl;rfl;rfl;intro _)|((with_reducible apply Zrf);rfl;rfl;intro _)|((with_reducible apply Zz);rfl)|((with_reducible apply ZE);rfl;infer_instance;rfl;(focus (repeat constructor));rfl;rfl)|refine Yi 2 i78_2 (by kernel_rfl) ?_)
  refine SK.appendP (o := oT) (xs := R.tk.flatMap Tk.c) (news := Tk.c { t with flow := R.S.id }) (m := 1) rfl rfl hyT rfl (by (repeat constructor)) (Src.mem (by (repeat constructor)) rfl) rfl rfl rfl rfl (by unfold maxLen; omega) (by omega) (fun o1 ho1 _ => ?_)
  (repeat first|(with_reducible first|apply Ze|apply Zs)|((with_reducible first|apply ZK|apply ZN);rfl;rfl)|((with_reducible apply Zrb);rfl;rfl;(first|rfl|exact OwnD.plain_val _ _);(focus (repeat constructor));rfl)|((with_reducible apply Zz);rfl))
  refine SK.endQ rfl (by (repeat constructor)) (fun w' hm' => ⟨((oN, oS), oE, o1), ⟨hy1, hyE, ?_⟩, rfl, ?_⟩)
  · simp only [tsk, tk_snoc, List.length_append, List.length_singleton]; exact ho1
  · simp only [rnM, rnC, tsk, tk_snoc, List.length_append, List.length_singleton]
    exact hm'.wk (by (repeat constructor))
set_option maxRecDepth 100000 in
set_option maxHeartbeats 1000000 in
theorem task91 (c : Cx) (hT : c.T = 113) (R : Rn) (t : Tk) (hf : Fit R) : Meth 91 c [.agg t.c.toArray] R (tsk R t) (.tuple #[]) := by
  intro b y w hy hD hm
  obtain ⟨⟨oN, oS⟩, oE, oT⟩ := y
  obtain ⟨hy1, hyE, hyT⟩ := hy
  obtain ⟨hsm, hev, htk, htx⟩ := hf
  obtain ⟨T, D, dsl, now⟩ := c
  dsimp only at hT
  subst hT
  refine enterF (M := rnM _ b R ((oN, oS), oE, oT)) Try.func91 rfl Try.ntmps91 rfl hm ?_
  (repeat first|(with_reducible first|apply Za|apply Zb|apply Zc|apply Zd|apply Zi|apply Zs)|((with_reducible first|apply ZI|apply ZK|apply ZN);rfl;rfl)|((with_reducible apply Zqm);rfl;rfl;rfl)|((with_reducible first|apply Zqz|apply Zra);rfl;rfl;(focus (repeat constructor));rfl)|((with_reducible apply Zrb);rfl;rfl;(first|rfl|exact OwnD.plain_val _ _);(focus (repeat constructor));rfl)|((with_reducible apply Zrd);rfl;rfl;rfl;rfl;rfl;rfl;rfl;intro _)|((with_reducible apply Zrf);rfl;rfl;intro _)|((with_reducible apply Zz);rfl)|((with_reducible apply ZE);rfl;infer_instance;rfl;(focus (repeat constructor));rfl;rfl)|refine Yi 2 i91_2 (by kernel_rfl) ?_)
  refine SK.appendP (o := oT) (xs := R.tk.flatMap Tk.c) (news := Tk.c { t with flow := R.S.id }) (m := 1) rfl rfl hyT rfl (by (repeat constructor)) (Src.mem (by (repeat constructor)) rfl) rfl rfl rfl rfl (by unfold maxLen; omega) (by omega) (fun o1 ho1 _ => ?_)
  (repeat first|(with_reducible first|apply Ze|apply Zs)|((with_reducible first|apply ZK|apply ZN);rfl;rfl)|((with_reducible apply Zrb);rfl;rfl;(first|rfl|exact OwnD.plain_val _ _);(focus (repeat constructor));rfl)|((with_reducible apply Zz);rfl))
  refine SK.endQ rfl (by (repeat constructor)) (fun w' hm' => ⟨((oN, oS), oE, o1), ⟨hy1, hyE, ?_⟩, rfl, ?_⟩)
  · simp only [tsk, tk_snoc, List.length_append, List.length_singleton]; exact ho1
  · simp only [rnM, rnC, tsk, tk_snoc, List.length_append, List.length_singleton]
    exact hm'.wk (by (repeat constructor))
set_option maxRecDepth 100000 in
set_option maxHeartbeats 1000000 in
theorem mail80 (c : Cx) (hT : c.T = 97) (R : Rn) (m : Ml) (hf : Fit R) : Meth 80 c [.agg m.c.toArray] R (mlr R m) (.tuple #[]) := by
  intro b y w hy hD hm
  obtain ⟨T, D, dsl, now⟩ := c
  dsimp only at hT
  subst hT
  refine enterF (M := rnM _ b R y) Try.func80 rfl Try.ntmps80 rfl hm ?_
  (repeat first|(with_reducible first|apply Za|apply Zb|apply Zc|apply Zd|apply Zi|apply Zs)|((with_reducible first|apply ZI|apply ZK|apply ZN);rfl;rfl)|((with_reducible first|apply Zqm|apply Zqr);rfl;rfl;rfl)|((with_reducible first|apply Zqz|apply Zra);rfl;rfl;(focus (repeat constructor));rfl)|((with_reducible apply Zrb);rfl;rfl;(first|rfl|exact OwnD.plain_val _ _);(focus (repeat constructor));rfl)|((with_reducible apply Zrf);rfl;rfl;intro _))
  refine SK.meth rfl rfl (task78 _ rfl R ⟨3, e0, e0, 0, 0, { m with from_ := R.S.id }⟩ hf) hy hD (by (repeat constructor)) (by (repeat constructor)) (by (repeat constructor)) (by (repeat constructor)) (by (repeat constructor)) (fun y' hy' => ?_)
  (repeat first|(with_reducible first|apply Zd|apply Zs))
  exact SK.endQ rfl (by (repeat constructor)) (fun w' hm' => ⟨y', hy', rfl, hm'.wk (by (repeat constructor))⟩)
set_option maxRecDepth 100000 in
set_option maxHeartbeats 1000000 in
theorem mail93 (c : Cx) (hT : c.T = 113) (R : Rn) (m : Ml) (hf : Fit R) : Meth 93 c [.agg m.c.toArray] R (mlr R m) (.tuple #[]) := by
  intro b y w hy hD hm
  obtain ⟨T, D, dsl, now⟩ := c
  dsimp only at hT
  subst hT
  refine enterF (M := rnM _ b R y) Try.func93 rfl Try.ntmps93 rfl hm ?_
  (repeat first|(with_reducible first|apply Za|apply Zb|apply Zc|apply Zd|apply Zi|apply Zs)|((with_reducible first|apply ZI|apply ZK|apply ZN);rfl;rfl)|((with_reducible first|apply Zqm|apply Zqr);rfl;rfl;rfl)|((with_reducible first|apply Zqz|apply Zra);rfl;rfl;(focus (repeat constructor));rfl)|((with_reducible apply Zrb);rfl;rfl;(first|rfl|exact OwnD.plain_val _ _);(focus (repeat constructor));rfl)|((with_reducible apply Zrf);rfl;rfl;intro _))
  refine SK.meth rfl rfl (task91 _ rfl R ⟨3, e0, e0, 0, 0, { m with from_ := R.S.id }⟩ hf) hy hD (by (repeat constructor)) (by (repeat constructor)) (by (repeat constructor)) (by (repeat constructor)) (by (repeat constructor)) (fun y' hy' => ?_)
  (repeat first|(with_reducible first|apply Zd|apply Zs))
  exact SK.endQ rfl (by (repeat constructor)) (fun w' hm' => ⟨y', hy', rfl, hm'.wk (by (repeat constructor))⟩)
structure Room (D : Df) (R : Rn) (k : Nat) : Prop where
  dn : D.nodes.length ≤ 64
  nm : ∀ n ∈ D.nodes, n.name.size ≤ 1000
  af : ∀ n ∈ D.nodes, n.after.length < 9223372036854775807
  id : R.S.id.size ≤ 1000
  sn : R.S.nodes.length ≤ 64
  sg : R.S.sigs.length ≤ 1000
  ev : R.ev.length + k ≤ 100000
  tk : R.tk.length + k ≤ 100000
  tx : TextOK R.S
theorem Room.fit {D : Df} {R : Rn} {k : Nat} (h : Room D R k) : Fit R := ⟨⟨h.sn, h.sg⟩, by have := h.ev; omega, by have := h.tk; omega, h.tx⟩
theorem Room.mono {D : Df} {R : Rn} {k k' : Nat} (h : Room D R k) (hk : k' ≤ k) : Room D R k' :=
  ⟨h.dn, h.nm, h.af, h.id, h.sn, h.sg, by have := h.ev; omega, by have := h.tk; omega, h.tx⟩
theorem eraseIdx_le {α : Type} (l : List α) (k : Nat) : (l.eraseIdx k).length ≤ l.length := by rw [List.length_eraseIdx]; split <;> omega
theorem moveL_text {kind : Int} {x : Ns} {e : Ev} {k : Option Nat} {y : Ns} {b : Bool} (h : moveL kind x e k = some (y, b)) (hx : x.st ≠ 3 → x.st ≠ 4 → x.text = ⟨#[]⟩) : y.st ≠ 3 → y.st ≠ 4 → y.text = ⟨#[]⟩ := by
  unfold moveL at h
  simp only [isL, Bool.and_eq_true, decide_eq_true_eq] at h
  repeat' split at h
  all_goals first
    | contradiction
    | (simp only [Option.some.injEq, Prod.mk.injEq] at h; obtain ⟨rfl, _⟩ := h; intro h3 h4; first | exact absurd rfl h3 | exact absurd rfl h4 | (exact hx (by omega) (by omega)))
theorem applyQ_keeps {D : Df} {S T : Sta} {e : Ev} (h : applyQ D S e = some T) : T.id = S.id ∧ T.events = S.events ∧ (TextOK S → TextOK T) ∧ (e.kind ≠ 13 → T.sigs.length ≤ S.sigs.length) ∧ T.sigs.length ≤ S.sigs.length + 1 ∧
    (T.nodes.length = S.nodes.length ∨ T.nodes.length = D.nodes.length) := by
  unfold applyQ at h
  split at h
  · split at h
    · cases h
      refine ⟨rfl, rfl, fun _ x hx _ _ => ?_, fun _ => Nat.le_refl _, Nat.le_succ _, .inr (by simp)⟩
      have := List.eq_of_mem_replicate hx
      subst this; rfl
    · cases h
  · split at h
    · split at h
      · rename_i h13
        cases h
        exact ⟨rfl, rfl, fun ht => ht, fun hne => absurd h13 hne, by simp, .inl rfl⟩
      · split at h
        · split at h
          · cases h; exact ⟨rfl, rfl, fun ht => ht, fun _ => Nat.le_refl _, Nat.le_succ _, .inl rfl⟩
          · cases h
        · split at h
          · cases h
          · split at h
            · rename_i nd x hnd hx
              split at h
              · rename_i r hr
                obtain ⟨y, b⟩ := r
                cases h
                have hsg : (mvG S.sigs (kI S.sigs nd.arg) (some (y, b))).length ≤ S.sigs.length := by
                  cases b with
                  | false => exact Nat.le_refl _
                  | true =>
                    cases kI S.sigs nd.arg with
                    | none => exact Nat.le_refl _
                    | some j => exact eraseIdx_le _ _
                refine ⟨rfl, rfl, fun ht z hz => ?_, fun _ => hsg, Nat.le_succ_of_le hsg, .inl (by simp [mvN])⟩
                rcases List.mem_or_eq_of_mem_set hz with hz | rfl
                · exact ht z hz
                · exact moveL_text hr (ht x (List.mem_of_getElem? hx))
              · cases h
            · cases h
    · cases h
theorem applyL_keeps {D : Df} {S T : Sta} {e : Ev} (h : applyL D S e = some T) : T.id = S.id ∧ (TextOK S → TextOK T) ∧ (e.kind ≠ 13 → T.sigs.length ≤ S.sigs.length) ∧ T.sigs.length ≤ S.sigs.length + 1 ∧
    (T.nodes.length = S.nodes.length ∨ T.nodes.length = D.nodes.length) := by
  unfold applyL at h
  cases hq : applyQ D S e with
  | none => rw [hq] at h; cases h
  | some U =>
    rw [hq] at h
    cases h
    obtain ⟨h1, _, h3, h4, h5, h6⟩ := applyQ_keeps hq
    exact ⟨h1, h3, h4, h5, h6⟩
theorem happ_keeps (D : Df) (R : Rn) (e : Ev) : (happ D R e).S.id = R.S.id ∧ (TextOK R.S → TextOK (happ D R e).S) ∧ (e.kind ≠ 13 → (happ D R e).S.sigs.length ≤ R.S.sigs.length) ∧ (happ D R e).S.sigs.length ≤ R.S.sigs.length + 1 ∧
    ((happ D R e).S.nodes.length = R.S.nodes.length ∨ (happ D R e).S.nodes.length = D.nodes.length) := by
  unfold happ
  cases h : applyL D R.S e with
  | none => exact ⟨rfl, fun h => h, fun _ => Nat.le_refl _, Nat.le_succ _, .inl rfl⟩
  | some T => exact applyL_keeps h
section
variable {D : Df} {R : Rn} {k : Nat}
theorem Room.happ (h : Room D R (k + 1)) (e : Ev) (he : e.kind ≠ 13) : Room D (happ D R e) k := by
  obtain ⟨h1, h2, h3, _, h5⟩ := happ_keeps D R e
  refine ⟨h.dn, h.nm, h.af, by rw [h1]; exact h.id, ?_, Nat.le_trans (h3 he) h.sg, ?_, by have := h.tk; show R.tk.length + k ≤ _; omega, h2 h.tx⟩
  · rcases h5 with h5 | h5 <;> rw [h5]
    · exact h.sn
    · exact h.dn
  · have := h.ev
    simp only [Ytdnjfmgldkommaa.happ, List.length_append, List.length_singleton]; omega
theorem Room.tsk (h : Room D R (k + 1)) (t : Tk) : Room D (tsk R t) k :=
  ⟨h.dn, h.nm, h.af, h.id, h.sn, h.sg, by have := h.ev; show R.ev.length + k ≤ _; omega, by have := h.tk; simp only [Ytdnjfmgldkommaa.tsk, List.length_append, List.length_singleton]; omega, h.tx⟩
theorem Room.mlr (h : Room D R (k + 1)) (m : Ml) : Room D (mlr R m) k := Room.tsk h _
theorem Room.cnc (h : Room D R (k + 1)) (text : ByteArray) (n : Option Nd) (x : Option Ns) : Room D (cnc R text n x) k := by
  unfold Ytdnjfmgldkommaa.cnc
  split
  · split
    · exact h.mlr _
    · exact h.mono (by omega)
  · exact h.mono (by omega)
theorem cnc_S (text : ByteArray) (n : Option Nd) (x : Option Ns) : (cnc R text n x).S = R.S := by
  unfold Ytdnjfmgldkommaa.cnc
  split
  · split <;> rfl
  · rfl
theorem clm_S (text : ByteArray) : ∀ j, (clm D text R j).S = R.S
  | 0 => rfl
  | j + 1 => by simp only [clm, cnc_S, clm_S text j]
theorem Room.clm (text : ByteArray) : ∀ (j k : Nat), Room D R (k + j) → Room D (clm D text R j) k
  | 0, k, h => h
  | j + 1, k, h => (Room.clm text j (k + 1) (h.mono (by omega))).cnc _ _ _
theorem Room.par (h : Room D R (k + 1)) (status : Int) (text : ByteArray) : Room D (par R status text) k := by
  unfold Ytdnjfmgldkommaa.par
  split
  · exact h.mono (by omega)
  · exact h.mlr _
theorem Room.cls (h : Room D R (k + 70)) (status : Int) (text : ByteArray) : Room D (cls D R status text) k := by
  unfold Ytdnjfmgldkommaa.cls
  refine Room.par (Room.clm _ _ _ (Room.mono (Room.happ (k := k + 69) h _ (show (15 : Int) ≠ 13 by decide)) ?_)) _ _
  have := h.dn; omega
theorem Room.bgn (h : Room D R (k + 80)) (now : Int) (n : Nd) : Room D (bgn D now R n) k := by
  unfold Ytdnjfmgldkommaa.bgn
  split
  · exact Room.mono (Room.tsk (k := k + 78) (Room.happ (k := k + 79) h _ (show (2 : Int) ≠ 13 by decide)) _) (by omega)
  · split
    · exact Room.mono (Room.tsk (k := k + 78) (Room.happ (k := k + 79) h _ (show (7 : Int) ≠ 13 by decide)) _) (by omega)
    · split
      · split
        · exact Room.mono (Room.cls (k := k + 9) (Room.happ (k := k + 79) h _ (show (6 : Int) ≠ 13 by decide)) _ _) (by omega)
        · exact Room.mono (Room.mlr (k := k + 78) (Room.happ (k := k + 79) h _ (show (9 : Int) ≠ 13 by decide)) _) (by omega)
      · split
        · split
          · exact Room.mono (Room.happ (k := k + 79) h _ (show (12 : Int) ≠ 13 by decide)) (by omega)
          · exact Room.mono (Room.happ (k := k + 79) h _ (show (11 : Int) ≠ 13 by decide)) (by omega)
        · exact Room.mono (Room.mlr (k := k + 78) (Room.happ (k := k + 79) h _ (show (14 : Int) ≠ 13 by decide)) _) (by omega)
end
theorem RDf.dsl {V : View} {D : Df} {dsl : Value} (h : RDf V (.agg #[.string D.name, dsl]) D) : ∃ A cap, dsl = .slice A D.nodes.length cap ∧ RNds V A D.nodes := by
  obtain ⟨A, cap, he, hnds⟩ := h.nds
  refine ⟨A, cap, ?_, hnds⟩
  have := congrArg (fun v => match v with | .agg a => a[1]? | _ => none) he
  simpa using this
theorem sizeSlash (s : ByteArray) : (s ++ slash).size = s.size + 1 := by rw [ByteArray.size_append]; rfl
set_option maxRecDepth 100000 in
theorem child81 (b : Nat) (s : ByteArray) (nd : Nd) (av : Value) (w : World) (h : Vw w [] b 3 (.string s)) (h1 : s.size ≤ 1000) (h2 : nd.name.size ≤ 1000) :
    Ans 81 [.pointer (some ⟨b, 0, none⟩), .agg (nd.c av).toArray] w (.string (s ++ slash ++ nd.name)) := by
  have h3 := sizeSlash s
  refine enter0 Try.func81 rfl Try.ntmps81 rfl ?_
  (repeat first|(with_reducible first|apply Za|apply Zb|apply Zc|apply Zd|apply Ze|apply Zi|apply Zp|apply Zs)|((with_reducible refine Yz ?_);first|((with_reducible apply SK.load1R); rfl; rfl; exact h)|((with_reducible refine SK.isBin ?_); (with_reducible apply SK.addS); rfl; rfl; rfl; (first | (show s.size + 1 ≤ _; omega) | (show (s ++ slash).size + nd.name.size ≤ _; omega)))|((with_reducible first|apply ZI|apply ZJ|apply ZK|apply ZN);rfl;rfl)|((with_reducible apply Zqm);rfl;rfl;rfl)|((with_reducible apply Zqz);rfl;rfl;(focus (repeat constructor));rfl)|((with_reducible apply Zrf);rfl;rfl;intro _))|((with_reducible apply Zz);rfl)|refine Yi 1 i81_1 (by kernel_rfl) ?_)
  exact SK.retQ rfl (by (repeat constructor)) (fun w' hm' => ⟨(), trivial, rfl, hm'.wk (by (repeat constructor))⟩)
theorem cnc_yes {R : Rn} {text : ByteArray} {n : Nd} {x : Ns} (h1 : n.kind = 3) (h2 : x.st = 2) : cnc R text (some n) (some x) = mlr R ⟨4, chl R.S n, e0, n.name, e0, text, 0⟩ := by
  simp only [cnc]; rw [if_pos ⟨h1, h2⟩]
theorem cnc_no {R : Rn} {text : ByteArray} {n : Nd} {x : Option Ns} (h : ∀ z, x = some z → ¬ (n.kind = 3 ∧ z.st = 2)) : cnc R text (some n) x = R := by
  cases x with
  | none => rfl
  | some z => simp only [cnc]; rw [if_neg (h z rfl)]
theorem cnc_out {R : Rn} {text : ByteArray} {n : Option Nd} : cnc R text n none = R := by cases n <;> rfl
theorem clm_stop {D : Df} {R : Rn} {text : ByteArray} {k : Nat} (h : R.S.nodes.length ≤ k) : ∀ j, clm D text R (k + j) = clm D text R k
  | 0 => rfl
  | j + 1 => by
    rw [Nat.add_succ, clm, List.getElem?_eq_none (l := R.S.nodes) (by omega), cnc_out, clm_stop h j]
set_option maxRecDepth 100000 in
set_option maxHeartbeats 8000000 in
theorem close61 (c : Cx) (hT : c.T = 97) (R : Rn) (status : Int) (text : ByteArray) (hf : Room c.D R 70) : Meth 61 c [.int .i64 status, .string text] R (cls c.D R status text) (.tuple #[]) := by
  intro b y w hy hD hm
  obtain ⟨T, D, dsl, now⟩ := c
  dsimp only at hT hf
  subst hT
  obtain ⟨A, cap, hdsl, hnds⟩ := RDf.dsl hD
  dsimp only at hdsl hnds
  subst hdsl
  have hdn := hf.dn
  refine enterF (M := rnM _ b R y) Try.func61 rfl Try.ntmps61 rfl hm ?_
  (repeat first|(with_reducible first|apply Za|apply Zb|apply Zc)|((with_reducible apply ZI);rfl;rfl)|((with_reducible apply Zqr);rfl;rfl;rfl))
  refine SK.meth (vs := [.agg (Ev.c ⟨15, e0, text, status⟩).toArray]) rfl rfl (happens55 _ rfl R ⟨15, e0, text, status⟩ hf.fit hdn) hy hD (by (repeat constructor)) (by (repeat constructor)) (by (repeat constructor)) (by (repeat constructor)) (by (repeat constructor)) (fun y1 hy1 => ?_)
  dsimp only
  have hr1 : Room D (happ D R ⟨15, e0, text, status⟩) 69 := hf.happ _ (show (15 : Int) ≠ 13 by decide)
  generalize hR1 : happ D R ⟨15, e0, text, status⟩ = R1 at hr1 hy1 ⊢
  (repeat first|(with_reducible first|apply Za|apply Zb|apply Zc|apply Zd|apply Zi|apply Zr|apply Zs)|((with_reducible first|apply ZI|apply ZK|apply ZM|apply ZN);rfl;rfl)|((with_reducible apply Zqz);rfl;rfl;(focus (repeat constructor));rfl))
  refine SK.loopW (fun g : Nat × Y4 => [(19, .int .i64 (g.1 : Int)), (18, .int .i64 (D.nodes.length : Int)), (17, .slice A D.nodes.length cap), (0, .pointer (some ⟨b, 0, none⟩)), (1, .int .i64 status), (2, .string text)])
    (fun g : Nat × Y4 => rnM ⟨97, D, .slice A D.nodes.length cap, now⟩ b (clm D text R1 g.1) g.2) (fun g => g.1 ≤ D.nodes.length ∧ ORn (clm D text R1 g.1) g.2) (fun g => D.nodes.length - g.1) (0, y1) ⟨Nat.zero_le _, hy1⟩ (by (repeat constructor)) (by (repeat constructor)) ?_
  rintro ⟨k, yk⟩ ⟨hk, hyk⟩
  dsimp only at hk hyk ⊢
  have hRk : Room D (clm D text R1 k) (69 - k) := Room.clm text k (69 - k) (hr1.mono (by omega))
  have hSk : (clm D text R1 k).S = R1.S := clm_S text k
  have hstep : clm D text R1 (k + 1) = cnc (clm D text R1 k) text D.nodes[k]? R1.S.nodes[k]? := rfl
  by_cases hkl : k < D.nodes.length
  · obtain ⟨nd, hnd⟩ : ∃ nd, D.nodes[k]? = some nd := ⟨_, List.getElem?_eq_getElem hkl⟩
    obtain ⟨bd, o, av, rfl, hnd2⟩ := hnds k nd hnd
    obtain ⟨Aa, ca, hav, _⟩ := id hnd2.1
    subst hav
    have hcell := hnd2.2
    have hnm := hr1.nm nd (List.mem_of_getElem? hnd)
    rw [hnd] at hstep
    generalize clm D text R1 k = Rk at *
    obtain ⟨⟨oN, oS⟩, oE, oT⟩ := yk
    have hoN := hyk.1.1
    dsimp only at hoN
    have go : ∀ Z : Rn, clm D text R1 (k + 1) = Z → True := fun _ _ => trivial
    by_cases k3 : nd.kind = 3
    · cases oN with
      | none =>
        have h0 : Rk.S.nodes.length = 0 := hoN.2
        have hlt : ¬ k < Rk.S.nodes.length := by omega
        rw [cnc_no (fun z hz => by have := (List.getElem?_eq_some_iff.1 hz).1; rw [← hSk] at this; omega)] at hstep
        (repeat first|(with_reducible first|apply Za|apply Zb|apply Zc|apply Zd|apply Zi|apply Zl|apply Zo|apply Zr|apply Zs)|((with_reducible refine Yz ?_);first|((with_reducible apply SK.indexAddr); rfl; rfl; rfl; exact hkl)|((with_reducible apply SK.loadAR); rfl; rfl; exact hcell; rfl)|((with_reducible first|apply ZI|apply ZJ|apply ZK|apply ZM|apply ZN|apply ZO);rfl;rfl)|((with_reducible first|apply ZR|apply ZS|apply ZW);rfl;rfl;rfl;omega)|((with_reducible apply ZY);rfl;rfl;rfl;omega)|((with_reducible first|apply Zqm|apply Zqo);rfl;rfl;rfl)|((with_reducible apply Zqs);rfl;rfl;rfl)|((with_reducible apply Zqx);rfl;rfl;rfl;rfl)|((with_reducible apply Zqz);rfl;rfl;(focus (repeat constructor));rfl)|((with_reducible apply Zrc);rfl;rfl;rfl;exact List.cons_ne_nil _ _;(first|rfl|(repeat first|exact plain_nil|(refine plain_cons (by first|rfl|exact OwnD.plain_val _ _) ?_)));(focus (repeat constructor));rfl)|((with_reducible apply Zrg);rfl;intro _))|((with_reducible apply ZC);rfl)|((with_reducible apply ZD);rfl))
        refine SK.roundW (k + 1, ((none, oS), oE, oT)) ⟨by omega, by dsimp only; rw [hstep]; exact hyk⟩ (by dsimp only; omega) (by (repeat constructor)) (by dsimp only; rw [hstep]; (repeat constructor))
      | some q =>
        obtain ⟨bN, capN, spN⟩ := q
        by_cases hlt : k < Rk.S.nodes.length
        · obtain ⟨x, hx⟩ : ∃ x, Rk.S.nodes[k]? = some x := ⟨_, List.getElem?_eq_getElem hlt⟩
          have hld := nld hx spN 0 (.int .i64 x.st) rfl
          by_cases hst : x.st = 2
          · rw [← hSk, hx, cnc_yes k3 hst] at hstep
            (repeat first|(with_reducible first|apply Za|apply Zb|apply Zc|apply Zd|apply Zi|apply Zo|apply Zr|apply Zs)|((with_reducible refine Yz ?_);first|((with_reducible apply SK.indexAddr); rfl; rfl; rfl; first | exact hkl | exact hlt)|((with_reducible apply SK.loadAR); rfl; rfl; exact hcell; rfl)|((with_reducible apply SK.load1); rfl; rfl; (focus (repeat (first | exact List.mem_cons_self | apply List.mem_cons_of_mem))); with_reducible exact hld)|((with_reducible first|apply ZI|apply ZJ|apply ZK|apply ZM|apply ZN|apply ZO);rfl;rfl)|((with_reducible first|apply ZS|apply ZW);rfl;rfl;rfl;omega)|((with_reducible first|apply Zqm|apply Zqo);rfl;rfl;rfl)|((with_reducible first|apply Zqz|apply Zra);rfl;rfl;(focus (repeat constructor));rfl)|((with_reducible apply Zrc);rfl;rfl;rfl;exact List.cons_ne_nil _ _;(first|rfl|(repeat first|exact plain_nil|(refine plain_cons (by first|rfl|exact OwnD.plain_val _ _) ?_)));(focus (repeat constructor));rfl)|((with_reducible apply Zrg);rfl;intro _))|((with_reducible first|apply Zz|apply ZC);rfl)|refine Yi 5 i61_5 (by kernel_rfl) ?_)
            refine SK.callA rfl rfl (fun w1 _ g2 => child81 b Rk.S.id nd (.slice Aa nd.after.length ca) w1 (g2 _ _ _ (by (repeat constructor)) 3 _ rfl) hRk.id hnm) ?_
            (repeat first|(with_reducible apply Zs)|((with_reducible apply Zqr);rfl;rfl;rfl)|((with_reducible apply Zz);rfl)|((with_reducible apply ZE);rfl;infer_instance;rfl;(focus (repeat constructor));rfl;rfl))
            refine SK.meth (vs := [.agg (Ml.c ⟨4, chl Rk.S nd, e0, nd.name, e0, text, 0⟩).toArray]) rfl rfl (mail80 _ rfl Rk ⟨4, chl Rk.S nd, e0, nd.name, e0, text, 0⟩ hRk.fit) hyk hD (by (repeat constructor)) (by (repeat constructor)) (by (repeat constructor)) (by (repeat constructor)) (by (repeat constructor)) (fun y2 hy2 => ?_)
            (repeat first|(with_reducible first|apply Zb|apply Zc|apply Zd|apply Ze|apply Zi|apply Zl|apply Zs)|((with_reducible apply ZI);rfl;rfl)|((with_reducible apply ZR);rfl;rfl;rfl;omega))
            refine SK.roundW (k + 1, y2) ⟨by omega, by dsimp only; rw [hstep]; exact hy2⟩ (by dsimp only; omega) (by (repeat constructor)) (by dsimp only; rw [hstep]; (repeat constructor))
          · rw [← hSk, hx, cnc_no (fun z hz hh => by cases hz; exact hst hh.2)] at hstep
            (repeat first|(with_reducible first|apply Za|apply Zb|apply Zc|apply Zd|apply Zi|apply Zl|apply Zo|apply Zr|apply Zs)|((with_reducible refine Yz ?_);first|((with_reducible apply SK.indexAddr); rfl; rfl; rfl; first | exact hkl | exact hlt)|((with_reducible apply SK.loadAR); rfl; rfl; exact hcell; rfl)|((with_reducible apply SK.load1); rfl; rfl; (focus (repeat (first | exact List.mem_cons_self | apply List.mem_cons_of_mem))); with_reducible exact hld)|((with_reducible first|apply ZI|apply ZJ|apply ZK|apply ZM|apply ZN|apply ZO);rfl;rfl)|((with_reducible first|apply ZR|apply ZS|apply ZW);rfl;rfl;rfl;omega)|((with_reducible apply Zqc);rfl;rfl;rfl;omega)|((with_reducible first|apply Zqm|apply Zqo);rfl;rfl;rfl)|((with_reducible apply Zqz);rfl;rfl;(focus (repeat constructor));rfl)|((with_reducible apply Zrc);rfl;rfl;rfl;exact List.cons_ne_nil _ _;(first|rfl|(repeat first|exact plain_nil|(refine plain_cons (by first|rfl|exact OwnD.plain_val _ _) ?_)));(focus (repeat constructor));rfl)|((with_reducible apply Zrg);rfl;intro _))|((with_reducible apply ZC);rfl)|((with_reducible apply ZD);rfl))
            refine SK.roundW (k + 1, ((some (bN, capN, spN), oS), oE, oT)) ⟨by omega, by dsimp only; rw [hstep]; exact hyk⟩ (by dsimp only; omega) (by (repeat constructor)) (by dsimp only; rw [hstep]; (repeat constructor))
        · rw [cnc_no (fun z hz => by have := (List.getElem?_eq_some_iff.1 hz).1; rw [← hSk] at this; omega)] at hstep
          (repeat first|(with_reducible first|apply Za|apply Zb|apply Zc|apply Zd|apply Zi|apply Zl|apply Zo|apply Zr|apply Zs)|((with_reducible refine Yz ?_);first|((with_reducible apply SK.indexAddr); rfl; rfl; rfl; exact hkl)|((with_reducible apply SK.loadAR); rfl; rfl; exact hcell; rfl)|((with_reducible first|apply ZI|apply ZJ|apply ZK|apply ZM|apply ZN|apply ZO);rfl;rfl)|((with_reducible first|apply ZR|apply ZS|apply ZW);rfl;rfl;rfl;omega)|((with_reducible apply ZY);rfl;rfl;rfl;omega)|((with_reducible first|apply Zqm|apply Zqo);rfl;rfl;rfl)|((with_reducible apply Zqs);rfl;rfl;rfl)|((with_reducible apply Zqx);rfl;rfl;rfl;rfl)|((with_reducible apply Zqz);rfl;rfl;(focus (repeat constructor));rfl)|((with_reducible apply Zrc);rfl;rfl;rfl;exact List.cons_ne_nil _ _;(first|rfl|(repeat first|exact plain_nil|(refine plain_cons (by first|rfl|exact OwnD.plain_val _ _) ?_)));(focus (repeat constructor));rfl)|((with_reducible apply Zrg);rfl;intro _))|((with_reducible apply ZC);rfl)|((with_reducible apply ZD);rfl))
          refine SK.roundW (k + 1, ((some (bN, capN, spN), oS), oE, oT)) ⟨by omega, by dsimp only; rw [hstep]; exact hyk⟩ (by dsimp only; omega) (by (repeat constructor)) (by dsimp only; rw [hstep]; (repeat constructor))
    · rw [cnc_no (fun z hz hh => k3 hh.1)] at hstep
      (repeat first|(with_reducible first|apply Za|apply Zb|apply Zc|apply Zd|apply Zi|apply Zl|apply Zo|apply Zr|apply Zs)|((with_reducible refine Yz ?_);first|((with_reducible apply SK.indexAddr); rfl; rfl; rfl; exact hkl)|((with_reducible apply SK.loadAR); rfl; rfl; exact hcell; rfl)|((with_reducible first|apply ZI|apply ZJ|apply ZK);rfl;rfl)|((with_reducible first|apply ZR|apply ZS);rfl;rfl;rfl;omega)|((with_reducible apply Zqc);rfl;rfl;rfl;omega)|((with_reducible apply Zqs);rfl;rfl;rfl)|((with_reducible apply Zqx);rfl;rfl;rfl;rfl)|((with_reducible apply Zqz);rfl;rfl;(focus (repeat constructor));rfl)|((with_reducible apply Zrc);rfl;rfl;rfl;exact List.cons_ne_nil _ _;(first|rfl|(repeat first|exact plain_nil|(refine plain_cons (by first|rfl|exact OwnD.plain_val _ _) ?_)));(focus (repeat constructor));rfl)|((with_reducible apply Zrg);rfl;intro _))|((with_reducible apply ZC);rfl)|((with_reducible apply ZD);rfl))
      refine SK.roundW (k + 1, ((oN, oS), oE, oT)) ⟨by omega, by dsimp only; rw [hstep]; exact hyk⟩ (by dsimp only; omega) (by (repeat constructor)) (by dsimp only; rw [hstep]; (repeat constructor))
  · have hke : k = D.nodes.length := by omega
    subst hke
    have hcls : cls D R status text = par (clm D text R1 D.nodes.length) status text := by unfold cls; rw [hR1]
    generalize clm D text R1 D.nodes.length = Rk at *
    by_cases hp : Rk.S.parent = ⟨#[]⟩
    · have hp2 : ¬ (Rk.S.parent ≠ ⟨#[]⟩) := fun h => h hp
      have he : cls D R status text = Rk := by rw [hcls]; unfold par; rw [if_pos hp]
      (repeat first|(with_reducible first|apply Za|apply Zb|apply Zc|apply Zd|apply Zi|apply Zj|apply Zn|apply Zo|apply Zq)|((with_reducible first|apply ZI|apply ZK|apply ZN);rfl;rfl)|((with_reducible apply ZY);rfl;rfl;rfl;omega)|((with_reducible apply Zqm);rfl;rfl;rfl)|((with_reducible apply Zqe);rfl;rfl;rfl;assumption)|((with_reducible apply Zqz);rfl;rfl;(focus (repeat constructor));rfl)|((with_reducible apply ZD);rfl))
      exact SK.endQ rfl (by (repeat constructor)) (fun w' hm' => ⟨yk, by rw [he]; exact hyk, rfl, by rw [he]; exact hm'.wk (by (repeat constructor))⟩)
    · have hp2 : Rk.S.parent ≠ ⟨#[]⟩ := hp
      have he : cls D R status text = mlr Rk ⟨2, Rk.S.parent, e0, Rk.S.pnode, e0, text, status⟩ := by rw [hcls]; unfold par; rw [if_neg hp]
      (repeat first|(with_reducible first|apply Za|apply Zb|apply Zc|apply Zd|apply Zi|apply Zj|apply Zn|apply Zq)|((with_reducible first|apply ZI|apply ZK|apply ZN);rfl;rfl)|((with_reducible apply ZY);rfl;rfl;rfl;omega)|((with_reducible first|apply Zqm|apply Zqr);rfl;rfl;rfl)|((with_reducible apply Zqt);rfl;rfl;rfl;assumption)|((with_reducible apply Zqz);rfl;rfl;(focus (repeat constructor));rfl)|((with_reducible first|apply Zz|apply ZC);rfl)|((with_reducible apply ZD);rfl)|refine Yi 8 i61_8 (by kernel_rfl) ?_)
      refine SK.meth (vs := [.agg (Ml.c ⟨2, Rk.S.parent, e0, Rk.S.pnode, e0, text, status⟩).toArray]) rfl rfl (mail80 _ rfl Rk ⟨2, Rk.S.parent, e0, Rk.S.pnode, e0, text, status⟩ hRk.fit) hyk hD (by (repeat constructor)) (by (repeat constructor)) (by (repeat constructor)) (by (repeat constructor)) (by (repeat constructor)) (fun y2 hy2 => ?_)
      (repeat first|(with_reducible first|apply Ze|apply Zs))
      exact SK.endQ rfl (by (repeat constructor)) (fun w' hm' => ⟨y2, by rw [he]; exact hy2, rfl, by rw [he]; exact hm'.wk (by (repeat constructor))⟩)
theorem happ_none {D : Df} {R : Rn} {e : Ev} (h : applyL D R.S e = none) : happ D R e = { R with ev := R.ev ++ [e] } := by unfold happ; rw [h]; rfl
set_option maxRecDepth 100000 in
set_option maxHeartbeats 4000000 in
theorem event67 (c : Cx) (hT : c.T = 113) (R : Rn) (e : Ev) (hf : Fit R) (hn : c.D.nodes.length ≤ 64) : Meth 67 c [.int .i64 e.kind, .string e.node, .string e.text, .int .i64 e.number] R (happ c.D R e) (.tuple #[]) := by
  intro b y w hy hD hm
  obtain ⟨⟨oN, oS⟩, oE, oT⟩ := y
  obtain ⟨hy1, hyE, hyT⟩ := id hy
  obtain ⟨hsm, hev, htk, htx⟩ := hf
  obtain ⟨T, D, dsl, now⟩ := c
  dsimp only at hT hn
  subst hT
  obtain ⟨A, cap, hdsl, hnds⟩ := RDf.dsl hD
  dsimp only at hdsl hnds
  subst hdsl
  refine enterF (M := rnM _ b R ((oN, oS), oE, oT)) Try.func67 rfl Try.ntmps67 rfl hm ?_
  (repeat first|(with_reducible first|apply Za|apply Zb|apply Zc|apply Zd|apply Zf|apply Zi|apply Zs)|((with_reducible first|apply ZI|apply ZK|apply ZN);rfl;rfl)|((with_reducible apply Zqr);rfl;rfl;rfl)|((with_reducible apply Zra);rfl;rfl;(focus (repeat constructor));rfl)|((with_reducible apply Zrc);rfl;rfl;rfl;exact List.cons_ne_nil _ _;(first|rfl|(repeat first|exact plain_nil|(refine plain_cons (by first|rfl|exact OwnD.plain_val _ _) ?_)));(focus (repeat constructor));rfl)|((with_reducible apply Zrg);rfl;intro _)|((with_reducible apply ZA);rfl)|refine Yd 1 o67_1 t67_1 (by kernel_rfl) ?_)
  refine SK.orC ?_ ?_
  · (repeat first|(with_reducible apply Zh)|((with_reducible apply Zz);rfl))
    refine SK.callO rfl rfl (fun w1 g1 g2 => apply28 _ D R.S (oN, oS) e hsm hn hy1 htx w1 (hD.mono g1) (RSt.own hy1.1 hy1.2 (fun b cs hb j u hu => g2 b cs _ (by rw [← hb]; (repeat constructor)) j u hu) (fun b cs hb j u hu => g2 b cs _ (by rw [← hb]; (repeat constructor)) j u hu))) ?_
    intro z hz
    cases z with
    | some y1 =>
      obtain ⟨S', hS', hyS⟩ := hz
      have hg : (applyL D R.S e).getD R.S = S' := by rw [hS']; rfl
      dsimp only [v28, m28]
      rw [hg]
      (repeat first|(with_reducible first|apply Za|apply Zb|apply Zc|apply Zd|apply Zf|apply Zg|apply Zh|apply Zi|apply Zs)|((with_reducible first|apply ZI|apply ZJ|apply ZK|apply ZN);rfl;rfl)|((with_reducible apply ZW);rfl;rfl;rfl;omega)|((with_reducible apply Zqn);rfl;rfl;rfl)|((with_reducible first|apply Zqz|apply Zra);rfl;rfl;(focus (repeat constructor));rfl)|((with_reducible apply Zrc);rfl;rfl;rfl;exact List.cons_ne_nil _ _;(first|rfl|(repeat first|exact plain_nil|(refine plain_cons (by first|rfl|exact OwnD.plain_val _ _) ?_)));(focus (repeat constructor));rfl)|((with_reducible apply Zrd);rfl;rfl;rfl;rfl;rfl;rfl;rfl;intro _)|((with_reducible apply Zrg);rfl;intro _)|((with_reducible first|apply Zz|apply ZA|apply ZC);rfl)|((with_reducible apply ZE);rfl;infer_instance;rfl;(focus (repeat constructor));rfl;rfl)|((with_reducible apply ZF);rfl;infer_instance;rfl;(focus (repeat constructor));rfl;rfl)|refine Yi 4 i67_4 (by kernel_rfl) ?_)
      refine SK.appendP (o := oE) (xs := R.ev.flatMap Ev.c) (news := Ev.c e) (m := 1) rfl rfl hyE rfl (by (repeat constructor)) (Src.mem (by (repeat constructor)) rfl) rfl rfl rfl rfl (by unfold maxLen; omega) (by omega) (fun o1 ho1 _ => ?_)
      (repeat first|(with_reducible first|apply Ze|apply Zs)|((with_reducible first|apply ZK|apply ZN);rfl;rfl)|((with_reducible apply Zrb);rfl;rfl;(first|rfl|exact OwnD.plain_val _ _);(focus (repeat constructor));rfl)|((with_reducible apply Zz);rfl))
      refine SK.endQ rfl (by (repeat constructor)) (fun w' hm' => ⟨(y1, o1, oT), ⟨?_, ?_, hyT⟩, rfl, ?_⟩)
      · simp only [happ, hg]; exact hyS
      · simp only [happ, ev_snoc, List.length_append, List.length_singleton]; exact ho1
      · simp only [rnM, rnC, happ, hg, ev_snoc, List.length_append, List.length_singleton]
        exact hm'.wk (by (repeat constructor))
    | none =>
      have hno : applyL D R.S e = none := hz
      dsimp only [v28, m28]
      (repeat first|(with_reducible first|apply Za|apply Zb|apply Zc|apply Zd|apply Zf|apply Zg|apply Zh|apply Zi|apply Zo|apply Zs)|((with_reducible first|apply ZI|apply ZJ|apply ZK|apply ZN);rfl;rfl)|((with_reducible apply Zqc);rfl;rfl;rfl;omega)|((with_reducible apply Zqn);rfl;rfl;rfl)|((with_reducible first|apply Zqz|apply Zra);rfl;rfl;(focus (repeat constructor));rfl)|((with_reducible apply Zrc);rfl;rfl;rfl;exact List.cons_ne_nil _ _;(first|rfl|(repeat first|exact plain_nil|(refine plain_cons (by first|rfl|exact OwnD.plain_val _ _) ?_)));(focus (repeat constructor));rfl)|((with_reducible apply Zrd);rfl;rfl;rfl;rfl;rfl;rfl;rfl;intro _)|((with_reducible apply Zrg);rfl;intro _)|((with_reducible first|apply Zz|apply ZA);rfl)|((with_reducible apply ZD);rfl)|((with_reducible apply ZE);rfl;infer_instance;rfl;(focus (repeat constructor));rfl;rfl)|((with_reducible apply ZF);rfl;infer_instance;rfl;(focus (repeat constructor));rfl;rfl)|refine Yi 4 i67_4 (by kernel_rfl) ?_)
      refine SK.appendP (o := oE) (xs := R.ev.flatMap Ev.c) (news := Ev.c e) (m := 1) rfl rfl hyE rfl (by (repeat constructor)) (Src.mem (by (repeat constructor)) rfl) rfl rfl rfl rfl (by unfold maxLen; omega) (by omega) (fun o1 ho1 _ => ?_)
      (repeat first|(with_reducible first|apply Ze|apply Zs)|((with_reducible first|apply ZK|apply ZN);rfl;rfl)|((with_reducible apply Zrb);rfl;rfl;(first|rfl|exact OwnD.plain_val _ _);(focus (repeat constructor));rfl)|((with_reducible apply Zz);rfl))
      refine SK.endQ rfl (by (repeat constructor)) (fun w' hm' => ⟨((oN, oS), o1, oT), ⟨?_, ?_, hyT⟩, rfl, ?_⟩)
      · rw [happ_none hno]; exact hy1
      · simp only [happ_none hno, ev_snoc, List.length_append, List.length_singleton]; exact ho1
      · simp only [rnM, rnC, happ_none hno, ev_snoc, List.length_append, List.length_singleton]
        exact hm'.wk (by (repeat constructor))
  · (repeat first|(with_reducible first|apply Zf|apply Zh|apply Zs)|((with_reducible apply Zrg);rfl;intro _)|((with_reducible apply Zz);rfl)|((with_reducible apply ZF);rfl;infer_instance;rfl;(focus (repeat constructor));rfl;rfl))
    refine SK.callO rfl rfl (fun w1 g1 g2 => apply28 _ D R.S (oN, oS) e hsm hn hy1 htx w1 (hD.mono g1) (RSt.own hy1.1 hy1.2 (fun b cs hb j u hu => g2 b cs _ (by rw [← hb]; (repeat constructor)) j u hu) (fun b cs hb j u hu => g2 b cs _ (by rw [← hb]; (repeat constructor)) j u hu))) ?_
    intro z hz
    cases z with
    | some y1 =>
      obtain ⟨S', hS', hyS⟩ := hz
      have hg : (applyL D R.S e).getD R.S = S' := by rw [hS']; rfl
      dsimp only [v28, m28]
      rw [hg]
      (repeat first|(with_reducible first|apply Za|apply Zb|apply Zc|apply Zd|apply Zf|apply Zg|apply Zh|apply Zi|apply Zs)|((with_reducible first|apply ZI|apply ZJ|apply ZK|apply ZN);rfl;rfl)|((with_reducible apply ZW);rfl;rfl;rfl;omega)|((with_reducible apply Zqn);rfl;rfl;rfl)|((with_reducible first|apply Zqz|apply Zra);rfl;rfl;(focus (repeat constructor));rfl)|((with_reducible apply Zrc);rfl;rfl;rfl;exact List.cons_ne_nil _ _;(first|rfl|(repeat first|exact plain_nil|(refine plain_cons (by first|rfl|exact OwnD.plain_val _ _) ?_)));(focus (repeat constructor));rfl)|((with_reducible apply Zrd);rfl;rfl;rfl;rfl;rfl;rfl;rfl;intro _)|((with_reducible first|apply Zz|apply ZA|apply ZC);rfl)|((with_reducible apply ZE);rfl;infer_instance;rfl;(focus (repeat constructor));rfl;rfl)|refine Yi 4 i67_4 (by kernel_rfl) ?_)
      refine SK.appendP (o := oE) (xs := R.ev.flatMap Ev.c) (news := Ev.c e) (m := 1) rfl rfl hyE rfl (by (repeat constructor)) (Src.mem (by (repeat constructor)) rfl) rfl rfl rfl rfl (by unfold maxLen; omega) (by omega) (fun o1 ho1 _ => ?_)
      (repeat first|(with_reducible first|apply Ze|apply Zs)|((with_reducible first|apply ZK|apply ZN);rfl;rfl)|((with_reducible apply Zrb);rfl;rfl;(first|rfl|exact OwnD.plain_val _ _);(focus (repeat constructor));rfl)|((with_reducible apply Zz);rfl))
      refine SK.endQ rfl (by (repeat constructor)) (fun w' hm' => ⟨(y1, o1, oT), ⟨?_, ?_, hyT⟩, rfl, ?_⟩)
      · simp only [happ, hg]; exact hyS
      · simp only [happ, ev_snoc, List.length_append, List.length_singleton]; exact ho1
      · simp only [rnM, rnC, happ, hg, ev_snoc, List.length_append, List.length_singleton]
        exact hm'.wk (by (repeat constructor))
    | none =>
      have hno : applyL D R.S e = none := hz
      dsimp only [v28, m28]
      (repeat first|(with_reducible first|apply Za|apply Zb|apply Zc|apply Zd|apply Zf|apply Zg|apply Zh|apply Zi|apply Zo|apply Zs)|((with_reducible first|apply ZI|apply ZJ|apply ZK|apply ZN);rfl;rfl)|((with_reducible apply Zqc);rfl;rfl;rfl;omega)|((with_reducible apply Zqn);rfl;rfl;rfl)|((with_reducible first|apply Zqz|apply Zra);rfl;rfl;(focus (repeat constructor));rfl)|((with_reducible apply Zrc);rfl;rfl;rfl;exact List.cons_ne_nil _ _;(first|rfl|(repeat first|exact plain_nil|(refine plain_cons (by first|rfl|exact OwnD.plain_val _ _) ?_)));(focus (repeat constructor));rfl)|((with_reducible apply Zrd);rfl;rfl;rfl;rfl;rfl;rfl;rfl;intro _)|((with_reducible first|apply Zz|apply ZA);rfl)|((with_reducible apply ZD);rfl)|((with_reducible apply ZE);rfl;infer_instance;rfl;(focus (repeat constructor));rfl;rfl)|refine Yi 4 i67_4 (by kernel_rfl) ?_)
      refine SK.appendP (o := oE) (xs := R.ev.flatMap Ev.c) (news := Ev.c e) (m := 1) rfl rfl hyE rfl (by (repeat constructor)) (Src.mem (by (repeat constructor)) rfl) rfl rfl rfl rfl (by unfold maxLen; omega) (by omega) (fun o1 ho1 _ => ?_)
      (repeat first|(with_reducible first|apply Ze|apply Zs)|((with_reducible first|apply ZK|apply ZN);rfl;rfl)|((with_reducible apply Zrb);rfl;rfl;(first|rfl|exact OwnD.plain_val _ _);(focus (repeat constructor));rfl)|((with_reducible apply Zz);rfl))
      refine SK.endQ rfl (by (repeat constructor)) (fun w' hm' => ⟨((oN, oS), o1, oT), ⟨?_, ?_, hyT⟩, rfl, ?_⟩)
      · rw [happ_none hno]; exact hy1
      · simp only [happ_none hno, ev_snoc, List.length_append, List.length_singleton]; exact ho1
      · simp only [rnM, rnC, happ_none hno, ev_snoc, List.length_append, List.length_singleton]
        exact hm'.wk (by (repeat constructor))
set_option maxRecDepth 100000 in
set_option maxHeartbeats 8000000 in
theorem closed73 (c : Cx) (hT : c.T = 113) (R : Rn) (status : Int) (text : ByteArray) (hf : Room c.D R 70) : Meth 73 c [.int .i64 status, .string text] R (cls c.D R status text) (.tuple #[]) := by
  intro b y w hy hD hm
  obtain ⟨T, D, dsl, now⟩ := c
  dsimp only at hT hf
  subst hT
  obtain ⟨A, cap, hdsl, hnds⟩ := RDf.dsl hD
  dsimp only at hdsl hnds
  subst hdsl
  have hdn := hf.dn
  refine enterF (M := rnM _ b R y) Try.func73 rfl Try.ntmps73 rfl hm ?_
  (repeat first|(with_reducible first|apply Za|apply Zb|apply Zc)|((with_reducible apply ZI);rfl;rfl))
  refine SK.meth rfl rfl (event67 _ rfl R ⟨15, e0, text, status⟩ hf.fit hdn) hy hD (by (repeat constructor)) (by (repeat constructor)) (by (repeat constructor)) (by (repeat constructor)) (by (repeat constructor)) (fun y1 hy1 => ?_)
  dsimp only
  have hr1 : Room D (happ D R ⟨15, e0, text, status⟩) 69 := hf.happ _ (show (15 : Int) ≠ 13 by decide)
  generalize hR1 : happ D R ⟨15, e0, text, status⟩ = R1 at hr1 hy1 ⊢
  have hsn := hr1.sn
  (repeat first|(with_reducible first|apply Za|apply Zb|apply Zc|apply Zd|apply Zi|apply Zr|apply Zs)|((with_reducible apply ZJ);rfl;rfl))
  refine SK.loopW (fun g : Nat × Y4 => [(6, .int .i64 (g.1 : Int)), (0, .pointer (some ⟨b, 0, none⟩)), (1, .int .i64 status), (2, .string text)])
    (fun g : Nat × Y4 => rnM ⟨113, D, .slice A D.nodes.length cap, now⟩ b (clm D text R1 g.1) g.2) (fun g => g.1 ≤ D.nodes.length ∧ ORn (clm D text R1 g.1) g.2) (fun g => D.nodes.length - g.1) (0, y1) ⟨Nat.zero_le _, hy1⟩ (by (repeat constructor)) (by (repeat constructor)) ?_
  rintro ⟨k, yk⟩ ⟨hk, hyk⟩
  dsimp only at hk hyk ⊢
  have hRk : Room D (clm D text R1 k) (69 - k) := Room.clm text k (69 - k) (hr1.mono (by omega))
  have hSk : (clm D text R1 k).S = R1.S := clm_S text k
  have hstep : clm D text R1 (k + 1) = cnc (clm D text R1 k) text D.nodes[k]? R1.S.nodes[k]? := rfl
  obtain ⟨⟨oN, oS⟩, oE, oT⟩ := yk
  have hoN := hyk.1.1
  dsimp only at hoN
  by_cases hin : k < D.nodes.length ∧ k < R1.S.nodes.length
  · obtain ⟨hkl, hkn⟩ := hin
    obtain ⟨nd, hnd⟩ : ∃ nd, D.nodes[k]? = some nd := ⟨_, List.getElem?_eq_getElem hkl⟩
    obtain ⟨bd, o, av, rfl, hnd2⟩ := hnds k nd hnd
    obtain ⟨Aa, ca, hav, _⟩ := id hnd2.1
    subst hav
    have hcell := hnd2.2
    have hnm := hr1.nm nd (List.mem_of_getElem? hnd)
    rw [hnd] at hstep
    generalize clm D text R1 k = Rk at *
    have hlt : k < Rk.S.nodes.length := by rw [hSk]; exact hkn
    cases oN with
    | none => have h0 : Rk.S.nodes.length = 0 := hoN.2; omega
    | some q =>
      obtain ⟨bN, capN, spN⟩ := q
      obtain ⟨x, hx⟩ : ∃ x, Rk.S.nodes[k]? = some x := ⟨_, List.getElem?_eq_getElem hlt⟩
      have hld := nld hx spN 0 (.int .i64 x.st) rfl
      rw [← hSk, hx] at hstep
      by_cases k3 : nd.kind = 3
      · by_cases hst : x.st = 2
        · rw [cnc_yes k3 hst] at hstep
          have hid := hRk.id
          have hsz := sizeSlash Rk.S.id
          (repeat first|(with_reducible first|apply Za|apply Zb|apply Zc|apply Zd|apply Zi|apply Zo|apply Zr|apply Zs)|((with_reducible refine Yz ?_);first|((with_reducible apply SK.indexAddr); rfl; rfl; rfl; first | exact hkl | exact hlt)|((with_reducible apply SK.loadAR); rfl; rfl; exact hcell; rfl)|((with_reducible apply SK.load1); rfl; rfl; (focus (repeat (first | exact List.mem_cons_self | apply List.mem_cons_of_mem))); with_reducible exact hld)|((with_reducible refine SK.isBin ?_); (with_reducible apply SK.addS); rfl; rfl; rfl; (first | (show Rk.S.id.size + 1 ≤ _; omega) | (show (Rk.S.id ++ slash).size + nd.name.size ≤ _; omega)))|((with_reducible first|apply ZI|apply ZK|apply ZM|apply ZN|apply ZO);rfl;rfl)|((with_reducible first|apply ZS|apply ZW);rfl;rfl;rfl;omega)|((with_reducible first|apply Zqm|apply Zqo|apply Zqr);rfl;rfl;rfl)|((with_reducible apply Zqz);rfl;rfl;(focus (repeat constructor));rfl)|((with_reducible apply Zrc);rfl;rfl;rfl;exact List.cons_ne_nil _ _;(first|rfl|(repeat first|exact plain_nil|(refine plain_cons (by first|rfl|exact OwnD.plain_val _ _) ?_)));(focus (repeat constructor));rfl)|((with_reducible apply Zrg);rfl;intro _))|((with_reducible first|apply Zz|apply ZC);rfl)|refine Yi 6 i73_6 (by kernel_rfl) ?_)
          refine SK.meth (vs := [.agg (Ml.c ⟨4, chl Rk.S nd, e0, nd.name, e0, text, 0⟩).toArray]) rfl rfl (mail93 _ rfl Rk ⟨4, chl Rk.S nd, e0, nd.name, e0, text, 0⟩ hRk.fit) hyk hD (by (repeat constructor)) (by (repeat constructor)) (by (repeat constructor)) (by (repeat constructor)) (by (repeat constructor)) (fun y2 hy2 => ?_)
          (repeat first|(with_reducible first|apply Zb|apply Zc|apply Zd|apply Ze|apply Zi|apply Zl|apply Zs)|((with_reducible first|apply ZI|apply ZJ);rfl;rfl)|((with_reducible apply ZR);rfl;rfl;rfl;omega))
          refine SK.roundW (k + 1, y2) ⟨by omega, by dsimp only; rw [hstep]; exact hy2⟩ (by dsimp only; omega) (by (repeat constructor)) (by dsimp only; rw [hstep]; (repeat constructor))
        · rw [cnc_no (fun z hz hh => by cases hz; exact hst hh.2)] at hstep
          (repeat first|(with_reducible first|apply Za|apply Zb|apply Zc|apply Zd|apply Zi|apply Zl|apply Zo|apply Zr|apply Zs)|((with_reducible refine Yz ?_);first|((with_reducible apply SK.indexAddr); rfl; rfl; rfl; first | exact hkl | exact hlt)|((with_reducible apply SK.loadAR); rfl; rfl; exact hcell; rfl)|((with_reducible apply SK.load1); rfl; rfl; (focus (repeat (first | exact List.mem_cons_self | apply List.mem_cons_of_mem))); with_reducible exact hld)|((with_reducible first|apply ZI|apply ZJ|apply ZK|apply ZM|apply ZN|apply ZO);rfl;rfl)|((with_reducible first|apply ZR|apply ZS|apply ZW);rfl;rfl;rfl;omega)|((with_reducible apply Zqc);rfl;rfl;rfl;omega)|((with_reducible first|apply Zqm|apply Zqo);rfl;rfl;rfl)|((with_reducible apply Zqz);rfl;rfl;(focus (repeat constructor));rfl)|((with_reducible apply Zrc);rfl;rfl;rfl;exact List.cons_ne_nil _ _;(first|rfl|(repeat first|exact plain_nil|(refine plain_cons (by first|rfl|exact OwnD.plain_val _ _) ?_)));(focus (repeat constructor));rfl)|((with_reducible apply Zrg);rfl;intro _))|((with_reducible apply ZC);rfl)|((with_reducible apply ZD);rfl))
          refine SK.roundW (k + 1, ((some (bN, capN, spN), oS), oE, oT)) ⟨by omega, by dsimp only; rw [hstep]; exact hyk⟩ (by dsimp only; omega) (by (repeat constructor)) (by dsimp only; rw [hstep]; (repeat constructor))
      · rw [cnc_no (fun z hz hh => k3 hh.1)] at hstep
        (repeat first|(with_reducible first|apply Za|apply Zb|apply Zc|apply Zd|apply Zi|apply Zl|apply Zo|apply Zr|apply Zs)|((with_reducible refine Yz ?_);first|((with_reducible apply SK.indexAddr); rfl; rfl; rfl; exact hkl)|((with_reducible apply SK.loadAR); rfl; rfl; exact hcell; rfl)|((with_reducible first|apply ZI|apply ZJ|apply ZK|apply ZM|apply ZN|apply ZO);rfl;rfl)|((with_reducible first|apply ZR|apply ZS);rfl;rfl;rfl;omega)|((with_reducible apply Zqc);rfl;rfl;rfl;omega)|((with_reducible first|apply Zqm|apply Zqo);rfl;rfl;rfl)|((with_reducible apply Zqs);rfl;rfl;rfl)|((with_reducible apply Zqx);rfl;rfl;rfl;rfl)|((with_reducible apply Zqz);rfl;rfl;(focus (repeat constructor));rfl)|((with_reducible apply Zrc);rfl;rfl;rfl;exact List.cons_ne_nil _ _;(first|rfl|(repeat first|exact plain_nil|(refine plain_cons (by first|rfl|exact OwnD.plain_val _ _) ?_)));(focus (repeat constructor));rfl)|((with_reducible apply Zrg);rfl;intro _))|((with_reducible apply ZC);rfl)|((with_reducible apply ZD);rfl))
        refine SK.roundW (k + 1, ((some (bN, capN, spN), oS), oE, oT)) ⟨by omega, by dsimp only; rw [hstep]; exact hyk⟩ (by dsimp only; omega) (by (repeat constructor)) (by dsimp only; rw [hstep]; (repeat constructor))
  · have hstop : clm D text R1 D.nodes.length = clm D text R1 k := by
      rcases Nat.lt_or_ge k D.nodes.length with h | h
      · have hge : R1.S.nodes.length ≤ k := by omega
        have := clm_stop (D := D) (text := text) hge (D.nodes.length - k)
        rwa [show k + (D.nodes.length - k) = D.nodes.length by omega] at this
      · rw [show k = D.nodes.length by omega]
    have hcls : cls D R status text = par (clm D text R1 k) status text := by unfold cls; rw [hR1, hstop]
    generalize clm D text R1 k = Rk at *
    have go : ∀ t : Nat, t = D.nodes.length → True := fun _ _ => trivial
    by_cases hp : Rk.S.parent = ⟨#[]⟩
    · have hp2 : ¬ (Rk.S.parent ≠ ⟨#[]⟩) := fun h => h hp
      have he : cls D R status text = Rk := by rw [hcls]; unfold par; rw [if_pos hp]
      by_cases hkl : k < D.nodes.length
      · have hlt : ¬ k < Rk.S.nodes.length := by rw [hSk]; exact fun h => hin ⟨hkl, h⟩
        cases oN with
        | none =>
          (repeat first|(with_reducible first|apply Za|apply Zb|apply Zc|apply Zd|apply Zi|apply Zj|apply Zn|apply Zo|apply Zq)|((with_reducible first|apply ZI|apply ZK|apply ZM|apply ZN|apply ZO);rfl;rfl)|((with_reducible apply ZS);rfl;rfl;rfl;omega)|((with_reducible apply ZY);rfl;rfl;rfl;omega)|((with_reducible first|apply Zqm|apply Zqo);rfl;rfl;rfl)|((with_reducible apply Zqe);rfl;rfl;rfl;assumption)|((with_reducible apply Zqz);rfl;rfl;(focus (repeat constructor));rfl)|((with_reducible apply ZD);rfl))
          exact SK.endQ rfl (by (repeat constructor)) (fun w' hm' => ⟨_, by rw [he]; exact hyk, rfl, by rw [he]; exact hm'.wk (by (repeat constructor))⟩)
        | some q =>
          obtain ⟨bN, capN, spN⟩ := q
          (repeat first|(with_reducible first|apply Za|apply Zb|apply Zc|apply Zd|apply Zi|apply Zj|apply Zn|apply Zo|apply Zq)|((with_reducible first|apply ZI|apply ZK|apply ZM|apply ZN|apply ZO);rfl;rfl)|((with_reducible apply ZS);rfl;rfl;rfl;omega)|((with_reducible apply ZY);rfl;rfl;rfl;omega)|((with_reducible first|apply Zqm|apply Zqo);rfl;rfl;rfl)|((with_reducible apply Zqe);rfl;rfl;rfl;assumption)|((with_reducible apply Zqz);rfl;rfl;(focus (repeat constructor));rfl)|((with_reducible apply ZD);rfl))
          exact SK.endQ rfl (by (repeat constructor)) (fun w' hm' => ⟨_, by rw [he]; exact hyk, rfl, by rw [he]; exact hm'.wk (by (repeat constructor))⟩)
      · (repeat first|(with_reducible first|apply Za|apply Zb|apply Zc|apply Zd|apply Zi|apply Zj|apply Zn|apply Zo|apply Zq)|((with_reducible first|apply ZI|apply ZK|apply ZM|apply ZN);rfl;rfl)|((with_reducible apply ZY);rfl;rfl;rfl;omega)|((with_reducible apply Zqm);rfl;rfl;rfl)|((with_reducible apply Zqs);rfl;rfl;rfl)|((with_reducible apply Zqe);rfl;rfl;rfl;assumption)|((with_reducible apply Zqx);rfl;rfl;rfl;rfl)|((with_reducible apply Zqz);rfl;rfl;(focus (repeat constructor));rfl)|((with_reducible apply ZD);rfl))
        exact SK.endQ rfl (by (repeat constructor)) (fun w' hm' => ⟨_, by rw [he]; exact hyk, rfl, by rw [he]; exact hm'.wk (by (repeat constructor))⟩)
    · have hp2 : Rk.S.parent ≠ ⟨#[]⟩ := hp
      have he : cls D R status text = mlr Rk ⟨2, Rk.S.parent, e0, Rk.S.pnode, e0, text, status⟩ := by rw [hcls]; unfold par; rw [if_neg hp]
      by_cases hkl : k < D.nodes.length
      · have hlt : ¬ k < Rk.S.nodes.length := by rw [hSk]; exact fun h => hin ⟨hkl, h⟩
        cases oN with
        | none =>
          (repeat first|(with_reducible first|apply Za|apply Zb|apply Zc|apply Zd|apply Zi|apply Zj|apply Zn|apply Zq)|((with_reducible first|apply ZI|apply ZK|apply ZM|apply ZN|apply ZO);rfl;rfl)|((with_reducible apply ZS);rfl;rfl;rfl;omega)|((with_reducible apply ZY);rfl;rfl;rfl;omega)|((with_reducible first|apply Zqm|apply Zqo|apply Zqr);rfl;rfl;rfl)|((with_reducible apply Zqt);rfl;rfl;rfl;assumption)|((with_reducible apply Zqz);rfl;rfl;(focus (repeat constructor));rfl)|((with_reducible first|apply Zz|apply ZC);rfl)|((with_reducible apply ZD);rfl)|refine Yi 8 i73_8 (by kernel_rfl) ?_)
          refine SK.meth (vs := [.agg (Ml.c ⟨2, Rk.S.parent, e0, Rk.S.pnode, e0, text, status⟩).toArray]) rfl rfl (mail93 _ rfl Rk ⟨2, Rk.S.parent, e0, Rk.S.pnode, e0, text, status⟩ hRk.fit) hyk hD (by (repeat constructor)) (by (repeat constructor)) (by (repeat constructor)) (by (repeat constructor)) (by (repeat constructor)) (fun y2 hy2 => ?_)
          (repeat first|(with_reducible first|apply Ze|apply Zs))
          exact SK.endQ rfl (by (repeat constructor)) (fun w' hm' => ⟨y2, by rw [he]; exact hy2, rfl, by rw [he]; exact hm'.wk (by (repeat constructor))⟩)
        | some q =>
          obtain ⟨bN, capN, spN⟩ := q
          (repeat first|(with_reducible first|apply Za|apply Zb|apply Zc|apply Zd|apply Zi|apply Zj|apply Zn|apply Zq)|((with_reducible first|apply ZI|apply ZK|apply ZM|apply ZN|apply ZO);rfl;rfl)|((with_reducible apply ZS);rfl;rfl;rfl;omega)|((with_reducible apply ZY);rfl;rfl;rfl;omega)|((with_reducible first|apply Zqm|apply Zqo|apply Zqr);rfl;rfl;rfl)|((with_reducible apply Zqt);rfl;rfl;rfl;assumption)|((with_reducible apply Zqz);rfl;rfl;(focus (repeat constructor));rfl)|((with_reducible first|apply Zz|apply ZC);rfl)|((with_reducible apply ZD);rfl)|refine Yi 8 i73_8 (by kernel_rfl) ?_)
          refine SK.meth (vs := [.agg (Ml.c ⟨2, Rk.S.parent, e0, Rk.S.pnode, e0, text, status⟩).toArray]) rfl rfl (mail93 _ rfl Rk ⟨2, Rk.S.parent, e0, Rk.S.pnode, e0, text, status⟩ hRk.fit) hyk hD (by (repeat constructor)) (by (repeat constructor)) (by (repeat constructor)) (by (repeat constructor)) (by (repeat constructor)) (fun y2 hy2 => ?_)
          (repeat first|(with_reducible first|apply Ze|apply Zs))
          exact SK.endQ rfl (by (repeat constructor)) (fun w' hm' => ⟨y2, by rw [he]; exact hy2, rfl, by rw [he]; exact hm'.wk (by (repeat constructor))⟩)
      · (repeat first|(with_reducible first|apply Za|apply Zb|apply Zc|apply Zd|apply Zi|apply Zj|apply Zn|apply Zq)|((with_reducible first|apply ZI|apply ZK|apply ZM|apply ZN);rfl;rfl)|((with_reducible apply ZY);rfl;rfl;rfl;omega)|((with_reducible first|apply Zqm|apply Zqr);rfl;rfl;rfl)|((with_reducible apply Zqs);rfl;rfl;rfl)|((with_reducible apply Zqt);rfl;rfl;rfl;assumption)|((with_reducible apply Zqx);rfl;rfl;rfl;rfl)|((with_reducible apply Zqz);rfl;rfl;(focus (repeat constructor));rfl)|((with_reducible first|apply Zz|apply ZC);rfl)|((with_reducible apply ZD);rfl)|refine Yi 8 i73_8 (by kernel_rfl) ?_)
        refine SK.meth (vs := [.agg (Ml.c ⟨2, Rk.S.parent, e0, Rk.S.pnode, e0, text, status⟩).toArray]) rfl rfl (mail93 _ rfl Rk ⟨2, Rk.S.parent, e0, Rk.S.pnode, e0, text, status⟩ hRk.fit) hyk hD (by (repeat constructor)) (by (repeat constructor)) (by (repeat constructor)) (by (repeat constructor)) (by (repeat constructor)) (fun y2 hy2 => ?_)
        (repeat first|(with_reducible first|apply Ze|apply Zs))
        exact SK.endQ rfl (by (repeat constructor)) (fun w' hm' => ⟨y2, by rw [he]; exact hy2, rfl, by rw [he]; exact hm'.wk (by (repeat constructor))⟩)
end Go.Proofs.Ytdnjfmgldkommaa
