/- Proved here: an event is applied: the program. -/
import Derived.Test.YtdnjfmgldkommaaFb
namespace Go.Proofs.Ytdnjfmgldkommaa
open Go.Sx
theorem delSg (o : OwnD) (l : List Sg) (k : Nat) (ho : o.ok l.length 2 (l.flatMap Sg.c)) (hk : k < l.length) (hs : l.length ≤ 100000) (w : World) (hm : Mem w (keys [o.ent (l.flatMap Sg.c) 100]) [o.ent (l.flatMap Sg.c) 100] w) :
    Calls Try.prog 86 [o.val l.length, .int .i64 (k : Int), .int .i64 ((k + 1 : Nat) : Int)].toArray w
      (Ret w [o.ent (l.flatMap Sg.c) 100] (fun o' : OwnD => o'.ok (l.eraseIdx k).length 2 ((l.eraseIdx k).flatMap Sg.c)) (fun o' => o'.val (l.eraseIdx k).length) (fun o' => [o'.ent ((l.eraseIdx k).flatMap Sg.c) 100])) := by
  cases o with
  | none => have : l.length = 0 := ho.2; omega
  | some q =>
    obtain ⟨b, cap, sp⟩ := q
    obtain ⟨h1, h2, h3, h4⟩ := ho
    have hx : l[k]? = some l[k] := List.getElem?_eq_getElem hk
    have hlen : (l.eraseIdx k).length = l.length - 1 := List.length_eraseIdx_of_lt hk
    simp only [OwnD.ent, Option.map] at hm ⊢
    rw [flat_split l k _ hx, List.append_assoc, List.append_assoc] at hm h4 ⊢
    have := del86 b cap k l.length ((l.take k).flatMap Sg.c) (Sg.c l[k]) ((l.drop (k + 1)).flatMap Sg.c) sp (by rw [flat_len sg_len]; simp; omega) rfl (by rw [flat_len sg_len]; simp) hk h2 h3 hs h4 (sg_plain _) w hm
    refine this.mono fun e w' ⟨sp', h5, h6, h7⟩ => ⟨some (b, cap, sp'), ?_, ?_, ?_⟩
    · rw [List.eraseIdx_eq_take_drop_succ, List.flatMap_append]
      refine ⟨?_, ?_, h3, h5⟩
      · rw [← List.flatMap_append, flat_len sg_len]
      · have := hlen; rw [List.eraseIdx_eq_take_drop_succ] at this; omega
    · rw [h6, hlen]; rfl
    · rw [List.eraseIdx_eq_take_drop_succ, List.flatMap_append]
      exact h7
def isL (kind st a b : Int) : Bool := decide (kind = a) && decide (st = b)
set_option maxRecDepth 100000 in
theorem is84 (kind st a b : Int) (bn bx bN o : Nat) (w : World) (h1 : Vw w [] bn 1 (.int .i64 kind)) (h2 : Vw w [] bx 0 (.pointer (some ⟨bN, o, none⟩))) (h3 : Vw w [] bN (o + 0) (.int .i64 st)) :
    Ans 84 [.int .i64 a, .int .i64 b, .pointer (some ⟨bn, 0, none⟩), .pointer (some ⟨bx, 0, none⟩)] w (.bool (isL kind st a b)) := by
  refine enter0 Try.func84 rfl Try.ntmps84 rfl ?_
  by_cases ha : kind = a
  · by_cases hb : st = b
    · (repeat first|(with_reducible first|apply Za|apply Zb|apply Zc|apply Zd|apply Zi|apply Zp)|((with_reducible refine Yz ?_);first|((with_reducible apply SK.load1R); rfl; rfl; first | exact h1 | exact h2 | exact h3)|((with_reducible first|apply ZI|apply ZJ|apply ZK|apply ZN|apply ZO);rfl;rfl)|((with_reducible apply ZW);rfl;rfl;rfl;omega)|((with_reducible first|apply Zqm|apply Zqo);rfl;rfl;rfl)))
      exact SK.retQ rfl (by (repeat constructor)) (fun w' hm' => ⟨(), trivial, by simp [isL, ha, hb, retV], hm'.wk (by (repeat constructor))⟩)
    · (repeat first|(with_reducible first|apply Za|apply Zb|apply Zc|apply Zd|apply Zi|apply Zp)|((with_reducible refine Yz ?_);first|((with_reducible apply SK.load1R); rfl; rfl; first | exact h1 | exact h2 | exact h3)|((with_reducible first|apply ZI|apply ZJ|apply ZK|apply ZN|apply ZO);rfl;rfl)|((with_reducible apply ZW);rfl;rfl;rfl;omega)|((with_reducible apply Zqc);rfl;rfl;rfl;omega)|((with_reducible first|apply Zqm|apply Zqo);rfl;rfl;rfl)))
      exact SK.retQ rfl (by (repeat constructor)) (fun w' hm' => ⟨(), trivial, by simp [isL, hb, retV], hm'.wk (by (repeat constructor))⟩)
  · (repeat first|(with_reducible first|apply Za|apply Zb|apply Zc|apply Zd|apply Zi|apply Zp)|((with_reducible refine Yz ?_);first|((with_reducible apply SK.load1R); rfl; rfl; first | exact h1 | exact h2 | exact h3)|((with_reducible first|apply ZI|apply ZJ|apply ZK);rfl;rfl)|((with_reducible apply Zqc);rfl;rfl;rfl;omega)|((with_reducible apply Zqs);rfl;rfl;rfl)|((with_reducible apply Zqx);rfl;rfl;rfl;rfl)))
    exact SK.retQ rfl (by (repeat constructor)) (fun w' hm' => ⟨(), trivial, by simp [isL, ha, retV], hm'.wk (by (repeat constructor))⟩)
def moveL (kind : Int) (x : Ns) (e : Ev) (k : Option Nat) : Option (Ns × Bool) :=
  if e.kind = 2 ∧ isL kind x.st 1 0 = true ∨ e.kind = 5 ∧ isL kind x.st 1 2 = true then some ({ x with st := 1 }, false)
  else if e.kind = 3 ∧ isL kind x.st 1 1 = true then some ({ x with st := 2, try_ := e.number }, false)
  else if e.kind = 4 ∧ isL kind x.st 1 2 = true ∨ e.kind = 10 ∧ isL kind x.st 3 2 = true then some ({ x with st := 3, text := e.text }, false)
  else if e.kind = 6 ∧ (x.st = 2 ∨ isL kind x.st 3 0 = true) then some ({ x with st := 4, text := e.text }, false)
  else if e.kind = 7 ∧ isL kind x.st 2 0 = true ∨ e.kind = 9 ∧ isL kind x.st 3 0 = true ∨ e.kind = 11 ∧ isL kind x.st 4 0 = true then some ({ x with st := 2 }, false)
  else if e.kind = 8 ∧ isL kind x.st 2 2 = true ∨ e.kind = 14 ∧ isL kind x.st 5 0 = true then some ({ x with st := 3 }, false)
  else if e.kind = 12 ∧ e.number = 0 ∧ isL kind x.st 4 2 = true then some ({ x with st := 3, text := e.text }, false)
  else if e.kind = 12 ∧ e.number = 1 ∧ isL kind x.st 4 0 = true ∧ k.isSome = true then some ({ x with st := 3, text := e.text }, true)
  else none
def mvN (l : List Ns) (i : Nat) : Option (Ns × Bool) → List Ns
  | some (y, _) => l.set i y
  | none => l
def mvG (l : List Sg) (k : Option Nat) : Option (Ns × Bool) → List Sg
  | some (_, true) => (match k with | some j => l.eraseIdx j | none => l)
  | some (_, false) => l
  | none => l
theorem nst {l : List Ns} {i : Nat} {x : Ns} (hx : l[i]? = some x) (sp : List Value) (y : Ns) (j : Nat) (u : Value) (hj : j < 3) (hy : Ns.c y = (Ns.c x).set j u) :
    st (l.flatMap Ns.c ++ sp) (0 + i * 3 + j) [u] = some ((l.set i y).flatMap Ns.c ++ sp) := by
  have := flat_st1 ns_len l sp i x y hx j u hj hy
  rw [Nat.zero_add]; exact this
theorem nst2 {l : List Ns} {i : Nat} {x : Ns} (hx : l[i]? = some x) (sp : List Value) (y z : Ns) (j : Nat) (u : Value) (hj : j < 3) (hy : Ns.c z = (Ns.c y).set j u) :
    st ((l.set i y).flatMap Ns.c ++ sp) (0 + i * 3 + j) [u] = some ((l.set i z).flatMap Ns.c ++ sp) := by
  have hlt := (List.getElem?_eq_some_iff.1 hx).1
  have := nst (l := l.set i y) (i := i) (x := y) (by simp [hlt]) sp z j u hj hy
  rwa [List.set_set] at this
theorem nld {l : List Ns} {i : Nat} {x : Ns} (hx : l[i]? = some x) (sp : List Value) (j : Nat) (u : Value) (hu : (Ns.c x)[j]? = some u) : nv (l.flatMap Ns.c ++ sp) (0 + i * 3 + j) = some u := by
  rw [Nat.zero_add]; exact flat_nv ns_len l sp i x hx j u hu
theorem RSt.own {V : View} {S : Sta} {oN oS : OwnD} (hN : oN.ok S.nodes.length 3 (S.nodes.flatMap Ns.c)) (hS : oS.ok S.sigs.length 2 (S.sigs.flatMap Sg.c))
    (vN : ∀ b cs, oN.ent (S.nodes.flatMap Ns.c) 56 = some (b, cs, 56) → ∀ j u, nv cs j = some u → V b j u) (vS : ∀ b cs, oS.ent (S.sigs.flatMap Sg.c) 100 = some (b, cs, 100) → ∀ j u, nv cs j = some u → V b j u) :
    RSt V (stV S (oN, oS)) S := ⟨_, _, rfl, RSl.own oN hN vN, RSl.own oS hS vS⟩
set_option maxRecDepth 100000 in
set_option maxHeartbeats 2000000 in
theorem moved63 (nd : Nd) (av : Value) (S : Sta) (i : Nat) (x : Ns) (hx : S.nodes[i]? = some x) (e : Ev) (bS bN capN : Nat) (spN : List Value) (oS : OwnD) (hoN : OwnD.ok (some (bN, capN, spN)) S.nodes.length 3 (S.nodes.flatMap Ns.c))
    (hoS : oS.ok S.sigs.length 2 (S.sigs.flatMap Sg.c)) (hsm : Small S) (w : World)
    (hm : Mem w (keys [some (bS, S.c (.slice (some ⟨bN, 0, none⟩) S.nodes.length capN) (oS.val S.sigs.length), 33), some (bN, S.nodes.flatMap Ns.c ++ spN, 56), oS.ent (S.sigs.flatMap Sg.c) 100])
      [some (bS, S.c (.slice (some ⟨bN, 0, none⟩) S.nodes.length capN) (oS.val S.sigs.length), 33), some (bN, S.nodes.flatMap Ns.c ++ spN, 56), oS.ent (S.sigs.flatMap Sg.c) 100] w) :
    Calls Try.prog 63 [.agg (nd.c av).toArray, .pointer (some ⟨bS, 0, none⟩), .pointer (some ⟨bN, 0 + i * 3, none⟩), .agg e.c.toArray].toArray w
      (Ret w [some (bS, S.c (.slice (some ⟨bN, 0, none⟩) S.nodes.length capN) (oS.val S.sigs.length), 33), some (bN, S.nodes.flatMap Ns.c ++ spN, 56), oS.ent (S.sigs.flatMap Sg.c) 100]
        (fun o' : OwnD => o'.ok (mvG S.sigs (kI S.sigs nd.arg) (moveL nd.kind x e (kI S.sigs nd.arg))).length 2 ((mvG S.sigs (kI S.sigs nd.arg) (moveL nd.kind x e (kI S.sigs nd.arg))).flatMap Sg.c))
        (fun _ => .bool (moveL nd.kind x e (kI S.sigs nd.arg)).isSome)
        (fun o' => [some (bS, S.c (.slice (some ⟨bN, 0, none⟩) S.nodes.length capN) (o'.val (mvG S.sigs (kI S.sigs nd.arg) (moveL nd.kind x e (kI S.sigs nd.arg))).length), 33),
          some (bN, (mvN S.nodes i (moveL nd.kind x e (kI S.sigs nd.arg))).flatMap Ns.c ++ spN, 56), o'.ent ((mvG S.sigs (kI S.sigs nd.arg) (moveL nd.kind x e (kI S.sigs nd.arg))).flatMap Sg.c) 100])) := by
  obtain ⟨hsm1, hsm2⟩ := hsm
  have hld := nld hx spN 0 (.int .i64 x.st) rfl
  refine enterF (M := [some (bS, S.c (.slice (some ⟨bN, 0, none⟩) S.nodes.length capN) (oS.val S.sigs.length), 33), some (bN, S.nodes.flatMap Ns.c ++ spN, 56), oS.ent (S.sigs.flatMap Sg.c) 100]) Try.func63 rfl Try.ntmps63 rfl hm ?_
  iterate 25 (first|(with_reducible first|apply Za|apply Zb|apply Zc|apply Zd|apply Zi|apply Zr|apply Zs)|((with_reducible apply ZJ);rfl;rfl)|((with_reducible apply Zqp);rfl;rfl;rfl)|((with_reducible apply Zrf);rfl;rfl;intro _))
  rename_i b4 b6 b7
  refine SK.test 12 (e.kind = 2 ∧ isL nd.kind x.st 1 0 = true ∨ e.kind = 5 ∧ isL nd.kind x.st 1 2 = true) ?_ (fun h1 => ?_) (fun h1 => ?_)
  · by_cases k2 : e.kind = 2
    · (repeat first|(with_reducible first|apply Za|apply Zb|apply Zc)|((with_reducible first|apply ZI|apply ZK|apply ZO);rfl;rfl)|((with_reducible apply ZW);rfl;rfl;rfl;omega)|((with_reducible apply Zqz);rfl;rfl;(focus (repeat constructor));rfl))
      refine SK.callVA rfl rfl rfl (vs := [.int .i64 1, .int .i64 0]) (fun w1 _ g2 => is84 nd.kind x.st 1 0 _ _ bN (0 + i * 3) w1 (g2 _ _ _ (by (repeat constructor)) 1 _ rfl) (g2 _ _ _ (by (repeat constructor)) 0 _ rfl) (g2 _ _ _ (by (repeat constructor)) _ _ hld)) ?_
      cases hb10 : isL nd.kind x.st 1 0 with
      | true =>
        (repeat first|(with_reducible first|apply Zc|apply Zd|apply Zi|apply Zo|apply Zs)|((with_reducible apply ZJ);rfl;rfl)|((with_reducible apply Zqo);rfl;rfl;rfl)|((with_reducible apply ZC);rfl))
        exact SK.outcome (by (repeat constructor)) (by (repeat constructor)) (by simp [k2, hb10])
      | false =>
        (repeat first|(with_reducible first|apply Zb|apply Zc|apply Zd|apply Zi|apply Zs)|((with_reducible first|apply ZI|apply ZJ|apply ZK);rfl;rfl)|((with_reducible apply Zqc);rfl;rfl;rfl;omega)|((with_reducible apply Zqo);rfl;rfl;rfl)|((with_reducible apply Zqs);rfl;rfl;rfl)|((with_reducible apply Zqx);rfl;rfl;rfl;rfl)|((with_reducible apply Zqz);rfl;rfl;(focus (repeat constructor));rfl)|((with_reducible apply ZD);rfl))
        exact SK.outcome (by (repeat constructor)) (by (repeat constructor)) (by simp [k2, hb10])
    · by_cases k5 : e.kind = 5
      · (repeat first|(with_reducible first|apply Za|apply Zb|apply Zc|apply Zd|apply Zi)|((with_reducible first|apply ZI|apply ZJ|apply ZK|apply ZO);rfl;rfl)|((with_reducible apply ZW);rfl;rfl;rfl;omega)|((with_reducible apply Zqc);rfl;rfl;rfl;omega)|((with_reducible apply Zqs);rfl;rfl;rfl)|((with_reducible apply Zqx);rfl;rfl;rfl;rfl)|((with_reducible apply Zqz);rfl;rfl;(focus (repeat constructor));rfl)|((with_reducible apply ZD);rfl))
        refine SK.callVA rfl rfl rfl (vs := [.int .i64 1, .int .i64 2]) (fun w1 _ g2 => is84 nd.kind x.st 1 2 _ _ bN (0 + i * 3) w1 (g2 _ _ _ (by (repeat constructor)) 1 _ rfl) (g2 _ _ _ (by (repeat constructor)) 0 _ rfl) (g2 _ _ _ (by (repeat constructor)) _ _ hld)) ?_
        cases hb12 : isL nd.kind x.st 1 2 with
        | true =>
          (repeat first|(with_reducible first|apply Zc|apply Zd|apply Zi|apply Zs)|((with_reducible apply ZJ);rfl;rfl)|((with_reducible apply Zqo);rfl;rfl;rfl))
          exact SK.outcome (by (repeat constructor)) (by (repeat constructor)) (by simp [k2, k5, hb12])
        | false =>
          (repeat first|(with_reducible first|apply Zc|apply Zd|apply Zi|apply Zs)|((with_reducible apply ZJ);rfl;rfl)|((with_reducible apply Zqo);rfl;rfl;rfl))
          exact SK.outcome (by (repeat constructor)) (by (repeat constructor)) (by simp [k2, k5, hb12])
      · (repeat first|(with_reducible first|apply Za|apply Zb|apply Zc|apply Zd|apply Zi)|((with_reducible first|apply ZI|apply ZJ|apply ZK);rfl;rfl)|((with_reducible apply Zqc);rfl;rfl;rfl;omega)|((with_reducible apply Zqs);rfl;rfl;rfl)|((with_reducible apply Zqx);rfl;rfl;rfl;rfl)|((with_reducible apply Zqz);rfl;rfl;(focus (repeat constructor));rfl)|((with_reducible apply ZD);rfl))
        exact SK.outcome (by (repeat constructor)) (by (repeat constructor)) (by simp [k2, k5])
  · have hr : moveL nd.kind x e (kI S.sigs nd.arg) = some (({ x with st := 1 } : Ns), false) := by unfold moveL; rw [if_pos h1]
    have ha := nst hx spN (({ x with st := 1 } : Ns)) 0 (.int .i64 1) (by omega) rfl
    (repeat first|(with_reducible first|apply Za|apply Zb|apply Zc|apply Zd|apply Zi|apply Zl|apply Zp|apply Zs)|((with_reducible refine Yz ?_);first|((with_reducible apply SK.store1); rfl; rfl; rfl; (focus (repeat (first | exact Upd.head _ | apply Upd.tail))); with_reducible exact ha)|((with_reducible first|apply ZJ|apply ZN);rfl;rfl)|((with_reducible apply Zqm);rfl;rfl;rfl)|((with_reducible apply Zqz);rfl;rfl;(focus (repeat constructor));rfl))|((with_reducible apply ZC);rfl))
    exact SK.retQ rfl (by (repeat constructor)) (fun w' hm' => by rw [hr]; exact ⟨oS, hoS, rfl, hm'.wk (by (repeat constructor))⟩)
  · (first|((with_reducible apply ZD);rfl))
    refine SK.test 30 (e.kind = 3 ∧ isL nd.kind x.st 1 1 = true) ?_ (fun h2 => ?_) (fun h2 => ?_)
    · by_cases k3 : e.kind = 3
      · (repeat first|(with_reducible first|apply Zb|apply Zc)|((with_reducible first|apply ZI|apply ZK|apply ZO);rfl;rfl)|((with_reducible apply ZW);rfl;rfl;rfl;omega)|((with_reducible apply Zqz);rfl;rfl;(focus (repeat constructor));rfl))
        refine SK.callVA rfl rfl rfl (vs := [.int .i64 1, .int .i64 1]) (fun w1 _ g2 => is84 nd.kind x.st 1 1 _ _ bN (0 + i * 3) w1 (g2 _ _ _ (by (repeat constructor)) 1 _ rfl) (g2 _ _ _ (by (repeat constructor)) 0 _ rfl) (g2 _ _ _ (by (repeat constructor)) _ _ hld)) ?_
        cases hb11 : isL nd.kind x.st 1 1 with
        | true =>
          (repeat first|(with_reducible first|apply Zc|apply Zd|apply Zi|apply Zs)|((with_reducible apply ZJ);rfl;rfl)|((with_reducible apply Zqo);rfl;rfl;rfl))
          exact SK.outcome (by (repeat constructor)) (by (repeat constructor)) (by simp [k3, hb11])
        | false =>
          (repeat first|(with_reducible first|apply Zc|apply Zd|apply Zi|apply Zs)|((with_reducible apply ZJ);rfl;rfl)|((with_reducible apply Zqo);rfl;rfl;rfl))
          exact SK.outcome (by (repeat constructor)) (by (repeat constructor)) (by simp [k3, hb11])
      · (repeat first|(with_reducible first|apply Zb|apply Zc|apply Zd|apply Zi)|((with_reducible first|apply ZI|apply ZJ|apply ZK);rfl;rfl)|((with_reducible apply Zqc);rfl;rfl;rfl;omega)|((with_reducible apply Zqs);rfl;rfl;rfl)|((with_reducible apply Zqx);rfl;rfl;rfl;rfl)|((with_reducible apply Zqz);rfl;rfl;(focus (repeat constructor));rfl))
        exact SK.outcome (by (repeat constructor)) (by (repeat constructor)) (by simp [k3])
    · have hr : moveL nd.kind x e (kI S.sigs nd.arg) = some (({ x with st := 2, try_ := e.number } : Ns), false) := by unfold moveL; rw [if_neg h1, if_pos h2]
      have ha := nst hx spN (({ x with st := 2 } : Ns)) 0 (.int .i64 2) (by omega) rfl
      have hb := nst2 hx spN (({ x with st := 2 } : Ns)) (({ x with st := 2, try_ := e.number } : Ns)) 1 (.int .i64 e.number) (by omega) rfl
      (repeat first|(with_reducible first|apply Za|apply Zb|apply Zc|apply Zd|apply Ze|apply Zi|apply Zl|apply Zp|apply Zs)|((with_reducible refine Yz ?_);first|((with_reducible apply SK.store1); rfl; rfl; rfl; (focus (repeat (first | exact Upd.head _ | apply Upd.tail))); with_reducible exact ha)|((with_reducible apply SK.store1); rfl; rfl; rfl; (focus (repeat (first | exact Upd.head _ | apply Upd.tail))); with_reducible exact hb)|((with_reducible first|apply ZJ|apply ZK|apply ZN);rfl;rfl)|((with_reducible apply Zqm);rfl;rfl;rfl)|((with_reducible apply Zqz);rfl;rfl;(focus (repeat constructor));rfl))|((with_reducible first|apply Zz|apply ZC);rfl)|((with_reducible apply ZE);rfl;infer_instance;rfl;(focus (repeat constructor));rfl;rfl)|refine Yi 7 i63_7 (by kernel_rfl) ?_)
      exact SK.retQ rfl (by (repeat constructor)) (fun w' hm' => by rw [hr]; exact ⟨oS, hoS, rfl, hm'.wk (by (repeat constructor))⟩)
    · (first|((with_reducible apply ZD);rfl))
      refine SK.test 46 (e.kind = 4 ∧ isL nd.kind x.st 1 2 = true ∨ e.kind = 10 ∧ isL nd.kind x.st 3 2 = true) ?_ (fun h3 => ?_) (fun h3 => ?_)
      · by_cases k4 : e.kind = 4
        · (repeat first|(with_reducible first|apply Za|apply Zb|apply Zc)|((with_reducible first|apply ZI|apply ZK|apply ZO);rfl;rfl)|((with_reducible apply ZW);rfl;rfl;rfl;omega)|((with_reducible apply Zqz);rfl;rfl;(focus (repeat constructor));rfl))
          refine SK.callVA rfl rfl rfl (vs := [.int .i64 1, .int .i64 2]) (fun w1 _ g2 => is84 nd.kind x.st 1 2 _ _ bN (0 + i * 3) w1 (g2 _ _ _ (by (repeat constructor)) 1 _ rfl) (g2 _ _ _ (by (repeat constructor)) 0 _ rfl) (g2 _ _ _ (by (repeat constructor)) _ _ hld)) ?_
          cases hb12 : isL nd.kind x.st 1 2 with
          | true =>
            (repeat first|(with_reducible first|apply Zc|apply Zd|apply Zi|apply Zo|apply Zs)|((with_reducible apply ZJ);rfl;rfl)|((with_reducible apply Zqo);rfl;rfl;rfl)|((with_reducible apply ZC);rfl))
            exact SK.outcome (by (repeat constructor)) (by (repeat constructor)) (by simp [k4, hb12])
          | false =>
            (repeat first|(with_reducible first|apply Zb|apply Zc|apply Zd|apply Zi|apply Zs)|((with_reducible first|apply ZI|apply ZJ|apply ZK);rfl;rfl)|((with_reducible apply Zqc);rfl;rfl;rfl;omega)|((with_reducible apply Zqo);rfl;rfl;rfl)|((with_reducible apply Zqs);rfl;rfl;rfl)|((with_reducible apply Zqx);rfl;rfl;rfl;rfl)|((with_reducible apply Zqz);rfl;rfl;(focus (repeat constructor));rfl)|((with_reducible apply ZD);rfl))
            exact SK.outcome (by (repeat constructor)) (by (repeat constructor)) (by simp [k4, hb12])
        · by_cases k10 : e.kind = 10
          · (repeat first|(with_reducible first|apply Za|apply Zb|apply Zc|apply Zd|apply Zi)|((with_reducible first|apply ZI|apply ZJ|apply ZK|apply ZO);rfl;rfl)|((with_reducible apply ZW);rfl;rfl;rfl;omega)|((with_reducible apply Zqc);rfl;rfl;rfl;omega)|((with_reducible apply Zqs);rfl;rfl;rfl)|((with_reducible apply Zqx);rfl;rfl;rfl;rfl)|((with_reducible apply Zqz);rfl;rfl;(focus (repeat constructor));rfl)|((with_reducible apply ZD);rfl))
            refine SK.callVA rfl rfl rfl (vs := [.int .i64 3, .int .i64 2]) (fun w1 _ g2 => is84 nd.kind x.st 3 2 _ _ bN (0 + i * 3) w1 (g2 _ _ _ (by (repeat constructor)) 1 _ rfl) (g2 _ _ _ (by (repeat constructor)) 0 _ rfl) (g2 _ _ _ (by (repeat constructor)) _ _ hld)) ?_
            cases hb32 : isL nd.kind x.st 3 2 with
            | true =>
              (repeat first|(with_reducible first|apply Zc|apply Zd|apply Zi|apply Zs)|((with_reducible apply ZJ);rfl;rfl)|((with_reducible apply Zqo);rfl;rfl;rfl))
              exact SK.outcome (by (repeat constructor)) (by (repeat constructor)) (by simp [k4, k10, hb32])
            | false =>
              (repeat first|(with_reducible first|apply Zc|apply Zd|apply Zi|apply Zs)|((with_reducible apply ZJ);rfl;rfl)|((with_reducible apply Zqo);rfl;rfl;rfl))
              exact SK.outcome (by (repeat constructor)) (by (repeat constructor)) (by simp [k4, k10, hb32])
          · (repeat first|(with_reducible first|apply Za|apply Zb|apply Zc|apply Zd|apply Zi)|((with_reducible first|apply ZI|apply ZJ|apply ZK);rfl;rfl)|((with_reducible apply Zqc);rfl;rfl;rfl;omega)|((with_reducible apply Zqs);rfl;rfl;rfl)|((with_reducible apply Zqx);rfl;rfl;rfl;rfl)|((with_reducible apply Zqz);rfl;rfl;(focus (repeat constructor));rfl)|((with_reducible apply ZD);rfl))
            exact SK.outcome (by (repeat constructor)) (by (repeat constructor)) (by simp [k4, k10])
      · have hr : moveL nd.kind x e (kI S.sigs nd.arg) = some (({ x with st := 3, text := e.text } : Ns), false) := by unfold moveL; rw [if_neg h1, if_neg h2, if_pos h3]
        have ha := nst hx spN (({ x with st := 3 } : Ns)) 0 (.int .i64 3) (by omega) rfl
        have hb := nst2 hx spN (({ x with st := 3 } : Ns)) (({ x with st := 3, text := e.text } : Ns)) 2 (.string e.text) (by omega) rfl
        (repeat first|(with_reducible first|apply Za|apply Zb|apply Zc|apply Zd|apply Ze|apply Zi|apply Zl|apply Zp|apply Zs)|((with_reducible refine Yz ?_);first|((with_reducible apply SK.store1); rfl; rfl; rfl; (focus (repeat (first | exact Upd.head _ | apply Upd.tail))); with_reducible exact ha)|((with_reducible apply SK.store1); rfl; rfl; rfl; (focus (repeat (first | exact Upd.head _ | apply Upd.tail))); with_reducible exact hb)|((with_reducible first|apply ZJ|apply ZK|apply ZN);rfl;rfl)|((with_reducible apply Zqm);rfl;rfl;rfl)|((with_reducible apply Zqz);rfl;rfl;(focus (repeat constructor));rfl))|((with_reducible first|apply Zz|apply ZC);rfl)|((with_reducible apply ZE);rfl;infer_instance;rfl;(focus (repeat constructor));rfl;rfl)|refine Yi 10 i63_10 (by kernel_rfl) ?_)
        exact SK.retQ rfl (by (repeat constructor)) (fun w' hm' => by rw [hr]; exact ⟨oS, hoS, rfl, hm'.wk (by (repeat constructor))⟩)
      · (first|((with_reducible apply ZD);rfl))
        refine SK.test 69 (e.kind = 6 ∧ (x.st = 2 ∨ isL nd.kind x.st 3 0 = true)) ?_ (fun h4 => ?_) (fun h4 => ?_)
        · by_cases k6 : e.kind = 6
          · by_cases s2 : x.st = 2
            · (repeat first|(with_reducible first|apply Zb|apply Zc|apply Zd|apply Zi)|((with_reducible refine Yz ?_);first|((with_reducible apply SK.load1); rfl; rfl; (focus (repeat (first | exact List.mem_cons_self | apply List.mem_cons_of_mem))); with_reducible exact hld)|((with_reducible first|apply ZI|apply ZJ|apply ZK|apply ZN|apply ZO);rfl;rfl)|((with_reducible apply ZW);rfl;rfl;rfl;omega)|((with_reducible first|apply Zqm|apply Zqo);rfl;rfl;rfl)|((with_reducible apply Zqx);rfl;rfl;rfl;rfl)|((with_reducible apply Zqz);rfl;rfl;(focus (repeat constructor));rfl)))
              exact SK.outcome (by (repeat constructor)) (by (repeat constructor)) (by simp [k6, s2])
            · (repeat first|(with_reducible first|apply Zb|apply Zc)|((with_reducible refine Yz ?_);first|((with_reducible apply SK.load1); rfl; rfl; (focus (repeat (first | exact List.mem_cons_self | apply List.mem_cons_of_mem))); with_reducible exact hld)|((with_reducible first|apply ZI|apply ZK|apply ZN|apply ZO);rfl;rfl)|((with_reducible apply ZW);rfl;rfl;rfl;omega)|((with_reducible apply Zqc);rfl;rfl;rfl;omega)|((with_reducible apply Zqm);rfl;rfl;rfl)|((with_reducible apply Zqz);rfl;rfl;(focus (repeat constructor));rfl)))
              refine SK.callVA rfl rfl rfl (vs := [.int .i64 3, .int .i64 0]) (fun w1 _ g2 => is84 nd.kind x.st 3 0 _ _ bN (0 + i * 3) w1 (g2 _ _ _ (by (repeat constructor)) 1 _ rfl) (g2 _ _ _ (by (repeat constructor)) 0 _ rfl) (g2 _ _ _ (by (repeat constructor)) _ _ hld)) ?_
              cases hb30 : isL nd.kind x.st 3 0 with
              | true =>
                (repeat first|(with_reducible first|apply Zc|apply Zd|apply Zi|apply Zs)|((with_reducible first|apply ZJ|apply ZO);rfl;rfl)|((with_reducible apply Zqo);rfl;rfl;rfl)|((with_reducible apply Zqs);rfl;rfl;rfl))
                exact SK.outcome (by (repeat constructor)) (by (repeat constructor)) (by simp [k6, s2, hb30])
              | false =>
                (repeat first|(with_reducible first|apply Zc|apply Zd|apply Zi|apply Zs)|((with_reducible first|apply ZJ|apply ZO);rfl;rfl)|((with_reducible apply Zqo);rfl;rfl;rfl)|((with_reducible apply Zqs);rfl;rfl;rfl))
                exact SK.outcome (by (repeat constructor)) (by (repeat constructor)) (by simp [k6, s2, hb30])
          · (repeat first|(with_reducible first|apply Zb|apply Zc|apply Zd|apply Zi)|((with_reducible first|apply ZI|apply ZJ|apply ZK);rfl;rfl)|((with_reducible apply Zqc);rfl;rfl;rfl;omega)|((with_reducible apply Zqs);rfl;rfl;rfl)|((with_reducible apply Zqx);rfl;rfl;rfl;rfl)|((with_reducible apply Zqy);rfl;rfl;rfl)|((with_reducible apply Zqz);rfl;rfl;(focus (repeat constructor));rfl))
            exact SK.outcome (by (repeat constructor)) (by (repeat constructor)) (by simp [k6])
        · have hr : moveL nd.kind x e (kI S.sigs nd.arg) = some (({ x with st := 4, text := e.text } : Ns), false) := by unfold moveL; rw [if_neg h1, if_neg h2, if_neg h3, if_pos h4]
          have ha := nst hx spN (({ x with st := 4 } : Ns)) 0 (.int .i64 4) (by omega) rfl
          have hb := nst2 hx spN (({ x with st := 4 } : Ns)) (({ x with st := 4, text := e.text } : Ns)) 2 (.string e.text) (by omega) rfl
          (repeat first|(with_reducible first|apply Za|apply Zb|apply Zc|apply Zd|apply Ze|apply Zi|apply Zl|apply Zp|apply Zs)|((with_reducible refine Yz ?_);first|((with_reducible apply SK.store1); rfl; rfl; rfl; (focus (repeat (first | exact Upd.head _ | apply Upd.tail))); with_reducible exact ha)|((with_reducible apply SK.store1); rfl; rfl; rfl; (focus (repeat (first | exact Upd.head _ | apply Upd.tail))); with_reducible exact hb)|((with_reducible first|apply ZJ|apply ZK|apply ZN);rfl;rfl)|((with_reducible apply Zqm);rfl;rfl;rfl)|((with_reducible apply Zqz);rfl;rfl;(focus (repeat constructor));rfl))|((with_reducible first|apply Zz|apply ZC);rfl)|((with_reducible apply ZE);rfl;infer_instance;rfl;(focus (repeat constructor));rfl;rfl)|refine Yi 12 i63_12 (by kernel_rfl) ?_)
          exact SK.retQ rfl (by (repeat constructor)) (fun w' hm' => by rw [hr]; exact ⟨oS, hoS, rfl, hm'.wk (by (repeat constructor))⟩)
        · (first|((with_reducible apply ZD);rfl))
          refine SK.test 92 (e.kind = 7 ∧ isL nd.kind x.st 2 0 = true ∨ e.kind = 9 ∧ isL nd.kind x.st 3 0 = true ∨ e.kind = 11 ∧ isL nd.kind x.st 4 0 = true) ?_ (fun h5 => ?_) (fun h5 => ?_)
          · by_cases k7 : e.kind = 7
            · (repeat first|(with_reducible first|apply Za|apply Zb|apply Zc)|((with_reducible first|apply ZI|apply ZK|apply ZO);rfl;rfl)|((with_reducible apply ZW);rfl;rfl;rfl;omega)|((with_reducible apply Zqz);rfl;rfl;(focus (repeat constructor));rfl))
              refine SK.callVA rfl rfl rfl (vs := [.int .i64 2, .int .i64 0]) (fun w1 _ g2 => is84 nd.kind x.st 2 0 _ _ bN (0 + i * 3) w1 (g2 _ _ _ (by (repeat constructor)) 1 _ rfl) (g2 _ _ _ (by (repeat constructor)) 0 _ rfl) (g2 _ _ _ (by (repeat constructor)) _ _ hld)) ?_
              cases hb20 : isL nd.kind x.st 2 0 with
              | true =>
                (repeat first|(with_reducible first|apply Zc|apply Zd|apply Zi|apply Zo|apply Zs)|((with_reducible apply ZJ);rfl;rfl)|((with_reducible apply Zqo);rfl;rfl;rfl)|((with_reducible apply ZC);rfl))
                exact SK.outcome (by (repeat constructor)) (by (repeat constructor)) (by simp [k7, hb20])
              | false =>
                (repeat first|(with_reducible first|apply Za|apply Zb|apply Zc|apply Zd|apply Zi|apply Zs)|((with_reducible first|apply ZI|apply ZJ|apply ZK);rfl;rfl)|((with_reducible apply Zqc);rfl;rfl;rfl;omega)|((with_reducible apply Zqo);rfl;rfl;rfl)|((with_reducible apply Zqs);rfl;rfl;rfl)|((with_reducible apply Zqx);rfl;rfl;rfl;rfl)|((with_reducible apply Zqz);rfl;rfl;(focus (repeat constructor));rfl)|((with_reducible apply ZD);rfl))
                exact SK.outcome (by (repeat constructor)) (by (repeat constructor)) (by simp [k7, hb20])
            · by_cases k9 : e.kind = 9
              · (repeat first|(with_reducible first|apply Za|apply Zb|apply Zc|apply Zd|apply Zi)|((with_reducible first|apply ZI|apply ZJ|apply ZK|apply ZO);rfl;rfl)|((with_reducible apply ZW);rfl;rfl;rfl;omega)|((with_reducible apply Zqc);rfl;rfl;rfl;omega)|((with_reducible apply Zqs);rfl;rfl;rfl)|((with_reducible apply Zqx);rfl;rfl;rfl;rfl)|((with_reducible apply Zqz);rfl;rfl;(focus (repeat constructor));rfl)|((with_reducible apply ZD);rfl))
                refine SK.callVA rfl rfl rfl (vs := [.int .i64 3, .int .i64 0]) (fun w1 _ g2 => is84 nd.kind x.st 3 0 _ _ bN (0 + i * 3) w1 (g2 _ _ _ (by (repeat constructor)) 1 _ rfl) (g2 _ _ _ (by (repeat constructor)) 0 _ rfl) (g2 _ _ _ (by (repeat constructor)) _ _ hld)) ?_
                cases hb30 : isL nd.kind x.st 3 0 with
                | true =>
                  (repeat first|(with_reducible first|apply Zc|apply Zd|apply Zi|apply Zo|apply Zs)|((with_reducible apply ZJ);rfl;rfl)|((with_reducible apply Zqo);rfl;rfl;rfl)|((with_reducible apply ZC);rfl))
                  exact SK.outcome (by (repeat constructor)) (by (repeat constructor)) (by simp [k7, k9, hb30])
                | false =>
                  (repeat first|(with_reducible first|apply Zb|apply Zc|apply Zd|apply Zi|apply Zs)|((with_reducible first|apply ZI|apply ZJ|apply ZK);rfl;rfl)|((with_reducible apply Zqc);rfl;rfl;rfl;omega)|((with_reducible apply Zqo);rfl;rfl;rfl)|((with_reducible apply Zqs);rfl;rfl;rfl)|((with_reducible apply Zqx);rfl;rfl;rfl;rfl)|((with_reducible apply Zqz);rfl;rfl;(focus (repeat constructor));rfl)|((with_reducible apply ZD);rfl))
                  exact SK.outcome (by (repeat constructor)) (by (repeat constructor)) (by simp [k7, k9, hb30])
              · by_cases k11 : e.kind = 11
                · (repeat first|(with_reducible first|apply Za|apply Zb|apply Zc|apply Zd|apply Zi)|((with_reducible first|apply ZI|apply ZJ|apply ZK|apply ZO);rfl;rfl)|((with_reducible apply ZW);rfl;rfl;rfl;omega)|((with_reducible apply Zqc);rfl;rfl;rfl;omega)|((with_reducible apply Zqs);rfl;rfl;rfl)|((with_reducible apply Zqx);rfl;rfl;rfl;rfl)|((with_reducible apply Zqz);rfl;rfl;(focus (repeat constructor));rfl)|((with_reducible apply ZD);rfl))
                  refine SK.callVA rfl rfl rfl (vs := [.int .i64 4, .int .i64 0]) (fun w1 _ g2 => is84 nd.kind x.st 4 0 _ _ bN (0 + i * 3) w1 (g2 _ _ _ (by (repeat constructor)) 1 _ rfl) (g2 _ _ _ (by (repeat constructor)) 0 _ rfl) (g2 _ _ _ (by (repeat constructor)) _ _ hld)) ?_
                  cases hb40 : isL nd.kind x.st 4 0 with
                  | true =>
                    (repeat first|(with_reducible first|apply Zc|apply Zd|apply Zi|apply Zs)|((with_reducible apply ZJ);rfl;rfl)|((with_reducible apply Zqo);rfl;rfl;rfl))
                    exact SK.outcome (by (repeat constructor)) (by (repeat constructor)) (by simp [k7, k9, k11, hb40])
                  | false =>
                    (repeat first|(with_reducible first|apply Zc|apply Zd|apply Zi|apply Zs)|((with_reducible apply ZJ);rfl;rfl)|((with_reducible apply Zqo);rfl;rfl;rfl))
                    exact SK.outcome (by (repeat constructor)) (by (repeat constructor)) (by simp [k7, k9, k11, hb40])
                · (repeat first|(with_reducible first|apply Za|apply Zb|apply Zc|apply Zd|apply Zi)|((with_reducible first|apply ZI|apply ZJ|apply ZK);rfl;rfl)|((with_reducible apply Zqc);rfl;rfl;rfl;omega)|((with_reducible apply Zqs);rfl;rfl;rfl)|((with_reducible apply Zqx);rfl;rfl;rfl;rfl)|((with_reducible apply Zqz);rfl;rfl;(focus (repeat constructor));rfl)|((with_reducible apply ZD);rfl))
                  exact SK.outcome (by (repeat constructor)) (by (repeat constructor)) (by simp [k7, k9, k11])
          · have hr : moveL nd.kind x e (kI S.sigs nd.arg) = some (({ x with st := 2 } : Ns), false) := by unfold moveL; rw [if_neg h1, if_neg h2, if_neg h3, if_neg h4, if_pos h5]
            have ha := nst hx spN (({ x with st := 2 } : Ns)) 0 (.int .i64 2) (by omega) rfl
            (repeat first|(with_reducible first|apply Za|apply Zb|apply Zc|apply Zd|apply Zi|apply Zl|apply Zp|apply Zs)|((with_reducible refine Yz ?_);first|((with_reducible apply SK.store1); rfl; rfl; rfl; (focus (repeat (first | exact Upd.head _ | apply Upd.tail))); with_reducible exact ha)|((with_reducible first|apply ZJ|apply ZN);rfl;rfl)|((with_reducible apply Zqm);rfl;rfl;rfl)|((with_reducible apply Zqz);rfl;rfl;(focus (repeat constructor));rfl))|((with_reducible apply ZC);rfl))
            exact SK.retQ rfl (by (repeat constructor)) (fun w' hm' => by rw [hr]; exact ⟨oS, hoS, rfl, hm'.wk (by (repeat constructor))⟩)
          · (first|((with_reducible apply ZD);rfl))
            refine SK.test 117 (e.kind = 8 ∧ isL nd.kind x.st 2 2 = true ∨ e.kind = 14 ∧ isL nd.kind x.st 5 0 = true) ?_ (fun h6 => ?_) (fun h6 => ?_)
            · by_cases k8 : e.kind = 8
              · (repeat first|(with_reducible first|apply Za|apply Zb|apply Zc)|((with_reducible first|apply ZI|apply ZK|apply ZO);rfl;rfl)|((with_reducible apply ZW);rfl;rfl;rfl;omega)|((with_reducible apply Zqz);rfl;rfl;(focus (repeat constructor));rfl))
                refine SK.callVA rfl rfl rfl (vs := [.int .i64 2, .int .i64 2]) (fun w1 _ g2 => is84 nd.kind x.st 2 2 _ _ bN (0 + i * 3) w1 (g2 _ _ _ (by (repeat constructor)) 1 _ rfl) (g2 _ _ _ (by (repeat constructor)) 0 _ rfl) (g2 _ _ _ (by (repeat constructor)) _ _ hld)) ?_
                cases hb22 : isL nd.kind x.st 2 2 with
                | true =>
                  (repeat first|(with_reducible first|apply Zc|apply Zd|apply Zi|apply Zo|apply Zs)|((with_reducible apply ZJ);rfl;rfl)|((with_reducible apply Zqo);rfl;rfl;rfl)|((with_reducible apply ZC);rfl))
                  exact SK.outcome (by (repeat constructor)) (by (repeat constructor)) (by simp [k8, hb22])
                | false =>
                  (repeat first|(with_reducible first|apply Zb|apply Zc|apply Zd|apply Zi|apply Zs)|((with_reducible first|apply ZI|apply ZJ|apply ZK);rfl;rfl)|((with_reducible apply Zqc);rfl;rfl;rfl;omega)|((with_reducible apply Zqo);rfl;rfl;rfl)|((with_reducible apply Zqs);rfl;rfl;rfl)|((with_reducible apply Zqx);rfl;rfl;rfl;rfl)|((with_reducible apply Zqz);rfl;rfl;(focus (repeat constructor));rfl)|((with_reducible apply ZD);rfl))
                  exact SK.outcome (by (repeat constructor)) (by (repeat constructor)) (by simp [k8, hb22])
              · by_cases k14 : e.kind = 14
                · (repeat first|(with_reducible first|apply Za|apply Zb|apply Zc|apply Zd|apply Zi)|((with_reducible first|apply ZI|apply ZJ|apply ZK|apply ZO);rfl;rfl)|((with_reducible apply ZW);rfl;rfl;rfl;omega)|((with_reducible apply Zqc);rfl;rfl;rfl;omega)|((with_reducible apply Zqs);rfl;rfl;rfl)|((with_reducible apply Zqx);rfl;rfl;rfl;rfl)|((with_reducible apply Zqz);rfl;rfl;(focus (repeat constructor));rfl)|((with_reducible apply ZD);rfl))
                  refine SK.callVA rfl rfl rfl (vs := [.int .i64 5, .int .i64 0]) (fun w1 _ g2 => is84 nd.kind x.st 5 0 _ _ bN (0 + i * 3) w1 (g2 _ _ _ (by (repeat constructor)) 1 _ rfl) (g2 _ _ _ (by (repeat constructor)) 0 _ rfl) (g2 _ _ _ (by (repeat constructor)) _ _ hld)) ?_
                  cases hb50 : isL nd.kind x.st 5 0 with
                  | true =>
                    (repeat first|(with_reducible first|apply Zc|apply Zd|apply Zi|apply Zs)|((with_reducible apply ZJ);rfl;rfl)|((with_reducible apply Zqo);rfl;rfl;rfl))
                    exact SK.outcome (by (repeat constructor)) (by (repeat constructor)) (by simp [k8, k14, hb50])
                  | false =>
                    (repeat first|(with_reducible first|apply Zc|apply Zd|apply Zi|apply Zs)|((with_reducible apply ZJ);rfl;rfl)|((with_reducible apply Zqo);rfl;rfl;rfl))
                    exact SK.outcome (by (repeat constructor)) (by (repeat constructor)) (by simp [k8, k14, hb50])
                · (repeat first|(with_reducible first|apply Za|apply Zb|apply Zc|apply Zd|apply Zi)|((with_reducible first|apply ZI|apply ZJ|apply ZK);rfl;rfl)|((with_reducible apply Zqc);rfl;rfl;rfl;omega)|((with_reducible apply Zqs);rfl;rfl;rfl)|((with_reducible apply Zqx);rfl;rfl;rfl;rfl)|((with_reducible apply Zqz);rfl;rfl;(focus (repeat constructor));rfl)|((with_reducible apply ZD);rfl))
                  exact SK.outcome (by (repeat constructor)) (by (repeat constructor)) (by simp [k8, k14])
            · have hr : moveL nd.kind x e (kI S.sigs nd.arg) = some (({ x with st := 3 } : Ns), false) := by unfold moveL; rw [if_neg h1, if_neg h2, if_neg h3, if_neg h4, if_neg h5, if_pos h6]
              have ha := nst hx spN (({ x with st := 3 } : Ns)) 0 (.int .i64 3) (by omega) rfl
              (repeat first|(with_reducible first|apply Za|apply Zb|apply Zc|apply Zd|apply Zi|apply Zl|apply Zp|apply Zs)|((with_reducible refine Yz ?_);first|((with_reducible apply SK.store1); rfl; rfl; rfl; (focus (repeat (first | exact Upd.head _ | apply Upd.tail))); with_reducible exact ha)|((with_reducible first|apply ZJ|apply ZN);rfl;rfl)|((with_reducible apply Zqm);rfl;rfl;rfl)|((with_reducible apply Zqz);rfl;rfl;(focus (repeat constructor));rfl))|((with_reducible apply ZC);rfl))
              exact SK.retQ rfl (by (repeat constructor)) (fun w' hm' => by rw [hr]; exact ⟨oS, hoS, rfl, hm'.wk (by (repeat constructor))⟩)
            · (first|((with_reducible apply ZD);rfl))
              refine SK.test 135 (e.kind = 12 ∧ e.number = 0 ∧ isL nd.kind x.st 4 2 = true) ?_ (fun h7 => ?_) (fun h7 => ?_)
              · by_cases k12 : e.kind = 12
                · by_cases n0 : e.number = 0
                  · (repeat first|(with_reducible first|apply Zb|apply Zc)|((with_reducible first|apply ZI|apply ZK|apply ZO);rfl;rfl)|((with_reducible apply ZW);rfl;rfl;rfl;omega)|((with_reducible apply Zqo);rfl;rfl;rfl)|((with_reducible apply Zqz);rfl;rfl;(focus (repeat constructor));rfl))
                    refine SK.callVA rfl rfl rfl (vs := [.int .i64 4, .int .i64 2]) (fun w1 _ g2 => is84 nd.kind x.st 4 2 _ _ bN (0 + i * 3) w1 (g2 _ _ _ (by (repeat constructor)) 1 _ rfl) (g2 _ _ _ (by (repeat constructor)) 0 _ rfl) (g2 _ _ _ (by (repeat constructor)) _ _ hld)) ?_
                    cases hb42 : isL nd.kind x.st 4 2 with
                    | true =>
                      (repeat first|(with_reducible first|apply Zc|apply Zd|apply Zi|apply Zs)|((with_reducible apply ZJ);rfl;rfl)|((with_reducible apply Zqo);rfl;rfl;rfl))
                      exact SK.outcome (by (repeat constructor)) (by (repeat constructor)) (by simp [k12, n0, hb42])
                    | false =>
                      (repeat first|(with_reducible first|apply Zc|apply Zd|apply Zi|apply Zs)|((with_reducible apply ZJ);rfl;rfl)|((with_reducible apply Zqo);rfl;rfl;rfl))
                      exact SK.outcome (by (repeat constructor)) (by (repeat constructor)) (by simp [k12, n0, hb42])
                  · (repeat first|(with_reducible first|apply Zb|apply Zc|apply Zd|apply Zi)|((with_reducible first|apply ZI|apply ZJ|apply ZK|apply ZO);rfl;rfl)|((with_reducible apply ZW);rfl;rfl;rfl;omega)|((with_reducible apply Zqc);rfl;rfl;rfl;omega)|((with_reducible apply Zqo);rfl;rfl;rfl)|((with_reducible apply Zqs);rfl;rfl;rfl)|((with_reducible apply Zqx);rfl;rfl;rfl;rfl)|((with_reducible apply Zqz);rfl;rfl;(focus (repeat constructor));rfl))
                    exact SK.outcome (by (repeat constructor)) (by (repeat constructor)) (by simp [k12, n0])
                · (repeat first|(with_reducible first|apply Zb|apply Zc|apply Zd|apply Zi)|((with_reducible first|apply ZI|apply ZJ|apply ZK);rfl;rfl)|((with_reducible apply Zqc);rfl;rfl;rfl;omega)|((with_reducible apply Zqs);rfl;rfl;rfl)|((with_reducible apply Zqx);rfl;rfl;rfl;rfl)|((with_reducible apply Zqz);rfl;rfl;(focus (repeat constructor));rfl))
                  exact SK.outcome (by (repeat constructor)) (by (repeat constructor)) (by simp [k12])
              · have hr : moveL nd.kind x e (kI S.sigs nd.arg) = some (({ x with st := 3, text := e.text } : Ns), false) := by unfold moveL; rw [if_neg h1, if_neg h2, if_neg h3, if_neg h4, if_neg h5, if_neg h6, if_pos h7]
                have ha := nst hx spN (({ x with st := 3 } : Ns)) 0 (.int .i64 3) (by omega) rfl
                have hb := nst2 hx spN (({ x with st := 3 } : Ns)) (({ x with st := 3, text := e.text } : Ns)) 2 (.string e.text) (by omega) rfl
                (repeat first|(with_reducible first|apply Za|apply Zb|apply Zc|apply Zd|apply Ze|apply Zi|apply Zl|apply Zp|apply Zs)|((with_reducible refine Yz ?_);first|((with_reducible apply SK.store1); rfl; rfl; rfl; (focus (repeat (first | exact Upd.head _ | apply Upd.tail))); with_reducible exact ha)|((with_reducible apply SK.store1); rfl; rfl; rfl; (focus (repeat (first | exact Upd.head _ | apply Upd.tail))); with_reducible exact hb)|((with_reducible first|apply ZJ|apply ZK|apply ZN);rfl;rfl)|((with_reducible apply Zqm);rfl;rfl;rfl)|((with_reducible apply Zqz);rfl;rfl;(focus (repeat constructor));rfl))|((with_reducible first|apply Zz|apply ZC);rfl)|((with_reducible apply ZE);rfl;infer_instance;rfl;(focus (repeat constructor));rfl;rfl)|refine Yi 21 i63_21 (by kernel_rfl) ?_)
                exact SK.retQ rfl (by (repeat constructor)) (fun w' hm' => by rw [hr]; exact ⟨oS, hoS, rfl, hm'.wk (by (repeat constructor))⟩)
              · (first|((with_reducible apply ZD);rfl))
                refine SK.test 156 (e.kind = 12 ∧ e.number = 1 ∧ isL nd.kind x.st 4 0 = true ∧ (kI S.sigs nd.arg).isSome = true) ?_ (fun h8 => ?_) (fun h8 => ?_)
                · by_cases k12 : e.kind = 12
                  · by_cases n1 : e.number = 1
                    · (repeat first|((with_reducible apply Zz);rfl)|((with_reducible first|apply ZI|apply ZK|apply ZO);rfl;rfl)|((with_reducible apply ZW);rfl;rfl;rfl;omega)|((with_reducible apply Zqo);rfl;rfl;rfl)|((with_reducible apply Zqz);rfl;rfl;(focus (repeat constructor));rfl)|refine Yi 22 i63_22 (by kernel_rfl) ?_)
                      refine SK.callVA rfl rfl rfl (vs := [.int .i64 4, .int .i64 0]) (fun w1 _ g2 => is84 nd.kind x.st 4 0 _ _ bN (0 + i * 3) w1 (g2 _ _ _ (by (repeat constructor)) 1 _ rfl) (g2 _ _ _ (by (repeat constructor)) 0 _ rfl) (g2 _ _ _ (by (repeat constructor)) _ _ hld)) ?_
                      cases hb40 : isL nd.kind x.st 4 0 with
                      | true =>
                        (repeat first|(with_reducible apply Zs)|((with_reducible first|apply ZI|apply ZK|apply ZN|apply ZO);rfl;rfl)|((with_reducible apply Zqo);rfl;rfl;rfl)|((with_reducible first|apply Zqz|apply Zra);rfl;rfl;(focus (repeat constructor));rfl)|((with_reducible apply Zz);rfl))
                        refine SK.callA rfl rfl (vs := [_, .string nd.arg]) (fun w1 g1 g2 => kept85 _ S nd.arg w1 (RSt.own hoN hoS (fun b cs he j u hu => g2 b cs 56 (he ▸ (by (repeat constructor))) j u hu) (fun b cs he j u hu => g2 b cs 100 (he ▸ (by (repeat constructor))) j u hu)) (by omega)) ?_
                        cases hk : kI S.sigs nd.arg with
                        | some j =>
                          dsimp only [ixV]
                          (repeat first|(with_reducible first|apply Ze|apply Zi|apply Zs)|((with_reducible first|apply ZJ|apply ZO);rfl;rfl)|((with_reducible apply ZV);rfl;rfl;rfl;omega)|((with_reducible apply Zqo);rfl;rfl;rfl)|((with_reducible apply Zz);rfl))
                          exact SK.outcome (by (repeat constructor)) (by (repeat constructor)) (by simp [k12, n1, hb40, hk])
                        | none =>
                          dsimp only [ixV]
                          (repeat first|(with_reducible first|apply Ze|apply Zi|apply Zs)|((with_reducible first|apply ZJ|apply ZO);rfl;rfl)|((with_reducible apply Zqb);rfl;rfl;rfl;omega)|((with_reducible apply Zqo);rfl;rfl;rfl)|((with_reducible apply Zz);rfl))
                          exact SK.outcome (by (repeat constructor)) (by (repeat constructor)) (by simp [k12, n1, hb40, hk])
                      | false =>
                        (repeat first|(with_reducible first|apply Ze|apply Zi|apply Zs)|((with_reducible first|apply ZI|apply ZJ);rfl;rfl)|((with_reducible apply Zqo);rfl;rfl;rfl)|((with_reducible apply Zqs);rfl;rfl;rfl)|((with_reducible apply Zqx);rfl;rfl;rfl;rfl)|((with_reducible apply Zz);rfl))
                        exact SK.outcome (by (repeat constructor)) (by (repeat constructor)) (by simp [k12, n1, hb40])
                    · (repeat first|(with_reducible first|apply Ze|apply Zi)|((with_reducible first|apply ZI|apply ZJ|apply ZK|apply ZO);rfl;rfl)|((with_reducible apply ZW);rfl;rfl;rfl;omega)|((with_reducible apply Zqc);rfl;rfl;rfl;omega)|((with_reducible apply Zqo);rfl;rfl;rfl)|((with_reducible apply Zqs);rfl;rfl;rfl)|((with_reducible apply Zqx);rfl;rfl;rfl;rfl)|((with_reducible apply Zqz);rfl;rfl;(focus (repeat constructor));rfl)|((with_reducible apply Zz);rfl)|refine Yi 22 i63_22 (by kernel_rfl) ?_)
                      exact SK.outcome (by (repeat constructor)) (by (repeat constructor)) (by simp [k12, n1])
                  · (repeat first|(with_reducible first|apply Ze|apply Zi)|((with_reducible first|apply ZI|apply ZJ|apply ZK);rfl;rfl)|((with_reducible apply Zqc);rfl;rfl;rfl;omega)|((with_reducible apply Zqs);rfl;rfl;rfl)|((with_reducible apply Zqx);rfl;rfl;rfl;rfl)|((with_reducible apply Zqz);rfl;rfl;(focus (repeat constructor));rfl)|((with_reducible apply Zz);rfl)|refine Yi 22 i63_22 (by kernel_rfl) ?_)
                    exact SK.outcome (by (repeat constructor)) (by (repeat constructor)) (by simp [k12])
                · obtain ⟨j, hj⟩ : ∃ j, kI S.sigs nd.arg = some j := Option.isSome_iff_exists.1 h8.2.2.2
                  obtain ⟨sg, hsg, _⟩ := kI_lt hj
                  have hjl := (List.getElem?_eq_some_iff.1 hsg).1
                  have hr : moveL nd.kind x e (kI S.sigs nd.arg) = some (({ x with st := 3, text := e.text } : Ns), true) := by unfold moveL; rw [if_neg h1, if_neg h2, if_neg h3, if_neg h4, if_neg h5, if_neg h6, if_neg h7, if_pos h8]
                  have ha := nst hx spN (({ x with st := 3 } : Ns)) 0 (.int .i64 3) (by omega) rfl
                  have hb := nst2 hx spN (({ x with st := 3 } : Ns)) (({ x with st := 3, text := e.text } : Ns)) 2 (.string e.text) (by omega) rfl
                  (repeat first|(with_reducible apply Za)|((with_reducible first|apply ZI|apply ZK|apply ZN);rfl;rfl)|((with_reducible first|apply Zqz|apply Zra);rfl;rfl;(focus (repeat constructor));rfl)|((with_reducible first|apply Zz|apply ZC);rfl)|refine Yi 23 i63_23 (by kernel_rfl) ?_)
                  refine SK.callA rfl rfl (vs := [_, .string nd.arg]) (fun w1 g1 g2 => kept85 _ S nd.arg w1 (RSt.own hoN hoS (fun b cs he j u hu => g2 b cs 56 (he ▸ (by (repeat constructor))) j u hu) (fun b cs he j u hu => g2 b cs 100 (he ▸ (by (repeat constructor))) j u hu)) (by omega)) ?_
                  rw [hj]
                  rw [hj] at hr
                  dsimp only [ixV]
                  (repeat first|(with_reducible first|apply Za|apply Zb|apply Zc|apply Ze|apply Zi|apply Zs)|((with_reducible first|apply ZI|apply ZJ|apply ZK|apply ZN);rfl;rfl)|((with_reducible apply ZR);rfl;rfl;rfl;omega)|((with_reducible apply Zqz);rfl;rfl;(focus (repeat constructor));rfl)|((with_reducible apply Zz);rfl))
                  refine SK.call rfl rfl [oS.ent (S.sigs.flatMap Sg.c) 100] [some (b7, e.c, 70), some (b6, [.pointer (some ⟨bN, 0 + i * 3, none⟩)], 119), some (b4, nd.c av, 59), some (bS, S.c (.slice (some ⟨bN, 0, none⟩) S.nodes.length capN) (oS.val S.sigs.length), 33), some (bN, S.nodes.flatMap Ns.c ++ spN, 56)] (by (repeat constructor)) (fun o' : OwnD => o'.ok (S.sigs.eraseIdx j).length 2 ((S.sigs.eraseIdx j).flatMap Sg.c)) (fun o' => o'.val (S.sigs.eraseIdx j).length) (fun o' => [o'.ent ((S.sigs.eraseIdx j).flatMap Sg.c) 100])
                    (fun w1 hm1 _ _ => delSg oS S.sigs j hoS hjl (by omega) w1 hm1) ?_
                  intro o' ho'
                  (repeat first|(with_reducible first|apply Za|apply Zb|apply Zc|apply Zd|apply Ze|apply Zi|apply Zl|apply Zp|apply Zs)|((with_reducible refine Yz ?_);first|((with_reducible apply SK.store1); rfl; rfl; rfl; (focus (repeat (first | exact Upd.head _ | apply Upd.tail))); with_reducible exact ha)|((with_reducible apply SK.store1); rfl; rfl; rfl; (focus (repeat (first | exact Upd.head _ | apply Upd.tail))); with_reducible exact hb)|((with_reducible first|apply ZJ|apply ZK|apply ZN);rfl;rfl)|((with_reducible apply Zqm);rfl;rfl;rfl)|((with_reducible apply Zqz);rfl;rfl;(focus (repeat constructor));rfl)|((with_reducible apply Zrb);rfl;rfl;(first|rfl|exact OwnD.plain_val _ _);(focus (repeat constructor));rfl))|((with_reducible apply Zz);rfl)|((with_reducible apply ZE);rfl;infer_instance;rfl;(focus (repeat constructor));rfl;rfl)|refine Yi 25 i63_25 (by kernel_rfl) ?_)
                  exact SK.retQ rfl (by (repeat constructor)) (fun w' hm' => by rw [hr]; exact ⟨o', ho', rfl, hm'.wk (by (repeat constructor))⟩)
                · have hr : moveL nd.kind x e (kI S.sigs nd.arg) = none := by unfold moveL; rw [if_neg h1, if_neg h2, if_neg h3, if_neg h4, if_neg h5, if_neg h6, if_neg h7, if_neg h8]
                  (repeat first|(with_reducible first|apply Za|apply Zb|apply Zc|apply Zd|apply Zi|apply Zk|apply Zm|apply Zp)|((with_reducible apply ZJ);rfl;rfl)|((with_reducible apply ZD);rfl))
                  exact SK.retQ rfl (by (repeat constructor)) (fun w' hm' => by rw [hr]; exact ⟨oS, hoS, rfl, hm'.wk (by (repeat constructor))⟩)
@[reducible] def ns0 : Ns := ⟨0, 0, ⟨#[]⟩⟩
def applyQ (D : Df) (S : Sta) (e : Ev) : Option Sta :=
  if e.kind = 1 then (if S.status = 0 then some { S with status := 1, df := D.name, nodes := List.replicate D.nodes.length ns0, parent := e.text, pnode := e.node } else none)
  else if S.status = 1 then
    if e.kind = 13 then some { S with sigs := S.sigs ++ [⟨e.node, e.text⟩] }
    else if e.kind = 15 then (if e.number = 2 ∨ e.number = 3 ∨ e.number = 4 then some { S with status := e.number, text := e.text } else none)
    else match fI D.nodes e.node with
      | none => none
      | some i => match D.nodes[i]?, S.nodes[i]? with
        | some nd, some x => (match moveL nd.kind x e (kI S.sigs nd.arg) with
          | some r => some { S with nodes := mvN S.nodes i (some r), sigs := mvG S.sigs (kI S.sigs nd.arg) (some r) }
          | none => none)
        | _, _ => none
  else none
def applyL (D : Df) (S : Sta) (e : Ev) : Option Sta := (applyQ D S e).map fun T => { T with events := IntKind.i64.wrap (T.events + 1) }
theorem fI_get {l : List Nd} {s : ByteArray} {i : Nat} (h : fI l s = some i) : ∃ x, l[i]? = some x ∧ x.name = s := by
  unfold fI at h
  rw [List.findIdx?_eq_some_iff_getElem] at h
  obtain ⟨hlt, he, _⟩ := h
  exact ⟨l[i], List.getElem?_eq_getElem hlt, by simpa using he⟩
theorem flat_rep (m : Nat) : (List.replicate m [Value.int .i64 0, .int .i64 0, .string ⟨#[]⟩]).flatten = (List.replicate m ns0).flatMap Ns.c := by
  induction m with
  | zero => rfl
  | succ m ih => rw [List.replicate_succ, List.replicate_succ, List.flatten_cons, List.flatMap_cons, ih]
theorem sg_snoc (l : List Sg) (x : Sg) : (l ++ [x]).flatMap Sg.c = l.flatMap Sg.c ++ [.string x.name, .string x.text] := by simp
@[reducible] def ptM (bS : Nat) (S : Sta) (y : OwnD × OwnD) : ML := [some (bS, S.c (y.1.val S.nodes.length) (y.2.val S.sigs.length), 33), y.1.ent (S.nodes.flatMap Ns.c) 56, y.2.ent (S.sigs.flatMap Sg.c) 100]
section
variable {ops : Array Oper} {w0 : World} {Mod : List Nat} {n : Nat} {F : FL} {M : ML} {K : Act → World → Prop} {chk : List Nat} {ty : TypeId} {pos : String} {aft : Array Edge} {d : Nat}
set_option maxRecDepth 100000 in
theorem SK.makeN {x y : Operand} {m : Nat} (hd : Nat.blt d n = true) (hx : ev F x = some (.int .i64 (m : Int))) (hy : ev F y = some (.int .i64 (m : Int))) (hm : m ≤ 64)
    (h : ∀ b, OwnD.ok (some (b, m, [])) (List.replicate m ns0).length 3 ((List.replicate m ns0).flatMap Ns.c) → SK w0 Mod n (chkE Try.prog ops chk K) ((d, .slice (some ⟨b, 0, none⟩) m m) :: F) (some (b, (List.replicate m ns0).flatMap Ns.c ++ [], 56) :: M)) :
    SK w0 Mod n (stepE Try.prog ops ⟨some d, .makeSlice 30 x y, ty, pos, aft, none⟩ chk K) F M := by
  refine SK.makeS hd hx hy (z := [.int .i64 0, .int .i64 0, .string ⟨#[]⟩]) rfl (by omega) (by omega) fun b => ?_
  have := h b ⟨flat_len ns_len _, by simp only [List.length_replicate]; exact Nat.le_refl _, by unfold maxLen; omega, by simp [flat_len ns_len]⟩
  rw [flat_rep]
  rw [List.append_nil] at this
  exact this
end
set_option maxRecDepth 100000 in
set_option maxHeartbeats 1000000 in
theorem apply44 (dv : Value) (D : Df) (S : Sta) (e : Ev) (bS : Nat) (y : OwnD × OwnD) (hy : OSt S y) (hsm : Small S) (hn : D.nodes.length ≤ 64) (w : World) (hd : RDf (Vw w (keys (ptM bS S y))) dv D) (hm : Mem w (keys (ptM bS S y)) (ptM bS S y) w) :
    Calls Try.prog 44 [dv, .pointer (some ⟨bS, 0, none⟩), .agg e.c.toArray].toArray w
      (Ret w (ptM bS S y) (OSt ((applyQ D S e).getD S)) (fun _ => .bool (applyQ D S e).isSome) (fun y' => ptM bS ((applyQ D S e).getD S) y')) := by
  obtain ⟨oN, oS⟩ := y
  obtain ⟨hoN, hoS⟩ := hy
  obtain ⟨hsm1, hsm2⟩ := id hsm
  dsimp only at hoN hoS
  obtain ⟨A, cap, rfl, hnds⟩ := hd.nds
  have hno : applyQ D S e = none → SK w (keys (ptM bS S (oN, oS))) 123 (bodyPost Try.prog Try.f44 (Ret w (ptM bS S (oN, oS)) (OSt ((applyQ D S e).getD S)) (fun _ => .bool (applyQ D S e).isSome) (fun y' => ptM bS ((applyQ D S e).getD S) y')) .ret) [(6, .bool false)] (ptM bS S (oN, oS)) := by
    intro hr
    rw [hr]
    exact SK.retQ rfl (by (repeat constructor)) (fun w' hm' => ⟨(oN, oS), ⟨hoN, hoS⟩, rfl, hm'.wk (by (repeat constructor))⟩)
  refine enterF (M := ptM bS S (oN, oS)) Try.func44 rfl Try.ntmps44 rfl hm ?_
  by_cases k1 : e.kind = 1
  · by_cases s0 : S.status = 0
    · have hr : applyQ D S e = some { S with status := 1, df := D.name, nodes := List.replicate D.nodes.length ns0, parent := e.text, pnode := e.node } := by unfold applyQ; rw [if_pos k1, if_pos s0]
      rw [hr]
      (repeat first|(with_reducible first|apply Za|apply Zb|apply Zc|apply Zd|apply Zf|apply Zi|apply Zo|apply Zs)|((with_reducible first|apply ZI|apply ZJ|apply ZK|apply ZM|apply ZN);rfl;rfl)|((with_reducible apply ZW);rfl;rfl;rfl;omega)|((with_reducible apply Zqd);rfl;rfl;rfl;omega)|((with_reducible apply Zqz);rfl;rfl;(focus (repeat constructor));rfl)|((with_reducible apply Zrf);rfl;rfl;intro _)|((with_reducible first|apply ZA|apply ZC);rfl)|((with_reducible apply ZD);rfl)|refine Yd 4 o44_4 t44_4 (by kernel_rfl) ?_)
      have fin : ∀ b, OwnD.ok (some (b, D.nodes.length, [])) (List.replicate D.nodes.length ns0).length 3 ((List.replicate D.nodes.length ns0).flatMap Ns.c) →
          SK w (keys (ptM bS S (oN, oS))) 123 (bodyPost Try.prog Try.f44 (Ret w (ptM bS S (oN, oS)) (OSt ((some { S with status := 1, df := D.name, nodes := List.replicate D.nodes.length ns0, parent := e.text, pnode := e.node }).getD S)) (fun _ => .bool (some { S with status := 1, df := D.name, nodes := List.replicate D.nodes.length ns0, parent := e.text, pnode := e.node }).isSome) (fun y' => ptM bS ((some { S with status := 1, df := D.name, nodes := List.replicate D.nodes.length ns0, parent := e.text, pnode := e.node }).getD S) y')) .ret)
            [(6, .bool true)] [some (bS, [.string D.name, .string S.id, .string e.text, .string e.node, .int .i64 1, .string S.text, .slice (some ⟨b, 0, none⟩) D.nodes.length D.nodes.length, oS.val S.sigs.length, .int .i64 S.events], 33), some (b, (List.replicate D.nodes.length ns0).flatMap Ns.c ++ [], 56), oS.ent (S.sigs.flatMap Sg.c) 100] := by
        intro b hb
        refine SK.retQ rfl (by (repeat constructor)) (fun w' hm' => ⟨(some (b, D.nodes.length, []), oS), ⟨hb, hoS⟩, rfl, ?_⟩)
        simp only [ptM, Option.getD_some, List.length_replicate, OwnD.val]
        exact hm'.wk (by (repeat constructor))
      refine SK.orC ?_ ?_
      · (repeat first|(with_reducible apply Zh)|((with_reducible apply Zz);rfl))
        refine SK.makeN rfl rfl rfl (by omega) (fun b27 hb => ?_)
        (repeat first|(with_reducible first|apply Za|apply Zb|apply Zc|apply Zd|apply Zf|apply Zg|apply Zh|apply Zi|apply Zk|apply Zp|apply Zs)|((with_reducible first|apply ZJ|apply ZK|apply ZN);rfl;rfl)|((with_reducible apply Zrb);rfl;rfl;(first|rfl|exact OwnD.plain_val _ _);(focus (repeat constructor));rfl)|((with_reducible first|apply Zz|apply ZA);rfl)|((with_reducible apply ZE);rfl;infer_instance;rfl;(focus (repeat constructor));rfl;rfl))
        exact SK.wk (by (repeat constructor)) (SK.sub (by (repeat constructor)) (fin b27 hb))
      · (repeat first|(with_reducible first|apply Zf|apply Zh|apply Zs)|((with_reducible first|apply ZK|apply ZN);rfl;rfl)|((with_reducible apply Zrb);rfl;rfl;(first|rfl|exact OwnD.plain_val _ _);(focus (repeat constructor));rfl)|((with_reducible first|apply Zz|apply ZA);rfl)|((with_reducible apply ZE);rfl;infer_instance;rfl;(focus (repeat constructor));rfl;rfl))
        refine SK.orC ?_ ?_
        · (repeat first|(with_reducible apply Zh)|((with_reducible apply Zz);rfl))
          refine SK.makeN rfl rfl rfl (by omega) (fun b27 hb => ?_)
          (repeat first|(with_reducible first|apply Za|apply Zb|apply Zc|apply Zd|apply Zf|apply Zg|apply Zh|apply Zi|apply Zk|apply Zp|apply Zs)|((with_reducible first|apply ZJ|apply ZK|apply ZN);rfl;rfl)|((with_reducible apply Zrb);rfl;rfl;(first|rfl|exact OwnD.plain_val _ _);(focus (repeat constructor));rfl)|((with_reducible first|apply Zz|apply ZA);rfl)|((with_reducible apply ZE);rfl;infer_instance;rfl;(focus (repeat constructor));rfl;rfl))
          exact SK.wk (by (repeat constructor)) (SK.sub (by (repeat constructor)) (fin b27 hb))
        · (repeat first|(with_reducible first|apply Zf|apply Zh|apply Zs)|((with_reducible apply Zrb);rfl;rfl;(first|rfl|exact OwnD.plain_val _ _);(focus (repeat constructor));rfl)|((with_reducible apply Zz);rfl)|((with_reducible apply ZE);rfl;infer_instance;rfl;(focus (repeat constructor));rfl;rfl))
          refine SK.makeN rfl rfl rfl (by omega) (fun b27 hb => ?_)
          (repeat first|(with_reducible first|apply Za|apply Zb|apply Zc|apply Zd|apply Zf|apply Zg|apply Zh|apply Zi|apply Zk|apply Zp|apply Zs)|((with_reducible first|apply ZJ|apply ZK|apply ZN);rfl;rfl)|((with_reducible apply Zrb);rfl;rfl;(first|rfl|exact OwnD.plain_val _ _);(focus (repeat constructor));rfl)|((with_reducible first|apply Zz|apply ZA);rfl)|((with_reducible apply ZE);rfl;infer_instance;rfl;(focus (repeat constructor));rfl;rfl))
          exact SK.wk (by (repeat constructor)) (SK.sub (by (repeat constructor)) (fin b27 hb))
    · have hr : applyQ D S e = none := by unfold applyQ; rw [if_pos k1, if_neg s0]
      (repeat first|(with_reducible first|apply Za|apply Zb|apply Zc|apply Zd|apply Zi|apply Zk|apply Zp|apply Zs)|((with_reducible first|apply ZI|apply ZJ|apply ZK|apply ZN);rfl;rfl)|((with_reducible first|apply ZW|apply ZX);rfl;rfl;rfl;omega)|((with_reducible apply Zqz);rfl;rfl;(focus (repeat constructor));rfl)|((with_reducible apply Zrf);rfl;rfl;intro _)|((with_reducible apply ZC);rfl))
      exact SK.wk (by (repeat constructor)) (SK.sub (by (repeat constructor)) (hno hr))
  · by_cases s1 : S.status = 1
    · by_cases k13 : e.kind = 13
      · have hr : applyQ D S e = some { S with sigs := S.sigs ++ [⟨e.node, e.text⟩] } := by unfold applyQ; rw [if_neg k1, if_pos s1, if_pos k13]
        rw [hr]
        (repeat first|(with_reducible first|apply Za|apply Zb|apply Zc|apply Zd|apply Zi|apply Zo|apply Zr|apply Zs)|((with_reducible first|apply ZI|apply ZJ|apply ZK|apply ZN);rfl;rfl)|((with_reducible apply ZW);rfl;rfl;rfl;omega)|((with_reducible first|apply Zqc|apply Zqd);rfl;rfl;rfl;omega)|((with_reducible apply Zqr);rfl;rfl;rfl)|((with_reducible apply Zqz);rfl;rfl;(focus (repeat constructor));rfl)|((with_reducible apply Zrd);rfl;rfl;rfl;rfl;rfl;rfl;rfl;intro _)|((with_reducible apply Zrf);rfl;rfl;intro _)|((with_reducible first|apply Zz|apply ZC);rfl)|((with_reducible apply ZD);rfl)|((with_reducible apply ZE);rfl;infer_instance;rfl;(focus (repeat constructor));rfl;rfl)|refine Yi 10 i44_10 (by kernel_rfl) ?_)
        refine SK.appendP (o := oS) (xs := S.sigs.flatMap Sg.c) (news := [.string e.node, .string e.text]) (m := 1) rfl rfl hoS rfl (by (repeat constructor)) (Src.mem (by (repeat constructor)) rfl) rfl rfl rfl rfl (by unfold maxLen; omega) (by omega) (fun o1 ho1 _ => ?_)
        (repeat first|(with_reducible first|apply Za|apply Zb|apply Zc|apply Zd|apply Ze|apply Zi|apply Zk|apply Zm|apply Zp|apply Zs)|((with_reducible first|apply ZJ|apply ZK|apply ZN);rfl;rfl)|((with_reducible apply Zrb);rfl;rfl;(first|rfl|exact OwnD.plain_val _ _);(focus (repeat constructor));rfl)|((with_reducible apply Zz);rfl))
        refine SK.retQ rfl (by (repeat constructor)) (fun w' hm' => ⟨(oN, o1), ⟨hoN, ?_⟩, rfl, ?_⟩)
        · simp only [Option.getD_some, sg_snoc, List.length_append, List.length_singleton]; exact ho1
        · simp only [ptM, Option.getD_some, sg_snoc, List.length_append, List.length_singleton]
          exact hm'.wk (by (repeat constructor))
      · by_cases k15 : e.kind = 15
        · by_cases hnum : e.number = 2 ∨ e.number = 3 ∨ e.number = 4
          · have hr : applyQ D S e = some { S with status := e.number, text := e.text } := by unfold applyQ; rw [if_neg k1, if_pos s1, if_neg k13, if_pos k15, if_pos hnum]
            rw [hr]
            rcases hnum with h2 | h3 | h4
            · (repeat first|(with_reducible first|apply Za|apply Zb|apply Zc|apply Zd|apply Ze|apply Zi|apply Zk|apply Zm|apply Zo|apply Zp|apply Zr|apply Zs)|((with_reducible first|apply ZI|apply ZJ|apply ZK|apply ZN);rfl;rfl)|((with_reducible apply ZW);rfl;rfl;rfl;omega)|((with_reducible first|apply Zqc|apply Zqd);rfl;rfl;rfl;omega)|((with_reducible apply Zqs);rfl;rfl;rfl)|((with_reducible apply Zqx);rfl;rfl;rfl;rfl)|((with_reducible apply Zqz);rfl;rfl;(focus (repeat constructor));rfl)|((with_reducible apply Zrb);rfl;rfl;(first|rfl|exact OwnD.plain_val _ _);(focus (repeat constructor));rfl)|((with_reducible apply Zrf);rfl;rfl;intro _)|((with_reducible first|apply Zz|apply ZC);rfl)|((with_reducible apply ZD);rfl)|((with_reducible apply ZE);rfl;infer_instance;rfl;(focus (repeat constructor));rfl;rfl)|refine Yi 15 i44_15 (by kernel_rfl) ?_)
              exact SK.retQ rfl (by (repeat constructor)) (fun w' hm' => ⟨(oN, oS), ⟨hoN, hoS⟩, rfl, hm'.wk (by (repeat constructor))⟩)
            · have h2 : ¬ e.number = 2 := by omega
              (repeat first|(with_reducible first|apply Za|apply Zb|apply Zc|apply Zd|apply Ze|apply Zi|apply Zk|apply Zm|apply Zo|apply Zp|apply Zr|apply Zs)|((with_reducible first|apply ZI|apply ZJ|apply ZK|apply ZN|apply ZO);rfl;rfl)|((with_reducible first|apply ZW|apply ZX);rfl;rfl;rfl;omega)|((with_reducible first|apply Zqc|apply Zqd);rfl;rfl;rfl;omega)|((with_reducible apply Zqo);rfl;rfl;rfl)|((with_reducible apply Zqs);rfl;rfl;rfl)|((with_reducible apply Zqx);rfl;rfl;rfl;rfl)|((with_reducible apply Zqz);rfl;rfl;(focus (repeat constructor));rfl)|((with_reducible apply Zrb);rfl;rfl;(first|rfl|exact OwnD.plain_val _ _);(focus (repeat constructor));rfl)|((with_reducible apply Zrf);rfl;rfl;intro _)|((with_reducible first|apply Zz|apply ZC);rfl)|((with_reducible apply ZD);rfl)|((with_reducible apply ZE);rfl;infer_instance;rfl;(focus (repeat constructor));rfl;rfl)|refine Yi 15 i44_15 (by kernel_rfl) ?_)
              exact SK.retQ rfl (by (repeat constructor)) (fun w' hm' => ⟨(oN, oS), ⟨hoN, hoS⟩, rfl, hm'.wk (by (repeat constructor))⟩)
            · have h2 : ¬ e.number = 2 := by omega
              have h3 : ¬ e.number = 3 := by omega
              (repeat first|(with_reducible first|apply Za|apply Zb|apply Zc|apply Zd|apply Ze|apply Zi|apply Zk|apply Zm|apply Zo|apply Zp|apply Zr|apply Zs)|((with_reducible first|apply ZI|apply ZJ|apply ZK|apply ZN|apply ZO);rfl;rfl)|((with_reducible first|apply ZW|apply ZX);rfl;rfl;rfl;omega)|((with_reducible first|apply Zqc|apply Zqd);rfl;rfl;rfl;omega)|((with_reducible apply Zqo);rfl;rfl;rfl)|((with_reducible apply Zqz);rfl;rfl;(focus (repeat constructor));rfl)|((with_reducible apply Zrb);rfl;rfl;(first|rfl|exact OwnD.plain_val _ _);(focus (repeat constructor));rfl)|((with_reducible apply Zrf);rfl;rfl;intro _)|((with_reducible first|apply Zz|apply ZC);rfl)|((with_reducible apply ZD);rfl)|((with_reducible apply ZE);rfl;infer_instance;rfl;(focus (repeat constructor));rfl;rfl)|refine Yi 15 i44_15 (by kernel_rfl) ?_)
              exact SK.retQ rfl (by (repeat constructor)) (fun w' hm' => ⟨(oN, oS), ⟨hoN, hoS⟩, rfl, hm'.wk (by (repeat constructor))⟩)
          · have hr : applyQ D S e = none := by unfold applyQ; rw [if_neg k1, if_pos s1, if_neg k13, if_pos k15, if_neg hnum]
            have h2 : ¬ e.number = 2 := fun h => hnum (.inl h)
            have h3 : ¬ e.number = 3 := fun h => hnum (.inr (.inl h))
            have h4 : ¬ e.number = 4 := fun h => hnum (.inr (.inr h))
            (repeat first|(with_reducible first|apply Za|apply Zb|apply Zc|apply Zd|apply Zi|apply Zk|apply Zm|apply Zo|apply Zp|apply Zr|apply Zs)|((with_reducible first|apply ZI|apply ZJ|apply ZK|apply ZN|apply ZO);rfl;rfl)|((with_reducible first|apply ZW|apply ZX);rfl;rfl;rfl;omega)|((with_reducible first|apply Zqc|apply Zqd);rfl;rfl;rfl;omega)|((with_reducible apply Zqo);rfl;rfl;rfl)|((with_reducible apply Zqz);rfl;rfl;(focus (repeat constructor));rfl)|((with_reducible apply Zrf);rfl;rfl;intro _)|((with_reducible apply ZC);rfl)|((with_reducible apply ZD);rfl))
            exact SK.wk (by (repeat constructor)) (SK.sub (by (repeat constructor)) (hno hr))
        · (repeat first|(with_reducible first|apply Za|apply Zb|apply Zc|apply Zd|apply Zi|apply Zl|apply Zo|apply Zr|apply Zs)|((with_reducible first|apply ZI|apply ZJ|apply ZK|apply ZN);rfl;rfl)|((with_reducible first|apply Zqc|apply Zqd);rfl;rfl;rfl;omega)|((with_reducible first|apply Zqz|apply Zra);rfl;rfl;(focus (repeat constructor));rfl)|((with_reducible apply Zrf);rfl;rfl;intro _)|((with_reducible apply ZD);rfl))
          refine SK.callA rfl rfl (fun w1 g1 g2 => find62 _ D e.node w1 (hd.mono g1) (by omega)) ?_
          have hgen : applyQ D S e = (match fI D.nodes e.node with
            | none => none
            | some i => match D.nodes[i]?, S.nodes[i]? with
              | some nd, some x => (match moveL nd.kind x e (kI S.sigs nd.arg) with
                | some r => some { S with nodes := mvN S.nodes i (some r), sigs := mvG S.sigs (kI S.sigs nd.arg) (some r) }
                | none => none)
              | _, _ => none) := by conv => lhs; unfold applyQ; rw [if_neg k1, if_pos s1, if_neg k13, if_neg k15]
          unfold findV
          cases hf : fI D.nodes e.node with
          | none =>
            rw [hf] at hgen
            (repeat first|(with_reducible first|apply Za|apply Zc|apply Zd|apply Ze|apply Zi|apply Zp|apply Zs)|((with_reducible first|apply ZI|apply ZJ);rfl;rfl)|((with_reducible apply Zqn);rfl;rfl;rfl)|((with_reducible apply Zqs);rfl;rfl;rfl)|((with_reducible apply Zqx);rfl;rfl;rfl;rfl)|((with_reducible apply Zz);rfl)|refine Yi 18 i44_18 (by kernel_rfl) ?_)
            exact SK.wk (by (repeat constructor)) (SK.sub (by (repeat constructor)) (hno hgen))
          | some i =>
            obtain ⟨nd, hnd, _⟩ := fI_get hf
            rw [hf] at hgen
            simp only [hnd] at hgen
            obtain ⟨b, o, av, rfl, hnd2⟩ := hnds i nd hnd
            have hilt : i < D.nodes.length := (List.getElem?_eq_some_iff.1 hnd).1
            cases oN with
            | none =>
              have h0 : S.nodes.length = 0 := hoN.2
              rw [List.getElem?_eq_none (by omega)] at hgen
              have hlt : ¬ i < S.nodes.length := by omega
              simp only [OwnD.val]
              (repeat first|(with_reducible first|apply Za|apply Zc|apply Zd|apply Ze|apply Zi|apply Zp|apply Zs)|((with_reducible first|apply ZI|apply ZJ|apply ZK|apply ZM|apply ZN|apply ZO);rfl;rfl)|((with_reducible apply ZY);rfl;rfl;rfl;omega)|((with_reducible first|apply Zqn|apply Zqo);rfl;rfl;rfl)|((with_reducible apply Zqs);rfl;rfl;rfl)|((with_reducible apply Zqx);rfl;rfl;rfl;rfl)|((with_reducible apply Zqz);rfl;rfl;(focus (repeat constructor));rfl)|((with_reducible apply Zz);rfl)|refine Yi 18 i44_18 (by kernel_rfl) ?_)
              exact SK.wk (by (repeat constructor)) (SK.sub (by (repeat constructor)) (hno hgen))
            | some q =>
              obtain ⟨bN, capN, spN⟩ := q
              by_cases hlt : i < S.nodes.length
              · have hcell := hnd2.2
                obtain ⟨x, hx⟩ : ∃ x, S.nodes[i]? = some x := ⟨_, List.getElem?_eq_getElem hlt⟩
                rw [hx] at hgen
                simp only at hgen
                (repeat first|(with_reducible first|apply Za|apply Zc|apply Zd|apply Zi|apply Zs)|((with_reducible refine Yz ?_);first|((with_reducible apply SK.indexAddr); rfl; rfl; rfl; first | exact hlt | exact hilt)|((with_reducible apply SK.loadAR); rfl; rfl; exact hcell; rfl)|((with_reducible first|apply ZI|apply ZJ|apply ZK|apply ZM|apply ZN|apply ZO);rfl;rfl)|((with_reducible apply ZS);rfl;rfl;rfl;omega)|((with_reducible first|apply Zqn|apply Zqo);rfl;rfl;rfl)|((with_reducible first|apply Zqz|apply Zra);rfl;rfl;(focus (repeat constructor));rfl))|((with_reducible apply Zz);rfl)|refine Yi 18 i44_18 (by kernel_rfl) ?_)
                refine SK.call rfl rfl [some (bS, S.c (.slice (some ⟨bN, 0, none⟩) S.nodes.length capN) (oS.val S.sigs.length), 33), some (bN, S.nodes.flatMap Ns.c ++ spN, 56), oS.ent (S.sigs.flatMap Sg.c) 100] [] (by (repeat constructor)) _ _ _ (fun w1 g0 _ _ => moved63 nd av S i x hx e bS bN capN spN oS hoN hoS hsm w1 g0) (fun o' ho' => ?_)
                cases hmv : moveL nd.kind x e (kI S.sigs nd.arg) with
                | none =>
                  rw [hmv] at hgen ho'
                  rw [hgen]
                  (repeat first|(with_reducible first|apply Ze|apply Zi|apply Zp|apply Zs)|((with_reducible apply ZJ);rfl;rfl)|((with_reducible apply Zqo);rfl;rfl;rfl)|((with_reducible apply Zz);rfl))
                  exact SK.retQ rfl (by (repeat constructor)) (fun w' hm' => ⟨(some (bN, capN, spN), o'), ⟨hoN, ho'⟩, rfl, hm'.wk (by (repeat constructor))⟩)
                | some r =>
                  rw [hmv] at hgen ho'
                  rw [hgen]
                  have hl : (mvN S.nodes i (some r)).length = S.nodes.length := by obtain ⟨r1, r2⟩ := r; simp [mvN]
                  (repeat first|(with_reducible first|apply Ze|apply Zi|apply Zp|apply Zs)|((with_reducible apply ZJ);rfl;rfl)|((with_reducible apply Zqo);rfl;rfl;rfl)|((with_reducible apply Zz);rfl))
                  refine SK.retQ rfl (by (repeat constructor)) (fun w' hm' => ⟨(some (bN, capN, spN), o'), ⟨?_, ho'⟩, rfl, ?_⟩)
                  · have h4 := hoN
                    simp only [OwnD.ok, Option.getD_some, hl, List.length_append, flat_len ns_len] at h4 ⊢
                    exact ⟨trivial, h4.2.1, h4.2.2.1, h4.2.2.2⟩
                  · simp only [ptM, Option.getD_some, hl, OwnD.val]
                    exact hm'.wk (by (repeat constructor))
              · rw [List.getElem?_eq_none (by omega)] at hgen
                (repeat first|(with_reducible first|apply Za|apply Zc|apply Zd|apply Ze|apply Zi|apply Zp|apply Zs)|((with_reducible first|apply ZI|apply ZJ|apply ZK|apply ZM|apply ZN|apply ZO);rfl;rfl)|((with_reducible apply ZY);rfl;rfl;rfl;omega)|((with_reducible first|apply Zqn|apply Zqo);rfl;rfl;rfl)|((with_reducible apply Zqs);rfl;rfl;rfl)|((with_reducible apply Zqx);rfl;rfl;rfl;rfl)|((with_reducible apply Zqz);rfl;rfl;(focus (repeat constructor));rfl)|((with_reducible apply Zz);rfl)|refine Yi 18 i44_18 (by kernel_rfl) ?_)
                exact SK.wk (by (repeat constructor)) (SK.sub (by (repeat constructor)) (hno hgen))
    · have hr : applyQ D S e = none := by unfold applyQ; rw [if_neg k1, if_neg s1]
      (repeat first|(with_reducible first|apply Za|apply Zb|apply Zc|apply Zd|apply Zi|apply Zk|apply Zo|apply Zp|apply Zs)|((with_reducible first|apply ZI|apply ZJ|apply ZK|apply ZN);rfl;rfl)|((with_reducible apply ZX);rfl;rfl;rfl;omega)|((with_reducible apply Zqc);rfl;rfl;rfl;omega)|((with_reducible apply Zqz);rfl;rfl;(focus (repeat constructor));rfl)|((with_reducible apply Zrf);rfl;rfl;intro _)|((with_reducible apply ZC);rfl)|((with_reducible apply ZD);rfl))
      exact SK.wk (by (repeat constructor)) (SK.sub (by (repeat constructor)) (hno hr))
def AppV (D : Df) (S : Sta) (e : Ev) (y : OwnD × OwnD) : Value := .tuple #[stV ((applyL D S e).getD S) y, .int .i64 (if (applyL D S e).isSome then 0 else 12)]
set_option maxRecDepth 100000 in
set_option maxHeartbeats 1000000 in
theorem apply27 (dv sv : Value) (D : Df) (S : Sta) (e : Ev) (hsm : Small S) (hn : D.nodes.length ≤ 64) (w : World) (hd : RDf (Vw w []) dv D) (hs : RSt (Vw w []) sv S) :
    Calls Try.prog 27 [dv, sv, .agg e.c.toArray].toArray w (Ret w [] (OSt ((applyL D S e).getD S)) (AppV D S e) (stM ((applyL D S e).getD S))) := by
  obtain ⟨n, s, rfl, hn1, hg1⟩ := id hs
  obtain ⟨A, cap, rfl, hnds⟩ := hd.nds
  refine enter0 Try.func27 rfl Try.ntmps27 rfl ?_
  (repeat first|(with_reducible first|apply Za|apply Zb|apply Zc|apply Zd|apply Zi|apply Zs)|((with_reducible apply ZJ);rfl;rfl)|((with_reducible apply Zra);rfl;rfl;(focus (repeat constructor));rfl)|((with_reducible apply Zrf);rfl;rfl;intro _)|((with_reducible apply Zrg);rfl;intro _))
  refine SK.callO rfl rfl (fun w1 g1 _ => copied42 _ S w1 (hs.mono g1) hsm) ?_
  intro y hy
  (repeat first|(with_reducible first|apply Za|apply Zb|apply Zc|apply Zd|apply Zi|apply Zs)|((with_reducible apply Zra);rfl;rfl;(focus (repeat constructor));rfl)|((with_reducible apply Zrc);rfl;rfl;rfl;exact List.cons_ne_nil _ _;(first|rfl|(repeat first|exact plain_nil|(refine plain_cons (by first|rfl|exact OwnD.plain_val _ _) ?_)));(focus (repeat constructor));rfl)|((with_reducible apply Zrg);rfl;intro _))
  rename_i b3 b4 b5 b6 b8
  refine SK.call rfl rfl (ptM b8 S y) [some (b3, [.string D.name, .slice A D.nodes.length cap], 24), some (b4, S.c n s, 33), some (b5, e.c, 70), some (b6, Sta.c ⟨⟨#[]⟩, ⟨#[]⟩, ⟨#[]⟩, ⟨#[]⟩, 0, ⟨#[]⟩, [], [], 0⟩ (.slice none 0 0) (.slice none 0 0), 33)] (by (repeat constructor)) _ _ _ (fun w1 g0 g1 _ => apply44 _ D S e b8 y hy hsm hn w1 (hd.mono g1) g0) (fun y' hy' => ?_)
  cases hr : applyQ D S e with
  | none =>
    have hl : applyL D S e = none := by unfold applyL; rw [hr]; rfl
    rw [hr] at hy'
    rw [hl]
    (repeat first|(with_reducible first|apply Za|apply Zb|apply Zc|apply Zd|apply Zi|apply Zs)|((with_reducible apply ZP);rfl;rfl)|((with_reducible apply Zra);rfl;rfl;(focus (repeat constructor));rfl)|((with_reducible apply ZC);rfl))
    refine SK.callO rfl rfl (fun w1 g1 _ => copied42 _ S w1 (hs.mono g1) hsm) ?_
    intro y2 hy2
    (repeat first|(with_reducible first|apply Zc|apply Zd|apply Zi|apply Zk|apply Zp|apply Zs)|((with_reducible apply ZJ);rfl;rfl)|((with_reducible apply Zrc);rfl;rfl;rfl;exact List.cons_ne_nil _ _;(first|rfl|(repeat first|exact plain_nil|(refine plain_cons (by first|rfl|exact OwnD.plain_val _ _) ?_)));(focus (repeat constructor));rfl))
    exact SK.retQ rfl (by (repeat constructor)) (fun w' hm' => ⟨y2, hy2, by simp [AppV, hl, retV], hm'.wk (by (repeat constructor))⟩)
  | some T =>
    have hl : applyL D S e = some { T with events := IntKind.i64.wrap (T.events + 1) } := by unfold applyL; rw [hr]; rfl
    rw [hr] at hy'
    rw [hl]
    (repeat first|(with_reducible first|apply Za|apply Zb|apply Zc|apply Zd|apply Zi|apply Zo|apply Zs)|((with_reducible apply ZK);rfl;rfl)|((with_reducible apply ZP);rfl;rfl)|((with_reducible apply Zqz);rfl;rfl;(focus (repeat constructor));rfl)|((with_reducible apply ZD);rfl))
    refine SK.iadd rfl rfl rfl ?_
    (repeat first|(with_reducible first|apply Za|apply Zb|apply Zc|apply Zd|apply Zi|apply Zp|apply Zs)|((with_reducible first|apply ZJ|apply ZK);rfl;rfl)|((with_reducible apply Zra);rfl;rfl;(focus (repeat constructor));rfl)|((with_reducible apply Zrb);rfl;rfl;(first|rfl|exact OwnD.plain_val _ _);(focus (repeat constructor));rfl)|((with_reducible apply Zrc);rfl;rfl;rfl;exact List.cons_ne_nil _ _;(first|rfl|(repeat first|exact plain_nil|(refine plain_cons (by first|rfl|exact OwnD.plain_val _ _) ?_)));(focus (repeat constructor));rfl))
    exact SK.retQ rfl (by (repeat constructor)) (fun w' hm' => ⟨y', hy', by simp [AppV, hl, retV], hm'.wk (by (repeat constructor))⟩)
end Go.Proofs.Ytdnjfmgldkommaa
