/- Proved here: a run: inputs to nodes, the program. -/
import Derived.Test.YtdnjfmgldkommaaRc
namespace Go.Proofs.Ytdnjfmgldkommaa
open Go.Sx
@[reducible] def nd0 : Nd := ⟨e0, 0, e0, e0, 0, 0, []⟩
def pickN (D : Df) (S : Sta) (s : ByteArray) (q : Int → Bool) : Option (Nd × Ns) :=
  match nodeL D S s with
  | some (n, x) => if q n.kind = true then some (n, x) else none
  | none => none
@[reducible] def nodeV (r : Option (Nd × Ns)) (av : Value) : Value :=
  match r with
  | some (n, x) => .tuple #[.agg (n.c av).toArray, .agg x.c.toArray, .bool true]
  | none => .tuple #[.agg (nd0.c (.slice none 0 0)).toArray, .agg ns0.c.toArray, .bool false]
def isSl (av : Value) : Prop := ∃ A l c, av = .slice A l c
theorem two {V : View} {b : Nat} {u v : Value} (h0 : V b 0 u) (h1 : V b 1 v) : ∀ (j : Nat) (x : Value), [u, v][j]? = some x → V b (0 + j) x := by
  intro j x hx
  rcases j with _ | _ | j
  · simp at hx; subst hx; exact h0
  · simp at hx; subst hx; exact h1
  · simp at hx
section
variable {P : Program} {ops : Array Oper} {w0 : World} {Mod : List Nat} {n : Nat} {F : FL} {M : ML} {K : Act → World → Prop} {chk : List Nat} {ty : TypeId} {pos : String} {aft : Array Edge}
theorem SK.chkAR {j dj : Nat} {T : TypeId} {x : Operand} {b o k : Nat} {vs : List Value} {g : Option (Nat × Bool)} (ho0 : nthO ops.toList j = some ⟨some dj, .load T x, ty, pos, aft, g⟩) (hT : Agg P T k)
    (hx : ev F x = some (.pointer (some ⟨b, o, none⟩))) (hv : ∀ (j : Nat) (v : Value), vs[j]? = some v → Vw w0 Mod b (o + j) v) (hl : vs.length = k) (hd : lk F dj = some (.agg vs.toArray)) (h : SK w0 Mod n (chkE P ops chk K) F M) :
    SK w0 Mod n (chkE P ops (j :: chk) K) F M := by
  have ho := nthO_ops ho0
  intro a w hf hm
  obtain ⟨h1, h2⟩ := h a w hf hm
  refine ⟨fun i hi => ?_, h2⟩
  rcases List.mem_cons.1 hi with rfl | hi
  · intro o' ho' _
    have : o' = ⟨some dj, .load T x, ty, pos, aft, g⟩ := by rw [ho] at ho'; exact (Option.some.inj ho').symm
    subst this
    refine ⟨dj, _, rfl, hf.at_ dj _ hd, ?_⟩
    have := Agg.run (P := P) (T := T) (k := k) w b o hl (fun j v hj => hm.view (hv j v hj))
    simp only [execOp, hf.ev hx, Sem.run_bind, this, Result.andThen_ok, Sem.run_pure]
  · exact h1 i hi
end
set_option maxRecDepth 100000 in
set_option maxHeartbeats 8000000 in
theorem node77 (D : Df) (dsl nsl kv : Value) (S : Sta) (s : ByteArray) (ks : List Int) (b : Nat) (w : World) (hdn : D.nodes.length ≤ 64) (hks : ks.length ≤ 100) (h0 : Vw w [] b 0 (.string D.name)) (h1 : Vw w [] b 1 dsl) (h8 : Vw w [] b 8 nsl)
    (hD : RDf (Vw w []) (.agg #[.string D.name, dsl]) D) (hN : RSl (Vw w []) nsl S.nodes.length (S.nodes.flatMap Ns.c)) (hk : RSl (Vw w []) kv ks.length (ks.flatMap intC)) :
    Calls Try.prog 77 [.pointer (some ⟨b, 0, none⟩), .string s, kv].toArray w (Ret w [] isSl (nodeV (pickN D S s ks.contains)) (fun _ => [])) := by
  obtain ⟨A, cap, hdsl, hnds⟩ := RDf.dsl hD
  subst hdsl
  obtain ⟨An, capn, rfl, hc⟩ := hN.open ns_len
  obtain ⟨Ak, capk, rfl, hck⟩ := hk.open (k := 1) (fun _ => rfl)
  have hd2 := two h0 h1
  refine enter0 Try.func77 rfl Try.ntmps77 rfl ?_
  (repeat first|(with_reducible first|apply Za|apply Zb|apply Zc|apply Zd|apply Zi|apply Zs)|((with_reducible refine Yz ?_);first|((with_reducible apply SK.loadAR); rfl; rfl; exact hd2; rfl)|((with_reducible first|apply ZI|apply ZJ|apply ZK|apply ZN);rfl;rfl)|((with_reducible apply Zrg);rfl;intro _)))
  refine SK.callA rfl rfl (fun w1 g1 g2 => find62 _ D s w1 (hD.mono g1) (by omega)) ?_
  unfold findV
  cases hf : fI D.nodes s with
  | none =>
    have hr : pickN D S s ks.contains = none := by simp only [pickN, nodeL, hf]
    rw [hr]
    (repeat first|(with_reducible first|apply Za|apply Zb|apply Zc|apply Zd|apply Zi|apply Zk|apply Zp|apply Zs)|((with_reducible first|apply ZI|apply ZJ);rfl;rfl)|((with_reducible apply ZP);rfl;rfl)|((with_reducible first|apply Zqn|apply Zqo|apply Zqr);rfl;rfl;rfl)|((with_reducible apply Zqx);rfl;rfl;rfl;rfl)|((with_reducible apply Zrc);rfl;rfl;rfl;exact List.cons_ne_nil _ _;(first|rfl|(repeat first|exact plain_nil|(refine plain_cons (by first|rfl|exact OwnD.plain_val _ _) ?_)));(focus (repeat constructor));rfl)|((with_reducible apply ZC);rfl))
    exact SK.retQ rfl (by (repeat constructor)) (fun w' hm' => ⟨.slice none 0 0, ⟨_, _, _, rfl⟩, rfl, hm'.wk (by (repeat constructor))⟩)
  | some i =>
    obtain ⟨nd, hnd, hndn⟩ := fI_get hf
    have hilt : i < D.nodes.length := (List.getElem?_eq_some_iff.1 hnd).1
    by_cases hlt : i < S.nodes.length
    · obtain ⟨x, hx⟩ : ∃ x, S.nodes[i]? = some x := ⟨_, List.getElem?_eq_getElem hlt⟩
      obtain ⟨bd, o, av, rfl, hnd2⟩ := hnds i nd hnd
      obtain ⟨Aa, ca, hav, havx⟩ := id hnd2.1
      subst hav
      have hcell := hnd2.2
      obtain ⟨bn, on, rfl, hxc⟩ := hc i x hx (by omega)
      (repeat first|(with_reducible first|apply Za|apply Zb|apply Zc|apply Zd|apply Zi|apply Zo|apply Zr|apply Zs)|((with_reducible refine Yz ?_);first|((with_reducible apply SK.load1R); rfl; rfl; first | exact h1 | exact h8)|((with_reducible first|apply ZI|apply ZJ|apply ZK|apply ZM|apply ZN|apply ZO);rfl;rfl)|((with_reducible apply ZP);rfl;rfl)|((with_reducible apply Zqb);rfl;rfl;rfl;omega)|((with_reducible first|apply Zqm|apply Zqn);rfl;rfl;rfl)|((with_reducible apply Zqs);rfl;rfl;rfl))|((with_reducible apply ZD);rfl))
      rename_i b6 b7
      refine SK.loopW (fun k : Nat => [(38, .int .i64 (k : Int)), (37, .int .i64 (ks.length : Int)), (36, .slice Ak ks.length capk), (0, .pointer (some ⟨b, 0, none⟩)), (9, .int .i64 (i : Int)), (6, .pointer (some ⟨b6, 0, none⟩)), (7, .pointer (some ⟨b7, 0, none⟩))])
        (fun _ => [some (b6, nd0.c (.slice none 0 0), 59), some (b7, ns0.c, 56)])
        (fun k => k ≤ ks.length ∧ ∀ (j : Nat) (z : Int), j < k → ks[j]? = some z → ¬ nd.kind = z) (fun k => ks.length - k) 0 ⟨Nat.zero_le _, fun j _ hj => absurd hj (Nat.not_lt_zero j)⟩ (by (repeat constructor)) (by (repeat constructor)) ?_
      rintro k ⟨hk1, hno⟩
      by_cases hkl : k < ks.length
      · obtain ⟨z, hz⟩ : ∃ z, ks[k]? = some z := ⟨_, List.getElem?_eq_getElem hkl⟩
        obtain ⟨bk, ok, rfl, hkc⟩ := hck k z hz (by omega)
        have hkc0 := hkc 0 _ rfl
        by_cases hzk : nd.kind = z
        · have hr : pickN D S s ks.contains = some (nd, x) := by
            simp only [pickN, nodeL, hf, hnd, hx]
            rw [if_pos (by rw [List.contains_iff_mem, hzk]; exact List.mem_of_getElem? hz)]
          rw [hr]
          (repeat first|(with_reducible first|apply Za|apply Zb|apply Zc|apply Zd|apply Ze|apply Zi|apply Zk|apply Zm|apply Zo|apply Zp|apply Zr|apply Zs)|((with_reducible refine Yz ?_);first|((with_reducible apply SK.indexAddr); rfl; rfl; rfl; first | exact hkl | exact hilt | exact hlt)|((with_reducible apply SK.load1R); rfl; rfl; first | exact hkc0 | exact h1 | exact h8 | exact hcell 1 _ rfl)|((with_reducible apply SK.loadAR); rfl; rfl; (first | exact hcell | exact hxc); rfl)|((with_reducible first|apply ZI|apply ZJ|apply ZK|apply ZN);rfl;rfl)|((with_reducible first|apply ZS|apply ZW);rfl;rfl;rfl;omega)|((with_reducible apply Zqm);rfl;rfl;rfl)|((with_reducible apply Zrc);rfl;rfl;rfl;exact List.cons_ne_nil _ _;(first|rfl|(repeat first|exact plain_nil|(refine plain_cons (by first|rfl|exact OwnD.plain_val _ _) ?_)));(focus (repeat constructor));rfl))|((with_reducible first|apply Zz|apply ZC);rfl)|refine Yi 8 i77_8 (by kernel_rfl) ?_|((with_reducible apply SK.chkR); rfl; infer_instance; rfl; exact h8; rfl)|((with_reducible apply SK.chkAR); rfl; infer_instance; rfl; exact hxc; rfl; rfl))
          exact SK.retQ rfl (by (repeat constructor)) (fun w' hm' => ⟨_, ⟨_, _, _, rfl⟩, rfl, hm'.wk (by (repeat constructor))⟩)
        · (repeat first|(with_reducible first|apply Za|apply Zb|apply Zc|apply Zd|apply Zi|apply Zl|apply Zo|apply Zr)|((with_reducible refine Yz ?_);first|((with_reducible apply SK.indexAddr); rfl; rfl; rfl; first | exact hkl | exact hilt | exact hlt)|((with_reducible apply SK.load1R); rfl; rfl; first | exact hkc0 | exact h1 | exact h8 | exact hcell 1 _ rfl)|((with_reducible first|apply ZI|apply ZJ|apply ZK|apply ZN);rfl;rfl)|((with_reducible first|apply ZR|apply ZS);rfl;rfl;rfl;omega)|((with_reducible apply Zqc);rfl;rfl;rfl;omega)|((with_reducible apply Zqm);rfl;rfl;rfl))|((with_reducible apply ZC);rfl)|((with_reducible apply ZD);rfl))
          exact SK.roundW (k + 1) ⟨by omega, fun j u hj hu => by
            by_cases hjk : j = k
            · subst hjk; rw [hz] at hu; cases hu; exact hzk
            · exact hno j u (by omega) hu⟩ (by omega) (by (repeat constructor)) (by (repeat constructor))
      · have hr : pickN D S s ks.contains = none := by
          simp only [pickN, nodeL, hf, hnd, hx]
          rw [if_neg]
          intro hc
          rw [List.contains_iff_mem] at hc
          obtain ⟨j, hj⟩ := List.getElem?_of_mem hc
          exact hno j _ (by have := (List.getElem?_eq_some_iff.1 hj).1; omega) hj rfl
        rw [hr]
        (repeat first|(with_reducible first|apply Za|apply Zb|apply Zc|apply Zd|apply Zi|apply Zj|apply Zn|apply Zp|apply Zq|apply Zs)|((with_reducible apply ZJ);rfl;rfl)|((with_reducible apply ZY);rfl;rfl;rfl;omega)|((with_reducible apply Zqr);rfl;rfl;rfl)|((with_reducible apply Zrc);rfl;rfl;rfl;exact List.cons_ne_nil _ _;(first|rfl|(repeat first|exact plain_nil|(refine plain_cons (by first|rfl|exact OwnD.plain_val _ _) ?_)));(focus (repeat constructor));rfl)|((with_reducible apply ZD);rfl))
        exact SK.retQ rfl (by (repeat constructor)) (fun w' hm' => ⟨.slice none 0 0, ⟨_, _, _, rfl⟩, rfl, hm'.wk (by (repeat constructor))⟩)
    · have hr : pickN D S s ks.contains = none := by
        simp only [pickN, nodeL, hf, hnd]
        rw [List.getElem?_eq_none (by omega)]
      rw [hr]
      (repeat first|(with_reducible first|apply Za|apply Zb|apply Zc|apply Zd|apply Zi|apply Zk|apply Zp|apply Zs)|((with_reducible refine Yz ?_);first|((with_reducible apply SK.load1R); rfl; rfl; first | exact h1 | exact h8)|((with_reducible first|apply ZI|apply ZJ|apply ZK|apply ZM|apply ZN|apply ZO);rfl;rfl)|((with_reducible apply ZP);rfl;rfl)|((with_reducible apply ZV);rfl;rfl;rfl;omega)|((with_reducible first|apply Zqm|apply Zqn|apply Zqr);rfl;rfl;rfl)|((with_reducible apply Zqs);rfl;rfl;rfl)|((with_reducible apply Zrc);rfl;rfl;rfl;exact List.cons_ne_nil _ _;(first|rfl|(repeat first|exact plain_nil|(refine plain_cons (by first|rfl|exact OwnD.plain_val _ _) ?_)));(focus (repeat constructor));rfl))|((with_reducible apply ZC);rfl))
      exact SK.retQ rfl (by (repeat constructor)) (fun w' hm' => ⟨.slice none 0 0, ⟨_, _, _, rfl⟩, rfl, hm'.wk (by (repeat constructor))⟩)
set_option maxRecDepth 100000 in
set_option maxHeartbeats 8000000 in
theorem node90 (D : Df) (dsl nsl : Value) (S : Sta) (s : ByteArray) (z : Int) (b : Nat) (w : World) (hdn : D.nodes.length ≤ 64) (h0 : Vw w [] b 0 (.string D.name)) (h1 : Vw w [] b 1 dsl) (h8 : Vw w [] b 8 nsl)
    (hD : RDf (Vw w []) (.agg #[.string D.name, dsl]) D) (hN : RSl (Vw w []) nsl S.nodes.length (S.nodes.flatMap Ns.c)) :
    Calls Try.prog 90 [.pointer (some ⟨b, 0, none⟩), .string s, .int .i64 z].toArray w (Ret w [] isSl (nodeV (pickN D S s ([z] : List Int).contains)) (fun _ => [])) := by
  obtain ⟨A, cap, hdsl, hnds⟩ := RDf.dsl hD
  subst hdsl
  obtain ⟨An, capn, rfl, hc⟩ := hN.open ns_len
  have hd2 := two h0 h1
  refine enter0 Try.func90 rfl Try.ntmps90 rfl ?_
  (repeat first|(with_reducible first|apply Za|apply Zb|apply Zc|apply Zd|apply Zi|apply Zs)|((with_reducible refine Yz ?_);first|((with_reducible apply SK.loadAR); rfl; rfl; exact hd2; rfl)|((with_reducible first|apply ZI|apply ZJ|apply ZK|apply ZN);rfl;rfl)|((with_reducible apply Zrg);rfl;intro _)))
  refine SK.callA rfl rfl (fun w1 g1 g2 => find21 _ D s w1 (hD.mono g1) (by omega)) ?_
  unfold findV
  cases hf : fI D.nodes s with
  | none =>
    have hr : pickN D S s ([z] : List Int).contains = none := by simp only [pickN, nodeL, hf]
    rw [hr]
    (repeat first|(with_reducible first|apply Za|apply Zb|apply Zc|apply Zd|apply Zi|apply Zk|apply Zp|apply Zs)|((with_reducible first|apply ZI|apply ZJ);rfl;rfl)|((with_reducible apply ZP);rfl;rfl)|((with_reducible first|apply Zqn|apply Zqo|apply Zqr);rfl;rfl;rfl)|((with_reducible apply Zqx);rfl;rfl;rfl;rfl)|((with_reducible apply Zrc);rfl;rfl;rfl;exact List.cons_ne_nil _ _;(first|rfl|(repeat first|exact plain_nil|(refine plain_cons (by first|rfl|exact OwnD.plain_val _ _) ?_)));(focus (repeat constructor));rfl)|((with_reducible apply ZC);rfl))
    exact SK.retQ rfl (by (repeat constructor)) (fun w' hm' => ⟨.slice none 0 0, ⟨_, _, _, rfl⟩, rfl, hm'.wk (by (repeat constructor))⟩)
  | some i =>
    obtain ⟨nd, hnd, hndn⟩ := fI_get hf
    have hilt : i < D.nodes.length := (List.getElem?_eq_some_iff.1 hnd).1
    obtain ⟨bd, o, av, rfl, hnd2⟩ := hnds i nd hnd
    obtain ⟨Aa, ca, hav, havx⟩ := id hnd2.1
    subst hav
    have hcell := hnd2.2
    by_cases hzk : nd.kind = z
    · by_cases hlt : i < S.nodes.length
      · obtain ⟨x, hx⟩ : ∃ x, S.nodes[i]? = some x := ⟨_, List.getElem?_eq_getElem hlt⟩
        obtain ⟨bn, on, rfl, hxc⟩ := hc i x hx (by omega)
        have hr : pickN D S s ([z] : List Int).contains = some (nd, x) := by
          simp only [pickN, nodeL, hf, hnd, hx]
          rw [if_pos (by simp [hzk])]
        rw [hr]
        (repeat first|(with_reducible first|apply Za|apply Zb|apply Zc|apply Zd|apply Ze|apply Zi|apply Zo|apply Zp|apply Zs)|((with_reducible refine Yz ?_);first|((with_reducible apply SK.indexAddr); rfl; rfl; rfl; first | exact hilt | exact hlt)|((with_reducible apply SK.load1R); rfl; rfl; first | exact h1 | exact h8 | exact hcell 1 _ rfl)|((with_reducible apply SK.loadAR); rfl; rfl; (first | exact hcell | exact hxc); rfl)|((with_reducible first|apply ZI|apply ZJ|apply ZK|apply ZM|apply ZN|apply ZO);rfl;rfl)|((with_reducible apply ZP);rfl;rfl)|((with_reducible first|apply Zqb|apply Zqd);rfl;rfl;rfl;omega)|((with_reducible first|apply Zqm|apply Zqn);rfl;rfl;rfl)|((with_reducible apply Zqs);rfl;rfl;rfl)|((with_reducible apply Zrc);rfl;rfl;rfl;exact List.cons_ne_nil _ _;(first|rfl|(repeat first|exact plain_nil|(refine plain_cons (by first|rfl|exact OwnD.plain_val _ _) ?_)));(focus (repeat constructor));rfl))|((with_reducible apply Zz);rfl)|((with_reducible apply ZD);rfl)|refine Yi 4 i90_4 (by kernel_rfl) ?_|((with_reducible apply SK.chkR); rfl; infer_instance; rfl; exact h8; rfl)|((with_reducible apply SK.chkAR); rfl; infer_instance; rfl; exact hxc; rfl; rfl))
        exact SK.retQ rfl (by (repeat constructor)) (fun w' hm' => ⟨_, ⟨_, _, _, rfl⟩, rfl, hm'.wk (by (repeat constructor))⟩)
      · have hr : pickN D S s ([z] : List Int).contains = none := by
          simp only [pickN, nodeL, hf, hnd]
          rw [List.getElem?_eq_none (by omega)]
        rw [hr]
        (repeat first|(with_reducible first|apply Za|apply Zb|apply Zc|apply Zd|apply Zi|apply Zk|apply Zp|apply Zs)|((with_reducible refine Yz ?_);first|((with_reducible apply SK.indexAddr); rfl; rfl; rfl; first | exact hilt | exact hlt)|((with_reducible apply SK.load1R); rfl; rfl; first | exact h1 | exact h8 | exact hcell 1 _ rfl)|((with_reducible first|apply ZI|apply ZJ|apply ZK|apply ZM|apply ZN|apply ZO);rfl;rfl)|((with_reducible apply ZP);rfl;rfl)|((with_reducible apply ZV);rfl;rfl;rfl;omega)|((with_reducible apply Zqd);rfl;rfl;rfl;omega)|((with_reducible first|apply Zqm|apply Zqn|apply Zqr);rfl;rfl;rfl)|((with_reducible apply Zqs);rfl;rfl;rfl)|((with_reducible apply Zrc);rfl;rfl;rfl;exact List.cons_ne_nil _ _;(first|rfl|(repeat first|exact plain_nil|(refine plain_cons (by first|rfl|exact OwnD.plain_val _ _) ?_)));(focus (repeat constructor));rfl))|((with_reducible apply ZC);rfl))
        exact SK.retQ rfl (by (repeat constructor)) (fun w' hm' => ⟨.slice none 0 0, ⟨_, _, _, rfl⟩, rfl, hm'.wk (by (repeat constructor))⟩)
    · have hr : pickN D S s ([z] : List Int).contains = none := by
        simp only [pickN, nodeL, hf, hnd]
        cases S.nodes[i]? with
        | none => rfl
        | some x => simp [hzk]
      rw [hr]
      (repeat first|(with_reducible first|apply Za|apply Zb|apply Zc|apply Zd|apply Zi|apply Zk|apply Zp|apply Zs)|((with_reducible refine Yz ?_);first|((with_reducible apply SK.indexAddr); rfl; rfl; rfl; first | exact hilt)|((with_reducible apply SK.load1R); rfl; rfl; first | exact h1 | exact h8 | exact hcell 1 _ rfl)|((with_reducible first|apply ZI|apply ZJ|apply ZK|apply ZN|apply ZO);rfl;rfl)|((with_reducible apply ZP);rfl;rfl)|((with_reducible apply ZX);rfl;rfl;rfl;omega)|((with_reducible first|apply Zqm|apply Zqn|apply Zqo|apply Zqr);rfl;rfl;rfl)|((with_reducible apply Zqs);rfl;rfl;rfl)|((with_reducible apply Zqx);rfl;rfl;rfl;rfl)|((with_reducible apply Zrc);rfl;rfl;rfl;exact List.cons_ne_nil _ _;(first|rfl|(repeat first|exact plain_nil|(refine plain_cons (by first|rfl|exact OwnD.plain_val _ _) ?_)));(focus (repeat constructor));rfl))|((with_reducible apply ZC);rfl))
      exact SK.retQ rfl (by (repeat constructor)) (fun w' hm' => ⟨.slice none 0 0, ⟨_, _, _, rfl⟩, rfl, hm'.wk (by (repeat constructor))⟩)
theorem pickN_some {D : Df} {S : Sta} {s : ByteArray} {q : Int → Bool} {n : Nd} {x : Ns} (h : pickN D S s q = some (n, x)) : nodeL D S s = some (n, x) ∧ q n.kind = true := by
  unfold pickN at h
  split at h
  · rename_i n' x' hn
    split at h
    · rename_i hq
      cases h; exact ⟨hn, hq⟩
    · cases h
  · cases h
theorem pickN_none {D : Df} {S : Sta} {s : ByteArray} {q : Int → Bool} (h : pickN D S s q = none) : ∀ n x, nodeL D S s = some (n, x) → q n.kind = false := by
  intro n x hn
  unfold pickN at h
  rw [hn] at h
  simp only at h
  split at h
  · cases h
  · rename_i hq
    simpa using hq
theorem nodeL_mem {D : Df} {S : Sta} {s : ByteArray} {n : Nd} {x : Ns} (h : nodeL D S s = some (n, x)) : n ∈ D.nodes ∧ x ∈ S.nodes := by
  unfold nodeL at h
  split at h
  · cases h
  · split at h
    · rename_i i _ n' x' hn hx
      cases h
      exact ⟨List.mem_of_getElem? hn, List.mem_of_getElem? hx⟩
    · cases h
theorem idle_le (S : Sta) : idle S ≤ S.nodes.length := List.countP_le_length
theorem happ_len {D : Df} {R : Rn} {e : Ev} (h : R.S.nodes.length = D.nodes.length) : (happ D R e).S.nodes.length = D.nodes.length := by
  obtain ⟨_, _, _, _, h5⟩ := happ_keeps D R e
  rcases h5 with h5 | h5
  · rw [h5, h]
  · exact h5
theorem Room.on {D : Df} {R : Rn} (h : Room D R 5500) : Room D R (80 * idle R.S + 80) := h.mono (by have := idle_le R.S; have := h.sn; omega)
theorem ints_known {V : View} {b : Nat} {l : List Int} (h : ∀ (j : Nat) (u : Value), nv (l.flatMap intC) j = some u → V b j u) : RSl V (.slice (some ⟨b, 0, none⟩) l.length l.length) l.length (l.flatMap intC) :=
  ⟨_, _, rfl, .inr ⟨b, 0, rfl, fun j u hu => by rw [Nat.zero_add]; exact h j u (by rw [nv_eq]; exact hu)⟩⟩
set_option maxRecDepth 100000 in
set_option maxHeartbeats 8000000 in
theorem fails79 (c : Cx) (hT : c.T = 97) (R : Rn) (n : Nd) (av : Value) (text : ByteArray) (hf : Room c.D R 80) : Meth 79 c [.agg (n.c av).toArray, .string text] R (cls c.D (happ c.D R ⟨6, n.name, text, 0⟩) 3 text) (.tuple #[]) := by
  intro b y w hy hD hm
  obtain ⟨T, D, dsl, now⟩ := c
  dsimp only at *
  subst hT
  have hdn := hf.dn
  obtain ⟨⟨oN, oS⟩, oE, oT⟩ := y
  refine enterF (M := rnM _ b R ((oN, oS), oE, oT)) Try.func79 rfl Try.ntmps79 rfl hm ?_
  (repeat first|(with_reducible first|apply Za|apply Zb|apply Zc|apply Zd|apply Zi|apply Zs)|((with_reducible first|apply ZI|apply ZK);rfl;rfl)|((with_reducible apply Zqr);rfl;rfl;rfl)|((with_reducible apply Zqz);rfl;rfl;(focus (repeat constructor));rfl)|((with_reducible apply Zrf);rfl;rfl;intro _))
  refine SK.meth (vs := [.agg (Ev.c ⟨6, n.name, text, 0⟩).toArray]) rfl rfl (happens55 _ rfl R ⟨6, n.name, text, 0⟩ hf.fit hdn) hy hD (by (repeat constructor)) (by (repeat constructor)) (by (repeat constructor)) (by (repeat constructor)) (by (repeat constructor)) (fun y1 hy1 => ?_)
  have hr1 : Room D (happ D R ⟨6, n.name, text, 0⟩) 79 := hf.happ _ (show (6 : Int) ≠ 13 by decide)
  (repeat first|(with_reducible first|apply Zb|apply Zc|apply Zd|apply Zi|apply Zs)|((with_reducible apply ZI);rfl;rfl))
  refine SK.meth rfl rfl (close61 _ rfl _ 3 text (hr1.mono (by omega))) hy1 hD (by (repeat constructor)) (by (repeat constructor)) (by (repeat constructor)) (by (repeat constructor)) (by (repeat constructor)) (fun y2 hy2 => ?_)
  (repeat first|(with_reducible first|apply Zd|apply Zs))
  exact SK.endQ rfl (by (repeat constructor)) (fun w' hm' => ⟨y2, hy2, rfl, hm'.wk (by (repeat constructor))⟩)
set_option maxRecDepth 100000 in
set_option maxHeartbeats 8000000 in
theorem take58 (c : Cx) (hT : c.T = 97) (R : Rn) (a : Inp) (hf : Room c.D R 6000) : Meth 58 c [.agg a.c.toArray] R (takeL c.D c.now R a).2 (.int .i64 (takeL c.D c.now R a).1) := by
  intro b y w hy hD hm
  obtain ⟨T, D, dsl, now⟩ := c
  dsimp only at *
  subst hT
  have hdn := hf.dn
  obtain ⟨⟨oN, oS⟩, oE, oT⟩ := y
  refine enterF (M := rnM _ b R ((oN, oS), oE, oT)) Try.func58 rfl Try.ntmps58 rfl hm ?_
  (repeat first|(with_reducible first|apply Za|apply Zb|apply Zc|apply Zd|apply Zi|apply Zs)|((with_reducible first|apply ZI|apply ZJ|apply ZK);rfl;rfl)|((with_reducible apply Zqz);rfl;rfl;(focus (repeat constructor));rfl)|((with_reducible apply Zrd);rfl;rfl;rfl;rfl;rfl;rfl;rfl;intro _)|((with_reducible apply Zrf);rfl;rfl;intro _))
  refine SK.callO rfl rfl (fun w1 g1 g2 => node77 D dsl (oN.val R.S.nodes.length) _ R.S a.node [1] b w1 hdn (by decide) (g2 _ _ _ (by (repeat constructor)) 0 _ rfl) (g2 _ _ _ (by (repeat constructor)) 1 _ rfl) (g2 _ _ _ (by (repeat constructor)) 8 _ rfl) (hD.mono g1) (RSl.own oN hy.1.1 (fun b cs hb j u hu => g2 b cs _ (by rw [← hb]; (repeat constructor)) j u hu)) (ints_known (l := [1]) (fun j u hu => g2 _ _ _ (by (repeat constructor)) j u hu))) ?_
  rintro av ⟨Aa, la, ca, rfl⟩
  cases hp : pickN D R.S a.node ([1] : List Int).contains with
  | none =>
    have he : takeL D now R a = (6, R) := by
      have h := pickN_none hp
      unfold takeL
      split
      · rfl
      · rename_i n x hn
        have := h n x hn
        rw [if_neg (by simpa using this)]
    (repeat first|(with_reducible first|apply Za|apply Zb|apply Zc|apply Zd|apply Zi|apply Zk|apply Zm|apply Zp|apply Zr|apply Zs)|((with_reducible first|apply ZI|apply ZJ);rfl;rfl)|((with_reducible apply ZP);rfl;rfl)|((with_reducible apply Zqn);rfl;rfl;rfl)|((with_reducible apply Zrc);rfl;rfl;rfl;exact List.cons_ne_nil _ _;(first|rfl|(repeat first|exact plain_nil|(refine plain_cons (by first|rfl|exact OwnD.plain_val _ _) ?_)));(focus (repeat constructor));rfl)|((with_reducible apply Zrg);rfl;intro _)|((with_reducible apply ZC);rfl))
    exact SK.retQ rfl (by (repeat constructor)) (fun w' hm' => ⟨((oN, oS), oE, oT), by rw [he]; exact hy, by rw [he]; rfl, by rw [he]; exact hm'.wk (by (repeat constructor))⟩)
  | some p =>
    obtain ⟨n, x⟩ := p
    obtain ⟨hn, hk⟩ := pickN_some hp
    have k1 : n.kind = 1 := by simpa using hk
    by_cases hs : x.st = 1
    · by_cases hd0 : 0 < n.delay
      · have he : takeL D now R a = (0, tsk (happ D R ⟨3, n.name, e0, IntKind.i64.wrap (x.try_ + 1)⟩) ⟨2, e0, n.name, IntKind.i64.wrap (x.try_ + 1), IntKind.i64.wrap (now + n.delay), ml0⟩) := by unfold takeL; rw [hn]; simp only; rw [if_pos k1, if_pos hs, if_pos hd0]
        (repeat first|(with_reducible first|apply Za|apply Zb|apply Zc|apply Zd|apply Zi|apply Zl|apply Zo|apply Zr|apply Zs)|((with_reducible first|apply ZI|apply ZJ|apply ZK);rfl;rfl)|((with_reducible apply ZP);rfl;rfl)|((with_reducible apply Zqd);rfl;rfl;rfl;omega)|((with_reducible apply Zqn);rfl;rfl;rfl)|((with_reducible apply Zqz);rfl;rfl;(focus (repeat constructor));rfl)|((with_reducible apply Zrc);rfl;rfl;rfl;exact List.cons_ne_nil _ _;(first|rfl|(repeat first|exact plain_nil|(refine plain_cons (by first|rfl|exact OwnD.plain_val _ _) ?_)));(focus (repeat constructor));rfl)|((with_reducible apply Zrg);rfl;intro _)|((with_reducible apply ZD);rfl))
        refine SK.iadd rfl rfl rfl ?_
        (repeat first|(with_reducible apply Zc)|((with_reducible apply Zqr);rfl;rfl;rfl))
        refine SK.meth (vs := [.agg (Ev.c ⟨3, n.name, e0, IntKind.i64.wrap (x.try_ + 1)⟩).toArray]) rfl rfl (happens55 _ rfl R ⟨3, n.name, e0, IntKind.i64.wrap (x.try_ + 1)⟩ hf.fit hdn) hy hD (by (repeat constructor)) (by (repeat constructor)) (by (repeat constructor)) (by (repeat constructor)) (by (repeat constructor)) (fun y1 hy1 => ?_)
        have hr1 : Room D (happ D R ⟨3, n.name, e0, IntKind.i64.wrap (x.try_ + 1)⟩) 5999 := hf.happ _ (show (3 : Int) ≠ 13 by decide)
        (repeat first|(with_reducible first|apply Za|apply Zb|apply Zc|apply Zd|apply Zi|apply Zs)|((with_reducible first|apply ZI|apply ZK|apply ZN);rfl;rfl)|((with_reducible apply ZU);rfl;rfl;rfl;omega)|((with_reducible apply Zqz);rfl;rfl;(focus (repeat constructor));rfl)|((with_reducible first|apply Zz|apply ZC);rfl)|refine Yi 8 i58_8 (by kernel_rfl) ?_)
        refine SK.iadd rfl rfl rfl ?_
        (repeat first|((with_reducible apply Zz);rfl)|((with_reducible apply Zqz);rfl;rfl;(focus (repeat constructor));rfl))
        refine SK.iadd rfl rfl rfl ?_
        (repeat first|((with_reducible apply Zz);rfl)|((with_reducible apply Zqr);rfl;rfl;rfl))
        refine SK.meth (vs := [.agg (Tk.c ⟨2, e0, n.name, IntKind.i64.wrap (x.try_ + 1), IntKind.i64.wrap (now + n.delay), ml0⟩).toArray]) rfl rfl (task78 _ rfl _ ⟨2, e0, n.name, IntKind.i64.wrap (x.try_ + 1), IntKind.i64.wrap (now + n.delay), ml0⟩ hr1.fit) hy1 hD (by (repeat constructor)) (by (repeat constructor)) (by (repeat constructor)) (by (repeat constructor)) (by (repeat constructor)) (fun y2 hy2 => ?_)
        (repeat first|(with_reducible first|apply Za|apply Zb|apply Zc|apply Zd|apply Ze|apply Zi|apply Zp|apply Zs)|((with_reducible apply ZJ);rfl;rfl))
        exact SK.retQ rfl (by (repeat constructor)) (fun w' hm' => ⟨y2, by rw [he]; exact hy2, by rw [he]; rfl, by rw [he]; exact hm'.wk (by (repeat constructor))⟩)
      · have he : takeL D now R a = (0, happ D R ⟨3, n.name, e0, IntKind.i64.wrap (x.try_ + 1)⟩) := by unfold takeL; rw [hn]; simp only; rw [if_pos k1, if_pos hs, if_neg hd0]
        (repeat first|(with_reducible first|apply Za|apply Zb|apply Zc|apply Zd|apply Zi|apply Zl|apply Zo|apply Zr|apply Zs)|((with_reducible first|apply ZI|apply ZJ|apply ZK);rfl;rfl)|((with_reducible apply ZP);rfl;rfl)|((with_reducible apply Zqd);rfl;rfl;rfl;omega)|((with_reducible apply Zqn);rfl;rfl;rfl)|((with_reducible apply Zqz);rfl;rfl;(focus (repeat constructor));rfl)|((with_reducible apply Zrc);rfl;rfl;rfl;exact List.cons_ne_nil _ _;(first|rfl|(repeat first|exact plain_nil|(refine plain_cons (by first|rfl|exact OwnD.plain_val _ _) ?_)));(focus (repeat constructor));rfl)|((with_reducible apply Zrg);rfl;intro _)|((with_reducible apply ZD);rfl))
        refine SK.iadd rfl rfl rfl ?_
        (repeat first|(with_reducible apply Zc)|((with_reducible apply Zqr);rfl;rfl;rfl))
        refine SK.meth (vs := [.agg (Ev.c ⟨3, n.name, e0, IntKind.i64.wrap (x.try_ + 1)⟩).toArray]) rfl rfl (happens55 _ rfl R ⟨3, n.name, e0, IntKind.i64.wrap (x.try_ + 1)⟩ hf.fit hdn) hy hD (by (repeat constructor)) (by (repeat constructor)) (by (repeat constructor)) (by (repeat constructor)) (by (repeat constructor)) (fun y1 hy1 => ?_)
        (repeat first|(with_reducible first|apply Za|apply Zb|apply Zc|apply Zd|apply Zi|apply Zo|apply Zp|apply Zs)|((with_reducible first|apply ZJ|apply ZK);rfl;rfl)|((with_reducible apply Zqa);rfl;rfl;rfl;omega)|((with_reducible apply Zqz);rfl;rfl;(focus (repeat constructor));rfl)|((with_reducible apply ZD);rfl))
        exact SK.retQ rfl (by (repeat constructor)) (fun w' hm' => ⟨y1, by rw [he]; exact hy1, by rw [he]; rfl, by rw [he]; exact hm'.wk (by (repeat constructor))⟩)
    · have he : takeL D now R a = (12, R) := by unfold takeL; rw [hn]; simp only; rw [if_pos k1, if_neg hs]
      (repeat first|(with_reducible first|apply Za|apply Zb|apply Zc|apply Zd|apply Zi|apply Zk|apply Zm|apply Zp|apply Zr|apply Zs)|((with_reducible first|apply ZI|apply ZJ|apply ZK);rfl;rfl)|((with_reducible apply ZP);rfl;rfl)|((with_reducible apply ZX);rfl;rfl;rfl;omega)|((with_reducible apply Zqn);rfl;rfl;rfl)|((with_reducible apply Zqz);rfl;rfl;(focus (repeat constructor));rfl)|((with_reducible apply Zrc);rfl;rfl;rfl;exact List.cons_ne_nil _ _;(first|rfl|(repeat first|exact plain_nil|(refine plain_cons (by first|rfl|exact OwnD.plain_val _ _) ?_)));(focus (repeat constructor));rfl)|((with_reducible apply Zrg);rfl;intro _)|((with_reducible apply ZC);rfl)|((with_reducible apply ZD);rfl))
      exact SK.retQ rfl (by (repeat constructor)) (fun w' hm' => ⟨((oN, oS), oE, oT), by rw [he]; exact hy, by rw [he]; rfl, by rw [he]; exact hm'.wk (by (repeat constructor))⟩)
set_option maxRecDepth 100000 in
set_option maxHeartbeats 8000000 in
theorem told60 (c : Cx) (hT : c.T = 97) (R : Rn) (hDO : DefOK c.D) (hl : R.S.nodes.length = c.D.nodes.length) (a : Inp) (hf : Room c.D R 6000) : Meth 60 c [.agg a.c.toArray] R (toldL c.D c.now R a).2 (.int .i64 (toldL c.D c.now R a).1) := by
  intro b y w hy hD hm
  obtain ⟨T, D, dsl, now⟩ := c
  dsimp only at *
  subst hT
  have hdn := hf.dn
  obtain ⟨⟨oN, oS⟩, oE, oT⟩ := y
  refine enterF (M := rnM _ b R ((oN, oS), oE, oT)) Try.func60 rfl Try.ntmps60 rfl hm ?_
  (repeat first|(with_reducible first|apply Za|apply Zb|apply Zc|apply Zd|apply Zi|apply Zs)|((with_reducible first|apply ZI|apply ZJ|apply ZK);rfl;rfl)|((with_reducible apply Zqz);rfl;rfl;(focus (repeat constructor));rfl)|((with_reducible apply Zrd);rfl;rfl;rfl;rfl;rfl;rfl;rfl;intro _)|((with_reducible apply Zrf);rfl;rfl;intro _))
  refine SK.callO rfl rfl (fun w1 g1 g2 => node77 D dsl (oN.val R.S.nodes.length) _ R.S a.node [3] b w1 hdn (by decide) (g2 _ _ _ (by (repeat constructor)) 0 _ rfl) (g2 _ _ _ (by (repeat constructor)) 1 _ rfl) (g2 _ _ _ (by (repeat constructor)) 8 _ rfl) (hD.mono g1) (RSl.own oN hy.1.1 (fun b cs hb j u hu => g2 b cs _ (by rw [← hb]; (repeat constructor)) j u hu)) (ints_known (l := [3]) (fun j u hu => g2 _ _ _ (by (repeat constructor)) j u hu))) ?_
  rintro av ⟨Aa, la, ca, rfl⟩
  cases hp : pickN D R.S a.node ([3] : List Int).contains with
  | none =>
    have he : toldL D now R a = (6, R) := by
      have h := pickN_none hp
      unfold toldL
      split
      · rfl
      · rename_i n x hn
        have := h n x hn
        rw [if_neg (by simpa using this)]
    (repeat first|(with_reducible first|apply Za|apply Zb|apply Zc|apply Zd|apply Zi|apply Zk|apply Zm|apply Zp|apply Zr|apply Zs)|((with_reducible first|apply ZI|apply ZJ);rfl;rfl)|((with_reducible apply ZP);rfl;rfl)|((with_reducible apply Zqn);rfl;rfl;rfl)|((with_reducible apply Zrc);rfl;rfl;rfl;exact List.cons_ne_nil _ _;(first|rfl|(repeat first|exact plain_nil|(refine plain_cons (by first|rfl|exact OwnD.plain_val _ _) ?_)));(focus (repeat constructor));rfl)|((with_reducible apply Zrg);rfl;intro _)|((with_reducible apply ZC);rfl))
    exact SK.retQ rfl (by (repeat constructor)) (fun w' hm' => ⟨((oN, oS), oE, oT), by rw [he]; exact hy, by rw [he]; rfl, by rw [he]; exact hm'.wk (by (repeat constructor))⟩)
  | some p =>
    obtain ⟨n, x⟩ := p
    obtain ⟨hn, hk⟩ := pickN_some hp
    have k3 : n.kind = 3 := by simpa using hk
    by_cases hs : x.st = 2
    · by_cases h2 : a.status = 2
      · have he : toldL D now R a = (0, onL D now (happ D R ⟨10, n.name, a.text, 0⟩)) := by unfold toldL; rw [hn]; simp only; rw [if_pos k3, if_neg (by omega), if_pos h2]
        (repeat first|(with_reducible first|apply Za|apply Zb|apply Zc|apply Zd|apply Zi|apply Zr|apply Zs)|((with_reducible first|apply ZI|apply ZJ|apply ZK);rfl;rfl)|((with_reducible apply ZP);rfl;rfl)|((with_reducible apply ZW);rfl;rfl;rfl;omega)|((with_reducible apply Zqd);rfl;rfl;rfl;omega)|((with_reducible first|apply Zqn|apply Zqr);rfl;rfl;rfl)|((with_reducible apply Zqz);rfl;rfl;(focus (repeat constructor));rfl)|((with_reducible apply Zrc);rfl;rfl;rfl;exact List.cons_ne_nil _ _;(first|rfl|(repeat first|exact plain_nil|(refine plain_cons (by first|rfl|exact OwnD.plain_val _ _) ?_)));(focus (repeat constructor));rfl)|((with_reducible apply Zrg);rfl;intro _)|((with_reducible apply ZC);rfl)|((with_reducible apply ZD);rfl))
        refine SK.meth (vs := [.agg (Ev.c ⟨10, n.name, a.text, 0⟩).toArray]) rfl rfl (happens55 _ rfl R ⟨10, n.name, a.text, 0⟩ hf.fit hdn) hy hD (by (repeat constructor)) (by (repeat constructor)) (by (repeat constructor)) (by (repeat constructor)) (by (repeat constructor)) (fun y1 hy1 => ?_)
        have hr1 : Room D (happ D R ⟨10, n.name, a.text, 0⟩) 5999 := hf.happ _ (show (10 : Int) ≠ 13 by decide)
        (repeat first|(with_reducible first|apply Zb|apply Zc|apply Zd|apply Zi|apply Zs)|((with_reducible apply ZI);rfl;rfl))
        refine SK.meth rfl rfl (on56 _ rfl hDO _ (Room.on (hr1.mono (by omega))) (happ_len hl)) hy1 hD (by (repeat constructor)) (by (repeat constructor)) (by (repeat constructor)) (by (repeat constructor)) (by (repeat constructor)) (fun y2 hy2 => ?_)
        (repeat first|(with_reducible first|apply Za|apply Zb|apply Zc|apply Zd|apply Zi|apply Zl|apply Zp|apply Zs)|((with_reducible apply ZJ);rfl;rfl))
        exact SK.retQ rfl (by (repeat constructor)) (fun w' hm' => ⟨y2, by rw [he]; exact hy2, by rw [he]; rfl, by rw [he]; exact hm'.wk (by (repeat constructor))⟩)
      · have he : toldL D now R a = (0, cls D (happ D R ⟨6, n.name, a.text, 0⟩) 3 a.text) := by unfold toldL; rw [hn]; simp only; rw [if_pos k3, if_neg (by omega), if_neg h2]
        (repeat first|(with_reducible first|apply Za|apply Zb|apply Zc|apply Zd|apply Zi|apply Zr|apply Zs)|((with_reducible first|apply ZI|apply ZJ|apply ZK);rfl;rfl)|((with_reducible apply ZP);rfl;rfl)|((with_reducible first|apply Zqc|apply Zqd);rfl;rfl;rfl;omega)|((with_reducible apply Zqn);rfl;rfl;rfl)|((with_reducible first|apply Zqz|apply Zra);rfl;rfl;(focus (repeat constructor));rfl)|((with_reducible apply Zrc);rfl;rfl;rfl;exact List.cons_ne_nil _ _;(first|rfl|(repeat first|exact plain_nil|(refine plain_cons (by first|rfl|exact OwnD.plain_val _ _) ?_)));(focus (repeat constructor));rfl)|((with_reducible apply Zrg);rfl;intro _)|((with_reducible apply ZD);rfl))
        refine SK.meth rfl rfl (fails79 _ rfl R n _ a.text (hf.mono (by omega))) hy hD (by (repeat constructor)) (by (repeat constructor)) (by (repeat constructor)) (by (repeat constructor)) (by (repeat constructor)) (fun y2 hy2 => ?_)
        (repeat first|(with_reducible first|apply Za|apply Zb|apply Zc|apply Zd|apply Zi|apply Zl|apply Zp|apply Zs)|((with_reducible apply ZJ);rfl;rfl))
        exact SK.retQ rfl (by (repeat constructor)) (fun w' hm' => ⟨y2, by rw [he]; exact hy2, by rw [he]; rfl, by rw [he]; exact hm'.wk (by (repeat constructor))⟩)
    · have he : toldL D now R a = (12, R) := by unfold toldL; rw [hn]; simp only; rw [if_pos k3, if_pos hs]
      (repeat first|(with_reducible first|apply Za|apply Zb|apply Zc|apply Zd|apply Zi|apply Zk|apply Zm|apply Zp|apply Zr|apply Zs)|((with_reducible first|apply ZI|apply ZJ|apply ZK);rfl;rfl)|((with_reducible apply ZP);rfl;rfl)|((with_reducible apply ZX);rfl;rfl;rfl;omega)|((with_reducible apply Zqn);rfl;rfl;rfl)|((with_reducible apply Zqz);rfl;rfl;(focus (repeat constructor));rfl)|((with_reducible apply Zrc);rfl;rfl;rfl;exact List.cons_ne_nil _ _;(first|rfl|(repeat first|exact plain_nil|(refine plain_cons (by first|rfl|exact OwnD.plain_val _ _) ?_)));(focus (repeat constructor));rfl)|((with_reducible apply Zrg);rfl;intro _)|((with_reducible apply ZC);rfl)|((with_reducible apply ZD);rfl))
      exact SK.retQ rfl (by (repeat constructor)) (fun w' hm' => ⟨((oN, oS), oE, oT), by rw [he]; exact hy, by rw [he]; rfl, by rw [he]; exact hm'.wk (by (repeat constructor))⟩)
set_option maxRecDepth 100000 in
set_option maxHeartbeats 8000000 in
theorem ends59 (c : Cx) (hT : c.T = 97) (R : Rn) (hDO : DefOK c.D) (hl : R.S.nodes.length = c.D.nodes.length) (a : Inp) (hf : Room c.D R 6000) : Meth 59 c [.agg a.c.toArray] R (endsL c.D c.now R a).2 (.int .i64 (endsL c.D c.now R a).1) := by
  intro b y w hy hD hm
  obtain ⟨T, D, dsl, now⟩ := c
  dsimp only at *
  subst hT
  have hdn := hf.dn
  obtain ⟨⟨oN, oS⟩, oE, oT⟩ := y
  refine enterF (M := rnM _ b R ((oN, oS), oE, oT)) Try.func59 rfl Try.ntmps59 rfl hm ?_
  by_cases k6 : a.kind = 6
  · (repeat first|(with_reducible first|apply Za|apply Zb|apply Zc|apply Zd|apply Zi|apply Zs)|((with_reducible first|apply ZI|apply ZJ|apply ZK);rfl;rfl)|((with_reducible apply ZW);rfl;rfl;rfl;omega)|((with_reducible apply Zqz);rfl;rfl;(focus (repeat constructor));rfl)|((with_reducible apply Zrd);rfl;rfl;rfl;rfl;rfl;rfl;rfl;intro _)|((with_reducible apply Zrf);rfl;rfl;intro _)|((with_reducible apply ZC);rfl))
    rename_i bk bk2
    refine SK.appendP (o := some (bk, 1, [])) (xs := [.int .i64 1]) (nn := 1) (news := [.int .i64 2]) (m := 1) rfl rfl (by simp [OwnD.ok, maxLen]) rfl (by (repeat constructor)) (Src.mem (by (repeat constructor)) rfl) rfl rfl rfl rfl (by unfold maxLen; omega) (by omega) (fun o1 ho1 _ => ?_)
    (repeat first|(with_reducible first|apply Za|apply Zb|apply Zc|apply Zd|apply Zi|apply Zs)|((with_reducible first|apply ZI|apply ZJ|apply ZK);rfl;rfl)|((with_reducible apply Zqz);rfl;rfl;(focus (repeat constructor));rfl))
    refine SK.callO rfl rfl (fun w1 g1 g2 => node77 D dsl (oN.val R.S.nodes.length) _ R.S a.node [1, 2] b w1 hdn (by decide) (g2 _ _ _ (by (repeat constructor)) 0 _ rfl) (g2 _ _ _ (by (repeat constructor)) 1 _ rfl) (g2 _ _ _ (by (repeat constructor)) 8 _ rfl) (hD.mono g1) (RSl.own oN hy.1.1 (fun b cs hb j u hu => g2 b cs _ (by rw [← hb]; (repeat constructor)) j u hu)) (RSl.own o1 ho1 (fun b cs hb j u hu => g2 b cs _ (by rw [← hb]; (repeat constructor)) j u hu))) ?_
    rintro av ⟨Aa, la, ca, rfl⟩
    cases hp : pickN D R.S a.node ([1, 2] : List Int).contains with
    | none =>
      have he : endsL D now R a = (6, R) := by
        have h := pickN_none hp
        unfold endsL
        split
        · rfl
        · rename_i n x hn
          have := h n x hn
          rw [if_neg]
          simp at this
          omega
      (repeat first|(with_reducible first|apply Za|apply Zb|apply Zc|apply Zd|apply Zi|apply Zk|apply Zm|apply Zp|apply Zr|apply Zs)|((with_reducible first|apply ZI|apply ZJ);rfl;rfl)|((with_reducible apply ZP);rfl;rfl)|((with_reducible apply Zqn);rfl;rfl;rfl)|((with_reducible apply Zrc);rfl;rfl;rfl;exact List.cons_ne_nil _ _;(first|rfl|(repeat first|exact plain_nil|(refine plain_cons (by first|rfl|exact OwnD.plain_val _ _) ?_)));(focus (repeat constructor));rfl)|((with_reducible apply Zrg);rfl;intro _)|((with_reducible apply ZC);rfl))
      exact SK.retQ rfl (by (repeat constructor)) (fun w' hm' => ⟨((oN, oS), oE, oT), by rw [he]; exact hy, by rw [he]; rfl, by rw [he]; exact hm'.wk (by (repeat constructor))⟩)
    | some p =>
      obtain ⟨n, x⟩ := p
      obtain ⟨hn, hk⟩ := pickN_some hp
      have hk : n.kind = 1 ∨ n.kind = 2 := by simpa using hk
      by_cases hs : x.st = 2
      · rcases hk with k1 | k2
        · by_cases htry : x.try_ = a.try_
          · by_cases htr : x.try_ < n.tries
            · have he : endsL D now R a = (0, tsk (happ D R ⟨5, n.name, timeoutT, x.try_⟩) ⟨1, e0, n.name, IntKind.i64.wrap (x.try_ + 1), 0, ml0⟩) := by unfold endsL; rw [hn]; simp only; rw [if_pos (.inl k1), if_neg (by omega), if_neg (by omega), if_neg (by omega), if_neg (by omega), if_pos k6]; unfold failL; rw [if_pos htr]
              (repeat first|(with_reducible first|apply Za|apply Zb|apply Zc|apply Zd|apply Zi|apply Zl|apply Zo|apply Zr|apply Zs)|((with_reducible first|apply ZI|apply ZJ|apply ZK|apply ZO);rfl;rfl)|((with_reducible apply ZP);rfl;rfl)|((with_reducible first|apply ZS|apply ZW);rfl;rfl;rfl;omega)|((with_reducible first|apply Zqc|apply Zqd);rfl;rfl;rfl;omega)|((with_reducible first|apply Zqn|apply Zqo|apply Zqr);rfl;rfl;rfl)|((with_reducible apply Zqs);rfl;rfl;rfl)|((with_reducible apply Zqx);rfl;rfl;rfl;rfl)|((with_reducible apply Zqz);rfl;rfl;(focus (repeat constructor));rfl)|((with_reducible apply Zrc);rfl;rfl;rfl;exact List.cons_ne_nil _ _;(first|rfl|(repeat first|exact plain_nil|(refine plain_cons (by first|rfl|exact OwnD.plain_val _ _) ?_)));(focus (repeat constructor));rfl)|((with_reducible apply Zrg);rfl;intro _)|((with_reducible apply ZC);rfl)|((with_reducible apply ZD);rfl))
              refine SK.meth (vs := [.agg (Ev.c ⟨5, n.name, timeoutT, x.try_⟩).toArray]) rfl rfl (happens55 _ rfl R ⟨5, n.name, timeoutT, x.try_⟩ hf.fit hdn) hy hD (by (repeat constructor)) (by (repeat constructor)) (by (repeat constructor)) (by (repeat constructor)) (by (repeat constructor)) (fun y1 hy1 => ?_)
              have hr1 : Room D (happ D R ⟨5, n.name, timeoutT, x.try_⟩) 5999 := hf.happ _ (show (5 : Int) ≠ 13 by decide)
              (repeat first|(with_reducible first|apply Za|apply Zb|apply Zc|apply Zd|apply Zi|apply Zs)|((with_reducible first|apply ZI|apply ZK);rfl;rfl)|((with_reducible apply Zqz);rfl;rfl;(focus (repeat constructor));rfl))
              refine SK.iadd rfl rfl rfl ?_
              (repeat first|(with_reducible apply Zc)|((with_reducible apply Zqr);rfl;rfl;rfl))
              refine SK.meth (vs := [.agg (Tk.c ⟨1, e0, n.name, IntKind.i64.wrap (x.try_ + 1), 0, ml0⟩).toArray]) rfl rfl (task78 _ rfl _ ⟨1, e0, n.name, IntKind.i64.wrap (x.try_ + 1), 0, ml0⟩ hr1.fit) hy1 hD (by (repeat constructor)) (by (repeat constructor)) (by (repeat constructor)) (by (repeat constructor)) (by (repeat constructor)) (fun y2 hy2 => ?_)
              (repeat first|(with_reducible first|apply Za|apply Zb|apply Zc|apply Zd|apply Zi|apply Zk|apply Zp|apply Zs)|((with_reducible apply ZJ);rfl;rfl))
              exact SK.retQ rfl (by (repeat constructor)) (fun w' hm' => ⟨y2, by rw [he]; exact hy2, by rw [he]; rfl, by rw [he]; exact hm'.wk (by (repeat constructor))⟩)
            · have he : endsL D now R a = (0, cls D (happ D R ⟨6, n.name, timeoutT, 0⟩) 3 timeoutT) := by unfold endsL; rw [hn]; simp only; rw [if_pos (.inl k1), if_neg (by omega), if_neg (by omega), if_neg (by omega), if_neg (by omega), if_pos k6]; unfold failL; rw [if_neg htr]
              (repeat first|(with_reducible first|apply Za|apply Zb|apply Zc|apply Zd|apply Zi|apply Zl|apply Zo|apply Zr|apply Zs)|((with_reducible first|apply ZI|apply ZJ|apply ZK|apply ZO);rfl;rfl)|((with_reducible apply ZP);rfl;rfl)|((with_reducible apply ZW);rfl;rfl;rfl;omega)|((with_reducible first|apply ZY|apply Zqc|apply Zqd);rfl;rfl;rfl;omega)|((with_reducible first|apply Zqn|apply Zqo);rfl;rfl;rfl)|((with_reducible apply Zqs);rfl;rfl;rfl)|((with_reducible apply Zqx);rfl;rfl;rfl;rfl)|((with_reducible first|apply Zqz|apply Zra);rfl;rfl;(focus (repeat constructor));rfl)|((with_reducible apply Zrc);rfl;rfl;rfl;exact List.cons_ne_nil _ _;(first|rfl|(repeat first|exact plain_nil|(refine plain_cons (by first|rfl|exact OwnD.plain_val _ _) ?_)));(focus (repeat constructor));rfl)|((with_reducible apply Zrg);rfl;intro _)|((with_reducible apply ZC);rfl)|((with_reducible apply ZD);rfl))
              refine SK.meth rfl rfl (fails79 _ rfl R n _ timeoutT (hf.mono (by omega))) hy hD (by (repeat constructor)) (by (repeat constructor)) (by (repeat constructor)) (by (repeat constructor)) (by (repeat constructor)) (fun y2 hy2 => ?_)
              (repeat first|(with_reducible first|apply Za|apply Zb|apply Zc|apply Zd|apply Zi|apply Zp|apply Zs)|((with_reducible apply ZJ);rfl;rfl))
              exact SK.retQ rfl (by (repeat constructor)) (fun w' hm' => ⟨y2, by rw [he]; exact hy2, by rw [he]; rfl, by rw [he]; exact hm'.wk (by (repeat constructor))⟩)
          · have he : endsL D now R a = (12, R) := by unfold endsL; rw [hn]; simp only; rw [if_pos (.inl k1), if_pos (.inr ⟨k1, htry⟩)]
            (repeat first|(with_reducible first|apply Za|apply Zb|apply Zc|apply Zd|apply Zi|apply Zk|apply Zm|apply Zp|apply Zr|apply Zs)|((with_reducible first|apply ZI|apply ZJ|apply ZK|apply ZO);rfl;rfl)|((with_reducible apply ZP);rfl;rfl)|((with_reducible first|apply ZW|apply ZX);rfl;rfl;rfl;omega)|((with_reducible apply Zqd);rfl;rfl;rfl;omega)|((with_reducible first|apply Zqn|apply Zqo);rfl;rfl;rfl)|((with_reducible apply Zqs);rfl;rfl;rfl)|((with_reducible apply Zqz);rfl;rfl;(focus (repeat constructor));rfl)|((with_reducible apply Zrc);rfl;rfl;rfl;exact List.cons_ne_nil _ _;(first|rfl|(repeat first|exact plain_nil|(refine plain_cons (by first|rfl|exact OwnD.plain_val _ _) ?_)));(focus (repeat constructor));rfl)|((with_reducible apply Zrg);rfl;intro _)|((with_reducible apply ZC);rfl)|((with_reducible apply ZD);rfl))
            exact SK.retQ rfl (by (repeat constructor)) (fun w' hm' => ⟨((oN, oS), oE, oT), by rw [he]; exact hy, by rw [he]; rfl, by rw [he]; exact hm'.wk (by (repeat constructor))⟩)
        · have he : endsL D now R a = (0, onL D now (happ D R ⟨8, n.name, e0, 0⟩)) := by unfold endsL; rw [hn]; simp only; rw [if_pos (.inr ⟨k6, k2⟩), if_neg (by omega), if_neg (by omega), if_pos k2]
          (repeat first|(with_reducible first|apply Za|apply Zb|apply Zc|apply Zd|apply Zi|apply Zl|apply Zo|apply Zr|apply Zs)|((with_reducible first|apply ZI|apply ZJ|apply ZK|apply ZO);rfl;rfl)|((with_reducible apply ZP);rfl;rfl)|((with_reducible apply ZW);rfl;rfl;rfl;omega)|((with_reducible first|apply Zqc|apply Zqd);rfl;rfl;rfl;omega)|((with_reducible first|apply Zqn|apply Zqr);rfl;rfl;rfl)|((with_reducible apply Zqs);rfl;rfl;rfl)|((with_reducible apply Zqx);rfl;rfl;rfl;rfl)|((with_reducible apply Zqz);rfl;rfl;(focus (repeat constructor));rfl)|((with_reducible apply Zrc);rfl;rfl;rfl;exact List.cons_ne_nil _ _;(first|rfl|(repeat first|exact plain_nil|(refine plain_cons (by first|rfl|exact OwnD.plain_val _ _) ?_)));(focus (repeat constructor));rfl)|((with_reducible apply Zrg);rfl;intro _)|((with_reducible apply ZC);rfl)|((with_reducible apply ZD);rfl))
          refine SK.meth (vs := [.agg (Ev.c ⟨8, n.name, e0, 0⟩).toArray]) rfl rfl (happens55 _ rfl R ⟨8, n.name, e0, 0⟩ hf.fit hdn) hy hD (by (repeat constructor)) (by (repeat constructor)) (by (repeat constructor)) (by (repeat constructor)) (by (repeat constructor)) (fun y1 hy1 => ?_)
          have hr1 : Room D (happ D R ⟨8, n.name, e0, 0⟩) 5999 := hf.happ _ (show (8 : Int) ≠ 13 by decide)
          (repeat first|(with_reducible first|apply Za|apply Zb|apply Zc|apply Zd|apply Zi|apply Zs)|((with_reducible apply ZI);rfl;rfl))
          refine SK.meth rfl rfl (on56 _ rfl hDO _ (Room.on (hr1.mono (by omega))) (happ_len hl)) hy1 hD (by (repeat constructor)) (by (repeat constructor)) (by (repeat constructor)) (by (repeat constructor)) (by (repeat constructor)) (fun y2 hy2 => ?_)
          (repeat first|(with_reducible first|apply Za|apply Zb|apply Zc|apply Zd|apply Zi|apply Zk|apply Zm|apply Zp|apply Zs)|((with_reducible apply ZJ);rfl;rfl))
          exact SK.retQ rfl (by (repeat constructor)) (fun w' hm' => ⟨y2, by rw [he]; exact hy2, by rw [he]; rfl, by rw [he]; exact hm'.wk (by (repeat constructor))⟩)
      · have he : endsL D now R a = (12, R) := by unfold endsL; rw [hn]; simp only; rw [if_pos (by omega), if_pos (.inl hs)]
        (repeat first|(with_reducible first|apply Za|apply Zb|apply Zc|apply Zd|apply Zi|apply Zk|apply Zm|apply Zp|apply Zr|apply Zs)|((with_reducible first|apply ZI|apply ZJ|apply ZK);rfl;rfl)|((with_reducible apply ZP);rfl;rfl)|((with_reducible apply ZX);rfl;rfl;rfl;omega)|((with_reducible first|apply Zqn|apply Zqo);rfl;rfl;rfl)|((with_reducible apply Zqx);rfl;rfl;rfl;rfl)|((with_reducible apply Zqy);rfl;rfl;rfl)|((with_reducible apply Zqz);rfl;rfl;(focus (repeat constructor));rfl)|((with_reducible apply Zrc);rfl;rfl;rfl;exact List.cons_ne_nil _ _;(first|rfl|(repeat first|exact plain_nil|(refine plain_cons (by first|rfl|exact OwnD.plain_val _ _) ?_)));(focus (repeat constructor));rfl)|((with_reducible apply Zrg);rfl;intro _)|((with_reducible apply ZC);rfl)|((with_reducible apply ZD);rfl))
        exact SK.retQ rfl (by (repeat constructor)) (fun w' hm' => ⟨((oN, oS), oE, oT), by rw [he]; exact hy, by rw [he]; rfl, by rw [he]; exact hm'.wk (by (repeat constructor))⟩)
  · (repeat first|(with_reducible first|apply Za|apply Zb|apply Zc|apply Zd|apply Zi|apply Zo|apply Zs)|((with_reducible first|apply ZI|apply ZJ|apply ZK);rfl;rfl)|((with_reducible apply Zqc);rfl;rfl;rfl;omega)|((with_reducible apply Zqz);rfl;rfl;(focus (repeat constructor));rfl)|((with_reducible apply Zrd);rfl;rfl;rfl;rfl;rfl;rfl;rfl;intro _)|((with_reducible apply Zrf);rfl;rfl;intro _)|((with_reducible apply ZD);rfl))
    refine SK.callO rfl rfl (fun w1 g1 g2 => node77 D dsl (oN.val R.S.nodes.length) _ R.S a.node [1] b w1 hdn (by decide) (g2 _ _ _ (by (repeat constructor)) 0 _ rfl) (g2 _ _ _ (by (repeat constructor)) 1 _ rfl) (g2 _ _ _ (by (repeat constructor)) 8 _ rfl) (hD.mono g1) (RSl.own oN hy.1.1 (fun b cs hb j u hu => g2 b cs _ (by rw [← hb]; (repeat constructor)) j u hu)) (ints_known (l := [1]) (fun j u hu => g2 _ _ _ (by (repeat constructor)) j u hu))) ?_
    rintro av ⟨Aa, la, ca, rfl⟩
    cases hp : pickN D R.S a.node ([1] : List Int).contains with
    | none =>
      have he : endsL D now R a = (6, R) := by
        have h := pickN_none hp
        unfold endsL
        split
        · rfl
        · rename_i n x hn
          have := h n x hn
          rw [if_neg]
          simp at this
          omega
      (repeat first|(with_reducible first|apply Za|apply Zb|apply Zc|apply Zd|apply Zi|apply Zk|apply Zm|apply Zp|apply Zr|apply Zs)|((with_reducible first|apply ZI|apply ZJ);rfl;rfl)|((with_reducible apply ZP);rfl;rfl)|((with_reducible apply Zqn);rfl;rfl;rfl)|((with_reducible apply Zrc);rfl;rfl;rfl;exact List.cons_ne_nil _ _;(first|rfl|(repeat first|exact plain_nil|(refine plain_cons (by first|rfl|exact OwnD.plain_val _ _) ?_)));(focus (repeat constructor));rfl)|((with_reducible apply Zrg);rfl;intro _)|((with_reducible apply ZC);rfl))
      exact SK.retQ rfl (by (repeat constructor)) (fun w' hm' => ⟨((oN, oS), oE, oT), by rw [he]; exact hy, by rw [he]; rfl, by rw [he]; exact hm'.wk (by (repeat constructor))⟩)
    | some p =>
      obtain ⟨n, x⟩ := p
      obtain ⟨hn, hk⟩ := pickN_some hp
      have k1 : n.kind = 1 := by simpa using hk
      by_cases hs : x.st = 2
      · by_cases htry : x.try_ = a.try_
        · by_cases hsz : 256 < a.text.size
          · have he : endsL D now R a = (9, R) := by unfold endsL; rw [hn]; simp only; rw [if_pos (.inl k1), if_neg (by omega), if_pos ⟨k6, hsz⟩]
            (repeat first|(with_reducible first|apply Za|apply Zb|apply Zc|apply Zd|apply Zi|apply Zk|apply Zm|apply Zp|apply Zr|apply Zs)|((with_reducible first|apply ZI|apply ZJ|apply ZK|apply ZO);rfl;rfl)|((with_reducible first|apply ZP|apply ZQ);rfl;rfl)|((with_reducible first|apply ZU|apply ZW|apply ZX);rfl;rfl;rfl;omega)|((with_reducible apply Zqd);rfl;rfl;rfl;omega)|((with_reducible first|apply Zqn|apply Zqo);rfl;rfl;rfl)|((with_reducible apply Zqs);rfl;rfl;rfl)|((with_reducible apply Zqz);rfl;rfl;(focus (repeat constructor));rfl)|((with_reducible apply Zrc);rfl;rfl;rfl;exact List.cons_ne_nil _ _;(first|rfl|(repeat first|exact plain_nil|(refine plain_cons (by first|rfl|exact OwnD.plain_val _ _) ?_)));(focus (repeat constructor));rfl)|((with_reducible apply Zrg);rfl;intro _)|((with_reducible apply ZC);rfl)|((with_reducible apply ZD);rfl))
            exact SK.retQ rfl (by (repeat constructor)) (fun w' hm' => ⟨((oN, oS), oE, oT), by rw [he]; exact hy, by rw [he]; rfl, by rw [he]; exact hm'.wk (by (repeat constructor))⟩)
          · by_cases k4 : a.kind = 4
            · have he : endsL D now R a = (0, onL D now (happ D R ⟨4, n.name, a.text, 0⟩)) := by unfold endsL; rw [hn]; simp only; rw [if_pos (.inl k1), if_neg (by omega), if_neg (by omega), if_neg (by omega), if_pos k4]
              (repeat first|(with_reducible first|apply Za|apply Zb|apply Zc|apply Zd|apply Zi|apply Zl|apply Zo|apply Zr|apply Zs)|((with_reducible first|apply ZI|apply ZJ|apply ZK|apply ZO);rfl;rfl)|((with_reducible first|apply ZP|apply ZQ);rfl;rfl)|((with_reducible first|apply ZW|apply ZX);rfl;rfl;rfl;omega)|((with_reducible first|apply Zqa|apply Zqc|apply Zqd);rfl;rfl;rfl;omega)|((with_reducible first|apply Zqn|apply Zqo|apply Zqr);rfl;rfl;rfl)|((with_reducible apply Zqs);rfl;rfl;rfl)|((with_reducible apply Zqz);rfl;rfl;(focus (repeat constructor));rfl)|((with_reducible apply Zrc);rfl;rfl;rfl;exact List.cons_ne_nil _ _;(first|rfl|(repeat first|exact plain_nil|(refine plain_cons (by first|rfl|exact OwnD.plain_val _ _) ?_)));(focus (repeat constructor));rfl)|((with_reducible apply Zrg);rfl;intro _)|((with_reducible apply ZC);rfl)|((with_reducible apply ZD);rfl))
              refine SK.meth (vs := [.agg (Ev.c ⟨4, n.name, a.text, 0⟩).toArray]) rfl rfl (happens55 _ rfl R ⟨4, n.name, a.text, 0⟩ hf.fit hdn) hy hD (by (repeat constructor)) (by (repeat constructor)) (by (repeat constructor)) (by (repeat constructor)) (by (repeat constructor)) (fun y1 hy1 => ?_)
              have hr1 : Room D (happ D R ⟨4, n.name, a.text, 0⟩) 5999 := hf.happ _ (show (4 : Int) ≠ 13 by decide)
              (repeat first|(with_reducible first|apply Za|apply Zb|apply Zc|apply Zd|apply Zi|apply Zs)|((with_reducible apply ZI);rfl;rfl))
              refine SK.meth rfl rfl (on56 _ rfl hDO _ (Room.on (hr1.mono (by omega))) (happ_len hl)) hy1 hD (by (repeat constructor)) (by (repeat constructor)) (by (repeat constructor)) (by (repeat constructor)) (by (repeat constructor)) (fun y2 hy2 => ?_)
              (repeat first|(with_reducible first|apply Za|apply Zb|apply Zc|apply Zd|apply Zi|apply Zk|apply Zm|apply Zp|apply Zs)|((with_reducible apply ZJ);rfl;rfl))
              exact SK.retQ rfl (by (repeat constructor)) (fun w' hm' => ⟨y2, by rw [he]; exact hy2, by rw [he]; rfl, by rw [he]; exact hm'.wk (by (repeat constructor))⟩)
            · by_cases htr : x.try_ < n.tries
              · have he : endsL D now R a = (0, tsk (happ D R ⟨5, n.name, a.text, x.try_⟩) ⟨1, e0, n.name, IntKind.i64.wrap (x.try_ + 1), 0, ml0⟩) := by unfold endsL; rw [hn]; simp only; rw [if_pos (.inl k1), if_neg (by omega), if_neg (by omega), if_neg (by omega), if_neg k4, if_neg k6]; unfold failL; rw [if_pos htr]
                (repeat first|(with_reducible first|apply Za|apply Zb|apply Zc|apply Zd|apply Zi|apply Zl|apply Zo|apply Zr|apply Zs)|((with_reducible first|apply ZI|apply ZJ|apply ZK|apply ZO);rfl;rfl)|((with_reducible first|apply ZP|apply ZQ);rfl;rfl)|((with_reducible first|apply ZS|apply ZW|apply ZX);rfl;rfl;rfl;omega)|((with_reducible first|apply Zqa|apply Zqc|apply Zqd);rfl;rfl;rfl;omega)|((with_reducible first|apply Zqn|apply Zqo|apply Zqr);rfl;rfl;rfl)|((with_reducible apply Zqs);rfl;rfl;rfl)|((with_reducible apply Zqz);rfl;rfl;(focus (repeat constructor));rfl)|((with_reducible apply Zrc);rfl;rfl;rfl;exact List.cons_ne_nil _ _;(first|rfl|(repeat first|exact plain_nil|(refine plain_cons (by first|rfl|exact OwnD.plain_val _ _) ?_)));(focus (repeat constructor));rfl)|((with_reducible apply Zrg);rfl;intro _)|((with_reducible apply ZC);rfl)|((with_reducible apply ZD);rfl))
                refine SK.meth (vs := [.agg (Ev.c ⟨5, n.name, a.text, x.try_⟩).toArray]) rfl rfl (happens55 _ rfl R ⟨5, n.name, a.text, x.try_⟩ hf.fit hdn) hy hD (by (repeat constructor)) (by (repeat constructor)) (by (repeat constructor)) (by (repeat constructor)) (by (repeat constructor)) (fun y1 hy1 => ?_)
                have hr1 : Room D (happ D R ⟨5, n.name, a.text, x.try_⟩) 5999 := hf.happ _ (show (5 : Int) ≠ 13 by decide)
                (repeat first|(with_reducible first|apply Za|apply Zb|apply Zc|apply Zd|apply Zi|apply Zs)|((with_reducible first|apply ZI|apply ZK);rfl;rfl)|((with_reducible apply Zqz);rfl;rfl;(focus (repeat constructor));rfl))
                refine SK.iadd rfl rfl rfl ?_
                (repeat first|(with_reducible apply Zc)|((with_reducible apply Zqr);rfl;rfl;rfl))
                refine SK.meth (vs := [.agg (Tk.c ⟨1, e0, n.name, IntKind.i64.wrap (x.try_ + 1), 0, ml0⟩).toArray]) rfl rfl (task78 _ rfl _ ⟨1, e0, n.name, IntKind.i64.wrap (x.try_ + 1), 0, ml0⟩ hr1.fit) hy1 hD (by (repeat constructor)) (by (repeat constructor)) (by (repeat constructor)) (by (repeat constructor)) (by (repeat constructor)) (fun y2 hy2 => ?_)
                (repeat first|(with_reducible first|apply Za|apply Zb|apply Zc|apply Zd|apply Zi|apply Zk|apply Zp|apply Zs)|((with_reducible apply ZJ);rfl;rfl))
                exact SK.retQ rfl (by (repeat constructor)) (fun w' hm' => ⟨y2, by rw [he]; exact hy2, by rw [he]; rfl, by rw [he]; exact hm'.wk (by (repeat constructor))⟩)
              · have he : endsL D now R a = (0, cls D (happ D R ⟨6, n.name, a.text, 0⟩) 3 a.text) := by unfold endsL; rw [hn]; simp only; rw [if_pos (.inl k1), if_neg (by omega), if_neg (by omega), if_neg (by omega), if_neg k4, if_neg k6]; unfold failL; rw [if_neg htr]
                (repeat first|(with_reducible first|apply Za|apply Zb|apply Zc|apply Zd|apply Zi|apply Zl|apply Zo|apply Zr|apply Zs)|((with_reducible first|apply ZI|apply ZJ|apply ZK|apply ZO);rfl;rfl)|((with_reducible first|apply ZP|apply ZQ);rfl;rfl)|((with_reducible first|apply ZW|apply ZX);rfl;rfl;rfl;omega)|((with_reducible first|apply ZY|apply Zqa|apply Zqc|apply Zqd);rfl;rfl;rfl;omega)|((with_reducible first|apply Zqn|apply Zqo);rfl;rfl;rfl)|((with_reducible apply Zqs);rfl;rfl;rfl)|((with_reducible first|apply Zqz|apply Zra);rfl;rfl;(focus (repeat constructor));rfl)|((with_reducible apply Zrc);rfl;rfl;rfl;exact List.cons_ne_nil _ _;(first|rfl|(repeat first|exact plain_nil|(refine plain_cons (by first|rfl|exact OwnD.plain_val _ _) ?_)));(focus (repeat constructor));rfl)|((with_reducible apply Zrg);rfl;intro _)|((with_reducible apply ZD);rfl))
                refine SK.meth rfl rfl (fails79 _ rfl R n _ a.text (hf.mono (by omega))) hy hD (by (repeat constructor)) (by (repeat constructor)) (by (repeat constructor)) (by (repeat constructor)) (by (repeat constructor)) (fun y2 hy2 => ?_)
                (repeat first|(with_reducible first|apply Za|apply Zb|apply Zc|apply Zd|apply Zi|apply Zp|apply Zs)|((with_reducible apply ZJ);rfl;rfl))
                exact SK.retQ rfl (by (repeat constructor)) (fun w' hm' => ⟨y2, by rw [he]; exact hy2, by rw [he]; rfl, by rw [he]; exact hm'.wk (by (repeat constructor))⟩)
        · have he : endsL D now R a = (12, R) := by unfold endsL; rw [hn]; simp only; rw [if_pos (.inl k1), if_pos (.inr ⟨k1, htry⟩)]
          (repeat first|(with_reducible first|apply Za|apply Zb|apply Zc|apply Zd|apply Zi|apply Zk|apply Zm|apply Zp|apply Zr|apply Zs)|((with_reducible first|apply ZI|apply ZJ|apply ZK|apply ZO);rfl;rfl)|((with_reducible apply ZP);rfl;rfl)|((with_reducible first|apply ZW|apply ZX);rfl;rfl;rfl;omega)|((with_reducible apply Zqd);rfl;rfl;rfl;omega)|((with_reducible first|apply Zqn|apply Zqo);rfl;rfl;rfl)|((with_reducible apply Zqs);rfl;rfl;rfl)|((with_reducible apply Zqz);rfl;rfl;(focus (repeat constructor));rfl)|((with_reducible apply Zrc);rfl;rfl;rfl;exact List.cons_ne_nil _ _;(first|rfl|(repeat first|exact plain_nil|(refine plain_cons (by first|rfl|exact OwnD.plain_val _ _) ?_)));(focus (repeat constructor));rfl)|((with_reducible apply Zrg);rfl;intro _)|((with_reducible apply ZC);rfl)|((with_reducible apply ZD);rfl))
          exact SK.retQ rfl (by (repeat constructor)) (fun w' hm' => ⟨((oN, oS), oE, oT), by rw [he]; exact hy, by rw [he]; rfl, by rw [he]; exact hm'.wk (by (repeat constructor))⟩)
      · have he : endsL D now R a = (12, R) := by unfold endsL; rw [hn]; simp only; rw [if_pos (.inl k1), if_pos (.inl hs)]
        (repeat first|(with_reducible first|apply Za|apply Zb|apply Zc|apply Zd|apply Zi|apply Zk|apply Zm|apply Zp|apply Zr|apply Zs)|((with_reducible first|apply ZI|apply ZJ|apply ZK);rfl;rfl)|((with_reducible apply ZP);rfl;rfl)|((with_reducible apply ZX);rfl;rfl;rfl;omega)|((with_reducible first|apply Zqn|apply Zqo);rfl;rfl;rfl)|((with_reducible apply Zqx);rfl;rfl;rfl;rfl)|((with_reducible apply Zqy);rfl;rfl;rfl)|((with_reducible apply Zqz);rfl;rfl;(focus (repeat constructor));rfl)|((with_reducible apply Zrc);rfl;rfl;rfl;exact List.cons_ne_nil _ _;(first|rfl|(repeat first|exact plain_nil|(refine plain_cons (by first|rfl|exact OwnD.plain_val _ _) ?_)));(focus (repeat constructor));rfl)|((with_reducible apply Zrg);rfl;intro _)|((with_reducible apply ZC);rfl)|((with_reducible apply ZD);rfl))
        exact SK.retQ rfl (by (repeat constructor)) (fun w' hm' => ⟨((oN, oS), oE, oT), by rw [he]; exact hy, by rw [he]; rfl, by rw [he]; exact hm'.wk (by (repeat constructor))⟩)
end Go.Proofs.Ytdnjfmgldkommaa
