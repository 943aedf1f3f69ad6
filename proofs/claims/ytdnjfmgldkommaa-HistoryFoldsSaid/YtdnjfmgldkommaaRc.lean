/- Proved here: a run goes on, the program. -/
import Derived.Test.YtdnjfmgldkommaaRa
import Derived.Test.YtdnjfmgldkommaaRb
import Derived.Test.YtdnjfmgldkommaaWc
namespace Go.Proofs.Ytdnjfmgldkommaa
open Go.Sx
structure DefOK (D : Df) : Prop where
  ne : 1 ≤ D.nodes.length
  le : D.nodes.length ≤ 32
  kd : ∀ n ∈ D.nodes, 1 ≤ n.kind ∧ n.kind ≤ 5
  ds : ∀ i n, D.nodes[i]? = some n → fI D.nodes n.name = some i
  nm : ∀ n ∈ D.nodes, n.name.size ≤ 64
  af : ∀ n ∈ D.nodes, n.after.length < 9223372036854775807
theorem applyL_node {D : Df} {S : Sta} {e : Ev} {i : Nat} {n : Nd} {x y : Ns} {b : Bool} (hs : S.status = 1) (h1 : e.kind ≠ 1) (h13 : e.kind ≠ 13) (h15 : e.kind ≠ 15) (hf : fI D.nodes e.node = some i) (hn : D.nodes[i]? = some n) (hx : S.nodes[i]? = some x)
    (hm : moveL n.kind x e (kI S.sigs n.arg) = some (y, b)) :
    applyL D S e = some { S with nodes := S.nodes.set i y, sigs := mvG S.sigs (kI S.sigs n.arg) (some (y, b)), events := IntKind.i64.wrap (S.events + 1) } := by
  unfold applyL applyQ
  rw [if_neg h1, if_pos hs, if_neg h13, if_neg h15, hf]
  simp only [hn, hx, hm, mvN, Option.map_some]
theorem happ_node {D : Df} {R : Rn} {e : Ev} {i : Nat} {n : Nd} {x y : Ns} {b : Bool} (hs : R.S.status = 1) (h1 : e.kind ≠ 1) (h13 : e.kind ≠ 13) (h15 : e.kind ≠ 15) (hf : fI D.nodes e.node = some i) (hn : D.nodes[i]? = some n) (hx : R.S.nodes[i]? = some x)
    (hm : moveL n.kind x e (kI R.S.sigs n.arg) = some (y, b)) :
    (happ D R e).S = { R.S with nodes := R.S.nodes.set i y, sigs := mvG R.S.sigs (kI R.S.sigs n.arg) (some (y, b)), events := IntKind.i64.wrap (R.S.events + 1) } := by
  unfold happ
  rw [applyL_node hs h1 h13 h15 hf hn hx hm]
  rfl
theorem cls_nodes (D : Df) (R : Rn) (status : Int) (text : ByteArray) : (cls D R status text).S = (happ D R ⟨15, e0, text, status⟩).S := by
  unfold cls par
  split
  · rw [clm_S]
  · show (clm D text _ _).S = _
    rw [clm_S]
theorem happ15_nodes (D : Df) (R : Rn) (status : Int) (text : ByteArray) : (happ D R ⟨15, e0, text, status⟩).S.nodes = R.S.nodes := by
  simp only [happ, applyL, applyQ]
  rw [if_neg (by decide)]
  split
  · rw [if_neg (by decide), if_pos trivial]
    split <;> rfl
  · rfl
theorem cls_S_nodes (D : Df) (R : Rn) (status : Int) (text : ByteArray) : (cls D R status text).S.nodes = R.S.nodes := by rw [cls_nodes, happ15_nodes]
theorem bgn_nodes {D : Df} {now : Int} {R : Rn} {i : Nat} {n : Nd} {x : Ns} (hs : R.S.status = 1) (hf : fI D.nodes n.name = some i) (hn : D.nodes[i]? = some n) (hx : R.S.nodes[i]? = some x) (h0 : x.st = 0) (hk1 : 1 ≤ n.kind) (hk5 : n.kind ≤ 5) :
    ∃ y : Ns, y.st ≠ 0 ∧ (bgn D now R n).S.nodes = R.S.nodes.set i y := by
  unfold bgn
  split
  · rename_i k
    refine ⟨{ x with st := 1 }, by simp, ?_⟩
    show (happ D R _).S.nodes = _
    rw [happ_node (y := { x with st := 1 }) (b := false) hs (by simp) (by simp) (by simp) hf hn hx (by simp [moveL, isL, k, h0])]
  · split
    · rename_i k
      refine ⟨{ x with st := 2 }, by simp, ?_⟩
      show (happ D R _).S.nodes = _
      rw [happ_node (y := { x with st := 2 }) (b := false) hs (by simp) (by simp) (by simp) hf hn hx (by simp [moveL, isL, k, h0])]
    · split
      · rename_i k
        split
        · refine ⟨{ x with st := 4, text := longT }, by simp, ?_⟩
          rw [cls_S_nodes, happ_node (y := { x with st := 4, text := longT }) (b := false) hs (by simp) (by simp) (by simp) hf hn hx (by simp [moveL, isL, k, h0])]
        · refine ⟨{ x with st := 2 }, by simp, ?_⟩
          show (happ D R _).S.nodes = _
          rw [happ_node (y := { x with st := 2 }) (b := false) hs (by simp) (by simp) (by simp) hf hn hx (by simp [moveL, isL, k, h0])]
      · split
        · rename_i k
          split
          · rename_i j hj
            refine ⟨{ x with st := 3, text := ((R.S.sigs[j]?).map (·.text)).getD e0 }, by simp, ?_⟩
            rw [happ_node (y := { x with st := 3, text := ((R.S.sigs[j]?).map (·.text)).getD e0 }) (b := true) hs (by simp) (by simp) (by simp) hf hn hx (by simp [moveL, isL, k, h0, hj])]
          · refine ⟨{ x with st := 2 }, by simp, ?_⟩
            rw [happ_node (y := { x with st := 2 }) (b := false) hs (by simp) (by simp) (by simp) hf hn hx (by simp [moveL, isL, k, h0])]
        · have k : n.kind = 5 := by omega
          refine ⟨{ x with st := 3 }, by simp, ?_⟩
          show (happ D R _).S.nodes = _
          rw [happ_node (y := { x with st := 3 }) (b := false) hs (by simp) (by simp) (by simp) hf hn hx (by simp [moveL, isL, k, h0])]
theorem rdy_spec {D : Df} {S : Sta} {i : Nat} (hl : S.nodes.length = D.nodes.length) (h : (rdy D S).head? = some i) : ∃ n x, D.nodes[i]? = some n ∧ S.nodes[i]? = some x ∧ x.st = 0 := by
  have hm : i ∈ rdy D S := List.mem_of_head? h
  unfold rdy readyL at hm
  obtain ⟨h1, h2⟩ := List.mem_filter.1 hm
  have hlt := List.mem_range.1 h1
  refine ⟨D.nodes[i], S.nodes[i]'(by omega), List.getElem?_eq_getElem hlt, List.getElem?_eq_getElem (by omega), ?_⟩
  have hb : (bgL S).getD i false = false := by
    unfold mayB at h2
    rw [List.getElem?_eq_getElem hlt] at h2
    simp only [Bool.and_eq_true, Bool.not_eq_true'] at h2
    exact h2.1
  have hi : i < (bgL S).length := by simp [bgL]; omega
  rw [List.getD_eq_getElem?_getD, List.getElem?_eq_getElem hi] at hb
  simp only [bgL, List.getElem_map, Option.getD_some, decide_eq_false_iff_not, Decidable.not_not] at hb
  exact hb
theorem idle_set {S : Sta} {l : List Ns} {i : Nat} {x y : Ns} (hx : S.nodes[i]? = some x) (h0 : x.st = 0) (h1 : y.st ≠ 0) (hl : l = S.nodes.set i y) : l.countP (fun x => decide (x.st = 0)) < idle S := by
  subst hl
  obtain ⟨hlt, he⟩ := List.getElem?_eq_some_iff.1 hx
  unfold idle
  rw [List.countP_set hlt]
  have hpos : 0 < S.nodes.countP fun x => decide (x.st = 0) := List.countP_pos_iff.2 ⟨x, List.mem_of_getElem? hx, by simp [h0]⟩
  simp [he, h0, h1]
  omega
theorem bgn_good {D : Df} {now : Int} {R : Rn} {i : Nat} {n : Nd} (hD : DefOK D) (hl : R.S.nodes.length = D.nodes.length) (hs : R.S.status = 1) (hr : (rdy D R.S).head? = some i) (hn : D.nodes[i]? = some n) :
    (bgn D now R n).S.nodes.length = D.nodes.length ∧ idle (bgn D now R n).S < idle R.S := by
  obtain ⟨n', x, hn', hx, h0⟩ := rdy_spec hl hr
  have e : n' = n := by rw [hn] at hn'; exact (Option.some.inj hn').symm
  subst e
  obtain ⟨k1, k5⟩ := hD.kd n' (List.mem_of_getElem? hn)
  obtain ⟨y, hy, he⟩ := bgn_nodes (now := now) hs (hD.ds i n' hn) hn hx h0 k1 k5
  exact ⟨by rw [he]; simp [hl], idle_set hx h0 hy he⟩
theorem onF_fuel {D : Df} {now : Int} (hD : DefOK D) : ∀ f (R : Rn), R.S.nodes.length = D.nodes.length → idle R.S + 1 ≤ f → onF D now f R = onF D now (idle R.S + 1) R := by
  intro f
  induction f using Nat.strongRecOn with
  | _ f ih =>
    intro R hl hf
    cases f with
    | zero => omega
    | succ f =>
      simp only [onF]
      split
      · rename_i hs
        cases hr : (rdy D R.S).head? with
        | none => rfl
        | some i =>
          obtain ⟨n, x, hn, _, _⟩ := rdy_spec hl hr
          simp only [hn]
          obtain ⟨g1, g2⟩ := bgn_good (now := now) hD hl hs hr hn
          rw [ih f (by omega) _ g1 (by omega), ih (idle R.S) (by omega) _ g1 (by omega)]
      · rfl
theorem onL_step {D : Df} {now : Int} {R : Rn} {i : Nat} {n : Nd} (hD : DefOK D) (hl : R.S.nodes.length = D.nodes.length) (hs : R.S.status = 1) (hr : (rdy D R.S).head? = some i) (hn : D.nodes[i]? = some n) : onL D now R = onL D now (bgn D now R n) := by
  obtain ⟨g1, g2⟩ := bgn_good (now := now) hD hl hs hr hn
  have : onL D now R = onF D now (idle R.S) (bgn D now R n) := by
    unfold onL
    simp only [onF]
    rw [if_pos hs, hr]
    simp only [hn]
  rw [this, onF_fuel hD _ _ g1 (by omega)]
  rfl
theorem onL_stop {D : Df} {now : Int} {R : Rn} (hs : ¬ R.S.status = 1) : onL D now R = R := by
  unfold onL; simp only [onF]; rw [if_neg hs]
theorem onL_end {D : Df} {now : Int} {R : Rn} (hs : R.S.status = 1) (hr : (rdy D R.S).head? = none) : onL D now R = if R.S.nodes.all (fun x => decide (x.st = 3)) = true then cls D R 2 (lastT R.S) else R := by
  unfold onL; simp only [onF]; rw [if_pos hs, hr]
theorem flat_repB (m : Nat) : (List.replicate m [Value.bool false]).flatten = (List.replicate m false).flatMap boolC := by
  induction m with
  | zero => rfl
  | succ m ih => rw [List.replicate_succ, List.replicate_succ, List.flatten_cons, List.flatMap_cons, ih]
theorem bool_len (x : Bool) : (boolC x).length = 1 := rfl
theorem bst {l : List Bool} {i : Nat} (hi : i < l.length) (x : Bool) : st (l.flatMap boolC) (0 + i * 1) [.bool x] = some ((l.set i x).flatMap boolC) := by
  have := flat_st bool_len l [] i l[i] x (List.getElem?_eq_getElem hi)
  simp only [List.append_nil] at this
  rw [Nat.zero_add]; exact this
section
variable {P : Program} {w0 : World} {Mod : List Nat} {n : Nat} {F : FL} {M : ML} {Q : Exit → Act → World → Prop}
theorem SK.scopeF {α : Type} {c rest : Code} (l : Nat) (Fi : α → FL) (Mi : α → ML) (p : α → Prop) (m : α → Nat) (hf : findLabel c l = some (Code.seq .skip rest))
    (pass : ∀ g, p g → SK w0 Mod n (rest.wp P (Exit.jump l (Round w0 Mod n Fi Mi p m g) Q)) (Fi g) (Mi g))
    (first : (∀ g, p g → SK w0 Mod n (rest.wp P (Exit.jump l (Round w0 Mod n Fi Mi p m g) Q)) (Fi g) (Mi g)) → SK w0 Mod n (c.wp P (Exit.jump l (Jumped w0 Mod n Fi Mi p) Q)) F M) : SK w0 Mod n ((Code.scope c).wp P Q) F M :=
  SK.scope l Fi Mi p m hf (fun g hg => SK.seq (SK.skip (SK.then_normal (pass g hg)))) (first pass)
end
theorem ovL_len (S : Sta) : (ovL S).length = S.nodes.length := by simp [ovL]
theorem bgL_len (S : Sta) : (bgL S).length = S.nodes.length := by simp [bgL]
theorem ovL_get {S : Sta} {i : Nat} {x : Ns} (h : S.nodes[i]? = some x) : (ovL S)[i]? = some (decide (x.st = 3)) := by simp [ovL, h]
theorem bgL_get {S : Sta} {i : Nat} {x : Ns} (h : S.nodes[i]? = some x) : (bgL S)[i]? = some (decide (x.st ≠ 0)) := by simp [bgL, h]
theorem setTo {l m : List Bool} {i : Nat} {x : Bool} (hl : l.length = m.length) (h : ∀ j, j < i → l[j]? = m[j]?) (hx : m[i]? = some x) : ∀ j, j < i + 1 → (l.set i x)[j]? = m[j]? := by
  intro j hj
  by_cases hji : j = i
  · subst hji
    have hlt := (List.getElem?_eq_some_iff.1 hx).1
    rw [List.getElem?_set_self (by omega), hx]
  · rw [List.getElem?_set_ne (Ne.symm hji)]; exact h j (by omega)
theorem allTo {l m : List Bool} (hl : l.length = m.length) (h : ∀ j, j < m.length → l[j]? = m[j]?) : l = m := by
  apply List.ext_getElem?
  intro j
  by_cases hj : j < m.length
  · exact h j hj
  · rw [List.getElem?_eq_none (by omega), List.getElem?_eq_none (by omega)]
theorem RSl.known {V : View} {l : List Bool} {b n : Nat} (hn : l.length = n) (h : ∀ (j : Nat) (u : Value), nv (l.flatMap boolC) j = some u → V b j u) : RSl V (.slice (some ⟨b, 0, none⟩) n n) l.length (l.flatMap boolC) := by
  subst hn
  exact ⟨_, _, rfl, .inr ⟨b, 0, rfl, fun j u hu => by rw [Nat.zero_add]; exact h j u (by rw [nv_eq]; exact hu)⟩⟩
theorem all_over {S : Sta} (hn : S.nodes.length ≤ 64) : (FloatKind.f64.format.order (cF (S.nodes.length - ovr S S.nodes.length)) 0 == some .eq) = S.nodes.all (fun x => decide (x.st = 3)) := by
  have h1 := (cF_spec (n := S.nodes.length - ovr S S.nodes.length) (by omega)).2.2
  have h2 : S.nodes.length - ovr S S.nodes.length = 0 ↔ S.nodes.all (fun x => decide (x.st = 3)) = true := by
    have h3 : ovr S S.nodes.length = S.nodes.countP fun x => decide (x.st = 3) := by unfold ovr; rw [List.take_length]
    have h4 := List.countP_le_length (p := fun x : Ns => decide (x.st = 3)) (l := S.nodes)
    rw [h3, List.all_eq_true]
    have h5 := List.countP_eq_length (p := fun x : Ns => decide (x.st = 3)) (l := S.nodes)
    constructor
    · intro h; exact h5.1 (by omega)
    · intro h; have := h5.2 h; omega
  rw [h2] at h1
  rw [Bool.eq_iff_iff, ← h1, beq_iff_eq]
abbrev G56 := Rn × Y4 × Nat × Nat × List Bool × List Bool
set_option maxRecDepth 100000 in
set_option maxHeartbeats 8000000 in
theorem on56 (c : Cx) (hT : c.T = 97) (hDO : DefOK c.D) (R : Rn) (hf : Room c.D R (80 * idle R.S + 80)) (hl : R.S.nodes.length = c.D.nodes.length) : Meth 56 c [] R (onL c.D c.now R) (.tuple #[]) := by
  intro b y w hy hD hm
  obtain ⟨T, D, dsl, now⟩ := c
  dsimp only at hT hf hDO hl
  subst hT
  obtain ⟨A, cap, hdsl, hnds⟩ := RDf.dsl hD
  dsimp only at hdsl hnds
  subst hdsl
  have hdn := hf.dn
  have hne := hDO.ne
  refine enterF (M := rnM _ b R y) Try.func56 rfl Try.ntmps56 rfl hm ?_
  refine SK.scopeF 0 (fun g : G56 => [(0, .pointer (some ⟨b, 0, none⟩)), (2, .slice (some ⟨g.2.2.1, 0, none⟩) D.nodes.length D.nodes.length), (3, .slice (some ⟨g.2.2.2.1, 0, none⟩) D.nodes.length D.nodes.length)])
    (fun g : G56 => some (g.2.2.1, g.2.2.2.2.1.flatMap boolC, 4) :: some (g.2.2.2.1, g.2.2.2.2.2.flatMap boolC, 4) :: rnM ⟨97, D, .slice A D.nodes.length cap, now⟩ b g.1 g.2.1)
    (fun g => ORn g.1 g.2.1 ∧ g.2.2.2.2.1.length = D.nodes.length ∧ g.2.2.2.2.2.length = D.nodes.length ∧ Room D g.1 (80 * idle g.1.S + 80) ∧ g.1.S.nodes.length = D.nodes.length ∧ onL D now g.1 = onL D now R)
    (fun g => idle g.1.S) rfl ?_ (fun pass => ?_)
  · rintro ⟨R1, ⟨⟨oN, oS⟩, oE, oT⟩, b1, b2, ov, bg⟩ ⟨hy1, hov, hbg, hr1, hl1, hon⟩
    dsimp only at hy1 hov hbg hr1 hl1 hon ⊢
    have hoN := hy1.1.1
    have hsn := hr1.sn
    dsimp only at hoN
    cases oN with
    | none => have : R1.S.nodes.length = 0 := hoN.2; omega
    | some q =>
      obtain ⟨bN, capN, spN⟩ := q
      (repeat first|(with_reducible first|apply Za|apply Zb|apply Zc|apply Zd|apply Zi|apply Zr)|((with_reducible first|apply ZI|apply ZK|apply ZM|apply ZN);rfl;rfl)|((with_reducible apply Zqm);rfl;rfl;rfl)|((with_reducible apply Zqz);rfl;rfl;(focus (repeat constructor));rfl))
      refine SK.loopW (fun g : Nat × List Bool × List Bool => [(27, .int .i64 (g.1 : Int)), (26, .int .i64 (R1.S.nodes.length : Int)), (25, .slice (some ⟨bN, 0, none⟩) R1.S.nodes.length capN), (0, .pointer (some ⟨b, 0, none⟩)), (2, .slice (some ⟨b1, 0, none⟩) D.nodes.length D.nodes.length), (3, .slice (some ⟨b2, 0, none⟩) D.nodes.length D.nodes.length)])
        (fun g => some (b1, g.2.1.flatMap boolC, 4) :: some (b2, g.2.2.flatMap boolC, 4) :: rnM ⟨97, D, .slice A D.nodes.length cap, now⟩ b R1 ((some (bN, capN, spN), oS), oE, oT))
        (fun g => g.1 ≤ R1.S.nodes.length ∧ g.2.1.length = D.nodes.length ∧ g.2.2.length = D.nodes.length ∧ (∀ j, j < g.1 → g.2.1[j]? = (ovL R1.S)[j]?) ∧ (∀ j, j < g.1 → g.2.2[j]? = (bgL R1.S)[j]?))
        (fun g => R1.S.nodes.length - g.1) (0, ov, bg) ⟨Nat.zero_le _, hov, hbg, fun j hj => absurd hj (Nat.not_lt_zero j), fun j hj => absurd hj (Nat.not_lt_zero j)⟩ (by (repeat constructor)) (by (repeat constructor)) ?_
      rintro ⟨i, u, v⟩ ⟨hi, hu, hv, hu2, hv2⟩
      dsimp only at hi hu hv hu2 hv2 ⊢
      by_cases hlt : i < R1.S.nodes.length
      · obtain ⟨x, hx⟩ : ∃ x, R1.S.nodes[i]? = some x := ⟨_, List.getElem?_eq_getElem hlt⟩
        have hsl : sl (R1.S.nodes.flatMap Ns.c ++ spN) (0 + i * 3) 3 = some (Ns.c x) := by rw [Nat.zero_add]; exact flat_sl ns_len _ spN i x hx
        have hiD : i < D.nodes.length := by omega
        by_cases h3 : x.st = 3
        · have h0 : ¬ x.st = 0 := by omega
          have su := bst (l := u) (i := i) (by omega) true
          have sv := bst (l := v) (i := i) (by omega) true
          (repeat first|(with_reducible first|apply Za|apply Zb|apply Zc|apply Zd|apply Ze|apply Zi|apply Zl|apply Zo|apply Zr|apply Zs)|((with_reducible refine Yz ?_);first|((with_reducible apply SK.indexAddr); rfl; rfl; rfl; omega)|((with_reducible apply SK.loadA); rfl; rfl; (focus (repeat (first | exact List.mem_cons_self | apply List.mem_cons_of_mem))); with_reducible exact hsl)|((with_reducible apply SK.store1); rfl; rfl; rfl; (focus (repeat (first | exact Upd.head _ | apply Upd.tail))); with_reducible exact su)|((with_reducible apply SK.store1); rfl; rfl; rfl; (focus (repeat (first | exact Upd.head _ | apply Upd.tail))); with_reducible exact sv)|((with_reducible first|apply ZI|apply ZJ|apply ZK);rfl;rfl)|((with_reducible first|apply ZR|apply ZS|apply ZW|apply ZX);rfl;rfl;rfl;omega)|((with_reducible apply Zqz);rfl;rfl;(focus (repeat constructor));rfl)|((with_reducible apply Zrc);rfl;rfl;rfl;exact List.cons_ne_nil _ _;(first|rfl|(repeat first|exact plain_nil|(refine plain_cons (by first|rfl|exact OwnD.plain_val _ _) ?_)));(focus (repeat constructor));rfl)|((with_reducible apply Zrg);rfl;intro _))|((with_reducible first|apply Zz|apply ZC);rfl)|((with_reducible apply ZE);rfl;infer_instance;rfl;(focus (repeat constructor));rfl;rfl)|refine Yi 4 i56_4 (by kernel_rfl) ?_)
          exact SK.roundW (i + 1, u.set i true, v.set i true) ⟨by omega, by simpa using hu, by simpa using hv, setTo (by rw [ovL_len]; omega) hu2 (by rw [ovL_get hx]; simp [h3]), setTo (by rw [bgL_len]; omega) hv2 (by rw [bgL_get hx]; simp [h0])⟩ (by dsimp only; omega) (by (repeat constructor)) (by (repeat constructor))
        · by_cases h0 : x.st = 0
          · have su := bst (l := u) (i := i) (by omega) false
            have sv := bst (l := v) (i := i) (by omega) false
            (repeat first|(with_reducible first|apply Za|apply Zb|apply Zc|apply Zd|apply Ze|apply Zi|apply Zl|apply Zo|apply Zr|apply Zs)|((with_reducible refine Yz ?_);first|((with_reducible apply SK.indexAddr); rfl; rfl; rfl; omega)|((with_reducible apply SK.loadA); rfl; rfl; (focus (repeat (first | exact List.mem_cons_self | apply List.mem_cons_of_mem))); with_reducible exact hsl)|((with_reducible apply SK.store1); rfl; rfl; rfl; (focus (repeat (first | exact Upd.head _ | apply Upd.tail))); with_reducible exact su)|((with_reducible apply SK.store1); rfl; rfl; rfl; (focus (repeat (first | exact Upd.head _ | apply Upd.tail))); with_reducible exact sv)|((with_reducible first|apply ZI|apply ZJ|apply ZK);rfl;rfl)|((with_reducible first|apply ZR|apply ZS);rfl;rfl;rfl;omega)|((with_reducible first|apply Zqc|apply Zqd);rfl;rfl;rfl;omega)|((with_reducible apply Zqz);rfl;rfl;(focus (repeat constructor));rfl)|((with_reducible apply Zrc);rfl;rfl;rfl;exact List.cons_ne_nil _ _;(first|rfl|(repeat first|exact plain_nil|(refine plain_cons (by first|rfl|exact OwnD.plain_val _ _) ?_)));(focus (repeat constructor));rfl)|((with_reducible apply Zrg);rfl;intro _))|((with_reducible first|apply Zz|apply ZC);rfl)|((with_reducible apply ZE);rfl;infer_instance;rfl;(focus (repeat constructor));rfl;rfl)|refine Yi 4 i56_4 (by kernel_rfl) ?_)
            exact SK.roundW (i + 1, u.set i false, v.set i false) ⟨by omega, by simpa using hu, by simpa using hv, setTo (by rw [ovL_len]; omega) hu2 (by rw [ovL_get hx]; simp [h3]), setTo (by rw [bgL_len]; omega) hv2 (by rw [bgL_get hx]; simp [h0])⟩ (by dsimp only; omega) (by (repeat constructor)) (by (repeat constructor))
          · have su := bst (l := u) (i := i) (by omega) false
            have sv := bst (l := v) (i := i) (by omega) true
            (repeat first|(with_reducible first|apply Za|apply Zb|apply Zc|apply Zd|apply Ze|apply Zi|apply Zl|apply Zo|apply Zr|apply Zs)|((with_reducible refine Yz ?_);first|((with_reducible apply SK.indexAddr); rfl; rfl; rfl; omega)|((with_reducible apply SK.loadA); rfl; rfl; (focus (repeat (first | exact List.mem_cons_self | apply List.mem_cons_of_mem))); with_reducible exact hsl)|((with_reducible apply SK.store1); rfl; rfl; rfl; (focus (repeat (first | exact Upd.head _ | apply Upd.tail))); with_reducible exact su)|((with_reducible apply SK.store1); rfl; rfl; rfl; (focus (repeat (first | exact Upd.head _ | apply Upd.tail))); with_reducible exact sv)|((with_reducible first|apply ZI|apply ZJ|apply ZK);rfl;rfl)|((with_reducible first|apply ZR|apply ZS|apply ZX);rfl;rfl;rfl;omega)|((with_reducible apply Zqc);rfl;rfl;rfl;omega)|((with_reducible apply Zqz);rfl;rfl;(focus (repeat constructor));rfl)|((with_reducible apply Zrc);rfl;rfl;rfl;exact List.cons_ne_nil _ _;(first|rfl|(repeat first|exact plain_nil|(refine plain_cons (by first|rfl|exact OwnD.plain_val _ _) ?_)));(focus (repeat constructor));rfl)|((with_reducible apply Zrg);rfl;intro _))|((with_reducible first|apply Zz|apply ZC);rfl)|((with_reducible apply ZE);rfl;infer_instance;rfl;(focus (repeat constructor));rfl;rfl)|refine Yi 4 i56_4 (by kernel_rfl) ?_)
            exact SK.roundW (i + 1, u.set i false, v.set i true) ⟨by omega, by simpa using hu, by simpa using hv, setTo (by rw [ovL_len]; omega) hu2 (by rw [ovL_get hx]; simp [h3]), setTo (by rw [bgL_len]; omega) hv2 (by rw [bgL_get hx]; simp [h0])⟩ (by dsimp only; omega) (by (repeat constructor)) (by (repeat constructor))
      · have hin : i = R1.S.nodes.length := by omega
        have hue : u = ovL R1.S := allTo (by rw [ovL_len]; omega) (fun j hj => hu2 j (by rw [ovL_len] at hj; omega))
        have hve : v = bgL R1.S := allTo (by rw [bgL_len]; omega) (fun j hj => hv2 j (by rw [bgL_len] at hj; omega))
        subst hue
        subst hve
        (repeat first|(with_reducible first|apply Za|apply Zb|apply Zc|apply Zd|apply Zi|apply Zj|apply Zn|apply Zq)|((with_reducible first|apply ZI|apply ZK|apply ZN);rfl;rfl)|((with_reducible apply ZY);rfl;rfl;rfl;omega)|((with_reducible apply Zra);rfl;rfl;(focus (repeat constructor));rfl)|((with_reducible apply ZD);rfl))
        refine SK.callO rfl rfl (fun w1 g1 g2 => ready74 _ _ _ D (ovL R1.S) (bgL R1.S) w1 (hD.mono g1) hdn hDO.af (RSl.known (by rw [ovL_len]; exact hl1) (g2 b1 _ _ (by (repeat constructor)))) (RSl.known (by rw [bgL_len]; exact hl1) (g2 b2 _ _ (by (repeat constructor))))) ?_
        intro oR hoR
        cases hr : (rdy D R1.S).head? with
        | none =>
          have hnil : readyL D.nodes (ovL R1.S) (bgL R1.S) = [] := List.head?_eq_none_iff.1 hr
          generalize readyL D.nodes (ovL R1.S) (bgL R1.S) = L at hoR hnil ⊢
          have hL0 : L.length = 0 := by rw [hnil]; rfl
          have go : ∀ vR capR, oR.val L.length = .slice vR L.length capR → True := fun _ _ _ => trivial
          obtain ⟨vR, capR, hvR⟩ : ∃ vR capR, oR.val L.length = .slice vR L.length capR := by
            cases oR with
            | none => exact ⟨none, 0, by rw [hL0]; rfl⟩
            | some q => exact ⟨_, _, rfl⟩
          rw [hvR]
          by_cases s1 : R1.S.status = 1
          · (repeat first|(with_reducible first|apply Za|apply Zb|apply Zc|apply Zd|apply Zi|apply Zo|apply Zs)|((with_reducible first|apply ZI|apply ZJ|apply ZK|apply ZM|apply ZN);rfl;rfl)|((with_reducible apply Zqa);rfl;rfl;rfl;omega)|((with_reducible apply Zqs);rfl;rfl;rfl)|((with_reducible apply Zqx);rfl;rfl;rfl;rfl)|((with_reducible apply Zra);rfl;rfl;(focus (repeat constructor));rfl)|((with_reducible apply ZD);rfl))
            refine SK.callA rfl rfl (fun w1 _ g2 => count26 (stV R1.S (some (bN, capN, spN), oS)) R1.S w1 (RSt.own hy1.1.1 hy1.1.2 (fun b cs hb j u hu => g2 b cs _ (by rw [← hb]; (repeat constructor)) j u hu) (fun b cs hb j u hu => g2 b cs _ (by rw [← hb]; (repeat constructor)) j u hu)) hsn) ?_
            (repeat first|(with_reducible first|apply Zc|apply Zs))
            refine SK.imag rfl rfl ?_
            (repeat first|(with_reducible apply Zc))
            refine SK.eqF rfl rfl rfl ?_
            rw [all_over hsn]
            cases hall : R1.S.nodes.all (fun x => decide (x.st = 3)) with
            | false =>
              have hfin : onL D now R = R1 := by rw [← hon, onL_end s1 hr, hall]; rfl
              (repeat first|(with_reducible first|apply Zc|apply Zd|apply Zi|apply Zo|apply Zu)|((with_reducible apply ZI);rfl;rfl)|((with_reducible apply Zqs);rfl;rfl;rfl)|((with_reducible apply Zqx);rfl;rfl;rfl;rfl)|((with_reducible apply ZD);rfl))
              exact SK.endQ rfl (by (repeat constructor)) (fun w' hm' => ⟨((some (bN, capN, spN), oS), oE, oT), by rw [hfin]; exact hy1, rfl, by rw [hfin]; exact hm'.wk (by (repeat constructor))⟩)
            | true =>
              have hfin : onL D now R = cls D R1 2 (lastT R1.S) := by rw [← hon, onL_end s1 hr, hall]; rfl
              have esub : IntKind.i64.wrap ((R1.S.nodes.length : Int) - 1) = ((R1.S.nodes.length - 1 : Nat) : Int) := by rw [wrap64_in (by omega) (by omega)]; omega
              have hlt1 : R1.S.nodes.length - 1 < R1.S.nodes.length := by omega
              obtain ⟨z, hz⟩ : ∃ z, R1.S.nodes[R1.S.nodes.length - 1]? = some z := ⟨_, List.getElem?_eq_getElem hlt1⟩
              have hzt : z.text = lastT R1.S := by unfold lastT; rw [List.getLast?_eq_getElem?, hz]; rfl
              have hldz := nld hz spN 2 (.string z.text) rfl
              rw [hzt] at hldz
              (repeat first|(with_reducible first|apply Zc|apply Zd|apply Zi)|((with_reducible first|apply ZI|apply ZK|apply ZM|apply ZN|apply ZO);rfl;rfl)|((with_reducible apply ZW);rfl;rfl;rfl;omega)|((with_reducible first|apply Zqm|apply Zqo);rfl;rfl;rfl)|((with_reducible apply Zqz);rfl;rfl;(focus (repeat constructor));rfl)|((with_reducible first|apply Zz|apply ZC);rfl)|refine Yi 10 i56_10 (by kernel_rfl) ?_)
              refine SK.isub rfl rfl rfl ?_
              rw [esub]
              (repeat first|((with_reducible apply Zz);rfl)|((with_reducible refine Yz ?_);first|((with_reducible apply SK.indexAddr); rfl; rfl; rfl; exact hlt1)|((with_reducible apply SK.load1); rfl; rfl; (focus (repeat (first | exact List.mem_cons_self | apply List.mem_cons_of_mem))); with_reducible exact hldz)|((with_reducible apply Zqm);rfl;rfl;rfl)))
              refine SK.meth rfl rfl (close61 _ rfl R1 2 (lastT R1.S) (hr1.mono (by omega))) hy1 hD (by (repeat constructor)) (by (repeat constructor)) (by (repeat constructor)) (by (repeat constructor)) (by (repeat constructor)) (fun y2 hy2 => ?_)
              (repeat first|(with_reducible first|apply Ze|apply Zs|apply Zu))
              exact SK.endQ rfl (by (repeat constructor)) (fun w' hm' => ⟨y2, by rw [hfin]; exact hy2, rfl, by rw [hfin]; exact hm'.wk (by (repeat constructor))⟩)
          · have hfin : onL D now R = R1 := by rw [← hon, onL_stop s1]
            (repeat first|(with_reducible first|apply Za|apply Zb|apply Zc|apply Zd|apply Zi|apply Zo|apply Zs)|((with_reducible first|apply ZI|apply ZJ|apply ZK|apply ZM|apply ZN);rfl;rfl)|((with_reducible apply Zqa);rfl;rfl;rfl;omega)|((with_reducible apply Zqs);rfl;rfl;rfl)|((with_reducible apply Zqx);rfl;rfl;rfl;rfl)|((with_reducible apply Zra);rfl;rfl;(focus (repeat constructor));rfl)|((with_reducible apply ZD);rfl))
            refine SK.callA rfl rfl (fun w1 _ g2 => count26 (stV R1.S (some (bN, capN, spN), oS)) R1.S w1 (RSt.own hy1.1.1 hy1.1.2 (fun b cs hb j u hu => g2 b cs _ (by rw [← hb]; (repeat constructor)) j u hu) (fun b cs hb j u hu => g2 b cs _ (by rw [← hb]; (repeat constructor)) j u hu)) hsn) ?_
            (repeat first|(with_reducible first|apply Zc|apply Zs))
            refine SK.imag rfl rfl ?_
            (repeat first|(with_reducible apply Zc))
            refine SK.eqF rfl rfl rfl ?_
            rw [all_over hsn]
            cases R1.S.nodes.all (fun x => decide (x.st = 3)) with
            | false =>
              (repeat first|(with_reducible first|apply Zc|apply Zd|apply Zi|apply Zo|apply Zu)|((with_reducible apply ZI);rfl;rfl)|((with_reducible apply Zqs);rfl;rfl;rfl)|((with_reducible apply Zqx);rfl;rfl;rfl;rfl)|((with_reducible apply ZD);rfl))
              exact SK.endQ rfl (by (repeat constructor)) (fun w' hm' => ⟨((some (bN, capN, spN), oS), oE, oT), by rw [hfin]; exact hy1, rfl, by rw [hfin]; exact hm'.wk (by (repeat constructor))⟩)
            | true =>
              (repeat first|(with_reducible first|apply Zc|apply Zd|apply Zi|apply Zo|apply Zu)|((with_reducible first|apply ZI|apply ZK|apply ZN|apply ZO);rfl;rfl)|((with_reducible apply Zqc);rfl;rfl;rfl;omega)|((with_reducible first|apply Zqm|apply Zqo);rfl;rfl;rfl)|((with_reducible apply Zqz);rfl;rfl;(focus (repeat constructor));rfl)|((with_reducible apply ZD);rfl))
              exact SK.endQ rfl (by (repeat constructor)) (fun w' hm' => ⟨((some (bN, capN, spN), oS), oE, oT), by rw [hfin]; exact hy1, rfl, by rw [hfin]; exact hm'.wk (by (repeat constructor))⟩)
        | some k =>
          obtain ⟨nd, x, hnd, hx, h0⟩ := rdy_spec hl1 hr
          have hcons : ∃ rest, readyL D.nodes (ovL R1.S) (bgL R1.S) = k :: rest := by
            have hr' : (readyL D.nodes (ovL R1.S) (bgL R1.S)).head? = some k := hr
            cases hL : readyL D.nodes (ovL R1.S) (bgL R1.S) with
            | nil => rw [hL] at hr'; cases hr'
            | cons a l => rw [hL] at hr'; cases hr'; exact ⟨l, rfl⟩
          generalize readyL D.nodes (ovL R1.S) (bgL R1.S) = L at hoR hcons ⊢
          obtain ⟨rest, hcons⟩ := hcons
          have hL0 : 0 < L.length := by rw [hcons]; exact Nat.succ_pos _
          cases oR with
          | none => have : L.length = 0 := hoR.2; omega
          | some q =>
            obtain ⟨bR, capR, spR⟩ := q
            have hldk : nv (L.flatMap natC ++ spR) (0 + 0 * 1) = some (.int .i64 (k : Int)) := by rw [hcons]; rfl
            have hkl : k < D.nodes.length := (List.getElem?_eq_some_iff.1 hnd).1
            by_cases s1 : R1.S.status = 1
            · obtain ⟨bd, o, av, rfl, hnd2⟩ := hnds k nd hnd
              have hcell := hnd2.2
              have hndm := List.mem_of_getElem? hnd
              obtain ⟨g1, g2⟩ := bgn_good (now := now) hDO hl1 s1 hr hnd
              have g3 := onL_step (now := now) hDO hl1 s1 hr hnd
              obtain ⟨hk1, hk5⟩ := hDO.kd nd hndm
              (repeat first|(with_reducible first|apply Za|apply Zb|apply Zc|apply Zd|apply Zi|apply Zs)|((with_reducible refine Yz ?_);first|((with_reducible apply SK.indexAddr); rfl; rfl; rfl; first | exact hL0 | exact hkl)|((with_reducible apply SK.load1); rfl; rfl; (focus (repeat (first | exact List.mem_cons_self | apply List.mem_cons_of_mem))); with_reducible exact hldk)|((with_reducible apply SK.loadAR); rfl; rfl; exact hcell; rfl)|((with_reducible first|apply ZI|apply ZJ|apply ZK|apply ZM|apply ZN|apply ZO);rfl;rfl)|((with_reducible first|apply ZU|apply ZW);rfl;rfl;rfl;omega)|((with_reducible first|apply Zqm|apply Zqo);rfl;rfl;rfl)|((with_reducible apply Zqz);rfl;rfl;(focus (repeat constructor));rfl))|((with_reducible first|apply Zz|apply ZC);rfl)|refine Yi 8 i56_8 (by kernel_rfl) ?_)
              refine SK.meth rfl rfl (begin75 _ rfl R1 nd av (hr1.mono (by omega)) hndm hk1 hk5) hy1 hD (by (repeat constructor)) (by (repeat constructor)) (by (repeat constructor)) (by (repeat constructor)) (by (repeat constructor)) (fun y2 hy2 => ?_)
              (repeat first|(with_reducible first|apply Ze|apply Zi|apply Zs|apply Zt|apply Zw|apply Zy))
              exact SK.roundW (bgn D now R1 nd, y2, b1, b2, ovL R1.S, bgL R1.S) ⟨hy2, by rw [ovL_len]; exact hl1, by rw [bgL_len]; exact hl1, Room.bgn (hr1.mono (by dsimp only; omega)) now nd, g1, by rw [← hon, g3]⟩ (by dsimp only; exact g2) (by (repeat constructor)) (by (repeat constructor))
            · have hfin : onL D now R = R1 := by rw [← hon, onL_stop s1]
              (repeat first|(with_reducible first|apply Za|apply Zb|apply Zc|apply Zd|apply Zi|apply Zo|apply Zs)|((with_reducible first|apply ZI|apply ZJ|apply ZK|apply ZM|apply ZN|apply ZO);rfl;rfl)|((with_reducible apply ZU);rfl;rfl;rfl;omega)|((with_reducible apply Zqc);rfl;rfl;rfl;omega)|((with_reducible first|apply Zqm|apply Zqo);rfl;rfl;rfl)|((with_reducible first|apply Zqz|apply Zra);rfl;rfl;(focus (repeat constructor));rfl)|((with_reducible apply ZD);rfl))
              refine SK.callA rfl rfl (fun w1 _ g2 => count26 (stV R1.S (some (bN, capN, spN), oS)) R1.S w1 (RSt.own hy1.1.1 hy1.1.2 (fun b cs hb j u hu => g2 b cs _ (by rw [← hb]; (repeat constructor)) j u hu) (fun b cs hb j u hu => g2 b cs _ (by rw [← hb]; (repeat constructor)) j u hu)) hsn) ?_
              (repeat first|(with_reducible first|apply Zc|apply Zs))
              refine SK.imag rfl rfl ?_
              (repeat first|(with_reducible apply Zc))
              refine SK.eqF rfl rfl rfl ?_
              rw [all_over hsn]
              cases R1.S.nodes.all (fun x => decide (x.st = 3)) with
              | false =>
                (repeat first|(with_reducible first|apply Zc|apply Zd|apply Zi|apply Zo|apply Zu)|((with_reducible apply ZI);rfl;rfl)|((with_reducible apply Zqs);rfl;rfl;rfl)|((with_reducible apply Zqx);rfl;rfl;rfl;rfl)|((with_reducible apply ZD);rfl))
                exact SK.endQ rfl (by (repeat constructor)) (fun w' hm' => ⟨((some (bN, capN, spN), oS), oE, oT), by rw [hfin]; exact hy1, rfl, by rw [hfin]; exact hm'.wk (by (repeat constructor))⟩)
              | true =>
                (repeat first|(with_reducible first|apply Zc|apply Zd|apply Zi|apply Zo|apply Zu)|((with_reducible first|apply ZI|apply ZK|apply ZN|apply ZO);rfl;rfl)|((with_reducible apply Zqc);rfl;rfl;rfl;omega)|((with_reducible first|apply Zqm|apply Zqo);rfl;rfl;rfl)|((with_reducible apply Zqz);rfl;rfl;(focus (repeat constructor));rfl)|((with_reducible apply ZD);rfl))
                exact SK.endQ rfl (by (repeat constructor)) (fun w' hm' => ⟨((some (bN, capN, spN), oS), oE, oT), by rw [hfin]; exact hy1, rfl, by rw [hfin]; exact hm'.wk (by (repeat constructor))⟩)
  · (repeat first|(with_reducible first|apply Za|apply Zf)|((with_reducible first|apply ZI|apply ZK|apply ZM|apply ZN);rfl;rfl)|((with_reducible apply Zqz);rfl;rfl;(focus (repeat constructor));rfl)|((with_reducible apply ZA);rfl)|refine Yd 0 o56_0 t56_0 (by kernel_rfl) ?_)
    refine SK.orC ?_ ?_
    · (repeat first|(with_reducible apply Zh)|((with_reducible apply Zz);rfl))
      refine SK.makeS (z := [.bool false]) rfl rfl rfl rfl (by omega) (by omega) (fun bA => ?_)
      rw [flat_repB]
      (repeat first|(with_reducible first|apply Zf|apply Zh|apply Zs)|((with_reducible apply ZJ);rfl;rfl)|((with_reducible first|apply Zz|apply ZA);rfl)|((with_reducible apply ZE);rfl;infer_instance;rfl;(focus (repeat constructor));rfl;rfl))
      refine SK.makeS (z := [.bool false]) rfl rfl rfl rfl (by omega) (by omega) (fun bB => ?_)
      rw [flat_repB]
      (repeat first|(with_reducible first|apply Za|apply Zf|apply Zg|apply Zi|apply Zs)|((with_reducible apply ZJ);rfl;rfl)|((with_reducible apply ZA);rfl)|((with_reducible apply ZE);rfl;infer_instance;rfl;(focus (repeat constructor));rfl;rfl))
      refine SK.label ?_
      refine SK.then_normal ?_
      exact SK.firstPass (m := fun g : G56 => idle g.1.S) (g := (R, y, bA, bB, List.replicate D.nodes.length false, List.replicate D.nodes.length false)) (by (repeat constructor)) (by (repeat constructor)) (pass (R, y, bA, bB, List.replicate D.nodes.length false, List.replicate D.nodes.length false) ⟨hy, by simp, by simp, hf, hl, rfl⟩)
    · (repeat first|(with_reducible apply Zh)|((with_reducible apply Zz);rfl))
      refine SK.makeS (z := [.bool false]) rfl rfl rfl rfl (by omega) (by omega) (fun bA => ?_)
      rw [flat_repB]
      (repeat first|(with_reducible first|apply Zf|apply Zh|apply Zs)|((with_reducible apply Zz);rfl)|((with_reducible apply ZE);rfl;infer_instance;rfl;(focus (repeat constructor));rfl;rfl))
      refine SK.makeS (z := [.bool false]) rfl rfl rfl rfl (by omega) (by omega) (fun bB => ?_)
      rw [flat_repB]
      (repeat first|(with_reducible first|apply Za|apply Zf|apply Zg|apply Zi|apply Zs)|((with_reducible apply ZJ);rfl;rfl)|((with_reducible apply ZA);rfl)|((with_reducible apply ZE);rfl;infer_instance;rfl;(focus (repeat constructor));rfl;rfl))
      refine SK.label ?_
      refine SK.then_normal ?_
      exact SK.firstPass (m := fun g : G56 => idle g.1.S) (g := (R, y, bB, bA, List.replicate D.nodes.length false, List.replicate D.nodes.length false)) (by (repeat constructor)) (by (repeat constructor)) (pass (R, y, bB, bA, List.replicate D.nodes.length false, List.replicate D.nodes.length false) ⟨hy, by simp, by simp, hf, hl, rfl⟩)
def headV (l : List Nat) : Value := match l.head? with | some i => .int .i64 (i : Int) | none => .int .i64 (-1)
theorem take_flat {l : List Bool} {i : Nat} {x : Bool} (h : l[i]? = some x) : (l.take i).flatMap boolC ++ [.bool x] = (l.take (i + 1)).flatMap boolC := by
  rw [List.take_add_one, h]; simp
theorem take_len {l : List Bool} {i : Nat} (h : i ≤ l.length) : (l.take i).length = i := by simp [h]
set_option maxRecDepth 100000 in
set_option maxHeartbeats 8000000 in
theorem next88 (c : Cx) (hT : c.T = 113) (hDO : DefOK c.D) (R : Rn) (hf : Room c.D R 1) (hl : R.S.nodes.length = c.D.nodes.length) : Meth 88 c [] R R (headV (rdy c.D R.S)) := by
  intro b y w hy hD hm
  obtain ⟨T, D, dsl, now⟩ := c
  dsimp only at hT hf hDO hl ⊢
  subst hT
  obtain ⟨A, cap, hdsl, hnds⟩ := RDf.dsl hD
  dsimp only at hdsl hnds
  subst hdsl
  have hdn := hf.dn
  have hne := hDO.ne
  have hsn := hf.sn
  obtain ⟨⟨oN, oS⟩, oE, oT⟩ := y
  have hoN := hy.1.1
  dsimp only at hoN
  refine enterF (M := rnM _ b R ((oN, oS), oE, oT)) Try.func88 rfl Try.ntmps88 rfl hm ?_
  cases oN with
  | none => have : R.S.nodes.length = 0 := hoN.2; omega
  | some q =>
    obtain ⟨bN, capN, spN⟩ := q
    (repeat first|(with_reducible first|apply Za|apply Zb|apply Zc|apply Zd|apply Zi|apply Zr)|((with_reducible apply ZJ);rfl;rfl))
    refine SK.loopW (fun g : Nat × OwnD × OwnD => [(5, .int .i64 (g.1 : Int)), (3, g.2.1.val g.1), (4, g.2.2.val g.1), (0, .pointer (some ⟨b, 0, none⟩))])
      (fun g => g.2.1.ent (((ovL R.S).take g.1).flatMap boolC) 4 :: g.2.2.ent (((bgL R.S).take g.1).flatMap boolC) 4 :: rnM ⟨113, D, .slice A D.nodes.length cap, now⟩ b R ((some (bN, capN, spN), oS), oE, oT))
      (fun g => g.1 ≤ R.S.nodes.length ∧ g.2.1.ok g.1 1 (((ovL R.S).take g.1).flatMap boolC) ∧ g.2.2.ok g.1 1 (((bgL R.S).take g.1).flatMap boolC))
      (fun g => R.S.nodes.length - g.1) (0, none, none) ⟨Nat.zero_le _, ⟨rfl, rfl⟩, ⟨rfl, rfl⟩⟩ (by (repeat constructor)) (by (repeat constructor)) ?_
    rintro ⟨i, o1, o2⟩ ⟨hi, h1, h2⟩
    dsimp only at hi h1 h2 ⊢
    by_cases hlt : i < R.S.nodes.length
    · obtain ⟨x, hx⟩ : ∃ x, R.S.nodes[i]? = some x := ⟨_, List.getElem?_eq_getElem hlt⟩
      have hld := nld hx spN 0 (.int .i64 x.st) rfl
      have main : ∀ p1 p2 : Bool, p1 = decide (x.st = 3) → p2 = decide (x.st ≠ 0) → True := fun _ _ _ _ => trivial
      have fin : ∀ (p1 p2 : Bool) (o1' o2' : OwnD), p1 = decide (x.st = 3) → p2 = decide (x.st ≠ 0) → o1'.ok (i + 1) 1 (((ovL R.S).take i).flatMap boolC ++ [.bool p1]) → o2'.ok (i + 1) 1 (((bgL R.S).take i).flatMap boolC ++ [.bool p2]) →
          (o1'.ok (i + 1) 1 (((ovL R.S).take (i + 1)).flatMap boolC) ∧ o2'.ok (i + 1) 1 (((bgL R.S).take (i + 1)).flatMap boolC)) := by
        intro p1 p2 o1' o2' e1 e2 g1 g2
        subst e1; subst e2
        rw [take_flat (ovL_get hx)] at g1
        rw [take_flat (bgL_get hx)] at g2
        exact ⟨g1, g2⟩
      by_cases h3 : x.st = 3
      · have h0 : ¬ x.st = 0 := by omega
        (repeat first|(with_reducible first|apply Za|apply Zb|apply Zc|apply Zd|apply Zi|apply Zo|apply Zr|apply Zs)|((with_reducible refine Yz ?_);first|((with_reducible apply SK.indexAddr); rfl; rfl; rfl; exact hlt)|((with_reducible apply SK.load1); rfl; rfl; (focus (repeat (first | exact List.mem_cons_self | apply List.mem_cons_of_mem))); with_reducible exact hld)|((with_reducible first|apply ZI|apply ZK|apply ZM|apply ZN);rfl;rfl)|((with_reducible first|apply ZS|apply ZW);rfl;rfl;rfl;omega)|((with_reducible apply Zqm);rfl;rfl;rfl)|((with_reducible apply Zqz);rfl;rfl;(focus (repeat constructor));rfl)|((with_reducible apply Zrd);rfl;rfl;rfl;rfl;rfl;rfl;rfl;intro _))|((with_reducible apply ZC);rfl))
        refine SK.appendP (o := o1) (xs := ((ovL R.S).take i).flatMap boolC) (news := [.bool true]) (m := 1) rfl rfl h1 rfl (by (repeat constructor)) (Src.mem (by (repeat constructor)) rfl) rfl rfl rfl rfl (by unfold maxLen; omega) (by omega) (fun o1' ho1 _ => ?_)
        (repeat first|(with_reducible first|apply Zb|apply Zc|apply Zd|apply Zi|apply Zs)|((with_reducible refine Yz ?_);first|((with_reducible apply SK.indexAddr); rfl; rfl; rfl; exact hlt)|((with_reducible apply SK.load1); rfl; rfl; (focus (repeat (first | exact List.mem_cons_self | apply List.mem_cons_of_mem))); with_reducible exact hld)|((with_reducible first|apply ZI|apply ZJ|apply ZK|apply ZN);rfl;rfl)|((with_reducible apply ZX);rfl;rfl;rfl;omega)|((with_reducible apply Zqm);rfl;rfl;rfl)|((with_reducible apply Zqz);rfl;rfl;(focus (repeat constructor));rfl)|((with_reducible apply Zrd);rfl;rfl;rfl;rfl;rfl;rfl;rfl;intro _)))
        refine SK.appendP (o := o2) (xs := ((bgL R.S).take i).flatMap boolC) (news := [.bool true]) (m := 1) rfl rfl h2 rfl (by (repeat constructor)) (Src.mem (by (repeat constructor)) rfl) rfl rfl rfl rfl (by unfold maxLen; omega) (by omega) (fun o2' ho2 _ => ?_)
        (repeat first|(with_reducible first|apply Zb|apply Zc|apply Zd|apply Zi|apply Zl|apply Zs)|((with_reducible first|apply ZI|apply ZJ);rfl;rfl)|((with_reducible apply ZR);rfl;rfl;rfl;omega))
        have hfin := fin true true o1' o2' (by simp [h3]) (by simp [h0]) ho1 ho2
        refine SK.roundW (i + 1, o1', o2') ⟨by omega, hfin⟩ (by dsimp only; omega) (by (repeat constructor)) ?_
        dsimp only
        rw [← take_flat (ovL_get hx), ← take_flat (bgL_get hx)]
        simp only [h3, h0, decide_true, decide_false, ne_eq, not_true_eq_false, not_false_eq_true]
        (repeat constructor)
      · by_cases h0 : x.st = 0
        · (repeat first|(with_reducible first|apply Za|apply Zb|apply Zc|apply Zd|apply Zi|apply Zo|apply Zr|apply Zs)|((with_reducible refine Yz ?_);first|((with_reducible apply SK.indexAddr); rfl; rfl; rfl; exact hlt)|((with_reducible apply SK.load1); rfl; rfl; (focus (repeat (first | exact List.mem_cons_self | apply List.mem_cons_of_mem))); with_reducible exact hld)|((with_reducible first|apply ZI|apply ZK|apply ZM|apply ZN);rfl;rfl)|((with_reducible apply ZS);rfl;rfl;rfl;omega)|((with_reducible apply Zqc);rfl;rfl;rfl;omega)|((with_reducible apply Zqm);rfl;rfl;rfl)|((with_reducible apply Zqz);rfl;rfl;(focus (repeat constructor));rfl)|((with_reducible apply Zrd);rfl;rfl;rfl;rfl;rfl;rfl;rfl;intro _))|((with_reducible apply ZC);rfl))
          refine SK.appendP (o := o1) (xs := ((ovL R.S).take i).flatMap boolC) (news := [.bool false]) (m := 1) rfl rfl h1 rfl (by (repeat constructor)) (Src.mem (by (repeat constructor)) rfl) rfl rfl rfl rfl (by unfold maxLen; omega) (by omega) (fun o1' ho1 _ => ?_)
          (repeat first|(with_reducible first|apply Zb|apply Zc|apply Zd|apply Zi|apply Zs)|((with_reducible refine Yz ?_);first|((with_reducible apply SK.indexAddr); rfl; rfl; rfl; exact hlt)|((with_reducible apply SK.load1); rfl; rfl; (focus (repeat (first | exact List.mem_cons_self | apply List.mem_cons_of_mem))); with_reducible exact hld)|((with_reducible first|apply ZI|apply ZJ|apply ZK|apply ZN);rfl;rfl)|((with_reducible apply Zqd);rfl;rfl;rfl;omega)|((with_reducible apply Zqm);rfl;rfl;rfl)|((with_reducible apply Zqz);rfl;rfl;(focus (repeat constructor));rfl)|((with_reducible apply Zrd);rfl;rfl;rfl;rfl;rfl;rfl;rfl;intro _)))
          refine SK.appendP (o := o2) (xs := ((bgL R.S).take i).flatMap boolC) (news := [.bool false]) (m := 1) rfl rfl h2 rfl (by (repeat constructor)) (Src.mem (by (repeat constructor)) rfl) rfl rfl rfl rfl (by unfold maxLen; omega) (by omega) (fun o2' ho2 _ => ?_)
          (repeat first|(with_reducible first|apply Zb|apply Zc|apply Zd|apply Zi|apply Zl|apply Zs)|((with_reducible first|apply ZI|apply ZJ);rfl;rfl)|((with_reducible apply ZR);rfl;rfl;rfl;omega))
          have hfin := fin false false o1' o2' (by simp [h3]) (by simp [h0]) ho1 ho2
          refine SK.roundW (i + 1, o1', o2') ⟨by omega, hfin⟩ (by dsimp only; omega) (by (repeat constructor)) ?_
          dsimp only
          rw [← take_flat (ovL_get hx), ← take_flat (bgL_get hx)]
          simp only [h3, h0, decide_true, decide_false, ne_eq, not_true_eq_false, not_false_eq_true]
          (repeat constructor)
        · (repeat first|(with_reducible first|apply Za|apply Zb|apply Zc|apply Zd|apply Zi|apply Zo|apply Zr|apply Zs)|((with_reducible refine Yz ?_);first|((with_reducible apply SK.indexAddr); rfl; rfl; rfl; exact hlt)|((with_reducible apply SK.load1); rfl; rfl; (focus (repeat (first | exact List.mem_cons_self | apply List.mem_cons_of_mem))); with_reducible exact hld)|((with_reducible first|apply ZI|apply ZK|apply ZM|apply ZN);rfl;rfl)|((with_reducible apply ZS);rfl;rfl;rfl;omega)|((with_reducible apply Zqc);rfl;rfl;rfl;omega)|((with_reducible apply Zqm);rfl;rfl;rfl)|((with_reducible apply Zqz);rfl;rfl;(focus (repeat constructor));rfl)|((with_reducible apply Zrd);rfl;rfl;rfl;rfl;rfl;rfl;rfl;intro _))|((with_reducible apply ZC);rfl))
          refine SK.appendP (o := o1) (xs := ((ovL R.S).take i).flatMap boolC) (news := [.bool false]) (m := 1) rfl rfl h1 rfl (by (repeat constructor)) (Src.mem (by (repeat constructor)) rfl) rfl rfl rfl rfl (by unfold maxLen; omega) (by omega) (fun o1' ho1 _ => ?_)
          (repeat first|(with_reducible first|apply Zb|apply Zc|apply Zd|apply Zi|apply Zs)|((with_reducible refine Yz ?_);first|((with_reducible apply SK.indexAddr); rfl; rfl; rfl; exact hlt)|((with_reducible apply SK.load1); rfl; rfl; (focus (repeat (first | exact List.mem_cons_self | apply List.mem_cons_of_mem))); with_reducible exact hld)|((with_reducible first|apply ZI|apply ZJ|apply ZK|apply ZN);rfl;rfl)|((with_reducible apply ZX);rfl;rfl;rfl;omega)|((with_reducible apply Zqm);rfl;rfl;rfl)|((with_reducible apply Zqz);rfl;rfl;(focus (repeat constructor));rfl)|((with_reducible apply Zrd);rfl;rfl;rfl;rfl;rfl;rfl;rfl;intro _)))
          refine SK.appendP (o := o2) (xs := ((bgL R.S).take i).flatMap boolC) (news := [.bool true]) (m := 1) rfl rfl h2 rfl (by (repeat constructor)) (Src.mem (by (repeat constructor)) rfl) rfl rfl rfl rfl (by unfold maxLen; omega) (by omega) (fun o2' ho2 _ => ?_)
          (repeat first|(with_reducible first|apply Zb|apply Zc|apply Zd|apply Zi|apply Zl|apply Zs)|((with_reducible first|apply ZI|apply ZJ);rfl;rfl)|((with_reducible apply ZR);rfl;rfl;rfl;omega))
          have hfin := fin false true o1' o2' (by simp [h3]) (by simp [h0]) ho1 ho2
          refine SK.roundW (i + 1, o1', o2') ⟨by omega, hfin⟩ (by dsimp only; omega) (by (repeat constructor)) ?_
          dsimp only
          rw [← take_flat (ovL_get hx), ← take_flat (bgL_get hx)]
          simp only [h3, h0, decide_true, decide_false, ne_eq, not_true_eq_false, not_false_eq_true]
          (repeat constructor)
    · have hie : i = R.S.nodes.length := by omega
      subst hie
      have e1 : (ovL R.S).take R.S.nodes.length = ovL R.S := List.take_of_length_le (by rw [ovL_len]; exact Nat.le_refl _)
      have e2 : (bgL R.S).take R.S.nodes.length = bgL R.S := List.take_of_length_le (by rw [bgL_len]; exact Nat.le_refl _)
      rw [e1] at h1 ⊢
      rw [e2] at h2 ⊢
      have el1 := ovL_len R.S
      have el2 := bgL_len R.S
      (repeat first|(with_reducible first|apply Za|apply Zb|apply Zc|apply Zd|apply Zi|apply Zj|apply Zn|apply Zq)|((with_reducible first|apply ZI|apply ZK|apply ZM|apply ZN);rfl;rfl)|((with_reducible apply ZY);rfl;rfl;rfl;omega)|((with_reducible apply Zqm);rfl;rfl;rfl)|((with_reducible first|apply Zqz|apply Zra);rfl;rfl;(focus (repeat constructor));rfl)|((with_reducible apply ZD);rfl))
      refine SK.callO rfl rfl (fun w1 g1 g2 => ready100 _ _ _ D (ovL R.S) (bgL R.S) w1 (hD.mono g1) hdn hDO.af (by rw [el1]; exact RSl.own o1 h1 (fun b cs hb j u hu => g2 b cs _ (by rw [← hb]; (repeat constructor)) j u hu)) (by rw [el2]; exact RSl.own o2 h2 (fun b cs hb j u hu => g2 b cs _ (by rw [← hb]; (repeat constructor)) j u hu))) ?_
      intro oR hoR
      unfold headV
      cases hr : (rdy D R.S).head? with
      | none =>
        have hnil : readyL D.nodes (ovL R.S) (bgL R.S) = [] := List.head?_eq_none_iff.1 hr
        generalize readyL D.nodes (ovL R.S) (bgL R.S) = L at hoR hnil ⊢
        have hL0 : L.length = 0 := by rw [hnil]; rfl
        obtain ⟨vR, capR, hvR⟩ : ∃ vR capR, oR.val L.length = .slice vR L.length capR := by
          cases oR with
          | none => exact ⟨none, 0, by rw [hL0]; rfl⟩
          | some q => exact ⟨_, _, rfl⟩
        rw [hvR]
        (repeat first|(with_reducible first|apply Za|apply Zb|apply Zc|apply Zd|apply Ze|apply Zi|apply Zk|apply Zp|apply Zs)|((with_reducible first|apply ZI|apply ZJ|apply ZM);rfl;rfl)|((with_reducible apply ZW);rfl;rfl;rfl;omega)|((with_reducible apply Zqo);rfl;rfl;rfl)|((with_reducible apply Zqx);rfl;rfl;rfl;rfl)|((with_reducible first|apply Zz|apply ZC);rfl)|refine Yi 8 i88_8 (by kernel_rfl) ?_)
        exact SK.retQ rfl (by (repeat constructor)) (fun w' hm' => ⟨((some (bN, capN, spN), oS), oE, oT), hy, rfl, hm'.wk (by (repeat constructor))⟩)
      | some k =>
        obtain ⟨nd, x, hnd, hx, h0⟩ := rdy_spec hl hr
        have hcons : ∃ rest, readyL D.nodes (ovL R.S) (bgL R.S) = k :: rest := by
          have hr' : (readyL D.nodes (ovL R.S) (bgL R.S)).head? = some k := hr
          cases hL : readyL D.nodes (ovL R.S) (bgL R.S) with
          | nil => rw [hL] at hr'; cases hr'
          | cons a l => rw [hL] at hr'; cases hr'; exact ⟨l, rfl⟩
        generalize readyL D.nodes (ovL R.S) (bgL R.S) = L at hoR hcons ⊢
        obtain ⟨rest, hcons⟩ := hcons
        have hL0 : 0 < L.length := by rw [hcons]; exact Nat.succ_pos _
        cases oR with
        | none => have : L.length = 0 := hoR.2; omega
        | some q =>
          obtain ⟨bR, capR, spR⟩ := q
          have hldk : nv (L.flatMap natC ++ spR) (0 + 0 * 1) = some (.int .i64 (k : Int)) := by rw [hcons]; rfl
          have hkl : k < R.S.nodes.length := (List.getElem?_eq_some_iff.1 hx).1
          (repeat first|(with_reducible first|apply Za|apply Zb|apply Zc|apply Zd|apply Ze|apply Zi|apply Zo|apply Zp|apply Zs)|((with_reducible refine Yz ?_);first|((with_reducible apply SK.indexAddr); rfl; rfl; rfl; exact hL0)|((with_reducible apply SK.load1); rfl; rfl; (focus (repeat (first | exact List.mem_cons_self | apply List.mem_cons_of_mem))); with_reducible exact hldk)|((with_reducible first|apply ZI|apply ZJ|apply ZK|apply ZM|apply ZN|apply ZO);rfl;rfl)|((with_reducible first|apply Zqb|apply Zqc);rfl;rfl;rfl;omega)|((with_reducible apply Zqm);rfl;rfl;rfl)|((with_reducible apply Zqs);rfl;rfl;rfl)|((with_reducible apply Zqz);rfl;rfl;(focus (repeat constructor));rfl))|((with_reducible apply Zz);rfl)|((with_reducible apply ZD);rfl)|refine Yi 8 i88_8 (by kernel_rfl) ?_)
          exact SK.retQ rfl (by (repeat constructor)) (fun w' hm' => ⟨((some (bN, capN, spN), oS), oE, oT), hy, rfl, hm'.wk (by (repeat constructor))⟩)
set_option maxRecDepth 100000 in
set_option maxHeartbeats 8000000 in
theorem on68 (c : Cx) (hT : c.T = 113) (hDO : DefOK c.D) (R : Rn) (hf : Room c.D R (80 * idle R.S + 80)) (hl : R.S.nodes.length = c.D.nodes.length) : Meth 68 c [] R (onL c.D c.now R) (.tuple #[]) := by
  intro b y w hy hD hm
  obtain ⟨T, D, dsl, now⟩ := c
  dsimp only at hT hf hDO hl ⊢
  subst hT
  obtain ⟨A, cap, hdsl, hnds⟩ := RDf.dsl hD
  dsimp only at hdsl hnds
  subst hdsl
  have hdn := hf.dn
  have hne := hDO.ne
  refine enterF (M := rnM _ b R y) Try.func68 rfl Try.ntmps68 rfl hm ?_
  (repeat first|(with_reducible first|apply Za|apply Zr))
  refine SK.loopW (fun _ : Rn × Y4 => [(0, .pointer (some ⟨b, 0, none⟩))]) (fun g => rnM ⟨113, D, .slice A D.nodes.length cap, now⟩ b g.1 g.2)
    (fun g => ORn g.1 g.2 ∧ Room D g.1 (80 * idle g.1.S + 80) ∧ g.1.S.nodes.length = D.nodes.length ∧ onL D now g.1 = onL D now R) (fun g => idle g.1.S) (R, y) ⟨hy, hf, hl, rfl⟩ (by (repeat constructor)) (by (repeat constructor)) ?_
  rintro ⟨R1, y1⟩ ⟨hy1, hr1, hl1, hon⟩
  dsimp only at hy1 hr1 hl1 hon ⊢
  have hsn := hr1.sn
  by_cases s1 : R1.S.status = 1
  · (repeat first|(with_reducible first|apply Za|apply Zb|apply Zc|apply Zd|apply Zi|apply Zo|apply Zr)|((with_reducible first|apply ZI|apply ZK|apply ZN);rfl;rfl)|((with_reducible apply ZW);rfl;rfl;rfl;omega)|((with_reducible apply Zqm);rfl;rfl;rfl)|((with_reducible apply Zqz);rfl;rfl;(focus (repeat constructor));rfl)|((with_reducible apply ZC);rfl))
    refine SK.meth rfl rfl (next88 _ rfl hDO R1 (hr1.mono (by omega)) hl1) hy1 hD (by (repeat constructor)) (by (repeat constructor)) (by (repeat constructor)) (by (repeat constructor)) (by (repeat constructor)) (fun y2 hy2 => ?_)
    dsimp only
    unfold headV
    cases hr : (rdy D R1.S).head? with
    | none =>
      obtain ⟨⟨oN, oS⟩, oE, oT⟩ := y2
      have hoN := hy2.1.1
      dsimp only at hoN
      cases oN with
      | none => have : R1.S.nodes.length = 0 := hoN.2; omega
      | some q =>
        obtain ⟨bN, capN, spN⟩ := q
        (repeat first|(with_reducible first|apply Za|apply Zb|apply Zc|apply Zd|apply Zi|apply Zj|apply Zn|apply Zo|apply Zq|apply Zr|apply Zs)|((with_reducible first|apply ZI|apply ZJ|apply ZK|apply ZN);rfl;rfl)|((with_reducible apply ZS);rfl;rfl;rfl;omega)|((with_reducible apply Zqd);rfl;rfl;rfl;omega)|((with_reducible apply Zqm);rfl;rfl;rfl)|((with_reducible apply Zqz);rfl;rfl;(focus (repeat constructor));rfl)|((with_reducible first|apply ZB|apply ZC);rfl)|((with_reducible apply ZD);rfl))
        refine SK.loopW (fun i : Nat => [(3, .int .i64 (i : Int)), (0, .pointer (some ⟨b, 0, none⟩))]) (fun _ => rnM ⟨113, D, .slice A D.nodes.length cap, now⟩ b R1 ((some (bN, capN, spN), oS), oE, oT))
          (fun i => i ≤ R1.S.nodes.length ∧ ∀ (j : Nat) (x : Ns), j < i → R1.S.nodes[j]? = some x → x.st = 3) (fun i => R1.S.nodes.length - i) 0 ⟨Nat.zero_le _, fun j _ hj => absurd hj (Nat.not_lt_zero j)⟩ (by (repeat constructor)) (by (repeat constructor)) ?_
        rintro i ⟨hi, hall⟩
        by_cases hlt : i < R1.S.nodes.length
        · obtain ⟨x, hx⟩ : ∃ x, R1.S.nodes[i]? = some x := ⟨_, List.getElem?_eq_getElem hlt⟩
          have hld := nld hx spN 0 (.int .i64 x.st) rfl
          by_cases h3 : x.st = 3
          · (repeat first|(with_reducible first|apply Za|apply Zb|apply Zc|apply Zd|apply Zi|apply Zl|apply Zo|apply Zr)|((with_reducible refine Yz ?_);first|((with_reducible apply SK.indexAddr); rfl; rfl; rfl; exact hlt)|((with_reducible apply SK.load1); rfl; rfl; (focus (repeat (first | exact List.mem_cons_self | apply List.mem_cons_of_mem))); with_reducible exact hld)|((with_reducible first|apply ZI|apply ZJ|apply ZK|apply ZM|apply ZN);rfl;rfl)|((with_reducible first|apply ZR|apply ZS);rfl;rfl;rfl;omega)|((with_reducible apply Zqd);rfl;rfl;rfl;omega)|((with_reducible apply Zqm);rfl;rfl;rfl)|((with_reducible apply Zqz);rfl;rfl;(focus (repeat constructor));rfl))|((with_reducible apply ZC);rfl)|((with_reducible apply ZD);rfl))
            exact SK.roundW (i + 1) ⟨by omega, fun j z hj hz => by
              by_cases hji : j = i
              · subst hji; rw [hx] at hz; cases hz; exact h3
              · exact hall j z (by omega) hz⟩ (by omega) (by (repeat constructor)) (by (repeat constructor))
          · have hno : R1.S.nodes.all (fun x => decide (x.st = 3)) = false := by
              rw [List.all_eq_false]
              exact ⟨x, List.mem_of_getElem? hx, by simpa using h3⟩
            have hfin : onL D now R = R1 := by rw [← hon, onL_end s1 hr, hno]; rfl
            (repeat first|(with_reducible first|apply Za|apply Zb|apply Zc|apply Zd|apply Zi|apply Zk|apply Zm|apply Zo|apply Zp|apply Zr)|((with_reducible refine Yz ?_);first|((with_reducible apply SK.indexAddr); rfl; rfl; rfl; exact hlt)|((with_reducible apply SK.load1); rfl; rfl; (focus (repeat (first | exact List.mem_cons_self | apply List.mem_cons_of_mem))); with_reducible exact hld)|((with_reducible first|apply ZI|apply ZK|apply ZM|apply ZN);rfl;rfl)|((with_reducible first|apply ZS|apply ZX);rfl;rfl;rfl;omega)|((with_reducible apply Zqm);rfl;rfl;rfl)|((with_reducible apply Zqz);rfl;rfl;(focus (repeat constructor));rfl))|((with_reducible apply ZC);rfl))
            exact SK.retQ rfl (by (repeat constructor)) (fun w' hm' => ⟨((some (bN, capN, spN), oS), oE, oT), by rw [hfin]; exact hy2, rfl, by rw [hfin]; exact hm'.wk (by (repeat constructor))⟩)
        · have hyes : R1.S.nodes.all (fun x => decide (x.st = 3)) = true := by
            rw [List.all_eq_true]
            intro x hx
            obtain ⟨j, hj⟩ := List.getElem?_of_mem hx
            have hjl := (List.getElem?_eq_some_iff.1 hj).1
            simpa using hall j x (by omega) hj
          have hfin : onL D now R = cls D R1 2 (lastT R1.S) := by rw [← hon, onL_end s1 hr, hyes]; rfl
          have esub : IntKind.i64.wrap ((R1.S.nodes.length : Int) - 1) = ((R1.S.nodes.length - 1 : Nat) : Int) := by rw [wrap64_in (by omega) (by omega)]; omega
          have hlt1 : R1.S.nodes.length - 1 < R1.S.nodes.length := by omega
          obtain ⟨z, hz⟩ : ∃ z, R1.S.nodes[R1.S.nodes.length - 1]? = some z := ⟨_, List.getElem?_eq_getElem hlt1⟩
          have hzt : z.text = lastT R1.S := by unfold lastT; rw [List.getLast?_eq_getElem?, hz]; rfl
          have hldz := nld hz spN 2 (.string z.text) rfl
          rw [hzt] at hldz
          (repeat first|(with_reducible first|apply Za|apply Zb|apply Zc|apply Zd|apply Zi|apply Zj|apply Zn|apply Zq)|((with_reducible first|apply ZI|apply ZK|apply ZM|apply ZN);rfl;rfl)|((with_reducible apply ZU);rfl;rfl;rfl;omega)|((with_reducible apply ZY);rfl;rfl;rfl;omega)|((with_reducible apply Zqm);rfl;rfl;rfl)|((with_reducible apply Zqz);rfl;rfl;(focus (repeat constructor));rfl)|((with_reducible first|apply Zz|apply ZC);rfl)|((with_reducible apply ZD);rfl)|refine Yi 10 i68_10 (by kernel_rfl) ?_)
          refine SK.isub rfl rfl rfl ?_
          rw [esub]
          (repeat first|((with_reducible apply Zz);rfl)|((with_reducible refine Yz ?_);first|((with_reducible apply SK.indexAddr); rfl; rfl; rfl; exact hlt1)|((with_reducible apply SK.load1); rfl; rfl; (focus (repeat (first | exact List.mem_cons_self | apply List.mem_cons_of_mem))); with_reducible exact hldz)|((with_reducible apply Zqm);rfl;rfl;rfl)))
          refine SK.meth rfl rfl (closed73 _ rfl R1 2 (lastT R1.S) (hr1.mono (by omega))) hy2 hD (by (repeat constructor)) (by (repeat constructor)) (by (repeat constructor)) (by (repeat constructor)) (by (repeat constructor)) (fun y3 hy3 => ?_)
          (repeat first|(with_reducible first|apply Ze|apply Zs))
          exact SK.endQ rfl (by (repeat constructor)) (fun w' hm' => ⟨y3, by rw [hfin]; exact hy3, rfl, by rw [hfin]; exact hm'.wk (by (repeat constructor))⟩)
    | some k =>
      obtain ⟨nd, x, hnd, hx, h0⟩ := rdy_spec hl1 hr
      obtain ⟨bd, o, av, rfl, hnd2⟩ := hnds k nd hnd
      have hkl : k < D.nodes.length := (List.getElem?_eq_some_iff.1 hnd).1
      have hcell := hnd2.2
      have hndm := List.mem_of_getElem? hnd
      obtain ⟨g1, g2⟩ := bgn_good (now := now) hDO hl1 s1 hr hnd
      have g3 := onL_step (now := now) hDO hl1 s1 hr hnd
      obtain ⟨hk1, hk5⟩ := hDO.kd nd hndm
      (repeat first|(with_reducible first|apply Za|apply Zb|apply Zc|apply Zd|apply Zi|apply Zo|apply Zs)|((with_reducible refine Yz ?_);first|((with_reducible apply SK.indexAddr); rfl; rfl; rfl; exact hkl)|((with_reducible apply SK.loadAR); rfl; rfl; exact hcell; rfl)|((with_reducible first|apply ZI|apply ZJ|apply ZK|apply ZN);rfl;rfl)|((with_reducible apply ZY);rfl;rfl;rfl;omega)|((with_reducible apply Zqz);rfl;rfl;(focus (repeat constructor));rfl))|((with_reducible apply ZD);rfl))
      refine SK.meth rfl rfl (begin89 _ rfl R1 nd av (hr1.mono (by omega)) hndm hk1 hk5) hy2 hD (by (repeat constructor)) (by (repeat constructor)) (by (repeat constructor)) (by (repeat constructor)) (by (repeat constructor)) (fun y3 hy3 => ?_)
      (repeat first|(with_reducible first|apply Zd|apply Zi|apply Zl|apply Zs))
      exact SK.roundW (bgn D now R1 nd, y3) ⟨hy3, Room.bgn (hr1.mono (by dsimp only; omega)) now nd, g1, by rw [← hon, g3]⟩ (by dsimp only; exact g2) (by (repeat constructor)) (by (repeat constructor))
  · have hfin : onL D now R = R1 := by rw [← hon, onL_stop s1]
    (repeat first|(with_reducible first|apply Za|apply Zb|apply Zc|apply Zd|apply Zi|apply Zj|apply Zk|apply Zn|apply Zp|apply Zq)|((with_reducible first|apply ZI|apply ZK|apply ZN);rfl;rfl)|((with_reducible apply ZX);rfl;rfl;rfl;omega)|((with_reducible apply Zqc);rfl;rfl;rfl;omega)|((with_reducible apply Zqm);rfl;rfl;rfl)|((with_reducible apply Zqz);rfl;rfl;(focus (repeat constructor));rfl)|((with_reducible apply ZC);rfl)|((with_reducible apply ZD);rfl))
    exact SK.retQ rfl (by (repeat constructor)) (fun w' hm' => ⟨y1, by rw [hfin]; exact hy1, rfl, by rw [hfin]; exact hm'.wk (by (repeat constructor))⟩)
end Go.Proofs.Ytdnjfmgldkommaa
