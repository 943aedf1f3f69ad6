/- Proved here: an event is applied: the document. -/
import Derived.Test.YtdnjfmgldkommaaFc
namespace Go.Proofs.Ytdnjfmgldkommaa
open Go.Sx
def TextOK (S : Sta) : Prop := ∀ x ∈ S.nodes, x.st ≠ 3 → x.st ≠ 4 → x.text = ⟨#[]⟩
structure Rn where
  S : Sta
  ev : List Ev
  tk : List Tk
@[reducible] def e0 : ByteArray := ⟨#[]⟩
@[reducible] def ml0 : Ml := ⟨0, e0, e0, e0, e0, e0, 0⟩
@[reducible] def slash : ByteArray := ⟨#[47]⟩
@[reducible] def longT : ByteArray := ⟨#[108, 111, 110, 103]⟩
@[reducible] def timeoutT : ByteArray := ⟨#[116, 105, 109, 101, 111, 117, 116]⟩
def happ (D : Df) (R : Rn) (e : Ev) : Rn := { R with S := (applyL D R.S e).getD R.S, ev := R.ev ++ [e] }
def tsk (R : Rn) (t : Tk) : Rn := { R with tk := R.tk ++ [{ t with flow := R.S.id }] }
def mlr (R : Rn) (m : Ml) : Rn := tsk R ⟨3, e0, e0, 0, 0, { m with from_ := R.S.id }⟩
def chl (S : Sta) (n : Nd) : ByteArray := S.id ++ slash ++ n.name
def cnc (R : Rn) (text : ByteArray) (n : Option Nd) (x : Option Ns) : Rn :=
  match n, x with
  | some n, some x => if n.kind = 3 ∧ x.st = 2 then mlr R ⟨4, chl R.S n, e0, n.name, e0, text, 0⟩ else R
  | _, _ => R
def clm (D : Df) (text : ByteArray) (R : Rn) : Nat → Rn
  | 0 => R
  | k + 1 => cnc (clm D text R k) text D.nodes[k]? R.S.nodes[k]?
def par (R : Rn) (status : Int) (text : ByteArray) : Rn := if R.S.parent = e0 then R else mlr R ⟨2, R.S.parent, e0, R.S.pnode, e0, text, status⟩
def cls (D : Df) (R : Rn) (status : Int) (text : ByteArray) : Rn := par (clm D text (happ D R ⟨15, e0, text, status⟩) D.nodes.length) status text
def bgn (D : Df) (now : Int) (R : Rn) (n : Nd) : Rn :=
  if n.kind = 1 then tsk (happ D R ⟨2, n.name, e0, 0⟩) ⟨1, e0, n.name, 1, 0, ml0⟩
  else if n.kind = 2 then tsk (happ D R ⟨7, n.name, e0, IntKind.i64.wrap (now + n.delay)⟩) ⟨2, e0, n.name, 0, IntKind.i64.wrap (now + n.delay), ml0⟩
  else if n.kind = 3 then
    (if 256 < (chl R.S n).size then cls D (happ D R ⟨6, n.name, longT, 0⟩) 3 longT
     else mlr (happ D R ⟨9, n.name, e0, 0⟩) ⟨1, chl (happ D R ⟨9, n.name, e0, 0⟩).S n, e0, n.name, n.arg, e0, 0⟩)
  else if n.kind = 4 then
    (match kI R.S.sigs n.arg with
     | some k => happ D R ⟨12, n.name, ((R.S.sigs[k]?).map (·.text)).getD e0, 1⟩
     | none => happ D R ⟨11, n.name, e0, 0⟩)
  else mlr (happ D R ⟨14, n.name, e0, 0⟩) ⟨3, n.to_, e0, n.name, n.arg, e0, 0⟩
def ovL (S : Sta) : List Bool := S.nodes.map fun x => decide (x.st = 3)
def bgL (S : Sta) : List Bool := S.nodes.map fun x => decide (x.st ≠ 0)
def rdy (D : Df) (S : Sta) : List Nat := readyL D.nodes (ovL S) (bgL S)
def lastT (S : Sta) : ByteArray := (S.nodes.getLast?.map (·.text)).getD e0
def onF (D : Df) (now : Int) : Nat → Rn → Rn
  | 0, R => R
  | f + 1, R =>
    if R.S.status = 1 then
      (match (rdy D R.S).head? with
       | some i => (match D.nodes[i]? with
         | some n => onF D now f (bgn D now R n)
         | none => R)
       | none => if R.S.nodes.all (fun x => decide (x.st = 3)) = true then cls D R 2 (lastT R.S) else R)
    else R
def idle (S : Sta) : Nat := S.nodes.countP fun x => decide (x.st = 0)
def onL (D : Df) (now : Int) (R : Rn) : Rn := onF D now (idle R.S + 1) R
def nodeL (D : Df) (S : Sta) (s : ByteArray) : Option (Nd × Ns) :=
  match fI D.nodes s with
  | none => none
  | some i => match D.nodes[i]?, S.nodes[i]? with
    | some n, some x => some (n, x)
    | _, _ => none
def nameB (b : UInt8) (sl : Bool) : Bool := (97 ≤ b && b ≤ 122) || (65 ≤ b && b ≤ 90) || (48 ≤ b && b ≤ 57) || b == 46 || b == 45 || b == 95 || (b == 47 && sl)
def nameL (s : ByteArray) (sl : Bool) (most : Nat) : Bool := s.toList.all (nameB · sl) && decide (1 ≤ s.size) && decide (s.size ≤ most)
def failL (D : Df) (R : Rn) (n : Nd) (x : Ns) (text : ByteArray) : Rn :=
  if x.try_ < n.tries then tsk (happ D R ⟨5, n.name, text, x.try_⟩) ⟨1, e0, n.name, IntKind.i64.wrap (x.try_ + 1), 0, ml0⟩
  else cls D (happ D R ⟨6, n.name, text, 0⟩) 3 text
def waits (D : Df) (S : Sta) (s : ByteArray) : Option Nat := (List.range D.nodes.length).find? fun i =>
  match D.nodes[i]?, S.nodes[i]? with
  | some n, some x => decide (n.kind = 4) && decide (n.arg = s) && decide (x.st = 2)
  | _, _ => false
def signalL (D : Df) (now : Int) (R : Rn) (a : Inp) : Int × Rn :=
  if nameL a.name false 64 = false then (17, R)
  else if 256 < a.text.size then (9, R)
  else match waits D R.S a.name with
    | some i => (0, onL D now (happ D R ⟨12, ((D.nodes[i]?).map (·.name)).getD e0, a.text, 0⟩))
    | none => if 32 ≤ R.S.sigs.length then (8, R) else (0, happ D R ⟨13, a.name, a.text, 0⟩)
def takeL (D : Df) (now : Int) (R : Rn) (a : Inp) : Int × Rn :=
  match nodeL D R.S a.node with
  | none => (6, R)
  | some (n, x) =>
    if n.kind = 1 then
      (if x.st = 1 then (0, (if 0 < n.delay then tsk (happ D R ⟨3, n.name, e0, IntKind.i64.wrap (x.try_ + 1)⟩) ⟨2, e0, n.name, IntKind.i64.wrap (x.try_ + 1), IntKind.i64.wrap (now + n.delay), ml0⟩
        else happ D R ⟨3, n.name, e0, IntKind.i64.wrap (x.try_ + 1)⟩)) else (12, R))
    else (6, R)
def endsL (D : Df) (now : Int) (R : Rn) (a : Inp) : Int × Rn :=
  match nodeL D R.S a.node with
  | none => (6, R)
  | some (n, x) =>
    if n.kind = 1 ∨ (a.kind = 6 ∧ n.kind = 2) then
      (if x.st ≠ 2 ∨ (n.kind = 1 ∧ x.try_ ≠ a.try_) then (12, R)
       else if a.kind ≠ 6 ∧ 256 < a.text.size then (9, R)
       else if n.kind = 2 then (0, onL D now (happ D R ⟨8, n.name, e0, 0⟩))
       else if a.kind = 4 then (0, onL D now (happ D R ⟨4, n.name, a.text, 0⟩))
       else (0, failL D R n x (if a.kind = 6 then timeoutT else a.text)))
    else (6, R)
def toldL (D : Df) (now : Int) (R : Rn) (a : Inp) : Int × Rn :=
  match nodeL D R.S a.node with
  | none => (6, R)
  | some (n, x) =>
    if n.kind = 3 then
      (if x.st ≠ 2 then (12, R)
       else if a.status = 2 then (0, onL D now (happ D R ⟨10, n.name, a.text, 0⟩))
       else (0, cls D (happ D R ⟨6, n.name, a.text, 0⟩) 3 a.text))
    else (6, R)
def stepR (D : Df) (now : Int) (R : Rn) (a : Inp) : Int × Rn :=
  if a.kind = 1 then (if R.S.status ≠ 0 then (7, R) else (0, onL D now (happ D { R with S := { R.S with id := a.name } } ⟨1, a.pnode, a.parent, 0⟩)))
  else if R.S.status = 0 then (6, R)
  else if R.S.status ≠ 1 then (11, R)
  else if a.kind = 2 then signalL D now R a
  else if a.kind = 3 then takeL D now R a
  else if a.kind = 4 ∨ a.kind = 5 ∨ a.kind = 6 then endsL D now R a
  else if a.kind = 7 then toldL D now R a
  else if a.kind = 8 then (if 256 < a.text.size then (9, R) else (0, cls D R 4 a.text))
  else (1, R)
section
variable {P : Program} {w0 : World} {Mod : List Nat} {n : Nat} {F : FL} {M : ML} {Q : Exit → Act → World → Prop}
theorem SK.atR (id : Nat) {ops : Array Oper} {b : Bool} {y : Code} (h : SK w0 Mod n ((Code.seq (Code.region id ops b) y).wp P Q) F M) : SK w0 Mod n ((Code.seq (Code.region id ops b) y).wp P Q) F M := h
end
def No (p : Prop) : Prop := ¬p
def q28 (D : Df) (S : Sta) (e : Ev) (z : Option (OwnD × OwnD)) : Prop := match z with
  | some y => ∃ S', applyL D S e = some S' ∧ OSt S' y
  | none => applyL D S e = none
@[reducible] def v28 (D : Df) (S : Sta) (e : Ev) (sv : Value) (z : Option (OwnD × OwnD)) : Value := match z with
  | some y => .tuple #[stV ((applyL D S e).getD S) y, .int .i64 0]
  | none => .tuple #[sv, .int .i64 12]
@[reducible] def m28 (D : Df) (S : Sta) (e : Ev) (z : Option (OwnD × OwnD)) : ML := match z with
  | some y => stM ((applyL D S e).getD S) y
  | none => []
theorem applyL_none {D : Df} {S : Sta} {e : Ev} (h : applyQ D S e = none) : applyL D S e = none := by unfold applyL; rw [h]; rfl
theorem applyL_some {D : Df} {S T : Sta} {e : Ev} (h : applyQ D S e = some T) : applyL D S e = some { T with events := IntKind.i64.wrap (T.events + 1) } := by unfold applyL; rw [h]; rfl
theorem applyQ_gen {D : Df} {S : Sta} {e : Ev} (k1 : ¬e.kind = 1) (s1 : S.status = 1) (k13 : ¬e.kind = 13) (k15 : ¬e.kind = 15) :
    applyQ D S e = (match fI D.nodes e.node with
      | none => none
      | some i => match D.nodes[i]?, S.nodes[i]? with
        | some nd, some x => (match moveL nd.kind x e (kI S.sigs nd.arg) with
          | some r => some { S with nodes := mvN S.nodes i (some r), sigs := mvG S.sigs (kI S.sigs nd.arg) (some r) }
          | none => none)
        | _, _ => none) := by
  unfold applyQ
  rw [if_neg k1, if_pos s1, if_neg k13, if_neg k15]
  rfl
theorem ok_set {bN capN : Nat} {spN : List Value} {l : List Ns} {i : Nat} {y : Ns} (h : OwnD.ok (some (bN, capN, spN)) l.length 3 (l.flatMap Ns.c)) :
    OwnD.ok (some (bN, capN, spN)) (l.set i y).length 3 ((l.set i y).flatMap Ns.c) := by
  simp only [OwnD.ok, List.length_append, flat_len ns_len, List.length_set] at h ⊢
  exact ⟨trivial, h.2.1, h.2.2.1, h.2.2.2⟩
theorem sg_view {V : View} {S : Sta} {oN : OwnD} {bG capG : Nat} {spG : List Value} (h : RSt V (stV S (oN, some (bG, capG, spG))) S) :
    ∀ (j : Nat) (u : Value), (S.sigs.flatMap Sg.c)[j]? = some u → V bG (0 + j) u := by
  intro j u hu
  obtain ⟨n, s, he, _, A, cap, h1, h2⟩ := h
  have e1 : s = .slice (some ⟨bG, 0, none⟩) S.sigs.length capG := by
    have := congrArg (fun v => match v with | .agg a => a[7]? | _ => none) he
    simp [OwnD.val] at this
    exact this.symm
  rw [e1] at h1
  injection h1 with h1 _ _
  rcases h2 with h2 | ⟨b, o, h2, h3⟩
  · rw [h2] at hu; simp at hu
  · rw [h2] at h1
    injection h1 with h1
    injection h1 with e2 e3 _
    subst e2; subst e3
    exact h3 j u hu
theorem flat_take {l : List Sg} {k : Nat} (j : Nat) (v : Value) (h : ((l.take k).flatMap Sg.c)[j]? = some v) : (l.flatMap Sg.c)[j]? = some v := by
  conv => lhs; rw [← List.take_append_drop k l, List.flatMap_append]
  rw [List.getElem?_append_left (List.getElem?_eq_some_iff.1 h).1]; exact h
theorem src_drop {w0 : World} {Mod : List Nat} {M : ML} {l : List Sg} {k bG capG : Nat} (hv : ∀ (j : Nat) (u : Value), (l.flatMap Sg.c)[j]? = some u → Vw w0 Mod bG (0 + j) u) (hk : l.length ≤ capG) :
    Src w0 Mod M (if capG = k + 1 then some ⟨bG, 0, none⟩ else (some (⟨bG, 0, none⟩ : Addr)).map (·.add ((k + 1) * 2))) ((l.drop (k + 1)).flatMap Sg.c) := by
  by_cases hd : l.drop (k + 1) = []
  · rw [hd]; exact Src.nil
  · have hlt : k + 1 < l.length := by
      rcases Nat.lt_or_ge (k + 1) l.length with h | h
      · exact h
      · exact absurd (List.drop_eq_nil_of_le h) hd
    rw [if_neg (by omega)]
    simp only [Option.map, add_lit, Nat.zero_add]
    refine Src.view fun j v hj => ?_
    have := hv ((k + 1) * 2 + j) v (by
      conv => lhs; rw [← List.take_append_drop (k + 1) l, List.flatMap_append]
      have e : ((l.take (k + 1)).flatMap Sg.c).length = (k + 1) * 2 := by rw [flat_len sg_len, List.length_take, Nat.min_eq_left (by omega)]
      rw [List.getElem?_append_right (by omega), e, Nat.add_sub_cancel_left]; exact hj)
    rw [Nat.zero_add] at this; exact this
set_option maxRecDepth 100000 in
set_option maxHeartbeats 4000000 in
theorem apply28 (dv : Value) (D : Df) (S : Sta) (y0 : OwnD × OwnD) (e : Ev) (hsm : Small S) (hn : D.nodes.length ≤ 64) (hy0 : OSt S y0) (htx : TextOK S) (w : World) (hd : RDf (Vw w []) dv D) (hs : RSt (Vw w []) (stV S y0) S) :
    Calls Try.prog 28 [dv, stV S y0, .agg e.c.toArray].toArray w (Ret w [] (q28 D S e) (v28 D S e (stV S y0)) (m28 D S e)) := by
  obtain ⟨A, cap, rfl, hnds⟩ := hd.nds
  obtain ⟨hsm1, hsm2⟩ := id hsm
  refine enter0 Try.func28 rfl Try.ntmps28 rfl ?_
  (repeat first|(with_reducible first|apply Za|apply Zb|apply Zc|apply Zd|apply Zi|apply Zs)|((with_reducible apply ZJ);rfl;rfl)|((with_reducible apply Zra);rfl;rfl;(focus (repeat constructor));rfl)|((with_reducible apply Zrf);rfl;rfl;intro _)|((with_reducible apply Zrg);rfl;intro _))
  refine SK.callO rfl rfl (fun w1 g1 _ => copied45 _ S w1 (hs.mono g1) hsm) ?_
  rintro ⟨oN, oS⟩ ⟨hoN, hoS⟩
  dsimp only at hoN hoS
  (repeat first|(with_reducible first|apply Za|apply Zb|apply Zc|apply Zd|apply Zi|apply Zs)|((with_reducible apply ZK);rfl;rfl)|((with_reducible apply Zqz);rfl;rfl;(focus (repeat constructor));rfl)|((with_reducible apply Zrc);rfl;rfl;rfl;exact List.cons_ne_nil _ _;(first|rfl|(repeat first|exact plain_nil|(refine plain_cons (by first|rfl|exact OwnD.plain_val _ _) ?_)));(focus (repeat constructor));rfl)|((with_reducible apply Zrg);rfl;intro _))
  refine SK.iadd rfl rfl rfl ?_
  by_cases k1 : e.kind = 1
  · by_cases s0 : S.status = 0
    · have hr := applyL_some (D := D) (S := S) (e := e) (by unfold applyQ; rw [if_pos k1, if_pos s0])
      (repeat first|(with_reducible first|apply Za|apply Zb|apply Zc|apply Zd|apply Ze|apply Zi|apply Zo|apply Zs)|((with_reducible first|apply ZK|apply ZM);rfl;rfl)|((with_reducible apply ZW);rfl;rfl;rfl;omega)|((with_reducible apply Zqd);rfl;rfl;rfl;omega)|((with_reducible apply Zqz);rfl;rfl;(focus (repeat constructor));rfl)|((with_reducible apply Zrb);rfl;rfl;(first|rfl|exact OwnD.plain_val _ _);(focus (repeat constructor));rfl)|((with_reducible first|apply Zz|apply ZC);rfl)|((with_reducible apply ZD);rfl)|((with_reducible apply ZE);rfl;infer_instance;rfl;(focus (repeat constructor));rfl;rfl)|refine Yi 6 i28_6 (by kernel_rfl) ?_)
      refine SK.makeN rfl rfl rfl (by omega) (fun b27 hb => ?_)
      (repeat first|(with_reducible first|apply Za|apply Zb|apply Zc|apply Zd|apply Zi|apply Zk|apply Zp|apply Zs)|((with_reducible first|apply ZJ|apply ZK);rfl;rfl)|((with_reducible apply Zra);rfl;rfl;(focus (repeat constructor));rfl)|((with_reducible apply Zrb);rfl;rfl;(first|rfl|exact OwnD.plain_val _ _);(focus (repeat constructor));rfl)|((with_reducible apply Zrc);rfl;rfl;rfl;exact List.cons_ne_nil _ _;(first|rfl|(repeat first|exact plain_nil|(refine plain_cons (by first|rfl|exact OwnD.plain_val _ _) ?_)));(focus (repeat constructor));rfl))
      refine SK.retQ rfl (by (repeat constructor)) (fun w' hm' => ⟨some (some (b27, D.nodes.length, []), oS), ⟨_, hr, hb, hoS⟩, ?_, ?_⟩)
      · simp only [v28, hr, Option.getD_some, stV, List.length_replicate, OwnD.val]; rfl
      · simp only [m28, hr, Option.getD_some]; exact hm'.wk (by (repeat constructor))
    · have hr := applyL_none (D := D) (S := S) (e := e) (by unfold applyQ; rw [if_pos k1, if_neg s0])
      (repeat first|(with_reducible first|apply Za|apply Zb|apply Zc|apply Zd|apply Zi|apply Zk|apply Zp|apply Zs)|((with_reducible first|apply ZJ|apply ZK);rfl;rfl)|((with_reducible first|apply ZW|apply ZX);rfl;rfl;rfl;omega)|((with_reducible first|apply Zqz|apply Zra);rfl;rfl;(focus (repeat constructor));rfl)|((with_reducible apply Zrb);rfl;rfl;(first|rfl|exact OwnD.plain_val _ _);(focus (repeat constructor));rfl)|((with_reducible apply Zrc);rfl;rfl;rfl;exact List.cons_ne_nil _ _;(first|rfl|(repeat first|exact plain_nil|(refine plain_cons (by first|rfl|exact OwnD.plain_val _ _) ?_)));(focus (repeat constructor));rfl)|((with_reducible apply ZC);rfl))
      exact SK.retQ rfl (by (repeat constructor)) (fun w' hm' => ⟨none, hr, rfl, hm'.wk (by (repeat constructor))⟩)
  · by_cases s1 : S.status = 1
    · by_cases k13 : e.kind = 13
      · have hr := applyL_some (D := D) (S := S) (e := e) (by unfold applyQ; rw [if_neg k1, if_pos s1, if_pos k13])
        (repeat first|(with_reducible first|apply Za|apply Zb|apply Zc|apply Zd|apply Zi|apply Zo|apply Zs)|((with_reducible apply ZK);rfl;rfl)|((with_reducible apply ZW);rfl;rfl;rfl;omega)|((with_reducible first|apply Zqc|apply Zqd);rfl;rfl;rfl;omega)|((with_reducible apply Zqr);rfl;rfl;rfl)|((with_reducible apply Zqz);rfl;rfl;(focus (repeat constructor));rfl)|((with_reducible apply Zrb);rfl;rfl;(first|rfl|exact OwnD.plain_val _ _);(focus (repeat constructor));rfl)|((with_reducible apply Zrd);rfl;rfl;rfl;rfl;rfl;rfl;rfl;intro _)|((with_reducible apply ZC);rfl)|((with_reducible apply ZD);rfl))
        refine SK.appendP (o := oS) (xs := S.sigs.flatMap Sg.c) (news := [.string e.node, .string e.text]) (m := 1) rfl rfl hoS rfl (by (repeat constructor)) (Src.mem (by (repeat constructor)) rfl) rfl rfl rfl rfl (by unfold maxLen; omega) (by omega) (fun o1 ho1 _ => ?_)
        (repeat first|(with_reducible first|apply Za|apply Zb|apply Zc|apply Zd|apply Zi|apply Zk|apply Zp|apply Zs)|((with_reducible first|apply ZJ|apply ZK);rfl;rfl)|((with_reducible apply Zra);rfl;rfl;(focus (repeat constructor));rfl)|((with_reducible apply Zrb);rfl;rfl;(first|rfl|exact OwnD.plain_val _ _);(focus (repeat constructor));rfl)|((with_reducible apply Zrc);rfl;rfl;rfl;exact List.cons_ne_nil _ _;(first|rfl|(repeat first|exact plain_nil|(refine plain_cons (by first|rfl|exact OwnD.plain_val _ _) ?_)));(focus (repeat constructor));rfl))
        refine SK.retQ rfl (by (repeat constructor)) (fun w' hm' => ⟨some (oN, o1), ⟨_, hr, hoN, ?_⟩, ?_, ?_⟩)
        · simp only [sg_snoc, List.length_append, List.length_singleton]; exact ho1
        · simp only [v28, hr, Option.getD_some, stV, List.length_append, List.length_singleton]; rfl
        · simp only [m28, hr, Option.getD_some, stM, sg_snoc]; exact hm'.wk (by (repeat constructor))
      · by_cases k15 : e.kind = 15
        · by_cases hnum : e.number < 2 ∨ e.number > 4
          · have hr := applyL_none (D := D) (S := S) (e := e) (by unfold applyQ; rw [if_neg k1, if_pos s1, if_neg k13, if_pos k15, if_neg (by omega)])
            by_cases h2 : e.number < 2
            · (repeat first|(with_reducible first|apply Za|apply Zb|apply Zc|apply Zd|apply Zi|apply Zk|apply Zo|apply Zp|apply Zs)|((with_reducible first|apply ZI|apply ZJ|apply ZK);rfl;rfl)|((with_reducible first|apply ZS|apply ZW);rfl;rfl;rfl;omega)|((with_reducible first|apply Zqc|apply Zqd);rfl;rfl;rfl;omega)|((with_reducible apply Zqo);rfl;rfl;rfl)|((with_reducible apply Zqx);rfl;rfl;rfl;rfl)|((with_reducible first|apply Zqz|apply Zra);rfl;rfl;(focus (repeat constructor));rfl)|((with_reducible apply Zrb);rfl;rfl;(first|rfl|exact OwnD.plain_val _ _);(focus (repeat constructor));rfl)|((with_reducible apply Zrc);rfl;rfl;rfl;exact List.cons_ne_nil _ _;(first|rfl|(repeat first|exact plain_nil|(refine plain_cons (by first|rfl|exact OwnD.plain_val _ _) ?_)));(focus (repeat constructor));rfl)|((with_reducible apply ZC);rfl)|((with_reducible apply ZD);rfl))
              exact SK.retQ rfl (by (repeat constructor)) (fun w' hm' => ⟨none, hr, rfl, hm'.wk (by (repeat constructor))⟩)
            · have h4 : e.number > 4 := by omega
              (repeat first|(with_reducible first|apply Za|apply Zb|apply Zc|apply Zd|apply Zi|apply Zk|apply Zo|apply Zp|apply Zs)|((with_reducible first|apply ZI|apply ZJ|apply ZK|apply ZO);rfl;rfl)|((with_reducible first|apply ZU|apply ZW);rfl;rfl;rfl;omega)|((with_reducible first|apply ZY|apply Zqc|apply Zqd);rfl;rfl;rfl;omega)|((with_reducible apply Zqs);rfl;rfl;rfl)|((with_reducible first|apply Zqz|apply Zra);rfl;rfl;(focus (repeat constructor));rfl)|((with_reducible apply Zrb);rfl;rfl;(first|rfl|exact OwnD.plain_val _ _);(focus (repeat constructor));rfl)|((with_reducible apply Zrc);rfl;rfl;rfl;exact List.cons_ne_nil _ _;(first|rfl|(repeat first|exact plain_nil|(refine plain_cons (by first|rfl|exact OwnD.plain_val _ _) ?_)));(focus (repeat constructor));rfl)|((with_reducible apply ZC);rfl)|((with_reducible apply ZD);rfl))
              exact SK.retQ rfl (by (repeat constructor)) (fun w' hm' => ⟨none, hr, rfl, hm'.wk (by (repeat constructor))⟩)
          · have hr := applyL_some (D := D) (S := S) (e := e) (by unfold applyQ; rw [if_neg k1, if_pos s1, if_neg k13, if_pos k15, if_pos (by omega)])
            have h2 : ¬ e.number < 2 := by omega
            have h4 : ¬ e.number > 4 := by omega
            (repeat first|(with_reducible first|apply Za|apply Zb|apply Zc|apply Zd|apply Ze|apply Zi|apply Zk|apply Zo|apply Zp|apply Zs)|((with_reducible first|apply ZI|apply ZJ|apply ZK|apply ZO);rfl;rfl)|((with_reducible apply ZW);rfl;rfl;rfl;omega)|((with_reducible first|apply ZY|apply Zqa|apply Zqc|apply Zqd);rfl;rfl;rfl;omega)|((with_reducible apply Zqs);rfl;rfl;rfl)|((with_reducible first|apply Zqz|apply Zra);rfl;rfl;(focus (repeat constructor));rfl)|((with_reducible apply Zrb);rfl;rfl;(first|rfl|exact OwnD.plain_val _ _);(focus (repeat constructor));rfl)|((with_reducible apply Zrc);rfl;rfl;rfl;exact List.cons_ne_nil _ _;(first|rfl|(repeat first|exact plain_nil|(refine plain_cons (by first|rfl|exact OwnD.plain_val _ _) ?_)));(focus (repeat constructor));rfl)|((with_reducible first|apply Zz|apply ZC);rfl)|((with_reducible apply ZD);rfl)|((with_reducible apply ZE);rfl;infer_instance;rfl;(focus (repeat constructor));rfl;rfl)|refine Yi 17 i28_17 (by kernel_rfl) ?_)
            refine SK.retQ rfl (by (repeat constructor)) (fun w' hm' => ⟨some (oN, oS), ⟨_, hr, hoN, hoS⟩, ?_, ?_⟩)
            · simp only [v28, hr, Option.getD_some]; rfl
            · simp only [m28, hr, Option.getD_some]; exact hm'.wk (by (repeat constructor))
        · have hgen := applyQ_gen (D := D) (S := S) (e := e) k1 s1 k13 k15
          (repeat first|(with_reducible first|apply Za|apply Zb|apply Zc|apply Zd|apply Zi|apply Zo|apply Zs)|((with_reducible apply ZK);rfl;rfl)|((with_reducible first|apply Zqc|apply Zqd);rfl;rfl;rfl;omega)|((with_reducible first|apply Zqz|apply Zra);rfl;rfl;(focus (repeat constructor));rfl)|((with_reducible apply Zrb);rfl;rfl;(first|rfl|exact OwnD.plain_val _ _);(focus (repeat constructor));rfl)|((with_reducible apply ZD);rfl))
          refine SK.callA rfl rfl (fun w1 g1 g2 => find21 _ D e.node w1 (hd.mono g1) (by omega)) ?_
          unfold findV
          cases hf : fI D.nodes e.node with
          | none =>
            rw [hf] at hgen
            have hr := applyL_none hgen
            (repeat first|(with_reducible first|apply Za|apply Zb|apply Zc|apply Zd|apply Zi|apply Zk|apply Zp|apply Zs)|((with_reducible first|apply ZI|apply ZJ);rfl;rfl)|((with_reducible apply ZP);rfl;rfl)|((with_reducible first|apply Zqn|apply Zqo);rfl;rfl;rfl)|((with_reducible apply Zqx);rfl;rfl;rfl;rfl)|((with_reducible apply Zra);rfl;rfl;(focus (repeat constructor));rfl)|((with_reducible apply Zrc);rfl;rfl;rfl;exact List.cons_ne_nil _ _;(first|rfl|(repeat first|exact plain_nil|(refine plain_cons (by first|rfl|exact OwnD.plain_val _ _) ?_)));(focus (repeat constructor));rfl)|((with_reducible apply ZC);rfl))
            exact SK.retQ rfl (by (repeat constructor)) (fun w' hm' => ⟨none, hr, rfl, hm'.wk (by (repeat constructor))⟩)
          | some i =>
            obtain ⟨nd, hnd, hndn⟩ := fI_get hf
            rw [hf] at hgen
            simp only [hnd] at hgen
            obtain ⟨b, o, av, rfl, hnd2⟩ := hnds i nd hnd
            have hilt : i < D.nodes.length := (List.getElem?_eq_some_iff.1 hnd).1
            have hnn : ¬ ((i : Int) < 0) := by omega
            cases oN with
            | none =>
              have h0 : S.nodes.length = 0 := hoN.2
              rw [List.getElem?_eq_none (by omega)] at hgen
              have hr := applyL_none hgen
              have hlt : ¬ i < S.nodes.length := by omega
              simp only [OwnD.val]
              (repeat first|(with_reducible first|apply Za|apply Zb|apply Zc|apply Zd|apply Zi|apply Zk|apply Zp|apply Zs)|((with_reducible first|apply ZI|apply ZJ|apply ZK|apply ZM|apply ZO);rfl;rfl)|((with_reducible apply ZP);rfl;rfl)|((with_reducible apply ZV);rfl;rfl;rfl;omega)|((with_reducible apply Zqn);rfl;rfl;rfl)|((with_reducible apply Zqs);rfl;rfl;rfl)|((with_reducible first|apply Zqz|apply Zra);rfl;rfl;(focus (repeat constructor));rfl)|((with_reducible apply Zrc);rfl;rfl;rfl;exact List.cons_ne_nil _ _;(first|rfl|(repeat first|exact plain_nil|(refine plain_cons (by first|rfl|exact OwnD.plain_val _ _) ?_)));(focus (repeat constructor));rfl)|((with_reducible apply ZC);rfl))
              exact SK.retQ rfl (by (repeat constructor)) (fun w' hm' => ⟨none, hr, rfl, hm'.wk (by (repeat constructor))⟩)
            | some q =>
              obtain ⟨bN, capN, spN⟩ := q
              by_cases hlt : i < S.nodes.length
              · have hcell := hnd2.2
                obtain ⟨x, hx⟩ : ∃ x, S.nodes[i]? = some x := ⟨_, List.getElem?_eq_getElem hlt⟩
                have hxm : x ∈ S.nodes := List.mem_of_getElem? hx
                have hxt := htx x hxm
                rw [hx] at hgen
                simp only at hgen
                have hld := nld hx spN 0 (.int .i64 x.st) rfl
                have fin : ∀ (x' : Ns), moveL nd.kind x e (kI S.sigs nd.arg) = some (x', false) → applyL D S e = some { S with nodes := S.nodes.set i x', events := IntKind.i64.wrap (S.events + 1) } := by
                  intro x' hmv
                  rw [hmv] at hgen
                  exact applyL_some hgen
                (repeat ((fail_if_success (with_reducible refine SK.atR 25 ?_)); first|(with_reducible first|apply Za|apply Zb|apply Zc|apply Zd|apply Ze|apply Zi|apply Zo|apply Zr|apply Zs)|((with_reducible refine Yz ?_);first|((with_reducible apply SK.indexAddr); rfl; rfl; rfl; first | exact hlt | exact hilt)|((with_reducible apply SK.load1R); rfl; rfl; exact hcell 1 _ rfl)|((with_reducible apply SK.load1); rfl; rfl; (focus (repeat (first | exact List.mem_cons_self | apply List.mem_cons_of_mem))); with_reducible exact hld)|((with_reducible first|apply ZI|apply ZJ|apply ZK|apply ZM|apply ZO);rfl;rfl)|((with_reducible apply ZP);rfl;rfl)|((with_reducible apply Zqb);rfl;rfl;rfl;omega)|((with_reducible first|apply Zqm|apply Zqn);rfl;rfl;rfl)|((with_reducible apply Zqs);rfl;rfl;rfl)|((with_reducible apply Zqz);rfl;rfl;(focus (repeat constructor));rfl))|((with_reducible apply Zz);rfl)|((with_reducible apply ZD);rfl)|refine Yi 22 i28_22 (by kernel_rfl) ?_))
                refine SK.test 111 (e.kind = 2 ∧ nd.kind = 1 ∧ x.st = 0) ?_ (fun hp => ?_) (fun hn => ?_)
                · by_cases ka : e.kind = 2
                  · by_cases kb : nd.kind = 1
                    · by_cases kc : x.st = 0
                      · (repeat first|(with_reducible first|apply Zb|apply Zc|apply Zd|apply Zi)|((with_reducible first|apply ZI|apply ZJ|apply ZK|apply ZO);rfl;rfl)|((with_reducible apply ZW);rfl;rfl;rfl;omega)|((with_reducible apply Zqo);rfl;rfl;rfl)|((with_reducible apply Zqz);rfl;rfl;(focus (repeat constructor));rfl))
                        exact SK.outcome (by (repeat constructor)) (by (repeat constructor)) (by simp [ka, kb, kc])
                      · (repeat first|(with_reducible first|apply Zb|apply Zc|apply Zd|apply Zi)|((with_reducible first|apply ZI|apply ZJ|apply ZK|apply ZO);rfl;rfl)|((with_reducible apply ZW);rfl;rfl;rfl;omega)|((with_reducible apply Zqc);rfl;rfl;rfl;omega)|((with_reducible apply Zqo);rfl;rfl;rfl)|((with_reducible apply Zqz);rfl;rfl;(focus (repeat constructor));rfl))
                        exact SK.outcome (by (repeat constructor)) (by (repeat constructor)) (by simp [kc])
                    · (repeat first|(with_reducible first|apply Zb|apply Zc|apply Zd|apply Zi)|((with_reducible first|apply ZI|apply ZJ|apply ZK|apply ZO);rfl;rfl)|((with_reducible apply ZW);rfl;rfl;rfl;omega)|((with_reducible apply Zqc);rfl;rfl;rfl;omega)|((with_reducible apply Zqo);rfl;rfl;rfl)|((with_reducible apply Zqs);rfl;rfl;rfl)|((with_reducible apply Zqx);rfl;rfl;rfl;rfl)|((with_reducible apply Zqz);rfl;rfl;(focus (repeat constructor));rfl))
                      exact SK.outcome (by (repeat constructor)) (by (repeat constructor)) (by simp [kb])
                  · (repeat first|(with_reducible first|apply Zb|apply Zc|apply Zd|apply Zi)|((with_reducible first|apply ZI|apply ZJ|apply ZK);rfl;rfl)|((with_reducible apply Zqc);rfl;rfl;rfl;omega)|((with_reducible apply Zqs);rfl;rfl;rfl)|((with_reducible apply Zqx);rfl;rfl;rfl;rfl)|((with_reducible apply Zqz);rfl;rfl;(focus (repeat constructor));rfl))
                    exact SK.outcome (by (repeat constructor)) (by (repeat constructor)) (by simp [ka])
                · have hr := fin { x with st := 1 } (by obtain ⟨h1, h2, h3⟩ := hp; simp [moveL, isL, h1, h2, h3])
                  have ha := nst hx spN { x with st := 1 } 0 (.int .i64 1) (by omega) rfl
                  (repeat first|(with_reducible first|apply Za|apply Zb|apply Zc|apply Zd|apply Zi|apply Zl|apply Zo|apply Zp|apply Zs)|((with_reducible refine Yz ?_);first|((with_reducible apply SK.indexAddr); rfl; rfl; rfl; first | exact hlt | exact hilt)|((with_reducible apply SK.store1); rfl; rfl; rfl; (focus (repeat (first | exact Upd.head _ | apply Upd.tail))); with_reducible exact ha)|((with_reducible first|apply ZI|apply ZJ|apply ZK|apply ZO);rfl;rfl)|((with_reducible first|apply ZY|apply Zqc);rfl;rfl;rfl;omega)|((with_reducible apply Zqe);rfl;rfl;rfl;exact fun h=>h rfl)|((with_reducible apply Zqm);rfl;rfl;rfl)|((with_reducible apply Zqs);rfl;rfl;rfl)|((with_reducible first|apply Zqz|apply Zra);rfl;rfl;(focus (repeat constructor));rfl)|((with_reducible apply Zrc);rfl;rfl;rfl;exact List.cons_ne_nil _ _;(first|rfl|(repeat first|exact plain_nil|(refine plain_cons (by first|rfl|exact OwnD.plain_val _ _) ?_)));(focus (repeat constructor));rfl))|((with_reducible apply ZC);rfl)|((with_reducible apply ZD);rfl))
                  refine SK.retQ rfl (by (repeat constructor)) (fun w' hm' => ⟨some (some (bN, capN, spN), oS), ⟨_, hr, ok_set hoN, hoS⟩, ?_, ?_⟩)
                  · simp only [v28, hr, Option.getD_some, stV, List.length_set, OwnD.val]; rfl
                  · simp only [m28, hr, Option.getD_some]; exact hm'.wk (by (repeat constructor))
                · have n1 : No (e.kind = 2 ∧ nd.kind = 1 ∧ x.st = 0) := hn
                  clear hn
                  (repeat ((fail_if_success (with_reducible refine SK.atR 27 ?_)); first|((with_reducible apply ZD);rfl)))
                  refine SK.test 123 (e.kind = 3 ∧ nd.kind = 1 ∧ x.st = 1) ?_ (fun hp => ?_) (fun hn => ?_)
                  · by_cases ka : e.kind = 3
                    · by_cases kb : nd.kind = 1
                      · by_cases kc : x.st = 1
                        · (repeat first|(with_reducible first|apply Zb|apply Zc|apply Zd|apply Zi)|((with_reducible first|apply ZI|apply ZJ|apply ZK|apply ZO);rfl;rfl)|((with_reducible apply ZW);rfl;rfl;rfl;omega)|((with_reducible apply Zqo);rfl;rfl;rfl)|((with_reducible apply Zqz);rfl;rfl;(focus (repeat constructor));rfl))
                          exact SK.outcome (by (repeat constructor)) (by (repeat constructor)) (by simp [ka, kb, kc])
                        · (repeat first|(with_reducible first|apply Zb|apply Zc|apply Zd|apply Zi)|((with_reducible first|apply ZI|apply ZJ|apply ZK|apply ZO);rfl;rfl)|((with_reducible apply ZW);rfl;rfl;rfl;omega)|((with_reducible apply Zqc);rfl;rfl;rfl;omega)|((with_reducible apply Zqo);rfl;rfl;rfl)|((with_reducible apply Zqz);rfl;rfl;(focus (repeat constructor));rfl))
                          exact SK.outcome (by (repeat constructor)) (by (repeat constructor)) (by simp [kc])
                      · (repeat first|(with_reducible first|apply Zb|apply Zc|apply Zd|apply Zi)|((with_reducible first|apply ZI|apply ZJ|apply ZK|apply ZO);rfl;rfl)|((with_reducible apply ZW);rfl;rfl;rfl;omega)|((with_reducible apply Zqc);rfl;rfl;rfl;omega)|((with_reducible apply Zqo);rfl;rfl;rfl)|((with_reducible apply Zqs);rfl;rfl;rfl)|((with_reducible apply Zqx);rfl;rfl;rfl;rfl)|((with_reducible apply Zqz);rfl;rfl;(focus (repeat constructor));rfl))
                        exact SK.outcome (by (repeat constructor)) (by (repeat constructor)) (by simp [kb])
                    · (repeat first|(with_reducible first|apply Zb|apply Zc|apply Zd|apply Zi)|((with_reducible first|apply ZI|apply ZJ|apply ZK);rfl;rfl)|((with_reducible apply Zqc);rfl;rfl;rfl;omega)|((with_reducible apply Zqs);rfl;rfl;rfl)|((with_reducible apply Zqx);rfl;rfl;rfl;rfl)|((with_reducible apply Zqz);rfl;rfl;(focus (repeat constructor));rfl))
                      exact SK.outcome (by (repeat constructor)) (by (repeat constructor)) (by simp [ka])
                  · have hr := fin { x with st := 2, try_ := e.number } (by obtain ⟨h1, h2, h3⟩ := hp; simp [moveL, isL, h1, h2, h3])
                    have ha := nst hx spN { x with try_ := e.number } 1 (.int .i64 e.number) (by omega) rfl
                    have hb := nst2 hx spN { x with try_ := e.number } { x with st := 2, try_ := e.number } 0 (.int .i64 2) (by omega) rfl
                    (repeat first|(with_reducible first|apply Za|apply Zb|apply Zc|apply Zd|apply Zi|apply Zl|apply Zo|apply Zp|apply Zs)|((with_reducible refine Yz ?_);first|((with_reducible apply SK.indexAddr); rfl; rfl; rfl; first | exact hlt | exact hilt)|((with_reducible apply SK.store1); rfl; rfl; rfl; (focus (repeat (first | exact Upd.head _ | apply Upd.tail))); with_reducible exact ha)|((with_reducible apply SK.store1); rfl; rfl; rfl; (focus (repeat (first | exact Upd.head _ | apply Upd.tail))); with_reducible exact hb)|((with_reducible first|apply ZI|apply ZJ|apply ZK|apply ZO);rfl;rfl)|((with_reducible first|apply ZY|apply Zqc);rfl;rfl;rfl;omega)|((with_reducible apply Zqe);rfl;rfl;rfl;exact fun h=>h rfl)|((with_reducible apply Zqm);rfl;rfl;rfl)|((with_reducible apply Zqs);rfl;rfl;rfl)|((with_reducible first|apply Zqz|apply Zra);rfl;rfl;(focus (repeat constructor));rfl)|((with_reducible apply Zrc);rfl;rfl;rfl;exact List.cons_ne_nil _ _;(first|rfl|(repeat first|exact plain_nil|(refine plain_cons (by first|rfl|exact OwnD.plain_val _ _) ?_)));(focus (repeat constructor));rfl))|((with_reducible apply ZC);rfl)|((with_reducible apply ZD);rfl))
                    refine SK.retQ rfl (by (repeat constructor)) (fun w' hm' => ⟨some (some (bN, capN, spN), oS), ⟨_, hr, ok_set hoN, hoS⟩, ?_, ?_⟩)
                    · simp only [v28, hr, Option.getD_some, stV, List.length_set, OwnD.val]; rfl
                    · simp only [m28, hr, Option.getD_some]; exact hm'.wk (by (repeat constructor))
                  · have n2 : No (e.kind = 3 ∧ nd.kind = 1 ∧ x.st = 1) := hn
                    clear hn
                    (repeat ((fail_if_success (with_reducible refine SK.atR 30 ?_)); first|((with_reducible apply ZD);rfl)))
                    refine SK.test 142 (e.kind = 5 ∧ nd.kind = 1 ∧ x.st = 2) ?_ (fun hp => ?_) (fun hn => ?_)
                    · by_cases ka : e.kind = 5
                      · by_cases kb : nd.kind = 1
                        · by_cases kc : x.st = 2
                          · (repeat first|(with_reducible first|apply Zb|apply Zc|apply Zd|apply Zi)|((with_reducible first|apply ZI|apply ZJ|apply ZK|apply ZO);rfl;rfl)|((with_reducible apply ZW);rfl;rfl;rfl;omega)|((with_reducible apply Zqo);rfl;rfl;rfl)|((with_reducible apply Zqz);rfl;rfl;(focus (repeat constructor));rfl))
                            exact SK.outcome (by (repeat constructor)) (by (repeat constructor)) (by simp [ka, kb, kc])
                          · (repeat first|(with_reducible first|apply Zb|apply Zc|apply Zd|apply Zi)|((with_reducible first|apply ZI|apply ZJ|apply ZK|apply ZO);rfl;rfl)|((with_reducible apply ZW);rfl;rfl;rfl;omega)|((with_reducible apply Zqc);rfl;rfl;rfl;omega)|((with_reducible apply Zqo);rfl;rfl;rfl)|((with_reducible apply Zqz);rfl;rfl;(focus (repeat constructor));rfl))
                            exact SK.outcome (by (repeat constructor)) (by (repeat constructor)) (by simp [kc])
                        · (repeat first|(with_reducible first|apply Zb|apply Zc|apply Zd|apply Zi)|((with_reducible first|apply ZI|apply ZJ|apply ZK|apply ZO);rfl;rfl)|((with_reducible apply ZW);rfl;rfl;rfl;omega)|((with_reducible apply Zqc);rfl;rfl;rfl;omega)|((with_reducible apply Zqo);rfl;rfl;rfl)|((with_reducible apply Zqs);rfl;rfl;rfl)|((with_reducible apply Zqx);rfl;rfl;rfl;rfl)|((with_reducible apply Zqz);rfl;rfl;(focus (repeat constructor));rfl))
                          exact SK.outcome (by (repeat constructor)) (by (repeat constructor)) (by simp [kb])
                      · (repeat first|(with_reducible first|apply Zb|apply Zc|apply Zd|apply Zi)|((with_reducible first|apply ZI|apply ZJ|apply ZK);rfl;rfl)|((with_reducible apply Zqc);rfl;rfl;rfl;omega)|((with_reducible apply Zqs);rfl;rfl;rfl)|((with_reducible apply Zqx);rfl;rfl;rfl;rfl)|((with_reducible apply Zqz);rfl;rfl;(focus (repeat constructor));rfl))
                        exact SK.outcome (by (repeat constructor)) (by (repeat constructor)) (by simp [ka])
                    · have hr := fin { x with st := 1 } (by obtain ⟨h1, h2, h3⟩ := hp; simp [moveL, isL, h1, h2, h3])
                      have ha := nst hx spN { x with st := 1 } 0 (.int .i64 1) (by omega) rfl
                      (repeat first|(with_reducible first|apply Za|apply Zb|apply Zc|apply Zd|apply Zi|apply Zl|apply Zo|apply Zp|apply Zs)|((with_reducible refine Yz ?_);first|((with_reducible apply SK.indexAddr); rfl; rfl; rfl; first | exact hlt | exact hilt)|((with_reducible apply SK.store1); rfl; rfl; rfl; (focus (repeat (first | exact Upd.head _ | apply Upd.tail))); with_reducible exact ha)|((with_reducible first|apply ZI|apply ZJ|apply ZK|apply ZO);rfl;rfl)|((with_reducible first|apply ZY|apply Zqc);rfl;rfl;rfl;omega)|((with_reducible apply Zqe);rfl;rfl;rfl;exact fun h=>h rfl)|((with_reducible apply Zqm);rfl;rfl;rfl)|((with_reducible apply Zqs);rfl;rfl;rfl)|((with_reducible first|apply Zqz|apply Zra);rfl;rfl;(focus (repeat constructor));rfl)|((with_reducible apply Zrc);rfl;rfl;rfl;exact List.cons_ne_nil _ _;(first|rfl|(repeat first|exact plain_nil|(refine plain_cons (by first|rfl|exact OwnD.plain_val _ _) ?_)));(focus (repeat constructor));rfl))|((with_reducible apply ZC);rfl)|((with_reducible apply ZD);rfl))
                      refine SK.retQ rfl (by (repeat constructor)) (fun w' hm' => ⟨some (some (bN, capN, spN), oS), ⟨_, hr, ok_set hoN, hoS⟩, ?_, ?_⟩)
                      · simp only [v28, hr, Option.getD_some, stV, List.length_set, OwnD.val]; rfl
                      · simp only [m28, hr, Option.getD_some]; exact hm'.wk (by (repeat constructor))
                    · have n3 : No (e.kind = 5 ∧ nd.kind = 1 ∧ x.st = 2) := hn
                      clear hn
                      (repeat ((fail_if_success (with_reducible refine SK.atR 32 ?_)); first|((with_reducible apply ZD);rfl)))
                      refine SK.test 154 (e.kind = 4 ∧ nd.kind = 1 ∧ x.st = 2) ?_ (fun hp => ?_) (fun hn => ?_)
                      · by_cases ka : e.kind = 4
                        · by_cases kb : nd.kind = 1
                          · by_cases kc : x.st = 2
                            · (repeat first|(with_reducible first|apply Zb|apply Zc|apply Zd|apply Zi)|((with_reducible first|apply ZI|apply ZJ|apply ZK|apply ZO);rfl;rfl)|((with_reducible apply ZW);rfl;rfl;rfl;omega)|((with_reducible apply Zqo);rfl;rfl;rfl)|((with_reducible apply Zqz);rfl;rfl;(focus (repeat constructor));rfl))
                              exact SK.outcome (by (repeat constructor)) (by (repeat constructor)) (by simp [ka, kb, kc])
                            · (repeat first|(with_reducible first|apply Zb|apply Zc|apply Zd|apply Zi)|((with_reducible first|apply ZI|apply ZJ|apply ZK|apply ZO);rfl;rfl)|((with_reducible apply ZW);rfl;rfl;rfl;omega)|((with_reducible apply Zqc);rfl;rfl;rfl;omega)|((with_reducible apply Zqo);rfl;rfl;rfl)|((with_reducible apply Zqz);rfl;rfl;(focus (repeat constructor));rfl))
                              exact SK.outcome (by (repeat constructor)) (by (repeat constructor)) (by simp [kc])
                          · (repeat first|(with_reducible first|apply Zb|apply Zc|apply Zd|apply Zi)|((with_reducible first|apply ZI|apply ZJ|apply ZK|apply ZO);rfl;rfl)|((with_reducible apply ZW);rfl;rfl;rfl;omega)|((with_reducible apply Zqc);rfl;rfl;rfl;omega)|((with_reducible apply Zqo);rfl;rfl;rfl)|((with_reducible apply Zqs);rfl;rfl;rfl)|((with_reducible apply Zqx);rfl;rfl;rfl;rfl)|((with_reducible apply Zqz);rfl;rfl;(focus (repeat constructor));rfl))
                            exact SK.outcome (by (repeat constructor)) (by (repeat constructor)) (by simp [kb])
                        · (repeat first|(with_reducible first|apply Zb|apply Zc|apply Zd|apply Zi)|((with_reducible first|apply ZI|apply ZJ|apply ZK);rfl;rfl)|((with_reducible apply Zqc);rfl;rfl;rfl;omega)|((with_reducible apply Zqs);rfl;rfl;rfl)|((with_reducible apply Zqx);rfl;rfl;rfl;rfl)|((with_reducible apply Zqz);rfl;rfl;(focus (repeat constructor));rfl))
                          exact SK.outcome (by (repeat constructor)) (by (repeat constructor)) (by simp [ka])
                      · have hr := fin { x with st := 3, text := e.text } (by obtain ⟨h1, h2, h3⟩ := hp; simp [moveL, isL, h1, h2, h3])
                        have ha := nst hx spN { x with st := 3 } 0 (.int .i64 3) (by omega) rfl
                        have hb := nst2 hx spN { x with st := 3 } { x with st := 3, text := e.text } 2 (.string e.text) (by omega) rfl
                        by_cases ht : e.text = ⟨#[]⟩
                        · have ht2 : ¬ (e.text ≠ ⟨#[]⟩) := fun h => h ht
                          (repeat first|(with_reducible first|apply Za|apply Zb|apply Zc|apply Zd|apply Ze|apply Zi|apply Zl|apply Zo|apply Zp|apply Zs)|((with_reducible refine Yz ?_);first|((with_reducible apply SK.indexAddr); rfl; rfl; rfl; first | exact hlt | exact hilt)|((with_reducible apply SK.store1); rfl; rfl; rfl; (focus (repeat (first | exact Upd.head _ | apply Upd.tail))); with_reducible exact ha)|((with_reducible apply SK.store1); rfl; rfl; rfl; (focus (repeat (first | exact Upd.head _ | apply Upd.tail))); with_reducible exact hb)|((with_reducible first|apply ZI|apply ZJ|apply ZK|apply ZO);rfl;rfl)|((with_reducible apply ZW);rfl;rfl;rfl;omega)|((with_reducible apply ZY);rfl;rfl;rfl;omega)|((with_reducible first|apply Zqm|apply Zqo);rfl;rfl;rfl)|((with_reducible apply Zqs);rfl;rfl;rfl)|((with_reducible apply Zqe);rfl;rfl;rfl;assumption)|((with_reducible apply Zqx);rfl;rfl;rfl;rfl)|((with_reducible first|apply Zqz|apply Zra);rfl;rfl;(focus (repeat constructor));rfl)|((with_reducible apply Zrc);rfl;rfl;rfl;exact List.cons_ne_nil _ _;(first|rfl|(repeat first|exact plain_nil|(refine plain_cons (by first|rfl|exact OwnD.plain_val _ _) ?_)));(focus (repeat constructor));rfl))|((with_reducible first|apply Zz|apply ZC);rfl)|((with_reducible apply ZD);rfl)|refine Yi 33 i28_33 (by kernel_rfl) ?_)
                          refine SK.retQ rfl (by (repeat constructor)) (fun w' hm' => ⟨some (some (bN, capN, spN), oS), ⟨_, hr, ok_set hoN, hoS⟩, ?_, ?_⟩)
                          · simp only [v28, hr, Option.getD_some, stV, List.length_set, OwnD.val]; rfl
                          · simp only [m28, hr, Option.getD_some]; exact hm'.wk (by (repeat constructor))
                        · (repeat first|(with_reducible first|apply Za|apply Zb|apply Zc|apply Zd|apply Ze|apply Zi|apply Zl|apply Zo|apply Zp|apply Zs)|((with_reducible refine Yz ?_);first|((with_reducible apply SK.indexAddr); rfl; rfl; rfl; first | exact hlt | exact hilt)|((with_reducible apply SK.store1); rfl; rfl; rfl; (focus (repeat (first | exact Upd.head _ | apply Upd.tail))); with_reducible exact ha)|((with_reducible apply SK.store1); rfl; rfl; rfl; (focus (repeat (first | exact Upd.head _ | apply Upd.tail))); with_reducible exact hb)|((with_reducible first|apply ZI|apply ZJ|apply ZK);rfl;rfl)|((with_reducible apply ZY);rfl;rfl;rfl;omega)|((with_reducible first|apply Zqm|apply Zqo);rfl;rfl;rfl)|((with_reducible apply Zqt);rfl;rfl;rfl;assumption)|((with_reducible apply Zqx);rfl;rfl;rfl;rfl)|((with_reducible first|apply Zqz|apply Zra);rfl;rfl;(focus (repeat constructor));rfl)|((with_reducible apply Zrc);rfl;rfl;rfl;exact List.cons_ne_nil _ _;(first|rfl|(repeat first|exact plain_nil|(refine plain_cons (by first|rfl|exact OwnD.plain_val _ _) ?_)));(focus (repeat constructor));rfl))|((with_reducible first|apply Zz|apply ZC);rfl)|((with_reducible apply ZD);rfl)|refine Yi 33 i28_33 (by kernel_rfl) ?_)
                          refine SK.retQ rfl (by (repeat constructor)) (fun w' hm' => ⟨some (some (bN, capN, spN), oS), ⟨_, hr, ok_set hoN, hoS⟩, ?_, ?_⟩)
                          · simp only [v28, hr, Option.getD_some, stV, List.length_set, OwnD.val]; rfl
                          · simp only [m28, hr, Option.getD_some]; exact hm'.wk (by (repeat constructor))
                      · have n4 : No (e.kind = 4 ∧ nd.kind = 1 ∧ x.st = 2) := hn
                        clear hn
                        (repeat ((fail_if_success (with_reducible refine SK.atR 34 ?_)); first|((with_reducible apply ZD);rfl)))
                        refine SK.test 168 (e.kind = 6 ∧ (x.st = 2 ∨ nd.kind = 3 ∧ x.st = 0)) ?_ (fun hp => ?_) (fun hn => ?_)
                        · by_cases ka : e.kind = 6
                          · by_cases kc : x.st = 2
                            · (repeat first|(with_reducible first|apply Zb|apply Zc|apply Zd|apply Zi)|((with_reducible first|apply ZI|apply ZJ|apply ZK|apply ZO);rfl;rfl)|((with_reducible apply ZW);rfl;rfl;rfl;omega)|((with_reducible apply Zqo);rfl;rfl;rfl)|((with_reducible apply Zqx);rfl;rfl;rfl;rfl)|((with_reducible apply Zqy);rfl;rfl;rfl)|((with_reducible apply Zqz);rfl;rfl;(focus (repeat constructor));rfl))
                              exact SK.outcome (by (repeat constructor)) (by (repeat constructor)) (by simp [ka, kc])
                            · by_cases kb : nd.kind = 3
                              · by_cases kd : x.st = 0
                                · (repeat first|(with_reducible first|apply Zb|apply Zc|apply Zd|apply Zi)|((with_reducible first|apply ZI|apply ZJ|apply ZK|apply ZO);rfl;rfl)|((with_reducible apply ZW);rfl;rfl;rfl;omega)|((with_reducible apply Zqc);rfl;rfl;rfl;omega)|((with_reducible apply Zqo);rfl;rfl;rfl)|((with_reducible apply Zqs);rfl;rfl;rfl)|((with_reducible apply Zqz);rfl;rfl;(focus (repeat constructor));rfl))
                                  exact SK.outcome (by (repeat constructor)) (by (repeat constructor)) (by simp [ka, kb, kd])
                                · (repeat first|(with_reducible first|apply Zb|apply Zc|apply Zd|apply Zi)|((with_reducible first|apply ZI|apply ZJ|apply ZK|apply ZO);rfl;rfl)|((with_reducible apply ZW);rfl;rfl;rfl;omega)|((with_reducible apply Zqc);rfl;rfl;rfl;omega)|((with_reducible apply Zqo);rfl;rfl;rfl)|((with_reducible apply Zqs);rfl;rfl;rfl)|((with_reducible apply Zqz);rfl;rfl;(focus (repeat constructor));rfl))
                                  exact SK.outcome (by (repeat constructor)) (by (repeat constructor)) (by simp [kc, kd])
                              · (repeat first|(with_reducible first|apply Zb|apply Zc|apply Zd|apply Zi)|((with_reducible first|apply ZI|apply ZJ|apply ZK|apply ZO);rfl;rfl)|((with_reducible apply ZW);rfl;rfl;rfl;omega)|((with_reducible apply Zqc);rfl;rfl;rfl;omega)|((with_reducible apply Zqo);rfl;rfl;rfl)|((with_reducible apply Zqs);rfl;rfl;rfl)|((with_reducible apply Zqx);rfl;rfl;rfl;rfl)|((with_reducible apply Zqz);rfl;rfl;(focus (repeat constructor));rfl))
                                exact SK.outcome (by (repeat constructor)) (by (repeat constructor)) (by simp [kb, kc])
                          · (repeat first|(with_reducible first|apply Zb|apply Zc|apply Zd|apply Zi)|((with_reducible first|apply ZI|apply ZJ|apply ZK);rfl;rfl)|((with_reducible apply Zqc);rfl;rfl;rfl;omega)|((with_reducible apply Zqs);rfl;rfl;rfl)|((with_reducible apply Zqx);rfl;rfl;rfl;rfl)|((with_reducible apply Zqy);rfl;rfl;rfl)|((with_reducible apply Zqz);rfl;rfl;(focus (repeat constructor));rfl))
                            exact SK.outcome (by (repeat constructor)) (by (repeat constructor)) (by simp [ka])
                        · have hr := fin { x with st := 4, text := e.text } (by obtain ⟨h1, h2 | ⟨h2, h3⟩⟩ := hp; (simp [moveL, isL, h1, h2]); (simp [moveL, isL, h1, h2, h3]))
                          have ha := nst hx spN { x with st := 4 } 0 (.int .i64 4) (by omega) rfl
                          have hb := nst2 hx spN { x with st := 4 } { x with st := 4, text := e.text } 2 (.string e.text) (by omega) rfl
                          by_cases ht : e.text = ⟨#[]⟩
                          · have ht2 : ¬ (e.text ≠ ⟨#[]⟩) := fun h => h ht
                            (repeat first|(with_reducible first|apply Za|apply Zb|apply Zc|apply Zd|apply Ze|apply Zi|apply Zl|apply Zo|apply Zp|apply Zs)|((with_reducible refine Yz ?_);first|((with_reducible apply SK.indexAddr); rfl; rfl; rfl; first | exact hlt | exact hilt)|((with_reducible apply SK.store1); rfl; rfl; rfl; (focus (repeat (first | exact Upd.head _ | apply Upd.tail))); with_reducible exact ha)|((with_reducible apply SK.store1); rfl; rfl; rfl; (focus (repeat (first | exact Upd.head _ | apply Upd.tail))); with_reducible exact hb)|((with_reducible first|apply ZI|apply ZJ|apply ZK|apply ZO);rfl;rfl)|((with_reducible apply ZW);rfl;rfl;rfl;omega)|((with_reducible first|apply ZY|apply Zqc);rfl;rfl;rfl;omega)|((with_reducible apply Zqm);rfl;rfl;rfl)|((with_reducible apply Zqs);rfl;rfl;rfl)|((with_reducible apply Zqe);rfl;rfl;rfl;assumption)|((with_reducible first|apply Zqz|apply Zra);rfl;rfl;(focus (repeat constructor));rfl)|((with_reducible apply Zrc);rfl;rfl;rfl;exact List.cons_ne_nil _ _;(first|rfl|(repeat first|exact plain_nil|(refine plain_cons (by first|rfl|exact OwnD.plain_val _ _) ?_)));(focus (repeat constructor));rfl))|((with_reducible first|apply Zz|apply ZC);rfl)|((with_reducible apply ZD);rfl)|refine Yi 35 i28_35 (by kernel_rfl) ?_)
                            refine SK.retQ rfl (by (repeat constructor)) (fun w' hm' => ⟨some (some (bN, capN, spN), oS), ⟨_, hr, ok_set hoN, hoS⟩, ?_, ?_⟩)
                            · simp only [v28, hr, Option.getD_some, stV, List.length_set, OwnD.val]; rfl
                            · simp only [m28, hr, Option.getD_some]; exact hm'.wk (by (repeat constructor))
                          · (repeat first|(with_reducible first|apply Za|apply Zb|apply Zc|apply Zd|apply Ze|apply Zi|apply Zl|apply Zo|apply Zp|apply Zs)|((with_reducible refine Yz ?_);first|((with_reducible apply SK.indexAddr); rfl; rfl; rfl; first | exact hlt | exact hilt)|((with_reducible apply SK.store1); rfl; rfl; rfl; (focus (repeat (first | exact Upd.head _ | apply Upd.tail))); with_reducible exact ha)|((with_reducible apply SK.store1); rfl; rfl; rfl; (focus (repeat (first | exact Upd.head _ | apply Upd.tail))); with_reducible exact hb)|((with_reducible first|apply ZI|apply ZJ|apply ZK);rfl;rfl)|((with_reducible apply ZY);rfl;rfl;rfl;omega)|((with_reducible first|apply Zqm|apply Zqo);rfl;rfl;rfl)|((with_reducible apply Zqt);rfl;rfl;rfl;assumption)|((with_reducible apply Zqx);rfl;rfl;rfl;rfl)|((with_reducible first|apply Zqz|apply Zra);rfl;rfl;(focus (repeat constructor));rfl)|((with_reducible apply Zrc);rfl;rfl;rfl;exact List.cons_ne_nil _ _;(first|rfl|(repeat first|exact plain_nil|(refine plain_cons (by first|rfl|exact OwnD.plain_val _ _) ?_)));(focus (repeat constructor));rfl))|((with_reducible first|apply Zz|apply ZC);rfl)|((with_reducible apply ZD);rfl)|refine Yi 35 i28_35 (by kernel_rfl) ?_)
                            refine SK.retQ rfl (by (repeat constructor)) (fun w' hm' => ⟨some (some (bN, capN, spN), oS), ⟨_, hr, ok_set hoN, hoS⟩, ?_, ?_⟩)
                            · simp only [v28, hr, Option.getD_some, stV, List.length_set, OwnD.val]; rfl
                            · simp only [m28, hr, Option.getD_some]; exact hm'.wk (by (repeat constructor))
                        · have n5 : No (e.kind = 6 ∧ (x.st = 2 ∨ nd.kind = 3 ∧ x.st = 0)) := hn
                          clear hn
                          (repeat ((fail_if_success (with_reducible refine SK.atR 36 ?_)); first|((with_reducible apply ZD);rfl)))
                          refine SK.test 186 (e.kind = 7 ∧ nd.kind = 2 ∧ x.st = 0) ?_ (fun hp => ?_) (fun hn => ?_)
                          · by_cases ka : e.kind = 7
                            · by_cases kb : nd.kind = 2
                              · by_cases kc : x.st = 0
                                · (repeat first|(with_reducible first|apply Zb|apply Zc|apply Zd|apply Zi)|((with_reducible first|apply ZI|apply ZJ|apply ZK|apply ZO);rfl;rfl)|((with_reducible apply ZW);rfl;rfl;rfl;omega)|((with_reducible apply Zqo);rfl;rfl;rfl)|((with_reducible apply Zqz);rfl;rfl;(focus (repeat constructor));rfl))
                                  exact SK.outcome (by (repeat constructor)) (by (repeat constructor)) (by simp [ka, kb, kc])
                                · (repeat first|(with_reducible first|apply Zb|apply Zc|apply Zd|apply Zi)|((with_reducible first|apply ZI|apply ZJ|apply ZK|apply ZO);rfl;rfl)|((with_reducible apply ZW);rfl;rfl;rfl;omega)|((with_reducible apply Zqc);rfl;rfl;rfl;omega)|((with_reducible apply Zqo);rfl;rfl;rfl)|((with_reducible apply Zqz);rfl;rfl;(focus (repeat constructor));rfl))
                                  exact SK.outcome (by (repeat constructor)) (by (repeat constructor)) (by simp [kc])
                              · (repeat first|(with_reducible first|apply Zb|apply Zc|apply Zd|apply Zi)|((with_reducible first|apply ZI|apply ZJ|apply ZK|apply ZO);rfl;rfl)|((with_reducible apply ZW);rfl;rfl;rfl;omega)|((with_reducible apply Zqc);rfl;rfl;rfl;omega)|((with_reducible apply Zqo);rfl;rfl;rfl)|((with_reducible apply Zqs);rfl;rfl;rfl)|((with_reducible apply Zqx);rfl;rfl;rfl;rfl)|((with_reducible apply Zqz);rfl;rfl;(focus (repeat constructor));rfl))
                                exact SK.outcome (by (repeat constructor)) (by (repeat constructor)) (by simp [kb])
                            · (repeat first|(with_reducible first|apply Zb|apply Zc|apply Zd|apply Zi)|((with_reducible first|apply ZI|apply ZJ|apply ZK);rfl;rfl)|((with_reducible apply Zqc);rfl;rfl;rfl;omega)|((with_reducible apply Zqs);rfl;rfl;rfl)|((with_reducible apply Zqx);rfl;rfl;rfl;rfl)|((with_reducible apply Zqz);rfl;rfl;(focus (repeat constructor));rfl))
                              exact SK.outcome (by (repeat constructor)) (by (repeat constructor)) (by simp [ka])
                          · have hr := fin { x with st := 2 } (by obtain ⟨h1, h2, h3⟩ := hp; simp [moveL, isL, h1, h2, h3])
                            have ha := nst hx spN { x with st := 2 } 0 (.int .i64 2) (by omega) rfl
                            (repeat first|(with_reducible first|apply Za|apply Zb|apply Zc|apply Zd|apply Zi|apply Zl|apply Zo|apply Zp|apply Zs)|((with_reducible refine Yz ?_);first|((with_reducible apply SK.indexAddr); rfl; rfl; rfl; first | exact hlt | exact hilt)|((with_reducible apply SK.store1); rfl; rfl; rfl; (focus (repeat (first | exact Upd.head _ | apply Upd.tail))); with_reducible exact ha)|((with_reducible first|apply ZI|apply ZJ|apply ZK|apply ZO);rfl;rfl)|((with_reducible first|apply ZY|apply Zqc);rfl;rfl;rfl;omega)|((with_reducible apply Zqe);rfl;rfl;rfl;exact fun h=>h rfl)|((with_reducible apply Zqm);rfl;rfl;rfl)|((with_reducible apply Zqs);rfl;rfl;rfl)|((with_reducible first|apply Zqz|apply Zra);rfl;rfl;(focus (repeat constructor));rfl)|((with_reducible apply Zrc);rfl;rfl;rfl;exact List.cons_ne_nil _ _;(first|rfl|(repeat first|exact plain_nil|(refine plain_cons (by first|rfl|exact OwnD.plain_val _ _) ?_)));(focus (repeat constructor));rfl))|((with_reducible apply ZC);rfl)|((with_reducible apply ZD);rfl))
                            refine SK.retQ rfl (by (repeat constructor)) (fun w' hm' => ⟨some (some (bN, capN, spN), oS), ⟨_, hr, ok_set hoN, hoS⟩, ?_, ?_⟩)
                            · simp only [v28, hr, Option.getD_some, stV, List.length_set, OwnD.val]; rfl
                            · simp only [m28, hr, Option.getD_some]; exact hm'.wk (by (repeat constructor))
                          · have n6 : No (e.kind = 7 ∧ nd.kind = 2 ∧ x.st = 0) := hn
                            clear hn
                            (repeat ((fail_if_success (with_reducible refine SK.atR 38 ?_)); first|((with_reducible apply ZD);rfl)))
                            refine SK.test 198 (e.kind = 8 ∧ nd.kind = 2 ∧ x.st = 2) ?_ (fun hp => ?_) (fun hn => ?_)
                            · by_cases ka : e.kind = 8
                              · by_cases kb : nd.kind = 2
                                · by_cases kc : x.st = 2
                                  · (repeat first|(with_reducible first|apply Zb|apply Zc|apply Zd|apply Zi)|((with_reducible first|apply ZI|apply ZJ|apply ZK|apply ZO);rfl;rfl)|((with_reducible apply ZW);rfl;rfl;rfl;omega)|((with_reducible apply Zqo);rfl;rfl;rfl)|((with_reducible apply Zqz);rfl;rfl;(focus (repeat constructor));rfl))
                                    exact SK.outcome (by (repeat constructor)) (by (repeat constructor)) (by simp [ka, kb, kc])
                                  · (repeat first|(with_reducible first|apply Zb|apply Zc|apply Zd|apply Zi)|((with_reducible first|apply ZI|apply ZJ|apply ZK|apply ZO);rfl;rfl)|((with_reducible apply ZW);rfl;rfl;rfl;omega)|((with_reducible apply Zqc);rfl;rfl;rfl;omega)|((with_reducible apply Zqo);rfl;rfl;rfl)|((with_reducible apply Zqz);rfl;rfl;(focus (repeat constructor));rfl))
                                    exact SK.outcome (by (repeat constructor)) (by (repeat constructor)) (by simp [kc])
                                · (repeat first|(with_reducible first|apply Zb|apply Zc|apply Zd|apply Zi)|((with_reducible first|apply ZI|apply ZJ|apply ZK|apply ZO);rfl;rfl)|((with_reducible apply ZW);rfl;rfl;rfl;omega)|((with_reducible apply Zqc);rfl;rfl;rfl;omega)|((with_reducible apply Zqo);rfl;rfl;rfl)|((with_reducible apply Zqs);rfl;rfl;rfl)|((with_reducible apply Zqx);rfl;rfl;rfl;rfl)|((with_reducible apply Zqz);rfl;rfl;(focus (repeat constructor));rfl))
                                  exact SK.outcome (by (repeat constructor)) (by (repeat constructor)) (by simp [kb])
                              · (repeat first|(with_reducible first|apply Zb|apply Zc|apply Zd|apply Zi)|((with_reducible first|apply ZI|apply ZJ|apply ZK);rfl;rfl)|((with_reducible apply Zqc);rfl;rfl;rfl;omega)|((with_reducible apply Zqs);rfl;rfl;rfl)|((with_reducible apply Zqx);rfl;rfl;rfl;rfl)|((with_reducible apply Zqz);rfl;rfl;(focus (repeat constructor));rfl))
                                exact SK.outcome (by (repeat constructor)) (by (repeat constructor)) (by simp [ka])
                            · have hxe : x.text = ⟨#[]⟩ := hxt (by omega) (by omega)
                              have hr := fin { x with st := 3 } (by obtain ⟨h1, h2, h3⟩ := hp; simp [moveL, isL, h1, h2, h3])
                              have ha := nst hx spN { x with st := 3 } 0 (.int .i64 3) (by omega) rfl
                              have hb := nst2 hx spN { x with st := 3 } { x with st := 3 } 2 (.string ⟨#[]⟩) (by omega) (by simp only [Ns.c, hxe]; rfl)
                              (repeat first|(with_reducible first|apply Za|apply Zb|apply Zc|apply Zd|apply Zi|apply Zl|apply Zo|apply Zp|apply Zs)|((with_reducible refine Yz ?_);first|((with_reducible apply SK.indexAddr); rfl; rfl; rfl; first | exact hlt | exact hilt)|((with_reducible apply SK.store1); rfl; rfl; rfl; (focus (repeat (first | exact Upd.head _ | apply Upd.tail))); with_reducible exact ha)|((with_reducible apply SK.store1); rfl; rfl; rfl; (focus (repeat (first | exact Upd.head _ | apply Upd.tail))); with_reducible exact hb)|((with_reducible first|apply ZI|apply ZJ|apply ZK|apply ZO);rfl;rfl)|((with_reducible apply ZW);rfl;rfl;rfl;omega)|((with_reducible apply ZY);rfl;rfl;rfl;omega)|((with_reducible apply Zqe);rfl;rfl;rfl;exact fun h=>h rfl)|((with_reducible first|apply Zqm|apply Zqo);rfl;rfl;rfl)|((with_reducible apply Zqs);rfl;rfl;rfl)|((with_reducible apply Zqx);rfl;rfl;rfl;rfl)|((with_reducible first|apply Zqz|apply Zra);rfl;rfl;(focus (repeat constructor));rfl)|((with_reducible apply Zrc);rfl;rfl;rfl;exact List.cons_ne_nil _ _;(first|rfl|(repeat first|exact plain_nil|(refine plain_cons (by first|rfl|exact OwnD.plain_val _ _) ?_)));(focus (repeat constructor));rfl))|((with_reducible apply ZC);rfl)|((with_reducible apply ZD);rfl))
                              refine SK.retQ rfl (by (repeat constructor)) (fun w' hm' => ⟨some (some (bN, capN, spN), oS), ⟨_, hr, ok_set hoN, hoS⟩, ?_, ?_⟩)
                              · simp only [v28, hr, Option.getD_some, stV, List.length_set, OwnD.val]; rfl
                              · simp only [m28, hr, Option.getD_some]; exact hm'.wk (by (repeat constructor))
                            · have n7 : No (e.kind = 8 ∧ nd.kind = 2 ∧ x.st = 2) := hn
                              clear hn
                              (repeat ((fail_if_success (with_reducible refine SK.atR 40 ?_)); first|((with_reducible apply ZD);rfl)))
                              refine SK.test 210 (e.kind = 9 ∧ nd.kind = 3 ∧ x.st = 0) ?_ (fun hp => ?_) (fun hn => ?_)
                              · by_cases ka : e.kind = 9
                                · by_cases kb : nd.kind = 3
                                  · by_cases kc : x.st = 0
                                    · (repeat first|(with_reducible first|apply Zb|apply Zc|apply Zd|apply Zi)|((with_reducible first|apply ZI|apply ZJ|apply ZK|apply ZO);rfl;rfl)|((with_reducible apply ZW);rfl;rfl;rfl;omega)|((with_reducible apply Zqo);rfl;rfl;rfl)|((with_reducible apply Zqz);rfl;rfl;(focus (repeat constructor));rfl))
                                      exact SK.outcome (by (repeat constructor)) (by (repeat constructor)) (by simp [ka, kb, kc])
                                    · (repeat first|(with_reducible first|apply Zb|apply Zc|apply Zd|apply Zi)|((with_reducible first|apply ZI|apply ZJ|apply ZK|apply ZO);rfl;rfl)|((with_reducible apply ZW);rfl;rfl;rfl;omega)|((with_reducible apply Zqc);rfl;rfl;rfl;omega)|((with_reducible apply Zqo);rfl;rfl;rfl)|((with_reducible apply Zqz);rfl;rfl;(focus (repeat constructor));rfl))
                                      exact SK.outcome (by (repeat constructor)) (by (repeat constructor)) (by simp [kc])
                                  · (repeat first|(with_reducible first|apply Zb|apply Zc|apply Zd|apply Zi)|((with_reducible first|apply ZI|apply ZJ|apply ZK|apply ZO);rfl;rfl)|((with_reducible apply ZW);rfl;rfl;rfl;omega)|((with_reducible apply Zqc);rfl;rfl;rfl;omega)|((with_reducible apply Zqo);rfl;rfl;rfl)|((with_reducible apply Zqs);rfl;rfl;rfl)|((with_reducible apply Zqx);rfl;rfl;rfl;rfl)|((with_reducible apply Zqz);rfl;rfl;(focus (repeat constructor));rfl))
                                    exact SK.outcome (by (repeat constructor)) (by (repeat constructor)) (by simp [kb])
                                · (repeat first|(with_reducible first|apply Zb|apply Zc|apply Zd|apply Zi)|((with_reducible first|apply ZI|apply ZJ|apply ZK);rfl;rfl)|((with_reducible apply Zqc);rfl;rfl;rfl;omega)|((with_reducible apply Zqs);rfl;rfl;rfl)|((with_reducible apply Zqx);rfl;rfl;rfl;rfl)|((with_reducible apply Zqz);rfl;rfl;(focus (repeat constructor));rfl))
                                  exact SK.outcome (by (repeat constructor)) (by (repeat constructor)) (by simp [ka])
                              · have hr := fin { x with st := 2 } (by obtain ⟨h1, h2, h3⟩ := hp; simp [moveL, isL, h1, h2, h3])
                                have ha := nst hx spN { x with st := 2 } 0 (.int .i64 2) (by omega) rfl
                                (repeat first|(with_reducible first|apply Za|apply Zb|apply Zc|apply Zd|apply Zi|apply Zl|apply Zo|apply Zp|apply Zs)|((with_reducible refine Yz ?_);first|((with_reducible apply SK.indexAddr); rfl; rfl; rfl; first | exact hlt | exact hilt)|((with_reducible apply SK.store1); rfl; rfl; rfl; (focus (repeat (first | exact Upd.head _ | apply Upd.tail))); with_reducible exact ha)|((with_reducible first|apply ZI|apply ZJ|apply ZK|apply ZO);rfl;rfl)|((with_reducible first|apply ZY|apply Zqc);rfl;rfl;rfl;omega)|((with_reducible apply Zqe);rfl;rfl;rfl;exact fun h=>h rfl)|((with_reducible apply Zqm);rfl;rfl;rfl)|((with_reducible apply Zqs);rfl;rfl;rfl)|((with_reducible first|apply Zqz|apply Zra);rfl;rfl;(focus (repeat constructor));rfl)|((with_reducible apply Zrc);rfl;rfl;rfl;exact List.cons_ne_nil _ _;(first|rfl|(repeat first|exact plain_nil|(refine plain_cons (by first|rfl|exact OwnD.plain_val _ _) ?_)));(focus (repeat constructor));rfl))|((with_reducible apply ZC);rfl)|((with_reducible apply ZD);rfl))
                                refine SK.retQ rfl (by (repeat constructor)) (fun w' hm' => ⟨some (some (bN, capN, spN), oS), ⟨_, hr, ok_set hoN, hoS⟩, ?_, ?_⟩)
                                · simp only [v28, hr, Option.getD_some, stV, List.length_set, OwnD.val]; rfl
                                · simp only [m28, hr, Option.getD_some]; exact hm'.wk (by (repeat constructor))
                              · have n8 : No (e.kind = 9 ∧ nd.kind = 3 ∧ x.st = 0) := hn
                                clear hn
                                (repeat ((fail_if_success (with_reducible refine SK.atR 42 ?_)); first|((with_reducible apply ZD);rfl)))
                                refine SK.test 222 (e.kind = 10 ∧ nd.kind = 3 ∧ x.st = 2) ?_ (fun hp => ?_) (fun hn => ?_)
                                · by_cases ka : e.kind = 10
                                  · by_cases kb : nd.kind = 3
                                    · by_cases kc : x.st = 2
                                      · (repeat first|(with_reducible first|apply Zb|apply Zc|apply Zd|apply Zi)|((with_reducible first|apply ZI|apply ZJ|apply ZK|apply ZO);rfl;rfl)|((with_reducible apply ZW);rfl;rfl;rfl;omega)|((with_reducible apply Zqo);rfl;rfl;rfl)|((with_reducible apply Zqz);rfl;rfl;(focus (repeat constructor));rfl))
                                        exact SK.outcome (by (repeat constructor)) (by (repeat constructor)) (by simp [ka, kb, kc])
                                      · (repeat first|(with_reducible first|apply Zb|apply Zc|apply Zd|apply Zi)|((with_reducible first|apply ZI|apply ZJ|apply ZK|apply ZO);rfl;rfl)|((with_reducible apply ZW);rfl;rfl;rfl;omega)|((with_reducible apply Zqc);rfl;rfl;rfl;omega)|((with_reducible apply Zqo);rfl;rfl;rfl)|((with_reducible apply Zqz);rfl;rfl;(focus (repeat constructor));rfl))
                                        exact SK.outcome (by (repeat constructor)) (by (repeat constructor)) (by simp [kc])
                                    · (repeat first|(with_reducible first|apply Zb|apply Zc|apply Zd|apply Zi)|((with_reducible first|apply ZI|apply ZJ|apply ZK|apply ZO);rfl;rfl)|((with_reducible apply ZW);rfl;rfl;rfl;omega)|((with_reducible apply Zqc);rfl;rfl;rfl;omega)|((with_reducible apply Zqo);rfl;rfl;rfl)|((with_reducible apply Zqs);rfl;rfl;rfl)|((with_reducible apply Zqx);rfl;rfl;rfl;rfl)|((with_reducible apply Zqz);rfl;rfl;(focus (repeat constructor));rfl))
                                      exact SK.outcome (by (repeat constructor)) (by (repeat constructor)) (by simp [kb])
                                  · (repeat first|(with_reducible first|apply Zb|apply Zc|apply Zd|apply Zi)|((with_reducible first|apply ZI|apply ZJ|apply ZK);rfl;rfl)|((with_reducible apply Zqc);rfl;rfl;rfl;omega)|((with_reducible apply Zqs);rfl;rfl;rfl)|((with_reducible apply Zqx);rfl;rfl;rfl;rfl)|((with_reducible apply Zqz);rfl;rfl;(focus (repeat constructor));rfl))
                                    exact SK.outcome (by (repeat constructor)) (by (repeat constructor)) (by simp [ka])
                                · have hr := fin { x with st := 3, text := e.text } (by obtain ⟨h1, h2, h3⟩ := hp; simp [moveL, isL, h1, h2, h3])
                                  have ha := nst hx spN { x with st := 3 } 0 (.int .i64 3) (by omega) rfl
                                  have hb := nst2 hx spN { x with st := 3 } { x with st := 3, text := e.text } 2 (.string e.text) (by omega) rfl
                                  by_cases ht : e.text = ⟨#[]⟩
                                  · have ht2 : ¬ (e.text ≠ ⟨#[]⟩) := fun h => h ht
                                    (repeat first|(with_reducible first|apply Za|apply Zb|apply Zc|apply Zd|apply Ze|apply Zi|apply Zl|apply Zo|apply Zp|apply Zs)|((with_reducible refine Yz ?_);first|((with_reducible apply SK.indexAddr); rfl; rfl; rfl; first | exact hlt | exact hilt)|((with_reducible apply SK.store1); rfl; rfl; rfl; (focus (repeat (first | exact Upd.head _ | apply Upd.tail))); with_reducible exact ha)|((with_reducible apply SK.store1); rfl; rfl; rfl; (focus (repeat (first | exact Upd.head _ | apply Upd.tail))); with_reducible exact hb)|((with_reducible first|apply ZI|apply ZJ|apply ZK|apply ZO);rfl;rfl)|((with_reducible apply ZW);rfl;rfl;rfl;omega)|((with_reducible apply ZY);rfl;rfl;rfl;omega)|((with_reducible first|apply Zqm|apply Zqo);rfl;rfl;rfl)|((with_reducible apply Zqs);rfl;rfl;rfl)|((with_reducible apply Zqe);rfl;rfl;rfl;assumption)|((with_reducible apply Zqx);rfl;rfl;rfl;rfl)|((with_reducible first|apply Zqz|apply Zra);rfl;rfl;(focus (repeat constructor));rfl)|((with_reducible apply Zrc);rfl;rfl;rfl;exact List.cons_ne_nil _ _;(first|rfl|(repeat first|exact plain_nil|(refine plain_cons (by first|rfl|exact OwnD.plain_val _ _) ?_)));(focus (repeat constructor));rfl))|((with_reducible first|apply Zz|apply ZC);rfl)|((with_reducible apply ZD);rfl)|refine Yi 43 i28_43 (by kernel_rfl) ?_)
                                    refine SK.retQ rfl (by (repeat constructor)) (fun w' hm' => ⟨some (some (bN, capN, spN), oS), ⟨_, hr, ok_set hoN, hoS⟩, ?_, ?_⟩)
                                    · simp only [v28, hr, Option.getD_some, stV, List.length_set, OwnD.val]; rfl
                                    · simp only [m28, hr, Option.getD_some]; exact hm'.wk (by (repeat constructor))
                                  · (repeat first|(with_reducible first|apply Za|apply Zb|apply Zc|apply Zd|apply Ze|apply Zi|apply Zl|apply Zo|apply Zp|apply Zs)|((with_reducible refine Yz ?_);first|((with_reducible apply SK.indexAddr); rfl; rfl; rfl; first | exact hlt | exact hilt)|((with_reducible apply SK.store1); rfl; rfl; rfl; (focus (repeat (first | exact Upd.head _ | apply Upd.tail))); with_reducible exact ha)|((with_reducible apply SK.store1); rfl; rfl; rfl; (focus (repeat (first | exact Upd.head _ | apply Upd.tail))); with_reducible exact hb)|((with_reducible first|apply ZI|apply ZJ|apply ZK);rfl;rfl)|((with_reducible apply ZY);rfl;rfl;rfl;omega)|((with_reducible first|apply Zqm|apply Zqo);rfl;rfl;rfl)|((with_reducible apply Zqt);rfl;rfl;rfl;assumption)|((with_reducible apply Zqx);rfl;rfl;rfl;rfl)|((with_reducible first|apply Zqz|apply Zra);rfl;rfl;(focus (repeat constructor));rfl)|((with_reducible apply Zrc);rfl;rfl;rfl;exact List.cons_ne_nil _ _;(first|rfl|(repeat first|exact plain_nil|(refine plain_cons (by first|rfl|exact OwnD.plain_val _ _) ?_)));(focus (repeat constructor));rfl))|((with_reducible first|apply Zz|apply ZC);rfl)|((with_reducible apply ZD);rfl)|refine Yi 43 i28_43 (by kernel_rfl) ?_)
                                    refine SK.retQ rfl (by (repeat constructor)) (fun w' hm' => ⟨some (some (bN, capN, spN), oS), ⟨_, hr, ok_set hoN, hoS⟩, ?_, ?_⟩)
                                    · simp only [v28, hr, Option.getD_some, stV, List.length_set, OwnD.val]; rfl
                                    · simp only [m28, hr, Option.getD_some]; exact hm'.wk (by (repeat constructor))
                                · have n9 : No (e.kind = 10 ∧ nd.kind = 3 ∧ x.st = 2) := hn
                                  clear hn
                                  (repeat ((fail_if_success (with_reducible refine SK.atR 44 ?_)); first|((with_reducible apply ZD);rfl)))
                                  refine SK.test 236 (e.kind = 11 ∧ nd.kind = 4 ∧ x.st = 0) ?_ (fun hp => ?_) (fun hn => ?_)
                                  · by_cases ka : e.kind = 11
                                    · by_cases kb : nd.kind = 4
                                      · by_cases kc : x.st = 0
                                        · (repeat first|(with_reducible first|apply Zb|apply Zc|apply Zd|apply Zi)|((with_reducible first|apply ZI|apply ZJ|apply ZK|apply ZO);rfl;rfl)|((with_reducible apply ZW);rfl;rfl;rfl;omega)|((with_reducible apply Zqo);rfl;rfl;rfl)|((with_reducible apply Zqz);rfl;rfl;(focus (repeat constructor));rfl))
                                          exact SK.outcome (by (repeat constructor)) (by (repeat constructor)) (by simp [ka, kb, kc])
                                        · (repeat first|(with_reducible first|apply Zb|apply Zc|apply Zd|apply Zi)|((with_reducible first|apply ZI|apply ZJ|apply ZK|apply ZO);rfl;rfl)|((with_reducible apply ZW);rfl;rfl;rfl;omega)|((with_reducible apply Zqc);rfl;rfl;rfl;omega)|((with_reducible apply Zqo);rfl;rfl;rfl)|((with_reducible apply Zqz);rfl;rfl;(focus (repeat constructor));rfl))
                                          exact SK.outcome (by (repeat constructor)) (by (repeat constructor)) (by simp [kc])
                                      · (repeat first|(with_reducible first|apply Zb|apply Zc|apply Zd|apply Zi)|((with_reducible first|apply ZI|apply ZJ|apply ZK|apply ZO);rfl;rfl)|((with_reducible apply ZW);rfl;rfl;rfl;omega)|((with_reducible apply Zqc);rfl;rfl;rfl;omega)|((with_reducible apply Zqo);rfl;rfl;rfl)|((with_reducible apply Zqs);rfl;rfl;rfl)|((with_reducible apply Zqx);rfl;rfl;rfl;rfl)|((with_reducible apply Zqz);rfl;rfl;(focus (repeat constructor));rfl))
                                        exact SK.outcome (by (repeat constructor)) (by (repeat constructor)) (by simp [kb])
                                    · (repeat first|(with_reducible first|apply Zb|apply Zc|apply Zd|apply Zi)|((with_reducible first|apply ZI|apply ZJ|apply ZK);rfl;rfl)|((with_reducible apply Zqc);rfl;rfl;rfl;omega)|((with_reducible apply Zqs);rfl;rfl;rfl)|((with_reducible apply Zqx);rfl;rfl;rfl;rfl)|((with_reducible apply Zqz);rfl;rfl;(focus (repeat constructor));rfl))
                                      exact SK.outcome (by (repeat constructor)) (by (repeat constructor)) (by simp [ka])
                                  · have hr := fin { x with st := 2 } (by obtain ⟨h1, h2, h3⟩ := hp; simp [moveL, isL, h1, h2, h3])
                                    have ha := nst hx spN { x with st := 2 } 0 (.int .i64 2) (by omega) rfl
                                    (repeat first|(with_reducible first|apply Za|apply Zb|apply Zc|apply Zd|apply Zi|apply Zl|apply Zo|apply Zp|apply Zs)|((with_reducible refine Yz ?_);first|((with_reducible apply SK.indexAddr); rfl; rfl; rfl; first | exact hlt | exact hilt)|((with_reducible apply SK.store1); rfl; rfl; rfl; (focus (repeat (first | exact Upd.head _ | apply Upd.tail))); with_reducible exact ha)|((with_reducible first|apply ZI|apply ZJ|apply ZK|apply ZO);rfl;rfl)|((with_reducible first|apply ZY|apply Zqc);rfl;rfl;rfl;omega)|((with_reducible apply Zqe);rfl;rfl;rfl;exact fun h=>h rfl)|((with_reducible apply Zqm);rfl;rfl;rfl)|((with_reducible apply Zqs);rfl;rfl;rfl)|((with_reducible first|apply Zqz|apply Zra);rfl;rfl;(focus (repeat constructor));rfl)|((with_reducible apply Zrc);rfl;rfl;rfl;exact List.cons_ne_nil _ _;(first|rfl|(repeat first|exact plain_nil|(refine plain_cons (by first|rfl|exact OwnD.plain_val _ _) ?_)));(focus (repeat constructor));rfl))|((with_reducible apply ZC);rfl)|((with_reducible apply ZD);rfl))
                                    refine SK.retQ rfl (by (repeat constructor)) (fun w' hm' => ⟨some (some (bN, capN, spN), oS), ⟨_, hr, ok_set hoN, hoS⟩, ?_, ?_⟩)
                                    · simp only [v28, hr, Option.getD_some, stV, List.length_set, OwnD.val]; rfl
                                    · simp only [m28, hr, Option.getD_some]; exact hm'.wk (by (repeat constructor))
                                  · have n10 : No (e.kind = 11 ∧ nd.kind = 4 ∧ x.st = 0) := hn
                                    clear hn
                                    (repeat ((fail_if_success (with_reducible refine SK.atR 46 ?_)); first|((with_reducible apply ZD);rfl)))
                                    refine SK.test 248 (e.kind = 12 ∧ nd.kind = 4 ∧ e.number = 0 ∧ x.st = 2) ?_ (fun hp => ?_) (fun hn => ?_)
                                    · by_cases ka : e.kind = 12
                                      · by_cases kb : nd.kind = 4
                                        · by_cases kn : e.number = 0
                                          · by_cases kc : x.st = 2
                                            · (repeat first|(with_reducible first|apply Zb|apply Zc|apply Zd|apply Zi)|((with_reducible first|apply ZI|apply ZJ|apply ZK|apply ZO);rfl;rfl)|((with_reducible apply ZW);rfl;rfl;rfl;omega)|((with_reducible apply Zqo);rfl;rfl;rfl)|((with_reducible apply Zqz);rfl;rfl;(focus (repeat constructor));rfl))
                                              exact SK.outcome (by (repeat constructor)) (by (repeat constructor)) (by simp [ka, kb, kn, kc])
                                            · (repeat first|(with_reducible first|apply Zb|apply Zc|apply Zd|apply Zi)|((with_reducible first|apply ZI|apply ZJ|apply ZK|apply ZO);rfl;rfl)|((with_reducible apply ZW);rfl;rfl;rfl;omega)|((with_reducible apply Zqc);rfl;rfl;rfl;omega)|((with_reducible apply Zqo);rfl;rfl;rfl)|((with_reducible apply Zqz);rfl;rfl;(focus (repeat constructor));rfl))
                                              exact SK.outcome (by (repeat constructor)) (by (repeat constructor)) (by simp [kc])
                                          · (repeat first|(with_reducible first|apply Zb|apply Zc|apply Zd|apply Zi)|((with_reducible first|apply ZI|apply ZJ|apply ZK|apply ZO);rfl;rfl)|((with_reducible apply ZW);rfl;rfl;rfl;omega)|((with_reducible apply Zqc);rfl;rfl;rfl;omega)|((with_reducible apply Zqo);rfl;rfl;rfl)|((with_reducible apply Zqs);rfl;rfl;rfl)|((with_reducible apply Zqx);rfl;rfl;rfl;rfl)|((with_reducible apply Zqz);rfl;rfl;(focus (repeat constructor));rfl))
                                            exact SK.outcome (by (repeat constructor)) (by (repeat constructor)) (by simp [kn])
                                        · (repeat first|(with_reducible first|apply Zb|apply Zc|apply Zd|apply Zi)|((with_reducible first|apply ZI|apply ZJ|apply ZK|apply ZO);rfl;rfl)|((with_reducible apply ZW);rfl;rfl;rfl;omega)|((with_reducible apply Zqc);rfl;rfl;rfl;omega)|((with_reducible apply Zqo);rfl;rfl;rfl)|((with_reducible apply Zqs);rfl;rfl;rfl)|((with_reducible apply Zqx);rfl;rfl;rfl;rfl)|((with_reducible apply Zqz);rfl;rfl;(focus (repeat constructor));rfl))
                                          exact SK.outcome (by (repeat constructor)) (by (repeat constructor)) (by simp [kb])
                                      · (repeat first|(with_reducible first|apply Zb|apply Zc|apply Zd|apply Zi)|((with_reducible first|apply ZI|apply ZJ|apply ZK);rfl;rfl)|((with_reducible apply Zqc);rfl;rfl;rfl;omega)|((with_reducible apply Zqs);rfl;rfl;rfl)|((with_reducible apply Zqx);rfl;rfl;rfl;rfl)|((with_reducible apply Zqz);rfl;rfl;(focus (repeat constructor));rfl))
                                        exact SK.outcome (by (repeat constructor)) (by (repeat constructor)) (by simp [ka])
                                    · have hr := fin { x with st := 3, text := e.text } (by obtain ⟨h1, h2, h4, h3⟩ := hp; simp [moveL, isL, h1, h2, h3, h4])
                                      have ha := nst hx spN { x with st := 3 } 0 (.int .i64 3) (by omega) rfl
                                      have hb := nst2 hx spN { x with st := 3 } { x with st := 3, text := e.text } 2 (.string e.text) (by omega) rfl
                                      by_cases ht : e.text = ⟨#[]⟩
                                      · have ht2 : ¬ (e.text ≠ ⟨#[]⟩) := fun h => h ht
                                        (repeat first|(with_reducible first|apply Za|apply Zb|apply Zc|apply Zd|apply Ze|apply Zi|apply Zl|apply Zo|apply Zp|apply Zs)|((with_reducible refine Yz ?_);first|((with_reducible apply SK.indexAddr); rfl; rfl; rfl; first | exact hlt | exact hilt)|((with_reducible apply SK.store1); rfl; rfl; rfl; (focus (repeat (first | exact Upd.head _ | apply Upd.tail))); with_reducible exact ha)|((with_reducible apply SK.store1); rfl; rfl; rfl; (focus (repeat (first | exact Upd.head _ | apply Upd.tail))); with_reducible exact hb)|((with_reducible first|apply ZI|apply ZJ|apply ZK|apply ZO);rfl;rfl)|((with_reducible apply ZW);rfl;rfl;rfl;omega)|((with_reducible apply ZY);rfl;rfl;rfl;omega)|((with_reducible first|apply Zqm|apply Zqo);rfl;rfl;rfl)|((with_reducible apply Zqs);rfl;rfl;rfl)|((with_reducible apply Zqe);rfl;rfl;rfl;assumption)|((with_reducible apply Zqx);rfl;rfl;rfl;rfl)|((with_reducible first|apply Zqz|apply Zra);rfl;rfl;(focus (repeat constructor));rfl)|((with_reducible apply Zrc);rfl;rfl;rfl;exact List.cons_ne_nil _ _;(first|rfl|(repeat first|exact plain_nil|(refine plain_cons (by first|rfl|exact OwnD.plain_val _ _) ?_)));(focus (repeat constructor));rfl))|((with_reducible first|apply Zz|apply ZC);rfl)|((with_reducible apply ZD);rfl)|refine Yi 47 i28_47 (by kernel_rfl) ?_)
                                        refine SK.retQ rfl (by (repeat constructor)) (fun w' hm' => ⟨some (some (bN, capN, spN), oS), ⟨_, hr, ok_set hoN, hoS⟩, ?_, ?_⟩)
                                        · simp only [v28, hr, Option.getD_some, stV, List.length_set, OwnD.val]; rfl
                                        · simp only [m28, hr, Option.getD_some]; exact hm'.wk (by (repeat constructor))
                                      · (repeat first|(with_reducible first|apply Za|apply Zb|apply Zc|apply Zd|apply Ze|apply Zi|apply Zl|apply Zo|apply Zp|apply Zs)|((with_reducible refine Yz ?_);first|((with_reducible apply SK.indexAddr); rfl; rfl; rfl; first | exact hlt | exact hilt)|((with_reducible apply SK.store1); rfl; rfl; rfl; (focus (repeat (first | exact Upd.head _ | apply Upd.tail))); with_reducible exact ha)|((with_reducible apply SK.store1); rfl; rfl; rfl; (focus (repeat (first | exact Upd.head _ | apply Upd.tail))); with_reducible exact hb)|((with_reducible first|apply ZI|apply ZJ|apply ZK);rfl;rfl)|((with_reducible apply ZY);rfl;rfl;rfl;omega)|((with_reducible first|apply Zqm|apply Zqo);rfl;rfl;rfl)|((with_reducible apply Zqt);rfl;rfl;rfl;assumption)|((with_reducible apply Zqx);rfl;rfl;rfl;rfl)|((with_reducible first|apply Zqz|apply Zra);rfl;rfl;(focus (repeat constructor));rfl)|((with_reducible apply Zrc);rfl;rfl;rfl;exact List.cons_ne_nil _ _;(first|rfl|(repeat first|exact plain_nil|(refine plain_cons (by first|rfl|exact OwnD.plain_val _ _) ?_)));(focus (repeat constructor));rfl))|((with_reducible first|apply Zz|apply ZC);rfl)|((with_reducible apply ZD);rfl)|refine Yi 47 i28_47 (by kernel_rfl) ?_)
                                        refine SK.retQ rfl (by (repeat constructor)) (fun w' hm' => ⟨some (some (bN, capN, spN), oS), ⟨_, hr, ok_set hoN, hoS⟩, ?_, ?_⟩)
                                        · simp only [v28, hr, Option.getD_some, stV, List.length_set, OwnD.val]; rfl
                                        · simp only [m28, hr, Option.getD_some]; exact hm'.wk (by (repeat constructor))
                                    · have n11 : No (e.kind = 12 ∧ nd.kind = 4 ∧ e.number = 0 ∧ x.st = 2) := hn
                                      clear hn
                                      (repeat ((fail_if_success (with_reducible refine SK.atR 48 ?_)); first|((with_reducible apply ZD);rfl)))
                                      refine SK.test 267 (e.kind = 12 ∧ nd.kind = 4 ∧ e.number = 1 ∧ x.st = 0 ∧ (kI S.sigs nd.arg).isSome = true) ?_ (fun hp => ?_) (fun hn => ?_)
                                      · by_cases ka : e.kind = 12
                                        · by_cases kb : nd.kind = 4
                                          · by_cases kn : e.number = 1
                                            · by_cases kc : x.st = 0
                                              · (repeat first|((with_reducible apply Zz);rfl)|((with_reducible refine Yz ?_);first|((with_reducible apply SK.indexAddr); rfl; rfl; rfl; first | exact hlt | exact hilt)|((with_reducible apply SK.load1R); rfl; rfl; exact hcell 2 _ rfl)|((with_reducible first|apply ZI|apply ZK|apply ZO);rfl;rfl)|((with_reducible apply ZW);rfl;rfl;rfl;omega)|((with_reducible first|apply Zqm|apply Zqo);rfl;rfl;rfl)|((with_reducible first|apply Zqz|apply Zra);rfl;rfl;(focus (repeat constructor));rfl))|refine Yi 48 i28_48 (by kernel_rfl) ?_)
                                                refine SK.callA rfl rfl (fun w1 g1 _ => kept46 _ S nd.arg w1 (hs.mono g1) (by omega)) ?_
                                                cases hk : kI S.sigs nd.arg with
                                                | none =>
                                                  have hge : ¬ 0 ≤ ixV none := by simp [ixV]
                                                  (repeat first|(with_reducible first|apply Ze|apply Zi|apply Zs)|((with_reducible first|apply ZJ|apply ZO);rfl;rfl)|((with_reducible apply Zqb);rfl;rfl;rfl;omega)|((with_reducible apply Zqo);rfl;rfl;rfl)|((with_reducible apply Zz);rfl))
                                                  exact SK.outcome (by (repeat constructor)) (by (repeat constructor)) (by simp)
                                                | some k =>
                                                  have hge : 0 ≤ ixV (some k) := by simp [ixV]
                                                  (repeat first|(with_reducible first|apply Ze|apply Zi|apply Zs)|((with_reducible first|apply ZJ|apply ZO);rfl;rfl)|((with_reducible apply ZV);rfl;rfl;rfl;omega)|((with_reducible apply Zqo);rfl;rfl;rfl)|((with_reducible apply Zz);rfl))
                                                  exact SK.outcome (by (repeat constructor)) (by (repeat constructor)) (by simp [ka, kb, kn, kc])
                                              · (repeat first|(with_reducible first|apply Ze|apply Zi)|((with_reducible first|apply ZI|apply ZJ|apply ZK|apply ZO);rfl;rfl)|((with_reducible apply ZW);rfl;rfl;rfl;omega)|((with_reducible apply Zqc);rfl;rfl;rfl;omega)|((with_reducible apply Zqo);rfl;rfl;rfl)|((with_reducible apply Zqs);rfl;rfl;rfl)|((with_reducible apply Zqx);rfl;rfl;rfl;rfl)|((with_reducible apply Zqz);rfl;rfl;(focus (repeat constructor));rfl)|((with_reducible apply Zz);rfl)|refine Yi 48 i28_48 (by kernel_rfl) ?_)
                                                exact SK.outcome (by (repeat constructor)) (by (repeat constructor)) (by simp [kc])
                                            · (repeat first|(with_reducible first|apply Ze|apply Zi)|((with_reducible first|apply ZI|apply ZJ|apply ZK|apply ZO);rfl;rfl)|((with_reducible apply ZW);rfl;rfl;rfl;omega)|((with_reducible apply Zqc);rfl;rfl;rfl;omega)|((with_reducible apply Zqo);rfl;rfl;rfl)|((with_reducible apply Zqs);rfl;rfl;rfl)|((with_reducible apply Zqx);rfl;rfl;rfl;rfl)|((with_reducible apply Zqz);rfl;rfl;(focus (repeat constructor));rfl)|((with_reducible apply Zz);rfl)|refine Yi 48 i28_48 (by kernel_rfl) ?_)
                                              exact SK.outcome (by (repeat constructor)) (by (repeat constructor)) (by simp [kn])
                                          · (repeat first|(with_reducible first|apply Ze|apply Zi)|((with_reducible first|apply ZI|apply ZJ|apply ZK|apply ZO);rfl;rfl)|((with_reducible apply ZW);rfl;rfl;rfl;omega)|((with_reducible apply Zqc);rfl;rfl;rfl;omega)|((with_reducible apply Zqo);rfl;rfl;rfl)|((with_reducible apply Zqs);rfl;rfl;rfl)|((with_reducible apply Zqx);rfl;rfl;rfl;rfl)|((with_reducible apply Zqz);rfl;rfl;(focus (repeat constructor));rfl)|((with_reducible apply Zz);rfl)|refine Yi 48 i28_48 (by kernel_rfl) ?_)
                                            exact SK.outcome (by (repeat constructor)) (by (repeat constructor)) (by simp [kb])
                                        · (repeat first|(with_reducible first|apply Ze|apply Zi)|((with_reducible first|apply ZI|apply ZJ|apply ZK);rfl;rfl)|((with_reducible apply Zqc);rfl;rfl;rfl;omega)|((with_reducible apply Zqs);rfl;rfl;rfl)|((with_reducible apply Zqx);rfl;rfl;rfl;rfl)|((with_reducible apply Zqz);rfl;rfl;(focus (repeat constructor));rfl)|((with_reducible apply Zz);rfl)|refine Yi 48 i28_48 (by kernel_rfl) ?_)
                                          exact SK.outcome (by (repeat constructor)) (by (repeat constructor)) (by simp [ka])
                                      · obtain ⟨h1, h2, h4, h3, h5⟩ := hp
                                        obtain ⟨k, hk⟩ := Option.isSome_iff_exists.1 h5
                                        obtain ⟨sg, hsg, hsgn⟩ := kI_lt hk
                                        have hkl : k < S.sigs.length := (List.getElem?_eq_some_iff.1 hsg).1
                                        have hmv : moveL nd.kind x e (kI S.sigs nd.arg) = some ({ x with st := 3, text := e.text }, true) := by simp [moveL, isL, h1, h2, h3, h4, hk]
                                        have hr : applyL D S e = some { S with nodes := S.nodes.set i { x with st := 3, text := e.text }, sigs := S.sigs.eraseIdx k, events := IntKind.i64.wrap (S.events + 1) } := by
                                          rw [hmv, hk] at hgen
                                          exact applyL_some hgen
                                        have ha := nst hx spN { x with st := 3 } 0 (.int .i64 3) (by omega) rfl
                                        have hb := nst2 hx spN { x with st := 3 } { x with st := 3, text := e.text } 2 (.string e.text) (by omega) rfl
                                        obtain ⟨oN0, oG0⟩ := y0
                                        cases oG0 with
                                        | none => have : S.sigs.length = 0 := hy0.2.2; omega
                                        | some q =>
                                          obtain ⟨bG, capG, spG⟩ := q
                                          obtain ⟨g1, g2, g3, g4⟩ := id hy0.2
                                          have hview := sg_view hs
                                          (repeat first|(with_reducible first|apply Za|apply Ze|apply Zi)|((with_reducible refine Yz ?_);first|((with_reducible apply SK.indexAddr); rfl; rfl; rfl; first | exact hlt | exact hilt)|((with_reducible apply SK.load1R); rfl; rfl; exact hcell 2 _ rfl)|((with_reducible first|apply ZI|apply ZJ|apply ZK);rfl;rfl)|((with_reducible apply Zqm);rfl;rfl;rfl)|((with_reducible first|apply Zqz|apply Zra);rfl;rfl;(focus (repeat constructor));rfl))|((with_reducible first|apply Zz|apply ZC);rfl)|refine Yi 49 i28_49 (by kernel_rfl) ?_|refine Yi 50 i28_50 (by kernel_rfl) ?_)
                                          refine SK.callA (v := .int .i64 (k : Int)) rfl rfl (fun w1 g1 _ => by have h9 := kept46 _ S nd.arg w1 (hs.mono g1) (by omega); rw [hk] at h9; exact h9) ?_
                                          (repeat first|(with_reducible first|apply Ze|apply Zi|apply Zs)|((with_reducible first|apply ZI|apply ZJ|apply ZK);rfl;rfl)|((with_reducible apply ZR);rfl;rfl;rfl;omega)|((with_reducible apply Zqz);rfl;rfl;(focus (repeat constructor));rfl)|((with_reducible apply Zz);rfl)|refine Yi 51 i28_51 (by kernel_rfl) ?_)
                                          refine SK.sliceOp (h := k) rfl rfl (Bd.none _) (Bd.some _ rfl) (Bd.none _) rfl (Nat.le_refl _) (by omega) (Nat.zero_le _) (sl_zero _ _ _ _ _) ?_
                                          (repeat first|((with_reducible apply Zz);rfl)|((with_reducible apply Zqz);rfl;rfl;(focus (repeat constructor));rfl))
                                          refine SK.sliceOp (l := k + 1) (h := S.sigs.length) rfl rfl (Bd.none _) (Bd.none _) (Bd.some _ rfl) rfl (Nat.le_refl _) (by omega) (by omega) rfl ?_
                                          (repeat first|(with_reducible apply Zs)|((with_reducible apply Zre);rfl;rfl;intro _)|((with_reducible apply Zz);rfl)|((with_reducible apply ZE);rfl;infer_instance;rfl;(focus (repeat constructor));rfl;rfl))
                                          rename_i b305
                                          refine SK.appendP (o := some (b305, 0, [])) (xs := []) (nn := 0) (news := (S.sigs.take k).flatMap Sg.c) (m := k) rfl rfl (by simp [OwnD.ok, maxLen]) rfl (by (repeat constructor)) (Src.view fun j v hj => hview j v (flat_take j v hj)) (by rw [flat_len sg_len, List.length_take, Nat.min_eq_left (by omega)]) (sg_plain _) rfl rfl (by unfold maxLen; omega) (by omega) (fun o1 ho1 _ => ?_)
                                          simp only [Nat.zero_add, List.nil_append] at ho1 ⊢
                                          (repeat first|(with_reducible apply Zs)|((with_reducible apply Zz);rfl)|((with_reducible apply ZE);rfl;infer_instance;rfl;(focus (repeat constructor));rfl;rfl))
                                          refine SK.appendP (o := o1) (xs := (S.sigs.take k).flatMap Sg.c) (nn := k) (news := (S.sigs.drop (k + 1)).flatMap Sg.c) (m := S.sigs.length - (k + 1)) rfl rfl ho1 rfl (by (repeat constructor)) (src_drop hview (by omega)) (by rw [flat_len sg_len, List.length_drop]) (sg_plain _) rfl rfl (by unfold maxLen; omega) (by omega) (fun o2 ho2 _ => ?_)
                                          have hlen : (S.sigs.eraseIdx k).length = k + (S.sigs.length - (k + 1)) := by rw [List.length_eraseIdx_of_lt hkl]; omega
                                          have hcat : (S.sigs.take k).flatMap Sg.c ++ (S.sigs.drop (k + 1)).flatMap Sg.c = (S.sigs.eraseIdx k).flatMap Sg.c := by rw [List.eraseIdx_eq_take_drop_succ, List.flatMap_append]
                                          rw [hcat, ← hlen] at ho2 ⊢
                                          by_cases ht : e.text = ⟨#[]⟩
                                          · have ht2 : ¬ (e.text ≠ ⟨#[]⟩) := fun h => h ht
                                            (repeat first|(with_reducible first|apply Za|apply Zb|apply Zc|apply Zd|apply Ze|apply Zi|apply Zl|apply Zo|apply Zp|apply Zs)|((with_reducible refine Yz ?_);first|((with_reducible apply SK.indexAddr); rfl; rfl; rfl; first | exact hlt | exact hilt)|((with_reducible apply SK.store1); rfl; rfl; rfl; (focus (repeat (first | exact Upd.head _ | apply Upd.tail))); with_reducible exact ha)|((with_reducible apply SK.store1); rfl; rfl; rfl; (focus (repeat (first | exact Upd.head _ | apply Upd.tail))); with_reducible exact hb)|((with_reducible first|apply ZI|apply ZJ|apply ZK|apply ZO);rfl;rfl)|((with_reducible apply ZW);rfl;rfl;rfl;omega)|((with_reducible apply ZY);rfl;rfl;rfl;omega)|((with_reducible first|apply Zqm|apply Zqo);rfl;rfl;rfl)|((with_reducible apply Zqs);rfl;rfl;rfl)|((with_reducible apply Zqe);rfl;rfl;rfl;assumption)|((with_reducible apply Zqx);rfl;rfl;rfl;rfl)|((with_reducible first|apply Zqz|apply Zra);rfl;rfl;(focus (repeat constructor));rfl)|((with_reducible apply Zrb);rfl;rfl;(first|rfl|exact OwnD.plain_val _ _);(focus (repeat constructor));rfl)|((with_reducible apply Zrc);rfl;rfl;rfl;exact List.cons_ne_nil _ _;(first|rfl|(repeat first|exact plain_nil|(refine plain_cons (by first|rfl|exact OwnD.plain_val _ _) ?_)));(focus (repeat constructor));rfl))|((with_reducible first|apply Zz|apply ZC);rfl)|((with_reducible apply ZD);rfl))
                                            refine SK.retQ rfl (by (repeat constructor)) (fun w' hm' => ⟨some (some (bN, capN, spN), o2), ⟨_, hr, ok_set hoN, ho2⟩, ?_, ?_⟩)
                                            · simp only [v28, hr, Option.getD_some, stV, List.length_set, OwnD.val]; rfl
                                            · simp only [m28, hr, Option.getD_some]; exact hm'.wk (by (repeat constructor))
                                          · (repeat first|(with_reducible first|apply Za|apply Zb|apply Zc|apply Zd|apply Ze|apply Zi|apply Zl|apply Zo|apply Zp|apply Zs)|((with_reducible refine Yz ?_);first|((with_reducible apply SK.indexAddr); rfl; rfl; rfl; first | exact hlt | exact hilt)|((with_reducible apply SK.store1); rfl; rfl; rfl; (focus (repeat (first | exact Upd.head _ | apply Upd.tail))); with_reducible exact ha)|((with_reducible apply SK.store1); rfl; rfl; rfl; (focus (repeat (first | exact Upd.head _ | apply Upd.tail))); with_reducible exact hb)|((with_reducible first|apply ZI|apply ZJ|apply ZK);rfl;rfl)|((with_reducible apply ZY);rfl;rfl;rfl;omega)|((with_reducible first|apply Zqm|apply Zqo);rfl;rfl;rfl)|((with_reducible apply Zqt);rfl;rfl;rfl;assumption)|((with_reducible apply Zqx);rfl;rfl;rfl;rfl)|((with_reducible first|apply Zqz|apply Zra);rfl;rfl;(focus (repeat constructor));rfl)|((with_reducible apply Zrb);rfl;rfl;(first|rfl|exact OwnD.plain_val _ _);(focus (repeat constructor));rfl)|((with_reducible apply Zrc);rfl;rfl;rfl;exact List.cons_ne_nil _ _;(first|rfl|(repeat first|exact plain_nil|(refine plain_cons (by first|rfl|exact OwnD.plain_val _ _) ?_)));(focus (repeat constructor));rfl))|((with_reducible first|apply Zz|apply ZC);rfl)|((with_reducible apply ZD);rfl))
                                            refine SK.retQ rfl (by (repeat constructor)) (fun w' hm' => ⟨some (some (bN, capN, spN), o2), ⟨_, hr, ok_set hoN, ho2⟩, ?_, ?_⟩)
                                            · simp only [v28, hr, Option.getD_some, stV, List.length_set, OwnD.val]; rfl
                                            · simp only [m28, hr, Option.getD_some]; exact hm'.wk (by (repeat constructor))
                                      · have n12 : No (e.kind = 12 ∧ nd.kind = 4 ∧ e.number = 1 ∧ x.st = 0 ∧ (kI S.sigs nd.arg).isSome = true) := hn
                                        clear hn
                                        (repeat ((fail_if_success (with_reducible refine SK.atR 52 ?_)); first|((with_reducible apply ZD);rfl)))
                                        refine SK.test 318 (e.kind = 14 ∧ nd.kind = 5 ∧ x.st = 0) ?_ (fun hp => ?_) (fun hn => ?_)
                                        · by_cases ka : e.kind = 14
                                          · by_cases kb : nd.kind = 5
                                            · by_cases kc : x.st = 0
                                              · (repeat first|(with_reducible first|apply Zb|apply Zc|apply Zd|apply Zi)|((with_reducible first|apply ZI|apply ZJ|apply ZK|apply ZO);rfl;rfl)|((with_reducible apply ZW);rfl;rfl;rfl;omega)|((with_reducible apply Zqo);rfl;rfl;rfl)|((with_reducible apply Zqz);rfl;rfl;(focus (repeat constructor));rfl))
                                                exact SK.outcome (by (repeat constructor)) (by (repeat constructor)) (by simp [ka, kb, kc])
                                              · (repeat first|(with_reducible first|apply Zb|apply Zc|apply Zd|apply Zi)|((with_reducible first|apply ZI|apply ZJ|apply ZK|apply ZO);rfl;rfl)|((with_reducible apply ZW);rfl;rfl;rfl;omega)|((with_reducible apply Zqc);rfl;rfl;rfl;omega)|((with_reducible apply Zqo);rfl;rfl;rfl)|((with_reducible apply Zqz);rfl;rfl;(focus (repeat constructor));rfl))
                                                exact SK.outcome (by (repeat constructor)) (by (repeat constructor)) (by simp [kc])
                                            · (repeat first|(with_reducible first|apply Zb|apply Zc|apply Zd|apply Zi)|((with_reducible first|apply ZI|apply ZJ|apply ZK|apply ZO);rfl;rfl)|((with_reducible apply ZW);rfl;rfl;rfl;omega)|((with_reducible apply Zqc);rfl;rfl;rfl;omega)|((with_reducible apply Zqo);rfl;rfl;rfl)|((with_reducible apply Zqs);rfl;rfl;rfl)|((with_reducible apply Zqx);rfl;rfl;rfl;rfl)|((with_reducible apply Zqz);rfl;rfl;(focus (repeat constructor));rfl))
                                              exact SK.outcome (by (repeat constructor)) (by (repeat constructor)) (by simp [kb])
                                          · (repeat first|(with_reducible first|apply Zb|apply Zc|apply Zd|apply Zi)|((with_reducible first|apply ZI|apply ZJ|apply ZK);rfl;rfl)|((with_reducible apply Zqc);rfl;rfl;rfl;omega)|((with_reducible apply Zqs);rfl;rfl;rfl)|((with_reducible apply Zqx);rfl;rfl;rfl;rfl)|((with_reducible apply Zqz);rfl;rfl;(focus (repeat constructor));rfl))
                                            exact SK.outcome (by (repeat constructor)) (by (repeat constructor)) (by simp [ka])
                                        · have hxe : x.text = ⟨#[]⟩ := hxt (by omega) (by omega)
                                          have hr := fin { x with st := 3 } (by obtain ⟨h1, h2, h3⟩ := hp; simp [moveL, isL, h1, h2, h3])
                                          have ha := nst hx spN { x with st := 3 } 0 (.int .i64 3) (by omega) rfl
                                          have hb := nst2 hx spN { x with st := 3 } { x with st := 3 } 2 (.string ⟨#[]⟩) (by omega) (by simp only [Ns.c, hxe]; rfl)
                                          (repeat first|(with_reducible first|apply Za|apply Zb|apply Zc|apply Zd|apply Zi|apply Zl|apply Zo|apply Zp|apply Zs)|((with_reducible refine Yz ?_);first|((with_reducible apply SK.indexAddr); rfl; rfl; rfl; first | exact hlt | exact hilt)|((with_reducible apply SK.store1); rfl; rfl; rfl; (focus (repeat (first | exact Upd.head _ | apply Upd.tail))); with_reducible exact ha)|((with_reducible apply SK.store1); rfl; rfl; rfl; (focus (repeat (first | exact Upd.head _ | apply Upd.tail))); with_reducible exact hb)|((with_reducible first|apply ZI|apply ZJ|apply ZK|apply ZO);rfl;rfl)|((with_reducible apply ZW);rfl;rfl;rfl;omega)|((with_reducible apply ZY);rfl;rfl;rfl;omega)|((with_reducible apply Zqe);rfl;rfl;rfl;exact fun h=>h rfl)|((with_reducible first|apply Zqm|apply Zqo);rfl;rfl;rfl)|((with_reducible apply Zqs);rfl;rfl;rfl)|((with_reducible apply Zqx);rfl;rfl;rfl;rfl)|((with_reducible first|apply Zqz|apply Zra);rfl;rfl;(focus (repeat constructor));rfl)|((with_reducible apply Zrc);rfl;rfl;rfl;exact List.cons_ne_nil _ _;(first|rfl|(repeat first|exact plain_nil|(refine plain_cons (by first|rfl|exact OwnD.plain_val _ _) ?_)));(focus (repeat constructor));rfl))|((with_reducible apply ZC);rfl)|((with_reducible apply ZD);rfl))
                                          refine SK.retQ rfl (by (repeat constructor)) (fun w' hm' => ⟨some (some (bN, capN, spN), oS), ⟨_, hr, ok_set hoN, hoS⟩, ?_, ?_⟩)
                                          · simp only [v28, hr, Option.getD_some, stV, List.length_set, OwnD.val]; rfl
                                          · simp only [m28, hr, Option.getD_some]; exact hm'.wk (by (repeat constructor))
                                        · have n13 : No (e.kind = 14 ∧ nd.kind = 5 ∧ x.st = 0) := hn
                                          clear hn
                                          have hmv : moveL nd.kind x e (kI S.sigs nd.arg) = none := by
                                            unfold moveL
                                            simp only [isL, Bool.and_eq_true, decide_eq_true_eq]
                                            rw [if_neg (not_or.2 ⟨n1, n3⟩), if_neg n2, if_neg (not_or.2 ⟨n4, n9⟩), if_neg n5, if_neg (not_or.2 ⟨n6, not_or.2 ⟨n8, n10⟩⟩), if_neg (not_or.2 ⟨n7, n13⟩), if_neg (fun ⟨a, b, c, d⟩ => n11 ⟨a, c, b, d⟩), if_neg (fun ⟨a, b, ⟨c, d⟩, h⟩ => n12 ⟨a, c, b, d, h⟩)]
                                          have hr : applyL D S e = none := by
                                            rw [hmv] at hgen
                                            exact applyL_none hgen
                                          (repeat first|(with_reducible first|apply Za|apply Zb|apply Zc|apply Zd|apply Zi|apply Zk|apply Zl|apply Zo|apply Zp|apply Zs)|((with_reducible first|apply ZI|apply ZJ);rfl;rfl)|((with_reducible apply ZS);rfl;rfl;rfl;omega)|((with_reducible apply Zra);rfl;rfl;(focus (repeat constructor));rfl)|((with_reducible apply Zrc);rfl;rfl;rfl;exact List.cons_ne_nil _ _;(first|rfl|(repeat first|exact plain_nil|(refine plain_cons (by first|rfl|exact OwnD.plain_val _ _) ?_)));(focus (repeat constructor));rfl)|((with_reducible apply ZC);rfl)|((with_reducible apply ZD);rfl))
                                          exact SK.retQ rfl (by (repeat constructor)) (fun w' hm' => ⟨none, hr, rfl, hm'.wk (by (repeat constructor))⟩)
              · rw [List.getElem?_eq_none (by omega)] at hgen
                have hr := applyL_none hgen
                (repeat first|(with_reducible first|apply Za|apply Zb|apply Zc|apply Zd|apply Zi|apply Zk|apply Zp|apply Zs)|((with_reducible first|apply ZI|apply ZJ|apply ZK|apply ZM|apply ZO);rfl;rfl)|((with_reducible apply ZP);rfl;rfl)|((with_reducible apply ZV);rfl;rfl;rfl;omega)|((with_reducible apply Zqn);rfl;rfl;rfl)|((with_reducible apply Zqs);rfl;rfl;rfl)|((with_reducible first|apply Zqz|apply Zra);rfl;rfl;(focus (repeat constructor));rfl)|((with_reducible apply Zrc);rfl;rfl;rfl;exact List.cons_ne_nil _ _;(first|rfl|(repeat first|exact plain_nil|(refine plain_cons (by first|rfl|exact OwnD.plain_val _ _) ?_)));(focus (repeat constructor));rfl)|((with_reducible apply ZC);rfl))
                exact SK.retQ rfl (by (repeat constructor)) (fun w' hm' => ⟨none, hr, rfl, hm'.wk (by (repeat constructor))⟩)
    · have hr := applyL_none (D := D) (S := S) (e := e) (by unfold applyQ; rw [if_neg k1, if_neg s1])
      (repeat first|(with_reducible first|apply Za|apply Zb|apply Zc|apply Zd|apply Zi|apply Zk|apply Zo|apply Zp|apply Zs)|((with_reducible first|apply ZJ|apply ZK);rfl;rfl)|((with_reducible apply ZX);rfl;rfl;rfl;omega)|((with_reducible apply Zqc);rfl;rfl;rfl;omega)|((with_reducible first|apply Zqz|apply Zra);rfl;rfl;(focus (repeat constructor));rfl)|((with_reducible apply Zrb);rfl;rfl;(first|rfl|exact OwnD.plain_val _ _);(focus (repeat constructor));rfl)|((with_reducible apply Zrc);rfl;rfl;rfl;exact List.cons_ne_nil _ _;(first|rfl|(repeat first|exact plain_nil|(refine plain_cons (by first|rfl|exact OwnD.plain_val _ _) ?_)));(focus (repeat constructor));rfl)|((with_reducible apply ZC);rfl)|((with_reducible apply ZD);rfl))
      exact SK.retQ rfl (by (repeat constructor)) (fun w' hm' => ⟨none, hr, rfl, hm'.wk (by (repeat constructor))⟩)
end Go.Proofs.Ytdnjfmgldkommaa
