/- Proved here: one input is played both ways. -/
import Derived.Test.YtdnjfmgldkommaaRf
import Derived.Test.YtdnjfmgldkommaaCa
import Derived.Test.YtdnjfmgldkommaaKa
namespace Go.Proofs.Ytdnjfmgldkommaa
open Go.Sx
section
variable {P : Program} {ops : Array Oper} {w0 : World} {Mod : List Nat} {n : Nat} {F : FL} {M : ML} {K : Act → World → Prop} {chk : List Nat} {ty : TypeId} {pos : String} {aft : Array Edge} {d : Nat}
theorem SK.sliceStr {T : TypeId} {x hi : Operand} {s : ByteArray} {q : IntKind} {h : Nat} [hT : Str P T] (hd : Nat.blt d n = true) (hx : ev F x = some (.string s)) (hh : ev F hi = some (.int q (h : Int))) (hle : h ≤ s.size)
    (hK : SK w0 Mod n K ((d, .string (s.extract 0 h)) :: F) M) : SK w0 Mod n (stepE P ops ⟨some d, .slice T x none (some hi) none, ty, pos, aft, none⟩ chk K) F M :=
  SK.pure rfl hd (fun a hf w' => by
    have h1 := hT.str
    have h2 : P.underlying T = some .string := by
      cases hu : P.underlying T with
      | none => simp [hu] at h1
      | some d => cases d <;> simp [hu] at h1 ⊢
    have := run_slice_string_h (P := P) w' T s h2 q (h : Int) (by omega) (by omega)
    have h3 := run_sliceAt_string (P := P) w' T (.string s) none (some (.int q (h : Int))) none h2
    rw [this] at h3
    simp only [execOp, hf.ev hx, Option.map_none, Option.map_some, hf.ev hh, Sem.run_bind, h3, Result.andThen_ok, Sem.run_pure, Int.toNat_natCast]) hK
theorem SK.eqC {T U : TypeId} {x y : Operand} {a b a' b' : Nat} (hd : Nat.blt d n = true) (hx : ev F x = some (.complex .f64 a b)) (hy : ev F y = some (.complex .f64 a' b'))
    (h : SK w0 Mod n K ((d, .bool ((FloatKind.f64.format.order a a' == some .eq) && (FloatKind.f64.format.order b b' == some .eq))) :: F) M) : SK w0 Mod n (stepE P ops ⟨some d, .binOp .eql T x y U, ty, pos, aft, none⟩ chk K) F M :=
  SK.bin hd hx hy (fun w' => by
    simp [eqGuard, Go.binOp, Op.complexOp, Op.Complex.cmp, Op.floatCmp, asBool]) h
end
def cutD (D : Df) : Df := { D with nodes := D.nodes.take 32 }
def cutV (D : Df) (A : Option Addr) (cap : Nat) : Value := .agg #[.string D.name, .slice A (cutD D).nodes.length cap]
theorem cut_get {D : Df} {i : Nat} {x : Nd} (h : (cutD D).nodes[i]? = some x) : D.nodes[i]? = some x := by
  unfold cutD at h
  simp only at h
  rw [List.getElem?_take] at h
  split at h
  · exact h
  · cases h
theorem cut_rdf {V : View} {D : Df} {A : Option Addr} {cap : Nat} (h : RDf V (.agg #[.string D.name, .slice A D.nodes.length cap]) D) : RDf V (cutV D A cap) (cutD D) := by
  obtain ⟨A', cap', he, hn⟩ := h
  have e : A = A' := by
    have := congrArg (fun v => match v with | .agg a => (match a[1]? with | some (Value.slice A _ _) => some A | _ => none) | _ => none) he
    simpa using this
  subst e
  exact ⟨A, cap, rfl, fun i x hx => hn i x (cut_get hx)⟩
set_option maxRecDepth 100000 in
theorem cut15 (D : Df) (A : Option Addr) (cap : Nat) (hc : D.nodes.length ≤ cap) (hn : D.nodes.length < 9223372036854775807) (w : World) (hd : RDf (Vw w []) (.agg #[.string D.name, .slice A D.nodes.length cap]) D) :
    Ans 15 [.agg #[.string D.name, .slice A D.nodes.length cap]] w (cutV D A cap) := by
  refine enter0 Try.func15 rfl Try.ntmps15 rfl ?_
  by_cases h32 : 32 < D.nodes.length
  · have hl : (cutD D).nodes.length = 32 := by simp [cutD]; omega
    have hA : ∃ b o, A = some ⟨b, o, none⟩ := by
      obtain ⟨A', cap', he, hnn⟩ := hd
      have e : A = A' := by
        have := congrArg (fun v => match v with | .agg a => (match a[1]? with | some (Value.slice A _ _) => some A | _ => none) | _ => none) he
        simpa using this
      subst e
      obtain ⟨b, o, _, h, _⟩ := hnn 0 _ (List.getElem?_eq_getElem (by omega))
      exact ⟨b, o, h⟩
    obtain ⟨b, o, rfl⟩ := hA
    (repeat first|(with_reducible first|apply Za|apply Zb|apply Zc|apply Zd|apply Zi|apply Zs)|((with_reducible first|apply ZK|apply ZM);rfl;rfl)|((with_reducible apply ZU);rfl;rfl;rfl;omega)|((with_reducible apply Zqz);rfl;rfl;(focus (repeat constructor));rfl)|((with_reducible apply Zrf);rfl;rfl;intro _)|((with_reducible apply Zrg);rfl;intro _)|((with_reducible apply ZC);rfl))
    refine SK.sliceOp (h := 32) (v := .slice (some ⟨b, o, none⟩) 32 cap) rfl rfl (Bd.none _) (Bd.some _ rfl) (Bd.none _) rfl (Nat.le_refl _) (by omega) (Nat.zero_le _) (sl_zero _ _ _ _ _) ?_
    (repeat first|(with_reducible first|apply Za|apply Zb|apply Zc|apply Zd|apply Zi|apply Zp|apply Zs)|((with_reducible apply ZK);rfl;rfl)|((with_reducible apply Zra);rfl;rfl;(focus (repeat constructor));rfl)|((with_reducible apply Zrb);rfl;rfl;(first|rfl|exact OwnD.plain_val _ _);(focus (repeat constructor));rfl)|((with_reducible apply Zrc);rfl;rfl;rfl;exact List.cons_ne_nil _ _;(first|rfl|(repeat first|exact plain_nil|(refine plain_cons (by first|rfl|exact OwnD.plain_val _ _) ?_)));(focus (repeat constructor));rfl))
    exact SK.retQ rfl (by (repeat constructor)) (fun w' hm' => ⟨(), trivial, by unfold cutV; rw [hl]; rfl, hm'.wk (by (repeat constructor))⟩)
  · have hl : (cutD D).nodes.length = D.nodes.length := by simp [cutD]; omega
    (repeat first|(with_reducible first|apply Za|apply Zb|apply Zc|apply Zd|apply Zi|apply Zo|apply Zp|apply Zs)|((with_reducible first|apply ZK|apply ZM);rfl;rfl)|((with_reducible apply Zqa);rfl;rfl;rfl;omega)|((with_reducible first|apply Zqz|apply Zra);rfl;rfl;(focus (repeat constructor));rfl)|((with_reducible apply Zrc);rfl;rfl;rfl;exact List.cons_ne_nil _ _;(first|rfl|(repeat first|exact plain_nil|(refine plain_cons (by first|rfl|exact OwnD.plain_val _ _) ?_)));(focus (repeat constructor));rfl)|((with_reducible apply Zrf);rfl;rfl;intro _)|((with_reducible apply Zrg);rfl;intro _)|((with_reducible apply ZD);rfl))
    exact SK.retQ rfl (by (repeat constructor)) (fun w' hm' => ⟨(), trivial, by unfold cutV; rw [hl]; rfl, hm'.wk (by (repeat constructor))⟩)
set_option maxRecDepth 100000 in
theorem taken16 (dv : Value) (D : Df) (w : World) (hd : RDf (Vw w []) dv D) (hT : Texts D) :
    Calls Try.prog 16 [dv].toArray w (Ret w [] (fun b : Bool => b = true → Taken D) (fun b => .bool b) (fun _ => [])) := by
  obtain ⟨A, cap, rfl, hnds⟩ := hd.nds
  refine enter0 Try.func16 rfl Try.ntmps16 rfl ?_
  (repeat first|(with_reducible first|apply Za|apply Zb|apply Zc|apply Zd|apply Zi|apply Zs)|((with_reducible apply ZJ);rfl;rfl)|((with_reducible apply Zra);rfl;rfl;(focus (repeat constructor));rfl)|((with_reducible apply Zrf);rfl;rfl;intro _))
  refine SK.callO rfl rfl (fun w1 g1 _ => check37 _ D w1 (hd.mono g1) hT) ?_
  rintro ⟨e1, e2⟩ he
  dsimp only at he ⊢
  by_cases h0 : e2 = 0
  · (repeat first|(with_reducible first|apply Za|apply Zb|apply Zc|apply Zd|apply Zi|apply Zp|apply Zs)|((with_reducible first|apply ZI|apply ZJ);rfl;rfl)|((with_reducible apply ZW);rfl;rfl;rfl;omega)|((with_reducible apply Zqn);rfl;rfl;rfl))
    exact SK.retQ rfl (by (repeat constructor)) (fun w' hm' => ⟨true, fun _ => he h0, rfl, hm'.wk (by (repeat constructor))⟩)
  · (repeat first|(with_reducible first|apply Za|apply Zb|apply Zc|apply Zd|apply Zi|apply Zp|apply Zs)|((with_reducible first|apply ZI|apply ZJ);rfl;rfl)|((with_reducible apply Zqc);rfl;rfl;rfl;omega)|((with_reducible apply Zqn);rfl;rfl;rfl))
    exact SK.retQ rfl (by (repeat constructor)) (fun w' hm' => ⟨false, fun h => (by cases h), rfl, hm'.wk (by (repeat constructor))⟩)
def clipS (s : ByteArray) : ByteArray := if 300 < s.size then s.extract 0 300 else s
def clipI (a : Inp) : Inp := { a with text := clipS a.text, name := clipS a.name, now := withinL a.now 1125899906842625 }
theorem clipS_size (s : ByteArray) : (clipS s).size ≤ 300 := by
  unfold clipS
  split
  · rw [ByteArray.size_extract]; omega
  · omega
set_option maxRecDepth 100000 in
set_option maxHeartbeats 4000000 in
theorem clip19 (a : Inp) (w : World) (h1 : a.text.size < 9223372036854775807) (h2 : a.name.size < 9223372036854775807) : Ans 19 [.agg a.c.toArray] w (.agg (clipI a).c.toArray) := by
  refine enter0 Try.func19 rfl Try.ntmps19 rfl ?_
  by_cases ht : 300 < a.text.size
  · have e1 : clipS a.text = a.text.extract 0 300 := by unfold clipS; rw [if_pos ht]
    (repeat first|(with_reducible first|apply Za|apply Zb|apply Zc|apply Zd|apply Zi|apply Zs)|((with_reducible apply ZK);rfl;rfl)|((with_reducible apply ZQ);rfl;rfl)|((with_reducible apply ZU);rfl;rfl;rfl;omega)|((with_reducible apply Zqz);rfl;rfl;(focus (repeat constructor));rfl)|((with_reducible apply Zrf);rfl;rfl;intro _)|((with_reducible apply Zrg);rfl;intro _)|((with_reducible apply ZC);rfl))
    refine SK.sliceStr (h := 300) rfl rfl rfl (by omega) ?_
    by_cases hn : 300 < a.name.size
    · have e2 : clipS a.name = a.name.extract 0 300 := by unfold clipS; rw [if_pos hn]
      (repeat first|(with_reducible first|apply Za|apply Zb|apply Zc|apply Zd|apply Zi|apply Zs)|((with_reducible apply ZK);rfl;rfl)|((with_reducible apply ZQ);rfl;rfl)|((with_reducible apply ZU);rfl;rfl;rfl;omega)|((with_reducible apply Zqz);rfl;rfl;(focus (repeat constructor));rfl)|((with_reducible apply Zrb);rfl;rfl;(first|rfl|exact OwnD.plain_val _ _);(focus (repeat constructor));rfl)|((with_reducible apply ZC);rfl))
      refine SK.sliceStr (h := 300) rfl rfl rfl (by omega) ?_
      (repeat first|(with_reducible first|apply Za|apply Zb|apply Zc|apply Zd|apply Zi|apply Zs)|((with_reducible apply ZK);rfl;rfl)|((with_reducible apply Zqz);rfl;rfl;(focus (repeat constructor));rfl)|((with_reducible apply Zrb);rfl;rfl;(first|rfl|exact OwnD.plain_val _ _);(focus (repeat constructor));rfl))
      refine SK.callA rfl rfl (fun w1 _ _ => within22 a.now 1125899906842625 w1 (by decide) (by decide)) ?_
      (repeat first|(with_reducible first|apply Za|apply Zb|apply Zc|apply Zd|apply Zi|apply Zp|apply Zs)|((with_reducible apply ZK);rfl;rfl)|((with_reducible apply Zra);rfl;rfl;(focus (repeat constructor));rfl)|((with_reducible apply Zrb);rfl;rfl;(first|rfl|exact OwnD.plain_val _ _);(focus (repeat constructor));rfl)|((with_reducible apply Zrc);rfl;rfl;rfl;exact List.cons_ne_nil _ _;(first|rfl|(repeat first|exact plain_nil|(refine plain_cons (by first|rfl|exact OwnD.plain_val _ _) ?_)));(focus (repeat constructor));rfl))
      exact SK.retQ rfl (by (repeat constructor)) (fun w' hm' => ⟨(), trivial, by simp only [clipI, e1, e2]; rfl, hm'.wk (by (repeat constructor))⟩)
    · have e2 : clipS a.name = a.name := by unfold clipS; rw [if_neg hn]
      (repeat first|(with_reducible first|apply Za|apply Zb|apply Zc|apply Zd|apply Zi|apply Zo|apply Zs)|((with_reducible apply ZK);rfl;rfl)|((with_reducible apply ZQ);rfl;rfl)|((with_reducible apply Zqa);rfl;rfl;rfl;omega)|((with_reducible apply Zqz);rfl;rfl;(focus (repeat constructor));rfl)|((with_reducible apply Zrb);rfl;rfl;(first|rfl|exact OwnD.plain_val _ _);(focus (repeat constructor));rfl)|((with_reducible apply ZD);rfl))
      refine SK.callA rfl rfl (fun w1 _ _ => within22 a.now 1125899906842625 w1 (by decide) (by decide)) ?_
      (repeat first|(with_reducible first|apply Za|apply Zb|apply Zc|apply Zd|apply Zi|apply Zp|apply Zs)|((with_reducible apply ZK);rfl;rfl)|((with_reducible apply Zra);rfl;rfl;(focus (repeat constructor));rfl)|((with_reducible apply Zrb);rfl;rfl;(first|rfl|exact OwnD.plain_val _ _);(focus (repeat constructor));rfl)|((with_reducible apply Zrc);rfl;rfl;rfl;exact List.cons_ne_nil _ _;(first|rfl|(repeat first|exact plain_nil|(refine plain_cons (by first|rfl|exact OwnD.plain_val _ _) ?_)));(focus (repeat constructor));rfl))
      exact SK.retQ rfl (by (repeat constructor)) (fun w' hm' => ⟨(), trivial, by simp only [clipI, e1, e2]; rfl, hm'.wk (by (repeat constructor))⟩)
  · have e1 : clipS a.text = a.text := by unfold clipS; rw [if_neg ht]
    by_cases hn : 300 < a.name.size
    · have e2 : clipS a.name = a.name.extract 0 300 := by unfold clipS; rw [if_pos hn]
      (repeat first|(with_reducible first|apply Za|apply Zb|apply Zc|apply Zd|apply Zi|apply Zo|apply Zs)|((with_reducible apply ZK);rfl;rfl)|((with_reducible apply ZQ);rfl;rfl)|((with_reducible apply ZU);rfl;rfl;rfl;omega)|((with_reducible apply Zqa);rfl;rfl;rfl;omega)|((with_reducible apply Zqz);rfl;rfl;(focus (repeat constructor));rfl)|((with_reducible apply Zrf);rfl;rfl;intro _)|((with_reducible apply Zrg);rfl;intro _)|((with_reducible apply ZC);rfl)|((with_reducible apply ZD);rfl))
      refine SK.sliceStr (h := 300) rfl rfl rfl (by omega) ?_
      (repeat first|(with_reducible first|apply Za|apply Zb|apply Zc|apply Zd|apply Zi|apply Zs)|((with_reducible apply ZK);rfl;rfl)|((with_reducible apply Zqz);rfl;rfl;(focus (repeat constructor));rfl)|((with_reducible apply Zrb);rfl;rfl;(first|rfl|exact OwnD.plain_val _ _);(focus (repeat constructor));rfl))
      refine SK.callA rfl rfl (fun w1 _ _ => within22 a.now 1125899906842625 w1 (by decide) (by decide)) ?_
      (repeat first|(with_reducible first|apply Za|apply Zb|apply Zc|apply Zd|apply Zi|apply Zp|apply Zs)|((with_reducible apply ZK);rfl;rfl)|((with_reducible apply Zra);rfl;rfl;(focus (repeat constructor));rfl)|((with_reducible apply Zrb);rfl;rfl;(first|rfl|exact OwnD.plain_val _ _);(focus (repeat constructor));rfl)|((with_reducible apply Zrc);rfl;rfl;rfl;exact List.cons_ne_nil _ _;(first|rfl|(repeat first|exact plain_nil|(refine plain_cons (by first|rfl|exact OwnD.plain_val _ _) ?_)));(focus (repeat constructor));rfl))
      exact SK.retQ rfl (by (repeat constructor)) (fun w' hm' => ⟨(), trivial, by simp only [clipI, e1, e2]; rfl, hm'.wk (by (repeat constructor))⟩)
    · have e2 : clipS a.name = a.name := by unfold clipS; rw [if_neg hn]
      (repeat first|(with_reducible first|apply Za|apply Zb|apply Zc|apply Zd|apply Zi|apply Zo|apply Zs)|((with_reducible apply ZK);rfl;rfl)|((with_reducible apply ZQ);rfl;rfl)|((with_reducible apply Zqa);rfl;rfl;rfl;omega)|((with_reducible apply Zqz);rfl;rfl;(focus (repeat constructor));rfl)|((with_reducible apply Zrf);rfl;rfl;intro _)|((with_reducible apply Zrg);rfl;intro _)|((with_reducible apply ZD);rfl))
      refine SK.callA rfl rfl (fun w1 _ _ => within22 a.now 1125899906842625 w1 (by decide) (by decide)) ?_
      (repeat first|(with_reducible first|apply Za|apply Zb|apply Zc|apply Zd|apply Zi|apply Zp|apply Zs)|((with_reducible apply ZK);rfl;rfl)|((with_reducible apply Zra);rfl;rfl;(focus (repeat constructor));rfl)|((with_reducible apply Zrb);rfl;rfl;(first|rfl|exact OwnD.plain_val _ _);(focus (repeat constructor));rfl)|((with_reducible apply Zrc);rfl;rfl;rfl;exact List.cons_ne_nil _ _;(first|rfl|(repeat first|exact plain_nil|(refine plain_cons (by first|rfl|exact OwnD.plain_val _ _) ?_)));(focus (repeat constructor));rfl))
      exact SK.retQ rfl (by (repeat constructor)) (fun w' hm' => ⟨(), trivial, by simp only [clipI, e1, e2]; rfl, hm'.wk (by (repeat constructor))⟩)
section
variable {ops : Array Oper} {w0 : World} {Mod : List Nat} {n : Nat} {F : FL} {M : ML} {K : Act → World → Prop} {chk : List Nat} {ty : TypeId} {pos : String} {aft : Array Edge} {d : Nat}
set_option maxRecDepth 100000 in
theorem SK.callP1 {f : FuncId} {args : Array Operand} {ats : Array TypeId} {vs : List Value} {v : Value} {e1 : Option (Nat × List Value × TypeId)} {M1 : ML} [Fun Try.prog f] (hd : Nat.blt d n = true)
    (hargs : evL F args.toList = some vs) (p1 : Pick e1 M M1) (hc : ∀ w, Mem w (keys [e1]) [e1] w → Calls Try.prog f vs.toArray w (Ret w [e1] (fun _ : Unit => True) (fun _ => v) (fun _ => [])))
    (h : SK w0 Mod n (chkE Try.prog ops chk K) ((d, v) :: F) M1) :
    SK w0 Mod n (stepE Try.prog ops ⟨some d, .call ⟨.value (.func f), args, ats⟩, ty, pos, aft, none⟩ chk K) F M :=
  SK.call hd hargs [e1] M1 (Wk.pick p1 (Wk.refl M1)) (fun _ : Unit => True) (fun _ => v) (fun _ => []) (fun w1 g0 _ _ => hc w1 g0) (fun _ _ => h)
set_option maxRecDepth 100000 in
theorem SK.callP2 {f : FuncId} {args : Array Operand} {ats : Array TypeId} {vs : List Value} {v : Value} {e1 e2 : Option (Nat × List Value × TypeId)} {M1 M2 : ML} [Fun Try.prog f] (hd : Nat.blt d n = true)
    (hargs : evL F args.toList = some vs) (p1 : Pick e1 M M1) (p2 : Pick e2 M1 M2) (hc : ∀ w, Mem w (keys [e1, e2]) [e1, e2] w → Calls Try.prog f vs.toArray w (Ret w [e1, e2] (fun _ : Unit => True) (fun _ => v) (fun _ => [])))
    (h : SK w0 Mod n (chkE Try.prog ops chk K) ((d, v) :: F) M2) :
    SK w0 Mod n (stepE Try.prog ops ⟨some d, .call ⟨.value (.func f), args, ats⟩, ty, pos, aft, none⟩ chk K) F M :=
  SK.call hd hargs [e1, e2] M2 (Wk.pick p1 (Wk.pick p2 (Wk.refl M2))) (fun _ : Unit => True) (fun _ => v) (fun _ => []) (fun w1 g0 _ _ => hc w1 g0) (fun _ _ => h)
end
theorem own_src {w0 : World} {Mod : List Nat} {M : ML} {o : OwnD} {n k : Nat} {xs : List Value} {T : TypeId} (ho : o.ok n k xs) (hm : o.ent xs T ∈ M) : ∃ A c, o.val n = .slice A n c ∧ Src w0 Mod M A xs := by
  cases o with
  | none =>
    have h0 : n = 0 := ho.2
    subst h0
    have : xs = [] := List.eq_nil_of_length_eq_zero (by simpa using ho.1)
    subst this
    exact ⟨none, 0, rfl, Src.nil⟩
  | some q =>
    obtain ⟨E, cap, sp⟩ := q
    exact ⟨_, cap, rfl, Src.mem hm (sl_own xs sp)⟩
@[reducible] def plC (D : Df) (dsl : Value) (S : Sta) (y : OwnD × OwnD) (l : List Ev) (oL : OwnD) : List Value :=
  [.string D.name, dsl, .string S.df, .string S.id, .string S.parent, .string S.pnode, .int .i64 S.status, .string S.text, y.1.val S.nodes.length, y.2.val S.sigs.length, .int .i64 S.events, oL.val l.length]
@[reducible] def plM (bp : Nat) (D : Df) (dsl : Value) (S : Sta) (l : List Ev) (z : (OwnD × OwnD) × OwnD) : ML :=
  [some (bp, plC D dsl S z.1 l z.2, 36), z.1.1.ent (S.nodes.flatMap Ns.c) 56, z.1.2.ent (S.sigs.flatMap Sg.c) 100, z.2.ent (l.flatMap Ev.c) 70]
def OPl (S : Sta) (l : List Ev) (z : (OwnD × OwnD) × OwnD) : Prop := OSt S z.1 ∧ z.2.ok l.length 4 (l.flatMap Ev.c)
def playL (D : Df) (p : Sta × List Ev) (a : Inp) : Sta × List Ev := if (stepL D p.1 a).1 = 0 then ((stepL D p.1 a).2.S, p.2 ++ (stepL D p.1 a).2.ev) else p
set_option maxRecDepth 100000 in
set_option maxHeartbeats 16000000 in
theorem input18 (D : Df) (dsl : Value) (S : Sta) (l : List Ev) (z : (OwnD × OwnD) × OwnD) (a : Inp) (bp : Nat) (w : World) (hDO : DefOK D) (hgo : Good D S) (hna : a.name.size ≤ 1000) (hl : l.length ≤ 10000000) (hz : OPl S l z)
    (hd : RDf (Vw w (keys (plM bp D dsl S l z))) (.agg #[.string D.name, dsl]) D) (hG : ∃ m, Vw w (keys (plM bp D dsl S l z)) 0 0 (.int .i64 m)) (hm : Mem w (keys (plM bp D dsl S l z)) (plM bp D dsl S l z) w) :
    Calls Try.prog 18 [.pointer (some ⟨bp, 0, none⟩), .agg a.c.toArray].toArray w (Ret w (plM bp D dsl S l z) (OPl (playL D (S, l) a).1 (playL D (S, l) a).2) (fun _ => .bool true) (plM bp D dsl (playL D (S, l) a).1 (playL D (S, l) a).2)) := by
  obtain ⟨⟨oN, oS⟩, oL⟩ := z
  obtain ⟨hz1, hzL⟩ := id hz
  obtain ⟨hoN, hoS⟩ := id hz1
  dsimp only at hoN hoS hzL
  have hA := stepL_aft hDO hgo hna
  have hpl : playL D (S, l) a = if (stepL D S a).1 = 0 then ((stepL D S a).2.S, l ++ (stepL D S a).2.ev) else (S, l) := rfl
  have st1 : ∀ w1 : World, RDf (Vw w1 []) (.agg #[.string D.name, dsl]) D → RSt (Vw w1 []) (stV S (oN, oS)) S → (∃ m, Vw w1 [] 0 0 (.int .i64 m)) → _ := fun w1 h1 h2 h3 => step20 _ _ D S a w1 hDO hgo hna h1 h2 h3
  have st2 : ∀ w1 : World, RDf (Vw w1 []) (.agg #[.string D.name, dsl]) D → RSt (Vw w1 []) (stV S (oN, oS)) S → (∃ m, Vw w1 [] 0 0 (.int .i64 m)) → _ := fun w1 h1 h2 h3 => step38 _ _ D S a w1 hDO hgo hna h1 h2 h3
  generalize stepL D S a = r at *
  obtain ⟨e, R1⟩ := r
  dsimp only at hA hpl st1 st2
  obtain ⟨hA1, hA2, hA3⟩ := hA
  have a1 := hA1.sn
  have a2 := hA1.sg
  have s1 := hgo.sn
  have s2 := hgo.sg
  refine enterF (M := plM bp D dsl S l ((oN, oS), oL)) Try.func18 rfl Try.ntmps18 rfl hm ?_
  (repeat ((fail_if_success (with_reducible refine SK.atR 2 ?_)); first|(with_reducible first|apply Za|apply Zb|apply Zc|apply Zd|apply Zi|apply Zs)|((with_reducible first|apply ZI|apply ZJ|apply ZK|apply ZN);rfl;rfl)|((with_reducible apply Zra);rfl;rfl;(focus (repeat constructor));rfl)|((with_reducible apply Zrc);rfl;rfl;rfl;exact List.cons_ne_nil _ _;(first|rfl|(repeat first|exact plain_nil|(refine plain_cons (by first|rfl|exact OwnD.plain_val _ _) ?_)));(focus (repeat constructor));rfl)|((with_reducible apply Zrf);rfl;rfl;intro _)|((with_reducible apply Zrg);rfl;intro _)))
  rename_i b3 b5
  refine SK.seqW (Jumped w (keys (plM bp D dsl S l ((oN, oS), oL))) 99 (fun g : Nat × Y4 => [(6, g.2.2.1.val R1.ev.length), (7, .pointer (some ⟨g.1, 0, none⟩)), (8, g.2.2.2.val R1.tk.length), (9, .int .i64 e), (0, .pointer (some ⟨bp, 0, none⟩)), (3, .pointer (some ⟨b3, 0, none⟩)), (5, .pointer (some ⟨b5, 0, none⟩))])
    (fun g => some (b3, a.c, 39) :: some (b5, S.c (oN.val S.nodes.length) (oS.val S.sigs.length), 33) :: some (g.1, R1.S.c (g.2.1.1.val R1.S.nodes.length) (g.2.1.2.val R1.S.sigs.length), 33) :: stepM R1 g.2 ++ plM bp D dsl S l ((oN, oS), oL)) (fun g => ORn R1 g.2)) ?_ ?_
  · (repeat first|(with_reducible apply Zf)|((with_reducible first|apply ZI|apply ZK|apply ZN);rfl;rfl)|((with_reducible apply Zra);rfl;rfl;(focus (repeat constructor));rfl)|((with_reducible apply ZA);rfl)|refine Yd 2 o18_2 t18_2 (by kernel_rfl) ?_)
    refine SK.orC ?_ ?_
    · (repeat first|(with_reducible apply Zh)|((with_reducible apply Zz);rfl))
      refine SK.callO rfl rfl (fun w1 g1 g2 => st1 w1 (hd.mono g1) (RSt.own hoN hoS (fun b cs hb j u hu => g2 b cs _ (by rw [← hb]; (repeat constructor)) j u hu) (fun b cs hb j u hu => g2 b cs _ (by rw [← hb]; (repeat constructor)) j u hu)) (by obtain ⟨m, hm⟩ := hG; exact ⟨m, g1 _ _ _ hm⟩)) ?_
      intro y1 hy1
      (repeat first|(with_reducible first|apply Zf|apply Zg|apply Zh|apply Zi|apply Zs)|((with_reducible first|apply ZI|apply ZJ);rfl;rfl)|((with_reducible apply Zqn);rfl;rfl;rfl)|((with_reducible apply Zrc);rfl;rfl;rfl;exact List.cons_ne_nil _ _;(first|rfl|(repeat first|exact plain_nil|(refine plain_cons (by first|rfl|exact OwnD.plain_val _ _) ?_)));(focus (repeat constructor));rfl)|((with_reducible apply Zrg);rfl;intro _)|((with_reducible first|apply Zz|apply ZA);rfl)|((with_reducible apply ZF);rfl;infer_instance;rfl;(focus (repeat constructor));rfl;rfl))
      rename_i b7
      exact fun _ _ hf hm => ⟨(b7, y1), hy1, hf.sub (by (repeat constructor)), hm.wk (by (repeat constructor))⟩
    · (repeat first|(with_reducible first|apply Zf|apply Zh|apply Zs)|((with_reducible apply Zrg);rfl;intro _)|((with_reducible apply Zz);rfl)|((with_reducible apply ZF);rfl;infer_instance;rfl;(focus (repeat constructor));rfl;rfl))
      rename_i b7
      refine SK.callO rfl rfl (fun w1 g1 g2 => st1 w1 (hd.mono g1) (RSt.own hoN hoS (fun b cs hb j u hu => g2 b cs _ (by rw [← hb]; (repeat constructor)) j u hu) (fun b cs hb j u hu => g2 b cs _ (by rw [← hb]; (repeat constructor)) j u hu)) (by obtain ⟨m, hm⟩ := hG; exact ⟨m, g1 _ _ _ hm⟩)) ?_
      intro y1 hy1
      (repeat first|(with_reducible first|apply Zf|apply Zg|apply Zh|apply Zi|apply Zs)|((with_reducible first|apply ZI|apply ZJ);rfl;rfl)|((with_reducible apply Zqn);rfl;rfl;rfl)|((with_reducible apply Zrc);rfl;rfl;rfl;exact List.cons_ne_nil _ _;(first|rfl|(repeat first|exact plain_nil|(refine plain_cons (by first|rfl|exact OwnD.plain_val _ _) ?_)));(focus (repeat constructor));rfl)|((with_reducible first|apply Zz|apply ZA);rfl))
      exact fun _ _ hf hm => ⟨(b7, y1), hy1, hf.sub (by (repeat constructor)), hm.wk (by (repeat constructor))⟩
  rintro a1' w1' ⟨⟨b7, y1⟩, hy1, hf1, hm1⟩
  dsimp only at hy1 hf1 hm1
  revert a1' w1'
  intro a1' w1' hf1 hm1
  refine (?_ : SK w (keys (plM bp D dsl S l ((oN, oS), oL))) 99 _ [(6, y1.2.1.val R1.ev.length), (7, .pointer (some ⟨b7, 0, none⟩)), (8, y1.2.2.val R1.tk.length), (9, .int .i64 e), (0, .pointer (some ⟨bp, 0, none⟩)), (3, .pointer (some ⟨b3, 0, none⟩)), (5, .pointer (some ⟨b5, 0, none⟩))] _) a1' w1' hf1 hm1
  clear hf1 hm1
  refine SK.seqW (Jumped w (keys (plM bp D dsl S l ((oN, oS), oL))) 99 (fun g : Nat × Y4 => [(10, g.2.2.1.val R1.ev.length), (11, .pointer (some ⟨g.1, 0, none⟩)), (12, g.2.2.2.val R1.tk.length), (13, .int .i64 e), (6, y1.2.1.val R1.ev.length), (7, .pointer (some ⟨b7, 0, none⟩)), (8, y1.2.2.val R1.tk.length), (9, .int .i64 e), (0, .pointer (some ⟨bp, 0, none⟩)), (5, .pointer (some ⟨b5, 0, none⟩))])
    (fun g => some (b5, S.c (oN.val S.nodes.length) (oS.val S.sigs.length), 33) :: some (b7, R1.S.c (y1.1.1.val R1.S.nodes.length) (y1.1.2.val R1.S.sigs.length), 33) :: some (g.1, R1.S.c (g.2.1.1.val R1.S.nodes.length) (g.2.1.2.val R1.S.sigs.length), 33) :: stepM R1 g.2 ++ (stepM R1 y1 ++ plM bp D dsl S l ((oN, oS), oL))) (fun g => ORn R1 g.2)) ?_ ?_
  · (repeat first|(with_reducible apply Zf)|((with_reducible first|apply ZI|apply ZK|apply ZN);rfl;rfl)|((with_reducible apply Zra);rfl;rfl;(focus (repeat constructor));rfl)|((with_reducible apply ZA);rfl)|refine Yd 3 o18_3 t18_3 (by kernel_rfl) ?_)
    refine SK.orC ?_ ?_
    · (repeat first|(with_reducible apply Zh)|((with_reducible apply Zz);rfl))
      refine SK.callO rfl rfl (fun w1 g1 g2 => st2 w1 (hd.mono g1) (RSt.own hoN hoS (fun b cs hb j u hu => g2 b cs _ (by rw [← hb]; (repeat constructor)) j u hu) (fun b cs hb j u hu => g2 b cs _ (by rw [← hb]; (repeat constructor)) j u hu)) (by obtain ⟨m, hm⟩ := hG; exact ⟨m, g1 _ _ _ hm⟩)) ?_
      intro y2 hy2
      (repeat first|(with_reducible first|apply Zf|apply Zg|apply Zh|apply Zi|apply Zs)|((with_reducible first|apply ZI|apply ZJ);rfl;rfl)|((with_reducible apply Zqn);rfl;rfl;rfl)|((with_reducible apply Zrc);rfl;rfl;rfl;exact List.cons_ne_nil _ _;(first|rfl|(repeat first|exact plain_nil|(refine plain_cons (by first|rfl|exact OwnD.plain_val _ _) ?_)));(focus (repeat constructor));rfl)|((with_reducible apply Zrg);rfl;intro _)|((with_reducible first|apply Zz|apply ZA);rfl)|((with_reducible apply ZF);rfl;infer_instance;rfl;(focus (repeat constructor));rfl;rfl))
      rename_i b11
      exact fun _ _ hf hm => ⟨(b11, y2), hy2, hf.sub (by (repeat constructor)), hm.wk (by (repeat constructor))⟩
    · (repeat first|(with_reducible first|apply Zf|apply Zh|apply Zs)|((with_reducible apply Zrg);rfl;intro _)|((with_reducible apply Zz);rfl)|((with_reducible apply ZF);rfl;infer_instance;rfl;(focus (repeat constructor));rfl;rfl))
      rename_i b11
      refine SK.callO rfl rfl (fun w1 g1 g2 => st2 w1 (hd.mono g1) (RSt.own hoN hoS (fun b cs hb j u hu => g2 b cs _ (by rw [← hb]; (repeat constructor)) j u hu) (fun b cs hb j u hu => g2 b cs _ (by rw [← hb]; (repeat constructor)) j u hu)) (by obtain ⟨m, hm⟩ := hG; exact ⟨m, g1 _ _ _ hm⟩)) ?_
      intro y2 hy2
      (repeat first|(with_reducible first|apply Zf|apply Zg|apply Zh|apply Zi|apply Zs)|((with_reducible first|apply ZI|apply ZJ);rfl;rfl)|((with_reducible apply Zqn);rfl;rfl;rfl)|((with_reducible apply Zrc);rfl;rfl;rfl;exact List.cons_ne_nil _ _;(first|rfl|(repeat first|exact plain_nil|(refine plain_cons (by first|rfl|exact OwnD.plain_val _ _) ?_)));(focus (repeat constructor));rfl)|((with_reducible first|apply Zz|apply ZA);rfl))
      exact fun _ _ hf hm => ⟨(b11, y2), hy2, hf.sub (by (repeat constructor)), hm.wk (by (repeat constructor))⟩
  rintro a2' w2' ⟨⟨b11, y2⟩, hy2, hf2, hm2⟩
  dsimp only at hy2 hf2 hm2
  refine (?_ : SK w (keys (plM bp D dsl S l ((oN, oS), oL))) 99 _ [(10, y2.2.1.val R1.ev.length), (11, .pointer (some ⟨b11, 0, none⟩)), (12, y2.2.2.val R1.tk.length), (13, .int .i64 e), (6, y1.2.1.val R1.ev.length), (7, .pointer (some ⟨b7, 0, none⟩)), (8, y1.2.2.val R1.tk.length), (9, .int .i64 e), (0, .pointer (some ⟨bp, 0, none⟩)), (5, .pointer (some ⟨b5, 0, none⟩))] _) a2' w2' hf2 hm2
  clear hf2 hm2
  obtain ⟨⟨p1, p2⟩, p3, p4⟩ := y1
  obtain ⟨⟨q1, q2⟩, q3, q4⟩ := y2
  obtain ⟨⟨hp1, hp2⟩, hp3, hp4⟩ := id hy1
  obtain ⟨⟨hq1, hq2⟩, hq3, hq4⟩ := id hy2
  dsimp only at hp1 hp2 hp3 hp4 hq1 hq2 hq3 hq4 ⊢
  (repeat first|(with_reducible apply Za)|((with_reducible first|apply ZI|apply ZO);rfl;rfl)|((with_reducible apply Zqd);rfl;rfl;rfl;omega)|((with_reducible apply Zz);rfl)|refine Yi 4 i18_4 (by kernel_rfl) ?_)
  refine SK.callA rfl rfl (fun w1 _ g2 => events23 _ _ R1.ev w1 (RSl.own p3 hp3 (fun b cs hb j u hu => g2 b cs _ (by rw [← hb]; (repeat constructor)) j u hu)) (RSl.own q3 hq3 (fun b cs hb j u hu => g2 b cs _ (by rw [← hb]; (repeat constructor)) j u hu)) (by omega)) ?_
  (repeat first|(with_reducible apply Zs)|((with_reducible first|apply ZI|apply ZO);rfl;rfl)|((with_reducible apply ZP);rfl;rfl)|((with_reducible apply Zqs);rfl;rfl;rfl)|((with_reducible apply Zra);rfl;rfl;(focus (repeat constructor));rfl)|((with_reducible apply Zz);rfl))
  refine SK.callA rfl rfl (fun w1 _ g2 => state24 (stV R1.S (p1, p2)) (stV R1.S (q1, q2)) R1.S w1 (RSt.own hp1 hp2 (fun b cs hb j u hu => g2 b cs _ (by rw [← hb]; (repeat constructor)) j u hu) (fun b cs hb j u hu => g2 b cs _ (by rw [← hb]; (repeat constructor)) j u hu)) (RSt.own hq1 hq2 (fun b cs hb j u hu => g2 b cs _ (by rw [← hb]; (repeat constructor)) j u hu) (fun b cs hb j u hu => g2 b cs _ (by rw [← hb]; (repeat constructor)) j u hu)) (by omega) (by omega)) ?_
  (repeat first|(with_reducible apply Zs)|((with_reducible first|apply ZI|apply ZO);rfl;rfl)|((with_reducible apply ZP);rfl;rfl)|((with_reducible apply Zqs);rfl;rfl;rfl)|((with_reducible apply Zz);rfl))
  refine SK.callA rfl rfl (fun w1 _ g2 => tasks39 _ _ R1.tk w1 (RSl.own p4 hp4 (fun b cs hb j u hu => g2 b cs _ (by rw [← hb]; (repeat constructor)) j u hu)) (RSl.own q4 hq4 (fun b cs hb j u hu => g2 b cs _ (by rw [← hb]; (repeat constructor)) j u hu)) (by omega)) ?_
  (repeat first|(with_reducible apply Zs)|((with_reducible first|apply ZI|apply ZK|apply ZN|apply ZO);rfl;rfl)|((with_reducible apply ZP);rfl;rfl)|((with_reducible apply Zqs);rfl;rfl;rfl)|((with_reducible apply Zra);rfl;rfl;(focus (repeat constructor));rfl)|((with_reducible apply Zz);rfl))
  refine SK.callA rfl rfl (fun w1 _ g2 => state24 (stV S (oN, oS)) (stV S (oN, oS)) S w1 (RSt.own hoN hoS (fun b cs hb j u hu => g2 b cs _ (by rw [← hb]; (repeat constructor)) j u hu) (fun b cs hb j u hu => g2 b cs _ (by rw [← hb]; (repeat constructor)) j u hu)) (RSt.own hoN hoS (fun b cs hb j u hu => g2 b cs _ (by rw [← hb]; (repeat constructor)) j u hu) (fun b cs hb j u hu => g2 b cs _ (by rw [← hb]; (repeat constructor)) j u hu)) (by omega) (by omega)) ?_
  by_cases h0 : e = 0
  · rw [if_pos h0] at hpl
    have h0' : ¬ (e ≠ 0) := fun h => h h0
    rw [hpl]
    (repeat first|(with_reducible first|apply Za|apply Zb|apply Zc|apply Zd|apply Ze|apply Zi|apply Zo|apply Zs)|((with_reducible first|apply ZI|apply ZO);rfl;rfl)|((with_reducible apply ZP);rfl;rfl)|((with_reducible apply Zqd);rfl;rfl;rfl;omega)|((with_reducible apply Zqs);rfl;rfl;rfl)|((with_reducible apply Zra);rfl;rfl;(focus (repeat constructor));rfl)|((with_reducible apply Zz);rfl)|((with_reducible apply ZD);rfl))
    refine SK.callP2 rfl rfl (by (repeat constructor)) (by (repeat constructor)) (fun w1 g0 => spoilS29 R1.S (p1, p2) w1 ⟨hp1, hp2⟩ ⟨a1, a2⟩ g0) ?_
    (repeat first|(with_reducible first|apply Za|apply Zb|apply Zc|apply Zd|apply Zi|apply Zs)|((with_reducible apply ZI);rfl;rfl))
    refine SK.callP1 rfl rfl (by (repeat constructor)) (fun w1 g0 => spoilT40 p4 R1.tk w1 hp4 hA3 g0) ?_
    (repeat first|(with_reducible first|apply Za|apply Zb|apply Zc|apply Zd|apply Zi|apply Zs)|((with_reducible apply ZI);rfl;rfl))
    refine SK.callP1 rfl rfl (by (repeat constructor)) (fun w1 g0 => spoilE41 p3 R1.ev w1 hp3 hA2 g0) ?_
    have efl : (l ++ R1.ev).flatMap Ev.c = l.flatMap Ev.c ++ R1.ev.flatMap Ev.c := by simp
    cases q3 with
    | none =>
      have hn0 : R1.ev.length = 0 := hq3.2
      have hnil : R1.ev = [] := List.eq_nil_of_length_eq_zero hn0
      simp only [OwnD.val]
      (repeat first|(with_reducible first|apply Za|apply Zb|apply Zc|apply Zd|apply Zi|apply Zs)|((with_reducible first|apply ZI|apply ZK|apply ZN);rfl;rfl)|((with_reducible apply Zqz);rfl;rfl;(focus (repeat constructor));rfl))
      refine SK.appendP (o := oL) (xs := l.flatMap Ev.c) (news := []) (m := 0) rfl rfl hzL rfl (by (repeat constructor)) Src.nil rfl rfl rfl rfl (by unfold maxLen; omega) (by omega) (fun oL' hoL' _ => ?_)
      simp only [List.append_nil, Nat.add_zero] at hoL' ⊢
      (repeat first|(with_reducible first|apply Za|apply Zb|apply Zc|apply Zd|apply Zi|apply Zp|apply Zs)|((with_reducible first|apply ZI|apply ZJ|apply ZK|apply ZN);rfl;rfl)|((with_reducible apply Zra);rfl;rfl;(focus (repeat constructor));rfl)|((with_reducible apply Zrb);rfl;rfl;(first|rfl|exact OwnD.plain_val _ _);(focus (repeat constructor));rfl)|((with_reducible apply Zrc);rfl;rfl;rfl;exact List.cons_ne_nil _ _;(first|rfl|(repeat first|exact plain_nil|(refine plain_cons (by first|rfl|exact OwnD.plain_val _ _) ?_)));(focus (repeat constructor));rfl))
      refine SK.retQ rfl (by (repeat constructor)) (fun w' hm' => ⟨((q1, q2), oL'), ⟨⟨hq1, hq2⟩, by dsimp only; rw [hnil, List.append_nil]; exact hoL'⟩, rfl, ?_⟩)
      rw [hnil, List.append_nil]
      exact hm'.wk (by (repeat constructor))
    | some q =>
      obtain ⟨E, cE, spE⟩ := q
      (repeat first|(with_reducible first|apply Za|apply Zb|apply Zc|apply Zd|apply Zi|apply Zs)|((with_reducible first|apply ZI|apply ZK|apply ZN);rfl;rfl)|((with_reducible apply Zqz);rfl;rfl;(focus (repeat constructor));rfl))
      refine SK.appendP (o := oL) (xs := l.flatMap Ev.c) (news := R1.ev.flatMap Ev.c) (m := R1.ev.length) rfl rfl hzL rfl (by (repeat constructor)) (Src.mem (by (repeat constructor)) (sl_own _ _)) (flat_len ev_len _) (ev_plain _) rfl rfl (by unfold maxLen; omega) (by omega) (fun oL' hoL' _ => ?_)
      (repeat first|(with_reducible first|apply Za|apply Zb|apply Zc|apply Zd|apply Zi|apply Zp|apply Zs)|((with_reducible first|apply ZI|apply ZJ|apply ZK|apply ZN);rfl;rfl)|((with_reducible apply Zra);rfl;rfl;(focus (repeat constructor));rfl)|((with_reducible apply Zrb);rfl;rfl;(first|rfl|exact OwnD.plain_val _ _);(focus (repeat constructor));rfl)|((with_reducible apply Zrc);rfl;rfl;rfl;exact List.cons_ne_nil _ _;(first|rfl|(repeat first|exact plain_nil|(refine plain_cons (by first|rfl|exact OwnD.plain_val _ _) ?_)));(focus (repeat constructor));rfl))
      refine SK.retQ rfl (by (repeat constructor)) (fun w' hm' => ⟨((q1, q2), oL'), ⟨⟨hq1, hq2⟩, by dsimp only; rw [efl, List.length_append]; exact hoL'⟩, rfl, ?_⟩)
      dsimp only [plM, plC]
      rw [efl, List.length_append]
      exact hm'.wk (by (repeat constructor))
  · rw [if_neg h0] at hpl
    rw [hpl]
    (repeat first|(with_reducible first|apply Za|apply Zb|apply Zc|apply Zd|apply Ze|apply Zi|apply Zk|apply Zo|apply Zp|apply Zs)|((with_reducible first|apply ZI|apply ZJ|apply ZO);rfl;rfl)|((with_reducible apply ZP);rfl;rfl)|((with_reducible apply ZX);rfl;rfl;rfl;omega)|((with_reducible apply Zqs);rfl;rfl;rfl)|((with_reducible first|apply Zz|apply ZC);rfl)|((with_reducible apply ZD);rfl))
    exact SK.retQ rfl (by (repeat constructor)) (fun w' hm' => ⟨((oN, oS), oL), hz, rfl, hm'.wk (by (repeat constructor))⟩)
@[reducible] def bA : ByteArray := ⟨#[97]⟩
@[reducible] def bS : ByteArray := ⟨#[115]⟩
@[reducible] def bW : ByteArray := ⟨#[119]⟩
@[reducible] def bF : ByteArray := ⟨#[102]⟩
@[reducible] def bHi : ByteArray := ⟨#[104, 105]⟩
@[reducible] def ndW : Nd := ⟨bA, 4, bS, e0, 0, 0, []⟩
@[reducible] def dfW : Df := ⟨bW, [ndW]⟩
@[reducible] def inW1 : Inp := ⟨1, e0, bF, e0, 0, 0, 0, e0, e0⟩
@[reducible] def inW2 : Inp := ⟨2, e0, bS, bHi, 0, 0, 0, e0, e0⟩
@[reducible] def rW1 : Rn := ⟨⟨bW, bF, e0, e0, 1, e0, [⟨2, 0, e0⟩], [], 2⟩, [⟨1, e0, e0, 0⟩, ⟨11, bA, e0, 0⟩], []⟩
@[reducible] def rW2 : Rn := ⟨⟨bW, bF, e0, e0, 2, bHi, [⟨3, 0, bHi⟩], [], 4⟩, [⟨12, bA, bHi, 0⟩, ⟨15, e0, bHi, 2⟩], []⟩
theorem stepW1 : stepL dfW sta0 inW1 = (0, rW1) := by kernel_rfl
theorem nameW : nameL bS false 64 = true := by
  unfold nameL
  rw [ByteArray.toList_eq]
  decide
theorem stepW2 : stepL dfW rW1.S inW2 = (0, rW2) := by
  have e1 : stepR dfW 0 ⟨rW1.S, [], []⟩ inW2 = signalL dfW 0 ⟨rW1.S, [], []⟩ inW2 := by kernel_rfl
  have e2 : signalL dfW 0 ⟨rW1.S, [], []⟩ inW2 = (0, rW2) := by
    unfold signalL
    rw [if_neg (by rw [nameW]; decide)]
    kernel_rfl
  unfold stepL
  rw [show inW2.now = 0 from rfl, e1, e2]
  rfl
theorem okW : DefOK dfW := by
  refine ⟨by decide, by decide, fun n hn => ?_, fun i n hn => ?_, fun n hn => ?_, fun n hn => ?_⟩
  · rcases List.mem_singleton.1 hn with rfl; decide
  · rcases i with _ | i
    · cases hn; kernel_rfl
    · simp at hn
  · rcases List.mem_singleton.1 hn with rfl; decide
  · rcases List.mem_singleton.1 hn with rfl; decide
theorem goodW1 : Good dfW rW1.S := ⟨by decide, by decide, (fun x hx _ _ => by rcases List.mem_singleton.1 hx with rfl; rfl), by decide, fun _ => rfl⟩
theorem rdfW {V : View} {b : Nat} (h : ∀ (j : Nat) (u : Value), nv (ndW.c (.slice none 0 0)) j = some u → V b j u) : RDf V (.agg #[.string bW, .slice (some ⟨b, 0, none⟩) 1 1]) dfW := by
  refine ⟨_, 1, rfl, fun i x hx => ?_⟩
  rcases i with _ | i
  · cases hx
    exact ⟨b, 0, .slice none 0 0, rfl, ⟨none, 0, rfl, .inl rfl⟩, fun j u hu => by
      have := h j u (by rw [nv_eq]; exact hu)
      simpa using this⟩
  · simp at hx
set_option maxRecDepth 100000 in
set_option maxHeartbeats 8000000 in
theorem wakes17 (w : World) (hG : ∃ m, Vw w [] 0 0 (.int .i64 m)) : Ans 17 [] w (.bool true) := by
  have st1 := fun dv sv w1 h1 h2 h3 => step20 dv sv dfW sta0 inW1 w1 okW (good0 _) (by decide) h1 h2 h3
  have h1 := stepW1
  generalize stepL dfW sta0 inW1 = r1 at h1 st1
  obtain ⟨e1, R1⟩ := r1
  obtain ⟨he1, hR1⟩ : e1 = 0 ∧ R1 = rW1 := by cases h1; exact ⟨rfl, rfl⟩
  have f1 : R1.S.status = 1 := by rw [hR1]
  have f2 : R1.ev.length = 2 := by rw [hR1]; rfl
  have hg1 : Good dfW R1.S := by rw [hR1]; exact goodW1
  have st2 := fun dv sv w1 h1 h2 h3 => step20 dv sv dfW R1.S inW2 w1 okW hg1 (by decide) h1 h2 h3
  have h2 : stepL dfW R1.S inW2 = (0, rW2) := by rw [hR1]; exact stepW2
  generalize stepL dfW R1.S inW2 = r2 at h2 st2
  obtain ⟨e2, R2⟩ := r2
  obtain ⟨he2, hR2⟩ : e2 = 0 ∧ R2 = rW2 := by cases h2; exact ⟨rfl, rfl⟩
  have f3 : R2.S.status = 2 := by rw [hR2]
  have f4 : R2.ev.length = 2 := by rw [hR2]; rfl
  have f5 : R2.S.text = ⟨#[104, 105]⟩ := by rw [hR2]
  have f6 : R2.S.nodes.length = 1 := by rw [hR2]; rfl
  have f7 : ((FloatKind.f64.format.order (cF (ovr R2.S R2.S.nodes.length)) 4607182418800017408 == some .eq) && (FloatKind.f64.format.order (cF (R2.S.nodes.length - ovr R2.S R2.S.nodes.length)) 0 == some .eq)) = true := by rw [hR2]; kernel_rfl
  clear h1 h2 hR1 hR2 hg1
  refine enter0 Try.func17 rfl Try.ntmps17 rfl ?_
  (repeat first|(with_reducible first|apply Za|apply Zb|apply Zc|apply Zd|apply Zi|apply Zs)|((with_reducible apply ZJ);rfl;rfl)|((with_reducible apply Zqr);rfl;rfl;rfl)|((with_reducible apply Zra);rfl;rfl;(focus (repeat constructor));rfl)|((with_reducible apply Zrc);rfl;rfl;rfl;exact List.cons_ne_nil _ _;(first|rfl|(repeat first|exact plain_nil|(refine plain_cons (by first|rfl|exact OwnD.plain_val _ _) ?_)));(focus (repeat constructor));rfl)|((with_reducible apply Zrd);rfl;rfl;rfl;rfl;rfl;rfl;rfl;intro _)|((with_reducible apply Zrg);rfl;intro _))
  refine SK.callO rfl rfl (fun w1 g1 g2 => st1 _ (stV sta0 (none, none)) w1 (rdfW (g2 _ _ _ (by (repeat constructor)))) (RSt.own ⟨rfl, rfl⟩ ⟨rfl, rfl⟩ (fun b cs hb => by cases hb) (fun b cs hb => by cases hb)) (by obtain ⟨m, hm⟩ := hG; exact ⟨m, g1 _ _ _ hm⟩)) ?_
  rintro ⟨⟨oN, oS⟩, oE, oT⟩ ⟨⟨hoN, hoS⟩, hoE, hoT⟩
  dsimp only at hoN hoS hoE hoT ⊢
  obtain ⟨A1, c1, hv1⟩ := val_sl hoE
  (repeat first|(with_reducible first|apply Za|apply Zb|apply Zc|apply Zd|apply Zi|apply Zs)|((with_reducible first|apply ZI|apply ZJ|apply ZO);rfl;rfl)|((with_reducible apply Zqd);rfl;rfl;rfl;omega)|((with_reducible apply Zqn);rfl;rfl;rfl)|((with_reducible apply Zrc);rfl;rfl;rfl;exact List.cons_ne_nil _ _;(first|rfl|(repeat first|exact plain_nil|(refine plain_cons (by first|rfl|exact OwnD.plain_val _ _) ?_)));(focus (repeat constructor));rfl)|((with_reducible apply Zrg);rfl;intro _))
  refine SK.slot (j := 21) rfl hv1 ?_
  (repeat first|(with_reducible first|apply Za|apply Zb|apply Zc|apply Zd|apply Zi|apply Zo)|((with_reducible first|apply ZI|apply ZK|apply ZM|apply ZO);rfl;rfl)|((with_reducible apply Zqd);rfl;rfl;rfl;omega)|((with_reducible apply Zqr);rfl;rfl;rfl)|((with_reducible apply Zqs);rfl;rfl;rfl)|((with_reducible first|apply Zqz|apply Zra);rfl;rfl;(focus (repeat constructor));rfl)|((with_reducible apply ZD);rfl))
  refine SK.callO rfl rfl (fun w1 g1 g2 => st2 _ (stV R1.S (oN, oS)) w1 (rdfW (g2 _ _ _ (by (repeat constructor)))) (RSt.own hoN hoS (fun b cs hb j u hu => g2 b cs _ (by rw [← hb]; (repeat constructor)) j u hu) (fun b cs hb j u hu => g2 b cs _ (by rw [← hb]; (repeat constructor)) j u hu)) (by obtain ⟨m, hm⟩ := hG; exact ⟨m, g1 _ _ _ hm⟩)) ?_
  rintro ⟨⟨qN, qS⟩, qE, qT⟩ ⟨⟨hqN, hqS⟩, hqE, hqT⟩
  dsimp only at hqN hqS hqE hqT ⊢
  obtain ⟨A2, c2, hv2⟩ := val_sl hqE
  (repeat first|(with_reducible first|apply Za|apply Zb|apply Zc|apply Zd|apply Zi|apply Zs)|((with_reducible first|apply ZI|apply ZJ|apply ZO);rfl;rfl)|((with_reducible apply ZW);rfl;rfl;rfl;omega)|((with_reducible apply Zqn);rfl;rfl;rfl)|((with_reducible apply Zrc);rfl;rfl;rfl;exact List.cons_ne_nil _ _;(first|rfl|(repeat first|exact plain_nil|(refine plain_cons (by first|rfl|exact OwnD.plain_val _ _) ?_)));(focus (repeat constructor));rfl))
  refine SK.slot (j := 42) rfl hv2 ?_
  (repeat first|(with_reducible apply Zc)|((with_reducible first|apply ZI|apply ZK|apply ZM|apply ZO);rfl;rfl)|((with_reducible apply ZW);rfl;rfl;rfl;omega)|((with_reducible apply Zqo);rfl;rfl;rfl)|((with_reducible apply Zqf);rfl;rfl;rfl;assumption)|((with_reducible first|apply Zqz|apply Zra);rfl;rfl;(focus (repeat constructor));rfl))
  refine SK.callA rfl rfl (fun w1 _ g2 => count26 (stV R2.S (qN, qS)) R2.S w1 (RSt.own hqN hqS (fun b cs hb j u hu => g2 b cs _ (by rw [← hb]; (repeat constructor)) j u hu) (fun b cs hb j u hu => g2 b cs _ (by rw [← hb]; (repeat constructor)) j u hu)) (by omega)) ?_
  (repeat first|(with_reducible first|apply Zc|apply Zs)|((with_reducible apply ZO);rfl;rfl))
  refine SK.eqC rfl rfl rfl ?_
  rw [f7]
  (repeat first|(with_reducible first|apply Zc|apply Zd|apply Zi|apply Zp)|((with_reducible apply ZJ);rfl;rfl)|((with_reducible apply Zqo);rfl;rfl;rfl))
  exact SK.retQ rfl (by (repeat constructor)) (fun w' hm' => ⟨(), trivial, rfl, hm'.wk (by (repeat constructor))⟩)
theorem playL_good {D : Df} {p : Sta × List Ev} {a : Inp} (hD : DefOK D) (h : Good D p.1) (hna : a.name.size ≤ 1000) : Good D (playL D p a).1 ∧ (playL D p a).2.length ≤ p.2.length + 100000 := by
  have hA := stepL_aft hD h hna
  unfold playL
  split
  · exact ⟨hA.go, by have := hA.ev; simp only [List.length_append]; omega⟩
  · exact ⟨h, Nat.le_add_right _ _⟩
theorem Texts.cut {D : Df} (h : Texts D) : Texts (cutD D) := by
  obtain ⟨h1, h2, h3⟩ := h
  refine ⟨h1, by simp only [cutD, List.length_take]; omega, fun n hn => h3 n (List.mem_of_mem_take hn)⟩
def InOK (l : List Inp) : Prop := l.length < 9223372036854775807 ∧ ∀ a ∈ l, a.text.size < 9223372036854775807 ∧ a.name.size < 9223372036854775807
theorem inp_len (x : Inp) : (Inp.c x).length = 9 := rfl
end Go.Proofs.Ytdnjfmgldkommaa
