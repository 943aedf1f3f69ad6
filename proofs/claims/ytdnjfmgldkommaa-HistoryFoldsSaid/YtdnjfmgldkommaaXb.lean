/- Proved here: the iterator, and a round of the law. -/
import Derived.Test.YtdnjfmgldkommaaXa
import Derived.Test.YtdnjfmgldkommaaFe
import Derived.Test.YtdnjfmgldkommaaQb
import Derived.Test.YtdnjfmgldkommaaQa
import Derived.Test.YtdnjfmgldkommaaLd
namespace Go.Sx
theorem Wk.skipX {M N : ML} {x : Option (Nat × List Value × TypeId)} (h : Wk M N) : Wk (x :: M) N := by
  induction h with
  | nil M => exact Wk.nil _
  | none _ ih => exact Wk.none ih
  | pick hp _ ih => exact Wk.pick (Pick.tail _ hp) ih
theorem Pick.mid {e : Option (Nat × List Value × TypeId)} : ∀ (A B : ML), Pick e (A ++ e :: B) (A ++ B)
  | [], B => Pick.head B
  | x :: A, B => Pick.tail x (Pick.mid A B)
theorem Wk.swap : ∀ (A B : ML), Wk (A ++ B) (B ++ A)
  | A, [] => by rw [List.append_nil]; exact Wk.refl A
  | A, b :: B => Wk.pick (Pick.mid A B) (Wk.swap A B)
end Go.Sx
namespace Go.Proofs.Ytdnjfmgldkommaa
open Go.Sx
def RIt (wB : World) (Mod : List Nat) (MB : OwnD × OwnD → ML) (S : Sta) (l : Nat) (done : Loop) (N : ML) (e : Ending) (w' : World) : Prop :=
  (∃ v, e = .returned v) ∧ ((∃ y, OSt S y ∧ Mem wB Mod (MB y) w') ∨ (Mem wB (l :: Mod) N w' ∧ w'.heap[l]? = some (.loop done)))
instance {wB : World} {Mod : List Nat} {MB : OwnD × OwnD → ML} {S : Sta} {l : Nat} {done : Loop} {N : ML} : NoOutR (RIt wB Mod MB S l done N) := ⟨fun w h => by obtain ⟨⟨v, hv⟩, _⟩ := h; cases hv⟩
theorem way_step {D : Df} {id : ByteArray} {evs : List Ev} {S T : Sta} {i : Nat} {e : Ev} (h1 : Way D id evs i S) (h2 : Way D id evs (i + 1) T) (he : evs[i]? = some e) : applyL D S e = some T := by
  have h := h2.fo
  rw [List.take_add_one, he, foldE_append, h1.fo] at h
  simp only [Option.toList_some, Option.bind_some, foldE] at h
  cases ha : applyL D S e with
  | none => rw [ha] at h; cases h
  | some U => rw [ha] at h; exact h
set_option maxRecDepth 100000 in
set_option maxHeartbeats 8000000 in
theorem states48 (D : Df) (dsl : Value) (id : ByteArray) (evs : List Ev) (lv : Value) (St : Nat → Sta) (hW : ∀ i, i ≤ evs.length → Way D id evs i (St i)) (hkp : keep13 evs ≤ 900) (hdn : D.nodes.length ≤ 64) (hlen : evs.length < 9223372036854775807)
    (MB : Nat → OwnD × OwnD → ML) (l : Nat) (rec done : Loop) (N : ML) (wB : World) (y0 : OwnD × OwnD) (hmB : Mem wB (keys (MB 0 y0)) (MB 0 y0) wB) (hq0 : OSt (St 0) y0) (hl : wB.heap[l]? = some (.loop rec)) (hlk : l ∉ keys (MB 0 y0)) (bF bE b3 : Nat)
    (h1 : Vw wB (keys (MB 0 y0)) bF 0 (.string id)) (h2 : Vw wB (keys (MB 0 y0)) bE 0 lv) (hlv : RSl (Vw wB (keys (MB 0 y0))) lv evs.length (evs.flatMap Ev.c))
    (h3 : ∀ (j : Nat) (v : Value), [Value.string D.name, dsl][j]? = some v → Vw wB (keys (MB 0 y0)) b3 (0 + j) v) (hd : RDf (Vw wB (keys (MB 0 y0))) (.agg #[.string D.name, dsl]) D)
    (YP : ∀ (i : Nat) (y : OwnD × OwnD) (w : World) (cv : Value), i < evs.length → OSt (St i) y → Mem w (keys (MB i y)) (MB i y) w → w.heap[l]? = some (.loop rec) → l ∉ keys (MB i y) → (∀ b o v, Vw wB (keys (MB 0 y0)) b o v → Vw w (keys (MB i y)) b o v) →
      RSt (Vw w (keys (MB i y))) cv (St (i + 1)) → YieldAt Fence.wide 0 Try.prog l #[.int .i64 (i : Int), cv] w (fun e w' => (e = .returned (.bool true) ∧ ∃ y', OSt (St (i + 1)) y' ∧ Mem w (keys (MB i y)) (MB (i + 1) y') w') ∨
        (e = .returned (.bool false) ∧ Mem w (l :: keys (MB i y)) N w' ∧ w'.heap[l]? = some (.loop done)))) :
    Calls Try.prog 48 [.func (.yield l) #[] #[], .pointer (some ⟨bF, 0, none⟩), .pointer (some ⟨bE, 0, none⟩), .pointer (some ⟨b3, 0, none⟩)].toArray wB (RIt wB (keys (MB 0 y0)) (MB evs.length) (St evs.length) l done N) := by
  obtain ⟨A, cap, rfl, hin⟩ := hlv.open ev_len
  have hS0 : St 0 = { sta0 with id := id } := (Option.some.inj (hW 0 (Nat.zero_le _)).fo).symm
  refine enterF (M := MB 0 y0) Try.func48 rfl Try.ntmps48 rfl hmB ?_
  (repeat first|(with_reducible first|apply Za|apply Zb|apply Zc|apply Zd|apply Zi|apply Zr|apply Zs)|((with_reducible refine Yz ?_);first|((with_reducible apply SK.load1R); rfl; rfl; first | exact h1 | exact h2)|((with_reducible first|apply ZI|apply ZM);rfl;rfl)|((with_reducible apply Zqr);rfl;rfl;rfl)|((with_reducible apply Zrc);rfl;rfl;rfl;exact List.cons_ne_nil _ _;(first|rfl|(repeat first|exact plain_nil|(refine plain_cons (by first|rfl|exact OwnD.plain_val _ _) ?_)));(focus (repeat constructor));rfl)|((with_reducible apply Zrg);rfl;intro _)))
  rename_i b5
  refine SK.loopW (fun g : Nat × (OwnD × OwnD) × OwnD × OwnD => [(14, .int .i64 (g.1 : Int)), (13, .int .i64 (evs.length : Int)), (12, .slice A evs.length cap), (0, .func (.yield l) #[] #[]), (3, .pointer (some ⟨b3, 0, none⟩)), (5, .pointer (some ⟨b5, 0, none⟩))])
    (fun g => some (b5, (St g.1).c (g.2.2.1.val (St g.1).nodes.length) (g.2.2.2.val (St g.1).sigs.length), 33) :: g.2.2.1.ent ((St g.1).nodes.flatMap Ns.c) 56 :: g.2.2.2.ent ((St g.1).sigs.flatMap Sg.c) 100 :: MB g.1 g.2.1)
    (fun g => g.1 ≤ evs.length ∧ OSt (St g.1) g.2.1 ∧ OSt (St g.1) g.2.2) (fun g => evs.length - g.1) (0, y0, none, none) ⟨Nat.zero_le _, hq0, by dsimp only; rw [hS0]; exact ⟨⟨rfl, rfl⟩, ⟨rfl, rfl⟩⟩⟩ (by (repeat constructor)) (by dsimp only; rw [hS0]; ((repeat constructor) <;> (repeat (first | exact Wk.refl _ | apply Wk.skipX)))) ?_
  rintro ⟨i, y, oN, oS⟩ ⟨hi, hy, ⟨hoN, hoS⟩⟩
  dsimp only at hi hy hoN hoS ⊢
  by_cases hlt : i < evs.length
  · obtain ⟨e, he⟩ : ∃ e, evs[i]? = some e := ⟨_, List.getElem?_eq_getElem hlt⟩
    obtain ⟨bi, oi, hA, hcell⟩ := hin i e he (by omega)
    subst hA
    have hw1 := hW i (by omega)
    have hw2 := hW (i + 1) (by omega)
    have ha := way_step hw1 hw2 he
    have hsm := hw1.small hkp
    have hsm2 := hw2.small hkp
    generalize hS : St i = S at *
    generalize hT : St (i + 1) = T at *
    (repeat first|(with_reducible first|apply Za|apply Zb|apply Zc|apply Zd|apply Zi|apply Zo|apply Zr|apply Zs)|((with_reducible refine Yz ?_);first|((with_reducible apply SK.loadAR); rfl; rfl; (first | exact h3 | exact hcell); rfl)|((with_reducible apply SK.indexAddr); rfl; rfl; rfl; exact hlt)|((with_reducible first|apply ZI|apply ZJ);rfl;rfl)|((with_reducible apply ZS);rfl;rfl;rfl;omega)|((with_reducible apply Zra);rfl;rfl;(focus (repeat constructor));rfl)|((with_reducible apply Zrc);rfl;rfl;rfl;exact List.cons_ne_nil _ _;(first|rfl|(repeat first|exact plain_nil|(refine plain_cons (by first|rfl|exact OwnD.plain_val _ _) ?_)));(focus (repeat constructor));rfl)|((with_reducible apply Zrg);rfl;intro _))|((with_reducible apply ZC);rfl))
    refine SK.callO rfl rfl (fun w1 g1 g2 => apply27 _ (stV S (oN, oS)) D S e hsm hdn w1 (hd.mono g1) (RSt.own hoN hoS (fun b cs hb j u hu => g2 b cs _ (by rw [← hb]; (repeat constructor)) j u hu) (fun b cs hb j u hu => g2 b cs _ (by rw [← hb]; (repeat constructor)) j u hu))) ?_
    rintro ⟨qN, qS⟩ hq
    unfold AppV
    rw [ha] at hq ⊢
    dsimp only [Option.getD_some] at hq ⊢
    simp only [Option.isSome_some, if_true]
    obtain ⟨hqN, hqS⟩ := hq
    dsimp only at hqN hqS
    (repeat ((fail_if_success (with_reducible refine SK.atS 5 ?_)); first|(with_reducible first|apply Zc|apply Zd|apply Zi|apply Zs)|((with_reducible first|apply ZI|apply ZJ);rfl;rfl)|((with_reducible apply Zqn);rfl;rfl;rfl)|((with_reducible apply Zrc);rfl;rfl;rfl;exact List.cons_ne_nil _ _;(first|rfl|(repeat first|exact plain_nil|(refine plain_cons (by first|rfl|exact OwnD.plain_val _ _) ?_)));(focus (repeat constructor));rfl)|((with_reducible apply Zrg);rfl;intro _)))
    rename_i b7 b8
    refine SK.seq (SK.seq (SK.nextTZreg ?_))
    (repeat first|(with_reducible apply SK.nextTZ)|((with_reducible first|apply ZI|apply ZO);rfl;rfl)|((with_reducible apply Zqd);rfl;rfl;rfl;omega)|((with_reducible apply Zra);rfl;rfl;(focus (repeat constructor));rfl))
    refine SK.callO rfl rfl (fun w1 g1 g2 => copied42 _ T w1 (RSt.own hqN hqS (fun b cs hb j u hu => g2 b cs _ (by rw [← hb]; (repeat constructor)) j u hu) (fun b cs hb j u hu => g2 b cs _ (by rw [← hb]; (repeat constructor)) j u hu)) hsm2) ?_
    rintro ⟨cN, cS⟩ ⟨hcN, hcS⟩
    dsimp only at hcN hcS
    refine SK.chk_nil ?_
    refine SK.nextTZy rfl rfl rfl rfl rfl hl hlk (MB i y) [cN.ent (T.nodes.flatMap Ns.c) 56, cS.ent (T.sigs.flatMap Sg.c) 100, some (b8, T.c (qN.val T.nodes.length) (qS.val T.sigs.length), 33), qN.ent (T.nodes.flatMap Ns.c) 56, qS.ent (T.sigs.flatMap Sg.c) 100,
        some (b7, e.c, 70), some (b5, S.c (oN.val S.nodes.length) (oS.val S.sigs.length), 33), oN.ent (S.nodes.flatMap Ns.c) 56, oS.ent (S.sigs.flatMap Sg.c) 100] (by exact Wk.swap [_, _, _, _, _, _, _, _, _] (MB i y)) (fun y' => OSt T y') (fun y' => MB (i + 1) y')
      (fun w hself hl1 hlk1 vw vr => by
        have h := YP i y w (stV T (cN, cS)) hlt (by rw [hS]; exact hy) hself hl1 hlk1 vw (by rw [hT]; exact RSt.own hcN hcS (fun b cs hb j u hu => vr b cs _ (by rw [← hb]; (repeat constructor)) j u hu) (fun b cs hb j u hu => vr b cs _ (by rw [← hb]; (repeat constructor)) j u hu))
        rw [hT] at h
        exact h) ?_ ?_
    · intro y' hy'
      refine SK.wk (Wk.swap (MB (i + 1) y') _) ?_
      (repeat first|(with_reducible first|apply Zb|apply Zc|apply Zd|apply Zi|apply Zl|apply Zo|apply Zs)|((with_reducible first|apply ZI|apply ZO);rfl;rfl)|((with_reducible apply ZP);rfl;rfl)|((with_reducible apply ZR);rfl;rfl;rfl;omega)|((with_reducible apply Zqs);rfl;rfl;rfl)|((with_reducible apply Zra);rfl;rfl;(focus (repeat constructor));rfl)|((with_reducible apply Zrc);rfl;rfl;rfl;exact List.cons_ne_nil _ _;(first|rfl|(repeat first|exact plain_nil|(refine plain_cons (by first|rfl|exact OwnD.plain_val _ _) ?_)));(focus (repeat constructor));rfl)|((with_reducible apply ZD);rfl)|(with_reducible apply SK.nextTZ)|(with_reducible apply SK.nextTZd))
      exact SK.roundW (i + 1, y', qN, qS) ⟨by omega, by dsimp only; rw [hT]; exact hy', by dsimp only; rw [hT]; exact ⟨hqN, hqS⟩⟩ (by dsimp only; omega) (by (repeat constructor)) (by dsimp only; rw [hT]; ((repeat constructor) <;> (repeat (first | exact Wk.refl _ | apply Wk.skipX))))
    · intro w' hm1 hl1
      (repeat first|(with_reducible first|apply Zi|apply Zk|apply Zm|apply Zp)|((with_reducible apply ZO);rfl;rfl)|((with_reducible apply ZP);rfl;rfl)|((with_reducible apply Zqs);rfl;rfl;rfl)|((with_reducible apply ZC);rfl)|(with_reducible apply SK.nextTZ)|(with_reducible apply SK.nextTZd))
      exact SK.retQ rfl (by (repeat constructor)) (fun w'' hm2 => ⟨⟨_, rfl⟩, .inr ⟨Mem.called (Mf := []) hm1 hm2, by rw [hm2.old l (Array.getElem?_eq_some_iff.1 hl1).1 (by simp), hl1]⟩⟩)
  · have hie : i = evs.length := by omega
    subst hie
    (repeat first|(with_reducible first|apply Za|apply Zb|apply Zc|apply Zd|apply Zi|apply Zj|apply Zn|apply Zq)|((with_reducible apply ZY);rfl;rfl;rfl;omega)|((with_reducible apply ZD);rfl))
    exact SK.endQ rfl (by (repeat constructor)) (fun w' hm' => ⟨⟨_, rfl⟩, .inl ⟨y, hy, hm'.wk (by ((repeat constructor) <;> (repeat (first | exact Wk.refl _ | apply Wk.skipX))))⟩⟩)
theorem keep13_append (l m : List Ev) : keep13 (l ++ m) = keep13 l + keep13 m := List.countP_append
theorem keep13_snoc {l : List Ev} {e : Ev} (h : e.kind ≠ 13) : keep13 (l ++ [e]) = keep13 l := by
  rw [keep13_append]
  unfold keep13
  rw [List.countP_singleton]
  simp [h]
theorem Bm.k13 {now : Int} {S : Sta} {n : Nd} {x y : Ns} {g : List Sg} {e : Ev} {ts : List Tk} (h : Bm now S n x y g e ts) : e.kind ≠ 13 := by
  cases h <;> simp
theorem Fm.k13 {S : Sta} {a : Inp} {n : Nd} {x y : Ns} {b : Bool} {e : Ev} {ts : List Tk} (h : Fm S a n x b y e ts) : e.kind ≠ 13 := by
  cases h <;> simp
theorem cls_k13 {D : Df} {R : Rn} {st : Int} {t : ByteArray} (hs : R.S.status = 1) (h4 : st = 2 ∨ st = 3 ∨ st = 4) : keep13 (cls D R st t).ev = keep13 R.ev := by
  obtain ⟨_, ts, he, _⟩ := cls_eq (D := D) (t := t) hs h4
  rw [he]
  exact keep13_snoc (by simp)
theorem On.k13 {D : Df} {now : Int} {R R' : Rn} (h : On D now R R') : keep13 R'.ev = keep13 R.ev := by
  induction h with
  | more hs hl hr hn hx h0 hm ha h ih => rw [ih]; exact keep13_snoc hm.k13
  | stay hs hl hr ha => rfl
  | done hs hl hr ha => exact cls_k13 hs (.inl rfl)
  | @long R i n x hs hl hr hn hx h0 k hsz ha =>
    rw [cls_k13 (R := mv _ _ _ _ _ _) hs (.inr (.inl rfl))]
    exact keep13_snoc (by simp)
theorem Stp.k13 {D : Df} {S : Sta} {a : Inp} {R : Rn} (h : Stp D S a R) : keep13 R.ev ≤ 1 := by
  have hle : ∀ e : Ev, keep13 [e] ≤ 1 := fun e => List.countP_le_length
  cases h with
  | start h0 ha hp h => rw [h.k13]; exact hle _
  | on h1 hn hx hm ha h => rw [h.k13]; exact hle _
  | stop h1 hn hx hm ha => exact hle _
  | kept h1 ha hk hp => exact hle _
  | @fail i n x t h1 hn hx h ha => rw [cls_k13 (R := mv ⟨S, [], []⟩ i { x with st := 4, text := t } S.sigs ⟨6, n.name, t, 0⟩ []) h1 (.inr (.inl rfl))]; exact hle _
  | cancel h1 ha => rw [cls_k13 (R := ⟨S, [], []⟩) h1 (.inr (.inr rfl))]; exact Nat.zero_le _
structure FI (D : Df) (p : Sta × List Ev) (i : Nat) : Prop where
  fo : foldE D (born p.1) p.2 = some p.1
  z : p.1.status = 0 → p.2 = []
  k : keep13 p.2 ≤ i
theorem fi0 (D : Df) : FI D (sta0, []) 0 := ⟨rfl, fun _ => rfl, Nat.le_refl _⟩
theorem playL_fi {D : Df} {p : Sta × List Ev} {a : Inp} {i : Nat} (hD : DefOK D) (hw : WS D p.1) (h : FI D p i) : FI D (playL D p a) (i + 1) := by
  unfold playL
  split
  · rename_i h0
    have hs := stepL_stp hD (fun h1 => hw.ln (by omega)) h0
    have hk := hs.k13
    have hst := hs.status
    generalize (stepL D p.1 a).2 = R at *
    obtain ⟨S, ev⟩ := p
    dsimp only at *
    refine ⟨?_, fun hz => ?_, ?_⟩
    · dsimp only
      by_cases h1 : S.status = 1
      · obtain ⟨f1, f2⟩ := hs.fold h1
        have hb : born R.S = born S := by unfold born; rw [f2]
        rw [hb, foldE_append]
        have := h.fo
        dsimp only at this
        rw [this]
        exact f1
      · have h0 : S.status = 0 := by cases hs <;> first | assumption | (exfalso; omega)
        have := hw.zero h0
        subst this
        have hev : ev = [] := h.z h0
        subst hev
        exact hs.fold0
    · dsimp only at hz
      omega
    · dsimp only
      rw [keep13_append]
      have := h.k
      dsimp only at this
      omega
  · exact ⟨h.fo, h.z, Nat.le_succ_of_le h.k⟩
end Go.Proofs.Ytdnjfmgldkommaa
namespace Go.Sx
section
variable {P : Program} {ops : Array Oper} {w0 : World} {Mod : List Nat} {n : Nat} {F : FL} {M : ML} {K : Act → World → Prop} {chk : List Nat} {ty : TypeId} {pos : String} {aft : Array Edge} {d : Nat}
theorem SK.chk1R {j dj : Nat} {T : TypeId} {x : Operand} {b o : Nat} {v : Value} {g : Option (Nat × Bool)} (ho0 : nthO ops.toList j = some ⟨some dj, .load T x, ty, pos, aft, g⟩) (hT : One P T)
    (hx : ev F x = some (.pointer (some ⟨b, o, none⟩))) (hv : Vw w0 Mod b o v) (hd : lk F dj = some v) (h : SK w0 Mod n (chkE P ops chk K) F M) :
    SK w0 Mod n (chkE P ops (j :: chk) K) F M := by
  have ho := nthO_ops ho0
  intro a w hf hm
  obtain ⟨h1, h2⟩ := h a w hf hm
  refine ⟨fun i hi => ?_, h2⟩
  rcases List.mem_cons.1 hi with rfl | hi
  · intro o' ho' _
    have : o' = ⟨some dj, .load T x, ty, pos, aft, g⟩ := by rw [ho] at ho'; exact (Option.some.inj ho').symm
    subst this
    refine ⟨dj, v, rfl, hf.at_ dj v hd, ?_⟩
    have := One.run (P := P) (T := T) w b o (v := v) (hm.view hv)
    simp only [execOp, hf.ev hx, Sem.run_bind, this, Result.andThen_ok, Sem.run_pure]
  · exact h1 i hi
theorem SK.iaddE {T U : TypeId} {x y : Operand} {k : IntKind} {a b c : Int} (hd : Nat.blt d n = true) (hx : ev F x = some (.int k a)) (hy : ev F y = some (.int k b)) (he : k.wrap (a + b) = c) (h : SK w0 Mod n K ((d, .int k c) :: F) M) :
    SK w0 Mod n (stepE P ops ⟨some d, .binOp .add T x y U, ty, pos, aft, none⟩ chk K) F M := SK.iadd hd hx hy (by rw [he]; exact h)
end
instance : NoOut (fun _ _ _ => False) := ⟨fun _ _ h => h⟩
theorem SK.goesR {w w₂ : World} {Mf M' M3 N : ML} {l n : Nat} {rec : Loop} {F : FL} {R : Ending → World → Prop} (h : RB w Mf l rec M' w₂) (hw : Wk M3 N) (hR : ∀ w', Mem w (keys Mf) N w' → R (.returned (.bool true)) w') :
    SK w₂ (keys M') n (roundPost Go.Proofs.Try.prog l R .normal) F M3 := fun a w₃ _ hm => by
  obtain ⟨h1, h2⟩ := h.goes hm hw
  exact ⟨_, _, h1, hR _ h2⟩
theorem SK.leavesR {w w₂ : World} {Mf M' M3 N : ML} {l n : Nat} {rec : Loop} {F : FL} {R : Ending → World → Prop} (h : RB w Mf l rec M' w₂) (hw : Wk M3 N)
    (hR : ∀ w', Mem w (l :: keys Mf) N w' → w'.heap[l]? = some (.loop { rec with state := .done, pending := some .ret }) → R (.returned (.bool false)) w') :
    SK w₂ (keys M') n (roundPost Go.Proofs.Try.prog l R .ret) F M3 := fun a w₃ _ hm => by
  obtain ⟨h1, h2, h3⟩ := h.leaves hm hw
  exact ⟨_, _, h1, hR _ h2 h3⟩
def rfOf : Code → Option (Code × Code)
  | .rangeFunc _ _ a b => some (a, b)
  | .seq x y => match rfOf x with
    | some r => some r
    | none => rfOf y
  | .block _ c => rfOf c
  | _ => none
end Go.Sx
namespace Go.Proofs.Ytdnjfmgldkommaa
open Go.Sx
@[reducible] def MB13 (b11 b12 b6 : Nat) (S : Sta) (i : Nat) (y : OwnD × OwnD) : ML :=
  [some (b11, S.c (y.1.val S.nodes.length) (y.2.val S.sigs.length), 33), y.1.ent (S.nodes.flatMap Ns.c) 56, y.2.ent (S.sigs.flatMap Sg.c) 100, some (b12, [.int .i64 (i : Int)], 3), some (b6, [.bool false], 4)]
set_option maxRecDepth 100000 in
set_option maxHeartbeats 8000000 in
theorem round13 (D : Df) (dsl : Value) (evs : List Ev) (A : Option Addr) (cap : Nat) (S T : Sta) (i : Nat) (e : Ev) (he : evs[i]? = some e) (ha : applyL D S e = some T) (hsm : Small S) (hsm2 : Small T) (hdn : D.nodes.length ≤ 64) (hlen : evs.length < 9223372036854775807)
    (y : OwnD × OwnD) (hy : OSt S y) (w : World) (cv : Value) (l : Nat) (rec : Loop) (b3 b5 b6 b7 b11 b12 bp : Nat) (n0 : Int) (act : Act)
    (hm : Mem w (keys (MB13 b11 b12 b6 S i y)) (MB13 b11 b12 b6 S i y) w) (hl : w.heap[l]? = some (.loop rec)) (hlk : l ∉ keys (MB13 b11 b12 b6 S i y))
    (hps : rec.params = #[102, 103]) (htm : rec.tmps = act.tmps) (hf : FOK 149 [(3, .pointer (some ⟨b3, 0, none⟩)), (5, .pointer (some ⟨b5, 0, none⟩)), (6, .pointer (some ⟨b6, 0, none⟩)), (7, .pointer (some ⟨b7, 0, none⟩)), (11, .pointer (some ⟨b11, 0, none⟩)), (12, .pointer (some ⟨b12, 0, none⟩))] act)
    (hst : rec.state = .ready) (hpe : rec.pending = none) (hr : Try.f13.body.bind rfOf = some (rec.assign, rec.body))
    (u3 : ∀ (j : Nat) (v : Value), [Value.string D.name, dsl][j]? = some v → Vw w (keys (MB13 b11 b12 b6 S i y)) b3 (0 + j) v) (hd : RDf (Vw w (keys (MB13 b11 b12 b6 S i y))) (.agg #[.string D.name, dsl]) D)
    (u7 : Vw w (keys (MB13 b11 b12 b6 S i y)) b7 0 (.pointer (some ⟨bp, 0, none⟩))) (uE : Vw w (keys (MB13 b11 b12 b6 S i y)) bp 11 (.slice A evs.length cap)) (hev : RSl (Vw w (keys (MB13 b11 b12 b6 S i y))) (.slice A evs.length cap) evs.length (evs.flatMap Ev.c))
    (u5 : Vw w (keys (MB13 b11 b12 b6 S i y)) b5 0 (.int .i64 n0)) (hG : ∃ m, Vw w (keys (MB13 b11 b12 b6 S i y)) 0 0 (.int .i64 m)) (hcv : RSt (Vw w (keys (MB13 b11 b12 b6 S i y))) cv T) :
    YieldAt Fence.wide 0 Try.prog l #[.int .i64 (i : Int), cv] w (fun e w' => (e = .returned (.bool true) ∧ ∃ y', OSt T y' ∧ Mem w (keys (MB13 b11 b12 b6 S i y)) (MB13 b11 b12 b6 T (i + 1) y') w') ∨
        (e = .returned (.bool false) ∧ Mem w (l :: keys (MB13 b11 b12 b6 S i y)) [some (b6, [.bool true], 4)] w' ∧ w'.heap[l]? = some (.loop { rec with state := .done, pending := some .ret }))) := by
  have hlt : i < evs.length := (List.getElem?_eq_some_iff.1 he).1
  obtain ⟨nn, ss, rfl, hnn, hss⟩ := id hcv
  obtain ⟨An, cn, rfl, _⟩ := id hnn
  obtain ⟨As, cs, rfl, _⟩ := id hss
  obtain ⟨A', cap', hA', hin⟩ := hev.open ev_len
  cases hA'
  obtain ⟨bi, oi, hA, hcell0⟩ := hin i e he (by omega)
  subst hA
  obtain ⟨yN, yS⟩ := y
  obtain ⟨hyN, hyS⟩ := hy
  dsimp only at hyN hyS
  have hr2 : some (_, _) = some (rec.assign, rec.body) := hr
  obtain ⟨hr3, hr4⟩ := Prod.mk.inj (Option.some.inj hr2)
  refine yield_of (F := [(3, .pointer (some ⟨b3, 0, none⟩)), (5, .pointer (some ⟨b5, 0, none⟩)), (6, .pointer (some ⟨b6, 0, none⟩)), (7, .pointer (some ⟨b7, 0, none⟩)), (11, .pointer (some ⟨b11, 0, none⟩)), (12, .pointer (some ⟨b12, 0, none⟩))]) hl hps htm hf rfl rfl hm ?_
  generalize hdone : ({ rec with state := .done, pending := some .ret } : Loop) = done
  rw [← hr3, ← hr4]
  (repeat first|(with_reducible first|apply Zc|apply Zd|apply Zi|apply Zs)|((with_reducible apply ZJ);rfl;rfl)|((with_reducible apply Zrc);rfl;rfl;rfl;exact List.cons_ne_nil _ _;(first|rfl|(repeat first|exact plain_nil|(refine plain_cons (by first|rfl|exact OwnD.plain_val _ _) ?_)));(focus (repeat constructor));rfl)|((with_reducible apply Zrg);rfl;intro _)|(with_reducible apply SK.nextTRseq)|((with_reducible apply SK.nextTRreg); kernel_rfl))
  rename_i b15
  refine SK.beginR hl hst hpe hlk ?_
  intro w2 hrb
  have v3 := fun j v h => hrb.vw _ _ _ (u3 j v h)
  have v7 := hrb.vw _ _ _ u7
  have vE := hrb.vw _ _ _ uE
  have v5 := hrb.vw _ _ _ u5
  have hd2 := hd.mono hrb.vw
  obtain ⟨mg, hmg⟩ := hG
  have hmg2 := hrb.vw _ _ _ hmg
  have hcell := fun j v h => hrb.vw _ _ _ (hcell0 j v h)
  have hcv2 := hcv.mono hrb.vw
  have hk22 := fun w1 => within22 n0 40 w1 (by decide) (by decide)
  have hwn : 0 ≤ withinL n0 40 ∧ withinL n0 40 < 40 := within_nn n0 40 (by decide) (by decide)
  generalize withinL n0 40 = q at hk22 hwn
  have hwr : IntKind.i64.wrap (1 + q) = 1 + q := wrap64_in (by omega) (by omega)
  (repeat first|(with_reducible apply Zf)|((with_reducible refine Yz ?_);first|((with_reducible apply SK.loadAR); rfl; rfl; (first | exact v3 | exact hcell); rfl)|((with_reducible apply SK.load1R); rfl; rfl; (first | exact v7 | exact vE | exact v5))|((with_reducible apply SK.indexAddr); rfl; rfl; rfl; exact hlt)|((with_reducible first|apply ZK|apply ZN);rfl;rfl)|((with_reducible first|apply Zqz|apply Zra);rfl;rfl;(focus (repeat constructor));rfl))|((with_reducible apply ZA);rfl)|(with_reducible apply SK.nextTRseq)|(with_reducible apply SK.nextTRblk)|(refine SK.nextTRD (id := 21) [0, 1, 2, 3, 4, 5, 6, 7, 8] (.or (.eff (9, []) [10, 11, 12] (.eff (13, [0, 1, 2, 5, 6, 8]) [] (.eff (14, []) [15] (.fin)))) (.eff (13, [0, 1, 2, 5, 6, 8]) [] (.eff (9, []) [10, 11, 12] (.eff (14, []) [15] (.fin))))) mixed (by kernel_rfl) (by kernel_rfl) ?_))
  refine SK.orC ?_ ?_
  · (repeat first|(with_reducible apply Zh)|((with_reducible apply Zz);rfl))
    refine SK.callO rfl rfl (fun w1 g1 g2 => apply27 _ (stV S (yN, yS)) D S e hsm hdn w1 (hd2.mono g1) (RSt.own hyN hyS (fun b cs hb j u hu => g2 b cs _ (by rw [← hb]; (repeat constructor)) j u hu) (fun b cs hb j u hu => g2 b cs _ (by rw [← hb]; (repeat constructor)) j u hu))) ?_; rintro ⟨qN, qS⟩ hq; unfold AppV; rw [ha] at hq ⊢; dsimp only [Option.getD_some] at hq ⊢; simp only [Option.isSome_some, if_true]; obtain ⟨hqN, hqS⟩ := hq; dsimp only at hqN hqS
    (repeat first|(with_reducible first|apply Zc|apply Zf|apply Zg|apply Zh|apply Zi|apply Zs)|((with_reducible first|apply ZI|apply ZJ|apply ZO);rfl;rfl)|((with_reducible apply Zqd);rfl;rfl;rfl;omega)|((with_reducible apply Zqn);rfl;rfl;rfl)|((with_reducible apply Zqs);rfl;rfl;rfl)|((with_reducible first|apply Zqz|apply Zra);rfl;rfl;(focus (repeat constructor));rfl)|((with_reducible apply Zrc);rfl;rfl;rfl;exact List.cons_ne_nil _ _;(first|rfl|(repeat first|exact plain_nil|(refine plain_cons (by first|rfl|exact OwnD.plain_val _ _) ?_)));(focus (repeat constructor));rfl)|((with_reducible apply Zrg);rfl;intro _)|((with_reducible first|apply Zz|apply ZA);rfl)|((with_reducible apply ZE);rfl;infer_instance;rfl;(focus (repeat constructor));rfl;rfl)|((with_reducible apply ZF);rfl;infer_instance;rfl;(focus (repeat constructor));rfl;rfl)|((with_reducible apply SK.chk1R); rfl; infer_instance; rfl; (first | exact v7 | exact vE | exact v5); rfl)|((with_reducible apply SK.chkAR); rfl; infer_instance; rfl; (first | exact v3 | exact hcell); rfl; rfl)|(with_reducible apply SK.nextTRseq)|((with_reducible apply SK.nextTRreg); kernel_rfl))
    rename_i b16
    refine SK.callA rfl rfl (fun w1 g1 g2 => state24 _ _ T w1 (hcv2.mono g1) (RSt.own hqN hqS (fun b cs hb j u hu => g2 b cs _ (by rw [← hb]; (repeat constructor)) j u hu) (fun b cs hb j u hu => g2 b cs _ (by rw [← hb]; (repeat constructor)) j u hu)) (by have := hsm2.1; omega) (by have := hsm2.2; omega)) ?_; (repeat first|(with_reducible first|apply Zc|apply Zd|apply Zi|apply Zs)|((with_reducible refine Yz ?_);first|((with_reducible apply SK.load1R); rfl; rfl; (first | exact v7 | exact vE | exact v5))|((with_reducible apply ZO);rfl;rfl)|((with_reducible apply ZP);rfl;rfl)|((with_reducible apply ZR);rfl;rfl;rfl;omega)|((with_reducible apply Zqs);rfl;rfl;rfl)|((with_reducible first|apply Zqz|apply Zra);rfl;rfl;(focus (repeat constructor));rfl)|((with_reducible apply Zrb);rfl;rfl;(first|rfl|exact OwnD.plain_val _ _);(focus (repeat constructor));rfl)|((with_reducible apply Zrc);rfl;rfl;rfl;exact List.cons_ne_nil _ _;(first|rfl|(repeat first|exact plain_nil|(refine plain_cons (by first|rfl|exact OwnD.plain_val _ _) ?_)));(focus (repeat constructor));rfl))|((with_reducible apply Zz);rfl)|(with_reducible apply SK.nextTRseq)|(with_reducible apply SK.nextTRskip)|((with_reducible apply SK.nextTRcF); rfl)|((with_reducible apply SK.nextTRreg); kernel_rfl)|(refine SK.nextTRI (id := 26) [(0, []), (1, []), (2, [0]), (3, []), (4, [])] mixed (by kernel_rfl) (by kernel_rfl) ?_)); refine SK.callA rfl rfl (fun w1 _ _ => hk22 w1) ?_; rcases Decidable.em (((i + 1 : Nat) : Int) = 1 + q) with hstop | hstop; (focus (repeat first|(with_reducible first|apply Zc|apply Ze|apply Zi|apply Zs)|((with_reducible refine Yz ?_);first|((with_reducible apply SK.iaddE); rfl; rfl; rfl; exact hwr)|((with_reducible apply ZW);rfl;rfl;rfl;omega))|((with_reducible apply Zz);rfl)|((with_reducible apply ZE);rfl;infer_instance;rfl;(focus (repeat constructor));rfl;rfl)|(with_reducible apply SK.nextTRseq)|((with_reducible apply SK.nextTRcT); rfl)|((with_reducible apply SK.nextTRreg); kernel_rfl)); refine SK.callA rfl rfl (fun w1 g1 _ => wakes17 w1 ⟨mg, g1 _ _ _ hmg2⟩) ?_; (repeat first|(with_reducible first|apply Zc|apply Zd|apply Zi|apply Zm|apply Zs)|((with_reducible apply Zrb);rfl;rfl;(first|rfl|exact OwnD.plain_val _ _);(focus (repeat constructor));rfl)|(with_reducible apply SK.nextTRret)); exact SK.leavesR hrb (by (repeat constructor)) (fun w' h1 h2 => .inr ⟨rfl, h1, h2.trans (congrArg (fun z => some (Obj.loop z)) hdone)⟩)); (focus (repeat first|(with_reducible first|apply Ze|apply Zi|apply Zl|apply Zs)|((with_reducible refine Yz ?_);first|((with_reducible apply SK.iaddE); rfl; rfl; rfl; exact hwr)|((with_reducible apply Zqc);rfl;rfl;rfl;omega))|((with_reducible apply Zz);rfl)|((with_reducible apply ZE);rfl;infer_instance;rfl;(focus (repeat constructor));rfl;rfl)|(with_reducible apply SK.nextTRskip)|((with_reducible apply SK.nextTRcF); rfl)); exact SK.goesR hrb (by (repeat constructor)) (fun w' h1 => .inl ⟨rfl, (qN, qS), ⟨hqN, hqS⟩, h1⟩))
  · (repeat first|(with_reducible first|apply Zf|apply Zh|apply Zs)|((with_reducible apply Zrg);rfl;intro _)|((with_reducible apply Zz);rfl)|((with_reducible apply ZE);rfl;infer_instance;rfl;(focus (repeat constructor));rfl;rfl)|((with_reducible apply ZF);rfl;infer_instance;rfl;(focus (repeat constructor));rfl;rfl)|((with_reducible apply SK.chk1R); rfl; infer_instance; rfl; (first | exact v7 | exact vE | exact v5); rfl)|((with_reducible apply SK.chkAR); rfl; infer_instance; rfl; (first | exact v3 | exact hcell); rfl; rfl))
    rename_i b16
    refine SK.callO rfl rfl (fun w1 g1 g2 => apply27 _ (stV S (yN, yS)) D S e hsm hdn w1 (hd2.mono g1) (RSt.own hyN hyS (fun b cs hb j u hu => g2 b cs _ (by rw [← hb]; (repeat constructor)) j u hu) (fun b cs hb j u hu => g2 b cs _ (by rw [← hb]; (repeat constructor)) j u hu))) ?_; rintro ⟨qN, qS⟩ hq; unfold AppV; rw [ha] at hq ⊢; dsimp only [Option.getD_some] at hq ⊢; simp only [Option.isSome_some, if_true]; obtain ⟨hqN, hqS⟩ := hq; dsimp only at hqN hqS
    (repeat first|(with_reducible first|apply Zc|apply Zf|apply Zg|apply Zh|apply Zi|apply Zs)|((with_reducible first|apply ZI|apply ZJ|apply ZO);rfl;rfl)|((with_reducible apply Zqd);rfl;rfl;rfl;omega)|((with_reducible apply Zqn);rfl;rfl;rfl)|((with_reducible apply Zqs);rfl;rfl;rfl)|((with_reducible first|apply Zqz|apply Zra);rfl;rfl;(focus (repeat constructor));rfl)|((with_reducible apply Zrc);rfl;rfl;rfl;exact List.cons_ne_nil _ _;(first|rfl|(repeat first|exact plain_nil|(refine plain_cons (by first|rfl|exact OwnD.plain_val _ _) ?_)));(focus (repeat constructor));rfl)|((with_reducible first|apply Zz|apply ZA);rfl)|(with_reducible apply SK.nextTRseq)|((with_reducible apply SK.nextTRreg); kernel_rfl))
    refine SK.callA rfl rfl (fun w1 g1 g2 => state24 _ _ T w1 (hcv2.mono g1) (RSt.own hqN hqS (fun b cs hb j u hu => g2 b cs _ (by rw [← hb]; (repeat constructor)) j u hu) (fun b cs hb j u hu => g2 b cs _ (by rw [← hb]; (repeat constructor)) j u hu)) (by have := hsm2.1; omega) (by have := hsm2.2; omega)) ?_; (repeat first|(with_reducible first|apply Zc|apply Zd|apply Zi|apply Zs)|((with_reducible refine Yz ?_);first|((with_reducible apply SK.load1R); rfl; rfl; (first | exact v7 | exact vE | exact v5))|((with_reducible apply ZO);rfl;rfl)|((with_reducible apply ZP);rfl;rfl)|((with_reducible apply ZR);rfl;rfl;rfl;omega)|((with_reducible apply Zqs);rfl;rfl;rfl)|((with_reducible first|apply Zqz|apply Zra);rfl;rfl;(focus (repeat constructor));rfl)|((with_reducible apply Zrb);rfl;rfl;(first|rfl|exact OwnD.plain_val _ _);(focus (repeat constructor));rfl)|((with_reducible apply Zrc);rfl;rfl;rfl;exact List.cons_ne_nil _ _;(first|rfl|(repeat first|exact plain_nil|(refine plain_cons (by first|rfl|exact OwnD.plain_val _ _) ?_)));(focus (repeat constructor));rfl))|((with_reducible apply Zz);rfl)|(with_reducible apply SK.nextTRseq)|(with_reducible apply SK.nextTRskip)|((with_reducible apply SK.nextTRcF); rfl)|((with_reducible apply SK.nextTRreg); kernel_rfl)|(refine SK.nextTRI (id := 26) [(0, []), (1, []), (2, [0]), (3, []), (4, [])] mixed (by kernel_rfl) (by kernel_rfl) ?_)); refine SK.callA rfl rfl (fun w1 _ _ => hk22 w1) ?_; rcases Decidable.em (((i + 1 : Nat) : Int) = 1 + q) with hstop | hstop; (focus (repeat first|(with_reducible first|apply Zc|apply Ze|apply Zi|apply Zs)|((with_reducible refine Yz ?_);first|((with_reducible apply SK.iaddE); rfl; rfl; rfl; exact hwr)|((with_reducible apply ZW);rfl;rfl;rfl;omega))|((with_reducible apply Zz);rfl)|((with_reducible apply ZE);rfl;infer_instance;rfl;(focus (repeat constructor));rfl;rfl)|(with_reducible apply SK.nextTRseq)|((with_reducible apply SK.nextTRcT); rfl)|((with_reducible apply SK.nextTRreg); kernel_rfl)); refine SK.callA rfl rfl (fun w1 g1 _ => wakes17 w1 ⟨mg, g1 _ _ _ hmg2⟩) ?_; (repeat first|(with_reducible first|apply Zc|apply Zd|apply Zi|apply Zm|apply Zs)|((with_reducible apply Zrb);rfl;rfl;(first|rfl|exact OwnD.plain_val _ _);(focus (repeat constructor));rfl)|(with_reducible apply SK.nextTRret)); exact SK.leavesR hrb (by (repeat constructor)) (fun w' h1 h2 => .inr ⟨rfl, h1, h2.trans (congrArg (fun z => some (Obj.loop z)) hdone)⟩)); (focus (repeat first|(with_reducible first|apply Ze|apply Zi|apply Zl|apply Zs)|((with_reducible refine Yz ?_);first|((with_reducible apply SK.iaddE); rfl; rfl; rfl; exact hwr)|((with_reducible apply Zqc);rfl;rfl;rfl;omega))|((with_reducible apply Zz);rfl)|((with_reducible apply ZE);rfl;infer_instance;rfl;(focus (repeat constructor));rfl;rfl)|(with_reducible apply SK.nextTRskip)|((with_reducible apply SK.nextTRcF); rfl)); exact SK.goesR hrb (by (repeat constructor)) (fun w' h1 => .inl ⟨rfl, (qN, qS), ⟨hqN, hqS⟩, h1⟩))
end Go.Proofs.Ytdnjfmgldkommaa
