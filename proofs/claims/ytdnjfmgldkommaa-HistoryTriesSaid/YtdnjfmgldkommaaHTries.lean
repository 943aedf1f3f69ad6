/- Proved here: An activity is tried just as often as it may be. -/
import Derived.Test.YtdnjfmgldkommaaQa
import Derived.Test.YtdnjfmgldkommaaLa
import Derived.Test.YtdnjfmgldkommaaQb
import Derived.Test.YtdnjfmgldkommaaLd
import Derived.Test.YtdnjfmgldkommaaLc
import Derived.Test.YtdnjfmgldkommaaRows
import Derived.HandedShaped
import Derived.Carry
namespace Go.Proofs.Ytdnjfmgldkommaa
open Go.Sx
@[reducible] def bQ : ByteArray := ⟨#[113]⟩
@[reducible] def ndT (n : Int) : Nd := ⟨bA, 1, bQ, e0, 5, n, []⟩
@[reducible] def dfT (n : Int) : Df := ⟨bW, [ndT n]⟩
@[reducible] def stT (s j : Int) (c : Int) : Sta := ⟨bW, bF, e0, e0, 1, e0, [⟨s, j, e0⟩], [], c⟩
@[reducible] def stX (j : Int) (t : ByteArray) (c : Int) : Sta := ⟨bW, bF, e0, e0, 3, t, [⟨4, j, t⟩], [], c⟩
@[reducible] def tkT (j : Int) : Tk := ⟨1, bF, bA, j, 0, ml0⟩
@[reducible] def tkA (j t : Int) : Tk := ⟨2, bF, bA, j, t, ml0⟩
@[reducible] def inT (now : Int) : Inp := ⟨3, bA, e0, e0, 0, 0, now, e0, e0⟩
@[reducible] def inX (k : Int) (t : ByteArray) : Inp := ⟨5, bA, e0, t, k, 0, 0, e0, e0⟩
@[reducible] def inY (k : Int) : Inp := ⟨6, bA, e0, e0, k, 0, 0, e0, e0⟩
theorem step20e {dv sv : Value} {D : Df} {S : Sta} {a : Inp} {w : World} {e : Int} {R : Rn} (h : stepL D S a = (e, R)) (hDO : DefOK D) (hgo : Good D S) (hna : a.name.size ≤ 1000) (h1 : RDf (Vw w []) dv D) (h2 : RSt (Vw w []) sv S) (h3 : ∃ m, Vw w [] 0 0 (.int .i64 m)) :
    Calls Try.prog 20 [dv, sv, .agg a.c.toArray].toArray w (Ret w [] (ORn R) (stepV e R) (stepM R)) := by
  have := step20 dv sv D S a w hDO hgo hna h1 h2 h3
  rw [h] at this
  exact this
theorem okT (n : Int) : DefOK (dfT n) := by
  refine ⟨by simp, by simp, fun m hm => ?_, fun i m hm => ?_, fun m hm => ?_, fun m hm => ?_⟩
  · rcases List.mem_singleton.1 hm with rfl; exact ⟨by simp, by simp⟩
  · rcases i with _ | i
    · cases hm; kernel_rfl
    · simp at hm
  · rcases List.mem_singleton.1 hm with rfl; show bA.size ≤ 64; decide
  · rcases List.mem_singleton.1 hm with rfl; show (0 : Nat) < _; decide
theorem goodT (n s j c : Int) : Good (dfT n) (stT s j c) := ⟨by simp, by simp, (fun x hx _ _ => by rcases List.mem_singleton.1 hx with rfl; rfl), by show bF.size ≤ 1000; decide, fun _ => rfl⟩
theorem nodeT (n s j c : Int) : nodeL (dfT n) (stT s j c) bA = some (ndT n, ⟨s, j, e0⟩) := by kernel_rfl
theorem stepT_start (n : Int) : stepL (dfT n) sta0 inW1 = (0, ⟨stT 1 0 2, [⟨1, e0, e0, 0⟩, ⟨2, bA, e0, 0⟩], [tkT 1]⟩) := by kernel_rfl
theorem stepT_take (n j c now : Int) : stepL (dfT n) (stT 1 j c) (inT now) = (0, ⟨stT 2 (W64 (j + 1)) (W64 (c + 1)), [⟨3, bA, e0, W64 (j + 1)⟩], [tkA (W64 (j + 1)) (IntKind.i64.wrap (now + 5))]⟩) := by kernel_rfl
theorem endsT {n j c : Int} {a : Inp} (ha : a.kind = 5 ∨ a.kind = 6) (hn : a.node = bA) (ht : a.try_ = j) (hs : a.text.size ≤ 256) :
    stepR (dfT n) a.now ⟨stT 2 j c, [], []⟩ a = (0, failL (dfT n) ⟨stT 2 j c, [], []⟩ (ndT n) ⟨2, j, e0⟩ (if a.kind = 6 then timeoutT else a.text)) := by
  unfold stepR
  rw [if_neg (by omega), if_neg (show ¬ (1 : Int) = 0 by decide), if_neg (show ¬ (1 : Int) ≠ 1 by decide), if_neg (by omega), if_neg (by omega), if_pos (by omega)]
  unfold endsL
  rw [hn]
  have hnl : nodeL (dfT n) (⟨stT 2 j c, [], []⟩ : Rn).S bA = some (ndT n, ⟨2, j, e0⟩) := nodeT n 2 j c
  rw [hnl]
  dsimp only
  rw [if_pos (.inl rfl), if_neg (fun h => h.elim (fun h => h rfl) (fun h => h.2 ht.symm)), if_neg (fun h => by omega), if_neg (show ¬ (1 : Int) = 2 by decide), if_neg (by omega)]
theorem stepT_late (n j c : Int) (t : ByteArray) {k : Int} (hk : j ≠ k) : (stepL (dfT n) (stT 2 j c) (inX k t)).1 = 12 := by
  have : stepR (dfT n) 0 ⟨stT 2 j c, [], []⟩ (inX k t) = (12, ⟨stT 2 j c, [], []⟩) := by
    show endsL (dfT n) 0 ⟨stT 2 j c, [], []⟩ (inX k t) = _
    unfold endsL
    have hnl : nodeL (dfT n) (⟨stT 2 j c, [], []⟩ : Rn).S (inX k t).node = some (ndT n, ⟨2, j, e0⟩) := nodeT n 2 j c
    rw [hnl]
    dsimp only
    rw [if_pos (.inl rfl), if_pos (.inr ⟨rfl, hk⟩)]
  unfold stepL
  rw [show (inX k t).now = 0 from rfl, this, if_neg (by simp)]
theorem failT_again (n j c : Int) (t : ByteArray) (h : j < n) : failL (dfT n) ⟨stT 2 j c, [], []⟩ (ndT n) ⟨2, j, e0⟩ t = ⟨stT 1 j (W64 (c + 1)), [⟨5, bA, t, j⟩], [tkT (W64 (j + 1))]⟩ := by
  unfold failL
  rw [if_pos h]
  kernel_rfl
theorem failT_last (n j c : Int) (t : ByteArray) (h : ¬ j < n) : failL (dfT n) ⟨stT 2 j c, [], []⟩ (ndT n) ⟨2, j, e0⟩ t = ⟨stX j t (W64 (W64 (c + 1) + 1)), [⟨6, bA, t, 0⟩, ⟨15, e0, t, 3⟩], []⟩ := by
  unfold failL
  rw [if_neg h]
  kernel_rfl
theorem stepT_ends {n j c : Int} {a : Inp} (ha : a.kind = 5 ∨ a.kind = 6) (hn : a.node = bA) (ht : a.try_ = j) (hs : a.text.size ≤ 256) :
    stepL (dfT n) (stT 2 j c) a = (0, failL (dfT n) ⟨stT 2 j c, [], []⟩ (ndT n) ⟨2, j, e0⟩ (if a.kind = 6 then timeoutT else a.text)) := by
  have h := endsT (n := n) (c := c) ha hn ht hs
  unfold stepL
  rw [h, if_pos rfl]
theorem stepT_again {n j c : Int} {a : Inp} (ha : a.kind = 5 ∨ a.kind = 6) (hn : a.node = bA) (ht : a.try_ = j) (hs : a.text.size ≤ 256) (h : j < n) :
    stepL (dfT n) (stT 2 j c) a = (0, ⟨stT 1 j (W64 (c + 1)), [⟨5, bA, if a.kind = 6 then timeoutT else a.text, j⟩], [tkT (W64 (j + 1))]⟩) := by
  rw [stepT_ends ha hn ht hs, failT_again _ _ _ _ h]
theorem stepT_last {n j c : Int} {a : Inp} (ha : a.kind = 5 ∨ a.kind = 6) (hn : a.node = bA) (ht : a.try_ = j) (hs : a.text.size ≤ 256) (h : ¬ j < n) :
    stepL (dfT n) (stT 2 j c) a = (0, ⟨stX j (if a.kind = 6 then timeoutT else a.text) (W64 (W64 (c + 1) + 1)), [⟨6, bA, if a.kind = 6 then timeoutT else a.text, 0⟩, ⟨15, e0, if a.kind = 6 then timeoutT else a.text, 3⟩], []⟩) := by
  rw [stepT_ends ha hn ht hs, failT_last _ _ _ _ h]
theorem rdfT {V : View} {b : Nat} {n : Int} (h : ∀ (j : Nat) (u : Value), nv ((ndT n).c (.slice none 0 0)) j = some u → V b j u) : RDf V (.agg #[.string bW, .slice (some ⟨b, 0, none⟩) 1 1]) (dfT n) := by
  refine ⟨_, 1, rfl, fun i x hx => ?_⟩
  rcases i with _ | i
  · cases hx
    exact ⟨b, 0, .slice none 0 0, rfl, ⟨none, 0, rfl, .inl rfl⟩, fun j u hu => by
      have := h j u (by rw [nv_eq]; exact hu)
      simpa using this⟩
  · simp at hx
theorem stepT_late2 (n j c : Int) (t : ByteArray) {k : Int} (hk : j ≠ k) : stepL (dfT n) (stT 2 j c) (inX k t) = (12, rn0) := by
  have h1 := stepT_late n j c t hk
  have h2 := stepL_err (D := dfT n) (S := stT 2 j c) (a := inX k t) (by rw [h1]; decide)
  exact Prod.ext h1 h2
theorem stepT_take2 (n : Int) {k : Nat} (c now : Int) (h1 : 1 ≤ k) (h2 : k ≤ 10) : stepL (dfT n) (stT 1 ((k : Int) - 1) c) (inT now) = (0, ⟨stT 2 (k : Int) (W64 (c + 1)), [⟨3, bA, e0, (k : Int)⟩], [tkA (k : Int) (IntKind.i64.wrap (now + 5))]⟩) := by
  have h : W64 ((k : Int) - 1 + 1) = (k : Int) := by rw [wrap_small (by omega) (by omega)]; omega
  rw [stepT_take, h]
section
variable {w0 : World} {Mod : List Nat} {n : Nat} {F : FL} {M : ML} {X : Act → World → Prop}
theorem SK.now {F' : FL} {M' : ML} (hF : Sub F' F) (hM : Wk M M') (h : SK w0 Mod n X F' M') : SK w0 Mod n X F M := fun a w hf hm => h a w (hf.sub hF) (hm.wk hM)
end
@[reducible] def nsC (s j : Int) (t : ByteArray) : List Value := [.int .i64 s, .int .i64 j, .string t]
@[reducible] def tkC (kd j t : Int) : List Value := [.int .i64 kd, .complex .f64 0 0, .string bF, .string bA, .int .i64 j, .int .i64 t, .int .i64 0, .string e0, .string e0, .string e0, .string e0, .string e0, .int .i64 0]
@[reducible] def stC (nv sv : Value) (s : Int) (t : ByteArray) (c : Int) : List Value := [.string bW, .string bF, .string e0, .string e0, .int .i64 s, .string t, nv, sv, .int .i64 c]
@[reducible] def ndC (n : Int) : List Value := [.string bA, .int .i64 1, .string bQ, .string e0, .int .i64 5, .int .i64 n, .slice none 0 0]
set_option maxRecDepth 100000 in
set_option maxHeartbeats 16000000 in
theorem tries7 (n0 : Int) (tv0 : Value) (bl : List Bool) (s : ByteArray) (w : World) (hb : RSl (Vw w []) tv0 bl.length (bl.flatMap boolC)) (hbl : bl.length < 9223372036854775807) (hs : s.size < 9223372036854775807) (hG : ∃ m, Vw w [] 0 0 (.int .i64 m)) :
    Ans 7 [.int .i64 n0, tv0, .string s] w (.bool true) := by
  obtain ⟨Ab, cb, htv, hbn⟩ := hb.open (k := 1) (fun _ => rfl)
  have hG1 : ∀ w1 : World, (∀ b o v, Vw w [] b o v → Vw w1 [] b o v) → ∃ m, Vw w1 [] 0 0 (.int .i64 m) := fun w1 g => by obtain ⟨m, hm⟩ := hG; exact ⟨m, g _ _ _ hm⟩
  have hwn := within_nn n0 10 (by decide) (by decide)
  obtain ⟨m, hm⟩ : ∃ m : Nat, withinL n0 10 = (m : Int) := ⟨(withinL n0 10).toNat, by have : 0 ≤ withinL n0 10 := hwn.1; omega⟩
  have hm9 : m ≤ 9 := by have : withinL n0 10 < 10 := hwn.2; omega
  refine enter0 Try.func7 rfl Try.ntmps7 rfl ?_
  (repeat first|(with_reducible first|apply Za|apply Zb|apply Zc|apply Zd|apply Zi)|((with_reducible first|apply ZI|apply ZJ);rfl;rfl))
  refine SK.callA rfl rfl (fun w1 _ _ => within22 n0 10 w1 (by decide) (by decide)) ?_
  rw [hm]
  (repeat first|(with_reducible first|apply Zc|apply Zs))
  refine SK.iadd rfl rfl rfl ?_
  refine SK.slot (j := 21) rfl (show Value.int .i64 (IntKind.i64.wrap (1 + (m : Int))) = .int .i64 ((m + 1 : Nat) : Int) from by rw [wrap64_in (by omega) (by omega)]; congr 1; omega) ?_
  obtain ⟨n, hn⟩ : ∃ n : Nat, n = m + 1 := ⟨_, rfl⟩
  rw [← hn]
  have hn1 : 1 ≤ n := by omega
  have hn10 : n ≤ 10 := by omega
  clear hn hm hwn
  (repeat ((fail_if_success (with_reducible refine SK.atS 2 ?_)); first|(with_reducible first|apply Zc|apply Zd|apply Zi)|((with_reducible apply ZJ);rfl;rfl)))
  refine SK.seqJ (fun t : ByteArray => [(2, .string t), (7, .int .i64 (n : Int)), (1, tv0)]) (fun _ => []) (fun t => t.size ≤ 256) ?_ ?_
  · by_cases h256 : 256 < s.size
    · (repeat first|(with_reducible first|apply Za|apply Zb|apply Zc|apply Zd|apply Zi)|((with_reducible apply ZI);rfl;rfl)|((with_reducible apply ZQ);rfl;rfl)|((with_reducible apply ZU);rfl;rfl;rfl;omega)|((with_reducible apply ZC);rfl))
      refine SK.sliceStr (h := 256) rfl rfl rfl (by omega) ?_
      (repeat first|(with_reducible first|apply Zc|apply Zd|apply Zi)|((with_reducible apply ZJ);rfl;rfl))
      exact SK.jumped (s.extract 0 256) (by rw [ByteArray.size_extract]; omega) (by (repeat constructor)) (by (repeat constructor))
    · (repeat first|(with_reducible first|apply Za|apply Zb|apply Zc|apply Zd|apply Zi|apply Zo)|((with_reducible apply ZI);rfl;rfl)|((with_reducible apply ZQ);rfl;rfl)|((with_reducible apply Zqa);rfl;rfl;rfl;omega)|((with_reducible apply ZD);rfl))
      exact SK.jumped s (by omega) (by (repeat constructor)) (by (repeat constructor))
  intro t ht
  subst htv
  generalize htv : Value.slice Ab bl.length cb = tv
  (repeat first|(with_reducible first|apply Za|apply Zb|apply Zc|apply Zd|apply Zi|apply Zs)|((with_reducible apply ZI);rfl;rfl)|((with_reducible apply Zqr);rfl;rfl;rfl)|((with_reducible apply Zra);rfl;rfl;(focus (repeat constructor));rfl)|((with_reducible apply Zrc);rfl;rfl;rfl;exact List.cons_ne_nil _ _;(first|rfl|(repeat first|exact plain_nil|(refine plain_cons (by first|rfl|exact OwnD.plain_val _ _) ?_)));(focus (repeat constructor));rfl)|((with_reducible apply Zrd);rfl;rfl;rfl;rfl;rfl;rfl;rfl;intro _)|((with_reducible apply Zrg);rfl;intro _))
  rename_i bD b8
  refine SK.callO rfl rfl (fun w1 g1 g2 => step20e (D := dfT (n : Int)) (S := sta0) (a := inW1) (dv := .agg #[.string bW, .slice (some ⟨bD, 0, none⟩) 1 1]) (sv := stV sta0 (none, none)) (stepT_start (n : Int)) (okT n) (good0 _) (show bF.size ≤ 1000 by decide) (rdfT (g2 _ _ _ (by (repeat constructor)))) (RSt.own (S := sta0) (oN := none) (oS := none) ⟨rfl, rfl⟩ ⟨rfl, rfl⟩ (fun b cs hb => by cases hb) (fun b cs hb => by cases hb)) (by obtain ⟨m, hm⟩ := hG; exact ⟨m, g1 _ _ _ hm⟩)) ?_
  rintro ⟨⟨aN, aS⟩, aE, aT⟩ ⟨⟨haN, haS⟩, haE, haT⟩
  dsimp only at haN haS haE haT ⊢
  (repeat first|(with_reducible first|apply Za|apply Zb|apply Zc|apply Zd|apply Zi|apply Zr|apply Zs)|((with_reducible first|apply ZI|apply ZJ);rfl;rfl)|((with_reducible apply Zqn);rfl;rfl;rfl)|((with_reducible apply Zrc);rfl;rfl;rfl;exact List.cons_ne_nil _ _;(first|rfl|(repeat first|exact plain_nil|(refine plain_cons (by first|rfl|exact OwnD.plain_val _ _) ?_)));(focus (repeat constructor));rfl)|((with_reducible apply Zrg);rfl;intro _))
  rename_i b10
  refine SK.loopW (fun g : Nat × Int × (OwnD × OwnD) × OwnD => [(12, .int .i64 0), (11, g.2.2.2.val 1), (13, .int .i64 (g.1 : Int)), (10, .pointer (some ⟨b10, 0, none⟩)), (8, .pointer (some ⟨b8, 0, none⟩)), (7, .int .i64 (n : Int)), (2, .string t), (1, tv)])
    (fun g => some (b10, stC (g.2.2.1.1.val 1) (g.2.2.1.2.val 0) 1 e0 g.2.1, 33) :: g.2.2.2.ent (tkC 1 (g.1 : Int) 0) 52 :: some (b8, [.string bW, .slice (some ⟨bD, 0, none⟩) 1 1], 24) :: some (bD, ndC (n : Int), 59) :: [g.2.2.1.1.ent (nsC 1 ((g.1 : Int) - 1) e0) 56, g.2.2.1.2.ent [] 100])
    (fun g => 1 ≤ g.1 ∧ g.1 ≤ n ∧ OSt (stT 1 ((g.1 : Int) - 1) g.2.1) g.2.2.1 ∧ g.2.2.2.ok 1 13 ([tkT (g.1 : Int)].flatMap Tk.c)) (fun g => n + 1 - g.1) (1, 2, (aN, aS), aT) ⟨Nat.le_refl _, hn1, ⟨haN, haS⟩, haT⟩ (by (repeat constructor)) (by (repeat constructor)) ?_
  rintro ⟨k, c, ⟨zN, zS⟩, oT⟩ ⟨hk1, hkn, ⟨hzN, hzS⟩, hoT⟩
  dsimp only at hk1 hkn hzN hzS hoT ⊢
  cases zN with
  | none => exact absurd hzN.2 (by simp)
  | some qN =>
  obtain ⟨bN, capN, spN⟩ := qN
  cases oT with
  | none => exact absurd hoT.2 (by simp)
  | some qT =>
  obtain ⟨bT, capT, spT⟩ := qT
  (repeat first|(with_reducible first|apply Za|apply Zb|apply Zc|apply Zd|apply Zi|apply Zo|apply Zr)|((with_reducible refine Yz ?_);first|((with_reducible apply SK.indexAddr (j := 0)); rfl; rfl; rfl; exact Nat.one_pos)|((with_reducible refine SK.isBin ?_); first | ((with_reducible apply SK.iadd); rfl; rfl; rfl) | ((with_reducible apply SK.imul); rfl; rfl; rfl) | ((with_reducible apply SK.isub); rfl; rfl; rfl))|((with_reducible first|apply ZI|apply ZK|apply ZM|apply ZO);rfl;rfl)|((with_reducible apply ZT);rfl;rfl;rfl;omega)|((with_reducible apply Zqd);rfl;rfl;rfl;omega)|((with_reducible apply Zqr);rfl;rfl;rfl)|((with_reducible apply Zqs);rfl;rfl;rfl)|((with_reducible first|apply Zqz|apply Zra);rfl;rfl;(focus (repeat constructor));rfl))|((with_reducible apply ZC);rfl)|((with_reducible apply ZD);rfl))
  refine SK.callO rfl rfl (fun w1 g1 g2 => step20e (D := dfT (n : Int)) (S := stT 1 ((k : Int) - 1) c) (a := inT (IntKind.i64.wrap (7 * (k : Int)))) (dv := .agg #[.string bW, .slice (some ⟨bD, 0, none⟩) 1 1]) (sv := stV (stT 1 ((k : Int) - 1) c) (some (bN, capN, spN), zS)) (stepT_take2 (n : Int) c (IntKind.i64.wrap (7 * (k : Int))) hk1 (by omega)) (okT n) (goodT _ _ _ _) (show e0.size ≤ 1000 by decide) (rdfT (g2 _ _ _ (by (repeat constructor)))) (RSt.own (S := stT 1 ((k : Int) - 1) c) hzN hzS (fun b cs hb j u hu => g2 b cs _ (by rw [← hb]; (repeat constructor)) j u hu) (fun b cs hb j u hu => g2 b cs _ (by rw [← hb]; (repeat constructor)) j u hu)) (by obtain ⟨m, hm⟩ := hG; exact ⟨m, g1 _ _ _ hm⟩)) ?_
  rintro ⟨⟨pN, pS⟩, pE, pT⟩ ⟨⟨hpN, hpS⟩, hpE, hpT⟩
  dsimp only at hpN hpS hpE hpT ⊢
  cases pN with
  | none => exact absurd hpN.2 (by simp)
  | some qN2 =>
  obtain ⟨bN2, capN2, spN2⟩ := qN2
  cases pT with
  | none => exact absurd hpT.2 (by simp)
  | some qT2 =>
  obtain ⟨bT2, capT2, spT2⟩ := qT2
  (repeat ((fail_if_success (with_reducible refine SK.atS 12 ?_)); first|(with_reducible first|apply Zc|apply Zd|apply Zi|apply Zs)|((with_reducible first|apply ZI|apply ZJ);rfl;rfl)|((with_reducible apply Zqn);rfl;rfl;rfl)|((with_reducible apply Zrc);rfl;rfl;rfl;exact List.cons_ne_nil _ _;(first|rfl|(repeat first|exact plain_nil|(refine plain_cons (by first|rfl|exact OwnD.plain_val _ _) ?_)));(focus (repeat constructor));rfl)))
  refine SK.now (F' := [(11, .slice (some ⟨bT2, 0, none⟩) 1 capT2), (12, .int .i64 0), (13, .int .i64 (k : Int)), (10, .pointer (some ⟨b10, 0, none⟩)), (8, .pointer (some ⟨b8, 0, none⟩)), (7, .int .i64 (n : Int)), (2, .string t), (1, tv)]) (M' := some (b10, stC (.slice (some ⟨bN2, 0, none⟩) 1 capN2) (pS.val 0) 1 e0 (W64 (c + 1)), 33) :: some (bT2, tkC 2 (k : Int) (IntKind.i64.wrap (IntKind.i64.wrap (7 * (k : Int)) + 5)) ++ spT2, 52) :: some (b8, [.string bW, .slice (some ⟨bD, 0, none⟩) 1 1], 24) :: some (bD, ndC (n : Int), 59) :: [some (bN2, nsC 2 (k : Int) e0 ++ spN2, 56), pS.ent [] 100]) (by (repeat constructor)) (by (repeat constructor)) ?_
  (repeat ((fail_if_success (with_reducible refine SK.atS 15 ?_)); first|(with_reducible first|apply Za|apply Zb|apply Zc|apply Zd|apply Zi|apply Zo|apply Zs)|((with_reducible refine Yz ?_);first|((with_reducible apply SK.indexAddr (j := 0)); rfl; rfl; rfl; exact Nat.one_pos)|((with_reducible refine SK.isBin ?_); first | ((with_reducible apply SK.iadd); rfl; rfl; rfl) | ((with_reducible apply SK.imul); rfl; rfl; rfl) | ((with_reducible apply SK.isub); rfl; rfl; rfl))|((with_reducible first|apply ZI|apply ZK|apply ZM|apply ZO);rfl;rfl)|((with_reducible apply Zqd);rfl;rfl;rfl;omega)|((with_reducible apply Zqr);rfl;rfl;rfl)|((with_reducible apply Zqs);rfl;rfl;rfl)|((with_reducible apply Zqz);rfl;rfl;(focus (repeat constructor));rfl)|((with_reducible apply Zrc);rfl;rfl;rfl;exact List.cons_ne_nil _ _;(first|rfl|(repeat first|exact plain_nil|(refine plain_cons (by first|rfl|exact OwnD.plain_val _ _) ?_)));(focus (repeat constructor));rfl)|((with_reducible apply Zrg);rfl;intro _))|((with_reducible apply ZD);rfl)))
  rename_i b14
  refine SK.seqJ (fun a : Inp => [(14, .pointer (some ⟨b14, 0, none⟩)), (13, .int .i64 (k : Int)), (10, .pointer (some ⟨b10, 0, none⟩)), (8, .pointer (some ⟨b8, 0, none⟩)), (7, .int .i64 (n : Int)), (2, .string t), (1, tv)]) (fun a => some (b14, a.c, 39) :: some (b10, stC (.slice (some ⟨bN2, 0, none⟩) 1 capN2) (pS.val 0) 1 e0 (W64 (c + 1)), 33) :: some (b8, [.string bW, .slice (some ⟨bD, 0, none⟩) 1 1], 24) :: some (bD, ndC (n : Int), 59) :: [some (bN2, nsC 2 (k : Int) e0 ++ spN2, 56), pS.ent [] 100])
    (fun a => a = inX (k : Int) t ∨ a = inY (k : Int)) ?_ ?_
  · subst htv
    by_cases hkl : k < bl.length
    · obtain ⟨bb, hbb⟩ : ∃ bb, bl[k]? = some bb := ⟨_, List.getElem?_eq_getElem hkl⟩
      obtain ⟨ba, oa, hAb, hcb⟩ := hbn k bb hbb (by omega)
      subst hAb
      have hcb0 := hcb 0 _ rfl
      cases bb with
      | true =>
        (repeat first|(with_reducible first|apply Za|apply Zb|apply Zc|apply Zd|apply Zi|apply Zs)|((with_reducible refine Yz ?_);first|((with_reducible apply SK.indexAddr); rfl; rfl; rfl; exact hkl)|((with_reducible apply SK.load1R); rfl; rfl; exact hcb0)|((with_reducible first|apply ZI|apply ZM|apply ZO);rfl;rfl)|((with_reducible apply ZS);rfl;rfl;rfl;omega)|((with_reducible first|apply Zqo|apply Zqr);rfl;rfl;rfl)|((with_reducible apply Zrc);rfl;rfl;rfl;exact List.cons_ne_nil _ _;(first|rfl|(repeat first|exact plain_nil|(refine plain_cons (by first|rfl|exact OwnD.plain_val _ _) ?_)));(focus (repeat constructor));rfl))|((with_reducible apply ZC);rfl))
        exact SK.jumped (inY (k : Int)) (.inr rfl) (by (repeat constructor)) (by (repeat constructor))
      | false =>
        (repeat first|(with_reducible first|apply Za|apply Zb|apply Zc|apply Zd|apply Zi|apply Zo)|((with_reducible refine Yz ?_);first|((with_reducible apply SK.indexAddr); rfl; rfl; rfl; exact hkl)|((with_reducible apply SK.load1R); rfl; rfl; exact hcb0)|((with_reducible first|apply ZI|apply ZM|apply ZO);rfl;rfl)|((with_reducible apply ZS);rfl;rfl;rfl;omega)|((with_reducible apply Zqo);rfl;rfl;rfl))|((with_reducible apply ZD);rfl))
        exact SK.jumped (inX (k : Int) t) (.inl rfl) (by (repeat constructor)) (by (repeat constructor))
    · (repeat first|(with_reducible first|apply Za|apply Zb|apply Zc|apply Zd|apply Zi|apply Zo)|((with_reducible first|apply ZI|apply ZM);rfl;rfl)|((with_reducible apply ZY);rfl;rfl;rfl;omega)|((with_reducible apply Zqs);rfl;rfl;rfl)|((with_reducible apply Zqx);rfl;rfl;rfl;rfl)|((with_reducible apply ZD);rfl))
      exact SK.jumped (inX (k : Int) t) (.inl rfl) (by (repeat constructor)) (by (repeat constructor))
  intro a ha
  have ha1 : a.kind = 5 ∨ a.kind = 6 := by rcases ha with rfl | rfl; exact .inl rfl; exact .inr rfl
  have ha2 : a.node = bA := by rcases ha with rfl | rfl <;> rfl
  have ha3 : a.try_ = (k : Int) := by rcases ha with rfl | rfl <;> rfl
  have ha4 : a.text.size ≤ 256 := by
    rcases ha with rfl | rfl
    · exact ht
    · show e0.size ≤ 256; decide
  have ha5 : a.name.size ≤ 1000 := by rcases ha with rfl | rfl <;> (show e0.size ≤ 1000; decide)
  clear ha
  have hkw : (k : Int) ≠ IntKind.i64.wrap ((k : Int) - 1) := by rw [wrap64_in (by omega) (by omega)]; omega
  (repeat first|(with_reducible first|apply Za|apply Zb|apply Zc)|((with_reducible refine Yz ?_);first|((with_reducible refine SK.isBin ?_); first | ((with_reducible apply SK.iadd); rfl; rfl; rfl) | ((with_reducible apply SK.imul); rfl; rfl; rfl) | ((with_reducible apply SK.isub); rfl; rfl; rfl))|((with_reducible apply ZI);rfl;rfl)|((with_reducible apply Zqr);rfl;rfl;rfl)|((with_reducible apply Zra);rfl;rfl;(focus (repeat constructor));rfl)))
  refine SK.callO rfl rfl (fun w1 g1 g2 => step20e (D := dfT (n : Int)) (S := stT 2 (k : Int) (W64 (c + 1))) (a := inX (IntKind.i64.wrap ((k : Int) - 1)) e0) (dv := .agg #[.string bW, .slice (some ⟨bD, 0, none⟩) 1 1]) (sv := stV (stT 2 (k : Int) (W64 (c + 1))) (some (bN2, capN2, spN2), pS)) (stepT_late2 (n : Int) (k : Int) (W64 (c + 1)) e0 hkw) (okT n) (goodT _ _ _ _) (show e0.size ≤ 1000 by decide) (rdfT (g2 _ _ _ (by (repeat constructor)))) (RSt.own (S := stT 2 (k : Int) (W64 (c + 1))) hpN hpS (fun b cs hb j u hu => g2 b cs _ (by rw [← hb]; (repeat constructor)) j u hu) (fun b cs hb j u hu => g2 b cs _ (by rw [← hb]; (repeat constructor)) j u hu)) (by obtain ⟨m, hm⟩ := hG; exact ⟨m, g1 _ _ _ hm⟩)) ?_
  rintro ⟨⟨uN, uS⟩, uE, uT⟩ ⟨⟨huN, huS⟩, huE, huT⟩
  dsimp only at huN huS huE huT ⊢
  (repeat first|(with_reducible first|apply Za|apply Zb|apply Zc|apply Zd|apply Zi|apply Zs)|((with_reducible first|apply ZI|apply ZJ);rfl;rfl)|((with_reducible apply Zqn);rfl;rfl;rfl)|((with_reducible apply Zra);rfl;rfl;(focus (repeat constructor));rfl)|((with_reducible apply Zrc);rfl;rfl;rfl;exact List.cons_ne_nil _ _;(first|rfl|(repeat first|exact plain_nil|(refine plain_cons (by first|rfl|exact OwnD.plain_val _ _) ?_)));(focus (repeat constructor));rfl)|((with_reducible apply Zrg);rfl;intro _))
  rename_i b16
  by_cases hkn2 : k = n
  · subst hkn2
    refine SK.callO rfl rfl (fun w1 g1 g2 => step20e (D := dfT (k : Int)) (S := stT 2 (k : Int) (W64 (c + 1))) (a := a) (dv := .agg #[.string bW, .slice (some ⟨bD, 0, none⟩) 1 1]) (sv := stV (stT 2 (k : Int) (W64 (c + 1))) (some (bN2, capN2, spN2), pS)) (stepT_last (n := (k : Int)) (c := W64 (c + 1)) ha1 ha2 ha3 ha4 (by omega)) (okT k) (goodT _ _ _ _) ha5 (rdfT (g2 _ _ _ (by (repeat constructor)))) (RSt.own (S := stT 2 (k : Int) (W64 (c + 1))) hpN hpS (fun b cs hb j u hu => g2 b cs _ (by rw [← hb]; (repeat constructor)) j u hu) (fun b cs hb j u hu => g2 b cs _ (by rw [← hb]; (repeat constructor)) j u hu)) (by obtain ⟨m, hm⟩ := hG; exact ⟨m, g1 _ _ _ hm⟩)) ?_
    rintro ⟨⟨vN, vS⟩, vE, vT⟩ ⟨⟨hvN, hvS⟩, hvE, hvT⟩
    dsimp only at hvN hvS hvE hvT ⊢
    cases vN with
    | none => exact absurd hvN.2 (by simp)
    | some qN3 =>
    obtain ⟨bN3, capN3, spN3⟩ := qN3
    obtain ⟨AT, cT, hvT2⟩ := val_sl hvT
    have hvT3 : vT.val 0 = .slice AT 0 cT := hvT2
    generalize htx : (if a.kind = 6 then timeoutT else a.text) = tx at hvN hvS hvE hvT ⊢
    (repeat ((fail_if_success (with_reducible refine SK.atS 19 ?_)); first|(with_reducible first|apply Zc|apply Zd|apply Zi|apply Zs)|((with_reducible first|apply ZI|apply ZJ);rfl;rfl)|((with_reducible apply Zqn);rfl;rfl;rfl)|((with_reducible apply Zrc);rfl;rfl;rfl;exact List.cons_ne_nil _ _;(first|rfl|(repeat first|exact plain_nil|(refine plain_cons (by first|rfl|exact OwnD.plain_val _ _) ?_)));(focus (repeat constructor));rfl)))
    refine SK.now (F' := [(11, .slice AT 0 cT), (12, .int .i64 0), (18, .int .i64 12), (14, .pointer (some ⟨b14, 0, none⟩)), (13, .int .i64 (k : Int)), (10, .pointer (some ⟨b10, 0, none⟩)), (7, .int .i64 (k : Int))]) (M' := [some (b14, a.c, 39), some (b10, stC (.slice (some ⟨bN3, 0, none⟩) 1 capN3) (vS.val 0) 3 tx (W64 (W64 (W64 (c + 1) + 1) + 1)), 33), some (bN3, nsC 4 (k : Int) tx ++ spN3, 56)]) (by rw [← hvT3]; (repeat constructor)) (by (repeat constructor)) ?_
    by_cases h6 : a.kind = 6
    · rw [if_pos h6] at htx
      subst htx
      (repeat first|(with_reducible first|apply Za|apply Zb|apply Zc|apply Zd|apply Zi|apply Zo|apply Zs)|((with_reducible refine Yz ?_);first|((with_reducible apply SK.indexAddr (j := 0)); rfl; rfl; rfl; exact Nat.one_pos)|((with_reducible first|apply ZI|apply ZK|apply ZM|apply ZO);rfl;rfl)|((with_reducible apply ZW);rfl;rfl;rfl;omega)|((with_reducible apply Zqd);rfl;rfl;rfl;omega)|((with_reducible apply Zqf);rfl;rfl;rfl;exact rfl)|((with_reducible apply Zqo);rfl;rfl;rfl)|((with_reducible apply Zqz);rfl;rfl;(focus (repeat constructor));rfl)|((with_reducible apply Zrb);rfl;rfl;(first|rfl|exact OwnD.plain_val _ _);(focus (repeat constructor));rfl))|((with_reducible apply ZC);rfl)|((with_reducible apply ZD);rfl))
      refine SK.callA rfl rfl (fun w1 g1 _ => wakes17 w1 (hG1 w1 g1)) ?_
      (repeat first|(with_reducible first|apply Zc|apply Zd|apply Zi|apply Zk|apply Zm|apply Zp|apply Zs)|((with_reducible apply ZJ);rfl;rfl)|((with_reducible apply Zqo);rfl;rfl;rfl))
      exact SK.retQ rfl (by (repeat constructor)) (fun w' hm' => ⟨(), trivial, rfl, hm'.wk (by (repeat constructor))⟩)
    · rw [if_neg h6] at htx
      subst htx
      (repeat first|(with_reducible first|apply Za|apply Zb|apply Zc|apply Zd|apply Zi|apply Zo)|((with_reducible refine Yz ?_);first|((with_reducible apply SK.indexAddr (j := 0)); rfl; rfl; rfl; exact Nat.one_pos)|((with_reducible first|apply ZI|apply ZK|apply ZM|apply ZO);rfl;rfl)|((with_reducible apply ZW);rfl;rfl;rfl;omega)|((with_reducible first|apply Zqc|apply Zqd);rfl;rfl;rfl;omega)|((with_reducible apply Zqf);rfl;rfl;rfl;exact rfl)|((with_reducible apply Zqo);rfl;rfl;rfl)|((with_reducible apply Zqz);rfl;rfl;(focus (repeat constructor));rfl))|((with_reducible apply ZC);rfl)|((with_reducible apply ZD);rfl))
      refine SK.callA rfl rfl (fun w1 g1 _ => wakes17 w1 (hG1 w1 g1)) ?_
      (repeat first|(with_reducible first|apply Zc|apply Zd|apply Zi|apply Zk|apply Zm|apply Zp|apply Zs)|((with_reducible apply ZJ);rfl;rfl)|((with_reducible apply Zqo);rfl;rfl;rfl))
      exact SK.retQ rfl (by (repeat constructor)) (fun w' hm' => ⟨(), trivial, rfl, hm'.wk (by (repeat constructor))⟩)
  · have hw1 : W64 ((k : Int) + 1) = ((k + 1 : Nat) : Int) := by rw [wrap_small (by omega) (by omega)]; omega
    refine SK.callO rfl rfl (fun w1 g1 g2 => step20e (D := dfT (n : Int)) (S := stT 2 (k : Int) (W64 (c + 1))) (a := a) (dv := .agg #[.string bW, .slice (some ⟨bD, 0, none⟩) 1 1]) (sv := stV (stT 2 (k : Int) (W64 (c + 1))) (some (bN2, capN2, spN2), pS)) (stepT_again (n := (n : Int)) (c := W64 (c + 1)) ha1 ha2 ha3 ha4 (by omega)) (okT n) (goodT _ _ _ _) ha5 (rdfT (g2 _ _ _ (by (repeat constructor)))) (RSt.own (S := stT 2 (k : Int) (W64 (c + 1))) hpN hpS (fun b cs hb j u hu => g2 b cs _ (by rw [← hb]; (repeat constructor)) j u hu) (fun b cs hb j u hu => g2 b cs _ (by rw [← hb]; (repeat constructor)) j u hu)) (by obtain ⟨m, hm⟩ := hG; exact ⟨m, g1 _ _ _ hm⟩)) ?_
    rintro ⟨⟨vN, vS⟩, vE, vT⟩ ⟨⟨hvN, hvS⟩, hvE, hvT⟩
    dsimp only at hvN hvS hvE hvT ⊢
    rw [hw1] at hvT ⊢
    have hkk : ((k + 1 : Nat) : Int) - 1 = (k : Int) := by omega
    (repeat ((fail_if_success (with_reducible refine SK.atS 19 ?_)); first|(with_reducible first|apply Zc|apply Zd|apply Zi|apply Zs)|((with_reducible first|apply ZI|apply ZJ);rfl;rfl)|((with_reducible apply Zqn);rfl;rfl;rfl)|((with_reducible apply Zrc);rfl;rfl;rfl;exact List.cons_ne_nil _ _;(first|rfl|(repeat first|exact plain_nil|(refine plain_cons (by first|rfl|exact OwnD.plain_val _ _) ?_)));(focus (repeat constructor));rfl)))
    refine SK.now (F' := [(11, vT.val 1), (12, .int .i64 0), (18, .int .i64 12), (14, .pointer (some ⟨b14, 0, none⟩)), (13, .int .i64 (k : Int)), (10, .pointer (some ⟨b10, 0, none⟩)), (8, .pointer (some ⟨b8, 0, none⟩)), (7, .int .i64 (n : Int)), (2, .string t), (1, tv)]) (M' := some (b14, a.c, 39) :: some (b10, stC (vN.val 1) (vS.val 0) 1 e0 (W64 (W64 (c + 1) + 1)), 33) :: vT.ent (tkC 1 ((k + 1 : Nat) : Int) 0) 52 :: some (b8, [.string bW, .slice (some ⟨bD, 0, none⟩) 1 1], 24) :: some (bD, ndC (n : Int), 59) :: [vN.ent (nsC 1 (((k + 1 : Nat) : Int) - 1) e0) 56, vS.ent [] 100]) (by (repeat constructor)) (by rw [hkk]; (repeat constructor)) ?_
    by_cases h6 : a.kind = 6
    · (repeat first|(with_reducible first|apply Za|apply Zb|apply Zc|apply Zd|apply Zi|apply Zl|apply Zo|apply Zs)|((with_reducible first|apply ZI|apply ZJ|apply ZK);rfl;rfl)|((with_reducible first|apply ZR|apply ZW);rfl;rfl;rfl;omega)|((with_reducible first|apply Zqc|apply Zqd);rfl;rfl;rfl;omega)|((with_reducible apply Zqz);rfl;rfl;(focus (repeat constructor));rfl)|((with_reducible apply Zrb);rfl;rfl;(first|rfl|exact OwnD.plain_val _ _);(focus (repeat constructor));rfl)|((with_reducible apply ZC);rfl)|((with_reducible apply ZD);rfl))
      exact SK.roundW (k + 1, W64 (W64 (c + 1) + 1), (vN, vS), vT) ⟨by dsimp only; omega, by dsimp only; omega, by dsimp only; rw [hkk]; exact ⟨hvN, hvS⟩, hvT⟩ (by dsimp only; omega) (by (repeat constructor)) (by (repeat constructor))
    · (repeat first|(with_reducible first|apply Za|apply Zb|apply Zc|apply Zd|apply Zi|apply Zl|apply Zo)|((with_reducible first|apply ZI|apply ZJ|apply ZK);rfl;rfl)|((with_reducible apply ZR);rfl;rfl;rfl;omega)|((with_reducible first|apply Zqc|apply Zqd);rfl;rfl;rfl;omega)|((with_reducible apply Zqz);rfl;rfl;(focus (repeat constructor));rfl)|((with_reducible apply ZD);rfl))
      exact SK.roundW (k + 1, W64 (W64 (c + 1) + 1), (vN, vS), vT) ⟨by dsimp only; omega, by dsimp only; omega, by dsimp only; rw [hkk]; exact ⟨hvN, hvS⟩, hvT⟩ (by dsimp only; omega) (by (repeat constructor)) (by (repeat constructor))
open Go.ChangeShapes Go.WideShapes Go.ChangeAt Go.RowKit
set_option maxRecDepth 100000 in
set_option maxHeartbeats 4000000 in
theorem historyTries_lifted (os : Os) (started : os.Started) (H : Type) (enc : TypeId × Value → H) :
    ReturnsInHanded {} Try.checked os 7 .any (Rows.historyTriesSpec.pre6 enc Try.prog Try.f7 Rows.historyTriesRow.domain false) (Rows.historyTriesSpec.post enc Try.prog Try.f7 false true false false) := by
  refine returnsInHanded_of_change_shaped (C := Try.checked) Try.own started (by kernel_rfl) Try.func7
    (ChangeSpec.witness6 (enc := enc) (C := Try.checked) false ⟨#[], #[.int .i64 0, .slice none 0 0, .string ⟨#[]⟩], []⟩ 8 (by kernel_rfl) (by kernel_rfl) (by kernel_rfl) (by kernel_rfl)) ?_
  intro W base args ds gs before hval0 hW hcnd0 hsz0 hsh _
  have hsz : (DataW.weightsEach Try.prog (Try.f7.params.toList ++ Rows.historyTriesSpec.plain.varTypes Try.prog) (ds ++ gs)).all (· ≤ reachBytes) = true := hsz0
  have hval : ∀ (j : Nat) t v, Try.f7.params[j]? = some t → args[j]? = some v → Value.okWide Try.prog W .any base t v := hval0
  have hW' := hW
  obtain ⟨p, q, hA0, hV, rfl, hfz, hnd⟩ := hW
  have hA : DataW.TrodAll enc Try.prog W 0 (fun _ => true) true Try.f7.params.toList args.toList ds p := hA0
  rw [Try.params7] at hA hval hsz
  obtain ⟨v0, v1, v2, d0, d1, d2, p0, p1, p2, rfl, rfl, rfl, h0, h1, h2⟩ := trodAll_three hA
  obtain ⟨rfl, rfl⟩ := trodVars_none hV
  have hlt := hW'.lt
  have hw1 : ∀ n ∈ d1.weights Try.prog 60, n ≤ reachBytes := fun n hn => by
    have := List.all_eq_true.1 hsz n (DataW.weights_mem_each (j := 1) rfl rfl n hn)
    simpa using this
  have hw2 : ∀ n ∈ d2.weights Try.prog 9, n ≤ reachBytes := fun n hn => by
    have := List.all_eq_true.1 hsz n (DataW.weights_mem_each (j := 2) rfl rfl n hn)
    simpa using this
  have hR : reachBytes < 9223372036854775807 := by decide
  obtain ⟨f0, t0⟩ := id h0
  obtain ⟨m0, rfl⟩ := okWide_int Try.underlying3 (hval 0 3 v0 rfl rfl)
  obtain ⟨f1, t1⟩ := id h1
  obtain ⟨a1, len1, cap1, rfl⟩ := okWide_slice Try.underlying60 (hval 1 60 v1 rfl rfl)
  obtain ⟨c1, l1, e1, hrl1, hI1⟩ := open60 t1 hw1 hR
  have e1' : c1 = .slice a1 len1 cap1 := by
    have : ([Value.slice a1 len1 cap1] : List Value) = [c1] := e1
    exact (List.cons.inj this).1.symm
  subst e1'
  obtain ⟨f2, t2⟩ := id h2
  obtain ⟨s2, rfl⟩ := okWide_string Try.underlying9 (hval 2 9 v2 rfl rfl)
  have hs2 := open9 t2 hw2
  obtain ⟨m, hm⟩ := Try.laysM144.s1_3 W hsh
  have hrun := tries7 m0 _ l1 s2 W  (hrl1.mono fun b o v h => Cw.vw h) hI1 (Nat.lt_of_le_of_lt hs2 hR) ⟨m, Cw.vw hm⟩
  refine Calls.mono hrun fun e W' ⟨_, _, he, hmem⟩ => ?_
  have hb := Mem.below hmem
  subst he
  have r0 := Below.trod Try.laidOut (ty_ok 3 (by kernel_rfl) (by kernel_rfl)).1 (ty_ok 3 (by kernel_rfl) (by kernel_rfl)).2 h0 hb (fun x hx => hlt x (by simp [hx]))
  have r1 := Below.trod Try.laidOut (ty_ok 60 (by kernel_rfl) (by kernel_rfl)).1 (ty_ok 60 (by kernel_rfl) (by kernel_rfl)).2 h1 hb (fun x hx => hlt x (by simp [hx]))
  have r2 := Below.trod Try.laidOut (ty_ok 9 (by kernel_rfl) (by kernel_rfl)).1 (ty_ok 9 (by kernel_rfl) (by kernel_rfl)).2 h2 hb (fun x hx => hlt x (by simp [hx]))
  exact ⟨_, rfl, ⟨_, _, _, [], _, [], hW', trodAll_mk1 (shut_bool Try.underlying4 _), trodAll_mk3 r0 r1 r2, rfl, hb.frame _, fun h => by cases h⟩⟩
theorem HistoryTries_holds : Rows.HistoryTriesSaid :=
  OpenClaim.holds_of_wide 7 Try.f7 rfl rfl rfl rfl rfl rfl rfl ⟨rfl, rfl, rfl, rfl, rfl⟩ rfl rfl rfl rfl rfl (by kernel_rfl) Try.func7 (by kernel_rfl)
    (of_decide_eq_true (by kernel_rfl)) (by unfold Func.isWrapper; rw [if_neg (of_decide_eq_false (by kernel_rfl))]; exact ⟨rfl, rfl⟩)
    (fun os started H enc _ => historyTries_lifted os started H enc)
#print axioms HistoryTries_holds
end Go.Proofs.Ytdnjfmgldkommaa
