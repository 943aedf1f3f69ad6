/- Proved here: an activity and its tries: each step. -/
import Derived.Test.YtdnjfmgldkommaaQa
namespace Go.Proofs.Ytdnjfmgldkommaa
open Go.Sx
@[reducible] def bQ : ByteArray := ⟨#[113]⟩
@[reducible] def ndT (n : Int) : Nd := ⟨bA, 1, bQ, e0, 5, n, []⟩
@[reducible] def dfT (n : Int) : Df := ⟨bW, [ndT n]⟩
@[reducible] def stT (s j : Int) (c : Int) : Sta := ⟨bW, bF, e0, e0, 1, e0, [⟨s, j, e0⟩], [], c⟩
@[reducible] def stX (j : Int) (t : ByteArray) (c : Int) : Sta := ⟨bW, bF, e0, e0, 3, t, [⟨4, j, t⟩], [], c⟩
@[reducible] def tkT (j : Int) : Tk := ⟨1, bF, bA, j, 0, ml0⟩
@[reducible] def tkA (j t : Int) : Tk := ⟨2, bF, bA, j, t, ml0⟩
@[reducible] def inT (now : Int) : Inp := ⟨3, bA, e0, e0, 0, 0, now, e0, e0⟩
@[reducible] def inX (k : Int) (t : ByteArray) : Inp := ⟨5, bA, e0, t, k, 0, 0, e0, e0⟩
@[reducible] def inY (k : Int) : Inp := ⟨6, bA, e0, e0, k, 0, 0, e0, e0⟩
theorem step20e {dv sv : Value} {D : Df} {S : Sta} {a : Inp} {w : World} {e : Int} {R : Rn} (h : stepL D S a = (e, R)) (hDO : DefOK D) (hgo : Good D S) (hna : a.name.size ≤ 1000) (h1 : RDf (Vw w []) dv D) (h2 : RSt (Vw w []) sv S) (h3 : ∃ m, Vw w [] 0 0 (.int .i64 m)) :
    Calls Try.prog 20 [dv, sv, .agg a.c.toArray].toArray w (Ret w [] (ORn R) (stepV e R) (stepM R)) := by
  have := step20 dv sv D S a w hDO hgo hna h1 h2 h3
  rw [h] at this
  exact this
theorem okT (n : Int) : DefOK (dfT n) := by
  refine ⟨by simp, by simp, fun m hm => ?_, fun i m hm => ?_, fun m hm => ?_, fun m hm => ?_⟩
  · rcases List.mem_singleton.1 hm with rfl; exact ⟨by simp, by simp⟩
  · rcases i with _ | i
    · cases hm; kernel_rfl
    · simp at hm
  · rcases List.mem_singleton.1 hm with rfl; show bA.size ≤ 64; decide
  · rcases List.mem_singleton.1 hm with rfl; show (0 : Nat) < _; decide
theorem goodT (n s j c : Int) : Good (dfT n) (stT s j c) := ⟨by simp, by simp, (fun x hx _ _ => by rcases List.mem_singleton.1 hx with rfl; rfl), by show bF.size ≤ 1000; decide, fun _ => rfl⟩
theorem nodeT (n s j c : Int) : nodeL (dfT n) (stT s j c) bA = some (ndT n, ⟨s, j, e0⟩) := by kernel_rfl
theorem stepT_start (n : Int) : stepL (dfT n) sta0 inW1 = (0, ⟨stT 1 0 2, [⟨1, e0, e0, 0⟩, ⟨2, bA, e0, 0⟩], [tkT 1]⟩) := by kernel_rfl
theorem stepT_take (n j c now : Int) : stepL (dfT n) (stT 1 j c) (inT now) = (0, ⟨stT 2 (W64 (j + 1)) (W64 (c + 1)), [⟨3, bA, e0, W64 (j + 1)⟩], [tkA (W64 (j + 1)) (IntKind.i64.wrap (now + 5))]⟩) := by kernel_rfl
theorem endsT {n j c : Int} {a : Inp} (ha : a.kind = 5 ∨ a.kind = 6) (hn : a.node = bA) (ht : a.try_ = j) (hs : a.text.size ≤ 256) :
    stepR (dfT n) a.now ⟨stT 2 j c, [], []⟩ a = (0, failL (dfT n) ⟨stT 2 j c, [], []⟩ (ndT n) ⟨2, j, e0⟩ (if a.kind = 6 then timeoutT else a.text)) := by
  unfold stepR
  rw [if_neg (by omega), if_neg (show ¬ (1 : Int) = 0 by decide), if_neg (show ¬ (1 : Int) ≠ 1 by decide), if_neg (by omega), if_neg (by omega), if_pos (by omega)]
  unfold endsL
  rw [hn]
  have hnl : nodeL (dfT n) (⟨stT 2 j c, [], []⟩ : Rn).S bA = some (ndT n, ⟨2, j, e0⟩) := nodeT n 2 j c
  rw [hnl]
  dsimp only
  rw [if_pos (.inl rfl), if_neg (fun h => h.elim (fun h => h rfl) (fun h => h.2 ht.symm)), if_neg (fun h => by omega), if_neg (show ¬ (1 : Int) = 2 by decide), if_neg (by omega)]
theorem stepT_late (n j c : Int) (t : ByteArray) {k : Int} (hk : j ≠ k) : (stepL (dfT n) (stT 2 j c) (inX k t)).1 = 12 := by
  have : stepR (dfT n) 0 ⟨stT 2 j c, [], []⟩ (inX k t) = (12, ⟨stT 2 j c, [], []⟩) := by
    show endsL (dfT n) 0 ⟨stT 2 j c, [], []⟩ (inX k t) = _
    unfold endsL
    have hnl : nodeL (dfT n) (⟨stT 2 j c, [], []⟩ : Rn).S (inX k t).node = some (ndT n, ⟨2, j, e0⟩) := nodeT n 2 j c
    rw [hnl]
    dsimp only
    rw [if_pos (.inl rfl), if_pos (.inr ⟨rfl, hk⟩)]
  unfold stepL
  rw [show (inX k t).now = 0 from rfl, this, if_neg (by simp)]
theorem failT_again (n j c : Int) (t : ByteArray) (h : j < n) : failL (dfT n) ⟨stT 2 j c, [], []⟩ (ndT n) ⟨2, j, e0⟩ t = ⟨stT 1 j (W64 (c + 1)), [⟨5, bA, t, j⟩], [tkT (W64 (j + 1))]⟩ := by
  unfold failL
  rw [if_pos h]
  kernel_rfl
theorem failT_last (n j c : Int) (t : ByteArray) (h : ¬ j < n) : failL (dfT n) ⟨stT 2 j c, [], []⟩ (ndT n) ⟨2, j, e0⟩ t = ⟨stX j t (W64 (W64 (c + 1) + 1)), [⟨6, bA, t, 0⟩, ⟨15, e0, t, 3⟩], []⟩ := by
  unfold failL
  rw [if_neg h]
  kernel_rfl
theorem stepT_ends {n j c : Int} {a : Inp} (ha : a.kind = 5 ∨ a.kind = 6) (hn : a.node = bA) (ht : a.try_ = j) (hs : a.text.size ≤ 256) :
    stepL (dfT n) (stT 2 j c) a = (0, failL (dfT n) ⟨stT 2 j c, [], []⟩ (ndT n) ⟨2, j, e0⟩ (if a.kind = 6 then timeoutT else a.text)) := by
  have h := endsT (n := n) (c := c) ha hn ht hs
  unfold stepL
  rw [h, if_pos rfl]
theorem stepT_again {n j c : Int} {a : Inp} (ha : a.kind = 5 ∨ a.kind = 6) (hn : a.node = bA) (ht : a.try_ = j) (hs : a.text.size ≤ 256) (h : j < n) :
    stepL (dfT n) (stT 2 j c) a = (0, ⟨stT 1 j (W64 (c + 1)), [⟨5, bA, if a.kind = 6 then timeoutT else a.text, j⟩], [tkT (W64 (j + 1))]⟩) := by
  rw [stepT_ends ha hn ht hs, failT_again _ _ _ _ h]
theorem stepT_last {n j c : Int} {a : Inp} (ha : a.kind = 5 ∨ a.kind = 6) (hn : a.node = bA) (ht : a.try_ = j) (hs : a.text.size ≤ 256) (h : ¬ j < n) :
    stepL (dfT n) (stT 2 j c) a = (0, ⟨stX j (if a.kind = 6 then timeoutT else a.text) (W64 (W64 (c + 1) + 1)), [⟨6, bA, if a.kind = 6 then timeoutT else a.text, 0⟩, ⟨15, e0, if a.kind = 6 then timeoutT else a.text, 3⟩], []⟩) := by
  rw [stepT_ends ha hn ht hs, failT_last _ _ _ _ h]
theorem rdfT {V : View} {b : Nat} {n : Int} (h : ∀ (j : Nat) (u : Value), nv ((ndT n).c (.slice none 0 0)) j = some u → V b j u) : RDf V (.agg #[.string bW, .slice (some ⟨b, 0, none⟩) 1 1]) (dfT n) := by
  refine ⟨_, 1, rfl, fun i x hx => ?_⟩
  rcases i with _ | i
  · cases hx
    exact ⟨b, 0, .slice none 0 0, rfl, ⟨none, 0, rfl, .inl rfl⟩, fun j u hu => by
      have := h j u (by rw [nv_eq]; exact hu)
      simpa using this⟩
  · simp at hx
end Go.Proofs.Ytdnjfmgldkommaa
