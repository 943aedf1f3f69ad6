/- Proved here: a definition is checked. -/
import Derived.Test.YtdnjfmgldkommaaRe
namespace Go.Proofs.Ytdnjfmgldkommaa
open Go.Sx
structure NodeOK (D : Df) (i : Nat) (n : Nd) : Prop where
  nm : nameL n.name false 64 = true
  ar : n.kind ≠ 2 → nameL n.arg false 64 = true
  to : n.kind = 5 → nameL n.to_ true 256 = true
  fi : ∀ j, fI D.nodes n.name = some j → i ≤ j
  kd : 1 ≤ n.kind ∧ n.kind ≤ 5
  dl : 0 ≤ n.delay ∧ n.delay ≤ 1000000
  dk : 0 < n.delay → n.kind = 1 ∨ n.kind = 2
  t1 : n.kind = 1 → 1 ≤ n.tries ∧ n.tries ≤ 10
  t0 : n.kind ≠ 1 → n.tries = 0
  a2 : n.kind = 2 → n.arg = ⟨#[]⟩
  to0 : n.kind ≠ 5 → n.to_ = ⟨#[]⟩
def Texts (D : Df) : Prop := D.name.size < 9223372036854775807 ∧ D.nodes.length < 9223372036854775807 ∧ ∀ n ∈ D.nodes, n.name.size < 9223372036854775807 ∧ n.arg.size < 9223372036854775807 ∧ n.to_.size < 9223372036854775807 ∧ n.after.length < 9223372036854775807
set_option maxRecDepth 100000 in
set_option maxHeartbeats 8000000 in
theorem checkNode50 (dv : Value) (D : Df) (i : Nat) (n : Nd) (w : World) (hd : RDf (Vw w []) dv D) (hT : Texts D) (hn : D.nodes[i]? = some n) :
    Calls Try.prog 50 [dv, .int .i64 (i : Int)].toArray w (Ret w [] (fun e : Int => e = 0 → NodeOK D i n) (fun e => .int .i64 e) (fun _ => [])) := by
  obtain ⟨A, cap, rfl, hnds⟩ := hd.nds
  have hlt : i < D.nodes.length := (List.getElem?_eq_some_iff.1 hn).1
  obtain ⟨bd, o, av, rfl, hnd2⟩ := hnds i n hn
  obtain ⟨Aa, ca, hav, havx⟩ := id hnd2.1
  subst hav
  have hcell := hnd2.2
  obtain ⟨tx1, tx2, tx3⟩ := hT
  obtain ⟨z1, z2, z3, z4⟩ := tx3 n (List.mem_of_getElem? hn)
  refine enter0 Try.func50 rfl Try.ntmps50 rfl ?_
  (repeat ((fail_if_success (with_reducible refine SK.atR 2 ?_)); first|(with_reducible first|apply Za|apply Zb|apply Zc|apply Zd|apply Zi|apply Zs)|((with_reducible refine Yz ?_);first|((with_reducible apply SK.indexAddr); rfl; rfl; rfl; exact hlt)|((with_reducible apply SK.loadAR); rfl; rfl; exact hcell; rfl)|((with_reducible first|apply ZI|apply ZJ|apply ZK);rfl;rfl)|((with_reducible apply Zqz);rfl;rfl;(focus (repeat constructor));rfl)|((with_reducible apply Zrc);rfl;rfl;rfl;exact List.cons_ne_nil _ _;(first|rfl|(repeat first|exact plain_nil|(refine plain_cons (by first|rfl|exact OwnD.plain_val _ _) ?_)));(focus (repeat constructor));rfl)|((with_reducible apply Zrf);rfl;rfl;intro _)|((with_reducible apply Zrg);rfl;intro _))))
  refine SK.test 38 (¬ (nameL n.name false 64 = true ∧ (n.kind ≠ 2 → nameL n.arg false 64 = true) ∧ (n.kind = 5 → nameL n.to_ true 256 = true))) ?_ (fun hp => ?_) (fun hp => ?_)
  · (repeat first|(with_reducible first|apply Zb|apply Zc)|((with_reducible apply ZK);rfl;rfl)|((with_reducible apply Zqz);rfl;rfl;(focus (repeat constructor));rfl))
    refine SK.callA rfl rfl (fun w1 g1 _ => name49 n.name w1 z1) ?_
    cases h1 : nameL n.name false 64 with
    | false =>
      (repeat first|(with_reducible first|apply Zc|apply Zd|apply Zi|apply Zs)|((with_reducible apply ZI);rfl;rfl)|((with_reducible apply ZP);rfl;rfl)|((with_reducible apply Zqo);rfl;rfl;rfl)|((with_reducible apply Zqx);rfl;rfl;rfl;rfl)|((with_reducible apply Zqy);rfl;rfl;rfl))
      exact SK.outcome (by (repeat constructor)) (by (repeat constructor)) (by simp)
    | true =>
      by_cases k2 : n.kind = 2
      · (repeat first|(with_reducible first|apply Zc|apply Zd|apply Zi|apply Zs)|((with_reducible first|apply ZI|apply ZK|apply ZO);rfl;rfl)|((with_reducible apply ZP);rfl;rfl)|((with_reducible first|apply Zqc|apply Zqd);rfl;rfl;rfl;omega)|((with_reducible apply Zqs);rfl;rfl;rfl)|((with_reducible apply Zqx);rfl;rfl;rfl;rfl)|((with_reducible apply Zqz);rfl;rfl;(focus (repeat constructor));rfl))
        exact SK.outcome (by (repeat constructor)) (by (repeat constructor)) (by simp [k2])
      · (repeat first|(with_reducible first|apply Zc|apply Zs)|((with_reducible first|apply ZI|apply ZK|apply ZO);rfl;rfl)|((with_reducible apply ZP);rfl;rfl)|((with_reducible apply ZX);rfl;rfl;rfl;omega)|((with_reducible apply Zqz);rfl;rfl;(focus (repeat constructor));rfl))
        refine SK.callA rfl rfl (fun w1 g1 _ => name49 n.arg w1 z2) ?_
        cases h2 : nameL n.arg false 64 with
        | false =>
          (repeat first|(with_reducible first|apply Zc|apply Zd|apply Zi|apply Zs)|((with_reducible first|apply ZI|apply ZO);rfl;rfl)|((with_reducible apply ZP);rfl;rfl)|((with_reducible apply Zqo);rfl;rfl;rfl)|((with_reducible apply Zqs);rfl;rfl;rfl)|((with_reducible apply Zqx);rfl;rfl;rfl;rfl)|((with_reducible apply Zqy);rfl;rfl;rfl))
          exact SK.outcome (by (repeat constructor)) (by (repeat constructor)) (by simp [k2])
        | true =>
          by_cases k5 : n.kind = 5
          · (repeat first|(with_reducible first|apply Zc|apply Zs)|((with_reducible first|apply ZI|apply ZK|apply ZO);rfl;rfl)|((with_reducible apply ZP);rfl;rfl)|((with_reducible apply ZW);rfl;rfl;rfl;omega)|((with_reducible apply Zqo);rfl;rfl;rfl)|((with_reducible apply Zqs);rfl;rfl;rfl)|((with_reducible apply Zqz);rfl;rfl;(focus (repeat constructor));rfl))
            refine SK.callA rfl rfl (fun w1 g1 _ => flow65 n.to_ w1 z3) ?_
            cases h3 : nameL n.to_ true 256 with
            | false =>
              (repeat first|(with_reducible first|apply Zc|apply Zd|apply Zi|apply Zs)|((with_reducible apply ZO);rfl;rfl)|((with_reducible apply ZP);rfl;rfl)|((with_reducible apply Zqo);rfl;rfl;rfl)|((with_reducible apply Zqs);rfl;rfl;rfl))
              exact SK.outcome (by (repeat constructor)) (by (repeat constructor)) (by simp [k5])
            | true =>
              (repeat first|(with_reducible first|apply Zc|apply Zd|apply Zi|apply Zs)|((with_reducible apply ZO);rfl;rfl)|((with_reducible apply ZP);rfl;rfl)|((with_reducible apply Zqo);rfl;rfl;rfl)|((with_reducible apply Zqs);rfl;rfl;rfl))
              exact SK.outcome (by (repeat constructor)) (by (repeat constructor)) (by simp)
          · (repeat first|(with_reducible first|apply Zc|apply Zd|apply Zi|apply Zs)|((with_reducible first|apply ZI|apply ZK|apply ZO);rfl;rfl)|((with_reducible apply ZP);rfl;rfl)|((with_reducible apply Zqc);rfl;rfl;rfl;omega)|((with_reducible apply Zqo);rfl;rfl;rfl)|((with_reducible apply Zqs);rfl;rfl;rfl)|((with_reducible apply Zqx);rfl;rfl;rfl;rfl)|((with_reducible apply Zqz);rfl;rfl;(focus (repeat constructor));rfl))
            exact SK.outcome (by (repeat constructor)) (by (repeat constructor)) (by simp [k5])
  · (repeat first|(with_reducible first|apply Za|apply Zb|apply Zc|apply Zd|apply Zi|apply Zk|apply Zp)|((with_reducible apply ZJ);rfl;rfl)|((with_reducible apply ZC);rfl))
    exact SK.retQ rfl (by (repeat constructor)) (fun w' hm' => ⟨17, fun h => absurd (show (17 : Int) = 0 from h) (by decide), rfl, hm'.wk (by (repeat constructor))⟩)
  · have hp := Classical.not_not.1 hp
    obtain ⟨p1, p2, p3⟩ := hp
    (repeat first|(with_reducible first|apply Za|apply Zb|apply Zc|apply Zi|apply Zo)|((with_reducible apply ZK);rfl;rfl)|((with_reducible first|apply Zqz|apply Zra);rfl;rfl;(focus (repeat constructor));rfl)|((with_reducible apply ZD);rfl))
    refine SK.callA rfl rfl (fun w1 g1 _ => find21 _ D n.name w1 (hd.mono g1) tx2) ?_
    unfold findV
    obtain ⟨j, hj⟩ : ∃ j, fI D.nodes n.name = some j := by
      cases hf : fI D.nodes n.name with
      | some j => exact ⟨j, rfl⟩
      | none =>
        unfold fI at hf
        rw [List.findIdx?_eq_none_iff] at hf
        have := hf n (List.mem_of_getElem? hn)
        simp at this
    rw [hj]
    dsimp only
    by_cases hji : j < i
    · (repeat first|(with_reducible first|apply Za|apply Zb|apply Zc|apply Zd|apply Zi|apply Zk|apply Zp|apply Zs)|((with_reducible first|apply ZI|apply ZJ);rfl;rfl)|((with_reducible apply ZS);rfl;rfl;rfl;omega)|((with_reducible apply Zqn);rfl;rfl;rfl)|((with_reducible apply ZC);rfl))
      exact SK.retQ rfl (by (repeat constructor)) (fun w' hm' => ⟨16, fun h => absurd (show (16 : Int) = 0 from h) (by decide), rfl, hm'.wk (by (repeat constructor))⟩)
    have fi : ∀ j, fI D.nodes n.name = some j → i ≤ j := by intro j' h; rw [hj] at h; cases h; omega
    have hno : ¬ n.kind < 1 ∧ ¬ 5 < n.kind → 1 ≤ n.kind ∧ n.kind ≤ 5 := fun h => by omega
    by_cases b1 : n.kind < 1
    · (repeat first|(with_reducible first|apply Za|apply Zb|apply Zc|apply Zd|apply Zi|apply Zk|apply Zm|apply Zo|apply Zp|apply Zr|apply Zs)|((with_reducible first|apply ZI|apply ZJ|apply ZK);rfl;rfl)|((with_reducible apply ZS);rfl;rfl;rfl;omega)|((with_reducible apply ZY);rfl;rfl;rfl;omega)|((with_reducible first|apply Zqn|apply Zqo);rfl;rfl;rfl)|((with_reducible apply Zqx);rfl;rfl;rfl;rfl)|((with_reducible apply Zqz);rfl;rfl;(focus (repeat constructor));rfl)|((with_reducible apply ZC);rfl)|((with_reducible apply ZD);rfl))
      exact SK.retQ rfl (by (repeat constructor)) (fun w' hm' => ⟨1, fun h => absurd (show (1 : Int) = 0 from h) (by decide), rfl, hm'.wk (by (repeat constructor))⟩)
    by_cases b5 : 5 < n.kind
    · (repeat first|(with_reducible first|apply Za|apply Zb|apply Zc|apply Zd|apply Zi|apply Zk|apply Zm|apply Zo|apply Zp|apply Zr|apply Zs)|((with_reducible first|apply ZI|apply ZJ|apply ZK|apply ZO);rfl;rfl)|((with_reducible apply ZU);rfl;rfl;rfl;omega)|((with_reducible apply ZY);rfl;rfl;rfl;omega)|((with_reducible apply Zqn);rfl;rfl;rfl)|((with_reducible apply Zqs);rfl;rfl;rfl)|((with_reducible apply Zqz);rfl;rfl;(focus (repeat constructor));rfl)|((with_reducible apply ZC);rfl)|((with_reducible apply ZD);rfl))
      exact SK.retQ rfl (by (repeat constructor)) (fun w' hm' => ⟨1, fun h => absurd (show (1 : Int) = 0 from h) (by decide), rfl, hm'.wk (by (repeat constructor))⟩)
    by_cases d0 : n.delay < 0
    · (repeat first|(with_reducible first|apply Za|apply Zb|apply Zc|apply Zd|apply Zi|apply Zk|apply Zm|apply Zo|apply Zp|apply Zr|apply Zs)|((with_reducible first|apply ZI|apply ZJ|apply ZK|apply ZO);rfl;rfl)|((with_reducible apply ZS);rfl;rfl;rfl;omega)|((with_reducible first|apply ZY|apply Zqa);rfl;rfl;rfl;omega)|((with_reducible first|apply Zqn|apply Zqo);rfl;rfl;rfl)|((with_reducible apply Zqs);rfl;rfl;rfl)|((with_reducible apply Zqx);rfl;rfl;rfl;rfl)|((with_reducible apply Zqz);rfl;rfl;(focus (repeat constructor));rfl)|((with_reducible apply ZC);rfl)|((with_reducible apply ZD);rfl))
      exact SK.retQ rfl (by (repeat constructor)) (fun w' hm' => ⟨1, fun h => absurd (show (1 : Int) = 0 from h) (by decide), rfl, hm'.wk (by (repeat constructor))⟩)
    by_cases d1 : 1000000 < n.delay
    · (repeat first|(with_reducible first|apply Za|apply Zb|apply Zc|apply Zd|apply Zi|apply Zk|apply Zm|apply Zo|apply Zp|apply Zr|apply Zs)|((with_reducible first|apply ZI|apply ZJ|apply ZK|apply ZO);rfl;rfl)|((with_reducible apply ZU);rfl;rfl;rfl;omega)|((with_reducible first|apply ZY|apply Zqa);rfl;rfl;rfl;omega)|((with_reducible apply Zqn);rfl;rfl;rfl)|((with_reducible apply Zqs);rfl;rfl;rfl)|((with_reducible apply Zqz);rfl;rfl;(focus (repeat constructor));rfl)|((with_reducible apply ZC);rfl)|((with_reducible apply ZD);rfl))
      exact SK.retQ rfl (by (repeat constructor)) (fun w' hm' => ⟨1, fun h => absurd (show (1 : Int) = 0 from h) (by decide), rfl, hm'.wk (by (repeat constructor))⟩)
    have hto : n.to_ = ⟨#[]⟩ ∨ n.to_ ≠ ⟨#[]⟩ := Classical.em _
    have har : n.arg = ⟨#[]⟩ ∨ n.arg ≠ ⟨#[]⟩ := Classical.em _
    have k5 : n.kind = 1 ∨ n.kind = 2 ∨ n.kind = 3 ∨ n.kind = 4 ∨ n.kind = 5 := by omega
    rcases k5 with k | k | k | k | k
    · by_cases d2 : 0 < n.delay
      · skip
        by_cases t1 : n.tries < 1
        · (repeat first|(with_reducible first|apply Za|apply Zb|apply Zc|apply Zd|apply Zi|apply Zk|apply Zm|apply Zo|apply Zp|apply Zr|apply Zs)|((with_reducible first|apply ZI|apply ZJ|apply ZK|apply ZO);rfl;rfl)|((with_reducible first|apply ZS|apply ZU|apply ZW);rfl;rfl;rfl;omega)|((with_reducible first|apply ZY|apply Zqa|apply Zqd);rfl;rfl;rfl;omega)|((with_reducible first|apply Zqn|apply Zqo);rfl;rfl;rfl)|((with_reducible apply Zqs);rfl;rfl;rfl)|((with_reducible apply Zqx);rfl;rfl;rfl;rfl)|((with_reducible apply Zqz);rfl;rfl;(focus (repeat constructor));rfl)|((with_reducible apply ZC);rfl)|((with_reducible apply ZD);rfl))
          exact SK.retQ rfl (by (repeat constructor)) (fun w' hm' => ⟨1, fun h => absurd (show (1 : Int) = 0 from h) (by decide), rfl, hm'.wk (by (repeat constructor))⟩)
        by_cases t2 : 10 < n.tries
        · (repeat first|(with_reducible first|apply Za|apply Zb|apply Zc|apply Zd|apply Zi|apply Zk|apply Zm|apply Zo|apply Zp|apply Zr|apply Zs)|((with_reducible first|apply ZI|apply ZJ|apply ZK|apply ZO);rfl;rfl)|((with_reducible first|apply ZU|apply ZW);rfl;rfl;rfl;omega)|((with_reducible first|apply ZY|apply Zqa|apply Zqd);rfl;rfl;rfl;omega)|((with_reducible first|apply Zqn|apply Zqo);rfl;rfl;rfl)|((with_reducible apply Zqs);rfl;rfl;rfl)|((with_reducible apply Zqx);rfl;rfl;rfl;rfl)|((with_reducible apply Zqz);rfl;rfl;(focus (repeat constructor));rfl)|((with_reducible apply ZC);rfl)|((with_reducible apply ZD);rfl))
          exact SK.retQ rfl (by (repeat constructor)) (fun w' hm' => ⟨1, fun h => absurd (show (1 : Int) = 0 from h) (by decide), rfl, hm'.wk (by (repeat constructor))⟩)
        rcases hto with ht | ht
        · have ht2 : ¬ (n.to_ ≠ ⟨#[]⟩) := fun h => h ht
          (repeat first|(with_reducible first|apply Za|apply Zb|apply Zc|apply Zd|apply Zi|apply Zl|apply Zo|apply Zp|apply Zr|apply Zs)|((with_reducible first|apply ZI|apply ZJ|apply ZK|apply ZO);rfl;rfl)|((with_reducible first|apply ZU|apply ZW|apply ZX);rfl;rfl;rfl;omega)|((with_reducible first|apply ZY|apply Zqa|apply Zqc|apply Zqd);rfl;rfl;rfl;omega)|((with_reducible first|apply Zqn|apply Zqo);rfl;rfl;rfl)|((with_reducible apply Zqs);rfl;rfl;rfl)|((with_reducible apply Zqe);rfl;rfl;rfl;assumption)|((with_reducible apply Zqx);rfl;rfl;rfl;rfl)|((with_reducible apply Zqz);rfl;rfl;(focus (repeat constructor));rfl)|((with_reducible apply ZD);rfl))
          exact SK.retQ rfl (by (repeat constructor)) (fun w' hm' => ⟨0, fun _ => ⟨p1, p2, p3, fi, by omega, by omega, by omega, by omega, by omega, fun h => absurd h (by omega), fun _ => ht⟩, rfl, hm'.wk (by (repeat constructor))⟩)
        · (repeat first|(with_reducible first|apply Za|apply Zb|apply Zc|apply Zd|apply Zi|apply Zk|apply Zm|apply Zo|apply Zp|apply Zr|apply Zs)|((with_reducible first|apply ZI|apply ZJ|apply ZK|apply ZO);rfl;rfl)|((with_reducible first|apply ZU|apply ZW|apply ZX);rfl;rfl;rfl;omega)|((with_reducible first|apply ZY|apply Zqa|apply Zqc|apply Zqd);rfl;rfl;rfl;omega)|((with_reducible first|apply Zqn|apply Zqo);rfl;rfl;rfl)|((with_reducible apply Zqs);rfl;rfl;rfl)|((with_reducible apply Zqt);rfl;rfl;rfl;assumption)|((with_reducible apply Zqx);rfl;rfl;rfl;rfl)|((with_reducible apply Zqz);rfl;rfl;(focus (repeat constructor));rfl)|((with_reducible apply ZC);rfl)|((with_reducible apply ZD);rfl))
          exact SK.retQ rfl (by (repeat constructor)) (fun w' hm' => ⟨1, fun h => absurd (show (1 : Int) = 0 from h) (by decide), rfl, hm'.wk (by (repeat constructor))⟩)
      · skip
        by_cases t1 : n.tries < 1
        · (repeat first|(with_reducible first|apply Za|apply Zb|apply Zc|apply Zd|apply Zi|apply Zk|apply Zm|apply Zo|apply Zp|apply Zr|apply Zs)|((with_reducible first|apply ZI|apply ZJ|apply ZK|apply ZO);rfl;rfl)|((with_reducible first|apply ZS|apply ZW);rfl;rfl;rfl;omega)|((with_reducible first|apply ZY|apply Zqa);rfl;rfl;rfl;omega)|((with_reducible first|apply Zqn|apply Zqo);rfl;rfl;rfl)|((with_reducible apply Zqs);rfl;rfl;rfl)|((with_reducible apply Zqx);rfl;rfl;rfl;rfl)|((with_reducible apply Zqz);rfl;rfl;(focus (repeat constructor));rfl)|((with_reducible apply ZC);rfl)|((with_reducible apply ZD);rfl))
          exact SK.retQ rfl (by (repeat constructor)) (fun w' hm' => ⟨1, fun h => absurd (show (1 : Int) = 0 from h) (by decide), rfl, hm'.wk (by (repeat constructor))⟩)
        by_cases t2 : 10 < n.tries
        · (repeat first|(with_reducible first|apply Za|apply Zb|apply Zc|apply Zd|apply Zi|apply Zk|apply Zm|apply Zo|apply Zp|apply Zr|apply Zs)|((with_reducible first|apply ZI|apply ZJ|apply ZK|apply ZO);rfl;rfl)|((with_reducible first|apply ZU|apply ZW);rfl;rfl;rfl;omega)|((with_reducible first|apply ZY|apply Zqa);rfl;rfl;rfl;omega)|((with_reducible first|apply Zqn|apply Zqo);rfl;rfl;rfl)|((with_reducible apply Zqs);rfl;rfl;rfl)|((with_reducible apply Zqx);rfl;rfl;rfl;rfl)|((with_reducible apply Zqz);rfl;rfl;(focus (repeat constructor));rfl)|((with_reducible apply ZC);rfl)|((with_reducible apply ZD);rfl))
          exact SK.retQ rfl (by (repeat constructor)) (fun w' hm' => ⟨1, fun h => absurd (show (1 : Int) = 0 from h) (by decide), rfl, hm'.wk (by (repeat constructor))⟩)
        rcases hto with ht | ht
        · have ht2 : ¬ (n.to_ ≠ ⟨#[]⟩) := fun h => h ht
          (repeat first|(with_reducible first|apply Za|apply Zb|apply Zc|apply Zd|apply Zi|apply Zl|apply Zo|apply Zp|apply Zr|apply Zs)|((with_reducible first|apply ZI|apply ZJ|apply ZK|apply ZO);rfl;rfl)|((with_reducible first|apply ZW|apply ZX);rfl;rfl;rfl;omega)|((with_reducible first|apply ZY|apply Zqa|apply Zqc|apply Zqd);rfl;rfl;rfl;omega)|((with_reducible first|apply Zqn|apply Zqo);rfl;rfl;rfl)|((with_reducible apply Zqs);rfl;rfl;rfl)|((with_reducible apply Zqe);rfl;rfl;rfl;assumption)|((with_reducible apply Zqx);rfl;rfl;rfl;rfl)|((with_reducible apply Zqz);rfl;rfl;(focus (repeat constructor));rfl)|((with_reducible apply ZD);rfl))
          exact SK.retQ rfl (by (repeat constructor)) (fun w' hm' => ⟨0, fun _ => ⟨p1, p2, p3, fi, by omega, by omega, by omega, by omega, by omega, fun h => absurd h (by omega), fun _ => ht⟩, rfl, hm'.wk (by (repeat constructor))⟩)
        · (repeat first|(with_reducible first|apply Za|apply Zb|apply Zc|apply Zd|apply Zi|apply Zk|apply Zm|apply Zo|apply Zp|apply Zr|apply Zs)|((with_reducible first|apply ZI|apply ZJ|apply ZK|apply ZO);rfl;rfl)|((with_reducible first|apply ZW|apply ZX);rfl;rfl;rfl;omega)|((with_reducible first|apply ZY|apply Zqa|apply Zqc|apply Zqd);rfl;rfl;rfl;omega)|((with_reducible first|apply Zqn|apply Zqo);rfl;rfl;rfl)|((with_reducible apply Zqs);rfl;rfl;rfl)|((with_reducible apply Zqt);rfl;rfl;rfl;assumption)|((with_reducible apply Zqx);rfl;rfl;rfl;rfl)|((with_reducible apply Zqz);rfl;rfl;(focus (repeat constructor));rfl)|((with_reducible apply ZC);rfl)|((with_reducible apply ZD);rfl))
          exact SK.retQ rfl (by (repeat constructor)) (fun w' hm' => ⟨1, fun h => absurd (show (1 : Int) = 0 from h) (by decide), rfl, hm'.wk (by (repeat constructor))⟩)
    · by_cases d2 : 0 < n.delay
      · skip
        by_cases t1 : n.tries = 0
        · skip
          rcases har with ha | ha
          · have ha2 : ¬ (n.arg ≠ ⟨#[]⟩) := fun h => h ha
            rcases hto with ht | ht
            · have ht2 : ¬ (n.to_ ≠ ⟨#[]⟩) := fun h => h ht
              (repeat first|(with_reducible first|apply Za|apply Zb|apply Zc|apply Zd|apply Zi|apply Zl|apply Zo|apply Zp|apply Zr|apply Zs)|((with_reducible first|apply ZI|apply ZJ|apply ZK|apply ZO);rfl;rfl)|((with_reducible first|apply ZU|apply ZW|apply ZX);rfl;rfl;rfl;omega)|((with_reducible first|apply ZY|apply Zqa|apply Zqc|apply Zqd);rfl;rfl;rfl;omega)|((with_reducible first|apply Zqn|apply Zqo);rfl;rfl;rfl)|((with_reducible apply Zqs);rfl;rfl;rfl)|((with_reducible apply Zqe);rfl;rfl;rfl;assumption)|((with_reducible apply Zqx);rfl;rfl;rfl;rfl)|((with_reducible apply Zqy);rfl;rfl;rfl)|((with_reducible apply Zqz);rfl;rfl;(focus (repeat constructor));rfl)|((with_reducible apply ZD);rfl))
              exact SK.retQ rfl (by (repeat constructor)) (fun w' hm' => ⟨0, fun _ => ⟨p1, p2, p3, fi, by omega, by omega, by omega, by omega, by omega, fun _ => ha, fun _ => ht⟩, rfl, hm'.wk (by (repeat constructor))⟩)
            · (repeat first|(with_reducible first|apply Za|apply Zb|apply Zc|apply Zd|apply Zi|apply Zk|apply Zm|apply Zo|apply Zp|apply Zr|apply Zs)|((with_reducible first|apply ZI|apply ZJ|apply ZK|apply ZO);rfl;rfl)|((with_reducible first|apply ZU|apply ZW|apply ZX);rfl;rfl;rfl;omega)|((with_reducible first|apply ZY|apply Zqa|apply Zqc|apply Zqd);rfl;rfl;rfl;omega)|((with_reducible first|apply Zqn|apply Zqo);rfl;rfl;rfl)|((with_reducible apply Zqs);rfl;rfl;rfl)|((with_reducible apply Zqt);rfl;rfl;rfl;assumption)|((with_reducible apply Zqe);rfl;rfl;rfl;assumption)|((with_reducible apply Zqx);rfl;rfl;rfl;rfl)|((with_reducible apply Zqy);rfl;rfl;rfl)|((with_reducible apply Zqz);rfl;rfl;(focus (repeat constructor));rfl)|((with_reducible apply ZC);rfl)|((with_reducible apply ZD);rfl))
              exact SK.retQ rfl (by (repeat constructor)) (fun w' hm' => ⟨1, fun h => absurd (show (1 : Int) = 0 from h) (by decide), rfl, hm'.wk (by (repeat constructor))⟩)
          · (repeat first|(with_reducible first|apply Za|apply Zb|apply Zc|apply Zd|apply Zi|apply Zk|apply Zm|apply Zo|apply Zp|apply Zr|apply Zs)|((with_reducible first|apply ZI|apply ZJ|apply ZK|apply ZO);rfl;rfl)|((with_reducible first|apply ZU|apply ZW|apply ZX);rfl;rfl;rfl;omega)|((with_reducible first|apply ZY|apply Zqa|apply Zqc|apply Zqd);rfl;rfl;rfl;omega)|((with_reducible first|apply Zqn|apply Zqo);rfl;rfl;rfl)|((with_reducible apply Zqs);rfl;rfl;rfl)|((with_reducible apply Zqt);rfl;rfl;rfl;assumption)|((with_reducible apply Zqx);rfl;rfl;rfl;rfl)|((with_reducible apply Zqy);rfl;rfl;rfl)|((with_reducible apply Zqz);rfl;rfl;(focus (repeat constructor));rfl)|((with_reducible apply ZC);rfl)|((with_reducible apply ZD);rfl))
            exact SK.retQ rfl (by (repeat constructor)) (fun w' hm' => ⟨1, fun h => absurd (show (1 : Int) = 0 from h) (by decide), rfl, hm'.wk (by (repeat constructor))⟩)
        · (repeat first|(with_reducible first|apply Za|apply Zb|apply Zc|apply Zd|apply Zi|apply Zk|apply Zm|apply Zo|apply Zp|apply Zr|apply Zs)|((with_reducible first|apply ZI|apply ZJ|apply ZK|apply ZO);rfl;rfl)|((with_reducible first|apply ZU|apply ZX);rfl;rfl;rfl;omega)|((with_reducible first|apply ZY|apply Zqa|apply Zqc|apply Zqd);rfl;rfl;rfl;omega)|((with_reducible first|apply Zqn|apply Zqo);rfl;rfl;rfl)|((with_reducible apply Zqs);rfl;rfl;rfl)|((with_reducible apply Zqx);rfl;rfl;rfl;rfl)|((with_reducible apply Zqy);rfl;rfl;rfl)|((with_reducible apply Zqz);rfl;rfl;(focus (repeat constructor));rfl)|((with_reducible apply ZC);rfl)|((with_reducible apply ZD);rfl))
          exact SK.retQ rfl (by (repeat constructor)) (fun w' hm' => ⟨1, fun h => absurd (show (1 : Int) = 0 from h) (by decide), rfl, hm'.wk (by (repeat constructor))⟩)
      · skip
        by_cases t1 : n.tries = 0
        · skip
          rcases har with ha | ha
          · have ha2 : ¬ (n.arg ≠ ⟨#[]⟩) := fun h => h ha
            rcases hto with ht | ht
            · have ht2 : ¬ (n.to_ ≠ ⟨#[]⟩) := fun h => h ht
              (repeat first|(with_reducible first|apply Za|apply Zb|apply Zc|apply Zd|apply Zi|apply Zl|apply Zo|apply Zp|apply Zr|apply Zs)|((with_reducible first|apply ZI|apply ZJ|apply ZK|apply ZO);rfl;rfl)|((with_reducible first|apply ZW|apply ZX);rfl;rfl;rfl;omega)|((with_reducible first|apply ZY|apply Zqa|apply Zqc|apply Zqd);rfl;rfl;rfl;omega)|((with_reducible first|apply Zqn|apply Zqo);rfl;rfl;rfl)|((with_reducible apply Zqs);rfl;rfl;rfl)|((with_reducible apply Zqe);rfl;rfl;rfl;assumption)|((with_reducible apply Zqx);rfl;rfl;rfl;rfl)|((with_reducible apply Zqy);rfl;rfl;rfl)|((with_reducible apply Zqz);rfl;rfl;(focus (repeat constructor));rfl)|((with_reducible apply ZD);rfl))
              exact SK.retQ rfl (by (repeat constructor)) (fun w' hm' => ⟨0, fun _ => ⟨p1, p2, p3, fi, by omega, by omega, by omega, by omega, by omega, fun _ => ha, fun _ => ht⟩, rfl, hm'.wk (by (repeat constructor))⟩)
            · (repeat first|(with_reducible first|apply Za|apply Zb|apply Zc|apply Zd|apply Zi|apply Zk|apply Zm|apply Zo|apply Zp|apply Zr|apply Zs)|((with_reducible first|apply ZI|apply ZJ|apply ZK|apply ZO);rfl;rfl)|((with_reducible first|apply ZW|apply ZX);rfl;rfl;rfl;omega)|((with_reducible first|apply ZY|apply Zqa|apply Zqc|apply Zqd);rfl;rfl;rfl;omega)|((with_reducible first|apply Zqn|apply Zqo);rfl;rfl;rfl)|((with_reducible apply Zqs);rfl;rfl;rfl)|((with_reducible apply Zqt);rfl;rfl;rfl;assumption)|((with_reducible apply Zqe);rfl;rfl;rfl;assumption)|((with_reducible apply Zqx);rfl;rfl;rfl;rfl)|((with_reducible apply Zqy);rfl;rfl;rfl)|((with_reducible apply Zqz);rfl;rfl;(focus (repeat constructor));rfl)|((with_reducible apply ZC);rfl)|((with_reducible apply ZD);rfl))
              exact SK.retQ rfl (by (repeat constructor)) (fun w' hm' => ⟨1, fun h => absurd (show (1 : Int) = 0 from h) (by decide), rfl, hm'.wk (by (repeat constructor))⟩)
          · (repeat first|(with_reducible first|apply Za|apply Zb|apply Zc|apply Zd|apply Zi|apply Zk|apply Zm|apply Zo|apply Zp|apply Zr|apply Zs)|((with_reducible first|apply ZI|apply ZJ|apply ZK|apply ZO);rfl;rfl)|((with_reducible first|apply ZW|apply ZX);rfl;rfl;rfl;omega)|((with_reducible first|apply ZY|apply Zqa|apply Zqc|apply Zqd);rfl;rfl;rfl;omega)|((with_reducible first|apply Zqn|apply Zqo);rfl;rfl;rfl)|((with_reducible apply Zqs);rfl;rfl;rfl)|((with_reducible apply Zqt);rfl;rfl;rfl;assumption)|((with_reducible apply Zqx);rfl;rfl;rfl;rfl)|((with_reducible apply Zqy);rfl;rfl;rfl)|((with_reducible apply Zqz);rfl;rfl;(focus (repeat constructor));rfl)|((with_reducible apply ZC);rfl)|((with_reducible apply ZD);rfl))
            exact SK.retQ rfl (by (repeat constructor)) (fun w' hm' => ⟨1, fun h => absurd (show (1 : Int) = 0 from h) (by decide), rfl, hm'.wk (by (repeat constructor))⟩)
        · (repeat first|(with_reducible first|apply Za|apply Zb|apply Zc|apply Zd|apply Zi|apply Zk|apply Zm|apply Zo|apply Zp|apply Zr|apply Zs)|((with_reducible first|apply ZI|apply ZJ|apply ZK|apply ZO);rfl;rfl)|((with_reducible apply ZX);rfl;rfl;rfl;omega)|((with_reducible first|apply ZY|apply Zqa|apply Zqc);rfl;rfl;rfl;omega)|((with_reducible first|apply Zqn|apply Zqo);rfl;rfl;rfl)|((with_reducible apply Zqs);rfl;rfl;rfl)|((with_reducible apply Zqx);rfl;rfl;rfl;rfl)|((with_reducible apply Zqy);rfl;rfl;rfl)|((with_reducible apply Zqz);rfl;rfl;(focus (repeat constructor));rfl)|((with_reducible apply ZC);rfl)|((with_reducible apply ZD);rfl))
          exact SK.retQ rfl (by (repeat constructor)) (fun w' hm' => ⟨1, fun h => absurd (show (1 : Int) = 0 from h) (by decide), rfl, hm'.wk (by (repeat constructor))⟩)
    · by_cases d2 : 0 < n.delay
      · (repeat first|(with_reducible first|apply Za|apply Zb|apply Zc|apply Zd|apply Zi|apply Zk|apply Zm|apply Zo|apply Zp|apply Zr|apply Zs)|((with_reducible first|apply ZI|apply ZJ|apply ZK|apply ZO);rfl;rfl)|((with_reducible first|apply ZU|apply ZX);rfl;rfl;rfl;omega)|((with_reducible first|apply ZY|apply Zqa);rfl;rfl;rfl;omega)|((with_reducible first|apply Zqn|apply Zqo);rfl;rfl;rfl)|((with_reducible apply Zqs);rfl;rfl;rfl)|((with_reducible apply Zqz);rfl;rfl;(focus (repeat constructor));rfl)|((with_reducible apply ZC);rfl)|((with_reducible apply ZD);rfl))
        exact SK.retQ rfl (by (repeat constructor)) (fun w' hm' => ⟨1, fun h => absurd (show (1 : Int) = 0 from h) (by decide), rfl, hm'.wk (by (repeat constructor))⟩)
      · skip
        by_cases t1 : n.tries = 0
        · skip
          rcases hto with ht | ht
          · have ht2 : ¬ (n.to_ ≠ ⟨#[]⟩) := fun h => h ht
            (repeat first|(with_reducible first|apply Za|apply Zb|apply Zc|apply Zd|apply Zi|apply Zl|apply Zo|apply Zp|apply Zr|apply Zs)|((with_reducible first|apply ZI|apply ZJ|apply ZK|apply ZO);rfl;rfl)|((with_reducible apply ZX);rfl;rfl;rfl;omega)|((with_reducible first|apply ZY|apply Zqa|apply Zqc|apply Zqd);rfl;rfl;rfl;omega)|((with_reducible first|apply Zqn|apply Zqo);rfl;rfl;rfl)|((with_reducible apply Zqs);rfl;rfl;rfl)|((with_reducible apply Zqe);rfl;rfl;rfl;assumption)|((with_reducible apply Zqx);rfl;rfl;rfl;rfl)|((with_reducible apply Zqy);rfl;rfl;rfl)|((with_reducible apply Zqz);rfl;rfl;(focus (repeat constructor));rfl)|((with_reducible apply ZD);rfl))
            exact SK.retQ rfl (by (repeat constructor)) (fun w' hm' => ⟨0, fun _ => ⟨p1, p2, p3, fi, by omega, by omega, by omega, by omega, by omega, fun h => absurd h (by omega), fun _ => ht⟩, rfl, hm'.wk (by (repeat constructor))⟩)
          · (repeat first|(with_reducible first|apply Za|apply Zb|apply Zc|apply Zd|apply Zi|apply Zk|apply Zm|apply Zo|apply Zp|apply Zr|apply Zs)|((with_reducible first|apply ZI|apply ZJ|apply ZK|apply ZO);rfl;rfl)|((with_reducible apply ZX);rfl;rfl;rfl;omega)|((with_reducible first|apply ZY|apply Zqa|apply Zqc|apply Zqd);rfl;rfl;rfl;omega)|((with_reducible first|apply Zqn|apply Zqo);rfl;rfl;rfl)|((with_reducible apply Zqs);rfl;rfl;rfl)|((with_reducible apply Zqt);rfl;rfl;rfl;assumption)|((with_reducible apply Zqx);rfl;rfl;rfl;rfl)|((with_reducible apply Zqy);rfl;rfl;rfl)|((with_reducible apply Zqz);rfl;rfl;(focus (repeat constructor));rfl)|((with_reducible apply ZC);rfl)|((with_reducible apply ZD);rfl))
            exact SK.retQ rfl (by (repeat constructor)) (fun w' hm' => ⟨1, fun h => absurd (show (1 : Int) = 0 from h) (by decide), rfl, hm'.wk (by (repeat constructor))⟩)
        · (repeat first|(with_reducible first|apply Za|apply Zb|apply Zc|apply Zd|apply Zi|apply Zk|apply Zm|apply Zo|apply Zp|apply Zr|apply Zs)|((with_reducible first|apply ZI|apply ZJ|apply ZK|apply ZO);rfl;rfl)|((with_reducible apply ZX);rfl;rfl;rfl;omega)|((with_reducible first|apply ZY|apply Zqa|apply Zqc);rfl;rfl;rfl;omega)|((with_reducible first|apply Zqn|apply Zqo);rfl;rfl;rfl)|((with_reducible apply Zqs);rfl;rfl;rfl)|((with_reducible apply Zqx);rfl;rfl;rfl;rfl)|((with_reducible apply Zqy);rfl;rfl;rfl)|((with_reducible apply Zqz);rfl;rfl;(focus (repeat constructor));rfl)|((with_reducible apply ZC);rfl)|((with_reducible apply ZD);rfl))
          exact SK.retQ rfl (by (repeat constructor)) (fun w' hm' => ⟨1, fun h => absurd (show (1 : Int) = 0 from h) (by decide), rfl, hm'.wk (by (repeat constructor))⟩)
    · by_cases d2 : 0 < n.delay
      · (repeat first|(with_reducible first|apply Za|apply Zb|apply Zc|apply Zd|apply Zi|apply Zk|apply Zm|apply Zo|apply Zp|apply Zr|apply Zs)|((with_reducible first|apply ZI|apply ZJ|apply ZK|apply ZO);rfl;rfl)|((with_reducible first|apply ZU|apply ZX);rfl;rfl;rfl;omega)|((with_reducible first|apply ZY|apply Zqa);rfl;rfl;rfl;omega)|((with_reducible first|apply Zqn|apply Zqo);rfl;rfl;rfl)|((with_reducible apply Zqs);rfl;rfl;rfl)|((with_reducible apply Zqz);rfl;rfl;(focus (repeat constructor));rfl)|((with_reducible apply ZC);rfl)|((with_reducible apply ZD);rfl))
        exact SK.retQ rfl (by (repeat constructor)) (fun w' hm' => ⟨1, fun h => absurd (show (1 : Int) = 0 from h) (by decide), rfl, hm'.wk (by (repeat constructor))⟩)
      · skip
        by_cases t1 : n.tries = 0
        · skip
          rcases hto with ht | ht
          · have ht2 : ¬ (n.to_ ≠ ⟨#[]⟩) := fun h => h ht
            (repeat first|(with_reducible first|apply Za|apply Zb|apply Zc|apply Zd|apply Zi|apply Zl|apply Zo|apply Zp|apply Zr|apply Zs)|((with_reducible first|apply ZI|apply ZJ|apply ZK|apply ZO);rfl;rfl)|((with_reducible apply ZX);rfl;rfl;rfl;omega)|((with_reducible first|apply ZY|apply Zqa|apply Zqc|apply Zqd);rfl;rfl;rfl;omega)|((with_reducible first|apply Zqn|apply Zqo);rfl;rfl;rfl)|((with_reducible apply Zqs);rfl;rfl;rfl)|((with_reducible apply Zqe);rfl;rfl;rfl;assumption)|((with_reducible apply Zqx);rfl;rfl;rfl;rfl)|((with_reducible apply Zqy);rfl;rfl;rfl)|((with_reducible apply Zqz);rfl;rfl;(focus (repeat constructor));rfl)|((with_reducible apply ZD);rfl))
            exact SK.retQ rfl (by (repeat constructor)) (fun w' hm' => ⟨0, fun _ => ⟨p1, p2, p3, fi, by omega, by omega, by omega, by omega, by omega, fun h => absurd h (by omega), fun _ => ht⟩, rfl, hm'.wk (by (repeat constructor))⟩)
          · (repeat first|(with_reducible first|apply Za|apply Zb|apply Zc|apply Zd|apply Zi|apply Zk|apply Zm|apply Zo|apply Zp|apply Zr|apply Zs)|((with_reducible first|apply ZI|apply ZJ|apply ZK|apply ZO);rfl;rfl)|((with_reducible apply ZX);rfl;rfl;rfl;omega)|((with_reducible first|apply ZY|apply Zqa|apply Zqc|apply Zqd);rfl;rfl;rfl;omega)|((with_reducible first|apply Zqn|apply Zqo);rfl;rfl;rfl)|((with_reducible apply Zqs);rfl;rfl;rfl)|((with_reducible apply Zqt);rfl;rfl;rfl;assumption)|((with_reducible apply Zqx);rfl;rfl;rfl;rfl)|((with_reducible apply Zqy);rfl;rfl;rfl)|((with_reducible apply Zqz);rfl;rfl;(focus (repeat constructor));rfl)|((with_reducible apply ZC);rfl)|((with_reducible apply ZD);rfl))
            exact SK.retQ rfl (by (repeat constructor)) (fun w' hm' => ⟨1, fun h => absurd (show (1 : Int) = 0 from h) (by decide), rfl, hm'.wk (by (repeat constructor))⟩)
        · (repeat first|(with_reducible first|apply Za|apply Zb|apply Zc|apply Zd|apply Zi|apply Zk|apply Zm|apply Zo|apply Zp|apply Zr|apply Zs)|((with_reducible first|apply ZI|apply ZJ|apply ZK|apply ZO);rfl;rfl)|((with_reducible apply ZX);rfl;rfl;rfl;omega)|((with_reducible first|apply ZY|apply Zqa|apply Zqc);rfl;rfl;rfl;omega)|((with_reducible first|apply Zqn|apply Zqo);rfl;rfl;rfl)|((with_reducible apply Zqs);rfl;rfl;rfl)|((with_reducible apply Zqx);rfl;rfl;rfl;rfl)|((with_reducible apply Zqy);rfl;rfl;rfl)|((with_reducible apply Zqz);rfl;rfl;(focus (repeat constructor));rfl)|((with_reducible apply ZC);rfl)|((with_reducible apply ZD);rfl))
          exact SK.retQ rfl (by (repeat constructor)) (fun w' hm' => ⟨1, fun h => absurd (show (1 : Int) = 0 from h) (by decide), rfl, hm'.wk (by (repeat constructor))⟩)
    · by_cases d2 : 0 < n.delay
      · (repeat first|(with_reducible first|apply Za|apply Zb|apply Zc|apply Zd|apply Zi|apply Zk|apply Zm|apply Zo|apply Zp|apply Zr|apply Zs)|((with_reducible first|apply ZI|apply ZJ|apply ZK|apply ZO);rfl;rfl)|((with_reducible first|apply ZU|apply ZX);rfl;rfl;rfl;omega)|((with_reducible first|apply ZY|apply Zqa);rfl;rfl;rfl;omega)|((with_reducible first|apply Zqn|apply Zqo);rfl;rfl;rfl)|((with_reducible apply Zqs);rfl;rfl;rfl)|((with_reducible apply Zqz);rfl;rfl;(focus (repeat constructor));rfl)|((with_reducible apply ZC);rfl)|((with_reducible apply ZD);rfl))
        exact SK.retQ rfl (by (repeat constructor)) (fun w' hm' => ⟨1, fun h => absurd (show (1 : Int) = 0 from h) (by decide), rfl, hm'.wk (by (repeat constructor))⟩)
      · skip
        by_cases t1 : n.tries = 0
        · skip
          (repeat first|(with_reducible first|apply Za|apply Zb|apply Zc|apply Zd|apply Zi|apply Zl|apply Zo|apply Zp|apply Zr|apply Zs)|((with_reducible first|apply ZI|apply ZJ|apply ZK|apply ZO);rfl;rfl)|((with_reducible apply ZX);rfl;rfl;rfl;omega)|((with_reducible first|apply ZY|apply Zqa|apply Zqc|apply Zqd);rfl;rfl;rfl;omega)|((with_reducible first|apply Zqn|apply Zqo);rfl;rfl;rfl)|((with_reducible apply Zqs);rfl;rfl;rfl)|((with_reducible apply Zqx);rfl;rfl;rfl;rfl)|((with_reducible apply Zqy);rfl;rfl;rfl)|((with_reducible apply Zqz);rfl;rfl;(focus (repeat constructor));rfl)|((with_reducible apply ZD);rfl))
          exact SK.retQ rfl (by (repeat constructor)) (fun w' hm' => ⟨0, fun _ => ⟨p1, p2, p3, fi, by omega, by omega, by omega, by omega, by omega, fun h => absurd h (by omega), fun h => absurd k h⟩, rfl, hm'.wk (by (repeat constructor))⟩)
        · (repeat first|(with_reducible first|apply Za|apply Zb|apply Zc|apply Zd|apply Zi|apply Zk|apply Zm|apply Zo|apply Zp|apply Zr|apply Zs)|((with_reducible first|apply ZI|apply ZJ|apply ZK|apply ZO);rfl;rfl)|((with_reducible apply ZX);rfl;rfl;rfl;omega)|((with_reducible first|apply ZY|apply Zqa|apply Zqc);rfl;rfl;rfl;omega)|((with_reducible first|apply Zqn|apply Zqo);rfl;rfl;rfl)|((with_reducible apply Zqs);rfl;rfl;rfl)|((with_reducible apply Zqx);rfl;rfl;rfl;rfl)|((with_reducible apply Zqy);rfl;rfl;rfl)|((with_reducible apply Zqz);rfl;rfl;(focus (repeat constructor));rfl)|((with_reducible apply ZC);rfl)|((with_reducible apply ZD);rfl))
          exact SK.retQ rfl (by (repeat constructor)) (fun w' hm' => ⟨1, fun h => absurd (show (1 : Int) = 0 from h) (by decide), rfl, hm'.wk (by (repeat constructor))⟩)
inductive Seqd (D : Df) : List Nat → Prop
  | nil : Seqd D []
  | snoc {l : List Nat} {i : Nat} {n : Nd} (h : Seqd D l) (hi : i ∉ l) (hn : D.nodes[i]? = some n) (hm : metL D.nodes i n (fun k => decide (k ∈ l)) = true) : Seqd D (l ++ [i])
theorem Seqd.lt {D : Df} {l : List Nat} (h : Seqd D l) : (∀ i ∈ l, i < D.nodes.length) ∧ l.Nodup := by
  induction h with
  | nil => exact ⟨by simp, List.nodup_nil⟩
  | snoc h hi hn hm ih =>
    refine ⟨fun i hmem => ?_, ?_⟩
    · rcases List.mem_append.1 hmem with hx | hx
      · exact ih.1 i hx
      · rw [List.mem_singleton] at hx
        subst hx
        exact (List.getElem?_eq_some_iff.1 hn).1
    · rw [List.nodup_append]
      exact ⟨ih.2, by simp, fun a ha b hb => by
        rw [List.mem_singleton] at hb
        subst hb
        exact fun e => hi (e ▸ ha)⟩
theorem nodup_le {l : List Nat} {n : Nat} (h : l.Nodup) (hl : ∀ i ∈ l, i < n) : l.length ≤ n := by
  have : l.length ≤ (List.range n).length := List.Nodup.length_le_of_subset h fun i hi => List.mem_range.2 (hl i hi)
  simpa using this
theorem nodup_lt {l : List Nat} {n i : Nat} (h : l.Nodup) (hl : ∀ j ∈ l, j < n) (hi : i < n) (hn : i ∉ l) : l.length < n := by
  have := nodup_le (l := l ++ [i]) (n := n) (by
    rw [List.nodup_append]
    exact ⟨h, by simp, fun a ha b hb => by rw [List.mem_singleton] at hb; subst hb; exact fun e => hn (e ▸ ha)⟩) (fun j hj => by
    rcases List.mem_append.1 hj with hj | hj
    · exact hl j hj
    · rw [List.mem_singleton] at hj; subst hj; exact hi)
  rw [List.length_append, List.length_singleton] at this
  omega
theorem val_slC {k n : Nat} {xs : List Value} {o : OwnD} (ho : o.ok n k xs) : ∃ A cap, o.val n = .slice A n cap := by
  cases o with
  | none => have h0 : n = 0 := ho.2; exact ⟨none, 0, by rw [h0]; rfl⟩
  | some q => exact ⟨_, _, rfl⟩
def marks (n : Nat) (l : List Nat) : List Bool := (List.range n).map fun i => decide (i ∈ l)
theorem marks_len (n : Nat) (l : List Nat) : (marks n l).length = n := by simp [marks]
theorem marks_get {n i : Nat} (l : List Nat) (hi : i < n) : (marks n l)[i]? = some (decide (i ∈ l)) := by simp [marks, hi]
theorem marks_getD (n : Nat) (l : List Nat) (hl : ∀ i ∈ l, i < n) (k : Nat) : (marks n l).getD k false = decide (k ∈ l) := by
  rw [List.getD_eq_getElem?_getD]
  by_cases hk : k < n
  · rw [marks_get l hk]; rfl
  · rw [List.getElem?_eq_none (by rw [marks_len]; omega)]
    have : k ∉ l := fun h => hk (hl k h)
    simp [this]
theorem marks_set {n i : Nat} (l : List Nat) (hi : i < n) : (marks n l).set i true = marks n (l ++ [i]) := by
  apply List.ext_getElem?
  intro k
  by_cases hk : k < n
  · rw [marks_get _ hk]
    by_cases hki : k = i
    · subst hki
      rw [List.getElem?_set_self (by rw [marks_len]; exact hk)]
      simp
    · rw [List.getElem?_set_ne (Ne.symm hki), marks_get _ hk]
      simp [hki]
  · rw [List.getElem?_eq_none (by rw [List.length_set, marks_len]; omega), List.getElem?_eq_none (by rw [marks_len]; omega)]
theorem marks_nil (n : Nat) : (List.replicate n [Value.bool false]).flatten = (marks n []).flatMap boolC := by
  rw [flat_repB]
  congr 1
  apply List.ext_getElem?
  intro k
  by_cases hk : k < n
  · rw [marks_get _ hk]; simp [hk]
  · rw [List.getElem?_eq_none (by simp; omega), List.getElem?_eq_none (by rw [marks_len]; omega)]
set_option maxRecDepth 100000 in
set_option maxHeartbeats 8000000 in
theorem order51 (dv : Value) (D : Df) (w : World) (hd : RDf (Vw w []) dv D) (hn : D.nodes.length ≤ 64) (haf : ∀ n ∈ D.nodes, n.after.length < 9223372036854775807) :
    Calls Try.prog 51 [dv].toArray w (Ret w [] (fun y : OwnD × List Nat => Seqd D y.2) (fun y => .tuple #[y.1.val y.2.length, .bool (decide (y.2.length = D.nodes.length))]) (fun y => [y.1.ent (y.2.flatMap natC) 3])) := by
  obtain ⟨A, cap, rfl, hnds⟩ := hd.nds
  refine enter0 Try.func51 rfl Try.ntmps51 rfl ?_
  (repeat first|(with_reducible first|apply Za|apply Zb|apply Zc|apply Zd|apply Zi|apply Zs)|((with_reducible first|apply ZJ|apply ZK|apply ZM);rfl;rfl)|((with_reducible apply Zqz);rfl;rfl;(focus (repeat constructor));rfl)|((with_reducible apply Zrf);rfl;rfl;intro _))
  refine SK.makeS (z := [.bool false]) rfl rfl rfl rfl (by omega) (by omega) (fun b11 => ?_)
  rw [marks_nil]
  (repeat first|(with_reducible first|apply Za|apply Zb|apply Zc|apply Zd|apply Zi|apply Zr|apply Zs)|((with_reducible apply ZJ);rfl;rfl))
  rename_i b1
  refine SK.loopW (fun g : OwnD × List Nat => [(5, g.1.val g.2.length), (4, .slice (some ⟨b11, 0, none⟩) D.nodes.length D.nodes.length), (1, .pointer (some ⟨b1, 0, none⟩))])
    (fun g => [some (b1, [.string D.name, .slice A D.nodes.length cap], 24), some (b11, (marks D.nodes.length g.2).flatMap boolC, 4), g.1.ent (g.2.flatMap natC) 3])
    (fun g => Seqd D g.2 ∧ g.1.ok g.2.length 1 (g.2.flatMap natC)) (fun g => D.nodes.length - g.2.length) (none, []) ⟨.nil, rfl, rfl⟩ (by (repeat constructor)) (by (repeat constructor)) ?_
  rintro ⟨oL, l⟩ ⟨hsq, hoL⟩
  dsimp only at hsq hoL ⊢
  obtain ⟨hlt, hnd⟩ := hsq.lt
  have hlen := nodup_le hnd hlt
  have esub : IntKind.i64.wrap ((D.nodes.length : Int) - 1) = (D.nodes.length : Int) - 1 := wrap64_in (by omega) (by omega)
  (repeat first|(with_reducible first|apply Za|apply Zb|apply Zc|apply Zd|apply Zi|apply Zr)|((with_reducible first|apply ZJ|apply ZK|apply ZM);rfl;rfl)|((with_reducible apply Zqz);rfl;rfl;(focus (repeat constructor));rfl))
  refine SK.isub rfl rfl rfl ?_
  rw [esub]
  (repeat first|(with_reducible first|apply Zc|apply Zd|apply Zi|apply Zr)|((with_reducible apply ZJ);rfl;rfl))
  refine SK.loopW (fun g : Nat × Option Nat => [(7, .int .i64 ((g.1 : Int) - 1)), (6, .int .i64 (ixV g.2)), (5, oL.val l.length), (4, .slice (some ⟨b11, 0, none⟩) D.nodes.length D.nodes.length), (1, .pointer (some ⟨b1, 0, none⟩))])
    (fun _ => [some (b1, [.string D.name, .slice A D.nodes.length cap], 24), some (b11, (marks D.nodes.length l).flatMap boolC, 4), oL.ent (l.flatMap natC) 3])
    (fun g => g.1 ≤ D.nodes.length ∧ ∀ j, g.2 = some j → j < D.nodes.length ∧ j ∉ l ∧ ∃ n, D.nodes[j]? = some n ∧ metL D.nodes j n (fun k => decide (k ∈ l)) = true) (fun g => g.1) (D.nodes.length, none) ⟨Nat.le_refl _, fun j h => by cases h⟩ (by (repeat constructor)) (by (repeat constructor)) ?_
  rintro ⟨k, nx⟩ ⟨hk, hnx⟩
  dsimp only at hk hnx ⊢
  by_cases h0 : k = 0
  · subst h0
    cases nx with
    | none =>
      simp only [ixV]
      obtain ⟨vL, cL, hvL⟩ := val_slC hoL
      by_cases hall : l.length = D.nodes.length
      · (repeat first|(with_reducible first|apply Za|apply Zb|apply Zc|apply Zd|apply Zi|apply Zj|apply Zn|apply Zq)|((with_reducible apply ZI);rfl;rfl)|((with_reducible apply ZS);rfl;rfl;rfl;omega)|((with_reducible apply Zqb);rfl;rfl;rfl;omega)|((with_reducible first|apply Zz|apply ZC);rfl)|((with_reducible apply ZD);rfl)|refine Yi 10 i51_10 (by kernel_rfl) ?_)
        refine SK.slot (j := 35) rfl hvL ?_
        (repeat first|(with_reducible first|apply Ze|apply Zi|apply Zk|apply Zm|apply Zp)|((with_reducible first|apply ZJ|apply ZK|apply ZM);rfl;rfl)|((with_reducible apply ZW);rfl;rfl;rfl;omega)|((with_reducible apply Zqz);rfl;rfl;(focus (repeat constructor));rfl)|((with_reducible apply Zz);rfl))
        exact SK.retQ rfl (by (repeat constructor)) (fun w' hm' => ⟨(oL, l), hsq, by dsimp only; rw [decide_eq_true hall]; rfl, hm'.wk (by (repeat constructor))⟩)
      · (repeat first|(with_reducible first|apply Za|apply Zb|apply Zc|apply Zd|apply Zi|apply Zj|apply Zn|apply Zq)|((with_reducible apply ZI);rfl;rfl)|((with_reducible apply ZS);rfl;rfl;rfl;omega)|((with_reducible apply Zqb);rfl;rfl;rfl;omega)|((with_reducible first|apply Zz|apply ZC);rfl)|((with_reducible apply ZD);rfl)|refine Yi 10 i51_10 (by kernel_rfl) ?_)
        refine SK.slot (j := 35) rfl hvL ?_
        (repeat first|(with_reducible first|apply Ze|apply Zi|apply Zk|apply Zm|apply Zp)|((with_reducible first|apply ZJ|apply ZK|apply ZM);rfl;rfl)|((with_reducible apply Zqc);rfl;rfl;rfl;omega)|((with_reducible apply Zqz);rfl;rfl;(focus (repeat constructor));rfl)|((with_reducible apply Zz);rfl))
        exact SK.retQ rfl (by (repeat constructor)) (fun w' hm' => ⟨(oL, l), hsq, by dsimp only; rw [decide_eq_false hall]; rfl, hm'.wk (by (repeat constructor))⟩)
    | some j =>
      obtain ⟨hjn, hjl, nd, hnd2, hmet⟩ := hnx j rfl
      simp only [ixV]
      have hst := bst (l := marks D.nodes.length l) (i := j) (by rw [marks_len]; exact hjn) true
      rw [marks_set l hjn] at hst
      (repeat first|(with_reducible first|apply Za|apply Zb|apply Zc|apply Zd|apply Zi|apply Zj|apply Zn|apply Zo|apply Zq|apply Zs)|((with_reducible refine Yz ?_);first|((with_reducible apply SK.indexAddr); rfl; rfl; rfl; exact hjn)|((with_reducible apply SK.store1); rfl; rfl; rfl; (focus (repeat (first | exact Upd.head _ | apply Upd.tail))); with_reducible exact hst)|((with_reducible apply ZI);rfl;rfl)|((with_reducible first|apply ZY|apply Zqb);rfl;rfl;rfl;omega)|((with_reducible apply Zrd);rfl;rfl;rfl;rfl;rfl;rfl;rfl;intro _))|((with_reducible apply ZD);rfl))
      refine SK.appendP (o := oL) (xs := l.flatMap natC) (news := [.int .i64 (j : Int)]) (m := 1) rfl rfl hoL rfl (by (repeat constructor)) (Src.mem (by (repeat constructor)) rfl) rfl rfl rfl rfl (by unfold maxLen; omega) (by omega) (fun o1 ho1 _ => ?_)
      (repeat first|(with_reducible first|apply Zc|apply Zd|apply Zi|apply Zl|apply Zs)|((with_reducible apply ZJ);rfl;rfl))
      have hlt2 := nodup_lt hnd hlt hjn hjl
      refine SK.roundW (o1, l ++ [j]) ⟨.snoc hsq hjl hnd2 hmet, by dsimp only; rw [nat_flat_snoc, List.length_append]; exact ho1⟩ (by dsimp only; rw [List.length_append, List.length_singleton]; omega) (by dsimp only; rw [List.length_append]; (repeat constructor)) (by dsimp only; rw [nat_flat_snoc]; (repeat constructor))
  · obtain ⟨k', rfl⟩ : ∃ k', k = k' + 1 := ⟨k - 1, by omega⟩
    have hk' : k' < D.nodes.length := by omega
    obtain ⟨nd, hnd2⟩ : ∃ nd, D.nodes[k']? = some nd := ⟨_, List.getElem?_eq_getElem hk'⟩
    have ek : (((k' + 1 : Nat) : Int) - 1) = (k' : Int) := by omega
    have esub2 : IntKind.i64.wrap ((k' : Int) - 1) = (k' : Int) - 1 := wrap64_in (by omega) (by omega)
    rw [ek]
    have hldb : nv ((marks D.nodes.length l).flatMap boolC) (0 + k' * 1) = some (.bool (decide (k' ∈ l))) := by
      rw [Nat.zero_add]
      have := flat_nv (f := boolC) (k := 1) bool_len (marks D.nodes.length l) [] k' _ (marks_get l hk') 0 _ rfl
      rwa [List.append_nil, Nat.add_zero] at this
    by_cases hkl : k' ∈ l
    · rw [decide_eq_true hkl] at hldb
      (repeat first|(with_reducible first|apply Za|apply Zb|apply Zc|apply Zd|apply Zi|apply Zl|apply Zo|apply Zr)|((with_reducible refine Yz ?_);first|((with_reducible apply SK.indexAddr); rfl; rfl; rfl; exact hk')|((with_reducible apply SK.load1); rfl; rfl; (focus (repeat (first | exact List.mem_cons_self | apply List.mem_cons_of_mem))); with_reducible exact hldb)|((with_reducible apply ZI);rfl;rfl)|((with_reducible apply ZP);rfl;rfl)|((with_reducible apply ZV);rfl;rfl;rfl;omega)|((with_reducible apply Zqs);rfl;rfl;rfl)|((with_reducible apply Zqx);rfl;rfl;rfl;rfl))|((with_reducible apply ZC);rfl)|((with_reducible apply ZD);rfl))
      refine SK.isub rfl rfl rfl ?_
      rw [esub2]
      (repeat first|(with_reducible first|apply Zc|apply Zd|apply Zi)|((with_reducible apply ZJ);rfl;rfl))
      exact SK.roundW (k', nx) ⟨by omega, hnx⟩ (by dsimp only; omega) (by (repeat constructor)) (by (repeat constructor))
    · rw [decide_eq_false hkl] at hldb
      (repeat first|(with_reducible first|apply Za|apply Zb|apply Zc|apply Zd|apply Zi|apply Zo|apply Zr)|((with_reducible refine Yz ?_);first|((with_reducible apply SK.indexAddr); rfl; rfl; rfl; exact hk')|((with_reducible apply SK.load1); rfl; rfl; (focus (repeat (first | exact List.mem_cons_self | apply List.mem_cons_of_mem))); with_reducible exact hldb)|((with_reducible first|apply ZI|apply ZO);rfl;rfl)|((with_reducible apply ZP);rfl;rfl)|((with_reducible apply ZV);rfl;rfl;rfl;omega)|((with_reducible apply Zra);rfl;rfl;(focus (repeat constructor));rfl))|((with_reducible apply ZC);rfl))
      refine SK.callA (v := .bool (metL D.nodes k' nd fun k => decide (k ∈ l))) rfl rfl (fun w1 g1 g2 => by
        have := may66 _ _ D (marks D.nodes.length l) k' nd w1 (hd.mono g1) hn hnd2 (haf nd (List.mem_of_getElem? hnd2)) (RSl.known (b := b11) (marks_len _ _) (g2 b11 _ _ (by (repeat constructor))))
        simp only [marks_getD D.nodes.length l hlt] at this
        exact this) ?_
      cases hmet : metL D.nodes k' nd fun k => decide (k ∈ l) with
      | true =>
        (repeat first|(with_reducible first|apply Zb|apply Zc|apply Zd|apply Zi|apply Zl|apply Zs)|((with_reducible first|apply ZI|apply ZJ);rfl;rfl)|((with_reducible apply Zqo);rfl;rfl;rfl)|((with_reducible apply ZC);rfl))
        refine SK.isub rfl rfl rfl ?_
        rw [esub2]
        (repeat first|(with_reducible first|apply Zc|apply Zd|apply Zi)|((with_reducible apply ZJ);rfl;rfl))
        exact SK.roundW (k', some k') ⟨by omega, fun j hj => by cases hj; exact ⟨hk', hkl, nd, hnd2, hmet⟩⟩ (by dsimp only; omega) (by (repeat constructor)) (by (repeat constructor))
      | false =>
        (repeat first|(with_reducible first|apply Zb|apply Zc|apply Zd|apply Zi|apply Zl|apply Zo|apply Zs)|((with_reducible apply ZI);rfl;rfl)|((with_reducible apply Zqo);rfl;rfl;rfl)|((with_reducible apply ZD);rfl))
        refine SK.isub rfl rfl rfl ?_
        rw [esub2]
        (repeat first|(with_reducible first|apply Zc|apply Zd|apply Zi)|((with_reducible apply ZJ);rfl;rfl))
        exact SK.roundW (k', nx) ⟨by omega, hnx⟩ (by dsimp only; omega) (by (repeat constructor)) (by (repeat constructor))
structure Taken (D : Df) : Prop where
  nm : nameL D.name false 64 = true
  ne : 1 ≤ D.nodes.length
  le : D.nodes.length ≤ 32
  nd : ∀ i n, D.nodes[i]? = some n → NodeOK D i n
  af : ∀ n ∈ D.nodes, ∀ s ∈ n.after, (fI D.nodes s).isSome = true
  sq : ∃ l, Seqd D l ∧ l.length = D.nodes.length
theorem nameL_size {s : ByteArray} {sl : Bool} {m : Nat} (h : nameL s sl m = true) : 1 ≤ s.size ∧ s.size ≤ m := by
  unfold nameL at h
  simp only [Bool.and_eq_true, decide_eq_true_eq] at h
  exact ⟨h.1.2, h.2⟩
theorem fI_self {l : List Nd} {i j : Nat} {n : Nd} (hn : l[i]? = some n) (h : fI l n.name = some j) : j ≤ i := by
  unfold fI at h
  rw [List.findIdx?_eq_some_iff_getElem] at h
  obtain ⟨hlt, _, h3⟩ := h
  refine Nat.le_of_not_lt fun hlt2 => ?_
  obtain ⟨hi, he⟩ := List.getElem?_eq_some_iff.1 hn
  have := h3 i hlt2
  rw [he] at this
  simp at this
theorem Taken.ok {D : Df} (h : Taken D) (haf : ∀ n ∈ D.nodes, n.after.length < 9223372036854775807) : DefOK D := by
  refine ⟨h.ne, h.le, fun n hn => ?_, fun i n hn => ?_, fun n hn => ?_, haf⟩
  · obtain ⟨i, hi⟩ := List.getElem?_of_mem hn
    exact (h.nd i n hi).kd
  · have hnd := h.nd i n hn
    cases hf : fI D.nodes n.name with
    | none =>
      unfold fI at hf
      rw [List.findIdx?_eq_none_iff] at hf
      have := hf n (List.mem_of_getElem? hn)
      simp at this
    | some j =>
      have h1 := hnd.fi j hf
      have h2 := fI_self hn hf
      rw [show j = i by omega]
  · obtain ⟨i, hi⟩ := List.getElem?_of_mem hn
    exact (nameL_size (h.nd i n hi).nm).2
set_option maxRecDepth 100000 in
set_option maxHeartbeats 8000000 in
theorem check37 (dv : Value) (D : Df) (w : World) (hd : RDf (Vw w []) dv D) (hT : Texts D) :
    Calls Try.prog 37 [dv].toArray w (Ret w [] (fun y : Int × Int => y.2 = 0 → Taken D) (fun y => .tuple #[.int .i64 y.1, .int .i64 y.2]) (fun _ => [])) := by
  obtain ⟨A, cap, rfl, hnds⟩ := hd.nds
  obtain ⟨tx1, tx2, tx3⟩ := id hT
  refine enter0 Try.func37 rfl Try.ntmps37 rfl ?_
  (repeat first|(with_reducible first|apply Za|apply Zb|apply Zc|apply Zd|apply Zi|apply Zs)|((with_reducible first|apply ZJ|apply ZK);rfl;rfl)|((with_reducible apply Zqz);rfl;rfl;(focus (repeat constructor));rfl)|((with_reducible apply Zrf);rfl;rfl;intro _))
  rename_i b1
  refine SK.callA rfl rfl (fun w1 g1 _ => name49 D.name w1 tx1) ?_
  cases hnm : nameL D.name false 64 with
  | false =>
    (repeat first|(with_reducible first|apply Za|apply Zb|apply Zc|apply Zd|apply Zi|apply Zk|apply Zp|apply Zs)|((with_reducible apply ZJ);rfl;rfl)|((with_reducible apply ZP);rfl;rfl)|((with_reducible apply ZC);rfl))
    exact SK.retQ rfl (by (repeat constructor)) (fun w' hm' => ⟨(-1, 17), fun h => absurd (show (17 : Int) = 0 from h) (by decide), rfl, hm'.wk (by (repeat constructor))⟩)
  | true =>
    by_cases h0 : D.nodes.length = 0
    · (repeat first|(with_reducible first|apply Za|apply Zb|apply Zc|apply Zd|apply Zi|apply Zk|apply Zo|apply Zp|apply Zs)|((with_reducible first|apply ZI|apply ZJ|apply ZK|apply ZM);rfl;rfl)|((with_reducible apply ZP);rfl;rfl)|((with_reducible apply ZW);rfl;rfl;rfl;omega)|((with_reducible apply Zqo);rfl;rfl;rfl)|((with_reducible apply Zqx);rfl;rfl;rfl;rfl)|((with_reducible apply Zqz);rfl;rfl;(focus (repeat constructor));rfl)|((with_reducible apply ZC);rfl)|((with_reducible apply ZD);rfl))
      exact SK.retQ rfl (by (repeat constructor)) (fun w' hm' => ⟨(-1, 10), fun h => absurd (show (10 : Int) = 0 from h) (by decide), rfl, hm'.wk (by (repeat constructor))⟩)
    by_cases h32 : 32 < D.nodes.length
    · (repeat first|(with_reducible first|apply Za|apply Zb|apply Zc|apply Zd|apply Zi|apply Zk|apply Zo|apply Zp|apply Zs)|((with_reducible first|apply ZI|apply ZJ|apply ZK|apply ZM|apply ZO);rfl;rfl)|((with_reducible apply ZP);rfl;rfl)|((with_reducible apply ZU);rfl;rfl;rfl;omega)|((with_reducible apply Zqc);rfl;rfl;rfl;omega)|((with_reducible apply Zqs);rfl;rfl;rfl)|((with_reducible apply Zqz);rfl;rfl;(focus (repeat constructor));rfl)|((with_reducible apply ZC);rfl)|((with_reducible apply ZD);rfl))
      exact SK.retQ rfl (by (repeat constructor)) (fun w' hm' => ⟨(-1, 10), fun h => absurd (show (10 : Int) = 0 from h) (by decide), rfl, hm'.wk (by (repeat constructor))⟩)
    have hdn : D.nodes.length ≤ 64 := by omega
    (repeat first|(with_reducible first|apply Za|apply Zb|apply Zc|apply Zd|apply Zi|apply Zo|apply Zr|apply Zs)|((with_reducible first|apply ZI|apply ZJ|apply ZK|apply ZM|apply ZO);rfl;rfl)|((with_reducible apply ZP);rfl;rfl)|((with_reducible first|apply Zqa|apply Zqc);rfl;rfl;rfl;omega)|((with_reducible apply Zqs);rfl;rfl;rfl)|((with_reducible apply Zqz);rfl;rfl;(focus (repeat constructor));rfl)|((with_reducible apply ZD);rfl))
    refine SK.loopW (fun i : Nat => [(4, .int .i64 (i : Int)), (1, .pointer (some ⟨b1, 0, none⟩))]) (fun _ => [some (b1, [.string D.name, .slice A D.nodes.length cap], 24)])
      (fun i => i ≤ D.nodes.length ∧ ∀ j n, j < i → D.nodes[j]? = some n → NodeOK D j n) (fun i => D.nodes.length - i) 0 ⟨Nat.zero_le _, fun j _ hj => absurd hj (Nat.not_lt_zero j)⟩ (by (repeat constructor)) (by (repeat constructor)) ?_
    rintro i ⟨hi, hall⟩
    by_cases hil : i < D.nodes.length
    · obtain ⟨n, hn⟩ : ∃ n, D.nodes[i]? = some n := ⟨_, List.getElem?_eq_getElem hil⟩
      (repeat first|(with_reducible first|apply Za|apply Zb|apply Zc|apply Zd|apply Zi|apply Zo|apply Zr)|((with_reducible first|apply ZI|apply ZK|apply ZM);rfl;rfl)|((with_reducible apply ZS);rfl;rfl;rfl;omega)|((with_reducible first|apply Zqz|apply Zra);rfl;rfl;(focus (repeat constructor));rfl)|((with_reducible apply ZC);rfl))
      refine SK.callO rfl rfl (fun w1 g1 _ => checkNode50 _ D i n w1 (hd.mono g1) hT hn) ?_
      intro e he
      by_cases he0 : e = 0
      · (repeat first|(with_reducible first|apply Za|apply Zb|apply Zc|apply Zd|apply Zi|apply Zl|apply Zo|apply Zs)|((with_reducible first|apply ZI|apply ZJ);rfl;rfl)|((with_reducible apply ZR);rfl;rfl;rfl;omega)|((with_reducible apply Zqd);rfl;rfl;rfl;omega)|((with_reducible apply ZD);rfl))
        exact SK.roundW (i + 1) ⟨by omega, fun j m hj hm => by
          by_cases hji : j = i
          · subst hji; rw [hn] at hm; cases hm; exact he he0
          · exact hall j m (by omega) hm⟩ (by omega) (by (repeat constructor)) (by (repeat constructor))
      · (repeat first|(with_reducible first|apply Za|apply Zb|apply Zc|apply Zd|apply Zi|apply Zk|apply Zm|apply Zp|apply Zs)|((with_reducible first|apply ZI|apply ZJ);rfl;rfl)|((with_reducible apply ZX);rfl;rfl;rfl;omega)|((with_reducible apply ZC);rfl))
        exact SK.retQ rfl (by (repeat constructor)) (fun w' hm' => ⟨((i : Int), e), fun h => absurd h he0, rfl, hm'.wk (by (repeat constructor))⟩)
    · (repeat first|(with_reducible first|apply Za|apply Zb|apply Zc|apply Zd|apply Zi|apply Zj|apply Zn|apply Zq|apply Zr)|((with_reducible first|apply ZI|apply ZJ|apply ZK|apply ZM);rfl;rfl)|((with_reducible apply ZY);rfl;rfl;rfl;omega)|((with_reducible apply Zqz);rfl;rfl;(focus (repeat constructor));rfl)|((with_reducible apply ZD);rfl))
      refine SK.loopW (fun i : Nat => [(6, .int .i64 (i : Int)), (1, .pointer (some ⟨b1, 0, none⟩))]) (fun _ => [some (b1, [.string D.name, .slice A D.nodes.length cap], 24)])
        (fun i => i ≤ D.nodes.length ∧ ∀ j n, j < i → D.nodes[j]? = some n → ∀ s ∈ n.after, (fI D.nodes s).isSome = true) (fun i => D.nodes.length - i) 0 ⟨Nat.zero_le _, fun j _ hj => absurd hj (Nat.not_lt_zero j)⟩ (by (repeat constructor)) (by (repeat constructor)) ?_
      rintro i2 ⟨hi2, hall2⟩
      by_cases hil2 : i2 < D.nodes.length
      · obtain ⟨n, hn⟩ : ∃ n, D.nodes[i2]? = some n := ⟨_, List.getElem?_eq_getElem hil2⟩
        have hna := (tx3 n (List.mem_of_getElem? hn)).2.2.2
        obtain ⟨bd, o, av, rfl, hnd2⟩ := hnds i2 n hn
        obtain ⟨A2, cap2, rfl, haf⟩ := hnd2.1.open (k := 1) (fun _ => rfl)
        have hcell := hnd2.2
        (repeat first|(with_reducible first|apply Za|apply Zb|apply Zc|apply Zd|apply Zi|apply Zo|apply Zr)|((with_reducible refine Yz ?_);first|((with_reducible apply SK.indexAddr); rfl; rfl; rfl; exact hil2)|((with_reducible apply SK.load1R); rfl; rfl; exact hcell 6 _ rfl)|((with_reducible first|apply ZI|apply ZJ|apply ZK|apply ZM);rfl;rfl)|((with_reducible apply ZS);rfl;rfl;rfl;omega)|((with_reducible apply Zqm);rfl;rfl;rfl)|((with_reducible apply Zqz);rfl;rfl;(focus (repeat constructor));rfl))|((with_reducible apply ZC);rfl))
        refine SK.loopW (fun k : Nat => [(8, .int .i64 (k : Int)), (7, .slice A2 n.after.length cap2), (6, .int .i64 (i2 : Int)), (1, .pointer (some ⟨b1, 0, none⟩))]) (fun _ => [some (b1, [.string D.name, .slice (some ⟨bd, o, none⟩) D.nodes.length cap], 24)])
          (fun k => k ≤ n.after.length ∧ ∀ (j : Nat) (s : ByteArray), j < k → n.after[j]? = some s → (fI D.nodes s).isSome = true) (fun k => n.after.length - k) 0 ⟨Nat.zero_le _, fun j _ hj => absurd hj (Nat.not_lt_zero j)⟩ (by (repeat constructor)) (by (repeat constructor)) ?_
        rintro k ⟨hk, hkall⟩
        by_cases hkl : k < n.after.length
        · obtain ⟨s, hs⟩ : ∃ s, n.after[k]? = some s := ⟨_, List.getElem?_eq_getElem hkl⟩
          obtain ⟨b4, o4, rfl, hsc⟩ := haf k s hs (by omega)
          have hsc0 := hsc 0 _ rfl
          (repeat first|(with_reducible first|apply Za|apply Zb|apply Zc|apply Zd|apply Zi|apply Zo|apply Zr)|((with_reducible refine Yz ?_);first|((with_reducible apply SK.indexAddr); rfl; rfl; rfl; exact hkl)|((with_reducible apply SK.load1R); rfl; rfl; exact hsc0)|((with_reducible first|apply ZI|apply ZM);rfl;rfl)|((with_reducible apply ZS);rfl;rfl;rfl;omega)|((with_reducible apply Zra);rfl;rfl;(focus (repeat constructor));rfl))|((with_reducible first|apply Zz|apply ZC);rfl)|refine Yi 18 i37_18 (by kernel_rfl) ?_)
          refine SK.callA rfl rfl (fun w1 g1 _ => find21 _ D s w1 (hd.mono g1) tx2) ?_
          unfold findV
          cases hf : fI D.nodes s with
          | none =>
            (repeat first|(with_reducible first|apply Za|apply Zb|apply Zc|apply Zd|apply Ze|apply Zi|apply Zk|apply Zm|apply Zp|apply Zs)|((with_reducible first|apply ZI|apply ZJ);rfl;rfl)|((with_reducible apply ZP);rfl;rfl)|((with_reducible apply Zqn);rfl;rfl;rfl)|((with_reducible first|apply Zz|apply ZC);rfl))
            exact SK.retQ rfl (by (repeat constructor)) (fun w' hm' => ⟨((i2 : Int), 6), fun h => absurd (show (6 : Int) = 0 from h) (by decide), rfl, hm'.wk (by (repeat constructor))⟩)
          | some j =>
            (repeat first|(with_reducible first|apply Za|apply Zb|apply Zc|apply Zd|apply Ze|apply Zi|apply Zl|apply Zo|apply Zs)|((with_reducible first|apply ZI|apply ZJ);rfl;rfl)|((with_reducible apply ZP);rfl;rfl)|((with_reducible apply ZR);rfl;rfl;rfl;omega)|((with_reducible apply Zqn);rfl;rfl;rfl)|((with_reducible apply Zz);rfl)|((with_reducible apply ZD);rfl))
            exact SK.roundW (k + 1) ⟨by omega, fun j' s' hj' hs' => by
              by_cases hjk : j' = k
              · subst hjk; rw [hs] at hs'; cases hs'; rw [hf]; rfl
              · exact hkall j' s' (by omega) hs'⟩ (by omega) (by (repeat constructor)) (by (repeat constructor))
        · (repeat first|(with_reducible first|apply Za|apply Zb|apply Zc|apply Zd|apply Zi|apply Zj|apply Zn|apply Zq|apply Zr)|((with_reducible first|apply ZI|apply ZJ|apply ZM);rfl;rfl)|((with_reducible apply ZY);rfl;rfl;rfl;omega)|((with_reducible apply ZD);rfl))
          refine SK.loopW (fun k : Nat => [(11, .int .i64 (k : Int)), (7, .slice A2 n.after.length cap2), (6, .int .i64 (i2 : Int)), (1, .pointer (some ⟨b1, 0, none⟩))]) (fun _ => [some (b1, [.string D.name, .slice (some ⟨bd, o, none⟩) D.nodes.length cap], 24)])
            (fun k => k ≤ n.after.length) (fun k => n.after.length - k) 0 (Nat.zero_le _) (by (repeat constructor)) (by (repeat constructor)) ?_
          intro k2 hk2
          by_cases hkl2 : k2 < n.after.length
          · obtain ⟨s, hs⟩ : ∃ s, n.after[k2]? = some s := ⟨_, List.getElem?_eq_getElem hkl2⟩
            obtain ⟨b4, o4, rfl, hsc⟩ := haf k2 s hs (by omega)
            have hsc0 := hsc 0 _ rfl
            (repeat first|(with_reducible first|apply Za|apply Zb|apply Zc|apply Zd|apply Zi|apply Zo|apply Zr)|((with_reducible first|apply ZI|apply ZJ|apply ZM);rfl;rfl)|((with_reducible apply ZS);rfl;rfl;rfl;omega)|((with_reducible apply ZC);rfl))
            refine SK.loopW (fun j : Nat => [(12, .int .i64 (j : Int)), (11, .int .i64 (k2 : Int)), (7, .slice (some ⟨b4, o4, none⟩) n.after.length cap2), (6, .int .i64 (i2 : Int)), (1, .pointer (some ⟨b1, 0, none⟩))]) (fun _ => [some (b1, [.string D.name, .slice (some ⟨bd, o, none⟩) D.nodes.length cap], 24)])
              (fun j => j ≤ k2) (fun j => k2 - j) 0 (Nat.zero_le _) (by (repeat constructor)) (by (repeat constructor)) ?_
            intro j hj
            by_cases hjl : j < k2
            · have hjl3 : j < n.after.length := by omega
              obtain ⟨s3, hs3⟩ : ∃ s, n.after[j]? = some s := ⟨_, List.getElem?_eq_getElem hjl3⟩
              obtain ⟨b5, o5, he5, hsc3⟩ := haf j s3 hs3 (by omega)
              injection he5 with he5
              injection he5 with e5 e6 _
              subst e5; subst e6
              have hsc30 := hsc3 0 _ rfl
              by_cases hss : s3 = s
              · (repeat first|(with_reducible first|apply Za|apply Zb|apply Zc|apply Zd|apply Ze|apply Zi|apply Zk|apply Zm|apply Zo|apply Zp|apply Zr)|((with_reducible refine Yz ?_);first|((with_reducible apply SK.indexAddr); rfl; rfl; rfl; first | exact hjl3 | exact hkl2)|((with_reducible apply SK.load1R); rfl; rfl; first | exact hsc0 | exact hsc30)|((with_reducible first|apply ZI|apply ZJ);rfl;rfl)|((with_reducible apply ZS);rfl;rfl;rfl;omega)|((with_reducible apply Zqf);rfl;rfl;rfl;assumption))|((with_reducible first|apply Zz|apply ZC);rfl)|refine Yi 27 i37_27 (by kernel_rfl) ?_)
                exact SK.retQ rfl (by (repeat constructor)) (fun w' hm' => ⟨((i2 : Int), 16), fun h => absurd (show (16 : Int) = 0 from h) (by decide), rfl, hm'.wk (by (repeat constructor))⟩)
              · (repeat first|(with_reducible first|apply Za|apply Zb|apply Zc|apply Zd|apply Ze|apply Zi|apply Zl|apply Zo|apply Zr)|((with_reducible refine Yz ?_);first|((with_reducible apply SK.indexAddr); rfl; rfl; rfl; first | exact hjl3 | exact hkl2)|((with_reducible apply SK.load1R); rfl; rfl; first | exact hsc0 | exact hsc30)|((with_reducible first|apply ZI|apply ZJ);rfl;rfl)|((with_reducible first|apply ZR|apply ZS);rfl;rfl;rfl;omega)|((with_reducible apply Zqu);rfl;rfl;rfl;assumption))|((with_reducible first|apply Zz|apply ZC);rfl)|((with_reducible apply ZD);rfl)|refine Yi 27 i37_27 (by kernel_rfl) ?_)
                exact SK.roundW (j + 1) (by omega) (by omega) (by (repeat constructor)) (by (repeat constructor))
            · (repeat first|(with_reducible first|apply Za|apply Zb|apply Zc|apply Zd|apply Zi|apply Zj|apply Zl|apply Zn|apply Zq)|((with_reducible first|apply ZI|apply ZJ);rfl;rfl)|((with_reducible apply ZR);rfl;rfl;rfl;omega)|((with_reducible apply ZY);rfl;rfl;rfl;omega)|((with_reducible apply ZD);rfl))
              exact SK.roundW (k2 + 1) (by omega) (by omega) (by (repeat constructor)) (by (repeat constructor))
          · (repeat first|(with_reducible first|apply Za|apply Zb|apply Zc|apply Zd|apply Zi|apply Zj|apply Zl|apply Zn|apply Zq)|((with_reducible first|apply ZI|apply ZJ|apply ZM);rfl;rfl)|((with_reducible apply ZR);rfl;rfl;rfl;omega)|((with_reducible apply ZY);rfl;rfl;rfl;omega)|((with_reducible apply ZD);rfl))
            exact SK.roundW (i2 + 1) ⟨by omega, fun j m hj hm s hs => by
              by_cases hji : j = i2
              · subst hji
                rw [hn] at hm; cases hm
                obtain ⟨q, hq⟩ := List.getElem?_of_mem hs
                exact hkall q s (by have := (List.getElem?_eq_some_iff.1 hq).1; omega) hq
              · exact hall2 j m (by omega) hm s hs⟩ (by omega) (by (repeat constructor)) (by (repeat constructor))
      · (repeat first|(with_reducible first|apply Za|apply Zb|apply Zc|apply Zd|apply Zi|apply Zj|apply Zn|apply Zq)|((with_reducible first|apply ZI|apply ZK|apply ZM);rfl;rfl)|((with_reducible apply ZY);rfl;rfl;rfl;omega)|((with_reducible first|apply Zqz|apply Zra);rfl;rfl;(focus (repeat constructor));rfl)|((with_reducible apply ZD);rfl))
        refine SK.callO rfl rfl (fun w1 g1 _ => order51 _ D w1 (hd.mono g1) hdn (fun n hn => (tx3 n hn).2.2.2)) ?_
        rintro ⟨oL, l⟩ hsq
        dsimp only at hsq ⊢
        by_cases hl : l.length = D.nodes.length
        · rw [decide_eq_true hl]
          (repeat first|(with_reducible first|apply Za|apply Zb|apply Zc|apply Zd|apply Zi|apply Zo|apply Zp|apply Zs)|((with_reducible first|apply ZI|apply ZJ);rfl;rfl)|((with_reducible apply ZP);rfl;rfl)|((with_reducible apply Zqn);rfl;rfl;rfl)|((with_reducible apply ZD);rfl))
          exact SK.retQ rfl (by (repeat constructor)) (fun w' hm' => ⟨(-1, 0), fun _ => ⟨hnm, by omega, by omega, fun j n hn => hall j n (by have := (List.getElem?_eq_some_iff.1 hn).1; omega) hn, fun n hn s hs => by
            obtain ⟨j, hj⟩ := List.getElem?_of_mem hn
            exact hall2 j n (by have := (List.getElem?_eq_some_iff.1 hj).1; omega) hj s hs, l, hsq, hl⟩, rfl, hm'.wk (by (repeat constructor))⟩)
        · rw [decide_eq_false hl]
          (repeat first|(with_reducible first|apply Za|apply Zb|apply Zc|apply Zd|apply Zi|apply Zk|apply Zp|apply Zs)|((with_reducible first|apply ZI|apply ZJ);rfl;rfl)|((with_reducible apply ZP);rfl;rfl)|((with_reducible apply Zqn);rfl;rfl;rfl)|((with_reducible apply ZC);rfl))
          exact SK.retQ rfl (by (repeat constructor)) (fun w' hm' => ⟨(-1, 15), fun h => absurd (show (15 : Int) = 0 from h) (by decide), rfl, hm'.wk (by (repeat constructor))⟩)
end Go.Proofs.Ytdnjfmgldkommaa
