/- Proved here: nodes that are ready, copies of a state. -/
import Derived.Test.YtdnjfmgldkommaaFa
namespace Go.Proofs.Ytdnjfmgldkommaa
open Go.Sx
def upTo (l : List Nd) (over begun : List Bool) (i : Nat) : List Nat := (List.range i).filter (mayB l over begun)
theorem upTo_yes {l : List Nd} {over begun : List Bool} {i : Nat} (h : mayB l over begun i = true) : upTo l over begun (i + 1) = upTo l over begun i ++ [i] := by
  simp [upTo, List.range_succ, List.filter_append, h]
theorem upTo_no {l : List Nd} {over begun : List Bool} {i : Nat} (h : mayB l over begun i = false) : upTo l over begun (i + 1) = upTo l over begun i := by
  simp [upTo, List.range_succ, List.filter_append, h]
theorem upTo_le (l : List Nd) (over begun : List Bool) (i : Nat) : (upTo l over begun i).length ≤ i := by
  have := List.length_filter_le (mayB l over begun) (List.range i)
  simpa [upTo] using this
def Ready (f : FuncId) : Prop := ∀ (dv ov bv : Value) (D : Df) (over begun : List Bool) (w : World), RDf (Vw w []) dv D → D.nodes.length ≤ 64 → (∀ x ∈ D.nodes, x.after.length < 9223372036854775807) →
  RSl (Vw w []) ov over.length (over.flatMap boolC) → RSl (Vw w []) bv begun.length (begun.flatMap boolC) →
  Calls Try.prog f [dv, ov, bv].toArray w (Ret w [] (fun o : OwnD => o.ok (readyL D.nodes over begun).length 1 ((readyL D.nodes over begun).flatMap natC)) (fun o => o.val (readyL D.nodes over begun).length)
    (fun o => [o.ent ((readyL D.nodes over begun).flatMap natC) 3]))
theorem upTo_all (l : List Nd) (over begun : List Bool) : upTo l over begun l.length = readyL l over begun := rfl
theorem nat_flat_snoc (l : List Nat) (i : Nat) : (l ++ [i]).flatMap natC = l.flatMap natC ++ [.int .i64 (i : Int)] := by simp
set_option maxRecDepth 100000 in
set_option maxHeartbeats 1000000 in
theorem ready74 : Ready 74 := by
  intro dv ov bv D over begun w hd hn ha hov hbv
  obtain ⟨A, cap, rfl, hnds⟩ := hd.nds
  obtain ⟨Ao, capo, rfl, _⟩ := id hov
  refine enter0 Try.func74 rfl Try.ntmps74 rfl ?_
  (repeat first|(with_reducible first|apply Za|apply Zb|apply Zc|apply Zd|apply Zi|apply Zr|apply Zs)|((with_reducible first|apply ZI|apply ZJ|apply ZK|apply ZM);rfl;rfl)|((with_reducible apply Zqz);rfl;rfl;(focus (repeat constructor));rfl)|((with_reducible apply Zrb);rfl;rfl;(first|rfl|exact OwnD.plain_val _ _);(focus (repeat constructor));rfl)|((with_reducible apply Zrf);rfl;rfl;intro _)|((with_reducible apply Zrg);rfl;intro _))
  rename_i b3 b4 b7
  refine SK.loopW (α := Nat × OwnD) (fun g => [(13, .int .i64 (g.1 : Int)), (12, .int .i64 (D.nodes.length : Int)), (8, g.2.val (upTo D.nodes over begun g.1).length), (2, bv),
      (3, .pointer (some ⟨b3, 0, none⟩)), (4, .pointer (some ⟨b4, 0, none⟩)), (7, .pointer (some ⟨b7, 0, none⟩))])
    (fun g => [some (b3, [.string D.name, .slice A D.nodes.length cap], 24), some (b4, [.slice Ao over.length capo], 60), some (b7, [.func (.func 94) #[] #[]], 135), g.2.ent ((upTo D.nodes over begun g.1).flatMap natC) 3])
    (fun g => g.1 ≤ D.nodes.length ∧ g.2.ok (upTo D.nodes over begun g.1).length 1 ((upTo D.nodes over begun g.1).flatMap natC)) (fun g => D.nodes.length - g.1) (0, none) ⟨Nat.zero_le _, by simp [OwnD.ok, upTo]⟩ (by (repeat constructor)) (by (repeat constructor)) ?_
  rintro ⟨i, o⟩ ⟨hi, ho⟩
  dsimp only at hi ho ⊢
  have hle := upTo_le D.nodes over begun i
  by_cases hlt : i < D.nodes.length
  · obtain ⟨x, hx⟩ : ∃ x, D.nodes[i]? = some x := ⟨_, List.getElem?_eq_getElem hlt⟩
    (repeat first|(with_reducible first|apply Za|apply Zb|apply Zc|apply Zd|apply Zi|apply Zo|apply Zr)|((with_reducible first|apply ZI|apply ZJ);rfl;rfl)|((with_reducible apply ZS);rfl;rfl;rfl;omega)|((with_reducible apply Zqz);rfl;rfl;(focus (repeat constructor));rfl)|((with_reducible apply ZC);rfl))
    refine SK.callVA rfl rfl rfl (vs := [bv, .int .i64 (i : Int)]) (fun w1 g1 _ => at94 bv begun i w1 (hbv.mono g1)) ?_
    cases hb : begun.getD i false with
    | true =>
      have hno : mayB D.nodes over begun i = false := by simp [mayB, hx]; simp [List.getD] at hb; simp [hb]
      (repeat first|(with_reducible first|apply Zb|apply Zc|apply Zd|apply Zi|apply Zl|apply Zo|apply Zs)|((with_reducible apply ZI);rfl;rfl)|((with_reducible apply ZP);rfl;rfl)|((with_reducible apply ZR);rfl;rfl;rfl;omega)|((with_reducible apply Zqs);rfl;rfl;rfl)|((with_reducible apply Zqx);rfl;rfl;rfl;rfl)|((with_reducible apply ZD);rfl))
      refine SK.roundW (i + 1, o) ⟨by dsimp only; omega, by dsimp only; rw [upTo_no hno]; exact ho⟩ (by dsimp only; omega) (by dsimp only; rw [upTo_no hno]; (repeat constructor)) (by dsimp only; rw [upTo_no hno]; (repeat constructor))
    | false =>
      (repeat first|(with_reducible first|apply Zc|apply Zs)|((with_reducible first|apply ZI|apply ZO);rfl;rfl)|((with_reducible apply ZP);rfl;rfl)|((with_reducible apply Zqp);rfl;rfl;rfl)|((with_reducible apply Zra);rfl;rfl;(focus (repeat constructor));rfl))
      refine SK.callA rfl rfl (fun w1 g1 g2 => met95 _ _ D over i b7 b4 x w1 (hd.mono g1) hn hx (ha x (List.mem_of_getElem? hx)) (hov.mono g1) (g2 _ _ _ (by (repeat constructor)) 0 _ rfl) (g2 _ _ _ (by (repeat constructor)) 0 _ rfl)) ?_
      cases hm : metL D.nodes i x (fun k => over.getD k false) with
      | false =>
        have hno : mayB D.nodes over begun i = false := by simp only [mayB, hx, hm, Bool.and_false]
        (repeat first|(with_reducible first|apply Zb|apply Zc|apply Zd|apply Zi|apply Zl|apply Zo|apply Zs)|((with_reducible apply ZI);rfl;rfl)|((with_reducible apply ZR);rfl;rfl;rfl;omega)|((with_reducible apply Zqo);rfl;rfl;rfl)|((with_reducible apply ZD);rfl))
        refine SK.roundW (i + 1, o) ⟨by dsimp only; omega, by dsimp only; rw [upTo_no hno]; exact ho⟩ (by dsimp only; omega) (by dsimp only; rw [upTo_no hno]; (repeat constructor)) (by dsimp only; rw [upTo_no hno]; (repeat constructor))
      | true =>
        have hyes : mayB D.nodes over begun i = true := by simp only [mayB, hx, hm, hb]; rfl
        (repeat first|(with_reducible first|apply Zb|apply Zc|apply Zd|apply Zi|apply Zs)|((with_reducible apply ZI);rfl;rfl)|((with_reducible apply Zqo);rfl;rfl;rfl)|((with_reducible apply Zrd);rfl;rfl;rfl;rfl;rfl;rfl;rfl;intro _)|((with_reducible apply ZC);rfl))
        rename_i bs
        refine SK.append (o := o) (xs := (upTo D.nodes over begun i).flatMap natC) (news := [.int .i64 (i : Int)]) (m := 1) rfl rfl rfl ho rfl (Src.mem (by (repeat constructor)) rfl) rfl rfl rfl (by decide)
          (fun e => [some (bs, [.int .i64 (i : Int)], 3), some (b3, [.string D.name, .slice A D.nodes.length cap], 24), some (b4, [.slice Ao over.length capo], 60), some (b7, [.func (.func 94) #[] #[]], 135), e]) (fun e => by (repeat constructor)) ?_ ?_ ?_
        · unfold maxLen; omega
        · omega
        · intro o' ho' _
          (repeat first|(with_reducible first|apply Zb|apply Zc|apply Zd|apply Zi|apply Zl|apply Zs)|((with_reducible first|apply ZI|apply ZJ);rfl;rfl)|((with_reducible apply ZR);rfl;rfl;rfl;omega))
          refine SK.roundW (i + 1, o') ⟨by dsimp only; omega, ?_⟩ (by dsimp only; omega) ?_ ?_
          all_goals (dsimp only; rw [upTo_yes hyes])
          · rw [nat_flat_snoc]; simpa using ho'
          · simp only [List.length_append, List.length_cons, List.length_nil]; (repeat constructor)
          · rw [nat_flat_snoc]; (repeat constructor)
  · have : i = D.nodes.length := by omega
    subst this
    (repeat first|(with_reducible first|apply Za|apply Zb|apply Zc|apply Zd|apply Zi|apply Zj|apply Zn|apply Zp|apply Zq)|((with_reducible first|apply ZI|apply ZJ);rfl;rfl)|((with_reducible apply ZY);rfl;rfl;rfl;omega)|((with_reducible apply ZD);rfl))
    exact SK.retQ rfl (by (repeat constructor)) (fun w' hm' => ⟨o, ho, rfl, hm'.wk (by (repeat constructor))⟩)
set_option maxRecDepth 100000 in
set_option maxHeartbeats 1000000 in
theorem ready100 : Ready 100 := by
  intro dv ov bv D over begun w hd hn ha hov hbv
  obtain ⟨A, cap, rfl, hnds⟩ := hd.nds
  obtain ⟨Ao, capo, rfl, _⟩ := id hov
  refine enter0 Try.func100 rfl Try.ntmps100 rfl ?_
  (repeat first|(with_reducible first|apply Za|apply Zb|apply Zc|apply Zd|apply Zi|apply Zr|apply Zs)|((with_reducible apply ZJ);rfl;rfl)|((with_reducible apply Zrf);rfl;rfl;intro _))
  rename_i b3
  refine SK.loopW (α := Nat × OwnD) (fun g => [(8, .int .i64 (g.1 : Int)), (7, g.2.val (upTo D.nodes over begun g.1).length), (2, bv), (1, .slice Ao over.length capo),
      (3, .pointer (some ⟨b3, 0, none⟩))])
    (fun g => [some (b3, [.string D.name, .slice A D.nodes.length cap], 24), g.2.ent ((upTo D.nodes over begun g.1).flatMap natC) 3])
    (fun g => g.1 ≤ D.nodes.length ∧ g.2.ok (upTo D.nodes over begun g.1).length 1 ((upTo D.nodes over begun g.1).flatMap natC)) (fun g => D.nodes.length - g.1) (0, none) ⟨Nat.zero_le _, by simp [OwnD.ok, upTo]⟩ (by (repeat constructor)) (by (repeat constructor)) ?_
  rintro ⟨i, o⟩ ⟨hi, ho⟩
  dsimp only at hi ho ⊢
  have hle := upTo_le D.nodes over begun i
  by_cases hlt : i < D.nodes.length
  · obtain ⟨x, hx⟩ : ∃ x, D.nodes[i]? = some x := ⟨_, List.getElem?_eq_getElem hlt⟩
    (repeat first|(with_reducible first|apply Za|apply Zb|apply Zc|apply Zd|apply Zi|apply Zo|apply Zr)|((with_reducible first|apply ZI|apply ZK|apply ZM);rfl;rfl)|((with_reducible apply ZS);rfl;rfl;rfl;omega)|((with_reducible apply Zqz);rfl;rfl;(focus (repeat constructor));rfl)|((with_reducible apply ZC);rfl))
    refine SK.callA rfl rfl (fun w1 g1 _ => at87 bv begun i w1 (hbv.mono g1)) ?_
    cases hb : begun.getD i false with
    | true =>
      have hno : mayB D.nodes over begun i = false := by simp [mayB, hx]; simp [List.getD] at hb; simp [hb]
      (repeat first|(with_reducible first|apply Zb|apply Zc|apply Zd|apply Zi|apply Zl|apply Zo|apply Zs)|((with_reducible first|apply ZI|apply ZJ);rfl;rfl)|((with_reducible apply ZP);rfl;rfl)|((with_reducible apply ZR);rfl;rfl;rfl;omega)|((with_reducible apply Zqs);rfl;rfl;rfl)|((with_reducible apply Zqx);rfl;rfl;rfl;rfl)|((with_reducible apply ZD);rfl))
      refine SK.roundW (i + 1, o) ⟨by dsimp only; omega, by dsimp only; rw [upTo_no hno]; exact ho⟩ (by dsimp only; omega) (by dsimp only; rw [upTo_no hno]; (repeat constructor)) (by dsimp only; rw [upTo_no hno]; (repeat constructor))
    | false =>
      (repeat first|(with_reducible first|apply Zc|apply Zs)|((with_reducible first|apply ZI|apply ZO);rfl;rfl)|((with_reducible apply ZP);rfl;rfl)|((with_reducible apply Zra);rfl;rfl;(focus (repeat constructor));rfl))
      refine SK.callA rfl rfl (fun w1 g1 _ => may66 _ _ D over i x w1 (hd.mono g1) hn hx (ha x (List.mem_of_getElem? hx)) (hov.mono g1)) ?_
      cases hm : metL D.nodes i x (fun k => over.getD k false) with
      | false =>
        have hno : mayB D.nodes over begun i = false := by simp only [mayB, hx, hm, Bool.and_false]
        (repeat first|(with_reducible first|apply Zb|apply Zc|apply Zd|apply Zi|apply Zl|apply Zo|apply Zs)|((with_reducible first|apply ZI|apply ZJ);rfl;rfl)|((with_reducible apply ZR);rfl;rfl;rfl;omega)|((with_reducible apply Zqo);rfl;rfl;rfl)|((with_reducible apply ZD);rfl))
        refine SK.roundW (i + 1, o) ⟨by dsimp only; omega, by dsimp only; rw [upTo_no hno]; exact ho⟩ (by dsimp only; omega) (by dsimp only; rw [upTo_no hno]; (repeat constructor)) (by dsimp only; rw [upTo_no hno]; (repeat constructor))
      | true =>
        have hyes : mayB D.nodes over begun i = true := by simp only [mayB, hx, hm, hb]; rfl
        (repeat first|(with_reducible first|apply Zb|apply Zc|apply Zd|apply Zi|apply Zs)|((with_reducible apply ZI);rfl;rfl)|((with_reducible apply Zqo);rfl;rfl;rfl)|((with_reducible apply Zrd);rfl;rfl;rfl;rfl;rfl;rfl;rfl;intro _)|((with_reducible apply ZC);rfl))
        rename_i bs
        refine SK.append (o := o) (xs := (upTo D.nodes over begun i).flatMap natC) (news := [.int .i64 (i : Int)]) (m := 1) rfl rfl rfl ho rfl (Src.mem (by (repeat constructor)) rfl) rfl rfl rfl (by decide)
          (fun e => [some (bs, [.int .i64 (i : Int)], 3), some (b3, [.string D.name, .slice A D.nodes.length cap], 24), e]) (fun e => by (repeat constructor)) ?_ ?_ ?_
        · unfold maxLen; omega
        · omega
        · intro o' ho' _
          (repeat first|(with_reducible first|apply Zb|apply Zc|apply Zd|apply Zi|apply Zl|apply Zs)|((with_reducible first|apply ZI|apply ZJ);rfl;rfl)|((with_reducible apply ZR);rfl;rfl;rfl;omega))
          refine SK.roundW (i + 1, o') ⟨by dsimp only; omega, ?_⟩ (by dsimp only; omega) ?_ ?_
          all_goals (dsimp only; rw [upTo_yes hyes])
          · rw [nat_flat_snoc]; simpa using ho'
          · simp only [List.length_append, List.length_cons, List.length_nil]; (repeat constructor)
          · rw [nat_flat_snoc]; (repeat constructor)
  · have : i = D.nodes.length := by omega
    subst this
    (repeat first|(with_reducible first|apply Za|apply Zb|apply Zc|apply Zd|apply Zi|apply Zj|apply Zn|apply Zp|apply Zq)|((with_reducible first|apply ZI|apply ZJ|apply ZK|apply ZM);rfl;rfl)|((with_reducible apply ZY);rfl;rfl;rfl;omega)|((with_reducible apply Zqz);rfl;rfl;(focus (repeat constructor));rfl)|((with_reducible apply ZD);rfl))
    exact SK.retQ rfl (by (repeat constructor)) (fun w' hm' => ⟨o, ho, rfl, hm'.wk (by (repeat constructor))⟩)
theorem RSl.src {w0 : World} {Mod : List Nat} {M : ML} {v : Value} {n : Nat} {cells : List Value} (h : RSl (Vw w0 Mod) v n cells) : ∃ A cap, v = .slice A n cap ∧ Src w0 Mod M A cells ∧ (A = none → cells = []) := by
  obtain ⟨A, cap, h1, h2⟩ := h
  refine ⟨A, cap, h1, ?_, ?_⟩
  · rcases h2 with h2 | ⟨b, o, rfl, h3⟩
    · rw [h2]; exact Src.nil
    · exact Src.view h3
  · intro hA
    rcases h2 with h2 | ⟨b, o, h2, _⟩
    · exact h2
    · rw [hA] at h2; cases h2
def Clone53 : Prop := ∀ (v : Value) (xs : List Value) (nn : Nat) (w : World), RSl (Vw w []) v nn xs → xs.length = nn * 3 → plain xs = true → nn ≤ 100000 →
  Calls Try.prog 53 [v].toArray w (Ret w [] (fun o : OwnD => o.ok nn 3 xs) (fun o => o.val nn) (fun o => [o.ent xs 56]))
set_option maxRecDepth 100000 in
theorem clone53 : Clone53 := by
  intro v xs nn w hv hl hp hb
  obtain ⟨A, cap, rfl, hs, hnil⟩ := hv.src (M := [])
  cases A with
  | none =>
    have hx := hnil rfl
    subst hx
    have hn0 : nn = 0 := by simp only [List.length_nil] at hl; omega
    subst hn0
    refine enter0 Try.func53 rfl Try.ntmps53 rfl ?_
    (repeat first|(with_reducible first|apply Za|apply Zb|apply Zc|apply Zd|apply Zi|apply Zk|apply Zp)|((with_reducible refine Yz ?_);first|((with_reducible apply SK.nilS); rfl; rfl; rfl)|((with_reducible first|apply ZI|apply ZJ);rfl;rfl))|((with_reducible apply ZC);rfl))
    refine SK.retQ rfl (by (repeat constructor)) (fun w' hm' => ⟨none, ⟨rfl, rfl⟩, rfl, hm'.wk (by (repeat constructor))⟩)
  | some a =>
    obtain ⟨_, _, _, hs, _⟩ := hv.src (M := [])
    refine enter0 Try.func53 rfl Try.ntmps53 rfl ?_
    (repeat first|(with_reducible first|apply Za|apply Zb|apply Zc|apply Zd|apply Zi|apply Zo|apply Zs)|((with_reducible refine Yz ?_);first|((with_reducible apply SK.nilS); rfl; rfl; rfl)|((with_reducible first|apply ZI|apply ZJ);rfl;rfl)|((with_reducible apply Zre);rfl;rfl;intro _))|((with_reducible apply ZD);rfl))
    rename_i b
    have hs2 : Src w [] [some (b, [], 56)] (some a) xs := by
      rcases hv with ⟨_, _, h1, h2⟩
      cases h1
      rcases h2 with h2 | ⟨b', o, h2, h3⟩
      · rw [h2]; exact Src.nil
      · cases h2; exact Src.view h3
    refine SK.append (o := some (b, 0, [])) (xs := []) (news := xs) (m := nn) rfl rfl rfl (by simp [OwnD.ok, maxLen]) rfl hs2 hl hp rfl (by decide) (fun e => [e]) (fun e => by (repeat constructor)) ?_ ?_ ?_
    · unfold maxLen; omega
    · omega
    · intro o' ho' _
      simp only [Nat.zero_add, List.nil_append] at *
      (repeat first|(with_reducible first|apply Zc|apply Zd|apply Zi|apply Zp|apply Zs)|((with_reducible apply ZJ);rfl;rfl))
      exact SK.retQ rfl (by (repeat constructor)) (fun w' hm' => ⟨o', ho', rfl, hm'.wk (by (repeat constructor))⟩)
def Clone54 : Prop := ∀ (v : Value) (xs : List Value) (nn : Nat) (w : World), RSl (Vw w []) v nn xs → xs.length = nn * 2 → plain xs = true → nn ≤ 100000 →
  Calls Try.prog 54 [v].toArray w (Ret w [] (fun o : OwnD => o.ok nn 2 xs) (fun o => o.val nn) (fun o => [o.ent xs 100]))
set_option maxRecDepth 100000 in
theorem clone54 : Clone54 := by
  intro v xs nn w hv hl hp hb
  obtain ⟨A, cap, rfl, hs, hnil⟩ := hv.src (M := [])
  cases A with
  | none =>
    have hx := hnil rfl
    subst hx
    have hn0 : nn = 0 := by simp only [List.length_nil] at hl; omega
    subst hn0
    refine enter0 Try.func54 rfl Try.ntmps54 rfl ?_
    (repeat first|(with_reducible first|apply Za|apply Zb|apply Zc|apply Zd|apply Zi|apply Zk|apply Zp)|((with_reducible refine Yz ?_);first|((with_reducible apply SK.nilS); rfl; rfl; rfl)|((with_reducible first|apply ZI|apply ZJ);rfl;rfl))|((with_reducible apply ZC);rfl))
    refine SK.retQ rfl (by (repeat constructor)) (fun w' hm' => ⟨none, ⟨rfl, rfl⟩, rfl, hm'.wk (by (repeat constructor))⟩)
  | some a =>
    obtain ⟨_, _, _, hs, _⟩ := hv.src (M := [])
    refine enter0 Try.func54 rfl Try.ntmps54 rfl ?_
    (repeat first|(with_reducible first|apply Za|apply Zb|apply Zc|apply Zd|apply Zi|apply Zo|apply Zs)|((with_reducible refine Yz ?_);first|((with_reducible apply SK.nilS); rfl; rfl; rfl)|((with_reducible first|apply ZI|apply ZJ);rfl;rfl)|((with_reducible apply Zre);rfl;rfl;intro _))|((with_reducible apply ZD);rfl))
    rename_i b
    have hs2 : Src w [] [some (b, [], 100)] (some a) xs := by
      rcases hv with ⟨_, _, h1, h2⟩
      cases h1
      rcases h2 with h2 | ⟨b', o, h2, h3⟩
      · rw [h2]; exact Src.nil
      · cases h2; exact Src.view h3
    refine SK.append (o := some (b, 0, [])) (xs := []) (news := xs) (m := nn) rfl rfl rfl (by simp [OwnD.ok, maxLen]) rfl hs2 hl hp rfl (by decide) (fun e => [e]) (fun e => by (repeat constructor)) ?_ ?_ ?_
    · unfold maxLen; omega
    · omega
    · intro o' ho' _
      simp only [Nat.zero_add, List.nil_append] at *
      (repeat first|(with_reducible first|apply Zc|apply Zd|apply Zi|apply Zp|apply Zs)|((with_reducible apply ZJ);rfl;rfl))
      exact SK.retQ rfl (by (repeat constructor)) (fun w' hm' => ⟨o', ho', rfl, hm'.wk (by (repeat constructor))⟩)
def Clone47 : Prop := ∀ (v : Value) (xs : List Value) (nn : Nat) (w : World), RSl (Vw w []) v nn xs → xs.length = nn * 4 → plain xs = true → nn ≤ 100000 →
  Calls Try.prog 47 [v].toArray w (Ret w [] (fun o : OwnD => o.ok nn 4 xs) (fun o => o.val nn) (fun o => [o.ent xs 70]))
set_option maxRecDepth 100000 in
theorem clone47 : Clone47 := by
  intro v xs nn w hv hl hp hb
  obtain ⟨A, cap, rfl, hs, hnil⟩ := hv.src (M := [])
  cases A with
  | none =>
    have hx := hnil rfl
    subst hx
    have hn0 : nn = 0 := by simp only [List.length_nil] at hl; omega
    subst hn0
    refine enter0 Try.func47 rfl Try.ntmps47 rfl ?_
    (repeat first|(with_reducible first|apply Za|apply Zb|apply Zc|apply Zd|apply Zi|apply Zk|apply Zp)|((with_reducible refine Yz ?_);first|((with_reducible apply SK.nilS); rfl; rfl; rfl)|((with_reducible first|apply ZI|apply ZJ);rfl;rfl))|((with_reducible apply ZC);rfl))
    refine SK.retQ rfl (by (repeat constructor)) (fun w' hm' => ⟨none, ⟨rfl, rfl⟩, rfl, hm'.wk (by (repeat constructor))⟩)
  | some a =>
    obtain ⟨_, _, _, hs, _⟩ := hv.src (M := [])
    refine enter0 Try.func47 rfl Try.ntmps47 rfl ?_
    (repeat first|(with_reducible first|apply Za|apply Zb|apply Zc|apply Zd|apply Zi|apply Zo|apply Zs)|((with_reducible refine Yz ?_);first|((with_reducible apply SK.nilS); rfl; rfl; rfl)|((with_reducible first|apply ZI|apply ZJ);rfl;rfl)|((with_reducible apply Zre);rfl;rfl;intro _))|((with_reducible apply ZD);rfl))
    rename_i b
    have hs2 : Src w [] [some (b, [], 70)] (some a) xs := by
      rcases hv with ⟨_, _, h1, h2⟩
      cases h1
      rcases h2 with h2 | ⟨b', o, h2, h3⟩
      · rw [h2]; exact Src.nil
      · cases h2; exact Src.view h3
    refine SK.append (o := some (b, 0, [])) (xs := []) (news := xs) (m := nn) rfl rfl rfl (by simp [OwnD.ok, maxLen]) rfl hs2 hl hp rfl (by decide) (fun e => [e]) (fun e => by (repeat constructor)) ?_ ?_ ?_
    · unfold maxLen; omega
    · omega
    · intro o' ho' _
      simp only [Nat.zero_add, List.nil_append] at *
      (repeat first|(with_reducible first|apply Zc|apply Zd|apply Zi|apply Zp|apply Zs)|((with_reducible apply ZJ);rfl;rfl))
      exact SK.retQ rfl (by (repeat constructor)) (fun w' hm' => ⟨o', ho', rfl, hm'.wk (by (repeat constructor))⟩)
theorem ns_len (x : Ns) : (Ns.c x).length = 3 := rfl
theorem sg_len (x : Sg) : (Sg.c x).length = 2 := rfl
theorem ev_len (x : Ev) : (Ev.c x).length = 4 := rfl
theorem tk_len (x : Tk) : (Tk.c x).length = 13 := rfl
theorem ns_plain (l : List Ns) : plain (l.flatMap Ns.c) = true := plain_flat (fun _ => rfl) l
theorem sg_plain (l : List Sg) : plain (l.flatMap Sg.c) = true := plain_flat (fun _ => rfl) l
theorem ev_plain (l : List Ev) : plain (l.flatMap Ev.c) = true := plain_flat (fun _ => rfl) l
theorem tk_plain (l : List Tk) : plain (l.flatMap Tk.c) = true := plain_flat (fun _ => rfl) l
def OSt (S : Sta) (y : OwnD × OwnD) : Prop := y.1.ok S.nodes.length 3 (S.nodes.flatMap Ns.c) ∧ y.2.ok S.sigs.length 2 (S.sigs.flatMap Sg.c)
@[reducible] def stV (S : Sta) (y : OwnD × OwnD) : Value := .agg (S.c (y.1.val S.nodes.length) (y.2.val S.sigs.length)).toArray
@[reducible] def stM (S : Sta) (y : OwnD × OwnD) : ML := [y.1.ent (S.nodes.flatMap Ns.c) 56, y.2.ent (S.sigs.flatMap Sg.c) 100]
def Small (S : Sta) : Prop := S.nodes.length ≤ 64 ∧ S.sigs.length ≤ 1000
def Copied (f : FuncId) : Prop := ∀ (sv : Value) (S : Sta) (w : World), RSt (Vw w []) sv S → Small S → Calls Try.prog f [sv].toArray w (Ret w [] (OSt S) (stV S) (stM S))
set_option maxRecDepth 100000 in
theorem copied42 : Copied 42 := by
  intro sv S w h hs
  obtain ⟨n, s, rfl, hn, hg⟩ := h
  obtain ⟨An, cn, rfl, _⟩ := id hn
  obtain ⟨Ag, cg, rfl, _⟩ := id hg
  refine enter0 Try.func42 rfl Try.ntmps42 rfl ?_
  (repeat first|(with_reducible first|apply Za|apply Zb|apply Zc|apply Zd|apply Zi|apply Zs)|((with_reducible apply ZK);rfl;rfl)|((with_reducible apply Zqz);rfl;rfl;(focus (repeat constructor));rfl)|((with_reducible apply Zrf);rfl;rfl;intro _)|((with_reducible apply Zrg);rfl;intro _)|((with_reducible apply Zz);rfl)|refine Yi 1 i42_1 (by kernel_rfl) ?_)
  refine SK.callO rfl rfl (fun w1 g1 _ => clone53 _ _ _ w1 (hn.mono g1) (flat_len ns_len _) (ns_plain _) (by have := hs.1; omega)) ?_
  intro o1 ho1
  (repeat first|(with_reducible apply Zs)|((with_reducible apply ZK);rfl;rfl)|((with_reducible apply Zz);rfl)|((with_reducible apply ZE);rfl;infer_instance;rfl;(focus (repeat constructor));rfl;rfl))
  refine SK.callO rfl rfl (fun w1 g1 _ => clone54 _ _ _ w1 (hg.mono g1) (flat_len sg_len _) (sg_plain _) (by have := hs.2; omega)) ?_
  intro o2 ho2
  (repeat first|(with_reducible first|apply Za|apply Zb|apply Zc|apply Zd|apply Ze|apply Zi|apply Zp|apply Zs)|((with_reducible apply ZK);rfl;rfl)|((with_reducible apply Zra);rfl;rfl;(focus (repeat constructor));rfl)|((with_reducible apply Zrb);rfl;rfl;(first|rfl|exact OwnD.plain_val _ _);(focus (repeat constructor));rfl)|((with_reducible apply Zrc);rfl;rfl;rfl;exact List.cons_ne_nil _ _;(first|rfl|(repeat first|exact plain_nil|(refine plain_cons (by first|rfl|exact OwnD.plain_val _ _) ?_)));(focus (repeat constructor));rfl)|((with_reducible apply Zz);rfl))
  exact SK.retQ rfl (by (repeat constructor)) (fun w' hm' => ⟨(o1, o2), ⟨ho1, ho2⟩, rfl, hm'.wk (by (repeat constructor))⟩)
set_option maxRecDepth 100000 in
theorem copied45 : Copied 45 := by
  intro sv S w h hs
  obtain ⟨n, s, rfl, hn, hg⟩ := h
  obtain ⟨An, cn, rfl, hsn, _⟩ := hn.src (M := [])
  obtain ⟨Ag, cg, rfl, hsg, _⟩ := hg.src (M := [])
  have hs1 := hs.1
  have hs2 := hs.2
  refine enter0 Try.func45 rfl Try.ntmps45 rfl ?_
  (repeat first|(with_reducible first|apply Za|apply Zb|apply Zc|apply Zd|apply Zi|apply Zs)|((with_reducible apply ZK);rfl;rfl)|((with_reducible apply Zqz);rfl;rfl;(focus (repeat constructor));rfl)|((with_reducible first|apply Zre|apply Zrf);rfl;rfl;intro _)|((with_reducible apply Zrg);rfl;intro _))
  rename_i b1 b2 b3
  refine SK.appendP (o := some (b3, 0, [])) (xs := []) (nn := 0) rfl rfl (by simp [OwnD.ok, maxLen]) rfl (by (repeat constructor)) hsn.of_nil (flat_len ns_len _) (ns_plain _) rfl rfl (by unfold maxLen; omega) (by omega) (fun o1 ho1 _ => ?_)
  simp only [Nat.zero_add, List.nil_append] at ho1 ⊢
  (repeat first|(with_reducible first|apply Za|apply Zb|apply Zc|apply Zd|apply Zi|apply Zs)|((with_reducible apply ZK);rfl;rfl)|((with_reducible apply Zqz);rfl;rfl;(focus (repeat constructor));rfl)|((with_reducible apply Zrb);rfl;rfl;(first|rfl|exact OwnD.plain_val _ _);(focus (repeat constructor));rfl)|((with_reducible apply Zre);rfl;rfl;intro _))
  rename_i b4
  refine SK.appendP (o := some (b4, 0, [])) (xs := []) (nn := 0) rfl rfl (by simp [OwnD.ok, maxLen]) rfl (by (repeat constructor)) hsg.of_nil (flat_len sg_len _) (sg_plain _) rfl rfl (by unfold maxLen; omega) (by omega) (fun o2 ho2 _ => ?_)
  simp only [Nat.zero_add, List.nil_append] at ho2 ⊢
  (repeat first|(with_reducible first|apply Za|apply Zb|apply Zc|apply Zd|apply Zi|apply Zp|apply Zs)|((with_reducible apply ZK);rfl;rfl)|((with_reducible apply Zra);rfl;rfl;(focus (repeat constructor));rfl)|((with_reducible apply Zrb);rfl;rfl;(first|rfl|exact OwnD.plain_val _ _);(focus (repeat constructor));rfl)|((with_reducible apply Zrc);rfl;rfl;rfl;exact List.cons_ne_nil _ _;(first|rfl|(repeat first|exact plain_nil|(refine plain_cons (by first|rfl|exact OwnD.plain_val _ _) ?_)));(focus (repeat constructor));rfl))
  exact SK.retQ rfl (by (repeat constructor)) (fun w' hm' => ⟨(o1, o2), ⟨ho1, ho2⟩, rfl, hm'.wk (by (repeat constructor))⟩)
def kI (l : List Sg) (s : ByteArray) : Option Nat := l.findIdx? fun x => decide (x.name = s)
theorem kI_none {l : List Sg} {s : ByteArray} (h : ∀ (j : Nat) (x : Sg), l[j]? = some x → ¬ x.name = s) : kI l s = none := by
  unfold kI
  rw [List.findIdx?_eq_none_iff]
  intro x hx
  obtain ⟨j, hj⟩ := List.getElem?_of_mem hx
  simpa using h j x hj
theorem kI_some {l : List Sg} {s : ByteArray} {i : Nat} {x : Sg} (hx : l[i]? = some x) (hs : x.name = s) (h : ∀ (j : Nat) (y : Sg), j < i → l[j]? = some y → ¬ y.name = s) : kI l s = some i := by
  unfold kI
  rw [List.findIdx?_eq_some_iff_getElem]
  obtain ⟨hlt, he⟩ := List.getElem?_eq_some_iff.1 hx
  refine ⟨hlt, by rw [he]; simpa using hs, fun j hj => ?_⟩
  have := h j l[j] hj (List.getElem?_eq_getElem (by omega))
  simpa using this
theorem kI_lt {l : List Sg} {s : ByteArray} {i : Nat} (h : kI l s = some i) : ∃ x, l[i]? = some x ∧ x.name = s := by
  unfold kI at h
  rw [List.findIdx?_eq_some_iff_getElem] at h
  obtain ⟨hlt, he, _⟩ := h
  exact ⟨l[i], List.getElem?_eq_getElem hlt, by simpa using he⟩
set_option maxRecDepth 100000 in
theorem kept1 (x : Sg) (bn : Nat) (s : ByteArray) (w : World) (hb : Vw w [] bn 0 (.string s)) :
    Ans 99 [.agg (x.c).toArray, .pointer (some ⟨bn, 0, none⟩)] w (.bool (dc (x.name = s))) := by
  refine enter0 Try.func99 rfl Try.ntmps99 rfl ?_
  (repeat first|(with_reducible first|apply Za|apply Zb|apply Zc|apply Zd|apply Zi|apply Zp|apply Zs)|((with_reducible refine Yz ?_);first|((with_reducible apply SK.load1R); rfl; rfl; exact hb)|((with_reducible first|apply ZJ|apply ZK);rfl;rfl)|((with_reducible apply Zqv);rfl;rfl;rfl)|((with_reducible apply Zqz);rfl;rfl;(focus (repeat constructor));rfl)|((with_reducible apply Zrf);rfl;rfl;intro _)))
  exact SK.retQ rfl (by (repeat constructor)) (fun w' hm' => ⟨(), trivial, rfl, hm'.wk (by (repeat constructor))⟩)
set_option maxRecDepth 100000 in
theorem indexSg (v : Value) (l : List Sg) (bn : Nat) (s : ByteArray) (w : World) (hb : Vw w [] bn 0 (.string s)) (hl : RSl (Vw w []) v l.length (l.flatMap Sg.c)) (hn : l.length < 9223372036854775807) :
    Ans 98 [v, .func (.func 99) #[] #[.pointer (some ⟨bn, 0, none⟩)]] w (.int .i64 (ixV (kI l s))) := by
  obtain ⟨A, cap, rfl, hc⟩ := hl.open sg_len
  refine enter0 Try.func98 rfl Try.ntmps98 rfl ?_
  (repeat first|(with_reducible first|apply Za|apply Zb|apply Zc|apply Zd|apply Zi|apply Zr)|((with_reducible first|apply ZI|apply ZJ|apply ZM);rfl;rfl))
  refine SK.loopW (fun i : Nat => [(0, .slice A l.length cap), (1, .func (.func 99) #[] #[.pointer (some ⟨bn, 0, none⟩)]), (7, .int .i64 (l.length : Int)), (8, .int .i64 (i : Int))]) (fun _ => [])
    (fun i => i ≤ l.length ∧ ∀ (j : Nat) (x : Sg), j < i → l[j]? = some x → ¬ x.name = s) (fun i => l.length - i) 0 ⟨Nat.zero_le _, by omega⟩ (by (repeat constructor)) (by (repeat constructor)) ?_
  rintro i ⟨hi, hno⟩
  by_cases hlt : i < l.length
  · obtain ⟨x, hx⟩ : ∃ x, l[i]? = some x := ⟨_, List.getElem?_eq_getElem hlt⟩
    obtain ⟨b, o, rfl, hcell⟩ := hc i x hx (by omega)
    (repeat first|(with_reducible first|apply Za|apply Zb|apply Zc|apply Zd|apply Zi|apply Zo|apply Zr)|((with_reducible refine Yz ?_);first|((with_reducible apply SK.indexAddr); rfl; rfl; rfl; exact hlt)|((with_reducible apply SK.loadAR); rfl; rfl; exact hcell; rfl)|((with_reducible first|apply ZI|apply ZJ);rfl;rfl)|((with_reducible apply ZS);rfl;rfl;rfl;omega))|((with_reducible apply ZC);rfl))
    refine SK.callV rfl rfl rfl [] [] (by (repeat constructor)) (fun _ : Unit => True) (fun _ => .bool (dc (x.name = s))) (fun _ => []) (vs := [.agg (x.c).toArray]) (fun w1 hm1 hv1 _ => ?_) ?_
    · have := kept1 x bn s w1 (hv1 _ _ _ hb)
      simpa [Ans] using this
    rintro - -
    (repeat first|(with_reducible first|apply Zd|apply Zi|apply Zs))
    apply SK.condP rfl
    · intro hs
      (repeat first|(with_reducible first|apply Za|apply Zb|apply Zc|apply Zd|apply Zi|apply Zk|apply Zm|apply Zp)|((with_reducible first|apply ZI|apply ZJ);rfl;rfl))
      exact SK.retQ rfl (by (repeat constructor)) (fun w' hm' => ⟨(), trivial, by rw [kI_some hx hs hno]; rfl, hm'.wk (by (repeat constructor))⟩)
    · intro hs
      (repeat first|(with_reducible first|apply Zb|apply Zc|apply Zd|apply Zi|apply Zl|apply Zo)|((with_reducible apply ZI);rfl;rfl)|((with_reducible apply ZR);rfl;rfl;rfl;omega))
      exact SK.roundW (i + 1) ⟨by omega, fun j y hj hy => by
        by_cases hji : j = i
        · subst hji; rw [hx] at hy; cases hy; exact hs
        · exact hno j y (by omega) hy⟩ (by omega) (by (repeat constructor)) (by (repeat constructor))
  · (repeat first|(with_reducible first|apply Za|apply Zb|apply Zc|apply Zd|apply Zi|apply Zj|apply Zn|apply Zp|apply Zq)|((with_reducible apply ZJ);rfl;rfl)|((with_reducible apply ZY);rfl;rfl;rfl;omega)|((with_reducible apply ZD);rfl))
    exact SK.retQ rfl (by (repeat constructor)) (fun w' hm' => ⟨(), trivial, by rw [kI_none (fun j x hx => hno j x (by have := (List.getElem?_eq_some_iff.1 hx).1; omega) hx)]; rfl, hm'.wk (by (repeat constructor))⟩)
set_option maxRecDepth 100000 in
theorem kept85 (sv : Value) (S : Sta) (s : ByteArray) (w : World) (h : RSt (Vw w []) sv S) (hn : S.sigs.length < 9223372036854775807) :
    Ans 85 [sv, .string s] w (.int .i64 (ixV (kI S.sigs s))) := by
  obtain ⟨n, g, rfl, _, hg⟩ := h
  refine enter0 Try.func85 rfl Try.ntmps85 rfl ?_
  (repeat first|(with_reducible first|apply Za|apply Zb|apply Zc|apply Zd|apply Zi|apply Zs)|((with_reducible first|apply ZJ|apply ZK);rfl;rfl)|((with_reducible apply Zqp);rfl;rfl;rfl)|((with_reducible apply Zqz);rfl;rfl;(focus (repeat constructor));rfl)|((with_reducible apply Zrf);rfl;rfl;intro _))
  refine SK.callA rfl rfl (vs := [g, .func (.func 99) #[] #[.pointer (some ⟨_, 0, none⟩)]]) (fun w1 h1 h2 => indexSg g S.sigs _ s w1 (h2 _ _ _ (by (repeat constructor)) 0 _ rfl) (hg.mono h1) hn) ?_
  (repeat first|(with_reducible first|apply Zc|apply Zd|apply Zi|apply Zp|apply Zs)|((with_reducible apply ZJ);rfl;rfl))
  exact SK.retQ rfl (by (repeat constructor)) (fun w' hm' => ⟨(), trivial, rfl, hm'.wk (by (repeat constructor))⟩)
set_option maxRecDepth 100000 in
theorem kept46 (sv : Value) (S : Sta) (s : ByteArray) (w : World) (h : RSt (Vw w []) sv S) (hn : S.sigs.length < 9223372036854775807) :
    Ans 46 [sv, .string s] w (.int .i64 (ixV (kI S.sigs s))) := by
  obtain ⟨n, g, rfl, _, hg⟩ := h
  obtain ⟨A, cap, rfl, hc⟩ := hg.open sg_len
  refine enter0 Try.func46 rfl Try.ntmps46 rfl ?_
  (repeat first|(with_reducible first|apply Za|apply Zb|apply Zc|apply Zd|apply Zi|apply Zr|apply Zs)|((with_reducible apply ZJ);rfl;rfl)|((with_reducible apply Zrf);rfl;rfl;intro _))
  rename_i b2
  refine SK.loopW (fun i : Nat => [(5, .int .i64 (i : Int)), (1, .string s), (2, .pointer (some ⟨b2, 0, none⟩))]) (fun _ => [some (b2, S.c n (.slice A S.sigs.length cap), 33)])
    (fun i => i ≤ S.sigs.length ∧ ∀ (j : Nat) (x : Sg), j < i → S.sigs[j]? = some x → ¬ x.name = s) (fun i => S.sigs.length - i) 0 ⟨Nat.zero_le _, by omega⟩ (by (repeat constructor)) (by (repeat constructor)) ?_
  rintro i ⟨hi, hno⟩
  by_cases hlt : i < S.sigs.length
  · obtain ⟨x, hx⟩ : ∃ x, S.sigs[i]? = some x := ⟨_, List.getElem?_eq_getElem hlt⟩
    obtain ⟨b, o, rfl, hcell⟩ := hc i x hx (by omega)
    by_cases hs : x.name = s
    · (repeat first|(with_reducible first|apply Za|apply Zb|apply Zc|apply Zd|apply Zi|apply Zk|apply Zm|apply Zo|apply Zp|apply Zr)|((with_reducible refine Yz ?_);first|((with_reducible apply SK.indexAddr); rfl; rfl; rfl; exact hlt)|((with_reducible apply SK.load1R); rfl; rfl; exact hcell 0 _ rfl)|((with_reducible first|apply ZI|apply ZJ|apply ZK|apply ZM);rfl;rfl)|((with_reducible apply ZS);rfl;rfl;rfl;omega)|((with_reducible apply Zqm);rfl;rfl;rfl)|((with_reducible apply Zqf);rfl;rfl;rfl;assumption)|((with_reducible apply Zqz);rfl;rfl;(focus (repeat constructor));rfl))|((with_reducible apply ZC);rfl))
      exact SK.retQ rfl (by (repeat constructor)) (fun w' hm' => ⟨(), trivial, by rw [kI_some hx hs hno]; rfl, hm'.wk (by (repeat constructor))⟩)
    · (repeat first|(with_reducible first|apply Za|apply Zb|apply Zc|apply Zd|apply Zi|apply Zl|apply Zo|apply Zr)|((with_reducible refine Yz ?_);first|((with_reducible apply SK.indexAddr); rfl; rfl; rfl; exact hlt)|((with_reducible apply SK.load1R); rfl; rfl; exact hcell 0 _ rfl)|((with_reducible first|apply ZI|apply ZJ|apply ZK|apply ZM);rfl;rfl)|((with_reducible first|apply ZR|apply ZS);rfl;rfl;rfl;omega)|((with_reducible apply Zqm);rfl;rfl;rfl)|((with_reducible apply Zqu);rfl;rfl;rfl;assumption)|((with_reducible apply Zqz);rfl;rfl;(focus (repeat constructor));rfl))|((with_reducible apply ZC);rfl)|((with_reducible apply ZD);rfl))
      exact SK.roundW (i + 1) ⟨by omega, fun j y hj hy => by
        by_cases hji : j = i
        · subst hji; rw [hx] at hy; cases hy; exact hs
        · exact hno j y (by omega) hy⟩ (by omega) (by (repeat constructor)) (by (repeat constructor))
  · (repeat first|(with_reducible first|apply Za|apply Zb|apply Zc|apply Zd|apply Zi|apply Zj|apply Zn|apply Zp|apply Zq)|((with_reducible first|apply ZI|apply ZJ|apply ZK|apply ZM);rfl;rfl)|((with_reducible apply ZY);rfl;rfl;rfl;omega)|((with_reducible apply Zqz);rfl;rfl;(focus (repeat constructor));rfl)|((with_reducible apply ZD);rfl))
    exact SK.retQ rfl (by (repeat constructor)) (fun w' hm' => ⟨(), trivial, by rw [kI_none (fun j x hx => hno j x (by have := (List.getElem?_eq_some_iff.1 hx).1; omega) hx)]; rfl, hm'.wk (by (repeat constructor))⟩)
theorem sl_zero (b o k h m : Nat) : Value.slice (if m = 0 then some ⟨b, o, none⟩ else (some (⟨b, o, none⟩ : Addr)).map (·.add (0 * k))) (h - 0) (m - 0) = .slice (some ⟨b, o, none⟩) h m := by
  split <;> simp [add_lit]
theorem sl_from (b o k l h m : Nat) (hm : m ≠ l) : Value.slice (if m = l then some ⟨b, o, none⟩ else (some (⟨b, o, none⟩ : Addr)).map (·.add (l * k))) (h - l) (m - l) = .slice (some ⟨b, o + l * k, none⟩) (h - l) (m - l) := by
  rw [if_neg hm]; simp [add_lit]
set_option maxRecDepth 100000 in
set_option maxHeartbeats 1000000 in
theorem del86 (b cap k n : Nat) (T x2 D sp : List Value) (hT : T.length = k * 2) (hx2 : x2.length = 2) (hD : D.length = (n - (k + 1)) * 2) (hk : k < n) (hn : n ≤ cap) (hc : cap ≤ maxLen) (hs : n ≤ 100000)
    (hlen : (T ++ (x2 ++ (D ++ sp))).length = cap * 2) (hp : plain D = true) (w : World) (hm : Mem w [b] [some (b, T ++ (x2 ++ (D ++ sp)), 100)] w) :
    Calls Try.prog 86 [.slice (some ⟨b, 0, none⟩) n cap, .int .i64 (k : Int), .int .i64 ((k + 1 : Nat) : Int)].toArray w
      (Ret w [some (b, T ++ (x2 ++ (D ++ sp)), 100)] (fun sp' : List Value => (T ++ D ++ sp').length = cap * 2) (fun _ => .slice (some ⟨b, 0, none⟩) (n - 1) cap) (fun sp' => [some (b, T ++ D ++ sp', 100)])) := by
  refine enterF (M := [some (b, T ++ (x2 ++ (D ++ sp)), 100)]) Try.func86 rfl Try.ntmps86 rfl hm ?_
  (repeat first|(with_reducible first|apply Za|apply Zb|apply Zc|apply Zd|apply Zi|apply Zo)|((with_reducible refine Yz ?_);first|((with_reducible apply SK.sliceOp); rfl; rfl; exact Bd.some _ rfl; exact Bd.some _ rfl; exact Bd.some _ rfl; rfl; omega; omega; omega; rfl)|((with_reducible first|apply ZI|apply ZJ|apply ZM);rfl;rfl)|((with_reducible apply Zqc);rfl;rfl;rfl;omega))|((with_reducible apply Zz);rfl)|((with_reducible apply ZD);rfl)|refine Yi 5 i86_5 (by kernel_rfl) ?_)
  refine SK.sliceOp rfl rfl (Bd.none _) (Bd.some _ rfl) (Bd.none _) rfl (Nat.le_refl _) (by omega) (by omega) (sl_zero _ _ _ _ _) ?_
  (repeat first|((with_reducible apply Zz);rfl)|((with_reducible apply ZI);rfl;rfl))
  have hsp : ∃ e1 e2 sp', (x2 ++ (D ++ sp)).drop D.length = [e1, e2] ++ sp' := by
    have hl : ((x2 ++ (D ++ sp)).drop D.length).length = sp.length + 2 := by simp only [List.length_drop, List.length_append, hx2]; omega
    match h : (x2 ++ (D ++ sp)).drop D.length with
    | [] => rw [h] at hl; simp at hl
    | [a] => rw [h] at hl; simp at hl
    | e1 :: e2 :: r => exact ⟨e1, e2, r, rfl⟩
  obtain ⟨e1, e2, sp', hsp⟩ := hsp
  have hsl : sp'.length = sp.length := by
    have := congrArg List.length hsp
    simp only [List.length_drop, List.length_append, hx2, List.length_cons, List.length_nil] at this
    omega
  have ho : OwnD.ok (some (b, cap, x2 ++ (D ++ sp))) k 2 T := ⟨hT, by omega, hc, hlen⟩
  have hlen' : (T ++ D ++ ([Value.string ⟨#[]⟩, Value.string ⟨#[]⟩] ++ sp')).length = cap * 2 := by
    simp only [List.length_append, hx2, List.length_cons, List.length_nil, hsl] at hlen ⊢
    omega
  have hst : st (T ++ D ++ ([e1, e2] ++ sp')) (0 + (k + (n - (k + 1))) * 2) [.string ⟨#[]⟩, .string ⟨#[]⟩] = some (T ++ D ++ ([Value.string ⟨#[]⟩, Value.string ⟨#[]⟩] ++ sp')) := by
    have := st_append (T ++ D) [e1, e2] [.string ⟨#[]⟩, .string ⟨#[]⟩] sp' rfl
    rw [show (T ++ D).length = 0 + (k + (n - (k + 1))) * 2 from by simp only [List.length_append, hT, hD]; omega] at this
    exact this
  have e1n : n - (k + (n - (k + 1))) = 1 := by omega
  by_cases hlast : k + 1 = n
  · refine SK.sliceOp rfl rfl (Bd.none _) (Bd.none _) (Bd.some _ rfl) rfl (Nat.le_refl _) (by omega) (by omega) rfl ?_
    have hD0 : D = [] := List.eq_nil_of_length_eq_zero (by rw [hD]; omega)
    (repeat first|((with_reducible apply Zz);rfl))
    refine SK.appendX (o := some (b, cap, x2 ++ (D ++ sp))) (xs := T) (news := D) (nn := k) rfl rfl rfl ho rfl (hD0 ▸ Src.nil) hD hp rfl (by decide) (fun e => [e]) (fun e => by (repeat constructor)) (by unfold maxLen; omega) (by omega) ?_
    intro o' ho' _ hroom
    have := hroom b cap _ rfl (by omega)
    subst this
    clear hroom
    (repeat first|(with_reducible first|apply Za|apply Zb|apply Zc|apply Ze|apply Zi|apply Zs)|((with_reducible first|apply ZI|apply ZJ|apply ZM);rfl;rfl)|((with_reducible apply Zz);rfl))
    refine SK.sliceOp rfl rfl (Bd.none _) (Bd.some _ rfl) (Bd.some _ rfl) rfl (Nat.le_refl _) (by omega) (by omega) ((sl_from _ _ _ _ _ _ (by omega)).trans (by rw [e1n])) ?_
    simp only [OwnD.ent, Option.map, hsp]
    (repeat first|(with_reducible apply Zc))
    refine SK.clear1 rfl rfl rfl (by (repeat constructor)) hst ?_
    (repeat first|(with_reducible first|apply Za|apply Zb|apply Zc|apply Zd|apply Zi|apply Zp|apply Zs)|((with_reducible first|apply ZI|apply ZJ);rfl;rfl))
    refine SK.retQ rfl (by (repeat constructor)) (fun w' hm' => ⟨_, hlen', ?_, hm'.wk (by (repeat constructor))⟩)
    simp only [retV, OwnD.val]
    congr 2
    omega
  · have hsrc : sl (T ++ (x2 ++ (D ++ sp))) (0 + (k + 1) * 2) D.length = some D := by
      have := sl_append (T ++ x2) D sp
      rw [show (T ++ x2).length = 0 + (k + 1) * 2 from by simp only [List.length_append, hT, hx2]; omega, List.append_assoc] at this
      exact this
    refine SK.sliceOp rfl rfl (Bd.none _) (Bd.none _) (Bd.some _ rfl) rfl (Nat.le_refl _) (by omega) (by omega) (sl_from _ _ _ _ _ _ (by omega)) ?_
    (repeat first|((with_reducible apply Zz);rfl))
    refine SK.appendX (o := some (b, cap, x2 ++ (D ++ sp))) (xs := T) (news := D) (nn := k) rfl rfl rfl ho rfl (Src.mem (by (repeat constructor)) hsrc) hD hp rfl (by decide) (fun e => [e]) (fun e => by (repeat constructor)) (by unfold maxLen; omega) (by omega) ?_
    intro o' ho' _ hroom
    have := hroom b cap _ rfl (by omega)
    subst this
    clear hroom
    (repeat first|(with_reducible first|apply Za|apply Zb|apply Zc|apply Ze|apply Zi|apply Zs)|((with_reducible first|apply ZI|apply ZJ|apply ZM);rfl;rfl)|((with_reducible apply Zz);rfl))
    refine SK.sliceOp rfl rfl (Bd.none _) (Bd.some _ rfl) (Bd.some _ rfl) rfl (Nat.le_refl _) (by omega) (by omega) ((sl_from _ _ _ _ _ _ (by omega)).trans (by rw [e1n])) ?_
    simp only [OwnD.ent, Option.map, hsp]
    (repeat first|(with_reducible apply Zc))
    refine SK.clear1 rfl rfl rfl (by (repeat constructor)) hst ?_
    (repeat first|(with_reducible first|apply Za|apply Zb|apply Zc|apply Zd|apply Zi|apply Zp|apply Zs)|((with_reducible first|apply ZI|apply ZJ);rfl;rfl))
    refine SK.retQ rfl (by (repeat constructor)) (fun w' hm' => ⟨_, hlen', ?_, hm'.wk (by (repeat constructor))⟩)
    simp only [retV, OwnD.val]
    congr 2
    omega
end Go.Proofs.Ytdnjfmgldkommaa
