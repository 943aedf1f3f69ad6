/- Proved here: a loop over a function, of its own function; States. -/
import Derived.Test.YtdnjfmgldkommaaXb
import Derived.RangeFuncLeaves
open Go.RowKit
namespace Go.Sx
theorem Mem.alloc {w0 : World} {Mod : List Nat} {M : ML} {w : World} (hm : Mem w0 Mod M w) (o : Obj) : Mem w0 Mod M (w.alloc o) := by
  refine ⟨hm.nodup, fun b cs T he => ?_, ?_, fun b hb hbm => ?_, hm.fresh, hm.os, hm.tape, hm.output⟩
  · rw [Below.heap_alloc _ _ _ (hm.lt b (mem_keys.2 ⟨cs, T, he⟩))]; exact hm.blk b cs T he
  · have := hm.size; rw [World.size_alloc]; omega
  · rw [Below.heap_alloc _ _ _ (by have := hm.size; omega)]; exact hm.old b hb hbm
theorem Mem.putF {w0 : World} {Mod : List Nat} {M : ML} {w : World} (hm : Mem w0 Mod M w) {l : Nat} {o : Obj} (o' : Obj) (hl : w.heap[l]? = some o) (hnc : o.isCells = false) (hf : w0.heap.size ≤ l) : Mem w0 Mod M (w.putObj l o') := by
  refine ⟨hm.nodup, fun b cs T he => ?_, by rw [World.putObj_size]; exact hm.size, fun b hb hbm => ?_, hm.fresh, hm.os, hm.tape, hm.output⟩
  · have hb := hm.blk b cs T he
    rw [World.putObj_heap_other (by rintro rfl; rw [hl] at hb; cases hb; cases hnc)]
    exact hb
  · rw [World.putObj_heap_other (by omega)]
    exact hm.old b hb hbm
theorem Mem.calledF {w0 : World} {Mod : List Nat} {Mf Rest N : ML} {w w' : World} {l : Nat} (hm : Mem w0 Mod (Mf ++ Rest) w) (hl : w0.heap.size ≤ l) (hc : Mem w (l :: keys Mf) N w') : Mem w0 Mod N w' := by
  refine ⟨hc.nodup, hc.blk, Nat.le_trans hm.size hc.size, fun b hb hbm => ?_, fun b hb => ?_, hc.os.trans hm.os, hc.tape.trans hm.tape, hc.output.trans hm.output⟩
  · have h1 : b ∉ keys Mf := fun h => by
      have : b ∈ keys (Mf ++ Rest) := by
        obtain ⟨cs, T, he⟩ := mem_keys.1 h
        exact mem_keys.2 ⟨cs, T, List.mem_append_left _ he⟩
      rcases hm.fresh b this with g | g
      · exact hbm g
      · omega
    rw [hc.old b (by have := hm.size; omega) (by simp only [List.mem_cons, not_or]; exact ⟨by omega, h1⟩), hm.old b hb hbm]
  · rcases hc.fresh b hb with g | g
    · rcases List.mem_cons.1 g with g | g
      · exact .inr (by omega)
      · have : b ∈ keys (Mf ++ Rest) := by
          obtain ⟨cs, T, he⟩ := mem_keys.1 g
          exact mem_keys.2 ⟨cs, T, List.mem_append_left _ he⟩
        exact hm.fresh b this
    · exact .inr (by have := hm.size; omega)
def wd (ds : List Deferred) (a : Act) : Act := { a with defers := ds }
section
variable {P : Program} {ops : Array Oper} {Q : Exit → Act → World → Prop} {K : Act → World → Prop} {ds : List Deferred}
theorem wd_put (a : Act) (d : Option Tmp) (v : Value) : (wd ds a).put d v = wd ds (a.put d v) := by
  cases d <;> rfl
theorem eff_wd {o : Oper} {a : Act} {X : Act → World → Prop} {r : Result Next} (h : eff P o a (fun a w => X (wd ds a) w) r) : eff P o (wd ds a) X r := by
  cases r with
  | ok x w' =>
    cases x <;> simp only [eff, wd_put] at h ⊢ <;> exact h
  | halt => exact h
theorem stepE_wd {o : Oper} {chk : List Nat} {a : Act} {w : World} (h : stepE P ops o chk (fun a w => K (wd ds a) w) a w) : stepE P ops o chk K (wd ds a) w := by
  unfold stepE at h ⊢
  split at h
  · rename_i hw
    rw [if_pos (show Region.wanted o (yielded ops (wd ds a).tmps) = true from hw)]
    split at h
    · obtain ⟨v, h1, h2⟩ := h
      exact ⟨v, h1, by rw [wd_put]; exact h2⟩
    · obtain ⟨v, h1, h2⟩ := h
      exact ⟨v, h1, by rw [wd_put]; exact h2⟩
    · exact eff_wd (X := chkE P ops chk K) h
  · rename_i hw
    rw [if_neg (show ¬ Region.wanted o (yielded ops (wd ds a).tmps) = true from hw), wd_put]
    exact h
theorem wpI_wd : ∀ (ord : List Ent) (a : Act) (w : World), wpI P ops ord (fun a w => K (wd ds a) w) a w → wpI P ops ord K (wd ds a) w
  | [], _, _, h => h
  | _ :: r, _, _, ⟨o, ho, h⟩ => ⟨o, ho, stepE_wd (stepE_mono (fun _ h => h) (fun a w h => wpI_wd r a w h) h)⟩
end
section
variable {P : Program} {w0 : World} {Mod : List Nat} {n : Nat} {F : FL} {M : ML} {Q : Exit → Act → World → Prop}
theorem SK.regionId {id : Nat} {ops : Array Oper} {ds : List Deferred} (ord : List Ent) (hm : P.follows .mixedOrders = true) (hok : ordOK ops ord = true) (h : SK w0 Mod n (wpI P ops ord (fun a w => Q .normal (wd ds a) w)) F M) :
    SK w0 Mod n (fun a w => (Code.region id ops true).wp P Q (wd ds a) w) F M := fun a _ hf hm' => wp_region_I hm hok (wpI_wd _ _ _ (h a _ hf hm'.drew))
theorem SK.rangeF {g : Operand} {ps : Array Tmp} {asg bdy : Code} {fid : FuncId} {caps : Array Value} [hT : Fun P fid] (hx : ev F g = some (.func (.func fid) #[] caps)) (Mf Rest N : ML) (hM : Wk M (Mf ++ Rest)) {Y : Type} (q : Y → Prop) (M1 : Y → ML)
    (hcall : ∀ (w : World) (l : Nat) (rec : Loop) (a : Act), Mem w (keys Mf) Mf w → w.heap[l]? = some (.loop rec) → l ∉ keys Mf → rec.state = .ready → rec.pending = none → rec.params = ps → rec.tmps = a.tmps → FOK n F a → rec.assign = asg → rec.body = bdy →
      (∀ b o v, Vw w0 Mod b o v → Vw w (keys Mf) b o v) → (∀ b cs T, some (b, cs, T) ∈ Rest → ∀ o v, nv cs o = some v → Vw w (keys Mf) b o v) →
      Calls P fid (#[Value.func (.yield l) #[] #[]] ++ caps) w (fun e w' => (∃ v, e = .returned v) ∧ ((∃ y, q y ∧ Mem w (keys Mf) (M1 y) w') ∨ (Mem w (l :: keys Mf) N w' ∧ w'.heap[l]? = some (.loop { rec with state := .done, pending := some .ret })))))
    (h1 : ∀ y, q y → ∀ w4 D, Mem w0 Mod (M1 y ++ Rest) w4 → w4.heap[D]? = some (.deferred (some [])) → w0.heap.size ≤ D → SK w4 (keys (M1 y ++ Rest)) n (fun a w => Q .normal (wd [⟨.collected D, #[]⟩] a) w) F (M1 y ++ Rest))
    (h2 : ∀ w4 D a, FOK n F a → Mem w0 Mod N w4 → w4.heap[D]? = some (.deferred (some [])) → w0.heap.size ≤ D → Q .ret (wd [⟨.collected D, #[]⟩] a) w4) :
    SK w0 Mod n ((Code.rangeFunc g ps asg bdy).wp P Q) F M := by
  intro a w hf hm0
  have hm := hm0.wk hM
  refine (wpIn_wide (n := 1)).1 (wpIn_rangeFunc fun fn _ => ?_)
  have hrun := run_enterLoop_outer (P := P) (w := w) fn a.tmps ps asg bdy
  generalize hw1 : (w.alloc (.deferred (some []))).alloc (.loop { state := .ready, pending := none, fn, tmps := a.tmps, params := ps, assign := asg, body := bdy, defers := w.heap.size }) = w1 at hrun
  have hm1 : Mem w0 Mod (Mf ++ Rest) w1 := by rw [← hw1]; exact (hm.alloc _).alloc _
  have hl : w1.heap[w.heap.size + 1]? = some (.loop { state := .ready, pending := none, fn, tmps := a.tmps, params := ps, assign := asg, body := bdy, defers := w.heap.size }) := by
    rw [← hw1]
    have := World.alloc_heap_new (w.alloc (.deferred (some []))) (.loop { state := .ready, pending := none, fn, tmps := a.tmps, params := ps, assign := asg, body := bdy, defers := w.heap.size })
    rwa [World.size_alloc] at this
  have hD : w1.heap[w.heap.size]? = some (.deferred (some [])) := by
    rw [← hw1]
    exact (Below.heap_alloc _ _ _ (by simp)).trans (World.alloc_heap_new w _)
  have hsz := hm.size
  have hself : Mem w1 (keys Mf) Mf w1 := (hm1.part (List.sublist_append_left Mf Rest)).self
  have hlk : w.heap.size + 1 ∉ keys Mf := keys_self hself hl rfl
  have hDk : w.heap.size ∉ keys Mf := keys_self hself hD rfl
  have hlt : w.heap.size + 1 < w1.heap.size := (Array.getElem?_eq_some_iff.1 hl).1
  have hc := hcall w1 _ _ a hself hl hlk rfl rfl rfl rfl hf rfl rfl (fun b o v hv => hm1.vw hv) (fun b cs T hb o v hv => hm1.vwRest hb hv)
  have hok := hT.ok
  have hinv : (invoke (.fn (.func fid) caps) #[Value.func (.yield (w.heap.size + 1)) #[] #[]]).run P w1 = .ok (.enter fid (#[Value.func (.yield (w.heap.size + 1)) #[] #[]] ++ caps)) w1 := by
    cases hfn : P.funcs[fid]? with
    | none => simp [hfn] at hok
    | some fn =>
      simp [hfn] at hok
      have hbody : fn.body.isNone = false := by cases hb : fn.body <;> simp [hb] at hok ⊢
      have hname : ¬ fn.name = "runtime.NumGoroutine" := hok.1
      have hbody2 : ¬ fn.body = none := by intro e; simp [e] at hbody
      simp only [invoke, callFunc, Sem.run_bind, Sem.run_pure, Result.andThen_ok]
      simp [hfn, hbody2, hname]
  refine ⟨_, _, _, ⟨.fn (.func fid) caps, #[Value.func (.yield (w.heap.size + 1)) #[] #[]]⟩, w1, fid, _, w1, hrun, ?_, fun _ _ => trivial, hinv, wide_depth, callsIn_wide.2 (hc.mono fun e w' he => ?_)⟩
  · have he : a.eval g = .func (.func fid) #[] caps := hf.ev hx
    have hk : a.eval (.const (.func (.yield (w.heap.size + 1)) #[] #[])) = .func (.yield (w.heap.size + 1)) #[] #[] := rfl
    simp [rangeCall, resolve, he, hk, Deferred.ofValue]
  · obtain ⟨⟨v, rfl⟩, he⟩ := he
    rcases he with ⟨y, hq, hm2⟩ | ⟨hm2, hl2⟩
    · have hl2 : w'.heap[w.heap.size + 1]? = some (.loop { state := .ready, pending := none, fn, tmps := a.tmps, params := ps, assign := asg, body := bdy, defers := w.heap.size }) := by rw [hm2.old _ hlt hlk, hl]
      have hD2 : w'.heap[w.heap.size]? = some (.deferred (some [])) := by rw [hm2.old _ (by omega) hDk, hD]
      refine ⟨_, _, run_endLoop hl2 (by simp), ?_⟩
      have hm3 := (hm1.called hm2).putF (.loop { state := .exhausted, pending := none, fn, tmps := a.tmps, params := ps, assign := asg, body := bdy, defers := w.heap.size }) hl2 rfl (by omega)
      have hD3 := hD2
      rw [← World.putObj_heap_other (w := w') (o := .loop { state := .exhausted, pending := none, fn, tmps := a.tmps, params := ps, assign := asg, body := bdy, defers := w.heap.size }) (show w.heap.size ≠ w.heap.size + 1 by omega)] at hD3
      have := h1 y hq _ _ hm3 hD3 hsz a _ hf hm3.self
      simpa [wd, hf.defers] using this
    · have hD2 : w'.heap[w.heap.size]? = some (.deferred (some [])) := by rw [hm2.old _ (by omega) (by simp only [List.mem_cons, not_or]; exact ⟨by omega, hDk⟩), hD]
      refine ⟨_, _, run_endLoop hl2 (by simp), wpIn_ret ?_⟩
      have hm3 := (hm1.calledF (by omega) hm2).putF (.loop { state := .exhausted, pending := some .ret, fn, tmps := a.tmps, params := ps, assign := asg, body := bdy, defers := w.heap.size }) hl2 rfl (by omega)
      have hD3 := hD2
      rw [← World.putObj_heap_other (w := w') (o := .loop { state := .exhausted, pending := some .ret, fn, tmps := a.tmps, params := ps, assign := asg, body := bdy, defers := w.heap.size }) (show w.heap.size ≠ w.heap.size + 1 by omega)] at hD3
      have := h2 _ _ a hf hm3 hD3 hsz
      simpa [wd, hf.defers] using this
theorem SK.retM {fn : Func} {R : Ending → World → Prop} {rs : List ResultVar} {vs : List Value} (hr : fn.results.toList = rs) (h : Res P F M rs vs) (hR : ∀ w, Mem w0 Mod M w → R (.returned (retV vs)) w) :
    SK w0 Mod n (bodyPostM Fence.wide 1 P fn R .ret) F M := fun a w hf hm => by
  show LeavesInM Fence.wide 1 P fn a.tmps R a.defers .returning w
  rw [hf.defers]
  exact ⟨retV vs, results_run hr hf hm h, hR w hm⟩
theorem leavesD {fn : Func} {R : Ending → World → Prop} {rs : List ResultVar} {vs : List Value} {a : Act} {w : World} {D : Nat} (hr : fn.results.toList = rs) (h : Res P F M rs vs) (hf : FOK n F a) (hm : Mem w0 Mod M w) (hD : w.heap[D]? = some (.deferred (some []))) (hlo : w0.heap.size ≤ D)
    (hR : ∀ w, Mem w0 Mod M w → R (.returned (retV vs)) w) : bodyPostM Fence.wide 1 P fn R .ret (wd [⟨.collected D, #[]⟩] a) w := by
  show LeavesInM Fence.wide 1 P fn a.tmps R [⟨.collected D, #[]⟩] .returning w
  have hm2 := hm.putF (.deferred none) hD rfl hlo
  exact ⟨by simp, .inl ⟨D, _, rfl, run_takeDeferred hD, retV vs, results_run hr hf hm2 h, hR _ hm2⟩⟩
end
end Go.Sx
namespace Go.Sx
section
variable {P : Program} {ops : Array Oper} {w0 : World} {Mod : List Nat} {n : Nat} {F : FL} {M M' : ML} {K : Act → World → Prop} {chk : List Nat} {ty : TypeId} {pos : String} {aft : Array Edge} {d : Nat}
theorem SK.appendC {T E : TypeId} {k bb bs nn : Nat} {z : List Value} {x y : Operand} {oL : OwnD} {news : List Value} [hT : Slc P T E k bb] [hz : Zero P E z] (hd : Nat.blt d n = true) (hx : ev F x = some (.slice (some ⟨bs, 0, none⟩) 0 0)) (hy : ev F y = some (oL.val nn))
    (hoL : oL.ok nn k news) (hpick : Pick (some (bs, [], E)) M M') (hmem : oL.ent news E ∈ M) (hp : plain news = true) (hzk : Nat.beq z.length k = true) (hk0 : Nat.blt 0 k = true) (h63 : nn ≤ maxLen) (hbytes : nn * bb ≤ 140737488355328)
    (h : ∀ o' : OwnD, o'.ok nn k news → SK w0 Mod n (chkE P ops chk K) ((d, o'.val nn) :: F) (o'.ent news E :: M')) :
    SK w0 Mod n (stepE P ops ⟨some d, .call ⟨.builtin .append, #[x, y], #[T, T]⟩, ty, pos, aft, none⟩ chk K) F M := by
  obtain ⟨A, c, he, hs⟩ := Go.Proofs.Ytdnjfmgldkommaa.own_src (w0 := w0) (Mod := Mod) hoL hmem
  rw [he] at hy
  refine SK.appendP (o := some (bs, 0, [])) (xs := []) (nn := 0) (m := nn) hd hx (by simp [OwnD.ok, maxLen]) hy hpick hs hoL.1 hp hzk hk0 (by omega) (by rw [Nat.zero_add]; exact hbytes) (fun o' ho' _ => ?_)
  rw [Nat.zero_add] at ho' ⊢
  exact h o' ho'
end
theorem enterM {P : Program} {n : Nat} {f : FuncId} {fn : Func} {c : Code} {w : World} {args : List Value} {R : Ending → World → Prop} (hf : P.funcs[f]? = some fn) (hb : fn.body = some c) (hn : fn.ntmps = n) (hl : Nat.ble args.length n = true)
    (h : SK w [] n (c.wp P (bodyPostM Fence.wide 1 P fn R)) (ents 0 args) []) : Calls P f args.toArray w R := by
  refine callsIn_wide.1 (callsIn_of_wp_marks (n := 1) hf hb trivial (wpIn_wide.2 (h _ w ⟨rfl, ?_, fun t v ht => ?_⟩ (Mem.zero w))))
  · have := Nat.le_of_ble_eq_true hl
    simp [hn]; omega
  · obtain ⟨_, h2⟩ := lk_ents args 0 t v ht
    have hlt : t < args.length := by
      have := (List.getElem?_eq_some_iff.1 h2).1
      simpa using this
    rw [Array.getElem?_append_left (by simpa using hlt)]
    simpa using h2
end Go.Sx
namespace Go.Proofs.Ytdnjfmgldkommaa
open Go.Sx
theorem ways {D : Df} {id : ByteArray} {l : List Ev} {S : Sta} (hD : D.nodes.length ≤ 64) (h : foldE D { sta0 with id := id } l = some S) : ∃ St : Nat → Sta, St 0 = { sta0 with id := id } ∧ St l.length = S ∧ ∀ i, i ≤ l.length → Way D id l i (St i) := by
  refine ⟨fun i => (foldE D { sta0 with id := id } (l.take i)).getD sta0, rfl, by simp [h], ?_⟩
  intro i hi
  induction i with
  | zero => exact Way.start D id l
  | succ i ih =>
    have hw := ih (by omega)
    have hlt : i < l.length := by omega
    obtain ⟨T, h1, h2⟩ := foldE_step h hw.fo (List.getElem?_eq_getElem hlt)
    have := hw.next hD (List.getElem?_eq_getElem hlt) h1
    simpa [h2] using this
set_option maxRecDepth 100000 in
set_option maxHeartbeats 1000000 in
theorem clone47L (v : Value) (xs : List Value) (nn : Nat) (w : World) (hv : RSl (Vw w []) v nn xs) (hl : xs.length = nn * 4) (hp : plain xs = true) (hb : nn ≤ 100000000) :
    Calls Try.prog 47 [v].toArray w (Ret w [] (fun o : OwnD => o.ok nn 4 xs) (fun o => o.val nn) (fun o => [o.ent xs 70])) := by
  obtain ⟨A, cap, rfl, hs, hnil⟩ := hv.src (M := [])
  cases A with
  | none =>
    have hx := hnil rfl
    subst hx
    have hn0 : nn = 0 := by simp only [List.length_nil] at hl; omega
    subst hn0
    refine enter0 Try.func47 rfl Try.ntmps47 rfl ?_
    (repeat first|(with_reducible first|apply Za|apply Zb|apply Zc|apply Zd|apply Zi|apply Zk|apply Zp)|((with_reducible refine Yz ?_);first|((with_reducible apply SK.nilS); rfl; rfl; rfl)|((with_reducible first|apply ZI|apply ZJ);rfl;rfl))|((with_reducible apply ZC);rfl))
    refine SK.retQ rfl (by (repeat constructor)) (fun w' hm' => ⟨none, ⟨rfl, rfl⟩, rfl, hm'.wk (by (repeat constructor))⟩)
  | some a =>
    obtain ⟨_, _, _, hs, _⟩ := hv.src (M := [])
    refine enter0 Try.func47 rfl Try.ntmps47 rfl ?_
    (repeat first|(with_reducible first|apply Za|apply Zb|apply Zc|apply Zd|apply Zi|apply Zo|apply Zs)|((with_reducible refine Yz ?_);first|((with_reducible apply SK.nilS); rfl; rfl; rfl)|((with_reducible first|apply ZI|apply ZJ);rfl;rfl)|((with_reducible apply Zre);rfl;rfl;intro _))|((with_reducible apply ZD);rfl))
    rename_i b
    have hs2 : Src w [] [some (b, [], 70)] (some a) xs := by
      rcases hv with ⟨_, _, h1, h2⟩
      cases h1
      rcases h2 with h2 | ⟨b', o, h2, h3⟩
      · rw [h2]; exact Src.nil
      · cases h2; exact Src.view h3
    refine SK.append (o := some (b, 0, [])) (xs := []) (news := xs) (m := nn) rfl rfl rfl (by simp [OwnD.ok, maxLen]) rfl hs2 hl hp rfl (by decide) (fun e => [e]) (fun e => by (repeat constructor)) ?_ ?_ ?_
    · unfold maxLen; omega
    · omega
    · intro o' ho' _
      simp only [Nat.zero_add, List.nil_append] at *
      (repeat first|(with_reducible first|apply Zc|apply Zd|apply Zi|apply Zp|apply Zs)|((with_reducible apply ZJ);rfl;rfl))
      exact SK.retQ rfl (by (repeat constructor)) (fun w' hm' => ⟨o', ho', rfl, hm'.wk (by (repeat constructor))⟩)
set_option maxRecDepth 100000 in
set_option maxHeartbeats 4000000 in
theorem states32 (nm dsl : Value) (id : ByteArray) (lv : Value) (evs : List Ev) (w : World) (hl : RSl (Vw w []) lv evs.length (evs.flatMap Ev.c)) (hln : evs.length ≤ 100000000) :
    Calls Try.prog 32 [.agg #[nm, dsl], .string id, lv].toArray w (Ret w [] (fun q : (Nat × Nat × Nat) × OwnD => q.2.ok evs.length 4 (evs.flatMap Ev.c))
      (fun q => .func (.func 48) #[] #[.pointer (some ⟨q.1.1, 0, none⟩), .pointer (some ⟨q.1.2.1, 0, none⟩), .pointer (some ⟨q.1.2.2, 0, none⟩)])
      (fun q => [some (q.1.1, [.string id], 9), some (q.1.2.1, [q.2.val evs.length], 34), some (q.1.2.2, [nm, dsl], 24), q.2.ent (evs.flatMap Ev.c) 70])) := by
  have hl0 := hl
  obtain ⟨A, cap, rfl, _⟩ := hl0
  refine enter0 Try.func32 rfl Try.ntmps32 rfl ?_
  (repeat first|(with_reducible first|apply Za|apply Zb|apply Zc|apply Zd|apply Zi|apply Zs)|((with_reducible apply ZJ);rfl;rfl)|((with_reducible apply Zqz);rfl;rfl;(focus (repeat constructor));rfl)|((with_reducible apply Zrf);rfl;rfl;intro _))
  rename_i b3 b4 b5
  refine SK.callO rfl rfl (fun w1 g1 _ => clone47L _ _ _ w1 (hl.mono g1) (flat_len ev_len _) (ev_plain _) hln) ?_
  intro o ho
  (repeat first|(with_reducible first|apply Za|apply Zb|apply Zc|apply Zd|apply Zi|apply Zp|apply Zs)|((with_reducible apply ZJ);rfl;rfl)|((with_reducible apply Zqp);rfl;rfl;rfl)|((with_reducible apply Zrb);rfl;rfl;(first|rfl|exact OwnD.plain_val _ _);(focus (repeat constructor));rfl))
  exact SK.retQ rfl (by (repeat constructor)) (fun w' hm' => ⟨((b4, b5, b3), o), ho, rfl, hm'.wk (by (repeat constructor))⟩)
end Go.Proofs.Ytdnjfmgldkommaa
namespace Go.Sx
theorem Mem.vw1 {w0 : World} {Mod : List Nat} {M : ML} {w : World} (hm : Mem w0 Mod M w) {b o : Nat} {v : Value} (h : Vw w0 Mod b o v) : Vw w (keys M) b o v := Mem.vw (Rest := []) (by rw [List.append_nil]; exact hm) h
theorem Mem.called1 {w0 : World} {Mod : List Nat} {M N : ML} {w w' : World} (hm : Mem w0 Mod M w) (hc : Mem w (keys M) N w') : Mem w0 Mod N w' := by
  have := Mem.called (Rest := []) (by rw [List.append_nil]; exact hm) hc
  rwa [List.append_nil] at this
theorem run_equalIn_func_nil {P : Program} (w : World) (d : Nat) (t : TypeId) {ps rs : Array TypeId} {v : Bool} (f : Fn) (a b : Array Value) (h : P.underlying t = some (.func ps rs v)) :
    (Op.equalIn (d + 1) t (.func f a b) .nilFunc).run P w = .ok false w := by
  simp [Op.equalIn, run_underlying h]
theorem run_eql_func_nil {P : Program} (w : World) (t : TypeId) {ps rs : Array TypeId} {v : Bool} (f : Fn) (a b : Array Value) (h : P.underlying t = some (.func ps rs v)) :
    (binOp .eql t (.func f a b) .nilFunc).run P w = .ok (.bool false) w := by
  simp only [binOp]
  simp [Op.equal, Op.maxDepth, run_equalIn_func_nil w 9999 t f a b h]
def isFn : Option TypeDesc → Bool
  | some (.func _ _ _) => true
  | _ => false
section
variable {P : Program} {ops : Array Oper} {w0 : World} {Mod : List Nat} {n : Nat} {F : FL} {M : ML} {K : Act → World → Prop} {chk : List Nat} {ty : TypeId} {pos : String} {aft : Array Edge} {d : Nat}
theorem SK.lenO {x : Operand} {T E : TypeId} {k bb m q : Nat} {xs : List Value} {o : OwnD} [hT : Slc P T E k bb] (hd : Nat.blt d n = true) (hx : ev F x = some (o.val m)) (ho : o.ok m q xs)
    (h : SK w0 Mod n K ((d, .int .i64 (m : Int)) :: F) M) : SK w0 Mod n (stepE P ops ⟨some d, .call ⟨.builtin .len, #[x], #[T]⟩, ty, pos, aft, none⟩ chk K) F M := by
  cases o with
  | none =>
    have h0 : m = 0 := ho.2
    subst h0
    exact SK.lenS hd hx h
  | some a =>
    obtain ⟨e, c, sp⟩ := a
    exact SK.lenS hd hx h
theorem SK.eqFn {T U : TypeId} {x y : Operand} {f : Fn} {a b : Array Value} (hu : isFn (P.underlying T) = true) (hd : Nat.blt d n = true) (hx : ev F x = some (.func f a b)) (hy : ev F y = some .nilFunc)
    (h : SK w0 Mod n K ((d, .bool false) :: F) M) : SK w0 Mod n (stepE P ops ⟨some d, .binOp .eql T x y U, ty, pos, aft, none⟩ chk K) F M :=
  SK.bin hd hx hy (fun w' => by
    unfold isFn at hu
    split at hu
    · rename_i hu'
      have := run_eql_func_nil (P := P) w' T f a b hu'
      simp only [eqGuard]
      simp [this]
    · cases hu) h
theorem SK.seqD {Q : Exit → Act → World → Prop} {ds : List Deferred} {u v : Code} (h : SK w0 Mod n (fun a w => u.wp P (Exit.then (v.wp P Q) Q) (wd ds a) w) F M) : SK w0 Mod n (fun a w => (Code.seq u v).wp P Q (wd ds a) w) F M := fun a w hf hm => wp_seq (h a w hf hm)
end
end Go.Sx
