/- A part of the proof that what the evaluator of YtjdcdabbbmhffaaEvCore answers, the call answers in the model. No condition. -/
import Derived.Test.YtjdcdabbbmhffaaEvMap
import Derived.Lib.UnsafeStr
import Derived.RangeFuncNested
import Derived.OrdersIn
import Derived.TacticsIn
set_option linter.unusedVariables false
set_option linter.unusedSimpArgs false
namespace Go.Ev
open Go.RowKit (Below)
variable {P : Program} {D : List Deferred} {rr : Option Nat} {n0 : Nat} {ρ : Rho} {h h' : H} {w : World}

theorem aCopy_run (R : Rel n0 ρ h w) {t : TypeId} {b b' x x' u : Value} (e : aCopy P t b x h = some (u, h')) (kb : VR ρ b b') (kx : VR ρ x x') {ts : Array TypeId} (h0 : ts[0]? = some t) (ty : TypeId) :
    ∃ ρ' u' w', (Builtin.copy_ ts ty #[b', x']).run P w = .ok u' w' ∧ Le ρ ρ' ∧ VR ρ' u u' ∧ Rel n0 ρ' h' w' ∧ Below n0 w w' := by
  unfold aCopy at e
  split at e
  · rename_i el p len cap hel
    have hel' := elOf_und hel
    simp only [Option.bind_eq_some_iff] at e
    obtain ⟨s, hs, ⟨n, new⟩, hsrc, e⟩ := e
    simp only at e
    obtain ⟨new', k1, k2, k3, k4⟩ := srcCells_run (P := P) R hsrc kx
    have k4' := k4 (min n len) (Nat.min_le_left _ _)
    have key : ∀ (base : Option Addr) (cap' : Nat) (wr' : World), (∀ a, base = some a → (storeCells a (new'.take (min n len * s))).run P w = .ok () wr') → (base = none → wr' = w) →
        (Builtin.copy_ ts ty #[.slice base len cap', x']).run P w = .ok (.int .i64 (min n len : Nat)) wr' := by
      intro base cap' wr' hst hno
      unfold Builtin.copy_
      rw [h0]
      simp only [Sem.run_bind, run_underlying hel', Result.andThen_ok, run_szOf hs, List.getElem?_toArray, List.getElem?_cons_zero, List.getElem?_cons_succ, k3]
      have : (Builtin.firstCells s (Nat.min n len) x').run P w = .ok (new'.take (min n len * s)).toArray w := k4'
      simp only [this, Result.andThen_ok]
      cases base with
      | none => rw [hno rfl]; rfl
      | some a => simp only [Sem.run_bind, hst a rfl, Result.andThen_ok, Sem.run_pure]; rfl
    split at e
    · rename_i hm
      cases e
      have hm' : min n len = 0 := hm
      have hnil : new'.take (min n len * s) = [] := by rw [hm']; simp
      have hb' : ∃ base cap', b' = .slice base len cap' := by cases kb <;> exact ⟨_, _, rfl⟩
      obtain ⟨base, cap', rfl⟩ := hb'
      have := key base cap' w (fun a _ => by rw [hnil]; rfl) (fun _ => rfl)
      rw [hm'] at this
      exact ⟨ρ, _, w, this, Le.refl _, .lit rfl, R, Below.refl _ _⟩
    · rename_i hm
      split at e
      · rename_i ad
        split at e
        · cases e
        · rename_i hsp
          simp only [Option.map_eq_some_iff] at e
          obtain ⟨h2, hw, e⟩ := e
          cases e
          cases kb with
          | lit hl => simp [isLit] at hl
          | vague => simp at hsp
          | slice hp hcc hroom =>
            rename_i b0 o cap' pl
            simp only [not_or, Decidable.not_not, Nat.not_lt] at hsp
            obtain ⟨_, hcap, heo⟩ := hsp
            have hpe0 := eOf_eq R hp heo
            obtain ⟨a1, a2, a3, R', B'⟩ := wrx_sound R hp hw (k1.take _) (by
              rw [hpe0] at hroom
              have h8 : min n len ≤ cap' := Nat.le_trans hcap hcc
              have h9 : min n len * s ≤ cap' * s := Nat.mul_le_mul_right _ h8
              have h10 := List.length_take_le (min n len * s) new
              exact Nat.le_trans (Nat.add_le_add_left (Nat.le_trans h10 h9) _) hroom)
            refine ⟨ρ, _, _, key _ _ _ (fun a ha => ?_) (fun hx => by cases hx), Le.refl _, .lit rfl, R', B'⟩
            cases ha
            have := run_storeCells P pl.b (pl.s + o) (new'.take (min n len * s)) 0 w a1 (by simpa using a2) (by simpa using a3)
            exact this
      · cases e
  · cases e

theorem aClear_run (R : Rel n0 ρ h w) {t : TypeId} {x x' : Value} (e : aClear P t x h = some h') (kx : VR ρ x x') {ts : Array TypeId} (h0 : ts[0]? = some t) (ty : TypeId) :
    ∃ w', (Builtin.clear_ ts ty #[x']).run P w = .ok (.tuple #[]) w' ∧ Rel n0 ρ h' w' ∧ Below n0 w w' := by
  unfold aClear at e
  split at e
  · rename_i el p n cap hel
    have hel' := elOf_und hel
    split at e
    · rename_i z hs hz
      split at e
      · rename_i hc
        simp only [Bool.and_eq_true, decide_eq_true_eq] at hc
        obtain ⟨⟨hzl, hz1⟩, hnc⟩ := hc
        have hz1' : z.cells.toList.length = 1 := by rw [Array.length_toList]; exact hz1
        obtain ⟨z0, hz0⟩ := List.length_eq_one_iff.1 hz1'
        have hzc : z.cells = #[z0] := by rw [← Array.toList_inj]; simpa using hz0
        have hl0 : isLit z0 = true := by rw [hz0] at hzl; simpa using hzl
        split at e
        · rename_i hn
          cases e
          subst hn
          have hb' : ∃ base cap', x' = .slice base 0 cap' := by cases kx <;> exact ⟨_, _, rfl⟩
          obtain ⟨base, cap', rfl⟩ := hb'
          refine ⟨w, ?_, R, Below.refl _ _⟩
          unfold Builtin.clear_
          rw [h0]
          simp only [Sem.run_bind, run_underlying hel', Result.andThen_ok, List.getElem?_toArray, List.getElem?_cons_zero]
          cases base <;> rfl
        · rename_i hn
          split at e
          · rename_i ad
            split at e
            · cases e
            · rename_i hsp
              simp only [not_or, Decidable.not_not] at hsp
              obtain ⟨hsp, heo⟩ := hsp
              cases kx with
              | lit hl => simp [isLit] at hl
              | vague => simp at hsp
              | slice hp hcc hroom =>
                rename_i b0 o cap' pl
                have hpe0 := eOf_eq R hp heo
                have hrl : (repl n z.cells.toList) = List.replicate n z0 := by
                  rw [hz0]
                  have : ∀ n, repl n [z0] = List.replicate n z0 := by
                    intro n
                    induction n with
                    | zero => rfl
                    | succ n ih => simp [repl, ih, List.replicate_succ]
                  exact this n
                rw [hrl] at e
                have kk : VRs ρ (List.replicate n z0) (List.replicate n z0) := VRs.refl_lit fun v hv => by rw [(List.mem_replicate.1 hv).2]; exact hl0
                obtain ⟨a1, a2, a3, R', B'⟩ := wrx_sound R hp e kk (by
                  rw [hpe0] at hroom
                  rw [List.length_replicate]
                  have h6 : n ≤ cap' := Nat.le_trans hnc hcc
                  have h7 : pl.s + o + cap' * 1 ≤ pl.n := hroom
                  show pl.s + o + n ≤ pl.n
                  omega)
                refine ⟨_, ?_, R', B'⟩
                have st := run_storeCells P pl.b (pl.s + o) (List.replicate n z0) 0 w a1 (by simpa using a2) (by simpa using a3)
                have hzero : (Builtin.zeroCells z.cells n).toList = List.replicate n z0 := by
                  rw [hzc]
                  unfold Builtin.zeroCells
                  apply List.ext_getElem
                  · simp
                  · intro i h1 h2
                    simp [Nat.mod_one]
                unfold Builtin.clear_
                rw [h0]
                obtain ⟨n', rfl⟩ : ∃ n', n = n' + 1 := ⟨n - 1, by omega⟩
                simp only [Sem.run_bind, run_underlying hel', Result.andThen_ok, List.getElem?_toArray, List.getElem?_cons_zero, run_zeroOf hz, hzero]
                have st' : (storeCells ⟨pl.b, pl.s + o, none⟩ (List.replicate (n' + 1) z0)).run P w = _ := st
                rw [st']
                rfl
          · cases e
      · cases e
    · cases e
  · cases e

theorem aRange_run (R : Rel n0 ρ h w) {t : TypeId} {x x' u : Value} (e : aRange P t x h = some (u, h')) (k : VR ρ x x') :
    ∃ ρ' u' w', (Instr.range t x').run P w = .ok u' w' ∧ Le ρ ρ' ∧ VR ρ' u u' ∧ Rel n0 ρ' h' w' ∧ Below n0 w w' := by
  unfold aRange at e
  split at e
  · rename_i s hd
    cases e
    rw [(VR.lit_iff rfl).1 k]
    refine ⟨_, .pointer (some ⟨w.heap.size, 0, none⟩), w.alloc (.stringIter s 0), ?_, Le.app _ _, .ptr (get_len R.len.symm), R.pushObj (Pushed.alloc w _) rfl .iter, (Pushed.alloc w _).below R.n0le⟩
    simp [Instr.range, run_underlying hd]
  · cases e
theorem run_getObj_iter {r : Nat} {s : ByteArray} {pos : Nat} (hb : w.heap[r]? = some (.stringIter s pos)) : (getObj r).run P w = .ok (.stringIter s pos) w := by simp [getObj, Sem.run, hb]
theorem run_setObj_iter {r : Nat} {s : ByteArray} {pos : Nat} (o : Obj) (hb : w.heap[r]? = some (.stringIter s pos)) : (setObj r o).run P w = .ok () { w with heap := w.heap.setIfInBounds r o } := by simp [setObj, Sem.run, hb]
theorem aNext_run (R : Rel n0 ρ h w) {x x' u : Value} (e : aNext x h = some (u, h')) (k : VR ρ x x') (ty : TypeId) :
    ∃ ρ' u' w', (Instr.next x' true ty).run P w = .ok u' w' ∧ Le ρ ρ' ∧ VR ρ' u u' ∧ Rel n0 ρ' h' w' ∧ Below n0 w w' := by
  unfold aNext at e
  split at e
  · rename_i r
    split at e
    · rename_i s pos hb
      cases k with
      | lit hl => simp [isLit] at hl
      | ptr hp =>
        rename_i p
        obtain ⟨⟨hn, hs0⟩, o, hw, hor⟩ := R.obj _ _ _ hp hb rfl
        cases hor
        rw [hs0, Nat.add_zero]
        split at e
        · rename_i hlt
          cases hdec : Utf8.decode s pos with
          | mk c wd =>
          rw [hdec] at e
          simp only [Option.some.injEq, Prod.mk.injEq] at e
          obtain ⟨rfl, rfl⟩ := e
          have hlt' := R.lt _ _ hp
          refine ⟨ρ, _, { w with heap := w.heap.setIfInBounds p.b (.stringIter s (pos + wd)) }, ?_, Le.refl _, VR.tuple_iff.2 ⟨#[.bool true, .int .i64 pos, .int .i32 c], rfl, VRs.refl_lit (by simp [isLit])⟩,
            R.setObj hp hb rfl (.inl rfl) (by simp) (o' := .stringIter s (pos + wd)) ?_ rfl (fun _ => .iter) (fun k hk => ?_), ⟨rfl, rfl, rfl, by simp, fun k hk => ?_⟩⟩
          · simp only [Instr.next, Sem.run_bind, run_getObj_iter hw, Result.andThen_ok, hlt, if_true, hdec, run_setObj_iter _ hw, Sem.run_pure]; rfl
          · simp [hlt']
          · show (w.heap.setIfInBounds p.b _)[k]? = _
            rw [Array.getElem?_setIfInBounds_ne (fun e2 => hk e2.symm)]
          · show (w.heap.setIfInBounds p.b _)[k]? = _
            rw [Array.getElem?_setIfInBounds_ne (by omega)]
        · rename_i hge
          cases e
          refine ⟨ρ, _, w, ?_, Le.refl _, VR.tuple_iff.2 ⟨#[.bool false], rfl, VRs.refl_lit (by simp [isLit])⟩, R, Below.refl _ _⟩
          simp only [Instr.next, Sem.run_bind, run_getObj_iter hw, Result.andThen_ok, hge, if_false, Sem.run_pure]
    · cases e
  · cases e

/-! all operations -/
/-- what an operation leaves -/
def After (n0 : Nat) (ρ : Rho) (w : World) (v : Value) (h' : H) (v' : Value) (w' : World) : Prop := ∃ ρ', Le ρ ρ' ∧ VR ρ' v v' ∧ Rel n0 ρ' h' w' ∧ Below n0 w w'
/-- what a call leaves -/
def Res (n0 : Nat) (ρ : Rho) (w : World) (v : Value) (h' : H) : Ending → World → Prop := fun e w' => ∃ ρ' v', e = .returned v' ∧ Le ρ ρ' ∧ VR ρ' v v' ∧ Rel n0 ρ' h' w' ∧ Below n0 w w'
/-- a fence that lets everything in -/
abbrev Wf (rr : Option Nat) : Fence := { fn := fun _ => True, depth := none, alive := false, round := rr }
theorem callsIn_Wf {n : Nat} {f : FuncId} {args : Array Value} {w : World} {R : Ending → World → Prop} : CallsIn (Wf rr) n P f args w R ↔ Calls P f args w R :=
  Iff.trans (Iff.of_eq rfl) (callsIn_wide (n := n))
/-- what a call comes to: the callee, by its contract; a round of a range over a function -/
def CallOk (P : Program) (n0 : Nat) (call : CallT) : Prop :=
  ∀ (f : Fn) (args : List Value) (h : H) (v : Value) (h' : H), call f args h = some (v, h') →
    match f with
    | .func f => ((∃ fn, P.funcs[f]? = some fn ∧ fn.body.isSome = true ∧ (fn.name == "runtime.NumGoroutine") = false) ∧
      ∀ (ρ : Rho) (w : World) (args' : List Value), Rel n0 ρ h w → VRs ρ args args' → Calls P f args'.toArray w (Res n0 ρ w v h')) ∨
      ((∃ fn, P.funcs[f]? = some fn ∧ fn.body.isNone = true) ∧
      ∀ (ρ : Rho) (w : World) (args' : List Value), Rel n0 ρ h w → VRs ρ args args' → ∃ v' w', (callFunc f args'.toArray).run P w = .ok (.value v') w' ∧ After n0 ρ w v h' v' w')
    | .yield l => ∀ (ρ : Rho) (w : World) (args' : List Value) (p : Pl), Rel n0 ρ h w → VRs ρ args args' → ρ[l]? = some p →
      ∃ f tmps as bd, (Instr.yield p.b args'.toArray).run P w = .ok (.round p.b f tmps as bd) w ∧ ∀ rr, RoundIn (Wf rr) 0 P p.b f tmps as bd w (Res n0 ρ w v h')
    | _ => False

theorem wp_of_value {o : Oper} {a : Act} {w w' : World} {v' : Value} {next : Act → World → Prop} {Q : Exit → Act → World → Prop} (h : (execOp a.eval o).run P w = .ok (.value v') w') (k : next (a.put o.dst v') w')
    (hd : ∀ c, o.op ≠ .defer c) : o.wpIn (Wf rr) 0 P a w next Q := by
  unfold Oper.wpIn; rw [Oper.semAt_eq _ _ _ hd, h]; exact ⟨fun _ _ => trivial, k⟩
theorem wp_of_skip {o : Oper} {a : Act} {w w' : World} {next : Act → World → Prop} {Q : Exit → Act → World → Prop} (h : (execOp a.eval o).run P w = .ok .skip w') (k : next (a.put o.dst undef) w')
    (hd : ∀ c, o.op ≠ .defer c) : o.wpIn (Wf rr) 0 P a w next Q := by
  unfold Oper.wpIn; rw [Oper.semAt_eq _ _ _ hd, h]; exact ⟨fun _ _ => trivial, k⟩

theorem run_callFunc {f : FuncId} {fn : Func} (hf : P.funcs[f]? = some fn) (hb : fn.body.isSome = true) (hn : (fn.name == "runtime.NumGoroutine") = false) (args : Array Value) (w : World) :
    (callFunc f args).run P w = .ok (.enter f args) w := by
  have : fn.body.isNone = false := by cases h : fn.body <;> simp_all
  unfold callFunc
  simp only [Sem.run_bind, run_program, Result.andThen_ok, hf, hn, Bool.false_eq_true, if_false, this, Sem.run_pure]

theorem map_parts (ps : Array (Nat × Operand)) (g : Operand → Value) : ps.map (fun x => (x.1, g x.2)) = (ps.toList.map fun x => (x.1, g x.2)).toArray := by
  rw [← Array.toList_inj]; simp
theorem map_args (ps : Array Operand) (g : Operand → Value) : ps.map g = (ps.toList.map g).toArray := by
  rw [← Array.toList_inj]; simp

theorem freeze_heap {w : World} {b o n : Nat} {k : Nat} (hk : k ≠ b) : (w.freeze ⟨b, o, none⟩ n).heap[k]? = w.heap[k]? := by
  unfold World.freeze
  split
  · rfl
  · simp only [Array.getElem?_modify]; rw [if_neg (fun e => hk e.symm)]
theorem freeze_same {w : World} {b o n : Nat} {c : Array Value} {T : TypeId} {fr : Nat × Nat} (h : w.heap[b]? = some (.cells c T fr)) : ∃ fr', (w.freeze ⟨b, o, none⟩ n).heap[b]? = some (.cells c T fr') := by
  unfold World.freeze
  split
  · exact ⟨fr, h⟩
  · simp only [Array.getElem?_modify, h]; simp
theorem freeze_size {w : World} {a : Addr} {n : Nat} : (w.freeze a n).heap.size = w.heap.size := by
  unfold World.freeze; split <;> simp
theorem freeze_cell {w : World} {b o n : Nat} {c : Array Value} {T : TypeId} {fr : Nat × Nat} (h : w.heap[b]? = some (.cells c T fr)) (a : Addr) : (w.freeze ⟨b, o, none⟩ n).cell? a = w.cell? a := by
  by_cases e : a.block = b
  · obtain ⟨fr', h'⟩ := freeze_same (o := o) (n := n) h
    unfold World.cell?
    rw [e, h, h']
  · exact World.cell?_of_block (w := w) (freeze_heap e)
/-- a row is read into a string: it is written no more -/
theorem Rel.freeze (R : Rel n0 ρ h w) {b n : Nat} {p : Pl} {own : Bool} {e : Nat} {cs : List Value} (hp : ρ[b]? = some p) (hb : h[b]? = some (.cells own e cs)) {c : Array Value} {T : TypeId} {fr : Nat × Nat}
    (hw : w.heap[p.b]? = some (.cells c T fr)) (hn : n0 ≤ p.b) : Rel n0 ρ (h.set b (.cells false e cs)) (w.freeze ⟨p.b, 0, none⟩ n) ∧ Below n0 w (w.freeze ⟨p.b, 0, none⟩ n) := by
  have hset : ∀ i (x : Ob), (h.set b (.cells false e cs))[i]? = some x → (i = b ∧ x = .cells false e cs) ∨ (i ≠ b ∧ h[i]? = some x) := fun i x hx => get_set hx
  have hc := freeze_cell (o := 0) (n := n) hw
  have f : ∀ i (ow : Bool) e1 ci, (h.set b (.cells false e cs))[i]? = some (Ob.cells ow e1 ci) → ∃ ow2, h[i]? = some (Ob.cells ow2 e1 ci) ∧ (ow = true → ow2 = true ∧ i ≠ b) ∧ (i ≠ b → ow2 = ow) := fun i ow e1 ci hx => by
    rcases hset i _ hx with ⟨rfl, hy⟩ | ⟨hne, hy⟩
    · cases hy; exact ⟨own, hb, (fun h => by cases h), fun h => absurd rfl h⟩
    · exact ⟨ow, hy, fun h => ⟨h, hne⟩, fun _ => rfl⟩
  refine ⟨⟨by simp [R.len], by rw [freeze_size]; exact R.n0le, fun i q hi => by rw [freeze_size]; exact R.lt i q hi, ?_, ?_, ?_, ?_, ?_, ?_, ?_⟩, ?_⟩
  · intro i q ow e1 ci hi hbi
    obtain ⟨ow2, h2, _, _⟩ := f i ow e1 ci hbi
    exact ⟨(R.cells i q ow2 e1 ci hi h2).1, (R.cells i q ow2 e1 ci hi h2).2.mono (Le.refl _) fun j _ => hc _⟩
  · intro i q ow e1 ci hi hbi he
    obtain ⟨ow2, h2, _, _⟩ := f i ow e1 ci hbi
    obtain ⟨a, a', c1, f1, k, k2⟩ := R.ty i q ow2 e1 ci hi h2 he
    by_cases hq : q.b = p.b
    · rw [hq] at k ⊢
      obtain ⟨fr', h'⟩ := freeze_same (o := 0) (n := n) k
      exact ⟨⟨a.1, hn⟩, a', c1, fr', h', k2⟩
    · exact ⟨a, a', c1, f1, by rw [freeze_heap hq]; exact k, k2⟩
  · intro i q e1 ci hi hbi
    obtain ⟨ow2, h2, h3, _⟩ := f i true e1 ci hbi
    obtain ⟨rfl, hne⟩ := h3 rfl
    obtain ⟨a1, a2, a3⟩ := R.own i q e1 ci hi h2
    have hq : q.b ≠ p.b := R.inj i b q p e1 e ci cs own hne hi hp h2 hb
    exact ⟨a1, a2, fun j hj => by rw [hc, World.frozen?_of_block (w := w) (freeze_heap hq)]; exact a3 j hj⟩
  · intro i j q r e1 e2 ci cj ow hij hi hj hbi hbj
    obtain ⟨ow2, h2, h3, _⟩ := f i true e1 ci hbi
    obtain ⟨rfl, hne⟩ := h3 rfl
    obtain ⟨ow3, h4, _, _⟩ := f j ow e2 cj hbj
    exact R.inj i j q r e1 e2 ci cj ow3 hij hi hj h2 h4
  · intro i q e1 ci s1 hi hbi
    rcases hset i _ hbi with ⟨_, hx⟩ | ⟨hne, hbi⟩
    · cases hx
    · obtain ⟨a0, a⟩ := R.old i q e1 ci s1 hi hbi
      refine ⟨a0, a.imp (fun a => ⟨a.1.mono (Le.refl _) fun j _ => hc _, fun j r e2 cj hj hbj => ?_⟩) id⟩
      obtain ⟨ow2, h2, h3, _⟩ := f j true e2 cj hbj
      obtain ⟨rfl, _⟩ := h3 rfl
      exact a.2 j r e2 cj hj h2
  · intro i q ob hi hbi ho
    rcases hset i _ hbi with ⟨_, hx⟩ | ⟨_, hbi⟩
    · subst hx; cases ho
    · obtain ⟨a, o2, k, k2⟩ := R.obj i q ob hi hbi ho
      refine ⟨a, o2, ?_, k2⟩
      rw [freeze_heap (fun e2 => ?_)]
      · exact k
      · rw [e2, hw] at k; cases k; have := k2.notCells; cases this
  · intro i j q t oi oj hij hi hj hbi hbj ho1 ho2
    rcases hset i _ hbi with ⟨_, hx⟩ | ⟨_, hbi⟩
    · subst hx; cases ho1
    rcases hset j _ hbj with ⟨_, hx⟩ | ⟨_, hbj⟩
    · subst hx; cases ho2
    exact R.objInj i j q t oi oj hij hi hj hbi hbj ho1 ho2
  · refine ⟨?_, ?_, ?_, by rw [freeze_size]; exact Nat.le_refl _, fun k hk => freeze_heap (by omega)⟩ <;> (unfold World.freeze; split <;> rfl)
theorem aBuiltin_run (R : Rel n0 ρ h w) {b : Builtin} {ts : Array TypeId} {xs xs' : List Value} {u : Value} (e : aBuiltin P b ts xs h = some (u, h')) (k : VRs ρ xs xs') (ty : TypeId) (cs : Array Bool) :
    ∃ u' w', (builtin b ts ty cs xs'.toArray).run P w = .ok (.value u') w' ∧ After n0 ρ w u h' u' w' := by
  unfold aBuiltin at e
  split at e
  · rename_i t x ht
    cases xs' with
    | nil => exact k.elim
    | cons x' r => cases r with
      | cons _ _ => exact k.2.elim
      | nil =>
        split at e
        · rename_i kt et hd
          simp only [Option.map_eq_some_iff] at e
          obtain ⟨v, hv, e⟩ := e; cases e
          obtain ⟨q1, q2⟩ := mpLen_run R hv k.1 ts ht hd ty
          exact ⟨_, w, by simp [builtin, q1], ρ, Le.refl _, .lit q2, R, Below.refl _ _⟩
        · simp only [Option.map_eq_some_iff] at e
          obtain ⟨v, hv, e⟩ := e; cases e
          obtain ⟨q1, q2⟩ := aLen_run hv k.1 ts ht ty w
          exact ⟨_, w, by simp [builtin, q1], ρ, Le.refl _, .lit q2, R, Below.refl _ _⟩
  · rename_i t x y ht
    cases xs' with
    | nil => exact k.elim
    | cons x' r => cases r with
      | nil => exact k.2.elim
      | cons y' r => cases r with
        | cons _ _ => exact k.2.2.elim
        | nil =>
          have fin : ∀ d t1, ts[1]? = some t1 → P.underlying t1 = some d → (∀ k, d ≠ .int k) → aAppend P t x y h = some (u, h') → ∃ u' w', (builtin .append ts ty cs [x', y'].toArray).run P w = .ok (.value u') w' ∧ After n0 ρ w u h' u' w' := by
            intro d t1 h1 hd hni e
            obtain ⟨ρ', u', w', q1, q2, q3, q4, q5⟩ := aAppend_run R e k.1 k.2.1 ht h1 hd hni ty
            exact ⟨u', w', by simp [builtin, q1], ρ', q2, q3, q4, q5⟩
          split at e
          · rename_i el hd
            simp only [Option.bind_eq_some_iff] at hd
            obtain ⟨t1, h1, hd⟩ := hd
            exact fin _ t1 h1 hd (by intro k hk; cases hk) e
          · rename_i hd
            simp only [Option.bind_eq_some_iff] at hd
            obtain ⟨t1, h1, hd⟩ := hd
            exact fin _ t1 h1 hd (by intro k hk; cases hk) e
          · cases e
  · rename_i t x y ht
    cases xs' with
    | nil => exact k.elim
    | cons x' r => cases r with
      | nil => exact k.2.elim
      | cons y' r => cases r with
        | cons _ _ => exact k.2.2.elim
        | nil =>
          obtain ⟨ρ', u', w', q1, q2, q3, q4, q5⟩ := aCopy_run R e k.1 k.2.1 ht ty
          exact ⟨u', w', by simp [builtin, q1], ρ', q2, q3, q4, q5⟩
  · rename_i t x ht
    cases xs' with
    | nil => exact k.elim
    | cons x' r => cases r with
      | cons _ _ => exact k.2.elim
      | nil =>
        simp only [Option.map_eq_some_iff] at e
        obtain ⟨h2, hd, e⟩ := e; cases e
        obtain ⟨w', q1, q2, q3⟩ := aClear_run R hd k.1 ht ty
        exact ⟨.tuple #[], w', by simp [builtin, q1], ρ, Le.refl _, VR.tuple_iff.2 ⟨#[], rfl, trivial⟩, q2, q3⟩
  · rename_i t m kk ht
    cases xs' with
    | nil => exact k.elim
    | cons x' r => cases r with
      | nil => exact k.2.elim
      | cons y' r => cases r with
        | cons _ _ => exact k.2.2.elim
        | nil =>
          simp only [Option.map_eq_some_iff] at e
          obtain ⟨h2, hd, e⟩ := e; cases e
          obtain ⟨w', q1, q2, q3⟩ := aDelete_run R hd k.1 k.2.1 ts ht ty
          exact ⟨undef, w', by simp [builtin, q1], ρ, Le.refl _, .undef, q2, q3⟩
  · rename_i t l1 c ht
    split at e
    · rename_i el hd
      cases e
      cases xs' with
      | nil => exact k.elim
      | cons x' r => cases r with
        | cons _ _ => exact k.2.elim
        | nil =>
          rw [(VR.lit_iff rfl).1 k.1]
          exact ⟨_, w, by simp [builtin, Builtin.cap_, ht, run_underlying hd, goInt], ρ, Le.refl _, .lit rfl, R, Below.refl _ _⟩
    · cases e
  · cases e
    cases xs' with
    | nil => exact k.elim
    | cons x' r => cases r with
      | cons _ _ => exact k.2.elim
      | nil =>
        rw [(VR.lit_iff rfl).1 k.1]
        exact ⟨_, w, rfl, ρ, Le.refl _, .lit rfl, R, Below.refl _ _⟩
  · rename_i ad l1 c
    split at e
    · cases e
    · rename_i hc
      cases e
      cases xs' with
      | nil => exact k.elim
      | cons x' r => cases r with
        | cons _ _ => exact k.2.elim
        | nil =>
          have k1 := k.1
          cases k1 with
          | lit hl => simp [isLit] at hl
          | vague => simp at hc
          | slice hp hcc hroom =>
            rename_i b0 o c' pl
            have hc' : ¬ c' = 0 := by intro h0; exact hc (.inl (by omega))
            have hdef : builtin .unsafeSliceData ts ty cs #[.slice (some ⟨pl.b, pl.s + o, none⟩) l1 c'] = (do pure (Next.value (← (do
              if c' ≠ 0 then pure (.pointer (some ⟨pl.b, pl.s + o, none⟩))
              else if (← viewAt pl.b).isSome then pure (.pointer (some ⟨pl.b, pl.s + o, none⟩))
              else pure (.pointer (some ⟨← newObj (.view ⟨pl.b, pl.s + o, none⟩ (← elemOf ty)), 0, none⟩)))))) := rfl
            exact ⟨.pointer (some ⟨pl.b, pl.s + o, none⟩), w, by rw [hdef]; simp [hc'], ρ, Le.refl _, .ptr hp, R, Below.refl _ _⟩
  · rename_i t p n ht
    cases xs' with
    | nil => exact k.elim
    | cons x' r => cases r with
      | nil => exact k.2.elim
      | cons y' r => cases r with
        | cons _ _ => exact k.2.2.elim
        | nil =>
          obtain ⟨kp, kn, _⟩ := k
          rw [(VR.lit_iff rfl).1 kn]
          have hpt : ∃ p', x' = .pointer p' := by cases kp <;> exact ⟨_, rfl⟩
          obtain ⟨p', rfl⟩ := hpt
          have hts : ts.size = 2 → ∃ it, ts = #[t, it] := fun h2 => by
            obtain ⟨l⟩ := ts
            cases l with
            | nil => simp at h2
            | cons a l => cases l with
              | nil => simp at h2
              | cons b l => cases l with
                | nil => simp at ht; subst ht; exact ⟨b, rfl⟩
                | cons _ _ => simp at h2
          split at e
          · rename_i h0
            cases e
            obtain ⟨rfl, h2⟩ := h0
            obtain ⟨it, rfl⟩ := hts h2
            exact ⟨_, w, by simp [builtin, Lib.run_unsafeString_none], ρ, Le.refl _, .lit rfl, R, Below.refl _ _⟩
          · split at e
            · rename_i el b hd
              split at e
              · rename_i own ee cs hb
                split at e
                · rename_i hc
                  obtain ⟨h1, h2, h3, h4, h5, h6, h8⟩ := hc
                  subst h1
                  simp only [Option.map_eq_some_iff] at e
                  obtain ⟨l, hl, e⟩ := e
                  cases e
                  obtain ⟨it, rfl⟩ := hts h5
                  cases kp with
                  | lit hl => simp [isLit] at hl
                  | ptr hp =>
                    rename_i pl
                    obtain ⟨⟨a1, h7⟩, a2, c, fr, a3, a4⟩ := R.ty _ _ _ _ _ hp hb enc_ge
                    rw [eT_enc] at a3
                    obtain ⟨ns, hcs, rfl⟩ := strOf_ints _ _ hl
                    have hll : (ns.map (fun n : Int => UInt8.ofNat n.toNat)).length = n.toNat := by
                      have := congrArg List.length hcs
                      rw [List.length_take, List.length_map] at this
                      rw [List.length_map]; omega
                    have hn' : ((ns.map (fun n : Int => UInt8.ofNat n.toNat)).length : Int) = n := by rw [hll]; omega
                    obtain ⟨R', B'⟩ := R.freeze (n := (ns.map (fun n : Int => UInt8.ofNat n.toNat)).length) hp hb a3 h7
                    have hcsz : cs.length ≤ c.size := by
                      rcases Nat.eq_zero_or_pos cs.length with h0 | h0
                      · omega
                      · obtain ⟨x, hx⟩ := some_of_lt (l := cs) (i := cs.length - 1) (by omega)
                        obtain ⟨v', hv, _⟩ := (R.cells _ _ _ _ _ hp hb).2 _ _ hx
                        simp only [World.cell?, a3] at hv
                        have := (Array.getElem?_eq_some_iff.1 hv).1
                        omega
                    have hrun := Lib.run_unsafeString_row (P := P) w t it ty el hd h2 pl.b c.size (by simp [World.shape?, a3]) (ns.map (fun n : Int => UInt8.ofNat n.toNat)) (by
                      intro hx; rw [hx] at hll; simp at hll; omega) (by rw [hll]; omega) (by rw [hll]; omega) (fun j x hx => by
                      rw [List.getElem?_map] at hx
                      cases hj : ns[j]? with
                      | none => rw [hj] at hx; cases hx
                      | some m =>
                        rw [hj] at hx; cases hx
                        have hcj : (cs.take n.toNat)[j]? = some (.int .u8 m) := by rw [hcs, List.getElem?_map, hj]; rfl
                        have hb8 := List.all_eq_true.1 h8 _ (List.mem_iff_getElem?.2 ⟨j, hcj⟩)
                        simp only [isByte, Bool.and_eq_true, decide_eq_true_eq] at hb8
                        have hcj' : cs[j]? = some (.int .u8 m) := by
                          rw [List.getElem?_take] at hcj
                          split at hcj
                          · exact hcj
                          · cases hcj
                        obtain ⟨v', hv, kv⟩ := (R.cells _ _ _ _ _ hp hb).2 _ _ hcj'
                        rw [(VR.lit_iff rfl).1 kv] at hv
                        rw [a1] at hv
                        rw [add_none, hv]
                        congr 2
                        simp
                        omega)
                    rw [a1, Nat.zero_add]
                    rw [hn'] at hrun
                    refine ⟨_, _, ?_, ρ, Le.refl _, .lit rfl, R', B'⟩
                    simp only [builtin, Sem.run_bind]
                    have hrun' : (Builtin.unsafeString_ #[t, it] ty [Value.pointer (some ⟨pl.b, 0, none⟩), .int .i64 n].toArray).run P w = _ := hrun
                    rw [hrun']; rfl
                · cases e
              · cases e
            · cases e
  · rename_i x r
    cases xs' with
    | nil => exact k.elim
    | cons x' r' =>
      simp only [Option.map_eq_some_iff] at e
      obtain ⟨v, hv, e⟩ := e; cases e
      obtain ⟨z', q1, q2⟩ := fold2_run (P := P) (w := w) (f := aMin2) (g := Builtin.min2) (fun x y z x' y' e kx ky w => aMin2_run x y z x' y' e kx ky w) r r' x x' _ hv k.1 k.2
      exact ⟨z', w, by simp [builtin, Builtin.min_, q1], ρ, Le.refl _, q2, R, Below.refl _ _⟩
  · rename_i x r
    cases xs' with
    | nil => exact k.elim
    | cons x' r' =>
      simp only [Option.map_eq_some_iff] at e
      obtain ⟨v, hv, e⟩ := e; cases e
      obtain ⟨z', q1, q2⟩ := fold2_run (P := P) (w := w) (f := aMax2) (g := Builtin.max2) (fun x y z x' y' e kx ky w => aMax2_run x y z x' y' e kx ky w) r r' x x' _ hv k.1 k.2
      exact ⟨z', w, by simp [builtin, Builtin.max_, q1], ρ, Le.refl _, q2, R, Below.refl _ _⟩
  · cases e

theorem evOp_sound {call : CallT} (hcall : CallOk P n0 call) {nt : Nat} {fr : Fr} {a : Act} (R : Rel n0 ρ h w) (F : FR ρ nt D fr a) (o : Oper) {v : Value} (e : evOp P call o.op fr h = some (v, h'))
    {next : Act → World → Prop} {Q : Exit → Act → World → Prop} (k : ∀ v' w', After n0 ρ w v h' v' w' → next (a.put o.dst v') w') : o.wpIn (Wf rr) 0 P a w next Q := by
  have same : ∀ {u u' : Value}, VR ρ u u' → After n0 ρ w u h u' w := fun hv => ⟨ρ, Le.refl _, hv, R, Below.refl _ _⟩
  have hnd : (∃ c, o.op = .defer c) ∨ ∀ c, o.op ≠ .defer c := by
    cases o.op <;> first | exact .inl ⟨_, rfl⟩ | exact .inr (fun c h => by cases h)
  rcases hnd with ⟨c, hc⟩ | hnd
  · rw [hc] at e; simp [evOp] at e
  cases hop : o.op <;> rw [hop] at e <;> simp only [evOp] at e
  case move x =>
    simp only [Option.map_eq_some_iff] at e
    obtain ⟨u, hu, e⟩ := e; cases e
    exact wp_of_value (by simp [execOp, hop]) (k _ _ (same (ev1_sound F hu))) hnd
  case assign x =>
    simp only [Option.map_eq_some_iff] at e
    obtain ⟨u, hu, e⟩ := e; cases e
    exact wp_of_value (by simp [execOp, hop]) (k _ _ (same (ev1_sound F hu))) hnd
  case pick c x y =>
    split at e
    · rename_i hc
      simp only [Option.map_eq_some_iff] at e
      obtain ⟨u, hu, e⟩ := e; cases e
      have hc' := (VR.lit_iff rfl).1 (ev1_sound F hc)
      exact wp_of_value (by simp [execOp, hop, hc', asBool]) (k _ _ (same (ev1_sound F hu))) hnd
    · rename_i hc
      simp only [Option.map_eq_some_iff] at e
      obtain ⟨u, hu, e⟩ := e; cases e
      have hc' := (VR.lit_iff rfl).1 (ev1_sound F hc)
      exact wp_of_value (by simp [execOp, hop, hc', asBool]) (k _ _ (same (ev1_sound F hu))) hnd
    · cases e
  case alloc t =>
    simp only [Option.bind_eq_some_iff] at e
    obtain ⟨z, hz, e⟩ := e
    split at e
    · rename_i hl
      cases e
      have kz : VR ρ z z := by
        cases z with
        | agg xs => exact VR.agg_iff.2 ⟨xs, rfl, VRs.refl_lit (List.all_eq_true.1 hl)⟩
        | _ => exact .lit (by simpa [Value.cells] using hl)
      obtain ⟨ρ', u', w', q1, q2, q3, q4, q5⟩ := aNew_run (P := P) R kz t
      exact wp_of_value (v' := .pointer (some u')) (w' := w') (by simp [execOp, hop, Instr.alloc, run_zeroOf hz, q1]) (k _ _ ⟨ρ', q2, q3, q4, q5⟩) hnd
    · cases e
  case box t x =>
    simp only [Option.map_eq_some_iff] at e
    obtain ⟨u, hu, e⟩ := e
    cases e
    obtain ⟨ρ', u', w', q1, q2, q3, q4, q5⟩ := aNew_run (P := P) R (ev1_sound F hu) t
    exact wp_of_value (v' := .pointer (some u')) (w' := w') (by simp [execOp, hop, Instr.box, q1]) (k _ _ ⟨ρ', q2, q3, q4, q5⟩) hnd
  case build t ps =>
    simp only [Option.bind_eq_some_iff, Option.map_eq_some_iff] at e
    obtain ⟨l, hl, u, hu, e⟩ := e; cases e
    obtain ⟨u', q1, q2⟩ := aBuild_run hu (evP_sound F hl) w
    exact wp_of_value (v' := u') (by simp [execOp, hop]; rw [map_parts]; simp [q1]) (k _ _ (same q2)) hnd
  case buildSlice t n ps =>
    simp only [Option.bind_eq_some_iff] at e
    obtain ⟨l, hl, e⟩ := e
    obtain ⟨ρ', u', w', q1, q2, q3, q4, q5⟩ := aBuildSlice_run R e (evP_sound F hl)
    exact wp_of_value (v' := u') (w' := w') (by simp [execOp, hop]; rw [map_parts]; simp [q1]) (k _ _ ⟨ρ', q2, q3, q4, q5⟩) hnd
  case load t x =>
    simp only [Option.bind_eq_some_iff, Option.map_eq_some_iff] at e
    obtain ⟨x', hx, u, hu, e⟩ := e; cases e
    obtain ⟨u', q1, q2⟩ := aLoad_run R hu (ev1_sound F hx)
    exact wp_of_value (v' := u') (by simp [execOp, hop, q1]) (k _ _ (same q2)) hnd
  case store t x y =>
    simp only [Option.bind_eq_some_iff, Option.map_eq_some_iff] at e
    obtain ⟨x', hx, y', hy, h2, hu, e⟩ := e; cases e
    obtain ⟨w', q1, q2, q3⟩ := aStore_run R hu (ev1_sound F hx) (ev1_sound F hy)
    exact wp_of_skip (w' := w') (by simp [execOp, hop, q1]) (k _ _ ⟨ρ, Le.refl _, .undef, q2, q3⟩) hnd
  case nilCheck x =>
    split at e
    · rename_i ad hx
      cases e
      have kx := ev1_sound F hx
      have : ∃ a', a.eval x = .pointer (some a') := by generalize a.eval x = y at kx; cases kx <;> first | exact ⟨_, rfl⟩ | (rename_i hl; simp [isLit] at hl)
      obtain ⟨a', ha⟩ := this
      exact wp_of_value (v' := a.eval x) (by simp [execOp, hop, ha]) (k _ _ (same kx)) hnd
    · rename_i f xs ys hx
      cases e
      have kx := ev1_sound F hx
      have : ∃ xs' ys', a.eval x = .func (.func f) xs' ys' := by generalize a.eval x = y at kx; cases kx <;> first | exact ⟨_, _, rfl⟩ | (rename_i hl; simp [isLit] at hl)
      obtain ⟨xs', ys', ha⟩ := this
      exact wp_of_value (v' := a.eval x) (by simp [execOp, hop, ha]) (k _ _ (same kx)) hnd
    · rename_i f xs ys hx
      cases e
      have kx := ev1_sound F hx
      have : ∃ f' xs' ys', a.eval x = .func (.yield f') xs' ys' := by generalize a.eval x = y at kx; cases kx <;> first | exact ⟨_, _, _, rfl⟩ | (rename_i hl; simp [isLit] at hl)
      obtain ⟨f', xs', ys', ha⟩ := this
      exact wp_of_value (v' := a.eval x) (by simp [execOp, hop, ha]) (k _ _ (same kx)) hnd
    · cases e
  case binOp op t x y t2 =>
    simp only [Option.bind_eq_some_iff, Option.map_eq_some_iff] at e
    obtain ⟨x', hx, y', hy, u, hu, e⟩ := e; cases e
    obtain ⟨q1, q2⟩ := aBin_run hu (ev1_sound F hx) (ev1_sound F hy) x y (fun h => h) w
    exact wp_of_value (by simp only [execOp, hop]; rw [Sem.run_bind, q1]; rfl) (k _ _ (same (.lit q2))) hnd
  case unOp op t x =>
    simp only [Option.bind_eq_some_iff, Option.map_eq_some_iff] at e
    obtain ⟨x', hx, u, hu, e⟩ := e; cases e
    obtain ⟨q1, q2⟩ := aUn_run (P := P) hu (ev1_sound F hx) w
    exact wp_of_value (by simp [execOp, hop, q1]) (k _ _ (same (.lit q2))) hnd
  case convert s d x =>
    simp only [Option.bind_eq_some_iff] at e
    obtain ⟨x', hx, e⟩ := e
    split at e
    · obtain ⟨q1, q2, q3⟩ := aConvPtr_run R e (ev1_sound F hx)
      subst q2; subst q3
      exact wp_of_value (v' := a.eval x) (w' := w) (by simp [execOp, hop, q1]) (k _ _ (same (ev1_sound F hx))) hnd
    · obtain ⟨ρ', u', w', q1, q2, q3, q4, q5⟩ := aConvert_run R e (ev1_sound F hx)
      exact wp_of_value (v' := u') (w' := w') (by simp [execOp, hop, q1]) (k _ _ ⟨ρ', q2, q3, q4, q5⟩) hnd
  case makeFunc fn first cap =>
    split at e
    · cases e
    rename_i hny
    simp only [Option.bind_eq_some_iff, Option.some.injEq] at e
    obtain ⟨xs, hx, ys, hy, e⟩ := e; cases e
    have k1 := evL_sound F hx
    have k2 := evL_sound F hy
    refine wp_of_value (v' := .func fn (first.map a.eval) (cap.map a.eval)) (w' := w) (by simp [execOp, hop, Instr.makeFunc]) (k _ _ (same ?_)) hnd
    refine .func (by simpa using hny) (by simpa using k1.length) (by simpa using k2.length) (fun i v v' p q => ?_) (fun i v v' p q => ?_)
    · obtain ⟨u, h1, h2⟩ := k1.get i v (by simpa using p)
      rw [List.getElem?_map] at h1; rw [Array.getElem?_map] at q
      rw [← Array.getElem?_toList] at q; rw [q] at h1; cases h1; exact h2
    · obtain ⟨u, h1, h2⟩ := k2.get i v (by simpa using p)
      rw [List.getElem?_map] at h1; rw [Array.getElem?_map] at q
      rw [← Array.getElem?_toList] at q; rw [q] at h1; cases h1; exact h2
  case makeSlice t l c =>
    simp only [Option.bind_eq_some_iff] at e
    obtain ⟨l', hl, c', hc, e⟩ := e
    obtain ⟨ρ', u', w', q1, q2, q3, q4, q5⟩ := aMakeSlice_run R e (ev1_sound F hl) (ev1_sound F hc)
    exact wp_of_value (v' := u') (w' := w') (by simp [execOp, hop, q1]) (k _ _ ⟨ρ', q2, q3, q4, q5⟩) hnd
  case slice t x lo hi mx =>
    simp only [Option.bind_eq_some_iff, Option.map_eq_some_iff] at e
    obtain ⟨x', hx, lo', hlo, hi', hhi, mx', hmx, u, hu, e⟩ := e; cases e
    obtain ⟨u', q1, q2⟩ := aSlice_run R hu (ev1_sound F hx) (evO_sound F hlo) (evO_sound F hhi) (evO_sound F hmx)
    exact wp_of_value (v' := u') (by simp [execOp, hop, q1]) (k _ _ (same q2)) hnd
  case fieldAddr t x i =>
    simp only [Option.bind_eq_some_iff, Option.map_eq_some_iff] at e
    obtain ⟨x', hx, u, hu, e⟩ := e; cases e
    obtain ⟨u', q1, q2⟩ := aFieldAddr_run hu (ev1_sound F hx) w
    exact wp_of_value (v' := u') (by simp [execOp, hop, q1]) (k _ _ (same q2)) hnd
  case field t x i =>
    simp only [Option.bind_eq_some_iff, Option.map_eq_some_iff] at e
    obtain ⟨x', hx, u, hu, e⟩ := e; cases e
    obtain ⟨u', q1, q2⟩ := aField_run hu (ev1_sound F hx) w
    exact wp_of_value (v' := u') (by simp [execOp, hop, q1]) (k _ _ (same q2)) hnd
  case indexAddr t x i =>
    simp only [Option.bind_eq_some_iff, Option.map_eq_some_iff] at e
    obtain ⟨x', hx, i', hi, u, hu, e⟩ := e; cases e
    obtain ⟨u', q1, q2⟩ := aIndexAddr_run hu (ev1_sound F hx) (ev1_sound F hi) w
    exact wp_of_value (v' := u') (by simp [execOp, hop, q1]) (k _ _ (same q2)) hnd
  case index t x i =>
    simp only [Option.bind_eq_some_iff, Option.map_eq_some_iff] at e
    obtain ⟨x', hx, i', hi, u, hu, e⟩ := e; cases e
    obtain ⟨u', q1, q2⟩ := aIndex_run hu (ev1_sound F hx) (ev1_sound F hi) w
    exact wp_of_value (v' := u') (by simp [execOp, hop, q1]) (k _ _ (same q2)) hnd
  case range t x =>
    simp only [Option.bind_eq_some_iff] at e
    obtain ⟨x', hx, e⟩ := e
    obtain ⟨ρ', u', w', q1, q2, q3, q4, q5⟩ := aRange_run R e (ev1_sound F hx)
    exact wp_of_value (v' := u') (w' := w') (by simp [execOp, hop, q1]) (k _ _ ⟨ρ', q2, q3, q4, q5⟩) hnd
  case makeMap t r =>
    simp only [Option.bind_eq_some_iff] at e
    obtain ⟨r', hr, e⟩ := e
    obtain ⟨ρ', u', w', q1, q2, q3, q4, q5⟩ := aMakeMap_run R e (evO_sound F hr)
    exact wp_of_value (v' := u') (w' := w') (by simp [execOp, hop, q1]) (k _ _ ⟨ρ', q2, q3, q4, q5⟩) hnd
  case lookup t m x ok =>
    simp only [Option.bind_eq_some_iff, Option.map_eq_some_iff] at e
    obtain ⟨m', hm, x', hx, u, hu, e⟩ := e; cases e
    obtain ⟨u', q1, q2⟩ := aLookup_run R hu (ev1_sound F hm) (ev1_sound F hx)
    exact wp_of_value (v' := u') (w' := w) (by simp [execOp, hop, q1]) (k _ _ (same q2)) hnd
  case mapUpdate t m x y =>
    simp only [Option.bind_eq_some_iff, Option.map_eq_some_iff] at e
    obtain ⟨m', hm, x', hx, y', hy, h2, hu, e⟩ := e; cases e
    obtain ⟨w', q1, q2, q3⟩ := aMapUpdate_run R hu (ev1_sound F hm) (ev1_sound F hx) (ev1_sound F hy)
    exact wp_of_skip (w' := w') (by simp [execOp, hop, q1]) (k _ _ ⟨ρ, Le.refl _, .undef, q2, q3⟩) hnd
  case makeInterface t x =>
    simp only [Option.bind_eq_some_iff] at e
    obtain ⟨x', hx, e⟩ := e
    split at e
    · cases e
    · rename_i d hni hd
      cases e
      refine wp_of_value (v' := .iface t (a.eval x)) (w' := w) ?_ (k _ _ (same (.iface (ev1_sound F hx)))) hnd
      simp only [execOp, hop, Instr.makeInterface, Sem.run_bind, run_underlying hd, Result.andThen_ok]
      cases hd2 : d <;> first | rfl | exact absurd hd2 (hni _)
    · cases e
  case typeAssert x xt t ok =>
    simp only [Option.bind_eq_some_iff, Option.map_eq_some_iff] at e
    obtain ⟨x', hx, u, hu, e⟩ := e; cases e
    obtain ⟨u', q1, q2⟩ := aAssert_run (P := P) (xt := xt) hu (ev1_sound F hx) w
    exact wp_of_value (v' := u') (w' := w) (by simp [execOp, hop, q1]) (k _ _ (same q2)) hnd
  case next it isS =>
    cases isS with
    | false => simp at e
    | true =>
      simp only [Option.bind_eq_some_iff] at e
      obtain ⟨x', hx, e⟩ := e
      obtain ⟨ρ', u', w', q1, q2, q3, q4, q5⟩ := aNext_run (P := P) R e (ev1_sound F hx) o.type
      exact wp_of_value (v' := u') (w' := w') (by simp [execOp, hop, q1]) (k _ _ ⟨ρ', q2, q3, q4, q5⟩) hnd
  case extract x i =>
    simp only [Option.bind_eq_some_iff] at e
    obtain ⟨x', hx, e⟩ := e
    split at e
    · rename_i vs
      simp only [Option.map_eq_some_iff] at e
      obtain ⟨u, hu, e⟩ := e; cases e
      obtain ⟨ys, hy, ky⟩ := VR.tuple_iff.1 (ev1_sound F hx)
      obtain ⟨u', h1, h2⟩ := ky.get i v (by simpa using hu)
      rw [Array.getElem?_toList] at h1
      exact wp_of_value (v' := u') (w' := w) (by simp [execOp, hop, hy, Instr.extract, h1]) (k _ _ (same h2)) hnd
    · cases e
  case call c =>
    unfold evCall at e
    simp only [Option.bind_eq_some_iff] at e
    obtain ⟨xs, hx, e⟩ := e
    have kx := evL_sound F hx
    split at e
    · rename_i b hb
      obtain ⟨u', w', q1, q2⟩ := aBuiltin_run R e kx o.type (c.args.map fun | .const _ => true | _ => false)
      refine wp_of_value (v' := u') (w' := w') ?_ (k _ _ q2) hnd
      simp only [execOp, hop, resolve, hb, Sem.run_bind, Sem.run_pure, Result.andThen_ok, invoke]
      rw [map_args]; exact q1
    · rename_i f hf
      split at e
      · rename_i f' xs0 ys0 hf'
        have kf := ev1_sound F hf'
        have hC := hcall _ _ _ _ _ e
        generalize hy : a.eval f = y at kf
        cases kf with
        | lit hl => simp [isLit] at hl
        | yld hp =>
          rename_i l p
          simp only at hC
          obtain ⟨g, tmps, as, bd, y1, y2⟩ := hC ρ w _ p R (by simpa using kx) hp
          have hrun : (execOp a.eval o).run P w = .ok (.round p.b g tmps as bd) w := by
            simp only [execOp, hop, resolve, hf, hy, Deferred.ofValue, Sem.run_bind, Sem.run_pure, Result.andThen_ok, invoke]
            rw [map_args, show (#[] ++ (c.args.toList.map a.eval).toArray : Array Value) = (c.args.toList.map a.eval).toArray from by simp]
            exact y1
          unfold Oper.wpIn
          rw [Oper.semAt_eq _ _ _ hnd, hrun, Oper.uponIn_round]
          refine ⟨fun _ _ => trivial, by simp [Fence.depth], (y2 _).mono fun e w' hh => ?_⟩
          obtain ⟨ρ', v', rfl, b1, b2, b3, b4⟩ := hh
          exact k _ _ ⟨ρ', b1, b2, b3, b4⟩
        | func hny a1 a2 a3 a4 =>
          rename_i xs' ys'
          have k1 : VRs ρ xs0.toList xs'.toList := VRs.of_get (by simpa using a1) (fun i v v' p q => a3 i v v' (by simpa using p) (by simpa using q))
          have k2 : VRs ρ ys0.toList ys'.toList := VRs.of_get (by simpa using a2) (fun i v v' p q => a4 i v v' (by simpa using p) (by simpa using q))
          cases f' with
          | func f' =>
            have hinv : (execOp a.eval o).run P w = (callFunc f' (xs'.toList ++ c.args.toList.map a.eval ++ ys'.toList).toArray).run P w := by
              simp only [execOp, hop, resolve, hf, hy, Deferred.ofValue, Sem.run_bind, Sem.run_pure, Result.andThen_ok, invoke]
              rw [map_args]
              rw [show xs' ++ (c.args.toList.map a.eval).toArray ++ ys' = (xs'.toList ++ c.args.toList.map a.eval ++ ys'.toList).toArray from by rw [← Array.toList_inj]; simp]
            rcases hC with ⟨⟨fn, g1, g2, g3⟩, hc⟩ | ⟨_, hc⟩
            rotate_left
            · obtain ⟨v', w', r1, r2⟩ := hc ρ w _ R ((k1.append kx).append k2)
              exact wp_of_value (v' := v') (w' := w') (by rw [hinv]; exact r1) (k _ _ r2) hnd
            have hC := hc ρ w _ R ((k1.append kx).append k2)
            have hrun : (execOp a.eval o).run P w = .ok (.enter f' (xs'.toList ++ c.args.toList.map a.eval ++ ys'.toList).toArray) w := by
              simp only [execOp, hop, resolve, hf, hy, Deferred.ofValue, Sem.run_bind, Sem.run_pure, Result.andThen_ok, invoke]
              rw [map_args]
              rw [show xs' ++ (c.args.toList.map a.eval).toArray ++ ys' = (xs'.toList ++ c.args.toList.map a.eval ++ ys'.toList).toArray from by rw [← Array.toList_inj]; simp]
              exact run_callFunc g1 g2 g3 _ _
            unfold Oper.wpIn
            rw [Oper.semAt_eq _ _ _ hnd, hrun, Oper.uponIn_enter]
            refine ⟨fun _ _ => trivial, by simp [Fence.depth], callsIn_Wf.2 (hC.mono fun e w' hh => ?_)⟩
            obtain ⟨ρ', v', rfl, b1, b2, b3, b4⟩ := hh
            exact k _ _ ⟨ρ', b1, b2, b3, b4⟩
          | yield l => cases hny
          | _ => exact hC.elim
      · cases e
    · cases e
  all_goals (cases e)
end Go.Ev
