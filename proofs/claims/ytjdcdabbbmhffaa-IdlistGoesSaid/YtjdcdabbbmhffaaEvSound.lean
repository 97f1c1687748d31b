/- A part of the proof that what the evaluator of YtjdcdabbbmhffaaEvCore answers, the call answers in the model. No condition. -/
import Derived.Test.YtjdcdabbbmhffaaEvDraw4
import Derived.Scope
set_option linter.unusedVariables false
set_option linter.unusedSimpArgs false
namespace Go.Ev
open Go.RowKit (Below)
variable {P : Program} {D : List Deferred} {rr : Option Nat} {n0 : Nat}

theorem isL_rep (n j : Nat) : isL (Array.replicate n false) j = false := by
  unfold isL
  simp only [Array.getD_eq_getD_getElem?, Array.getElem?_replicate]
  split <;> rfl
theorem draw_run (hm : P.follows .mixedOrders = true) {id nt : Nat} {ops : Array Oper} {ρ : Rho} {fr : Fr} {h : H} {a : Act} {w : World} {fr' : Fr} {h' : H} {ts : List Tr} {hs : List H} {Q : Exit → Act → World → Prop}
    (R : Rel n0 ρ h w) (F : FR ρ nt D fr a) (facts : Facts P n0 nt ops ops.toList fr h ts hs fr') (htie : tieOk P ops 0 ops.toList (befs ops.toList []) = true) (hreads : ReadsP P n0 ops.toList (befs ops.toList []) hs ts)
    (hlast : hs.getLast? = some h') (k : ∀ a' w', St P n0 nt D w ρ fr' h' a' w' → Q .normal a' w') : (Code.region id ops true).wpIn (Wf rr) 0 P Q a w := by
  refine wpIn_region_any hm ?_
  refine draw_sim (w0 := w) (ρ0 := ρ) facts htie hreads hlast k ops.size _ _ _ ⟨by simp, ?_, F.size, F.defers, ρ, h, Le.refl _, ?_, R.world rfl, ⟨rfl, rfl, rfl, Nat.le_refl _, fun _ _ => rfl⟩, ?_⟩ ?_
  · intro j y hy hl
    rw [isL_rep] at hl; cases hl
  · have : cntF P (isL (Array.replicate ops.size false)) 0 ops.toList = 0 := by
      rw [cntF_congr (q' := fun _ => false) ops.toList 0 (fun k y _ _ => isL_rep _ _), cntF_none]
    rw [this]; exact facts.1
  · intro t v hv
    rw [cur_skip (i := 0) ops.size (Nat.zero_le _) (fun j _ _ hl => by rw [isL_rep] at hl; cases hl)] at hv
    exact F.get t v hv
  · have : ∀ n, un (isL (Array.replicate ops.size false)) n = n := by
      intro n
      induction n with
      | zero => rfl
      | succ n ih =>
        simp only [un, ih]
        rw [isL_rep]; rfl
    exact this _
theorem evDraw_sound (hm : P.follows .mixedOrders = true) {call : CallT} (hcall : CallOk P n0 call) {id nt : Nat} {ops : Array Oper} {ρ : Rho} {fr : Fr} {h : H} {a : Act} {w : World} {fr' : Fr} {h' : H} {Q : Exit → Act → World → Prop}
    (R : Rel n0 ρ h w) (F : FR ρ nt D fr a) (e : evDraw P call nt ops fr h = some (fr', h')) (k : ∀ a' w', St P n0 nt D w ρ fr' h' a' w' → Q .normal a' w') : (Code.region id ops true).wpIn (Wf rr) 0 P Q a w := by
  unfold evDraw at e
  simp only [Option.bind_eq_some_iff] at e
  obtain ⟨⟨ts, hs, f⟩, htr, e⟩ := e
  simp only at e
  split at e
  · rename_i hc
    simp only [Bool.and_eq_true] at hc
    obtain ⟨htie, hreads⟩ := hc
    simp only [Option.map_eq_some_iff, Prod.mk.injEq] at e
    obtain ⟨hE, hlast, rfl, rfl⟩ := e
    exact draw_run hm R F (evTr_facts hcall _ _ _ _ _ _ htr) htie (reads_sem hcall hreads) hlast k
  · cases e

def ExR : Ex → Exit → Prop
  | .normal, .normal => True
  | .exit i, .exit j => i = j
  | .ret, .ret => True
  | _, _ => False
/-- the marks among the deferred calls -/
def MarksR (ρ : Rho) : List Nat → List Deferred → Prop
  | [], [] => True
  | d :: ds, m :: D => (∃ p, ρ[d]? = some p ∧ m = { target := .collected p.b, args := #[] }) ∧ MarksR ρ ds D
  | _, _ => False
theorem MarksR.mono {ρ ρ' : Rho} (hl : Le ρ ρ') : ∀ {ds : List Nat} {D : List Deferred}, MarksR ρ ds D → MarksR ρ' ds D
  | [], [], _ => trivial
  | _ :: _, _ :: _, ⟨⟨p, h1, h2⟩, h3⟩ => ⟨⟨p, hl _ _ h1, h2⟩, h3.mono hl⟩
/-- the record whose round it is -/
def RoR (ρ : Rho) : Option Nat → Option Nat → Prop
  | none, none => True
  | some l, some l' => ∃ p, ρ[l]? = some p ∧ l' = p.b
  | _, _ => False
theorem RoR.mono {ρ ρ' : Rho} (hl : Le ρ ρ') {ro rr : Option Nat} (h : RoR ρ ro rr) : RoR ρ' ro rr := by
  cases ro <;> cases rr <;> first | exact h | (obtain ⟨p, h1, h2⟩ := h; exact ⟨p, hl _ _ h1, h2⟩)

/-- behind a piece of code: the frame and the heap of the evaluator, related -/
def St2 (P : Program) (n0 nt : Nat) (w0 : World) (ρ0 : Rho) (fr : Fr) (ds : List Nat) (h : H) (a : Act) (w : World) : Prop :=
  ∃ ρ, Le ρ0 ρ ∧ Rel n0 ρ h w ∧ FR ρ nt a.defers fr a ∧ MarksR ρ ds a.defers ∧ Below n0 w0 w
/-- behind a piece of code: the continuation answers r from a state that is related -/
def Post (P : Program) (n0 nt : Nat) (w0 : World) (ρ0 : Rho) (K : KT) (r : Out) : Exit → Act → World → Prop :=
  fun e a w => ∃ e' fr ds h, ExR e' e ∧ K e' fr ds h = some r ∧ St2 P n0 nt w0 ρ0 fr ds h a w
theorem St2.trans {nt : Nat} {w0 w1 w2 : World} {ρ0 ρ1 : Rho} {fr : Fr} {ds : List Nat} {h : H} {a : Act} (hl : Le ρ0 ρ1) (hb : Below n0 w0 w1) (s : St2 P n0 nt w1 ρ1 fr ds h a w2) : St2 P n0 nt w0 ρ0 fr ds h a w2 := by
  obtain ⟨ρ, a1, a2, a3, a4, a5⟩ := s
  exact ⟨ρ, hl.trans a1, a2, a3, a4, hb.trans a5⟩
theorem St.two {nt : Nat} {w0 w : World} {ρ0 : Rho} {fr : Fr} {ds : List Nat} {h : H} {a : Act} (s : St P n0 nt D w0 ρ0 fr h a w) (m : MarksR ρ0 ds D) : St2 P n0 nt w0 ρ0 fr ds h a w := by
  obtain ⟨ρ, a1, a2, a3, a4⟩ := s
  have hd := a3.defers
  subst hd
  exact ⟨ρ, a1, a2, a3, m.mono a1, a4⟩

theorem stepR_scope {b : Frame} {a : Act} {k : List Item} {cs : List Frame} {w : World} {c : Code} : step P (lone (b.atR a (.code (.scope c) :: k)) cs w) = .next (lone (b.atR a (.code c :: .inScope c :: k)) cs w) :=
  step_lone_go (by simp [stepG, stepG.exec, Frame.atR])
theorem stepR_inScope {b : Frame} {a : Act} {k : List Item} {cs : List Frame} {w : World} {c : Code} : step P (lone (b.atR a (.inScope c :: k)) cs w) = .next (lone (b.atR a k) cs w) :=
  step_lone_go (by simp [stepG, stepG.exec, Frame.atR])
theorem wpIn_scope {F : Fence} {n : Nat} {Q : Exit → Act → World → Prop} {a : Act} {w : World} {c : Code} (h : c.wpIn F n P (Exit.noGoto Q) a w) : (Code.scope c).wpIn F n P Q a w := by
  intro b k cs hro hb hr
  have h0 : (lone (b.atR a (.code (.scope c) :: k)) cs w).fenced P F := fenced_calm hb hr rfl
  obtain ⟨e, a₁, w₁, hq, harr⟩ := h b (.inScope c :: k) cs hro hb hr
  cases e with
  | normal => exact ⟨.normal, a₁, w₁, hq, .head h0 stepR_scope (StepsIn.trans harr (.one (fenced_calm hb hr rfl) stepR_inScope))⟩
  | exit id =>
    have hx : exitTo id (.inScope c :: k) = exitTo id k := by simp [exitTo]
    exact ⟨.exit id, a₁, w₁, hq, fun k' hk => .head h0 stepR_scope (harr.1 k' (by rw [hx]; exact hk)),
      fun hr' hk => let ⟨k₁, h1, h2⟩ := harr.2 hr' (by rw [hx]; exact hk); ⟨k₁, h1, .head h0 stepR_scope h2⟩⟩
  | goto l => exact hq.elim
  | ret => exact ⟨_, a₁, w₁, hq, .of_steps (.one h0 stepR_scope) harr⟩
  | panic ch => exact ⟨_, a₁, w₁, hq, .of_steps (.one h0 stepR_scope) harr⟩
  | outgrown => exact ⟨_, a₁, w₁, hq, .of_steps (.one h0 stepR_scope) harr⟩

theorem least {p : Nat → Prop} (h : ∃ m, p m) : ∃ m, p m ∧ ∀ k, p k → m ≤ k := by
  obtain ⟨m, hm⟩ := h
  induction m using Nat.strongRecOn with
  | _ m ih =>
    by_cases hx : ∃ k, k < m ∧ p k
    · obtain ⟨k, hk, hp⟩ := hx; exact ih k hk hp
    · exact ⟨m, hm, fun k hk => Nat.le_of_not_lt fun hlt => hx ⟨k, hlt, hk⟩⟩

theorem loopOf_some {h : H} {l : Nat} {x : Fr × Nat × Array Tmp × Code × Code × LoopState × Option Code × Nat} (e : loopOf h l = some x) :
    h[l]? = some (.loop x.1 x.2.1 x.2.2.1 x.2.2.2.1 x.2.2.2.2.1 x.2.2.2.2.2.1 x.2.2.2.2.2.2.1 x.2.2.2.2.2.2.2) := by
  unfold loopOf at e
  split at e
  · rename_i fr nt ps as body st pend d hh; cases e; exact hh
  · cases e
/-- a record's object in the heap -/
theorem loop_obj {ρ : Rho} {h : H} {w : World} (R : Rel n0 ρ h w) {l : Nat} {p : Pl} (hp : ρ[l]? = some p) {x : Fr × Nat × Array Tmp × Code × Code × LoopState × Option Code × Nat} (e : loopOf h l = some x) :
    ∃ r : Loop, w.heap[p.b]? = some (.loop r) ∧ OR ρ (.loop x.1 x.2.1 x.2.2.1 x.2.2.2.1 x.2.2.2.2.1 x.2.2.2.2.2.1 x.2.2.2.2.2.2.1 x.2.2.2.2.2.2.2) (.loop r) := by
  obtain ⟨_, o, ho, hor⟩ := R.obj _ _ _ hp (loopOf_some e) rfl
  cases hor with
  | loop a1 a2 a3 a4 a5 a6 a7 a8 a9 => exact ⟨_, ho, .loop a1 a2 a3 a4 a5 a6 a7 a8 a9⟩
theorem putObj_below {w : World} {b : Nat} {o : Obj} (hn : n0 ≤ b) : Below n0 w (w.putObj b o) :=
  ⟨rfl, rfl, rfl, by simp, fun k hk => World.putObj_heap_other (by omega)⟩
/-- a record's object is set -/
theorem Rel.setLoop {ρ : Rho} {h : H} {w : World} (R : Rel n0 ρ h w) {l : Nat} {p : Pl} (hp : ρ[l]? = some p) {ob ob' : Ob} (hb : h[l]? = some ob) (hob : isObj ob = true) {o' : Obj} (hob' : isObj ob' = true ∨ ob' = .dead)
    (hnc : notCells o' = true) (hor : isObj ob' = true → OR ρ ob' o') : Rel n0 ρ (h.set l ob') (w.putObj p.b o') ∧ Below n0 w (w.putObj p.b o') := by
  obtain ⟨⟨hn, _⟩, o, ho, _⟩ := R.obj _ _ _ hp hb hob
  exact ⟨R.setObj hp hb hob hob' (by simp) (World.putObj_heap_same (Array.getElem?_eq_some_iff.1 ho).1) hnc hor fun k hk => World.putObj_heap_other hk, putObj_below hn⟩
def JumpOk (P : Program) (rr : Option Nat) (Q : Exit → Act → World → Prop) (a : Act) (w : World) : Option Code → Prop
  | none => Q .normal a w
  | some c => c.wpIn (Wf rr) 0 P Q a w
theorem jumpK_sound {nt : Nat} {pend : Option Code} {fr : Fr} {ds : List Nat} {h : H} {K : KT} {r : Out} {a : Act} {w w0 : World} {ρ0 : Rho} (e : jumpK pend fr ds h K = some r) (s : St2 P n0 nt w0 ρ0 fr ds h a w) :
    JumpOk P rr (Post P n0 nt w0 ρ0 K r) a w pend := by
  unfold jumpK at e
  split at e
  · exact ⟨.normal, fr, ds, h, trivial, e, s⟩
  · exact wpIn_ret ⟨.ret, fr, ds, h, trivial, e, s⟩
  · exact wpIn_exit ⟨.exit _, fr, ds, h, rfl, e, s⟩
  · cases e

theorem range_sound {call : CallT} (hcall : CallOk P n0 call) {nt n : Nat} {ro : Option Nat} {g : Operand} {ps : Array Tmp} {as body : Code} {ρ : Rho} {fr : Fr} {ds : List Nat} {h : H} {a : Act} {w : World} {K : KT} {r : Out}
    (R : Rel n0 ρ h w) (F : FR ρ nt a.defers fr a) (M : MarksR ρ ds a.defers) (O : RoR ρ ro rr) (e : evK P call ro nt n (.rangeFunc g ps as body) fr ds h K = some r) :
    (Code.rangeFunc g ps as body).wpIn (Wf rr) 0 P (Post P n0 nt w ρ K r) a w := by
  simp only [evK] at e
  split at e
  · rename_i f xs ys hg
    split at e
    · cases e
    rename_i hgo
    simp only [Option.bind_eq_some_iff] at e
    obtain ⟨⟨d, ds1, h1⟩, hd, ⟨v, h'⟩, hc, ⟨fr2, nt2, ps2, as2, bd2, st, pend, d2⟩, hl, e⟩ := e
    simp only at e hc hl
    split at e
    · cases e
    rename_i hst
    obtain ⟨⟨fn, g1, g2, g3⟩, hc⟩ := (hcall _ _ _ _ _ hc).resolve_right fun hx => by
      obtain ⟨⟨fn, g1, g2⟩, _⟩ := hx
      simp only [isGo, g1, Option.any_some, Bool.not_eq_true', Bool.not_eq_false] at hgo
      cases hb : fn.body <;> simp [hb] at g2 hgo
    -- the block for deferred calls
    have enter : ∀ fn' : FuncId, ∃ (mark : List Deferred) (w1 : World) (rd : Nat) (ρ1 : Rho) (p : Pl), Rel n0 ρ1 h1 w1 ∧ Le ρ ρ1 ∧ MarksR ρ1 ds1 (mark ++ a.defers) ∧ Below n0 w w1 ∧ ρ1[d]? = some p ∧ rd = p.b ∧
        (Instr.enterLoop fn' a.tmps ps as body rr).run P w = .ok (w1.heap.size, mark) (w1.alloc (.loop { state := .ready, pending := none, fn := fn', tmps := a.tmps, params := ps, assign := as, body, defers := rd })) := by
      intro fn'
      unfold dfrOf at hd
      cases ro with
      | none =>
        cases rr with
        | some _ => exact O.elim
        | none =>
          cases hd
          refine ⟨[{ target := .collected w.heap.size, args := #[] }], w.alloc (.deferred (some [])), w.heap.size, ρ ++ [⟨w.heap.size, 0, 0, 0⟩], ⟨w.heap.size, 0, 0, 0⟩, R.pushObj (Pushed.alloc w _) rfl .dfr, Le.app _ _, ⟨⟨⟨w.heap.size, 0, 0, 0⟩, get_len R.len.symm, rfl⟩, M.mono (Le.app _ _)⟩, (Pushed.alloc w _).below R.n0le, get_len R.len.symm, rfl, ?_⟩
          rw [run_enterLoop_outer]; simp
      | some l0 =>
        cases rr with
        | none => exact O.elim
        | some l0' =>
          obtain ⟨p0, hp0, rfl⟩ := O
          simp only at hd
          split at hd
          · rename_i fr0 nt0 ps0 as0 bd0 st0 pe0 d0 hl0
            cases hd
            obtain ⟨r0, hr0, hor⟩ := loop_obj R hp0 hl0
            cases hor with
            | loop a1 a2 a3 a4 a5 a6 a7 a8 a9 =>
              exact ⟨[], w, r0.defers, ρ, _, R, Le.refl _, M, Below.refl _ _, a8, a9, run_enterLoop_inner hr0 _ _ _ _ _⟩
          · cases hd
    have kf := ev1_sound F hg
    obtain ⟨xs', ys', ha, k1, k2⟩ : ∃ xs' ys', a.eval g = .func (.func f) xs' ys' ∧ VRs ρ xs.toList xs'.toList ∧ VRs ρ ys.toList ys'.toList := by
      generalize a.eval g = y at kf
      cases kf with
      | lit hl => simp [isLit] at hl
      | func hny a1 a2 a3 a4 => exact ⟨_, _, rfl, VRs.of_get (by simpa using a1) (fun i v v' p q => a3 i v v' (by simpa using p) (by simpa using q)), VRs.of_get (by simpa using a2) (fun i v v' p q => a4 i v v' (by simpa using p) (by simpa using q))⟩
    refine wpIn_rangeFunc fun fn' _ => ?_
    obtain ⟨mark, w1, rd, ρ1, p, R1, L1, M1, B1, hpd, hrd, hen⟩ := enter fn'
    have hor : OR (ρ1 ++ [⟨w1.heap.size, 0, 0, 0⟩]) (.loop fr nt ps as body .ready none d) (.loop { state := .ready, pending := none, fn := fn', tmps := a.tmps, params := ps, assign := as, body, defers := rd }) :=
      .loop rfl rfl rfl rfl rfl F.size (fun t v hv => let ⟨v', x, y⟩ := F.get t v hv; ⟨v', x, y.mono (L1.trans (Le.app _ _))⟩) (Le.app _ _ _ _ hpd) hrd
    obtain ⟨W2, hW2⟩ : ∃ W2, w1.alloc (.loop { state := .ready, pending := none, fn := fn', tmps := a.tmps, params := ps, assign := as, body, defers := rd }) = W2 := ⟨_, rfl⟩
    have R2 := R1.pushObj (Pushed.alloc w1 _) rfl hor
    have B2 := (Pushed.alloc w1 (.loop { state := .ready, pending := none, fn := fn', tmps := a.tmps, params := ps, assign := as, body, defers := rd })).below R1.n0le
    rw [hW2] at hen R2 B2
    have L2 : Le ρ (ρ1 ++ [⟨w1.heap.size, 0, 0, 0⟩]) := L1.trans (Le.app _ _)
    have hpl : (ρ1 ++ [⟨w1.heap.size, 0, 0, 0⟩] : Rho)[h1.length]? = some ⟨w1.heap.size, 0, 0, 0⟩ := get_len R1.len.symm
    have hC := hc _ _ (xs'.toList ++ [.func (.yield w1.heap.size) #[] #[]] ++ ys'.toList) R2 (((k1.mono L2).append (show VRs _ [.func (.yield h1.length) #[] #[]] [.func (.yield w1.heap.size) #[] #[]] from ⟨.yld hpl, trivial⟩)).append (k2.mono L2))
    refine ⟨w1.heap.size, mark, W2, { target := .fn (.func f) ys', args := xs' ++ #[.func (.yield w1.heap.size) #[] #[]] }, W2, f, (xs'.toList ++ [Value.func (.yield w1.heap.size) #[] #[]] ++ ys'.toList).toArray, W2, hen, ?_, fun _ _ => trivial, ?_, by simp [Fence.depth], ?_⟩
    · have hc2 : a.eval (.const (.func (.yield w1.heap.size) #[] #[])) = .func (.yield w1.heap.size) #[] #[] := rfl
      simp only [resolve, ha, Deferred.ofValue, List.map_toArray, List.map_cons, List.map_nil, hc2, Sem.run_pure]
    · simp only [invoke]
      rw [show xs' ++ #[Value.func (.yield w1.heap.size) #[] #[]] ++ ys' = (xs'.toList ++ [Value.func (.yield w1.heap.size) #[] #[]] ++ ys'.toList).toArray from by rw [← Array.toList_inj]; simp]
      exact run_callFunc g1 g2 g3 _ _
    · refine callsIn_Wf.2 (hC.mono fun e w3 hh => ?_)
      obtain ⟨ρ3, v', rfl, l3, _, R3, B3⟩ := hh
      have hp3 := l3 _ _ hpl
      obtain ⟨r3, hr3, hor3⟩ := loop_obj R3 hp3 hl
      cases hor3 with
      | loop a1 a2 a3 a4 a5 a6 a7 a8 a9 =>
        refine ⟨r3.pending, _, run_endLoop hr3 (by rw [a1]; exact hst), ?_⟩
        obtain ⟨R4, B4⟩ := R3.setLoop hp3 (loopOf_some hl) rfl (ob' := .dead) (o' := .loop { r3 with state := .exhausted }) (.inr rfl) rfl (fun hx => by cases hx)
        have L3 : Le ρ ρ3 := L2.trans l3
        have s : St2 P n0 nt w ρ fr ds1 (h'.set h1.length .dead) { a with defers := mark ++ a.defers } _ :=
          ⟨ρ3, L3, R4, ⟨F.size, fun t v hv => let ⟨v', x, y⟩ := F.get t v hv; ⟨v', x, y.mono L3⟩, rfl⟩, M1.mono ((Le.app _ _).trans l3), ((B1.trans B2).trans B3).trans B4⟩
        have hj := jumpK_sound (P := P) (rr := rr) e s
        simp only at a2
        have hj' : ∀ x, x = pend → JumpOk P rr (Post P n0 nt w ρ K r) { a with defers := mark ++ a.defers } (w3.putObj w1.heap.size (.loop { r3 with state := .exhausted })) x := fun x hx => by rw [hx]; exact hj
        exact hj' _ a2
  · cases e

theorem evK_sound (hm : P.follows .mixedOrders = true) {call : CallT} (hcall : CallOk P n0 call) {nt n : Nat} {ro : Option Nat} : ∀ (c : Code) (ρ : Rho) (fr : Fr) (ds : List Nat) (h : H) (a : Act) (w : World) (K : KT) (r : Out),
    Rel n0 ρ h w → FR ρ nt a.defers fr a → MarksR ρ ds a.defers → RoR ρ ro rr → evK P call ro nt n c fr ds h K = some r → c.wpIn (Wf rr) 0 P (Post P n0 nt w ρ K r) a w := by
  intro c
  induction c with
  | skip =>
    intro ρ fr ds h a w K r R F M O e
    exact wpIn_skip ⟨.normal, fr, ds, h, trivial, e, ρ, Le.refl _, R, F, M, Below.refl _ _⟩
  | label l =>
    intro ρ fr ds h a w K r R F M O e
    exact wpIn_label ⟨.normal, fr, ds, h, trivial, e, ρ, Le.refl _, R, F, M, Below.refl _ _⟩
  | region id ops d =>
    intro ρ fr ds h a w K r R F M O e
    simp only [evK, Option.bind_eq_some_iff] at e
    obtain ⟨⟨fr', h'⟩, e1, e2⟩ := e
    cases d with
    | true =>
      simp only [if_true] at e1
      exact evDraw_sound hm hcall R F e1 fun a' w' s => ⟨.normal, fr', ds, h', trivial, e2, s.two M⟩
    | false =>
      simp only [Bool.false_eq_true, if_false] at e1
      exact wpIn_region_list (evOps_sound hcall _ ρ fr h a w fr' h' R F e1 fun a' w' s => ⟨.normal, fr', ds, h', trivial, e2, s.two M⟩)
  | seq x y ihx ihy =>
    intro ρ fr ds h a w K r R F M O e
    simp only [evK] at e
    refine wpIn_seq (wpIn_mono (ihx ρ fr ds h a w _ r R F M O e) ?_)
    rintro ex a1 w1 ⟨e', fr1, ds1, h1, he, hk, s⟩
    obtain ⟨ρ1, l1, R1, F1, M1, B1⟩ := s
    cases e' with
    | normal =>
      cases ex <;> simp only [ExR] at he
      simp only [Exit.then]
      refine wpIn_mono (ihy ρ1 fr1 ds1 h1 a1 w1 K r R1 F1 M1 (O.mono l1) hk) ?_
      rintro ex2 a2 w2 ⟨e2, fr2, ds2, h2, q1, q2, q3⟩
      exact ⟨e2, fr2, ds2, h2, q1, q2, q3.trans l1 B1⟩
    | exit i =>
      cases ex <;> simp only [ExR] at he
      subst he
      exact ⟨.exit i, fr1, ds1, h1, rfl, hk, ρ1, l1, R1, F1, M1, B1⟩
    | ret =>
      cases ex <;> simp only [ExR] at he
      exact ⟨.ret, fr1, ds1, h1, trivial, hk, ρ1, l1, R1, F1, M1, B1⟩
  | cond c x y ihx ihy =>
    intro ρ fr ds h a w K r R F M O e
    simp only [evK] at e
    split at e
    · rename_i hc
      exact wpIn_cond_true ((VR.lit_iff rfl).1 (ev1_sound F hc)) (ihx ρ fr ds h a w K r R F M O e)
    · rename_i hc
      exact wpIn_cond_false ((VR.lit_iff rfl).1 (ev1_sound F hc)) (ihy ρ fr ds h a w K r R F M O e)
    · cases e
  | block id c ih =>
    intro ρ fr ds h a w K r R F M O e
    simp only [evK] at e
    refine wpIn_block (wpIn_mono (ih ρ fr ds h a w _ r R F M O e) ?_)
    rintro ex a1 w1 ⟨e', fr1, ds1, h1, he, hk, s⟩
    cases e' with
    | normal => cases ex <;> simp only [ExR] at he; exact ⟨.normal, fr1, ds1, h1, trivial, hk, s⟩
    | exit j =>
      cases ex <;> simp only [ExR] at he
      subst he
      simp only [Exit.inBlock]
      simp only at hk
      split at hk
      · rename_i hj; rw [if_pos hj]; exact ⟨.normal, fr1, ds1, h1, trivial, hk, s⟩
      · rename_i hj; rw [if_neg hj]; exact ⟨.exit j, fr1, ds1, h1, rfl, hk, s⟩
    | ret => cases ex <;> simp only [ExR] at he; exact ⟨.ret, fr1, ds1, h1, trivial, hk, s⟩
  | loop c ih =>
    intro ρ fr ds h a w K r R F M O e
    simp only [evK] at e
    let I : Nat → Act → World → Prop := fun m a1 w1 => ∃ fr1 ds1 h1, loopK m (evK P call ro nt n c) fr1 ds1 h1 K = some r ∧ St2 P n0 nt w ρ fr1 ds1 h1 a1 w1
    classical
    let μ : Act → World → Nat := fun a1 w1 => if hx : ∃ m, I m a1 w1 then Classical.choose (least hx) else 0
    refine wpIn_loop (fun a1 w1 => ∃ m, I m a1 w1) μ ⟨n, fr, ds, h, e, ρ, Le.refl _, R, F, M, Below.refl _ _⟩ ?_
    intro a1 w1 hI
    have hmu : μ a1 w1 = Classical.choose (least hI) := dif_pos hI
    obtain ⟨fr1, ds1, h1, hl, ρ1, l1, R1, F1, M1, B1⟩ := (Classical.choose_spec (least hI)).1
    obtain ⟨m, hmm⟩ : ∃ m, Classical.choose (least hI) = m := ⟨_, rfl⟩
    rw [hmm] at hl hmu
    cases m with
    | zero => simp [loopK] at hl
    | succ m =>
      simp only [loopK] at hl
      refine wpIn_mono (ih ρ1 fr1 ds1 h1 a1 w1 _ r R1 F1 M1 (O.mono l1) hl) ?_
      rintro ex a2 w2 ⟨e', fr2, ds2, h2, he, hk, s⟩
      have s' : St2 P n0 nt w ρ fr2 ds2 h2 a2 w2 := s.trans l1 B1
      cases e' with
      | normal =>
        cases ex <;> simp only [ExR] at he
        have hI2 : I m a2 w2 := ⟨fr2, ds2, h2, hk, s'⟩
        refine ⟨⟨m, hI2⟩, ?_⟩
        have : μ a2 w2 ≤ m := by
          have hx : ∃ m, I m a2 w2 := ⟨m, hI2⟩
          rw [show μ a2 w2 = Classical.choose (least hx) from dif_pos hx]
          exact (Classical.choose_spec (least hx)).2 m hI2
        rw [hmu]; omega
      | exit j =>
        cases ex <;> simp only [ExR] at he
        subst he
        exact ⟨.exit j, fr2, ds2, h2, rfl, hk, s'⟩
      | ret =>
        cases ex <;> simp only [ExR] at he
        exact ⟨.ret, fr2, ds2, h2, trivial, hk, s'⟩
  | rangeFunc f ps as b ih1 ih2 =>
    intro ρ fr ds h a w K r R F M O e
    exact range_sound hcall R F M O e
  | exit id =>
    intro ρ fr ds h a w K r R F M O e
    exact wpIn_exit ⟨.exit id, fr, ds, h, rfl, e, ρ, Le.refl _, R, F, M, Below.refl _ _⟩
  | scope c ih =>
    intro ρ fr ds h a w K r R F M O e
    simp only [evK] at e
    refine wpIn_scope (wpIn_mono (ih ρ fr ds h a w K r R F M O e) ?_)
    rintro ex a1 w1 ⟨e', fr1, ds1, h1, he, hk, s⟩
    cases ex <;> first | exact ⟨e', fr1, ds1, h1, he, hk, s⟩ | (cases e' <;> exact he.elim)
  | goto l => intro ρ fr ds h a w K r R F M O e; simp [evK] at e
  | ret =>
    intro ρ fr ds h a w K r R F M O e
    exact wpIn_ret ⟨.ret, fr, ds, h, trivial, e, ρ, Le.refl _, R, F, M, Below.refl _ _⟩
  | refuse s => intro ρ fr ds h a w K r R F M O e; simp [evK] at e

theorem get_argFr : ∀ (args : List Value) (i t : Nat), get (argFr i args) t = if i ≤ t then args[t - i]? else none
  | [], i, t => by simp [argFr, get]
  | v :: r, i, t => by
    simp only [argFr, get, get_argFr r (i + 1) t]
    by_cases e : i = t
    · subst e; simp
    · rw [if_neg e]
      by_cases h1 : i + 1 ≤ t
      · rw [if_pos h1, if_pos (by omega), show t - i = (t - (i + 1)) + 1 from by omega]; simp
      · rw [if_neg h1, if_neg (by omega)]
def resOf (tmps : Array Value) : ResultVar → Sem Value
  | .tmp t => pure (tmps.getD t undef)
  | .cell a t => do loadVar t (← asAddr (tmps.getD a undef))
theorem results_eq (fn : Func) (tmps : Array Value) : results fn tmps = (do let vs ← fn.results.mapM (resOf tmps); pure (if h : vs.size = 1 then vs[0] else .tuple vs)) := by
  unfold results
  refine congrArg (fun (f : ResultVar → Sem Value) => (do let vs ← fn.results.mapM f; pure (if h : vs.size = 1 then vs[0] else .tuple vs) : Sem Value)) (funext fun x => ?_)
  cases x <;> rfl
theorem res1_run {ρ : Rho} {h : H} {w : World} {nt : Nat} {fr : Fr} {a : Act} (R : Rel n0 ρ h w) (F : FR ρ nt D fr a) {rv : ResultVar} {v : Value} (e : res1 P fr h rv = some v) :
    ∃ v', (resOf a.tmps rv).run P w = .ok v' w ∧ VR ρ v v' := by
  cases rv with
  | tmp t =>
    unfold res1 at e
    obtain ⟨v', h1, h2⟩ := F.get t v e
    exact ⟨v', by simp [resOf, h1], h2⟩
  | cell x t =>
    simp only [res1, Option.bind_eq_some_iff] at e
    obtain ⟨u, hu, e⟩ := e
    obtain ⟨u', h1, h2⟩ := F.get x u hu
    obtain ⟨v', q1, q2⟩ := aLoad_run R e h2
    refine ⟨v', ?_, q2⟩
    have : ∃ ad, u' = .pointer (some ad) := by
      unfold aLoad at e
      split at e
      · cases h2 with
        | lit hl => simp [isLit] at hl
        | ptr hp => exact ⟨_, rfl⟩
      · cases e
    obtain ⟨ad, rfl⟩ := this
    simp only [resOf, Array.getD_eq_getD_getElem?, h1, Option.getD_some, asAddr, Sem.run_bind, Sem.run_pure, Result.andThen_ok]
    simpa [Instr.loadAt, Instr.sureAddr] using q1
theorem resL_run {ρ : Rho} {h : H} {w : World} {nt : Nat} {fr : Fr} {a : Act} (R : Rel n0 ρ h w) (F : FR ρ nt D fr a) : ∀ {rs : List ResultVar} {l : List Value}, resL P fr h rs = some l →
    ∃ l', (rs.mapM (resOf a.tmps)).run P w = .ok l' w ∧ VRs ρ l l'
  | [], l, e => by simp [resL] at e; subst e; exact ⟨[], rfl, trivial⟩
  | r :: rs, l, e => by
    simp only [resL, Option.bind_eq_some_iff, Option.map_eq_some_iff] at e
    obtain ⟨v, hv, l1, hl, rfl⟩ := e
    obtain ⟨v', q1, q2⟩ := res1_run R F hv
    obtain ⟨l', q3, q4⟩ := resL_run R F hl
    refine ⟨v' :: l', ?_, q2, q4⟩
    rw [List.mapM_cons]
    simp only [Sem.run_bind, q1, Result.andThen_ok, q3, Sem.run_pure]

end Go.Ev
