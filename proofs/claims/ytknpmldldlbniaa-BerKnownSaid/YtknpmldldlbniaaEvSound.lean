/- What the evaluator answers, the call answers in the model (ev_callOk). -/
import Derived.Test.YtknpmldldlbniaaEvDraw4
import Derived.Scope
set_option linter.unusedVariables false
set_option linter.unusedSimpArgs false
namespace Go.Ev
open Go.RowKit (Below)
variable {P : Program} {n0 : Nat}

theorem isL_rep (n j : Nat) : isL (Array.replicate n false) j = false := by
  unfold isL
  simp only [Array.getD_eq_getD_getElem?, Array.getElem?_replicate]
  split <;> rfl
theorem evDraw_sound (hm : P.follows .mixedOrders = true) {call : CallT} (hcall : CallOk P n0 call) {id nt : Nat} {ops : Array Oper} {ρ : Rho} {fr : Fr} {h : H} {a : Act} {w : World} {fr' : Fr} {h' : H} {Q : Exit → Act → World → Prop}
    (R : Rel n0 ρ h w) (F : FR ρ nt fr a) (e : evDraw P call nt ops fr h = some (fr', h')) (k : ∀ a' w', St P n0 nt w ρ fr' h' a' w' → Q .normal a' w') : (Code.region id ops true).wp P Q a w := by
  unfold evDraw at e
  simp only [Option.bind_eq_some_iff] at e
  obtain ⟨⟨ts, hs, f⟩, htr, e⟩ := e
  simp only at e
  split at e
  · rename_i hc
    simp only [Bool.and_eq_true] at hc
    obtain ⟨htie, hreads⟩ := hc
    simp only [Option.map_eq_some_iff, Prod.mk.injEq] at e
    obtain ⟨hE, hlast, rfl, rfl⟩ := e
    have facts := evTr_facts _ _ _ _ _ _ htr
    refine wp_region_any hm ?_
    refine draw_sim hcall (w0 := w) (ρ0 := ρ) facts htie hreads hlast k ops.size _ _ _ ⟨by simp, ?_, F.size, F.defers, ρ, h, Le.refl _, ?_, R.world rfl, ⟨rfl, rfl, rfl, Nat.le_refl _, fun _ _ => rfl⟩, ?_⟩ ?_
    · intro j y hy hl
      rw [isL_rep] at hl; cases hl
    · have : cntF P (isL (Array.replicate ops.size false)) 0 ops.toList = 0 := by
        rw [cntF_congr (q' := fun _ => false) ops.toList 0 (fun k y _ _ => isL_rep _ _), cntF_none]
      rw [this]; exact facts.1
    · intro t v hv
      rw [cur_skip (i := 0) ops.size (Nat.zero_le _) (fun j _ _ hl => by rw [isL_rep] at hl; cases hl)] at hv
      exact F.get t v hv
    · have : ∀ n, un (isL (Array.replicate ops.size false)) n = n := by
        intro n
        induction n with
        | zero => rfl
        | succ n ih =>
          simp only [un, ih]
          rw [isL_rep]; rfl
      exact this _
  · cases e

def ExR : Ex → Exit → Prop
  | .normal, .normal => True
  | .exit i, .exit j => i = j
  | .ret, .ret => True
  | _, _ => False

/-- behind a piece of code: the continuation answers r from a state that is related -/
def Post (P : Program) (n0 nt : Nat) (w0 : World) (ρ0 : Rho) (K : KT) (r : Out) : Exit → Act → World → Prop :=
  fun e a w => ∃ e' fr h, ExR e' e ∧ K e' fr h = some r ∧ St P n0 nt w0 ρ0 fr h a w

theorem St.trans {nt : Nat} {w0 w1 w2 : World} {ρ0 ρ1 : Rho} {fr : Fr} {h : H} {a : Act} (hl : Le ρ0 ρ1) (hb : Below n0 w0 w1) (s : St P n0 nt w1 ρ1 fr h a w2) : St P n0 nt w0 ρ0 fr h a w2 := by
  obtain ⟨ρ, a1, a2, a3, a4⟩ := s
  exact ⟨ρ, hl.trans a1, a2, a3, hb.trans a4⟩

theorem least {p : Nat → Prop} (h : ∃ m, p m) : ∃ m, p m ∧ ∀ k, p k → m ≤ k := by
  obtain ⟨m, hm⟩ := h
  induction m using Nat.strongRecOn with
  | _ m ih =>
    by_cases hx : ∃ k, k < m ∧ p k
    · obtain ⟨k, hk, hp⟩ := hx; exact ih k hk hp
    · exact ⟨m, hm, fun k hk => Nat.le_of_not_lt fun hlt => hx ⟨k, hlt, hk⟩⟩
theorem evK_sound (hm : P.follows .mixedOrders = true) {call : CallT} (hcall : CallOk P n0 call) {nt n : Nat} : ∀ (c : Code) (ρ : Rho) (fr : Fr) (h : H) (a : Act) (w : World) (K : KT) (r : Out),
    Rel n0 ρ h w → FR ρ nt fr a → evK P call nt n c fr h K = some r → c.wp P (Post P n0 nt w ρ K r) a w := by
  intro c
  induction c with
  | skip =>
    intro ρ fr h a w K r R F e
    exact wp_skip ⟨.normal, fr, h, trivial, e, ρ, Le.refl _, R, F, Below.refl _ _⟩
  | label l =>
    intro ρ fr h a w K r R F e
    exact wp_label ⟨.normal, fr, h, trivial, e, ρ, Le.refl _, R, F, Below.refl _ _⟩
  | region id ops d =>
    intro ρ fr h a w K r R F e
    simp only [evK, Option.bind_eq_some_iff] at e
    obtain ⟨⟨fr', h'⟩, e1, e2⟩ := e
    cases d with
    | true =>
      simp only [if_true] at e1
      exact evDraw_sound hm hcall R F e1 fun a' w' s => ⟨.normal, fr', h', trivial, e2, s⟩
    | false =>
      simp only [Bool.false_eq_true, if_false] at e1
      exact wp_region_list (evOps_sound hcall _ ρ fr h a w fr' h' R F e1 fun a' w' s => ⟨.normal, fr', h', trivial, e2, s⟩)
  | seq x y ihx ihy =>
    intro ρ fr h a w K r R F e
    simp only [evK] at e
    refine wp_seq (wp_mono (ihx ρ fr h a w _ r R F e) ?_)
    rintro ex a1 w1 ⟨e', fr1, h1, he, hk, s⟩
    obtain ⟨ρ1, l1, R1, F1, B1⟩ := s
    cases e' with
    | normal =>
      cases ex <;> simp only [ExR] at he
      simp only [Exit.then]
      refine wp_mono (ihy ρ1 fr1 h1 a1 w1 K r R1 F1 hk) ?_
      rintro ex2 a2 w2 ⟨e2, fr2, h2, q1, q2, q3⟩
      exact ⟨e2, fr2, h2, q1, q2, q3.trans l1 B1⟩
    | exit i =>
      cases ex <;> simp only [ExR] at he
      subst he
      exact ⟨.exit i, fr1, h1, rfl, hk, ρ1, l1, R1, F1, B1⟩
    | ret =>
      cases ex <;> simp only [ExR] at he
      exact ⟨.ret, fr1, h1, trivial, hk, ρ1, l1, R1, F1, B1⟩
  | cond c x y ihx ihy =>
    intro ρ fr h a w K r R F e
    simp only [evK] at e
    split at e
    · rename_i hc
      exact wp_cond_true ((VR.lit_iff rfl).1 (ev1_sound F hc)) (ihx ρ fr h a w K r R F e)
    · rename_i hc
      exact wp_cond_false ((VR.lit_iff rfl).1 (ev1_sound F hc)) (ihy ρ fr h a w K r R F e)
    · cases e
  | block id c ih =>
    intro ρ fr h a w K r R F e
    simp only [evK] at e
    refine wp_block (wp_mono (ih ρ fr h a w _ r R F e) ?_)
    rintro ex a1 w1 ⟨e', fr1, h1, he, hk, s⟩
    cases e' with
    | normal => cases ex <;> simp only [ExR] at he; exact ⟨.normal, fr1, h1, trivial, hk, s⟩
    | exit j =>
      cases ex <;> simp only [ExR] at he
      subst he
      simp only [Exit.inBlock]
      simp only at hk
      split at hk
      · rename_i hj; rw [if_pos hj]; exact ⟨.normal, fr1, h1, trivial, hk, s⟩
      · rename_i hj; rw [if_neg hj]; exact ⟨.exit j, fr1, h1, rfl, hk, s⟩
    | ret => cases ex <;> simp only [ExR] at he; exact ⟨.ret, fr1, h1, trivial, hk, s⟩
  | loop c ih =>
    intro ρ fr h a w K r R F e
    simp only [evK] at e
    let I : Nat → Act → World → Prop := fun m a1 w1 => ∃ fr1 h1, loopK m (evK P call nt n c) fr1 h1 K = some r ∧ St P n0 nt w ρ fr1 h1 a1 w1
    classical
    let μ : Act → World → Nat := fun a1 w1 => if hx : ∃ m, I m a1 w1 then Classical.choose (least hx) else 0
    refine wp_loop (fun a1 w1 => ∃ m, I m a1 w1) μ ⟨n, fr, h, e, ρ, Le.refl _, R, F, Below.refl _ _⟩ ?_
    intro a1 w1 hI
    have hmu : μ a1 w1 = Classical.choose (least hI) := dif_pos hI
    obtain ⟨fr1, h1, hl, ρ1, l1, R1, F1, B1⟩ := (Classical.choose_spec (least hI)).1
    obtain ⟨m, hmm⟩ : ∃ m, Classical.choose (least hI) = m := ⟨_, rfl⟩
    rw [hmm] at hl hmu
    cases m with
    | zero => simp [loopK] at hl
    | succ m =>
      simp only [loopK] at hl
      refine wp_mono (ih ρ1 fr1 h1 a1 w1 _ r R1 F1 hl) ?_
      rintro ex a2 w2 ⟨e', fr2, h2, he, hk, s⟩
      have s' : St P n0 nt w ρ fr2 h2 a2 w2 := s.trans l1 B1
      cases e' with
      | normal =>
        cases ex <;> simp only [ExR] at he
        have hI2 : I m a2 w2 := ⟨fr2, h2, hk, s'⟩
        refine ⟨⟨m, hI2⟩, ?_⟩
        have : μ a2 w2 ≤ m := by
          have hx : ∃ m, I m a2 w2 := ⟨m, hI2⟩
          rw [show μ a2 w2 = Classical.choose (least hx) from dif_pos hx]
          exact (Classical.choose_spec (least hx)).2 m hI2
        rw [hmu]; omega
      | exit j =>
        cases ex <;> simp only [ExR] at he
        subst he
        exact ⟨.exit j, fr2, h2, rfl, hk, s'⟩
      | ret =>
        cases ex <;> simp only [ExR] at he
        exact ⟨.ret, fr2, h2, trivial, hk, s'⟩
  | rangeFunc f ps as b ih1 ih2 => intro ρ fr h a w K r R F e; simp [evK] at e
  | exit id =>
    intro ρ fr h a w K r R F e
    exact wp_exit ⟨.exit id, fr, h, rfl, e, ρ, Le.refl _, R, F, Below.refl _ _⟩
  | scope c ih =>
    intro ρ fr h a w K r R F e
    simp only [evK] at e
    refine wp_scope_straight (wp_mono (ih ρ fr h a w K r R F e) ?_)
    rintro ex a1 w1 ⟨e', fr1, h1, he, hk, s⟩
    cases ex <;> first | exact ⟨e', fr1, h1, he, hk, s⟩ | (cases e' <;> exact he.elim)
  | goto l => intro ρ fr h a w K r R F e; simp [evK] at e
  | ret =>
    intro ρ fr h a w K r R F e
    exact wp_ret ⟨.ret, fr, h, trivial, e, ρ, Le.refl _, R, F, Below.refl _ _⟩
  | refuse s => intro ρ fr h a w K r R F e; simp [evK] at e

theorem get_argFr : ∀ (args : List Value) (i t : Nat), get (argFr i args) t = if i ≤ t then args[t - i]? else none
  | [], i, t => by simp [argFr, get]
  | v :: r, i, t => by
    simp only [argFr, get, get_argFr r (i + 1) t]
    by_cases e : i = t
    · subst e; simp
    · rw [if_neg e]
      by_cases h1 : i + 1 ≤ t
      · rw [if_pos h1, if_pos (by omega), show t - i = (t - (i + 1)) + 1 from by omega]; simp
      · rw [if_neg h1, if_neg (by omega)]
def resOf (tmps : Array Value) : ResultVar → Sem Value
  | .tmp t => pure (tmps.getD t undef)
  | .cell a t => do loadVar t (← asAddr (tmps.getD a undef))
theorem results_eq (fn : Func) (tmps : Array Value) : results fn tmps = (do let vs ← fn.results.mapM (resOf tmps); pure (if h : vs.size = 1 then vs[0] else .tuple vs)) := by
  unfold results
  refine congrArg (fun (f : ResultVar → Sem Value) => (do let vs ← fn.results.mapM f; pure (if h : vs.size = 1 then vs[0] else .tuple vs) : Sem Value)) (funext fun x => ?_)
  cases x <;> rfl
theorem res1_run {ρ : Rho} {h : H} {w : World} {nt : Nat} {fr : Fr} {a : Act} (R : Rel n0 ρ h w) (F : FR ρ nt fr a) {rv : ResultVar} {v : Value} (e : res1 P fr h rv = some v) :
    ∃ v', (resOf a.tmps rv).run P w = .ok v' w ∧ VR ρ v v' := by
  cases rv with
  | tmp t =>
    unfold res1 at e
    obtain ⟨v', h1, h2⟩ := F.get t v e
    exact ⟨v', by simp [resOf, h1], h2⟩
  | cell x t =>
    simp only [res1, Option.bind_eq_some_iff] at e
    obtain ⟨u, hu, e⟩ := e
    obtain ⟨u', h1, h2⟩ := F.get x u hu
    obtain ⟨v', q1, q2⟩ := aLoad_run R e h2
    refine ⟨v', ?_, q2⟩
    have : ∃ ad, u' = .pointer (some ad) := by
      unfold aLoad at e
      split at e
      · cases h2 with
        | lit hl => simp [isLit] at hl
        | ptr hp => exact ⟨_, rfl⟩
      · cases e
    obtain ⟨ad, rfl⟩ := this
    simp only [resOf, Array.getD_eq_getD_getElem?, h1, Option.getD_some, asAddr, Sem.run_bind, Sem.run_pure, Result.andThen_ok]
    simpa [Instr.loadAt, Instr.sureAddr] using q1
theorem resL_run {ρ : Rho} {h : H} {w : World} {nt : Nat} {fr : Fr} {a : Act} (R : Rel n0 ρ h w) (F : FR ρ nt fr a) : ∀ {rs : List ResultVar} {l : List Value}, resL P fr h rs = some l →
    ∃ l', (rs.mapM (resOf a.tmps)).run P w = .ok l' w ∧ VRs ρ l l'
  | [], l, e => by simp [resL] at e; subst e; exact ⟨[], rfl, trivial⟩
  | r :: rs, l, e => by
    simp only [resL, Option.bind_eq_some_iff, Option.map_eq_some_iff] at e
    obtain ⟨v, hv, l1, hl, rfl⟩ := e
    obtain ⟨v', q1, q2⟩ := res1_run R F hv
    obtain ⟨l', q3, q4⟩ := resL_run R F hl
    refine ⟨v' :: l', ?_, q2, q4⟩
    rw [List.mapM_cons]
    simp only [Sem.run_bind, q1, Result.andThen_ok, q3, Sem.run_pure]

/-- **THE EVALUATOR IS SOUND**: what it answers, the call answers. -/
theorem ev_callOk (hm : P.follows .mixedOrders = true) (hname : ∀ (f : FuncId) (fn : Func), P.funcs[f]? = some fn → fn.body.isSome = true → (fn.name == "runtime.NumGoroutine") = false) : ∀ n, CallOk P n0 (ev P n) := by
  intro n
  induction n with
  | zero => intro f args h v h' e; simp [ev] at e
  | succ n ih =>
    intro f args h v h' e
    simp only [ev] at e
    split at e
    · rename_i fn hf
      split at e
      · rename_i c hb
        split at e
        · cases e
        · rename_i hnt
          refine ⟨⟨fn, hf, by simp [hb], hname f fn hf (by simp [hb])⟩, ?_⟩
          intro ρ w args' R ka
          have hlen := ka.length
          refine calls_of_wp hf hb ?_
          have F : FR ρ fn.ntmps (argFr 0 args) { tmps := args'.toArray ++ Array.replicate (fn.ntmps - args'.toArray.size) undef, defers := [] } := by
            refine ⟨by simp; omega, fun t u hu => ?_, rfl⟩
            rw [get_argFr, if_pos (Nat.zero_le _), Nat.sub_zero] at hu
            obtain ⟨u', h1, h2⟩ := ka.get t u hu
            exact ⟨u', by simp only; rw [Array.getElem?_append_left (by have := lt_of_some h1; simpa using this)]; simpa using h1, h2⟩
          refine wp_mono (evK_sound hm ih c ρ _ h _ w _ _ R F e) ?_
          rintro ex a1 w1 ⟨e', fr1, h1, he, hk, ρ1, l1, R1, F1, B1⟩
          have fin : (Option.map (fun l => match l with | [v] => (v, h1) | l => (Value.tuple l.toArray, h1)) (resL P fr1 h1 fn.results.toList)) = some (v, h') →
              a1.defers = [] ∧ ∃ v', (results fn a1.tmps).run P w1 = .ok v' w1 ∧ (∃ ρ' v'', Ending.returned v' = .returned v'' ∧ Le ρ ρ' ∧ VR ρ' v v'' ∧ Rel n0 ρ' h' w1 ∧ Below n0 w w1) := by
            intro hk
            simp only [Option.map_eq_some_iff] at hk
            obtain ⟨l, hl, hk⟩ := hk
            obtain ⟨l', q1, q2⟩ := resL_run R1 F1 hl
            have hres : (results fn a1.tmps).run P w1 = .ok (if hh : l'.toArray.size = 1 then l'.toArray[0] else .tuple l'.toArray) w1 := by
              rw [results_eq, Array.mapM_eq_mapM_toList]
              simp only [Sem.run_bind, Sem.run_map, q1, Result.andThen_ok, Sem.run_pure]
            refine ⟨F1.defers, _, hres, ?_⟩
            split at hk
            · rename_i v0
              cases hk
              cases l' with
              | nil => exact q2.elim
              | cons v0' r => cases r with
                | cons _ _ => exact q2.2.elim
                | nil => exact ⟨ρ1, v0', rfl, l1, q2.1, R1, B1⟩
            · rename_i hne
              cases hk
              have hsz : ¬ l'.toArray.size = 1 := by
                intro hs
                have h1 : l.length = 1 := by rw [q2.length]; simpa using hs
                obtain ⟨x, rfl⟩ := List.length_eq_one_iff.1 h1
                exact hne x rfl
              rw [dif_neg hsz]
              exact ⟨ρ1, _, rfl, l1, VR.tuple_iff.2 ⟨_, rfl, by simpa using q2⟩, R1, B1⟩
          cases e' with
          | normal => cases ex <;> simp only [ExR] at he; exact fin hk
          | ret => cases ex <;> simp only [ExR] at he; exact fin hk
          | exit i => simp at hk
      · cases e
    · cases e

theorem Rel.nil (w : World) : Rel w.heap.size [] [] w :=
  ⟨rfl, Nat.le_refl _, by simp, by simp, by simp, by simp, by simp, by simp, by simp⟩
end Go.Ev
