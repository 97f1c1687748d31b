/- A part of the proof that what the evaluator of YtjdcdabbbmhffaaEvCore answers, the call answers in the model. No condition. -/
import Derived.Test.YtjdcdabbbmhffaaEvRel
import Derived.Laws.Entries
import Derived.Laws.Append
set_option linter.unusedVariables false
set_option linter.unusedSimpArgs false
namespace Go.Ev
open Go.RowKit (Below)

@[simp] theorem force_eq {α : Type} (n : Int) (f : Int → α) : force n f = f n := by
  unfold force; split <;> rfl
theorem get_put (fr : Fr) (d t : Nat) (v : Value) : get (put fr d v) t = if d = t then some v else get fr t := by
  induction fr with
  | nil => simp [put, get]
  | cons x r ih =>
    obtain ⟨k, u⟩ := x
    unfold put
    by_cases h : k = d
    · subst h; simp only [if_true]; simp only [get]; split <;> rfl
    · rw [if_neg h]
      simp only [get, ih]
      by_cases hk : k = t
      · subst hk; rw [if_pos rfl, if_neg (fun e => h e.symm), if_pos rfl]
      · rw [if_neg hk, if_neg hk]

structure FR (ρ : Rho) (nt : Nat) (D : List Deferred) (fr : Fr) (a : Act) : Prop where
  size : a.tmps.size = nt
  get : ∀ (t : Nat) (v : Value), get fr t = some v → ∃ v', a.tmps[t]? = some v' ∧ VR ρ v v'
  defers : a.defers = D
theorem FR.mono {D : List Deferred} {ρ ρ' : Rho} {nt : Nat} {fr : Fr} {a : Act} (F : FR ρ nt D fr a) (h : Le ρ ρ') : FR ρ' nt D fr a :=
  ⟨F.size, fun t v e => let ⟨v', x, k⟩ := F.get t v e; ⟨v', x, k.mono h⟩, F.defers⟩
theorem FR.put {D : List Deferred} {ρ : Rho} {nt : Nat} {fr fr' : Fr} {a : Act} {d : Option Tmp} {v v' : Value} (F : FR ρ nt D fr a) (e : putO nt fr d v = some fr') (k : VR ρ v v') : FR ρ nt D fr' (a.put d v') := by
  cases d with
  | none => simp [putO] at e; subst e; exact F
  | some d =>
    simp only [putO] at e
    split at e
    · rename_i hd
      simp only [Option.some.injEq] at e; subst e
      refine ⟨by simp [Act.put, F.size], fun t u hu => ?_, by simp [Act.put, F.defers]⟩
      rw [get_put] at hu
      split at hu
      · rename_i hdt; subst hdt
        cases hu
        exact ⟨v', by simp [Act.put, F.size, hd], k⟩
      · rename_i hdt
        obtain ⟨u', x, k'⟩ := F.get t u hu
        refine ⟨u', ?_, k'⟩
        simp only [Act.put]
        rw [Array.getElem?_setIfInBounds_ne (fun e => hdt e)]
        exact x
    · cases e
theorem ev1_sound {D : List Deferred} {ρ : Rho} {nt : Nat} {fr : Fr} {a : Act} {x : Operand} {v : Value} (F : FR ρ nt D fr a) (e : ev1 fr x = some v) : VR ρ v (a.eval x) := by
  cases x with
  | tmp t =>
    obtain ⟨v', h, k⟩ := F.get t v e
    simp only [Act.eval, Array.getD_eq_getD_getElem?, h, Option.getD_some]; exact k
  | const u =>
    simp only [ev1] at e; split at e
    · rename_i h; simp only [Option.some.injEq] at e; subst e; exact .lit h
    · cases e
  | global g => simp [ev1] at e
  | func f => simp [ev1] at e; subst e; exact .func rfl rfl rfl (by simp) (by simp)
theorem evL_sound {D : List Deferred} {ρ : Rho} {nt : Nat} {fr : Fr} {a : Act} (F : FR ρ nt D fr a) : ∀ {l : List Operand} {vs : List Value}, evL fr l = some vs → VRs ρ vs (l.map a.eval)
  | [], vs, e => by simp [evL] at e; subst e; trivial
  | x :: r, vs, e => by
    simp only [evL, Option.bind_eq_some_iff, Option.map_eq_some_iff] at e
    obtain ⟨v, h1, l, h2, rfl⟩ := e
    exact ⟨ev1_sound F h1, evL_sound F h2⟩
theorem evO_sound {D : List Deferred} {ρ : Rho} {nt : Nat} {fr : Fr} {a : Act} (F : FR ρ nt D fr a) {x : Option Operand} {v : Option Value} (e : evO fr x = some v) :
    (v = none ∧ x.map a.eval = none) ∨ ∃ u u', v = some u ∧ x.map a.eval = some u' ∧ VR ρ u u' := by
  cases x with
  | none => simp [evO] at e; exact .inl ⟨e.symm, rfl⟩
  | some x =>
    simp only [evO, Option.map_eq_some_iff] at e
    obtain ⟨u, h, rfl⟩ := e
    exact .inr ⟨u, _, rfl, rfl, ev1_sound F h⟩
def VRp (ρ : Rho) : List (Nat × Value) → List (Nat × Value) → Prop
  | [], [] => True
  | x :: xs, y :: ys => x.1 = y.1 ∧ VR ρ x.2 y.2 ∧ VRp ρ xs ys
  | _, _ => False
theorem evP_sound {D : List Deferred} {ρ : Rho} {nt : Nat} {fr : Fr} {a : Act} (F : FR ρ nt D fr a) : ∀ {l : List (Nat × Operand)} {vs : List (Nat × Value)}, evP fr l = some vs → VRp ρ vs (l.map fun (i, x) => (i, a.eval x))
  | [], vs, e => by simp [evP] at e; subst e; trivial
  | (i, x) :: r, vs, e => by
    simp only [evP, Option.bind_eq_some_iff, Option.map_eq_some_iff] at e
    obtain ⟨v, h1, l, h2, rfl⟩ := e
    exact ⟨rfl, ev1_sound F h1, evP_sound F h2⟩

variable {P : Program} {n0 : Nat} {ρ : Rho} {h h' : H} {w : World}

theorem run_szOf {t : TypeId} {n : Nat} (e : szOf P t = some n) (w : World) : (sizeOf t).run P w = .ok n w := by
  simp only [szOf, Option.map_eq_some_iff] at e
  obtain ⟨i, h1, rfl⟩ := e
  simp [sizeOf, typeInfo, h1]
theorem run_zeroOf {t : TypeId} {z : Value} (e : zeroOf P t = some z) (w : World) : (zeroValue t).run P w = .ok z w := by
  simp only [zeroOf, Option.bind_eq_some_iff] at e
  obtain ⟨i, h1, h2⟩ := e
  simp [zeroValue, typeInfo, h1, h2]
theorem run_isAgg {t : TypeId} {b : Bool} (e : isAgg P t = some b) (w : World) : (Go.isAgg t).run P w = .ok b w := by
  unfold isAgg at e
  split at e
  · rename_i d hd; cases e; simp [Go.isAgg, run_underlying hd]
  · rename_i d e' hd; cases e; simp [Go.isAgg, run_underlying hd]
  · rename_i d h1 h2 hd
    cases e
    simp only [Go.isAgg, Sem.run_bind, run_underlying hd, Result.andThen_ok]
    rfl
  · cases e
theorem elOf_und {t e : TypeId} (h : elOf P t = some e) : P.underlying t = some (.slice e) := by
  unfold elOf at h; split at h
  · rename_i x hx; cases h; exact hx
  · cases h

/-! load, store -/
theorem aLoad_run (R : Rel n0 ρ h w) {t : TypeId} {v v' u : Value} (e : aLoad P t v h = some u) (k : VR ρ v v') : ∃ u', (Instr.loadAt t v').run P w = .ok u' w ∧ VR ρ u u' := by
  unfold aLoad at e
  split at e
  · rename_i b o
    cases k with
    | lit h => simp [isLit] at h
    | ptr hp =>
      rename_i p
      simp only [Instr.loadAt, Instr.sureAddr, Sem.run_bind, Sem.run_pure, Result.andThen_ok, loadVar]
      split at e
      · rename_i ha
        simp only [run_isAgg ha, Result.andThen_ok, if_true, Sem.run_bind]
        simp only [Option.bind_eq_some_iff, Option.map_eq_some_iff] at e
        obtain ⟨n, hn, l, hl, rfl⟩ := e
        obtain ⟨l', k1, k2, k3⟩ := rdN_sound R hp n o l hl
        refine ⟨.agg l'.toArray, ?_, VR.agg_iff.2 ⟨_, rfl, by simpa using k1⟩⟩
        simp only [run_szOf hn, Result.andThen_ok, Sem.run_ite, if_true, Sem.run_bind]
        have := run_loadCells_list (P := P) w ⟨p.b, p.s + o, none⟩ l' (fun j u hu => by rw [add_none]; exact k3 j u hu)
        rw [k2] at this
        simp [this]
      · rename_i ha
        simp only [run_isAgg ha, Result.andThen_ok, Bool.false_eq_true, if_false, Sem.run_bind, Sem.run_ite]
        obtain ⟨v', c, k⟩ := rd_sound R hp e
        exact ⟨v', by simp [c], k⟩
      · cases e
  · cases e
theorem aStore_run (R : Rel n0 ρ h w) {t : TypeId} {p p' v v' : Value} (e : aStore P t p v h = some h') (kp : VR ρ p p') (k : VR ρ v v') :
    ∃ w', (Instr.storeAt t p' v').run P w = .ok () w' ∧ Rel n0 ρ h' w' ∧ Below n0 w w' := by
  unfold aStore at e
  split at e
  · rename_i b o
    cases kp with
    | lit h => simp [isLit] at h
    | ptr hp =>
      rename_i pl
      simp only [Option.bind_eq_some_iff] at e
      obtain ⟨n, hn, e⟩ := e
      split at e
      · rename_i hs
        obtain ⟨a1, a2, a3, R', B'⟩ := wr_sound R hp e k.cells
        refine ⟨_, ?_, R', B'⟩
        simp only [Instr.storeAt, Instr.sureAddr, Sem.run_bind, Sem.run_pure, Result.andThen_ok, storeVar, run_szOf hn]
        rw [if_neg (by rw [k.cells_size, hs]; simp)]
        try simp only [Sem.run_bind, Sem.run_pure, Result.andThen_ok]
        have := run_storeCells P pl.b (pl.s + o) v'.cells.toList 0 w a1 (by simpa using a2) (by simpa using a3)
        simpa using this
      · cases e
  · cases e

/-! whole numbers, strings, '==' -/
theorem aInt_run {op : BinOp} {k : IntKind} {a b : Int} {u : Value} (e : aInt op k a b = some u) (h1 : op ≠ .shl) (h2 : op ≠ .shr) (t : TypeId) (w : World) :
    (binOp op t (.int k a) (.int k b)).run P w = .ok u w ∧ isLit u = true := by
  cases op <;> simp only [aInt, force_eq, Option.some.injEq] at e <;> try (first | exact absurd rfl h1 | exact absurd rfl h2)
  all_goals try (split at e)
  all_goals first | (cases e; done) | skip
  all_goals try simp only [Option.some.injEq] at e
  all_goals subst e
  all_goals simp_all [binOp, Op.intArith, Op.intDiv, Op.intBits, Op.intCmp, isLit, bne]
  all_goals (rw [Bool.eq_iff_iff]; simp)
theorem aShift_run {op : BinOp} {k k' : IntKind} {a b : Int} {u : Value} (e : aShift op k a b = some u) (t : TypeId) (w : World) :
    (binOp op t (.int k a) (.int k' b)).run P w = .ok u w ∧ isLit u = true := by
  unfold aShift at e
  split at e
  · cases e
  · rename_i hb
    cases op <;> simp only [force_eq, Option.some.injEq] at e <;> first | (cases e; done) | skip
    all_goals subst e
    all_goals simp [binOp, Op.shift, hb, isLit]
theorem aStr_run {op : BinOp} {a b : ByteArray} {u : Value} (e : aStr op a b = some u) (t : TypeId) (w : World) :
    (binOp op t (.string a) (.string b)).run P w = .ok u w ∧ isLit u = true := by
  cases op <;> simp only [aStr, Option.some.injEq] at e <;> try (first | (cases e; done))
  all_goals try (split at e)
  all_goals first | (cases e; done) | skip
  all_goals try simp only [Option.some.injEq] at e
  all_goals subst e
  all_goals simp only [binOp, Op.stringOp]
  all_goals simp [isLit, IntKind.max, IntKind.signed, IntKind.bits]
  all_goals omega
end Go.Ev
