/- A part of the proof that what the evaluator of YtjdcdabbbmhffaaEvCore answers, the call answers in the model. No condition. -/
import Derived.Test.YtjdcdabbbmhffaaEvCode
set_option linter.unusedVariables false
set_option linter.unusedSimpArgs false
namespace Go.Ev
open Go.RowKit (Below)
variable {P : Program} {n0 : Nat} {ρ : Rho} {h h' : H} {w : World}

/-! what an operation looks at -/
def restr (L : List Nat) (fr : Fr) : Fr := fr.filter fun x => L.contains x.1
theorem get_restr (L : List Nat) (fr : Fr) (t : Nat) : get (restr L fr) t = if t ∈ L then get fr t else none := by
  induction fr with
  | nil => simp [restr, get]
  | cons x r ih =>
    obtain ⟨k, u⟩ := x
    unfold restr at ih ⊢
    rw [List.filter_cons]
    by_cases hk : k ∈ L
    · simp only [List.contains_eq_mem, hk, decide_true, if_true, get]
      by_cases e : k = t
      · subst e; rw [if_pos rfl, if_pos hk]; simp
      · rw [if_neg e]
        have := ih
        simp only [List.contains_eq_mem] at this
        rw [this]; simp [e]
    · simp only [List.contains_eq_mem, hk, decide_false, Bool.false_eq_true, if_false, get]
      have := ih
      simp only [List.contains_eq_mem] at this
      rw [this]
      by_cases e : k = t
      · subst e; simp [hk]
      · simp [e]
theorem ev1_congr {fr fr2 : Fr} {x : Operand} (Hg : ∀ t, x = .tmp t → get fr t = get fr2 t) : ev1 fr x = ev1 fr2 x := by
  cases x <;> simp only [ev1]
  exact Hg _ rfl
theorem evL_congr {fr fr2 : Fr} : ∀ {l : List Operand}, (∀ t, .tmp t ∈ l → get fr t = get fr2 t) → evL fr l = evL fr2 l
  | [], _ => rfl
  | x :: r, Hg => by simp only [evL]; rw [ev1_congr fun t e => Hg t (by simp [e]), evL_congr fun t e => Hg t (by simp [e])]
theorem evO_congr {fr fr2 : Fr} {x : Option Operand} (Hg : ∀ t, .tmp t ∈ x.toList → get fr t = get fr2 t) : evO fr x = evO fr2 x := by
  cases x <;> simp only [evO]
  rw [ev1_congr fun t e => Hg t (by simp [e])]
theorem evP_congr {fr fr2 : Fr} : ∀ {l : List (Nat × Operand)}, (∀ t, .tmp t ∈ l.map (·.2) → get fr t = get fr2 t) → evP fr l = evP fr2 l
  | [], _ => rfl
  | (i, x) :: r, Hg => by simp only [evP]; rw [ev1_congr fun t e => Hg t (by simp [e]), evP_congr fun t e => Hg t (by simp at e ⊢; exact .inr e)]
theorem evOp_congr {call : CallT} {o : Op} {fr fr2 : Fr} (Hg : ∀ t, Operand.tmp t ∈ o.operands.toList → get fr t = get fr2 t) (h : H) : evOp P call o fr h = evOp P call o fr2 h := by
  cases o <;> simp only [evOp] <;> simp only [Op.operands] at Hg
  case move x => rw [ev1_congr fun t e => Hg t (by simp [e])]
  case assign x => rw [ev1_congr fun t e => Hg t (by simp [e])]
  case pick c x y => rw [ev1_congr (x := c) fun t e => Hg t (by simp [e]), ev1_congr (x := x) fun t e => Hg t (by simp [e]), ev1_congr (x := y) fun t e => Hg t (by simp [e])]
  case box x => rw [ev1_congr fun t e => Hg t (by simp [e])]
  case makeInterface x => rw [ev1_congr (x := x) fun t e => Hg t (by simp [e])]
  case makeMap r => rw [evO_congr (x := r) fun t e => Hg t (by simpa using e)]
  case lookup x y _ => rw [ev1_congr (x := x) fun t e => Hg t (by simp [e]), ev1_congr (x := y) fun t e => Hg t (by simp [e])]
  case mapUpdate x y z => rw [ev1_congr (x := x) fun t e => Hg t (by simp [e]), ev1_congr (x := y) fun t e => Hg t (by simp [e]), ev1_congr (x := z) fun t e => Hg t (by simp [e])]
  case typeAssert x _ _ _ => rw [ev1_congr (x := x) fun t e => Hg t (by simp [e])]
  case build x => rw [evP_congr fun t e => Hg t (by simpa using e)]
  case buildSlice x => rw [evP_congr fun t e => Hg t (by simpa using e)]
  case load x => rw [ev1_congr fun t e => Hg t (by simp [e])]
  case store x y => rw [ev1_congr (x := x) fun t e => Hg t (by simp [e]), ev1_congr (x := y) fun t e => Hg t (by simp [e])]
  case nilCheck x => rw [ev1_congr fun t e => Hg t (by simp [e])]
  case binOp x y _ => rw [ev1_congr (x := x) fun t e => Hg t (by simp [e]), ev1_congr (x := y) fun t e => Hg t (by simp [e])]
  case unOp x => rw [ev1_congr fun t e => Hg t (by simp [e])]
  case convert x => rw [ev1_congr fun t e => Hg t (by simp [e])]
  case makeFunc x y => rw [evL_congr (l := x.toList) fun t e => Hg t (by simp at e ⊢; exact .inl e), evL_congr (l := y.toList) fun t e => Hg t (by simp at e ⊢; exact .inr e)]
  case makeSlice x y => rw [ev1_congr (x := x) fun t e => Hg t (by simp [e]), ev1_congr (x := y) fun t e => Hg t (by simp [e])]
  case slice x lo hi mx => rw [ev1_congr (x := x) fun t e => Hg t (by simp [e]), evO_congr (x := lo) fun t e => Hg t (by simp at e ⊢; simp [e]), evO_congr (x := hi) fun t e => Hg t (by simp at e ⊢; simp [e]), evO_congr (x := mx) fun t e => Hg t (by simp at e ⊢; simp [e])]
  case fieldAddr x _ => rw [ev1_congr fun t e => Hg t (by simp [e])]
  case field x _ => rw [ev1_congr fun t e => Hg t (by simp [e])]
  case indexAddr x y => rw [ev1_congr (x := x) fun t e => Hg t (by simp [e]), ev1_congr (x := y) fun t e => Hg t (by simp [e])]
  case index x y => rw [ev1_congr (x := x) fun t e => Hg t (by simp [e]), ev1_congr (x := y) fun t e => Hg t (by simp [e])]
  case range x => rw [ev1_congr fun t e => Hg t (by simp [e])]
  case next x b =>
    cases b <;> simp only []
    rw [ev1_congr fun t e => Hg t (by simp [e])]
  case extract x _ => rw [ev1_congr fun t e => Hg t (by simp [e])]
  case call c =>
    unfold evCall
    rw [evL_congr (l := c.args.toList) fun t e => Hg t (by simp [Call.operands] at e ⊢; exact .inr e)]
    congr 1; funext xs
    cases hc : c.callee with
    | builtin b => rfl
    | invoke _ _ => rfl
    | value f =>
      simp only []
      rw [ev1_congr (x := f) fun t e => Hg t (by simp [Call.operands, hc, e])]

theorem eqA_eq : ∀ {l m : List Value}, eqA l m = true → l = m
  | [], [], _ => rfl
  | x :: xs, y :: ys, e => by
    simp only [eqA, Bool.and_eq_true] at e
    obtain ⟨e1, e2⟩ := e
    rw [eqA_eq e2]
    congr 1
    split at e1 <;> first | (cases e1; done) | skip
    all_goals simp only [Bool.and_eq_true, decide_eq_true_eq, beq_iff_eq] at e1
    all_goals simp [e1]
theorem eqV_eq {a b : Value} (e : eqV a b = true) : a = b := by
  unfold eqV at e
  split at e
  · congr 1; rw [← Array.toList_inj]; exact eqA_eq e
  · congr 1; rw [← Array.toList_inj]; exact eqA_eq e
  · have := eqA_eq e; simpa using this

/-- what is not loud leaves the heap -/
theorem quiet_heap {call : CallT} {o : Op} {fr : Fr} {v : Value} (hl : loud P o = false) (e : evOp P call o fr h = some (v, h')) : h' = h := by
  cases o <;> simp only [loud] at hl <;> first | (cases hl; done) | skip
  all_goals simp only [evOp] at e
  all_goals first | (cases e; done) | skip
  case pick c x y =>
    split at e <;> first | (cases e; done) | skip
    all_goals (simp only [Option.map_eq_some_iff] at e; obtain ⟨_, _, e⟩ := e; cases e; rfl)
  case nilCheck x =>
    split at e <;> first | (cases e; done) | skip
    all_goals (cases e; rfl)
  case convert s d x =>
    simp only [Option.bind_eq_some_iff] at e
    obtain ⟨x', hx, e⟩ := e
    split at e
    · unfold aConvPtr at e
      repeat' (split at e <;> first | (cases e; done) | skip)
      all_goals (cases e; rfl)
    unfold aConvert at e
    split at e
    · simp only [force_eq, Option.some.injEq, Prod.mk.injEq] at e; exact e.2.symm
    · cases e; rfl
    · simp_all
    · split at e
      · split at e
        · cases e; rfl
        · split at e
          · cases e; rfl
          · split at e
            · cases e
            · simp only [Option.bind_eq_some_iff, Option.map_eq_some_iff] at e
              obtain ⟨_, _, _, _, e⟩ := e; cases e; rfl
      · cases e
    · cases e
  case call c =>
    unfold evCall at e
    simp only [Option.bind_eq_some_iff] at e
    obtain ⟨xs, hx, e⟩ := e
    cases hc : c.callee with
    | builtin b =>
      rw [hc] at e hl
      simp only at e hl
      unfold aBuiltin at e
      split at e <;> first | (cases e; done) | (simp [loudB] at hl; done) | skip
      all_goals first
        | (simp only [Option.map_eq_some_iff] at e; obtain ⟨_, _, e⟩ := e; cases e; rfl)
        | (cases e; rfl)
        | (split at e <;> first | (cases e; done) | (cases e; rfl) | (simp only [Option.map_eq_some_iff] at e; obtain ⟨_, _, e⟩ := e; cases e; rfl))
    | invoke _ _ => rw [hc] at hl; cases hl
    | value f => rw [hc] at hl; cases hl
  case makeInterface t x =>
    simp only [Option.bind_eq_some_iff] at e
    obtain ⟨x', hx, e⟩ := e
    split at e <;> cases e
    rfl
  case extract x i =>
    simp only [Option.bind_eq_some_iff] at e
    obtain ⟨x', hx, e⟩ := e
    split at e
    · simp only [Option.map_eq_some_iff] at e; obtain ⟨_, _, e⟩ := e; cases e; rfl
    · cases e
  case makeFunc fn x y =>
    split at e
    · cases e
    simp only [Option.bind_eq_some_iff, Option.some.injEq] at e
    obtain ⟨_, _, _, _, e⟩ := e; cases e; rfl
  all_goals (simp only [Option.bind_eq_some_iff, Option.map_eq_some_iff] at e)
  case move x => obtain ⟨_, _, e⟩ := e; cases e; rfl
  case assign x => obtain ⟨_, _, e⟩ := e; cases e; rfl
  case build t ps => obtain ⟨_, _, _, _, e⟩ := e; cases e; rfl
  case lookup => obtain ⟨_, _, _, _, _, _, e⟩ := e; cases e; rfl
  case typeAssert => obtain ⟨_, _, _, _, e⟩ := e; cases e; rfl
  case load t x => obtain ⟨_, _, _, _, e⟩ := e; cases e; rfl
  case binOp => obtain ⟨_, _, _, _, _, _, e⟩ := e; cases e; rfl
  case unOp => obtain ⟨_, _, _, _, e⟩ := e; cases e; rfl
  case slice => obtain ⟨_, _, _, _, _, _, _, _, _, _, e⟩ := e; cases e; rfl
  case fieldAddr => obtain ⟨_, _, _, _, e⟩ := e; cases e; rfl
  case field => obtain ⟨_, _, _, _, e⟩ := e; cases e; rfl
  case indexAddr => obtain ⟨_, _, _, _, _, _, e⟩ := e; cases e; rfl
  case index => obtain ⟨_, _, _, _, _, _, e⟩ := e; cases e; rfl
theorem aConvert_pure {s d : TypeId} {k : IntKind} {x v : Value} (hd : P.underlying d = some (.int k)) (e : aConvert P s d x h = some (v, h')) (h2 : H) : aConvert P s d x h2 = some (v, h2) := by
  unfold aConvert at e ⊢
  split at e
  · rename_i h1 h2' 
    simp only [force_eq, Option.some.injEq, Prod.mk.injEq] at e ⊢
    exact ⟨e.1, trivial⟩
  all_goals first | (rename_i h1 h3; rw [hd] at h3; cases h3; done) | (cases e; done) | skip
  all_goals (rename_i h3 _; rw [hd] at h3; cases h3)
theorem pure_heap {call : CallT} {o : Op} {fr : Fr} {v : Value} (hl : pureO P o = true) (e : evOp P call o fr h = some (v, h')) (h2 : H) : evOp P call o fr h2 = some (v, h2) := by
  cases o <;> simp only [pureO] at hl <;> first | (cases hl; done) | skip
  all_goals simp only [evOp] at e ⊢
  case move x => simp only [Option.map_eq_some_iff] at e ⊢; obtain ⟨u, hu, e⟩ := e; cases e; exact ⟨_, hu, rfl⟩
  case assign x => simp only [Option.map_eq_some_iff] at e ⊢; obtain ⟨u, hu, e⟩ := e; cases e; exact ⟨_, hu, rfl⟩
  case pick c x y =>
    split at e <;> rename_i hc <;> first | (cases e; done) | skip
    all_goals (simp only [Option.map_eq_some_iff] at e ⊢; obtain ⟨u, hu, e⟩ := e; cases e; exact ⟨_, hu, rfl⟩)
  case nilCheck x =>
    split at e <;> rename_i hc <;> first | (cases e; done) | skip
    all_goals (cases e; rfl)
  case makeFunc x y z =>
    by_cases hy : isYield x = true
    · rw [if_pos hy] at e; cases e
    rw [if_neg hy] at e ⊢
    simp only [Option.bind_eq_some_iff, Option.some.injEq, Prod.mk.injEq] at e ⊢
    obtain ⟨u, hu, u2, hu2, e, _⟩ := e; subst e; exact ⟨u, hu, u2, hu2, rfl, trivial⟩
  case build =>
    simp only [Option.bind_eq_some_iff, Option.map_eq_some_iff] at e ⊢
    obtain ⟨u, hu, u2, hu2, e⟩ := e; cases e; exact ⟨u, hu, _, hu2, rfl⟩
  case extract x i =>
    simp only [Option.bind_eq_some_iff] at e ⊢
    obtain ⟨u, hu, e⟩ := e
    refine ⟨u, hu, ?_⟩
    split at e
    · simp only [Option.map_eq_some_iff] at e ⊢
      obtain ⟨u, hu, e⟩ := e; cases e; exact ⟨_, hu, rfl⟩
    · cases e
  case convert s d x =>
    split at hl
    · rename_i k hk
      simp only [Option.bind_eq_some_iff] at e ⊢
      obtain ⟨u, hu, e⟩ := e
      refine ⟨u, hu, ?_⟩
      split at e
      · unfold aConvPtr at e
        rw [hk] at e
        split at e <;> simp_all
      · exact aConvert_pure hk e h2
    · cases hl
  case call c =>
    unfold evCall at e ⊢
    simp only [Option.bind_eq_some_iff] at e ⊢
    obtain ⟨xs, hx, e⟩ := e
    refine ⟨xs, hx, ?_⟩
    split at hl
    · rename_i b hb
      rw [hb] at e ⊢
      simp only at e ⊢
      cases b <;> simp [loudB] at hl
      all_goals
        unfold aBuiltin at e ⊢
        split at e <;> first | (cases e; done) | skip
        all_goals first
          | (simp_all; done)
          | (simp_all; obtain ⟨_, e1, e2, _⟩ := e; rw [e1, e2]; done)
          | (simp_all; split at e <;> simp_all; done)
          | (simp_all; split at e <;> simp_all; obtain ⟨_, e1, e2, _⟩ := e; rw [e1, e2]; done)
    · cases hl
  case unOp op t x =>
    simp only [Option.bind_eq_some_iff, Option.map_eq_some_iff] at e ⊢
    obtain ⟨u, hu, u2, hu2, e⟩ := e; cases e; exact ⟨u, hu, _, hu2, rfl⟩
  case binOp op t x y t2 =>
    simp only [Option.bind_eq_some_iff, Option.map_eq_some_iff] at e ⊢
    obtain ⟨u, hu, u3, hu3, u2, hu2, e⟩ := e; cases e; exact ⟨u, hu, u3, hu3, _, hu2, rfl⟩
  case field =>
    simp only [Option.bind_eq_some_iff, Option.map_eq_some_iff] at e ⊢
    obtain ⟨u, hu, u2, hu2, e⟩ := e; cases e; exact ⟨u, hu, _, hu2, rfl⟩
  case fieldAddr =>
    simp only [Option.bind_eq_some_iff, Option.map_eq_some_iff] at e ⊢
    obtain ⟨u, hu, u2, hu2, e⟩ := e; cases e; exact ⟨u, hu, _, hu2, rfl⟩
  case index =>
    simp only [Option.bind_eq_some_iff, Option.map_eq_some_iff] at e ⊢
    obtain ⟨u, hu, u3, hu3, u2, hu2, e⟩ := e; cases e; exact ⟨u, hu, u3, hu3, _, hu2, rfl⟩
  case indexAddr =>
    simp only [Option.bind_eq_some_iff, Option.map_eq_some_iff] at e ⊢
    obtain ⟨u, hu, u3, hu3, u2, hu2, e⟩ := e; cases e; exact ⟨u, hu, u3, hu3, _, hu2, rfl⟩
end Go.Ev
