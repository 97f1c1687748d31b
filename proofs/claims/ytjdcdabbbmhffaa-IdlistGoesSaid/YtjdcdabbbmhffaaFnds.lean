/- Find; right and same. No condition. -/
import Derived.Test.YtjdcdabbbmhffaaSeek
set_option linter.unusedVariables false
set_option linter.unusedSimpArgs false
namespace Go.Proofs.Ytjdcdabbbmhffaa
open Go.Ev Idl
variable {n0 : Nat} {h : H}
set_option maxRecDepth 20000 in
theorem lRight_ok {v : Value} {l : List Int} (S : Sl h 1 v (l.map u)) (hl : l.length < 2 ^ 62) : Cn Try.prog n0 (.func 30) [v] h (fun r h' => r = .bool (rightB l) ∧ h' = h) := by
  refine F30.enter ?_
  obtain ⟨HP, hHP⟩ : ∃ HP : Value → H → Prop, (fun r h' => r = .bool (rightB l) ∧ h' = h) = HP := ⟨_, rfl⟩
  rw [hHP, F30.e0]
  unfold F30.t0
  refine Lp_ind (fun m fr hh => hh = h ∧ ∃ i : Nat, fr = [(0, v), (3, .int .i64 i)] ∧ 1 ≤ i ∧ (∀ j, j + 1 < i → l.getD j 0 < l.getD (j + 1) 0) ∧ (i ≤ l.length ∨ i = 1) ∧ m = l.length - i) (F30.m1 n0) (l.length - 1) ⟨rfl, 1, by simp (disch := first | omega | assumption | exact isC_last | exact isC_app (by first | assumption | exact isC_last | exact isC_app (by first | assumption | exact isC_last)) | (simp [oneC]; done) | fail) only [evs0, evs1, evs2, evs3, evs4, evs5, evs6, evs7, evs8, if_true, if_false, ↓reduceIte, Nat.reduceEqDiff, Nat.reduceAdd, Nat.reduceMul, Nat.reduceSub, Nat.reduceLeDiff, Int.reduceLT, Int.reduceLE, Int.reduceEq, Bool.false_eq_true, Option.bind_some, Option.map_some, List.set_cons_zero, List.set_cons_succ, List.toList_toArray, List.size_toArray, List.length_cons, List.length_nil, List.getElem?_toArray, List.getElem?_cons_zero, List.getElem?_cons_succ, List.drop_zero, List.take_succ_cons, List.take_zero]; rfl, by omega, fun j hj => by omega, by omega, rfl⟩ ?_
  rintro m fr hh ⟨eh, i, rfl, hi, hal, hi2, rfl⟩
  subst hh
  rw [F30.e1]
  unfold F30.t1
  refine Bnd2_i (len_sl S) ?_
  simp (disch := first | omega | assumption | exact isC_last | exact isC_app (by first | assumption | exact isC_last | exact isC_app (by first | assumption | exact isC_last)) | (simp [oneC]; done) | fail) only [evs0, evs1, evs2, evs3, evs4, evs5, evs6, evs7, evs8, if_true, if_false, ↓reduceIte, Nat.reduceEqDiff, Nat.reduceAdd, Nat.reduceMul, Nat.reduceSub, Nat.reduceLeDiff, Int.reduceLT, Int.reduceLE, Int.reduceEq, Bool.false_eq_true, Option.bind_some, Option.map_some, List.set_cons_zero, List.set_cons_succ, List.toList_toArray, List.size_toArray, List.length_cons, List.length_nil, List.getElem?_toArray, List.getElem?_cons_zero, List.getElem?_cons_succ, List.drop_zero, List.take_succ_cons, List.take_zero]
  by_cases h5 : i < l.length
  · rw [if_pos (by omega), F30.e2]
    unfold F30.t2
    refine rdU S (by omega) (by omega) fun p => ?_
    refine Bnd_i bSub ?_
    rw [show IntKind.i64.wrap ((i : Int) - 1) = ((i - 1 : Nat) : Int) by rw [IntWalk.i64_in _ (by omega)]; omega]
    refine rdU S (by omega) (by omega) fun p => ?_
    rw [Int.toNat_natCast, Int.toNat_natCast]
    simp (disch := first | omega | assumption | exact isC_last | exact isC_app (by first | assumption | exact isC_last | exact isC_app (by first | assumption | exact isC_last)) | (simp [oneC]; done) | fail) only [evs0, evs1, evs2, evs3, evs4, evs5, evs6, evs7, evs8, if_true, if_false, ↓reduceIte, Nat.reduceEqDiff, Nat.reduceAdd, Nat.reduceMul, Nat.reduceSub, Nat.reduceLeDiff, Int.reduceLT, Int.reduceLE, Int.reduceEq, Bool.false_eq_true, Option.bind_some, Option.map_some, List.set_cons_zero, List.set_cons_succ, List.toList_toArray, List.size_toArray, List.length_cons, List.length_nil, List.getElem?_toArray, List.getElem?_cons_zero, List.getElem?_cons_succ, List.drop_zero, List.take_succ_cons, List.take_zero]
    by_cases h6 : l.getD i 0 ≤ l.getD (i - 1) 0
    · rw [if_pos h6, F30.e3]
      simp (disch := first | omega | assumption | exact isC_last | exact isC_app (by first | assumption | exact isC_last | exact isC_app (by first | assumption | exact isC_last)) | (simp [oneC]; done) | fail) only [F30.t3, evs0, evs1, evs2, evs3, evs4, evs5, evs6, evs7, evs8, if_true, if_false, ↓reduceIte, Nat.reduceEqDiff, Nat.reduceAdd, Nat.reduceMul, Nat.reduceSub, Nat.reduceLeDiff, Int.reduceLT, Int.reduceLE, Int.reduceEq, Bool.false_eq_true, Option.bind_some, Option.map_some, List.set_cons_zero, List.set_cons_succ, List.toList_toArray, List.size_toArray, List.length_cons, List.length_nil, List.getElem?_toArray, List.getElem?_cons_zero, List.getElem?_cons_succ, List.drop_zero, List.take_succ_cons, List.take_zero]
      rw [← hHP]
      refine ⟨?_, rfl⟩
      congr 1
      symm
      unfold rightB
      rw [List.all_eq_false]
      refine ⟨i - 1, List.mem_range.2 (by omega), ?_⟩
      rw [show i - 1 + 1 = i by omega, decide_eq_true_eq]
      omega
    · rw [if_neg h6, F30.e4]
      simp (disch := first | omega | assumption | exact isC_last | exact isC_app (by first | assumption | exact isC_last | exact isC_app (by first | assumption | exact isC_last)) | (simp [oneC]; done) | fail) only [F30.t4, evs0, evs1, evs2, evs3, evs4, evs5, evs6, evs7, evs8, if_true, if_false, ↓reduceIte, Nat.reduceEqDiff, Nat.reduceAdd, Nat.reduceMul, Nat.reduceSub, Nat.reduceLeDiff, Int.reduceLT, Int.reduceLE, Int.reduceEq, Bool.false_eq_true, Option.bind_some, Option.map_some, List.set_cons_zero, List.set_cons_succ, List.toList_toArray, List.size_toArray, List.length_cons, List.length_nil, List.getElem?_toArray, List.getElem?_cons_zero, List.getElem?_cons_succ, List.drop_zero, List.take_succ_cons, List.take_zero]
      rw [show IntKind.i64.wrap ((i : Int) + 1) = ((i + 1 : Nat) : Int) by rw [IntWalk.i64_in _ (by omega)]; omega]
      refine ⟨by trivial, l.length - (i + 1), by omega, by trivial, i + 1, rfl, by omega, fun j hj => ?_, by omega, rfl⟩
      by_cases e : j + 1 = i
      · subst e
        rw [show j + 1 - 1 = j by omega] at h6
        omega
      · exact hal j (by omega)
  · rw [if_neg (by omega), F30.e5]
    simp (disch := first | omega | assumption | exact isC_last | exact isC_app (by first | assumption | exact isC_last | exact isC_app (by first | assumption | exact isC_last)) | (simp [oneC]; done) | fail) only [F30.t5, evs0, evs1, evs2, evs3, evs4, evs5, evs6, evs7, evs8, if_true, if_false, ↓reduceIte, Nat.reduceEqDiff, Nat.reduceAdd, Nat.reduceMul, Nat.reduceSub, Nat.reduceLeDiff, Int.reduceLT, Int.reduceLE, Int.reduceEq, Bool.false_eq_true, Option.bind_some, Option.map_some, List.set_cons_zero, List.set_cons_succ, List.toList_toArray, List.size_toArray, List.length_cons, List.length_nil, List.getElem?_toArray, List.getElem?_cons_zero, List.getElem?_cons_succ, List.drop_zero, List.take_succ_cons, List.take_zero]
    rw [← hHP]
    refine ⟨?_, rfl⟩
    congr 1
    symm
    unfold rightB
    rw [List.all_eq_true]
    intro j hj
    rw [decide_eq_true_eq]
    have := List.mem_range.1 hj
    exact hal j (by omega)
set_option maxRecDepth 20000 in
theorem same_ok {v w : Value} {l k : List Int} (S : Sl h 1 v (l.map u)) (T : Sl h 1 w (k.map u)) (hl : l.length < 2 ^ 62) : Cn Try.prog n0 (.func 28) [v, w] h (fun r h' => r = .bool (decide (l = k)) ∧ h' = h) := by
  refine F28.enter ?_
  obtain ⟨HP, hHP⟩ : ∃ HP : Value → H → Prop, (fun r h' => r = .bool (decide (l = k)) ∧ h' = h) = HP := ⟨_, rfl⟩
  have no : l ≠ k → HP (.bool false) h := by intro e; rw [← hHP]; exact ⟨by rw [decide_eq_false e], rfl⟩
  rw [hHP, F28.e0]
  unfold F28.t0
  refine Bnd2_i (len_sl S) ?_
  refine Bnd2_i (len_sl T) ?_
  simp (disch := first | omega | assumption | exact isC_last | exact isC_app (by first | assumption | exact isC_last | exact isC_app (by first | assumption | exact isC_last)) | (simp [oneC]; done) | fail) only [evs0, evs1, evs2, evs3, evs4, evs5, evs6, evs7, evs8, if_true, if_false, ↓reduceIte, Nat.reduceEqDiff, Nat.reduceAdd, Nat.reduceMul, Nat.reduceSub, Nat.reduceLeDiff, Int.reduceLT, Int.reduceLE, Int.reduceEq, Bool.false_eq_true, Option.bind_some, Option.map_some, List.set_cons_zero, List.set_cons_succ, List.toList_toArray, List.size_toArray, List.length_cons, List.length_nil, List.getElem?_toArray, List.getElem?_cons_zero, List.getElem?_cons_succ, List.drop_zero, List.take_succ_cons, List.take_zero]
  by_cases h1 : l.length = k.length
  · rw [if_pos (by omega), F28.e2]
    unfold F28.t2
    refine Lp_ind (fun m fr hh => hh = h ∧ ∃ i : Nat, fr = [(0, v), (1, w), (5, .int .i64 i)] ∧ i ≤ l.length ∧ (∀ j, j < i → l.getD j 0 = k.getD j 0) ∧ m = l.length - i) (F28.m3 n0) l.length ⟨rfl, 0, by simp (disch := first | omega | assumption | exact isC_last | exact isC_app (by first | assumption | exact isC_last | exact isC_app (by first | assumption | exact isC_last)) | (simp [oneC]; done) | fail) only [evs0, evs1, evs2, evs3, evs4, evs5, evs6, evs7, evs8, if_true, if_false, ↓reduceIte, Nat.reduceEqDiff, Nat.reduceAdd, Nat.reduceMul, Nat.reduceSub, Nat.reduceLeDiff, Int.reduceLT, Int.reduceLE, Int.reduceEq, Bool.false_eq_true, Option.bind_some, Option.map_some, List.set_cons_zero, List.set_cons_succ, List.toList_toArray, List.size_toArray, List.length_cons, List.length_nil, List.getElem?_toArray, List.getElem?_cons_zero, List.getElem?_cons_succ, List.drop_zero, List.take_succ_cons, List.take_zero]; rfl, by omega, fun j hj => by omega, rfl⟩ ?_
    rintro m fr hh ⟨eh, i, rfl, hi, hal, rfl⟩
    subst hh
    rw [F28.e3]
    unfold F28.t3
    refine Bnd2_i (len_sl S) ?_
    simp (disch := first | omega | assumption | exact isC_last | exact isC_app (by first | assumption | exact isC_last | exact isC_app (by first | assumption | exact isC_last)) | (simp [oneC]; done) | fail) only [evs0, evs1, evs2, evs3, evs4, evs5, evs6, evs7, evs8, if_true, if_false, ↓reduceIte, Nat.reduceEqDiff, Nat.reduceAdd, Nat.reduceMul, Nat.reduceSub, Nat.reduceLeDiff, Int.reduceLT, Int.reduceLE, Int.reduceEq, Bool.false_eq_true, Option.bind_some, Option.map_some, List.set_cons_zero, List.set_cons_succ, List.toList_toArray, List.size_toArray, List.length_cons, List.length_nil, List.getElem?_toArray, List.getElem?_cons_zero, List.getElem?_cons_succ, List.drop_zero, List.take_succ_cons, List.take_zero]
    by_cases h5 : i < l.length
    · rw [if_pos (by omega), F28.e4]
      unfold F28.t4
      refine rdU S (by omega) (by omega) fun p => ?_
      refine rdU T (by omega) (by omega) fun p => ?_
      rw [Int.toNat_natCast]
      simp (disch := first | omega | assumption | exact isC_last | exact isC_app (by first | assumption | exact isC_last | exact isC_app (by first | assumption | exact isC_last)) | (simp [oneC]; done) | fail) only [evs0, evs1, evs2, evs3, evs4, evs5, evs6, evs7, evs8, if_true, if_false, ↓reduceIte, Nat.reduceEqDiff, Nat.reduceAdd, Nat.reduceMul, Nat.reduceSub, Nat.reduceLeDiff, Int.reduceLT, Int.reduceLE, Int.reduceEq, Bool.false_eq_true, Option.bind_some, Option.map_some, List.set_cons_zero, List.set_cons_succ, List.toList_toArray, List.size_toArray, List.length_cons, List.length_nil, List.getElem?_toArray, List.getElem?_cons_zero, List.getElem?_cons_succ, List.drop_zero, List.take_succ_cons, List.take_zero]
      by_cases h6 : l.getD i 0 = k.getD i 0
      · rw [if_pos h6, F28.e6]
        simp (disch := first | omega | assumption | exact isC_last | exact isC_app (by first | assumption | exact isC_last | exact isC_app (by first | assumption | exact isC_last)) | (simp [oneC]; done) | fail) only [F28.t6, evs0, evs1, evs2, evs3, evs4, evs5, evs6, evs7, evs8, if_true, if_false, ↓reduceIte, Nat.reduceEqDiff, Nat.reduceAdd, Nat.reduceMul, Nat.reduceSub, Nat.reduceLeDiff, Int.reduceLT, Int.reduceLE, Int.reduceEq, Bool.false_eq_true, Option.bind_some, Option.map_some, List.set_cons_zero, List.set_cons_succ, List.toList_toArray, List.size_toArray, List.length_cons, List.length_nil, List.getElem?_toArray, List.getElem?_cons_zero, List.getElem?_cons_succ, List.drop_zero, List.take_succ_cons, List.take_zero]
        rw [show IntKind.i64.wrap ((i : Int) + 1) = ((i + 1 : Nat) : Int) by rw [IntWalk.i64_in _ (by omega)]; omega]
        refine ⟨by trivial, l.length - (i + 1), by omega, by trivial, i + 1, by trivial, by omega, fun j hj => ?_, rfl⟩
        by_cases e : j = i
        · subst e; exact h6
        · exact hal j (by omega)
      · rw [if_neg h6, F28.e5]
        simp (disch := first | omega | assumption | exact isC_last | exact isC_app (by first | assumption | exact isC_last | exact isC_app (by first | assumption | exact isC_last)) | (simp [oneC]; done) | fail) only [F28.t5, evs0, evs1, evs2, evs3, evs4, evs5, evs6, evs7, evs8, if_true, if_false, ↓reduceIte, Nat.reduceEqDiff, Nat.reduceAdd, Nat.reduceMul, Nat.reduceSub, Nat.reduceLeDiff, Int.reduceLT, Int.reduceLE, Int.reduceEq, Bool.false_eq_true, Option.bind_some, Option.map_some, List.set_cons_zero, List.set_cons_succ, List.toList_toArray, List.size_toArray, List.length_cons, List.length_nil, List.getElem?_toArray, List.getElem?_cons_zero, List.getElem?_cons_succ, List.drop_zero, List.take_succ_cons, List.take_zero]
        exact no (fun e => h6 (by rw [e]))
    · rw [if_neg (by omega), F28.e7]
      simp (disch := first | omega | assumption | exact isC_last | exact isC_app (by first | assumption | exact isC_last | exact isC_app (by first | assumption | exact isC_last)) | (simp [oneC]; done) | fail) only [F28.t7, evs0, evs1, evs2, evs3, evs4, evs5, evs6, evs7, evs8, if_true, if_false, ↓reduceIte, Nat.reduceEqDiff, Nat.reduceAdd, Nat.reduceMul, Nat.reduceSub, Nat.reduceLeDiff, Int.reduceLT, Int.reduceLE, Int.reduceEq, Bool.false_eq_true, Option.bind_some, Option.map_some, List.set_cons_zero, List.set_cons_succ, List.toList_toArray, List.size_toArray, List.length_cons, List.length_nil, List.getElem?_toArray, List.getElem?_cons_zero, List.getElem?_cons_succ, List.drop_zero, List.take_succ_cons, List.take_zero]
      have e : l = k := by
        apply List.ext_getElem h1
        intro i hi hi2
        have := hal i (by omega)
        rw [getD_get hi, getD_get hi2] at this
        exact this
      rw [← hHP]
      exact ⟨by rw [decide_eq_true e], rfl⟩
  · rw [if_neg (by omega), F28.e1]
    simp (disch := first | omega | assumption | exact isC_last | exact isC_app (by first | assumption | exact isC_last | exact isC_app (by first | assumption | exact isC_last)) | (simp [oneC]; done) | fail) only [F28.t1, evs0, evs1, evs2, evs3, evs4, evs5, evs6, evs7, evs8, if_true, if_false, ↓reduceIte, Nat.reduceEqDiff, Nat.reduceAdd, Nat.reduceMul, Nat.reduceSub, Nat.reduceLeDiff, Int.reduceLT, Int.reduceLE, Int.reduceEq, Bool.false_eq_true, Option.bind_some, Option.map_some, List.set_cons_zero, List.set_cons_succ, List.toList_toArray, List.size_toArray, List.length_cons, List.length_nil, List.getElem?_toArray, List.getElem?_cons_zero, List.getElem?_cons_succ, List.drop_zero, List.take_succ_cons, List.take_zero]
    exact no (fun e => h1 (by rw [e]))
/-- where a search begins -/
def frm (l : List Int) (a : Int) : Nat := min (max a 0).toNat l.length
theorem frm_le {l : List Int} {a : Int} : frm l a ≤ l.length := Nat.min_le_right _ _
theorem frm_eq {l : List Int} {a : Int} : (if (l.length : Int) < (if (0 : Int) > a then (0 : Int) else a) then (l.length : Int) else (if (0 : Int) > a then (0 : Int) else a)) = ((frm l a : Nat) : Int) := by
  unfold frm; split <;> split <;> omega
set_option maxRecDepth 20000 in
theorem Find_ok {v : Value} {l : List Int} {a id : Int} (S : Sl h 1 v (l.map u)) (hl : l.length < 2 ^ 60) : Cn Try.prog n0 (.func 14) [v, .int .i64 a, .int .u64 id] h (fun r h' => (∃ k : Int, r = .int .i64 k ∧ ((rightB l = false ∧ k = -1) ∨ (rightB l = true ∧ ∃ q : Nat, k = q ∧ Fst l (frm l a) id q))) ∧ Ext h h') := by
  refine F14.enter ?_
  obtain ⟨HP, hHP⟩ : ∃ HP : Value → H → Prop, (fun r h' => (∃ k : Int, r = .int .i64 k ∧ ((rightB l = false ∧ k = -1) ∨ (rightB l = true ∧ ∃ q : Nat, k = q ∧ Fst l (frm l a) id q))) ∧ Ext h h') = HP := ⟨_, rfl⟩
  rw [hHP, F14.e0]
  unfold F14.t0
  refine (Right_ok S (by omega)).mono ?_
  rintro _ hx ⟨rfl, ex⟩; subst hx
  cases hr : rightB l with
  | false =>
    simp (disch := first | omega | assumption | exact isC_last | exact isC_app (by first | assumption | exact isC_last | exact isC_app (by first | assumption | exact isC_last)) | (simp [oneC]; done) | fail) only [Bool.not_false, evs0, evs1, evs2, evs3, evs4, evs5, evs6, evs7, evs8, if_true, if_false, ↓reduceIte, Nat.reduceEqDiff, Nat.reduceAdd, Nat.reduceMul, Nat.reduceSub, Nat.reduceLeDiff, Int.reduceLT, Int.reduceLE, Int.reduceEq, Bool.false_eq_true, Option.bind_some, Option.map_some, List.set_cons_zero, List.set_cons_succ, List.toList_toArray, List.size_toArray, List.length_cons, List.length_nil, List.getElem?_toArray, List.getElem?_cons_zero, List.getElem?_cons_succ, List.drop_zero, List.take_succ_cons, List.take_zero]
    rw [F14.e1]
    simp (disch := first | omega | assumption | exact isC_last | exact isC_app (by first | assumption | exact isC_last | exact isC_app (by first | assumption | exact isC_last)) | (simp [oneC]; done) | fail) only [F14.t1, evs0, evs1, evs2, evs3, evs4, evs5, evs6, evs7, evs8, if_true, if_false, ↓reduceIte, Nat.reduceEqDiff, Nat.reduceAdd, Nat.reduceMul, Nat.reduceSub, Nat.reduceLeDiff, Int.reduceLT, Int.reduceLE, Int.reduceEq, Bool.false_eq_true, Option.bind_some, Option.map_some, List.set_cons_zero, List.set_cons_succ, List.toList_toArray, List.size_toArray, List.length_cons, List.length_nil, List.getElem?_toArray, List.getElem?_cons_zero, List.getElem?_cons_succ, List.drop_zero, List.take_succ_cons, List.take_zero]
    rw [← hHP]
    exact ⟨⟨-1, rfl, .inl ⟨hr, rfl⟩⟩, Ext.refl _⟩
  | true =>
    simp (disch := first | omega | assumption | exact isC_last | exact isC_app (by first | assumption | exact isC_last | exact isC_app (by first | assumption | exact isC_last)) | (simp [oneC]; done) | fail) only [Bool.not_true, evs0, evs1, evs2, evs3, evs4, evs5, evs6, evs7, evs8, if_true, if_false, ↓reduceIte, Nat.reduceEqDiff, Nat.reduceAdd, Nat.reduceMul, Nat.reduceSub, Nat.reduceLeDiff, Int.reduceLT, Int.reduceLE, Int.reduceEq, Bool.false_eq_true, Option.bind_some, Option.map_some, List.set_cons_zero, List.set_cons_succ, List.toList_toArray, List.size_toArray, List.length_cons, List.length_nil, List.getElem?_toArray, List.getElem?_cons_zero, List.getElem?_cons_succ, List.drop_zero, List.take_succ_cons, List.take_zero]
    rw [F14.e2]
    unfold F14.t2
    refine Bnd2_i max2 ?_
    refine Bnd2_i (len_sl S) ?_
    refine Bnd2_i min2 ?_
    rw [frm_eq]
    refine (seek_ok S (rightB_iff.1 hr) frm_le hl).mono ?_
    rintro _ h1 ⟨⟨q, rfl, hq⟩, X⟩
    simp (disch := first | omega | assumption | exact isC_last | exact isC_app (by first | assumption | exact isC_last | exact isC_app (by first | assumption | exact isC_last)) | (simp [oneC]; done) | fail) only [evs0, evs1, evs2, evs3, evs4, evs5, evs6, evs7, evs8, if_true, if_false, ↓reduceIte, Nat.reduceEqDiff, Nat.reduceAdd, Nat.reduceMul, Nat.reduceSub, Nat.reduceLeDiff, Int.reduceLT, Int.reduceLE, Int.reduceEq, Bool.false_eq_true, Option.bind_some, Option.map_some, List.set_cons_zero, List.set_cons_succ, List.toList_toArray, List.size_toArray, List.length_cons, List.length_nil, List.getElem?_toArray, List.getElem?_cons_zero, List.getElem?_cons_succ, List.drop_zero, List.take_succ_cons, List.take_zero]
    rw [← hHP]
    exact ⟨⟨q, rfl, .inr ⟨hr, q, rfl, hq⟩⟩, X⟩
end Go.Proofs.Ytjdcdabbbmhffaa
