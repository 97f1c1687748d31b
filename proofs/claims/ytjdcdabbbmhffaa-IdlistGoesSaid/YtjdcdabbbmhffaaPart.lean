/- Partition, walked. No condition. -/
import Derived.Test.YtjdcdabbbmhffaaHeap
set_option linter.unusedVariables false
set_option linter.unusedSimpArgs false
namespace Go.Proofs.Ytjdcdabbbmhffaa
open Go.Ev
open Go.Sort (swp ltInt)
variable {n0 : Nat} {h : H}
theorem scanUp_at {p : Int → Bool} {d : Array Int} {j i : Nat} : Sort.scanUp p d j i = if i ≤ j ∧ p d[i]! = true then Sort.scanUp p d j (i + 1) else i := by
  rw [Sort.scanUp]
  by_cases hc : i ≤ j ∧ p d[i]! = true
  · rw [if_pos hc, if_pos (by simp only [Bool.and_eq_true, decide_eq_true_eq]; exact hc)]
  · rw [if_neg hc, if_neg (by simp only [Bool.and_eq_true, decide_eq_true_eq]; exact hc)]
theorem scanDown_at {p : Int → Bool} {d : Array Int} {i j : Nat} : Sort.scanDown p d i (j + 1) = if i ≤ j + 1 ∧ p d[j + 1]! = true then Sort.scanDown p d i j else j + 1 := by
  rw [Sort.scanDown]
  by_cases hc : i ≤ j + 1 ∧ p d[j + 1]! = true
  · rw [if_pos hc, if_pos (by simp only [Bool.and_eq_true, decide_eq_true_eq]; exact hc)]
  · rw [if_neg hc, if_neg (by simp only [Bool.and_eq_true, decide_eq_true_eq]; exact hc)]
set_option maxRecDepth 20000 in
theorem scanF69_1 {b n a i j : Nat} {d : Array Int} {K : KP} (hb : b < h.length) (hn : d.size = n) (ha : a < n) (hi : 1 ≤ i) (hij : i ≤ j + 1) (hj : j < n) (h63 : n < 2 ^ 61) (k : K (.exit 0) [(0, V b n), (1, .int .i64 a), (10, .int .i64 (Sort.scanUp (fun x => ltInt x d[a]!) d j i : Nat)), (11, .int .i64 j)] [] (W h b d)) :
    Lp [0, 1, 10, 11] (F69.p1 n0) [(0, V b n), (1, .int .i64 a), (10, .int .i64 i), (11, .int .i64 j)] [] (W h b d) K := by
  refine Lp_ind (fun m fr hh => ∃ i' : Nat, fr = [(0, V b n), (1, .int .i64 a), (10, .int .i64 i'), (11, .int .i64 j)] ∧ i ≤ i' ∧ i' ≤ j + 1 ∧ hh = W h b d ∧ Sort.scanUp (fun x => ltInt x d[a]!) d j i' = Sort.scanUp (fun x => ltInt x d[a]!) d j i ∧ m = j + 1 - i') (F69.m1 n0) (j + 1 - i) ⟨i, by simp (disch := first | omega | assumption | exact isC_last | exact isC_app (by first | assumption | exact isC_last | exact isC_app (by first | assumption | exact isC_last)) | (simp [oneC]; done) | fail) only [evs0, evs1, evs2, evs3, evs4, evs5, evs6, evs7, evs8, if_true, if_false, ↓reduceIte, Nat.reduceEqDiff, Nat.reduceAdd, Nat.reduceMul, Nat.reduceSub, Nat.reduceLeDiff, Int.reduceLT, Int.reduceLE, Int.reduceEq, Bool.false_eq_true, Option.bind_some, Option.map_some, List.set_cons_zero, List.set_cons_succ, List.toList_toArray, List.size_toArray, List.length_cons, List.length_nil, List.getElem?_toArray, List.getElem?_cons_zero, List.getElem?_cons_succ, List.drop_zero, List.take_succ_cons, List.take_zero], by omega, by omega, rfl, rfl, rfl⟩ ?_
  rintro m fr hh ⟨i', rfl, hi', hi2, rfl, E, rfl⟩
  rw [F69.e1]
  rw [scanUp_at] at E
  have e1 : IntKind.i64.wrap ((i' : Int) + 1) = ((i' + 1 : Nat) : Int) := by rw [IntWalk.i64_in _ (by omega)]; omega
  by_cases h5 : i' ≤ j
  · simp (disch := first | omega | assumption | exact isC_last | exact isC_app (by first | assumption | exact isC_last | exact isC_app (by first | assumption | exact isC_last)) | (simp [oneC]; done) | fail) only [F69.t1, ixW, rdW, evs0, evs1, evs2, evs3, evs4, evs5, evs6, evs7, evs8, if_true, if_false, ↓reduceIte, Nat.reduceEqDiff, Nat.reduceAdd, Nat.reduceMul, Nat.reduceSub, Nat.reduceLeDiff, Int.reduceLT, Int.reduceLE, Int.reduceEq, Bool.false_eq_true, Option.bind_some, Option.map_some, List.set_cons_zero, List.set_cons_succ, List.toList_toArray, List.size_toArray, List.length_cons, List.length_nil, List.getElem?_toArray, List.getElem?_cons_zero, List.getElem?_cons_succ, List.drop_zero, List.take_succ_cons, List.take_zero]
    rw [if_pos (by omega)]
    refine lessQ.mono ?_
    rintro _ hx ⟨rfl, ex⟩; subst hx
    cases hl : ltInt d[i']! d[a]! with
    | true =>
      simp (disch := first | omega | assumption | exact isC_last | exact isC_app (by first | assumption | exact isC_last | exact isC_app (by first | assumption | exact isC_last)) | (simp [oneC]; done) | fail) only [Bool.not_true, Bool.not_false, evs0, evs1, evs2, evs3, evs4, evs5, evs6, evs7, evs8, if_true, if_false, ↓reduceIte, Nat.reduceEqDiff, Nat.reduceAdd, Nat.reduceMul, Nat.reduceSub, Nat.reduceLeDiff, Int.reduceLT, Int.reduceLE, Int.reduceEq, Bool.false_eq_true, Option.bind_some, Option.map_some, List.set_cons_zero, List.set_cons_succ, List.toList_toArray, List.size_toArray, List.length_cons, List.length_nil, List.getElem?_toArray, List.getElem?_cons_zero, List.getElem?_cons_succ, List.drop_zero, List.take_succ_cons, List.take_zero]
      rw [F69.e2]
      simp (disch := first | omega | assumption | exact isC_last | exact isC_app (by first | assumption | exact isC_last | exact isC_app (by first | assumption | exact isC_last)) | (simp [oneC]; done) | fail) only [F69.t2, e1, evs0, evs1, evs2, evs3, evs4, evs5, evs6, evs7, evs8, if_true, if_false, ↓reduceIte, Nat.reduceEqDiff, Nat.reduceAdd, Nat.reduceMul, Nat.reduceSub, Nat.reduceLeDiff, Int.reduceLT, Int.reduceLE, Int.reduceEq, Bool.false_eq_true, Option.bind_some, Option.map_some, List.set_cons_zero, List.set_cons_succ, List.toList_toArray, List.size_toArray, List.length_cons, List.length_nil, List.getElem?_toArray, List.getElem?_cons_zero, List.getElem?_cons_succ, List.drop_zero, List.take_succ_cons, List.take_zero]
      rw [if_pos ⟨h5, by simp [hl]⟩] at E
      exact ⟨by trivial, j + 1 - (i' + 1), by omega, i' + 1, by trivial, by omega, by omega, by trivial, E, by trivial⟩
    | false =>
      simp (disch := first | omega | assumption | exact isC_last | exact isC_app (by first | assumption | exact isC_last | exact isC_app (by first | assumption | exact isC_last)) | (simp [oneC]; done) | fail) only [Bool.not_true, Bool.not_false, evs0, evs1, evs2, evs3, evs4, evs5, evs6, evs7, evs8, if_true, if_false, ↓reduceIte, Nat.reduceEqDiff, Nat.reduceAdd, Nat.reduceMul, Nat.reduceSub, Nat.reduceLeDiff, Int.reduceLT, Int.reduceLE, Int.reduceEq, Bool.false_eq_true, Option.bind_some, Option.map_some, List.set_cons_zero, List.set_cons_succ, List.toList_toArray, List.size_toArray, List.length_cons, List.length_nil, List.getElem?_toArray, List.getElem?_cons_zero, List.getElem?_cons_succ, List.drop_zero, List.take_succ_cons, List.take_zero]
      rw [if_neg (fun x => by have := x.2; simp only [hl] at this; cases this)] at E
      rw [← E] at k
      exact k
  · simp (disch := first | omega | assumption | exact isC_last | exact isC_app (by first | assumption | exact isC_last | exact isC_app (by first | assumption | exact isC_last)) | (simp [oneC]; done) | fail) only [F69.t1, evs0, evs1, evs2, evs3, evs4, evs5, evs6, evs7, evs8, if_true, if_false, ↓reduceIte, Nat.reduceEqDiff, Nat.reduceAdd, Nat.reduceMul, Nat.reduceSub, Nat.reduceLeDiff, Int.reduceLT, Int.reduceLE, Int.reduceEq, Bool.false_eq_true, Option.bind_some, Option.map_some, List.set_cons_zero, List.set_cons_succ, List.toList_toArray, List.size_toArray, List.length_cons, List.length_nil, List.getElem?_toArray, List.getElem?_cons_zero, List.getElem?_cons_succ, List.drop_zero, List.take_succ_cons, List.take_zero]
    rw [if_neg (by omega)]
    rw [if_neg (fun x => h5 x.1)] at E
    rw [← E] at k
    exact k
set_option maxRecDepth 20000 in
theorem scanF69_10 {b n a i j : Nat} {d : Array Int} {K : KP} (hb : b < h.length) (hn : d.size = n) (ha : a < n) (hi : 1 ≤ i) (hij : i ≤ j + 1) (hj : j < n) (h63 : n < 2 ^ 61) (k : K (.exit 6) [(0, V b n), (1, .int .i64 a), (10, .int .i64 (Sort.scanUp (fun x => ltInt x d[a]!) d j i : Nat)), (11, .int .i64 j)] [] (W h b d)) :
    Lp [0, 1, 10, 11] (F69.p10 n0) [(0, V b n), (1, .int .i64 a), (10, .int .i64 i), (11, .int .i64 j)] [] (W h b d) K := by
  refine Lp_ind (fun m fr hh => ∃ i' : Nat, fr = [(0, V b n), (1, .int .i64 a), (10, .int .i64 i'), (11, .int .i64 j)] ∧ i ≤ i' ∧ i' ≤ j + 1 ∧ hh = W h b d ∧ Sort.scanUp (fun x => ltInt x d[a]!) d j i' = Sort.scanUp (fun x => ltInt x d[a]!) d j i ∧ m = j + 1 - i') (F69.m10 n0) (j + 1 - i) ⟨i, by simp (disch := first | omega | assumption | exact isC_last | exact isC_app (by first | assumption | exact isC_last | exact isC_app (by first | assumption | exact isC_last)) | (simp [oneC]; done) | fail) only [evs0, evs1, evs2, evs3, evs4, evs5, evs6, evs7, evs8, if_true, if_false, ↓reduceIte, Nat.reduceEqDiff, Nat.reduceAdd, Nat.reduceMul, Nat.reduceSub, Nat.reduceLeDiff, Int.reduceLT, Int.reduceLE, Int.reduceEq, Bool.false_eq_true, Option.bind_some, Option.map_some, List.set_cons_zero, List.set_cons_succ, List.toList_toArray, List.size_toArray, List.length_cons, List.length_nil, List.getElem?_toArray, List.getElem?_cons_zero, List.getElem?_cons_succ, List.drop_zero, List.take_succ_cons, List.take_zero], by omega, by omega, rfl, rfl, rfl⟩ ?_
  rintro m fr hh ⟨i', rfl, hi', hi2, rfl, E, rfl⟩
  rw [F69.e10]
  rw [scanUp_at] at E
  have e1 : IntKind.i64.wrap ((i' : Int) + 1) = ((i' + 1 : Nat) : Int) := by rw [IntWalk.i64_in _ (by omega)]; omega
  by_cases h5 : i' ≤ j
  · simp (disch := first | omega | assumption | exact isC_last | exact isC_app (by first | assumption | exact isC_last | exact isC_app (by first | assumption | exact isC_last)) | (simp [oneC]; done) | fail) only [F69.t10, ixW, rdW, evs0, evs1, evs2, evs3, evs4, evs5, evs6, evs7, evs8, if_true, if_false, ↓reduceIte, Nat.reduceEqDiff, Nat.reduceAdd, Nat.reduceMul, Nat.reduceSub, Nat.reduceLeDiff, Int.reduceLT, Int.reduceLE, Int.reduceEq, Bool.false_eq_true, Option.bind_some, Option.map_some, List.set_cons_zero, List.set_cons_succ, List.toList_toArray, List.size_toArray, List.length_cons, List.length_nil, List.getElem?_toArray, List.getElem?_cons_zero, List.getElem?_cons_succ, List.drop_zero, List.take_succ_cons, List.take_zero]
    rw [if_pos (by omega)]
    refine lessQ.mono ?_
    rintro _ hx ⟨rfl, ex⟩; subst hx
    cases hl : ltInt d[i']! d[a]! with
    | true =>
      simp (disch := first | omega | assumption | exact isC_last | exact isC_app (by first | assumption | exact isC_last | exact isC_app (by first | assumption | exact isC_last)) | (simp [oneC]; done) | fail) only [Bool.not_true, Bool.not_false, evs0, evs1, evs2, evs3, evs4, evs5, evs6, evs7, evs8, if_true, if_false, ↓reduceIte, Nat.reduceEqDiff, Nat.reduceAdd, Nat.reduceMul, Nat.reduceSub, Nat.reduceLeDiff, Int.reduceLT, Int.reduceLE, Int.reduceEq, Bool.false_eq_true, Option.bind_some, Option.map_some, List.set_cons_zero, List.set_cons_succ, List.toList_toArray, List.size_toArray, List.length_cons, List.length_nil, List.getElem?_toArray, List.getElem?_cons_zero, List.getElem?_cons_succ, List.drop_zero, List.take_succ_cons, List.take_zero]
      rw [F69.e11]
      simp (disch := first | omega | assumption | exact isC_last | exact isC_app (by first | assumption | exact isC_last | exact isC_app (by first | assumption | exact isC_last)) | (simp [oneC]; done) | fail) only [F69.t11, e1, evs0, evs1, evs2, evs3, evs4, evs5, evs6, evs7, evs8, if_true, if_false, ↓reduceIte, Nat.reduceEqDiff, Nat.reduceAdd, Nat.reduceMul, Nat.reduceSub, Nat.reduceLeDiff, Int.reduceLT, Int.reduceLE, Int.reduceEq, Bool.false_eq_true, Option.bind_some, Option.map_some, List.set_cons_zero, List.set_cons_succ, List.toList_toArray, List.size_toArray, List.length_cons, List.length_nil, List.getElem?_toArray, List.getElem?_cons_zero, List.getElem?_cons_succ, List.drop_zero, List.take_succ_cons, List.take_zero]
      rw [if_pos ⟨h5, by simp [hl]⟩] at E
      exact ⟨by trivial, j + 1 - (i' + 1), by omega, i' + 1, by trivial, by omega, by omega, by trivial, E, by trivial⟩
    | false =>
      simp (disch := first | omega | assumption | exact isC_last | exact isC_app (by first | assumption | exact isC_last | exact isC_app (by first | assumption | exact isC_last)) | (simp [oneC]; done) | fail) only [Bool.not_true, Bool.not_false, evs0, evs1, evs2, evs3, evs4, evs5, evs6, evs7, evs8, if_true, if_false, ↓reduceIte, Nat.reduceEqDiff, Nat.reduceAdd, Nat.reduceMul, Nat.reduceSub, Nat.reduceLeDiff, Int.reduceLT, Int.reduceLE, Int.reduceEq, Bool.false_eq_true, Option.bind_some, Option.map_some, List.set_cons_zero, List.set_cons_succ, List.toList_toArray, List.size_toArray, List.length_cons, List.length_nil, List.getElem?_toArray, List.getElem?_cons_zero, List.getElem?_cons_succ, List.drop_zero, List.take_succ_cons, List.take_zero]
      rw [if_neg (fun x => by have := x.2; simp only [hl] at this; cases this)] at E
      rw [← E] at k
      exact k
  · simp (disch := first | omega | assumption | exact isC_last | exact isC_app (by first | assumption | exact isC_last | exact isC_app (by first | assumption | exact isC_last)) | (simp [oneC]; done) | fail) only [F69.t10, evs0, evs1, evs2, evs3, evs4, evs5, evs6, evs7, evs8, if_true, if_false, ↓reduceIte, Nat.reduceEqDiff, Nat.reduceAdd, Nat.reduceMul, Nat.reduceSub, Nat.reduceLeDiff, Int.reduceLT, Int.reduceLE, Int.reduceEq, Bool.false_eq_true, Option.bind_some, Option.map_some, List.set_cons_zero, List.set_cons_succ, List.toList_toArray, List.size_toArray, List.length_cons, List.length_nil, List.getElem?_toArray, List.getElem?_cons_zero, List.getElem?_cons_succ, List.drop_zero, List.take_succ_cons, List.take_zero]
    rw [if_neg (by omega)]
    rw [if_neg (fun x => h5 x.1)] at E
    rw [← E] at k
    exact k
set_option maxRecDepth 20000 in
theorem scanF69_4 {b n a i j : Nat} {d : Array Int} {K : KP} (hb : b < h.length) (hn : d.size = n) (ha : a < n) (hi : 1 ≤ i) (hij : i ≤ j + 1) (hj : j < n) (h63 : n < 2 ^ 61) (k : K (.exit 2) [(0, V b n), (1, .int .i64 a), (10, .int .i64 i), (11, .int .i64 (Sort.scanDown (fun x => !ltInt x d[a]!) d i j : Nat))] [] (W h b d)) :
    Lp [0, 1, 10, 11] (F69.p4 n0) [(0, V b n), (1, .int .i64 a), (10, .int .i64 i), (11, .int .i64 j)] [] (W h b d) K := by
  refine Lp_ind (fun m fr hh => ∃ j' : Nat, fr = [(0, V b n), (1, .int .i64 a), (10, .int .i64 i), (11, .int .i64 j')] ∧ i ≤ j' + 1 ∧ j' ≤ j ∧ hh = W h b d ∧ Sort.scanDown (fun x => !ltInt x d[a]!) d i j' = Sort.scanDown (fun x => !ltInt x d[a]!) d i j ∧ m = j') (F69.m4 n0) j ⟨j, by simp (disch := first | omega | assumption | exact isC_last | exact isC_app (by first | assumption | exact isC_last | exact isC_app (by first | assumption | exact isC_last)) | (simp [oneC]; done) | fail) only [evs0, evs1, evs2, evs3, evs4, evs5, evs6, evs7, evs8, if_true, if_false, ↓reduceIte, Nat.reduceEqDiff, Nat.reduceAdd, Nat.reduceMul, Nat.reduceSub, Nat.reduceLeDiff, Int.reduceLT, Int.reduceLE, Int.reduceEq, Bool.false_eq_true, Option.bind_some, Option.map_some, List.set_cons_zero, List.set_cons_succ, List.toList_toArray, List.size_toArray, List.length_cons, List.length_nil, List.getElem?_toArray, List.getElem?_cons_zero, List.getElem?_cons_succ, List.drop_zero, List.take_succ_cons, List.take_zero], by omega, by omega, rfl, rfl, rfl⟩ ?_
  rintro j0 fr hh ⟨j', rfl, hj', hj2, rfl, E, em⟩
  subst em
  rw [F69.e4]
  by_cases h5 : i ≤ j0
  · obtain ⟨q, rfl⟩ : ∃ q, j0 = q + 1 := ⟨j0 - 1, by omega⟩
    rw [scanDown_at] at E
    have e1 : IntKind.i64.wrap (((q + 1 : Nat) : Int) - 1) = (q : Int) := by rw [IntWalk.i64_in _ (by omega)]; omega
    simp (disch := first | omega | assumption | exact isC_last | exact isC_app (by first | assumption | exact isC_last | exact isC_app (by first | assumption | exact isC_last)) | (simp [oneC]; done) | fail) only [F69.t4, ixW, rdW, evs0, evs1, evs2, evs3, evs4, evs5, evs6, evs7, evs8, if_true, if_false, ↓reduceIte, Nat.reduceEqDiff, Nat.reduceAdd, Nat.reduceMul, Nat.reduceSub, Nat.reduceLeDiff, Int.reduceLT, Int.reduceLE, Int.reduceEq, Bool.false_eq_true, Option.bind_some, Option.map_some, List.set_cons_zero, List.set_cons_succ, List.toList_toArray, List.size_toArray, List.length_cons, List.length_nil, List.getElem?_toArray, List.getElem?_cons_zero, List.getElem?_cons_succ, List.drop_zero, List.take_succ_cons, List.take_zero]
    rw [if_pos (by omega)]
    refine lessQ.mono ?_
    rintro _ hx ⟨rfl, ex⟩; subst hx
    cases hl : ltInt d[q + 1]! d[a]! with
    | false =>
      simp (disch := first | omega | assumption | exact isC_last | exact isC_app (by first | assumption | exact isC_last | exact isC_app (by first | assumption | exact isC_last)) | (simp [oneC]; done) | fail) only [Bool.not_true, Bool.not_false, evs0, evs1, evs2, evs3, evs4, evs5, evs6, evs7, evs8, if_true, if_false, ↓reduceIte, Nat.reduceEqDiff, Nat.reduceAdd, Nat.reduceMul, Nat.reduceSub, Nat.reduceLeDiff, Int.reduceLT, Int.reduceLE, Int.reduceEq, Bool.false_eq_true, Option.bind_some, Option.map_some, List.set_cons_zero, List.set_cons_succ, List.toList_toArray, List.size_toArray, List.length_cons, List.length_nil, List.getElem?_toArray, List.getElem?_cons_zero, List.getElem?_cons_succ, List.drop_zero, List.take_succ_cons, List.take_zero]
      rw [F69.e5]
      simp (disch := first | omega | assumption | exact isC_last | exact isC_app (by first | assumption | exact isC_last | exact isC_app (by first | assumption | exact isC_last)) | (simp [oneC]; done) | fail) only [F69.t5, e1, evs0, evs1, evs2, evs3, evs4, evs5, evs6, evs7, evs8, if_true, if_false, ↓reduceIte, Nat.reduceEqDiff, Nat.reduceAdd, Nat.reduceMul, Nat.reduceSub, Nat.reduceLeDiff, Int.reduceLT, Int.reduceLE, Int.reduceEq, Bool.false_eq_true, Option.bind_some, Option.map_some, List.set_cons_zero, List.set_cons_succ, List.toList_toArray, List.size_toArray, List.length_cons, List.length_nil, List.getElem?_toArray, List.getElem?_cons_zero, List.getElem?_cons_succ, List.drop_zero, List.take_succ_cons, List.take_zero]
      rw [if_pos ⟨h5, by simp [hl]⟩] at E
      exact ⟨by trivial, q, by omega, q, by trivial, by omega, by omega, by trivial, E, by trivial⟩
    | true =>
      simp (disch := first | omega | assumption | exact isC_last | exact isC_app (by first | assumption | exact isC_last | exact isC_app (by first | assumption | exact isC_last)) | (simp [oneC]; done) | fail) only [Bool.not_true, Bool.not_false, evs0, evs1, evs2, evs3, evs4, evs5, evs6, evs7, evs8, if_true, if_false, ↓reduceIte, Nat.reduceEqDiff, Nat.reduceAdd, Nat.reduceMul, Nat.reduceSub, Nat.reduceLeDiff, Int.reduceLT, Int.reduceLE, Int.reduceEq, Bool.false_eq_true, Option.bind_some, Option.map_some, List.set_cons_zero, List.set_cons_succ, List.toList_toArray, List.size_toArray, List.length_cons, List.length_nil, List.getElem?_toArray, List.getElem?_cons_zero, List.getElem?_cons_succ, List.drop_zero, List.take_succ_cons, List.take_zero]
      rw [if_neg (fun x => by have := x.2; simp only [hl] at this; cases this)] at E
      rw [← E] at k
      exact k
  · simp (disch := first | omega | assumption | exact isC_last | exact isC_app (by first | assumption | exact isC_last | exact isC_app (by first | assumption | exact isC_last)) | (simp [oneC]; done) | fail) only [F69.t4, evs0, evs1, evs2, evs3, evs4, evs5, evs6, evs7, evs8, if_true, if_false, ↓reduceIte, Nat.reduceEqDiff, Nat.reduceAdd, Nat.reduceMul, Nat.reduceSub, Nat.reduceLeDiff, Int.reduceLT, Int.reduceLE, Int.reduceEq, Bool.false_eq_true, Option.bind_some, Option.map_some, List.set_cons_zero, List.set_cons_succ, List.toList_toArray, List.size_toArray, List.length_cons, List.length_nil, List.getElem?_toArray, List.getElem?_cons_zero, List.getElem?_cons_succ, List.drop_zero, List.take_succ_cons, List.take_zero]
    rw [if_neg (by omega)]
    have E2 : Sort.scanDown (fun x => !ltInt x d[a]!) d i j0 = j0 := by
      cases j0 with
      | zero => rfl
      | succ q => rw [scanDown_at, if_neg (fun x => h5 x.1)]
    rw [E2] at E
    rw [← E] at k
    exact k
set_option maxRecDepth 20000 in
theorem scanF69_13 {b n a i j : Nat} {d : Array Int} {K : KP} (hb : b < h.length) (hn : d.size = n) (ha : a < n) (hi : 1 ≤ i) (hij : i ≤ j + 1) (hj : j < n) (h63 : n < 2 ^ 61) (k : K (.exit 8) [(0, V b n), (1, .int .i64 a), (10, .int .i64 i), (11, .int .i64 (Sort.scanDown (fun x => !ltInt x d[a]!) d i j : Nat))] [] (W h b d)) :
    Lp [0, 1, 10, 11] (F69.p13 n0) [(0, V b n), (1, .int .i64 a), (10, .int .i64 i), (11, .int .i64 j)] [] (W h b d) K := by
  refine Lp_ind (fun m fr hh => ∃ j' : Nat, fr = [(0, V b n), (1, .int .i64 a), (10, .int .i64 i), (11, .int .i64 j')] ∧ i ≤ j' + 1 ∧ j' ≤ j ∧ hh = W h b d ∧ Sort.scanDown (fun x => !ltInt x d[a]!) d i j' = Sort.scanDown (fun x => !ltInt x d[a]!) d i j ∧ m = j') (F69.m13 n0) j ⟨j, by simp (disch := first | omega | assumption | exact isC_last | exact isC_app (by first | assumption | exact isC_last | exact isC_app (by first | assumption | exact isC_last)) | (simp [oneC]; done) | fail) only [evs0, evs1, evs2, evs3, evs4, evs5, evs6, evs7, evs8, if_true, if_false, ↓reduceIte, Nat.reduceEqDiff, Nat.reduceAdd, Nat.reduceMul, Nat.reduceSub, Nat.reduceLeDiff, Int.reduceLT, Int.reduceLE, Int.reduceEq, Bool.false_eq_true, Option.bind_some, Option.map_some, List.set_cons_zero, List.set_cons_succ, List.toList_toArray, List.size_toArray, List.length_cons, List.length_nil, List.getElem?_toArray, List.getElem?_cons_zero, List.getElem?_cons_succ, List.drop_zero, List.take_succ_cons, List.take_zero], by omega, by omega, rfl, rfl, rfl⟩ ?_
  rintro j0 fr hh ⟨j', rfl, hj', hj2, rfl, E, em⟩
  subst em
  rw [F69.e13]
  by_cases h5 : i ≤ j0
  · obtain ⟨q, rfl⟩ : ∃ q, j0 = q + 1 := ⟨j0 - 1, by omega⟩
    rw [scanDown_at] at E
    have e1 : IntKind.i64.wrap (((q + 1 : Nat) : Int) - 1) = (q : Int) := by rw [IntWalk.i64_in _ (by omega)]; omega
    simp (disch := first | omega | assumption | exact isC_last | exact isC_app (by first | assumption | exact isC_last | exact isC_app (by first | assumption | exact isC_last)) | (simp [oneC]; done) | fail) only [F69.t13, ixW, rdW, evs0, evs1, evs2, evs3, evs4, evs5, evs6, evs7, evs8, if_true, if_false, ↓reduceIte, Nat.reduceEqDiff, Nat.reduceAdd, Nat.reduceMul, Nat.reduceSub, Nat.reduceLeDiff, Int.reduceLT, Int.reduceLE, Int.reduceEq, Bool.false_eq_true, Option.bind_some, Option.map_some, List.set_cons_zero, List.set_cons_succ, List.toList_toArray, List.size_toArray, List.length_cons, List.length_nil, List.getElem?_toArray, List.getElem?_cons_zero, List.getElem?_cons_succ, List.drop_zero, List.take_succ_cons, List.take_zero]
    rw [if_pos (by omega)]
    refine lessQ.mono ?_
    rintro _ hx ⟨rfl, ex⟩; subst hx
    cases hl : ltInt d[q + 1]! d[a]! with
    | false =>
      simp (disch := first | omega | assumption | exact isC_last | exact isC_app (by first | assumption | exact isC_last | exact isC_app (by first | assumption | exact isC_last)) | (simp [oneC]; done) | fail) only [Bool.not_true, Bool.not_false, evs0, evs1, evs2, evs3, evs4, evs5, evs6, evs7, evs8, if_true, if_false, ↓reduceIte, Nat.reduceEqDiff, Nat.reduceAdd, Nat.reduceMul, Nat.reduceSub, Nat.reduceLeDiff, Int.reduceLT, Int.reduceLE, Int.reduceEq, Bool.false_eq_true, Option.bind_some, Option.map_some, List.set_cons_zero, List.set_cons_succ, List.toList_toArray, List.size_toArray, List.length_cons, List.length_nil, List.getElem?_toArray, List.getElem?_cons_zero, List.getElem?_cons_succ, List.drop_zero, List.take_succ_cons, List.take_zero]
      rw [F69.e14]
      simp (disch := first | omega | assumption | exact isC_last | exact isC_app (by first | assumption | exact isC_last | exact isC_app (by first | assumption | exact isC_last)) | (simp [oneC]; done) | fail) only [F69.t14, e1, evs0, evs1, evs2, evs3, evs4, evs5, evs6, evs7, evs8, if_true, if_false, ↓reduceIte, Nat.reduceEqDiff, Nat.reduceAdd, Nat.reduceMul, Nat.reduceSub, Nat.reduceLeDiff, Int.reduceLT, Int.reduceLE, Int.reduceEq, Bool.false_eq_true, Option.bind_some, Option.map_some, List.set_cons_zero, List.set_cons_succ, List.toList_toArray, List.size_toArray, List.length_cons, List.length_nil, List.getElem?_toArray, List.getElem?_cons_zero, List.getElem?_cons_succ, List.drop_zero, List.take_succ_cons, List.take_zero]
      rw [if_pos ⟨h5, by simp [hl]⟩] at E
      exact ⟨by trivial, q, by omega, q, by trivial, by omega, by omega, by trivial, E, by trivial⟩
    | true =>
      simp (disch := first | omega | assumption | exact isC_last | exact isC_app (by first | assumption | exact isC_last | exact isC_app (by first | assumption | exact isC_last)) | (simp [oneC]; done) | fail) only [Bool.not_true, Bool.not_false, evs0, evs1, evs2, evs3, evs4, evs5, evs6, evs7, evs8, if_true, if_false, ↓reduceIte, Nat.reduceEqDiff, Nat.reduceAdd, Nat.reduceMul, Nat.reduceSub, Nat.reduceLeDiff, Int.reduceLT, Int.reduceLE, Int.reduceEq, Bool.false_eq_true, Option.bind_some, Option.map_some, List.set_cons_zero, List.set_cons_succ, List.toList_toArray, List.size_toArray, List.length_cons, List.length_nil, List.getElem?_toArray, List.getElem?_cons_zero, List.getElem?_cons_succ, List.drop_zero, List.take_succ_cons, List.take_zero]
      rw [if_neg (fun x => by have := x.2; simp only [hl] at this; cases this)] at E
      rw [← E] at k
      exact k
  · simp (disch := first | omega | assumption | exact isC_last | exact isC_app (by first | assumption | exact isC_last | exact isC_app (by first | assumption | exact isC_last)) | (simp [oneC]; done) | fail) only [F69.t13, evs0, evs1, evs2, evs3, evs4, evs5, evs6, evs7, evs8, if_true, if_false, ↓reduceIte, Nat.reduceEqDiff, Nat.reduceAdd, Nat.reduceMul, Nat.reduceSub, Nat.reduceLeDiff, Int.reduceLT, Int.reduceLE, Int.reduceEq, Bool.false_eq_true, Option.bind_some, Option.map_some, List.set_cons_zero, List.set_cons_succ, List.toList_toArray, List.size_toArray, List.length_cons, List.length_nil, List.getElem?_toArray, List.getElem?_cons_zero, List.getElem?_cons_succ, List.drop_zero, List.take_succ_cons, List.take_zero]
    rw [if_neg (by omega)]
    have E2 : Sort.scanDown (fun x => !ltInt x d[a]!) d i j0 = j0 := by
      cases j0 with
      | zero => rfl
      | succ q => rw [scanDown_at, if_neg (fun x => h5 x.1)]
    rw [E2] at E
    rw [← E] at k
    exact k
set_option maxRecDepth 20000 in
theorem scanF68_2 {b n a i j : Nat} {d : Array Int} {K : KP} (hb : b < h.length) (hn : d.size = n) (ha : a < n) (hi : 1 ≤ i) (hij : i ≤ j + 1) (hj : j < n) (h63 : n < 2 ^ 61) (k : K (.exit 2) [(0, V b n), (1, .int .i64 a), (9, .int .i64 (Sort.scanUp (fun x => !ltInt d[a]! x) d j i : Nat)), (10, .int .i64 j)] [] (W h b d)) :
    Lp [0, 1, 9, 10] (F68.p2 n0) [(0, V b n), (1, .int .i64 a), (9, .int .i64 i), (10, .int .i64 j)] [] (W h b d) K := by
  refine Lp_ind (fun m fr hh => ∃ i' : Nat, fr = [(0, V b n), (1, .int .i64 a), (9, .int .i64 i'), (10, .int .i64 j)] ∧ i ≤ i' ∧ i' ≤ j + 1 ∧ hh = W h b d ∧ Sort.scanUp (fun x => !ltInt d[a]! x) d j i' = Sort.scanUp (fun x => !ltInt d[a]! x) d j i ∧ m = j + 1 - i') (F68.m2 n0) (j + 1 - i) ⟨i, by simp (disch := first | omega | assumption | exact isC_last | exact isC_app (by first | assumption | exact isC_last | exact isC_app (by first | assumption | exact isC_last)) | (simp [oneC]; done) | fail) only [evs0, evs1, evs2, evs3, evs4, evs5, evs6, evs7, evs8, if_true, if_false, ↓reduceIte, Nat.reduceEqDiff, Nat.reduceAdd, Nat.reduceMul, Nat.reduceSub, Nat.reduceLeDiff, Int.reduceLT, Int.reduceLE, Int.reduceEq, Bool.false_eq_true, Option.bind_some, Option.map_some, List.set_cons_zero, List.set_cons_succ, List.toList_toArray, List.size_toArray, List.length_cons, List.length_nil, List.getElem?_toArray, List.getElem?_cons_zero, List.getElem?_cons_succ, List.drop_zero, List.take_succ_cons, List.take_zero], by omega, by omega, rfl, rfl, rfl⟩ ?_
  rintro m fr hh ⟨i', rfl, hi', hi2, rfl, E, rfl⟩
  rw [F68.e2]
  rw [scanUp_at] at E
  have e1 : IntKind.i64.wrap ((i' : Int) + 1) = ((i' + 1 : Nat) : Int) := by rw [IntWalk.i64_in _ (by omega)]; omega
  by_cases h5 : i' ≤ j
  · simp (disch := first | omega | assumption | exact isC_last | exact isC_app (by first | assumption | exact isC_last | exact isC_app (by first | assumption | exact isC_last)) | (simp [oneC]; done) | fail) only [F68.t2, ixW, rdW, evs0, evs1, evs2, evs3, evs4, evs5, evs6, evs7, evs8, if_true, if_false, ↓reduceIte, Nat.reduceEqDiff, Nat.reduceAdd, Nat.reduceMul, Nat.reduceSub, Nat.reduceLeDiff, Int.reduceLT, Int.reduceLE, Int.reduceEq, Bool.false_eq_true, Option.bind_some, Option.map_some, List.set_cons_zero, List.set_cons_succ, List.toList_toArray, List.size_toArray, List.length_cons, List.length_nil, List.getElem?_toArray, List.getElem?_cons_zero, List.getElem?_cons_succ, List.drop_zero, List.take_succ_cons, List.take_zero]
    rw [if_pos (by omega)]
    refine lessQ.mono ?_
    rintro _ hx ⟨rfl, ex⟩; subst hx
    cases hl : ltInt d[a]! d[i']! with
    | false =>
      simp (disch := first | omega | assumption | exact isC_last | exact isC_app (by first | assumption | exact isC_last | exact isC_app (by first | assumption | exact isC_last)) | (simp [oneC]; done) | fail) only [Bool.not_true, Bool.not_false, evs0, evs1, evs2, evs3, evs4, evs5, evs6, evs7, evs8, if_true, if_false, ↓reduceIte, Nat.reduceEqDiff, Nat.reduceAdd, Nat.reduceMul, Nat.reduceSub, Nat.reduceLeDiff, Int.reduceLT, Int.reduceLE, Int.reduceEq, Bool.false_eq_true, Option.bind_some, Option.map_some, List.set_cons_zero, List.set_cons_succ, List.toList_toArray, List.size_toArray, List.length_cons, List.length_nil, List.getElem?_toArray, List.getElem?_cons_zero, List.getElem?_cons_succ, List.drop_zero, List.take_succ_cons, List.take_zero]
      rw [F68.e3]
      simp (disch := first | omega | assumption | exact isC_last | exact isC_app (by first | assumption | exact isC_last | exact isC_app (by first | assumption | exact isC_last)) | (simp [oneC]; done) | fail) only [F68.t3, e1, evs0, evs1, evs2, evs3, evs4, evs5, evs6, evs7, evs8, if_true, if_false, ↓reduceIte, Nat.reduceEqDiff, Nat.reduceAdd, Nat.reduceMul, Nat.reduceSub, Nat.reduceLeDiff, Int.reduceLT, Int.reduceLE, Int.reduceEq, Bool.false_eq_true, Option.bind_some, Option.map_some, List.set_cons_zero, List.set_cons_succ, List.toList_toArray, List.size_toArray, List.length_cons, List.length_nil, List.getElem?_toArray, List.getElem?_cons_zero, List.getElem?_cons_succ, List.drop_zero, List.take_succ_cons, List.take_zero]
      rw [if_pos ⟨h5, by simp [hl]⟩] at E
      exact ⟨by trivial, j + 1 - (i' + 1), by omega, i' + 1, by trivial, by omega, by omega, by trivial, E, by trivial⟩
    | true =>
      simp (disch := first | omega | assumption | exact isC_last | exact isC_app (by first | assumption | exact isC_last | exact isC_app (by first | assumption | exact isC_last)) | (simp [oneC]; done) | fail) only [Bool.not_true, Bool.not_false, evs0, evs1, evs2, evs3, evs4, evs5, evs6, evs7, evs8, if_true, if_false, ↓reduceIte, Nat.reduceEqDiff, Nat.reduceAdd, Nat.reduceMul, Nat.reduceSub, Nat.reduceLeDiff, Int.reduceLT, Int.reduceLE, Int.reduceEq, Bool.false_eq_true, Option.bind_some, Option.map_some, List.set_cons_zero, List.set_cons_succ, List.toList_toArray, List.size_toArray, List.length_cons, List.length_nil, List.getElem?_toArray, List.getElem?_cons_zero, List.getElem?_cons_succ, List.drop_zero, List.take_succ_cons, List.take_zero]
      rw [if_neg (fun x => by have := x.2; simp only [hl] at this; cases this)] at E
      rw [← E] at k
      exact k
  · simp (disch := first | omega | assumption | exact isC_last | exact isC_app (by first | assumption | exact isC_last | exact isC_app (by first | assumption | exact isC_last)) | (simp [oneC]; done) | fail) only [F68.t2, evs0, evs1, evs2, evs3, evs4, evs5, evs6, evs7, evs8, if_true, if_false, ↓reduceIte, Nat.reduceEqDiff, Nat.reduceAdd, Nat.reduceMul, Nat.reduceSub, Nat.reduceLeDiff, Int.reduceLT, Int.reduceLE, Int.reduceEq, Bool.false_eq_true, Option.bind_some, Option.map_some, List.set_cons_zero, List.set_cons_succ, List.toList_toArray, List.size_toArray, List.length_cons, List.length_nil, List.getElem?_toArray, List.getElem?_cons_zero, List.getElem?_cons_succ, List.drop_zero, List.take_succ_cons, List.take_zero]
    rw [if_neg (by omega)]
    rw [if_neg (fun x => h5 x.1)] at E
    rw [← E] at k
    exact k
set_option maxRecDepth 20000 in
theorem scanF68_5 {b n a i j : Nat} {d : Array Int} {K : KP} (hb : b < h.length) (hn : d.size = n) (ha : a < n) (hi : 1 ≤ i) (hij : i ≤ j + 1) (hj : j < n) (h63 : n < 2 ^ 61) (k : K (.exit 4) [(0, V b n), (1, .int .i64 a), (9, .int .i64 i), (10, .int .i64 (Sort.scanDown (fun x => ltInt d[a]! x) d i j : Nat))] [] (W h b d)) :
    Lp [0, 1, 9, 10] (F68.p5 n0) [(0, V b n), (1, .int .i64 a), (9, .int .i64 i), (10, .int .i64 j)] [] (W h b d) K := by
  refine Lp_ind (fun m fr hh => ∃ j' : Nat, fr = [(0, V b n), (1, .int .i64 a), (9, .int .i64 i), (10, .int .i64 j')] ∧ i ≤ j' + 1 ∧ j' ≤ j ∧ hh = W h b d ∧ Sort.scanDown (fun x => ltInt d[a]! x) d i j' = Sort.scanDown (fun x => ltInt d[a]! x) d i j ∧ m = j') (F68.m5 n0) j ⟨j, by simp (disch := first | omega | assumption | exact isC_last | exact isC_app (by first | assumption | exact isC_last | exact isC_app (by first | assumption | exact isC_last)) | (simp [oneC]; done) | fail) only [evs0, evs1, evs2, evs3, evs4, evs5, evs6, evs7, evs8, if_true, if_false, ↓reduceIte, Nat.reduceEqDiff, Nat.reduceAdd, Nat.reduceMul, Nat.reduceSub, Nat.reduceLeDiff, Int.reduceLT, Int.reduceLE, Int.reduceEq, Bool.false_eq_true, Option.bind_some, Option.map_some, List.set_cons_zero, List.set_cons_succ, List.toList_toArray, List.size_toArray, List.length_cons, List.length_nil, List.getElem?_toArray, List.getElem?_cons_zero, List.getElem?_cons_succ, List.drop_zero, List.take_succ_cons, List.take_zero], by omega, by omega, rfl, rfl, rfl⟩ ?_
  rintro j0 fr hh ⟨j', rfl, hj', hj2, rfl, E, em⟩
  subst em
  rw [F68.e5]
  by_cases h5 : i ≤ j0
  · obtain ⟨q, rfl⟩ : ∃ q, j0 = q + 1 := ⟨j0 - 1, by omega⟩
    rw [scanDown_at] at E
    have e1 : IntKind.i64.wrap (((q + 1 : Nat) : Int) - 1) = (q : Int) := by rw [IntWalk.i64_in _ (by omega)]; omega
    simp (disch := first | omega | assumption | exact isC_last | exact isC_app (by first | assumption | exact isC_last | exact isC_app (by first | assumption | exact isC_last)) | (simp [oneC]; done) | fail) only [F68.t5, ixW, rdW, evs0, evs1, evs2, evs3, evs4, evs5, evs6, evs7, evs8, if_true, if_false, ↓reduceIte, Nat.reduceEqDiff, Nat.reduceAdd, Nat.reduceMul, Nat.reduceSub, Nat.reduceLeDiff, Int.reduceLT, Int.reduceLE, Int.reduceEq, Bool.false_eq_true, Option.bind_some, Option.map_some, List.set_cons_zero, List.set_cons_succ, List.toList_toArray, List.size_toArray, List.length_cons, List.length_nil, List.getElem?_toArray, List.getElem?_cons_zero, List.getElem?_cons_succ, List.drop_zero, List.take_succ_cons, List.take_zero]
    rw [if_pos (by omega)]
    refine lessQ.mono ?_
    rintro _ hx ⟨rfl, ex⟩; subst hx
    cases hl : ltInt d[a]! d[q + 1]! with
    | true =>
      simp (disch := first | omega | assumption | exact isC_last | exact isC_app (by first | assumption | exact isC_last | exact isC_app (by first | assumption | exact isC_last)) | (simp [oneC]; done) | fail) only [Bool.not_true, Bool.not_false, evs0, evs1, evs2, evs3, evs4, evs5, evs6, evs7, evs8, if_true, if_false, ↓reduceIte, Nat.reduceEqDiff, Nat.reduceAdd, Nat.reduceMul, Nat.reduceSub, Nat.reduceLeDiff, Int.reduceLT, Int.reduceLE, Int.reduceEq, Bool.false_eq_true, Option.bind_some, Option.map_some, List.set_cons_zero, List.set_cons_succ, List.toList_toArray, List.size_toArray, List.length_cons, List.length_nil, List.getElem?_toArray, List.getElem?_cons_zero, List.getElem?_cons_succ, List.drop_zero, List.take_succ_cons, List.take_zero]
      rw [F68.e6]
      simp (disch := first | omega | assumption | exact isC_last | exact isC_app (by first | assumption | exact isC_last | exact isC_app (by first | assumption | exact isC_last)) | (simp [oneC]; done) | fail) only [F68.t6, e1, evs0, evs1, evs2, evs3, evs4, evs5, evs6, evs7, evs8, if_true, if_false, ↓reduceIte, Nat.reduceEqDiff, Nat.reduceAdd, Nat.reduceMul, Nat.reduceSub, Nat.reduceLeDiff, Int.reduceLT, Int.reduceLE, Int.reduceEq, Bool.false_eq_true, Option.bind_some, Option.map_some, List.set_cons_zero, List.set_cons_succ, List.toList_toArray, List.size_toArray, List.length_cons, List.length_nil, List.getElem?_toArray, List.getElem?_cons_zero, List.getElem?_cons_succ, List.drop_zero, List.take_succ_cons, List.take_zero]
      rw [if_pos ⟨h5, by simp [hl]⟩] at E
      exact ⟨by trivial, q, by omega, q, by trivial, by omega, by omega, by trivial, E, by trivial⟩
    | false =>
      simp (disch := first | omega | assumption | exact isC_last | exact isC_app (by first | assumption | exact isC_last | exact isC_app (by first | assumption | exact isC_last)) | (simp [oneC]; done) | fail) only [Bool.not_true, Bool.not_false, evs0, evs1, evs2, evs3, evs4, evs5, evs6, evs7, evs8, if_true, if_false, ↓reduceIte, Nat.reduceEqDiff, Nat.reduceAdd, Nat.reduceMul, Nat.reduceSub, Nat.reduceLeDiff, Int.reduceLT, Int.reduceLE, Int.reduceEq, Bool.false_eq_true, Option.bind_some, Option.map_some, List.set_cons_zero, List.set_cons_succ, List.toList_toArray, List.size_toArray, List.length_cons, List.length_nil, List.getElem?_toArray, List.getElem?_cons_zero, List.getElem?_cons_succ, List.drop_zero, List.take_succ_cons, List.take_zero]
      rw [if_neg (fun x => by have := x.2; simp only [hl] at this; cases this)] at E
      rw [← E] at k
      exact k
  · simp (disch := first | omega | assumption | exact isC_last | exact isC_app (by first | assumption | exact isC_last | exact isC_app (by first | assumption | exact isC_last)) | (simp [oneC]; done) | fail) only [F68.t5, evs0, evs1, evs2, evs3, evs4, evs5, evs6, evs7, evs8, if_true, if_false, ↓reduceIte, Nat.reduceEqDiff, Nat.reduceAdd, Nat.reduceMul, Nat.reduceSub, Nat.reduceLeDiff, Int.reduceLT, Int.reduceLE, Int.reduceEq, Bool.false_eq_true, Option.bind_some, Option.map_some, List.set_cons_zero, List.set_cons_succ, List.toList_toArray, List.size_toArray, List.length_cons, List.length_nil, List.getElem?_toArray, List.getElem?_cons_zero, List.getElem?_cons_succ, List.drop_zero, List.take_succ_cons, List.take_zero]
    rw [if_neg (by omega)]
    have E2 : Sort.scanDown (fun x => ltInt d[a]! x) d i j0 = j0 := by
      cases j0 with
      | zero => rfl
      | succ q => rw [scanDown_at, if_neg (fun x => h5 x.1)]
    rw [E2] at E
    rw [← E] at k
    exact k
theorem up_rng {p : Int → Bool} {d : Array Int} {j i : Nat} (h : i ≤ j + 1) : i ≤ Sort.scanUp p d j i ∧ Sort.scanUp p d j i ≤ j + 1 ∧ (Sort.scanUp p d j i ≤ j → p d[Sort.scanUp p d j i]! = false) := ⟨Sort.scanUp_ge p d j i, (Sort.scanUp_spec p d j _ i rfl).2.1 h, (Sort.scanUp_spec p d j _ i rfl).2.2.2⟩
theorem down_rng {p : Int → Bool} {d : Array Int} {i j : Nat} (h : i ≤ j + 1) : i ≤ Sort.scanDown p d i j + 1 ∧ Sort.scanDown p d i j ≤ j ∧ (i ≤ Sort.scanDown p d i j → 0 < Sort.scanDown p d i j → p d[Sort.scanDown p d i j]! = false) := ⟨(Sort.scanDown_spec p d i j).2.1 h, Sort.scanDown_le p d i j, (Sort.scanDown_spec p d i j).2.2.2⟩
set_option maxRecDepth 20000 in
theorem partition_ok {b n a e pv : Nat} {d : Array Int} (hb : b < h.length) (hn : d.size = n) (hap : a ≤ pv) (hpe : pv < e) (hen : e ≤ n) (h63 : n < 2 ^ 61) :
    Cn Try.prog n0 (.func 69) [V b n, .int .i64 a, .int .i64 e, .int .i64 pv] (W h b d) (fun v h' => (∃ fl, v = .tuple #[.int .i64 ((Sort.partition ltInt d a e pv).1 : Nat), .bool fl]) ∧ h' = W h b (Sort.partition ltInt d a e pv).2.2) := by
  refine F69.enter ?_
  obtain ⟨HP, hHP⟩ : ∃ HP : Value → H → Prop, (fun v h' => (∃ fl, v = .tuple #[.int .i64 ((Sort.partition ltInt d a e pv).1 : Nat), .bool fl]) ∧ h' = W h b (Sort.partition ltInt d a e pv).2.2) = HP := ⟨_, rfl⟩
  rw [hHP, F69.e0]
  rw [Sort.partition_fst, Sort.partition_arr] at hHP
  have e1 : IntKind.i64.wrap ((a : Int) + 1) = ((a + 1 : Nat) : Int) := by rw [IntWalk.i64_in _ (by omega)]; omega
  have e2 : IntKind.i64.wrap ((e : Int) - 1) = ((e - 1 : Nat) : Int) := by rw [IntWalk.i64_in _ (by omega)]; omega
  simp (disch := first | omega | assumption | exact isC_last | exact isC_app (by first | assumption | exact isC_last | exact isC_app (by first | assumption | exact isC_last)) | (simp [oneC]; done) | fail) only [F69.t0, ixW, rdW, wrW, wrW2, swp_def, e1, e2, evs0, evs1, evs2, evs3, evs4, evs5, evs6, evs7, evs8, if_true, if_false, ↓reduceIte, Nat.reduceEqDiff, Nat.reduceAdd, Nat.reduceMul, Nat.reduceSub, Nat.reduceLeDiff, Int.reduceLT, Int.reduceLE, Int.reduceEq, Bool.false_eq_true, Option.bind_some, Option.map_some, List.set_cons_zero, List.set_cons_succ, List.toList_toArray, List.size_toArray, List.length_cons, List.length_nil, List.getElem?_toArray, List.getElem?_cons_zero, List.getElem?_cons_succ, List.drop_zero, List.take_succ_cons, List.take_zero]
  have hs0 : (swp d a pv).size = n := by rw [swp_size]; exact hn
  generalize swp d a pv = d0 at *
  obtain ⟨L, hL⟩ : ∃ L, Sort.partLoop ltInt a (a + 1) (e - 1) d0 = L := ⟨_, rfl⟩
  rw [hL] at hHP
  have fin : ∀ {fl : Bool} {hh : H}, hh = W h b (swp L.2 L.1 a) → HP (.tuple #[.int .i64 (L.1 : Nat), .bool fl]) hh := by
    intro fl hh e; subst e; rw [← hHP]; exact ⟨⟨fl, rfl⟩, rfl⟩
  clear hHP
  rw [Sort.partLoop_eq] at hL
  refine scanF69_1 hb hs0 (by omega) (by omega) (by omega) (by omega) h63 ?_
  simp (disch := first | omega | assumption | exact isC_last | exact isC_app (by first | assumption | exact isC_last | exact isC_app (by first | assumption | exact isC_last)) | (simp [oneC]; done) | fail) only [evs0, evs1, evs2, evs3, evs4, evs5, evs6, evs7, evs8, if_true, if_false, ↓reduceIte, Nat.reduceEqDiff, Nat.reduceAdd, Nat.reduceMul, Nat.reduceSub, Nat.reduceLeDiff, Int.reduceLT, Int.reduceLE, Int.reduceEq, Bool.false_eq_true, Option.bind_some, Option.map_some, List.set_cons_zero, List.set_cons_succ, List.toList_toArray, List.size_toArray, List.length_cons, List.length_nil, List.getElem?_toArray, List.getElem?_cons_zero, List.getElem?_cons_succ, List.drop_zero, List.take_succ_cons, List.take_zero]
  rw [F69.e3]
  unfold F69.t3
  have r1 := up_rng (p := (fun x => ltInt x d0[a]!)) (d := d0) (j := e - 1) (i := a + 1) (by omega)
  generalize Sort.scanUp (fun x => ltInt x d0[a]!) d0 (e - 1) (a + 1) = I at *
  refine scanF69_4 hb hs0 (by omega) (by omega) (by omega) (by omega) h63 ?_
  simp (disch := first | omega | assumption | exact isC_last | exact isC_app (by first | assumption | exact isC_last | exact isC_app (by first | assumption | exact isC_last)) | (simp [oneC]; done) | fail) only [evs0, evs1, evs2, evs3, evs4, evs5, evs6, evs7, evs8, if_true, if_false, ↓reduceIte, Nat.reduceEqDiff, Nat.reduceAdd, Nat.reduceMul, Nat.reduceSub, Nat.reduceLeDiff, Int.reduceLT, Int.reduceLE, Int.reduceEq, Bool.false_eq_true, Option.bind_some, Option.map_some, List.set_cons_zero, List.set_cons_succ, List.toList_toArray, List.size_toArray, List.length_cons, List.length_nil, List.getElem?_toArray, List.getElem?_cons_zero, List.getElem?_cons_succ, List.drop_zero, List.take_succ_cons, List.take_zero]
  rw [F69.e6]
  have r2 := down_rng (p := (fun x => !ltInt x d0[a]!)) (d := d0) (i := I) (j := e - 1) (by omega)
  generalize Sort.scanDown (fun x => !ltInt x d0[a]!) d0 I (e - 1) = J at *
  simp (disch := first | omega | assumption | exact isC_last | exact isC_app (by first | assumption | exact isC_last | exact isC_app (by first | assumption | exact isC_last)) | (simp [oneC]; done) | fail) only [F69.t6, evs0, evs1, evs2, evs3, evs4, evs5, evs6, evs7, evs8, if_true, if_false, ↓reduceIte, Nat.reduceEqDiff, Nat.reduceAdd, Nat.reduceMul, Nat.reduceSub, Nat.reduceLeDiff, Int.reduceLT, Int.reduceLE, Int.reduceEq, Bool.false_eq_true, Option.bind_some, Option.map_some, List.set_cons_zero, List.set_cons_succ, List.toList_toArray, List.size_toArray, List.length_cons, List.length_nil, List.getElem?_toArray, List.getElem?_cons_zero, List.getElem?_cons_succ, List.drop_zero, List.take_succ_cons, List.take_zero]
  by_cases h5 : I > J
  · rw [if_pos h5] at hL
    rw [if_pos (by omega), F69.e7]
    subst hL
    simp (disch := first | omega | assumption | exact isC_last | exact isC_app (by first | assumption | exact isC_last | exact isC_app (by first | assumption | exact isC_last)) | (simp [oneC]; done) | fail) only [F69.t7, ixW, rdW, wrW, wrW2, swp_def, evs0, evs1, evs2, evs3, evs4, evs5, evs6, evs7, evs8, if_true, if_false, ↓reduceIte, Nat.reduceEqDiff, Nat.reduceAdd, Nat.reduceMul, Nat.reduceSub, Nat.reduceLeDiff, Int.reduceLT, Int.reduceLE, Int.reduceEq, Bool.false_eq_true, Option.bind_some, Option.map_some, List.set_cons_zero, List.set_cons_succ, List.toList_toArray, List.size_toArray, List.length_cons, List.length_nil, List.getElem?_toArray, List.getElem?_cons_zero, List.getElem?_cons_succ, List.drop_zero, List.take_succ_cons, List.take_zero]
    exact fin rfl
  · rw [if_neg h5] at hL
    rw [if_neg (by omega), F69.e8]
    have e3 : IntKind.i64.wrap ((I : Int) + 1) = ((I + 1 : Nat) : Int) := by rw [IntWalk.i64_in _ (by omega)]; omega
    have e4 : IntKind.i64.wrap ((J : Int) - 1) = ((J - 1 : Nat) : Int) := by rw [IntWalk.i64_in _ (by omega)]; omega
    simp (disch := first | omega | assumption | exact isC_last | exact isC_app (by first | assumption | exact isC_last | exact isC_app (by first | assumption | exact isC_last)) | (simp [oneC]; done) | fail) only [F69.t8, ixW, rdW, wrW, wrW2, swp_def, e3, e4, evs0, evs1, evs2, evs3, evs4, evs5, evs6, evs7, evs8, if_true, if_false, ↓reduceIte, Nat.reduceEqDiff, Nat.reduceAdd, Nat.reduceMul, Nat.reduceSub, Nat.reduceLeDiff, Int.reduceLT, Int.reduceLE, Int.reduceEq, Bool.false_eq_true, Option.bind_some, Option.map_some, List.set_cons_zero, List.set_cons_succ, List.toList_toArray, List.size_toArray, List.length_cons, List.length_nil, List.getElem?_toArray, List.getElem?_cons_zero, List.getElem?_cons_succ, List.drop_zero, List.take_succ_cons, List.take_zero]
    have hs1 : (swp d0 I J).size = n := by rw [swp_size]; exact hs0
    have hIJ : I < J := by
      by_cases e : I = J
      · subst e
        have q1 := r1.2.2 (by omega)
        have q2 := r2.2.2 (by omega) (by omega)
        rw [q1] at q2
        cases q2
      · omega
    generalize swp d0 I J = d1 at *
    refine Lp_ind (fun m fr hh => ∃ (i j : Nat) (d' : Array Int), fr = [(0, V b n), (1, .int .i64 a), (10, .int .i64 i), (11, .int .i64 j)] ∧ 1 ≤ i ∧ i ≤ j + 1 ∧ j < n ∧ d'.size = n ∧ hh = W h b d' ∧ Sort.partLoop ltInt a i j d' = L ∧ m = j + 1 - i) (F69.m9 n0) (J - 1 + 1 - (I + 1))
      ⟨I + 1, J - 1, d1, by simp (disch := first | omega | assumption | exact isC_last | exact isC_app (by first | assumption | exact isC_last | exact isC_app (by first | assumption | exact isC_last)) | (simp [oneC]; done) | fail) only [evs0, evs1, evs2, evs3, evs4, evs5, evs6, evs7, evs8, if_true, if_false, ↓reduceIte, Nat.reduceEqDiff, Nat.reduceAdd, Nat.reduceMul, Nat.reduceSub, Nat.reduceLeDiff, Int.reduceLT, Int.reduceLE, Int.reduceEq, Bool.false_eq_true, Option.bind_some, Option.map_some, List.set_cons_zero, List.set_cons_succ, List.toList_toArray, List.size_toArray, List.length_cons, List.length_nil, List.getElem?_toArray, List.getElem?_cons_zero, List.getElem?_cons_succ, List.drop_zero, List.take_succ_cons, List.take_zero], by omega, by omega, by omega, hs1, rfl, hL, rfl⟩ ?_
    rintro m fr hh ⟨i, j, d', rfl, hi, hij, hj, hs, rfl, E, rfl⟩
    rw [F69.e9]
    unfold F69.t9
    rw [Sort.partLoop_eq] at E
    refine scanF69_10 hb hs (by omega) hi hij hj h63 ?_
    simp (disch := first | omega | assumption | exact isC_last | exact isC_app (by first | assumption | exact isC_last | exact isC_app (by first | assumption | exact isC_last)) | (simp [oneC]; done) | fail) only [evs0, evs1, evs2, evs3, evs4, evs5, evs6, evs7, evs8, if_true, if_false, ↓reduceIte, Nat.reduceEqDiff, Nat.reduceAdd, Nat.reduceMul, Nat.reduceSub, Nat.reduceLeDiff, Int.reduceLT, Int.reduceLE, Int.reduceEq, Bool.false_eq_true, Option.bind_some, Option.map_some, List.set_cons_zero, List.set_cons_succ, List.toList_toArray, List.size_toArray, List.length_cons, List.length_nil, List.getElem?_toArray, List.getElem?_cons_zero, List.getElem?_cons_succ, List.drop_zero, List.take_succ_cons, List.take_zero]
    rw [F69.e12]
    unfold F69.t12
    have r1 := up_rng (p := (fun x => ltInt x d'[a]!)) (d := d') (j := j) (i := i) hij
    generalize Sort.scanUp (fun x => ltInt x d'[a]!) d' j i = I2 at *
    refine scanF69_13 hb hs (by omega) (by omega) (by omega) hj h63 ?_
    simp (disch := first | omega | assumption | exact isC_last | exact isC_app (by first | assumption | exact isC_last | exact isC_app (by first | assumption | exact isC_last)) | (simp [oneC]; done) | fail) only [evs0, evs1, evs2, evs3, evs4, evs5, evs6, evs7, evs8, if_true, if_false, ↓reduceIte, Nat.reduceEqDiff, Nat.reduceAdd, Nat.reduceMul, Nat.reduceSub, Nat.reduceLeDiff, Int.reduceLT, Int.reduceLE, Int.reduceEq, Bool.false_eq_true, Option.bind_some, Option.map_some, List.set_cons_zero, List.set_cons_succ, List.toList_toArray, List.size_toArray, List.length_cons, List.length_nil, List.getElem?_toArray, List.getElem?_cons_zero, List.getElem?_cons_succ, List.drop_zero, List.take_succ_cons, List.take_zero]
    rw [F69.e15]
    have r2 := down_rng (p := (fun x => !ltInt x d'[a]!)) (d := d') (i := I2) (j := j) (by omega)
    generalize Sort.scanDown (fun x => !ltInt x d'[a]!) d' I2 j = J2 at *
    simp (disch := first | omega | assumption | exact isC_last | exact isC_app (by first | assumption | exact isC_last | exact isC_app (by first | assumption | exact isC_last)) | (simp [oneC]; done) | fail) only [F69.t15, evs0, evs1, evs2, evs3, evs4, evs5, evs6, evs7, evs8, if_true, if_false, ↓reduceIte, Nat.reduceEqDiff, Nat.reduceAdd, Nat.reduceMul, Nat.reduceSub, Nat.reduceLeDiff, Int.reduceLT, Int.reduceLE, Int.reduceEq, Bool.false_eq_true, Option.bind_some, Option.map_some, List.set_cons_zero, List.set_cons_succ, List.toList_toArray, List.size_toArray, List.length_cons, List.length_nil, List.getElem?_toArray, List.getElem?_cons_zero, List.getElem?_cons_succ, List.drop_zero, List.take_succ_cons, List.take_zero]
    by_cases h6 : I2 > J2
    · rw [if_pos h6] at E
      rw [if_pos (by omega)]
      simp (disch := first | omega | assumption | exact isC_last | exact isC_app (by first | assumption | exact isC_last | exact isC_app (by first | assumption | exact isC_last)) | (simp [oneC]; done) | fail) only [kblk_o (j := 4) (id := 5) rfl, evs0, evs1, evs2, evs3, evs4, evs5, evs6, evs7, evs8, if_true, if_false, ↓reduceIte, Nat.reduceEqDiff, Nat.reduceAdd, Nat.reduceMul, Nat.reduceSub, Nat.reduceLeDiff, Int.reduceLT, Int.reduceLE, Int.reduceEq, Bool.false_eq_true, Option.bind_some, Option.map_some, List.set_cons_zero, List.set_cons_succ, List.toList_toArray, List.size_toArray, List.length_cons, List.length_nil, List.getElem?_toArray, List.getElem?_cons_zero, List.getElem?_cons_succ, List.drop_zero, List.take_succ_cons, List.take_zero]
      rw [F69.e17]
      subst E
      simp (disch := first | omega | assumption | exact isC_last | exact isC_app (by first | assumption | exact isC_last | exact isC_app (by first | assumption | exact isC_last)) | (simp [oneC]; done) | fail) only [F69.t17, ixW, rdW, wrW, wrW2, swp_def, evs0, evs1, evs2, evs3, evs4, evs5, evs6, evs7, evs8, if_true, if_false, ↓reduceIte, Nat.reduceEqDiff, Nat.reduceAdd, Nat.reduceMul, Nat.reduceSub, Nat.reduceLeDiff, Int.reduceLT, Int.reduceLE, Int.reduceEq, Bool.false_eq_true, Option.bind_some, Option.map_some, List.set_cons_zero, List.set_cons_succ, List.toList_toArray, List.size_toArray, List.length_cons, List.length_nil, List.getElem?_toArray, List.getElem?_cons_zero, List.getElem?_cons_succ, List.drop_zero, List.take_succ_cons, List.take_zero]
      exact fin rfl
    · rw [if_neg h6] at E
      rw [if_neg (by omega), F69.e16]
      have hIJ2 : I2 < J2 := by
        by_cases e : I2 = J2
        · subst e
          have q1 := r1.2.2 (by omega)
          have q2 := r2.2.2 (by omega) (by omega)
          rw [q1] at q2
          cases q2
        · omega
      have e3 : IntKind.i64.wrap ((I2 : Int) + 1) = ((I2 + 1 : Nat) : Int) := by rw [IntWalk.i64_in _ (by omega)]; omega
      have e4 : IntKind.i64.wrap ((J2 : Int) - 1) = ((J2 - 1 : Nat) : Int) := by rw [IntWalk.i64_in _ (by omega)]; omega
      simp (disch := first | omega | assumption | exact isC_last | exact isC_app (by first | assumption | exact isC_last | exact isC_app (by first | assumption | exact isC_last)) | (simp [oneC]; done) | fail) only [F69.t16, ixW, rdW, wrW, wrW2, swp_def, e3, e4, evs0, evs1, evs2, evs3, evs4, evs5, evs6, evs7, evs8, if_true, if_false, ↓reduceIte, Nat.reduceEqDiff, Nat.reduceAdd, Nat.reduceMul, Nat.reduceSub, Nat.reduceLeDiff, Int.reduceLT, Int.reduceLE, Int.reduceEq, Bool.false_eq_true, Option.bind_some, Option.map_some, List.set_cons_zero, List.set_cons_succ, List.toList_toArray, List.size_toArray, List.length_cons, List.length_nil, List.getElem?_toArray, List.getElem?_cons_zero, List.getElem?_cons_succ, List.drop_zero, List.take_succ_cons, List.take_zero]
      exact ⟨by trivial, J2 - 1 + 1 - (I2 + 1), by omega, I2 + 1, J2 - 1, _, rfl, by omega, by omega, by omega, by rw [swp_size]; exact hs, rfl, E, rfl⟩
set_option maxRecDepth 20000 in
theorem partEq_ok {b n a e pv : Nat} {d : Array Int} (hb : b < h.length) (hn : d.size = n) (hap : a ≤ pv) (hpe : pv < e) (hen : e ≤ n) (h63 : n < 2 ^ 61) :
    Cn Try.prog n0 (.func 68) [V b n, .int .i64 a, .int .i64 e, .int .i64 pv] (W h b d) (fun v h' => v = .int .i64 ((Sort.partitionEqual ltInt d a e pv).1 : Nat) ∧ h' = W h b (Sort.partitionEqual ltInt d a e pv).2) := by
  refine F68.enter ?_
  obtain ⟨HP, hHP⟩ : ∃ HP : Value → H → Prop, (fun v h' => v = .int .i64 ((Sort.partitionEqual ltInt d a e pv).1 : Nat) ∧ h' = W h b (Sort.partitionEqual ltInt d a e pv).2) = HP := ⟨_, rfl⟩
  rw [hHP, F68.e0]
  have e1 : IntKind.i64.wrap ((a : Int) + 1) = ((a + 1 : Nat) : Int) := by rw [IntWalk.i64_in _ (by omega)]; omega
  have e2 : IntKind.i64.wrap ((e : Int) - 1) = ((e - 1 : Nat) : Int) := by rw [IntWalk.i64_in _ (by omega)]; omega
  simp (disch := first | omega | assumption | exact isC_last | exact isC_app (by first | assumption | exact isC_last | exact isC_app (by first | assumption | exact isC_last)) | (simp [oneC]; done) | fail) only [F68.t0, ixW, rdW, wrW, wrW2, swp_def, e1, e2, evs0, evs1, evs2, evs3, evs4, evs5, evs6, evs7, evs8, if_true, if_false, ↓reduceIte, Nat.reduceEqDiff, Nat.reduceAdd, Nat.reduceMul, Nat.reduceSub, Nat.reduceLeDiff, Int.reduceLT, Int.reduceLE, Int.reduceEq, Bool.false_eq_true, Option.bind_some, Option.map_some, List.set_cons_zero, List.set_cons_succ, List.toList_toArray, List.size_toArray, List.length_cons, List.length_nil, List.getElem?_toArray, List.getElem?_cons_zero, List.getElem?_cons_succ, List.drop_zero, List.take_succ_cons, List.take_zero]
  have hs0 : (swp d a pv).size = n := by rw [swp_size]; exact hn
  obtain ⟨L, hL⟩ : ∃ L, Sort.partitionEqual ltInt d a e pv = L := ⟨_, rfl⟩
  rw [hL] at hHP
  unfold Sort.partitionEqual at hL
  generalize swp d a pv = d0 at *
  have fin : ∀ {hh : H}, hh = W h b L.2 → HP (.int .i64 (L.1 : Nat)) hh := by
    intro hh e; subst e; rw [← hHP]; exact ⟨rfl, rfl⟩
  clear hHP
  refine Lp_ind (fun m fr hh => ∃ (i j : Nat) (d' : Array Int), fr = [(0, V b n), (1, .int .i64 a), (9, .int .i64 i), (10, .int .i64 j)] ∧ 1 ≤ i ∧ i ≤ j + 1 ∧ j < n ∧ d'.size = n ∧ hh = W h b d' ∧ Sort.partEqLoop ltInt a i j d' = L ∧ m = j + 1 - i) (F68.m1 n0) (e - 1 + 1 - (a + 1))
    ⟨a + 1, e - 1, d0, by simp (disch := first | omega | assumption | exact isC_last | exact isC_app (by first | assumption | exact isC_last | exact isC_app (by first | assumption | exact isC_last)) | (simp [oneC]; done) | fail) only [evs0, evs1, evs2, evs3, evs4, evs5, evs6, evs7, evs8, if_true, if_false, ↓reduceIte, Nat.reduceEqDiff, Nat.reduceAdd, Nat.reduceMul, Nat.reduceSub, Nat.reduceLeDiff, Int.reduceLT, Int.reduceLE, Int.reduceEq, Bool.false_eq_true, Option.bind_some, Option.map_some, List.set_cons_zero, List.set_cons_succ, List.toList_toArray, List.size_toArray, List.length_cons, List.length_nil, List.getElem?_toArray, List.getElem?_cons_zero, List.getElem?_cons_succ, List.drop_zero, List.take_succ_cons, List.take_zero], by omega, by omega, by omega, hs0, rfl, hL, rfl⟩ ?_
  rintro m fr hh ⟨i, j, d', rfl, hi, hij, hj, hs, rfl, E, rfl⟩
  rw [F68.e1]
  unfold F68.t1
  rw [Sort.partEqLoop_eq] at E
  refine scanF68_2 hb hs (by omega) hi hij hj h63 ?_
  simp (disch := first | omega | assumption | exact isC_last | exact isC_app (by first | assumption | exact isC_last | exact isC_app (by first | assumption | exact isC_last)) | (simp [oneC]; done) | fail) only [evs0, evs1, evs2, evs3, evs4, evs5, evs6, evs7, evs8, if_true, if_false, ↓reduceIte, Nat.reduceEqDiff, Nat.reduceAdd, Nat.reduceMul, Nat.reduceSub, Nat.reduceLeDiff, Int.reduceLT, Int.reduceLE, Int.reduceEq, Bool.false_eq_true, Option.bind_some, Option.map_some, List.set_cons_zero, List.set_cons_succ, List.toList_toArray, List.size_toArray, List.length_cons, List.length_nil, List.getElem?_toArray, List.getElem?_cons_zero, List.getElem?_cons_succ, List.drop_zero, List.take_succ_cons, List.take_zero]
  rw [F68.e4]
  unfold F68.t4
  have r1 := up_rng (p := (fun x => !ltInt d'[a]! x)) (d := d') (j := j) (i := i) hij
  generalize Sort.scanUp (fun x => !ltInt d'[a]! x) d' j i = I2 at *
  refine scanF68_5 hb hs (by omega) (by omega) (by omega) hj h63 ?_
  simp (disch := first | omega | assumption | exact isC_last | exact isC_app (by first | assumption | exact isC_last | exact isC_app (by first | assumption | exact isC_last)) | (simp [oneC]; done) | fail) only [evs0, evs1, evs2, evs3, evs4, evs5, evs6, evs7, evs8, if_true, if_false, ↓reduceIte, Nat.reduceEqDiff, Nat.reduceAdd, Nat.reduceMul, Nat.reduceSub, Nat.reduceLeDiff, Int.reduceLT, Int.reduceLE, Int.reduceEq, Bool.false_eq_true, Option.bind_some, Option.map_some, List.set_cons_zero, List.set_cons_succ, List.toList_toArray, List.size_toArray, List.length_cons, List.length_nil, List.getElem?_toArray, List.getElem?_cons_zero, List.getElem?_cons_succ, List.drop_zero, List.take_succ_cons, List.take_zero]
  rw [F68.e7]
  have r2 := down_rng (p := (fun x => ltInt d'[a]! x)) (d := d') (i := I2) (j := j) (by omega)
  generalize Sort.scanDown (fun x => ltInt d'[a]! x) d' I2 j = J2 at *
  simp (disch := first | omega | assumption | exact isC_last | exact isC_app (by first | assumption | exact isC_last | exact isC_app (by first | assumption | exact isC_last)) | (simp [oneC]; done) | fail) only [F68.t7, evs0, evs1, evs2, evs3, evs4, evs5, evs6, evs7, evs8, if_true, if_false, ↓reduceIte, Nat.reduceEqDiff, Nat.reduceAdd, Nat.reduceMul, Nat.reduceSub, Nat.reduceLeDiff, Int.reduceLT, Int.reduceLE, Int.reduceEq, Bool.false_eq_true, Option.bind_some, Option.map_some, List.set_cons_zero, List.set_cons_succ, List.toList_toArray, List.size_toArray, List.length_cons, List.length_nil, List.getElem?_toArray, List.getElem?_cons_zero, List.getElem?_cons_succ, List.drop_zero, List.take_succ_cons, List.take_zero]
  by_cases h6 : I2 > J2
  · rw [if_pos h6] at E
    rw [if_pos (by omega)]
    simp (disch := first | omega | assumption | exact isC_last | exact isC_app (by first | assumption | exact isC_last | exact isC_app (by first | assumption | exact isC_last)) | (simp [oneC]; done) | fail) only [kblk_o (j := 0) (id := 1) rfl, evs0, evs1, evs2, evs3, evs4, evs5, evs6, evs7, evs8, if_true, if_false, ↓reduceIte, Nat.reduceEqDiff, Nat.reduceAdd, Nat.reduceMul, Nat.reduceSub, Nat.reduceLeDiff, Int.reduceLT, Int.reduceLE, Int.reduceEq, Bool.false_eq_true, Option.bind_some, Option.map_some, List.set_cons_zero, List.set_cons_succ, List.toList_toArray, List.size_toArray, List.length_cons, List.length_nil, List.getElem?_toArray, List.getElem?_cons_zero, List.getElem?_cons_succ, List.drop_zero, List.take_succ_cons, List.take_zero]
    rw [F68.e9]
    subst E
    simp (disch := first | omega | assumption | exact isC_last | exact isC_app (by first | assumption | exact isC_last | exact isC_app (by first | assumption | exact isC_last)) | (simp [oneC]; done) | fail) only [F68.t9, evs0, evs1, evs2, evs3, evs4, evs5, evs6, evs7, evs8, if_true, if_false, ↓reduceIte, Nat.reduceEqDiff, Nat.reduceAdd, Nat.reduceMul, Nat.reduceSub, Nat.reduceLeDiff, Int.reduceLT, Int.reduceLE, Int.reduceEq, Bool.false_eq_true, Option.bind_some, Option.map_some, List.set_cons_zero, List.set_cons_succ, List.toList_toArray, List.size_toArray, List.length_cons, List.length_nil, List.getElem?_toArray, List.getElem?_cons_zero, List.getElem?_cons_succ, List.drop_zero, List.take_succ_cons, List.take_zero]
    exact fin rfl
  · rw [if_neg h6] at E
    rw [if_neg (by omega), F68.e8]
    have hIJ2 : I2 < J2 := by
      by_cases e : I2 = J2
      · subst e
        have q1 := r1.2.2 (by omega)
        have q2 := r2.2.2 (by omega) (by omega)
        rw [q2] at q1
        cases q1
      · omega
    have e3 : IntKind.i64.wrap ((I2 : Int) + 1) = ((I2 + 1 : Nat) : Int) := by rw [IntWalk.i64_in _ (by omega)]; omega
    have e4 : IntKind.i64.wrap ((J2 : Int) - 1) = ((J2 - 1 : Nat) : Int) := by rw [IntWalk.i64_in _ (by omega)]; omega
    simp (disch := first | omega | assumption | exact isC_last | exact isC_app (by first | assumption | exact isC_last | exact isC_app (by first | assumption | exact isC_last)) | (simp [oneC]; done) | fail) only [F68.t8, ixW, rdW, wrW, wrW2, swp_def, e3, e4, evs0, evs1, evs2, evs3, evs4, evs5, evs6, evs7, evs8, if_true, if_false, ↓reduceIte, Nat.reduceEqDiff, Nat.reduceAdd, Nat.reduceMul, Nat.reduceSub, Nat.reduceLeDiff, Int.reduceLT, Int.reduceLE, Int.reduceEq, Bool.false_eq_true, Option.bind_some, Option.map_some, List.set_cons_zero, List.set_cons_succ, List.toList_toArray, List.size_toArray, List.length_cons, List.length_nil, List.getElem?_toArray, List.getElem?_cons_zero, List.getElem?_cons_succ, List.drop_zero, List.take_succ_cons, List.take_zero]
    exact ⟨by trivial, J2 - 1 + 1 - (I2 + 1), by omega, I2 + 1, J2 - 1, _, rfl, by omega, by omega, by omega, by rw [swp_size]; exact hs, rfl, E, rfl⟩
end Go.Proofs.Ytjdcdabbbmhffaa
