/- Heap sort, reversal, walked. No condition. -/
import Derived.Test.YtjdcdabbbmhffaaSrt
set_option linter.unusedVariables false
set_option linter.unusedSimpArgs false
namespace Go.Proofs.Ytjdcdabbbmhffaa
open Go.Ev
open Go.Sort (swp ltInt)
variable {n0 : Nat} {h : H}
theorem siftDown_size {hi first : Nat} : ∀ (k root : Nat) {d : Array Int}, hi - root ≤ k → (Sort.siftDown ltInt hi first root d).size = d.size := by
  intro k
  induction k with
  | zero => intro root d hk; unfold Sort.siftDown; rw [dif_pos (by omega)]
  | succ k ih =>
    intro root d hk
    unfold Sort.siftDown
    split
    · rfl
    · split
      · split
        · rfl
        · split
          · rw [ih _ (by omega), swp_size]
          · rfl
      · split
        · rfl
        · rw [ih _ (by omega), swp_size]
theorem sift_out {hi first root : Nat} {d : Array Int} (h : 2 * root + 1 ≥ hi) : Sort.siftDown ltInt hi first root d = d := by
  unfold Sort.siftDown; rw [dif_pos h]
theorem sift_in {hi first root c : Nat} {d : Array Int} (h : ¬ 2 * root + 1 ≥ hi) (hc : c = if 2 * root + 1 + 1 < hi ∧ ltInt d[first + (2 * root + 1)]! d[first + (2 * root + 1) + 1]! = true then 2 * root + 2 else 2 * root + 1) :
    Sort.siftDown ltInt hi first root d = if ltInt d[first + root]! d[first + c]! = true then Sort.siftDown ltInt hi first c (swp d (first + root) (first + c)) else d := by
  conv => lhs; unfold Sort.siftDown
  rw [dif_neg h]
  by_cases h2 : 2 * root + 1 + 1 < hi ∧ ltInt d[first + (2 * root + 1)]! d[first + (2 * root + 1) + 1]! = true
  · rw [if_pos h2] at hc
    rw [if_pos (by simp only [Bool.and_eq_true, decide_eq_true_eq]; exact h2)]
    subst hc
    cases hl : ltInt d[first + root]! d[first + (2 * root + 2)]! with
    | true => rw [if_neg (by simp), if_pos rfl, dif_pos (by omega)]
    | false => rw [if_pos (by simp), if_neg (by simp)]
  · rw [if_neg h2] at hc
    rw [if_neg (by simp only [Bool.and_eq_true, decide_eq_true_eq]; exact h2)]
    subst hc
    cases hl : ltInt d[first + root]! d[first + (2 * root + 1)]! with
    | true => rw [if_neg (by simp), if_pos rfl]
    | false => rw [if_pos (by simp), if_neg (by simp)]
set_option maxRecDepth 20000 in
theorem siftDown_ok {b n lo hi first : Nat} {d : Array Int} (hb : b < h.length) (hn : d.size = n) (hf : first + hi ≤ n) (hlo : lo ≤ n) (h63 : n < 2 ^ 61) :
    Cn Try.prog n0 (.func 72) [V b n, .int .i64 lo, .int .i64 hi, .int .i64 first] (W h b d) (fun _ h' => h' = W h b (Sort.siftDown ltInt hi first lo d)) := by
  refine F72.enter ?_
  obtain ⟨HP, hHP⟩ : ∃ HP : Value → H → Prop, (fun (_ : Value) h' => h' = W h b (Sort.siftDown ltInt hi first lo d)) = HP := ⟨_, rfl⟩
  rw [hHP, F72.e0]
  unfold F72.t0
  refine Lp_ind (fun m fr hh => ∃ (root : Nat) (d' : Array Int), fr = [(0, V b n), (2, .int .i64 hi), (3, .int .i64 first), (8, .int .i64 root)] ∧ root ≤ n ∧ d'.size = n ∧ hh = W h b d' ∧ Sort.siftDown ltInt hi first root d' = Sort.siftDown ltInt hi first lo d ∧ m = hi - root) (F72.m1 n0) (hi - lo)
    ⟨lo, d, by simp (disch := first | omega | assumption | exact isC_last | exact isC_app (by first | assumption | exact isC_last | exact isC_app (by first | assumption | exact isC_last)) | (simp [oneC]; done) | fail) only [evs0, evs1, evs2, evs3, evs4, evs5, evs6, evs7, evs8, if_true, if_false, ↓reduceIte, Nat.reduceEqDiff, Nat.reduceAdd, Nat.reduceMul, Nat.reduceSub, Nat.reduceLeDiff, Int.reduceLT, Int.reduceLE, Int.reduceEq, Bool.false_eq_true, Option.bind_some, Option.map_some, List.set_cons_zero, List.set_cons_succ, List.toList_toArray, List.size_toArray, List.length_cons, List.length_nil, List.getElem?_toArray, List.getElem?_cons_zero, List.getElem?_cons_succ, List.drop_zero, List.take_succ_cons, List.take_zero], hlo, hn, rfl, rfl, rfl⟩ ?_
  rintro m fr hh ⟨root, d', rfl, hr, hs, rfl, E, rfl⟩
  rw [F72.e1]
  have e1 : IntKind.i64.wrap (IntKind.i64.wrap (2 * (root : Int)) + 1) = ((2 * root + 1 : Nat) : Int) := by rw [IntWalk.i64_in _ (by rw [IntWalk.i64_in _ (by omega)]; omega), IntWalk.i64_in _ (by omega)]; omega
  simp (disch := first | omega | assumption | exact isC_last | exact isC_app (by first | assumption | exact isC_last | exact isC_app (by first | assumption | exact isC_last)) | (simp [oneC]; done) | fail) only [F72.t1, e1, evs0, evs1, evs2, evs3, evs4, evs5, evs6, evs7, evs8, if_true, if_false, ↓reduceIte, Nat.reduceEqDiff, Nat.reduceAdd, Nat.reduceMul, Nat.reduceSub, Nat.reduceLeDiff, Int.reduceLT, Int.reduceLE, Int.reduceEq, Bool.false_eq_true, Option.bind_some, Option.map_some, List.set_cons_zero, List.set_cons_succ, List.toList_toArray, List.size_toArray, List.length_cons, List.length_nil, List.getElem?_toArray, List.getElem?_cons_zero, List.getElem?_cons_succ, List.drop_zero, List.take_succ_cons, List.take_zero]
  by_cases h5 : 2 * root + 1 ≥ hi
  · rw [if_pos (by omega)]
    rw [sift_out h5] at E
    rw [← hHP, E]
  · rw [if_neg (by omega), F72.e2]
    obtain ⟨c, hc⟩ : ∃ c, c = if 2 * root + 1 + 1 < hi ∧ ltInt d'[first + (2 * root + 1)]! d'[first + (2 * root + 1) + 1]! = true then 2 * root + 2 else 2 * root + 1 := ⟨_, rfl⟩
    rw [sift_in h5 hc] at E
    have hc1 : root < c ∧ c < hi := by
      rw [hc]; split
      · rename_i x; omega
      · omega
    have main : F72.p4 n0 [(0, V b n), (2, .int .i64 hi), (3, .int .i64 first), (8, .int .i64 root), (9, .int .i64 c)] [] (W h b d') (KBlk [0, 2, 3, 8] 1 (KLp [0, 2, 3, 8] (fun fr hh => ∃ m', m' < hi - root ∧ ∃ (root : Nat) (d' : Array Int), fr = [(0, V b n), (2, .int .i64 hi), (3, .int .i64 first), (8, .int .i64 root)] ∧ root ≤ n ∧ d'.size = n ∧ hh = W h b d' ∧ Sort.siftDown ltInt hi first root d' = Sort.siftDown ltInt hi first lo d ∧ m' = hi - root) [] (KBlk [] 0 (KFin Try.prog [] HP)))) := by
      rw [F72.e4]
      have e2 : IntKind.i64.wrap ((first : Int) + (root : Int)) = ((first + root : Nat) : Int) := by rw [IntWalk.i64_in _ (by omega)]; omega
      have e3 : IntKind.i64.wrap ((first : Int) + (c : Int)) = ((first + c : Nat) : Int) := by rw [IntWalk.i64_in _ (by omega)]; omega
      simp (disch := first | omega | assumption | exact isC_last | exact isC_app (by first | assumption | exact isC_last | exact isC_app (by first | assumption | exact isC_last)) | (simp [oneC]; done) | fail) only [F72.t4, e2, e3, ixW, rdW, evs0, evs1, evs2, evs3, evs4, evs5, evs6, evs7, evs8, if_true, if_false, ↓reduceIte, Nat.reduceEqDiff, Nat.reduceAdd, Nat.reduceMul, Nat.reduceSub, Nat.reduceLeDiff, Int.reduceLT, Int.reduceLE, Int.reduceEq, Bool.false_eq_true, Option.bind_some, Option.map_some, List.set_cons_zero, List.set_cons_succ, List.toList_toArray, List.size_toArray, List.length_cons, List.length_nil, List.getElem?_toArray, List.getElem?_cons_zero, List.getElem?_cons_succ, List.drop_zero, List.take_succ_cons, List.take_zero]
      refine lessQ.mono ?_
      rintro _ hx ⟨rfl, ex⟩; subst hx
      cases hl : ltInt d'[first + root]! d'[first + c]! with
      | false =>
        rw [hl, if_neg (by simp)] at E
        simp (disch := first | omega | assumption | exact isC_last | exact isC_app (by first | assumption | exact isC_last | exact isC_app (by first | assumption | exact isC_last)) | (simp [oneC]; done) | fail) only [Bool.not_false, evs0, evs1, evs2, evs3, evs4, evs5, evs6, evs7, evs8, if_true, if_false, ↓reduceIte, Nat.reduceEqDiff, Nat.reduceAdd, Nat.reduceMul, Nat.reduceSub, Nat.reduceLeDiff, Int.reduceLT, Int.reduceLE, Int.reduceEq, Bool.false_eq_true, Option.bind_some, Option.map_some, List.set_cons_zero, List.set_cons_succ, List.toList_toArray, List.size_toArray, List.length_cons, List.length_nil, List.getElem?_toArray, List.getElem?_cons_zero, List.getElem?_cons_succ, List.drop_zero, List.take_succ_cons, List.take_zero]
        rw [← hHP, E]
      | true =>
        rw [hl, if_pos rfl] at E
        simp (disch := first | omega | assumption | exact isC_last | exact isC_app (by first | assumption | exact isC_last | exact isC_app (by first | assumption | exact isC_last)) | (simp [oneC]; done) | fail) only [Bool.not_true, evs0, evs1, evs2, evs3, evs4, evs5, evs6, evs7, evs8, if_true, if_false, ↓reduceIte, Nat.reduceEqDiff, Nat.reduceAdd, Nat.reduceMul, Nat.reduceSub, Nat.reduceLeDiff, Int.reduceLT, Int.reduceLE, Int.reduceEq, Bool.false_eq_true, Option.bind_some, Option.map_some, List.set_cons_zero, List.set_cons_succ, List.toList_toArray, List.size_toArray, List.length_cons, List.length_nil, List.getElem?_toArray, List.getElem?_cons_zero, List.getElem?_cons_succ, List.drop_zero, List.take_succ_cons, List.take_zero]
        rw [F72.e5]
        simp (disch := first | omega | assumption | exact isC_last | exact isC_app (by first | assumption | exact isC_last | exact isC_app (by first | assumption | exact isC_last)) | (simp [oneC]; done) | fail) only [F72.t5, e2, e3, ixW, rdW, wrW, wrW2, swp_def, evs0, evs1, evs2, evs3, evs4, evs5, evs6, evs7, evs8, if_true, if_false, ↓reduceIte, Nat.reduceEqDiff, Nat.reduceAdd, Nat.reduceMul, Nat.reduceSub, Nat.reduceLeDiff, Int.reduceLT, Int.reduceLE, Int.reduceEq, Bool.false_eq_true, Option.bind_some, Option.map_some, List.set_cons_zero, List.set_cons_succ, List.toList_toArray, List.size_toArray, List.length_cons, List.length_nil, List.getElem?_toArray, List.getElem?_cons_zero, List.getElem?_cons_succ, List.drop_zero, List.take_succ_cons, List.take_zero]
        exact ⟨by trivial, hi - c, by omega, c, _, rfl, by omega, by rw [swp_size]; exact hs, rfl, E, rfl⟩
    have e4 : IntKind.i64.wrap (((2 * root + 1 : Nat) : Int) + 1) = ((2 * root + 2 : Nat) : Int) := by rw [IntWalk.i64_in _ (by omega)]; omega
    by_cases h6 : 2 * root + 1 + 1 < hi
    · have e2 : IntKind.i64.wrap ((first : Int) + ((2 * root + 1 : Nat) : Int)) = ((first + (2 * root + 1) : Nat) : Int) := by rw [IntWalk.i64_in _ (by omega)]; omega
      have e3 : IntKind.i64.wrap (((first + (2 * root + 1) : Nat) : Int) + 1) = ((first + (2 * root + 1) + 1 : Nat) : Int) := by rw [IntWalk.i64_in _ (by omega)]; omega
      simp (disch := first | omega | assumption | exact isC_last | exact isC_app (by first | assumption | exact isC_last | exact isC_app (by first | assumption | exact isC_last)) | (simp [oneC]; done) | fail) only [F72.t2, e2, e3, e4, ixW, rdW, evs0, evs1, evs2, evs3, evs4, evs5, evs6, evs7, evs8, if_true, if_false, ↓reduceIte, Nat.reduceEqDiff, Nat.reduceAdd, Nat.reduceMul, Nat.reduceSub, Nat.reduceLeDiff, Int.reduceLT, Int.reduceLE, Int.reduceEq, Bool.false_eq_true, Option.bind_some, Option.map_some, List.set_cons_zero, List.set_cons_succ, List.toList_toArray, List.size_toArray, List.length_cons, List.length_nil, List.getElem?_toArray, List.getElem?_cons_zero, List.getElem?_cons_succ, List.drop_zero, List.take_succ_cons, List.take_zero]
      rw [if_pos (by omega)]
      refine lessQ.mono ?_
      rintro _ hx ⟨rfl, ex⟩; subst hx
      cases hl : ltInt d'[first + (2 * root + 1)]! d'[first + (2 * root + 1) + 1]! with
      | true =>
        simp (disch := first | omega | assumption | exact isC_last | exact isC_app (by first | assumption | exact isC_last | exact isC_app (by first | assumption | exact isC_last)) | (simp [oneC]; done) | fail) only [evs0, evs1, evs2, evs3, evs4, evs5, evs6, evs7, evs8, if_true, if_false, ↓reduceIte, Nat.reduceEqDiff, Nat.reduceAdd, Nat.reduceMul, Nat.reduceSub, Nat.reduceLeDiff, Int.reduceLT, Int.reduceLE, Int.reduceEq, Bool.false_eq_true, Option.bind_some, Option.map_some, List.set_cons_zero, List.set_cons_succ, List.toList_toArray, List.size_toArray, List.length_cons, List.length_nil, List.getElem?_toArray, List.getElem?_cons_zero, List.getElem?_cons_succ, List.drop_zero, List.take_succ_cons, List.take_zero]
        rw [F72.e3]
        simp (disch := first | omega | assumption | exact isC_last | exact isC_app (by first | assumption | exact isC_last | exact isC_app (by first | assumption | exact isC_last)) | (simp [oneC]; done) | fail) only [F72.t3, e4, evs0, evs1, evs2, evs3, evs4, evs5, evs6, evs7, evs8, if_true, if_false, ↓reduceIte, Nat.reduceEqDiff, Nat.reduceAdd, Nat.reduceMul, Nat.reduceSub, Nat.reduceLeDiff, Int.reduceLT, Int.reduceLE, Int.reduceEq, Bool.false_eq_true, Option.bind_some, Option.map_some, List.set_cons_zero, List.set_cons_succ, List.toList_toArray, List.size_toArray, List.length_cons, List.length_nil, List.getElem?_toArray, List.getElem?_cons_zero, List.getElem?_cons_succ, List.drop_zero, List.take_succ_cons, List.take_zero]
        rw [if_pos ⟨h6, hl⟩] at hc
        rw [← hc]
        exact main
      | false =>
        simp (disch := first | omega | assumption | exact isC_last | exact isC_app (by first | assumption | exact isC_last | exact isC_app (by first | assumption | exact isC_last)) | (simp [oneC]; done) | fail) only [evs0, evs1, evs2, evs3, evs4, evs5, evs6, evs7, evs8, if_true, if_false, ↓reduceIte, Nat.reduceEqDiff, Nat.reduceAdd, Nat.reduceMul, Nat.reduceSub, Nat.reduceLeDiff, Int.reduceLT, Int.reduceLE, Int.reduceEq, Bool.false_eq_true, Option.bind_some, Option.map_some, List.set_cons_zero, List.set_cons_succ, List.toList_toArray, List.size_toArray, List.length_cons, List.length_nil, List.getElem?_toArray, List.getElem?_cons_zero, List.getElem?_cons_succ, List.drop_zero, List.take_succ_cons, List.take_zero]
        rw [if_neg (fun x => by rw [hl] at x; cases x.2)] at hc
        rw [← hc]
        exact main
    · simp (disch := first | omega | assumption | exact isC_last | exact isC_app (by first | assumption | exact isC_last | exact isC_app (by first | assumption | exact isC_last)) | (simp [oneC]; done) | fail) only [F72.t2, e4, evs0, evs1, evs2, evs3, evs4, evs5, evs6, evs7, evs8, if_true, if_false, ↓reduceIte, Nat.reduceEqDiff, Nat.reduceAdd, Nat.reduceMul, Nat.reduceSub, Nat.reduceLeDiff, Int.reduceLT, Int.reduceLE, Int.reduceEq, Bool.false_eq_true, Option.bind_some, Option.map_some, List.set_cons_zero, List.set_cons_succ, List.toList_toArray, List.size_toArray, List.length_cons, List.length_nil, List.getElem?_toArray, List.getElem?_cons_zero, List.getElem?_cons_succ, List.drop_zero, List.take_succ_cons, List.take_zero]
      rw [if_neg (by omega)]
      rw [if_neg (fun x => h6 x.1)] at hc
      rw [← hc]
      exact main
theorem heapBuild_succ {hi first k : Nat} {d : Array Int} : Sort.heapBuild ltInt hi first (k + 1) d = Sort.heapBuild ltInt hi first k (Sort.siftDown ltInt hi first k d) := rfl
theorem heapPop_succ {first k : Nat} {d : Array Int} : Sort.heapPop ltInt first (k + 1) d = Sort.heapPop ltInt first k (Sort.siftDown ltInt k first 0 (swp d first (first + k))) := rfl
set_option maxRecDepth 20000 in
theorem heapSort_ok {b n a e : Nat} {d : Array Int} (hb : b < h.length) (hn : d.size = n) (hae : a ≤ e) (hen : e ≤ n) (h63 : n < 2 ^ 61) :
    Cn Try.prog n0 (.func 62) [V b n, .int .i64 a, .int .i64 e] (W h b d) (fun _ h' => h' = W h b (Sort.heapSort ltInt d a e)) := by
  refine F62.enter ?_
  obtain ⟨HP, hHP⟩ : ∃ HP : Value → H → Prop, (fun (_ : Value) h' => h' = W h b (Sort.heapSort ltInt d a e)) = HP := ⟨_, rfl⟩
  rw [hHP, F62.e0]
  have e1 : IntKind.i64.wrap ((e : Int) - (a : Int)) = ((e - a : Nat) : Int) := by rw [IntWalk.i64_in _ (by omega)]; omega
  have e2 : IntKind.i64.wrap ((IntKind.i64.wrap (((e - a : Nat) : Int) - 1)).tdiv 2) = (((e - a - 1) / 2 + 1 : Nat) : Int) - 1 := by
    rw [IntWalk.i64_in (((e - a : Nat) : Int) - 1) (by omega)]
    by_cases h0 : e - a = 0
    · rw [h0]; rfl
    · rw [show ((e - a : Nat) : Int) - 1 = ((e - a - 1 : Nat) : Int) by omega, Int.tdiv_eq_ediv_of_nonneg (by omega), IntWalk.i64_in _ (by omega)]
      omega
  unfold F62.t0
  refine Bnd_i bSub ?_
  rw [e1]
  refine Bnd_i bSub ?_
  refine Bnd_i (bQuo (by omega)) ?_
  rw [e2]
  refine Lp_ind (fun m fr hh => ∃ (k : Nat) (d' : Array Int), fr = [(0, V b n), (6, .int .i64 a), (7, .int .i64 0), (8, .int .i64 (e - a : Nat)), (9, .int .i64 ((k : Int) - 1))] ∧ k ≤ e - a + 1 ∧ d'.size = n ∧ hh = W h b d' ∧ Sort.heapBuild ltInt (e - a) a k d' = Sort.heapBuild ltInt (e - a) a ((e - a - 1) / 2 + 1) d ∧ m = k) (F62.m1 n0) ((e - a - 1) / 2 + 1)
    ⟨(e - a - 1) / 2 + 1, d, by simp (disch := first | omega | assumption | exact isC_last | exact isC_app (by first | assumption | exact isC_last | exact isC_app (by first | assumption | exact isC_last)) | (simp [oneC]; done) | fail) only [evs0, evs1, evs2, evs3, evs4, evs5, evs6, evs7, evs8, if_true, if_false, ↓reduceIte, Nat.reduceEqDiff, Nat.reduceAdd, Nat.reduceMul, Nat.reduceSub, Nat.reduceLeDiff, Int.reduceLT, Int.reduceLE, Int.reduceEq, Bool.false_eq_true, Option.bind_some, Option.map_some, List.set_cons_zero, List.set_cons_succ, List.toList_toArray, List.size_toArray, List.length_cons, List.length_nil, List.getElem?_toArray, List.getElem?_cons_zero, List.getElem?_cons_succ, List.drop_zero, List.take_succ_cons, List.take_zero], by omega, hn, rfl, rfl, rfl⟩ ?_
  rintro k fr hh ⟨k', d', rfl, hk, hs, rfl, E, em⟩
  subst em
  rw [F62.e1]
  simp (disch := first | omega | assumption | exact isC_last | exact isC_app (by first | assumption | exact isC_last | exact isC_app (by first | assumption | exact isC_last)) | (simp [oneC]; done) | fail) only [F62.t1, evs0, evs1, evs2, evs3, evs4, evs5, evs6, evs7, evs8, if_true, if_false, ↓reduceIte, Nat.reduceEqDiff, Nat.reduceAdd, Nat.reduceMul, Nat.reduceSub, Nat.reduceLeDiff, Int.reduceLT, Int.reduceLE, Int.reduceEq, Bool.false_eq_true, Option.bind_some, Option.map_some, List.set_cons_zero, List.set_cons_succ, List.toList_toArray, List.size_toArray, List.length_cons, List.length_nil, List.getElem?_toArray, List.getElem?_cons_zero, List.getElem?_cons_succ, List.drop_zero, List.take_succ_cons, List.take_zero]
  cases k with
  | zero =>
    rw [if_neg (by omega), F62.e4]
    have e3 : IntKind.i64.wrap (((e - a : Nat) : Int) - 1) = ((e - a : Nat) : Int) - 1 := IntWalk.i64_in _ (by omega)
    simp (disch := first | omega | assumption | exact isC_last | exact isC_app (by first | assumption | exact isC_last | exact isC_app (by first | assumption | exact isC_last)) | (simp [oneC]; done) | fail) only [F62.t4, e3, evs0, evs1, evs2, evs3, evs4, evs5, evs6, evs7, evs8, if_true, if_false, ↓reduceIte, Nat.reduceEqDiff, Nat.reduceAdd, Nat.reduceMul, Nat.reduceSub, Nat.reduceLeDiff, Int.reduceLT, Int.reduceLE, Int.reduceEq, Bool.false_eq_true, Option.bind_some, Option.map_some, List.set_cons_zero, List.set_cons_succ, List.toList_toArray, List.size_toArray, List.length_cons, List.length_nil, List.getElem?_toArray, List.getElem?_cons_zero, List.getElem?_cons_succ, List.drop_zero, List.take_succ_cons, List.take_zero]
    have E0 : Sort.heapBuild ltInt (e - a) a 0 d' = d' := rfl
    rw [E0] at E
    have EH : Sort.heapSort ltInt d a e = Sort.heapPop ltInt a (e - a) d' := by unfold Sort.heapSort; rw [E]
    refine Lp_ind (fun m fr hh => ∃ (k : Nat) (d2 : Array Int), fr = [(0, V b n), (6, .int .i64 a), (7, .int .i64 0), (10, .int .i64 ((k : Int) - 1))] ∧ k ≤ e - a ∧ d2.size = n ∧ hh = W h b d2 ∧ Sort.heapPop ltInt a k d2 = Sort.heapSort ltInt d a e ∧ m = k) (F62.m5 n0) (e - a)
      ⟨e - a, d', by simp (disch := first | omega | assumption | exact isC_last | exact isC_app (by first | assumption | exact isC_last | exact isC_app (by first | assumption | exact isC_last)) | (simp [oneC]; done) | fail) only [evs0, evs1, evs2, evs3, evs4, evs5, evs6, evs7, evs8, if_true, if_false, ↓reduceIte, Nat.reduceEqDiff, Nat.reduceAdd, Nat.reduceMul, Nat.reduceSub, Nat.reduceLeDiff, Int.reduceLT, Int.reduceLE, Int.reduceEq, Bool.false_eq_true, Option.bind_some, Option.map_some, List.set_cons_zero, List.set_cons_succ, List.toList_toArray, List.size_toArray, List.length_cons, List.length_nil, List.getElem?_toArray, List.getElem?_cons_zero, List.getElem?_cons_succ, List.drop_zero, List.take_succ_cons, List.take_zero], by omega, hs, rfl, EH.symm, rfl⟩ ?_
    rintro k fr hh ⟨k', d2, rfl, hk, hs2, rfl, E2, em⟩
    subst em
    rw [F62.e5]
    simp (disch := first | omega | assumption | exact isC_last | exact isC_app (by first | assumption | exact isC_last | exact isC_app (by first | assumption | exact isC_last)) | (simp [oneC]; done) | fail) only [F62.t5, evs0, evs1, evs2, evs3, evs4, evs5, evs6, evs7, evs8, if_true, if_false, ↓reduceIte, Nat.reduceEqDiff, Nat.reduceAdd, Nat.reduceMul, Nat.reduceSub, Nat.reduceLeDiff, Int.reduceLT, Int.reduceLE, Int.reduceEq, Bool.false_eq_true, Option.bind_some, Option.map_some, List.set_cons_zero, List.set_cons_succ, List.toList_toArray, List.size_toArray, List.length_cons, List.length_nil, List.getElem?_toArray, List.getElem?_cons_zero, List.getElem?_cons_succ, List.drop_zero, List.take_succ_cons, List.take_zero]
    cases k with
    | zero =>
      rw [if_neg (by omega)]
      rw [← hHP, ← E2]; rfl
    | succ k =>
      rw [if_pos (by omega), F62.e6]
      have ek : ((k + 1 : Nat) : Int) - 1 = (k : Int) := by omega
      have e4 : IntKind.i64.wrap ((a : Int) + (k : Int)) = ((a + k : Nat) : Int) := by rw [IntWalk.i64_in _ (by omega)]; omega
      rw [heapPop_succ] at E2
      simp (disch := first | omega | assumption | exact isC_last | exact isC_app (by first | assumption | exact isC_last | exact isC_app (by first | assumption | exact isC_last)) | (simp [oneC]; done) | fail) only [F62.t6, ek, e4, ixW, rdW, wrW, wrW2, swp_def, evs0, evs1, evs2, evs3, evs4, evs5, evs6, evs7, evs8, if_true, if_false, ↓reduceIte, Nat.reduceEqDiff, Nat.reduceAdd, Nat.reduceMul, Nat.reduceSub, Nat.reduceLeDiff, Int.reduceLT, Int.reduceLE, Int.reduceEq, Bool.false_eq_true, Option.bind_some, Option.map_some, List.set_cons_zero, List.set_cons_succ, List.toList_toArray, List.size_toArray, List.length_cons, List.length_nil, List.getElem?_toArray, List.getElem?_cons_zero, List.getElem?_cons_succ, List.drop_zero, List.take_succ_cons, List.take_zero]
      refine (siftDown_ok (lo := 0) (hi := k) (first := a) hb (by rw [swp_size]; exact hs2) (by omega) (by omega) h63).mono ?_
      rintro _ _ rfl
      rw [F62.e7]
      simp (disch := first | omega | assumption | exact isC_last | exact isC_app (by first | assumption | exact isC_last | exact isC_app (by first | assumption | exact isC_last)) | (simp [oneC]; done) | fail) only [F62.t7, evs0, evs1, evs2, evs3, evs4, evs5, evs6, evs7, evs8, if_true, if_false, ↓reduceIte, Nat.reduceEqDiff, Nat.reduceAdd, Nat.reduceMul, Nat.reduceSub, Nat.reduceLeDiff, Int.reduceLT, Int.reduceLE, Int.reduceEq, Bool.false_eq_true, Option.bind_some, Option.map_some, List.set_cons_zero, List.set_cons_succ, List.toList_toArray, List.size_toArray, List.length_cons, List.length_nil, List.getElem?_toArray, List.getElem?_cons_zero, List.getElem?_cons_succ, List.drop_zero, List.take_succ_cons, List.take_zero]
      rw [IntWalk.i64_in _ (by omega)]
      exact ⟨by trivial, k, by omega, k, _, rfl, by omega, by rw [siftDown_size k 0 (by omega), swp_size]; exact hs2, rfl, E2, rfl⟩
  | succ k =>
    rw [if_pos (by omega), F62.e2]
    have ek : ((k + 1 : Nat) : Int) - 1 = (k : Int) := by omega
    rw [heapBuild_succ] at E
    simp (disch := first | omega | assumption | exact isC_last | exact isC_app (by first | assumption | exact isC_last | exact isC_app (by first | assumption | exact isC_last)) | (simp [oneC]; done) | fail) only [F62.t2, ek, evs0, evs1, evs2, evs3, evs4, evs5, evs6, evs7, evs8, if_true, if_false, ↓reduceIte, Nat.reduceEqDiff, Nat.reduceAdd, Nat.reduceMul, Nat.reduceSub, Nat.reduceLeDiff, Int.reduceLT, Int.reduceLE, Int.reduceEq, Bool.false_eq_true, Option.bind_some, Option.map_some, List.set_cons_zero, List.set_cons_succ, List.toList_toArray, List.size_toArray, List.length_cons, List.length_nil, List.getElem?_toArray, List.getElem?_cons_zero, List.getElem?_cons_succ, List.drop_zero, List.take_succ_cons, List.take_zero]
    refine (siftDown_ok (lo := k) (hi := e - a) (first := a) hb hs (by omega) (by omega) h63).mono ?_
    rintro _ _ rfl
    rw [F62.e3]
    simp (disch := first | omega | assumption | exact isC_last | exact isC_app (by first | assumption | exact isC_last | exact isC_app (by first | assumption | exact isC_last)) | (simp [oneC]; done) | fail) only [F62.t3, evs0, evs1, evs2, evs3, evs4, evs5, evs6, evs7, evs8, if_true, if_false, ↓reduceIte, Nat.reduceEqDiff, Nat.reduceAdd, Nat.reduceMul, Nat.reduceSub, Nat.reduceLeDiff, Int.reduceLT, Int.reduceLE, Int.reduceEq, Bool.false_eq_true, Option.bind_some, Option.map_some, List.set_cons_zero, List.set_cons_succ, List.toList_toArray, List.size_toArray, List.length_cons, List.length_nil, List.getElem?_toArray, List.getElem?_cons_zero, List.getElem?_cons_succ, List.drop_zero, List.take_succ_cons, List.take_zero]
    rw [IntWalk.i64_in _ (by omega)]
    exact ⟨by trivial, k, by omega, k, _, rfl, by omega, by rw [siftDown_size (e - a) k (by omega)]; exact hs, rfl, E, rfl⟩
set_option maxRecDepth 20000 in
theorem reverse_ok {b n a e : Nat} {d : Array Int} (hb : b < h.length) (hn : d.size = n) (hae : a < e) (hen : e ≤ n) (h63 : n < 2 ^ 61) :
    Cn Try.prog n0 (.func 65) [V b n, .int .i64 a, .int .i64 e] (W h b d) (fun _ h' => h' = W h b (Sort.reverseRange d a e)) := by
  refine F65.enter ?_
  obtain ⟨HP, hHP⟩ : ∃ HP : Value → H → Prop, (fun (_ : Value) h' => h' = W h b (Sort.reverseRange d a e)) = HP := ⟨_, rfl⟩
  rw [hHP, F65.e0]
  have e1 : IntKind.i64.wrap ((e : Int) - 1) = ((e - 1 : Nat) : Int) := by rw [IntWalk.i64_in _ (by omega)]; omega
  simp (disch := first | omega | assumption | exact isC_last | exact isC_app (by first | assumption | exact isC_last | exact isC_app (by first | assumption | exact isC_last)) | (simp [oneC]; done) | fail) only [F65.t0, e1, evs0, evs1, evs2, evs3, evs4, evs5, evs6, evs7, evs8, if_true, if_false, ↓reduceIte, Nat.reduceEqDiff, Nat.reduceAdd, Nat.reduceMul, Nat.reduceSub, Nat.reduceLeDiff, Int.reduceLT, Int.reduceLE, Int.reduceEq, Bool.false_eq_true, Option.bind_some, Option.map_some, List.set_cons_zero, List.set_cons_succ, List.toList_toArray, List.size_toArray, List.length_cons, List.length_nil, List.getElem?_toArray, List.getElem?_cons_zero, List.getElem?_cons_succ, List.drop_zero, List.take_succ_cons, List.take_zero]
  refine Lp_ind (fun m fr hh => ∃ (i j : Nat) (d' : Array Int), fr = [(0, V b n), (6, .int .i64 i), (7, .int .i64 j)] ∧ i ≤ n ∧ j < n ∧ d'.size = n ∧ hh = W h b d' ∧ Sort.reverseLoop i j d' = Sort.reverseRange d a e ∧ m = j - i) (F65.m1 n0) (e - 1 - a)
    ⟨a, e - 1, d, by simp (disch := first | omega | assumption | exact isC_last | exact isC_app (by first | assumption | exact isC_last | exact isC_app (by first | assumption | exact isC_last)) | (simp [oneC]; done) | fail) only [evs0, evs1, evs2, evs3, evs4, evs5, evs6, evs7, evs8, if_true, if_false, ↓reduceIte, Nat.reduceEqDiff, Nat.reduceAdd, Nat.reduceMul, Nat.reduceSub, Nat.reduceLeDiff, Int.reduceLT, Int.reduceLE, Int.reduceEq, Bool.false_eq_true, Option.bind_some, Option.map_some, List.set_cons_zero, List.set_cons_succ, List.toList_toArray, List.size_toArray, List.length_cons, List.length_nil, List.getElem?_toArray, List.getElem?_cons_zero, List.getElem?_cons_succ, List.drop_zero, List.take_succ_cons, List.take_zero], by omega, by omega, hn, rfl, rfl, rfl⟩ ?_
  rintro m fr hh ⟨i, j, d', rfl, hi, hj, hs, rfl, E, rfl⟩
  rw [F65.e1]
  simp (disch := first | omega | assumption | exact isC_last | exact isC_app (by first | assumption | exact isC_last | exact isC_app (by first | assumption | exact isC_last)) | (simp [oneC]; done) | fail) only [F65.t1, evs0, evs1, evs2, evs3, evs4, evs5, evs6, evs7, evs8, if_true, if_false, ↓reduceIte, Nat.reduceEqDiff, Nat.reduceAdd, Nat.reduceMul, Nat.reduceSub, Nat.reduceLeDiff, Int.reduceLT, Int.reduceLE, Int.reduceEq, Bool.false_eq_true, Option.bind_some, Option.map_some, List.set_cons_zero, List.set_cons_succ, List.toList_toArray, List.size_toArray, List.length_cons, List.length_nil, List.getElem?_toArray, List.getElem?_cons_zero, List.getElem?_cons_succ, List.drop_zero, List.take_succ_cons, List.take_zero]
  unfold Sort.reverseLoop at E
  by_cases h5 : i < j
  · rw [if_pos (by omega), F65.e2]
    rw [if_pos h5] at E
    have e2 : IntKind.i64.wrap ((i : Int) + 1) = ((i + 1 : Nat) : Int) := by rw [IntWalk.i64_in _ (by omega)]; omega
    have e3 : IntKind.i64.wrap ((j : Int) - 1) = ((j - 1 : Nat) : Int) := by rw [IntWalk.i64_in _ (by omega)]; omega
    simp (disch := first | omega | assumption | exact isC_last | exact isC_app (by first | assumption | exact isC_last | exact isC_app (by first | assumption | exact isC_last)) | (simp [oneC]; done) | fail) only [F65.t2, ixW, rdW, wrW, wrW2, swp_def, e2, e3, evs0, evs1, evs2, evs3, evs4, evs5, evs6, evs7, evs8, if_true, if_false, ↓reduceIte, Nat.reduceEqDiff, Nat.reduceAdd, Nat.reduceMul, Nat.reduceSub, Nat.reduceLeDiff, Int.reduceLT, Int.reduceLE, Int.reduceEq, Bool.false_eq_true, Option.bind_some, Option.map_some, List.set_cons_zero, List.set_cons_succ, List.toList_toArray, List.size_toArray, List.length_cons, List.length_nil, List.getElem?_toArray, List.getElem?_cons_zero, List.getElem?_cons_succ, List.drop_zero, List.take_succ_cons, List.take_zero]
    exact ⟨by trivial, j - 1 - (i + 1), by omega, i + 1, j - 1, _, rfl, by omega, by omega, by rw [swp_size]; exact hs, rfl, E, rfl⟩
  · rw [if_neg (by omega)]
    rw [if_neg h5] at E
    rw [← hHP, E]
end Go.Proofs.Ytjdcdabbbmhffaa
