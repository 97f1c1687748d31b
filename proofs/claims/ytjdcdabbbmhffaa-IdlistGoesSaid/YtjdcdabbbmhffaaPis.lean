/- partialInsertionSortOrdered. No condition. -/
import Derived.Test.YtjdcdabbbmhffaaBrk
set_option linter.unusedVariables false
set_option linter.unusedSimpArgs false
namespace Go.Proofs.Ytjdcdabbbmhffaa
open Go.Ev
open Go.Sort (swp ltInt PermIn)
variable {n0 : Nat} {h : H}
theorem scanSorted_at {d : Array Int} {e i : Nat} : Sort.scanSorted ltInt d e i = if i < e ∧ ltInt d[i]! d[i - 1]! = false then Sort.scanSorted ltInt d e (i + 1) else i := by
  rw [Sort.scanSorted]
  by_cases hc : i < e ∧ ltInt d[i]! d[i - 1]! = false
  · rw [if_pos hc, if_pos (by simp [hc.1, hc.2])]
  · rw [if_neg hc, if_neg (by simp only [Bool.and_eq_true, decide_eq_true_eq, Bool.not_eq_true']; exact hc)]
theorem scanSorted_rng {d : Array Int} {e : Nat} : ∀ (k i : Nat), e - i = k → i ≤ e → i ≤ Sort.scanSorted ltInt d e i ∧ Sort.scanSorted ltInt d e i ≤ e := by
  intro k
  induction k with
  | zero => intro i hk hi; rw [scanSorted_at, if_neg (fun x => by have := x.1; omega)]; omega
  | succ k ih =>
    intro i hk hi
    rw [scanSorted_at]
    split
    · have := ih (i + 1) (by omega) (by omega); omega
    · omega
theorem shiftDown_succ {j : Nat} {d : Array Int} : Sort.shiftDown ltInt (j + 1) d = if !ltInt d[j + 1]! d[j]! then d else Sort.shiftDown ltInt j (swp d (j + 1) j) := rfl
theorem shiftDown_size : ∀ (j : Nat) {d : Array Int}, (Sort.shiftDown ltInt j d).size = d.size
  | 0, d => rfl
  | j + 1, d => by
    rw [shiftDown_succ]
    split
    · rfl
    · rw [shiftDown_size j, swp_size]
theorem shiftUp_size {e : Nat} : ∀ (k j : Nat) {d : Array Int}, e - j = k → (Sort.shiftUp ltInt e j d).size = d.size := by
  intro k
  induction k with
  | zero => intro j d hk; rw [Sort.shiftUp, if_neg (by omega)]
  | succ k ih =>
    intro j d hk
    rw [Sort.shiftUp]
    split
    · split
      · rfl
      · rw [ih (j + 1) (by omega), swp_size]
    · rfl
set_option maxRecDepth 20000 in
theorem partial_ok {b n a e : Nat} {d : Array Int} (hb : b < h.length) (hn : d.size = n) (hae : a < e) (hen : e ≤ n) (h63 : n < 2 ^ 60) :
    Cn Try.prog n0 (.func 66) [V b n, .int .i64 a, .int .i64 e] (W h b d) (fun v h' => v = .bool (Sort.partialInsertionSort ltInt d a e).2 ∧ h' = W h b (Sort.partialInsertionSort ltInt d a e).1) := by
  refine F66.enter ?_
  obtain ⟨R, hR⟩ : ∃ R, Sort.partialInsertionSort ltInt d a e = R := ⟨_, rfl⟩
  rw [hR]
  unfold Sort.partialInsertionSort at hR
  obtain ⟨HP, hHP⟩ : ∃ HP : Value → H → Prop, (fun v h' => v = .bool R.2 ∧ h' = W h b R.1) = HP := ⟨_, rfl⟩
  have fin : ∀ {x : Array Int} {y : Bool}, (x, y) = R → HP (.bool y) (W h b x) := by intro x y e; subst e; rw [← hHP]; exact ⟨rfl, rfl⟩
  rw [hHP, F66.e0]
  clear hHP
  have e1 : IntKind.i64.wrap ((a : Int) + 1) = ((a + 1 : Nat) : Int) := by rw [IntWalk.i64_in _ (by omega)]; omega
  simp (disch := first | omega | assumption | exact isC_last | exact isC_app (by first | assumption | exact isC_last | exact isC_app (by first | assumption | exact isC_last)) | (simp [oneC]; done) | fail) only [F66.t0, e1, evs0, evs1, evs2, evs3, evs4, evs5, evs6, evs7, evs8, if_true, if_false, ↓reduceIte, Nat.reduceEqDiff, Nat.reduceAdd, Nat.reduceMul, Nat.reduceSub, Nat.reduceLeDiff, Int.reduceLT, Int.reduceLE, Int.reduceEq, Bool.false_eq_true, Option.bind_some, Option.map_some, List.set_cons_zero, List.set_cons_succ, List.toList_toArray, List.size_toArray, List.length_cons, List.length_nil, List.getElem?_toArray, List.getElem?_cons_zero, List.getElem?_cons_succ, List.drop_zero, List.take_succ_cons, List.take_zero]
  refine Lp_ind (fun m fr hh => ∃ (i j : Nat) (d' : Array Int), fr = [(0, V b n), (1, .int .i64 a), (2, .int .i64 e), (7, .int .i64 i), (8, .int .i64 j)] ∧ a + 1 ≤ i ∧ i ≤ e ∧ j ≤ 5 ∧ d'.size = n ∧ hh = W h b d' ∧ Sort.partialIns ltInt a e (5 - j) i d' = R ∧ m = 5 - j) (F66.m1 n0) 5
    ⟨a + 1, 0, d, by simp (disch := first | omega | assumption | exact isC_last | exact isC_app (by first | assumption | exact isC_last | exact isC_app (by first | assumption | exact isC_last)) | (simp [oneC]; done) | fail) only [evs0, evs1, evs2, evs3, evs4, evs5, evs6, evs7, evs8, if_true, if_false, ↓reduceIte, Nat.reduceEqDiff, Nat.reduceAdd, Nat.reduceMul, Nat.reduceSub, Nat.reduceLeDiff, Int.reduceLT, Int.reduceLE, Int.reduceEq, Bool.false_eq_true, Option.bind_some, Option.map_some, List.set_cons_zero, List.set_cons_succ, List.toList_toArray, List.size_toArray, List.length_cons, List.length_nil, List.getElem?_toArray, List.getElem?_cons_zero, List.getElem?_cons_succ, List.drop_zero, List.take_succ_cons, List.take_zero]; rfl, by omega, by omega, by omega, hn, rfl, hR, rfl⟩ ?_
  rintro m fr hh ⟨i, j, d', rfl, hi, hie, hj, hs, rfl, E, rfl⟩
  rw [F66.e1]
  simp (disch := first | omega | assumption | exact isC_last | exact isC_app (by first | assumption | exact isC_last | exact isC_app (by first | assumption | exact isC_last)) | (simp [oneC]; done) | fail) only [F66.t1, evs0, evs1, evs2, evs3, evs4, evs5, evs6, evs7, evs8, if_true, if_false, ↓reduceIte, Nat.reduceEqDiff, Nat.reduceAdd, Nat.reduceMul, Nat.reduceSub, Nat.reduceLeDiff, Int.reduceLT, Int.reduceLE, Int.reduceEq, Bool.false_eq_true, Option.bind_some, Option.map_some, List.set_cons_zero, List.set_cons_succ, List.toList_toArray, List.size_toArray, List.length_cons, List.length_nil, List.getElem?_toArray, List.getElem?_cons_zero, List.getElem?_cons_succ, List.drop_zero, List.take_succ_cons, List.take_zero]
  by_cases h5 : j < 5
  · rw [if_pos (by omega), F66.e2]
    obtain ⟨s, hs5⟩ : ∃ s, 5 - j = s + 1 := ⟨4 - j, by omega⟩
    rw [hs5, Sort.partialIns_succ] at E
    unfold F66.t2
    -- the scan
    refine Lp_ind (fun m fr hh => ∃ i' : Nat, fr = [(0, V b n), (1, .int .i64 a), (2, .int .i64 e), (7, .int .i64 i'), (8, .int .i64 j)] ∧ i ≤ i' ∧ i' ≤ e ∧ hh = W h b d' ∧ Sort.scanSorted ltInt d' e i' = Sort.scanSorted ltInt d' e i ∧ m = e - i') (F66.m3 n0) (e - i) ⟨i, by simp (disch := first | omega | assumption | exact isC_last | exact isC_app (by first | assumption | exact isC_last | exact isC_app (by first | assumption | exact isC_last)) | (simp [oneC]; done) | fail) only [evs0, evs1, evs2, evs3, evs4, evs5, evs6, evs7, evs8, if_true, if_false, ↓reduceIte, Nat.reduceEqDiff, Nat.reduceAdd, Nat.reduceMul, Nat.reduceSub, Nat.reduceLeDiff, Int.reduceLT, Int.reduceLE, Int.reduceEq, Bool.false_eq_true, Option.bind_some, Option.map_some, List.set_cons_zero, List.set_cons_succ, List.toList_toArray, List.size_toArray, List.length_cons, List.length_nil, List.getElem?_toArray, List.getElem?_cons_zero, List.getElem?_cons_succ, List.drop_zero, List.take_succ_cons, List.take_zero], by omega, hie, rfl, rfl, rfl⟩ ?_
    rintro m fr hh ⟨i', rfl, hi', hie', rfl, E2, rfl⟩
    rw [F66.e3]
    rw [scanSorted_at] at E2
    have behind : i' = Sort.scanSorted ltInt d' e i → F66.p5 n0 [(0, V b n), (1, .int .i64 a), (2, .int .i64 e), (7, .int .i64 i'), (8, .int .i64 j)] [] (W h b d') (KBlk [0, 1, 2, 7, 8] 1 (KSeq [0, 1, 2, 7, 8] (F66.p21 n0) (KLp [0, 1, 2, 7, 8] (fun fr hh => ∃ m', m' < 5 - j ∧ ∃ (i j : Nat) (d' : Array Int), fr = [(0, V b n), (1, .int .i64 a), (2, .int .i64 e), (7, .int .i64 i), (8, .int .i64 j)] ∧ a + 1 ≤ i ∧ i ≤ e ∧ j ≤ 5 ∧ d'.size = n ∧ hh = W h b d' ∧ Sort.partialIns ltInt a e (5 - j) i d' = R ∧ m' = 5 - j) [] (KBlk [] 0 (KSeq [] (F66.p22 n0) (KFin Try.prog [.tmp 6] HP)))))) := by
      intro ei
      rw [← ei] at E
      clear E2 ei
      rw [F66.e5]
      simp (disch := first | omega | assumption | exact isC_last | exact isC_app (by first | assumption | exact isC_last | exact isC_app (by first | assumption | exact isC_last)) | (simp [oneC]; done) | fail) only [F66.t5, evs0, evs1, evs2, evs3, evs4, evs5, evs6, evs7, evs8, if_true, if_false, ↓reduceIte, Nat.reduceEqDiff, Nat.reduceAdd, Nat.reduceMul, Nat.reduceSub, Nat.reduceLeDiff, Int.reduceLT, Int.reduceLE, Int.reduceEq, Bool.false_eq_true, Option.bind_some, Option.map_some, List.set_cons_zero, List.set_cons_succ, List.toList_toArray, List.size_toArray, List.length_cons, List.length_nil, List.getElem?_toArray, List.getElem?_cons_zero, List.getElem?_cons_succ, List.drop_zero, List.take_succ_cons, List.take_zero]
      by_cases h6 : i' = e
      · rw [if_pos (by omega), F66.e6]
        rw [if_pos h6] at E
        simp (disch := first | omega | assumption | exact isC_last | exact isC_app (by first | assumption | exact isC_last | exact isC_app (by first | assumption | exact isC_last)) | (simp [oneC]; done) | fail) only [F66.t6, evs0, evs1, evs2, evs3, evs4, evs5, evs6, evs7, evs8, if_true, if_false, ↓reduceIte, Nat.reduceEqDiff, Nat.reduceAdd, Nat.reduceMul, Nat.reduceSub, Nat.reduceLeDiff, Int.reduceLT, Int.reduceLE, Int.reduceEq, Bool.false_eq_true, Option.bind_some, Option.map_some, List.set_cons_zero, List.set_cons_succ, List.toList_toArray, List.size_toArray, List.length_cons, List.length_nil, List.getElem?_toArray, List.getElem?_cons_zero, List.getElem?_cons_succ, List.drop_zero, List.take_succ_cons, List.take_zero]
        exact fin E
      rw [if_neg (by omega), F66.e7]
      rw [if_neg h6] at E
      have e2 : IntKind.i64.wrap ((e : Int) - (a : Int)) = ((e - a : Nat) : Int) := by rw [IntWalk.i64_in _ (by omega)]; omega
      simp (disch := first | omega | assumption | exact isC_last | exact isC_app (by first | assumption | exact isC_last | exact isC_app (by first | assumption | exact isC_last)) | (simp [oneC]; done) | fail) only [F66.t7, e2, evs0, evs1, evs2, evs3, evs4, evs5, evs6, evs7, evs8, if_true, if_false, ↓reduceIte, Nat.reduceEqDiff, Nat.reduceAdd, Nat.reduceMul, Nat.reduceSub, Nat.reduceLeDiff, Int.reduceLT, Int.reduceLE, Int.reduceEq, Bool.false_eq_true, Option.bind_some, Option.map_some, List.set_cons_zero, List.set_cons_succ, List.toList_toArray, List.size_toArray, List.length_cons, List.length_nil, List.getElem?_toArray, List.getElem?_cons_zero, List.getElem?_cons_succ, List.drop_zero, List.take_succ_cons, List.take_zero]
      by_cases h7 : e - a < 50
      · rw [if_pos (by omega), F66.e8]
        rw [if_pos h7] at E
        simp (disch := first | omega | assumption | exact isC_last | exact isC_app (by first | assumption | exact isC_last | exact isC_app (by first | assumption | exact isC_last)) | (simp [oneC]; done) | fail) only [F66.t8, evs0, evs1, evs2, evs3, evs4, evs5, evs6, evs7, evs8, if_true, if_false, ↓reduceIte, Nat.reduceEqDiff, Nat.reduceAdd, Nat.reduceMul, Nat.reduceSub, Nat.reduceLeDiff, Int.reduceLT, Int.reduceLE, Int.reduceEq, Bool.false_eq_true, Option.bind_some, Option.map_some, List.set_cons_zero, List.set_cons_succ, List.toList_toArray, List.size_toArray, List.length_cons, List.length_nil, List.getElem?_toArray, List.getElem?_cons_zero, List.getElem?_cons_succ, List.drop_zero, List.take_succ_cons, List.take_zero]
        exact fin E
      rw [if_neg (by omega), F66.e9]
      rw [if_neg h7] at E
      have e3 : IntKind.i64.wrap ((i' : Int) - 1) = ((i' - 1 : Nat) : Int) := by rw [IntWalk.i64_in _ (by omega)]; omega
      have e4 : IntKind.i64.wrap ((i' : Int) - (a : Int)) = ((i' - a : Nat) : Int) := by rw [IntWalk.i64_in _ (by omega)]; omega
      simp (disch := first | omega | assumption | exact isC_last | exact isC_app (by first | assumption | exact isC_last | exact isC_app (by first | assumption | exact isC_last)) | (simp [oneC]; done) | fail) only [F66.t9, e3, e4, ixW, rdW, wrW, wrW2, swp_def, evs0, evs1, evs2, evs3, evs4, evs5, evs6, evs7, evs8, if_true, if_false, ↓reduceIte, Nat.reduceEqDiff, Nat.reduceAdd, Nat.reduceMul, Nat.reduceSub, Nat.reduceLeDiff, Int.reduceLT, Int.reduceLE, Int.reduceEq, Bool.false_eq_true, Option.bind_some, Option.map_some, List.set_cons_zero, List.set_cons_succ, List.toList_toArray, List.size_toArray, List.length_cons, List.length_nil, List.getElem?_toArray, List.getElem?_cons_zero, List.getElem?_cons_succ, List.drop_zero, List.take_succ_cons, List.take_zero]
      have hs1 : (swp d' i' (i' - 1)).size = n := by rw [swp_size]; exact hs
      generalize swp d' i' (i' - 1) = d1 at *
      -- behind the shifts
      have up : ∀ d2 : Array Int, d2.size = n → Sort.partialIns ltInt a e s i' (Sort.fixUp ltInt e i' d2) = R → F66.p15 n0 [(0, V b n), (1, .int .i64 a), (2, .int .i64 e), (7, .int .i64 i'), (8, .int .i64 j)] [] (W h b d2) (KBlk [0, 1, 2, 7, 8] 1 (KSeq [0, 1, 2, 7, 8] (F66.p21 n0) (KLp [0, 1, 2, 7, 8] (fun fr hh => ∃ m', m' < 5 - j ∧ ∃ (i j : Nat) (d' : Array Int), fr = [(0, V b n), (1, .int .i64 a), (2, .int .i64 e), (7, .int .i64 i), (8, .int .i64 j)] ∧ a + 1 ≤ i ∧ i ≤ e ∧ j ≤ 5 ∧ d'.size = n ∧ hh = W h b d' ∧ Sort.partialIns ltInt a e (5 - j) i d' = R ∧ m' = 5 - j) [] (KBlk [] 0 (KSeq [] (F66.p22 n0) (KFin Try.prog [.tmp 6] HP)))))) := by
        intro d2 hs2 E3
        have next : ∀ d3 : Array Int, d3.size = n → Sort.partialIns ltInt a e s i' d3 = R → F66.p21 n0 [(0, V b n), (1, .int .i64 a), (2, .int .i64 e), (7, .int .i64 i'), (8, .int .i64 j)] [] (W h b d3) (KLp [0, 1, 2, 7, 8] (fun fr hh => ∃ m', m' < 5 - j ∧ ∃ (i j : Nat) (d' : Array Int), fr = [(0, V b n), (1, .int .i64 a), (2, .int .i64 e), (7, .int .i64 i), (8, .int .i64 j)] ∧ a + 1 ≤ i ∧ i ≤ e ∧ j ≤ 5 ∧ d'.size = n ∧ hh = W h b d' ∧ Sort.partialIns ltInt a e (5 - j) i d' = R ∧ m' = 5 - j) [] (KBlk [] 0 (KSeq [] (F66.p22 n0) (KFin Try.prog [.tmp 6] HP)))) := by
          intro d3 hs3 E4
          rw [F66.e21]
          simp (disch := first | omega | assumption | exact isC_last | exact isC_app (by first | assumption | exact isC_last | exact isC_app (by first | assumption | exact isC_last)) | (simp [oneC]; done) | fail) only [F66.t21, evs0, evs1, evs2, evs3, evs4, evs5, evs6, evs7, evs8, if_true, if_false, ↓reduceIte, Nat.reduceEqDiff, Nat.reduceAdd, Nat.reduceMul, Nat.reduceSub, Nat.reduceLeDiff, Int.reduceLT, Int.reduceLE, Int.reduceEq, Bool.false_eq_true, Option.bind_some, Option.map_some, List.set_cons_zero, List.set_cons_succ, List.toList_toArray, List.size_toArray, List.length_cons, List.length_nil, List.getElem?_toArray, List.getElem?_cons_zero, List.getElem?_cons_succ, List.drop_zero, List.take_succ_cons, List.take_zero]
          rw [show IntKind.i64.wrap ((j : Int) + 1) = ((j + 1 : Nat) : Int) by rw [IntWalk.i64_in _ (by omega)]; omega]
          exact ⟨by trivial, 5 - (j + 1), by omega, i', j + 1, d3, rfl, by omega, by omega, by omega, hs3, rfl, by rw [show 5 - (j + 1) = s by omega]; exact E4, rfl⟩
        rw [F66.e15]
        have e5 : IntKind.i64.wrap ((e : Int) - (i' : Int)) = ((e - i' : Nat) : Int) := by rw [IntWalk.i64_in _ (by omega)]; omega
        simp (disch := first | omega | assumption | exact isC_last | exact isC_app (by first | assumption | exact isC_last | exact isC_app (by first | assumption | exact isC_last)) | (simp [oneC]; done) | fail) only [F66.t15, e5, evs0, evs1, evs2, evs3, evs4, evs5, evs6, evs7, evs8, if_true, if_false, ↓reduceIte, Nat.reduceEqDiff, Nat.reduceAdd, Nat.reduceMul, Nat.reduceSub, Nat.reduceLeDiff, Int.reduceLT, Int.reduceLE, Int.reduceEq, Bool.false_eq_true, Option.bind_some, Option.map_some, List.set_cons_zero, List.set_cons_succ, List.toList_toArray, List.size_toArray, List.length_cons, List.length_nil, List.getElem?_toArray, List.getElem?_cons_zero, List.getElem?_cons_succ, List.drop_zero, List.take_succ_cons, List.take_zero]
        unfold Sort.fixUp at E3
        by_cases h8 : e - i' ≥ 2
        · rw [if_pos (by omega), F66.e16]
          rw [if_pos h8] at E3
          have e6 : IntKind.i64.wrap ((i' : Int) + 1) = ((i' + 1 : Nat) : Int) := by rw [IntWalk.i64_in _ (by omega)]; omega
          simp (disch := first | omega | assumption | exact isC_last | exact isC_app (by first | assumption | exact isC_last | exact isC_app (by first | assumption | exact isC_last)) | (simp [oneC]; done) | fail) only [F66.t16, e6, evs0, evs1, evs2, evs3, evs4, evs5, evs6, evs7, evs8, if_true, if_false, ↓reduceIte, Nat.reduceEqDiff, Nat.reduceAdd, Nat.reduceMul, Nat.reduceSub, Nat.reduceLeDiff, Int.reduceLT, Int.reduceLE, Int.reduceEq, Bool.false_eq_true, Option.bind_some, Option.map_some, List.set_cons_zero, List.set_cons_succ, List.toList_toArray, List.size_toArray, List.length_cons, List.length_nil, List.getElem?_toArray, List.getElem?_cons_zero, List.getElem?_cons_succ, List.drop_zero, List.take_succ_cons, List.take_zero]
          refine Lp_ind (fun m fr hh => ∃ (q : Nat) (d3 : Array Int), fr = [(0, V b n), (1, .int .i64 a), (2, .int .i64 e), (7, .int .i64 i'), (8, .int .i64 j), (10, .int .i64 q)] ∧ 1 ≤ q ∧ q ≤ e ∧ d3.size = n ∧ hh = W h b d3 ∧ Sort.shiftUp ltInt e q d3 = Sort.shiftUp ltInt e (i' + 1) d2 ∧ m = e - q) (F66.m17 n0) (e - (i' + 1))
            ⟨i' + 1, d2, by simp (disch := first | omega | assumption | exact isC_last | exact isC_app (by first | assumption | exact isC_last | exact isC_app (by first | assumption | exact isC_last)) | (simp [oneC]; done) | fail) only [evs0, evs1, evs2, evs3, evs4, evs5, evs6, evs7, evs8, if_true, if_false, ↓reduceIte, Nat.reduceEqDiff, Nat.reduceAdd, Nat.reduceMul, Nat.reduceSub, Nat.reduceLeDiff, Int.reduceLT, Int.reduceLE, Int.reduceEq, Bool.false_eq_true, Option.bind_some, Option.map_some, List.set_cons_zero, List.set_cons_succ, List.toList_toArray, List.size_toArray, List.length_cons, List.length_nil, List.getElem?_toArray, List.getElem?_cons_zero, List.getElem?_cons_succ, List.drop_zero, List.take_succ_cons, List.take_zero], by omega, by omega, hs2, rfl, rfl, rfl⟩ ?_
          rintro m fr hh ⟨q, d3, rfl, hq, hq2, hs3, rfl, E5, rfl⟩
          rw [F66.e17]
          simp (disch := first | omega | assumption | exact isC_last | exact isC_app (by first | assumption | exact isC_last | exact isC_app (by first | assumption | exact isC_last)) | (simp [oneC]; done) | fail) only [F66.t17, evs0, evs1, evs2, evs3, evs4, evs5, evs6, evs7, evs8, if_true, if_false, ↓reduceIte, Nat.reduceEqDiff, Nat.reduceAdd, Nat.reduceMul, Nat.reduceSub, Nat.reduceLeDiff, Int.reduceLT, Int.reduceLE, Int.reduceEq, Bool.false_eq_true, Option.bind_some, Option.map_some, List.set_cons_zero, List.set_cons_succ, List.toList_toArray, List.size_toArray, List.length_cons, List.length_nil, List.getElem?_toArray, List.getElem?_cons_zero, List.getElem?_cons_succ, List.drop_zero, List.take_succ_cons, List.take_zero]
          rw [Sort.shiftUp] at E5
          by_cases h9 : q < e
          · rw [if_pos (by omega), F66.e18]
            rw [if_pos h9] at E5
            have e7 : IntKind.i64.wrap ((q : Int) - 1) = ((q - 1 : Nat) : Int) := by rw [IntWalk.i64_in _ (by omega)]; omega
            simp (disch := first | omega | assumption | exact isC_last | exact isC_app (by first | assumption | exact isC_last | exact isC_app (by first | assumption | exact isC_last)) | (simp [oneC]; done) | fail) only [F66.t18, e7, ixW, rdW, evs0, evs1, evs2, evs3, evs4, evs5, evs6, evs7, evs8, if_true, if_false, ↓reduceIte, Nat.reduceEqDiff, Nat.reduceAdd, Nat.reduceMul, Nat.reduceSub, Nat.reduceLeDiff, Int.reduceLT, Int.reduceLE, Int.reduceEq, Bool.false_eq_true, Option.bind_some, Option.map_some, List.set_cons_zero, List.set_cons_succ, List.toList_toArray, List.size_toArray, List.length_cons, List.length_nil, List.getElem?_toArray, List.getElem?_cons_zero, List.getElem?_cons_succ, List.drop_zero, List.take_succ_cons, List.take_zero]
            refine lessQ.mono ?_
            rintro _ hx ⟨rfl, ex⟩; subst hx
            cases hl : ltInt d3[q]! d3[q - 1]! with
            | false =>
              rw [hl, if_pos (by rfl)] at E5
              simp (disch := first | omega | assumption | exact isC_last | exact isC_app (by first | assumption | exact isC_last | exact isC_app (by first | assumption | exact isC_last)) | (simp [oneC]; done) | fail) only [Bool.not_false, evs0, evs1, evs2, evs3, evs4, evs5, evs6, evs7, evs8, if_true, if_false, ↓reduceIte, Nat.reduceEqDiff, Nat.reduceAdd, Nat.reduceMul, Nat.reduceSub, Nat.reduceLeDiff, Int.reduceLT, Int.reduceLE, Int.reduceEq, Bool.false_eq_true, Option.bind_some, Option.map_some, List.set_cons_zero, List.set_cons_succ, List.toList_toArray, List.size_toArray, List.length_cons, List.length_nil, List.getElem?_toArray, List.getElem?_cons_zero, List.getElem?_cons_succ, List.drop_zero, List.take_succ_cons, List.take_zero]
              refine next d3 hs3 ?_
              rw [E5]; exact E3
            | true =>
              rw [hl, if_neg (by simp)] at E5
              simp (disch := first | omega | assumption | exact isC_last | exact isC_app (by first | assumption | exact isC_last | exact isC_app (by first | assumption | exact isC_last)) | (simp [oneC]; done) | fail) only [Bool.not_true, evs0, evs1, evs2, evs3, evs4, evs5, evs6, evs7, evs8, if_true, if_false, ↓reduceIte, Nat.reduceEqDiff, Nat.reduceAdd, Nat.reduceMul, Nat.reduceSub, Nat.reduceLeDiff, Int.reduceLT, Int.reduceLE, Int.reduceEq, Bool.false_eq_true, Option.bind_some, Option.map_some, List.set_cons_zero, List.set_cons_succ, List.toList_toArray, List.size_toArray, List.length_cons, List.length_nil, List.getElem?_toArray, List.getElem?_cons_zero, List.getElem?_cons_succ, List.drop_zero, List.take_succ_cons, List.take_zero]
              rw [F66.e19]
              simp (disch := first | omega | assumption | exact isC_last | exact isC_app (by first | assumption | exact isC_last | exact isC_app (by first | assumption | exact isC_last)) | (simp [oneC]; done) | fail) only [F66.t19, e7, ixW, rdW, wrW, wrW2, swp_def, evs0, evs1, evs2, evs3, evs4, evs5, evs6, evs7, evs8, if_true, if_false, ↓reduceIte, Nat.reduceEqDiff, Nat.reduceAdd, Nat.reduceMul, Nat.reduceSub, Nat.reduceLeDiff, Int.reduceLT, Int.reduceLE, Int.reduceEq, Bool.false_eq_true, Option.bind_some, Option.map_some, List.set_cons_zero, List.set_cons_succ, List.toList_toArray, List.size_toArray, List.length_cons, List.length_nil, List.getElem?_toArray, List.getElem?_cons_zero, List.getElem?_cons_succ, List.drop_zero, List.take_succ_cons, List.take_zero]
              rw [F66.e20]
              simp (disch := first | omega | assumption | exact isC_last | exact isC_app (by first | assumption | exact isC_last | exact isC_app (by first | assumption | exact isC_last)) | (simp [oneC]; done) | fail) only [F66.t20, evs0, evs1, evs2, evs3, evs4, evs5, evs6, evs7, evs8, if_true, if_false, ↓reduceIte, Nat.reduceEqDiff, Nat.reduceAdd, Nat.reduceMul, Nat.reduceSub, Nat.reduceLeDiff, Int.reduceLT, Int.reduceLE, Int.reduceEq, Bool.false_eq_true, Option.bind_some, Option.map_some, List.set_cons_zero, List.set_cons_succ, List.toList_toArray, List.size_toArray, List.length_cons, List.length_nil, List.getElem?_toArray, List.getElem?_cons_zero, List.getElem?_cons_succ, List.drop_zero, List.take_succ_cons, List.take_zero]
              rw [show IntKind.i64.wrap ((q : Int) + 1) = ((q + 1 : Nat) : Int) by rw [IntWalk.i64_in _ (by omega)]; omega]
              exact ⟨by trivial, e - (q + 1), by omega, q + 1, _, rfl, by omega, by omega, by rw [swp_size]; exact hs3, rfl, E5, rfl⟩
          · rw [if_neg (by omega)]
            rw [if_neg h9] at E5
            refine next d3 hs3 ?_
            rw [E5]; exact E3
        · rw [if_neg (by omega)]
          rw [if_neg h8] at E3
          exact next d2 hs2 E3
      unfold Sort.fixDown at E
      by_cases h8 : i' - a ≥ 2
      · rw [if_pos (by omega), F66.e10]
        rw [if_pos h8] at E
        simp (disch := first | omega | assumption | exact isC_last | exact isC_app (by first | assumption | exact isC_last | exact isC_app (by first | assumption | exact isC_last)) | (simp [oneC]; done) | fail) only [F66.t10, e3, evs0, evs1, evs2, evs3, evs4, evs5, evs6, evs7, evs8, if_true, if_false, ↓reduceIte, Nat.reduceEqDiff, Nat.reduceAdd, Nat.reduceMul, Nat.reduceSub, Nat.reduceLeDiff, Int.reduceLT, Int.reduceLE, Int.reduceEq, Bool.false_eq_true, Option.bind_some, Option.map_some, List.set_cons_zero, List.set_cons_succ, List.toList_toArray, List.size_toArray, List.length_cons, List.length_nil, List.getElem?_toArray, List.getElem?_cons_zero, List.getElem?_cons_succ, List.drop_zero, List.take_succ_cons, List.take_zero]
        refine Lp_ind (fun m fr hh => ∃ (q : Nat) (d3 : Array Int), fr = [(0, V b n), (1, .int .i64 a), (2, .int .i64 e), (7, .int .i64 i'), (8, .int .i64 j), (9, .int .i64 q)] ∧ q < n ∧ d3.size = n ∧ hh = W h b d3 ∧ Sort.shiftDown ltInt q d3 = Sort.shiftDown ltInt (i' - 1) d1 ∧ m = q) (F66.m11 n0) (i' - 1)
          ⟨i' - 1, d1, by simp (disch := first | omega | assumption | exact isC_last | exact isC_app (by first | assumption | exact isC_last | exact isC_app (by first | assumption | exact isC_last)) | (simp [oneC]; done) | fail) only [evs0, evs1, evs2, evs3, evs4, evs5, evs6, evs7, evs8, if_true, if_false, ↓reduceIte, Nat.reduceEqDiff, Nat.reduceAdd, Nat.reduceMul, Nat.reduceSub, Nat.reduceLeDiff, Int.reduceLT, Int.reduceLE, Int.reduceEq, Bool.false_eq_true, Option.bind_some, Option.map_some, List.set_cons_zero, List.set_cons_succ, List.toList_toArray, List.size_toArray, List.length_cons, List.length_nil, List.getElem?_toArray, List.getElem?_cons_zero, List.getElem?_cons_succ, List.drop_zero, List.take_succ_cons, List.take_zero], by omega, hs1, rfl, rfl, rfl⟩ ?_
        rintro q fr hh ⟨q', d3, rfl, hq, hs3, rfl, E5, em⟩
        subst em
        rw [F66.e11]
        simp (disch := first | omega | assumption | exact isC_last | exact isC_app (by first | assumption | exact isC_last | exact isC_app (by first | assumption | exact isC_last)) | (simp [oneC]; done) | fail) only [F66.t11, evs0, evs1, evs2, evs3, evs4, evs5, evs6, evs7, evs8, if_true, if_false, ↓reduceIte, Nat.reduceEqDiff, Nat.reduceAdd, Nat.reduceMul, Nat.reduceSub, Nat.reduceLeDiff, Int.reduceLT, Int.reduceLE, Int.reduceEq, Bool.false_eq_true, Option.bind_some, Option.map_some, List.set_cons_zero, List.set_cons_succ, List.toList_toArray, List.size_toArray, List.length_cons, List.length_nil, List.getElem?_toArray, List.getElem?_cons_zero, List.getElem?_cons_succ, List.drop_zero, List.take_succ_cons, List.take_zero]
        cases q with
        | zero =>
          rw [if_neg (by omega)]
          refine up d3 hs3 ?_
          rw [show Sort.shiftDown ltInt 0 d3 = d3 from rfl] at E5
          rw [E5]; exact E
        | succ q =>
          rw [if_pos (by omega), F66.e12]
          rw [shiftDown_succ] at E5
          have e7 : IntKind.i64.wrap (((q + 1 : Nat) : Int) - 1) = (q : Int) := by rw [IntWalk.i64_in _ (by omega)]; omega
          simp (disch := first | omega | assumption | exact isC_last | exact isC_app (by first | assumption | exact isC_last | exact isC_app (by first | assumption | exact isC_last)) | (simp [oneC]; done) | fail) only [F66.t12, e7, ixW, rdW, evs0, evs1, evs2, evs3, evs4, evs5, evs6, evs7, evs8, if_true, if_false, ↓reduceIte, Nat.reduceEqDiff, Nat.reduceAdd, Nat.reduceMul, Nat.reduceSub, Nat.reduceLeDiff, Int.reduceLT, Int.reduceLE, Int.reduceEq, Bool.false_eq_true, Option.bind_some, Option.map_some, List.set_cons_zero, List.set_cons_succ, List.toList_toArray, List.size_toArray, List.length_cons, List.length_nil, List.getElem?_toArray, List.getElem?_cons_zero, List.getElem?_cons_succ, List.drop_zero, List.take_succ_cons, List.take_zero]
          refine lessQ.mono ?_
          rintro _ hx ⟨rfl, ex⟩; subst hx
          cases hl : ltInt d3[q + 1]! d3[q]! with
          | false =>
            rw [hl, if_pos (by rfl)] at E5
            simp (disch := first | omega | assumption | exact isC_last | exact isC_app (by first | assumption | exact isC_last | exact isC_app (by first | assumption | exact isC_last)) | (simp [oneC]; done) | fail) only [Bool.not_false, evs0, evs1, evs2, evs3, evs4, evs5, evs6, evs7, evs8, if_true, if_false, ↓reduceIte, Nat.reduceEqDiff, Nat.reduceAdd, Nat.reduceMul, Nat.reduceSub, Nat.reduceLeDiff, Int.reduceLT, Int.reduceLE, Int.reduceEq, Bool.false_eq_true, Option.bind_some, Option.map_some, List.set_cons_zero, List.set_cons_succ, List.toList_toArray, List.size_toArray, List.length_cons, List.length_nil, List.getElem?_toArray, List.getElem?_cons_zero, List.getElem?_cons_succ, List.drop_zero, List.take_succ_cons, List.take_zero]
            refine up d3 hs3 ?_
            rw [E5]; exact E
          | true =>
            rw [hl, if_neg (by simp)] at E5
            simp (disch := first | omega | assumption | exact isC_last | exact isC_app (by first | assumption | exact isC_last | exact isC_app (by first | assumption | exact isC_last)) | (simp [oneC]; done) | fail) only [Bool.not_true, evs0, evs1, evs2, evs3, evs4, evs5, evs6, evs7, evs8, if_true, if_false, ↓reduceIte, Nat.reduceEqDiff, Nat.reduceAdd, Nat.reduceMul, Nat.reduceSub, Nat.reduceLeDiff, Int.reduceLT, Int.reduceLE, Int.reduceEq, Bool.false_eq_true, Option.bind_some, Option.map_some, List.set_cons_zero, List.set_cons_succ, List.toList_toArray, List.size_toArray, List.length_cons, List.length_nil, List.getElem?_toArray, List.getElem?_cons_zero, List.getElem?_cons_succ, List.drop_zero, List.take_succ_cons, List.take_zero]
            rw [F66.e13]
            simp (disch := first | omega | assumption | exact isC_last | exact isC_app (by first | assumption | exact isC_last | exact isC_app (by first | assumption | exact isC_last)) | (simp [oneC]; done) | fail) only [F66.t13, e7, ixW, rdW, wrW, wrW2, swp_def, evs0, evs1, evs2, evs3, evs4, evs5, evs6, evs7, evs8, if_true, if_false, ↓reduceIte, Nat.reduceEqDiff, Nat.reduceAdd, Nat.reduceMul, Nat.reduceSub, Nat.reduceLeDiff, Int.reduceLT, Int.reduceLE, Int.reduceEq, Bool.false_eq_true, Option.bind_some, Option.map_some, List.set_cons_zero, List.set_cons_succ, List.toList_toArray, List.size_toArray, List.length_cons, List.length_nil, List.getElem?_toArray, List.getElem?_cons_zero, List.getElem?_cons_succ, List.drop_zero, List.take_succ_cons, List.take_zero]
            rw [F66.e14]
            simp (disch := first | omega | assumption | exact isC_last | exact isC_app (by first | assumption | exact isC_last | exact isC_app (by first | assumption | exact isC_last)) | (simp [oneC]; done) | fail) only [F66.t14, e7, evs0, evs1, evs2, evs3, evs4, evs5, evs6, evs7, evs8, if_true, if_false, ↓reduceIte, Nat.reduceEqDiff, Nat.reduceAdd, Nat.reduceMul, Nat.reduceSub, Nat.reduceLeDiff, Int.reduceLT, Int.reduceLE, Int.reduceEq, Bool.false_eq_true, Option.bind_some, Option.map_some, List.set_cons_zero, List.set_cons_succ, List.toList_toArray, List.size_toArray, List.length_cons, List.length_nil, List.getElem?_toArray, List.getElem?_cons_zero, List.getElem?_cons_succ, List.drop_zero, List.take_succ_cons, List.take_zero]
            exact ⟨by trivial, q, by omega, q, _, rfl, by omega, by rw [swp_size]; exact hs3, rfl, E5, rfl⟩
      · rw [if_neg (by omega)]
        rw [if_neg h8] at E
        exact up d1 hs1 E
    by_cases h6 : i' < e
    · have e7 : IntKind.i64.wrap ((i' : Int) - 1) = ((i' - 1 : Nat) : Int) := by rw [IntWalk.i64_in _ (by omega)]; omega
      simp (disch := first | omega | assumption | exact isC_last | exact isC_app (by first | assumption | exact isC_last | exact isC_app (by first | assumption | exact isC_last)) | (simp [oneC]; done) | fail) only [F66.t3, e7, ixW, rdW, evs0, evs1, evs2, evs3, evs4, evs5, evs6, evs7, evs8, if_true, if_false, ↓reduceIte, Nat.reduceEqDiff, Nat.reduceAdd, Nat.reduceMul, Nat.reduceSub, Nat.reduceLeDiff, Int.reduceLT, Int.reduceLE, Int.reduceEq, Bool.false_eq_true, Option.bind_some, Option.map_some, List.set_cons_zero, List.set_cons_succ, List.toList_toArray, List.size_toArray, List.length_cons, List.length_nil, List.getElem?_toArray, List.getElem?_cons_zero, List.getElem?_cons_succ, List.drop_zero, List.take_succ_cons, List.take_zero]
      rw [if_pos (by omega)]
      refine lessQ.mono ?_
      rintro _ hx ⟨rfl, ex⟩; subst hx
      cases hl : ltInt d'[i']! d'[i' - 1]! with
      | false =>
        rw [if_pos ⟨h6, hl⟩] at E2
        simp (disch := first | omega | assumption | exact isC_last | exact isC_app (by first | assumption | exact isC_last | exact isC_app (by first | assumption | exact isC_last)) | (simp [oneC]; done) | fail) only [Bool.not_false, evs0, evs1, evs2, evs3, evs4, evs5, evs6, evs7, evs8, if_true, if_false, ↓reduceIte, Nat.reduceEqDiff, Nat.reduceAdd, Nat.reduceMul, Nat.reduceSub, Nat.reduceLeDiff, Int.reduceLT, Int.reduceLE, Int.reduceEq, Bool.false_eq_true, Option.bind_some, Option.map_some, List.set_cons_zero, List.set_cons_succ, List.toList_toArray, List.size_toArray, List.length_cons, List.length_nil, List.getElem?_toArray, List.getElem?_cons_zero, List.getElem?_cons_succ, List.drop_zero, List.take_succ_cons, List.take_zero]
        rw [F66.e4]
        simp (disch := first | omega | assumption | exact isC_last | exact isC_app (by first | assumption | exact isC_last | exact isC_app (by first | assumption | exact isC_last)) | (simp [oneC]; done) | fail) only [F66.t4, evs0, evs1, evs2, evs3, evs4, evs5, evs6, evs7, evs8, if_true, if_false, ↓reduceIte, Nat.reduceEqDiff, Nat.reduceAdd, Nat.reduceMul, Nat.reduceSub, Nat.reduceLeDiff, Int.reduceLT, Int.reduceLE, Int.reduceEq, Bool.false_eq_true, Option.bind_some, Option.map_some, List.set_cons_zero, List.set_cons_succ, List.toList_toArray, List.size_toArray, List.length_cons, List.length_nil, List.getElem?_toArray, List.getElem?_cons_zero, List.getElem?_cons_succ, List.drop_zero, List.take_succ_cons, List.take_zero]
        rw [show IntKind.i64.wrap ((i' : Int) + 1) = ((i' + 1 : Nat) : Int) by rw [IntWalk.i64_in _ (by omega)]; omega]
        exact ⟨by trivial, e - (i' + 1), by omega, i' + 1, by trivial, by omega, by omega, by trivial, E2, by trivial⟩
      | true =>
        rw [if_neg (fun x => by rw [hl] at x; cases x.2)] at E2
        simp (disch := first | omega | assumption | exact isC_last | exact isC_app (by first | assumption | exact isC_last | exact isC_app (by first | assumption | exact isC_last)) | (simp [oneC]; done) | fail) only [Bool.not_true, evs0, evs1, evs2, evs3, evs4, evs5, evs6, evs7, evs8, if_true, if_false, ↓reduceIte, Nat.reduceEqDiff, Nat.reduceAdd, Nat.reduceMul, Nat.reduceSub, Nat.reduceLeDiff, Int.reduceLT, Int.reduceLE, Int.reduceEq, Bool.false_eq_true, Option.bind_some, Option.map_some, List.set_cons_zero, List.set_cons_succ, List.toList_toArray, List.size_toArray, List.length_cons, List.length_nil, List.getElem?_toArray, List.getElem?_cons_zero, List.getElem?_cons_succ, List.drop_zero, List.take_succ_cons, List.take_zero]
        exact behind E2
    · simp (disch := first | omega | assumption | exact isC_last | exact isC_app (by first | assumption | exact isC_last | exact isC_app (by first | assumption | exact isC_last)) | (simp [oneC]; done) | fail) only [F66.t3, evs0, evs1, evs2, evs3, evs4, evs5, evs6, evs7, evs8, if_true, if_false, ↓reduceIte, Nat.reduceEqDiff, Nat.reduceAdd, Nat.reduceMul, Nat.reduceSub, Nat.reduceLeDiff, Int.reduceLT, Int.reduceLE, Int.reduceEq, Bool.false_eq_true, Option.bind_some, Option.map_some, List.set_cons_zero, List.set_cons_succ, List.toList_toArray, List.size_toArray, List.length_cons, List.length_nil, List.getElem?_toArray, List.getElem?_cons_zero, List.getElem?_cons_succ, List.drop_zero, List.take_succ_cons, List.take_zero]
      rw [if_neg (by omega)]
      rw [if_neg (fun x => h6 x.1)] at E2
      exact behind E2
  · rw [if_neg (by omega), F66.e22]
    simp (disch := first | omega | assumption | exact isC_last | exact isC_app (by first | assumption | exact isC_last | exact isC_app (by first | assumption | exact isC_last)) | (simp [oneC]; done) | fail) only [F66.t22, evs0, evs1, evs2, evs3, evs4, evs5, evs6, evs7, evs8, if_true, if_false, ↓reduceIte, Nat.reduceEqDiff, Nat.reduceAdd, Nat.reduceMul, Nat.reduceSub, Nat.reduceLeDiff, Int.reduceLT, Int.reduceLE, Int.reduceEq, Bool.false_eq_true, Option.bind_some, Option.map_some, List.set_cons_zero, List.set_cons_succ, List.toList_toArray, List.size_toArray, List.length_cons, List.length_nil, List.getElem?_toArray, List.getElem?_cons_zero, List.getElem?_cons_succ, List.drop_zero, List.take_succ_cons, List.take_zero]
    rw [show 5 - j = 0 by omega] at E
    exact fin E
end Go.Proofs.Ytjdcdabbbmhffaa
