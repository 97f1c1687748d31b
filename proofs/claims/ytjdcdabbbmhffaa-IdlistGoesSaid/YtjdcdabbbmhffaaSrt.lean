/- A slice of whole numbers that is written: reads, stores; cmp.Less; insertion, heap, reversal. No condition. -/
import Derived.Test.YtjdcdabbbmhffaaEvLib
import Derived.Test.YtjdcdabbbmhffaaFs
import Derived.Test.YtjdcdabbbmhffaaEvs
import Derived.Sort.AssemblyPlain
set_option linter.unusedVariables false
set_option linter.unusedSimpArgs false
namespace Go.Proofs.Ytjdcdabbbmhffaa
open Go.Ev
open Go.Sort (swp ltInt)
variable {n0 : Nat} {h : H}
def uv (d : Array Int) : List Value := d.toList.map fun x => .int .u64 x
/-- the heap with the numbers d in block b -/
def W (h : H) (b : Nat) (d : Array Int) : H := h.set b (.cells true (enc 1 23) (uv d))
def V (b n : Nat) : Value := .slice (some ⟨b, 0, none⟩) n n
theorem W_get {b : Nat} {d : Array Int} (hb : b < h.length) : (W h b d)[b]? = some (.cells true (enc 1 23) (uv d)) := by
  unfold W; rw [List.getElem?_set_self hb]
theorem W_W {b : Nat} {d d' : Array Int} : W (W h b d) b d' = W h b d' := by unfold W; rw [List.set_set]
theorem W_len {b : Nat} {d : Array Int} : (W h b d).length = h.length := by unfold W; simp
theorem uv_len {d : Array Int} : (uv d).length = d.size := by simp [uv]
theorem ixW {b n i : Nat} (hi : i < n) : aIndexAddr Try.prog 22 (V b n) (.int .i64 i) = some (.pointer (some ⟨b, i, none⟩)) := by
  unfold V
  simp only [aIndexAddr, un_22, sz_23, Option.map_some]
  rw [if_pos ⟨by omega, by omega⟩]; simp
theorem ldW {b i : Nat} {d : Array Int} (hb : b < h.length) (hi : i < d.size) : aLoad Try.prog 23 (.pointer (some ⟨b, i, none⟩)) (W h b d) = some (.int .u64 d[i]!) := by
  simp only [aLoad, ag_23, rd_cells (W_get hb)]
  unfold uv
  rw [List.getElem?_map, Array.getElem?_toList, Array.getElem?_eq_getElem hi, getElem!_pos d i hi]; rfl
theorem stW {b i : Nat} {d : Array Int} {x : Int} (hb : b < h.length) (hi : i < d.size) : aStore Try.prog 23 (.pointer (some ⟨b, i, none⟩)) (.int .u64 x) (W h b d) = some (W h b (d.setIfInBounds i x)) := by
  simp only [aStore, sz_23, Option.bind_some]
  rw [if_pos (by rfl), wr_cells (W_get hb) (by rw [uv_len]; simp [Value.cells]; omega) rfl]
  have e : (Value.int .u64 x).cells.toList = [.int .u64 x] := rfl
  rw [e, over_one (by rw [uv_len]; exact hi)]
  unfold W
  rw [List.set_set]
  congr 3
  unfold uv
  rw [Array.toList_setIfInBounds, List.map_set]
theorem rdW {b i : Nat} {d : Array Int} (hb : b < h.length) (hi : i < d.size) : rd (W h b d) b i = some (.int .u64 d[i]!) := by
  have := ldW (h := h) hb hi
  simp only [aLoad, ag_23] at this
  exact this
theorem wrW {b i : Nat} {d : Array Int} {x : Int} (hb : b < h.length) (hi : i < d.size) : wr (W h b d) b i [.int .u64 x] = some (W h b (d.setIfInBounds i x)) := by
  have := stW (h := h) (x := x) hb hi
  simp only [aStore, sz_23, Option.bind_some] at this
  rw [if_pos (by rfl)] at this
  exact this
theorem wrW2 {b i i' : Nat} {d : Array Int} {x x' : Int} (hb : b < h.length) (hi : i < d.size) : wr (W h b (d.setIfInBounds i' x')) b i [.int .u64 x] = some (W h b ((d.setIfInBounds i' x').setIfInBounds i x)) := wrW hb (by simpa using hi)
theorem insInner_succ {a j : Nat} {d : Array Int} : Sort.insInner ltInt a (j + 1) d = if j + 1 > a && ltInt d[j + 1]! d[j]! then Sort.insInner ltInt a j (swp d (j + 1) j) else d := rfl
theorem lessQ {x y : Int} : Cn Try.prog n0 (.func 67) [.int .u64 x, .int .u64 y] h (fun v h' => v = .bool (ltInt x y) ∧ h' = h) := by
  refine F67.enter ?_
  rw [F67.e0]
  unfold F67.t0
  refine F77.enter ?_
  rw [F77.e0]
  simp (disch := first | omega | assumption | exact isC_last | exact isC_app (by first | assumption | exact isC_last | exact isC_app (by first | assumption | exact isC_last)) | (simp [oneC]; done) | fail) only [F77.t0, evs0, evs1, evs2, evs3, evs4, evs5, evs6, evs7, evs8, if_true, if_false, ↓reduceIte, Nat.reduceEqDiff, Nat.reduceAdd, Nat.reduceMul, Nat.reduceSub, Nat.reduceLeDiff, Int.reduceLT, Int.reduceLE, Int.reduceEq, Bool.false_eq_true, Option.bind_some, Option.map_some, List.set_cons_zero, List.set_cons_succ, List.toList_toArray, List.size_toArray, List.length_cons, List.length_nil, List.getElem?_toArray, List.getElem?_cons_zero, List.getElem?_cons_succ, List.drop_zero, List.take_succ_cons, List.take_zero]
  exact ⟨rfl, trivial⟩
theorem swp_size {d : Array Int} {i j : Nat} : (swp d i j).size = d.size := by simp [swp]
theorem get_setI {d : Array Int} {i : Nat} {x : Int} : (d.setIfInBounds i x).size = d.size := by simp
theorem swp_def {d : Array Int} {i j : Nat} : (d.setIfInBounds i d[j]!).setIfInBounds j d[i]! = swp d i j := rfl
set_option maxRecDepth 20000 in
theorem insertion_ok {b n a e : Nat} {d : Array Int} (hb : b < h.length) (hn : d.size = n) (hae : a ≤ e) (hen : e ≤ n) (h63 : n < 2 ^ 62) :
    Cn Try.prog n0 (.func 61) [V b n, .int .i64 a, .int .i64 e] (W h b d) (fun _ h' => h' = W h b (Sort.insertionSort ltInt d a e)) := by
  refine F61.enter ?_
  obtain ⟨HP, hHP⟩ : ∃ HP : Value → H → Prop, (fun (_ : Value) h' => h' = W h b (Sort.insertionSort ltInt d a e)) = HP := ⟨_, rfl⟩
  rw [hHP, F61.e0]
  simp (disch := first | omega | assumption | exact isC_last | exact isC_app (by first | assumption | exact isC_last | exact isC_app (by first | assumption | exact isC_last)) | (simp [oneC]; done) | fail) only [F61.t0, evs0, evs1, evs2, evs3, evs4, evs5, evs6, evs7, evs8, if_true, if_false, ↓reduceIte, Nat.reduceEqDiff, Nat.reduceAdd, Nat.reduceMul, Nat.reduceSub, Nat.reduceLeDiff, Int.reduceLT, Int.reduceLE, Int.reduceEq, Bool.false_eq_true, Option.bind_some, Option.map_some, List.set_cons_zero, List.set_cons_succ, List.toList_toArray, List.size_toArray, List.length_cons, List.length_nil, List.getElem?_toArray, List.getElem?_cons_zero, List.getElem?_cons_succ, List.drop_zero, List.take_succ_cons, List.take_zero]
  rw [show IntKind.i64.wrap ((a : Int) + 1) = ((a + 1 : Nat) : Int) by rw [IntWalk.i64_in _ (by omega)]; omega]
  refine Lp_ind (fun m fr hh => ∃ (i : Nat) (d' : Array Int), fr = [(0, V b n), (1, .int .i64 a), (2, .int .i64 e), (6, .int .i64 i)] ∧ a + 1 ≤ i ∧ d'.size = n ∧ hh = W h b d' ∧ Sort.insOuter ltInt a e i d' = Sort.insertionSort ltInt d a e ∧ m = e - i) (F61.m1 n0) (e - (a + 1))
    ⟨a + 1, d, by simp (disch := first | omega | assumption | exact isC_last | exact isC_app (by first | assumption | exact isC_last | exact isC_app (by first | assumption | exact isC_last)) | (simp [oneC]; done) | fail) only [evs0, evs1, evs2, evs3, evs4, evs5, evs6, evs7, evs8, if_true, if_false, ↓reduceIte, Nat.reduceEqDiff, Nat.reduceAdd, Nat.reduceMul, Nat.reduceSub, Nat.reduceLeDiff, Int.reduceLT, Int.reduceLE, Int.reduceEq, Bool.false_eq_true, Option.bind_some, Option.map_some, List.set_cons_zero, List.set_cons_succ, List.toList_toArray, List.size_toArray, List.length_cons, List.length_nil, List.getElem?_toArray, List.getElem?_cons_zero, List.getElem?_cons_succ, List.drop_zero, List.take_succ_cons, List.take_zero], by omega, hn, rfl, rfl, rfl⟩ ?_
  rintro m fr hh ⟨i, d', rfl, hi, hs, rfl, E, rfl⟩
  rw [F61.e1]
  simp (disch := first | omega | assumption | exact isC_last | exact isC_app (by first | assumption | exact isC_last | exact isC_app (by first | assumption | exact isC_last)) | (simp [oneC]; done) | fail) only [F61.t1, evs0, evs1, evs2, evs3, evs4, evs5, evs6, evs7, evs8, if_true, if_false, ↓reduceIte, Nat.reduceEqDiff, Nat.reduceAdd, Nat.reduceMul, Nat.reduceSub, Nat.reduceLeDiff, Int.reduceLT, Int.reduceLE, Int.reduceEq, Bool.false_eq_true, Option.bind_some, Option.map_some, List.set_cons_zero, List.set_cons_succ, List.toList_toArray, List.size_toArray, List.length_cons, List.length_nil, List.getElem?_toArray, List.getElem?_cons_zero, List.getElem?_cons_succ, List.drop_zero, List.take_succ_cons, List.take_zero]
  unfold Sort.insOuter at E
  by_cases h5 : i < e
  · rw [if_pos (by omega), F61.e2]
    rw [if_pos h5] at E
    simp (disch := first | omega | assumption | exact isC_last | exact isC_app (by first | assumption | exact isC_last | exact isC_app (by first | assumption | exact isC_last)) | (simp [oneC]; done) | fail) only [F61.t2, evs0, evs1, evs2, evs3, evs4, evs5, evs6, evs7, evs8, if_true, if_false, ↓reduceIte, Nat.reduceEqDiff, Nat.reduceAdd, Nat.reduceMul, Nat.reduceSub, Nat.reduceLeDiff, Int.reduceLT, Int.reduceLE, Int.reduceEq, Bool.false_eq_true, Option.bind_some, Option.map_some, List.set_cons_zero, List.set_cons_succ, List.toList_toArray, List.size_toArray, List.length_cons, List.length_nil, List.getElem?_toArray, List.getElem?_cons_zero, List.getElem?_cons_succ, List.drop_zero, List.take_succ_cons, List.take_zero]
    refine Lp_ind (fun m fr hh => ∃ (j : Nat) (d2 : Array Int), fr = [(0, V b n), (1, .int .i64 a), (2, .int .i64 e), (6, .int .i64 i), (7, .int .i64 j)] ∧ a ≤ j ∧ j ≤ i ∧ d2.size = n ∧ hh = W h b d2 ∧ Sort.insInner ltInt a j d2 = Sort.insInner ltInt a i d' ∧ m = j) (F61.m3 n0) i
      ⟨i, d', by simp (disch := first | omega | assumption | exact isC_last | exact isC_app (by first | assumption | exact isC_last | exact isC_app (by first | assumption | exact isC_last)) | (simp [oneC]; done) | fail) only [evs0, evs1, evs2, evs3, evs4, evs5, evs6, evs7, evs8, if_true, if_false, ↓reduceIte, Nat.reduceEqDiff, Nat.reduceAdd, Nat.reduceMul, Nat.reduceSub, Nat.reduceLeDiff, Int.reduceLT, Int.reduceLE, Int.reduceEq, Bool.false_eq_true, Option.bind_some, Option.map_some, List.set_cons_zero, List.set_cons_succ, List.toList_toArray, List.size_toArray, List.length_cons, List.length_nil, List.getElem?_toArray, List.getElem?_cons_zero, List.getElem?_cons_succ, List.drop_zero, List.take_succ_cons, List.take_zero], by omega, by omega, hs, rfl, rfl, rfl⟩ ?_
    rintro j fr hh ⟨j', d2, rfl, hj, hj2, hs2, rfl, E2, em⟩
    subst em
    rw [F61.e3]
    have next : d2 = Sort.insInner ltInt a i d' → F61.p6 n0 [(0, V b n), (1, .int .i64 a), (2, .int .i64 e), (6, .int .i64 i)] [] (W h b d2) (KLp [0, 1, 2, 6] (fun fr hh => ∃ m', m' < e - i ∧ ∃ (i : Nat) (d' : Array Int), fr = [(0, V b n), (1, .int .i64 a), (2, .int .i64 e), (6, .int .i64 i)] ∧ a + 1 ≤ i ∧ d'.size = n ∧ hh = W h b d' ∧ Sort.insOuter ltInt a e i d' = Sort.insertionSort ltInt d a e ∧ m' = e - i) [] (KBlk [] 0 (KFin Try.prog [] HP))) := by
      intro ed
      rw [F61.e6]
      simp (disch := first | omega | assumption | exact isC_last | exact isC_app (by first | assumption | exact isC_last | exact isC_app (by first | assumption | exact isC_last)) | (simp [oneC]; done) | fail) only [F61.t6, evs0, evs1, evs2, evs3, evs4, evs5, evs6, evs7, evs8, if_true, if_false, ↓reduceIte, Nat.reduceEqDiff, Nat.reduceAdd, Nat.reduceMul, Nat.reduceSub, Nat.reduceLeDiff, Int.reduceLT, Int.reduceLE, Int.reduceEq, Bool.false_eq_true, Option.bind_some, Option.map_some, List.set_cons_zero, List.set_cons_succ, List.toList_toArray, List.size_toArray, List.length_cons, List.length_nil, List.getElem?_toArray, List.getElem?_cons_zero, List.getElem?_cons_succ, List.drop_zero, List.take_succ_cons, List.take_zero]
      rw [show IntKind.i64.wrap ((i : Int) + 1) = ((i + 1 : Nat) : Int) by rw [IntWalk.i64_in _ (by omega)]; omega]
      exact ⟨by trivial, e - (i + 1), by omega, i + 1, d2, rfl, by omega, hs2, rfl, by rw [ed]; exact E, rfl⟩
    by_cases h6 : j > a
    · obtain ⟨k, rfl⟩ : ∃ k, j = k + 1 := ⟨j - 1, by omega⟩
      have ek : IntKind.i64.wrap (((k + 1 : Nat) : Int) - 1) = (k : Int) := by rw [IntWalk.i64_in _ (by omega)]; omega
      simp (disch := first | omega | assumption | exact isC_last | exact isC_app (by first | assumption | exact isC_last | exact isC_app (by first | assumption | exact isC_last)) | (simp [oneC]; done) | fail) only [F61.t3, ek, ixW, rdW, evs0, evs1, evs2, evs3, evs4, evs5, evs6, evs7, evs8, if_true, if_false, ↓reduceIte, Nat.reduceEqDiff, Nat.reduceAdd, Nat.reduceMul, Nat.reduceSub, Nat.reduceLeDiff, Int.reduceLT, Int.reduceLE, Int.reduceEq, Bool.false_eq_true, Option.bind_some, Option.map_some, List.set_cons_zero, List.set_cons_succ, List.toList_toArray, List.size_toArray, List.length_cons, List.length_nil, List.getElem?_toArray, List.getElem?_cons_zero, List.getElem?_cons_succ, List.drop_zero, List.take_succ_cons, List.take_zero]
      rw [if_pos (by omega)]
      refine lessQ.mono ?_
      rintro _ hx ⟨rfl, ex⟩; subst hx
      rw [insInner_succ] at E2
      cases hl : ltInt d2[k + 1]! d2[k]! with
      | false =>
        rw [hl] at E2
        simp only [Bool.and_false, Bool.false_eq_true, if_false] at E2
        simp (disch := first | omega | assumption | exact isC_last | exact isC_app (by first | assumption | exact isC_last | exact isC_app (by first | assumption | exact isC_last)) | (simp [oneC]; done) | fail) only [evs0, evs1, evs2, evs3, evs4, evs5, evs6, evs7, evs8, if_true, if_false, ↓reduceIte, Nat.reduceEqDiff, Nat.reduceAdd, Nat.reduceMul, Nat.reduceSub, Nat.reduceLeDiff, Int.reduceLT, Int.reduceLE, Int.reduceEq, Bool.false_eq_true, Option.bind_some, Option.map_some, List.set_cons_zero, List.set_cons_succ, List.toList_toArray, List.size_toArray, List.length_cons, List.length_nil, List.getElem?_toArray, List.getElem?_cons_zero, List.getElem?_cons_succ, List.drop_zero, List.take_succ_cons, List.take_zero]
        exact next E2
      | true =>
        rw [hl, if_pos (by simp only [Bool.and_true, decide_eq_true_eq]; omega)] at E2
        simp (disch := first | omega | assumption | exact isC_last | exact isC_app (by first | assumption | exact isC_last | exact isC_app (by first | assumption | exact isC_last)) | (simp [oneC]; done) | fail) only [evs0, evs1, evs2, evs3, evs4, evs5, evs6, evs7, evs8, if_true, if_false, ↓reduceIte, Nat.reduceEqDiff, Nat.reduceAdd, Nat.reduceMul, Nat.reduceSub, Nat.reduceLeDiff, Int.reduceLT, Int.reduceLE, Int.reduceEq, Bool.false_eq_true, Option.bind_some, Option.map_some, List.set_cons_zero, List.set_cons_succ, List.toList_toArray, List.size_toArray, List.length_cons, List.length_nil, List.getElem?_toArray, List.getElem?_cons_zero, List.getElem?_cons_succ, List.drop_zero, List.take_succ_cons, List.take_zero]
        rw [F61.e4]
        simp (disch := first | omega | assumption | exact isC_last | exact isC_app (by first | assumption | exact isC_last | exact isC_app (by first | assumption | exact isC_last)) | (simp [oneC]; done) | fail) only [F61.t4, ek, ixW, rdW, wrW, wrW2, swp_def, evs0, evs1, evs2, evs3, evs4, evs5, evs6, evs7, evs8, if_true, if_false, ↓reduceIte, Nat.reduceEqDiff, Nat.reduceAdd, Nat.reduceMul, Nat.reduceSub, Nat.reduceLeDiff, Int.reduceLT, Int.reduceLE, Int.reduceEq, Bool.false_eq_true, Option.bind_some, Option.map_some, List.set_cons_zero, List.set_cons_succ, List.toList_toArray, List.size_toArray, List.length_cons, List.length_nil, List.getElem?_toArray, List.getElem?_cons_zero, List.getElem?_cons_succ, List.drop_zero, List.take_succ_cons, List.take_zero]
        rw [F61.e5]
        simp (disch := first | omega | assumption | exact isC_last | exact isC_app (by first | assumption | exact isC_last | exact isC_app (by first | assumption | exact isC_last)) | (simp [oneC]; done) | fail) only [F61.t5, ek, evs0, evs1, evs2, evs3, evs4, evs5, evs6, evs7, evs8, if_true, if_false, ↓reduceIte, Nat.reduceEqDiff, Nat.reduceAdd, Nat.reduceMul, Nat.reduceSub, Nat.reduceLeDiff, Int.reduceLT, Int.reduceLE, Int.reduceEq, Bool.false_eq_true, Option.bind_some, Option.map_some, List.set_cons_zero, List.set_cons_succ, List.toList_toArray, List.size_toArray, List.length_cons, List.length_nil, List.getElem?_toArray, List.getElem?_cons_zero, List.getElem?_cons_succ, List.drop_zero, List.take_succ_cons, List.take_zero]
        exact ⟨by trivial, k, by omega, k, _, rfl, by omega, by omega, by rw [swp_size]; exact hs2, rfl, E2, rfl⟩
    · obtain rfl : j = a := by omega
      simp (disch := first | omega | assumption | exact isC_last | exact isC_app (by first | assumption | exact isC_last | exact isC_app (by first | assumption | exact isC_last)) | (simp [oneC]; done) | fail) only [F61.t3, evs0, evs1, evs2, evs3, evs4, evs5, evs6, evs7, evs8, if_true, if_false, ↓reduceIte, Nat.reduceEqDiff, Nat.reduceAdd, Nat.reduceMul, Nat.reduceSub, Nat.reduceLeDiff, Int.reduceLT, Int.reduceLE, Int.reduceEq, Bool.false_eq_true, Option.bind_some, Option.map_some, List.set_cons_zero, List.set_cons_succ, List.toList_toArray, List.size_toArray, List.length_cons, List.length_nil, List.getElem?_toArray, List.getElem?_cons_zero, List.getElem?_cons_succ, List.drop_zero, List.take_succ_cons, List.take_zero]
      rw [if_neg (by omega)]
      refine next ?_
      rw [← E2]
      cases j with
      | zero => rfl
      | succ j => rw [insInner_succ, if_neg (by simp)]
  · rw [if_neg (by omega)]
    rw [if_neg h5] at E
    rw [← hHP, E]
end Go.Proofs.Ytjdcdabbbmhffaa
