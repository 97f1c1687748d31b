/- The writer that is not there: what its methods answer; how many octets a number wants. No condition. -/
import Derived.Test.YtknpmldldlbniaaEvRow
import Derived.Test.YtknpmldldlbniaaWorks
import Derived.Test.YtknpmldldlbniaaFb
import Derived.Test.YtknpmldldlbniaaEvs
set_option linter.unusedVariables false
set_option linter.unusedSimpArgs false
namespace Go.Proofs.Ytknpmldldlbniaa
open Go.Ev
def tagV (c n : Int) : Int := iOr .u8 (iShl .u8 (IntKind.u8.wrap c) 6) (IntKind.u8.wrap (iAnd .i64 n 31))
def tagOk (c n : Int) : Bool := decide (0 ≤ c) && decide (c ≤ 3) && decide (0 ≤ n) && decide (n < 31)
set_option maxRecDepth 20000 in
theorem Tagged_ok {n0 : Nat} {h : H} {c n : Int} : Cn Try.prog n0 (.func 56) [.int .i8 c, .int .i64 n] h (fun v h' => h' = h ∧ v = .tuple #[.int .u8 (tagV c n), .bool (tagOk c n)]) := by
  refine F56.enter ?_
  obtain ⟨HP, hHP⟩ : ∃ HP : Value → H → Prop, (fun v h' => h' = h ∧ v = .tuple #[.int .u8 (tagV c n), .bool (tagOk c n)]) = HP := ⟨_, rfl⟩
  rw [hHP, F56.e0]
  simp (disch := first | omega | assumption | exact isC_last | exact isC_app (by first | assumption | exact isC_last | exact isC_app (by first | assumption | exact isC_last)) | (simp [oneC]; done) | fail) only [F56.t0, bShl, evs0, evs1, evs2, evs3, evs4, evs5, evs6, evs7, evs8, evs9, evs10, evs11, evs12, evs13, if_true, if_false, ↓reduceIte, Nat.reduceEqDiff, Nat.reduceAdd, Nat.reduceMul, Nat.reduceSub, Nat.reduceLeDiff, Int.reduceLT, Int.reduceLE, Int.reduceEq, Bool.false_eq_true, Option.bind_some, Option.map_some, List.set_cons_zero, List.set_cons_succ, List.toList_toArray, List.size_toArray, List.length_cons, List.length_nil, List.getElem?_toArray, List.getElem?_cons_zero, List.getElem?_cons_succ, List.drop_zero, List.take_succ_cons, List.take_zero]
  have fin : ∀ b, b = tagOk c n → HP (.tuple #[.int .u8 (tagV c n), .bool b]) h := by intro b hb; subst hb; rw [← hHP]; exact ⟨rfl, rfl⟩
  unfold tagV at fin
  split
  · split
    · split
      · exact fin _ (by unfold tagOk; simp [*])
      · exact fin _ (by unfold tagOk; simp [*])
    · exact fin _ (by unfold tagOk; simp [*])
  · exact fin _ (by unfold tagOk; simp [*])
def nilPost (h : H) : Value → H → Prop := fun v h' => v = .int .i64 1 ∧ h' = h
set_option maxRecDepth 20000 in
theorem Put_nil {n0 : Nat} {h : H} {c n : Int} {size b : Value} : Cn Try.prog n0 (.func 43) [.pointer none, .int .i8 c, .int .i64 n, size, b] h (nilPost h) := by
  refine F43.enter ?_
  generalize hHP : nilPost h = HP
  rw [F43.e0, F43.t0]
  refine Tagged_ok.mono ?_
  rintro v h1 ⟨rfl, rfl⟩
  simp (disch := first | omega | assumption | exact isC_last | exact isC_app (by first | assumption | exact isC_last | exact isC_app (by first | assumption | exact isC_last)) | (simp [oneC]; done) | fail) only [evs0, evs1, evs2, evs3, evs4, evs5, evs6, evs7, evs8, evs9, evs10, evs11, evs12, evs13, if_true, if_false, ↓reduceIte, Nat.reduceEqDiff, Nat.reduceAdd, Nat.reduceMul, Nat.reduceSub, Nat.reduceLeDiff, Int.reduceLT, Int.reduceLE, Int.reduceEq, Bool.false_eq_true, Option.bind_some, Option.map_some, List.set_cons_zero, List.set_cons_succ, List.toList_toArray, List.size_toArray, List.length_cons, List.length_nil, List.getElem?_toArray, List.getElem?_cons_zero, List.getElem?_cons_succ, List.drop_zero, List.take_succ_cons, List.take_zero]
  rw [F43.e1]
  simp (disch := first | omega | assumption | exact isC_last | exact isC_app (by first | assumption | exact isC_last | exact isC_app (by first | assumption | exact isC_last)) | (simp [oneC]; done) | fail) only [F43.t1, evs0, evs1, evs2, evs3, evs4, evs5, evs6, evs7, evs8, evs9, evs10, evs11, evs12, evs13, if_true, if_false, ↓reduceIte, Nat.reduceEqDiff, Nat.reduceAdd, Nat.reduceMul, Nat.reduceSub, Nat.reduceLeDiff, Int.reduceLT, Int.reduceLE, Int.reduceEq, Bool.false_eq_true, Option.bind_some, Option.map_some, List.set_cons_zero, List.set_cons_succ, List.toList_toArray, List.size_toArray, List.length_cons, List.length_nil, List.getElem?_toArray, List.getElem?_cons_zero, List.getElem?_cons_succ, List.drop_zero, List.take_succ_cons, List.take_zero]
  rw [← hHP]; exact ⟨rfl, rfl⟩
set_option maxRecDepth 20000 in
theorem Open_nil {n0 : Nat} {h : H} {c n : Int} : Cn Try.prog n0 (.func 40) [.pointer none, .int .i8 c, .int .i64 n] h (nilPost h) := by
  refine F40.enter ?_
  generalize hHP : nilPost h = HP
  rw [F40.e0, F40.t0]
  refine Tagged_ok.mono ?_
  rintro v h1 ⟨rfl, rfl⟩
  simp (disch := first | omega | assumption | exact isC_last | exact isC_app (by first | assumption | exact isC_last | exact isC_app (by first | assumption | exact isC_last)) | (simp [oneC]; done) | fail) only [evs0, evs1, evs2, evs3, evs4, evs5, evs6, evs7, evs8, evs9, evs10, evs11, evs12, evs13, if_true, if_false, ↓reduceIte, Nat.reduceEqDiff, Nat.reduceAdd, Nat.reduceMul, Nat.reduceSub, Nat.reduceLeDiff, Int.reduceLT, Int.reduceLE, Int.reduceEq, Bool.false_eq_true, Option.bind_some, Option.map_some, List.set_cons_zero, List.set_cons_succ, List.toList_toArray, List.size_toArray, List.length_cons, List.length_nil, List.getElem?_toArray, List.getElem?_cons_zero, List.getElem?_cons_succ, List.drop_zero, List.take_succ_cons, List.take_zero]
  rw [F40.e1]
  simp (disch := first | omega | assumption | exact isC_last | exact isC_app (by first | assumption | exact isC_last | exact isC_app (by first | assumption | exact isC_last)) | (simp [oneC]; done) | fail) only [F40.t1, evs0, evs1, evs2, evs3, evs4, evs5, evs6, evs7, evs8, evs9, evs10, evs11, evs12, evs13, if_true, if_false, ↓reduceIte, Nat.reduceEqDiff, Nat.reduceAdd, Nat.reduceMul, Nat.reduceSub, Nat.reduceLeDiff, Int.reduceLT, Int.reduceLE, Int.reduceEq, Bool.false_eq_true, Option.bind_some, Option.map_some, List.set_cons_zero, List.set_cons_succ, List.toList_toArray, List.size_toArray, List.length_cons, List.length_nil, List.getElem?_toArray, List.getElem?_cons_zero, List.getElem?_cons_succ, List.drop_zero, List.take_succ_cons, List.take_zero]
  rw [← hHP]; exact ⟨rfl, rfl⟩
set_option maxRecDepth 20000 in
theorem Close_nil {n0 : Nat} {h : H} : Cn Try.prog n0 (.func 42) [.pointer none] h (nilPost h) := by
  refine F42.enter ?_
  generalize hHP : nilPost h = HP
  rw [F42.e0]
  simp (disch := first | omega | assumption | exact isC_last | exact isC_app (by first | assumption | exact isC_last | exact isC_app (by first | assumption | exact isC_last)) | (simp [oneC]; done) | fail) only [F42.t0, evs0, evs1, evs2, evs3, evs4, evs5, evs6, evs7, evs8, evs9, evs10, evs11, evs12, evs13, if_true, if_false, ↓reduceIte, Nat.reduceEqDiff, Nat.reduceAdd, Nat.reduceMul, Nat.reduceSub, Nat.reduceLeDiff, Int.reduceLT, Int.reduceLE, Int.reduceEq, Bool.false_eq_true, Option.bind_some, Option.map_some, List.set_cons_zero, List.set_cons_succ, List.toList_toArray, List.size_toArray, List.length_cons, List.length_nil, List.getElem?_toArray, List.getElem?_cons_zero, List.getElem?_cons_succ, List.drop_zero, List.take_succ_cons, List.take_zero]
  rw [F42.e1]
  simp (disch := first | omega | assumption | exact isC_last | exact isC_app (by first | assumption | exact isC_last | exact isC_app (by first | assumption | exact isC_last)) | (simp [oneC]; done) | fail) only [F42.t1, evs0, evs1, evs2, evs3, evs4, evs5, evs6, evs7, evs8, evs9, evs10, evs11, evs12, evs13, if_true, if_false, ↓reduceIte, Nat.reduceEqDiff, Nat.reduceAdd, Nat.reduceMul, Nat.reduceSub, Nat.reduceLeDiff, Int.reduceLT, Int.reduceLE, Int.reduceEq, Bool.false_eq_true, Option.bind_some, Option.map_some, List.set_cons_zero, List.set_cons_succ, List.toList_toArray, List.size_toArray, List.length_cons, List.length_nil, List.getElem?_toArray, List.getElem?_cons_zero, List.getElem?_cons_succ, List.drop_zero, List.take_succ_cons, List.take_zero]
  rw [← hHP]; exact ⟨rfl, rfl⟩
def nilAdd (h : H) : Value → H → Prop := fun v h' => v = .int .i64 1 ∧ ∃ t, h' = h ++ t
set_option maxRecDepth 20000 in
theorem Flag_nil {n0 : Nat} {h : H} {c n : Int} {b : Bool} : Cn Try.prog n0 (.func 46) [.pointer none, .int .i8 c, .int .i64 n, .bool b] h (nilAdd h) := by
  refine F46.enter ?_
  generalize hHP : nilAdd h = HP
  rw [F46.e0]
  simp (disch := first | omega | assumption | exact isC_last | exact isC_app (by first | assumption | exact isC_last | exact isC_app (by first | assumption | exact isC_last)) | (simp [oneC]; done) | fail) only [F46.t0, evs0, evs1, evs2, evs3, evs4, evs5, evs6, evs7, evs8, evs9, evs10, evs11, evs12, evs13, if_true, if_false, ↓reduceIte, Nat.reduceEqDiff, Nat.reduceAdd, Nat.reduceMul, Nat.reduceSub, Nat.reduceLeDiff, Int.reduceLT, Int.reduceLE, Int.reduceEq, Bool.false_eq_true, Option.bind_some, Option.map_some, List.set_cons_zero, List.set_cons_succ, List.toList_toArray, List.size_toArray, List.length_cons, List.length_nil, List.getElem?_toArray, List.getElem?_cons_zero, List.getElem?_cons_succ, List.drop_zero, List.take_succ_cons, List.take_zero]
  refine Put_nil.mono ?_
  rintro v h1 ⟨rfl, rfl⟩
  rw [← hHP]; exact ⟨rfl, _, rfl⟩
set_option maxRecDepth 20000 in
theorem Text_nil {n0 : Nat} {h : H} {c n : Int} {s : ByteArray} : Cn Try.prog n0 (.func 41) [.pointer none, .int .i8 c, .int .i64 n, .string s] h (nilAdd h) := by
  refine F41.enter ?_
  generalize hHP : nilAdd h = HP
  rw [F41.e0]
  simp (disch := first | omega | assumption | exact isC_last | exact isC_app (by first | assumption | exact isC_last | exact isC_app (by first | assumption | exact isC_last)) | (simp [oneC]; done) | fail) only [F41.t0, clL, evs0, evs1, evs2, evs3, evs4, evs5, evs6, evs7, evs8, evs9, evs10, evs11, evs12, evs13, if_true, if_false, ↓reduceIte, Nat.reduceEqDiff, Nat.reduceAdd, Nat.reduceMul, Nat.reduceSub, Nat.reduceLeDiff, Int.reduceLT, Int.reduceLE, Int.reduceEq, Bool.false_eq_true, Option.bind_some, Option.map_some, List.set_cons_zero, List.set_cons_succ, List.toList_toArray, List.size_toArray, List.length_cons, List.length_nil, List.getElem?_toArray, List.getElem?_cons_zero, List.getElem?_cons_succ, List.drop_zero, List.take_succ_cons, List.take_zero]
  refine Put_nil.mono ?_
  rintro v h1 ⟨rfl, rfl⟩
  rw [← hHP]; exact ⟨rfl, _, rfl⟩
set_option maxRecDepth 20000 in
theorem Bytes_nil {n0 : Nat} {h : H} : Cn Try.prog n0 (.func 19) [.pointer none] h (fun v h' => v = .tuple #[.slice none 0 0, .int .i64 1] ∧ h' = h) := by
  refine F19.enter ?_
  obtain ⟨HP, hHP⟩ : ∃ HP : Value → H → Prop, (fun v h' => v = .tuple #[.slice none 0 0, .int .i64 1] ∧ h' = h) = HP := ⟨_, rfl⟩
  rw [hHP, F19.e0]
  simp (disch := first | omega | assumption | exact isC_last | exact isC_app (by first | assumption | exact isC_last | exact isC_app (by first | assumption | exact isC_last)) | (simp [oneC]; done) | fail) only [F19.t0, evs0, evs1, evs2, evs3, evs4, evs5, evs6, evs7, evs8, evs9, evs10, evs11, evs12, evs13, if_true, if_false, ↓reduceIte, Nat.reduceEqDiff, Nat.reduceAdd, Nat.reduceMul, Nat.reduceSub, Nat.reduceLeDiff, Int.reduceLT, Int.reduceLE, Int.reduceEq, Bool.false_eq_true, Option.bind_some, Option.map_some, List.set_cons_zero, List.set_cons_succ, List.toList_toArray, List.size_toArray, List.length_cons, List.length_nil, List.getElem?_toArray, List.getElem?_cons_zero, List.getElem?_cons_succ, List.drop_zero, List.take_succ_cons, List.take_zero]
  rw [F19.e1]
  simp (disch := first | omega | assumption | exact isC_last | exact isC_app (by first | assumption | exact isC_last | exact isC_app (by first | assumption | exact isC_last)) | (simp [oneC]; done) | fail) only [F19.t1, evs0, evs1, evs2, evs3, evs4, evs5, evs6, evs7, evs8, evs9, evs10, evs11, evs12, evs13, if_true, if_false, ↓reduceIte, Nat.reduceEqDiff, Nat.reduceAdd, Nat.reduceMul, Nat.reduceSub, Nat.reduceLeDiff, Int.reduceLT, Int.reduceLE, Int.reduceEq, Bool.false_eq_true, Option.bind_some, Option.map_some, List.set_cons_zero, List.set_cons_succ, List.toList_toArray, List.size_toArray, List.length_cons, List.length_nil, List.getElem?_toArray, List.getElem?_cons_zero, List.getElem?_cons_succ, List.drop_zero, List.take_succ_cons, List.take_zero]
  rw [← hHP]; exact ⟨rfl, rfl⟩
/-- so many octets are enough -/
def fitsB (v : Int) (k : Nat) : Prop := -(2 ^ (8 * k - 1) : Int) ≤ v ∧ v < 2 ^ (8 * k - 1)
theorem shr_fits {v : Int} {k : Nat} (hk : 1 ≤ k) (hk8 : k ≤ 8) : (iShr .i64 v ((8 * k - 1 : Nat) : Int) = 0 ∨ iShr .i64 v ((8 * k - 1 : Nat) : Int) = -1) ↔ fitsB v k := by
  unfold iShr fitsB
  have e : min (((8 * k - 1 : Nat) : Int)).toNat IntKind.i64.bits = 8 * k - 1 := by rw [Int.toNat_natCast]; show min (8 * k - 1) 64 = _; omega
  rw [e]
  obtain ⟨p, hp⟩ : ∃ p : Int, (2 : Int) ^ (8 * k - 1) = p := ⟨_, rfl⟩
  have hpos : 0 < p := by rw [← hp]; exact Int.pow_pos (by omega)
  rw [hp, Int.fdiv_eq_ediv_of_nonneg _ (by omega)]
  have h1 := Int.mul_ediv_add_emod v p
  have h2 := Int.emod_nonneg v (show p ≠ 0 by omega)
  have h3 := Int.emod_lt_of_pos v hpos
  generalize v / p = q at *
  constructor
  · rintro (rfl | rfl)
    · simp at h1; omega
    · simp at h1; omega
  · rintro ⟨h4, h5⟩
    have hq1 : q < 1 := by
      apply Int.lt_of_not_ge
      intro hq
      have := Int.mul_le_mul_of_nonneg_left hq (show 0 ≤ p by omega)
      simp at this
      omega
    have hq2 : -2 < q := by
      apply Int.lt_of_not_ge
      intro hq
      have := Int.mul_le_mul_of_nonneg_left hq (show 0 ≤ p by omega)
      omega
    omega
set_option maxRecDepth 20000 in
theorem Int_loop {n0 : Nat} {h : H} {w c n : Value} {v : Int} {K : KP} (hv : -2 ^ 63 ≤ v) (hv2 : v < 2 ^ 63)
    (k : ∀ k : Nat, 1 ≤ k → k ≤ 8 → fitsB v k → (∀ j, 1 ≤ j → j < k → ¬ fitsB v j) → F18.p3 n0 [(0, w), (1, c), (2, n), (7, .pointer (some ⟨h.length, 0, none⟩)), (9, .pointer (some ⟨(h ++ [Ob.cells true (enc 0 2) [.int .i64 v]]).length, 0, none⟩))] []
      (h ++ [.cells true (enc 0 2) [.int .i64 v]] ++ [.cells true (enc 0 3) [.int .i64 k]]) K) : F18.p0 n0 [(0, w), (1, c), (2, n), (3, .int .i64 v)] [] h K := by
  rw [F18.e0]
  simp (disch := first | omega | assumption | exact isC_last | exact isC_app (by first | assumption | exact isC_last | exact isC_app (by first | assumption | exact isC_last)) | (simp [oneC]; done) | fail) only [F18.t0, clL, evs0, evs1, evs2, evs3, evs4, evs5, evs6, evs7, evs8, evs9, evs10, evs11, evs12, evs13, if_true, if_false, ↓reduceIte, Nat.reduceEqDiff, Nat.reduceAdd, Nat.reduceMul, Nat.reduceSub, Nat.reduceLeDiff, Int.reduceLT, Int.reduceLE, Int.reduceEq, Bool.false_eq_true, Option.bind_some, Option.map_some, List.set_cons_zero, List.set_cons_succ, List.toList_toArray, List.size_toArray, List.length_cons, List.length_nil, List.getElem?_toArray, List.getElem?_cons_zero, List.getElem?_cons_succ, List.drop_zero, List.take_succ_cons, List.take_zero]
  refine Lp_ind (fun m fr hh => ∃ k : Nat, fr = [(0, w), (1, c), (2, n), (7, .pointer (some ⟨h.length, 0, none⟩)), (9, .pointer (some ⟨(h ++ [Ob.cells true (enc 0 2) [.int .i64 v]]).length, 0, none⟩))] ∧
    hh = h ++ [.cells true (enc 0 2) [.int .i64 v]] ++ [.cells true (enc 0 3) [.int .i64 k]] ∧ 1 ≤ k ∧ k ≤ 8 ∧ (∀ j, 1 ≤ j → j < k → ¬ fitsB v j) ∧ m = 8 - k) (F18.m1 n0) 7 ⟨1, ?_, rfl, by omega, by omega, by omega, rfl⟩ ?_
  · simp (disch := first | omega | assumption | exact isC_last | exact isC_app (by first | assumption | exact isC_last | exact isC_app (by first | assumption | exact isC_last)) | (simp [oneC]; done) | fail) only [evs0, evs1, evs2, evs3, evs4, evs5, evs6, evs7, evs8, evs9, evs10, evs11, evs12, evs13, if_true, if_false, ↓reduceIte, Nat.reduceEqDiff, Nat.reduceAdd, Nat.reduceMul, Nat.reduceSub, Nat.reduceLeDiff, Int.reduceLT, Int.reduceLE, Int.reduceEq, Bool.false_eq_true, Option.bind_some, Option.map_some, List.set_cons_zero, List.set_cons_succ, List.toList_toArray, List.size_toArray, List.length_cons, List.length_nil, List.getElem?_toArray, List.getElem?_cons_zero, List.getElem?_cons_succ, List.drop_zero, List.take_succ_cons, List.take_zero]
  rintro m fr hh ⟨i, rfl, rfl, hi, hi8, hno, rfl⟩
  have hs := shr_fits (v := v) hi hi8
  have e1 : IntKind.i64.wrap (8 * (i : Int)) = 8 * i := IntWalk.i64_in _ (by omega)
  have e2 : IntKind.i64.wrap (8 * (i : Int) - 1) = ((8 * i - 1 : Nat) : Int) := by rw [IntWalk.i64_in _ (by omega)]; omega
  rw [F18.e1]
  simp (disch := first | omega | assumption | exact isC_last | exact isC_app (by first | assumption | exact isC_last | exact isC_app (by first | assumption | exact isC_last)) | (simp [oneC]; done) | fail) only [F18.t1, bShr, e1, e2, evs0, evs1, evs2, evs3, evs4, evs5, evs6, evs7, evs8, evs9, evs10, evs11, evs12, evs13, if_true, if_false, ↓reduceIte, Nat.reduceEqDiff, Nat.reduceAdd, Nat.reduceMul, Nat.reduceSub, Nat.reduceLeDiff, Int.reduceLT, Int.reduceLE, Int.reduceEq, Bool.false_eq_true, Option.bind_some, Option.map_some, List.set_cons_zero, List.set_cons_succ, List.toList_toArray, List.size_toArray, List.length_cons, List.length_nil, List.getElem?_toArray, List.getElem?_cons_zero, List.getElem?_cons_succ, List.drop_zero, List.take_succ_cons, List.take_zero]
  have stop : fitsB v i → F18.p3 n0 [(0, w), (1, c), (2, n), (7, .pointer (some ⟨h.length, 0, none⟩)), (9, .pointer (some ⟨(h ++ [Ob.cells true (enc 0 2) [.int .i64 v]]).length, 0, none⟩))] []
      (h ++ [.cells true (enc 0 2) [.int .i64 v]] ++ [.cells true (enc 0 3) [.int .i64 i]]) K := fun hf => k i hi hi8 hf hno
  split
  · rename_i h0
    exact stop (hs.1 (.inl h0))
  · rename_i h0
    split
    · rename_i h1
      exact stop (hs.1 (.inr h1))
    · rename_i h1
      have hnf : ¬ fitsB v i := fun hf => by rcases hs.2 hf with x | x <;> contradiction
      have hi7 : i < 8 := by
        apply Nat.lt_of_le_of_ne hi8
        intro e
        subst e
        exact hnf ⟨hv, hv2⟩
      rw [F18.e2]
      simp (disch := first | omega | assumption | exact isC_last | exact isC_app (by first | assumption | exact isC_last | exact isC_app (by first | assumption | exact isC_last)) | (simp [oneC]; done) | fail) only [F18.t2, IntWalk.i64_in, evs0, evs1, evs2, evs3, evs4, evs5, evs6, evs7, evs8, evs9, evs10, evs11, evs12, evs13, if_true, if_false, ↓reduceIte, Nat.reduceEqDiff, Nat.reduceAdd, Nat.reduceMul, Nat.reduceSub, Nat.reduceLeDiff, Int.reduceLT, Int.reduceLE, Int.reduceEq, Bool.false_eq_true, Option.bind_some, Option.map_some, List.set_cons_zero, List.set_cons_succ, List.toList_toArray, List.size_toArray, List.length_cons, List.length_nil, List.getElem?_toArray, List.getElem?_cons_zero, List.getElem?_cons_succ, List.drop_zero, List.take_succ_cons, List.take_zero]
      refine ⟨?_, 8 - (i + 1), by omega, i + 1, ?_, ?_, by omega, by omega, ?_, rfl⟩
      · trivial
      · trivial
      · rfl
      · intro j hj hj2
        by_cases e : j = i
        · subst e; exact hnf
        · exact hno j hj (by omega)
set_option maxRecDepth 20000 in
theorem Int_nil {n0 : Nat} {h : H} {c n v : Int} (hv : -2 ^ 63 ≤ v) (hv2 : v < 2 ^ 63) : Cn Try.prog n0 (.func 18) [.pointer none, .int .i8 c, .int .i64 n, .int .i64 v] h (nilAdd h) := by
  refine F18.enter (Int_loop hv hv2 ?_)
  intro k _ _ _ _
  rw [F18.e3]
  simp (disch := first | omega | assumption | exact isC_last | exact isC_app (by first | assumption | exact isC_last | exact isC_app (by first | assumption | exact isC_last)) | (simp [oneC]; done) | fail) only [F18.t3, evs0, evs1, evs2, evs3, evs4, evs5, evs6, evs7, evs8, evs9, evs10, evs11, evs12, evs13, if_true, if_false, ↓reduceIte, Nat.reduceEqDiff, Nat.reduceAdd, Nat.reduceMul, Nat.reduceSub, Nat.reduceLeDiff, Int.reduceLT, Int.reduceLE, Int.reduceEq, Bool.false_eq_true, Option.bind_some, Option.map_some, List.set_cons_zero, List.set_cons_succ, List.toList_toArray, List.size_toArray, List.length_cons, List.length_nil, List.getElem?_toArray, List.getElem?_cons_zero, List.getElem?_cons_succ, List.drop_zero, List.take_succ_cons, List.take_zero]
  refine Put_nil.mono ?_
  rintro v' h1 ⟨rfl, rfl⟩
  exact ⟨rfl, _, List.append_assoc ..⟩
/-- a call, of plain data -/
structure Step where
  d : Int
  c : Int
  n : Int
  v : Int
  s : ByteArray
def Step.v' (s : Step) : Value := .agg #[.int .i64 s.d, .int .i8 s.c, .int .i64 s.n, .int .i64 s.v, .string s.s]
def stepNil (s : Step) (h : H) : Value → H → Prop := fun v h' => (∃ t, h' = h ++ t) ∧ v = .tuple #[.slice none 0 0, .int .i64 (if 0 ≤ s.d ∧ s.d ≤ 5 then 1 else 0)]
set_option maxRecDepth 20000 in
theorem Step_nil {n0 : Nat} {h : H} {s : Step} (hv : -2 ^ 63 ≤ s.v) (hv2 : s.v < 2 ^ 63) : Cn Try.prog n0 (.func 22) [.pointer none, s.v'] h (stepNil s h) := by
  refine F22.enter ?_
  have fin : ∀ e : Int, (e = if 0 ≤ s.d ∧ s.d ≤ 5 then 1 else 0) → ∀ t, stepNil s h (.tuple #[.slice none 0 0, .int .i64 e]) (h ++ t) := fun e he t => ⟨⟨_, rfl⟩, by rw [he]⟩
  generalize hHP : stepNil s h = HP at fin
  rw [F22.e0]
  simp (disch := first | omega | assumption | exact isC_last | exact isC_app (by first | assumption | exact isC_last | exact isC_app (by first | assumption | exact isC_last)) | (simp [oneC]; done) | fail) only [F22.t0, clL, Step.v', evs0, evs1, evs2, evs3, evs4, evs5, evs6, evs7, evs8, evs9, evs10, evs11, evs12, evs13, if_true, if_false, ↓reduceIte, Nat.reduceEqDiff, Nat.reduceAdd, Nat.reduceMul, Nat.reduceSub, Nat.reduceLeDiff, Int.reduceLT, Int.reduceLE, Int.reduceEq, Bool.false_eq_true, Option.bind_some, Option.map_some, List.set_cons_zero, List.set_cons_succ, List.toList_toArray, List.size_toArray, List.length_cons, List.length_nil, List.getElem?_toArray, List.getElem?_cons_zero, List.getElem?_cons_succ, List.drop_zero, List.take_succ_cons, List.take_zero]
  by_cases h0 : s.d = 0
  · rw [if_pos h0, F22.e1]
    simp (disch := first | omega | assumption | exact isC_last | exact isC_app (by first | assumption | exact isC_last | exact isC_app (by first | assumption | exact isC_last)) | (simp [oneC]; done) | fail) only [F22.t1, evs0, evs1, evs2, evs3, evs4, evs5, evs6, evs7, evs8, evs9, evs10, evs11, evs12, evs13, if_true, if_false, ↓reduceIte, Nat.reduceEqDiff, Nat.reduceAdd, Nat.reduceMul, Nat.reduceSub, Nat.reduceLeDiff, Int.reduceLT, Int.reduceLE, Int.reduceEq, Bool.false_eq_true, Option.bind_some, Option.map_some, List.set_cons_zero, List.set_cons_succ, List.toList_toArray, List.size_toArray, List.length_cons, List.length_nil, List.getElem?_toArray, List.getElem?_cons_zero, List.getElem?_cons_succ, List.drop_zero, List.take_succ_cons, List.take_zero]
    refine Open_nil.mono ?_
    rintro v' h1 ⟨rfl, rfl⟩
    try simp (disch := first | omega | assumption | exact isC_last | exact isC_app (by first | assumption | exact isC_last | exact isC_app (by first | assumption | exact isC_last)) | (simp [oneC]; done) | fail) only [evs0, evs1, evs2, evs3, evs4, evs5, evs6, evs7, evs8, evs9, evs10, evs11, evs12, evs13, if_true, if_false, ↓reduceIte, Nat.reduceEqDiff, Nat.reduceAdd, Nat.reduceMul, Nat.reduceSub, Nat.reduceLeDiff, Int.reduceLT, Int.reduceLE, Int.reduceEq, Bool.false_eq_true, Option.bind_some, Option.map_some, List.set_cons_zero, List.set_cons_succ, List.toList_toArray, List.size_toArray, List.length_cons, List.length_nil, List.getElem?_toArray, List.getElem?_cons_zero, List.getElem?_cons_succ, List.drop_zero, List.take_succ_cons, List.take_zero]
    exact fin 1 (by rw [if_pos (by omega)]) _
  rw [if_neg h0, F22.e2]
  simp (disch := first | omega | assumption | exact isC_last | exact isC_app (by first | assumption | exact isC_last | exact isC_app (by first | assumption | exact isC_last)) | (simp [oneC]; done) | fail) only [F22.t2, evs0, evs1, evs2, evs3, evs4, evs5, evs6, evs7, evs8, evs9, evs10, evs11, evs12, evs13, if_true, if_false, ↓reduceIte, Nat.reduceEqDiff, Nat.reduceAdd, Nat.reduceMul, Nat.reduceSub, Nat.reduceLeDiff, Int.reduceLT, Int.reduceLE, Int.reduceEq, Bool.false_eq_true, Option.bind_some, Option.map_some, List.set_cons_zero, List.set_cons_succ, List.toList_toArray, List.size_toArray, List.length_cons, List.length_nil, List.getElem?_toArray, List.getElem?_cons_zero, List.getElem?_cons_succ, List.drop_zero, List.take_succ_cons, List.take_zero]
  by_cases h1 : s.d = 1
  · rw [if_pos h1, F22.e3, F22.t3]
    refine Close_nil.mono ?_
    rintro v' h1 ⟨rfl, rfl⟩
    try simp (disch := first | omega | assumption | exact isC_last | exact isC_app (by first | assumption | exact isC_last | exact isC_app (by first | assumption | exact isC_last)) | (simp [oneC]; done) | fail) only [evs0, evs1, evs2, evs3, evs4, evs5, evs6, evs7, evs8, evs9, evs10, evs11, evs12, evs13, if_true, if_false, ↓reduceIte, Nat.reduceEqDiff, Nat.reduceAdd, Nat.reduceMul, Nat.reduceSub, Nat.reduceLeDiff, Int.reduceLT, Int.reduceLE, Int.reduceEq, Bool.false_eq_true, Option.bind_some, Option.map_some, List.set_cons_zero, List.set_cons_succ, List.toList_toArray, List.size_toArray, List.length_cons, List.length_nil, List.getElem?_toArray, List.getElem?_cons_zero, List.getElem?_cons_succ, List.drop_zero, List.take_succ_cons, List.take_zero]
    exact fin 1 (by rw [if_pos (by omega)]) _
  rw [if_neg h1, F22.e4]
  simp (disch := first | omega | assumption | exact isC_last | exact isC_app (by first | assumption | exact isC_last | exact isC_app (by first | assumption | exact isC_last)) | (simp [oneC]; done) | fail) only [F22.t4, evs0, evs1, evs2, evs3, evs4, evs5, evs6, evs7, evs8, evs9, evs10, evs11, evs12, evs13, if_true, if_false, ↓reduceIte, Nat.reduceEqDiff, Nat.reduceAdd, Nat.reduceMul, Nat.reduceSub, Nat.reduceLeDiff, Int.reduceLT, Int.reduceLE, Int.reduceEq, Bool.false_eq_true, Option.bind_some, Option.map_some, List.set_cons_zero, List.set_cons_succ, List.toList_toArray, List.size_toArray, List.length_cons, List.length_nil, List.getElem?_toArray, List.getElem?_cons_zero, List.getElem?_cons_succ, List.drop_zero, List.take_succ_cons, List.take_zero]
  by_cases h2 : s.d = 2
  · rw [if_pos h2, F22.e5]
    simp (disch := first | omega | assumption | exact isC_last | exact isC_app (by first | assumption | exact isC_last | exact isC_app (by first | assumption | exact isC_last)) | (simp [oneC]; done) | fail) only [F22.t5, evs0, evs1, evs2, evs3, evs4, evs5, evs6, evs7, evs8, evs9, evs10, evs11, evs12, evs13, if_true, if_false, ↓reduceIte, Nat.reduceEqDiff, Nat.reduceAdd, Nat.reduceMul, Nat.reduceSub, Nat.reduceLeDiff, Int.reduceLT, Int.reduceLE, Int.reduceEq, Bool.false_eq_true, Option.bind_some, Option.map_some, List.set_cons_zero, List.set_cons_succ, List.toList_toArray, List.size_toArray, List.length_cons, List.length_nil, List.getElem?_toArray, List.getElem?_cons_zero, List.getElem?_cons_succ, List.drop_zero, List.take_succ_cons, List.take_zero]
    refine (Int_nil hv hv2).mono ?_
    rintro v' h1 ⟨rfl, t, rfl⟩
    try simp (disch := first | omega | assumption | exact isC_last | exact isC_app (by first | assumption | exact isC_last | exact isC_app (by first | assumption | exact isC_last)) | (simp [oneC]; done) | fail) only [evs0, evs1, evs2, evs3, evs4, evs5, evs6, evs7, evs8, evs9, evs10, evs11, evs12, evs13, if_true, if_false, ↓reduceIte, Nat.reduceEqDiff, Nat.reduceAdd, Nat.reduceMul, Nat.reduceSub, Nat.reduceLeDiff, Int.reduceLT, Int.reduceLE, Int.reduceEq, Bool.false_eq_true, Option.bind_some, Option.map_some, List.set_cons_zero, List.set_cons_succ, List.toList_toArray, List.size_toArray, List.length_cons, List.length_nil, List.getElem?_toArray, List.getElem?_cons_zero, List.getElem?_cons_succ, List.drop_zero, List.take_succ_cons, List.take_zero]
    rw [List.append_assoc]
    exact fin 1 (by rw [if_pos (by omega)]) _
  rw [if_neg h2, F22.e6]
  simp (disch := first | omega | assumption | exact isC_last | exact isC_app (by first | assumption | exact isC_last | exact isC_app (by first | assumption | exact isC_last)) | (simp [oneC]; done) | fail) only [F22.t6, evs0, evs1, evs2, evs3, evs4, evs5, evs6, evs7, evs8, evs9, evs10, evs11, evs12, evs13, if_true, if_false, ↓reduceIte, Nat.reduceEqDiff, Nat.reduceAdd, Nat.reduceMul, Nat.reduceSub, Nat.reduceLeDiff, Int.reduceLT, Int.reduceLE, Int.reduceEq, Bool.false_eq_true, Option.bind_some, Option.map_some, List.set_cons_zero, List.set_cons_succ, List.toList_toArray, List.size_toArray, List.length_cons, List.length_nil, List.getElem?_toArray, List.getElem?_cons_zero, List.getElem?_cons_succ, List.drop_zero, List.take_succ_cons, List.take_zero]
  by_cases h3 : s.d = 3
  · rw [if_pos h3, F22.e7]
    simp (disch := first | omega | assumption | exact isC_last | exact isC_app (by first | assumption | exact isC_last | exact isC_app (by first | assumption | exact isC_last)) | (simp [oneC]; done) | fail) only [F22.t7, evs0, evs1, evs2, evs3, evs4, evs5, evs6, evs7, evs8, evs9, evs10, evs11, evs12, evs13, if_true, if_false, ↓reduceIte, Nat.reduceEqDiff, Nat.reduceAdd, Nat.reduceMul, Nat.reduceSub, Nat.reduceLeDiff, Int.reduceLT, Int.reduceLE, Int.reduceEq, Bool.false_eq_true, Option.bind_some, Option.map_some, List.set_cons_zero, List.set_cons_succ, List.toList_toArray, List.size_toArray, List.length_cons, List.length_nil, List.getElem?_toArray, List.getElem?_cons_zero, List.getElem?_cons_succ, List.drop_zero, List.take_succ_cons, List.take_zero]
    refine Flag_nil.mono ?_
    rintro v' h1 ⟨rfl, t, rfl⟩
    try simp (disch := first | omega | assumption | exact isC_last | exact isC_app (by first | assumption | exact isC_last | exact isC_app (by first | assumption | exact isC_last)) | (simp [oneC]; done) | fail) only [evs0, evs1, evs2, evs3, evs4, evs5, evs6, evs7, evs8, evs9, evs10, evs11, evs12, evs13, if_true, if_false, ↓reduceIte, Nat.reduceEqDiff, Nat.reduceAdd, Nat.reduceMul, Nat.reduceSub, Nat.reduceLeDiff, Int.reduceLT, Int.reduceLE, Int.reduceEq, Bool.false_eq_true, Option.bind_some, Option.map_some, List.set_cons_zero, List.set_cons_succ, List.toList_toArray, List.size_toArray, List.length_cons, List.length_nil, List.getElem?_toArray, List.getElem?_cons_zero, List.getElem?_cons_succ, List.drop_zero, List.take_succ_cons, List.take_zero]
    rw [List.append_assoc]
    exact fin 1 (by rw [if_pos (by omega)]) _
  rw [if_neg h3, F22.e8]
  simp (disch := first | omega | assumption | exact isC_last | exact isC_app (by first | assumption | exact isC_last | exact isC_app (by first | assumption | exact isC_last)) | (simp [oneC]; done) | fail) only [F22.t8, evs0, evs1, evs2, evs3, evs4, evs5, evs6, evs7, evs8, evs9, evs10, evs11, evs12, evs13, if_true, if_false, ↓reduceIte, Nat.reduceEqDiff, Nat.reduceAdd, Nat.reduceMul, Nat.reduceSub, Nat.reduceLeDiff, Int.reduceLT, Int.reduceLE, Int.reduceEq, Bool.false_eq_true, Option.bind_some, Option.map_some, List.set_cons_zero, List.set_cons_succ, List.toList_toArray, List.size_toArray, List.length_cons, List.length_nil, List.getElem?_toArray, List.getElem?_cons_zero, List.getElem?_cons_succ, List.drop_zero, List.take_succ_cons, List.take_zero]
  by_cases h4 : s.d = 4
  · rw [if_pos h4, F22.e9]
    simp (disch := first | omega | assumption | exact isC_last | exact isC_app (by first | assumption | exact isC_last | exact isC_app (by first | assumption | exact isC_last)) | (simp [oneC]; done) | fail) only [F22.t9, evs0, evs1, evs2, evs3, evs4, evs5, evs6, evs7, evs8, evs9, evs10, evs11, evs12, evs13, if_true, if_false, ↓reduceIte, Nat.reduceEqDiff, Nat.reduceAdd, Nat.reduceMul, Nat.reduceSub, Nat.reduceLeDiff, Int.reduceLT, Int.reduceLE, Int.reduceEq, Bool.false_eq_true, Option.bind_some, Option.map_some, List.set_cons_zero, List.set_cons_succ, List.toList_toArray, List.size_toArray, List.length_cons, List.length_nil, List.getElem?_toArray, List.getElem?_cons_zero, List.getElem?_cons_succ, List.drop_zero, List.take_succ_cons, List.take_zero]
    refine Text_nil.mono ?_
    rintro v' h1 ⟨rfl, t, rfl⟩
    try simp (disch := first | omega | assumption | exact isC_last | exact isC_app (by first | assumption | exact isC_last | exact isC_app (by first | assumption | exact isC_last)) | (simp [oneC]; done) | fail) only [evs0, evs1, evs2, evs3, evs4, evs5, evs6, evs7, evs8, evs9, evs10, evs11, evs12, evs13, if_true, if_false, ↓reduceIte, Nat.reduceEqDiff, Nat.reduceAdd, Nat.reduceMul, Nat.reduceSub, Nat.reduceLeDiff, Int.reduceLT, Int.reduceLE, Int.reduceEq, Bool.false_eq_true, Option.bind_some, Option.map_some, List.set_cons_zero, List.set_cons_succ, List.toList_toArray, List.size_toArray, List.length_cons, List.length_nil, List.getElem?_toArray, List.getElem?_cons_zero, List.getElem?_cons_succ, List.drop_zero, List.take_succ_cons, List.take_zero]
    rw [List.append_assoc]
    exact fin 1 (by rw [if_pos (by omega)]) _
  rw [if_neg h4, F22.e10]
  simp (disch := first | omega | assumption | exact isC_last | exact isC_app (by first | assumption | exact isC_last | exact isC_app (by first | assumption | exact isC_last)) | (simp [oneC]; done) | fail) only [F22.t10, evs0, evs1, evs2, evs3, evs4, evs5, evs6, evs7, evs8, evs9, evs10, evs11, evs12, evs13, if_true, if_false, ↓reduceIte, Nat.reduceEqDiff, Nat.reduceAdd, Nat.reduceMul, Nat.reduceSub, Nat.reduceLeDiff, Int.reduceLT, Int.reduceLE, Int.reduceEq, Bool.false_eq_true, Option.bind_some, Option.map_some, List.set_cons_zero, List.set_cons_succ, List.toList_toArray, List.size_toArray, List.length_cons, List.length_nil, List.getElem?_toArray, List.getElem?_cons_zero, List.getElem?_cons_succ, List.drop_zero, List.take_succ_cons, List.take_zero]
  by_cases h5 : s.d = 5
  · rw [if_pos h5, F22.e11, F22.t11]
    refine Bytes_nil.mono ?_
    rintro v' h1 ⟨rfl, rfl⟩
    try simp (disch := first | omega | assumption | exact isC_last | exact isC_app (by first | assumption | exact isC_last | exact isC_app (by first | assumption | exact isC_last)) | (simp [oneC]; done) | fail) only [evs0, evs1, evs2, evs3, evs4, evs5, evs6, evs7, evs8, evs9, evs10, evs11, evs12, evs13, if_true, if_false, ↓reduceIte, Nat.reduceEqDiff, Nat.reduceAdd, Nat.reduceMul, Nat.reduceSub, Nat.reduceLeDiff, Int.reduceLT, Int.reduceLE, Int.reduceEq, Bool.false_eq_true, Option.bind_some, Option.map_some, List.set_cons_zero, List.set_cons_succ, List.toList_toArray, List.size_toArray, List.length_cons, List.length_nil, List.getElem?_toArray, List.getElem?_cons_zero, List.getElem?_cons_succ, List.drop_zero, List.take_succ_cons, List.take_zero]
    exact fin 1 (by rw [if_pos (by omega)]) _
  rw [if_neg h5, F22.e12]
  simp (disch := first | omega | assumption | exact isC_last | exact isC_app (by first | assumption | exact isC_last | exact isC_app (by first | assumption | exact isC_last)) | (simp [oneC]; done) | fail) only [F22.t12, evs0, evs1, evs2, evs3, evs4, evs5, evs6, evs7, evs8, evs9, evs10, evs11, evs12, evs13, if_true, if_false, ↓reduceIte, Nat.reduceEqDiff, Nat.reduceAdd, Nat.reduceMul, Nat.reduceSub, Nat.reduceLeDiff, Int.reduceLT, Int.reduceLE, Int.reduceEq, Bool.false_eq_true, Option.bind_some, Option.map_some, List.set_cons_zero, List.set_cons_succ, List.toList_toArray, List.size_toArray, List.length_cons, List.length_nil, List.getElem?_toArray, List.getElem?_cons_zero, List.getElem?_cons_succ, List.drop_zero, List.take_succ_cons, List.take_zero]
  exact fin 0 (by rw [if_neg (by omega)]) _
set_option maxRecDepth 20000 in
theorem BerNil_ok {n0 : Nat} {h : H} {s : Step} (hv : -2 ^ 63 ≤ s.v) (hv2 : s.v < 2 ^ 63) : Cn Try.prog n0 (.func 6) [s.v'] h (fun v _ => v = .bool true) := by
  refine F6.enter ?_
  obtain ⟨HP, hHP⟩ : ∃ HP : Value → H → Prop, (fun v _ => v = .bool true) = HP := ⟨_, rfl⟩
  rw [hHP, F6.e0]
  simp (disch := first | omega | assumption | exact isC_last | exact isC_app (by first | assumption | exact isC_last | exact isC_app (by first | assumption | exact isC_last)) | (simp [oneC]; done) | fail) only [F6.t0, clL, Step.v', evs0, evs1, evs2, evs3, evs4, evs5, evs6, evs7, evs8, evs9, evs10, evs11, evs12, evs13, if_true, if_false, ↓reduceIte, Nat.reduceEqDiff, Nat.reduceAdd, Nat.reduceMul, Nat.reduceSub, Nat.reduceLeDiff, Int.reduceLT, Int.reduceLE, Int.reduceEq, Bool.false_eq_true, Option.bind_some, Option.map_some, List.set_cons_zero, List.set_cons_succ, List.toList_toArray, List.size_toArray, List.length_cons, List.length_nil, List.getElem?_toArray, List.getElem?_cons_zero, List.getElem?_cons_succ, List.drop_zero, List.take_succ_cons, List.take_zero]
  refine (Step_nil (s := s) hv hv2).mono ?_
  rintro v' h1 ⟨⟨t, rfl⟩, rfl⟩
  have fin : ∀ hh : H, Cn Try.prog n0 (.func 16) [] hh fun t30 h4 => HP t30 h4 := by
    intro hh
    refine Works_ok.mono ?_
    rintro v h' ⟨rfl, rfl⟩
    rw [← hHP]
  have hr : rd (h ++ [Ob.cells true (enc 0 47) [.int .i64 s.d, .int .i8 s.c, .int .i64 s.n, .int .i64 s.v, .string s.s]] ++ t) h.length 0 = some (.int .i64 s.d) := by
    rw [rd_cells (get_app get_last)]; rfl
  simp (disch := first | omega | assumption | exact isC_last | exact isC_app (by first | assumption | exact isC_last | exact isC_app (by first | assumption | exact isC_last)) | (simp [oneC]; done) | fail) only [hr, evs0, evs1, evs2, evs3, evs4, evs5, evs6, evs7, evs8, evs9, evs10, evs11, evs12, evs13, if_true, if_false, ↓reduceIte, Nat.reduceEqDiff, Nat.reduceAdd, Nat.reduceMul, Nat.reduceSub, Nat.reduceLeDiff, Int.reduceLT, Int.reduceLE, Int.reduceEq, Bool.false_eq_true, Option.bind_some, Option.map_some, List.set_cons_zero, List.set_cons_succ, List.toList_toArray, List.size_toArray, List.length_cons, List.length_nil, List.getElem?_toArray, List.getElem?_cons_zero, List.getElem?_cons_succ, List.drop_zero, List.take_succ_cons, List.take_zero]
  by_cases hd : 0 ≤ s.d ∧ s.d ≤ 5
  · simp only [if_pos hd, if_true]; exact fin _
  · simp only [if_neg hd]
    repeat' split
    all_goals first | exact fin _ | omega | contradiction
end Go.Proofs.Ytknpmldldlbniaa
