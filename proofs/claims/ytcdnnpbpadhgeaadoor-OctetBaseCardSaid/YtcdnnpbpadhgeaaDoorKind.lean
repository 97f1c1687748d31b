/- octet.kind, HasPrefix, octet.Valid. No condition. -/
import Derived.Test.YtcdnnpbpadhgeaaDoorStr
import Derived.Test.YtcdnnpbpadhgeaaDoorFa
import Derived.Test.YtcdnnpbpadhgeaaDoorEvs
set_option linter.unusedVariables false
set_option linter.unusedSimpArgs false
namespace Go.Proofs.YtcdnnpbpadhgeaaDoor
open Go.Ev Oct
variable {n0 : Nat} {h : H}
set_option maxRecDepth 20000 in
theorem HasPrefix_ok {s p : List UInt8} : Cn Tryd.prog n0 (.func 41) [.string (bs s), .string (bs p)] h (fun v h' => v = .bool (decide (s.take p.length = p)) ∧ h' = h) := by
  refine F41.enter ?_
  rw [F41.e0]
  unfold F41.t0
  refine F50.enter ?_
  rw [F50.e0]
  simp (disch := first | omega | assumption | exact isC_last | exact isC_app (by first | assumption | exact isC_last | exact isC_app (by first | assumption | exact isC_last)) | (simp [oneC]; done) | fail) only [F50.t0, len_str un_9, evs0, evs1, evs2, evs3, evs4, evs5, evs6, if_true, if_false, ↓reduceIte, Nat.reduceEqDiff, Nat.reduceAdd, Nat.reduceMul, Nat.reduceSub, Nat.reduceLeDiff, Int.reduceLT, Int.reduceLE, Int.reduceEq, Bool.false_eq_true, Option.bind_some, Option.map_some, List.set_cons_zero, List.set_cons_succ, List.toList_toArray, List.size_toArray, List.length_cons, List.length_nil, List.getElem?_toArray, List.getElem?_cons_zero, List.getElem?_cons_succ, List.drop_zero, List.take_succ_cons, List.take_zero, Oct.bl]
  by_cases hl : (p.length : Int) ≤ s.length
  · rw [if_pos hl]
    simp (disch := first | omega | assumption | exact isC_last | exact isC_app (by first | assumption | exact isC_last | exact isC_app (by first | assumption | exact isC_last)) | (simp [oneC]; done) | fail) only [sl_to un_9 (show (0 : Int) ≤ p.length by omega) hl, Int.toNat_natCast, evs0, evs1, evs2, evs3, evs4, evs5, evs6, if_true, if_false, ↓reduceIte, Nat.reduceEqDiff, Nat.reduceAdd, Nat.reduceMul, Nat.reduceSub, Nat.reduceLeDiff, Int.reduceLT, Int.reduceLE, Int.reduceEq, Bool.false_eq_true, Option.bind_some, Option.map_some, List.set_cons_zero, List.set_cons_succ, List.toList_toArray, List.size_toArray, List.length_cons, List.length_nil, List.getElem?_toArray, List.getElem?_cons_zero, List.getElem?_cons_succ, List.drop_zero, List.take_succ_cons, List.take_zero, Oct.bl]
    refine ⟨?_, ?_⟩ <;> first | rfl | trivial
  · rw [if_neg hl]
    refine ⟨?_, by first | rfl | trivial⟩
    congr 1
    symm
    rw [decide_eq_false_iff_not]
    intro e
    have := congrArg List.length e
    rw [List.length_take] at this
    omega
def kindS (l : List UInt8) (c : Int) : Int := if c = 65533 ∧ l.take 3 ≠ fffd then 0 else if c = 0 ∨ c = 40 ∨ c = 41 ∨ c = 42 ∨ c = 92 then 1 else 2
theorem kindS_ne {l : List UInt8} {c : Int} (h : ¬ (c = 65533 ∧ l.take 3 ≠ fffd)) : kindS l c = if c = 0 ∨ c = 40 ∨ c = 41 ∨ c = 42 ∨ c = 92 then 1 else 2 := if_neg h
theorem arr0 : aIndex Tryd.prog 52 (.agg #[.int .i32 0, .int .i32 40, .int .i32 41, .int .i32 42, .int .i32 92]) (.int .i64 0) = some (.int .i32 0) := by kernel_rfl
theorem arr1 : aIndex Tryd.prog 52 (.agg #[.int .i32 0, .int .i32 40, .int .i32 41, .int .i32 42, .int .i32 92]) (.int .i64 1) = some (.int .i32 40) := by kernel_rfl
theorem arr2 : aIndex Tryd.prog 52 (.agg #[.int .i32 0, .int .i32 40, .int .i32 41, .int .i32 42, .int .i32 92]) (.int .i64 2) = some (.int .i32 41) := by kernel_rfl
theorem arr3 : aIndex Tryd.prog 52 (.agg #[.int .i32 0, .int .i32 40, .int .i32 41, .int .i32 42, .int .i32 92]) (.int .i64 3) = some (.int .i32 42) := by kernel_rfl
theorem arr4 : aIndex Tryd.prog 52 (.agg #[.int .i32 0, .int .i32 40, .int .i32 41, .int .i32 42, .int .i32 92]) (.int .i64 4) = some (.int .i32 92) := by kernel_rfl
set_option maxRecDepth 20000 in
theorem kind_tail {c : Int} {K : KP} (k : K .ret [(6, .int .i64 (if c = 0 ∨ c = 40 ∨ c = 41 ∨ c = 42 ∨ c = 92 then 1 else 2))] [] h) : F27.p2 n0 [(2, .int .i32 c)] [] h K := by
  rw [F27.e2]
  unfold F27.t2
  refine Bnd_i (a := .agg #[.int .i32 0, .int .i32 40, .int .i32 41, .int .i32 42, .int .i32 92]) (by kernel_rfl) ?_
  have get : ∀ (j : Nat), j < 5 → aIndex Tryd.prog 52 (.agg #[.int .i32 0, .int .i32 40, .int .i32 41, .int .i32 42, .int .i32 92]) (.int .i64 j) = some (.int .i32 ([0, 40, 41, 42, 92].getD j 0)) := by
    intro j hj
    match j, hj with
    | 0, _ => exact arr0
    | 1, _ => exact arr1
    | 2, _ => exact arr2
    | 3, _ => exact arr3
    | 4, _ => exact arr4
  generalize (Value.agg #[.int .i32 0, .int .i32 40, .int .i32 41, .int .i32 42, .int .i32 92]) = A at get ⊢
  refine Lp_ind (fun m fr hh => hh = h ∧ ∃ j : Nat, fr = [(2, .int .i32 c), (19, A), (20, .int .i64 j)] ∧ j ≤ 5 ∧ (∀ i, i < j → c ≠ [0, 40, 41, 42, 92].getD i 0) ∧ m = 5 - j) (F27.m3 n0) 5 ⟨rfl, 0, by simp (disch := first | omega | assumption | exact isC_last | exact isC_app (by first | assumption | exact isC_last | exact isC_app (by first | assumption | exact isC_last)) | (simp [oneC]; done) | fail) only [evs0, evs1, evs2, evs3, evs4, evs5, evs6, if_true, if_false, ↓reduceIte, Nat.reduceEqDiff, Nat.reduceAdd, Nat.reduceMul, Nat.reduceSub, Nat.reduceLeDiff, Int.reduceLT, Int.reduceLE, Int.reduceEq, Bool.false_eq_true, Option.bind_some, Option.map_some, List.set_cons_zero, List.set_cons_succ, List.toList_toArray, List.size_toArray, List.length_cons, List.length_nil, List.getElem?_toArray, List.getElem?_cons_zero, List.getElem?_cons_succ, List.drop_zero, List.take_succ_cons, List.take_zero, Oct.bl]; rfl, by omega, fun i hi => by omega, rfl⟩ ?_
  rintro m fr hh ⟨rfl, j, rfl, hj, hno, rfl⟩
  rw [F27.e3]
  simp (disch := first | omega | assumption | exact isC_last | exact isC_app (by first | assumption | exact isC_last | exact isC_app (by first | assumption | exact isC_last)) | (simp [oneC]; done) | fail) only [F27.t3, evs0, evs1, evs2, evs3, evs4, evs5, evs6, if_true, if_false, ↓reduceIte, Nat.reduceEqDiff, Nat.reduceAdd, Nat.reduceMul, Nat.reduceSub, Nat.reduceLeDiff, Int.reduceLT, Int.reduceLE, Int.reduceEq, Bool.false_eq_true, Option.bind_some, Option.map_some, List.set_cons_zero, List.set_cons_succ, List.toList_toArray, List.size_toArray, List.length_cons, List.length_nil, List.getElem?_toArray, List.getElem?_cons_zero, List.getElem?_cons_succ, List.drop_zero, List.take_succ_cons, List.take_zero, Oct.bl]
  by_cases h5 : j < 5
  · rw [if_pos (by omega), F27.e4]
    simp (disch := first | omega | assumption | exact isC_last | exact isC_app (by first | assumption | exact isC_last | exact isC_app (by first | assumption | exact isC_last)) | (simp [oneC]; done) | fail) only [F27.t4, get j h5, evs0, evs1, evs2, evs3, evs4, evs5, evs6, if_true, if_false, ↓reduceIte, Nat.reduceEqDiff, Nat.reduceAdd, Nat.reduceMul, Nat.reduceSub, Nat.reduceLeDiff, Int.reduceLT, Int.reduceLE, Int.reduceEq, Bool.false_eq_true, Option.bind_some, Option.map_some, List.set_cons_zero, List.set_cons_succ, List.toList_toArray, List.size_toArray, List.length_cons, List.length_nil, List.getElem?_toArray, List.getElem?_cons_zero, List.getElem?_cons_succ, List.drop_zero, List.take_succ_cons, List.take_zero, Oct.bl]
    by_cases hc : c = [0, 40, 41, 42, 92].getD j 0
    · rw [if_pos hc, F27.e5]
      simp (disch := first | omega | assumption | exact isC_last | exact isC_app (by first | assumption | exact isC_last | exact isC_app (by first | assumption | exact isC_last)) | (simp [oneC]; done) | fail) only [F27.t5, evs0, evs1, evs2, evs3, evs4, evs5, evs6, if_true, if_false, ↓reduceIte, Nat.reduceEqDiff, Nat.reduceAdd, Nat.reduceMul, Nat.reduceSub, Nat.reduceLeDiff, Int.reduceLT, Int.reduceLE, Int.reduceEq, Bool.false_eq_true, Option.bind_some, Option.map_some, List.set_cons_zero, List.set_cons_succ, List.toList_toArray, List.size_toArray, List.length_cons, List.length_nil, List.getElem?_toArray, List.getElem?_cons_zero, List.getElem?_cons_succ, List.drop_zero, List.take_succ_cons, List.take_zero, Oct.bl]
      have : c = 0 ∨ c = 40 ∨ c = 41 ∨ c = 42 ∨ c = 92 := by
        match j, h5 with
        | 0, _ => exact .inl hc
        | 1, _ => exact .inr (.inl hc)
        | 2, _ => exact .inr (.inr (.inl hc))
        | 3, _ => exact .inr (.inr (.inr (.inl hc)))
        | 4, _ => exact .inr (.inr (.inr (.inr hc)))
      rw [if_pos this] at k
      exact k
    · rw [if_neg hc, F27.e6]
      simp (disch := first | omega | assumption | exact isC_last | exact isC_app (by first | assumption | exact isC_last | exact isC_app (by first | assumption | exact isC_last)) | (simp [oneC]; done) | fail) only [F27.t6, evs0, evs1, evs2, evs3, evs4, evs5, evs6, if_true, if_false, ↓reduceIte, Nat.reduceEqDiff, Nat.reduceAdd, Nat.reduceMul, Nat.reduceSub, Nat.reduceLeDiff, Int.reduceLT, Int.reduceLE, Int.reduceEq, Bool.false_eq_true, Option.bind_some, Option.map_some, List.set_cons_zero, List.set_cons_succ, List.toList_toArray, List.size_toArray, List.length_cons, List.length_nil, List.getElem?_toArray, List.getElem?_cons_zero, List.getElem?_cons_succ, List.drop_zero, List.take_succ_cons, List.take_zero, Oct.bl]
      rw [IntWalk.i64_in _ (by omega)]
      refine ⟨trivial, 5 - (j + 1), by omega, trivial, j + 1, by congr 4, by omega, fun i hi => ?_, rfl⟩
      by_cases e : i = j
      · subst e; exact hc
      · exact hno i (by omega)
  · rw [if_neg (by omega), F27.e7]
    simp (disch := first | omega | assumption | exact isC_last | exact isC_app (by first | assumption | exact isC_last | exact isC_app (by first | assumption | exact isC_last)) | (simp [oneC]; done) | fail) only [F27.t7, evs0, evs1, evs2, evs3, evs4, evs5, evs6, if_true, if_false, ↓reduceIte, Nat.reduceEqDiff, Nat.reduceAdd, Nat.reduceMul, Nat.reduceSub, Nat.reduceLeDiff, Int.reduceLT, Int.reduceLE, Int.reduceEq, Bool.false_eq_true, Option.bind_some, Option.map_some, List.set_cons_zero, List.set_cons_succ, List.toList_toArray, List.size_toArray, List.length_cons, List.length_nil, List.getElem?_toArray, List.getElem?_cons_zero, List.getElem?_cons_succ, List.drop_zero, List.take_succ_cons, List.take_zero, Oct.bl]
    obtain rfl : j = 5 := by omega
    have h0 := hno 0 (by omega)
    have h1 := hno 1 (by omega)
    have h2 := hno 2 (by omega)
    have h3 := hno 3 (by omega)
    have h4 := hno 4 (by omega)
    simp only [List.getD_cons_zero, List.getD_cons_succ] at h0 h1 h2 h3 h4
    rw [if_neg (by omega)] at k
    exact k
set_option maxRecDepth 20000 in
theorem kind_ok {l : List UInt8} {i c : Int} (h0 : 0 ≤ i) (h1 : i ≤ l.length) : Cn Tryd.prog n0 (.func 27) [.string (bs l), .int .i64 i, .int .i32 c] h (fun v h' => v = .int .i64 (kindS (l.drop i.toNat) c) ∧ h' = h) := by
  refine F27.enter ?_
  obtain ⟨HP, hHP⟩ : ∃ HP : Value → H → Prop, (fun v h' => v = .int .i64 (kindS (l.drop i.toNat) c) ∧ h' = h) = HP := ⟨_, rfl⟩
  rw [hHP, F27.e0]
  unfold F27.t0
  simp (disch := first | omega | assumption | exact isC_last | exact isC_app (by first | assumption | exact isC_last | exact isC_app (by first | assumption | exact isC_last)) | (simp [oneC]; done) | fail) only [evs0, evs1, evs2, evs3, evs4, evs5, evs6, if_true, if_false, ↓reduceIte, Nat.reduceEqDiff, Nat.reduceAdd, Nat.reduceMul, Nat.reduceSub, Nat.reduceLeDiff, Int.reduceLT, Int.reduceLE, Int.reduceEq, Bool.false_eq_true, Option.bind_some, Option.map_some, List.set_cons_zero, List.set_cons_succ, List.toList_toArray, List.size_toArray, List.length_cons, List.length_nil, List.getElem?_toArray, List.getElem?_cons_zero, List.getElem?_cons_succ, List.drop_zero, List.take_succ_cons, List.take_zero, Oct.bl]
  by_cases hc : c = 65533
  · rw [if_pos hc]
    simp (disch := first | omega | assumption | exact isC_last | exact isC_app (by first | assumption | exact isC_last | exact isC_app (by first | assumption | exact isC_last)) | (simp [oneC]; done) | fail) only [sl_from un_9 h0 h1, evs0, evs1, evs2, evs3, evs4, evs5, evs6, if_true, if_false, ↓reduceIte, Nat.reduceEqDiff, Nat.reduceAdd, Nat.reduceMul, Nat.reduceSub, Nat.reduceLeDiff, Int.reduceLT, Int.reduceLE, Int.reduceEq, Bool.false_eq_true, Option.bind_some, Option.map_some, List.set_cons_zero, List.set_cons_succ, List.toList_toArray, List.size_toArray, List.length_cons, List.length_nil, List.getElem?_toArray, List.getElem?_cons_zero, List.getElem?_cons_succ, List.drop_zero, List.take_succ_cons, List.take_zero, Oct.bl]
    refine (HasPrefix_ok (s := l.drop i.toNat) (p := fffd)).mono ?_
    rintro v h1 ⟨rfl, rfl⟩
    simp (disch := first | omega | assumption | exact isC_last | exact isC_app (by first | assumption | exact isC_last | exact isC_app (by first | assumption | exact isC_last)) | (simp [oneC]; done) | fail) only [evs0, evs1, evs2, evs3, evs4, evs5, evs6, if_true, if_false, ↓reduceIte, Nat.reduceEqDiff, Nat.reduceAdd, Nat.reduceMul, Nat.reduceSub, Nat.reduceLeDiff, Int.reduceLT, Int.reduceLE, Int.reduceEq, Bool.false_eq_true, Option.bind_some, Option.map_some, List.set_cons_zero, List.set_cons_succ, List.toList_toArray, List.size_toArray, List.length_cons, List.length_nil, List.getElem?_toArray, List.getElem?_cons_zero, List.getElem?_cons_succ, List.drop_zero, List.take_succ_cons, List.take_zero, Oct.bl]
    by_cases hp : (l.drop i.toNat).take 3 = fffd
    · have e : decide ((l.drop i.toNat).take fffd.length = fffd) = true := decide_eq_true hp
      rw [if_pos (by exact hp)]
      refine kind_tail ?_
      simp (disch := first | omega | assumption | exact isC_last | exact isC_app (by first | assumption | exact isC_last | exact isC_app (by first | assumption | exact isC_last)) | (simp [oneC]; done) | fail) only [evs0, evs1, evs2, evs3, evs4, evs5, evs6, if_true, if_false, ↓reduceIte, Nat.reduceEqDiff, Nat.reduceAdd, Nat.reduceMul, Nat.reduceSub, Nat.reduceLeDiff, Int.reduceLT, Int.reduceLE, Int.reduceEq, Bool.false_eq_true, Option.bind_some, Option.map_some, List.set_cons_zero, List.set_cons_succ, List.toList_toArray, List.size_toArray, List.length_cons, List.length_nil, List.getElem?_toArray, List.getElem?_cons_zero, List.getElem?_cons_succ, List.drop_zero, List.take_succ_cons, List.take_zero, Oct.bl]
      rw [← hHP]
      refine ⟨?_, rfl⟩
      rw [kindS_ne (fun h => h.2 hp)]
    · have e : decide ((l.drop i.toNat).take fffd.length = fffd) = false := decide_eq_false hp
      rw [if_neg (by exact hp), F27.e1]
      simp (disch := first | omega | assumption | exact isC_last | exact isC_app (by first | assumption | exact isC_last | exact isC_app (by first | assumption | exact isC_last)) | (simp [oneC]; done) | fail) only [F27.t1, evs0, evs1, evs2, evs3, evs4, evs5, evs6, if_true, if_false, ↓reduceIte, Nat.reduceEqDiff, Nat.reduceAdd, Nat.reduceMul, Nat.reduceSub, Nat.reduceLeDiff, Int.reduceLT, Int.reduceLE, Int.reduceEq, Bool.false_eq_true, Option.bind_some, Option.map_some, List.set_cons_zero, List.set_cons_succ, List.toList_toArray, List.size_toArray, List.length_cons, List.length_nil, List.getElem?_toArray, List.getElem?_cons_zero, List.getElem?_cons_succ, List.drop_zero, List.take_succ_cons, List.take_zero, Oct.bl]
      rw [← hHP]
      refine ⟨?_, rfl⟩
      unfold kindS
      rw [if_pos ⟨hc, hp⟩]
  · rw [if_neg hc]
    refine kind_tail ?_
    simp (disch := first | omega | assumption | exact isC_last | exact isC_app (by first | assumption | exact isC_last | exact isC_app (by first | assumption | exact isC_last)) | (simp [oneC]; done) | fail) only [evs0, evs1, evs2, evs3, evs4, evs5, evs6, if_true, if_false, ↓reduceIte, Nat.reduceEqDiff, Nat.reduceAdd, Nat.reduceMul, Nat.reduceSub, Nat.reduceLeDiff, Int.reduceLT, Int.reduceLE, Int.reduceEq, Bool.false_eq_true, Option.bind_some, Option.map_some, List.set_cons_zero, List.set_cons_succ, List.toList_toArray, List.size_toArray, List.length_cons, List.length_nil, List.getElem?_toArray, List.getElem?_cons_zero, List.getElem?_cons_succ, List.drop_zero, List.take_succ_cons, List.take_zero, Oct.bl]
    rw [← hHP]
    refine ⟨?_, rfl⟩
    rw [kindS_ne (fun h => hc h.1)]
/-- what kind tells at a place -/
theorem kind_chr {l : List UInt8} (c : Chr l) : kindS l (dec l).1 = if bare (l.getD 0 0) = true then 1 else 2 := by
  rw [kindS_ne (fun h => h.2 (c.bad (by have := h.1; omega)))]
  congr 1
  unfold bare
  have e : (l.getD 0 0).toNat = at' l 0 := rfl
  have hb : ∀ (x : UInt8) (n : Nat) (hn : n < 256), x = UInt8.ofNat n ↔ x.toNat = n := by
    intro x n hn
    constructor
    · rintro rfl; rw [UInt8.toNat_ofNat']; omega
    · intro h; exact u8_eq h
  simp only [Bool.or_eq_true, beq_iff_eq]
  rw [show (0 : UInt8) = UInt8.ofNat 0 from rfl, show (40 : UInt8) = UInt8.ofNat 40 from rfl, show (41 : UInt8) = UInt8.ofNat 41 from rfl, show (42 : UInt8) = UInt8.ofNat 42 from rfl, show (92 : UInt8) = UInt8.ofNat 92 from rfl,
    hb _ 0 (by omega), hb _ 40 (by omega), hb _ 41 (by omega), hb _ 42 (by omega), hb _ 92 (by omega)]
  rw [show l.getD 0 (UInt8.ofNat 0) = l.getD 0 0 from rfl, e]
  rcases c.way with ⟨w1, w2, w3⟩ | ⟨w1, w2, w3⟩
  · rw [w2]; exact propext (by omega)
  · exact propext (by omega)
theorem kind_lone {l : List UInt8} (c : Lone l) : kindS l (dec l).1 = 0 := by
  unfold kindS
  rw [if_pos ⟨by rw [c.2.1]; rfl, c.2.2.2.1⟩]
theorem drop_ne {l : List UInt8} {p : Nat} (hp : p < l.length) : l.drop p ≠ [] := by
  intro e; have := congrArg List.length e; simp at this; omega
theorem validS_step {k : Nat} {l : List UInt8} (h : l ≠ []) : validS (k + 1) l = if first l = 0 then false else validS k (l.drop (first l)) := by
  cases l with
  | nil => exact absurd rfl h
  | cons x r => rfl
theorem validS_more {k j : Nat} {l : List UInt8} : l.length ≤ k → l.length ≤ j → validS k l = validS j l := by
  induction k generalizing j l with
  | zero => intro h1 h2; obtain rfl := List.eq_nil_of_length_eq_zero (l := l) (by omega); cases j <;> rfl
  | succ k ih =>
    intro h1 h2
    by_cases hl : l = []
    · subst hl; cases j <;> rfl
    · cases j with
      | zero => exact absurd (List.eq_nil_of_length_eq_zero (l := l) (by omega)) hl
      | succ j =>
        rw [validS_step hl, validS_step hl]
        by_cases hf : first l = 0
        · rw [if_pos hf, if_pos hf]
        · rw [if_neg hf, if_neg hf]
          have := List.length_pos_iff.2 hl
          exact ih (by rw [List.length_drop]; omega) (by rw [List.length_drop]; omega)
set_option maxRecDepth 20000 in
theorem Valid_ok {l : List UInt8} (hl : l.length < 2 ^ 63) : Cn Tryd.prog n0 (.func 11) [.string (bs l)] h (fun v h' => v = .bool (validS l.length l) ∧ Ext h h') := by
  refine F11.enter ?_
  obtain ⟨HP, hHP⟩ : ∃ HP : Value → H → Prop, (fun v h' => v = .bool (validS l.length l) ∧ Ext h h') = HP := ⟨_, rfl⟩
  rw [hHP, F11.e0]
  unfold F11.t0
  refine Bnd2_i (range_bs un_9) ?_
  refine Lp_ind (fun m fr hh => ∃ p : Nat, fr = [(0, .string (bs l)), (6, .pointer (some ⟨h.length, 0, none⟩))] ∧ p ≤ l.length ∧ hh[h.length]? = some (.iter (bs l) p) ∧ Ext h hh ∧ validS l.length l = validS (l.length - p) (l.drop p) ∧ m = l.length - p) (F11.m1 n0) l.length
    ⟨0, by simp (disch := first | omega | assumption | exact isC_last | exact isC_app (by first | assumption | exact isC_last | exact isC_app (by first | assumption | exact isC_last)) | (simp [oneC]; done) | fail) only [evs0, evs1, evs2, evs3, evs4, evs5, evs6, if_true, if_false, ↓reduceIte, Nat.reduceEqDiff, Nat.reduceAdd, Nat.reduceMul, Nat.reduceSub, Nat.reduceLeDiff, Int.reduceLT, Int.reduceLE, Int.reduceEq, Bool.false_eq_true, Option.bind_some, Option.map_some, List.set_cons_zero, List.set_cons_succ, List.toList_toArray, List.size_toArray, List.length_cons, List.length_nil, List.getElem?_toArray, List.getElem?_cons_zero, List.getElem?_cons_succ, List.drop_zero, List.take_succ_cons, List.take_zero, Oct.bl], by omega, get_last, Ext.app _ _, by simp, rfl⟩ ?_
  rintro m fr hh ⟨p, rfl, hp, I, X, V, rfl⟩
  rw [F11.e1]
  unfold F11.t1
  by_cases hp2 : p < l.length
  · refine Bnd2_i (next_bs I hp2) ?_
    simp (disch := first | omega | assumption | exact isC_last | exact isC_app (by first | assumption | exact isC_last | exact isC_app (by first | assumption | exact isC_last)) | (simp [oneC]; done) | fail) only [evs0, evs1, evs2, evs3, evs4, evs5, evs6, if_true, if_false, ↓reduceIte, Nat.reduceEqDiff, Nat.reduceAdd, Nat.reduceMul, Nat.reduceSub, Nat.reduceLeDiff, Int.reduceLT, Int.reduceLE, Int.reduceEq, Bool.false_eq_true, Option.bind_some, Option.map_some, List.set_cons_zero, List.set_cons_succ, List.toList_toArray, List.size_toArray, List.length_cons, List.length_nil, List.getElem?_toArray, List.getElem?_cons_zero, List.getElem?_cons_succ, List.drop_zero, List.take_succ_cons, List.take_zero, Oct.bl]
    rw [F11.e2]
    simp (disch := first | omega | assumption | exact isC_last | exact isC_app (by first | assumption | exact isC_last | exact isC_app (by first | assumption | exact isC_last)) | (simp [oneC]; done) | fail) only [F11.t2, evs0, evs1, evs2, evs3, evs4, evs5, evs6, if_true, if_false, ↓reduceIte, Nat.reduceEqDiff, Nat.reduceAdd, Nat.reduceMul, Nat.reduceSub, Nat.reduceLeDiff, Int.reduceLT, Int.reduceLE, Int.reduceEq, Bool.false_eq_true, Option.bind_some, Option.map_some, List.set_cons_zero, List.set_cons_succ, List.toList_toArray, List.size_toArray, List.length_cons, List.length_nil, List.getElem?_toArray, List.getElem?_cons_zero, List.getElem?_cons_succ, List.drop_zero, List.take_succ_cons, List.take_zero, Oct.bl]
    refine (kind_ok (l := l) (i := p) (c := (dec (l.drop p)).1) (by omega) (by omega)).mono ?_
    rintro v h1 ⟨rfl, rfl⟩
    rw [Int.toNat_natCast]
    simp (disch := first | omega | assumption | exact isC_last | exact isC_app (by first | assumption | exact isC_last | exact isC_app (by first | assumption | exact isC_last)) | (simp [oneC]; done) | fail) only [evs0, evs1, evs2, evs3, evs4, evs5, evs6, if_true, if_false, ↓reduceIte, Nat.reduceEqDiff, Nat.reduceAdd, Nat.reduceMul, Nat.reduceSub, Nat.reduceLeDiff, Int.reduceLT, Int.reduceLE, Int.reduceEq, Bool.false_eq_true, Option.bind_some, Option.map_some, List.set_cons_zero, List.set_cons_succ, List.toList_toArray, List.size_toArray, List.length_cons, List.length_nil, List.getElem?_toArray, List.getElem?_cons_zero, List.getElem?_cons_succ, List.drop_zero, List.take_succ_cons, List.take_zero, Oct.bl]
    rcases first_way (drop_ne hp2) with c | c
    · rw [kind_chr c, if_neg (by split <;> omega)]
      have c1 := c.pos
      have c2 := c.le
      rw [List.length_drop] at c2
      refine ⟨trivial, l.length - (p + first (l.drop p)), by omega, p + (dec (l.drop p)).2, by trivial, by rw [c.wd]; omega, ?_, X.set (Nat.le_refl _) _, ?_, by rw [c.wd]⟩
      · rw [set_same I]
      · rw [V, c.wd]
        obtain ⟨k, hk⟩ : ∃ k, l.length - p = k + 1 := ⟨l.length - p - 1, by omega⟩
        rw [hk, validS_step (drop_ne hp2), if_neg (by omega), List.drop_drop]
        exact validS_more (by rw [List.length_drop]; omega) (by rw [List.length_drop]; omega)
    · rw [kind_lone c, if_pos rfl, F11.e3]
      simp (disch := first | omega | assumption | exact isC_last | exact isC_app (by first | assumption | exact isC_last | exact isC_app (by first | assumption | exact isC_last)) | (simp [oneC]; done) | fail) only [F11.t3, evs0, evs1, evs2, evs3, evs4, evs5, evs6, if_true, if_false, ↓reduceIte, Nat.reduceEqDiff, Nat.reduceAdd, Nat.reduceMul, Nat.reduceSub, Nat.reduceLeDiff, Int.reduceLT, Int.reduceLE, Int.reduceEq, Bool.false_eq_true, Option.bind_some, Option.map_some, List.set_cons_zero, List.set_cons_succ, List.toList_toArray, List.size_toArray, List.length_cons, List.length_nil, List.getElem?_toArray, List.getElem?_cons_zero, List.getElem?_cons_succ, List.drop_zero, List.take_succ_cons, List.take_zero, Oct.bl]
      rw [← hHP]
      refine ⟨?_, X.set (Nat.le_refl _) _⟩
      rw [V]
      obtain ⟨k, hk⟩ : ∃ k, l.length - p = k + 1 := ⟨l.length - p - 1, by omega⟩
      rw [hk, validS_step (drop_ne hp2), if_pos c.1]
  · refine Bnd2_i (next_end I (by omega)) ?_
    simp (disch := first | omega | assumption | exact isC_last | exact isC_app (by first | assumption | exact isC_last | exact isC_app (by first | assumption | exact isC_last)) | (simp [oneC]; done) | fail) only [evs0, evs1, evs2, evs3, evs4, evs5, evs6, if_true, if_false, ↓reduceIte, Nat.reduceEqDiff, Nat.reduceAdd, Nat.reduceMul, Nat.reduceSub, Nat.reduceLeDiff, Int.reduceLT, Int.reduceLE, Int.reduceEq, Bool.false_eq_true, Option.bind_some, Option.map_some, List.set_cons_zero, List.set_cons_succ, List.toList_toArray, List.size_toArray, List.length_cons, List.length_nil, List.getElem?_toArray, List.getElem?_cons_zero, List.getElem?_cons_succ, List.drop_zero, List.take_succ_cons, List.take_zero, Oct.bl]
    rw [F11.e4]
    simp (disch := first | omega | assumption | exact isC_last | exact isC_app (by first | assumption | exact isC_last | exact isC_app (by first | assumption | exact isC_last)) | (simp [oneC]; done) | fail) only [F11.t4, evs0, evs1, evs2, evs3, evs4, evs5, evs6, if_true, if_false, ↓reduceIte, Nat.reduceEqDiff, Nat.reduceAdd, Nat.reduceMul, Nat.reduceSub, Nat.reduceLeDiff, Int.reduceLT, Int.reduceLE, Int.reduceEq, Bool.false_eq_true, Option.bind_some, Option.map_some, List.set_cons_zero, List.set_cons_succ, List.toList_toArray, List.size_toArray, List.length_cons, List.length_nil, List.getElem?_toArray, List.getElem?_cons_zero, List.getElem?_cons_succ, List.drop_zero, List.take_succ_cons, List.take_zero, Oct.bl]
    rw [← hHP]
    refine ⟨?_, X⟩
    rw [V, List.drop_of_length_le (by omega)]
    cases l.length - p <;> rfl
end Go.Proofs.YtcdnnpbpadhgeaaDoor
