/- math/bits.Len of whole numbers; the xorshift; breakPatternsOrdered. No condition. -/
import Derived.Test.YtjdcdabbbmhffaaPart
set_option linter.unusedVariables false
set_option linter.unusedSimpArgs false
namespace Go.Proofs.Ytjdcdabbbmhffaa
open Go.Ev
open Go.Sort (swp ltInt)
variable {n0 : Nat} {h : H}
theorem shrU {x k : Nat} (hk : k ≤ 64) : iShr .u64 (x : Int) (k : Int) = ((x / 2 ^ k : Nat) : Int) := by
  unfold iShr
  have e : min ((k : Int)).toNat IntKind.u64.bits = k := by rw [Int.toNat_natCast]; show min k 64 = _; omega
  rw [e, Int.fdiv_eq_ediv_of_nonneg _ (Int.pow_nonneg (by decide))]
  rw [show (2 : Int) ^ k = ((2 ^ k : Nat) : Int) from by rw [Int.natCast_pow]; rfl]
  exact (Int.natCast_ediv x (2 ^ k)).symm
/-- L bits are enough for x, and not too many -/
def LenS (x L : Nat) : Prop := x < 2 ^ L ∧ 2 ^ L ≤ 2 * x
theorem LenS.shift {x k L : Nat} (h : LenS (x / 2 ^ k) L) : LenS x (k + L) := by
  obtain ⟨h1, h2⟩ := h
  have hp : 0 < 2 ^ k := Nat.pow_pos (by omega)
  refine ⟨?_, ?_⟩
  · rw [Nat.pow_add, Nat.mul_comm]; exact (Nat.div_lt_iff_lt_mul hp).1 h1
  · have := Nat.mul_le_mul_left (2 ^ k) h2
    rw [Nat.pow_add]
    have h3 := Nat.mul_div_le x (2 ^ k)
    have e : 2 ^ k * (2 * (x / 2 ^ k)) = 2 * (2 ^ k * (x / 2 ^ k)) := by rw [Nat.mul_left_comm]
    omega
set_option maxRecDepth 20000 in
theorem Len64_ok {x : Nat} (h1 : 1 ≤ x) (h2 : x < 2 ^ 62) : Cn Try.prog n0 (.func 71) [.int .u64 x] h (fun v h' => h' = h ∧ ∃ L : Nat, v = .int .i64 L ∧ LenS x L) := by
  refine F71.enter ?_
  obtain ⟨HP, hHP⟩ : ∃ HP : Value → H → Prop, (fun v h' => h' = h ∧ ∃ L : Nat, v = .int .i64 L ∧ LenS x L) = HP := ⟨_, rfl⟩
  rw [hHP, F71.e0]
  have last : ∀ n : Nat, 1 ≤ x / 2 ^ n → x / 2 ^ n < 256 → n ≤ 56 → F71.p6 n0 [(0, .int .u64 (x / 2 ^ n : Nat)), (2, .int .i64 n)] [] h (KFin Try.prog [ResultVar.tmp 2] HP) := by
    intro n hy hy2 hn
    rw [F71.e6]
    simp (disch := first | omega | assumption | exact isC_last | exact isC_app (by first | assumption | exact isC_last | exact isC_app (by first | assumption | exact isC_last)) | (simp [oneC]; done) | fail) only [F71.t6, evs0, evs1, evs2, evs3, evs4, evs5, evs6, evs7, evs8, if_true, if_false, ↓reduceIte, Nat.reduceEqDiff, Nat.reduceAdd, Nat.reduceMul, Nat.reduceSub, Nat.reduceLeDiff, Int.reduceLT, Int.reduceLE, Int.reduceEq, Bool.false_eq_true, Option.bind_some, Option.map_some, List.set_cons_zero, List.set_cons_succ, List.toList_toArray, List.size_toArray, List.length_cons, List.length_nil, List.getElem?_toArray, List.getElem?_cons_zero, List.getElem?_cons_succ, List.drop_zero, List.take_succ_cons, List.take_zero]
    rw [IntWalk.u8_in _ (by omega)]
    rw [if_pos (by omega), Int.toNat_natCast]
    generalize hT : (ByteArray.mk _) = T
    have key := byte_all (p := fun y => y == 0 || match T[y]? with | some b => decide (b.toNat ≤ 8) && decide (y < 2 ^ b.toNat) && decide (2 ^ b.toNat ≤ 2 * y) | none => false) (by rw [← hT]; decide +kernel) (x / 2 ^ n) hy2
    simp only [Bool.or_eq_true, beq_iff_eq] at key
    replace key := key.resolve_left (by omega)
    cases hb : T[x / 2 ^ n]? with
    | none => rw [hb] at key; cases key
    | some b =>
      rw [hb] at key
      simp only [Bool.and_eq_true, decide_eq_true_eq] at key
      simp (disch := first | omega | assumption | exact isC_last | exact isC_app (by first | assumption | exact isC_last | exact isC_app (by first | assumption | exact isC_last)) | (simp [oneC]; done) | fail) only [evs0, evs1, evs2, evs3, evs4, evs5, evs6, evs7, evs8, if_true, if_false, ↓reduceIte, Nat.reduceEqDiff, Nat.reduceAdd, Nat.reduceMul, Nat.reduceSub, Nat.reduceLeDiff, Int.reduceLT, Int.reduceLE, Int.reduceEq, Bool.false_eq_true, Option.bind_some, Option.map_some, List.set_cons_zero, List.set_cons_succ, List.toList_toArray, List.size_toArray, List.length_cons, List.length_nil, List.getElem?_toArray, List.getElem?_cons_zero, List.getElem?_cons_succ, List.drop_zero, List.take_succ_cons, List.take_zero]
      rw [IntWalk.i64_in (b.toNat : Int) (by omega), IntWalk.i64_in _ (by omega), ← hHP]
      exact ⟨rfl, n + b.toNat, rfl, LenS.shift ⟨key.1.2, key.2⟩⟩
  have mid : ∀ n : Nat, 1 ≤ x / 2 ^ n → x / 2 ^ n < 65536 → n ≤ 48 → F71.p4 n0 [(0, .int .u64 (x / 2 ^ n : Nat)), (2, .int .i64 n)] [] h (KFin Try.prog [ResultVar.tmp 2] HP) := by
    intro n hy hy2 hn
    rw [F71.e4]
    simp (disch := first | omega | assumption | exact isC_last | exact isC_app (by first | assumption | exact isC_last | exact isC_app (by first | assumption | exact isC_last)) | (simp [oneC]; done) | fail) only [F71.t4, evs0, evs1, evs2, evs3, evs4, evs5, evs6, evs7, evs8, if_true, if_false, ↓reduceIte, Nat.reduceEqDiff, Nat.reduceAdd, Nat.reduceMul, Nat.reduceSub, Nat.reduceLeDiff, Int.reduceLT, Int.reduceLE, Int.reduceEq, Bool.false_eq_true, Option.bind_some, Option.map_some, List.set_cons_zero, List.set_cons_succ, List.toList_toArray, List.size_toArray, List.length_cons, List.length_nil, List.getElem?_toArray, List.getElem?_cons_zero, List.getElem?_cons_succ, List.drop_zero, List.take_succ_cons, List.take_zero]
    by_cases hb : x / 2 ^ n < 256
    · rw [if_neg (by omega)]
      exact last n hy hb (by omega)
    · rw [if_pos (by omega), F71.e5]
      simp (disch := first | omega | assumption | exact isC_last | exact isC_app (by first | assumption | exact isC_last | exact isC_app (by first | assumption | exact isC_last)) | (simp [oneC]; done) | fail) only [F71.t5, bShr, evs0, evs1, evs2, evs3, evs4, evs5, evs6, evs7, evs8, if_true, if_false, ↓reduceIte, Nat.reduceEqDiff, Nat.reduceAdd, Nat.reduceMul, Nat.reduceSub, Nat.reduceLeDiff, Int.reduceLT, Int.reduceLE, Int.reduceEq, Bool.false_eq_true, Option.bind_some, Option.map_some, List.set_cons_zero, List.set_cons_succ, List.toList_toArray, List.size_toArray, List.length_cons, List.length_nil, List.getElem?_toArray, List.getElem?_cons_zero, List.getElem?_cons_succ, List.drop_zero, List.take_succ_cons, List.take_zero]
      rw [show (8 : Int) = ((8 : Nat) : Int) from rfl, shrU (by omega), IntWalk.i64_in _ (by omega)]
      have e : x / 2 ^ n / 2 ^ 8 = x / 2 ^ (n + 8) := by rw [Nat.div_div_eq_div_mul, ← Nat.pow_add]
      rw [e]
      exact last (n + 8) (by rw [← e]; omega) (by rw [← e]; omega) (by omega)
  have top : ∀ n : Nat, 1 ≤ x / 2 ^ n → x / 2 ^ n < 4294967296 → n ≤ 32 → F71.p2 n0 [(0, .int .u64 (x / 2 ^ n : Nat)), (2, .int .i64 n)] [] h (KFin Try.prog [ResultVar.tmp 2] HP) := by
    intro n hy hy2 hn
    rw [F71.e2]
    simp (disch := first | omega | assumption | exact isC_last | exact isC_app (by first | assumption | exact isC_last | exact isC_app (by first | assumption | exact isC_last)) | (simp [oneC]; done) | fail) only [F71.t2, evs0, evs1, evs2, evs3, evs4, evs5, evs6, evs7, evs8, if_true, if_false, ↓reduceIte, Nat.reduceEqDiff, Nat.reduceAdd, Nat.reduceMul, Nat.reduceSub, Nat.reduceLeDiff, Int.reduceLT, Int.reduceLE, Int.reduceEq, Bool.false_eq_true, Option.bind_some, Option.map_some, List.set_cons_zero, List.set_cons_succ, List.toList_toArray, List.size_toArray, List.length_cons, List.length_nil, List.getElem?_toArray, List.getElem?_cons_zero, List.getElem?_cons_succ, List.drop_zero, List.take_succ_cons, List.take_zero]
    by_cases hb : x / 2 ^ n < 65536
    · rw [if_neg (by omega)]
      exact mid n hy hb (by omega)
    · rw [if_pos (by omega), F71.e3]
      simp (disch := first | omega | assumption | exact isC_last | exact isC_app (by first | assumption | exact isC_last | exact isC_app (by first | assumption | exact isC_last)) | (simp [oneC]; done) | fail) only [F71.t3, bShr, evs0, evs1, evs2, evs3, evs4, evs5, evs6, evs7, evs8, if_true, if_false, ↓reduceIte, Nat.reduceEqDiff, Nat.reduceAdd, Nat.reduceMul, Nat.reduceSub, Nat.reduceLeDiff, Int.reduceLT, Int.reduceLE, Int.reduceEq, Bool.false_eq_true, Option.bind_some, Option.map_some, List.set_cons_zero, List.set_cons_succ, List.toList_toArray, List.size_toArray, List.length_cons, List.length_nil, List.getElem?_toArray, List.getElem?_cons_zero, List.getElem?_cons_succ, List.drop_zero, List.take_succ_cons, List.take_zero]
      rw [show (16 : Int) = ((16 : Nat) : Int) from rfl, shrU (by omega), IntWalk.i64_in _ (by omega)]
      have e : x / 2 ^ n / 2 ^ 16 = x / 2 ^ (n + 16) := by rw [Nat.div_div_eq_div_mul, ← Nat.pow_add]
      rw [e]
      exact mid (n + 16) (by rw [← e]; omega) (by rw [← e]; omega) (by omega)
  simp (disch := first | omega | assumption | exact isC_last | exact isC_app (by first | assumption | exact isC_last | exact isC_app (by first | assumption | exact isC_last)) | (simp [oneC]; done) | fail) only [F71.t0, evs0, evs1, evs2, evs3, evs4, evs5, evs6, evs7, evs8, if_true, if_false, ↓reduceIte, Nat.reduceEqDiff, Nat.reduceAdd, Nat.reduceMul, Nat.reduceSub, Nat.reduceLeDiff, Int.reduceLT, Int.reduceLE, Int.reduceEq, Bool.false_eq_true, Option.bind_some, Option.map_some, List.set_cons_zero, List.set_cons_succ, List.toList_toArray, List.size_toArray, List.length_cons, List.length_nil, List.getElem?_toArray, List.getElem?_cons_zero, List.getElem?_cons_succ, List.drop_zero, List.take_succ_cons, List.take_zero]
  by_cases hb : x < 4294967296
  · rw [if_neg (by omega)]
    have := top 0 (by simpa using h1) (by simpa using hb) (by omega)
    rw [Nat.pow_zero, Nat.div_one] at this
    exact this
  · rw [if_pos (by omega), F71.e1]
    simp (disch := first | omega | assumption | exact isC_last | exact isC_app (by first | assumption | exact isC_last | exact isC_app (by first | assumption | exact isC_last)) | (simp [oneC]; done) | fail) only [F71.t1, bShr, evs0, evs1, evs2, evs3, evs4, evs5, evs6, evs7, evs8, if_true, if_false, ↓reduceIte, Nat.reduceEqDiff, Nat.reduceAdd, Nat.reduceMul, Nat.reduceSub, Nat.reduceLeDiff, Int.reduceLT, Int.reduceLE, Int.reduceEq, Bool.false_eq_true, Option.bind_some, Option.map_some, List.set_cons_zero, List.set_cons_succ, List.toList_toArray, List.size_toArray, List.length_cons, List.length_nil, List.getElem?_toArray, List.getElem?_cons_zero, List.getElem?_cons_succ, List.drop_zero, List.take_succ_cons, List.take_zero]
    rw [show (32 : Int) = ((32 : Nat) : Int) from rfl, shrU (by omega)]
    exact top 32 (by omega) (by omega) (by omega)
set_option maxRecDepth 20000 in
theorem Len_ok {x : Nat} (h1 : 1 ≤ x) (h2 : x < 2 ^ 62) : Cn Try.prog n0 (.func 60) [.int .u64 x] h (fun v h' => h' = h ∧ ∃ L : Nat, v = .int .i64 L ∧ LenS x L) := by
  refine F60.enter ?_
  obtain ⟨HP, hHP⟩ : ∃ HP : Value → H → Prop, (fun v h' => h' = h ∧ ∃ L : Nat, v = .int .i64 L ∧ LenS x L) = HP := ⟨_, rfl⟩
  rw [hHP, F60.e0]
  unfold F60.t0
  rw [F60.e2]
  unfold F60.t2
  refine (Len64_ok h1 h2).mono ?_
  rintro _ h' ⟨rfl, L, rfl, hL⟩
  simp (disch := first | omega | assumption | exact isC_last | exact isC_app (by first | assumption | exact isC_last | exact isC_app (by first | assumption | exact isC_last)) | (simp [oneC]; done) | fail) only [evs0, evs1, evs2, evs3, evs4, evs5, evs6, evs7, evs8, if_true, if_false, ↓reduceIte, Nat.reduceEqDiff, Nat.reduceAdd, Nat.reduceMul, Nat.reduceSub, Nat.reduceLeDiff, Int.reduceLT, Int.reduceLE, Int.reduceEq, Bool.false_eq_true, Option.bind_some, Option.map_some, List.set_cons_zero, List.set_cons_succ, List.toList_toArray, List.size_toArray, List.length_cons, List.length_nil, List.getElem?_toArray, List.getElem?_cons_zero, List.getElem?_cons_succ, List.drop_zero, List.take_succ_cons, List.take_zero]
  rw [← hHP]
  exact ⟨rfl, L, rfl, hL⟩
theorem pow_lt_of {x L : Nat} (h : LenS x L) (h2 : x < 2 ^ 61) : L ≤ 61 := by
  have : 2 ^ L < 2 ^ 62 := by have := h.2; omega
  have := (Nat.pow_lt_pow_iff_right (a := 2) (by omega)).1 this
  omega
set_option maxRecDepth 20000 in
theorem nextPow_ok {x : Nat} (h1 : 1 ≤ x) (h2 : x < 2 ^ 61) : Cn Try.prog n0 (.func 73) [.int .i64 x] h (fun v h' => h' = h ∧ ∃ L : Nat, v = .int .u64 (2 ^ L : Nat) ∧ LenS x L ∧ L ≤ 61) := by
  refine F73.enter ?_
  obtain ⟨HP, hHP⟩ : ∃ HP : Value → H → Prop, (fun v h' => h' = h ∧ ∃ L : Nat, v = .int .u64 (2 ^ L : Nat) ∧ LenS x L ∧ L ≤ 61) = HP := ⟨_, rfl⟩
  rw [hHP, F73.e0]
  simp (disch := first | omega | assumption | exact isC_last | exact isC_app (by first | assumption | exact isC_last | exact isC_app (by first | assumption | exact isC_last)) | (simp [oneC]; done) | fail) only [F73.t0, evs0, evs1, evs2, evs3, evs4, evs5, evs6, evs7, evs8, if_true, if_false, ↓reduceIte, Nat.reduceEqDiff, Nat.reduceAdd, Nat.reduceMul, Nat.reduceSub, Nat.reduceLeDiff, Int.reduceLT, Int.reduceLE, Int.reduceEq, Bool.false_eq_true, Option.bind_some, Option.map_some, List.set_cons_zero, List.set_cons_succ, List.toList_toArray, List.size_toArray, List.length_cons, List.length_nil, List.getElem?_toArray, List.getElem?_cons_zero, List.getElem?_cons_succ, List.drop_zero, List.take_succ_cons, List.take_zero]
  rw [IntWalk.u64_in _ (by omega)]
  refine (Len_ok h1 (by omega)).mono ?_
  rintro _ h' ⟨rfl, L, rfl, hL⟩
  have h61 := pow_lt_of hL h2
  refine Bnd_i (bShl (by omega)) ?_
  have e : iShl .u64 1 (L : Int) = ((2 ^ L : Nat) : Int) := by
    unfold iShl
    have e : min ((L : Int)).toNat IntKind.u64.bits = L := by rw [Int.toNat_natCast]; show min L 64 = _; omega
    have hp : 2 ^ L ≤ 2 ^ 61 := Nat.pow_le_pow_right (by omega) h61
    rw [e, Int.one_mul, show (2 : Int) ^ L = ((2 ^ L : Nat) : Int) from by rw [Int.natCast_pow]; rfl]
    exact IntWalk.u64_in _ ⟨Int.natCast_nonneg _, by have : ((2 ^ L : Nat) : Int) ≤ ((2 ^ 61 : Nat) : Int) := Int.ofNat_le.2 hp; omega⟩
  rw [e, ← hHP]
  exact ⟨rfl, L, rfl, hL, h61⟩
theorem wrapU (z : Int) : ∃ x : Nat, IntKind.u64.wrap z = (x : Int) ∧ x < 2 ^ 64 := by
  refine ⟨(z % 2 ^ 64).toNat, ?_, ?_⟩
  · have := Int.emod_nonneg z (show (2 ^ 64 : Int) ≠ 0 by decide)
    have e : IntKind.u64.wrap z = z % 2 ^ 64 := rfl
    rw [e]; omega
  · have := Int.emod_nonneg z (show (2 ^ 64 : Int) ≠ 0 by decide)
    have := Int.emod_lt_of_pos z (show (0 : Int) < 2 ^ 64 by decide)
    omega
theorem iXorU (a b : Int) : ∃ x : Nat, iXor .u64 a b = (x : Int) ∧ x < 2 ^ 64 := wrapU _
end Go.Proofs.Ytjdcdabbbmhffaa
