/- Base64 and Unbase64. No condition. -/
import Derived.Test.YtcdnnpbpadhgeaaDoorUnhex
import Derived.Test.YtcdnnpbpadhgeaaDoorFc
set_option linter.unusedVariables false
set_option linter.unusedSimpArgs false
namespace Oct
open Go Go.Ev
theorem iAnd_i64 {a b : Nat} (ha : a < 2 ^ 63) (hb : b < 2 ^ 63) : iAnd .i64 a b = ((a &&& b : Nat) : Int) := by
  have : a &&& b < 2 ^ 63 := Nat.and_lt_two_pow _ (by omega)
  unfold iAnd
  rw [ofInt_nat, ofInt_nat, BitVec.toNat_and, BitVec.toNat_ofNat, BitVec.toNat_ofNat]
  simp only [IntKind.bits]
  rw [Nat.mod_eq_of_lt (by omega), Nat.mod_eq_of_lt (by omega), IntWalk.i64_in _ (by omega)]
theorem iOr_i64 {a b : Nat} (ha : a < 2 ^ 63) (hb : b < 2 ^ 63) : iOr .i64 a b = ((a ||| b : Nat) : Int) := by
  have : a ||| b < 2 ^ 63 := Nat.or_lt_two_pow (by omega) (by omega)
  unfold iOr
  rw [ofInt_nat, ofInt_nat, BitVec.toNat_or, BitVec.toNat_ofNat, BitVec.toNat_ofNat]
  simp only [IntKind.bits]
  rw [Nat.mod_eq_of_lt (by omega), Nat.mod_eq_of_lt (by omega), IntWalk.i64_in _ (by omega)]
theorem iShl_i64 {a k : Nat} (hk : k < 64) (ha : a * 2 ^ k < 2 ^ 63) : iShl .i64 a k = ((a * 2 ^ k : Nat) : Int) := by
  unfold iShl
  have e : min ((k : Int).toNat) IntKind.i64.bits = k := by simp only [IntKind.bits, Int.toNat_natCast]; omega
  rw [e]
  have e2 : ((a : Int) * 2 ^ k) = ((a * 2 ^ k : Nat) : Int) := by simp
  rw [e2, IntWalk.i64_in _ (by omega)]
theorem iShr_i64 {a k : Nat} (hk : k < 64) : iShr .i64 a k = ((a / 2 ^ k : Nat) : Int) := by
  unfold iShr
  have e : min ((k : Int).toNat) IntKind.i64.bits = k := by simp only [IntKind.bits, Int.toNat_natCast]; omega
  rw [e, Int.fdiv_eq_ediv_of_nonneg _ (by exact_mod_cast Nat.zero_le _)]
  simp
theorem and63 {a : Nat} : a &&& 63 = a % 64 := Nat.and_two_pow_sub_one_eq_mod a 6
theorem and16 {a : Nat} : a &&& 65535 = a % 65536 := Nat.and_two_pow_sub_one_eq_mod a 16
def letl : List UInt8 := [65, 66, 67, 68, 69, 70, 71, 72, 73, 74, 75, 76, 77, 78, 79, 80, 81, 82, 83, 84, 85, 86, 87, 88, 89, 90, 97, 98, 99, 100, 101, 102, 103, 104, 105, 106, 107, 108, 109, 110, 111, 112, 113, 114, 115, 116, 117, 118, 119, 120, 121, 122, 48, 49, 50, 51, 52, 53, 54, 55, 56, 57, 43, 47]
theorem letl_bs : (⟨#[65, 66, 67, 68, 69, 70, 71, 72, 73, 74, 75, 76, 77, 78, 79, 80, 81, 82, 83, 84, 85, 86, 87, 88, 89, 90, 97, 98, 99, 100, 101, 102, 103, 104, 105, 106, 107, 108, 109, 110, 111, 112, 113, 114, 115, 116, 117, 118, 119, 120, 121, 122, 48, 49, 50, 51, 52, 53, 54, 55, 56, 57, 43, 47]⟩ : ByteArray) = bs letl := rfl
theorem letl_at {n : Nat} (h : n < 64) : at' letl n = (lett n).toNat := by
  have : (List.range 64).all (fun n => decide (at' letl n = (lett n).toNat)) = true := by decide +kernel
  exact of_decide_eq_true (List.all_eq_true.1 this n (List.mem_range.2 h))
def lv (c : UInt8) : Int := match lval c with | some a => a | none => -1
theorem let_ix (c : UInt8) : Lib.indexByte letl c = lv c := by
  have := byte_all (p := fun n => decide (Lib.indexByte letl (UInt8.ofNat n) = lv (UInt8.ofNat n))) (by decide +kernel) c.toNat (u8_lt c)
  have := of_decide_eq_true this
  rwa [show UInt8.ofNat c.toNat = c by simp] at this
theorem lval_lt {c : UInt8} {v : Nat} (h : lval c = some v) : v < 64 := by
  have hc := u8_lt c
  unfold lval at h
  repeat' split at h
  all_goals first | (cases h; omega) | cases h
theorem grp_lt (l : List UInt8) : ∀ j, grp l j < 256 ^ j
  | 0 => by simp [grp]
  | j + 1 => by
    have := grp_lt l j
    have := at_lt (l := l) (k := j)
    simp only [grp, Nat.pow_succ]
    omega
theorem at_end {l : List UInt8} {i : Nat} (h : l.length ≤ i) : at' l i = 0 := by
  unfold at'
  rw [List.getD_eq_getElem?_getD, List.getElem?_eq_none h]; rfl
theorem chunk_len (l : List UInt8) : (chunk l).length = 4 := by simp [chunk]
theorem b64F_nil (k : Nat) : b64F k [] = [] := by cases k <;> simp [b64F]
theorem b64F_more {k j : Nat} {l : List UInt8} : l.length ≤ k → l.length ≤ j → b64F k l = b64F j l := by
  induction k generalizing j l with
  | zero => intro h1 h2; obtain rfl := List.eq_nil_of_length_eq_zero (l := l) (by omega); rw [b64F_nil, b64F_nil]
  | succ k ih =>
    intro h1 h2
    by_cases hl : l = []
    · subst hl; rw [b64F_nil, b64F_nil]
    · have := List.length_pos_iff.2 hl
      cases j with
      | zero => omega
      | succ j =>
        simp only [b64F]
        rw [if_neg hl, if_neg hl, ih (j := j) (by rw [List.length_drop]; omega) (by rw [List.length_drop]; omega)]
theorem b64S_step {l : List UInt8} (h : l ≠ []) : b64S l = chunk l ++ b64S (l.drop 3) := by
  have := List.length_pos_iff.2 h
  unfold b64S
  obtain ⟨k, hk⟩ : ∃ k, l.length = k + 1 := ⟨l.length - 1, by omega⟩
  rw [hk]
  simp only [b64F]
  rw [if_neg h]
  congr 1
  exact b64F_more (by rw [List.length_drop]; omega) (by rw [List.length_drop]; omega)
theorem b64S_len (n : Nat) : ∀ {l : List UInt8}, l.length ≤ n → 3 * (b64S l).length ≤ 4 * (l.length + 2) ∧ 4 * l.length ≤ 3 * (b64S l).length := by
  induction n with
  | zero => intro l hl; obtain rfl := List.eq_nil_of_length_eq_zero (l := l) (by omega); simp [b64S, b64F]
  | succ n ih =>
    intro l hl
    by_cases h : l = []
    · subst h; simp [b64S, b64F]
    · have := List.length_pos_iff.2 h
      rw [b64S_step h, List.length_append, chunk_len]
      have := ih (l := l.drop 3) (by rw [List.length_drop]; omega)
      rw [List.length_drop] at this
      by_cases h3 : l.length ≤ 3
      · have e : l.drop 3 = [] := List.drop_of_length_le h3
        rw [e] at this ⊢
        have : (b64S []).length = 0 := rfl
        omega
      · omega
theorem or_low {a v : Nat} (hv : v < 64) : (64 * a) ||| v = 64 * a + v := or_shl (i := 6) hv
theorem nxt {n v : Nat} (hn : n < 65536) (hv : v < 64) : (n * 2 ^ 6 &&& 65535) ||| v = (64 * n + v) % 65536 := by
  rw [and16, show n * 2 ^ 6 % 65536 = 64 * (n % 1024) by omega, or_low hv]
  omega
theorem unS_len : ∀ (l : List UInt8) (n k : Nat), k < 8 → 8 * (unS n k l).length ≤ 6 * l.length + k
  | [], n, k, hk => by simp [unS]
  | c :: r, n, k, hk => by
    simp only [unS]
    cases lval c with
    | none => simp
    | some v =>
      simp only
      split
      · have := unS_len r ((64 * n + v) % 65536) (k - 2) (by omega)
        simp only [List.length_cons]; omega
      · have := unS_len r ((64 * n + v) % 65536) (k + 6) (by omega)
        simp only [List.length_cons]; omega
end Oct
namespace Go.Proofs.YtcdnnpbpadhgeaaDoor
open Go.Ev Oct
variable {n0 : Nat} {h : H}
set_option maxRecDepth 20000 in
theorem Base64_ok {l : List UInt8} (hl : 4 * (l.length + 2) + 6000 ≤ 9 * 2 ^ 46) : Cn Tryd.prog n0 (.func 24) [.string (bs l)] h (fun v h' => v = .string (bs (b64S l)) ∧ Ext h h') := by
  refine F24.enter ?_
  obtain ⟨HP, hHP⟩ : ∃ HP : Value → H → Prop, (fun v h' => v = .string (bs (b64S l)) ∧ Ext h h') = HP := ⟨_, rfl⟩
  rw [hHP, F24.e0]
  simp (disch := first | omega | assumption | exact isC_last | exact isC_app (by first | assumption | exact isC_last | exact isC_app (by first | assumption | exact isC_last)) | (simp [oneC]; done) | fail) only [F24.t0, evs0, evs1, evs2, evs3, evs4, evs5, evs6, if_true, if_false, ↓reduceIte, Nat.reduceEqDiff, Nat.reduceAdd, Nat.reduceMul, Nat.reduceSub, Nat.reduceLeDiff, Int.reduceLT, Int.reduceLE, Int.reduceEq, Bool.false_eq_true, Option.bind_some, Option.map_some, List.set_cons_zero, List.set_cons_succ, List.toList_toArray, List.size_toArray, List.length_cons, List.length_nil, List.getElem?_toArray, List.getElem?_cons_zero, List.getElem?_cons_succ, List.drop_zero, List.take_succ_cons, List.take_zero, Oct.bl]
  have B0 := Bd.new (h := h) (T := 0)
  have hL := (b64S_len l.length (Nat.le_refl _)).1
  refine Lp_ind (fun m fr hh => ∃ p a : List UInt8, fr = [(0, .string (bs p)), (3, .pointer (some ⟨h.length, 0, none⟩))] ∧ p.length ≤ l.length ∧ b64S l = a ++ b64S p ∧ Bd (h.length + 1) hh h.length a ∧ Sv (h.length + 1) h.length (h ++ [.cells true (enc 0 35) [.pointer none, .slice none 0 0]]) hh ∧ m = p.length) (F24.m1 n0) l.length
    ⟨l, [], by simp (disch := first | omega | assumption | exact isC_last | exact isC_app (by first | assumption | exact isC_last | exact isC_app (by first | assumption | exact isC_last)) | (simp [oneC]; done) | fail) only [evs0, evs1, evs2, evs3, evs4, evs5, evs6, if_true, if_false, ↓reduceIte, Nat.reduceEqDiff, Nat.reduceAdd, Nat.reduceMul, Nat.reduceSub, Nat.reduceLeDiff, Int.reduceLT, Int.reduceLE, Int.reduceEq, Bool.false_eq_true, Option.bind_some, Option.map_some, List.set_cons_zero, List.set_cons_succ, List.toList_toArray, List.size_toArray, List.length_cons, List.length_nil, List.getElem?_toArray, List.getElem?_cons_zero, List.getElem?_cons_succ, List.drop_zero, List.take_succ_cons, List.take_zero, Oct.bl], by simp, by simp, B0, Sv.refl, rfl⟩ ?_
  rintro m fr hh ⟨p, a, rfl, hp, E, B, S, rfl⟩
  rw [F24.e1]
  simp (disch := first | omega | assumption | exact isC_last | exact isC_app (by first | assumption | exact isC_last | exact isC_app (by first | assumption | exact isC_last)) | (simp [oneC]; done) | fail) only [F24.t1, nil_bs, evs0, evs1, evs2, evs3, evs4, evs5, evs6, if_true, if_false, ↓reduceIte, Nat.reduceEqDiff, Nat.reduceAdd, Nat.reduceMul, Nat.reduceSub, Nat.reduceLeDiff, Int.reduceLT, Int.reduceLE, Int.reduceEq, Bool.false_eq_true, Option.bind_some, Option.map_some, List.set_cons_zero, List.set_cons_succ, List.toList_toArray, List.size_toArray, List.length_cons, List.length_nil, List.getElem?_toArray, List.getElem?_cons_zero, List.getElem?_cons_succ, List.drop_zero, List.take_succ_cons, List.take_zero, Oct.bl]
  by_cases h0 : p = []
  · rw [if_pos h0, F24.e14]
    unfold F24.t14
    have ea : b64S l = a := by rw [E, h0]; simp [b64S, b64F]
    refine (String_ok B (by rw [← ea]; omega)).mono ?_
    rintro _ h1 ⟨rfl, S1⟩
    simp (disch := first | omega | assumption | exact isC_last | exact isC_app (by first | assumption | exact isC_last | exact isC_app (by first | assumption | exact isC_last)) | (simp [oneC]; done) | fail) only [evs0, evs1, evs2, evs3, evs4, evs5, evs6, if_true, if_false, ↓reduceIte, Nat.reduceEqDiff, Nat.reduceAdd, Nat.reduceMul, Nat.reduceSub, Nat.reduceLeDiff, Int.reduceLT, Int.reduceLE, Int.reduceEq, Bool.false_eq_true, Option.bind_some, Option.map_some, List.set_cons_zero, List.set_cons_succ, List.toList_toArray, List.size_toArray, List.length_cons, List.length_nil, List.getElem?_toArray, List.getElem?_cons_zero, List.getElem?_cons_succ, List.drop_zero, List.take_succ_cons, List.take_zero, Oct.bl]
    rw [← hHP, ea]
    exact ⟨rfl, (S.trans S1).to_ext⟩
  · rw [if_neg h0, F24.e2]
    have hp1 := List.length_pos_iff.2 h0
    rw [b64S_step h0] at E
    have ha : a.length + 4 + 1100 ≤ 3 * 2 ^ 46 := by
      have := congrArg List.length E
      rw [List.length_append, List.length_append, chunk_len] at this
      omega
    simp (disch := first | omega | assumption | exact isC_last | exact isC_app (by first | assumption | exact isC_last | exact isC_app (by first | assumption | exact isC_last)) | (simp [oneC]; done) | fail) only [F24.t2, evs0, evs1, evs2, evs3, evs4, evs5, evs6, if_true, if_false, ↓reduceIte, Nat.reduceEqDiff, Nat.reduceAdd, Nat.reduceMul, Nat.reduceSub, Nat.reduceLeDiff, Int.reduceLT, Int.reduceLE, Int.reduceEq, Bool.false_eq_true, Option.bind_some, Option.map_some, List.set_cons_zero, List.set_cons_succ, List.toList_toArray, List.size_toArray, List.length_cons, List.length_nil, List.getElem?_toArray, List.getElem?_cons_zero, List.getElem?_cons_succ, List.drop_zero, List.take_succ_cons, List.take_zero, Oct.bl]
    -- the group
    refine Lp_ind (fun m fr h2 => h2 = hh ∧ ∃ j : Nat, fr = [(0, .string (bs p)), (3, .pointer (some ⟨h.length, 0, none⟩)), (4, .int .i64 (grp p j)), (14, .int .i64 j)] ∧ j ≤ 3 ∧ m = 3 - j) (F24.m3 n0) 3 ⟨rfl, 0, by simp (disch := first | omega | assumption | exact isC_last | exact isC_app (by first | assumption | exact isC_last | exact isC_app (by first | assumption | exact isC_last)) | (simp [oneC]; done) | fail) only [evs0, evs1, evs2, evs3, evs4, evs5, evs6, if_true, if_false, ↓reduceIte, Nat.reduceEqDiff, Nat.reduceAdd, Nat.reduceMul, Nat.reduceSub, Nat.reduceLeDiff, Int.reduceLT, Int.reduceLE, Int.reduceEq, Bool.false_eq_true, Option.bind_some, Option.map_some, List.set_cons_zero, List.set_cons_succ, List.toList_toArray, List.size_toArray, List.length_cons, List.length_nil, List.getElem?_toArray, List.getElem?_cons_zero, List.getElem?_cons_succ, List.drop_zero, List.take_succ_cons, List.take_zero, Oct.bl]; rfl, by omega, rfl⟩ ?_
    rintro m fr h2 ⟨rfl, j, rfl, hj, rfl⟩
    rw [F24.e3]
    simp (disch := first | omega | assumption | exact isC_last | exact isC_app (by first | assumption | exact isC_last | exact isC_app (by first | assumption | exact isC_last)) | (simp [oneC]; done) | fail) only [F24.t3, evs0, evs1, evs2, evs3, evs4, evs5, evs6, if_true, if_false, ↓reduceIte, Nat.reduceEqDiff, Nat.reduceAdd, Nat.reduceMul, Nat.reduceSub, Nat.reduceLeDiff, Int.reduceLT, Int.reduceLE, Int.reduceEq, Bool.false_eq_true, Option.bind_some, Option.map_some, List.set_cons_zero, List.set_cons_succ, List.toList_toArray, List.size_toArray, List.length_cons, List.length_nil, List.getElem?_toArray, List.getElem?_cons_zero, List.getElem?_cons_succ, List.drop_zero, List.take_succ_cons, List.take_zero, Oct.bl]
    by_cases h3 : j < 3
    · rw [if_pos (by omega), F24.e4]
      have hg : grp p j < 256 ^ j := grp_lt p j
      have hg2 : grp p j < 65536 := Nat.lt_of_lt_of_le hg (Nat.pow_le_pow_right (by omega) (show j ≤ 2 by omega))
      simp (disch := first | omega | assumption | exact isC_last | exact isC_app (by first | assumption | exact isC_last | exact isC_app (by first | assumption | exact isC_last)) | (simp [oneC]; done) | fail) only [F24.t4, len_str un_9, bQuo, bRem, bShl, bShr, IntWalk.i64_in, IntWalk.u64_in, IntWalk.u8_in, IntWalk.i8_in, IntWalk.u32_in, IntWalk.i32_in, IntWalk.u8_quo, IntWalk.i64_quo, IntWalk.u64_quo, IntWalk.rem_in, evs0, evs1, evs2, evs3, evs4, evs5, evs6, if_true, if_false, ↓reduceIte, Nat.reduceEqDiff, Nat.reduceAdd, Nat.reduceMul, Nat.reduceSub, Nat.reduceLeDiff, Int.reduceLT, Int.reduceLE, Int.reduceEq, Bool.false_eq_true, Option.bind_some, Option.map_some, List.set_cons_zero, List.set_cons_succ, List.toList_toArray, List.size_toArray, List.length_cons, List.length_nil, List.getElem?_toArray, List.getElem?_cons_zero, List.getElem?_cons_succ, List.drop_zero, List.take_succ_cons, List.take_zero, Oct.bl]
      rw [show (8 : Int) = ((8 : Nat) : Int) from rfl, iShl_i64 (by omega) (by omega)]
      by_cases h4 : j < p.length
      · rw [if_pos (by omega), F24.e5]
        unfold F24.t5
        refine Bnd_i (ix_bs un_9 (by omega) (by omega)) ?_
        rw [Int.toNat_natCast]
        have hb := at_lt (l := p) (k := j)
        simp (disch := first | omega | assumption | exact isC_last | exact isC_app (by first | assumption | exact isC_last | exact isC_app (by first | assumption | exact isC_last)) | (simp [oneC]; done) | fail) only [evs0, evs1, evs2, evs3, evs4, evs5, evs6, if_true, if_false, ↓reduceIte, Nat.reduceEqDiff, Nat.reduceAdd, Nat.reduceMul, Nat.reduceSub, Nat.reduceLeDiff, Int.reduceLT, Int.reduceLE, Int.reduceEq, Bool.false_eq_true, Option.bind_some, Option.map_some, List.set_cons_zero, List.set_cons_succ, List.toList_toArray, List.size_toArray, List.length_cons, List.length_nil, List.getElem?_toArray, List.getElem?_cons_zero, List.getElem?_cons_succ, List.drop_zero, List.take_succ_cons, List.take_zero, Oct.bl]
        rw [IntWalk.i64_in _ (by omega), iOr_i64 (by omega) (by omega), show grp p j * 2 ^ 8 = 2 ^ 8 * grp p j by omega, or_shl hb]
        rw [F24.e6]
        simp (disch := first | omega | assumption | exact isC_last | exact isC_app (by first | assumption | exact isC_last | exact isC_app (by first | assumption | exact isC_last)) | (simp [oneC]; done) | fail) only [F24.t6, evs0, evs1, evs2, evs3, evs4, evs5, evs6, if_true, if_false, ↓reduceIte, Nat.reduceEqDiff, Nat.reduceAdd, Nat.reduceMul, Nat.reduceSub, Nat.reduceLeDiff, Int.reduceLT, Int.reduceLE, Int.reduceEq, Bool.false_eq_true, Option.bind_some, Option.map_some, List.set_cons_zero, List.set_cons_succ, List.toList_toArray, List.size_toArray, List.length_cons, List.length_nil, List.getElem?_toArray, List.getElem?_cons_zero, List.getElem?_cons_succ, List.drop_zero, List.take_succ_cons, List.take_zero, Oct.bl]
        rw [IntWalk.i64_in _ (by omega)]
        exact ⟨by trivial, 3 - (j + 1), by omega, by trivial, j + 1, by simp [grp], by omega, rfl⟩
      · rw [if_neg (by omega), F24.e6]
        simp (disch := first | omega | assumption | exact isC_last | exact isC_app (by first | assumption | exact isC_last | exact isC_app (by first | assumption | exact isC_last)) | (simp [oneC]; done) | fail) only [F24.t6, evs0, evs1, evs2, evs3, evs4, evs5, evs6, if_true, if_false, ↓reduceIte, Nat.reduceEqDiff, Nat.reduceAdd, Nat.reduceMul, Nat.reduceSub, Nat.reduceLeDiff, Int.reduceLT, Int.reduceLE, Int.reduceEq, Bool.false_eq_true, Option.bind_some, Option.map_some, List.set_cons_zero, List.set_cons_succ, List.toList_toArray, List.size_toArray, List.length_cons, List.length_nil, List.getElem?_toArray, List.getElem?_cons_zero, List.getElem?_cons_succ, List.drop_zero, List.take_succ_cons, List.take_zero, Oct.bl]
        rw [IntWalk.i64_in _ (by omega)]
        refine ⟨by trivial, 3 - (j + 1), by omega, by trivial, j + 1, ?_, by omega, rfl⟩
        rw [show grp p (j + 1) = grp p j * 2 ^ 8 by simp only [grp]; rw [at_end (by omega)]; omega]
        simp
    · rw [if_neg (by omega)]
      obtain rfl : j = 3 := by omega
      rw [F24.e7]
      simp (disch := first | omega | assumption | exact isC_last | exact isC_app (by first | assumption | exact isC_last | exact isC_app (by first | assumption | exact isC_last)) | (simp [oneC]; done) | fail) only [F24.t7, evs0, evs1, evs2, evs3, evs4, evs5, evs6, if_true, if_false, ↓reduceIte, Nat.reduceEqDiff, Nat.reduceAdd, Nat.reduceMul, Nat.reduceSub, Nat.reduceLeDiff, Int.reduceLT, Int.reduceLE, Int.reduceEq, Bool.false_eq_true, Option.bind_some, Option.map_some, List.set_cons_zero, List.set_cons_succ, List.toList_toArray, List.size_toArray, List.length_cons, List.length_nil, List.getElem?_toArray, List.getElem?_cons_zero, List.getElem?_cons_succ, List.drop_zero, List.take_succ_cons, List.take_zero, Oct.bl]
      -- the letters
      have hg : grp p 3 < 256 ^ 3 := grp_lt p 3
      refine Lp_ind (fun m fr h3 => ∃ j : Nat, fr = [(0, .string (bs p)), (3, .pointer (some ⟨h.length, 0, none⟩)), (4, .int .i64 (grp p 3)), (30, .int .i64 j)] ∧ j ≤ 4 ∧ Bd (h.length + 1) h3 h.length (a ++ (chunk p).take j) ∧ Sv (h.length + 1) h.length h2 h3 ∧ m = 4 - j) (F24.m8 n0) 4 ⟨0, by simp (disch := first | omega | assumption | exact isC_last | exact isC_app (by first | assumption | exact isC_last | exact isC_app (by first | assumption | exact isC_last)) | (simp [oneC]; done) | fail) only [evs0, evs1, evs2, evs3, evs4, evs5, evs6, if_true, if_false, ↓reduceIte, Nat.reduceEqDiff, Nat.reduceAdd, Nat.reduceMul, Nat.reduceSub, Nat.reduceLeDiff, Int.reduceLT, Int.reduceLE, Int.reduceEq, Bool.false_eq_true, Option.bind_some, Option.map_some, List.set_cons_zero, List.set_cons_succ, List.toList_toArray, List.size_toArray, List.length_cons, List.length_nil, List.getElem?_toArray, List.getElem?_cons_zero, List.getElem?_cons_succ, List.drop_zero, List.take_succ_cons, List.take_zero, Oct.bl]; rfl, by omega, by simpa using B, Sv.refl, rfl⟩ ?_
      rintro m fr h3 ⟨j, rfl, hj, B3, S3, rfl⟩
      rw [F24.e8]
      simp (disch := first | omega | assumption | exact isC_last | exact isC_app (by first | assumption | exact isC_last | exact isC_app (by first | assumption | exact isC_last)) | (simp [oneC]; done) | fail) only [F24.t8, evs0, evs1, evs2, evs3, evs4, evs5, evs6, if_true, if_false, ↓reduceIte, Nat.reduceEqDiff, Nat.reduceAdd, Nat.reduceMul, Nat.reduceSub, Nat.reduceLeDiff, Int.reduceLT, Int.reduceLE, Int.reduceEq, Bool.false_eq_true, Option.bind_some, Option.map_some, List.set_cons_zero, List.set_cons_succ, List.toList_toArray, List.size_toArray, List.length_cons, List.length_nil, List.getElem?_toArray, List.getElem?_cons_zero, List.getElem?_cons_succ, List.drop_zero, List.take_succ_cons, List.take_zero, Oct.bl]
      have step : ∀ {x : UInt8} {h4 : H}, j < 4 → (chunk p)[j]? = some x → Bd (h.length + 1) h4 h.length ((a ++ (chunk p).take j) ++ [x]) → Bd (h.length + 1) h4 h.length (a ++ (chunk p).take (j + 1)) := by
        intro x h4 hj hx B
        rw [List.take_add_one, hx, Option.toList_some, ← List.append_assoc]
        exact B
      by_cases h4 : j < 4
      · rw [if_pos (by omega), F24.e9]
        simp (disch := first | omega | assumption | exact isC_last | exact isC_app (by first | assumption | exact isC_last | exact isC_app (by first | assumption | exact isC_last)) | (simp [oneC]; done) | fail) only [F24.t9, len_str un_9, evs0, evs1, evs2, evs3, evs4, evs5, evs6, if_true, if_false, ↓reduceIte, Nat.reduceEqDiff, Nat.reduceAdd, Nat.reduceMul, Nat.reduceSub, Nat.reduceLeDiff, Int.reduceLT, Int.reduceLE, Int.reduceEq, Bool.false_eq_true, Option.bind_some, Option.map_some, List.set_cons_zero, List.set_cons_succ, List.toList_toArray, List.size_toArray, List.length_cons, List.length_nil, List.getElem?_toArray, List.getElem?_cons_zero, List.getElem?_cons_succ, List.drop_zero, List.take_succ_cons, List.take_zero, Oct.bl]
        have hx : (chunk p)[j]? = some (if p.length < j then 61 else lett (grp p 3 / 2 ^ (18 - 6 * j) % 64)) := by
          unfold chunk
          rw [List.getElem?_map, List.getElem?_range h4]; rfl
        have hw : (a ++ (chunk p).take j).length + 1100 ≤ 3 * 2 ^ 46 := by
          rw [List.length_append, List.length_take, chunk_len]; omega
        by_cases h5 : p.length < j
        · rw [if_pos (by omega), F24.e10]
          unfold F24.t10
          rw [if_pos h5] at hx
          refine (WriteByte_ok (c := 61) B3 hw).mono ?_
          rintro _ h5 ⟨rfl, B5, S5⟩
          simp (disch := first | omega | assumption | exact isC_last | exact isC_app (by first | assumption | exact isC_last | exact isC_app (by first | assumption | exact isC_last)) | (simp [oneC]; done) | fail) only [evs0, evs1, evs2, evs3, evs4, evs5, evs6, if_true, if_false, ↓reduceIte, Nat.reduceEqDiff, Nat.reduceAdd, Nat.reduceMul, Nat.reduceSub, Nat.reduceLeDiff, Int.reduceLT, Int.reduceLE, Int.reduceEq, Bool.false_eq_true, Option.bind_some, Option.map_some, List.set_cons_zero, List.set_cons_succ, List.toList_toArray, List.size_toArray, List.length_cons, List.length_nil, List.getElem?_toArray, List.getElem?_cons_zero, List.getElem?_cons_succ, List.drop_zero, List.take_succ_cons, List.take_zero, Oct.bl]
          rw [F24.e12]
          simp (disch := first | omega | assumption | exact isC_last | exact isC_app (by first | assumption | exact isC_last | exact isC_app (by first | assumption | exact isC_last)) | (simp [oneC]; done) | fail) only [F24.t12, evs0, evs1, evs2, evs3, evs4, evs5, evs6, if_true, if_false, ↓reduceIte, Nat.reduceEqDiff, Nat.reduceAdd, Nat.reduceMul, Nat.reduceSub, Nat.reduceLeDiff, Int.reduceLT, Int.reduceLE, Int.reduceEq, Bool.false_eq_true, Option.bind_some, Option.map_some, List.set_cons_zero, List.set_cons_succ, List.toList_toArray, List.size_toArray, List.length_cons, List.length_nil, List.getElem?_toArray, List.getElem?_cons_zero, List.getElem?_cons_succ, List.drop_zero, List.take_succ_cons, List.take_zero, Oct.bl]
          rw [IntWalk.i64_in _ (by omega)]
          exact ⟨by trivial, 4 - (j + 1), by omega, j + 1, by congr 5, by omega, step h4 hx B5, S3.trans S5, rfl⟩
        · rw [if_neg (by omega), F24.e11]
          rw [if_neg h5] at hx
          simp (disch := first | omega | assumption | exact isC_last | exact isC_app (by first | assumption | exact isC_last | exact isC_app (by first | assumption | exact isC_last)) | (simp [oneC]; done) | fail) only [F24.t11, bQuo, bRem, bShl, bShr, IntWalk.i64_in, IntWalk.u64_in, IntWalk.u8_in, IntWalk.i8_in, IntWalk.u32_in, IntWalk.i32_in, IntWalk.u8_quo, IntWalk.i64_quo, IntWalk.u64_quo, IntWalk.rem_in, evs0, evs1, evs2, evs3, evs4, evs5, evs6, if_true, if_false, ↓reduceIte, Nat.reduceEqDiff, Nat.reduceAdd, Nat.reduceMul, Nat.reduceSub, Nat.reduceLeDiff, Int.reduceLT, Int.reduceLE, Int.reduceEq, Bool.false_eq_true, Option.bind_some, Option.map_some, List.set_cons_zero, List.set_cons_succ, List.toList_toArray, List.size_toArray, List.length_cons, List.length_nil, List.getElem?_toArray, List.getElem?_cons_zero, List.getElem?_cons_succ, List.drop_zero, List.take_succ_cons, List.take_zero, Oct.bl]
          rw [show (18 : Int) - 6 * (j : Int) = ((18 - 6 * j : Nat) : Int) by omega, iShr_i64 (by omega), show (63 : Int) = ((63 : Nat) : Int) from rfl, iAnd_i64 (by have := Nat.div_le_self (grp p 3) (2 ^ (18 - 6 * j)); omega) (by omega), and63, letl_bs]
          have h64 : grp p 3 / 2 ^ (18 - 6 * j) % 64 < 64 := Nat.mod_lt _ (by omega)
          rw [ixI (l := letl) (by show _ < 64; exact h64), letl_at h64]
          simp (disch := first | omega | assumption | exact isC_last | exact isC_app (by first | assumption | exact isC_last | exact isC_app (by first | assumption | exact isC_last)) | (simp [oneC]; done) | fail) only [evs0, evs1, evs2, evs3, evs4, evs5, evs6, if_true, if_false, ↓reduceIte, Nat.reduceEqDiff, Nat.reduceAdd, Nat.reduceMul, Nat.reduceSub, Nat.reduceLeDiff, Int.reduceLT, Int.reduceLE, Int.reduceEq, Bool.false_eq_true, Option.bind_some, Option.map_some, List.set_cons_zero, List.set_cons_succ, List.toList_toArray, List.size_toArray, List.length_cons, List.length_nil, List.getElem?_toArray, List.getElem?_cons_zero, List.getElem?_cons_succ, List.drop_zero, List.take_succ_cons, List.take_zero, Oct.bl]
          refine (WriteByte_ok B3 hw).mono ?_
          rintro _ h5 ⟨rfl, B5, S5⟩
          rw [F24.e12]
          simp (disch := first | omega | assumption | exact isC_last | exact isC_app (by first | assumption | exact isC_last | exact isC_app (by first | assumption | exact isC_last)) | (simp [oneC]; done) | fail) only [F24.t12, evs0, evs1, evs2, evs3, evs4, evs5, evs6, if_true, if_false, ↓reduceIte, Nat.reduceEqDiff, Nat.reduceAdd, Nat.reduceMul, Nat.reduceSub, Nat.reduceLeDiff, Int.reduceLT, Int.reduceLE, Int.reduceEq, Bool.false_eq_true, Option.bind_some, Option.map_some, List.set_cons_zero, List.set_cons_succ, List.toList_toArray, List.size_toArray, List.length_cons, List.length_nil, List.getElem?_toArray, List.getElem?_cons_zero, List.getElem?_cons_succ, List.drop_zero, List.take_succ_cons, List.take_zero, Oct.bl]
          rw [IntWalk.i64_in _ (by omega)]
          exact ⟨by trivial, 4 - (j + 1), by omega, j + 1, by congr 5, by omega, step h4 hx B5, S3.trans S5, rfl⟩
      · rw [if_neg (by omega)]
        obtain rfl : j = 4 := by omega
        rw [List.take_of_length_le (by rw [chunk_len]; omega)] at B3
        rw [F24.e13]
        simp (disch := first | omega | assumption | exact isC_last | exact isC_app (by first | assumption | exact isC_last | exact isC_app (by first | assumption | exact isC_last)) | (simp [oneC]; done) | fail) only [F24.t13, len_str un_9, evs0, evs1, evs2, evs3, evs4, evs5, evs6, if_true, if_false, ↓reduceIte, Nat.reduceEqDiff, Nat.reduceAdd, Nat.reduceMul, Nat.reduceSub, Nat.reduceLeDiff, Int.reduceLT, Int.reduceLE, Int.reduceEq, Bool.false_eq_true, Option.bind_some, Option.map_some, List.set_cons_zero, List.set_cons_succ, List.toList_toArray, List.size_toArray, List.length_cons, List.length_nil, List.getElem?_toArray, List.getElem?_cons_zero, List.getElem?_cons_succ, List.drop_zero, List.take_succ_cons, List.take_zero, Oct.bl]
        have em : (if (p.length : Int) < 3 then (p.length : Int) else 3) = ((min 3 p.length : Nat) : Int) := by split <;> omega
        rw [em]
        refine Bnd_i (sl_from un_9 (by omega) (by omega)) ?_
        rw [Int.toNat_natCast]
        have ed : p.drop (min 3 p.length) = p.drop 3 := by
          by_cases hlt : 3 ≤ p.length
          · rw [show min 3 p.length = 3 by omega]
          · rw [show min 3 p.length = p.length by omega, List.drop_of_length_le (by omega), List.drop_of_length_le (by omega)]
        rw [ed]
        exact ⟨by trivial, (p.drop 3).length, by rw [List.length_drop]; omega, p.drop 3, _, rfl, by rw [List.length_drop]; omega, by rw [E, List.append_assoc], B3, S.trans S3, rfl⟩
theorem unS_drop {l : List UInt8} {j n k : Nat} (h : j < l.length) : unS n k (l.drop j) = match lval (l.getD j 0) with
    | none => []
    | some v => if 8 ≤ k + 6 then UInt8.ofNat ((64 * n + v) % 65536 / 2 ^ (k - 2)) :: unS ((64 * n + v) % 65536) (k - 2) (l.drop (j + 1)) else unS ((64 * n + v) % 65536) (k + 6) (l.drop (j + 1)) := by
  rw [List.drop_eq_getElem_cons h, List.getD_eq_getElem?_getD, List.getElem?_eq_getElem h]
  rfl
def unbV (l : List UInt8) : Value := .tuple #[.string (bs (unb64S l).1), .int .i64 (unb64S l).2]
set_option maxRecDepth 20000 in
theorem Unbase64_ok {l : List UInt8} (hl : l.length + 100 ≤ 2 ^ 47) : Cn Tryd.prog n0 (.func 23) [.string (bs l)] h (fun v h' => v = unbV l ∧ Ext h h') := by
  refine F23.enter ?_
  obtain ⟨HP, hHP⟩ : ∃ HP : Value → H → Prop, (fun v h' => v = unbV l ∧ Ext h h') = HP := ⟨_, rfl⟩
  rw [hHP, F23.e0]
  simp (disch := first | omega | assumption | exact isC_last | exact isC_app (by first | assumption | exact isC_last | exact isC_app (by first | assumption | exact isC_last)) | (simp [oneC]; done) | fail) only [F23.t0, len_str un_9, evs0, evs1, evs2, evs3, evs4, evs5, evs6, if_true, if_false, ↓reduceIte, Nat.reduceEqDiff, Nat.reduceAdd, Nat.reduceMul, Nat.reduceSub, Nat.reduceLeDiff, Int.reduceLT, Int.reduceLE, Int.reduceEq, Bool.false_eq_true, Option.bind_some, Option.map_some, List.set_cons_zero, List.set_cons_succ, List.toList_toArray, List.size_toArray, List.length_cons, List.length_nil, List.getElem?_toArray, List.getElem?_cons_zero, List.getElem?_cons_succ, List.drop_zero, List.take_succ_cons, List.take_zero, Oct.bl]
  have B0 := Bd.new (h := h) (T := 0)
  have hL := unS_len l 0 0 (by omega)
  have tail : ∀ {a : List UInt8} {h1 : H}, unS 0 0 l = a → Bd (h.length + 1) h1 h.length a → Sv (h.length + 1) h.length (h ++ [.cells true (enc 0 35) [.pointer none, .slice none 0 0]]) h1 →
      F23.p6 n0 [(0, .string (bs l)), (4, .pointer (some ⟨h.length, 0, none⟩))] [] h1 (KFin Tryd.prog [.tmp 2, .tmp 3] HP) := by
    intro a h1 ea B S
    rw [F23.e6]
    unfold F23.t6
    rw [ea] at hL
    refine (StringS_ok B.bs (by omega)).mono ?_
    rintro _ h2 ⟨rfl, B2, S2⟩
    refine (Base64_ok (by omega)).mono ?_
    rintro _ h3 ⟨rfl, X3⟩
    simp (disch := first | omega | assumption | exact isC_last | exact isC_app (by first | assumption | exact isC_last | exact isC_app (by first | assumption | exact isC_last)) | (simp [oneC]; done) | fail) only [evs0, evs1, evs2, evs3, evs4, evs5, evs6, if_true, if_false, ↓reduceIte, Nat.reduceEqDiff, Nat.reduceAdd, Nat.reduceMul, Nat.reduceSub, Nat.reduceLeDiff, Int.reduceLT, Int.reduceLE, Int.reduceEq, Bool.false_eq_true, Option.bind_some, Option.map_some, List.set_cons_zero, List.set_cons_succ, List.toList_toArray, List.size_toArray, List.length_cons, List.length_nil, List.getElem?_toArray, List.getElem?_cons_zero, List.getElem?_cons_succ, List.drop_zero, List.take_succ_cons, List.take_zero, Oct.bl]
    by_cases hb : b64S a = l
    · rw [if_pos hb, F23.e8]
      unfold F23.t8
      refine (StringS_ok (B2.ext X3) (by omega)).mono ?_
      rintro _ h4 ⟨rfl, _, S4⟩
      simp (disch := first | omega | assumption | exact isC_last | exact isC_app (by first | assumption | exact isC_last | exact isC_app (by first | assumption | exact isC_last)) | (simp [oneC]; done) | fail) only [evs0, evs1, evs2, evs3, evs4, evs5, evs6, if_true, if_false, ↓reduceIte, Nat.reduceEqDiff, Nat.reduceAdd, Nat.reduceMul, Nat.reduceSub, Nat.reduceLeDiff, Int.reduceLT, Int.reduceLE, Int.reduceEq, Bool.false_eq_true, Option.bind_some, Option.map_some, List.set_cons_zero, List.set_cons_succ, List.toList_toArray, List.size_toArray, List.length_cons, List.length_nil, List.getElem?_toArray, List.getElem?_cons_zero, List.getElem?_cons_succ, List.drop_zero, List.take_succ_cons, List.take_zero, Oct.bl]
      rw [← hHP]
      refine ⟨?_, (((S.trans S2).trans (Sv.of_ext X3)).trans S4).to_ext⟩
      unfold unbV unb64S
      rw [ea, if_pos hb]
    · rw [if_neg hb, F23.e7]
      simp (disch := first | omega | assumption | exact isC_last | exact isC_app (by first | assumption | exact isC_last | exact isC_app (by first | assumption | exact isC_last)) | (simp [oneC]; done) | fail) only [F23.t7, nil_bs, evs0, evs1, evs2, evs3, evs4, evs5, evs6, if_true, if_false, ↓reduceIte, Nat.reduceEqDiff, Nat.reduceAdd, Nat.reduceMul, Nat.reduceSub, Nat.reduceLeDiff, Int.reduceLT, Int.reduceLE, Int.reduceEq, Bool.false_eq_true, Option.bind_some, Option.map_some, List.set_cons_zero, List.set_cons_succ, List.toList_toArray, List.size_toArray, List.length_cons, List.length_nil, List.getElem?_toArray, List.getElem?_cons_zero, List.getElem?_cons_succ, List.drop_zero, List.take_succ_cons, List.take_zero, Oct.bl]
      rw [← hHP]
      refine ⟨?_, ((S.trans S2).trans (Sv.of_ext X3)).to_ext⟩
      unfold unbV unb64S
      rw [ea, if_neg hb]
  refine Lp_ind (fun m fr hh => ∃ (j n k : Nat) (a : List UInt8), fr = [(0, .string (bs l)), (4, .pointer (some ⟨h.length, 0, none⟩)), (5, .int .i64 n), (6, .int .i64 k), (10, .int .i64 l.length), (11, .int .i64 j)] ∧ j ≤ l.length ∧ n < 65536 ∧ k < 8 ∧ k % 2 = 0 ∧ unS 0 0 l = a ++ unS n k (l.drop j) ∧
      Bd (h.length + 1) hh h.length a ∧ Sv (h.length + 1) h.length (h ++ [.cells true (enc 0 35) [.pointer none, .slice none 0 0]]) hh ∧ m = l.length - j) (F23.m1 n0) l.length
    ⟨0, 0, 0, [], by simp (disch := first | omega | assumption | exact isC_last | exact isC_app (by first | assumption | exact isC_last | exact isC_app (by first | assumption | exact isC_last)) | (simp [oneC]; done) | fail) only [evs0, evs1, evs2, evs3, evs4, evs5, evs6, if_true, if_false, ↓reduceIte, Nat.reduceEqDiff, Nat.reduceAdd, Nat.reduceMul, Nat.reduceSub, Nat.reduceLeDiff, Int.reduceLT, Int.reduceLE, Int.reduceEq, Bool.false_eq_true, Option.bind_some, Option.map_some, List.set_cons_zero, List.set_cons_succ, List.toList_toArray, List.size_toArray, List.length_cons, List.length_nil, List.getElem?_toArray, List.getElem?_cons_zero, List.getElem?_cons_succ, List.drop_zero, List.take_succ_cons, List.take_zero, Oct.bl]; rfl, by omega, by omega, by omega, by omega, by simp, B0, Sv.refl, rfl⟩ ?_
  rintro m fr hh ⟨j, n, k, a, rfl, hj, hn, hk, hk2, E, B, S, rfl⟩
  rw [F23.e1]
  simp (disch := first | omega | assumption | exact isC_last | exact isC_app (by first | assumption | exact isC_last | exact isC_app (by first | assumption | exact isC_last)) | (simp [oneC]; done) | fail) only [F23.t1, evs0, evs1, evs2, evs3, evs4, evs5, evs6, if_true, if_false, ↓reduceIte, Nat.reduceEqDiff, Nat.reduceAdd, Nat.reduceMul, Nat.reduceSub, Nat.reduceLeDiff, Int.reduceLT, Int.reduceLE, Int.reduceEq, Bool.false_eq_true, Option.bind_some, Option.map_some, List.set_cons_zero, List.set_cons_succ, List.toList_toArray, List.size_toArray, List.length_cons, List.length_nil, List.getElem?_toArray, List.getElem?_cons_zero, List.getElem?_cons_succ, List.drop_zero, List.take_succ_cons, List.take_zero, Oct.bl]
  by_cases h5 : j < l.length
  · rw [if_pos (by omega), F23.e2]
    unfold F23.t2
    refine Bnd_i (ix_bs un_9 (by omega) (by omega)) ?_
    rw [Int.toNat_natCast, letl_bs]
    refine (IndexByte_ok (l := letl) (c := l.getD j 0)).mono ?_
    rintro _ hx ⟨rfl, ex⟩; subst hx
    rw [let_ix, unS_drop h5] at *
    unfold lv
    cases hv : lval (l.getD j 0) with
    | none =>
      simp only [hv, List.append_nil] at E ⊢
      simp (disch := first | omega | assumption | exact isC_last | exact isC_app (by first | assumption | exact isC_last | exact isC_app (by first | assumption | exact isC_last)) | (simp [oneC]; done) | fail) only [evs0, evs1, evs2, evs3, evs4, evs5, evs6, if_true, if_false, ↓reduceIte, Nat.reduceEqDiff, Nat.reduceAdd, Nat.reduceMul, Nat.reduceSub, Nat.reduceLeDiff, Int.reduceLT, Int.reduceLE, Int.reduceEq, Bool.false_eq_true, Option.bind_some, Option.map_some, List.set_cons_zero, List.set_cons_succ, List.toList_toArray, List.size_toArray, List.length_cons, List.length_nil, List.getElem?_toArray, List.getElem?_cons_zero, List.getElem?_cons_succ, List.drop_zero, List.take_succ_cons, List.take_zero, Oct.bl]
      exact tail E B S
    | some v =>
      simp only [hv] at E ⊢
      have hv2 := lval_lt hv
      simp (disch := first | omega | assumption | exact isC_last | exact isC_app (by first | assumption | exact isC_last | exact isC_app (by first | assumption | exact isC_last)) | (simp [oneC]; done) | fail) only [evs0, evs1, evs2, evs3, evs4, evs5, evs6, if_true, if_false, ↓reduceIte, Nat.reduceEqDiff, Nat.reduceAdd, Nat.reduceMul, Nat.reduceSub, Nat.reduceLeDiff, Int.reduceLT, Int.reduceLE, Int.reduceEq, Bool.false_eq_true, Option.bind_some, Option.map_some, List.set_cons_zero, List.set_cons_succ, List.toList_toArray, List.size_toArray, List.length_cons, List.length_nil, List.getElem?_toArray, List.getElem?_cons_zero, List.getElem?_cons_succ, List.drop_zero, List.take_succ_cons, List.take_zero, Oct.bl]
      rw [if_neg (by omega), F23.e3]
      simp (disch := first | omega | assumption | exact isC_last | exact isC_app (by first | assumption | exact isC_last | exact isC_app (by first | assumption | exact isC_last)) | (simp [oneC]; done) | fail) only [F23.t3, bQuo, bRem, bShl, bShr, IntWalk.i64_in, IntWalk.u64_in, IntWalk.u8_in, IntWalk.i8_in, IntWalk.u32_in, IntWalk.i32_in, IntWalk.u8_quo, IntWalk.i64_quo, IntWalk.u64_quo, IntWalk.rem_in, evs0, evs1, evs2, evs3, evs4, evs5, evs6, if_true, if_false, ↓reduceIte, Nat.reduceEqDiff, Nat.reduceAdd, Nat.reduceMul, Nat.reduceSub, Nat.reduceLeDiff, Int.reduceLT, Int.reduceLE, Int.reduceEq, Bool.false_eq_true, Option.bind_some, Option.map_some, List.set_cons_zero, List.set_cons_succ, List.toList_toArray, List.size_toArray, List.length_cons, List.length_nil, List.getElem?_toArray, List.getElem?_cons_zero, List.getElem?_cons_succ, List.drop_zero, List.take_succ_cons, List.take_zero, Oct.bl]
      rw [show (6 : Int) = ((6 : Nat) : Int) from rfl, iShl_i64 (by omega) (by omega), show (65535 : Int) = ((65535 : Nat) : Int) from rfl, iAnd_i64 (by omega) (by omega),
        iOr_i64 (by rw [and16]; have := Nat.mod_lt (n * 2 ^ 6) (show 0 < 65536 by omega); omega) (by omega), nxt hn hv2]
      have hm : (64 * n + v) % 65536 < 65536 := Nat.mod_lt _ (by omega)
      by_cases h8 : 8 ≤ k + 6
      · rw [if_pos (by omega), F23.e4]
        rw [if_pos h8] at E
        simp (disch := first | omega | assumption | exact isC_last | exact isC_app (by first | assumption | exact isC_last | exact isC_app (by first | assumption | exact isC_last)) | (simp [oneC]; done) | fail) only [F23.t4, bQuo, bRem, bShl, bShr, IntWalk.i64_in, IntWalk.u64_in, IntWalk.u8_in, IntWalk.i8_in, IntWalk.u32_in, IntWalk.i32_in, IntWalk.u8_quo, IntWalk.i64_quo, IntWalk.u64_quo, IntWalk.rem_in, evs0, evs1, evs2, evs3, evs4, evs5, evs6, if_true, if_false, ↓reduceIte, Nat.reduceEqDiff, Nat.reduceAdd, Nat.reduceMul, Nat.reduceSub, Nat.reduceLeDiff, Int.reduceLT, Int.reduceLE, Int.reduceEq, Bool.false_eq_true, Option.bind_some, Option.map_some, List.set_cons_zero, List.set_cons_succ, List.toList_toArray, List.size_toArray, List.length_cons, List.length_nil, List.getElem?_toArray, List.getElem?_cons_zero, List.getElem?_cons_succ, List.drop_zero, List.take_succ_cons, List.take_zero, Oct.bl]
        rw [show (k : Int) + ((6 : Nat) : Int) - 8 = ((k - 2 : Nat) : Int) by omega, iShr_i64 (by omega)]
        rw [show IntKind.u8.wrap (((64 * n + v) % 65536 / 2 ^ (k - 2) : Nat) : Int) = ((UInt8.ofNat ((64 * n + v) % 65536 / 2 ^ (k - 2))).toNat : Int) by rw [IntKind.wrap_u8, UInt8.toNat_ofNat']; omega]
        refine (WriteByte_ok B (by have := congrArg List.length E; rw [List.length_append, List.length_cons] at this; omega)).mono ?_
        rintro _ h5' ⟨rfl, B5, S5⟩
        rw [F23.e5]
        simp (disch := first | omega | assumption | exact isC_last | exact isC_app (by first | assumption | exact isC_last | exact isC_app (by first | assumption | exact isC_last)) | (simp [oneC]; done) | fail) only [F23.t5, evs0, evs1, evs2, evs3, evs4, evs5, evs6, if_true, if_false, ↓reduceIte, Nat.reduceEqDiff, Nat.reduceAdd, Nat.reduceMul, Nat.reduceSub, Nat.reduceLeDiff, Int.reduceLT, Int.reduceLE, Int.reduceEq, Bool.false_eq_true, Option.bind_some, Option.map_some, List.set_cons_zero, List.set_cons_succ, List.toList_toArray, List.size_toArray, List.length_cons, List.length_nil, List.getElem?_toArray, List.getElem?_cons_zero, List.getElem?_cons_succ, List.drop_zero, List.take_succ_cons, List.take_zero, Oct.bl]
        rw [IntWalk.i64_in _ (by omega)]
        exact ⟨by trivial, l.length - (j + 1), by omega, j + 1, (64 * n + v) % 65536, k - 2, _, by congr 5, by omega, hm, by omega, by omega, by rw [E]; simp, B5, S.trans S5, rfl⟩
      · rw [if_neg (by omega)]
        rw [if_neg h8] at E
        rw [F23.e5]
        simp (disch := first | omega | assumption | exact isC_last | exact isC_app (by first | assumption | exact isC_last | exact isC_app (by first | assumption | exact isC_last)) | (simp [oneC]; done) | fail) only [F23.t5, evs0, evs1, evs2, evs3, evs4, evs5, evs6, if_true, if_false, ↓reduceIte, Nat.reduceEqDiff, Nat.reduceAdd, Nat.reduceMul, Nat.reduceSub, Nat.reduceLeDiff, Int.reduceLT, Int.reduceLE, Int.reduceEq, Bool.false_eq_true, Option.bind_some, Option.map_some, List.set_cons_zero, List.set_cons_succ, List.toList_toArray, List.size_toArray, List.length_cons, List.length_nil, List.getElem?_toArray, List.getElem?_cons_zero, List.getElem?_cons_succ, List.drop_zero, List.take_succ_cons, List.take_zero, Oct.bl]
        rw [IntWalk.i64_in _ (by omega)]
        exact ⟨by trivial, l.length - (j + 1), by omega, j + 1, (64 * n + v) % 65536, k + 6, _, by congr 5, by omega, hm, by omega, by omega, E, B, S, rfl⟩
  · rw [if_neg (by omega)]
    rw [List.drop_of_length_le (by omega)] at E
    exact tail (by simpa [unS] using E) B S
end Go.Proofs.YtcdnnpbpadhgeaaDoor
