/- lent and kept: bytes in memory of their own, with marks behind them; whether they are as they were. No condition. -/
import Derived.Test.YtknpmldldlbniaaRefHead
set_option linter.unusedVariables false
set_option linter.unusedSimpArgs false
namespace Go.Proofs.Ytknpmldldlbniaa
open Go.Ev Ber
/-- the marks -/
def marks : List Value := [.int .u8 119, .int .u8 119, .int .u8 119, .int .u8 119, .int .u8 119]
def LentPost (bs : List UInt8) (h : H) : Value → H → Prop := fun v h' => ∃ t b, h' = h ++ t ∧ v = .slice (some ⟨b, 0, none⟩) bs.length (bs.length + 5) ∧ h.length ≤ b ∧ h'[b]? = some (.cells true (enc 1 5) (bs.map bv ++ marks))
theorem over_two {n : Nat} {z : Value} {xs ys : List Value} (hx : xs.length = n) : over (over (List.replicate (n + ys.length) z) 0 xs) n ys = xs ++ ys := by
  have e1 : over (List.replicate (n + ys.length) z) 0 xs = xs ++ List.replicate ys.length z := by
    simp [over, hx]
  rw [e1]
  simp [over, hx]
set_option maxRecDepth 20000 in
theorem Lent_ok {n0 : Nat} {h : H} {b : Value} {bs : List UInt8} (S : Sl h 1 b (bs.map bv)) (hl : bs.length ≤ 140737488351232) : Cn Try.prog n0 (.func 12) [b] h (LentPost bs h) := by
  refine F12.enter ?_
  generalize hHP : LentPost bs h = HP
  obtain ⟨ad, c, rfl, hc⟩ := S.lenB
  rw [F12.e0]
  simp (disch := first | omega | assumption | exact isC_last | exact isC_app (by first | assumption | exact isC_last | exact isC_app (by first | assumption | exact isC_last)) | (simp [oneC]; done) | fail) only [F12.t0, mks_22, bQuo, bRem, bShl, bShr, IntWalk.i64_in, IntWalk.u64_in, IntWalk.u8_in, IntWalk.i8_in, IntWalk.u32_in, IntWalk.i32_in, IntWalk.u8_quo, IntWalk.i64_quo, IntWalk.u64_quo, IntWalk.rem_in, evs0, evs1, evs2, evs3, evs4, evs5, evs6, evs7, evs8, evs9, evs10, evs11, evs12, evs13, if_true, if_false, ↓reduceIte, Nat.reduceEqDiff, Nat.reduceAdd, Nat.reduceMul, Nat.reduceSub, Nat.reduceLeDiff, Int.reduceLT, Int.reduceLE, Int.reduceEq, Bool.false_eq_true, Option.bind_some, Option.map_some, List.set_cons_zero, List.set_cons_succ, List.toList_toArray, List.size_toArray, List.length_cons, List.length_nil, List.getElem?_toArray, List.getElem?_cons_zero, List.getElem?_cons_succ, List.drop_zero, List.take_succ_cons, List.take_zero]
  rw [show ((bs.length : Int) + 5).toNat = bs.length + 5 from by omega, show ((0 : Int)).toNat = 0 from rfl]
  refine Bnd2_i (app_in1 (new := bs.map bv) el_22 sz_5 ze_5 by_5 rfl (src1 (S.app _)) get_last (eS_enc' (by omega)) (bv_oneC _) (by simp) (by simp) (by simp only [List.length_map]; omega) (by simp only [List.length_map]; omega)) ?_
  simp (disch := first | omega | assumption | exact isC_last | exact isC_app (by first | assumption | exact isC_last | exact isC_app (by first | assumption | exact isC_last)) | (simp [oneC]; done) | fail) only [bQuo, bRem, bShl, bShr, IntWalk.i64_in, IntWalk.u64_in, IntWalk.u8_in, IntWalk.i8_in, IntWalk.u32_in, IntWalk.i32_in, IntWalk.u8_quo, IntWalk.i64_quo, IntWalk.u64_quo, IntWalk.rem_in, evs0, evs1, evs2, evs3, evs4, evs5, evs6, evs7, evs8, evs9, evs10, evs11, evs12, evs13, if_true, if_false, ↓reduceIte, Nat.reduceEqDiff, Nat.reduceAdd, Nat.reduceMul, Nat.reduceSub, Nat.reduceLeDiff, Int.reduceLT, Int.reduceLE, Int.reduceEq, Bool.false_eq_true, Option.bind_some, Option.map_some, List.set_cons_zero, List.set_cons_succ, List.toList_toArray, List.size_toArray, List.length_cons, List.length_nil, List.getElem?_toArray, List.getElem?_cons_zero, List.getElem?_cons_succ, List.drop_zero, List.take_succ_cons, List.take_zero]
  refine Bnd2_i (app_in1 (new := marks) el_22 sz_5 ze_5 by_5 rfl (src1 (Sl.mk (o := 0) (n := 5) get_last (eS_enc' (by omega)) rfl rfl (Nat.le_refl _))) (get_app get_last) (eS_enc' (by omega)) rfl (by simp [marks]) (by simp [over]) (by simp only [marks, List.length_cons, List.length_nil, List.length_map]; omega) (by simp only [marks, List.length_cons, List.length_nil, List.length_map]; omega)) ?_
  simp (disch := first | omega | assumption | exact isC_last | exact isC_app (by first | assumption | exact isC_last | exact isC_app (by first | assumption | exact isC_last)) | (simp [oneC]; done) | fail) only [bQuo, bRem, bShl, bShr, IntWalk.i64_in, IntWalk.u64_in, IntWalk.u8_in, IntWalk.i8_in, IntWalk.u32_in, IntWalk.i32_in, IntWalk.u8_quo, IntWalk.i64_quo, IntWalk.u64_quo, IntWalk.rem_in, evs0, evs1, evs2, evs3, evs4, evs5, evs6, evs7, evs8, evs9, evs10, evs11, evs12, evs13, if_true, if_false, ↓reduceIte, Nat.reduceEqDiff, Nat.reduceAdd, Nat.reduceMul, Nat.reduceSub, Nat.reduceLeDiff, Int.reduceLT, Int.reduceLE, Int.reduceEq, Bool.false_eq_true, Option.bind_some, Option.map_some, List.set_cons_zero, List.set_cons_succ, List.toList_toArray, List.size_toArray, List.length_cons, List.length_nil, List.getElem?_toArray, List.getElem?_cons_zero, List.getElem?_cons_succ, List.drop_zero, List.take_succ_cons, List.take_zero]
  refine Bnd_i (sl_own un_22 sz_5 (by omega) (by omega)) ?_
  rw [Int.toNat_natCast]
  rw [← hHP]
  refine ⟨_, h.length, by rw [List.append_assoc], by simp, Nat.le_refl _, ?_⟩
  rw [get_app get_last]
  congr 2
  simp only [Nat.zero_add, List.length_map]
  exact over_two (ys := marks) (by simp)
theorem getApp {bs : List UInt8} {i : Nat} (hi : i < bs.length) : (bs.map bv ++ marks)[i]? = some (.int .u8 (bs.getD i 0).toNat) := by
  rw [List.getElem?_append_left (by simpa using hi), getBv hi]
theorem getMark {bs : List UInt8} {i : Nat} (h1 : bs.length ≤ i) (h2 : i < bs.length + 5) : (bs.map bv ++ marks)[i]? = some (.int .u8 119) := by
  rw [List.getElem?_append_right (by simpa using h1), List.length_map]
  have : i - bs.length < 5 := by omega
  generalize i - bs.length = j at this
  match j, this with
  | 0, _ | 1, _ | 2, _ | 3, _ | 4, _ => rfl
  | n + 5, h => omega
set_option maxRecDepth 20000 in
theorem Kept_ok {n0 : Nat} {h : H} {b : Value} {bs : List UInt8} {blk : Nat} (S : Sl h 1 b (bs.map bv)) (hl : bs.length ≤ 140737488351232) (hB : h[blk]? = some (.cells true (enc 1 5) (bs.map bv ++ marks))) :
    Cn Try.prog n0 (.func 15) [.slice (some ⟨blk, 0, none⟩) bs.length (bs.length + 5), b] h (fun v h' => v = .bool true ∧ h' = h) := by
  refine F15.enter ?_
  obtain ⟨HP, hHP⟩ : ∃ HP : Value → H → Prop, (fun v h' => v = .bool true ∧ h' = h) = HP := ⟨_, rfl⟩
  rw [hHP]
  obtain ⟨ad, c, rfl, hc⟩ := S.lenB
  rw [F15.e0]
  simp (disch := first | omega | assumption | exact isC_last | exact isC_app (by first | assumption | exact isC_last | exact isC_app (by first | assumption | exact isC_last)) | (simp [oneC]; done) | fail) only [F15.t0, bQuo, bRem, bShl, bShr, IntWalk.i64_in, IntWalk.u64_in, IntWalk.u8_in, IntWalk.i8_in, IntWalk.u32_in, IntWalk.i32_in, IntWalk.u8_quo, IntWalk.i64_quo, IntWalk.u64_quo, IntWalk.rem_in, evs0, evs1, evs2, evs3, evs4, evs5, evs6, evs7, evs8, evs9, evs10, evs11, evs12, evs13, if_true, if_false, ↓reduceIte, Nat.reduceEqDiff, Nat.reduceAdd, Nat.reduceMul, Nat.reduceSub, Nat.reduceLeDiff, Int.reduceLT, Int.reduceLE, Int.reduceEq, Bool.false_eq_true, Option.bind_some, Option.map_some, List.set_cons_zero, List.set_cons_succ, List.toList_toArray, List.size_toArray, List.length_cons, List.length_nil, List.getElem?_toArray, List.getElem?_cons_zero, List.getElem?_cons_succ, List.drop_zero, List.take_succ_cons, List.take_zero]
  refine Bnd_i (sl_own un_22 sz_5 (by omega) (by omega)) ?_
  rw [show ((bs.length : Int) + 5).toNat = bs.length + 5 from by omega]
  have SF : Sl h 1 (.slice (some ⟨blk, 0, none⟩) (bs.length + 5) (bs.length + 5)) (bs.map bv ++ marks) := Sl.mk (o := 0) hB (eS_enc' (by omega)) (by rw [List.drop_zero]; exact List.take_of_length_le (by simp [marks])) (by simp [marks]) (Nat.le_refl _)
  obtain ⟨fa, hfa⟩ : ∃ a, (some ⟨blk, 0, none⟩ : Option Addr) = a := ⟨_, rfl⟩
  rw [hfa] at SF ⊢
  simp (disch := first | omega | assumption | exact isC_last | exact isC_app (by first | assumption | exact isC_last | exact isC_app (by first | assumption | exact isC_last)) | (simp [oneC]; done) | fail) only [bQuo, bRem, bShl, bShr, IntWalk.i64_in, IntWalk.u64_in, IntWalk.u8_in, IntWalk.i8_in, IntWalk.u32_in, IntWalk.i32_in, IntWalk.u8_quo, IntWalk.i64_quo, IntWalk.u64_quo, IntWalk.rem_in, evs0, evs1, evs2, evs3, evs4, evs5, evs6, evs7, evs8, evs9, evs10, evs11, evs12, evs13, if_true, if_false, ↓reduceIte, Nat.reduceEqDiff, Nat.reduceAdd, Nat.reduceMul, Nat.reduceSub, Nat.reduceLeDiff, Int.reduceLT, Int.reduceLE, Int.reduceEq, Bool.false_eq_true, Option.bind_some, Option.map_some, List.set_cons_zero, List.set_cons_succ, List.toList_toArray, List.size_toArray, List.length_cons, List.length_nil, List.getElem?_toArray, List.getElem?_cons_zero, List.getElem?_cons_succ, List.drop_zero, List.take_succ_cons, List.take_zero]
  refine Lp_ind (fun m fr hh => ∃ i : Nat, fr = [(0, .slice fa bs.length (bs.length + 5)), (1, .slice ad bs.length c), (5, .slice fa (bs.length + 5) (bs.length + 5)), (13, .int .i64 ((bs.length + 5 : Nat) : Int)), (14, .int .i64 i)] ∧ hh = h ∧ i ≤ bs.length + 5 ∧ m = bs.length + 5 - i)
    (F15.m1 n0) (bs.length + 5) ⟨0, ?_, rfl, by omega, rfl⟩ ?_
  · simp (disch := first | omega | assumption | exact isC_last | exact isC_app (by first | assumption | exact isC_last | exact isC_app (by first | assumption | exact isC_last)) | (simp [oneC]; done) | fail) only [bQuo, bRem, bShl, bShr, IntWalk.i64_in, IntWalk.u64_in, IntWalk.u8_in, IntWalk.i8_in, IntWalk.u32_in, IntWalk.i32_in, IntWalk.u8_quo, IntWalk.i64_quo, IntWalk.u64_quo, IntWalk.rem_in, evs0, evs1, evs2, evs3, evs4, evs5, evs6, evs7, evs8, evs9, evs10, evs11, evs12, evs13, if_true, if_false, ↓reduceIte, Nat.reduceEqDiff, Nat.reduceAdd, Nat.reduceMul, Nat.reduceSub, Nat.reduceLeDiff, Int.reduceLT, Int.reduceLE, Int.reduceEq, Bool.false_eq_true, Option.bind_some, Option.map_some, List.set_cons_zero, List.set_cons_succ, List.toList_toArray, List.size_toArray, List.length_cons, List.length_nil, List.getElem?_toArray, List.getElem?_cons_zero, List.getElem?_cons_succ, List.drop_zero, List.take_succ_cons, List.take_zero]; rfl
  rintro m fr hh ⟨i, rfl, rfl, hi, rfl⟩
  rw [F15.e1]
  simp (disch := first | omega | assumption | exact isC_last | exact isC_app (by first | assumption | exact isC_last | exact isC_app (by first | assumption | exact isC_last)) | (simp [oneC]; done) | fail) only [F15.t1, bQuo, bRem, bShl, bShr, IntWalk.i64_in, IntWalk.u64_in, IntWalk.u8_in, IntWalk.i8_in, IntWalk.u32_in, IntWalk.i32_in, IntWalk.u8_quo, IntWalk.i64_quo, IntWalk.u64_quo, IntWalk.rem_in, evs0, evs1, evs2, evs3, evs4, evs5, evs6, evs7, evs8, evs9, evs10, evs11, evs12, evs13, if_true, if_false, ↓reduceIte, Nat.reduceEqDiff, Nat.reduceAdd, Nat.reduceMul, Nat.reduceSub, Nat.reduceLeDiff, Int.reduceLT, Int.reduceLE, Int.reduceEq, Bool.false_eq_true, Option.bind_some, Option.map_some, List.set_cons_zero, List.set_cons_succ, List.toList_toArray, List.size_toArray, List.length_cons, List.length_nil, List.getElem?_toArray, List.getElem?_cons_zero, List.getElem?_cons_succ, List.drop_zero, List.take_succ_cons, List.take_zero]
  by_cases h1 : i < bs.length + 5
  · rw [if_pos (by omega), F15.e2]
    simp (disch := first | omega | assumption | exact isC_last | exact isC_app (by first | assumption | exact isC_last | exact isC_app (by first | assumption | exact isC_last)) | (simp [oneC]; done) | fail) only [F15.t2, bQuo, bRem, bShl, bShr, IntWalk.i64_in, IntWalk.u64_in, IntWalk.u8_in, IntWalk.i8_in, IntWalk.u32_in, IntWalk.i32_in, IntWalk.u8_quo, IntWalk.i64_quo, IntWalk.u64_quo, IntWalk.rem_in, evs0, evs1, evs2, evs3, evs4, evs5, evs6, evs7, evs8, evs9, evs10, evs11, evs12, evs13, if_true, if_false, ↓reduceIte, Nat.reduceEqDiff, Nat.reduceAdd, Nat.reduceMul, Nat.reduceSub, Nat.reduceLeDiff, Int.reduceLT, Int.reduceLE, Int.reduceEq, Bool.false_eq_true, Option.bind_some, Option.map_some, List.set_cons_zero, List.set_cons_succ, List.toList_toArray, List.size_toArray, List.length_cons, List.length_nil, List.getElem?_toArray, List.getElem?_cons_zero, List.getElem?_cons_succ, List.drop_zero, List.take_succ_cons, List.take_zero]
    have next : F15.p4 n0 [(0, .slice fa bs.length (bs.length + 5)), (1, .slice ad bs.length c), (5, .slice fa (bs.length + 5) (bs.length + 5)), (13, .int .i64 ((bs.length + 5 : Nat) : Int)), (14, .int .i64 i)] [] hh
        (KLp [0, 1, 5, 13, 14] (fun fr hh' => ∃ m', m' < bs.length + 5 - i ∧ ∃ i : Nat, fr = [(0, .slice fa bs.length (bs.length + 5)), (1, .slice ad bs.length c), (5, .slice fa (bs.length + 5) (bs.length + 5)), (13, .int .i64 ((bs.length + 5 : Nat) : Int)), (14, .int .i64 i)] ∧ hh' = hh ∧ i ≤ bs.length + 5 ∧ m' = bs.length + 5 - i) []
          (KBlk [0, 1] 0 (KSeq [0, 1] (F15.p5 n0) (KFin Try.prog [.tmp 4] HP)))) := by
      rw [F15.e4]
      simp (disch := first | omega | assumption | exact isC_last | exact isC_app (by first | assumption | exact isC_last | exact isC_app (by first | assumption | exact isC_last)) | (simp [oneC]; done) | fail) only [F15.t4, bQuo, bRem, bShl, bShr, IntWalk.i64_in, IntWalk.u64_in, IntWalk.u8_in, IntWalk.i8_in, IntWalk.u32_in, IntWalk.i32_in, IntWalk.u8_quo, IntWalk.i64_quo, IntWalk.u64_quo, IntWalk.rem_in, evs0, evs1, evs2, evs3, evs4, evs5, evs6, evs7, evs8, evs9, evs10, evs11, evs12, evs13, if_true, if_false, ↓reduceIte, Nat.reduceEqDiff, Nat.reduceAdd, Nat.reduceMul, Nat.reduceSub, Nat.reduceLeDiff, Int.reduceLT, Int.reduceLE, Int.reduceEq, Bool.false_eq_true, Option.bind_some, Option.map_some, List.set_cons_zero, List.set_cons_succ, List.toList_toArray, List.size_toArray, List.length_cons, List.length_nil, List.getElem?_toArray, List.getElem?_cons_zero, List.getElem?_cons_succ, List.drop_zero, List.take_succ_cons, List.take_zero]
      refine ⟨?_, bs.length + 5 - (i + 1), by omega, i + 1, ?_, ?_, by omega, rfl⟩ <;> first | rfl | trivial
    by_cases h2 : i < bs.length
    · rw [if_pos (by omega)]
      refine Bnd_idx (i := i) SF un_22 sz_5 ag_5 (by omega) (getApp (bs := bs) (i := i) h2) fun p hp => ?_
      refine Bnd_idx (i := i) S un_22 sz_5 ag_5 (by omega) (getBv (l := bs) (i := i) h2) fun p hp => ?_
      simp (disch := first | omega | assumption | exact isC_last | exact isC_app (by first | assumption | exact isC_last | exact isC_app (by first | assumption | exact isC_last)) | (simp [oneC]; done) | fail) only [bQuo, bRem, bShl, bShr, IntWalk.i64_in, IntWalk.u64_in, IntWalk.u8_in, IntWalk.i8_in, IntWalk.u32_in, IntWalk.i32_in, IntWalk.u8_quo, IntWalk.i64_quo, IntWalk.u64_quo, IntWalk.rem_in, evs0, evs1, evs2, evs3, evs4, evs5, evs6, evs7, evs8, evs9, evs10, evs11, evs12, evs13, if_true, if_false, ↓reduceIte, Nat.reduceEqDiff, Nat.reduceAdd, Nat.reduceMul, Nat.reduceSub, Nat.reduceLeDiff, Int.reduceLT, Int.reduceLE, Int.reduceEq, Bool.false_eq_true, Option.bind_some, Option.map_some, List.set_cons_zero, List.set_cons_succ, List.toList_toArray, List.size_toArray, List.length_cons, List.length_nil, List.getElem?_toArray, List.getElem?_cons_zero, List.getElem?_cons_succ, List.drop_zero, List.take_succ_cons, List.take_zero]
      rw [if_neg (by omega)]
      exact next
    · rw [if_neg (by omega), if_pos (by omega)]
      refine Bnd_idx (i := i) SF un_22 sz_5 ag_5 (by omega) (getMark (bs := bs) (i := i) (by omega) h1) fun p hp => ?_
      simp (disch := first | omega | assumption | exact isC_last | exact isC_app (by first | assumption | exact isC_last | exact isC_app (by first | assumption | exact isC_last)) | (simp [oneC]; done) | fail) only [bQuo, bRem, bShl, bShr, IntWalk.i64_in, IntWalk.u64_in, IntWalk.u8_in, IntWalk.i8_in, IntWalk.u32_in, IntWalk.i32_in, IntWalk.u8_quo, IntWalk.i64_quo, IntWalk.u64_quo, IntWalk.rem_in, evs0, evs1, evs2, evs3, evs4, evs5, evs6, evs7, evs8, evs9, evs10, evs11, evs12, evs13, if_true, if_false, ↓reduceIte, Nat.reduceEqDiff, Nat.reduceAdd, Nat.reduceMul, Nat.reduceSub, Nat.reduceLeDiff, Int.reduceLT, Int.reduceLE, Int.reduceEq, Bool.false_eq_true, Option.bind_some, Option.map_some, List.set_cons_zero, List.set_cons_succ, List.toList_toArray, List.size_toArray, List.length_cons, List.length_nil, List.getElem?_toArray, List.getElem?_cons_zero, List.getElem?_cons_succ, List.drop_zero, List.take_succ_cons, List.take_zero]
      exact next
  · rw [if_neg (by omega)]
    rw [F15.e5]
    simp (disch := first | omega | assumption | exact isC_last | exact isC_app (by first | assumption | exact isC_last | exact isC_app (by first | assumption | exact isC_last)) | (simp [oneC]; done) | fail) only [F15.t5, bQuo, bRem, bShl, bShr, IntWalk.i64_in, IntWalk.u64_in, IntWalk.u8_in, IntWalk.i8_in, IntWalk.u32_in, IntWalk.i32_in, IntWalk.u8_quo, IntWalk.i64_quo, IntWalk.u64_quo, IntWalk.rem_in, evs0, evs1, evs2, evs3, evs4, evs5, evs6, evs7, evs8, evs9, evs10, evs11, evs12, evs13, if_true, if_false, ↓reduceIte, Nat.reduceEqDiff, Nat.reduceAdd, Nat.reduceMul, Nat.reduceSub, Nat.reduceLeDiff, Int.reduceLT, Int.reduceLE, Int.reduceEq, Bool.false_eq_true, Option.bind_some, Option.map_some, List.set_cons_zero, List.set_cons_succ, List.toList_toArray, List.size_toArray, List.length_cons, List.length_nil, List.getElem?_toArray, List.getElem?_cons_zero, List.getElem?_cons_succ, List.drop_zero, List.take_succ_cons, List.take_zero]
    rw [← hHP]
    exact ⟨by simp, rfl⟩
end Go.Proofs.Ytknpmldldlbniaa
