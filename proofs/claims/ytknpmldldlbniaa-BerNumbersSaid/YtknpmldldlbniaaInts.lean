/- A body as a number, by the program and by the reference. No condition. -/
import Derived.Test.YtknpmldldlbniaaBodies
set_option linter.unusedVariables false
set_option linter.unusedSimpArgs false
namespace Go.Proofs.Ytknpmldldlbniaa
open Go.Ev Ber
def IntPost (bs : List UInt8) (t : Tlv) (h : H) : Value → H → Prop := fun v h' => (∃ u, h' = h ++ u) ∧ v = .tuple #[.int .i64 (intS bs t).1, .int .i64 (intS bs t).2]
theorem nine {x y : Nat} (hx : x < 256) (hy : y < 256) : (IntKind.u8.wrap (iShr .i8 (IntKind.i8.wrap x) 7) = x ∧ iAnd .u8 (iXor .u8 x y) 128 = 0) ↔ ((x = 0 ∧ y < 128) ∨ (x = 255 ∧ 128 ≤ y)) := by
  have h1 := byte_all (p := fun x => decide (IntKind.u8.wrap (iShr .i8 (IntKind.i8.wrap (x : Int)) 7) = (x : Int)) == (decide (x = 0) || decide (x = 255))) (by decide +kernel) x hx
  have h2 := byte_all (p := fun y => decide (iAnd .u8 (iXor .u8 ((0 : Nat) : Int) (y : Int)) 128 = 0) == decide (y < 128)) (by decide +kernel) y hy
  have h3 := byte_all (p := fun y => decide (iAnd .u8 (iXor .u8 ((255 : Nat) : Int) (y : Int)) 128 = 0) == decide (128 ≤ y)) (by decide +kernel) y hy
  simp only [beq_iff_eq, Bool.decide_or, decide_eq_decide, ← Bool.decide_or] at h1 h2 h3
  rw [h1]
  constructor
  · rintro ⟨rfl | rfl, h⟩
    · exact .inl ⟨rfl, h2.1 h⟩
    · exact .inr ⟨rfl, h3.1 h⟩
  · rintro (⟨rfl, h⟩ | ⟨rfl, h⟩)
    · exact ⟨.inl rfl, h2.2 h⟩
    · exact ⟨.inr rfl, h3.2 h⟩
theorem sx8 {x : Nat} (hx : x < 256) : IntKind.i64.wrap (IntKind.i8.wrap x) = sx x := of_decide_eq_true (byte_all (p := fun x => decide (IntKind.i64.wrap (IntKind.i8.wrap (x : Int)) = sx x)) (by decide +kernel) x hx)
/-- so many octets hold so great numbers -/
def inR (n : Int) (j : Nat) : Prop := -(128 * (256 ^ j : Nat) : Int) ≤ n ∧ n < 128 * (256 ^ j : Nat)
theorem inR_zero {x : Nat} (hx : x < 256) : inR (sx x) 0 := by unfold inR sx; simp; split <;> omega
theorem inR_step {n : Int} {j b : Nat} (h : inR n j) (hb : b < 256) : inR (256 * n + b) (j + 1) := by
  unfold inR at h ⊢
  rw [Nat.pow_succ]
  generalize 256 ^ j = p at *
  omega
theorem inR_small {n : Int} {j : Nat} (h : inR n j) (hj : j ≤ 6) : -36028797018963968 ≤ n ∧ n < 36028797018963968 := by
  unfold inR at h
  have : 256 ^ j ≤ 256 ^ 6 := Nat.pow_le_pow_right (by omega) hj
  generalize 256 ^ j = p at *
  have e : (256 : Nat) ^ 6 = 281474976710656 := by decide
  omega
theorem inR_valS {l : List UInt8} : ∀ j, j < l.length → inR (valS (l.take (j + 1))) j
  | 0, _ => by rw [valS_one]; exact inR_zero (u8_lt _)
  | j + 1, h => by rw [valS_take (by omega)]; exact inR_step (inR_valS j (by omega)) (u8_lt _)
set_option maxRecDepth 20000 in
theorem Int_ok {n0 : Nat} {h : H} {b : Value} {bs : List UInt8} {t : Tlv} (S : Sl h 1 b (bs.map bv)) : Cn Try.prog n0 (.func 20) [b, t.v] h (IntPost bs t h) := by
  refine F20.enter ?_
  have fin : ∀ (n e : Int) (u : H), intS bs t = (n, e) → IntPost bs t h (.tuple #[.int .i64 n, .int .i64 e]) (h ++ u) := fun n e u hE => ⟨⟨u, rfl⟩, by rw [hE]⟩
  generalize IntPost bs t h = HP at fin
  rw [F20.e0]
  simp (disch := first | omega | assumption | exact isC_last | exact isC_app (by first | assumption | exact isC_last | exact isC_app (by first | assumption | exact isC_last)) | (simp [oneC]; done) | fail) only [F20.t0, clL, Tlv.v, evs0, evs1, evs2, evs3, evs4, evs5, evs6, evs7, evs8, evs9, evs10, evs11, evs12, evs13, if_true, if_false, ↓reduceIte, Nat.reduceEqDiff, Nat.reduceAdd, Nat.reduceMul, Nat.reduceSub, Nat.reduceLeDiff, Int.reduceLT, Int.reduceLE, Int.reduceEq, Bool.false_eq_true, Option.bind_some, Option.map_some, List.set_cons_zero, List.set_cons_succ, List.toList_toArray, List.size_toArray, List.length_cons, List.length_nil, List.getElem?_toArray, List.getElem?_cons_zero, List.getElem?_cons_succ, List.drop_zero, List.take_succ_cons, List.take_zero]
  refine (Body_ok (S.app _)).mono ?_
  rintro v h1 ⟨u, x, rfl, rfl, Sx⟩
  simp (disch := first | omega | assumption | exact isC_last | exact isC_app (by first | assumption | exact isC_last | exact isC_app (by first | assumption | exact isC_last)) | (simp [oneC]; done) | fail) only [evs0, evs1, evs2, evs3, evs4, evs5, evs6, evs7, evs8, evs9, evs10, evs11, evs12, evs13, if_true, if_false, ↓reduceIte, Nat.reduceEqDiff, Nat.reduceAdd, Nat.reduceMul, Nat.reduceSub, Nat.reduceLeDiff, Int.reduceLT, Int.reduceLE, Int.reduceEq, Bool.false_eq_true, Option.bind_some, Option.map_some, List.set_cons_zero, List.set_cons_succ, List.toList_toArray, List.size_toArray, List.length_cons, List.length_nil, List.getElem?_toArray, List.getElem?_cons_zero, List.getElem?_cons_succ, List.drop_zero, List.take_succ_cons, List.take_zero]
  rw [List.append_assoc] at Sx ⊢
  generalize [Ob.cells true (enc 0 26) [Value.int IntKind.i8 t.cls, Value.bool t.cons, Value.int IntKind.i64 t.num, Value.int IntKind.i64 t.frm, Value.int IntKind.i64 t.to]] ++ u = u' at Sx ⊢
  by_cases hz : bodyE bs.length t = 0
  rotate_left
  · rw [if_neg hz, F20.e1]
    simp (disch := first | omega | assumption | exact isC_last | exact isC_app (by first | assumption | exact isC_last | exact isC_app (by first | assumption | exact isC_last)) | (simp [oneC]; done) | fail) only [F20.t1, evs0, evs1, evs2, evs3, evs4, evs5, evs6, evs7, evs8, evs9, evs10, evs11, evs12, evs13, if_true, if_false, ↓reduceIte, Nat.reduceEqDiff, Nat.reduceAdd, Nat.reduceMul, Nat.reduceSub, Nat.reduceLeDiff, Int.reduceLT, Int.reduceLE, Int.reduceEq, Bool.false_eq_true, Option.bind_some, Option.map_some, List.set_cons_zero, List.set_cons_succ, List.toList_toArray, List.size_toArray, List.length_cons, List.length_nil, List.getElem?_toArray, List.getElem?_cons_zero, List.getElem?_cons_succ, List.drop_zero, List.take_succ_cons, List.take_zero]
    exact fin _ _ _ (by unfold intS; rw [if_pos hz])
  rw [if_pos hz]
  have hI : intS bs t = if badI (bodyB bs t) then (0, 23) else (valS (bodyB bs t), 0) := by unfold intS; rw [if_neg (by simp [hz])]
  generalize bodyB bs t = l at Sx hI
  have bad : badI l → F20.p3 n0 [(6, x)] [] (h ++ u') (KSeq [6] (F20.p4 n0) (KFin Try.prog [ResultVar.tmp 4, ResultVar.tmp 5] HP)) := by
    intro hb
    rw [F20.e3]
    simp (disch := first | omega | assumption | exact isC_last | exact isC_app (by first | assumption | exact isC_last | exact isC_app (by first | assumption | exact isC_last)) | (simp [oneC]; done) | fail) only [F20.t3, evs0, evs1, evs2, evs3, evs4, evs5, evs6, evs7, evs8, evs9, evs10, evs11, evs12, evs13, if_true, if_false, ↓reduceIte, Nat.reduceEqDiff, Nat.reduceAdd, Nat.reduceMul, Nat.reduceSub, Nat.reduceLeDiff, Int.reduceLT, Int.reduceLE, Int.reduceEq, Bool.false_eq_true, Option.bind_some, Option.map_some, List.set_cons_zero, List.set_cons_succ, List.toList_toArray, List.size_toArray, List.length_cons, List.length_nil, List.getElem?_toArray, List.getElem?_cons_zero, List.getElem?_cons_succ, List.drop_zero, List.take_succ_cons, List.take_zero]
    exact fin _ _ _ (by rw [hI, if_pos hb])
  have good : ¬ badI l → F20.p4 n0 [(6, x)] [] (h ++ u') (KFin Try.prog [ResultVar.tmp 4, ResultVar.tmp 5] HP) := by
    intro hb
    have hl : 1 ≤ l.length ∧ l.length ≤ 8 := by unfold badI at hb; omega
    rw [F20.e4]
    unfold F20.t4
    refine Bnd_idx Sx un_22 sz_5 ag_5 (by decide) (getBv (show (0 : Int).toNat < l.length from by simp; omega)) fun p hp => ?_
    simp (disch := first | omega | assumption | exact isC_last | exact isC_app (by first | assumption | exact isC_last | exact isC_app (by first | assumption | exact isC_last)) | (simp [oneC]; done) | fail) only [sx8 (u8_lt _), evs0, evs1, evs2, evs3, evs4, evs5, evs6, evs7, evs8, evs9, evs10, evs11, evs12, evs13, if_true, if_false, ↓reduceIte, Nat.reduceEqDiff, Nat.reduceAdd, Nat.reduceMul, Nat.reduceSub, Nat.reduceLeDiff, Int.reduceLT, Int.reduceLE, Int.reduceEq, Bool.false_eq_true, Option.bind_some, Option.map_some, List.set_cons_zero, List.set_cons_succ, List.toList_toArray, List.size_toArray, List.length_cons, List.length_nil, List.getElem?_toArray, List.getElem?_cons_zero, List.getElem?_cons_succ, List.drop_zero, List.take_succ_cons, List.take_zero]
    refine Bnd_sub1 (lo := some 1) (hi := none) (kk := .i64) (kk' := .i64) Sx un_22 sz_5 (by decide) (by simp only [Option.getD_some, Option.getD_none, List.length_map]; omega) (by simp only [Option.getD_none, List.length_map]; omega) fun w Sw => ?_
    simp only [Option.getD_some, Option.getD_none, List.length_map] at Sw
    rw [← List.map_drop, ← List.map_take] at Sw
    have e1 : ((l.drop (1 : Int).toNat).take ((l.length : Int).toNat - (1 : Int).toNat)) = l.tail := by
      rw [List.take_of_length_le (by simp)]
      cases l <;> rfl
    rw [e1] at Sw
    refine Bnd_len1 Sw un_22 ?_
    refine Lp_ind (fun m fr hh => ∃ k : Nat, fr = [(8, .int .i64 (valS (l.take (k + 1)))), (62, w), (63, .int .i64 ((List.map bv l.tail).length : Nat)), (64, .int .i64 k)] ∧ hh = h ++ u' ∧ k + 1 ≤ l.length ∧ m = 8 - k) (F20.m5 n0) 8 ⟨0, ?_, rfl, hl.1, rfl⟩ ?_
    · simp (disch := first | omega | assumption | exact isC_last | exact isC_app (by first | assumption | exact isC_last | exact isC_app (by first | assumption | exact isC_last)) | (simp [oneC]; done) | fail) only [evs0, evs1, evs2, evs3, evs4, evs5, evs6, evs7, evs8, evs9, evs10, evs11, evs12, evs13, if_true, if_false, ↓reduceIte, Nat.reduceEqDiff, Nat.reduceAdd, Nat.reduceMul, Nat.reduceSub, Nat.reduceLeDiff, Int.reduceLT, Int.reduceLE, Int.reduceEq, Bool.false_eq_true, Option.bind_some, Option.map_some, List.set_cons_zero, List.set_cons_succ, List.toList_toArray, List.size_toArray, List.length_cons, List.length_nil, List.getElem?_toArray, List.getElem?_cons_zero, List.getElem?_cons_succ, List.drop_zero, List.take_succ_cons, List.take_zero]
      rw [valS_one]; rfl
    rintro m fr hh ⟨k, rfl, rfl, hk, rfl⟩
    have hlt : (List.map bv l.tail).length = l.length - 1 := by simp
    rw [hlt]
    rw [F20.e5]
    simp (disch := first | omega | assumption | exact isC_last | exact isC_app (by first | assumption | exact isC_last | exact isC_app (by first | assumption | exact isC_last)) | (simp [oneC]; done) | fail) only [F20.t5, evs0, evs1, evs2, evs3, evs4, evs5, evs6, evs7, evs8, evs9, evs10, evs11, evs12, evs13, if_true, if_false, ↓reduceIte, Nat.reduceEqDiff, Nat.reduceAdd, Nat.reduceMul, Nat.reduceSub, Nat.reduceLeDiff, Int.reduceLT, Int.reduceLE, Int.reduceEq, Bool.false_eq_true, Option.bind_some, Option.map_some, List.set_cons_zero, List.set_cons_succ, List.toList_toArray, List.size_toArray, List.length_cons, List.length_nil, List.getElem?_toArray, List.getElem?_cons_zero, List.getElem?_cons_succ, List.drop_zero, List.take_succ_cons, List.take_zero]
    by_cases hk2 : k + 1 < l.length
    · rw [if_pos (by omega), F20.e6]
      unfold F20.t6
      refine Bnd_idx Sw un_22 sz_5 ag_5 (by omega) (getBv (show (k : Int).toNat < l.tail.length from by simp; omega)) fun p hp => ?_
      have eG : l.tail.getD (k : Int).toNat 0 = l.getD (k + 1) 0 := by cases l <;> simp
      obtain ⟨r1, r2⟩ := inR_small (inR_valS (l := l) k (by omega)) (by omega)
      have hb := u8_lt (l.getD (k + 1) 0)
      rw [eG]
      simp (disch := first | omega | assumption | exact isC_last | exact isC_app (by first | assumption | exact isC_last | exact isC_app (by first | assumption | exact isC_last)) | (simp [oneC]; done) | fail) only [bShl, evs0, evs1, evs2, evs3, evs4, evs5, evs6, evs7, evs8, evs9, evs10, evs11, evs12, evs13, if_true, if_false, ↓reduceIte, Nat.reduceEqDiff, Nat.reduceAdd, Nat.reduceMul, Nat.reduceSub, Nat.reduceLeDiff, Int.reduceLT, Int.reduceLE, Int.reduceEq, Bool.false_eq_true, Option.bind_some, Option.map_some, List.set_cons_zero, List.set_cons_succ, List.toList_toArray, List.size_toArray, List.length_cons, List.length_nil, List.getElem?_toArray, List.getElem?_cons_zero, List.getElem?_cons_succ, List.drop_zero, List.take_succ_cons, List.take_zero]
      rw [IntWalk.i64_in _ (show _ ∧ _ from ⟨by omega, by omega⟩), shl8i r1 r2, or8i r1 r2 hb, ← valS_take hk2, F20.e7]
      simp (disch := first | omega | assumption | exact isC_last | exact isC_app (by first | assumption | exact isC_last | exact isC_app (by first | assumption | exact isC_last)) | (simp [oneC]; done) | fail) only [F20.t7, evs0, evs1, evs2, evs3, evs4, evs5, evs6, evs7, evs8, evs9, evs10, evs11, evs12, evs13, if_true, if_false, ↓reduceIte, Nat.reduceEqDiff, Nat.reduceAdd, Nat.reduceMul, Nat.reduceSub, Nat.reduceLeDiff, Int.reduceLT, Int.reduceLE, Int.reduceEq, Bool.false_eq_true, Option.bind_some, Option.map_some, List.set_cons_zero, List.set_cons_succ, List.toList_toArray, List.size_toArray, List.length_cons, List.length_nil, List.getElem?_toArray, List.getElem?_cons_zero, List.getElem?_cons_succ, List.drop_zero, List.take_succ_cons, List.take_zero]
      rw [IntWalk.i64_in ((k : Int) + 1) (by omega)]
      exact ⟨trivial, 8 - (k + 1), by omega, k + 1, rfl, trivial, by omega, rfl⟩
    · rw [if_neg (by omega)]
      rw [F20.e8]
      simp (disch := first | omega | assumption | exact isC_last | exact isC_app (by first | assumption | exact isC_last | exact isC_app (by first | assumption | exact isC_last)) | (simp [oneC]; done) | fail) only [F20.t8, evs0, evs1, evs2, evs3, evs4, evs5, evs6, evs7, evs8, evs9, evs10, evs11, evs12, evs13, if_true, if_false, ↓reduceIte, Nat.reduceEqDiff, Nat.reduceAdd, Nat.reduceMul, Nat.reduceSub, Nat.reduceLeDiff, Int.reduceLT, Int.reduceLE, Int.reduceEq, Bool.false_eq_true, Option.bind_some, Option.map_some, List.set_cons_zero, List.set_cons_succ, List.toList_toArray, List.size_toArray, List.length_cons, List.length_nil, List.getElem?_toArray, List.getElem?_cons_zero, List.getElem?_cons_succ, List.drop_zero, List.take_succ_cons, List.take_zero]
      exact fin _ _ _ (by rw [hI, if_neg hb, List.take_of_length_le (by omega)])
  clear fin
  rw [F20.e2]
  obtain ⟨ad, c, rfl, hc⟩ := Sx.lenB
  simp (disch := first | omega | assumption | exact isC_last | exact isC_app (by first | assumption | exact isC_last | exact isC_app (by first | assumption | exact isC_last)) | (simp [oneC]; done) | fail) only [F20.t2, evs0, evs1, evs2, evs3, evs4, evs5, evs6, evs7, evs8, evs9, evs10, evs11, evs12, evs13, if_true, if_false, ↓reduceIte, Nat.reduceEqDiff, Nat.reduceAdd, Nat.reduceMul, Nat.reduceSub, Nat.reduceLeDiff, Int.reduceLT, Int.reduceLE, Int.reduceEq, Bool.false_eq_true, Option.bind_some, Option.map_some, List.set_cons_zero, List.set_cons_succ, List.toList_toArray, List.size_toArray, List.length_cons, List.length_nil, List.getElem?_toArray, List.getElem?_cons_zero, List.getElem?_cons_succ, List.drop_zero, List.take_succ_cons, List.take_zero]
  by_cases h1 : l.length < 1
  · rw [if_pos (by omega)]; exact bad (.inl h1)
  rw [if_neg (by omega)]
  by_cases h2 : 8 < l.length
  · rw [if_pos (by omega)]; exact bad (.inr (.inl h2))
  rw [if_neg (by omega)]
  by_cases h3 : 1 < l.length
  · rw [if_pos (by omega)]
    refine Bnd_idx Sx un_22 sz_5 ag_5 (by decide) (getBv (show (0 : Int).toNat < l.length from by simp; omega)) fun p hp => ?_
    simp (disch := first | omega | assumption | exact isC_last | exact isC_app (by first | assumption | exact isC_last | exact isC_app (by first | assumption | exact isC_last)) | (simp [oneC]; done) | fail) only [bShr, evs0, evs1, evs2, evs3, evs4, evs5, evs6, evs7, evs8, evs9, evs10, evs11, evs12, evs13, if_true, if_false, ↓reduceIte, Nat.reduceEqDiff, Nat.reduceAdd, Nat.reduceMul, Nat.reduceSub, Nat.reduceLeDiff, Int.reduceLT, Int.reduceLE, Int.reduceEq, Bool.false_eq_true, Option.bind_some, Option.map_some, List.set_cons_zero, List.set_cons_succ, List.toList_toArray, List.size_toArray, List.length_cons, List.length_nil, List.getElem?_toArray, List.getElem?_cons_zero, List.getElem?_cons_succ, List.drop_zero, List.take_succ_cons, List.take_zero]
    refine Bnd_idx Sx un_22 sz_5 ag_5 (by decide) (getBv (show (0 : Int).toNat < l.length from by simp; omega)) fun p hp => ?_
    simp (disch := first | omega | assumption | exact isC_last | exact isC_app (by first | assumption | exact isC_last | exact isC_app (by first | assumption | exact isC_last)) | (simp [oneC]; done) | fail) only [evs0, evs1, evs2, evs3, evs4, evs5, evs6, evs7, evs8, evs9, evs10, evs11, evs12, evs13, if_true, if_false, ↓reduceIte, Nat.reduceEqDiff, Nat.reduceAdd, Nat.reduceMul, Nat.reduceSub, Nat.reduceLeDiff, Int.reduceLT, Int.reduceLE, Int.reduceEq, Bool.false_eq_true, Option.bind_some, Option.map_some, List.set_cons_zero, List.set_cons_succ, List.toList_toArray, List.size_toArray, List.length_cons, List.length_nil, List.getElem?_toArray, List.getElem?_cons_zero, List.getElem?_cons_succ, List.drop_zero, List.take_succ_cons, List.take_zero]
    have n8 := nine (u8_lt (l.getD 0 0)) (u8_lt (l.getD 1 0))
    have hb1 := u8_lt (l.getD 0 0)
    have eb : badI l ↔ (((l.getD 0 0).toNat = 0 ∧ (l.getD 1 0).toNat < 128) ∨ ((l.getD 0 0).toNat = 255 ∧ 128 ≤ (l.getD 1 0).toNat)) := by
      unfold badI
      constructor
      · rintro (h | h | h)
        · omega
        · omega
        · exact h.2
      · exact fun h => .inr (.inr ⟨h3, h⟩)
    rw [← n8] at eb
    rw [show (0 : Int).toNat = 0 from rfl]
    by_cases h4 : IntKind.u8.wrap (iShr .i8 (IntKind.i8.wrap (l.getD 0 0).toNat) 7) = (l.getD 0 0).toNat
    · rw [if_pos h4]
      refine Bnd_idx Sx un_22 sz_5 ag_5 (by decide) (getBv (show (0 : Int).toNat < l.length from by simp; omega)) fun p hp => ?_
      refine Bnd_idx Sx un_22 sz_5 ag_5 (by decide) (getBv (show (1 : Int).toNat < l.length from by simp; omega)) fun p hp => ?_
      simp (disch := first | omega | assumption | exact isC_last | exact isC_app (by first | assumption | exact isC_last | exact isC_app (by first | assumption | exact isC_last)) | (simp [oneC]; done) | fail) only [evs0, evs1, evs2, evs3, evs4, evs5, evs6, evs7, evs8, evs9, evs10, evs11, evs12, evs13, if_true, if_false, ↓reduceIte, Nat.reduceEqDiff, Nat.reduceAdd, Nat.reduceMul, Nat.reduceSub, Nat.reduceLeDiff, Int.reduceLT, Int.reduceLE, Int.reduceEq, Bool.false_eq_true, Option.bind_some, Option.map_some, List.set_cons_zero, List.set_cons_succ, List.toList_toArray, List.size_toArray, List.length_cons, List.length_nil, List.getElem?_toArray, List.getElem?_cons_zero, List.getElem?_cons_succ, List.drop_zero, List.take_succ_cons, List.take_zero]
      rw [show (0 : Int).toNat = 0 from rfl, show (1 : Int).toNat = 1 from rfl]
      split
      · rename_i h5
        exact bad (eb.2 ⟨h4, h5⟩)
      · rename_i h5
        exact good (fun h => h5 (eb.1 h).2)
    · rw [if_neg h4]
      exact good (fun h => h4 (eb.1 h).1)
  · rw [if_neg (by omega)]
    exact good (by unfold badI; omega)
set_option maxRecDepth 20000 in
theorem RInt_ok {n0 : Nat} {h : H} {b : Value} {bs : List UInt8} {t : Tlv} (S : Sl h 1 b (bs.map bv)) : Cn Try.prog n0 (.func 27) [b, t.v] h (IntPost bs t h) := by
  refine F27.enter ?_
  have fin : ∀ (n e : Int) (u : H), intS bs t = (n, e) → IntPost bs t h (.tuple #[.int .i64 n, .int .i64 e]) (h ++ u) := fun n e u hE => ⟨⟨u, rfl⟩, by rw [hE]⟩
  generalize IntPost bs t h = HP at fin
  rw [F27.e0]
  simp (disch := first | omega | assumption | exact isC_last | exact isC_app (by first | assumption | exact isC_last | exact isC_app (by first | assumption | exact isC_last)) | (simp [oneC]; done) | fail) only [F27.t0, clL, Tlv.v, evs0, evs1, evs2, evs3, evs4, evs5, evs6, evs7, evs8, evs9, evs10, evs11, evs12, evs13, if_true, if_false, ↓reduceIte, Nat.reduceEqDiff, Nat.reduceAdd, Nat.reduceMul, Nat.reduceSub, Nat.reduceLeDiff, Int.reduceLT, Int.reduceLE, Int.reduceEq, Bool.false_eq_true, Option.bind_some, Option.map_some, List.set_cons_zero, List.set_cons_succ, List.toList_toArray, List.size_toArray, List.length_cons, List.length_nil, List.getElem?_toArray, List.getElem?_cons_zero, List.getElem?_cons_succ, List.drop_zero, List.take_succ_cons, List.take_zero]
  rw [show (Value.agg #[.int .i8 t.cls, .bool t.cons, .int .i64 t.num, .int .i64 t.frm, .int .i64 t.to]) = t.v from rfl]
  refine (RBody_ok (S.app _)).mono ?_
  rintro v h1 ⟨u, x, rfl, rfl, Sx⟩
  simp (disch := first | omega | assumption | exact isC_last | exact isC_app (by first | assumption | exact isC_last | exact isC_app (by first | assumption | exact isC_last)) | (simp [oneC]; done) | fail) only [evs0, evs1, evs2, evs3, evs4, evs5, evs6, evs7, evs8, evs9, evs10, evs11, evs12, evs13, if_true, if_false, ↓reduceIte, Nat.reduceEqDiff, Nat.reduceAdd, Nat.reduceMul, Nat.reduceSub, Nat.reduceLeDiff, Int.reduceLT, Int.reduceLE, Int.reduceEq, Bool.false_eq_true, Option.bind_some, Option.map_some, List.set_cons_zero, List.set_cons_succ, List.toList_toArray, List.size_toArray, List.length_cons, List.length_nil, List.getElem?_toArray, List.getElem?_cons_zero, List.getElem?_cons_succ, List.drop_zero, List.take_succ_cons, List.take_zero]
  rw [List.append_assoc] at Sx ⊢
  generalize [Ob.cells true (enc 0 26) [Value.int IntKind.i8 t.cls, Value.bool t.cons, Value.int IntKind.i64 t.num, Value.int IntKind.i64 t.frm, Value.int IntKind.i64 t.to]] ++ u = u' at Sx ⊢
  by_cases hz : bodyE bs.length t = 0
  rotate_left
  · rw [if_neg hz, F27.e1]
    simp (disch := first | omega | assumption | exact isC_last | exact isC_app (by first | assumption | exact isC_last | exact isC_app (by first | assumption | exact isC_last)) | (simp [oneC]; done) | fail) only [F27.t1, evs0, evs1, evs2, evs3, evs4, evs5, evs6, evs7, evs8, evs9, evs10, evs11, evs12, evs13, if_true, if_false, ↓reduceIte, Nat.reduceEqDiff, Nat.reduceAdd, Nat.reduceMul, Nat.reduceSub, Nat.reduceLeDiff, Int.reduceLT, Int.reduceLE, Int.reduceEq, Bool.false_eq_true, Option.bind_some, Option.map_some, List.set_cons_zero, List.set_cons_succ, List.toList_toArray, List.size_toArray, List.length_cons, List.length_nil, List.getElem?_toArray, List.getElem?_cons_zero, List.getElem?_cons_succ, List.drop_zero, List.take_succ_cons, List.take_zero]
    exact fin _ _ _ (by unfold intS; rw [if_pos hz])
  rw [if_pos hz]
  have hI : intS bs t = if badI (bodyB bs t) then (0, 23) else (valS (bodyB bs t), 0) := by unfold intS; rw [if_neg (by simp [hz])]
  generalize bodyB bs t = l at Sx hI
  obtain ⟨ad, c, rfl, hc⟩ := Sx.lenB
  have bad : badI l → F27.p3 n0 [(6, .slice ad l.length c)] [] (h ++ u') (KSeq [6] (F27.p4 n0) (KFin Try.prog [ResultVar.tmp 4, ResultVar.tmp 5] HP)) := by
    intro hb
    rw [F27.e3]
    simp (disch := first | omega | assumption | exact isC_last | exact isC_app (by first | assumption | exact isC_last | exact isC_app (by first | assumption | exact isC_last)) | (simp [oneC]; done) | fail) only [F27.t3, evs0, evs1, evs2, evs3, evs4, evs5, evs6, evs7, evs8, evs9, evs10, evs11, evs12, evs13, if_true, if_false, ↓reduceIte, Nat.reduceEqDiff, Nat.reduceAdd, Nat.reduceMul, Nat.reduceSub, Nat.reduceLeDiff, Int.reduceLT, Int.reduceLE, Int.reduceEq, Bool.false_eq_true, Option.bind_some, Option.map_some, List.set_cons_zero, List.set_cons_succ, List.toList_toArray, List.size_toArray, List.length_cons, List.length_nil, List.getElem?_toArray, List.getElem?_cons_zero, List.getElem?_cons_succ, List.drop_zero, List.take_succ_cons, List.take_zero]
    exact fin _ _ _ (by rw [hI, if_pos hb])
  have bad' : badI l → F27.p5 n0 [(6, .slice ad l.length c)] [] (h ++ u') (KSeq [6] (F27.p6 n0) (KFin Try.prog [ResultVar.tmp 4, ResultVar.tmp 5] HP)) := by
    intro hb
    rw [F27.e5]
    simp (disch := first | omega | assumption | exact isC_last | exact isC_app (by first | assumption | exact isC_last | exact isC_app (by first | assumption | exact isC_last)) | (simp [oneC]; done) | fail) only [F27.t5, evs0, evs1, evs2, evs3, evs4, evs5, evs6, evs7, evs8, evs9, evs10, evs11, evs12, evs13, if_true, if_false, ↓reduceIte, Nat.reduceEqDiff, Nat.reduceAdd, Nat.reduceMul, Nat.reduceSub, Nat.reduceLeDiff, Int.reduceLT, Int.reduceLE, Int.reduceEq, Bool.false_eq_true, Option.bind_some, Option.map_some, List.set_cons_zero, List.set_cons_succ, List.toList_toArray, List.size_toArray, List.length_cons, List.length_nil, List.getElem?_toArray, List.getElem?_cons_zero, List.getElem?_cons_succ, List.drop_zero, List.take_succ_cons, List.take_zero]
    exact fin _ _ _ (by rw [hI, if_pos hb])
  have loop : ¬ badI l → F27.p8 n0 [(6, .slice ad l.length c), (8, .int .i64 (sx (l.getD 0 0).toNat))] [] (h ++ u') (KFin Try.prog [ResultVar.tmp 4, ResultVar.tmp 5] HP) := by
    intro hb
    have hl : 1 ≤ l.length ∧ l.length ≤ 8 := by unfold badI at hb; omega
    rw [F27.e8]
    unfold F27.t8
    refine Lp_ind (fun m fr hh => ∃ k : Nat, fr = [(6, .slice ad l.length c), (8, .int .i64 (valS (l.take (k + 1)))), (9, .int .i64 ((k + 1 : Nat)))] ∧ hh = h ++ u' ∧ k + 1 ≤ l.length ∧ m = 8 - k) (F27.m9 n0) 8 ⟨0, ?_, rfl, hl.1, rfl⟩ ?_
    · simp (disch := first | omega | assumption | exact isC_last | exact isC_app (by first | assumption | exact isC_last | exact isC_app (by first | assumption | exact isC_last)) | (simp [oneC]; done) | fail) only [evs0, evs1, evs2, evs3, evs4, evs5, evs6, evs7, evs8, evs9, evs10, evs11, evs12, evs13, if_true, if_false, ↓reduceIte, Nat.reduceEqDiff, Nat.reduceAdd, Nat.reduceMul, Nat.reduceSub, Nat.reduceLeDiff, Int.reduceLT, Int.reduceLE, Int.reduceEq, Bool.false_eq_true, Option.bind_some, Option.map_some, List.set_cons_zero, List.set_cons_succ, List.toList_toArray, List.size_toArray, List.length_cons, List.length_nil, List.getElem?_toArray, List.getElem?_cons_zero, List.getElem?_cons_succ, List.drop_zero, List.take_succ_cons, List.take_zero]
      rw [valS_one]; rfl
    rintro m fr hh ⟨k, rfl, rfl, hk, rfl⟩
    rw [F27.e9]
    simp (disch := first | omega | assumption | exact isC_last | exact isC_app (by first | assumption | exact isC_last | exact isC_app (by first | assumption | exact isC_last)) | (simp [oneC]; done) | fail) only [F27.t9, evs0, evs1, evs2, evs3, evs4, evs5, evs6, evs7, evs8, evs9, evs10, evs11, evs12, evs13, if_true, if_false, ↓reduceIte, Nat.reduceEqDiff, Nat.reduceAdd, Nat.reduceMul, Nat.reduceSub, Nat.reduceLeDiff, Int.reduceLT, Int.reduceLE, Int.reduceEq, Bool.false_eq_true, Option.bind_some, Option.map_some, List.set_cons_zero, List.set_cons_succ, List.toList_toArray, List.size_toArray, List.length_cons, List.length_nil, List.getElem?_toArray, List.getElem?_cons_zero, List.getElem?_cons_succ, List.drop_zero, List.take_succ_cons, List.take_zero]
    by_cases hk2 : k + 1 < l.length
    · rw [if_pos (by omega), F27.e10]
      unfold F27.t10
      obtain ⟨r1, r2⟩ := inR_small (inR_valS (l := l) k (by omega)) (by omega)
      have hb := u8_lt (l.getD (k + 1) 0)
      simp (disch := first | omega | assumption | exact isC_last | exact isC_app (by first | assumption | exact isC_last | exact isC_app (by first | assumption | exact isC_last)) | (simp [oneC]; done) | fail) only [evs0, evs1, evs2, evs3, evs4, evs5, evs6, evs7, evs8, evs9, evs10, evs11, evs12, evs13, if_true, if_false, ↓reduceIte, Nat.reduceEqDiff, Nat.reduceAdd, Nat.reduceMul, Nat.reduceSub, Nat.reduceLeDiff, Int.reduceLT, Int.reduceLE, Int.reduceEq, Bool.false_eq_true, Option.bind_some, Option.map_some, List.set_cons_zero, List.set_cons_succ, List.toList_toArray, List.size_toArray, List.length_cons, List.length_nil, List.getElem?_toArray, List.getElem?_cons_zero, List.getElem?_cons_succ, List.drop_zero, List.take_succ_cons, List.take_zero]
      refine Bnd_idx Sx un_22 sz_5 ag_5 (by omega) (getBv (show ((k + 1 : Nat) : Int).toNat < l.length from by simp; omega)) fun p hp => ?_
      rw [show ((k + 1 : Nat) : Int).toNat = k + 1 from by simp]
      simp (disch := first | omega | assumption | exact isC_last | exact isC_app (by first | assumption | exact isC_last | exact isC_app (by first | assumption | exact isC_last)) | (simp [oneC]; done) | fail) only [evs0, evs1, evs2, evs3, evs4, evs5, evs6, evs7, evs8, evs9, evs10, evs11, evs12, evs13, if_true, if_false, ↓reduceIte, Nat.reduceEqDiff, Nat.reduceAdd, Nat.reduceMul, Nat.reduceSub, Nat.reduceLeDiff, Int.reduceLT, Int.reduceLE, Int.reduceEq, Bool.false_eq_true, Option.bind_some, Option.map_some, List.set_cons_zero, List.set_cons_succ, List.toList_toArray, List.size_toArray, List.length_cons, List.length_nil, List.getElem?_toArray, List.getElem?_cons_zero, List.getElem?_cons_succ, List.drop_zero, List.take_succ_cons, List.take_zero]
      rw [IntWalk.i64_in (256 * valS (List.take (k + 1) l)) (by omega), IntWalk.i64_in ((l.getD (k + 1) 0).toNat : Int) (by omega), IntWalk.i64_in _ (by omega), ← valS_take hk2, F27.e11]
      simp (disch := first | omega | assumption | exact isC_last | exact isC_app (by first | assumption | exact isC_last | exact isC_app (by first | assumption | exact isC_last)) | (simp [oneC]; done) | fail) only [F27.t11, evs0, evs1, evs2, evs3, evs4, evs5, evs6, evs7, evs8, evs9, evs10, evs11, evs12, evs13, if_true, if_false, ↓reduceIte, Nat.reduceEqDiff, Nat.reduceAdd, Nat.reduceMul, Nat.reduceSub, Nat.reduceLeDiff, Int.reduceLT, Int.reduceLE, Int.reduceEq, Bool.false_eq_true, Option.bind_some, Option.map_some, List.set_cons_zero, List.set_cons_succ, List.toList_toArray, List.size_toArray, List.length_cons, List.length_nil, List.getElem?_toArray, List.getElem?_cons_zero, List.getElem?_cons_succ, List.drop_zero, List.take_succ_cons, List.take_zero]
      rw [IntWalk.i64_in (((k + 1 : Nat) : Int) + 1) (by omega)]
      exact ⟨trivial, 8 - (k + 1), by omega, k + 1, rfl, trivial, by omega, rfl⟩
    · rw [if_neg (by omega)]
      rw [F27.e12]
      simp (disch := first | omega | assumption | exact isC_last | exact isC_app (by first | assumption | exact isC_last | exact isC_app (by first | assumption | exact isC_last)) | (simp [oneC]; done) | fail) only [F27.t12, evs0, evs1, evs2, evs3, evs4, evs5, evs6, evs7, evs8, evs9, evs10, evs11, evs12, evs13, if_true, if_false, ↓reduceIte, Nat.reduceEqDiff, Nat.reduceAdd, Nat.reduceMul, Nat.reduceSub, Nat.reduceLeDiff, Int.reduceLT, Int.reduceLE, Int.reduceEq, Bool.false_eq_true, Option.bind_some, Option.map_some, List.set_cons_zero, List.set_cons_succ, List.toList_toArray, List.size_toArray, List.length_cons, List.length_nil, List.getElem?_toArray, List.getElem?_cons_zero, List.getElem?_cons_succ, List.drop_zero, List.take_succ_cons, List.take_zero]
      exact fin _ _ _ (by rw [hI, if_neg hb, List.take_of_length_le (by omega)])
  have good : ¬ badI l → F27.p6 n0 [(6, .slice ad l.length c)] [] (h ++ u') (KFin Try.prog [ResultVar.tmp 4, ResultVar.tmp 5] HP) := by
    intro hb
    have hl : 1 ≤ l.length ∧ l.length ≤ 8 := by unfold badI at hb; omega
    have hb0 := u8_lt (l.getD 0 0)
    rw [F27.e6]
    unfold F27.t6
    refine Bnd_idx Sx un_22 sz_5 ag_5 (by decide) (getBv (show (0 : Int).toNat < l.length from by simp; omega)) fun p hp => ?_
    rw [show (0 : Int).toNat = 0 from rfl]
    simp (disch := first | omega | assumption | exact isC_last | exact isC_app (by first | assumption | exact isC_last | exact isC_app (by first | assumption | exact isC_last)) | (simp [oneC]; done) | fail) only [evs0, evs1, evs2, evs3, evs4, evs5, evs6, evs7, evs8, evs9, evs10, evs11, evs12, evs13, if_true, if_false, ↓reduceIte, Nat.reduceEqDiff, Nat.reduceAdd, Nat.reduceMul, Nat.reduceSub, Nat.reduceLeDiff, Int.reduceLT, Int.reduceLE, Int.reduceEq, Bool.false_eq_true, Option.bind_some, Option.map_some, List.set_cons_zero, List.set_cons_succ, List.toList_toArray, List.size_toArray, List.length_cons, List.length_nil, List.getElem?_toArray, List.getElem?_cons_zero, List.getElem?_cons_succ, List.drop_zero, List.take_succ_cons, List.take_zero]
    rw [IntWalk.i64_in ((l.getD 0 0).toNat : Int) (by omega)]
    by_cases h7 : (l.getD 0 0).toNat < 128
    · rw [if_neg (by omega)]
      have := loop hb
      unfold sx at this
      rwa [if_pos h7] at this
    · rw [if_pos (by omega), F27.e7]
      simp (disch := first | omega | assumption | exact isC_last | exact isC_app (by first | assumption | exact isC_last | exact isC_app (by first | assumption | exact isC_last)) | (simp [oneC]; done) | fail) only [F27.t7, evs0, evs1, evs2, evs3, evs4, evs5, evs6, evs7, evs8, evs9, evs10, evs11, evs12, evs13, if_true, if_false, ↓reduceIte, Nat.reduceEqDiff, Nat.reduceAdd, Nat.reduceMul, Nat.reduceSub, Nat.reduceLeDiff, Int.reduceLT, Int.reduceLE, Int.reduceEq, Bool.false_eq_true, Option.bind_some, Option.map_some, List.set_cons_zero, List.set_cons_succ, List.toList_toArray, List.size_toArray, List.length_cons, List.length_nil, List.getElem?_toArray, List.getElem?_cons_zero, List.getElem?_cons_succ, List.drop_zero, List.take_succ_cons, List.take_zero]
      rw [IntWalk.i64_in (((l.getD 0 0).toNat : Int) - 256) (by omega)]
      have := loop hb
      unfold sx at this
      rwa [if_neg h7] at this
  clear fin
  rw [F27.e2]
  simp (disch := first | omega | assumption | exact isC_last | exact isC_app (by first | assumption | exact isC_last | exact isC_app (by first | assumption | exact isC_last)) | (simp [oneC]; done) | fail) only [F27.t2, evs0, evs1, evs2, evs3, evs4, evs5, evs6, evs7, evs8, evs9, evs10, evs11, evs12, evs13, if_true, if_false, ↓reduceIte, Nat.reduceEqDiff, Nat.reduceAdd, Nat.reduceMul, Nat.reduceSub, Nat.reduceLeDiff, Int.reduceLT, Int.reduceLE, Int.reduceEq, Bool.false_eq_true, Option.bind_some, Option.map_some, List.set_cons_zero, List.set_cons_succ, List.toList_toArray, List.size_toArray, List.length_cons, List.length_nil, List.getElem?_toArray, List.getElem?_cons_zero, List.getElem?_cons_succ, List.drop_zero, List.take_succ_cons, List.take_zero]
  by_cases h1 : l.length < 1
  · rw [if_pos (by omega)]; exact bad (.inl h1)
  rw [if_neg (by omega)]
  by_cases h2 : 8 < l.length
  · rw [if_pos (by omega)]; exact bad (.inr (.inl h2))
  rw [if_neg (by omega), F27.e4]
  simp (disch := first | omega | assumption | exact isC_last | exact isC_app (by first | assumption | exact isC_last | exact isC_app (by first | assumption | exact isC_last)) | (simp [oneC]; done) | fail) only [F27.t4, evs0, evs1, evs2, evs3, evs4, evs5, evs6, evs7, evs8, evs9, evs10, evs11, evs12, evs13, if_true, if_false, ↓reduceIte, Nat.reduceEqDiff, Nat.reduceAdd, Nat.reduceMul, Nat.reduceSub, Nat.reduceLeDiff, Int.reduceLT, Int.reduceLE, Int.reduceEq, Bool.false_eq_true, Option.bind_some, Option.map_some, List.set_cons_zero, List.set_cons_succ, List.toList_toArray, List.size_toArray, List.length_cons, List.length_nil, List.getElem?_toArray, List.getElem?_cons_zero, List.getElem?_cons_succ, List.drop_zero, List.take_succ_cons, List.take_zero]
  by_cases h3 : 1 < l.length
  · rw [if_pos (by omega)]
    have eb : badI l ↔ (((l.getD 0 0).toNat = 0 ∧ (l.getD 1 0).toNat < 128) ∨ ((l.getD 0 0).toNat = 255 ∧ 128 ≤ (l.getD 1 0).toNat)) := by
      unfold badI
      constructor
      · rintro (h | h | h)
        · omega
        · omega
        · exact h.2
      · exact fun h => .inr (.inr ⟨h3, h⟩)
    have second : ¬ ((l.getD 0 0).toNat = 0 ∧ (l.getD 1 0).toNat < 128) → Bnd (aIndexAddr Try.prog 22 (Value.slice ad l.length c) (Value.int IntKind.i64 0)) fun t43 =>
      Bnd (aLoad Try.prog 5 t43 (h ++ u')) fun t44 =>
        Bnd (aBin Try.prog true BinOp.eql 5 t44 (Value.int IntKind.u8 255)) fun t45 =>
          Gd t45
            (Bnd (aIndexAddr Try.prog 22 (Value.slice ad l.length c) (Value.int IntKind.i64 1)) fun t48 =>
              Bnd (aLoad Try.prog 5 t48 (h ++ u')) fun t49 =>
                Bnd (aBin Try.prog true BinOp.geq 5 t49 (Value.int IntKind.u8 128)) fun t50 =>
                  Cnd t50
                    (F27.p5 n0 [(6, Value.slice ad l.length c)] [] (h ++ u')
                      (KSeq [6] (F27.p6 n0) (KFin Try.prog [ResultVar.tmp 4, ResultVar.tmp 5] HP)))
                    (F27.p6 n0 [(6, Value.slice ad l.length c)] [] (h ++ u')
                      (KFin Try.prog [ResultVar.tmp 4, ResultVar.tmp 5] HP)))
            (F27.p6 n0 [(6, Value.slice ad l.length c)] [] (h ++ u')
              (KFin Try.prog [ResultVar.tmp 4, ResultVar.tmp 5] HP)) := by
      intro hn
      refine Bnd_idx Sx un_22 sz_5 ag_5 (by decide) (getBv (show (0 : Int).toNat < l.length from by simp; omega)) fun p hp => ?_
      rw [show (0 : Int).toNat = 0 from rfl]
      simp (disch := first | omega | assumption | exact isC_last | exact isC_app (by first | assumption | exact isC_last | exact isC_app (by first | assumption | exact isC_last)) | (simp [oneC]; done) | fail) only [evs0, evs1, evs2, evs3, evs4, evs5, evs6, evs7, evs8, evs9, evs10, evs11, evs12, evs13, if_true, if_false, ↓reduceIte, Nat.reduceEqDiff, Nat.reduceAdd, Nat.reduceMul, Nat.reduceSub, Nat.reduceLeDiff, Int.reduceLT, Int.reduceLE, Int.reduceEq, Bool.false_eq_true, Option.bind_some, Option.map_some, List.set_cons_zero, List.set_cons_succ, List.toList_toArray, List.size_toArray, List.length_cons, List.length_nil, List.getElem?_toArray, List.getElem?_cons_zero, List.getElem?_cons_succ, List.drop_zero, List.take_succ_cons, List.take_zero]
      by_cases h5 : (l.getD 0 0).toNat = 255
      · rw [if_pos (by omega)]
        refine Bnd_idx Sx un_22 sz_5 ag_5 (by decide) (getBv (show (1 : Int).toNat < l.length from by simp; omega)) fun p hp => ?_
        rw [show (1 : Int).toNat = 1 from rfl]
        simp (disch := first | omega | assumption | exact isC_last | exact isC_app (by first | assumption | exact isC_last | exact isC_app (by first | assumption | exact isC_last)) | (simp [oneC]; done) | fail) only [evs0, evs1, evs2, evs3, evs4, evs5, evs6, evs7, evs8, evs9, evs10, evs11, evs12, evs13, if_true, if_false, ↓reduceIte, Nat.reduceEqDiff, Nat.reduceAdd, Nat.reduceMul, Nat.reduceSub, Nat.reduceLeDiff, Int.reduceLT, Int.reduceLE, Int.reduceEq, Bool.false_eq_true, Option.bind_some, Option.map_some, List.set_cons_zero, List.set_cons_succ, List.toList_toArray, List.size_toArray, List.length_cons, List.length_nil, List.getElem?_toArray, List.getElem?_cons_zero, List.getElem?_cons_succ, List.drop_zero, List.take_succ_cons, List.take_zero]
        by_cases h6 : (l.getD 1 0).toNat < 128
        · first | rw [if_neg (by omega)] | rw [if_pos (by omega)]
          exact good (fun h => by have := eb.1 h; omega)
        · first | rw [if_pos (by omega)] | rw [if_neg (by omega)]
          exact bad' (eb.2 (.inr ⟨h5, by omega⟩))
      · rw [if_neg (by omega)]
        exact good (fun h => by have := eb.1 h; omega)
    refine Bnd_idx Sx un_22 sz_5 ag_5 (by decide) (getBv (show (0 : Int).toNat < l.length from by simp; omega)) fun p hp => ?_
    rw [show (0 : Int).toNat = 0 from rfl]
    simp (disch := first | omega | assumption | exact isC_last | exact isC_app (by first | assumption | exact isC_last | exact isC_app (by first | assumption | exact isC_last)) | (simp [oneC]; done) | fail) only [evs0, evs1, evs2, evs3, evs4, evs5, evs6, evs7, evs8, evs9, evs10, evs11, evs12, evs13, if_true, if_false, ↓reduceIte, Nat.reduceEqDiff, Nat.reduceAdd, Nat.reduceMul, Nat.reduceSub, Nat.reduceLeDiff, Int.reduceLT, Int.reduceLE, Int.reduceEq, Bool.false_eq_true, Option.bind_some, Option.map_some, List.set_cons_zero, List.set_cons_succ, List.toList_toArray, List.size_toArray, List.length_cons, List.length_nil, List.getElem?_toArray, List.getElem?_cons_zero, List.getElem?_cons_succ, List.drop_zero, List.take_succ_cons, List.take_zero]
    by_cases h4 : (l.getD 0 0).toNat = 0
    · rw [if_pos (by omega)]
      refine Bnd_idx Sx un_22 sz_5 ag_5 (by decide) (getBv (show (1 : Int).toNat < l.length from by simp; omega)) fun p hp => ?_
      rw [show (1 : Int).toNat = 1 from rfl]
      simp (disch := first | omega | assumption | exact isC_last | exact isC_app (by first | assumption | exact isC_last | exact isC_app (by first | assumption | exact isC_last)) | (simp [oneC]; done) | fail) only [evs0, evs1, evs2, evs3, evs4, evs5, evs6, evs7, evs8, evs9, evs10, evs11, evs12, evs13, if_true, if_false, ↓reduceIte, Nat.reduceEqDiff, Nat.reduceAdd, Nat.reduceMul, Nat.reduceSub, Nat.reduceLeDiff, Int.reduceLT, Int.reduceLE, Int.reduceEq, Bool.false_eq_true, Option.bind_some, Option.map_some, List.set_cons_zero, List.set_cons_succ, List.toList_toArray, List.size_toArray, List.length_cons, List.length_nil, List.getElem?_toArray, List.getElem?_cons_zero, List.getElem?_cons_succ, List.drop_zero, List.take_succ_cons, List.take_zero]
      by_cases h6 : (l.getD 1 0).toNat < 128
      · rw [if_pos (by omega)]
        exact bad' (eb.2 (.inl ⟨h4, h6⟩))
      · rw [if_neg (by omega)]
        exact second (fun h => h6 h.2)
    · rw [if_neg (by omega)]
      exact second (fun h => h4 h.1)
  · rw [if_neg (by omega)]
    exact good (by unfold badI; omega)
end Go.Proofs.Ytknpmldldlbniaa
