/- Bodies of items: as a number, as a flag, as a text, by the program and by the reference. No condition. -/
import Derived.Test.YtknpmldldlbniaaLaw1
set_option linter.unusedVariables false
set_option linter.unusedSimpArgs false
namespace Ber
open Go Go.Ev
def bodyE (n : Nat) (t : Tlv) : Int := if t.frm < 0 ∨ t.to < t.frm ∨ n < t.to then 2 else if t.cons = true then 20 else 0
def bodyB (bs : List UInt8) (t : Tlv) : List UInt8 := if bodyE bs.length t = 0 then (bs.drop t.frm.toNat).take (t.to.toNat - t.frm.toNat) else []
end Ber
namespace Go.Proofs.Ytknpmldldlbniaa
open Go.Ev Ber
def BodyPost (bs : List UInt8) (t : Tlv) (h : H) : Value → H → Prop := fun v h' => ∃ u x, h' = h ++ u ∧ v = .tuple #[x, .int .i64 (bodyE bs.length t)] ∧ Sl h' 1 x ((bodyB bs t).map bv)
set_option maxRecDepth 20000 in
theorem Body_ok {n0 : Nat} {h : H} {b : Value} {bs : List UInt8} {t : Tlv} (S : Sl h 1 b (bs.map bv)) : Cn Try.prog n0 (.func 45) [b, t.v] h (BodyPost bs t h) := by
  refine F45.enter ?_
  have err : ∀ (e : Int) (u : H), e ≠ 0 → bodyE bs.length t = e → BodyPost bs t h (.tuple #[.slice none 0 0, .int .i64 e]) (h ++ u) := fun e u he hE => ⟨u, _, rfl, by rw [hE], by unfold bodyB; rw [hE, if_neg he]; exact Sl.nil⟩
  have fin : ∀ (x : Value) (u : H), bodyE bs.length t = 0 → Sl (h ++ u) 1 x (((bs.drop t.frm.toNat).take (t.to.toNat - t.frm.toNat)).map bv) → BodyPost bs t h (.tuple #[x, .int .i64 0]) (h ++ u) := fun x u hE hS => ⟨u, _, rfl, by rw [hE], by unfold bodyB; rw [hE, if_pos rfl]; exact hS⟩
  generalize BodyPost bs t h = HP at err fin
  obtain ⟨ad, c, rfl, hc⟩ := S.lenB
  rw [F45.e0]
  simp (disch := first | omega | assumption | exact isC_last | exact isC_app (by first | assumption | exact isC_last | exact isC_app (by first | assumption | exact isC_last)) | (simp [oneC]; done) | fail) only [F45.t0, clL, Tlv.v, evs0, evs1, evs2, evs3, evs4, evs5, evs6, evs7, evs8, evs9, evs10, evs11, evs12, evs13, if_true, if_false, ↓reduceIte, Nat.reduceEqDiff, Nat.reduceAdd, Nat.reduceMul, Nat.reduceSub, Nat.reduceLeDiff, Int.reduceLT, Int.reduceLE, Int.reduceEq, Bool.false_eq_true, Option.bind_some, Option.map_some, List.set_cons_zero, List.set_cons_succ, List.toList_toArray, List.size_toArray, List.length_cons, List.length_nil, List.getElem?_toArray, List.getElem?_cons_zero, List.getElem?_cons_succ, List.drop_zero, List.take_succ_cons, List.take_zero]
  have out : ∀ (a b : Value), t.frm < 0 ∨ t.to < t.frm ∨ (bs.length : Int) < t.to → F45.p1 n0 [(0, a), (3, b)] [] (h ++ [.cells true (enc 0 26) [.int .i8 t.cls, .bool t.cons, .int .i64 t.num, .int .i64 t.frm, .int .i64 t.to]]) (KBlk [0, 3] 0 (KSeq [0, 3] (F45.p4 n0) (KFin Try.prog [.tmp 4, .tmp 5] HP))) := by
    intro a b ho
    rw [F45.e1]
    simp (disch := first | omega | assumption | exact isC_last | exact isC_app (by first | assumption | exact isC_last | exact isC_app (by first | assumption | exact isC_last)) | (simp [oneC]; done) | fail) only [F45.t1, evs0, evs1, evs2, evs3, evs4, evs5, evs6, evs7, evs8, evs9, evs10, evs11, evs12, evs13, if_true, if_false, ↓reduceIte, Nat.reduceEqDiff, Nat.reduceAdd, Nat.reduceMul, Nat.reduceSub, Nat.reduceLeDiff, Int.reduceLT, Int.reduceLE, Int.reduceEq, Bool.false_eq_true, Option.bind_some, Option.map_some, List.set_cons_zero, List.set_cons_succ, List.toList_toArray, List.size_toArray, List.length_cons, List.length_nil, List.getElem?_toArray, List.getElem?_cons_zero, List.getElem?_cons_succ, List.drop_zero, List.take_succ_cons, List.take_zero]
    exact err 2 _ (by decide) (by unfold bodyE; rw [if_pos ho])
  split
  · exact out _ _ (by omega)
  · split
    · exact out _ _ (by omega)
    · split
      · exact out _ _ (by omega)
      · rename_i h1 h2 h3
        have hno : ¬ (t.frm < 0 ∨ t.to < t.frm ∨ (bs.length : Int) < t.to) := by omega
        rw [F45.e2]
        simp (disch := first | omega | assumption | exact isC_last | exact isC_app (by first | assumption | exact isC_last | exact isC_app (by first | assumption | exact isC_last)) | (simp [oneC]; done) | fail) only [F45.t2, Cnd_bool, evs0, evs1, evs2, evs3, evs4, evs5, evs6, evs7, evs8, evs9, evs10, evs11, evs12, evs13, if_true, if_false, ↓reduceIte, Nat.reduceEqDiff, Nat.reduceAdd, Nat.reduceMul, Nat.reduceSub, Nat.reduceLeDiff, Int.reduceLT, Int.reduceLE, Int.reduceEq, Bool.false_eq_true, Option.bind_some, Option.map_some, List.set_cons_zero, List.set_cons_succ, List.toList_toArray, List.size_toArray, List.length_cons, List.length_nil, List.getElem?_toArray, List.getElem?_cons_zero, List.getElem?_cons_succ, List.drop_zero, List.take_succ_cons, List.take_zero]
        split
        · rename_i hcons
          rw [F45.e3]
          simp (disch := first | omega | assumption | exact isC_last | exact isC_app (by first | assumption | exact isC_last | exact isC_app (by first | assumption | exact isC_last)) | (simp [oneC]; done) | fail) only [F45.t3, evs0, evs1, evs2, evs3, evs4, evs5, evs6, evs7, evs8, evs9, evs10, evs11, evs12, evs13, if_true, if_false, ↓reduceIte, Nat.reduceEqDiff, Nat.reduceAdd, Nat.reduceMul, Nat.reduceSub, Nat.reduceLeDiff, Int.reduceLT, Int.reduceLE, Int.reduceEq, Bool.false_eq_true, Option.bind_some, Option.map_some, List.set_cons_zero, List.set_cons_succ, List.toList_toArray, List.size_toArray, List.length_cons, List.length_nil, List.getElem?_toArray, List.getElem?_cons_zero, List.getElem?_cons_succ, List.drop_zero, List.take_succ_cons, List.take_zero]
          exact err 20 _ (by decide) (by unfold bodyE; rw [if_neg hno, if_pos hcons])
        · rename_i hcons
          rw [F45.e4]
          simp (disch := first | omega | assumption | exact isC_last | exact isC_app (by first | assumption | exact isC_last | exact isC_app (by first | assumption | exact isC_last)) | (simp [oneC]; done) | fail) only [F45.t4, evs0, evs1, evs2, evs3, evs4, evs5, evs6, evs7, evs8, evs9, evs10, evs11, evs12, evs13, if_true, if_false, ↓reduceIte, Nat.reduceEqDiff, Nat.reduceAdd, Nat.reduceMul, Nat.reduceSub, Nat.reduceLeDiff, Int.reduceLT, Int.reduceLE, Int.reduceEq, Bool.false_eq_true, Option.bind_some, Option.map_some, List.set_cons_zero, List.set_cons_succ, List.toList_toArray, List.size_toArray, List.length_cons, List.length_nil, List.getElem?_toArray, List.getElem?_cons_zero, List.getElem?_cons_succ, List.drop_zero, List.take_succ_cons, List.take_zero]
          refine Bnd_sub1 (lo := some t.frm) (hi := some t.to) (kk := .i64) (kk' := .i64) (S.app _) un_22 sz_5 (by simp only [Option.getD_some]; omega) (by simp only [Option.getD_some]; omega) (by simp only [Option.getD_some, List.length_map]; omega) fun w Sw => ?_
          simp only [Option.getD_some] at Sw
          rw [← List.map_drop, ← List.map_take] at Sw
          exact fin _ _ (by unfold bodyE; rw [if_neg hno, if_neg hcons]) Sw
set_option maxRecDepth 20000 in
theorem RBody_ok {n0 : Nat} {h : H} {b : Value} {bs : List UInt8} {t : Tlv} (S : Sl h 1 b (bs.map bv)) : Cn Try.prog n0 (.func 52) [b, t.v] h (BodyPost bs t h) := by
  refine F52.enter ?_
  have err : ∀ (e : Int) (u : H), e ≠ 0 → bodyE bs.length t = e → BodyPost bs t h (.tuple #[.slice none 0 0, .int .i64 e]) (h ++ u) := fun e u he hE => ⟨u, _, rfl, by rw [hE], by unfold bodyB; rw [hE, if_neg he]; exact Sl.nil⟩
  have fin : ∀ (x : Value) (u : H), bodyE bs.length t = 0 → Sl (h ++ u) 1 x (((bs.drop t.frm.toNat).take (t.to.toNat - t.frm.toNat)).map bv) → BodyPost bs t h (.tuple #[x, .int .i64 0]) (h ++ u) := fun x u hE hS => ⟨u, _, rfl, by rw [hE], by unfold bodyB; rw [hE, if_pos rfl]; exact hS⟩
  generalize BodyPost bs t h = HP at err fin
  obtain ⟨ad, c, rfl, hc⟩ := S.lenB
  rw [F52.e0]
  simp (disch := first | omega | assumption | exact isC_last | exact isC_app (by first | assumption | exact isC_last | exact isC_app (by first | assumption | exact isC_last)) | (simp [oneC]; done) | fail) only [F52.t0, clL, Tlv.v, evs0, evs1, evs2, evs3, evs4, evs5, evs6, evs7, evs8, evs9, evs10, evs11, evs12, evs13, if_true, if_false, ↓reduceIte, Nat.reduceEqDiff, Nat.reduceAdd, Nat.reduceMul, Nat.reduceSub, Nat.reduceLeDiff, Int.reduceLT, Int.reduceLE, Int.reduceEq, Bool.false_eq_true, Option.bind_some, Option.map_some, List.set_cons_zero, List.set_cons_succ, List.toList_toArray, List.size_toArray, List.length_cons, List.length_nil, List.getElem?_toArray, List.getElem?_cons_zero, List.getElem?_cons_succ, List.drop_zero, List.take_succ_cons, List.take_zero]
  have out : ∀ (a b : Value), t.frm < 0 ∨ t.to < t.frm ∨ (bs.length : Int) < t.to → F52.p1 n0 [(0, a), (3, b)] [] (h ++ [.cells true (enc 0 26) [.int .i8 t.cls, .bool t.cons, .int .i64 t.num, .int .i64 t.frm, .int .i64 t.to]]) (KSeq [0, 3] (F52.p2 n0) (KFin Try.prog [.tmp 4, .tmp 5] HP)) := by
    intro a b ho
    rw [F52.e1]
    simp (disch := first | omega | assumption | exact isC_last | exact isC_app (by first | assumption | exact isC_last | exact isC_app (by first | assumption | exact isC_last)) | (simp [oneC]; done) | fail) only [F52.t1, evs0, evs1, evs2, evs3, evs4, evs5, evs6, evs7, evs8, evs9, evs10, evs11, evs12, evs13, if_true, if_false, ↓reduceIte, Nat.reduceEqDiff, Nat.reduceAdd, Nat.reduceMul, Nat.reduceSub, Nat.reduceLeDiff, Int.reduceLT, Int.reduceLE, Int.reduceEq, Bool.false_eq_true, Option.bind_some, Option.map_some, List.set_cons_zero, List.set_cons_succ, List.toList_toArray, List.size_toArray, List.length_cons, List.length_nil, List.getElem?_toArray, List.getElem?_cons_zero, List.getElem?_cons_succ, List.drop_zero, List.take_succ_cons, List.take_zero]
    exact err 2 _ (by decide) (by unfold bodyE; rw [if_pos ho])
  split
  · exact out _ _ (by omega)
  · split
    · exact out _ _ (by omega)
    · split
      · exact out _ _ (by omega)
      · rename_i h1 h2 h3
        have hno : ¬ (t.frm < 0 ∨ t.to < t.frm ∨ (bs.length : Int) < t.to) := by omega
        rw [F52.e2]
        simp (disch := first | omega | assumption | exact isC_last | exact isC_app (by first | assumption | exact isC_last | exact isC_app (by first | assumption | exact isC_last)) | (simp [oneC]; done) | fail) only [F52.t2, Cnd_bool, evs0, evs1, evs2, evs3, evs4, evs5, evs6, evs7, evs8, evs9, evs10, evs11, evs12, evs13, if_true, if_false, ↓reduceIte, Nat.reduceEqDiff, Nat.reduceAdd, Nat.reduceMul, Nat.reduceSub, Nat.reduceLeDiff, Int.reduceLT, Int.reduceLE, Int.reduceEq, Bool.false_eq_true, Option.bind_some, Option.map_some, List.set_cons_zero, List.set_cons_succ, List.toList_toArray, List.size_toArray, List.length_cons, List.length_nil, List.getElem?_toArray, List.getElem?_cons_zero, List.getElem?_cons_succ, List.drop_zero, List.take_succ_cons, List.take_zero]
        split
        · rename_i hcons
          rw [F52.e3]
          simp (disch := first | omega | assumption | exact isC_last | exact isC_app (by first | assumption | exact isC_last | exact isC_app (by first | assumption | exact isC_last)) | (simp [oneC]; done) | fail) only [F52.t3, evs0, evs1, evs2, evs3, evs4, evs5, evs6, evs7, evs8, evs9, evs10, evs11, evs12, evs13, if_true, if_false, ↓reduceIte, Nat.reduceEqDiff, Nat.reduceAdd, Nat.reduceMul, Nat.reduceSub, Nat.reduceLeDiff, Int.reduceLT, Int.reduceLE, Int.reduceEq, Bool.false_eq_true, Option.bind_some, Option.map_some, List.set_cons_zero, List.set_cons_succ, List.toList_toArray, List.size_toArray, List.length_cons, List.length_nil, List.getElem?_toArray, List.getElem?_cons_zero, List.getElem?_cons_succ, List.drop_zero, List.take_succ_cons, List.take_zero]
          exact err 20 _ (by decide) (by unfold bodyE; rw [if_neg hno, if_pos hcons])
        · rename_i hcons
          rw [F52.e4]
          simp (disch := first | omega | assumption | exact isC_last | exact isC_app (by first | assumption | exact isC_last | exact isC_app (by first | assumption | exact isC_last)) | (simp [oneC]; done) | fail) only [F52.t4, evs0, evs1, evs2, evs3, evs4, evs5, evs6, evs7, evs8, evs9, evs10, evs11, evs12, evs13, if_true, if_false, ↓reduceIte, Nat.reduceEqDiff, Nat.reduceAdd, Nat.reduceMul, Nat.reduceSub, Nat.reduceLeDiff, Int.reduceLT, Int.reduceLE, Int.reduceEq, Bool.false_eq_true, Option.bind_some, Option.map_some, List.set_cons_zero, List.set_cons_succ, List.toList_toArray, List.size_toArray, List.length_cons, List.length_nil, List.getElem?_toArray, List.getElem?_cons_zero, List.getElem?_cons_succ, List.drop_zero, List.take_succ_cons, List.take_zero]
          refine Bnd_sub1 (lo := some t.frm) (hi := some t.to) (kk := .i64) (kk' := .i64) (S.app _) un_22 sz_5 (by simp only [Option.getD_some]; omega) (by simp only [Option.getD_some]; omega) (by simp only [Option.getD_some, List.length_map]; omega) fun w Sw => ?_
          simp only [Option.getD_some] at Sw
          rw [← List.map_drop, ← List.map_take] at Sw
          exact fin _ _ (by unfold bodyE; rw [if_neg hno, if_neg hcons]) Sw
theorem shl8i {n : Int} (h1 : -36028797018963968 ≤ n) (h2 : n < 36028797018963968) : iShl .i64 n 8 = 256 * n := by
  unfold iShl
  have : min (8 : Int).toNat IntKind.i64.bits = 8 := by decide
  rw [this, IntWalk.i64_in _ (by omega)]; omega
theorem or8i {n : Int} {b : Nat} (h1 : -36028797018963968 ≤ n) (h2 : n < 36028797018963968) (hb : b < 256) : iOr .i64 (256 * n) b = 256 * n + b := by
  unfold iOr
  rw [BitVec.toNat_or, ofInt_nat, BitVec.toNat_ofNat, BitVec.toNat_ofInt]
  simp only [IntKind.bits]
  obtain ⟨q, hq⟩ : ∃ q : Nat, ((256 * n) % ((2 ^ 64 : Nat) : Int)).toNat = 2 ^ 8 * q := ⟨((256 * n) % ((2 ^ 64 : Nat) : Int)).toNat / 256, by omega⟩
  rw [hq, Nat.mod_eq_of_lt (show b < 2 ^ 64 from by omega), or_shl (i := 8) hb, IntKind.wrap_i64]
  omega
end Go.Proofs.Ytknpmldldlbniaa
namespace Ber
open Go Go.Ev
def sx (x : Nat) : Int := if x < 128 then x else x - 256
def valS (l : List UInt8) : Int := l.tail.foldl (fun a b => 256 * a + b.toNat) (sx (l.getD 0 0).toNat)
def badI (l : List UInt8) : Prop := l.length < 1 ∨ 8 < l.length ∨ (1 < l.length ∧ (((l.getD 0 0).toNat = 0 ∧ (l.getD 1 0).toNat < 128) ∨ ((l.getD 0 0).toNat = 255 ∧ 128 ≤ (l.getD 1 0).toNat)))
instance {l : List UInt8} : Decidable (badI l) := by unfold badI; infer_instance
def intS (bs : List UInt8) (t : Tlv) : Int × Int := if bodyE bs.length t ≠ 0 then (0, bodyE bs.length t) else if badI (bodyB bs t) then (0, 23) else (valS (bodyB bs t), 0)
theorem valS_take {l : List UInt8} {j : Nat} (hj : j + 1 < l.length) : valS (l.take (j + 2)) = 256 * valS (l.take (j + 1)) + (l.getD (j + 1) 0).toNat := by
  unfold valS
  have e0 : ∀ m, (l.take (m + 1)).getD 0 0 = l.getD 0 0 := by
    intro m; cases l <;> simp
  rw [e0, e0]
  cases l with
  | nil => simp at hj
  | cons x r =>
    simp only [List.take_succ_cons, List.tail_cons]
    rw [List.take_add_one, List.getElem?_eq_getElem (by simpa using hj), Option.toList_some, List.foldl_append]
    simp [List.getD_eq_getElem?_getD, List.getElem?_eq_getElem (show j < r.length by simpa using hj)]
theorem valS_one {l : List UInt8} : valS (l.take 1) = sx (l.getD 0 0).toNat := by cases l <;> simp [valS]
end Ber
