/- OctetOnly. No condition but the size that every statement has. -/
import Derived.Test.YtcdnnpbpadhgeaaDoorBase
import Derived.Test.YtcdnnpbpadhgeaaDoorValidLaw
set_option linter.unusedVariables false
set_option linter.unusedSimpArgs false
namespace Oct
open Go Go.Ev
theorem dig_hexd {c : UInt8} {a : Nat} (h : dig false c = some a) : hexd a = c := by
  have := byte_all (p := fun n => match dig false (UInt8.ofNat n) with | some a => decide (hexd a = UInt8.ofNat n) | none => true) (by decide +kernel) c.toNat (u8_lt c)
  rw [show UInt8.ofNat c.toNat = c by simp, h] at this
  exact of_decide_eq_true this
theorem two_of_dig2 {x y c : UInt8} (h : dig2 false x y = some c) : two c = [x, y] := by
  unfold dig2 at h
  cases hx : dig false x with
  | none => rw [hx] at h; cases h
  | some a =>
    cases hy : dig false y with
    | none => rw [hx, hy] at h; cases h
    | some b =>
      rw [hx, hy] at h
      cases h
      have ha := dig_lt hx
      have hb := dig_lt hy
      unfold two
      have e : (UInt8.ofNat (16 * a + b)).toNat = 16 * a + b := by rw [UInt8.toNat_ofNat']; omega
      rw [e, show (16 * a + b) / 16 = a by omega, show (16 * a + b) % 16 = b by omega, dig_hexd hx, dig_hexd hy]
theorem hex_unhex : ∀ (n : Nat) {l t : List UInt8}, l.length ≤ n → unhexS l = some t → hexS t = l := by
  intro n
  induction n with
  | zero => intro l t hl h; obtain rfl := List.eq_nil_of_length_eq_zero (l := l) (by omega); cases h; rfl
  | succ n ih =>
    intro l t hl h
    match l, h with
    | [], h => cases h; rfl
    | [x], h => cases h
    | x :: y :: r, h =>
      unfold unhexS at h
      cases hd : dig2 false x y with
      | none => rw [hd] at h; cases h
      | some c =>
        rw [hd] at h
        simp only [Option.map_eq_some_iff] at h
        obtain ⟨t', h3, rfl⟩ := h
        have := ih (by simp at hl; omega) h3
        unfold hexS at this ⊢
        rw [List.flatMap_cons, this, two_of_dig2 hd]; rfl
end Oct
namespace Go.Proofs.YtcdnnpbpadhgeaaDoor
open Go.Ev Oct
variable {n0 : Nat} {h : H}
set_option maxRecDepth 20000 in
theorem OctetOnly_ok {l : List UInt8} (hl : l.length + 100 ≤ 2 ^ 47) : Cn Tryd.prog n0 (.func 9) [.string (bs l)] h (fun v _ => v = .bool true) := by
  refine F9.enter ?_
  rw [F9.e0]
  unfold F9.t0
  have fin : ∀ {h : H}, F9.p4 n0 [] [] h (KFin Tryd.prog [.tmp 2] (fun v _ => v = .bool true)) := by
    intro h
    rw [F9.e4]
    unfold F9.t4
    refine Wakes_ok.mono ?_
    rintro _ h2 ⟨rfl, rfl⟩
    simp (disch := first | omega | assumption | exact isC_last | exact isC_app (by first | assumption | exact isC_last | exact isC_app (by first | assumption | exact isC_last)) | (simp [oneC]; done) | fail) only [evs0, evs1, evs2, evs3, evs4, evs5, evs6, if_true, if_false, ↓reduceIte, Nat.reduceEqDiff, Nat.reduceAdd, Nat.reduceMul, Nat.reduceSub, Nat.reduceLeDiff, Int.reduceLT, Int.reduceLE, Int.reduceEq, Bool.false_eq_true, Option.bind_some, Option.map_some, List.set_cons_zero, List.set_cons_succ, List.toList_toArray, List.size_toArray, List.length_cons, List.length_nil, List.getElem?_toArray, List.getElem?_cons_zero, List.getElem?_cons_succ, List.drop_zero, List.take_succ_cons, List.take_zero, Oct.bl]
  have mid : ∀ {h : H}, F9.p2 n0 [(0, .string (bs l)), (5, .string (bs (unb64S l).1)), (6, .int .i64 (unb64S l).2)] [] h (KFin Tryd.prog [.tmp 2] (fun v _ => v = .bool true)) := by
    intro h
    rw [F9.e2]
    have hL := unS_len l 0 0 (by omega)
    by_cases hb : b64S (unS 0 0 l) = l
    · have e : unb64S l = (unS 0 0 l, 0) := by unfold unb64S; rw [if_pos hb]
      rw [e]
      simp (disch := first | omega | assumption | exact isC_last | exact isC_app (by first | assumption | exact isC_last | exact isC_app (by first | assumption | exact isC_last)) | (simp [oneC]; done) | fail) only [F9.t2, evs0, evs1, evs2, evs3, evs4, evs5, evs6, if_true, if_false, ↓reduceIte, Nat.reduceEqDiff, Nat.reduceAdd, Nat.reduceMul, Nat.reduceSub, Nat.reduceLeDiff, Int.reduceLT, Int.reduceLE, Int.reduceEq, Bool.false_eq_true, Option.bind_some, Option.map_some, List.set_cons_zero, List.set_cons_succ, List.toList_toArray, List.size_toArray, List.length_cons, List.length_nil, List.getElem?_toArray, List.getElem?_cons_zero, List.getElem?_cons_succ, List.drop_zero, List.take_succ_cons, List.take_zero, Oct.bl]
      refine (Base64_ok (l := unS 0 0 l) (by omega)).mono ?_
      rintro _ h1 ⟨rfl, _⟩
      rw [hb]
      simp (disch := first | omega | assumption | exact isC_last | exact isC_app (by first | assumption | exact isC_last | exact isC_app (by first | assumption | exact isC_last)) | (simp [oneC]; done) | fail) only [evs0, evs1, evs2, evs3, evs4, evs5, evs6, if_true, if_false, ↓reduceIte, Nat.reduceEqDiff, Nat.reduceAdd, Nat.reduceMul, Nat.reduceSub, Nat.reduceLeDiff, Int.reduceLT, Int.reduceLE, Int.reduceEq, Bool.false_eq_true, Option.bind_some, Option.map_some, List.set_cons_zero, List.set_cons_succ, List.toList_toArray, List.size_toArray, List.length_cons, List.length_nil, List.getElem?_toArray, List.getElem?_cons_zero, List.getElem?_cons_succ, List.drop_zero, List.take_succ_cons, List.take_zero, Oct.bl]
      exact fin
    · have e : unb64S l = ([], 13) := by unfold unb64S; rw [if_neg hb]
      rw [e]
      simp (disch := first | omega | assumption | exact isC_last | exact isC_app (by first | assumption | exact isC_last | exact isC_app (by first | assumption | exact isC_last)) | (simp [oneC]; done) | fail) only [F9.t2, nil_bs, evs0, evs1, evs2, evs3, evs4, evs5, evs6, if_true, if_false, ↓reduceIte, Nat.reduceEqDiff, Nat.reduceAdd, Nat.reduceMul, Nat.reduceSub, Nat.reduceLeDiff, Int.reduceLT, Int.reduceLE, Int.reduceEq, Bool.false_eq_true, Option.bind_some, Option.map_some, List.set_cons_zero, List.set_cons_succ, List.toList_toArray, List.size_toArray, List.length_cons, List.length_nil, List.getElem?_toArray, List.getElem?_cons_zero, List.getElem?_cons_succ, List.drop_zero, List.take_succ_cons, List.take_zero, Oct.bl]
      exact fin
  refine (Unhex_ok (l := l) (by omega)).mono ?_
  rintro _ h1 ⟨rfl, _⟩
  unfold unhexV
  cases hu : unhexS l with
  | some t =>
    have ht := unhex_len l.length (Nat.le_refl _) hu
    have hx := hex_unhex l.length (Nat.le_refl _) hu
    simp (disch := first | omega | assumption | exact isC_last | exact isC_app (by first | assumption | exact isC_last | exact isC_app (by first | assumption | exact isC_last)) | (simp [oneC]; done) | fail) only [evs0, evs1, evs2, evs3, evs4, evs5, evs6, if_true, if_false, ↓reduceIte, Nat.reduceEqDiff, Nat.reduceAdd, Nat.reduceMul, Nat.reduceSub, Nat.reduceLeDiff, Int.reduceLT, Int.reduceLE, Int.reduceEq, Bool.false_eq_true, Option.bind_some, Option.map_some, List.set_cons_zero, List.set_cons_succ, List.toList_toArray, List.size_toArray, List.length_cons, List.length_nil, List.getElem?_toArray, List.getElem?_cons_zero, List.getElem?_cons_succ, List.drop_zero, List.take_succ_cons, List.take_zero, Oct.bl]
    refine (Unbase64_ok hl).mono ?_
    rintro _ h2 ⟨rfl, _⟩
    unfold unbV
    simp (disch := first | omega | assumption | exact isC_last | exact isC_app (by first | assumption | exact isC_last | exact isC_app (by first | assumption | exact isC_last)) | (simp [oneC]; done) | fail) only [evs0, evs1, evs2, evs3, evs4, evs5, evs6, if_true, if_false, ↓reduceIte, Nat.reduceEqDiff, Nat.reduceAdd, Nat.reduceMul, Nat.reduceSub, Nat.reduceLeDiff, Int.reduceLT, Int.reduceLE, Int.reduceEq, Bool.false_eq_true, Option.bind_some, Option.map_some, List.set_cons_zero, List.set_cons_succ, List.toList_toArray, List.size_toArray, List.length_cons, List.length_nil, List.getElem?_toArray, List.getElem?_cons_zero, List.getElem?_cons_succ, List.drop_zero, List.take_succ_cons, List.take_zero, Oct.bl]
    refine (Hex_ok (l := t) (by omega)).mono ?_
    rintro _ h3 ⟨rfl, _⟩
    rw [hx]
    simp (disch := first | omega | assumption | exact isC_last | exact isC_app (by first | assumption | exact isC_last | exact isC_app (by first | assumption | exact isC_last)) | (simp [oneC]; done) | fail) only [evs0, evs1, evs2, evs3, evs4, evs5, evs6, if_true, if_false, ↓reduceIte, Nat.reduceEqDiff, Nat.reduceAdd, Nat.reduceMul, Nat.reduceSub, Nat.reduceLeDiff, Int.reduceLT, Int.reduceLE, Int.reduceEq, Bool.false_eq_true, Option.bind_some, Option.map_some, List.set_cons_zero, List.set_cons_succ, List.toList_toArray, List.size_toArray, List.length_cons, List.length_nil, List.getElem?_toArray, List.getElem?_cons_zero, List.getElem?_cons_succ, List.drop_zero, List.take_succ_cons, List.take_zero, Oct.bl]
    exact mid
  | none =>
    simp (disch := first | omega | assumption | exact isC_last | exact isC_app (by first | assumption | exact isC_last | exact isC_app (by first | assumption | exact isC_last)) | (simp [oneC]; done) | fail) only [evs0, evs1, evs2, evs3, evs4, evs5, evs6, if_true, if_false, ↓reduceIte, Nat.reduceEqDiff, Nat.reduceAdd, Nat.reduceMul, Nat.reduceSub, Nat.reduceLeDiff, Int.reduceLT, Int.reduceLE, Int.reduceEq, Bool.false_eq_true, Option.bind_some, Option.map_some, List.set_cons_zero, List.set_cons_succ, List.toList_toArray, List.size_toArray, List.length_cons, List.length_nil, List.getElem?_toArray, List.getElem?_cons_zero, List.getElem?_cons_succ, List.drop_zero, List.take_succ_cons, List.take_zero, Oct.bl]
    refine (Unbase64_ok hl).mono ?_
    rintro _ h2 ⟨rfl, _⟩
    unfold unbV
    simp (disch := first | omega | assumption | exact isC_last | exact isC_app (by first | assumption | exact isC_last | exact isC_app (by first | assumption | exact isC_last)) | (simp [oneC]; done) | fail) only [nil_bs, evs0, evs1, evs2, evs3, evs4, evs5, evs6, if_true, if_false, ↓reduceIte, Nat.reduceEqDiff, Nat.reduceAdd, Nat.reduceMul, Nat.reduceSub, Nat.reduceLeDiff, Int.reduceLT, Int.reduceLE, Int.reduceEq, Bool.false_eq_true, Option.bind_some, Option.map_some, List.set_cons_zero, List.set_cons_succ, List.toList_toArray, List.size_toArray, List.length_cons, List.length_nil, List.getElem?_toArray, List.getElem?_cons_zero, List.getElem?_cons_succ, List.drop_zero, List.take_succ_cons, List.take_zero, Oct.bl]
    exact mid
theorem OctetOnly_law {H' : Type} {n0 : Nat} {h : H} {vs : List Value} {ds : List (DataW H')} (R : RdAll Tryd.prog h [9] vs ds) (hz : (DataW.weightsEach Tryd.prog [9] ds).all (· ≤ reachBytes) = true) : Cn Tryd.prog n0 (.func 9) vs h (fun v _ => v = .bool true) := by
  obtain ⟨v, vs, d, ds, rfl, rfl, r, R⟩ := R.cons
  obtain ⟨rfl, rfl⟩ := R.none
  obtain ⟨l, rfl, rfl⟩ := reads_str r
  have := sized_string hz (j := 0) rfl rfl
  unfold reachBytes at this
  exact OctetOnly_ok (by omega)
end Go.Proofs.YtcdnnpbpadhgeaaDoor
