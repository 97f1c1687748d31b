/- Unhex. No condition. -/
import Derived.Test.YtcdnnpbpadhgeaaDoorHex
set_option linter.unusedVariables false
set_option linter.unusedSimpArgs false
namespace Oct
theorem unhex_none {l : List UInt8} (h0 : l ≠ []) (h : digS l = none) : unhexS l = none := by
  match l, h0, h with
  | [x], _, _ => rfl
  | x :: y :: r, _, h => unfold unhexS; rw [show dig2 false x y = none from h]
theorem unhex_some {l : List UInt8} {c : UInt8} (h : digS l = some c) : 2 ≤ l.length ∧ unhexS l = (unhexS (l.drop 2)).map fun t => c :: t := by
  match l, h with
  | x :: y :: r, h => exact ⟨by simp, by conv => { lhs; unfold unhexS }; rw [show dig2 false x y = some c from h]; rfl⟩
  | [x], h => cases h
  | [], h => cases h
theorem unhex_len : ∀ (n : Nat) {l t : List UInt8}, l.length ≤ n → unhexS l = some t → 2 * t.length = l.length := by
  intro n
  induction n with
  | zero => intro l t hl h; obtain rfl := List.eq_nil_of_length_eq_zero (l := l) (by omega); cases h; rfl
  | succ n ih =>
    intro l t hl h
    by_cases h0 : l = []
    · subst h0; cases h; rfl
    · cases hd : digS l with
      | none => rw [unhex_none h0 hd] at h; cases h
      | some c =>
        obtain ⟨h2, e⟩ := unhex_some hd
        rw [e, Option.map_eq_some_iff] at h
        obtain ⟨t', h3, rfl⟩ := h
        have := ih (by rw [List.length_drop]; omega) h3
        rw [List.length_drop] at this
        simp only [List.length_cons]; omega
end Oct
namespace Go.Proofs.YtcdnnpbpadhgeaaDoor
open Go.Ev Oct
variable {n0 : Nat} {h : H}
def unhexV (l : List UInt8) : Value := match unhexS l with | some t => .tuple #[.string (bs t), .int .i64 0] | none => .tuple #[.string (bs []), .int .i64 11]
set_option maxRecDepth 20000 in
theorem Unhex_ok {l : List UInt8} (hl : l.length ≤ 2 ^ 47) : Cn Tryd.prog n0 (.func 15) [.string (bs l)] h (fun v h' => v = unhexV l ∧ Ext h h') := by
  refine F15.enter ?_
  obtain ⟨HP, hHP⟩ : ∃ HP : Value → H → Prop, (fun v h' => v = unhexV l ∧ Ext h h') = HP := ⟨_, rfl⟩
  rw [hHP, F15.e0]
  simp (disch := first | omega | assumption | exact isC_last | exact isC_app (by first | assumption | exact isC_last | exact isC_app (by first | assumption | exact isC_last)) | (simp [oneC]; done) | fail) only [F15.t0, evs0, evs1, evs2, evs3, evs4, evs5, evs6, if_true, if_false, ↓reduceIte, Nat.reduceEqDiff, Nat.reduceAdd, Nat.reduceMul, Nat.reduceSub, Nat.reduceLeDiff, Int.reduceLT, Int.reduceLE, Int.reduceEq, Bool.false_eq_true, Option.bind_some, Option.map_some, List.set_cons_zero, List.set_cons_succ, List.toList_toArray, List.size_toArray, List.length_cons, List.length_nil, List.getElem?_toArray, List.getElem?_cons_zero, List.getElem?_cons_succ, List.drop_zero, List.take_succ_cons, List.take_zero, Oct.bl]
  have B0 := Bd.new (h := h) (T := 0)
  refine Lp_ind (fun m fr hh => ∃ p a : List UInt8, fr = [(0, .string (bs p)), (4, .pointer (some ⟨h.length, 0, none⟩))] ∧ p.length + 2 * a.length = l.length ∧ unhexS l = (unhexS p).map (fun t => a ++ t) ∧ Bd (h.length + 1) hh h.length a ∧ Sv (h.length + 1) h.length (h ++ [.cells true (enc 0 35) [.pointer none, .slice none 0 0]]) hh ∧ m = p.length) (F15.m1 n0) l.length
    ⟨l, [], by simp (disch := first | omega | assumption | exact isC_last | exact isC_app (by first | assumption | exact isC_last | exact isC_app (by first | assumption | exact isC_last)) | (simp [oneC]; done) | fail) only [evs0, evs1, evs2, evs3, evs4, evs5, evs6, if_true, if_false, ↓reduceIte, Nat.reduceEqDiff, Nat.reduceAdd, Nat.reduceMul, Nat.reduceSub, Nat.reduceLeDiff, Int.reduceLT, Int.reduceLE, Int.reduceEq, Bool.false_eq_true, Option.bind_some, Option.map_some, List.set_cons_zero, List.set_cons_succ, List.toList_toArray, List.size_toArray, List.length_cons, List.length_nil, List.getElem?_toArray, List.getElem?_cons_zero, List.getElem?_cons_succ, List.drop_zero, List.take_succ_cons, List.take_zero, Oct.bl], by simp, by cases unhexS l <;> rfl, B0, Sv.refl, rfl⟩ ?_
  rintro m fr hh ⟨p, a, rfl, hp, E, B, S, rfl⟩
  rw [F15.e1]
  simp (disch := first | omega | assumption | exact isC_last | exact isC_app (by first | assumption | exact isC_last | exact isC_app (by first | assumption | exact isC_last)) | (simp [oneC]; done) | fail) only [F15.t1, nil_bs, evs0, evs1, evs2, evs3, evs4, evs5, evs6, if_true, if_false, ↓reduceIte, Nat.reduceEqDiff, Nat.reduceAdd, Nat.reduceMul, Nat.reduceSub, Nat.reduceLeDiff, Int.reduceLT, Int.reduceLE, Int.reduceEq, Bool.false_eq_true, Option.bind_some, Option.map_some, List.set_cons_zero, List.set_cons_succ, List.toList_toArray, List.size_toArray, List.length_cons, List.length_nil, List.getElem?_toArray, List.getElem?_cons_zero, List.getElem?_cons_succ, List.drop_zero, List.take_succ_cons, List.take_zero, Oct.bl]
  by_cases h0 : p = []
  · rw [if_pos h0, F15.e6]
    unfold F15.t6
    refine (String_ok B (by omega)).mono ?_
    rintro _ h1 ⟨rfl, S1⟩
    simp (disch := first | omega | assumption | exact isC_last | exact isC_app (by first | assumption | exact isC_last | exact isC_app (by first | assumption | exact isC_last)) | (simp [oneC]; done) | fail) only [evs0, evs1, evs2, evs3, evs4, evs5, evs6, if_true, if_false, ↓reduceIte, Nat.reduceEqDiff, Nat.reduceAdd, Nat.reduceMul, Nat.reduceSub, Nat.reduceLeDiff, Int.reduceLT, Int.reduceLE, Int.reduceEq, Bool.false_eq_true, Option.bind_some, Option.map_some, List.set_cons_zero, List.set_cons_succ, List.toList_toArray, List.size_toArray, List.length_cons, List.length_nil, List.getElem?_toArray, List.getElem?_cons_zero, List.getElem?_cons_succ, List.drop_zero, List.take_succ_cons, List.take_zero, Oct.bl]
    rw [← hHP]
    refine ⟨?_, (S.trans S1).to_ext⟩
    unfold unhexV
    rw [E, h0]
    simp [unhexS]
  · rw [if_neg h0, F15.e2]
    unfold F15.t2
    refine (digits_ok (by omega)).mono ?_
    rintro _ hx ⟨⟨c, rfl, hc⟩, ex⟩; subst hx
    simp (disch := first | omega | assumption | exact isC_last | exact isC_app (by first | assumption | exact isC_last | exact isC_app (by first | assumption | exact isC_last)) | (simp [oneC]; done) | fail) only [evs0, evs1, evs2, evs3, evs4, evs5, evs6, if_true, if_false, ↓reduceIte, Nat.reduceEqDiff, Nat.reduceAdd, Nat.reduceMul, Nat.reduceSub, Nat.reduceLeDiff, Int.reduceLT, Int.reduceLE, Int.reduceEq, Bool.false_eq_true, Option.bind_some, Option.map_some, List.set_cons_zero, List.set_cons_succ, List.toList_toArray, List.size_toArray, List.length_cons, List.length_nil, List.getElem?_toArray, List.getElem?_cons_zero, List.getElem?_cons_succ, List.drop_zero, List.take_succ_cons, List.take_zero, Oct.bl]
    cases hd : digS p with
    | none =>
      rw [show (!(none : Option UInt8).isSome) = true from rfl]
      simp (disch := first | omega | assumption | exact isC_last | exact isC_app (by first | assumption | exact isC_last | exact isC_app (by first | assumption | exact isC_last)) | (simp [oneC]; done) | fail) only [evs0, evs1, evs2, evs3, evs4, evs5, evs6, if_true, if_false, ↓reduceIte, Nat.reduceEqDiff, Nat.reduceAdd, Nat.reduceMul, Nat.reduceSub, Nat.reduceLeDiff, Int.reduceLT, Int.reduceLE, Int.reduceEq, Bool.false_eq_true, Option.bind_some, Option.map_some, List.set_cons_zero, List.set_cons_succ, List.toList_toArray, List.size_toArray, List.length_cons, List.length_nil, List.getElem?_toArray, List.getElem?_cons_zero, List.getElem?_cons_succ, List.drop_zero, List.take_succ_cons, List.take_zero, Oct.bl]
      rw [F15.e3]
      simp (disch := first | omega | assumption | exact isC_last | exact isC_app (by first | assumption | exact isC_last | exact isC_app (by first | assumption | exact isC_last)) | (simp [oneC]; done) | fail) only [F15.t3, nil_bs, evs0, evs1, evs2, evs3, evs4, evs5, evs6, if_true, if_false, ↓reduceIte, Nat.reduceEqDiff, Nat.reduceAdd, Nat.reduceMul, Nat.reduceSub, Nat.reduceLeDiff, Int.reduceLT, Int.reduceLE, Int.reduceEq, Bool.false_eq_true, Option.bind_some, Option.map_some, List.set_cons_zero, List.set_cons_succ, List.toList_toArray, List.size_toArray, List.length_cons, List.length_nil, List.getElem?_toArray, List.getElem?_cons_zero, List.getElem?_cons_succ, List.drop_zero, List.take_succ_cons, List.take_zero, Oct.bl]
      rw [← hHP]
      refine ⟨?_, S.to_ext⟩
      unfold unhexV
      rw [E, unhex_none h0 hd]
      rfl
    | some k =>
      rw [show (!(some k : Option UInt8).isSome) = false from rfl]
      simp (disch := first | omega | assumption | exact isC_last | exact isC_app (by first | assumption | exact isC_last | exact isC_app (by first | assumption | exact isC_last)) | (simp [oneC]; done) | fail) only [evs0, evs1, evs2, evs3, evs4, evs5, evs6, if_true, if_false, ↓reduceIte, Nat.reduceEqDiff, Nat.reduceAdd, Nat.reduceMul, Nat.reduceSub, Nat.reduceLeDiff, Int.reduceLT, Int.reduceLE, Int.reduceEq, Bool.false_eq_true, Option.bind_some, Option.map_some, List.set_cons_zero, List.set_cons_succ, List.toList_toArray, List.size_toArray, List.length_cons, List.length_nil, List.getElem?_toArray, List.getElem?_cons_zero, List.getElem?_cons_succ, List.drop_zero, List.take_succ_cons, List.take_zero, Oct.bl]
      rw [F15.e4]
      unfold F15.t4
      obtain rfl := hc k hd
      refine (WriteByte_ok B (by omega)).mono ?_
      rintro _ h1 ⟨rfl, B1, S1⟩
      simp (disch := first | omega | assumption | exact isC_last | exact isC_app (by first | assumption | exact isC_last | exact isC_app (by first | assumption | exact isC_last)) | (simp [oneC]; done) | fail) only [evs0, evs1, evs2, evs3, evs4, evs5, evs6, if_true, if_false, ↓reduceIte, Nat.reduceEqDiff, Nat.reduceAdd, Nat.reduceMul, Nat.reduceSub, Nat.reduceLeDiff, Int.reduceLT, Int.reduceLE, Int.reduceEq, Bool.false_eq_true, Option.bind_some, Option.map_some, List.set_cons_zero, List.set_cons_succ, List.toList_toArray, List.size_toArray, List.length_cons, List.length_nil, List.getElem?_toArray, List.getElem?_cons_zero, List.getElem?_cons_succ, List.drop_zero, List.take_succ_cons, List.take_zero, Oct.bl]
      rw [F15.e5]
      obtain ⟨h2, e2⟩ := unhex_some hd
      simp (disch := first | omega | assumption | exact isC_last | exact isC_app (by first | assumption | exact isC_last | exact isC_app (by first | assumption | exact isC_last)) | (simp [oneC]; done) | fail) only [F15.t5, sl_from un_9 (show (0 : Int) ≤ 2 by omega) (show (2 : Int) ≤ p.length by omega), evs0, evs1, evs2, evs3, evs4, evs5, evs6, if_true, if_false, ↓reduceIte, Nat.reduceEqDiff, Nat.reduceAdd, Nat.reduceMul, Nat.reduceSub, Nat.reduceLeDiff, Int.reduceLT, Int.reduceLE, Int.reduceEq, Bool.false_eq_true, Option.bind_some, Option.map_some, List.set_cons_zero, List.set_cons_succ, List.toList_toArray, List.size_toArray, List.length_cons, List.length_nil, List.getElem?_toArray, List.getElem?_cons_zero, List.getElem?_cons_succ, List.drop_zero, List.take_succ_cons, List.take_zero, Oct.bl]
      refine ⟨by trivial, (p.drop 2).length, by rw [List.length_drop]; omega, p.drop 2, a ++ [k], rfl, by simp; omega, ?_, B1, S.trans S1, rfl⟩
      rw [E, e2]
      cases unhexS (p.drop 2) <;> simp
end Go.Proofs.YtcdnnpbpadhgeaaDoor
