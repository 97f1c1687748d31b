/- The laws' roomy lists, and whether they were kept. No condition. -/
import Derived.Test.YtjdcdabbbmhffaaRFnds
set_option linter.unusedVariables false
set_option linter.unusedSimpArgs false
namespace Go.Proofs.Ytjdcdabbbmhffaa
open Go.Ev Idl
variable {n0 : Nat} {h : H}
/-- a list with nine marks behind it, in a block of its own -/
def Rm (h : H) (b : Nat) (l : List Int) : Prop := h[b]? = some (.cells true (enc 1 23) ((l ++ List.replicate 9 42405).map u))
def rv (b : Nat) (l : List Int) : Value := .slice (some ⟨b, 0, none⟩) l.length (l.length + 9)
theorem Rm.sl {b : Nat} {l : List Int} (R : Rm h b l) : Sl h 1 (rv b l) (l.map u) := by
  refine Sl.mk (o := 0) R (eS_enc' (by omega)) ?_ (by simp) (by omega)
  rw [List.drop_zero, Nat.mul_one, ← List.map_take, List.take_left]
theorem Rm.ext {b : Nat} {l : List Int} {h1 : H} (R : Rm h b l) (x : Ext h h1) : Rm h1 b l := x _ _ R
theorem copyW {b N : Nat} {D : Array Int} {x : Value} {l : List Int} (hb : b < h.length) (hD : D.size = N) (hl : l.length ≤ N) (S : Sl (W h b D) 1 x (l.map u)) :
    aCopy Try.prog 22 (V b N) x (W h b D) = some (.int .i64 l.length, W h b (l ++ D.toList.drop l.length).toArray) := by
  have S1 := src1 S
  rw [List.length_map] at S1
  unfold V
  simp only [aCopy, el_22, sz_23, S1, Option.bind_some]
  rw [show min l.length N = l.length by omega]
  by_cases h0 : l.length = 0
  · rw [if_pos h0]
    obtain rfl := List.eq_nil_of_length_eq_zero h0
    simp
  · rw [if_neg h0]
    simp only [Option.isSome_none, Bool.false_eq_true, false_or]
    rw [if_neg (by rw [eOf_W hb]; simp; omega), Nat.mul_one, List.take_of_length_le (by simp)]
    unfold wrx
    obtain ⟨y, r, rfl⟩ : ∃ y r, l = y :: r := by cases l; exact absurd rfl h0; exact ⟨_, _, rfl⟩
    simp only [List.map_cons, W_get hb]
    rw [if_pos ⟨by omega, by rw [← List.map_cons]; exact u_oneC _⟩]
    unfold W
    rw [Option.map_some, List.set_set]
    congr 4
    unfold over uv
    rw [← List.map_cons, List.take_zero, List.nil_append, List.length_map, Nat.zero_add, ← List.map_drop]
    exact (List.map_append (f := u)).symm
set_option maxRecDepth 20000 in
theorem roomy_ok {v : Value} {l : List Int} (S : Sl h 1 v (l.map u)) (hl : l.length ≤ 2 ^ 44) : Cn Try.prog n0 (.func 13) [v] h (fun r h' => ∃ b, r = rv b l ∧ Rm h' b l ∧ Ext h h' ∧ h.length ≤ b) := by
  refine F13.enter ?_
  obtain ⟨HP, hHP⟩ : ∃ HP : Value → H → Prop, (fun r h' => ∃ b, r = rv b l ∧ Rm h' b l ∧ Ext h h' ∧ h.length ≤ b) = HP := ⟨_, rfl⟩
  rw [hHP, F13.e0]
  unfold F13.t0
  refine Bnd2_i (len_sl S) ?_
  refine Bnd_i bAdd ?_
  rw [show IntKind.i64.wrap ((l.length : Int) + 9) = ((l.length + 9 : Nat) : Int) by rw [IntWalk.i64_in _ (by omega)]; omega]
  refine Bnd2_i (mk1 el_22 sz_23 ze_23 by_23 rfl rfl (by omega) (Int.le_refl _) (by omega) (by omega)) ?_
  rw [Int.toNat_natCast]
  have e0 : h ++ [Ob.cells true (enc 1 23) (List.replicate (l.length + 9) (.int .u64 0))] = W (h ++ [Ob.cells true (enc 1 23) (List.replicate (l.length + 9) (.int .u64 0))]) h.length (List.replicate (l.length + 9) 0).toArray := by
    unfold W uv; rw [set_last]; simp [u]
  rw [e0]
  have hg : h.length < (h ++ [Ob.cells true (enc 1 23) (List.replicate (l.length + 9) (.int .u64 0))]).length := by simp
  have X0 : Ext h (h ++ [Ob.cells true (enc 1 23) (List.replicate (l.length + 9) (.int .u64 0))]) := Ext.app _ _
  generalize (h ++ [Ob.cells true (enc 1 23) (List.replicate (l.length + 9) (.int .u64 0))]) = g at *
  have XW : ∀ d, Ext h (W g h.length d) := fun d => Ext_W X0 (Nat.le_refl _)
  refine Bnd2_i (a := .int .i64 l.length) (b := W g h.length (l ++ (List.replicate (l.length + 9) (0 : Int)).toArray.toList.drop l.length).toArray) ?_ ?_
  · have := copyW (N := l.length + 9) hg (by simp) (by omega) (S.ext (XW (List.replicate (l.length + 9) 0).toArray))
    unfold V at this
    simp only [aBuiltin, List.getElem?_toArray, List.getElem?_cons_zero]
    exact this
  rw [List.toList_toArray, List.drop_replicate, show l.length + 9 - l.length = 9 by omega]
  refine Bnd2_i (len_sl S) ?_
  refine Lp_ind (fun m fr hh => ∃ i : Nat, fr = [(0, v), (3, V h.length (l.length + 9)), (4, .int .i64 (l.length + i : Nat))] ∧ i ≤ 9 ∧ hh = W g h.length (l ++ List.replicate i 42405 ++ List.replicate (9 - i) 0).toArray ∧ m = 9 - i) (F13.m1 n0) 9
    ⟨0, by simp (disch := first | omega | assumption | exact isC_last | exact isC_app (by first | assumption | exact isC_last | exact isC_app (by first | assumption | exact isC_last)) | (simp [oneC]; done) | fail) only [evs0, evs1, evs2, evs3, evs4, evs5, evs6, evs7, evs8, if_true, if_false, ↓reduceIte, Nat.reduceEqDiff, Nat.reduceAdd, Nat.reduceMul, Nat.reduceSub, Nat.reduceLeDiff, Int.reduceLT, Int.reduceLE, Int.reduceEq, Bool.false_eq_true, Option.bind_some, Option.map_some, List.set_cons_zero, List.set_cons_succ, List.toList_toArray, List.size_toArray, List.length_cons, List.length_nil, List.getElem?_toArray, List.getElem?_cons_zero, List.getElem?_cons_succ, List.drop_zero, List.take_succ_cons, List.take_zero]; rfl, by omega, by simp, rfl⟩ ?_
  rintro m fr hh ⟨i, rfl, hi, rfl, rfl⟩
  have hsz : (l ++ List.replicate i 42405 ++ List.replicate (9 - i) 0).toArray.size = l.length + 9 := by simp; omega
  rw [F13.e1]
  unfold F13.t1
  refine Bnd2_i (a := .int .i64 (l.length + 9 : Nat)) (b := W g h.length (l ++ List.replicate i 42405 ++ List.replicate (9 - i) 0).toArray) (by unfold V; simp [aBuiltin, un_22, aLen]) ?_
  simp (disch := first | omega | assumption | exact isC_last | exact isC_app (by first | assumption | exact isC_last | exact isC_app (by first | assumption | exact isC_last)) | (simp [oneC]; done) | fail) only [evs0, evs1, evs2, evs3, evs4, evs5, evs6, evs7, evs8, if_true, if_false, ↓reduceIte, Nat.reduceEqDiff, Nat.reduceAdd, Nat.reduceMul, Nat.reduceSub, Nat.reduceLeDiff, Int.reduceLT, Int.reduceLE, Int.reduceEq, Bool.false_eq_true, Option.bind_some, Option.map_some, List.set_cons_zero, List.set_cons_succ, List.toList_toArray, List.size_toArray, List.length_cons, List.length_nil, List.getElem?_toArray, List.getElem?_cons_zero, List.getElem?_cons_succ, List.drop_zero, List.take_succ_cons, List.take_zero]
  by_cases h5 : i < 9
  · rw [if_pos (by omega), F13.e2]
    unfold F13.t2
    refine Bnd_i (ixW (by omega)) ?_
    refine Bnd_i (stW hg (by rw [hsz]; omega)) ?_
    rw [F13.e3]
    simp (disch := first | omega | assumption | exact isC_last | exact isC_app (by first | assumption | exact isC_last | exact isC_app (by first | assumption | exact isC_last)) | (simp [oneC]; done) | fail) only [F13.t3, evs0, evs1, evs2, evs3, evs4, evs5, evs6, evs7, evs8, if_true, if_false, ↓reduceIte, Nat.reduceEqDiff, Nat.reduceAdd, Nat.reduceMul, Nat.reduceSub, Nat.reduceLeDiff, Int.reduceLT, Int.reduceLE, Int.reduceEq, Bool.false_eq_true, Option.bind_some, Option.map_some, List.set_cons_zero, List.set_cons_succ, List.toList_toArray, List.size_toArray, List.length_cons, List.length_nil, List.getElem?_toArray, List.getElem?_cons_zero, List.getElem?_cons_succ, List.drop_zero, List.take_succ_cons, List.take_zero]
    rw [show IntKind.i64.wrap (((l.length + i : Nat) : Int) + 1) = ((l.length + (i + 1) : Nat) : Int) by rw [IntWalk.i64_in _ (by omega)]; omega]
    refine ⟨by trivial, 9 - (i + 1), by omega, i + 1, rfl, by omega, ?_, rfl⟩
    congr 1
    rw [← Array.toList_inj, Array.toList_setIfInBounds, List.toList_toArray, List.toList_toArray]
    rw [List.set_append_right _ _ (by simp), show l.length + i - (l ++ List.replicate i (42405 : Int)).length = 0 by simp]
    rw [show 9 - i = (9 - (i + 1)) + 1 by omega, List.replicate_succ, List.set_cons_zero, List.replicate_succ']
    simp
  · rw [if_neg (by omega), F13.e4]
    unfold F13.t4
    obtain rfl : i = 9 := by omega
    refine Bnd2_i (len_sl S) ?_
    refine Bnd_i (slTo (by omega)) ?_
    simp (disch := first | omega | assumption | exact isC_last | exact isC_app (by first | assumption | exact isC_last | exact isC_app (by first | assumption | exact isC_last)) | (simp [oneC]; done) | fail) only [evs0, evs1, evs2, evs3, evs4, evs5, evs6, evs7, evs8, if_true, if_false, ↓reduceIte, Nat.reduceEqDiff, Nat.reduceAdd, Nat.reduceMul, Nat.reduceSub, Nat.reduceLeDiff, Int.reduceLT, Int.reduceLE, Int.reduceEq, Bool.false_eq_true, Option.bind_some, Option.map_some, List.set_cons_zero, List.set_cons_succ, List.toList_toArray, List.size_toArray, List.length_cons, List.length_nil, List.getElem?_toArray, List.getElem?_cons_zero, List.getElem?_cons_succ, List.drop_zero, List.take_succ_cons, List.take_zero]
    rw [← hHP]
    refine ⟨h.length, rfl, ?_, XW _, Nat.le_refl _⟩
    unfold Rm
    rw [W_get hg]
    simp [uv_eq]
set_option maxRecDepth 20000 in
theorem kept_ok {b : Nat} {v : Value} {l : List Int} (R : Rm h b l) (S : Sl h 1 v (l.map u)) (hl : l.length ≤ 2 ^ 44) : Cn Try.prog n0 (.func 17) [rv b l, v] h (fun r h' => r = .bool true ∧ h' = h) := by
  refine F17.enter ?_
  obtain ⟨HP, hHP⟩ : ∃ HP : Value → H → Prop, (fun r h' => r = .bool true ∧ h' = h) = HP := ⟨_, rfl⟩
  rw [hHP, F17.e0]
  unfold F17.t0
  refine Bnd2_i (len_sl S) ?_
  refine Bnd_i bAdd ?_
  rw [show IntKind.i64.wrap ((l.length : Int) + 9) = ((l.length + 9 : Nat) : Int) by rw [IntWalk.i64_in _ (by omega)]; omega]
  unfold rv
  refine Bnd_i (sl_own un_22 sz_23 (by omega) (by omega)) ?_
  rw [Int.toNat_natCast]
  have T : Sl h 1 (.slice (some ⟨b, 0, none⟩) (l.length + 9) (l.length + 9)) ((l ++ List.replicate 9 42405).map u) := by
    refine Sl.mk (o := 0) R (eS_enc' (by omega)) ?_ (by simp) (Nat.le_refl _)
    rw [List.drop_zero, List.take_of_length_le (by simp)]
  have Tl : (l ++ List.replicate 9 (42405 : Int)).length = l.length + 9 := by simp
  refine Bnd2_i (len_sl S) ?_
  refine Lp_ind (fun m fr hh => hh = h ∧ ∃ i : Nat, fr = [(0, .slice (some ⟨b, 0, none⟩) l.length (l.length + 9)), (1, v), (5, .slice (some ⟨b, 0, none⟩) (l.length + 9) (l.length + 9)), (6, .int .i64 (l.length + i : Nat))] ∧ i ≤ 9 ∧ m = 9 - i) (F17.m1 n0) 9
    ⟨rfl, 0, by simp (disch := first | omega | assumption | exact isC_last | exact isC_app (by first | assumption | exact isC_last | exact isC_app (by first | assumption | exact isC_last)) | (simp [oneC]; done) | fail) only [evs0, evs1, evs2, evs3, evs4, evs5, evs6, evs7, evs8, if_true, if_false, ↓reduceIte, Nat.reduceEqDiff, Nat.reduceAdd, Nat.reduceMul, Nat.reduceSub, Nat.reduceLeDiff, Int.reduceLT, Int.reduceLE, Int.reduceEq, Bool.false_eq_true, Option.bind_some, Option.map_some, List.set_cons_zero, List.set_cons_succ, List.toList_toArray, List.size_toArray, List.length_cons, List.length_nil, List.getElem?_toArray, List.getElem?_cons_zero, List.getElem?_cons_succ, List.drop_zero, List.take_succ_cons, List.take_zero]; rfl, by omega, rfl⟩ ?_
  rintro m fr hh ⟨eh, i, rfl, hi, rfl⟩
  subst hh
  rw [F17.e1]
  unfold F17.t1
  refine Bnd2_i (len_sl T) ?_
  rw [Tl]
  simp (disch := first | omega | assumption | exact isC_last | exact isC_app (by first | assumption | exact isC_last | exact isC_app (by first | assumption | exact isC_last)) | (simp [oneC]; done) | fail) only [evs0, evs1, evs2, evs3, evs4, evs5, evs6, evs7, evs8, if_true, if_false, ↓reduceIte, Nat.reduceEqDiff, Nat.reduceAdd, Nat.reduceMul, Nat.reduceSub, Nat.reduceLeDiff, Int.reduceLT, Int.reduceLE, Int.reduceEq, Bool.false_eq_true, Option.bind_some, Option.map_some, List.set_cons_zero, List.set_cons_succ, List.toList_toArray, List.size_toArray, List.length_cons, List.length_nil, List.getElem?_toArray, List.getElem?_cons_zero, List.getElem?_cons_succ, List.drop_zero, List.take_succ_cons, List.take_zero]
  by_cases h5 : i < 9
  · rw [if_pos (by omega), F17.e2]
    unfold F17.t2
    refine rdU T (by omega) (by rw [Tl]; omega) fun p => ?_
    rw [Int.toNat_natCast]
    have e : (l ++ List.replicate 9 (42405 : Int)).getD (l.length + i) 0 = 42405 := by
      rw [List.getD_eq_getElem?_getD, List.getElem?_append_right (by omega), List.getElem?_replicate, if_pos (by omega)]; rfl
    rw [e]
    simp (disch := first | omega | assumption | exact isC_last | exact isC_app (by first | assumption | exact isC_last | exact isC_app (by first | assumption | exact isC_last)) | (simp [oneC]; done) | fail) only [evs0, evs1, evs2, evs3, evs4, evs5, evs6, evs7, evs8, if_true, if_false, ↓reduceIte, Nat.reduceEqDiff, Nat.reduceAdd, Nat.reduceMul, Nat.reduceSub, Nat.reduceLeDiff, Int.reduceLT, Int.reduceLE, Int.reduceEq, Bool.false_eq_true, Option.bind_some, Option.map_some, List.set_cons_zero, List.set_cons_succ, List.toList_toArray, List.size_toArray, List.length_cons, List.length_nil, List.getElem?_toArray, List.getElem?_cons_zero, List.getElem?_cons_succ, List.drop_zero, List.take_succ_cons, List.take_zero]
    rw [F17.e4]
    simp (disch := first | omega | assumption | exact isC_last | exact isC_app (by first | assumption | exact isC_last | exact isC_app (by first | assumption | exact isC_last)) | (simp [oneC]; done) | fail) only [F17.t4, evs0, evs1, evs2, evs3, evs4, evs5, evs6, evs7, evs8, if_true, if_false, ↓reduceIte, Nat.reduceEqDiff, Nat.reduceAdd, Nat.reduceMul, Nat.reduceSub, Nat.reduceLeDiff, Int.reduceLT, Int.reduceLE, Int.reduceEq, Bool.false_eq_true, Option.bind_some, Option.map_some, List.set_cons_zero, List.set_cons_succ, List.toList_toArray, List.size_toArray, List.length_cons, List.length_nil, List.getElem?_toArray, List.getElem?_cons_zero, List.getElem?_cons_succ, List.drop_zero, List.take_succ_cons, List.take_zero]
    rw [show IntKind.i64.wrap (((l.length + i : Nat) : Int) + 1) = ((l.length + (i + 1) : Nat) : Int) by rw [IntWalk.i64_in _ (by omega)]; omega]
    exact ⟨by trivial, 9 - (i + 1), by omega, by trivial, i + 1, rfl, by omega, rfl⟩
  · rw [if_neg (by omega), F17.e5]
    unfold F17.t5
    refine (Same_ok R.sl S (by omega)).mono ?_
    rintro _ hx ⟨rfl, ex⟩; subst hx
    simp (disch := first | omega | assumption | exact isC_last | exact isC_app (by first | assumption | exact isC_last | exact isC_app (by first | assumption | exact isC_last)) | (simp [oneC]; done) | fail) only [evs0, evs1, evs2, evs3, evs4, evs5, evs6, evs7, evs8, if_true, if_false, ↓reduceIte, Nat.reduceEqDiff, Nat.reduceAdd, Nat.reduceMul, Nat.reduceSub, Nat.reduceLeDiff, Int.reduceLT, Int.reduceLE, Int.reduceEq, Bool.false_eq_true, Option.bind_some, Option.map_some, List.set_cons_zero, List.set_cons_succ, List.toList_toArray, List.size_toArray, List.length_cons, List.length_nil, List.getElem?_toArray, List.getElem?_cons_zero, List.getElem?_cons_succ, List.drop_zero, List.take_succ_cons, List.take_zero]
    rw [← hHP]
    exact ⟨rfl, rfl⟩
end Go.Proofs.Ytjdcdabbbmhffaa
