/- Rising lists: plain; and Right, Clone, Compact, set. No condition. -/
import Derived.Test.YtjdcdabbbmhffaaPdq
import Derived.Test.YtjdcdabbbmhffaaGa
set_option linter.unusedVariables false
set_option linter.unusedSimpArgs false
namespace Idl
open Go Go.Ev
def u (x : Int) : Value := .int .u64 x
abbrev Up (l : List Int) : Prop := l.Pairwise (· < ·)
/-- a rising list of just the numbers of which p is true -/
structure St (p : Int → Prop) (r : List Int) : Prop where
  up : Up r
  mem : ∀ x, x ∈ r ↔ p x
theorem st_eq : ∀ {r r' : List Int}, Up r → Up r' → (∀ x, x ∈ r ↔ x ∈ r') → r = r' := by
  intro r
  induction r with
  | nil =>
    intro r' _ _ h
    cases r' with
    | nil => rfl
    | cons b t => exact absurd ((h b).2 (List.mem_cons_self ..)) (by simp)
  | cons a t ih =>
    intro r' h1 h2 h
    cases r' with
    | nil => exact absurd ((h a).1 (List.mem_cons_self ..)) (by simp)
    | cons b t' =>
      rw [Up, List.pairwise_cons] at h1 h2
      have e : a = b := by
        rcases List.mem_cons.1 ((h a).1 (List.mem_cons_self ..)) with e | e
        · exact e
        · rcases List.mem_cons.1 ((h b).2 (List.mem_cons_self ..)) with e' | e'
          · exact e'.symm
          · have := h2.1 a e
            have := h1.1 b e'
            omega
      subst e
      congr 1
      refine ih h1.2 h2.2 fun x => ?_
      have hx := h x
      simp only [List.mem_cons] at hx
      constructor
      · intro hm
        rcases hx.1 (.inr hm) with e | e
        · have := h1.1 x hm; omega
        · exact e
      · intro hm
        rcases hx.2 (.inr hm) with e | e
        · have := h2.1 x hm; omega
        · exact e
theorem St.eq {p : Int → Prop} {r r' : List Int} (h : St p r) (h' : St p r') : r = r' := st_eq h.up h'.up fun x => by rw [h.mem, h'.mem]
theorem St.congr {p q : Int → Prop} {r : List Int} (h : St p r) (e : ∀ x, p x ↔ q x) : St q r := ⟨h.up, fun x => by rw [h.mem, e]⟩
theorem St.self {r : List Int} (h : Up r) : St (· ∈ r) r := ⟨h, fun _ => Iff.rfl⟩
def rightB (l : List Int) : Bool := (List.range (l.length - 1)).all fun i => decide (l.getD i 0 < l.getD (i + 1) 0)
theorem getD_get {l : List Int} {i : Nat} (h : i < l.length) : l.getD i 0 = l[i] := by rw [List.getD_eq_getElem?_getD, List.getElem?_eq_getElem h]; rfl
theorem rightB_iff {l : List Int} : rightB l = true ↔ Up l := by
  unfold rightB
  rw [List.all_eq_true]
  simp only [List.mem_range, decide_eq_true_eq]
  constructor
  · intro h
    rw [Up, List.pairwise_iff_getElem]
    intro i j hi hj hij
    obtain ⟨k, rfl⟩ : ∃ k, j = i + 1 + k := ⟨j - i - 1, by omega⟩
    clear hij
    induction k with
    | zero => have := h i (by omega); rw [getD_get (by omega), getD_get (by omega)] at this; exact this
    | succ k ih =>
      have h1 := ih (by omega)
      have h2 := h (i + 1 + k) (by omega)
      rw [getD_get (by omega), getD_get (by omega)] at h2
      exact Int.lt_trans h1 h2
  · intro h i hi
    rw [getD_get (by omega), getD_get (by omega)]
    exact (List.pairwise_iff_getElem.1 h) i (i + 1) (by omega) (by omega) (by omega)
theorem u_oneC (l : List Int) : (l.map u).all oneC = true := by simp [List.all_eq_true, u, oneC]
theorem u_get {l : List Int} {i : Nat} (hi : i < l.length) : (l.map u)[i]? = some (.int .u64 (l.getD i 0)) := by
  rw [List.getElem?_map, List.getElem?_eq_getElem hi, getD_get hi]; rfl
end Idl
namespace Go.Proofs.Ytjdcdabbbmhffaa
open Go.Ev Idl
open Go.Sort (ltInt)
variable {n0 : Nat} {h : H}
theorem uv_eq {d : Array Int} : uv d = d.toList.map u := rfl
theorem Sl_len {v : Value} {l : List Int} (S : Sl h 1 v (l.map u)) : ∃ ad c, v = .slice ad l.length c ∧ l.length ≤ c := by
  obtain ⟨ad, c, h1, h2⟩ := S.len1
  rw [List.length_map] at h1 h2
  exact ⟨ad, c, h1, h2⟩
theorem len_sl {v : Value} {l : List Int} (S : Sl h 1 v (l.map u)) {h1 : H} : aBuiltin Try.prog .len #[22] [v] h1 = some (.int .i64 l.length, h1) := by
  obtain ⟨ad, c, rfl, _⟩ := Sl_len S
  simp [aBuiltin, un_22, aLen]
/-- an element, read -/
theorem rdU {v : Value} {l : List Int} {i : Int} {K : Value → Value → Prop} (S : Sl h 1 v (l.map u)) (h0 : 0 ≤ i) (h1 : i < l.length) (k : ∀ p, K p (.int .u64 (l.getD i.toNat 0))) : Bnd (aIndexAddr Try.prog 22 v (.int .i64 i)) fun p => Bnd (aLoad Try.prog 23 p h) fun y => K p y :=
  Bnd_idx1 S un_22 sz_23 ag_23 h0 (u_get (by omega)) k
set_option maxRecDepth 20000 in
theorem Right_ok {v : Value} {l : List Int} (S : Sl h 1 v (l.map u)) (hl : l.length < 2 ^ 62) : Cn Try.prog n0 (.func 31) [v] h (fun r h' => r = .bool (rightB l) ∧ h' = h) := by
  refine F31.enter ?_
  obtain ⟨HP, hHP⟩ : ∃ HP : Value → H → Prop, (fun r h' => r = .bool (rightB l) ∧ h' = h) = HP := ⟨_, rfl⟩
  rw [hHP, F31.e0]
  unfold F31.t0
  refine Lp_ind (fun m fr hh => hh = h ∧ ∃ i : Nat, fr = [(0, v), (3, .int .i64 i)] ∧ 1 ≤ i ∧ (∀ j, j + 1 < i → l.getD j 0 < l.getD (j + 1) 0) ∧ (i ≤ l.length ∨ i = 1) ∧ m = l.length - i) (F31.m1 n0) (l.length - 1) ⟨rfl, 1, by simp (disch := first | omega | assumption | exact isC_last | exact isC_app (by first | assumption | exact isC_last | exact isC_app (by first | assumption | exact isC_last)) | (simp [oneC]; done) | fail) only [evs0, evs1, evs2, evs3, evs4, evs5, evs6, evs7, evs8, if_true, if_false, ↓reduceIte, Nat.reduceEqDiff, Nat.reduceAdd, Nat.reduceMul, Nat.reduceSub, Nat.reduceLeDiff, Int.reduceLT, Int.reduceLE, Int.reduceEq, Bool.false_eq_true, Option.bind_some, Option.map_some, List.set_cons_zero, List.set_cons_succ, List.toList_toArray, List.size_toArray, List.length_cons, List.length_nil, List.getElem?_toArray, List.getElem?_cons_zero, List.getElem?_cons_succ, List.drop_zero, List.take_succ_cons, List.take_zero]; rfl, by omega, fun j hj => by omega, by omega, rfl⟩ ?_
  rintro m fr hh ⟨eh, i, rfl, hi, hal, hi2, rfl⟩
  subst hh
  rw [F31.e1]
  unfold F31.t1
  refine Bnd2_i (len_sl S) ?_
  simp (disch := first | omega | assumption | exact isC_last | exact isC_app (by first | assumption | exact isC_last | exact isC_app (by first | assumption | exact isC_last)) | (simp [oneC]; done) | fail) only [evs0, evs1, evs2, evs3, evs4, evs5, evs6, evs7, evs8, if_true, if_false, ↓reduceIte, Nat.reduceEqDiff, Nat.reduceAdd, Nat.reduceMul, Nat.reduceSub, Nat.reduceLeDiff, Int.reduceLT, Int.reduceLE, Int.reduceEq, Bool.false_eq_true, Option.bind_some, Option.map_some, List.set_cons_zero, List.set_cons_succ, List.toList_toArray, List.size_toArray, List.length_cons, List.length_nil, List.getElem?_toArray, List.getElem?_cons_zero, List.getElem?_cons_succ, List.drop_zero, List.take_succ_cons, List.take_zero]
  by_cases h5 : i < l.length
  · rw [if_pos (by omega), F31.e2]
    unfold F31.t2
    refine Bnd_i bSub ?_
    rw [show IntKind.i64.wrap ((i : Int) - 1) = ((i - 1 : Nat) : Int) by rw [IntWalk.i64_in _ (by omega)]; omega]
    refine rdU S (by omega) (by omega) fun p => ?_
    refine rdU S (by omega) (by omega) fun p => ?_
    rw [Int.toNat_natCast, Int.toNat_natCast]
    simp (disch := first | omega | assumption | exact isC_last | exact isC_app (by first | assumption | exact isC_last | exact isC_app (by first | assumption | exact isC_last)) | (simp [oneC]; done) | fail) only [evs0, evs1, evs2, evs3, evs4, evs5, evs6, evs7, evs8, if_true, if_false, ↓reduceIte, Nat.reduceEqDiff, Nat.reduceAdd, Nat.reduceMul, Nat.reduceSub, Nat.reduceLeDiff, Int.reduceLT, Int.reduceLE, Int.reduceEq, Bool.false_eq_true, Option.bind_some, Option.map_some, List.set_cons_zero, List.set_cons_succ, List.toList_toArray, List.size_toArray, List.length_cons, List.length_nil, List.getElem?_toArray, List.getElem?_cons_zero, List.getElem?_cons_succ, List.drop_zero, List.take_succ_cons, List.take_zero]
    by_cases h6 : l.getD i 0 ≤ l.getD (i - 1) 0
    · rw [if_pos h6, F31.e3]
      simp (disch := first | omega | assumption | exact isC_last | exact isC_app (by first | assumption | exact isC_last | exact isC_app (by first | assumption | exact isC_last)) | (simp [oneC]; done) | fail) only [F31.t3, evs0, evs1, evs2, evs3, evs4, evs5, evs6, evs7, evs8, if_true, if_false, ↓reduceIte, Nat.reduceEqDiff, Nat.reduceAdd, Nat.reduceMul, Nat.reduceSub, Nat.reduceLeDiff, Int.reduceLT, Int.reduceLE, Int.reduceEq, Bool.false_eq_true, Option.bind_some, Option.map_some, List.set_cons_zero, List.set_cons_succ, List.toList_toArray, List.size_toArray, List.length_cons, List.length_nil, List.getElem?_toArray, List.getElem?_cons_zero, List.getElem?_cons_succ, List.drop_zero, List.take_succ_cons, List.take_zero]
      rw [← hHP]
      refine ⟨?_, rfl⟩
      congr 1
      symm
      unfold rightB
      rw [List.all_eq_false]
      refine ⟨i - 1, List.mem_range.2 (by omega), ?_⟩
      rw [show i - 1 + 1 = i by omega, decide_eq_true_eq]
      omega
    · rw [if_neg h6, F31.e4]
      simp (disch := first | omega | assumption | exact isC_last | exact isC_app (by first | assumption | exact isC_last | exact isC_app (by first | assumption | exact isC_last)) | (simp [oneC]; done) | fail) only [F31.t4, evs0, evs1, evs2, evs3, evs4, evs5, evs6, evs7, evs8, if_true, if_false, ↓reduceIte, Nat.reduceEqDiff, Nat.reduceAdd, Nat.reduceMul, Nat.reduceSub, Nat.reduceLeDiff, Int.reduceLT, Int.reduceLE, Int.reduceEq, Bool.false_eq_true, Option.bind_some, Option.map_some, List.set_cons_zero, List.set_cons_succ, List.toList_toArray, List.size_toArray, List.length_cons, List.length_nil, List.getElem?_toArray, List.getElem?_cons_zero, List.getElem?_cons_succ, List.drop_zero, List.take_succ_cons, List.take_zero]
      rw [show IntKind.i64.wrap ((i : Int) + 1) = ((i + 1 : Nat) : Int) by rw [IntWalk.i64_in _ (by omega)]; omega]
      refine ⟨by trivial, l.length - (i + 1), by omega, by trivial, i + 1, rfl, by omega, fun j hj => ?_, by omega, rfl⟩
      by_cases e : j + 1 = i
      · subst e
        rw [show j + 1 - 1 = j by omega] at h6
        omega
      · exact hal j (by omega)
  · rw [if_neg (by omega), F31.e5]
    simp (disch := first | omega | assumption | exact isC_last | exact isC_app (by first | assumption | exact isC_last | exact isC_app (by first | assumption | exact isC_last)) | (simp [oneC]; done) | fail) only [F31.t5, evs0, evs1, evs2, evs3, evs4, evs5, evs6, evs7, evs8, if_true, if_false, ↓reduceIte, Nat.reduceEqDiff, Nat.reduceAdd, Nat.reduceMul, Nat.reduceSub, Nat.reduceLeDiff, Int.reduceLT, Int.reduceLE, Int.reduceEq, Bool.false_eq_true, Option.bind_some, Option.map_some, List.set_cons_zero, List.set_cons_succ, List.toList_toArray, List.size_toArray, List.length_cons, List.length_nil, List.getElem?_toArray, List.getElem?_cons_zero, List.getElem?_cons_succ, List.drop_zero, List.take_succ_cons, List.take_zero]
    rw [← hHP]
    refine ⟨?_, rfl⟩
    congr 1
    symm
    unfold rightB
    rw [List.all_eq_true]
    intro j hj
    rw [decide_eq_true_eq]
    have := List.mem_range.1 hj
    exact hal j (by omega)
/-- a copy of a list that isn't nil, in a block of its own -/
theorem eqnil {v : Value} {l : List Int} (S : Sl h 1 v (l.map u)) : ∃ b, aBin Try.prog true .eql 22 v (.slice none 0 0) = some (.bool b) ∧ (b = true → l = []) := by
  obtain ⟨ad, n, c, rfl, h2, h3, h5, h4⟩ := S
  refine ⟨ad.isNone, ?_, ?_⟩
  · cases ad with
    | none => simp [aBin, aEqOp, aEq, un_22]
    | some a => simp [aBin, aEqOp, aEq, un_22]
  · intro e
    cases ad with
    | none => have := h5 rfl; rw [List.length_map] at h3; exact List.eq_nil_of_length_eq_zero (by omega)
    | some a => cases e
set_option maxRecDepth 20000 in
theorem Clone_ok {v : Value} {l : List Int} (S : Sl h 1 v (l.map u)) (hl : (l.length + 1024) * 8 ≤ 3 * 2 ^ 46) : Cn Try.prog n0 (.func 43) [v] h (fun r h' => (l = [] ∧ r = .slice none 0 0 ∧ h' = h) ∨ ∃ h1 b, h.length ≤ b ∧ b < h1.length ∧ Ext h h1 ∧ r = V b l.length ∧ h' = W h1 b l.toArray) := by
  refine F43.enter ?_
  obtain ⟨HP, hHP⟩ : ∃ HP : Value → H → Prop, (fun r h' => (l = [] ∧ r = .slice none 0 0 ∧ h' = h) ∨ ∃ h1 b, h.length ≤ b ∧ b < h1.length ∧ Ext h h1 ∧ r = V b l.length ∧ h' = W h1 b l.toArray) = HP := ⟨_, rfl⟩
  rw [hHP, F43.e0]
  unfold F43.t0
  obtain ⟨bb, e1, e2⟩ := eqnil S
  refine Bnd_i e1 ?_
  cases bb with
  | true =>
    simp (disch := first | omega | assumption | exact isC_last | exact isC_app (by first | assumption | exact isC_last | exact isC_app (by first | assumption | exact isC_last)) | (simp [oneC]; done) | fail) only [evs0, evs1, evs2, evs3, evs4, evs5, evs6, evs7, evs8, if_true, if_false, ↓reduceIte, Nat.reduceEqDiff, Nat.reduceAdd, Nat.reduceMul, Nat.reduceSub, Nat.reduceLeDiff, Int.reduceLT, Int.reduceLE, Int.reduceEq, Bool.false_eq_true, Option.bind_some, Option.map_some, List.set_cons_zero, List.set_cons_succ, List.toList_toArray, List.size_toArray, List.length_cons, List.length_nil, List.getElem?_toArray, List.getElem?_cons_zero, List.getElem?_cons_succ, List.drop_zero, List.take_succ_cons, List.take_zero]
    rw [F43.e1]
    simp (disch := first | omega | assumption | exact isC_last | exact isC_app (by first | assumption | exact isC_last | exact isC_app (by first | assumption | exact isC_last)) | (simp [oneC]; done) | fail) only [F43.t1, evs0, evs1, evs2, evs3, evs4, evs5, evs6, evs7, evs8, if_true, if_false, ↓reduceIte, Nat.reduceEqDiff, Nat.reduceAdd, Nat.reduceMul, Nat.reduceSub, Nat.reduceLeDiff, Int.reduceLT, Int.reduceLE, Int.reduceEq, Bool.false_eq_true, Option.bind_some, Option.map_some, List.set_cons_zero, List.set_cons_succ, List.toList_toArray, List.size_toArray, List.length_cons, List.length_nil, List.getElem?_toArray, List.getElem?_cons_zero, List.getElem?_cons_succ, List.drop_zero, List.take_succ_cons, List.take_zero]
    rw [← hHP]
    exact .inl ⟨e2 rfl, rfl, rfl⟩
  | false =>
    simp (disch := first | omega | assumption | exact isC_last | exact isC_app (by first | assumption | exact isC_last | exact isC_app (by first | assumption | exact isC_last)) | (simp [oneC]; done) | fail) only [evs0, evs1, evs2, evs3, evs4, evs5, evs6, evs7, evs8, if_true, if_false, ↓reduceIte, Nat.reduceEqDiff, Nat.reduceAdd, Nat.reduceMul, Nat.reduceSub, Nat.reduceLeDiff, Int.reduceLT, Int.reduceLE, Int.reduceEq, Bool.false_eq_true, Option.bind_some, Option.map_some, List.set_cons_zero, List.set_cons_succ, List.toList_toArray, List.size_toArray, List.length_cons, List.length_nil, List.getElem?_toArray, List.getElem?_cons_zero, List.getElem?_cons_succ, List.drop_zero, List.take_succ_cons, List.take_zero]
    rw [F43.e2]
    simp (disch := first | omega | assumption | exact isC_last | exact isC_app (by first | assumption | exact isC_last | exact isC_app (by first | assumption | exact isC_last)) | (simp [oneC]; done) | fail) only [F43.t2, evs0, evs1, evs2, evs3, evs4, evs5, evs6, evs7, evs8, if_true, if_false, ↓reduceIte, Nat.reduceEqDiff, Nat.reduceAdd, Nat.reduceMul, Nat.reduceSub, Nat.reduceLeDiff, Int.reduceLT, Int.reduceLE, Int.reduceEq, Bool.false_eq_true, Option.bind_some, Option.map_some, List.set_cons_zero, List.set_cons_succ, List.toList_toArray, List.size_toArray, List.length_cons, List.length_nil, List.getElem?_toArray, List.getElem?_cons_zero, List.getElem?_cons_succ, List.drop_zero, List.take_succ_cons, List.take_zero]
    have S1 := src1 (S.app [.cells true (enc 1 23) []])
    rw [List.length_map] at S1
    by_cases h0 : l.length = 0
    · refine Bnd2_i (a := .slice (some ⟨h.length, 0, none⟩) 0 0) (b := h ++ [.cells true (enc 1 23) []]) ?_ ?_
      · simp [aAppend, el_22, sz_23, by_23, ze_23, S1, h0]
      rw [← hHP]
      refine .inr ⟨h ++ [.cells true (enc 1 23) []], h.length, Nat.le_refl _, by simp, Ext.app _ _, by rw [h0]; rfl, ?_⟩
      obtain rfl := List.eq_nil_of_length_eq_zero h0
      unfold W uv
      rw [set_last]; rfl
    · obtain ⟨g, hg⟩ : ∃ g : H, h ++ [Ob.cells true (enc 1 23) []] = g := ⟨_, rfl⟩
      have gb : g[h.length]? = some (.cells true (enc 1 23) []) := by rw [← hg]; exact get_last
      have gx : Ext h g := by rw [← hg]; exact Ext.app _ _
      have gl : g.length = h.length + 1 := by rw [← hg]; simp
      rw [hg] at S1 ⊢
      have hl63 : 0 + l.length < 2 ^ 63 := by omega
      have q : aAppend Try.prog 22 (.slice (some ⟨h.length, 0, none⟩) 0 0) v g = some (.slice (some ⟨g.length, 0, none⟩) (0 + l.length) (0 + l.length), g.set h.length (.old (enc 1 23) [] g.length) ++ [.cells true (enc 1 23) ([] ++ l.map u)]) :=
        app_full (z := .int .u64 0) (by' := 8) (e := 0) el_22 sz_23 ze_23 by_23 rfl (by omega) (by omega) S1 (Nat.pos_of_ne_zero h0) gb (by simp) (u_oneC l) (by rw [Nat.zero_add]; exact hl) hl63
      refine Bnd2_i q ?_
      rw [← hHP]
      refine .inr ⟨g.set h.length (.old (enc 1 23) [] g.length) ++ [.cells true (enc 1 23) ([] ++ l.map u)], g.length, by omega, by simp, ?_, by rw [Nat.zero_add]; rfl, ?_⟩
      · intro j ob e
        have := lt_of_some e
        exact get_app (set_ne (gx _ _ e) (by omega))
      · unfold W uv
        have e3 : (g.set h.length (.old (enc 1 23) [] g.length)).length = g.length := by simp
        rw [List.set_append_right _ _ (by omega), e3, Nat.sub_self]
        simp [u]
end Go.Proofs.Ytjdcdabbbmhffaa
