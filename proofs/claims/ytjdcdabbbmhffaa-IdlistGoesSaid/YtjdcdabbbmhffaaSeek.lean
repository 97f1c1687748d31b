/- sort.Search, seek, Find; the reference's Right, Find, Has. No condition. -/
import Derived.Test.YtjdcdabbbmhffaaComp
set_option linter.unusedVariables false
set_option linter.unusedSimpArgs false
namespace Idl
open Go Go.Ev
/-- the first place from one on at which a number of at least id stands -/
structure Fst (l : List Int) (a : Nat) (id : Int) (r : Nat) : Prop where
  ge : a ≤ r
  le : r ≤ l.length
  lt : ∀ j, a ≤ j → j < r → l.getD j 0 < id
  at_ : r < l.length → id ≤ l.getD r 0
theorem Fst.eq {l : List Int} {a : Nat} {id : Int} {r r' : Nat} (h : Fst l a id r) (h' : Fst l a id r') : r = r' := by
  by_cases e : r < r'
  · have := h'.lt r h.ge e
    have := h.at_ (by have := h'.le; omega)
    omega
  · by_cases e' : r' < r
    · have := h.lt r' h'.ge e'
      have := h'.at_ (by have := h.le; omega)
      omega
    · omega
theorem up_lt {l : List Int} (hu : Up l) {i j : Nat} (hij : i < j) (hj : j < l.length) : l.getD i 0 < l.getD j 0 := by
  rw [getD_get (by omega), getD_get hj]
  exact (List.pairwise_iff_getElem.1 hu) i j (by omega) hj hij
theorem up_le {l : List Int} (hu : Up l) {i j : Nat} (hij : i ≤ j) (hj : j < l.length) : l.getD i 0 ≤ l.getD j 0 := by
  by_cases e : i = j
  · subst e; omega
  · have := up_lt hu (show i < j by omega) hj; omega
end Idl
namespace Go.Proofs.Ytjdcdabbbmhffaa
open Go.Ev Idl
variable {n0 : Nat} {h : H}
set_option maxRecDepth 20000 in
theorem Search_ok {n : Nat} {f : Fn} {cap : Array Value} {p : Nat → Bool} (hn : n < 2 ^ 62) (hf : ∀ i, i < n → Cn Try.prog n0 f (.int .i64 i :: cap.toList) h (fun v h' => v = .bool (p i) ∧ h' = h)) :
    Cn Try.prog n0 (.func 55) [.int .i64 n, .func f #[] cap] h (fun v h' => (∃ k : Nat, v = .int .i64 k ∧ k ≤ n ∧ (k = 0 ∨ p (k - 1) = false) ∧ (k = n ∨ p k = true)) ∧ h' = h) := by
  refine F55.enter ?_
  obtain ⟨HP, hHP⟩ : ∃ HP : Value → H → Prop, (fun v h' => (∃ k : Nat, v = .int .i64 k ∧ k ≤ n ∧ (k = 0 ∨ p (k - 1) = false) ∧ (k = n ∨ p k = true)) ∧ h' = h) = HP := ⟨_, rfl⟩
  rw [hHP, F55.e0]
  unfold F55.t0
  refine Lp_ind (fun m fr hh => hh = h ∧ ∃ i j : Nat, fr = [(1, .func f #[] cap), (5, .int .i64 i), (6, .int .i64 j)] ∧ i ≤ j ∧ j ≤ n ∧ (i = 0 ∨ p (i - 1) = false) ∧ (j = n ∨ p j = true) ∧ m = j - i) (F55.m1 n0) n ⟨rfl, 0, n, by simp (disch := first | omega | assumption | exact isC_last | exact isC_app (by first | assumption | exact isC_last | exact isC_app (by first | assumption | exact isC_last)) | (simp [oneC]; done) | fail) only [evs0, evs1, evs2, evs3, evs4, evs5, evs6, evs7, evs8, if_true, if_false, ↓reduceIte, Nat.reduceEqDiff, Nat.reduceAdd, Nat.reduceMul, Nat.reduceSub, Nat.reduceLeDiff, Int.reduceLT, Int.reduceLE, Int.reduceEq, Bool.false_eq_true, Option.bind_some, Option.map_some, List.set_cons_zero, List.set_cons_succ, List.toList_toArray, List.size_toArray, List.length_cons, List.length_nil, List.getElem?_toArray, List.getElem?_cons_zero, List.getElem?_cons_succ, List.drop_zero, List.take_succ_cons, List.take_zero]; rfl, by omega, by omega, .inl rfl, .inl rfl, rfl⟩ ?_
  rintro m fr hh ⟨eh, i, j, rfl, hij, hj, c1, c2, rfl⟩
  subst hh
  rw [F55.e1]
  simp (disch := first | omega | assumption | exact isC_last | exact isC_app (by first | assumption | exact isC_last | exact isC_app (by first | assumption | exact isC_last)) | (simp [oneC]; done) | fail) only [F55.t1, evs0, evs1, evs2, evs3, evs4, evs5, evs6, evs7, evs8, if_true, if_false, ↓reduceIte, Nat.reduceEqDiff, Nat.reduceAdd, Nat.reduceMul, Nat.reduceSub, Nat.reduceLeDiff, Int.reduceLT, Int.reduceLE, Int.reduceEq, Bool.false_eq_true, Option.bind_some, Option.map_some, List.set_cons_zero, List.set_cons_succ, List.toList_toArray, List.size_toArray, List.length_cons, List.length_nil, List.getElem?_toArray, List.getElem?_cons_zero, List.getElem?_cons_succ, List.drop_zero, List.take_succ_cons, List.take_zero]
  by_cases h5 : i < j
  · rw [if_pos (by omega), F55.e2]
    have e2 : IntKind.u64.wrap (IntKind.i64.wrap ((i : Int) + (j : Int))) = ((i + j : Nat) : Int) := by rw [IntWalk.i64_in _ (by omega), IntWalk.u64_in _ (by omega)]; omega
    simp (disch := first | omega | assumption | exact isC_last | exact isC_app (by first | assumption | exact isC_last | exact isC_app (by first | assumption | exact isC_last)) | (simp [oneC]; done) | fail) only [F55.t2, bShr, e2, evs0, evs1, evs2, evs3, evs4, evs5, evs6, evs7, evs8, if_true, if_false, ↓reduceIte, Nat.reduceEqDiff, Nat.reduceAdd, Nat.reduceMul, Nat.reduceSub, Nat.reduceLeDiff, Int.reduceLT, Int.reduceLE, Int.reduceEq, Bool.false_eq_true, Option.bind_some, Option.map_some, List.set_cons_zero, List.set_cons_succ, List.toList_toArray, List.size_toArray, List.length_cons, List.length_nil, List.getElem?_toArray, List.getElem?_cons_zero, List.getElem?_cons_succ, List.drop_zero, List.take_succ_cons, List.take_zero]
    rw [show (1 : Int) = ((1 : Nat) : Int) from rfl, shrU (by omega)]
    obtain ⟨q, hq⟩ : ∃ q, (i + j) / 2 ^ 1 = q := ⟨_, rfl⟩
    have hq2 : i ≤ q ∧ q < j := by omega
    rw [hq, IntWalk.i64_in (q : Int) (by omega)]
    rw [show (#[] : Array Value).toList ++ [Value.int .i64 (q : Int)] ++ cap.toList = .int .i64 q :: cap.toList from rfl]
    refine (hf q (by omega)).mono ?_
    rintro _ hx ⟨rfl, ex⟩; subst hx
    cases hp : p q with
    | false =>
      simp (disch := first | omega | assumption | exact isC_last | exact isC_app (by first | assumption | exact isC_last | exact isC_app (by first | assumption | exact isC_last)) | (simp [oneC]; done) | fail) only [Bool.not_false, evs0, evs1, evs2, evs3, evs4, evs5, evs6, evs7, evs8, if_true, if_false, ↓reduceIte, Nat.reduceEqDiff, Nat.reduceAdd, Nat.reduceMul, Nat.reduceSub, Nat.reduceLeDiff, Int.reduceLT, Int.reduceLE, Int.reduceEq, Bool.false_eq_true, Option.bind_some, Option.map_some, List.set_cons_zero, List.set_cons_succ, List.toList_toArray, List.size_toArray, List.length_cons, List.length_nil, List.getElem?_toArray, List.getElem?_cons_zero, List.getElem?_cons_succ, List.drop_zero, List.take_succ_cons, List.take_zero]
      rw [F55.e3]
      simp (disch := first | omega | assumption | exact isC_last | exact isC_app (by first | assumption | exact isC_last | exact isC_app (by first | assumption | exact isC_last)) | (simp [oneC]; done) | fail) only [F55.t3, evs0, evs1, evs2, evs3, evs4, evs5, evs6, evs7, evs8, if_true, if_false, ↓reduceIte, Nat.reduceEqDiff, Nat.reduceAdd, Nat.reduceMul, Nat.reduceSub, Nat.reduceLeDiff, Int.reduceLT, Int.reduceLE, Int.reduceEq, Bool.false_eq_true, Option.bind_some, Option.map_some, List.set_cons_zero, List.set_cons_succ, List.toList_toArray, List.size_toArray, List.length_cons, List.length_nil, List.getElem?_toArray, List.getElem?_cons_zero, List.getElem?_cons_succ, List.drop_zero, List.take_succ_cons, List.take_zero]
      rw [show IntKind.i64.wrap ((q : Int) + 1) = ((q + 1 : Nat) : Int) by rw [IntWalk.i64_in _ (by omega)]; omega]
      exact ⟨by trivial, j - (q + 1), by omega, by trivial, q + 1, j, by trivial, by omega, hj, .inr (by simpa using hp), c2, rfl⟩
    | true =>
      simp (disch := first | omega | assumption | exact isC_last | exact isC_app (by first | assumption | exact isC_last | exact isC_app (by first | assumption | exact isC_last)) | (simp [oneC]; done) | fail) only [Bool.not_true, evs0, evs1, evs2, evs3, evs4, evs5, evs6, evs7, evs8, if_true, if_false, ↓reduceIte, Nat.reduceEqDiff, Nat.reduceAdd, Nat.reduceMul, Nat.reduceSub, Nat.reduceLeDiff, Int.reduceLT, Int.reduceLE, Int.reduceEq, Bool.false_eq_true, Option.bind_some, Option.map_some, List.set_cons_zero, List.set_cons_succ, List.toList_toArray, List.size_toArray, List.length_cons, List.length_nil, List.getElem?_toArray, List.getElem?_cons_zero, List.getElem?_cons_succ, List.drop_zero, List.take_succ_cons, List.take_zero]
      rw [F55.e4]
      simp (disch := first | omega | assumption | exact isC_last | exact isC_app (by first | assumption | exact isC_last | exact isC_app (by first | assumption | exact isC_last)) | (simp [oneC]; done) | fail) only [F55.t4, evs0, evs1, evs2, evs3, evs4, evs5, evs6, evs7, evs8, if_true, if_false, ↓reduceIte, Nat.reduceEqDiff, Nat.reduceAdd, Nat.reduceMul, Nat.reduceSub, Nat.reduceLeDiff, Int.reduceLT, Int.reduceLE, Int.reduceEq, Bool.false_eq_true, Option.bind_some, Option.map_some, List.set_cons_zero, List.set_cons_succ, List.toList_toArray, List.size_toArray, List.length_cons, List.length_nil, List.getElem?_toArray, List.getElem?_cons_zero, List.getElem?_cons_succ, List.drop_zero, List.take_succ_cons, List.take_zero]
      exact ⟨by trivial, q - i, by omega, by trivial, i, q, by trivial, by omega, by omega, c1, .inr hp, rfl⟩
  · rw [if_neg (by omega), F55.e5]
    simp (disch := first | omega | assumption | exact isC_last | exact isC_app (by first | assumption | exact isC_last | exact isC_app (by first | assumption | exact isC_last)) | (simp [oneC]; done) | fail) only [F55.t5, evs0, evs1, evs2, evs3, evs4, evs5, evs6, evs7, evs8, if_true, if_false, ↓reduceIte, Nat.reduceEqDiff, Nat.reduceAdd, Nat.reduceMul, Nat.reduceSub, Nat.reduceLeDiff, Int.reduceLT, Int.reduceLE, Int.reduceEq, Bool.false_eq_true, Option.bind_some, Option.map_some, List.set_cons_zero, List.set_cons_succ, List.toList_toArray, List.size_toArray, List.length_cons, List.length_nil, List.getElem?_toArray, List.getElem?_cons_zero, List.getElem?_cons_succ, List.drop_zero, List.take_succ_cons, List.take_zero]
    rw [← hHP]
    obtain rfl : i = j := by omega
    exact ⟨⟨i, rfl, hj, c1, c2⟩, rfl⟩
set_option maxRecDepth 20000 in
theorem seek_ok {v : Value} {l : List Int} {a : Nat} {id : Int} (S : Sl h 1 v (l.map u)) (hu : Up l) (ha : a ≤ l.length) (hl : l.length < 2 ^ 60) :
    Cn Try.prog n0 (.func 42) [v, .int .i64 a, .int .u64 id] h (fun r h' => (∃ k : Nat, r = .int .i64 k ∧ Fst l a id k) ∧ Ext h h') := by
  refine F42.enter ?_
  obtain ⟨HP, hHP⟩ : ∃ HP : Value → H → Prop, (fun r h' => (∃ k : Nat, r = .int .i64 k ∧ Fst l a id k) ∧ Ext h h') = HP := ⟨_, rfl⟩
  rw [hHP, F42.e0]
  obtain ⟨ad, c, rfl, hc⟩ := Sl_len S
  simp (disch := first | omega | assumption | exact isC_last | exact isC_app (by first | assumption | exact isC_last | exact isC_app (by first | assumption | exact isC_last)) | (simp [oneC]; done) | fail) only [F42.t0, evs0, evs1, evs2, evs3, evs4, evs5, evs6, evs7, evs8, if_true, if_false, ↓reduceIte, Nat.reduceEqDiff, Nat.reduceAdd, Nat.reduceMul, Nat.reduceSub, Nat.reduceLeDiff, Int.reduceLT, Int.reduceLE, Int.reduceEq, Bool.false_eq_true, Option.bind_some, Option.map_some, List.set_cons_zero, List.set_cons_succ, List.toList_toArray, List.size_toArray, List.length_cons, List.length_nil, List.getElem?_toArray, List.getElem?_cons_zero, List.getElem?_cons_succ, List.drop_zero, List.take_succ_cons, List.take_zero]
  simp only [List.length_append, List.length_cons, List.length_nil, Nat.zero_add]
  obtain ⟨G, hG⟩ : ∃ G : Int → H, ∀ x, h ++ [Ob.cells true (enc 0 22) (clL (Value.slice ad l.length c))] ++ [Ob.cells true (enc 0 23) (clL (Value.int IntKind.u64 id))] ++ [Ob.cells true (enc 0 3) [Value.int IntKind.i64 x]] = G x := ⟨_, fun _ => rfl⟩
  rw [hG]
  have rl : ∀ x, rd (G x) h.length 0 = some (.slice ad l.length c) := by
    intro x; rw [← hG]; exact rd_cells (cs := [.slice ad l.length c]) (own := true) (e := enc 0 22) (get_app (get_app get_last))
  have ri : ∀ x, rd (G x) (h.length + 1) 0 = some (.int .u64 id) := by
    intro x; rw [← hG]; exact rd_cells (cs := [.int .u64 id]) (own := true) (e := enc 0 23) (get_app (by rw [show h.length + 1 = (h ++ [Ob.cells true (enc 0 22) (clL (Value.slice ad l.length c))]).length by simp]; exact get_last))
  have rg : ∀ x, (G x)[h.length + 1 + 1]? = some (.cells true (enc 0 3) [.int .i64 x]) := by
    intro x; rw [← hG, show h.length + 1 + 1 = (h ++ [Ob.cells true (enc 0 22) (clL (Value.slice ad l.length c))] ++ [Ob.cells true (enc 0 23) (clL (Value.int IntKind.u64 id))]).length by simp]; exact get_last
  have ro : ∀ x, rd (G x) (h.length + 1 + 1) 0 = some (.int .i64 x) := fun x => rd_cells (rg x)
  have wo : ∀ x y, wr (G x) (h.length + 1 + 1) 0 [.int .i64 y] = some (G y) := by
    intro x y
    rw [wr_cells (rg x) (by simp) rfl, over_eq (by simp)]
    rw [← hG x, ← hG y, show h.length + 1 + 1 = (h ++ [Ob.cells true (enc 0 22) (clL (Value.slice ad l.length c))] ++ [Ob.cells true (enc 0 23) (clL (Value.int IntKind.u64 id))]).length by simp, set_last]
  have XG : ∀ x, Ext h (G x) := by intro x; rw [← hG, List.append_assoc, List.append_assoc]; exact Ext.app _ _
  have SG : ∀ x, Sl (G x) 1 (.slice ad l.length c) (l.map u) := fun x => S.ext (XG x)
  clear hG
  refine Lp_ind (fun m fr hh => ∃ (low leap : Nat), fr = [(3, .pointer (some ⟨h.length, 0, none⟩)), (5, .pointer (some ⟨h.length + 1, 0, none⟩)), (7, .int .i64 leap), (8, .pointer (some ⟨h.length + 1 + 1, 0, none⟩))] ∧ hh = G low ∧ a ≤ low ∧ low ≤ l.length ∧ 1 ≤ leap ∧ leap ≤ 2 * l.length + 1 ∧ (∀ j, a ≤ j → j < low → l.getD j 0 < id) ∧ (low = a ∨ l.getD low 0 < id) ∧ (low = a ∨ low < l.length) ∧ m = l.length - low) (F42.m1 n0) (l.length - a)
    ⟨a, 1, by simp (disch := first | omega | assumption | exact isC_last | exact isC_app (by first | assumption | exact isC_last | exact isC_app (by first | assumption | exact isC_last)) | (simp [oneC]; done) | fail) only [evs0, evs1, evs2, evs3, evs4, evs5, evs6, evs7, evs8, if_true, if_false, ↓reduceIte, Nat.reduceEqDiff, Nat.reduceAdd, Nat.reduceMul, Nat.reduceSub, Nat.reduceLeDiff, Int.reduceLT, Int.reduceLE, Int.reduceEq, Bool.false_eq_true, Option.bind_some, Option.map_some, List.set_cons_zero, List.set_cons_succ, List.toList_toArray, List.size_toArray, List.length_cons, List.length_nil, List.getElem?_toArray, List.getElem?_cons_zero, List.getElem?_cons_succ, List.drop_zero, List.take_succ_cons, List.take_zero]; rfl, rfl, Nat.le_refl _, ha, by omega, by omega, fun j hj hj2 => by omega, .inl rfl, .inl rfl, rfl⟩ ?_
  rintro m fr hh ⟨low, leap, rfl, rfl, hal, hll, hp1, hp2, hlt, hat, hlo, rfl⟩
  rw [F42.e1]
  have e1 : IntKind.i64.wrap ((low : Int) + (leap : Int)) = ((low + leap : Nat) : Int) := by rw [IntWalk.i64_in _ (by omega)]; omega
  have lenG : ∀ {h1 : H}, aBuiltin Try.prog .len #[22] [.slice ad l.length c] h1 = some (.int .i64 l.length, h1) := by intro h1; simp [aBuiltin, un_22, aLen]
  -- behind the leaps
  have behind : (low + leap < l.length → id ≤ l.getD (low + leap) 0) → F42.p3 n0 [(3, .pointer (some ⟨h.length, 0, none⟩)), (5, .pointer (some ⟨h.length + 1, 0, none⟩)), (7, .int .i64 leap), (8, .pointer (some ⟨h.length + 1 + 1, 0, none⟩))] [] (G low) (KFin Try.prog [.tmp 6] HP) := by
    intro hge
    rw [F42.e3]
    simp (disch := first | omega | assumption | exact isC_last | exact isC_app (by first | assumption | exact isC_last | exact isC_app (by first | assumption | exact isC_last)) | (simp [oneC]; done) | fail) only [F42.t3, rl, ro, e1, lenG, evs0, evs1, evs2, evs3, evs4, evs5, evs6, evs7, evs8, if_true, if_false, ↓reduceIte, Nat.reduceEqDiff, Nat.reduceAdd, Nat.reduceMul, Nat.reduceSub, Nat.reduceLeDiff, Int.reduceLT, Int.reduceLE, Int.reduceEq, Bool.false_eq_true, Option.bind_some, Option.map_some, List.set_cons_zero, List.set_cons_succ, List.toList_toArray, List.size_toArray, List.length_cons, List.length_nil, List.getElem?_toArray, List.getElem?_cons_zero, List.getElem?_cons_succ, List.drop_zero, List.take_succ_cons, List.take_zero]
    have em : (if (l.length : Int) < ((low + leap : Nat) : Int) then (l.length : Int) else ((low + leap : Nat) : Int)) = ((min (low + leap) l.length : Nat) : Int) := by split <;> omega
    rw [em]
    have es : IntKind.i64.wrap (((min (low + leap) l.length : Nat) : Int) - (low : Int)) = ((min (low + leap) l.length - low : Nat) : Int) := by rw [IntWalk.i64_in _ (by omega)]; omega
    rw [es]
    refine (Search_ok (p := fun i => decide (id ≤ l.getD (low + i) 0)) (by omega) ?_).mono ?_
    · intro i hi
      show Cn Try.prog n0 (.func 56) [.int .i64 i, .pointer (some ⟨h.length, 0, none⟩), .pointer (some ⟨h.length + 1 + 1, 0, none⟩), .pointer (some ⟨h.length + 1, 0, none⟩)] (G low) _
      refine F56.enter ?_
      rw [F56.e0]
      have e2 : IntKind.i64.wrap ((low : Int) + (i : Int)) = ((low + i : Nat) : Int) := by rw [IntWalk.i64_in _ (by omega)]; omega
      unfold F56.t0
      refine Bnd_i (a := .slice ad l.length c) (by simp (disch := first | omega | assumption | exact isC_last | exact isC_app (by first | assumption | exact isC_last | exact isC_app (by first | assumption | exact isC_last)) | (simp [oneC]; done) | fail) only [rl, evs0, evs1, evs2, evs3, evs4, evs5, evs6, evs7, evs8, if_true, if_false, ↓reduceIte, Nat.reduceEqDiff, Nat.reduceAdd, Nat.reduceMul, Nat.reduceSub, Nat.reduceLeDiff, Int.reduceLT, Int.reduceLE, Int.reduceEq, Bool.false_eq_true, Option.bind_some, Option.map_some, List.set_cons_zero, List.set_cons_succ, List.toList_toArray, List.size_toArray, List.length_cons, List.length_nil, List.getElem?_toArray, List.getElem?_cons_zero, List.getElem?_cons_succ, List.drop_zero, List.take_succ_cons, List.take_zero]) ?_
      refine Bnd_i (a := .int .i64 low) (by simp (disch := first | omega | assumption | exact isC_last | exact isC_app (by first | assumption | exact isC_last | exact isC_app (by first | assumption | exact isC_last)) | (simp [oneC]; done) | fail) only [ro, evs0, evs1, evs2, evs3, evs4, evs5, evs6, evs7, evs8, if_true, if_false, ↓reduceIte, Nat.reduceEqDiff, Nat.reduceAdd, Nat.reduceMul, Nat.reduceSub, Nat.reduceLeDiff, Int.reduceLT, Int.reduceLE, Int.reduceEq, Bool.false_eq_true, Option.bind_some, Option.map_some, List.set_cons_zero, List.set_cons_succ, List.toList_toArray, List.size_toArray, List.length_cons, List.length_nil, List.getElem?_toArray, List.getElem?_cons_zero, List.getElem?_cons_succ, List.drop_zero, List.take_succ_cons, List.take_zero]) ?_
      refine Bnd_i bAdd ?_
      rw [e2]
      refine rdU (SG low) (by omega) (by omega) fun p => ?_
      rw [Int.toNat_natCast]
      simp (disch := first | omega | assumption | exact isC_last | exact isC_app (by first | assumption | exact isC_last | exact isC_app (by first | assumption | exact isC_last)) | (simp [oneC]; done) | fail) only [ri, evs0, evs1, evs2, evs3, evs4, evs5, evs6, evs7, evs8, if_true, if_false, ↓reduceIte, Nat.reduceEqDiff, Nat.reduceAdd, Nat.reduceMul, Nat.reduceSub, Nat.reduceLeDiff, Int.reduceLT, Int.reduceLE, Int.reduceEq, Bool.false_eq_true, Option.bind_some, Option.map_some, List.set_cons_zero, List.set_cons_succ, List.toList_toArray, List.size_toArray, List.length_cons, List.length_nil, List.getElem?_toArray, List.getElem?_cons_zero, List.getElem?_cons_succ, List.drop_zero, List.take_succ_cons, List.take_zero]
      exact ⟨by trivial, by trivial⟩
    · rintro _ _ ⟨⟨k, rfl, hk, c1, c2⟩, rfl⟩
      simp (disch := first | omega | assumption | exact isC_last | exact isC_app (by first | assumption | exact isC_last | exact isC_app (by first | assumption | exact isC_last)) | (simp [oneC]; done) | fail) only [ro, evs0, evs1, evs2, evs3, evs4, evs5, evs6, evs7, evs8, if_true, if_false, ↓reduceIte, Nat.reduceEqDiff, Nat.reduceAdd, Nat.reduceMul, Nat.reduceSub, Nat.reduceLeDiff, Int.reduceLT, Int.reduceLE, Int.reduceEq, Bool.false_eq_true, Option.bind_some, Option.map_some, List.set_cons_zero, List.set_cons_succ, List.toList_toArray, List.size_toArray, List.length_cons, List.length_nil, List.getElem?_toArray, List.getElem?_cons_zero, List.getElem?_cons_succ, List.drop_zero, List.take_succ_cons, List.take_zero]
      rw [show IntKind.i64.wrap ((low : Int) + (k : Int)) = ((low + k : Nat) : Int) by rw [IntWalk.i64_in _ (by omega)]; omega]
      rw [← hHP]
      refine ⟨⟨low + k, rfl, by omega, by omega, ?_, ?_⟩, XG low⟩
      · intro j hj hj2
        by_cases hjl : j < low
        · exact hlt j hj hjl
        · rcases c1 with rfl | c1
          · omega
          · simp only [decide_eq_false_iff_not] at c1
            have := up_le hu (i := j) (j := low + (k - 1)) (by omega) (by omega)
            omega
      · intro hr
        rcases c2 with rfl | c2
        · have : low + leap < l.length := by omega
          have := hge this
          rw [show low + (min (low + leap) l.length - low) = low + leap by omega]
          exact this
        · exact of_decide_eq_true c2
  by_cases h5 : low + leap < l.length
  · unfold F42.t1
    refine Bnd_i (a := .int .i64 low) (by simp (disch := first | omega | assumption | exact isC_last | exact isC_app (by first | assumption | exact isC_last | exact isC_app (by first | assumption | exact isC_last)) | (simp [oneC]; done) | fail) only [ro, evs0, evs1, evs2, evs3, evs4, evs5, evs6, evs7, evs8, if_true, if_false, ↓reduceIte, Nat.reduceEqDiff, Nat.reduceAdd, Nat.reduceMul, Nat.reduceSub, Nat.reduceLeDiff, Int.reduceLT, Int.reduceLE, Int.reduceEq, Bool.false_eq_true, Option.bind_some, Option.map_some, List.set_cons_zero, List.set_cons_succ, List.toList_toArray, List.size_toArray, List.length_cons, List.length_nil, List.getElem?_toArray, List.getElem?_cons_zero, List.getElem?_cons_succ, List.drop_zero, List.take_succ_cons, List.take_zero]) ?_
    refine Bnd_i bAdd ?_
    rw [e1]
    refine Bnd_i (a := .slice ad l.length c) (by simp (disch := first | omega | assumption | exact isC_last | exact isC_app (by first | assumption | exact isC_last | exact isC_app (by first | assumption | exact isC_last)) | (simp [oneC]; done) | fail) only [rl, evs0, evs1, evs2, evs3, evs4, evs5, evs6, evs7, evs8, if_true, if_false, ↓reduceIte, Nat.reduceEqDiff, Nat.reduceAdd, Nat.reduceMul, Nat.reduceSub, Nat.reduceLeDiff, Int.reduceLT, Int.reduceLE, Int.reduceEq, Bool.false_eq_true, Option.bind_some, Option.map_some, List.set_cons_zero, List.set_cons_succ, List.toList_toArray, List.size_toArray, List.length_cons, List.length_nil, List.getElem?_toArray, List.getElem?_cons_zero, List.getElem?_cons_succ, List.drop_zero, List.take_succ_cons, List.take_zero]) ?_
    refine Bnd2_i lenG ?_
    refine Bnd_i bLss ?_
    rw [decide_eq_true (by omega), Gd_true]
    refine Bnd_i (a := .slice ad l.length c) (by simp (disch := first | omega | assumption | exact isC_last | exact isC_app (by first | assumption | exact isC_last | exact isC_app (by first | assumption | exact isC_last)) | (simp [oneC]; done) | fail) only [rl, evs0, evs1, evs2, evs3, evs4, evs5, evs6, evs7, evs8, if_true, if_false, ↓reduceIte, Nat.reduceEqDiff, Nat.reduceAdd, Nat.reduceMul, Nat.reduceSub, Nat.reduceLeDiff, Int.reduceLT, Int.reduceLE, Int.reduceEq, Bool.false_eq_true, Option.bind_some, Option.map_some, List.set_cons_zero, List.set_cons_succ, List.toList_toArray, List.size_toArray, List.length_cons, List.length_nil, List.getElem?_toArray, List.getElem?_cons_zero, List.getElem?_cons_succ, List.drop_zero, List.take_succ_cons, List.take_zero]) ?_
    refine Bnd_i (a := .int .i64 low) (by simp (disch := first | omega | assumption | exact isC_last | exact isC_app (by first | assumption | exact isC_last | exact isC_app (by first | assumption | exact isC_last)) | (simp [oneC]; done) | fail) only [ro, evs0, evs1, evs2, evs3, evs4, evs5, evs6, evs7, evs8, if_true, if_false, ↓reduceIte, Nat.reduceEqDiff, Nat.reduceAdd, Nat.reduceMul, Nat.reduceSub, Nat.reduceLeDiff, Int.reduceLT, Int.reduceLE, Int.reduceEq, Bool.false_eq_true, Option.bind_some, Option.map_some, List.set_cons_zero, List.set_cons_succ, List.toList_toArray, List.size_toArray, List.length_cons, List.length_nil, List.getElem?_toArray, List.getElem?_cons_zero, List.getElem?_cons_succ, List.drop_zero, List.take_succ_cons, List.take_zero]) ?_
    refine Bnd_i bAdd ?_
    rw [e1]
    refine rdU (SG low) (by omega) (by omega) fun p => ?_
    rw [Int.toNat_natCast]
    simp (disch := first | omega | assumption | exact isC_last | exact isC_app (by first | assumption | exact isC_last | exact isC_app (by first | assumption | exact isC_last)) | (simp [oneC]; done) | fail) only [ri, evs0, evs1, evs2, evs3, evs4, evs5, evs6, evs7, evs8, if_true, if_false, ↓reduceIte, Nat.reduceEqDiff, Nat.reduceAdd, Nat.reduceMul, Nat.reduceSub, Nat.reduceLeDiff, Int.reduceLT, Int.reduceLE, Int.reduceEq, Bool.false_eq_true, Option.bind_some, Option.map_some, List.set_cons_zero, List.set_cons_succ, List.toList_toArray, List.size_toArray, List.length_cons, List.length_nil, List.getElem?_toArray, List.getElem?_cons_zero, List.getElem?_cons_succ, List.drop_zero, List.take_succ_cons, List.take_zero]
    by_cases h6 : l.getD (low + leap) 0 < id
    · rw [if_pos h6, F42.e2]
      simp (disch := first | omega | assumption | exact isC_last | exact isC_app (by first | assumption | exact isC_last | exact isC_app (by first | assumption | exact isC_last)) | (simp [oneC]; done) | fail) only [F42.t2, ro, e1, wo, evs0, evs1, evs2, evs3, evs4, evs5, evs6, evs7, evs8, if_true, if_false, ↓reduceIte, Nat.reduceEqDiff, Nat.reduceAdd, Nat.reduceMul, Nat.reduceSub, Nat.reduceLeDiff, Int.reduceLT, Int.reduceLE, Int.reduceEq, Bool.false_eq_true, Option.bind_some, Option.map_some, List.set_cons_zero, List.set_cons_succ, List.toList_toArray, List.size_toArray, List.length_cons, List.length_nil, List.getElem?_toArray, List.getElem?_cons_zero, List.getElem?_cons_succ, List.drop_zero, List.take_succ_cons, List.take_zero]
      rw [show IntKind.i64.wrap ((leap : Int) * 2) = ((leap * 2 : Nat) : Int) by rw [IntWalk.i64_in _ (by omega)]; omega]
      refine ⟨by trivial, l.length - (low + leap), by omega, low + leap, leap * 2, by trivial, rfl, by omega, by omega, by omega, by omega, fun j hj hj2 => ?_, .inr h6, .inr h5, rfl⟩
      have := up_le hu (i := j) (j := low + leap) (by omega) h5
      omega
    · rw [if_neg h6]
      exact behind (fun _ => by omega)
  · simp (disch := first | omega | assumption | exact isC_last | exact isC_app (by first | assumption | exact isC_last | exact isC_app (by first | assumption | exact isC_last)) | (simp [oneC]; done) | fail) only [F42.t1, rl, ro, e1, lenG, evs0, evs1, evs2, evs3, evs4, evs5, evs6, evs7, evs8, if_true, if_false, ↓reduceIte, Nat.reduceEqDiff, Nat.reduceAdd, Nat.reduceMul, Nat.reduceSub, Nat.reduceLeDiff, Int.reduceLT, Int.reduceLE, Int.reduceEq, Bool.false_eq_true, Option.bind_some, Option.map_some, List.set_cons_zero, List.set_cons_succ, List.toList_toArray, List.size_toArray, List.length_cons, List.length_nil, List.getElem?_toArray, List.getElem?_cons_zero, List.getElem?_cons_succ, List.drop_zero, List.take_succ_cons, List.take_zero]
    rw [if_neg (by omega)]
    exact behind (fun x => absurd x h5)
end Go.Proofs.Ytjdcdabbbmhffaa
