/- slices.Compact of sorted numbers; idlist.set. No condition. -/
import Derived.Test.YtjdcdabbbmhffaaSets
set_option linter.unusedVariables false
set_option linter.unusedSimpArgs false
namespace Go.Proofs.Ytjdcdabbbmhffaa
open Go.Ev Idl
open Go.Sort (ltInt)
variable {n0 : Nat} {h : H}
theorem ixO {b o n c : Nat} {i : Nat} (hi : i < n) : aIndexAddr Try.prog 22 (.slice (some ⟨b, o, none⟩) n c) (.int .i64 i) = some (.pointer (some ⟨b, o + i, none⟩)) := by
  simp only [aIndexAddr, un_22, sz_23, Option.map_some]
  rw [if_pos ⟨by omega, by omega⟩]; simp
theorem eOf_W {b : Nat} {d : Array Int} (hb : b < h.length) : eOf (W h b d) b = some 1 := by
  unfold eOf; rw [W_get hb]; simp [eS_enc']
theorem slFrom {b n k : Nat} {d : Array Int} (hb : b < h.length) (hk : 0 < k) (hkn : k < n) : aSlice Try.prog 22 (V b n) (some (.int .i64 k)) none none (W h b d) = some (.slice (some ⟨b, k, none⟩) (n - k) (n - k)) := by
  unfold V
  simp only [aSlice, un_22, sz_23, Option.bind_some, bnd]
  rw [if_pos ⟨by omega, by omega⟩]
  simp only [Option.bind_some, Int.toNat_natCast]
  rw [if_pos ⟨by omega, fun h => by cases h⟩, if_neg (by omega), if_neg (by omega), if_pos (eOf_W hb)]
  simp
theorem slTo {b n k : Nat} {d : Array Int} (hkn : k ≤ n) : aSlice Try.prog 22 (V b n) none (some (.int .i64 k)) none (W h b d) = some (.slice (some ⟨b, 0, none⟩) k n) := by
  unfold V
  rw [sl_own un_22 sz_23 (by omega) (by omega)]
  simp
/-- cells o.. are cleared -/
def clr (d : Array Int) (o : Nat) : Array Int := (d.toList.take o ++ List.replicate (d.size - o) 0).toArray
theorem clearW {b n k : Nat} {d : Array Int} (hb : b < h.length) (hn : d.size = n) (hkn : k ≤ n) : aBuiltin Try.prog .clear #[22] [.slice (some ⟨b, k, none⟩) (n - k) (n - k)] (W h b d) = some (.tuple #[], W h b (clr d k)) := by
  have e : aClear Try.prog 22 (.slice (some ⟨b, k, none⟩) (n - k) (n - k)) (W h b d) = some (W h b (clr d k)) := by
    have hz : (Value.int .u64 0).cells.toList = [.int .u64 0] := rfl
    simp only [aClear, el_22, sz_23, ze_23]
    rw [if_pos (by simp [Value.cells, isLit])]
    by_cases h0 : n - k = 0
    · rw [if_pos h0]
      congr 2
      unfold clr
      have hk : k = d.size := by omega
      rw [hk, Nat.sub_self, List.replicate_zero, List.append_nil, List.take_of_length_le (by simp)]
    · rw [if_neg h0]
      simp only [Option.isSome_none, Bool.false_eq_true, false_or]
      rw [if_neg (by rw [eOf_W hb]; simp), hz, repl_one]
      unfold wrx
      obtain ⟨q, hq⟩ : ∃ q, n - k = q + 1 := ⟨n - k - 1, by omega⟩
      rw [hq, List.replicate_succ]
      simp only [W_get hb]
      rw [if_pos ⟨by rw [uv_len]; omega, by simp [List.all_eq_true, oneC]⟩]
      unfold W
      rw [List.set_set]
      congr 3
      unfold clr uv over
      rw [← List.replicate_succ, ← hq, ← hn]
      simp only [List.map_append, List.map_take, List.map_replicate, List.length_replicate]
      rw [List.drop_of_length_le (by simp; omega)]
      simp
  simp only [aBuiltin, List.getElem?_toArray, List.getElem?_cons_zero, e, Option.map_some]
theorem getBang {d : Array Int} {i : Nat} (hi : i < d.size) : d[i]! = d.toList.getD i 0 := by
  rw [getElem!_pos d i hi, List.getD_eq_getElem?_getD, List.getElem?_eq_getElem (by simpa using hi)]; simp
/-- the beginning is dealt with: k numbers stand for q -/
structure Dd (d D : Array Int) (k q : Nat) : Prop where
  size : D.size = d.size
  kq : k < q
  qn : q ≤ d.size
  k1 : 1 ≤ k
  old : ∀ j, q - 1 ≤ j → j < d.size → D[j]! = d[j]!
  up : Up (D.toList.take k)
  mem : ∀ x, x ∈ D.toList.take k ↔ x ∈ d.toList.take q
theorem take_succ {d : Array Int} {q : Nat} (hq : q < d.size) : d.toList.take (q + 1) = d.toList.take q ++ [d[q]!] := by
  rw [List.take_add_one, List.getElem?_eq_getElem (by simpa using hq), Option.toList_some, getElem!_pos d q hq]; simp
theorem sorted_le {d : Array Int} (hs : d.toList.Pairwise (· ≤ ·)) {i j : Nat} (hij : i ≤ j) (hj : j < d.size) : d[i]! ≤ d[j]! := by
  by_cases e : i = j
  · subst e; omega
  · rw [getElem!_pos d i (by omega), getElem!_pos d j hj]
    have := (List.pairwise_iff_getElem.1 hs) i j (by simp; omega) (by simpa using hj) (by omega)
    simpa using this
theorem mem_take {d : Array Int} {q : Nat} {x : Int} (hx : x ∈ d.toList.take q) : ∃ i, i < q ∧ i < d.size ∧ x = d[i]! := by
  obtain ⟨i, hi, e⟩ := List.getElem_of_mem hx
  simp only [List.length_take, Array.length_toList] at hi
  refine ⟨i, by omega, by omega, ?_⟩
  rw [getElem!_pos d i (by omega), ← e]; simp
theorem Dd.same {d D : Array Int} {k q : Nat} (I : Dd d D k q) (hq : q < d.size) (e : d[q]! = d[q - 1]!) : Dd d D k (q + 1) := by
  refine ⟨I.size, by have := I.kq; omega, by omega, I.k1, fun j hj => I.old j (by omega), I.up, fun x => ?_⟩
  rw [I.mem, take_succ hq, List.mem_append, List.mem_singleton]
  constructor
  · exact .inl
  · rintro (hx | hx)
    · exact hx
    · rw [hx, e]
      have h1 := I.kq
      have : d.toList.take q = d.toList.take (q - 1) ++ [d[q - 1]!] := by
        have := take_succ (d := d) (q := q - 1) (by omega)
        rw [show q - 1 + 1 = q by omega] at this; exact this
      rw [this]; simp
theorem Dd.more {d D : Array Int} {k q : Nat} (I : Dd d D k q) (hs : d.toList.Pairwise (· ≤ ·)) (hq : q < d.size) (e : d[q]! ≠ d[q - 1]!) : Dd d (D.setIfInBounds k d[q]!) (k + 1) (q + 1) := by
  have h1 := I.kq
  have hkD : k < D.size := by rw [I.size]; omega
  have et : (D.setIfInBounds k d[q]!).toList.take (k + 1) = D.toList.take k ++ [d[q]!] := by
    rw [Array.toList_setIfInBounds, List.take_add_one, List.take_set_of_le (by omega)]
    rw [List.getElem?_set_self (by simpa using hkD)]; rfl
  refine ⟨by rw [Array.size_setIfInBounds]; exact I.size, by omega, by omega, by omega, fun j hj hj2 => ?_, ?_, fun x => ?_⟩
  · rw [getElem!_pos _ j (by rw [Array.size_setIfInBounds, I.size]; exact hj2), Array.getElem_setIfInBounds_ne (h := by omega), ← getElem!_pos D j (by rw [I.size]; exact hj2)]
    · exact I.old j (by omega) hj2
    · rw [I.size]; exact hj2
  · rw [et, Up, List.pairwise_append]
    refine ⟨I.up, by simp, fun x hx y hy => ?_⟩
    rw [List.mem_singleton] at hy
    subst hy
    obtain ⟨i, hi, hi2, rfl⟩ := mem_take ((I.mem x).1 hx)
    have a1 := sorted_le hs (i := i) (j := q - 1) (by omega) (by omega)
    have a2 := sorted_le hs (i := q - 1) (j := q) (by omega) hq
    omega
  · rw [et, take_succ hq, List.mem_append, List.mem_append, I.mem]
set_option maxRecDepth 20000 in
theorem Compact_ok {b n : Nat} {d : Array Int} (hb : b < h.length) (hn : d.size = n) (h60 : n < 2 ^ 60) (hs : d.toList.Pairwise (· ≤ ·)) :
    Cn Try.prog n0 (.func 58) [V b n] (W h b d) (fun v h' => ∃ (k : Nat) (D : Array Int), v = .slice (some ⟨b, 0, none⟩) k n ∧ k ≤ n ∧ D.size = n ∧ h' = W h b D ∧ St (· ∈ d.toList) (D.toList.take k)) := by
  refine F58.enter ?_
  obtain ⟨HP, hHP⟩ : ∃ HP : Value → H → Prop, (fun v h' => ∃ (k : Nat) (D : Array Int), v = .slice (some ⟨b, 0, none⟩) k n ∧ k ≤ n ∧ D.size = n ∧ h' = W h b D ∧ St (· ∈ d.toList) (D.toList.take k)) = HP := ⟨_, rfl⟩
  rw [hHP, F58.e0]
  have lenV : ∀ {h1 : H}, aBuiltin Try.prog .len #[22] [V b n] h1 = some (.int .i64 n, h1) := by intro h1; unfold V; simp [aBuiltin, un_22, aLen]
  have whole : Up d.toList → HP (V b n) (W h b d) := by
    intro hu
    rw [← hHP]
    refine ⟨n, d, rfl, Nat.le_refl _, hn, rfl, ?_⟩
    rw [List.take_of_length_le (by simp; omega)]
    exact St.self hu
  simp (disch := first | omega | assumption | exact isC_last | exact isC_app (by first | assumption | exact isC_last | exact isC_app (by first | assumption | exact isC_last)) | (simp [oneC]; done) | fail) only [F58.t0, lenV, evs0, evs1, evs2, evs3, evs4, evs5, evs6, evs7, evs8, if_true, if_false, ↓reduceIte, Nat.reduceEqDiff, Nat.reduceAdd, Nat.reduceMul, Nat.reduceSub, Nat.reduceLeDiff, Int.reduceLT, Int.reduceLE, Int.reduceEq, Bool.false_eq_true, Option.bind_some, Option.map_some, List.set_cons_zero, List.set_cons_succ, List.toList_toArray, List.size_toArray, List.length_cons, List.length_nil, List.getElem?_toArray, List.getElem?_cons_zero, List.getElem?_cons_succ, List.drop_zero, List.take_succ_cons, List.take_zero]
  by_cases h2 : n < 2
  · rw [if_pos (by omega), F58.e1]
    simp (disch := first | omega | assumption | exact isC_last | exact isC_app (by first | assumption | exact isC_last | exact isC_app (by first | assumption | exact isC_last)) | (simp [oneC]; done) | fail) only [F58.t1, evs0, evs1, evs2, evs3, evs4, evs5, evs6, evs7, evs8, if_true, if_false, ↓reduceIte, Nat.reduceEqDiff, Nat.reduceAdd, Nat.reduceMul, Nat.reduceSub, Nat.reduceLeDiff, Int.reduceLT, Int.reduceLE, Int.reduceEq, Bool.false_eq_true, Option.bind_some, Option.map_some, List.set_cons_zero, List.set_cons_succ, List.toList_toArray, List.size_toArray, List.length_cons, List.length_nil, List.getElem?_toArray, List.getElem?_cons_zero, List.getElem?_cons_succ, List.drop_zero, List.take_succ_cons, List.take_zero]
    refine whole ?_
    match hd : d.toList with
    | [] => exact List.Pairwise.nil
    | [x] => simp [Up]
    | x :: y :: r => have := congrArg List.length hd; simp at this; omega
  rw [if_neg (by omega), F58.e2]
  unfold F58.t2
  refine Lp_ind (fun m fr hh => hh = W h b d ∧ ∃ k : Nat, fr = [(0, V b n), (3, .int .i64 k)] ∧ 1 ≤ k ∧ k ≤ n ∧ Up (d.toList.take k) ∧ m = n - k) (F58.m3 n0) (n - 1) ⟨rfl, 1, by simp (disch := first | omega | assumption | exact isC_last | exact isC_app (by first | assumption | exact isC_last | exact isC_app (by first | assumption | exact isC_last)) | (simp [oneC]; done) | fail) only [evs0, evs1, evs2, evs3, evs4, evs5, evs6, evs7, evs8, if_true, if_false, ↓reduceIte, Nat.reduceEqDiff, Nat.reduceAdd, Nat.reduceMul, Nat.reduceSub, Nat.reduceLeDiff, Int.reduceLT, Int.reduceLE, Int.reduceEq, Bool.false_eq_true, Option.bind_some, Option.map_some, List.set_cons_zero, List.set_cons_succ, List.toList_toArray, List.size_toArray, List.length_cons, List.length_nil, List.getElem?_toArray, List.getElem?_cons_zero, List.getElem?_cons_succ, List.drop_zero, List.take_succ_cons, List.take_zero]; rfl, by omega, by omega, ?_, rfl⟩ ?_
  · have := take_succ (d := d) (q := 0) (by omega)
    rw [Nat.zero_add] at this
    rw [this]; simp [Up]
  rintro m fr hh ⟨rfl, k, rfl, hk1, hkn, hup, rfl⟩
  rw [F58.e3]
  simp (disch := first | omega | assumption | exact isC_last | exact isC_app (by first | assumption | exact isC_last | exact isC_app (by first | assumption | exact isC_last)) | (simp [oneC]; done) | fail) only [F58.t3, lenV, evs0, evs1, evs2, evs3, evs4, evs5, evs6, evs7, evs8, if_true, if_false, ↓reduceIte, Nat.reduceEqDiff, Nat.reduceAdd, Nat.reduceMul, Nat.reduceSub, Nat.reduceLeDiff, Int.reduceLT, Int.reduceLE, Int.reduceEq, Bool.false_eq_true, Option.bind_some, Option.map_some, List.set_cons_zero, List.set_cons_succ, List.toList_toArray, List.size_toArray, List.length_cons, List.length_nil, List.getElem?_toArray, List.getElem?_cons_zero, List.getElem?_cons_succ, List.drop_zero, List.take_succ_cons, List.take_zero]
  by_cases h5 : k < n
  · rw [if_pos (by omega), F58.e4]
    have e1 : IntKind.i64.wrap ((k : Int) - 1) = ((k - 1 : Nat) : Int) := by rw [IntWalk.i64_in _ (by omega)]; omega
    have e2 : IntKind.i64.wrap ((k : Int) + 1) = ((k + 1 : Nat) : Int) := by rw [IntWalk.i64_in _ (by omega)]; omega
    simp (disch := first | omega | assumption | exact isC_last | exact isC_app (by first | assumption | exact isC_last | exact isC_app (by first | assumption | exact isC_last)) | (simp [oneC]; done) | fail) only [F58.t4, e1, ixW, rdW, evs0, evs1, evs2, evs3, evs4, evs5, evs6, evs7, evs8, if_true, if_false, ↓reduceIte, Nat.reduceEqDiff, Nat.reduceAdd, Nat.reduceMul, Nat.reduceSub, Nat.reduceLeDiff, Int.reduceLT, Int.reduceLE, Int.reduceEq, Bool.false_eq_true, Option.bind_some, Option.map_some, List.set_cons_zero, List.set_cons_succ, List.toList_toArray, List.size_toArray, List.length_cons, List.length_nil, List.getElem?_toArray, List.getElem?_cons_zero, List.getElem?_cons_succ, List.drop_zero, List.take_succ_cons, List.take_zero]
    by_cases h6 : d[k]! = d[k - 1]!
    · rw [if_pos h6, F58.e5]
      unfold F58.t5
      refine Bnd_i (slFrom hb (by omega) h5) ?_
      have I0 : Dd d d k (k + 1) := by
        refine ⟨rfl, by omega, by omega, hk1, fun _ _ _ => rfl, hup, fun x => ?_⟩
        rw [take_succ (by omega), List.mem_append, List.mem_singleton]
        refine ⟨.inl, fun hx => hx.elim id fun hx => ?_⟩
        rw [hx, h6]
        have := take_succ (d := d) (q := k - 1) (by omega)
        rw [show k - 1 + 1 = k by omega] at this
        rw [this]; simp
      refine Lp_ind (fun m fr hh => ∃ (k2 q : Nat) (D : Array Int), fr = [(0, V b n), (3, .int .i64 k2), (4, .slice (some ⟨b, k, none⟩) (n - k) (n - k)), (5, .int .i64 q)] ∧ hh = W h b D ∧ 1 ≤ q ∧ q ≤ n - k ∧ Dd d D k2 (k + q) ∧ m = n - k - q) (F58.m6 n0) (n - k - 1)
        ⟨k, 1, d, by simp (disch := first | omega | assumption | exact isC_last | exact isC_app (by first | assumption | exact isC_last | exact isC_app (by first | assumption | exact isC_last)) | (simp [oneC]; done) | fail) only [evs0, evs1, evs2, evs3, evs4, evs5, evs6, evs7, evs8, if_true, if_false, ↓reduceIte, Nat.reduceEqDiff, Nat.reduceAdd, Nat.reduceMul, Nat.reduceSub, Nat.reduceLeDiff, Int.reduceLT, Int.reduceLE, Int.reduceEq, Bool.false_eq_true, Option.bind_some, Option.map_some, List.set_cons_zero, List.set_cons_succ, List.toList_toArray, List.size_toArray, List.length_cons, List.length_nil, List.getElem?_toArray, List.getElem?_cons_zero, List.getElem?_cons_succ, List.drop_zero, List.take_succ_cons, List.take_zero]; rfl, rfl, by omega, by omega, I0, rfl⟩ ?_
      rintro m fr hh ⟨k2, q, D, rfl, rfl, hq1, hqn, I, rfl⟩
      have hDs := I.size
      have hkq := I.kq
      rw [F58.e6]
      have lenS : ∀ {h1 : H}, aBuiltin Try.prog .len #[22] [.slice (some ⟨b, k, none⟩) (n - k) (n - k)] h1 = some (.int .i64 (n - k : Nat), h1) := by intro h1; simp [aBuiltin, un_22, aLen]
      simp (disch := first | omega | assumption | exact isC_last | exact isC_app (by first | assumption | exact isC_last | exact isC_app (by first | assumption | exact isC_last)) | (simp [oneC]; done) | fail) only [F58.t6, lenS, evs0, evs1, evs2, evs3, evs4, evs5, evs6, evs7, evs8, if_true, if_false, ↓reduceIte, Nat.reduceEqDiff, Nat.reduceAdd, Nat.reduceMul, Nat.reduceSub, Nat.reduceLeDiff, Int.reduceLT, Int.reduceLE, Int.reduceEq, Bool.false_eq_true, Option.bind_some, Option.map_some, List.set_cons_zero, List.set_cons_succ, List.toList_toArray, List.size_toArray, List.length_cons, List.length_nil, List.getElem?_toArray, List.getElem?_cons_zero, List.getElem?_cons_succ, List.drop_zero, List.take_succ_cons, List.take_zero]
      by_cases h7 : q < n - k
      · rw [if_pos (by omega), F58.e7]
        have e3 : IntKind.i64.wrap ((q : Int) - 1) = ((q - 1 : Nat) : Int) := by rw [IntWalk.i64_in _ (by omega)]; omega
        have e4 : IntKind.i64.wrap ((k2 : Int) + 1) = ((k2 + 1 : Nat) : Int) := by rw [IntWalk.i64_in _ (by omega)]; omega
        have e5 : IntKind.i64.wrap ((q : Int) + 1) = ((q + 1 : Nat) : Int) := by rw [IntWalk.i64_in _ (by omega)]; omega
        unfold F58.t7
        refine Bnd_i (ixO h7) ?_
        refine Bnd_i (ldW hb (by omega)) ?_
        refine Bnd_i bSub ?_
        rw [e3]
        refine Bnd_i (ixO (by omega)) ?_
        refine Bnd_i (ldW hb (by omega)) ?_
        have o1 : D[k + q]! = d[k + q]! := I.old _ (by omega) (by omega)
        have o2 : D[k + (q - 1)]! = d[k + q - 1]! := by rw [show k + (q - 1) = k + q - 1 by omega]; exact I.old _ (by omega) (by omega)
        rw [o1, o2]
        simp (disch := first | omega | assumption | exact isC_last | exact isC_app (by first | assumption | exact isC_last | exact isC_app (by first | assumption | exact isC_last)) | (simp [oneC]; done) | fail) only [evs0, evs1, evs2, evs3, evs4, evs5, evs6, evs7, evs8, if_true, if_false, ↓reduceIte, Nat.reduceEqDiff, Nat.reduceAdd, Nat.reduceMul, Nat.reduceSub, Nat.reduceLeDiff, Int.reduceLT, Int.reduceLE, Int.reduceEq, Bool.false_eq_true, Option.bind_some, Option.map_some, List.set_cons_zero, List.set_cons_succ, List.toList_toArray, List.size_toArray, List.length_cons, List.length_nil, List.getElem?_toArray, List.getElem?_cons_zero, List.getElem?_cons_succ, List.drop_zero, List.take_succ_cons, List.take_zero]
        by_cases h8 : d[k + q]! = d[k + q - 1]!
        · rw [if_pos h8, F58.e9]
          simp (disch := first | omega | assumption | exact isC_last | exact isC_app (by first | assumption | exact isC_last | exact isC_app (by first | assumption | exact isC_last)) | (simp [oneC]; done) | fail) only [F58.t9, e5, evs0, evs1, evs2, evs3, evs4, evs5, evs6, evs7, evs8, if_true, if_false, ↓reduceIte, Nat.reduceEqDiff, Nat.reduceAdd, Nat.reduceMul, Nat.reduceSub, Nat.reduceLeDiff, Int.reduceLT, Int.reduceLE, Int.reduceEq, Bool.false_eq_true, Option.bind_some, Option.map_some, List.set_cons_zero, List.set_cons_succ, List.toList_toArray, List.size_toArray, List.length_cons, List.length_nil, List.getElem?_toArray, List.getElem?_cons_zero, List.getElem?_cons_succ, List.drop_zero, List.take_succ_cons, List.take_zero]
          exact ⟨by trivial, n - k - (q + 1), by omega, k2, q + 1, D, by trivial, rfl, by omega, by omega, I.same (by omega) h8, rfl⟩
        · rw [if_neg h8, F58.e8]
          unfold F58.t8
          refine Bnd_i (ixO h7) ?_
          refine Bnd_i (ldW hb (by omega)) ?_
          refine Bnd_i (ixW (by omega)) ?_
          refine Bnd_i (stW hb (by omega)) ?_
          rw [o1]
          simp (disch := first | omega | assumption | exact isC_last | exact isC_app (by first | assumption | exact isC_last | exact isC_app (by first | assumption | exact isC_last)) | (simp [oneC]; done) | fail) only [e4, evs0, evs1, evs2, evs3, evs4, evs5, evs6, evs7, evs8, if_true, if_false, ↓reduceIte, Nat.reduceEqDiff, Nat.reduceAdd, Nat.reduceMul, Nat.reduceSub, Nat.reduceLeDiff, Int.reduceLT, Int.reduceLE, Int.reduceEq, Bool.false_eq_true, Option.bind_some, Option.map_some, List.set_cons_zero, List.set_cons_succ, List.toList_toArray, List.size_toArray, List.length_cons, List.length_nil, List.getElem?_toArray, List.getElem?_cons_zero, List.getElem?_cons_succ, List.drop_zero, List.take_succ_cons, List.take_zero]
          rw [F58.e9]
          simp (disch := first | omega | assumption | exact isC_last | exact isC_app (by first | assumption | exact isC_last | exact isC_app (by first | assumption | exact isC_last)) | (simp [oneC]; done) | fail) only [F58.t9, e5, evs0, evs1, evs2, evs3, evs4, evs5, evs6, evs7, evs8, if_true, if_false, ↓reduceIte, Nat.reduceEqDiff, Nat.reduceAdd, Nat.reduceMul, Nat.reduceSub, Nat.reduceLeDiff, Int.reduceLT, Int.reduceLE, Int.reduceEq, Bool.false_eq_true, Option.bind_some, Option.map_some, List.set_cons_zero, List.set_cons_succ, List.toList_toArray, List.size_toArray, List.length_cons, List.length_nil, List.getElem?_toArray, List.getElem?_cons_zero, List.getElem?_cons_succ, List.drop_zero, List.take_succ_cons, List.take_zero]
          exact ⟨by trivial, n - k - (q + 1), by omega, k2 + 1, q + 1, _, by trivial, rfl, by omega, by omega, I.more hs (by omega) h8, rfl⟩
      · rw [if_neg (by omega), F58.e10]
        unfold F58.t10
        refine Bnd_i (slFrom hb I.k1 (by omega)) ?_
        refine Bnd2_i (clearW hb (by omega) (by omega)) ?_
        refine Bnd_i (slTo (by omega)) ?_
        simp (disch := first | omega | assumption | exact isC_last | exact isC_app (by first | assumption | exact isC_last | exact isC_app (by first | assumption | exact isC_last)) | (simp [oneC]; done) | fail) only [evs0, evs1, evs2, evs3, evs4, evs5, evs6, evs7, evs8, if_true, if_false, ↓reduceIte, Nat.reduceEqDiff, Nat.reduceAdd, Nat.reduceMul, Nat.reduceSub, Nat.reduceLeDiff, Int.reduceLT, Int.reduceLE, Int.reduceEq, Bool.false_eq_true, Option.bind_some, Option.map_some, List.set_cons_zero, List.set_cons_succ, List.toList_toArray, List.size_toArray, List.length_cons, List.length_nil, List.getElem?_toArray, List.getElem?_cons_zero, List.getElem?_cons_succ, List.drop_zero, List.take_succ_cons, List.take_zero]
        rw [← hHP]
        have et : (clr D k2).toList.take k2 = D.toList.take k2 := by
          unfold clr
          rw [List.toList_toArray, List.take_append_of_le_length (by simp; omega), List.take_take]; simp
        refine ⟨k2, clr D k2, rfl, by omega, ?_, rfl, ?_⟩
        · unfold clr; simp; omega
        · rw [et]
          refine ⟨I.up, fun x => ?_⟩
          rw [I.mem, List.take_of_length_le (by simp; omega)]
    · rw [if_neg h6, F58.e11]
      simp (disch := first | omega | assumption | exact isC_last | exact isC_app (by first | assumption | exact isC_last | exact isC_app (by first | assumption | exact isC_last)) | (simp [oneC]; done) | fail) only [F58.t11, e2, evs0, evs1, evs2, evs3, evs4, evs5, evs6, evs7, evs8, if_true, if_false, ↓reduceIte, Nat.reduceEqDiff, Nat.reduceAdd, Nat.reduceMul, Nat.reduceSub, Nat.reduceLeDiff, Int.reduceLT, Int.reduceLE, Int.reduceEq, Bool.false_eq_true, Option.bind_some, Option.map_some, List.set_cons_zero, List.set_cons_succ, List.toList_toArray, List.size_toArray, List.length_cons, List.length_nil, List.getElem?_toArray, List.getElem?_cons_zero, List.getElem?_cons_succ, List.drop_zero, List.take_succ_cons, List.take_zero]
      refine ⟨by trivial, n - (k + 1), by omega, by trivial, k + 1, rfl, by omega, by omega, ?_, rfl⟩
      rw [take_succ (by omega), Up, List.pairwise_append]
      refine ⟨hup, by simp, fun x hx y hy => ?_⟩
      rw [List.mem_singleton] at hy
      subst hy
      obtain ⟨i, hi, hi2, rfl⟩ := mem_take hx
      have a1 := sorted_le hs (i := i) (j := k - 1) (by omega) (by omega)
      have a2 := sorted_le hs (i := k - 1) (j := k) (by omega) (by omega)
      omega
  · rw [if_neg (by omega), F58.e12]
    simp (disch := first | omega | assumption | exact isC_last | exact isC_app (by first | assumption | exact isC_last | exact isC_app (by first | assumption | exact isC_last)) | (simp [oneC]; done) | fail) only [F58.t12, evs0, evs1, evs2, evs3, evs4, evs5, evs6, evs7, evs8, if_true, if_false, ↓reduceIte, Nat.reduceEqDiff, Nat.reduceAdd, Nat.reduceMul, Nat.reduceSub, Nat.reduceLeDiff, Int.reduceLT, Int.reduceLE, Int.reduceEq, Bool.false_eq_true, Option.bind_some, Option.map_some, List.set_cons_zero, List.set_cons_succ, List.toList_toArray, List.size_toArray, List.length_cons, List.length_nil, List.getElem?_toArray, List.getElem?_cons_zero, List.getElem?_cons_succ, List.drop_zero, List.take_succ_cons, List.take_zero]
    refine whole ?_
    rw [List.take_of_length_le (by simp; omega)] at hup
    exact hup
theorem Ext_W {b : Nat} {d : Array Int} {h1 : H} (x : Ext h h1) (hb : h.length ≤ b) : Ext h (W h1 b d) := by
  intro j ob e
  have := lt_of_some e
  exact set_ne (x _ _ e) (by omega)
theorem Ext_Kp {b : Nat} {h1 h2 : H} (x : Ext h h1) (hb : h.length ≤ b) (k : Kp b h1 h2) : Ext h h2 := by
  intro j ob e
  have := lt_of_some e
  exact k.2 j ob (by omega) (x _ _ e)
theorem mergeLe (l : List Int) : (l.mergeSort (fun x y => !ltInt y x)).Pairwise (· ≤ ·) := by
  have := List.pairwise_mergeSort (le := fun x y => !ltInt y x) (by
    intro a b c h1 h2
    simp only [ltInt, Bool.not_eq_true', decide_eq_false_iff_not] at *
    omega) (by
    intro a b
    simp only [ltInt, Bool.or_eq_true, Bool.not_eq_true', decide_eq_false_iff_not]
    omega) l
  refine this.imp ?_
  intro a b hab
  simp only [ltInt, Bool.not_eq_true', decide_eq_false_iff_not] at hab
  omega
/-- a list's numbers, rising; new memory, or the list's own -/
def SetP (h : H) (l : List Int) : Value → H → Prop := fun r h' => ∃ s : List Int, Sl h' 1 r (s.map u) ∧ St (· ∈ l) s ∧ s.length ≤ l.length ∧ Ext h h'
set_option maxRecDepth 20000 in
theorem set_ok {v : Value} {l : List Int} (S : Sl h 1 v (l.map u)) (hl : (l.length + 1024) * 8 ≤ 3 * 2 ^ 46) : Cn Try.prog n0 (.func 44) [v] h (SetP h l) := by
  refine F44.enter ?_
  obtain ⟨HP, hHP⟩ : ∃ HP : Value → H → Prop, SetP h l = HP := ⟨_, rfl⟩
  rw [hHP, F44.e0]
  unfold F44.t0
  refine (Right_ok S (by omega)).mono ?_
  rintro _ hx ⟨rfl, ex⟩; subst hx
  cases hr : rightB l with
  | true =>
    simp (disch := first | omega | assumption | exact isC_last | exact isC_app (by first | assumption | exact isC_last | exact isC_app (by first | assumption | exact isC_last)) | (simp [oneC]; done) | fail) only [evs0, evs1, evs2, evs3, evs4, evs5, evs6, evs7, evs8, if_true, if_false, ↓reduceIte, Nat.reduceEqDiff, Nat.reduceAdd, Nat.reduceMul, Nat.reduceSub, Nat.reduceLeDiff, Int.reduceLT, Int.reduceLE, Int.reduceEq, Bool.false_eq_true, Option.bind_some, Option.map_some, List.set_cons_zero, List.set_cons_succ, List.toList_toArray, List.size_toArray, List.length_cons, List.length_nil, List.getElem?_toArray, List.getElem?_cons_zero, List.getElem?_cons_succ, List.drop_zero, List.take_succ_cons, List.take_zero]
    rw [F44.e1]
    unfold F44.t1
    refine Bnd2_i (len_sl S) ?_
    refine Bnd2_i (len_sl S) ?_
    obtain ⟨ad, c, rfl, hc⟩ := Sl_len S
    have e : aSlice Try.prog 22 (.slice ad l.length c) none (some (.int .i64 l.length)) (some (.int .i64 l.length)) h = some (.slice ad l.length l.length) := by
      simp only [aSlice, un_22, sz_23, Option.bind_some, bnd]
      rw [if_pos ⟨by omega, by omega⟩]
      simp only [Option.bind_some, Int.toNat_natCast]
      rw [if_pos ⟨by omega, by omega⟩]
      simp only [Option.bind_some]
      rw [if_pos ⟨Nat.le_refl _, by simp⟩]
      cases ad <;> simp
    refine Bnd_i e ?_
    simp (disch := first | omega | assumption | exact isC_last | exact isC_app (by first | assumption | exact isC_last | exact isC_app (by first | assumption | exact isC_last)) | (simp [oneC]; done) | fail) only [evs0, evs1, evs2, evs3, evs4, evs5, evs6, evs7, evs8, if_true, if_false, ↓reduceIte, Nat.reduceEqDiff, Nat.reduceAdd, Nat.reduceMul, Nat.reduceSub, Nat.reduceLeDiff, Int.reduceLT, Int.reduceLE, Int.reduceEq, Bool.false_eq_true, Option.bind_some, Option.map_some, List.set_cons_zero, List.set_cons_succ, List.toList_toArray, List.size_toArray, List.length_cons, List.length_nil, List.getElem?_toArray, List.getElem?_cons_zero, List.getElem?_cons_succ, List.drop_zero, List.take_succ_cons, List.take_zero]
    rw [← hHP]
    refine ⟨l, ?_, St.self (rightB_iff.1 hr), Nat.le_refl _, Ext.refl _⟩
    obtain ⟨ad', n, c', q1, q2, q3, q4, q5⟩ := S
    cases q1
    exact ⟨_, _, _, rfl, Nat.le_refl _, q3, fun e => by have := q4 e; omega, q5⟩
  | false =>
    simp (disch := first | omega | assumption | exact isC_last | exact isC_app (by first | assumption | exact isC_last | exact isC_app (by first | assumption | exact isC_last)) | (simp [oneC]; done) | fail) only [evs0, evs1, evs2, evs3, evs4, evs5, evs6, evs7, evs8, if_true, if_false, ↓reduceIte, Nat.reduceEqDiff, Nat.reduceAdd, Nat.reduceMul, Nat.reduceSub, Nat.reduceLeDiff, Int.reduceLT, Int.reduceLE, Int.reduceEq, Bool.false_eq_true, Option.bind_some, Option.map_some, List.set_cons_zero, List.set_cons_succ, List.toList_toArray, List.size_toArray, List.length_cons, List.length_nil, List.getElem?_toArray, List.getElem?_cons_zero, List.getElem?_cons_succ, List.drop_zero, List.take_succ_cons, List.take_zero]
    rw [F44.e2]
    unfold F44.t2
    refine (Clone_ok S hl).mono ?_
    rintro _ h1 (⟨rfl, rfl, rfl⟩ | ⟨h2, b, hb1, hb2, X, rfl, rfl⟩)
    · exact absurd hr (by decide)
    · refine (Sort_ok hb2 (n := l.length) (by simp) (by omega)).mono ?_
      rintro _ _ ⟨h3, R, rfl, K3, eR⟩
      have hb3 : b < h3.length := by have := K3.1; omega
      have hRl : R.size = l.length := by
        have := congrArg List.length eR
        rw [List.length_mergeSort] at this
        simpa using this
      refine (Compact_ok hb3 hRl (by omega) (by rw [eR]; exact mergeLe _)).mono ?_
      rintro _ _ ⟨k, D, rfl, hk, hD, rfl, hSt⟩
      simp (disch := first | omega | assumption | exact isC_last | exact isC_app (by first | assumption | exact isC_last | exact isC_app (by first | assumption | exact isC_last)) | (simp [oneC]; done) | fail) only [evs0, evs1, evs2, evs3, evs4, evs5, evs6, evs7, evs8, if_true, if_false, ↓reduceIte, Nat.reduceEqDiff, Nat.reduceAdd, Nat.reduceMul, Nat.reduceSub, Nat.reduceLeDiff, Int.reduceLT, Int.reduceLE, Int.reduceEq, Bool.false_eq_true, Option.bind_some, Option.map_some, List.set_cons_zero, List.set_cons_succ, List.toList_toArray, List.size_toArray, List.length_cons, List.length_nil, List.getElem?_toArray, List.getElem?_cons_zero, List.getElem?_cons_succ, List.drop_zero, List.take_succ_cons, List.take_zero]
      rw [← hHP]
      refine ⟨D.toList.take k, ?_, hSt.congr fun x => ?_, by rw [List.length_take]; omega, Ext_W (Ext_Kp X hb1 K3) hb1⟩
      · refine Sl.mk (o := 0) (W_get hb3) (eS_enc' (by omega)) ?_ (by simp; omega) hk
        rw [List.drop_zero, Nat.mul_one, uv_eq, List.map_take]
      · rw [eR, List.mem_mergeSort]
end Go.Proofs.Ytjdcdabbbmhffaa
