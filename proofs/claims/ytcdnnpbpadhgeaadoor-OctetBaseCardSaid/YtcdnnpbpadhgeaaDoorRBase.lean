/- The reference's Base64 and Unbase64; OctetBase. No condition. -/
import Derived.Test.YtcdnnpbpadhgeaaDoorBase
import Derived.Test.YtcdnnpbpadhgeaaDoorRHex
set_option linter.unusedVariables false
set_option linter.unusedSimpArgs false
namespace Oct
open Go Go.Ev
/-- the first letter of a value -/
theorem letl_find {c : UInt8} : (∀ v, lval c = some v → at' letl v = c.toNat ∧ ∀ i, i < v → at' letl i ≠ c.toNat) ∧ (lval c = none → ∀ i, i < 64 → at' letl i ≠ c.toNat) := by
  have := byte_all (p := fun n => match lval (UInt8.ofNat n) with
    | some v => at' letl v == n && (List.range v).all fun i => at' letl i != n
    | none => (List.range 64).all fun i => at' letl i != n) (by decide +kernel) c.toNat (u8_lt c)
  rw [show UInt8.ofNat c.toNat = c by simp] at this
  constructor
  · intro v hv
    rw [hv] at this
    simp only [Bool.and_eq_true, beq_iff_eq, List.all_eq_true, List.mem_range, bne_iff_ne, ne_eq] at this
    exact this
  · intro hv
    rw [hv] at this
    simp only [List.all_eq_true, List.mem_range, bne_iff_ne, ne_eq] at this
    exact this
def chunkK (p : List UInt8) (k : Nat) : List UInt8 := (List.range 4).map fun t => if p.length < t ∧ t < k then 61 else lett (grp p 3 / 2 ^ (18 - 6 * t) % 64)
theorem chunkK_len {p : List UInt8} {k : Nat} : (chunkK p k).length = 4 := by simp [chunkK]
theorem chunkK_end (p : List UInt8) : chunkK p 4 = chunk p := by
  unfold chunkK chunk
  apply List.map_congr_left
  intro t ht
  have := List.mem_range.1 ht
  by_cases h : p.length < t
  · rw [if_pos ⟨h, this⟩, if_pos h]
  · rw [if_neg (fun x => h x.1), if_neg h]
theorem chunkK_beg (p : List UInt8) : chunkK p (min 3 p.length + 1) = [lett (grp p 3 / 262144 % 64), lett (grp p 3 / 4096 % 64), lett (grp p 3 / 64 % 64), lett (grp p 3 % 64)] := by
  have e : chunkK p (min 3 p.length + 1) = (List.range 4).map fun t => lett (grp p 3 / 2 ^ (18 - 6 * t) % 64) := by
    unfold chunkK
    apply List.map_congr_left
    intro t ht
    rw [if_neg]
    rintro ⟨h1, h2⟩
    omega
  rw [e]
  simp [List.range_succ]
theorem chunkK_step {p : List UInt8} {k : Nat} (h : p.length < k) (hk : k < 4) : (chunkK p k).set k 61 = chunkK p (k + 1) := by
  apply List.ext_getElem
  · simp [chunkK]
  · intro i h1 h2
    rw [chunkK_len] at h2
    rw [List.getElem_set]
    simp only [chunkK, List.getElem_map, List.getElem_range]
    by_cases e : k = i
    · subst e; rw [if_pos rfl, if_pos ⟨h, by omega⟩]
    · rw [if_neg e]
      by_cases h3 : p.length < i ∧ i < k
      · rw [if_pos h3, if_pos ⟨h3.1, by omega⟩]
      · rw [if_neg h3, if_neg (fun x => h3 ⟨x.1, by omega⟩)]
end Oct
namespace Go.Proofs.YtcdnnpbpadhgeaaDoor
open Go.Ev Oct
variable {n0 : Nat} {h : H}
set_option maxRecDepth 20000 in
theorem value_ok {c : UInt8} : Cn Tryd.prog n0 (.func 39) [.int .u8 c.toNat] h (fun v h' => v = .int .i64 (lv c) ∧ h' = h) := by
  refine F39.enter ?_
  obtain ⟨HP, hHP⟩ : ∃ HP : Value → H → Prop, (fun v h' => v = .int .i64 (lv c) ∧ h' = h) = HP := ⟨_, rfl⟩
  have fin : ∀ {k : Int}, lv c = k → HP (.int .i64 k) h := by intro k hk; rw [← hHP, hk]; exact ⟨rfl, rfl⟩
  rw [hHP, F39.e0]
  obtain ⟨f1, f2⟩ := letl_find (c := c)
  unfold F39.t0
  refine Lp_ind (fun m fr hh => hh = h ∧ ∃ j : Nat, fr = [(0, .int .u8 c.toNat), (3, .int .i64 j)] ∧ j ≤ 64 ∧ (∀ i, i < j → at' letl i ≠ c.toNat) ∧ m = 64 - j) (F39.m1 n0) 64 ⟨rfl, 0, by simp (disch := first | omega | assumption | exact isC_last | exact isC_app (by first | assumption | exact isC_last | exact isC_app (by first | assumption | exact isC_last)) | (simp [oneC]; done) | fail) only [evs0, evs1, evs2, evs3, evs4, evs5, evs6, if_true, if_false, ↓reduceIte, Nat.reduceEqDiff, Nat.reduceAdd, Nat.reduceMul, Nat.reduceSub, Nat.reduceLeDiff, Int.reduceLT, Int.reduceLE, Int.reduceEq, Bool.false_eq_true, Option.bind_some, Option.map_some, List.set_cons_zero, List.set_cons_succ, List.toList_toArray, List.size_toArray, List.length_cons, List.length_nil, List.getElem?_toArray, List.getElem?_cons_zero, List.getElem?_cons_succ, List.drop_zero, List.take_succ_cons, List.take_zero, Oct.bl]; rfl, by omega, fun i hi => by omega, rfl⟩ ?_
  rintro m fr hh ⟨eh, j, rfl, hj, hno, rfl⟩
  subst hh
  rw [F39.e1]
  simp (disch := first | omega | assumption | exact isC_last | exact isC_app (by first | assumption | exact isC_last | exact isC_app (by first | assumption | exact isC_last)) | (simp [oneC]; done) | fail) only [F39.t1, evs0, evs1, evs2, evs3, evs4, evs5, evs6, if_true, if_false, ↓reduceIte, Nat.reduceEqDiff, Nat.reduceAdd, Nat.reduceMul, Nat.reduceSub, Nat.reduceLeDiff, Int.reduceLT, Int.reduceLE, Int.reduceEq, Bool.false_eq_true, Option.bind_some, Option.map_some, List.set_cons_zero, List.set_cons_succ, List.toList_toArray, List.size_toArray, List.length_cons, List.length_nil, List.getElem?_toArray, List.getElem?_cons_zero, List.getElem?_cons_succ, List.drop_zero, List.take_succ_cons, List.take_zero, Oct.bl]
  by_cases h5 : j < 64
  · rw [if_pos (by omega), F39.e2]
    unfold F39.t2
    rw [letl_bs]
    refine Bnd_i (ix_bs un_9 (by omega) (by show _ < ((64 : Nat) : Int); omega)) ?_
    rw [Int.toNat_natCast]
    simp (disch := first | omega | assumption | exact isC_last | exact isC_app (by first | assumption | exact isC_last | exact isC_app (by first | assumption | exact isC_last)) | (simp [oneC]; done) | fail) only [evs0, evs1, evs2, evs3, evs4, evs5, evs6, if_true, if_false, ↓reduceIte, Nat.reduceEqDiff, Nat.reduceAdd, Nat.reduceMul, Nat.reduceSub, Nat.reduceLeDiff, Int.reduceLT, Int.reduceLE, Int.reduceEq, Bool.false_eq_true, Option.bind_some, Option.map_some, List.set_cons_zero, List.set_cons_succ, List.toList_toArray, List.size_toArray, List.length_cons, List.length_nil, List.getElem?_toArray, List.getElem?_cons_zero, List.getElem?_cons_succ, List.drop_zero, List.take_succ_cons, List.take_zero, Oct.bl]
    by_cases h6 : at' letl j = c.toNat
    · rw [if_pos (by omega), F39.e3]
      simp (disch := first | omega | assumption | exact isC_last | exact isC_app (by first | assumption | exact isC_last | exact isC_app (by first | assumption | exact isC_last)) | (simp [oneC]; done) | fail) only [F39.t3, evs0, evs1, evs2, evs3, evs4, evs5, evs6, if_true, if_false, ↓reduceIte, Nat.reduceEqDiff, Nat.reduceAdd, Nat.reduceMul, Nat.reduceSub, Nat.reduceLeDiff, Int.reduceLT, Int.reduceLE, Int.reduceEq, Bool.false_eq_true, Option.bind_some, Option.map_some, List.set_cons_zero, List.set_cons_succ, List.toList_toArray, List.size_toArray, List.length_cons, List.length_nil, List.getElem?_toArray, List.getElem?_cons_zero, List.getElem?_cons_succ, List.drop_zero, List.take_succ_cons, List.take_zero, Oct.bl]
      refine fin ?_
      unfold lv
      cases hv : lval c with
      | none => exact absurd h6 (f2 hv j h5)
      | some v =>
        obtain ⟨g1, g2⟩ := f1 v hv
        have : v = j := by
          by_cases e1 : v < j
          · exact absurd g1 (hno v e1)
          · by_cases e2 : j < v
            · exact absurd h6 (g2 j e2)
            · omega
        subst this; rfl
    · rw [if_neg (by omega), F39.e4]
      simp (disch := first | omega | assumption | exact isC_last | exact isC_app (by first | assumption | exact isC_last | exact isC_app (by first | assumption | exact isC_last)) | (simp [oneC]; done) | fail) only [F39.t4, evs0, evs1, evs2, evs3, evs4, evs5, evs6, if_true, if_false, ↓reduceIte, Nat.reduceEqDiff, Nat.reduceAdd, Nat.reduceMul, Nat.reduceSub, Nat.reduceLeDiff, Int.reduceLT, Int.reduceLE, Int.reduceEq, Bool.false_eq_true, Option.bind_some, Option.map_some, List.set_cons_zero, List.set_cons_succ, List.toList_toArray, List.size_toArray, List.length_cons, List.length_nil, List.getElem?_toArray, List.getElem?_cons_zero, List.getElem?_cons_succ, List.drop_zero, List.take_succ_cons, List.take_zero, Oct.bl]
      rw [IntWalk.i64_in _ (by omega)]
      refine ⟨by trivial, 64 - (j + 1), by omega, by trivial, j + 1, by congr 3, by omega, fun i hi => ?_, rfl⟩
      by_cases e : i = j
      · subst e; exact h6
      · exact hno i (by omega)
  · rw [if_neg (by omega), F39.e5]
    simp (disch := first | omega | assumption | exact isC_last | exact isC_app (by first | assumption | exact isC_last | exact isC_app (by first | assumption | exact isC_last)) | (simp [oneC]; done) | fail) only [F39.t5, evs0, evs1, evs2, evs3, evs4, evs5, evs6, if_true, if_false, ↓reduceIte, Nat.reduceEqDiff, Nat.reduceAdd, Nat.reduceMul, Nat.reduceSub, Nat.reduceLeDiff, Int.reduceLT, Int.reduceLE, Int.reduceEq, Bool.false_eq_true, Option.bind_some, Option.map_some, List.set_cons_zero, List.set_cons_succ, List.toList_toArray, List.size_toArray, List.length_cons, List.length_nil, List.getElem?_toArray, List.getElem?_cons_zero, List.getElem?_cons_succ, List.drop_zero, List.take_succ_cons, List.take_zero, Oct.bl]
    refine fin ?_
    unfold lv
    cases hv : lval c with
    | none => rfl
    | some v => exact absurd (f1 v hv).1 (hno v (by have := lval_lt hv; omega))
set_option maxRecDepth 20000 in
theorem RBase64_ok {l : List UInt8} (hl : 4 * (l.length + 2) + 6000 ≤ 9 * 2 ^ 46) : Cn Tryd.prog n0 (.func 25) [.string (bs l)] h (fun v h' => v = .string (bs (b64S l)) ∧ Ext h h') := by
  refine F25.enter ?_
  obtain ⟨HP, hHP⟩ : ∃ HP : Value → H → Prop, (fun v h' => v = .string (bs (b64S l)) ∧ Ext h h') = HP := ⟨_, rfl⟩
  rw [hHP, F25.e0]
  unfold F25.t0
  have hL := (b64S_len l.length (Nat.le_refl _)).1
  refine Lp_ind (fun m fr hh => ∃ (i : Nat) (b : Value) (a : List UInt8), fr = [(0, .string (bs l)), (3, b), (4, .int .i64 i)] ∧ i ≤ l.length + 2 ∧ b64S l = a ++ b64S (l.drop i) ∧ Ac h.length hh b a ∧ Sw h.length h hh ∧ m = l.length + 3 - i) (F25.m1 n0) (l.length + 3)
    ⟨0, .slice none 0 0, [], by simp (disch := first | omega | assumption | exact isC_last | exact isC_app (by first | assumption | exact isC_last | exact isC_app (by first | assumption | exact isC_last)) | (simp [oneC]; done) | fail) only [evs0, evs1, evs2, evs3, evs4, evs5, evs6, if_true, if_false, ↓reduceIte, Nat.reduceEqDiff, Nat.reduceAdd, Nat.reduceMul, Nat.reduceSub, Nat.reduceLeDiff, Int.reduceLT, Int.reduceLE, Int.reduceEq, Bool.false_eq_true, Option.bind_some, Option.map_some, List.set_cons_zero, List.set_cons_succ, List.toList_toArray, List.size_toArray, List.length_cons, List.length_nil, List.getElem?_toArray, List.getElem?_cons_zero, List.getElem?_cons_succ, List.drop_zero, List.take_succ_cons, List.take_zero, Oct.bl]; rfl, by omega, by simp, Ac.nil, Sw.refl, rfl⟩ ?_
  rintro m fr hh ⟨i, b, a, rfl, hi, E, A, S, rfl⟩
  rw [F25.e1]
  simp (disch := first | omega | assumption | exact isC_last | exact isC_app (by first | assumption | exact isC_last | exact isC_app (by first | assumption | exact isC_last)) | (simp [oneC]; done) | fail) only [F25.t1, len_str un_9, evs0, evs1, evs2, evs3, evs4, evs5, evs6, if_true, if_false, ↓reduceIte, Nat.reduceEqDiff, Nat.reduceAdd, Nat.reduceMul, Nat.reduceSub, Nat.reduceLeDiff, Int.reduceLT, Int.reduceLE, Int.reduceEq, Bool.false_eq_true, Option.bind_some, Option.map_some, List.set_cons_zero, List.set_cons_succ, List.toList_toArray, List.size_toArray, List.length_cons, List.length_nil, List.getElem?_toArray, List.getElem?_cons_zero, List.getElem?_cons_succ, List.drop_zero, List.take_succ_cons, List.take_zero, Oct.bl]
  by_cases h5 : i < l.length
  · rw [if_pos (by omega), F25.e2]
    obtain ⟨p, hp⟩ : ∃ p, l.drop i = p := ⟨_, rfl⟩
    rw [hp] at E
    have hpl : p.length = l.length - i := by rw [← hp, List.length_drop]
    have h0 : p ≠ [] := by intro e; rw [e] at hpl; simp at hpl; omega
    rw [b64S_step h0] at E
    have ha : a.length + 4 + 1100 ≤ 3 * 2 ^ 46 := by
      have := congrArg List.length E
      rw [List.length_append, List.length_append, chunk_len] at this
      omega
    have hat : ∀ k, at' p k = at' l (i + k) := by
      intro k
      rw [← hp]; unfold at'
      rw [List.getD_eq_getElem?_getD, List.getElem?_drop, List.getD_eq_getElem?_getD]
    simp (disch := first | omega | assumption | exact isC_last | exact isC_app (by first | assumption | exact isC_last | exact isC_app (by first | assumption | exact isC_last)) | (simp [oneC]; done) | fail) only [F25.t2, evs0, evs1, evs2, evs3, evs4, evs5, evs6, if_true, if_false, ↓reduceIte, Nat.reduceEqDiff, Nat.reduceAdd, Nat.reduceMul, Nat.reduceSub, Nat.reduceLeDiff, Int.reduceLT, Int.reduceLE, Int.reduceEq, Bool.false_eq_true, Option.bind_some, Option.map_some, List.set_cons_zero, List.set_cons_succ, List.toList_toArray, List.size_toArray, List.length_cons, List.length_nil, List.getElem?_toArray, List.getElem?_cons_zero, List.getElem?_cons_succ, List.drop_zero, List.take_succ_cons, List.take_zero, Oct.bl]
    refine Lp_ind (fun m fr h2 => h2 = hh ∧ ∃ j : Nat, fr = [(0, .string (bs l)), (3, b), (4, .int .i64 i), (5, .int .i64 (grp p j)), (6, .int .i64 (min j p.length : Nat)), (7, .int .i64 j)] ∧ j ≤ 3 ∧ m = 3 - j) (F25.m3 n0) 3 ⟨rfl, 0, by simp (disch := first | omega | assumption | exact isC_last | exact isC_app (by first | assumption | exact isC_last | exact isC_app (by first | assumption | exact isC_last)) | (simp [oneC]; done) | fail) only [evs0, evs1, evs2, evs3, evs4, evs5, evs6, if_true, if_false, ↓reduceIte, Nat.reduceEqDiff, Nat.reduceAdd, Nat.reduceMul, Nat.reduceSub, Nat.reduceLeDiff, Int.reduceLT, Int.reduceLE, Int.reduceEq, Bool.false_eq_true, Option.bind_some, Option.map_some, List.set_cons_zero, List.set_cons_succ, List.toList_toArray, List.size_toArray, List.length_cons, List.length_nil, List.getElem?_toArray, List.getElem?_cons_zero, List.getElem?_cons_succ, List.drop_zero, List.take_succ_cons, List.take_zero, Oct.bl]; simp [grp], by omega, rfl⟩ ?_
    rintro m fr h2 ⟨eh, j, rfl, hj, rfl⟩
    subst h2
    rw [F25.e3]
    simp (disch := first | omega | assumption | exact isC_last | exact isC_app (by first | assumption | exact isC_last | exact isC_app (by first | assumption | exact isC_last)) | (simp [oneC]; done) | fail) only [F25.t3, evs0, evs1, evs2, evs3, evs4, evs5, evs6, if_true, if_false, ↓reduceIte, Nat.reduceEqDiff, Nat.reduceAdd, Nat.reduceMul, Nat.reduceSub, Nat.reduceLeDiff, Int.reduceLT, Int.reduceLE, Int.reduceEq, Bool.false_eq_true, Option.bind_some, Option.map_some, List.set_cons_zero, List.set_cons_succ, List.toList_toArray, List.size_toArray, List.length_cons, List.length_nil, List.getElem?_toArray, List.getElem?_cons_zero, List.getElem?_cons_succ, List.drop_zero, List.take_succ_cons, List.take_zero, Oct.bl]
    by_cases h3 : j < 3
    · rw [if_pos (by omega), F25.e4]
      have hg : grp p j < 256 ^ j := grp_lt p j
      have hg2 : grp p j < 65536 := Nat.lt_of_lt_of_le hg (Nat.pow_le_pow_right (by omega) (show j ≤ 2 by omega))
      simp (disch := first | omega | assumption | exact isC_last | exact isC_app (by first | assumption | exact isC_last | exact isC_app (by first | assumption | exact isC_last)) | (simp [oneC]; done) | fail) only [F25.t4, len_str un_9, bQuo, bRem, bShl, bShr, IntWalk.i64_in, IntWalk.u64_in, IntWalk.u8_in, IntWalk.i8_in, IntWalk.u32_in, IntWalk.i32_in, IntWalk.u8_quo, IntWalk.i64_quo, IntWalk.u64_quo, IntWalk.rem_in, evs0, evs1, evs2, evs3, evs4, evs5, evs6, if_true, if_false, ↓reduceIte, Nat.reduceEqDiff, Nat.reduceAdd, Nat.reduceMul, Nat.reduceSub, Nat.reduceLeDiff, Int.reduceLT, Int.reduceLE, Int.reduceEq, Bool.false_eq_true, Option.bind_some, Option.map_some, List.set_cons_zero, List.set_cons_succ, List.toList_toArray, List.size_toArray, List.length_cons, List.length_nil, List.getElem?_toArray, List.getElem?_cons_zero, List.getElem?_cons_succ, List.drop_zero, List.take_succ_cons, List.take_zero, Oct.bl]
      by_cases h4 : i + j < l.length
      · rw [if_pos (by omega), F25.e5]
        unfold F25.t5
        refine Bnd_i bAdd ?_
        rw [IntWalk.i64_in _ (by omega)]
        refine Bnd_i (ix_bs un_9 (by omega) (by omega)) ?_
        rw [show ((i : Int) + j).toNat = i + j by omega, ← hat]
        have hb := at_lt (l := p) (k := j)
        simp (disch := first | omega | assumption | exact isC_last | exact isC_app (by first | assumption | exact isC_last | exact isC_app (by first | assumption | exact isC_last)) | (simp [oneC]; done) | fail) only [bQuo, bRem, bShl, bShr, IntWalk.i64_in, IntWalk.u64_in, IntWalk.u8_in, IntWalk.i8_in, IntWalk.u32_in, IntWalk.i32_in, IntWalk.u8_quo, IntWalk.i64_quo, IntWalk.u64_quo, IntWalk.rem_in, evs0, evs1, evs2, evs3, evs4, evs5, evs6, if_true, if_false, ↓reduceIte, Nat.reduceEqDiff, Nat.reduceAdd, Nat.reduceMul, Nat.reduceSub, Nat.reduceLeDiff, Int.reduceLT, Int.reduceLE, Int.reduceEq, Bool.false_eq_true, Option.bind_some, Option.map_some, List.set_cons_zero, List.set_cons_succ, List.toList_toArray, List.size_toArray, List.length_cons, List.length_nil, List.getElem?_toArray, List.getElem?_cons_zero, List.getElem?_cons_succ, List.drop_zero, List.take_succ_cons, List.take_zero, Oct.bl]
        rw [F25.e6]
        simp (disch := first | omega | assumption | exact isC_last | exact isC_app (by first | assumption | exact isC_last | exact isC_app (by first | assumption | exact isC_last)) | (simp [oneC]; done) | fail) only [F25.t6, evs0, evs1, evs2, evs3, evs4, evs5, evs6, if_true, if_false, ↓reduceIte, Nat.reduceEqDiff, Nat.reduceAdd, Nat.reduceMul, Nat.reduceSub, Nat.reduceLeDiff, Int.reduceLT, Int.reduceLE, Int.reduceEq, Bool.false_eq_true, Option.bind_some, Option.map_some, List.set_cons_zero, List.set_cons_succ, List.toList_toArray, List.size_toArray, List.length_cons, List.length_nil, List.getElem?_toArray, List.getElem?_cons_zero, List.getElem?_cons_succ, List.drop_zero, List.take_succ_cons, List.take_zero, Oct.bl]
        rw [IntWalk.i64_in _ (by omega)]
        refine ⟨by trivial, 3 - (j + 1), by omega, by trivial, j + 1, ?_, by omega, rfl⟩
        have e1 : (256 : Int) * (grp p j : Int) + (at' p j : Int) = ((grp p (j + 1) : Nat) : Int) := by simp only [grp]; omega
        have e2 : ((min j p.length : Nat) : Int) + 1 = ((min (j + 1) p.length : Nat) : Int) := by omega
        rw [e1, e2]
        rfl
      · rw [if_neg (by omega), F25.e6]
        simp (disch := first | omega | assumption | exact isC_last | exact isC_app (by first | assumption | exact isC_last | exact isC_app (by first | assumption | exact isC_last)) | (simp [oneC]; done) | fail) only [F25.t6, evs0, evs1, evs2, evs3, evs4, evs5, evs6, if_true, if_false, ↓reduceIte, Nat.reduceEqDiff, Nat.reduceAdd, Nat.reduceMul, Nat.reduceSub, Nat.reduceLeDiff, Int.reduceLT, Int.reduceLE, Int.reduceEq, Bool.false_eq_true, Option.bind_some, Option.map_some, List.set_cons_zero, List.set_cons_succ, List.toList_toArray, List.size_toArray, List.length_cons, List.length_nil, List.getElem?_toArray, List.getElem?_cons_zero, List.getElem?_cons_succ, List.drop_zero, List.take_succ_cons, List.take_zero, Oct.bl]
        rw [IntWalk.i64_in _ (by omega)]
        refine ⟨by trivial, 3 - (j + 1), by omega, by trivial, j + 1, ?_, by omega, rfl⟩
        have e1 : (256 : Int) * (grp p j : Int) = ((grp p (j + 1) : Nat) : Int) := by simp only [grp]; rw [at_end (by omega)]; omega
        have e2 : min j p.length = min (j + 1) p.length := by omega
        rw [e1, e2]
        rfl
    · rw [if_neg (by omega)]
      obtain rfl : j = 3 := by omega
      rw [F25.e7]
      have hg : grp p 3 < 256 ^ 3 := grp_lt p 3
      have hg' : grp p 3 < 16777216 := hg
      generalize hG : grp p 3 = G at *
      unfold F25.t7
      have q1 : ∀ (d : Int) (d' : Nat), d = d' → ((G : Int).tdiv d) = ((G / d' : Nat) : Int) := by
        intro d d' hd; subst hd; rw [Int.tdiv_eq_ediv_of_nonneg (by omega)]; simp
      have q2 : ∀ {x : Nat}, ((x : Int).tmod 64) = ((x % 64 : Nat) : Int) := by
        intro x; rw [Int.tmod_eq_emod_of_nonneg (by omega)]; omega
      have lt64 : ∀ {x : Nat}, ((x % 64 : Nat) : Int) < (letl.length : Int) := by intro x; show _ < ((64 : Nat) : Int); omega
      rw [letl_bs]
      refine Bnd_i (bQuo (by omega)) ?_
      rw [q1 262144 262144 rfl, IntWalk.i64_in _ (by omega)]
      refine Bnd_i (ix_bs un_9 (by omega) (by show _ < ((64 : Nat) : Int); omega)) ?_
      rw [Int.toNat_natCast, letl_at (by omega)]
      refine Bnd_i (bQuo (by omega)) ?_
      rw [q1 4096 4096 rfl, IntWalk.i64_in _ (by omega)]
      refine Bnd_i (bRem (by omega)) ?_
      rw [q2]
      refine Bnd_i (ix_bs un_9 (by omega) lt64) ?_
      rw [Int.toNat_natCast, letl_at (by omega)]
      refine Bnd_i (bQuo (by omega)) ?_
      rw [q1 64 64 rfl, IntWalk.i64_in _ (by omega)]
      refine Bnd_i (bRem (by omega)) ?_
      rw [q2]
      refine Bnd_i (ix_bs un_9 (by omega) lt64) ?_
      rw [Int.toNat_natCast, letl_at (by omega)]
      refine Bnd_i (bRem (by omega)) ?_
      rw [q2]
      refine Bnd_i (ix_bs un_9 (by omega) lt64) ?_
      rw [Int.toNat_natCast, letl_at (by omega)]
      simp (disch := first | omega | assumption | exact isC_last | exact isC_app (by first | assumption | exact isC_last | exact isC_app (by first | assumption | exact isC_last)) | (simp [oneC]; done) | fail) only [evs0, evs1, evs2, evs3, evs4, evs5, evs6, if_true, if_false, ↓reduceIte, Nat.reduceEqDiff, Nat.reduceAdd, Nat.reduceMul, Nat.reduceSub, Nat.reduceLeDiff, Int.reduceLT, Int.reduceLE, Int.reduceEq, Bool.false_eq_true, Option.bind_some, Option.map_some, List.set_cons_zero, List.set_cons_succ, List.toList_toArray, List.size_toArray, List.length_cons, List.length_nil, List.getElem?_toArray, List.getElem?_cons_zero, List.getElem?_cons_succ, List.drop_zero, List.take_succ_cons, List.take_zero, Oct.bl]
      have hb0 := chunkK_beg p
      rw [hG] at hb0
      rw [show G / 262144 % 64 = G / 262144 by omega] at hb0
      refine Lp_ind (fun m fr h3 => ∃ k : Nat, fr = [(0, .string (bs l)), (3, b), (4, .int .i64 i), (8, .slice (some ⟨hh.length, 0, none⟩) 4 4), (9, .int .i64 k)] ∧ min 3 p.length < k ∧ k ≤ 4 ∧ h3 = hh ++ [.cells true (enc 1 5) ((chunkK p k).map bv)] ∧ m = 4 - k) (F25.m8 n0) (4 - (min 3 p.length + 1))
        ⟨min 3 p.length + 1, ?_, by omega, by omega, by rw [hb0]; rfl, rfl⟩ ?_
      · rw [IntWalk.i64_in _ (by omega)]; simp (disch := first | omega | assumption | exact isC_last | exact isC_app (by first | assumption | exact isC_last | exact isC_app (by first | assumption | exact isC_last)) | (simp [oneC]; done) | fail) only [evs0, evs1, evs2, evs3, evs4, evs5, evs6, if_true, if_false, ↓reduceIte, Nat.reduceEqDiff, Nat.reduceAdd, Nat.reduceMul, Nat.reduceSub, Nat.reduceLeDiff, Int.reduceLT, Int.reduceLE, Int.reduceEq, Bool.false_eq_true, Option.bind_some, Option.map_some, List.set_cons_zero, List.set_cons_succ, List.toList_toArray, List.size_toArray, List.length_cons, List.length_nil, List.getElem?_toArray, List.getElem?_cons_zero, List.getElem?_cons_succ, List.drop_zero, List.take_succ_cons, List.take_zero, Oct.bl]; rfl
      rintro m fr h3 ⟨k, rfl, hk1, hk2, rfl, rfl⟩
      rw [F25.e8]
      simp (disch := first | omega | assumption | exact isC_last | exact isC_app (by first | assumption | exact isC_last | exact isC_app (by first | assumption | exact isC_last)) | (simp [oneC]; done) | fail) only [F25.t8, evs0, evs1, evs2, evs3, evs4, evs5, evs6, if_true, if_false, ↓reduceIte, Nat.reduceEqDiff, Nat.reduceAdd, Nat.reduceMul, Nat.reduceSub, Nat.reduceLeDiff, Int.reduceLT, Int.reduceLE, Int.reduceEq, Bool.false_eq_true, Option.bind_some, Option.map_some, List.set_cons_zero, List.set_cons_succ, List.toList_toArray, List.size_toArray, List.length_cons, List.length_nil, List.getElem?_toArray, List.getElem?_cons_zero, List.getElem?_cons_succ, List.drop_zero, List.take_succ_cons, List.take_zero, Oct.bl]
      by_cases h6 : k < 4
      · rw [if_pos (by omega), F25.e9]
        unfold F25.t9
        refine Bnd_i (a := .pointer (some ⟨hh.length, k, none⟩)) ?_ ?_
        · simp only [aIndexAddr, un31, sz_5, Option.map_some]
          rw [if_pos ⟨by omega, by omega⟩]; simp
        refine Bnd_i (a := hh ++ [.cells true (enc 1 5) ((chunkK p (k + 1)).map bv)]) ?_ ?_
        · simp only [aStore, sz_5, Option.bind_some]
          rw [if_pos (by rfl), show (Value.int .u8 61).cells.toList = [.int .u8 61] from rfl, wr_last (by simp [chunkK_len, oneC]; omega)]
          rw [over_one (by simp [chunkK_len]; omega), ← chunkK_step (show p.length < k by omega) h6, List.map_set]
          rfl
        rw [F25.e10]
        simp (disch := first | omega | assumption | exact isC_last | exact isC_app (by first | assumption | exact isC_last | exact isC_app (by first | assumption | exact isC_last)) | (simp [oneC]; done) | fail) only [F25.t10, evs0, evs1, evs2, evs3, evs4, evs5, evs6, if_true, if_false, ↓reduceIte, Nat.reduceEqDiff, Nat.reduceAdd, Nat.reduceMul, Nat.reduceSub, Nat.reduceLeDiff, Int.reduceLT, Int.reduceLE, Int.reduceEq, Bool.false_eq_true, Option.bind_some, Option.map_some, List.set_cons_zero, List.set_cons_succ, List.toList_toArray, List.size_toArray, List.length_cons, List.length_nil, List.getElem?_toArray, List.getElem?_cons_zero, List.getElem?_cons_succ, List.drop_zero, List.take_succ_cons, List.take_zero, Oct.bl]
        rw [IntWalk.i64_in _ (by omega)]
        exact ⟨by trivial, 4 - (k + 1), by omega, k + 1, by congr 6, by omega, by omega, rfl, rfl⟩
      · rw [if_neg (by omega)]
        obtain rfl : k = 4 := by omega
        rw [chunkK_end, F25.e11]
        unfold F25.t11
        have S1 : Sl (hh ++ [.cells true (enc 1 5) ((chunk p).map bv)]) 1 (.slice (some ⟨hh.length, 0, none⟩) 4 4) ((chunk p).map bv) := Sl.mk (o := 0) get_last (eS_enc' (by omega)) (by rw [List.drop_zero, List.take_of_length_le (by simp [chunk_len])]) (by simp [chunk_len]) (Nat.le_refl _)
        have sr := src1 S1
        rw [List.length_map] at sr
        obtain ⟨v', h4, q3, A2, S2⟩ := (A.ext (Ext.app hh [.cells true (enc 1 5) ((chunk p).map bv)])).append sr (by rw [chunk_len]; omega)
        simp (disch := first | omega | assumption | exact isC_last | exact isC_app (by first | assumption | exact isC_last | exact isC_app (by first | assumption | exact isC_last)) | (simp [oneC]; done) | fail) only [q3, evs0, evs1, evs2, evs3, evs4, evs5, evs6, if_true, if_false, ↓reduceIte, Nat.reduceEqDiff, Nat.reduceAdd, Nat.reduceMul, Nat.reduceSub, Nat.reduceLeDiff, Int.reduceLT, Int.reduceLE, Int.reduceEq, Bool.false_eq_true, Option.bind_some, Option.map_some, List.set_cons_zero, List.set_cons_succ, List.toList_toArray, List.size_toArray, List.length_cons, List.length_nil, List.getElem?_toArray, List.getElem?_cons_zero, List.getElem?_cons_succ, List.drop_zero, List.take_succ_cons, List.take_zero, Oct.bl]
        rw [F25.e12]
        simp (disch := first | omega | assumption | exact isC_last | exact isC_app (by first | assumption | exact isC_last | exact isC_app (by first | assumption | exact isC_last)) | (simp [oneC]; done) | fail) only [F25.t12, evs0, evs1, evs2, evs3, evs4, evs5, evs6, if_true, if_false, ↓reduceIte, Nat.reduceEqDiff, Nat.reduceAdd, Nat.reduceMul, Nat.reduceSub, Nat.reduceLeDiff, Int.reduceLT, Int.reduceLE, Int.reduceEq, Bool.false_eq_true, Option.bind_some, Option.map_some, List.set_cons_zero, List.set_cons_succ, List.toList_toArray, List.size_toArray, List.length_cons, List.length_nil, List.getElem?_toArray, List.getElem?_cons_zero, List.getElem?_cons_succ, List.drop_zero, List.take_succ_cons, List.take_zero, Oct.bl]
        rw [IntWalk.i64_in _ (by omega)]
        refine ⟨by trivial, l.length + 3 - (i + 3), by omega, i + 3, v', _, by congr 5, by omega, ?_, A2, (S.trans (Sw.of_ext (Ext.app _ _))).trans S2, rfl⟩
        rw [E, List.append_assoc, ← hp, List.drop_drop]
  · rw [if_neg (by omega), F25.e13]
    unfold F25.t13
    rw [List.drop_of_length_le (by omega)] at E
    have ea : b64S l = a := by rw [E]; simp [b64S, b64F]
    simp (disch := first | omega | assumption | exact isC_last | exact isC_app (by first | assumption | exact isC_last | exact isC_app (by first | assumption | exact isC_last)) | (simp [oneC]; done) | fail) only [A.str, evs0, evs1, evs2, evs3, evs4, evs5, evs6, if_true, if_false, ↓reduceIte, Nat.reduceEqDiff, Nat.reduceAdd, Nat.reduceMul, Nat.reduceSub, Nat.reduceLeDiff, Int.reduceLT, Int.reduceLE, Int.reduceEq, Bool.false_eq_true, Option.bind_some, Option.map_some, List.set_cons_zero, List.set_cons_succ, List.toList_toArray, List.size_toArray, List.length_cons, List.length_nil, List.getElem?_toArray, List.getElem?_cons_zero, List.getElem?_cons_succ, List.drop_zero, List.take_succ_cons, List.take_zero, Oct.bl]
    rw [← hHP, ea]
    exact ⟨rfl, S.ext⟩
set_option maxRecDepth 20000 in
theorem RUnbase64_ok {l : List UInt8} (hl : l.length + 100 ≤ 2 ^ 47) : Cn Tryd.prog n0 (.func 22) [.string (bs l)] h (fun v h' => v = unbV l ∧ Ext h h') := by
  refine F22.enter ?_
  obtain ⟨HP, hHP⟩ : ∃ HP : Value → H → Prop, (fun v h' => v = unbV l ∧ Ext h h') = HP := ⟨_, rfl⟩
  rw [hHP, F22.e0]
  unfold F22.t0
  have hL := unS_len l 0 0 (by omega)
  have tail : ∀ {a : List UInt8} {b : Value} {h1 : H}, unS 0 0 l = a → Ac h.length h1 b a → Sw h.length h h1 → F22.p6 n0 [(0, .string (bs l)), (4, b)] [] h1 (KFin Tryd.prog [.tmp 2, .tmp 3] HP) := by
    intro a b h1 ea A S
    rw [F22.e6]
    rw [ea] at hL
    unfold F22.t6
    rw [A.str]
    simp (disch := first | omega | assumption | exact isC_last | exact isC_app (by first | assumption | exact isC_last | exact isC_app (by first | assumption | exact isC_last)) | (simp [oneC]; done) | fail) only [evs0, evs1, evs2, evs3, evs4, evs5, evs6, if_true, if_false, ↓reduceIte, Nat.reduceEqDiff, Nat.reduceAdd, Nat.reduceMul, Nat.reduceSub, Nat.reduceLeDiff, Int.reduceLT, Int.reduceLE, Int.reduceEq, Bool.false_eq_true, Option.bind_some, Option.map_some, List.set_cons_zero, List.set_cons_succ, List.toList_toArray, List.size_toArray, List.length_cons, List.length_nil, List.getElem?_toArray, List.getElem?_cons_zero, List.getElem?_cons_succ, List.drop_zero, List.take_succ_cons, List.take_zero, Oct.bl]
    refine (RBase64_ok (by omega)).mono ?_
    rintro _ h3 ⟨rfl, X3⟩
    simp (disch := first | omega | assumption | exact isC_last | exact isC_app (by first | assumption | exact isC_last | exact isC_app (by first | assumption | exact isC_last)) | (simp [oneC]; done) | fail) only [evs0, evs1, evs2, evs3, evs4, evs5, evs6, if_true, if_false, ↓reduceIte, Nat.reduceEqDiff, Nat.reduceAdd, Nat.reduceMul, Nat.reduceSub, Nat.reduceLeDiff, Int.reduceLT, Int.reduceLE, Int.reduceEq, Bool.false_eq_true, Option.bind_some, Option.map_some, List.set_cons_zero, List.set_cons_succ, List.toList_toArray, List.size_toArray, List.length_cons, List.length_nil, List.getElem?_toArray, List.getElem?_cons_zero, List.getElem?_cons_succ, List.drop_zero, List.take_succ_cons, List.take_zero, Oct.bl]
    by_cases hb : b64S a = l
    · rw [if_pos hb, F22.e8]
      simp (disch := first | omega | assumption | exact isC_last | exact isC_app (by first | assumption | exact isC_last | exact isC_app (by first | assumption | exact isC_last)) | (simp [oneC]; done) | fail) only [F22.t8, evs0, evs1, evs2, evs3, evs4, evs5, evs6, if_true, if_false, ↓reduceIte, Nat.reduceEqDiff, Nat.reduceAdd, Nat.reduceMul, Nat.reduceSub, Nat.reduceLeDiff, Int.reduceLT, Int.reduceLE, Int.reduceEq, Bool.false_eq_true, Option.bind_some, Option.map_some, List.set_cons_zero, List.set_cons_succ, List.toList_toArray, List.size_toArray, List.length_cons, List.length_nil, List.getElem?_toArray, List.getElem?_cons_zero, List.getElem?_cons_succ, List.drop_zero, List.take_succ_cons, List.take_zero, Oct.bl]
      rw [← hHP]
      refine ⟨?_, (S.trans (Sw.of_ext X3)).ext⟩
      unfold unbV unb64S
      rw [ea, if_pos hb]
    · rw [if_neg hb, F22.e7]
      simp (disch := first | omega | assumption | exact isC_last | exact isC_app (by first | assumption | exact isC_last | exact isC_app (by first | assumption | exact isC_last)) | (simp [oneC]; done) | fail) only [F22.t7, nil_bs, evs0, evs1, evs2, evs3, evs4, evs5, evs6, if_true, if_false, ↓reduceIte, Nat.reduceEqDiff, Nat.reduceAdd, Nat.reduceMul, Nat.reduceSub, Nat.reduceLeDiff, Int.reduceLT, Int.reduceLE, Int.reduceEq, Bool.false_eq_true, Option.bind_some, Option.map_some, List.set_cons_zero, List.set_cons_succ, List.toList_toArray, List.size_toArray, List.length_cons, List.length_nil, List.getElem?_toArray, List.getElem?_cons_zero, List.getElem?_cons_succ, List.drop_zero, List.take_succ_cons, List.take_zero, Oct.bl]
      rw [← hHP]
      refine ⟨?_, (S.trans (Sw.of_ext X3)).ext⟩
      unfold unbV unb64S
      rw [ea, if_neg hb]
  refine Lp_ind (fun m fr hh => ∃ (j n k : Nat) (b : Value) (a : List UInt8), fr = [(0, .string (bs l)), (4, b), (5, .int .i64 n), (6, .int .i64 k), (7, .int .i64 j)] ∧ j ≤ l.length ∧ n < 65536 ∧ k < 8 ∧ k % 2 = 0 ∧ unS 0 0 l = a ++ unS n k (l.drop j) ∧
      Ac h.length hh b a ∧ Sw h.length h hh ∧ m = l.length - j) (F22.m1 n0) l.length
    ⟨0, 0, 0, .slice none 0 0, [], by simp (disch := first | omega | assumption | exact isC_last | exact isC_app (by first | assumption | exact isC_last | exact isC_app (by first | assumption | exact isC_last)) | (simp [oneC]; done) | fail) only [evs0, evs1, evs2, evs3, evs4, evs5, evs6, if_true, if_false, ↓reduceIte, Nat.reduceEqDiff, Nat.reduceAdd, Nat.reduceMul, Nat.reduceSub, Nat.reduceLeDiff, Int.reduceLT, Int.reduceLE, Int.reduceEq, Bool.false_eq_true, Option.bind_some, Option.map_some, List.set_cons_zero, List.set_cons_succ, List.toList_toArray, List.size_toArray, List.length_cons, List.length_nil, List.getElem?_toArray, List.getElem?_cons_zero, List.getElem?_cons_succ, List.drop_zero, List.take_succ_cons, List.take_zero, Oct.bl]; rfl, by omega, by omega, by omega, by omega, by simp, Ac.nil, Sw.refl, rfl⟩ ?_
  rintro m fr hh ⟨j, n, k, b, a, rfl, hj, hn, hk, hk2, E, A, S, rfl⟩
  rw [F22.e1]
  simp (disch := first | omega | assumption | exact isC_last | exact isC_app (by first | assumption | exact isC_last | exact isC_app (by first | assumption | exact isC_last)) | (simp [oneC]; done) | fail) only [F22.t1, len_str un_9, evs0, evs1, evs2, evs3, evs4, evs5, evs6, if_true, if_false, ↓reduceIte, Nat.reduceEqDiff, Nat.reduceAdd, Nat.reduceMul, Nat.reduceSub, Nat.reduceLeDiff, Int.reduceLT, Int.reduceLE, Int.reduceEq, Bool.false_eq_true, Option.bind_some, Option.map_some, List.set_cons_zero, List.set_cons_succ, List.toList_toArray, List.size_toArray, List.length_cons, List.length_nil, List.getElem?_toArray, List.getElem?_cons_zero, List.getElem?_cons_succ, List.drop_zero, List.take_succ_cons, List.take_zero, Oct.bl]
  by_cases h5 : j < l.length
  · rw [if_pos (by omega), F22.e2]
    unfold F22.t2
    refine Bnd_i (ix_bs un_9 (by omega) (by omega)) ?_
    rw [Int.toNat_natCast]
    refine (value_ok (c := l.getD j 0)).mono ?_
    rintro _ hx ⟨rfl, ex⟩; subst hx
    rw [unS_drop h5] at *
    unfold lv
    cases hv : lval (l.getD j 0) with
    | none =>
      simp only [hv, List.append_nil] at E ⊢
      simp (disch := first | omega | assumption | exact isC_last | exact isC_app (by first | assumption | exact isC_last | exact isC_app (by first | assumption | exact isC_last)) | (simp [oneC]; done) | fail) only [evs0, evs1, evs2, evs3, evs4, evs5, evs6, if_true, if_false, ↓reduceIte, Nat.reduceEqDiff, Nat.reduceAdd, Nat.reduceMul, Nat.reduceSub, Nat.reduceLeDiff, Int.reduceLT, Int.reduceLE, Int.reduceEq, Bool.false_eq_true, Option.bind_some, Option.map_some, List.set_cons_zero, List.set_cons_succ, List.toList_toArray, List.size_toArray, List.length_cons, List.length_nil, List.getElem?_toArray, List.getElem?_cons_zero, List.getElem?_cons_succ, List.drop_zero, List.take_succ_cons, List.take_zero, Oct.bl]
      exact tail E A S
    | some v =>
      simp only [hv] at E ⊢
      have hv2 := lval_lt hv
      simp (disch := first | omega | assumption | exact isC_last | exact isC_app (by first | assumption | exact isC_last | exact isC_app (by first | assumption | exact isC_last)) | (simp [oneC]; done) | fail) only [evs0, evs1, evs2, evs3, evs4, evs5, evs6, if_true, if_false, ↓reduceIte, Nat.reduceEqDiff, Nat.reduceAdd, Nat.reduceMul, Nat.reduceSub, Nat.reduceLeDiff, Int.reduceLT, Int.reduceLE, Int.reduceEq, Bool.false_eq_true, Option.bind_some, Option.map_some, List.set_cons_zero, List.set_cons_succ, List.toList_toArray, List.size_toArray, List.length_cons, List.length_nil, List.getElem?_toArray, List.getElem?_cons_zero, List.getElem?_cons_succ, List.drop_zero, List.take_succ_cons, List.take_zero, Oct.bl]
      rw [if_neg (by omega), F22.e3]
      have hm : (64 * n + v) % 65536 < 65536 := Nat.mod_lt _ (by omega)
      unfold F22.t3
      refine Bnd_i bMul ?_
      rw [IntWalk.i64_in _ (by omega)]
      refine Bnd_i bAdd ?_
      rw [IntWalk.i64_in _ (by omega)]
      refine Bnd_i (bRem (by omega)) ?_
      rw [show ((64 : Int) * (n : Int) + (v : Int)).tmod 65536 = (((64 * n + v) % 65536 : Nat) : Int) by rw [Int.tmod_eq_emod_of_nonneg (by omega)]; omega]
      simp (disch := first | omega | assumption | exact isC_last | exact isC_app (by first | assumption | exact isC_last | exact isC_app (by first | assumption | exact isC_last)) | (simp [oneC]; done) | fail) only [evs0, evs1, evs2, evs3, evs4, evs5, evs6, if_true, if_false, ↓reduceIte, Nat.reduceEqDiff, Nat.reduceAdd, Nat.reduceMul, Nat.reduceSub, Nat.reduceLeDiff, Int.reduceLT, Int.reduceLE, Int.reduceEq, Bool.false_eq_true, Option.bind_some, Option.map_some, List.set_cons_zero, List.set_cons_succ, List.toList_toArray, List.size_toArray, List.length_cons, List.length_nil, List.getElem?_toArray, List.getElem?_cons_zero, List.getElem?_cons_succ, List.drop_zero, List.take_succ_cons, List.take_zero, Oct.bl]
      rw [IntWalk.i64_in _ (by omega)]
      by_cases h8 : 8 ≤ k + 6
      · rw [if_pos (by omega), F22.e4]
        rw [if_pos h8] at E
        simp (disch := first | omega | assumption | exact isC_last | exact isC_app (by first | assumption | exact isC_last | exact isC_app (by first | assumption | exact isC_last)) | (simp [oneC]; done) | fail) only [F22.t4, bQuo, bRem, bShl, bShr, IntWalk.i64_in, IntWalk.u64_in, IntWalk.u8_in, IntWalk.i8_in, IntWalk.u32_in, IntWalk.i32_in, IntWalk.u8_quo, IntWalk.i64_quo, IntWalk.u64_quo, IntWalk.rem_in, evs0, evs1, evs2, evs3, evs4, evs5, evs6, if_true, if_false, ↓reduceIte, Nat.reduceEqDiff, Nat.reduceAdd, Nat.reduceMul, Nat.reduceSub, Nat.reduceLeDiff, Int.reduceLT, Int.reduceLE, Int.reduceEq, Bool.false_eq_true, Option.bind_some, Option.map_some, List.set_cons_zero, List.set_cons_succ, List.toList_toArray, List.size_toArray, List.length_cons, List.length_nil, List.getElem?_toArray, List.getElem?_cons_zero, List.getElem?_cons_succ, List.drop_zero, List.take_succ_cons, List.take_zero, Oct.bl]
        rw [show (k : Int) + 6 - 8 = ((k - 2 : Nat) : Int) by omega, iShr_i64 (by omega)]
        rw [show IntKind.u8.wrap (((64 * n + v) % 65536 / 2 ^ (k - 2) : Nat) : Int) = ((UInt8.ofNat ((64 * n + v) % 65536 / 2 ^ (k - 2))).toNat : Int) by rw [IntKind.wrap_u8, UInt8.toNat_ofNat']; omega]
        obtain ⟨v', h2, q1, A2, S2⟩ := (A.ext (Ext.app hh [.cells true (enc 1 5) [.int .u8 (UInt8.ofNat ((64 * n + v) % 65536 / 2 ^ (k - 2))).toNat]])).append src_one (by have := congrArg List.length E; rw [List.length_append, List.length_cons] at this; simp; omega)
        simp (disch := first | omega | assumption | exact isC_last | exact isC_app (by first | assumption | exact isC_last | exact isC_app (by first | assumption | exact isC_last)) | (simp [oneC]; done) | fail) only [q1, evs0, evs1, evs2, evs3, evs4, evs5, evs6, if_true, if_false, ↓reduceIte, Nat.reduceEqDiff, Nat.reduceAdd, Nat.reduceMul, Nat.reduceSub, Nat.reduceLeDiff, Int.reduceLT, Int.reduceLE, Int.reduceEq, Bool.false_eq_true, Option.bind_some, Option.map_some, List.set_cons_zero, List.set_cons_succ, List.toList_toArray, List.size_toArray, List.length_cons, List.length_nil, List.getElem?_toArray, List.getElem?_cons_zero, List.getElem?_cons_succ, List.drop_zero, List.take_succ_cons, List.take_zero, Oct.bl]
        rw [F22.e5]
        simp (disch := first | omega | assumption | exact isC_last | exact isC_app (by first | assumption | exact isC_last | exact isC_app (by first | assumption | exact isC_last)) | (simp [oneC]; done) | fail) only [F22.t5, evs0, evs1, evs2, evs3, evs4, evs5, evs6, if_true, if_false, ↓reduceIte, Nat.reduceEqDiff, Nat.reduceAdd, Nat.reduceMul, Nat.reduceSub, Nat.reduceLeDiff, Int.reduceLT, Int.reduceLE, Int.reduceEq, Bool.false_eq_true, Option.bind_some, Option.map_some, List.set_cons_zero, List.set_cons_succ, List.toList_toArray, List.size_toArray, List.length_cons, List.length_nil, List.getElem?_toArray, List.getElem?_cons_zero, List.getElem?_cons_succ, List.drop_zero, List.take_succ_cons, List.take_zero, Oct.bl]
        rw [IntWalk.i64_in _ (by omega)]
        exact ⟨by trivial, l.length - (j + 1), by omega, j + 1, (64 * n + v) % 65536, k - 2, v', _, by congr 5, by omega, hm, by omega, by omega, by rw [E]; simp, A2, (S.trans (Sw.of_ext (Ext.app _ _))).trans S2, rfl⟩
      · rw [if_neg (by omega)]
        rw [if_neg h8] at E
        rw [F22.e5]
        simp (disch := first | omega | assumption | exact isC_last | exact isC_app (by first | assumption | exact isC_last | exact isC_app (by first | assumption | exact isC_last)) | (simp [oneC]; done) | fail) only [F22.t5, evs0, evs1, evs2, evs3, evs4, evs5, evs6, if_true, if_false, ↓reduceIte, Nat.reduceEqDiff, Nat.reduceAdd, Nat.reduceMul, Nat.reduceSub, Nat.reduceLeDiff, Int.reduceLT, Int.reduceLE, Int.reduceEq, Bool.false_eq_true, Option.bind_some, Option.map_some, List.set_cons_zero, List.set_cons_succ, List.toList_toArray, List.size_toArray, List.length_cons, List.length_nil, List.getElem?_toArray, List.getElem?_cons_zero, List.getElem?_cons_succ, List.drop_zero, List.take_succ_cons, List.take_zero, Oct.bl]
        rw [IntWalk.i64_in _ (by omega)]
        exact ⟨by trivial, l.length - (j + 1), by omega, j + 1, (64 * n + v) % 65536, k + 6, b, _, by congr 5, by omega, hm, by omega, by omega, E, A, S, rfl⟩
  · rw [if_neg (by omega)]
    rw [List.drop_of_length_le (by omega)] at E
    exact tail (by simpa [unS] using E) A S
set_option maxRecDepth 20000 in
theorem OctetBase_ok {s t : List UInt8} (hs : 4 * (s.length + 2) + 6000 ≤ 9 * 2 ^ 46) (ht : t.length + 100 ≤ 2 ^ 47) : Cn Tryd.prog n0 (.func 6) [.string (bs s), .string (bs t)] h (fun v _ => v = .bool true) := by
  refine F6.enter ?_
  rw [F6.e0]
  unfold F6.t0
  refine (RUnbase64_ok ht).mono ?_
  rintro _ h1 ⟨rfl, _⟩
  unfold unbV
  simp (disch := first | omega | assumption | exact isC_last | exact isC_app (by first | assumption | exact isC_last | exact isC_app (by first | assumption | exact isC_last)) | (simp [oneC]; done) | fail) only [evs0, evs1, evs2, evs3, evs4, evs5, evs6, if_true, if_false, ↓reduceIte, Nat.reduceEqDiff, Nat.reduceAdd, Nat.reduceMul, Nat.reduceSub, Nat.reduceLeDiff, Int.reduceLT, Int.reduceLE, Int.reduceEq, Bool.false_eq_true, Option.bind_some, Option.map_some, List.set_cons_zero, List.set_cons_succ, List.toList_toArray, List.size_toArray, List.length_cons, List.length_nil, List.getElem?_toArray, List.getElem?_cons_zero, List.getElem?_cons_succ, List.drop_zero, List.take_succ_cons, List.take_zero, Oct.bl]
  refine (Unbase64_ok ht).mono ?_
  rintro _ h2 ⟨rfl, _⟩
  unfold unbV
  simp (disch := first | omega | assumption | exact isC_last | exact isC_app (by first | assumption | exact isC_last | exact isC_app (by first | assumption | exact isC_last)) | (simp [oneC]; done) | fail) only [evs0, evs1, evs2, evs3, evs4, evs5, evs6, if_true, if_false, ↓reduceIte, Nat.reduceEqDiff, Nat.reduceAdd, Nat.reduceMul, Nat.reduceSub, Nat.reduceLeDiff, Int.reduceLT, Int.reduceLE, Int.reduceEq, Bool.false_eq_true, Option.bind_some, Option.map_some, List.set_cons_zero, List.set_cons_succ, List.toList_toArray, List.size_toArray, List.length_cons, List.length_nil, List.getElem?_toArray, List.getElem?_cons_zero, List.getElem?_cons_succ, List.drop_zero, List.take_succ_cons, List.take_zero, Oct.bl]
  refine (Base64_ok hs).mono ?_
  rintro _ h3 ⟨rfl, _⟩
  refine (RBase64_ok hs).mono ?_
  rintro _ h4 ⟨rfl, _⟩
  simp (disch := first | omega | assumption | exact isC_last | exact isC_app (by first | assumption | exact isC_last | exact isC_app (by first | assumption | exact isC_last)) | (simp [oneC]; done) | fail) only [evs0, evs1, evs2, evs3, evs4, evs5, evs6, if_true, if_false, ↓reduceIte, Nat.reduceEqDiff, Nat.reduceAdd, Nat.reduceMul, Nat.reduceSub, Nat.reduceLeDiff, Int.reduceLT, Int.reduceLE, Int.reduceEq, Bool.false_eq_true, Option.bind_some, Option.map_some, List.set_cons_zero, List.set_cons_succ, List.toList_toArray, List.size_toArray, List.length_cons, List.length_nil, List.getElem?_toArray, List.getElem?_cons_zero, List.getElem?_cons_succ, List.drop_zero, List.take_succ_cons, List.take_zero, Oct.bl]
  refine Wakes_ok.mono ?_
  rintro _ h5 ⟨rfl, _⟩
  simp (disch := first | omega | assumption | exact isC_last | exact isC_app (by first | assumption | exact isC_last | exact isC_app (by first | assumption | exact isC_last)) | (simp [oneC]; done) | fail) only [evs0, evs1, evs2, evs3, evs4, evs5, evs6, if_true, if_false, ↓reduceIte, Nat.reduceEqDiff, Nat.reduceAdd, Nat.reduceMul, Nat.reduceSub, Nat.reduceLeDiff, Int.reduceLT, Int.reduceLE, Int.reduceEq, Bool.false_eq_true, Option.bind_some, Option.map_some, List.set_cons_zero, List.set_cons_succ, List.toList_toArray, List.size_toArray, List.length_cons, List.length_nil, List.getElem?_toArray, List.getElem?_cons_zero, List.getElem?_cons_succ, List.drop_zero, List.take_succ_cons, List.take_zero, Oct.bl]
end Go.Proofs.YtcdnnpbpadhgeaaDoor
