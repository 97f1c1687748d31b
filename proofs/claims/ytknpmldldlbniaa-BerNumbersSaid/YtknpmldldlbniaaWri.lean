/- The writer: a number's octets, a short header, laying, room. No condition. -/
import Derived.Test.YtknpmldldlbniaaOwn
import Derived.Test.YtknpmldldlbniaaNil
import Derived.Test.YtknpmldldlbniaaBodies
set_option linter.unusedVariables false
set_option linter.unusedSimpArgs false
namespace Ber
open Go Go.Ev
/-- an octet of a number -/
def ob (v : Int) (i : Nat) : UInt8 := UInt8.ofNat (v / (256 ^ i : Nat) % 256).toNat
theorem ob_nat {v : Int} {i : Nat} : ((ob v i).toNat : Int) = v / (256 ^ i : Nat) % 256 := by
  unfold ob
  have h1 := Int.emod_nonneg (v / (256 ^ i : Nat)) (show (256 : Int) ≠ 0 by decide)
  have h2 := Int.emod_lt_of_pos (v / (256 ^ i : Nat)) (show (0 : Int) < 256 by decide)
  rw [UInt8.toNat_ofNat']
  omega
def octs (v : Int) (k : Nat) : List UInt8 := (List.range k).map fun t => ob v (k - 1 - t)
theorem octs_len {v : Int} {k : Nat} : (octs v k).length = k := by simp [octs]
end Ber
namespace Go.Proofs.Ytknpmldldlbniaa
open Go.Ev Ber
theorem shr_ob {v : Int} {i : Nat} (hi : i < 8) : IntKind.u8.wrap (iShr .i64 v (8 * (i : Int))) = ((ob v i).toNat : Int) := by
  rw [ob_nat]
  unfold iShr
  have e : min ((8 * (i : Int))).toNat IntKind.i64.bits = 8 * i := by
    rw [show (8 * (i : Int)).toNat = 8 * i from by omega]; show min (8 * i) 64 = _; omega
  rw [e, show (2 : Int) ^ (8 * i) = ((256 ^ i : Nat) : Int) from by rw [show (256 : Nat) = 2 ^ 8 from rfl, ← Nat.pow_mul, Int.natCast_pow]; rfl, Int.fdiv_eq_ediv_of_nonneg _ (Int.natCast_nonneg _)]
  rw [IntKind.wrap_u8]
set_option maxRecDepth 20000 in
theorem Octs_ok {n0 : Nat} {h : H} {kb vb : Nat} {k : Nat} {v : Int} (hk : 1 ≤ k) (hk8 : k ≤ 8) (Hk : h[kb]? = some (.cells true (enc 0 3) [.int .i64 k])) (Hv : h[vb]? = some (.cells true (enc 0 2) [.int .i64 v])) :
    Cn Try.prog n0 (.func 44) [.pointer (some ⟨kb, 0, none⟩), .pointer (some ⟨vb, 0, none⟩)] h (fun x h' => Fu h' 1 5 x k ((octs v k).map bv) ∧ Ext h h' ∧ h.length ≤ h'.length ∧ ∀ j, isBlk x j → h.length ≤ j) := by
  refine F44.enter ?_
  obtain ⟨HP, hHP⟩ : ∃ HP : Value → H → Prop, (fun x h' => Fu h' 1 5 x k ((octs v k).map bv) ∧ Ext h h' ∧ h.length ≤ h'.length ∧ ∀ j, isBlk x j → h.length ≤ j) = HP := ⟨_, rfl⟩
  rw [hHP, F44.e0]
  simp (disch := first | omega | assumption | exact isC_last | exact isC_app (by first | assumption | exact isC_last | exact isC_app (by first | assumption | exact isC_last)) | (simp [oneC]; done) | fail) only [F44.t0, rd_cells Hk, evs0, evs1, evs2, evs3, evs4, evs5, evs6, evs7, evs8, evs9, evs10, evs11, evs12, evs13, if_true, if_false, ↓reduceIte, Nat.reduceEqDiff, Nat.reduceAdd, Nat.reduceMul, Nat.reduceSub, Nat.reduceLeDiff, Int.reduceLT, Int.reduceLE, Int.reduceEq, Bool.false_eq_true, Option.bind_some, Option.map_some, List.set_cons_zero, List.set_cons_succ, List.toList_toArray, List.size_toArray, List.length_cons, List.length_nil, List.getElem?_toArray, List.getElem?_cons_zero, List.getElem?_cons_succ, List.drop_zero, List.take_succ_cons, List.take_zero]
  rw [IntWalk.i64_in ((k : Int) - 1) (by omega)]
  refine Lp_ind (fun m fr hh => ∃ (j : Nat) (x : Value), fr = [(1, .pointer (some ⟨vb, 0, none⟩)), (3, x), (4, .int .i64 ((k : Int) - 1 - j))] ∧ j ≤ k ∧ Fu hh 1 5 x j (((List.range j).map fun t => ob v (k - 1 - t)).map bv) ∧ Ext h hh ∧ h.length ≤ hh.length ∧ (∀ j, isBlk x j → h.length ≤ j) ∧ m = k - j) (F44.m1 n0) k
    ⟨0, _, by simp (disch := first | omega | assumption | exact isC_last | exact isC_app (by first | assumption | exact isC_last | exact isC_app (by first | assumption | exact isC_last)) | (simp [oneC]; done) | fail) only [evs0, evs1, evs2, evs3, evs4, evs5, evs6, evs7, evs8, evs9, evs10, evs11, evs12, evs13, if_true, if_false, ↓reduceIte, Nat.reduceEqDiff, Nat.reduceAdd, Nat.reduceMul, Nat.reduceSub, Nat.reduceLeDiff, Int.reduceLT, Int.reduceLE, Int.reduceEq, Bool.false_eq_true, Option.bind_some, Option.map_some, List.set_cons_zero, List.set_cons_succ, List.toList_toArray, List.size_toArray, List.length_cons, List.length_nil, List.getElem?_toArray, List.getElem?_cons_zero, List.getElem?_cons_succ, List.drop_zero, List.take_succ_cons, List.take_zero]; simp, by omega, Fu.nil, Ext.refl _, Nat.le_refl _, fun j e => absurd e isBlk_nil, rfl⟩ ?_
  rintro m fr hh ⟨j, x, rfl, hj, F, X, hlen, N, rfl⟩
  rw [F44.e1]
  simp (disch := first | omega | assumption | exact isC_last | exact isC_app (by first | assumption | exact isC_last | exact isC_app (by first | assumption | exact isC_last)) | (simp [oneC]; done) | fail) only [F44.t1, evs0, evs1, evs2, evs3, evs4, evs5, evs6, evs7, evs8, evs9, evs10, evs11, evs12, evs13, if_true, if_false, ↓reduceIte, Nat.reduceEqDiff, Nat.reduceAdd, Nat.reduceMul, Nat.reduceSub, Nat.reduceLeDiff, Int.reduceLT, Int.reduceLE, Int.reduceEq, Bool.false_eq_true, Option.bind_some, Option.map_some, List.set_cons_zero, List.set_cons_succ, List.toList_toArray, List.size_toArray, List.length_cons, List.length_nil, List.getElem?_toArray, List.getElem?_cons_zero, List.getElem?_cons_succ, List.drop_zero, List.take_succ_cons, List.take_zero]
  by_cases hj2 : j < k
  · rw [if_pos (by omega), F44.e2]
    simp (disch := first | omega | assumption | exact isC_last | exact isC_app (by first | assumption | exact isC_last | exact isC_app (by first | assumption | exact isC_last)) | (simp [oneC]; done) | fail) only [F44.t2, rd_cells (X _ _ Hv), bQuo, bRem, bShl, bShr, IntWalk.i64_in, IntWalk.u64_in, IntWalk.u8_in, IntWalk.i8_in, IntWalk.u32_in, IntWalk.i32_in, IntWalk.u8_quo, IntWalk.i64_quo, IntWalk.u64_quo, IntWalk.rem_in, evs0, evs1, evs2, evs3, evs4, evs5, evs6, evs7, evs8, evs9, evs10, evs11, evs12, evs13, if_true, if_false, ↓reduceIte, Nat.reduceEqDiff, Nat.reduceAdd, Nat.reduceMul, Nat.reduceSub, Nat.reduceLeDiff, Int.reduceLT, Int.reduceLE, Int.reduceEq, Bool.false_eq_true, Option.bind_some, Option.map_some, List.set_cons_zero, List.set_cons_succ, List.toList_toArray, List.size_toArray, List.length_cons, List.length_nil, List.getElem?_toArray, List.getElem?_cons_zero, List.getElem?_cons_succ, List.drop_zero, List.take_succ_cons, List.take_zero]
    rw [show (k : Int) - 1 - j = ((k - 1 - j : Nat) : Int) from by omega, shr_ob (by omega)]
    have S1 : Sl (hh ++ [.cells true (enc 1 5) [.int .u8 (ob v (k - 1 - j)).toNat]]) 1 (.slice (some ⟨hh.length, 0, none⟩) 1 1) [.int .u8 (ob v (k - 1 - j)).toNat] := Sl.mk (o := 0) get_last (eS_enc' (by omega)) rfl rfl (Nat.le_refl _)
    have F1 : Fu (hh ++ [.cells true (enc 1 5) [.int .u8 (ob v (k - 1 - j)).toNat]]) 1 5 x j _ := F.keep fun j ob _ e => get_app e
    obtain ⟨x', h', e1, F2, B, N2⟩ := F1.append el_22 sz_5 ze_5 by_5 rfl (by omega) (by omega) (src1 S1) (by simp) rfl (by simp; omega) (by simp; omega)
    refine Bnd2_i e1 ?_
    rw [F44.e3]
    simp (disch := first | omega | assumption | exact isC_last | exact isC_app (by first | assumption | exact isC_last | exact isC_app (by first | assumption | exact isC_last)) | (simp [oneC]; done) | fail) only [F44.t3, evs0, evs1, evs2, evs3, evs4, evs5, evs6, evs7, evs8, evs9, evs10, evs11, evs12, evs13, if_true, if_false, ↓reduceIte, Nat.reduceEqDiff, Nat.reduceAdd, Nat.reduceMul, Nat.reduceSub, Nat.reduceLeDiff, Int.reduceLT, Int.reduceLE, Int.reduceEq, Bool.false_eq_true, Option.bind_some, Option.map_some, List.set_cons_zero, List.set_cons_succ, List.toList_toArray, List.size_toArray, List.length_cons, List.length_nil, List.getElem?_toArray, List.getElem?_cons_zero, List.getElem?_cons_succ, List.drop_zero, List.take_succ_cons, List.take_zero]
    rw [IntWalk.i64_in _ (by omega)]
    refine ⟨trivial, k - (j + 1), by omega, j + 1, x', by congr 5; omega, by omega, ?_, ?_, ?_, ?_, rfl⟩
    · simpa [List.range_succ, bv] using F2
    · intro i o e
      refine B.2 _ _ (fun e2 => ?_) (get_app (X _ _ e))
      have := N _ e2
      have := lt_of_some e
      omega
    · have := B.1
      simp at this
      omega
    · intro i e
      rcases N2 i e with e | e
      · exact N _ e
      · rw [e]; simp; omega
  · rw [if_neg (by omega), F44.e4]
    simp (disch := first | omega | assumption | exact isC_last | exact isC_app (by first | assumption | exact isC_last | exact isC_app (by first | assumption | exact isC_last)) | (simp [oneC]; done) | fail) only [F44.t4, evs0, evs1, evs2, evs3, evs4, evs5, evs6, evs7, evs8, evs9, evs10, evs11, evs12, evs13, if_true, if_false, ↓reduceIte, Nat.reduceEqDiff, Nat.reduceAdd, Nat.reduceMul, Nat.reduceSub, Nat.reduceLeDiff, Int.reduceLT, Int.reduceLE, Int.reduceEq, Bool.false_eq_true, Option.bind_some, Option.map_some, List.set_cons_zero, List.set_cons_succ, List.toList_toArray, List.size_toArray, List.length_cons, List.length_nil, List.getElem?_toArray, List.getElem?_cons_zero, List.getElem?_cons_succ, List.drop_zero, List.take_succ_cons, List.take_zero]
    rw [← hHP]
    obtain rfl : j = k := by omega
    exact ⟨F, X, hlen, N⟩
set_option maxRecDepth 20000 in
theorem Head_small {n0 : Nat} {h : H} {t n : Int} (hn : 0 ≤ n) (hn2 : n < 128) : Cn Try.prog n0 (.func 60) [.int .u8 t, .int .i64 n] h (fun v h' => v = .slice (some ⟨h.length, 0, none⟩) 2 2 ∧ h' = h ++ [.cells true (enc 1 5) [.int .u8 t, .int .u8 n]]) := by
  refine F60.enter ?_
  obtain ⟨HP, hHP⟩ : ∃ HP : Value → H → Prop, (fun v h' => v = .slice (some ⟨h.length, 0, none⟩) 2 2 ∧ h' = h ++ [.cells true (enc 1 5) [.int .u8 t, .int .u8 n]]) = HP := ⟨_, rfl⟩
  rw [hHP, F60.e0]
  simp (disch := first | omega | assumption | exact isC_last | exact isC_app (by first | assumption | exact isC_last | exact isC_app (by first | assumption | exact isC_last)) | (simp [oneC]; done) | fail) only [F60.t0, evs0, evs1, evs2, evs3, evs4, evs5, evs6, evs7, evs8, evs9, evs10, evs11, evs12, evs13, if_true, if_false, ↓reduceIte, Nat.reduceEqDiff, Nat.reduceAdd, Nat.reduceMul, Nat.reduceSub, Nat.reduceLeDiff, Int.reduceLT, Int.reduceLE, Int.reduceEq, Bool.false_eq_true, Option.bind_some, Option.map_some, List.set_cons_zero, List.set_cons_succ, List.toList_toArray, List.size_toArray, List.length_cons, List.length_nil, List.getElem?_toArray, List.getElem?_cons_zero, List.getElem?_cons_succ, List.drop_zero, List.take_succ_cons, List.take_zero]
  rw [if_pos hn2, F60.e1]
  simp (disch := first | omega | assumption | exact isC_last | exact isC_app (by first | assumption | exact isC_last | exact isC_app (by first | assumption | exact isC_last)) | (simp [oneC]; done) | fail) only [F60.t1, bQuo, bRem, bShl, bShr, IntWalk.i64_in, IntWalk.u64_in, IntWalk.u8_in, IntWalk.i8_in, IntWalk.u32_in, IntWalk.i32_in, IntWalk.u8_quo, IntWalk.i64_quo, IntWalk.u64_quo, IntWalk.rem_in, evs0, evs1, evs2, evs3, evs4, evs5, evs6, evs7, evs8, evs9, evs10, evs11, evs12, evs13, if_true, if_false, ↓reduceIte, Nat.reduceEqDiff, Nat.reduceAdd, Nat.reduceMul, Nat.reduceSub, Nat.reduceLeDiff, Int.reduceLT, Int.reduceLE, Int.reduceEq, Bool.false_eq_true, Option.bind_some, Option.map_some, List.set_cons_zero, List.set_cons_succ, List.toList_toArray, List.size_toArray, List.length_cons, List.length_nil, List.getElem?_toArray, List.getElem?_cons_zero, List.getElem?_cons_succ, List.drop_zero, List.take_succ_cons, List.take_zero]
  rw [← hHP]
  exact ⟨rfl, rfl⟩
/-- a writer with nothing open -/
def W0 (h : H) (wb : Nat) (d : Value) (l : List UInt8) : Prop := h[wb]? = some (.cells true (enc 0 85) [d, .slice none 0 0]) ∧ Fu h 1 5 d l.length (l.map bv) ∧ ¬ isBlk d wb
set_option maxRecDepth 20000 in
theorem Fits0_ok {n0 : Nat} {h : H} {wb : Nat} {d : Value} {l : List UInt8} {m : Int} (W : W0 h wb d l) (hm : 0 ≤ m) (hm2 : m ≤ 1000) (hl : l.length ≤ 1000) : Cn Try.prog n0 (.func 57) [.pointer (some ⟨wb, 0, none⟩), .int .i64 m] h (fun v h' => v = .bool true ∧ h' = h) := by
  refine F57.enter ?_
  obtain ⟨HP, hHP⟩ : ∃ HP : Value → H → Prop, (fun v h' => v = .bool true ∧ h' = h) = HP := ⟨_, rfl⟩
  obtain ⟨W1, F, _⟩ := W
  obtain ⟨a, rfl⟩ := F.form
  rw [hHP, F57.e0]
  simp (disch := first | omega | assumption | exact isC_last | exact isC_app (by first | assumption | exact isC_last | exact isC_app (by first | assumption | exact isC_last)) | (simp [oneC]; done) | fail) only [F57.t0, rd_cells W1, evs0, evs1, evs2, evs3, evs4, evs5, evs6, evs7, evs8, evs9, evs10, evs11, evs12, evs13, if_true, if_false, ↓reduceIte, Nat.reduceEqDiff, Nat.reduceAdd, Nat.reduceMul, Nat.reduceSub, Nat.reduceLeDiff, Int.reduceLT, Int.reduceLE, Int.reduceEq, Bool.false_eq_true, Option.bind_some, Option.map_some, List.set_cons_zero, List.set_cons_succ, List.toList_toArray, List.size_toArray, List.length_cons, List.length_nil, List.getElem?_toArray, List.getElem?_cons_zero, List.getElem?_cons_succ, List.drop_zero, List.take_succ_cons, List.take_zero]
  refine Lp_ind (fun m' fr hh => fr = [(0, .pointer (some ⟨wb, 0, none⟩)), (1, .int .i64 m), (5, .int .i64 (-1))] ∧ hh = h) (F57.m1 n0) 0 ⟨by simp (disch := first | omega | assumption | exact isC_last | exact isC_app (by first | assumption | exact isC_last | exact isC_app (by first | assumption | exact isC_last)) | (simp [oneC]; done) | fail) only [evs0, evs1, evs2, evs3, evs4, evs5, evs6, evs7, evs8, evs9, evs10, evs11, evs12, evs13, if_true, if_false, ↓reduceIte, Nat.reduceEqDiff, Nat.reduceAdd, Nat.reduceMul, Nat.reduceSub, Nat.reduceLeDiff, Int.reduceLT, Int.reduceLE, Int.reduceEq, Bool.false_eq_true, Option.bind_some, Option.map_some, List.set_cons_zero, List.set_cons_succ, List.toList_toArray, List.size_toArray, List.length_cons, List.length_nil, List.getElem?_toArray, List.getElem?_cons_zero, List.getElem?_cons_succ, List.drop_zero, List.take_succ_cons, List.take_zero]; rfl, rfl⟩ ?_
  rintro m' fr hh ⟨rfl, rfl⟩
  rw [F57.e1]
  simp (disch := first | omega | assumption | exact isC_last | exact isC_app (by first | assumption | exact isC_last | exact isC_app (by first | assumption | exact isC_last)) | (simp [oneC]; done) | fail) only [F57.t1, evs0, evs1, evs2, evs3, evs4, evs5, evs6, evs7, evs8, evs9, evs10, evs11, evs12, evs13, if_true, if_false, ↓reduceIte, Nat.reduceEqDiff, Nat.reduceAdd, Nat.reduceMul, Nat.reduceSub, Nat.reduceLeDiff, Int.reduceLT, Int.reduceLE, Int.reduceEq, Bool.false_eq_true, Option.bind_some, Option.map_some, List.set_cons_zero, List.set_cons_succ, List.toList_toArray, List.size_toArray, List.length_cons, List.length_nil, List.getElem?_toArray, List.getElem?_cons_zero, List.getElem?_cons_succ, List.drop_zero, List.take_succ_cons, List.take_zero]
  rw [F57.e4]
  simp (disch := first | omega | assumption | exact isC_last | exact isC_app (by first | assumption | exact isC_last | exact isC_app (by first | assumption | exact isC_last)) | (simp [oneC]; done) | fail) only [F57.t4, rd_cells W1, evs0, evs1, evs2, evs3, evs4, evs5, evs6, evs7, evs8, evs9, evs10, evs11, evs12, evs13, if_true, if_false, ↓reduceIte, Nat.reduceEqDiff, Nat.reduceAdd, Nat.reduceMul, Nat.reduceSub, Nat.reduceLeDiff, Int.reduceLT, Int.reduceLE, Int.reduceEq, Bool.false_eq_true, Option.bind_some, Option.map_some, List.set_cons_zero, List.set_cons_succ, List.toList_toArray, List.size_toArray, List.length_cons, List.length_nil, List.getElem?_toArray, List.getElem?_cons_zero, List.getElem?_cons_succ, List.drop_zero, List.take_succ_cons, List.take_zero]
  rw [IntWalk.i64_in _ (by omega)]
  rw [← hHP]
  exact ⟨by congr 1; simp; omega, rfl⟩
set_option maxRecDepth 20000 in
/-- what is laid: items of bytes, onto the slice that stands at a place -/
theorem Lay_loop {n0 : Nat} {h : H} {b1 d : Value} {pb po e : Nat} {cs : List Value} {l0 : List UInt8} {xs : List Value} {ls : List (List UInt8)} {K : KP}
    (S1 : Sl h 1 b1 xs) (hx : xs.length = ls.length) (hxl : xs.length ≤ 2 ^ 40) (hS : ∀ i, i < xs.length → ∃ x, xs[i]? = some x ∧ Sl h 1 x ((ls.getD i []).map bv) ∧ ¬ isBlk x pb ∧ ∀ j, isBlk x j → ¬ isBlk d j)
    (N1 : ¬ isBlk b1 pb) (N2 : ∀ j, isBlk b1 j → ¬ isBlk d j) (HB : h[pb]? = some (.cells true e cs)) (hpo : cs[po]? = some d) (F : Fu h 1 5 d l0.length (l0.map bv)) (Nd : ¬ isBlk d pb) (hl : (l0 ++ ls.flatten).length ≤ 2 ^ 40)
    (k : ∀ d' h', h'[pb]? = some (.cells true e (cs.set po d')) → Fu h' 1 5 d' (l0 ++ ls.flatten).length ((l0 ++ ls.flatten).map bv) → (∀ j ob, h[j]? = some ob → j ≠ pb → ¬ isBlk d j → h'[j]? = some ob) → h.length ≤ h'.length → (∀ j, isBlk d' j → isBlk d j ∨ h.length ≤ j) → K .normal [] [] h') :
    F59.p2 n0 [(1, b1), (4, .pointer (some ⟨pb, po, none⟩))] [] h K := by
  rw [F59.e2]
  obtain ⟨ad, c, rfl, hc⟩ := S1.len1
  simp (disch := first | omega | assumption | exact isC_last | exact isC_app (by first | assumption | exact isC_last | exact isC_app (by first | assumption | exact isC_last)) | (simp [oneC]; done) | fail) only [F59.t2, evs0, evs1, evs2, evs3, evs4, evs5, evs6, evs7, evs8, evs9, evs10, evs11, evs12, evs13, if_true, if_false, ↓reduceIte, Nat.reduceEqDiff, Nat.reduceAdd, Nat.reduceMul, Nat.reduceSub, Nat.reduceLeDiff, Int.reduceLT, Int.reduceLE, Int.reduceEq, Bool.false_eq_true, Option.bind_some, Option.map_some, List.set_cons_zero, List.set_cons_succ, List.toList_toArray, List.size_toArray, List.length_cons, List.length_nil, List.getElem?_toArray, List.getElem?_cons_zero, List.getElem?_cons_succ, List.drop_zero, List.take_succ_cons, List.take_zero]
  have hpo2 : po < cs.length := lt_of_some hpo
  refine Lp_ind (fun m fr hh => ∃ (j : Nat) (d' : Value), fr = [(4, .pointer (some ⟨pb, po, none⟩)), (26, .slice ad xs.length c), (27, .int .i64 xs.length), (28, .int .i64 j)] ∧ j ≤ xs.length ∧ hh[pb]? = some (.cells true e (cs.set po d')) ∧ Fu hh 1 5 d' (l0 ++ (ls.take j).flatten).length ((l0 ++ (ls.take j).flatten).map bv) ∧
      (∀ j ob, h[j]? = some ob → j ≠ pb → ¬ isBlk d j → hh[j]? = some ob) ∧ h.length ≤ hh.length ∧ (∀ j, isBlk d' j → isBlk d j ∨ h.length ≤ j) ∧ m = xs.length - j) (F59.m3 n0) xs.length
    ⟨0, d, by simp (disch := first | omega | assumption | exact isC_last | exact isC_app (by first | assumption | exact isC_last | exact isC_app (by first | assumption | exact isC_last)) | (simp [oneC]; done) | fail) only [evs0, evs1, evs2, evs3, evs4, evs5, evs6, evs7, evs8, evs9, evs10, evs11, evs12, evs13, if_true, if_false, ↓reduceIte, Nat.reduceEqDiff, Nat.reduceAdd, Nat.reduceMul, Nat.reduceSub, Nat.reduceLeDiff, Int.reduceLT, Int.reduceLE, Int.reduceEq, Bool.false_eq_true, Option.bind_some, Option.map_some, List.set_cons_zero, List.set_cons_succ, List.toList_toArray, List.size_toArray, List.length_cons, List.length_nil, List.getElem?_toArray, List.getElem?_cons_zero, List.getElem?_cons_succ, List.drop_zero, List.take_succ_cons, List.take_zero]; rfl, by omega, by rw [HB]; congr 2; exact (by obtain ⟨h1, h2⟩ := List.getElem?_eq_some_iff.1 hpo; subst h2; exact (List.set_getElem_self h1).symm), by simpa using F, fun j ob e _ _ => e, Nat.le_refl _, fun j e => .inl e, rfl⟩ ?_
  rintro m fr hh ⟨j, d', rfl, hj, H1, F', P1, L1, N3, rfl⟩
  rw [F59.e3]
  simp (disch := first | omega | assumption | exact isC_last | exact isC_app (by first | assumption | exact isC_last | exact isC_app (by first | assumption | exact isC_last)) | (simp [oneC]; done) | fail) only [F59.t3, evs0, evs1, evs2, evs3, evs4, evs5, evs6, evs7, evs8, evs9, evs10, evs11, evs12, evs13, if_true, if_false, ↓reduceIte, Nat.reduceEqDiff, Nat.reduceAdd, Nat.reduceMul, Nat.reduceSub, Nat.reduceLeDiff, Int.reduceLT, Int.reduceLE, Int.reduceEq, Bool.false_eq_true, Option.bind_some, Option.map_some, List.set_cons_zero, List.set_cons_succ, List.toList_toArray, List.size_toArray, List.length_cons, List.length_nil, List.getElem?_toArray, List.getElem?_cons_zero, List.getElem?_cons_succ, List.drop_zero, List.take_succ_cons, List.take_zero]
  have hpb := lt_of_some HB
  have Nd' : ¬ isBlk d' pb := fun e => by rcases N3 _ e with e | e; exact Nd e; omega
  by_cases hj2 : j < xs.length
  · rw [if_pos (by omega), F59.e4]
    unfold F59.t4
    obtain ⟨x, hx1, Sx, Nx, Dx⟩ := hS j hj2
    have S1' : Sl hh 1 (.slice ad xs.length c) xs := S1.keep fun i o e1 e2 => P1 _ _ e2 (fun e3 => N1 (e3 ▸ e1)) (N2 _ e1)
    have Sx' : Sl hh 1 x ((ls.getD j []).map bv) := Sx.keep fun i o e1 e2 => P1 _ _ e2 (fun e3 => Nx (e3 ▸ e1)) (Dx _ e1)
    refine Bnd_idx S1' un_44 sz_22 ag_22 (by omega) (show xs[(j : Int).toNat]? = some x from by simpa using hx1) fun p hp => ?_
    simp (disch := first | omega | assumption | exact isC_last | exact isC_app (by first | assumption | exact isC_last | exact isC_app (by first | assumption | exact isC_last)) | (simp [oneC]; done) | fail) only [rd_cells H1, List.getElem?_set_self hpo2, evs0, evs1, evs2, evs3, evs4, evs5, evs6, evs7, evs8, evs9, evs10, evs11, evs12, evs13, if_true, if_false, ↓reduceIte, Nat.reduceEqDiff, Nat.reduceAdd, Nat.reduceMul, Nat.reduceSub, Nat.reduceLeDiff, Int.reduceLT, Int.reduceLE, Int.reduceEq, Bool.false_eq_true, Option.bind_some, Option.map_some, List.set_cons_zero, List.set_cons_succ, List.toList_toArray, List.size_toArray, List.length_cons, List.length_nil, List.getElem?_toArray, List.getElem?_cons_zero, List.getElem?_cons_succ, List.drop_zero, List.take_succ_cons, List.take_zero]
    have ej : (ls.take (j + 1)).flatten = (ls.take j).flatten ++ ls.getD j [] := by
      rw [List.take_add_one, List.flatten_append, List.getElem?_eq_getElem (by omega), Option.toList_some, List.getD_eq_getElem?_getD, List.getElem?_eq_getElem (by omega)]
      simp
    have hle : (l0 ++ (ls.take (j + 1)).flatten).length ≤ (l0 ++ ls.flatten).length := by
      conv => rhs; rw [← List.take_append_drop (j + 1) ls, List.flatten_append, ← List.append_assoc]
      simp
    rw [ej, ← List.append_assoc, List.length_append] at hle
    obtain ⟨d2, h2, e1, F2, B, N4⟩ := F'.append el_22 sz_5 ze_5 by_5 rfl (by omega) (by omega) (src1 Sx') (by simp) (bv_oneC _) (by simp only [List.length_map]; omega) (by simp only [List.length_map]; omega)
    refine Bnd2_i e1 ?_
    obtain ⟨a2, rfl⟩ := F2.form
    have H2 := B.2 _ _ Nd' H1
    simp (disch := first | omega | assumption | exact isC_last | exact isC_app (by first | assumption | exact isC_last | exact isC_app (by first | assumption | exact isC_last)) | (simp [oneC]; done) | fail) only [evs0, evs1, evs2, evs3, evs4, evs5, evs6, evs7, evs8, evs9, evs10, evs11, evs12, evs13, if_true, if_false, ↓reduceIte, Nat.reduceEqDiff, Nat.reduceAdd, Nat.reduceMul, Nat.reduceSub, Nat.reduceLeDiff, Int.reduceLT, Int.reduceLE, Int.reduceEq, Bool.false_eq_true, Option.bind_some, Option.map_some, List.set_cons_zero, List.set_cons_succ, List.toList_toArray, List.size_toArray, List.length_cons, List.length_nil, List.getElem?_toArray, List.getElem?_cons_zero, List.getElem?_cons_succ, List.drop_zero, List.take_succ_cons, List.take_zero]
    refine Bnd_i (wr_cells H2 (by simp; omega) rfl) ?_
    rw [over_one (by simpa using hpo2), List.set_set, F59.e5]
    simp (disch := first | omega | assumption | exact isC_last | exact isC_app (by first | assumption | exact isC_last | exact isC_app (by first | assumption | exact isC_last)) | (simp [oneC]; done) | fail) only [F59.t5, evs0, evs1, evs2, evs3, evs4, evs5, evs6, evs7, evs8, evs9, evs10, evs11, evs12, evs13, if_true, if_false, ↓reduceIte, Nat.reduceEqDiff, Nat.reduceAdd, Nat.reduceMul, Nat.reduceSub, Nat.reduceLeDiff, Int.reduceLT, Int.reduceLE, Int.reduceEq, Bool.false_eq_true, Option.bind_some, Option.map_some, List.set_cons_zero, List.set_cons_succ, List.toList_toArray, List.size_toArray, List.length_cons, List.length_nil, List.getElem?_toArray, List.getElem?_cons_zero, List.getElem?_cons_succ, List.drop_zero, List.take_succ_cons, List.take_zero]
    rw [IntWalk.i64_in _ (by omega)]
    have hb2 := B.1
    have N5 : ∀ i, isBlk (Value.slice a2 ((l0 ++ (ls.take j).flatten).length + (ls.getD j []).length) ((l0 ++ (ls.take j).flatten).length + (ls.getD j []).length)) i → isBlk d i ∨ h.length ≤ i := by
      intro i e
      rcases N4 i (by simpa using e) with e | e
      · exact N3 i e
      · right; omega
    refine ⟨trivial, xs.length - (j + 1), by omega, j + 1, _, rfl, by omega, set_same H2, ?_, ?_, ?_, ?_, rfl⟩
    · rw [ej, ← List.append_assoc, List.length_append, List.map_append]
      have F3 := F2.keep (h' := h2.set pb (Ob.cells true e ((cs.set po d').set po (Value.slice a2 ((l0 ++ (ls.take j).flatten).length + (ls.getD j []).length) ((l0 ++ (ls.take j).flatten).length + (ls.getD j []).length))))) fun i o e1 e2 => set_ne e2 fun e3 => by
        subst e3
        rcases N5 _ (by simpa using e1) with e | e
        · exact Nd e
        · omega
      simpa [List.set_set, Nat.add_assoc] using F3
    · intro i o e1 e2 e3
      refine set_ne (B.2 _ _ (fun e4 => ?_) (P1 _ _ e1 e2 e3)) e2
      have := lt_of_some e1
      rcases N3 _ e4 with e | e
      · exact e3 e
      · omega
    · simp; omega
    · intro i e
      exact N5 i (by simpa using e)
  · rw [if_neg (by omega)]
    obtain rfl : j = xs.length := by omega
    rw [List.take_of_length_le (by omega)] at F'
    exact k d' hh H1 F' P1 L1 N3
theorem sl_two {h : H} {b : Nat} {x y : Value} (hb : h[b]? = some (.cells true (enc 1 22) [x, y])) : Sl h 1 (.slice (some ⟨b, 0, none⟩) 2 2) [x, y] := Sl.mk (o := 0) hb (eS_enc' (by omega)) rfl rfl (Nat.le_refl _)
def Int0Post (h : H) (wb : Nat) (d : Value) (l : List UInt8) (c n v : Int) : Value → H → Prop := fun r h' => r = .int .i64 0 ∧ ∃ d' k, 1 ≤ k ∧ k ≤ 8 ∧ fitsB v k ∧ (∀ j, 1 ≤ j → j < k → ¬ fitsB v j) ∧ W0 h' wb d' (l ++ ([UInt8.ofNat (tagV c n).toNat, UInt8.ofNat k] ++ octs v k)) ∧ (∀ j ob, h[j]? = some ob → j ≠ wb → ¬ isBlk d j → h'[j]? = some ob)
set_option maxRecDepth 20000 in
theorem Int0_ok {n0 : Nat} {h : H} {wb : Nat} {d : Value} {l : List UInt8} {c n v : Int} (W : W0 h wb d l) (hl : l.length ≤ 1000) (ht : tagOk c n = true) (htv : 0 ≤ tagV c n ∧ tagV c n < 256) (hv : -2 ^ 63 ≤ v) (hv2 : v < 2 ^ 63) :
    Cn Try.prog n0 (.func 18) [.pointer (some ⟨wb, 0, none⟩), .int .i8 c, .int .i64 n, .int .i64 v] h (Int0Post h wb d l c n v) := by
  refine F18.enter (Int_loop hv hv2 ?_)
  intro k hk1 hk8 hf hmin
  have hwb := lt_of_some W.1
  have hdl : ∀ j, isBlk d j → j < h.length := by
    intro j e
    rcases W.2.1 with ⟨rfl, _, _⟩ | ⟨b, rfl, _, hb, _⟩
    · exact absurd e isBlk_nil
    · rw [isBlk_some.1 e]; exact lt_of_some hb
  have fin : ∀ d' h', W0 h' wb d' (l ++ ([UInt8.ofNat (tagV c n).toNat, UInt8.ofNat k] ++ octs v k)) → (∀ j ob, h[j]? = some ob → j ≠ wb → ¬ isBlk d j → h'[j]? = some ob) → Int0Post h wb d l c n v (.int .i64 0) h' := fun d' h' a b => ⟨rfl, d', k, hk1, hk8, hf, hmin, a, b⟩
  generalize Int0Post h wb d l c n v = HP at fin
  rw [F18.e3]
  simp (disch := first | omega | assumption | exact isC_last | exact isC_app (by first | assumption | exact isC_last | exact isC_app (by first | assumption | exact isC_last)) | (simp [oneC]; done) | fail) only [F18.t3, evs0, evs1, evs2, evs3, evs4, evs5, evs6, evs7, evs8, evs9, evs10, evs11, evs12, evs13, if_true, if_false, ↓reduceIte, Nat.reduceEqDiff, Nat.reduceAdd, Nat.reduceMul, Nat.reduceSub, Nat.reduceLeDiff, Int.reduceLT, Int.reduceLE, Int.reduceEq, Bool.false_eq_true, Option.bind_some, Option.map_some, List.set_cons_zero, List.set_cons_succ, List.toList_toArray, List.size_toArray, List.length_cons, List.length_nil, List.getElem?_toArray, List.getElem?_cons_zero, List.getElem?_cons_succ, List.drop_zero, List.take_succ_cons, List.take_zero]
  refine F43.enter ?_
  rw [F43.e0, F43.t0]
  refine Tagged_ok.mono ?_
  rintro v' h1 ⟨rfl, rfl⟩
  simp (disch := first | omega | assumption | exact isC_last | exact isC_app (by first | assumption | exact isC_last | exact isC_app (by first | assumption | exact isC_last)) | (simp [oneC]; done) | fail) only [ht, evs0, evs1, evs2, evs3, evs4, evs5, evs6, evs7, evs8, evs9, evs10, evs11, evs12, evs13, if_true, if_false, ↓reduceIte, Nat.reduceEqDiff, Nat.reduceAdd, Nat.reduceMul, Nat.reduceSub, Nat.reduceLeDiff, Int.reduceLT, Int.reduceLE, Int.reduceEq, Bool.false_eq_true, Option.bind_some, Option.map_some, List.set_cons_zero, List.set_cons_succ, List.toList_toArray, List.size_toArray, List.length_cons, List.length_nil, List.getElem?_toArray, List.getElem?_cons_zero, List.getElem?_cons_succ, List.drop_zero, List.take_succ_cons, List.take_zero]
  rw [F43.e2]
  simp (disch := first | omega | assumption | exact isC_last | exact isC_app (by first | assumption | exact isC_last | exact isC_app (by first | assumption | exact isC_last)) | (simp [oneC]; done) | fail) only [F43.t2, Bool.not_true, evs0, evs1, evs2, evs3, evs4, evs5, evs6, evs7, evs8, evs9, evs10, evs11, evs12, evs13, if_true, if_false, ↓reduceIte, Nat.reduceEqDiff, Nat.reduceAdd, Nat.reduceMul, Nat.reduceSub, Nat.reduceLeDiff, Int.reduceLT, Int.reduceLE, Int.reduceEq, Bool.false_eq_true, Option.bind_some, Option.map_some, List.set_cons_zero, List.set_cons_succ, List.toList_toArray, List.size_toArray, List.length_cons, List.length_nil, List.getElem?_toArray, List.getElem?_cons_zero, List.getElem?_cons_succ, List.drop_zero, List.take_succ_cons, List.take_zero]
  rw [F43.e4]
  unfold F43.t4
  refine (Head_small (by omega) (by omega)).mono ?_
  rintro v' h1 ⟨rfl, rfl⟩
  have X1 : Ext h (h ++ [Ob.cells true (enc 0 2) [.int .i64 v]] ++ [.cells true (enc 0 3) [.int .i64 k]] ++ [.cells true (enc 1 5) [.int .u8 (tagV c n), .int .u8 k]]) := (Ext.app _ _).trans ((Ext.app _ _).trans (Ext.app _ _))
  simp (disch := first | omega | assumption | exact isC_last | exact isC_app (by first | assumption | exact isC_last | exact isC_app (by first | assumption | exact isC_last)) | (simp [oneC]; done) | fail) only [evs0, evs1, evs2, evs3, evs4, evs5, evs6, evs7, evs8, evs9, evs10, evs11, evs12, evs13, if_true, if_false, ↓reduceIte, Nat.reduceEqDiff, Nat.reduceAdd, Nat.reduceMul, Nat.reduceSub, Nat.reduceLeDiff, Int.reduceLT, Int.reduceLE, Int.reduceEq, Bool.false_eq_true, Option.bind_some, Option.map_some, List.set_cons_zero, List.set_cons_succ, List.toList_toArray, List.size_toArray, List.length_cons, List.length_nil, List.getElem?_toArray, List.getElem?_cons_zero, List.getElem?_cons_succ, List.drop_zero, List.take_succ_cons, List.take_zero]
  rw [if_neg (by omega), IntWalk.i64_in _ (by omega)]
  have W' : W0 (h ++ [Ob.cells true (enc 0 2) [.int .i64 v]] ++ [.cells true (enc 0 3) [.int .i64 k]] ++ [.cells true (enc 1 5) [.int .u8 (tagV c n), .int .u8 k]]) wb d l := ⟨X1 _ _ W.1, W.2.1.keep fun j ob _ e => X1 _ _ e, W.2.2⟩
  refine (Fits0_ok W' (by omega) (by omega) hl).mono ?_
  rintro v' h1 ⟨rfl, rfl⟩
  simp (disch := first | omega | assumption | exact isC_last | exact isC_app (by first | assumption | exact isC_last | exact isC_app (by first | assumption | exact isC_last)) | (simp [oneC]; done) | fail) only [Bool.not_true, evs0, evs1, evs2, evs3, evs4, evs5, evs6, evs7, evs8, evs9, evs10, evs11, evs12, evs13, if_true, if_false, ↓reduceIte, Nat.reduceEqDiff, Nat.reduceAdd, Nat.reduceMul, Nat.reduceSub, Nat.reduceLeDiff, Int.reduceLT, Int.reduceLE, Int.reduceEq, Bool.false_eq_true, Option.bind_some, Option.map_some, List.set_cons_zero, List.set_cons_succ, List.toList_toArray, List.size_toArray, List.length_cons, List.length_nil, List.getElem?_toArray, List.getElem?_cons_zero, List.getElem?_cons_succ, List.drop_zero, List.take_succ_cons, List.take_zero]
  rw [F43.e6]
  unfold F43.t6
  simp (disch := first | omega | assumption | exact isC_last | exact isC_app (by first | assumption | exact isC_last | exact isC_app (by first | assumption | exact isC_last)) | (simp [oneC]; done) | fail) only [evs0, evs1, evs2, evs3, evs4, evs5, evs6, evs7, evs8, evs9, evs10, evs11, evs12, evs13, if_true, if_false, ↓reduceIte, Nat.reduceEqDiff, Nat.reduceAdd, Nat.reduceMul, Nat.reduceSub, Nat.reduceLeDiff, Int.reduceLT, Int.reduceLE, Int.reduceEq, Bool.false_eq_true, Option.bind_some, Option.map_some, List.set_cons_zero, List.set_cons_succ, List.toList_toArray, List.size_toArray, List.length_cons, List.length_nil, List.getElem?_toArray, List.getElem?_cons_zero, List.getElem?_cons_succ, List.drop_zero, List.take_succ_cons, List.take_zero]
  have Xh : (h ++ [Ob.cells true (enc 0 2) [.int .i64 v]] ++ [.cells true (enc 0 3) [.int .i64 k]] ++ [.cells true (enc 1 5) [.int .u8 (tagV c n), .int .u8 k]])[(h ++ [Ob.cells true (enc 0 2) [.int .i64 v]] ++ [Ob.cells true (enc 0 3) [.int .i64 k]]).length]? = some (.cells true (enc 1 5) [.int .u8 (tagV c n), .int .u8 k]) := get_last
  refine (Octs_ok (k := k) (v := v) hk1 hk8 (get_app get_last) (get_app (get_app get_last))).mono ?_
  rintro x h2 ⟨Fx, X2, hl2, Nx⟩
  have hhb : h.length ≤ (h ++ [Ob.cells true (enc 0 2) [Value.int IntKind.i64 v]] ++ [Ob.cells true (enc 0 3) [Value.int IntKind.i64 ↑k]]).length := by simp
  have hhc : (h ++ [Ob.cells true (enc 0 2) [Value.int IntKind.i64 v]] ++ [Ob.cells true (enc 0 3) [Value.int IntKind.i64 ↑k]]).length < (h ++ [Ob.cells true (enc 0 2) [.int .i64 v]] ++ [Ob.cells true (enc 0 3) [.int .i64 k]] ++ [Ob.cells true (enc 1 5) [.int .u8 (tagV c n), .int .u8 k]]).length := by simp
  generalize (h ++ [Ob.cells true (enc 0 2) [.int .i64 v]] ++ [.cells true (enc 0 3) [.int .i64 k]] ++ [.cells true (enc 1 5) [.int .u8 (tagV c n), .int .u8 k]]) = h1 at X1 X2 W' Xh hl2 Nx hhc
  generalize (h ++ [Ob.cells true (enc 0 2) [Value.int IntKind.i64 v]] ++ [Ob.cells true (enc 0 3) [Value.int IntKind.i64 ↑k]]).length = hb at Xh hhb hhc ⊢
  obtain ⟨ax, rfl⟩ := Fx.form
  simp (disch := first | omega | assumption | exact isC_last | exact isC_app (by first | assumption | exact isC_last | exact isC_app (by first | assumption | exact isC_last)) | (simp [oneC]; done) | fail) only [evs0, evs1, evs2, evs3, evs4, evs5, evs6, evs7, evs8, evs9, evs10, evs11, evs12, evs13, if_true, if_false, ↓reduceIte, Nat.reduceEqDiff, Nat.reduceAdd, Nat.reduceMul, Nat.reduceSub, Nat.reduceLeDiff, Int.reduceLT, Int.reduceLE, Int.reduceEq, Bool.false_eq_true, Option.bind_some, Option.map_some, List.set_cons_zero, List.set_cons_succ, List.toList_toArray, List.size_toArray, List.length_cons, List.length_nil, List.getElem?_toArray, List.getElem?_cons_zero, List.getElem?_cons_succ, List.drop_zero, List.take_succ_cons, List.take_zero]
  have X3 : Ext h (h2 ++ [Ob.cells true (enc 1 22) [.slice (some ⟨hb, 0, none⟩) 2 2, .slice ax k k]]) := X1.trans (X2.trans (Ext.app _ _))
  have hl3 : h1.length ≤ (h2 ++ [Ob.cells true (enc 1 22) [.slice (some ⟨hb, 0, none⟩) 2 2, .slice ax k k]]).length := by simp; omega
  have S1 : Sl (h2 ++ [Ob.cells true (enc 1 22) [.slice (some ⟨hb, 0, none⟩) 2 2, .slice ax k k]]) 1 (.slice (some ⟨h2.length, 0, none⟩) 2 2) [.slice (some ⟨hb, 0, none⟩) 2 2, .slice ax k k] := sl_two get_last
  have Sx := (Fx.sl (by omega)).app [Ob.cells true (enc 1 22) [.slice (some ⟨hb, 0, none⟩) 2 2, .slice ax k k]]
  have Sh : Sl (h2 ++ [Ob.cells true (enc 1 22) [.slice (some ⟨hb, 0, none⟩) 2 2, .slice ax k k]]) 1 (.slice (some ⟨hb, 0, none⟩) 2 2) ([UInt8.ofNat (tagV c n).toNat, UInt8.ofNat k].map bv) := by
    refine Sl.mk (o := 0) (get_app (X2 _ _ Xh)) (eS_enc' (by omega)) ?_ rfl (Nat.le_refl _)
    simp only [List.drop_zero, List.map_cons, List.map_nil, bv, UInt8.toNat_ofNat']
    rw [show (((tagV c n).toNat % 2 ^ 8 : Nat) : Int) = tagV c n from by omega, show ((k % 2 ^ 8 : Nat) : Int) = k from by omega]
    rfl
  have W3 := X3 _ _ W.1
  refine F59.enter ?_
  rw [F59.e0]
  simp (disch := first | omega | assumption | exact isC_last | exact isC_app (by first | assumption | exact isC_last | exact isC_app (by first | assumption | exact isC_last)) | (simp [oneC]; done) | fail) only [F59.t0, rd_cells W3, evs0, evs1, evs2, evs3, evs4, evs5, evs6, evs7, evs8, evs9, evs10, evs11, evs12, evs13, if_true, if_false, ↓reduceIte, Nat.reduceEqDiff, Nat.reduceAdd, Nat.reduceMul, Nat.reduceSub, Nat.reduceLeDiff, Int.reduceLT, Int.reduceLE, Int.reduceEq, Bool.false_eq_true, Option.bind_some, Option.map_some, List.set_cons_zero, List.set_cons_succ, List.toList_toArray, List.size_toArray, List.length_cons, List.length_nil, List.getElem?_toArray, List.getElem?_cons_zero, List.getElem?_cons_succ, List.drop_zero, List.take_succ_cons, List.take_zero]
  refine Lay_loop (ls := [[UInt8.ofNat (tagV c n).toNat, UInt8.ofNat k], octs v k]) S1 rfl (show 2 ≤ 2 ^ 40 by omega) ?_ (fun e => by have := isBlk_some.1 e; simp only at this; omega) (fun j e1 e2 => by have := isBlk_some.1 e1; have := hdl _ e2; simp only at *; omega) W3 rfl (W.2.1.keep fun j ob _ e => X3 _ _ e) W.2.2 (by simp [octs_len]; omega) ?_
  · intro i hi
    match i, hi with
    | 0, _ => exact ⟨_, rfl, Sh, fun e => by have := isBlk_some.1 e; simp only at this; omega, fun j e1 e2 => by have := isBlk_some.1 e1; have := hdl _ e2; simp only at *; omega⟩
    | 1, _ => exact ⟨_, rfl, Sx, fun e => by have := Nx _ e; omega, fun j e1 e2 => by have := Nx _ e1; have := hdl _ e2; omega⟩
  · intro d' h' e1 F' P1 L1 N1
    simp (disch := first | omega | assumption | exact isC_last | exact isC_app (by first | assumption | exact isC_last | exact isC_app (by first | assumption | exact isC_last)) | (simp [oneC]; done) | fail) only [evs0, evs1, evs2, evs3, evs4, evs5, evs6, evs7, evs8, evs9, evs10, evs11, evs12, evs13, if_true, if_false, ↓reduceIte, Nat.reduceEqDiff, Nat.reduceAdd, Nat.reduceMul, Nat.reduceSub, Nat.reduceLeDiff, Int.reduceLT, Int.reduceLE, Int.reduceEq, Bool.false_eq_true, Option.bind_some, Option.map_some, List.set_cons_zero, List.set_cons_succ, List.toList_toArray, List.size_toArray, List.length_cons, List.length_nil, List.getElem?_toArray, List.getElem?_cons_zero, List.getElem?_cons_succ, List.drop_zero, List.take_succ_cons, List.take_zero]
    refine fin d' h' ⟨e1, ?_, ?_⟩ ?_
    · simpa using F'
    · intro e
      rcases N1 _ e with e | e
      · exact W.2.2 e
      · omega
    · intro j ob e1 e2 e3
      exact P1 _ _ (X3 _ _ e1) e2 e3
end Go.Proofs.Ytknpmldldlbniaa
