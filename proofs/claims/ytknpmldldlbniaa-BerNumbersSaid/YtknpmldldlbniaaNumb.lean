/- BerNumbers answers true. No condition. -/
import Derived.Test.YtknpmldldlbniaaWri
import Derived.Test.YtknpmldldlbniaaInts
import Derived.Test.YtknpmldldlbniaaEvLay
set_option linter.unusedVariables false
set_option linter.unusedSimpArgs false
namespace Go.Proofs.Ytknpmldldlbniaa
open Go.Ev Ber
theorem fits_div {v : Int} {k : Nat} (hk : 1 ≤ k) : fitsB v k ↔ -128 ≤ v / ((256 ^ (k - 1) : Nat) : Int) ∧ v / ((256 ^ (k - 1) : Nat) : Int) < 128 := by
  have hp : (0 : Int) < ((256 ^ (k - 1) : Nat) : Int) := by
    have : 0 < 256 ^ (k - 1) := Nat.pow_pos (by omega)
    omega
  rw [Int.le_ediv_iff_mul_le hp, Int.ediv_lt_iff_lt_mul hp]
  unfold fitsB
  have e : (2 : Int) ^ (8 * k - 1) = 128 * ((256 ^ (k - 1) : Nat) : Int) := by
    rw [show (256 : Nat) = 2 ^ 8 from rfl, ← Nat.pow_mul, Int.natCast_pow]
    rw [show (8 * k - 1) = 7 + 8 * (k - 1) from by omega, Int.pow_add]
    rfl
  rw [e]
  omega
theorem octs_get {v : Int} {k j : Nat} (hj : j < k) : (octs v k).getD j 0 = ob v (k - 1 - j) := by
  unfold octs
  rw [List.getD_eq_getElem?_getD, List.getElem?_map, List.getElem?_range hj]
  rfl
theorem div_step {v : Int} {i : Nat} : v / ((256 ^ (i + 1) : Nat) : Int) = v / ((256 ^ i : Nat) : Int) / 256 := by
  rw [Nat.pow_succ, Int.natCast_mul, Int.ediv_ediv_of_nonneg (Int.natCast_nonneg _)]
  rfl
theorem octs_val {v : Int} {k : Nat} (hk : 1 ≤ k) (hf : fitsB v k) : ∀ j, j < k → valS ((octs v k).take (j + 1)) = v / ((256 ^ (k - 1 - j) : Nat) : Int)
  | 0, _ => by
    rw [valS_one, octs_get hk]
    obtain ⟨h1, h2⟩ := (fits_div hk).1 hf
    have e := ob_nat (v := v) (i := k - 1 - 0)
    rw [Nat.sub_zero] at *
    generalize v / ((256 ^ (k - 1) : Nat) : Int) = q at *
    unfold sx
    split <;> omega
  | j + 1, hj => by
    rw [valS_take (by rw [octs_len]; omega), octs_val hk hf j (by omega), octs_get hj]
    rw [show k - 1 - j = (k - 1 - (j + 1)) + 1 from by omega, div_step]
    have e := ob_nat (v := v) (i := k - 1 - (j + 1))
    omega
theorem octs_valS {v : Int} {k : Nat} (hk : 1 ≤ k) (hf : fitsB v k) : valS (octs v k) = v := by
  have := octs_val hk hf (k - 1) (by omega)
  rw [List.take_of_length_le (by rw [octs_len]; omega)] at this
  rw [this]; simp
theorem octs_good {v : Int} {k : Nat} (hk : 1 ≤ k) (hk8 : k ≤ 8) (hf : fitsB v k) (hm : ∀ j, 1 ≤ j → j < k → ¬ fitsB v j) : ¬ badI (octs v k) := by
  unfold badI
  rw [octs_len]
  rintro (h | h | ⟨h1, h2⟩)
  · omega
  · omega
  · rw [octs_get hk, octs_get h1] at h2
    refine hm (k - 1) (by omega) (by omega) ((fits_div (by omega)).2 ?_)
    obtain ⟨g1, g2⟩ := (fits_div hk).1 hf
    have e1 := ob_nat (v := v) (i := k - 1 - 0)
    have e2 := ob_nat (v := v) (i := k - 1 - 1)
    rw [Nat.sub_zero] at *
    rw [show v / ((256 ^ (k - 1) : Nat) : Int) = v / ((256 ^ (k - 1 - 1) : Nat) : Int) / 256 from by rw [← div_step]; congr 3; omega] at e1 g1 g2
    generalize v / ((256 ^ (k - 1 - 1) : Nat) : Int) = q at *
    omega
theorem more_bad {v : Int} {k : Nat} {s : UInt8} (hk : 1 ≤ k) (hk8 : k ≤ 8) (hf : fitsB v k) (hs : s.toNat = if v < 0 then 255 else 0) : badI (s :: octs v k) := by
  unfold badI
  rw [List.length_cons, octs_len]
  right; right
  refine ⟨by omega, ?_⟩
  rw [List.getD_cons_zero, List.getD_cons_succ, octs_get hk]
  obtain ⟨g1, g2⟩ := (fits_div hk).1 hf
  have e1 := ob_nat (v := v) (i := k - 1 - 0)
  rw [Nat.sub_zero] at *
  have hp : (0 : Int) < ((256 ^ (k - 1) : Nat) : Int) := by
    have : 0 < 256 ^ (k - 1) := Nat.pow_pos (by omega)
    omega
  have hsgn : v < 0 ↔ v / ((256 ^ (k - 1) : Nat) : Int) < 0 := by
    rw [Int.ediv_lt_iff_lt_mul hp]; simp
  generalize v / ((256 ^ (k - 1) : Nat) : Int) = q at *
  split at hs <;> omega
set_option maxRecDepth 20000 in
theorem New_ok {n0 : Nat} {h : H} : Cn Try.prog n0 (.func 17) [] h (fun v h' => v = .pointer (some ⟨h.length, 0, none⟩) ∧ h' = h ++ [.cells true (enc 0 85) [.slice none 0 0, .slice none 0 0]]) := by
  refine F17.enter ?_
  obtain ⟨HP, hHP⟩ : ∃ HP : Value → H → Prop, (fun v h' => v = .pointer (some ⟨h.length, 0, none⟩) ∧ h' = h ++ [.cells true (enc 0 85) [.slice none 0 0, .slice none 0 0]]) = HP := ⟨_, rfl⟩
  rw [hHP, F17.e0]
  simp (disch := first | omega | assumption | exact isC_last | exact isC_app (by first | assumption | exact isC_last | exact isC_app (by first | assumption | exact isC_last)) | (simp [oneC]; done) | fail) only [F17.t0, clL, evs0, evs1, evs2, evs3, evs4, evs5, evs6, evs7, evs8, evs9, evs10, evs11, evs12, evs13, if_true, if_false, ↓reduceIte, Nat.reduceEqDiff, Nat.reduceAdd, Nat.reduceMul, Nat.reduceSub, Nat.reduceLeDiff, Int.reduceLT, Int.reduceLE, Int.reduceEq, Bool.false_eq_true, Option.bind_some, Option.map_some, List.set_cons_zero, List.set_cons_succ, List.toList_toArray, List.size_toArray, List.length_cons, List.length_nil, List.getElem?_toArray, List.getElem?_cons_zero, List.getElem?_cons_succ, List.drop_zero, List.take_succ_cons, List.take_zero]
  rw [← hHP]
  exact ⟨rfl, rfl⟩
theorem W0.new {h : H} : W0 (h ++ [.cells true (enc 0 85) [.slice none 0 0, .slice none 0 0]]) h.length (.slice none 0 0) [] := ⟨get_last, Fu.nil, isBlk_nil⟩
set_option maxRecDepth 20000 in
theorem Bytes0_ok {n0 : Nat} {h : H} {wb : Nat} {d : Value} {l : List UInt8} (W : W0 h wb d l) (hl : l.length ≤ 2 ^ 40) : Cn Try.prog n0 (.func 19) [.pointer (some ⟨wb, 0, none⟩)] h (fun r h' => ∃ x, r = .tuple #[x, .int .i64 0] ∧ Fu h' 1 5 x l.length (l.map bv) ∧ Ext h h') := by
  refine F19.enter ?_
  obtain ⟨HP, hHP⟩ : ∃ HP : Value → H → Prop, (fun r h' => ∃ x, r = .tuple #[x, .int .i64 0] ∧ Fu h' 1 5 x l.length (l.map bv) ∧ Ext h h') = HP := ⟨_, rfl⟩
  obtain ⟨W1, F, _⟩ := W
  rw [hHP, F19.e0]
  simp (disch := first | omega | assumption | exact isC_last | exact isC_app (by first | assumption | exact isC_last | exact isC_app (by first | assumption | exact isC_last)) | (simp [oneC]; done) | fail) only [F19.t0, evs0, evs1, evs2, evs3, evs4, evs5, evs6, evs7, evs8, evs9, evs10, evs11, evs12, evs13, if_true, if_false, ↓reduceIte, Nat.reduceEqDiff, Nat.reduceAdd, Nat.reduceMul, Nat.reduceSub, Nat.reduceLeDiff, Int.reduceLT, Int.reduceLE, Int.reduceEq, Bool.false_eq_true, Option.bind_some, Option.map_some, List.set_cons_zero, List.set_cons_succ, List.toList_toArray, List.size_toArray, List.length_cons, List.length_nil, List.getElem?_toArray, List.getElem?_cons_zero, List.getElem?_cons_succ, List.drop_zero, List.take_succ_cons, List.take_zero]
  rw [F19.e2]
  simp (disch := first | omega | assumption | exact isC_last | exact isC_app (by first | assumption | exact isC_last | exact isC_app (by first | assumption | exact isC_last)) | (simp [oneC]; done) | fail) only [F19.t2, rd_cells W1, evs0, evs1, evs2, evs3, evs4, evs5, evs6, evs7, evs8, evs9, evs10, evs11, evs12, evs13, if_true, if_false, ↓reduceIte, Nat.reduceEqDiff, Nat.reduceAdd, Nat.reduceMul, Nat.reduceSub, Nat.reduceLeDiff, Int.reduceLT, Int.reduceLE, Int.reduceEq, Bool.false_eq_true, Option.bind_some, Option.map_some, List.set_cons_zero, List.set_cons_succ, List.toList_toArray, List.size_toArray, List.length_cons, List.length_nil, List.getElem?_toArray, List.getElem?_cons_zero, List.getElem?_cons_succ, List.drop_zero, List.take_succ_cons, List.take_zero]
  rw [F19.e4]
  simp (disch := first | omega | assumption | exact isC_last | exact isC_app (by first | assumption | exact isC_last | exact isC_app (by first | assumption | exact isC_last)) | (simp [oneC]; done) | fail) only [F19.t4, rd_cells W1, evs0, evs1, evs2, evs3, evs4, evs5, evs6, evs7, evs8, evs9, evs10, evs11, evs12, evs13, if_true, if_false, ↓reduceIte, Nat.reduceEqDiff, Nat.reduceAdd, Nat.reduceMul, Nat.reduceSub, Nat.reduceLeDiff, Int.reduceLT, Int.reduceLE, Int.reduceEq, Bool.false_eq_true, Option.bind_some, Option.map_some, List.set_cons_zero, List.set_cons_succ, List.toList_toArray, List.size_toArray, List.length_cons, List.length_nil, List.getElem?_toArray, List.getElem?_cons_zero, List.getElem?_cons_succ, List.drop_zero, List.take_succ_cons, List.take_zero]
  rw [if_neg (by omega)]
  obtain ⟨x, h', e1, F2, B, _⟩ := (Fu.nil (h := h) (s := 1) (E := 5)).append el_22 sz_5 ze_5 by_5 rfl (by omega) (by omega) (src1 (F.sl (by omega))) (by simp) (bv_oneC _) (by simp; omega) (by simp; omega)
  refine Bnd2_i e1 ?_
  rw [← hHP]
  exact ⟨x, rfl, by simpa using F2, fun j o e => B.2 _ _ isBlk_nil e⟩
theorem tag02 : tagOk 0 2 = true ∧ tagV 0 2 = 2 := by decide +kernel
set_option maxRecDepth 20000 in
theorem BerNumbers_ok {n0 : Nat} {h : H} {v : Int} (hv : -2 ^ 63 ≤ v) (hv2 : v < 2 ^ 63) : Cn Try.prog n0 (.func 4) [.int .i64 v] h (fun v _ => v = .bool true) := by
  refine F4.enter ?_
  obtain ⟨HP, hHP⟩ : ∃ HP : Value → H → Prop, (fun v _ => v = .bool true) = HP := ⟨_, rfl⟩
  rw [hHP, F4.e0]
  unfold F4.t0
  refine New_ok.mono ?_
  rintro r h1 ⟨rfl, rfl⟩
  refine Works_ok.mono ?_
  rintro r h1 ⟨rfl, rfl⟩
  simp (disch := first | omega | assumption | exact isC_last | exact isC_app (by first | assumption | exact isC_last | exact isC_app (by first | assumption | exact isC_last)) | (simp [oneC]; done) | fail) only [Bool.not_true, evs0, evs1, evs2, evs3, evs4, evs5, evs6, evs7, evs8, evs9, evs10, evs11, evs12, evs13, if_true, if_false, ↓reduceIte, Nat.reduceEqDiff, Nat.reduceAdd, Nat.reduceMul, Nat.reduceSub, Nat.reduceLeDiff, Int.reduceLT, Int.reduceLE, Int.reduceEq, Bool.false_eq_true, Option.bind_some, Option.map_some, List.set_cons_zero, List.set_cons_succ, List.toList_toArray, List.size_toArray, List.length_cons, List.length_nil, List.getElem?_toArray, List.getElem?_cons_zero, List.getElem?_cons_succ, List.drop_zero, List.take_succ_cons, List.take_zero]
  refine (Int0_ok (W0.new (h := h)) (by simp) tag02.1 (by rw [tag02.2]; omega) hv hv2).mono ?_
  rintro r h3 ⟨rfl, d', k, hk1, hk8, hf, hmin, W, P⟩
  simp (disch := first | omega | assumption | exact isC_last | exact isC_app (by first | assumption | exact isC_last | exact isC_app (by first | assumption | exact isC_last)) | (simp [oneC]; done) | fail) only [evs0, evs1, evs2, evs3, evs4, evs5, evs6, evs7, evs8, evs9, evs10, evs11, evs12, evs13, if_true, if_false, ↓reduceIte, Nat.reduceEqDiff, Nat.reduceAdd, Nat.reduceMul, Nat.reduceSub, Nat.reduceLeDiff, Int.reduceLT, Int.reduceLE, Int.reduceEq, Bool.false_eq_true, Option.bind_some, Option.map_some, List.set_cons_zero, List.set_cons_succ, List.toList_toArray, List.size_toArray, List.length_cons, List.length_nil, List.getElem?_toArray, List.getElem?_cons_zero, List.getElem?_cons_succ, List.drop_zero, List.take_succ_cons, List.take_zero]
  rw [F4.e2]
  unfold F4.t2
  refine (Bytes0_ok W (by simp [octs_len]; omega)).mono ?_
  rintro r h4 ⟨x, rfl, F, X⟩
  rw [List.nil_append, tag02.2] at F
  have eL : ([UInt8.ofNat (2 : Int).toNat, UInt8.ofNat k] ++ octs v k).length = k + 2 := by simp [octs_len]
  have e1 : (([UInt8.ofNat (2 : Int).toNat, UInt8.ofNat k] ++ octs v k).getD 1 0).toNat = k := by
    simp only [List.cons_append, List.getD_cons_succ, List.getD_cons_zero, UInt8.toNat_ofNat']
    omega
  have eD : ([UInt8.ofNat (2 : Int).toNat, UInt8.ofNat k] ++ octs v k).drop 2 = octs v k := rfl
  generalize ([UInt8.ofNat (2 : Int).toNat, UInt8.ofNat k] ++ octs v k) = L at F eL e1 eD
  have S := F.sl (by omega)
  obtain ⟨a, rfl⟩ := F.form
  simp (disch := first | omega | assumption | exact isC_last | exact isC_app (by first | assumption | exact isC_last | exact isC_app (by first | assumption | exact isC_last)) | (simp [oneC]; done) | fail) only [evs0, evs1, evs2, evs3, evs4, evs5, evs6, evs7, evs8, evs9, evs10, evs11, evs12, evs13, if_true, if_false, ↓reduceIte, Nat.reduceEqDiff, Nat.reduceAdd, Nat.reduceMul, Nat.reduceSub, Nat.reduceLeDiff, Int.reduceLT, Int.reduceLE, Int.reduceEq, Bool.false_eq_true, Option.bind_some, Option.map_some, List.set_cons_zero, List.set_cons_succ, List.toList_toArray, List.size_toArray, List.length_cons, List.length_nil, List.getElem?_toArray, List.getElem?_cons_zero, List.getElem?_cons_succ, List.drop_zero, List.take_succ_cons, List.take_zero]
  rw [if_neg (by omega), if_neg (by omega)]
  refine Bnd_idx S un_22 sz_5 ag_5 (by decide) (getBv (show (1 : Int).toNat < L.length from by simp; omega)) fun p hp => ?_
  rw [show (1 : Int).toNat = 1 from rfl, e1]
  simp (disch := first | omega | assumption | exact isC_last | exact isC_app (by first | assumption | exact isC_last | exact isC_app (by first | assumption | exact isC_last)) | (simp [oneC]; done) | fail) only [evs0, evs1, evs2, evs3, evs4, evs5, evs6, evs7, evs8, evs9, evs10, evs11, evs12, evs13, if_true, if_false, ↓reduceIte, Nat.reduceEqDiff, Nat.reduceAdd, Nat.reduceMul, Nat.reduceSub, Nat.reduceLeDiff, Int.reduceLT, Int.reduceLE, Int.reduceEq, Bool.false_eq_true, Option.bind_some, Option.map_some, List.set_cons_zero, List.set_cons_succ, List.toList_toArray, List.size_toArray, List.length_cons, List.length_nil, List.getElem?_toArray, List.getElem?_cons_zero, List.getElem?_cons_succ, List.drop_zero, List.take_succ_cons, List.take_zero]
  rw [IntWalk.i64_in _ (by omega), IntWalk.i64_in _ (by omega), if_pos (by omega), F4.e4]
  simp (disch := first | omega | assumption | exact isC_last | exact isC_app (by first | assumption | exact isC_last | exact isC_app (by first | assumption | exact isC_last)) | (simp [oneC]; done) | fail) only [F4.t4, evs0, evs1, evs2, evs3, evs4, evs5, evs6, evs7, evs8, evs9, evs10, evs11, evs12, evs13, if_true, if_false, ↓reduceIte, Nat.reduceEqDiff, Nat.reduceAdd, Nat.reduceMul, Nat.reduceSub, Nat.reduceLeDiff, Int.reduceLT, Int.reduceLE, Int.reduceEq, Bool.false_eq_true, Option.bind_some, Option.map_some, List.set_cons_zero, List.set_cons_succ, List.toList_toArray, List.size_toArray, List.length_cons, List.length_nil, List.getElem?_toArray, List.getElem?_cons_zero, List.getElem?_cons_succ, List.drop_zero, List.take_succ_cons, List.take_zero]
  refine (Int_ok (t := ⟨0, false, 2, 2, L.length⟩) S).mono ?_
  rintro r h5 ⟨⟨u, rfl⟩, rfl⟩
  have eI : intS L ⟨0, false, 2, 2, L.length⟩ = (v, 0) := by
    have eE : bodyE L.length ⟨0, false, 2, 2, L.length⟩ = 0 := by
      unfold bodyE
      rw [if_neg (by simp only; omega), if_neg (by simp)]
    have eB : bodyB L ⟨0, false, 2, 2, L.length⟩ = octs v k := by
      unfold bodyB
      rw [if_pos eE]
      simp only
      rw [show (2 : Int).toNat = 2 from rfl, eD]
      exact List.take_of_length_le (by rw [octs_len]; omega)
    unfold intS
    rw [if_neg (fun h => h eE), eB, if_neg (octs_good hk1 hk8 hf hmin), octs_valS hk1 hf]
  rw [eI]
  have last : ∀ s : UInt8, s.toNat = (if v < 0 then 255 else 0) → F4.p6 n0 [(0, Value.int IntKind.i64 v), (4, Value.slice a L.length L.length), (6, .int .i64 v), (7, .int .i64 0), (8, Value.int IntKind.u8 s.toNat)] [] (h4 ++ u) (KFin Try.prog [ResultVar.tmp 2] HP) := by
    intro s hs
    replace S := S.app u
    generalize h4 ++ u = h6 at S
    clear X W P F hp
    rw [F4.e6]
    simp (disch := first | omega | assumption | exact isC_last | exact isC_app (by first | assumption | exact isC_last | exact isC_app (by first | assumption | exact isC_last)) | (simp [oneC]; done) | fail) only [F4.t6, evs0, evs1, evs2, evs3, evs4, evs5, evs6, evs7, evs8, evs9, evs10, evs11, evs12, evs13, if_true, if_false, ↓reduceIte, Nat.reduceEqDiff, Nat.reduceAdd, Nat.reduceMul, Nat.reduceSub, Nat.reduceLeDiff, Int.reduceLT, Int.reduceLE, Int.reduceEq, Bool.false_eq_true, Option.bind_some, Option.map_some, List.set_cons_zero, List.set_cons_succ, List.toList_toArray, List.size_toArray, List.length_cons, List.length_nil, List.getElem?_toArray, List.getElem?_cons_zero, List.getElem?_cons_succ, List.drop_zero, List.take_succ_cons, List.take_zero]
    have S1 : Sl (h6 ++ [.cells true (enc 1 5) [.int .u8 s.toNat]]) 1 (.slice (some ⟨h6.length, 0, none⟩) 1 1) [.int .u8 s.toNat] := Sl.mk (o := 0) get_last (eS_enc' (by omega)) rfl rfl (Nat.le_refl _)
    replace S := S.app [.cells true (enc 1 5) [.int .u8 s.toNat]]
    generalize (h6 ++ [Ob.cells true (enc 1 5) [.int .u8 s.toNat]]) = h7 at S S1 ⊢
    obtain ⟨x2, h8, e8, F2, B2, N2⟩ := (Fu.nil (h := h7) (s := 1) (E := 5)).append el_22 sz_5 ze_5 by_5 rfl (by omega) (by omega) (src1 S1) (by simp) rfl (by simp) (by simp)
    refine Bnd2_i e8 ?_
    replace S := S.ext (h' := h8) fun j o e => B2.2 _ _ isBlk_nil e
    refine Bnd_sub1 (lo := some 2) (hi := none) (kk := .i64) (kk' := .i64) S un_22 sz_5 (by decide) (by simp only [Option.getD_some, Option.getD_none, List.length_map]; omega) (by simp only [Option.getD_none, List.length_map]; omega) fun w Sw => ?_
    simp only [Option.getD_some, Option.getD_none, List.length_map] at Sw
    rw [← List.map_drop, ← List.map_take, show (2 : Int).toNat = 2 from rfl, eD, List.take_of_length_le (by rw [octs_len]; omega)] at Sw
    obtain ⟨x3, h9, e9, F3, B3, N3⟩ := F2.append el_22 sz_5 ze_5 by_5 rfl (by omega) (by omega) (src1 Sw) (by simp) (bv_oneC _) (by simp [octs_len]; omega) (by simp [octs_len]; omega)
    refine Bnd2_i e9 ?_
    have S3 : Sl h9 1 x3 ((s :: octs v k).map bv) := F3.sl (by omega)
    obtain ⟨ad, c, rfl, hc⟩ := S3.lenB
    simp (disch := first | omega | assumption | exact isC_last | exact isC_app (by first | assumption | exact isC_last | exact isC_app (by first | assumption | exact isC_last)) | (simp [oneC]; done) | fail) only [evs0, evs1, evs2, evs3, evs4, evs5, evs6, evs7, evs8, evs9, evs10, evs11, evs12, evs13, if_true, if_false, ↓reduceIte, Nat.reduceEqDiff, Nat.reduceAdd, Nat.reduceMul, Nat.reduceSub, Nat.reduceLeDiff, Int.reduceLT, Int.reduceLE, Int.reduceEq, Bool.false_eq_true, Option.bind_some, Option.map_some, List.set_cons_zero, List.set_cons_succ, List.toList_toArray, List.size_toArray, List.length_cons, List.length_nil, List.getElem?_toArray, List.getElem?_cons_zero, List.getElem?_cons_succ, List.drop_zero, List.take_succ_cons, List.take_zero]
    refine (Int_ok (t := ⟨0, false, 2, 0, (s :: octs v k).length⟩) S3).mono ?_
    rintro r h10 ⟨⟨u, rfl⟩, rfl⟩
    have eI : intS (s :: octs v k) ⟨0, false, 2, 0, (s :: octs v k).length⟩ = (0, 23) := by
      have eE : bodyE (s :: octs v k).length ⟨0, false, 2, 0, (s :: octs v k).length⟩ = 0 := by
        unfold bodyE
        rw [if_neg (by simp only; omega), if_neg (by simp)]
      have eB : bodyB (s :: octs v k) ⟨0, false, 2, 0, (s :: octs v k).length⟩ = s :: octs v k := by
        unfold bodyB
        rw [if_pos eE]
        simp only
        rw [show (0 : Int).toNat = 0 from rfl, List.drop_zero]
        exact List.take_of_length_le (by omega)
      unfold intS
      rw [if_neg (fun h => h eE), eB, if_pos (more_bad hk1 hk8 hf hs)]
    rw [eI]
    try simp (disch := first | omega | assumption | exact isC_last | exact isC_app (by first | assumption | exact isC_last | exact isC_app (by first | assumption | exact isC_last)) | (simp [oneC]; done) | fail) only [decide_true, evs0, evs1, evs2, evs3, evs4, evs5, evs6, evs7, evs8, evs9, evs10, evs11, evs12, evs13, if_true, if_false, ↓reduceIte, Nat.reduceEqDiff, Nat.reduceAdd, Nat.reduceMul, Nat.reduceSub, Nat.reduceLeDiff, Int.reduceLT, Int.reduceLE, Int.reduceEq, Bool.false_eq_true, Option.bind_some, Option.map_some, List.set_cons_zero, List.set_cons_succ, List.toList_toArray, List.size_toArray, List.length_cons, List.length_nil, List.getElem?_toArray, List.getElem?_cons_zero, List.getElem?_cons_succ, List.drop_zero, List.take_succ_cons, List.take_zero]
    rw [← hHP]
    try rfl
  simp (disch := first | omega | assumption | exact isC_last | exact isC_app (by first | assumption | exact isC_last | exact isC_app (by first | assumption | exact isC_last)) | (simp [oneC]; done) | fail) only [evs0, evs1, evs2, evs3, evs4, evs5, evs6, evs7, evs8, evs9, evs10, evs11, evs12, evs13, if_true, if_false, ↓reduceIte, Nat.reduceEqDiff, Nat.reduceAdd, Nat.reduceMul, Nat.reduceSub, Nat.reduceLeDiff, Int.reduceLT, Int.reduceLE, Int.reduceEq, Bool.false_eq_true, Option.bind_some, Option.map_some, List.set_cons_zero, List.set_cons_succ, List.toList_toArray, List.size_toArray, List.length_cons, List.length_nil, List.getElem?_toArray, List.getElem?_cons_zero, List.getElem?_cons_succ, List.drop_zero, List.take_succ_cons, List.take_zero]
  by_cases hneg : v < 0
  · rw [if_pos hneg, F4.e5]
    simp (disch := first | omega | assumption | exact isC_last | exact isC_app (by first | assumption | exact isC_last | exact isC_app (by first | assumption | exact isC_last)) | (simp [oneC]; done) | fail) only [F4.t5, evs0, evs1, evs2, evs3, evs4, evs5, evs6, evs7, evs8, evs9, evs10, evs11, evs12, evs13, if_true, if_false, ↓reduceIte, Nat.reduceEqDiff, Nat.reduceAdd, Nat.reduceMul, Nat.reduceSub, Nat.reduceLeDiff, Int.reduceLT, Int.reduceLE, Int.reduceEq, Bool.false_eq_true, Option.bind_some, Option.map_some, List.set_cons_zero, List.set_cons_succ, List.toList_toArray, List.size_toArray, List.length_cons, List.length_nil, List.getElem?_toArray, List.getElem?_cons_zero, List.getElem?_cons_succ, List.drop_zero, List.take_succ_cons, List.take_zero]
    exact last 255 (by rw [if_pos hneg]; rfl)
  · rw [if_neg hneg]
    exact last 0 (by rw [if_neg hneg]; rfl)
theorem BerNumbers_law {H' : Type} {n0 : Nat} {h : H} {vs : List Value} {ds : List (DataW H')} (R : RdAll Try.prog h [2] vs ds) : Cn Try.prog n0 (.func 4) vs h (fun v _ => v = .bool true) := by
  obtain ⟨v, vs, d, ds, rfl, rfl, r, R⟩ := R.cons
  obtain ⟨rfl, rfl⟩ := R.none
  obtain ⟨n, rfl, _, w⟩ := r.int Try.underlying2
  obtain ⟨h1, h2⟩ := i64_wf w
  exact BerNumbers_ok h1 h2
end Go.Proofs.Ytknpmldldlbniaa
