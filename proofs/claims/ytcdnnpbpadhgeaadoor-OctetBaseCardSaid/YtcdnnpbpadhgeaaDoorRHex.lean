/- The reference's Hex and Unhex; OctetHex. No condition. -/
import Derived.Test.YtcdnnpbpadhgeaaDoorUnhex
import Derived.Test.YtcdnnpbpadhgeaaDoorRValid
set_option linter.unusedVariables false
set_option linter.unusedSimpArgs false
namespace Go.Proofs.YtcdnnpbpadhgeaaDoor
open Go.Ev Oct
variable {n0 : Nat} {h : H}
/-- bytes laid behind M -/
structure Ac (M : Nat) (h : H) (v : Value) (l : List UInt8) : Prop where
  fu : Fu h 1 5 v l.length (l.map bv)
  blk : ∀ j, isBlk v j → M ≤ j
  le : M ≤ h.length
def Sw (M : Nat) (h h' : H) : Prop := h.length ≤ h'.length ∧ ∀ j ob, j < M → h[j]? = some ob → h'[j]? = some ob
theorem Sw.refl {M : Nat} : Sw M h h := ⟨Nat.le_refl _, fun _ _ _ e => e⟩
theorem Sw.trans {M : Nat} {h1 h2 : H} (a : Sw M h h1) (b : Sw M h1 h2) : Sw M h h2 := ⟨Nat.le_trans a.1 b.1, fun j ob x e => b.2 j ob x (a.2 j ob x e)⟩
theorem Sw.of_ext {M : Nat} {h1 : H} (a : Ext h h1) : Sw M h h1 := ⟨a.len, fun j ob _ e => a j ob e⟩
theorem Sw.ext {h1 : H} (a : Sw h.length h h1) : Ext h h1 := fun j ob e => a.2 j ob (lt_of_some e) e
theorem Ac.ext {M : Nat} {v : Value} {l : List UInt8} {h1 : H} (A : Ac M h v l) (x : Ext h h1) : Ac M h1 v l := ⟨A.fu.keep fun j ob _ e => x _ _ e, A.blk, Nat.le_trans A.le x.len⟩
theorem Ac.nil : Ac h.length h (.slice none 0 0) [] := ⟨Fu.nil, fun j e => absurd e isBlk_nil, Nat.le_refl _⟩
theorem Ac.append {M : Nat} {v x : Value} {l m : List UInt8} (A : Ac M h v l) (src : srcCells 1 x h = some (m.length, m.map bv)) (hl : l.length + m.length + 1100 ≤ 3 * 2 ^ 46) :
    ∃ v' h', aAppend Tryd.prog 31 v x h = some (v', h') ∧ Ac M h' v' (l ++ m) ∧ Sw M h h' := by
  obtain ⟨v', h', q1, F3, B1, N2⟩ := A.fu.append el_31 sz_5 ze_5 by_5 rfl (by omega) (by omega) src (by simp) (bv_oneC _) (by simp; omega) (by omega)
  refine ⟨v', h', q1, ⟨by rw [List.length_append, List.map_append]; exact F3, ?_, Nat.le_trans A.le B1.1⟩, B1.1, fun j ob hj e => B1.2 j ob (fun hx => ?_) e⟩
  · intro j hj
    rcases N2 j hj with hj | rfl
    · exact A.blk j hj
    · exact A.le
  · have := A.blk j hx
    omega
theorem src_str {m : List UInt8} : srcCells 1 (.string (bs m)) h = some (m.length, m.map bv) := by
  simp only [srcCells, if_true, bs_size, bytesOfStr, bs_data]
  rfl
theorem src_one {c : UInt8} : srcCells 1 (.slice (some ⟨h.length, 0, none⟩) 1 1) (h ++ [.cells true (enc 1 5) [.int .u8 c.toNat]]) = some ([c].length, [c].map bv) :=
  src1 (Sl.mk (o := 0) (cs0 := [.int .u8 c.toNat]) get_last (eS_enc' (by omega)) rfl rfl (Nat.le_refl _))
theorem cv_sl {v : Value} {l : List UInt8} (S : Sl h 1 v (l.map bv)) : cvt Tryd.prog 31 9 v h = some (.string (bs l), h) := by
  obtain ⟨ad, n, c, rfl, h2, h3, h5, h4⟩ := S
  rw [List.length_map] at h3
  simp only [cvt, aConvert, un31, Tryd.underlying9, un5']
  by_cases h0 : n = 0
  · obtain rfl : l = [] := List.eq_nil_of_length_eq_zero (by omega)
    cases ad with
    | none => rfl
    | some a => simp only [h0, if_true]; rfl
  · rcases h4 with h4 | ⟨b, o, own, e, cs0, rfl, hb, he, hc⟩
    · exact absurd h4 h0
    · have hl : o + n ≤ cs0.length := by
        have := congrArg List.length hc
        rw [List.length_take, List.length_drop, List.length_map] at this
        omega
      rw [Nat.mul_one] at hc
      simp only [if_neg h0, Option.isSome_none, Bool.false_eq_true, if_false]
      rw [rdN_blk hb _ _ hl, hc]
      simp only [Option.bind_some, strCells, Option.map_some]
      rfl
theorem Ac.str {M : Nat} {v : Value} {l : List UInt8} (A : Ac M h v l) : cvt Tryd.prog 31 9 v h = some (.string (bs l), h) := cv_sl (A.fu.sl (by omega))
set_option maxRecDepth 20000 in
theorem two_ok {c : UInt8} : Cn Tryd.prog n0 (.func 33) [.int .u8 c.toNat] h (fun v h' => v = .string (bs (two c)) ∧ Ext h h') := by
  refine F33.enter ?_
  rw [F33.e0]
  have hc := u8_lt c
  unfold F33.t0
  refine Bnd_i (bQuo (by omega)) ?_
  rw [show (((c.toNat : Nat) : Int).tdiv 16) = ((c.toNat / 16 : Nat) : Int) by rw [Int.tdiv_eq_ediv_of_nonneg (by omega)]; omega, IntWalk.u8_in _ (by omega), hexl_bs]
  refine Bnd_i (ix_bs un_9 (by omega) (by show _ < ((16 : Nat) : Int); omega)) ?_
  rw [Int.toNat_natCast, hexl_at (by omega)]
  refine Bnd_i (bRem (by omega)) ?_
  rw [show (((c.toNat : Nat) : Int).tmod 16) = ((c.toNat % 16 : Nat) : Int) by rw [Int.tmod_eq_emod_of_nonneg (by omega)]; omega]
  refine Bnd_i (ix_bs un_9 (by omega) (by show _ < ((16 : Nat) : Int); omega)) ?_
  rw [Int.toNat_natCast, hexl_at (by omega)]
  simp (disch := first | omega | assumption | exact isC_last | exact isC_app (by first | assumption | exact isC_last | exact isC_app (by first | assumption | exact isC_last)) | (simp [oneC]; done) | fail) only [evs0, evs1, evs2, evs3, evs4, evs5, evs6, if_true, if_false, ↓reduceIte, Nat.reduceEqDiff, Nat.reduceAdd, Nat.reduceMul, Nat.reduceSub, Nat.reduceLeDiff, Int.reduceLT, Int.reduceLE, Int.reduceEq, Bool.false_eq_true, Option.bind_some, Option.map_some, List.set_cons_zero, List.set_cons_succ, List.toList_toArray, List.size_toArray, List.length_cons, List.length_nil, List.getElem?_toArray, List.getElem?_cons_zero, List.getElem?_cons_succ, List.drop_zero, List.take_succ_cons, List.take_zero, Oct.bl]
  refine Bnd2_i (cv_sl (l := two c) (Sl.mk (o := 0) (cs0 := (two c).map bv) get_last (eS_enc' (by omega)) rfl rfl (Nat.le_refl _))) ?_
  exact ⟨rfl, Ext.app _ _⟩
set_option maxRecDepth 20000 in
theorem digit_ok {c : UInt8} {g : Bool} : Cn Tryd.prog n0 (.func 29) [.int .u8 c.toNat, .bool g] h (fun v h' => v = .int .i64 (match dig g c with | some a => (a : Int) | none => -1) ∧ h' = h) := by
  refine F29.enter ?_
  obtain ⟨HP, hHP⟩ : ∃ HP : Value → H → Prop, (fun v h' => v = .int .i64 (match dig g c with | some a => (a : Int) | none => -1) ∧ h' = h) = HP := ⟨_, rfl⟩
  have hc := u8_lt c
  have fin : ∀ {k : Int}, (match dig g c with | some a => (a : Int) | none => -1) = k → HP (.int .i64 k) h := by intro k hk; rw [← hHP, hk]; exact ⟨rfl, rfl⟩
  rw [hHP]
  clear hHP
  rw [F29.e0]
  unfold F29.t0
  have last : dig g c = none → F29.p6 n0 [] [] h (KFin Tryd.prog [.tmp 4] HP) := by
    intro hd
    rw [F29.e6]
    simp (disch := first | omega | assumption | exact isC_last | exact isC_app (by first | assumption | exact isC_last | exact isC_app (by first | assumption | exact isC_last)) | (simp [oneC]; done) | fail) only [F29.t6, evs0, evs1, evs2, evs3, evs4, evs5, evs6, if_true, if_false, ↓reduceIte, Nat.reduceEqDiff, Nat.reduceAdd, Nat.reduceMul, Nat.reduceSub, Nat.reduceLeDiff, Int.reduceLT, Int.reduceLE, Int.reduceEq, Bool.false_eq_true, Option.bind_some, Option.map_some, List.set_cons_zero, List.set_cons_succ, List.toList_toArray, List.size_toArray, List.length_cons, List.length_nil, List.getElem?_toArray, List.getElem?_cons_zero, List.getElem?_cons_succ, List.drop_zero, List.take_succ_cons, List.take_zero, Oct.bl]
    exact fin (by rw [hd])
  refine (within_ok (c := c.toNat) (a := 48) (b := 57)).mono ?_
  rintro _ hx ⟨rfl, ex⟩; subst hx
  unfold dig at fin last
  by_cases h1 : 48 ≤ c.toNat ∧ c.toNat ≤ 57
  · rw [if_pos h1] at fin
    rw [show wi c.toNat 48 57 = true by unfold wi; simp only [Bool.and_eq_true, decide_eq_true_eq]; exact h1]
    simp (disch := first | omega | assumption | exact isC_last | exact isC_app (by first | assumption | exact isC_last | exact isC_app (by first | assumption | exact isC_last)) | (simp [oneC]; done) | fail) only [evs0, evs1, evs2, evs3, evs4, evs5, evs6, if_true, if_false, ↓reduceIte, Nat.reduceEqDiff, Nat.reduceAdd, Nat.reduceMul, Nat.reduceSub, Nat.reduceLeDiff, Int.reduceLT, Int.reduceLE, Int.reduceEq, Bool.false_eq_true, Option.bind_some, Option.map_some, List.set_cons_zero, List.set_cons_succ, List.toList_toArray, List.size_toArray, List.length_cons, List.length_nil, List.getElem?_toArray, List.getElem?_cons_zero, List.getElem?_cons_succ, List.drop_zero, List.take_succ_cons, List.take_zero, Oct.bl]
    rw [F29.e1]
    simp (disch := first | omega | assumption | exact isC_last | exact isC_app (by first | assumption | exact isC_last | exact isC_app (by first | assumption | exact isC_last)) | (simp [oneC]; done) | fail) only [F29.t1, bQuo, bRem, bShl, bShr, IntWalk.i64_in, IntWalk.u64_in, IntWalk.u8_in, IntWalk.i8_in, IntWalk.u32_in, IntWalk.i32_in, IntWalk.u8_quo, IntWalk.i64_quo, IntWalk.u64_quo, IntWalk.rem_in, evs0, evs1, evs2, evs3, evs4, evs5, evs6, if_true, if_false, ↓reduceIte, Nat.reduceEqDiff, Nat.reduceAdd, Nat.reduceMul, Nat.reduceSub, Nat.reduceLeDiff, Int.reduceLT, Int.reduceLE, Int.reduceEq, Bool.false_eq_true, Option.bind_some, Option.map_some, List.set_cons_zero, List.set_cons_succ, List.toList_toArray, List.size_toArray, List.length_cons, List.length_nil, List.getElem?_toArray, List.getElem?_cons_zero, List.getElem?_cons_succ, List.drop_zero, List.take_succ_cons, List.take_zero, Oct.bl]
    exact fin (by simp only; omega)
  rw [show wi c.toNat 48 57 = false by unfold wi; rw [Bool.and_eq_false_iff, decide_eq_false_iff_not, decide_eq_false_iff_not]; omega]
  simp (disch := first | omega | assumption | exact isC_last | exact isC_app (by first | assumption | exact isC_last | exact isC_app (by first | assumption | exact isC_last)) | (simp [oneC]; done) | fail) only [evs0, evs1, evs2, evs3, evs4, evs5, evs6, if_true, if_false, ↓reduceIte, Nat.reduceEqDiff, Nat.reduceAdd, Nat.reduceMul, Nat.reduceSub, Nat.reduceLeDiff, Int.reduceLT, Int.reduceLE, Int.reduceEq, Bool.false_eq_true, Option.bind_some, Option.map_some, List.set_cons_zero, List.set_cons_succ, List.toList_toArray, List.size_toArray, List.length_cons, List.length_nil, List.getElem?_toArray, List.getElem?_cons_zero, List.getElem?_cons_succ, List.drop_zero, List.take_succ_cons, List.take_zero, Oct.bl]
  rw [F29.e2]
  unfold F29.t2
  refine (within_ok (c := c.toNat) (a := 97) (b := 102)).mono ?_
  rintro _ hx ⟨rfl, ex⟩; subst hx
  rw [if_neg h1] at fin last
  by_cases h2 : 97 ≤ c.toNat ∧ c.toNat ≤ 102
  · rw [if_pos h2] at fin
    rw [show wi c.toNat 97 102 = true by unfold wi; simp only [Bool.and_eq_true, decide_eq_true_eq]; exact h2]
    simp (disch := first | omega | assumption | exact isC_last | exact isC_app (by first | assumption | exact isC_last | exact isC_app (by first | assumption | exact isC_last)) | (simp [oneC]; done) | fail) only [evs0, evs1, evs2, evs3, evs4, evs5, evs6, if_true, if_false, ↓reduceIte, Nat.reduceEqDiff, Nat.reduceAdd, Nat.reduceMul, Nat.reduceSub, Nat.reduceLeDiff, Int.reduceLT, Int.reduceLE, Int.reduceEq, Bool.false_eq_true, Option.bind_some, Option.map_some, List.set_cons_zero, List.set_cons_succ, List.toList_toArray, List.size_toArray, List.length_cons, List.length_nil, List.getElem?_toArray, List.getElem?_cons_zero, List.getElem?_cons_succ, List.drop_zero, List.take_succ_cons, List.take_zero, Oct.bl]
    rw [F29.e3]
    simp (disch := first | omega | assumption | exact isC_last | exact isC_app (by first | assumption | exact isC_last | exact isC_app (by first | assumption | exact isC_last)) | (simp [oneC]; done) | fail) only [F29.t3, bQuo, bRem, bShl, bShr, IntWalk.i64_in, IntWalk.u64_in, IntWalk.u8_in, IntWalk.i8_in, IntWalk.u32_in, IntWalk.i32_in, IntWalk.u8_quo, IntWalk.i64_quo, IntWalk.u64_quo, IntWalk.rem_in, evs0, evs1, evs2, evs3, evs4, evs5, evs6, if_true, if_false, ↓reduceIte, Nat.reduceEqDiff, Nat.reduceAdd, Nat.reduceMul, Nat.reduceSub, Nat.reduceLeDiff, Int.reduceLT, Int.reduceLE, Int.reduceEq, Bool.false_eq_true, Option.bind_some, Option.map_some, List.set_cons_zero, List.set_cons_succ, List.toList_toArray, List.size_toArray, List.length_cons, List.length_nil, List.getElem?_toArray, List.getElem?_cons_zero, List.getElem?_cons_succ, List.drop_zero, List.take_succ_cons, List.take_zero, Oct.bl]
    exact fin (by simp only; omega)
  rw [show wi c.toNat 97 102 = false by unfold wi; rw [Bool.and_eq_false_iff, decide_eq_false_iff_not, decide_eq_false_iff_not]; omega]
  simp (disch := first | omega | assumption | exact isC_last | exact isC_app (by first | assumption | exact isC_last | exact isC_app (by first | assumption | exact isC_last)) | (simp [oneC]; done) | fail) only [evs0, evs1, evs2, evs3, evs4, evs5, evs6, if_true, if_false, ↓reduceIte, Nat.reduceEqDiff, Nat.reduceAdd, Nat.reduceMul, Nat.reduceSub, Nat.reduceLeDiff, Int.reduceLT, Int.reduceLE, Int.reduceEq, Bool.false_eq_true, Option.bind_some, Option.map_some, List.set_cons_zero, List.set_cons_succ, List.toList_toArray, List.size_toArray, List.length_cons, List.length_nil, List.getElem?_toArray, List.getElem?_cons_zero, List.getElem?_cons_succ, List.drop_zero, List.take_succ_cons, List.take_zero, Oct.bl]
  rw [F29.e4]
  rw [if_neg h2] at fin last
  unfold F29.t4
  cases g with
  | false =>
    simp (disch := first | omega | assumption | exact isC_last | exact isC_app (by first | assumption | exact isC_last | exact isC_app (by first | assumption | exact isC_last)) | (simp [oneC]; done) | fail) only [evs0, evs1, evs2, evs3, evs4, evs5, evs6, if_true, if_false, ↓reduceIte, Nat.reduceEqDiff, Nat.reduceAdd, Nat.reduceMul, Nat.reduceSub, Nat.reduceLeDiff, Int.reduceLT, Int.reduceLE, Int.reduceEq, Bool.false_eq_true, Option.bind_some, Option.map_some, List.set_cons_zero, List.set_cons_succ, List.toList_toArray, List.size_toArray, List.length_cons, List.length_nil, List.getElem?_toArray, List.getElem?_cons_zero, List.getElem?_cons_succ, List.drop_zero, List.take_succ_cons, List.take_zero, Oct.bl]
    exact last (if_neg (fun h => by cases h.1))
  | true =>
    simp (disch := first | omega | assumption | exact isC_last | exact isC_app (by first | assumption | exact isC_last | exact isC_app (by first | assumption | exact isC_last)) | (simp [oneC]; done) | fail) only [evs0, evs1, evs2, evs3, evs4, evs5, evs6, if_true, if_false, ↓reduceIte, Nat.reduceEqDiff, Nat.reduceAdd, Nat.reduceMul, Nat.reduceSub, Nat.reduceLeDiff, Int.reduceLT, Int.reduceLE, Int.reduceEq, Bool.false_eq_true, Option.bind_some, Option.map_some, List.set_cons_zero, List.set_cons_succ, List.toList_toArray, List.size_toArray, List.length_cons, List.length_nil, List.getElem?_toArray, List.getElem?_cons_zero, List.getElem?_cons_succ, List.drop_zero, List.take_succ_cons, List.take_zero, Oct.bl]
    refine (within_ok (c := c.toNat) (a := 65) (b := 70)).mono ?_
    rintro _ hx ⟨rfl, ex⟩; subst hx
    by_cases h3 : 65 ≤ c.toNat ∧ c.toNat ≤ 70
    · rw [if_pos ⟨rfl, h3⟩] at fin
      rw [show wi c.toNat 65 70 = true by unfold wi; simp only [Bool.and_eq_true, decide_eq_true_eq]; exact h3]
      simp (disch := first | omega | assumption | exact isC_last | exact isC_app (by first | assumption | exact isC_last | exact isC_app (by first | assumption | exact isC_last)) | (simp [oneC]; done) | fail) only [evs0, evs1, evs2, evs3, evs4, evs5, evs6, if_true, if_false, ↓reduceIte, Nat.reduceEqDiff, Nat.reduceAdd, Nat.reduceMul, Nat.reduceSub, Nat.reduceLeDiff, Int.reduceLT, Int.reduceLE, Int.reduceEq, Bool.false_eq_true, Option.bind_some, Option.map_some, List.set_cons_zero, List.set_cons_succ, List.toList_toArray, List.size_toArray, List.length_cons, List.length_nil, List.getElem?_toArray, List.getElem?_cons_zero, List.getElem?_cons_succ, List.drop_zero, List.take_succ_cons, List.take_zero, Oct.bl]
      rw [F29.e5]
      simp (disch := first | omega | assumption | exact isC_last | exact isC_app (by first | assumption | exact isC_last | exact isC_app (by first | assumption | exact isC_last)) | (simp [oneC]; done) | fail) only [F29.t5, bQuo, bRem, bShl, bShr, IntWalk.i64_in, IntWalk.u64_in, IntWalk.u8_in, IntWalk.i8_in, IntWalk.u32_in, IntWalk.i32_in, IntWalk.u8_quo, IntWalk.i64_quo, IntWalk.u64_quo, IntWalk.rem_in, evs0, evs1, evs2, evs3, evs4, evs5, evs6, if_true, if_false, ↓reduceIte, Nat.reduceEqDiff, Nat.reduceAdd, Nat.reduceMul, Nat.reduceSub, Nat.reduceLeDiff, Int.reduceLT, Int.reduceLE, Int.reduceEq, Bool.false_eq_true, Option.bind_some, Option.map_some, List.set_cons_zero, List.set_cons_succ, List.toList_toArray, List.size_toArray, List.length_cons, List.length_nil, List.getElem?_toArray, List.getElem?_cons_zero, List.getElem?_cons_succ, List.drop_zero, List.take_succ_cons, List.take_zero, Oct.bl]
      exact fin (by simp only; omega)
    · rw [show wi c.toNat 65 70 = false by unfold wi; rw [Bool.and_eq_false_iff, decide_eq_false_iff_not, decide_eq_false_iff_not]; omega]
      simp (disch := first | omega | assumption | exact isC_last | exact isC_app (by first | assumption | exact isC_last | exact isC_app (by first | assumption | exact isC_last)) | (simp [oneC]; done) | fail) only [evs0, evs1, evs2, evs3, evs4, evs5, evs6, if_true, if_false, ↓reduceIte, Nat.reduceEqDiff, Nat.reduceAdd, Nat.reduceMul, Nat.reduceSub, Nat.reduceLeDiff, Int.reduceLT, Int.reduceLE, Int.reduceEq, Bool.false_eq_true, Option.bind_some, Option.map_some, List.set_cons_zero, List.set_cons_succ, List.toList_toArray, List.size_toArray, List.length_cons, List.length_nil, List.getElem?_toArray, List.getElem?_cons_zero, List.getElem?_cons_succ, List.drop_zero, List.take_succ_cons, List.take_zero, Oct.bl]
      exact last (if_neg (fun h => h3 h.2))
set_option maxRecDepth 20000 in
theorem RHex_ok {l : List UInt8} (hl : 2 * l.length ≤ 2 ^ 47) : Cn Tryd.prog n0 (.func 17) [.string (bs l)] h (fun v h' => v = .string (bs (hexS l)) ∧ Ext h h') := by
  refine F17.enter ?_
  obtain ⟨HP, hHP⟩ : ∃ HP : Value → H → Prop, (fun v h' => v = .string (bs (hexS l)) ∧ Ext h h') = HP := ⟨_, rfl⟩
  rw [hHP, F17.e0]
  unfold F17.t0
  refine Lp_ind (fun m fr hh => ∃ (j : Nat) (b : Value), fr = [(0, .string (bs l)), (3, b), (4, .int .i64 j)] ∧ j ≤ l.length ∧ Ac h.length hh b (hexS (l.take j)) ∧ Sw h.length h hh ∧ m = l.length - j) (F17.m1 n0) l.length
    ⟨0, .slice none 0 0, by simp (disch := first | omega | assumption | exact isC_last | exact isC_app (by first | assumption | exact isC_last | exact isC_app (by first | assumption | exact isC_last)) | (simp [oneC]; done) | fail) only [evs0, evs1, evs2, evs3, evs4, evs5, evs6, if_true, if_false, ↓reduceIte, Nat.reduceEqDiff, Nat.reduceAdd, Nat.reduceMul, Nat.reduceSub, Nat.reduceLeDiff, Int.reduceLT, Int.reduceLE, Int.reduceEq, Bool.false_eq_true, Option.bind_some, Option.map_some, List.set_cons_zero, List.set_cons_succ, List.toList_toArray, List.size_toArray, List.length_cons, List.length_nil, List.getElem?_toArray, List.getElem?_cons_zero, List.getElem?_cons_succ, List.drop_zero, List.take_succ_cons, List.take_zero, Oct.bl]; rfl, by omega, Ac.nil, Sw.refl, rfl⟩ ?_
  rintro m fr hh ⟨j, b, rfl, hj, A, S, rfl⟩
  rw [F17.e1]
  simp (disch := first | omega | assumption | exact isC_last | exact isC_app (by first | assumption | exact isC_last | exact isC_app (by first | assumption | exact isC_last)) | (simp [oneC]; done) | fail) only [F17.t1, len_str un_9, evs0, evs1, evs2, evs3, evs4, evs5, evs6, if_true, if_false, ↓reduceIte, Nat.reduceEqDiff, Nat.reduceAdd, Nat.reduceMul, Nat.reduceSub, Nat.reduceLeDiff, Int.reduceLT, Int.reduceLE, Int.reduceEq, Bool.false_eq_true, Option.bind_some, Option.map_some, List.set_cons_zero, List.set_cons_succ, List.toList_toArray, List.size_toArray, List.length_cons, List.length_nil, List.getElem?_toArray, List.getElem?_cons_zero, List.getElem?_cons_succ, List.drop_zero, List.take_succ_cons, List.take_zero, Oct.bl]
  by_cases h5 : j < l.length
  · rw [if_pos (by omega), F17.e2]
    unfold F17.t2
    refine Bnd_i (ix_bs un_9 (by omega) (by omega)) ?_
    rw [Int.toNat_natCast]
    refine (two_ok (c := l.getD j 0)).mono ?_
    rintro _ h1 ⟨rfl, X⟩
    have hlen : (hexS (l.take j)).length = 2 * j := by rw [hexS_len, List.length_take]; omega
    obtain ⟨v', h2, q1, A2, S2⟩ := (A.ext X).append (m := two (l.getD j 0)) src_str (by rw [hlen]; simp [two]; omega)
    simp (disch := first | omega | assumption | exact isC_last | exact isC_app (by first | assumption | exact isC_last | exact isC_app (by first | assumption | exact isC_last)) | (simp [oneC]; done) | fail) only [q1, evs0, evs1, evs2, evs3, evs4, evs5, evs6, if_true, if_false, ↓reduceIte, Nat.reduceEqDiff, Nat.reduceAdd, Nat.reduceMul, Nat.reduceSub, Nat.reduceLeDiff, Int.reduceLT, Int.reduceLE, Int.reduceEq, Bool.false_eq_true, Option.bind_some, Option.map_some, List.set_cons_zero, List.set_cons_succ, List.toList_toArray, List.size_toArray, List.length_cons, List.length_nil, List.getElem?_toArray, List.getElem?_cons_zero, List.getElem?_cons_succ, List.drop_zero, List.take_succ_cons, List.take_zero, Oct.bl]
    rw [F17.e3]
    simp (disch := first | omega | assumption | exact isC_last | exact isC_app (by first | assumption | exact isC_last | exact isC_app (by first | assumption | exact isC_last)) | (simp [oneC]; done) | fail) only [F17.t3, evs0, evs1, evs2, evs3, evs4, evs5, evs6, if_true, if_false, ↓reduceIte, Nat.reduceEqDiff, Nat.reduceAdd, Nat.reduceMul, Nat.reduceSub, Nat.reduceLeDiff, Int.reduceLT, Int.reduceLE, Int.reduceEq, Bool.false_eq_true, Option.bind_some, Option.map_some, List.set_cons_zero, List.set_cons_succ, List.toList_toArray, List.size_toArray, List.length_cons, List.length_nil, List.getElem?_toArray, List.getElem?_cons_zero, List.getElem?_cons_succ, List.drop_zero, List.take_succ_cons, List.take_zero, Oct.bl]
    rw [IntWalk.i64_in _ (by omega)]
    refine ⟨by trivial, l.length - (j + 1), by omega, j + 1, v', by congr 5, by omega, ?_, (S.trans (Sw.of_ext X)).trans S2, rfl⟩
    rw [List.take_add_one, List.getElem?_eq_getElem h5, Option.toList_some, hexS_snoc]
    rw [show l.getD j 0 = l[j] by rw [List.getD_eq_getElem?_getD, List.getElem?_eq_getElem h5]; rfl] at A2
    exact A2
  · rw [if_neg (by omega), F17.e4]
    unfold F17.t4
    obtain rfl : j = l.length := by omega
    rw [List.take_length] at A
    simp (disch := first | omega | assumption | exact isC_last | exact isC_app (by first | assumption | exact isC_last | exact isC_app (by first | assumption | exact isC_last)) | (simp [oneC]; done) | fail) only [A.str, evs0, evs1, evs2, evs3, evs4, evs5, evs6, if_true, if_false, ↓reduceIte, Nat.reduceEqDiff, Nat.reduceAdd, Nat.reduceMul, Nat.reduceSub, Nat.reduceLeDiff, Int.reduceLT, Int.reduceLE, Int.reduceEq, Bool.false_eq_true, Option.bind_some, Option.map_some, List.set_cons_zero, List.set_cons_succ, List.toList_toArray, List.size_toArray, List.length_cons, List.length_nil, List.getElem?_toArray, List.getElem?_cons_zero, List.getElem?_cons_succ, List.drop_zero, List.take_succ_cons, List.take_zero, Oct.bl]
    rw [← hHP]
    exact ⟨rfl, S.ext⟩
theorem unhex_cons {x y : UInt8} {r : List UInt8} : unhexS (x :: y :: r) = match dig2 false x y with | some c => (unhexS r).map fun t => c :: t | none => none := rfl
theorem unhex_odd : ∀ (n : Nat) {l : List UInt8}, l.length ≤ n → l.length % 2 = 1 → unhexS l = none := by
  intro n
  induction n with
  | zero => intro l h1 h2; omega
  | succ n ih =>
    intro l h1 h2
    match l, h1, h2 with
    | [x], _, _ => rfl
    | x :: y :: r, h1, h2 =>
      simp only [List.length_cons] at h1 h2
      unfold unhexS
      cases dig2 false x y with
      | none => rfl
      | some c => rw [ih (by omega) (by omega)]; rfl
    | [], h1, h2 => cases h2
set_option maxRecDepth 20000 in
theorem RUnhex_ok {l : List UInt8} (hl : l.length ≤ 2 ^ 47) : Cn Tryd.prog n0 (.func 14) [.string (bs l)] h (fun v h' => v = unhexV l ∧ Ext h h') := by
  refine F14.enter ?_
  obtain ⟨HP, hHP⟩ : ∃ HP : Value → H → Prop, (fun v h' => v = unhexV l ∧ Ext h h') = HP := ⟨_, rfl⟩
  rw [hHP, F14.e0]
  unfold F14.t0
  refine Bnd2_i (len_str un_9) ?_
  refine Bnd_i (bRem (by omega)) ?_
  rw [show ((l.length : Int).tmod 2) = ((l.length % 2 : Nat) : Int) by rw [Int.tmod_eq_emod_of_nonneg (by omega)]; omega]
  simp (disch := first | omega | assumption | exact isC_last | exact isC_app (by first | assumption | exact isC_last | exact isC_app (by first | assumption | exact isC_last)) | (simp [oneC]; done) | fail) only [evs0, evs1, evs2, evs3, evs4, evs5, evs6, if_true, if_false, ↓reduceIte, Nat.reduceEqDiff, Nat.reduceAdd, Nat.reduceMul, Nat.reduceSub, Nat.reduceLeDiff, Int.reduceLT, Int.reduceLE, Int.reduceEq, Bool.false_eq_true, Option.bind_some, Option.map_some, List.set_cons_zero, List.set_cons_succ, List.toList_toArray, List.size_toArray, List.length_cons, List.length_nil, List.getElem?_toArray, List.getElem?_cons_zero, List.getElem?_cons_succ, List.drop_zero, List.take_succ_cons, List.take_zero, Oct.bl]
  by_cases h2 : l.length % 2 = 0
  · rw [if_pos (by omega), F14.e2]
    unfold F14.t2
    refine Lp_ind (fun m fr hh => ∃ (j : Nat) (b : Value) (a : List UInt8), fr = [(0, .string (bs l)), (4, b), (5, .int .i64 j)] ∧ j ≤ l.length ∧ j = 2 * a.length ∧ unhexS l = (unhexS (l.drop j)).map (fun t => a ++ t) ∧ Ac h.length hh b a ∧ Sw h.length h hh ∧ m = l.length - j) (F14.m3 n0) l.length
      ⟨0, .slice none 0 0, [], by simp (disch := first | omega | assumption | exact isC_last | exact isC_app (by first | assumption | exact isC_last | exact isC_app (by first | assumption | exact isC_last)) | (simp [oneC]; done) | fail) only [evs0, evs1, evs2, evs3, evs4, evs5, evs6, if_true, if_false, ↓reduceIte, Nat.reduceEqDiff, Nat.reduceAdd, Nat.reduceMul, Nat.reduceSub, Nat.reduceLeDiff, Int.reduceLT, Int.reduceLE, Int.reduceEq, Bool.false_eq_true, Option.bind_some, Option.map_some, List.set_cons_zero, List.set_cons_succ, List.toList_toArray, List.size_toArray, List.length_cons, List.length_nil, List.getElem?_toArray, List.getElem?_cons_zero, List.getElem?_cons_succ, List.drop_zero, List.take_succ_cons, List.take_zero, Oct.bl]; rfl, by omega, rfl, by rw [List.drop_zero]; cases unhexS l <;> rfl, Ac.nil, Sw.refl, rfl⟩ ?_
    rintro m fr hh ⟨j, b, a, rfl, hj, hja, E, A, S, rfl⟩
    rw [F14.e3]
    simp (disch := first | omega | assumption | exact isC_last | exact isC_app (by first | assumption | exact isC_last | exact isC_app (by first | assumption | exact isC_last)) | (simp [oneC]; done) | fail) only [F14.t3, len_str un_9, evs0, evs1, evs2, evs3, evs4, evs5, evs6, if_true, if_false, ↓reduceIte, Nat.reduceEqDiff, Nat.reduceAdd, Nat.reduceMul, Nat.reduceSub, Nat.reduceLeDiff, Int.reduceLT, Int.reduceLE, Int.reduceEq, Bool.false_eq_true, Option.bind_some, Option.map_some, List.set_cons_zero, List.set_cons_succ, List.toList_toArray, List.size_toArray, List.length_cons, List.length_nil, List.getElem?_toArray, List.getElem?_cons_zero, List.getElem?_cons_succ, List.drop_zero, List.take_succ_cons, List.take_zero, Oct.bl]
    by_cases h5 : j < l.length
    · rw [if_pos (by omega), F14.e4]
      unfold F14.t4
      refine Bnd_i (ix_bs un_9 (by omega) (by omega)) ?_
      rw [Int.toNat_natCast]
      refine (digit_ok (c := l.getD j 0) (g := false)).mono ?_
      rintro _ hx ⟨rfl, ex⟩; subst hx
      refine Bnd_i bAdd ?_
      rw [IntWalk.i64_in _ (by omega)]
      refine Bnd_i (ix_bs un_9 (by omega) (by omega)) ?_
      rw [show ((j : Int) + 1).toNat = j + 1 by omega]
      refine (digit_ok (c := l.getD (j + 1) 0) (g := false)).mono ?_
      rintro _ hx ⟨rfl, ex⟩; subst hx
      have ed : l.drop j = l.getD j 0 :: l.getD (j + 1) 0 :: l.drop (j + 2) := by
        rw [List.drop_eq_getElem_cons h5, List.drop_eq_getElem_cons (show j + 1 < l.length by omega)]
        rw [List.getD_eq_getElem?_getD, List.getD_eq_getElem?_getD, List.getElem?_eq_getElem h5, List.getElem?_eq_getElem (show j + 1 < l.length by omega)]
        rfl
      have bad : unhexS l = none → ∀ {x y : Value} {K : KP}, F14.p5 n0 [(0, .string (bs l)), (4, b), (5, .int .i64 j), (6, x), (7, y)] [] hh (KSeq [0, 4, 5, 6, 7] (F14.p6 n0) (KBlk [0, 4, 5] 1 (KSeq [0, 4, 5] (F14.p7 n0) (KLp [0, 4, 5] (fun fr h_1 => ∃ m', m' < l.length - j ∧ ∃ (j : Nat) (b : Value) (a : List UInt8), fr = [(0, .string (bs l)), (4, b), (5, .int .i64 j)] ∧ j ≤ l.length ∧ j = 2 * a.length ∧ unhexS l = (unhexS (l.drop j)).map (fun t => a ++ t) ∧ Ac h.length h_1 b a ∧ Sw h.length h h_1 ∧ m' = l.length - j) [] (KBlk [4] 0 (KSeq [4] (F14.p8 n0) (KFin Tryd.prog [.tmp 2, .tmp 3] HP))))))) := by
        intro hu x y K
        rw [F14.e5]
        simp (disch := first | omega | assumption | exact isC_last | exact isC_app (by first | assumption | exact isC_last | exact isC_app (by first | assumption | exact isC_last)) | (simp [oneC]; done) | fail) only [F14.t5, nil_bs, evs0, evs1, evs2, evs3, evs4, evs5, evs6, if_true, if_false, ↓reduceIte, Nat.reduceEqDiff, Nat.reduceAdd, Nat.reduceMul, Nat.reduceSub, Nat.reduceLeDiff, Int.reduceLT, Int.reduceLE, Int.reduceEq, Bool.false_eq_true, Option.bind_some, Option.map_some, List.set_cons_zero, List.set_cons_succ, List.toList_toArray, List.size_toArray, List.length_cons, List.length_nil, List.getElem?_toArray, List.getElem?_cons_zero, List.getElem?_cons_succ, List.drop_zero, List.take_succ_cons, List.take_zero, Oct.bl]
        rw [← hHP]
        refine ⟨?_, S.ext⟩
        unfold unhexV
        rw [hu]
      rw [ed, unhex_cons] at E
      have edg : dig2 false (l.getD j 0) (l.getD (j + 1) 0) = match dig false (l.getD j 0), dig false (l.getD (j + 1) 0) with | some a, some b => some (UInt8.ofNat (16 * a + b)) | _, _ => none := rfl
      cases hd1 : dig false (l.getD j 0) with
      | none =>
        simp only [hd1] at edg
        rw [edg] at E
        simp (disch := first | omega | assumption | exact isC_last | exact isC_app (by first | assumption | exact isC_last | exact isC_app (by first | assumption | exact isC_last)) | (simp [oneC]; done) | fail) only [evs0, evs1, evs2, evs3, evs4, evs5, evs6, if_true, if_false, ↓reduceIte, Nat.reduceEqDiff, Nat.reduceAdd, Nat.reduceMul, Nat.reduceSub, Nat.reduceLeDiff, Int.reduceLT, Int.reduceLE, Int.reduceEq, Bool.false_eq_true, Option.bind_some, Option.map_some, List.set_cons_zero, List.set_cons_succ, List.toList_toArray, List.size_toArray, List.length_cons, List.length_nil, List.getElem?_toArray, List.getElem?_cons_zero, List.getElem?_cons_succ, List.drop_zero, List.take_succ_cons, List.take_zero, Oct.bl]
        exact bad (by rw [E]; rfl) (K := fun _ _ _ _ => True)
      | some d1 =>
        have hd1' := dig_lt hd1
        cases hd2 : dig false (l.getD (j + 1) 0) with
        | none =>
          simp only [hd1, hd2] at edg
          rw [edg] at E
          simp (disch := first | omega | assumption | exact isC_last | exact isC_app (by first | assumption | exact isC_last | exact isC_app (by first | assumption | exact isC_last)) | (simp [oneC]; done) | fail) only [evs0, evs1, evs2, evs3, evs4, evs5, evs6, if_true, if_false, ↓reduceIte, Nat.reduceEqDiff, Nat.reduceAdd, Nat.reduceMul, Nat.reduceSub, Nat.reduceLeDiff, Int.reduceLT, Int.reduceLE, Int.reduceEq, Bool.false_eq_true, Option.bind_some, Option.map_some, List.set_cons_zero, List.set_cons_succ, List.toList_toArray, List.size_toArray, List.length_cons, List.length_nil, List.getElem?_toArray, List.getElem?_cons_zero, List.getElem?_cons_succ, List.drop_zero, List.take_succ_cons, List.take_zero, Oct.bl]
          rw [if_neg (by omega)]
          exact bad (by rw [E]; rfl) (K := fun _ _ _ _ => True)
        | some d2 =>
          have hd2' := dig_lt hd2
          simp only [hd1, hd2] at edg
          rw [edg] at E
          simp (disch := first | omega | assumption | exact isC_last | exact isC_app (by first | assumption | exact isC_last | exact isC_app (by first | assumption | exact isC_last)) | (simp [oneC]; done) | fail) only [evs0, evs1, evs2, evs3, evs4, evs5, evs6, if_true, if_false, ↓reduceIte, Nat.reduceEqDiff, Nat.reduceAdd, Nat.reduceMul, Nat.reduceSub, Nat.reduceLeDiff, Int.reduceLT, Int.reduceLE, Int.reduceEq, Bool.false_eq_true, Option.bind_some, Option.map_some, List.set_cons_zero, List.set_cons_succ, List.toList_toArray, List.size_toArray, List.length_cons, List.length_nil, List.getElem?_toArray, List.getElem?_cons_zero, List.getElem?_cons_succ, List.drop_zero, List.take_succ_cons, List.take_zero, Oct.bl]
          rw [if_neg (by omega), if_neg (by omega), F14.e6]
          simp (disch := first | omega | assumption | exact isC_last | exact isC_app (by first | assumption | exact isC_last | exact isC_app (by first | assumption | exact isC_last)) | (simp [oneC]; done) | fail) only [F14.t6, bQuo, bRem, bShl, bShr, IntWalk.i64_in, IntWalk.u64_in, IntWalk.u8_in, IntWalk.i8_in, IntWalk.u32_in, IntWalk.i32_in, IntWalk.u8_quo, IntWalk.i64_quo, IntWalk.u64_quo, IntWalk.rem_in, evs0, evs1, evs2, evs3, evs4, evs5, evs6, if_true, if_false, ↓reduceIte, Nat.reduceEqDiff, Nat.reduceAdd, Nat.reduceMul, Nat.reduceSub, Nat.reduceLeDiff, Int.reduceLT, Int.reduceLE, Int.reduceEq, Bool.false_eq_true, Option.bind_some, Option.map_some, List.set_cons_zero, List.set_cons_succ, List.toList_toArray, List.size_toArray, List.length_cons, List.length_nil, List.getElem?_toArray, List.getElem?_cons_zero, List.getElem?_cons_succ, List.drop_zero, List.take_succ_cons, List.take_zero, Oct.bl]
          rw [show (16 : Int) * (d1 : Int) + (d2 : Int) = ((UInt8.ofNat (16 * d1 + d2)).toNat : Int) by rw [UInt8.toNat_ofNat']; omega]
          obtain ⟨v', h2, q1, A2, S2⟩ := (A.ext (Ext.app hh [.cells true (enc 1 5) [.int .u8 (UInt8.ofNat (16 * d1 + d2)).toNat]])).append src_one (by simp; omega)
          simp (disch := first | omega | assumption | exact isC_last | exact isC_app (by first | assumption | exact isC_last | exact isC_app (by first | assumption | exact isC_last)) | (simp [oneC]; done) | fail) only [q1, evs0, evs1, evs2, evs3, evs4, evs5, evs6, if_true, if_false, ↓reduceIte, Nat.reduceEqDiff, Nat.reduceAdd, Nat.reduceMul, Nat.reduceSub, Nat.reduceLeDiff, Int.reduceLT, Int.reduceLE, Int.reduceEq, Bool.false_eq_true, Option.bind_some, Option.map_some, List.set_cons_zero, List.set_cons_succ, List.toList_toArray, List.size_toArray, List.length_cons, List.length_nil, List.getElem?_toArray, List.getElem?_cons_zero, List.getElem?_cons_succ, List.drop_zero, List.take_succ_cons, List.take_zero, Oct.bl]
          rw [F14.e7]
          simp (disch := first | omega | assumption | exact isC_last | exact isC_app (by first | assumption | exact isC_last | exact isC_app (by first | assumption | exact isC_last)) | (simp [oneC]; done) | fail) only [F14.t7, evs0, evs1, evs2, evs3, evs4, evs5, evs6, if_true, if_false, ↓reduceIte, Nat.reduceEqDiff, Nat.reduceAdd, Nat.reduceMul, Nat.reduceSub, Nat.reduceLeDiff, Int.reduceLT, Int.reduceLE, Int.reduceEq, Bool.false_eq_true, Option.bind_some, Option.map_some, List.set_cons_zero, List.set_cons_succ, List.toList_toArray, List.size_toArray, List.length_cons, List.length_nil, List.getElem?_toArray, List.getElem?_cons_zero, List.getElem?_cons_succ, List.drop_zero, List.take_succ_cons, List.take_zero, Oct.bl]
          rw [IntWalk.i64_in _ (by omega)]
          refine ⟨by trivial, l.length - (j + 2), by omega, j + 2, v', _, by congr 5, by omega, by simp; omega, ?_, A2, (S.trans (Sw.of_ext (Ext.app _ _))).trans S2, rfl⟩
          rw [E]
          cases unhexS (l.drop (j + 2)) <;> simp
    · rw [if_neg (by omega), F14.e8]
      unfold F14.t8
      simp (disch := first | omega | assumption | exact isC_last | exact isC_app (by first | assumption | exact isC_last | exact isC_app (by first | assumption | exact isC_last)) | (simp [oneC]; done) | fail) only [A.str, evs0, evs1, evs2, evs3, evs4, evs5, evs6, if_true, if_false, ↓reduceIte, Nat.reduceEqDiff, Nat.reduceAdd, Nat.reduceMul, Nat.reduceSub, Nat.reduceLeDiff, Int.reduceLT, Int.reduceLE, Int.reduceEq, Bool.false_eq_true, Option.bind_some, Option.map_some, List.set_cons_zero, List.set_cons_succ, List.toList_toArray, List.size_toArray, List.length_cons, List.length_nil, List.getElem?_toArray, List.getElem?_cons_zero, List.getElem?_cons_succ, List.drop_zero, List.take_succ_cons, List.take_zero, Oct.bl]
      rw [← hHP]
      refine ⟨?_, S.ext⟩
      unfold unhexV
      rw [E, List.drop_of_length_le (by omega)]
      simp [unhexS]
  · rw [if_neg (by omega), F14.e1]
    simp (disch := first | omega | assumption | exact isC_last | exact isC_app (by first | assumption | exact isC_last | exact isC_app (by first | assumption | exact isC_last)) | (simp [oneC]; done) | fail) only [F14.t1, nil_bs, evs0, evs1, evs2, evs3, evs4, evs5, evs6, if_true, if_false, ↓reduceIte, Nat.reduceEqDiff, Nat.reduceAdd, Nat.reduceMul, Nat.reduceSub, Nat.reduceLeDiff, Int.reduceLT, Int.reduceLE, Int.reduceEq, Bool.false_eq_true, Option.bind_some, Option.map_some, List.set_cons_zero, List.set_cons_succ, List.toList_toArray, List.size_toArray, List.length_cons, List.length_nil, List.getElem?_toArray, List.getElem?_cons_zero, List.getElem?_cons_succ, List.drop_zero, List.take_succ_cons, List.take_zero, Oct.bl]
    rw [← hHP]
    refine ⟨?_, Ext.refl _⟩
    unfold unhexV
    rw [unhex_odd l.length (Nat.le_refl _) (by omega)]
set_option maxRecDepth 20000 in
theorem OctetHex_ok {s t : List UInt8} (hs : 2 * s.length ≤ 2 ^ 47) (ht : t.length ≤ 2 ^ 47) : Cn Tryd.prog n0 (.func 4) [.string (bs s), .string (bs t)] h (fun v _ => v = .bool true) := by
  refine F4.enter ?_
  rw [F4.e0]
  unfold F4.t0
  refine (RUnhex_ok ht).mono ?_
  rintro _ h1 ⟨rfl, _⟩
  have e : ∃ a k, unhexV t = .tuple #[.string (bs a), .int .i64 k] := by unfold unhexV; cases unhexS t <;> exact ⟨_, _, rfl⟩
  obtain ⟨a, k, e⟩ := e
  rw [e]
  simp (disch := first | omega | assumption | exact isC_last | exact isC_app (by first | assumption | exact isC_last | exact isC_app (by first | assumption | exact isC_last)) | (simp [oneC]; done) | fail) only [evs0, evs1, evs2, evs3, evs4, evs5, evs6, if_true, if_false, ↓reduceIte, Nat.reduceEqDiff, Nat.reduceAdd, Nat.reduceMul, Nat.reduceSub, Nat.reduceLeDiff, Int.reduceLT, Int.reduceLE, Int.reduceEq, Bool.false_eq_true, Option.bind_some, Option.map_some, List.set_cons_zero, List.set_cons_succ, List.toList_toArray, List.size_toArray, List.length_cons, List.length_nil, List.getElem?_toArray, List.getElem?_cons_zero, List.getElem?_cons_succ, List.drop_zero, List.take_succ_cons, List.take_zero, Oct.bl]
  refine (Unhex_ok ht).mono ?_
  rintro _ h2 ⟨rfl, _⟩
  rw [e]
  simp (disch := first | omega | assumption | exact isC_last | exact isC_app (by first | assumption | exact isC_last | exact isC_app (by first | assumption | exact isC_last)) | (simp [oneC]; done) | fail) only [evs0, evs1, evs2, evs3, evs4, evs5, evs6, if_true, if_false, ↓reduceIte, Nat.reduceEqDiff, Nat.reduceAdd, Nat.reduceMul, Nat.reduceSub, Nat.reduceLeDiff, Int.reduceLT, Int.reduceLE, Int.reduceEq, Bool.false_eq_true, Option.bind_some, Option.map_some, List.set_cons_zero, List.set_cons_succ, List.toList_toArray, List.size_toArray, List.length_cons, List.length_nil, List.getElem?_toArray, List.getElem?_cons_zero, List.getElem?_cons_succ, List.drop_zero, List.take_succ_cons, List.take_zero, Oct.bl]
  refine (Hex_ok hs).mono ?_
  rintro _ h3 ⟨rfl, _⟩
  refine (RHex_ok hs).mono ?_
  rintro _ h4 ⟨rfl, _⟩
  simp (disch := first | omega | assumption | exact isC_last | exact isC_app (by first | assumption | exact isC_last | exact isC_app (by first | assumption | exact isC_last)) | (simp [oneC]; done) | fail) only [evs0, evs1, evs2, evs3, evs4, evs5, evs6, if_true, if_false, ↓reduceIte, Nat.reduceEqDiff, Nat.reduceAdd, Nat.reduceMul, Nat.reduceSub, Nat.reduceLeDiff, Int.reduceLT, Int.reduceLE, Int.reduceEq, Bool.false_eq_true, Option.bind_some, Option.map_some, List.set_cons_zero, List.set_cons_succ, List.toList_toArray, List.size_toArray, List.length_cons, List.length_nil, List.getElem?_toArray, List.getElem?_cons_zero, List.getElem?_cons_succ, List.drop_zero, List.take_succ_cons, List.take_zero, Oct.bl]
  refine Wakes_ok.mono ?_
  rintro _ h5 ⟨rfl, _⟩
  simp (disch := first | omega | assumption | exact isC_last | exact isC_app (by first | assumption | exact isC_last | exact isC_app (by first | assumption | exact isC_last)) | (simp [oneC]; done) | fail) only [evs0, evs1, evs2, evs3, evs4, evs5, evs6, if_true, if_false, ↓reduceIte, Nat.reduceEqDiff, Nat.reduceAdd, Nat.reduceMul, Nat.reduceSub, Nat.reduceLeDiff, Int.reduceLT, Int.reduceLE, Int.reduceEq, Bool.false_eq_true, Option.bind_some, Option.map_some, List.set_cons_zero, List.set_cons_succ, List.toList_toArray, List.size_toArray, List.length_cons, List.length_nil, List.getElem?_toArray, List.getElem?_cons_zero, List.getElem?_cons_succ, List.drop_zero, List.take_succ_cons, List.take_zero, Oct.bl]
end Go.Proofs.YtcdnnpbpadhgeaaDoor
