/- The xorshift, breakPatternsOrdered, choosePivotOrdered. No condition. -/
import Derived.Test.YtjdcdabbbmhffaaLen
set_option linter.unusedVariables false
set_option linter.unusedSimpArgs false
namespace Go.Proofs.Ytjdcdabbbmhffaa
open Go.Ev
open Go.Sort (swp ltInt PermIn)
variable {n0 : Nat} {h : H}
/-- everything but block b stays -/
def Kp (b : Nat) (h h2 : H) : Prop := h.length ≤ h2.length ∧ ∀ j ob, j ≠ b → h[j]? = some ob → h2[j]? = some ob
theorem Kp.refl {b : Nat} : Kp b h h := ⟨Nat.le_refl _, fun _ _ _ e => e⟩
theorem Kp.trans {b : Nat} {h2 h3 : H} (x : Kp b h h2) (y : Kp b h2 h3) : Kp b h h3 := ⟨Nat.le_trans x.1 y.1, fun j ob a e => y.2 j ob a (x.2 j ob a e)⟩
theorem Kp.app {b : Nat} (t : H) : Kp b h (h ++ t) := ⟨by simp, fun _ _ _ e => get_app e⟩
def S (h : H) (p e : Nat) (v : Value) : H := h.set p (.cells true e [v])
theorem S_len {p e : Nat} {v : Value} : (S h p e v).length = h.length := by simp [S]
theorem S_S {p e : Nat} {v v' : Value} : S (S h p e v) p e v' = S h p e v' := by simp [S]
theorem S_get {p e : Nat} {v : Value} (hp : p < h.length) : (S h p e v)[p]? = some (.cells true e [v]) := by unfold S; rw [List.getElem?_set_self hp]
theorem S_W {p e b : Nat} {v : Value} {d : Array Int} (hne : p ≠ b) : S (W h b d) p e v = W (S h p e v) b d := by unfold S W; rw [List.set_comm _ _ (fun x => hne x.symm)]
theorem W_app {b : Nat} {d : Array Int} {ob : Ob} (hb : b < h.length) : W h b d ++ [ob] = W (h ++ [ob]) b d := by unfold W; rw [List.set_append_left _ _ hb]
theorem S_last {p e : Nat} {v v' : Value} (hp : p = h.length) : h ++ [.cells true e [v]] = S (h ++ [.cells true e [v']]) p e v := by subst hp; unfold S; rw [set_last]
theorem Kp.S {b p e : Nat} {v : Value} {h2 : H} (x : Kp b h h2) (hp : h.length ≤ p) : Kp b h (S h2 p e v) := ⟨by rw [S_len]; exact x.1, fun j ob a e => by unfold Go.Proofs.Ytjdcdabbbmhffaa.S; exact set_ne (x.2 j ob a e) (by have := lt_of_some e; omega)⟩
theorem rdS {p e : Nat} {v : Value} (hp : p < h.length) : rd (S h p e v) p 0 = some v := by rw [rd_cells (S_get hp)]; rfl
theorem wrS {p e : Nat} {v : Value} {k : IntKind} {z : Int} (hp : p < h.length) : wr (S h p e v) p 0 [.int k z] = some (S h p e (.int k z)) := by
  rw [wr_cells (S_get hp) (by simp) rfl, over_eq (by simp)]
  unfold S; rw [List.set_set]
set_option maxRecDepth 20000 in
theorem Next_ok {p : Nat} {x : Nat} (hp : p < h.length) : Cn Try.prog n0 (.func 74) [.pointer (some ⟨p, 0, none⟩)] (S h p (enc 0 76) (.int .u64 x)) (fun v h' => ∃ y : Nat, y < 2 ^ 64 ∧ v = .int .u64 y ∧ h' = S h p (enc 0 76) (.int .u64 y)) := by
  refine F74.enter ?_
  rw [F74.e0]
  simp (disch := first | omega | assumption | exact isC_last | exact isC_app (by first | assumption | exact isC_last | exact isC_app (by first | assumption | exact isC_last)) | (simp [oneC]; done) | fail) only [F74.t0, rdS, wrS, bShl, bShr, bXor, evs0, evs1, evs2, evs3, evs4, evs5, evs6, evs7, evs8, if_true, if_false, ↓reduceIte, Nat.reduceEqDiff, Nat.reduceAdd, Nat.reduceMul, Nat.reduceSub, Nat.reduceLeDiff, Int.reduceLT, Int.reduceLE, Int.reduceEq, Bool.false_eq_true, Option.bind_some, Option.map_some, List.set_cons_zero, List.set_cons_succ, List.toList_toArray, List.size_toArray, List.length_cons, List.length_nil, List.getElem?_toArray, List.getElem?_cons_zero, List.getElem?_cons_succ, List.drop_zero, List.take_succ_cons, List.take_zero]
  obtain ⟨y, hy, hy2⟩ := iXorU (iXor .u64 (iXor .u64 x (iShl .u64 x 13)) (iShr .u64 (iXor .u64 x (iShl .u64 x 13)) 7)) (iShl .u64 (iXor .u64 (iXor .u64 x (iShl .u64 x 13)) (iShr .u64 (iXor .u64 x (iShl .u64 x 13)) 7)) 17)
  rw [hy]
  exact ⟨y, hy2, rfl, rfl⟩
theorem iAndU {x L : Nat} (hx : x < 2 ^ 64) (hL : L ≤ 61) : ∃ o : Nat, iAnd .u64 (x : Int) (IntKind.u64.wrap (((2 ^ L : Nat) : Int) - 1)) = (o : Int) ∧ o < 2 ^ L := by
  have hp : 0 < 2 ^ L := Nat.pow_pos (by omega)
  have hp2 : 2 ^ L ≤ 2 ^ 61 := Nat.pow_le_pow_right (by omega) hL
  have e : ((2 ^ L : Nat) : Int) - 1 = ((2 ^ L - 1 : Nat) : Int) := by rw [Int.ofNat_sub hp]; rfl
  have hlt : 2 ^ L - 1 < 2 ^ 64 := by omega
  rw [e, IntWalk.u64_in _ ⟨Int.natCast_nonneg _, by have : ((2 ^ L - 1 : Nat) : Int) ≤ ((2 ^ 61 : Nat) : Int) := Int.ofNat_le.2 (by omega); omega⟩]
  unfold iAnd
  rw [ofInt_nat, ofInt_nat, BitVec.toNat_and, BitVec.toNat_ofNat, BitVec.toNat_ofNat]
  simp only [IntKind.bits]
  rw [Nat.mod_eq_of_lt hx, Nat.mod_eq_of_lt hlt, Nat.and_two_pow_sub_one_eq_mod]
  have hm : x % 2 ^ L < 2 ^ L := Nat.mod_lt _ hp
  refine ⟨x % 2 ^ L, IntWalk.u64_in _ ⟨Int.natCast_nonneg _, ?_⟩, hm⟩
  have : ((x % 2 ^ L : Nat) : Int) ≤ ((2 ^ 61 : Nat) : Int) := Int.ofNat_le.2 (by omega)
  omega
set_option maxRecDepth 20000 in
theorem break_ok {b n a e : Nat} {d : Array Int} (hb : b < h.length) (hn : d.size = n) (hae : a ≤ e) (hen : e ≤ n) (h63 : n < 2 ^ 60) :
    Cn Try.prog n0 (.func 63) [V b n, .int .i64 a, .int .i64 e] (W h b d) (fun _ h' => ∃ h2 d', h' = W h2 b d' ∧ Kp b h h2 ∧ PermIn a e d d') := by
  refine F63.enter ?_
  obtain ⟨HP, hHP⟩ : ∃ HP : Value → H → Prop, (fun (_ : Value) h' => ∃ h2 d', h' = W h2 b d' ∧ Kp b h h2 ∧ PermIn a e d d') = HP := ⟨_, rfl⟩
  rw [hHP, F63.e0]
  have e1 : IntKind.i64.wrap ((e : Int) - (a : Int)) = ((e - a : Nat) : Int) := by rw [IntWalk.i64_in _ (by omega)]; omega
  obtain ⟨l, hl⟩ : ∃ l, e - a = l := ⟨_, rfl⟩
  rw [hl] at e1
  simp (disch := first | omega | assumption | exact isC_last | exact isC_app (by first | assumption | exact isC_last | exact isC_app (by first | assumption | exact isC_last)) | (simp [oneC]; done) | fail) only [F63.t0, e1, evs0, evs1, evs2, evs3, evs4, evs5, evs6, evs7, evs8, if_true, if_false, ↓reduceIte, Nat.reduceEqDiff, Nat.reduceAdd, Nat.reduceMul, Nat.reduceSub, Nat.reduceLeDiff, Int.reduceLT, Int.reduceLE, Int.reduceEq, Bool.false_eq_true, Option.bind_some, Option.map_some, List.set_cons_zero, List.set_cons_succ, List.toList_toArray, List.size_toArray, List.length_cons, List.length_nil, List.getElem?_toArray, List.getElem?_cons_zero, List.getElem?_cons_succ, List.drop_zero, List.take_succ_cons, List.take_zero]
  by_cases h8 : 8 ≤ l
  · rw [if_pos (by omega), F63.e1]
    unfold F63.t1
    refine Bnd2_i (a := .int .u64 l) (b := W h b d) (by simp (disch := first | omega | assumption | exact isC_last | exact isC_app (by first | assumption | exact isC_last | exact isC_app (by first | assumption | exact isC_last)) | (simp [oneC]; done) | fail) only [evs0, evs1, evs2, evs3, evs4, evs5, evs6, evs7, evs8, if_true, if_false, ↓reduceIte, Nat.reduceEqDiff, Nat.reduceAdd, Nat.reduceMul, Nat.reduceSub, Nat.reduceLeDiff, Int.reduceLT, Int.reduceLE, Int.reduceEq, Bool.false_eq_true, Option.bind_some, Option.map_some, List.set_cons_zero, List.set_cons_succ, List.toList_toArray, List.size_toArray, List.length_cons, List.length_nil, List.getElem?_toArray, List.getElem?_cons_zero, List.getElem?_cons_succ, List.drop_zero, List.take_succ_cons, List.take_zero]; rw [IntWalk.u64_in _ (by omega)]) ?_
    simp (disch := first | omega | assumption | exact isC_last | exact isC_app (by first | assumption | exact isC_last | exact isC_app (by first | assumption | exact isC_last)) | (simp [oneC]; done) | fail) only [evs0, evs1, evs2, evs3, evs4, evs5, evs6, evs7, evs8, if_true, if_false, ↓reduceIte, Nat.reduceEqDiff, Nat.reduceAdd, Nat.reduceMul, Nat.reduceSub, Nat.reduceLeDiff, Int.reduceLT, Int.reduceLE, Int.reduceEq, Bool.false_eq_true, Option.bind_some, Option.map_some, List.set_cons_zero, List.set_cons_succ, List.toList_toArray, List.size_toArray, List.length_cons, List.length_nil, List.getElem?_toArray, List.getElem?_cons_zero, List.getElem?_cons_succ, List.drop_zero, List.take_succ_cons, List.take_zero]
    rw [W_len, W_app hb]
    have hne : h.length ≠ b := by omega
    have hst : ∀ {v : Value}, h ++ [.cells true (enc 0 76) [v]] = S (h ++ [.cells true (enc 0 76) [.int .u64 0]]) h.length (enc 0 76) v := S_last rfl
    rw [hst]
    have hg : h.length < (h ++ [Ob.cells true (enc 0 76) [.int .u64 0]]).length := by simp
    have hbg : b < (h ++ [Ob.cells true (enc 0 76) [.int .u64 0]]).length := by simp; omega
    have K0 : Kp b h (h ++ [Ob.cells true (enc 0 76) [.int .u64 0]]) := Kp.app _
    generalize (h ++ [Ob.cells true (enc 0 76) [.int .u64 0]]) = g at *
    refine (nextPow_ok (by omega) (by omega)).mono ?_
    rintro _ _ ⟨rfl, L, rfl, hLs, hL61⟩
    have eq4 : IntKind.i64.wrap ((l : Int).tdiv 4) = ((l / 4 : Nat) : Int) := by rw [Int.tdiv_eq_ediv_of_nonneg (by omega), IntWalk.i64_in _ (by omega)]; omega
    have eqm : IntKind.i64.wrap (((l / 4 : Nat) : Int) * 2) = ((l / 4 * 2 : Nat) : Int) := by rw [IntWalk.i64_in _ (by omega)]; omega
    have eqa : IntKind.i64.wrap ((a : Int) + ((l / 4 * 2 : Nat) : Int)) = ((a + l / 4 * 2 : Nat) : Int) := by rw [IntWalk.i64_in _ (by omega)]; omega
    have eqs : IntKind.i64.wrap (((a + l / 4 * 2 : Nat) : Int) - 1) = ((a + l / 4 * 2 - 1 : Nat) : Int) := by rw [IntWalk.i64_in _ (by omega)]; omega
    have eqp : IntKind.i64.wrap (((a + l / 4 * 2 : Nat) : Int) + 1) = ((a + l / 4 * 2 + 1 : Nat) : Int) := by rw [IntWalk.i64_in _ (by omega)]; omega
    simp (disch := first | omega | assumption | exact isC_last | exact isC_app (by first | assumption | exact isC_last | exact isC_app (by first | assumption | exact isC_last)) | (simp [oneC]; done) | fail) only [bQuo, eq4, eqm, eqa, eqs, evs0, evs1, evs2, evs3, evs4, evs5, evs6, evs7, evs8, if_true, if_false, ↓reduceIte, Nat.reduceEqDiff, Nat.reduceAdd, Nat.reduceMul, Nat.reduceSub, Nat.reduceLeDiff, Int.reduceLT, Int.reduceLE, Int.reduceEq, Bool.false_eq_true, Option.bind_some, Option.map_some, List.set_cons_zero, List.set_cons_succ, List.toList_toArray, List.size_toArray, List.length_cons, List.length_nil, List.getElem?_toArray, List.getElem?_cons_zero, List.getElem?_cons_succ, List.drop_zero, List.take_succ_cons, List.take_zero]
    have hgl := hg
    have hle : l ≤ n := by omega
    refine Lp_ind (fun m fr hh => ∃ (i x : Nat) (d' : Array Int), fr = [(0, V b n), (1, .int .i64 a), (6, .int .i64 l), (7, .pointer (some ⟨h.length, 0, none⟩)), (8, .int .u64 (2 ^ L : Nat)), (9, .int .i64 i)] ∧ a + l / 4 * 2 - 1 ≤ i ∧ i ≤ a + l / 4 * 2 + 2 ∧ x < 2 ^ 64 ∧ d'.size = n ∧ hh = W (S g h.length (enc 0 76) (.int .u64 x)) b d' ∧ PermIn a e d d' ∧ m = a + l / 4 * 2 + 2 - i) (F63.m2 n0) (a + l / 4 * 2 + 2 - (a + l / 4 * 2 - 1))
      ⟨a + l / 4 * 2 - 1, l, d, by simp (disch := first | omega | assumption | exact isC_last | exact isC_app (by first | assumption | exact isC_last | exact isC_app (by first | assumption | exact isC_last)) | (simp [oneC]; done) | fail) only [evs0, evs1, evs2, evs3, evs4, evs5, evs6, evs7, evs8, if_true, if_false, ↓reduceIte, Nat.reduceEqDiff, Nat.reduceAdd, Nat.reduceMul, Nat.reduceSub, Nat.reduceLeDiff, Int.reduceLT, Int.reduceLE, Int.reduceEq, Bool.false_eq_true, Option.bind_some, Option.map_some, List.set_cons_zero, List.set_cons_succ, List.toList_toArray, List.size_toArray, List.length_cons, List.length_nil, List.getElem?_toArray, List.getElem?_cons_zero, List.getElem?_cons_succ, List.drop_zero, List.take_succ_cons, List.take_zero], by omega, by omega, by omega, hn, rfl, Sort.permIn_refl d a e, rfl⟩ ?_
    rintro m fr hh ⟨i, x, d', rfl, hi1, hi2, hx, hs, rfl, hP, rfl⟩
    rw [F63.e2]
    simp (disch := first | omega | assumption | exact isC_last | exact isC_app (by first | assumption | exact isC_last | exact isC_app (by first | assumption | exact isC_last)) | (simp [oneC]; done) | fail) only [F63.t2, bQuo, eq4, eqm, eqa, eqp, evs0, evs1, evs2, evs3, evs4, evs5, evs6, evs7, evs8, if_true, if_false, ↓reduceIte, Nat.reduceEqDiff, Nat.reduceAdd, Nat.reduceMul, Nat.reduceSub, Nat.reduceLeDiff, Int.reduceLT, Int.reduceLE, Int.reduceEq, Bool.false_eq_true, Option.bind_some, Option.map_some, List.set_cons_zero, List.set_cons_succ, List.toList_toArray, List.size_toArray, List.length_cons, List.length_nil, List.getElem?_toArray, List.getElem?_cons_zero, List.getElem?_cons_succ, List.drop_zero, List.take_succ_cons, List.take_zero]
    by_cases h9 : i ≤ a + l / 4 * 2 + 1
    · rw [if_pos (by omega), F63.e3]
      unfold F63.t3
      rw [← S_W hne]
      refine (Next_ok (h := W g b d') (x := x) (by rw [W_len]; exact hg)).mono ?_
      rintro _ _ ⟨y, hy, rfl, rfl⟩
      rw [S_W hne]
      refine Bnd_i bSub ?_
      refine Bnd_i bAnd ?_
      obtain ⟨o, ho, ho2⟩ := iAndU hy hL61
      rw [ho]
      have ho3 : o < 2 * l := by have := hLs.2; omega
      have hbS : b < (S g h.length (enc 0 76) (.int .u64 y)).length := by rw [S_len]; exact hbg
      simp (disch := first | omega | assumption | exact isC_last | exact isC_app (by first | assumption | exact isC_last | exact isC_app (by first | assumption | exact isC_last)) | (simp [oneC]; done) | fail) only [evs0, evs1, evs2, evs3, evs4, evs5, evs6, evs7, evs8, if_true, if_false, ↓reduceIte, Nat.reduceEqDiff, Nat.reduceAdd, Nat.reduceMul, Nat.reduceSub, Nat.reduceLeDiff, Int.reduceLT, Int.reduceLE, Int.reduceEq, Bool.false_eq_true, Option.bind_some, Option.map_some, List.set_cons_zero, List.set_cons_succ, List.toList_toArray, List.size_toArray, List.length_cons, List.length_nil, List.getElem?_toArray, List.getElem?_cons_zero, List.getElem?_cons_succ, List.drop_zero, List.take_succ_cons, List.take_zero]
      rw [IntWalk.i64_in _ (by omega)]
      have main : ∀ q : Nat, q < l → F63.p5 n0 [(0, V b n), (1, .int .i64 a), (6, .int .i64 l), (7, .pointer (some ⟨h.length, 0, none⟩)), (8, .int .u64 (2 ^ L : Nat)), (9, .int .i64 i), (10, .int .i64 q)] [] (W (S g h.length (enc 0 76) (.int .u64 y)) b d') (KBlk [0, 1, 6, 7, 8, 9] 1 (KSeq [0, 1, 6, 7, 8, 9] (F63.p6 n0) (KLp [0, 1, 6, 7, 8, 9] (fun fr hh => ∃ m', m' < a + l / 4 * 2 + 2 - i ∧ ∃ (i x : Nat) (d' : Array Int), fr = [(0, V b n), (1, .int .i64 a), (6, .int .i64 l), (7, .pointer (some ⟨h.length, 0, none⟩)), (8, .int .u64 (2 ^ L : Nat)), (9, .int .i64 i)] ∧ a + l / 4 * 2 - 1 ≤ i ∧ i ≤ a + l / 4 * 2 + 2 ∧ x < 2 ^ 64 ∧ d'.size = n ∧ hh = W (S g h.length (enc 0 76) (.int .u64 x)) b d' ∧ PermIn a e d d' ∧ m' = a + l / 4 * 2 + 2 - i) [] (KBlk [] 0 (KFin Try.prog [] HP))))) := by
        intro q hq
        rw [F63.e5]
        have eq1 : IntKind.i64.wrap ((a : Int) + (q : Int)) = ((a + q : Nat) : Int) := by rw [IntWalk.i64_in _ (by omega)]; omega
        have eq2 : IntKind.i64.wrap ((i : Int) + 1) = ((i + 1 : Nat) : Int) := by rw [IntWalk.i64_in _ (by omega)]; omega
        simp (disch := first | omega | assumption | exact isC_last | exact isC_app (by first | assumption | exact isC_last | exact isC_app (by first | assumption | exact isC_last)) | (simp [oneC]; done) | fail) only [F63.t5, eq1, ixW, rdW, wrW, wrW2, swp_def, evs0, evs1, evs2, evs3, evs4, evs5, evs6, evs7, evs8, if_true, if_false, ↓reduceIte, Nat.reduceEqDiff, Nat.reduceAdd, Nat.reduceMul, Nat.reduceSub, Nat.reduceLeDiff, Int.reduceLT, Int.reduceLE, Int.reduceEq, Bool.false_eq_true, Option.bind_some, Option.map_some, List.set_cons_zero, List.set_cons_succ, List.toList_toArray, List.size_toArray, List.length_cons, List.length_nil, List.getElem?_toArray, List.getElem?_cons_zero, List.getElem?_cons_succ, List.drop_zero, List.take_succ_cons, List.take_zero]
        rw [F63.e6]
        simp (disch := first | omega | assumption | exact isC_last | exact isC_app (by first | assumption | exact isC_last | exact isC_app (by first | assumption | exact isC_last)) | (simp [oneC]; done) | fail) only [F63.t6, eq2, evs0, evs1, evs2, evs3, evs4, evs5, evs6, evs7, evs8, if_true, if_false, ↓reduceIte, Nat.reduceEqDiff, Nat.reduceAdd, Nat.reduceMul, Nat.reduceSub, Nat.reduceLeDiff, Int.reduceLT, Int.reduceLE, Int.reduceEq, Bool.false_eq_true, Option.bind_some, Option.map_some, List.set_cons_zero, List.set_cons_succ, List.toList_toArray, List.size_toArray, List.length_cons, List.length_nil, List.getElem?_toArray, List.getElem?_cons_zero, List.getElem?_cons_succ, List.drop_zero, List.take_succ_cons, List.take_zero]
        exact ⟨by trivial, a + l / 4 * 2 + 2 - (i + 1), by omega, i + 1, y, _, rfl, by omega, by omega, hy, by rw [swp_size]; exact hs, rfl, Sort.permIn_trans _ _ _ a e hP (Sort.swp_permIn d' a e i (a + q) (by omega) (by omega) (by omega) (by omega) (by omega)), rfl⟩
      by_cases h10 : l ≤ o
      · rw [if_pos (by omega), F63.e4]
        simp (disch := first | omega | assumption | exact isC_last | exact isC_app (by first | assumption | exact isC_last | exact isC_app (by first | assumption | exact isC_last)) | (simp [oneC]; done) | fail) only [F63.t4, evs0, evs1, evs2, evs3, evs4, evs5, evs6, evs7, evs8, if_true, if_false, ↓reduceIte, Nat.reduceEqDiff, Nat.reduceAdd, Nat.reduceMul, Nat.reduceSub, Nat.reduceLeDiff, Int.reduceLT, Int.reduceLE, Int.reduceEq, Bool.false_eq_true, Option.bind_some, Option.map_some, List.set_cons_zero, List.set_cons_succ, List.toList_toArray, List.size_toArray, List.length_cons, List.length_nil, List.getElem?_toArray, List.getElem?_cons_zero, List.getElem?_cons_succ, List.drop_zero, List.take_succ_cons, List.take_zero]
        rw [show IntKind.i64.wrap ((o : Int) - (l : Int)) = ((o - l : Nat) : Int) by rw [IntWalk.i64_in _ (by omega)]; omega]
        exact main (o - l) (by omega)
      · rw [if_neg (by omega)]
        exact main o (by omega)
    · rw [if_neg (by omega)]
      rw [← hHP]
      exact ⟨_, d', rfl, K0.S (Nat.le_refl _), hP⟩
  · rw [if_neg (by omega)]
    rw [← hHP]
    exact ⟨h, d, rfl, Kp.refl, Sort.permIn_refl d a e⟩
set_option maxRecDepth 20000 in
theorem order2_ok {b n i j p : Nat} {s : Int} {d : Array Int} (hb : b < h.length) (hp : p < h.length) (hne : p ≠ b) (hn : d.size = n) (hi : i < n) (hj : j < n) :
    Cn Try.prog n0 (.func 78) [V b n, .int .i64 i, .int .i64 j, .pointer (some ⟨p, 0, none⟩)] (W (S h p (enc 0 3) (.int .i64 s)) b d) (fun v h' => (∃ x y : Nat, v = .tuple #[.int .i64 x, .int .i64 y] ∧ ((x = i ∧ y = j) ∨ (x = j ∧ y = i))) ∧ ∃ s', h' = W (S h p (enc 0 3) (.int .i64 s')) b d) := by
  refine F78.enter ?_
  obtain ⟨HP, hHP⟩ : ∃ HP : Value → H → Prop, (fun v h' => (∃ x y : Nat, v = .tuple #[.int .i64 x, .int .i64 y] ∧ ((x = i ∧ y = j) ∨ (x = j ∧ y = i))) ∧ ∃ s', h' = W (S h p (enc 0 3) (.int .i64 s')) b d) = HP := ⟨_, rfl⟩
  have hbS : b < (S h p (enc 0 3) (.int .i64 s)).length := by rw [S_len]; exact hb
  rw [hHP, F78.e0]
  simp (disch := first | omega | assumption | exact isC_last | exact isC_app (by first | assumption | exact isC_last | exact isC_app (by first | assumption | exact isC_last)) | (simp [oneC]; done) | fail) only [F78.t0, ixW, rdW, evs0, evs1, evs2, evs3, evs4, evs5, evs6, evs7, evs8, if_true, if_false, ↓reduceIte, Nat.reduceEqDiff, Nat.reduceAdd, Nat.reduceMul, Nat.reduceSub, Nat.reduceLeDiff, Int.reduceLT, Int.reduceLE, Int.reduceEq, Bool.false_eq_true, Option.bind_some, Option.map_some, List.set_cons_zero, List.set_cons_succ, List.toList_toArray, List.size_toArray, List.length_cons, List.length_nil, List.getElem?_toArray, List.getElem?_cons_zero, List.getElem?_cons_succ, List.drop_zero, List.take_succ_cons, List.take_zero]
  refine lessQ.mono ?_
  rintro _ hx ⟨rfl, ex⟩; subst hx
  cases hl : ltInt d[j]! d[i]! with
  | true =>
    simp (disch := first | omega | assumption | exact isC_last | exact isC_app (by first | assumption | exact isC_last | exact isC_app (by first | assumption | exact isC_last)) | (simp [oneC]; done) | fail) only [evs0, evs1, evs2, evs3, evs4, evs5, evs6, evs7, evs8, if_true, if_false, ↓reduceIte, Nat.reduceEqDiff, Nat.reduceAdd, Nat.reduceMul, Nat.reduceSub, Nat.reduceLeDiff, Int.reduceLT, Int.reduceLE, Int.reduceEq, Bool.false_eq_true, Option.bind_some, Option.map_some, List.set_cons_zero, List.set_cons_succ, List.toList_toArray, List.size_toArray, List.length_cons, List.length_nil, List.getElem?_toArray, List.getElem?_cons_zero, List.getElem?_cons_succ, List.drop_zero, List.take_succ_cons, List.take_zero]
    rw [F78.e1, ← S_W hne]
    simp (disch := first | omega | assumption | exact isC_last | exact isC_app (by first | assumption | exact isC_last | exact isC_app (by first | assumption | exact isC_last)) | (simp [oneC]; done) | fail) only [F78.t1, rdS, wrS, W_len, evs0, evs1, evs2, evs3, evs4, evs5, evs6, evs7, evs8, if_true, if_false, ↓reduceIte, Nat.reduceEqDiff, Nat.reduceAdd, Nat.reduceMul, Nat.reduceSub, Nat.reduceLeDiff, Int.reduceLT, Int.reduceLE, Int.reduceEq, Bool.false_eq_true, Option.bind_some, Option.map_some, List.set_cons_zero, List.set_cons_succ, List.toList_toArray, List.size_toArray, List.length_cons, List.length_nil, List.getElem?_toArray, List.getElem?_cons_zero, List.getElem?_cons_succ, List.drop_zero, List.take_succ_cons, List.take_zero]
    rw [rdS (by rw [W_len]; exact hp)]
    simp (disch := first | omega | assumption | exact isC_last | exact isC_app (by first | assumption | exact isC_last | exact isC_app (by first | assumption | exact isC_last)) | (simp [oneC]; done) | fail) only [evs0, evs1, evs2, evs3, evs4, evs5, evs6, evs7, evs8, if_true, if_false, ↓reduceIte, Nat.reduceEqDiff, Nat.reduceAdd, Nat.reduceMul, Nat.reduceSub, Nat.reduceLeDiff, Int.reduceLT, Int.reduceLE, Int.reduceEq, Bool.false_eq_true, Option.bind_some, Option.map_some, List.set_cons_zero, List.set_cons_succ, List.toList_toArray, List.size_toArray, List.length_cons, List.length_nil, List.getElem?_toArray, List.getElem?_cons_zero, List.getElem?_cons_succ, List.drop_zero, List.take_succ_cons, List.take_zero]
    rw [wrS (by rw [W_len]; exact hp)]
    simp (disch := first | omega | assumption | exact isC_last | exact isC_app (by first | assumption | exact isC_last | exact isC_app (by first | assumption | exact isC_last)) | (simp [oneC]; done) | fail) only [evs0, evs1, evs2, evs3, evs4, evs5, evs6, evs7, evs8, if_true, if_false, ↓reduceIte, Nat.reduceEqDiff, Nat.reduceAdd, Nat.reduceMul, Nat.reduceSub, Nat.reduceLeDiff, Int.reduceLT, Int.reduceLE, Int.reduceEq, Bool.false_eq_true, Option.bind_some, Option.map_some, List.set_cons_zero, List.set_cons_succ, List.toList_toArray, List.size_toArray, List.length_cons, List.length_nil, List.getElem?_toArray, List.getElem?_cons_zero, List.getElem?_cons_succ, List.drop_zero, List.take_succ_cons, List.take_zero]
    rw [← hHP, S_W hne]
    exact ⟨⟨j, i, rfl, .inr ⟨rfl, rfl⟩⟩, _, rfl⟩
  | false =>
    simp (disch := first | omega | assumption | exact isC_last | exact isC_app (by first | assumption | exact isC_last | exact isC_app (by first | assumption | exact isC_last)) | (simp [oneC]; done) | fail) only [evs0, evs1, evs2, evs3, evs4, evs5, evs6, evs7, evs8, if_true, if_false, ↓reduceIte, Nat.reduceEqDiff, Nat.reduceAdd, Nat.reduceMul, Nat.reduceSub, Nat.reduceLeDiff, Int.reduceLT, Int.reduceLE, Int.reduceEq, Bool.false_eq_true, Option.bind_some, Option.map_some, List.set_cons_zero, List.set_cons_succ, List.toList_toArray, List.size_toArray, List.length_cons, List.length_nil, List.getElem?_toArray, List.getElem?_cons_zero, List.getElem?_cons_succ, List.drop_zero, List.take_succ_cons, List.take_zero]
    rw [F78.e2]
    simp (disch := first | omega | assumption | exact isC_last | exact isC_app (by first | assumption | exact isC_last | exact isC_app (by first | assumption | exact isC_last)) | (simp [oneC]; done) | fail) only [F78.t2, evs0, evs1, evs2, evs3, evs4, evs5, evs6, evs7, evs8, if_true, if_false, ↓reduceIte, Nat.reduceEqDiff, Nat.reduceAdd, Nat.reduceMul, Nat.reduceSub, Nat.reduceLeDiff, Int.reduceLT, Int.reduceLE, Int.reduceEq, Bool.false_eq_true, Option.bind_some, Option.map_some, List.set_cons_zero, List.set_cons_succ, List.toList_toArray, List.size_toArray, List.length_cons, List.length_nil, List.getElem?_toArray, List.getElem?_cons_zero, List.getElem?_cons_succ, List.drop_zero, List.take_succ_cons, List.take_zero]
    rw [← hHP]
    exact ⟨⟨i, j, rfl, .inl ⟨rfl, rfl⟩⟩, _, rfl⟩
set_option maxRecDepth 20000 in
theorem median_ok {b n i j k p : Nat} {s : Int} {d : Array Int} (hb : b < h.length) (hp : p < h.length) (hne : p ≠ b) (hn : d.size = n) (hi : i < n) (hj : j < n) (hk : k < n) :
    Cn Try.prog n0 (.func 76) [V b n, .int .i64 i, .int .i64 j, .int .i64 k, .pointer (some ⟨p, 0, none⟩)] (W (S h p (enc 0 3) (.int .i64 s)) b d) (fun v h' => (∃ x : Nat, v = .int .i64 x ∧ (x = i ∨ x = j ∨ x = k)) ∧ ∃ s', h' = W (S h p (enc 0 3) (.int .i64 s')) b d) := by
  refine F76.enter ?_
  obtain ⟨HP, hHP⟩ : ∃ HP : Value → H → Prop, (fun v h' => (∃ x : Nat, v = .int .i64 x ∧ (x = i ∨ x = j ∨ x = k)) ∧ ∃ s', h' = W (S h p (enc 0 3) (.int .i64 s')) b d) = HP := ⟨_, rfl⟩
  rw [hHP, F76.e0]
  unfold F76.t0
  refine (order2_ok hb hp hne hn hi hj).mono ?_
  rintro _ _ ⟨⟨x1, y1, rfl, c1⟩, s1, rfl⟩
  simp (disch := first | omega | assumption | exact isC_last | exact isC_app (by first | assumption | exact isC_last | exact isC_app (by first | assumption | exact isC_last)) | (simp [oneC]; done) | fail) only [evs0, evs1, evs2, evs3, evs4, evs5, evs6, evs7, evs8, if_true, if_false, ↓reduceIte, Nat.reduceEqDiff, Nat.reduceAdd, Nat.reduceMul, Nat.reduceSub, Nat.reduceLeDiff, Int.reduceLT, Int.reduceLE, Int.reduceEq, Bool.false_eq_true, Option.bind_some, Option.map_some, List.set_cons_zero, List.set_cons_succ, List.toList_toArray, List.size_toArray, List.length_cons, List.length_nil, List.getElem?_toArray, List.getElem?_cons_zero, List.getElem?_cons_succ, List.drop_zero, List.take_succ_cons, List.take_zero]
  refine (order2_ok hb hp hne hn (i := y1) (j := k) (by omega) hk).mono ?_
  rintro _ _ ⟨⟨x2, y2, rfl, c2⟩, s2, rfl⟩
  simp (disch := first | omega | assumption | exact isC_last | exact isC_app (by first | assumption | exact isC_last | exact isC_app (by first | assumption | exact isC_last)) | (simp [oneC]; done) | fail) only [evs0, evs1, evs2, evs3, evs4, evs5, evs6, evs7, evs8, if_true, if_false, ↓reduceIte, Nat.reduceEqDiff, Nat.reduceAdd, Nat.reduceMul, Nat.reduceSub, Nat.reduceLeDiff, Int.reduceLT, Int.reduceLE, Int.reduceEq, Bool.false_eq_true, Option.bind_some, Option.map_some, List.set_cons_zero, List.set_cons_succ, List.toList_toArray, List.size_toArray, List.length_cons, List.length_nil, List.getElem?_toArray, List.getElem?_cons_zero, List.getElem?_cons_succ, List.drop_zero, List.take_succ_cons, List.take_zero]
  refine (order2_ok hb hp hne hn (i := x1) (j := x2) (by omega) (by omega)).mono ?_
  rintro _ _ ⟨⟨x3, y3, rfl, c3⟩, s3, rfl⟩
  simp (disch := first | omega | assumption | exact isC_last | exact isC_app (by first | assumption | exact isC_last | exact isC_app (by first | assumption | exact isC_last)) | (simp [oneC]; done) | fail) only [evs0, evs1, evs2, evs3, evs4, evs5, evs6, evs7, evs8, if_true, if_false, ↓reduceIte, Nat.reduceEqDiff, Nat.reduceAdd, Nat.reduceMul, Nat.reduceSub, Nat.reduceLeDiff, Int.reduceLT, Int.reduceLE, Int.reduceEq, Bool.false_eq_true, Option.bind_some, Option.map_some, List.set_cons_zero, List.set_cons_succ, List.toList_toArray, List.size_toArray, List.length_cons, List.length_nil, List.getElem?_toArray, List.getElem?_cons_zero, List.getElem?_cons_succ, List.drop_zero, List.take_succ_cons, List.take_zero]
  rw [← hHP]
  exact ⟨⟨y3, rfl, by omega⟩, s3, rfl⟩
set_option maxRecDepth 20000 in
theorem medAdj_ok {b n i p : Nat} {s : Int} {d : Array Int} (hb : b < h.length) (hp : p < h.length) (hne : p ≠ b) (hn : d.size = n) (hi : 1 ≤ i) (hi2 : i + 1 < n) (h63 : n < 2 ^ 60) :
    Cn Try.prog n0 (.func 75) [V b n, .int .i64 i, .pointer (some ⟨p, 0, none⟩)] (W (S h p (enc 0 3) (.int .i64 s)) b d) (fun v h' => (∃ x : Nat, v = .int .i64 x ∧ i ≤ x + 1 ∧ x ≤ i + 1) ∧ ∃ s', h' = W (S h p (enc 0 3) (.int .i64 s')) b d) := by
  refine F75.enter ?_
  obtain ⟨HP, hHP⟩ : ∃ HP : Value → H → Prop, (fun v h' => (∃ x : Nat, v = .int .i64 x ∧ i ≤ x + 1 ∧ x ≤ i + 1) ∧ ∃ s', h' = W (S h p (enc 0 3) (.int .i64 s')) b d) = HP := ⟨_, rfl⟩
  rw [hHP, F75.e0]
  have e1 : IntKind.i64.wrap ((i : Int) - 1) = ((i - 1 : Nat) : Int) := by rw [IntWalk.i64_in _ (by omega)]; omega
  have e2 : IntKind.i64.wrap ((i : Int) + 1) = ((i + 1 : Nat) : Int) := by rw [IntWalk.i64_in _ (by omega)]; omega
  simp (disch := first | omega | assumption | exact isC_last | exact isC_app (by first | assumption | exact isC_last | exact isC_app (by first | assumption | exact isC_last)) | (simp [oneC]; done) | fail) only [F75.t0, e1, e2, evs0, evs1, evs2, evs3, evs4, evs5, evs6, evs7, evs8, if_true, if_false, ↓reduceIte, Nat.reduceEqDiff, Nat.reduceAdd, Nat.reduceMul, Nat.reduceSub, Nat.reduceLeDiff, Int.reduceLT, Int.reduceLE, Int.reduceEq, Bool.false_eq_true, Option.bind_some, Option.map_some, List.set_cons_zero, List.set_cons_succ, List.toList_toArray, List.size_toArray, List.length_cons, List.length_nil, List.getElem?_toArray, List.getElem?_cons_zero, List.getElem?_cons_succ, List.drop_zero, List.take_succ_cons, List.take_zero]
  refine (median_ok hb hp hne hn (by omega) (by omega) (by omega)).mono ?_
  rintro _ _ ⟨⟨x, rfl, c⟩, s', rfl⟩
  rw [← hHP]
  exact ⟨⟨x, rfl, by omega, by omega⟩, s', rfl⟩
set_option maxRecDepth 20000 in
theorem choose_ok {b n a e : Nat} {d : Array Int} (hb : b < h.length) (hn : d.size = n) (hae : a < e) (hen : e ≤ n) (h63 : n < 2 ^ 60) :
    Cn Try.prog n0 (.func 64) [V b n, .int .i64 a, .int .i64 e] (W h b d) (fun v h' => (∃ (x : Nat) (z : Int), v = .tuple #[.int .i64 x, .int .i64 z] ∧ a ≤ x ∧ x < e) ∧ ∃ h2, h' = W h2 b d ∧ Kp b h h2) := by
  refine F64.enter ?_
  obtain ⟨HP, hHP⟩ : ∃ HP : Value → H → Prop, (fun v h' => (∃ (x : Nat) (z : Int), v = .tuple #[.int .i64 x, .int .i64 z] ∧ a ≤ x ∧ x < e) ∧ ∃ h2, h' = W h2 b d ∧ Kp b h h2) = HP := ⟨_, rfl⟩
  rw [hHP, F64.e0]
  obtain ⟨l, hl⟩ : ∃ l, e - a = l := ⟨_, rfl⟩
  have e1 : IntKind.i64.wrap ((e : Int) - (a : Int)) = (l : Int) := by rw [IntWalk.i64_in _ (by omega)]; omega
  have eq4 : IntKind.i64.wrap ((l : Int).tdiv 4) = ((l / 4 : Nat) : Int) := by rw [Int.tdiv_eq_ediv_of_nonneg (by omega), IntWalk.i64_in _ (by omega)]; omega
  have em1 : IntKind.i64.wrap (((l / 4 : Nat) : Int) * 1) = ((l / 4 * 1 : Nat) : Int) := by rw [IntWalk.i64_in _ (by omega)]; omega
  have em2 : IntKind.i64.wrap (((l / 4 : Nat) : Int) * 2) = ((l / 4 * 2 : Nat) : Int) := by rw [IntWalk.i64_in _ (by omega)]; omega
  have em3 : IntKind.i64.wrap (((l / 4 : Nat) : Int) * 3) = ((l / 4 * 3 : Nat) : Int) := by rw [IntWalk.i64_in _ (by omega)]; omega
  have ea1 : IntKind.i64.wrap ((a : Int) + ((l / 4 * 1 : Nat) : Int)) = ((a + l / 4 * 1 : Nat) : Int) := by rw [IntWalk.i64_in _ (by omega)]; omega
  have ea2 : IntKind.i64.wrap ((a : Int) + ((l / 4 * 2 : Nat) : Int)) = ((a + l / 4 * 2 : Nat) : Int) := by rw [IntWalk.i64_in _ (by omega)]; omega
  have ea3 : IntKind.i64.wrap ((a : Int) + ((l / 4 * 3 : Nat) : Int)) = ((a + l / 4 * 3 : Nat) : Int) := by rw [IntWalk.i64_in _ (by omega)]; omega
  simp (disch := first | omega | assumption | exact isC_last | exact isC_app (by first | assumption | exact isC_last | exact isC_app (by first | assumption | exact isC_last)) | (simp [oneC]; done) | fail) only [F64.t0, e1, bQuo, eq4, em1, em2, em3, ea1, ea2, ea3, evs0, evs1, evs2, evs3, evs4, evs5, evs6, evs7, evs8, if_true, if_false, ↓reduceIte, Nat.reduceEqDiff, Nat.reduceAdd, Nat.reduceMul, Nat.reduceSub, Nat.reduceLeDiff, Int.reduceLT, Int.reduceLE, Int.reduceEq, Bool.false_eq_true, Option.bind_some, Option.map_some, List.set_cons_zero, List.set_cons_succ, List.toList_toArray, List.size_toArray, List.length_cons, List.length_nil, List.getElem?_toArray, List.getElem?_cons_zero, List.getElem?_cons_succ, List.drop_zero, List.take_succ_cons, List.take_zero]
  rw [W_len, W_app hb]
  have hne : h.length ≠ b := by omega
  have K0 : Kp b h (h ++ [Ob.cells true (enc 0 3) [.int .i64 0]]) := Kp.app _
  have hg : h.length < (h ++ [Ob.cells true (enc 0 3) [.int .i64 0]]).length := by simp
  have hbg : b < (h ++ [Ob.cells true (enc 0 3) [.int .i64 0]]).length := by simp; omega
  have hst : h ++ [.cells true (enc 0 3) [.int .i64 0]] = S (h ++ [.cells true (enc 0 3) [.int .i64 0]]) h.length (enc 0 3) (.int .i64 0) := S_last rfl
  generalize (h ++ [Ob.cells true (enc 0 3) [.int .i64 0]]) = g at *
  have last : ∀ (x : Nat) (s : Int), a ≤ x → x < e → F64.p4 n0 [(9, .pointer (some ⟨h.length, 0, none⟩)), (11, .int .i64 x)] [] (W (S g h.length (enc 0 3) (.int .i64 s)) b d) (KFin Try.prog [.tmp 6, .tmp 7] HP) := by
    intro x s h1 h2
    have fin : ∀ z : Int, HP (.tuple #[.int .i64 x, .int .i64 z]) (W (S g h.length (enc 0 3) (.int .i64 s)) b d) := by
      intro z; rw [← hHP]; exact ⟨⟨x, z, rfl, h1, h2⟩, _, rfl, K0.S (Nat.le_refl _)⟩
    rw [F64.e4, ← S_W hne]
    simp (disch := first | omega | assumption | exact isC_last | exact isC_app (by first | assumption | exact isC_last | exact isC_app (by first | assumption | exact isC_last)) | (simp [oneC]; done) | fail) only [F64.t4, evs0, evs1, evs2, evs3, evs4, evs5, evs6, evs7, evs8, if_true, if_false, ↓reduceIte, Nat.reduceEqDiff, Nat.reduceAdd, Nat.reduceMul, Nat.reduceSub, Nat.reduceLeDiff, Int.reduceLT, Int.reduceLE, Int.reduceEq, Bool.false_eq_true, Option.bind_some, Option.map_some, List.set_cons_zero, List.set_cons_succ, List.toList_toArray, List.size_toArray, List.length_cons, List.length_nil, List.getElem?_toArray, List.getElem?_cons_zero, List.getElem?_cons_succ, List.drop_zero, List.take_succ_cons, List.take_zero]
    rw [rdS (by rw [W_len]; exact hg), S_W hne]
    simp (disch := first | omega | assumption | exact isC_last | exact isC_app (by first | assumption | exact isC_last | exact isC_app (by first | assumption | exact isC_last)) | (simp [oneC]; done) | fail) only [evs0, evs1, evs2, evs3, evs4, evs5, evs6, evs7, evs8, if_true, if_false, ↓reduceIte, Nat.reduceEqDiff, Nat.reduceAdd, Nat.reduceMul, Nat.reduceSub, Nat.reduceLeDiff, Int.reduceLT, Int.reduceLE, Int.reduceEq, Bool.false_eq_true, Option.bind_some, Option.map_some, List.set_cons_zero, List.set_cons_succ, List.toList_toArray, List.size_toArray, List.length_cons, List.length_nil, List.getElem?_toArray, List.getElem?_cons_zero, List.getElem?_cons_succ, List.drop_zero, List.take_succ_cons, List.take_zero]
    by_cases q1 : s = 0
    · rw [if_pos q1, F64.e5]
      simp (disch := first | omega | assumption | exact isC_last | exact isC_app (by first | assumption | exact isC_last | exact isC_app (by first | assumption | exact isC_last)) | (simp [oneC]; done) | fail) only [F64.t5, evs0, evs1, evs2, evs3, evs4, evs5, evs6, evs7, evs8, if_true, if_false, ↓reduceIte, Nat.reduceEqDiff, Nat.reduceAdd, Nat.reduceMul, Nat.reduceSub, Nat.reduceLeDiff, Int.reduceLT, Int.reduceLE, Int.reduceEq, Bool.false_eq_true, Option.bind_some, Option.map_some, List.set_cons_zero, List.set_cons_succ, List.toList_toArray, List.size_toArray, List.length_cons, List.length_nil, List.getElem?_toArray, List.getElem?_cons_zero, List.getElem?_cons_succ, List.drop_zero, List.take_succ_cons, List.take_zero]
      exact fin 1
    · rw [if_neg q1, F64.e6]
      simp (disch := first | omega | assumption | exact isC_last | exact isC_app (by first | assumption | exact isC_last | exact isC_app (by first | assumption | exact isC_last)) | (simp [oneC]; done) | fail) only [F64.t6, evs0, evs1, evs2, evs3, evs4, evs5, evs6, evs7, evs8, if_true, if_false, ↓reduceIte, Nat.reduceEqDiff, Nat.reduceAdd, Nat.reduceMul, Nat.reduceSub, Nat.reduceLeDiff, Int.reduceLT, Int.reduceLE, Int.reduceEq, Bool.false_eq_true, Option.bind_some, Option.map_some, List.set_cons_zero, List.set_cons_succ, List.toList_toArray, List.size_toArray, List.length_cons, List.length_nil, List.getElem?_toArray, List.getElem?_cons_zero, List.getElem?_cons_succ, List.drop_zero, List.take_succ_cons, List.take_zero]
      by_cases q2 : s = 12
      · rw [if_pos q2, F64.e7]
        simp (disch := first | omega | assumption | exact isC_last | exact isC_app (by first | assumption | exact isC_last | exact isC_app (by first | assumption | exact isC_last)) | (simp [oneC]; done) | fail) only [F64.t7, evs0, evs1, evs2, evs3, evs4, evs5, evs6, evs7, evs8, if_true, if_false, ↓reduceIte, Nat.reduceEqDiff, Nat.reduceAdd, Nat.reduceMul, Nat.reduceSub, Nat.reduceLeDiff, Int.reduceLT, Int.reduceLE, Int.reduceEq, Bool.false_eq_true, Option.bind_some, Option.map_some, List.set_cons_zero, List.set_cons_succ, List.toList_toArray, List.size_toArray, List.length_cons, List.length_nil, List.getElem?_toArray, List.getElem?_cons_zero, List.getElem?_cons_succ, List.drop_zero, List.take_succ_cons, List.take_zero]
        exact fin 2
      · rw [if_neg q2, F64.e8]
        simp (disch := first | omega | assumption | exact isC_last | exact isC_app (by first | assumption | exact isC_last | exact isC_app (by first | assumption | exact isC_last)) | (simp [oneC]; done) | fail) only [F64.t8, evs0, evs1, evs2, evs3, evs4, evs5, evs6, evs7, evs8, if_true, if_false, ↓reduceIte, Nat.reduceEqDiff, Nat.reduceAdd, Nat.reduceMul, Nat.reduceSub, Nat.reduceLeDiff, Int.reduceLT, Int.reduceLE, Int.reduceEq, Bool.false_eq_true, Option.bind_some, Option.map_some, List.set_cons_zero, List.set_cons_succ, List.toList_toArray, List.size_toArray, List.length_cons, List.length_nil, List.getElem?_toArray, List.getElem?_cons_zero, List.getElem?_cons_succ, List.drop_zero, List.take_succ_cons, List.take_zero]
        exact fin 0
  by_cases h8 : 8 ≤ l
  · rw [if_pos (by omega), F64.e1]
    simp (disch := first | omega | assumption | exact isC_last | exact isC_app (by first | assumption | exact isC_last | exact isC_app (by first | assumption | exact isC_last)) | (simp [oneC]; done) | fail) only [F64.t1, evs0, evs1, evs2, evs3, evs4, evs5, evs6, evs7, evs8, if_true, if_false, ↓reduceIte, Nat.reduceEqDiff, Nat.reduceAdd, Nat.reduceMul, Nat.reduceSub, Nat.reduceLeDiff, Int.reduceLT, Int.reduceLE, Int.reduceEq, Bool.false_eq_true, Option.bind_some, Option.map_some, List.set_cons_zero, List.set_cons_succ, List.toList_toArray, List.size_toArray, List.length_cons, List.length_nil, List.getElem?_toArray, List.getElem?_cons_zero, List.getElem?_cons_succ, List.drop_zero, List.take_succ_cons, List.take_zero]
    have med : ∀ (i j k : Nat) (s : Int), a ≤ i → i < e → a ≤ j → j < e → a ≤ k → k < e → F64.p3 n0 [(0, V b n), (9, .pointer (some ⟨h.length, 0, none⟩)), (10, .int .i64 i), (11, .int .i64 j), (12, .int .i64 k)] [] (W (S g h.length (enc 0 3) (.int .i64 s)) b d) (KSeq [9, 11] (F64.p4 n0) (KFin Try.prog [.tmp 6, .tmp 7] HP)) := by
      intro i j k s a1 a2 a3 a4 a5 a6
      rw [F64.e3]
      unfold F64.t3
      refine (median_ok hbg hg hne hn (by omega) (by omega) (by omega)).mono ?_
      rintro _ _ ⟨⟨x, rfl, c⟩, s', rfl⟩
      simp (disch := first | omega | assumption | exact isC_last | exact isC_app (by first | assumption | exact isC_last | exact isC_app (by first | assumption | exact isC_last)) | (simp [oneC]; done) | fail) only [evs0, evs1, evs2, evs3, evs4, evs5, evs6, evs7, evs8, if_true, if_false, ↓reduceIte, Nat.reduceEqDiff, Nat.reduceAdd, Nat.reduceMul, Nat.reduceSub, Nat.reduceLeDiff, Int.reduceLT, Int.reduceLE, Int.reduceEq, Bool.false_eq_true, Option.bind_some, Option.map_some, List.set_cons_zero, List.set_cons_succ, List.toList_toArray, List.size_toArray, List.length_cons, List.length_nil, List.getElem?_toArray, List.getElem?_cons_zero, List.getElem?_cons_succ, List.drop_zero, List.take_succ_cons, List.take_zero]
      exact last x s' (by omega) (by omega)
    by_cases h50 : 50 ≤ l
    · rw [if_pos (by omega), F64.e2, hst]
      unfold F64.t2
      refine (medAdj_ok hbg hg hne hn (by omega) (by omega) h63).mono ?_
      rintro _ _ ⟨⟨x1, rfl, c1⟩, s1, rfl⟩
      refine (medAdj_ok hbg hg hne hn (by omega) (by omega) h63).mono ?_
      rintro _ _ ⟨⟨x2, rfl, c2⟩, s2, rfl⟩
      refine (medAdj_ok hbg hg hne hn (by omega) (by omega) h63).mono ?_
      rintro _ _ ⟨⟨x3, rfl, c3⟩, s3, rfl⟩
      simp (disch := first | omega | assumption | exact isC_last | exact isC_app (by first | assumption | exact isC_last | exact isC_app (by first | assumption | exact isC_last)) | (simp [oneC]; done) | fail) only [evs0, evs1, evs2, evs3, evs4, evs5, evs6, evs7, evs8, if_true, if_false, ↓reduceIte, Nat.reduceEqDiff, Nat.reduceAdd, Nat.reduceMul, Nat.reduceSub, Nat.reduceLeDiff, Int.reduceLT, Int.reduceLE, Int.reduceEq, Bool.false_eq_true, Option.bind_some, Option.map_some, List.set_cons_zero, List.set_cons_succ, List.toList_toArray, List.size_toArray, List.length_cons, List.length_nil, List.getElem?_toArray, List.getElem?_cons_zero, List.getElem?_cons_succ, List.drop_zero, List.take_succ_cons, List.take_zero]
      exact med x1 x2 x3 s3 (by omega) (by omega) (by omega) (by omega) (by omega) (by omega)
    · rw [if_neg (by omega), hst]
      exact med _ _ _ 0 (by omega) (by omega) (by omega) (by omega) (by omega) (by omega)
  · rw [if_neg (by omega), hst]
    exact last _ 0 (by omega) (by omega)
end Go.Proofs.Ytjdcdabbbmhffaa
