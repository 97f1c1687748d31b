/- Hex and Unhex. No condition. -/
import Derived.Test.YtcdnnpbpadhgeaaDoorBld
set_option linter.unusedVariables false
set_option linter.unusedSimpArgs false
namespace Oct
open Go Go.Ev
def hexl : List UInt8 := [48, 49, 50, 51, 52, 53, 54, 55, 56, 57, 97, 98, 99, 100, 101, 102]
theorem hexl_bs : (⟨#[48, 49, 50, 51, 52, 53, 54, 55, 56, 57, 97, 98, 99, 100, 101, 102]⟩ : ByteArray) = bs hexl := rfl
theorem hexl_at {n : Nat} (h : n < 16) : at' hexl n = (hexd n).toNat := by
  have : (List.range 16).all (fun n => decide (at' hexl n = (hexd n).toNat)) = true := by decide +kernel
  exact of_decide_eq_true (List.all_eq_true.1 this n (List.mem_range.2 h))
theorem shr4 {n : Nat} (h : n < 256) : iShr .u8 (n : Int) 4 = ((n / 16 : Nat) : Int) := of_decide_eq_true (byte_all (p := fun n => decide (iShr .u8 (n : Int) 4 = ((n / 16 : Nat) : Int))) (by decide +kernel) n h)
theorem and15 {n : Nat} (h : n < 256) : iAnd .u8 (n : Int) 15 = ((n % 16 : Nat) : Int) := of_decide_eq_true (byte_all (p := fun n => decide (iAnd .u8 (n : Int) 15 = ((n % 16 : Nat) : Int))) (by decide +kernel) n h)
def dg (c : UInt8) : Int := match dig false c with | some a => a | none => -1
theorem hex_ix (c : UInt8) : Lib.indexByte hexl c = dg c := by
  have := byte_all (p := fun n => decide (Lib.indexByte hexl (UInt8.ofNat n) = dg (UInt8.ofNat n))) (by decide +kernel) c.toNat (u8_lt c)
  have := of_decide_eq_true this
  rwa [show UInt8.ofNat c.toNat = c by simp] at this
theorem dig_lt {g : Bool} {c : UInt8} {a : Nat} (h : dig g c = some a) : a < 16 := by
  unfold dig at h
  split at h
  · cases h; omega
  · split at h
    · cases h; omega
    · split at h
      · cases h; omega
      · cases h
theorem mix {a b : Nat} (ha : a < 16) (hb : b < 16) : IntKind.u8.wrap (iOr .i64 (iShl .i64 (a : Int) 4) (iAnd .i64 (b : Int) 15)) = ((UInt8.ofNat (16 * a + b)).toNat : Int) := by
  have := byte_all (p := fun n => decide (IntKind.u8.wrap (iOr .i64 (iShl .i64 ((n / 16 : Nat) : Int) 4) (iAnd .i64 ((n % 16 : Nat) : Int) 15)) = ((UInt8.ofNat n).toNat : Int))) (by decide +kernel) (16 * a + b) (by omega)
  have := of_decide_eq_true this
  rwa [show (16 * a + b) / 16 = a by omega, show (16 * a + b) % 16 = b by omega] at this
def digS (l : List UInt8) : Option UInt8 := match l with | x :: y :: _ => dig2 false x y | _ => none
theorem hexS_len (l : List UInt8) : (hexS l).length = 2 * l.length := by
  induction l with
  | nil => rfl
  | cons x r ih => unfold hexS at ih ⊢; rw [List.flatMap_cons, List.length_append, ih]; simp [two]; omega
theorem hexS_snoc (l : List UInt8) (x : UInt8) : hexS (l ++ [x]) = hexS l ++ two x := by simp [hexS]
end Oct
namespace Go.Proofs.YtcdnnpbpadhgeaaDoor
open Go.Ev Oct
variable {n0 : Nat} {h : H}
theorem Sv.to_ext {ob : Ob} {h' : H} (s : Sv (h.length + 1) h.length (h ++ [ob]) h') : Ext h h' := by
  intro j o e
  have := lt_of_some e
  exact s.2 j o (by omega) (by omega) (get_app e)
theorem IndexByte_ok {l : List UInt8} {c : UInt8} : Cn Tryd.prog n0 (.func 40) [.string (bs l), .int .u8 c.toNat] h (fun v h' => v = .int .i64 (Lib.indexByte l c) ∧ h' = h) := by
  refine F40.enter ?_
  rw [F40.e0]
  unfold F40.t0
  refine F49.enter ?_
  rw [F49.e0]
  unfold F49.t0
  refine Cn_ext mixed names Tryd.func58 (by kernel_rfl) (h' := h) (v := .int .i64 (Lib.indexByte l c)) ?_ ?_
  · unfold evExt
    rw [if_pos (show Tryd.f58.origin = "" by kernel_rfl), if_neg (show ¬ Tryd.f58.name = "internal/abi.NoEscape" by rw [show Tryd.f58.name = "internal/bytealg.IndexByteString" by kernel_rfl]; decide), if_pos (show Tryd.f58.name = "internal/bytealg.IndexByteString" by kernel_rfl)]
    simp only [bs_data]
    rw [show ((c.toNat : Int).toNat.toUInt8) = c by simp]
    generalize Lib.indexByte l c = n
    unfold force
    split <;> rfl
  · simp (disch := first | omega | assumption | exact isC_last | exact isC_app (by first | assumption | exact isC_last | exact isC_app (by first | assumption | exact isC_last)) | (simp [oneC]; done) | fail) only [evs0, evs1, evs2, evs3, evs4, evs5, evs6, if_true, if_false, ↓reduceIte, Nat.reduceEqDiff, Nat.reduceAdd, Nat.reduceMul, Nat.reduceSub, Nat.reduceLeDiff, Int.reduceLT, Int.reduceLE, Int.reduceEq, Bool.false_eq_true, Option.bind_some, Option.map_some, List.set_cons_zero, List.set_cons_succ, List.toList_toArray, List.size_toArray, List.length_cons, List.length_nil, List.getElem?_toArray, List.getElem?_cons_zero, List.getElem?_cons_succ, List.drop_zero, List.take_succ_cons, List.take_zero, Oct.bl]
    exact ⟨trivial, trivial⟩
set_option maxRecDepth 20000 in
theorem digits_ok {l : List UInt8} (hl : l.length < 2 ^ 63) : Cn Tryd.prog n0 (.func 30) [.string (bs l)] h (fun v h' => (∃ c : Int, v = .tuple #[.int .u8 c, .bool (digS l).isSome] ∧ ∀ k, digS l = some k → c = k.toNat) ∧ h' = h) := by
  refine F30.enter ?_
  obtain ⟨HP, hHP⟩ : ∃ HP : Value → H → Prop, (fun v h' => (∃ c : Int, v = .tuple #[.int .u8 c, .bool (digS l).isSome] ∧ ∀ k, digS l = some k → c = k.toNat) ∧ h' = h) = HP := ⟨_, rfl⟩
  rw [hHP, F30.e0]
  simp (disch := first | omega | assumption | exact isC_last | exact isC_app (by first | assumption | exact isC_last | exact isC_app (by first | assumption | exact isC_last)) | (simp [oneC]; done) | fail) only [F30.t0, len_str un_9, evs0, evs1, evs2, evs3, evs4, evs5, evs6, if_true, if_false, ↓reduceIte, Nat.reduceEqDiff, Nat.reduceAdd, Nat.reduceMul, Nat.reduceSub, Nat.reduceLeDiff, Int.reduceLT, Int.reduceLE, Int.reduceEq, Bool.false_eq_true, Option.bind_some, Option.map_some, List.set_cons_zero, List.set_cons_succ, List.toList_toArray, List.size_toArray, List.length_cons, List.length_nil, List.getElem?_toArray, List.getElem?_cons_zero, List.getElem?_cons_succ, List.drop_zero, List.take_succ_cons, List.take_zero, Oct.bl]
  by_cases h2 : l.length < 2
  · rw [if_pos (by omega), F30.e1]
    simp (disch := first | omega | assumption | exact isC_last | exact isC_app (by first | assumption | exact isC_last | exact isC_app (by first | assumption | exact isC_last)) | (simp [oneC]; done) | fail) only [F30.t1, evs0, evs1, evs2, evs3, evs4, evs5, evs6, if_true, if_false, ↓reduceIte, Nat.reduceEqDiff, Nat.reduceAdd, Nat.reduceMul, Nat.reduceSub, Nat.reduceLeDiff, Int.reduceLT, Int.reduceLE, Int.reduceEq, Bool.false_eq_true, Option.bind_some, Option.map_some, List.set_cons_zero, List.set_cons_succ, List.toList_toArray, List.size_toArray, List.length_cons, List.length_nil, List.getElem?_toArray, List.getElem?_cons_zero, List.getElem?_cons_succ, List.drop_zero, List.take_succ_cons, List.take_zero, Oct.bl]
    rw [← hHP]
    have e : digS l = none := by
      match l, h2 with
      | [], _ => rfl
      | [x], _ => rfl
    exact ⟨⟨0, by rw [e]; rfl, fun k hk => by rw [e] at hk; cases hk⟩, rfl⟩
  · rw [if_neg (by omega), F30.e2]
    obtain ⟨x, y, r, rfl⟩ := two_of (l := l) (by omega)
    unfold F30.t2
    refine Bnd_i (ix_bs un_9 (by omega) (by omega)) ?_
    rw [hexl_bs]
    refine (IndexByte_ok (l := hexl) (c := x)).mono ?_
    rintro _ hx ⟨rfl, ex⟩; subst hx
    refine Bnd_i (ix_bs un_9 (by omega) (by omega)) ?_
    refine (IndexByte_ok (l := hexl) (c := y)).mono ?_
    rintro _ hx ⟨rfl, ex⟩; subst hx
    rw [hex_ix, hex_ix]
    simp (disch := first | omega | assumption | exact isC_last | exact isC_app (by first | assumption | exact isC_last | exact isC_app (by first | assumption | exact isC_last)) | (simp [oneC]; done) | fail) only [bQuo, bRem, bShl, bShr, IntWalk.i64_in, IntWalk.u64_in, IntWalk.u8_in, IntWalk.i8_in, IntWalk.u32_in, IntWalk.i32_in, IntWalk.u8_quo, IntWalk.i64_quo, IntWalk.u64_quo, IntWalk.rem_in, evs0, evs1, evs2, evs3, evs4, evs5, evs6, if_true, if_false, ↓reduceIte, Nat.reduceEqDiff, Nat.reduceAdd, Nat.reduceMul, Nat.reduceSub, Nat.reduceLeDiff, Int.reduceLT, Int.reduceLE, Int.reduceEq, Bool.false_eq_true, Option.bind_some, Option.map_some, List.set_cons_zero, List.set_cons_succ, List.toList_toArray, List.size_toArray, List.length_cons, List.length_nil, List.getElem?_toArray, List.getElem?_cons_zero, List.getElem?_cons_succ, List.drop_zero, List.take_succ_cons, List.take_zero, Oct.bl]
    have ed : digS (x :: y :: r) = dig2 false x y := rfl
    rw [← hHP, ed]
    unfold dg dig2
    cases hx : dig false x with
    | none =>
      simp only
      rw [if_neg (by omega)]
      exact ⟨⟨_, rfl, fun k hk => by cases hk⟩, by trivial⟩
    | some a =>
      cases hy : dig false y with
      | none =>
        simp only
        rw [if_pos (by omega)]
        exact ⟨⟨_, rfl, fun k hk => by cases hk⟩, by trivial⟩
      | some b =>
        simp only
        rw [if_pos (by omega), mix (dig_lt hx) (dig_lt hy)]
        refine ⟨⟨_, ?_, fun k hk => by cases hk; rfl⟩, by trivial⟩
        rw [decide_eq_true (by omega)]; rfl
set_option maxRecDepth 20000 in
theorem Hex_ok {l : List UInt8} (hl : 2 * l.length ≤ 2 ^ 47) : Cn Tryd.prog n0 (.func 16) [.string (bs l)] h (fun v h' => v = .string (bs (hexS l)) ∧ Ext h h') := by
  refine F16.enter ?_
  obtain ⟨HP, hHP⟩ : ∃ HP : Value → H → Prop, (fun v h' => v = .string (bs (hexS l)) ∧ Ext h h') = HP := ⟨_, rfl⟩
  rw [hHP, F16.e0]
  simp (disch := first | omega | assumption | exact isC_last | exact isC_app (by first | assumption | exact isC_last | exact isC_app (by first | assumption | exact isC_last)) | (simp [oneC]; done) | fail) only [F16.t0, len_str un_9, evs0, evs1, evs2, evs3, evs4, evs5, evs6, if_true, if_false, ↓reduceIte, Nat.reduceEqDiff, Nat.reduceAdd, Nat.reduceMul, Nat.reduceSub, Nat.reduceLeDiff, Int.reduceLT, Int.reduceLE, Int.reduceEq, Bool.false_eq_true, Option.bind_some, Option.map_some, List.set_cons_zero, List.set_cons_succ, List.toList_toArray, List.size_toArray, List.length_cons, List.length_nil, List.getElem?_toArray, List.getElem?_cons_zero, List.getElem?_cons_succ, List.drop_zero, List.take_succ_cons, List.take_zero, Oct.bl]
  have B0 := Bd.new (h := h) (T := 0)
  refine Lp_ind (fun m fr hh => ∃ j : Nat, fr = [(0, .string (bs l)), (3, .pointer (some ⟨h.length, 0, none⟩)), (6, .int .i64 l.length), (7, .int .i64 j)] ∧ j ≤ l.length ∧ Bd (h.length + 1) hh h.length (hexS (l.take j)) ∧ Sv (h.length + 1) h.length (h ++ [.cells true (enc 0 35) [.pointer none, .slice none 0 0]]) hh ∧ m = l.length - j) (F16.m1 n0) l.length
    ⟨0, by simp (disch := first | omega | assumption | exact isC_last | exact isC_app (by first | assumption | exact isC_last | exact isC_app (by first | assumption | exact isC_last)) | (simp [oneC]; done) | fail) only [evs0, evs1, evs2, evs3, evs4, evs5, evs6, if_true, if_false, ↓reduceIte, Nat.reduceEqDiff, Nat.reduceAdd, Nat.reduceMul, Nat.reduceSub, Nat.reduceLeDiff, Int.reduceLT, Int.reduceLE, Int.reduceEq, Bool.false_eq_true, Option.bind_some, Option.map_some, List.set_cons_zero, List.set_cons_succ, List.toList_toArray, List.size_toArray, List.length_cons, List.length_nil, List.getElem?_toArray, List.getElem?_cons_zero, List.getElem?_cons_succ, List.drop_zero, List.take_succ_cons, List.take_zero, Oct.bl]; rfl, by omega, B0, Sv.refl, rfl⟩ ?_
  rintro m fr hh ⟨j, rfl, hj, B, S, rfl⟩
  rw [F16.e1]
  simp (disch := first | omega | assumption | exact isC_last | exact isC_app (by first | assumption | exact isC_last | exact isC_app (by first | assumption | exact isC_last)) | (simp [oneC]; done) | fail) only [F16.t1, evs0, evs1, evs2, evs3, evs4, evs5, evs6, if_true, if_false, ↓reduceIte, Nat.reduceEqDiff, Nat.reduceAdd, Nat.reduceMul, Nat.reduceSub, Nat.reduceLeDiff, Int.reduceLT, Int.reduceLE, Int.reduceEq, Bool.false_eq_true, Option.bind_some, Option.map_some, List.set_cons_zero, List.set_cons_succ, List.toList_toArray, List.size_toArray, List.length_cons, List.length_nil, List.getElem?_toArray, List.getElem?_cons_zero, List.getElem?_cons_succ, List.drop_zero, List.take_succ_cons, List.take_zero, Oct.bl]
  by_cases h5 : j < l.length
  · rw [if_pos (by omega), F16.e2]
    unfold F16.t2
    have hlen : (hexS (l.take j)).length = 2 * j := by rw [hexS_len, List.length_take]; omega
    refine Bnd_i (ix_bs un_9 (by omega) (by omega)) ?_
    rw [Int.toNat_natCast, hexl_bs]
    refine Bnd_i (bShr (by omega)) ?_
    rw [shr4 at_lt]
    refine Bnd_i (ix_bs un_9 (by omega) (by have := at_lt (l := l) (k := j); show _ < ((16 : Nat) : Int); omega)) ?_
    rw [Int.toNat_natCast, hexl_at (by have := at_lt (l := l) (k := j); omega)]
    refine (WriteByte_ok B (by omega)).mono ?_
    rintro _ h1 ⟨rfl, B1, S1⟩
    refine Bnd_i (ix_bs un_9 (by omega) (by omega)) ?_
    rw [Int.toNat_natCast]
    refine Bnd_i bAnd ?_
    rw [and15 at_lt]
    refine Bnd_i (ix_bs un_9 (by omega) (by have := at_lt (l := l) (k := j); show _ < ((16 : Nat) : Int); omega)) ?_
    rw [Int.toNat_natCast, hexl_at (by omega)]
    refine (WriteByte_ok B1 (by rw [List.length_append, hlen]; simp; omega)).mono ?_
    rintro _ h2 ⟨rfl, B2, S2⟩
    rw [F16.e3]
    simp (disch := first | omega | assumption | exact isC_last | exact isC_app (by first | assumption | exact isC_last | exact isC_app (by first | assumption | exact isC_last)) | (simp [oneC]; done) | fail) only [F16.t3, evs0, evs1, evs2, evs3, evs4, evs5, evs6, if_true, if_false, ↓reduceIte, Nat.reduceEqDiff, Nat.reduceAdd, Nat.reduceMul, Nat.reduceSub, Nat.reduceLeDiff, Int.reduceLT, Int.reduceLE, Int.reduceEq, Bool.false_eq_true, Option.bind_some, Option.map_some, List.set_cons_zero, List.set_cons_succ, List.toList_toArray, List.size_toArray, List.length_cons, List.length_nil, List.getElem?_toArray, List.getElem?_cons_zero, List.getElem?_cons_succ, List.drop_zero, List.take_succ_cons, List.take_zero, Oct.bl]
    rw [IntWalk.i64_in _ (by omega)]
    refine ⟨by trivial, l.length - (j + 1), by omega, j + 1, by congr 5, by omega, ?_, (S.trans S1).trans S2, rfl⟩
    rw [List.take_add_one, List.getElem?_eq_getElem h5, Option.toList_some, hexS_snoc]
    have e : at' l j = l[j].toNat := by unfold at'; rw [List.getD_eq_getElem?_getD, List.getElem?_eq_getElem h5]; rfl
    rw [e, List.append_assoc] at B2
    exact B2
  · rw [if_neg (by omega), F16.e4]
    unfold F16.t4
    obtain rfl : j = l.length := by omega
    rw [List.take_length] at B
    refine (String_ok B (by rw [hexS_len]; omega)).mono ?_
    rintro _ h1 ⟨rfl, S1⟩
    simp (disch := first | omega | assumption | exact isC_last | exact isC_app (by first | assumption | exact isC_last | exact isC_app (by first | assumption | exact isC_last)) | (simp [oneC]; done) | fail) only [evs0, evs1, evs2, evs3, evs4, evs5, evs6, if_true, if_false, ↓reduceIte, Nat.reduceEqDiff, Nat.reduceAdd, Nat.reduceMul, Nat.reduceSub, Nat.reduceLeDiff, Int.reduceLT, Int.reduceLE, Int.reduceEq, Bool.false_eq_true, Option.bind_some, Option.map_some, List.set_cons_zero, List.set_cons_succ, List.toList_toArray, List.size_toArray, List.length_cons, List.length_nil, List.getElem?_toArray, List.getElem?_cons_zero, List.getElem?_cons_succ, List.drop_zero, List.take_succ_cons, List.take_zero, Oct.bl]
    rw [← hHP]
    exact ⟨rfl, (S.trans S1).to_ext⟩
end Go.Proofs.YtcdnnpbpadhgeaaDoor
