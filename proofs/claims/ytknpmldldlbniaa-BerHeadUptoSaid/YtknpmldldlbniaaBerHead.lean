/- BerHead answers true, of lists of less than 2^40 bytes. -/
import Derived.Test.YtknpmldldlbniaaLaw1
import Derived.Test.YtknpmldldlbniaaWorks
set_option linter.unusedVariables false
set_option linter.unusedSimpArgs false
namespace Go.Proofs.Ytknpmldldlbniaa
open Go.Ev Ber
set_option maxRecDepth 20000 in
theorem BerHead_ok {n0 : Nat} {h : H} {b : Value} {bs : List UInt8} {at' e : Int} (S : Sl h 1 b (bs.map bv)) (hl : bs.length < 2 ^ 40) (ha : -2 ^ 63 ≤ at') (ha2 : at' < 2 ^ 63) (he : -2 ^ 63 ≤ e) (he2 : e < 2 ^ 63) :
    Cn Try.prog n0 (.func 3) [b, .int .i64 at', .int .i64 e] h (fun v _ => v = .bool true) := by
  refine F3.enter ?_
  obtain ⟨HP, hHP⟩ : ∃ HP : Value → H → Prop, (fun v _ => v = .bool true) = HP := ⟨_, rfl⟩
  rw [hHP, F3.e0, F3.t0]
  refine (Lent_ok S hl).mono ?_
  rintro v h1 ⟨t1, blk, rfl, rfl, hblk, hB⟩
  have SL : Sl (h ++ t1) 1 (.slice (some ⟨blk, 0, none⟩) bs.length (bs.length + 5)) (bs.map bv) := Sl.mk (o := 0) hB (eS_enc' (by omega)) (by simp) (by simp) (by omega)
  replace S := S.app t1
  generalize h ++ t1 = h1 at hB SL S ⊢
  refine (Head_ok SL hl ha ha2 he he2).mono ?_
  rintro v h2 ⟨⟨ob, rfl⟩, rfl⟩
  refine Bnd_i (a := (headS bs at' e).1.v) rfl (Bnd_i (a := .int .i64 (headS bs at' e).2) rfl (NwSt sz_26 (by rw [zc_26]; rfl) rfl fun p1 h3 X b1 => ?_))
  replace X := (Ext.app _ _).trans X
  replace S := S.ext X
  replace SL := SL.ext X
  replace hB := X _ _ hB
  clear X
  refine (RefHead_ok S hl ha ha2 he he2).mono ?_
  rintro v h4 ⟨⟨t3, rfl⟩, rfl⟩
  refine Bnd_i (a := (headS bs at' e).1.v) rfl (Bnd_i (a := .int .i64 (headS bs at' e).2) rfl (NwSt sz_26 (by rw [zc_26]; rfl) rfl fun p2 h5 X b2 => ?_))
  replace X := (Ext.app _ _).trans X
  replace S := S.ext X
  replace SL := SL.ext X
  replace hB := X _ _ hB
  replace b1 := X _ _ b1
  clear X
  refine Bnd2_i len_22 ?_
  refine (Head_ok SL hl (by omega) (by omega) (by omega) (by omega)).mono ?_
  rintro v h6 ⟨⟨ob2, rfl⟩, rfl⟩
  refine Bnd_i (a := (headS bs 0 bs.length).1.v) rfl (Bnd_i (a := .int .i64 (headS bs 0 bs.length).2) rfl (NwSt sz_26 (by rw [zc_26]; rfl) rfl fun p3 h7 X b3 => ?_))
  replace X := (Ext.app _ _).trans X
  replace S := S.ext X
  replace SL := SL.ext X
  replace hB := X _ _ hB
  replace b1 := X _ _ b1
  replace b2 := X _ _ b2
  clear X
  obtain ⟨ad, c, rfl, hc⟩ := S.lenB
  refine Bnd2_i len_22 ?_
  refine (RefHead_ok S hl (by omega) (by omega) (by omega) (by omega)).mono ?_
  rintro v h8 ⟨⟨t4, rfl⟩, rfl⟩
  refine Bnd_i (a := (headS bs 0 bs.length).1.v) rfl (Bnd_i (a := .int .i64 (headS bs 0 bs.length).2) rfl (NwSt sz_26 (by rw [zc_26]; rfl) rfl fun p4 h9 X b4 => ?_))
  replace X := (Ext.app _ _).trans X
  replace S := S.ext X
  replace SL := SL.ext X
  replace hB := X _ _ hB
  replace b1 := X _ _ b1
  replace b2 := X _ _ b2
  replace b3 := X _ _ b3
  clear X
  simp only [Tlv.v, cells_agg, List.toList_toArray] at b1 b2 b3 b4
  simp (disch := first | omega | assumption | exact isC_last | exact isC_app (by first | assumption | exact isC_last | exact isC_app (by first | assumption | exact isC_last)) | (simp [oneC]; done) | fail) only [rd_blk0 (n := 5) b1 rfl, rd_blk0 (n := 5) b2 rfl, rd_blk0 (n := 5) b3 rfl, rd_blk0 (n := 5) b4 rfl, decide_true, beq_self_eq_true, Bool.and_self, bQuo, bRem, bShl, bShr, IntWalk.i64_in, IntWalk.u64_in, IntWalk.u8_in, IntWalk.i8_in, IntWalk.u32_in, IntWalk.i32_in, IntWalk.u8_quo, IntWalk.i64_quo, IntWalk.u64_quo, IntWalk.rem_in, bAdd, bSub, bMul, bAnd, bOr, bXor, bAndNot, bEql, bNeq, bLss, bLeq, bGtr, bGeq, uNot, uNeg, uXor, sEql, sNeq, Cnd_dec, Cnd_ndec, Gd_dec, Gd_ndec, Cnd_true, Cnd_false, Gd_true, Gd_false, Bnd_some, Bnd2_some, nw_eq, tup_at, nil_ptr, nil_fn, nil_yl, callV, kseq_n, kseq_r, kseq_e, kblk_n, kblk_r, kblk_e, klp_n, klp_r, klp_e, kfin_n, kfin_r, takeD_nil, resL_nil, resL_cons, res1_tmp, res1_cell, get_cons, keep_nil, keep_cons, consO_some, consO_none, get_nil, cells_agg, cells_int, cells_bool, cells_str, cells_ptr, cells_slice, cells_func, if_true, if_false, Bool.false_eq_true, Option.bind_some, Option.map_some, ↓reduceIte, Nat.reduceEqDiff, Nat.reduceAdd, Nat.reduceMul, Nat.reduceSub, Nat.reduceLeDiff, Int.reduceLT, Int.reduceLE, Int.reduceEq, wr_last, rd_last, rdN_last, wr_app, rd_app, rdN_app, isC_last, isC_app, over_eq, over_set, List.set_cons_zero, List.set_cons_succ, min2, max2, sm_self, set_last, set_app, tup1, tup2, List.toList_toArray, List.size_toArray, List.length_cons, List.length_nil, List.getElem?_toArray, List.getElem?_cons_zero, List.getElem?_cons_succ, List.drop_zero, List.take_succ_cons, List.take_zero, ld_100, ld_102, ld_108, ld_2, ld_22, ld_24, ld_26, ld_27, ld_3, ld_4, ld_47, ld_5, ld_59, ld_64, ld_67, ld_83, ld_89, ld_9, ld_94, ld_98, st_100, st_102, st_108, st_22, st_26, st_27, st_3, st_4, st_5, st_64, st_67, st_83, st_89, st_94, fa_102_0, fa_102_1, fa_108_0, fa_108_1, fa_26_0, fa_26_1, fa_26_2, fa_26_3, fa_26_4, fa_47_0, fa_47_1, fa_47_2, fa_47_3, fa_47_4, fa_75_0, fa_75_1, fa_85_0, fa_85_1, fa_91_0, fa_94_0, fa_94_1, fa_94_2, fa_98_0, fa_98_1, fa_98_2, fa_98_3, fa_98_4, fa_98_5, ia_100, ia_22, ia_41, ia_44, ia_59, ia_64, ia_67, ia_83, ia_89, ix_9, len_100, len_22, len_41, len_44, len_59, len_64, len_67, len_83, len_89, len_9, cv_120_5, cv_2_5, cv_24_2, cv_24_3, cv_24_5, cv_3_5, cv_3_78, cv_3_79, cv_5_2, cv_5_24, cv_5_3, cv_5_78, cv_78_3, cv_78_5, cv_79_120, cv_9_22, zc_100, zc_102, zc_108, zc_26, zc_27, zc_3, zc_4, zc_64, zc_67, zc_94, bd_26, bd_26_0_1_2_3_4, bd_26_0_1_2, bd_85, bd_91_0, bd_108_0, bd_94_0_1, bd_26_2_3_4, bd_26_2_4, bd_75_0_1, bd_102_0_1, bd_26_2, ap_100_100, ap_22_22, ap_44_44, ap_64_64, ap_67_67, ap_83_83, ap_89_89, bsl_22_5_0_1_2_3_4, bsl_44_1_0, bsl_22_1_0, bsl_83_1_0, bsl_44_2_0_1, bsl_89_1_0, bsl_22_2_0_1, bsl_64_1_0, bsl_67_1_0, bsl_100_1_0, eql_26_false, neq_26_false, eql_33_true_na, eql_33_true_an, eql_33_true_nn, mks_22]
  refine (Kept_ok S hl hB).mono ?_
  rintro v h10 ⟨rfl, rfl⟩
  simp (disch := first | omega | assumption | exact isC_last | exact isC_app (by first | assumption | exact isC_last | exact isC_app (by first | assumption | exact isC_last)) | (simp [oneC]; done) | fail) only [bQuo, bRem, bShl, bShr, IntWalk.i64_in, IntWalk.u64_in, IntWalk.u8_in, IntWalk.i8_in, IntWalk.u32_in, IntWalk.i32_in, IntWalk.u8_quo, IntWalk.i64_quo, IntWalk.u64_quo, IntWalk.rem_in, bAdd, bSub, bMul, bAnd, bOr, bXor, bAndNot, bEql, bNeq, bLss, bLeq, bGtr, bGeq, uNot, uNeg, uXor, sEql, sNeq, Cnd_dec, Cnd_ndec, Gd_dec, Gd_ndec, Cnd_true, Cnd_false, Gd_true, Gd_false, Bnd_some, Bnd2_some, nw_eq, tup_at, nil_ptr, nil_fn, nil_yl, callV, kseq_n, kseq_r, kseq_e, kblk_n, kblk_r, kblk_e, klp_n, klp_r, klp_e, kfin_n, kfin_r, takeD_nil, resL_nil, resL_cons, res1_tmp, res1_cell, get_cons, keep_nil, keep_cons, consO_some, consO_none, get_nil, cells_agg, cells_int, cells_bool, cells_str, cells_ptr, cells_slice, cells_func, if_true, if_false, Bool.false_eq_true, Option.bind_some, Option.map_some, ↓reduceIte, Nat.reduceEqDiff, Nat.reduceAdd, Nat.reduceMul, Nat.reduceSub, Nat.reduceLeDiff, Int.reduceLT, Int.reduceLE, Int.reduceEq, wr_last, rd_last, rdN_last, wr_app, rd_app, rdN_app, isC_last, isC_app, over_eq, over_set, List.set_cons_zero, List.set_cons_succ, min2, max2, sm_self, set_last, set_app, tup1, tup2, List.toList_toArray, List.size_toArray, List.length_cons, List.length_nil, List.getElem?_toArray, List.getElem?_cons_zero, List.getElem?_cons_succ, List.drop_zero, List.take_succ_cons, List.take_zero, ld_100, ld_102, ld_108, ld_2, ld_22, ld_24, ld_26, ld_27, ld_3, ld_4, ld_47, ld_5, ld_59, ld_64, ld_67, ld_83, ld_89, ld_9, ld_94, ld_98, st_100, st_102, st_108, st_22, st_26, st_27, st_3, st_4, st_5, st_64, st_67, st_83, st_89, st_94, fa_102_0, fa_102_1, fa_108_0, fa_108_1, fa_26_0, fa_26_1, fa_26_2, fa_26_3, fa_26_4, fa_47_0, fa_47_1, fa_47_2, fa_47_3, fa_47_4, fa_75_0, fa_75_1, fa_85_0, fa_85_1, fa_91_0, fa_94_0, fa_94_1, fa_94_2, fa_98_0, fa_98_1, fa_98_2, fa_98_3, fa_98_4, fa_98_5, ia_100, ia_22, ia_41, ia_44, ia_59, ia_64, ia_67, ia_83, ia_89, ix_9, len_100, len_22, len_41, len_44, len_59, len_64, len_67, len_83, len_89, len_9, cv_120_5, cv_2_5, cv_24_2, cv_24_3, cv_24_5, cv_3_5, cv_3_78, cv_3_79, cv_5_2, cv_5_24, cv_5_3, cv_5_78, cv_78_3, cv_78_5, cv_79_120, cv_9_22, zc_100, zc_102, zc_108, zc_26, zc_27, zc_3, zc_4, zc_64, zc_67, zc_94, bd_26, bd_26_0_1_2_3_4, bd_26_0_1_2, bd_85, bd_91_0, bd_108_0, bd_94_0_1, bd_26_2_3_4, bd_26_2_4, bd_75_0_1, bd_102_0_1, bd_26_2, ap_100_100, ap_22_22, ap_44_44, ap_64_64, ap_67_67, ap_83_83, ap_89_89, bsl_22_5_0_1_2_3_4, bsl_44_1_0, bsl_22_1_0, bsl_83_1_0, bsl_44_2_0_1, bsl_89_1_0, bsl_22_2_0_1, bsl_64_1_0, bsl_67_1_0, bsl_100_1_0, eql_26_false, neq_26_false, eql_33_true_na, eql_33_true_an, eql_33_true_nn, mks_22]
  refine Works_ok.mono ?_
  rintro v h11 ⟨rfl, rfl⟩
  rw [← hHP]

end Go.Proofs.Ytknpmldldlbniaa
