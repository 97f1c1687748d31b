/- BerWhole answers true, of lists of at most 2^20 bytes. -/
import Derived.Test.YtknpmldldlbniaaWEnd
import Derived.Test.YtknpmldldlbniaaLaw1
import Derived.Test.YtknpmldldlbniaaEvLay
import Derived.Test.YtknpmldldlbniaaBulk
set_option linter.unusedVariables false
set_option linter.unusedSimpArgs false
namespace Go.Proofs.Ytknpmldldlbniaa
open Go.Ev Ber
theorem eql_71 {f : Fn} {x y : Array Value} : aBin Try.prog true .eql 71 (.func f x y) .nilFunc = some (.bool false) := by kernel_rfl
set_option maxRecDepth 20000 in
theorem BerWhole_ok {n0 : Nat} {h : H} {b : Value} {bs : List UInt8} {a0 e stop : Int} (S : Sl h 1 b (bs.map bv)) (hl : bs.length ≤ 1048576) (ha : -2 ^ 63 ≤ a0) (ha2 : a0 < 2 ^ 63) (he : -2 ^ 63 ≤ e) (he2 : e < 2 ^ 63) :
    Cn Try.prog n0 (.func 10) [b, .int .i64 a0, .int .i64 e, .int .i64 stop] h (fun v _ => v = .bool true) := by
  refine F10.enter ?_
  obtain ⟨HP, hHP⟩ : ∃ HP : Value → H → Prop, (fun v _ => v = .bool true) = HP := ⟨_, rfl⟩
  rw [hHP, F10.e0]
  unfold F10.t0
  rw [nw_eq, nw_eq]
  have B7 : (h ++ [Ob.cells true (enc 0 3) (clL (.int .i64 stop))] ++ [.cells true (enc 0 4) (zc Try.prog 4)])[h.length]? = some (.cells true (enc 0 3) [.int .i64 stop]) := get_app get_last
  have B8 : (h ++ [Ob.cells true (enc 0 3) (clL (.int .i64 stop))] ++ [.cells true (enc 0 4) (zc Try.prog 4)])[(h ++ [Ob.cells true (enc 0 3) (clL (.int .i64 stop))]).length]? = some (.cells true (enc 0 4) [.bool false]) := by rw [get_last, zc_4]
  replace S := (S.app [Ob.cells true (enc 0 3) (clL (.int .i64 stop))]).app [Ob.cells true (enc 0 4) (zc Try.prog 4)]
  generalize (h ++ [Ob.cells true (enc 0 3) (clL (.int .i64 stop))]).length = q8 at B8 ⊢
  generalize h.length = q7 at B7 ⊢
  generalize (h ++ [Ob.cells true (enc 0 3) (clL (.int .i64 stop))] ++ [.cells true (enc 0 4) (zc Try.prog 4)]) = h2 at B7 B8 S ⊢
  refine (RWhole_ok S hl ha ha2 he he2).mono ?_
  rintro v h3 ⟨x1, rfl, F1, X3, L3, N1⟩
  refine Bnd_i (a := x1) rfl (Bnd_i (a := .int .i64 (wholeE bs a0 e)) rfl ?_)
  replace S := S.ext X3
  refine (Places_ok S hl ha ha2 he he2).mono ?_
  rintro v h4 ⟨pl, rfl, F4, X4, L4, N4⟩
  refine Bnd_i (a := pl) rfl (Bnd_i (a := .int .i64 (wholeE bs a0 e)) rfl ?_)
  replace S := S.ext X4
  replace F1 := F1.keep (h' := h4) fun j o _ e1 => X4 _ _ e1
  obtain ⟨apl, hpl⟩ := F4.form
  have h4l : ∀ j, isBlk pl j → j < h4.length := by
    intro j e1
    rcases F4 with ⟨rfl, _, _⟩ | ⟨b2, rfl, _, hb, _⟩
    · exact absurd e1 isBlk_nil
    · rw [isBlk_some.1 e1]; exact lt_of_some hb
  refine NwSt sz_67 (by rw [zc_67]; rfl) (by rw [hpl]; rfl) fun q11 h6 X6 B11 => ?_
  have B11' : h6[q11]? = some (.cells true (enc 0 67) [pl]) := by rw [B11, hpl]; rfl
  clear B11
  replace S := S.ext X6
  replace F1 := F1.keep (h' := h6) fun j o _ e1 => X6 _ _ e1
  replace F4 := F4.keep (h' := h6) fun j o _ e1 => X6 _ _ e1
  replace B7 := X6 _ _ (X4 _ _ (X3 _ _ B7))
  replace B8 := X6 _ _ (X4 _ _ (X3 _ _ B8))
  have L6 := Ext.len X6
  refine (Lent_ok S (by omega)).mono ?_
  rintro v h7 ⟨t7, blk, rfl, rfl, hblk, hB⟩
  have X7 : Ext h6 (h6 ++ t7) := Ext.app _ _
  have SL : Sl (h6 ++ t7) 1 (.slice (some ⟨blk, 0, none⟩) bs.length (bs.length + 5)) (bs.map bv) := Sl.mk (o := 0) hB (eS_enc' (by omega)) (by simp) (by simp) (by omega)
  have hb7 := lt_of_some hB
  generalize h6 ++ t7 = h7 at X7 SL hB hb7 ⊢
  refine (Whole_ok SL hl ha ha2 he he2).mono ?_
  rintro v h8 ⟨x2, rfl, F2, X8, L8, N2⟩
  refine Bnd_i (a := x2) rfl (Bnd_i (a := .int .i64 (wholeE bs a0 e)) rfl ?_)
  have h28 : ∀ j, isBlk x2 j → j < h8.length := by
    intro j e1
    rcases F2 with ⟨rfl, _, _⟩ | ⟨b2, rfl, _, hb, _⟩
    · exact absurd e1 isBlk_nil
    · rw [isBlk_some.1 e1]; exact lt_of_some hb
  refine (Whole_ok (SL.ext X8) hl ha ha2 he he2).mono ?_
  rintro v h9 ⟨x3, rfl, F3, X9, L9, N3⟩
  refine Bnd_i (a := x3) rfl (Bnd_i (a := .int .i64 (wholeE bs a0 e)) rfl ?_)
  refine (Each_any ((SL.ext X8).ext X9) hl ha ha2 he he2).mono ?_
  rintro v h10 ⟨pb, y, rfl, HB, hpb, F5, X10, N5⟩
  have L10 := Ext.len X10
  have D23 : ∀ j, isBlk x2 j → ¬ isBlk x3 j := fun j e1 e2 => by have := h28 j e1; have := N3 j e2; omega
  replace F2 := F2.keep (h' := h10) fun j o _ e1 => X10 _ _ (X9 _ _ e1)
  replace F3 := F3.keep (h' := h10) fun j o _ e1 => X10 _ _ e1
  replace F1 := F1.keep (h' := h10) fun j o _ e1 => X10 _ _ (X9 _ _ (X8 _ _ (X7 _ _ e1)))
  replace F4 := F4.keep (h' := h10) fun j o _ e1 => X10 _ _ (X9 _ _ (X8 _ _ (X7 _ _ e1)))
  have b7l := lt_of_some B7
  have b8l := lt_of_some B8
  have b11l := lt_of_some B11'
  replace B7 := X10 _ _ (X9 _ _ (X8 _ _ (X7 _ _ B7)))
  replace B8 := X10 _ _ (X9 _ _ (X8 _ _ (X7 _ _ B8)))
  replace B11' := X10 _ _ (X9 _ _ (X8 _ _ (X7 _ _ B11')))
  replace hB := X10 _ _ (X9 _ _ (X8 _ _ hB))
  replace S := S.ext (h' := h10) fun j o e1 => X10 _ _ (X9 _ _ (X8 _ _ (X7 _ _ e1)))
  have hw := wholeL_len (bs := bs) (a := a0) (e := e) hl
  have hp := placesL_len (bs := bs) (a := a0) (e := e) hl
  simp (disch := first | omega | assumption | exact isC_last | exact isC_app (by first | assumption | exact isC_last | exact isC_app (by first | assumption | exact isC_last)) | (simp [oneC]; done) | fail) only [evs0, evs1, evs2, evs3, evs4, evs5, evs6, evs7, evs8, evs9, evs10, evs11, evs12, evs13, if_true, if_false, ↓reduceIte, Nat.reduceEqDiff, Nat.reduceAdd, Nat.reduceMul, Nat.reduceSub, Nat.reduceLeDiff, Int.reduceLT, Int.reduceLE, Int.reduceEq, Bool.false_eq_true, Option.bind_some, Option.map_some, List.set_cons_zero, List.set_cons_succ, List.toList_toArray, List.size_toArray, List.length_cons, List.length_nil, List.getElem?_toArray, List.getElem?_cons_zero, List.getElem?_cons_succ, List.drop_zero, List.take_succ_cons, List.take_zero]
  refine (Same_ok F2 F1 hw).mono ?_
  rintro v h11 ⟨rfl, rfl⟩
  simp (disch := first | omega | assumption | exact isC_last | exact isC_app (by first | assumption | exact isC_last | exact isC_app (by first | assumption | exact isC_last)) | (simp [oneC]; done) | fail) only [Bool.not_true, evs0, evs1, evs2, evs3, evs4, evs5, evs6, evs7, evs8, evs9, evs10, evs11, evs12, evs13, if_true, if_false, ↓reduceIte, Nat.reduceEqDiff, Nat.reduceAdd, Nat.reduceMul, Nat.reduceSub, Nat.reduceLeDiff, Int.reduceLT, Int.reduceLE, Int.reduceEq, Bool.false_eq_true, Option.bind_some, Option.map_some, List.set_cons_zero, List.set_cons_succ, List.toList_toArray, List.size_toArray, List.length_cons, List.length_nil, List.getElem?_toArray, List.getElem?_cons_zero, List.getElem?_cons_succ, List.drop_zero, List.take_succ_cons, List.take_zero]
  refine (Same_ok F3 F1 hw).mono ?_
  rintro v h12 ⟨rfl, rfl⟩
  simp (disch := first | omega | assumption | exact isC_last | exact isC_app (by first | assumption | exact isC_last | exact isC_app (by first | assumption | exact isC_last)) | (simp [oneC]; done) | fail) only [Bool.not_true, eql_71, evs0, evs1, evs2, evs3, evs4, evs5, evs6, evs7, evs8, evs9, evs10, evs11, evs12, evs13, if_true, if_false, ↓reduceIte, Nat.reduceEqDiff, Nat.reduceAdd, Nat.reduceMul, Nat.reduceSub, Nat.reduceLeDiff, Int.reduceLT, Int.reduceLE, Int.reduceEq, Bool.false_eq_true, Option.bind_some, Option.map_some, List.set_cons_zero, List.set_cons_succ, List.toList_toArray, List.size_toArray, List.length_cons, List.length_nil, List.getElem?_toArray, List.getElem?_cons_zero, List.getElem?_cons_succ, List.drop_zero, List.take_succ_cons, List.take_zero]
  refine (Kept_ok S (by omega) hB).mono ?_
  rintro v h13 ⟨rfl, rfl⟩
  simp (disch := first | omega | assumption | exact isC_last | exact isC_app (by first | assumption | exact isC_last | exact isC_app (by first | assumption | exact isC_last)) | (simp [oneC]; done) | fail) only [Bool.not_true, evs0, evs1, evs2, evs3, evs4, evs5, evs6, evs7, evs8, evs9, evs10, evs11, evs12, evs13, if_true, if_false, ↓reduceIte, Nat.reduceEqDiff, Nat.reduceAdd, Nat.reduceMul, Nat.reduceSub, Nat.reduceLeDiff, Int.reduceLT, Int.reduceLE, Int.reduceEq, Bool.false_eq_true, Option.bind_some, Option.map_some, List.set_cons_zero, List.set_cons_succ, List.toList_toArray, List.size_toArray, List.length_cons, List.length_nil, List.getElem?_toArray, List.getElem?_cons_zero, List.getElem?_cons_succ, List.drop_zero, List.take_succ_cons, List.take_zero]
  clear S F1 SL
  rw [F10.e2]
  simp (disch := first | omega | assumption | exact isC_last | exact isC_app (by first | assumption | exact isC_last | exact isC_app (by first | assumption | exact isC_last)) | (simp [oneC]; done) | fail) only [F10.t2, evs0, evs1, evs2, evs3, evs4, evs5, evs6, evs7, evs8, evs9, evs10, evs11, evs12, evs13, if_true, if_false, ↓reduceIte, Nat.reduceEqDiff, Nat.reduceAdd, Nat.reduceMul, Nat.reduceSub, Nat.reduceLeDiff, Int.reduceLT, Int.reduceLE, Int.reduceEq, Bool.false_eq_true, Option.bind_some, Option.map_some, List.set_cons_zero, List.set_cons_succ, List.toList_toArray, List.size_toArray, List.length_cons, List.length_nil, List.getElem?_toArray, List.getElem?_cons_zero, List.getElem?_cons_succ, List.drop_zero, List.take_succ_cons, List.take_zero]
  refine Lp_ind (fun m fr hh => ∃ (k : Nat) (cs : List Value), fr = [(7, .pointer (some ⟨q7, 0, none⟩)), (8, .pointer (some ⟨q8, 0, none⟩)), (11, .pointer (some ⟨q11, 0, none⟩)), (13, .slice (some ⟨blk, 0, none⟩) bs.length (bs.length + 5)), (14, x2), (16, x3), (18, .func (.func 55) #[] #[.pointer (some ⟨pb, 0, none⟩)]), (91, .int .i64 bs.length), (92, .int .i64 k)] ∧
      hh[blk]? = some (.cells true (enc 1 5) cs) ∧ cs.length = bs.length + 5 ∧ k ≤ bs.length ∧ (∀ j ob, j ≠ blk → h13[j]? = some ob → hh[j]? = some ob) ∧ m = bs.length - k) (F10.m3 n0) bs.length
    ⟨0, _, by simp (disch := first | omega | assumption | exact isC_last | exact isC_app (by first | assumption | exact isC_last | exact isC_app (by first | assumption | exact isC_last)) | (simp [oneC]; done) | fail) only [evs0, evs1, evs2, evs3, evs4, evs5, evs6, evs7, evs8, evs9, evs10, evs11, evs12, evs13, if_true, if_false, ↓reduceIte, Nat.reduceEqDiff, Nat.reduceAdd, Nat.reduceMul, Nat.reduceSub, Nat.reduceLeDiff, Int.reduceLT, Int.reduceLE, Int.reduceEq, Bool.false_eq_true, Option.bind_some, Option.map_some, List.set_cons_zero, List.set_cons_succ, List.toList_toArray, List.size_toArray, List.length_cons, List.length_nil, List.getElem?_toArray, List.getElem?_cons_zero, List.getElem?_cons_succ, List.drop_zero, List.take_succ_cons, List.take_zero]; rfl, hB, by simp [marks], by omega, fun j ob _ e => e, by omega⟩ ?_
  rintro m fr hh ⟨k, cs, rfl, hC, hcs, hk, P, rfl⟩
  rw [F10.e3]
  simp (disch := first | omega | assumption | exact isC_last | exact isC_app (by first | assumption | exact isC_last | exact isC_app (by first | assumption | exact isC_last)) | (simp [oneC]; done) | fail) only [F10.t3, evs0, evs1, evs2, evs3, evs4, evs5, evs6, evs7, evs8, evs9, evs10, evs11, evs12, evs13, if_true, if_false, ↓reduceIte, Nat.reduceEqDiff, Nat.reduceAdd, Nat.reduceMul, Nat.reduceSub, Nat.reduceLeDiff, Int.reduceLT, Int.reduceLE, Int.reduceEq, Bool.false_eq_true, Option.bind_some, Option.map_some, List.set_cons_zero, List.set_cons_succ, List.toList_toArray, List.size_toArray, List.length_cons, List.length_nil, List.getElem?_toArray, List.getElem?_cons_zero, List.getElem?_cons_succ, List.drop_zero, List.take_succ_cons, List.take_zero]
  by_cases hk2 : k < bs.length
  · rw [if_pos (by omega), F10.e4]
    simp (disch := first | omega | assumption | exact isC_last | exact isC_app (by first | assumption | exact isC_last | exact isC_app (by first | assumption | exact isC_last)) | (simp [oneC]; done) | fail) only [F10.t4, evs0, evs1, evs2, evs3, evs4, evs5, evs6, evs7, evs8, evs9, evs10, evs11, evs12, evs13, if_true, if_false, ↓reduceIte, Nat.reduceEqDiff, Nat.reduceAdd, Nat.reduceMul, Nat.reduceSub, Nat.reduceLeDiff, Int.reduceLT, Int.reduceLE, Int.reduceEq, Bool.false_eq_true, Option.bind_some, Option.map_some, List.set_cons_zero, List.set_cons_succ, List.toList_toArray, List.size_toArray, List.length_cons, List.length_nil, List.getElem?_toArray, List.getElem?_cons_zero, List.getElem?_cons_succ, List.drop_zero, List.take_succ_cons, List.take_zero]
    rw [if_pos (by omega)]
    simp (disch := first | omega | assumption | exact isC_last | exact isC_app (by first | assumption | exact isC_last | exact isC_app (by first | assumption | exact isC_last)) | (simp [oneC]; done) | fail) only [evs0, evs1, evs2, evs3, evs4, evs5, evs6, evs7, evs8, evs9, evs10, evs11, evs12, evs13, if_true, if_false, ↓reduceIte, Nat.reduceEqDiff, Nat.reduceAdd, Nat.reduceMul, Nat.reduceSub, Nat.reduceLeDiff, Int.reduceLT, Int.reduceLE, Int.reduceEq, Bool.false_eq_true, Option.bind_some, Option.map_some, List.set_cons_zero, List.set_cons_succ, List.toList_toArray, List.size_toArray, List.length_cons, List.length_nil, List.getElem?_toArray, List.getElem?_cons_zero, List.getElem?_cons_succ, List.drop_zero, List.take_succ_cons, List.take_zero]
    refine Bnd_i (wr_cells hC (by simp; omega) rfl) ?_
    rw [F10.e5]
    simp (disch := first | omega | assumption | exact isC_last | exact isC_app (by first | assumption | exact isC_last | exact isC_app (by first | assumption | exact isC_last)) | (simp [oneC]; done) | fail) only [F10.t5, evs0, evs1, evs2, evs3, evs4, evs5, evs6, evs7, evs8, evs9, evs10, evs11, evs12, evs13, if_true, if_false, ↓reduceIte, Nat.reduceEqDiff, Nat.reduceAdd, Nat.reduceMul, Nat.reduceSub, Nat.reduceLeDiff, Int.reduceLT, Int.reduceLE, Int.reduceEq, Bool.false_eq_true, Option.bind_some, Option.map_some, List.set_cons_zero, List.set_cons_succ, List.toList_toArray, List.size_toArray, List.length_cons, List.length_nil, List.getElem?_toArray, List.getElem?_cons_zero, List.getElem?_cons_succ, List.drop_zero, List.take_succ_cons, List.take_zero]
    rw [IntWalk.i64_in ((k : Int) + 1) (by omega)]
    exact ⟨trivial, bs.length - (k + 1), by omega, k + 1, _, rfl, set_same hC, by rw [over_one (by omega)]; simpa using hcs, by omega, fun j ob e1 e2 => set_ne (P j ob e1 e2) e1, rfl⟩
  rw [if_neg (by omega)]
  replace B7 := P _ _ (by omega) B7
  replace B8 := P _ _ (by omega) B8
  replace B11' := P _ _ (by omega) B11'
  replace HB := P _ _ (by omega) HB
  replace F2 := F2.keep (h' := hh) fun j o e1 e2 => P j o (by have := N2 j e1; omega) e2
  replace F3 := F3.keep (h' := hh) fun j o e1 e2 => P j o (by have := N3 j e1; omega) e2
  replace F4 := F4.keep (h' := hh) fun j o e1 e2 => P j o (by have := h4l j e1; omega) e2
  replace F5 := F5.keep (h' := hh) fun j o e1 e2 => P j o (by have := N5 j e1; omega) e2
  clear P hC hcs hB
  have l8 := lt_of_some B8
  try simp (disch := first | omega | assumption | exact isC_last | exact isC_app (by first | assumption | exact isC_last | exact isC_app (by first | assumption | exact isC_last)) | (simp [oneC]; done) | fail) only [evs0, evs1, evs2, evs3, evs4, evs5, evs6, evs7, evs8, evs9, evs10, evs11, evs12, evs13, if_true, if_false, ↓reduceIte, Nat.reduceEqDiff, Nat.reduceAdd, Nat.reduceMul, Nat.reduceSub, Nat.reduceLeDiff, Int.reduceLT, Int.reduceLE, Int.reduceEq, Bool.false_eq_true, Option.bind_some, Option.map_some, List.set_cons_zero, List.set_cons_succ, List.toList_toArray, List.size_toArray, List.length_cons, List.length_nil, List.getElem?_toArray, List.getElem?_cons_zero, List.getElem?_cons_succ, List.drop_zero, List.take_succ_cons, List.take_zero]
  exact W_end (fun h => by rw [← hHP]) B7 B8 B11' F4 hp HB F5 F2 F3 hw D23 (fun j e => by have := N2 j e; omega) (fun j e => by have := N3 j e; omega)
theorem c5w : Try.prog.cellsOf 5 = 1 := by kernel_rfl
theorem BerWhole_law {H' : Type} {n0 : Nat} {h : H} {vs : List Value} {ds : List (DataW H')} (R : RdAll Try.prog h [22, 3, 3, 3] vs ds) (hk : Rows.uptoSmall H' ds = true) : Cn Try.prog n0 (.func 10) vs h (fun v _ => v = .bool true) := by
  obtain ⟨v, vs, d, ds, rfl, rfl, r, R⟩ := R.cons
  obtain ⟨v2, vs, d2, ds, rfl, rfl, r2, R⟩ := R.cons
  obtain ⟨v3, vs, d3, ds, rfl, rfl, r3, R⟩ := R.cons
  obtain ⟨v4, vs, d4, ds, rfl, rfl, r4, R⟩ := R.cons
  obtain ⟨rfl, rfl⟩ := R.none
  obtain ⟨bs, S, _, hs⟩ := r.bytes Try.underlying22 Try.underlying5 c5w
  obtain ⟨n2, rfl, _, w2⟩ := r2.int Try.underlying3
  obtain ⟨n3, rfl, _, w3⟩ := r3.int Try.underlying3
  obtain ⟨n4, rfl, _, w4⟩ := r4.int Try.underlying3
  have k2 := i64_wf w2
  have k3 := i64_wf w3
  refine BerWhole_ok S ?_ k2.1 k2.2 k3.1 k3.2
  rcases hs with rfl | ⟨l, sp, rfl, hl⟩
  · simp
  · have := bulks.slice_bound hk (List.mem_cons_self ..)
    omega
end Go.Proofs.Ytknpmldldlbniaa
