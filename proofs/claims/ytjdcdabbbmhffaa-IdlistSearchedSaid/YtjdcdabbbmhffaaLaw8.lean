/- IdlistSearched. No condition but the size that every statement has. -/
import Derived.Test.YtjdcdabbbmhffaaUnion
set_option linter.unusedVariables false
set_option linter.unusedSimpArgs false
namespace Go.Proofs.Ytjdcdabbbmhffaa
open Go.Ev Idl
variable {n0 : Nat} {h : H}
theorem bNeqB {P : Program} {c : Bool} {t : TypeId} {a b : Bool} (ht : P.underlying t = some .bool) : aBin P c .neq t (.bool a) (.bool b) = some (.bool (!(a == b))) := by simp [aBin, aEqOp, aEq, ht]
theorem fst_from {s : List Int} {id a : Int} {q q' : Nat} (hs : Up s) (F : Fst s 0 id q) (F' : Fst s (frm s a) id q') : (q' : Int) = if ((frm s a : Nat) : Int) > q then ((frm s a : Nat) : Int) else q := by
  have e : Fst s (frm s a) id (max q (frm s a)) := by
    refine ⟨by omega, by have := F.le; have := frm_le (l := s) (a := a); omega, fun j h1 h2 => F.lt j (by omega) (by omega), fun h1 => ?_⟩
    by_cases h2 : frm s a ≤ q
    · rw [show max q (frm s a) = q by omega] at h1 ⊢
      exact F.at_ h1
    · rw [show max q (frm s a) = frm s a by omega] at h1 ⊢
      have := F.at_ (by omega)
      have := up_le hs (i := q) (j := frm s a) (by omega) h1
      omega
  rw [F'.eq e]
  split <;> omega
set_option maxRecDepth 20000 in
theorem IdlistSearched_ok {v : Value} {l : List Int} {a id : Int} (S : Sl h 1 v (l.map u)) (hl : l.length * 8 < 2 ^ 47) : Cn Try.prog n0 (.func 8) [v, .int .i64 a, .int .u64 id] h (fun r _ => r = .bool true) := by
  refine F8.enter ?_
  obtain ⟨HP, hHP⟩ : ∃ HP : Value → H → Prop, (fun r _ => r = .bool true) = HP := ⟨_, rfl⟩
  rw [hHP, F8.e0]
  unfold F8.t0
  obtain ⟨ad, c, hv, hc⟩ := Sl_len S
  rw [hv]
  refine Bnd2_i bsl_42_1_0 ?_
  rw [← hv]
  refine (Union1_ok (w := v) get_last (S.app _) (by omega)).mono ?_
  rintro x h1 ⟨s, O, hSt, hs, X⟩
  have X0 : Ext h h1 := (Ext.app _ _).trans X
  refine (Find_ok (a := 0) O.sl (by omega)).mono ?_
  rintro _ h2 ⟨⟨k, rfl, hk⟩, X2⟩
  obtain ⟨q, rfl, F⟩ : ∃ q : Nat, k = q ∧ Fst s 0 id q := by
    rcases hk with ⟨e, _⟩ | ⟨_, q, rfl, F⟩
    · rw [rightB_iff.2 hSt.up] at e; cases e
    · exact ⟨q, rfl, by have e : frm s 0 = 0 := by unfold frm; simp
                        rw [e] at F; exact F⟩
  clear hk
  have S2 := (O.ext X2).sl
  have hq := F.le
  refine Bnd_i bLss ?_
  rw [decide_eq_false (by omega), Gd_false]
  refine Bnd2_i (len_sl S2) ?_
  refine Bnd_i bGtr ?_
  rw [decide_eq_false (by omega), Gd_false]
  refine Bnd_i bGtr ?_
  have X3 := X0.trans X2
  have R := rightB_iff.2 hSt.up
  have mid : F8.p2 n0 [(0, v), (1, .int .i64 a), (2, .int .u64 id), (7, x), (8, .int .i64 q)] [] h2 (KFin Try.prog [.tmp 6] HP) := by
    rw [F8.e2]
    unfold F8.t2
    refine Bnd2_i max2 ?_
    refine Bnd2_i (len_sl S2) ?_
    refine Bnd2_i min2 ?_
    rw [frm_eq]
    refine (Find_ok (a := a) S2 (by omega)).mono ?_
    rintro _ h4 ⟨⟨k, rfl, hk⟩, X4⟩
    obtain ⟨q', rfl, F'⟩ : ∃ q' : Nat, k = q' ∧ Fst s (frm s a) id q' := by
      rcases hk with ⟨e, _⟩ | ⟨_, q', rfl, F⟩
      · rw [R] at e; cases e
      · exact ⟨q', rfl, F⟩
    clear hk
    refine Bnd2_i max2 ?_
    rw [← fst_from hSt.up F F']
    refine Bnd_i bNeq ?_
    rw [decide_eq_true rfl, Bool.not_true, Gd_false]
    refine (Has_ok (S2.ext X4) (by omega)).mono ?_
    rintro _ h5 ⟨rfl, X5⟩
    rw [fst_mem (St.self hSt.up) F]
    have S5 := (S2.ext X4).ext X5
    have X6 := X3.trans (X4.trans X5)
    refine Bnd2_i (len_sl S5) ?_
    refine Bnd_i bLss ?_
    have last : F8.p4 n0 [(0, v), (1, .int .i64 a), (2, .int .u64 id), (7, x)] [] h5 (KFin Try.prog [.tmp 6] HP) := by
      rw [F8.e4]
      unfold F8.t4
      refine (lRight_ok (S.ext X6) (by omega)).mono ?_
      rintro _ hx ⟨rfl, ex⟩; subst hx
      cases hr : rightB l with
      | false =>
        simp (disch := first | omega | assumption | exact isC_last | exact isC_app (by first | assumption | exact isC_last | exact isC_app (by first | assumption | exact isC_last)) | (simp [oneC]; done) | fail) only [Bool.not_false, evs0, evs1, evs2, evs3, evs4, evs5, evs6, evs7, evs8, if_true, if_false, ↓reduceIte, Nat.reduceEqDiff, Nat.reduceAdd, Nat.reduceMul, Nat.reduceSub, Nat.reduceLeDiff, Int.reduceLT, Int.reduceLE, Int.reduceEq, Bool.false_eq_true, Option.bind_some, Option.map_some, List.set_cons_zero, List.set_cons_succ, List.toList_toArray, List.size_toArray, List.length_cons, List.length_nil, List.getElem?_toArray, List.getElem?_cons_zero, List.getElem?_cons_succ, List.drop_zero, List.take_succ_cons, List.take_zero]
        rw [F8.e5]
        unfold F8.t5
        refine (Find_ok (a := a) (S.ext X6) (by omega)).mono ?_
        rintro _ h7 ⟨⟨k, rfl, hk⟩, X7⟩
        obtain rfl : k = -1 := by
          rcases hk with ⟨_, e⟩ | ⟨e, _⟩
          · exact e
          · rw [hr] at e; cases e
        simp (disch := first | omega | assumption | exact isC_last | exact isC_app (by first | assumption | exact isC_last | exact isC_app (by first | assumption | exact isC_last)) | (simp [oneC]; done) | fail) only [evs0, evs1, evs2, evs3, evs4, evs5, evs6, evs7, evs8, if_true, if_false, ↓reduceIte, Nat.reduceEqDiff, Nat.reduceAdd, Nat.reduceMul, Nat.reduceSub, Nat.reduceLeDiff, Int.reduceLT, Int.reduceLE, Int.reduceEq, Bool.false_eq_true, Option.bind_some, Option.map_some, List.set_cons_zero, List.set_cons_succ, List.toList_toArray, List.size_toArray, List.length_cons, List.length_nil, List.getElem?_toArray, List.getElem?_cons_zero, List.getElem?_cons_succ, List.drop_zero, List.take_succ_cons, List.take_zero]
        refine (Right_ok ((S.ext X6).ext X7) (by omega)).mono ?_
        rintro _ hx ⟨rfl, ex⟩; subst hx
        simp (disch := first | omega | assumption | exact isC_last | exact isC_app (by first | assumption | exact isC_last | exact isC_app (by first | assumption | exact isC_last)) | (simp [oneC]; done) | fail) only [hr, Bool.not_false, evs0, evs1, evs2, evs3, evs4, evs5, evs6, evs7, evs8, if_true, if_false, ↓reduceIte, Nat.reduceEqDiff, Nat.reduceAdd, Nat.reduceMul, Nat.reduceSub, Nat.reduceLeDiff, Int.reduceLT, Int.reduceLE, Int.reduceEq, Bool.false_eq_true, Option.bind_some, Option.map_some, List.set_cons_zero, List.set_cons_succ, List.toList_toArray, List.size_toArray, List.length_cons, List.length_nil, List.getElem?_toArray, List.getElem?_cons_zero, List.getElem?_cons_succ, List.drop_zero, List.take_succ_cons, List.take_zero]
        refine Wakes_ok.mono ?_
        rintro _ hx ⟨rfl, ex⟩; subst hx
        rw [← hHP]
      | true =>
        simp (disch := first | omega | assumption | exact isC_last | exact isC_app (by first | assumption | exact isC_last | exact isC_app (by first | assumption | exact isC_last)) | (simp [oneC]; done) | fail) only [Bool.not_true, evs0, evs1, evs2, evs3, evs4, evs5, evs6, evs7, evs8, if_true, if_false, ↓reduceIte, Nat.reduceEqDiff, Nat.reduceAdd, Nat.reduceMul, Nat.reduceSub, Nat.reduceLeDiff, Int.reduceLT, Int.reduceLE, Int.reduceEq, Bool.false_eq_true, Option.bind_some, Option.map_some, List.set_cons_zero, List.set_cons_succ, List.toList_toArray, List.size_toArray, List.length_cons, List.length_nil, List.getElem?_toArray, List.getElem?_cons_zero, List.getElem?_cons_succ, List.drop_zero, List.take_succ_cons, List.take_zero]
        rw [F8.e6]
        unfold F8.t6
        refine (Right_ok (S.ext X6) (by omega)).mono ?_
        rintro _ hx ⟨rfl, ex⟩; subst hx
        simp (disch := first | omega | assumption | exact isC_last | exact isC_app (by first | assumption | exact isC_last | exact isC_app (by first | assumption | exact isC_last)) | (simp [oneC]; done) | fail) only [hr, evs0, evs1, evs2, evs3, evs4, evs5, evs6, evs7, evs8, if_true, if_false, ↓reduceIte, Nat.reduceEqDiff, Nat.reduceAdd, Nat.reduceMul, Nat.reduceSub, Nat.reduceLeDiff, Int.reduceLT, Int.reduceLE, Int.reduceEq, Bool.false_eq_true, Option.bind_some, Option.map_some, List.set_cons_zero, List.set_cons_succ, List.toList_toArray, List.size_toArray, List.length_cons, List.length_nil, List.getElem?_toArray, List.getElem?_cons_zero, List.getElem?_cons_succ, List.drop_zero, List.take_succ_cons, List.take_zero]
        refine (same_ok S5 (S.ext X6) (by omega)).mono ?_
        rintro _ hx ⟨rfl, ex⟩; subst hx
        rw [decide_eq_true (hSt.eq (St.self (rightB_iff.1 hr)))]
        simp (disch := first | omega | assumption | exact isC_last | exact isC_app (by first | assumption | exact isC_last | exact isC_app (by first | assumption | exact isC_last)) | (simp [oneC]; done) | fail) only [evs0, evs1, evs2, evs3, evs4, evs5, evs6, evs7, evs8, if_true, if_false, ↓reduceIte, Nat.reduceEqDiff, Nat.reduceAdd, Nat.reduceMul, Nat.reduceSub, Nat.reduceLeDiff, Int.reduceLT, Int.reduceLE, Int.reduceEq, Bool.false_eq_true, Option.bind_some, Option.map_some, List.set_cons_zero, List.set_cons_succ, List.toList_toArray, List.size_toArray, List.length_cons, List.length_nil, List.getElem?_toArray, List.getElem?_cons_zero, List.getElem?_cons_succ, List.drop_zero, List.take_succ_cons, List.take_zero]
        refine Wakes_ok.mono ?_
        rintro _ hx ⟨rfl, ex⟩; subst hx
        rw [← hHP]
    by_cases h6 : q < s.length
    · rw [decide_eq_true (by omega), Gd_true]
      refine rdU S5 (by omega) (by omega) fun p => ?_
      rw [Int.toNat_natCast, if_pos h6]
      refine Bnd_i bEql ?_
      refine Bnd_i (bNeqB Try.underlying4) ?_
      rw [beq_self_eq_true, Bool.not_true, Cnd_false]
      exact last
    · rw [decide_eq_false (by omega), Gd_false, if_neg h6]
      refine Bnd_i (bNeqB Try.underlying4) ?_
      rw [beq_self_eq_true, Bool.not_true, Cnd_false]
      exact last
  by_cases h0 : 0 < q
  · rw [decide_eq_true (by omega), Gd_true]
    refine Bnd_i bSub ?_
    rw [show IntKind.i64.wrap ((q : Int) - 1) = ((q - 1 : Nat) : Int) by rw [IntWalk.i64_in _ (by omega)]; omega]
    refine rdU S2 (by omega) (by omega) fun p => ?_
    rw [Int.toNat_natCast]
    refine Bnd_i bGeq ?_
    rw [decide_eq_false (by have := F.lt (q - 1) (by omega) (by omega); omega), Gd_false]
    refine Bnd2_i (len_sl S2) ?_
    refine Bnd_i bLss ?_
    by_cases h6 : q < s.length
    · rw [decide_eq_true (by omega), Gd_true]
      refine rdU S2 (by omega) (by omega) fun p => ?_
      rw [Int.toNat_natCast]
      refine Bnd_i bLss ?_
      rw [decide_eq_false (by have := F.at_ h6; omega), Cnd_false]
      exact mid
    · rw [decide_eq_false (by omega), Gd_false]
      exact mid
  · rw [decide_eq_false (by omega), Gd_false]
    refine Bnd2_i (len_sl S2) ?_
    refine Bnd_i bLss ?_
    by_cases h6 : q < s.length
    · rw [decide_eq_true (by omega), Gd_true]
      refine rdU S2 (by omega) (by omega) fun p => ?_
      rw [Int.toNat_natCast]
      refine Bnd_i bLss ?_
      rw [decide_eq_false (by have := F.at_ h6; omega), Cnd_false]
      exact mid
    · rw [decide_eq_false (by omega), Gd_false]
      exact mid
theorem IdlistSearched_law {H' : Type} {n0 : Nat} {h : H} {vs : List Value} {ds : List (DataW H')} (R : RdAll Try.prog h [22, 3, 23] vs ds) (hz : (DataW.weightsEach Try.prog [22, 3, 23] ds).all (· ≤ reachBytes) = true) : Cn Try.prog n0 (.func 8) vs h (fun v _ => v = .bool true) := by
  obtain ⟨v, vs, d, ds, rfl, rfl, r, R⟩ := R.cons
  obtain ⟨v2, vs, d2, ds, rfl, rfl, r2, R⟩ := R.cons
  obtain ⟨v3, vs, d3, ds, rfl, rfl, r3, R⟩ := R.cons
  obtain ⟨rfl, rfl⟩ := R.none
  obtain ⟨l, S, k⟩ := reads_nums r
  obtain ⟨a, rfl, _, _⟩ := r2.int Try.underlying3
  obtain ⟨id, rfl, _, _⟩ := r3.int Try.underlying23
  exact IdlistSearched_ok S (nums_sized hz (j := 0) rfl rfl k)
end Go.Proofs.Ytjdcdabbbmhffaa
