/- pdqsortOrdered, slices.Sort: the numbers are sorted. No condition. -/
import Derived.Test.YtjdcdabbbmhffaaPis
set_option linter.unusedVariables false
set_option linter.unusedSimpArgs false
namespace Go.Proofs.Ytjdcdabbbmhffaa
open Go.Ev
open Go.Sort (swp ltInt PermIn SortedIn swo_ltInt)
variable {n0 : Nat}
theorem permSize {a b : Nat} {d d' : Array Int} (p : PermIn a b d d') : d'.size = d.size := p.1
set_option maxRecDepth 20000 in
theorem pdq_ok : ∀ (k : Nat) {h : H} {b n a e : Nat} {lim : Int} {d : Array Int}, e - a ≤ k → b < h.length → d.size = n → a ≤ e → e ≤ n → n < 2 ^ 60 → 0 ≤ lim → lim ≤ 1000 → Sort.Below ltInt a e d →
    Cn Try.prog n0 (.func 59) [V b n, .int .i64 a, .int .i64 e, .int .i64 lim] (W h b d) (fun _ h' => ∃ h2 R, h' = W h2 b R ∧ Kp b h h2 ∧ PermIn a e d R ∧ SortedIn ltInt a e R) := by
  intro k
  induction k with
  | zero =>
    intro h b n a e lim d hk hb hn hae hen h60 hl0 hl1 hB
    refine F59.enter ?_
    obtain ⟨HP, hHP⟩ : ∃ HP : Value → H → Prop, (fun (_ : Value) h' => ∃ h2 R, h' = W h2 b R ∧ Kp b h h2 ∧ PermIn a e d R ∧ SortedIn ltInt a e R) = HP := ⟨_, rfl⟩
    rw [hHP, F59.e0]
    unfold F59.t0
    refine Lp_ind (fun m fr hh => m = 0 ∧ fr = [(0, V b n), (1, .int .i64 a), (2, .int .i64 e), (3, .int .i64 lim), (8, .bool true), (9, .bool true)] ∧ hh = W h b d) (F59.m1 n0) 0 ⟨rfl, by simp (disch := first | omega | assumption | exact isC_last | exact isC_app (by first | assumption | exact isC_last | exact isC_app (by first | assumption | exact isC_last)) | (simp [oneC]; done) | fail) only [evs0, evs1, evs2, evs3, evs4, evs5, evs6, evs7, evs8, if_true, if_false, ↓reduceIte, Nat.reduceEqDiff, Nat.reduceAdd, Nat.reduceMul, Nat.reduceSub, Nat.reduceLeDiff, Int.reduceLT, Int.reduceLE, Int.reduceEq, Bool.false_eq_true, Option.bind_some, Option.map_some, List.set_cons_zero, List.set_cons_succ, List.toList_toArray, List.size_toArray, List.length_cons, List.length_nil, List.getElem?_toArray, List.getElem?_cons_zero, List.getElem?_cons_succ, List.drop_zero, List.take_succ_cons, List.take_zero], rfl⟩ ?_
    rintro m fr hh ⟨rfl, rfl, rfl⟩
    rw [F59.e1]
    have e1 : IntKind.i64.wrap ((e : Int) - (a : Int)) = ((e - a : Nat) : Int) := by rw [IntWalk.i64_in _ (by omega)]; omega
    simp (disch := first | omega | assumption | exact isC_last | exact isC_app (by first | assumption | exact isC_last | exact isC_app (by first | assumption | exact isC_last)) | (simp [oneC]; done) | fail) only [F59.t1, e1, evs0, evs1, evs2, evs3, evs4, evs5, evs6, evs7, evs8, if_true, if_false, ↓reduceIte, Nat.reduceEqDiff, Nat.reduceAdd, Nat.reduceMul, Nat.reduceSub, Nat.reduceLeDiff, Int.reduceLT, Int.reduceLE, Int.reduceEq, Bool.false_eq_true, Option.bind_some, Option.map_some, List.set_cons_zero, List.set_cons_succ, List.toList_toArray, List.size_toArray, List.length_cons, List.length_nil, List.getElem?_toArray, List.getElem?_cons_zero, List.getElem?_cons_succ, List.drop_zero, List.take_succ_cons, List.take_zero]
    rw [if_pos (by omega), F59.e2]
    unfold F59.t2
    refine (insertion_ok hb hn hae hen (by omega)).mono ?_
    rintro _ _ rfl
    simp (disch := first | omega | assumption | exact isC_last | exact isC_app (by first | assumption | exact isC_last | exact isC_app (by first | assumption | exact isC_last)) | (simp [oneC]; done) | fail) only [evs0, evs1, evs2, evs3, evs4, evs5, evs6, evs7, evs8, if_true, if_false, ↓reduceIte, Nat.reduceEqDiff, Nat.reduceAdd, Nat.reduceMul, Nat.reduceSub, Nat.reduceLeDiff, Int.reduceLT, Int.reduceLE, Int.reduceEq, Bool.false_eq_true, Option.bind_some, Option.map_some, List.set_cons_zero, List.set_cons_succ, List.toList_toArray, List.size_toArray, List.length_cons, List.length_nil, List.getElem?_toArray, List.getElem?_cons_zero, List.getElem?_cons_succ, List.drop_zero, List.take_succ_cons, List.take_zero]
    rw [← hHP]
    have := Sort.insertionSort_holds swo_ltInt d a e hae (by omega)
    exact ⟨h, _, rfl, Kp.refl, this.1, this.2⟩
  | succ k ih =>
    intro h b n a e lim d hk hb hn hae hen h60 hl0 hl1 hB
    refine F59.enter ?_
    obtain ⟨HP, hHP⟩ : ∃ HP : Value → H → Prop, (fun (_ : Value) h' => ∃ h2 R, h' = W h2 b R ∧ Kp b h h2 ∧ PermIn a e d R ∧ SortedIn ltInt a e R) = HP := ⟨_, rfl⟩
    have fin : ∀ {v : Value} {h2 : H} {R : Array Int}, Kp b h h2 → PermIn a e d R → SortedIn ltInt a e R → HP v (W h2 b R) := by
      intro v h2 R q1 q2 q3; rw [← hHP]; exact ⟨h2, R, rfl, q1, q2, q3⟩
    rw [hHP, F59.e0]
    clear hHP
    unfold F59.t0
    refine Lp_ind (fun m fr hh => ∃ (a' e' : Nat) (l' : Int) (wb wp : Bool) (h2 : H) (d' : Array Int), fr = [(0, V b n), (1, .int .i64 a'), (2, .int .i64 e'), (3, .int .i64 l'), (8, .bool wb), (9, .bool wp)] ∧ a' ≤ e' ∧ e' ≤ n ∧ e' - a' ≤ k + 1 ∧ 0 ≤ l' ∧ l' ≤ 1000 ∧ d'.size = n ∧ hh = W h2 b d' ∧ Kp b h h2 ∧ Sort.Below ltInt a' e' d' ∧
        (∀ R, PermIn a' e' d' R → SortedIn ltInt a' e' R → PermIn a e d R ∧ SortedIn ltInt a e R) ∧ m = e' - a') (F59.m1 n0) (e - a)
      ⟨a, e, lim, true, true, h, d, by simp (disch := first | omega | assumption | exact isC_last | exact isC_app (by first | assumption | exact isC_last | exact isC_app (by first | assumption | exact isC_last)) | (simp [oneC]; done) | fail) only [evs0, evs1, evs2, evs3, evs4, evs5, evs6, evs7, evs8, if_true, if_false, ↓reduceIte, Nat.reduceEqDiff, Nat.reduceAdd, Nat.reduceMul, Nat.reduceSub, Nat.reduceLeDiff, Int.reduceLT, Int.reduceLE, Int.reduceEq, Bool.false_eq_true, Option.bind_some, Option.map_some, List.set_cons_zero, List.set_cons_succ, List.toList_toArray, List.size_toArray, List.length_cons, List.length_nil, List.getElem?_toArray, List.getElem?_cons_zero, List.getElem?_cons_succ, List.drop_zero, List.take_succ_cons, List.take_zero], hae, hen, hk, hl0, hl1, hn, rfl, Kp.refl, hB, fun R q1 q2 => ⟨q1, q2⟩, rfl⟩ ?_
    rintro m fr hh ⟨a', e', l', wb, wp, h2, d', rfl, hae', hen', hk', hl0', hl1', hs, rfl, K2, hB', G, rfl⟩
    have hb2 : b < h2.length := by have := K2.1; omega
    rw [F59.e1]
    have e1 : IntKind.i64.wrap ((e' : Int) - (a' : Int)) = ((e' - a' : Nat) : Int) := by rw [IntWalk.i64_in _ (by omega)]; omega
    simp (disch := first | omega | assumption | exact isC_last | exact isC_app (by first | assumption | exact isC_last | exact isC_app (by first | assumption | exact isC_last)) | (simp [oneC]; done) | fail) only [F59.t1, e1, evs0, evs1, evs2, evs3, evs4, evs5, evs6, evs7, evs8, if_true, if_false, ↓reduceIte, Nat.reduceEqDiff, Nat.reduceAdd, Nat.reduceMul, Nat.reduceSub, Nat.reduceLeDiff, Int.reduceLT, Int.reduceLE, Int.reduceEq, Bool.false_eq_true, Option.bind_some, Option.map_some, List.set_cons_zero, List.set_cons_succ, List.toList_toArray, List.size_toArray, List.length_cons, List.length_nil, List.getElem?_toArray, List.getElem?_cons_zero, List.getElem?_cons_succ, List.drop_zero, List.take_succ_cons, List.take_zero]
    by_cases h12 : e' - a' ≤ 12
    · rw [if_pos (by omega), F59.e2]
      unfold F59.t2
      refine (insertion_ok hb2 hs hae' hen' (by omega)).mono ?_
      rintro _ _ rfl
      simp (disch := first | omega | assumption | exact isC_last | exact isC_app (by first | assumption | exact isC_last | exact isC_app (by first | assumption | exact isC_last)) | (simp [oneC]; done) | fail) only [evs0, evs1, evs2, evs3, evs4, evs5, evs6, evs7, evs8, if_true, if_false, ↓reduceIte, Nat.reduceEqDiff, Nat.reduceAdd, Nat.reduceMul, Nat.reduceSub, Nat.reduceLeDiff, Int.reduceLT, Int.reduceLE, Int.reduceEq, Bool.false_eq_true, Option.bind_some, Option.map_some, List.set_cons_zero, List.set_cons_succ, List.toList_toArray, List.size_toArray, List.length_cons, List.length_nil, List.getElem?_toArray, List.getElem?_cons_zero, List.getElem?_cons_succ, List.drop_zero, List.take_succ_cons, List.take_zero]
      have := Sort.insertionSort_holds swo_ltInt d' a' e' hae' (by omega)
      obtain ⟨q1, q2⟩ := G _ this.1 this.2
      exact fin K2 q1 q2
    rw [if_neg (by omega), F59.e3]
    simp (disch := first | omega | assumption | exact isC_last | exact isC_app (by first | assumption | exact isC_last | exact isC_app (by first | assumption | exact isC_last)) | (simp [oneC]; done) | fail) only [F59.t3, evs0, evs1, evs2, evs3, evs4, evs5, evs6, evs7, evs8, if_true, if_false, ↓reduceIte, Nat.reduceEqDiff, Nat.reduceAdd, Nat.reduceMul, Nat.reduceSub, Nat.reduceLeDiff, Int.reduceLT, Int.reduceLE, Int.reduceEq, Bool.false_eq_true, Option.bind_some, Option.map_some, List.set_cons_zero, List.set_cons_succ, List.toList_toArray, List.size_toArray, List.length_cons, List.length_nil, List.getElem?_toArray, List.getElem?_cons_zero, List.getElem?_cons_succ, List.drop_zero, List.take_succ_cons, List.take_zero]
    by_cases hl : l' = 0
    · rw [if_pos hl, F59.e4]
      unfold F59.t4
      refine (heapSort_ok hb2 hs hae' hen' (by omega)).mono ?_
      rintro _ _ rfl
      simp (disch := first | omega | assumption | exact isC_last | exact isC_app (by first | assumption | exact isC_last | exact isC_app (by first | assumption | exact isC_last)) | (simp [oneC]; done) | fail) only [evs0, evs1, evs2, evs3, evs4, evs5, evs6, evs7, evs8, if_true, if_false, ↓reduceIte, Nat.reduceEqDiff, Nat.reduceAdd, Nat.reduceMul, Nat.reduceSub, Nat.reduceLeDiff, Int.reduceLT, Int.reduceLE, Int.reduceEq, Bool.false_eq_true, Option.bind_some, Option.map_some, List.set_cons_zero, List.set_cons_succ, List.toList_toArray, List.size_toArray, List.length_cons, List.length_nil, List.getElem?_toArray, List.getElem?_cons_zero, List.getElem?_cons_succ, List.drop_zero, List.take_succ_cons, List.take_zero]
      have := Sort.heapSort_holds swo_ltInt d' a' e' hae' (by omega)
      obtain ⟨q1, q2⟩ := G _ this.1 this.2
      exact fin K2 q1 q2
    rw [if_neg hl, F59.e5]
    simp (disch := first | omega | assumption | exact isC_last | exact isC_app (by first | assumption | exact isC_last | exact isC_app (by first | assumption | exact isC_last)) | (simp [oneC]; done) | fail) only [F59.t5, evs0, evs1, evs2, evs3, evs4, evs5, evs6, evs7, evs8, if_true, if_false, ↓reduceIte, Nat.reduceEqDiff, Nat.reduceAdd, Nat.reduceMul, Nat.reduceSub, Nat.reduceLeDiff, Int.reduceLT, Int.reduceLE, Int.reduceEq, Bool.false_eq_true, Option.bind_some, Option.map_some, List.set_cons_zero, List.set_cons_succ, List.toList_toArray, List.size_toArray, List.length_cons, List.length_nil, List.getElem?_toArray, List.getElem?_cons_zero, List.getElem?_cons_succ, List.drop_zero, List.take_succ_cons, List.take_zero]
    -- behind the patterns
    have piv : ∀ (l2 : Int) (h3 : H) (d2 : Array Int), 0 ≤ l2 → l2 ≤ 1000 → Kp b h h3 → PermIn a' e' d' d2 → F59.p7 n0 [(0, V b n), (1, .int .i64 a'), (2, .int .i64 e'), (3, .int .i64 l2), (8, .bool wb), (9, .bool wp), (10, .int .i64 (e' - a' : Nat))] [] (W h3 b d2)
        (KBlk [0, 1, 2, 3, 8, 9] 1 (KLp [0, 1, 2, 3, 8, 9] (fun fr hh => ∃ m', m' < e' - a' ∧ ∃ (a' e' : Nat) (l' : Int) (wb wp : Bool) (h2 : H) (d' : Array Int), fr = [(0, V b n), (1, .int .i64 a'), (2, .int .i64 e'), (3, .int .i64 l'), (8, .bool wb), (9, .bool wp)] ∧ a' ≤ e' ∧ e' ≤ n ∧ e' - a' ≤ k + 1 ∧ 0 ≤ l' ∧ l' ≤ 1000 ∧ d'.size = n ∧ hh = W h2 b d' ∧ Kp b h h2 ∧ Sort.Below ltInt a' e' d' ∧
        (∀ R, PermIn a' e' d' R → SortedIn ltInt a' e' R → PermIn a e d R ∧ SortedIn ltInt a e R) ∧ m' = e' - a') [] (KBlk [] 0 (KFin Try.prog [] HP)))) := by
      intro l2 h3 d2 hl20 hl21 K3 P2
      have hb3 : b < h3.length := by have := K3.1; omega
      have hs2 : d2.size = n := by rw [permSize P2]; exact hs
      have hB2 := hB'.perm (by omega) P2
      rw [F59.e7]
      unfold F59.t7
      refine (choose_ok hb3 hs2 (by omega) hen' h60).mono ?_
      rintro _ _ ⟨⟨pv, hint, rfl, hp1, hp2⟩, h4, rfl, K4⟩
      have K4' := K3.trans K4
      have hb4 : b < h4.length := by have := K4'.1; omega
      -- behind the reversal
      have rest : ∀ (pv : Nat) (hint : Int) (d3 : Array Int), a' ≤ pv → pv < e' → PermIn a' e' d' d3 → F59.p9 n0 [(0, V b n), (1, .int .i64 a'), (2, .int .i64 e'), (3, .int .i64 l2), (8, .bool wb), (9, .bool wp), (10, .int .i64 (e' - a' : Nat)), (11, .int .i64 pv), (12, .int .i64 hint)] [] (W h4 b d3)
          (KBlk [0, 1, 2, 3, 8, 9] 1 (KLp [0, 1, 2, 3, 8, 9] (fun fr hh => ∃ m', m' < e' - a' ∧ ∃ (a' e' : Nat) (l' : Int) (wb wp : Bool) (h2 : H) (d' : Array Int), fr = [(0, V b n), (1, .int .i64 a'), (2, .int .i64 e'), (3, .int .i64 l'), (8, .bool wb), (9, .bool wp)] ∧ a' ≤ e' ∧ e' ≤ n ∧ e' - a' ≤ k + 1 ∧ 0 ≤ l' ∧ l' ≤ 1000 ∧ d'.size = n ∧ hh = W h2 b d' ∧ Kp b h h2 ∧ Sort.Below ltInt a' e' d' ∧
          (∀ R, PermIn a' e' d' R → SortedIn ltInt a' e' R → PermIn a e d R ∧ SortedIn ltInt a e R) ∧ m' = e' - a') [] (KBlk [] 0 (KFin Try.prog [] HP)))) := by
        intro pv hint d3 hp1 hp2 P3
        have hs3 : d3.size = n := by rw [permSize P3]; exact hs
        have hB3 := hB'.perm (by omega) P3
        -- behind the partial insertion
        have part : ∀ (d4 : Array Int), PermIn a' e' d' d4 → F59.p11 n0 [(0, V b n), (1, .int .i64 a'), (2, .int .i64 e'), (3, .int .i64 l2), (8, .bool wb), (9, .bool wp), (10, .int .i64 (e' - a' : Nat)), (11, .int .i64 pv)] [] (W h4 b d4)
            (KBlk [0, 1, 2, 3, 8, 9] 1 (KLp [0, 1, 2, 3, 8, 9] (fun fr hh => ∃ m', m' < e' - a' ∧ ∃ (a' e' : Nat) (l' : Int) (wb wp : Bool) (h2 : H) (d' : Array Int), fr = [(0, V b n), (1, .int .i64 a'), (2, .int .i64 e'), (3, .int .i64 l'), (8, .bool wb), (9, .bool wp)] ∧ a' ≤ e' ∧ e' ≤ n ∧ e' - a' ≤ k + 1 ∧ 0 ≤ l' ∧ l' ≤ 1000 ∧ d'.size = n ∧ hh = W h2 b d' ∧ Kp b h h2 ∧ Sort.Below ltInt a' e' d' ∧
            (∀ R, PermIn a' e' d' R → SortedIn ltInt a' e' R → PermIn a e d R ∧ SortedIn ltInt a e R) ∧ m' = e' - a') [] (KBlk [] 0 (KFin Try.prog [] HP)))) := by
          intro d4 P4
          have hs4 : d4.size = n := by rw [permSize P4]; exact hs
          have hB4 := hB'.perm (by omega) P4
          have G4 : ∀ R, PermIn a' e' d4 R → SortedIn ltInt a' e' R → PermIn a e d R ∧ SortedIn ltInt a e R := fun R q1 q2 => G R (Sort.permIn_trans _ _ _ _ _ P4 q1) q2
          rw [F59.e11]
          -- by partition
          have two : F59.p13 n0 [(0, V b n), (1, .int .i64 a'), (2, .int .i64 e'), (3, .int .i64 l2), (10, .int .i64 (e' - a' : Nat)), (11, .int .i64 pv)] [] (W h4 b d4)
              (KBlk [0, 1, 2, 3, 8, 9] 1 (KLp [0, 1, 2, 3, 8, 9] (fun fr hh => ∃ m', m' < e' - a' ∧ ∃ (a' e' : Nat) (l' : Int) (wb wp : Bool) (h2 : H) (d' : Array Int), fr = [(0, V b n), (1, .int .i64 a'), (2, .int .i64 e'), (3, .int .i64 l'), (8, .bool wb), (9, .bool wp)] ∧ a' ≤ e' ∧ e' ≤ n ∧ e' - a' ≤ k + 1 ∧ 0 ≤ l' ∧ l' ≤ 1000 ∧ d'.size = n ∧ hh = W h2 b d' ∧ Kp b h h2 ∧ Sort.Below ltInt a' e' d' ∧
              (∀ R, PermIn a' e' d' R → SortedIn ltInt a' e' R → PermIn a e d R ∧ SortedIn ltInt a e R) ∧ m' = e' - a') [] (KBlk [] 0 (KFin Try.prog [] HP)))) := by
            rw [F59.e13]
            unfold F59.t13
            refine (partition_ok hb4 hs4 hp1 hp2 hen' (by omega)).mono ?_
            rintro _ _ ⟨⟨fl, rfl⟩, rfl⟩
            obtain ⟨⟨mid, ap, d5⟩, hx⟩ : ∃ x, Sort.partition ltInt d4 a' e' pv = x := ⟨_, rfl⟩
            simp only [hx]
            obtain ⟨r1, r2, r3, r4, r5, r6, r7⟩ := Sort.round_part swo_ltInt (Sort.partition_holds _) hp1 hp2 (by omega) hB4 hx
            have hs5 : d5.size = n := by omega
            have em1 : IntKind.i64.wrap ((mid : Int) - (a' : Int)) = ((mid - a' : Nat) : Int) := by rw [IntWalk.i64_in _ (by omega)]; omega
            have em2 : IntKind.i64.wrap ((e' : Int) - (mid : Int)) = ((e' - mid : Nat) : Int) := by rw [IntWalk.i64_in _ (by omega)]; omega
            have em3 : IntKind.i64.wrap (((e' - a' : Nat) : Int).tdiv 8) = (((e' - a') / 8 : Nat) : Int) := by rw [Int.tdiv_eq_ediv_of_nonneg (by omega), IntWalk.i64_in _ (by omega)]; omega
            have em4 : IntKind.i64.wrap ((mid : Int) + 1) = ((mid + 1 : Nat) : Int) := by rw [IntWalk.i64_in _ (by omega)]; omega
            simp (disch := first | omega | assumption | exact isC_last | exact isC_app (by first | assumption | exact isC_last | exact isC_app (by first | assumption | exact isC_last)) | (simp [oneC]; done) | fail) only [bQuo, em1, em2, em3, evs0, evs1, evs2, evs3, evs4, evs5, evs6, evs7, evs8, if_true, if_false, ↓reduceIte, Nat.reduceEqDiff, Nat.reduceAdd, Nat.reduceMul, Nat.reduceSub, Nat.reduceLeDiff, Int.reduceLT, Int.reduceLE, Int.reduceEq, Bool.false_eq_true, Option.bind_some, Option.map_some, List.set_cons_zero, List.set_cons_succ, List.toList_toArray, List.size_toArray, List.length_cons, List.length_nil, List.getElem?_toArray, List.getElem?_cons_zero, List.getElem?_cons_succ, List.drop_zero, List.take_succ_cons, List.take_zero]
            by_cases hlt : mid - a' < e' - mid
            · rw [if_pos (by omega), F59.e14]
              simp (disch := first | omega | assumption | exact isC_last | exact isC_app (by first | assumption | exact isC_last | exact isC_app (by first | assumption | exact isC_last)) | (simp [oneC]; done) | fail) only [F59.t14, evs0, evs1, evs2, evs3, evs4, evs5, evs6, evs7, evs8, if_true, if_false, ↓reduceIte, Nat.reduceEqDiff, Nat.reduceAdd, Nat.reduceMul, Nat.reduceSub, Nat.reduceLeDiff, Int.reduceLT, Int.reduceLE, Int.reduceEq, Bool.false_eq_true, Option.bind_some, Option.map_some, List.set_cons_zero, List.set_cons_succ, List.toList_toArray, List.size_toArray, List.length_cons, List.length_nil, List.getElem?_toArray, List.getElem?_cons_zero, List.getElem?_cons_succ, List.drop_zero, List.take_succ_cons, List.take_zero]
              refine (ih (by omega) hb4 hs5 r1 (by omega) h60 hl20 hl21 r4).mono ?_
              rintro _ _ ⟨h5, L, rfl, K5, PL, SL⟩
              obtain ⟨q1, q2⟩ := r6 L PL SL
              simp (disch := first | omega | assumption | exact isC_last | exact isC_app (by first | assumption | exact isC_last | exact isC_app (by first | assumption | exact isC_last)) | (simp [oneC]; done) | fail) only [em4, evs0, evs1, evs2, evs3, evs4, evs5, evs6, evs7, evs8, if_true, if_false, ↓reduceIte, Nat.reduceEqDiff, Nat.reduceAdd, Nat.reduceMul, Nat.reduceSub, Nat.reduceLeDiff, Int.reduceLT, Int.reduceLE, Int.reduceEq, Bool.false_eq_true, Option.bind_some, Option.map_some, List.set_cons_zero, List.set_cons_succ, List.toList_toArray, List.size_toArray, List.length_cons, List.length_nil, List.getElem?_toArray, List.getElem?_cons_zero, List.getElem?_cons_succ, List.drop_zero, List.take_succ_cons, List.take_zero]
              exact ⟨by trivial, e' - (mid + 1), by omega, mid + 1, e', l2, _, fl, h5, L, rfl, by omega, hen', by omega, hl20, hl21, by rw [permSize PL]; exact hs5, rfl, K4'.trans K5, q1, fun R x1 x2 => by obtain ⟨y1, y2⟩ := q2 R x1 x2; exact G4 R y1 y2, rfl⟩
            · rw [if_neg (by omega), F59.e15]
              simp (disch := first | omega | assumption | exact isC_last | exact isC_app (by first | assumption | exact isC_last | exact isC_app (by first | assumption | exact isC_last)) | (simp [oneC]; done) | fail) only [F59.t15, em4, evs0, evs1, evs2, evs3, evs4, evs5, evs6, evs7, evs8, if_true, if_false, ↓reduceIte, Nat.reduceEqDiff, Nat.reduceAdd, Nat.reduceMul, Nat.reduceSub, Nat.reduceLeDiff, Int.reduceLT, Int.reduceLE, Int.reduceEq, Bool.false_eq_true, Option.bind_some, Option.map_some, List.set_cons_zero, List.set_cons_succ, List.toList_toArray, List.size_toArray, List.length_cons, List.length_nil, List.getElem?_toArray, List.getElem?_cons_zero, List.getElem?_cons_succ, List.drop_zero, List.take_succ_cons, List.take_zero]
              refine (ih (by omega) hb4 hs5 (by omega) hen' h60 hl20 hl21 r5).mono ?_
              rintro _ _ ⟨h5, L, rfl, K5, PL, SL⟩
              obtain ⟨q1, q2⟩ := r7 L PL SL
              exact ⟨by trivial, mid - a', by omega, a', mid, l2, _, fl, h5, L, rfl, by omega, by omega, by omega, hl20, hl21, by rw [permSize PL]; exact hs5, rfl, K4'.trans K5, q1, fun R x1 x2 => by obtain ⟨y1, y2⟩ := q2 R x1 x2; exact G4 R y1 y2, rfl⟩
          by_cases ha0 : 0 < a'
          · have ea : IntKind.i64.wrap ((a' : Int) - 1) = ((a' - 1 : Nat) : Int) := by rw [IntWalk.i64_in _ (by omega)]; omega
            simp (disch := first | omega | assumption | exact isC_last | exact isC_app (by first | assumption | exact isC_last | exact isC_app (by first | assumption | exact isC_last)) | (simp [oneC]; done) | fail) only [F59.t11, ea, ixW, rdW, evs0, evs1, evs2, evs3, evs4, evs5, evs6, evs7, evs8, if_true, if_false, ↓reduceIte, Nat.reduceEqDiff, Nat.reduceAdd, Nat.reduceMul, Nat.reduceSub, Nat.reduceLeDiff, Int.reduceLT, Int.reduceLE, Int.reduceEq, Bool.false_eq_true, Option.bind_some, Option.map_some, List.set_cons_zero, List.set_cons_succ, List.toList_toArray, List.size_toArray, List.length_cons, List.length_nil, List.getElem?_toArray, List.getElem?_cons_zero, List.getElem?_cons_succ, List.drop_zero, List.take_succ_cons, List.take_zero]
            rw [if_pos (by omega)]
            refine lessQ.mono ?_
            rintro _ hx ⟨rfl, ex⟩; subst hx
            cases hnl : ltInt d4[a' - 1]! d4[pv]! with
            | true =>
              simp (disch := first | omega | assumption | exact isC_last | exact isC_app (by first | assumption | exact isC_last | exact isC_app (by first | assumption | exact isC_last)) | (simp [oneC]; done) | fail) only [Bool.not_true, evs0, evs1, evs2, evs3, evs4, evs5, evs6, evs7, evs8, if_true, if_false, ↓reduceIte, Nat.reduceEqDiff, Nat.reduceAdd, Nat.reduceMul, Nat.reduceSub, Nat.reduceLeDiff, Int.reduceLT, Int.reduceLE, Int.reduceEq, Bool.false_eq_true, Option.bind_some, Option.map_some, List.set_cons_zero, List.set_cons_succ, List.toList_toArray, List.size_toArray, List.length_cons, List.length_nil, List.getElem?_toArray, List.getElem?_cons_zero, List.getElem?_cons_succ, List.drop_zero, List.take_succ_cons, List.take_zero]
              exact two
            | false =>
              simp (disch := first | omega | assumption | exact isC_last | exact isC_app (by first | assumption | exact isC_last | exact isC_app (by first | assumption | exact isC_last)) | (simp [oneC]; done) | fail) only [Bool.not_false, evs0, evs1, evs2, evs3, evs4, evs5, evs6, evs7, evs8, if_true, if_false, ↓reduceIte, Nat.reduceEqDiff, Nat.reduceAdd, Nat.reduceMul, Nat.reduceSub, Nat.reduceLeDiff, Int.reduceLT, Int.reduceLE, Int.reduceEq, Bool.false_eq_true, Option.bind_some, Option.map_some, List.set_cons_zero, List.set_cons_succ, List.toList_toArray, List.size_toArray, List.length_cons, List.length_nil, List.getElem?_toArray, List.getElem?_cons_zero, List.getElem?_cons_succ, List.drop_zero, List.take_succ_cons, List.take_zero]
              rw [F59.e12]
              unfold F59.t12
              refine (partEq_ok hb4 hs4 hp1 hp2 hen' (by omega)).mono ?_
              rintro _ _ ⟨rfl, rfl⟩
              obtain ⟨⟨mid, d5⟩, hx⟩ : ∃ x, Sort.partitionEqual ltInt d4 a' e' pv = x := ⟨_, rfl⟩
              simp only [hx]
              obtain ⟨r1, r2, r3, r4, r5⟩ := Sort.round_eq swo_ltInt (Sort.partitionEqual_holds _) ha0 hp1 hp2 (by omega) hB4 hnl hx
              simp (disch := first | omega | assumption | exact isC_last | exact isC_app (by first | assumption | exact isC_last | exact isC_app (by first | assumption | exact isC_last)) | (simp [oneC]; done) | fail) only [evs0, evs1, evs2, evs3, evs4, evs5, evs6, evs7, evs8, if_true, if_false, ↓reduceIte, Nat.reduceEqDiff, Nat.reduceAdd, Nat.reduceMul, Nat.reduceSub, Nat.reduceLeDiff, Int.reduceLT, Int.reduceLE, Int.reduceEq, Bool.false_eq_true, Option.bind_some, Option.map_some, List.set_cons_zero, List.set_cons_succ, List.toList_toArray, List.size_toArray, List.length_cons, List.length_nil, List.getElem?_toArray, List.getElem?_cons_zero, List.getElem?_cons_succ, List.drop_zero, List.take_succ_cons, List.take_zero]
              exact ⟨by trivial, e' - mid, by omega, mid, e', l2, wb, wp, h4, d5, rfl, r2, hen', by omega, hl20, hl21, by omega, rfl, K4', r4, fun R x1 x2 => by obtain ⟨y1, y2⟩ := r5 R x1 x2; exact G4 R y1 y2, rfl⟩
          · simp (disch := first | omega | assumption | exact isC_last | exact isC_app (by first | assumption | exact isC_last | exact isC_app (by first | assumption | exact isC_last)) | (simp [oneC]; done) | fail) only [F59.t11, evs0, evs1, evs2, evs3, evs4, evs5, evs6, evs7, evs8, if_true, if_false, ↓reduceIte, Nat.reduceEqDiff, Nat.reduceAdd, Nat.reduceMul, Nat.reduceSub, Nat.reduceLeDiff, Int.reduceLT, Int.reduceLE, Int.reduceEq, Bool.false_eq_true, Option.bind_some, Option.map_some, List.set_cons_zero, List.set_cons_succ, List.toList_toArray, List.size_toArray, List.length_cons, List.length_nil, List.getElem?_toArray, List.getElem?_cons_zero, List.getElem?_cons_succ, List.drop_zero, List.take_succ_cons, List.take_zero]
            rw [if_neg (by omega)]
            exact two
        rw [F59.e9]
        unfold F59.t9
        cases wb with
        | false => simp (disch := first | omega | assumption | exact isC_last | exact isC_app (by first | assumption | exact isC_last | exact isC_app (by first | assumption | exact isC_last)) | (simp [oneC]; done) | fail) only [evs0, evs1, evs2, evs3, evs4, evs5, evs6, evs7, evs8, if_true, if_false, ↓reduceIte, Nat.reduceEqDiff, Nat.reduceAdd, Nat.reduceMul, Nat.reduceSub, Nat.reduceLeDiff, Int.reduceLT, Int.reduceLE, Int.reduceEq, Bool.false_eq_true, Option.bind_some, Option.map_some, List.set_cons_zero, List.set_cons_succ, List.toList_toArray, List.size_toArray, List.length_cons, List.length_nil, List.getElem?_toArray, List.getElem?_cons_zero, List.getElem?_cons_succ, List.drop_zero, List.take_succ_cons, List.take_zero]; exact part d3 P3
        | true =>
          cases wp with
          | false => simp (disch := first | omega | assumption | exact isC_last | exact isC_app (by first | assumption | exact isC_last | exact isC_app (by first | assumption | exact isC_last)) | (simp [oneC]; done) | fail) only [evs0, evs1, evs2, evs3, evs4, evs5, evs6, evs7, evs8, if_true, if_false, ↓reduceIte, Nat.reduceEqDiff, Nat.reduceAdd, Nat.reduceMul, Nat.reduceSub, Nat.reduceLeDiff, Int.reduceLT, Int.reduceLE, Int.reduceEq, Bool.false_eq_true, Option.bind_some, Option.map_some, List.set_cons_zero, List.set_cons_succ, List.toList_toArray, List.size_toArray, List.length_cons, List.length_nil, List.getElem?_toArray, List.getElem?_cons_zero, List.getElem?_cons_succ, List.drop_zero, List.take_succ_cons, List.take_zero]; exact part d3 P3
          | true =>
            simp (disch := first | omega | assumption | exact isC_last | exact isC_app (by first | assumption | exact isC_last | exact isC_app (by first | assumption | exact isC_last)) | (simp [oneC]; done) | fail) only [evs0, evs1, evs2, evs3, evs4, evs5, evs6, evs7, evs8, if_true, if_false, ↓reduceIte, Nat.reduceEqDiff, Nat.reduceAdd, Nat.reduceMul, Nat.reduceSub, Nat.reduceLeDiff, Int.reduceLT, Int.reduceLE, Int.reduceEq, Bool.false_eq_true, Option.bind_some, Option.map_some, List.set_cons_zero, List.set_cons_succ, List.toList_toArray, List.size_toArray, List.length_cons, List.length_nil, List.getElem?_toArray, List.getElem?_cons_zero, List.getElem?_cons_succ, List.drop_zero, List.take_succ_cons, List.take_zero]
            by_cases hh1 : hint = 1
            · rw [if_pos hh1, F59.e10]
              unfold F59.t10
              refine (partial_ok hb4 hs3 (by omega) hen' h60).mono ?_
              rintro _ _ ⟨rfl, rfl⟩
              obtain ⟨q1, q2⟩ := Sort.partialInsertionSort_holds swo_ltInt d3 a' e' (by omega) (by omega) hB3
              cases hfl : (Sort.partialInsertionSort ltInt d3 a' e').2 with
              | true =>
                simp (disch := first | omega | assumption | exact isC_last | exact isC_app (by first | assumption | exact isC_last | exact isC_app (by first | assumption | exact isC_last)) | (simp [oneC]; done) | fail) only [evs0, evs1, evs2, evs3, evs4, evs5, evs6, evs7, evs8, if_true, if_false, ↓reduceIte, Nat.reduceEqDiff, Nat.reduceAdd, Nat.reduceMul, Nat.reduceSub, Nat.reduceLeDiff, Int.reduceLT, Int.reduceLE, Int.reduceEq, Bool.false_eq_true, Option.bind_some, Option.map_some, List.set_cons_zero, List.set_cons_succ, List.toList_toArray, List.size_toArray, List.length_cons, List.length_nil, List.getElem?_toArray, List.getElem?_cons_zero, List.getElem?_cons_succ, List.drop_zero, List.take_succ_cons, List.take_zero]
                obtain ⟨y1, y2⟩ := G _ (Sort.permIn_trans _ _ _ _ _ P3 q1) (q2 hfl)
                exact fin K4' y1 y2
              | false =>
                simp (disch := first | omega | assumption | exact isC_last | exact isC_app (by first | assumption | exact isC_last | exact isC_app (by first | assumption | exact isC_last)) | (simp [oneC]; done) | fail) only [evs0, evs1, evs2, evs3, evs4, evs5, evs6, evs7, evs8, if_true, if_false, ↓reduceIte, Nat.reduceEqDiff, Nat.reduceAdd, Nat.reduceMul, Nat.reduceSub, Nat.reduceLeDiff, Int.reduceLT, Int.reduceLE, Int.reduceEq, Bool.false_eq_true, Option.bind_some, Option.map_some, List.set_cons_zero, List.set_cons_succ, List.toList_toArray, List.size_toArray, List.length_cons, List.length_nil, List.getElem?_toArray, List.getElem?_cons_zero, List.getElem?_cons_succ, List.drop_zero, List.take_succ_cons, List.take_zero]
                exact part _ (Sort.permIn_trans _ _ _ _ _ P3 q1)
            · rw [if_neg hh1]
              exact part d3 P3
      simp (disch := first | omega | assumption | exact isC_last | exact isC_app (by first | assumption | exact isC_last | exact isC_app (by first | assumption | exact isC_last)) | (simp [oneC]; done) | fail) only [evs0, evs1, evs2, evs3, evs4, evs5, evs6, evs7, evs8, if_true, if_false, ↓reduceIte, Nat.reduceEqDiff, Nat.reduceAdd, Nat.reduceMul, Nat.reduceSub, Nat.reduceLeDiff, Int.reduceLT, Int.reduceLE, Int.reduceEq, Bool.false_eq_true, Option.bind_some, Option.map_some, List.set_cons_zero, List.set_cons_succ, List.toList_toArray, List.size_toArray, List.length_cons, List.length_nil, List.getElem?_toArray, List.getElem?_cons_zero, List.getElem?_cons_succ, List.drop_zero, List.take_succ_cons, List.take_zero]
      by_cases hh : hint = 2
      · rw [if_pos hh, F59.e8]
        unfold F59.t8
        refine (reverse_ok hb4 hs2 (by omega) hen' (by omega)).mono ?_
        rintro _ _ rfl
        have em1 : IntKind.i64.wrap ((e' : Int) - 1) = ((e' - 1 : Nat) : Int) := by rw [IntWalk.i64_in _ (by omega)]; omega
        have em2 : IntKind.i64.wrap ((pv : Int) - (a' : Int)) = ((pv - a' : Nat) : Int) := by rw [IntWalk.i64_in _ (by omega)]; omega
        have em3 : IntKind.i64.wrap (((e' - 1 : Nat) : Int) - ((pv - a' : Nat) : Int)) = ((e' - 1 - (pv - a') : Nat) : Int) := by rw [IntWalk.i64_in _ (by omega)]; omega
        simp (disch := first | omega | assumption | exact isC_last | exact isC_app (by first | assumption | exact isC_last | exact isC_app (by first | assumption | exact isC_last)) | (simp [oneC]; done) | fail) only [em1, em2, em3, evs0, evs1, evs2, evs3, evs4, evs5, evs6, evs7, evs8, if_true, if_false, ↓reduceIte, Nat.reduceEqDiff, Nat.reduceAdd, Nat.reduceMul, Nat.reduceSub, Nat.reduceLeDiff, Int.reduceLT, Int.reduceLE, Int.reduceEq, Bool.false_eq_true, Option.bind_some, Option.map_some, List.set_cons_zero, List.set_cons_succ, List.toList_toArray, List.size_toArray, List.length_cons, List.length_nil, List.getElem?_toArray, List.getElem?_cons_zero, List.getElem?_cons_succ, List.drop_zero, List.take_succ_cons, List.take_zero]
        exact rest _ 1 _ (by omega) (by omega) (Sort.permIn_trans _ _ _ _ _ P2 (Sort.reverseRange_holds d2 a' e' (by omega) (by omega)))
      · rw [if_neg hh]
        exact rest pv hint d2 hp1 hp2 P2
    cases wb with
    | true =>
      simp (disch := first | omega | assumption | exact isC_last | exact isC_app (by first | assumption | exact isC_last | exact isC_app (by first | assumption | exact isC_last)) | (simp [oneC]; done) | fail) only [Bool.not_true, evs0, evs1, evs2, evs3, evs4, evs5, evs6, evs7, evs8, if_true, if_false, ↓reduceIte, Nat.reduceEqDiff, Nat.reduceAdd, Nat.reduceMul, Nat.reduceSub, Nat.reduceLeDiff, Int.reduceLT, Int.reduceLE, Int.reduceEq, Bool.false_eq_true, Option.bind_some, Option.map_some, List.set_cons_zero, List.set_cons_succ, List.toList_toArray, List.size_toArray, List.length_cons, List.length_nil, List.getElem?_toArray, List.getElem?_cons_zero, List.getElem?_cons_succ, List.drop_zero, List.take_succ_cons, List.take_zero]
      exact piv l' h2 d' hl0' hl1' K2 (Sort.permIn_refl _ _ _)
    | false =>
      simp (disch := first | omega | assumption | exact isC_last | exact isC_app (by first | assumption | exact isC_last | exact isC_app (by first | assumption | exact isC_last)) | (simp [oneC]; done) | fail) only [Bool.not_false, evs0, evs1, evs2, evs3, evs4, evs5, evs6, evs7, evs8, if_true, if_false, ↓reduceIte, Nat.reduceEqDiff, Nat.reduceAdd, Nat.reduceMul, Nat.reduceSub, Nat.reduceLeDiff, Int.reduceLT, Int.reduceLE, Int.reduceEq, Bool.false_eq_true, Option.bind_some, Option.map_some, List.set_cons_zero, List.set_cons_succ, List.toList_toArray, List.size_toArray, List.length_cons, List.length_nil, List.getElem?_toArray, List.getElem?_cons_zero, List.getElem?_cons_succ, List.drop_zero, List.take_succ_cons, List.take_zero]
      rw [F59.e6]
      unfold F59.t6
      refine (break_ok hb2 hs hae' hen' h60).mono ?_
      rintro _ _ ⟨h3, d2, rfl, K3, P2⟩
      simp (disch := first | omega | assumption | exact isC_last | exact isC_app (by first | assumption | exact isC_last | exact isC_app (by first | assumption | exact isC_last)) | (simp [oneC]; done) | fail) only [evs0, evs1, evs2, evs3, evs4, evs5, evs6, evs7, evs8, if_true, if_false, ↓reduceIte, Nat.reduceEqDiff, Nat.reduceAdd, Nat.reduceMul, Nat.reduceSub, Nat.reduceLeDiff, Int.reduceLT, Int.reduceLE, Int.reduceEq, Bool.false_eq_true, Option.bind_some, Option.map_some, List.set_cons_zero, List.set_cons_succ, List.toList_toArray, List.size_toArray, List.length_cons, List.length_nil, List.getElem?_toArray, List.getElem?_cons_zero, List.getElem?_cons_succ, List.drop_zero, List.take_succ_cons, List.take_zero]
      rw [IntWalk.i64_in _ (by omega)]
      exact piv (l' - 1) h3 d2 (by omega) (by omega) (K2.trans K3) P2
set_option maxRecDepth 20000 in
theorem Len0_ok {h : H} : Cn Try.prog n0 (.func 60) [.int .u64 0] h (fun v h' => h' = h ∧ v = .int .i64 0) := by
  refine F60.enter ?_
  rw [F60.e0]
  unfold F60.t0
  rw [F60.e2]
  unfold F60.t2
  refine F71.enter ?_
  rw [F71.e0]
  simp (disch := first | omega | assumption | exact isC_last | exact isC_app (by first | assumption | exact isC_last | exact isC_app (by first | assumption | exact isC_last)) | (simp [oneC]; done) | fail) only [F71.t0, evs0, evs1, evs2, evs3, evs4, evs5, evs6, evs7, evs8, if_true, if_false, ↓reduceIte, Nat.reduceEqDiff, Nat.reduceAdd, Nat.reduceMul, Nat.reduceSub, Nat.reduceLeDiff, Int.reduceLT, Int.reduceLE, Int.reduceEq, Bool.false_eq_true, Option.bind_some, Option.map_some, List.set_cons_zero, List.set_cons_succ, List.toList_toArray, List.size_toArray, List.length_cons, List.length_nil, List.getElem?_toArray, List.getElem?_cons_zero, List.getElem?_cons_succ, List.drop_zero, List.take_succ_cons, List.take_zero]
  rw [F71.e2]
  simp (disch := first | omega | assumption | exact isC_last | exact isC_app (by first | assumption | exact isC_last | exact isC_app (by first | assumption | exact isC_last)) | (simp [oneC]; done) | fail) only [F71.t2, evs0, evs1, evs2, evs3, evs4, evs5, evs6, evs7, evs8, if_true, if_false, ↓reduceIte, Nat.reduceEqDiff, Nat.reduceAdd, Nat.reduceMul, Nat.reduceSub, Nat.reduceLeDiff, Int.reduceLT, Int.reduceLE, Int.reduceEq, Bool.false_eq_true, Option.bind_some, Option.map_some, List.set_cons_zero, List.set_cons_succ, List.toList_toArray, List.size_toArray, List.length_cons, List.length_nil, List.getElem?_toArray, List.getElem?_cons_zero, List.getElem?_cons_succ, List.drop_zero, List.take_succ_cons, List.take_zero]
  rw [F71.e4]
  simp (disch := first | omega | assumption | exact isC_last | exact isC_app (by first | assumption | exact isC_last | exact isC_app (by first | assumption | exact isC_last)) | (simp [oneC]; done) | fail) only [F71.t4, evs0, evs1, evs2, evs3, evs4, evs5, evs6, evs7, evs8, if_true, if_false, ↓reduceIte, Nat.reduceEqDiff, Nat.reduceAdd, Nat.reduceMul, Nat.reduceSub, Nat.reduceLeDiff, Int.reduceLT, Int.reduceLE, Int.reduceEq, Bool.false_eq_true, Option.bind_some, Option.map_some, List.set_cons_zero, List.set_cons_succ, List.toList_toArray, List.size_toArray, List.length_cons, List.length_nil, List.getElem?_toArray, List.getElem?_cons_zero, List.getElem?_cons_succ, List.drop_zero, List.take_succ_cons, List.take_zero]
  rw [F71.e6]
  simp (disch := first | omega | assumption | exact isC_last | exact isC_app (by first | assumption | exact isC_last | exact isC_app (by first | assumption | exact isC_last)) | (simp [oneC]; done) | fail) only [F71.t6, evs0, evs1, evs2, evs3, evs4, evs5, evs6, evs7, evs8, if_true, if_false, ↓reduceIte, Nat.reduceEqDiff, Nat.reduceAdd, Nat.reduceMul, Nat.reduceSub, Nat.reduceLeDiff, Int.reduceLT, Int.reduceLE, Int.reduceEq, Bool.false_eq_true, Option.bind_some, Option.map_some, List.set_cons_zero, List.set_cons_succ, List.toList_toArray, List.size_toArray, List.length_cons, List.length_nil, List.getElem?_toArray, List.getElem?_cons_zero, List.getElem?_cons_succ, List.drop_zero, List.take_succ_cons, List.take_zero]
  refine Bnd_i (a := .int .u8 0) (by kernel_rfl) ?_
  simp (disch := first | omega | assumption | exact isC_last | exact isC_app (by first | assumption | exact isC_last | exact isC_app (by first | assumption | exact isC_last)) | (simp [oneC]; done) | fail) only [evs0, evs1, evs2, evs3, evs4, evs5, evs6, evs7, evs8, if_true, if_false, ↓reduceIte, Nat.reduceEqDiff, Nat.reduceAdd, Nat.reduceMul, Nat.reduceSub, Nat.reduceLeDiff, Int.reduceLT, Int.reduceLE, Int.reduceEq, Bool.false_eq_true, Option.bind_some, Option.map_some, List.set_cons_zero, List.set_cons_succ, List.toList_toArray, List.size_toArray, List.length_cons, List.length_nil, List.getElem?_toArray, List.getElem?_cons_zero, List.getElem?_cons_succ, List.drop_zero, List.take_succ_cons, List.take_zero]
  exact ⟨by trivial, by rfl⟩
theorem swoTot : ∀ x y : Int, ltInt x y = false → ltInt y x = false → x = y := by
  intro x y h1 h2
  unfold ltInt at h1 h2
  rw [decide_eq_false_iff_not] at h1 h2
  omega
set_option maxRecDepth 20000 in
theorem Sort_ok {h : H} {b n : Nat} {d : Array Int} (hb : b < h.length) (hn : d.size = n) (h60 : n < 2 ^ 60) :
    Cn Try.prog n0 (.func 57) [V b n] (W h b d) (fun _ h' => ∃ h2 R, h' = W h2 b R ∧ Kp b h h2 ∧ R.toList = d.toList.mergeSort (fun x y => !ltInt y x)) := by
  refine F57.enter ?_
  obtain ⟨HP, hHP⟩ : ∃ HP : Value → H → Prop, (fun (_ : Value) h' => ∃ h2 R, h' = W h2 b R ∧ Kp b h h2 ∧ R.toList = d.toList.mergeSort (fun x y => !ltInt y x)) = HP := ⟨_, rfl⟩
  rw [hHP, F57.e0]
  unfold F57.t0
  have key : ∀ L : Nat, L ≤ 1000 → Cn Try.prog n0 (.func 59) [V b n, .int .i64 0, .int .i64 n, .int .i64 L] (W h b d) (fun _ h' => ∃ h2 R, h' = W h2 b R ∧ Kp b h h2 ∧ R.toList = d.toList.mergeSort (fun x y => !ltInt y x)) := by
    intro L hL
    refine (pdq_ok n (a := 0) (e := n) (lim := L) (by omega) hb hn (by omega) (by omega) h60 (by omega) (by omega) (.inl rfl)).mono ?_
    rintro _ _ ⟨h2, R, rfl, K2, P, So⟩
    refine ⟨h2, R, rfl, K2, ?_⟩
    rw [← hn] at P So
    exact Sort.sorted_unique_holds swo_ltInt swoTot d R P So
  refine Bnd2_i (a := .int .i64 n) (b := W h b d) (by unfold V; simp [aBuiltin, un_22, aLen]) ?_
  simp (disch := first | omega | assumption | exact isC_last | exact isC_app (by first | assumption | exact isC_last | exact isC_app (by first | assumption | exact isC_last)) | (simp [oneC]; done) | fail) only [evs0, evs1, evs2, evs3, evs4, evs5, evs6, evs7, evs8, if_true, if_false, ↓reduceIte, Nat.reduceEqDiff, Nat.reduceAdd, Nat.reduceMul, Nat.reduceSub, Nat.reduceLeDiff, Int.reduceLT, Int.reduceLE, Int.reduceEq, Bool.false_eq_true, Option.bind_some, Option.map_some, List.set_cons_zero, List.set_cons_succ, List.toList_toArray, List.size_toArray, List.length_cons, List.length_nil, List.getElem?_toArray, List.getElem?_cons_zero, List.getElem?_cons_succ, List.drop_zero, List.take_succ_cons, List.take_zero]
  rw [IntWalk.u64_in _ (by omega)]
  by_cases h0 : n = 0
  · rw [h0]
    refine Len0_ok.mono ?_
    rintro _ _ ⟨rfl, rfl⟩
    rw [h0] at key
    refine (key 0 (by omega)).mono ?_
    rintro _ h' H
    rw [← hHP]
    exact H
  · refine (Len_ok (by omega) (by omega)).mono ?_
    rintro _ _ ⟨rfl, L, rfl, hL⟩
    have := pow_lt_of hL (by omega)
    refine (key L (by omega)).mono ?_
    rintro _ h' H
    rw [← hHP]
    exact H
end Go.Proofs.Ytjdcdabbbmhffaa
