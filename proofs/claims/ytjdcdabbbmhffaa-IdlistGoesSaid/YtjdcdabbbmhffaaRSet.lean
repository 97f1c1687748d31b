/- The reference's merge and Set. No condition. -/
import Derived.Test.YtjdcdabbbmhffaaNw
import Derived.Test.YtjdcdabbbmhffaaGd
set_option linter.unusedVariables false
set_option linter.unusedSimpArgs false
namespace Go.Proofs.Ytjdcdabbbmhffaa
open Go.Ev Idl
variable {n0 : Nat} {h : H}
set_option maxRecDepth 20000 in
theorem merge_ok {v w : Value} {a b : List Int} (S : Sl h 1 v (a.map u)) (T : Sl h 1 w (b.map u)) (hl : a.length + b.length ≤ 26388279065600) :
    Cn Try.prog n0 (.func 52) [v, w] h (fun r h' => Nw1 h' h.length r (uni a b) ∧ Ext h h') := by
  refine F52.enter ?_
  obtain ⟨HP, hHP⟩ : ∃ HP : Value → H → Prop, (fun r h' => Nw1 h' h.length r (uni a b) ∧ Ext h h') = HP := ⟨_, rfl⟩
  rw [hHP, F52.e0]
  unfold F52.t0
  refine Lp_ind (fun m fr hh => ∃ (o a' b' : List Int) (w1 w2 out : Value), fr = [(0, w1), (1, w2), (5, out)] ∧ Sl h 1 w1 (a'.map u) ∧ Sl h 1 w2 (b'.map u) ∧
      Nw1 hh h.length out o ∧ o.length + a'.length + b'.length ≤ a.length + b.length ∧ o ++ uni a' b' = uni a b ∧ Ext h hh ∧ m = a'.length + b'.length) (F52.m1 n0) (a.length + b.length)
    ⟨[], a, b, v, w, .slice none 0 0, by simp (disch := first | omega | assumption | exact isC_last | exact isC_app (by first | assumption | exact isC_last | exact isC_app (by first | assumption | exact isC_last)) | (simp [oneC]; done) | fail) only [evs0, evs1, evs2, evs3, evs4, evs5, evs6, evs7, evs8, if_true, if_false, ↓reduceIte, Nat.reduceEqDiff, Nat.reduceAdd, Nat.reduceMul, Nat.reduceSub, Nat.reduceLeDiff, Int.reduceLT, Int.reduceLE, Int.reduceEq, Bool.false_eq_true, Option.bind_some, Option.map_some, List.set_cons_zero, List.set_cons_succ, List.toList_toArray, List.size_toArray, List.length_cons, List.length_nil, List.getElem?_toArray, List.getElem?_cons_zero, List.getElem?_cons_succ, List.drop_zero, List.take_succ_cons, List.take_zero], S, T, ⟨.inl ⟨rfl, rfl, rfl⟩, fun j e => absurd e isBlk_nil⟩, by rw [List.length_nil]; omega, rfl, Ext.refl _, rfl⟩ ?_
  rintro m fr hh ⟨o, a', b', w1, w2, out, rfl, S1, S2, N, hle, E, X, rfl⟩
  have hgh := X.len'
  have S1' := S1.ext X
  have S2' := S2.ext X
  -- one number more
  have nxt : ∀ (x : Int) (a1 b1 : List Int) (z1 z2 : Value) (out' : Value) (h' : H), Sl h 1 z1 (a1.map u) → Sl h 1 z2 (b1.map u) → x :: uni a1 b1 = uni a' b' → o.length + 1 + a1.length + b1.length ≤ a.length + b.length → a1.length + b1.length < a'.length + b'.length → Nw1 h' h.length out' (o ++ [x]) → Ext h h' →
      ∃ m', m' < a'.length + b'.length ∧ ∃ (o a' b' : List Int) (w1 w2 out : Value), [(0, z1), (1, z2), (5, out')] = [(0, w1), (1, w2), (5, out)] ∧ Sl h 1 w1 (a'.map u) ∧ Sl h 1 w2 (b'.map u) ∧
      Nw1 h' h.length out o ∧ o.length + a'.length + b'.length ≤ a.length + b.length ∧ o ++ uni a' b' = uni a b ∧ Ext h h' ∧ m' = a'.length + b'.length := by
    intro x a1 b1 z1 z2 out' h' Z1 Z2 E1 h1 h2 N' X'
    refine ⟨a1.length + b1.length, h2, o ++ [x], a1, b1, z1, z2, out', rfl, Z1, Z2, N', by rw [List.length_append, List.length_singleton]; omega, ?_, X', rfl⟩
    rw [List.append_assoc, List.singleton_append, E1, E]
  obtain ⟨J, hJ⟩ : ∃ J : Fr → H → Prop, J = (fun fr h' => ∃ m', m' < a'.length + b'.length ∧ ∃ (o a' b' : List Int) (w1 w2 out : Value), fr = [(0, w1), (1, w2), (5, out)] ∧ Sl h 1 w1 (a'.map u) ∧ Sl h 1 w2 (b'.map u) ∧
      Nw1 h' h.length out o ∧ o.length + a'.length + b'.length ≤ a.length + b.length ∧ o ++ uni a' b' = uni a b ∧ Ext h h' ∧ m' = a'.length + b'.length) := ⟨_, rfl⟩
  rw [← hJ]
  have nx : ∀ (x : Int) (a1 b1 : List Int) (z1 z2 : Value) (out' : Value) (h' : H), Sl h 1 z1 (a1.map u) → Sl h 1 z2 (b1.map u) → x :: uni a1 b1 = uni a' b' → o.length + 1 + a1.length + b1.length ≤ a.length + b.length → a1.length + b1.length < a'.length + b'.length → Nw1 h' h.length out' (o ++ [x]) → Ext h h' → J [(0, z1), (1, z2), (5, out')] h' := by
    rw [hJ]; exact nxt
  clear nxt hJ
  rw [F52.e1]
  unfold F52.t1
  refine Bnd2_i (len_sl S1') ?_
  refine Bnd_i bGtr ?_
  -- b's number is taken
  have six : ∀ (y : Int) (b1 : List Int) (a1 : List Int) (z1 : Value), b' = y :: b1 → Sl h 1 z1 (a1.map u) → y :: uni a1 b1 = uni a' b' → a1.length ≤ a'.length →
      F52.p6 n0 [(0, z1), (1, w2), (5, out)] [] hh (KBlk [0, 1, 5] 1 (KLp [0, 1, 5] J [] (KBlk [5] 0 (KSeq [5] (F52.p7 n0) (KFin Try.prog [.tmp 4] HP))))) := by
    rintro y b1 a1 z1 rfl Z1 E1 h1
    simp only [List.length_cons] at hle nx
    rw [F52.e6]
    unfold F52.t6
    refine rdU S2' (by omega) (by rw [List.length_cons]; omega) fun p => ?_
    rw [show (y :: b1).getD (0 : Int).toNat 0 = y from rfl]
    refine Bnd2_i bsl_22_1_0 ?_
    rw [ap_22_22]
    obtain ⟨out', h', e, N', hbut⟩ := (N.ext (Ext.app hh [Ob.cells true (enc 1 23) [.int .u64 y]])).put get_last (by rw [List.length_append]; omega) (by omega)
    refine Bnd2_i e ?_
    have X' : Ext h h' := butExt hbut (X.trans (Ext.app _ _)) N.bl
    refine tl_ok X' S2 (by omega) fun w2' Z2 => ?_
    simp (disch := first | omega | assumption | exact isC_last | exact isC_app (by first | assumption | exact isC_last | exact isC_app (by first | assumption | exact isC_last)) | (simp [oneC]; done) | fail) only [evs0, evs1, evs2, evs3, evs4, evs5, evs6, evs7, evs8, if_true, if_false, ↓reduceIte, Nat.reduceEqDiff, Nat.reduceAdd, Nat.reduceMul, Nat.reduceSub, Nat.reduceLeDiff, Int.reduceLT, Int.reduceLE, Int.reduceEq, Bool.false_eq_true, Option.bind_some, Option.map_some, List.set_cons_zero, List.set_cons_succ, List.toList_toArray, List.size_toArray, List.length_cons, List.length_nil, List.getElem?_toArray, List.getElem?_cons_zero, List.getElem?_cons_succ, List.drop_zero, List.take_succ_cons, List.take_zero]
    exact ⟨trivial, nx y a1 b1 z1 w2' out' h' Z1 Z2 E1 (by omega) (by omega) N' X'⟩
  -- a's is
  have three : ∀ (x : Int) (a1 : List Int), a' = x :: a1 → x :: uni a1 b' = uni a' b' →
      F52.p3 n0 [(0, w1), (1, w2), (5, out)] [] hh (KSeq [0, 1, 5] (F52.p4 n0) (KBlk [0, 1, 5] 1 (KLp [0, 1, 5] J [] (KBlk [5] 0 (KSeq [5] (F52.p7 n0) (KFin Try.prog [.tmp 4] HP)))))) := by
    rintro x a1 rfl E1
    simp only [List.length_cons] at hle nx
    rw [F52.e3]
    unfold F52.t3
    refine rdU S1' (by omega) (by rw [List.length_cons]; omega) fun p => ?_
    rw [show (x :: a1).getD (0 : Int).toNat 0 = x from rfl]
    refine Bnd2_i bsl_22_1_0 ?_
    rw [ap_22_22]
    obtain ⟨out', h', e, N', hbut⟩ := (N.ext (Ext.app hh [Ob.cells true (enc 1 23) [.int .u64 x]])).put get_last (by rw [List.length_append]; omega) (by omega)
    refine Bnd2_i e ?_
    have X' : Ext h h' := butExt hbut (X.trans (Ext.app _ _)) N.bl
    refine tl_ok X' S1 (by omega) fun w1' Z1 => ?_
    simp (disch := first | omega | assumption | exact isC_last | exact isC_app (by first | assumption | exact isC_last | exact isC_app (by first | assumption | exact isC_last)) | (simp [oneC]; done) | fail) only [evs0, evs1, evs2, evs3, evs4, evs5, evs6, evs7, evs8, if_true, if_false, ↓reduceIte, Nat.reduceEqDiff, Nat.reduceAdd, Nat.reduceMul, Nat.reduceSub, Nat.reduceLeDiff, Int.reduceLT, Int.reduceLE, Int.reduceEq, Bool.false_eq_true, Option.bind_some, Option.map_some, List.set_cons_zero, List.set_cons_succ, List.toList_toArray, List.size_toArray, List.length_cons, List.length_nil, List.getElem?_toArray, List.getElem?_cons_zero, List.getElem?_cons_succ, List.drop_zero, List.take_succ_cons, List.take_zero]
    exact ⟨trivial, nx x a1 b' w1' w2 out' h' Z1 S2 E1 (by omega) (by omega) N' X'⟩
  have four : ∀ (y : Int) (b1 : List Int), b' = y :: b1 → (∀ x a1, a' = x :: a1 → y ≤ x) →
      F52.p4 n0 [(0, w1), (1, w2), (5, out)] [] hh (KBlk [0, 1, 5] 1 (KLp [0, 1, 5] J [] (KBlk [5] 0 (KSeq [5] (F52.p7 n0) (KFin Try.prog [.tmp 4] HP))))) := by
    rintro y b1 rfl hxy
    rw [F52.e4]
    unfold F52.t4
    refine Bnd2_i (len_sl S1') ?_
    refine Bnd_i bGtr ?_
    cases a' with
    | nil =>
      rw [decide_eq_false (by simp), Gd_false]
      exact six y b1 [] w1 rfl S1 (by rw [uni_nil_l, uni_nil_l]) (Nat.le_refl _)
    | cons x a1 =>
      simp only [List.length_cons] at hle six ⊢
      have := hxy x a1 rfl
      rw [decide_eq_true (by omega), Gd_true]
      refine rdU S1' (by omega) (by rw [List.length_cons]; omega) fun p => ?_
      refine rdU S2' (by omega) (by rw [List.length_cons]; omega) fun p => ?_
      rw [show (x :: a1).getD (0 : Int).toNat 0 = x from rfl, show (y :: b1).getD (0 : Int).toNat 0 = y from rfl]
      refine Bnd_i bEql ?_
      by_cases hx : x = y
      · subst hx
        rw [decide_eq_true rfl, Cnd_true, F52.e5]
        unfold F52.t5
        refine tl_ok X S1 (by omega) fun w1' Z1 => ?_
        simp (disch := first | omega | assumption | exact isC_last | exact isC_app (by first | assumption | exact isC_last | exact isC_app (by first | assumption | exact isC_last)) | (simp [oneC]; done) | fail) only [evs0, evs1, evs2, evs3, evs4, evs5, evs6, evs7, evs8, if_true, if_false, ↓reduceIte, Nat.reduceEqDiff, Nat.reduceAdd, Nat.reduceMul, Nat.reduceSub, Nat.reduceLeDiff, Int.reduceLT, Int.reduceLE, Int.reduceEq, Bool.false_eq_true, Option.bind_some, Option.map_some, List.set_cons_zero, List.set_cons_succ, List.toList_toArray, List.size_toArray, List.length_cons, List.length_nil, List.getElem?_toArray, List.getElem?_cons_zero, List.getElem?_cons_succ, List.drop_zero, List.take_succ_cons, List.take_zero]
        exact six x b1 a1 w1' rfl Z1 (by rw [uni_eq]) (by omega)
      · rw [decide_eq_false hx, Cnd_false]
        exact six y b1 (x :: a1) w1 rfl S1 (by rw [uni_gt (by omega)]) (by rw [List.length_cons]; omega)
  cases a' with
  | nil =>
    rw [decide_eq_false (by simp), Gd_false]
    refine Bnd2_i (len_sl S2') ?_
    refine Bnd_i bGtr ?_
    cases b' with
    | nil =>
      rw [decide_eq_false (by simp), Cnd_false]
      simp (disch := first | omega | assumption | exact isC_last | exact isC_app (by first | assumption | exact isC_last | exact isC_app (by first | assumption | exact isC_last)) | (simp [oneC]; done) | fail) only [evs0, evs1, evs2, evs3, evs4, evs5, evs6, evs7, evs8, if_true, if_false, ↓reduceIte, Nat.reduceEqDiff, Nat.reduceAdd, Nat.reduceMul, Nat.reduceSub, Nat.reduceLeDiff, Int.reduceLT, Int.reduceLE, Int.reduceEq, Bool.false_eq_true, Option.bind_some, Option.map_some, List.set_cons_zero, List.set_cons_succ, List.toList_toArray, List.size_toArray, List.length_cons, List.length_nil, List.getElem?_toArray, List.getElem?_cons_zero, List.getElem?_cons_succ, List.drop_zero, List.take_succ_cons, List.take_zero]
      rw [F52.e7]
      simp (disch := first | omega | assumption | exact isC_last | exact isC_app (by first | assumption | exact isC_last | exact isC_app (by first | assumption | exact isC_last)) | (simp [oneC]; done) | fail) only [F52.t7, evs0, evs1, evs2, evs3, evs4, evs5, evs6, evs7, evs8, if_true, if_false, ↓reduceIte, Nat.reduceEqDiff, Nat.reduceAdd, Nat.reduceMul, Nat.reduceSub, Nat.reduceLeDiff, Int.reduceLT, Int.reduceLE, Int.reduceEq, Bool.false_eq_true, Option.bind_some, Option.map_some, List.set_cons_zero, List.set_cons_succ, List.toList_toArray, List.size_toArray, List.length_cons, List.length_nil, List.getElem?_toArray, List.getElem?_cons_zero, List.getElem?_cons_succ, List.drop_zero, List.take_succ_cons, List.take_zero]
      rw [← hHP, ← E, uni_nil_l, List.append_nil]
      exact ⟨N, X⟩
    | cons y b1 =>
      rw [decide_eq_true (by rw [List.length_cons]; omega), Cnd_true, F52.e2]
      unfold F52.t2
      refine Bnd2_i (len_sl S2') ?_
      refine Bnd_i bEql ?_
      rw [decide_eq_false (by rw [List.length_cons]; omega), Gd_false]
      refine Bnd2_i (len_sl S1') ?_
      refine Bnd_i bGtr ?_
      rw [decide_eq_false (by simp), Gd_false]
      exact four y b1 rfl (fun x a1 e => by cases e)
  | cons x a1 =>
    rw [decide_eq_true (by rw [List.length_cons]; omega), Gd_true, F52.e2]
    unfold F52.t2
    refine Bnd2_i (len_sl S2') ?_
    refine Bnd_i bEql ?_
    cases b' with
    | nil =>
      rw [decide_eq_true (by simp), Gd_true]
      exact three x a1 rfl (by rw [uni_nil_r, uni_nil_r])
    | cons y b1 =>
      rw [decide_eq_false (by rw [List.length_cons]; omega), Gd_false]
      refine Bnd2_i (len_sl S1') ?_
      refine Bnd_i bGtr ?_
      rw [decide_eq_true (by rw [List.length_cons]; omega), Gd_true]
      refine rdU S1' (by omega) (by rw [List.length_cons]; omega) fun p => ?_
      refine rdU S2' (by omega) (by rw [List.length_cons]; omega) fun p => ?_
      rw [show (x :: a1).getD (0 : Int).toNat 0 = x from rfl, show (y :: b1).getD (0 : Int).toNat 0 = y from rfl]
      refine Bnd_i bLss ?_
      by_cases hx : x < y
      · rw [decide_eq_true hx, Cnd_true]
        exact three x a1 rfl (by rw [uni_lt hx])
      · rw [decide_eq_false hx, Cnd_false]
        exact four y b1 rfl (fun x' a1' e => by cases e; omega)
theorem Sl_zero {a : Option Addr} : Sl h 1 (.slice a 0 0) (([] : List Int).map u) := ⟨a, 0, 0, rfl, Nat.le_refl _, rfl, fun _ => rfl, .inl rfl⟩
theorem half {v : Value} {l : List Int} {K : Value → Prop} (S : Sl h 1 v (l.map u)) (hl : l.length < 2 ^ 60) (k : ∀ w, Sl h 1 w ((l.take (l.length / 2)).map u) → K w) :
    Bnd (aSlice Try.prog 22 v none (some (.int .i64 ((l.length / 2 : Nat) : Int))) none h) K :=
  Bnd_sub1 (T := 22) (E := 23) (lo := none) (hi := some ((l.length / 2 : Nat) : Int)) (kk := .i64) (kk' := .i64) S un_22 sz_23 (by simp) (by simp <;> omega) (by simp; omega) fun w Sw => by
    refine k w ?_
    simp only [Option.getD_some, Option.getD_none, List.length_map, Int.toNat_natCast] at Sw
    rw [List.map_take]
    simpa using Sw
theorem half2 {v : Value} {l : List Int} {K : Value → Prop} (S : Sl h 1 v (l.map u)) (hl : l.length < 2 ^ 60) (k : ∀ w, Sl h 1 w ((l.drop (l.length / 2)).map u) → K w) :
    Bnd (aSlice Try.prog 22 v (some (.int .i64 ((l.length / 2 : Nat) : Int))) none none h) K :=
  Bnd_sub1 (T := 22) (E := 23) (lo := some ((l.length / 2 : Nat) : Int)) (hi := none) (kk := .i64) (kk' := .i64) S un_22 sz_23 (by simp <;> omega) (by simp; omega) (by simp) fun w Sw => by
    refine k w ?_
    simp only [Option.getD_some, Option.getD_none, List.length_map, Int.toNat_natCast] at Sw
    rw [List.map_drop]
    rw [List.take_of_length_le (by simp)] at Sw
    exact Sw
theorem rSet_ok : ∀ (n : Nat) {h : H} {v : Value} {l : List Int}, l.length < n → Sl h 1 v (l.map u) → l.length ≤ 26388279065600 →
    Cn Try.prog n0 (.func 46) [v] h (fun r h' => ∃ s, Sl h' 1 r (s.map u) ∧ St (· ∈ l) s ∧ s.length ≤ l.length ∧ Ext h h') := by
  intro n
  induction n with
  | zero => intro h v l hn; omega
  | succ n ih =>
    intro h v l hn S hl
    refine F46.enter ?_
    obtain ⟨HP, hHP⟩ : ∃ HP : Value → H → Prop, (fun r h' => ∃ s, Sl h' 1 r (s.map u) ∧ St (· ∈ l) s ∧ s.length ≤ l.length ∧ Ext h h') = HP := ⟨_, rfl⟩
    rw [hHP, F46.e0]
    unfold F46.t0
    refine Bnd2_i (len_sl S) ?_
    refine Bnd_i bLss ?_
    by_cases h2 : l.length < 2
    · rw [decide_eq_true (by omega), Cnd_true, F46.e1]
      unfold F46.t1
      refine Bnd2_i bsl_22_0 ?_
      rw [ap_22_22]
      cases l with
      | nil =>
        have e : aAppend Try.prog 22 (.slice (some ⟨h.length, 0, none⟩) 0 0) v (h ++ [Ob.cells true (enc 1 23) []]) = some (.slice (some ⟨h.length, 0, none⟩) 0 0, h ++ [Ob.cells true (enc 1 23) []]) := by
          simp only [aAppend, el_22, sz_23, ze_23, by_23, src1 (S.app _), Option.bind_some, List.map_nil, List.length_nil]
          simp
        refine Bnd2_i e ?_
        simp (disch := first | omega | assumption | exact isC_last | exact isC_app (by first | assumption | exact isC_last | exact isC_app (by first | assumption | exact isC_last)) | (simp [oneC]; done) | fail) only [evs0, evs1, evs2, evs3, evs4, evs5, evs6, evs7, evs8, if_true, if_false, ↓reduceIte, Nat.reduceEqDiff, Nat.reduceAdd, Nat.reduceMul, Nat.reduceSub, Nat.reduceLeDiff, Int.reduceLT, Int.reduceLE, Int.reduceEq, Bool.false_eq_true, Option.bind_some, Option.map_some, List.set_cons_zero, List.set_cons_succ, List.toList_toArray, List.size_toArray, List.length_cons, List.length_nil, List.getElem?_toArray, List.getElem?_cons_zero, List.getElem?_cons_succ, List.drop_zero, List.take_succ_cons, List.take_zero]
        rw [← hHP]
        exact ⟨[], Sl_zero, ⟨List.Pairwise.nil, fun x => Iff.rfl⟩, Nat.le_refl _, Ext.app _ _⟩
      | cons x t =>
        obtain rfl : t = [] := List.eq_nil_of_length_eq_zero (by simp only [List.length_cons] at h2; omega)
        refine Bnd2_i (app_full (e := 0) (new := [x].map u) (n := 1) (len := 0) el_22 sz_23 ze_23 by_23 rfl (by omega) (by omega) (src1 (S.app _)) (by omega) get_last rfl rfl (by omega) (by omega)) ?_
        simp (disch := first | omega | assumption | exact isC_last | exact isC_app (by first | assumption | exact isC_last | exact isC_app (by first | assumption | exact isC_last)) | (simp [oneC]; done) | fail) only [evs0, evs1, evs2, evs3, evs4, evs5, evs6, evs7, evs8, if_true, if_false, ↓reduceIte, Nat.reduceEqDiff, Nat.reduceAdd, Nat.reduceMul, Nat.reduceSub, Nat.reduceLeDiff, Int.reduceLT, Int.reduceLE, Int.reduceEq, Bool.false_eq_true, Option.bind_some, Option.map_some, List.set_cons_zero, List.set_cons_succ, List.toList_toArray, List.size_toArray, List.length_cons, List.length_nil, List.getElem?_toArray, List.getElem?_cons_zero, List.getElem?_cons_succ, List.drop_zero, List.take_succ_cons, List.take_zero]
        rw [← hHP]
        refine ⟨[x], one_sl ?_, St.self (by simp [Up]), Nat.le_refl _, fun j ob e => ?_⟩
        · rw [List.length_append, List.length_singleton]
          rw [List.getElem?_append_right (by simp)]
          simp
          rfl
        · exact get_app (get_app e)
    · rw [decide_eq_false (by omega), Cnd_false, F46.e2]
      unfold F46.t2
      have hq : ∀ {c : Bool}, aBin Try.prog c .quo 3 (.int .i64 l.length) (.int .i64 2) = some (.int .i64 ((l.length / 2 : Nat) : Int)) := by
        intro c
        rw [bQuo (by decide), show ((l.length : Int)).tdiv 2 = ((l.length / 2 : Nat) : Int) by rw [Int.tdiv_eq_ediv_of_nonneg (by omega)]; omega, IntWalk.i64_in _ (by omega)]
      refine Bnd2_i (len_sl S) ?_
      refine Bnd_i hq ?_
      refine half S (by omega) fun w1 T1 => ?_
      refine (ih (by rw [List.length_take]; omega) T1 (by rw [List.length_take]; omega)).mono ?_
      rintro r1 h1 ⟨s1, R1, hS1, hs1, X1⟩
      refine Bnd2_i (len_sl S) ?_
      refine Bnd_i hq ?_
      refine half2 (S.ext X1) (by omega) fun w2 T2 => ?_
      refine (ih (by rw [List.length_drop]; omega) T2 (by rw [List.length_drop]; omega)).mono ?_
      rintro r2 h2 ⟨s2, R2, hS2, hs2, X2⟩
      rw [List.length_take] at hs1
      rw [List.length_drop] at hs2
      refine (merge_ok (R1.ext X2) R2 (by omega)).mono ?_
      rintro r3 h3 ⟨N3, X3⟩
      simp (disch := first | omega | assumption | exact isC_last | exact isC_app (by first | assumption | exact isC_last | exact isC_app (by first | assumption | exact isC_last)) | (simp [oneC]; done) | fail) only [evs0, evs1, evs2, evs3, evs4, evs5, evs6, evs7, evs8, if_true, if_false, ↓reduceIte, Nat.reduceEqDiff, Nat.reduceAdd, Nat.reduceMul, Nat.reduceSub, Nat.reduceLeDiff, Int.reduceLT, Int.reduceLE, Int.reduceEq, Bool.false_eq_true, Option.bind_some, Option.map_some, List.set_cons_zero, List.set_cons_succ, List.toList_toArray, List.size_toArray, List.length_cons, List.length_nil, List.getElem?_toArray, List.getElem?_cons_zero, List.getElem?_cons_succ, List.drop_zero, List.take_succ_cons, List.take_zero]
      rw [← hHP]
      refine ⟨_, N3.sl, (uni_st hS1 hS2).congr fun x => ?_, ?_, X1.trans (X2.trans X3)⟩
      · rw [← List.mem_append, List.take_append_drop]
      · have := uni_le (a := s1) (b := s2)
        omega
/-- a list's numbers, rising -/
theorem Set_ok {v : Value} {l : List Int} (S : Sl h 1 v (l.map u)) (hl : l.length ≤ 26388279065600) :
    Cn Try.prog n0 (.func 46) [v] h (fun r h' => ∃ s, Sl h' 1 r (s.map u) ∧ St (· ∈ l) s ∧ s.length ≤ l.length ∧ Ext h h') := rSet_ok (l.length + 1) (by omega) S hl
end Go.Proofs.Ytjdcdabbbmhffaa
