/- IdlistAlgebra, out of lists of which each has at most 2^40 numbers. No other condition. -/
import Derived.Test.YtjdcdabbbmhffaaKeep
import Derived.Test.YtjdcdabbbmhffaaReads
import Derived.Test.YtjdcdabbbmhffaaF11
set_option linter.unusedVariables false
set_option linter.unusedSimpArgs false
namespace Go.Proofs.Ytjdcdabbbmhffaa
open Go.Ev Idl
variable {n0 : Nat} {h : H}
def isS (w : Value) : Prop := ∃ ad n c, w = .slice ad n c
theorem Sl_isS {w : Value} {cs : List Value} (S : Sl h 1 w cs) : isS w := by obtain ⟨ad, n, c, e, _⟩ := S; exact ⟨_, _, _, e⟩
theorem bsl1 {w : Value} (i : isS w) : aBuildSlice Try.prog 42 1 [(0, w)] h = some (.slice (some ⟨h.length, 0, none⟩) 1 1, h ++ [.cells true (enc 1 22) [w]]) := by obtain ⟨_, _, _, rfl⟩ := i; exact bsl_42_1_0
theorem bsl2 {w x : Value} (i : isS w) (j : isS x) : aBuildSlice Try.prog 42 2 [(0, w), (1, x)] h = some (.slice (some ⟨h.length, 0, none⟩) 2 2, h ++ [.cells true (enc 1 22) [w, x]]) := by obtain ⟨_, _, _, rfl⟩ := i; obtain ⟨_, _, _, rfl⟩ := j; exact bsl_42_2_0_1
theorem bsl5 {w x : Value} (i : isS w) (j : isS x) : aBuildSlice Try.prog 42 5 [(0, w), (1, x), (2, w), (3, .slice none 0 0), (4, x)] h = some (.slice (some ⟨h.length, 0, none⟩) 5 5, h ++ [.cells true (enc 1 22) [w, x, w, .slice none 0 0, x]]) := by obtain ⟨_, _, _, rfl⟩ := i; obtain ⟨_, _, _, rfl⟩ := j; exact bsl_42_5_0_1_2_3_4
/-- .. of two lists -/
theorem Union2_ok {b : Nat} {w x : Value} {l k : List Int} (hb : h[b]? = some (.cells true (enc 1 22) [w, x])) (S : Sl h 1 w (l.map u)) (T : Sl h 1 x (k.map u)) (hl : l.length ≤ 2 ^ 40) (hk : k.length ≤ 2 ^ 40) :
    Cn Try.prog n0 (.func 29) [.slice (some ⟨b, 0, none⟩) 2 2] h (fun r h' => ∃ s, Ow h' h.length (l.length + k.length) r s ∧ St (fun y => y ∈ l ∨ y ∈ k) s ∧ s.length ≤ l.length + k.length ∧ Ext h h') := by
  refine (Union_ok (vs := [w, x]) (ls := [l, k]) (M := l.length + k.length) (Sl.mk (o := 0) hb (eS_enc' (by omega)) rfl rfl (Nat.le_refl _)) rfl ?_ (by simp) (by omega) (by simp)).mono ?_
  · intro i w' l' h1 h2
    match i with
    | 0 => simp at h1 h2; subst h1; subst h2; exact S
    | 1 => simp at h1 h2; subst h1; subst h2; exact T
    | i + 2 => simp at h1
  · rintro r h' ⟨s, O, hSt, hs, X⟩
    exact ⟨s, O, hSt.congr fun x => by simp, hs, X⟩
/-- .. of five -/
theorem Union5_ok {b : Nat} {w x : Value} {l k : List Int} (hb : h[b]? = some (.cells true (enc 1 22) [w, x, w, .slice none 0 0, x])) (S : Sl h 1 w (l.map u)) (T : Sl h 1 x (k.map u)) (hl : l.length ≤ 2 ^ 40) (hk : k.length ≤ 2 ^ 40) :
    Cn Try.prog n0 (.func 29) [.slice (some ⟨b, 0, none⟩) 5 5] h (fun r h' => ∃ s, Ow h' h.length (2 * (l.length + k.length)) r s ∧ St (fun y => y ∈ l ∨ y ∈ k) s ∧ s.length ≤ 2 * (l.length + k.length) ∧ Ext h h') := by
  refine (Union_ok (vs := [w, x, w, .slice none 0 0, x]) (ls := [l, k, l, [], k]) (M := 2 * (l.length + k.length)) (Sl.mk (o := 0) hb (eS_enc' (by omega)) rfl rfl (Nat.le_refl _)) rfl ?_ (by simp; omega) (by omega) (by simp)).mono ?_
  · intro i w' l' h1 h2
    match i with
    | 0 => simp at h1 h2; subst h1; subst h2; exact S
    | 1 => simp at h1 h2; subst h1; subst h2; exact T
    | 2 => simp at h1 h2; subst h1; subst h2; exact S
    | 3 => simp at h1 h2; subst h1; subst h2; exact Sl.nil
    | 4 => simp at h1 h2; subst h1; subst h2; exact T
    | i + 5 => simp at h1
  · rintro r h' ⟨s, O, hSt, hs, X⟩
    refine ⟨s, O, hSt.congr fun x => ?_, hs, X⟩
    simp only [List.mem_cons, List.not_mem_nil, or_false]
    constructor
    · rintro ⟨m, (rfl | rfl | rfl | rfl | rfl), h2⟩
      · exact .inl h2
      · exact .inr h2
      · exact .inl h2
      · cases h2
      · exact .inr h2
    · rintro (h2 | h2)
      · exact ⟨l, .inl rfl, h2⟩
      · exact ⟨k, .inr (.inl rfl), h2⟩
set_option maxRecDepth 20000 in
theorem IdlistAlgebra_ok {v w : Value} {a b : List Int} {id : Int} (Sa : Sl h 1 v (a.map u)) (Sb : Sl h 1 w (b.map u)) (ha : a.length ≤ 1048576) (hb : b.length ≤ 1048576) : Cn Try.prog n0 (.func 11) [v, w, .int .u64 id] h (fun r _ => r = .bool true) := by
  refine F11.enter ?_
  obtain ⟨HP, hHP⟩ : ∃ HP : Value → H → Prop, (fun r _ => r = .bool true) = HP := ⟨_, rfl⟩
  rw [hHP, F11.e0]
  unfold F11.t0
  have iv := Sl_isS Sa
  have iw := Sl_isS Sb
  refine Bnd2_i (bsl2 iv iw) ?_
  refine (Union2_ok get_last (Sa.app _) (Sb.app _) (by omega) (by omega)).mono ?_
  rintro ru h1 ⟨su, Ou, hSu, hsu, X1⟩
  replace X1 := (Ext.app _ _).trans X1
  refine (Meet_ok (Sa.ext X1) (Sb.ext X1) (by omega) (by omega)).mono ?_
  rintro rm h2 ⟨sm, Nm, hSm, hsm, X2⟩
  refine (Less_ok (Sa.ext (X1.trans X2)) (Sb.ext (X1.trans X2)) (by omega) (by omega)).mono ?_
  rintro rl g ⟨sl, Nl, hSl, hsl, X3⟩
  have Gl := Nl.sl
  have Gm := (Nm.ext X3).sl
  have Gu := (Ou.ext (X2.trans X3)).sl
  replace Sa := Sa.ext (X1.trans (X2.trans X3))
  replace Sb := Sb.ext (X1.trans (X2.trans X3))
  clear Nl Nm Ou X1 X2 X3
  have il := Sl_isS Gl
  have im := Sl_isS Gm
  have oneS : St (· ∈ [id]) [id] := St.self (by simp [Up])
  have eu : decide (id ∈ su) = (decide (id ∈ a) || decide (id ∈ b)) := by rw [← Bool.decide_or]; exact decide_eq_decide.2 (hSu.mem id)
  have em : decide (id ∈ sm) = (decide (id ∈ a) && decide (id ∈ b)) := by rw [← Bool.decide_and]; exact decide_eq_decide.2 (hSm.mem id)
  have el : decide (id ∈ sl) = (decide (id ∈ a) && !decide (id ∈ b)) := by rw [← decide_not, ← Bool.decide_and]; exact decide_eq_decide.2 (hSl.mem id)
  -- the last part
  have p6 : ∀ hh, Ext g hh → F11.p6 n0 [(0, v), (2, .int .u64 id)] [] hh (KFin Try.prog [.tmp 6] HP) := by
    intro hh X
    rw [F11.e6]
    unfold F11.t6
    refine (Put_ok (Sa.ext X) (by omega)).mono ?_
    rintro rp h1 ⟨sp, Op, hSp, hsp, X1⟩
    refine (Drop_ok (Sa.ext (X.trans X1)) (by omega)).mono ?_
    rintro rd g1 ⟨sd, Nd, hSd, hsd, X2⟩
    have Gp := (Op.ext X2).sl
    have Gd := Nd.sl
    replace Sa := Sa.ext (X.trans (X1.trans X2))
    clear Op Nd X1 X2 X
    refine (lRight_ok Gp (by omega)).mono ?_
    rintro _ hx ⟨rfl, ex⟩; subst hx
    rw [rightB_iff.2 hSp.up]
    simp (disch := first | omega | assumption | exact isC_last | exact isC_app (by first | assumption | exact isC_last | exact isC_app (by first | assumption | exact isC_last)) | (simp [oneC]; done) | fail) only [Bool.not_true, evs0, evs1, evs2, evs3, evs4, evs5, evs6, evs7, evs8, if_true, if_false, ↓reduceIte, Nat.reduceEqDiff, Nat.reduceAdd, Nat.reduceMul, Nat.reduceSub, Nat.reduceLeDiff, Int.reduceLT, Int.reduceLE, Int.reduceEq, Bool.false_eq_true, Option.bind_some, Option.map_some, List.set_cons_zero, List.set_cons_succ, List.toList_toArray, List.size_toArray, List.length_cons, List.length_nil, List.getElem?_toArray, List.getElem?_cons_zero, List.getElem?_cons_succ, List.drop_zero, List.take_succ_cons, List.take_zero]
    refine (lRight_ok Gd (by omega)).mono ?_
    rintro _ hx ⟨rfl, ex⟩; subst hx
    rw [rightB_iff.2 hSd.up]
    simp (disch := first | omega | assumption | exact isC_last | exact isC_app (by first | assumption | exact isC_last | exact isC_app (by first | assumption | exact isC_last)) | (simp [oneC]; done) | fail) only [Bool.not_true, evs0, evs1, evs2, evs3, evs4, evs5, evs6, evs7, evs8, if_true, if_false, ↓reduceIte, Nat.reduceEqDiff, Nat.reduceAdd, Nat.reduceMul, Nat.reduceSub, Nat.reduceLeDiff, Int.reduceLT, Int.reduceLE, Int.reduceEq, Bool.false_eq_true, Option.bind_some, Option.map_some, List.set_cons_zero, List.set_cons_succ, List.toList_toArray, List.size_toArray, List.length_cons, List.length_nil, List.getElem?_toArray, List.getElem?_cons_zero, List.getElem?_cons_succ, List.drop_zero, List.take_succ_cons, List.take_zero]
    refine (Has_ok Gp (by omega)).mono ?_
    rintro _ g2 ⟨rfl, X2⟩
    rw [decide_eq_true ((hSp.mem id).2 (.inr rfl))]
    simp (disch := first | omega | assumption | exact isC_last | exact isC_app (by first | assumption | exact isC_last | exact isC_app (by first | assumption | exact isC_last)) | (simp [oneC]; done) | fail) only [Bool.not_true, evs0, evs1, evs2, evs3, evs4, evs5, evs6, evs7, evs8, if_true, if_false, ↓reduceIte, Nat.reduceEqDiff, Nat.reduceAdd, Nat.reduceMul, Nat.reduceSub, Nat.reduceLeDiff, Int.reduceLT, Int.reduceLE, Int.reduceEq, Bool.false_eq_true, Option.bind_some, Option.map_some, List.set_cons_zero, List.set_cons_succ, List.toList_toArray, List.size_toArray, List.length_cons, List.length_nil, List.getElem?_toArray, List.getElem?_cons_zero, List.getElem?_cons_succ, List.drop_zero, List.take_succ_cons, List.take_zero]
    refine (Has_ok (Gd.ext X2) (by omega)).mono ?_
    rintro _ g3 ⟨rfl, X3⟩
    rw [decide_eq_false (fun hm => ((hSd.mem id).1 hm).2 rfl)]
    rw [Gd_false]
    refine Bnd2_i (bsl2 iv ⟨_, _, _, rfl⟩) ?_
    have X4 := X2.trans X3
    refine (Union2_ok get_last (((Sa.ext X4).app _).app _) ((one_sl get_last).app _) (by omega) (by simp)).mono ?_
    rintro rq g4 ⟨sq, Oq, hSq, hsq, X5⟩
    have X6 := X4.trans (((Ext.app _ _).trans (Ext.app _ _)).trans X5)
    refine (same_ok (Gp.ext X6) Oq.sl (by omega)).mono ?_
    rintro _ hx ⟨rfl, ex⟩; subst hx
    rw [decide_eq_true (hSp.eq (hSq.congr fun x => by simp))]
    simp (disch := first | omega | assumption | exact isC_last | exact isC_app (by first | assumption | exact isC_last | exact isC_app (by first | assumption | exact isC_last)) | (simp [oneC]; done) | fail) only [Bool.not_true, evs0, evs1, evs2, evs3, evs4, evs5, evs6, evs7, evs8, if_true, if_false, ↓reduceIte, Nat.reduceEqDiff, Nat.reduceAdd, Nat.reduceMul, Nat.reduceSub, Nat.reduceLeDiff, Int.reduceLT, Int.reduceLE, Int.reduceEq, Bool.false_eq_true, Option.bind_some, Option.map_some, List.set_cons_zero, List.set_cons_succ, List.toList_toArray, List.size_toArray, List.length_cons, List.length_nil, List.getElem?_toArray, List.getElem?_cons_zero, List.getElem?_cons_succ, List.drop_zero, List.take_succ_cons, List.take_zero]
    refine (Less_ok ((Sa.ext X6).app _) (one_sl get_last) (by omega) (by simp)).mono ?_
    rintro rz g5 ⟨sz, Nz, hSz, hsz, X7⟩
    refine (same_ok (Gd.ext (X6.trans ((Ext.app _ _).trans X7))) Nz.sl (by omega)).mono ?_
    rintro _ hx ⟨rfl, ex⟩; subst hx
    rw [decide_eq_true (hSd.eq (hSz.congr fun x => by simp))]
    simp (disch := first | omega | assumption | exact isC_last | exact isC_app (by first | assumption | exact isC_last | exact isC_app (by first | assumption | exact isC_last)) | (simp [oneC]; done) | fail) only [Bool.not_true, evs0, evs1, evs2, evs3, evs4, evs5, evs6, evs7, evs8, if_true, if_false, ↓reduceIte, Nat.reduceEqDiff, Nat.reduceAdd, Nat.reduceMul, Nat.reduceSub, Nat.reduceLeDiff, Int.reduceLT, Int.reduceLE, Int.reduceEq, Bool.false_eq_true, Option.bind_some, Option.map_some, List.set_cons_zero, List.set_cons_succ, List.toList_toArray, List.size_toArray, List.length_cons, List.length_nil, List.getElem?_toArray, List.getElem?_cons_zero, List.getElem?_cons_succ, List.drop_zero, List.take_succ_cons, List.take_zero]
    rw [F11.e8]
    unfold F11.t8
    refine Wakes_ok.mono ?_
    rintro _ hx ⟨rfl, ex⟩; subst hx
    simp (disch := first | omega | assumption | exact isC_last | exact isC_app (by first | assumption | exact isC_last | exact isC_app (by first | assumption | exact isC_last)) | (simp [oneC]; done) | fail) only [evs0, evs1, evs2, evs3, evs4, evs5, evs6, evs7, evs8, if_true, if_false, ↓reduceIte, Nat.reduceEqDiff, Nat.reduceAdd, Nat.reduceMul, Nat.reduceSub, Nat.reduceLeDiff, Int.reduceLT, Int.reduceLE, Int.reduceEq, Bool.false_eq_true, Option.bind_some, Option.map_some, List.set_cons_zero, List.set_cons_succ, List.toList_toArray, List.size_toArray, List.length_cons, List.length_nil, List.getElem?_toArray, List.getElem?_cons_zero, List.getElem?_cons_succ, List.drop_zero, List.take_succ_cons, List.take_zero]
    rw [← hHP]
  have p4 : ∀ hh, Ext g hh → F11.p4 n0 [(0, v), (1, w), (2, .int .u64 id), (8, rm), (9, rl)] [] hh (KFin Try.prog [.tmp 6] HP) := by
    intro hh X
    rw [F11.e4]
    unfold F11.t4
    refine (Less_ok (Sa.ext X) (Gl.ext X) (by omega) (by omega)).mono ?_
    rintro r1 h1 ⟨s1, N1, hS1, hs1, X1⟩
    refine (same_ok N1.sl (Gm.ext (X.trans X1)) (by omega)).mono ?_
    rintro _ hx ⟨rfl, ex⟩; subst hx
    rw [decide_eq_true (hS1.eq (hSm.congr fun x => by
      rw [hSl.mem]
      constructor
      · rintro ⟨h1, h2⟩; exact ⟨h1, fun h3 => h3.2 h2⟩
      · rintro ⟨h1, h2⟩; exact ⟨h1, Classical.byContradiction fun h3 => h2 ⟨h1, h3⟩⟩))]
    simp (disch := first | omega | assumption | exact isC_last | exact isC_app (by first | assumption | exact isC_last | exact isC_app (by first | assumption | exact isC_last)) | (simp [oneC]; done) | fail) only [Bool.not_true, evs0, evs1, evs2, evs3, evs4, evs5, evs6, evs7, evs8, if_true, if_false, ↓reduceIte, Nat.reduceEqDiff, Nat.reduceAdd, Nat.reduceMul, Nat.reduceSub, Nat.reduceLeDiff, Int.reduceLT, Int.reduceLE, Int.reduceEq, Bool.false_eq_true, Option.bind_some, Option.map_some, List.set_cons_zero, List.set_cons_succ, List.toList_toArray, List.size_toArray, List.length_cons, List.length_nil, List.getElem?_toArray, List.getElem?_cons_zero, List.getElem?_cons_succ, List.drop_zero, List.take_succ_cons, List.take_zero]
    refine (Meet_ok (Gl.ext (X.trans X1)) (Sb.ext (X.trans X1)) (by omega) (by omega)).mono ?_
    rintro r2 h2 ⟨s2, N2, hS2, hs2, X2⟩
    obtain rfl : s2 = [] := by
      refine List.eq_nil_iff_forall_not_mem.2 fun x hx => ?_
      have := (hS2.mem x).1 hx
      exact ((hSl.mem x).1 this.1).2 this.2
    refine Bnd2_i (len_sl N2.sl) ?_
    refine Bnd_i bNeq ?_
    rw [show (!decide ((([] : List Int).length : Int) = 0)) = false from rfl, Cnd_false]
    exact p6 _ (X.trans (X1.trans X2))
  have p2 : ∀ hh, Ext g hh → F11.p2 n0 [(0, v), (1, w), (2, .int .u64 id), (7, ru), (8, rm), (9, rl)] [] hh (KFin Try.prog [.tmp 6] HP) := by
    intro hh X
    rw [F11.e2]
    unfold F11.t2
    refine Bnd2_i (bsl2 iw iv) ?_
    refine (Union2_ok get_last ((Sb.ext X).app _) ((Sa.ext X).app _) (by omega) (by omega)).mono ?_
    rintro r1 h1 ⟨s1, O1, hS1, hs1, X1⟩
    replace X := X.trans ((Ext.app _ _).trans X1)
    refine (same_ok (Gu.ext X) O1.sl (by omega)).mono ?_
    rintro _ hx ⟨rfl, ex⟩; subst hx
    rw [decide_eq_true (hSu.eq (hS1.congr fun x => Or.comm))]
    simp (disch := first | omega | assumption | exact isC_last | exact isC_app (by first | assumption | exact isC_last | exact isC_app (by first | assumption | exact isC_last)) | (simp [oneC]; done) | fail) only [Bool.not_true, evs0, evs1, evs2, evs3, evs4, evs5, evs6, evs7, evs8, if_true, if_false, ↓reduceIte, Nat.reduceEqDiff, Nat.reduceAdd, Nat.reduceMul, Nat.reduceSub, Nat.reduceLeDiff, Int.reduceLT, Int.reduceLE, Int.reduceEq, Bool.false_eq_true, Option.bind_some, Option.map_some, List.set_cons_zero, List.set_cons_succ, List.toList_toArray, List.size_toArray, List.length_cons, List.length_nil, List.getElem?_toArray, List.getElem?_cons_zero, List.getElem?_cons_succ, List.drop_zero, List.take_succ_cons, List.take_zero]
    refine Bnd2_i (bsl5 iw iv) ?_
    refine (Union5_ok get_last ((Sb.ext X).app _) ((Sa.ext X).app _) (by omega) (by omega)).mono ?_
    rintro r2 h2 ⟨s2, O2, hS2, hs2, X2⟩
    replace X := X.trans ((Ext.app _ _).trans X2)
    refine (same_ok (Gu.ext X) O2.sl (by omega)).mono ?_
    rintro _ hx ⟨rfl, ex⟩; subst hx
    rw [decide_eq_true (hSu.eq (hS2.congr fun x => Or.comm))]
    simp (disch := first | omega | assumption | exact isC_last | exact isC_app (by first | assumption | exact isC_last | exact isC_app (by first | assumption | exact isC_last)) | (simp [oneC]; done) | fail) only [Bool.not_true, evs0, evs1, evs2, evs3, evs4, evs5, evs6, evs7, evs8, if_true, if_false, ↓reduceIte, Nat.reduceEqDiff, Nat.reduceAdd, Nat.reduceMul, Nat.reduceSub, Nat.reduceLeDiff, Int.reduceLT, Int.reduceLE, Int.reduceEq, Bool.false_eq_true, Option.bind_some, Option.map_some, List.set_cons_zero, List.set_cons_succ, List.toList_toArray, List.size_toArray, List.length_cons, List.length_nil, List.getElem?_toArray, List.getElem?_cons_zero, List.getElem?_cons_succ, List.drop_zero, List.take_succ_cons, List.take_zero]
    refine (Meet_ok (Sb.ext X) (Sa.ext X) (by omega) (by omega)).mono ?_
    rintro r3 h3 ⟨s3, N3, hS3, hs3, X3⟩
    replace X := X.trans X3
    refine (same_ok (Gm.ext X) N3.sl (by omega)).mono ?_
    rintro _ hx ⟨rfl, ex⟩; subst hx
    rw [decide_eq_true (hSm.eq (hS3.congr fun x => And.comm))]
    simp (disch := first | omega | assumption | exact isC_last | exact isC_app (by first | assumption | exact isC_last | exact isC_app (by first | assumption | exact isC_last)) | (simp [oneC]; done) | fail) only [Bool.not_true, evs0, evs1, evs2, evs3, evs4, evs5, evs6, evs7, evs8, if_true, if_false, ↓reduceIte, Nat.reduceEqDiff, Nat.reduceAdd, Nat.reduceMul, Nat.reduceSub, Nat.reduceLeDiff, Int.reduceLT, Int.reduceLE, Int.reduceEq, Bool.false_eq_true, Option.bind_some, Option.map_some, List.set_cons_zero, List.set_cons_succ, List.toList_toArray, List.size_toArray, List.length_cons, List.length_nil, List.getElem?_toArray, List.getElem?_cons_zero, List.getElem?_cons_succ, List.drop_zero, List.take_succ_cons, List.take_zero]
    refine Bnd2_i (bsl2 im il) ?_
    refine (Union2_ok get_last ((Gm.ext X).app _) ((Gl.ext X).app _) (by omega) (by omega)).mono ?_
    rintro r4 h4 ⟨s4, O4, hS4, hs4, X4⟩
    replace X := X.trans ((Ext.app _ _).trans X4)
    refine Bnd2_i (bsl1 iv) ?_
    refine (Union1_ok get_last ((Sa.ext X).app _) (by omega)).mono ?_
    rintro r5 h5 ⟨s5, O5, hS5, hs5, X5⟩
    refine (same_ok (O4.ext ((Ext.app _ _).trans X5)).sl O5.sl (by omega)).mono ?_
    rintro _ hx ⟨rfl, ex⟩; subst hx
    rw [decide_eq_true (hS4.eq (hS5.congr fun x => by
      rw [hSm.mem, hSl.mem]
      constructor
      · intro h1
        by_cases h2 : x ∈ b
        · exact .inl ⟨h1, h2⟩
        · exact .inr ⟨h1, h2⟩
      · rintro (h1 | h1)
        · exact h1.1
        · exact h1.1))]
    simp (disch := first | omega | assumption | exact isC_last | exact isC_app (by first | assumption | exact isC_last | exact isC_app (by first | assumption | exact isC_last)) | (simp [oneC]; done) | fail) only [Bool.not_true, evs0, evs1, evs2, evs3, evs4, evs5, evs6, evs7, evs8, if_true, if_false, ↓reduceIte, Nat.reduceEqDiff, Nat.reduceAdd, Nat.reduceMul, Nat.reduceSub, Nat.reduceLeDiff, Int.reduceLT, Int.reduceLE, Int.reduceEq, Bool.false_eq_true, Option.bind_some, Option.map_some, List.set_cons_zero, List.set_cons_succ, List.toList_toArray, List.size_toArray, List.length_cons, List.length_nil, List.getElem?_toArray, List.getElem?_cons_zero, List.getElem?_cons_succ, List.drop_zero, List.take_succ_cons, List.take_zero]
    exact p4 _ (X.trans ((Ext.app _ _).trans X5))
  obtain ⟨pa, hpa⟩ : ∃ pa, decide (id ∈ a) = pa := ⟨_, rfl⟩
  obtain ⟨pb, hpb⟩ : ∃ pb, decide (id ∈ b) = pb := ⟨_, rfl⟩
  rw [hpa, hpb] at eu em el
  refine (Has_ok Sa (by omega)).mono ?_
  rintro _ h5 ⟨rfl, X5⟩
  rw [hpa]
  refine (Has_ok (Sb.ext X5) (by omega)).mono ?_
  rintro _ h6 ⟨rfl, X6⟩
  rw [hpb]
  have X := X5.trans X6
  refine (lRight_ok (Gu.ext X) (by omega)).mono ?_
  rintro _ hx ⟨rfl, ex⟩; subst hx
  rw [rightB_iff.2 hSu.up]
  simp (disch := first | omega | assumption | exact isC_last | exact isC_app (by first | assumption | exact isC_last | exact isC_app (by first | assumption | exact isC_last)) | (simp [oneC]; done) | fail) only [Bool.not_true, evs0, evs1, evs2, evs3, evs4, evs5, evs6, evs7, evs8, if_true, if_false, ↓reduceIte, Nat.reduceEqDiff, Nat.reduceAdd, Nat.reduceMul, Nat.reduceSub, Nat.reduceLeDiff, Int.reduceLT, Int.reduceLE, Int.reduceEq, Bool.false_eq_true, Option.bind_some, Option.map_some, List.set_cons_zero, List.set_cons_succ, List.toList_toArray, List.size_toArray, List.length_cons, List.length_nil, List.getElem?_toArray, List.getElem?_cons_zero, List.getElem?_cons_succ, List.drop_zero, List.take_succ_cons, List.take_zero]
  refine (lRight_ok (Gm.ext X) (by omega)).mono ?_
  rintro _ hx ⟨rfl, ex⟩; subst hx
  rw [rightB_iff.2 hSm.up]
  simp (disch := first | omega | assumption | exact isC_last | exact isC_app (by first | assumption | exact isC_last | exact isC_app (by first | assumption | exact isC_last)) | (simp [oneC]; done) | fail) only [Bool.not_true, evs0, evs1, evs2, evs3, evs4, evs5, evs6, evs7, evs8, if_true, if_false, ↓reduceIte, Nat.reduceEqDiff, Nat.reduceAdd, Nat.reduceMul, Nat.reduceSub, Nat.reduceLeDiff, Int.reduceLT, Int.reduceLE, Int.reduceEq, Bool.false_eq_true, Option.bind_some, Option.map_some, List.set_cons_zero, List.set_cons_succ, List.toList_toArray, List.size_toArray, List.length_cons, List.length_nil, List.getElem?_toArray, List.getElem?_cons_zero, List.getElem?_cons_succ, List.drop_zero, List.take_succ_cons, List.take_zero]
  refine (lRight_ok (Gl.ext X) (by omega)).mono ?_
  rintro _ hx ⟨rfl, ex⟩; subst hx
  rw [rightB_iff.2 hSl.up]
  simp (disch := first | omega | assumption | exact isC_last | exact isC_app (by first | assumption | exact isC_last | exact isC_app (by first | assumption | exact isC_last)) | (simp [oneC]; done) | fail) only [Bool.not_true, evs0, evs1, evs2, evs3, evs4, evs5, evs6, evs7, evs8, if_true, if_false, ↓reduceIte, Nat.reduceEqDiff, Nat.reduceAdd, Nat.reduceMul, Nat.reduceSub, Nat.reduceLeDiff, Int.reduceLT, Int.reduceLE, Int.reduceEq, Bool.false_eq_true, Option.bind_some, Option.map_some, List.set_cons_zero, List.set_cons_succ, List.toList_toArray, List.size_toArray, List.length_cons, List.length_nil, List.getElem?_toArray, List.getElem?_cons_zero, List.getElem?_cons_succ, List.drop_zero, List.take_succ_cons, List.take_zero]
  refine (Has_ok (Gu.ext X) (by omega)).mono ?_
  rintro _ h7 ⟨rfl, X7⟩
  replace X := X.trans X7
  rw [eu]
  have hasM : Cn Try.prog n0 (.func 15) [rm, .int .u64 id] h7 (fun r h' => r = .bool (pa && pb) ∧ Ext g h') := by
    refine (Has_ok (Gm.ext X) (by omega)).mono ?_
    rintro _ h8 ⟨rfl, X8⟩
    exact ⟨by rw [em], X.trans X8⟩
  have hasL : ∀ h8, Ext g h8 → Cn Try.prog n0 (.func 15) [rl, .int .u64 id] h8 (fun r h' => r = .bool (pa && !pb) ∧ Ext g h') := by
    intro h8 X8
    refine (Has_ok (Gl.ext X8) (by omega)).mono ?_
    rintro _ h9 ⟨rfl, X9⟩
    exact ⟨by rw [el], X8.trans X9⟩
  clear hpa hpb eu em el
  have nn : ∀ {c : Bool} {x : Bool}, aBin Try.prog c .neq 4 (.bool x) (.bool x) = some (.bool false) := by
    intro c x; simp [aBin, aEqOp, aEq, Try.underlying4]
  cases pa <;> cases pb <;>
  · simp only [Bool.true_or, Bool.false_or, Bool.or_self, Bool.or_true, Bool.or_false, Gd_true, Gd_false]
    refine Bnd_i nn ?_
    rw [Gd_false]
    refine hasM.mono ?_
    rintro _ h8 ⟨rfl, X8⟩
    simp only [Bool.and_self, Bool.and_true, Bool.and_false, Bool.true_and, Bool.false_and]
    refine Bnd_i nn ?_
    rw [Gd_false]
    refine (hasL h8 X8).mono ?_
    rintro _ h9 ⟨rfl, X9⟩
    simp only [uNot, Bnd_some, Bool.and_self, Bool.and_true, Bool.and_false, Bool.true_and, Bool.false_and, Bool.not_true, Bool.not_false]
    refine Bnd_i nn ?_
    rw [Cnd_false]
    exact p2 _ X9
end Go.Proofs.Ytjdcdabbbmhffaa
