/- The reference-free Union, and IdlistSearched. No condition but the size that every statement has. -/
import Derived.Test.YtjdcdabbbmhffaaBoth
set_option linter.unusedVariables false
set_option linter.unusedSimpArgs false
namespace Go.Proofs.Ytjdcdabbbmhffaa
open Go.Ev Idl
variable {n0 : Nat} {h : H}
theorem sum_take {ls : List (List Int)} {i : Nat} : ((ls.take i).map List.length).sum ≤ (ls.map List.length).sum := by
  conv => rhs; rw [← List.take_append_drop i ls, List.map_append, List.sum_append]
  omega
theorem sum_next {ls : List (List Int)} {i : Nat} {l : List Int} (e : ls[i]? = some l) : ((ls.take (i + 1)).map List.length).sum = ((ls.take i).map List.length).sum + l.length := by
  rw [List.take_add_one, e]; simp
set_option maxRecDepth 20000 in
theorem Union_ok {v : Value} {vs : List Value} {ls : List (List Int)} {M : Nat} (V : Sl h 1 v vs) (hn : vs.length = ls.length) (hS : ∀ (i : Nat) (w : Value) (l : List Int), vs[i]? = some w → ls[i]? = some l → Sl h 1 w (l.map u)) (hM : (ls.map List.length).sum ≤ M) (hM2 : M ≤ 26388279065600) (hn2 : ls.length < 2 ^ 60) :
    Cn Try.prog n0 (.func 29) [v] h (fun r h' => ∃ s, Ow h' h.length M r s ∧ St (fun x => ∃ l ∈ ls, x ∈ l) s ∧ s.length ≤ M ∧ Ext h h') := by
  refine F29.enter ?_
  obtain ⟨HP, hHP⟩ : ∃ HP : Value → H → Prop, (fun r h' => ∃ s, Ow h' h.length M r s ∧ St (fun x => ∃ l ∈ ls, x ∈ l) s ∧ s.length ≤ M ∧ Ext h h') = HP := ⟨_, rfl⟩
  rw [hHP, F29.e0]
  unfold F29.t0
  have hv : ∃ ad c, v = .slice ad ls.length c := by
    obtain ⟨ad, n, c, rfl, _, h3, _⟩ := V
    exact ⟨ad, c, by rw [show n = ls.length by omega]⟩
  obtain ⟨ad, c, rfl⟩ := hv
  refine Bnd2_i len_42 ?_
  refine Lp_ind (fun m fr hh => ∃ (i : Nat) (s : List Int) (r : Value), fr = [(3, r), (6, .slice ad ls.length c), (7, .int .i64 ls.length), (8, .int .i64 i)] ∧ i ≤ ls.length ∧ Ow hh h.length M r s ∧ St (fun x => ∃ l ∈ ls.take i, x ∈ l) s ∧ s.length ≤ ((ls.take i).map List.length).sum ∧ Ext h hh ∧ m = ls.length - i) (F29.m1 n0) ls.length
    ⟨0, [], .slice none 0 0, by simp (disch := first | omega | assumption | exact isC_last | exact isC_app (by first | assumption | exact isC_last | exact isC_app (by first | assumption | exact isC_last)) | (simp [oneC]; done) | fail) only [evs0, evs1, evs2, evs3, evs4, evs5, evs6, evs7, evs8, if_true, if_false, ↓reduceIte, Nat.reduceEqDiff, Nat.reduceAdd, Nat.reduceMul, Nat.reduceSub, Nat.reduceLeDiff, Int.reduceLT, Int.reduceLE, Int.reduceEq, Bool.false_eq_true, Option.bind_some, Option.map_some, List.set_cons_zero, List.set_cons_succ, List.toList_toArray, List.size_toArray, List.length_cons, List.length_nil, List.getElem?_toArray, List.getElem?_cons_zero, List.getElem?_cons_succ, List.drop_zero, List.take_succ_cons, List.take_zero]; rfl, by omega, .inl ⟨rfl, rfl⟩, ⟨List.Pairwise.nil, by simp⟩, by simp, Ext.refl _, rfl⟩ ?_
  rintro m fr hh ⟨i, s, r, rfl, hi, O, hSt, hs, X, rfl⟩
  rw [F29.e1]
  simp (disch := first | omega | assumption | exact isC_last | exact isC_app (by first | assumption | exact isC_last | exact isC_app (by first | assumption | exact isC_last)) | (simp [oneC]; done) | fail) only [F29.t1, evs0, evs1, evs2, evs3, evs4, evs5, evs6, evs7, evs8, if_true, if_false, ↓reduceIte, Nat.reduceEqDiff, Nat.reduceAdd, Nat.reduceMul, Nat.reduceSub, Nat.reduceLeDiff, Int.reduceLT, Int.reduceLE, Int.reduceEq, Bool.false_eq_true, Option.bind_some, Option.map_some, List.set_cons_zero, List.set_cons_succ, List.toList_toArray, List.size_toArray, List.length_cons, List.length_nil, List.getElem?_toArray, List.getElem?_cons_zero, List.getElem?_cons_succ, List.drop_zero, List.take_succ_cons, List.take_zero]
  by_cases h5 : i < ls.length
  · rw [if_pos (by omega), F29.e2]
    unfold F29.t2
    obtain ⟨w, hw⟩ : ∃ w, vs[i]? = some w := ⟨_, List.getElem?_eq_getElem (by omega)⟩
    obtain ⟨l, hl⟩ : ∃ l, ls[i]? = some l := ⟨_, List.getElem?_eq_getElem h5⟩
    refine Bnd_idx1 (V.ext X) un_42 sz_22 ag_22 (by omega) (by rw [Int.toNat_natCast]; exact hw) fun p => ?_
    have hsn := sum_next hl
    have hst : ((ls.take (i + 1)).map List.length).sum ≤ (ls.map List.length).sum := sum_take
    refine (set_ok ((hS i w l hw hl).ext X) (by omega)).mono ?_
    rintro r1 h1 ⟨s1, S1, hSt1, hs1, X1⟩
    refine (both_ok (O.ext X1).sl S1 (by omega)).mono ?_
    rintro r2 h2 ⟨O2, X2⟩
    rw [F29.e3]
    simp (disch := first | omega | assumption | exact isC_last | exact isC_app (by first | assumption | exact isC_last | exact isC_app (by first | assumption | exact isC_last)) | (simp [oneC]; done) | fail) only [F29.t3, evs0, evs1, evs2, evs3, evs4, evs5, evs6, evs7, evs8, if_true, if_false, ↓reduceIte, Nat.reduceEqDiff, Nat.reduceAdd, Nat.reduceMul, Nat.reduceSub, Nat.reduceLeDiff, Int.reduceLT, Int.reduceLE, Int.reduceEq, Bool.false_eq_true, Option.bind_some, Option.map_some, List.set_cons_zero, List.set_cons_succ, List.toList_toArray, List.size_toArray, List.length_cons, List.length_nil, List.getElem?_toArray, List.getElem?_cons_zero, List.getElem?_cons_succ, List.drop_zero, List.take_succ_cons, List.take_zero]
    rw [show IntKind.i64.wrap ((i : Int) + 1) = ((i + 1 : Nat) : Int) by rw [IntWalk.i64_in _ (by omega)]; omega]
    have l0 := X.len'
    have l1 := X1.len'
    refine ⟨by trivial, ls.length - (i + 1), by omega, i + 1, _, _, rfl, by omega, (O2.low (by omega)).more (by omega), (uni_st hSt hSt1).congr fun x => ?_, ?_, X.trans (X1.trans X2), rfl⟩
    · rw [List.take_add_one, hl]
      simp only [Option.toList_some, List.mem_append, List.mem_singleton]
      constructor
      · rintro (⟨l', h1, h2⟩ | h1)
        · exact ⟨l', .inl h1, h2⟩
        · exact ⟨l, .inr rfl, h1⟩
      · rintro ⟨l', h1 | rfl, h2⟩
        · exact .inl ⟨l', h1, h2⟩
        · exact .inr h2
    · have := uni_le (a := s) (b := s1)
      omega
  · rw [if_neg (by omega)]
    obtain rfl : i = ls.length := by omega
    rw [List.take_length] at hSt hs
    rw [F29.e4]
    simp (disch := first | omega | assumption | exact isC_last | exact isC_app (by first | assumption | exact isC_last | exact isC_app (by first | assumption | exact isC_last)) | (simp [oneC]; done) | fail) only [F29.t4, evs0, evs1, evs2, evs3, evs4, evs5, evs6, evs7, evs8, if_true, if_false, ↓reduceIte, Nat.reduceEqDiff, Nat.reduceAdd, Nat.reduceMul, Nat.reduceSub, Nat.reduceLeDiff, Int.reduceLT, Int.reduceLE, Int.reduceEq, Bool.false_eq_true, Option.bind_some, Option.map_some, List.set_cons_zero, List.set_cons_succ, List.toList_toArray, List.size_toArray, List.length_cons, List.length_nil, List.getElem?_toArray, List.getElem?_cons_zero, List.getElem?_cons_succ, List.drop_zero, List.take_succ_cons, List.take_zero]
    rw [← hHP]
    exact ⟨s, O, hSt, by omega, X⟩
/-- .. of one list -/
theorem Union1_ok {b : Nat} {w : Value} {l : List Int} (hb : h[b]? = some (.cells true (enc 1 22) [w])) (S : Sl h 1 w (l.map u)) (hM2 : l.length ≤ 26388279065600) :
    Cn Try.prog n0 (.func 29) [.slice (some ⟨b, 0, none⟩) 1 1] h (fun r h' => ∃ s, Ow h' h.length l.length r s ∧ St (· ∈ l) s ∧ s.length ≤ l.length ∧ Ext h h') := by
  refine (Union_ok (vs := [w]) (ls := [l]) (M := l.length) (Sl.mk (o := 0) hb (eS_enc' (by omega)) rfl rfl (Nat.le_refl _)) rfl ?_ (by simp) hM2 (by simp)).mono ?_
  · intro i w' l' h1 h2
    cases i with
    | zero => simp at h1 h2; subst h1; subst h2; exact S
    | succ i => simp at h1
  · rintro r h' ⟨s, O, hSt, hs, X⟩
    exact ⟨s, O, hSt.congr fun x => by simp, hs, X⟩
end Go.Proofs.Ytjdcdabbbmhffaa
