/- The reference's From; numbers gone through, at most so far. No condition. -/
import Derived.Test.YtjdcdabbbmhffaaRSet
set_option linter.unusedVariables false
set_option linter.unusedSimpArgs false
namespace Go.Proofs.Ytjdcdabbbmhffaa
open Go.Ev Idl
variable {n0 : Nat} {h : H}
theorem behind {hh : H} {v : Value} {l : List Int} {i : Nat} {K : Value → Prop} (S : Sl h 1 v (l.map u)) (hi : i ≤ l.length) (hl : l.length < 2 ^ 60) (k : ∀ w, Sl h 1 w ((l.drop i).map u) → K w) :
    Bnd (aSlice Try.prog 22 v (some (.int .i64 i)) none none h) K :=
  Bnd_sub1 (T := 22) (E := 23) (lo := some (i : Int)) (hi := none) (kk := .i64) (kk' := .i64) S un_22 sz_23 (by simp) (by simp; omega) (by simp) fun w Sw => by
    refine k w ?_
    simp only [Option.getD_some, Option.getD_none, List.length_map, Int.toNat_natCast] at Sw
    rw [List.map_drop]
    rw [List.take_of_length_le (by simp)] at Sw
    exact Sw
set_option maxRecDepth 20000 in
theorem rFrom_ok {v : Value} {l : List Int} {id : Int} (S : Sl h 1 v (l.map u)) (hl : l.length ≤ 26388279065600) :
    Cn Try.prog n0 (.func 20) [v, .int .u64 id] h (fun r h' => ∃ s i, Sl h' 1 r ((s.drop i).map u) ∧ St (· ∈ l) s ∧ Fst s 0 id i ∧ s.length ≤ l.length ∧ Ext h h') := by
  refine F20.enter ?_
  obtain ⟨HP, hHP⟩ : ∃ HP : Value → H → Prop, (fun r h' => ∃ s i, Sl h' 1 r ((s.drop i).map u) ∧ St (· ∈ l) s ∧ Fst s 0 id i ∧ s.length ≤ l.length ∧ Ext h h') = HP := ⟨_, rfl⟩
  rw [hHP, F20.e0]
  unfold F20.t0
  refine (Set_ok S hl).mono ?_
  rintro x h1 ⟨s, S1, hSt, hs, X1⟩
  refine Lp_ind (fun m fr hh => hh = h1 ∧ ∃ i : Nat, fr = [(1, .int .u64 id), (5, x), (6, .int .i64 i)] ∧ i ≤ s.length ∧ (∀ j, j < i → s.getD j 0 < id) ∧ m = s.length - i) (F20.m1 n0) s.length ⟨rfl, 0, by simp (disch := first | omega | assumption | exact isC_last | exact isC_app (by first | assumption | exact isC_last | exact isC_app (by first | assumption | exact isC_last)) | (simp [oneC]; done) | fail) only [evs0, evs1, evs2, evs3, evs4, evs5, evs6, evs7, evs8, if_true, if_false, ↓reduceIte, Nat.reduceEqDiff, Nat.reduceAdd, Nat.reduceMul, Nat.reduceSub, Nat.reduceLeDiff, Int.reduceLT, Int.reduceLE, Int.reduceEq, Bool.false_eq_true, Option.bind_some, Option.map_some, List.set_cons_zero, List.set_cons_succ, List.toList_toArray, List.size_toArray, List.length_cons, List.length_nil, List.getElem?_toArray, List.getElem?_cons_zero, List.getElem?_cons_succ, List.drop_zero, List.take_succ_cons, List.take_zero]; rfl, by omega, fun j hj => by omega, rfl⟩ ?_
  rintro m fr hh ⟨eh, i, rfl, hi, hal, rfl⟩
  subst hh
  have fin : (i < s.length → id ≤ s.getD i 0) → F20.p3 n0 [(5, x), (6, .int .i64 i)] [] h1 (KFin Try.prog [.tmp 4] HP) := by
    intro hge
    rw [F20.e3]
    unfold F20.t3
    refine behind (hh := h1) S1 hi (by omega) fun w Sw => ?_
    simp (disch := first | omega | assumption | exact isC_last | exact isC_app (by first | assumption | exact isC_last | exact isC_app (by first | assumption | exact isC_last)) | (simp [oneC]; done) | fail) only [evs0, evs1, evs2, evs3, evs4, evs5, evs6, evs7, evs8, if_true, if_false, ↓reduceIte, Nat.reduceEqDiff, Nat.reduceAdd, Nat.reduceMul, Nat.reduceSub, Nat.reduceLeDiff, Int.reduceLT, Int.reduceLE, Int.reduceEq, Bool.false_eq_true, Option.bind_some, Option.map_some, List.set_cons_zero, List.set_cons_succ, List.toList_toArray, List.size_toArray, List.length_cons, List.length_nil, List.getElem?_toArray, List.getElem?_cons_zero, List.getElem?_cons_succ, List.drop_zero, List.take_succ_cons, List.take_zero]
    rw [← hHP]
    exact ⟨s, i, Sw, hSt, ⟨by omega, hi, fun j _ hj => hal j hj, hge⟩, hs, X1⟩
  rw [F20.e1]
  unfold F20.t1
  refine Bnd2_i (len_sl S1) ?_
  refine Bnd_i bLss ?_
  by_cases h5 : i < s.length
  · rw [decide_eq_true (by omega), Gd_true]
    refine rdU S1 (by omega) (by omega) fun p => ?_
    rw [Int.toNat_natCast]
    simp (disch := first | omega | assumption | exact isC_last | exact isC_app (by first | assumption | exact isC_last | exact isC_app (by first | assumption | exact isC_last)) | (simp [oneC]; done) | fail) only [evs0, evs1, evs2, evs3, evs4, evs5, evs6, evs7, evs8, if_true, if_false, ↓reduceIte, Nat.reduceEqDiff, Nat.reduceAdd, Nat.reduceMul, Nat.reduceSub, Nat.reduceLeDiff, Int.reduceLT, Int.reduceLE, Int.reduceEq, Bool.false_eq_true, Option.bind_some, Option.map_some, List.set_cons_zero, List.set_cons_succ, List.toList_toArray, List.size_toArray, List.length_cons, List.length_nil, List.getElem?_toArray, List.getElem?_cons_zero, List.getElem?_cons_succ, List.drop_zero, List.take_succ_cons, List.take_zero]
    by_cases h6 : s.getD i 0 < id
    · rw [if_pos h6, F20.e2]
      simp (disch := first | omega | assumption | exact isC_last | exact isC_app (by first | assumption | exact isC_last | exact isC_app (by first | assumption | exact isC_last)) | (simp [oneC]; done) | fail) only [F20.t2, evs0, evs1, evs2, evs3, evs4, evs5, evs6, evs7, evs8, if_true, if_false, ↓reduceIte, Nat.reduceEqDiff, Nat.reduceAdd, Nat.reduceMul, Nat.reduceSub, Nat.reduceLeDiff, Int.reduceLT, Int.reduceLE, Int.reduceEq, Bool.false_eq_true, Option.bind_some, Option.map_some, List.set_cons_zero, List.set_cons_succ, List.toList_toArray, List.size_toArray, List.length_cons, List.length_nil, List.getElem?_toArray, List.getElem?_cons_zero, List.getElem?_cons_succ, List.drop_zero, List.take_succ_cons, List.take_zero]
      rw [show IntKind.i64.wrap ((i : Int) + 1) = ((i + 1 : Nat) : Int) by rw [IntWalk.i64_in _ (by omega)]; omega]
      refine ⟨by trivial, s.length - (i + 1), by omega, by trivial, i + 1, rfl, by omega, fun j hj => ?_, rfl⟩
      by_cases e : j = i
      · subst e; exact h6
      · exact hal j (by omega)
    · rw [if_neg h6]
      exact fin (fun _ => by omega)
  · rw [decide_eq_false (by omega), Gd_false]
    simp (disch := first | omega | assumption | exact isC_last | exact isC_app (by first | assumption | exact isC_last | exact isC_app (by first | assumption | exact isC_last)) | (simp [oneC]; done) | fail) only [evs0, evs1, evs2, evs3, evs4, evs5, evs6, evs7, evs8, if_true, if_false, ↓reduceIte, Nat.reduceEqDiff, Nat.reduceAdd, Nat.reduceMul, Nat.reduceSub, Nat.reduceLeDiff, Int.reduceLT, Int.reduceLE, Int.reduceEq, Bool.false_eq_true, Option.bind_some, Option.map_some, List.set_cons_zero, List.set_cons_succ, List.toList_toArray, List.size_toArray, List.length_cons, List.length_nil, List.getElem?_toArray, List.getElem?_cons_zero, List.getElem?_cons_succ, List.drop_zero, List.take_succ_cons, List.take_zero]
    exact fin (fun x => absurd x h5)
set_option maxRecDepth 20000 in
theorem through_ok {B o q a : Nat} {r vs : Value} {s : List Int} {most : Nat} (I : It B h r o q vs s a) (ha : a ≤ s.length) (hs : s.length < 26388279065600) (hm : most < 2 ^ 62) :
    Cn Try.prog n0 (.func 21) [r, .int .i64 most] h (fun r' h' => Sl h' 1 r' (((s.drop a).take most).map u) ∧ Ext h h') := by
  refine F21.enter ?_
  obtain ⟨HP, hHP⟩ : ∃ HP : Value → H → Prop, (fun r' h' => Sl h' 1 r' (((s.drop a).take most).map u) ∧ Ext h h') = HP := ⟨_, rfl⟩
  rw [hHP, F21.e0]
  simp (disch := first | omega | assumption | exact isC_last | exact isC_app (by first | assumption | exact isC_last | exact isC_app (by first | assumption | exact isC_last)) | (simp [oneC]; done) | fail) only [F21.t0, evs0, evs1, evs2, evs3, evs4, evs5, evs6, evs7, evs8, if_true, if_false, ↓reduceIte, Nat.reduceEqDiff, Nat.reduceAdd, Nat.reduceMul, Nat.reduceSub, Nat.reduceLeDiff, Int.reduceLT, Int.reduceLE, Int.reduceEq, Bool.false_eq_true, Option.bind_some, Option.map_some, List.set_cons_zero, List.set_cons_succ, List.toList_toArray, List.size_toArray, List.length_cons, List.length_nil, List.getElem?_toArray, List.getElem?_cons_zero, List.getElem?_cons_succ, List.drop_zero, List.take_succ_cons, List.take_zero]
  obtain ⟨g, hg⟩ : ∃ g : H, h ++ [Ob.cells true (enc 0 3) (clL (Value.int IntKind.i64 most))] ++ [Ob.cells true (enc 0 22) [Value.slice none 0 0]] = g := ⟨_, rfl⟩
  have X0 : Ext h g := by rw [← hg, List.append_assoc]; exact Ext.app _ _
  have g1 : g[h.length]? = some (.cells true (enc 0 3) [.int .i64 most]) := by rw [← hg]; exact get_app get_last
  have g2 : g[h.length + 1]? = some (.cells true (enc 0 22) [.slice none 0 0]) := by rw [← hg, show h.length + 1 = (h ++ [Ob.cells true (enc 0 3) (clL (Value.int IntKind.i64 most))]).length by simp]; exact get_last
  have gl : g.length = h.length + 2 := by rw [← hg]; simp
  simp only [hg, List.length_append, List.length_cons, List.length_nil, Nat.zero_add]
  rw [I.form]
  unfold wRange
  refine ⟨by kernel_rfl, ?_⟩
  refine Bnd_i (a := (g.length, [g.length], g ++ [.dfr])) rfl ?_
  simp only
  obtain ⟨fr, hfr⟩ : ∃ fr : Fr, [(3, .pointer (some ⟨h.length, 0, none⟩)), (4, .slice none 0 0), (5, .pointer (some ⟨h.length + 1, 0, none⟩)), (7, .func (.func 45) #[] #[.pointer (some ⟨o, 0, none⟩), .pointer (some ⟨q, 0, none⟩)])] = fr := ⟨_, rfl⟩
  show Cn Try.prog n0 (Fn.func 45) [.func (.yield (g ++ [Ob.dfr]).length) #[] #[], .pointer (some ⟨o, 0, none⟩), .pointer (some ⟨q, 0, none⟩)] (g ++ [Ob.dfr] ++ [.loop _ 18 #[8] F21.rAs0 F21.rBd0 .ready none g.length]) _
  rw [hfr]
  obtain ⟨d, hd⟩ : ∃ d, g.length = d := ⟨_, rfl⟩
  obtain ⟨L, hL⟩ : ∃ L, (g ++ [Ob.dfr]).length = L := ⟨_, rfl⟩
  have hLd : L = d + 1 := by rw [← hL, ← hd]; simp
  have X4 : Ext g (g ++ [Ob.dfr] ++ [.loop fr 18 #[8] F21.rAs0 F21.rBd0 .ready none d]) := fun j ob e => get_app (get_app e)
  have q3 : (g ++ [Ob.dfr] ++ [.loop fr 18 #[8] F21.rAs0 F21.rBd0 .ready none d])[L]? = some (Ob.loop fr 18 #[8] F21.rAs0 F21.rBd0 .ready none d) := by rw [← hL]; exact get_last
  have q4 : (g ++ [Ob.dfr] ++ [.loop fr 18 #[8] F21.rAs0 F21.rBd0 .ready none d])[d]? = some .dfr := by rw [← hd]; exact get_app get_last
  have ql : (g ++ [Ob.dfr] ++ [Ob.loop fr 18 #[8] F21.rAs0 F21.rBd0 .ready none d]).length = L + 1 := by rw [← hL]; simp
  rw [hL, hd]
  generalize g ++ [Ob.dfr] ++ [.loop fr 18 #[8] F21.rAs0 F21.rBd0 .ready none d] = h4 at X4 q3 q4 ql ⊢
  have q1 := X4 _ _ g1
  have q2 := X4 _ _ g2
  have I4 := I.ext (X0.trans X4)
  have tk : ∀ (g : H) , g[d]? = some .dfr → takeD [d] g = some (g.set d .dead) := by intro g e; unfold takeD; rw [e]; rfl
  refine (Go_ok (Q := fun (hh : H) => ∃ out, (∀ (j : Nat) (ob : Ob), h[j]? = some ob → hh[j]? = some ob) ∧ hh[d]? = some .dfr ∧ hh[h.length + 1]? = some (.cells true (enc 0 22) [out]) ∧ Nw1 hh (L + 1) out ((s.drop a).take most) ∧
      (hh[L]? = some (Ob.loop fr 18 #[8] F21.rAs0 F21.rBd0 .ready none d) ∨ hh[L]? = some (Ob.loop fr 18 #[8] F21.rAs0 F21.rBd0 .done (some (.exit 0)) d)))
    (J := fun j (hh : H) => ∃ out, (∀ (j : Nat) (ob : Ob), h[j]? = some ob → hh[j]? = some ob) ∧ hh[d]? = some .dfr ∧ hh[h.length]? = some (.cells true (enc 0 3) [.int .i64 most]) ∧ hh[h.length + 1]? = some (.cells true (enc 0 22) [out]) ∧ Nw1 hh (L + 1) out ((s.drop a).take (j - a)) ∧
      hh[L]? = some (Ob.loop fr 18 #[8] F21.rAs0 F21.rBd0 .ready none d) ∧ L + 1 ≤ hh.length ∧ a ≤ j ∧ j - a ≤ most) (L := L) I4 ha (by omega)
    ⟨.slice none 0 0, fun j ob e => X4 _ _ (X0 _ _ e), q4, q1, q2, by rw [Nat.sub_self, List.take_zero]; exact ⟨.inl ⟨rfl, rfl, rfl⟩, fun j e => absurd e isBlk_nil⟩, q3, by omega, Nat.le_refl _, by omega⟩ ?_ ?_ ?_).mono ?_
  · rintro j hh ⟨out, Xh, _⟩ b ob hb e
    obtain ⟨ob2, e2⟩ := I.bk b hb
    rw [(X0.trans X4) _ _ e2] at e
    rw [← e]
    exact Xh _ _ e2
  · rintro j hh haj hjs ⟨out, Xh, hdf, c1, c2, N, lp, hlen, _, hjm⟩
    have hlo : loopOf hh L = some (fr, 18, #[8], F21.aAs0.erase, F21.aBd0.erase, .ready, none, d) := by
      unfold loopOf
      rw [lp, show F21.aAs0.erase = F21.rAs0 from (ann_erase _ _).1, show F21.aBd0.erase = F21.rBd0 from (ann_erase _ _).1]
    obtain ⟨HQ, hHQ⟩ : ∃ HQ : Value → H → Prop, HQ = (fun (v : Value) (h' : H) => (v = .bool true ∧ ∃ out, (∀ (j : Nat) (ob : Ob), h[j]? = some ob → h'[j]? = some ob) ∧ h'[d]? = some .dfr ∧ h'[h.length]? = some (.cells true (enc 0 3) [.int .i64 most]) ∧ h'[h.length + 1]? = some (.cells true (enc 0 22) [out]) ∧ Nw1 h' (L + 1) out ((s.drop a).take (j + 1 - a)) ∧
      h'[L]? = some (Ob.loop fr 18 #[8] F21.rAs0 F21.rBd0 .ready none d) ∧ L + 1 ≤ h'.length ∧ a ≤ j + 1 ∧ j + 1 - a ≤ most) ∨ (v = .bool false ∧ ∃ out, (∀ (j : Nat) (ob : Ob), h[j]? = some ob → h'[j]? = some ob) ∧ h'[d]? = some .dfr ∧ h'[h.length + 1]? = some (.cells true (enc 0 22) [out]) ∧ Nw1 h' (L + 1) out ((s.drop a).take most) ∧
      (h'[L]? = some (Ob.loop fr 18 #[8] F21.rAs0 F21.rBd0 .ready none d) ∨ h'[L]? = some (Ob.loop fr 18 #[8] F21.rAs0 F21.rBd0 .done (some (.exit 0)) d)))) := ⟨_, rfl⟩
    rw [← hHQ]
    refine Cn_yield follows hlo F21.k2 F21.k3 (L := [3, 4, 5, 6]) (fr1 := [(3, .pointer (some ⟨h.length, 0, none⟩)), (4, .slice none 0 0), (5, .pointer (some ⟨h.length + 1, 0, none⟩)), (7, .func (.func 45) #[] #[.pointer (some ⟨o, 0, none⟩), .pointer (some ⟨q, 0, none⟩)]), (8, .int .u64 (s.getD j 0))]) (by rw [← hfr]; rfl) ?_
    have e2 := F21.d2 (n0 := n0) L
    unfold F21.c2 at e2
    rw [← e2, F21.e2]
    simp (disch := first | omega | assumption | exact isC_last | exact isC_app (by first | assumption | exact isC_last | exact isC_app (by first | assumption | exact isC_last)) | (simp [oneC]; done) | fail) only [F21.t2, kas_n, evs0, evs1, evs2, evs3, evs4, evs5, evs6, evs7, evs8, if_true, if_false, ↓reduceIte, Nat.reduceEqDiff, Nat.reduceAdd, Nat.reduceMul, Nat.reduceSub, Nat.reduceLeDiff, Int.reduceLT, Int.reduceLE, Int.reduceEq, Bool.false_eq_true, Option.bind_some, Option.map_some, List.set_cons_zero, List.set_cons_succ, List.toList_toArray, List.size_toArray, List.length_cons, List.length_nil, List.getElem?_toArray, List.getElem?_cons_zero, List.getElem?_cons_succ, List.drop_zero, List.take_succ_cons, List.take_zero]
    refine Bnd_i (a := hh.set L (Ob.loop fr 18 #[8] F21.rAs0 F21.rBd0 .busy none d)) (by unfold begK loopOf; rw [lp]) ?_
    have P5 : ∀ j ob, j ≠ L → hh[j]? = some ob → (hh.set L (Ob.loop fr 18 #[8] F21.rAs0 F21.rBd0 .busy none d))[j]? = some ob := fun j ob h1 h2 => set_ne h2 h1
    have L5 := set_same (x := Ob.loop fr 18 #[8] F21.rAs0 F21.rBd0 .busy none d) lp
    have l5 : (hh.set L (Ob.loop fr 18 #[8] F21.rAs0 F21.rBd0 .busy none d)).length = hh.length := by simp
    generalize hh.set L (Ob.loop fr 18 #[8] F21.rAs0 F21.rBd0 .busy none d) = h5 at P5 L5 l5 ⊢
    have e3 := F21.d3 (n0 := n0) L
    unfold F21.c3 at e3
    rw [← e3, F21.e3]
    replace c1 := P5 _ _ (by omega) c1
    replace c2 := P5 _ _ (by omega) c2
    replace hdf := P5 _ _ (by omega) hdf
    replace N : Nw1 h5 (L + 1) out ((s.drop a).take (j - a)) := ⟨N.fu.keep fun b ob hb e => P5 _ _ (by have := N.bl b hb; omega) e, N.bl⟩
    replace Xh : ∀ (j : Nat) (ob : Ob), h[j]? = some ob → h5[j]? = some ob := fun j ob e => P5 _ _ (by have := lt_of_some e; omega) (Xh _ _ e)
    have tl : ((s.drop a).take (j - a)).length = j - a := by rw [List.length_take, List.length_drop]; omega
    unfold F21.t3
    refine Bnd_i (a := out) (by simp (disch := first | omega | assumption | exact isC_last | exact isC_app (by first | assumption | exact isC_last | exact isC_app (by first | assumption | exact isC_last)) | (simp [oneC]; done) | fail) only [rd_cells c2, evs0, evs1, evs2, evs3, evs4, evs5, evs6, evs7, evs8, if_true, if_false, ↓reduceIte, Nat.reduceEqDiff, Nat.reduceAdd, Nat.reduceMul, Nat.reduceSub, Nat.reduceLeDiff, Int.reduceLT, Int.reduceLE, Int.reduceEq, Bool.false_eq_true, Option.bind_some, Option.map_some, List.set_cons_zero, List.set_cons_succ, List.toList_toArray, List.size_toArray, List.length_cons, List.length_nil, List.getElem?_toArray, List.getElem?_cons_zero, List.getElem?_cons_succ, List.drop_zero, List.take_succ_cons, List.take_zero]) ?_
    refine Bnd2_i (len_sl N.sl) ?_
    rw [tl]
    refine Bnd_i (a := .int .i64 most) (by simp (disch := first | omega | assumption | exact isC_last | exact isC_app (by first | assumption | exact isC_last | exact isC_app (by first | assumption | exact isC_last)) | (simp [oneC]; done) | fail) only [rd_cells c1, evs0, evs1, evs2, evs3, evs4, evs5, evs6, evs7, evs8, if_true, if_false, ↓reduceIte, Nat.reduceEqDiff, Nat.reduceAdd, Nat.reduceMul, Nat.reduceSub, Nat.reduceLeDiff, Int.reduceLT, Int.reduceLE, Int.reduceEq, Bool.false_eq_true, Option.bind_some, Option.map_some, List.set_cons_zero, List.set_cons_succ, List.toList_toArray, List.size_toArray, List.length_cons, List.length_nil, List.getElem?_toArray, List.getElem?_cons_zero, List.getElem?_cons_succ, List.drop_zero, List.take_succ_cons, List.take_zero]) ?_
    refine Bnd_i bGeq ?_
    by_cases hge : most ≤ j - a
    · rw [decide_eq_true (by omega), Cnd_true]
      simp (disch := first | omega | assumption | exact isC_last | exact isC_app (by first | assumption | exact isC_last | exact isC_app (by first | assumption | exact isC_last)) | (simp [oneC]; done) | fail) only [evs0, evs1, evs2, evs3, evs4, evs5, evs6, evs7, evs8, if_true, if_false, ↓reduceIte, Nat.reduceEqDiff, Nat.reduceAdd, Nat.reduceMul, Nat.reduceSub, Nat.reduceLeDiff, Int.reduceLT, Int.reduceLE, Int.reduceEq, Bool.false_eq_true, Option.bind_some, Option.map_some, List.set_cons_zero, List.set_cons_succ, List.toList_toArray, List.size_toArray, List.length_cons, List.length_nil, List.getElem?_toArray, List.getElem?_cons_zero, List.getElem?_cons_succ, List.drop_zero, List.take_succ_cons, List.take_zero]
      refine Bnd_i (a := (.bool false, h5.set L (Ob.loop fr 18 #[8] F21.rAs0 F21.rBd0 .done (some (.exit 0)) d))) (by unfold endK loopOf; rw [L5]; rfl) ?_
      rw [hHQ]
      have em : j - a = most := by omega
      rw [em] at N
      exact .inr ⟨rfl, out, fun j ob e => set_ne (Xh _ _ e) (by have := lt_of_some e; omega), set_ne hdf (by omega), set_ne c2 (by omega), ⟨N.fu.keep fun b ob hb e => set_ne e (by have := N.bl b hb; omega), N.bl⟩, .inr (set_same L5)⟩
    · rw [decide_eq_false (by omega), Cnd_false, F21.e4]
      unfold F21.t4
      refine Bnd_i (a := out) (by simp (disch := first | omega | assumption | exact isC_last | exact isC_app (by first | assumption | exact isC_last | exact isC_app (by first | assumption | exact isC_last)) | (simp [oneC]; done) | fail) only [rd_cells c2, evs0, evs1, evs2, evs3, evs4, evs5, evs6, evs7, evs8, if_true, if_false, ↓reduceIte, Nat.reduceEqDiff, Nat.reduceAdd, Nat.reduceMul, Nat.reduceSub, Nat.reduceLeDiff, Int.reduceLT, Int.reduceLE, Int.reduceEq, Bool.false_eq_true, Option.bind_some, Option.map_some, List.set_cons_zero, List.set_cons_succ, List.toList_toArray, List.size_toArray, List.length_cons, List.length_nil, List.getElem?_toArray, List.getElem?_cons_zero, List.getElem?_cons_succ, List.drop_zero, List.take_succ_cons, List.take_zero]) ?_
      refine Bnd2_i bsl_22_1_0 ?_
      rw [ap_22_22]
      obtain ⟨out', h6, e6, N', hbut⟩ := (N.ext (Ext.app h5 [Ob.cells true (enc 1 23) [.int .u64 (s.getD j 0)]])).put get_last (by rw [List.length_append]; omega) (by rw [tl]; omega)
      refine Bnd2_i e6 ?_
      have b6 : ∀ b ob, b ≤ L → h5[b]? = some ob → h6[b]? = some ob := fun b ob hb e => hbut.2 b ob (fun k => by have := N.bl b k; omega) (get_app e)
      have l6 := hbut.1
      rw [List.length_append] at l6
      have c26 := b6 _ _ (by omega) c2
      obtain ⟨a', hf⟩ := N'.fu.form
      subst hf
      simp (disch := first | omega | assumption | exact isC_last | exact isC_app (by first | assumption | exact isC_last | exact isC_app (by first | assumption | exact isC_last)) | (simp [oneC]; done) | fail) only [evs0, evs1, evs2, evs3, evs4, evs5, evs6, evs7, evs8, if_true, if_false, ↓reduceIte, Nat.reduceEqDiff, Nat.reduceAdd, Nat.reduceMul, Nat.reduceSub, Nat.reduceLeDiff, Int.reduceLT, Int.reduceLE, Int.reduceEq, Bool.false_eq_true, Option.bind_some, Option.map_some, List.set_cons_zero, List.set_cons_succ, List.toList_toArray, List.size_toArray, List.length_cons, List.length_nil, List.getElem?_toArray, List.getElem?_cons_zero, List.getElem?_cons_succ, List.drop_zero, List.take_succ_cons, List.take_zero]
      refine Bnd_i (wr_cells c26 (by simp) rfl) ?_
      rw [over_one (by simp), List.set_cons_zero]
      have c27 := set_same (x := Ob.cells true (enc 0 22) [Value.slice a' ((s.drop a).take (j - a) ++ [s.getD j 0]).length ((s.drop a).take (j - a) ++ [s.getD j 0]).length]) c26
      have b7 : ∀ b ob, b ≠ h.length + 1 → h6[b]? = some ob → (h6.set (h.length + 1) (Ob.cells true (enc 0 22) [Value.slice a' ((s.drop a).take (j - a) ++ [s.getD j 0]).length ((s.drop a).take (j - a) ++ [s.getD j 0]).length]))[b]? = some ob := fun b ob h1 h2 => set_ne h2 h1
      have l7 : (h6.set (h.length + 1) (Ob.cells true (enc 0 22) [Value.slice a' ((s.drop a).take (j - a) ++ [s.getD j 0]).length ((s.drop a).take (j - a) ++ [s.getD j 0]).length])).length = h6.length := by simp
      generalize h6.set (h.length + 1) (Ob.cells true (enc 0 22) [Value.slice a' ((s.drop a).take (j - a) ++ [s.getD j 0]).length ((s.drop a).take (j - a) ++ [s.getD j 0]).length]) = h7 at c27 b7 l7 ⊢
      have L7 := b7 _ _ (by omega) (b6 _ _ (Nat.le_refl _) L5)
      refine Bnd_i (a := (.bool true, h7.set L (Ob.loop fr 18 #[8] F21.rAs0 F21.rBd0 .ready none d))) (by unfold endK loopOf; rw [L7]; rfl) ?_
      rw [hHQ]
      have ed : (s.drop a).take (j + 1 - a) = (s.drop a).take (j - a) ++ [s.getD j 0] := by
        rw [show j + 1 - a = (j - a) + 1 by omega, List.take_add_one, List.getElem?_drop, show a + (j - a) = j by omega, List.getElem?_eq_getElem hjs, Option.toList_some, getD_get hjs]
      refine .inl ⟨rfl, _, fun b ob e => ?_, ?_, ?_, set_ne c27 (by omega), ?_, set_same L7, by simp; omega, by omega, by omega⟩
      · have := lt_of_some e
        exact set_ne (b7 _ _ (by omega) (b6 _ _ (by omega) (Xh _ _ e))) (by omega)
      · exact set_ne (b7 _ _ (by omega) (b6 _ _ (by omega) hdf)) (by omega)
      · exact set_ne (b7 _ _ (by omega) (b6 _ _ (by omega) c1)) (by omega)
      · rw [ed]
        exact ⟨N'.fu.keep fun b ob hb e => set_ne (b7 _ _ (by have := N'.bl b hb; omega) e) (by have := N'.bl b hb; omega), N'.bl⟩
  · rintro hh ⟨out, Xh, hdf, c1, c2, N, lp, hlen, _, hjm⟩
    refine ⟨out, Xh, hdf, c2, ?_, .inl lp⟩
    have e : (s.drop a).take most = (s.drop a).take (s.length - a) := by
      rw [List.take_of_length_le (by rw [List.length_drop]; omega), List.take_of_length_le (by simp)]
    rw [e]; exact N
  · rintro _ hh ⟨out, Xh, hdf, c2, N, hc⟩
    have aft : ∀ hx : H, hx = hh.set L .dead → (KSeq [5] (F21.p1 n0) (KFin Try.prog [.tmp 4] HP)) .normal [(5, .pointer (some ⟨h.length + 1, 0, none⟩))] [d] hx := by
      rintro hx rfl
      have f2 := set_ne (x := Ob.dead) c2 (show h.length + 1 ≠ L by omega)
      have fd := set_ne (x := Ob.dead) hdf (show d ≠ L by omega)
      simp (disch := first | omega | assumption | exact isC_last | exact isC_app (by first | assumption | exact isC_last | exact isC_app (by first | assumption | exact isC_last)) | (simp [oneC]; done) | fail) only [evs0, evs1, evs2, evs3, evs4, evs5, evs6, evs7, evs8, if_true, if_false, ↓reduceIte, Nat.reduceEqDiff, Nat.reduceAdd, Nat.reduceMul, Nat.reduceSub, Nat.reduceLeDiff, Int.reduceLT, Int.reduceLE, Int.reduceEq, Bool.false_eq_true, Option.bind_some, Option.map_some, List.set_cons_zero, List.set_cons_succ, List.toList_toArray, List.size_toArray, List.length_cons, List.length_nil, List.getElem?_toArray, List.getElem?_cons_zero, List.getElem?_cons_succ, List.drop_zero, List.take_succ_cons, List.take_zero]
      rw [F21.e1]
      simp (disch := first | omega | assumption | exact isC_last | exact isC_app (by first | assumption | exact isC_last | exact isC_app (by first | assumption | exact isC_last)) | (simp [oneC]; done) | fail) only [F21.t1, rd_cells f2, evs0, evs1, evs2, evs3, evs4, evs5, evs6, evs7, evs8, if_true, if_false, ↓reduceIte, Nat.reduceEqDiff, Nat.reduceAdd, Nat.reduceMul, Nat.reduceSub, Nat.reduceLeDiff, Int.reduceLT, Int.reduceLE, Int.reduceEq, Bool.false_eq_true, Option.bind_some, Option.map_some, List.set_cons_zero, List.set_cons_succ, List.toList_toArray, List.size_toArray, List.length_cons, List.length_nil, List.getElem?_toArray, List.getElem?_cons_zero, List.getElem?_cons_succ, List.drop_zero, List.take_succ_cons, List.take_zero]
      refine Bnd_i (tk _ fd) ?_
      rw [← hHP]
      exact ⟨N.sl.keep fun b ob hb e => set_ne (set_ne e (by have := N.bl b hb; omega)) (by have := N.bl b hb; omega), fun b ob e => set_ne (set_ne (Xh _ _ e) (by have := lt_of_some e; omega)) (by have := lt_of_some e; omega)⟩
    rcases hc with lp | lp
    · refine Bnd_i (a := (fr, 18, #[8], F21.rAs0, F21.rBd0, .ready, none, d)) (by unfold loopOf; rw [lp]) ⟨by simp, ?_⟩
      show KBlk [5] 0 (KSeq [5] (F21.p1 n0) (KFin Try.prog [.tmp 4] HP)) .normal fr [d] (hh.set L .dead)
      rw [← hfr, kblk_n]
      exact aft _ rfl
    · refine Bnd_i (a := (fr, 18, #[8], F21.rAs0, F21.rBd0, .done, some (.exit 0), d)) (by unfold loopOf; rw [lp]) ⟨by simp, ?_⟩
      show KBlk [5] 0 (KSeq [5] (F21.p1 n0) (KFin Try.prog [.tmp 4] HP)) (.exit 0) fr [d] (hh.set L .dead)
      rw [← hfr, kblk_e]
      exact aft _ rfl
end Go.Proofs.Ytjdcdabbbmhffaa
