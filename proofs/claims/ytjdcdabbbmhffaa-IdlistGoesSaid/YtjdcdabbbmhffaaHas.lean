/- Has; the law's closed part. No condition. -/
import Derived.Test.YtjdcdabbbmhffaaIter
import Derived.Test.YtjdcdabbbmhffaaEvRow
set_option linter.unusedVariables false
set_option linter.unusedSimpArgs false
namespace Go.Proofs.Ytjdcdabbbmhffaa
open Go.Ev Idl
variable {n0 : Nat} {h : H}
theorem wakes_ev : ((ev Try.prog 80 (.func 18) [] []).map fun r => r.1) = some (.bool true) := by kernel_rfl
theorem wakes_go : isGo Try.prog 18 = true := by kernel_rfl
theorem Wakes_ok : Cn Try.prog n0 (.func 18) [] h (fun v h' => v = .bool true ∧ h' = h) := Cn.of_closed mixed names wakes_ev rfl wakes_go ⟨rfl, rfl⟩
theorem follows : Try.prog.follows .mixedOrders = true := mixed
theorem fst_mem {l s : List Int} {id : Int} {a : Nat} (hS : St (· ∈ l) s) (hF : Fst s 0 id a) : (decide (id ∈ l)) = (if a < s.length then decide (s.getD a 0 = id) else false) := by
  rw [show decide (id ∈ l) = decide (id ∈ s) from decide_eq_decide.2 (hS.mem id).symm]
  split
  · rename_i h1
    rw [decide_eq_decide]
    constructor
    · intro hm
      obtain ⟨i, hi, e⟩ := List.getElem_of_mem hm
      have e' : s.getD i 0 = id := by rw [getD_get hi]; exact e
      have h2 := hF.at_ h1
      by_cases hi2 : i < a
      · have := hF.lt i (by omega) hi2; omega
      · have := up_le hS.up (i := a) (j := i) (by omega) hi
        omega
    · intro e
      rw [← e, getD_get h1]; exact List.getElem_mem h1
  · rename_i h1
    rw [decide_eq_false]
    intro hm
    obtain ⟨i, hi, e⟩ := List.getElem_of_mem hm
    have e' : s.getD i 0 = id := by rw [getD_get hi]; exact e
    have := hF.lt i (by omega) (by omega)
    omega
set_option maxRecDepth 20000 in
theorem Has_ok {v : Value} {l : List Int} {id : Int} (S : Sl h 1 v (l.map u)) (hl : (l.length + 1024) * 8 ≤ 3 * 2 ^ 46) : Cn Try.prog n0 (.func 15) [v, .int .u64 id] h (fun r h' => r = .bool (decide (id ∈ l)) ∧ Ext h h') := by
  refine F15.enter ?_
  obtain ⟨HP, hHP⟩ : ∃ HP : Value → H → Prop, (fun r h' => r = .bool (decide (id ∈ l)) ∧ Ext h h') = HP := ⟨_, rfl⟩
  rw [hHP, F15.e0]
  simp (disch := first | omega | assumption | exact isC_last | exact isC_app (by first | assumption | exact isC_last | exact isC_app (by first | assumption | exact isC_last)) | (simp [oneC]; done) | fail) only [F15.t0, u, evs0, evs1, evs2, evs3, evs4, evs5, evs6, evs7, evs8, if_true, if_false, ↓reduceIte, Nat.reduceEqDiff, Nat.reduceAdd, Nat.reduceMul, Nat.reduceSub, Nat.reduceLeDiff, Int.reduceLT, Int.reduceLE, Int.reduceEq, Bool.false_eq_true, Option.bind_some, Option.map_some, List.set_cons_zero, List.set_cons_succ, List.toList_toArray, List.size_toArray, List.length_cons, List.length_nil, List.getElem?_toArray, List.getElem?_cons_zero, List.getElem?_cons_succ, List.drop_zero, List.take_succ_cons, List.take_zero]
  obtain ⟨g, hg⟩ : ∃ g : H, h ++ [Ob.cells true (enc 0 23) (clL (Value.int IntKind.u64 id))] ++ [Ob.cells true (enc 0 4) [Value.bool false]] = g := ⟨_, rfl⟩
  have X0 : Ext h g := by rw [← hg, List.append_assoc]; exact Ext.app _ _
  have g1 : g[h.length]? = some (.cells true (enc 0 23) [.int .u64 id]) := by rw [← hg]; exact get_app get_last
  have g2 : g[h.length + 1]? = some (.cells true (enc 0 4) [.bool false]) := by rw [← hg, show h.length + 1 = (h ++ [Ob.cells true (enc 0 23) (clL (Value.int IntKind.u64 id))]).length by simp]; exact get_last
  have gl : g.length = h.length + 2 := by rw [← hg]; simp
  simp only [hg, List.length_append, List.length_cons, List.length_nil, Nat.zero_add]
  refine (From_ok (S.ext X0) hl).mono ?_
  rintro r h3 ⟨o, q, vs, s, a, I, hSt, hF, hsl, X3⟩
  have hl3 := X3.len'
  rw [I.form]
  unfold wRange
  refine ⟨by kernel_rfl, ?_⟩
  refine Bnd_i (a := (h3.length, [h3.length], h3 ++ [.dfr])) rfl ?_
  simp only
  obtain ⟨fr, hfr⟩ : ∃ fr : Fr, [(3, .pointer (some ⟨h.length, 0, none⟩)), (4, .pointer (some ⟨h.length + 1, 0, none⟩)), (8, .func (.func 45) #[] #[.pointer (some ⟨o, 0, none⟩), .pointer (some ⟨q, 0, none⟩)])] = fr := ⟨_, rfl⟩
  show Cn Try.prog n0 (Fn.func 45) [.func (.yield (h3 ++ [Ob.dfr]).length) #[] #[], .pointer (some ⟨o, 0, none⟩), .pointer (some ⟨q, 0, none⟩)] (h3 ++ [Ob.dfr] ++ [.loop _ 13 #[9] F15.rAs0 F15.rBd0 .ready none h3.length]) _
  rw [hfr]
  obtain ⟨d, hd⟩ : ∃ d, h3.length = d := ⟨_, rfl⟩
  obtain ⟨L, hL⟩ : ∃ L, (h3 ++ [Ob.dfr]).length = L := ⟨_, rfl⟩
  have hLd : L = d + 1 := by rw [← hL, ← hd]; simp
  have X4 : Ext h3 (h3 ++ [Ob.dfr] ++ [.loop fr 13 #[9] F15.rAs0 F15.rBd0 .ready none d]) := fun j ob e => get_app (get_app e)
  have q3 : (h3 ++ [Ob.dfr] ++ [.loop fr 13 #[9] F15.rAs0 F15.rBd0 .ready none d])[L]? = some (.loop fr 13 #[9] F15.rAs0 F15.rBd0 .ready none d) := by rw [← hL]; exact get_last
  have q4 : (h3 ++ [Ob.dfr] ++ [.loop fr 13 #[9] F15.rAs0 F15.rBd0 .ready none d])[d]? = some .dfr := by rw [← hd]; exact get_app get_last
  rw [hL, hd]
  generalize h3 ++ [Ob.dfr] ++ [.loop fr 13 #[9] F15.rAs0 F15.rBd0 .ready none d] = h4 at X4 q3 q4 ⊢
  have q1 := X4 _ _ (X3 _ _ g1)
  have q2 := X4 _ _ (X3 _ _ g2)
  have hsn : s.length < 2 ^ 60 := by omega
  refine (Go_ok (Q := fun (hh : H) => (∀ (j : Nat) (ob : Ob), h[j]? = some ob → hh[j]? = some ob) ∧ hh[d]? = some .dfr ∧
    ((¬ a < s.length ∧ hh[L]? = some (.loop fr 13 #[9] F15.rAs0 F15.rBd0 .ready none d) ∧ hh[h.length + 1]? = some (.cells true (enc 0 4) [.bool false])) ∨
     (a < s.length ∧ hh[L]? = some (.loop fr 13 #[9] F15.rAs0 F15.rBd0 .done (some .ret) d) ∧ hh[h.length + 1]? = some (.cells true (enc 0 4) [.bool (decide (s.getD a 0 = id))]))))
    (J := fun j hh => j = a ∧ hh = h4) (L := L) (I.ext X4) hF.le hsn ⟨rfl, rfl⟩ (fun j hh hJ b ob _ e => by rw [hJ.2]; exact e) ?_ ?_).mono ?_
  · rintro j hh ha hj ⟨rfl, rfl⟩
    have hlo : loopOf hh L = some (fr, 13, #[9], F15.aAs0.erase, F15.aBd0.erase, .ready, none, d) := by
      unfold loopOf
      rw [q3, show F15.aAs0.erase = F15.rAs0 from (ann_erase _ _).1, show F15.aBd0.erase = F15.rBd0 from (ann_erase _ _).1]
    obtain ⟨HQ, hHQ⟩ : ∃ HQ : Value → H → Prop, HQ = (fun (v : Value) (h' : H) => (v = .bool true ∧ j + 1 = j ∧ h' = hh) ∨ (v = .bool false ∧ (∀ (j : Nat) (ob : Ob), h[j]? = some ob → h'[j]? = some ob) ∧ h'[d]? = some .dfr ∧
      ((¬ j < s.length ∧ h'[L]? = some (.loop fr 13 #[9] F15.rAs0 F15.rBd0 .ready none d) ∧ h'[h.length + 1]? = some (.cells true (enc 0 4) [.bool false])) ∨
       (j < s.length ∧ h'[L]? = some (.loop fr 13 #[9] F15.rAs0 F15.rBd0 .done (some .ret) d) ∧ h'[h.length + 1]? = some (.cells true (enc 0 4) [.bool (decide (s.getD j 0 = id))]))))) := ⟨_, rfl⟩
    rw [← hHQ]
    refine Cn_yield follows hlo F15.k2 F15.k3 (L := [3, 4, 5]) (fr1 := [(3, .pointer (some ⟨h.length, 0, none⟩)), (4, .pointer (some ⟨h.length + 1, 0, none⟩)), (8, .func (.func 45) #[] #[.pointer (some ⟨o, 0, none⟩), .pointer (some ⟨q, 0, none⟩)]), (9, .int .u64 (s.getD j 0))]) (by rw [← hfr]; rfl) ?_
    have e2 := F15.d2 (n0 := n0) L
    unfold F15.c2 at e2
    rw [← e2, F15.e2]
    simp (disch := first | omega | assumption | exact isC_last | exact isC_app (by first | assumption | exact isC_last | exact isC_app (by first | assumption | exact isC_last)) | (simp [oneC]; done) | fail) only [F15.t2, kas_n, evs0, evs1, evs2, evs3, evs4, evs5, evs6, evs7, evs8, if_true, if_false, ↓reduceIte, Nat.reduceEqDiff, Nat.reduceAdd, Nat.reduceMul, Nat.reduceSub, Nat.reduceLeDiff, Int.reduceLT, Int.reduceLE, Int.reduceEq, Bool.false_eq_true, Option.bind_some, Option.map_some, List.set_cons_zero, List.set_cons_succ, List.toList_toArray, List.size_toArray, List.length_cons, List.length_nil, List.getElem?_toArray, List.getElem?_cons_zero, List.getElem?_cons_succ, List.drop_zero, List.take_succ_cons, List.take_zero]
    refine Bnd_i (a := hh.set L (.loop fr 13 #[9] F15.rAs0 F15.rBd0 .busy none d)) (by unfold begK loopOf; rw [q3]) ?_
    have P5 : ∀ j ob, j ≠ L → hh[j]? = some ob → (hh.set L (.loop fr 13 #[9] F15.rAs0 F15.rBd0 .busy none d))[j]? = some ob := fun j ob h1 h2 => set_ne h2 h1
    have L5 := set_same (x := .loop fr 13 #[9] F15.rAs0 F15.rBd0 .busy none d) q3
    generalize hh.set L (.loop fr 13 #[9] F15.rAs0 F15.rBd0 .busy none d) = h5 at P5 L5 ⊢
    have e3 := F15.d3 (n0 := n0) L
    unfold F15.c3 at e3
    rw [← e3, F15.e3]
    have c1 := P5 _ _ (by omega) q1
    have c2 := P5 _ _ (by omega) q2
    simp (disch := first | omega | assumption | exact isC_last | exact isC_app (by first | assumption | exact isC_last | exact isC_app (by first | assumption | exact isC_last)) | (simp [oneC]; done) | fail) only [F15.t3, rd_cells c1, evs0, evs1, evs2, evs3, evs4, evs5, evs6, evs7, evs8, if_true, if_false, ↓reduceIte, Nat.reduceEqDiff, Nat.reduceAdd, Nat.reduceMul, Nat.reduceSub, Nat.reduceLeDiff, Int.reduceLT, Int.reduceLE, Int.reduceEq, Bool.false_eq_true, Option.bind_some, Option.map_some, List.set_cons_zero, List.set_cons_succ, List.toList_toArray, List.size_toArray, List.length_cons, List.length_nil, List.getElem?_toArray, List.getElem?_cons_zero, List.getElem?_cons_succ, List.drop_zero, List.take_succ_cons, List.take_zero]
    refine Bnd_i (wr_cells c2 (by simp) rfl) ?_
    rw [over_one (by simp), List.set_cons_zero]
    refine Bnd_i (a := (.bool false, (h5.set (h.length + 1) (.cells true (enc 0 4) [.bool (decide (s.getD j 0 = id))])).set L (.loop fr 13 #[9] F15.rAs0 F15.rBd0 .done (some .ret) d))) (by unfold endK loopOf; rw [set_ne L5 (by omega)]; rfl) ?_
    rw [hHQ]
    refine .inr ⟨rfl, ?_, ?_, .inr ⟨hj, set_same (set_ne L5 (by omega)), set_ne (set_same c2) (by omega)⟩⟩
    · intro j ob e
      have hlt := lt_of_some e
      exact set_ne (set_ne (P5 _ _ (by omega) (X4 _ _ (X3 _ _ (X0 _ _ e)))) (by omega)) (by omega)
    · exact set_ne (set_ne (P5 _ _ (by omega) q4) (by omega)) (by omega)
  · rintro hh ⟨e, rfl⟩
    exact ⟨fun j ob e => X4 _ _ (X3 _ _ (X0 _ _ e)), q4, .inl ⟨by omega, q3, q2⟩⟩
  · rintro _ hh ⟨Xh, hdf, hc⟩
    have tk : ∀ (g : H) , g[d]? = some .dfr → takeD [d] g = some (g.set d .dead) := by intro g e; unfold takeD; rw [e]; rfl
    rcases hc with ⟨hns, lp, c4⟩ | ⟨hs, lp, c4⟩
    · refine Bnd_i (a := (fr, 13, #[9], F15.rAs0, F15.rBd0, .ready, none, d)) (by unfold loopOf; rw [lp]) ⟨by simp, ?_⟩
      show KBlk [4] 0 (KSeq [4] (F15.p1 n0) (KFin Try.prog [.cell 4 4] HP)) .normal fr [d] (hh.set L .dead)
      have f4 := set_ne (x := Ob.dead) c4 (show h.length + 1 ≠ L by omega)
      have fd := set_ne (x := Ob.dead) hdf (show d ≠ L by omega)
      rw [← hfr]
      simp (disch := first | omega | assumption | exact isC_last | exact isC_app (by first | assumption | exact isC_last | exact isC_app (by first | assumption | exact isC_last)) | (simp [oneC]; done) | fail) only [evs0, evs1, evs2, evs3, evs4, evs5, evs6, evs7, evs8, if_true, if_false, ↓reduceIte, Nat.reduceEqDiff, Nat.reduceAdd, Nat.reduceMul, Nat.reduceSub, Nat.reduceLeDiff, Int.reduceLT, Int.reduceLE, Int.reduceEq, Bool.false_eq_true, Option.bind_some, Option.map_some, List.set_cons_zero, List.set_cons_succ, List.toList_toArray, List.size_toArray, List.length_cons, List.length_nil, List.getElem?_toArray, List.getElem?_cons_zero, List.getElem?_cons_succ, List.drop_zero, List.take_succ_cons, List.take_zero]
      rw [F15.e1]
      simp (disch := first | omega | assumption | exact isC_last | exact isC_app (by first | assumption | exact isC_last | exact isC_app (by first | assumption | exact isC_last)) | (simp [oneC]; done) | fail) only [F15.t1, evs0, evs1, evs2, evs3, evs4, evs5, evs6, evs7, evs8, if_true, if_false, ↓reduceIte, Nat.reduceEqDiff, Nat.reduceAdd, Nat.reduceMul, Nat.reduceSub, Nat.reduceLeDiff, Int.reduceLT, Int.reduceLE, Int.reduceEq, Bool.false_eq_true, Option.bind_some, Option.map_some, List.set_cons_zero, List.set_cons_succ, List.toList_toArray, List.size_toArray, List.length_cons, List.length_nil, List.getElem?_toArray, List.getElem?_cons_zero, List.getElem?_cons_succ, List.drop_zero, List.take_succ_cons, List.take_zero]
      refine Bnd_i (wr_cells f4 (by simp) rfl) ?_
      rw [over_one (by simp), List.set_cons_zero]
      have k4 := set_same (x := Ob.cells true (enc 0 4) [Value.bool false]) f4
      have kd := set_ne (x := Ob.cells true (enc 0 4) [Value.bool false]) fd (show d ≠ h.length + 1 by omega)
      refine Bnd_i (tk _ kd) ?_
      have k5 := set_ne (x := Ob.dead) k4 (show h.length + 1 ≠ d by omega)
      simp (disch := first | omega | assumption | exact isC_last | exact isC_app (by first | assumption | exact isC_last | exact isC_app (by first | assumption | exact isC_last)) | (simp [oneC]; done) | fail) only [rd_cells k5, evs0, evs1, evs2, evs3, evs4, evs5, evs6, evs7, evs8, if_true, if_false, ↓reduceIte, Nat.reduceEqDiff, Nat.reduceAdd, Nat.reduceMul, Nat.reduceSub, Nat.reduceLeDiff, Int.reduceLT, Int.reduceLE, Int.reduceEq, Bool.false_eq_true, Option.bind_some, Option.map_some, List.set_cons_zero, List.set_cons_succ, List.toList_toArray, List.size_toArray, List.length_cons, List.length_nil, List.getElem?_toArray, List.getElem?_cons_zero, List.getElem?_cons_succ, List.drop_zero, List.take_succ_cons, List.take_zero]
      rw [← hHP]
      refine ⟨by rw [fst_mem hSt hF, if_neg hns], fun j ob e => ?_⟩
      have hlt := lt_of_some e
      exact set_ne (set_ne (set_ne (Xh _ _ e) (by omega)) (by omega)) (by omega)
    · refine Bnd_i (a := (fr, 13, #[9], F15.rAs0, F15.rBd0, .done, some .ret, d)) (by unfold loopOf; rw [lp]) ⟨by simp, ?_⟩
      show KBlk [4] 0 (KSeq [4] (F15.p1 n0) (KFin Try.prog [.cell 4 4] HP)) .ret fr [d] (hh.set L .dead)
      have f4 := set_ne (x := Ob.dead) c4 (show h.length + 1 ≠ L by omega)
      have fd := set_ne (x := Ob.dead) hdf (show d ≠ L by omega)
      rw [← hfr, kblk_r, kseq_r, kfin_r]
      refine Bnd_i (tk _ fd) ?_
      have k5 := set_ne (x := Ob.dead) f4 (show h.length + 1 ≠ d by omega)
      simp (disch := first | omega | assumption | exact isC_last | exact isC_app (by first | assumption | exact isC_last | exact isC_app (by first | assumption | exact isC_last)) | (simp [oneC]; done) | fail) only [rd_cells k5, evs0, evs1, evs2, evs3, evs4, evs5, evs6, evs7, evs8, if_true, if_false, ↓reduceIte, Nat.reduceEqDiff, Nat.reduceAdd, Nat.reduceMul, Nat.reduceSub, Nat.reduceLeDiff, Int.reduceLT, Int.reduceLE, Int.reduceEq, Bool.false_eq_true, Option.bind_some, Option.map_some, List.set_cons_zero, List.set_cons_succ, List.toList_toArray, List.size_toArray, List.length_cons, List.length_nil, List.getElem?_toArray, List.getElem?_cons_zero, List.getElem?_cons_succ, List.drop_zero, List.take_succ_cons, List.take_zero]
      rw [← hHP]
      refine ⟨by rw [fst_mem hSt hF, if_pos hs], fun j ob e => ?_⟩
      have hlt := lt_of_some e
      exact set_ne (set_ne (Xh _ _ e) (by omega)) (by omega)
end Go.Proofs.Ytjdcdabbbmhffaa
