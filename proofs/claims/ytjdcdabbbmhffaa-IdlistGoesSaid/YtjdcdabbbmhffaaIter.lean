/- From, what it gives gone through; Has. No condition. -/
import Derived.Test.YtjdcdabbbmhffaaFnds
import Derived.Test.YtjdcdabbbmhffaaOwn
set_option linter.unusedVariables false
set_option linter.unusedSimpArgs false
namespace Go.Proofs.Ytjdcdabbbmhffaa
open Go.Ev Idl
variable {n0 : Nat} {h : H}
theorem kas_n {l : Nat} {nt : Nat} {L : List Nat} {bd : AC} {Q : Value → H → Prop} {fr : Fr} {ds : List Nat} : KAs Try.prog n0 nt l L bd Q .normal fr ds h = Bnd (begK l h) fun h => wA Try.prog n0 nt (some l) bd (keep L fr) ds h fun e _ _ h => match e with
    | .normal => Bnd (endK l h none) fun r => Q r.1 r.2
    | .ret => Bnd (endK l h (some .ret)) fun r => Q r.1 r.2
    | .exit id => Bnd (endK l h (some (.exit id))) fun r => Q r.1 r.2 := propext Iff.rfl
/-- what From hands out: the numbers of l from id on -/
structure It (B : Nat) (h : H) (r : Value) (o q : Nat) (vs : Value) (s : List Int) (a : Nat) : Prop where
  form : r = .func (.func 45) #[] #[.pointer (some ⟨o, 0, none⟩), .pointer (some ⟨q, 0, none⟩)]
  ho : h[o]? = some (.cells true (enc 0 22) [vs])
  hq : h[q]? = some (.cells true (enc 0 3) [.int .i64 a])
  sl : Sl h 1 vs (s.map u)
  bo : B ≤ o
  bq : B ≤ q
  bv : ∀ j, isBlk vs j → B ≤ j
  bk : ∀ j, isBlk vs j → ∃ ob, h[j]? = some ob
theorem It.keep {B : Nat} {r vs : Value} {o q a : Nat} {s : List Int} {h1 : H} (I : It B h r o q vs s a) (x : ∀ j ob, B ≤ j → (j = o ∨ j = q ∨ isBlk vs j) → h[j]? = some ob → h1[j]? = some ob) : It B h1 r o q vs s a :=
  ⟨I.form, x _ _ I.bo (.inl rfl) I.ho, x _ _ I.bq (.inr (.inl rfl)) I.hq, I.sl.keep fun j ob hj e => x _ _ (I.bv j hj) (.inr (.inr hj)) e, I.bo, I.bq, I.bv, fun j hj => by obtain ⟨ob, e⟩ := I.bk j hj; exact ⟨ob, x _ _ (I.bv j hj) (.inr (.inr hj)) e⟩⟩
theorem It.ext {B : Nat} {r vs : Value} {o q a : Nat} {s : List Int} {h1 : H} (I : It B h r o q vs s a) (x : Ext h h1) : It B h1 r o q vs s a := I.keep fun j ob _ _ e => x _ _ e
theorem _root_.Go.Ev.Ext.len' {h h' : H} (x : Ext h h') : h.length ≤ h'.length := by
  by_cases hn : h.length = 0
  · omega
  · have := x (h.length - 1) h[h.length - 1] (List.getElem?_eq_getElem (by omega))
    have := lt_of_some this
    omega
set_option maxRecDepth 20000 in
theorem From_ok {v : Value} {l : List Int} {id : Int} (S : Sl h 1 v (l.map u)) (hl : (l.length + 1024) * 8 ≤ 3 * 2 ^ 46) :
    Cn Try.prog n0 (.func 19) [v, .int .u64 id] h (fun r h' => ∃ o q vs s a, It h.length h' r o q vs s a ∧ St (· ∈ l) s ∧ Fst s 0 id a ∧ s.length ≤ l.length ∧ Ext h h') := by
  refine F19.enter ?_
  obtain ⟨HP, hHP⟩ : ∃ HP : Value → H → Prop, (fun r h' => ∃ o q vs s a, It h.length h' r o q vs s a ∧ St (· ∈ l) s ∧ Fst s 0 id a ∧ s.length ≤ l.length ∧ Ext h h') = HP := ⟨_, rfl⟩
  rw [hHP, F19.e0]
  unfold F19.t0
  refine (set_ok S hl).mono ?_
  rintro r1 h1 ⟨s, S1, hSt, hsl, X1⟩
  refine (Clone_ok S1 (by omega)).mono ?_
  intro r2 h2 H2
  have C2 : Sl h2 1 r2 (s.map u) ∧ Ext h h2 ∧ (∀ j, isBlk r2 j → h.length ≤ j) ∧ (∀ j, isBlk r2 j → ∃ ob, h2[j]? = some ob) := by
    rcases H2 with ⟨rfl, rfl, rfl⟩ | ⟨g, b, hb1, hb2, X, rfl, rfl⟩
    · exact ⟨Sl.nil, X1, fun j e => absurd e isBlk_nil, fun j e => absurd e isBlk_nil⟩
    · refine ⟨?_, X1.trans (Ext_W X hb1), fun j e => ?_, fun j e => ?_⟩
      · unfold V
        refine Sl.mk (o := 0) (W_get hb2) (eS_enc' (by omega)) ?_ (by simp) (Nat.le_refl _)
        rw [List.drop_zero, uv_eq, List.toList_toArray, List.take_of_length_le (by simp)]
      · unfold V at e
        rw [isBlk_some.1 e]
        have := X1.len'
        show h.length ≤ b
        omega
      · unfold V at e
        rw [isBlk_some.1 e]
        exact ⟨_, W_get hb2⟩
  obtain ⟨S2, X2, N2, K2⟩ := C2
  clear H2
  obtain ⟨ad, c, rfl, hc⟩ := Sl_len S2
  simp (disch := first | omega | assumption | exact isC_last | exact isC_app (by first | assumption | exact isC_last | exact isC_app (by first | assumption | exact isC_last)) | (simp [oneC]; done) | fail) only [evs0, evs1, evs2, evs3, evs4, evs5, evs6, evs7, evs8, if_true, if_false, ↓reduceIte, Nat.reduceEqDiff, Nat.reduceAdd, Nat.reduceMul, Nat.reduceSub, Nat.reduceLeDiff, Int.reduceLT, Int.reduceLE, Int.reduceEq, Bool.false_eq_true, Option.bind_some, Option.map_some, List.set_cons_zero, List.set_cons_succ, List.toList_toArray, List.size_toArray, List.length_cons, List.length_nil, List.getElem?_toArray, List.getElem?_cons_zero, List.getElem?_cons_succ, List.drop_zero, List.take_succ_cons, List.take_zero]
  obtain ⟨g, hg⟩ : ∃ g : H, h2 ++ [Ob.cells true (enc 0 22) [Value.slice ad s.length c]] = g := ⟨_, rfl⟩
  have X3 : Ext h2 g := by rw [← hg]; exact Ext.app _ _
  have gl : g.length = h2.length + 1 := by rw [← hg]; simp
  have g0 : g[h2.length]? = some (.cells true (enc 0 22) [.slice ad s.length c]) := by rw [← hg]; exact get_last
  rw [hg]
  refine (seek_ok (a := 0) (S2.ext X3) hSt.up (by omega) (by omega)).mono ?_
  rintro _ h5 ⟨⟨a, rfl, hF⟩, X5⟩
  simp (disch := first | omega | assumption | exact isC_last | exact isC_app (by first | assumption | exact isC_last | exact isC_app (by first | assumption | exact isC_last)) | (simp [oneC]; done) | fail) only [evs0, evs1, evs2, evs3, evs4, evs5, evs6, evs7, evs8, if_true, if_false, ↓reduceIte, Nat.reduceEqDiff, Nat.reduceAdd, Nat.reduceMul, Nat.reduceSub, Nat.reduceLeDiff, Int.reduceLT, Int.reduceLE, Int.reduceEq, Bool.false_eq_true, Option.bind_some, Option.map_some, List.set_cons_zero, List.set_cons_succ, List.toList_toArray, List.size_toArray, List.length_cons, List.length_nil, List.getElem?_toArray, List.getElem?_cons_zero, List.getElem?_cons_succ, List.drop_zero, List.take_succ_cons, List.take_zero]
  rw [← hHP]
  have Xa : Ext h2 (h5 ++ [Ob.cells true (enc 0 3) [Value.int .i64 a]]) := (X3.trans X5).trans (Ext.app _ _)
  have l2 := X2.len'
  have l5 := X5.len'
  refine ⟨h2.length, h5.length, .slice ad s.length c, s, a, ⟨rfl, get_app (X5 _ _ g0), get_last, S2.ext Xa, by omega, by omega, N2, fun j e => by obtain ⟨ob, e1⟩ := K2 j e; exact ⟨ob, Xa _ _ e1⟩⟩, hSt, hF, hsl, X2.trans Xa⟩
theorem slice_blk {ad : Option Addr} {n c a : Nat} {w : Value} (e : aSlice Try.prog 22 (.slice ad n c) (some (.int .i64 a)) none none h = some w) : ∀ j, isBlk w j → isBlk (.slice ad n c) j := by
  intro j hj
  simp only [aSlice, un_22, sz_23, Option.bind_some, bnd, Option.bind_eq_some_iff] at e
  obtain ⟨m, hm, e⟩ := e
  split at e
  · cases ad with
    | none => cases e; exact absurd hj isBlk_nil
    | some ad =>
      have key : ∀ (a1 a2 : Addr) (n1 c1 : Nat), a1.block = a2.block → isBlk (.slice (some a1) n1 c1) j → isBlk (.slice (some a2) n c) j := by
        intro a1 a2 n1 c1 e1 h1
        refine isBlk_some.2 ?_
        rw [← e1]
        exact isBlk_some.1 h1
      simp only at e
      split at e
      · cases e; exact key _ ad _ _ (by rfl) hj
      · split at e
        · cases e; exact key _ ad _ _ (by rfl) hj
        · split at e
          · cases e; exact key _ ad _ _ (by rfl) hj
          · cases e
  · cases e
set_option maxRecDepth 20000 in
/-- gone through: J holds ahead of each number, Q where it is over -/
theorem Go_ok {B o q L a : Nat} {r vs : Value} {s : List Int} {J : Nat → H → Prop} {Q : H → Prop} (I : It B h r o q vs s a) (ha : a ≤ s.length) (hs : s.length < 2 ^ 60) (h0 : J a h) (hR : ∀ j hh, J j hh → ∀ b ob, isBlk vs b → h[b]? = some ob → hh[b]? = some ob)
    (hst : ∀ j hh, a ≤ j → j < s.length → J j hh → Cn Try.prog n0 (.yield L) [.int .u64 (s.getD j 0)] hh (fun v h' => (v = .bool true ∧ J (j + 1) h') ∨ (v = .bool false ∧ Q h'))) (hend : ∀ hh, J s.length hh → Q hh) :
    Cn Try.prog n0 (.func 45) [.func (.yield L) #[] #[], .pointer (some ⟨o, 0, none⟩), .pointer (some ⟨q, 0, none⟩)] h (fun _ h' => Q h') := by
  refine F45.enter ?_
  obtain ⟨HP, hHP⟩ : ∃ HP : Value → H → Prop, (fun (_ : Value) h' => Q h') = HP := ⟨_, rfl⟩
  rw [hHP, F45.e0]
  obtain ⟨ad, c, rfl, hc⟩ := Sl_len I.sl
  simp (disch := first | omega | assumption | exact isC_last | exact isC_app (by first | assumption | exact isC_last | exact isC_app (by first | assumption | exact isC_last)) | (simp [oneC]; done) | fail) only [F45.t0, rd_cells I.ho, rd_cells I.hq, evs0, evs1, evs2, evs3, evs4, evs5, evs6, evs7, evs8, if_true, if_false, ↓reduceIte, Nat.reduceEqDiff, Nat.reduceAdd, Nat.reduceMul, Nat.reduceSub, Nat.reduceLeDiff, Int.reduceLT, Int.reduceLE, Int.reduceEq, Bool.false_eq_true, Option.bind_some, Option.map_some, List.set_cons_zero, List.set_cons_succ, List.toList_toArray, List.size_toArray, List.length_cons, List.length_nil, List.getElem?_toArray, List.getElem?_cons_zero, List.getElem?_cons_succ, List.drop_zero, List.take_succ_cons, List.take_zero]
  have hsub := Bnd_sub1 (T := 22) (E := 23) (K := fun w => Sl h 1 w ((s.drop a).map u)) (lo := some (a : Int)) (hi := none) (kk := .i64) (kk' := .i64) I.sl un_22 sz_23 (by simp) (by simp; omega) (by simp) (fun w Sw => by
    simp only [Option.getD_some, Option.getD_none, List.length_map, Int.toNat_natCast] at Sw
    rw [List.take_of_length_le (by simp), ← List.map_drop] at Sw
    exact Sw)
  obtain ⟨w, ew, Sw⟩ := Bnd_iff.1 hsub
  refine Bnd_i ew ?_
  have hblk := slice_blk ew
  refine Bnd2_i (len_sl Sw) ?_
  rw [List.length_drop]
  refine Lp_ind (fun m fr hh => ∃ j : Nat, fr = [(0, .func (.yield L) #[] #[]), (8, w), (9, .int .i64 (s.length - a : Nat)), (10, .int .i64 j)] ∧ a + j ≤ s.length ∧ J (a + j) hh ∧ m = s.length - a - j) (F45.m1 n0) (s.length - a)
    ⟨0, by simp (disch := first | omega | assumption | exact isC_last | exact isC_app (by first | assumption | exact isC_last | exact isC_app (by first | assumption | exact isC_last)) | (simp [oneC]; done) | fail) only [evs0, evs1, evs2, evs3, evs4, evs5, evs6, evs7, evs8, if_true, if_false, ↓reduceIte, Nat.reduceEqDiff, Nat.reduceAdd, Nat.reduceMul, Nat.reduceSub, Nat.reduceLeDiff, Int.reduceLT, Int.reduceLE, Int.reduceEq, Bool.false_eq_true, Option.bind_some, Option.map_some, List.set_cons_zero, List.set_cons_succ, List.toList_toArray, List.size_toArray, List.length_cons, List.length_nil, List.getElem?_toArray, List.getElem?_cons_zero, List.getElem?_cons_succ, List.drop_zero, List.take_succ_cons, List.take_zero]; rfl, by omega, h0, rfl⟩ ?_
  rintro m fr hh ⟨j, rfl, hj, hJ, rfl⟩
  rw [F45.e1]
  simp (disch := first | omega | assumption | exact isC_last | exact isC_app (by first | assumption | exact isC_last | exact isC_app (by first | assumption | exact isC_last)) | (simp [oneC]; done) | fail) only [F45.t1, evs0, evs1, evs2, evs3, evs4, evs5, evs6, evs7, evs8, if_true, if_false, ↓reduceIte, Nat.reduceEqDiff, Nat.reduceAdd, Nat.reduceMul, Nat.reduceSub, Nat.reduceLeDiff, Int.reduceLT, Int.reduceLE, Int.reduceEq, Bool.false_eq_true, Option.bind_some, Option.map_some, List.set_cons_zero, List.set_cons_succ, List.toList_toArray, List.size_toArray, List.length_cons, List.length_nil, List.getElem?_toArray, List.getElem?_cons_zero, List.getElem?_cons_succ, List.drop_zero, List.take_succ_cons, List.take_zero]
  by_cases h5 : j < s.length - a
  · rw [if_pos (by omega), F45.e2]
    unfold F45.t2
    have Sh : Sl hh 1 w ((s.drop a).map u) := Sw.keep fun b ob hb e => hR _ _ hJ b ob (hblk b hb) e
    refine rdU Sh (by omega) (by rw [List.length_drop]; omega) fun p => ?_
    rw [Int.toNat_natCast]
    have e : (s.drop a).getD j 0 = s.getD (a + j) 0 := by
      rw [List.getD_eq_getElem?_getD, List.getElem?_drop, List.getD_eq_getElem?_getD]
    rw [e, callV]
    refine (hst (a + j) hh (by omega) (by omega) hJ).mono ?_
    rintro v h' (⟨rfl, hJ'⟩ | ⟨rfl, hQ⟩)
    · simp (disch := first | omega | assumption | exact isC_last | exact isC_app (by first | assumption | exact isC_last | exact isC_app (by first | assumption | exact isC_last)) | (simp [oneC]; done) | fail) only [Bool.not_true, evs0, evs1, evs2, evs3, evs4, evs5, evs6, evs7, evs8, if_true, if_false, ↓reduceIte, Nat.reduceEqDiff, Nat.reduceAdd, Nat.reduceMul, Nat.reduceSub, Nat.reduceLeDiff, Int.reduceLT, Int.reduceLE, Int.reduceEq, Bool.false_eq_true, Option.bind_some, Option.map_some, List.set_cons_zero, List.set_cons_succ, List.toList_toArray, List.size_toArray, List.length_cons, List.length_nil, List.getElem?_toArray, List.getElem?_cons_zero, List.getElem?_cons_succ, List.drop_zero, List.take_succ_cons, List.take_zero]
      rw [F45.e3]
      simp (disch := first | omega | assumption | exact isC_last | exact isC_app (by first | assumption | exact isC_last | exact isC_app (by first | assumption | exact isC_last)) | (simp [oneC]; done) | fail) only [F45.t3, evs0, evs1, evs2, evs3, evs4, evs5, evs6, evs7, evs8, if_true, if_false, ↓reduceIte, Nat.reduceEqDiff, Nat.reduceAdd, Nat.reduceMul, Nat.reduceSub, Nat.reduceLeDiff, Int.reduceLT, Int.reduceLE, Int.reduceEq, Bool.false_eq_true, Option.bind_some, Option.map_some, List.set_cons_zero, List.set_cons_succ, List.toList_toArray, List.size_toArray, List.length_cons, List.length_nil, List.getElem?_toArray, List.getElem?_cons_zero, List.getElem?_cons_succ, List.drop_zero, List.take_succ_cons, List.take_zero]
      rw [show IntKind.i64.wrap ((j : Int) + 1) = ((j + 1 : Nat) : Int) by rw [IntWalk.i64_in _ (by omega)]; omega]
      exact ⟨by trivial, s.length - a - (j + 1), by omega, j + 1, rfl, by omega, hJ', rfl⟩
    · simp (disch := first | omega | assumption | exact isC_last | exact isC_app (by first | assumption | exact isC_last | exact isC_app (by first | assumption | exact isC_last)) | (simp [oneC]; done) | fail) only [Bool.not_false, evs0, evs1, evs2, evs3, evs4, evs5, evs6, evs7, evs8, if_true, if_false, ↓reduceIte, Nat.reduceEqDiff, Nat.reduceAdd, Nat.reduceMul, Nat.reduceSub, Nat.reduceLeDiff, Int.reduceLT, Int.reduceLE, Int.reduceEq, Bool.false_eq_true, Option.bind_some, Option.map_some, List.set_cons_zero, List.set_cons_succ, List.toList_toArray, List.size_toArray, List.length_cons, List.length_nil, List.getElem?_toArray, List.getElem?_cons_zero, List.getElem?_cons_succ, List.drop_zero, List.take_succ_cons, List.take_zero]
      rw [← hHP]
      exact hQ
  · rw [if_neg (by omega)]
    rw [← hHP]
    refine hend hh ?_
    rw [show s.length = a + j by omega]
    exact hJ
end Go.Proofs.Ytjdcdabbbmhffaa
