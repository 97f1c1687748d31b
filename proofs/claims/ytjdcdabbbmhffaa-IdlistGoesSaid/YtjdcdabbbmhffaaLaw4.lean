/- IdlistGoes. No condition but the size that every statement has. -/
import Derived.Test.YtjdcdabbbmhffaaThru
import Derived.Test.YtjdcdabbbmhffaaRoom
import Derived.Test.YtjdcdabbbmhffaaReads
import Derived.Test.YtjdcdabbbmhffaaF4
set_option linter.unusedVariables false
set_option linter.unusedSimpArgs false
namespace Go.Proofs.Ytjdcdabbbmhffaa
open Go.Ev Idl
variable {n0 : Nat} {h : H}
theorem ixRv {b i : Nat} {l : List Int} (hi : i < l.length) : aIndexAddr Try.prog 22 (rv b l) (.int .i64 i) = some (.pointer (some ⟨b, i, none⟩)) := by
  unfold rv
  simp only [aIndexAddr, un_22, sz_23, Option.map_some]
  rw [if_pos ⟨by omega, by omega⟩]; simp
theorem len_rv {b : Nat} {l : List Int} : aBuiltin Try.prog .len #[22] [rv b l] h = some (.int .i64 l.length, h) := len_22
theorem upTo {v : Value} {l : List Int} {i : Nat} {K : Value → Prop} (S : Sl h 1 v (l.map u)) (hi : i ≤ l.length) (k : ∀ w, Sl h 1 w ((l.take i).map u) → K w) :
    Bnd (aSlice Try.prog 22 v none (some (.int .i64 i)) none h) K :=
  Bnd_sub1 (T := 22) (E := 23) (lo := none) (hi := some (i : Int)) (kk := .i64) (kk' := .i64) S un_22 sz_23 (by simp) (by simp) (by simp; omega) fun w Sw => by
    refine k w ?_
    simp only [Option.getD_some, Option.getD_none, List.length_map, Int.toNat_natCast] at Sw
    rw [List.map_take]
    simpa using Sw
/-- the rounds of the law's own: Ext from the heap ahead of its counter on -/
structure GJ (g : H) (fr : Fr) (d L k : Nat) (hh : H) : Prop where
  ext : Ext g hh
  df : hh[d]? = some .dfr
  kc : hh[g.length]? = some (.cells true (enc 0 3) [.int .i64 k])
  lp : hh[L]? = some (Ob.loop fr 102 #[68] F4.rAs0 F4.rBd0 .ready none d)
set_option maxRecDepth 20000 in
theorem Goes_end {B o q a : Nat} {r vs want : Value} {s : List Int} {A E w10 n11 nn : Nat} (I : It B h r o q vs s a) (ha : a ≤ s.length) (hs : s.length < 17592186044416)
    (cA : h[A]? = some (.cells true (enc 0 4) [.bool false])) (cE : h[E]? = some (.cells true (enc 0 31) [r])) (cW : h[w10]? = some (.cells true (enc 0 22) [want])) (cN : h[n11]? = some (.cells true (enc 0 3) [.int .i64 nn]))
    (Sw : Sl h 1 want ((s.drop a).map u)) {HP : Value → H → Prop} (hq : ∀ h', HP (.bool true) h') :
    F4.p8 n0 [(6, .pointer (some ⟨A, 0, none⟩)), (8, .pointer (some ⟨E, 0, none⟩)), (10, .pointer (some ⟨w10, 0, none⟩)), (11, .pointer (some ⟨n11, 0, none⟩))] [] h (KFin Try.prog [.cell 6 4] HP) := by
  obtain ⟨wa, wc, hw, _⟩ := Sl_len Sw
  have lA := lt_of_some cA
  have lE := lt_of_some cE
  have lW := lt_of_some cW
  have lN := lt_of_some cN
  have dl : (s.drop a).length = s.length - a := List.length_drop
  rw [F4.e8]
  simp (disch := first | omega | assumption | exact isC_last | exact isC_app (by first | assumption | exact isC_last | exact isC_app (by first | assumption | exact isC_last)) | (simp [oneC]; done) | fail) only [F4.t8, evs0, evs1, evs2, evs3, evs4, evs5, evs6, evs7, evs8, if_true, if_false, ↓reduceIte, Nat.reduceEqDiff, Nat.reduceAdd, Nat.reduceMul, Nat.reduceSub, Nat.reduceLeDiff, Int.reduceLT, Int.reduceLE, Int.reduceEq, Bool.false_eq_true, Option.bind_some, Option.map_some, List.set_cons_zero, List.set_cons_succ, List.toList_toArray, List.size_toArray, List.length_cons, List.length_nil, List.getElem?_toArray, List.getElem?_cons_zero, List.getElem?_cons_succ, List.drop_zero, List.take_succ_cons, List.take_zero]
  obtain ⟨g, hg⟩ : ∃ g : H, h ++ [Ob.cells true (enc 0 3) [Value.int IntKind.i64 0]] = g := ⟨_, rfl⟩
  have X0 : Ext h g := by rw [← hg]; exact Ext.app _ _
  have gk : g[h.length]? = some (.cells true (enc 0 3) [.int .i64 0]) := by rw [← hg]; exact get_last
  have gl : g.length = h.length + 1 := by rw [← hg]; simp
  simp only [hg]
  have cE1 := X0 _ _ cE
  have er : rd g E 0 = some r := rd_cells cE1
  have I1 := I.ext X0
  obtain ⟨rr, hrr⟩ : ∃ rr, r = rr := ⟨_, rfl⟩
  simp (disch := first | omega | assumption | exact isC_last | exact isC_app (by first | assumption | exact isC_last | exact isC_app (by first | assumption | exact isC_last)) | (simp [oneC]; done) | fail) only [er, evs0, evs1, evs2, evs3, evs4, evs5, evs6, evs7, evs8, if_true, if_false, ↓reduceIte, Nat.reduceEqDiff, Nat.reduceAdd, Nat.reduceMul, Nat.reduceSub, Nat.reduceLeDiff, Int.reduceLT, Int.reduceLE, Int.reduceEq, Bool.false_eq_true, Option.bind_some, Option.map_some, List.set_cons_zero, List.set_cons_succ, List.toList_toArray, List.size_toArray, List.length_cons, List.length_nil, List.getElem?_toArray, List.getElem?_cons_zero, List.getElem?_cons_succ, List.drop_zero, List.take_succ_cons, List.take_zero]
  rw [I.form]
  unfold wRange
  refine ⟨by kernel_rfl, ?_⟩
  refine Bnd_i (a := (g.length, [g.length], g ++ [.dfr])) rfl ?_
  simp only
  rw [← I.form]
  obtain ⟨fr, hfr⟩ : ∃ fr : Fr, [(6, .pointer (some ⟨A, 0, none⟩)), (8, .pointer (some ⟨E, 0, none⟩)), (10, .pointer (some ⟨w10, 0, none⟩)), (11, .pointer (some ⟨n11, 0, none⟩)), (14, .pointer (some ⟨h.length, 0, none⟩)), (67, r)] = fr := ⟨_, rfl⟩
  rw [hfr]
  show Cn Try.prog n0 (Fn.func 45) [.func (.yield (g ++ [Ob.dfr]).length) #[] #[], .pointer (some ⟨o, 0, none⟩), .pointer (some ⟨q, 0, none⟩)] (g ++ [Ob.dfr] ++ [Ob.loop fr 102 #[68] F4.rAs0 F4.rBd0 .ready none g.length]) _
  obtain ⟨d, hd⟩ : ∃ d, g.length = d := ⟨_, rfl⟩
  obtain ⟨L, hL⟩ : ∃ L, (g ++ [Ob.dfr]).length = L := ⟨_, rfl⟩
  have hLd : L = d + 1 := by rw [← hL, ← hd]; simp
  have X4 : Ext g (g ++ [Ob.dfr] ++ [Ob.loop fr 102 #[68] F4.rAs0 F4.rBd0 .ready none d]) := fun j ob e => get_app (get_app e)
  have q3 : (g ++ [Ob.dfr] ++ [Ob.loop fr 102 #[68] F4.rAs0 F4.rBd0 .ready none d])[L]? = some (Ob.loop fr 102 #[68] F4.rAs0 F4.rBd0 .ready none d) := by rw [← hL]; exact get_last
  have q4 : (g ++ [Ob.dfr] ++ [Ob.loop fr 102 #[68] F4.rAs0 F4.rBd0 .ready none d])[d]? = some .dfr := by rw [← hd]; exact get_app get_last
  rw [hL, hd]
  generalize g ++ [Ob.dfr] ++ [Ob.loop fr 102 #[68] F4.rAs0 F4.rBd0 .ready none d] = h4 at X4 q3 q4 ⊢
  have I4 := I1.ext X4
  have tk : ∀ (g : H) , g[d]? = some .dfr → takeD [d] g = some (g.set d .dead) := by intro g e; unfold takeD; rw [e]; rfl
  refine (Go_ok (Q := fun (hh : H) => GJ h fr d L (s.length - a) hh) (J := fun j (hh : H) => a ≤ j ∧ GJ h fr d L (j - a) hh) (L := L) I4 ha (by omega)
    ⟨Nat.le_refl _, fun j ob e => X4 _ _ (X0 _ _ e), q4, by rw [Nat.sub_self]; exact X4 _ _ gk, q3⟩ ?_ ?_ (fun hh J => J.2)).mono ?_
  · rintro j hh ⟨_, J⟩ b ob hb e
    obtain ⟨ob2, e2⟩ := I.bk b hb
    rw [X4 _ _ (X0 _ _ e2)] at e
    rw [← e]
    exact J.ext _ _ e2
  · rintro j hh haj hjs ⟨_, J⟩
    have lp := J.lp
    have hlo : loopOf hh L = some (fr, 102, #[68], F4.aAs0.erase, F4.aBd0.erase, .ready, none, d) := by
      unfold loopOf
      rw [lp, show F4.aAs0.erase = F4.rAs0 from (ann_erase _ _).1, show F4.aBd0.erase = F4.rBd0 from (ann_erase _ _).1]
    obtain ⟨HQ, hHQ⟩ : ∃ HQ : Value → H → Prop, HQ = (fun (v : Value) (h' : H) => (v = .bool true ∧ a ≤ j + 1 ∧ GJ h fr d L (j + 1 - a) h') ∨ (v = .bool false ∧ GJ h fr d L (s.length - a) h')) := ⟨_, rfl⟩
    rw [← hHQ]
    refine Cn_yield follows hlo F4.k10 F4.k11 (L := [6, 8, 10, 11, 14, 15]) (fr1 := [(6, .pointer (some ⟨A, 0, none⟩)), (8, .pointer (some ⟨E, 0, none⟩)), (10, .pointer (some ⟨w10, 0, none⟩)), (11, .pointer (some ⟨n11, 0, none⟩)), (14, .pointer (some ⟨h.length, 0, none⟩)), (67, r), (68, .int .u64 (s.getD j 0))]) (by rw [← hfr]; rfl) ?_
    have e2 := F4.d10 (n0 := n0) L
    unfold F4.c10 at e2
    rw [← e2, F4.e10]
    simp (disch := first | omega | assumption | exact isC_last | exact isC_app (by first | assumption | exact isC_last | exact isC_app (by first | assumption | exact isC_last)) | (simp [oneC]; done) | fail) only [F4.t10, kas_n, evs0, evs1, evs2, evs3, evs4, evs5, evs6, evs7, evs8, if_true, if_false, ↓reduceIte, Nat.reduceEqDiff, Nat.reduceAdd, Nat.reduceMul, Nat.reduceSub, Nat.reduceLeDiff, Int.reduceLT, Int.reduceLE, Int.reduceEq, Bool.false_eq_true, Option.bind_some, Option.map_some, List.set_cons_zero, List.set_cons_succ, List.toList_toArray, List.size_toArray, List.length_cons, List.length_nil, List.getElem?_toArray, List.getElem?_cons_zero, List.getElem?_cons_succ, List.drop_zero, List.take_succ_cons, List.take_zero]
    refine Bnd_i (a := hh.set L (Ob.loop fr 102 #[68] F4.rAs0 F4.rBd0 .busy none d)) (by unfold begK loopOf; rw [lp]) ?_
    have P5 : ∀ j ob, j ≠ L → hh[j]? = some ob → (hh.set L (Ob.loop fr 102 #[68] F4.rAs0 F4.rBd0 .busy none d))[j]? = some ob := fun j ob h1 h2 => set_ne h2 h1
    have L5 := set_same (x := Ob.loop fr 102 #[68] F4.rAs0 F4.rBd0 .busy none d) lp
    generalize hh.set L (Ob.loop fr 102 #[68] F4.rAs0 F4.rBd0 .busy none d) = h5 at P5 L5 ⊢
    have e3 := F4.d11 (n0 := n0) L
    unfold F4.c11 at e3
    rw [← e3, F4.e11]
    have X5 : Ext h h5 := fun b ob e => P5 _ _ (by have := lt_of_some e; omega) (J.ext _ _ e)
    have kc5 := P5 _ _ (by omega) J.kc
    have df5 := P5 _ _ (by omega) J.df
    have rw5 : rd h5 w10 0 = some want := rd_cells (X5 _ _ cW)
    have rk5 : rd h5 h.length 0 = some (.int .i64 ((j - a : Nat) : Int)) := rd_cells kc5
    have rn5 : rd h5 n11 0 = some (.int .i64 nn) := rd_cells (X5 _ _ cN)
    have re5 : rd h5 E 0 = some r := rd_cells (X5 _ _ cE)
    have S5 := Sw.ext X5
    have lst : ∀ h6 : H, Ext h h6 → h6[d]? = some .dfr → h6[h.length]? = some (.cells true (enc 0 3) [.int .i64 ((j - a : Nat) : Int)]) → h6[L]? = some (Ob.loop fr 102 #[68] F4.rAs0 F4.rBd0 .busy none d) →
        F4.p16 n0 L [(6, .pointer (some ⟨A, 0, none⟩)), (8, .pointer (some ⟨E, 0, none⟩)), (10, .pointer (some ⟨w10, 0, none⟩)), (11, .pointer (some ⟨n11, 0, none⟩)), (14, .pointer (some ⟨h.length, 0, none⟩))] [] h6 (KBlk [6, 8, 10, 11, 14] 3 (fun e x x_1 h => match e with
          | Ex.normal => Bnd (endK L h none) fun r => HQ r.fst r.snd
          | Ex.ret => Bnd (endK L h (some Code.ret)) fun r => HQ r.fst r.snd
          | Ex.exit id => Bnd (endK L h (some (Code.exit id))) fun r => HQ r.fst r.snd)) := by
      intro h6 X6 df6 kc6 L6
      rw [F4.e16]
      simp (disch := first | omega | assumption | exact isC_last | exact isC_app (by first | assumption | exact isC_last | exact isC_app (by first | assumption | exact isC_last)) | (simp [oneC]; done) | fail) only [F4.t16, rd_cells kc6, evs0, evs1, evs2, evs3, evs4, evs5, evs6, evs7, evs8, if_true, if_false, ↓reduceIte, Nat.reduceEqDiff, Nat.reduceAdd, Nat.reduceMul, Nat.reduceSub, Nat.reduceLeDiff, Int.reduceLT, Int.reduceLE, Int.reduceEq, Bool.false_eq_true, Option.bind_some, Option.map_some, List.set_cons_zero, List.set_cons_succ, List.toList_toArray, List.size_toArray, List.length_cons, List.length_nil, List.getElem?_toArray, List.getElem?_cons_zero, List.getElem?_cons_succ, List.drop_zero, List.take_succ_cons, List.take_zero]
      refine Bnd_i (wr_cells kc6 (by simp) rfl) ?_
      rw [over_one (by simp), List.set_cons_zero, show IntKind.i64.wrap (((j - a : Nat) : Int) + 1) = ((j + 1 - a : Nat) : Int) by rw [IntWalk.i64_in _ (by omega)]; omega]
      refine Bnd_i (a := (.bool true, (h6.set h.length (.cells true (enc 0 3) [.int .i64 ((j + 1 - a : Nat) : Int)])).set L (Ob.loop fr 102 #[68] F4.rAs0 F4.rBd0 .ready none d))) (by unfold endK loopOf; rw [set_ne L6 (by omega)]; rfl) ?_
      rw [hHQ]
      refine .inl ⟨rfl, by omega, fun b ob e => ?_, set_ne (set_ne df6 (by omega)) (by omega), set_ne (set_same kc6) (by omega), set_same (set_ne L6 (by omega))⟩
      have := lt_of_some e
      exact set_ne (set_ne (X6 _ _ e) (by omega)) (by omega)
    unfold F4.t11
    refine Bnd_i (a := .int .i64 ((j - a : Nat) : Int)) (by simp (disch := first | omega | assumption | exact isC_last | exact isC_app (by first | assumption | exact isC_last | exact isC_app (by first | assumption | exact isC_last)) | (simp [oneC]; done) | fail) only [rk5, evs0, evs1, evs2, evs3, evs4, evs5, evs6, evs7, evs8, if_true, if_false, ↓reduceIte, Nat.reduceEqDiff, Nat.reduceAdd, Nat.reduceMul, Nat.reduceSub, Nat.reduceLeDiff, Int.reduceLT, Int.reduceLE, Int.reduceEq, Bool.false_eq_true, Option.bind_some, Option.map_some, List.set_cons_zero, List.set_cons_succ, List.toList_toArray, List.size_toArray, List.length_cons, List.length_nil, List.getElem?_toArray, List.getElem?_cons_zero, List.getElem?_cons_succ, List.drop_zero, List.take_succ_cons, List.take_zero]) ?_
    refine Bnd_i (a := want) (by simp (disch := first | omega | assumption | exact isC_last | exact isC_app (by first | assumption | exact isC_last | exact isC_app (by first | assumption | exact isC_last)) | (simp [oneC]; done) | fail) only [rw5, evs0, evs1, evs2, evs3, evs4, evs5, evs6, evs7, evs8, if_true, if_false, ↓reduceIte, Nat.reduceEqDiff, Nat.reduceAdd, Nat.reduceMul, Nat.reduceSub, Nat.reduceLeDiff, Int.reduceLT, Int.reduceLE, Int.reduceEq, Bool.false_eq_true, Option.bind_some, Option.map_some, List.set_cons_zero, List.set_cons_succ, List.toList_toArray, List.size_toArray, List.length_cons, List.length_nil, List.getElem?_toArray, List.getElem?_cons_zero, List.getElem?_cons_succ, List.drop_zero, List.take_succ_cons, List.take_zero]) ?_
    refine Bnd2_i (len_sl S5) ?_
    refine Bnd_i bGeq ?_
    rw [decide_eq_false (by rw [dl]; omega), Gd_false]
    refine Bnd_i (a := want) (by simp (disch := first | omega | assumption | exact isC_last | exact isC_app (by first | assumption | exact isC_last | exact isC_app (by first | assumption | exact isC_last)) | (simp [oneC]; done) | fail) only [rw5, evs0, evs1, evs2, evs3, evs4, evs5, evs6, evs7, evs8, if_true, if_false, ↓reduceIte, Nat.reduceEqDiff, Nat.reduceAdd, Nat.reduceMul, Nat.reduceSub, Nat.reduceLeDiff, Int.reduceLT, Int.reduceLE, Int.reduceEq, Bool.false_eq_true, Option.bind_some, Option.map_some, List.set_cons_zero, List.set_cons_succ, List.toList_toArray, List.size_toArray, List.length_cons, List.length_nil, List.getElem?_toArray, List.getElem?_cons_zero, List.getElem?_cons_succ, List.drop_zero, List.take_succ_cons, List.take_zero]) ?_
    refine Bnd_i (a := .int .i64 ((j - a : Nat) : Int)) (by simp (disch := first | omega | assumption | exact isC_last | exact isC_app (by first | assumption | exact isC_last | exact isC_app (by first | assumption | exact isC_last)) | (simp [oneC]; done) | fail) only [rk5, evs0, evs1, evs2, evs3, evs4, evs5, evs6, evs7, evs8, if_true, if_false, ↓reduceIte, Nat.reduceEqDiff, Nat.reduceAdd, Nat.reduceMul, Nat.reduceSub, Nat.reduceLeDiff, Int.reduceLT, Int.reduceLE, Int.reduceEq, Bool.false_eq_true, Option.bind_some, Option.map_some, List.set_cons_zero, List.set_cons_succ, List.toList_toArray, List.size_toArray, List.length_cons, List.length_nil, List.getElem?_toArray, List.getElem?_cons_zero, List.getElem?_cons_succ, List.drop_zero, List.take_succ_cons, List.take_zero]) ?_
    refine rdU S5 (by omega) (by rw [dl]; omega) fun p => ?_
    rw [Int.toNat_natCast]
    have eg : (s.drop a).getD (j - a) 0 = s.getD j 0 := by
      rw [List.getD_eq_getElem?_getD, List.getElem?_drop, List.getD_eq_getElem?_getD, show a + (j - a) = j by omega]
    rw [eg]
    refine Bnd_i bNeq ?_
    rw [decide_eq_true rfl, Bool.not_true, Cnd_false, F4.e13]
    unfold F4.t13
    refine Bnd_i (a := .int .i64 ((j - a : Nat) : Int)) (by simp (disch := first | omega | assumption | exact isC_last | exact isC_app (by first | assumption | exact isC_last | exact isC_app (by first | assumption | exact isC_last)) | (simp [oneC]; done) | fail) only [rk5, evs0, evs1, evs2, evs3, evs4, evs5, evs6, evs7, evs8, if_true, if_false, ↓reduceIte, Nat.reduceEqDiff, Nat.reduceAdd, Nat.reduceMul, Nat.reduceSub, Nat.reduceLeDiff, Int.reduceLT, Int.reduceLE, Int.reduceEq, Bool.false_eq_true, Option.bind_some, Option.map_some, List.set_cons_zero, List.set_cons_succ, List.toList_toArray, List.size_toArray, List.length_cons, List.length_nil, List.getElem?_toArray, List.getElem?_cons_zero, List.getElem?_cons_succ, List.drop_zero, List.take_succ_cons, List.take_zero]) ?_
    refine Bnd_i (a := .int .i64 nn) (by simp (disch := first | omega | assumption | exact isC_last | exact isC_app (by first | assumption | exact isC_last | exact isC_app (by first | assumption | exact isC_last)) | (simp [oneC]; done) | fail) only [rn5, evs0, evs1, evs2, evs3, evs4, evs5, evs6, evs7, evs8, if_true, if_false, ↓reduceIte, Nat.reduceEqDiff, Nat.reduceAdd, Nat.reduceMul, Nat.reduceSub, Nat.reduceLeDiff, Int.reduceLT, Int.reduceLE, Int.reduceEq, Bool.false_eq_true, Option.bind_some, Option.map_some, List.set_cons_zero, List.set_cons_succ, List.toList_toArray, List.size_toArray, List.length_cons, List.length_nil, List.getElem?_toArray, List.getElem?_cons_zero, List.getElem?_cons_succ, List.drop_zero, List.take_succ_cons, List.take_zero]) ?_
    refine Bnd_i bEql ?_
    by_cases hkn : ((j - a : Nat) : Int) = nn
    · rw [decide_eq_true hkn, Cnd_true, F4.e14]
      unfold F4.t14
      refine Bnd_i (a := r) (by simp (disch := first | omega | assumption | exact isC_last | exact isC_app (by first | assumption | exact isC_last | exact isC_app (by first | assumption | exact isC_last)) | (simp [oneC]; done) | fail) only [re5, evs0, evs1, evs2, evs3, evs4, evs5, evs6, evs7, evs8, if_true, if_false, ↓reduceIte, Nat.reduceEqDiff, Nat.reduceAdd, Nat.reduceMul, Nat.reduceSub, Nat.reduceLeDiff, Int.reduceLT, Int.reduceLE, Int.reduceEq, Bool.false_eq_true, Option.bind_some, Option.map_some, List.set_cons_zero, List.set_cons_succ, List.toList_toArray, List.size_toArray, List.length_cons, List.length_nil, List.getElem?_toArray, List.getElem?_cons_zero, List.getElem?_cons_succ, List.drop_zero, List.take_succ_cons, List.take_zero]) ?_
      refine Bnd_i (a := want) (by simp (disch := first | omega | assumption | exact isC_last | exact isC_app (by first | assumption | exact isC_last | exact isC_app (by first | assumption | exact isC_last)) | (simp [oneC]; done) | fail) only [rw5, evs0, evs1, evs2, evs3, evs4, evs5, evs6, evs7, evs8, if_true, if_false, ↓reduceIte, Nat.reduceEqDiff, Nat.reduceAdd, Nat.reduceMul, Nat.reduceSub, Nat.reduceLeDiff, Int.reduceLT, Int.reduceLE, Int.reduceEq, Bool.false_eq_true, Option.bind_some, Option.map_some, List.set_cons_zero, List.set_cons_succ, List.toList_toArray, List.size_toArray, List.length_cons, List.length_nil, List.getElem?_toArray, List.getElem?_cons_zero, List.getElem?_cons_succ, List.drop_zero, List.take_succ_cons, List.take_zero]) ?_
      refine Bnd2_i (len_sl S5) ?_
      refine Bnd_i bAdd ?_
      rw [dl, show IntKind.i64.wrap (((s.length - a : Nat) : Int) + 9) = ((s.length - a + 9 : Nat) : Int) by rw [IntWalk.i64_in _ (by omega)]; omega]
      refine (through_ok (I.ext X5) ha (by omega) (by omega)).mono ?_
      rintro inner h6 ⟨Si, X6⟩
      rw [List.take_of_length_le (by rw [dl]; omega)] at Si
      refine Bnd_i (a := want) (by simp (disch := first | omega | assumption | exact isC_last | exact isC_app (by first | assumption | exact isC_last | exact isC_app (by first | assumption | exact isC_last)) | (simp [oneC]; done) | fail) only [rd_cells (X6 _ _ (X5 _ _ cW)), evs0, evs1, evs2, evs3, evs4, evs5, evs6, evs7, evs8, if_true, if_false, ↓reduceIte, Nat.reduceEqDiff, Nat.reduceAdd, Nat.reduceMul, Nat.reduceSub, Nat.reduceLeDiff, Int.reduceLT, Int.reduceLE, Int.reduceEq, Bool.false_eq_true, Option.bind_some, Option.map_some, List.set_cons_zero, List.set_cons_succ, List.toList_toArray, List.size_toArray, List.length_cons, List.length_nil, List.getElem?_toArray, List.getElem?_cons_zero, List.getElem?_cons_succ, List.drop_zero, List.take_succ_cons, List.take_zero]) ?_
      refine (Same_ok Si (S5.ext X6) (by rw [dl]; omega)).mono ?_
      rintro _ hx ⟨rfl, ex⟩; subst hx
      rw [decide_eq_true rfl]
      simp (disch := first | omega | assumption | exact isC_last | exact isC_app (by first | assumption | exact isC_last | exact isC_app (by first | assumption | exact isC_last)) | (simp [oneC]; done) | fail) only [Bool.not_true, evs0, evs1, evs2, evs3, evs4, evs5, evs6, evs7, evs8, if_true, if_false, ↓reduceIte, Nat.reduceEqDiff, Nat.reduceAdd, Nat.reduceMul, Nat.reduceSub, Nat.reduceLeDiff, Int.reduceLT, Int.reduceLE, Int.reduceEq, Bool.false_eq_true, Option.bind_some, Option.map_some, List.set_cons_zero, List.set_cons_succ, List.toList_toArray, List.size_toArray, List.length_cons, List.length_nil, List.getElem?_toArray, List.getElem?_cons_zero, List.getElem?_cons_succ, List.drop_zero, List.take_succ_cons, List.take_zero]
      exact lst _ (X5.trans X6) (X6 _ _ df5) (X6 _ _ kc5) (X6 _ _ L5)
    · rw [decide_eq_false hkn, Cnd_false]
      exact lst _ X5 df5 kc5 L5
  · rintro _ hh J
    refine Bnd_i (a := (fr, 102, #[68], F4.rAs0, F4.rBd0, .ready, none, d)) (by unfold loopOf; rw [J.lp]) ⟨by simp, ?_⟩
    show KBlk [6, 10, 14] 2 (KSeq [6, 10, 14] (F4.p9 n0) (KFin Try.prog [.cell 6 4] HP)) .normal fr [d] (hh.set L .dead)
    rw [← hfr, kblk_n]
    have X7 : Ext h (hh.set L .dead) := fun b ob e => set_ne (J.ext _ _ e) (by have := lt_of_some e; omega)
    have kc7 := set_ne (x := Ob.dead) J.kc (show h.length ≠ L by omega)
    have df7 := set_ne (x := Ob.dead) J.df (show d ≠ L by omega)
    generalize hh.set L Ob.dead = h7 at X7 kc7 df7 ⊢
    simp (disch := first | omega | assumption | exact isC_last | exact isC_app (by first | assumption | exact isC_last | exact isC_app (by first | assumption | exact isC_last)) | (simp [oneC]; done) | fail) only [evs0, evs1, evs2, evs3, evs4, evs5, evs6, evs7, evs8, if_true, if_false, ↓reduceIte, Nat.reduceEqDiff, Nat.reduceAdd, Nat.reduceMul, Nat.reduceSub, Nat.reduceLeDiff, Int.reduceLT, Int.reduceLE, Int.reduceEq, Bool.false_eq_true, Option.bind_some, Option.map_some, List.set_cons_zero, List.set_cons_succ, List.toList_toArray, List.size_toArray, List.length_cons, List.length_nil, List.getElem?_toArray, List.getElem?_cons_zero, List.getElem?_cons_succ, List.drop_zero, List.take_succ_cons, List.take_zero]
    rw [F4.e9]
    unfold F4.t9
    refine Bnd_i (a := .int .i64 ((s.length - a : Nat) : Int)) (by simp (disch := first | omega | assumption | exact isC_last | exact isC_app (by first | assumption | exact isC_last | exact isC_app (by first | assumption | exact isC_last)) | (simp [oneC]; done) | fail) only [rd_cells kc7, evs0, evs1, evs2, evs3, evs4, evs5, evs6, evs7, evs8, if_true, if_false, ↓reduceIte, Nat.reduceEqDiff, Nat.reduceAdd, Nat.reduceMul, Nat.reduceSub, Nat.reduceLeDiff, Int.reduceLT, Int.reduceLE, Int.reduceEq, Bool.false_eq_true, Option.bind_some, Option.map_some, List.set_cons_zero, List.set_cons_succ, List.toList_toArray, List.size_toArray, List.length_cons, List.length_nil, List.getElem?_toArray, List.getElem?_cons_zero, List.getElem?_cons_succ, List.drop_zero, List.take_succ_cons, List.take_zero]) ?_
    refine Bnd_i (a := want) (by simp (disch := first | omega | assumption | exact isC_last | exact isC_app (by first | assumption | exact isC_last | exact isC_app (by first | assumption | exact isC_last)) | (simp [oneC]; done) | fail) only [rd_cells (X7 _ _ cW), evs0, evs1, evs2, evs3, evs4, evs5, evs6, evs7, evs8, if_true, if_false, ↓reduceIte, Nat.reduceEqDiff, Nat.reduceAdd, Nat.reduceMul, Nat.reduceSub, Nat.reduceLeDiff, Int.reduceLT, Int.reduceLE, Int.reduceEq, Bool.false_eq_true, Option.bind_some, Option.map_some, List.set_cons_zero, List.set_cons_succ, List.toList_toArray, List.size_toArray, List.length_cons, List.length_nil, List.getElem?_toArray, List.getElem?_cons_zero, List.getElem?_cons_succ, List.drop_zero, List.take_succ_cons, List.take_zero]) ?_
    refine Bnd2_i (len_sl (Sw.ext X7)) ?_
    refine Bnd_i bEql ?_
    rw [dl, decide_eq_true rfl, Gd_true]
    refine Wakes_ok.mono ?_
    rintro _ hx ⟨rfl, ex⟩; subst hx
    simp (disch := first | omega | assumption | exact isC_last | exact isC_app (by first | assumption | exact isC_last | exact isC_app (by first | assumption | exact isC_last)) | (simp [oneC]; done) | fail) only [evs0, evs1, evs2, evs3, evs4, evs5, evs6, evs7, evs8, if_true, if_false, ↓reduceIte, Nat.reduceEqDiff, Nat.reduceAdd, Nat.reduceMul, Nat.reduceSub, Nat.reduceLeDiff, Int.reduceLT, Int.reduceLE, Int.reduceEq, Bool.false_eq_true, Option.bind_some, Option.map_some, List.set_cons_zero, List.set_cons_succ, List.toList_toArray, List.size_toArray, List.length_cons, List.length_nil, List.getElem?_toArray, List.getElem?_cons_zero, List.getElem?_cons_succ, List.drop_zero, List.take_succ_cons, List.take_zero]
    have cA7 := X7 _ _ cA
    refine Bnd_i (wr_cells cA7 (by simp) rfl) ?_
    rw [over_one (by simp), List.set_cons_zero]
    refine Bnd_i (tk _ (set_ne df7 (by omega))) ?_
    simp (disch := first | omega | assumption | exact isC_last | exact isC_app (by first | assumption | exact isC_last | exact isC_app (by first | assumption | exact isC_last)) | (simp [oneC]; done) | fail) only [rd_cells (set_ne (set_same cA7) (show A ≠ d by omega)), evs0, evs1, evs2, evs3, evs4, evs5, evs6, evs7, evs8, if_true, if_false, ↓reduceIte, Nat.reduceEqDiff, Nat.reduceAdd, Nat.reduceMul, Nat.reduceSub, Nat.reduceLeDiff, Int.reduceLT, Int.reduceLE, Int.reduceEq, Bool.false_eq_true, Option.bind_some, Option.map_some, List.set_cons_zero, List.set_cons_succ, List.toList_toArray, List.size_toArray, List.length_cons, List.length_nil, List.getElem?_toArray, List.getElem?_cons_zero, List.getElem?_cons_succ, List.drop_zero, List.take_succ_cons, List.take_zero]
    exact hq _
set_option maxRecDepth 20000 in
theorem IdlistGoes_ok {v : Value} {l : List Int} {id most : Int} (S : Sl h 1 v (l.map u)) (hl : l.length * 8 < 2 ^ 47) : Cn Try.prog n0 (.func 4) [v, .int .u64 id, .int .i64 most] h (fun r _ => r = .bool true) := by
  refine F4.enter ?_
  obtain ⟨HP, hHP⟩ : ∃ HP : Value → H → Prop, (fun r _ => r = .bool true) = HP := ⟨_, rfl⟩
  rw [hHP, F4.e0]
  simp (disch := first | omega | assumption | exact isC_last | exact isC_app (by first | assumption | exact isC_last | exact isC_app (by first | assumption | exact isC_last)) | (simp [oneC]; done) | fail) only [F4.t0, evs0, evs1, evs2, evs3, evs4, evs5, evs6, evs7, evs8, if_true, if_false, ↓reduceIte, Nat.reduceEqDiff, Nat.reduceAdd, Nat.reduceMul, Nat.reduceSub, Nat.reduceLeDiff, Int.reduceLT, Int.reduceLE, Int.reduceEq, Bool.false_eq_true, Option.bind_some, Option.map_some, List.set_cons_zero, List.set_cons_succ, List.toList_toArray, List.size_toArray, List.length_cons, List.length_nil, List.getElem?_toArray, List.getElem?_cons_zero, List.getElem?_cons_succ, List.drop_zero, List.take_succ_cons, List.take_zero]
  obtain ⟨A, hA⟩ : ∃ A, h.length = A := ⟨_, rfl⟩
  have cA : (h ++ [Ob.cells true (enc 0 4) [Value.bool false]])[A]? = some (.cells true (enc 0 4) [.bool false]) := by rw [← hA]; exact get_last
  have X0 : Ext h (h ++ [Ob.cells true (enc 0 4) [Value.bool false]]) := Ext.app _ _
  rw [hA]
  generalize h ++ [Ob.cells true (enc 0 4) [Value.bool false]] = g0 at cA X0 ⊢
  refine (roomy_ok (S.ext X0) (by omega)).mono ?_
  rintro _ h2 ⟨b, rfl, R2, X2, hb⟩
  refine (From_ok R2.sl (by omega)).mono ?_
  rintro r h3 ⟨o, q, vs, s, a, I, hSt, hF, hsl, X3⟩
  have R3 := R2.ext X3
  have lA := lt_of_some cA
  have lb2 := lt_of_some R2
  have l2 := X2.len'
  have l3 := X3.len'
  obtain ⟨E, hE⟩ : ∃ E, h3.length = E := ⟨_, rfl⟩
  have cE : (h3 ++ [Ob.cells true (enc 0 31) [.nilFunc]])[E]? = some (.cells true (enc 0 31) [.nilFunc]) := by rw [← hE]; exact get_last
  have X4 : Ext h3 (h3 ++ [Ob.cells true (enc 0 31) [.nilFunc]]) := Ext.app _ _
  have rc : r.cells = #[r] := by rw [I.form]; rfl
  rw [if_pos (by rw [rc]; rfl), rc]
  simp only [List.toList_toArray]
  rw [hE]
  refine Bnd_i (wr_cells cE (by simp) (by rw [I.form]; rfl)) ?_
  rw [over_one (by simp), List.set_cons_zero]
  have cE1 := set_same (x := Ob.cells true (enc 0 31) [r]) cE
  have X5 : Ext h3 ((h3 ++ [Ob.cells true (enc 0 31) [.nilFunc]]).set E (Ob.cells true (enc 0 31) [r])) := fun j ob e => set_ne (get_app e) (by have := lt_of_some e; omega)
  clear X4 cE
  generalize (h3 ++ [Ob.cells true (enc 0 31) [.nilFunc]]).set E (Ob.cells true (enc 0 31) [r]) = g1 at cE1 X5 ⊢
  refine Bnd_i (a := r) (rd_cells cE1) ?_
  refine Bnd_i (a := .bool false) (by rw [I.form]; kernel_rfl) ?_
  rw [Gd_false]
  have Xg : Ext h g1 := X0.trans (X2.trans (X3.trans X5))
  refine (kept_ok (R3.ext X5) (S.ext Xg) (by omega)).mono ?_
  rintro _ hx ⟨rfl, ex⟩; subst hx
  simp (disch := first | omega | assumption | exact isC_last | exact isC_app (by first | assumption | exact isC_last | exact isC_app (by first | assumption | exact isC_last)) | (simp [oneC]; done) | fail) only [Bool.not_true, evs0, evs1, evs2, evs3, evs4, evs5, evs6, evs7, evs8, if_true, if_false, ↓reduceIte, Nat.reduceEqDiff, Nat.reduceAdd, Nat.reduceMul, Nat.reduceSub, Nat.reduceLeDiff, Int.reduceLT, Int.reduceLE, Int.reduceEq, Bool.false_eq_true, Option.bind_some, Option.map_some, List.set_cons_zero, List.set_cons_succ, List.toList_toArray, List.size_toArray, List.length_cons, List.length_nil, List.getElem?_toArray, List.getElem?_cons_zero, List.getElem?_cons_succ, List.drop_zero, List.take_succ_cons, List.take_zero]
  have R5 := R3.ext X5
  have l5 := X5.len'
  rw [F4.e2]
  unfold F4.t2
  refine Lp_ind (fun m fr hh => ∃ (i : Nat) (D : List Value), fr = [(0, v), (1, .int .u64 id), (2, .int .i64 most), (6, .pointer (some ⟨A, 0, none⟩)), (7, rv b l), (8, .pointer (some ⟨E, 0, none⟩)), (9, .int .i64 i)] ∧ i ≤ l.length ∧ hh[b]? = some (.cells true (enc 1 23) D) ∧ D.length = l.length + 9 ∧ (∀ (j : Nat) (ob : Ob), j ≠ b → g1[j]? = some ob → hh[j]? = some ob) ∧ m = l.length - i) (F4.m3 n0) l.length
    ⟨0, _, by simp (disch := first | omega | assumption | exact isC_last | exact isC_app (by first | assumption | exact isC_last | exact isC_app (by first | assumption | exact isC_last)) | (simp [oneC]; done) | fail) only [evs0, evs1, evs2, evs3, evs4, evs5, evs6, evs7, evs8, if_true, if_false, ↓reduceIte, Nat.reduceEqDiff, Nat.reduceAdd, Nat.reduceMul, Nat.reduceSub, Nat.reduceLeDiff, Int.reduceLT, Int.reduceLE, Int.reduceEq, Bool.false_eq_true, Option.bind_some, Option.map_some, List.set_cons_zero, List.set_cons_succ, List.toList_toArray, List.size_toArray, List.length_cons, List.length_nil, List.getElem?_toArray, List.getElem?_cons_zero, List.getElem?_cons_succ, List.drop_zero, List.take_succ_cons, List.take_zero]; rfl, by omega, R5, by simp, fun j ob _ e => e, rfl⟩ ?_
  rintro m fr hh ⟨i, D, rfl, hi, hB, hD, Xb, rfl⟩
  rw [F4.e3]
  unfold F4.t3
  refine Bnd2_i len_rv ?_
  refine Bnd_i bLss ?_
  by_cases h5 : i < l.length
  · rw [decide_eq_true (by omega), Cnd_true, F4.e4]
    unfold F4.t4
    refine Bnd_i (ixRv h5) ?_
    simp (disch := first | omega | assumption | exact isC_last | exact isC_app (by first | assumption | exact isC_last | exact isC_app (by first | assumption | exact isC_last)) | (simp [oneC]; done) | fail) only [evs0, evs1, evs2, evs3, evs4, evs5, evs6, evs7, evs8, if_true, if_false, ↓reduceIte, Nat.reduceEqDiff, Nat.reduceAdd, Nat.reduceMul, Nat.reduceSub, Nat.reduceLeDiff, Int.reduceLT, Int.reduceLE, Int.reduceEq, Bool.false_eq_true, Option.bind_some, Option.map_some, List.set_cons_zero, List.set_cons_succ, List.toList_toArray, List.size_toArray, List.length_cons, List.length_nil, List.getElem?_toArray, List.getElem?_cons_zero, List.getElem?_cons_succ, List.drop_zero, List.take_succ_cons, List.take_zero]
    refine Bnd_i (wr_cells hB (by simp; omega) rfl) ?_
    rw [F4.e5]
    simp (disch := first | omega | assumption | exact isC_last | exact isC_app (by first | assumption | exact isC_last | exact isC_app (by first | assumption | exact isC_last)) | (simp [oneC]; done) | fail) only [F4.t5, evs0, evs1, evs2, evs3, evs4, evs5, evs6, evs7, evs8, if_true, if_false, ↓reduceIte, Nat.reduceEqDiff, Nat.reduceAdd, Nat.reduceMul, Nat.reduceSub, Nat.reduceLeDiff, Int.reduceLT, Int.reduceLE, Int.reduceEq, Bool.false_eq_true, Option.bind_some, Option.map_some, List.set_cons_zero, List.set_cons_succ, List.toList_toArray, List.size_toArray, List.length_cons, List.length_nil, List.getElem?_toArray, List.getElem?_cons_zero, List.getElem?_cons_succ, List.drop_zero, List.take_succ_cons, List.take_zero]
    rw [show IntKind.i64.wrap ((i : Int) + 1) = ((i + 1 : Nat) : Int) by rw [IntWalk.i64_in _ (by omega)]; omega]
    refine ⟨by trivial, l.length - (i + 1), by omega, i + 1, _, rfl, by omega, set_same hB, ?_, fun j ob h1 h2 => set_ne (Xb j ob h1 h2) h1, rfl⟩
    rw [over_one (by omega), List.length_set, hD]
  · rw [decide_eq_false (by omega), Cnd_false]
    simp (disch := first | omega | assumption | exact isC_last | exact isC_app (by first | assumption | exact isC_last | exact isC_app (by first | assumption | exact isC_last)) | (simp [oneC]; done) | fail) only [evs0, evs1, evs2, evs3, evs4, evs5, evs6, evs7, evs8, if_true, if_false, ↓reduceIte, Nat.reduceEqDiff, Nat.reduceAdd, Nat.reduceMul, Nat.reduceSub, Nat.reduceLeDiff, Int.reduceLT, Int.reduceLE, Int.reduceEq, Bool.false_eq_true, Option.bind_some, Option.map_some, List.set_cons_zero, List.set_cons_succ, List.toList_toArray, List.size_toArray, List.length_cons, List.length_nil, List.getElem?_toArray, List.getElem?_cons_zero, List.getElem?_cons_succ, List.drop_zero, List.take_succ_cons, List.take_zero]
    have Xh : Ext h hh := fun j ob e => Xb _ _ (by have := lt_of_some e; have := X0.len'; omega) (Xg _ _ e)
    have I6 : It h2.length hh r o q vs s a := (I.ext X5).keep fun j ob h1 _ e => Xb _ _ (by omega) e
    have cA6 : hh[A]? = some (.cells true (enc 0 4) [.bool false]) := Xb _ _ (by omega) (X5 _ _ (X3 _ _ (X2 _ _ cA)))
    have cE6 : hh[E]? = some (.cells true (enc 0 31) [r]) := Xb _ _ (by omega) cE1
    clear I cE1 Xb R2 R3 R5 X2 X3 X5 Xg hB
    rw [F4.e6]
    unfold F4.t6
    refine (rFrom_ok (S.ext Xh) (by omega)).mono ?_
    rintro want h7 ⟨s2, i2, Sw, hSt2, hF2, _, X7⟩
    obtain rfl := hSt2.eq hSt
    obtain rfl := hF2.eq hF
    have I7 := I6.ext X7
    have cA7 := X7 _ _ cA6
    have cE7 := X7 _ _ cE6
    obtain ⟨wa, wc, hw, hwc⟩ := Sl_len Sw
    subst hw
    simp (disch := first | omega | assumption | exact isC_last | exact isC_app (by first | assumption | exact isC_last | exact isC_app (by first | assumption | exact isC_last)) | (simp [oneC]; done) | fail) only [evs0, evs1, evs2, evs3, evs4, evs5, evs6, evs7, evs8, if_true, if_false, ↓reduceIte, Nat.reduceEqDiff, Nat.reduceAdd, Nat.reduceMul, Nat.reduceSub, Nat.reduceLeDiff, Int.reduceLT, Int.reduceLE, Int.reduceEq, Bool.false_eq_true, Option.bind_some, Option.map_some, List.set_cons_zero, List.set_cons_succ, List.toList_toArray, List.size_toArray, List.length_cons, List.length_nil, List.getElem?_toArray, List.getElem?_cons_zero, List.getElem?_cons_succ, List.drop_zero, List.take_succ_cons, List.take_zero]
    rw [frm_eq]
    obtain ⟨n, hn⟩ : ∃ n, frm (s2.drop i2) most = n := ⟨_, rfl⟩
    have hnl : n ≤ (s2.drop i2).length := by rw [← hn]; exact frm_le
    rw [hn]
    have dl : (s2.drop i2).length = s2.length - i2 := List.length_drop
    obtain ⟨want, hwant⟩ : ∃ want, Value.slice wa (s2.drop i2).length wc = want := ⟨_, rfl⟩
    rw [hwant] at Sw ⊢
    obtain ⟨W1, hW1⟩ : ∃ W1, h7.length = W1 := ⟨_, rfl⟩
    have X8 : Ext h7 (h7 ++ [Ob.cells true (enc 0 22) [want]] ++ [Ob.cells true (enc 0 3) [Value.int IntKind.i64 (n : Int)]]) := fun j ob e => get_app (get_app e)
    have cW : (h7 ++ [Ob.cells true (enc 0 22) [want]] ++ [Ob.cells true (enc 0 3) [Value.int IntKind.i64 (n : Int)]])[W1]? = some (.cells true (enc 0 22) [want]) := by rw [← hW1]; exact get_app get_last
    have cN : (h7 ++ [Ob.cells true (enc 0 22) [want]] ++ [Ob.cells true (enc 0 3) [Value.int IntKind.i64 (n : Int)]])[W1 + 1]? = some (.cells true (enc 0 3) [.int .i64 (n : Int)]) := by
      rw [show W1 + 1 = (h7 ++ [Ob.cells true (enc 0 22) [want]]).length by rw [List.length_append, hW1]; rfl]; exact get_last
    simp only [List.length_append, List.length_cons, List.length_nil, Nat.zero_add, hW1]
    generalize h7 ++ [Ob.cells true (enc 0 22) [want]] ++ [Ob.cells true (enc 0 3) [Value.int IntKind.i64 (n : Int)]] = g8 at X8 cW cN ⊢
    refine Bnd_i (a := r) (rd_cells (X8 _ _ cE7)) ?_
    refine (through_ok (I7.ext X8) hF2.le (by omega) (by omega)).mono ?_
    rintro few h9 ⟨Sf, X9⟩
    have Xa := X8.trans X9
    refine Bnd_i (a := r) (rd_cells (Xa _ _ cE7)) ?_
    refine Bnd_i (a := want) (rd_cells (X9 _ _ cW)) ?_
    refine Bnd2_i (len_sl (Sw.ext Xa)) ?_
    refine Bnd_i bAdd ?_
    rw [dl, show IntKind.i64.wrap (((s2.length - i2 : Nat) : Int) + 9) = ((s2.length - i2 + 9 : Nat) : Int) by rw [IntWalk.i64_in _ (by omega)]; omega]
    refine (through_ok (I7.ext Xa) hF2.le (by omega) (by omega)).mono ?_
    rintro all h10 ⟨Sl1, X10⟩
    rw [List.take_of_length_le (by rw [dl]; omega)] at Sl1
    have Xb := Xa.trans X10
    refine Bnd_i (a := want) (rd_cells (X10 _ _ (X9 _ _ cW))) ?_
    refine Bnd_i (a := .int .i64 (n : Int)) (rd_cells (X10 _ _ (X9 _ _ cN))) ?_
    refine upTo (Sw.ext Xb) hnl fun w1 Sw1 => ?_
    refine (Same_ok (Sf.ext X10) Sw1 (by rw [List.length_take]; omega)).mono ?_
    rintro _ hx ⟨rfl, ex⟩; subst hx
    rw [decide_eq_true rfl]
    simp (disch := first | omega | assumption | exact isC_last | exact isC_app (by first | assumption | exact isC_last | exact isC_app (by first | assumption | exact isC_last)) | (simp [oneC]; done) | fail) only [Bool.not_true, evs0, evs1, evs2, evs3, evs4, evs5, evs6, evs7, evs8, if_true, if_false, ↓reduceIte, Nat.reduceEqDiff, Nat.reduceAdd, Nat.reduceMul, Nat.reduceSub, Nat.reduceLeDiff, Int.reduceLT, Int.reduceLE, Int.reduceEq, Bool.false_eq_true, Option.bind_some, Option.map_some, List.set_cons_zero, List.set_cons_succ, List.toList_toArray, List.size_toArray, List.length_cons, List.length_nil, List.getElem?_toArray, List.getElem?_cons_zero, List.getElem?_cons_succ, List.drop_zero, List.take_succ_cons, List.take_zero]
    refine Bnd_i (a := want) (rd_cells (X10 _ _ (X9 _ _ cW))) ?_
    refine (Same_ok Sl1 (Sw.ext Xb) (by omega)).mono ?_
    rintro _ hx ⟨rfl, ex⟩; subst hx
    rw [decide_eq_true rfl]
    simp (disch := first | omega | assumption | exact isC_last | exact isC_app (by first | assumption | exact isC_last | exact isC_app (by first | assumption | exact isC_last)) | (simp [oneC]; done) | fail) only [Bool.not_true, evs0, evs1, evs2, evs3, evs4, evs5, evs6, evs7, evs8, if_true, if_false, ↓reduceIte, Nat.reduceEqDiff, Nat.reduceAdd, Nat.reduceMul, Nat.reduceSub, Nat.reduceLeDiff, Int.reduceLT, Int.reduceLE, Int.reduceEq, Bool.false_eq_true, Option.bind_some, Option.map_some, List.set_cons_zero, List.set_cons_succ, List.toList_toArray, List.size_toArray, List.length_cons, List.length_nil, List.getElem?_toArray, List.getElem?_cons_zero, List.getElem?_cons_succ, List.drop_zero, List.take_succ_cons, List.take_zero]
    refine Goes_end (I7.ext Xb) hF2.le (by omega) (Xb _ _ cA7) (Xb _ _ cE7) (X10 _ _ (X9 _ _ cW)) (X10 _ _ (X9 _ _ cN)) (Sw.ext Xb) (fun h' => ?_)
    rw [← hHP]
theorem IdlistGoes_law {H' : Type} {n0 : Nat} {h : H} {vs : List Value} {ds : List (DataW H')} (R : RdAll Try.prog h [22, 23, 3] vs ds) (hz : (DataW.weightsEach Try.prog [22, 23, 3] ds).all (· ≤ reachBytes) = true) : Cn Try.prog n0 (.func 4) vs h (fun v _ => v = .bool true) := by
  obtain ⟨v, vs, d, ds, rfl, rfl, r, R⟩ := R.cons
  obtain ⟨v2, vs, d2, ds, rfl, rfl, r2, R⟩ := R.cons
  obtain ⟨v3, vs, d3, ds, rfl, rfl, r3, R⟩ := R.cons
  obtain ⟨rfl, rfl⟩ := R.none
  obtain ⟨l, S, k⟩ := reads_nums r
  obtain ⟨id, rfl, _, _⟩ := r2.int Try.underlying23
  obtain ⟨m, rfl, _, _⟩ := r3.int Try.underlying3
  exact IdlistGoes_ok S (nums_sized hz (j := 0) rfl rfl k)
end Go.Proofs.Ytjdcdabbbmhffaa
