/- BerWhole's last range, which may be left early. No condition. -/
import Derived.Test.YtknpmldldlbniaaWGoes
set_option linter.unusedVariables false
set_option linter.unusedSimpArgs false
namespace Go.Proofs.Ytknpmldldlbniaa
open Go.Ev Ber
def frV (t8 t14 t16 t18 : Value) (q7 q11 q : Nat) : Fr := [(7, .pointer (some ⟨q7, 0, none⟩)), (8, t8), (11, .pointer (some ⟨q11, 0, none⟩)), (14, t14), (16, t16), (23, .pointer (some ⟨q, 0, none⟩)), (133, t18)]
set_option maxRecDepth 20000 in
theorem V_round {n0 : Nat} {h0 : H} {q q11 l d : Nat} {x y t8 t14 t16 t18 : Value} {q7 : Nat} {stop : Int} {ps : List (Int × Tlv)}
    (B7 : h0[q7]? = some (.cells true (enc 0 3) [.int .i64 stop])) (B11 : h0[q11]? = some (.cells true (enc 0 67) [x])) (Fx : Fu h0 6 75 x ps.length (pcells ps)) (hps : ps.length ≤ 1048576)
    (l1 : h0.length ≤ q) (l2 : q < d) (l3 : d < l)
    {i : Nat} {hh : H} (I : SJ h0 q l d y ps (frV t8 t14 t16 t18 q7 q11 q) #[134, 135] F10.rAs1 F10.rBd1 i hh)
    {p : Int × Tlv} (hp : ps[i]? = some p) (o : Ob) : Cn Try.prog n0 (.yield l) [.int .i64 p.1, p.2.v] (hh ++ [o]) (fun v h'' => (v = .bool true ∧ SJ h0 q l d y ps (frV t8 t14 t16 t18 q7 q11 q) #[134, 135] F10.rAs1 F10.rBd1 (i + 1) h'') ∨ (v = .bool false ∧ Ext h0 h'' ∧ h''[d]? = some .dfr ∧ h''[l]? = some (.loop (frV t8 t14 t16 t18 q7 q11 q) 169 #[134, 135] F10.rAs1 F10.rBd1 .done (some (.exit 6)) d))) := by
  obtain ⟨HP, hHP⟩ : ∃ HP : Value → H → Prop, (fun v h'' => (v = .bool true ∧ SJ h0 q l d y ps (frV t8 t14 t16 t18 q7 q11 q) #[134, 135] F10.rAs1 F10.rBd1 (i + 1) h'') ∨ (v = .bool false ∧ Ext h0 h'' ∧ h''[d]? = some .dfr ∧ h''[l]? = some (.loop (frV t8 t14 t16 t18 q7 q11 q) 169 #[134, 135] F10.rAs1 F10.rBd1 .done (some (.exit 6)) d))) = HP := ⟨_, rfl⟩
  rw [hHP]
  have hil := lt_of_some hp
  have hll := lt_of_some I.lp
  have b11l := lt_of_some B11
  have hlo : loopOf (hh ++ [o]) l = some (frV t8 t14 t16 t18 q7 q11 q, 169, #[134, 135], F10.aAs1.erase, F10.aBd1.erase, .ready, none, d) := by
    unfold loopOf
    rw [get_app I.lp, show F10.aAs1.erase = F10.rAs1 from (ann_erase _ _).1, show F10.aBd1.erase = F10.rBd1 from (ann_erase _ _).1]
  refine Cn_yield follows hlo F10.k18 F10.k19 (L := [7, 8, 11, 14, 16, 23, 24, 25]) (fr1 := [(7, .pointer (some ⟨q7, 0, none⟩)), (8, t8), (11, .pointer (some ⟨q11, 0, none⟩)), (14, t14), (16, t16), (23, .pointer (some ⟨q, 0, none⟩)), (133, t18), (134, .int .i64 p.1), (135, p.2.v)]) rfl ?_
  have e6 := F10.d18 (n0 := n0) l
  unfold F10.c18 at e6
  rw [← e6, F10.e18]
  simp (disch := first | omega | assumption | exact isC_last | exact isC_app (by first | assumption | exact isC_last | exact isC_app (by first | assumption | exact isC_last)) | (simp [oneC]; done) | fail) only [F10.t18, kas_n, Tlv.v, evs0, evs1, evs2, evs3, evs4, evs5, evs6, evs7, evs8, evs9, evs10, evs11, evs12, evs13, if_true, if_false, ↓reduceIte, Nat.reduceEqDiff, Nat.reduceAdd, Nat.reduceMul, Nat.reduceSub, Nat.reduceLeDiff, Int.reduceLT, Int.reduceLE, Int.reduceEq, Bool.false_eq_true, Option.bind_some, Option.map_some, List.set_cons_zero, List.set_cons_succ, List.toList_toArray, List.size_toArray, List.length_cons, List.length_nil, List.getElem?_toArray, List.getElem?_cons_zero, List.getElem?_cons_succ, List.drop_zero, List.take_succ_cons, List.take_zero]
  have hlo2 : loopOf (hh ++ [o] ++ [Ob.cells true (enc 0 26) [Value.int IntKind.i8 p.2.cls, Value.bool p.2.cons, Value.int IntKind.i64 p.2.num, Value.int IntKind.i64 p.2.frm, Value.int IntKind.i64 p.2.to]]) l = some (frV t8 t14 t16 t18 q7 q11 q, 169, #[134, 135], F10.rAs1, F10.rBd1, .ready, none, d) := by
    unfold loopOf
    rw [get_app (get_app I.lp)]
  refine Bnd_i (by unfold begK; rw [hlo2]) ?_
  have hlt8 : l ≠ (hh ++ [o]).length := by rw [List.length_append]; omega
  have P7 : ∀ j ob, j ≠ l → hh[j]? = some ob → ((hh ++ [o] ++ [Ob.cells true (enc 0 26) [Value.int IntKind.i8 p.2.cls, Value.bool p.2.cons, Value.int IntKind.i64 p.2.num, Value.int IntKind.i64 p.2.frm, Value.int IntKind.i64 p.2.to]]).set l (.loop (frV t8 t14 t16 t18 q7 q11 q) 169 #[134, 135] F10.rAs1 F10.rBd1 .busy none d))[j]? = some ob := fun j ob h1 h2 => set_ne (get_app (get_app h2)) h1
  have T7 := set_ne (x := .loop (frV t8 t14 t16 t18 q7 q11 q) 169 #[134, 135] F10.rAs1 F10.rBd1 .busy none d) (get_last (h := hh ++ [o]) (ob := Ob.cells true (enc 0 26) [Value.int IntKind.i8 p.2.cls, Value.bool p.2.cons, Value.int IntKind.i64 p.2.num, Value.int IntKind.i64 p.2.frm, Value.int IntKind.i64 p.2.to])) (Ne.symm hlt8)
  have L7 := set_same (x := .loop (frV t8 t14 t16 t18 q7 q11 q) 169 #[134, 135] F10.rAs1 F10.rBd1 .busy none d) (get_app (t := [Ob.cells true (enc 0 26) [Value.int IntKind.i8 p.2.cls, Value.bool p.2.cons, Value.int IntKind.i64 p.2.num, Value.int IntKind.i64 p.2.frm, Value.int IntKind.i64 p.2.to]]) (get_app (t := [o]) I.lp))
  generalize (hh ++ [o]).length = t22 at T7 hlt8 ⊢
  generalize ((hh ++ [o] ++ [Ob.cells true (enc 0 26) [Value.int IntKind.i8 p.2.cls, Value.bool p.2.cons, Value.int IntKind.i64 p.2.num, Value.int IntKind.i64 p.2.frm, Value.int IntKind.i64 p.2.to]]).set l (.loop (frV t8 t14 t16 t18 q7 q11 q) 169 #[134, 135] F10.rAs1 F10.rBd1 .busy none d)) = h9 at P7 T7 L7 ⊢
  have e7 := F10.d19 (n0 := n0) l
  unfold F10.c19 at e7
  rw [← e7, F10.e19]
  have c11 := P7 _ _ (by omega) (I.ext _ _ B11)
  have c20 := P7 _ _ (by omega) I.b
  have Fx9 : Fu h9 6 75 x ps.length (pcells ps) := Fx.keep fun j ob _ e1 => P7 j ob (by have := lt_of_some e1; omega) (I.ext _ _ e1)
  obtain ⟨b2, rfl, r1, r2⟩ := place_rd Fx9 hp
  simp (disch := first | omega | assumption | exact isC_last | exact isC_app (by first | assumption | exact isC_last | exact isC_app (by first | assumption | exact isC_last)) | (simp [oneC]; done) | fail) only [F10.t19, rd_cells c11, rd_cells c20, Nat.zero_add, Int.toNat_natCast, evs0, evs1, evs2, evs3, evs4, evs5, evs6, evs7, evs8, evs9, evs10, evs11, evs12, evs13, if_true, if_false, ↓reduceIte, Nat.reduceEqDiff, Nat.reduceAdd, Nat.reduceMul, Nat.reduceSub, Nat.reduceLeDiff, Int.reduceLT, Int.reduceLE, Int.reduceEq, Bool.false_eq_true, Option.bind_some, Option.map_some, List.set_cons_zero, List.set_cons_succ, List.toList_toArray, List.size_toArray, List.length_cons, List.length_nil, List.getElem?_toArray, List.getElem?_cons_zero, List.getElem?_cons_succ, List.drop_zero, List.take_succ_cons, List.take_zero]
  rw [if_neg (by omega), if_pos (by omega)]
  simp (disch := first | omega | assumption | exact isC_last | exact isC_app (by first | assumption | exact isC_last | exact isC_app (by first | assumption | exact isC_last)) | (simp [oneC]; done) | fail) only [r1, Nat.add_zero, r2, Tlv.v, rd_blk0 (n := 5) T7 rfl, evs0, evs1, evs2, evs3, evs4, evs5, evs6, evs7, evs8, evs9, evs10, evs11, evs12, evs13, if_true, if_false, ↓reduceIte, Nat.reduceEqDiff, Nat.reduceAdd, Nat.reduceMul, Nat.reduceSub, Nat.reduceLeDiff, Int.reduceLT, Int.reduceLE, Int.reduceEq, Bool.false_eq_true, Option.bind_some, Option.map_some, List.set_cons_zero, List.set_cons_succ, List.toList_toArray, List.size_toArray, List.length_cons, List.length_nil, List.getElem?_toArray, List.getElem?_cons_zero, List.getElem?_cons_succ, List.drop_zero, List.take_succ_cons, List.take_zero]
  simp (disch := first | omega | assumption | exact isC_last | exact isC_app (by first | assumption | exact isC_last | exact isC_app (by first | assumption | exact isC_last)) | (simp [oneC]; done) | fail) only [decide_true, beq_self_eq_true, Bool.and_self, Bool.and_true, Bool.not_true, evs0, evs1, evs2, evs3, evs4, evs5, evs6, evs7, evs8, evs9, evs10, evs11, evs12, evs13, if_true, if_false, ↓reduceIte, Nat.reduceEqDiff, Nat.reduceAdd, Nat.reduceMul, Nat.reduceSub, Nat.reduceLeDiff, Int.reduceLT, Int.reduceLE, Int.reduceEq, Bool.false_eq_true, Option.bind_some, Option.map_some, List.set_cons_zero, List.set_cons_succ, List.toList_toArray, List.size_toArray, List.length_cons, List.length_nil, List.getElem?_toArray, List.getElem?_cons_zero, List.getElem?_cons_succ, List.drop_zero, List.take_succ_cons, List.take_zero]
  rw [F10.e21]
  have c7 := P7 _ _ (by have := lt_of_some B7; omega) (I.ext _ _ B7)
  simp (disch := first | omega | assumption | exact isC_last | exact isC_app (by first | assumption | exact isC_last | exact isC_app (by first | assumption | exact isC_last)) | (simp [oneC]; done) | fail) only [F10.t21, rd_cells c20, rd_cells c7, evs0, evs1, evs2, evs3, evs4, evs5, evs6, evs7, evs8, evs9, evs10, evs11, evs12, evs13, if_true, if_false, ↓reduceIte, Nat.reduceEqDiff, Nat.reduceAdd, Nat.reduceMul, Nat.reduceSub, Nat.reduceLeDiff, Int.reduceLT, Int.reduceLE, Int.reduceEq, Bool.false_eq_true, Option.bind_some, Option.map_some, List.set_cons_zero, List.set_cons_succ, List.toList_toArray, List.size_toArray, List.length_cons, List.length_nil, List.getElem?_toArray, List.getElem?_cons_zero, List.getElem?_cons_succ, List.drop_zero, List.take_succ_cons, List.take_zero]
  by_cases hstop : stop ≤ i
  · rw [if_pos hstop]
    simp (disch := first | omega | assumption | exact isC_last | exact isC_app (by first | assumption | exact isC_last | exact isC_app (by first | assumption | exact isC_last)) | (simp [oneC]; done) | fail) only [kblk_o (id := 7) (j := 6) rfl, evs0, evs1, evs2, evs3, evs4, evs5, evs6, evs7, evs8, evs9, evs10, evs11, evs12, evs13, if_true, if_false, ↓reduceIte, Nat.reduceEqDiff, Nat.reduceAdd, Nat.reduceMul, Nat.reduceSub, Nat.reduceLeDiff, Int.reduceLT, Int.reduceLE, Int.reduceEq, Bool.false_eq_true, Option.bind_some, Option.map_some, List.set_cons_zero, List.set_cons_succ, List.toList_toArray, List.size_toArray, List.length_cons, List.length_nil, List.getElem?_toArray, List.getElem?_cons_zero, List.getElem?_cons_succ, List.drop_zero, List.take_succ_cons, List.take_zero]
    refine Bnd_i (a := (.bool false, h9.set l (.loop (frV t8 t14 t16 t18 q7 q11 q) 169 #[134, 135] F10.rAs1 F10.rBd1 .done (some (.exit 6)) d))) (by unfold endK loopOf; rw [L7]; rfl) ?_
    rw [← hHP]
    refine .inr ⟨rfl, ?_, set_ne (P7 _ _ (by omega) I.df) (by omega), set_same L7⟩
    intro j ob e1
    have := lt_of_some e1
    exact set_ne (P7 j ob (by omega) (I.ext _ _ e1)) (by omega)
  rw [if_neg hstop]
  rw [F10.e22]
  simp (disch := first | omega | assumption | exact isC_last | exact isC_app (by first | assumption | exact isC_last | exact isC_app (by first | assumption | exact isC_last)) | (simp [oneC]; done) | fail) only [F10.t22, rd_cells c20, evs0, evs1, evs2, evs3, evs4, evs5, evs6, evs7, evs8, evs9, evs10, evs11, evs12, evs13, if_true, if_false, ↓reduceIte, Nat.reduceEqDiff, Nat.reduceAdd, Nat.reduceMul, Nat.reduceSub, Nat.reduceLeDiff, Int.reduceLT, Int.reduceLE, Int.reduceEq, Bool.false_eq_true, Option.bind_some, Option.map_some, List.set_cons_zero, List.set_cons_succ, List.toList_toArray, List.size_toArray, List.length_cons, List.length_nil, List.getElem?_toArray, List.getElem?_cons_zero, List.getElem?_cons_succ, List.drop_zero, List.take_succ_cons, List.take_zero]
  refine Bnd_i (wr_cells c20 (by simp) rfl) ?_
  rw [over_one (by simp), IntWalk.i64_in _ (by omega), List.set_cons_zero]
  have P10 : ∀ j ob, j ≠ q → h9[j]? = some ob → (h9.set q (.cells true (enc 0 3) [.int .i64 ((i : Int) + 1)]))[j]? = some ob := fun j ob h1 h3 => set_ne h3 h1
  have L10 := P10 _ _ (show l ≠ q by omega) L7
  have c51 : (h9.set q (.cells true (enc 0 3) [.int .i64 ((i : Int) + 1)]))[q]? = some (.cells true (enc 0 3) [.int .i64 ((i : Int) + 1)]) := set_same c20
  generalize (h9.set q (Ob.cells true (enc 0 3) [.int .i64 ((i : Int) + 1)])) = h10 at P10 L10 c51 ⊢
  refine Bnd_i (a := (.bool true, h10.set l (.loop (frV t8 t14 t16 t18 q7 q11 q) 169 #[134, 135] F10.rAs1 F10.rBd1 .ready none d))) (by unfold endK loopOf; rw [L10]; rfl) ?_
  have P11 : ∀ j ob, j ≠ l → j ≠ q → hh[j]? = some ob → (h10.set l (.loop (frV t8 t14 t16 t18 q7 q11 q) 169 #[134, 135] F10.rAs1 F10.rBd1 .ready none d))[j]? = some ob := fun j ob h1 h2 h4 => set_ne (P10 j ob h2 (P7 j ob h1 h4)) h1
  rw [← hHP]
  refine .inl ⟨rfl, ?_, ?_, set_same L10, P11 _ _ (by omega) (by omega) I.df⟩
  · intro j ob e1
    have := lt_of_some e1
    exact P11 j ob (by omega) (by omega) (I.ext _ _ e1)
  · rw [show ((i + 1 : Nat) : Int) = (i : Int) + 1 from by omega]
    exact set_ne c51 (by omega)
set_option maxRecDepth 20000 in
theorem V_range {n0 : Nat} {h : H} {q7 q11 pb e0 : Nat} {x y t8 t14 t16 : Value} {ps : List (Int × Tlv)} {ds : List Nat} {K : KP} {stop : Int}
    (B7 : h[q7]? = some (.cells true (enc 0 3) [.int .i64 stop])) (B11 : h[q11]? = some (.cells true (enc 0 67) [x])) (Fx : Fu h 6 75 x ps.length (pcells ps)) (hps : ps.length ≤ 1048576) (HB : h[pb]? = some (.cells true e0 [y])) (Fy : Fu h 6 102 y ps.length (pcells ps))
    (k : ∀ d h', Ext h h' → h.length ≤ d → h'[d]? = some .dfr → F10.p13 n0 [(8, t8), (14, t14), (16, t16)] (d :: ds) h' K) :
    F10.p12 n0 [(7, .pointer (some ⟨q7, 0, none⟩)), (8, t8), (11, .pointer (some ⟨q11, 0, none⟩)), (14, t14), (16, t16), (18, .func (.func 55) #[] #[.pointer (some ⟨pb, 0, none⟩)])] ds h K := by
  rw [F10.e12]
  simp (disch := first | omega | assumption | exact isC_last | exact isC_app (by first | assumption | exact isC_last | exact isC_app (by first | assumption | exact isC_last)) | (simp [oneC]; done) | fail) only [F10.t12, evs0, evs1, evs2, evs3, evs4, evs5, evs6, evs7, evs8, evs9, evs10, evs11, evs12, evs13, if_true, if_false, ↓reduceIte, Nat.reduceEqDiff, Nat.reduceAdd, Nat.reduceMul, Nat.reduceSub, Nat.reduceLeDiff, Int.reduceLT, Int.reduceLE, Int.reduceEq, Bool.false_eq_true, Option.bind_some, Option.map_some, List.set_cons_zero, List.set_cons_succ, List.toList_toArray, List.size_toArray, List.length_cons, List.length_nil, List.getElem?_toArray, List.getElem?_cons_zero, List.getElem?_cons_succ, List.drop_zero, List.take_succ_cons, List.take_zero]
  unfold wRange
  refine ⟨by kernel_rfl, ?_⟩
  have Q0 : (h ++ [Ob.cells true (enc 0 3) [.int .i64 0]])[h.length]? = some (.cells true (enc 0 3) [.int .i64 0]) := get_last
  have l0 : h.length < (h ++ [Ob.cells true (enc 0 3) [.int .i64 0]]).length := by simp
  have X0 : Ext h (h ++ [Ob.cells true (enc 0 3) [.int .i64 0]]) := Ext.app _ _
  generalize (h ++ [Ob.cells true (enc 0 3) [.int .i64 0]]) = h5 at Q0 l0 X0 ⊢
  refine Bnd_i (a := (h5.length, h5.length :: ds, h5 ++ [.dfr])) rfl ?_
  simp only
  have l10 : h5.length < (h5 ++ [Ob.dfr]).length := by simp
  have I0 : SJ h h.length (h5 ++ [Ob.dfr]).length h5.length y ps (frV t8 t14 t16 (.func (.func 55) #[] #[.pointer (some ⟨pb, 0, none⟩)]) q7 q11 h.length) #[134, 135] F10.rAs1 F10.rBd1 0 (h5 ++ [Ob.dfr] ++ [.loop (frV t8 t14 t16 (.func (.func 55) #[] #[.pointer (some ⟨pb, 0, none⟩)]) q7 q11 h.length) 169 #[134, 135] F10.rAs1 F10.rBd1 .ready none h5.length]) :=
    ⟨fun j ob e1 => get_app (get_app (X0 _ _ e1)), get_app (get_app Q0), get_last, get_app get_last⟩
  have HB6 : (h5 ++ [Ob.dfr] ++ [.loop (frV t8 t14 t16 (.func (.func 55) #[] #[.pointer (some ⟨pb, 0, none⟩)]) q7 q11 h.length) 169 #[134, 135] F10.rAs1 F10.rBd1 .ready none h5.length])[pb]? = some (.cells true e0 [y]) := get_app (get_app (X0 _ _ HB))
  show Cn Try.prog n0 (Fn.func 55) [.func (.yield (h5 ++ [Ob.dfr]).length) #[] #[], .pointer (some ⟨pb, 0, none⟩)] (h5 ++ [Ob.dfr] ++ [.loop (frV t8 t14 t16 (.func (.func 55) #[] #[.pointer (some ⟨pb, 0, none⟩)]) q7 q11 h.length) 169 #[134, 135] F10.rAs1 F10.rBd1 .ready none h5.length]) _
  generalize (h5 ++ [Ob.dfr] ++ [.loop (frV t8 t14 t16 (.func (.func 55) #[] #[.pointer (some ⟨pb, 0, none⟩)]) q7 q11 h.length) 169 #[134, 135] F10.rAs1 F10.rBd1 .ready none h5.length]) = h6 at I0 HB6 ⊢
  generalize (h5 ++ [Ob.dfr]).length = l at I0 l10 ⊢
  obtain ⟨d, hd⟩ : ∃ d, h5.length = d := ⟨_, rfl⟩
  rw [hd] at I0 l10 l0 ⊢
  have b11l := lt_of_some B11
  refine Each1_ok (SJ h h.length l d y ps (frV t8 t14 t16 (.func (.func 55) #[] #[.pointer (some ⟨pb, 0, none⟩)]) q7 q11 h.length) #[134, 135] F10.rAs1 F10.rBd1) I0 HB6 (fun i h' I => Fy.keep fun j ob _ e1 => I.ext _ _ e1) (by omega) ?_ ?_
  · intro i p h' hp I ob
    refine (V_round B7 B11 Fx hps (Nat.le_refl _) l0 l10 I hp ob).mono ?_
    rintro v h'' (hv | ⟨rfl, X, D, Lo⟩)
    · exact .inl hv
    · refine .inr ⟨rfl, ?_⟩
      refine Bnd_i (a := _) (by unfold loopOf; rw [Lo]) ⟨by simp, ?_⟩
      have fd := set_ne (x := Ob.dead) D (show d ≠ l by omega)
      have fX : Ext h (h''.set l Ob.dead) := fun j ob e1 => set_ne (X _ _ e1) (by have := lt_of_some e1; omega)
      show KBlk [8, 14, 16] 6 (KSeq [8, 14, 16] (F10.p13 n0) K) (.exit 6) (frV t8 t14 t16 (.func (.func 55) #[] #[.pointer (some ⟨pb, 0, none⟩)]) q7 q11 h.length) (d :: ds) (h''.set l Ob.dead)
      generalize h''.set l Ob.dead = h7 at fd fX ⊢
      unfold frV
      simp (disch := first | omega | assumption | exact isC_last | exact isC_app (by first | assumption | exact isC_last | exact isC_app (by first | assumption | exact isC_last)) | (simp [oneC]; done) | fail) only [evs0, evs1, evs2, evs3, evs4, evs5, evs6, evs7, evs8, evs9, evs10, evs11, evs12, evs13, if_true, if_false, ↓reduceIte, Nat.reduceEqDiff, Nat.reduceAdd, Nat.reduceMul, Nat.reduceSub, Nat.reduceLeDiff, Int.reduceLT, Int.reduceLE, Int.reduceEq, Bool.false_eq_true, Option.bind_some, Option.map_some, List.set_cons_zero, List.set_cons_succ, List.toList_toArray, List.size_toArray, List.length_cons, List.length_nil, List.getElem?_toArray, List.getElem?_cons_zero, List.getElem?_cons_succ, List.drop_zero, List.take_succ_cons, List.take_zero]
      exact k d h7 fX (by omega) fd
  · intro hh I
    refine Bnd_i (a := _) (by unfold loopOf; rw [I.lp]) ⟨by simp, ?_⟩
    have fd := set_ne (x := Ob.dead) I.df (show d ≠ l by omega)
    have fX : Ext h (hh.set l Ob.dead) := fun j ob e1 => set_ne (I.ext _ _ e1) (by have := lt_of_some e1; omega)
    show KBlk [8, 14, 16] 6 (KSeq [8, 14, 16] (F10.p13 n0) K) .normal (frV t8 t14 t16 (.func (.func 55) #[] #[.pointer (some ⟨pb, 0, none⟩)]) q7 q11 h.length) (d :: ds) (hh.set l Ob.dead)
    generalize hh.set l Ob.dead = h7 at fd fX ⊢
    unfold frV
    simp (disch := first | omega | assumption | exact isC_last | exact isC_app (by first | assumption | exact isC_last | exact isC_app (by first | assumption | exact isC_last)) | (simp [oneC]; done) | fail) only [evs0, evs1, evs2, evs3, evs4, evs5, evs6, evs7, evs8, evs9, evs10, evs11, evs12, evs13, if_true, if_false, ↓reduceIte, Nat.reduceEqDiff, Nat.reduceAdd, Nat.reduceMul, Nat.reduceSub, Nat.reduceLeDiff, Int.reduceLT, Int.reduceLE, Int.reduceEq, Bool.false_eq_true, Option.bind_some, Option.map_some, List.set_cons_zero, List.set_cons_succ, List.toList_toArray, List.size_toArray, List.length_cons, List.length_nil, List.getElem?_toArray, List.getElem?_cons_zero, List.getElem?_cons_succ, List.drop_zero, List.take_succ_cons, List.take_zero]
    exact k d h7 fX (by omega) fd
end Go.Proofs.Ytknpmldldlbniaa
