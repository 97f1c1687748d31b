/- BerWhole's ranges and its end. No condition. -/
import Derived.Test.YtknpmldldlbniaaWGoes2
import Derived.Test.YtknpmldldlbniaaWorks
import Derived.Test.YtknpmldldlbniaaLaw1
import Derived.Test.YtknpmldldlbniaaEvLay
import Derived.Test.YtknpmldldlbniaaBulk
set_option linter.unusedVariables false
set_option linter.unusedSimpArgs false
namespace Go.Proofs.Ytknpmldldlbniaa
open Go.Ev Ber
def EachAny (bs : List UInt8) (a e : Int) (h : H) : Value → H → Prop := fun v h' => ∃ pb x, v = .func (.func 55) #[] #[.pointer (some ⟨pb, 0, none⟩)] ∧ h'[pb]? = some (.cells true (enc 0 100) [x]) ∧ h.length ≤ pb ∧
  Fu h' 6 102 x (placesL bs a e).length (pcells (placesL bs a e)) ∧ Ext h h' ∧ (∀ j, isBlk x j → h.length ≤ j)
set_option maxRecDepth 20000 in
theorem Each_any {n0 : Nat} {h : H} {b : Value} {bs : List UInt8} {a0 e : Int} (S : Sl h 1 b (bs.map bv)) (hl : bs.length ≤ 1048576) (ha : -2 ^ 63 ≤ a0) (ha2 : a0 < 2 ^ 63) (he : -2 ^ 63 ≤ e) (he2 : e < 2 ^ 63) :
    Cn Try.prog n0 (.func 37) [b, .int .i64 a0, .int .i64 e] h (EachAny bs a0 e h) := by
  by_cases he3 : e ≤ bs.length
  · refine (Each_ok S hl ha ha2 he he2 he3).mono ?_
    have eq : EachPost.eachL bs a0 e = placesL bs a0 e := by
      unfold EachPost.eachL placesL
      by_cases h1 : a0 < 0
      · rw [if_pos h1, if_pos (.inl h1)]
      · rw [if_neg h1]
        by_cases h2 : e < a0
        · rw [if_pos (.inr (.inl h2)), scan_stop (fun h => by omega)]
        · rw [if_neg (by omega)]
    intro v h' hv
    unfold EachPost at hv
    rw [eq] at hv
    exact hv
  · have hP : placesL bs a0 e = [] := by unfold placesL; rw [if_pos (by omega)]
    unfold EachAny
    rw [hP]
    refine F37.enter ?_
    obtain ⟨ad, c, rfl, hc⟩ := S.lenB
    obtain ⟨HP, hHP⟩ : ∃ HP : Value → H → Prop, (fun v h' => ∃ pb x, v = .func (.func 55) #[] #[.pointer (some ⟨pb, 0, none⟩)] ∧ h'[pb]? = some (.cells true (enc 0 100) [x]) ∧ h.length ≤ pb ∧
      Fu h' 6 102 x ([] : List (Int × Tlv)).length (pcells []) ∧ Ext h h' ∧ (∀ j, isBlk x j → h.length ≤ j)) = HP := ⟨_, rfl⟩
    rw [hHP, F37.e0]
    simp (disch := first | omega | assumption | exact isC_last | exact isC_app (by first | assumption | exact isC_last | exact isC_app (by first | assumption | exact isC_last)) | (simp [oneC]; done) | fail) only [F37.t0, evs0, evs1, evs2, evs3, evs4, evs5, evs6, evs7, evs8, evs9, evs10, evs11, evs12, evs13, if_true, if_false, ↓reduceIte, Nat.reduceEqDiff, Nat.reduceAdd, Nat.reduceMul, Nat.reduceSub, Nat.reduceLeDiff, Int.reduceLT, Int.reduceLE, Int.reduceEq, Bool.false_eq_true, Option.bind_some, Option.map_some, List.set_cons_zero, List.set_cons_succ, List.toList_toArray, List.size_toArray, List.length_cons, List.length_nil, List.getElem?_toArray, List.getElem?_cons_zero, List.getElem?_cons_succ, List.drop_zero, List.take_succ_cons, List.take_zero]
    refine Lp_ind (fun m fr hh => fr = [(0, Value.slice ad bs.length c), (1, .int .i64 a0), (2, .int .i64 e), (7, .pointer (some ⟨h.length, 0, none⟩))] ∧ hh = h ++ [.cells true (enc 0 100) [.slice none 0 0]]) (F37.m1 n0) 0 ⟨by simp (disch := first | omega | assumption | exact isC_last | exact isC_app (by first | assumption | exact isC_last | exact isC_app (by first | assumption | exact isC_last)) | (simp [oneC]; done) | fail) only [evs0, evs1, evs2, evs3, evs4, evs5, evs6, evs7, evs8, evs9, evs10, evs11, evs12, evs13, if_true, if_false, ↓reduceIte, Nat.reduceEqDiff, Nat.reduceAdd, Nat.reduceMul, Nat.reduceSub, Nat.reduceLeDiff, Int.reduceLT, Int.reduceLE, Int.reduceEq, Bool.false_eq_true, Option.bind_some, Option.map_some, List.set_cons_zero, List.set_cons_succ, List.toList_toArray, List.size_toArray, List.length_cons, List.length_nil, List.getElem?_toArray, List.getElem?_cons_zero, List.getElem?_cons_succ, List.drop_zero, List.take_succ_cons, List.take_zero], rfl⟩ ?_
    rintro m fr hh ⟨rfl, rfl⟩
    have fin : F37.p4 n0 [(7, .pointer (some ⟨h.length, 0, none⟩))] [] (h ++ [.cells true (enc 0 100) [.slice none 0 0]]) (KFin Try.prog [ResultVar.tmp 6] HP) := by
      rw [F37.e4]
      simp (disch := first | omega | assumption | exact isC_last | exact isC_app (by first | assumption | exact isC_last | exact isC_app (by first | assumption | exact isC_last)) | (simp [oneC]; done) | fail) only [F37.t4, evs0, evs1, evs2, evs3, evs4, evs5, evs6, evs7, evs8, evs9, evs10, evs11, evs12, evs13, if_true, if_false, ↓reduceIte, Nat.reduceEqDiff, Nat.reduceAdd, Nat.reduceMul, Nat.reduceSub, Nat.reduceLeDiff, Int.reduceLT, Int.reduceLE, Int.reduceEq, Bool.false_eq_true, Option.bind_some, Option.map_some, List.set_cons_zero, List.set_cons_succ, List.toList_toArray, List.size_toArray, List.length_cons, List.length_nil, List.getElem?_toArray, List.getElem?_cons_zero, List.getElem?_cons_succ, List.drop_zero, List.take_succ_cons, List.take_zero]
      rw [← hHP]
      exact ⟨_, _, rfl, get_last, Nat.le_refl _, Fu.nil, Ext.app _ _, fun j e => absurd e isBlk_nil⟩
    rw [F37.e1]
    simp (disch := first | omega | assumption | exact isC_last | exact isC_app (by first | assumption | exact isC_last | exact isC_app (by first | assumption | exact isC_last)) | (simp [oneC]; done) | fail) only [F37.t1, evs0, evs1, evs2, evs3, evs4, evs5, evs6, evs7, evs8, evs9, evs10, evs11, evs12, evs13, if_true, if_false, ↓reduceIte, Nat.reduceEqDiff, Nat.reduceAdd, Nat.reduceMul, Nat.reduceSub, Nat.reduceLeDiff, Int.reduceLT, Int.reduceLE, Int.reduceEq, Bool.false_eq_true, Option.bind_some, Option.map_some, List.set_cons_zero, List.set_cons_succ, List.toList_toArray, List.size_toArray, List.length_cons, List.length_nil, List.getElem?_toArray, List.getElem?_cons_zero, List.getElem?_cons_succ, List.drop_zero, List.take_succ_cons, List.take_zero]
    split
    · split
      · first | exact fin | (rw [if_neg (by omega)]; exact fin)
      · exact fin
    · exact fin
theorem placesL_len {bs : List UInt8} {a e : Int} (hl : bs.length ≤ 1048576) : (placesL bs a e).length ≤ 1048576 := by
  unfold placesL
  split
  · simp
  · have := scan_len (bs := bs) (e := e) (e - a).toNat a
    omega
theorem wholeL_len {bs : List UInt8} {a e : Int} (hl : bs.length ≤ 1048576) : (wholeL bs a e).length ≤ 1048576 := by
  unfold wholeL
  split
  · rename_i h0
    have hb : ¬ (a < 0 ∨ e < a ∨ bs.length < e) := fun hb => by unfold wholeE at h0; rw [if_pos hb] at h0; cases h0
    have := scan_len (bs := bs) (e := e) (e - a).toNat a
    rw [List.length_map]
    omega
  · simp
def KW (n : Nat) (Φ : WP) (K : KP) : KP := fun e fr ds h => match e with | .normal => loopW n Φ fr ds h K | .exit i => K (.exit i) fr ds h | .ret => K .ret fr ds h
theorem lw_succ {n : Nat} {Φ : WP} {fr : Fr} {ds : List Nat} {h : H} {K : KP} : loopW (n + 1) Φ fr ds h K = Φ fr ds h (KW n Φ K) := propext Iff.rfl
theorem kw_n {n : Nat} {Φ : WP} {fr : Fr} {ds : List Nat} {h : H} {K : KP} : KW n Φ K .normal fr ds h = loopW n Φ fr ds h K := propext Iff.rfl
theorem kw_e {n i : Nat} {Φ : WP} {fr : Fr} {ds : List Nat} {h : H} {K : KP} : KW n Φ K (.exit i) fr ds h = K (.exit i) fr ds h := propext Iff.rfl
def Φ7 (n0 : Nat) : WP := fun fr ds h K => F10.p7 n0 (keep [7, 8, 11, 14, 16, 18, 99] fr) ds h K
theorem f7 {n0 : Nat} {fr : Fr} {ds : List Nat} {h : H} {K : KP} : Φ7 n0 fr ds h K = F10.p7 n0 (keep [7, 8, 11, 14, 16, 18, 99] fr) ds h K := propext Iff.rfl
theorem lp7 {n0 : Nat} {fr : Fr} {ds : List Nat} {h : H} {K : KP} (w : loopW 3 (Φ7 n0) fr ds h K) : Lp [7, 8, 11, 14, 16, 18, 99] (F10.p7 n0) fr ds h K := ⟨3, w⟩
/-- two dead ones more -/
theorem take3 {d1 d2 d3 : Nat} {h : H} (h1 : h[d1]? = some .dfr) (h2 : h[d2]? = some .dfr) (h3 : h[d3]? = some .dfr) (n1 : d1 < d2) (n2 : d2 < d3) : ∃ h', takeD [d3, d2, d1] h = some h' ∧ ∀ j ob, j ≠ d1 → j ≠ d2 → j ≠ d3 → h[j]? = some ob → h'[j]? = some ob := by
  have e2 := set_ne (x := Ob.dead) h2 (show d2 ≠ d3 by omega)
  have e1 := set_ne (x := Ob.dead) (set_ne (x := Ob.dead) h1 (show d1 ≠ d3 by omega)) (show d1 ≠ d2 by omega)
  refine ⟨((h.set d3 .dead).set d2 .dead).set d1 .dead, ?_, fun j ob n1 n2 n3 e => set_ne (set_ne (set_ne e n3) n2) n1⟩
  simp only [takeD, h3, e2, e1]
set_option maxRecDepth 20000 in
theorem W_last {n0 : Nat} {hh : H} {q8 d1 d2 d3 : Nat} {x2 x3 : Value} {ts : List Tlv} {HP : Value → H → Prop} (hHP : ∀ h, HP (.bool true) h)
    (B8 : hh[q8]? = some (.cells true (enc 0 4) [.bool false])) (F2 : Fu hh 5 26 x2 ts.length (tcells ts)) (F3 : Fu hh 5 26 x3 ts.length (tcells ts)) (hts : ts.length ≤ 1048576) (D23 : ∀ j, isBlk x2 j → ¬ isBlk x3 j)
    (N2 : ∀ j, isBlk x2 j → q8 < j ∧ j < d1) (N3 : ∀ j, isBlk x3 j → q8 < j ∧ j < d1) (h1 : hh[d1]? = some .dfr) (h2 : hh[d2]? = some .dfr) (h3 : hh[d3]? = some .dfr) (n0' : q8 < d1) (n1 : d1 < d2) (n2 : d2 < d3) :
    F10.p13 n0 [(8, .pointer (some ⟨q8, 0, none⟩)), (14, x2), (16, x3)] [d3, d2, d1] hh (KFin Try.prog [ResultVar.cell 8 4] HP) := by
  rw [F10.e13]
  unfold F10.t13
  refine (Apart_ok F2 rfl F3 rfl hts hts D23).mono ?_
  rintro v h4 ⟨rfl, P⟩
  replace B8 := P _ _ (fun e => by have := N2 _ e; omega) (fun e => by have := N3 _ e; omega) B8
  replace h1 := P _ _ (fun e => by have := N2 _ e; omega) (fun e => by have := N3 _ e; omega) h1
  replace h2 := P _ _ (fun e => by have := N2 _ e; omega) (fun e => by have := N3 _ e; omega) h2
  replace h3 := P _ _ (fun e => by have := N2 _ e; omega) (fun e => by have := N3 _ e; omega) h3
  rw [Gd_true]
  refine Works_ok.mono ?_
  rintro v h5 ⟨rfl, rfl⟩
  simp (disch := first | omega | assumption | exact isC_last | exact isC_app (by first | assumption | exact isC_last | exact isC_app (by first | assumption | exact isC_last)) | (simp [oneC]; done) | fail) only [evs0, evs1, evs2, evs3, evs4, evs5, evs6, evs7, evs8, evs9, evs10, evs11, evs12, evs13, if_true, if_false, ↓reduceIte, Nat.reduceEqDiff, Nat.reduceAdd, Nat.reduceMul, Nat.reduceSub, Nat.reduceLeDiff, Int.reduceLT, Int.reduceLE, Int.reduceEq, Bool.false_eq_true, Option.bind_some, Option.map_some, List.set_cons_zero, List.set_cons_succ, List.toList_toArray, List.size_toArray, List.length_cons, List.length_nil, List.getElem?_toArray, List.getElem?_cons_zero, List.getElem?_cons_succ, List.drop_zero, List.take_succ_cons, List.take_zero]
  refine Bnd_i (wr_cells B8 (by simp) rfl) ?_
  rw [over_one (by simp), List.set_cons_zero]
  have e8 := set_same (x := Ob.cells true (enc 0 4) [.bool true]) B8
  have k1 := set_ne (x := Ob.cells true (enc 0 4) [.bool true]) h1 (show d1 ≠ q8 by omega)
  have k2 := set_ne (x := Ob.cells true (enc 0 4) [.bool true]) h2 (show d2 ≠ q8 by omega)
  have k3 := set_ne (x := Ob.cells true (enc 0 4) [.bool true]) h3 (show d3 ≠ q8 by omega)
  obtain ⟨h', e1, e2⟩ := take3 k1 k2 k3 n1 n2
  refine Bnd_i e1 ?_
  have e9 := e2 _ _ (show q8 ≠ d1 by omega) (show q8 ≠ d2 by omega) (show q8 ≠ d3 by omega) e8
  simp (disch := first | omega | assumption | exact isC_last | exact isC_app (by first | assumption | exact isC_last | exact isC_app (by first | assumption | exact isC_last)) | (simp [oneC]; done) | fail) only [rd_cells e9, evs0, evs1, evs2, evs3, evs4, evs5, evs6, evs7, evs8, evs9, evs10, evs11, evs12, evs13, if_true, if_false, ↓reduceIte, Nat.reduceEqDiff, Nat.reduceAdd, Nat.reduceMul, Nat.reduceSub, Nat.reduceLeDiff, Int.reduceLT, Int.reduceLE, Int.reduceEq, Bool.false_eq_true, Option.bind_some, Option.map_some, List.set_cons_zero, List.set_cons_succ, List.toList_toArray, List.size_toArray, List.length_cons, List.length_nil, List.getElem?_toArray, List.getElem?_cons_zero, List.getElem?_cons_succ, List.drop_zero, List.take_succ_cons, List.take_zero]
  exact hHP _
set_option maxRecDepth 20000 in
theorem W_end {n0 : Nat} {hh : H} {q7 q8 q11 pb e0 : Nat} {x2 x3 pl y : Value} {stop : Int} {ts : List Tlv} {ps : List (Int × Tlv)} {HP : Value → H → Prop} (hHP : ∀ h, HP (.bool true) h)
    (B7 : hh[q7]? = some (.cells true (enc 0 3) [.int .i64 stop])) (B8 : hh[q8]? = some (.cells true (enc 0 4) [.bool false])) (B11 : hh[q11]? = some (.cells true (enc 0 67) [pl])) (F4 : Fu hh 6 75 pl ps.length (pcells ps)) (hp : ps.length ≤ 1048576)
    (HB : hh[pb]? = some (.cells true e0 [y])) (F5 : Fu hh 6 102 y ps.length (pcells ps)) (F2 : Fu hh 5 26 x2 ts.length (tcells ts)) (F3 : Fu hh 5 26 x3 ts.length (tcells ts)) (hts : ts.length ≤ 1048576) (D23 : ∀ j, isBlk x2 j → ¬ isBlk x3 j)
    (N2 : ∀ j, isBlk x2 j → q8 < j) (N3 : ∀ j, isBlk x3 j → q8 < j) :
    F10.p6 n0 [(7, .pointer (some ⟨q7, 0, none⟩)), (8, .pointer (some ⟨q8, 0, none⟩)), (11, .pointer (some ⟨q11, 0, none⟩)), (14, x2), (16, x3), (18, .func (.func 55) #[] #[.pointer (some ⟨pb, 0, none⟩)])] [] hh (KFin Try.prog [ResultVar.cell 8 4] HP) := by
  have hbl : ∀ {z : Value} {q : Nat} {l : List Tlv}, Fu hh 5 26 z q (tcells l) → ∀ j, isBlk z j → j < hh.length := by
    intro z q l F j e1
    rcases F with ⟨rfl, _, _⟩ | ⟨b2, rfl, _, hb, _⟩
    · exact absurd e1 isBlk_nil
    · rw [isBlk_some.1 e1]; exact lt_of_some hb
  have l2 := hbl F2
  have l3 := hbl F3
  have l8 := lt_of_some B8
  rw [F10.e6]
  unfold F10.t6
  refine lp7 ?_
  rw [lw_succ, f7]
  simp (disch := first | omega | assumption | exact isC_last | exact isC_app (by first | assumption | exact isC_last | exact isC_app (by first | assumption | exact isC_last)) | (simp [oneC]; done) | fail) only [evs0, evs1, evs2, evs3, evs4, evs5, evs6, evs7, evs8, evs9, evs10, evs11, evs12, evs13, if_true, if_false, ↓reduceIte, Nat.reduceEqDiff, Nat.reduceAdd, Nat.reduceMul, Nat.reduceSub, Nat.reduceLeDiff, Int.reduceLT, Int.reduceLE, Int.reduceEq, Bool.false_eq_true, Option.bind_some, Option.map_some, List.set_cons_zero, List.set_cons_succ, List.toList_toArray, List.size_toArray, List.length_cons, List.length_nil, List.getElem?_toArray, List.getElem?_cons_zero, List.getElem?_cons_succ, List.drop_zero, List.take_succ_cons, List.take_zero]
  rw [F10.e7]
  simp (disch := first | omega | assumption | exact isC_last | exact isC_app (by first | assumption | exact isC_last | exact isC_app (by first | assumption | exact isC_last)) | (simp [oneC]; done) | fail) only [F10.t7, evs0, evs1, evs2, evs3, evs4, evs5, evs6, evs7, evs8, evs9, evs10, evs11, evs12, evs13, if_true, if_false, ↓reduceIte, Nat.reduceEqDiff, Nat.reduceAdd, Nat.reduceMul, Nat.reduceSub, Nat.reduceLeDiff, Int.reduceLT, Int.reduceLE, Int.reduceEq, Bool.false_eq_true, Option.bind_some, Option.map_some, List.set_cons_zero, List.set_cons_succ, List.toList_toArray, List.size_toArray, List.length_cons, List.length_nil, List.getElem?_toArray, List.getElem?_cons_zero, List.getElem?_cons_succ, List.drop_zero, List.take_succ_cons, List.take_zero]
  refine W_range B11 F4 hp HB F5 (by omega) (by omega) ?_
  intro d1 g1 Y1 Ld1 Dd1
  have lg1 := lt_of_some Dd1
  rw [kw_n, lw_succ, f7]
  simp (disch := first | omega | assumption | exact isC_last | exact isC_app (by first | assumption | exact isC_last | exact isC_app (by first | assumption | exact isC_last)) | (simp [oneC]; done) | fail) only [evs0, evs1, evs2, evs3, evs4, evs5, evs6, evs7, evs8, evs9, evs10, evs11, evs12, evs13, if_true, if_false, ↓reduceIte, Nat.reduceEqDiff, Nat.reduceAdd, Nat.reduceMul, Nat.reduceSub, Nat.reduceLeDiff, Int.reduceLT, Int.reduceLE, Int.reduceEq, Bool.false_eq_true, Option.bind_some, Option.map_some, List.set_cons_zero, List.set_cons_succ, List.toList_toArray, List.size_toArray, List.length_cons, List.length_nil, List.getElem?_toArray, List.getElem?_cons_zero, List.getElem?_cons_succ, List.drop_zero, List.take_succ_cons, List.take_zero]
  rw [F10.e7]
  simp (disch := first | omega | assumption | exact isC_last | exact isC_app (by first | assumption | exact isC_last | exact isC_app (by first | assumption | exact isC_last)) | (simp [oneC]; done) | fail) only [F10.t7, evs0, evs1, evs2, evs3, evs4, evs5, evs6, evs7, evs8, evs9, evs10, evs11, evs12, evs13, if_true, if_false, ↓reduceIte, Nat.reduceEqDiff, Nat.reduceAdd, Nat.reduceMul, Nat.reduceSub, Nat.reduceLeDiff, Int.reduceLT, Int.reduceLE, Int.reduceEq, Bool.false_eq_true, Option.bind_some, Option.map_some, List.set_cons_zero, List.set_cons_succ, List.toList_toArray, List.size_toArray, List.length_cons, List.length_nil, List.getElem?_toArray, List.getElem?_cons_zero, List.getElem?_cons_succ, List.drop_zero, List.take_succ_cons, List.take_zero]
  rw [if_pos (by omega)]
  refine W_range (Y1 _ _ B11) (F4.keep fun j o _ e1 => Y1 _ _ e1) hp (Y1 _ _ HB) (F5.keep fun j o _ e1 => Y1 _ _ e1) (by omega) (by omega) ?_
  intro d2 g2 Y2 Ld2 Dd2
  have lg2 := lt_of_some Dd2
  rw [kw_n, lw_succ, f7]
  simp (disch := first | omega | assumption | exact isC_last | exact isC_app (by first | assumption | exact isC_last | exact isC_app (by first | assumption | exact isC_last)) | (simp [oneC]; done) | fail) only [evs0, evs1, evs2, evs3, evs4, evs5, evs6, evs7, evs8, evs9, evs10, evs11, evs12, evs13, if_true, if_false, ↓reduceIte, Nat.reduceEqDiff, Nat.reduceAdd, Nat.reduceMul, Nat.reduceSub, Nat.reduceLeDiff, Int.reduceLT, Int.reduceLE, Int.reduceEq, Bool.false_eq_true, Option.bind_some, Option.map_some, List.set_cons_zero, List.set_cons_succ, List.toList_toArray, List.size_toArray, List.length_cons, List.length_nil, List.getElem?_toArray, List.getElem?_cons_zero, List.getElem?_cons_succ, List.drop_zero, List.take_succ_cons, List.take_zero]
  rw [F10.e7]
  simp (disch := first | omega | assumption | exact isC_last | exact isC_app (by first | assumption | exact isC_last | exact isC_app (by first | assumption | exact isC_last)) | (simp [oneC]; done) | fail) only [F10.t7, kw_e, evs0, evs1, evs2, evs3, evs4, evs5, evs6, evs7, evs8, evs9, evs10, evs11, evs12, evs13, if_true, if_false, ↓reduceIte, Nat.reduceEqDiff, Nat.reduceAdd, Nat.reduceMul, Nat.reduceSub, Nat.reduceLeDiff, Int.reduceLT, Int.reduceLE, Int.reduceEq, Bool.false_eq_true, Option.bind_some, Option.map_some, List.set_cons_zero, List.set_cons_succ, List.toList_toArray, List.size_toArray, List.length_cons, List.length_nil, List.getElem?_toArray, List.getElem?_cons_zero, List.getElem?_cons_succ, List.drop_zero, List.take_succ_cons, List.take_zero]
  rw [if_neg (by omega)]
  refine V_range (Y2 _ _ (Y1 _ _ B7)) (Y2 _ _ (Y1 _ _ B11)) ((F4.keep (h' := g1) fun j o _ e1 => Y1 _ _ e1).keep fun j o _ e1 => Y2 _ _ e1) hp (Y2 _ _ (Y1 _ _ HB)) ((F5.keep (h' := g1) fun j o _ e1 => Y1 _ _ e1).keep fun j o _ e1 => Y2 _ _ e1) ?_
  intro d3 g3 Y3 Ld3 Dd3
  have Y : Ext hh g3 := (Y1.trans Y2).trans Y3
  exact W_last hHP (Y _ _ B8) (F2.keep fun j o _ e1 => Y _ _ e1) (F3.keep fun j o _ e1 => Y _ _ e1) hts D23 (fun j e => ⟨N2 j e, by have := l2 j e; omega⟩) (fun j e => ⟨N3 j e, by have := l3 j e; omega⟩) (Y3 _ _ (Y2 _ _ Dd1)) (Y3 _ _ Dd2) Dd3 (by omega) (by omega) (by omega)
end Go.Proofs.Ytknpmldldlbniaa
