/- The reference's items side by side; items compared. No condition. -/
import Derived.Test.YtknpmldldlbniaaScan
import Derived.Test.YtknpmldldlbniaaRefHead
set_option linter.unusedVariables false
set_option linter.unusedSimpArgs false
namespace Go.Proofs.Ytknpmldldlbniaa
open Go.Ev Ber
theorem Ext.len {a b : H} (X : Ext a b) : a.length ≤ b.length := by
  by_cases h : a.length = 0
  · omega
  · have := lt_of_some (X (a.length - 1) _ (List.getElem?_eq_getElem (by omega)))
    omega
def placesL (bs : List UInt8) (a e : Int) : List (Int × Tlv) := if a < 0 ∨ e < a ∨ bs.length < e then [] else (scan bs e (e - a).toNat a).1
def PlacesPost (bs : List UInt8) (a e : Int) (h : H) : Value → H → Prop := fun v h' => ∃ x, v = .tuple #[x, .int .i64 (wholeE bs a e)] ∧ Fu h' 6 75 x (placesL bs a e).length (pcells (placesL bs a e)) ∧ Ext h h' ∧ h.length ≤ h'.length ∧ ∀ j, isBlk x j → h.length ≤ j
set_option maxRecDepth 20000 in
theorem Places_ok {n0 : Nat} {h : H} {b : Value} {bs : List UInt8} {a0 e : Int} (S : Sl h 1 b (bs.map bv)) (hl : bs.length ≤ 1048576) (ha : -2 ^ 63 ≤ a0) (ha2 : a0 < 2 ^ 63) (he : -2 ^ 63 ≤ e) (he2 : e < 2 ^ 63) :
    Cn Try.prog n0 (.func 35) [b, .int .i64 a0, .int .i64 e] h (PlacesPost bs a0 e h) := by
  refine F35.enter ?_
  have fin : ∀ (n : Int) (l : List (Int × Tlv)) (x : Value) (u : H), wholeE bs a0 e = n → placesL bs a0 e = l → Fu u 6 75 x l.length (pcells l) → Ext h u → h.length ≤ u.length → (∀ j, isBlk x j → h.length ≤ j) → PlacesPost bs a0 e h (.tuple #[x, .int .i64 n]) u := fun n l x u hE hP hF X L N => ⟨_, by rw [hE], by rw [hP]; exact hF, X, L, N⟩
  generalize PlacesPost bs a0 e h = HP at fin
  obtain ⟨ad, c, rfl, hc⟩ := S.lenB
  rw [F35.e0]
  simp (disch := first | omega | assumption | exact isC_last | exact isC_app (by first | assumption | exact isC_last | exact isC_app (by first | assumption | exact isC_last)) | (simp [oneC]; done) | fail) only [F35.t0, evs0, evs1, evs2, evs3, evs4, evs5, evs6, evs7, evs8, evs9, evs10, evs11, evs12, evs13, if_true, if_false, ↓reduceIte, Nat.reduceEqDiff, Nat.reduceAdd, Nat.reduceMul, Nat.reduceSub, Nat.reduceLeDiff, Int.reduceLT, Int.reduceLE, Int.reduceEq, Bool.false_eq_true, Option.bind_some, Option.map_some, List.set_cons_zero, List.set_cons_succ, List.toList_toArray, List.size_toArray, List.length_cons, List.length_nil, List.getElem?_toArray, List.getElem?_cons_zero, List.getElem?_cons_succ, List.drop_zero, List.take_succ_cons, List.take_zero]
  by_cases hbad : a0 < 0 ∨ e < a0 ∨ (bs.length : Int) < e
  · have bad : F35.p1 n0 [(0, Value.slice ad bs.length c), (1, .int .i64 a0), (2, .int .i64 e)] [] h (KSeq [0, 1, 2] (F35.p2 n0) (KFin Try.prog [ResultVar.tmp 6, ResultVar.tmp 7] HP)) := by
      rw [F35.e1]
      simp (disch := first | omega | assumption | exact isC_last | exact isC_app (by first | assumption | exact isC_last | exact isC_app (by first | assumption | exact isC_last)) | (simp [oneC]; done) | fail) only [F35.t1, evs0, evs1, evs2, evs3, evs4, evs5, evs6, evs7, evs8, evs9, evs10, evs11, evs12, evs13, if_true, if_false, ↓reduceIte, Nat.reduceEqDiff, Nat.reduceAdd, Nat.reduceMul, Nat.reduceSub, Nat.reduceLeDiff, Int.reduceLT, Int.reduceLE, Int.reduceEq, Bool.false_eq_true, Option.bind_some, Option.map_some, List.set_cons_zero, List.set_cons_succ, List.toList_toArray, List.size_toArray, List.length_cons, List.length_nil, List.getElem?_toArray, List.getElem?_cons_zero, List.getElem?_cons_succ, List.drop_zero, List.take_succ_cons, List.take_zero]
      exact fin 2 [] _ _ (by unfold wholeE; rw [if_pos hbad]) (by unfold placesL; rw [if_pos hbad]) Fu.nil (Ext.refl _) (Nat.le_refl _) (fun j e => absurd e isBlk_nil)
    by_cases h1 : a0 < 0
    · rw [if_pos h1]; exact bad
    rw [if_neg h1]
    by_cases h2 : e < a0
    · rw [if_pos h2]; exact bad
    rw [if_neg h2, if_pos (by omega)]; exact bad
  rw [if_neg (by omega), if_neg (by omega), if_neg (by omega), F35.e2]
  have hE : wholeE bs a0 e = if (scan bs e (e - a0).toNat a0).2 < e then (headS bs (scan bs e (e - a0).toNat a0).2 e).2 else 0 := by unfold wholeE; rw [if_neg hbad]
  have hP : placesL bs a0 e = (scan bs e (e - a0).toNat a0).1 := by unfold placesL; rw [if_neg hbad]
  simp (disch := first | omega | assumption | exact isC_last | exact isC_app (by first | assumption | exact isC_last | exact isC_app (by first | assumption | exact isC_last)) | (simp [oneC]; done) | fail) only [F35.t2, evs0, evs1, evs2, evs3, evs4, evs5, evs6, evs7, evs8, evs9, evs10, evs11, evs12, evs13, if_true, if_false, ↓reduceIte, Nat.reduceEqDiff, Nat.reduceAdd, Nat.reduceMul, Nat.reduceSub, Nat.reduceLeDiff, Int.reduceLT, Int.reduceLE, Int.reduceEq, Bool.false_eq_true, Option.bind_some, Option.map_some, List.set_cons_zero, List.set_cons_succ, List.toList_toArray, List.size_toArray, List.length_cons, List.length_nil, List.getElem?_toArray, List.getElem?_cons_zero, List.getElem?_cons_succ, List.drop_zero, List.take_succ_cons, List.take_zero]
  generalize hN : (e - a0).toNat = N at *
  refine Lp_ind (fun m fr hh => ∃ (n : Nat) (a : Int) (l : List (Int × Tlv)) (x : Value), fr = [(0, Value.slice ad bs.length c), (2, .int .i64 e), (8, x), (9, .int .i64 a)] ∧ scan bs e N a0 = (l ++ (scan bs e n a).1, (scan bs e n a).2) ∧ l.length + n ≤ N ∧ 0 ≤ a ∧ a ≤ e ∧ e - a ≤ n ∧
      Fu hh 6 75 x l.length (pcells l) ∧ Ext h hh ∧ h.length ≤ hh.length ∧ (∀ j, isBlk x j → h.length ≤ j) ∧ m = n) (F35.m3 n0) N
    ⟨N, a0, [], _, by simp (disch := first | omega | assumption | exact isC_last | exact isC_app (by first | assumption | exact isC_last | exact isC_app (by first | assumption | exact isC_last)) | (simp [oneC]; done) | fail) only [evs0, evs1, evs2, evs3, evs4, evs5, evs6, evs7, evs8, evs9, evs10, evs11, evs12, evs13, if_true, if_false, ↓reduceIte, Nat.reduceEqDiff, Nat.reduceAdd, Nat.reduceMul, Nat.reduceSub, Nat.reduceLeDiff, Int.reduceLT, Int.reduceLE, Int.reduceEq, Bool.false_eq_true, Option.bind_some, Option.map_some, List.set_cons_zero, List.set_cons_succ, List.toList_toArray, List.size_toArray, List.length_cons, List.length_nil, List.getElem?_toArray, List.getElem?_cons_zero, List.getElem?_cons_succ, List.drop_zero, List.take_succ_cons, List.take_zero], rfl, by simp, by omega, by omega, by omega, Fu.nil, Ext.refl _, Nat.le_refl _, fun j e => absurd e isBlk_nil, rfl⟩ ?_
  rintro m fr hh ⟨n, a, l, x, rfl, hs, hln, ha0, hae, hm, F, X, L, Nn, rfl⟩
  have hxl : ∀ j, isBlk x j → j < hh.length := by
    intro j e1
    rcases F with ⟨rfl, _, _⟩ | ⟨b2, rfl, _, hb, _⟩
    · exact absurd e1 isBlk_nil
    · rw [isBlk_some.1 e1]; exact lt_of_some hb
  rw [F35.e3]
  simp (disch := first | omega | assumption | exact isC_last | exact isC_app (by first | assumption | exact isC_last | exact isC_app (by first | assumption | exact isC_last)) | (simp [oneC]; done) | fail) only [F35.t3, evs0, evs1, evs2, evs3, evs4, evs5, evs6, evs7, evs8, evs9, evs10, evs11, evs12, evs13, if_true, if_false, ↓reduceIte, Nat.reduceEqDiff, Nat.reduceAdd, Nat.reduceMul, Nat.reduceSub, Nat.reduceLeDiff, Int.reduceLT, Int.reduceLE, Int.reduceEq, Bool.false_eq_true, Option.bind_some, Option.map_some, List.set_cons_zero, List.set_cons_succ, List.toList_toArray, List.size_toArray, List.length_cons, List.length_nil, List.getElem?_toArray, List.getElem?_cons_zero, List.getElem?_cons_succ, List.drop_zero, List.take_succ_cons, List.take_zero]
  by_cases hlt : a < e
  · rw [if_pos hlt, F35.e4]
    unfold F35.t4
    refine (RefHead_ok (S.ext X) (by omega) (by omega) (by omega) he he2).mono ?_
    rintro v h2 ⟨⟨t3, rfl⟩, rfl⟩
    refine Bnd_i (a := (headS bs a e).1.v) rfl (Bnd_i (a := .int .i64 (headS bs a e).2) rfl (NwSt sz_26 (by rw [zc_26]; rfl) rfl fun p1 h3 X3 b1 => ?_))
    have hp1 := lt_of_some b1
    replace X3 := (Ext.app hh t3).trans X3
    have L3 : hh.length ≤ h3.length := Ext.len X3
    simp only [Tlv.v, cells_agg, List.toList_toArray] at b1
    simp (disch := first | omega | assumption | exact isC_last | exact isC_app (by first | assumption | exact isC_last | exact isC_app (by first | assumption | exact isC_last)) | (simp [oneC]; done) | fail) only [evs0, evs1, evs2, evs3, evs4, evs5, evs6, evs7, evs8, evs9, evs10, evs11, evs12, evs13, if_true, if_false, ↓reduceIte, Nat.reduceEqDiff, Nat.reduceAdd, Nat.reduceMul, Nat.reduceSub, Nat.reduceLeDiff, Int.reduceLT, Int.reduceLE, Int.reduceEq, Bool.false_eq_true, Option.bind_some, Option.map_some, List.set_cons_zero, List.set_cons_succ, List.toList_toArray, List.size_toArray, List.length_cons, List.length_nil, List.getElem?_toArray, List.getElem?_cons_zero, List.getElem?_cons_succ, List.drop_zero, List.take_succ_cons, List.take_zero]
    by_cases h0 : (headS bs a e).2 = 0
    · rw [if_pos h0, F35.e6]
      simp (disch := first | omega | assumption | exact isC_last | exact isC_app (by first | assumption | exact isC_last | exact isC_app (by first | assumption | exact isC_last)) | (simp [oneC]; done) | fail) only [F35.t6, rd_blk0 (n := 5) b1 rfl, evs0, evs1, evs2, evs3, evs4, evs5, evs6, evs7, evs8, evs9, evs10, evs11, evs12, evs13, if_true, if_false, ↓reduceIte, Nat.reduceEqDiff, Nat.reduceAdd, Nat.reduceMul, Nat.reduceSub, Nat.reduceLeDiff, Int.reduceLT, Int.reduceLE, Int.reduceEq, Bool.false_eq_true, Option.bind_some, Option.map_some, List.set_cons_zero, List.set_cons_succ, List.toList_toArray, List.size_toArray, List.length_cons, List.length_nil, List.getElem?_toArray, List.getElem?_cons_zero, List.getElem?_cons_succ, List.drop_zero, List.take_succ_cons, List.take_zero]
      have S1 : Sl (h3 ++ [Ob.cells true (enc 6 75) (pv (a, (headS bs a e).1)).cells.toList]) 6 (.slice (some ⟨h3.length, 0, none⟩) 1 1) (pv (a, (headS bs a e).1)).cells.toList := Sl.mk (o := 0) get_last (eS_enc' (by omega)) rfl rfl (Nat.le_refl _)
      obtain ⟨x', h4, e4, F4, B4, N4⟩ := ((F.keep fun j o _ e1 => X3 _ _ e1).keep (h' := h3 ++ [Ob.cells true (enc 6 75) (pv (a, (headS bs a e).1)).cells.toList]) fun j o _ e1 => get_app e1).append (m := 1) el_67 sz_75 ze_75 by_75 rfl (by omega) (by omega) (rdN_sl S1) rfl rfl (by omega) (by omega)
      refine Bnd2_i e4 ?_
      have hb4 := B4.1
      rw [List.length_append] at hb4
      have hpx : ¬ isBlk x p1 := by
        intro e1
        rcases F with ⟨rfl, _, _⟩ | ⟨b2, rfl, _, hb, _⟩
        · exact absurd e1 isBlk_nil
        · have e2 := isBlk_some.1 e1
          simp only at e2
          rw [e2, X3 _ _ hb] at b1
          simp only [Option.some.injEq, Ob.cells.injEq] at b1
          exact absurd b1.2.1 (by decide)
      refine Bnd_i (a := .int .i64 (headS bs a e).1.to) (by rw [rd_cells (B4.2 _ _ hpx (get_app b1))]; rfl) ?_
      obtain ⟨n', rfl⟩ : ∃ n', m = n' + 1 := ⟨m - 1, by omega⟩
      rw [scan_go hlt h0] at hs
      obtain ⟨k1, k2, k3, k4, k5⟩ := headS_ok h0
      refine ⟨trivial, n', by omega, n', _, l ++ [(a, (headS bs a e).1)], x', rfl, by rw [hs]; simp, by simp; omega, by omega, by omega, by omega, ?_, ?_, by omega, ?_, rfl⟩
      · simpa [pcells] using F4
      · intro i o e1
        refine B4.2 _ _ (fun e2 => ?_) (get_app (X3 _ _ (X _ _ e1)))
        have := Nn _ e2
        have := lt_of_some e1
        omega
      · intro j e1
        rcases N4 _ e1 with e1 | e1
        · exact Nn _ e1
        · rw [e1, List.length_append]; omega
    · rw [if_neg h0, F35.e5]
      simp (disch := first | omega | assumption | exact isC_last | exact isC_app (by first | assumption | exact isC_last | exact isC_app (by first | assumption | exact isC_last)) | (simp [oneC]; done) | fail) only [F35.t5, evs0, evs1, evs2, evs3, evs4, evs5, evs6, evs7, evs8, evs9, evs10, evs11, evs12, evs13, if_true, if_false, ↓reduceIte, Nat.reduceEqDiff, Nat.reduceAdd, Nat.reduceMul, Nat.reduceSub, Nat.reduceLeDiff, Int.reduceLT, Int.reduceLE, Int.reduceEq, Bool.false_eq_true, Option.bind_some, Option.map_some, List.set_cons_zero, List.set_cons_succ, List.toList_toArray, List.size_toArray, List.length_cons, List.length_nil, List.getElem?_toArray, List.getElem?_cons_zero, List.getElem?_cons_succ, List.drop_zero, List.take_succ_cons, List.take_zero]
      rw [scan_stop (fun h => h0 h.2), List.append_nil] at hs
      rw [hs] at hE hP
      exact fin _ _ _ _ (by rw [hE, if_pos hlt]) hP (F.keep fun j o _ e1 => X3 _ _ e1) (X.trans X3) (by omega) Nn
  · rw [if_neg hlt, F35.e7]
    simp (disch := first | omega | assumption | exact isC_last | exact isC_app (by first | assumption | exact isC_last | exact isC_app (by first | assumption | exact isC_last)) | (simp [oneC]; done) | fail) only [F35.t7, evs0, evs1, evs2, evs3, evs4, evs5, evs6, evs7, evs8, evs9, evs10, evs11, evs12, evs13, if_true, if_false, ↓reduceIte, Nat.reduceEqDiff, Nat.reduceAdd, Nat.reduceMul, Nat.reduceSub, Nat.reduceLeDiff, Int.reduceLT, Int.reduceLE, Int.reduceEq, Bool.false_eq_true, Option.bind_some, Option.map_some, List.set_cons_zero, List.set_cons_succ, List.toList_toArray, List.size_toArray, List.length_cons, List.length_nil, List.getElem?_toArray, List.getElem?_cons_zero, List.getElem?_cons_succ, List.drop_zero, List.take_succ_cons, List.take_zero]
    rw [scan_stop (fun h => hlt h.1), List.append_nil] at hs
    rw [hs] at hE hP
    exact fin _ _ _ _ (by rw [hE, if_neg hlt]) hP F X L Nn
theorem part_rd {h : H} {b2 : Nat} {e : Nat} {ps : List (Int × Tlv)} (hb2 : h[b2]? = some (.cells true e (pcells ps))) (hl2 : (pcells ps).length = ps.length * 6) {i : Nat} {p : Int × Tlv} (hp : ps[i]? = some p) : rdN h b2 (i * 6 + 1) 5 = some p.2.v.cells.toList := by
  have hi := lt_of_some hp
  rw [rdN_blk hb2 5 (i * 6 + 1) (by omega)]
  have hpl : ∀ a : Int × Tlv, (pv a).cells.toList.length = 6 := fun _ => rfl
  have := chunk hpl ps i p hp
  unfold pcells
  rw [← List.drop_drop]
  have e : List.take 5 (List.drop 1 (List.drop (i * 6) (ps.map fun t => (pv t).cells.toList).flatten)) = (List.take 6 (List.drop (i * 6) (ps.map fun t => (pv t).cells.toList).flatten)).drop 1 := by rw [List.drop_take]
  rw [e, this]
  rfl
set_option maxRecDepth 20000 in
theorem RWhole_ok {n0 : Nat} {h : H} {b : Value} {bs : List UInt8} {a0 e : Int} (S : Sl h 1 b (bs.map bv)) (hl : bs.length ≤ 1048576) (ha : -2 ^ 63 ≤ a0) (ha2 : a0 < 2 ^ 63) (he : -2 ^ 63 ≤ e) (he2 : e < 2 ^ 63) :
    Cn Try.prog n0 (.func 34) [b, .int .i64 a0, .int .i64 e] h (WholePost bs a0 e h) := by
  refine F34.enter ?_
  have err : ∀ (n : Int) (u : H), n ≠ 0 → wholeE bs a0 e = n → Ext h u → h.length ≤ u.length → WholePost bs a0 e h (.tuple #[.slice none 0 0, .int .i64 n]) u := fun n u hn hE X L => ⟨_, by rw [hE], by unfold wholeL; rw [hE, if_neg hn]; exact Fu.nil, X, L, fun j e => absurd e isBlk_nil⟩
  have fin : ∀ (x : Value) (u : H), wholeE bs a0 e = 0 → Fu u 5 26 x ((placesL bs a0 e).map Prod.snd).length (tcells ((placesL bs a0 e).map Prod.snd)) → Ext h u → h.length ≤ u.length → (∀ j, isBlk x j → h.length ≤ j) → WholePost bs a0 e h (.tuple #[x, .int .i64 0]) u := fun x u hE hF X L N => ⟨_, by rw [hE], by
    have hb : ¬ (a0 < 0 ∨ e < a0 ∨ bs.length < e) := fun hb => by unfold wholeE at hE; rw [if_pos hb] at hE; cases hE
    unfold wholeL
    unfold placesL at hF
    rw [if_neg hb] at hF
    rw [hE, if_pos rfl]; exact hF, X, L, N⟩
  generalize WholePost bs a0 e h = HP at err fin
  rw [F34.e0]
  unfold F34.t0
  refine (Places_ok S hl ha ha2 he he2).mono ?_
  rintro v h1 ⟨x, rfl, F1, X1, L1, N1⟩
  have hpl : (placesL bs a0 e).length ≤ 1048576 := by
    unfold placesL
    split
    · simp
    · have := scan_len (bs := bs) (e := e) (e - a0).toNat a0
      omega
  generalize placesL bs a0 e = ps at F1 fin hpl
  simp (disch := first | omega | assumption | exact isC_last | exact isC_app (by first | assumption | exact isC_last | exact isC_app (by first | assumption | exact isC_last)) | (simp [oneC]; done) | fail) only [evs0, evs1, evs2, evs3, evs4, evs5, evs6, evs7, evs8, evs9, evs10, evs11, evs12, evs13, if_true, if_false, ↓reduceIte, Nat.reduceEqDiff, Nat.reduceAdd, Nat.reduceMul, Nat.reduceSub, Nat.reduceLeDiff, Int.reduceLT, Int.reduceLE, Int.reduceEq, Bool.false_eq_true, Option.bind_some, Option.map_some, List.set_cons_zero, List.set_cons_succ, List.toList_toArray, List.size_toArray, List.length_cons, List.length_nil, List.getElem?_toArray, List.getElem?_cons_zero, List.getElem?_cons_succ, List.drop_zero, List.take_succ_cons, List.take_zero]
  by_cases h0 : wholeE bs a0 e = 0
  rotate_left
  · rw [if_neg h0, F34.e1]
    simp (disch := first | omega | assumption | exact isC_last | exact isC_app (by first | assumption | exact isC_last | exact isC_app (by first | assumption | exact isC_last)) | (simp [oneC]; done) | fail) only [F34.t1, evs0, evs1, evs2, evs3, evs4, evs5, evs6, evs7, evs8, evs9, evs10, evs11, evs12, evs13, if_true, if_false, ↓reduceIte, Nat.reduceEqDiff, Nat.reduceAdd, Nat.reduceMul, Nat.reduceSub, Nat.reduceLeDiff, Int.reduceLT, Int.reduceLE, Int.reduceEq, Bool.false_eq_true, Option.bind_some, Option.map_some, List.set_cons_zero, List.set_cons_succ, List.toList_toArray, List.size_toArray, List.length_cons, List.length_nil, List.getElem?_toArray, List.getElem?_cons_zero, List.getElem?_cons_succ, List.drop_zero, List.take_succ_cons, List.take_zero]
    exact err _ _ h0 rfl X1 L1
  rw [if_pos h0, F34.e2]
  simp (disch := first | omega | assumption | exact isC_last | exact isC_app (by first | assumption | exact isC_last | exact isC_app (by first | assumption | exact isC_last)) | (simp [oneC]; done) | fail) only [F34.t2, evs0, evs1, evs2, evs3, evs4, evs5, evs6, evs7, evs8, evs9, evs10, evs11, evs12, evs13, if_true, if_false, ↓reduceIte, Nat.reduceEqDiff, Nat.reduceAdd, Nat.reduceMul, Nat.reduceSub, Nat.reduceLeDiff, Int.reduceLT, Int.reduceLE, Int.reduceEq, Bool.false_eq_true, Option.bind_some, Option.map_some, List.set_cons_zero, List.set_cons_succ, List.toList_toArray, List.size_toArray, List.length_cons, List.length_nil, List.getElem?_toArray, List.getElem?_cons_zero, List.getElem?_cons_succ, List.drop_zero, List.take_succ_cons, List.take_zero]
  obtain ⟨a, rfl⟩ := F1.form
  refine Lp_ind (fun m fr hh => ∃ (i : Nat) (y : Value), fr = [(8, .slice a ps.length ps.length), (10, y), (11, .int .i64 i)] ∧ i ≤ ps.length ∧ Ext h1 hh ∧ Fu hh 5 26 y i (tcells ((ps.take i).map Prod.snd)) ∧ (∀ j, isBlk y j → h1.length ≤ j) ∧ m = ps.length - i) (F34.m3 n0) ps.length
    ⟨0, _, by simp (disch := first | omega | assumption | exact isC_last | exact isC_app (by first | assumption | exact isC_last | exact isC_app (by first | assumption | exact isC_last)) | (simp [oneC]; done) | fail) only [evs0, evs1, evs2, evs3, evs4, evs5, evs6, evs7, evs8, evs9, evs10, evs11, evs12, evs13, if_true, if_false, ↓reduceIte, Nat.reduceEqDiff, Nat.reduceAdd, Nat.reduceMul, Nat.reduceSub, Nat.reduceLeDiff, Int.reduceLT, Int.reduceLE, Int.reduceEq, Bool.false_eq_true, Option.bind_some, Option.map_some, List.set_cons_zero, List.set_cons_succ, List.toList_toArray, List.size_toArray, List.length_cons, List.length_nil, List.getElem?_toArray, List.getElem?_cons_zero, List.getElem?_cons_succ, List.drop_zero, List.take_succ_cons, List.take_zero]; rfl, by omega, Ext.refl _, Fu.nil, fun j e => absurd e isBlk_nil, rfl⟩ ?_
  rintro m fr hh ⟨i, y, rfl, hi, X, F, Ny, rfl⟩
  have hh1 := Ext.len X
  rw [F34.e3]
  simp (disch := first | omega | assumption | exact isC_last | exact isC_app (by first | assumption | exact isC_last | exact isC_app (by first | assumption | exact isC_last)) | (simp [oneC]; done) | fail) only [F34.t3, evs0, evs1, evs2, evs3, evs4, evs5, evs6, evs7, evs8, evs9, evs10, evs11, evs12, evs13, if_true, if_false, ↓reduceIte, Nat.reduceEqDiff, Nat.reduceAdd, Nat.reduceMul, Nat.reduceSub, Nat.reduceLeDiff, Int.reduceLT, Int.reduceLE, Int.reduceEq, Bool.false_eq_true, Option.bind_some, Option.map_some, List.set_cons_zero, List.set_cons_succ, List.toList_toArray, List.size_toArray, List.length_cons, List.length_nil, List.getElem?_toArray, List.getElem?_cons_zero, List.getElem?_cons_succ, List.drop_zero, List.take_succ_cons, List.take_zero]
  by_cases hi2 : i < ps.length
  · rw [if_pos (by omega), F34.e4]
    obtain ⟨p, hp⟩ : ∃ p, ps[i]? = some p := ⟨ps[i], List.getElem?_eq_getElem hi2⟩
    rcases F1.keep fun j o _ e1 => X j o e1 with ⟨_, h00, _⟩ | ⟨b2, hv, hn, hb2, hl2⟩
    · omega
    simp only [Value.slice.injEq] at hv
    obtain ⟨rfl, _, _⟩ := hv
    have hrd := part_rd hb2 hl2 hp
    simp (disch := first | omega | assumption | exact isC_last | exact isC_app (by first | assumption | exact isC_last | exact isC_app (by first | assumption | exact isC_last)) | (simp [oneC]; done) | fail) only [F34.t4, Nat.zero_add, Int.toNat_natCast, evs0, evs1, evs2, evs3, evs4, evs5, evs6, evs7, evs8, evs9, evs10, evs11, evs12, evs13, if_true, if_false, ↓reduceIte, Nat.reduceEqDiff, Nat.reduceAdd, Nat.reduceMul, Nat.reduceSub, Nat.reduceLeDiff, Int.reduceLT, Int.reduceLE, Int.reduceEq, Bool.false_eq_true, Option.bind_some, Option.map_some, List.set_cons_zero, List.set_cons_succ, List.toList_toArray, List.size_toArray, List.length_cons, List.length_nil, List.getElem?_toArray, List.getElem?_cons_zero, List.getElem?_cons_succ, List.drop_zero, List.take_succ_cons, List.take_zero]
    rw [if_pos (by omega)]
    simp (disch := first | omega | assumption | exact isC_last | exact isC_app (by first | assumption | exact isC_last | exact isC_app (by first | assumption | exact isC_last)) | (simp [oneC]; done) | fail) only [hrd, Tlv.v, evs0, evs1, evs2, evs3, evs4, evs5, evs6, evs7, evs8, evs9, evs10, evs11, evs12, evs13, if_true, if_false, ↓reduceIte, Nat.reduceEqDiff, Nat.reduceAdd, Nat.reduceMul, Nat.reduceSub, Nat.reduceLeDiff, Int.reduceLT, Int.reduceLE, Int.reduceEq, Bool.false_eq_true, Option.bind_some, Option.map_some, List.set_cons_zero, List.set_cons_succ, List.toList_toArray, List.size_toArray, List.length_cons, List.length_nil, List.getElem?_toArray, List.getElem?_cons_zero, List.getElem?_cons_succ, List.drop_zero, List.take_succ_cons, List.take_zero]
    have S1 : Sl (hh ++ [Ob.cells true (enc 5 26) p.2.v.cells.toList]) 5 (.slice (some ⟨hh.length, 0, none⟩) 1 1) p.2.v.cells.toList := Sl.mk (o := 0) get_last (eS_enc' (by omega)) rfl rfl (Nat.le_refl _)
    obtain ⟨x', h4, e4, F4, B4, N4⟩ := (F.keep (h' := hh ++ [Ob.cells true (enc 5 26) p.2.v.cells.toList]) fun j o _ e1 => get_app e1).append (m := 1) el_64 sz_26 ze_26 by_26 rfl (by omega) (by omega) (rdN_sl S1) rfl rfl (by omega) (by omega)
    refine Bnd2_i e4 ?_
    rw [F34.e5]
    simp (disch := first | omega | assumption | exact isC_last | exact isC_app (by first | assumption | exact isC_last | exact isC_app (by first | assumption | exact isC_last)) | (simp [oneC]; done) | fail) only [F34.t5, evs0, evs1, evs2, evs3, evs4, evs5, evs6, evs7, evs8, evs9, evs10, evs11, evs12, evs13, if_true, if_false, ↓reduceIte, Nat.reduceEqDiff, Nat.reduceAdd, Nat.reduceMul, Nat.reduceSub, Nat.reduceLeDiff, Int.reduceLT, Int.reduceLE, Int.reduceEq, Bool.false_eq_true, Option.bind_some, Option.map_some, List.set_cons_zero, List.set_cons_succ, List.toList_toArray, List.size_toArray, List.length_cons, List.length_nil, List.getElem?_toArray, List.getElem?_cons_zero, List.getElem?_cons_succ, List.drop_zero, List.take_succ_cons, List.take_zero]
    rw [IntWalk.i64_in _ (by omega)]
    have hb4 := B4.1
    rw [List.length_append] at hb4
    refine ⟨trivial, ps.length - (i + 1), by omega, i + 1, x', rfl, by omega, ?_, ?_, ?_, rfl⟩
    · intro j o e1
      refine B4.2 _ _ (fun e2 => ?_) (get_app (X _ _ e1))
      have := Ny _ e2
      have := lt_of_some e1
      omega
    · rw [List.take_add_one, hp]
      simpa [tcells] using F4
    · intro j e1
      rcases N4 _ e1 with e1 | e1
      · exact Ny _ e1
      · rw [e1, List.length_append]; omega
  · rw [if_neg (by omega), F34.e6]
    simp (disch := first | omega | assumption | exact isC_last | exact isC_app (by first | assumption | exact isC_last | exact isC_app (by first | assumption | exact isC_last)) | (simp [oneC]; done) | fail) only [F34.t6, evs0, evs1, evs2, evs3, evs4, evs5, evs6, evs7, evs8, evs9, evs10, evs11, evs12, evs13, if_true, if_false, ↓reduceIte, Nat.reduceEqDiff, Nat.reduceAdd, Nat.reduceMul, Nat.reduceSub, Nat.reduceLeDiff, Int.reduceLT, Int.reduceLE, Int.reduceEq, Bool.false_eq_true, Option.bind_some, Option.map_some, List.set_cons_zero, List.set_cons_succ, List.toList_toArray, List.size_toArray, List.length_cons, List.length_nil, List.getElem?_toArray, List.getElem?_cons_zero, List.getElem?_cons_succ, List.drop_zero, List.take_succ_cons, List.take_zero]
    obtain rfl : i = ps.length := by omega
    rw [List.take_length] at F
    exact fin _ _ h0 (by rw [List.length_map]; exact F) (X1.trans X) (by omega) (fun j e => by have := Ny j e; omega)
end Go.Proofs.Ytknpmldldlbniaa
