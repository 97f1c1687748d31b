/- Items side by side: what is found, and the program's Whole and Each. No condition. -/
import Derived.Test.YtknpmldldlbniaaHead
import Derived.Test.YtknpmldldlbniaaOwn
import Derived.Test.YtknpmldldlbniaaFc
set_option linter.unusedVariables false
set_option linter.unusedSimpArgs false
namespace Ber
open Go Go.Ev
/-- the items from a place on, and the place where they end -/
def scan (bs : List UInt8) (e : Int) : Nat → Int → List (Int × Tlv) × Int
  | 0, a => ([], a)
  | n + 1, a => if a < e ∧ (headS bs a e).2 = 0 then ((a, (headS bs a e).1) :: (scan bs e n (headS bs a e).1.to).1, (scan bs e n (headS bs a e).1.to).2) else ([], a)
theorem fin_ok {tag n : Nat} {f e : Int} (h : (fin tag f e n).2 = 0) : (fin tag f e n).1.frm = f ∧ f ≤ (fin tag f e n).1.to ∧ (fin tag f e n).1.to ≤ e := by
  unfold fin at h ⊢
  split at h
  · cases h
  · rename_i hn
    rw [if_neg hn]
    exact ⟨rfl, by show f ≤ f + (n : Int); omega, by show f + (n : Int) ≤ e; omega⟩
theorem headS_ok {bs : List UInt8} {a e : Int} (h : (headS bs a e).2 = 0) : 0 ≤ a ∧ e ≤ bs.length ∧ a + 2 ≤ (headS bs a e).1.frm ∧ (headS bs a e).1.frm ≤ (headS bs a e).1.to ∧ (headS bs a e).1.to ≤ e := by
  unfold headS at h ⊢
  split at h
  · cases h
  rename_i h1
  rw [if_neg h1]
  split at h
  · cases h
  rename_i h2
  rw [if_neg h2]
  simp only at h ⊢
  split at h
  · cases h
  rename_i h3
  rw [if_neg h3]
  split at h
  · cases h
  rename_i h4
  rw [if_neg h4]
  split at h
  · cases h
  rename_i h5
  rw [if_neg h5]
  split at h
  · rename_i h6
    rw [if_pos h6]
    have := fin_ok h
    omega
  · rename_i h6
    rw [if_neg h6]
    split at h
    · cases h
    · rename_i h7
      rw [if_neg h7]
      have := fin_ok h
      omega
theorem scan_stop {bs : List UInt8} {e a : Int} {n : Nat} (h : ¬ (a < e ∧ (headS bs a e).2 = 0)) : scan bs e n a = ([], a) := by
  cases n with
  | zero => rfl
  | succ n => unfold scan; rw [if_neg h]
theorem scan_go {bs : List UInt8} {e a : Int} {n : Nat} (h : a < e) (h2 : (headS bs a e).2 = 0) : scan bs e (n + 1) a = ((a, (headS bs a e).1) :: (scan bs e n (headS bs a e).1.to).1, (scan bs e n (headS bs a e).1.to).2) := by
  conv => lhs; unfold scan
  rw [if_pos ⟨h, h2⟩]
theorem scan_len {bs : List UInt8} {e : Int} : ∀ (n : Nat) (a : Int), (scan bs e n a).1.length ≤ n
  | 0, a => by simp [scan]
  | n + 1, a => by
    unfold scan
    split
    · simp only [List.length_cons]; have := scan_len (bs := bs) (e := e) n (headS bs a e).1.to; omega
    · simp
def tcells (ts : List Tlv) : List Value := (ts.map fun t => t.v.cells.toList).flatten
def pv (p : Int × Tlv) : Value := .agg #[.int .i64 p.1, .int .i8 p.2.cls, .bool p.2.cons, .int .i64 p.2.num, .int .i64 p.2.frm, .int .i64 p.2.to]
def pcells (ps : List (Int × Tlv)) : List Value := (ps.map fun t => (pv t).cells.toList).flatten
theorem chunk {α : Type} {f : α → List Value} {s : Nat} (hf : ∀ a, (f a).length = s) : ∀ (l : List α) (i : Nat) (x : α), l[i]? = some x → ((l.map f).flatten.drop (i * s)).take s = f x
  | y :: r, 0, x, h => by
    simp only [List.getElem?_cons_zero, Option.some.injEq] at h
    subst h
    simp [← hf y]
  | y :: r, i + 1, x, h => by
    simp only [List.getElem?_cons_succ] at h
    simp only [List.map_cons, List.flatten_cons]
    rw [show (i + 1) * s = (f y).length + i * s from by rw [hf, Nat.add_mul]; omega, List.drop_length_add_append]
    exact chunk hf r i x h
  | [], i, x, h => by simp at h
theorem chunk_len {α : Type} {f : α → List Value} {s : Nat} (hf : ∀ a, (f a).length = s) : ∀ (l : List α), (l.map f).flatten.length = l.length * s
  | [] => by simp
  | y :: r => by simp only [List.map_cons, List.flatten_cons, List.length_append, hf, List.length_cons, chunk_len hf r, Nat.add_mul]; omega
end Ber
namespace Go.Proofs.Ytknpmldldlbniaa
open Go.Ev Ber
def wholeE (bs : List UInt8) (a e : Int) : Int := if a < 0 ∨ e < a ∨ bs.length < e then 2 else if (scan bs e (e - a).toNat a).2 < e then (headS bs (scan bs e (e - a).toNat a).2 e).2 else 0
def wholeL (bs : List UInt8) (a e : Int) : List Tlv := if wholeE bs a e = 0 then (scan bs e (e - a).toNat a).1.map Prod.snd else []
def WholePost (bs : List UInt8) (a e : Int) (h : H) : Value → H → Prop := fun v h' => ∃ x, v = .tuple #[x, .int .i64 (wholeE bs a e)] ∧ Fu h' 5 26 x (wholeL bs a e).length (tcells (wholeL bs a e)) ∧ Ext h h' ∧ h.length ≤ h'.length ∧ ∀ j, isBlk x j → h.length ≤ j
set_option maxRecDepth 20000 in
theorem Whole_ok {n0 : Nat} {h : H} {b : Value} {bs : List UInt8} {a0 e : Int} (S : Sl h 1 b (bs.map bv)) (hl : bs.length ≤ 1048576) (ha : -2 ^ 63 ≤ a0) (ha2 : a0 < 2 ^ 63) (he : -2 ^ 63 ≤ e) (he2 : e < 2 ^ 63) :
    Cn Try.prog n0 (.func 36) [b, .int .i64 a0, .int .i64 e] h (WholePost bs a0 e h) := by
  refine F36.enter ?_
  have err : ∀ (n : Int) (u : H), n ≠ 0 → wholeE bs a0 e = n → Ext h u → h.length ≤ u.length → WholePost bs a0 e h (.tuple #[.slice none 0 0, .int .i64 n]) u := fun n u hn hE X L => ⟨_, by rw [hE], by unfold wholeL; rw [hE, if_neg hn]; exact Fu.nil, X, L, fun j e => absurd e isBlk_nil⟩
  have fin : ∀ (x : Value) (u : H), wholeE bs a0 e = 0 → Fu u 5 26 x ((scan bs e (e - a0).toNat a0).1.map Prod.snd).length (tcells ((scan bs e (e - a0).toNat a0).1.map Prod.snd)) → Ext h u → h.length ≤ u.length → (∀ j, isBlk x j → h.length ≤ j) → WholePost bs a0 e h (.tuple #[x, .int .i64 0]) u := fun x u hE hF X L N => ⟨_, by rw [hE], by unfold wholeL; rw [hE, if_pos rfl]; exact hF, X, L, N⟩
  generalize WholePost bs a0 e h = HP at err fin
  obtain ⟨ad, c, rfl, hc⟩ := S.lenB
  rw [F36.e0]
  simp (disch := first | omega | assumption | exact isC_last | exact isC_app (by first | assumption | exact isC_last | exact isC_app (by first | assumption | exact isC_last)) | (simp [oneC]; done) | fail) only [F36.t0, evs0, evs1, evs2, evs3, evs4, evs5, evs6, evs7, evs8, evs9, evs10, evs11, evs12, evs13, if_true, if_false, ↓reduceIte, Nat.reduceEqDiff, Nat.reduceAdd, Nat.reduceMul, Nat.reduceSub, Nat.reduceLeDiff, Int.reduceLT, Int.reduceLE, Int.reduceEq, Bool.false_eq_true, Option.bind_some, Option.map_some, List.set_cons_zero, List.set_cons_succ, List.toList_toArray, List.size_toArray, List.length_cons, List.length_nil, List.getElem?_toArray, List.getElem?_cons_zero, List.getElem?_cons_succ, List.drop_zero, List.take_succ_cons, List.take_zero]
  by_cases hbad : a0 < 0 ∨ e < a0 ∨ (bs.length : Int) < e
  · have bad : F36.p1 n0 [(0, Value.slice ad bs.length c), (1, .int .i64 a0), (2, .int .i64 e)] [] h (KSeq [0, 1, 2] (F36.p2 n0) (KFin Try.prog [ResultVar.tmp 6, ResultVar.tmp 7] HP)) := by
      rw [F36.e1]
      simp (disch := first | omega | assumption | exact isC_last | exact isC_app (by first | assumption | exact isC_last | exact isC_app (by first | assumption | exact isC_last)) | (simp [oneC]; done) | fail) only [F36.t1, evs0, evs1, evs2, evs3, evs4, evs5, evs6, evs7, evs8, evs9, evs10, evs11, evs12, evs13, if_true, if_false, ↓reduceIte, Nat.reduceEqDiff, Nat.reduceAdd, Nat.reduceMul, Nat.reduceSub, Nat.reduceLeDiff, Int.reduceLT, Int.reduceLE, Int.reduceEq, Bool.false_eq_true, Option.bind_some, Option.map_some, List.set_cons_zero, List.set_cons_succ, List.toList_toArray, List.size_toArray, List.length_cons, List.length_nil, List.getElem?_toArray, List.getElem?_cons_zero, List.getElem?_cons_succ, List.drop_zero, List.take_succ_cons, List.take_zero]
      exact err 2 _ (by decide) (by unfold wholeE; rw [if_pos hbad]) (Ext.refl _) (Nat.le_refl _)
    by_cases h1 : a0 < 0
    · rw [if_pos h1]; exact bad
    rw [if_neg h1]
    by_cases h2 : e < a0
    · rw [if_pos h2]; exact bad
    rw [if_neg h2, if_pos (by omega)]; exact bad
  rw [if_neg (by omega), if_neg (by omega), if_neg (by omega), F36.e2]
  have hE : wholeE bs a0 e = if (scan bs e (e - a0).toNat a0).2 < e then (headS bs (scan bs e (e - a0).toNat a0).2 e).2 else 0 := by unfold wholeE; rw [if_neg hbad]
  simp (disch := first | omega | assumption | exact isC_last | exact isC_app (by first | assumption | exact isC_last | exact isC_app (by first | assumption | exact isC_last)) | (simp [oneC]; done) | fail) only [F36.t2, evs0, evs1, evs2, evs3, evs4, evs5, evs6, evs7, evs8, evs9, evs10, evs11, evs12, evs13, if_true, if_false, ↓reduceIte, Nat.reduceEqDiff, Nat.reduceAdd, Nat.reduceMul, Nat.reduceSub, Nat.reduceLeDiff, Int.reduceLT, Int.reduceLE, Int.reduceEq, Bool.false_eq_true, Option.bind_some, Option.map_some, List.set_cons_zero, List.set_cons_succ, List.toList_toArray, List.size_toArray, List.length_cons, List.length_nil, List.getElem?_toArray, List.getElem?_cons_zero, List.getElem?_cons_succ, List.drop_zero, List.take_succ_cons, List.take_zero]
  generalize hN : (e - a0).toNat = N at *
  refine Lp_ind (fun m fr hh => ∃ (n : Nat) (a : Int) (l : List (Int × Tlv)) (x : Value), fr = [(0, Value.slice ad bs.length c), (1, .int .i64 a), (2, .int .i64 e), (8, x)] ∧ scan bs e N a0 = (l ++ (scan bs e n a).1, (scan bs e n a).2) ∧ l.length + n ≤ N ∧ 0 ≤ a ∧ a ≤ e ∧ e - a ≤ n ∧
      Fu hh 5 26 x (l.map Prod.snd).length (tcells (l.map Prod.snd)) ∧ Ext h hh ∧ h.length ≤ hh.length ∧ (∀ j, isBlk x j → h.length ≤ j) ∧ m = n) (F36.m3 n0) N
    ⟨N, a0, [], _, by simp (disch := first | omega | assumption | exact isC_last | exact isC_app (by first | assumption | exact isC_last | exact isC_app (by first | assumption | exact isC_last)) | (simp [oneC]; done) | fail) only [evs0, evs1, evs2, evs3, evs4, evs5, evs6, evs7, evs8, evs9, evs10, evs11, evs12, evs13, if_true, if_false, ↓reduceIte, Nat.reduceEqDiff, Nat.reduceAdd, Nat.reduceMul, Nat.reduceSub, Nat.reduceLeDiff, Int.reduceLT, Int.reduceLE, Int.reduceEq, Bool.false_eq_true, Option.bind_some, Option.map_some, List.set_cons_zero, List.set_cons_succ, List.toList_toArray, List.size_toArray, List.length_cons, List.length_nil, List.getElem?_toArray, List.getElem?_cons_zero, List.getElem?_cons_succ, List.drop_zero, List.take_succ_cons, List.take_zero], rfl, by simp, by omega, by omega, by omega, Fu.nil, Ext.refl _, Nat.le_refl _, fun j e => absurd e isBlk_nil, rfl⟩ ?_
  rintro m fr hh ⟨n, a, l, x, rfl, hs, hln, ha0, hae, hm, F, X, L, Nn, rfl⟩
  have hxl : ∀ j, isBlk x j → j < hh.length := by
    intro j e1
    rcases F with ⟨rfl, _, _⟩ | ⟨b2, rfl, _, hb, _⟩
    · exact absurd e1 isBlk_nil
    · rw [isBlk_some.1 e1]; exact lt_of_some hb
  rw [F36.e3]
  simp (disch := first | omega | assumption | exact isC_last | exact isC_app (by first | assumption | exact isC_last | exact isC_app (by first | assumption | exact isC_last)) | (simp [oneC]; done) | fail) only [F36.t3, evs0, evs1, evs2, evs3, evs4, evs5, evs6, evs7, evs8, evs9, evs10, evs11, evs12, evs13, if_true, if_false, ↓reduceIte, Nat.reduceEqDiff, Nat.reduceAdd, Nat.reduceMul, Nat.reduceSub, Nat.reduceLeDiff, Int.reduceLT, Int.reduceLE, Int.reduceEq, Bool.false_eq_true, Option.bind_some, Option.map_some, List.set_cons_zero, List.set_cons_succ, List.toList_toArray, List.size_toArray, List.length_cons, List.length_nil, List.getElem?_toArray, List.getElem?_cons_zero, List.getElem?_cons_succ, List.drop_zero, List.take_succ_cons, List.take_zero]
  by_cases hlt : a < e
  · rw [if_pos hlt, F36.e4]
    unfold F36.t4
    refine (Head_ok (S.ext X) (by omega) (by omega) (by omega) he he2).mono ?_
    rintro v h2 ⟨⟨ob, rfl⟩, rfl⟩
    refine Bnd_i (a := (headS bs a e).1.v) rfl (Bnd_i (a := .int .i64 (headS bs a e).2) rfl (NwSt sz_26 (by rw [zc_26]; rfl) rfl fun p1 h3 X3 b1 => ?_))
    have hp1 := lt_of_some b1
    have L3 : hh.length < h3.length := by
      have := lt_of_some (X3 hh.length ob (by simp))
      omega
    replace X3 := (Ext.app hh [ob]).trans X3
    simp only [Tlv.v, cells_agg, List.toList_toArray] at b1
    simp (disch := first | omega | assumption | exact isC_last | exact isC_app (by first | assumption | exact isC_last | exact isC_app (by first | assumption | exact isC_last)) | (simp [oneC]; done) | fail) only [evs0, evs1, evs2, evs3, evs4, evs5, evs6, evs7, evs8, evs9, evs10, evs11, evs12, evs13, if_true, if_false, ↓reduceIte, Nat.reduceEqDiff, Nat.reduceAdd, Nat.reduceMul, Nat.reduceSub, Nat.reduceLeDiff, Int.reduceLT, Int.reduceLE, Int.reduceEq, Bool.false_eq_true, Option.bind_some, Option.map_some, List.set_cons_zero, List.set_cons_succ, List.toList_toArray, List.size_toArray, List.length_cons, List.length_nil, List.getElem?_toArray, List.getElem?_cons_zero, List.getElem?_cons_succ, List.drop_zero, List.take_succ_cons, List.take_zero]
    by_cases h0 : (headS bs a e).2 = 0
    · rw [if_pos h0, F36.e6]
      simp (disch := first | omega | assumption | exact isC_last | exact isC_app (by first | assumption | exact isC_last | exact isC_app (by first | assumption | exact isC_last)) | (simp [oneC]; done) | fail) only [F36.t6, rd_blk0 (n := 5) b1 rfl, evs0, evs1, evs2, evs3, evs4, evs5, evs6, evs7, evs8, evs9, evs10, evs11, evs12, evs13, if_true, if_false, ↓reduceIte, Nat.reduceEqDiff, Nat.reduceAdd, Nat.reduceMul, Nat.reduceSub, Nat.reduceLeDiff, Int.reduceLT, Int.reduceLE, Int.reduceEq, Bool.false_eq_true, Option.bind_some, Option.map_some, List.set_cons_zero, List.set_cons_succ, List.toList_toArray, List.size_toArray, List.length_cons, List.length_nil, List.getElem?_toArray, List.getElem?_cons_zero, List.getElem?_cons_succ, List.drop_zero, List.take_succ_cons, List.take_zero]
      have S1 : Sl (h3 ++ [Ob.cells true (enc 5 26) (headS bs a e).1.v.cells.toList]) 5 (.slice (some ⟨h3.length, 0, none⟩) 1 1) (headS bs a e).1.v.cells.toList := Sl.mk (o := 0) get_last (eS_enc' (by omega)) rfl rfl (Nat.le_refl _)
      obtain ⟨x', h4, e4, F4, B4, N4⟩ := ((F.keep fun j o _ e1 => X3 _ _ e1).keep (h' := h3 ++ [Ob.cells true (enc 5 26) (headS bs a e).1.v.cells.toList]) fun j o _ e1 => get_app e1).append (m := 1) el_64 sz_26 ze_26 by_26 rfl (by omega) (by omega) (rdN_sl S1) rfl rfl (by simp; omega) (by simp; omega)
      refine Bnd2_i e4 ?_
      have hb4 := B4.1
      rw [List.length_append] at hb4
      have hpx : ¬ isBlk x p1 := by
        intro e1
        rcases F with ⟨rfl, _, _⟩ | ⟨b2, rfl, _, hb, _⟩
        · exact absurd e1 isBlk_nil
        · have e2 := isBlk_some.1 e1
          simp only at e2
          rw [e2, X3 _ _ hb] at b1
          simp only [Option.some.injEq, Ob.cells.injEq] at b1
          exact absurd b1.2.1 (by decide)
      refine Bnd_i (a := .int .i64 (headS bs a e).1.to) (by rw [rd_cells (B4.2 _ _ hpx (get_app b1))]; rfl) ?_
      obtain ⟨n', rfl⟩ : ∃ n', m = n' + 1 := ⟨m - 1, by omega⟩
      rw [scan_go hlt h0] at hs
      obtain ⟨k1, k2, k3, k4, k5⟩ := headS_ok h0
      refine ⟨trivial, n', by omega, n', _, l ++ [(a, (headS bs a e).1)], x', rfl, by rw [hs]; simp, by simp; omega, by omega, by omega, by omega, ?_, ?_, by omega, ?_, rfl⟩
      · simpa [tcells] using F4
      · intro i o e1
        refine B4.2 _ _ (fun e2 => ?_) (get_app (X3 _ _ (X _ _ e1)))
        have := Nn _ e2
        have := lt_of_some e1
        omega
      · intro j e1
        rcases N4 _ e1 with e1 | e1
        · exact Nn _ e1
        · rw [e1, List.length_append]; omega
    · rw [if_neg h0, F36.e5]
      simp (disch := first | omega | assumption | exact isC_last | exact isC_app (by first | assumption | exact isC_last | exact isC_app (by first | assumption | exact isC_last)) | (simp [oneC]; done) | fail) only [F36.t5, evs0, evs1, evs2, evs3, evs4, evs5, evs6, evs7, evs8, evs9, evs10, evs11, evs12, evs13, if_true, if_false, ↓reduceIte, Nat.reduceEqDiff, Nat.reduceAdd, Nat.reduceMul, Nat.reduceSub, Nat.reduceLeDiff, Int.reduceLT, Int.reduceLE, Int.reduceEq, Bool.false_eq_true, Option.bind_some, Option.map_some, List.set_cons_zero, List.set_cons_succ, List.toList_toArray, List.size_toArray, List.length_cons, List.length_nil, List.getElem?_toArray, List.getElem?_cons_zero, List.getElem?_cons_succ, List.drop_zero, List.take_succ_cons, List.take_zero]
      refine err _ _ h0 ?_ (X.trans X3) (by omega)
      rw [hE, hs, scan_stop (fun h => h0 h.2)]
      simp only
      rw [if_pos hlt]
  · rw [if_neg hlt, F36.e7]
    simp (disch := first | omega | assumption | exact isC_last | exact isC_app (by first | assumption | exact isC_last | exact isC_app (by first | assumption | exact isC_last)) | (simp [oneC]; done) | fail) only [F36.t7, evs0, evs1, evs2, evs3, evs4, evs5, evs6, evs7, evs8, evs9, evs10, evs11, evs12, evs13, if_true, if_false, ↓reduceIte, Nat.reduceEqDiff, Nat.reduceAdd, Nat.reduceMul, Nat.reduceSub, Nat.reduceLeDiff, Int.reduceLT, Int.reduceLE, Int.reduceEq, Bool.false_eq_true, Option.bind_some, Option.map_some, List.set_cons_zero, List.set_cons_succ, List.toList_toArray, List.size_toArray, List.length_cons, List.length_nil, List.getElem?_toArray, List.getElem?_cons_zero, List.getElem?_cons_succ, List.drop_zero, List.take_succ_cons, List.take_zero]
    rw [scan_stop (fun h => hlt h.1), List.append_nil] at hs
    rw [hs] at fin hE
    exact fin _ _ (by rw [hE, if_neg hlt]) F X L Nn
/-- what Each holds in its hands -/
def EachPost (bs : List UInt8) (a e : Int) (h : H) : Value → H → Prop := fun v h' => ∃ pb x, v = .func (.func 55) #[] #[.pointer (some ⟨pb, 0, none⟩)] ∧ h'[pb]? = some (.cells true (enc 0 100) [x]) ∧ h.length ≤ pb ∧
  Fu h' 6 102 x (eachL bs a e).length (pcells (eachL bs a e)) ∧ Ext h h' ∧ (∀ j, isBlk x j → h.length ≤ j)
where eachL (bs : List UInt8) (a e : Int) : List (Int × Tlv) := if a < 0 then [] else (scan bs e (e - a).toNat a).1
set_option maxRecDepth 20000 in
theorem Each_ok {n0 : Nat} {h : H} {b : Value} {bs : List UInt8} {a0 e : Int} (S : Sl h 1 b (bs.map bv)) (hl : bs.length ≤ 1048576) (ha : -2 ^ 63 ≤ a0) (ha2 : a0 < 2 ^ 63) (he : -2 ^ 63 ≤ e) (he2 : e < 2 ^ 63) (he3 : e ≤ bs.length) :
    Cn Try.prog n0 (.func 37) [b, .int .i64 a0, .int .i64 e] h (EachPost bs a0 e h) := by
  refine F37.enter ?_
  have fin : ∀ (pb : Nat) (x : Value) (u : H), u[pb]? = some (.cells true (enc 0 100) [x]) → h.length ≤ pb → Fu u 6 102 x (EachPost.eachL bs a0 e).length (pcells (EachPost.eachL bs a0 e)) → Ext h u → (∀ j, isBlk x j → h.length ≤ j) → EachPost bs a0 e h (.func (.func 55) #[] #[.pointer (some ⟨pb, 0, none⟩)]) u := fun pb x u a b c d f => ⟨pb, x, rfl, a, b, c, d, f⟩
  generalize EachPost bs a0 e h = HP at fin
  obtain ⟨ad, c, rfl, hc⟩ := S.lenB
  rw [F37.e0]
  simp (disch := first | omega | assumption | exact isC_last | exact isC_app (by first | assumption | exact isC_last | exact isC_app (by first | assumption | exact isC_last)) | (simp [oneC]; done) | fail) only [F37.t0, evs0, evs1, evs2, evs3, evs4, evs5, evs6, evs7, evs8, evs9, evs10, evs11, evs12, evs13, if_true, if_false, ↓reduceIte, Nat.reduceEqDiff, Nat.reduceAdd, Nat.reduceMul, Nat.reduceSub, Nat.reduceLeDiff, Int.reduceLT, Int.reduceLE, Int.reduceEq, Bool.false_eq_true, Option.bind_some, Option.map_some, List.set_cons_zero, List.set_cons_succ, List.toList_toArray, List.size_toArray, List.length_cons, List.length_nil, List.getElem?_toArray, List.getElem?_cons_zero, List.getElem?_cons_succ, List.drop_zero, List.take_succ_cons, List.take_zero]
  generalize hN : (e - a0).toNat = N at *
  have zE : a0 < 0 → EachPost.eachL bs a0 e = [] := fun h => by unfold EachPost.eachL; rw [if_pos h]
  have zN : ¬ a0 < 0 → EachPost.eachL bs a0 e = (scan bs e N a0).1 := fun h => by unfold EachPost.eachL; rw [if_neg h, hN]
  refine Lp_ind (fun m fr hh => ∃ (n : Nat) (a : Int) (l : List (Int × Tlv)) (x : Value), fr = [(0, Value.slice ad bs.length c), (1, .int .i64 a), (2, .int .i64 e), (7, .pointer (some ⟨h.length, 0, none⟩))] ∧ scan bs e N a0 = (l ++ (scan bs e n a).1, (scan bs e n a).2) ∧ l.length + n ≤ N ∧ (0 ≤ a ∨ (a = a0 ∧ l = [])) ∧ -2 ^ 63 ≤ a ∧ a < 2 ^ 63 ∧ (a0 < 0 → a = a0) ∧ e - a ≤ n ∧
      hh[h.length]? = some (.cells true (enc 0 100) [x]) ∧ Fu hh 6 102 x l.length (pcells l) ∧ Ext h hh ∧ (∀ j, isBlk x j → h.length < j) ∧ m = n) (F37.m1 n0) N
    ⟨N, a0, [], .slice none 0 0, by simp (disch := first | omega | assumption | exact isC_last | exact isC_app (by first | assumption | exact isC_last | exact isC_app (by first | assumption | exact isC_last)) | (simp [oneC]; done) | fail) only [evs0, evs1, evs2, evs3, evs4, evs5, evs6, evs7, evs8, evs9, evs10, evs11, evs12, evs13, if_true, if_false, ↓reduceIte, Nat.reduceEqDiff, Nat.reduceAdd, Nat.reduceMul, Nat.reduceSub, Nat.reduceLeDiff, Int.reduceLT, Int.reduceLE, Int.reduceEq, Bool.false_eq_true, Option.bind_some, Option.map_some, List.set_cons_zero, List.set_cons_succ, List.toList_toArray, List.size_toArray, List.length_cons, List.length_nil, List.getElem?_toArray, List.getElem?_cons_zero, List.getElem?_cons_succ, List.drop_zero, List.take_succ_cons, List.take_zero], rfl, by simp, .inr ⟨rfl, rfl⟩, by omega, by omega, fun _ => rfl, by omega, get_last, Fu.nil, Ext.app _ _, fun j e => absurd e isBlk_nil, rfl⟩ ?_
  rintro m fr hh ⟨n, a, l, x, rfl, hs, hln, ha0, ha3, ha4, ha5, hm, HX, F, X, Nn, rfl⟩
  have hxl : ∀ j, isBlk x j → j < hh.length := by
    intro j e1
    rcases F with ⟨rfl, _, _⟩ | ⟨b2, rfl, _, hb, _⟩
    · exact absurd e1 isBlk_nil
    · rw [isBlk_some.1 e1]; exact lt_of_some hb
  have hhl := lt_of_some HX
  rw [F37.e1]
  simp (disch := first | omega | assumption | exact isC_last | exact isC_app (by first | assumption | exact isC_last | exact isC_app (by first | assumption | exact isC_last)) | (simp [oneC]; done) | fail) only [F37.t1, evs0, evs1, evs2, evs3, evs4, evs5, evs6, evs7, evs8, evs9, evs10, evs11, evs12, evs13, if_true, if_false, ↓reduceIte, Nat.reduceEqDiff, Nat.reduceAdd, Nat.reduceMul, Nat.reduceSub, Nat.reduceLeDiff, Int.reduceLT, Int.reduceLE, Int.reduceEq, Bool.false_eq_true, Option.bind_some, Option.map_some, List.set_cons_zero, List.set_cons_succ, List.toList_toArray, List.size_toArray, List.length_cons, List.length_nil, List.getElem?_toArray, List.getElem?_cons_zero, List.getElem?_cons_succ, List.drop_zero, List.take_succ_cons, List.take_zero]
  have stop : EachPost.eachL bs a0 e = l → F37.p4 n0 [(7, .pointer (some ⟨h.length, 0, none⟩))] [] hh (KFin Try.prog [ResultVar.tmp 6] HP) := by
    intro hl2
    rw [F37.e4]
    simp (disch := first | omega | assumption | exact isC_last | exact isC_app (by first | assumption | exact isC_last | exact isC_app (by first | assumption | exact isC_last)) | (simp [oneC]; done) | fail) only [F37.t4, evs0, evs1, evs2, evs3, evs4, evs5, evs6, evs7, evs8, evs9, evs10, evs11, evs12, evs13, if_true, if_false, ↓reduceIte, Nat.reduceEqDiff, Nat.reduceAdd, Nat.reduceMul, Nat.reduceSub, Nat.reduceLeDiff, Int.reduceLT, Int.reduceLE, Int.reduceEq, Bool.false_eq_true, Option.bind_some, Option.map_some, List.set_cons_zero, List.set_cons_succ, List.toList_toArray, List.size_toArray, List.length_cons, List.length_nil, List.getElem?_toArray, List.getElem?_cons_zero, List.getElem?_cons_succ, List.drop_zero, List.take_succ_cons, List.take_zero]
    exact fin _ x _ HX (Nat.le_refl _) (by rw [hl2]; exact F) X (fun j e => by have := Nn j e; omega)
  by_cases hneg : a < 0
  · first | rw [if_neg (by omega)] | rw [if_pos (by omega)]
    try simp (disch := first | omega | assumption | exact isC_last | exact isC_app (by first | assumption | exact isC_last | exact isC_app (by first | assumption | exact isC_last)) | (simp [oneC]; done) | fail) only [evs0, evs1, evs2, evs3, evs4, evs5, evs6, evs7, evs8, evs9, evs10, evs11, evs12, evs13, if_true, if_false, ↓reduceIte, Nat.reduceEqDiff, Nat.reduceAdd, Nat.reduceMul, Nat.reduceSub, Nat.reduceLeDiff, Int.reduceLT, Int.reduceLE, Int.reduceEq, Bool.false_eq_true, Option.bind_some, Option.map_some, List.set_cons_zero, List.set_cons_succ, List.toList_toArray, List.size_toArray, List.length_cons, List.length_nil, List.getElem?_toArray, List.getElem?_cons_zero, List.getElem?_cons_succ, List.drop_zero, List.take_succ_cons, List.take_zero]
    refine stop ?_
    rcases ha0 with h1 | ⟨rfl, rfl⟩
    · omega
    · exact zE hneg
  · first | rw [if_pos (by omega)] | rw [if_neg (by omega)]
    have hna : ¬ a0 < 0 := fun h => by have := ha5 h; omega
    by_cases hlt : a < e
    · rw [if_pos hlt]
      first | rw [if_pos (by omega)] | rw [if_neg (by omega)]
      rw [F37.e2]
      unfold F37.t2
      refine (Head_ok (S.ext X) (by omega) (by omega) (by omega) he he2).mono ?_
      rintro v h2 ⟨⟨ob, rfl⟩, rfl⟩
      refine Bnd_i (a := (headS bs a e).1.v) rfl (Bnd_i (a := .int .i64 (headS bs a e).2) rfl (NwSt sz_26 (by rw [zc_26]; rfl) rfl fun p1 h3 X3 b1 => ?_))
      have L3 : hh.length < h3.length := by
        have := lt_of_some (X3 hh.length ob (by simp))
        omega
      replace X3 := (Ext.app hh [ob]).trans X3
      simp only [Tlv.v, cells_agg, List.toList_toArray] at b1
      simp (disch := first | omega | assumption | exact isC_last | exact isC_app (by first | assumption | exact isC_last | exact isC_app (by first | assumption | exact isC_last)) | (simp [oneC]; done) | fail) only [evs0, evs1, evs2, evs3, evs4, evs5, evs6, evs7, evs8, evs9, evs10, evs11, evs12, evs13, if_true, if_false, ↓reduceIte, Nat.reduceEqDiff, Nat.reduceAdd, Nat.reduceMul, Nat.reduceSub, Nat.reduceLeDiff, Int.reduceLT, Int.reduceLE, Int.reduceEq, Bool.false_eq_true, Option.bind_some, Option.map_some, List.set_cons_zero, List.set_cons_succ, List.toList_toArray, List.size_toArray, List.length_cons, List.length_nil, List.getElem?_toArray, List.getElem?_cons_zero, List.getElem?_cons_succ, List.drop_zero, List.take_succ_cons, List.take_zero]
      by_cases h0 : (headS bs a e).2 = 0
      · rw [if_pos h0, F37.e3]
        simp (disch := first | omega | assumption | exact isC_last | exact isC_app (by first | assumption | exact isC_last | exact isC_app (by first | assumption | exact isC_last)) | (simp [oneC]; done) | fail) only [F37.t3, rd_blk0 (n := 5) b1 rfl, rd_cells (X3 _ _ HX), evs0, evs1, evs2, evs3, evs4, evs5, evs6, evs7, evs8, evs9, evs10, evs11, evs12, evs13, if_true, if_false, ↓reduceIte, Nat.reduceEqDiff, Nat.reduceAdd, Nat.reduceMul, Nat.reduceSub, Nat.reduceLeDiff, Int.reduceLT, Int.reduceLE, Int.reduceEq, Bool.false_eq_true, Option.bind_some, Option.map_some, List.set_cons_zero, List.set_cons_succ, List.toList_toArray, List.size_toArray, List.length_cons, List.length_nil, List.getElem?_toArray, List.getElem?_cons_zero, List.getElem?_cons_succ, List.drop_zero, List.take_succ_cons, List.take_zero]
        have S1 : Sl (h3 ++ [Ob.cells true (enc 6 102) (pv (a, (headS bs a e).1)).cells.toList]) 6 (.slice (some ⟨h3.length, 0, none⟩) 1 1) (pv (a, (headS bs a e).1)).cells.toList := Sl.mk (o := 0) get_last (eS_enc' (by omega)) rfl rfl (Nat.le_refl _)
        obtain ⟨x', h4, e4, F4, B4, N4⟩ := ((F.keep fun j o _ e1 => X3 _ _ e1).keep (h' := h3 ++ [Ob.cells true (enc 6 102) (pv (a, (headS bs a e).1)).cells.toList]) fun j o _ e1 => get_app e1).append (m := 1) el_100 sz_102 ze_102 by_102 rfl (by omega) (by omega) (rdN_sl S1) rfl rfl (by omega) (by omega)
        refine Bnd2_i e4 ?_
        have hb4 := B4.1
        rw [List.length_append] at hb4
        have hpx : ¬ isBlk x p1 := by
          intro e1
          rcases F with ⟨rfl, _, _⟩ | ⟨b2, rfl, _, hb, _⟩
          · exact absurd e1 isBlk_nil
          · have e2 := isBlk_some.1 e1
            simp only at e2
            rw [e2, X3 _ _ hb] at b1
            simp only [Option.some.injEq, Ob.cells.injEq] at b1
            exact absurd b1.2.1 (by decide)
        have hp1 : p1 ≠ h.length := by
          intro e2
          rw [e2, X3 _ _ HX] at b1
          simp only [Option.some.injEq, Ob.cells.injEq] at b1
          exact absurd b1.2.1 (by decide)
        have hpb : ¬ isBlk x h.length := fun e => by have := Nn _ e; omega
        obtain ⟨a2, rfl⟩ := F4.form
        have H4 := B4.2 _ _ hpb (get_app (X3 _ _ HX))
        simp (disch := first | omega | assumption | exact isC_last | exact isC_app (by first | assumption | exact isC_last | exact isC_app (by first | assumption | exact isC_last)) | (simp [oneC]; done) | fail) only [evs0, evs1, evs2, evs3, evs4, evs5, evs6, evs7, evs8, evs9, evs10, evs11, evs12, evs13, if_true, if_false, ↓reduceIte, Nat.reduceEqDiff, Nat.reduceAdd, Nat.reduceMul, Nat.reduceSub, Nat.reduceLeDiff, Int.reduceLT, Int.reduceLE, Int.reduceEq, Bool.false_eq_true, Option.bind_some, Option.map_some, List.set_cons_zero, List.set_cons_succ, List.toList_toArray, List.size_toArray, List.length_cons, List.length_nil, List.getElem?_toArray, List.getElem?_cons_zero, List.getElem?_cons_succ, List.drop_zero, List.take_succ_cons, List.take_zero]
        refine Bnd_i (wr_cells H4 (by simp) rfl) ?_
        rw [over_one (by simp)]
        refine Bnd_i (a := .int .i64 (headS bs a e).1.to) (by rw [rd_cells (set_ne (B4.2 _ _ hpx (get_app b1)) hp1)]; rfl) ?_
        obtain ⟨n', rfl⟩ : ∃ n', m = n' + 1 := ⟨m - 1, by omega⟩
        rw [scan_go hlt h0] at hs
        obtain ⟨k1, k2, k3, k4, k5⟩ := headS_ok h0
        have N5 : ∀ j, isBlk (Value.slice a2 (l.length + 1) (l.length + 1)) j → h.length < j := by
          intro j e1
          rcases N4 _ e1 with e1 | e1
          · exact Nn _ e1
          · rw [e1, List.length_append]; omega
        refine ⟨trivial, n', by omega, n', _, l ++ [(a, (headS bs a e).1)], .slice a2 (l.length + 1) (l.length + 1), rfl, by rw [hs]; simp, by simp; omega, by omega, by omega, by omega, fun h => absurd h hna, by omega, ?_, ?_, ?_, N5, rfl⟩
        · exact set_same H4
        · have := F4.keep (h' := h4.set h.length (Ob.cells true (enc 0 100) ([x].set 0 (Value.slice a2 (l.length + 1) (l.length + 1))))) fun j o e1 e2 => set_ne e2 fun e3 => by have := N5 j e1; omega
          simpa [pcells] using this
        · intro i o e1
          have hi := lt_of_some e1
          refine set_ne (B4.2 _ _ (fun e2 => ?_) (get_app (X3 _ _ (X _ _ e1)))) (by omega)
          have := Nn _ e2
          omega
      · rw [if_neg h0]
        try simp (disch := first | omega | assumption | exact isC_last | exact isC_app (by first | assumption | exact isC_last | exact isC_app (by first | assumption | exact isC_last)) | (simp [oneC]; done) | fail) only [evs0, evs1, evs2, evs3, evs4, evs5, evs6, evs7, evs8, evs9, evs10, evs11, evs12, evs13, if_true, if_false, ↓reduceIte, Nat.reduceEqDiff, Nat.reduceAdd, Nat.reduceMul, Nat.reduceSub, Nat.reduceLeDiff, Int.reduceLT, Int.reduceLE, Int.reduceEq, Bool.false_eq_true, Option.bind_some, Option.map_some, List.set_cons_zero, List.set_cons_succ, List.toList_toArray, List.size_toArray, List.length_cons, List.length_nil, List.getElem?_toArray, List.getElem?_cons_zero, List.getElem?_cons_succ, List.drop_zero, List.take_succ_cons, List.take_zero]
        rw [F37.e4]
        simp (disch := first | omega | assumption | exact isC_last | exact isC_app (by first | assumption | exact isC_last | exact isC_app (by first | assumption | exact isC_last)) | (simp [oneC]; done) | fail) only [F37.t4, evs0, evs1, evs2, evs3, evs4, evs5, evs6, evs7, evs8, evs9, evs10, evs11, evs12, evs13, if_true, if_false, ↓reduceIte, Nat.reduceEqDiff, Nat.reduceAdd, Nat.reduceMul, Nat.reduceSub, Nat.reduceLeDiff, Int.reduceLT, Int.reduceLE, Int.reduceEq, Bool.false_eq_true, Option.bind_some, Option.map_some, List.set_cons_zero, List.set_cons_succ, List.toList_toArray, List.size_toArray, List.length_cons, List.length_nil, List.getElem?_toArray, List.getElem?_cons_zero, List.getElem?_cons_succ, List.drop_zero, List.take_succ_cons, List.take_zero]
        refine fin _ x _ (X3 _ _ HX) (Nat.le_refl _) ?_ (X.trans X3) (fun j e => by have := Nn j e; omega)
        rw [zN hna, hs, scan_stop (fun h => h0 h.2), List.append_nil]
        exact F.keep fun j o _ e1 => X3 _ _ e1
    · rw [if_neg hlt]
      try simp (disch := first | omega | assumption | exact isC_last | exact isC_app (by first | assumption | exact isC_last | exact isC_app (by first | assumption | exact isC_last)) | (simp [oneC]; done) | fail) only [evs0, evs1, evs2, evs3, evs4, evs5, evs6, evs7, evs8, evs9, evs10, evs11, evs12, evs13, if_true, if_false, ↓reduceIte, Nat.reduceEqDiff, Nat.reduceAdd, Nat.reduceMul, Nat.reduceSub, Nat.reduceLeDiff, Int.reduceLT, Int.reduceLE, Int.reduceEq, Bool.false_eq_true, Option.bind_some, Option.map_some, List.set_cons_zero, List.set_cons_succ, List.toList_toArray, List.size_toArray, List.length_cons, List.length_nil, List.getElem?_toArray, List.getElem?_cons_zero, List.getElem?_cons_succ, List.drop_zero, List.take_succ_cons, List.take_zero]
      refine stop ?_
      rw [zN hna, hs, scan_stop (fun h => hlt h.1), List.append_nil]
end Go.Proofs.Ytknpmldldlbniaa
