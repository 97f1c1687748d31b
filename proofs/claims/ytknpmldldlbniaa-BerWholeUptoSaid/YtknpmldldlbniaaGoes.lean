/- What Each goes over, one by one. No condition. -/
import Derived.Test.YtknpmldldlbniaaScan
import Derived.Test.YtknpmldldlbniaaWorks
set_option linter.unusedVariables false
set_option linter.unusedSimpArgs false
namespace Go.Proofs.Ytknpmldldlbniaa
open Go.Ev Ber
set_option maxRecDepth 20000 in
theorem Each1_ok {n0 : Nat} {h : H} {yl pb e0 : Nat} {x : Value} {ps : List (Int × Tlv)} {Q : Value → H → Prop} (I : Nat → H → Prop) (hI : I 0 h) (hB : h[pb]? = some (.cells true e0 [x])) (hF : ∀ i h', I i h' → Fu h' 6 102 x ps.length (pcells ps)) (hx : ps.length ≤ 2 ^ 40)
    (step : ∀ i p h', ps[i]? = some p → I i h' → ∀ ob, Cn Try.prog n0 (.yield yl) [.int .i64 p.1, p.2.v] (h' ++ [ob]) (fun v h'' => (v = .bool true ∧ I (i + 1) h'') ∨ (v = .bool false ∧ Q (.tuple #[]) h'')))
    (fin : ∀ h', I ps.length h' → Q (.tuple #[]) h') : Cn Try.prog n0 (.func 55) [.func (.yield yl) #[] #[], .pointer (some ⟨pb, 0, none⟩)] h Q := by
  refine F55.enter ?_
  rw [F55.e0]
  obtain ⟨a, rfl⟩ := (hF 0 h hI).form
  simp (disch := first | omega | assumption | exact isC_last | exact isC_app (by first | assumption | exact isC_last | exact isC_app (by first | assumption | exact isC_last)) | (simp [oneC]; done) | fail) only [F55.t0, rd_cells hB, len_100, evs0, evs1, evs2, evs3, evs4, evs5, evs6, evs7, evs8, evs9, evs10, evs11, evs12, evs13, if_true, if_false, ↓reduceIte, Nat.reduceEqDiff, Nat.reduceAdd, Nat.reduceMul, Nat.reduceSub, Nat.reduceLeDiff, Int.reduceLT, Int.reduceLE, Int.reduceEq, Bool.false_eq_true, Option.bind_some, Option.map_some, List.set_cons_zero, List.set_cons_succ, List.toList_toArray, List.size_toArray, List.length_cons, List.length_nil, List.getElem?_toArray, List.getElem?_cons_zero, List.getElem?_cons_succ, List.drop_zero, List.take_succ_cons, List.take_zero]
  refine Lp_ind (fun m fr hh => ∃ i : Nat, fr = [(0, .func (.yield yl) #[] #[]), (5, .slice a ps.length ps.length), (6, .int .i64 ps.length), (7, .int .i64 i)] ∧ i ≤ ps.length ∧ I i hh ∧ m = ps.length - i) (F55.m1 n0) ps.length ⟨0, by simp (disch := first | omega | assumption | exact isC_last | exact isC_app (by first | assumption | exact isC_last | exact isC_app (by first | assumption | exact isC_last)) | (simp [oneC]; done) | fail) only [evs0, evs1, evs2, evs3, evs4, evs5, evs6, evs7, evs8, evs9, evs10, evs11, evs12, evs13, if_true, if_false, ↓reduceIte, Nat.reduceEqDiff, Nat.reduceAdd, Nat.reduceMul, Nat.reduceSub, Nat.reduceLeDiff, Int.reduceLT, Int.reduceLE, Int.reduceEq, Bool.false_eq_true, Option.bind_some, Option.map_some, List.set_cons_zero, List.set_cons_succ, List.toList_toArray, List.size_toArray, List.length_cons, List.length_nil, List.getElem?_toArray, List.getElem?_cons_zero, List.getElem?_cons_succ, List.drop_zero, List.take_succ_cons, List.take_zero]; rfl, by omega, hI, rfl⟩ ?_
  rintro m fr hh ⟨i, rfl, hi, Ii, rfl⟩
  rw [F55.e1]
  simp (disch := first | omega | assumption | exact isC_last | exact isC_app (by first | assumption | exact isC_last | exact isC_app (by first | assumption | exact isC_last)) | (simp [oneC]; done) | fail) only [F55.t1, evs0, evs1, evs2, evs3, evs4, evs5, evs6, evs7, evs8, evs9, evs10, evs11, evs12, evs13, if_true, if_false, ↓reduceIte, Nat.reduceEqDiff, Nat.reduceAdd, Nat.reduceMul, Nat.reduceSub, Nat.reduceLeDiff, Int.reduceLT, Int.reduceLE, Int.reduceEq, Bool.false_eq_true, Option.bind_some, Option.map_some, List.set_cons_zero, List.set_cons_succ, List.toList_toArray, List.size_toArray, List.length_cons, List.length_nil, List.getElem?_toArray, List.getElem?_cons_zero, List.getElem?_cons_succ, List.drop_zero, List.take_succ_cons, List.take_zero]
  by_cases hi2 : i < ps.length
  · rw [if_pos (by omega), F55.e2]
    unfold F55.t2
    obtain ⟨p, hp⟩ : ∃ p, ps[i]? = some p := ⟨ps[i], List.getElem?_eq_getElem hi2⟩
    have hpl : ∀ a : Int × Tlv, (pv a).cells.toList.length = 6 := fun _ => rfl
    rcases hF i hh Ii with ⟨_, h0, _⟩ | ⟨b2, hv, hn, hb2, hl2⟩
    · omega
    simp only [Value.slice.injEq] at hv
    obtain ⟨rfl, _, _⟩ := hv
    have hrd : rdN hh b2 (i * 6) 6 = some (pv p).cells.toList := by
      rw [rdN_blk hb2 6 (i * 6) (by omega)]
      unfold pcells
      rw [chunk hpl ps i p hp]
    simp (disch := first | omega | assumption | exact isC_last | exact isC_app (by first | assumption | exact isC_last | exact isC_app (by first | assumption | exact isC_last)) | (simp [oneC]; done) | fail) only [Nat.zero_add, Int.toNat_natCast, evs0, evs1, evs2, evs3, evs4, evs5, evs6, evs7, evs8, evs9, evs10, evs11, evs12, evs13, if_true, if_false, ↓reduceIte, Nat.reduceEqDiff, Nat.reduceAdd, Nat.reduceMul, Nat.reduceSub, Nat.reduceLeDiff, Int.reduceLT, Int.reduceLE, Int.reduceEq, Bool.false_eq_true, Option.bind_some, Option.map_some, List.set_cons_zero, List.set_cons_succ, List.toList_toArray, List.size_toArray, List.length_cons, List.length_nil, List.getElem?_toArray, List.getElem?_cons_zero, List.getElem?_cons_succ, List.drop_zero, List.take_succ_cons, List.take_zero]
    rw [if_pos (by omega)]
    simp (disch := first | omega | assumption | exact isC_last | exact isC_app (by first | assumption | exact isC_last | exact isC_app (by first | assumption | exact isC_last)) | (simp [oneC]; done) | fail) only [hrd, pv, evs0, evs1, evs2, evs3, evs4, evs5, evs6, evs7, evs8, evs9, evs10, evs11, evs12, evs13, if_true, if_false, ↓reduceIte, Nat.reduceEqDiff, Nat.reduceAdd, Nat.reduceMul, Nat.reduceSub, Nat.reduceLeDiff, Int.reduceLT, Int.reduceLE, Int.reduceEq, Bool.false_eq_true, Option.bind_some, Option.map_some, List.set_cons_zero, List.set_cons_succ, List.toList_toArray, List.size_toArray, List.length_cons, List.length_nil, List.getElem?_toArray, List.getElem?_cons_zero, List.getElem?_cons_succ, List.drop_zero, List.take_succ_cons, List.take_zero]
    refine (step i p hh hp Ii (.cells true (enc 0 102) [.int .i64 p.1, .int .i8 p.2.cls, .bool p.2.cons, .int .i64 p.2.num, .int .i64 p.2.frm, .int .i64 p.2.to])).mono ?_
    rintro v h2 (⟨rfl, Ii2⟩ | ⟨rfl, hQ⟩)
    · simp (disch := first | omega | assumption | exact isC_last | exact isC_app (by first | assumption | exact isC_last | exact isC_app (by first | assumption | exact isC_last)) | (simp [oneC]; done) | fail) only [Bool.not_true, evs0, evs1, evs2, evs3, evs4, evs5, evs6, evs7, evs8, evs9, evs10, evs11, evs12, evs13, if_true, if_false, ↓reduceIte, Nat.reduceEqDiff, Nat.reduceAdd, Nat.reduceMul, Nat.reduceSub, Nat.reduceLeDiff, Int.reduceLT, Int.reduceLE, Int.reduceEq, Bool.false_eq_true, Option.bind_some, Option.map_some, List.set_cons_zero, List.set_cons_succ, List.toList_toArray, List.size_toArray, List.length_cons, List.length_nil, List.getElem?_toArray, List.getElem?_cons_zero, List.getElem?_cons_succ, List.drop_zero, List.take_succ_cons, List.take_zero]
      rw [F55.e3]
      simp (disch := first | omega | assumption | exact isC_last | exact isC_app (by first | assumption | exact isC_last | exact isC_app (by first | assumption | exact isC_last)) | (simp [oneC]; done) | fail) only [F55.t3, evs0, evs1, evs2, evs3, evs4, evs5, evs6, evs7, evs8, evs9, evs10, evs11, evs12, evs13, if_true, if_false, ↓reduceIte, Nat.reduceEqDiff, Nat.reduceAdd, Nat.reduceMul, Nat.reduceSub, Nat.reduceLeDiff, Int.reduceLT, Int.reduceLE, Int.reduceEq, Bool.false_eq_true, Option.bind_some, Option.map_some, List.set_cons_zero, List.set_cons_succ, List.toList_toArray, List.size_toArray, List.length_cons, List.length_nil, List.getElem?_toArray, List.getElem?_cons_zero, List.getElem?_cons_succ, List.drop_zero, List.take_succ_cons, List.take_zero]
      rw [IntWalk.i64_in _ (by omega)]
      exact ⟨trivial, ps.length - (i + 1), by omega, i + 1, rfl, by omega, Ii2, rfl⟩
    · simp (disch := first | omega | assumption | exact isC_last | exact isC_app (by first | assumption | exact isC_last | exact isC_app (by first | assumption | exact isC_last)) | (simp [oneC]; done) | fail) only [Bool.not_false, evs0, evs1, evs2, evs3, evs4, evs5, evs6, evs7, evs8, evs9, evs10, evs11, evs12, evs13, if_true, if_false, ↓reduceIte, Nat.reduceEqDiff, Nat.reduceAdd, Nat.reduceMul, Nat.reduceSub, Nat.reduceLeDiff, Int.reduceLT, Int.reduceLE, Int.reduceEq, Bool.false_eq_true, Option.bind_some, Option.map_some, List.set_cons_zero, List.set_cons_succ, List.toList_toArray, List.size_toArray, List.length_cons, List.length_nil, List.getElem?_toArray, List.getElem?_cons_zero, List.getElem?_cons_succ, List.drop_zero, List.take_succ_cons, List.take_zero]
      exact hQ
  · rw [if_neg (by omega)]
    try simp (disch := first | omega | assumption | exact isC_last | exact isC_app (by first | assumption | exact isC_last | exact isC_app (by first | assumption | exact isC_last)) | (simp [oneC]; done) | fail) only [evs0, evs1, evs2, evs3, evs4, evs5, evs6, evs7, evs8, evs9, evs10, evs11, evs12, evs13, if_true, if_false, ↓reduceIte, Nat.reduceEqDiff, Nat.reduceAdd, Nat.reduceMul, Nat.reduceSub, Nat.reduceLeDiff, Int.reduceLT, Int.reduceLE, Int.reduceEq, Bool.false_eq_true, Option.bind_some, Option.map_some, List.set_cons_zero, List.set_cons_succ, List.toList_toArray, List.size_toArray, List.length_cons, List.length_nil, List.getElem?_toArray, List.getElem?_cons_zero, List.getElem?_cons_succ, List.drop_zero, List.take_succ_cons, List.take_zero]
    obtain rfl : i = ps.length := by omega
    exact fin _ Ii
theorem kas_n {P : Program} {n0 nt l : Nat} {L : List Nat} {bd : AC} {Q : Value → H → Prop} {fr : Fr} {ds : List Nat} {h : H} : KAs P n0 nt l L bd Q .normal fr ds h = Bnd (begK l h) fun h => wA P n0 nt (some l) bd (keep L fr) ds h fun e _ _ h => match e with
    | .normal => Bnd (endK l h none) fun r => Q r.1 r.2
    | .ret => Bnd (endK l h (some .ret)) fun r => Q r.1 r.2
    | .exit id => Bnd (endK l h (some (.exit id))) fun r => Q r.1 r.2 := propext Iff.rfl
/-- the places that are between the items -/
def atS (a : Int) (ps : List (Int × Tlv)) (i : Nat) : Int := if i = 0 then a else (ps.getD (i - 1) (0, .nil)).2.to
theorem scan_at {bs : List UInt8} {e : Int} : ∀ (n : Nat) (a : Int) (ps : List (Int × Tlv)) (z : Int), scan bs e n a = (ps, z) → (∀ i p, ps[i]? = some p → p.1 = atS a ps i ∧ p.1 < e ∧ headS bs p.1 e = (p.2, 0)) ∧ z = atS a ps ps.length ∧ (e - a ≤ n → ¬ (z < e ∧ (headS bs z e).2 = 0)) := by
  intro n
  induction n with
  | zero =>
    intro a ps z h
    unfold scan at h
    cases h
    refine ⟨fun i p h => by simp at h, rfl, fun h => by omega⟩
  | succ n ih =>
    intro a ps z h
    by_cases hc : a < e ∧ (headS bs a e).2 = 0
    · rw [scan_go hc.1 hc.2] at h
      obtain ⟨k1, k2, k3, k4, k5⟩ := headS_ok hc.2
      cases h
      obtain ⟨i1, i2, i3⟩ := ih (headS bs a e).1.to _ _ rfl
      refine ⟨?_, ?_, fun h => i3 (by omega)⟩
      · intro i p hp
        cases i with
        | zero =>
          simp only [List.getElem?_cons_zero, Option.some.injEq] at hp
          subst hp
          exact ⟨rfl, hc.1, by rw [← hc.2]⟩
        | succ i =>
          simp only [List.getElem?_cons_succ] at hp
          obtain ⟨j1, j2, j3⟩ := i1 i p hp
          refine ⟨?_, j2, j3⟩
          rw [j1]
          cases i with
          | zero => rfl
          | succ i => simp [atS]
      · rw [i2]
        generalize (scan bs e n (headS bs a e).1.to).1 = q
        cases q with
        | nil => rfl
        | cons y q => simp [atS]
    · rw [scan_stop hc] at h
      cases h
      exact ⟨fun i p h => by simp at h, rfl, fun _ => hc⟩
/-- the state between two rounds -/
structure SI (bs : List UInt8) (h3 : H) (q3 q4 q5 q6 l d : Nat) (x y : Value) (e : Int) (ps : List (Int × Tlv)) (fr : Fr) (i : Nat) (hh : H) : Prop where
  ext : Ext h3 hh
  b3 : hh[q3]? = some (.cells true (enc 0 64) [x])
  b4 : hh[q4]? = some (.cells true (enc 0 27) [.int .i64 e])
  b5 : hh[q5]? = some (.cells true (enc 0 3) [.int .i64 (atS 0 ps i)])
  b6 : hh[q6]? = some (.cells true (enc 0 3) [.int .i64 i])
  lp : hh[l]? = some (.loop fr 123 #[26, 27] F11.rAs0 F11.rBd0 .ready none d)
  df : hh[d]? = some .dfr
  fy : Fu hh 6 102 y ps.length (pcells ps)
def frS (q1 q2 q3 q4 q5 q6 : Nat) (w : Value) : Fr := [(1, .pointer (some ⟨q1, 0, none⟩)), (2, .pointer (some ⟨q2, 0, none⟩)), (3, .pointer (some ⟨q3, 0, none⟩)), (4, .pointer (some ⟨q4, 0, none⟩)), (5, .pointer (some ⟨q5, 0, none⟩)), (6, .pointer (some ⟨q6, 0, none⟩)), (25, w)]
theorem follows : Try.prog.follows .mixedOrders = true := mixed
set_option maxRecDepth 20000 in
theorem Sides_round {n0 : Nat} {bs : List UInt8} {h3 : H} {q1 q2 q3 q4 q5 q6 l d : Nat} {x y w : Value} {ps : List (Int × Tlv)} {ad : Option Addr} {c : Nat} {z : Int} {e : Int}
    (S : Sl h3 1 (.slice ad bs.length c) (bs.map bv)) (hl : bs.length ≤ 1048576) (hsc : scan bs bs.length bs.length 0 = (ps, z))
    (B1 : h3[q1]? = some (.cells true (enc 0 22) [.slice ad bs.length c])) (Fx : e = 0 → Fu h3 5 26 x ps.length (tcells (ps.map Prod.snd))) (hx : ∃ a n, x = .slice a n n)
    (l3 : h3.length ≤ q3) (l4 : q3 < q4) (l5 : q4 < q5) (l6 : q5 < q6) (l7 : q6 < d) (l8 : d < l) (ny5 : ¬ isBlk y q5) (ny6 : ¬ isBlk y q6) (nyl : ¬ isBlk y l)
    {i : Nat} {hh : H} (I : SI bs h3 q3 q4 q5 q6 l d x y e ps (frS q1 q2 q3 q4 q5 q6 w) i hh)
    {p : Int × Tlv} (hp : ps[i]? = some p) (o : Ob) : Cn Try.prog n0 (.yield l) [.int .i64 p.1, p.2.v] (hh ++ [o]) (fun v h'' => v = .bool true ∧ SI bs h3 q3 q4 q5 q6 l d x y e ps (frS q1 q2 q3 q4 q5 q6 w) (i + 1) h'') := by
  obtain ⟨HP, hHP⟩ : ∃ HP : Value → H → Prop, (fun v h'' => v = .bool true ∧ SI bs h3 q3 q4 q5 q6 l d x y e ps (frS q1 q2 q3 q4 q5 q6 w) (i + 1) h'') = HP := ⟨_, rfl⟩
  rw [hHP]
  obtain ⟨g1, g2, g3⟩ := (scan_at _ _ _ _ hsc).1 i p hp
  have hk := headS_ok (bs := bs) (a := p.1) (e := bs.length) (by rw [g3])
  rw [g3] at hk
  have hil := lt_of_some hp
  have hps : ps.length ≤ bs.length := by have := scan_len (bs := bs) (e := bs.length) bs.length 0; rw [hsc] at this; exact this
  have hll := lt_of_some I.lp
  have hlo : loopOf (hh ++ [o]) l = some (frS q1 q2 q3 q4 q5 q6 w, 123, #[26, 27], F11.aAs0.erase, F11.aBd0.erase, .ready, none, d) := by
    unfold loopOf
    rw [get_app I.lp, show F11.aAs0.erase = F11.rAs0 from (ann_erase _ _).1, show F11.aBd0.erase = F11.rBd0 from (ann_erase _ _).1]
  refine Cn_yield follows hlo F11.k6 F11.k7 (L := [1, 2, 3, 4, 5, 6, 7, 8]) (fr1 := [(1, .pointer (some ⟨q1, 0, none⟩)), (2, .pointer (some ⟨q2, 0, none⟩)), (3, .pointer (some ⟨q3, 0, none⟩)), (4, .pointer (some ⟨q4, 0, none⟩)), (5, .pointer (some ⟨q5, 0, none⟩)), (6, .pointer (some ⟨q6, 0, none⟩)), (25, w), (26, .int .i64 p.1), (27, p.2.v)]) rfl ?_
  have e6 := F11.d6 (n0 := n0) l
  unfold F11.c6 at e6
  rw [← e6, F11.e6]
  simp (disch := first | omega | assumption | exact isC_last | exact isC_app (by first | assumption | exact isC_last | exact isC_app (by first | assumption | exact isC_last)) | (simp [oneC]; done) | fail) only [F11.t6, kas_n, Tlv.v, evs0, evs1, evs2, evs3, evs4, evs5, evs6, evs7, evs8, evs9, evs10, evs11, evs12, evs13, if_true, if_false, ↓reduceIte, Nat.reduceEqDiff, Nat.reduceAdd, Nat.reduceMul, Nat.reduceSub, Nat.reduceLeDiff, Int.reduceLT, Int.reduceLE, Int.reduceEq, Bool.false_eq_true, Option.bind_some, Option.map_some, List.set_cons_zero, List.set_cons_succ, List.toList_toArray, List.size_toArray, List.length_cons, List.length_nil, List.getElem?_toArray, List.getElem?_cons_zero, List.getElem?_cons_succ, List.drop_zero, List.take_succ_cons, List.take_zero]
  have hlo2 : loopOf (hh ++ [o] ++ [Ob.cells true (enc 0 26) [Value.int IntKind.i8 p.2.cls, Value.bool p.2.cons, Value.int IntKind.i64 p.2.num, Value.int IntKind.i64 p.2.frm, Value.int IntKind.i64 p.2.to]]) l = some (frS q1 q2 q3 q4 q5 q6 w, 123, #[26, 27], F11.rAs0, F11.rBd0, .ready, none, d) := by
    unfold loopOf
    rw [get_app (get_app I.lp)]
  refine Bnd_i (by unfold begK; rw [hlo2]) ?_
  have hlt8 : l ≠ (hh ++ [o]).length := by rw [List.length_append]; omega
  have P7 : ∀ j ob, j ≠ l → hh[j]? = some ob → ((hh ++ [o] ++ [Ob.cells true (enc 0 26) [Value.int IntKind.i8 p.2.cls, Value.bool p.2.cons, Value.int IntKind.i64 p.2.num, Value.int IntKind.i64 p.2.frm, Value.int IntKind.i64 p.2.to]]).set l (.loop (frS q1 q2 q3 q4 q5 q6 w) 123 #[26, 27] F11.rAs0 F11.rBd0 .busy none d))[j]? = some ob := fun j ob h1 h2 => set_ne (get_app (get_app h2)) h1
  have T7 := set_ne (x := .loop (frS q1 q2 q3 q4 q5 q6 w) 123 #[26, 27] F11.rAs0 F11.rBd0 .busy none d) (get_last (h := hh ++ [o]) (ob := Ob.cells true (enc 0 26) [Value.int IntKind.i8 p.2.cls, Value.bool p.2.cons, Value.int IntKind.i64 p.2.num, Value.int IntKind.i64 p.2.frm, Value.int IntKind.i64 p.2.to])) (Ne.symm hlt8)
  have L7 := set_same (x := .loop (frS q1 q2 q3 q4 q5 q6 w) 123 #[26, 27] F11.rAs0 F11.rBd0 .busy none d) (get_app (t := [Ob.cells true (enc 0 26) [Value.int IntKind.i8 p.2.cls, Value.bool p.2.cons, Value.int IntKind.i64 p.2.num, Value.int IntKind.i64 p.2.frm, Value.int IntKind.i64 p.2.to]]) (get_app (t := [o]) I.lp))
  have T8 : hh.length ≤ (hh ++ [o]).length := by simp
  generalize (hh ++ [o]).length = t8 at T7 hlt8 T8 ⊢
  generalize ((hh ++ [o] ++ [Ob.cells true (enc 0 26) [Value.int IntKind.i8 p.2.cls, Value.bool p.2.cons, Value.int IntKind.i64 p.2.num, Value.int IntKind.i64 p.2.frm, Value.int IntKind.i64 p.2.to]]).set l (.loop (frS q1 q2 q3 q4 q5 q6 w) 123 #[26, 27] F11.rAs0 F11.rBd0 .busy none d)) = h7 at P7 T7 L7 ⊢
  have b3l := lt_of_some B1
  have e7 := F11.d7 (n0 := n0) l
  unfold F11.c7 at e7
  rw [← e7, F11.e7]
  unfold F11.t7
  have c17 : aLoad Try.prog 22 (.pointer (some ⟨q1, 0, none⟩)) h7 = some (.slice ad bs.length c) := by rw [ld_22, rd_cells (P7 _ _ (by omega) (I.ext _ _ B1))]; rfl
  refine Bnd_i c17 (Bnd_i c17 (Bnd2_i len_22 ?_))
  have S7 : Sl h7 1 (.slice ad bs.length c) (bs.map bv) := S.ext fun j ob e1 => P7 j ob (by have := lt_of_some e1; omega) (I.ext _ _ e1)
  refine (Head_ok S7 (by omega) (by omega) (by omega) (by omega) (by omega)).mono ?_
  rintro v h8 ⟨⟨ob, rfl⟩, hv⟩
  rw [g3] at hv
  subst hv
  refine Bnd_i (a := p.2.v) rfl (Bnd_i (a := .int .i64 0) rfl (NwSt sz_26 (by rw [zc_26]; rfl) rfl fun u9 h9 X9 b9 => ?_))
  replace X9 := (Ext.app h7 [ob]).trans X9
  simp only [Tlv.v, cells_agg, List.toList_toArray] at b9
  have P9 : ∀ j ob, j ≠ l → hh[j]? = some ob → h9[j]? = some ob := fun j ob h1 h2 => X9 _ _ (P7 j ob h1 h2)
  replace T7 := X9 _ _ T7
  replace L7 := X9 _ _ L7
  have c1 := P9 _ _ (by omega) (I.ext _ _ B1)
  have c3 := P9 _ _ (by omega) I.b3
  have c4 := P9 _ _ (by omega) I.b4
  have c5 := P9 _ _ (by omega) I.b5
  have c6 := P9 _ _ (by omega) I.b6
  simp only at hk
  have r3 : rd h9 t8 3 = some (.int .i64 p.2.frm) := by rw [rd_cells T7]; rfl
  have r4 : rd h9 t8 4 = some (.int .i64 p.2.to) := by rw [rd_cells T7]; rfl
  simp (disch := first | omega | assumption | exact isC_last | exact isC_app (by first | assumption | exact isC_last | exact isC_app (by first | assumption | exact isC_last)) | (simp [oneC]; done) | fail) only [rd_blk0 (n := 5) T7 rfl, rd_blk0 (n := 5) b9 rfl, rd_cells c5, rd_cells c1, r3, r4, bQuo, bRem, bShl, bShr, IntWalk.i64_in, IntWalk.u64_in, IntWalk.u8_in, IntWalk.i8_in, IntWalk.u32_in, IntWalk.i32_in, IntWalk.u8_quo, IntWalk.i64_quo, IntWalk.u64_quo, IntWalk.rem_in, evs0, evs1, evs2, evs3, evs4, evs5, evs6, evs7, evs8, evs9, evs10, evs11, evs12, evs13, if_true, if_false, ↓reduceIte, Nat.reduceEqDiff, Nat.reduceAdd, Nat.reduceMul, Nat.reduceSub, Nat.reduceLeDiff, Int.reduceLT, Int.reduceLE, Int.reduceEq, Bool.false_eq_true, Option.bind_some, Option.map_some, List.set_cons_zero, List.set_cons_succ, List.toList_toArray, List.size_toArray, List.length_cons, List.length_nil, List.getElem?_toArray, List.getElem?_cons_zero, List.getElem?_cons_succ, List.drop_zero, List.take_succ_cons, List.take_zero]
  rw [if_pos g1]
  simp (disch := first | omega | assumption | exact isC_last | exact isC_app (by first | assumption | exact isC_last | exact isC_app (by first | assumption | exact isC_last)) | (simp [oneC]; done) | fail) only [decide_true, beq_self_eq_true, Bool.and_self, Bool.and_true, Bool.not_true, evs0, evs1, evs2, evs3, evs4, evs5, evs6, evs7, evs8, evs9, evs10, evs11, evs12, evs13, if_true, if_false, ↓reduceIte, Nat.reduceEqDiff, Nat.reduceAdd, Nat.reduceMul, Nat.reduceSub, Nat.reduceLeDiff, Int.reduceLT, Int.reduceLE, Int.reduceEq, Bool.false_eq_true, Option.bind_some, Option.map_some, List.set_cons_zero, List.set_cons_succ, List.toList_toArray, List.size_toArray, List.length_cons, List.length_nil, List.getElem?_toArray, List.getElem?_cons_zero, List.getElem?_cons_succ, List.drop_zero, List.take_succ_cons, List.take_zero]
  rw [if_neg (by omega), if_neg (by omega), if_neg (by omega), F11.e9]
  obtain ⟨K9, hK9⟩ : ∃ K9 : KP, (fun e (x : Fr) (x_1 : List Nat) h => match e with
      | Ex.normal => Bnd (endK l h none) fun r => HP r.fst r.snd
      | Ex.ret => Bnd (endK l h (some Code.ret)) fun r => HP r.fst r.snd
      | Ex.exit id => Bnd (endK l h (some (Code.exit id))) fun r => HP r.fst r.snd) = K9 := ⟨_, rfl⟩
  rw [hK9]
  have last : F11.p11 n0 l [(1, .pointer (some ⟨q1, 0, none⟩)), (2, .pointer (some ⟨q2, 0, none⟩)), (3, .pointer (some ⟨q3, 0, none⟩)), (4, .pointer (some ⟨q4, 0, none⟩)), (5, .pointer (some ⟨q5, 0, none⟩)), (6, .pointer (some ⟨q6, 0, none⟩)), (8, .pointer (some ⟨t8, 0, none⟩))] [] h9 (KBlk [1, 2, 3, 4, 5, 6] 1 K9) := by
    rw [F11.e11]
    simp (disch := first | omega | assumption | exact isC_last | exact isC_app (by first | assumption | exact isC_last | exact isC_app (by first | assumption | exact isC_last)) | (simp [oneC]; done) | fail) only [F11.t11, r4, evs0, evs1, evs2, evs3, evs4, evs5, evs6, evs7, evs8, evs9, evs10, evs11, evs12, evs13, if_true, if_false, ↓reduceIte, Nat.reduceEqDiff, Nat.reduceAdd, Nat.reduceMul, Nat.reduceSub, Nat.reduceLeDiff, Int.reduceLT, Int.reduceLE, Int.reduceEq, Bool.false_eq_true, Option.bind_some, Option.map_some, List.set_cons_zero, List.set_cons_succ, List.toList_toArray, List.size_toArray, List.length_cons, List.length_nil, List.getElem?_toArray, List.getElem?_cons_zero, List.getElem?_cons_succ, List.drop_zero, List.take_succ_cons, List.take_zero]
    refine Bnd_i (wr_cells c5 (by simp) rfl) ?_
    rw [over_one (by simp)]
    have c62 := set_ne (x := Ob.cells true (enc 0 3) [Value.int IntKind.i64 p.2.to]) c6 (show q6 ≠ q5 by omega)
    simp (disch := first | omega | assumption | exact isC_last | exact isC_app (by first | assumption | exact isC_last | exact isC_app (by first | assumption | exact isC_last)) | (simp [oneC]; done) | fail) only [rd_cells c62, evs0, evs1, evs2, evs3, evs4, evs5, evs6, evs7, evs8, evs9, evs10, evs11, evs12, evs13, if_true, if_false, ↓reduceIte, Nat.reduceEqDiff, Nat.reduceAdd, Nat.reduceMul, Nat.reduceSub, Nat.reduceLeDiff, Int.reduceLT, Int.reduceLE, Int.reduceEq, Bool.false_eq_true, Option.bind_some, Option.map_some, List.set_cons_zero, List.set_cons_succ, List.toList_toArray, List.size_toArray, List.length_cons, List.length_nil, List.getElem?_toArray, List.getElem?_cons_zero, List.getElem?_cons_succ, List.drop_zero, List.take_succ_cons, List.take_zero]
    refine Bnd_i (wr_cells c62 (by simp) rfl) ?_
    rw [over_one (by simp), IntWalk.i64_in _ (by omega), List.set_cons_zero, ← hK9]
    show Bnd (endK l ((h9.set q5 (.cells true (enc 0 3) [.int .i64 p.2.to])).set q6 (.cells true (enc 0 3) [.int .i64 ((i : Int) + 1)])) none) fun r => HP r.1 r.2
    have P10 : ∀ j ob, j ≠ q5 → j ≠ q6 → h9[j]? = some ob → ((h9.set q5 (.cells true (enc 0 3) [.int .i64 p.2.to])).set q6 (.cells true (enc 0 3) [.int .i64 ((i : Int) + 1)]))[j]? = some ob := fun j ob h1 h2 h3 => set_ne (set_ne h3 h1) h2
    have L10 := P10 _ _ (show l ≠ q5 by omega) (show l ≠ q6 by omega) L7
    have c51 : ((h9.set q5 (.cells true (enc 0 3) [.int .i64 p.2.to])).set q6 (.cells true (enc 0 3) [.int .i64 ((i : Int) + 1)]))[q5]? = some (.cells true (enc 0 3) [.int .i64 p.2.to]) := set_ne (set_same c5) (by omega)
    have c61 : ((h9.set q5 (.cells true (enc 0 3) [.int .i64 p.2.to])).set q6 (.cells true (enc 0 3) [.int .i64 ((i : Int) + 1)]))[q6]? = some (.cells true (enc 0 3) [.int .i64 ((i : Int) + 1)]) := set_same c62
    generalize ((h9.set q5 (Ob.cells true (enc 0 3) [.int .i64 p.2.to])).set q6 (.cells true (enc 0 3) [.int .i64 ((i : Int) + 1)])) = h10 at P10 L10 c51 c61 ⊢
    refine Bnd_i (a := (.bool true, h10.set l (.loop (frS q1 q2 q3 q4 q5 q6 w) 123 #[26, 27] F11.rAs0 F11.rBd0 .ready none d))) (by unfold endK loopOf; rw [L10]; rfl) ?_
    have P11 : ∀ j ob, j ≠ l → j ≠ q5 → j ≠ q6 → hh[j]? = some ob → (h10.set l (.loop (frS q1 q2 q3 q4 q5 q6 w) 123 #[26, 27] F11.rAs0 F11.rBd0 .ready none d))[j]? = some ob := fun j ob h1 h2 h3 h4 => set_ne (P10 j ob h2 h3 (P9 j ob h1 h4)) h1
    have hat : atS 0 ps (i + 1) = p.2.to := by
      unfold atS
      rw [if_neg (by omega), Nat.add_sub_cancel, List.getD_eq_getElem?_getD, hp]
      rfl
    rw [← hHP]
    refine ⟨rfl, ?_, P11 _ _ (by omega) (by omega) (by omega) I.b3, P11 _ _ (by omega) (by omega) (by omega) I.b4, ?_, ?_, set_same L10, P11 _ _ (by omega) (by omega) (by omega) I.df, I.fy.keep fun j ob e1 e2 => P11 j ob (fun e => nyl (e ▸ e1)) (fun e => ny5 (e ▸ e1)) (fun e => ny6 (e ▸ e1)) e2⟩
    · intro j ob e1
      have := lt_of_some e1
      exact P11 j ob (by omega) (by omega) (by omega) (I.ext _ _ e1)
    · rw [hat]
      exact set_ne c51 (by omega)
    · rw [show ((i + 1 : Nat) : Int) = (i : Int) + 1 from by omega]
      exact set_ne c61 (by omega)
  simp (disch := first | omega | assumption | exact isC_last | exact isC_app (by first | assumption | exact isC_last | exact isC_app (by first | assumption | exact isC_last)) | (simp [oneC]; done) | fail) only [F11.t9, rd_cells c4, evs0, evs1, evs2, evs3, evs4, evs5, evs6, evs7, evs8, evs9, evs10, evs11, evs12, evs13, if_true, if_false, ↓reduceIte, Nat.reduceEqDiff, Nat.reduceAdd, Nat.reduceMul, Nat.reduceSub, Nat.reduceLeDiff, Int.reduceLT, Int.reduceLE, Int.reduceEq, Bool.false_eq_true, Option.bind_some, Option.map_some, List.set_cons_zero, List.set_cons_succ, List.toList_toArray, List.size_toArray, List.length_cons, List.length_nil, List.getElem?_toArray, List.getElem?_cons_zero, List.getElem?_cons_succ, List.drop_zero, List.take_succ_cons, List.take_zero]
  by_cases he0 : e = 0
  · rw [if_pos he0]
    obtain ⟨a, n, rfl⟩ := hx
    have Fx := Fx he0
    obtain ⟨a', hv⟩ := Fx.form
    simp only [Value.slice.injEq] at hv
    obtain ⟨_, rfl, _⟩ := hv
    have F9 : Fu h9 5 26 (.slice a ps.length ps.length) ps.length (tcells (ps.map Prod.snd)) := Fx.keep fun j ob _ e1 => P9 j ob (by have := lt_of_some e1; omega) (I.ext _ _ e1)
    rcases F9 with ⟨_, h0, _⟩ | ⟨b2, hv, hn, hb2, hl2⟩
    · omega
    simp only [Value.slice.injEq] at hv
    obtain ⟨rfl, _, _⟩ := hv
    have hpl : ∀ a : Tlv, a.v.cells.toList.length = 5 := fun _ => rfl
    have hrd : rdN h9 b2 (i * 5) 5 = some p.2.v.cells.toList := by
      rw [rdN_blk hb2 5 (i * 5) (by omega)]
      unfold tcells
      rw [chunk hpl (ps.map Prod.snd) i p.2 (by rw [List.getElem?_map, hp]; rfl)]
    simp (disch := first | omega | assumption | exact isC_last | exact isC_app (by first | assumption | exact isC_last | exact isC_app (by first | assumption | exact isC_last)) | (simp [oneC]; done) | fail) only [rd_cells c6, rd_cells c3, evs0, evs1, evs2, evs3, evs4, evs5, evs6, evs7, evs8, evs9, evs10, evs11, evs12, evs13, if_true, if_false, ↓reduceIte, Nat.reduceEqDiff, Nat.reduceAdd, Nat.reduceMul, Nat.reduceSub, Nat.reduceLeDiff, Int.reduceLT, Int.reduceLE, Int.reduceEq, Bool.false_eq_true, Option.bind_some, Option.map_some, List.set_cons_zero, List.set_cons_succ, List.toList_toArray, List.size_toArray, List.length_cons, List.length_nil, List.getElem?_toArray, List.getElem?_cons_zero, List.getElem?_cons_succ, List.drop_zero, List.take_succ_cons, List.take_zero]
    rw [if_neg (by omega)]
    simp (disch := first | omega | assumption | exact isC_last | exact isC_app (by first | assumption | exact isC_last | exact isC_app (by first | assumption | exact isC_last)) | (simp [oneC]; done) | fail) only [Nat.zero_add, Int.toNat_natCast, hrd, Tlv.v, rd_blk0 (n := 5) T7 rfl, evs0, evs1, evs2, evs3, evs4, evs5, evs6, evs7, evs8, evs9, evs10, evs11, evs12, evs13, if_true, if_false, ↓reduceIte, Nat.reduceEqDiff, Nat.reduceAdd, Nat.reduceMul, Nat.reduceSub, Nat.reduceLeDiff, Int.reduceLT, Int.reduceLE, Int.reduceEq, Bool.false_eq_true, Option.bind_some, Option.map_some, List.set_cons_zero, List.set_cons_succ, List.toList_toArray, List.size_toArray, List.length_cons, List.length_nil, List.getElem?_toArray, List.getElem?_cons_zero, List.getElem?_cons_succ, List.drop_zero, List.take_succ_cons, List.take_zero]
    rw [if_pos (by omega)]
    simp (disch := first | omega | assumption | exact isC_last | exact isC_app (by first | assumption | exact isC_last | exact isC_app (by first | assumption | exact isC_last)) | (simp [oneC]; done) | fail) only [hrd, Tlv.v, evs0, evs1, evs2, evs3, evs4, evs5, evs6, evs7, evs8, evs9, evs10, evs11, evs12, evs13, if_true, if_false, ↓reduceIte, Nat.reduceEqDiff, Nat.reduceAdd, Nat.reduceMul, Nat.reduceSub, Nat.reduceLeDiff, Int.reduceLT, Int.reduceLE, Int.reduceEq, Bool.false_eq_true, Option.bind_some, Option.map_some, List.set_cons_zero, List.set_cons_succ, List.toList_toArray, List.size_toArray, List.length_cons, List.length_nil, List.getElem?_toArray, List.getElem?_cons_zero, List.getElem?_cons_succ, List.drop_zero, List.take_succ_cons, List.take_zero]
    simp (disch := first | omega | assumption | exact isC_last | exact isC_app (by first | assumption | exact isC_last | exact isC_app (by first | assumption | exact isC_last)) | (simp [oneC]; done) | fail) only [decide_true, beq_self_eq_true, Bool.and_self, Bool.and_true, Bool.not_true, evs0, evs1, evs2, evs3, evs4, evs5, evs6, evs7, evs8, evs9, evs10, evs11, evs12, evs13, if_true, if_false, ↓reduceIte, Nat.reduceEqDiff, Nat.reduceAdd, Nat.reduceMul, Nat.reduceSub, Nat.reduceLeDiff, Int.reduceLT, Int.reduceLE, Int.reduceEq, Bool.false_eq_true, Option.bind_some, Option.map_some, List.set_cons_zero, List.set_cons_succ, List.toList_toArray, List.size_toArray, List.length_cons, List.length_nil, List.getElem?_toArray, List.getElem?_cons_zero, List.getElem?_cons_succ, List.drop_zero, List.take_succ_cons, List.take_zero]
    exact last
  · rw [if_neg he0]
    exact last
end Go.Proofs.Ytknpmldldlbniaa
