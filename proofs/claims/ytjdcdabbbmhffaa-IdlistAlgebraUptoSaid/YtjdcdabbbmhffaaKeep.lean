/- keep, Meet, Less, Put, Drop. No condition. -/
import Derived.Test.YtjdcdabbbmhffaaUnion
import Derived.Test.YtjdcdabbbmhffaaReads
import Derived.Test.YtjdcdabbbmhffaaGc
set_option linter.unusedVariables false
set_option linter.unusedSimpArgs false
namespace Go.Proofs.Ytjdcdabbbmhffaa
open Go.Ev Idl
variable {n0 : Nat} {h : H}
/-- numbers laid one behind the other in memory of their own -/
structure Nw1 (h : H) (B : Nat) (r : Value) (s : List Int) : Prop where
  fu : Fu h 1 23 r s.length (s.map u)
  bl : ∀ j, isBlk r j → B ≤ j
theorem Nw1.sl {B : Nat} {r : Value} {s : List Int} (N : Nw1 h B r s) : Sl h 1 r (s.map u) := N.fu.sl (by omega)
theorem Nw1.ext {B : Nat} {r : Value} {s : List Int} {h1 : H} (N : Nw1 h B r s) (X : Ext h h1) : Nw1 h1 B r s := ⟨N.fu.keep fun j ob _ e => X _ _ e, N.bl⟩
theorem Nw1.low {B B' : Nat} {r : Value} {s : List Int} (N : Nw1 h B r s) (X : B' ≤ B) : Nw1 h B' r s := ⟨N.fu, fun j e => Nat.le_trans X (N.bl j e)⟩
theorem Nw1.ow {B M : Nat} {r : Value} {s : List Int} (N : Nw1 h B r s) (hM : s.length ≤ M) : Ow h B M r s := by
  rcases N.fu with ⟨rfl, h0, _⟩ | ⟨b, rfl, _, hb, _⟩
  · exact .inl ⟨rfl, List.eq_nil_of_length_eq_zero h0⟩
  · exact .inr ⟨b, s.length, [], rfl, N.bl _ (isBlk_some.2 rfl), by rw [List.append_nil]; exact hb, by simp, hM⟩
theorem Nw1.put {B : Nat} {r : Value} {s : List Int} {x : Int} {b : Nat} (N : Nw1 h B r s) (hb : h[b]? = some (.cells true (enc 1 23) [.int .u64 x])) (hB : B ≤ h.length) (hl : s.length < 26388279065600) :
    ∃ r' h', aAppend Try.prog 22 r (.slice (some ⟨b, 0, none⟩) 1 1) h = some (r', h') ∧ Nw1 h' B r' (s ++ [x]) ∧ But r h h' := by
  obtain ⟨r', h', e, F, hb', hbl⟩ := N.fu.append (P := Try.prog) (T := 22) (m := 1) (new := [x].map u) el_22 sz_23 ze_23 by_23 rfl (by omega) (by omega) (src1 (Sl.mk (o := 0) (n := 1) hb (eS_enc' (by omega)) rfl rfl (Nat.le_refl _))) rfl rfl (by omega) (by omega)
  refine ⟨r', h', e, ⟨by rw [List.length_append, List.map_append]; exact F, fun j ej => ?_⟩, hb'⟩
  rcases hbl j ej with k | rfl
  · exact N.bl j k
  · exact hB
theorem butExt {r : Value} {g hh h' : H} (b : But r hh h') (X : Ext g hh) (hr : ∀ j, isBlk r j → g.length ≤ j) : Ext g h' := fun j ob e => b.2 j ob (fun k => by have := hr j k; have := lt_of_some e; omega) (X _ _ e)
set_option maxRecDepth 20000 in
theorem keep_ok {v w : Value} {a b : List Int} {inn : Bool} (S : Sl h 1 v (a.map u)) (T : Sl h 1 w (b.map u)) (ha : a.length < 26388279065600) (hb : b.length < 26388279065600) :
    Cn Try.prog n0 (.func 54) [v, w, .bool inn] h (fun r h' => ∃ s, Nw1 h' h.length r s ∧ St (fun x => x ∈ a ∧ decide (x ∈ b) = inn) s ∧ s.length ≤ a.length ∧ Ext h h') := by
  refine F54.enter ?_
  obtain ⟨HP, hHP⟩ : ∃ HP : Value → H → Prop, (fun r h' => ∃ s, Nw1 h' h.length r s ∧ St (fun x => x ∈ a ∧ decide (x ∈ b) = inn) s ∧ s.length ≤ a.length ∧ Ext h h') = HP := ⟨_, rfl⟩
  rw [hHP, F54.e0]
  unfold F54.t0
  refine (set_ok S (by omega)).mono ?_
  rintro wa h1 ⟨sa, A1, hSa, hsa, X1⟩
  refine (set_ok (T.ext X1) (by omega)).mono ?_
  rintro wb g ⟨sb, B2, hSb, hsb, X2⟩
  have A2 := A1.ext X2
  have hgl := (X1.trans X2).len'
  refine Bnd2_i (len_sl A2) ?_
  refine Lp_ind (fun m fr hh => ∃ (i at' : Nat) (out : Value), fr = [(1, wb), (2, .bool inn), (7, out), (8, .int .i64 at'), (15, wa), (16, .int .i64 sa.length), (17, .int .i64 i)] ∧ i ≤ sa.length ∧ at' ≤ sb.length ∧ (∀ j, j < at' → i < sa.length → sb.getD j 0 < sa.getD i 0) ∧
      Nw1 hh g.length out ((sa.take i).filter fun x => decide (x ∈ b) == inn) ∧ Ext g hh ∧ m = sa.length - i) (F54.m1 n0) sa.length
    ⟨0, 0, .slice none 0 0, by simp (disch := first | omega | assumption | exact isC_last | exact isC_app (by first | assumption | exact isC_last | exact isC_app (by first | assumption | exact isC_last)) | (simp [oneC]; done) | fail) only [evs0, evs1, evs2, evs3, evs4, evs5, evs6, evs7, evs8, if_true, if_false, ↓reduceIte, Nat.reduceEqDiff, Nat.reduceAdd, Nat.reduceMul, Nat.reduceSub, Nat.reduceLeDiff, Int.reduceLT, Int.reduceLE, Int.reduceEq, Bool.false_eq_true, Option.bind_some, Option.map_some, List.set_cons_zero, List.set_cons_succ, List.toList_toArray, List.size_toArray, List.length_cons, List.length_nil, List.getElem?_toArray, List.getElem?_cons_zero, List.getElem?_cons_succ, List.drop_zero, List.take_succ_cons, List.take_zero]; rfl, by omega, by omega, fun j hj => by omega, ⟨.inl ⟨rfl, rfl, rfl⟩, fun j e => absurd e isBlk_nil⟩, Ext.refl _, rfl⟩ ?_
  rintro m fr hh ⟨i, at', out, rfl, hi, hat, hlt, N, X, rfl⟩
  have hgh := X.len'
  rw [F54.e1]
  simp (disch := first | omega | assumption | exact isC_last | exact isC_app (by first | assumption | exact isC_last | exact isC_app (by first | assumption | exact isC_last)) | (simp [oneC]; done) | fail) only [F54.t1, evs0, evs1, evs2, evs3, evs4, evs5, evs6, evs7, evs8, if_true, if_false, ↓reduceIte, Nat.reduceEqDiff, Nat.reduceAdd, Nat.reduceMul, Nat.reduceSub, Nat.reduceLeDiff, Int.reduceLT, Int.reduceLE, Int.reduceEq, Bool.false_eq_true, Option.bind_some, Option.map_some, List.set_cons_zero, List.set_cons_succ, List.toList_toArray, List.size_toArray, List.length_cons, List.length_nil, List.getElem?_toArray, List.getElem?_cons_zero, List.getElem?_cons_succ, List.drop_zero, List.take_succ_cons, List.take_zero]
  by_cases h5 : i < sa.length
  · rw [if_pos (by omega), F54.e2]
    unfold F54.t2
    refine rdU (A2.ext X) (by omega) (by omega) fun p => ?_
    rw [Int.toNat_natCast]
    refine (seek_ok (B2.ext X) hSb.up hat (by omega)).mono ?_
    rintro _ h3 ⟨⟨k, rfl, F⟩, X3⟩
    obtain ⟨id, hid⟩ : ∃ id, sa.getD i 0 = id := ⟨_, rfl⟩
    rw [hid] at F hlt ⊢
    have F0 : Fst sb 0 id k := ⟨by omega, F.le, fun j _ hj => by
      by_cases hj2 : j < at'
      · exact hlt j hj2 h5
      · exact F.lt j (by omega) hj, F.at_⟩
    have hm := fst_mem hSb F0
    have N3 := N.ext X3
    have X4 := X.trans X3
    have hlen : ((sa.take i).filter fun x => decide (x ∈ b) == inn).length ≤ i := Nat.le_trans (List.length_filter_le _ _) (by rw [List.length_take]; omega)
    have tk : (sa.take (i + 1)).filter (fun x => decide (x ∈ b) == inn) = ((sa.take i).filter fun x => decide (x ∈ b) == inn) ++ (if decide (id ∈ b) == inn then [id] else []) := by
      rw [List.take_add_one, List.getElem?_eq_getElem h5, Option.toList_some, List.filter_append, ← hid, getD_get h5, List.filter_cons, List.filter_nil]
    have nxt : ∀ (out' : Value) (h' : H), Nw1 h' g.length out' ((sa.take (i + 1)).filter fun x => decide (x ∈ b) == inn) → Ext g h' →
        F54.p4 n0 [(1, wb), (2, .bool inn), (7, out'), (8, .int .i64 k), (15, wa), (16, .int .i64 sa.length), (17, .int .i64 i)] [] h' (KLp [1, 2, 7, 8, 15, 16, 17] (fun fr hh => ∃ m', m' < sa.length - i ∧ ∃ (i at' : Nat) (out : Value), fr = [(1, wb), (2, .bool inn), (7, out), (8, .int .i64 at'), (15, wa), (16, .int .i64 sa.length), (17, .int .i64 i)] ∧ i ≤ sa.length ∧ at' ≤ sb.length ∧ (∀ j, j < at' → i < sa.length → sb.getD j 0 < sa.getD i 0) ∧
      Nw1 hh g.length out ((sa.take i).filter fun x => decide (x ∈ b) == inn) ∧ Ext g hh ∧ m' = sa.length - i) [] (KBlk [7] 0 (KSeq [7] (F54.p5 n0) (KFin Try.prog [.tmp 6] HP)))) := by
      intro out' h' N' X'
      rw [F54.e4]
      simp (disch := first | omega | assumption | exact isC_last | exact isC_app (by first | assumption | exact isC_last | exact isC_app (by first | assumption | exact isC_last)) | (simp [oneC]; done) | fail) only [F54.t4, evs0, evs1, evs2, evs3, evs4, evs5, evs6, evs7, evs8, if_true, if_false, ↓reduceIte, Nat.reduceEqDiff, Nat.reduceAdd, Nat.reduceMul, Nat.reduceSub, Nat.reduceLeDiff, Int.reduceLT, Int.reduceLE, Int.reduceEq, Bool.false_eq_true, Option.bind_some, Option.map_some, List.set_cons_zero, List.set_cons_succ, List.toList_toArray, List.size_toArray, List.length_cons, List.length_nil, List.getElem?_toArray, List.getElem?_cons_zero, List.getElem?_cons_succ, List.drop_zero, List.take_succ_cons, List.take_zero]
      rw [show IntKind.i64.wrap ((i : Int) + 1) = ((i + 1 : Nat) : Int) by rw [IntWalk.i64_in _ (by omega)]; omega]
      refine ⟨by trivial, sa.length - (i + 1), by omega, i + 1, k, out', rfl, by omega, F.le, fun j hj hi2 => ?_, N', X', rfl⟩
      have := F0.lt j (by omega) hj
      have := up_le hSa.up (i := i) (j := i + 1) (by omega) hi2
      omega
    have yes : decide (id ∈ b) = inn → F54.p3 n0 [(1, wb), (2, .bool inn), (7, out), (8, .int .i64 k), (10, .int .u64 id), (15, wa), (16, .int .i64 sa.length), (17, .int .i64 i)] [] h3 (KBlk [1, 2, 7, 8, 15, 16, 17] 1 (KSeq [1, 2, 7, 8, 15, 16, 17] (F54.p4 n0) (KLp [1, 2, 7, 8, 15, 16, 17] (fun fr hh => ∃ m', m' < sa.length - i ∧ ∃ (i at' : Nat) (out : Value), fr = [(1, wb), (2, .bool inn), (7, out), (8, .int .i64 at'), (15, wa), (16, .int .i64 sa.length), (17, .int .i64 i)] ∧ i ≤ sa.length ∧ at' ≤ sb.length ∧ (∀ j, j < at' → i < sa.length → sb.getD j 0 < sa.getD i 0) ∧
      Nw1 hh g.length out ((sa.take i).filter fun x => decide (x ∈ b) == inn) ∧ Ext g hh ∧ m' = sa.length - i) [] (KBlk [7] 0 (KSeq [7] (F54.p5 n0) (KFin Try.prog [.tmp 6] HP)))))) := by
      intro hin
      rw [F54.e3]
      unfold F54.t3
      refine Bnd2_i bsl_22_1_0 ?_
      rw [ap_22_22]
      have h3l := X3.len'
      obtain ⟨out', h', e, N', hbut⟩ := (N3.ext (Ext.app h3 [Ob.cells true (enc 1 23) [.int .u64 id]])).put get_last (by rw [List.length_append]; omega) (by omega)
      refine Bnd2_i e ?_
      simp (disch := first | omega | assumption | exact isC_last | exact isC_app (by first | assumption | exact isC_last | exact isC_app (by first | assumption | exact isC_last)) | (simp [oneC]; done) | fail) only [evs0, evs1, evs2, evs3, evs4, evs5, evs6, evs7, evs8, if_true, if_false, ↓reduceIte, Nat.reduceEqDiff, Nat.reduceAdd, Nat.reduceMul, Nat.reduceSub, Nat.reduceLeDiff, Int.reduceLT, Int.reduceLE, Int.reduceEq, Bool.false_eq_true, Option.bind_some, Option.map_some, List.set_cons_zero, List.set_cons_succ, List.toList_toArray, List.size_toArray, List.length_cons, List.length_nil, List.getElem?_toArray, List.getElem?_cons_zero, List.getElem?_cons_succ, List.drop_zero, List.take_succ_cons, List.take_zero]
      refine nxt out' h' ?_ (butExt hbut (X4.trans (Ext.app _ _)) N.bl)
      rw [tk, if_pos (by rw [hin]; simp)]
      exact N'
    have no : ¬ decide (id ∈ b) = inn → Nw1 h3 g.length out ((sa.take (i + 1)).filter fun x => decide (x ∈ b) == inn) := by
      intro hin
      rw [tk, if_neg (by simpa using hin), List.append_nil]
      exact N3
    refine Bnd2_i (len_sl (B2.ext X4)) ?_
    refine Bnd_i bLss ?_
    by_cases h6 : k < sb.length
    · rw [decide_eq_true (by omega), Gd_true]
      refine rdU (B2.ext X4) (by omega) (by omega) fun p => ?_
      rw [Int.toNat_natCast]
      refine Bnd_i bEql ?_
      refine Bnd_i (bEqlB Try.underlying4) ?_
      rw [if_pos h6] at hm
      rw [← hm]
      cases hx : (decide (id ∈ b) == inn) with
      | true => rw [Cnd_true]; exact yes (by simpa using hx)
      | false => rw [Cnd_false]; exact nxt _ _ (no (by simpa using hx)) X4
    · rw [decide_eq_false (by omega), Gd_false]
      refine Bnd_i (bEqlB Try.underlying4) ?_
      rw [if_neg h6] at hm
      rw [← hm]
      cases hx : (decide (id ∈ b) == inn) with
      | true => rw [Cnd_true]; exact yes (by simpa using hx)
      | false => rw [Cnd_false]; exact nxt _ _ (no (by simpa using hx)) X4
  · rw [if_neg (by omega)]
    obtain rfl : i = sa.length := by omega
    rw [List.take_length] at N
    rw [F54.e5]
    simp (disch := first | omega | assumption | exact isC_last | exact isC_app (by first | assumption | exact isC_last | exact isC_app (by first | assumption | exact isC_last)) | (simp [oneC]; done) | fail) only [F54.t5, evs0, evs1, evs2, evs3, evs4, evs5, evs6, evs7, evs8, if_true, if_false, ↓reduceIte, Nat.reduceEqDiff, Nat.reduceAdd, Nat.reduceMul, Nat.reduceSub, Nat.reduceLeDiff, Int.reduceLT, Int.reduceLE, Int.reduceEq, Bool.false_eq_true, Option.bind_some, Option.map_some, List.set_cons_zero, List.set_cons_succ, List.toList_toArray, List.size_toArray, List.length_cons, List.length_nil, List.getElem?_toArray, List.getElem?_cons_zero, List.getElem?_cons_succ, List.drop_zero, List.take_succ_cons, List.take_zero]
    rw [← hHP]
    refine ⟨_, N.low hgl, ⟨List.Pairwise.filter _ hSa.up, fun x => by rw [List.mem_filter, hSa.mem, beq_iff_eq]⟩, Nat.le_trans (List.length_filter_le _ _) hsa, (X1.trans X2).trans X⟩
theorem Meet_ok {v w : Value} {a b : List Int} (S : Sl h 1 v (a.map u)) (T : Sl h 1 w (b.map u)) (ha : a.length < 26388279065600) (hb : b.length < 26388279065600) :
    Cn Try.prog n0 (.func 35) [v, w] h (fun r h' => ∃ s, Nw1 h' h.length r s ∧ St (fun x => x ∈ a ∧ x ∈ b) s ∧ s.length ≤ a.length ∧ Ext h h') := by
  refine F35.enter ?_
  obtain ⟨HP, hHP⟩ : ∃ HP : Value → H → Prop, (fun r h' => ∃ s, Nw1 h' h.length r s ∧ St (fun x => x ∈ a ∧ x ∈ b) s ∧ s.length ≤ a.length ∧ Ext h h') = HP := ⟨_, rfl⟩
  rw [hHP, F35.e0]
  unfold F35.t0
  refine (keep_ok S T ha hb).mono ?_
  rintro r h1 ⟨s, N, hS, hs, X⟩
  simp (disch := first | omega | assumption | exact isC_last | exact isC_app (by first | assumption | exact isC_last | exact isC_app (by first | assumption | exact isC_last)) | (simp [oneC]; done) | fail) only [evs0, evs1, evs2, evs3, evs4, evs5, evs6, evs7, evs8, if_true, if_false, ↓reduceIte, Nat.reduceEqDiff, Nat.reduceAdd, Nat.reduceMul, Nat.reduceSub, Nat.reduceLeDiff, Int.reduceLT, Int.reduceLE, Int.reduceEq, Bool.false_eq_true, Option.bind_some, Option.map_some, List.set_cons_zero, List.set_cons_succ, List.toList_toArray, List.size_toArray, List.length_cons, List.length_nil, List.getElem?_toArray, List.getElem?_cons_zero, List.getElem?_cons_succ, List.drop_zero, List.take_succ_cons, List.take_zero]
  rw [← hHP]
  exact ⟨s, N, hS.congr fun x => by simp, hs, X⟩
theorem Less_ok {v w : Value} {a b : List Int} (S : Sl h 1 v (a.map u)) (T : Sl h 1 w (b.map u)) (ha : a.length < 26388279065600) (hb : b.length < 26388279065600) :
    Cn Try.prog n0 (.func 36) [v, w] h (fun r h' => ∃ s, Nw1 h' h.length r s ∧ St (fun x => x ∈ a ∧ ¬ x ∈ b) s ∧ s.length ≤ a.length ∧ Ext h h') := by
  refine F36.enter ?_
  obtain ⟨HP, hHP⟩ : ∃ HP : Value → H → Prop, (fun r h' => ∃ s, Nw1 h' h.length r s ∧ St (fun x => x ∈ a ∧ ¬ x ∈ b) s ∧ s.length ≤ a.length ∧ Ext h h') = HP := ⟨_, rfl⟩
  rw [hHP, F36.e0]
  unfold F36.t0
  refine (keep_ok S T ha hb).mono ?_
  rintro r h1 ⟨s, N, hS, hs, X⟩
  simp (disch := first | omega | assumption | exact isC_last | exact isC_app (by first | assumption | exact isC_last | exact isC_app (by first | assumption | exact isC_last)) | (simp [oneC]; done) | fail) only [evs0, evs1, evs2, evs3, evs4, evs5, evs6, evs7, evs8, if_true, if_false, ↓reduceIte, Nat.reduceEqDiff, Nat.reduceAdd, Nat.reduceMul, Nat.reduceSub, Nat.reduceLeDiff, Int.reduceLT, Int.reduceLE, Int.reduceEq, Bool.false_eq_true, Option.bind_some, Option.map_some, List.set_cons_zero, List.set_cons_succ, List.toList_toArray, List.size_toArray, List.length_cons, List.length_nil, List.getElem?_toArray, List.getElem?_cons_zero, List.getElem?_cons_succ, List.drop_zero, List.take_succ_cons, List.take_zero]
  rw [← hHP]
  exact ⟨s, N, hS.congr fun x => by simp, hs, X⟩
theorem one_sl {b : Nat} {id : Int} (hb : h[b]? = some (.cells true (enc 1 23) [.int .u64 id])) : Sl h 1 (.slice (some ⟨b, 0, none⟩) 1 1) ([id].map u) := Sl.mk (o := 0) hb (eS_enc' (by omega)) rfl rfl (Nat.le_refl _)
theorem Drop_ok {v : Value} {l : List Int} {id : Int} (S : Sl h 1 v (l.map u)) (hl : l.length < 26388279065600) :
    Cn Try.prog n0 (.func 39) [v, .int .u64 id] h (fun r h' => ∃ s, Nw1 h' h.length r s ∧ St (fun x => x ∈ l ∧ ¬ x = id) s ∧ s.length ≤ l.length ∧ Ext h h') := by
  refine F39.enter ?_
  obtain ⟨HP, hHP⟩ : ∃ HP : Value → H → Prop, (fun r h' => ∃ s, Nw1 h' h.length r s ∧ St (fun x => x ∈ l ∧ ¬ x = id) s ∧ s.length ≤ l.length ∧ Ext h h') = HP := ⟨_, rfl⟩
  rw [hHP, F39.e0]
  unfold F39.t0
  refine Bnd2_i bsl_22_1_0 ?_
  refine (keep_ok (S.app _) (one_sl get_last) hl (by simp)).mono ?_
  rintro r h1 ⟨s, N, hS, hs, X⟩
  simp (disch := first | omega | assumption | exact isC_last | exact isC_app (by first | assumption | exact isC_last | exact isC_app (by first | assumption | exact isC_last)) | (simp [oneC]; done) | fail) only [evs0, evs1, evs2, evs3, evs4, evs5, evs6, evs7, evs8, if_true, if_false, ↓reduceIte, Nat.reduceEqDiff, Nat.reduceAdd, Nat.reduceMul, Nat.reduceSub, Nat.reduceLeDiff, Int.reduceLT, Int.reduceLE, Int.reduceEq, Bool.false_eq_true, Option.bind_some, Option.map_some, List.set_cons_zero, List.set_cons_succ, List.toList_toArray, List.size_toArray, List.length_cons, List.length_nil, List.getElem?_toArray, List.getElem?_cons_zero, List.getElem?_cons_succ, List.drop_zero, List.take_succ_cons, List.take_zero]
  rw [← hHP]
  exact ⟨s, N.low (by simp), hS.congr fun x => by simp, hs, (Ext.app _ _).trans X⟩
theorem Put_ok {v : Value} {l : List Int} {id : Int} (S : Sl h 1 v (l.map u)) (hl : l.length < 26388279065600) :
    Cn Try.prog n0 (.func 38) [v, .int .u64 id] h (fun r h' => ∃ s, Ow h' h.length (l.length + 1) r s ∧ St (fun x => x ∈ l ∨ x = id) s ∧ s.length ≤ l.length + 1 ∧ Ext h h') := by
  refine F38.enter ?_
  obtain ⟨HP, hHP⟩ : ∃ HP : Value → H → Prop, (fun r h' => ∃ s, Ow h' h.length (l.length + 1) r s ∧ St (fun x => x ∈ l ∨ x = id) s ∧ s.length ≤ l.length + 1 ∧ Ext h h') = HP := ⟨_, rfl⟩
  rw [hHP, F38.e0]
  unfold F38.t0
  refine (set_ok S (by omega)).mono ?_
  rintro w h1 ⟨s, S1, hSt, hs, X1⟩
  refine Bnd2_i bsl_22_1_0 ?_
  refine (both_ok (S1.app _) (one_sl get_last) (by simp; omega)).mono ?_
  rintro r h2 ⟨O, X2⟩
  simp (disch := first | omega | assumption | exact isC_last | exact isC_app (by first | assumption | exact isC_last | exact isC_app (by first | assumption | exact isC_last)) | (simp [oneC]; done) | fail) only [evs0, evs1, evs2, evs3, evs4, evs5, evs6, evs7, evs8, if_true, if_false, ↓reduceIte, Nat.reduceEqDiff, Nat.reduceAdd, Nat.reduceMul, Nat.reduceSub, Nat.reduceLeDiff, Int.reduceLT, Int.reduceLE, Int.reduceEq, Bool.false_eq_true, Option.bind_some, Option.map_some, List.set_cons_zero, List.set_cons_succ, List.toList_toArray, List.size_toArray, List.length_cons, List.length_nil, List.getElem?_toArray, List.getElem?_cons_zero, List.getElem?_cons_succ, List.drop_zero, List.take_succ_cons, List.take_zero]
  rw [← hHP]
  have l1 := X1.len'
  have l2 : h1.length ≤ (h1 ++ [Ob.cells true (enc 1 23) [Value.int IntKind.u64 id]]).length := by simp
  have hle := uni_le (a := s) (b := [id])
  simp only [List.length_cons, List.length_nil] at hle O
  exact ⟨_, (O.low (by omega)).more (by omega), (uni_st hSt (St.self (r := [id]) (by simp [Up]))).congr fun x => by simp, by omega, X1.trans ((Ext.app _ _).trans X2)⟩
end Go.Proofs.Ytjdcdabbbmhffaa
