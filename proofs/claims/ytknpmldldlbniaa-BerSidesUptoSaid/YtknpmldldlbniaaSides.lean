/- BerSides answers true, of lists of at most 2^20 bytes. -/
import Derived.Test.YtknpmldldlbniaaGoes
import Derived.Test.YtknpmldldlbniaaEvLay
import Derived.Test.YtknpmldldlbniaaBulk
set_option linter.unusedVariables false
set_option linter.unusedSimpArgs false
namespace Go.Proofs.Ytknpmldldlbniaa
open Go.Ev Ber
set_option maxRecDepth 20000 in
theorem BerSides_ok {n0 : Nat} {h : H} {b : Value} {bs : List UInt8} (S : Sl h 1 b (bs.map bv)) (hl : bs.length ≤ 1048576) : Cn Try.prog n0 (.func 11) [b] h (fun v _ => v = .bool true) := by
  refine F11.enter ?_
  obtain ⟨HP, hHP⟩ : ∃ HP : Value → H → Prop, (fun v _ => v = .bool true) = HP := ⟨_, rfl⟩
  obtain ⟨ad, c, rfl, hc⟩ := S.lenB
  rw [hHP, F11.e0]
  simp (disch := first | omega | assumption | exact isC_last | exact isC_app (by first | assumption | exact isC_last | exact isC_app (by first | assumption | exact isC_last)) | (simp [oneC]; done) | fail) only [F11.t0, clL, evs0, evs1, evs2, evs3, evs4, evs5, evs6, evs7, evs8, evs9, evs10, evs11, evs12, evs13, if_true, if_false, ↓reduceIte, Nat.reduceEqDiff, Nat.reduceAdd, Nat.reduceMul, Nat.reduceSub, Nat.reduceLeDiff, Int.reduceLT, Int.reduceLE, Int.reduceEq, Bool.false_eq_true, Option.bind_some, Option.map_some, List.set_cons_zero, List.set_cons_succ, List.toList_toArray, List.size_toArray, List.length_cons, List.length_nil, List.getElem?_toArray, List.getElem?_cons_zero, List.getElem?_cons_succ, List.drop_zero, List.take_succ_cons, List.take_zero]
  refine Works_ok.mono ?_
  rintro v h1 ⟨rfl, rfl⟩
  simp (disch := first | omega | assumption | exact isC_last | exact isC_app (by first | assumption | exact isC_last | exact isC_app (by first | assumption | exact isC_last)) | (simp [oneC]; done) | fail) only [Bool.not_true, evs0, evs1, evs2, evs3, evs4, evs5, evs6, evs7, evs8, evs9, evs10, evs11, evs12, evs13, if_true, if_false, ↓reduceIte, Nat.reduceEqDiff, Nat.reduceAdd, Nat.reduceMul, Nat.reduceSub, Nat.reduceLeDiff, Int.reduceLT, Int.reduceLE, Int.reduceEq, Bool.false_eq_true, Option.bind_some, Option.map_some, List.set_cons_zero, List.set_cons_succ, List.toList_toArray, List.size_toArray, List.length_cons, List.length_nil, List.getElem?_toArray, List.getElem?_cons_zero, List.getElem?_cons_succ, List.drop_zero, List.take_succ_cons, List.take_zero]
  have B1 : (h ++ [Ob.cells true (enc 0 22) [.slice ad bs.length c]] ++ [.cells true (enc 0 4) [.bool false]])[h.length]? = some (.cells true (enc 0 22) [.slice ad bs.length c]) := get_app get_last
  have B2 : (h ++ [Ob.cells true (enc 0 22) [.slice ad bs.length c]] ++ [.cells true (enc 0 4) [.bool false]])[(h ++ [Ob.cells true (enc 0 22) [.slice ad bs.length c]]).length]? = some (.cells true (enc 0 4) [.bool false]) := get_last
  replace S := (S.app [Ob.cells true (enc 0 22) [.slice ad bs.length c]]).app [Ob.cells true (enc 0 4) [.bool false]]
  generalize (h ++ [Ob.cells true (enc 0 22) [.slice ad bs.length c]]).length = q2 at B2 ⊢
  generalize hq : h.length = q1 at B1 ⊢
  generalize (h ++ [Ob.cells true (enc 0 22) [.slice ad bs.length c]] ++ [.cells true (enc 0 4) [.bool false]]) = h2 at B1 B2 S ⊢
  have b1l := lt_of_some B1
  have b2l := lt_of_some B2
  clear hq
  rw [F11.e2]
  unfold F11.t2
  have c1 : aLoad Try.prog 22 (.pointer (some ⟨q1, 0, none⟩)) h2 = some (.slice ad bs.length c) := by rw [ld_22, rd_cells B1]; rfl
  refine Bnd_i c1 (Bnd_i c1 (Bnd2_i len_22 ?_))
  refine (Whole_ok S hl (by omega) (by omega) (by omega) (by omega)).mono ?_
  rintro v h3 ⟨x, rfl, Fx, X3, L3, Nx⟩
  replace B1 := X3 _ _ B1
  replace B2 := X3 _ _ B2
  replace S := S.ext X3
  replace b1l : q1 < h3.length := by omega
  replace b2l : q2 < h3.length := by omega
  obtain ⟨ax, rfl⟩ := Fx.form
  have i1 := isC_of B1
  simp (disch := first | omega | assumption | exact isC_last | exact isC_app (by first | assumption | exact isC_last | exact isC_app (by first | assumption | exact isC_last)) | (simp [oneC]; done) | fail) only [rd_cells B1, evs0, evs1, evs2, evs3, evs4, evs5, evs6, evs7, evs8, evs9, evs10, evs11, evs12, evs13, if_true, if_false, ↓reduceIte, Nat.reduceEqDiff, Nat.reduceAdd, Nat.reduceMul, Nat.reduceSub, Nat.reduceLeDiff, Int.reduceLT, Int.reduceLE, Int.reduceEq, Bool.false_eq_true, Option.bind_some, Option.map_some, List.set_cons_zero, List.set_cons_succ, List.toList_toArray, List.size_toArray, List.length_cons, List.length_nil, List.getElem?_toArray, List.getElem?_cons_zero, List.getElem?_cons_succ, List.drop_zero, List.take_succ_cons, List.take_zero]
  obtain ⟨x, hx⟩ : ∃ x, Value.slice ax (wholeL bs 0 bs.length).length (wholeL bs 0 bs.length).length = x := ⟨_, rfl⟩
  obtain ⟨e, he⟩ : ∃ e, wholeE bs 0 bs.length = e := ⟨_, rfl⟩
  rw [hx] at Fx Nx ⊢
  rw [he]
  have wl := wr_last (h := h3 ++ [Ob.cells true (enc 0 64) [x]]) (e := enc 0 27) (o := 0) (cs := [Value.int IntKind.i64 0]) (vs := [Value.int IntKind.i64 e]) rfl
  refine Bnd_i (a := h3 ++ [Ob.cells true (enc 0 64) [x]] ++ [Ob.cells true (enc 0 27) [.int .i64 e]]) (by rw [List.length_append] at wl ⊢; exact wl) ?_
  have G3 : (h3 ++ [Ob.cells true (enc 0 64) [x]] ++ [Ob.cells true (enc 0 27) [.int .i64 e]] ++ [Ob.cells true (enc 0 3) [Value.int IntKind.i64 0]] ++ [Ob.cells true (enc 0 3) [Value.int IntKind.i64 0]])[h3.length]? = some (.cells true (enc 0 64) [x]) := get_app (get_app (get_app get_last))
  have G4 : (h3 ++ [Ob.cells true (enc 0 64) [x]] ++ [Ob.cells true (enc 0 27) [.int .i64 e]] ++ [Ob.cells true (enc 0 3) [Value.int IntKind.i64 0]] ++ [Ob.cells true (enc 0 3) [Value.int IntKind.i64 0]])[(h3 ++ [Ob.cells true (enc 0 64) [Value.slice none 0 0]]).length]? = some (.cells true (enc 0 27) [.int .i64 e]) := by
    have := get_last (h := h3 ++ [Ob.cells true (enc 0 64) [x]]) (ob := Ob.cells true (enc 0 27) [.int .i64 e])
    rw [List.length_append] at this ⊢
    exact get_app (get_app this)
  have G5 : (h3 ++ [Ob.cells true (enc 0 64) [x]] ++ [Ob.cells true (enc 0 27) [.int .i64 e]] ++ [Ob.cells true (enc 0 3) [Value.int IntKind.i64 0]] ++ [Ob.cells true (enc 0 3) [Value.int IntKind.i64 0]])[(h3 ++ [Ob.cells true (enc 0 64) [x]] ++ [Ob.cells true (enc 0 27) [.int .i64 e]]).length]? = some (.cells true (enc 0 3) [.int .i64 0]) := get_app get_last
  have G6 : (h3 ++ [Ob.cells true (enc 0 64) [x]] ++ [Ob.cells true (enc 0 27) [.int .i64 e]] ++ [Ob.cells true (enc 0 3) [Value.int IntKind.i64 0]] ++ [Ob.cells true (enc 0 3) [Value.int IntKind.i64 0]])[(h3 ++ [Ob.cells true (enc 0 64) [x]] ++ [Ob.cells true (enc 0 27) [.int .i64 e]] ++ [Ob.cells true (enc 0 3) [Value.int IntKind.i64 0]]).length]? = some (.cells true (enc 0 3) [.int .i64 0]) := get_last
  have X4 : Ext h3 (h3 ++ [Ob.cells true (enc 0 64) [x]] ++ [Ob.cells true (enc 0 27) [.int .i64 e]] ++ [Ob.cells true (enc 0 3) [Value.int IntKind.i64 0]] ++ [Ob.cells true (enc 0 3) [Value.int IntKind.i64 0]]) := fun j ob e => get_app (get_app (get_app (get_app e)))
  have l4 : h3.length < (h3 ++ [Ob.cells true (enc 0 64) [Value.slice none 0 0]]).length := by simp
  have l5 : (h3 ++ [Ob.cells true (enc 0 64) [Value.slice none 0 0]]).length < (h3 ++ [Ob.cells true (enc 0 64) [x]] ++ [Ob.cells true (enc 0 27) [.int .i64 e]]).length := by simp
  have l6 : (h3 ++ [Ob.cells true (enc 0 64) [x]] ++ [Ob.cells true (enc 0 27) [.int .i64 e]]).length < (h3 ++ [Ob.cells true (enc 0 64) [x]] ++ [Ob.cells true (enc 0 27) [.int .i64 e]] ++ [Ob.cells true (enc 0 3) [Value.int IntKind.i64 0]]).length := by simp
  generalize (h3 ++ [Ob.cells true (enc 0 64) [x]] ++ [Ob.cells true (enc 0 27) [.int .i64 e]] ++ [Ob.cells true (enc 0 3) [Value.int IntKind.i64 0]]).length = q6 at G6 l6 ⊢
  generalize (h3 ++ [Ob.cells true (enc 0 64) [x]] ++ [Ob.cells true (enc 0 27) [.int .i64 e]]).length = q5 at G5 l5 l6 ⊢
  generalize (h3 ++ [Ob.cells true (enc 0 64) [Value.slice none 0 0]]).length = q4 at G4 l4 l5 ⊢
  obtain ⟨q3, hq3⟩ : ∃ q3, h3.length = q3 := ⟨_, rfl⟩
  rw [hq3] at G3 l4 ⊢
  generalize (h3 ++ [Ob.cells true (enc 0 64) [x]] ++ [Ob.cells true (enc 0 27) [.int .i64 e]] ++ [Ob.cells true (enc 0 3) [Value.int IntKind.i64 0]] ++ [Ob.cells true (enc 0 3) [Value.int IntKind.i64 0]]) = h4 at G3 G4 G5 G6 X4 ⊢
  have l7 := lt_of_some G6
  have c4 : rd h4 q1 0 = some (.slice ad bs.length c) := by rw [rd_cells (X4 _ _ B1)]; rfl
  refine Bnd_i c4 (Bnd_i c4 (Bnd2_i len_22 ?_))
  refine (Each_ok (S.ext X4) hl (by omega) (by omega) (by omega) (by omega) (by omega)).mono ?_
  rintro v h5 ⟨pb, y, rfl, HB, hpb, Fy, X5, Ny⟩
  have l9 := lt_of_some HB
  have eL : EachPost.eachL bs 0 bs.length = (scan bs bs.length bs.length 0).1 := by
    unfold EachPost.eachL
    rw [if_neg (by omega), show ((bs.length : Int) - 0).toNat = bs.length from by omega]
  rw [eL] at Fy
  obtain ⟨⟨ps, z⟩, hsc⟩ : ∃ r, scan bs bs.length bs.length 0 = r := ⟨_, rfl⟩
  rw [hsc] at Fy
  obtain ⟨sc1, sc2, sc3⟩ := scan_at _ _ _ _ hsc
  have sc3 := sc3 (by omega)
  have hE : wholeE bs 0 bs.length = if z < bs.length then (headS bs z bs.length).2 else 0 := by
    unfold wholeE
    rw [if_neg (by omega), show ((bs.length : Int) - 0).toNat = bs.length from by omega, hsc]
  have hL : e = 0 → wholeL bs 0 bs.length = ps.map Prod.snd := by
    intro h0
    unfold wholeL
    rw [he, if_pos h0, show ((bs.length : Int) - 0).toNat = bs.length from by omega, hsc]
  unfold wRange
  refine ⟨by kernel_rfl, ?_⟩
  refine Bnd_i (a := (h5.length, [h5.length], h5 ++ [.dfr])) rfl ?_
  simp only
  have hyl : ∀ j, isBlk y j → j < h5.length := by
    intro j e1
    rcases Fy with ⟨rfl, _, _⟩ | ⟨b2, rfl, _, hb, _⟩
    · exact absurd e1 isBlk_nil
    · rw [isBlk_some.1 e1]; exact lt_of_some hb
  have hps : ps.length ≤ bs.length := by have := scan_len (bs := bs) (e := bs.length) bs.length 0; rw [hsc] at this; exact this
  have l10 : h5.length < (h5 ++ [Ob.dfr]).length := by simp
  have I0 : SI bs h3 q3 q4 q5 q6 (h5 ++ [Ob.dfr]).length h5.length x y e ps (frS q1 q2 q3 q4 q5 q6 (.func (.func 55) #[] #[.pointer (some ⟨pb, 0, none⟩)])) 0 (h5 ++ [Ob.dfr] ++ [.loop (frS q1 q2 q3 q4 q5 q6 (.func (.func 55) #[] #[.pointer (some ⟨pb, 0, none⟩)])) 123 #[26, 27] F11.rAs0 F11.rBd0 .ready none h5.length]) :=
    ⟨fun j ob e1 => get_app (get_app (X5 _ _ (X4 _ _ e1))), get_app (get_app (X5 _ _ G3)), get_app (get_app (X5 _ _ G4)), get_app (get_app (X5 _ _ G5)), get_app (get_app (X5 _ _ G6)), get_last, get_app get_last, Fy.keep fun j ob _ e1 => get_app (get_app e1)⟩
  have HB6 : (h5 ++ [Ob.dfr] ++ [.loop (frS q1 q2 q3 q4 q5 q6 (.func (.func 55) #[] #[.pointer (some ⟨pb, 0, none⟩)])) 123 #[26, 27] F11.rAs0 F11.rBd0 .ready none h5.length])[pb]? = some (.cells true (enc 0 100) [y]) := get_app (get_app HB)
  show Cn Try.prog n0 (Fn.func 55) [.func (.yield (h5 ++ [Ob.dfr]).length) #[] #[], .pointer (some ⟨pb, 0, none⟩)] (h5 ++ [Ob.dfr] ++ [.loop (frS q1 q2 q3 q4 q5 q6 (.func (.func 55) #[] #[.pointer (some ⟨pb, 0, none⟩)])) 123 #[26, 27] F11.rAs0 F11.rBd0 .ready none h5.length]) _
  generalize (h5 ++ [Ob.dfr] ++ [.loop (frS q1 q2 q3 q4 q5 q6 (.func (.func 55) #[] #[.pointer (some ⟨pb, 0, none⟩)])) 123 #[26, 27] F11.rAs0 F11.rBd0 .ready none h5.length]) = h6 at I0 HB6 ⊢
  generalize (h5 ++ [Ob.dfr]).length = l at I0 l10 ⊢
  obtain ⟨d, hd⟩ : ∃ d, h5.length = d := ⟨_, rfl⟩
  rw [hd] at I0 l10 ⊢
  refine Each1_ok (SI bs h3 q3 q4 q5 q6 l d x y e ps (frS q1 q2 q3 q4 q5 q6 (.func (.func 55) #[] #[.pointer (some ⟨pb, 0, none⟩)]))) I0 HB6 (fun i h' I => I.fy) (by omega) ?_ ?_
  · intro i p h' hp I ob
    refine (Sides_round S hl hsc B1 (fun h0 => by rw [hL h0, List.length_map] at Fx; exact Fx) ⟨_, _, hx.symm⟩ (by omega) l4 l5 l6 (by omega) l10 (fun e => by have := Ny _ e; omega) (fun e => by have := Ny _ e; omega) (fun e => by have := hyl _ e; omega) I hp ob).mono ?_
    intro v h'' hv
    exact .inl hv
  · intro hh I
    refine Bnd_i (a := _) (by unfold loopOf; rw [I.lp]) ⟨by simp, ?_⟩
    have f1 := set_ne (x := Ob.dead) (I.ext _ _ B1) (show q1 ≠ l by omega)
    have f2 := set_ne (x := Ob.dead) (I.ext _ _ B2) (show q2 ≠ l by omega)
    have f3 := set_ne (x := Ob.dead) I.b3 (show q3 ≠ l by omega)
    have f4 := set_ne (x := Ob.dead) I.b4 (show q4 ≠ l by omega)
    have f5 := set_ne (x := Ob.dead) I.b5 (show q5 ≠ l by omega)
    have f6 := set_ne (x := Ob.dead) I.b6 (show q6 ≠ l by omega)
    have fd := set_ne (x := Ob.dead) I.df (show d ≠ l by omega)
    have fS : Sl (hh.set l Ob.dead) 1 (.slice ad bs.length c) (bs.map bv) := S.ext fun j ob e1 => set_ne (I.ext _ _ e1) (by have := lt_of_some e1; omega)
    show KBlk [1, 2, 3, 4, 5, 6] 0 (KSeq [1, 2, 3, 4, 5, 6] (F11.p3 n0) (KFin Try.prog [ResultVar.cell 2 4] HP)) .normal [(1, .pointer (some ⟨q1, 0, none⟩)), (2, .pointer (some ⟨q2, 0, none⟩)), (3, .pointer (some ⟨q3, 0, none⟩)), (4, .pointer (some ⟨q4, 0, none⟩)), (5, .pointer (some ⟨q5, 0, none⟩)), (6, .pointer (some ⟨q6, 0, none⟩)), (25, .func (.func 55) #[] #[.pointer (some ⟨pb, 0, none⟩)])] [d] (hh.set l Ob.dead)
    generalize hh.set l Ob.dead = h7 at f1 f2 f3 f4 f5 f6 fd fS ⊢
    rw [← sc2] at f5
    have fin2 : ∀ (h8 : H) (cs : List Value), h8[q2]? = some (.cells true (enc 0 4) cs) → h8[d]? = some .dfr → Bnd (takeD [d] (h8.set q2 (.cells true (enc 0 4) [.bool true]))) fun h => Bnd ((rd h q2 0).bind fun v => some [v]) fun l => HP (tup l) h := by
      intro h8 cs e1 e2
      have e3 := set_ne (x := Ob.cells true (enc 0 4) [.bool true]) e2 (show d ≠ q2 by omega)
      refine Bnd_i (a := (h8.set q2 (.cells true (enc 0 4) [.bool true])).set d .dead) (by unfold takeD; rw [e3]; rfl) ?_
      have e4 := set_ne (x := Ob.dead) (set_same (x := Ob.cells true (enc 0 4) [.bool true]) e1) (show q2 ≠ d by omega)
      simp (disch := first | omega | assumption | exact isC_last | exact isC_app (by first | assumption | exact isC_last | exact isC_app (by first | assumption | exact isC_last)) | (simp [oneC]; done) | fail) only [rd_cells e4, evs0, evs1, evs2, evs3, evs4, evs5, evs6, evs7, evs8, evs9, evs10, evs11, evs12, evs13, if_true, if_false, ↓reduceIte, Nat.reduceEqDiff, Nat.reduceAdd, Nat.reduceMul, Nat.reduceSub, Nat.reduceLeDiff, Int.reduceLT, Int.reduceLE, Int.reduceEq, Bool.false_eq_true, Option.bind_some, Option.map_some, List.set_cons_zero, List.set_cons_succ, List.toList_toArray, List.size_toArray, List.length_cons, List.length_nil, List.getElem?_toArray, List.getElem?_cons_zero, List.getElem?_cons_succ, List.drop_zero, List.take_succ_cons, List.take_zero]
      rw [← hHP]
    simp (disch := first | omega | assumption | exact isC_last | exact isC_app (by first | assumption | exact isC_last | exact isC_app (by first | assumption | exact isC_last)) | (simp [oneC]; done) | fail) only [evs0, evs1, evs2, evs3, evs4, evs5, evs6, evs7, evs8, evs9, evs10, evs11, evs12, evs13, if_true, if_false, ↓reduceIte, Nat.reduceEqDiff, Nat.reduceAdd, Nat.reduceMul, Nat.reduceSub, Nat.reduceLeDiff, Int.reduceLT, Int.reduceLE, Int.reduceEq, Bool.false_eq_true, Option.bind_some, Option.map_some, List.set_cons_zero, List.set_cons_succ, List.toList_toArray, List.size_toArray, List.length_cons, List.length_nil, List.getElem?_toArray, List.getElem?_cons_zero, List.getElem?_cons_succ, List.drop_zero, List.take_succ_cons, List.take_zero]
    rw [F11.e3]
    simp (disch := first | omega | assumption | exact isC_last | exact isC_app (by first | assumption | exact isC_last | exact isC_app (by first | assumption | exact isC_last)) | (simp [oneC]; done) | fail) only [F11.t3, rd_cells f4, evs0, evs1, evs2, evs3, evs4, evs5, evs6, evs7, evs8, evs9, evs10, evs11, evs12, evs13, if_true, if_false, ↓reduceIte, Nat.reduceEqDiff, Nat.reduceAdd, Nat.reduceMul, Nat.reduceSub, Nat.reduceLeDiff, Int.reduceLT, Int.reduceLE, Int.reduceEq, Bool.false_eq_true, Option.bind_some, Option.map_some, List.set_cons_zero, List.set_cons_succ, List.toList_toArray, List.size_toArray, List.length_cons, List.length_nil, List.getElem?_toArray, List.getElem?_cons_zero, List.getElem?_cons_succ, List.drop_zero, List.take_succ_cons, List.take_zero]
    have hz : z ≤ bs.length := by
      rw [sc2]
      unfold atS
      split
      · omega
      · rename_i hne
        obtain ⟨p, hp⟩ : ∃ p, ps[ps.length - 1]? = some p := ⟨_, List.getElem?_eq_getElem (by omega)⟩
        rw [List.getD_eq_getElem?_getD, hp]
        obtain ⟨_, _, k3⟩ := sc1 _ _ hp
        have := headS_ok (bs := bs) (a := p.1) (e := bs.length) (by rw [k3])
        rw [k3] at this
        exact this.2.2.2.2
    by_cases h0 : e = 0
    · rw [if_pos h0, F11.e5]
      simp (disch := first | omega | assumption | exact isC_last | exact isC_app (by first | assumption | exact isC_last | exact isC_app (by first | assumption | exact isC_last)) | (simp [oneC]; done) | fail) only [F11.t5, rd_cells f1, rd_cells f5, rd_cells f6, rd_cells f3, evs0, evs1, evs2, evs3, evs4, evs5, evs6, evs7, evs8, evs9, evs10, evs11, evs12, evs13, if_true, if_false, ↓reduceIte, Nat.reduceEqDiff, Nat.reduceAdd, Nat.reduceMul, Nat.reduceSub, Nat.reduceLeDiff, Int.reduceLT, Int.reduceLE, Int.reduceEq, Bool.false_eq_true, Option.bind_some, Option.map_some, List.set_cons_zero, List.set_cons_succ, List.toList_toArray, List.size_toArray, List.length_cons, List.length_nil, List.getElem?_toArray, List.getElem?_cons_zero, List.getElem?_cons_succ, List.drop_zero, List.take_succ_cons, List.take_zero]
      have hzl : z = bs.length := by
        by_cases hlt : z < bs.length
        · rw [he, if_pos hlt] at hE
          exact absurd ⟨hlt, hE.symm.trans h0⟩ sc3
        · omega
      rw [if_pos hzl, ← hx]
      simp (disch := first | omega | assumption | exact isC_last | exact isC_app (by first | assumption | exact isC_last | exact isC_app (by first | assumption | exact isC_last)) | (simp [oneC]; done) | fail) only [evs0, evs1, evs2, evs3, evs4, evs5, evs6, evs7, evs8, evs9, evs10, evs11, evs12, evs13, if_true, if_false, ↓reduceIte, Nat.reduceEqDiff, Nat.reduceAdd, Nat.reduceMul, Nat.reduceSub, Nat.reduceLeDiff, Int.reduceLT, Int.reduceLE, Int.reduceEq, Bool.false_eq_true, Option.bind_some, Option.map_some, List.set_cons_zero, List.set_cons_succ, List.toList_toArray, List.size_toArray, List.length_cons, List.length_nil, List.getElem?_toArray, List.getElem?_cons_zero, List.getElem?_cons_succ, List.drop_zero, List.take_succ_cons, List.take_zero]
      refine Bnd_i (wr_cells f2 (by simp) rfl) ?_
      rw [over_one (by simp), hL h0, List.length_map, List.set_cons_zero, decide_eq_true rfl]
      exact fin2 _ _ f2 fd
    · rw [if_neg h0, F11.e4]
      unfold F11.t4
      have c7 : aLoad Try.prog 22 (.pointer (some ⟨q1, 0, none⟩)) h7 = some (.slice ad bs.length c) := by rw [ld_22, rd_cells f1]; rfl
      have c8 : aLoad Try.prog 3 (.pointer (some ⟨q5, 0, none⟩)) h7 = some (.int .i64 z) := by rw [ld_3, rd_cells f5]; rfl
      refine Bnd_i c7 (Bnd_i c8 (Bnd_i c7 (Bnd2_i len_22 ?_)))
      have hz0 : 0 ≤ z := by
        rw [sc2]
        unfold atS
        split
        · omega
        · rename_i hne
          obtain ⟨p, hp⟩ : ∃ p, ps[ps.length - 1]? = some p := ⟨_, List.getElem?_eq_getElem (by omega)⟩
          rw [List.getD_eq_getElem?_getD, hp]
          obtain ⟨_, _, k3⟩ := sc1 _ _ hp
          have := headS_ok (bs := bs) (a := p.1) (e := bs.length) (by rw [k3])
          rw [k3] at this
          simp only at this
          show 0 ≤ p.2.to
          omega
      have hzl : z < bs.length := by
        by_cases hlt : z < bs.length
        · exact hlt
        · rw [he, if_neg hlt] at hE
          exact absurd hE h0
      rw [he, if_pos hzl] at hE
      refine (Head_ok fS (by omega) (by omega) (by omega) (by omega) (by omega)).mono ?_
      rintro v h8 ⟨⟨ob, rfl⟩, hv⟩
      rw [← hE] at hv
      subst hv
      refine Bnd_i (a := (headS bs z bs.length).1.v) rfl (Bnd_i (a := .int .i64 e) rfl (NwSt sz_26 (by rw [zc_26]; rfl) rfl fun u9 h9 X9 b9 => ?_))
      replace X9 := (Ext.app h7 [ob]).trans X9
      simp (disch := first | omega | assumption | exact isC_last | exact isC_app (by first | assumption | exact isC_last | exact isC_app (by first | assumption | exact isC_last)) | (simp [oneC]; done) | fail) only [rd_cells (X9 _ _ f1), rd_cells (X9 _ _ f5), rd_cells (X9 _ _ f4), rd_cells (X9 _ _ f3), evs0, evs1, evs2, evs3, evs4, evs5, evs6, evs7, evs8, evs9, evs10, evs11, evs12, evs13, if_true, if_false, ↓reduceIte, Nat.reduceEqDiff, Nat.reduceAdd, Nat.reduceMul, Nat.reduceSub, Nat.reduceLeDiff, Int.reduceLT, Int.reduceLE, Int.reduceEq, Bool.false_eq_true, Option.bind_some, Option.map_some, List.set_cons_zero, List.set_cons_succ, List.toList_toArray, List.size_toArray, List.length_cons, List.length_nil, List.getElem?_toArray, List.getElem?_cons_zero, List.getElem?_cons_succ, List.drop_zero, List.take_succ_cons, List.take_zero]
      rw [if_pos hzl]
      have hL0 : wholeL bs 0 bs.length = [] := by unfold wholeL; rw [he, if_neg h0]
      try simp (disch := first | omega | assumption | exact isC_last | exact isC_app (by first | assumption | exact isC_last | exact isC_app (by first | assumption | exact isC_last)) | (simp [oneC]; done) | fail) only [evs0, evs1, evs2, evs3, evs4, evs5, evs6, evs7, evs8, evs9, evs10, evs11, evs12, evs13, if_true, if_false, ↓reduceIte, Nat.reduceEqDiff, Nat.reduceAdd, Nat.reduceMul, Nat.reduceSub, Nat.reduceLeDiff, Int.reduceLT, Int.reduceLE, Int.reduceEq, Bool.false_eq_true, Option.bind_some, Option.map_some, List.set_cons_zero, List.set_cons_succ, List.toList_toArray, List.size_toArray, List.length_cons, List.length_nil, List.getElem?_toArray, List.getElem?_cons_zero, List.getElem?_cons_succ, List.drop_zero, List.take_succ_cons, List.take_zero]
      rw [← hx, hL0]
      simp (disch := first | omega | assumption | exact isC_last | exact isC_app (by first | assumption | exact isC_last | exact isC_app (by first | assumption | exact isC_last)) | (simp [oneC]; done) | fail) only [evs0, evs1, evs2, evs3, evs4, evs5, evs6, evs7, evs8, evs9, evs10, evs11, evs12, evs13, if_true, if_false, ↓reduceIte, Nat.reduceEqDiff, Nat.reduceAdd, Nat.reduceMul, Nat.reduceSub, Nat.reduceLeDiff, Int.reduceLT, Int.reduceLE, Int.reduceEq, Bool.false_eq_true, Option.bind_some, Option.map_some, List.set_cons_zero, List.set_cons_succ, List.toList_toArray, List.size_toArray, List.length_cons, List.length_nil, List.getElem?_toArray, List.getElem?_cons_zero, List.getElem?_cons_succ, List.drop_zero, List.take_succ_cons, List.take_zero]
      refine Bnd_i (wr_cells (X9 _ _ f2) (by simp) rfl) ?_
      rw [over_one (by simp), List.set_cons_zero, decide_eq_true (show (((0 : Nat) : Int) = 0) from rfl)]
      exact fin2 _ _ (X9 _ _ f2) (X9 _ _ fd)
theorem c5' : Try.prog.cellsOf 5 = 1 := by kernel_rfl
theorem BerSides_law {H' : Type} {n0 : Nat} {h : H} {vs : List Value} {ds : List (DataW H')} (R : RdAll Try.prog h [22] vs ds) (hk : Rows.uptoSmall H' ds = true) : Cn Try.prog n0 (.func 11) vs h (fun v _ => v = .bool true) := by
  obtain ⟨v, vs, d, ds, rfl, rfl, r, R⟩ := R.cons
  obtain ⟨rfl, rfl⟩ := R.none
  obtain ⟨bs, S, _, hs⟩ := r.bytes Try.underlying22 Try.underlying5 c5'
  refine BerSides_ok S ?_
  rcases hs with rfl | ⟨l, sp, rfl, hl⟩
  · simp
  · have := bulks.slice_bound hk (List.mem_cons_self ..)
    omega
end Go.Proofs.Ytknpmldldlbniaa
