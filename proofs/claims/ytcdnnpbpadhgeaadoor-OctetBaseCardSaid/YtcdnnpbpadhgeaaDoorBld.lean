/- strings.Builder: what its methods do. No condition. -/
import Derived.Test.YtcdnnpbpadhgeaaDoorOwn
import Derived.Test.YtcdnnpbpadhgeaaDoorStr
import Derived.Test.YtcdnnpbpadhgeaaDoorFb
import Derived.Test.YtcdnnpbpadhgeaaDoorEvs
import Derived.Test.YtcdnnpbpadhgeaaDoorEvWhole
set_option linter.unusedVariables false
set_option linter.unusedSimpArgs false
namespace Go.Ev
theorem Cn_ext {P : Program} {n0 : Nat} {h h' : H} (hm : P.follows .mixedOrders = true) (hname : ∀ (f : FuncId) (fn : Func), P.funcs[f]? = some fn → fn.body.isSome = true → (fn.name == "runtime.NumGoroutine") = false) {f : FuncId} {fn : Func} {args : List Value} {v : Value} {Q : Value → H → Prop}
    (hf : P.funcs[f]? = some fn) (hb : fn.body = none) (e : evExt P fn args h = some (v, h')) (q : Q v h') : Cn P n0 (.func f) args h Q := by
  refine Cn.of_ev (ev_callOk (n0 := n0) hm hname 1) ?_ q
  simp only [ev, hf, hb, e]
end Go.Ev
namespace Go.Proofs.YtcdnnpbpadhgeaaDoor
open Go.Ev Oct
variable {n0 : Nat} {h : H}
/-- a builder of these bytes; its own block of bytes lies behind M -/
structure Bd (M : Nat) (h : H) (wb : Nat) (l : List UInt8) : Prop where
  ex : ∃ a d, h[wb]? = some (.cells true (enc 0 35) [.pointer a, d]) ∧ (a = none ∨ a = some ⟨wb, 0, none⟩) ∧ Fu h 1 5 d l.length (l.map bv) ∧ ∀ j, isBlk d j → M ≤ j
  lt : wb < M
  le : M ≤ h.length
/-- what stands below M, but for one place, stays -/
def Sv (M wb : Nat) (h h' : H) : Prop := h.length ≤ h'.length ∧ ∀ j ob, j < M → j ≠ wb → h[j]? = some ob → h'[j]? = some ob
theorem Sv.refl {M wb : Nat} : Sv M wb h h := ⟨Nat.le_refl _, fun _ _ _ _ e => e⟩
theorem Sv.trans {M wb : Nat} {h1 h2 : H} (a : Sv M wb h h1) (b : Sv M wb h1 h2) : Sv M wb h h2 := ⟨Nat.le_trans a.1 b.1, fun j ob x y e => b.2 j ob x y (a.2 j ob x y e)⟩
theorem Sv.of_ext {M wb : Nat} {h1 : H} (a : Ext h h1) : Sv M wb h h1 := ⟨a.len, fun j ob _ _ e => a j ob e⟩
theorem Bd.ext {M wb : Nat} {l : List UInt8} {h1 : H} (B : Bd M h wb l) (x : Ext h h1) : Bd M h1 wb l := by
  obtain ⟨⟨a, d, e1, e2, F, e3⟩, e4, e5⟩ := B
  exact ⟨⟨a, d, x _ _ e1, e2, F.keep fun j ob _ e => x _ _ e, e3⟩, e4, Nat.le_trans e5 x.len⟩
theorem Bd.set {M wb : Nat} {l : List UInt8} (B : Bd M h wb l) {r : Nat} (hr : r < M) (hne : r ≠ wb) (ob : Ob) : Bd M (h.set r ob) wb l := by
  obtain ⟨⟨a, d, e1, e2, F, e3⟩, e4, e5⟩ := B
  refine ⟨⟨a, d, set_ne e1 (fun e => hne e.symm), e2, F.keep fun j ob' hj e => set_ne e ?_, e3⟩, e4, by simpa using e5⟩
  intro e; subst e
  have := e3 _ hj
  omega
theorem noEscape_ok {x : Value} : Cn Tryd.prog n0 (.func 51) [x] h (fun v h' => v = x ∧ h' = h) :=
  Cn_ext mixed names Tryd.func51 (by kernel_rfl) (h' := h) (v := x) (by
    unfold evExt
    rw [if_pos (show Tryd.f51.origin = "" by kernel_rfl), if_pos (show Tryd.f51.name = "internal/abi.NoEscape" by kernel_rfl)]) ⟨rfl, rfl⟩
theorem un33 : Tryd.prog.underlying 33 = some (.pointer 35) := by kernel_rfl
theorem un60 : Tryd.prog.underlying 60 = some .unsafePointer := by kernel_rfl
theorem sz35 : szOf Tryd.prog 35 = some 2 := by kernel_rfl
theorem lies35 : liesAt Tryd.prog Tryd.prog.depth (enc 0 35 / 1024 - 1) (2 / Tryd.prog.cellsOf (enc 0 35 / 1024 - 1)) 0 35 1 = true := by kernel_rfl
theorem cv1 {wb : Nat} {a d : Value} (e : h[wb]? = some (.cells true (enc 0 35) [a, d])) : cvt Tryd.prog 33 60 (.pointer (some ⟨wb, 0, none⟩)) h = some (.pointer (some ⟨wb, 0, none⟩), h) := by
  simp only [cvt, aConvPtr, un33, un60, e]
  rw [if_pos ⟨by unfold enc; omega, by simp, by rw [sz35]; rfl, by rw [sz35]; simp⟩]
theorem cv2 {wb : Nat} {a d : Value} (e : h[wb]? = some (.cells true (enc 0 35) [a, d])) : cvt Tryd.prog 60 33 (.pointer (some ⟨wb, 0, none⟩)) h = some (.pointer (some ⟨wb, 0, none⟩), h) := by
  simp only [cvt, aConvPtr, un33, un60, e]
  rw [if_pos ⟨by unfold enc; omega, eS_enc' (by omega), by rw [sz35]; rfl, lies35⟩]
theorem neq_self {c : Bool} {a : Addr} : aBin Tryd.prog c .neq 33 (.pointer (some a)) (.pointer (some a)) = some (.bool false) := by
  simp only [aBin, aEqOp, aEq, un33, sz35]
  simp
set_option maxRecDepth 20000 in
theorem copyCheck_ok {wb : Nat} {a : Option Addr} {d : Value} (e : h[wb]? = some (.cells true (enc 0 35) [.pointer a, d])) (ha : a = none ∨ a = some ⟨wb, 0, none⟩) :
    Cn Tryd.prog n0 (.func 44) [.pointer (some ⟨wb, 0, none⟩)] h (fun v h' => h' = h.set wb (.cells true (enc 0 35) [.pointer (some ⟨wb, 0, none⟩), d])) := by
  refine F44.enter ?_
  obtain ⟨HP, hHP⟩ : ∃ HP : Value → H → Prop, (fun v h' => h' = h.set wb (.cells true (enc 0 35) [.pointer (some ⟨wb, 0, none⟩), d])) = HP := ⟨_, rfl⟩
  rw [hHP, F44.e0]
  simp (disch := first | omega | assumption | exact isC_last | exact isC_app (by first | assumption | exact isC_last | exact isC_app (by first | assumption | exact isC_last)) | (simp [oneC]; done) | fail) only [F44.t0, rd_cells e, evs0, evs1, evs2, evs3, evs4, evs5, evs6, if_true, if_false, ↓reduceIte, Nat.reduceEqDiff, Nat.reduceAdd, Nat.reduceMul, Nat.reduceSub, Nat.reduceLeDiff, Int.reduceLT, Int.reduceLE, Int.reduceEq, Bool.false_eq_true, Option.bind_some, Option.map_some, List.set_cons_zero, List.set_cons_succ, List.toList_toArray, List.size_toArray, List.length_cons, List.length_nil, List.getElem?_toArray, List.getElem?_cons_zero, List.getElem?_cons_succ, List.drop_zero, List.take_succ_cons, List.take_zero, Oct.bl]
  rcases ha with rfl | rfl
  · simp (disch := first | omega | assumption | exact isC_last | exact isC_app (by first | assumption | exact isC_last | exact isC_app (by first | assumption | exact isC_last)) | (simp [oneC]; done) | fail) only [evs0, evs1, evs2, evs3, evs4, evs5, evs6, if_true, if_false, ↓reduceIte, Nat.reduceEqDiff, Nat.reduceAdd, Nat.reduceMul, Nat.reduceSub, Nat.reduceLeDiff, Int.reduceLT, Int.reduceLE, Int.reduceEq, Bool.false_eq_true, Option.bind_some, Option.map_some, List.set_cons_zero, List.set_cons_succ, List.toList_toArray, List.size_toArray, List.length_cons, List.length_nil, List.getElem?_toArray, List.getElem?_cons_zero, List.getElem?_cons_succ, List.drop_zero, List.take_succ_cons, List.take_zero, Oct.bl]
    rw [F44.e1]
    simp (disch := first | omega | assumption | exact isC_last | exact isC_app (by first | assumption | exact isC_last | exact isC_app (by first | assumption | exact isC_last)) | (simp [oneC]; done) | fail) only [F44.t1, cv1 e, evs0, evs1, evs2, evs3, evs4, evs5, evs6, if_true, if_false, ↓reduceIte, Nat.reduceEqDiff, Nat.reduceAdd, Nat.reduceMul, Nat.reduceSub, Nat.reduceLeDiff, Int.reduceLT, Int.reduceLE, Int.reduceEq, Bool.false_eq_true, Option.bind_some, Option.map_some, List.set_cons_zero, List.set_cons_succ, List.toList_toArray, List.size_toArray, List.length_cons, List.length_nil, List.getElem?_toArray, List.getElem?_cons_zero, List.getElem?_cons_succ, List.drop_zero, List.take_succ_cons, List.take_zero, Oct.bl]
    refine noEscape_ok.mono ?_
    rintro _ hx ⟨rfl, ex⟩; subst hx
    simp (disch := first | omega | assumption | exact isC_last | exact isC_app (by first | assumption | exact isC_last | exact isC_app (by first | assumption | exact isC_last)) | (simp [oneC]; done) | fail) only [cv2 e, evs0, evs1, evs2, evs3, evs4, evs5, evs6, if_true, if_false, ↓reduceIte, Nat.reduceEqDiff, Nat.reduceAdd, Nat.reduceMul, Nat.reduceSub, Nat.reduceLeDiff, Int.reduceLT, Int.reduceLE, Int.reduceEq, Bool.false_eq_true, Option.bind_some, Option.map_some, List.set_cons_zero, List.set_cons_succ, List.toList_toArray, List.size_toArray, List.length_cons, List.length_nil, List.getElem?_toArray, List.getElem?_cons_zero, List.getElem?_cons_succ, List.drop_zero, List.take_succ_cons, List.take_zero, Oct.bl]
    refine Bnd_i (wr_cells e (by simp) rfl) ?_
    simp (disch := first | omega | assumption | exact isC_last | exact isC_app (by first | assumption | exact isC_last | exact isC_app (by first | assumption | exact isC_last)) | (simp [oneC]; done) | fail) only [evs0, evs1, evs2, evs3, evs4, evs5, evs6, if_true, if_false, ↓reduceIte, Nat.reduceEqDiff, Nat.reduceAdd, Nat.reduceMul, Nat.reduceSub, Nat.reduceLeDiff, Int.reduceLT, Int.reduceLE, Int.reduceEq, Bool.false_eq_true, Option.bind_some, Option.map_some, List.set_cons_zero, List.set_cons_succ, List.toList_toArray, List.size_toArray, List.length_cons, List.length_nil, List.getElem?_toArray, List.getElem?_cons_zero, List.getElem?_cons_succ, List.drop_zero, List.take_succ_cons, List.take_zero, Oct.bl]
    rw [← hHP]
  · simp (disch := first | omega | assumption | exact isC_last | exact isC_app (by first | assumption | exact isC_last | exact isC_app (by first | assumption | exact isC_last)) | (simp [oneC]; done) | fail) only [evs0, evs1, evs2, evs3, evs4, evs5, evs6, if_true, if_false, ↓reduceIte, Nat.reduceEqDiff, Nat.reduceAdd, Nat.reduceMul, Nat.reduceSub, Nat.reduceLeDiff, Int.reduceLT, Int.reduceLE, Int.reduceEq, Bool.false_eq_true, Option.bind_some, Option.map_some, List.set_cons_zero, List.set_cons_succ, List.toList_toArray, List.size_toArray, List.length_cons, List.length_nil, List.getElem?_toArray, List.getElem?_cons_zero, List.getElem?_cons_succ, List.drop_zero, List.take_succ_cons, List.take_zero, Oct.bl]
    rw [F44.e2]
    simp (disch := first | omega | assumption | exact isC_last | exact isC_app (by first | assumption | exact isC_last | exact isC_app (by first | assumption | exact isC_last)) | (simp [oneC]; done) | fail) only [F44.t2, rd_cells e, neq_self, evs0, evs1, evs2, evs3, evs4, evs5, evs6, if_true, if_false, ↓reduceIte, Nat.reduceEqDiff, Nat.reduceAdd, Nat.reduceMul, Nat.reduceSub, Nat.reduceLeDiff, Int.reduceLT, Int.reduceLE, Int.reduceEq, Bool.false_eq_true, Option.bind_some, Option.map_some, List.set_cons_zero, List.set_cons_succ, List.toList_toArray, List.size_toArray, List.length_cons, List.length_nil, List.getElem?_toArray, List.getElem?_cons_zero, List.getElem?_cons_succ, List.drop_zero, List.take_succ_cons, List.take_zero, Oct.bl]
    rw [← hHP]
    exact (set_id e).symm
set_option maxRecDepth 20000 in
theorem WriteByte_ok {M wb : Nat} {l : List UInt8} {c : UInt8} (B : Bd M h wb l) (hl : l.length + 1100 ≤ 3 * 2 ^ 46) :
    Cn Tryd.prog n0 (.func 31) [.pointer (some ⟨wb, 0, none⟩), .int .u8 c.toNat] h (fun v h' => v = .nilIface ∧ Bd M h' wb (l ++ [c]) ∧ Sv M wb h h') := by
  obtain ⟨⟨a, d, e1, e2, F, e3⟩, e4, e5⟩ := B
  refine F31.enter ?_
  obtain ⟨HP, hHP⟩ : ∃ HP : Value → H → Prop, (fun v h' => v = .nilIface ∧ Bd M h' wb (l ++ [c]) ∧ Sv M wb h h') = HP := ⟨_, rfl⟩
  rw [hHP, F31.e0]
  unfold F31.t0
  refine (copyCheck_ok e1 e2).mono ?_
  rintro _ h1 rfl
  have Nd : ¬ isBlk d wb := fun e => by have := e3 _ e; omega
  have hw := lt_of_some e1
  have e1' : (h.set wb (.cells true (enc 0 35) [.pointer (some ⟨wb, 0, none⟩), d]))[wb]? = some (.cells true (enc 0 35) [.pointer (some ⟨wb, 0, none⟩), d]) := set_same e1
  have F1 : Fu (h.set wb (.cells true (enc 0 35) [.pointer (some ⟨wb, 0, none⟩), d])) 1 5 d l.length (l.map bv) := F.keep fun j ob hj e => set_ne e (fun x => Nd (x ▸ hj))
  have len1 : (h.set wb (.cells true (enc 0 35) [.pointer (some ⟨wb, 0, none⟩), d])).length = h.length := by simp
  have keep1 : ∀ j ob, j ≠ wb → h[j]? = some ob → (h.set wb (.cells true (enc 0 35) [.pointer (some ⟨wb, 0, none⟩), d]))[j]? = some ob := fun j ob hj e => set_ne e hj
  generalize h.set wb (.cells true (enc 0 35) [.pointer (some ⟨wb, 0, none⟩), d]) = g at *
  simp (disch := first | omega | assumption | exact isC_last | exact isC_app (by first | assumption | exact isC_last | exact isC_app (by first | assumption | exact isC_last)) | (simp [oneC]; done) | fail) only [rd_cells e1', evs0, evs1, evs2, evs3, evs4, evs5, evs6, if_true, if_false, ↓reduceIte, Nat.reduceEqDiff, Nat.reduceAdd, Nat.reduceMul, Nat.reduceSub, Nat.reduceLeDiff, Int.reduceLT, Int.reduceLE, Int.reduceEq, Bool.false_eq_true, Option.bind_some, Option.map_some, List.set_cons_zero, List.set_cons_succ, List.toList_toArray, List.size_toArray, List.length_cons, List.length_nil, List.getElem?_toArray, List.getElem?_cons_zero, List.getElem?_cons_succ, List.drop_zero, List.take_succ_cons, List.take_zero, Oct.bl]
  have S1 : Sl (g ++ [.cells true (enc 1 5) [.int .u8 c.toNat]]) 1 (.slice (some ⟨g.length, 0, none⟩) 1 1) [.int .u8 c.toNat] := Sl.mk (o := 0) get_last (eS_enc' (by omega)) rfl rfl (Nat.le_refl _)
  have F2 : Fu (g ++ [.cells true (enc 1 5) [.int .u8 c.toNat]]) 1 5 d l.length (l.map bv) := F1.keep fun j ob _ e => get_app e
  obtain ⟨d', h', q1, F3, But1, N2⟩ := F2.append el_31 sz_5 ze_5 by_5 rfl (by omega) (by omega) (src1 S1) (by simp) rfl (by simp; omega) (by simp; omega)
  refine Bnd2_i q1 ?_
  have e6 := But1.2 wb _ Nd (get_app e1')
  obtain ⟨ad, rfl⟩ := F3.form
  simp (disch := first | omega | assumption | exact isC_last | exact isC_app (by first | assumption | exact isC_last | exact isC_app (by first | assumption | exact isC_last)) | (simp [oneC]; done) | fail) only [evs0, evs1, evs2, evs3, evs4, evs5, evs6, if_true, if_false, ↓reduceIte, Nat.reduceEqDiff, Nat.reduceAdd, Nat.reduceMul, Nat.reduceSub, Nat.reduceLeDiff, Int.reduceLT, Int.reduceLE, Int.reduceEq, Bool.false_eq_true, Option.bind_some, Option.map_some, List.set_cons_zero, List.set_cons_succ, List.toList_toArray, List.size_toArray, List.length_cons, List.length_nil, List.getElem?_toArray, List.getElem?_cons_zero, List.getElem?_cons_succ, List.drop_zero, List.take_succ_cons, List.take_zero, Oct.bl]
  refine Bnd_i (wr_cells e6 (by simp) rfl) ?_
  have hlen : h.length ≤ h'.length := by have := But1.1; simp at this; omega
  have Nd' : ∀ j, isBlk (.slice ad (l.length + [Value.int .u8 c.toNat].length) (l.length + [Value.int .u8 c.toNat].length)) j → M ≤ j := by
    intro j hj
    rcases N2 j hj with hj | rfl
    · exact e3 j hj
    · simp; omega
  simp (disch := first | omega | assumption | exact isC_last | exact isC_app (by first | assumption | exact isC_last | exact isC_app (by first | assumption | exact isC_last)) | (simp [oneC]; done) | fail) only [evs0, evs1, evs2, evs3, evs4, evs5, evs6, if_true, if_false, ↓reduceIte, Nat.reduceEqDiff, Nat.reduceAdd, Nat.reduceMul, Nat.reduceSub, Nat.reduceLeDiff, Int.reduceLT, Int.reduceLE, Int.reduceEq, Bool.false_eq_true, Option.bind_some, Option.map_some, List.set_cons_zero, List.set_cons_succ, List.toList_toArray, List.size_toArray, List.length_cons, List.length_nil, List.getElem?_toArray, List.getElem?_cons_zero, List.getElem?_cons_succ, List.drop_zero, List.take_succ_cons, List.take_zero, Oct.bl]
  rw [← hHP]
  refine ⟨by trivial, ⟨⟨some ⟨wb, 0, none⟩, .slice ad (l.length + 1) (l.length + 1), ?_, .inr rfl, ?_, ?_⟩, e4, ?_⟩, ?_, ?_⟩
  · rw [set_same e6]
  · rw [List.length_append, List.map_append]
    exact F3.keep fun j ob hj e => set_ne e (fun x => by have := Nd' j hj; omega)
  · exact Nd'
  · simp; omega
  · simp; omega
  · intro j ob hj hne e
    refine set_ne (But1.2 _ _ (fun hx => ?_) (get_app (keep1 _ _ hne e))) hne
    have := e3 j hx
    omega
theorem Bd.new {T : Nat} : Bd (h.length + 1) (h ++ [.cells true (enc 0 35) [.pointer none, .slice none 0 0]]) h.length [] :=
  ⟨⟨none, .slice none 0 0, get_last, .inl rfl, Fu.nil, fun j e => absurd e isBlk_nil⟩, by omega, by simp⟩
theorem strCells (l : List UInt8) : strOfCells (l.map bv) = some l := by
  induction l with
  | nil => rfl
  | cons x r ih => simp only [List.map_cons, bv, strOfCells, ih, Option.map_some]; simp
theorem un31 : Tryd.prog.underlying 31 = some (.slice 5) := by kernel_rfl
theorem un55 : Tryd.prog.underlying 55 = some (.pointer 5) := by kernel_rfl
theorem un5' : Tryd.prog.underlying 5 = some (.int .u8) := by kernel_rfl
theorem co5 : Tryd.prog.cellsOf 5 = 1 := by kernel_rfl
theorem bv_byte (l : List UInt8) : (l.map bv).all isByte = true := by
  rw [List.all_eq_true]
  intro v hv
  obtain ⟨x, _, rfl⟩ := List.mem_map.1 hv
  have := u8_lt x
  simp only [bv, isByte, Bool.and_eq_true, decide_eq_true_eq]
  omega
/-- a builder that may have been told already -/
def Bs (M : Nat) (h : H) (wb : Nat) (l : List UInt8) : Prop :=
  M ≤ h.length ∧ wb < M ∧ ∃ a d, h[wb]? = some (.cells true (enc 0 35) [.pointer a, d]) ∧ ((d = .slice none 0 0 ∧ l = []) ∨ ∃ b own, d = .slice (some ⟨b, 0, none⟩) l.length l.length ∧ 0 < l.length ∧ h[b]? = some (.cells own (enc 1 5) (l.map bv)) ∧ M ≤ b)
theorem Bd.bs {M wb : Nat} {l : List UInt8} (B : Bd M h wb l) : Bs M h wb l := by
  obtain ⟨⟨a, d, e1, e2, F, e3⟩, e4, e5⟩ := B
  refine ⟨e5, e4, a, d, e1, ?_⟩
  rcases F with ⟨rfl, q1, q2⟩ | ⟨b, rfl, q1, q2, q3⟩
  · exact .inl ⟨rfl, List.eq_nil_of_length_eq_zero q1⟩
  · exact .inr ⟨b, true, rfl, q1, q2, e3 b (isBlk_some.2 rfl)⟩
theorem Bs.ext {M wb : Nat} {l : List UInt8} {h1 : H} (B : Bs M h wb l) (x : Ext h h1) : Bs M h1 wb l := by
  obtain ⟨e5, e4, a, d, e1, F⟩ := B
  refine ⟨Nat.le_trans e5 x.len, e4, a, d, x _ _ e1, F.imp id ?_⟩
  rintro ⟨b, own, q1, q2, q3, q4⟩
  exact ⟨b, own, q1, q2, x _ _ q3, q4⟩
set_option maxRecDepth 20000 in
theorem StringS_ok {M wb : Nat} {l : List UInt8} (B : Bs M h wb l) (hl : l.length < 2 ^ 63) :
    Cn Tryd.prog n0 (.func 32) [.pointer (some ⟨wb, 0, none⟩)] h (fun v h' => v = .string (bs l) ∧ Bs M h' wb l ∧ Sv M wb h h') := by
  have B' := B
  obtain ⟨e5, e4, a, d, e1, F⟩ := B
  refine F32.enter ?_
  obtain ⟨HP, hHP⟩ : ∃ HP : Value → H → Prop, (fun v h' => v = .string (bs l) ∧ Bs M h' wb l ∧ Sv M wb h h') = HP := ⟨_, rfl⟩
  rw [hHP, F32.e0]
  simp (disch := first | omega | assumption | exact isC_last | exact isC_app (by first | assumption | exact isC_last | exact isC_app (by first | assumption | exact isC_last)) | (simp [oneC]; done) | fail) only [F32.t0, rd_cells e1, evs0, evs1, evs2, evs3, evs4, evs5, evs6, if_true, if_false, ↓reduceIte, Nat.reduceEqDiff, Nat.reduceAdd, Nat.reduceMul, Nat.reduceSub, Nat.reduceLeDiff, Int.reduceLT, Int.reduceLE, Int.reduceEq, Bool.false_eq_true, Option.bind_some, Option.map_some, List.set_cons_zero, List.set_cons_succ, List.toList_toArray, List.size_toArray, List.length_cons, List.length_nil, List.getElem?_toArray, List.getElem?_cons_zero, List.getElem?_cons_succ, List.drop_zero, List.take_succ_cons, List.take_zero, Oct.bl]
  rcases F with ⟨rfl, q2⟩ | ⟨b, own, rfl, q1, q2, q3⟩
  · subst q2
    refine Bnd2_i (a := .pointer none) (b := h) rfl ?_
    simp (disch := first | omega | assumption | exact isC_last | exact isC_app (by first | assumption | exact isC_last | exact isC_app (by first | assumption | exact isC_last)) | (simp [oneC]; done) | fail) only [rd_cells e1, evs0, evs1, evs2, evs3, evs4, evs5, evs6, if_true, if_false, ↓reduceIte, Nat.reduceEqDiff, Nat.reduceAdd, Nat.reduceMul, Nat.reduceSub, Nat.reduceLeDiff, Int.reduceLT, Int.reduceLE, Int.reduceEq, Bool.false_eq_true, Option.bind_some, Option.map_some, List.set_cons_zero, List.set_cons_succ, List.toList_toArray, List.size_toArray, List.length_cons, List.length_nil, List.getElem?_toArray, List.getElem?_cons_zero, List.getElem?_cons_succ, List.drop_zero, List.take_succ_cons, List.take_zero, Oct.bl]
    refine Bnd2_i (a := Value.string .empty) (b := h) (by kernel_rfl) ?_
    rw [← hHP]
    exact ⟨rfl, B', Sv.refl⟩
  · refine Bnd2_i (a := .pointer (some ⟨b, 0, none⟩)) (b := h) ?_ ?_
    · simp only [aBuiltin]
      rw [if_neg (fun h => by rcases h with h | h; omega; cases h)]
    simp (disch := first | omega | assumption | exact isC_last | exact isC_app (by first | assumption | exact isC_last | exact isC_app (by first | assumption | exact isC_last)) | (simp [oneC]; done) | fail) only [rd_cells e1, evs0, evs1, evs2, evs3, evs4, evs5, evs6, if_true, if_false, ↓reduceIte, Nat.reduceEqDiff, Nat.reduceAdd, Nat.reduceMul, Nat.reduceSub, Nat.reduceLeDiff, Int.reduceLT, Int.reduceLE, Int.reduceEq, Bool.false_eq_true, Option.bind_some, Option.map_some, List.set_cons_zero, List.set_cons_succ, List.toList_toArray, List.size_toArray, List.length_cons, List.length_nil, List.getElem?_toArray, List.getElem?_cons_zero, List.getElem?_cons_succ, List.drop_zero, List.take_succ_cons, List.take_zero, Oct.bl]
    refine Bnd2_i (a := Value.string (bs l)) (b := h.set b (.cells false (enc 1 5) (l.map bv))) ?_ ?_
    · simp only [aBuiltin, List.getElem?_toArray, List.getElem?_cons_zero, un55, q2]
      rw [if_neg (fun h => by have := h.1; omega)]
      have tk : (l.map bv).take ((l.length : Int).toNat) = l.map bv := List.take_of_length_le (by simp)
      rw [tk, if_pos ⟨by trivial, co5, by omega, by omega, by trivial, by simp, bv_byte l⟩, strCells]
      rfl
    rw [← hHP]
    refine ⟨rfl, ⟨by simp; omega, e4, a, _, set_ne e1 (by omega), .inr ⟨b, false, rfl, q1, set_same q2, q3⟩⟩, by simp, fun j ob hj hne e => set_ne e ?_⟩
    intro e; omega
theorem String_ok {M wb : Nat} {l : List UInt8} (B : Bd M h wb l) (hl : l.length < 2 ^ 63) :
    Cn Tryd.prog n0 (.func 32) [.pointer (some ⟨wb, 0, none⟩)] h (fun v h' => v = .string (bs l) ∧ Sv M wb h h') := (StringS_ok B.bs hl).mono fun _ _ x => ⟨x.1, x.2.2⟩
end Go.Proofs.YtcdnnpbpadhgeaaDoor
