/- Two rising lists as one: plain, and both. No condition. -/
import Derived.Test.YtjdcdabbbmhffaaHas
set_option linter.unusedVariables false
set_option linter.unusedSimpArgs false
namespace Idl
open Go Go.Ev
def uni : List Int → List Int → List Int
  | [], b => b
  | a, [] => a
  | x :: a, y :: b => if x < y then x :: uni a (y :: b) else if y < x then y :: uni (x :: a) b else x :: uni a b
termination_by a b => a.length + b.length
theorem uni_nil_l {b : List Int} : uni [] b = b := by unfold uni; rfl
theorem uni_nil_r {a : List Int} : uni a [] = a := by unfold uni; cases a <;> rfl
theorem uni_lt {x y : Int} {a b : List Int} (h : x < y) : uni (x :: a) (y :: b) = x :: uni a (y :: b) := by
  conv => lhs; unfold uni
  rw [if_pos h]
theorem uni_gt {x y : Int} {a b : List Int} (h : y < x) : uni (x :: a) (y :: b) = y :: uni (x :: a) b := by
  conv => lhs; unfold uni
  rw [if_neg (by omega), if_pos h]
theorem uni_eq {x : Int} {a b : List Int} : uni (x :: a) (x :: b) = x :: uni a b := by
  conv => lhs; unfold uni
  rw [if_neg (by omega), if_neg (by omega)]
theorem uni_len : ∀ (n : Nat) (a b : List Int), a.length + b.length ≤ n → (uni a b).length ≤ a.length + b.length ∧ (∀ x, x ∈ uni a b ↔ (x ∈ a ∨ x ∈ b)) ∧ (Up a → Up b → Up (uni a b)) := by
  intro n
  induction n with
  | zero =>
    intro a b hn
    obtain rfl := List.eq_nil_of_length_eq_zero (l := a) (by omega)
    rw [uni_nil_l]
    exact ⟨by simp, by simp, fun _ hb => hb⟩
  | succ n ih =>
    intro a b hn
    cases a with
    | nil => rw [uni_nil_l]; exact ⟨by simp, by simp, fun _ hb => hb⟩
    | cons x a =>
      cases b with
      | nil => rw [uni_nil_r]; exact ⟨by simp, by simp, fun ha _ => ha⟩
      | cons y b =>
        simp only [List.length_cons] at hn ⊢
        rcases Int.lt_trichotomy x y with h | h | h
        · rw [uni_lt h]
          obtain ⟨i1, i2, i3⟩ := ih a (y :: b) (by simp only [List.length_cons]; omega)
          simp only [List.length_cons] at i1 ⊢
          refine ⟨by omega, fun z => by simp only [List.mem_cons, i2]; exact or_assoc.symm, fun ha hb => ?_⟩
          rw [Up, List.pairwise_cons] at ha ⊢
          refine ⟨fun z hz => ?_, i3 ha.2 hb⟩
          rcases (i2 z).1 hz with hz | hz
          · exact ha.1 z hz
          · rw [Up, List.pairwise_cons] at hb
            rcases List.mem_cons.1 hz with rfl | hz
            · exact h
            · have := hb.1 z hz; omega
        · subst h
          rw [uni_eq]
          obtain ⟨i1, i2, i3⟩ := ih a b (by omega)
          simp only [List.length_cons]
          refine ⟨by omega, fun z => by
            simp only [List.mem_cons, i2]
            constructor
            · rintro (e | e | e)
              · exact .inl (.inl e)
              · exact .inl (.inr e)
              · exact .inr (.inr e)
            · rintro ((e | e) | (e | e))
              · exact .inl e
              · exact .inr (.inl e)
              · exact .inl e
              · exact .inr (.inr e), fun ha hb => ?_⟩
          rw [Up, List.pairwise_cons] at ha hb ⊢
          refine ⟨fun z hz => ?_, i3 ha.2 hb.2⟩
          rcases (i2 z).1 hz with hz | hz
          · exact ha.1 z hz
          · exact hb.1 z hz
        · rw [uni_gt h]
          obtain ⟨i1, i2, i3⟩ := ih (x :: a) b (by simp only [List.length_cons]; omega)
          simp only [List.length_cons] at i1 ⊢
          refine ⟨by omega, fun z => by simp only [List.mem_cons, i2]; exact or_left_comm, fun ha hb => ?_⟩
          rw [Up, List.pairwise_cons] at hb ⊢
          refine ⟨fun z hz => ?_, i3 ha hb.2⟩
          rcases (i2 z).1 hz with hz | hz
          · rw [Up, List.pairwise_cons] at ha
            rcases List.mem_cons.1 hz with rfl | hz
            · exact h
            · have := ha.1 z hz; omega
          · exact hb.1 z hz
theorem uni_st {p q : Int → Prop} {a b : List Int} (ha : St p a) (hb : St q b) : St (fun x => p x ∨ q x) (uni a b) :=
  ⟨(uni_len _ a b (Nat.le_refl _)).2.2 ha.up hb.up, fun x => by rw [(uni_len _ a b (Nat.le_refl _)).2.1, ha.mem, hb.mem]⟩
theorem uni_le {a b : List Int} : (uni a b).length ≤ a.length + b.length := (uni_len _ a b (Nat.le_refl _)).1
end Idl
namespace Go.Proofs.Ytjdcdabbbmhffaa
open Go.Ev Idl
variable {n0 : Nat} {h : H}
theorem sl_heap {ad : Option Addr} {n c : Nat} {lo hi mx : Option Value} {h1 h2 : H} (he : ∀ a, ad = some a → h1[a.block]? = h2[a.block]?) : aSlice Try.prog 22 (.slice ad n c) lo hi mx h1 = aSlice Try.prog 22 (.slice ad n c) lo hi mx h2 := by
  cases ad with
  | none => simp only [aSlice, un_22]
  | some a =>
    have e : eOf h1 a.block = eOf h2 a.block := by unfold eOf; rw [he a rfl]
    simp only [aSlice, un_22, e]
theorem tl_ok {hh : H} {w : Value} {x : Int} {a : List Int} {K : Value → Prop} (X : Ext h hh) (S : Sl h 1 w ((x :: a).map u)) (hl : a.length < 2 ^ 62) (k : ∀ w', Sl h 1 w' (a.map u) → K w') : Bnd (aSlice Try.prog 22 w (some (.int .i64 1)) none none hh) K := by
  obtain ⟨ad, c, rfl, hc⟩ := Sl_len S
  rw [sl_heap (h2 := h) (by
    obtain ⟨ad', n', c', e1, _, e2, _, e3⟩ := S
    rintro b rfl
    simp only [Value.slice.injEq] at e1
    obtain ⟨rfl, rfl, _⟩ := e1
    rcases e3 with e3 | ⟨b', o', own, e, cs0, e4, e5, _⟩
    · simp at e3
    · cases e4; rw [e5]; exact X _ _ e5)]
  refine Bnd_sub1 (T := 22) (E := 23) (lo := some (1 : Int)) (hi := none) (kk := .i64) (kk' := .i64) S un_22 sz_23 (by simp) (by simp <;> omega) (by simp) fun w Sw => ?_
  simp only [Option.getD_some, Option.getD_none, List.length_map, Int.toNat_natCast, List.length_cons] at Sw
  refine k w ?_
  have e : ((List.map u (x :: a)).drop (1 : Int).toNat).take (a.length + 1 - (1 : Int).toNat) = a.map u := by
    rw [show (1 : Int).toNat = 1 from rfl, List.map_cons, List.drop_one, List.tail_cons, Nat.add_sub_cancel, List.take_of_length_le (by simp)]
  rw [← e]
  exact Sw
theorem app_room {hh : H} {b cap : Nat} {o new : List Int} {junk : List Value} {x : Value} (hB : hh[b]? = some (.cells true (enc 1 23) (o.map u ++ junk))) (S : Sl hh 1 x (new.map u)) (hc : o.length + junk.length = cap) (hn : new.length ≤ junk.length) (hb : cap ≤ 26388279065600) :
    aAppend Try.prog 22 (.slice (some ⟨b, 0, none⟩) o.length cap) x hh = some (.slice (some ⟨b, 0, none⟩) (o ++ new).length cap, hh.set b (.cells true (enc 1 23) ((o ++ new).map u ++ junk.drop new.length))) := by
  refine (app_in1 (new := new.map u) (len := o.length) (cap := cap) (b := b) (o := 0) el_22 sz_23 ze_23 by_23 rfl (src1 S) hB (eS_enc' (by omega)) (u_oneC _) (by have := (List.length_map u : (List.map u new).length = new.length); omega) (by have := (List.length_map u : (List.map u o).length = o.length); simp only [List.length_append]; omega) (by have := (List.length_map u : (List.map u new).length = new.length); omega) (by have := (List.length_map u : (List.map u new).length = new.length); omega)).trans ?_
  rw [List.length_map, List.length_append]
  congr 4
  unfold over
  rw [Nat.zero_add, List.length_map, List.take_left' (by simp), List.map_append]
  congr 1
  rw [← List.drop_drop, List.drop_left' (by simp)]
/-- numbers in memory of their own, that begins at its block's begin -/
def Ow (h : H) (B M : Nat) (r : Value) (s : List Int) : Prop := (r = .slice none 0 0 ∧ s = []) ∨ ∃ k cap junk, r = .slice (some ⟨k, 0, none⟩) s.length cap ∧ B ≤ k ∧ h[k]? = some (.cells true (enc 1 23) (s.map u ++ junk)) ∧ s.length + junk.length = cap ∧ cap ≤ M
theorem Ow.sl {B M : Nat} {r : Value} {s : List Int} (O : Ow h B M r s) : Sl h 1 r (s.map u) := by
  rcases O with ⟨rfl, rfl⟩ | ⟨k, cap, junk, rfl, _, hk, hc, _⟩
  · exact Sl.nil
  · exact Sl.mk (o := 0) hk (eS_enc' (by omega)) (by rw [List.drop_zero, Nat.mul_one]; exact List.take_left' (by simp)) (by simp) (by omega)
theorem Ow.keep {B M : Nat} {r : Value} {s : List Int} {h1 : H} (O : Ow h B M r s) (X : ∀ j ob, isBlk r j → h[j]? = some ob → h1[j]? = some ob) : Ow h1 B M r s := by
  rcases O with ⟨rfl, rfl⟩ | ⟨k, cap, junk, rfl, b, hk, hc, m⟩
  · exact .inl ⟨rfl, rfl⟩
  · exact .inr ⟨k, cap, junk, rfl, b, X _ _ (isBlk_some.2 rfl) hk, hc, m⟩
theorem Ow.ext {B M : Nat} {r : Value} {s : List Int} {h1 : H} (O : Ow h B M r s) (X : Ext h h1) : Ow h1 B M r s := O.keep fun j ob _ e => X _ _ e
theorem Ow.low {B B' M : Nat} {r : Value} {s : List Int} (O : Ow h B M r s) (X : B' ≤ B) : Ow h B' M r s := by
  rcases O with ⟨rfl, rfl⟩ | ⟨k, cap, junk, rfl, b, hk, hc, m⟩
  · exact .inl ⟨rfl, rfl⟩
  · exact .inr ⟨k, cap, junk, rfl, by omega, hk, hc, m⟩
theorem Ow.more {B M M' : Nat} {r : Value} {s : List Int} (O : Ow h B M r s) (X : M ≤ M') : Ow h B M' r s := by
  rcases O with ⟨rfl, rfl⟩ | ⟨k, cap, junk, rfl, b, hk, hc, m⟩
  · exact .inl ⟨rfl, rfl⟩
  · exact .inr ⟨k, cap, junk, rfl, b, hk, hc, by omega⟩
set_option maxRecDepth 20000 in
theorem both_ok {v w : Value} {a b : List Int} (S : Sl h 1 v (a.map u)) (T : Sl h 1 w (b.map u)) (hl : a.length + b.length ≤ 26388279065600) :
    Cn Try.prog n0 (.func 51) [v, w] h (fun r h' => Ow h' h.length (a.length + b.length) r (uni a b) ∧ Ext h h') := by
  refine F51.enter ?_
  obtain ⟨HP, hHP⟩ : ∃ HP : Value → H → Prop, (fun r h' => Ow h' h.length (a.length + b.length) r (uni a b) ∧ Ext h h') = HP := ⟨_, rfl⟩
  rw [hHP, F51.e0]
  unfold F51.t0
  refine Bnd2_i (len_sl S) ?_
  refine Bnd2_i (len_sl T) ?_
  refine Bnd_i bAdd ?_
  rw [show IntKind.i64.wrap ((a.length : Int) + (b.length : Int)) = ((a.length + b.length : Nat) : Int) by rw [IntWalk.i64_in _ (by omega)]; omega]
  obtain ⟨cap, hcap⟩ : ∃ cap, cap = a.length + b.length := ⟨_, rfl⟩
  rw [← hcap] at hHP hl ⊢
  refine Bnd2_i (mks_22 (by omega) (by omega) (by omega)) ?_
  rw [Int.toNat_natCast, show ((0 : Int)).toNat = 0 from rfl]
  refine Lp_ind (fun m fr hh => ∃ (o a' b' : List Int) (w1 w2 : Value) (junk : List Value), fr = [(0, w1), (1, w2), (5, .slice (some ⟨h.length, 0, none⟩) o.length cap)] ∧ Sl h 1 w1 (a'.map u) ∧ Sl h 1 w2 (b'.map u) ∧
      hh[h.length]? = some (.cells true (enc 1 23) (o.map u ++ junk)) ∧ o.length + junk.length = cap ∧ o.length + a'.length + b'.length ≤ cap ∧ o ++ uni a' b' = uni a b ∧ Ext h hh ∧ m = a'.length + b'.length) (F51.m1 n0) (a.length + b.length)
    ⟨[], a, b, v, w, List.replicate cap (.int .u64 0), by simp (disch := first | omega | assumption | exact isC_last | exact isC_app (by first | assumption | exact isC_last | exact isC_app (by first | assumption | exact isC_last)) | (simp [oneC]; done) | fail) only [evs0, evs1, evs2, evs3, evs4, evs5, evs6, evs7, evs8, if_true, if_false, ↓reduceIte, Nat.reduceEqDiff, Nat.reduceAdd, Nat.reduceMul, Nat.reduceSub, Nat.reduceLeDiff, Int.reduceLT, Int.reduceLE, Int.reduceEq, Bool.false_eq_true, Option.bind_some, Option.map_some, List.set_cons_zero, List.set_cons_succ, List.toList_toArray, List.size_toArray, List.length_cons, List.length_nil, List.getElem?_toArray, List.getElem?_cons_zero, List.getElem?_cons_succ, List.drop_zero, List.take_succ_cons, List.take_zero], S, T, get_last, by rw [List.length_nil, List.length_replicate]; omega, by rw [List.length_nil]; omega, rfl, Ext.app _ _, rfl⟩ ?_
  rintro m fr hh ⟨o, a', b', w1, w2, junk, rfl, S1, S2, hB, hcp, hle, E, X, rfl⟩
  -- where one is empty
  have fin : (a' = [] ∨ b' = []) → F51.p7 n0 [(0, w1), (1, w2), (5, .slice (some ⟨h.length, 0, none⟩) o.length cap)] [] hh (KFin Try.prog [.tmp 4] HP) := by
    intro hab
    rw [F51.e7]
    unfold F51.t7
    rw [ap_22_22]
    refine Bnd2_i (app_room hB (S1.ext X) hcp (by omega) hl) ?_
    have X1 : ∀ D, Ext h (hh.set h.length D) := fun D j ob e => set_ne (X _ _ e) (by have := lt_of_some e; omega)
    rw [ap_22_22]
    refine Bnd2_i (app_room (set_same hB) (S2.ext (X1 _)) (by simp <;> omega) (by simp <;> omega) hl) ?_
    simp (disch := first | omega | assumption | exact isC_last | exact isC_app (by first | assumption | exact isC_last | exact isC_app (by first | assumption | exact isC_last)) | (simp [oneC]; done) | fail) only [evs0, evs1, evs2, evs3, evs4, evs5, evs6, evs7, evs8, if_true, if_false, ↓reduceIte, Nat.reduceEqDiff, Nat.reduceAdd, Nat.reduceMul, Nat.reduceSub, Nat.reduceLeDiff, Int.reduceLT, Int.reduceLE, Int.reduceEq, Bool.false_eq_true, Option.bind_some, Option.map_some, List.set_cons_zero, List.set_cons_succ, List.toList_toArray, List.size_toArray, List.length_cons, List.length_nil, List.getElem?_toArray, List.getElem?_cons_zero, List.getElem?_cons_succ, List.drop_zero, List.take_succ_cons, List.take_zero]
    rw [← hHP]
    have E2 : o ++ a' ++ b' = uni a b := by
      rw [← E, List.append_assoc]
      congr 1
      rcases hab with rfl | rfl
      · rw [uni_nil_l]; simp
      · rw [uni_nil_r]; simp
    rw [← E2]
    refine ⟨.inr ⟨h.length, cap, (junk.drop a'.length).drop b'.length, rfl, Nat.le_refl _, set_same (set_same hB), by simp <;> omega, Nat.le_refl _⟩, ?_⟩
    exact fun j ob e => set_ne (X1 _ _ _ e) (by have := lt_of_some e; omega)
  rw [F51.e1]
  unfold F51.t1
  refine Bnd2_i (len_sl S1) ?_
  simp (disch := first | omega | assumption | exact isC_last | exact isC_app (by first | assumption | exact isC_last | exact isC_app (by first | assumption | exact isC_last)) | (simp [oneC]; done) | fail) only [evs0, evs1, evs2, evs3, evs4, evs5, evs6, evs7, evs8, if_true, if_false, ↓reduceIte, Nat.reduceEqDiff, Nat.reduceAdd, Nat.reduceMul, Nat.reduceSub, Nat.reduceLeDiff, Int.reduceLT, Int.reduceLE, Int.reduceEq, Bool.false_eq_true, Option.bind_some, Option.map_some, List.set_cons_zero, List.set_cons_succ, List.toList_toArray, List.size_toArray, List.length_cons, List.length_nil, List.getElem?_toArray, List.getElem?_cons_zero, List.getElem?_cons_succ, List.drop_zero, List.take_succ_cons, List.take_zero]
  by_cases ha : a' = []
  · subst ha
    rw [if_neg (by simp)]
    exact fin (.inl rfl)
  have ha0 : 0 < a'.length := List.length_pos_iff.2 ha
  rw [if_pos (by omega)]
  refine Bnd2_i (len_sl S2) ?_
  simp (disch := first | omega | assumption | exact isC_last | exact isC_app (by first | assumption | exact isC_last | exact isC_app (by first | assumption | exact isC_last)) | (simp [oneC]; done) | fail) only [evs0, evs1, evs2, evs3, evs4, evs5, evs6, evs7, evs8, if_true, if_false, ↓reduceIte, Nat.reduceEqDiff, Nat.reduceAdd, Nat.reduceMul, Nat.reduceSub, Nat.reduceLeDiff, Int.reduceLT, Int.reduceLE, Int.reduceEq, Bool.false_eq_true, Option.bind_some, Option.map_some, List.set_cons_zero, List.set_cons_succ, List.toList_toArray, List.size_toArray, List.length_cons, List.length_nil, List.getElem?_toArray, List.getElem?_cons_zero, List.getElem?_cons_succ, List.drop_zero, List.take_succ_cons, List.take_zero]
  by_cases hb : b' = []
  · subst hb
    rw [if_neg (by simp)]
    exact fin (.inr rfl)
  have hb0 : 0 < b'.length := List.length_pos_iff.2 hb
  rw [if_pos (by omega), F51.e2]
  clear fin
  obtain ⟨x, a', rfl⟩ := List.exists_cons_of_ne_nil ha
  obtain ⟨y, b', rfl⟩ := List.exists_cons_of_ne_nil hb
  unfold F51.t2
  refine rdU (S1.ext X) (by omega) (by omega) fun p => ?_
  refine rdU (S2.ext X) (by omega) (by omega) fun p => ?_
  rw [show (x :: a').getD (0 : Int).toNat 0 = x from rfl, show (y :: b').getD (0 : Int).toNat 0 = y from rfl]
  simp only [List.length_cons] at hle
  have six : ∀ (a1 b1 : List Int) (z1 z2 : Value), Sl h 1 z1 (a1.map u) → Sl h 1 z2 (b1.map u) → (if y < x then y else x) :: uni a1 b1 = uni (x :: a') (y :: b') → a1.length + b1.length < a'.length + 1 + (b'.length + 1) → o.length + 1 + a1.length + b1.length ≤ cap →
      F51.p6 n0 [(0, z1), (1, z2), (5, .slice (some ⟨h.length, 0, none⟩) o.length cap), (6, .int .u64 x), (7, .int .u64 y)] [] hh (KBlk [0, 1, 5] 1 (KLp [0, 1, 5] (fun fr hh => ∃ m', m' < (x :: a').length + (y :: b').length ∧ ∃ (o a' b' : List Int) (w1 w2 : Value) (junk : List Value), fr = [(0, w1), (1, w2), (5, .slice (some ⟨h.length, 0, none⟩) o.length cap)] ∧ Sl h 1 w1 (a'.map u) ∧ Sl h 1 w2 (b'.map u) ∧
      hh[h.length]? = some (.cells true (enc 1 23) (o.map u ++ junk)) ∧ o.length + junk.length = cap ∧ o.length + a'.length + b'.length ≤ cap ∧ o ++ uni a' b' = uni a b ∧ Ext h hh ∧ m' = a'.length + b'.length) [] (KBlk [0, 1, 5] 0 (KSeq [0, 1, 5] (F51.p7 n0) (KFin Try.prog [.tmp 4] HP))))) := by
    intro a1 b1 z1 z2 Z1 Z2 E1 hlt hle1
    rw [F51.e6]
    unfold F51.t6
    refine Bnd2_i min2 ?_
    refine Bnd2_i bsl_22_1_0 ?_
    rw [ap_22_22]
    obtain ⟨mm, hmm⟩ : ∃ mm, (if y < x then y else x) = mm := ⟨_, rfl⟩
    rw [hmm] at E1 ⊢
    refine Bnd2_i (app_room (new := [mm]) (get_app hB) (Sl.mk (o := 0) get_last (eS_enc' (by omega)) rfl rfl (Nat.le_refl _)) hcp (by simp <;> omega) hl) ?_
    simp (disch := first | omega | assumption | exact isC_last | exact isC_app (by first | assumption | exact isC_last | exact isC_app (by first | assumption | exact isC_last)) | (simp [oneC]; done) | fail) only [evs0, evs1, evs2, evs3, evs4, evs5, evs6, evs7, evs8, if_true, if_false, ↓reduceIte, Nat.reduceEqDiff, Nat.reduceAdd, Nat.reduceMul, Nat.reduceSub, Nat.reduceLeDiff, Int.reduceLT, Int.reduceLE, Int.reduceEq, Bool.false_eq_true, Option.bind_some, Option.map_some, List.set_cons_zero, List.set_cons_succ, List.toList_toArray, List.size_toArray, List.length_cons, List.length_nil, List.getElem?_toArray, List.getElem?_cons_zero, List.getElem?_cons_succ, List.drop_zero, List.take_succ_cons, List.take_zero]
    refine ⟨by trivial, a1.length + b1.length, by simpa using hlt, o ++ [mm], a1, b1, z1, z2, junk.drop 1, rfl, Z1, Z2, set_same (get_app hB), by simp <;> omega, by simp <;> omega, ?_, fun j ob e => set_ne (get_app (X _ _ e)) (by have := lt_of_some e; omega), rfl⟩
    rw [List.append_assoc, List.singleton_append, E1, E]
  simp (disch := first | omega | assumption | exact isC_last | exact isC_app (by first | assumption | exact isC_last | exact isC_app (by first | assumption | exact isC_last)) | (simp [oneC]; done) | fail) only [evs0, evs1, evs2, evs3, evs4, evs5, evs6, evs7, evs8, if_true, if_false, ↓reduceIte, Nat.reduceEqDiff, Nat.reduceAdd, Nat.reduceMul, Nat.reduceSub, Nat.reduceLeDiff, Int.reduceLT, Int.reduceLE, Int.reduceEq, Bool.false_eq_true, Option.bind_some, Option.map_some, List.set_cons_zero, List.set_cons_succ, List.toList_toArray, List.size_toArray, List.length_cons, List.length_nil, List.getElem?_toArray, List.getElem?_cons_zero, List.getElem?_cons_succ, List.drop_zero, List.take_succ_cons, List.take_zero]
  by_cases h1 : x ≤ y
  · rw [if_pos h1, F51.e3]
    unfold F51.t3
    refine tl_ok X S1 (by omega) fun w1' S1' => ?_
    simp (disch := first | omega | assumption | exact isC_last | exact isC_app (by first | assumption | exact isC_last | exact isC_app (by first | assumption | exact isC_last)) | (simp [oneC]; done) | fail) only [evs0, evs1, evs2, evs3, evs4, evs5, evs6, evs7, evs8, if_true, if_false, ↓reduceIte, Nat.reduceEqDiff, Nat.reduceAdd, Nat.reduceMul, Nat.reduceSub, Nat.reduceLeDiff, Int.reduceLT, Int.reduceLE, Int.reduceEq, Bool.false_eq_true, Option.bind_some, Option.map_some, List.set_cons_zero, List.set_cons_succ, List.toList_toArray, List.size_toArray, List.length_cons, List.length_nil, List.getElem?_toArray, List.getElem?_cons_zero, List.getElem?_cons_succ, List.drop_zero, List.take_succ_cons, List.take_zero]
    rw [F51.e4]
    simp (disch := first | omega | assumption | exact isC_last | exact isC_app (by first | assumption | exact isC_last | exact isC_app (by first | assumption | exact isC_last)) | (simp [oneC]; done) | fail) only [F51.t4, evs0, evs1, evs2, evs3, evs4, evs5, evs6, evs7, evs8, if_true, if_false, ↓reduceIte, Nat.reduceEqDiff, Nat.reduceAdd, Nat.reduceMul, Nat.reduceSub, Nat.reduceLeDiff, Int.reduceLT, Int.reduceLE, Int.reduceEq, Bool.false_eq_true, Option.bind_some, Option.map_some, List.set_cons_zero, List.set_cons_succ, List.toList_toArray, List.size_toArray, List.length_cons, List.length_nil, List.getElem?_toArray, List.getElem?_cons_zero, List.getElem?_cons_succ, List.drop_zero, List.take_succ_cons, List.take_zero]
    by_cases h2 : y ≤ x
    · rw [if_pos h2, F51.e5]
      unfold F51.t5
      refine tl_ok X S2 (by omega) fun w2' S2' => ?_
      simp (disch := first | omega | assumption | exact isC_last | exact isC_app (by first | assumption | exact isC_last | exact isC_app (by first | assumption | exact isC_last)) | (simp [oneC]; done) | fail) only [evs0, evs1, evs2, evs3, evs4, evs5, evs6, evs7, evs8, if_true, if_false, ↓reduceIte, Nat.reduceEqDiff, Nat.reduceAdd, Nat.reduceMul, Nat.reduceSub, Nat.reduceLeDiff, Int.reduceLT, Int.reduceLE, Int.reduceEq, Bool.false_eq_true, Option.bind_some, Option.map_some, List.set_cons_zero, List.set_cons_succ, List.toList_toArray, List.size_toArray, List.length_cons, List.length_nil, List.getElem?_toArray, List.getElem?_cons_zero, List.getElem?_cons_succ, List.drop_zero, List.take_succ_cons, List.take_zero]
      obtain rfl : x = y := by omega
      exact six a' b' _ _ S1' S2' (by rw [uni_eq, if_neg (by omega)]) (by omega) (by omega)
    · rw [if_neg h2]
      exact six a' (y :: b') _ _ S1' S2 (by rw [uni_lt (by omega), if_neg (by omega)]) (by simp only [List.length_cons]; omega) (by simp only [List.length_cons]; omega)
  · rw [if_neg h1, F51.e4]
    simp (disch := first | omega | assumption | exact isC_last | exact isC_app (by first | assumption | exact isC_last | exact isC_app (by first | assumption | exact isC_last)) | (simp [oneC]; done) | fail) only [F51.t4, evs0, evs1, evs2, evs3, evs4, evs5, evs6, evs7, evs8, if_true, if_false, ↓reduceIte, Nat.reduceEqDiff, Nat.reduceAdd, Nat.reduceMul, Nat.reduceSub, Nat.reduceLeDiff, Int.reduceLT, Int.reduceLE, Int.reduceEq, Bool.false_eq_true, Option.bind_some, Option.map_some, List.set_cons_zero, List.set_cons_succ, List.toList_toArray, List.size_toArray, List.length_cons, List.length_nil, List.getElem?_toArray, List.getElem?_cons_zero, List.getElem?_cons_succ, List.drop_zero, List.take_succ_cons, List.take_zero]
    rw [if_pos (by omega), F51.e5]
    unfold F51.t5
    refine tl_ok X S2 (by omega) fun w2' S2' => ?_
    simp (disch := first | omega | assumption | exact isC_last | exact isC_app (by first | assumption | exact isC_last | exact isC_app (by first | assumption | exact isC_last)) | (simp [oneC]; done) | fail) only [evs0, evs1, evs2, evs3, evs4, evs5, evs6, evs7, evs8, if_true, if_false, ↓reduceIte, Nat.reduceEqDiff, Nat.reduceAdd, Nat.reduceMul, Nat.reduceSub, Nat.reduceLeDiff, Int.reduceLT, Int.reduceLE, Int.reduceEq, Bool.false_eq_true, Option.bind_some, Option.map_some, List.set_cons_zero, List.set_cons_succ, List.toList_toArray, List.size_toArray, List.length_cons, List.length_nil, List.getElem?_toArray, List.getElem?_cons_zero, List.getElem?_cons_succ, List.drop_zero, List.take_succ_cons, List.take_zero]
    exact six (x :: a') b' _ _ S1 S2' (by rw [uni_gt (by omega), if_pos (by omega)]) (by simp only [List.length_cons]; omega) (by simp only [List.length_cons]; omega)
end Go.Proofs.Ytjdcdabbbmhffaa
