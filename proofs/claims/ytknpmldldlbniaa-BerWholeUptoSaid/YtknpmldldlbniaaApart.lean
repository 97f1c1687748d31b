/- Two answers are written full, each with a mark, then grown: they share nothing. No condition. -/
import Derived.Test.YtknpmldldlbniaaSame
set_option linter.unusedVariables false
set_option linter.unusedSimpArgs false
namespace Go.Ev
theorem rdIn_more {h : H} : ∀ {n : Nat} {b o : Nat} {v : Value}, rdIn h n b o = some v → rdIn h (n + 1) b o = some v
  | 0, b, o, v, e => by simp [rdIn] at e
  | n + 1, b, o, v, e => by
    unfold rdIn at e ⊢
    split at e
    · exact e
    · split at e
      · rename_i x1 x2
        rw [x1, rdIn_more x2]
        exact e
      · cases e
    · cases e
theorem rdIn_le {h : H} {n m : Nat} {b o : Nat} {v : Value} (e : rdIn h n b o = some v) (hm : n ≤ m) : rdIn h m b o = some v := by
  induction m with
  | zero => obtain rfl : n = 0 := by omega
            exact e
  | succ m ih =>
    by_cases hn : n = m + 1
    · subst hn; exact e
    · exact rdIn_more (ih (by omega))
theorem rd_in {h : H} {b o : Nat} : rd h b o = rdIn h (h.length + 1) b o := by
  unfold rd
  split
  · rename_i hb; unfold rdIn; rw [hb]
  · rfl
  · rename_i h1 h2
    unfold rdIn
    split
    · rename_i hb; exact absurd hb (h1 _ _ _)
    · rename_i hb; exact absurd hb (h2 _ _ _)
    · rfl
theorem sameV_int {k : IntKind} {n : Int} : sameV (.int k n) (.int k n) = true := by simp [sameV]
/-- what could be read can be read behind an append -/
theorem rdIn_kill {h : H} {c e e2 : Nat} {cs new : List Value} (hc : h[c]? = some (.cells true e cs)) {o : Nat} {k : IntKind} {m : Int} : ∀ {n : Nat} {b : Nat}, rdIn h n b o = some (.int k m) → rdIn (h.set c (.old e cs h.length) ++ [.cells true e2 (cs ++ new)]) (n + 1) b o = some (.int k m)
  | 0, b, e => by simp [rdIn] at e
  | n + 1, b, ee => by
    by_cases hb : b = c
    · subst hb
      unfold rdIn at ee
      rw [hc] at ee
      simp only at ee
      unfold rdIn
      rw [get_app (set_same hc)]
      simp only [ee]
      have : rdIn (h.set b (.old e cs h.length) ++ [.cells true e2 (cs ++ new)]) (n + 1) h.length o = some (.int k m) := by
        unfold rdIn
        rw [List.getElem?_append_right (by simp)]
        simp only [List.length_set, Nat.sub_self, List.getElem?_cons_zero]
        rw [List.getElem?_append_left (lt_of_some ee)]
        exact ee
      rw [this]
      simp [sameV_int]
    · unfold rdIn at ee
      split at ee
      · rename_i hx
        unfold rdIn
        rw [get_app (set_ne hx hb)]
        exact ee
      · rename_i hx
        split at ee
        · rename_i v v' x1 x2
          split at ee
          · rename_i hs
            cases ee
            have hv' : v' = .int k m := by
              unfold sameV at hs
              split at hs
              · rename_i heq; cases heq; simp only [Bool.and_eq_true, decide_eq_true_eq] at hs; rw [hs.1, hs.2]
              · rename_i heq; cases heq
              · cases hs
            subst hv'
            unfold rdIn
            rw [get_app (set_ne hx hb)]
            simp only
            rw [x1, rdIn_kill hc x2]
            simp [sameV_int]
          · cases ee
        · cases ee
      · cases ee
theorem rdIn_app {h : H} {ob : Ob} {o : Nat} {v : Value} : ∀ {n : Nat} {b : Nat}, rdIn h n b o = some v → rdIn (h ++ [ob]) n b o = some v
  | 0, b, e => by simp [rdIn] at e
  | n + 1, b, e => by
    unfold rdIn at e ⊢
    split at e
    · rename_i hb; rw [get_app hb]; exact e
    · rename_i hb
      rw [get_app hb]
      simp only
      split at e
      · rename_i x1 x2
        rw [x1, rdIn_app x2]
        exact e
      · cases e
    · cases e
/-- what a full slice's growth is, told out -/
theorem Fu.append2 {P : Program} {h : H} {T E s n m by' : Nat} {v x z : Value} {cs new : List Value} (F : Fu h s E v n cs) (hT : elOf P T = some E) (hs : szOf P E = some s) (hz : zeroOf P E = some z) (hb : bytesOf P E = some by') (hzl : z.cells.size = s) (hs1 : 0 < s) (hs2 : s < 1024)
    (src : srcCells s x h = some (m, new)) (hl : new.length = m * s) (hnew : new.all oneC = true) (h1 : (n + m) * by' ≤ 2 ^ 47) (h2 : n + m < 2 ^ 63) :
    ∃ v' h', aAppend P T v x h = some (v', h') ∧ Fu h' s E v' (n + m) (cs ++ new) ∧ But v h h' ∧ (∀ j, isBlk v' j → isBlk v j ∨ j = h.length) ∧ ∀ b o k q, rd h b o = some (.int k q) → rd h' b o = some (.int k q) := by
  by_cases hm : m = 0
  · subst hm
    have : new = [] := List.eq_nil_of_length_eq_zero (by omega)
    subst this
    refine ⟨v, h, ?_, by simpa using F, ⟨Nat.le_refl _, fun _ _ _ e => e⟩, fun j e => .inl e, fun b o k q e => e⟩
    obtain ⟨a, rfl⟩ := F.form
    simp [aAppend, hT, hs, hz, hb, src]
  · rcases F with ⟨rfl, rfl, rfl⟩ | ⟨b, rfl, hn, hB, e⟩
    · refine ⟨_, _, app_nil hT hs hz hb hzl hs1 hs2 src (by omega) (by simpa using h1) (by omega), ?_, ⟨by simp, fun _ _ _ e => get_app e⟩, fun j e => .inr (isBlk_some.1 e), ?_⟩
      · simp only [Nat.zero_add, List.nil_append]
        exact Fu.mk (by omega) get_last hl
      · intro b o k q e
        rw [rd_in] at e ⊢
        exact rdIn_le (rdIn_app e) (by simp)
    · refine ⟨_, _, app_full (e := 0) hT hs hz hb hzl hs1 hs2 src (by omega) hB e hnew h1 h2, ?_, ⟨by simp, ?_⟩, fun j e => .inr (isBlk_some.1 e), ?_⟩
      · exact Fu.mk (by omega) (by rw [List.getElem?_append_right (by simp)]; simp) (by rw [List.length_append, e, hl, Nat.add_mul])
      · intro j ob hj ho
        exact get_app (set_ne ho (fun e => hj (isBlk_some.2 e)))
      · intro b o k q e
        rw [rd_in] at e ⊢
        exact rdIn_le (rdIn_kill hB e) (by simp)
theorem over_chunk {α : Type} {f : α → List Value} {s : Nat} (hf : ∀ a, (f a).length = s) : ∀ (l : List α) (i : Nat) (x : α), i < l.length → over (l.map f).flatten (i * s) (f x) = ((l.set i x).map f).flatten
  | y :: r, 0, x, h => by
    simp only [over, Nat.zero_mul, List.take_zero, List.nil_append, Nat.zero_add, List.map_cons, List.flatten_cons, List.set_cons_zero]
    rw [hf x, ← hf y, List.drop_left]
  | y :: r, i + 1, x, h => by
    have ih := over_chunk hf r i x (by simpa using h)
    simp only [over, List.map_cons, List.flatten_cons, List.set_cons_succ] at ih ⊢
    rw [show (i + 1) * s = (f y).length + i * s from by rw [hf, Nat.add_mul]; omega, List.take_length_add_append, Nat.add_assoc, List.drop_length_add_append, ← ih]
    simp
  | [], i, x, h => by simp at h
end Go.Ev
namespace Go.Proofs.Ytknpmldldlbniaa
open Go.Ev Ber
def mk1' : Tlv := ⟨0, false, -1, 0, 0⟩
def mk2' : Tlv := ⟨0, false, -2, 0, 0⟩
theorem all_rep {α : Type} {l : List α} {n : Nat} {x : α} (hl : l.length = n) (h : ∀ j, j < n → l[j]? = some x) : l = List.replicate n x := by
  apply List.ext_getElem?
  intro j
  by_cases hj : j < n
  · rw [h j hj, List.getElem?_replicate, if_pos hj]
  · rw [List.getElem?_eq_none (by omega), List.getElem?_eq_none (by simp; omega)]
theorem num_get {ts : List Tlv} {i : Nat} {t : Tlv} (h : ts[i]? = some t) : (tcells ts)[i * 5 + 2]? = some (.int .i64 t.num) := by
  have hpl : ∀ a : Tlv, a.v.cells.toList.length = 5 := fun _ => rfl
  have := chunk hpl ts i t h
  unfold tcells
  have e : (((ts.map fun t => t.v.cells.toList).flatten.drop (i * 5)).take 5)[2]? = some (.int .i64 t.num) := by rw [this]; rfl
  rw [List.getElem?_take_of_lt (by omega), List.getElem?_drop] at e
  exact e
/-- the number of an item of a full slice -/
theorem num_rd {h : H} {x : Value} {n : Nat} {ts : List Tlv} (F : Fu h 5 26 x n (tcells ts)) {i : Nat} {t : Tlv} (hp : ts[i]? = some t) : ∃ b2, x = .slice (some ⟨b2, 0, none⟩) n n ∧ i < n ∧ rd h b2 (i * 5 + 2) = some (.int .i64 t.num) := by
  obtain ⟨b2, rfl, hi, _⟩ := item_rd F hp
  refine ⟨b2, rfl, hi, ?_⟩
  rcases F with ⟨h0, _, _⟩ | ⟨b3, hv, hn, hb2, hl2⟩
  · cases h0
  · cases hv
    rw [rd_cells hb2, num_get hp]
set_option maxRecDepth 20000 in
theorem Apart_ok {n0 : Nat} {h : H} {x y : Value} {n m : Nat} {us vs : List Tlv} (Fx : Fu h 5 26 x n (tcells us)) (hun : us.length = n) (Fy : Fu h 5 26 y m (tcells vs)) (hvm : vs.length = m) (hn : n ≤ 1048576) (hm : m ≤ 1048576) (hxy : ∀ j, isBlk x j → ¬ isBlk y j) :
    Cn Try.prog n0 (.func 39) [x, y] h (fun v h' => v = .bool true ∧ ∀ j ob, ¬ isBlk x j → ¬ isBlk y j → h[j]? = some ob → h'[j]? = some ob) := by
  refine F39.enter ?_
  obtain ⟨HP, hHP⟩ : ∃ HP : Value → H → Prop, (fun v h' => v = .bool true ∧ ∀ j ob, ¬ isBlk x j → ¬ isBlk y j → h[j]? = some ob → h'[j]? = some ob) = HP := ⟨_, rfl⟩
  obtain ⟨ax, rfl⟩ := Fx.form
  obtain ⟨ay, rfl⟩ := Fy.form
  have hpl : ∀ a : Tlv, a.v.cells.toList.length = 5 := fun _ => rfl
  rw [hHP, F39.e0]
  simp (disch := first | omega | assumption | exact isC_last | exact isC_app (by first | assumption | exact isC_last | exact isC_app (by first | assumption | exact isC_last)) | (simp [oneC]; done) | fail) only [F39.t0, evs0, evs1, evs2, evs3, evs4, evs5, evs6, evs7, evs8, evs9, evs10, evs11, evs12, evs13, if_true, if_false, ↓reduceIte, Nat.reduceEqDiff, Nat.reduceAdd, Nat.reduceMul, Nat.reduceSub, Nat.reduceLeDiff, Int.reduceLT, Int.reduceLE, Int.reduceEq, Bool.false_eq_true, Option.bind_some, Option.map_some, List.set_cons_zero, List.set_cons_succ, List.toList_toArray, List.size_toArray, List.length_cons, List.length_nil, List.getElem?_toArray, List.getElem?_cons_zero, List.getElem?_cons_succ, List.drop_zero, List.take_succ_cons, List.take_zero]
  refine Lp_ind (fun q fr hh => ∃ (i : Nat) (ts : List Tlv), fr = [(0, .slice ax n n), (1, .slice ay m m), (12, .int .i64 n), (13, .int .i64 i)] ∧ i ≤ n ∧ Fu hh 5 26 (.slice ax n n) n (tcells ts) ∧ ts.length = n ∧ (∀ j, j < i → ts[j]? = some mk1') ∧ (∀ j ob, ¬ isBlk (.slice ax n n) j → h[j]? = some ob → hh[j]? = some ob) ∧ q = n - i) (F39.m1 n0) n
    ⟨0, us, by simp (disch := first | omega | assumption | exact isC_last | exact isC_app (by first | assumption | exact isC_last | exact isC_app (by first | assumption | exact isC_last)) | (simp [oneC]; done) | fail) only [evs0, evs1, evs2, evs3, evs4, evs5, evs6, evs7, evs8, evs9, evs10, evs11, evs12, evs13, if_true, if_false, ↓reduceIte, Nat.reduceEqDiff, Nat.reduceAdd, Nat.reduceMul, Nat.reduceSub, Nat.reduceLeDiff, Int.reduceLT, Int.reduceLE, Int.reduceEq, Bool.false_eq_true, Option.bind_some, Option.map_some, List.set_cons_zero, List.set_cons_succ, List.toList_toArray, List.size_toArray, List.length_cons, List.length_nil, List.getElem?_toArray, List.getElem?_cons_zero, List.getElem?_cons_succ, List.drop_zero, List.take_succ_cons, List.take_zero]; rfl, by omega, Fx, hun, fun j hj => by omega, fun j ob _ e => e, rfl⟩ ?_
  rintro q fr hh ⟨i, ts, rfl, hi, F, hts, hT, P, rfl⟩
  rw [F39.e1]
  simp (disch := first | omega | assumption | exact isC_last | exact isC_app (by first | assumption | exact isC_last | exact isC_app (by first | assumption | exact isC_last)) | (simp [oneC]; done) | fail) only [F39.t1, evs0, evs1, evs2, evs3, evs4, evs5, evs6, evs7, evs8, evs9, evs10, evs11, evs12, evs13, if_true, if_false, ↓reduceIte, Nat.reduceEqDiff, Nat.reduceAdd, Nat.reduceMul, Nat.reduceSub, Nat.reduceLeDiff, Int.reduceLT, Int.reduceLE, Int.reduceEq, Bool.false_eq_true, Option.bind_some, Option.map_some, List.set_cons_zero, List.set_cons_succ, List.toList_toArray, List.size_toArray, List.length_cons, List.length_nil, List.getElem?_toArray, List.getElem?_cons_zero, List.getElem?_cons_succ, List.drop_zero, List.take_succ_cons, List.take_zero]
  by_cases hi2 : i < n
  · rw [if_pos (by omega), F39.e2]
    rcases F with ⟨_, h00, _⟩ | ⟨b2, hv, hn0, hb2, hl2⟩
    · omega
    simp only [Value.slice.injEq] at hv
    obtain ⟨rfl, _, _⟩ := hv
    simp (disch := first | omega | assumption | exact isC_last | exact isC_app (by first | assumption | exact isC_last | exact isC_app (by first | assumption | exact isC_last)) | (simp [oneC]; done) | fail) only [F39.t2, Nat.zero_add, Int.toNat_natCast, evs0, evs1, evs2, evs3, evs4, evs5, evs6, evs7, evs8, evs9, evs10, evs11, evs12, evs13, if_true, if_false, ↓reduceIte, Nat.reduceEqDiff, Nat.reduceAdd, Nat.reduceMul, Nat.reduceSub, Nat.reduceLeDiff, Int.reduceLT, Int.reduceLE, Int.reduceEq, Bool.false_eq_true, Option.bind_some, Option.map_some, List.set_cons_zero, List.set_cons_succ, List.toList_toArray, List.size_toArray, List.length_cons, List.length_nil, List.getElem?_toArray, List.getElem?_cons_zero, List.getElem?_cons_succ, List.drop_zero, List.take_succ_cons, List.take_zero]
    rw [if_pos (by omega)]
    simp (disch := first | omega | assumption | exact isC_last | exact isC_app (by first | assumption | exact isC_last | exact isC_app (by first | assumption | exact isC_last)) | (simp [oneC]; done) | fail) only [evs0, evs1, evs2, evs3, evs4, evs5, evs6, evs7, evs8, evs9, evs10, evs11, evs12, evs13, if_true, if_false, ↓reduceIte, Nat.reduceEqDiff, Nat.reduceAdd, Nat.reduceMul, Nat.reduceSub, Nat.reduceLeDiff, Int.reduceLT, Int.reduceLE, Int.reduceEq, Bool.false_eq_true, Option.bind_some, Option.map_some, List.set_cons_zero, List.set_cons_succ, List.toList_toArray, List.size_toArray, List.length_cons, List.length_nil, List.getElem?_toArray, List.getElem?_cons_zero, List.getElem?_cons_succ, List.drop_zero, List.take_succ_cons, List.take_zero]
    refine Bnd_i (wr_cells hb2 (by simp; omega) rfl) ?_
    rw [F39.e3]
    simp (disch := first | omega | assumption | exact isC_last | exact isC_app (by first | assumption | exact isC_last | exact isC_app (by first | assumption | exact isC_last)) | (simp [oneC]; done) | fail) only [F39.t3, evs0, evs1, evs2, evs3, evs4, evs5, evs6, evs7, evs8, evs9, evs10, evs11, evs12, evs13, if_true, if_false, ↓reduceIte, Nat.reduceEqDiff, Nat.reduceAdd, Nat.reduceMul, Nat.reduceSub, Nat.reduceLeDiff, Int.reduceLT, Int.reduceLE, Int.reduceEq, Bool.false_eq_true, Option.bind_some, Option.map_some, List.set_cons_zero, List.set_cons_succ, List.toList_toArray, List.size_toArray, List.length_cons, List.length_nil, List.getElem?_toArray, List.getElem?_cons_zero, List.getElem?_cons_succ, List.drop_zero, List.take_succ_cons, List.take_zero]
    rw [IntWalk.i64_in _ (by omega)]
    refine ⟨trivial, n - (i + 1), by omega, i + 1, ts.set i mk1', rfl, by omega, ?_, by simpa using hts, ?_, ?_, rfl⟩
    · have := over_chunk hpl ts i mk1' (by omega)
      exact Fu.mk hn0 (by rw [set_same hb2]; unfold tcells; rw [← this]; rfl) (by unfold tcells; rw [chunk_len hpl, List.length_set, hts])
    · intro j hj
      by_cases e : j = i
      · subst e; rw [List.getElem?_set_self (by omega)]
      · rw [List.getElem?_set_ne (fun e2 => e e2.symm)]; exact hT j (by omega)
    · intro j ob e1 e2
      exact set_ne (P j ob e1 e2) (fun e => e1 (isBlk_some.2 e))
  rw [if_neg (by omega)]
  obtain rfl : i = n := by omega
  obtain rfl := all_rep hts hT
  have Fy1 := Fy.keep (h' := hh) fun j ob e1 e2 => P j ob (fun e => hxy j e e1) e2
  clear Fx hT hts
  try simp (disch := first | omega | assumption | exact isC_last | exact isC_app (by first | assumption | exact isC_last | exact isC_app (by first | assumption | exact isC_last)) | (simp [oneC]; done) | fail) only [evs0, evs1, evs2, evs3, evs4, evs5, evs6, evs7, evs8, evs9, evs10, evs11, evs12, evs13, if_true, if_false, ↓reduceIte, Nat.reduceEqDiff, Nat.reduceAdd, Nat.reduceMul, Nat.reduceSub, Nat.reduceLeDiff, Int.reduceLT, Int.reduceLE, Int.reduceEq, Bool.false_eq_true, Option.bind_some, Option.map_some, List.set_cons_zero, List.set_cons_succ, List.toList_toArray, List.size_toArray, List.length_cons, List.length_nil, List.getElem?_toArray, List.getElem?_cons_zero, List.getElem?_cons_succ, List.drop_zero, List.take_succ_cons, List.take_zero]
  rw [F39.e4]
  simp (disch := first | omega | assumption | exact isC_last | exact isC_app (by first | assumption | exact isC_last | exact isC_app (by first | assumption | exact isC_last)) | (simp [oneC]; done) | fail) only [F39.t4, evs0, evs1, evs2, evs3, evs4, evs5, evs6, evs7, evs8, evs9, evs10, evs11, evs12, evs13, if_true, if_false, ↓reduceIte, Nat.reduceEqDiff, Nat.reduceAdd, Nat.reduceMul, Nat.reduceSub, Nat.reduceLeDiff, Int.reduceLT, Int.reduceLE, Int.reduceEq, Bool.false_eq_true, Option.bind_some, Option.map_some, List.set_cons_zero, List.set_cons_succ, List.toList_toArray, List.size_toArray, List.length_cons, List.length_nil, List.getElem?_toArray, List.getElem?_cons_zero, List.getElem?_cons_succ, List.drop_zero, List.take_succ_cons, List.take_zero]
  refine Lp_ind (fun q fr h2 => ∃ (k : Nat) (ts : List Tlv), fr = [(0, .slice ax i i), (1, .slice ay m m), (22, .int .i64 m), (23, .int .i64 k)] ∧ k ≤ m ∧ Fu h2 5 26 (.slice ay m m) m (tcells ts) ∧ ts.length = m ∧ (∀ j, j < k → ts[j]? = some mk2') ∧ (∀ j ob, ¬ isBlk (.slice ay m m) j → hh[j]? = some ob → h2[j]? = some ob) ∧ q = m - k) (F39.m5 n0) m
    ⟨0, vs, by simp (disch := first | omega | assumption | exact isC_last | exact isC_app (by first | assumption | exact isC_last | exact isC_app (by first | assumption | exact isC_last)) | (simp [oneC]; done) | fail) only [evs0, evs1, evs2, evs3, evs4, evs5, evs6, evs7, evs8, evs9, evs10, evs11, evs12, evs13, if_true, if_false, ↓reduceIte, Nat.reduceEqDiff, Nat.reduceAdd, Nat.reduceMul, Nat.reduceSub, Nat.reduceLeDiff, Int.reduceLT, Int.reduceLE, Int.reduceEq, Bool.false_eq_true, Option.bind_some, Option.map_some, List.set_cons_zero, List.set_cons_succ, List.toList_toArray, List.size_toArray, List.length_cons, List.length_nil, List.getElem?_toArray, List.getElem?_cons_zero, List.getElem?_cons_succ, List.drop_zero, List.take_succ_cons, List.take_zero]; rfl, by omega, Fy1, hvm, fun j hj => by omega, fun j ob _ e => e, rfl⟩ ?_
  rintro q fr h2 ⟨k, ts, rfl, hk, G, hts, hT, P2, rfl⟩
  rw [F39.e5]
  simp (disch := first | omega | assumption | exact isC_last | exact isC_app (by first | assumption | exact isC_last | exact isC_app (by first | assumption | exact isC_last)) | (simp [oneC]; done) | fail) only [F39.t5, evs0, evs1, evs2, evs3, evs4, evs5, evs6, evs7, evs8, evs9, evs10, evs11, evs12, evs13, if_true, if_false, ↓reduceIte, Nat.reduceEqDiff, Nat.reduceAdd, Nat.reduceMul, Nat.reduceSub, Nat.reduceLeDiff, Int.reduceLT, Int.reduceLE, Int.reduceEq, Bool.false_eq_true, Option.bind_some, Option.map_some, List.set_cons_zero, List.set_cons_succ, List.toList_toArray, List.size_toArray, List.length_cons, List.length_nil, List.getElem?_toArray, List.getElem?_cons_zero, List.getElem?_cons_succ, List.drop_zero, List.take_succ_cons, List.take_zero]
  by_cases hk2 : k < m
  · rw [if_pos (by omega), F39.e6]
    rcases G with ⟨_, h00, _⟩ | ⟨b2, hv, hn0, hb2, hl2⟩
    · omega
    simp only [Value.slice.injEq] at hv
    obtain ⟨rfl, _, _⟩ := hv
    simp (disch := first | omega | assumption | exact isC_last | exact isC_app (by first | assumption | exact isC_last | exact isC_app (by first | assumption | exact isC_last)) | (simp [oneC]; done) | fail) only [F39.t6, Nat.zero_add, Int.toNat_natCast, evs0, evs1, evs2, evs3, evs4, evs5, evs6, evs7, evs8, evs9, evs10, evs11, evs12, evs13, if_true, if_false, ↓reduceIte, Nat.reduceEqDiff, Nat.reduceAdd, Nat.reduceMul, Nat.reduceSub, Nat.reduceLeDiff, Int.reduceLT, Int.reduceLE, Int.reduceEq, Bool.false_eq_true, Option.bind_some, Option.map_some, List.set_cons_zero, List.set_cons_succ, List.toList_toArray, List.size_toArray, List.length_cons, List.length_nil, List.getElem?_toArray, List.getElem?_cons_zero, List.getElem?_cons_succ, List.drop_zero, List.take_succ_cons, List.take_zero]
    rw [if_pos (by omega)]
    simp (disch := first | omega | assumption | exact isC_last | exact isC_app (by first | assumption | exact isC_last | exact isC_app (by first | assumption | exact isC_last)) | (simp [oneC]; done) | fail) only [evs0, evs1, evs2, evs3, evs4, evs5, evs6, evs7, evs8, evs9, evs10, evs11, evs12, evs13, if_true, if_false, ↓reduceIte, Nat.reduceEqDiff, Nat.reduceAdd, Nat.reduceMul, Nat.reduceSub, Nat.reduceLeDiff, Int.reduceLT, Int.reduceLE, Int.reduceEq, Bool.false_eq_true, Option.bind_some, Option.map_some, List.set_cons_zero, List.set_cons_succ, List.toList_toArray, List.size_toArray, List.length_cons, List.length_nil, List.getElem?_toArray, List.getElem?_cons_zero, List.getElem?_cons_succ, List.drop_zero, List.take_succ_cons, List.take_zero]
    refine Bnd_i (wr_cells hb2 (by simp; omega) rfl) ?_
    rw [F39.e7]
    simp (disch := first | omega | assumption | exact isC_last | exact isC_app (by first | assumption | exact isC_last | exact isC_app (by first | assumption | exact isC_last)) | (simp [oneC]; done) | fail) only [F39.t7, evs0, evs1, evs2, evs3, evs4, evs5, evs6, evs7, evs8, evs9, evs10, evs11, evs12, evs13, if_true, if_false, ↓reduceIte, Nat.reduceEqDiff, Nat.reduceAdd, Nat.reduceMul, Nat.reduceSub, Nat.reduceLeDiff, Int.reduceLT, Int.reduceLE, Int.reduceEq, Bool.false_eq_true, Option.bind_some, Option.map_some, List.set_cons_zero, List.set_cons_succ, List.toList_toArray, List.size_toArray, List.length_cons, List.length_nil, List.getElem?_toArray, List.getElem?_cons_zero, List.getElem?_cons_succ, List.drop_zero, List.take_succ_cons, List.take_zero]
    rw [IntWalk.i64_in _ (by omega)]
    refine ⟨trivial, m - (k + 1), by omega, k + 1, ts.set k mk2', rfl, by omega, ?_, by simpa using hts, ?_, ?_, rfl⟩
    · have := over_chunk hpl ts k mk2' (by omega)
      exact Fu.mk hn0 (by rw [set_same hb2]; unfold tcells; rw [← this]; rfl) (by unfold tcells; rw [chunk_len hpl, List.length_set, hts])
    · intro j hj
      by_cases e : j = k
      · subst e; rw [List.getElem?_set_self (by omega)]
      · rw [List.getElem?_set_ne (fun e2 => e e2.symm)]; exact hT j (by omega)
    · intro j ob e1 e2
      exact set_ne (P2 j ob e1 e2) (fun e => e1 (isBlk_some.2 e))
  rw [if_neg (by omega)]
  obtain rfl : k = m := by omega
  obtain rfl := all_rep hts hT
  have F1 := F.keep (h' := h2) fun j ob e1 e2 => P2 j ob (hxy j e1) e2
  have PP : ∀ j ob, ¬ isBlk (.slice ax i i) j → ¬ isBlk (.slice ay k k) j → h[j]? = some ob → h2[j]? = some ob := fun j ob e1 e2 e3 => P2 j ob e2 (P j ob e1 e3)
  clear P P2 F Fy Fy1 hT hts
  try simp (disch := first | omega | assumption | exact isC_last | exact isC_app (by first | assumption | exact isC_last | exact isC_app (by first | assumption | exact isC_last)) | (simp [oneC]; done) | fail) only [evs0, evs1, evs2, evs3, evs4, evs5, evs6, evs7, evs8, evs9, evs10, evs11, evs12, evs13, if_true, if_false, ↓reduceIte, Nat.reduceEqDiff, Nat.reduceAdd, Nat.reduceMul, Nat.reduceSub, Nat.reduceLeDiff, Int.reduceLT, Int.reduceLE, Int.reduceEq, Bool.false_eq_true, Option.bind_some, Option.map_some, List.set_cons_zero, List.set_cons_succ, List.toList_toArray, List.size_toArray, List.length_cons, List.length_nil, List.getElem?_toArray, List.getElem?_cons_zero, List.getElem?_cons_succ, List.drop_zero, List.take_succ_cons, List.take_zero]
  rw [F39.e8]
  simp (disch := first | omega | assumption | exact isC_last | exact isC_app (by first | assumption | exact isC_last | exact isC_app (by first | assumption | exact isC_last)) | (simp [oneC]; done) | fail) only [F39.t8, evs0, evs1, evs2, evs3, evs4, evs5, evs6, evs7, evs8, evs9, evs10, evs11, evs12, evs13, if_true, if_false, ↓reduceIte, Nat.reduceEqDiff, Nat.reduceAdd, Nat.reduceMul, Nat.reduceSub, Nat.reduceLeDiff, Int.reduceLT, Int.reduceLE, Int.reduceEq, Bool.false_eq_true, Option.bind_some, Option.map_some, List.set_cons_zero, List.set_cons_succ, List.toList_toArray, List.size_toArray, List.length_cons, List.length_nil, List.getElem?_toArray, List.getElem?_cons_zero, List.getElem?_cons_succ, List.drop_zero, List.take_succ_cons, List.take_zero]
  have R1 : ∀ t, t < i → ∃ b, Value.slice ax i i = .slice (some ⟨b, 0, none⟩) i i ∧ rd h2 b (t * 5 + 2) = some (.int .i64 (-1)) := fun t ht => by
    obtain ⟨b, e1, _, e2⟩ := num_rd F1 (i := t) (t := mk1') (by rw [List.getElem?_replicate, if_pos ht])
    exact ⟨b, e1, e2⟩
  have R2 : ∀ t, t < k → ∃ b, Value.slice ay k k = .slice (some ⟨b, 0, none⟩) k k ∧ rd h2 b (t * 5 + 2) = some (.int .i64 (-2)) := fun t ht => by
    obtain ⟨b, e1, _, e2⟩ := num_rd G (i := t) (t := mk2') (by rw [List.getElem?_replicate, if_pos ht])
    exact ⟨b, e1, e2⟩
  have hbl : ∀ {z : Value} {q : Nat} {l : List Tlv} {h : H}, Fu h 5 26 z q (tcells l) → ∀ j, isBlk z j → j < h.length := by
    intro z q l h F j e1
    rcases F with ⟨rfl, _, _⟩ | ⟨b2, rfl, _, hb, _⟩
    · exact absurd e1 isBlk_nil
    · rw [isBlk_some.1 e1]; exact lt_of_some hb
  refine Lp_ind (fun q fr h3 => ∃ (t : Nat) (x7 y8 : Value), fr = [(0, .slice ax i i), (1, .slice ay k k), (7, x7), (8, y8), (33, .int .i64 t)] ∧ t ≤ 60 ∧ Fu h3 5 26 x7 (i + t) (tcells (List.replicate (i + t) mk1')) ∧ Fu h3 5 26 y8 (k + t) (tcells (List.replicate (k + t) mk2')) ∧ (∀ j, isBlk x7 j → ¬ isBlk y8 j) ∧
      (∀ b o q r, rd h2 b o = some (.int q r) → rd h3 b o = some (.int q r)) ∧ (∀ j ob, ¬ isBlk (.slice ax i i) j → ¬ isBlk (.slice ay k k) j → h2[j]? = some ob → h3[j]? = some ob) ∧ h2.length ≤ h3.length ∧
      (∀ j, isBlk x7 j → isBlk (.slice ax i i) j ∨ h2.length ≤ j) ∧ (∀ j, isBlk y8 j → isBlk (.slice ay k k) j ∨ h2.length ≤ j) ∧ q = 60 - t) (F39.m9 n0) 60
    ⟨0, _, _, by simp (disch := first | omega | assumption | exact isC_last | exact isC_app (by first | assumption | exact isC_last | exact isC_app (by first | assumption | exact isC_last)) | (simp [oneC]; done) | fail) only [evs0, evs1, evs2, evs3, evs4, evs5, evs6, evs7, evs8, evs9, evs10, evs11, evs12, evs13, if_true, if_false, ↓reduceIte, Nat.reduceEqDiff, Nat.reduceAdd, Nat.reduceMul, Nat.reduceSub, Nat.reduceLeDiff, Int.reduceLT, Int.reduceLE, Int.reduceEq, Bool.false_eq_true, Option.bind_some, Option.map_some, List.set_cons_zero, List.set_cons_succ, List.toList_toArray, List.size_toArray, List.length_cons, List.length_nil, List.getElem?_toArray, List.getElem?_cons_zero, List.getElem?_cons_succ, List.drop_zero, List.take_succ_cons, List.take_zero]; rfl, by omega, F1, G, hxy, fun _ _ _ _ e => e, fun _ _ _ _ e => e, Nat.le_refl _, fun _ e => .inl e, fun _ e => .inl e, rfl⟩ ?_
  rintro q fr h3 ⟨t, x7, y8, rfl, ht, Fx, Fy, D, RR, P3, L3, N7, N8, rfl⟩
  rw [F39.e9]
  simp (disch := first | omega | assumption | exact isC_last | exact isC_app (by first | assumption | exact isC_last | exact isC_app (by first | assumption | exact isC_last)) | (simp [oneC]; done) | fail) only [F39.t9, evs0, evs1, evs2, evs3, evs4, evs5, evs6, evs7, evs8, evs9, evs10, evs11, evs12, evs13, if_true, if_false, ↓reduceIte, Nat.reduceEqDiff, Nat.reduceAdd, Nat.reduceMul, Nat.reduceSub, Nat.reduceLeDiff, Int.reduceLT, Int.reduceLE, Int.reduceEq, Bool.false_eq_true, Option.bind_some, Option.map_some, List.set_cons_zero, List.set_cons_succ, List.toList_toArray, List.size_toArray, List.length_cons, List.length_nil, List.getElem?_toArray, List.getElem?_cons_zero, List.getElem?_cons_succ, List.drop_zero, List.take_succ_cons, List.take_zero]
  by_cases ht2 : t < 60
  · rw [if_pos (by omega), F39.e10]
    simp (disch := first | omega | assumption | exact isC_last | exact isC_app (by first | assumption | exact isC_last | exact isC_app (by first | assumption | exact isC_last)) | (simp [oneC]; done) | fail) only [F39.t10, evs0, evs1, evs2, evs3, evs4, evs5, evs6, evs7, evs8, evs9, evs10, evs11, evs12, evs13, if_true, if_false, ↓reduceIte, Nat.reduceEqDiff, Nat.reduceAdd, Nat.reduceMul, Nat.reduceSub, Nat.reduceLeDiff, Int.reduceLT, Int.reduceLE, Int.reduceEq, Bool.false_eq_true, Option.bind_some, Option.map_some, List.set_cons_zero, List.set_cons_succ, List.toList_toArray, List.size_toArray, List.length_cons, List.length_nil, List.getElem?_toArray, List.getElem?_cons_zero, List.getElem?_cons_succ, List.drop_zero, List.take_succ_cons, List.take_zero]
    have S1 : Sl (h3 ++ [Ob.cells true (enc 5 26) mk1'.v.cells.toList]) 5 (.slice (some ⟨h3.length, 0, none⟩) 1 1) mk1'.v.cells.toList := Sl.mk (o := 0) get_last (eS_enc' (by omega)) rfl rfl (Nat.le_refl _)
    have RA : ∀ b o q r, rd h2 b o = some (.int q r) → rd (h3 ++ [Ob.cells true (enc 5 26) mk1'.v.cells.toList]) b o = some (.int q r) := fun b o q r e => by
      have := RR _ _ _ _ e
      rw [rd_in] at this ⊢
      exact rdIn_le (rdIn_app this) (by simp)
    obtain ⟨x', h4, e4, F4, B4, N4, R4⟩ := (Fx.keep (h' := h3 ++ [Ob.cells true (enc 5 26) mk1'.v.cells.toList]) fun j o _ e1 => get_app e1).append2 (m := 1) el_64 sz_26 ze_26 by_26 rfl (by omega) (by omega) (rdN_sl S1) rfl rfl (by omega) (by omega)
    have hb4 := B4.1
    rw [List.length_append] at hb4
    have h41 : h3.length < h4.length := by simp at hb4; omega
    have Fy4 : Fu h4 5 26 y8 (k + t) (tcells (List.replicate (k + t) mk2')) := Fy.keep fun j o e1 e2 => B4.2 _ _ (fun e => D j e e1) (get_app e2)
    refine Bnd2_i e4 ?_
    try simp (disch := first | omega | assumption | exact isC_last | exact isC_app (by first | assumption | exact isC_last | exact isC_app (by first | assumption | exact isC_last)) | (simp [oneC]; done) | fail) only [evs0, evs1, evs2, evs3, evs4, evs5, evs6, evs7, evs8, evs9, evs10, evs11, evs12, evs13, if_true, if_false, ↓reduceIte, Nat.reduceEqDiff, Nat.reduceAdd, Nat.reduceMul, Nat.reduceSub, Nat.reduceLeDiff, Int.reduceLT, Int.reduceLE, Int.reduceEq, Bool.false_eq_true, Option.bind_some, Option.map_some, List.set_cons_zero, List.set_cons_succ, List.toList_toArray, List.size_toArray, List.length_cons, List.length_nil, List.getElem?_toArray, List.getElem?_cons_zero, List.getElem?_cons_succ, List.drop_zero, List.take_succ_cons, List.take_zero]
    have S2 : Sl (h4 ++ [Ob.cells true (enc 5 26) mk2'.v.cells.toList]) 5 (.slice (some ⟨h4.length, 0, none⟩) 1 1) mk2'.v.cells.toList := Sl.mk (o := 0) get_last (eS_enc' (by omega)) rfl rfl (Nat.le_refl _)
    have D4 : ∀ j, isBlk x' j → ¬ isBlk y8 j := by
      intro j e1 e2
      rcases N4 j e1 with e | e
      · exact D j e e2
      · have := hbl Fy j e2
        rw [e, List.length_append] at this
        omega
    obtain ⟨y', h5, e5, F5, B5, N5, R5⟩ := (Fy4.keep (h' := h4 ++ [Ob.cells true (enc 5 26) mk2'.v.cells.toList]) fun j o _ e1 => get_app e1).append2 (m := 1) el_64 sz_26 ze_26 by_26 rfl (by omega) (by omega) (rdN_sl S2) rfl rfl (by omega) (by omega)
    have hb5 := B5.1
    rw [List.length_append] at hb5
    have Fx5 := F4.keep (h' := h5) fun j o e1 e2 => B5.2 _ _ (D4 j e1) (get_app e2)
    refine Bnd2_i e5 ?_
    rw [F39.e11]
    simp (disch := first | omega | assumption | exact isC_last | exact isC_app (by first | assumption | exact isC_last | exact isC_app (by first | assumption | exact isC_last)) | (simp [oneC]; done) | fail) only [F39.t11, evs0, evs1, evs2, evs3, evs4, evs5, evs6, evs7, evs8, evs9, evs10, evs11, evs12, evs13, if_true, if_false, ↓reduceIte, Nat.reduceEqDiff, Nat.reduceAdd, Nat.reduceMul, Nat.reduceSub, Nat.reduceLeDiff, Int.reduceLT, Int.reduceLE, Int.reduceEq, Bool.false_eq_true, Option.bind_some, Option.map_some, List.set_cons_zero, List.set_cons_succ, List.toList_toArray, List.size_toArray, List.length_cons, List.length_nil, List.getElem?_toArray, List.getElem?_cons_zero, List.getElem?_cons_succ, List.drop_zero, List.take_succ_cons, List.take_zero]
    rw [IntWalk.i64_in _ (by omega)]
    refine ⟨trivial, 60 - (t + 1), by omega, t + 1, x', y', rfl, by omega, ?_, ?_, ?_, ?_, ?_, by omega, ?_, ?_, rfl⟩
    · have e : tcells (List.replicate (i + (t + 1)) mk1') = tcells (List.replicate (i + t) mk1') ++ mk1'.v.cells.toList := by
        rw [show i + (t + 1) = (i + t) + 1 from by omega, List.replicate_succ']
        simp [tcells]
      rw [e]; exact Fx5
    · have e : tcells (List.replicate (k + (t + 1)) mk2') = tcells (List.replicate (k + t) mk2') ++ mk2'.v.cells.toList := by
        rw [show k + (t + 1) = (k + t) + 1 from by omega, List.replicate_succ']
        simp [tcells]
      rw [e]; exact F5
    · intro j e1 e2
      rcases N5 j e2 with e | e
      · exact D4 j e1 e
      · have := hbl (l := List.replicate (i + t) mk1' ++ [mk1']) (by simpa [tcells] using F4) j e1
        rw [e, List.length_append] at this
        omega
    · intro b o q r e
      have := R4 _ _ _ _ (RA _ _ _ _ e)
      refine R5 _ _ _ _ ?_
      rw [rd_in] at this ⊢
      exact rdIn_le (rdIn_app this) (by simp)
    · intro j ob e1 e2 e3
      have hj := lt_of_some e3
      refine B5.2 _ _ (fun e => ?_) (get_app (B4.2 _ _ (fun e => ?_) (get_app (P3 _ _ e1 e2 e3))))
      · rcases N8 j e with e | e
        · exact e2 e
        · omega
      · rcases N7 j e with e | e
        · exact e1 e
        · omega
    · intro j e1
      rcases N4 j e1 with e | e
      · exact N7 j e
      · right; rw [e, List.length_append]; omega
    · intro j e1
      rcases N5 j e1 with e | e
      · exact N8 j e
      · right; rw [e, List.length_append]; omega
  rw [if_neg (by omega)]
  obtain rfl : t = 60 := by omega
  try simp (disch := first | omega | assumption | exact isC_last | exact isC_app (by first | assumption | exact isC_last | exact isC_app (by first | assumption | exact isC_last)) | (simp [oneC]; done) | fail) only [evs0, evs1, evs2, evs3, evs4, evs5, evs6, evs7, evs8, evs9, evs10, evs11, evs12, evs13, if_true, if_false, ↓reduceIte, Nat.reduceEqDiff, Nat.reduceAdd, Nat.reduceMul, Nat.reduceSub, Nat.reduceLeDiff, Int.reduceLT, Int.reduceLE, Int.reduceEq, Bool.false_eq_true, Option.bind_some, Option.map_some, List.set_cons_zero, List.set_cons_succ, List.toList_toArray, List.size_toArray, List.length_cons, List.length_nil, List.getElem?_toArray, List.getElem?_cons_zero, List.getElem?_cons_succ, List.drop_zero, List.take_succ_cons, List.take_zero]
  rw [F39.e12]
  obtain ⟨a7, rfl⟩ := Fx.form
  obtain ⟨a8, rfl⟩ := Fy.form
  simp (disch := first | omega | assumption | exact isC_last | exact isC_app (by first | assumption | exact isC_last | exact isC_app (by first | assumption | exact isC_last)) | (simp [oneC]; done) | fail) only [F39.t12, evs0, evs1, evs2, evs3, evs4, evs5, evs6, evs7, evs8, evs9, evs10, evs11, evs12, evs13, if_true, if_false, ↓reduceIte, Nat.reduceEqDiff, Nat.reduceAdd, Nat.reduceMul, Nat.reduceSub, Nat.reduceLeDiff, Int.reduceLT, Int.reduceLE, Int.reduceEq, Bool.false_eq_true, Option.bind_some, Option.map_some, List.set_cons_zero, List.set_cons_succ, List.toList_toArray, List.size_toArray, List.length_cons, List.length_nil, List.getElem?_toArray, List.getElem?_cons_zero, List.getElem?_cons_succ, List.drop_zero, List.take_succ_cons, List.take_zero]
  refine Lp_ind (fun q fr h4 => ∃ t : Nat, fr = [(0, .slice ax i i), (1, .slice ay k k), (7, .slice a7 (i + 60) (i + 60)), (8, .slice a8 (k + 60) (k + 60)), (45, .int .i64 ((i + 60 : Nat))), (46, .int .i64 t)] ∧ h4 = h3 ∧ t ≤ i + 60 ∧ q = i + 60 - t) (F39.m13 n0) (i + 60)
    ⟨0, by simp (disch := first | omega | assumption | exact isC_last | exact isC_app (by first | assumption | exact isC_last | exact isC_app (by first | assumption | exact isC_last)) | (simp [oneC]; done) | fail) only [evs0, evs1, evs2, evs3, evs4, evs5, evs6, evs7, evs8, evs9, evs10, evs11, evs12, evs13, if_true, if_false, ↓reduceIte, Nat.reduceEqDiff, Nat.reduceAdd, Nat.reduceMul, Nat.reduceSub, Nat.reduceLeDiff, Int.reduceLT, Int.reduceLE, Int.reduceEq, Bool.false_eq_true, Option.bind_some, Option.map_some, List.set_cons_zero, List.set_cons_succ, List.toList_toArray, List.size_toArray, List.length_cons, List.length_nil, List.getElem?_toArray, List.getElem?_cons_zero, List.getElem?_cons_succ, List.drop_zero, List.take_succ_cons, List.take_zero]; rfl, rfl, by omega, rfl⟩ ?_
  rintro q fr h4 ⟨t, rfl, rfl, ht3, rfl⟩
  rw [F39.e13]
  simp (disch := first | omega | assumption | exact isC_last | exact isC_app (by first | assumption | exact isC_last | exact isC_app (by first | assumption | exact isC_last)) | (simp [oneC]; done) | fail) only [F39.t13, evs0, evs1, evs2, evs3, evs4, evs5, evs6, evs7, evs8, evs9, evs10, evs11, evs12, evs13, if_true, if_false, ↓reduceIte, Nat.reduceEqDiff, Nat.reduceAdd, Nat.reduceMul, Nat.reduceSub, Nat.reduceLeDiff, Int.reduceLT, Int.reduceLE, Int.reduceEq, Bool.false_eq_true, Option.bind_some, Option.map_some, List.set_cons_zero, List.set_cons_succ, List.toList_toArray, List.size_toArray, List.length_cons, List.length_nil, List.getElem?_toArray, List.getElem?_cons_zero, List.getElem?_cons_succ, List.drop_zero, List.take_succ_cons, List.take_zero]
  by_cases ht4 : t < i + 60
  · rw [if_pos (by omega), F39.e14]
    obtain ⟨b7, e7, _, r7⟩ := num_rd Fx (i := t) (t := mk1') (by rw [List.getElem?_replicate, if_pos ht4])
    simp only [Value.slice.injEq] at e7
    obtain ⟨rfl, _, _⟩ := e7
    simp (disch := first | omega | assumption | exact isC_last | exact isC_app (by first | assumption | exact isC_last | exact isC_app (by first | assumption | exact isC_last)) | (simp [oneC]; done) | fail) only [F39.t14, Nat.zero_add, Int.toNat_natCast, evs0, evs1, evs2, evs3, evs4, evs5, evs6, evs7, evs8, evs9, evs10, evs11, evs12, evs13, if_true, if_false, ↓reduceIte, Nat.reduceEqDiff, Nat.reduceAdd, Nat.reduceMul, Nat.reduceSub, Nat.reduceLeDiff, Int.reduceLT, Int.reduceLE, Int.reduceEq, Bool.false_eq_true, Option.bind_some, Option.map_some, List.set_cons_zero, List.set_cons_succ, List.toList_toArray, List.size_toArray, List.length_cons, List.length_nil, List.getElem?_toArray, List.getElem?_cons_zero, List.getElem?_cons_succ, List.drop_zero, List.take_succ_cons, List.take_zero]
    rw [if_pos (by omega)]
    try simp (disch := first | omega | assumption | exact isC_last | exact isC_app (by first | assumption | exact isC_last | exact isC_app (by first | assumption | exact isC_last)) | (simp [oneC]; done) | fail) only [r7, mk1', evs0, evs1, evs2, evs3, evs4, evs5, evs6, evs7, evs8, evs9, evs10, evs11, evs12, evs13, if_true, if_false, ↓reduceIte, Nat.reduceEqDiff, Nat.reduceAdd, Nat.reduceMul, Nat.reduceSub, Nat.reduceLeDiff, Int.reduceLT, Int.reduceLE, Int.reduceEq, Bool.false_eq_true, Option.bind_some, Option.map_some, List.set_cons_zero, List.set_cons_succ, List.toList_toArray, List.size_toArray, List.length_cons, List.length_nil, List.getElem?_toArray, List.getElem?_cons_zero, List.getElem?_cons_succ, List.drop_zero, List.take_succ_cons, List.take_zero]
    have next : F39.p16 n0 [(0, .slice ax i i), (1, .slice ay k k), (7, .slice (some ⟨b7, 0, none⟩) (i + 60) (i + 60)), (8, .slice a8 (k + 60) (k + 60)), (45, .int .i64 ((i + 60 : Nat))), (46, .int .i64 t)] [] h4 (KLp [0, 1, 7, 8, 45, 46] (fun fr h => ∃ m', m' < i + 60 - t ∧ ∃ t, fr = [(0, .slice ax i i), (1, .slice ay k k), (7, .slice (some ⟨b7, 0, none⟩) (i + 60) (i + 60)), (8, .slice a8 (k + 60) (k + 60)), (45, .int .i64 ((i + 60 : Nat))), (46, .int .i64 ((t : Nat)))] ∧ h = h4 ∧ t ≤ i + 60 ∧ m' = i + 60 - t) [] (KBlk [1, 8] 6 (KSeq [1, 8] (F39.p17 n0) (KFin Try.prog [ResultVar.tmp 4] HP)))) := by
      rw [F39.e16]
      simp (disch := first | omega | assumption | exact isC_last | exact isC_app (by first | assumption | exact isC_last | exact isC_app (by first | assumption | exact isC_last)) | (simp [oneC]; done) | fail) only [F39.t16, evs0, evs1, evs2, evs3, evs4, evs5, evs6, evs7, evs8, evs9, evs10, evs11, evs12, evs13, if_true, if_false, ↓reduceIte, Nat.reduceEqDiff, Nat.reduceAdd, Nat.reduceMul, Nat.reduceSub, Nat.reduceLeDiff, Int.reduceLT, Int.reduceLE, Int.reduceEq, Bool.false_eq_true, Option.bind_some, Option.map_some, List.set_cons_zero, List.set_cons_succ, List.toList_toArray, List.size_toArray, List.length_cons, List.length_nil, List.getElem?_toArray, List.getElem?_cons_zero, List.getElem?_cons_succ, List.drop_zero, List.take_succ_cons, List.take_zero]
      rw [IntWalk.i64_in _ (by omega)]
      exact ⟨trivial, i + 60 - (t + 1), by omega, t + 1, rfl, trivial, by omega, rfl⟩
    by_cases ht5 : t < i
    · rw [if_pos (by omega)]
      obtain ⟨b, e1, e2⟩ := R1 t ht5
      simp only [Value.slice.injEq] at e1
      obtain ⟨rfl, _, _⟩ := e1
      have e3 := RR _ _ _ _ e2
      simp (disch := first | omega | assumption | exact isC_last | exact isC_app (by first | assumption | exact isC_last | exact isC_app (by first | assumption | exact isC_last)) | (simp [oneC]; done) | fail) only [Nat.zero_add, Int.toNat_natCast, evs0, evs1, evs2, evs3, evs4, evs5, evs6, evs7, evs8, evs9, evs10, evs11, evs12, evs13, if_true, if_false, ↓reduceIte, Nat.reduceEqDiff, Nat.reduceAdd, Nat.reduceMul, Nat.reduceSub, Nat.reduceLeDiff, Int.reduceLT, Int.reduceLE, Int.reduceEq, Bool.false_eq_true, Option.bind_some, Option.map_some, List.set_cons_zero, List.set_cons_succ, List.toList_toArray, List.size_toArray, List.length_cons, List.length_nil, List.getElem?_toArray, List.getElem?_cons_zero, List.getElem?_cons_succ, List.drop_zero, List.take_succ_cons, List.take_zero]
      rw [if_pos (by omega)]
      simp (disch := first | omega | assumption | exact isC_last | exact isC_app (by first | assumption | exact isC_last | exact isC_app (by first | assumption | exact isC_last)) | (simp [oneC]; done) | fail) only [e3, evs0, evs1, evs2, evs3, evs4, evs5, evs6, evs7, evs8, evs9, evs10, evs11, evs12, evs13, if_true, if_false, ↓reduceIte, Nat.reduceEqDiff, Nat.reduceAdd, Nat.reduceMul, Nat.reduceSub, Nat.reduceLeDiff, Int.reduceLT, Int.reduceLE, Int.reduceEq, Bool.false_eq_true, Option.bind_some, Option.map_some, List.set_cons_zero, List.set_cons_succ, List.toList_toArray, List.size_toArray, List.length_cons, List.length_nil, List.getElem?_toArray, List.getElem?_cons_zero, List.getElem?_cons_succ, List.drop_zero, List.take_succ_cons, List.take_zero]
      exact next
    · rw [if_neg (by omega)]
      exact next
  rw [if_neg (by omega)]
  try simp (disch := first | omega | assumption | exact isC_last | exact isC_app (by first | assumption | exact isC_last | exact isC_app (by first | assumption | exact isC_last)) | (simp [oneC]; done) | fail) only [evs0, evs1, evs2, evs3, evs4, evs5, evs6, evs7, evs8, evs9, evs10, evs11, evs12, evs13, if_true, if_false, ↓reduceIte, Nat.reduceEqDiff, Nat.reduceAdd, Nat.reduceMul, Nat.reduceSub, Nat.reduceLeDiff, Int.reduceLT, Int.reduceLE, Int.reduceEq, Bool.false_eq_true, Option.bind_some, Option.map_some, List.set_cons_zero, List.set_cons_succ, List.toList_toArray, List.size_toArray, List.length_cons, List.length_nil, List.getElem?_toArray, List.getElem?_cons_zero, List.getElem?_cons_succ, List.drop_zero, List.take_succ_cons, List.take_zero]
  rw [F39.e17]
  simp (disch := first | omega | assumption | exact isC_last | exact isC_app (by first | assumption | exact isC_last | exact isC_app (by first | assumption | exact isC_last)) | (simp [oneC]; done) | fail) only [F39.t17, evs0, evs1, evs2, evs3, evs4, evs5, evs6, evs7, evs8, evs9, evs10, evs11, evs12, evs13, if_true, if_false, ↓reduceIte, Nat.reduceEqDiff, Nat.reduceAdd, Nat.reduceMul, Nat.reduceSub, Nat.reduceLeDiff, Int.reduceLT, Int.reduceLE, Int.reduceEq, Bool.false_eq_true, Option.bind_some, Option.map_some, List.set_cons_zero, List.set_cons_succ, List.toList_toArray, List.size_toArray, List.length_cons, List.length_nil, List.getElem?_toArray, List.getElem?_cons_zero, List.getElem?_cons_succ, List.drop_zero, List.take_succ_cons, List.take_zero]
  refine Lp_ind (fun q fr h5 => ∃ t : Nat, fr = [(1, .slice ay k k), (8, .slice a8 (k + 60) (k + 60)), (71, .int .i64 ((k + 60 : Nat))), (72, .int .i64 t)] ∧ h5 = h4 ∧ t ≤ k + 60 ∧ q = k + 60 - t) (F39.m18 n0) (k + 60)
    ⟨0, by simp (disch := first | omega | assumption | exact isC_last | exact isC_app (by first | assumption | exact isC_last | exact isC_app (by first | assumption | exact isC_last)) | (simp [oneC]; done) | fail) only [evs0, evs1, evs2, evs3, evs4, evs5, evs6, evs7, evs8, evs9, evs10, evs11, evs12, evs13, if_true, if_false, ↓reduceIte, Nat.reduceEqDiff, Nat.reduceAdd, Nat.reduceMul, Nat.reduceSub, Nat.reduceLeDiff, Int.reduceLT, Int.reduceLE, Int.reduceEq, Bool.false_eq_true, Option.bind_some, Option.map_some, List.set_cons_zero, List.set_cons_succ, List.toList_toArray, List.size_toArray, List.length_cons, List.length_nil, List.getElem?_toArray, List.getElem?_cons_zero, List.getElem?_cons_succ, List.drop_zero, List.take_succ_cons, List.take_zero]; rfl, rfl, by omega, rfl⟩ ?_
  rintro q fr h5 ⟨t2, rfl, rfl, ht6, rfl⟩
  rw [F39.e18]
  simp (disch := first | omega | assumption | exact isC_last | exact isC_app (by first | assumption | exact isC_last | exact isC_app (by first | assumption | exact isC_last)) | (simp [oneC]; done) | fail) only [F39.t18, evs0, evs1, evs2, evs3, evs4, evs5, evs6, evs7, evs8, evs9, evs10, evs11, evs12, evs13, if_true, if_false, ↓reduceIte, Nat.reduceEqDiff, Nat.reduceAdd, Nat.reduceMul, Nat.reduceSub, Nat.reduceLeDiff, Int.reduceLT, Int.reduceLE, Int.reduceEq, Bool.false_eq_true, Option.bind_some, Option.map_some, List.set_cons_zero, List.set_cons_succ, List.toList_toArray, List.size_toArray, List.length_cons, List.length_nil, List.getElem?_toArray, List.getElem?_cons_zero, List.getElem?_cons_succ, List.drop_zero, List.take_succ_cons, List.take_zero]
  by_cases ht7 : t2 < k + 60
  · rw [if_pos (by omega), F39.e19]
    obtain ⟨b8, e8, _, r8⟩ := num_rd Fy (i := t2) (t := mk2') (by rw [List.getElem?_replicate, if_pos ht7])
    simp only [Value.slice.injEq] at e8
    obtain ⟨rfl, _, _⟩ := e8
    simp (disch := first | omega | assumption | exact isC_last | exact isC_app (by first | assumption | exact isC_last | exact isC_app (by first | assumption | exact isC_last)) | (simp [oneC]; done) | fail) only [F39.t19, Nat.zero_add, Int.toNat_natCast, evs0, evs1, evs2, evs3, evs4, evs5, evs6, evs7, evs8, evs9, evs10, evs11, evs12, evs13, if_true, if_false, ↓reduceIte, Nat.reduceEqDiff, Nat.reduceAdd, Nat.reduceMul, Nat.reduceSub, Nat.reduceLeDiff, Int.reduceLT, Int.reduceLE, Int.reduceEq, Bool.false_eq_true, Option.bind_some, Option.map_some, List.set_cons_zero, List.set_cons_succ, List.toList_toArray, List.size_toArray, List.length_cons, List.length_nil, List.getElem?_toArray, List.getElem?_cons_zero, List.getElem?_cons_succ, List.drop_zero, List.take_succ_cons, List.take_zero]
    rw [if_pos (by omega)]
    try simp (disch := first | omega | assumption | exact isC_last | exact isC_app (by first | assumption | exact isC_last | exact isC_app (by first | assumption | exact isC_last)) | (simp [oneC]; done) | fail) only [r8, mk2', evs0, evs1, evs2, evs3, evs4, evs5, evs6, evs7, evs8, evs9, evs10, evs11, evs12, evs13, if_true, if_false, ↓reduceIte, Nat.reduceEqDiff, Nat.reduceAdd, Nat.reduceMul, Nat.reduceSub, Nat.reduceLeDiff, Int.reduceLT, Int.reduceLE, Int.reduceEq, Bool.false_eq_true, Option.bind_some, Option.map_some, List.set_cons_zero, List.set_cons_succ, List.toList_toArray, List.size_toArray, List.length_cons, List.length_nil, List.getElem?_toArray, List.getElem?_cons_zero, List.getElem?_cons_succ, List.drop_zero, List.take_succ_cons, List.take_zero]
    have next : F39.p21 n0 [(1, .slice ay k k), (8, .slice (some ⟨b8, 0, none⟩) (k + 60) (k + 60)), (71, .int .i64 ((k + 60 : Nat))), (72, .int .i64 t2)] [] h5 (KLp [1, 8, 71, 72] (fun fr h => ∃ m', m' < k + 60 - t2 ∧ ∃ t, fr = [(1, .slice ay k k), (8, .slice (some ⟨b8, 0, none⟩) (k + 60) (k + 60)), (71, .int .i64 ((k + 60 : Nat))), (72, .int .i64 ((t : Nat)))] ∧ h = h5 ∧ t ≤ k + 60 ∧ m' = k + 60 - t) [] (KBlk [] 8 (KSeq [] (F39.p22 n0) (KFin Try.prog [ResultVar.tmp 4] HP)))) := by
      rw [F39.e21]
      simp (disch := first | omega | assumption | exact isC_last | exact isC_app (by first | assumption | exact isC_last | exact isC_app (by first | assumption | exact isC_last)) | (simp [oneC]; done) | fail) only [F39.t21, evs0, evs1, evs2, evs3, evs4, evs5, evs6, evs7, evs8, evs9, evs10, evs11, evs12, evs13, if_true, if_false, ↓reduceIte, Nat.reduceEqDiff, Nat.reduceAdd, Nat.reduceMul, Nat.reduceSub, Nat.reduceLeDiff, Int.reduceLT, Int.reduceLE, Int.reduceEq, Bool.false_eq_true, Option.bind_some, Option.map_some, List.set_cons_zero, List.set_cons_succ, List.toList_toArray, List.size_toArray, List.length_cons, List.length_nil, List.getElem?_toArray, List.getElem?_cons_zero, List.getElem?_cons_succ, List.drop_zero, List.take_succ_cons, List.take_zero]
      rw [IntWalk.i64_in _ (by omega)]
      exact ⟨trivial, k + 60 - (t2 + 1), by omega, t2 + 1, rfl, trivial, by omega, rfl⟩
    by_cases ht8 : t2 < k
    · rw [if_pos (by omega)]
      obtain ⟨b, e1, e2⟩ := R2 t2 ht8
      simp only [Value.slice.injEq] at e1
      obtain ⟨rfl, _, _⟩ := e1
      have e3 := RR _ _ _ _ e2
      simp (disch := first | omega | assumption | exact isC_last | exact isC_app (by first | assumption | exact isC_last | exact isC_app (by first | assumption | exact isC_last)) | (simp [oneC]; done) | fail) only [Nat.zero_add, Int.toNat_natCast, evs0, evs1, evs2, evs3, evs4, evs5, evs6, evs7, evs8, evs9, evs10, evs11, evs12, evs13, if_true, if_false, ↓reduceIte, Nat.reduceEqDiff, Nat.reduceAdd, Nat.reduceMul, Nat.reduceSub, Nat.reduceLeDiff, Int.reduceLT, Int.reduceLE, Int.reduceEq, Bool.false_eq_true, Option.bind_some, Option.map_some, List.set_cons_zero, List.set_cons_succ, List.toList_toArray, List.size_toArray, List.length_cons, List.length_nil, List.getElem?_toArray, List.getElem?_cons_zero, List.getElem?_cons_succ, List.drop_zero, List.take_succ_cons, List.take_zero]
      rw [if_pos (by omega)]
      simp (disch := first | omega | assumption | exact isC_last | exact isC_app (by first | assumption | exact isC_last | exact isC_app (by first | assumption | exact isC_last)) | (simp [oneC]; done) | fail) only [e3, evs0, evs1, evs2, evs3, evs4, evs5, evs6, evs7, evs8, evs9, evs10, evs11, evs12, evs13, if_true, if_false, ↓reduceIte, Nat.reduceEqDiff, Nat.reduceAdd, Nat.reduceMul, Nat.reduceSub, Nat.reduceLeDiff, Int.reduceLT, Int.reduceLE, Int.reduceEq, Bool.false_eq_true, Option.bind_some, Option.map_some, List.set_cons_zero, List.set_cons_succ, List.toList_toArray, List.size_toArray, List.length_cons, List.length_nil, List.getElem?_toArray, List.getElem?_cons_zero, List.getElem?_cons_succ, List.drop_zero, List.take_succ_cons, List.take_zero]
      exact next
    · rw [if_neg (by omega)]
      exact next
  rw [if_neg (by omega)]
  try simp (disch := first | omega | assumption | exact isC_last | exact isC_app (by first | assumption | exact isC_last | exact isC_app (by first | assumption | exact isC_last)) | (simp [oneC]; done) | fail) only [evs0, evs1, evs2, evs3, evs4, evs5, evs6, evs7, evs8, evs9, evs10, evs11, evs12, evs13, if_true, if_false, ↓reduceIte, Nat.reduceEqDiff, Nat.reduceAdd, Nat.reduceMul, Nat.reduceSub, Nat.reduceLeDiff, Int.reduceLT, Int.reduceLE, Int.reduceEq, Bool.false_eq_true, Option.bind_some, Option.map_some, List.set_cons_zero, List.set_cons_succ, List.toList_toArray, List.size_toArray, List.length_cons, List.length_nil, List.getElem?_toArray, List.getElem?_cons_zero, List.getElem?_cons_succ, List.drop_zero, List.take_succ_cons, List.take_zero]
  rw [F39.e22]
  simp (disch := first | omega | assumption | exact isC_last | exact isC_app (by first | assumption | exact isC_last | exact isC_app (by first | assumption | exact isC_last)) | (simp [oneC]; done) | fail) only [F39.t22, evs0, evs1, evs2, evs3, evs4, evs5, evs6, evs7, evs8, evs9, evs10, evs11, evs12, evs13, if_true, if_false, ↓reduceIte, Nat.reduceEqDiff, Nat.reduceAdd, Nat.reduceMul, Nat.reduceSub, Nat.reduceLeDiff, Int.reduceLT, Int.reduceLE, Int.reduceEq, Bool.false_eq_true, Option.bind_some, Option.map_some, List.set_cons_zero, List.set_cons_succ, List.toList_toArray, List.size_toArray, List.length_cons, List.length_nil, List.getElem?_toArray, List.getElem?_cons_zero, List.getElem?_cons_succ, List.drop_zero, List.take_succ_cons, List.take_zero]
  rw [← hHP]
  exact ⟨rfl, fun j ob e1 e2 e3 => P3 _ _ e1 e2 (PP _ _ e1 e2 e3)⟩
end Go.Proofs.Ytknpmldldlbniaa
