/- A part of the proof that what the evaluator of YtjdcdabbbmhffaaEvCore answers, the call answers in the model. No condition. -/
import Derived.Test.YtjdcdabbbmhffaaEvOp5
import Derived.Laws.Strings2
set_option linter.unusedVariables false
set_option linter.unusedSimpArgs false
namespace Go.Ev
open Go.RowKit (Below)
variable {P : Program} {n0 : Nat} {ρ : Rho} {h h' : H} {w : World}

/-- a slice over it was appended to, and what came of it lies elsewhere -/
theorem Rel.retire (R : Rel n0 ρ h w) {b : Nat} {p : Pl} {e : Nat} {cs : List Value} (hp : ρ[b]? = some p) (hb : h[b]? = some (.cells true e cs)) (k s : Nat) : Rel n0 ρ (h.set b (.old e (cs.take k) s)) w := by
  have hset : ∀ i (x : Ob), (h.set b (.old e (cs.take k) s))[i]? = some x → (i = b ∧ x = .old e (cs.take k) s) ∨ (i ≠ b ∧ h[i]? = some x) := fun i x hx => get_set hx
  refine ⟨by simp [R.len], R.n0le, R.lt, ?_, ?_, ?_, ?_, ?_, ?_, ?_⟩
  · intro i q ow e1 ci hi hbi
    rcases hset i _ hbi with ⟨_, hx⟩ | ⟨_, hbi⟩
    · cases hx
    · exact R.cells i q ow e1 ci hi hbi
  · intro i q ow e1 ci hi hbi
    rcases hset i _ hbi with ⟨_, hx⟩ | ⟨_, hbi⟩
    · cases hx
    · exact R.ty i q ow e1 ci hi hbi
  · intro i q e1 ci hi hbi
    rcases hset i _ hbi with ⟨_, hx⟩ | ⟨_, hbi⟩
    · cases hx
    · exact R.own i q e1 ci hi hbi
  · intro i j q r e1 e2 ci cj ow hij hi hj hbi hbj
    rcases hset i _ hbi with ⟨_, hx⟩ | ⟨_, hbi⟩
    · cases hx
    rcases hset j _ hbj with ⟨_, hx⟩ | ⟨_, hbj⟩
    · cases hx
    exact R.inj i j q r e1 e2 ci cj ow hij hi hj hbi hbj
  · intro i q e1 ci s1 hi hbi
    rcases hset i _ hbi with ⟨rfl, hx⟩ | ⟨hne, hbi⟩
    · cases hx
      rw [hp] at hi; cases hi
      refine ⟨(R.cells _ _ _ _ _ hp hb).1, .inl ⟨fun j v hj => ?_, fun j r e2 cj hj hbj => ?_⟩⟩
      · rw [List.getElem?_take] at hj
        split at hj
        · exact (R.cells _ _ _ _ _ hp hb).2 j v hj
        · cases hj
      · rcases hset j _ hbj with ⟨_, hx⟩ | ⟨hjb, hbj⟩
        · cases hx
        · exact R.inj j i r p e2 e cj cs true hjb hj hp hbj hb
    · obtain ⟨a0, a⟩ := R.old i q e1 ci s1 hi hbi
      refine ⟨a0, a.imp (fun a => ⟨a.1, fun j r e2 cj hj hbj => ?_⟩) id⟩
      rcases hset j _ hbj with ⟨_, hx⟩ | ⟨_, hbj⟩
      · cases hx
      · exact a.2 j r e2 cj hj hbj
  · intro i q ob hi hbi ho
    rcases hset i _ hbi with ⟨_, hx⟩ | ⟨_, hbi⟩
    · subst hx; cases ho
    · exact R.obj i q ob hi hbi ho
  · intro i j q t oi oj hij hi hj hbi hbj ho1 ho2
    rcases hset i _ hbi with ⟨_, hx⟩ | ⟨_, hbi⟩
    · subst hx; cases ho1
    rcases hset j _ hbj with ⟨_, hx⟩ | ⟨_, hbj⟩
    · subst hx; cases ho2
    exact R.objInj i j q t oi oj hij hi hj hbi hbj ho1 ho2

/-- .. lies where it lay -/
theorem Rel.move (R : Rel n0 ρ h w) {b : Nat} {p : Pl} {e : Nat} {cs : List Value} (hp : ρ[b]? = some p) (hb : h[b]? = some (.cells true e cs)) (k : Nat) {en : Nat} (hen : en = e ∨ en = eS e) :
    Rel n0 (ρ ++ [p]) (h.set b (.old e (cs.take k) h.length) ++ [.cells true en cs]) w := by
  have hlen : (h.set b (.old e (cs.take k) h.length)).length = h.length := by simp
  have hset : ∀ i (x : Ob), (h.set b (.old e (cs.take k) h.length) ++ [.cells true en cs])[i]? = some x → (i = h.length ∧ x = .cells true en cs) ∨ (i = b ∧ x = .old e (cs.take k) h.length) ∨ (i ≠ b ∧ i < h.length ∧ h[i]? = some x) := fun i x hx => by
    rcases get_snoc hx with hx | ⟨a, c⟩
    · rcases get_set hx with ⟨a, c⟩ | ⟨a, c⟩
      · exact .inr (.inl ⟨a, c⟩)
      · exact .inr (.inr ⟨a, lt_of_some c, c⟩)
    · exact .inl ⟨a.trans hlen, c.symm⟩
  have hb' : b < h.length := lt_of_some hb
  have hrho : ∀ i (q : Pl), i < h.length → (ρ ++ [p])[i]? = some q → ρ[i]? = some q := fun i q hi hq => by
    rcases get_snoc hq with hq | ⟨a, _⟩
    · exact hq
    · rw [R.len] at a; omega
  have hlast : ∀ (q : Pl), (ρ ++ [p])[h.length]? = some q → q = p := fun q hq => by
    rw [get_len R.len.symm] at hq; cases hq; rfl
  have f : ∀ i (q : Pl) (ow : Bool) e1 ci, (ρ ++ [p])[i]? = some q → (h.set b (.old e (cs.take k) h.length) ++ [.cells true en cs])[i]? = some (Ob.cells ow e1 ci) →
      ∃ j e2, ρ[j]? = some q ∧ h[j]? = some (Ob.cells ow e2 ci) ∧ (j = if i = h.length then b else i) ∧ (i ≠ h.length → i ≠ b) ∧ eS e2 = eS e1 ∧ (1024 ≤ e1 → e2 = e1) := fun i q ow e1 ci hi hx => by
    rcases hset i _ hx with ⟨rfl, c⟩ | ⟨_, c⟩ | ⟨hne, hl, c⟩
    · cases c; have := hlast q hi; subst this
      refine ⟨b, e, hp, hb, by simp, fun hx => absurd rfl hx, ?_, ?_⟩
      · rcases hen with rfl | rfl
        · rfl
        · unfold eS; omega
      · intro hge
        rcases hen with rfl | rfl
        · rfl
        · unfold eS at hge; omega
    · cases c
    · exact ⟨i, e1, hrho i q hl hi, c, by rw [if_neg (by omega)], fun _ => hne, rfl, fun _ => rfl⟩
  refine ⟨by simp [R.len], R.n0le, ?_, ?_, ?_, ?_, ?_, ?_, ?_, ?_⟩
  · intro i q hi
    rcases get_snoc hi with hi | ⟨_, rfl⟩
    · exact R.lt i q hi
    · exact R.lt b p hp
  · intro i q ow e1 ci hi hbi
    obtain ⟨j, e2, h1, h2, _, _, h5, _⟩ := f i q ow e1 ci hi hbi
    exact ⟨(R.cells j q ow e2 ci h1 h2).1.trans h5, (R.cells j q ow e2 ci h1 h2).2.mono (Le.app _ _) fun _ _ => rfl⟩
  · intro i q ow e1 ci hi hbi he
    obtain ⟨j, e2, h1, h2, _, _, _, h6⟩ := f i q ow e1 ci hi hbi
    have := h6 he; subst this
    exact R.ty j q ow e2 ci h1 h2 he
  · intro i q e1 ci hi hbi
    obtain ⟨j, e2, h1, h2, _, _, _, _⟩ := f i q true e1 ci hi hbi
    exact R.own j q e2 ci h1 h2
  · intro i j q r e1 e2 ci cj ow hij hi hj hbi hbj
    obtain ⟨i', x1, a1, a2, a3, a4, _, _⟩ := f i q true e1 ci hi hbi
    obtain ⟨j', x2, b1, b2, b3, b4, _, _⟩ := f j r ow e2 cj hj hbj
    refine R.inj i' j' q r x1 x2 ci cj ow ?_ a1 b1 a2 b2
    rw [a3, b3]
    split <;> split <;> omega
  · intro i q e1 ci s1 hi hbi
    rcases hset i _ hbi with ⟨_, c⟩ | ⟨rfl, c⟩ | ⟨hne, hl, c⟩
    · cases c
    · cases c
      have := hrho i q hb' hi
      rw [hp] at this; cases this
      exact ⟨(R.cells _ _ _ _ _ hp hb).1, .inr (get_len R.len.symm)⟩
    · obtain ⟨a0, a⟩ := R.old i q e1 ci s1 (hrho i q hl hi) c
      refine ⟨a0, ?_⟩
      rcases a with ⟨a, a2⟩ | a
      · refine .inl ⟨a.mono (Le.app _ _) fun _ _ => rfl, fun j r e2 cj hj hbj => ?_⟩
        obtain ⟨j', x2, b1, b2, _, _, _, _⟩ := f j r true e2 cj hj hbj
        exact a2 j' r x2 cj b1 b2
      · exact .inr (Le.app _ _ _ _ a)
  · intro i q ob hi hbi ho
    rcases hset i _ hbi with ⟨_, c⟩ | ⟨_, c⟩ | ⟨hne, hl, c⟩
    · subst c; cases ho
    · subst c; cases ho
    · obtain ⟨a1, o2, a2, a3⟩ := R.obj i q ob (hrho i q hl hi) c ho
      exact ⟨a1, o2, a2, a3.mono (Le.app _ _)⟩
  · intro i j q t oi oj hij hi hj hbi hbj ho1 ho2
    rcases hset i _ hbi with ⟨_, c⟩ | ⟨_, c⟩ | ⟨hne, hl, c⟩
    · subst c; cases ho1
    · subst c; cases ho1
    rcases hset j _ hbj with ⟨_, d⟩ | ⟨_, d⟩ | ⟨hne', hl', d⟩
    · subst d; cases ho2
    · subst d; cases ho2
    exact R.objInj i j q t oi oj hij (hrho i q hl hi) (hrho j t hl' hj) c d ho1 ho2

/-- its cells are others now -/
theorem Rel.renew {w' : World} (R : Rel n0 ρ h w) {b : Nat} {p : Pl} {e : Nat} {cs cs2 : List Value} (hp : ρ[b]? = some p) (hb : h[b]? = some (.cells true e cs))
    (hsz : w'.heap.size = w.heap.size) (hold : ∀ k, k ≠ p.b → w'.heap[k]? = w.heap[k]?) (hc : CellsAt ρ w' p cs2) (hroom : p.s + cs2.length ≤ p.n)
    (hall : ∀ j, j < p.n → (∃ u, w'.cell? ⟨p.b, j, none⟩ = some u) ∧ w'.frozen? ⟨p.b, j, none⟩ = false) (hpos : 0 < p.n)
    (hty : ∀ (c : Array Value) (T : TypeId) (fr : Nat × Nat), w.heap[p.b]? = some (.cells c T fr) → ∃ c', w'.heap[p.b]? = some (.cells c' T fr) ∧ c'.size = c.size) (hne0 : eS e ≠ 0) : Rel n0 ρ (h.set b (.cells true e cs2)) w' := by
  have hset : ∀ i (x : Ob), (h.set b (.cells true e cs2))[i]? = some x → (i = b ∧ x = .cells true e cs2) ∨ (i ≠ b ∧ h[i]? = some x) := fun i x hx => get_set hx
  have hcell : ∀ (q : Pl) j, q.b ≠ p.b → w'.cell? ⟨q.b, j, none⟩ = w.cell? ⟨q.b, j, none⟩ := fun q j hq => World.cell?_of_block (w := w) (hold q.b hq)
  have hfroz : ∀ (q : Pl) j, q.b ≠ p.b → w'.frozen? ⟨q.b, j, none⟩ = w.frozen? ⟨q.b, j, none⟩ := fun q j hq => World.frozen?_of_block (w := w) (hold q.b hq)
  have f : ∀ i (ow : Bool) e1 ci, (h.set b (.cells true e cs2))[i]? = some (Ob.cells ow e1 ci) → ∃ c2, h[i]? = some (Ob.cells ow e1 c2) := fun i ow e1 ci hx => by
    rcases hset i _ hx with ⟨e0, hy⟩ | ⟨_, hy⟩
    · cases hy; subst e0; exact ⟨cs, hb⟩
    · exact ⟨ci, hy⟩
  refine ⟨by simp [R.len], by rw [hsz]; exact R.n0le, fun i q hi => by rw [hsz]; exact R.lt i q hi, ?_, ?_, ?_, ?_, ?_, ?_, ?_⟩
  · intro i q ow e1 ci hi hbi
    rcases hset i _ hbi with ⟨rfl, hx⟩ | ⟨hne, hbi⟩
    · cases hx; rw [hp] at hi; cases hi; exact ⟨(R.cells _ _ _ _ _ hp hb).1, hc⟩
    · obtain ⟨a, k⟩ := R.cells i q ow e1 ci hi hbi
      exact ⟨a, k.mono (Le.refl _) fun j _ => hcell q _ fun e2 => R.inj b i p q e e1 cs ci ow (fun k => hne k.symm) hp hi hb hbi e2.symm⟩
  · intro i q ow e1 ci hi hbi he
    rcases hset i _ hbi with ⟨rfl, hx⟩ | ⟨hne, hbi⟩
    · cases hx; rw [hp] at hi; cases hi
      obtain ⟨a, a', c1, f1, k, k2⟩ := R.ty _ _ _ _ _ hp hb he
      obtain ⟨c2, k3, k4⟩ := hty c1 _ f1 k
      exact ⟨a, fun h0 => absurd h0 hne0, c2, f1, k3, k4.trans k2⟩
    · obtain ⟨a, a', c1, f1, k, k2⟩ := R.ty i q ow e1 ci hi hbi he
      exact ⟨a, a', c1, f1, by rw [hold q.b (fun e2 => R.inj b i p q e e1 cs ci ow (fun k => hne k.symm) hp hi hb hbi e2.symm)]; exact k, k2⟩
  · intro i q e1 ci hi hbi
    rcases hset i _ hbi with ⟨rfl, hx⟩ | ⟨hne, hbi⟩
    · cases hx; rw [hp] at hi; cases hi; exact ⟨(R.own _ _ _ _ hp hb).1, hroom, hall⟩
    · obtain ⟨a1, a2, a3⟩ := R.own i q e1 ci hi hbi
      have hq : q.b ≠ p.b := fun e2 => R.inj b i p q e e1 cs ci true (fun k => hne k.symm) hp hi hb hbi e2.symm
      exact ⟨a1, a2, fun j hj => by rw [hcell q j hq, hfroz q j hq]; exact a3 j hj⟩
  · intro i j q r e1 e2 ci cj ow hij hi hj hbi hbj
    obtain ⟨c1, h1⟩ := f i true e1 ci hbi
    obtain ⟨c2, h2⟩ := f j ow e2 cj hbj
    exact R.inj i j q r e1 e2 c1 c2 ow hij hi hj h1 h2
  · intro i q e1 ci s1 hi hbi
    rcases hset i _ hbi with ⟨_, hx⟩ | ⟨hne, hbi⟩
    · cases hx
    · obtain ⟨a0, a⟩ := R.old i q e1 ci s1 hi hbi
      refine ⟨a0, a.imp (fun a => ⟨a.1.mono (Le.refl _) fun j _ => hcell q _ fun e2 => a.2 b p e cs hp hb e2.symm, fun j r e2 cj hj hbj => ?_⟩) id⟩
      obtain ⟨c2, h2⟩ := f j true e2 cj hbj
      exact a.2 j r e2 c2 hj h2
  · intro i q ob hi hbi ho
    rcases hset i _ hbi with ⟨_, hx⟩ | ⟨_, hbi⟩
    · subst hx; cases ho
    · obtain ⟨a, o2, k, k2⟩ := R.obj i q ob hi hbi ho
      refine ⟨a, o2, ?_, k2⟩
      rw [hold]
      · exact k
      · intro e2
        obtain ⟨⟨u, hu⟩, _⟩ := (R.own _ _ _ _ hp hb).2.2 0 hpos
        rw [cell_notCells (o := o2) (by show w.heap[p.b]? = _; rw [← e2]; exact k) k2.notCells] at hu
        cases hu
  · intro i j q t oi oj hij hi hj hbi hbj ho1 ho2
    rcases hset i _ hbi with ⟨_, hx⟩ | ⟨_, hbi⟩
    · subst hx; cases ho1
    rcases hset j _ hbj with ⟨_, hx⟩ | ⟨_, hbj⟩
    · subst hx; cases ho2
    exact R.objInj i j q t oi oj hij hi hj hbi hbj ho1 ho2

/-! append, copy -/
theorem srcCells_run (R : Rel n0 ρ h w) {s n : Nat} {x x' : Value} {new : List Value} (e : srcCells s x h = some (n, new)) (k : VR ρ x x') :
    ∃ new', VRs ρ new new' ∧ new.length = n * s ∧ (Builtin.lenOf x').run P w = .ok n w ∧ ∀ m, m ≤ n → (Builtin.firstCells s m x').run P w = .ok (new'.take (m * s)).toArray w := by
  unfold srcCells at e
  split at e
  · split at e
    · rename_i c h0
      cases e
      rw [(VR.lit_iff rfl).1 k]
      exact ⟨[], trivial, by simp, by simp [Builtin.lenOf, h0], fun m hm => by simp [Builtin.firstCells]⟩
    · cases e
  · rename_i ad n1 c
    split at e
    · rename_i h0
      cases e
      subst h0
      have : ∃ a' c', x' = .slice (some a') 0 c' := by cases k with
        | lit h => simp [isLit] at h
        | slice _ _ _ => exact ⟨_, _, rfl⟩
        | vague => exact ⟨_, _, rfl⟩
      obtain ⟨a', c', rfl⟩ := this
      refine ⟨[], trivial, by simp, by simp [Builtin.lenOf], fun m hm => ?_⟩
      have : m = 0 := by omega
      subst this
      simp [Builtin.firstCells, loadCells, loadCellsFrom]
    · split at e
      · cases e
      · rename_i hsp
        simp only [Option.map_eq_some_iff] at e
        obtain ⟨l, hl, e⟩ := e
        cases e
        cases k with
        | lit h => simp [isLit] at h
        | vague => simp at hsp
        | slice hp hc hroom =>
          rename_i c' pl
          obtain ⟨l', k1, k2, k3⟩ := rdN_sound R hp _ _ _ hl
          refine ⟨l', k1, by rw [k1.length, k2], by simp [Builtin.lenOf], fun m hm => ?_⟩
          have hload := run_loadCells_list (P := P) w ⟨pl.b, pl.s + _, none⟩ (l'.take (m * s)) (fun j u hu => by
            rw [add_none]
            rw [List.getElem?_take] at hu
            split at hu
            · exact k3 j u hu
            · cases hu)
          have hm' : m * s ≤ l'.length := by rw [k2]; exact Nat.mul_le_mul_right _ hm
          rw [List.length_take, Nat.min_eq_left hm'] at hload
          simpa [Builtin.firstCells] using hload
  · rename_i s'
    split at e
    · rename_i h1
      cases e
      subst h1
      rw [(VR.lit_iff rfl).1 k]
      refine ⟨bytesOfStr s', VRs.refl_lit fun v hv => ?_, by rw [bytesOfStr_length]; omega, by simp [Builtin.lenOf], fun m hm => ?_⟩
      · obtain ⟨j, hj⟩ := List.mem_iff_getElem?.1 hv; exact bytesOfStr_get _ _ _ hj
      · simp only [Builtin.firstCells, Sem.run_pure]
        obtain ⟨⟨l⟩⟩ := s'
        have := ByteArray.extract_mk l 0 m
        have e2 : (ByteArray.mk ⟨l⟩).extract 0 m = ByteArray.mk (l.take m).toArray := by simpa using this
        rw [e2]
        simp [bytesOfStr, List.map_take]
    · cases e
  · cases e

theorem setCs_heap (b o : Nat) (vs : List Value) (w : World) : (setCs w b o vs).heap.size = w.heap.size ∧ ∀ k, k ≠ b → (setCs w b o vs).heap[k]? = w.heap[k]? :=
  ⟨setCs_size b vs o w, fun k hk => setCs_other b vs o w k hk⟩

theorem append_in (P : Program) {t t1 el ty : TypeId} {ts : Array TypeId} (h0 : ts[0]? = some t) (h1 : ts[1]? = some t1) {d : TypeDesc} (hd : P.underlying t1 = some d) (hni : ∀ k, d ≠ .int k)
    (hel : P.underlying t = some (.slice el)) {s : Nat} (hs : szOf P el = some s) {base : Option Addr} {len cap' n : Nat} {x' : Value} {new' : List Value} {w wr' : World} (hle : len + n ≤ cap')
    (k3 : (Builtin.lenOf x').run P w = .ok n w) (k4 : (Builtin.firstCells s n x').run P w = .ok new'.toArray w)
    (hst : ∀ a, base = some a → (storeCells (a.add (len * s)) new').run P w = .ok () wr') (hno : base = none → wr' = w) :
    (Builtin.append_ ts ty #[.slice base len cap', x']).run P w = .ok (.slice base (len + n) cap') wr' := by
  have hm : (match d with | .int _ => true | _ => false) = false := by cases d <;> first | rfl | exact absurd rfl (hni _)
  unfold Builtin.append_
  rw [h0, h1]
  simp only [Sem.run_bind, run_underlying hel, Result.andThen_ok, run_szOf hs, run_underlying hd, Sem.run_pure]
  simp only [List.getElem?_toArray, List.getElem?_cons_zero, List.getElem?_cons_succ, Sem.run_bind, run_underlying hel, Result.andThen_ok, run_szOf hs, run_underlying hd, Sem.run_pure, hm, Bool.false_eq_true, if_false, k3, hle, if_true, Bool.not_false, k4]
  cases base with
  | none => rw [hno rfl]; rfl
  | some a => simp only [Sem.run_bind, hst a rfl, Result.andThen_ok, Sem.run_pure]
theorem growBy_le {need : Nat} : ∀ (r c : Nat), c ≤ need + (need + 768) / 4 → Builtin.growBy need r c ≤ need + (need + 768) / 4
  | 0, c, h => h
  | r + 1, c, h => by
    simp only [Builtin.growBy]
    split
    · exact h
    · exact growBy_le r _ (by omega)
theorem next_le {need old : Nat} (h : old < need) : 4 * Builtin.nextslicecap need old ≤ 5 * (need + 1024) := by
  unfold Builtin.nextslicecap
  split
  · omega
  · split
    · omega
    · have := growBy_le (need := need) 4 old (by omega)
      omega
theorem grow_fits {need old b : Nat} (h : old < need) (hb : (need + 1024) * b ≤ 3 * 2 ^ 46) : Builtin.nextslicecap need old * b ≤ 2 ^ 48 := by
  have h1 := Nat.mul_le_mul_right b (next_le h)
  rw [Nat.mul_assoc, Nat.mul_assoc] at h1
  omega
theorem append_out (P : Program) {t t1 el ty : TypeId} {ts : Array TypeId} (h0 : ts[0]? = some t) (h1 : ts[1]? = some t1) {d : TypeDesc} (hd : P.underlying t1 = some d) (hni : ∀ k, d ≠ .int k)
    (hel : P.underlying t = some (.slice el)) {s : Nat} (hs : szOf P el = some s) {by' : Nat} (hby : bytesOf P el = some by') {z : Value} (hz : zeroOf P el = some z)
    {base : Option Addr} {len cap' n : Nat} {x' : Value} {old' new' : List Value} {w : World} (hgt : cap' < len + n) (h63 : len + n < 2 ^ 63) (hbytes : (len + n + 1024) * by' ≤ 3 * 2 ^ 46)
    (k3 : (Builtin.lenOf x').run P w = .ok n w) (ko : (Builtin.firstCells s len (.slice base len cap')).run P w.drew = .ok old'.toArray w.drew)
    (k4 : (Builtin.firstCells s n x').run P w.drew = .ok new'.toArray w.drew) :
    ∃ newCap, len + n ≤ newCap ∧ (Builtin.append_ ts ty #[.slice base len cap', x']).run P w = .ok (.slice (some ⟨w.heap.size, 0, none⟩) (len + n) newCap)
      (w.drew.alloc (.cells (old'.toArray ++ new'.toArray ++ Builtin.zeroCells z.cells (newCap - (len + n))) el)) := by
  have hm : (match d with | .int _ => true | _ => false) = false := by cases d <;> first | rfl | exact absurd rfl (hni _)
  obtain ⟨ti, hti, hb⟩ : ∃ ti, P.info? el = some ti ∧ ti.bytes = by' := by simpa [bytesOf] using hby
  have hti' : ∀ w, (typeInfo el).run P w = .ok ti w := fun w => by simp [typeInfo, hti]
  obtain ⟨newCap, hcap, hcut⟩ : ∃ c, (choose (.appendCap (len + n) cap' el)).run P w = .ok c w.drew ∧ len + n ≤ c := ⟨_, by rw [run_choose]; rfl, Nat.le_add_right _ _⟩
  refine ⟨newCap, hcut, ?_⟩
  have hfit : ¬ Builtin.nextslicecap (len + n) cap' * ti.bytes > 2 ^ 48 := by
    rw [hb]
    have := grow_fits hgt hbytes
    omega
  have hi64 : ¬ (((len + n : Nat) : Int) > IntKind.i64.max ∧ (False ∨ ti.bytes = 0)) := by
    intro hx
    have := hx.1
    have e1 : IntKind.i64.max = 2 ^ 63 - 1 := rfl
    rw [e1] at this
    omega
  unfold Builtin.append_
  rw [h0, h1]
  simp only [Sem.run_bind, run_underlying hel, Result.andThen_ok, run_szOf hs, run_underlying hd, Sem.run_pure]
  simp only [List.getElem?_toArray, List.getElem?_cons_zero, List.getElem?_cons_succ, Sem.run_bind, run_underlying hel, Result.andThen_ok, run_szOf hs, run_underlying hd, Sem.run_pure, hm, Bool.false_eq_true, if_false, k3]
  rw [if_neg (by omega)]
  simp only [Sem.run_bind, hti', Result.andThen_ok]
  rw [if_neg hi64]
  simp only [Sem.run_bind, hti', Result.andThen_ok]
  rw [if_neg hfit]
  simp only [Sem.run_bind, hcap, Result.andThen_ok, hti', run_askRoom, ko, Bool.not_false, if_true, k4, run_zeroOf hz, run_newRow, Sem.run_pure, World.size_drew]
theorem rdN_cells {b : Nat} {own : Bool} {e : Nat} {cs : List Value} (hb : h[b]? = some (.cells own e cs)) : ∀ (n o : Nat), o + n ≤ cs.length → rdN h b o n = some ((cs.drop o).take n)
  | 0, o, _ => by simp [rdN]
  | n + 1, o, hle => by
    have h1 : rd h b o = cs[o]? := by unfold rd; rw [hb]
    obtain ⟨x, hx⟩ := some_of_lt (l := cs) (i := o) (by omega)
    simp only [rdN, h1, hx, rdN_cells hb n (o + 1) (by omega)]
    rw [List.drop_eq_getElem_cons (by omega : o < cs.length)]
    have : cs[o] = x := by rw [List.getElem?_eq_getElem (by omega : o < cs.length)] at hx; cases hx; rfl
    rw [this]; simp
theorem zeroCells_size (z : Array Value) (n : Nat) : (Builtin.zeroCells z n).size = n * z.size := by simp [Builtin.zeroCells]

theorem VRs.oneC {ρ : Rho} : ∀ {l l' : List Value}, VRs ρ l l' → l.all oneC = true → ∀ v ∈ l', Ev.oneC v = true
  | [], [], _, _, v, hv => by cases hv
  | x :: xs, y :: ys, k, h, v, hv => by
    simp only [List.all_cons, Bool.and_eq_true] at h
    cases hv with
    | head => rw [k.1.oneC]; exact h.1
    | tail _ hv => exact k.2.oneC h.2 v hv
theorem aAppend_run (R : Rel n0 ρ h w) {t t1 : TypeId} {b b' x x' u : Value} (e : aAppend P t b x h = some (u, h')) (kb : VR ρ b b') (kx : VR ρ x x') {ts : Array TypeId} (h0 : ts[0]? = some t) (h1 : ts[1]? = some t1)
    {d : TypeDesc} (hd : P.underlying t1 = some d) (hni : ∀ k, d ≠ .int k) (ty : TypeId) :
    ∃ ρ' u' w', (Builtin.append_ ts ty #[b', x']).run P w = .ok u' w' ∧ Le ρ ρ' ∧ VR ρ' u u' ∧ Rel n0 ρ' h' w' ∧ Below n0 w w' := by
  have Rd : Rel n0 ρ h w.drew := R.world rfl
  unfold aAppend at e
  split at e
  · rename_i el p len cap hel
    have hel' := elOf_und hel
    split at e
    · rename_i s by' z hs hby hz
      simp only [Option.bind_eq_some_iff] at e
      obtain ⟨⟨n, new⟩, hsrc, e⟩ := e
      simp only at e
      obtain ⟨new', k1, k2, k3, k4⟩ := srcCells_run (P := P) R hsrc kx
      obtain ⟨new2, m1, m2, m3, m4⟩ := srcCells_run (P := P) Rd hsrc kx
      have hnl : new'.length = n * s := by rw [← k1.length, k2]
      have hnl2 : new2.length = n * s := by rw [← m1.length, m2]
      have k4' := k4 n (Nat.le_refl _)
      rw [← hnl, List.take_length] at k4'
      have m4' := m4 n (Nat.le_refl _)
      rw [← hnl2, List.take_length] at m4'
      split at e
      · rename_i hn0
        split at e
        · rename_i hlc
          cases e
          subst hn0
          have hnil : new' = [] := by simpa using hnl
          subst hnil
          have key : ∀ (base : Option Addr) (cap' : Nat), len ≤ cap' → (Builtin.append_ ts ty #[.slice base len cap', x']).run P w = .ok (.slice base len cap') w := fun base cap' hle => by
            have := append_in P h0 h1 hd hni hel' hs (base := base) (ty := ty) (wr' := w) (by simpa using hle) k3 k4' (fun a _ => rfl) (fun _ => rfl)
            simpa using this
          cases kb with
          | lit hl => exact ⟨ρ, _, w, key p cap hlc, Le.refl _, .lit hl, R, Below.refl _ _⟩
          | slice hp hc hroom => exact ⟨ρ, _, w, key _ _ (by omega), Le.refl _, .slice hp hc hroom, R, Below.refl _ _⟩
          | vague => exact ⟨ρ, _, w, key _ _ (by omega), Le.refl _, .vague, R, Below.refl _ _⟩
        · cases e
      · rename_i hn0
        split at e
        · rename_i hc
          obtain ⟨c0, c1, c2, c3, c4, c5⟩ := hc
          split at e
          · split at e
            · rename_i hl0
              obtain ⟨rfl, rfl⟩ := hl0
              cases e
              rw [(VR.lit_iff rfl).1 kb]
              obtain ⟨newCap, q1, q2⟩ := append_out P h0 h1 hd hni hel' hs hby hz (base := none) (len := 0) (cap' := 0) (n := n) (x' := x') (old' := []) (new' := new2) (w := w) (ty := ty) (by omega) c2 c1 k3 (by simp [Builtin.firstCells]) m4'
              obtain ⟨ρ', g1, g2, g3, g4⟩ := new_block (fr := (0, 0)) R (Pushed.drewAlloc w _) (enc s el) (cs := new) (c := (#[] ++ new2.toArray ++ Builtin.zeroCells z.cells (newCap - (0 + n)))) (fun j v ej => by
                obtain ⟨v', a, k⟩ := m1.get j v ej
                refine ⟨v', ?_, k⟩
                rw [Array.getElem?_append_left (by have := lt_of_some a; simpa using this)]
                simpa using a) (fun j _ => by simp) (fun _ => eT_enc.symm) (fun h0 => by rw [eS_enc c0] at h0; omega)
              rw [eS_enc c0] at g2
              refine ⟨ρ', _, _, q2, g1, ?_, g3, g4⟩
              rw [Nat.zero_add] at q1 ⊢
              refine .slice g2 q1 ?_
              simp only [Array.size_append, zeroCells_size, c4, List.size_toArray, hnl2]
              have : (newCap - n) * s = newCap * s - n * s := Nat.sub_mul _ _ _
              have h2 : n * s ≤ newCap * s := Nat.mul_le_mul_right _ q1
              simp; omega
            · cases e
          · rename_i ad
            split at e
            · cases e
            · rename_i hsp
              cases kb with
              | lit hl => simp [isLit] at hl
              | vague => simp at hsp
              | slice hp hcc hroom =>
                rename_i b0 o cap' pl
                simp only at e
                split at e
                · rename_i hle
                  split at e
                  rotate_left
                  · cases e
                  rename_i heo
                  have hpe0 := eOf_eq R hp heo
                  simp only [Option.map_eq_some_iff] at e
                  obtain ⟨h2, hw, e⟩ := e
                  cases e
                  obtain ⟨a1, a2, a3, R', B'⟩ := wrx_sound R hp hw k1 (by
                    rw [hpe0] at hroom
                    have hsum : (len + n) * s = len * s + n * s := Nat.add_mul _ _ _
                    have : (len + n) * s ≤ cap' * s := Nat.mul_le_mul_right _ (by omega)
                    omega)
                  refine ⟨ρ, _, _, append_in P h0 h1 hd hni hel' hs (base := some ⟨pl.b, pl.s + o, none⟩) (ty := ty) (by omega) k3 k4' (fun a ha => ?_) (fun hx => by cases hx), Le.refl _, .slice hp hcc hroom, R', B'⟩
                  cases ha
                  rw [add_none]
                  have := run_storeCells P pl.b (pl.s + o + len * s) new' 0 w a1 (by intro j hj; rw [show pl.s + o + len * s + 0 + j = pl.s + (o + len * s) + j from by omega]; exact a2 j hj) (by intro j hj; rw [show pl.s + o + len * s + 0 + j = pl.s + (o + len * s) + j from by omega]; exact a3 j hj)
                  rw [this]
                  rw [show pl.s + o + len * s + 0 = pl.s + (o + len * s) from by omega]
                · rename_i hgt
                  split at e
                  · rename_i ho
                    split at e
                    · rename_i ee cs hb
                      split at e
                      · rename_i hcs
                        obtain ⟨hcs, hes, hone⟩ := hcs
                        subst hes
                        cases e
                        subst ho
                        obtain ⟨hpe, hcat⟩ := R.cells _ _ _ _ _ hp hb
                        obtain ⟨ho1, ho2, ho3⟩ := R.own _ _ _ _ hp hb
                        have hsum : (len + n) * eS ee = len * eS ee + n * eS ee := Nat.add_mul _ _ _
                        have hnpos : 0 < n * eS ee := Nat.mul_pos (by omega) c3
                        by_cases hin : len + n ≤ cap'
                        · -- it grows in place
                          have hmul : (len + n) * eS ee ≤ cap' * pl.e := by rw [hpe]; exact Nat.mul_le_mul_right _ hin
                          have a1 : ∀ v ∈ new', oneC v = true := k1.oneC hone
                          have a2 : ∀ j, j < new'.length → ∃ u, w.cell? ⟨pl.b, pl.s + len * eS ee + j, none⟩ = some u := fun j hj => (ho3 _ (by omega)).1
                          have a3 : ∀ j, j < new'.length → w.frozen? ⟨pl.b, pl.s + len * eS ee + j, none⟩ = false := fun j hj => (ho3 _ (by omega)).2
                          have hread := setCs_cell pl.b new' (pl.s + len * eS ee) w a2
                          have Rn : Rel n0 ρ (h.set b0 (.cells true ee (cs.take (len * eS ee) ++ new))) (setCs w pl.b (pl.s + len * eS ee) new') := by
                            refine R.renew hp hb (setCs_size _ _ _ _) (fun k hk => setCs_other _ _ _ _ _ hk) (fun j v hj => ?_) ?_ (fun j hj => ?_) (by omega) (fun c T fr hc => setCs_ty _ _ _ _ _ hc) (by omega)
                            · rw [hread]
                              rcases Nat.lt_or_ge j (len * eS ee) with hjl | hjl
                              · rw [List.getElem?_append_left (by rw [List.length_take]; omega), List.getElem?_take, if_pos hjl] at hj
                                rw [if_neg (by omega)]
                                exact hcat j v hj
                              · rw [List.getElem?_append_right (by rw [List.length_take]; omega)] at hj
                                have hlt : (cs.take (len * eS ee)).length = len * eS ee := by rw [List.length_take]; omega
                                rw [hlt] at hj
                                obtain ⟨v', a, k⟩ := k1.get _ _ hj
                                refine ⟨v', ?_, k⟩
                                have := lt_of_some a
                                rw [if_pos ⟨rfl, by omega, by omega⟩, ← a]; congr 1; omega
                            · rw [List.length_append, List.length_take, k2]; omega
                            · rw [setCs_frozen]
                              refine ⟨?_, (ho3 j hj).2⟩
                              rw [hread]; split
                              · exact ⟨_, List.getElem?_eq_getElem (by omega)⟩
                              · exact (ho3 j hj).1
                          have hb2 : (h.set b0 (.cells true ee (cs.take (len * eS ee) ++ new)))[b0]? = some (.cells true ee (cs.take (len * eS ee) ++ new)) := by
                            rw [List.getElem?_set, if_pos rfl, if_pos (lt_of_some hb)]
                          have Rm := Rn.move hp hb2 (len * eS ee) (en := if ee = enc (eS ee) el then ee else eS ee) (by split; exact .inl rfl; exact .inr rfl)
                          have htk : (cs.take (len * eS ee) ++ new).take (len * eS ee) = cs.take (len * eS ee) := by
                            rw [List.take_append_of_le_length (by rw [List.length_take]; omega), List.take_take, Nat.min_self]
                          rw [htk, List.length_set, List.set_set] at Rm
                          refine ⟨_, _, _, append_in P h0 h1 hd hni hel' hs (base := some ⟨pl.b, pl.s + 0, none⟩) (ty := ty) hin k3 k4' (fun a ha => ?_) (fun hx => by cases hx), Le.app _ _, ?_, Rm, setCs_below _ _ _ ho1⟩
                          · cases ha
                            rw [add_none]
                            have := run_storeCells P pl.b (pl.s + 0 + len * eS ee) new' 0 w a1 (by intro j hj; rw [show pl.s + 0 + len * eS ee + 0 + j = pl.s + len * eS ee + j from by omega]; exact a2 j hj) (by intro j hj; rw [show pl.s + 0 + len * eS ee + 0 + j = pl.s + len * eS ee + j from by omega]; exact a3 j hj)
                            rw [this]
                            rw [show pl.s + 0 + len * eS ee + 0 = pl.s + len * eS ee from by omega]
                          · exact .slice (get_len R.len.symm) (by omega) hroom
                        · -- it moves
                          obtain ⟨old2, d1, d2, d3⟩ : ∃ old2, VRs ρ (cs.take (len * eS ee)) old2 ∧ old2.length = len * eS ee ∧ (Builtin.firstCells (eS ee) len (.slice (some ⟨pl.b, pl.s + 0, none⟩) len cap')).run P w.drew = .ok old2.toArray w.drew := by
                            have hr := rdN_cells hb (len * eS ee) 0 (by omega)
                            obtain ⟨l', r1, r2, r3⟩ := rdN_sound Rd hp _ _ _ hr
                            refine ⟨l', by simpa using r1, r2, ?_⟩
                            have hload := run_loadCells_list (P := P) w.drew ⟨pl.b, pl.s + 0, none⟩ l' (fun j u hu => by rw [add_none]; exact r3 j u hu)
                            rw [r2] at hload
                            exact hload
                          obtain ⟨newCap, q1, q2⟩ := append_out P h0 h1 hd hni hel' hs hby hz (base := some ⟨pl.b, pl.s + 0, none⟩) (len := len) (cap' := cap') (n := n) (x' := x') (old' := old2) (new' := new2) (w := w) (ty := ty) (by omega) c2 c1 k3 d3 m4'
                          have Rr := R.retire hp hb (len * eS ee) h.length
                          obtain ⟨ρ', g1, g2, g3, g4⟩ := new_block (fr := (0, 0)) (el := el) Rr (Pushed.drewAlloc w _) (if ee = enc (eS ee) el then ee else eS ee) (cs := cs.take (len * eS ee) ++ new) (c := (old2.toArray ++ new2.toArray ++ Builtin.zeroCells z.cells (newCap - (len + n)))) (fun j v ej => by
                            obtain ⟨v', a, k⟩ := (d1.append m1).get j v ej
                            refine ⟨v', ?_, k⟩
                            rw [Array.getElem?_append_left (by have := lt_of_some a; simpa using this)]
                            simpa using a) (fun j _ => by simp) (fun hge => by
                              split at hge
                              · rename_i he; rw [if_pos he, he]; exact eT_enc.symm
                              · unfold eS at hge; omega) (fun h0 => by
                              split at h0 <;> unfold eS at h0 c3 <;> omega)
                          rw [List.length_set] at g2
                          have hee : eS (if ee = enc (eS ee) el then ee else eS ee) = eS ee := by
                            split
                            · rfl
                            · unfold eS; omega
                          rw [hee] at g2
                          refine ⟨ρ', _, _, q2, g1, .slice g2 q1 ?_, g3, g4⟩
                          simp only [Array.size_append, zeroCells_size, c4, List.size_toArray, hnl2, d2]
                          have h3 : (newCap - (len + n)) * eS ee = newCap * eS ee - (len + n) * eS ee := Nat.sub_mul _ _ _
                          have h2 : (len + n) * eS ee ≤ newCap * eS ee := Nat.mul_le_mul_right _ q1
                          omega
                      · cases e
                    · cases e
                  · cases e
        · cases e
    · cases e
  · cases e
end Go.Ev
