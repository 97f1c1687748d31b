/- A part of the proof that what the evaluator of YtjdcdabbbmhffaaEvCore answers, the call answers in the model. No condition. -/
import Derived.Test.YtjdcdabbbmhffaaEvOp3
set_option linter.unusedVariables false
set_option linter.unusedSimpArgs false
namespace Go.Ev
open Go.RowKit (Below)
variable {P : Program} {n0 : Nat} {ρ : Rho} {h h' : H} {w : World}

theorem eS_enc {s t : Nat} (h : s < 1024) : eS (enc s t) = s := by unfold eS enc; omega
theorem eT_enc {s t : Nat} : enc s t / 1024 - 1 = t := by unfold enc; omega
theorem enc_ge {s t : Nat} : 1024 ≤ enc s t := by unfold enc; omega
theorem get_len {α : Type} {l : List α} {x : α} {n : Nat} (e : n = l.length) : (l ++ [x])[n]? = some x := by subst e; simp
theorem run_newRow (e : TypeId) (c : Array Value) (w : World) : (newRow e c).run P w = .ok ⟨w.heap.size, 0, none⟩ (w.alloc (.cells c e)) := by simp [newRow]

/-- a new block that the call owns, as an answer -/
theorem new_block (R : Rel n0 ρ h w) {w' : World} {c : Array Value} {el : TypeId} {fr : Nat × Nat} (Q : Pushed w w' (.cells c el fr)) (e : Nat) {cs : List Value}
    (hc : ∀ (j : Nat) (v : Value), cs[j]? = some v → ∃ v', c[j]? = some v' ∧ VR ρ v v') (hfr : ∀ j, j < c.size → ¬ (fr.1 ≤ j ∧ j < fr.2)) (hty : 1024 ≤ e → el = e / 1024 - 1) (hty2 : eS e = 0 → cs.length = c.size) :
    ∃ ρ', Le ρ ρ' ∧ ρ'[h.length]? = some ⟨w.heap.size, 0, c.size, eS e⟩ ∧ Rel n0 ρ' (h ++ [.cells true e cs]) w' ∧ Below n0 w w' :=
  ⟨ρ ++ [⟨w.heap.size, 0, c.size, eS e⟩], Le.app _ _, get_len R.len.symm, R.push Q hc hfr hty hty2, Q.below R.n0le⟩

theorem aNew_run (R : Rel n0 ρ h w) {v v' : Value} (k : VR ρ v v') (t : TypeId) : ∃ ρ' u' w', (newVar t v').run P w = .ok u' w' ∧ Le ρ ρ' ∧ VR ρ' (aNew t v h).1 (.pointer (some u')) ∧ Rel n0 ρ' (aNew t v h).2 w' ∧ Below n0 w w' := by
  obtain ⟨ρ', h1, h2, h3, h4⟩ := new_block R (Pushed.alloc w (.cells v'.cells t (0, 0))) (enc 0 t) (cs := v.cells.toList) (fun j x e => by
    obtain ⟨x', a, b⟩ := k.cells.get j x e
    exact ⟨x', by simpa using a, b⟩) (fun j _ => by simp) (fun _ => eT_enc.symm) (fun _ => by simpa using k.cells.length)
  exact ⟨ρ', _, _, run_newRow t v'.cells w, h1, .ptr h2, h3, h4⟩

theorem repl_get (l : List Value) : ∀ (n j : Nat) (v : Value), (repl n l)[j]? = some v → j < n * l.length ∧ l[j % l.length]? = some v
  | 0, j, v, e => by simp [repl] at e
  | n + 1, j, v, e => by
    unfold repl at e
    rcases Nat.lt_or_ge j l.length with hj | hj
    · rw [List.getElem?_append_left hj] at e
      refine ⟨?_, by rw [Nat.mod_eq_of_lt hj]; exact e⟩
      rw [Nat.succ_mul]; omega
    · rw [List.getElem?_append_right hj] at e
      obtain ⟨a, b⟩ := repl_get l n _ v e
      refine ⟨by rw [Nat.succ_mul]; omega, ?_⟩
      rw [Nat.mod_eq_sub_mod hj]; exact b
theorem repl_length (l : List Value) : ∀ n, (repl n l).length = n * l.length
  | 0 => by simp [repl]
  | n + 1 => by simp [repl, repl_length l n, Nat.succ_mul]; omega
/-- the zero cells of a new row -/
theorem zeros_rel (z : Value) (hl : z.cells.toList.all isLit = true) (n s : Nat) (hs : z.cells.size = s) :
    VRs ρ (repl n z.cells.toList) (((Array.range (n * s)).map (fun i => (if n * s = 0 then (#[] : Array Value) else z.cells)[i % (if n * s = 0 then (#[] : Array Value) else z.cells).size]!)).toList) := by
  refine VRs.of_get (by simp [repl_length, hs]) fun j v v' a b => ?_
  obtain ⟨h1, h2⟩ := repl_get _ _ _ _ a
  have hlen : z.cells.toList.length = s := by simpa using hs
  rw [hlen] at h1 h2
  have hne : ¬ n * s = 0 := by omega
  simp only [hne, if_false] at b
  have : ((Array.range (n * s)).map (fun i => z.cells[i % z.cells.size]!))[j]? = some v' := by rw [Array.getElem?_toList] at b; exact b
  rw [Array.getElem?_map, Array.getElem?_range] at this
  rw [if_pos h1] at this
  simp only [Option.map_some, Option.some.injEq] at this
  rw [hs] at this
  have h3 : z.cells[j % s]? = some v := by simpa using h2
  rw [getElem!_def, h3] at this
  simp only at this; subst this
  exact .lit (List.all_eq_true.1 hl v (List.mem_iff_getElem?.2 ⟨_, h2⟩))

theorem fillAt_length {place : Nat → Option (Nat × Nat)} : ∀ (ps : List (Nat × Value)) (cells r : List Value), fillAt place cells ps = some r → r.length = cells.length
  | [], cells, r, e => by simp [fillAt] at e; rw [e]
  | (i, v) :: rest, cells, r, e => by
    simp only [fillAt] at e
    split at e
    · cases e
    · rename_i off size hpl
      split at e
      · rename_i hc
        obtain ⟨hsz, hle⟩ := (by simpa using hc : v.cells.size = size ∧ off + size ≤ cells.length)
        rw [fillAt_length rest _ r e, over_length _ _ _ (by simp; omega)]
      · cases e
theorem aBuildSlice_run (R : Rel n0 ρ h w) {t : TypeId} {len : Nat} {ps ps' : List (Nat × Value)} {u : Value} (e : aBuildSlice P t len ps h = some (u, h')) (k : VRp ρ ps ps') :
    ∃ ρ' u' w', (Instr.buildSlice t len ps'.toArray).run P w = .ok u' w' ∧ Le ρ ρ' ∧ VR ρ' u u' ∧ Rel n0 ρ' h' w' ∧ Below n0 w w' := by
  unfold aBuildSlice at e
  split at e
  · rename_i el hel
    split at e
    · rename_i s z hs hz
      split at e
      · rename_i hc
        obtain ⟨hc0, hc1, hc2, hc3⟩ := hc
        simp only [Option.map_eq_some_iff] at e
        obtain ⟨r, hr, e⟩ := e
        cases e
        have hz0 := zeros_rel (ρ := ρ) z hc3 len s hc2
        obtain ⟨r', h1, h2⟩ := fill_run (ρ := ρ) ps ps' _ _ r hr k hz0
        obtain ⟨ρ', g1, g2, g3, g4⟩ := new_block R (Pushed.alloc w (.cells r' el (0, 0))) (enc s el) (cs := r) (fun j x ex => by
          obtain ⟨x', a, b⟩ := h2.get j x ex
          exact ⟨x', by simpa using a, b⟩) (fun j _ => by simp) (fun _ => eT_enc.symm) (fun _ => by simpa using h2.length)
        rw [eS_enc hc0] at g2
        refine ⟨ρ', .slice (some ⟨w.heap.size, 0, none⟩) len len, _, ?_, g1, .slice g2 (Nat.le_refl _) ?_, g3, g4⟩
        rotate_left
        · have := h2.length
          have e2 := fillAt_length _ _ _ hr
          rw [repl_length] at e2
          simp only [Array.length_toList] at this hc2 e2
          simp only; rw [← this, e2, hc2]; omega
        simp only [Instr.buildSlice, Sem.run_bind, run_underlying (elOf_und hel), Result.andThen_ok, run_szOf hs, Sem.run_ite]
        rw [if_neg (by omega)]
        by_cases hne : len * s = 0
        · simp only [hne, if_true] at h1 ⊢
          simp only [Sem.run_pure, Result.andThen_ok]
          rw [h1]
          simp [run_newRow]
        · simp only [hne, if_false] at h1 ⊢
          simp only [Sem.run_bind, run_zeroOf hz, Sem.run_pure, Result.andThen_ok]
          rw [h1]
          simp [run_newRow]
      · cases e
    · cases e
  · cases e
theorem wrap_i64 {n : Int} (h1 : 0 ≤ n) (h2 : n < 2 ^ 63) : IntKind.i64.wrap n = n := by
  simp only [IntKind.wrap, IntKind.bits, IntKind.signed]
  simp
  omega
theorem aMakeSlice_run (R : Rel n0 ρ h w) {t : TypeId} {l c l' c' u : Value} (e : aMakeSlice P t l c h = some (u, h')) (kl : VR ρ l l') (kc : VR ρ c c') :
    ∃ ρ' u' w', (Instr.makeSlice t l' c').run P w = .ok u' w' ∧ Le ρ ρ' ∧ VR ρ' u u' ∧ Rel n0 ρ' h' w' ∧ Below n0 w w' := by
  unfold aMakeSlice at e
  split at e
  · rename_i el kl1 l kc1 c hel
    rw [(VR.lit_iff rfl).1 kl, (VR.lit_iff rfl).1 kc]
    split at e
    · rename_i s z by' hs hz hby
      split at e
      · rename_i hc
        obtain ⟨h0, h1, h2, h3, h4, h5, h6⟩ := hc
        cases e
        have hz0 := zeros_rel (ρ := ρ) z h6 c.toNat s h5
        obtain ⟨ρ', g1, g2, g3, g4⟩ := new_block R (Pushed.alloc w (.cells ((Array.range (c.toNat * s)).map (fun i => (if c.toNat * s = 0 then (#[] : Array Value) else z.cells)[i % (if c.toNat * s = 0 then (#[] : Array Value) else z.cells).size]!)) el (0, 0))) (enc s el)
          (cs := repl c.toNat z.cells.toList) (fun j x ex => by
            obtain ⟨x', a, b⟩ := hz0.get j x ex
            exact ⟨x', by rw [Array.getElem?_toList] at a; exact a, b⟩) (fun j _ => by simp) (fun _ => eT_enc.symm) (fun _ => by simpa using hz0.length)
        rw [eS_enc h0] at g2
        refine ⟨ρ', .slice (some ⟨w.heap.size, 0, none⟩) l.toNat c.toNat, _, ?_, g1, .slice g2 (Nat.le_refl _) (by simp), g3, g4⟩
        simp only [bytesOf, Option.map_eq_some_iff] at hby
        obtain ⟨ti, hti, rfl⟩ := hby
        simp only [Instr.makeSlice, Sem.run_bind, run_underlying (elOf_und hel), Result.andThen_ok, asInt, asIntOf, Sem.run_pure, wrap_i64 h1 (by omega : l < 2 ^ 63), wrap_i64 (by omega : (0:Int) ≤ c) h4, typeInfo, run_program, hti]
        rw [if_neg (by simp; omega)]
        simp only [Sem.run_bind, run_askRoom, Result.andThen_ok, run_szOf hs]
        by_cases hne : c.toNat * s = 0
        · simp [hne, run_newRow]
        · simp [hne, run_newRow, run_zeroOf hz]
      · cases e
    · cases e
  · cases e
end Go.Ev
