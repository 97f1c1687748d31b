/- A part of the proof that what the evaluator of YtjdcdabbbmhffaaEvCore answers, the call answers in the model. No condition. -/
import Derived.Test.YtjdcdabbbmhffaaEvOp2
set_option linter.unusedVariables false
set_option linter.unusedSimpArgs false
namespace Go.Ev
open Go.RowKit (Below)
variable {P : Program} {n0 : Nat} {ρ : Rho} {h h' : H} {w : World}

theorem VRs.over {ρ : Rho} {a a' b b' : List Value} (o : Nat) (h : VRs ρ a a') (k : VRs ρ b b') : VRs ρ (over a o b) (over a' o b') := by
  unfold Ev.over
  rw [k.length]
  exact ((h.take o).append k).append (h.drop _)
theorem foldl_set (off : Nat) : ∀ (vs : List Value) (j : Nat) (cs : Array Value), off + j + vs.length ≤ cs.size →
    ((vs.zipIdx j).foldl (fun cs x => cs.setIfInBounds (off + x.2) x.1) cs).toList = over cs.toList (off + j) vs
  | [], j, cs, _ => by simp [over, List.take_append_drop]
  | v :: r, j, cs, hle => by
    simp only [List.zipIdx_cons, List.foldl_cons]
    simp only [List.length_cons] at hle
    rw [foldl_set off r (j + 1) _ (by simp; omega)]
    simp only [Array.toList_setIfInBounds]
    apply List.ext_getElem?
    intro i
    rw [over_get _ _ _ _ (by simp; omega), over_get _ _ _ _ (by simp; omega), List.getElem?_set]
    simp only [List.length_cons]
    by_cases h1 : off + (j + 1) ≤ i ∧ i < off + (j + 1) + r.length
    · rw [if_pos h1, if_pos (by omega)]
      rw [show i - (off + j) = (i - (off + (j + 1))) + 1 from by omega]; simp
    · rw [if_neg h1]
      by_cases h2 : off + j = i
      · subst h2
        rw [if_pos rfl, if_pos (by simp; omega), if_pos (by omega)]; simp
      · rw [if_neg h2, if_neg (by omega)]
theorem fill_run {place : Nat → Option (Nat × Nat)} : ∀ (ps ps' : List (Nat × Value)) (cells : List Value) (cells' : Array Value) (r : List Value), fillAt place cells ps = some r → VRp ρ ps ps' → VRs ρ cells cells'.toList →
    ∃ r', Instr.fill place cells' ps' = some r' ∧ VRs ρ r r'.toList
  | [], [], cells, cells', r, e, _, k => by simp [fillAt] at e; subst e; exact ⟨cells', rfl, k⟩
  | (i, v) :: rest, (i', v') :: rest', cells, cells', r, e, kp, k => by
    obtain ⟨hi, kv, kr⟩ := kp
    simp only at hi kv; subst hi
    simp only [fillAt] at e
    simp only [Instr.fill]
    split at e
    · cases e
    · rename_i off size hpl
      split at e
      · rename_i hc
        obtain ⟨hsz, hle⟩ := (by simpa using hc : v.cells.size = size ∧ off + size ≤ cells.length)
        have hsz' : v'.cells.size = size := by rw [kv.cells_size, hsz]
        have hlen : cells.length = cells'.size := by simpa using k.length
        rw [hpl]
        simp only []
        rw [if_neg (by simp [hsz']; omega)]
        refine fill_run rest rest' _ _ r e kr ?_
        have := foldl_set off v'.cells.toList 0 cells' (by simp [hsz']; omega)
        have e2 : (v'.cells.zipIdx.foldl (fun cs x => cs.setIfInBounds (off + x.2) x.1) cells').toList = over cells'.toList off v'.cells.toList := by
          rw [← Array.foldl_toList, Array.toList_zipIdx]; simpa using this
        have e3 : (Array.foldl (fun cs x => match x with | (c, j) => cs.setIfInBounds (off + j) c) cells' v'.cells.zipIdx).toList = over cells'.toList off v'.cells.toList := e2
        rw [e3]
        exact k.over off kv.cells
      · cases e

theorem VRs.of_eq {l : List Value} (h : ∀ v ∈ l, isLit v = true) : VRs ρ l l := VRs.refl_lit h
theorem run_placesL (w : World) : ∀ {fs : List Field} {pl : List (Nat × Nat)}, fldPlaces P fs = some pl → (fs.mapM fun f => Prod.mk f.offset <$> sizeOf f.type : Sem _).run P w = .ok pl w
  | [], pl, e => by simp [fldPlaces] at e; subst e; rfl
  | f :: r, pl, e => by
    simp only [fldPlaces, Option.bind_eq_some_iff, Option.map_eq_some_iff] at e
    obtain ⟨s, hs, l, hl, rfl⟩ := e
    have := run_placesL w hl
    simp only [List.mapM_cons, Sem.run_bind, Sem.run_map, run_szOf hs, Result.andThen_ok, this, Sem.run_pure]
theorem run_places {fs : Array Field} {pl : List (Nat × Nat)} (e : fldPlaces P fs.toList = some pl) (w : World) : (fs.mapM fun f => Prod.mk f.offset <$> sizeOf f.type : Sem _).run P w = .ok pl.toArray w := by
  rw [Array.mapM_eq_mapM_toList]
  have := run_placesL w e
  simp only [Sem.run_map, this, Result.andThen_ok]
theorem aBuild_run {t : TypeId} {ps ps' : List (Nat × Value)} {u : Value} (e : aBuild P t ps = some u) (k : VRp ρ ps ps') (w : World) : ∃ u', (Instr.build t ps'.toArray).run P w = .ok u' w ∧ VR ρ u u' := by
  unfold aBuild at e
  split at e
  · rename_i fs z hd hz
    split at e
    · rename_i hlit
      simp only [Option.bind_eq_some_iff, Option.map_eq_some_iff] at e
      obtain ⟨pl, hpl, r, hr, rfl⟩ := e
      obtain ⟨r', h1, h2⟩ := fill_run (ρ := ρ) ps ps' _ z.cells r hr k (VRs.refl_lit (List.all_eq_true.1 hlit))
      refine ⟨.agg r', ?_, VR.agg_iff.2 ⟨_, rfl, by simpa using h2⟩⟩
      have := run_places (P := P) hpl w
      simp [Instr.build, run_zeroOf hz, run_underlying hd, this, h1]
    · cases e
  · rename_i n el z hd hz
    split at e
    · rename_i hlit
      simp only [Option.bind_eq_some_iff, Option.map_eq_some_iff] at e
      obtain ⟨s, hs, r, hr, rfl⟩ := e
      obtain ⟨r', h1, h2⟩ := fill_run (ρ := ρ) ps ps' _ z.cells r hr k (VRs.refl_lit (List.all_eq_true.1 hlit))
      refine ⟨.agg r', ?_, VR.agg_iff.2 ⟨_, rfl, by simpa using h2⟩⟩
      simp [Instr.build, run_zeroOf hz, run_underlying hd, run_szOf hs, h1]
    · cases e
  · cases e
end Go.Ev
