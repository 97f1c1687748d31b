/- A part of the proof that what the evaluator of YtjdcdabbbmhffaaEvCore answers, the call answers in the model. No condition. -/
import Derived.Test.YtjdcdabbbmhffaaEvOp4
import Derived.Laws.BytesString
import Derived.Lib.Builder
set_option linter.unusedVariables false
set_option linter.unusedSimpArgs false
namespace Go.Ev
open Go.RowKit (Below)
variable {P : Program} {n0 : Nat} {ρ : Rho} {h h' : H} {w : World}

theorem bytesOfStr_get (s : ByteArray) (j : Nat) (v : Value) (e : (bytesOfStr s)[j]? = some v) : isLit v = true := by
  unfold bytesOfStr at e
  rw [List.getElem?_map] at e
  cases hb : s.data.toList[j]? with
  | none => rw [hb] at e; cases e
  | some b => rw [hb] at e; cases e; rfl
theorem bytesOfStr_length (s : ByteArray) : (bytesOfStr s).length = s.size := by unfold bytesOfStr; rw [List.length_map, Array.length_toList]; rfl

theorem Pushed.modify {w w1 : World} {o : Obj} (Q : Pushed w w1 o) (f : Obj → Obj) : Pushed w { w1 with heap := w1.heap.modify w.heap.size f } (f o) := by
  refine ⟨by simp [Q.size], fun i hi => ?_, ?_, Q.os, Q.tape, Q.output⟩
  · show (w1.heap.modify w.heap.size f)[i]? = _
    rw [Array.getElem?_modify, if_neg (by omega)]; exact Q.old i hi
  · show (w1.heap.modify w.heap.size f)[w.heap.size]? = _
    rw [Array.getElem?_modify, if_pos rfl, Q.new]; rfl
theorem pushed_freeze (w : World) (c : Array Value) (el : TypeId) : Pushed w ((w.drew.alloc (.cells c el)).freeze ⟨w.heap.size, c.size, none⟩ 1) (.cells c el (c.size, c.size + 1)) := by
  unfold World.freeze
  rw [if_neg (by omega)]
  exact (Pushed.drewAlloc w (.cells c el)).modify _
theorem stringToBytes_run (R : Rel n0 ρ h w) (el : TypeId) (s : ByteArray) :
    ∃ ρ' u' w', (Conv.stringToBytes el s).run P w = .ok u' w' ∧ Le ρ ρ' ∧ VR ρ' (.slice (some ⟨h.length, 0, none⟩) s.size s.size) u' ∧ Rel n0 ρ' (h ++ [.cells true (enc 1 el) (bytesOfStr s)]) w' ∧ Below n0 w w' := by
  have hch : ∃ cap, (choose (.appendCap s.size 0 el)).run P w = .ok cap w.drew ∧ s.size ≤ cap := ⟨_, by rw [run_choose]; rfl, Nat.le_add_right _ _⟩
  obtain ⟨cap, hcap, hcut⟩ := hch
  obtain ⟨c, hc⟩ : ∃ c : Array Value, c = s.data.map (fun b => Value.int .u8 b.toNat) ++ Array.replicate (cap - s.size) (.int .u8 0) := ⟨_, rfl⟩
  have hsz : s.data.size = s.size := rfl
  have hcs : c.size = cap := by rw [hc, Array.size_append, Array.size_map, Array.size_replicate, hsz]; omega
  obtain ⟨ρ', g1, g2, g3, g4⟩ := new_block R (pushed_freeze w c el) (enc 1 el) (cs := bytesOfStr s) (fun j x ex => by
    refine ⟨x, ?_, .lit (bytesOfStr_get s j x ex)⟩
    have hj := lt_of_some ex
    rw [bytesOfStr_length] at hj
    rw [hc, Array.getElem?_append_left (by rw [Array.size_map, hsz]; exact hj)]
    unfold bytesOfStr at ex
    rw [List.getElem?_map, Array.getElem?_toList] at ex
    rw [Array.getElem?_map]; exact ex) (fun j hj => by show ¬ (c.size ≤ j ∧ j < c.size + 1); omega) (fun _ => eT_enc.symm) (fun h0 => by rw [eS_enc (by omega)] at h0; omega)
  rw [eS_enc (by omega)] at g2
  refine ⟨ρ', .slice (some ⟨w.heap.size, 0, none⟩) s.size cap, _, ?_, g1, .slice g2 hcut (by simp [hcs]), g3, g4⟩
  have hsh : (w.drew.alloc (.cells c el)).shape? w.heap.size = some (el, c.size) := by
    unfold World.shape?
    have := (Pushed.drewAlloc w (.cells c el)).new
    rw [this]
  simp only [Conv.stringToBytes, Sem.run_bind]
  rw [hcap]
  simp only [Result.andThen_ok, run_newRow, markStringish, Sem.run_bind, run_shape]
  rw [← hc]
  simp only [World.size_drew, hsh, Result.andThen_ok, Sem.run_bind, run_freeze, Sem.run_pure]

theorem strOf_ints : ∀ (l : List Value) (r : List UInt8), strOfCells l = some r → ∃ ns : List Int, l = ns.map (Value.int .u8) ∧ r = ns.map (fun n => UInt8.ofNat n.toNat)
  | [], r, e => by simp [strOfCells] at e; subst e; exact ⟨[], rfl, rfl⟩
  | x :: l, r, e => by
    unfold strOfCells at e
    split at e
    · rename_i h1; cases h1
    · rename_i n l' h1
      cases h1
      simp only [Option.map_eq_some_iff] at e
      obtain ⟨r', hr, rfl⟩ := e
      obtain ⟨ns, rfl, rfl⟩ := strOf_ints l r' hr
      exact ⟨n :: ns, rfl, rfl⟩
    · cases e
theorem push_ints : ∀ (ns : List Int) (acc : ByteArray), ns.foldl (fun r n => r.push (UInt8.ofNat n.toNat)) acc = ⟨acc.data ++ (ns.map (fun n => UInt8.ofNat n.toNat)).toArray⟩
  | [], acc => by simp
  | n :: r, acc => by
    rw [List.foldl_cons, push_ints r]
    show (⟨acc.data.push _ ++ _⟩ : ByteArray) = ⟨_⟩
    congr 1
    rw [← Array.toList_inj]; simp

theorem aConvert_run (R : Rel n0 ρ h w) {s d : TypeId} {x x' u : Value} (e : aConvert P s d x h = some (u, h')) (k : VR ρ x x') :
    ∃ ρ' u' w', (convert s d x').run P w = .ok u' w' ∧ Le ρ ρ' ∧ VR ρ' u u' ∧ Rel n0 ρ' h' w' ∧ Below n0 w w' := by
  unfold aConvert at e
  split at e
  · rename_i sd kk kk' n h1 h2
    simp only [force_eq, Option.some.injEq, Prod.mk.injEq] at e
    obtain ⟨rfl, rfl⟩ := e
    rw [(VR.lit_iff rfl).1 k]
    refine ⟨ρ, _, w, ?_, Le.refl _, .lit rfl, R, Below.refl _ _⟩
    simp [convert, run_underlying h1, run_underlying h2, Conv.intToInt]
  · rename_i sd s' h1 h2
    cases e
    rw [(VR.lit_iff rfl).1 k]
    refine ⟨ρ, _, w, ?_, Le.refl _, .lit rfl, R, Below.refl _ _⟩
    simp [convert, run_underlying h1, run_underlying h2]
  · rename_i sd el s' h1 h2
    rw [(VR.lit_iff rfl).1 k]
    split at e
    · rename_i h3
      cases e
      obtain ⟨ρ', u', w', q1, q2⟩ := stringToBytes_run (P := P) R el s'
      exact ⟨ρ', u', w', by simp [convert, run_underlying h1, run_underlying h2, run_underlying h3, q1], q2⟩
    · cases e
  · rename_i el p len cap h1 h2
    split at e
    · rename_i h3
      split at e
      · cases e
        rw [(VR.lit_iff rfl).1 k]
        refine ⟨ρ, _, w, ?_, Le.refl _, .lit rfl, R, Below.refl _ _⟩
        rw [run_convert_bytes_string w _ _ _ _ _ _ h1 h3 h2]
        simp [Conv.bytesToString]
      · rename_i ad
        split at e
        · rename_i h0
          subst h0
          cases e
          have : ∃ a' c', x' = .slice (some a') 0 c' := by cases k with
            | lit h => simp [isLit] at h
            | slice _ _ _ => exact ⟨_, _, rfl⟩
            | vague => exact ⟨_, _, rfl⟩
          obtain ⟨a', c', rfl⟩ := this
          refine ⟨ρ, _, w, ?_, Le.refl _, .lit rfl, R, Below.refl _ _⟩
          rw [run_convert_bytes_string w _ _ _ _ _ _ h1 h3 h2]
          have := run_bytesToString (P := P) w a' 0 c' [] (by simp [loadCells, loadCellsFrom])
          simpa using this
        · rename_i h0
          split at e
          · cases e
          · rename_i hsp
            simp only [Option.bind_eq_some_iff, Option.map_eq_some_iff] at e
            obtain ⟨l, hl, r, hr, e⟩ := e
            cases e
            cases k with
            | lit h => simp [isLit] at h
            | vague => simp at hsp
            | slice hp hc hroom =>
              rename_i c' pl
              obtain ⟨l', k1, k2, k3⟩ := rdN_sound R hp _ _ _ hl
              obtain ⟨ns, rfl, rfl⟩ := strOf_ints l r hr
              have hl' := k1.lit_eq (fun v hv => by obtain ⟨n, _, rfl⟩ := List.mem_map.1 hv; rfl)
              subst hl'
              refine ⟨ρ, _, w, ?_, Le.refl _, .lit rfl, R, Below.refl _ _⟩
              rw [run_convert_bytes_string w _ _ _ _ _ _ h1 h3 h2]
              have hload := run_loadCells_list (P := P) w ⟨pl.b, pl.s + _, none⟩ _ (fun j u hu => by rw [add_none]; exact k3 j u hu)
              rw [k2] at hload
              rw [run_bytesToString (P := P) w _ _ c' ns hload, push_ints]
              show Result.ok (Value.string ⟨#[] ++ _⟩) w = _
              rw [Array.empty_append]
    · cases e
  · cases e
theorem aConvPtr_run (R : Rel n0 ρ h w) {s d : TypeId} {x x' u : Value} (e : aConvPtr P s d x h = some (u, h')) (k : VR ρ x x') :
    (convert s d x').run P w = .ok x' w ∧ u = x ∧ h' = h := by
  unfold aConvPtr at e
  split at e
  · rename_i t b o hs hd
    split at e
    · rename_i own ee cs hb
      split at e
      · rename_i hc
        obtain ⟨h1, h2, h3, h4⟩ := hc
        cases e
        refine ⟨?_, rfl, rfl⟩
        cases k with
        | lit hl => simp [isLit] at hl
        | ptr hp =>
          rename_i p
          obtain ⟨⟨a1, _⟩, a2, c, fr, a3, a4⟩ := R.ty _ _ _ _ _ hp hb h1
          obtain ⟨x, hx⟩ := some_of_lt h2
          obtain ⟨v', hv, _⟩ := (R.cells _ _ _ _ _ hp hb).2 _ _ hx
          have hlt : p.s + o < c.size := by
            simp only [World.cell?, a3] at hv
            have := Array.getElem?_eq_some_iff.1 hv
            exact this.1
          obtain ⟨n, hn⟩ := Option.isSome_iff_exists.1 h3
          rw [hn] at h4
          obtain ⟨ti, hti, hsz⟩ : ∃ ti, P.info? t = some ti ∧ ti.size = n := by simpa [szOf] using hn
          exact Lib.run_to_unsafe w ⟨p.b, p.s + o, none⟩ hs hd hti (by rw [hsz]; simpa using h4) (e := ee / 1024 - 1) (cells := c.size) (by simp [World.shape?, a3]) hlt
      · cases e
    · cases e
  · rename_i u0 b o hs hd
    split at e
    · rename_i own ee cs hb
      split at e
      · rename_i hc
        obtain ⟨h1, h2, h3, h4⟩ := hc
        cases e
        refine ⟨?_, rfl, rfl⟩
        cases k with
        | lit hl => simp [isLit] at hl
        | ptr hp =>
          rename_i p
          obtain ⟨⟨a1, _⟩, a2, c, fr, a3, a4⟩ := R.ty _ _ _ _ _ hp hb h1
          have hcs := a2 h2
          obtain ⟨n, hn⟩ := Option.isSome_iff_exists.1 h3
          obtain ⟨ti, hti, hsz⟩ : ∃ ti, P.info? u0 = some ti ∧ ti.size = n := by simpa [szOf] using hn
          refine Lib.run_from_unsafe w ⟨p.b, p.s + o, none⟩ hs hd hti (e := ee / 1024 - 1) (cells := c.size) (by simp [World.shape?, a3]) ?_
          rw [a4, ← hcs, a1, Nat.zero_add]; exact h4
      · cases e
    · cases e
  · cases e
end Go.Ev
