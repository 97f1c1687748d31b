/- Numbers laid one behind the other in memory of their own. No condition. -/
import Derived.Test.YtjdcdabbbmhffaaBoth
set_option linter.unusedVariables false
set_option linter.unusedSimpArgs false
namespace Go.Proofs.Ytjdcdabbbmhffaa
open Go.Ev Idl
variable {n0 : Nat} {h : H}
/-- numbers laid one behind the other in memory of their own -/
structure Nw1 (h : H) (B : Nat) (r : Value) (s : List Int) : Prop where
  fu : Fu h 1 23 r s.length (s.map u)
  bl : ∀ j, isBlk r j → B ≤ j
theorem Nw1.sl {B : Nat} {r : Value} {s : List Int} (N : Nw1 h B r s) : Sl h 1 r (s.map u) := N.fu.sl (by omega)
theorem Nw1.ext {B : Nat} {r : Value} {s : List Int} {h1 : H} (N : Nw1 h B r s) (X : Ext h h1) : Nw1 h1 B r s := ⟨N.fu.keep fun j ob _ e => X _ _ e, N.bl⟩
theorem Nw1.low {B B' : Nat} {r : Value} {s : List Int} (N : Nw1 h B r s) (X : B' ≤ B) : Nw1 h B' r s := ⟨N.fu, fun j e => Nat.le_trans X (N.bl j e)⟩
theorem Nw1.ow {B M : Nat} {r : Value} {s : List Int} (N : Nw1 h B r s) (hM : s.length ≤ M) : Ow h B M r s := by
  rcases N.fu with ⟨rfl, h0, _⟩ | ⟨b, rfl, _, hb, _⟩
  · exact .inl ⟨rfl, List.eq_nil_of_length_eq_zero h0⟩
  · exact .inr ⟨b, s.length, [], rfl, N.bl _ (isBlk_some.2 rfl), by rw [List.append_nil]; exact hb, by simp, hM⟩
theorem Nw1.put {B : Nat} {r : Value} {s : List Int} {x : Int} {b : Nat} (N : Nw1 h B r s) (hb : h[b]? = some (.cells true (enc 1 23) [.int .u64 x])) (hB : B ≤ h.length) (hl : s.length < 26388279065600) :
    ∃ r' h', aAppend Try.prog 22 r (.slice (some ⟨b, 0, none⟩) 1 1) h = some (r', h') ∧ Nw1 h' B r' (s ++ [x]) ∧ But r h h' := by
  obtain ⟨r', h', e, F, hb', hbl⟩ := N.fu.append (P := Try.prog) (T := 22) (m := 1) (new := [x].map u) el_22 sz_23 ze_23 by_23 rfl (by omega) (by omega) (src1 (Sl.mk (o := 0) (n := 1) hb (eS_enc' (by omega)) rfl rfl (Nat.le_refl _))) rfl rfl (by omega) (by omega)
  refine ⟨r', h', e, ⟨by rw [List.length_append, List.map_append]; exact F, fun j ej => ?_⟩, hb'⟩
  rcases hbl j ej with k | rfl
  · exact N.bl j k
  · exact hB
theorem butExt {r : Value} {g hh h' : H} (b : But r hh h') (X : Ext g hh) (hr : ∀ j, isBlk r j → g.length ≤ j) : Ext g h' := fun j ob e => b.2 j ob (fun k => by have := hr j k; have := lt_of_some e; omega) (X _ _ e)
theorem one_sl {b : Nat} {id : Int} (hb : h[b]? = some (.cells true (enc 1 23) [.int .u64 id])) : Sl h 1 (.slice (some ⟨b, 0, none⟩) 1 1) ([id].map u) := Sl.mk (o := 0) hb (eS_enc' (by omega)) rfl rfl (Nat.le_refl _)
end Go.Proofs.Ytjdcdabbbmhffaa
