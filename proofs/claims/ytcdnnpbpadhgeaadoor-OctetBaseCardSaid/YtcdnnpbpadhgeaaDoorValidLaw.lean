/- OctetValid, out of what its argument reads as. No condition but the size that every statement has. -/
import Derived.Test.YtcdnnpbpadhgeaaDoorRValid
import Derived.SizedLaws
namespace Go.Proofs.YtcdnnpbpadhgeaaDoor
open Go.Ev Oct
theorem c9 : Tryd.prog.cellsOf 9 = 1 := by kernel_rfl
theorem reads_str {H' : Type} {h : H} {v : Value} {d : DataW H'} (r : RdV Tryd.prog h 9 v d) : ∃ l : List UInt8, v = .string (bs l) ∧ d = .lit (.string l) := by
  obtain ⟨r1, r2⟩ := r
  obtain ⟨s, hs, hd, _⟩ := r1.inv_string Tryd.underlying9
  refine ⟨s.data.toList, ?_, hd⟩
  rw [bs_eta]
  rcases r2 with ⟨fs, c, e, _⟩ | ⟨_, e⟩
  · rw [Tryd.underlying9] at e; cases e
  · rw [e] at hs; cases hs; rfl
theorem OctetValid_law {H' : Type} {n0 : Nat} {h : H} {vs : List Value} {ds : List (DataW H')} (R : RdAll Tryd.prog h [9] vs ds) (hz : (DataW.weightsEach Tryd.prog [9] ds).all (· ≤ reachBytes) = true) : Cn Tryd.prog n0 (.func 3) vs h (fun v _ => v = .bool true) := by
  obtain ⟨v, vs, d, ds, rfl, rfl, r, R⟩ := R.cons
  obtain ⟨rfl, rfl⟩ := R.none
  obtain ⟨l, rfl, rfl⟩ := reads_str r
  have := sized_string hz (j := 0) rfl rfl
  have := reachBytes_lt
  exact OctetValid_ok (by omega)
end Go.Proofs.YtcdnnpbpadhgeaaDoor
