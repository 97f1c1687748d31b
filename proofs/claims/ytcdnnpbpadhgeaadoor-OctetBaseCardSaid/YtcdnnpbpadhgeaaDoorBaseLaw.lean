/- OctetBase, out of what its arguments read as. No condition but the size that every statement has. -/
import Derived.Test.YtcdnnpbpadhgeaaDoorRBase
import Derived.Test.YtcdnnpbpadhgeaaDoorValidLaw
namespace Go.Proofs.YtcdnnpbpadhgeaaDoor
open Go.Ev Oct
theorem OctetBase_law {H' : Type} {n0 : Nat} {h : H} {vs : List Value} {ds : List (DataW H')} (R : RdAll Tryd.prog h [9, 9] vs ds) (hz : (DataW.weightsEach Tryd.prog [9, 9] ds).all (· ≤ reachBytes) = true) : Cn Tryd.prog n0 (.func 6) vs h (fun v _ => v = .bool true) := by
  obtain ⟨v, vs, d, ds, rfl, rfl, r, R⟩ := R.cons
  obtain ⟨v2, vs, d2, ds, rfl, rfl, r2, R⟩ := R.cons
  obtain ⟨rfl, rfl⟩ := R.none
  obtain ⟨l, rfl, rfl⟩ := reads_str r
  obtain ⟨l2, rfl, rfl⟩ := reads_str r2
  have h1 := sized_string hz (j := 0) rfl rfl
  have h2 := sized_string hz (j := 1) rfl rfl
  unfold reachBytes at h1 h2
  exact OctetBase_ok (by omega) (by omega)
end Go.Proofs.YtcdnnpbpadhgeaaDoor
