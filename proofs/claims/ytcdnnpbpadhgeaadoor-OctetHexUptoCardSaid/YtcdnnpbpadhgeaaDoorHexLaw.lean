/- OctetHex, out of what its arguments read as, where they are together of bulk at most 1048576. -/
import Derived.Test.YtcdnnpbpadhgeaaDoorRHex
import Derived.Test.YtcdnnpbpadhgeaaDoorValidLaw
import Derived.Test.YtcdnnpbpadhgeaaDoorBulk
namespace Go.Proofs.YtcdnnpbpadhgeaaDoor
open Go.Ev Oct
theorem OctetHex_law {H' : Type} {n0 : Nat} {h : H} {vs : List Value} {ds : List (DataW H')} (R : RdAll Tryd.prog h [9, 9] vs ds) (hk : Rows.uptoSmall H' ds = true) : Cn Tryd.prog n0 (.func 4) vs h (fun v _ => v = .bool true) := by
  obtain ⟨v, vs, d, ds, rfl, rfl, r, R⟩ := R.cons
  obtain ⟨v2, vs, d2, ds, rfl, rfl, r2, R⟩ := R.cons
  obtain ⟨rfl, rfl⟩ := R.none
  obtain ⟨l, rfl, rfl⟩ := reads_str r
  obtain ⟨l2, rfl, rfl⟩ := reads_str r2
  have h1 := bulks.string_bound hk (s := l) (by simp)
  have h2 := bulks.string_bound hk (s := l2) (by simp)
  exact OctetHex_ok (by omega) (by omega)
end Go.Proofs.YtcdnnpbpadhgeaaDoor
