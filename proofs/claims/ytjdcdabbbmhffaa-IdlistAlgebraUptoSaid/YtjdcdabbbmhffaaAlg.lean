/- IdlistAlgebra in its second form, out of what its arguments read as. -/
import Derived.Test.YtjdcdabbbmhffaaLaw11
import Derived.Test.YtjdcdabbbmhffaaBulk
namespace Go.Proofs.Ytjdcdabbbmhffaa
open Go.Ev Idl
theorem nums_small {H' : Type} {ds : List (DataW H')} (hk : Rows.uptoSmall H' ds = true) {d : DataW H'} {l : List Int} (hd : d ∈ ds) (k : d = .nil ∧ l = [] ∨ ∃ ds sp, d = .slice ds sp ∧ ds.length = l.length) : l.length ≤ 1048576 := by
  rcases k with ⟨_, rfl⟩ | ⟨es, sp, rfl, e⟩
  · simp
  · rw [← e]; exact bulks.slice_bound hk hd
theorem IdlistAlgebra_law {H' : Type} {n0 : Nat} {h : H} {vs : List Value} {ds : List (DataW H')} (R : RdAll Try.prog h [22, 22, 23] vs ds) (hk : Rows.uptoSmall H' ds = true) : Cn Try.prog n0 (.func 11) vs h (fun v _ => v = .bool true) := by
  obtain ⟨v, vs, d, ds, rfl, rfl, r, R⟩ := R.cons
  obtain ⟨v2, vs, d2, ds, rfl, rfl, r2, R⟩ := R.cons
  obtain ⟨v3, vs, d3, ds, rfl, rfl, r3, R⟩ := R.cons
  obtain ⟨rfl, rfl⟩ := R.none
  obtain ⟨l, S, k⟩ := reads_nums r
  obtain ⟨l2, S2, k2⟩ := reads_nums r2
  obtain ⟨id, rfl, _, _⟩ := r3.int Try.underlying23
  exact IdlistAlgebra_ok S S2 (nums_small hk (by simp) k) (nums_small hk (by simp) k2)
end Go.Proofs.Ytjdcdabbbmhffaa
