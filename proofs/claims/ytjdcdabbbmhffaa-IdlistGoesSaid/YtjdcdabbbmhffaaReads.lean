/- What a list of numbers reads as. No condition but the size that every statement has. -/
import Derived.Test.YtjdcdabbbmhffaaSets
import Derived.Test.YtjdcdabbbmhffaaEvLay
import Derived.SizedLaws
set_option linter.unusedVariables false
set_option linter.unusedSimpArgs false
namespace Go.Proofs.Ytjdcdabbbmhffaa
open Go.Ev Idl
variable {n0 : Nat} {h : H}
theorem bEqlB {P : Program} {c : Bool} {t : TypeId} {a b : Bool} (ht : P.underlying t = some .bool) : aBin P c .eql t (.bool a) (.bool b) = some (.bool (a == b)) := by simp [aBin, aEqOp, aEq, ht]
theorem cells23 : Try.prog.cellsOf 23 = 1 := by kernel_rfl
theorem bytes23 : Try.prog.bytesOf 23 = 8 := by kernel_rfl
theorem reads_nums {H' : Type} {h : H} {v : Value} {d : DataW H'} (r : RdV Try.prog h 22 v d) : ∃ l : List Int, Sl h 1 v (l.map u) ∧ (d = .nil ∧ l = [] ∨ ∃ ds sp, d = .slice ds sp ∧ ds.length = l.length) := by
  obtain ⟨v', cs', ds, e, S, hl, hm, hE, hd⟩ := (r.one fun fs e => by rw [Try.underlying22] at e; cases e).inv_slice Try.underlying22
  obtain rfl : v = v' := by simpa using e
  rw [cells23] at S hl hE
  have key : ∀ i, i < ds.length → ∃ x : Int, cs'[i]? = some (u x) := by
    intro i hi
    obtain ⟨n, h1, _, hw⟩ := (hE i _ (List.getElem?_eq_getElem hi)).inv_int Try.underlying23
    have hi2 : i < cs'.length := by omega
    refine ⟨n, ?_⟩
    rw [List.getElem?_eq_getElem hi2]
    rw [Nat.mul_one, List.drop_eq_getElem_cons hi2, List.take_succ_cons, List.take_zero] at h1
    rw [(List.cons.inj h1).1]
    rfl
  have : ∃ l : List Int, cs' = l.map u := by
    clear S hE hd hm
    rw [Nat.mul_one] at hl
    revert key
    rw [← hl]
    clear hl
    induction cs' with
    | nil => intro _; exact ⟨[], rfl⟩
    | cons c r ih =>
      intro key
      obtain ⟨x, hx⟩ := key 0 (by simp)
      simp at hx
      obtain ⟨l, hb⟩ := ih fun i hi => by simpa using key (i + 1) (by simpa using hi)
      exact ⟨x :: l, by simp [hx, hb]⟩
  obtain ⟨l, rfl⟩ := this
  refine ⟨l, S, ?_⟩
  rcases hd with ⟨rfl, rfl⟩ | ⟨sp, rfl⟩
  · left; exact ⟨rfl, by simpa using hl⟩
  · right; exact ⟨ds, sp, rfl, by simpa using hl.symm⟩
theorem nums_sized {H' : Type} {ts : List TypeId} {ds : List (DataW H')} (hz : (DataW.weightsEach Try.prog ts ds).all (· ≤ reachBytes) = true) {j : Nat} {d : DataW H'} {l : List Int} (ht : ts[j]? = some 22) (hd : ds[j]? = some d) (k : d = .nil ∧ l = [] ∨ ∃ ds sp, d = .slice ds sp ∧ ds.length = l.length) : l.length * 8 < 2 ^ 47 := by
  rcases k with ⟨_, rfl⟩ | ⟨es, sp, rfl, e⟩
  · simp
  · have := sized_slice hz ht hd Try.underlying22
    have := reachBytes_lt
    rw [bytes23] at *
    have : l.length * 8 ≤ (es.length + sp.length) * 8 := by omega
    omega
end Go.Proofs.Ytjdcdabbbmhffaa
