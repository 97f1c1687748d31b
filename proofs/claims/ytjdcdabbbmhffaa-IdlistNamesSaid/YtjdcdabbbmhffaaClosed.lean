/- The closed calls of this seat, run by the evaluator: each answers true in whatever world. No condition. -/
import Derived.Test.YtjdcdabbbmhffaaEvWhole
import Derived.Test.YtjdcdabbbmhffaaProg
namespace Go.Proofs.Ytjdcdabbbmhffaa
open Go.Ev Go.RowKit
theorem mixed : Try.prog.follows .mixedOrders = true := by kernel_rfl
theorem noNum : (Try.prog.funcs.toList.all fun fn => fn.body.isNone || !(fn.name == "runtime.NumGoroutine")) = true := by kernel_rfl
theorem names (f : FuncId) (fn : Func) (hf : Try.prog.funcs[f]? = some fn) (hb : fn.body.isSome = true) : (fn.name == "runtime.NumGoroutine") = false := by
  have := List.all_eq_true.1 noNum fn (List.mem_iff_getElem?.2 ⟨f, by simpa using hf⟩)
  cases h : fn.body with
  | none => rw [h] at hb; cases hb
  | some c => rw [h] at this; simpa using this
/-- what the evaluator answers out of nothing, the call answers -/
theorem closed (n : Nat) (f : FuncId) (b : Bool) (h : ((ev Try.prog n (.func f) [] []).map fun r => r.1) = some (.bool b)) (w : World) :
    Calls Try.prog f #[] w fun e w' => e = .returned (.bool b) ∧ Below w.heap.size w w' := by
  simp only [Option.map_eq_some_iff] at h
  obtain ⟨⟨v, h'⟩, he, hv⟩ := h
  simp only at hv; subst hv
  have := (ev_callOk (n0 := w.heap.size) mixed names n (.func f) [] [] _ h' he).2 [] w [] (Rel.nil w) trivial
  refine this.mono fun e w' hh => ?_
  obtain ⟨ρ', v', rfl, _, hv, _, hb⟩ := hh
  exact ⟨by rw [(VR.lit_iff rfl).1 hv], hb⟩
theorem wakes_ev : ((ev Try.prog 60 (.func 18) [] []).map fun r => r.1) = some (.bool true) := by kernel_rfl
theorem wakes_calls (w : World) : Calls Try.prog 18 #[] w fun e w' => e = .returned (.bool true) ∧ Below w.heap.size w w' := closed 60 18 true wakes_ev w
theorem names__ev : ((ev Try.prog 60 (.func 6) [] []).map fun r => r.1) = some (.bool true) := by kernel_rfl
theorem names__calls (w : World) : Calls Try.prog 6 #[] w fun e w' => e = .returned (.bool true) ∧ Below w.heap.size w w' := closed 60 6 true names__ev w
end Go.Proofs.Ytjdcdabbbmhffaa
