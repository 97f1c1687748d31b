/- The closed calls of this seat, run by the evaluator: each answers true in whatever world. No condition. -/
import Derived.Test.YtcdnnpbpadhgeaaDoorEvWhole
import Derived.Test.YtcdnnpbpadhgeaaDoorProg
namespace Go.Proofs.YtcdnnpbpadhgeaaDoor
open Go.Ev Go.RowKit
theorem mixed : Tryd.prog.follows .mixedOrders = true := by kernel_rfl
theorem noNum : (Tryd.prog.funcs.toList.all fun fn => fn.body.isNone || !(fn.name == "runtime.NumGoroutine")) = true := by kernel_rfl
theorem names (f : FuncId) (fn : Func) (hf : Tryd.prog.funcs[f]? = some fn) (hb : fn.body.isSome = true) : (fn.name == "runtime.NumGoroutine") = false := by
  have := List.all_eq_true.1 noNum fn (List.mem_iff_getElem?.2 ⟨f, by simpa using hf⟩)
  cases h : fn.body with
  | none => rw [h] at hb; cases hb
  | some c => rw [h] at this; simpa using this
/-- what the evaluator answers out of nothing, the call answers -/
theorem closed (n : Nat) (f : FuncId) (b : Bool) (hgo : isGo Tryd.prog f = true) (h : ((ev Tryd.prog n (.func f) [] []).map fun r => r.1) = some (.bool b)) (w : World) :
    Calls Tryd.prog f #[] w fun e w' => e = .returned (.bool b) ∧ Below w.heap.size w w' := by
  simp only [Option.map_eq_some_iff] at h
  obtain ⟨⟨v, h'⟩, he, hv⟩ := h
  simp only at hv; subst hv
  have := ev_calls (n0 := w.heap.size) mixed names he hgo [] w [] (Rel.nil w) trivial
  refine this.mono fun e w' hh => ?_
  obtain ⟨ρ', v', rfl, _, hv, _, hb⟩ := hh
  exact ⟨by rw [(VR.lit_iff rfl).1 hv], hb⟩
theorem wakes_ev : ((ev Tryd.prog 60 (.func 13) [] []).map fun r => r.1) = some (.bool true) := by kernel_rfl
theorem wakes_calls (w : World) : Calls Tryd.prog 13 #[] w fun e w' => e = .returned (.bool true) ∧ Below w.heap.size w w' := closed 60 13 true (by kernel_rfl) wakes_ev w
theorem octetNames_ev : ((ev Tryd.prog 60 (.func 7) [] []).map fun r => r.1) = some (.bool true) := by kernel_rfl
theorem octetNames_calls (w : World) : Calls Tryd.prog 7 #[] w fun e w' => e = .returned (.bool true) ∧ Below w.heap.size w w' := closed 60 7 true (by kernel_rfl) octetNames_ev w
end Go.Proofs.YtcdnnpbpadhgeaaDoor
