/- Facts of this seat's program that the evaluator asks. No condition. -/
import Derived.Test.YtjdcdabbbmhffaaEvAc3
import Derived.Test.YtjdcdabbbmhffaaProg
namespace Go.Proofs.Ytjdcdabbbmhffaa
open Go.Ev Go.RowKit
theorem mixed : Try.prog.follows .mixedOrders = true := by kernel_rfl
theorem noNum : (Try.prog.funcs.toList.all fun fn => fn.body.isNone || !(fn.name == "runtime.NumGoroutine")) = true := by kernel_rfl
theorem names (f : FuncId) (fn : Func) (hf : Try.prog.funcs[f]? = some fn) (hb : fn.body.isSome = true) : (fn.name == "runtime.NumGoroutine") = false := by
  have := List.all_eq_true.1 noNum fn (List.mem_iff_getElem?.2 ⟨f, by simpa using hf⟩)
  cases h : fn.body with
  | none => rw [h] at hb; cases hb
  | some c => rw [h] at this; simpa using this
end Go.Proofs.Ytjdcdabbbmhffaa
