/- works(): a closed call, run by the evaluator. No condition. -/
import Derived.Test.YtknpmldldlbniaaEvRow
import Derived.Test.YtknpmldldlbniaaSeat
namespace Go.Proofs.Ytknpmldldlbniaa
open Go.Ev
theorem works_ev : ((ev Try.prog 60 (.func 16) [] []).map fun r => r.1) = some (.bool true) := by kernel_rfl
theorem works_go : isGo Try.prog 16 = true := by kernel_rfl
theorem Works_ok {n0 : Nat} {h : H} : Cn Try.prog n0 (.func 16) [] h (fun v h' => v = .bool true ∧ h' = h) := Cn.of_closed mixed names works_ev rfl works_go ⟨rfl, rfl⟩
end Go.Proofs.Ytknpmldldlbniaa
