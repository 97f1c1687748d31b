/-
  No cell of these rows narrows 'for every input' (looked for: loops, veiled, ifaces, maps, wideKeys, modest, calm, conditions, laid).
  DERIVED. THE GIVEN ROWS OF THIS SEAT. 9 by the template 'for every input the law returns true; each argument reads behind the call as it read before'; 0 by the template 'total and deterministic' (their statements: YtjdcdabbbmhffaaTotals.lean).
  GIVEN WITH THE SEED: the statements are not yours to turn. If you find one false, say at which input.
  Laid BY PROGRAM, IN A SANDBOX (cutbox-rows.mjs): the forced cells as the released guide's own fill.sh prints them over the translation 0dcfba9c7ec68954… (all of the seat's roots in one cut). By AI agents, Wed Nov 11 2026. No macro, syntax, notation, axiom, sorry.
-/
import Derived.Test.YtjdcdabbbmhffaaChecked
import GoSem.Claim
import GoSem.ClaimJoined
import GoSem.ClaimMapViews
import Derived.JoinedTies
import Derived.KernelRfl
namespace Go.Proofs.Ytjdcdabbbmhffaa
/- THE CELL 'sum', in the pinned program and in every row, IS THE sha256 OF THE DUMP (.gsa) THAT YtjdcdabbbmhffaaProg.lean LOADS. Nothing in Lean hashes anything: it is a label: what it is worth is what the hold of that sum in a sandbox is worth. -/
noncomputable def Try.pinned : Pinned := { name := "ytjdcdabbbmhffaa", sum := "0dcfba9c7ec68954ba17df73547ff6aa4ea9335b00925e0adcd4137108603a85", checked := Try.checked }
namespace Rows
def none {H : Type} : Left H := { results := [], args := [] }

/-- 'rosterlaw04.IdlistFinds': WHATEVER THE INPUT: true; the input reads as it did. -/
def idlistFindsSpec : ChangeSpec := { name := "idlistFinds", fn := fun _ => fun
  | [d1, d2, d3] => { results := [.lit (.bool true)], args := [d1, d2, d3] }
  | _ => none }
def idlistFindsRow : OpenClaim := { program := "ytjdcdabbbmhffaa", sum := "0dcfba9c7ec68954ba17df73547ff6aa4ea9335b00925e0adcd4137108603a85", func := "roster/rosterlaw04.IdlistFinds", spec := "idlistFinds", unfollowed := true, recurses := true, apart := false }
def IdlistFindsSaid : Prop := idlistFindsRow.holds Try.pinned (OpenSpec.ofChange idlistFindsSpec)

/-- ITS FALSE NEIGHBOUR: 'it returns false'. Refute it at one input. -/
def idlistFindsWrong : ChangeSpec := { name := "idlistFinds", fn := fun _ => fun
  | [d1, d2, d3] => { results := [.lit (.bool false)], args := [d1, d2, d3] }
  | _ => none }
def IdlistFindsWrongFalsely : Prop := idlistFindsRow.holds Try.pinned (OpenSpec.ofChange idlistFindsWrong)

/-- 'rosterlaw04.IdlistGoes': WHATEVER THE INPUT: true; the input reads as it did. -/
def idlistGoesSpec : ChangeSpec := { name := "idlistGoes", fn := fun _ => fun
  | [d1, d2, d3] => { results := [.lit (.bool true)], args := [d1, d2, d3] }
  | _ => none }
def idlistGoesRow : OpenClaim := { program := "ytjdcdabbbmhffaa", sum := "0dcfba9c7ec68954ba17df73547ff6aa4ea9335b00925e0adcd4137108603a85", func := "roster/rosterlaw04.IdlistGoes", spec := "idlistGoes", unfollowed := true, recurses := true, apart := false }
def IdlistGoesSaid : Prop := idlistGoesRow.holds Try.pinned (OpenSpec.ofChange idlistGoesSpec)

/-- ITS FALSE NEIGHBOUR: 'it returns false'. Refute it at one input. -/
def idlistGoesWrong : ChangeSpec := { name := "idlistGoes", fn := fun _ => fun
  | [d1, d2, d3] => { results := [.lit (.bool false)], args := [d1, d2, d3] }
  | _ => none }
def IdlistGoesWrongFalsely : Prop := idlistGoesRow.holds Try.pinned (OpenSpec.ofChange idlistGoesWrong)

/-- 'rosterlaw04.IdlistPacks': WHATEVER THE INPUT: true; the input reads as it did. -/
def idlistPacksSpec : ChangeSpec := { name := "idlistPacks", fn := fun _ => fun
  | [d1, d2] => { results := [.lit (.bool true)], args := [d1, d2] }
  | _ => none }
def idlistPacksRow : OpenClaim := { program := "ytjdcdabbbmhffaa", sum := "0dcfba9c7ec68954ba17df73547ff6aa4ea9335b00925e0adcd4137108603a85", func := "roster/rosterlaw04.IdlistPacks", spec := "idlistPacks", unfollowed := true, recurses := true, apart := false }
def IdlistPacksSaid : Prop := idlistPacksRow.holds Try.pinned (OpenSpec.ofChange idlistPacksSpec)

/-- ITS FALSE NEIGHBOUR: 'it returns false'. Refute it at one input. -/
def idlistPacksWrong : ChangeSpec := { name := "idlistPacks", fn := fun _ => fun
  | [d1, d2] => { results := [.lit (.bool false)], args := [d1, d2] }
  | _ => none }
def IdlistPacksWrongFalsely : Prop := idlistPacksRow.holds Try.pinned (OpenSpec.ofChange idlistPacksWrong)

/-- 'rosterlaw04.IdlistNames': WHATEVER THE INPUT: true; the input reads as it did. -/
def idlistNamesSpec : ChangeSpec := { name := "idlistNames", fn := fun _ => fun
  | [] => { results := [.lit (.bool true)], args := [] }
  | _ => none }
def idlistNamesRow : OpenClaim := { program := "ytjdcdabbbmhffaa", sum := "0dcfba9c7ec68954ba17df73547ff6aa4ea9335b00925e0adcd4137108603a85", func := "roster/rosterlaw04.IdlistNames", spec := "idlistNames", unfollowed := true, recurses := true, apart := false }
def IdlistNamesSaid : Prop := idlistNamesRow.holds Try.pinned (OpenSpec.ofChange idlistNamesSpec)

/-- ITS FALSE NEIGHBOUR: 'it returns false'. Refute it at one input. -/
def idlistNamesWrong : ChangeSpec := { name := "idlistNames", fn := fun _ => fun
  | [] => { results := [.lit (.bool false)], args := [] }
  | _ => none }
def IdlistNamesWrongFalsely : Prop := idlistNamesRow.holds Try.pinned (OpenSpec.ofChange idlistNamesWrong)

/-- 'rosterlaw04.IdlistBack': WHATEVER THE INPUT: true; the input reads as it did. -/
def idlistBackSpec : ChangeSpec := { name := "idlistBack", fn := fun _ => fun
  | [d1, d2] => { results := [.lit (.bool true)], args := [d1, d2] }
  | _ => none }
def idlistBackRow : OpenClaim := { program := "ytjdcdabbbmhffaa", sum := "0dcfba9c7ec68954ba17df73547ff6aa4ea9335b00925e0adcd4137108603a85", func := "roster/rosterlaw04.IdlistBack", spec := "idlistBack", unfollowed := true, recurses := true, apart := false }
def IdlistBackSaid : Prop := idlistBackRow.holds Try.pinned (OpenSpec.ofChange idlistBackSpec)

/-- ITS FALSE NEIGHBOUR: 'it returns false'. Refute it at one input. -/
def idlistBackWrong : ChangeSpec := { name := "idlistBack", fn := fun _ => fun
  | [d1, d2] => { results := [.lit (.bool false)], args := [d1, d2] }
  | _ => none }
def IdlistBackWrongFalsely : Prop := idlistBackRow.holds Try.pinned (OpenSpec.ofChange idlistBackWrong)

/-- 'rosterlaw04.IdlistSearched': WHATEVER THE INPUT: true; the input reads as it did. -/
def idlistSearchedSpec : ChangeSpec := { name := "idlistSearched", fn := fun _ => fun
  | [d1, d2, d3] => { results := [.lit (.bool true)], args := [d1, d2, d3] }
  | _ => none }
def idlistSearchedRow : OpenClaim := { program := "ytjdcdabbbmhffaa", sum := "0dcfba9c7ec68954ba17df73547ff6aa4ea9335b00925e0adcd4137108603a85", func := "roster/rosterlaw04.IdlistSearched", spec := "idlistSearched", unfollowed := true, recurses := true, apart := false }
def IdlistSearchedSaid : Prop := idlistSearchedRow.holds Try.pinned (OpenSpec.ofChange idlistSearchedSpec)

/-- ITS FALSE NEIGHBOUR: 'it returns false'. Refute it at one input. -/
def idlistSearchedWrong : ChangeSpec := { name := "idlistSearched", fn := fun _ => fun
  | [d1, d2, d3] => { results := [.lit (.bool false)], args := [d1, d2, d3] }
  | _ => none }
def IdlistSearchedWrongFalsely : Prop := idlistSearchedRow.holds Try.pinned (OpenSpec.ofChange idlistSearchedWrong)

/-- 'rosterlaw04.IdlistSets': WHATEVER THE INPUT: true; the input reads as it did. -/
def idlistSetsSpec : ChangeSpec := { name := "idlistSets", fn := fun _ => fun
  | [d1, d2, d3] => { results := [.lit (.bool true)], args := [d1, d2, d3] }
  | _ => none }
def idlistSetsRow : OpenClaim := { program := "ytjdcdabbbmhffaa", sum := "0dcfba9c7ec68954ba17df73547ff6aa4ea9335b00925e0adcd4137108603a85", func := "roster/rosterlaw04.IdlistSets", spec := "idlistSets", unfollowed := true, recurses := true, apart := false }
def IdlistSetsSaid : Prop := idlistSetsRow.holds Try.pinned (OpenSpec.ofChange idlistSetsSpec)

/-- ITS FALSE NEIGHBOUR: 'it returns false'. Refute it at one input. -/
def idlistSetsWrong : ChangeSpec := { name := "idlistSets", fn := fun _ => fun
  | [d1, d2, d3] => { results := [.lit (.bool false)], args := [d1, d2, d3] }
  | _ => none }
def IdlistSetsWrongFalsely : Prop := idlistSetsRow.holds Try.pinned (OpenSpec.ofChange idlistSetsWrong)

/-- 'rosterlaw04.IdlistPuts': WHATEVER THE INPUT: true; the input reads as it did. -/
def idlistPutsSpec : ChangeSpec := { name := "idlistPuts", fn := fun _ => fun
  | [d1, d2] => { results := [.lit (.bool true)], args := [d1, d2] }
  | _ => none }
def idlistPutsRow : OpenClaim := { program := "ytjdcdabbbmhffaa", sum := "0dcfba9c7ec68954ba17df73547ff6aa4ea9335b00925e0adcd4137108603a85", func := "roster/rosterlaw04.IdlistPuts", spec := "idlistPuts", unfollowed := true, recurses := true, apart := false }
def IdlistPutsSaid : Prop := idlistPutsRow.holds Try.pinned (OpenSpec.ofChange idlistPutsSpec)

/-- ITS FALSE NEIGHBOUR: 'it returns false'. Refute it at one input. -/
def idlistPutsWrong : ChangeSpec := { name := "idlistPuts", fn := fun _ => fun
  | [d1, d2] => { results := [.lit (.bool false)], args := [d1, d2] }
  | _ => none }
def IdlistPutsWrongFalsely : Prop := idlistPutsRow.holds Try.pinned (OpenSpec.ofChange idlistPutsWrong)

/-- 'rosterlaw04.IdlistAlgebra': WHATEVER THE INPUT: true; the input reads as it did. -/
def idlistAlgebraSpec : ChangeSpec := { name := "idlistAlgebra", fn := fun _ => fun
  | [d1, d2, d3] => { results := [.lit (.bool true)], args := [d1, d2, d3] }
  | _ => none }
def idlistAlgebraRow : OpenClaim := { program := "ytjdcdabbbmhffaa", sum := "0dcfba9c7ec68954ba17df73547ff6aa4ea9335b00925e0adcd4137108603a85", func := "roster/rosterlaw04.IdlistAlgebra", spec := "idlistAlgebra", unfollowed := true, recurses := true, apart := false }
def IdlistAlgebraSaid : Prop := idlistAlgebraRow.holds Try.pinned (OpenSpec.ofChange idlistAlgebraSpec)

/-- ITS FALSE NEIGHBOUR: 'it returns false'. Refute it at one input. -/
def idlistAlgebraWrong : ChangeSpec := { name := "idlistAlgebra", fn := fun _ => fun
  | [d1, d2, d3] => { results := [.lit (.bool false)], args := [d1, d2, d3] }
  | _ => none }
def IdlistAlgebraWrongFalsely : Prop := idlistAlgebraRow.holds Try.pinned (OpenSpec.ofChange idlistAlgebraWrong)

/- THE SECOND FORM. 'bulk': how many values and letters a reading holds, each counted each time it is reached (what is shared counts as often as it is met; a slice's spare places count too). A statement '..UptoSaid' is the law's where the arguments, and the package variables that the reading takes, are together of bulk at most 1048576: NARROWER than '..Said'. Prove '..Said' where nothing that the law and all that it calls make is longer than what came in: it says more and counts as full. Else prove '..UptoSaid'. A law counts once. -/
mutual
def uptoBulk {H : Type} : DataW H → Nat
  | .lit (.string bytes) => bytes.length + 1
  | .lit _ => 1
  | .nil => 1
  | .ptr d => uptoBulk d + 1
  | .slice elems spare => uptoBulkAll elems + uptoBulkAll spare + 1
  | .agg parts => uptoBulkAll parts + 1
  | .iface _ d => uptoBulk d + 1
  | .map entries => uptoBulkEntries entries + 1
  | .held _ => 1
def uptoBulkAll {H : Type} : List (DataW H) → Nat
  | [] => 0
  | d :: r => uptoBulk d + uptoBulkAll r
def uptoBulkEntries {H : Type} : List (Lit × DataW H) → Nat
  | [] => 0
  | x :: r => uptoBulkEntry x + uptoBulkEntries r
def uptoBulkEntry {H : Type} : Lit × DataW H → Nat
  | (.string bytes, d) => bytes.length + uptoBulk d + 1
  | (_, d) => uptoBulk d + 1
 end
def uptoSmall : (H : Type) → List (DataW H) → Bool := fun _ ds => decide (uptoBulkAll ds ≤ 1048576)
def OpenSpec.upto (s : _root_.Go.ChangeSpec) : _root_.Go.OpenSpec := { _root_.Go.OpenSpec.ofChange s with cond := some uptoSmall }

/-- 'rosterlaw04.IdlistFinds', WHERE WHAT IT READS IS OF BULK AT MOST 1048576: true; the input reads as it did. -/
def idlistFindsUptoRow : OpenClaim := { program := "ytjdcdabbbmhffaa", sum := "0dcfba9c7ec68954ba17df73547ff6aa4ea9335b00925e0adcd4137108603a85", func := "roster/rosterlaw04.IdlistFinds", spec := "idlistFinds", unfollowed := true, recurses := true, apart := false, narrowed := true }
def IdlistFindsUptoSaid : Prop := idlistFindsUptoRow.holds Try.pinned (OpenSpec.upto idlistFindsSpec)

/-- 'rosterlaw04.IdlistGoes', WHERE WHAT IT READS IS OF BULK AT MOST 1048576: true; the input reads as it did. -/
def idlistGoesUptoRow : OpenClaim := { program := "ytjdcdabbbmhffaa", sum := "0dcfba9c7ec68954ba17df73547ff6aa4ea9335b00925e0adcd4137108603a85", func := "roster/rosterlaw04.IdlistGoes", spec := "idlistGoes", unfollowed := true, recurses := true, apart := false, narrowed := true }
def IdlistGoesUptoSaid : Prop := idlistGoesUptoRow.holds Try.pinned (OpenSpec.upto idlistGoesSpec)

/-- 'rosterlaw04.IdlistPacks', WHERE WHAT IT READS IS OF BULK AT MOST 1048576: true; the input reads as it did. -/
def idlistPacksUptoRow : OpenClaim := { program := "ytjdcdabbbmhffaa", sum := "0dcfba9c7ec68954ba17df73547ff6aa4ea9335b00925e0adcd4137108603a85", func := "roster/rosterlaw04.IdlistPacks", spec := "idlistPacks", unfollowed := true, recurses := true, apart := false, narrowed := true }
def IdlistPacksUptoSaid : Prop := idlistPacksUptoRow.holds Try.pinned (OpenSpec.upto idlistPacksSpec)

/-- 'rosterlaw04.IdlistNames', WHERE WHAT IT READS IS OF BULK AT MOST 1048576: true; the input reads as it did. -/
def idlistNamesUptoRow : OpenClaim := { program := "ytjdcdabbbmhffaa", sum := "0dcfba9c7ec68954ba17df73547ff6aa4ea9335b00925e0adcd4137108603a85", func := "roster/rosterlaw04.IdlistNames", spec := "idlistNames", unfollowed := true, recurses := true, apart := false, narrowed := true }
def IdlistNamesUptoSaid : Prop := idlistNamesUptoRow.holds Try.pinned (OpenSpec.upto idlistNamesSpec)

/-- 'rosterlaw04.IdlistBack', WHERE WHAT IT READS IS OF BULK AT MOST 1048576: true; the input reads as it did. -/
def idlistBackUptoRow : OpenClaim := { program := "ytjdcdabbbmhffaa", sum := "0dcfba9c7ec68954ba17df73547ff6aa4ea9335b00925e0adcd4137108603a85", func := "roster/rosterlaw04.IdlistBack", spec := "idlistBack", unfollowed := true, recurses := true, apart := false, narrowed := true }
def IdlistBackUptoSaid : Prop := idlistBackUptoRow.holds Try.pinned (OpenSpec.upto idlistBackSpec)

/-- 'rosterlaw04.IdlistSearched', WHERE WHAT IT READS IS OF BULK AT MOST 1048576: true; the input reads as it did. -/
def idlistSearchedUptoRow : OpenClaim := { program := "ytjdcdabbbmhffaa", sum := "0dcfba9c7ec68954ba17df73547ff6aa4ea9335b00925e0adcd4137108603a85", func := "roster/rosterlaw04.IdlistSearched", spec := "idlistSearched", unfollowed := true, recurses := true, apart := false, narrowed := true }
def IdlistSearchedUptoSaid : Prop := idlistSearchedUptoRow.holds Try.pinned (OpenSpec.upto idlistSearchedSpec)

/-- 'rosterlaw04.IdlistSets', WHERE WHAT IT READS IS OF BULK AT MOST 1048576: true; the input reads as it did. -/
def idlistSetsUptoRow : OpenClaim := { program := "ytjdcdabbbmhffaa", sum := "0dcfba9c7ec68954ba17df73547ff6aa4ea9335b00925e0adcd4137108603a85", func := "roster/rosterlaw04.IdlistSets", spec := "idlistSets", unfollowed := true, recurses := true, apart := false, narrowed := true }
def IdlistSetsUptoSaid : Prop := idlistSetsUptoRow.holds Try.pinned (OpenSpec.upto idlistSetsSpec)

/-- 'rosterlaw04.IdlistPuts', WHERE WHAT IT READS IS OF BULK AT MOST 1048576: true; the input reads as it did. -/
def idlistPutsUptoRow : OpenClaim := { program := "ytjdcdabbbmhffaa", sum := "0dcfba9c7ec68954ba17df73547ff6aa4ea9335b00925e0adcd4137108603a85", func := "roster/rosterlaw04.IdlistPuts", spec := "idlistPuts", unfollowed := true, recurses := true, apart := false, narrowed := true }
def IdlistPutsUptoSaid : Prop := idlistPutsUptoRow.holds Try.pinned (OpenSpec.upto idlistPutsSpec)

/-- 'rosterlaw04.IdlistAlgebra', WHERE WHAT IT READS IS OF BULK AT MOST 1048576: true; the input reads as it did. -/
def idlistAlgebraUptoRow : OpenClaim := { program := "ytjdcdabbbmhffaa", sum := "0dcfba9c7ec68954ba17df73547ff6aa4ea9335b00925e0adcd4137108603a85", func := "roster/rosterlaw04.IdlistAlgebra", spec := "idlistAlgebra", unfollowed := true, recurses := true, apart := false, narrowed := true }
def IdlistAlgebraUptoSaid : Prop := idlistAlgebraUptoRow.holds Try.pinned (OpenSpec.upto idlistAlgebraSpec)

end Rows
end Go.Proofs.Ytjdcdabbbmhffaa
