/-
  NARROWER THAN 'FOR EVERY INPUT', by the rows' own cells (each row's printed sentence says how): BerBack: loops.
  DERIVED. THE GIVEN ROWS OF THIS SEAT. 9 by the template 'for every input the law returns true; each argument reads behind the call as it read before'; 0 by the template 'total and deterministic' (their statements: YtknpmldldlbniaaTotals.lean).
  GIVEN WITH THE SEED: the statements are not yours to turn. If you find one false, say at which input.
  Laid BY PROGRAM, IN A SANDBOX (cutbox-rows.mjs): the forced cells as the released guide's own fill.sh prints them over the translation 469c278383bf4c3d… (all of the seat's roots in one cut). By AI agents, Wed Nov 11 2026. No macro, syntax, notation, axiom, sorry.
-/
import Derived.Test.YtknpmldldlbniaaChecked
import GoSem.Claim
import GoSem.ClaimJoined
import GoSem.ClaimMapViews
import Derived.JoinedTies
import Derived.KernelRfl
namespace Go.Proofs.Ytknpmldldlbniaa
/- THE CELL 'sum', in the pinned program and in every row, IS THE sha256 OF THE DUMP (.gsa) THAT YtknpmldldlbniaaProg.lean LOADS. Nothing in Lean hashes anything: it is a label: what it is worth is what the hold of that sum in a sandbox is worth. -/
noncomputable def Try.pinned : Pinned := { name := "ytknpmldldlbniaa", sum := "469c278383bf4c3d2f227a9caf1861269d230ff6f36b4586033d2dda0658734f", checked := Try.checked }
namespace Rows
def none {H : Type} : Left H := { results := [], args := [] }

/-- 'rosterlaw02.BerHead': WHATEVER THE INPUT: true; the input reads as it did. -/
def berHeadSpec : ChangeSpec := { name := "berHead", fn := fun _ => fun
  | [d1, d2, d3] => { results := [.lit (.bool true)], args := [d1, d2, d3] }
  | _ => none }
def berHeadRow : OpenClaim := { program := "ytknpmldldlbniaa", sum := "469c278383bf4c3d2f227a9caf1861269d230ff6f36b4586033d2dda0658734f", func := "roster/rosterlaw02.BerHead", spec := "berHead", unfollowed := true, recurses := true, apart := false }
def BerHeadSaid : Prop := berHeadRow.holds Try.pinned (OpenSpec.ofChange berHeadSpec)

/-- ITS FALSE NEIGHBOUR: 'it returns false'. Refute it at one input. -/
def berHeadWrong : ChangeSpec := { name := "berHead", fn := fun _ => fun
  | [d1, d2, d3] => { results := [.lit (.bool false)], args := [d1, d2, d3] }
  | _ => none }
def BerHeadWrongFalsely : Prop := berHeadRow.holds Try.pinned (OpenSpec.ofChange berHeadWrong)

/-- 'rosterlaw02.BerNumbers': WHATEVER THE INPUT: true; the input reads as it did. -/
def berNumbersSpec : ChangeSpec := { name := "berNumbers", fn := fun _ => fun
  | [d] => { results := [.lit (.bool true)], args := [d] }
  | _ => none }
def berNumbersRow : OpenClaim := { program := "ytknpmldldlbniaa", sum := "469c278383bf4c3d2f227a9caf1861269d230ff6f36b4586033d2dda0658734f", func := "roster/rosterlaw02.BerNumbers", spec := "berNumbers", unfollowed := true, recurses := true, apart := false }
def BerNumbersSaid : Prop := berNumbersRow.holds Try.pinned (OpenSpec.ofChange berNumbersSpec)

/-- ITS FALSE NEIGHBOUR: 'it returns false'. Refute it at one input. -/
def berNumbersWrong : ChangeSpec := { name := "berNumbers", fn := fun _ => fun
  | [d] => { results := [.lit (.bool false)], args := [d] }
  | _ => none }
def BerNumbersWrongFalsely : Prop := berNumbersRow.holds Try.pinned (OpenSpec.ofChange berNumbersWrong)

/-- 'rosterlaw02.BerWrites': WHATEVER THE INPUT: true; the input reads as it did. -/
def berWritesSpec : ChangeSpec := { name := "berWrites", fn := fun _ => fun
  | [d1, d2] => { results := [.lit (.bool true)], args := [d1, d2] }
  | _ => none }
def berWritesRow : OpenClaim := { program := "ytknpmldldlbniaa", sum := "469c278383bf4c3d2f227a9caf1861269d230ff6f36b4586033d2dda0658734f", func := "roster/rosterlaw02.BerWrites", spec := "berWrites", unfollowed := true, recurses := true, apart := false }
def BerWritesSaid : Prop := berWritesRow.holds Try.pinned (OpenSpec.ofChange berWritesSpec)

/-- ITS FALSE NEIGHBOUR: 'it returns false'. Refute it at one input. -/
def berWritesWrong : ChangeSpec := { name := "berWrites", fn := fun _ => fun
  | [d1, d2] => { results := [.lit (.bool false)], args := [d1, d2] }
  | _ => none }
def BerWritesWrongFalsely : Prop := berWritesRow.holds Try.pinned (OpenSpec.ofChange berWritesWrong)

/-- 'rosterlaw02.BerNil': WHATEVER THE INPUT: true; the input reads as it did. -/
def berNilSpec : ChangeSpec := { name := "berNil", fn := fun _ => fun
  | [d] => { results := [.lit (.bool true)], args := [d] }
  | _ => none }
def berNilRow : OpenClaim := { program := "ytknpmldldlbniaa", sum := "469c278383bf4c3d2f227a9caf1861269d230ff6f36b4586033d2dda0658734f", func := "roster/rosterlaw02.BerNil", spec := "berNil", unfollowed := true, recurses := true, apart := false }
def BerNilSaid : Prop := berNilRow.holds Try.pinned (OpenSpec.ofChange berNilSpec)

/-- ITS FALSE NEIGHBOUR: 'it returns false'. Refute it at one input. -/
def berNilWrong : ChangeSpec := { name := "berNil", fn := fun _ => fun
  | [d] => { results := [.lit (.bool false)], args := [d] }
  | _ => none }
def BerNilWrongFalsely : Prop := berNilRow.holds Try.pinned (OpenSpec.ofChange berNilWrong)

/-- 'rosterlaw02.BerBodies': WHATEVER THE INPUT: true; the input reads as it did. -/
def berBodiesSpec : ChangeSpec := { name := "berBodies", fn := fun _ => fun
  | [d1, d2] => { results := [.lit (.bool true)], args := [d1, d2] }
  | _ => none }
def berBodiesRow : OpenClaim := { program := "ytknpmldldlbniaa", sum := "469c278383bf4c3d2f227a9caf1861269d230ff6f36b4586033d2dda0658734f", func := "roster/rosterlaw02.BerBodies", spec := "berBodies", unfollowed := true, recurses := true, apart := false }
def BerBodiesSaid : Prop := berBodiesRow.holds Try.pinned (OpenSpec.ofChange berBodiesSpec)

/-- ITS FALSE NEIGHBOUR: 'it returns false'. Refute it at one input. -/
def berBodiesWrong : ChangeSpec := { name := "berBodies", fn := fun _ => fun
  | [d1, d2] => { results := [.lit (.bool false)], args := [d1, d2] }
  | _ => none }
def BerBodiesWrongFalsely : Prop := berBodiesRow.holds Try.pinned (OpenSpec.ofChange berBodiesWrong)

/-- 'rosterlaw02.BerKnown': WHATEVER THE INPUT: true; the input reads as it did. -/
def berKnownSpec : ChangeSpec := { name := "berKnown", fn := fun _ => fun
  | [] => { results := [.lit (.bool true)], args := [] }
  | _ => none }
def berKnownRow : OpenClaim := { program := "ytknpmldldlbniaa", sum := "469c278383bf4c3d2f227a9caf1861269d230ff6f36b4586033d2dda0658734f", func := "roster/rosterlaw02.BerKnown", spec := "berKnown", unfollowed := true, recurses := true, apart := false }
def BerKnownSaid : Prop := berKnownRow.holds Try.pinned (OpenSpec.ofChange berKnownSpec)

/-- ITS FALSE NEIGHBOUR: 'it returns false'. Refute it at one input. -/
def berKnownWrong : ChangeSpec := { name := "berKnown", fn := fun _ => fun
  | [] => { results := [.lit (.bool false)], args := [] }
  | _ => none }
def BerKnownWrongFalsely : Prop := berKnownRow.holds Try.pinned (OpenSpec.ofChange berKnownWrong)

/-- 'rosterlaw02.BerBack': WHATEVER THE INPUT: true; the input reads as it did. -/
def berBackSpec : ChangeSpec := { name := "berBack", fn := fun _ => fun
  | [d] => { results := [.lit (.bool true)], args := [d] }
  | _ => none }
def berBackRow : OpenClaim := { program := "ytknpmldldlbniaa", sum := "469c278383bf4c3d2f227a9caf1861269d230ff6f36b4586033d2dda0658734f", func := "roster/rosterlaw02.BerBack", spec := "berBack", unfollowed := true, recurses := true, loops := true, apart := false }
def BerBackSaid : Prop := berBackRow.holds Try.pinned (OpenSpec.ofChange berBackSpec)

/-- ITS FALSE NEIGHBOUR: 'it returns false'. Refute it at one input. -/
def berBackWrong : ChangeSpec := { name := "berBack", fn := fun _ => fun
  | [d] => { results := [.lit (.bool false)], args := [d] }
  | _ => none }
def BerBackWrongFalsely : Prop := berBackRow.holds Try.pinned (OpenSpec.ofChange berBackWrong)

/-- 'rosterlaw02.BerWhole': WHATEVER THE INPUT: true; the input reads as it did. -/
def berWholeSpec : ChangeSpec := { name := "berWhole", fn := fun _ => fun
  | [d1, d2, d3, d4] => { results := [.lit (.bool true)], args := [d1, d2, d3, d4] }
  | _ => none }
def berWholeRow : OpenClaim := { program := "ytknpmldldlbniaa", sum := "469c278383bf4c3d2f227a9caf1861269d230ff6f36b4586033d2dda0658734f", func := "roster/rosterlaw02.BerWhole", spec := "berWhole", unfollowed := true, recurses := true, apart := false }
def BerWholeSaid : Prop := berWholeRow.holds Try.pinned (OpenSpec.ofChange berWholeSpec)

/-- ITS FALSE NEIGHBOUR: 'it returns false'. Refute it at one input. -/
def berWholeWrong : ChangeSpec := { name := "berWhole", fn := fun _ => fun
  | [d1, d2, d3, d4] => { results := [.lit (.bool false)], args := [d1, d2, d3, d4] }
  | _ => none }
def BerWholeWrongFalsely : Prop := berWholeRow.holds Try.pinned (OpenSpec.ofChange berWholeWrong)

/-- 'rosterlaw02.BerSides': WHATEVER THE INPUT: true; the input reads as it did. -/
def berSidesSpec : ChangeSpec := { name := "berSides", fn := fun _ => fun
  | [d] => { results := [.lit (.bool true)], args := [d] }
  | _ => none }
def berSidesRow : OpenClaim := { program := "ytknpmldldlbniaa", sum := "469c278383bf4c3d2f227a9caf1861269d230ff6f36b4586033d2dda0658734f", func := "roster/rosterlaw02.BerSides", spec := "berSides", unfollowed := true, recurses := true, apart := false }
def BerSidesSaid : Prop := berSidesRow.holds Try.pinned (OpenSpec.ofChange berSidesSpec)

/-- ITS FALSE NEIGHBOUR: 'it returns false'. Refute it at one input. -/
def berSidesWrong : ChangeSpec := { name := "berSides", fn := fun _ => fun
  | [d] => { results := [.lit (.bool false)], args := [d] }
  | _ => none }
def BerSidesWrongFalsely : Prop := berSidesRow.holds Try.pinned (OpenSpec.ofChange berSidesWrong)

/- THE SECOND FORM. 'bulk': how many values and letters a reading holds, each counted each time it is reached (what is shared counts as often as it is met; a slice's spare places count too). A statement '..UptoSaid' is the law's where the arguments, and the package variables that the reading takes, are together of bulk at most 1048576: NARROWER than '..Said'. Prove '..Said' where nothing that the law and all that it calls make is longer than what came in: it says more and counts as full. Else prove '..UptoSaid'. A law counts once. -/
mutual
def uptoBulk {H : Type} : DataW H → Nat
  | .lit (.string bytes) => bytes.length + 1
  | .lit _ => 1
  | .nil => 1
  | .ptr d => uptoBulk d + 1
  | .slice elems spare => uptoBulkAll elems + uptoBulkAll spare + 1
  | .agg parts => uptoBulkAll parts + 1
  | .iface _ d => uptoBulk d + 1
  | .map entries => uptoBulkEntries entries + 1
  | .held _ => 1
def uptoBulkAll {H : Type} : List (DataW H) → Nat
  | [] => 0
  | d :: r => uptoBulk d + uptoBulkAll r
def uptoBulkEntries {H : Type} : List (Lit × DataW H) → Nat
  | [] => 0
  | x :: r => uptoBulkEntry x + uptoBulkEntries r
def uptoBulkEntry {H : Type} : Lit × DataW H → Nat
  | (.string bytes, d) => bytes.length + uptoBulk d + 1
  | (_, d) => uptoBulk d + 1
 end
def uptoSmall : (H : Type) → List (DataW H) → Bool := fun _ ds => decide (uptoBulkAll ds ≤ 1048576)
def OpenSpec.upto (s : _root_.Go.ChangeSpec) : _root_.Go.OpenSpec := { _root_.Go.OpenSpec.ofChange s with cond := some uptoSmall }

/-- 'rosterlaw02.BerHead', WHERE WHAT IT READS IS OF BULK AT MOST 1048576: true; the input reads as it did. -/
def berHeadUptoRow : OpenClaim := { program := "ytknpmldldlbniaa", sum := "469c278383bf4c3d2f227a9caf1861269d230ff6f36b4586033d2dda0658734f", func := "roster/rosterlaw02.BerHead", spec := "berHead", unfollowed := true, recurses := true, apart := false, narrowed := true }
def BerHeadUptoSaid : Prop := berHeadUptoRow.holds Try.pinned (OpenSpec.upto berHeadSpec)

/-- 'rosterlaw02.BerNumbers', WHERE WHAT IT READS IS OF BULK AT MOST 1048576: true; the input reads as it did. -/
def berNumbersUptoRow : OpenClaim := { program := "ytknpmldldlbniaa", sum := "469c278383bf4c3d2f227a9caf1861269d230ff6f36b4586033d2dda0658734f", func := "roster/rosterlaw02.BerNumbers", spec := "berNumbers", unfollowed := true, recurses := true, apart := false, narrowed := true }
def BerNumbersUptoSaid : Prop := berNumbersUptoRow.holds Try.pinned (OpenSpec.upto berNumbersSpec)

/-- 'rosterlaw02.BerWrites', WHERE WHAT IT READS IS OF BULK AT MOST 1048576: true; the input reads as it did. -/
def berWritesUptoRow : OpenClaim := { program := "ytknpmldldlbniaa", sum := "469c278383bf4c3d2f227a9caf1861269d230ff6f36b4586033d2dda0658734f", func := "roster/rosterlaw02.BerWrites", spec := "berWrites", unfollowed := true, recurses := true, apart := false, narrowed := true }
def BerWritesUptoSaid : Prop := berWritesUptoRow.holds Try.pinned (OpenSpec.upto berWritesSpec)

/-- 'rosterlaw02.BerNil', WHERE WHAT IT READS IS OF BULK AT MOST 1048576: true; the input reads as it did. -/
def berNilUptoRow : OpenClaim := { program := "ytknpmldldlbniaa", sum := "469c278383bf4c3d2f227a9caf1861269d230ff6f36b4586033d2dda0658734f", func := "roster/rosterlaw02.BerNil", spec := "berNil", unfollowed := true, recurses := true, apart := false, narrowed := true }
def BerNilUptoSaid : Prop := berNilUptoRow.holds Try.pinned (OpenSpec.upto berNilSpec)

/-- 'rosterlaw02.BerBodies', WHERE WHAT IT READS IS OF BULK AT MOST 1048576: true; the input reads as it did. -/
def berBodiesUptoRow : OpenClaim := { program := "ytknpmldldlbniaa", sum := "469c278383bf4c3d2f227a9caf1861269d230ff6f36b4586033d2dda0658734f", func := "roster/rosterlaw02.BerBodies", spec := "berBodies", unfollowed := true, recurses := true, apart := false, narrowed := true }
def BerBodiesUptoSaid : Prop := berBodiesUptoRow.holds Try.pinned (OpenSpec.upto berBodiesSpec)

/-- 'rosterlaw02.BerKnown', WHERE WHAT IT READS IS OF BULK AT MOST 1048576: true; the input reads as it did. -/
def berKnownUptoRow : OpenClaim := { program := "ytknpmldldlbniaa", sum := "469c278383bf4c3d2f227a9caf1861269d230ff6f36b4586033d2dda0658734f", func := "roster/rosterlaw02.BerKnown", spec := "berKnown", unfollowed := true, recurses := true, apart := false, narrowed := true }
def BerKnownUptoSaid : Prop := berKnownUptoRow.holds Try.pinned (OpenSpec.upto berKnownSpec)

/-- 'rosterlaw02.BerBack', WHERE WHAT IT READS IS OF BULK AT MOST 1048576: true; the input reads as it did. -/
def berBackUptoRow : OpenClaim := { program := "ytknpmldldlbniaa", sum := "469c278383bf4c3d2f227a9caf1861269d230ff6f36b4586033d2dda0658734f", func := "roster/rosterlaw02.BerBack", spec := "berBack", unfollowed := true, recurses := true, loops := true, apart := false, narrowed := true }
def BerBackUptoSaid : Prop := berBackUptoRow.holds Try.pinned (OpenSpec.upto berBackSpec)

/-- 'rosterlaw02.BerWhole', WHERE WHAT IT READS IS OF BULK AT MOST 1048576: true; the input reads as it did. -/
def berWholeUptoRow : OpenClaim := { program := "ytknpmldldlbniaa", sum := "469c278383bf4c3d2f227a9caf1861269d230ff6f36b4586033d2dda0658734f", func := "roster/rosterlaw02.BerWhole", spec := "berWhole", unfollowed := true, recurses := true, apart := false, narrowed := true }
def BerWholeUptoSaid : Prop := berWholeUptoRow.holds Try.pinned (OpenSpec.upto berWholeSpec)

/-- 'rosterlaw02.BerSides', WHERE WHAT IT READS IS OF BULK AT MOST 1048576: true; the input reads as it did. -/
def berSidesUptoRow : OpenClaim := { program := "ytknpmldldlbniaa", sum := "469c278383bf4c3d2f227a9caf1861269d230ff6f36b4586033d2dda0658734f", func := "roster/rosterlaw02.BerSides", spec := "berSides", unfollowed := true, recurses := true, apart := false, narrowed := true }
def BerSidesUptoSaid : Prop := berSidesUptoRow.holds Try.pinned (OpenSpec.upto berSidesSpec)

end Rows
end Go.Proofs.Ytknpmldldlbniaa
