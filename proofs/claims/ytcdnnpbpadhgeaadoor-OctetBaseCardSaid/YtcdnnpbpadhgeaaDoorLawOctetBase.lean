/- The law OctetBase holds: the call answers true and leaves the arguments as they were, whatever the memory in which the listed variables read as listed; no other condition. -/
import Derived.Test.YtcdnnpbpadhgeaaDoorRows
import Derived.Test.YtcdnnpbpadhgeaaDoorTie
import Derived.Test.YtcdnnpbpadhgeaaDoorCards
import Derived.Test.YtcdnnpbpadhgeaaDoorChecked
import Derived.Test.YtcdnnpbpadhgeaaDoorEvLay
import Derived.Test.YtcdnnpbpadhgeaaDoorBaseLaw
import Derived.WalkKit
import Derived.ProofKit
import Derived.OpenShut
import Derived.ChangeOld
import Derived.LaidMore
import Derived.Lay
import Derived.SevenTiedAt
import Derived.Stop.Joined
import Derived.Below
import Derived.SizedLaws

namespace Go.Proofs.YtcdnnpbpadhgeaaDoor.octetBase
open Go.ChangeShapes Go.WideShapes Go.ChangeAt Go.RowKit
theorem own : ownKnob Tryd.prog.godebug = none := by kernel_rfl
theorem laid : laidOutB Tryd.prog = true := by kernel_rfl
theorem readable : (Tryd.f6.params.toList.all fun t => Tryd.prog.readableRec t && decide (t < Tryd.prog.types.size)) = true := by kernel_rfl
theorem goes : Ev.isGo Tryd.prog 6 = true := by kernel_rfl
theorem layable : Ev.layableB Tryd.prog [9] = true := by kernel_rfl
set_option maxRecDepth 100000 in
theorem contract (H : Type) (enc : TypeId × Value → H) (W : World) (base : Nat) (args : Array Value) (ds gs : List (DataW H)) (before : List MemPlace)
    (hval : ∀ (j : Nat) t v, Tryd.f6.params[j]? = some t → args[j]? = some v → Value.okWide Tryd.prog W .any base t v)
    (hW : DataW.Whole enc Tryd.prog Tryd.f6.params.toList Rows.octetBaseSpec.vars false W args.toList ds gs before) (hz : (DataW.weightsEach Tryd.prog (Tryd.f6.params.toList ++ Rows.octetBaseSpec.plain.varTypes Tryd.prog) (ds ++ gs)).all (· ≤ reachBytes) = true) :
    Calls Tryd.prog 6 args W fun e W' => ∃ v, e = .returned v ∧ Rows.octetBaseSpec.post enc Tryd.prog Tryd.f6 false true false false W args v W' := by
  have hW' := hW
  obtain ⟨p, q, hA0, hV, rfl, hfz, hnd⟩ := hW
  have hA : DataW.TrodAll enc Tryd.prog W 0 (fun _ => true) true Tryd.f6.params.toList args.toList ds p := hA0
  have hlt : ∀ x ∈ p, x.block < W.heap.size := fun x hx => by simpa using hW'.lt x (List.mem_append_left _ hx)
  obtain ⟨rfl, rfl⟩ := trodVars_none hV
  rw [show Rows.octetBaseSpec.plain.varTypes Tryd.prog = [] from rfl, List.append_nil, List.append_nil] at hz
  obtain ⟨ρ, u, vs, R, _, V, D⟩ := Ev.lay_all layable (ts := Tryd.f6.params.toList) (by rw [Tryd.params6]; decide) (fun j t v h1 h2 => hval j t v (by simpa using h1) (by simpa using h2)) hA (Ev.Rel.nil W)
  have C := (OctetBase_law (n0 := W.heap.size) (by rw [Tryd.params6] at D; exact D) (by rw [Tryd.params6] at hz; exact hz)).law goes R V
  rw [Array.toArray_toList] at C
  refine C.mono fun e W' ⟨he, bel⟩ => ?_
  subst he
  have hA' := Ev.trodAll_below laid bel readable hA hlt
  have hlen := Ev.RdAll.length D
  rw [Tryd.params6] at hlen
  obtain ⟨d0, d1, rfl⟩ : ∃ d0 d1, ds = [d0, d1] := by
    match ds, hlen with
    | [d0, d1], _ => exact ⟨d0, d1, rfl⟩
  exact ⟨_, rfl, _, _, _, [], _, [], hW', trodAll_mk1 (shut_bool Tryd.underlying4 _), hA', rfl, bel.frame _, fun h => by cases h⟩
set_option maxRecDepth 100000 in
theorem lifted (os : Os) (started : os.Started) (H : Type) (enc : TypeId × Value → H) :
    ReturnsInHanded {} Tryd.checked os 6 .any (fun w args => (Rows.octetBaseSpec.pre enc Tryd.prog Tryd.f6 Rows.octetBaseRow.domain false w args ∧ laidMetH Tryd.prog Rows.octetBaseRow.laid w) ∧ sizedMet enc Tryd.prog Tryd.f6 (OpenSpec.ofChange Rows.octetBaseSpec) false w args)
      (Rows.octetBaseSpec.post enc Tryd.prog Tryd.f6 false true false false) := by
  refine returnsInHanded_of_change_and (C := Tryd.checked) (X := fun w _ => laidMetH Tryd.prog Rows.octetBaseRow.laid w) (fun _ _ _ hh h => h.of_heap hh) own started (by kernel_rfl) Tryd.func6
    (ChangeSpec.witness_shaped (enc := enc) (C := Tryd.checked) (os := os) (X := fun w _ => laidMetH Tryd.prog Rows.octetBaseRow.laid w) false (World.laidAll Tryd.prog os Rows.octetBaseRow.laid) #[.string .empty, .string .empty] 8 (World.laidAll_os _ _ _)
      (World.shaped_of_ZipB (by kernel_rfl) (by kernel_rfl)) (by kernel_rfl) (by kernel_rfl) (by kernel_rfl)
      (by rw [MakeChecks.laidMetH_plain _ _ _ (by kernel_rfl)]; exact laidMet_laidAll _ (by kernel_rfl) (by kernel_rfl))) ?_
  intro W base args ds gs before hval hW _ hz hL _
  exact contract H enc W base args ds gs before hval hW hz
theorem over : Rows.octetBaseRow.holds Tryd.pinned (OpenSpec.ofChange Rows.octetBaseSpec) :=
  OpenClaim.holds_of_wide 6 Tryd.f6 rfl rfl rfl rfl rfl rfl rfl ⟨rfl, rfl, rfl, rfl, rfl⟩ rfl rfl rfl rfl rfl (by kernel_rfl) Tryd.func6 (by kernel_rfl)
    (of_decide_eq_true (by kernel_rfl)) (by unfold Func.isWrapper; first | (rw [if_pos (by decide +kernel)]; kernel_rfl) | (rw [if_neg (by decide +kernel)]; exact ⟨rfl, rfl⟩))
    (fun os started H enc _ => lifted os started H enc)
theorem card : Rows.OctetBaseCardSaid :=
  Claim7.holds_tied_plain_at .later [] [.data, .pinned, .pinned] true (true, "87301c43dff1662eee7c4ba0d22df00147fe6bf749b8ac1d14b1bbdb66227ec9") false over (fun _ h => by cases h) (by kernel_rfl) (fun _ h => by cases h) octetBase_row_tie rfl ⟨rfl, rfl⟩ (by kernel_rfl) rfl
    (fun f fn hf hfn => by
      obtain rfl : f = 6 := Option.some.inj ((show Tryd.prog.funcNamed "roster/rosterlaw01.OctetBase" = some 6 by kernel_rfl).symm.trans hf) |>.symm
      obtain rfl : fn = Tryd.f6 := (Option.some.inj (Tryd.func6.symm.trans hfn)).symm
      exact ⟨by kernel_rfl, fun j t ht => by
        rw [Tryd.params6] at ht
        have hm : t ∈ [9, 9] := by simpa using Array.mem_of_getElem? ht
        have hall : ([9, 9].all fun u => !Tryd.prog.wantsStandIn u) = true := by kernel_rfl
        exact (show Tryd.prog.wantsStandIn t = false by simpa using List.all_eq_true.1 hall t hm)⟩)
    (by kernel_rfl)
end Go.Proofs.YtcdnnpbpadhgeaaDoor.octetBase
namespace Go.Proofs.YtcdnnpbpadhgeaaDoor
/-- The card, under a short name, for the claim. -/
theorem octetBase_holds : Rows.OctetBaseCardSaid := octetBase.card
#print axioms octetBase_holds
end Go.Proofs.YtcdnnpbpadhgeaaDoor
