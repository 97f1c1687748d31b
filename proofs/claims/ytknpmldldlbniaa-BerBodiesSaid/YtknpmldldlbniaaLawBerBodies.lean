/- The law BerBodies holds: the call answers true and leaves the arguments as they were; no condition. -/
import Derived.Test.YtknpmldldlbniaaRows
import Derived.Test.YtknpmldldlbniaaEvLay
import Derived.Test.YtknpmldldlbniaaBodLaw2
import Derived.WalkKit
import Derived.OpenShut
import Derived.ChangeOld
import Derived.SizedLaws
namespace Go.Proofs.Ytknpmldldlbniaa.berBodies
open Go.ChangeShapes Go.WideShapes Go.ChangeAt Go.RowKit
theorem own : ownKnob Try.prog.godebug = none := by kernel_rfl
theorem laid : laidOutB Try.prog = true := by kernel_rfl
theorem readable : (Try.f7.params.toList.all fun t => Try.prog.readableRec t && decide (t < Try.prog.types.size)) = true := by kernel_rfl
theorem goes : Ev.isGo Try.prog 7 = true := by kernel_rfl
theorem layable : Ev.layableB Try.prog [22, 5, 26, 24, 4, 3] = true := by kernel_rfl
set_option maxRecDepth 100000 in
theorem contract (H : Type) (enc : TypeId × Value → H) (W : World) (base : Nat) (args : Array Value) (ds gs : List (DataW H)) (before : List MemPlace)
    (hval : ∀ (j : Nat) t v, Try.f7.params[j]? = some t → args[j]? = some v → Value.okWide Try.prog W .any base t v)
    (hW : DataW.Whole enc Try.prog Try.f7.params.toList Rows.berBodiesSpec.vars false W args.toList ds gs before) (hz : (DataW.weightsEach Try.prog (Try.f7.params.toList ++ Rows.berBodiesSpec.plain.varTypes Try.prog) (ds ++ gs)).all (· ≤ reachBytes) = true) :
    Calls Try.prog 7 args W fun e W' => ∃ v, e = .returned v ∧ Rows.berBodiesSpec.post enc Try.prog Try.f7 false true false false W args v W' := by
  have hW' := hW
  obtain ⟨p, q, hA0, hV, rfl, hfz, hnd⟩ := hW
  have hA : DataW.TrodAll enc Try.prog W 0 (fun _ => true) true Try.f7.params.toList args.toList ds p := hA0
  have hlt : ∀ x ∈ p, x.block < W.heap.size := fun x hx => by simpa using hW'.lt x (List.mem_append_left _ hx)
  obtain ⟨rfl, rfl⟩ := trodVars_none hV
  rw [show Rows.berBodiesSpec.plain.varTypes Try.prog = [] from rfl, List.append_nil, List.append_nil] at hz
  obtain ⟨ρ, u, vs, R, _, V, D⟩ := Ev.lay_all layable (ts := Try.f7.params.toList) (by rw [Try.params7]; decide) (fun j t v h1 h2 => hval j t v (by simpa using h1) (by simpa using h2)) hA (Ev.Rel.nil W)
  have C := (BerBodies_law (n0 := W.heap.size) (by rw [Try.params7] at D; exact D) (by rw [Try.params7] at hz; exact hz)).law goes R V
  rw [Array.toArray_toList] at C
  refine C.mono fun e W' ⟨he, bel⟩ => ?_
  subst he
  have hA' := Ev.trodAll_below laid bel readable hA hlt
  have hlen := Ev.RdAll.length D
  rw [Try.params7] at hlen
  obtain ⟨d0, d1, rfl⟩ : ∃ d0 d1, ds = [d0, d1] := by
    match ds, hlen with
    | [d0, d1], _ => exact ⟨d0, d1, rfl⟩
  exact ⟨_, rfl, _, _, _, [], _, [], hW', trodAll_mk1 (shut_bool Try.underlying4 _), hA', rfl, bel.frame _, fun h => by cases h⟩
set_option maxRecDepth 100000 in
theorem lifted (os : Os) (started : os.Started) (H : Type) (enc : TypeId × Value → H) :
    ReturnsInHanded {} Try.checked os 7 .any (Rows.berBodiesSpec.pre6 enc Try.prog Try.f7 Rows.berBodiesRow.domain false) (Rows.berBodiesSpec.post enc Try.prog Try.f7 false true false false) := by
  refine returnsInHanded_of_change_sized (C := Try.checked) own started (by kernel_rfl) Try.func7
    (ChangeSpec.witness6 (enc := enc) (C := Try.checked) false ⟨#[], #[.slice none 0 0, .agg #[.int .i8 0, .bool false, .int .i64 0, .int .i64 0, .int .i64 0]], []⟩ 8 (by kernel_rfl) (by kernel_rfl) (by kernel_rfl) (by kernel_rfl)) ?_
  intro W base args ds gs before hval hW _ hz _
  exact contract H enc W base args ds gs before hval hW hz
theorem proved : Rows.BerBodiesSaid :=
  OpenClaim.holds_of_wide 7 Try.f7 rfl rfl rfl rfl rfl rfl rfl ⟨rfl, rfl, rfl, rfl, rfl⟩ rfl rfl rfl rfl rfl (by kernel_rfl) Try.func7 (by kernel_rfl)
    (of_decide_eq_true (by kernel_rfl)) (by unfold Func.isWrapper; first | (rw [if_pos (by decide +kernel)]; kernel_rfl) | (rw [if_neg (by decide +kernel)]; exact ⟨rfl, rfl⟩))
    (fun os started H enc _ => lifted os started H enc)
end Go.Proofs.Ytknpmldldlbniaa.berBodies
namespace Go.Proofs.Ytknpmldldlbniaa
/-- The row, under a short name, for the claim. -/
theorem berBodies_holds : Rows.BerBodiesSaid := berBodies.proved
#print axioms berBodies_holds
end Go.Proofs.Ytknpmldldlbniaa
