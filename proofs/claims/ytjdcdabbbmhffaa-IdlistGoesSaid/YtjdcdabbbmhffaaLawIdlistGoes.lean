/- The law IdlistGoes holds: the call answers true and leaves the arguments as they were; no condition. -/
import Derived.Test.YtjdcdabbbmhffaaRows
import Derived.Test.YtjdcdabbbmhffaaEvLay
import Derived.Test.YtjdcdabbbmhffaaLaw4
import Derived.WalkKit
import Derived.OpenShut
import Derived.ChangeOld
import Derived.SizedLaws
namespace Go.Proofs.Ytjdcdabbbmhffaa.idlistGoes
open Go.ChangeShapes Go.WideShapes Go.ChangeAt Go.RowKit
theorem own : ownKnob Try.prog.godebug = none := by kernel_rfl
theorem laid : laidOutB Try.prog = true := by kernel_rfl
theorem readable : (Try.f4.params.toList.all fun t => Try.prog.readableRec t && decide (t < Try.prog.types.size)) = true := by kernel_rfl
theorem goes : Ev.isGo Try.prog 4 = true := by kernel_rfl
theorem layable : Ev.layableB Try.prog [22, 23, 3] = true := by kernel_rfl
set_option maxRecDepth 100000 in
theorem contract (H : Type) (enc : TypeId × Value → H) (W : World) (base : Nat) (args : Array Value) (ds gs : List (DataW H)) (before : List MemPlace)
    (hval : ∀ (j : Nat) t v, Try.f4.params[j]? = some t → args[j]? = some v → Value.okWide Try.prog W .any base t v)
    (hW : DataW.Whole enc Try.prog Try.f4.params.toList Rows.idlistGoesSpec.vars false W args.toList ds gs before) (hz : (DataW.weightsEach Try.prog (Try.f4.params.toList ++ Rows.idlistGoesSpec.plain.varTypes Try.prog) (ds ++ gs)).all (· ≤ reachBytes) = true) :
    Calls Try.prog 4 args W fun e W' => ∃ v, e = .returned v ∧ Rows.idlistGoesSpec.post enc Try.prog Try.f4 false true false false W args v W' := by
  have hW' := hW
  obtain ⟨p, q, hA0, hV, rfl, hfz, hnd⟩ := hW
  have hA : DataW.TrodAll enc Try.prog W 0 (fun _ => true) true Try.f4.params.toList args.toList ds p := hA0
  have hlt : ∀ x ∈ p, x.block < W.heap.size := fun x hx => by simpa using hW'.lt x (List.mem_append_left _ hx)
  obtain ⟨rfl, rfl⟩ := trodVars_none hV
  rw [show Rows.idlistGoesSpec.plain.varTypes Try.prog = [] from rfl, List.append_nil, List.append_nil] at hz
  obtain ⟨ρ, u, vs, R, _, V, D⟩ := Ev.lay_all layable (ts := Try.f4.params.toList) (by rw [Try.params4]; decide) (fun j t v h1 h2 => hval j t v (by simpa using h1) (by simpa using h2)) hA (Ev.Rel.nil W)
  have C := (IdlistGoes_law (n0 := W.heap.size) (by rw [Try.params4] at D; exact D) (by rw [Try.params4] at hz; exact hz)).law goes R V
  rw [Array.toArray_toList] at C
  refine C.mono fun e W' ⟨he, bel⟩ => ?_
  subst he
  have hA' := Ev.trodAll_below laid bel readable hA hlt
  have hlen := Ev.RdAll.length D
  rw [Try.params4] at hlen
  obtain ⟨d0, d1, d2, rfl⟩ : ∃ d0 d1 d2, ds = [d0, d1, d2] := by
    match ds, hlen with
    | [d0, d1, d2], _ => exact ⟨d0, d1, d2, rfl⟩
  exact ⟨_, rfl, _, _, _, [], _, [], hW', trodAll_mk1 (shut_bool Try.underlying4 _), hA', rfl, bel.frame _, fun h => by cases h⟩
set_option maxRecDepth 100000 in
theorem lifted (os : Os) (started : os.Started) (H : Type) (enc : TypeId × Value → H) :
    ReturnsInHanded {} Try.checked os 4 .any (Rows.idlistGoesSpec.pre6 enc Try.prog Try.f4 Rows.idlistGoesRow.domain false) (Rows.idlistGoesSpec.post enc Try.prog Try.f4 false true false false) := by
  refine returnsInHanded_of_change_sized (C := Try.checked) own started (by kernel_rfl) Try.func4
    (ChangeSpec.witness6 (enc := enc) (C := Try.checked) false ⟨#[], #[.slice none 0 0, .int .u64 0, .int .i64 0], []⟩ 8 (by kernel_rfl) (by kernel_rfl) (by kernel_rfl) (by kernel_rfl)) ?_
  intro W base args ds gs before hval hW _ hz _
  exact contract H enc W base args ds gs before hval hW hz
theorem proved : Rows.IdlistGoesSaid :=
  OpenClaim.holds_of_wide 4 Try.f4 rfl rfl rfl rfl rfl rfl rfl ⟨rfl, rfl, rfl, rfl, rfl⟩ rfl rfl rfl rfl rfl (by kernel_rfl) Try.func4 (by kernel_rfl)
    (of_decide_eq_true (by kernel_rfl)) (by unfold Func.isWrapper; first | (rw [if_pos (by decide +kernel)]; kernel_rfl) | (rw [if_neg (by decide +kernel)]; exact ⟨rfl, rfl⟩))
    (fun os started H enc _ => lifted os started H enc)
end Go.Proofs.Ytjdcdabbbmhffaa.idlistGoes
namespace Go.Proofs.Ytjdcdabbbmhffaa
/-- The row, under a short name, for the claim. -/
theorem idlistGoes_holds : Rows.IdlistGoesSaid := idlistGoes.proved
#print axioms idlistGoes_holds
end Go.Proofs.Ytjdcdabbbmhffaa
