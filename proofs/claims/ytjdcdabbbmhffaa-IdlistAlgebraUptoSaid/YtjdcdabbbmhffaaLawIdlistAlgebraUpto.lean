/- The law IdlistAlgebra holds in its second form: where the arguments are together of bulk at most 1048576, the call answers true and leaves the arguments as they were. -/
import Derived.Test.YtjdcdabbbmhffaaRows
import Derived.Test.YtjdcdabbbmhffaaEvLay
import Derived.Test.YtjdcdabbbmhffaaAlg
import Derived.WalkKit
import Derived.OpenShut
import Derived.ChangeOld
import Derived.JoinedCond
namespace Go.Proofs.Ytjdcdabbbmhffaa.idlistAlgebra
open Go.ChangeShapes Go.WideShapes Go.ChangeAt Go.RowKit
theorem own : ownKnob Try.prog.godebug = none := by kernel_rfl
theorem laid : laidOutB Try.prog = true := by kernel_rfl
theorem readable : (Try.f11.params.toList.all fun t => Try.prog.readableRec t && decide (t < Try.prog.types.size)) = true := by kernel_rfl
theorem goes : Ev.isGo Try.prog 11 = true := by kernel_rfl
theorem layable : Ev.layableB Try.prog [22, 23] = true := by kernel_rfl
set_option maxRecDepth 100000 in
theorem contract (H : Type) (enc : TypeId × Value → H) (W : World) (base : Nat) (args : Array Value) (ds gs : List (DataW H)) (before : List MemPlace)
    (hval : ∀ (j : Nat) t v, Try.f11.params[j]? = some t → args[j]? = some v → Value.okWide Try.prog W .any base t v)
    (hW : DataW.Whole enc Try.prog Try.f11.params.toList Rows.idlistAlgebraSpec.vars false W args.toList ds gs before) (hk : Rows.uptoSmall H (ds ++ gs) = true) :
    Calls Try.prog 11 args W fun e W' => ∃ v, e = .returned v ∧ Rows.idlistAlgebraSpec.post enc Try.prog Try.f11 false true false false W args v W' := by
  have hW' := hW
  obtain ⟨p, q, hA0, hV, rfl, hfz, hnd⟩ := hW
  have hA : DataW.TrodAll enc Try.prog W 0 (fun _ => true) true Try.f11.params.toList args.toList ds p := hA0
  have hlt : ∀ x ∈ p, x.block < W.heap.size := fun x hx => by simpa using hW'.lt x (List.mem_append_left _ hx)
  obtain ⟨rfl, rfl⟩ := trodVars_none hV
  obtain ⟨ρ, u, vs, R, _, V, D⟩ := Ev.lay_all layable (ts := Try.f11.params.toList) (by rw [Try.params11]; decide) (fun j t v h1 h2 => hval j t v (by simpa using h1) (by simpa using h2)) hA (Ev.Rel.nil W)
  have C := (IdlistAlgebra_law (n0 := W.heap.size) (by rw [Try.params11] at D; exact D) (by simpa using hk)).law goes R V
  rw [Array.toArray_toList] at C
  refine C.mono fun e W' ⟨he, bel⟩ => ?_
  subst he
  have hA' := Ev.trodAll_below laid bel readable hA hlt
  have hlen := Ev.RdAll.length D
  rw [Try.params11] at hlen
  obtain ⟨d0, d1, d2, rfl⟩ : ∃ d0 d1 d2, ds = [d0, d1, d2] := by
    match ds, hlen with
    | [d0, d1, d2], _ => exact ⟨d0, d1, d2, rfl⟩
  exact ⟨_, rfl, _, _, _, [], _, [], hW', trodAll_mk1 (shut_bool Try.underlying4 _), hA', rfl, bel.frame _, fun h => by cases h⟩
set_option maxRecDepth 100000 in
theorem lifted (os : Os) (started : os.Started) (H : Type) (enc : TypeId × Value → H) (F : Stop.Interp) :
    ReturnsInHanded {} Try.checked os 11 .any ((Rows.OpenSpec.upto Rows.idlistAlgebraSpec).pre6 enc Try.prog Try.f11 Rows.idlistAlgebraUptoRow.domain false) (((Rows.OpenSpec.upto Rows.idlistAlgebraSpec).at F).post enc Try.prog Try.f11 false true false false) := by
  refine returnsInHanded_of_cond (C := Try.checked) (s := Rows.OpenSpec.upto Rows.idlistAlgebraSpec) (k := Rows.uptoSmall) rfl own started (by kernel_rfl) Try.func11
    (OpenSpec.witness (enc := enc) (C := Try.checked) (s := Rows.OpenSpec.upto Rows.idlistAlgebraSpec) (k := Rows.uptoSmall) rfl false ⟨#[], #[.slice none 0 0, .slice none 0 0, .int .u64 0], []⟩ 8 (by kernel_rfl) (by kernel_rfl) (by kernel_rfl)
      (x := ([.nil, .nil, .lit (.int .u64 0)], [], [])) (by kernel_rfl) rfl (by kernel_rfl)) ?_
  intro W base args ds gs before hval hW _ hk _
  exact contract H enc W base args ds gs before hval hW hk
theorem proved : Rows.IdlistAlgebraUptoSaid :=
  OpenClaim.holds_of_cond 11 Try.f11 rfl rfl rfl rfl rfl rfl rfl ⟨rfl, rfl, rfl, rfl, rfl⟩ rfl rfl rfl rfl rfl (by kernel_rfl) Try.func11 (by kernel_rfl)
    (of_decide_eq_true (by kernel_rfl)) (by unfold Func.isWrapper; first | (rw [if_pos (by decide +kernel)]; kernel_rfl) | (rw [if_neg (by decide +kernel)]; exact ⟨rfl, rfl⟩))
    (fun os started H enc _ F => lifted os started H enc F)
end Go.Proofs.Ytjdcdabbbmhffaa.idlistAlgebra
namespace Go.Proofs.Ytjdcdabbbmhffaa
/-- The row, under a short name, for the claim. -/
theorem idlistAlgebraUpto_holds : Rows.IdlistAlgebraUptoSaid := idlistAlgebra.proved
#print axioms idlistAlgebraUpto_holds
end Go.Proofs.Ytjdcdabbbmhffaa
