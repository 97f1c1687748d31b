/- A part of the proof that what the evaluator of YtjdcdabbbmhffaaEvCore answers, the call answers in the model. No condition. -/
import Derived.Test.YtjdcdabbbmhffaaEvOp7
set_option linter.unusedVariables false
set_option linter.unusedSimpArgs false
namespace Go.Ev
open Go.RowKit (Below)
variable {P : Program} {D : List Deferred} {rr : Option Nat} {n0 : Nat} {ρ : Rho} {h h' : H} {w : World}

theorem wantedB_sound {nt : Nat} {fr : Fr} {a : Act} (F : FR ρ nt D fr a) {ops : Array Oper} {o : Oper} {b : Bool} (e : wantedB ops o.guard fr = some b) : Region.wanted o (yielded ops a.tmps) = b := by
  unfold wantedB at e
  unfold Region.wanted
  split at e
  · rename_i hg; rw [hg]; cases e; rfl
  · rename_i j want hg
    rw [hg]
    simp only [yielded]
    split at e
    · rename_i hd; rw [hd]; cases e; rfl
    · rename_i d hd
      rw [hd]
      simp only [Option.bind_some]
      split at e
      · rename_i b' hb
        obtain ⟨v', h1, h2⟩ := F.get d _ hb
        rw [(VR.lit_iff rfl).1 h2] at h1
        rw [h1]; cases e; simp
      · rename_i v hnb hb
        obtain ⟨v', h1, h2⟩ := F.get d _ hb
        cases e
        rw [h1]
        cases v' <;> first | rfl | (cases h2; exact absurd rfl (hnb _))
      · cases e

/-- behind a piece of code: the frame and the heap of the evaluator, related -/
structure St (P : Program) (n0 : Nat) (nt : Nat) (D : List Deferred) (w0 : World) (ρ0 : Rho) (fr : Fr) (h : H) (a : Act) (w : World) : Prop where
  ex : ∃ ρ, Le ρ0 ρ ∧ Rel n0 ρ h w ∧ FR ρ nt D fr a ∧ Below n0 w0 w

theorem evOps_sound {call : CallT} (hcall : CallOk P n0 call) {nt : Nat} {ops : Array Oper} {Q : Exit → Act → World → Prop} : ∀ (l : List Oper) (ρ : Rho) (fr : Fr) (h : H) (a : Act) (w : World) (fr' : Fr) (h' : H),
    Rel n0 ρ h w → FR ρ nt D fr a → evOps P call nt ops l fr h = some (fr', h') → (∀ a' w', St P n0 nt D w ρ fr' h' a' w' → Q .normal a' w') → wpListIn (Wf rr) 0 P ops Q l a w
  | [], ρ, fr, h, a, w, fr', h', R, F, e, k => by
    simp [evOps] at e
    obtain ⟨rfl, rfl⟩ := e
    exact wpListIn_nil (k a w ⟨ρ, Le.refl _, R, F, Below.refl _ _⟩)
  | o :: r, ρ, fr, h, a, w, fr', h', R, F, e, k => by
    simp only [evOps] at e
    simp only [wpListIn]
    split at e
    · rename_i hw
      rw [wantedB_sound F hw]
      simp only [Option.bind_eq_some_iff] at e
      obtain ⟨⟨v, h1⟩, he, fr1, hp, e⟩ := e
      simp only [if_true]
      refine evOp_sound hcall R F o he fun v' w' hA => ?_
      obtain ⟨ρ', a1, a2, a3, a4⟩ := hA
      refine evOps_sound hcall r ρ' fr1 h1 _ w' fr' h' a3 ((F.mono a1).put hp a2) e fun a' w'' hs => k a' w'' ?_
      obtain ⟨ρ2, b1, b2, b3, b4⟩ := hs
      exact ⟨ρ2, a1.trans b1, b2, b3, a4.trans b4⟩
    · rename_i hw
      rw [wantedB_sound F hw]
      simp only [Option.bind_eq_some_iff] at e
      obtain ⟨fr1, hp, e⟩ := e
      simp only [Bool.false_eq_true, if_false]
      exact ⟨fun _ _ => trivial, evOps_sound hcall r ρ fr1 h _ w fr' h' R (F.put hp .undef) e k⟩
    · cases e
end Go.Ev
