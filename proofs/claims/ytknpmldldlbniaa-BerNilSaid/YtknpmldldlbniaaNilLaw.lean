/- BerNil, out of what its argument reads as. No condition. -/
import Derived.Test.YtknpmldldlbniaaNil
import Derived.Test.YtknpmldldlbniaaEvLay
namespace Go.Proofs.Ytknpmldldlbniaa
open Go.Ev
theorem fields47 : (Try.prog.underlying 47).map fldsOf = some [(3, 0), (24, 1), (3, 2), (2, 3), (9, 4)] := by kernel_rfl
theorem cells47 : Try.prog.cellsOf 47 = 5 := by kernel_rfl
theorem cells3 : Try.prog.cellsOf 3 = 1 := by kernel_rfl
theorem cells24 : Try.prog.cellsOf 24 = 1 := by kernel_rfl
theorem cells2 : Try.prog.cellsOf 2 = 1 := by kernel_rfl
theorem cells9 : Try.prog.cellsOf 9 = 1 := by kernel_rfl
set_option maxRecDepth 20000 in
theorem step_reads {H' : Type} {h : H} {cs : List Value} {d : DataW H'} (r : Rd Try.prog h 47 cs d) : ∃ s : Step, cs = s.v'.cells.toList ∧ (-2 ^ 63 ≤ s.v ∧ s.v < 2 ^ 63) := by
  obtain ⟨ds, rfl, hl, hd, hf⟩ := r.inv_fields fields47 (by simp) cells47
  match cs, hl, ds, hd with
  | [c0, c1, c2, c3, c4], _, [d0, d1, d2, d3, d4], _ =>
    have h0 := hf 0 3 0 d0 rfl rfl
    have h1 := hf 1 24 1 d1 rfl rfl
    have h2 := hf 2 3 2 d2 rfl rfl
    have h3 := hf 3 2 3 d3 rfl rfl
    have h4 := hf 4 9 4 d4 rfl rfl
    rw [cells3] at h0 h2
    rw [cells24] at h1
    rw [cells2] at h3
    rw [cells9] at h4
    obtain ⟨n0, e0, _, w0⟩ := h0.inv_int Try.underlying3
    obtain ⟨n1, e1, _, w1⟩ := h1.inv_int Try.underlying24
    obtain ⟨n2, e2, _, w2⟩ := h2.inv_int Try.underlying3
    obtain ⟨n3, e3, _, w3⟩ := h3.inv_int Try.underlying2
    obtain ⟨n4, e4, _, w4⟩ := h4.inv_string Try.underlying9
    simp only [List.drop_zero, List.drop_succ_cons, List.take_succ_cons, List.take_zero, List.cons.injEq, and_true] at e0 e1 e2 e3 e4
    subst e0; subst e1; subst e2; subst e3; subst e4
    exact ⟨⟨n0, n1, n2, n3, n4⟩, rfl, i64_wf w3⟩
set_option maxRecDepth 20000 in
theorem BerNil_law {H' : Type} {n0 : Nat} {h : H} {vs : List Value} {ds : List (DataW H')} (R : RdAll Try.prog h [47] vs ds) : Cn Try.prog n0 (.func 6) vs h (fun v _ => v = .bool true) := by
  obtain ⟨v, vs, d, ds, rfl, rfl, r, R⟩ := R.cons
  obtain ⟨rfl, rfl⟩ := R.none
  obtain ⟨c, rfl, r2⟩ := r.agg' fields47 (by simp)
  obtain ⟨s, hs, h1, h2⟩ := step_reads r2
  have : Value.agg c = s.v' := by
    unfold Step.v' at hs ⊢
    congr 1; rw [← Array.toList_inj]; exact hs
  rw [this]
  exact BerNil_ok h1 h2
end Go.Proofs.Ytknpmldldlbniaa
