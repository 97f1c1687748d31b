/- BerBodies, out of what its arguments read as. No condition but the size that every statement has. -/
import Derived.Test.YtknpmldldlbniaaBodLaw
import Derived.Test.YtknpmldldlbniaaEvLay
import Derived.SizedLaws
namespace Go.Proofs.Ytknpmldldlbniaa
open Go.Ev Ber
theorem fields26 : (Try.prog.underlying 26).map fldsOf = some [(24, 0), (4, 1), (3, 2), (3, 3), (3, 4)] := by kernel_rfl
theorem cells26 : Try.prog.cellsOf 26 = 5 := by kernel_rfl
theorem c3 : Try.prog.cellsOf 3 = 1 := by kernel_rfl
theorem c24 : Try.prog.cellsOf 24 = 1 := by kernel_rfl
theorem c4 : Try.prog.cellsOf 4 = 1 := by kernel_rfl
theorem c5 : Try.prog.cellsOf 5 = 1 := by kernel_rfl
theorem by5 : Try.prog.bytesOf 5 = 1 := by kernel_rfl
set_option maxRecDepth 20000 in
theorem tlv_reads {H' : Type} {h : H} {cs : List Value} {d : DataW H'} (r : Rd Try.prog h 26 cs d) : ∃ t : Tlv, cs = t.v.cells.toList := by
  obtain ⟨ds, rfl, hl, hd, hf⟩ := r.inv_fields fields26 (by simp) cells26
  match cs, hl, ds, hd with
  | [x0, x1, x2, x3, x4], _, [d0, d1, d2, d3, d4], _ =>
    have h0 := hf 0 24 0 d0 rfl rfl
    have h1 := hf 1 4 1 d1 rfl rfl
    have h2 := hf 2 3 2 d2 rfl rfl
    have h3 := hf 3 3 3 d3 rfl rfl
    have h4 := hf 4 3 4 d4 rfl rfl
    rw [c3] at h2 h3 h4
    rw [c24] at h0
    rw [c4] at h1
    obtain ⟨n0, e0, _, w0⟩ := h0.inv_int Try.underlying24
    obtain ⟨n1, e1, _⟩ := h1.inv_bool Try.underlying4
    obtain ⟨n2, e2, _, w2⟩ := h2.inv_int Try.underlying3
    obtain ⟨n3, e3, _, w3⟩ := h3.inv_int Try.underlying3
    obtain ⟨n4, e4, _, w4⟩ := h4.inv_int Try.underlying3
    simp only [List.drop_zero, List.drop_succ_cons, List.take_succ_cons, List.take_zero, List.cons.injEq, and_true] at e0 e1 e2 e3 e4
    subst e0; subst e1; subst e2; subst e3; subst e4
    exact ⟨⟨n0, n1, n2, n3, n4⟩, rfl⟩
set_option maxRecDepth 20000 in
theorem BerBodies_law {H' : Type} {n0 : Nat} {h : H} {vs : List Value} {ds : List (DataW H')} (R : RdAll Try.prog h [22, 26] vs ds) (hz : (DataW.weightsEach Try.prog [22, 26] ds).all (· ≤ reachBytes) = true) : Cn Try.prog n0 (.func 7) vs h (fun v _ => v = .bool true) := by
  obtain ⟨v, vs, d, ds, rfl, rfl, r, R⟩ := R.cons
  obtain ⟨v2, vs, d2, ds, rfl, rfl, r2, R⟩ := R.cons
  obtain ⟨rfl, rfl⟩ := R.none
  obtain ⟨bs, S, _, hs⟩ := r.bytes Try.underlying22 Try.underlying5 c5
  obtain ⟨c, rfl, r3⟩ := r2.agg' fields26 (by simp)
  obtain ⟨t, ht⟩ := tlv_reads r3
  have : Value.agg c = t.v := by
    unfold Tlv.v at ht ⊢
    congr 1; rw [← Array.toList_inj]; exact ht
  rw [this]
  refine BerBodies_ok S ?_
  rcases hs with rfl | ⟨l, sp, rfl, hl⟩
  · simp
  · have := sized_slice hz (j := 0) rfl rfl Try.underlying22
    rw [by5] at this
    unfold reachBytes at this
    omega
end Go.Proofs.Ytknpmldldlbniaa
