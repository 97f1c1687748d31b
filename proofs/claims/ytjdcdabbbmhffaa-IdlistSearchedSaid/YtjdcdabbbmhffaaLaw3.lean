/- IdlistFinds; what a list of numbers reads as. No condition but the size that every statement has. -/
import Derived.Test.YtjdcdabbbmhffaaHas
import Derived.Test.YtjdcdabbbmhffaaEvLay
import Derived.SizedLaws
set_option linter.unusedVariables false
set_option linter.unusedSimpArgs false
namespace Go.Proofs.Ytjdcdabbbmhffaa
open Go.Ev Idl
variable {n0 : Nat} {h : H}
theorem bEqlB {P : Program} {c : Bool} {t : TypeId} {a b : Bool} (ht : P.underlying t = some .bool) : aBin P c .eql t (.bool a) (.bool b) = some (.bool (a == b)) := by simp [aBin, aEqOp, aEq, ht]
theorem cells23 : Try.prog.cellsOf 23 = 1 := by kernel_rfl
theorem bytes23 : Try.prog.bytesOf 23 = 8 := by kernel_rfl
theorem reads_nums {H' : Type} {h : H} {v : Value} {d : DataW H'} (r : RdV Try.prog h 22 v d) : ∃ l : List Int, Sl h 1 v (l.map u) ∧ (d = .nil ∧ l = [] ∨ ∃ ds sp, d = .slice ds sp ∧ ds.length = l.length) := by
  obtain ⟨v', cs', ds, e, S, hl, hm, hE, hd⟩ := (r.one fun fs e => by rw [Try.underlying22] at e; cases e).inv_slice Try.underlying22
  obtain rfl : v = v' := by simpa using e
  rw [cells23] at S hl hE
  have key : ∀ i, i < ds.length → ∃ x : Int, cs'[i]? = some (u x) := by
    intro i hi
    obtain ⟨n, h1, _, hw⟩ := (hE i _ (List.getElem?_eq_getElem hi)).inv_int Try.underlying23
    have hi2 : i < cs'.length := by omega
    refine ⟨n, ?_⟩
    rw [List.getElem?_eq_getElem hi2]
    rw [Nat.mul_one, List.drop_eq_getElem_cons hi2, List.take_succ_cons, List.take_zero] at h1
    rw [(List.cons.inj h1).1]
    rfl
  have : ∃ l : List Int, cs' = l.map u := by
    clear S hE hd hm
    rw [Nat.mul_one] at hl
    revert key
    rw [← hl]
    clear hl
    induction cs' with
    | nil => intro _; exact ⟨[], rfl⟩
    | cons c r ih =>
      intro key
      obtain ⟨x, hx⟩ := key 0 (by simp)
      simp at hx
      obtain ⟨l, hb⟩ := ih fun i hi => by simpa using key (i + 1) (by simpa using hi)
      exact ⟨x :: l, by simp [hx, hb]⟩
  obtain ⟨l, rfl⟩ := this
  refine ⟨l, S, ?_⟩
  rcases hd with ⟨rfl, rfl⟩ | ⟨sp, rfl⟩
  · left; exact ⟨rfl, by simpa using hl⟩
  · right; exact ⟨ds, sp, rfl, by simpa using hl.symm⟩
theorem nums_sized {H' : Type} {ts : List TypeId} {ds : List (DataW H')} (hz : (DataW.weightsEach Try.prog ts ds).all (· ≤ reachBytes) = true) {j : Nat} {d : DataW H'} {l : List Int} (ht : ts[j]? = some 22) (hd : ds[j]? = some d) (k : d = .nil ∧ l = [] ∨ ∃ ds sp, d = .slice ds sp ∧ ds.length = l.length) : l.length * 8 < 2 ^ 47 := by
  rcases k with ⟨_, rfl⟩ | ⟨es, sp, rfl, e⟩
  · simp
  · have := sized_slice hz ht hd Try.underlying22
    have := reachBytes_lt
    rw [bytes23] at *
    have : l.length * 8 ≤ (es.length + sp.length) * 8 := by omega
    omega
set_option maxRecDepth 20000 in
theorem IdlistFinds_ok {v : Value} {l : List Int} {a id : Int} (S : Sl h 1 v (l.map u)) (hl : l.length * 8 < 2 ^ 47) : Cn Try.prog n0 (.func 3) [v, .int .i64 a, .int .u64 id] h (fun r _ => r = .bool true) := by
  refine F3.enter ?_
  obtain ⟨HP, hHP⟩ : ∃ HP : Value → H → Prop, (fun r _ => r = .bool true) = HP := ⟨_, rfl⟩
  rw [hHP, F3.e0]
  unfold F3.t0
  refine (rFind_ok S (by omega)).mono ?_
  rintro _ hx ⟨⟨k, rfl, hk⟩, ex⟩; subst hx
  refine (roomy_ok S (by omega)).mono ?_
  rintro _ h1 ⟨b, rfl, R1, X1, _⟩
  refine (Find_ok R1.sl (by omega)).mono ?_
  rintro _ h2 ⟨⟨k', rfl, hk'⟩, X2⟩
  have e : k' = k := by
    rcases hk with ⟨e1, rfl⟩ | ⟨e1, q, rfl, F⟩
    · rcases hk' with ⟨_, rfl⟩ | ⟨e2, _⟩
      · rfl
      · rw [e1] at e2; cases e2
    · rcases hk' with ⟨e2, rfl⟩ | ⟨e2, q', rfl, F'⟩
      · rw [e1] at e2; cases e2
      · rw [F.eq F']
  subst e
  simp (disch := first | omega | assumption | exact isC_last | exact isC_app (by first | assumption | exact isC_last | exact isC_app (by first | assumption | exact isC_last)) | (simp [oneC]; done) | fail) only [evs0, evs1, evs2, evs3, evs4, evs5, evs6, evs7, evs8, if_true, if_false, ↓reduceIte, Nat.reduceEqDiff, Nat.reduceAdd, Nat.reduceMul, Nat.reduceSub, Nat.reduceLeDiff, Int.reduceLT, Int.reduceLE, Int.reduceEq, Bool.false_eq_true, Option.bind_some, Option.map_some, List.set_cons_zero, List.set_cons_succ, List.toList_toArray, List.size_toArray, List.length_cons, List.length_nil, List.getElem?_toArray, List.getElem?_cons_zero, List.getElem?_cons_succ, List.drop_zero, List.take_succ_cons, List.take_zero]
  refine (Has_ok (R1.ext X2).sl (by omega)).mono ?_
  rintro _ h3 ⟨rfl, X3⟩
  refine (rHas_ok (S.ext (X1.trans (X2.trans X3))) (by omega)).mono ?_
  rintro _ hx ⟨rfl, ex⟩; subst hx
  refine Bnd_i (bEqlB Try.underlying4) ?_
  rw [beq_self_eq_true, Gd_true]
  refine (kept_ok ((R1.ext X2).ext X3) (S.ext (X1.trans (X2.trans X3))) (by omega)).mono ?_
  rintro _ hx ⟨rfl, ex⟩; subst hx
  simp (disch := first | omega | assumption | exact isC_last | exact isC_app (by first | assumption | exact isC_last | exact isC_app (by first | assumption | exact isC_last)) | (simp [oneC]; done) | fail) only [evs0, evs1, evs2, evs3, evs4, evs5, evs6, evs7, evs8, if_true, if_false, ↓reduceIte, Nat.reduceEqDiff, Nat.reduceAdd, Nat.reduceMul, Nat.reduceSub, Nat.reduceLeDiff, Int.reduceLT, Int.reduceLE, Int.reduceEq, Bool.false_eq_true, Option.bind_some, Option.map_some, List.set_cons_zero, List.set_cons_succ, List.toList_toArray, List.size_toArray, List.length_cons, List.length_nil, List.getElem?_toArray, List.getElem?_cons_zero, List.getElem?_cons_succ, List.drop_zero, List.take_succ_cons, List.take_zero]
  refine Wakes_ok.mono ?_
  rintro _ hx ⟨rfl, ex⟩; subst hx
  rw [← hHP]
theorem IdlistFinds_law {H' : Type} {n0 : Nat} {h : H} {vs : List Value} {ds : List (DataW H')} (R : RdAll Try.prog h [22, 3, 23] vs ds) (hz : (DataW.weightsEach Try.prog [22, 3, 23] ds).all (· ≤ reachBytes) = true) : Cn Try.prog n0 (.func 3) vs h (fun v _ => v = .bool true) := by
  obtain ⟨v, vs, d, ds, rfl, rfl, r, R⟩ := R.cons
  obtain ⟨v2, vs, d2, ds, rfl, rfl, r2, R⟩ := R.cons
  obtain ⟨v3, vs, d3, ds, rfl, rfl, r3, R⟩ := R.cons
  obtain ⟨rfl, rfl⟩ := R.none
  obtain ⟨l, S, k⟩ := reads_nums r
  obtain ⟨a, rfl, _, _⟩ := r2.int Try.underlying3
  obtain ⟨id, rfl, _, _⟩ := r3.int Try.underlying23
  exact IdlistFinds_ok S (nums_sized hz (j := 0) rfl rfl k)
end Go.Proofs.Ytjdcdabbbmhffaa
