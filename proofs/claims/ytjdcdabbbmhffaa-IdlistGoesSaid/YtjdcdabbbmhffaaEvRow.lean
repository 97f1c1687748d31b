/- A part of the proof that what the evaluator of YtjdcdabbbmhffaaEvCore answers, the call answers in the model. No condition. -/
import Derived.Test.YtjdcdabbbmhffaaEvLib
import Derived.ChangeSame
import Derived.ChangeSlices
import Derived.Carry
import Derived.WideShapes
import Derived.ProofKit
import Derived.OpenShut
import Derived.RowKit
set_option linter.unusedVariables false
set_option linter.unusedSimpArgs false
namespace Go.Ev
open Go.RowKit (Below)
variable {P : Program} {n0 : Nat} {ρ : Rho} {h h' : H} {w w' : World}

/-- what was related stays so, where nothing that was there has changed -/
theorem Rel.below (R : Rel n0 ρ h w) (B : Below w.heap.size w w') : Rel n0 ρ h w' := by
  have blk : ∀ (i : Nat) (p : Pl), ρ[i]? = some p → w'.heap[p.b]? = w.heap[p.b]? := fun i p hp => B.block _ (R.lt i p hp)
  have cell : ∀ (i : Nat) (p : Pl) (j : Nat), ρ[i]? = some p → w'.cell? ⟨p.b, j, none⟩ = w.cell? ⟨p.b, j, none⟩ := fun i p j hp => World.cell?_of_block (w := w) (blk i p hp)
  have frz : ∀ (i : Nat) (p : Pl) (j : Nat), ρ[i]? = some p → w'.frozen? ⟨p.b, j, none⟩ = w.frozen? ⟨p.b, j, none⟩ := fun i p j hp => World.frozen?_of_block (w := w) (blk i p hp)
  refine ⟨R.len, Nat.le_trans R.n0le B.size, fun i p hp => Nat.lt_of_lt_of_le (R.lt i p hp) B.size, ?_, ?_, ?_, R.inj, ?_, ?_, R.objInj⟩
  · intro i p own e cs hp hb
    exact ⟨(R.cells i p own e cs hp hb).1, (R.cells i p own e cs hp hb).2.mono (Le.refl _) fun j _ => cell i p _ hp⟩
  · intro i p own e cs hp hb he
    rw [blk i p hp]; exact R.ty i p own e cs hp hb he
  · intro i p e cs hp hb
    obtain ⟨a1, a2, a3⟩ := R.own i p e cs hp hb
    exact ⟨a1, a2, fun j hj => by rw [cell i p j hp, frz i p j hp]; exact a3 j hj⟩
  · intro i p e cs s hp hb
    obtain ⟨a1, a2⟩ := R.old i p e cs s hp hb
    exact ⟨a1, a2.imp (fun ⟨x, y⟩ => ⟨x.mono (Le.refl _) fun j _ => cell i p _ hp, y⟩) id⟩
  · intro i p ob hp hb ho
    obtain ⟨a1, o, a2, a3⟩ := R.obj i p ob hp hb ho
    exact ⟨a1, o, by rw [blk i p hp]; exact a2, a3⟩
/-- a row that is read alone -/
theorem Rel.ro (R : Rel n0 ρ h w) {b s e n : Nat} {cs : List Value} (hb : b < w.heap.size) (hn : b < n0) (he : e < 1024) (hc : CellsAt (ρ ++ [⟨b, s, n, e⟩]) w ⟨b, s, n, e⟩ cs) : Rel n0 (ρ ++ [⟨b, s, n, e⟩]) (h ++ [.cells false e cs]) w := by
  have two : ∀ {i : Nat} {p : Pl} {ob : Ob}, (ρ ++ [⟨b, s, n, e⟩])[i]? = some p → (h ++ [.cells false e cs])[i]? = some ob → (ρ[i]? = some p ∧ h[i]? = some ob) ∨ (i = h.length ∧ p = ⟨b, s, n, e⟩ ∧ ob = .cells false e cs) := by
    intro i p ob hp hb
    rcases get_snoc hp with hp | ⟨h1, rfl⟩
    · rcases get_snoc hb with hb | ⟨h2, rfl⟩
      · exact .inl ⟨hp, hb⟩
      · have := lt_of_some hp; rw [R.len] at this; omega
    · rcases get_snoc hb with hb | ⟨h2, rfl⟩
      · have := lt_of_some hb; rw [← R.len] at this; omega
      · exact .inr ⟨h2, rfl, rfl⟩
  have hes : eS e = e := by unfold eS; omega
  refine ⟨by simp [R.len], R.n0le, ?_, ?_, ?_, ?_, ?_, ?_, ?_, ?_⟩
  · intro i p hp
    rcases get_snoc hp with hp | ⟨_, rfl⟩
    · exact R.lt i p hp
    · exact hb
  · intro i p own e1 c1 hp hx
    rcases two hp hx with ⟨hp, hx⟩ | ⟨rfl, rfl, hx⟩
    · exact ⟨(R.cells i p own e1 c1 hp hx).1, (R.cells i p own e1 c1 hp hx).2.mono (Le.app _ _) fun _ _ => rfl⟩
    · cases hx; exact ⟨hes.symm, hc⟩
  · intro i p own e1 c1 hp hx hl
    rcases two hp hx with ⟨hp, hx⟩ | ⟨rfl, rfl, hx⟩
    · exact R.ty i p own e1 c1 hp hx hl
    · cases hx; omega
  · intro i p e1 c1 hp hx
    rcases two hp hx with ⟨hp, hx⟩ | ⟨rfl, rfl, hx⟩
    · exact R.own i p e1 c1 hp hx
    · cases hx
  · intro i j p q e1 e2 c1 c2 o hij hp hq hx hy
    rcases two hp hx with ⟨hp, hx⟩ | ⟨rfl, rfl, hx⟩
    · rcases two hq hy with ⟨hq, hy⟩ | ⟨rfl, rfl, hy⟩
      · exact R.inj i j p q e1 e2 c1 c2 o hij hp hq hx hy
      · have := (R.own i p e1 c1 hp hx).1
        show p.b ≠ b
        omega
    · cases hx
  · intro i p e1 c1 s1 hp hx
    rcases two hp hx with ⟨hp, hx⟩ | ⟨rfl, rfl, hx⟩
    · obtain ⟨a1, a2⟩ := R.old i p e1 c1 s1 hp hx
      refine ⟨a1, a2.imp (fun ⟨x, y⟩ => ⟨x.mono (Le.app _ _) fun _ _ => rfl, fun j q e' cj hq hy => ?_⟩) fun x => Le.app _ _ _ _ x⟩
      rcases two hq hy with ⟨hq, hy⟩ | ⟨rfl, rfl, hy⟩
      · exact y j q e' cj hq hy
      · cases hy
    · cases hx
  · intro i p ob hp hx ho
    rcases two hp hx with ⟨hp, hx⟩ | ⟨rfl, rfl, hx⟩
    · obtain ⟨a1, o, a2, a3⟩ := R.obj i p ob hp hx ho
      exact ⟨a1, o, a2, a3.mono (Le.app _ _)⟩
    · subst hx; cases ho
  · intro i j p q oi oj hij hp hq hx hy h1 h2
    rcases two hp hx with ⟨hp, hx⟩ | ⟨rfl, rfl, hx⟩
    · rcases two hq hy with ⟨hq, hy⟩ | ⟨rfl, rfl, hy⟩
      · exact R.objInj i j p q oi oj hij hp hq hx hy h1 h2
      · subst hy; cases h2
    · subst hx; cases h1
/-- a call that hangs on nothing leaves the heap as it was -/
theorem Cn.of_closed (hm : P.follows .mixedOrders = true) (hname : ∀ (f : FuncId) (fn : Func), P.funcs[f]? = some fn → fn.body.isSome = true → (fn.name == "runtime.NumGoroutine") = false) {n : Nat} {f : FuncId} {v : Value} {h : H}
    (e : ((ev P n (.func f) [] []).map fun r => r.1) = some v) (hv : isLit v = true) (hgo : isGo P f = true) {Q : Value → H → Prop} (q : Q v h) : Cn P n0 (.func f) [] h Q := by
  simp only [Option.map_eq_some_iff] at e
  obtain ⟨⟨v0, h0⟩, he, hv0⟩ := e
  simp only at hv0; subst hv0
  have hg := hgo
  simp only [isGo, Option.any_eq_true_iff_get] at hg
  cases hfn : P.funcs[f]? with
  | none => rw [isGo, hfn] at hgo; cases hgo
  | some fn =>
    have hb : fn.body.isSome = true := by rw [isGo, hfn] at hgo; simpa using hgo
    refine ⟨v0, h, ⟨_, one_ok (f := .func f) (.inl ⟨⟨fn, hfn, hb, hname f fn hfn hb⟩, ?_⟩), one_some⟩, q⟩
    intro ρ w args' R ka
    cases args' with
    | cons _ _ => exact ka.elim
    | nil =>
      refine (ev_calls (n0 := w.heap.size) hm hname he hgo [] w [] (Rel.nil w) trivial).mono fun e w' hh => ?_
      obtain ⟨ρ', v', rfl, _, kv, _, hB⟩ := hh
      exact ⟨ρ, v', rfl, Le.refl _, by rw [(VR.lit_iff hv).1 kv]; exact .lit hv, R.below hB, hB.mono R.n0le⟩
/-- what a contract says, the call does -/
theorem Cn.calls {f : FuncId} {args : List Value} {Q : Value → H → Prop} (c : Cn P n0 (.func f) args h Q) (hgo : isGo P f = true) (R : Rel n0 ρ h w) {args' : List Value} (k : VRs ρ args args') :
    ∃ v h', Q v h' ∧ Calls P f args'.toArray w (Res n0 ρ w v h') := by
  obtain ⟨v, h', ⟨call, hc, he⟩, q⟩ := c
  refine ⟨v, h', q, ?_⟩
  rcases hc (.func f) args h v h' he with ⟨_, hc⟩ | ⟨⟨fn, g1, g2⟩, _⟩
  · exact hc ρ w args' R k
  · simp only [isGo, g1, Option.any_some] at hgo
    cases hb : fn.body <;> simp [hb] at g2 hgo
/-- .. a law's call -/
theorem Cn.law {f : FuncId} {args : List Value} (c : Cn P n0 (.func f) args h (fun v _ => v = .bool true)) (hgo : isGo P f = true) (R : Rel n0 ρ h w) {args' : List Value} (k : VRs ρ args args') :
    Calls P f args'.toArray w fun e w' => e = .returned (.bool true) ∧ Below n0 w w' := by
  obtain ⟨v, h', rfl, hc⟩ := c.calls hgo R k
  refine hc.mono fun e w' hh => ?_
  obtain ⟨ρ', v', rfl, _, kv, _, hB⟩ := hh
  exact ⟨by rw [(VR.lit_iff rfl).1 kv], hB⟩
/-- an argument that is a row of bytes -/
theorem lay_bytes (R : Rel w.heap.size ρ h w) {v : Value} {bs : List UInt8} {a : Option Addr} {n c : Nat} (hv : v = .slice a n c) (hl : bs.length = n) (hn : n ≤ c) (hc : ∀ ad, a = some ad → ∀ j, j < n → w.cell? (ad.add j) = some (bv (bs.getD j 0))) (ha : a = none → c = 0) :
    ∃ ρ' t u, Rel w.heap.size ρ' (h ++ t) w ∧ Le ρ ρ' ∧ VR ρ' u v ∧ Sl (h ++ t) 1 u (bs.map bv) := by
  subst hv
  by_cases h0 : n = 0
  · subst h0
    have : bs = [] := List.length_eq_zero_iff.1 hl
    subst this
    cases a with
    | none => have := ha rfl; subst this; exact ⟨ρ, [], .slice none 0 0, by simpa using R, Le.refl _, .lit rfl, Sl.nil⟩
    | some ad => exact ⟨ρ, [], .slice (some ⟨0, 0, some 0⟩) 0 0, by simpa using R, Le.refl _, .vague, ⟨_, 0, 0, rfl, Nat.le_refl _, by simp, (fun h => by cases h), .inl rfl⟩⟩
  · cases a with
    | none => have := ha rfl; omega
    | some ad =>
      have h2 := hc ad rfl
      obtain ⟨b, o, sp⟩ := ad
      have hsp : sp = none := by
        have := h2 0 (by omega)
        simp only [Addr.add, if_true, World.cell?] at this
        split at this
        · cases sp with
          | none => rfl
          | some _ => simp at this
        · cases this
      subst hsp
      have hlt : b < w.heap.size := by
        have := h2 0 (by omega)
        simp only [Addr.add, if_true, World.cell?] at this
        split at this
        · rename_i hx; exact (Array.getElem?_eq_some_iff.1 hx).1
        · cases this
      refine ⟨ρ ++ [⟨b, o, o + c, 1⟩], [.cells false 1 (bs.map bv)], .slice (some ⟨h.length, 0, none⟩) n n, R.ro hlt hlt (by omega) ?_, Le.app _ _, ?_, Sl.mk (o := 0) (e := 1) (own := false) (cs0 := bs.map bv) (by simp) rfl (by rw [List.drop_zero]; exact List.take_of_length_le (by simp; omega)) (by simp [hl]) (Nat.le_refl _)⟩
      · intro j v hv
        rw [List.getElem?_map] at hv
        cases hx : bs[j]? with
        | none => rw [hx] at hv; cases hv
        | some x =>
          rw [hx] at hv; cases hv
          have hj := lt_of_some hx
          have := h2 j (by omega)
          refine ⟨bv x, ?_, .lit rfl⟩
          rw [add_none] at this
          rw [this, List.getD_eq_getElem?_getD, hx]; rfl
      · have hp : (ρ ++ [(⟨b, o, o + c, 1⟩ : Pl)])[h.length]? = some ⟨b, o, o + c, 1⟩ := by rw [← R.len]; simp
        have := VR.slice (o := 0) (l := n) (c := n) (c' := c) hp hn (by simp)
        simpa using this
end Go.Ev
/-! readings -/
namespace Go.Ev
open Go.RowKit (Below)
open Go.ChangeShapes Go.WideShapes Go.RowKit
variable {H' : Type} {enc : TypeId × Value → H'} {P : Program} {w W W' : World}
theorem trodAll_below (hl : laidOutB P = true) (hb : Below W.heap.size W W') : ∀ {ts : List TypeId} {vs : List Value} {ds : List (DataW H')} {ps : List MemPlace}, (ts.all fun t => P.readableRec t && decide (t < P.types.size)) = true →
    DataW.TrodAll enc P W 0 (fun _ => true) true ts vs ds ps → (∀ x ∈ ps, x.block < W.heap.size) → DataW.TrodAll enc P W' 0 (fun b => decide (b < W.heap.size)) true ts vs ds ps
  | [], vs, ds, ps, _, hA, _ => by
    obtain ⟨rfl, rfl, rfl⟩ := trodAll_nil hA
    exact trodAll_mk0
  | t :: ts, vs, ds, ps, ht, hA, hx => by
    simp only [List.all_cons, Bool.and_eq_true, decide_eq_true_eq] at ht
    obtain ⟨v, vs', d, ds', p, q, rfl, rfl, rfl, h0, h1⟩ := trodAll_cons hA
    exact trodAll_cons_mk (Below.trod hl ht.1.1 ht.1.2 h0 hb fun x hx' => hx x (List.mem_append_left _ hx')) (trodAll_below hl hb ht.2 h1 fun x hx' => hx x (List.mem_append_right _ hx'))
theorem open_bytes {t e : TypeId} {r : Reach} {b0 : Nat} {v : Value} {d : DataW H'} {ps : List MemPlace} (ht : P.underlying t = some (.slice e)) (he : P.underlying e = some (.int .u8)) (hc : P.cellsOf e = 1)
    (hval : Value.okWide P w r b0 t v) (hd : DataW.Trod enc P w 0 (fun _ => true) true t v d ps) :
    ∃ (a : Option Addr) (n c : Nat) (bs : List UInt8), v = .slice a n c ∧ bs.length = n ∧ n ≤ c ∧ (∀ ad, a = some ad → ∀ j, j < n → w.cell? (ad.add j) = some (bv (bs.getD j 0))) ∧ (a = none → c = 0) ∧ n ≤ maxLen ∧ (n = 0 ∨ ∃ l r, d = .slice l r ∧ l.length = n) := by
  obtain ⟨a0, l0, c0, rfl⟩ := okWide_slice ht hval
  obtain ⟨fuel, hf⟩ := hd
  rcases open_ints ht he hc hf with ⟨h1, h2⟩ | ⟨a, len, cap, zs, h1, h2, h3, h4, h5, h6, h7, h8⟩
  · simp [Value.cells] at h1
    obtain ⟨rfl, rfl, rfl⟩ := h1
    exact ⟨none, 0, 0, [], rfl, rfl, Nat.le_refl _, (fun ad h => by cases h), fun _ => rfl, by omega, .inl rfl⟩
  · simp only [Value.cells, List.cons.injEq, Value.slice.injEq, and_true] at h1
    obtain ⟨rfl, rfl, rfl⟩ := h1
    simp only [if_true] at h5
    refine ⟨some a, l0, c0, (zs.take l0).map fun z => UInt8.ofNat z.toNat, rfl, by simp; omega, h3, ?_, (fun h => by cases h), by omega, ?_⟩
    · rintro ad had j hj
      cases had
      have hjz : j < zs.length := by omega
      rw [h7 j hjz]
      have hw := h8 (zs.getD j 0) (by rw [List.getD_eq_getElem?_getD, List.getElem?_eq_getElem hjz]; exact List.getElem_mem hjz)
      obtain ⟨z, hz⟩ : ∃ z, zs.getD j 0 = z := ⟨_, rfl⟩
      rw [hz] at hw ⊢
      have hr : 0 ≤ z ∧ z < 256 := by
        simp [Lit.wf, IntKind.min, IntKind.max, IntKind.signed, IntKind.bits] at hw
        omega
      have hg : ((zs.take l0).map fun z => UInt8.ofNat z.toNat).getD j 0 = UInt8.ofNat z.toNat := by
        rw [List.getD_eq_getElem?_getD, List.getElem?_map, List.getElem?_take, if_pos hj]
        rw [List.getD_eq_getElem?_getD] at hz
        rw [List.getElem?_eq_getElem hjz] at hz ⊢
        simp at hz ⊢
        rw [hz]
      rw [hg]
      unfold bv
      congr 1
      have : (UInt8.ofNat z.toNat).toNat = z.toNat := by rw [UInt8.toNat_ofNat']; omega
      rw [this]
      congr 1; omega
    · right
      refine ⟨_, _, congrArg Prod.fst h6, ?_⟩
      simp [lits]; omega
end Go.Ev
namespace Go.Ev
theorem i64_wf {n : Int} (h : (Lit.int .i64 n).wf = true) : -2 ^ 63 ≤ n ∧ n < 2 ^ 63 := by
  simp [Lit.wf, IntKind.min, IntKind.max, IntKind.signed, IntKind.bits] at h
  omega
end Go.Ev
