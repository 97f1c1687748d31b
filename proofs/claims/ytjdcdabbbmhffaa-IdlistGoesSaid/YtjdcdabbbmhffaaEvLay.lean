/- A part of the proof that what the evaluator of YtjdcdabbbmhffaaEvCore answers, the call answers in the model. No condition. -/
import Derived.Test.YtjdcdabbbmhffaaEvRow
import Derived.ChangeArms
set_option linter.unusedVariables false
set_option linter.unusedSimpArgs false
namespace Go.Ev
open Go.RowKit (Below)
variable {H' : Type} {P : Program}

/-- cells that read as data, in the evaluator's heap -/
inductive Rd (P : Program) (h : H) : TypeId → List Value → DataW H' → Prop
  | int {t : TypeId} {k : IntKind} {n : Int} : P.underlying t = some (.int k) → (Lit.int k n).wf = true → Rd P h t [.int k n] (.lit (.int k n))
  | bool {t : TypeId} {b : Bool} : P.underlying t = some .bool → Rd P h t [.bool b] (.lit (.bool b))
  | string {t : TypeId} {s : ByteArray} : P.underlying t = some .string → s.size ≤ maxLen → Rd P h t [.string s] (.lit (.string s.data.toList))
  | struct {t : TypeId} {fs : Array Field} {cs : List Value} {ds : List (DataW H')} : P.underlying t = some (.struct fs) → cs.length = P.cellsOf t → ds.length = fs.size →
      (∀ (i : Nat) (f : Field) (d : DataW H'), fs[i]? = some f → ds[i]? = some d → Rd P h f.type ((cs.drop f.offset).take (P.cellsOf f.type)) d) → Rd P h t cs (.agg ds)
  | nil {t e : TypeId} : P.underlying t = some (.slice e) → Rd P h t [.slice none 0 0] .nil
  | slice {t e : TypeId} {v : Value} {cs : List Value} {ds sp : List (DataW H')} : P.underlying t = some (.slice e) → Sl h (P.cellsOf e) v cs → cs.length = ds.length * P.cellsOf e → ds.length ≤ maxLen →
      (∀ (i : Nat) (d : DataW H'), ds[i]? = some d → Rd P h e ((cs.drop (i * P.cellsOf e)).take (P.cellsOf e)) d) → Rd P h t [v] (.slice ds sp)
theorem Rd.ext {h h' : H} {t : TypeId} {cs : List Value} {d : DataW H'} (r : Rd P h t cs d) (x : Ext h h') : Rd P h' t cs d := by
  induction r with
  | int a b => exact .int a b
  | bool a => exact .bool a
  | string a b => exact .string a b
  | struct a b c _ ih => exact .struct a b c ih
  | nil a => exact .nil a
  | slice a b c m _ ih => exact .slice a (b.ext x) c m ih

/-- the fields lie one behind the other -/
def contigB (P : Program) : Nat → List Field → Nat → Bool
  | o, [], n => o == n
  | o, f :: fs, n => f.offset == o && contigB P (o + P.cellsOf f.type) fs n
/-- types that are made of numbers, bools, texts, structs and slices; with them all that they hold -/
def layableB (P : Program) (T : List TypeId) : Bool := T.all fun t => match P.underlying t with
  | some (.int _) | some .bool | some .string => true
  | some (.slice e) => T.contains e && decide (0 < P.cellsOf e) && decide (P.cellsOf e < 1024)
  | some (.struct fs) => fs.toList.all (fun f => T.contains f.type) && contigB P 0 fs.toList (P.cellsOf t)
  | _ => false
theorem add_add (a : Addr) (i j : Nat) : (a.add i).add j = a.add (i + j) := by
  unfold Addr.add
  by_cases hi : i = 0
  · subst hi; simp
  · by_cases hj : j = 0
    · subst hj; simp [hi]
    · simp [hi, hj, show i + j ≠ 0 from by omega]; omega
theorem VRs.refl_of {ρ : Rho} {l : List Value} (h : ∀ v ∈ l, isLit v = true) : VRs ρ l l := VRs.refl_lit h
variable {enc : TypeId × Value → H'} {W : World}
/-- what laying some cells comes to -/
def Laid (P : Program) (W : World) (ρ : Rho) (h : H) (t : TypeId) (cs : List Value) (d : DataW H') : Prop :=
  ∃ ρ' u cs', Rel W.heap.size ρ' (h ++ u) W ∧ Le ρ ρ' ∧ VRs ρ' cs' cs ∧ Rd P (h ++ u) t cs' d
/-- fields, one behind the other -/
theorem lay_fields {T : List TypeId} {n : Nat} (ih : ∀ t cs d ps, t ∈ T → DataW.trod enc P W 0 (fun _ => true) true n t cs = some (d, ps) → ∀ ρ h, Rel W.heap.size ρ h W → Laid P W ρ h t cs d) :
    ∀ (fs : List Field) (o N : Nat) (cs : List Value) (xs : List (DataW H' × List MemPlace)), (∀ f ∈ fs, f.type ∈ T) → contigB P o fs N = true → cs.length = N → xs.length = fs.length →
      (∀ (i : Nat) (f : Field), fs[i]? = some f → DataW.trod enc P W 0 (fun _ => true) true n f.type ((cs.drop f.offset).take (P.cellsOf f.type)) = xs[i]?) →
      ∀ ρ h, Rel W.heap.size ρ h W → ∃ ρ' u cs', Rel W.heap.size ρ' (h ++ u) W ∧ Le ρ ρ' ∧ VRs ρ' cs' (cs.drop o) ∧ o ≤ N ∧
        ∀ (i : Nat) (f : Field) (d : DataW H'), fs[i]? = some f → (xs.map (·.1))[i]? = some d → o ≤ f.offset ∧ Rd P (h ++ u) f.type ((cs'.drop (f.offset - o)).take (P.cellsOf f.type)) d
  | [], o, N, cs, xs, _, hc, hl, hx, _, ρ, h, R => by
    simp only [contigB, beq_iff_eq] at hc
    refine ⟨ρ, [], [], by simpa using R, Le.refl _, ?_, by omega, by simp⟩
    rw [List.drop_eq_nil_of_le (by omega)]; trivial
  | f :: fs, o, N, cs, x :: xs, hT, hc, hl, hx, hf, ρ, h, R => by
    simp only [contigB, Bool.and_eq_true, beq_iff_eq] at hc
    obtain ⟨ho, hc⟩ := hc
    have h0 := hf 0 f rfl
    simp only [List.getElem?_cons_zero] at h0
    obtain ⟨d, ps⟩ := x
    obtain ⟨ρ1, u1, c1, R1, L1, V1, D1⟩ := ih f.type _ d ps (hT f (by simp)) h0 ρ h R
    obtain ⟨ρ2, u2, c2, R2, L2, V2, hoN, D2⟩ := lay_fields ih fs (o + P.cellsOf f.type) N cs xs (fun g hg => hT g (by simp [hg])) hc hl (by simpa using hx) (fun i g hg => by simpa using hf (i + 1) g (by simpa using hg)) ρ1 (h ++ u1) R1
    have hlen1 : c1.length = P.cellsOf f.type := by
      rw [V1.length, List.length_take, List.length_drop, hl, ho]; omega
    refine ⟨ρ2, u1 ++ u2, c1 ++ c2, by rw [← List.append_assoc]; exact R2, L1.trans L2, ?_, by omega, ?_⟩
    · have : cs.drop o = (cs.drop o).take (P.cellsOf f.type) ++ cs.drop (o + P.cellsOf f.type) := by
        conv => lhs; rw [← List.take_append_drop (P.cellsOf f.type) (cs.drop o)]
        rw [List.drop_drop]
      rw [this, ← ho]
      exact (V1.mono L2).append (ho ▸ V2)
    · intro i g e hg he
      rw [← List.append_assoc]
      cases i with
      | zero =>
        simp at hg he
        subst hg; subst he
        refine ⟨by omega, ?_⟩
        rw [ho, Nat.sub_self, List.drop_zero, List.take_append_of_le_length (by omega), List.take_of_length_le (by omega)]
        exact D1.ext (Ext.app _ _)
      | succ i =>
        obtain ⟨q1, q2⟩ := D2 i g e (by simpa using hg) (by simpa using he)
        refine ⟨by omega, ?_⟩
        rw [List.drop_append, List.drop_eq_nil_of_le (as := c1) (by omega), List.nil_append, hlen1, show g.offset - o - P.cellsOf f.type = g.offset - (o + P.cellsOf f.type) from by omega]
        exact q2
  | f :: fs, o, N, cs, [], _, _, _, hx, _, _, _, _ => by simp at hx
/-- elements, one behind the other -/
theorem lay_elems {T : List TypeId} {n : Nat} {e : TypeId} (he : e ∈ T) (ih : ∀ t cs d ps, t ∈ T → DataW.trod enc P W 0 (fun _ => true) true n t cs = some (d, ps) → ∀ ρ h, Rel W.heap.size ρ h W → Laid P W ρ h t cs d) :
    ∀ (cells : List (List Value)) (xs : List (DataW H' × List MemPlace)), xs.length = cells.length → (∀ c ∈ cells, c.length = P.cellsOf e) → (∀ (i : Nat) (c : List Value), cells[i]? = some c → DataW.trod enc P W 0 (fun _ => true) true n e c = xs[i]?) →
      ∀ ρ h, Rel W.heap.size ρ h W → ∃ ρ' u cs', Rel W.heap.size ρ' (h ++ u) W ∧ Le ρ ρ' ∧ VRs ρ' cs' cells.flatten ∧ cs'.length = xs.length * P.cellsOf e ∧
        ∀ (i : Nat) (d : DataW H'), (xs.map (·.1))[i]? = some d → Rd P (h ++ u) e ((cs'.drop (i * P.cellsOf e)).take (P.cellsOf e)) d
  | [], xs, hx, _, _, ρ, h, R => by
    have : xs = [] := List.length_eq_zero_iff.1 hx
    subst this
    exact ⟨ρ, [], [], by simpa using R, Le.refl _, trivial, by simp, by simp⟩
  | c :: cells, x :: xs, hx, hc, hf, ρ, h, R => by
    have h0 := hf 0 c rfl
    simp only [List.getElem?_cons_zero] at h0
    obtain ⟨d, ps⟩ := x
    obtain ⟨ρ1, u1, c1, R1, L1, V1, D1⟩ := ih e c d ps he h0 ρ h R
    obtain ⟨ρ2, u2, c2, R2, L2, V2, hl2, D2⟩ := lay_elems he ih cells xs (by simpa using hx) (fun g hg => hc g (by simp [hg])) (fun i g hg => by simpa using hf (i + 1) g (by simpa using hg)) ρ1 (h ++ u1) R1
    have hlen1 : c1.length = P.cellsOf e := by rw [V1.length]; exact hc c (by simp)
    refine ⟨ρ2, u1 ++ u2, c1 ++ c2, by rw [← List.append_assoc]; exact R2, L1.trans L2, ?_, by simp [hlen1, hl2, Nat.add_mul]; omega, ?_⟩
    · rw [List.flatten_cons]; exact (V1.mono L2).append V2
    · intro i g hg
      rw [← List.append_assoc]
      cases i with
      | zero =>
        simp at hg; subst hg
        rw [Nat.zero_mul, List.drop_zero, List.take_append_of_le_length (by omega), List.take_of_length_le (by omega)]
        exact D1.ext (Ext.app _ _)
      | succ i =>
        have q2 := D2 i g (by simpa using hg)
        rw [List.drop_append, List.drop_eq_nil_of_le (as := c1) (by rw [hlen1, Nat.add_mul]; omega), List.nil_append, hlen1, show (i + 1) * P.cellsOf e - P.cellsOf e = i * P.cellsOf e from by rw [Nat.add_mul]; omega]
        exact q2
  | c :: cells, [], hx, _, _, _, _, _ => by simp at hx
theorem lay_any {T : List TypeId} (hT : layableB P T = true) : ∀ (n : Nat) (t : TypeId) (cs : List Value) (d : DataW H') (ps : List MemPlace), t ∈ T → DataW.trod enc P W 0 (fun _ => true) true n t cs = some (d, ps) →
    ∀ ρ h, Rel W.heap.size ρ h W → Laid P W ρ h t cs d := by
  intro n
  induction n with
  | zero => intro t cs d ps _ e; simp [DataW.trod] at e
  | succ n ih =>
    intro t cs d ps ht e ρ h R
    have hk := List.all_eq_true.1 hT t ht
    have lit : ∀ {c : List Value} {d : DataW H'}, (∀ v ∈ c, isLit v = true) → (∀ h', Rd P h' t c d) → Laid P W ρ h t c d := fun hc hd => ⟨ρ, [], _, by simpa using R, Le.refl _, VRs.refl_lit hc, hd _⟩
    split at hk
    · rename_i k hu
      obtain ⟨m, rfl, hx, hw⟩ := DataW.trod_int hu e
      cases hx
      exact lit (by simp [isLit]) fun _ => .int hu hw
    · rename_i hu
      obtain ⟨b, rfl, hx⟩ := DataW.trod_bool hu e
      cases hx
      exact lit (by simp [isLit]) fun _ => .bool hu
    · rename_i hu
      obtain ⟨s, rfl, hx, hm⟩ := DataW.trod_string hu e
      cases hx
      exact lit (by simp [isLit]) fun _ => .string hu hm
    · rename_i el hu
      simp only [Bool.and_eq_true, List.contains_eq_mem, decide_eq_true_eq] at hk
      obtain ⟨⟨hel, hpos⟩, hsm⟩ := hk
      rcases DataW.trod_slice hu e with ⟨rfl, hx⟩ | ⟨a, len, cap, elems, rest, m, hm, rfl, hx, hb, hl, hcm, hlen, hE, _, _⟩
      · cases hx
        exact lit (by simp [isLit]) fun _ => .nil hu
      · cases hx
        obtain rfl : m = n := by omega
        -- the elements' cells
        have each : ∀ i, i < len → ∃ c y, W.cells? 0 (a.add (i * P.cellsOf el)) (P.cellsOf el) = some c ∧ DataW.trod enc P W 0 (fun _ => true) true m el c = some y ∧ elems[i]? = some y := by
          intro i hi
          have h1 := hE i hi
          rw [List.getElem?_eq_getElem (by omega)] at h1
          simp only [Option.bind_eq_some_iff] at h1
          obtain ⟨c, h2, h3⟩ := h1
          exact ⟨c, _, h2, h3, List.getElem?_eq_getElem (by omega)⟩
        classical
        let cells : List (List Value) := (List.range len).map fun i => if hi : i < len then Classical.choose (each i hi) else []
        have hcl : cells.length = len := by simp [cells]
        have hcell : ∀ (i : Nat) (c : List Value), cells[i]? = some c → i < len ∧ W.cells? 0 (a.add (i * P.cellsOf el)) (P.cellsOf el) = some c ∧ DataW.trod enc P W 0 (fun _ => true) true m el c = elems[i]? := by
          intro i c hc
          have hi : i < len := by have := lt_of_some hc; omega
          simp only [cells, List.getElem?_map, List.getElem?_range hi, Option.map_some, Option.some.injEq] at hc
          rw [dif_pos hi] at hc
          obtain ⟨y, h1, h2, h3⟩ := Classical.choose_spec (each i hi)
          rw [hc] at h1 h2
          exact ⟨hi, h1, by rw [h2, h3]⟩
        have hsz : ∀ c ∈ cells, c.length = P.cellsOf el := by
          intro c hc
          obtain ⟨i, hi⟩ := List.mem_iff_getElem?.1 hc
          exact (World.cells?_some (hcell i c hi).2.1).2.1
        obtain ⟨ρ1, u1, cs1, R1, L1, V1, hl1, D1⟩ := lay_elems hel ih cells elems (by omega) hsz (fun i c hc => (hcell i c hc).2.2) ρ h R
        -- where the cells stand
        have flat : ∀ (l : List (List Value)) (s : Nat), (∀ c ∈ l, c.length = s) → ∀ (i j : Nat) (c : List Value), l[i]? = some c → j < s → l.flatten[i * s + j]? = c[j]? := by
          intro l s
          induction l with
          | nil => intro _ i j c hc; simp at hc
          | cons x l ihl =>
            intro hs i j c hc hj
            have hxs : x.length = s := hs x (by simp)
            cases i with
            | zero => simp at hc; subst hc; rw [List.flatten_cons, Nat.zero_mul, Nat.zero_add, List.getElem?_append_left (by omega)]
            | succ i =>
              rw [List.flatten_cons, Nat.add_mul, Nat.one_mul, List.getElem?_append_right (by omega), hxs, show i * s + s + j - s = i * s + j from by omega]
              exact ihl (fun c hc => hs c (by simp [hc])) i j c (by simpa using hc) hj
        have hat : ∀ q, q < len * P.cellsOf el → W.cell? (a.add q) = cells.flatten[q]? := by
          intro q hq
          have hdm := Nat.div_add_mod q (P.cellsOf el)
          have hmod := Nat.mod_lt q hpos
          have hi : q / P.cellsOf el < len := (Nat.div_lt_iff_lt_mul hpos).2 hq
          obtain ⟨c, hc⟩ : ∃ c, cells[q / P.cellsOf el]? = some c := some_of_lt (by omega)
          have h1 := (World.cells?_some (hcell _ c hc).2.1).2.2 (q % P.cellsOf el) hmod
          rw [add_add, Nat.mul_comm (q / P.cellsOf el), hdm] at h1
          rw [h1, ← flat cells (P.cellsOf el) hsz (q / P.cellsOf el) (q % P.cellsOf el) c hc hmod, Nat.mul_comm (q / P.cellsOf el), hdm]
        have hcs1 : cs1.length = len * P.cellsOf el := by rw [hl1, hlen]
        have elem2 : ∀ (h2 : H), Ext (h ++ u1) h2 → ∀ (i : Nat) (d : DataW H'), (elems.map (·.1))[i]? = some d → Rd P h2 el ((cs1.drop (i * P.cellsOf el)).take (P.cellsOf el)) d := fun h2 x i d hd => (D1 i d hd).ext x
        by_cases h0 : len = 0
        · subst h0
          have : elems = [] := List.length_eq_zero_iff.1 hlen
          subst this
          refine ⟨ρ, [], [.slice (some ⟨0, 0, some 0⟩) 0 0], by simpa using R, Le.refl _, ⟨.vague, trivial⟩, ?_⟩
          exact Rd.slice (cs := []) hu ⟨_, 0, 0, rfl, Nat.le_refl _, by simp, (fun h => by cases h), .inl rfl⟩ (by simp) (by simp) (by simp)
        · have hq0 : 0 < len * P.cellsOf el := Nat.mul_pos (by omega) hpos
          have hlenflat : cells.flatten.length = len * P.cellsOf el := by rw [← V1.length, hcs1]
          obtain ⟨b, o, sp⟩ := a
          have hcell0 : ∃ v0, W.cell? (Addr.add ⟨b, o, sp⟩ 0) = some v0 := by
            rw [hat 0 hq0]; exact some_of_lt (by omega)
          obtain ⟨v0, hv0⟩ := hcell0
          simp only [Addr.add, if_true, World.cell?] at hv0
          split at hv0
          · rename_i c0 T0 fr0 hheap
            have hsp : sp = none := by cases sp with | none => rfl | some _ => simp at hv0
            subst hsp
            have hlt : b < W.heap.size := (Array.getElem?_eq_some_iff.1 hheap).1
            refine ⟨ρ1 ++ [⟨b, o, o + cap * P.cellsOf el, P.cellsOf el⟩], u1 ++ [.cells false (P.cellsOf el) cs1], [.slice (some ⟨(h ++ u1).length, 0, none⟩) len len], ?_, L1.trans (Le.app _ _), ⟨?_, trivial⟩, ?_⟩
            · rw [← List.append_assoc]
              refine R1.ro hlt hlt hsm ?_
              intro j v hv
              have hj : j < len * P.cellsOf el := by rw [← hcs1]; exact lt_of_some hv
              obtain ⟨v', h1, h2⟩ := V1.get j v hv
              refine ⟨v', ?_, h2.mono (Le.app _ _)⟩
              have := hat j hj
              rw [add_none] at this
              rw [this, h1]
            · have hp : (ρ1 ++ [(⟨b, o, o + cap * P.cellsOf el, P.cellsOf el⟩ : Pl)])[(h ++ u1).length]? = some ⟨b, o, o + cap * P.cellsOf el, P.cellsOf el⟩ := by rw [← R1.len]; simp
              have := VR.slice (o := 0) (l := len) (c := len) (c' := cap) hp hl (by simp)
              simpa using this
            · rw [← List.append_assoc]
              refine Rd.slice (cs := cs1) hu ?_ (by simp [hcs1, hlen]) (by simp [hlen]; omega) (elem2 _ (Ext.app _ _))
              refine Sl.mk (o := 0) (e := P.cellsOf el) (own := false) (cs0 := cs1) (by simp) ?_ (by rw [List.drop_zero, List.take_of_length_le (by omega)]) hcs1 (Nat.le_refl _)
              unfold eS; omega
          · cases hv0
    · rename_i fs hu
      simp only [Bool.and_eq_true, List.all_eq_true, List.contains_eq_mem, decide_eq_true_eq] at hk
      obtain ⟨xs, m, hm, hx, hcs, hxl, hf⟩ := DataW.trod_struct hu e
      obtain rfl : m = n := by omega
      cases hx
      obtain ⟨ρ1, u1, c1, R1, L1, V1, _, D1⟩ := lay_fields ih fs.toList 0 (P.cellsOf t) cs xs hk.1 hk.2 hcs (by simpa using hxl) (fun i f hf' => hf i f (by simpa using hf')) ρ h R
      rw [List.drop_zero] at V1
      refine ⟨ρ1, u1, c1, R1, L1, V1, Rd.struct hu (by rw [V1.length, hcs]) (by simpa using hxl) fun i f d hfi hdi => ?_⟩
      have := (D1 i f d (by simpa using hfi) hdi).2
      rwa [Nat.sub_zero] at this
    · cases hk
end Go.Ev
namespace Go.Ev
open Go.RowKit (Below)
open Go.ChangeShapes Go.WideShapes Go.RowKit
variable {H' : Type} {P : Program} {enc : TypeId × Value → H'} {W W' : World}
/-- a value that reads as data -/
def RdV (P : Program) (h : H) (t : TypeId) (v : Value) (d : DataW H') : Prop := Rd P h t v.cells.toList d ∧ ((∃ fs c, P.underlying t = some (.struct fs) ∧ v = .agg c) ∨ ((∀ fs, P.underlying t ≠ some (.struct fs)) ∧ v.cells = #[v]))
def RdAll (P : Program) (h : H) : List TypeId → List Value → List (DataW H') → Prop
  | [], [], [] => True
  | t :: ts, v :: vs, d :: ds => RdV P h t v d ∧ RdAll P h ts vs ds
  | _, _, _ => False
theorem RdV.ext {h h' : H} {t : TypeId} {v : Value} {d : DataW H'} (r : RdV P h t v d) (x : Ext h h') : RdV P h' t v d := ⟨r.1.ext x, r.2⟩
theorem RdAll.ext {h h' : H} (x : Ext h h') : ∀ {ts : List TypeId} {vs : List Value} {ds : List (DataW H')}, RdAll P h ts vs ds → RdAll P h' ts vs ds
  | [], [], [], _ => trivial
  | _ :: _, _ :: _, _ :: _, r => ⟨r.1.ext x, r.2.ext x⟩
  | [], _ :: _, _, r => r.elim
  | [], [], _ :: _, r => r.elim
  | _ :: _, [], _, r => r.elim
  | _ :: _, _ :: _, [], r => r.elim
theorem lay_val {T : List TypeId} (hT : layableB P T = true) {t : TypeId} (ht : t ∈ T) {r : Reach} {b0 : Nat} {v : Value} {d : DataW H'} {ps : List MemPlace} (hval : Value.okWide P W r b0 t v) (hd : DataW.Trod enc P W 0 (fun _ => true) true t v d ps)
    {ρ : Rho} {h : H} (R : Rel W.heap.size ρ h W) : ∃ ρ' u v', Rel W.heap.size ρ' (h ++ u) W ∧ Le ρ ρ' ∧ VR ρ' v' v ∧ RdV P (h ++ u) t v' d := by
  obtain ⟨fuel, hf⟩ := hd
  obtain ⟨ρ', u, cs', R', L, V, D⟩ := lay_any hT fuel t _ d ps ht hf ρ h R
  have hk := List.all_eq_true.1 hT t ht
  by_cases hs : ∃ fs, P.underlying t = some (.struct fs)
  · obtain ⟨fs, hs⟩ := hs
    obtain ⟨cs, rfl, hcs⟩ := okWide_struct hs hval
    exact ⟨ρ', u, .agg cs'.toArray, R', L, VR.agg_iff.2 ⟨cs, rfl, by simpa [Value.cells] using V⟩, by simpa [Value.cells] using D, .inl ⟨fs, _, hs, rfl⟩⟩
  · have hna : ∀ c, v ≠ .agg c := by
      rintro cs rfl
      split at hk <;> rename_i hu
      · obtain ⟨n, e⟩ := okWide_int hu hval; cases e
      · simp only [Value.okWide, hu, Cell.okWide] at hval; simp [Cell.ok] at hval
      · obtain ⟨n, e⟩ := okWide_string hu hval; cases e
      · obtain ⟨_, _, _, e⟩ := okWide_slice hu hval; cases e
      · exact hs ⟨_, hu⟩
      · cases hk
    have cellsOne : ∀ {x : Value}, (∀ c, x ≠ .agg c) → x.cells = #[x] := fun {x} hx => by cases x <;> first | rfl | exact absurd rfl (hx _)
    have one := cellsOne hna
    rw [one] at V
    cases cs' with
    | nil => exact V.elim
    | cons v' rest => cases rest with
      | cons _ _ => exact V.2.elim
      | nil =>
        have one' : v'.cells = #[v'] := cellsOne fun c e => by
          subst e
          obtain ⟨ys, e, _⟩ := VR.agg_iff.1 V.1
          exact hna ys e
        exact ⟨ρ', u, v', R', L, V.1, by rw [one']; exact D, .inr ⟨fun fs hx => hs ⟨fs, hx⟩, one'⟩⟩
theorem lay_all {T : List TypeId} (hT : layableB P T = true) {r : Reach} {b0 : Nat} : ∀ {ts : List TypeId} {vs : List Value} {ds : List (DataW H')} {ps : List MemPlace}, (∀ t ∈ ts, t ∈ T) →
    (∀ (j : Nat) (t : TypeId) (v : Value), ts[j]? = some t → vs[j]? = some v → Value.okWide P W r b0 t v) → DataW.TrodAll enc P W 0 (fun _ => true) true ts vs ds ps →
    ∀ {ρ : Rho} {h : H}, Rel W.heap.size ρ h W → ∃ ρ' u vs', Rel W.heap.size ρ' (h ++ u) W ∧ Le ρ ρ' ∧ VRs ρ' vs' vs ∧ RdAll P (h ++ u) ts vs' ds
  | [], vs, ds, ps, _, _, hA, ρ, h, R => by
    obtain ⟨rfl, rfl, rfl⟩ := trodAll_nil hA
    exact ⟨ρ, [], [], by simpa using R, Le.refl _, trivial, trivial⟩
  | t :: ts, vs, ds, ps, hts, hv, hA, ρ, h, R => by
    obtain ⟨v, vs', d, ds', p, q, rfl, rfl, rfl, h0, h1⟩ := trodAll_cons hA
    obtain ⟨ρ1, u1, v1, R1, L1, V1, D1⟩ := lay_val hT (hts t (by simp)) (hv 0 t v rfl rfl) h0 R
    obtain ⟨ρ2, u2, vs2, R2, L2, V2, D2⟩ := lay_all hT (fun x hx => hts x (by simp [hx])) (fun j x y hx hy => hv (j + 1) x y (by simpa using hx) (by simpa using hy)) h1 R1
    exact ⟨ρ2, u1 ++ u2, v1 :: vs2, by rw [← List.append_assoc]; exact R2, L1.trans L2, ⟨V1.mono L2, V2⟩, by rw [← List.append_assoc]; exact ⟨D1.ext (Ext.app _ _), D2⟩⟩
/-! what a reading says -/
theorem Rd.inv_int {h : H} {t : TypeId} {cs : List Value} {d : DataW H'} {k : IntKind} (r : Rd P h t cs d) (ht : P.underlying t = some (.int k)) : ∃ n, cs = [.int k n] ∧ d = .lit (.int k n) ∧ (Lit.int k n).wf = true := by
  cases r with
  | int hu hw => rw [ht] at hu; cases hu; exact ⟨_, rfl, rfl, hw⟩
  | bool hu => rw [ht] at hu; cases hu
  | string hu _ => rw [ht] at hu; cases hu
  | struct hu _ _ _ => rw [ht] at hu; cases hu
  | nil hu => rw [ht] at hu; cases hu
  | slice hu _ _ _ _ => rw [ht] at hu; cases hu
theorem Rd.inv_bool {h : H} {t : TypeId} {cs : List Value} {d : DataW H'} (r : Rd P h t cs d) (ht : P.underlying t = some .bool) : ∃ b, cs = [.bool b] ∧ d = .lit (.bool b) := by
  cases r with
  | int hu hw => rw [ht] at hu; cases hu
  | bool hu => exact ⟨_, rfl, rfl⟩
  | string hu _ => rw [ht] at hu; cases hu
  | struct hu _ _ _ => rw [ht] at hu; cases hu
  | nil hu => rw [ht] at hu; cases hu
  | slice hu _ _ _ _ => rw [ht] at hu; cases hu
theorem Rd.inv_string {h : H} {t : TypeId} {cs : List Value} {d : DataW H'} (r : Rd P h t cs d) (ht : P.underlying t = some .string) : ∃ s : ByteArray, cs = [.string s] ∧ d = .lit (.string s.data.toList) ∧ s.size ≤ maxLen := by
  cases r with
  | int hu hw => rw [ht] at hu; cases hu
  | bool hu => rw [ht] at hu; cases hu
  | string hu hm => exact ⟨_, rfl, rfl, hm⟩
  | struct hu _ _ _ => rw [ht] at hu; cases hu
  | nil hu => rw [ht] at hu; cases hu
  | slice hu _ _ _ _ => rw [ht] at hu; cases hu
theorem Rd.inv_struct {h : H} {t : TypeId} {cs : List Value} {d : DataW H'} {fs : Array Field} (r : Rd P h t cs d) (ht : P.underlying t = some (.struct fs)) : ∃ ds, d = .agg ds ∧ cs.length = P.cellsOf t ∧ ds.length = fs.size ∧
    ∀ (i : Nat) (f : Field) (d : DataW H'), fs[i]? = some f → ds[i]? = some d → Rd P h f.type ((cs.drop f.offset).take (P.cellsOf f.type)) d := by
  cases r with
  | int hu hw => rw [ht] at hu; cases hu
  | bool hu => rw [ht] at hu; cases hu
  | string hu _ => rw [ht] at hu; cases hu
  | struct hu a b c => rw [ht] at hu; cases hu; exact ⟨_, rfl, a, b, c⟩
  | nil hu => rw [ht] at hu; cases hu
  | slice hu _ _ _ _ => rw [ht] at hu; cases hu
/-- a slice: its elements, none if it is nil -/
theorem Rd.inv_slice {h : H} {t e : TypeId} {cs : List Value} {d : DataW H'} (r : Rd P h t cs d) (ht : P.underlying t = some (.slice e)) : ∃ v cs' ds, cs = [v] ∧ Sl h (P.cellsOf e) v cs' ∧ cs'.length = ds.length * P.cellsOf e ∧ ds.length ≤ maxLen ∧
    (∀ (i : Nat) (d : DataW H'), ds[i]? = some d → Rd P h e ((cs'.drop (i * P.cellsOf e)).take (P.cellsOf e)) d) ∧ ((d = .nil ∧ ds = []) ∨ ∃ sp, d = .slice ds sp) := by
  cases r with
  | int hu hw => rw [ht] at hu; cases hu
  | bool hu => rw [ht] at hu; cases hu
  | string hu _ => rw [ht] at hu; cases hu
  | struct hu _ _ _ => rw [ht] at hu; cases hu
  | nil hu => rw [ht] at hu; cases hu; exact ⟨_, [], [], rfl, Sl.nil, by simp, by simp, by simp, .inl ⟨rfl, rfl⟩⟩
  | slice hu a b m c => rw [ht] at hu; cases hu; exact ⟨_, _, _, rfl, a, b, m, c, .inr ⟨_, rfl⟩⟩
/-- bytes -/
theorem Rd.inv_bytes {h : H} {t e : TypeId} {cs : List Value} {d : DataW H'} (r : Rd P h t cs d) (ht : P.underlying t = some (.slice e)) (he : P.underlying e = some (.int .u8)) (hc : P.cellsOf e = 1) : ∃ v bs, cs = [v] ∧ Sl h 1 v (bs.map bv) ∧ bs.length ≤ maxLen ∧
    (bs = [] ∨ ∃ l sp, d = .slice l sp ∧ l.length = bs.length) := by
  obtain ⟨v, cs', ds, rfl, S, hl, hm, hE, hd⟩ := r.inv_slice ht
  rw [hc] at S hl hE
  have key : ∀ i, i < ds.length → ∃ x : UInt8, cs'[i]? = some (bv x) := by
    intro i hi
    obtain ⟨n, h1, _, hw⟩ := (hE i _ (List.getElem?_eq_getElem hi)).inv_int he
    have hr : 0 ≤ n ∧ n < 256 := by
      simp [Lit.wf, IntKind.min, IntKind.max, IntKind.signed, IntKind.bits] at hw
      omega
    refine ⟨UInt8.ofNat n.toNat, ?_⟩
    have hi2 : i < cs'.length := by omega
    rw [List.getElem?_eq_getElem hi2]
    rw [Nat.mul_one, List.drop_eq_getElem_cons hi2, List.take_succ_cons, List.take_zero] at h1
    rw [(List.cons.inj h1).1]
    unfold bv
    have : (UInt8.ofNat n.toNat).toNat = n.toNat := by rw [UInt8.toNat_ofNat']; omega
    rw [this]
    congr 2; omega
  have : ∃ bs : List UInt8, cs' = bs.map bv := by
    clear S hE hd hm
    rw [Nat.mul_one] at hl
    revert key
    rw [← hl]
    clear hl
    induction cs' with
    | nil => intro _; exact ⟨[], rfl⟩
    | cons c r ih =>
      intro key
      obtain ⟨x, hx⟩ := key 0 (by simp)
      simp at hx
      obtain ⟨bs, hb⟩ := ih fun i hi => by simpa using key (i + 1) (by simpa using hi)
      exact ⟨x :: bs, by simp [hx, hb]⟩
  obtain ⟨bs, rfl⟩ := this
  refine ⟨v, bs, rfl, S, by simp at hl; omega, ?_⟩
  rcases hd with ⟨_, rfl⟩ | ⟨sp, rfl⟩
  · left; simpa using hl
  · right; exact ⟨ds, sp, rfl, by simpa using hl.symm⟩
theorem RdV.one {h : H} {t : TypeId} {v : Value} {d : DataW H'} (r : RdV P h t v d) (ht : ∀ fs, P.underlying t ≠ some (.struct fs)) : Rd P h t [v] d := by
  obtain ⟨r, o⟩ := r
  rcases o with ⟨fs, c, h1, _⟩ | ⟨_, o⟩
  · exact absurd h1 (ht fs)
  · rw [o] at r; exact r
theorem RdV.int {h : H} {t : TypeId} {v : Value} {d : DataW H'} {k : IntKind} (r : RdV P h t v d) (ht : P.underlying t = some (.int k)) : ∃ n, v = .int k n ∧ d = .lit (.int k n) ∧ (Lit.int k n).wf = true := by
  obtain ⟨n, h1, h2⟩ := (r.one fun fs e => by rw [ht] at e; cases e).inv_int ht
  exact ⟨n, by simpa using h1, h2⟩
theorem RdV.string {h : H} {t : TypeId} {v : Value} {d : DataW H'} (r : RdV P h t v d) (ht : P.underlying t = some .string) : ∃ s : ByteArray, v = .string s ∧ d = .lit (.string s.data.toList) ∧ s.size ≤ maxLen := by
  obtain ⟨n, h1, h2⟩ := (r.one fun fs e => by rw [ht] at e; cases e).inv_string ht
  exact ⟨n, by simpa using h1, h2⟩
theorem RdV.bytes {h : H} {t e : TypeId} {v : Value} {d : DataW H'} (r : RdV P h t v d) (ht : P.underlying t = some (.slice e)) (he : P.underlying e = some (.int .u8)) (hc : P.cellsOf e = 1) : ∃ bs, Sl h 1 v (bs.map bv) ∧ bs.length ≤ maxLen ∧ (bs = [] ∨ ∃ l sp, d = .slice l sp ∧ l.length = bs.length) := by
  obtain ⟨u, bs, h1, h2⟩ := (r.one fun fs e => by rw [ht] at e; cases e).inv_bytes ht he hc
  obtain rfl : v = u := by simpa using h1
  exact ⟨bs, h2⟩
theorem RdV.agg {h : H} {t : TypeId} {v : Value} {d : DataW H'} {fs : Array Field} (r : RdV P h t v d) (ht : P.underlying t = some (.struct fs)) : ∃ c, v = .agg c ∧ Rd P h t c.toList d := by
  obtain ⟨r, o⟩ := r
  rcases o with ⟨_, c, _, rfl⟩ | ⟨h1, _⟩
  · exact ⟨c, rfl, by simpa [Value.cells] using r⟩
  · exact absurd ht (h1 fs)
end Go.Ev
namespace Go.Ev
theorem RdAll.length {H' : Type} {P : Program} {h : H} : ∀ {ts : List TypeId} {vs : List Value} {ds : List (DataW H')}, RdAll P h ts vs ds → ds.length = ts.length
  | [], [], [], _ => rfl
  | _ :: _, _ :: _, _ :: _, r => by simp [r.2.length]
  | [], _ :: _, _, r => r.elim
  | [], [], _ :: _, r => r.elim
  | _ :: _, [], _, r => r.elim
  | _ :: _, _ :: _, [], r => r.elim
end Go.Ev
namespace Go.Ev
variable {H' : Type} {P : Program}
def fldsOf (d : TypeDesc) : List (TypeId × Nat) := match d with | .struct fs => fs.toList.map fun f => (f.type, f.offset) | _ => []
theorem struct_of {t : TypeId} {l : List (TypeId × Nat)} (h : (P.underlying t).map fldsOf = some l) (hne : l ≠ []) : ∃ fs, P.underlying t = some (.struct fs) ∧ fs.toList.map (fun f => (f.type, f.offset)) = l := by
  simp only [Option.map_eq_some_iff] at h
  obtain ⟨d, h1, h2⟩ := h
  unfold fldsOf at h2
  split at h2
  · rename_i fs; exact ⟨fs, h1, h2⟩
  · exact absurd h2.symm hne
theorem Rd.inv_fields {h : H} {t : TypeId} {cs : List Value} {d : DataW H'} {l : List (TypeId × Nat)} {n : Nat} (r : Rd P h t cs d) (hf : (P.underlying t).map fldsOf = some l) (hne : l ≠ []) (hn : P.cellsOf t = n) : ∃ ds, d = .agg ds ∧ cs.length = n ∧ ds.length = l.length ∧
    ∀ (i : Nat) (ty off : Nat) (d : DataW H'), l[i]? = some (ty, off) → ds[i]? = some d → Rd P h ty ((cs.drop off).take (P.cellsOf ty)) d := by
  obtain ⟨fs, hu, rfl⟩ := struct_of hf hne
  obtain ⟨ds, rfl, hl, hd, hr⟩ := r.inv_struct hu
  refine ⟨ds, rfl, by rw [hl, hn], by simp [hd], fun i ty off d h1 h2 => ?_⟩
  rw [List.getElem?_map] at h1
  cases hx : fs.toList[i]? with
  | none => rw [hx] at h1; cases h1
  | some f =>
    rw [hx] at h1
    simp only [Option.map_some, Option.some.injEq, Prod.mk.injEq] at h1
    obtain ⟨rfl, rfl⟩ := h1
    exact hr i f d (by simpa using hx) h2
theorem RdV.agg' {h : H} {t : TypeId} {v : Value} {d : DataW H'} {l : List (TypeId × Nat)} (r : RdV P h t v d) (hf : (P.underlying t).map fldsOf = some l) (hne : l ≠ []) : ∃ c, v = .agg c ∧ Rd P h t c.toList d := by
  obtain ⟨fs, hu, _⟩ := struct_of hf hne
  exact r.agg hu
end Go.Ev
namespace Go.Ev
variable {H' : Type} {P : Program} {h : H}
theorem RdAll.cons {t : TypeId} {ts : List TypeId} {vs : List Value} {ds : List (DataW H')} (r : RdAll P h (t :: ts) vs ds) : ∃ v vs' d ds', vs = v :: vs' ∧ ds = d :: ds' ∧ RdV P h t v d ∧ RdAll P h ts vs' ds' := by
  cases vs with
  | nil => exact r.elim
  | cons v vs => cases ds with
    | nil => exact r.elim
    | cons d ds => exact ⟨v, vs, d, ds, rfl, rfl, r.1, r.2⟩
theorem RdAll.none {vs : List Value} {ds : List (DataW H')} (r : RdAll P h [] vs ds) : vs = [] ∧ ds = [] := by
  cases vs with
  | nil => cases ds with
    | nil => exact ⟨rfl, rfl⟩
    | cons _ _ => exact r.elim
  | cons _ _ => exact r.elim
end Go.Ev
