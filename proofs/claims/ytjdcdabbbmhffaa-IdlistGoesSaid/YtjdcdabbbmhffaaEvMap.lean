/- A part of the proof that what the evaluator of YtjdcdabbbmhffaaEvCore answers, the call answers in the model. No condition. -/
import Derived.Test.YtjdcdabbbmhffaaEvOp6
import Derived.Laws.IdiomRangeMap
import Derived.MapKept
import Derived.Laws.NewFold
set_option linter.unusedVariables false
set_option linter.unusedSimpArgs false
namespace Go.Ev
open Go.RowKit (Below)
variable {P : Program} {n0 : Nat} {ρ : Rho} {h h' : H} {w : World}

theorem getObj_map {r : Nat} {es : Array MapEntry} {c : Nat} (hb : w.heap[r]? = some (.map es c)) : (getObj r).run P w = .ok (.map es c) w := by simp [getObj, Sem.run, hb]
theorem setObj_map {r : Nat} {es : Array MapEntry} {c : Nat} (o : Obj) (hb : w.heap[r]? = some (.map es c)) : (setObj r o).run P w = .ok () { w with heap := w.heap.setIfInBounds r o } := by simp [setObj, Sem.run, hb]

theorem eqT_now {d : TypeDesc} {x y : Value} {b : Bool} (e : eqT (some d) x y = some b) : Instr.sameNow d x y = some b := by
  unfold eqT at e
  split at e
  · rename_i hd; cases hd; cases e; rfl
  · rename_i k k' a k2 b' hd
    cases hd
    split at e
    · rename_i hk; subst hk; cases e; simp [Instr.sameNow]; rfl
    · cases e
  · rename_i a b' hd
    cases hd; cases e
    simp only [Instr.sameNow, beq_toListBytes]
  · cases e

/-- the entries, related -/
def ER (ρ : Rho) (es : List (Value × Value × Nat)) (es' : List MapEntry) : Prop :=
  es.length = es'.length ∧ ∀ (i : Nat) (x : Value × Value × Nat) (y : MapEntry), es[i]? = some x → es'[i]? = some y → isLit x.1 = true ∧ y.key = x.1 ∧ VR ρ x.2.1 y.val ∧ y.born = x.2.2
theorem ER.tail {x : Value × Value × Nat} {y : MapEntry} {es : List (Value × Value × Nat)} {es' : List MapEntry} (h : ER ρ (x :: es) (y :: es')) : ER ρ es es' :=
  ⟨by simpa using h.1, fun i a b p q => h.2 (i + 1) a b (by simpa using p) (by simpa using q)⟩
theorem findK_run {d : TypeDesc} {k : Value} : ∀ {es : List (Value × Value × Nat)} {es' : List MapEntry} {i : Nat} {f : Option (Nat × Value)}, ER ρ es es' → findK (some d) k es i = some f →
    ∃ f', Instr.findNow d k es' i = some f' ∧ (match f, f' with
      | none, none => True
      | some (j, v), some (j', v') => j' = j ∧ VR ρ v v' ∧ i ≤ j ∧ j - i < es.length ∧ ∃ x, es[j - i]? = some x ∧ eqT (some d) k x.1 = some true
      | _, _ => False)
  | [], [], i, f, _, e => by simp [findK] at e; subst e; exact ⟨none, rfl, trivial⟩
  | (a, v, n) :: r, y :: r', i, f, R, e => by
    obtain ⟨h1, h2, h3, h4⟩ := R.2 0 (a, v, n) y rfl rfl
    simp only [findK] at e
    split at e
    · rename_i heq
      cases e
      refine ⟨some (i, y.val), ?_, rfl, h3, Nat.le_refl _, by simp, (a, v, n), by simp, heq⟩
      simp only [Instr.findNow, h2, eqT_now heq]
    · rename_i heq
      obtain ⟨f', g1, g2⟩ := findK_run R.tail e
      refine ⟨f', ?_, ?_⟩
      · simp only [Instr.findNow, h2, eqT_now heq]; exact g1
      · cases f with
        | none => cases f' with
          | none => trivial
          | some _ => exact g2.elim
        | some fv =>
          cases f' with
          | none => exact g2.elim
          | some fv' =>
            obtain ⟨j, u⟩ := fv; obtain ⟨j', u'⟩ := fv'
            obtain ⟨a1, a2, a3, a4, x, a5, a6⟩ := g2
            refine ⟨a1, a2, by omega, by simp; omega, x, ?_, a6⟩
            rw [show j - i = (j - (i + 1)) + 1 from by omega]; simpa using a5
    · cases e
  | [], _ :: _, _, _, R, _ => by simp [ER] at R
  | _ :: _, [], _, _, R, _ => by simp [ER] at R
theorem check_plain {kt : TypeId} (hk : isPlainK (P.underlying kt) = true) (b : Bool) (n : Nat) (v : Value) (w : World) : (Instr.checkKey b (n + 1) kt v).run P w = .ok () w := by
  unfold isPlainK at hk
  cases hd : P.underlying kt with
  | none => rw [hd] at hk; cases hk
  | some d =>
    rw [hd] at hk
    cases d <;> first | (cases hk; done) | skip
    all_goals simp [Instr.checkKey, run_underlying hd]
theorem findKey_run {kt : TypeId} {d : TypeDesc} (hd : P.underlying kt = some d) {k : Value} {es' : List MapEntry} {f' : Option (Nat × Value)} (e : Instr.findNow d k es' 0 = some f') (w : World) : (Instr.findKey kt k es').run P w = .ok f' w := by
  simp [Instr.findKey, run_underlying hd, e]
theorem plain_some {d : Option TypeDesc} (h : isPlainK d = true) : ∃ t, d = some t := by
  cases d with
  | none => cases h
  | some t => exact ⟨t, rfl⟩
/-- a map's object -/
theorem map_obj (R : Rel n0 ρ h w) {m m' : Value} {r c : Nat} {es : List (Value × Value × Nat)} (e : mpOf h m = some (r, es, c)) (k : VR ρ m m') :
    ∃ p es', m = .map (some r) ∧ ρ[r]? = some p ∧ m' = .map (some p.b) ∧ w.heap[p.b]? = some (.map es' c) ∧ ER ρ es es'.toList ∧ h[r]? = some (.mp es c) := by
  unfold mpOf at e
  split at e
  · rename_i r0
    split at e
    · rename_i es0 c0 hb
      cases e
      cases k with
      | lit hl => simp [isLit] at hl
      | map hp =>
        rename_i p
        obtain ⟨_, o, ho, hor⟩ := R.obj _ _ _ hp hb rfl
        cases hor with
        | mp a1 a2 => exact ⟨p, _, rfl, hp, rfl, ho, ⟨by simpa using a1, fun i x y p q => a2 i x y p (by simpa using q)⟩, hb⟩
    · cases e
  · cases e
theorem toList_eq {a b : ByteArray} (e : (a.toList == b.toList) = true) : a = b := by rw [← beq_toListBytes] at e; exact (MapKept.bytes_beq a b).1 e
theorem VR.map_none {m' : Value} (k : VR ρ (.map none) m') : m' = .map none := (VR.lit_iff rfl).1 k
theorem zero_rel {z : Value} (hl : z.cells.toList.all isLit = true) : VR ρ z z := by
  cases z with
  | agg xs => exact VR.agg_iff.2 ⟨xs, rfl, VRs.refl_lit (List.all_eq_true.1 hl)⟩
  | _ => first
    | exact .lit (by simpa [Value.cells] using hl)
    | (simp [Value.cells, isLit] at hl; done)
theorem esOf_run (R : Rel n0 ρ h w) {m m' : Value} {es : List (Value × Value × Nat)} (e : esOf h m = some es) (k : VR ρ m m') :
    ∃ es' : Array MapEntry, ER ρ es es'.toList ∧ ((m' = .map none ∧ es' = #[]) ∨ ∃ r c, m' = .map (some r) ∧ w.heap[r]? = some (.map es' c)) := by
  unfold esOf at e
  split at e
  · cases e
    have := VR.map_none k
    subst this
    exact ⟨#[], ⟨rfl, fun i x y p => by simp at p⟩, .inl ⟨rfl, rfl⟩⟩
  · simp only [Option.map_eq_some_iff] at e
    obtain ⟨⟨r, es0, c⟩, hm, rfl⟩ := e
    obtain ⟨p, es', _, _, h3, h4, h5, _⟩ := map_obj R hm k
    exact ⟨es', h5, .inr ⟨p.b, c, h3, h4⟩⟩
theorem aLookup_run (R : Rel n0 ρ h w) {t : TypeId} {m m' kk kk' u : Value} {ok : Bool} (e : aLookup P t m kk ok h = some u) (km : VR ρ m m') (ki : VR ρ kk kk') :
    ∃ u', (Instr.lookup t m' kk' ok).run P w = .ok u' w ∧ VR ρ u u' := by
  unfold aLookup at e
  split at e
  · rename_i kt et ht
    split at e
    · rename_i z hz
      split at e
      · rename_i hc
        simp only [Bool.and_eq_true] at hc
        obtain ⟨⟨hzl, hk⟩, hl⟩ := hc
        rw [(VR.lit_iff hl).1 ki]
        simp only [Option.bind_eq_some_iff, Option.map_eq_some_iff] at e
        obtain ⟨es, hes, f, hf, e⟩ := e
        obtain ⟨d, hd⟩ := plain_some hk
        rw [hd] at hf
        obtain ⟨es', hE, hm⟩ := esOf_run R hes km
        obtain ⟨f', g1, g2⟩ := findK_run hE hf
        have hfk := findKey_run (P := P) hd g1 w
        have hrun : (Instr.lookup t m' kk ok).run P w = .ok (match f' with | some (_, v) => if ok then .tuple #[v, .bool true] else v | none => if ok then .tuple #[z, .bool false] else z) w := by
          rcases hm with ⟨rfl, rfl⟩ | ⟨r, c, rfl, hr⟩
          · simp only [Instr.lookup, Sem.run_bind, run_underlying ht, Result.andThen_ok, Sem.run_pure, check_plain hk, hfk]
            cases f' with
            | none => simp only [Sem.run_bind, run_zeroOf hz, Result.andThen_ok, Sem.run_pure] <;> (cases ok <;> rfl)
            | some fv => simp only [Sem.run_pure, Result.andThen_ok] <;> (cases ok <;> rfl)
          · simp only [Instr.lookup, Sem.run_bind, run_underlying ht, Result.andThen_ok, getObj_map hr, Sem.run_pure, check_plain hk, hfk]
            cases f' with
            | none => simp only [Sem.run_bind, run_zeroOf hz, Result.andThen_ok, Sem.run_pure] <;> (cases ok <;> rfl)
            | some fv => simp only [Sem.run_pure, Result.andThen_ok] <;> (cases ok <;> rfl)
        refine ⟨_, hrun, ?_⟩
        have hz' : VR ρ z z := zero_rel hzl
        cases f with
        | none =>
          cases f' with
          | some _ => exact g2.elim
          | none =>
            simp only at e
            subst e
            cases ok with
            | true => exact VR.tuple_iff.2 ⟨_, rfl, hz', .lit rfl, trivial⟩
            | false => exact hz'
        | some fv =>
          cases f' with
          | none => exact g2.elim
          | some fv' =>
            obtain ⟨j, v⟩ := fv; obtain ⟨j', v'⟩ := fv'
            obtain ⟨_, hv, _⟩ := g2
            simp only at e
            subst e
            cases ok with
            | true => exact VR.tuple_iff.2 ⟨_, rfl, hv, .lit rfl, trivial⟩
            | false => exact hv
      · cases e
    · cases e
  · cases e
theorem aMakeMap_run (R : Rel n0 ρ h w) {t : TypeId} {r r' : Option Value} {u : Value} (e : aMakeMap P r t h = some (u, h')) (kr : (r = none ∧ r' = none) ∨ ∃ a a', r = some a ∧ r' = some a' ∧ VR ρ a a') :
    ∃ ρ' u' w', (Instr.makeMap t r').run P w = .ok u' w' ∧ Le ρ ρ' ∧ VR ρ' u u' ∧ Rel n0 ρ' h' w' ∧ Below n0 w w' := by
  have hor : OR (ρ ++ [⟨w.heap.size, 0, 0, 0⟩]) (.mp [] 0) (.map #[] 0) := .mp rfl (fun i x y p => by simp at p)
  have R2 := R.pushObj (Pushed.alloc w (.map #[] 0)) rfl hor
  have fin : ∀ (x : Value × H), x = (.map (some h.length), h ++ [.mp [] 0]) → x = (u, h') → (Instr.makeMap t r').run P w = .ok (.map (some w.heap.size)) (w.alloc (.map #[] 0)) →
      ∃ ρ' u' w', (Instr.makeMap t r').run P w = .ok u' w' ∧ Le ρ ρ' ∧ VR ρ' u u' ∧ Rel n0 ρ' h' w' ∧ Below n0 w w' := by
    intro x h1 h2 h3
    rw [h1] at h2; cases h2
    exact ⟨_, _, _, h3, Le.app _ _, .map (get_len R.len.symm), R2, (Pushed.alloc w _).below R.n0le⟩
  unfold aMakeMap at e
  split at e
  · rename_i kt et ht
    simp only [Option.some.injEq] at e
    have : r' = none := by rcases kr with ⟨_, h⟩ | ⟨_, _, h, _, _⟩; exact h; cases h
    subst this
    exact fin _ rfl e (by simp [Instr.makeMap, run_newObj_alloc])
  · rename_i kt et kk n ht
    simp only [Option.some.injEq] at e
    have : r' = some (.int kk n) := by
      rcases kr with ⟨h, _⟩ | ⟨_, _, h, h2, k⟩
      · cases h
      · cases h; rw [h2, (VR.lit_iff rfl).1 k]
    subst this
    exact fin _ rfl e (by simp [Instr.makeMap, run_newObj_alloc, run_underlying ht, asInt, asIntOf])
  · cases e
theorem setMap (R : Rel n0 ρ h w) {r c c2 : Nat} {p : Pl} {es es2 : List (Value × Value × Nat)} {es2' : Array MapEntry} (hp : ρ[r]? = some p) (hb : h[r]? = some (.mp es c)) {es' : Array MapEntry} (hw : w.heap[p.b]? = some (.map es' c))
    (hE : ER ρ es2 es2'.toList) : Rel n0 ρ (h.set r (.mp es2 c2)) { w with heap := w.heap.setIfInBounds p.b (.map es2' c2) } ∧ Below n0 w { w with heap := w.heap.setIfInBounds p.b (.map es2' c2) } := by
  obtain ⟨⟨hn, _⟩, _⟩ := R.obj _ _ _ hp hb rfl
  refine ⟨R.setObj hp hb rfl (o' := .map es2' c2) (.inl rfl) (by simp) ?_ rfl (fun _ => .mp (by simpa using hE.1) fun i x y p q => hE.2 i x y p (by simpa using q)) ?_, ⟨rfl, rfl, rfl, by simp, ?_⟩⟩
  · have := R.lt _ _ hp
    show (w.heap.setIfInBounds p.b _)[p.b]? = _
    simp [this]
  · intro k hk
    show (w.heap.setIfInBounds p.b _)[k]? = _
    rw [Array.getElem?_setIfInBounds_ne (fun e2 => hk e2.symm)]
  · intro k hk
    show (w.heap.setIfInBounds p.b _)[k]? = _
    rw [Array.getElem?_setIfInBounds_ne (by omega)]
theorem sameBits_lit {d : TypeDesc} {a b : Value} {n : Nat} (e : eqT (some d) a b = some true) : Instr.sameBits n b a = true := by
  unfold eqT at e
  split at e
  · rename_i hd; simp only [Option.some.injEq, beq_iff_eq] at e; subst e; cases n <;> simp [Instr.sameBits]
  · split at e
    · rename_i hk; subst hk
      simp only [Option.some.injEq, decide_eq_true_eq] at e
      subst e
      cases n <;> simp [Instr.sameBits]
    · cases e
  · rename_i a b' hd
    have := toList_eq (Option.some.inj e)
    subst this
    have h2 := (MapKept.bytes_beq a a).2 rfl
    cases n <;> simp only [Instr.sameBits] <;> exact h2
  · cases e
theorem eqT_same {d : TypeDesc} {a b : Value} (e : eqT (some d) a b = some true) : a = b := by
  unfold eqT at e
  split at e
  · simp only [Option.some.injEq, beq_iff_eq] at e; rw [e]
  · split at e
    · rename_i hk; subst hk
      simp only [Option.some.injEq, decide_eq_true_eq] at e
      rw [e]
    · cases e
  · rename_i a b' hd
    rw [toList_eq (Option.some.inj e)]
  · cases e
theorem aMapUpdate_run (R : Rel n0 ρ h w) {t : TypeId} {m m' kk kk' v v' : Value} (e : aMapUpdate P t m kk v h = some h') (km : VR ρ m m') (ki : VR ρ kk kk') (kv : VR ρ v v') :
    ∃ w', (Instr.mapUpdate t m' kk' v').run P w = .ok () w' ∧ Rel n0 ρ h' w' ∧ Below n0 w w' := by
  unfold aMapUpdate at e
  split at e
  · rename_i kt et ht
    split at e
    · rename_i hc
      simp only [Bool.and_eq_true] at hc
      obtain ⟨hk, hl⟩ := hc
      rw [(VR.lit_iff hl).1 ki]
      simp only [Option.bind_eq_some_iff] at e
      obtain ⟨⟨r, es, c⟩, hm, f, hf, e⟩ := e
      obtain ⟨d, hd⟩ := plain_some hk
      rw [hd] at hf
      obtain ⟨p, es', rfl, hp, rfl, hw, hE, hb⟩ := map_obj R hm km
      obtain ⟨f', g1, g2⟩ := findK_run hE hf
      have hfk := findKey_run (P := P) hd g1 w
      cases f with
      | none =>
        cases f' with
        | some _ => exact g2.elim
        | none =>
          simp only [Option.some.injEq] at e
          subst e
          have hE2 : ER ρ (es ++ [(kk, v, c)]) (es'.push ⟨kk, v', c⟩).toList := by
            refine ⟨by simp [hE.1], fun i x y q1 q2 => ?_⟩
            rw [Array.toList_push] at q2
            rcases get_snoc q1 with q3 | ⟨e1, q3⟩
            · have := lt_of_some q3
              rw [List.getElem?_append_left (by rw [← hE.1]; exact this)] at q2
              exact hE.2 i x y q3 q2
            · subst e1; subst q3
              rw [hE.1] at q2
              simp at q2
              subst q2
              exact ⟨hl, rfl, kv, rfl⟩
          obtain ⟨R2, B2⟩ := setMap (c2 := c + 1) R hp hb hw hE2
          refine ⟨_, ?_, R2, B2⟩
          simp only [Instr.mapUpdate, Sem.run_bind, run_underlying ht, Result.andThen_ok, getObj_map hw, check_plain hk, hfk, setObj_map _ hw]
      | some fv =>
        cases f' with
        | none => exact g2.elim
        | some fv' =>
          obtain ⟨j, u⟩ := fv; obtain ⟨j', u'⟩ := fv'
          obtain ⟨rfl, hu, _, hj, x, hx, hxk⟩ := g2
          rw [Nat.sub_zero] at hj hx
          simp only [Option.map_eq_some_iff] at e
          obtain ⟨y, hy, rfl⟩ := e
          rw [hx] at hy; cases hy
          have hj' : j' < es'.size := by have := hE.1; simp at this; omega
          obtain ⟨q1, q2, q3, q4⟩ := hE.2 j' x es'[j'] hx (by simp [hj'])
          have hkx := eqT_same hxk
          have hstay : ∀ w, (Instr.keyThatStays (((es'[j']?).map (·.key)).getD kk) kk).run P w = .ok kk w := fun w => by
            rw [Array.getElem?_eq_getElem hj']
            simp only [Option.map_some, Option.getD_some, q2]
            unfold Instr.keyThatStays
            rw [if_pos (sameBits_lit hxk)]; rfl
          have hE2 : ER ρ (es.set j' (kk, v, x.2.2)) (es'.modify j' fun e => { e with key := kk, val := v' }).toList := by
            refine ⟨by simp [hE.1], fun i a b p1 p2 => ?_⟩
            rw [Array.getElem?_toList, Array.getElem?_modify] at p2
            rcases get_set p1 with ⟨rfl, rfl⟩ | ⟨hne, p1⟩
            · rw [if_pos rfl, Array.getElem?_eq_getElem hj'] at p2
              simp at p2; subst p2
              exact ⟨hl, rfl, kv, q4⟩
            · rw [if_neg (fun e => hne e.symm)] at p2
              exact hE.2 i a b p1 (by simpa using p2)
          obtain ⟨R2, B2⟩ := setMap (c2 := c) R hp hb hw hE2
          refine ⟨_, ?_, R2, B2⟩
          simp only [Instr.mapUpdate, Sem.run_bind, run_underlying ht, Result.andThen_ok, getObj_map hw, check_plain hk, hfk, hstay, setObj_map _ hw]
    · cases e
  · cases e
theorem aDelete_run (R : Rel n0 ρ h w) {t : TypeId} {m m' kk kk' : Value} (e : aDelete P t m kk h = some h') (km : VR ρ m m') (ki : VR ρ kk kk') (ts : Array TypeId) (h0 : ts[0]? = some t) (ty : TypeId) :
    ∃ w', (Builtin.delete_ ts ty #[m', kk']).run P w = .ok undef w' ∧ Rel n0 ρ h' w' ∧ Below n0 w w' := by
  unfold aDelete at e
  split at e
  · rename_i kt et ht
    split at e
    · rename_i hc
      simp only [Bool.and_eq_true] at hc
      obtain ⟨hk, hl⟩ := hc
      rw [(VR.lit_iff hl).1 ki]
      split at e
      · cases e
        have := VR.map_none km
        subst this
        exact ⟨w, by simp [Builtin.delete_, h0, run_underlying ht, check_plain hk, undef], R, Below.refl _ _⟩
      · simp only [Option.bind_eq_some_iff, Option.map_eq_some_iff] at e
        obtain ⟨⟨r, es, c⟩, hm, f, hf, e⟩ := e
        obtain ⟨d, hd⟩ := plain_some hk
        rw [hd] at hf
        obtain ⟨p, es', rfl, hp, rfl, hw, hE, hb⟩ := map_obj R hm km
        obtain ⟨f', g1, g2⟩ := findK_run hE hf
        have hfk := findKey_run (P := P) hd g1 w
        cases f with
        | none =>
          cases f' with
          | some _ => exact g2.elim
          | none =>
            simp only at e
            subst e
            obtain ⟨R2, B2⟩ := setMap (c2 := c) R hp hb hw hE
            refine ⟨_, ?_, R2, B2⟩
            simp [Builtin.delete_, h0, run_underlying ht, check_plain hk, getObj_map hw, hfk, setObj_map _ hw, undef]
        | some fv =>
          cases f' with
          | none => exact g2.elim
          | some fv' =>
            obtain ⟨j, u⟩ := fv; obtain ⟨j', u'⟩ := fv'
            obtain ⟨rfl, hu, _, hj, x, hx, hxk⟩ := g2
            simp only at e
            subst e
            have hj' : j' < es'.size := by have := hE.1; simp at this; omega
            have hE2 : ER ρ (es.eraseIdx j') (es'.eraseIdxIfInBounds j').toList := by
              have ht2 : (es'.eraseIdxIfInBounds j').toList = es'.toList.eraseIdx j' := by simp
              rw [ht2]
              refine ⟨by rw [List.length_eraseIdx, List.length_eraseIdx, hE.1], fun i a b p1 p2 => ?_⟩
              rw [List.getElem?_eraseIdx] at p1 p2
              split at p1
              · rename_i hlt; rw [if_pos hlt] at p2; exact hE.2 i a b p1 p2
              · rename_i hlt; rw [if_neg hlt] at p2; exact hE.2 (i + 1) a b p1 p2
            obtain ⟨R2, B2⟩ := setMap (c2 := c) R hp hb hw hE2
            refine ⟨_, ?_, R2, B2⟩
            simp [Builtin.delete_, h0, run_underlying ht, check_plain hk, getObj_map hw, hfk, setObj_map _ hw, undef]
    · cases e
  · cases e
theorem mpLen_run (R : Rel n0 ρ h w) {t kt et : TypeId} {x x' u : Value} (e : mpLen h x = some u) (k : VR ρ x x') (ts : Array TypeId) (ht : ts[0]? = some t) (hd : P.underlying t = some (.map kt et)) (ty : TypeId) :
    (Builtin.len_ ts ty #[x']).run P w = .ok u w ∧ isLit u = true := by
  unfold mpLen at e
  split at e
  · cases e
    have := VR.map_none k
    subst this
    exact ⟨by simp [Builtin.len_, ht, run_underlying hd, goInt], rfl⟩
  · rename_i r
    split at e
    · rename_i es c hb
      cases e
      cases k with
      | lit hl => simp [isLit] at hl
      | map hp =>
        rename_i p
        obtain ⟨_, o, ho, hor⟩ := R.obj _ _ _ hp hb rfl
        cases hor with
        | mp a1 a2 => exact ⟨by simp [Builtin.len_, ht, run_underlying hd, goInt, getObj_map ho, a1], rfl⟩
    · cases e
  · cases e
theorem aAssert_run {t xt : TypeId} {x x' u : Value} {ok : Bool} (e : aAssert P t x ok = some u) (k : VR ρ x x') (w : World) : ∃ u', (Instr.typeAssert x' xt t ok).run P w = .ok u' w ∧ VR ρ u u' := by
  unfold aAssert at e
  split at e
  · cases e
  · rename_i d hni hd
    split at e
    · rename_i d2 v z hz
      have hx : ∃ v', x' = .iface d2 v' ∧ VR ρ v v' := by
        cases k with
        | lit hl => simp [isLit] at hl
        | iface k => exact ⟨_, rfl, k⟩
      obtain ⟨v', rfl, kv⟩ := hx
      have hrun : (Instr.typeAssert (.iface d2 v') xt t ok).run P w = (if d2 = t then pure (if ok then .tuple #[v', .bool true] else v') else if ok then (do pure (.tuple #[← zeroValue t, .bool false])) else runtimePanic (.typeAssertion (some xt) (some d2) t "") : Sem Value).run P w := by
        unfold Instr.typeAssert
        simp only [Sem.run_bind, run_underlying hd, Result.andThen_ok]
        try (cases d <;> first | rfl | exact absurd rfl (hni _))
      rw [hrun]
      split at e
      · rename_i he
        cases e
        rw [if_pos he]
        cases ok with
        | true => exact ⟨_, rfl, VR.tuple_iff.2 ⟨_, rfl, kv, .lit rfl, trivial⟩⟩
        | false => exact ⟨_, rfl, kv⟩
      · rename_i he
        rw [if_neg he]
        split at e
        · rename_i hc
          simp only [Bool.and_eq_true] at hc
          obtain ⟨rfl, hl⟩ := hc
          cases e
          exact ⟨.tuple #[z, .bool false], by simp [run_zeroOf hz], VR.tuple_iff.2 ⟨_, rfl, zero_rel hl, .lit rfl, trivial⟩⟩
        · cases e
    · rename_i z hz
      split at e
      · rename_i hc
        simp only [Bool.and_eq_true] at hc
        obtain ⟨rfl, hl⟩ := hc
        cases e
        have := (VR.lit_iff rfl).1 k
        subst this
        refine ⟨.tuple #[z, .bool false], ?_, VR.tuple_iff.2 ⟨_, rfl, zero_rel hl, .lit rfl, trivial⟩⟩
        unfold Instr.typeAssert
        simp only [Sem.run_bind, run_underlying hd, Result.andThen_ok]
        cases d <;> simp [run_zeroOf hz]
      · cases e
    · cases e
  · cases e
end Go.Ev
