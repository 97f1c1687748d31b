/- A part of the proof that what the evaluator of YtjdcdabbbmhffaaEvCore answers, the call answers in the model. No condition. -/
import Derived.Test.YtjdcdabbbmhffaaEvOp1
import Derived.Laws.StructEq
set_option linter.unusedVariables false
set_option linter.unusedSimpArgs false
namespace Go.Ev
open Go.RowKit (Below)
variable {P : Program} {n0 : Nat} {ρ : Rho} {h h' : H} {w : World}

theorem eqT_run {d : Option TypeDesc} {x y : Value} {b : Bool} (e : eqT d x y = some b) : isLit x = true ∧ isLit y = true ∧
    ∀ (t : TypeId) (n : Nat) (w : World), P.underlying t = d → (Op.equalIn (n + 1) t x y).run P w = .ok b w := by
  unfold eqT at e
  split at e
  · cases e; exact ⟨rfl, rfl, fun t n w ht => run_equalIn_bool' w n t _ _ ht⟩
  · split at e
    · rename_i hk; subst hk
      cases e
      refine ⟨rfl, rfl, fun t n w ht => ?_⟩
      rw [run_equalIn_int w n t _ _ _ _ ht]; congr 1
    · cases e
  · cases e; exact ⟨rfl, rfl, fun t n w ht => run_equalIn_string w n t _ _ ht⟩
  · first | (cases e; done) | skip
theorem eqFs_run (w : World) (n : Nat) (xs ys : Array Value) : ∀ (fs : List Field) (i : Nat) (l m : List Value) (b : Bool), l = xs.toList.drop i → m = ys.toList.drop i → eqFs P i fs l m = some b →
    (∀ v ∈ l, isLit v = true) ∧ (∀ v ∈ m, isLit v = true) ∧ (Op.eqFields (n + 1) xs ys fs).run P w = .ok b w := by
  intro fs
  induction fs with
  | nil =>
    intro i l m b hl hm e
    cases l <;> cases m <;> simp only [eqFs] at e <;> first | (cases e; done) | skip
    cases e; exact ⟨by simp, by simp, by simp [Op.eqFields]⟩
  | cons f fs ih =>
    intro i l m b hl hm e
    cases l with
    | nil => cases m <;> simp [eqFs] at e
    | cons x xs' =>
    cases m with
    | nil => simp [eqFs] at e
    | cons y ys' =>
      simp only [eqFs] at e
      split at e
      · rename_i hc
        simp only [Bool.and_eq_true, decide_eq_true_eq, bne_iff_ne] at hc
        obtain ⟨hn, ho⟩ := hc
        split at e
        · rename_i b1 b2 e1 e2
          cases e
          obtain ⟨q1, q2, q3⟩ := eqT_run (P := P) e1
          have hx : xs[i]? = some x := by
            have : (xs.toList.drop i)[0]? = some x := by rw [← hl]; rfl
            simpa using this
          have hy : ys[i]? = some y := by
            have : (ys.toList.drop i)[0]? = some y := by rw [← hm]; rfl
            simpa using this
          have hl' : xs' = xs.toList.drop (i + 1) := by rw [← List.tail_drop, ← hl]; rfl
          have hm' : ys' = ys.toList.drop (i + 1) := by rw [← List.tail_drop, ← hm]; rfl
          obtain ⟨r1, r2, r3⟩ := ih (i + 1) xs' ys' b2 hl' hm' e2
          refine ⟨by intro v hv; cases hv with | head => exact q1 | tail _ hv => exact r1 v hv, by intro v hv; cases hv with | head => exact q2 | tail _ hv => exact r2 v hv, ?_⟩
          have hagg : isAgg P f.type = some false := by
            unfold eqT at e1
            split at e1
            · rename_i hd; simp [isAgg, hd]
            · rename_i hd; simp [isAgg, hd]
            · rename_i hd; simp [isAgg, hd]
            · cases e1
          simp only [Op.eqFields, ne_eq, hn, not_false_eq_true, if_true, Sem.run_bind, part, run_isAgg hagg, Result.andThen_ok, Bool.false_eq_true, if_false, ho, hx, hy, Sem.run_pure, q3 f.type n w rfl]
          cases b1
          · simp
          · simp only [Bool.not_true, Bool.false_eq_true, if_false, Bool.true_and]; exact r3
        · cases e
      · cases e
theorem VRs.lit_eq {ρ : Rho} : ∀ {l l' : List Value}, VRs ρ l l' → (∀ v ∈ l, isLit v = true) → l' = l
  | [], [], _, _ => rfl
  | x :: xs, y :: ys, k, h => by
    rw [(VR.lit_iff (h x (by simp))).1 k.1, VRs.lit_eq k.2 fun v hv => h v (by simp [hv])]

theorem run_equalIn_ptr (w : World) (d : Nat) {t e : TypeId} (a b : Option Addr) (ht : P.underlying t = some (.pointer e)) (hn : (a.isNone || b.isNone) = true) :
    (Op.equalIn (d + 1) t (.pointer a) (.pointer b)).run P w = .ok (a.isNone && b.isNone) w := by
  cases a <;> cases b <;> first | (simp at hn; done) | simp [Op.equalIn, run_underlying ht]
theorem run_equalIn_ptr_same (w : World) (d : Nat) {t e : TypeId} {n : Nat} (a : Addr) (ht : P.underlying t = some (.pointer e)) (hs : szOf P e = some n) :
    (Op.equalIn (d + 1) t (.pointer (some a)) (.pointer (some a))).run P w = .ok true w := by
  have hs' := run_szOf (P := P) hs
  simp only [Op.equalIn, Sem.run_bind, run_underlying ht, Result.andThen_ok, hs', Sem.run_ite]
  split
  · simp [sameAddr]
  · simp
theorem run_equalIn_slice (w : World) (d : Nat) {t e : TypeId} (a b : Option Addr) (l c l' c' : Nat) (ht : P.underlying t = some (.slice e)) (hn : (a.isNone || b.isNone) = true) :
    (Op.equalIn (d + 1) t (.slice a l c) (.slice b l' c')).run P w = .ok (a.isNone && b.isNone) w := by
  cases a <;> cases b <;> first | (simp at hn; done) | simp [Op.equalIn, run_underlying ht]
theorem run_equalIn_map (w : World) (d : Nat) {t k e : TypeId} (a b : Option Nat) (ht : P.underlying t = some (.map k e)) (hn : (a.isNone || b.isNone) = true) : (Op.equalIn (d + 1) t (.map a) (.map b)).run P w = .ok (a.isNone && b.isNone) w := by
  cases a <;> cases b <;> first | (simp at hn; done) | simp [Op.equalIn, run_underlying ht]
theorem run_equalIn_func1 (w : World) (d : Nat) {t : TypeId} {p1 p2 p3} (ht : P.underlying t = some (.func p1 p2 p3)) : (Op.equalIn (d + 1) t .nilFunc .nilFunc).run P w = .ok true w := by simp [Op.equalIn, run_underlying ht]
theorem run_equalIn_func2 (w : World) (d : Nat) {t : TypeId} {p1 p2 p3} (ht : P.underlying t = some (.func p1 p2 p3)) (f : Fn) (a b : Array Value) : (Op.equalIn (d + 1) t .nilFunc (.func f a b)).run P w = .ok false w := by simp [Op.equalIn, run_underlying ht]
theorem run_equalIn_func3 (w : World) (d : Nat) {t : TypeId} {p1 p2 p3} (ht : P.underlying t = some (.func p1 p2 p3)) (f : Fn) (a b : Array Value) : (Op.equalIn (d + 1) t (.func f a b) .nilFunc).run P w = .ok false w := by simp [Op.equalIn, run_underlying ht]
theorem run_equalIn_iface1 (w : World) (d : Nat) {t : TypeId} {ms} (ht : P.underlying t = some (.interface ms)) : (Op.equalIn (d + 1) t .nilIface .nilIface).run P w = .ok true w := by simp [Op.equalIn, run_underlying ht]
theorem run_equalIn_iface2 (w : World) (d : Nat) {t : TypeId} {ms} (ht : P.underlying t = some (.interface ms)) (u : TypeId) (v : Value) : (Op.equalIn (d + 1) t .nilIface (.iface u v)).run P w = .ok false w := by simp [Op.equalIn, run_underlying ht]
theorem run_equalIn_iface3 (w : World) (d : Nat) {t : TypeId} {ms} (ht : P.underlying t = some (.interface ms)) (u : TypeId) (v : Value) : (Op.equalIn (d + 1) t (.iface u v) .nilIface).run P w = .ok false w := by simp [Op.equalIn, run_underlying ht]
theorem aEq_run {c : Bool} {t : TypeId} {x y x' y' : Value} {b : Bool} (e : aEq P c t x y = some b) (kx : VR ρ x x') (ky : VR ρ y y') (op : BinOp) (ox oy : Operand) (hcc : c = true → (isC ox || isC oy) = true) (w : World) :
    (Op.equal t x' y').run P w = .ok b w ∧ (eqGuard op t ox oy x' y').run P w = .ok () w ∧ (binOp .eql t x' y' = do pure (.bool (← Op.equal t x' y'))) ∧ (binOp .neq t x' y' = do pure (.bool (!(← Op.equal t x' y')))) := by
  unfold aEq at e
  split at e
  · rename_i a c hd
    cases e
    rw [(VR.lit_iff rfl).1 kx, (VR.lit_iff rfl).1 ky]
    refine ⟨run_equalIn_bool' w 9999 t _ _ hd, ?_, rfl, rfl⟩
    cases op <;> simp [eqGuard]
  · rename_i el a c hd
    split at e
    · rename_i hn
      cases e
      have nm : ∀ {z : Option Addr} {z' : Value}, VR ρ (.pointer z) z' → ∃ a', z' = .pointer a' ∧ a'.isNone = z.isNone := by
        intro z z' k; cases k <;> exact ⟨_, rfl, rfl⟩
      obtain ⟨a', rfl, ha⟩ := nm kx
      obtain ⟨c', rfl, hc⟩ := nm ky
      rw [← ha, ← hc] at hn ⊢
      refine ⟨?_, by cases op <;> simp [eqGuard], by simp only [binOp], by simp only [binOp]⟩
      exact run_equalIn_ptr w 9999 _ _ hd hn
    · split at e
      · rename_i hn hs
        cases e
        simp only [Bool.and_eq_true, decide_eq_true_eq] at hs
        obtain ⟨⟨hs, _⟩, rfl⟩ := hs
        obtain ⟨n, hs⟩ := Option.isSome_iff_exists.1 hs
        have : ∃ ad, x' = .pointer (some ad) ∧ y' = .pointer (some ad) := by
          cases kx with
          | lit hl =>
            rw [(VR.lit_iff hl).1 ky]
            cases a with
            | none => simp at hn
            | some ad => exact ⟨ad, rfl, rfl⟩
          | ptr hp =>
            cases ky with
            | lit hl => simp [isLit] at hl
            | ptr hp2 => rw [hp] at hp2; cases hp2; exact ⟨_, rfl, rfl⟩
        obtain ⟨ad, rfl, rfl⟩ := this
        refine ⟨run_equalIn_ptr_same w 9999 ad hd hs, by cases op <;> simp [eqGuard], by simp only [binOp], by simp only [binOp]⟩
      · cases e
  · rename_i el a l1 c1 b' l2 c2 hd
    split at e
    · rename_i hn
      cases e
      have nm : ∀ {z : Option Addr} {l c : Nat} {z' : Value}, VR ρ (.slice z l c) z' → ∃ a' l' c', z' = .slice a' l' c' ∧ a'.isNone = z.isNone := by
        intro z l c z' k; cases k <;> exact ⟨_, _, _, rfl, rfl⟩
      obtain ⟨a', _, _, rfl, ha⟩ := nm kx
      obtain ⟨c', _, _, rfl, hc⟩ := nm ky
      rw [← ha, ← hc] at hn ⊢
      refine ⟨?_, by cases op <;> simp [eqGuard], by simp only [binOp], by simp only [binOp]⟩
      exact run_equalIn_slice w 9999 _ _ _ _ _ _ hd hn
    · cases e
  · rename_i kt et a b' hd
    split at e
    · rename_i hn
      cases e
      have nm : ∀ {z : Option Nat} {z' : Value}, VR ρ (.map z) z' → ∃ a', z' = .map a' ∧ a'.isNone = z.isNone := by
        intro z z' k; cases k <;> exact ⟨_, rfl, rfl⟩
      obtain ⟨a', rfl, ha⟩ := nm kx
      obtain ⟨c', rfl, hc⟩ := nm ky
      rw [← ha, ← hc] at hn ⊢
      refine ⟨?_, by cases op <;> simp [eqGuard], by simp only [binOp], by simp only [binOp]⟩
      exact run_equalIn_map w 9999 _ _ hd hn
    · cases e
  · rename_i hd
    cases e
    rw [(VR.lit_iff rfl).1 kx, (VR.lit_iff rfl).1 ky]
    refine ⟨?_, by cases op <;> simp [eqGuard], by simp only [binOp], by simp only [binOp]⟩
    exact run_equalIn_func1 w 9999 hd
  · rename_i hd
    cases e
    rw [(VR.lit_iff rfl).1 kx]
    have : ∃ f a b, y' = .func f a b := by cases ky <;> first | exact ⟨_, _, _, rfl⟩ | (rename_i hl; simp [isLit] at hl)
    obtain ⟨f', a', b', rfl⟩ := this
    refine ⟨?_, by cases op <;> simp [eqGuard], by simp only [binOp], by simp only [binOp]⟩
    exact run_equalIn_func2 w 9999 hd _ _ _
  · rename_i hd
    cases e
    rw [(VR.lit_iff rfl).1 ky]
    have : ∃ f a b, x' = .func f a b := by cases kx <;> first | exact ⟨_, _, _, rfl⟩ | (rename_i hl; simp [isLit] at hl)
    obtain ⟨f', a', b', rfl⟩ := this
    refine ⟨?_, by cases op <;> simp [eqGuard], by simp only [binOp], by simp only [binOp]⟩
    exact run_equalIn_func3 w 9999 hd _ _ _
  · rename_i ms hd
    split at e
    · rename_i hc
      cases e
      have hcc := hcc hc
      rw [(VR.lit_iff rfl).1 kx, (VR.lit_iff rfl).1 ky]
      refine ⟨?_, ?_, by simp only [binOp], by simp only [binOp]⟩
      · exact run_equalIn_iface1 w 9999 hd
      · cases ox <;> cases oy <;> simp [isC] at hcc <;> cases op <;> simp [eqGuard]
    · cases e
  · rename_i hd
    cases e
    rw [(VR.lit_iff rfl).1 kx]
    have : ∃ d v, y' = .iface d v := by cases ky <;> first | exact ⟨_, _, rfl⟩ | (rename_i hl; simp [isLit] at hl)
    obtain ⟨d', v', rfl⟩ := this
    refine ⟨?_, by cases op <;> simp [eqGuard], by simp only [binOp], by simp only [binOp]⟩
    exact run_equalIn_iface2 w 9999 hd _ _
  · rename_i hd
    cases e
    rw [(VR.lit_iff rfl).1 ky]
    have : ∃ d v, x' = .iface d v := by cases kx <;> first | exact ⟨_, _, rfl⟩ | (rename_i hl; simp [isLit] at hl)
    obtain ⟨d', v', rfl⟩ := this
    refine ⟨?_, by cases op <;> simp [eqGuard], by simp only [binOp], by simp only [binOp]⟩
    exact run_equalIn_iface3 w 9999 hd _ _
  · rename_i fs a c hd
    split at e
    · rename_i hg
      simp only [Bool.and_eq_true, Bool.not_eq_true', Bool.not_eq_eq_eq_not, Bool.not_true] at hg
      obtain ⟨hg, hst⟩ := hg
      obtain ⟨xs, rfl, k1⟩ := VR.agg_iff.1 kx
      obtain ⟨ys, rfl, k2⟩ := VR.agg_iff.1 ky
      obtain ⟨r1, r2, r3⟩ := eqFs_run (P := P) w 9998 a c fs.toList 0 _ _ b (by simp) (by simp) e
      have ex := k1.lit_eq r1
      have ey := k2.lit_eq r2
      have ex : xs = a := by rw [← Array.toArray_toList (xs := xs), ex]
      have ey : ys = c := by rw [← Array.toArray_toList (xs := ys), ey]
      subst ex; subst ey
      refine ⟨?_, run_eqGuard_agg w op t ox oy _ _ hg, by simp only [binOp], by simp only [binOp]⟩
      have hf : P.fieldsOf t = fs := by simp [Program.fieldsOf, hd]
      show (Op.equalIn (9999 + 1) t (.agg xs) (.agg ys)).run P w = _
      rw [run_equalIn_struct w 9999 t xs ys (by rw [hf]; exact hd) hst, hf]
      exact r3
    · cases e
  · cases e

theorem aBin_run {c : Bool} {op : BinOp} {t : TypeId} {x y x' y' u : Value} (e : aBin P c op t x y = some u) (kx : VR ρ x x') (ky : VR ρ y y') (ox oy : Operand) (hcc : c = true → (isC ox || isC oy) = true) (w : World) :
    (do eqGuard op t ox oy x' y'; binOp op t x' y' : Sem Value).run P w = .ok u w ∧ isLit u = true := by
  have hfall : aEqOp P c op t x y = some u → (do eqGuard op t ox oy x' y'; binOp op t x' y' : Sem Value).run P w = .ok u w ∧ isLit u = true := by
    intro e
    unfold aEqOp at e
    split at e
    · simp only [Option.map_eq_some_iff] at e
      obtain ⟨b, hb, rfl⟩ := e
      obtain ⟨q1, q2, q3, q4⟩ := aEq_run hb kx ky .eql ox oy hcc w
      exact ⟨by rw [q3]; simp [q1, q2], rfl⟩
    · simp only [Option.map_eq_some_iff] at e
      obtain ⟨b, hb, rfl⟩ := e
      obtain ⟨q1, q2, q3, q4⟩ := aEq_run hb kx ky .neq ox oy hcc w
      exact ⟨by rw [q4]; simp [q1, q2], rfl⟩
    · cases e
  cases x with
  | int k a => cases y with
    | int k' b =>
      rw [(VR.lit_iff rfl).1 kx, (VR.lit_iff rfl).1 ky]
      have hg : (eqGuard op t ox oy (.int k a) (.int k' b)).run P w = .ok () w := by cases op <;> simp [eqGuard]
      simp only [Sem.run_bind, hg, Result.andThen_ok]
      simp only [aBin] at e
      split at e
      · rename_i ho; exact (aShift_run e t w)
      · rename_i ho
        split at e
        · rename_i hk; subst hk; exact aInt_run e (fun h => ho (.inl h)) (fun h => ho (.inr h)) t w
        · cases e
    | _ => exact hfall e
  | string a => cases y with
    | string b =>
      rw [(VR.lit_iff rfl).1 kx, (VR.lit_iff rfl).1 ky]
      have hg : (eqGuard op t ox oy (.string a) (.string b)).run P w = .ok () w := by cases op <;> simp [eqGuard]
      simp only [Sem.run_bind, hg, Result.andThen_ok]
      exact aStr_run e t w
    | _ => exact hfall e
  | _ => exact hfall e

theorem aUn_run {op : UnOp} {x x' u : Value} (e : aUn op x = some u) (k : VR ρ x x') (w : World) : (Op.unary op x').run P w = .ok u w ∧ isLit u = true := by
  unfold aUn at e
  split at e
  · cases e; rw [(VR.lit_iff rfl).1 k]; simp [Op.unary, isLit]
  · simp only [force_eq, Option.some.injEq] at e; subst e; rw [(VR.lit_iff rfl).1 k]; simp [Op.unary, Op.intArith, isLit]
  · rw [(VR.lit_iff rfl).1 k]
    simp only [aInt, force_eq, Option.some.injEq] at e; subst e
    simp [Op.unary, Op.intBits, isLit]
  · cases e

/-! parts of what lies in one value -/
theorem aPart_run {t : TypeId} {cs : List Value} {xs : Array Value} {off : Nat} {u : Value} (e : aPart P t cs off = some u) (k : VRs ρ cs xs.toList) (w : World) :
    ∃ u', (part t xs off).run P w = .ok u' w ∧ VR ρ u u' := by
  unfold aPart at e
  split at e
  · rename_i ha
    simp only [Option.map_eq_some_iff] at e
    obtain ⟨n, hn, rfl⟩ := e
    refine ⟨.agg (xs.extract off (off + n)), by simp [part, run_isAgg ha, run_szOf hn], VR.agg_iff.2 ⟨_, rfl, ?_⟩⟩
    have := (k.drop off).take n
    simpa [List.drop_take, Array.toList_extract, List.extract] using this
  · rename_i ha
    obtain ⟨u', h1, h2⟩ := k.get off u e
    refine ⟨u', ?_, h2⟩
    simp [part, run_isAgg ha, (by simpa using h1 : xs[off]? = some u')]
  · cases e
theorem aField_run {t : TypeId} {x x' u : Value} {i : Nat} (e : aField P t x i = some u) (k : VR ρ x x') (w : World) : ∃ u', (Instr.field t x' i).run P w = .ok u' w ∧ VR ρ u u' := by
  unfold aField at e
  split at e
  · rename_i fs cs hd
    obtain ⟨xs, rfl, kx⟩ := VR.agg_iff.1 k
    split at e
    · rename_i f hf
      obtain ⟨u', h1, h2⟩ := aPart_run e kx w
      exact ⟨u', by simp [Instr.field, run_underlying hd, hf, asAgg, h1], h2⟩
    · cases e
  · cases e
theorem aFieldAddr_run {t : TypeId} {x x' u : Value} {i : Nat} (e : aFieldAddr P t x i = some u) (k : VR ρ x x') (w : World) : ∃ u', (Instr.fieldAt t x' i).run P w = .ok u' w ∧ VR ρ u u' := by
  unfold aFieldAddr at e
  split at e
  · rename_i fs b o hd
    cases k with
    | lit h => simp [isLit] at h
    | ptr hp =>
      rename_i p
      split at e
      · rename_i f hf
        split at e
        · rename_i n hz
          split at e
          · cases e
          · rename_i hn
            cases e
            refine ⟨.pointer (some ⟨p.b, p.s + o + f.offset, none⟩), ?_, by rw [Nat.add_assoc]; exact .ptr hp⟩
            simp [Instr.fieldAt, run_underlying hd, hf, Instr.sureAddr, fieldPlace, run_szOf hz, hn, add_none]
        · cases e
      · cases e
  · cases e
theorem aIndexAddr_run {t : TypeId} {x x' ix ix' u : Value} (e : aIndexAddr P t x ix = some u) (k : VR ρ x x') (ki : VR ρ ix ix') (w : World) : ∃ u', (Instr.indexAt t x' ix').run P w = .ok u' w ∧ VR ρ u u' := by
  unfold aIndexAddr at e
  split at e
  · rename_i ki' i el b o len cap hd
    rw [(VR.lit_iff rfl).1 ki]
    cases k with
    | lit h => simp [isLit] at h
    | slice hp hc hroom =>
      rename_i c' p
      split at e
      · rename_i hb
        simp only [Option.map_eq_some_iff] at e
        obtain ⟨s, hs, rfl⟩ := e
        refine ⟨.pointer (some ⟨p.b, p.s + o + i.toNat * s, none⟩), ?_, by rw [Nat.add_assoc]; exact .ptr hp⟩
        simp [Instr.indexAt, asIntOf, run_underlying hd, run_szOf hs, hb, add_none]
      · cases e
  · rename_i ki' i len el b o hd
    rw [(VR.lit_iff rfl).1 ki]
    cases k with
    | lit h => simp [isLit] at h
    | ptr hp =>
      rename_i p
      split at e
      · rename_i hb
        simp only [Option.map_eq_some_iff] at e
        obtain ⟨s, hs, rfl⟩ := e
        refine ⟨.pointer (some ⟨p.b, p.s + o + i.toNat * s, none⟩), ?_, by rw [Nat.add_assoc]; exact .ptr hp⟩
        simp [Instr.indexAt, asIntOf, Instr.sureAddr, run_underlying hd, run_szOf hs, hb, add_none]
      · cases e
  · cases e
theorem aIndex_run {t : TypeId} {x x' ix ix' u : Value} (e : aIndex P t x ix = some u) (k : VR ρ x x') (ki : VR ρ ix ix') (w : World) : ∃ u', (Instr.index t x' ix').run P w = .ok u' w ∧ VR ρ u u' := by
  unfold aIndex at e
  split at e
  · rename_i ki' i s
    rw [(VR.lit_iff rfl).1 ki, (VR.lit_iff rfl).1 k]
    split at e
    · rename_i hd
      split at e
      · rename_i h0
        split at e
        · rename_i b hb
          cases e
          refine ⟨_, ?_, .lit rfl⟩
          simp [Instr.index, asIntOf, run_underlying hd, h0, hb]
        · cases e
      · cases e
    · cases e
  · rename_i ki' i cs
    rw [(VR.lit_iff rfl).1 ki]
    obtain ⟨xs, rfl, kx⟩ := VR.agg_iff.1 k
    split at e
    · rename_i len el hd
      split at e
      · rename_i hb
        simp only [Option.bind_eq_some_iff] at e
        obtain ⟨s, hs, e⟩ := e
        obtain ⟨u', h1, h2⟩ := aPart_run e kx w
        exact ⟨u', by simp [Instr.index, asIntOf, run_underlying hd, hb, run_szOf hs, h1], h2⟩
      · cases e
    · cases e
  · cases e
theorem aLen_run {t : TypeId} {x x' u : Value} (e : aLen P t x = some u) (k : VR ρ x x') (ts : Array TypeId) (ht : ts[0]? = some t) (ty : TypeId) (w : World) : (Builtin.len_ ts ty #[x']).run P w = .ok u w ∧ isLit u = true := by
  unfold aLen at e
  split at e
  · rename_i s hd
    cases e; rw [(VR.lit_iff rfl).1 k]; simp [Builtin.len_, ht, run_underlying hd, goInt, isLit]
  · rename_i el a n c hd
    cases e
    cases k with
    | lit h => simp [Builtin.len_, ht, run_underlying hd, goInt, isLit]
    | slice hp hc hroom => simp [Builtin.len_, ht, run_underlying hd, goInt, isLit]
    | vague => simp [Builtin.len_, ht, run_underlying hd, goInt, isLit]
  · rename_i n el hd
    cases e; simp [Builtin.len_, ht, run_underlying hd, goInt, isLit]
  · cases e
theorem fold2_run {f : Value → Value → Option Value} {g : Value → Value → Sem Value} (hf : ∀ x y z x' y', f x y = some z → VR ρ x x' → VR ρ y y' → ∀ w, (g x' y').run P w = .ok z w ∧ isLit z = true) :
    ∀ (l l' : List Value) (x x' z : Value), fold2 f x l = some z → VR ρ x x' → VRs ρ l l' → ∃ z', (l'.foldlM g x').run P w = .ok z' w ∧ VR ρ z z'
  | [], [], x, x', z, e, k, _ => by simp [fold2] at e; subst e; exact ⟨x', by simp, k⟩
  | y :: r, y' :: r', x, x', z, e, k, kr => by
    simp only [fold2, Option.bind_eq_some_iff] at e
    obtain ⟨u, h1, h2⟩ := e
    obtain ⟨q1, q2⟩ := hf x y u x' y' h1 k kr.1 w
    obtain ⟨z', h3, h4⟩ := fold2_run hf r r' u u z h2 (.lit q2) kr.2
    exact ⟨z', by simp [List.foldlM, q1, h3], h4⟩
theorem aMin2_run (x y z x' y' : Value) (e : aMin2 x y = some z) (kx : VR ρ x x') (ky : VR ρ y y') (w : World) : (Builtin.min2 x' y').run P w = .ok z w ∧ isLit z = true := by
  unfold aMin2 at e
  split at e
  · cases e; rw [(VR.lit_iff rfl).1 kx, (VR.lit_iff rfl).1 ky]; simp [Builtin.min2, isLit]
  · cases e
theorem aMax2_run (x y z x' y' : Value) (e : aMax2 x y = some z) (kx : VR ρ x x') (ky : VR ρ y y') (w : World) : (Builtin.max2 x' y').run P w = .ok z w ∧ isLit z = true := by
  unfold aMax2 at e
  split at e
  · cases e; rw [(VR.lit_iff rfl).1 kx, (VR.lit_iff rfl).1 ky]; simp [Builtin.max2, isLit]
  · cases e

/-! a slice expression -/
theorem bnd_run {v : Option Value} {v' : Option Value} {d y r : Nat} (e : bnd v d y = some r) (k : (v = none ∧ v' = none) ∨ ∃ u u', v = some u ∧ v' = some u' ∧ VR ρ u u') :
    (v' = none ∧ r = d) ∨ ∃ u kk, v' = some u ∧ u = .int kk r ∧ r ≤ y := by
  unfold bnd at e
  rcases k with ⟨rfl, rfl⟩ | ⟨u, u', rfl, rfl, k⟩
  · cases e; exact .inl ⟨rfl, rfl⟩
  · split at e
    · rename_i hh; cases hh
    · rename_i kk i hh
      cases hh
      split at e
      · rename_i hb
        cases e
        refine .inr ⟨u', kk, rfl, ?_, by omega⟩
        rw [(VR.lit_iff rfl).1 k]; congr 1; omega
      · cases e
    · cases e
theorem run_sliceBound (kk : IntKind) (r y : Nat) (code : BoundsCode) (hr : r ≤ y) (w : World) : (Instr.sliceBound (.int kk r) y code).run P w = .ok r w := by
  simp [Instr.sliceBound, asIntOf, hr]
theorem run_sliceBounds (len cap cap' m b a : Nat) {lo' hi' mx' : Option Value} (hc : cap ≤ cap')
    (hm : (mx' = none ∧ m = cap) ∨ ∃ u kk, mx' = some u ∧ u = .int kk m ∧ m ≤ cap) (hb : (hi' = none ∧ b = len) ∨ ∃ u kk, hi' = some u ∧ u = .int kk b ∧ b ≤ m)
    (ha : (lo' = none ∧ a = 0) ∨ ∃ u kk, lo' = some u ∧ u = .int kk a ∧ a ≤ b) (hs : mx'.isSome → hi'.isSome) (hbm : b ≤ m) (w : World) :
    ∃ m', (Instr.sliceBounds true len cap' lo' hi' mx').run P w = .ok (a, b, m') w ∧ m ≤ m' ∧ (mx' = none ∧ m' = cap' ∨ m' = m) := by
  rcases hm with ⟨rfl, rfl⟩ | ⟨_, km, rfl, rfl, h1⟩
  · refine ⟨cap', ?_, hc, .inl ⟨rfl, rfl⟩⟩
    rcases hb with ⟨rfl, rfl⟩ | ⟨_, kb, rfl, rfl, h2⟩ <;> rcases ha with ⟨rfl, rfl⟩ | ⟨_, ka, rfl, rfl, h3⟩
    · simp [Instr.sliceBounds]
    · simp [Instr.sliceBounds, run_sliceBound, h3]
    · simp [Instr.sliceBounds, run_sliceBound, (Nat.le_trans h2 hc : b ≤ cap')]
    · simp [Instr.sliceBounds, run_sliceBound, h3, (Nat.le_trans h2 hc : b ≤ cap')]
  · refine ⟨m, ?_, Nat.le_refl _, .inr rfl⟩
    have hm' : m ≤ cap' := Nat.le_trans h1 hc
    rcases hb with ⟨rfl, rfl⟩ | ⟨_, kb, rfl, rfl, h2⟩
    · simp at hs
    · rcases ha with ⟨rfl, rfl⟩ | ⟨_, ka, rfl, rfl, h3⟩
      · simp [Instr.sliceBounds, run_sliceBound, hm', h2]
      · simp [Instr.sliceBounds, run_sliceBound, hm', h2, h3]
theorem eOf_eq (R : Rel n0 ρ h w) {b s : Nat} {p : Pl} (hp : ρ[b]? = some p) (e : eOf h b = some s) : p.e = s := by
  unfold eOf at e
  split at e
  · rename_i hb; cases e; exact (R.cells _ _ _ _ _ hp hb).1
  · rename_i hb; cases e; exact (R.old _ _ _ _ _ hp hb).1
  · cases e
theorem aSlice_run (R : Rel n0 ρ h w) {t : TypeId} {x x' u : Value} {lo hi mx lo' hi' mx' : Option Value} (e : aSlice P t x lo hi mx h = some u) (k : VR ρ x x')
    (kl : (lo = none ∧ lo' = none) ∨ ∃ u u', lo = some u ∧ lo' = some u' ∧ VR ρ u u') (kh : (hi = none ∧ hi' = none) ∨ ∃ u u', hi = some u ∧ hi' = some u' ∧ VR ρ u u')
    (km : (mx = none ∧ mx' = none) ∨ ∃ u u', mx = some u ∧ mx' = some u' ∧ VR ρ u u') : ∃ u', (Instr.sliceAt t x' lo' hi' mx').run P w = .ok u' w ∧ VR ρ u u' := by
  unfold aSlice at e
  split at e
  · rename_i s hd
    rw [(VR.lit_iff rfl).1 k]
    split at e
    · cases e
    · rename_i hm
      have hm1 : mx = none := by simpa using hm
      subst hm1
      have hm2 : mx' = none := by rcases km with ⟨_, h⟩ | ⟨_, _, h, _⟩; exact h; cases h
      subst hm2
      simp only [Option.bind_eq_some_iff, Option.some.injEq] at e
      obtain ⟨b, hb, a, ha, rfl⟩ := e
      refine ⟨.string (s.extract a b), ?_, .lit rfl⟩
      have hb' := bnd_run hb kh
      have ha' := bnd_run ha kl
      have hbs : b ≤ s.size := by rcases hb' with ⟨_, rfl⟩ | ⟨_, _, _, _, h⟩; exact Nat.le_refl _; exact h
      rcases hb' with ⟨rfl, rfl⟩ | ⟨_, kb, rfl, rfl, h1⟩ <;> rcases ha' with ⟨rfl, rfl⟩ | ⟨_, ka, rfl, rfl, h2⟩ <;>
        simp [Instr.sliceAt, Instr.slice, Instr.sliceBounds, run_underlying hd, run_sliceBound, *]
  · rename_i el p len cap hd
    simp only [Option.bind_eq_some_iff] at e
    obtain ⟨s, hs, m, hm, b, hb, a, ha, e⟩ := e
    split at e
    · rename_i hbm
      obtain ⟨hbm, hsome⟩ := hbm
      have hsome' : mx'.isSome → hi'.isSome := by
        intro hx
        rcases km with ⟨_, rfl⟩ | ⟨_, _, rfl, _, _⟩
        · cases hx
        · rcases kh with ⟨rfl, _⟩ | ⟨_, _, _, rfl, _⟩
          · simp at hsome
          · rfl
      have hm' := bnd_run hm km
      have hb' := bnd_run hb kh
      have ha' := bnd_run ha kl
      have hab : a ≤ b := by rcases ha' with ⟨_, rfl⟩ | ⟨_, _, _, _, h⟩; exact Nat.zero_le _; exact h
      cases k with
      | lit hl =>
        cases p with
        | some _ => simp [isLit] at hl
        | none =>
          simp only at e
          cases e
          obtain ⟨m', q1, q2, q3⟩ := run_sliceBounds (P := P) len cap cap m b a (Nat.le_refl _) hm' hb' ha' hsome' hbm w
          have hmm : m' = m := by
            rcases q3 with ⟨h1, rfl⟩ | h
            · rcases hm' with ⟨_, rfl⟩ | ⟨_, _, h2, _, _⟩
              · rfl
              · rw [h1] at h2; cases h2
            · exact h
          subst hmm
          exact ⟨.slice none (b - a) (m' - a), by simp [Instr.sliceAt, Instr.slice, run_underlying hd, q1, run_szOf hs], .lit rfl⟩
      | slice hp hc hroom =>
        rename_i b0 o cap' pl
        simp only at e
        obtain ⟨m', q1, q2, q3⟩ := run_sliceBounds (P := P) len cap cap' m b a hc hm' hb' ha' hsome' hbm w
        have hm'c : m' ≤ cap' := by
          rcases q3 with ⟨_, rfl⟩ | rfl
          · exact Nat.le_refl _
          · rcases hm' with ⟨_, rfl⟩ | ⟨_, _, _, _, hx⟩ <;> omega
        have hmul : m' * pl.e ≤ cap' * pl.e := Nat.mul_le_mul_right _ hm'c
        refine ⟨.slice (some (if m' = a then ⟨pl.b, pl.s + o, none⟩ else ⟨pl.b, pl.s + o + a * s, none⟩)) (b - a) (m' - a), ?_, ?_⟩
        · simp only [Instr.sliceAt, Instr.slice, Sem.run_bind, run_underlying hd, Result.andThen_ok, q1, run_szOf hs, Sem.run_pure, Option.map_some, add_none]
          split <;> rfl
        · split at e
          · rename_i h0
            cases e
            subst h0
            simp only [Nat.zero_mul, Nat.add_zero, ite_self, Nat.sub_zero]
            exact .slice hp q2 (by omega)
          · rename_i h0
            split at e
            · rename_i hma
              cases e
              have hba : b = a := by omega
              rw [hba, Nat.sub_self]
              exact .vague
            · rename_i hma
              split at e
              · rename_i he
                cases e
                have hpe := eOf_eq R hp he
                rw [if_neg (by omega), Nat.add_assoc]
                refine .slice hp (by omega) ?_
                rw [hpe] at hmul hroom ⊢
                rw [Nat.sub_mul]
                have : a * s ≤ m' * s := Nat.mul_le_mul_right _ (by omega)
                omega
              · cases e
      | vague =>
        rename_i b0 o cap' a'
        simp only at e
        obtain ⟨m', q1, q2, q3⟩ := run_sliceBounds (P := P) 0 0 cap' m b a (Nat.zero_le _) hm' hb' ha' hsome' hbm w
        have hm0 : m = 0 := by rcases hm' with ⟨_, rfl⟩ | ⟨_, _, _, _, h⟩; rfl; omega
        have hb0 : b = 0 := by omega
        have ha0 : a = 0 := by omega
        subst hm0; subst hb0; subst ha0
        simp only [if_true, Option.some.injEq] at e
        cases e
        refine ⟨.slice (some a') 0 m', ?_, .vague⟩
        simp only [Instr.sliceAt, Instr.slice, Sem.run_bind, run_underlying hd, Result.andThen_ok, q1, run_szOf hs, Sem.run_pure, Option.map_some, Nat.zero_mul]
        simp [Addr.add]
    · cases e
  · cases e
end Go.Ev
