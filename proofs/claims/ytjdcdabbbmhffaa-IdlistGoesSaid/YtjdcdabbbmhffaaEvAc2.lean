/- A part of the proof that what the evaluator of YtjdcdabbbmhffaaEvCore answers, the call answers in the model. No condition. -/
import Derived.Test.YtjdcdabbbmhffaaEvAc
set_option linter.unusedVariables false
set_option linter.unusedSimpArgs false
namespace Go.Ev
open Go.RowKit (Below)

abbrev KP := Ex → Fr → List Nat → H → Prop
abbrev WP := Fr → List Nat → H → KP → Prop
/-- code with the temporaries that live on -/
inductive AC where
  | skip | label (l : Nat) | region (id : Nat) (ops : Array Oper) (d : Bool) | seq (L : List Nat) (a b : AC) | cond (L : List Nat) (c : Operand) (a b : AC) | block (L : List Nat) (id : Nat) (a : AC) | loop (L : List Nat) (a : AC)
  | rangeFunc (L : List Nat) (f : Operand) (ps : Array Tmp) (as body : Code) | exit (id : Nat) | scope (a : AC) | goto (l : Nat) | ret | refuse (s : String) | sub (W : WP)
def AC.erase : AC → Code
  | .skip => .skip | .label l => .label l | .region i o d => .region i o d | .seq _ a b => .seq a.erase b.erase | .cond _ c a b => .cond c a.erase b.erase | .block _ i a => .block i a.erase | .loop _ a => .loop a.erase
  | .rangeFunc _ f p a b => .rangeFunc f p a b | .exit i => .exit i | .scope a => .scope a.erase | .goto l => .goto l | .ret => .ret | .refuse s => .refuse s | .sub _ => .skip
/-- no piece stands in for another -/
def AC.ok : AC → Bool
  | .seq _ a b => a.ok && b.ok | .cond _ _ a b => a.ok && b.ok | .block _ _ a => a.ok | .loop _ a => a.ok | .scope a => a.ok | .sub _ => false | _ => true
def ann : Code → List (List Nat) → AC × List (List Nat)
  | .skip, s => (.skip, s) | .label l, s => (.label l, s) | .region i o d, s => (.region i o d, s)
  | .seq a b, s => match ann a s.tail with | (x, t) => match ann b t with | (y, u) => (.seq (s.headD []) x y, u)
  | .cond c a b, s => match ann a s.tail with | (x, t) => match ann b t with | (y, u) => (.cond (s.headD []) c x y, u)
  | .block i a, s => match ann a s.tail with | (x, t) => (.block (s.headD []) i x, t)
  | .loop a, s => match ann a s.tail with | (x, t) => (.loop (s.headD []) x, t)
  | .rangeFunc f p a b, s => (.rangeFunc (s.headD []) f p a b, s.tail) | .exit i, s => (.exit i, s)
  | .scope a, s => match ann a s with | (x, t) => (.scope x, t)
  | .goto l, s => (.goto l, s) | .ret, s => (.ret, s) | .refuse r, s => (.refuse r, s)
theorem ann_erase : ∀ (c : Code) (s : List (List Nat)), (ann c s).1.erase = c ∧ (ann c s).1.ok = true := by
  intro c
  induction c with
  | seq a b iha ihb => intro s; simp only [ann, AC.erase, AC.ok]; rw [(iha _).1, (iha _).2, (ihb _).1, (ihb _).2]; exact ⟨rfl, rfl⟩
  | cond c a b iha ihb => intro s; simp only [ann, AC.erase, AC.ok]; rw [(iha _).1, (iha _).2, (ihb _).1, (ihb _).2]; exact ⟨rfl, rfl⟩
  | block i a ih => intro s; simp only [ann, AC.erase, AC.ok]; rw [(ih _).1, (ih _).2]; exact ⟨rfl, rfl⟩
  | loop a ih => intro s; simp only [ann, AC.erase, AC.ok]; rw [(ih _).1, (ih _).2]; exact ⟨rfl, rfl⟩
  | scope a ih => intro s; simp only [ann, AC.erase, AC.ok]; rw [(ih _).1, (ih _).2]; exact ⟨rfl, rfl⟩
  | _ => intro s; exact ⟨rfl, rfl⟩
/-- the parts of code -/
def AC.fst : AC → AC | .seq _ a _ => a | .cond _ _ a _ => a | .block _ _ a => a | .loop _ a => a | .scope a => a | c => c
def AC.snd : AC → AC | .seq _ _ b => b | .cond _ _ _ b => b | c => c

def keep (L : List Nat) (fr : Fr) : Fr := L.filterMap fun t => (get fr t).map fun v => (t, v)
theorem get_keep {L : List Nat} {fr : Fr} {t : Nat} {v : Value} (h : get (keep L fr) t = some v) : get fr t = some v := by
  induction L with
  | nil => simp [keep, get] at h
  | cons x r ih =>
    unfold keep at ih h
    rw [List.filterMap_cons] at h
    cases hx : get fr x with
    | none => simp only [hx, Option.map_none] at h; exact ih h
    | some u =>
      simp only [hx, Option.map_some, get] at h
      split at h
      · rename_i e; subst e; cases h; exact hx
      · exact ih h
def KSeq (L : List Nat) (B : WP) (K : KP) : KP := fun e fr ds h => match e with | .normal => B (keep L fr) ds h K | .exit i => K (.exit i) fr ds h | .ret => K .ret fr ds h
def KBlk (L : List Nat) (id : Nat) (K : KP) : KP := fun e fr ds h => match e with | .exit j => if j = id then K .normal (keep L fr) ds h else K (.exit j) fr ds h | .normal => K .normal (keep L fr) ds h | .ret => K .ret fr ds h
def loopW : Nat → WP → WP
  | 0, _, _, _, _, _ => False
  | n + 1, Φ, fr, ds, h, K => Φ fr ds h fun e fr ds h => match e with | .normal => loopW n Φ fr ds h K | .exit i => K (.exit i) fr ds h | .ret => K .ret fr ds h
def Lp (L : List Nat) (Φ : WP) (fr : Fr) (ds : List Nat) (h : H) (K : KP) : Prop := ∃ n, loopW n (fun fr ds h K => Φ (keep L fr) ds h K) fr ds h K
def jumpW (pend : Option Code) (fr : Fr) (ds : List Nat) (h : H) (K : KP) : Prop :=
  match pend with
  | none => K .normal fr ds h
  | some .ret => K .ret fr ds h
  | some (.exit id) => K (.exit id) fr ds h
  | _ => False
variable (P : Program) (n0 : Nat)
def wRange (ro : Option Nat) (nt : Nat) (v : Value) (ps : Array Tmp) (as body : Code) (fr : Fr) (ds : List Nat) (h : H) (K : KP) : Prop :=
  match v with
  | .func (.func f) first cap => isGo P f = true ∧ Bnd (dfrOf h ro ds) fun r =>
      Cn P n0 (.func f) (first.toList ++ [.func (.yield r.2.2.length) #[] #[]] ++ cap.toList) (r.2.2 ++ [.loop fr nt ps as body .ready none r.1]) fun _ h' =>
        Bnd (loopOf h' r.2.2.length) fun l => l.2.2.2.2.2.1 ≠ .busy ∧ jumpW l.2.2.2.2.2.2.1 fr r.2.1 (h'.set r.2.2.length .dead) K
  | _ => False
def wA (nt : Nat) (ro : Option Nat) : AC → WP
  | .skip, fr, ds, h, K => K .normal fr ds h
  | .label _, fr, ds, h, K => K .normal fr ds h
  | .region _ ops d, fr, ds, h, K => if d = true then wDraw P n0 nt ops fr h (fun fr h => K .normal fr ds h) else wOps P n0 nt ops ops.toList [] fr h (fun fr h => K .normal fr ds h)
  | .seq L a b, fr, ds, h, K => wA nt ro a fr ds h (KSeq L (wA nt ro b) K)
  | .cond L c a b, fr, ds, h, K => Bnd (ev1 fr c) fun v => Cnd v (wA nt ro a (keep L fr) ds h K) (wA nt ro b (keep L fr) ds h K)
  | .block L id a, fr, ds, h, K => wA nt ro a fr ds h (KBlk L id K)
  | .loop L a, fr, ds, h, K => Lp L (wA nt ro a) fr ds h K
  | .rangeFunc L g ps as body, fr, ds, h, K => Bnd (ev1 (keep L fr) g) fun v => wRange P n0 ro nt v ps as body (keep L fr) ds h K
  | .exit id, fr, ds, h, K => K (.exit id) fr ds h
  | .scope a, fr, ds, h, K => wA nt ro a fr ds h K
  | .ret, fr, ds, h, K => K .ret fr ds h
  | .goto _, _, _, _, _ => False
  | .refuse _, _, _, _, _ => False
  | .sub W, fr, ds, h, K => W fr ds h K
variable {P n0}
def MonoW (W : WP) : Prop := ∀ fr ds h K K', (∀ e fr ds h, K e fr ds h → K' e fr ds h) → W fr ds h K → W fr ds h K'
theorem KSeq.mono {L : List Nat} {B : WP} {K K' : KP} (hB : MonoW B) (k : ∀ e fr ds h, K e fr ds h → K' e fr ds h) : ∀ e fr ds h, KSeq L B K e fr ds h → KSeq L B K' e fr ds h := by
  intro e fr ds h w
  cases e with
  | normal => exact hB _ _ _ _ _ k w
  | exit i => exact k _ _ _ _ w
  | ret => exact k _ _ _ _ w
theorem KBlk.mono {L : List Nat} {id : Nat} {K K' : KP} (k : ∀ e fr ds h, K e fr ds h → K' e fr ds h) : ∀ e fr ds h, KBlk L id K e fr ds h → KBlk L id K' e fr ds h := by
  intro e fr ds h w
  cases e with
  | normal => exact k _ _ _ _ w
  | exit i => simp only [KBlk] at w ⊢; split <;> rename_i hx <;> simp only [hx, if_true, if_false] at w <;> exact k _ _ _ _ w
  | ret => exact k _ _ _ _ w
theorem loopW_mono {Φ : WP} (hm : MonoW Φ) : ∀ n, MonoW (loopW n Φ)
  | 0 => fun _ _ _ _ _ _ w => w.elim
  | n + 1 => fun fr ds h K K' k w => by
    simp only [loopW] at w ⊢
    refine hm _ _ _ _ _ ?_ w
    intro e fr ds h w
    cases e with
    | normal => exact loopW_mono hm n _ _ _ _ _ k w
    | exit i => exact k _ _ _ _ w
    | ret => exact k _ _ _ _ w
theorem jumpW_mono {pend : Option Code} {fr : Fr} {ds : List Nat} {h : H} {K K' : KP} (k : ∀ e fr ds h, K e fr ds h → K' e fr ds h) (w : jumpW pend fr ds h K) : jumpW pend fr ds h K' := by
  unfold jumpW at w ⊢
  split at w <;> first | exact k _ _ _ _ w | exact w
theorem wRange_mono {ro : Option Nat} {nt : Nat} {v : Value} {ps : Array Tmp} {as body : Code} : MonoW (fun fr ds h K => wRange P n0 ro nt v ps as body fr ds h K) := by
  intro fr ds h K K' k w
  unfold wRange at w ⊢
  split at w
  · exact ⟨w.1, w.2.mono fun r w => w.mono fun _ _ w => w.mono fun l w => ⟨w.1, jumpW_mono k w.2⟩⟩
  · exact w
theorem wA_mono {nt : Nat} {ro : Option Nat} : ∀ (a : AC), a.ok = true → MonoW (wA P n0 nt ro a) := by
  intro a
  induction a with
  | skip => intro _ fr ds h K K' k w; exact k _ _ _ _ w
  | label l => intro _ fr ds h K K' k w; exact k _ _ _ _ w
  | region i ops d =>
    intro _ fr ds h K K' k w
    simp only [wA] at w ⊢
    split <;> rename_i hx <;> simp only [hx, if_true, if_false, Bool.false_eq_true] at w
    · exact w.mono fun _ _ => k _ _ _ _
    · exact wOps.mono (fun _ _ => k _ _ _ _) w
  | seq L a b iha ihb =>
    intro hok fr ds h K K' k w
    simp only [AC.ok, Bool.and_eq_true] at hok
    exact iha hok.1 _ _ _ _ _ (KSeq.mono (ihb hok.2) k) w
  | cond L c a b iha ihb =>
    intro hok fr ds h K K' k w
    simp only [AC.ok, Bool.and_eq_true] at hok
    exact Bnd.mono w fun _ w => w.mono (iha hok.1 _ _ _ _ _ k) (ihb hok.2 _ _ _ _ _ k)
  | block L id a ih => intro hok fr ds h K K' k w; exact ih hok _ _ _ _ _ (KBlk.mono k) w
  | loop L a ih =>
    intro hok fr ds h K K' k w
    obtain ⟨n, w⟩ := w
    exact ⟨n, loopW_mono (Φ := fun fr ds h K => wA P n0 nt ro a (keep L fr) ds h K) (fun fr ds h K K' k w => ih hok (keep L fr) ds h K K' k w) n _ _ _ _ _ k w⟩
  | rangeFunc L g ps as b => intro _ fr ds h K K' k w; exact Bnd.mono w fun v w => wRange_mono _ _ _ _ _ k w
  | exit i => intro _ fr ds h K K' k w; exact k _ _ _ _ w
  | scope a ih => intro hok fr ds h K K' k w; exact ih hok _ _ _ _ _ k w
  | goto l => intro _ fr ds h K K' k w; exact w
  | ret => intro _ fr ds h K K' k w; exact k _ _ _ _ w
  | refuse s => intro _ fr ds h K K' k w; exact w
  | sub W => intro hok; cases hok

/-! sound -/
abbrev Fin4 := Ex × Fr × List Nat × H
def Snd (P : Program) (n0 nt : Nat) (ro : Option Nat) (c : Code) (fr : Fr) (ds : List Nat) (h : H) (x : Fin4) : Prop :=
  ∀ (rr : Option Nat) (ρ : Rho) (a : Act) (w : World), Rel n0 ρ h w → FR ρ nt a.defers fr a → MarksR ρ ds a.defers → RoR ρ ro rr → c.wpIn (Wf rr) 0 P (fun ex a' w' => ExR x.1 ex ∧ St2 P n0 nt w ρ x.2.1 x.2.2.1 x.2.2.2 a' w') a w
theorem FR.keep {ρ : Rho} {nt : Nat} {D : List Deferred} {fr : Fr} {a : Act} (F : FR ρ nt D fr a) (L : List Nat) : FR ρ nt D (keep L fr) a :=
  ⟨F.size, fun t v hv => F.get t v (get_keep hv), F.defers⟩
theorem St2.keep {nt : Nat} {w0 w : World} {ρ : Rho} {fr : Fr} {ds : List Nat} {h : H} {a : Act} (s : St2 P n0 nt w0 ρ fr ds h a w) (L : List Nat) : St2 P n0 nt w0 ρ (Ev.keep L fr) ds h a w :=
  let ⟨ρ1, a1, a2, a3, a4, a5⟩ := s; ⟨ρ1, a1, a2, a3.keep L, a4, a5⟩
theorem opsR_sound {rr : Option Nat} {D : List Deferred} {nt : Nat} {ops : Array Oper} {Q : Exit → Act → World → Prop} : ∀ (l : List Oper) (ρ : Rho) (fr : Fr) (h : H) (a : Act) (w : World) (fr' : Fr) (h' : H),
    Rel n0 ρ h w → FR ρ nt D fr a → OpsR P n0 nt ops l fr h fr' h' → (∀ a' w', St P n0 nt D w ρ fr' h' a' w' → Q .normal a' w') → wpListIn (Wf rr) 0 P ops Q l a w
  | [], ρ, fr, h, a, w, fr', h', R, F, e, k => by
    obtain ⟨rfl, rfl⟩ := e
    exact wpListIn_nil (k a w ⟨ρ, Le.refl _, R, F, Below.refl _ _⟩)
  | o :: r, ρ, fr, h, a, w, fr', h', R, F, e, k => by
    obtain ⟨want, v, h1, fr1, hw, hy, hn, hp, e⟩ := e
    simp only [wpListIn]
    rw [wantedB_sound F hw]
    cases want with
    | true =>
      simp only [if_true]
      obtain ⟨call, hcall, he⟩ := hy rfl
      refine evOp_sound hcall R F o he fun v' w' hA => ?_
      obtain ⟨ρ', a1, a2, a3, a4⟩ := hA
      refine opsR_sound r ρ' fr1 h1 _ w' fr' h' a3 ((F.mono a1).put hp a2) e fun a' w'' hs => k a' w'' ?_
      obtain ⟨ρ2, b1, b2, b3, b4⟩ := hs
      exact ⟨ρ2, a1.trans b1, b2, b3, a4.trans b4⟩
    | false =>
      obtain ⟨rfl, rfl⟩ := hn rfl
      simp only [Bool.false_eq_true, if_false]
      exact ⟨fun _ _ => trivial, opsR_sound r ρ fr1 _ _ w fr' h' R (F.put hp .undef) e k⟩
theorem Snd.keep {nt : Nat} {ro : Option Nat} {c : Code} {fr : Fr} {ds : List Nat} {h : H} {x : Fin4} {L : List Nat} (s : Snd P n0 nt ro c (Ev.keep L fr) ds h x) : Snd P n0 nt ro c fr ds h x :=
  fun rr ρ a w R F M O => s rr ρ a w R (F.keep L) M O
theorem Snd.keepOut {nt : Nat} {ro : Option Nat} {c : Code} {fr : Fr} {ds : List Nat} {h : H} {e : Ex} {fr1 : Fr} {ds1 : List Nat} {h1 : H} (L : List Nat) (s : Snd P n0 nt ro c fr ds h (e, fr1, ds1, h1)) : Snd P n0 nt ro c fr ds h (e, Ev.keep L fr1, ds1, h1) :=
  fun rr ρ a w R F M O => wpIn_mono (s rr ρ a w R F M O) fun _ _ _ x => ⟨x.1, x.2.keep L⟩
theorem Snd.seq {nt : Nat} {ro : Option Nat} {c d : Code} {fr fr1 : Fr} {ds ds1 : List Nat} {h h1 : H} {x : Fin4} (s : Snd P n0 nt ro c fr ds h (.normal, fr1, ds1, h1)) (s2 : Snd P n0 nt ro d fr1 ds1 h1 x) : Snd P n0 nt ro (.seq c d) fr ds h x := by
  intro rr ρ a w R F M O
  refine wpIn_seq (wpIn_mono (s rr ρ a w R F M O) ?_)
  rintro ex a1 w1 ⟨he, ρ1, l1, R1, F1, M1, B1⟩
  cases ex <;> simp only [ExR] at he
  simp only [Exit.then]
  refine wpIn_mono (s2 rr ρ1 a1 w1 R1 F1 M1 (O.mono l1)) ?_
  rintro ex2 a2 w2 ⟨q1, q2⟩
  exact ⟨q1, q2.trans l1 B1⟩
theorem Snd.seqOut {nt : Nat} {ro : Option Nat} {c d : Code} {fr : Fr} {ds : List Nat} {h : H} {x : Fin4} (s : Snd P n0 nt ro c fr ds h x) (hx : x.1 ≠ .normal) : Snd P n0 nt ro (.seq c d) fr ds h x := by
  intro rr ρ a w R F M O
  refine wpIn_seq (wpIn_mono (s rr ρ a w R F M O) ?_)
  obtain ⟨e, x⟩ := x
  rintro ex a1 w1 ⟨he, s1⟩
  cases e with
  | normal => exact absurd rfl hx
  | exit i => cases ex <;> simp only [ExR] at he; subst he; exact ⟨rfl, s1⟩
  | ret => cases ex <;> simp only [ExR] at he; exact ⟨trivial, s1⟩
theorem Snd.blk {nt : Nat} {ro : Option Nat} {c : Code} {id : Nat} {fr : Fr} {ds : List Nat} {h : H} {e : Ex} {y : Fr × List Nat × H} (s : Snd P n0 nt ro c fr ds h (e, y)) :
    Snd P n0 nt ro (.block id c) fr ds h (match e with | .exit j => if j = id then .normal else .exit j | e => e, y) := by
  intro rr ρ a w R F M O
  refine wpIn_block (wpIn_mono (s rr ρ a w R F M O) ?_)
  rintro ex a1 w1 ⟨he, s1⟩
  cases e with
  | normal => cases ex <;> simp only [ExR] at he; exact ⟨trivial, s1⟩
  | ret => cases ex <;> simp only [ExR] at he; exact ⟨trivial, s1⟩
  | exit j =>
    cases ex <;> simp only [ExR] at he
    subst he
    simp only [Exit.inBlock]
    by_cases hj : j = id
    · rw [if_pos hj, if_pos hj]; exact ⟨trivial, s1⟩
    · rw [if_neg hj, if_neg hj]; exact ⟨rfl, s1⟩
/-- so many rounds, and then x -/
def LR (P : Program) (n0 nt : Nat) (ro : Option Nat) (c : Code) : Nat → Fr → List Nat → H → Fin4 → Prop
  | 0, _, _, _, _ => False
  | n + 1, fr, ds, h, x => ∃ e fr1 ds1 h1, Snd P n0 nt ro c fr ds h (e, fr1, ds1, h1) ∧ match e with | .normal => LR P n0 nt ro c n fr1 ds1 h1 x | e => x = (e, fr1, ds1, h1)
theorem LR.sound {nt : Nat} {ro : Option Nat} {c : Code} {n : Nat} {fr : Fr} {ds : List Nat} {h : H} {x : Fin4} (s : LR P n0 nt ro c n fr ds h x) : Snd P n0 nt ro (.loop c) fr ds h x := by
  intro rr ρ a w R F M O
  let I : Nat → Act → World → Prop := fun m a1 w1 => ∃ fr1 ds1 h1, LR P n0 nt ro c m fr1 ds1 h1 x ∧ St2 P n0 nt w ρ fr1 ds1 h1 a1 w1
  classical
  let μ : Act → World → Nat := fun a1 w1 => if hx : ∃ m, I m a1 w1 then Classical.choose (least hx) else 0
  refine wpIn_loop (fun a1 w1 => ∃ m, I m a1 w1) μ ⟨n, fr, ds, h, s, ρ, Le.refl _, R, F, M, Below.refl _ _⟩ ?_
  intro a1 w1 hI
  have hmu : μ a1 w1 = Classical.choose (least hI) := dif_pos hI
  obtain ⟨fr1, ds1, h1, hl, ρ1, l1, R1, F1, M1, B1⟩ := (Classical.choose_spec (least hI)).1
  obtain ⟨m, hmm⟩ : ∃ m, Classical.choose (least hI) = m := ⟨_, rfl⟩
  rw [hmm] at hl hmu
  cases m with
  | zero => exact hl.elim
  | succ m =>
    obtain ⟨e, fr2, ds2, h2, hs, hl⟩ := hl
    refine wpIn_mono (hs rr ρ1 a1 w1 R1 F1 M1 (O.mono l1)) ?_
    rintro ex a2 w2 ⟨he, st⟩
    have s' : St2 P n0 nt w ρ fr2 ds2 h2 a2 w2 := st.trans l1 B1
    cases e with
    | normal =>
      cases ex <;> simp only [ExR] at he
      have hI2 : I m a2 w2 := ⟨fr2, ds2, h2, hl, s'⟩
      refine ⟨⟨m, hI2⟩, ?_⟩
      have : μ a2 w2 ≤ m := by
        have hx : ∃ m, I m a2 w2 := ⟨m, hI2⟩
        rw [show μ a2 w2 = Classical.choose (least hx) from dif_pos hx]
        exact (Classical.choose_spec (least hx)).2 m hI2
      rw [hmu]; omega
    | exit j =>
      cases ex <;> simp only [ExR] at he
      subst he
      simp only at hl; subst hl
      exact ⟨rfl, s'⟩
    | ret =>
      cases ex <;> simp only [ExR] at he
      simp only at hl; subst hl
      exact ⟨trivial, s'⟩
theorem jumpW_run {pend : Option Code} {fr : Fr} {ds : List Nat} {h : H} {K : KP} (w : jumpW pend fr ds h K) : ∃ e fr' ds' h', K e fr' ds' h' ∧ ∀ (K0 : KT), jumpK pend fr ds h K0 = K0 e fr' ds' h' := by
  unfold jumpW at w
  split at w
  · exact ⟨_, _, _, _, w, fun K0 => rfl⟩
  · exact ⟨_, _, _, _, w, fun K0 => rfl⟩
  · exact ⟨_, _, _, _, w, fun K0 => rfl⟩
  · exact w.elim
theorem wRange_run {nt : Nat} {ro : Option Nat} {g : Operand} {v : Value} {ps : Array Tmp} {as body : Code} {fr : Fr} {ds : List Nat} {h : H} {K : KP} (hg : ev1 fr g = some v) (w : wRange P n0 ro nt v ps as body fr ds h K) :
    ∃ e fr' ds' h', K e fr' ds' h' ∧ Snd P n0 nt ro (.rangeFunc g ps as body) fr ds h (e, fr', ds', h') := by
  unfold wRange at w
  split at w
  · rename_i f first cap
    obtain ⟨hgo, w⟩ := w
    obtain ⟨⟨d, ds1, h1⟩, hd, w⟩ := Bnd_iff.1 w
    obtain ⟨v1, h', ⟨call, hc, he⟩, w⟩ := w
    obtain ⟨⟨fr2, nt2, ps2, as2, bd2, st, pend, d2⟩, hl, hb, w⟩ := Bnd_iff.1 w
    simp only at hl hb w he
    obtain ⟨e, fr', ds', h2, k, hj⟩ := jumpW_run w
    refine ⟨e, fr', ds', h2, k, ?_⟩
    intro rr ρ a w R F M O
    classical
    let K0 : KT := fun e1 f1 d1 h3 => if (e1, f1, d1, h3) = (e, fr', ds', h2) then some (undef, []) else none
    have hev : evK P call ro nt 0 (.rangeFunc g ps as body) fr ds h K0 = some (undef, []) := by
      simp only [evK, hg, hgo, Bool.not_true, Bool.false_eq_true, if_false, hd, Option.bind_some, he, hl, if_neg hb, hj]
      exact if_pos rfl
    refine wpIn_mono (range_sound hc R F M O hev) ?_
    rintro ex a1 w1 ⟨e1, f1, d1, h3, q1, q2, q3⟩
    by_cases hx : (e1, f1, d1, h3) = (e, fr', ds', h2)
    · cases hx; exact ⟨q1, q3⟩
    · simp only [K0] at q2; rw [if_neg hx] at q2; cases q2
  · exact w.elim
theorem wA_run (hm : P.follows .mixedOrders = true) {nt : Nat} {ro : Option Nat} : ∀ (a : AC), a.ok = true → ∀ (fr : Fr) (ds : List Nat) (h : H) (K : KP), wA P n0 nt ro a fr ds h K →
    ∃ e fr' ds' h', K e fr' ds' h' ∧ Snd P n0 nt ro a.erase fr ds h (e, fr', ds', h') := by
  intro a
  induction a with
  | skip => intro _ fr ds h K w; exact ⟨_, _, _, _, w, fun rr ρ a w R F M O => wpIn_skip ⟨trivial, ρ, Le.refl _, R, F, M, Below.refl _ _⟩⟩
  | label l => intro _ fr ds h K w; exact ⟨_, _, _, _, w, fun rr ρ a w R F M O => wpIn_label ⟨trivial, ρ, Le.refl _, R, F, M, Below.refl _ _⟩⟩
  | exit l => intro _ fr ds h K w; exact ⟨_, _, _, _, w, fun rr ρ a w R F M O => wpIn_exit ⟨rfl, ρ, Le.refl _, R, F, M, Below.refl _ _⟩⟩
  | ret => intro _ fr ds h K w; exact ⟨_, _, _, _, w, fun rr ρ a w R F M O => wpIn_ret ⟨trivial, ρ, Le.refl _, R, F, M, Below.refl _ _⟩⟩
  | region i ops d =>
    intro _ fr ds h K w
    simp only [wA] at w
    cases d with
    | true =>
      rw [if_pos rfl] at w
      obtain ⟨fr', h', k, ts, hs, f1, f2, f3, f4⟩ := wDraw_run w
      exact ⟨_, _, _, _, k, fun rr ρ a w R F M O => draw_run hm R F f1 f2 f3 f4 fun a' w' s => ⟨trivial, s.two M⟩⟩
    | false =>
      rw [if_neg (by simp)] at w
      obtain ⟨fr', h', k, r⟩ := wOps_run (by intro d hd; simp at hd) w
      exact ⟨_, _, _, _, k, fun rr ρ a w R F M O => wpIn_region_list (opsR_sound _ ρ fr h a w fr' h' R F r fun a' w' s => ⟨trivial, s.two M⟩)⟩
  | seq L a b iha ihb =>
    intro hok fr ds h K w
    simp only [AC.ok, Bool.and_eq_true] at hok
    obtain ⟨e, fr1, ds1, h1, w, s⟩ := iha hok.1 _ _ _ _ w
    cases e with
    | normal =>
      obtain ⟨e2, fr2, ds2, h2, k, s2⟩ := ihb hok.2 _ _ _ _ w
      exact ⟨_, _, _, _, k, (s.keepOut L).seq s2⟩
    | exit i => exact ⟨_, _, _, _, w, s.seqOut (by intro h; cases h)⟩
    | ret => exact ⟨_, _, _, _, w, s.seqOut (by intro h; cases h)⟩
  | cond L c a b iha ihb =>
    intro hok fr ds h K w
    simp only [AC.ok, Bool.and_eq_true] at hok
    obtain ⟨v, hv, w⟩ := Bnd_iff.1 w
    rcases Cnd_iff.1 w with ⟨rfl, w⟩ | ⟨rfl, w⟩
    · obtain ⟨e, fr1, ds1, h1, k, s⟩ := iha hok.1 _ _ _ _ w
      exact ⟨_, _, _, _, k, fun rr ρ a w R F M O => wpIn_cond_true ((VR.lit_iff rfl).1 (ev1_sound F hv)) (s rr ρ a w R (F.keep L) M O)⟩
    · obtain ⟨e, fr1, ds1, h1, k, s⟩ := ihb hok.2 _ _ _ _ w
      exact ⟨_, _, _, _, k, fun rr ρ a w R F M O => wpIn_cond_false ((VR.lit_iff rfl).1 (ev1_sound F hv)) (s rr ρ a w R (F.keep L) M O)⟩
  | block L id a ih =>
    intro hok fr ds h K w
    obtain ⟨e, fr1, ds1, h1, w, s⟩ := ih hok _ _ _ _ w
    cases e with
    | normal => exact ⟨_, _, _, _, w, (s.keepOut L).blk⟩
    | ret => exact ⟨_, _, _, _, w, s.blk⟩
    | exit j =>
      simp only [KBlk] at w
      split at w <;> rename_i hj
      · exact ⟨_, _, _, _, w, by have := (s.keepOut L).blk (id := id); simp only [hj, if_true] at this; exact this⟩
      · exact ⟨_, _, _, _, w, by have := s.blk (id := id); simp only [hj, if_false] at this; exact this⟩
  | loop L a ih =>
    intro hok fr ds h K w
    obtain ⟨n, w⟩ := w
    have : ∀ n fr ds h, loopW n (fun fr ds h K => wA P n0 nt ro a (keep L fr) ds h K) fr ds h K → ∃ e fr' ds' h', K e fr' ds' h' ∧ LR P n0 nt ro a.erase n fr ds h (e, fr', ds', h') := by
      intro n
      induction n with
      | zero => intro fr ds h w; exact w.elim
      | succ n ihn =>
        intro fr ds h w
        obtain ⟨e, fr1, ds1, h1, w, s⟩ := ih hok _ _ _ _ w
        cases e with
        | normal =>
          obtain ⟨e2, fr2, ds2, h2, k, l⟩ := ihn _ _ _ w
          exact ⟨_, _, _, _, k, .normal, fr1, ds1, h1, s.keep, l⟩
        | exit i => exact ⟨_, _, _, _, w, .exit i, fr1, ds1, h1, s.keep, rfl⟩
        | ret => exact ⟨_, _, _, _, w, .ret, fr1, ds1, h1, s.keep, rfl⟩
    obtain ⟨e, fr', ds', h', k, l⟩ := this n fr ds h w
    exact ⟨_, _, _, _, k, l.sound⟩
  | rangeFunc L g ps as b =>
    intro _ fr ds h K w
    obtain ⟨v, hv, w⟩ := Bnd_iff.1 w
    obtain ⟨e, fr', ds', h', k, s⟩ := wRange_run hv w
    exact ⟨e, fr', ds', h', k, s.keep⟩
  | scope a ih =>
    intro hok fr ds h K w
    obtain ⟨e, fr1, ds1, h1, k, s⟩ := ih hok _ _ _ _ w
    refine ⟨e, fr1, ds1, h1, k, fun rr ρ a w R F M O => wpIn_scope (wpIn_mono (s rr ρ a w R F M O) ?_)⟩
    rintro ex a1 w1 ⟨he, s1⟩
    cases ex <;> first | exact ⟨he, s1⟩ | (cases e <;> exact he.elim)
  | goto l => intro _ fr ds h K w; exact w.elim
  | refuse s => intro _ fr ds h K w; exact w.elim
  | sub W => intro hok; cases hok

/-! rules -/
def KLp (L : List Nat) (I : Fr → H → Prop) (ds : List Nat) (K : KP) : KP := fun e fr' ds' h' => match e with | .normal => ds' = ds ∧ I (keep L fr') h' | .exit i => K (.exit i) fr' ds' h' | .ret => K .ret fr' ds' h'
theorem Lp_ind {L : List Nat} {Φ : WP} {fr : Fr} {ds : List Nat} {h : H} {K : KP} (I : Nat → Fr → H → Prop) (hm : MonoW Φ) (m : Nat) (h0 : I m (keep L fr) h)
    (st : ∀ m fr h, I m fr h → Φ fr ds h (KLp L (fun fr h => ∃ m', m' < m ∧ I m' fr h) ds K)) : Lp L Φ fr ds h K := by
  have : ∀ n m, m < n → ∀ fr h, I m (keep L fr) h → loopW n (fun fr ds h K => Φ (keep L fr) ds h K) fr ds h K := by
    intro n
    induction n with
    | zero => intro m hm; omega
    | succ n ih =>
      intro m hlt fr h hI
      simp only [loopW]
      refine hm _ _ _ _ _ ?_ (st m _ _ hI)
      intro e fr' ds' h' w
      cases e with
      | normal =>
        obtain ⟨rfl, m', h1, h2⟩ := w
        exact ih m' (by omega) _ _ h2
      | exit i => exact w
      | ret => exact w
  exact ⟨m + 1, this (m + 1) m (by omega) fr h h0⟩
def tup : List Value → Value
  | [v] => v
  | l => .tuple l.toArray
def KFin (P : Program) (rs : List ResultVar) (Q : Value → H → Prop) : KP := fun e fr ds h => match e with
  | .exit _ => False
  | _ => Bnd (takeD ds h) fun h => Bnd (resL P fr h rs) fun l => Q (tup l) h
theorem Cn_fn (hm : P.follows .mixedOrders = true) {f : FuncId} {fn : Func} {a : AC} {args : List Value} {h : H} {Q : Value → H → Prop} (hf : P.funcs[f]? = some fn) (hb : fn.body = some a.erase) (hok : a.ok = true) (hn : (fn.name == "runtime.NumGoroutine") = false)
    (hnt : args.length ≤ fn.ntmps) (w : wA P n0 fn.ntmps none a (argFr 0 args) [] h (KFin P fn.results.toList Q)) : Cn P n0 (.func f) args h Q := by
  obtain ⟨e, fr1, ds1, h1, k, s⟩ := wA_run hm a hok _ _ _ _ w
  have hk : ∃ h2 l, takeD ds1 h1 = some h2 ∧ resL P fr1 h2 fn.results.toList = some l ∧ Q (tup l) h2 ∧ ∀ i, e ≠ .exit i := by
    cases e with
    | exit i => exact k.elim
    | normal => obtain ⟨h2, e1, k⟩ := Bnd_iff.1 k; obtain ⟨l, e2, k⟩ := Bnd_iff.1 k; exact ⟨h2, l, e1, e2, k, fun i hi => by cases hi⟩
    | ret => obtain ⟨h2, e1, k⟩ := Bnd_iff.1 k; obtain ⟨l, e2, k⟩ := Bnd_iff.1 k; exact ⟨h2, l, e1, e2, k, fun i hi => by cases hi⟩
  obtain ⟨h2, l, ht, hl, q, hne⟩ := hk
  refine ⟨tup l, h2, ⟨_, one_ok (f := .func f) (.inl ⟨⟨fn, hf, by simp [hb], hn⟩, ?_⟩), one_some⟩, q⟩
  intro ρ w args' R ka
  have hlen := ka.length
  refine callsIn_Wf.1 (callsIn_of_wp_marks (F := Wf none) (n := 0) hf hb trivial ?_)
  have F : FR ρ fn.ntmps [] (argFr 0 args) { tmps := args'.toArray ++ Array.replicate (fn.ntmps - args'.toArray.size) undef, defers := [] } := by
    refine ⟨by simp; omega, fun t u hu => ?_, rfl⟩
    rw [get_argFr, if_pos (Nat.zero_le _), Nat.sub_zero] at hu
    obtain ⟨u', h1, h2⟩ := ka.get t u hu
    exact ⟨u', by simp only; rw [Array.getElem?_append_left (by have := lt_of_some h1; simpa using this)]; simpa using h1, h2⟩
  refine wpIn_mono (s none ρ _ w R F trivial trivial) ?_
  rintro ex a1 w1 ⟨he, ρ1, l1, R1, F1, M1, B1⟩
  have fin : LeavesInM (Wf none) 0 P fn a1.tmps (Res n0 ρ w (tup l) h2) a1.defers .returning w1 := by
    refine takeD_sound ds1 _ ρ1 h1 h2 w1 M1 ht R1 fun w2 R2 B2 => ?_
    obtain ⟨l', q1, q2⟩ := resL_run R2 F1 hl
    have hres : (results fn a1.tmps).run P w2 = .ok (if hh : l'.toArray.size = 1 then l'.toArray[0] else .tuple l'.toArray) w2 := by
      rw [results_eq, Array.mapM_eq_mapM_toList]
      simp only [Sem.run_bind, Sem.run_map, q1, Result.andThen_ok, Sem.run_pure]
    refine ⟨_, hres, ?_⟩
    unfold tup
    split
    · rename_i v0
      cases l' with
      | nil => exact q2.elim
      | cons v0' r => cases r with
        | cons _ _ => exact q2.2.elim
        | nil => exact ⟨ρ1, v0', rfl, l1, q2.1, R2, B1.trans B2⟩
    · rename_i hne
      have hsz : ¬ l'.toArray.size = 1 := by
        intro hs
        have h1 : l.length = 1 := by rw [q2.length]; simpa using hs
        obtain ⟨x, rfl⟩ := List.length_eq_one_iff.1 h1
        exact hne x rfl
      rw [dif_neg hsz]
      exact ⟨ρ1, _, rfl, l1, VR.tuple_iff.2 ⟨_, rfl, by simpa using q2⟩, R2, B1.trans B2⟩
  cases e with
  | normal => cases ex <;> simp only [ExR] at he; exact fin
  | ret => cases ex <;> simp only [ExR] at he; exact fin
  | exit i => exact absurd rfl (hne i)
/-- the continuation of a round: its parameters are laid -/
def KAs (P : Program) (n0 nt : Nat) (l : Nat) (L : List Nat) (bd : AC) (Q : Value → H → Prop) : KP := fun e fr ds h => match e with
  | .normal => Bnd (begK l h) fun h => wA P n0 nt (some l) bd (keep L fr) ds h fun e _ _ h => match e with
    | .normal => Bnd (endK l h none) fun r => Q r.1 r.2
    | .ret => Bnd (endK l h (some .ret)) fun r => Q r.1 r.2
    | .exit id => Bnd (endK l h (some (.exit id))) fun r => Q r.1 r.2
  | _ => False
theorem Cn_yield (hm : P.follows .mixedOrders = true) {l : Nat} {args : List Value} {h : H} {Q : Value → H → Prop} {fr : Fr} {nt : Nat} {ps : Array Tmp} {as bd : AC} {st : LoopState} {pe : Option Code} {d : Nat}
    (hl : loopOf h l = some (fr, nt, ps, as.erase, bd.erase, st, pe, d)) (oka : as.ok = true) (okb : bd.ok = true) {fr1 : Fr} (hput : putL nt ps.toList args fr = some fr1)
    {L : List Nat} (w : wA P n0 nt (some l) as fr1 [] h (KAs P n0 nt l L bd Q)) : Cn P n0 (.yield l) args h Q := by
  obtain ⟨e, fr2, ds2, h2, k, s⟩ := wA_run hm as oka _ _ _ _ w
  cases e with
  | ret => exact k.elim
  | exit i => exact k.elim
  | normal =>
    obtain ⟨h3, hb, k⟩ := Bnd_iff.1 k
    obtain ⟨e3, fr3, ds3, h5, k, s3⟩ := wA_run hm bd okb _ _ _ _ k
    obtain ⟨jump, v, h', hk, hjump, q⟩ : ∃ jump v h', endK l h5 jump = some (v, h') ∧ jump = (match e3 with | .normal => none | .ret => some .ret | .exit i => some (.exit i)) ∧ Q v h' := by
      cases e3 with
      | normal => obtain ⟨r, e1, k⟩ := Bnd_iff.1 k; exact ⟨_, _, _, e1, rfl, k⟩
      | ret => obtain ⟨r, e1, k⟩ := Bnd_iff.1 k; exact ⟨_, _, _, e1, rfl, k⟩
      | exit i => obtain ⟨r, e1, k⟩ := Bnd_iff.1 k; exact ⟨_, _, _, e1, rfl, k⟩
    refine ⟨v, h', ⟨_, one_ok (f := .yield l) ?_, one_some⟩, q⟩
    intro ρ w args' p R ka hp
    obtain ⟨r, hr, hor⟩ := loop_obj R hp hl
    cases hor with
    | loop a1 a2 a3 a4 a5 a6 a7 a8 a9 =>
      have F0 : FR ρ nt [] fr ⟨r.tmps, []⟩ := ⟨a6, a7, rfl⟩
      obtain ⟨F1, hlen⟩ := putL_sound _ _ _ ρ _ _ _ hput ka F0
      refine ⟨r.fn, _, r.assign, r.body, run_yield hr (by rw [a3]; simp only [List.size_toArray]; rw [← ka.length, hlen]; simp), fun rr => ?_⟩
      rw [a3, a4, a5]
      rw [show (ps.zip args'.toArray).foldl (fun tmps (x : Tmp × Value) => tmps.setIfInBounds x.1 x.2) r.tmps = (ps.toList.zip args').foldl (fun tmps (x : Tmp × Value) => tmps.setIfInBounds x.1 x.2) r.tmps from by
        rw [← Array.foldl_toList, Array.toList_zip]]
      refine roundIn_of_wpIn trivial ?_
      refine wpIn_mono (s (some p.b) ρ _ w R F1 trivial ⟨p, hp, rfl⟩) ?_
      rintro ex aa w1 ⟨he, ρ1, l1, R1, F2, M2, B1⟩
      cases ex <;> simp only [ExR] at he
      unfold begK at hb
      split at hb
      · rename_i fr4 nt4 ps4 as4 bd4 pe4 d4 hl4
        cases hb
        have hp1 := l1 _ _ hp
        obtain ⟨r4, hr4, hor4⟩ := loop_obj R1 hp1 hl4
        cases hor4 with
        | loop b1 b2 b3 b4 b5 b6 b7 b8 b9 =>
          obtain ⟨R3, B3⟩ := R1.setLoop hp1 (loopOf_some hl4) rfl (ob' := .loop fr4 nt4 ps4 as4 bd4 .busy pe4 d4) (o' := .loop { r4 with state := .busy }) (.inl rfl) rfl
            (fun _ => .loop rfl b2 b3 b4 b5 b6 b7 b8 b9)
          refine ⟨_, run_beginRound hr4 b1, ?_⟩
          refine wpIn_mono (s3 (some p.b) ρ1 _ _ R3 (F2.keep L) M2 ⟨p, hp1, rfl⟩) ?_
          rintro ex3 a3' w3 ⟨he3, ρ3, l3, R5, F3, M3, B5⟩
          have hB := (B1.trans B3).trans B5
          have hL := l1.trans l3
          have hp3 := l3 _ _ hp1
          cases e3 with
          | normal => cases ex3 <;> simp only [ExR] at he3; subst hjump; exact endK_sound hL R5 hB hp3 hk
          | ret => cases ex3 <;> simp only [ExR] at he3; subst hjump; exact endK_sound hL R5 hB hp3 hk
          | exit i => cases ex3 <;> simp only [ExR] at he3; subst he3; subst hjump; exact endK_sound hL R5 hB hp3 hk
      · cases hb
attribute [irreducible] wA ann AC.erase AC.ok
end Go.Ev
