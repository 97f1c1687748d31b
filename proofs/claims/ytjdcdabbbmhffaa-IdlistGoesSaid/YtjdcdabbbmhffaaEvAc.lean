/- A part of the proof that what the evaluator of YtjdcdabbbmhffaaEvCore answers, the call answers in the model. No condition. -/
import Derived.Test.YtjdcdabbbmhffaaEvWhole
set_option linter.unusedVariables false
set_option linter.unusedSimpArgs false
namespace Go.Ev
open Go.RowKit (Below)

/-! what a call comes to, as a relation -/
def CallS (P : Program) (n0 : Nat) (f : Fn) (args : List Value) (h : H) (v : Value) (h' : H) : Prop := ∃ call, CallOk P n0 call ∧ call f args h = some (v, h')
/-- a call that answers something of which Q is true -/
def Cn (P : Program) (n0 : Nat) (f : Fn) (args : List Value) (h : H) (Q : Value → H → Prop) : Prop := ∃ v h', CallS P n0 f args h v h' ∧ Q v h'
open Classical in
noncomputable def one (f : Fn) (args : List Value) (h : H) (r : Value × H) : CallT := fun f' args' h' => if f' = f ∧ args' = args ∧ h' = h then some r else none
def noCall : CallT := fun _ _ _ => none
theorem noCall_ok {P : Program} {n0 : Nat} : CallOk P n0 noCall := fun f args h v h' e => by cases e
theorem one_ok {P : Program} {n0 : Nat} {f : Fn} {args : List Value} {h : H} {v : Value} {h' : H}
    (k : match f with
      | .func f => ((∃ fn, P.funcs[f]? = some fn ∧ fn.body.isSome = true ∧ (fn.name == "runtime.NumGoroutine") = false) ∧
        ∀ (ρ : Rho) (w : World) (args' : List Value), Rel n0 ρ h w → VRs ρ args args' → Calls P f args'.toArray w (Res n0 ρ w v h')) ∨
        ((∃ fn, P.funcs[f]? = some fn ∧ fn.body.isNone = true) ∧
        ∀ (ρ : Rho) (w : World) (args' : List Value), Rel n0 ρ h w → VRs ρ args args' → ∃ v' w', (callFunc f args'.toArray).run P w = .ok (.value v') w' ∧ After n0 ρ w v h' v' w')
      | .yield l => ∀ (ρ : Rho) (w : World) (args' : List Value) (p : Pl), Rel n0 ρ h w → VRs ρ args args' → ρ[l]? = some p →
        ∃ f tmps as bd, (Instr.yield p.b args'.toArray).run P w = .ok (.round p.b f tmps as bd) w ∧ ∀ rr, RoundIn (Wf rr) 0 P p.b f tmps as bd w (Res n0 ρ w v h')
      | _ => False) : CallOk P n0 (one f args h (v, h')) := by
  intro f2 args2 h2 v2 h2' e
  unfold one at e
  split at e
  · rename_i hx
    obtain ⟨rfl, rfl, rfl⟩ := hx
    cases e
    exact k
  · cases e
theorem one_some {f : Fn} {args : List Value} {h : H} {r : Value × H} : one f args h r f args h = some r := by unfold one; rw [if_pos ⟨rfl, rfl, rfl⟩]
theorem Cn.mono {P : Program} {n0 : Nat} {f : Fn} {args : List Value} {h : H} {Q Q' : Value → H → Prop} (c : Cn P n0 f args h Q) (k : ∀ v h', Q v h' → Q' v h') : Cn P n0 f args h Q' :=
  let ⟨v, h', a, b⟩ := c; ⟨v, h', a, k v h' b⟩
theorem Cn.of_ev {P : Program} {n0 : Nat} {f : Fn} {args : List Value} {h : H} {v : Value} {h' : H} {Q : Value → H → Prop} {call : CallT} (hc : CallOk P n0 call) (e : call f args h = some (v, h')) (q : Q v h') : Cn P n0 f args h Q := ⟨v, h', ⟨call, hc, e⟩, q⟩

/-! one behind the other -/
def Bnd {α : Type} (o : Option α) (K : α → Prop) : Prop := match o with | some a => K a | none => False
def Cnd (v : Value) (A B : Prop) : Prop := match v with | .bool true => A | .bool false => B | _ => False
def NilC (v : Value) (A : Prop) : Prop := match v with | .pointer (some _) => A | .func (.func _) _ _ => A | .func (.yield _) _ _ => A | _ => False
def Sm (o : Option Value) (v : Value) (A : Prop) : Prop := o = some v ∧ A
def tupAt (v : Value) (i : Nat) : Option Value := match v with | .tuple vs => vs[i]? | _ => none
def cvt (P : Program) (s d : TypeId) (x : Value) (h : H) : Option (Value × H) := match x with | .pointer (some a) => aConvPtr P s d (.pointer (some a)) h | x => aConvert P s d x h
def CallV (P : Program) (n0 : Nat) (v : Value) (xs : List Value) (h : H) (K : Value → H → Prop) : Prop := match v with | .func f first cap => Cn P n0 f (first.toList ++ xs ++ cap.toList) h K | _ => False
theorem Bnd_iff {α : Type} {o : Option α} {K : α → Prop} : Bnd o K ↔ ∃ a, o = some a ∧ K a := by
  cases o with
  | none => simp [Bnd]
  | some a => simp [Bnd]
theorem Bnd_some {α : Type} {a : α} {K : α → Prop} : Bnd (some a) K = K a := propext Iff.rfl
theorem Bnd.mono {α : Type} {o : Option α} {K K' : α → Prop} (b : Bnd o K) (k : ∀ a, K a → K' a) : Bnd o K' := by
  cases o with
  | none => exact b
  | some a => exact k a b
theorem Bnd_i {α : Type} {o : Option α} {a : α} {K : α → Prop} (e : o = some a) (k : K a) : Bnd o K := by subst e; exact k
theorem Bnd_congr {α : Type} {o o' : Option α} {K : α → Prop} (e : o = o') : Bnd o K = Bnd o' K := by rw [e]
theorem Cnd_iff {v : Value} {A B : Prop} : Cnd v A B ↔ (v = .bool true ∧ A) ∨ (v = .bool false ∧ B) := by
  unfold Cnd; split <;> simp_all
theorem Cnd_bool {b : Bool} {A B : Prop} : Cnd (.bool b) A B = if b = true then A else B := by cases b <;> simp [Cnd]
theorem Cnd_congr {v v' : Value} {A B : Prop} (e : v = v') : Cnd v A B = Cnd v' A B := by rw [e]
theorem Cnd.mono {v : Value} {A B A' B' : Prop} (c : Cnd v A B) (a : A → A') (b : B → B') : Cnd v A' B' := by
  rcases Cnd_iff.1 c with ⟨rfl, x⟩ | ⟨rfl, x⟩
  · exact a x
  · exact b x
theorem NilC_iff {v : Value} {A : Prop} : NilC v A ↔ A ∧ ((∃ a, v = .pointer (some a)) ∨ (∃ f x y, v = .func (.func f) x y) ∨ ∃ f x y, v = .func (.yield f) x y) := by
  unfold NilC; split <;> simp_all
theorem CallV.mono {P : Program} {n0 : Nat} {v : Value} {xs : List Value} {h : H} {K K' : Value → H → Prop} (c : CallV P n0 v xs h K) (k : ∀ v h, K v h → K' v h) : CallV P n0 v xs h K' := by
  unfold CallV at c ⊢
  split at c
  · exact c.mono k
  · exact c

variable (P : Program) (n0 : Nat)
def wOp (o : Op) (fr : Fr) (h : H) (K : Value → H → Prop) : Prop :=
  match o with
  | .move x | .assign x => Bnd (ev1 fr x) fun v => K v h
  | .pick c a b => Bnd (ev1 fr c) fun c => Cnd c (Bnd (ev1 fr a) fun v => K v h) (Bnd (ev1 fr b) fun v => K v h)
  | .alloc t => Bnd (zeroOf P t) fun z => if z.cells.toList.all isLit = true then K (.pointer (some ⟨h.length, 0, none⟩)) (h ++ [.cells true (enc 0 t) z.cells.toList]) else False
  | .box t x => Bnd (ev1 fr x) fun v => K (.pointer (some ⟨h.length, 0, none⟩)) (h ++ [.cells true (enc 0 t) v.cells.toList])
  | .build t ps => Bnd (evP fr ps.toList) fun ps => Bnd (aBuild P t ps) fun v => K v h
  | .buildSlice t n ps => Bnd (evP fr ps.toList) fun ps => Bnd (aBuildSlice P t n ps h) fun r => K r.1 r.2
  | .load t a => Bnd (ev1 fr a) fun a => Bnd (aLoad P t a h) fun v => K v h
  | .store t a v => Bnd (ev1 fr a) fun a => Bnd (ev1 fr v) fun v => Bnd (aStore P t a v h) fun h => K undef h
  | .nilCheck x => Bnd (ev1 fr x) fun v => NilC v (K v h)
  | .binOp op t x y _ => Bnd (ev1 fr x) fun vx => Bnd (ev1 fr y) fun vy => Bnd (aBin P (isC x || isC y) op t vx vy) fun v => K v h
  | .unOp op _ x => Bnd (ev1 fr x) fun x => Bnd (aUn op x) fun v => K v h
  | .convert s d x => Bnd (ev1 fr x) fun x => Bnd (cvt P s d x h) fun r => K r.1 r.2
  | .makeFunc fn first cap => if isYield fn = true then False else Bnd (evL fr first.toList) fun f => Bnd (evL fr cap.toList) fun c => K (.func fn f.toArray c.toArray) h
  | .makeSlice t l c => Bnd (ev1 fr l) fun l => Bnd (ev1 fr c) fun c => Bnd (aMakeSlice P t l c h) fun r => K r.1 r.2
  | .slice t x lo hi mx => Bnd (ev1 fr x) fun x => Bnd (evO fr lo) fun lo => Bnd (evO fr hi) fun hi => Bnd (evO fr mx) fun mx => Bnd (aSlice P t x lo hi mx h) fun v => K v h
  | .fieldAddr t x f => Bnd (ev1 fr x) fun x => Bnd (aFieldAddr P t x f) fun v => K v h
  | .field t x f => Bnd (ev1 fr x) fun x => Bnd (aField P t x f) fun v => K v h
  | .indexAddr t x i => Bnd (ev1 fr x) fun x => Bnd (ev1 fr i) fun i => Bnd (aIndexAddr P t x i) fun v => K v h
  | .index t x i => Bnd (ev1 fr x) fun x => Bnd (ev1 fr i) fun i => Bnd (aIndex P t x i) fun v => K v h
  | .extract x i => Bnd (ev1 fr x) fun x => Bnd (tupAt x i) fun v => K v h
  | .range t x => Bnd (ev1 fr x) fun x => Bnd (aRange P t x h) fun r => K r.1 r.2
  | .makeMap t r => Bnd (evO fr r) fun r => Bnd (aMakeMap P r t h) fun r => K r.1 r.2
  | .lookup t m k ok => Bnd (ev1 fr m) fun m => Bnd (ev1 fr k) fun k => Bnd (aLookup P t m k ok h) fun v => K v h
  | .mapUpdate t m k v => Bnd (ev1 fr m) fun m => Bnd (ev1 fr k) fun k => Bnd (ev1 fr v) fun v => Bnd (aMapUpdate P t m k v h) fun h => K undef h
  | .makeInterface t x => Bnd (ev1 fr x) fun x => match P.underlying t with
    | some (.interface _) => False
    | some _ => K (.iface t x) h
    | none => False
  | .typeAssert x _ t ok => Bnd (ev1 fr x) fun x => Bnd (aAssert P t x ok) fun v => K v h
  | .next it true => Bnd (ev1 fr it) fun it => Bnd (aNext it h) fun r => K r.1 r.2
  | .call c => Bnd (evL fr c.args.toList) fun xs => match c.callee with
    | .builtin b => Bnd (aBuiltin P b c.argTypes xs h) fun r => K r.1 r.2
    | .value f => Bnd (ev1 fr f) fun v => CallV P n0 v xs h K
    | .invoke _ _ => False
  | _ => False
variable {P n0}
theorem wOp.mono {o : Op} {fr : Fr} {h : H} {K K' : Value → H → Prop} (w : wOp P n0 o fr h K) (k : ∀ v h, K v h → K' v h) : wOp P n0 o fr h K' := by
  cases o <;> simp only [wOp] at w ⊢
  case pick => exact w.mono fun _ w => w.mono (fun w => w.mono fun _ => k _ _) (fun w => w.mono fun _ => k _ _)
  case alloc => exact w.mono fun _ w => by split <;> rename_i hx <;> simp only [hx, if_true, if_false, Bool.false_eq_true] at w <;> exact k _ _ w
  case makeFunc =>
    split <;> rename_i hx
    · rw [if_pos hx] at w; exact w
    · rw [if_neg hx] at w; exact w.mono fun _ w => w.mono fun _ => k _ _
  case nilCheck => exact w.mono fun _ w => by rw [NilC_iff] at w ⊢; exact ⟨k _ _ w.1, w.2⟩
  case makeInterface => exact w.mono fun _ w => by split at w <;> first | exact w | exact k _ _ w
  case next it b =>
    cases b <;> simp only at w ⊢
    exact w.mono fun _ w => w.mono fun _ => k _ _
  case call c =>
    refine w.mono fun _ w => ?_
    split at w
    · exact w.mono fun _ => k _ _
    · exact w.mono fun _ w => w.mono k
    · exact w
  case slice => exact w.mono fun _ w => w.mono fun _ w => w.mono fun _ w => w.mono fun _ w => w.mono fun _ => k _ _
  case move => exact w.mono fun _ => k _ _
  case assign => exact w.mono fun _ => k _ _
  case box => exact w.mono fun _ => k _ _
  all_goals first
    | exact w.mono fun _ w => w.mono fun _ => k _ _
    | exact w.mono fun _ w => w.mono fun _ w => w.mono fun _ => k _ _
    | exact w.mono fun _ w => w.mono fun _ w => w.mono fun _ w => w.mono fun _ => k _ _
theorem OpR.no {o : Op} {fr : Fr} {h h' : H} {v : Value} (e : evOp P noCall o fr h = some (v, h')) : OpR P n0 o fr h v h' := ⟨noCall, noCall_ok, e⟩
theorem wOp_run {o : Op} {fr : Fr} {h : H} {K : Value → H → Prop} (w : wOp P n0 o fr h K) : ∃ v h', K v h' ∧ OpR P n0 o fr h v h' := by
  cases o <;> simp only [wOp, Bnd_iff] at w
  case move => obtain ⟨v, e, k⟩ := w; exact ⟨_, _, k, .no (by simp [evOp, e])⟩
  case assign => obtain ⟨v, e, k⟩ := w; exact ⟨_, _, k, .no (by simp [evOp, e])⟩
  case pick =>
    obtain ⟨c, e, w⟩ := w
    rcases Cnd_iff.1 w with ⟨rfl, v, e2, k⟩ | ⟨rfl, v, e2, k⟩
    · exact ⟨_, _, k, .no (by simp [evOp, e, e2])⟩
    · exact ⟨_, _, k, .no (by simp [evOp, e, e2])⟩
  case alloc t =>
    obtain ⟨z, e, w⟩ := w
    split at w
    · rename_i hx; exact ⟨_, _, w, .no (by simp only [evOp, e, Option.bind_some, hx, if_true, aNew])⟩
    · exact w.elim
  case box => obtain ⟨v, e, k⟩ := w; exact ⟨_, _, k, .no (by simp [evOp, e, aNew])⟩
  case build => obtain ⟨ps, e, v, e2, k⟩ := w; exact ⟨_, _, k, .no (by simp [evOp, e, e2])⟩
  case buildSlice => obtain ⟨ps, e, r, e2, k⟩ := w; exact ⟨_, _, k, .no (by simp [evOp, e, e2])⟩
  case load => obtain ⟨a, e, v, e2, k⟩ := w; exact ⟨_, _, k, .no (by simp [evOp, e, e2])⟩
  case store => obtain ⟨a, e, v, e2, h1, e3, k⟩ := w; exact ⟨_, _, k, .no (by simp [evOp, e, e2, e3])⟩
  case nilCheck =>
    obtain ⟨v, e, k⟩ := w
    obtain ⟨k, ⟨a, rfl⟩ | ⟨f, x, y, rfl⟩ | ⟨f, x, y, rfl⟩⟩ := NilC_iff.1 k
    · exact ⟨_, _, k, .no (by simp [evOp, e])⟩
    · exact ⟨_, _, k, .no (by simp [evOp, e])⟩
    · exact ⟨_, _, k, .no (by simp [evOp, e])⟩
  case binOp => obtain ⟨a, e, b, e2, v, e3, k⟩ := w; exact ⟨_, _, k, .no (by simp only [evOp, e, e2, e3, Option.bind_some, Option.map_some])⟩
  case unOp => obtain ⟨a, e, v, e3, k⟩ := w; exact ⟨_, _, k, .no (by simp [evOp, e, e3])⟩
  case convert s d x =>
    obtain ⟨a, e, r, e3, k⟩ := w
    refine ⟨_, _, k, .no ?_⟩
    simp only [evOp, e, Option.bind_some]
    unfold cvt at e3
    split at e3
    · exact e3
    · rename_i hx
      split
      · rename_i a; exact absurd rfl (hx a)
      · exact e3
  case makeFunc =>
    split at w
    · exact w.elim
    · rename_i hx
      obtain ⟨a, e, b, e2, k⟩ := w
      exact ⟨_, _, k, .no (by simp [evOp, hx, e, e2])⟩
  case makeSlice => obtain ⟨a, e, b, e2, r, e3, k⟩ := w; exact ⟨_, _, k, .no (by simp [evOp, e, e2, e3])⟩
  case slice => obtain ⟨a, e, b, e2, c, e3, d, e4, r, e5, k⟩ := w; exact ⟨_, _, k, .no (by simp [evOp, e, e2, e3, e4, e5])⟩
  case fieldAddr => obtain ⟨a, e, v, e3, k⟩ := w; exact ⟨_, _, k, .no (by simp [evOp, e, e3])⟩
  case field => obtain ⟨a, e, v, e3, k⟩ := w; exact ⟨_, _, k, .no (by simp [evOp, e, e3])⟩
  case indexAddr => obtain ⟨a, e, b, e2, v, e3, k⟩ := w; exact ⟨_, _, k, .no (by simp [evOp, e, e2, e3])⟩
  case index => obtain ⟨a, e, b, e2, v, e3, k⟩ := w; exact ⟨_, _, k, .no (by simp [evOp, e, e2, e3])⟩
  case extract x i =>
    obtain ⟨a, e, v, e3, k⟩ := w
    refine ⟨_, _, k, .no ?_⟩
    simp only [evOp, e, Option.bind_some]
    unfold tupAt at e3
    split at e3
    · simp [e3]
    · cases e3
  case range => obtain ⟨a, e, r, e3, k⟩ := w; exact ⟨_, _, k, .no (by simp [evOp, e, e3])⟩
  case makeMap => obtain ⟨a, e, r, e3, k⟩ := w; exact ⟨_, _, k, .no (by simp [evOp, e, e3])⟩
  case lookup => obtain ⟨a, e, b, e2, v, e3, k⟩ := w; exact ⟨_, _, k, .no (by simp [evOp, e, e2, e3])⟩
  case mapUpdate => obtain ⟨a, e, b, e2, c, e3, h1, e4, k⟩ := w; exact ⟨_, _, k, .no (by simp [evOp, e, e2, e3, e4])⟩
  case makeInterface t x =>
    obtain ⟨a, e, w⟩ := w
    split at w
    · exact w.elim
    · rename_i d hne hx
      refine ⟨_, _, w, .no ?_⟩
      simp only [evOp, e, Option.bind_some, hx]
    · exact w.elim
  case typeAssert => obtain ⟨a, e, v, e3, k⟩ := w; exact ⟨_, _, k, .no (by simp [evOp, e, e3])⟩
  case next it b =>
    cases b <;> simp only [Bnd_iff] at w
    obtain ⟨a, e, r, e3, k⟩ := w; exact ⟨_, _, k, .no (by simp [evOp, e, e3])⟩
  case call c =>
    obtain ⟨xs, e, w⟩ := w
    split at w
    · rename_i b hc
      obtain ⟨r, e2, k⟩ := w
      exact ⟨_, _, k, .no (by simp [evOp, evCall, e, hc, e2])⟩
    · rename_i f hc
      obtain ⟨v, e2, k⟩ := w
      unfold CallV at k
      split at k
      · obtain ⟨v, h', ⟨call, g1, g2⟩, k⟩ := k
        exact ⟨v, h', k, call, g1, by simp only [evOp, evCall, e, hc, e2, Option.bind_some]; exact g2⟩
      · exact k.elim
    · exact w.elim
  all_goals exact w.elim

/-! a region's operations -/
def Gd (v : Value) (A B : Prop) : Prop := match v with | .bool true => A | .bool false => B | _ => False
theorem Gd_iff {v : Value} {A B : Prop} : Gd v A B ↔ (v = .bool true ∧ A) ∨ (v = .bool false ∧ B) := by
  unfold Gd; split <;> simp_all
theorem Gd_bool {b : Bool} {A B : Prop} : Gd (.bool b) A B = if b = true then A else B := by cases b <;> simp [Gd]
theorem Gd_congr {v v' : Value} {A B : Prop} (e : v = v') : Gd v A B = Gd v' A B := by rw [e]
theorem put_same : ∀ {fr : Fr} {d : Nat} {v : Value}, get fr d = some v → put fr d v = fr
  | [], d, v, e => by simp [get] at e
  | (k, u) :: r, d, v, e => by
    simp only [get] at e
    simp only [put]
    split
    · rename_i h; rw [if_pos h] at e; cases e; rfl
    · rename_i h; rw [if_neg h] at e; rw [put_same e]
abbrev KS := Bool → Value → Fr → List Nat → H → Fr → Prop
variable (P n0)
def run1 (nt : Nat) (o : Oper) (sk : List Nat) (fr : Fr) (h : H) (K : KS) : Prop :=
  wOp P n0 o.op fr h fun v h' => Bnd (putO nt fr o.dst v) fun fr' => K true v fr (match o.dst with | some d => sk.filter (fun x => x != d) | none => sk) h' fr'
def skip1 (nt : Nat) (o : Oper) (sk : List Nat) (fr : Fr) (h : H) (K : KS) : Prop :=
  Bnd (putO nt fr o.dst undef) fun fr' => K false undef fr (match o.dst with | some d => d :: sk | none => sk) h fr'
def wStep (nt : Nat) (ops : Array Oper) (o : Oper) (sk : List Nat) (fr : Fr) (h : H) (K : KS) : Prop :=
  match o.guard with
  | none => run1 P n0 nt o sk fr h K
  | some (j, want) => match (ops[j]?).bind (·.dst) with
    | none => skip1 nt o sk fr h K
    | some d => if sk.contains d = true then skip1 nt o sk fr h K else Bnd (get fr d) fun v => Gd v
        (if want = true then run1 P n0 nt o sk (put fr d (.bool true)) h K else skip1 nt o sk (put fr d (.bool true)) h K)
        (if want = true then skip1 nt o sk (put fr d (.bool false)) h K else run1 P n0 nt o sk (put fr d (.bool false)) h K)
def wOps (nt : Nat) (ops : Array Oper) : List Oper → List Nat → Fr → H → (Fr → H → Prop) → Prop
  | [], _, fr, h, K => K fr h
  | o :: r, sk, fr, h, K => wStep P n0 nt ops o sk fr h fun _ _ _ sk' h' fr' => wOps nt ops r sk' fr' h' K
def wTr (nt : Nat) (ops : Array Oper) : List Oper → List Nat → Fr → H → (List Tr → List H → Fr → Prop) → Prop
  | [], _, fr, h, K => K [] [h] fr
  | o :: r, sk, fr, h, K => wStep P n0 nt ops o sk fr h fun want v fr0 sk' h' fr' => wTr nt ops r sk' fr' h' fun ts hs f => K (⟨want, fr0, v⟩ :: ts) (if loud P o.op = true then h :: hs else hs) f
def qOp (o : Op) (fr : Fr) (h : H) : Option Value :=
  match o with
  | .load t a => (ev1 fr a).bind fun a => aLoad P t a h
  | .lookup t m k ok => (ev1 fr m).bind fun m => (ev1 fr k).bind fun k => aLookup P t m k ok h
  | .slice t x lo hi mx => (ev1 fr x).bind fun x => (evO fr lo).bind fun lo => (evO fr hi).bind fun hi => (evO fr mx).bind fun mx => aSlice P t x lo hi mx h
  | o => (evOp P noCall o fr h).map (·.1)
def wSame (o : Op) (t : Tr) : List H → Prop → Prop
  | [], C => C
  | h :: r, C => Sm (qOp P o t.fr h) t.val (wSame o t r C)
def wReads (ops : List Oper) (bs : List Nat) (hs : List H) : Nat → List Oper → List Tr → Prop → Prop
  | _, [], _, C => C
  | i, o :: r, t :: ts, C =>
    if (loud P o.op || !t.want || pureO P o.op || loCnt P (bs.getD i 0) 0 ops == hiCnt P bs i 0 ops) = true then wReads ops bs hs (i + 1) r ts C
    else wSame P o.op t ((hs.drop (loCnt P (bs.getD i 0) 0 ops)).take (hiCnt P bs i 0 ops - loCnt P (bs.getD i 0) 0 ops + 1)) (wReads ops bs hs (i + 1) r ts C)
  | _, _, [], _ => False
def wDraw (nt : Nat) (ops : Array Oper) (fr : Fr) (h : H) (K : Fr → H → Prop) : Prop :=
  if tieOk P ops 0 ops.toList (befs ops.toList []) = true then
    wTr P n0 nt ops ops.toList [] fr h fun ts hs f => wReads P ops.toList (befs ops.toList []) hs 0 ops.toList ts (Bnd hs.getLast? fun h => K f h)
  else False
variable {P n0}
theorem run1.mono {nt : Nat} {o : Oper} {sk : List Nat} {fr : Fr} {h : H} {K K' : KS} (w : run1 P n0 nt o sk fr h K) (k : ∀ a b c d e f, K a b c d e f → K' a b c d e f) : run1 P n0 nt o sk fr h K' :=
  wOp.mono w fun _ _ w => w.mono fun _ => k _ _ _ _ _ _
theorem skip1.mono {nt : Nat} {o : Oper} {sk : List Nat} {fr : Fr} {h : H} {K K' : KS} (w : skip1 nt o sk fr h K) (k : ∀ a b c d e f, K a b c d e f → K' a b c d e f) : skip1 nt o sk fr h K' :=
  Bnd.mono w fun _ => k _ _ _ _ _ _
theorem wStep.mono {nt : Nat} {ops : Array Oper} {o : Oper} {sk : List Nat} {fr : Fr} {h : H} {K K' : KS} (w : wStep P n0 nt ops o sk fr h K) (k : ∀ a b c d e f, K a b c d e f → K' a b c d e f) : wStep P n0 nt ops o sk fr h K' := by
  unfold wStep at w ⊢
  split at w
  · exact w.mono k
  · split at w
    · exact skip1.mono w k
    · split <;> rename_i hx
      · rw [if_pos hx] at w; exact skip1.mono w k
      · rw [if_neg hx] at w
        refine w.mono fun v w => ?_
        rw [Gd_iff] at w ⊢
        rcases w with ⟨e, w⟩ | ⟨e, w⟩
        · refine .inl ⟨e, ?_⟩
          split <;> rename_i hy
          · rw [if_pos hy] at w; exact w.mono k
          · rw [if_neg hy] at w; exact skip1.mono w k
        · refine .inr ⟨e, ?_⟩
          split <;> rename_i hy
          · rw [if_pos hy] at w; exact skip1.mono w k
          · rw [if_neg hy] at w; exact w.mono k
theorem wOps.mono {nt : Nat} {ops : Array Oper} {K K' : Fr → H → Prop} (k : ∀ fr h, K fr h → K' fr h) : ∀ {l : List Oper} {sk : List Nat} {fr : Fr} {h : H}, wOps P n0 nt ops l sk fr h K → wOps P n0 nt ops l sk fr h K'
  | [], _, _, _, w => k _ _ w
  | _ :: _, _, _, _, w => wStep.mono w fun _ _ _ _ _ _ w => wOps.mono k w
theorem wTr.mono {nt : Nat} {ops : Array Oper} : ∀ {l : List Oper} {sk : List Nat} {fr : Fr} {h : H} {K K' : List Tr → List H → Fr → Prop}, (∀ a b c, K a b c → K' a b c) → wTr P n0 nt ops l sk fr h K → wTr P n0 nt ops l sk fr h K'
  | [], _, _, _, _, _, k, w => k _ _ _ w
  | _ :: _, _, _, _, _, _, k, w => wStep.mono w fun _ _ _ _ _ _ w => wTr.mono (fun _ _ _ => k _ _ _) w
theorem wSame.mono {o : Op} {t : Tr} {C C' : Prop} (k : C → C') : ∀ {l : List H}, wSame P o t l C → wSame P o t l C'
  | [], w => k w
  | _ :: _, w => ⟨w.1, wSame.mono k w.2⟩
theorem wReads.mono {ops : List Oper} {bs : List Nat} {hs : List H} {C C' : Prop} (k : C → C') : ∀ {i : Nat} {l : List Oper} {ts : List Tr}, wReads P ops bs hs i l ts C → wReads P ops bs hs i l ts C'
  | _, [], ts, w => by cases ts <;> exact k w
  | _, _ :: _, [], w => w
  | i, o :: r, t :: ts, w => by
    simp only [wReads] at w ⊢
    split <;> rename_i hx
    · rw [if_pos hx] at w; exact wReads.mono k w
    · rw [if_neg hx] at w; exact wSame.mono (wReads.mono k) w
theorem wDraw.mono {nt : Nat} {ops : Array Oper} {fr : Fr} {h : H} {K K' : Fr → H → Prop} (w : wDraw P n0 nt ops fr h K) (k : ∀ fr h, K fr h → K' fr h) : wDraw P n0 nt ops fr h K' := by
  unfold wDraw at w ⊢
  split <;> rename_i hx
  · rw [if_pos hx] at w; exact wTr.mono (fun _ _ _ => wReads.mono fun w => w.mono fun _ => k _ _) w
  · rw [if_neg hx] at w; exact w

def SkOk (sk : List Nat) (fr : Fr) : Prop := ∀ d ∈ sk, get fr d = some undef
theorem get_put2 (fr : Fr) (d t : Nat) (v : Value) : get (put fr d v) t = if d = t then some v else get fr t := by
  induction fr with
  | nil => simp [put, get]
  | cons x r ih =>
    obtain ⟨k, u⟩ := x
    simp only [put]
    split
    · rename_i h; subst h
      simp only [get]
      split <;> rfl
    · rename_i h
      simp only [get, ih]
      split
      · rename_i h2; subst h2; rw [if_neg (fun e => h e.symm)]
      · rfl
theorem wStep_run {nt : Nat} {ops : Array Oper} {o : Oper} {sk : List Nat} {fr : Fr} {h : H} {K : KS} (hs : SkOk sk fr) (w : wStep P n0 nt ops o sk fr h K) :
    ∃ want v sk' h' fr', K want v fr sk' h' fr' ∧ SkOk sk' fr' ∧ wantedB ops o.guard fr = some want ∧ (want = true → OpR P n0 o.op fr h v h') ∧ (want = false → v = undef ∧ h' = h) ∧ putO nt fr o.dst v = some fr' := by
  have hrun : ∀ {fr}, SkOk sk fr → wantedB ops o.guard fr = some true → run1 P n0 nt o sk fr h K → ∃ want v sk' h' fr', K want v fr sk' h' fr' ∧ SkOk sk' fr' ∧ wantedB ops o.guard fr = some want ∧ (want = true → OpR P n0 o.op fr h v h') ∧ (want = false → v = undef ∧ h' = h) ∧ putO nt fr o.dst v = some fr' := by
    intro fr hs hw w
    obtain ⟨v, h', w, r⟩ := wOp_run w
    obtain ⟨fr', e, k⟩ := Bnd_iff.1 w
    refine ⟨true, v, _, h', fr', k, ?_, hw, fun _ => r, (fun hx => by cases hx), e⟩
    intro d hd
    cases hdst : o.dst with
    | none => rw [hdst] at hd e; simp [putO] at e; subst e; exact hs d hd
    | some t =>
      rw [hdst] at hd e
      simp only [List.mem_filter, bne_iff_ne, ne_eq] at hd
      simp only [putO] at e
      split at e
      · cases e; rw [get_put2, if_neg (fun e => hd.2 e.symm)]; exact hs d hd.1
      · cases e
  have hskip : ∀ {fr}, SkOk sk fr → wantedB ops o.guard fr = some false → skip1 nt o sk fr h K → ∃ want v sk' h' fr', K want v fr sk' h' fr' ∧ SkOk sk' fr' ∧ wantedB ops o.guard fr = some want ∧ (want = true → OpR P n0 o.op fr h v h') ∧ (want = false → v = undef ∧ h' = h) ∧ putO nt fr o.dst v = some fr' := by
    intro fr hs hw w
    obtain ⟨fr', e, k⟩ := Bnd_iff.1 w
    refine ⟨false, undef, _, h, fr', k, ?_, hw, (fun hx => by cases hx), fun _ => ⟨rfl, rfl⟩, e⟩
    intro d hd
    cases hdst : o.dst with
    | none => rw [hdst] at hd e; simp [putO] at e; subst e; exact hs d hd
    | some t =>
      rw [hdst] at hd e
      simp only [List.mem_cons] at hd
      simp only [putO] at e
      split at e
      · cases e
        rw [get_put2]
        split
        · rfl
        · rename_i hne; exact hs d (hd.resolve_left fun e => hne e.symm)
      · cases e
  unfold wStep at w
  split at w
  · rename_i hg; exact hrun hs (by simp [wantedB, hg]) w
  · rename_i j want hg
    split at w
    · rename_i hd; exact hskip hs (by simp [wantedB, hg, hd]) w
    · rename_i d hd
      split at w
      · rename_i hx
        have := hs d (by simpa using hx)
        refine hskip hs (by simp [wantedB, hg, hd, this, undef]) w
      · obtain ⟨v, e, w⟩ := Bnd_iff.1 w
        rcases Gd_iff.1 w with ⟨rfl, w⟩ | ⟨rfl, w⟩
        · rw [put_same e] at w
          split at w <;> rename_i hx
          · exact hrun hs (by simp [wantedB, hg, hd, e, hx]) w
          · exact hskip hs (by simp [wantedB, hg, hd, e, hx]) w
        · rw [put_same e] at w
          split at w <;> rename_i hx
          · exact hskip hs (by simp [wantedB, hg, hd, e, hx]) w
          · exact hrun hs (by simp [wantedB, hg, hd, e, hx]) w
variable (P n0)
def OpsR (nt : Nat) (ops : Array Oper) : List Oper → Fr → H → Fr → H → Prop
  | [], fr, h, fr', h' => fr' = fr ∧ h' = h
  | o :: r, fr, h, fr', h' => ∃ want v h1 fr1, wantedB ops o.guard fr = some want ∧ (want = true → OpR P n0 o.op fr h v h1) ∧ (want = false → v = undef ∧ h1 = h) ∧ putO nt fr o.dst v = some fr1 ∧ OpsR nt ops r fr1 h1 fr' h'
variable {P n0}
theorem wOps_run {nt : Nat} {ops : Array Oper} {K : Fr → H → Prop} : ∀ {l : List Oper} {sk : List Nat} {fr : Fr} {h : H}, SkOk sk fr → wOps P n0 nt ops l sk fr h K → ∃ fr' h', K fr' h' ∧ OpsR P n0 nt ops l fr h fr' h'
  | [], _, _, _, _, w => ⟨_, _, w, rfl, rfl⟩
  | o :: r, sk, fr, h, hs, w => by
    obtain ⟨want, v, sk', h1, fr1, w, hs1, a, b, c, d⟩ := wStep_run hs w
    obtain ⟨fr', h', k, e⟩ := wOps_run hs1 w
    exact ⟨fr', h', k, want, v, h1, fr1, a, b, c, d, e⟩
theorem wTr_run {nt : Nat} {ops : Array Oper} : ∀ {l : List Oper} {sk : List Nat} {fr : Fr} {h : H} {K : List Tr → List H → Fr → Prop}, SkOk sk fr → wTr P n0 nt ops l sk fr h K → ∃ ts hs f, K ts hs f ∧ Facts P n0 nt ops l fr h ts hs f
  | [], _, fr, h, K, _, w => ⟨_, _, _, w, rfl, rfl, rfl, fun _ => rfl, by simp, by simp⟩
  | o :: r, sk, fr, h, K, hs, w => by
    obtain ⟨want, v, sk', h1, fr1, w, hs1, a, b, c, d⟩ := wStep_run hs w
    obtain ⟨ts, hs, f, k, e⟩ := wTr_run hs1 w
    exact ⟨_, _, _, k, facts_cons want v h1 fr1 ts hs a b c d e rfl rfl⟩
theorem qOp_run {o : Op} {fr : Fr} {h : H} {v : Value} (hl : loud P o = false) (e : qOp P o fr h = some v) : ∃ h', OpR P n0 o fr h v h' := by
  unfold qOp at e
  split at e
  · simp only [Option.bind_eq_some_iff] at e
    obtain ⟨a, e1, e⟩ := e
    exact ⟨h, .no (by simp [evOp, e1, e])⟩
  · simp only [Option.bind_eq_some_iff] at e
    obtain ⟨a, e1, b, e2, e⟩ := e
    exact ⟨h, .no (by simp [evOp, e1, e2, e])⟩
  · simp only [Option.bind_eq_some_iff] at e
    obtain ⟨a, e1, b, e2, c, e3, d, e4, e⟩ := e
    exact ⟨h, .no (by simp [evOp, e1, e2, e3, e4, e])⟩
  · simp only [Option.map_eq_some_iff] at e
    obtain ⟨⟨v, h'⟩, e, rfl⟩ := e
    exact ⟨h', .no e⟩
theorem wSame_run {o : Op} {t : Tr} {C : Prop} : ∀ {l : List H}, wSame P o t l C → C ∧ ∀ (k : Nat) (h : H), l[k]? = some h → qOp P o t.fr h = some t.val
  | [], w => ⟨w, by simp⟩
  | x :: r, w => by
    obtain ⟨a, b⟩ := wSame_run w.2
    refine ⟨a, fun k h e => ?_⟩
    cases k with
    | zero => simp at e; subst e; exact w.1
    | succ k => exact b k h (by simpa using e)
theorem wReads_run {ops : List Oper} {bs : List Nat} {hs : List H} {C : Prop} : ∀ {i : Nat} {l : List Oper} {ts : List Tr}, wReads P ops bs hs i l ts C → C ∧ ∀ (k : Nat) (o : Oper) (t : Tr), l[k]? = some o → ts[k]? = some t →
    loud P o.op = true ∨ t.want = false ∨ pureO P o.op = true ∨ loCnt P (bs.getD (i + k) 0) 0 ops = hiCnt P bs (i + k) 0 ops ∨
      ∀ (m : Nat) (h : H), ((hs.drop (loCnt P (bs.getD (i + k) 0) 0 ops)).take (hiCnt P bs (i + k) 0 ops - loCnt P (bs.getD (i + k) 0) 0 ops + 1))[m]? = some h → ∃ h', OpR P n0 o.op t.fr h t.val h'
  | _, [], ts, w => ⟨by cases ts <;> exact w, by simp⟩
  | _, _ :: _, [], w => w.elim
  | i, o :: r, t :: ts, w => by
    simp only [wReads] at w
    split at w <;> rename_i hx
    · obtain ⟨a, b⟩ := wReads_run w
      refine ⟨a, fun k o' t' e e' => ?_⟩
      cases k with
      | zero =>
        simp at e e'; subst e; subst e'
        simp only [Bool.or_eq_true, Bool.not_eq_true', beq_iff_eq] at hx
        rcases hx with ((h1 | h1) | h1) | h1
        · exact .inl h1
        · exact .inr (.inl h1)
        · exact .inr (.inr (.inl h1))
        · exact .inr (.inr (.inr (.inl h1)))
      | succ k => rw [show i + (k + 1) = i + 1 + k from by omega]; exact b k o' t' (by simpa using e) (by simpa using e')
    · obtain ⟨w, s⟩ := wSame_run w
      obtain ⟨a, b⟩ := wReads_run w
      refine ⟨a, fun k o' t' e e' => ?_⟩
      cases k with
      | zero =>
        simp at e e'; subst e; subst e'
        simp only [Bool.or_eq_true, Bool.not_eq_true', beq_iff_eq, not_or, Bool.not_eq_true] at hx
        exact .inr (.inr (.inr (.inr fun m h hm => qOp_run hx.1.1.1 (s m h hm))))
      | succ k => rw [show i + (k + 1) = i + 1 + k from by omega]; exact b k o' t' (by simpa using e) (by simpa using e')
theorem wDraw_run {nt : Nat} {ops : Array Oper} {fr : Fr} {h : H} {K : Fr → H → Prop} (w : wDraw P n0 nt ops fr h K) :
    ∃ fr' h', K fr' h' ∧ ∃ ts hs, Facts P n0 nt ops ops.toList fr h ts hs fr' ∧ tieOk P ops 0 ops.toList (befs ops.toList []) = true ∧ ReadsP P n0 ops.toList (befs ops.toList []) hs ts ∧ hs.getLast? = some h' := by
  unfold wDraw at w
  split at w
  · rename_i ht
    obtain ⟨ts, hs, f, w, F⟩ := wTr_run (by intro d hd; simp at hd) w
    obtain ⟨w, r⟩ := wReads_run (n0 := n0) w
    obtain ⟨h', e, k⟩ := Bnd_iff.1 w
    exact ⟨f, h', k, ts, hs, F, ht, (fun i o t a b => by have := r i o t a b; rwa [Nat.zero_add] at this), e⟩
  · exact w.elim
end Go.Ev
