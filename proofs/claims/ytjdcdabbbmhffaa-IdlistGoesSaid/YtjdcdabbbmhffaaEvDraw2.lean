/- A part of the proof that what the evaluator of YtjdcdabbbmhffaaEvCore answers, the call answers in the model. No condition. -/
import Derived.Test.YtjdcdabbbmhffaaEvDraw
set_option linter.unusedVariables false
set_option linter.unusedSimpArgs false
namespace Go.Ev
open Go.RowKit (Below)
variable {P : Program} {n0 : Nat} {ρ : Rho} {h h' : H} {w : World}

/-! how many loud ones -/
def cntF (P : Program) (q : Nat → Bool) : Nat → List Oper → Nat
  | _, [] => 0
  | j, y :: r => (if loud P y.op && q j then 1 else 0) + cntF P q (j + 1) r
theorem cntF_congr {q q' : Nat → Bool} : ∀ (l : List Oper) (j : Nat), (∀ k y, l[k]? = some y → loud P y.op = true → q (j + k) = q' (j + k)) → cntF P q j l = cntF P q' j l
  | [], _, _ => rfl
  | y :: r, j, hq => by
    have e1 := cntF_congr r (j + 1) fun k z hz hl => (show j + (k + 1) = j + 1 + k from by omega) ▸ hq (k + 1) z (by simpa using hz) hl
    simp only [cntF]
    rw [e1]
    cases hl : loud P y.op with
    | false => rfl
    | true => have := hq 0 y rfl hl; simp only [Nat.add_zero] at this; rw [this]
theorem cntF_le {q q' : Nat → Bool} : ∀ (l : List Oper) (j : Nat), (∀ k y, l[k]? = some y → loud P y.op = true → q (j + k) = true → q' (j + k) = true) → cntF P q j l ≤ cntF P q' j l
  | [], _, _ => Nat.le_refl _
  | y :: r, j, hq => by
    simp only [cntF]
    have h1 := cntF_le r (j + 1) fun k z hz hl hq1 => by have := hq (k + 1) z (by simpa using hz) hl (by rwa [show j + (k + 1) = j + 1 + k from by omega]); rwa [show j + (k + 1) = j + 1 + k from by omega] at this
    have h2 : (if loud P y.op && q j then 1 else 0) ≤ (if loud P y.op && q' j then 1 else 0) := by
      cases hl : loud P y.op with
      | false => simp
      | true =>
        have := hq 0 y rfl hl
        simp only [Nat.add_zero] at this
        cases hqj : q j with
        | false => simp
        | true => simp [this hqj]
    omega
theorem cntF_add {q q' : Nat → Bool} (i : Nat) : ∀ (l : List Oper) (j : Nat) (y : Oper), l[i]? = some y → q (j + i) = false → q' (j + i) = true → (∀ k, k ≠ i → q' (j + k) = q (j + k)) →
    cntF P q' j l = cntF P q j l + if loud P y.op then 1 else 0
  | [], j, y, e, _, _, _ => by simp at e
  | z :: r, j, y, e, h1, h2, h3 => by
    cases i with
    | zero =>
      simp at e; subst e
      simp only [cntF]
      rw [cntF_congr (q := q') (q' := q) r (j + 1) fun k z hz hl => by have := h3 (k + 1) (by omega); rwa [show j + (k + 1) = j + 1 + k from by omega] at this]
      simp only [Nat.add_zero] at h1 h2
      rw [h1, h2]
      cases loud P z.op <;> simp; omega
    | succ i =>
      simp only [cntF]
      rw [cntF_add i r (j + 1) y (by simpa using e) (by rwa [show j + (i + 1) = j + 1 + i from by omega] at h1) (by rwa [show j + (i + 1) = j + 1 + i from by omega] at h2)
        (fun k hk => by have := h3 (k + 1) (by omega); rwa [show j + (k + 1) = j + 1 + k from by omega] at this)]
      have := h3 0 (by omega)
      simp only [Nat.add_zero] at this
      rw [this]; omega
theorem cntF_lt_succ (l : List Oper) (i : Nat) (y : Oper) (e : l[i]? = some y) : cntF P (fun j => decide (j < i + 1)) 0 l = cntF P (fun j => decide (j < i)) 0 l + if loud P y.op then 1 else 0 :=
  cntF_add i l 0 y e (by simp) (by simp) fun k hk => by simp; omega
theorem cntF_none : ∀ (l : List Oper) (j : Nat), cntF P (fun _ => false) j l = 0
  | [], _ => rfl
  | y :: r, j => by simp [cntF, cntF_none r]

/-- an operation, whatever its calls are told by -/
def OpR (P : Program) (n0 : Nat) (o : Op) (fr : Fr) (h : H) (v : Value) (h' : H) : Prop := ∃ call, CallOk P n0 call ∧ evOp P call o fr h = some (v, h')
/-! what the trace says -/
structure TrAt (P : Program) (n0 : Nat) (nt : Nat) (ops : Array Oper) (o : Oper) (t : Tr) (hA hB : H) (fr' : Fr) : Prop where
  want : wantedB ops o.guard t.fr = some t.want
  yes : t.want = true → OpR P n0 o.op t.fr hA t.val hB
  no : t.want = false → t.val = undef ∧ hB = hA
  put : putO nt t.fr o.dst t.val = some fr'

def Facts (P : Program) (n0 : Nat) (nt : Nat) (ops : Array Oper) (l : List Oper) (fr : Fr) (h : H) (ts : List Tr) (hs : List H) (f : Fr) : Prop :=
    hs[0]? = some h ∧ hs.length = cntF P (fun _ => true) 0 l + 1 ∧ ts.length = l.length ∧ (l = [] → f = fr) ∧ (∀ t, ts[0]? = some t → t.fr = fr) ∧
    ∀ (i : Nat) (o : Oper), l[i]? = some o → ∃ t hA hB fr', ts[i]? = some t ∧ hs[cntF P (fun j => decide (j < i)) 0 l]? = some hA ∧ hs[cntF P (fun j => decide (j < i + 1)) 0 l]? = some hB ∧
      TrAt P n0 nt ops o t hA hB fr' ∧ (∀ t', ts[i + 1]? = some t' → t'.fr = fr') ∧ (i + 1 = l.length → f = fr')
theorem facts_cons {nt : Nat} {ops : Array Oper} {o : Oper} {r : List Oper} {fr : Fr} {h : H} {ts : List Tr} {hs : List H} {f : Fr} (want : Bool) (v : Value) (h1 : H) (fr1 : Fr) (tr : List Tr) (hr : List H)
    (hw : wantedB ops o.guard fr = some want) (hy : want = true → OpR P n0 o.op fr h v h1) (hn : want = false → v = undef ∧ h1 = h)
    (hp : putO nt fr o.dst v = some fr1) (F : Facts P n0 nt ops r fr1 h1 tr hr f) (hts : ts = ⟨want, fr, v⟩ :: tr) (hhs : hs = (if loud P o.op then h :: hr else hr)) : Facts P n0 nt ops (o :: r) fr h ts hs f := by
  obtain ⟨g1, g2, g3, g4, g5, g6⟩ := F
  have hq : loud P o.op = false → h1 = h := fun hl => by
    cases want with
    | true => obtain ⟨_, _, hy⟩ := hy rfl; exact quiet_heap hl hy
    | false => exact (hn rfl).2
  have hs0 : hs[0]? = some h := by
    rw [hhs]; cases hl : loud P o.op with
    | true => simp
    | false => simp only [Bool.false_eq_true, if_false]; rw [g1, hq hl]
  have shift : ∀ (q : Nat → Bool), q 0 = true → hs[cntF P q 0 (o :: r) ]? = hr[cntF P q 1 r]? := by
    intro q hq0
    simp only [cntF, hq0, Bool.and_true]
    rw [hhs]
    cases hl : loud P o.op with
    | true => simp only [if_true]; rw [Nat.add_comm]; simp
    | false => simp
  have shiftC : ∀ i, cntF P (fun j => decide (j < i + 1)) 1 r = cntF P (fun j => decide (j < i)) 0 r := by
    intro i
    have : ∀ (l : List Oper) (j : Nat), cntF P (fun k => decide (k < i + 1)) (j + 1) l = cntF P (fun k => decide (k < i)) j l := by
      intro l
      induction l with
      | nil => intro j; rfl
      | cons y l ih => intro j; simp only [cntF, ih, Nat.add_lt_add_iff_right]
    exact this r 0
  refine ⟨hs0, ?_, by rw [hts]; simp [g3], by simp, by intro t ht; rw [hts] at ht; simp at ht; rw [← ht], ?_⟩
  · have : cntF P (fun _ => true) 1 r = cntF P (fun _ => true) 0 r := by
      have : ∀ (l : List Oper) (j k : Nat), cntF P (fun _ => true) j l = cntF P (fun _ => true) k l := by
        intro l
        induction l with
        | nil => intro j k; rfl
        | cons y l ih => intro j k; simp only [cntF]; rw [ih (j + 1) (k + 1)]
      exact this r 1 0
    rw [hhs]
    simp only [cntF, Nat.zero_add, this, Bool.and_true]
    cases hl : loud P o.op with
    | true => simp [g2]; omega
    | false => simp [g2]
  · intro i o' ho
    cases i with
    | zero =>
      simp at ho; subst ho
      refine ⟨⟨want, fr, v⟩, h, h1, fr1, by rw [hts]; rfl, ?_, ?_, ⟨hw, hy, hn, hp⟩, fun t' ht => ?_, fun hl => ?_⟩
      · have : cntF P (fun j => decide (j < 0)) 0 (o :: r) = 0 := by
          have := cntF_congr (P := P) (q := fun j => decide (j < 0)) (q' := fun _ => false) (o :: r) 0 (by intro k y _ _; simp)
          rw [this, cntF_none]
        rw [this]; exact hs0
      · rw [shift _ (by simp), shiftC 0]
        have := cntF_congr (P := P) (q := fun j => decide (j < 0)) (q' := fun _ => false) r 0 (by intro k y _ _; simp)
        rw [this, cntF_none]; exact g1
      · rw [hts] at ht; simp at ht; exact g5 t' (by simpa using ht)
      · simp at hl; exact g4 hl
    | succ i =>
      obtain ⟨t, hA, hB, fr', a1, a2, a3, a4, a5, a6⟩ := g6 i o' (by simpa using ho)
      refine ⟨t, hA, hB, fr', by rw [hts]; simpa using a1, ?_, ?_, a4, fun t' ht => a5 t' (by rw [hts] at ht; simpa using ht), fun hl => a6 (by simpa using hl)⟩
      · rw [shift _ (by simp), shiftC i]; exact a2
      · rw [shift _ (by simp), shiftC (i + 1)]; exact a3
theorem evTr_facts {call : CallT} (hcall : CallOk P n0 call) {nt : Nat} {ops : Array Oper} : ∀ (l : List Oper) (fr : Fr) (h : H) (ts : List Tr) (hs : List H) (f : Fr), evTr P call nt ops l fr h = some (ts, hs, f) → Facts P n0 nt ops l fr h ts hs f
  | [], fr, h, ts, hs, f, e => by
    simp [evTr] at e
    obtain ⟨rfl, rfl, rfl⟩ := e
    exact ⟨rfl, rfl, rfl, fun _ => rfl, by simp, by simp⟩
  | o :: r, fr, h, ts, hs, f, e => by
    simp only [evTr] at e
    split at e
    · rename_i hw
      simp only [Option.bind_eq_some_iff, Option.map_eq_some_iff] at e
      obtain ⟨⟨v, h1⟩, he, fr1, hp, ⟨tr, hr, f'⟩, htr, e⟩ := e
      simp only [Prod.mk.injEq] at e
      obtain ⟨e1, e2, rfl⟩ := e
      exact facts_cons true v h1 fr1 tr hr hw (fun _ => ⟨call, hcall, he⟩) (fun hx => by cases hx) hp (evTr_facts hcall r fr1 h1 tr hr _ htr) e1.symm e2.symm
    · rename_i hw
      simp only [Option.bind_eq_some_iff, Option.map_eq_some_iff] at e
      obtain ⟨fr1, hp, ⟨tr, hr, f'⟩, htr, e⟩ := e
      simp only [Prod.mk.injEq] at e
      obtain ⟨e1, e2, rfl⟩ := e
      exact facts_cons false undef h fr1 tr hr hw (fun hx => by cases hx) (fun _ => ⟨rfl, rfl⟩) hp (evTr_facts hcall r fr1 h tr hr _ htr) e1.symm e2.symm
    · cases e

/-! what is bound to what -/
theorem befs_get (l : List Oper) : ∀ (acc : List Nat), (befs l acc).length = acc.length + l.length ∧ (∀ j, j < acc.length → (befs l acc)[j]? = acc[j]?) ∧
    ∀ k y, l[k]? = some y → (befs l acc)[acc.length + k]? = some (befOf ((befs l acc).take (acc.length + k)) y.after.toList) := by
  induction l with
  | nil => intro acc; simp [befs]
  | cons o r ih =>
    intro acc
    obtain ⟨h1, h2, h3⟩ := ih (acc ++ [befOf acc o.after.toList])
    simp only [befs]
    simp only [List.length_append, List.length_cons, List.length_nil, Nat.zero_add] at h1 h2 h3
    refine ⟨by rw [h1]; simp; omega, fun j hj => by rw [h2 j (by omega), List.getElem?_append_left hj], fun k y hy => ?_⟩
    cases k with
    | zero =>
      simp at hy; subst hy
      rw [Nat.add_zero, h2 _ (by omega), List.getElem?_append_right (Nat.le_refl _)]
      simp only [Nat.sub_self, List.getElem?_cons_zero]
      congr 2
      apply List.ext_getElem?
      intro j
      rw [List.getElem?_take]
      split
      · rename_i hj; rw [h2 j (by omega), List.getElem?_append_left hj]
      · rename_i hj; rw [List.getElem?_eq_none (by omega)]
    | succ k =>
      have := h3 k y (by simpa using hy)
      rw [show acc.length + (k + 1) = acc.length + 1 + k from by omega]; exact this
theorem befOf_sub (acc : List Nat) (L : Nat → Bool) : ∀ (es : List Edge), (∀ e ∈ es, Region.binds .any e = true → L e.on = true ∧ ∀ i, (acc.getD e.on 0).testBit i = true → L i = true) →
    ∀ i, (befOf acc es).testBit i = true → L i = true
  | [], _, i, hi => by simp [befOf] at hi
  | e :: r, hh, i, hi => by
    simp only [befOf] at hi
    split at hi
    · rename_i hb
      obtain ⟨a, b⟩ := hh e (by simp) hb
      simp only [Nat.testBit_or, Bool.or_eq_true] at hi
      rcases hi with (hi | hi) | hi
      · rw [Nat.testBit_two_pow] at hi
        simp at hi; rw [← hi]; exact a
      · exact b i hi
      · exact befOf_sub acc L r (fun e' he' => hh e' (by simp [he'])) i hi
    · exact befOf_sub acc L r (fun e' he' => hh e' (by simp [he'])) i hi
end Go.Ev
