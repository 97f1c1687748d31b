/- A part of the proof that what the evaluator of YtjdcdabbbmhffaaEvCore answers, the call answers in the model. No condition. -/
import Derived.Test.YtjdcdabbbmhffaaEvDraw3
set_option linter.unusedVariables false
set_option linter.unusedSimpArgs false
namespace Go.Ev
open Go.RowKit (Below)
variable {P : Program} {D : List Deferred} {rr : Option Nat} {n0 : Nat}

def isL (listed : Array Bool) (j : Nat) : Bool := listed.getD j false

/-- while a region goes in some order: what has been done so far -/
structure Inv (P : Program) (n0 nt : Nat) (D : List Deferred) (ops : Array Oper) (fr0 : Fr) (ts : List Tr) (hs : List H) (w0 : World) (ρ0 : Rho) (listed : Array Bool) (a : Act) (w : World) : Prop where
  size : listed.size = ops.size
  down : ∀ (j : Nat) (y : Oper), ops[j]? = some y → isL listed j = true → ∀ e ∈ y.after, Region.binds .any e = true → isL listed e.on = true
  tsize : a.tmps.size = nt
  defers : a.defers = D
  st : ∃ ρ hm, Le ρ0 ρ ∧ hs[cntF P (isL listed) 0 ops.toList]? = some hm ∧ Rel n0 ρ hm w ∧ Below n0 w0 w ∧
    ∀ (t : Nat) (v : Value), cur ops fr0 ts (isL listed) t ops.size = some v → ∃ v', a.tmps[t]? = some v' ∧ VR ρ v v'

theorem isL_set {listed : Array Bool} {i : Nat} (hi : i < listed.size) (j : Nat) : isL (listed.setIfInBounds i true) j = (decide (j = i) || isL listed j) := by
  unfold isL
  by_cases e : j = i
  · subst e; simp [hi]
  · rw [getD_set_ne false (fun k => e k.symm)]; simp [e]

/-- what is read may be read at another time -/
def ReadsP (P : Program) (n0 : Nat) (ops : List Oper) (bs : List Nat) (hs : List H) (ts : List Tr) : Prop := ∀ (i : Nat) (o : Oper) (t : Tr), ops[i]? = some o → ts[i]? = some t →
    loud P o.op = true ∨ t.want = false ∨ pureO P o.op = true ∨ loCnt P (bs.getD i 0) 0 ops = hiCnt P bs i 0 ops ∨
      ∀ (k : Nat) (h : H), ((hs.drop (loCnt P (bs.getD i 0) 0 ops)).take (hiCnt P bs i 0 ops - loCnt P (bs.getD i 0) 0 ops + 1))[k]? = some h → ∃ h', OpR P n0 o.op t.fr h t.val h'
theorem reads_sem {call : CallT} (hcall : CallOk P n0 call) {ops : List Oper} {bs : List Nat} {hs : List H} {ts : List Tr} (h : readsOk P call ops bs hs 0 ops ts = true) : ReadsP P n0 ops bs hs ts := by
  intro i o t ho ht
  have := reads_get ops ts 0 h i o t ho ht
  rw [Nat.zero_add] at this
  rcases this with a | a | a | a | a
  · exact .inl a
  · exact .inr (.inl a)
  · exact .inr (.inr (.inl a))
  · exact .inr (.inr (.inr (.inl a)))
  · exact .inr (.inr (.inr (.inr fun k h hk => let ⟨h', e⟩ := same_get _ a k h hk; ⟨h', call, hcall, e⟩)))
theorem draw_sim {nt : Nat} {ops : Array Oper} {fr0 : Fr} {h0 : H} {ts : List Tr} {hs : List H} {f : Fr} {w0 : World} {ρ0 : Rho} {Q : Exit → Act → World → Prop}
    (facts : Facts P n0 nt ops ops.toList fr0 h0 ts hs f) (htie : tieOk P ops 0 ops.toList (befs ops.toList []) = true) (hreads : ReadsP P n0 ops.toList (befs ops.toList []) hs ts)
    {hE : H} (hlast : hs.getLast? = some hE) (k : ∀ a' w', St P n0 nt D w0 ρ0 f hE a' w' → Q .normal a' w') :
    ∀ (fuel : Nat) (listed : Array Bool) (a : Act) (w : World), Inv P n0 nt D ops fr0 ts hs w0 ρ0 listed a w → un (isL listed) ops.size = fuel → wpAnyIn (Wf rr) 0 P .any ops Q fuel listed a w := by
  obtain ⟨f1, f2, f3, f4, f5, f6⟩ := facts
  have hlen : ops.toList.length = ops.size := by simp
  have getl : ∀ {j : Nat} {y : Oper}, ops[j]? = some y → ops.toList[j]? = some y := fun h => by simpa using h
  have tie := fun (j : Nat) (y : Oper) (hy : ops[j]? = some y) => by
    have := tie_get (P := P) ops.toList 0 htie j y (getl hy)
    simpa using this
  -- the frame ahead of an operation, in the order of the text
  have frAt : ∀ (i : Nat) (t : Tr), ts[i]? = some t → ∀ s, get t.fr s = cur ops fr0 ts (fun _ => true) s i := by
    intro i
    induction i with
    | zero => intro t ht s; rw [f5 t ht]; rfl
    | succ i ih =>
      intro t' ht' s
      obtain ⟨o, ho⟩ := some_of_lt (l := ops.toList) (i := i) (by have := lt_of_some ht'; omega)
      obtain ⟨t, hA, hB, fr', a1, a2, a3, a4, a5, a6⟩ := f6 i o ho
      rw [a5 t' ht']
      have ho' : ops[i]? = some o := by simpa using ho
      simp only [cur, ho', Option.bind_some, a1, Option.map_some, Option.getD_some, true_and]
      have hput := a4.put
      cases hd : o.dst with
      | none => rw [hd] at hput; simp [putO] at hput; subst hput; simp [ih t a1 s]
      | some d =>
        rw [hd] at hput
        simp only [putO] at hput
        split at hput
        · cases hput
          rw [get_put, ih t a1 s]; simp
        · cases hput
  have frEnd : ∀ s, get f s = cur ops fr0 ts (fun _ => true) s ops.size := by
    intro s
    rcases Nat.eq_zero_or_pos ops.size with hz | hp
    · rw [hz, f4 (by rw [← hlen] at hz; exact List.length_eq_zero_iff.1 hz)]; rfl
    · obtain ⟨i, hi⟩ : ∃ i, ops.size = i + 1 := ⟨ops.size - 1, by omega⟩
      obtain ⟨o, ho⟩ := some_of_lt (l := ops.toList) (i := i) (by omega)
      obtain ⟨t, hA, hB, fr', a1, a2, a3, a4, a5, a6⟩ := f6 i o ho
      rw [a6 (by omega), hi]
      have ho' : ops[i]? = some o := by simpa using ho
      simp only [cur, ho', Option.bind_some, a1, Option.map_some, Option.getD_some, true_and]
      have hput := a4.put
      cases hd : o.dst with
      | none => rw [hd] at hput; simp [putO] at hput; subst hput; simp [frAt i t a1 s]
      | some d =>
        rw [hd] at hput
        simp only [putO] at hput
        split at hput
        · cases hput
          rw [get_put, frAt i t a1 s]; simp
        · cases hput
  -- what is bound to be listed ahead
  have ahead : ∀ (listed : Array Bool), (∀ (j : Nat) (y : Oper), ops[j]? = some y → isL listed j = true → ∀ e ∈ y.after, Region.binds .any e = true → isL listed e.on = true) →
      ∀ (n j : Nat), j ≤ n → ∀ (y : Oper), ops[j]? = some y → (∀ e ∈ y.after, Region.binds .any e = true → isL listed e.on = true) → ∀ i, ((befs ops.toList []).getD j 0).testBit i = true → isL listed i = true := by
    intro listed hdown n
    induction n with
    | zero =>
      intro j hj y hy hpre i hi
      have hj0 : j = 0 := by omega
      obtain ⟨b1, b2, b3⟩ := befs_get ops.toList []
      have := b3 j y (getl hy)
      simp only [List.length_nil, Nat.zero_add] at this
      rw [List.getD_eq_getElem?_getD, this] at hi
      refine befOf_sub _ (isL listed) _ (fun e he hb => ?_) i hi
      have := (tie j y hy).2 e (by simpa using he) hb
      omega
    | succ n ih =>
      intro j hj y hy hpre i hi
      obtain ⟨b1, b2, b3⟩ := befs_get ops.toList []
      have := b3 j y (getl hy)
      simp only [List.length_nil, Nat.zero_add] at this
      rw [List.getD_eq_getElem?_getD, this] at hi
      refine befOf_sub _ (isL listed) _ (fun e he hb => ?_) i hi
      have he' : e ∈ y.after := by simpa using he
      have hlt := (tie j y hy).2 e he' hb
      refine ⟨hpre e he' hb, fun i' hi' => ?_⟩
      have hjs := lt_of_some (getl hy)
      obtain ⟨z, hz⟩ := some_of_lt (l := ops.toList) (i := e.on) (by omega)
      have hz' : ops[e.on]? = some z := by simpa using hz
      refine ih e.on (by omega) z hz' (hdown e.on z hz' (hpre e he' hb)) i' ?_
      rw [List.getD_eq_getElem?_getD, List.getElem?_take, if_pos hlt] at hi'
      rw [List.getD_eq_getElem?_getD]; exact hi'
  have befLt : ∀ (j : Nat) (y : Oper), ops[j]? = some y → ∀ i, ((befs ops.toList []).getD j 0).testBit i = true → i < j := by
    intro j
    induction j using Nat.strongRecOn with
    | _ j ih =>
      intro y hy i hi
      obtain ⟨b1, b2, b3⟩ := befs_get ops.toList []
      have := b3 j y (getl hy)
      simp only [List.length_nil, Nat.zero_add] at this
      rw [List.getD_eq_getElem?_getD, this] at hi
      have := befOf_sub _ (fun i => decide (i < j)) _ (fun e he hb => ?_) i hi
      · exact of_decide_eq_true this
      · have he' : e ∈ y.after := by simpa using he
        have hlt := (tie j y hy).2 e he' hb
        refine ⟨decide_eq_true hlt, fun i' hi' => ?_⟩
        have hjs := lt_of_some (getl hy)
        obtain ⟨z, hz⟩ := some_of_lt (l := ops.toList) (i := e.on) (by omega)
        have hz' : ops[e.on]? = some z := by simpa using hz
        rw [List.getD_eq_getElem?_getD, List.getElem?_take, if_pos hlt] at hi'
        have := ih e.on hlt z hz' i' (by rw [List.getD_eq_getElem?_getD]; exact hi')
        exact decide_eq_true (by omega)
  intro fuel
  induction fuel with
  | zero =>
    intro listed a w I hun
    have hall := un_zero hun
    refine ⟨?_, ?_⟩
    · rw [List.eq_nil_iff_forall_not_mem]
      intro j hj
      obtain ⟨h1, o, ho, _⟩ := mem_ready.1 hj
      have hj' : j < ops.size := by have := lt_of_some (getl ho); omega
      have := hall j hj'
      unfold isL at this
      rw [Array.getD_eq_getD_getElem?] at h1 this
      have hsz : j < listed.size := by rw [I.size]; exact hj'
      rw [Array.getElem?_eq_getElem hsz] at h1 this
      simp at h1 this; rw [h1] at this; cases this
    · refine k a w ?_
      obtain ⟨ρ, hm, s1, s2, s3, s4, s5⟩ := I.st
      have hcnt : cntF P (isL listed) 0 ops.toList = cntF P (fun _ => true) 0 ops.toList := cntF_congr _ _ fun k y hy _ => by
        rw [Nat.zero_add]; exact hall k (by have := lt_of_some hy; omega)
      rw [hcnt] at s2
      have : hm = hE := by
        rw [List.getLast?_eq_getElem?, f2, Nat.add_sub_cancel] at hlast
        rw [hlast] at s2; cases s2; rfl
      subst this
      refine ⟨ρ, s1, s3, ⟨I.tsize, fun t v hv => ?_, I.defers⟩, s4⟩
      rw [frEnd] at hv
      refine s5 t v ?_
      rw [← hv]
      exact cur_congr _ fun j hj _ => hall j hj
  | succ fuel ih =>
    intro listed a w I hun
    have hlt : ∀ {i : Nat} {o : Oper}, ops[i]? = some o → i < ops.size := fun h => by have := lt_of_some (getl h); omega
    refine ⟨fun hr => ?_, fun i hi => ?_⟩
    · -- nothing is ready: all are listed
      exfalso
      have hall : ∀ n j, j ≤ n → j < ops.size → isL listed j = true := by
        intro n
        induction n with
        | zero =>
          intro j hj hjs
          cases hl : isL listed j with
          | true => rfl
          | false =>
            obtain ⟨y, hy⟩ := some_of_lt (l := ops.toList) (i := j) (by omega)
            have hy' : ops[j]? = some y := by simpa using hy
            have : j ∈ Region.ready .any ops listed := mem_ready.2 ⟨by
              unfold isL at hl
              rw [Array.getD_eq_getD_getElem?, Array.getElem?_eq_getElem (by rw [I.size]; exact hjs)] at hl ⊢
              simpa using hl, y, hy', fun e he hb => by have := (tie j y hy').2 e he hb; omega⟩
            rw [hr] at this; cases this
        | succ n ihn =>
          intro j hj hjs
          cases hl : isL listed j with
          | true => rfl
          | false =>
            obtain ⟨y, hy⟩ := some_of_lt (l := ops.toList) (i := j) (by omega)
            have hy' : ops[j]? = some y := by simpa using hy
            have : j ∈ Region.ready .any ops listed := mem_ready.2 ⟨by
              unfold isL at hl
              rw [Array.getD_eq_getD_getElem?, Array.getElem?_eq_getElem (by rw [I.size]; exact hjs)] at hl ⊢
              simpa using hl, y, hy', fun e he hb => by have := (tie j y hy').2 e he hb; exact ihn e.on (by omega) (by omega)⟩
            rw [hr] at this; cases this
      have : un (isL listed) ops.size = 0 := by
        have hz : ∀ n, n ≤ ops.size → un (isL listed) n = 0 := by
          intro n
          induction n with
          | zero => intro _; rfl
          | succ n ihn => intro hn; simp only [un]; rw [ihn (by omega), hall n n (Nat.le_refl _) (by omega)]; rfl
        exact hz _ (Nat.le_refl _)
      omega
    · obtain ⟨hun1, o, ho, hpre⟩ := mem_ready.1 hi
      have his := hlt ho
      have hunl : isL listed i = false := by
        unfold isL
        rw [Array.getD_eq_getD_getElem?, Array.getElem?_eq_getElem (by rw [I.size]; exact his)] at hun1 ⊢
        simpa using hun1
      obtain ⟨t, hA, hB, fr', a1, a2, a3, a4, a5, a6⟩ := f6 i o (getl ho)
      obtain ⟨ρ, hm, s1, s2, s3, s4, s5⟩ := I.st
      have hbef : ∀ j, ((befs ops.toList []).getD i 0).testBit j = true → isL listed j = true := ahead listed I.down i i (Nat.le_refl _) o ho hpre
      have hbef2 : ∀ j y, ops[j]? = some y → ((befs ops.toList []).getD j 0).testBit i = true → isL listed j = false := fun j y hy hb => by
        cases hl : isL listed j with
        | false => rfl
        | true =>
          have := ahead listed I.down j j (Nat.le_refl _) y hy (I.down j y hy hl) i hb
          rw [hunl] at this; cases this
      -- those that write what this one looks at, or what it writes
      have hdep : ∀ (s : Nat), (s ∈ o.looksAt ops ∨ o.dst = some s) → ∀ j, j ≠ i → (ops[j]?).bind (·.dst) = some s → (j < i → isL listed j = true) ∧ (i < j → isL listed j = false) := by
        intro s hs' j hji hd
        simp only [Option.bind_eq_some_iff] at hd
        obtain ⟨y, hy, hd⟩ := hd
        refine ⟨fun hlt => ?_, fun hgt => ?_⟩
        · rcases (tie i o ho).1 j y hlt hy with hb | hp
          · exact hbef j hb
          · obtain ⟨p1, p2, _⟩ := pair_dst hp
            rcases hs' with hs' | hs'
            · exact absurd hs' (p1 s hd).1
            · exact absurd hs' (p1 s hd).2
        · rcases (tie j y hy).1 i o hgt ho with hb | hp
          · exact hbef2 j y hy hb
          · obtain ⟨p1, p2, _⟩ := pair_dst hp
            rcases hs' with hs' | hs'
            · exact absurd hs' (p2 s hd)
            · exact absurd hd (p1 s hs').2
      have hcurL : ∀ s, s ∈ o.looksAt ops → cur ops fr0 ts (isL listed) s ops.size = get t.fr s := by
        intro s hsl
        rw [cur_skip (i := i) ops.size (by omega) fun j h1 h2 hl hd => by
          by_cases e : j = i
          · subst e; rw [hunl] at hl; cases hl
          · have := (hdep s (.inl hsl) j e hd).2 (by omega); rw [hl] at this; cases this]
        rw [frAt i t a1 s]
        exact cur_congr _ fun j hj hd => (hdep s (.inl hsl) j (by omega) hd).1 hj
      have hFR : FR ρ nt D (restr (o.looksAt ops) t.fr) a := by
        refine ⟨I.tsize, fun s v hv => ?_, I.defers⟩
        rw [get_restr] at hv
        split at hv
        · rename_i hsl; exact s5 s v (by rw [hcurL s hsl]; exact hv)
        · cases hv
      have hres : ∀ s, s ∈ o.looksAt ops → get (restr (o.looksAt ops) t.fr) s = get t.fr s := fun s hsl => by rw [get_restr, if_pos hsl]
      have hwant : wantedB ops o.guard (restr (o.looksAt ops) t.fr) = some t.want := by
        rw [← a4.want]
        unfold wantedB
        cases hg : o.guard with
        | none => rfl
        | some g =>
          obtain ⟨j, want⟩ := g
          simp only
          cases hd : (ops[j]?).bind (·.dst) with
          | none => rfl
          | some d =>
            simp only
            rw [hres d (by unfold Oper.looksAt; rw [hg]; simp [hd])]
      have hcong : ∀ (call : CallT) (hh : H), evOp P call o.op (restr (o.looksAt ops) t.fr) hh = evOp P call o.op t.fr hh := fun call hh =>
        evOp_congr (fun s hs' => hres s (by unfold Oper.looksAt; exact List.mem_append.2 (.inl (List.mem_filterMap.2 ⟨_, hs', rfl⟩)))) hh
      -- what is loud
      have hloudc : loud P o.op = true → cntF P (isL listed) 0 ops.toList = cntF P (fun j => decide (j < i)) 0 ops.toList := fun hl => cntF_congr _ _ fun j y hy hly => by
        rw [Nat.zero_add]
        have hy' : ops[j]? = some y := by simpa using hy
        rcases Nat.lt_trichotomy j i with h1 | h1 | h1
        · rcases (tie i o ho).1 j y h1 hy' with hb | hp
          · rw [hbef j hb]; simp [h1]
          · exact absurd ⟨hly, hl⟩ (pair_dst hp).2.2
        · subst h1; rw [hunl]; simp
        · rcases (tie j y hy').1 i o h1 ho with hb | hp
          · rw [hbef2 j y hy' hb]; simp; omega
          · exact absurd ⟨hl, hly⟩ (pair_dst hp).2.2
      have hsL : listed.size = ops.size := I.size
      have hset := isL_set (listed := listed) (i := i) (by omega)
      have hcnt' : cntF P (isL (listed.setIfInBounds i true)) 0 ops.toList = cntF P (isL listed) 0 ops.toList + if loud P o.op then 1 else 0 :=
        cntF_add i ops.toList 0 o (getl ho) (by rw [Nat.zero_add]; exact hunl) (by rw [Nat.zero_add, hset]; simp) fun j hj => by rw [Nat.zero_add, hset]; simp [hj]
      have hun' : un (isL (listed.setIfInBounds i true)) ops.size = fuel := by
        have := un_add (L := isL listed) (L' := isL (listed.setIfInBounds i true)) his hunl (by rw [hset]; simp) (fun j hj => by rw [hset]; simp [hj])
        omega
      have hdown' : ∀ (j : Nat) (y : Oper), ops[j]? = some y → isL (listed.setIfInBounds i true) j = true → ∀ e ∈ y.after, Region.binds .any e = true → isL (listed.setIfInBounds i true) e.on = true := by
        intro j y hy hl e he hb
        rw [hset] at hl ⊢
        rw [Bool.or_eq_true] at hl ⊢
        rcases hl with hl | hl
        · have : j = i := by simpa using hl
          subst this; rw [ho] at hy; cases hy
          exact .inr (hpre e he hb)
        · exact .inr (I.down j y hy hl e he hb)
      -- what stands behind it
      have next : ∀ (v' : Value) (w' : World) (ρ' : Rho) (hn : H), Le ρ ρ' → VR ρ' t.val v' → Rel n0 ρ' hn w' → Below n0 w w' → hs[cntF P (isL listed) 0 ops.toList + if loud P o.op then 1 else 0]? = some hn →
          wpAnyIn (Wf rr) 0 P .any ops Q fuel (listed.setIfInBounds i true) (a.put o.dst v') w' := by
        intro v' w' ρ' hn b1 b2 b3 b4 b5
        refine ih _ _ _ ⟨by simp [I.size], hdown', ?_, ?_, ρ', hn, s1.trans b1, by rw [hcnt']; exact b5, b3, s4.trans b4, fun s v hv => ?_⟩ hun'
        · cases hd : o.dst <;> simp [Act.put, I.tsize]
        · cases hd : o.dst <;> simp [Act.put, I.defers]
        · by_cases hds : o.dst = some s
          · -- its own
            have hc : cur ops fr0 ts (isL (listed.setIfInBounds i true)) s ops.size = some t.val := by
              rw [cur_skip (i := i + 1) ops.size (by omega) fun j h1 h2 hl hd => by
                have hji : j ≠ i := by omega
                rw [hset] at hl
                have := (hdep s (.inr hds) j hji hd).2 (by omega)
                rw [this] at hl; simp [hji] at hl]
              simp only [cur, ho, Option.bind_some, a1, Option.map_some, Option.getD_some]
              rw [if_pos ⟨by rw [hset]; simp, hds⟩]
            rw [hc] at hv; cases hv
            have hput := a4.put
            rw [hds] at hput
            simp only [putO] at hput
            split at hput
            · rename_i hnt
              exact ⟨v', by rw [hds]; simp [Act.put, I.tsize, hnt], b2⟩
            · cases hput
          · have hc : cur ops fr0 ts (isL (listed.setIfInBounds i true)) s ops.size = cur ops fr0 ts (isL listed) s ops.size := cur_congr _ fun j hj hd => by
              rw [hset]
              by_cases e : j = i
              · subst e; rw [ho] at hd; exact absurd hd hds
              · simp [e]
            rw [hc] at hv
            obtain ⟨u, u1, u2⟩ := s5 s v hv
            refine ⟨u, ?_, u2.mono b1⟩
            cases hd : o.dst with
            | none => simpa [Act.put, hd] using u1
            | some d =>
              simp only [Act.put]
              rw [Array.getElem?_setIfInBounds_ne (fun e => hds (by rw [hd, e]))]; exact u1
      unfold wpOpIn
      rw [ho]
      simp only
      rw [wantedB_sound hFR hwant]
      cases hw : t.want with
      | true =>
        simp only [if_true]
        cases hl : loud P o.op with
        | true =>
          rw [hloudc hl] at s2
          rw [a2] at s2; cases s2
          obtain ⟨call, hcall, hy⟩ := a4.yes hw
          refine evOp_sound hcall s3 hFR o (by rw [hcong]; exact hy) fun v' w' hA' => ?_
          obtain ⟨ρ', b1, b2, b3, b4⟩ := hA'
          refine next v' w' ρ' hB b1 b2 b3 b4 ?_
          rw [hloudc hl, hl]
          have := cntF_lt_succ (P := P) ops.toList i o (getl ho)
          rw [hl] at this; rw [← this]; exact a3
        | false =>
          have hr := hreads i o t (getl ho) a1
          have go : ∀ h2, OpR P n0 o.op t.fr hm t.val h2 → o.wpIn (Wf rr) 0 P a w (wpAnyIn (Wf rr) 0 P .any ops Q fuel (listed.setIfInBounds i true)) Q := fun h2 he => by
            obtain ⟨call, hcall, he⟩ := he
            have hq := quiet_heap hl he
            subst hq
            refine evOp_sound hcall s3 hFR o (by rw [hcong]; exact he) fun v' w' hA' => ?_
            obtain ⟨ρ', b1, b2, b3, b4⟩ := hA'
            refine next v' w' ρ' _ b1 b2 b3 b4 ?_
            rw [hl]; exact s2
          have hlo : cntF P (fun k => ((befs ops.toList []).getD i 0).testBit k) 0 ops.toList ≤ cntF P (isL listed) 0 ops.toList := cntF_le _ _ fun j y _ _ hb => by rw [Nat.zero_add] at hb ⊢; exact hbef j hb
          have hhi : cntF P (isL listed) 0 ops.toList ≤ cntF P (fun k => !((befs ops.toList []).getD k 0).testBit i) 0 ops.toList := cntF_le _ _ fun j y hy _ hl' => by
            rw [Nat.zero_add] at hl' ⊢
            cases hb : ((befs ops.toList []).getD j 0).testBit i with
            | false => rfl
            | true => have := hbef2 j y (by simpa using hy) hb; rw [hl'] at this; cases this
          rcases hr with hr | hr | hr | hr | hr
          · rw [hl] at hr; cases hr
          · rw [hw] at hr; cases hr
          · obtain ⟨call, hcall, hy⟩ := a4.yes hw
            exact go hm ⟨call, hcall, pure_heap hr hy hm⟩
          · rw [loCnt_eq, hiCnt_eq] at hr
            have htx : cntF P (fun j => decide (j < i)) 0 ops.toList = cntF P (isL listed) 0 ops.toList := by
              have h1 : cntF P (fun k => ((befs ops.toList []).getD i 0).testBit k) 0 ops.toList ≤ cntF P (fun j => decide (j < i)) 0 ops.toList := cntF_le _ _ fun j y hy _ hb => by
                rw [Nat.zero_add] at hb ⊢
                exact decide_eq_true (befLt i o ho j hb)
              have h2 : cntF P (fun j => decide (j < i)) 0 ops.toList ≤ cntF P (fun k => !((befs ops.toList []).getD k 0).testBit i) 0 ops.toList := cntF_le _ _ fun j y hy _ hb => by
                rw [Nat.zero_add] at hb ⊢
                have hji : j < i := of_decide_eq_true hb
                cases hb2 : ((befs ops.toList []).getD j 0).testBit i with
                | false => rfl
                | true => have := befLt j y (by simpa using hy) i hb2; omega
              omega
            rw [htx, s2] at a2
            cases a2
            exact go _ (a4.yes hw)
          · rw [loCnt_eq, hiCnt_eq] at hr
            obtain ⟨h2, he⟩ := hr (cntF P (isL listed) 0 ops.toList - cntF P (fun k => ((befs ops.toList []).getD i 0).testBit k) 0 ops.toList) hm (by
              rw [List.getElem?_take, if_pos (by omega), List.getElem?_drop, Nat.add_sub_cancel' hlo]; exact s2)
            exact go h2 he
      | false =>
        simp only [Bool.false_eq_true, if_false]
        refine ⟨fun _ _ => trivial, ?_⟩
        obtain ⟨n1, n2⟩ := a4.no hw
        refine next undef w ρ hm (Le.refl _) (by rw [n1]; exact .undef) s3 (Below.refl _ _) ?_
        cases hl : loud P o.op with
        | false => exact s2
        | true =>
          have hc := hloudc hl
          rw [hc] at s2 ⊢
          rw [a2] at s2; cases s2
          have := cntF_lt_succ (P := P) ops.toList i o (getl ho)
          rw [hl] at this; rw [← this, a3, n2]
end Go.Ev
