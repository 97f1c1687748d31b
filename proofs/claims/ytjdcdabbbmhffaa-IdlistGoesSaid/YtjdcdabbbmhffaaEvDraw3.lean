/- A part of the proof that what the evaluator of YtjdcdabbbmhffaaEvCore answers, the call answers in the model. No condition. -/
import Derived.Test.YtjdcdabbbmhffaaEvDraw2
set_option linter.unusedVariables false
set_option linter.unusedSimpArgs false
namespace Go.Ev
open Go.RowKit (Below)
variable {P : Program} {n0 : Nat}

/-- the value that a temporary holds once those of L are done -/
def cur (ops : Array Oper) (fr0 : Fr) (ts : List Tr) (L : Nat → Bool) (t : Nat) : Nat → Option Value
  | 0 => get fr0 t
  | n + 1 => if L n = true ∧ (ops[n]?).bind (·.dst) = some t then some ((ts[n]?).map (·.val) |>.getD undef) else cur ops fr0 ts L t n
theorem cur_skip {ops : Array Oper} {fr0 : Fr} {ts : List Tr} {L : Nat → Bool} {t i : Nat} : ∀ (n : Nat), i ≤ n → (∀ j, i ≤ j → j < n → L j = true → (ops[j]?).bind (·.dst) ≠ some t) → cur ops fr0 ts L t n = cur ops fr0 ts L t i
  | 0, hi, _ => by have : i = 0 := by omega
                   rw [this]
  | n + 1, hi, hh => by
    by_cases e : i = n + 1
    · rw [e]
    · simp only [cur]
      rw [if_neg (fun k => hh n (by omega) (by omega) k.1 k.2), cur_skip n (by omega) fun j a b => hh j a (by omega)]
theorem cur_congr {ops : Array Oper} {fr0 : Fr} {ts : List Tr} {L L' : Nat → Bool} {t : Nat} : ∀ (n : Nat), (∀ j, j < n → (ops[j]?).bind (·.dst) = some t → L j = L' j) → cur ops fr0 ts L t n = cur ops fr0 ts L' t n
  | 0, _ => rfl
  | n + 1, hh => by
    simp only [cur]
    rw [cur_congr n fun j hj => hh j (by omega)]
    by_cases e : (ops[n]?).bind (·.dst) = some t
    · rw [hh n (by omega) e]
    · rw [if_neg (fun k => e k.2), if_neg (fun k => e k.2)]

def un (L : Nat → Bool) : Nat → Nat
  | 0 => 0
  | n + 1 => un L n + if L n then 0 else 1
theorem un_zero {L : Nat → Bool} : ∀ {n : Nat}, un L n = 0 → ∀ j, j < n → L j = true
  | 0, _, j, hj => by omega
  | n + 1, h, j, hj => by
    simp only [un] at h
    by_cases e : j = n
    · subst e; cases hl : L j with
      | true => rfl
      | false => rw [hl] at h; simp at h
    · exact un_zero (n := n) (by omega) j (by omega)
theorem un_congr {L L' : Nat → Bool} : ∀ {n : Nat}, (∀ j, j < n → L j = L' j) → un L n = un L' n
  | 0, _ => rfl
  | n + 1, h => by simp only [un]; rw [un_congr fun j hj => h j (by omega), h n (by omega)]
theorem un_add {L L' : Nat → Bool} {i : Nat} : ∀ {n : Nat}, i < n → L i = false → L' i = true → (∀ j, j ≠ i → L' j = L j) → un L' n + 1 = un L n
  | 0, h, _, _, _ => by omega
  | n + 1, h, a, b, c => by
    simp only [un]
    by_cases e : i = n
    · subst e
      rw [a, b, un_congr (L := L') (L' := L) fun j hj => c j (by omega)]
      simp
    · have := un_add (n := n) (by omega) a b c
      rw [c n (by omega)]; omega

theorem all_pairs {ops : Array Oper} {y : Oper} {by' : Nat} : ∀ (l : List Oper) (i : Nat), pairsOk P ops y by' i l = true → ∀ k x, l[k]? = some x → by'.testBit (i + k) = true ∨ pairOk P ops x y = true
  | [], _, _, k, x, e => by simp at e
  | z :: r, i, h, k, x, e => by
    simp only [pairsOk, Bool.and_eq_true, Bool.or_eq_true] at h
    cases k with
    | zero => simp at e; subst e; exact h.1
    | succ k => have := all_pairs r (i + 1) h.2 k x (by simpa using e); rwa [show i + (k + 1) = i + 1 + k from by omega]
theorem tie_get {ops : Array Oper} {bs : List Nat} : ∀ (l : List Oper) (j : Nat), tieOk P ops j l bs = true → ∀ k y, l[k]? = some y →
    (∀ i x, i < j + k → ops[i]? = some x → (bs.getD (j + k) 0).testBit i = true ∨ pairOk P ops x y = true) ∧ ∀ e ∈ y.after, Region.binds .any e = true → e.on < j + k
  | [], _, _, k, y, e => by simp at e
  | z :: r, j, h, k, y, e => by
    simp only [tieOk, Bool.and_eq_true] at h
    obtain ⟨⟨h1, h2⟩, h3⟩ := h
    cases k with
    | zero =>
      simp at e; subst e
      refine ⟨fun i x hi hx => ?_, fun e he hb => ?_⟩
      · have := all_pairs _ 0 h1 i x (by rw [List.getElem?_take, if_pos (by omega)]; simpa using hx)
        simpa using this
      · have := (Array.all_eq_true_iff_forall_mem.1 h2) e he
        simp [hb] at this; simpa using this
    | succ k =>
      have := tie_get r (j + 1) h3 k y (by simpa using e)
      rwa [show j + (k + 1) = j + 1 + k from by omega]
theorem reads_get {call : CallT} {l : List Oper} {bs : List Nat} {hs : List H} : ∀ (m : List Oper) (ts : List Tr) (i : Nat), readsOk P call l bs hs i m ts = true → ∀ k o t, m[k]? = some o → ts[k]? = some t →
    loud P o.op = true ∨ t.want = false ∨ pureO P o.op = true ∨ loCnt P (bs.getD (i + k) 0) 0 l = hiCnt P bs (i + k) 0 l ∨ sameOn P call o t ((hs.drop (loCnt P (bs.getD (i + k) 0) 0 l)).take (hiCnt P bs (i + k) 0 l - loCnt P (bs.getD (i + k) 0) 0 l + 1)) = true
  | [], _, _, _, k, o, t, e, _ => by simp at e
  | z :: r, [], i, h, k, o, t, _, e => by simp at e
  | z :: r, u :: us, i, h, k, o, t, e, et => by
    simp only [readsOk, Bool.and_eq_true, Bool.or_eq_true, Bool.not_eq_true', beq_iff_eq] at h
    obtain ⟨h1, h2⟩ := h
    cases k with
    | zero =>
      simp at e et; subst e; subst et
      rcases h1 with ((h1 | h1) | h1) | (h1 | h1)
      · exact .inl h1
      · exact .inr (.inl h1)
      · exact .inr (.inr (.inl h1))
      · exact .inr (.inr (.inr (.inl h1)))
      · exact .inr (.inr (.inr (.inr h1)))
    | succ k =>
      have := reads_get r us (i + 1) h2 k o t (by simpa using e) (by simpa using et)
      rwa [show i + (k + 1) = i + 1 + k from by omega]
theorem same_get {call : CallT} {o : Oper} {t : Tr} : ∀ (l : List H), sameOn P call o t l = true → ∀ (k : Nat) (h : H), l[k]? = some h → ∃ h', evOp P call o.op t.fr h = some (t.val, h')
  | [], _, k, h, e => by simp at e
  | x :: r, hh, k, h, e => by
    simp only [sameOn, Bool.and_eq_true] at hh
    cases k with
    | zero =>
      simp at e; subst e
      obtain ⟨h1, _⟩ := hh
      split at h1
      · rename_i v h' he
        rw [he, eqV_eq h1]; exact ⟨h', rfl⟩
      · cases h1
    | succ k => exact same_get r hh.2 k h (by simpa using e)
theorem loCnt_eq (b : Nat) : ∀ (l : List Oper) (j : Nat), loCnt P b j l = cntF P (fun k => b.testBit k) j l
  | [], _ => rfl
  | y :: r, j => by simp only [loCnt, cntF, loCnt_eq b r]
theorem hiCnt_eq (bs : List Nat) (i : Nat) : ∀ (l : List Oper) (j : Nat), hiCnt P bs i j l = cntF P (fun k => !(bs.getD k 0).testBit i) j l
  | [], _ => rfl
  | y :: r, j => by simp only [hiCnt, cntF, hiCnt_eq bs i r]
theorem pair_dst {ops : Array Oper} {x y : Oper} (h : pairOk P ops x y = true) : (∀ d, x.dst = some d → d ∉ y.looksAt ops ∧ y.dst ≠ some d) ∧ (∀ d, y.dst = some d → d ∉ x.looksAt ops) ∧ ¬ (loud P x.op = true ∧ loud P y.op = true) := by
  simp only [pairOk, Bool.and_eq_true] at h
  obtain ⟨⟨h1, h2⟩, h3⟩ := h
  refine ⟨fun d hd => ?_, fun d hd => ?_, fun ⟨a, b⟩ => by rw [a, b] at h3; simp at h3⟩
  · rw [hd] at h1; simp at h1; exact ⟨h1.1, fun e => h1.2 e⟩
  · rw [hd] at h2; simpa using h2
end Go.Ev
