/- A part of the proof that what the evaluator of YtjdcdabbbmhffaaEvCore answers, the call answers in the model. No condition. -/
import Derived.Test.YtjdcdabbbmhffaaEvCore
import Derived.Below
import Derived.Tactics
import Derived.Laws.Rows
import Derived.Laws.Cells
set_option linter.unusedVariables false
namespace Go.Ev
open Go.RowKit (Below)

structure Pl where
  b : Nat   -- the block
  s : Nat   -- where the abstract one begins in it
  n : Nat   -- how many cells it has
  e : Nat   -- cells an element
abbrev Rho := List Pl
def Le (ρ ρ' : Rho) : Prop := ∀ (i : Nat) (p : Pl), ρ[i]? = some p → ρ'[i]? = some p
theorem Le.refl (ρ : Rho) : Le ρ ρ := fun _ _ h => h
theorem Le.trans {a b c : Rho} (h : Le a b) (k : Le b c) : Le a c := fun i p e => k i p (h i p e)
theorem Le.app (ρ l : Rho) : Le ρ (ρ ++ l) := fun i p e => by
  rw [List.getElem?_append_left (by rcases Nat.lt_or_ge i ρ.length with h | h; exact h; rw [List.getElem?_eq_none h] at e; cases e)]; exact e

inductive VR (ρ : Rho) : Value → Value → Prop
  | lit {v : Value} : isLit v = true → VR ρ v v
  | ptr {b o : Nat} {p : Pl} : ρ[b]? = some p → VR ρ (.pointer (some ⟨b, o, none⟩)) (.pointer (some ⟨p.b, p.s + o, none⟩))
  | slice {b o l c c' : Nat} {p : Pl} : ρ[b]? = some p → c ≤ c' → p.s + o + c' * p.e ≤ p.n → VR ρ (.slice (some ⟨b, o, none⟩) l c) (.slice (some ⟨p.b, p.s + o, none⟩) l c')
  | vague {b o c' : Nat} {a' : Addr} : VR ρ (.slice (some ⟨b, o, some 0⟩) 0 0) (.slice (some a') 0 c')
  | map {r : Nat} {p : Pl} : ρ[r]? = some p → VR ρ (.map (some r)) (.map (some p.b))
  | yld {l : Nat} {p : Pl} : ρ[l]? = some p → VR ρ (.func (.yield l) #[] #[]) (.func (.yield p.b) #[] #[])
  | func {fn : Fn} {xs ys xs' ys' : Array Value} : isYield fn = false → xs.size = xs'.size → ys.size = ys'.size →
      (∀ (i : Nat) (v v' : Value), xs[i]? = some v → xs'[i]? = some v' → VR ρ v v') → (∀ (i : Nat) (v v' : Value), ys[i]? = some v → ys'[i]? = some v' → VR ρ v v') →
      VR ρ (.func fn xs ys) (.func fn xs' ys')
  | iface {t : TypeId} {v v' : Value} : VR ρ v v' → VR ρ (.iface t v) (.iface t v')
  | agg {xs xs' : Array Value} : xs.size = xs'.size → (∀ (i : Nat) (v v' : Value), xs[i]? = some v → xs'[i]? = some v' → VR ρ v v') → VR ρ (.agg xs) (.agg xs')
  | tuple {xs xs' : Array Value} : xs.size = xs'.size → (∀ (i : Nat) (v v' : Value), xs[i]? = some v → xs'[i]? = some v' → VR ρ v v') → VR ρ (.tuple xs) (.tuple xs')

theorem VR.mono {ρ ρ' : Rho} (h : Le ρ ρ') {v v' : Value} (k : VR ρ v v') : VR ρ' v v' := by
  induction k with
  | lit h => exact .lit h
  | ptr e => exact .ptr (h _ _ e)
  | slice e c d => exact .slice (h _ _ e) c d
  | vague => exact .vague
  | map e => exact .map (h _ _ e)
  | yld e => exact .yld (h _ _ e)
  | func c a b _ _ i1 i2 => exact .func c a b i1 i2
  | iface _ i => exact .iface i
  | agg a _ i => exact .agg a i
  | tuple a _ i => exact .tuple a i

def VRs (ρ : Rho) : List Value → List Value → Prop
  | [], [] => True
  | x :: xs, y :: ys => VR ρ x y ∧ VRs ρ xs ys
  | _, _ => False
theorem VRs.mono {ρ ρ' : Rho} (h : Le ρ ρ') : ∀ {l l' : List Value}, VRs ρ l l' → VRs ρ' l l'
  | [], [], _ => trivial
  | _ :: _, _ :: _, k => ⟨k.1.mono h, k.2.mono h⟩
theorem VRs.length {ρ : Rho} : ∀ {l l' : List Value}, VRs ρ l l' → l.length = l'.length
  | [], [], _ => rfl
  | _ :: _, _ :: _, k => by simp [k.2.length]
theorem VRs.get {ρ : Rho} : ∀ {l l' : List Value} (_ : VRs ρ l l') (i : Nat) (v : Value), l[i]? = some v → ∃ v', l'[i]? = some v' ∧ VR ρ v v'
  | _ :: _, y :: _, k, 0, v, e => by simp at e; subst e; exact ⟨y, rfl, k.1⟩
  | _ :: _, _ :: _, k, i + 1, v, e => by simp at e; simpa using k.2.get i v e
theorem VRs.of_get {ρ : Rho} : ∀ {l l' : List Value}, l.length = l'.length → (∀ (i : Nat) (v v' : Value), l[i]? = some v → l'[i]? = some v' → VR ρ v v') → VRs ρ l l'
  | [], [], _, _ => trivial
  | x :: xs, y :: ys, e, h => ⟨h 0 x y rfl rfl, VRs.of_get (by simpa using e) fun i v v' a b => h (i + 1) v v' (by simpa using a) (by simpa using b)⟩
theorem VRs.append {ρ : Rho} : ∀ {a a' b b' : List Value}, VRs ρ a a' → VRs ρ b b' → VRs ρ (a ++ b) (a' ++ b')
  | [], [], _, _, _, k => k
  | _ :: _, _ :: _, _, _, h, k => ⟨h.1, h.2.append k⟩
theorem VRs.take {ρ : Rho} : ∀ {a a' : List Value} (n : Nat), VRs ρ a a' → VRs ρ (a.take n) (a'.take n)
  | [], [], n, _ => by simp [VRs]
  | _ :: _, _ :: _, 0, _ => by simp [VRs]
  | _ :: _, _ :: _, n + 1, h => ⟨h.1, h.2.take n⟩
theorem VRs.drop {ρ : Rho} : ∀ {a a' : List Value} (n : Nat), VRs ρ a a' → VRs ρ (a.drop n) (a'.drop n)
  | [], [], n, _ => by simp [VRs]
  | _ :: _, _ :: _, 0, h => h
  | _ :: _, _ :: _, n + 1, h => by simpa using h.2.drop n
theorem VRs.refl_lit {ρ : Rho} : ∀ {l : List Value}, (∀ v ∈ l, isLit v = true) → VRs ρ l l
  | [], _ => trivial
  | x :: xs, h => ⟨.lit (h x (by simp)), VRs.refl_lit fun v hv => h v (by simp [hv])⟩
theorem VR.agg_iff {ρ : Rho} {xs : Array Value} {v : Value} : VR ρ (.agg xs) v ↔ ∃ ys, v = .agg ys ∧ VRs ρ xs.toList ys.toList := by
  constructor
  · intro h
    cases h with
    | lit h => simp [isLit] at h
    | agg e f => exact ⟨_, rfl, VRs.of_get (by simpa using e) fun i v v' a b => f i v v' (by simpa using a) (by simpa using b)⟩
  · rintro ⟨ys, rfl, h⟩
    refine .agg (by simpa using h.length) fun i v v' a b => ?_
    obtain ⟨u, hu, r⟩ := h.get i v (by simpa using a)
    rw [Array.getElem?_toList, b] at hu; cases hu; exact r
theorem VR.tuple_iff {ρ : Rho} {xs : Array Value} {v : Value} : VR ρ (.tuple xs) v ↔ ∃ ys, v = .tuple ys ∧ VRs ρ xs.toList ys.toList := by
  constructor
  · intro h
    cases h with
    | lit h => simp [isLit] at h
    | tuple e f => exact ⟨_, rfl, VRs.of_get (by simpa using e) fun i v v' a b => f i v v' (by simpa using a) (by simpa using b)⟩
  · rintro ⟨ys, rfl, h⟩
    refine .tuple (by simpa using h.length) fun i v v' a b => ?_
    obtain ⟨u, hu, r⟩ := h.get i v (by simpa using a)
    rw [Array.getElem?_toList, b] at hu; cases hu; exact r
theorem VR.lit_iff {ρ : Rho} {v v' : Value} (h : isLit v = true) : VR ρ v v' ↔ v' = v :=
  ⟨fun k => by cases k <;> first | rfl | (simp [isLit] at h; done), fun e => by subst e; exact .lit h⟩
theorem VR.cells {ρ : Rho} {v v' : Value} (h : VR ρ v v') : VRs ρ v.cells.toList v'.cells.toList := by
  cases v with
  | agg xs => obtain ⟨ys, rfl, k⟩ := VR.agg_iff.1 h; exact k
  | _ => cases h <;> first
    | (refine ⟨?_, trivial⟩; first | exact .lit (by assumption) | exact .ptr (by assumption) | exact .slice (by assumption) (by assumption) (by assumption) | exact .vague | exact .map (by assumption) | exact .yld (by assumption) | exact .func (by assumption) (by assumption) (by assumption) (by assumption) (by assumption) | exact .iface (by assumption) | exact .tuple (by assumption) (by assumption))
theorem VR.cells_size {ρ : Rho} {v v' : Value} (h : VR ρ v v') : v'.cells.size = v.cells.size := by simpa using h.cells.length.symm
theorem VR.oneC {ρ : Rho} {v v' : Value} (h : VR ρ v v') : oneC v' = oneC v := by cases h <;> rfl
theorem VR.undef {ρ : Rho} : VR ρ undef undef := VR.tuple_iff.2 ⟨#[], rfl, trivial⟩

/-- cells as the abstract block has them -/
def CellsAt (ρ : Rho) (w : World) (p : Pl) (cs : List Value) : Prop :=
  ∀ (j : Nat) (v : Value), cs[j]? = some v → ∃ v', w.cell? ⟨p.b, p.s + j, none⟩ = some v' ∧ VR ρ v v'

/-- an object that is no row of cells -/
inductive OR (ρ : Rho) : Ob → Obj → Prop
  | iter {s : ByteArray} {pos : Nat} : OR ρ (.iter s pos) (.stringIter s pos)
  | dfr : OR ρ .dfr (.deferred (some []))
  | loop {fr : Fr} {nt : Nat} {ps : Array Tmp} {as body : Code} {st : LoopState} {pend : Option Code} {d : Nat} {r : Loop} {p : Pl} : r.state = st → r.pending = pend → r.params = ps → r.assign = as → r.body = body →
      r.tmps.size = nt → (∀ (t : Nat) (v : Value), get fr t = some v → ∃ v', r.tmps[t]? = some v' ∧ VR ρ v v') → ρ[d]? = some p → r.defers = p.b → OR ρ (.loop fr nt ps as body st pend d) (.loop r)
  | mp {es : List (Value × Value × Nat)} {clock : Nat} {es' : Array MapEntry} : es.length = es'.size →
      (∀ (i : Nat) (x : Value × Value × Nat) (y : MapEntry), es[i]? = some x → es'[i]? = some y → isLit x.1 = true ∧ y.key = x.1 ∧ VR ρ x.2.1 y.val ∧ y.born = x.2.2) → OR ρ (.mp es clock) (.map es' clock)
theorem OR.mono {ρ ρ' : Rho} (h : Le ρ ρ') {a : Ob} {b : Obj} (k : OR ρ a b) : OR ρ' a b := by
  cases k with
  | iter => exact .iter
  | dfr => exact .dfr
  | loop a1 a2 a3 a4 a5 a6 a7 a8 a9 => exact .loop a1 a2 a3 a4 a5 a6 (fun t v e => let ⟨v', x, y⟩ := a7 t v e; ⟨v', x, y.mono h⟩) (h _ _ a8) a9
  | mp a1 a2 => exact .mp a1 fun i x y e e' => let ⟨b1, b2, b3, b4⟩ := a2 i x y e e'; ⟨b1, b2, b3.mono h, b4⟩
def notCells : Obj → Bool
  | .cells .. => false
  | _ => true
theorem OR.notCells {ρ : Rho} {a : Ob} {b : Obj} (k : OR ρ a b) : Ev.notCells b = true := by cases k <;> rfl
theorem cell_notCells {w : World} {a : Addr} {o : Obj} (h : w.heap[a.block]? = some o) (hn : notCells o = true) : w.cell? a = none := by
  unfold World.cell?; rw [h]; cases o <;> first | rfl | (cases hn)

structure Rel (n0 : Nat) (ρ : Rho) (h : H) (w : World) : Prop where
  len : ρ.length = h.length
  n0le : n0 ≤ w.heap.size
  lt : ∀ (i : Nat) (p : Pl), ρ[i]? = some p → p.b < w.heap.size
  cells : ∀ (i : Nat) (p : Pl) (own : Bool) (e : Nat) (cs : List Value), ρ[i]? = some p → h[i]? = some (.cells own e cs) → p.e = eS e ∧ CellsAt ρ w p cs
  ty : ∀ (i : Nat) (p : Pl) (own : Bool) (e : Nat) (cs : List Value), ρ[i]? = some p → h[i]? = some (.cells own e cs) → 1024 ≤ e → (p.s = 0 ∧ n0 ≤ p.b) ∧ (eS e = 0 → cs.length = p.n) ∧ ∃ c fr, w.heap[p.b]? = some (.cells c (e / 1024 - 1) fr) ∧ c.size = p.n
  own : ∀ (i : Nat) (p : Pl) (e : Nat) (cs : List Value), ρ[i]? = some p → h[i]? = some (.cells true e cs) → n0 ≤ p.b ∧ p.s + cs.length ≤ p.n ∧
    ∀ j, j < p.n → (∃ u, w.cell? ⟨p.b, j, none⟩ = some u) ∧ w.frozen? ⟨p.b, j, none⟩ = false
  inj : ∀ (i j : Nat) (p q : Pl) (e e' : Nat) (ci cj : List Value) (o : Bool), i ≠ j → ρ[i]? = some p → ρ[j]? = some q → h[i]? = some (.cells true e ci) → h[j]? = some (.cells o e' cj) → p.b ≠ q.b
  old : ∀ (i : Nat) (p : Pl) (e : Nat) (cs : List Value) (s : Nat), ρ[i]? = some p → h[i]? = some (.old e cs s) → p.e = eS e ∧
    ((CellsAt ρ w p cs ∧ ∀ (j : Nat) (q : Pl) (e' : Nat) (cj : List Value), ρ[j]? = some q → h[j]? = some (.cells true e' cj) → q.b ≠ p.b) ∨ ρ[s]? = some p)
  obj : ∀ (i : Nat) (p : Pl) (ob : Ob), ρ[i]? = some p → h[i]? = some ob → isObj ob = true → (n0 ≤ p.b ∧ p.s = 0) ∧ ∃ o, w.heap[p.b]? = some o ∧ OR ρ ob o
  objInj : ∀ (i j : Nat) (p q : Pl) (oi oj : Ob), i ≠ j → ρ[i]? = some p → ρ[j]? = some q → h[i]? = some oi → h[j]? = some oj → isObj oi = true → isObj oj = true → p.b ≠ q.b

theorem sameV_eq {a b : Value} (h : sameV a b = true) : a = b := by
  unfold sameV at h
  split at h <;> simp_all

theorem some_of_lt {α : Type} {l : List α} {i : Nat} (h : i < l.length) : ∃ x, l[i]? = some x := ⟨l[i], List.getElem?_eq_getElem h⟩
theorem lt_of_some {α : Type} {l : List α} {i : Nat} {x : α} (h : l[i]? = some x) : i < l.length := by
  rcases Nat.lt_or_ge i l.length with k | k
  · exact k
  · rw [List.getElem?_eq_none k] at h; cases h

theorem rdIn_sound {n0 : Nat} {ρ : Rho} {h : H} {w : World} (R : Rel n0 ρ h w) : ∀ (n b o : Nat) (p : Pl) (v : Value), ρ[b]? = some p → rdIn h n b o = some v →
    ∃ v', w.cell? ⟨p.b, p.s + o, none⟩ = some v' ∧ VR ρ v v' := by
  intro n
  induction n with
  | zero => intro b o p v _ e; simp [rdIn] at e
  | succ n ih =>
    intro b o p v hp e
    simp only [rdIn] at e
    split at e
    · rename_i own ee cs hb; exact (R.cells _ _ _ _ _ hp hb).2 _ _ e
    · rename_i ee cs s hb
      split at e
      · rename_i v1 v2 h1 h2
        split at e
        · rename_i hs
          simp only [Option.some.injEq] at e; subst e
          have := sameV_eq hs; subst this
          rcases (R.old _ _ _ _ _ hp hb).2 with ⟨hc, _⟩ | hc
          · exact hc _ _ h1
          · exact ih s o p _ hc h2
        · cases e
      · cases e
    · cases e
theorem rd_sound {n0 : Nat} {ρ : Rho} {h : H} {w : World} (R : Rel n0 ρ h w) {b o : Nat} {p : Pl} {v : Value} (hp : ρ[b]? = some p) (e : rd h b o = some v) :
    ∃ v', w.cell? ⟨p.b, p.s + o, none⟩ = some v' ∧ VR ρ v v' := by
  unfold rd at e
  split at e
  · rename_i own ee cs hb; exact (R.cells _ _ _ _ _ hp hb).2 _ _ e
  · exact rdIn_sound R _ _ _ _ _ hp e
  · cases e
theorem rdN_sound {n0 : Nat} {ρ : Rho} {h : H} {w : World} (R : Rel n0 ρ h w) {b : Nat} {p : Pl} (hp : ρ[b]? = some p) : ∀ (n o : Nat) (l : List Value), rdN h b o n = some l →
    ∃ l', VRs ρ l l' ∧ l'.length = n ∧ ∀ (j : Nat) (u : Value), l'[j]? = some u → w.cell? ⟨p.b, p.s + o + j, none⟩ = some u := by
  intro n
  induction n with
  | zero => intro o l e; simp [rdN] at e; subst e; exact ⟨[], trivial, rfl, by simp⟩
  | succ n ih =>
    intro o l e
    simp only [rdN] at e
    split at e
    · rename_i v r h1 h2
      simp only [Option.some.injEq] at e; subst e
      obtain ⟨v', c, k⟩ := rd_sound R hp h1
      obtain ⟨l', k', hl, c'⟩ := ih _ _ h2
      refine ⟨v' :: l', ⟨k, k'⟩, by simp [hl], fun j u hu => ?_⟩
      cases j with
      | zero => simp at hu; subst hu; simpa using c
      | succ j =>
        have := c' j u (by simpa using hu)
        rw [← this]; congr 2; omega
    · cases e
theorem rdN_mem {n0 : Nat} {ρ : Rho} {h : H} {w : World} (R : Rel n0 ρ h w) {b o n : Nat} {l : List Value} (e : rdN h b o (n + 1) = some l) : ∃ p, ρ[b]? = some p := by
  simp only [rdN] at e
  split at e
  · rename_i v r h1 h2
    refine some_of_lt ?_
    rw [R.len]
    unfold rd at h1
    split at h1 <;> first | (cases h1; done) | (rename_i hb; exact lt_of_some hb)
  · cases e
theorem rd_mem {n0 : Nat} {ρ : Rho} {h : H} {w : World} (R : Rel n0 ρ h w) {b o : Nat} {v : Value} (e : rd h b o = some v) : ∃ p, ρ[b]? = some p := by
  refine some_of_lt ?_
  rw [R.len]
  unfold rd at e
  split at e <;> first | (cases e; done) | (rename_i hb; exact lt_of_some hb)

/-- nothing of what is told reads otherwise -/
theorem CellsAt.mono {ρ ρ' : Rho} {w w' : World} {p : Pl} {cs : List Value} (h : CellsAt ρ w p cs) (hl : Le ρ ρ') (hw : ∀ j, j < cs.length → w'.cell? ⟨p.b, p.s + j, none⟩ = w.cell? ⟨p.b, p.s + j, none⟩) : CellsAt ρ' w' p cs :=
  fun j v e => let ⟨v', c, k⟩ := h j v e; ⟨v', by rw [hw j (lt_of_some e)]; exact c, k.mono hl⟩

theorem get_snoc {α : Type} {l : List α} {x y : α} {i : Nat} (h : (l ++ [x])[i]? = some y) : l[i]? = some y ∨ (i = l.length ∧ x = y) := by
  rcases Nat.lt_or_ge i l.length with k | k
  · rw [List.getElem?_append_left k] at h; exact .inl h
  · rw [List.getElem?_append_right k] at h
    have : i - l.length = 0 := by
      rcases Nat.eq_zero_or_pos (i - l.length) with e | e
      · exact e
      · rw [List.getElem?_eq_none (by simp; omega)] at h; cases h
    rw [this] at h; simp at h
    exact .inr ⟨by omega, h⟩

/-- a world in which a block has been added -/
structure Pushed (w w' : World) (o : Obj) : Prop where
  size : w'.heap.size = w.heap.size + 1
  old : ∀ (i : Nat), i < w.heap.size → w'.heap[i]? = w.heap[i]?
  new : w'.heap[w.heap.size]? = some o
  os : w'.os = w.os
  tape : w'.tape = w.tape
  output : w'.output = w.output
theorem Pushed.alloc (w : World) (o : Obj) : Pushed w (w.alloc o) o :=
  ⟨by simp, fun i h => Below.heap_alloc _ _ _ h, heap_alloc_new w o, rfl, rfl, rfl⟩
theorem Pushed.drewAlloc (w : World) (o : Obj) : Pushed w (w.drew.alloc o) o :=
  ⟨by simp, fun i h => (Below.heap_alloc _ _ _ (by simpa using h)).trans rfl, heap_alloc_new w.drew o, rfl, rfl, rfl⟩
theorem Pushed.below {w w' : World} {o : Obj} (h : Pushed w w' o) {n0 : Nat} (hn : n0 ≤ w.heap.size) : Below n0 w w' :=
  ⟨h.os, h.tape, h.output, by rw [h.size]; omega, fun k hk => h.old k (by omega)⟩
theorem Pushed.cell {w w' : World} {o : Obj} (h : Pushed w w' o) {a : Addr} (ha : a.block < w.heap.size) : w'.cell? a = w.cell? a := World.cell?_of_block (w := w) (h.old _ ha)
theorem Pushed.frozen {w w' : World} {o : Obj} (h : Pushed w w' o) {a : Addr} (ha : a.block < w.heap.size) : w'.frozen? a = w.frozen? a := World.frozen?_of_block (w := w) (h.old _ ha)

/-- a new block of cells -/
theorem Rel.push {n0 : Nat} {ρ : Rho} {h : H} {w w' : World} (R : Rel n0 ρ h w) {c : Array Value} {el : TypeId} {fr : Nat × Nat} (P : Pushed w w' (.cells c el fr)) {own : Bool} {e : Nat} {cs : List Value}
    (hc : ∀ (j : Nat) (v : Value), cs[j]? = some v → ∃ v', c[j]? = some v' ∧ VR ρ v v') (hfr : ∀ j, j < c.size → ¬ (fr.1 ≤ j ∧ j < fr.2)) (hty : 1024 ≤ e → el = e / 1024 - 1) (hty2 : eS e = 0 → cs.length = c.size) :
    Rel n0 (ρ ++ [⟨w.heap.size, 0, c.size, eS e⟩]) (h ++ [.cells own e cs]) w' := by
  have hlast : ∀ (j : Nat) (v : Value), cs[j]? = some v → ∃ v', w'.cell? ⟨w.heap.size, 0 + j, none⟩ = some v' ∧ VR ρ v v' := fun j v ej => by
    obtain ⟨v', e1, k⟩ := hc j v ej
    refine ⟨v', ?_, k⟩
    simp only [World.cell?, P.new, Nat.zero_add]; simpa using e1
  have hle : cs.length ≤ c.size := by
    rcases Nat.lt_or_ge c.size cs.length with hx | hx
    · obtain ⟨x, hx⟩ := some_of_lt hx
      obtain ⟨v', e1, _⟩ := hc _ x hx
      rw [Array.getElem?_eq_none (Nat.le_refl _)] at e1; cases e1
    · exact hx
  refine ⟨by simp [R.len], by rw [P.size]; have := R.n0le; omega, ?_, ?_, ?_, ?_, ?_, ?_, ?_, ?_⟩
  · intro i p hi
    rw [P.size]
    rcases get_snoc hi with hi | ⟨_, rfl⟩
    · have := R.lt i p hi; omega
    · simp
  · intro i p o e' cs' hi hb
    rcases get_snoc hi with hi | ⟨rfl, rfl⟩
    · rcases get_snoc hb with hb | ⟨e, _⟩
      · obtain ⟨a, k⟩ := R.cells i p o e' cs' hi hb
        exact ⟨a, k.mono (Le.app _ _) fun j _ => P.cell (R.lt i p hi)⟩
      · have := lt_of_some hi; rw [R.len] at this; omega
    · rcases get_snoc hb with hb | ⟨_, hb⟩
      · have := lt_of_some hb; rw [R.len] at this; omega
      · cases hb
        exact ⟨rfl, fun j v ej => let ⟨v', a, k⟩ := hlast j v ej; ⟨v', a, k.mono (Le.app _ _)⟩⟩
  · intro i p o e' cs' hi hb he
    rcases get_snoc hi with hi | ⟨rfl, rfl⟩
    · rcases get_snoc hb with hb | ⟨e, _⟩
      · obtain ⟨a, a', c1, f1, k, k2⟩ := R.ty i p o e' cs' hi hb he
        exact ⟨a, a', c1, f1, by rw [P.old _ (R.lt i p hi)]; exact k, k2⟩
      · have := lt_of_some hi; rw [R.len] at this; omega
    · rcases get_snoc hb with hb | ⟨_, hb⟩
      · have := lt_of_some hb; rw [R.len] at this; omega
      · cases hb
        exact ⟨⟨rfl, R.n0le⟩, hty2, c, fr, by rw [← hty he]; exact P.new, rfl⟩
  · intro i p e' cs' hi hb
    rcases get_snoc hi with hi | ⟨rfl, rfl⟩
    · rcases get_snoc hb with hb | ⟨e, _⟩
      · obtain ⟨a, a2, k⟩ := R.own i p e' cs' hi hb
        exact ⟨a, a2, fun j hj => by rw [P.frozen (R.lt i p hi), P.cell (a := ⟨p.b, j, none⟩) (R.lt i p hi)]; exact k j hj⟩
      · have := lt_of_some hi; rw [R.len] at this; omega
    · rcases get_snoc hb with hb | ⟨_, hb⟩
      · have := lt_of_some hb; rw [R.len] at this; omega
      · cases hb
        refine ⟨R.n0le, by simpa using hle, fun j hj => ?_⟩
        have := hfr j hj
        refine ⟨⟨c[j], ?_⟩, ?_⟩
        · simp only [World.cell?, P.new]; simp at hj ⊢
        · simp only [World.frozen?, P.new]; simpa using this
  · intro i j p q e1 e2 ci cj o hij hi hj hbi hbj
    rcases get_snoc hi with hi | ⟨rfl, rfl⟩
    · rcases get_snoc hbi with hbi | ⟨e, _⟩
      · rcases get_snoc hj with hj | ⟨rfl, rfl⟩
        · rcases get_snoc hbj with hbj | ⟨e, _⟩
          · exact R.inj i j p q e1 e2 ci cj o hij hi hj hbi hbj
          · have := lt_of_some hj; rw [R.len] at this; omega
        · have := R.lt i p hi; simp; omega
      · have := lt_of_some hi; rw [R.len] at this; omega
    · rcases get_snoc hj with hj | ⟨rfl, rfl⟩
      · have := R.lt j q hj; simp; omega
      · exact absurd rfl hij
  · intro i p e1 cs' s hi hb
    rcases get_snoc hb with hb | ⟨_, hb⟩
    · rcases get_snoc hi with hi | ⟨rfl, _⟩
      · obtain ⟨a0, a⟩ := R.old i p e1 cs' s hi hb
        refine ⟨a0, ?_⟩
        rcases a with ⟨a, k⟩ | a
        · refine .inl ⟨a.mono (Le.app _ _) fun j _ => P.cell (R.lt i p hi), fun j q e2 cj hj hbj => ?_⟩
          rcases get_snoc hj with hj | ⟨rfl, rfl⟩
          · rcases get_snoc hbj with hbj | ⟨e, _⟩
            · exact k j q e2 cj hj hbj
            · have := lt_of_some hj; rw [R.len] at this; omega
          · have := R.lt i p hi; simp; omega
        · exact .inr (Le.app _ _ _ _ a)
      · have := lt_of_some hb; rw [R.len] at this; omega
    · cases hb
  · intro i p ob hi hb ho
    rcases get_snoc hb with hb | ⟨_, hb⟩
    · rcases get_snoc hi with hi | ⟨rfl, _⟩
      · obtain ⟨a, o, k, k2⟩ := R.obj i p ob hi hb ho
        exact ⟨a, o, by rw [P.old _ (R.lt i p hi)]; exact k, k2.mono (Le.app _ _)⟩
      · have := lt_of_some hb; rw [R.len] at this; omega
    · subst hb; cases ho
  · intro i j p q oi oj hij hi hj hbi hbj ho1 ho2
    rcases get_snoc hbi with hbi | ⟨_, hbi⟩
    · rcases get_snoc hbj with hbj | ⟨_, hbj⟩
      · have a := lt_of_some hbi; have b := lt_of_some hbj
        rw [← R.len] at a b
        rw [List.getElem?_append_left a] at hi
        rw [List.getElem?_append_left b] at hj
        exact R.objInj i j p q oi oj hij hi hj hbi hbj ho1 ho2
      · subst hbj; cases ho2
    · subst hbi; cases ho1

/-- the world alone has turned, and not where anything is told -/
theorem Rel.world {n0 : Nat} {ρ : Rho} {h : H} {w w' : World} (R : Rel n0 ρ h w) (hw : w'.heap = w.heap) : Rel n0 ρ h w' := by
  have hc : ∀ a, w'.cell? a = w.cell? a := fun a => by unfold World.cell?; rw [hw]
  have hf : ∀ a, w'.frozen? a = w.frozen? a := fun a => by unfold World.frozen?; rw [hw]
  exact ⟨R.len, by rw [hw]; exact R.n0le, fun i p hi => by rw [hw]; exact R.lt i p hi, fun i p o e cs a b => ⟨(R.cells i p o e cs a b).1, (R.cells i p o e cs a b).2.mono (Le.refl _) fun j _ => hc _⟩,
    fun i p o e cs a b c => by rw [hw]; exact R.ty i p o e cs a b c, fun i p e cs a b => ⟨(R.own i p e cs a b).1, (R.own i p e cs a b).2.1, fun j hj => by rw [hf, hc]; exact (R.own i p e cs a b).2.2 j hj⟩, R.inj,
    fun i p e cs s a b => ⟨(R.old i p e cs s a b).1, (R.old i p e cs s a b).2.imp (fun k => ⟨k.1.mono (Le.refl _) fun j _ => hc _, k.2⟩) id⟩,
    fun i p ob a b c => by rw [hw]; exact R.obj i p ob a b c, R.objInj⟩

/-- cells are written -/
def setCs (w : World) (b o : Nat) : List Value → World
  | [] => w
  | v :: r => setCs (w.setCell ⟨b, o, none⟩ v) b (o + 1) r
theorem setCs_size (b : Nat) : ∀ (vs : List Value) (o : Nat) (w : World), (setCs w b o vs).heap.size = w.heap.size
  | [], _, _ => rfl
  | v :: r, o, w => by simp [setCs, setCs_size b r]
theorem setCs_frozen (b : Nat) (a : Addr) : ∀ (vs : List Value) (o : Nat) (w : World), (setCs w b o vs).frozen? a = w.frozen? a
  | [], _, _ => rfl
  | v :: r, o, w => by simp [setCs, setCs_frozen b a r]
theorem setCs_cell (b : Nat) : ∀ (vs : List Value) (o : Nat) (w : World), (∀ j, j < vs.length → ∃ u, w.cell? ⟨b, o + j, none⟩ = some u) → ∀ (b' o' : Nat),
    (setCs w b o vs).cell? ⟨b', o', none⟩ = if b' = b ∧ o ≤ o' ∧ o' < o + vs.length then vs[o' - o]? else w.cell? ⟨b', o', none⟩
  | [], o, w, _, b', o' => by simp [setCs]; intro _ h1 h2; omega
  | v :: r, o, w, h, b', o' => by
    simp only [setCs]
    rw [setCs_cell b r (o + 1) _ (fun j hj => by
      obtain ⟨u, hu⟩ := h (j + 1) (by simpa using hj)
      refine ⟨u, ?_⟩
      rw [World.cell?_setCell_other _ _ _ _ (by simp; omega), show o + 1 + j = o + (j + 1) from by omega]; exact hu) b' o']
    obtain ⟨u, hu⟩ := h 0 (by simp)
    by_cases hb : b' = b
    · subst hb
      by_cases h1 : o' = o
      · subst h1
        rw [if_neg (by omega), if_pos (by simp)]
        simp only [Nat.sub_self, List.getElem?_cons_zero]
        exact World.cell?_setCell_same _ _ _ (by simpa using hu)
      · by_cases h2 : o + 1 ≤ o' ∧ o' < o + 1 + r.length
        · rw [if_pos ⟨rfl, h2⟩, if_pos ⟨rfl, by omega, by simp; omega⟩, show o' - o = (o' - (o + 1)) + 1 from by omega]
          simp
        · rw [if_neg (fun k => h2 k.2), if_neg (fun k => h2 ⟨by omega, by have := k.2.2; simp at this; omega⟩)]
          exact World.cell?_setCell_other _ _ _ _ (by simp; omega)
    · rw [if_neg (fun k => hb k.1), if_neg (fun k => hb k.1)]
      exact World.cell?_setCell_other _ _ _ _ (by simp; exact fun k => absurd k.symm hb)
theorem setCs_other (b : Nat) : ∀ (vs : List Value) (o : Nat) (w : World) (k : Nat), k ≠ b → (setCs w b o vs).heap[k]? = w.heap[k]?
  | [], _, _, _, _ => rfl
  | v :: r, o, w, k, hk => by rw [setCs, setCs_other b r _ _ k hk]; exact Below.heap_setCell _ _ _ _ hk
theorem setCs_rest (b : Nat) : ∀ (vs : List Value) (o : Nat) (w : World), (setCs w b o vs).os = w.os ∧ (setCs w b o vs).tape = w.tape ∧ (setCs w b o vs).output = w.output
  | [], _, _ => ⟨rfl, rfl, rfl⟩
  | v :: r, o, w => setCs_rest b r (o + 1) _
theorem setCs_below {n0 b : Nat} (vs : List Value) (o : Nat) (w : World) (h : n0 ≤ b) : Below n0 w (setCs w b o vs) :=
  ⟨(setCs_rest b vs o w).1, (setCs_rest b vs o w).2.1, (setCs_rest b vs o w).2.2, by rw [setCs_size]; exact Nat.le_refl _, fun k hk => setCs_other b vs o w k (by omega)⟩

theorem setCell_ty {w : World} {b o : Nat} {v : Value} {k : Nat} {c : Array Value} {T : TypeId} {fr : Nat × Nat} (h : w.heap[k]? = some (.cells c T fr)) : ∃ c', (w.setCell ⟨b, o, none⟩ v).heap[k]? = some (.cells c' T fr) ∧ c'.size = c.size := by
  by_cases e : k = b
  · subst e
    refine ⟨c.setIfInBounds o v, ?_, by simp⟩
    simp only [World.setCell, Array.getElem?_modify, h]
    simp
  · exact ⟨c, by rw [Below.heap_setCell _ _ _ _ e]; exact h, rfl⟩
theorem setCs_ty (b : Nat) {k : Nat} {T : TypeId} {fr : Nat × Nat} : ∀ (vs : List Value) (o : Nat) (w : World) (c : Array Value), w.heap[k]? = some (.cells c T fr) → ∃ c', (setCs w b o vs).heap[k]? = some (.cells c' T fr) ∧ c'.size = c.size
  | [], _, _, c, h => ⟨c, h, rfl⟩
  | v :: r, o, w, c, h => by
    obtain ⟨c1, h1, h2⟩ := setCell_ty (b := b) (o := o) (v := v) h
    obtain ⟨c2, h3, h4⟩ := setCs_ty b r (o + 1) _ c1 h1
    exact ⟨c2, h3, h4.trans h2⟩
theorem oneC_cell {v : Value} (h : oneC v = true) : v.oneCell' = true := by cases v <;> simp_all [oneC, Value.oneCell']
theorem add_none (b o i : Nat) : (⟨b, o, none⟩ : Addr).add i = ⟨b, o + i, none⟩ := by
  unfold Addr.add; split
  · rename_i h; simp [h]
  · rfl
theorem run_storeCells (P : Program) (b o : Nat) : ∀ (vs : List Value) (i : Nat) (w : World), (∀ v ∈ vs, oneC v = true) → (∀ j, j < vs.length → ∃ u, w.cell? ⟨b, o + i + j, none⟩ = some u) →
    (∀ j, j < vs.length → w.frozen? ⟨b, o + i + j, none⟩ = false) → (storeCells ⟨b, o, none⟩ vs i).run P w = .ok () (setCs w b (o + i) vs)
  | [], i, w, _, _, _ => rfl
  | v :: r, i, w, h1, h2, h3 => by
    obtain ⟨u, hu⟩ := h2 0 (by simp)
    have hf := h3 0 (by simp)
    simp only [Nat.add_zero] at hu hf
    simp only [storeCells, Sem.run_bind, add_none]
    rw [run_store _ _ _ _ _ (oneC_cell (h1 v (by simp))), hu]
    simp only [hf, Bool.false_eq_true, if_false, Result.andThen_ok]
    rw [run_storeCells P b o r (i + 1) _ (fun x hx => h1 x (by simp [hx])) (fun j hj => by
      obtain ⟨u, hu⟩ := h2 (j + 1) (by simpa using hj)
      refine ⟨u, ?_⟩
      rw [World.cell?_setCell_other _ _ _ _ (by simp; omega), show o + (i + 1) + j = o + i + (j + 1) from by omega]; exact hu)
      (fun j hj => by rw [World.frozen?_setCell, show o + (i + 1) + j = o + i + (j + 1) from by omega]; exact h3 (j + 1) (by simpa using hj))]
    rfl

theorem over_get (cs vs : List Value) (o j : Nat) (h : o ≤ cs.length) : (over cs o vs)[j]? = if o ≤ j ∧ j < o + vs.length then vs[j - o]? else cs[j]? := by
  unfold over
  by_cases h1 : j < o
  · rw [if_neg (by omega), List.append_assoc, List.getElem?_append_left (by simp; omega), List.getElem?_take_of_lt h1]
  · by_cases h2 : j < o + vs.length
    · rw [if_pos ⟨by omega, h2⟩, List.getElem?_append_left (by simp; omega), List.getElem?_append_right (by simp; omega)]
      congr 1; simp; omega
    · rw [if_neg (by omega), List.getElem?_append_right (by simp; omega), List.getElem?_drop]
      congr 1; simp; omega
theorem over_length (cs vs : List Value) (o : Nat) (h : o + vs.length ≤ cs.length) : (over cs o vs).length = cs.length := by
  unfold over; simp; omega
theorem over_length_le (cs vs : List Value) (o : Nat) (h : o ≤ cs.length) : (over cs o vs).length ≤ cs.length ∨ (over cs o vs).length ≤ o + vs.length := by
  unfold over; simp; omega

theorem get_set {α : Type} {l : List α} {i j : Nat} {x y : α} (h : (l.set i x)[j]? = some y) : (j = i ∧ y = x) ∨ (j ≠ i ∧ l[j]? = some y) := by
  rw [List.getElem?_set] at h
  split at h
  · rename_i e; subst e
    split at h
    · exact .inl ⟨rfl, by simpa using h.symm⟩
    · cases h
  · rename_i e; exact .inr ⟨fun k => e k.symm, h⟩

theorem wrx_sound {n0 : Nat} {ρ : Rho} {h h' : H} {w : World} (R : Rel n0 ρ h w) {b o : Nat} {vs vs' : List Value} {p : Pl} (hp : ρ[b]? = some p) (e : wrx h b o vs = some h') (hv : VRs ρ vs vs') (hin : p.s + o + vs.length ≤ p.n) :
    (∀ v ∈ vs', oneC v = true) ∧ (∀ j, j < vs'.length → ∃ u, w.cell? ⟨p.b, p.s + o + j, none⟩ = some u) ∧ (∀ j, j < vs'.length → w.frozen? ⟨p.b, p.s + o + j, none⟩ = false) ∧
    Rel n0 ρ h' (setCs w p.b (p.s + o) vs') ∧ Below n0 w (setCs w p.b (p.s + o) vs') := by
  have hl := hv.length
  cases vs with
  | nil =>
    cases vs' with
    | nil => simp [wrx] at e; subst e; exact ⟨by simp, by simp, by simp, R, Below.refl _ _⟩
    | cons _ _ => simp at hl
  | cons v0 vr =>
    generalize hvs : v0 :: vr = vs at *
    have e' : (match h[b]? with
      | some (.cells true e cs) => if o ≤ cs.length ∧ vs.all oneC = true then some (h.set b (.cells true e (over cs o vs))) else none
      | _ => none) = some h' := by rw [← e, ← hvs]; rfl
    clear e
    split at e'
    · rename_i ee cs hb
      split at e'
      · rename_i hc
        obtain ⟨hc, hone⟩ := hc
        simp only [Option.some.injEq] at e'
        obtain ⟨hn, hroom, hfr⟩ := R.own b p ee cs hp hb
        obtain ⟨hpe, hcat⟩ := R.cells b p true ee cs hp hb
        have hcell : ∀ j, j < vs'.length → ∃ u, w.cell? ⟨p.b, p.s + o + j, none⟩ = some u := fun j hj => (hfr (p.s + o + j) (by omega)).1
        have hone' : ∀ v ∈ vs', oneC v = true := fun v hvm => by
          obtain ⟨j, hj⟩ := List.mem_iff_getElem?.1 hvm
          obtain ⟨x, hx⟩ := some_of_lt (l := vs) (i := j) (by rw [hl]; exact lt_of_some hj)
          obtain ⟨y, hy, k⟩ := hv.get j x hx
          rw [hj] at hy; cases hy
          rw [k.oneC]
          exact List.all_eq_true.1 hone x (List.mem_iff_getElem?.2 ⟨j, hx⟩)
        refine ⟨hone', hcell, fun j hj => (hfr (p.s + o + j) (by omega)).2, ?_, setCs_below _ _ _ hn⟩
        have hread : ∀ b' o', (setCs w p.b (p.s + o) vs').cell? ⟨b', o', none⟩ = if b' = p.b ∧ p.s + o ≤ o' ∧ o' < p.s + o + vs'.length then vs'[o' - (p.s + o)]? else w.cell? ⟨b', o', none⟩ :=
          setCs_cell p.b vs' (p.s + o) w hcell
        have hother : ∀ b' o', b' ≠ p.b → (setCs w p.b (p.s + o) vs').cell? ⟨b', o', none⟩ = w.cell? ⟨b', o', none⟩ := fun b' o' hb' => by rw [hread, if_neg (fun k => hb' k.1)]
        have hex : ∀ b' o', (∃ u, w.cell? ⟨b', o', none⟩ = some u) → ∃ u, (setCs w p.b (p.s + o) vs').cell? ⟨b', o', none⟩ = some u := fun b' o' hu => by
          rw [hread]; split
          · rename_i hx; exact ⟨_, List.getElem?_eq_getElem (by omega)⟩
          · exact hu
        have hset : ∀ i (x : Ob), h'[i]? = some x → (i = b ∧ x = .cells true ee (over cs o vs)) ∨ (i ≠ b ∧ h[i]? = some x) := fun i x hx => by rw [← e'] at hx; exact get_set hx
        have hlen : h'.length = h.length := by rw [← e']; simp
        refine ⟨by rw [R.len, hlen], by rw [setCs_size]; exact R.n0le, fun i q hi => by rw [setCs_size]; exact R.lt i q hi, ?_, ?_, ?_, ?_, ?_, ?_, ?_⟩
        · intro i q ow e1 ci hi hbi
          rcases hset i _ hbi with ⟨rfl, hx⟩ | ⟨hne, hbi⟩
          · cases hx
            rw [hp] at hi; cases hi
            refine ⟨hpe, fun j v hj => ?_⟩
            rw [over_get _ _ _ _ hc] at hj
            rw [hread]
            by_cases hr : o ≤ j ∧ j < o + vs.length
            · rw [if_pos hr] at hj
              obtain ⟨v', a, k⟩ := hv.get _ _ hj
              refine ⟨v', ?_, k⟩
              rw [if_pos ⟨rfl, by omega, by omega⟩, ← a]; congr 1; omega
            · rw [if_neg hr] at hj
              rw [if_neg (by omega)]
              exact hcat j v hj
          · obtain ⟨a, this⟩ := R.cells i q ow e1 ci hi hbi
            exact ⟨a, this.mono (Le.refl _) fun j _ => hother _ _ fun k => R.inj b i p q ee e1 cs ci ow (fun k => hne k.symm) hp hi hb hbi k.symm⟩
        · intro i q ow e1 ci hi hbi he
          obtain ⟨ow2, ci2, hbi2, hl2⟩ : ∃ ow2 ci2, h[i]? = some (.cells ow2 e1 ci2) ∧ (q.s = 0 → ci2.length = q.n → ci.length = q.n) := by
            rcases hset i _ hbi with ⟨rfl, hx⟩ | ⟨_, hx⟩
            · cases hx
              rw [hp] at hi; cases hi
              refine ⟨_, _, hb, fun hs hl => ?_⟩
              rw [over_length _ _ _ (by omega)]; exact hl
            · exact ⟨_, _, hx, fun _ hl => hl⟩
          obtain ⟨a, a', c1, f1, k, k2⟩ := R.ty i q ow2 e1 ci2 hi hbi2 he
          obtain ⟨c2, k3, k4⟩ := setCs_ty p.b vs' (p.s + o) w c1 k
          exact ⟨a, fun h0 => hl2 a.1 (a' h0), c2, f1, k3, k4.trans k2⟩
        · intro i q e1 ci hi hbi
          rcases hset i _ hbi with ⟨rfl, hx⟩ | ⟨hne, hbi⟩
          · cases hx
            rw [hp] at hi; cases hi
            exact ⟨hn, by rcases over_length_le cs vs o hc with h1 | h1 <;> omega, fun j hj => by rw [setCs_frozen]; exact ⟨hex _ _ (hfr j hj).1, (hfr j hj).2⟩⟩
          · obtain ⟨a1, a2, a3⟩ := R.own i q e1 ci hi hbi
            exact ⟨a1, a2, fun j hj => by rw [setCs_frozen]; exact ⟨hex _ _ (a3 j hj).1, (a3 j hj).2⟩⟩
        · intro i j q r e1 e2 ci cj ow hij hi hj hbi hbj
          have f : ∀ i (ow : Bool) e1 ci, h'[i]? = some (Ob.cells ow e1 ci) → ∃ e2 c, h[i]? = some (Ob.cells ow e2 c) := fun i ow e1 ci hx => by
            rcases hset i _ hx with ⟨rfl, hx⟩ | ⟨_, hx⟩
            · cases hx; exact ⟨ee, cs, hb⟩
            · exact ⟨e1, ci, hx⟩
          obtain ⟨f1, c1, h1⟩ := f i true e1 ci hbi
          obtain ⟨f2, c2, h2⟩ := f j ow e2 cj hbj
          exact R.inj i j q r f1 f2 c1 c2 ow hij hi hj h1 h2
        · intro i q e1 ci s hi hbi
          rcases hset i _ hbi with ⟨_, hx⟩ | ⟨hne, hbi⟩
          · cases hx
          · obtain ⟨a0, a⟩ := R.old i q e1 ci s hi hbi
            refine ⟨a0, ?_⟩
            rcases a with ⟨a, k⟩ | a
            · refine .inl ⟨a.mono (Le.refl _) fun j _ => hother _ _ fun e2 => k b p ee cs hp hb e2.symm, fun j r e2 cj hj hbj => ?_⟩
              rcases hset j _ hbj with ⟨rfl, hx⟩ | ⟨_, hbj⟩
              · rw [hp] at hj; cases hj; exact k j p ee cs hp hb
              · exact k j r e2 cj hj hbj
            · exact .inr a
        · intro i q ob hi hbi ho
          rcases hset i _ hbi with ⟨_, hx⟩ | ⟨hne, hbi⟩
          · subst hx; cases ho
          · obtain ⟨a, o, k, k2⟩ := R.obj i q ob hi hbi ho
            refine ⟨a, o, ?_, k2⟩
            rw [setCs_other _ _ _ _ _ (fun e2 => ?_)]
            · exact k
            · rcases Nat.eq_zero_or_pos vs'.length with z | z
              · rw [← hl, ← hvs] at z; simp at z
              · obtain ⟨u, hu⟩ := hcell 0 z
                rw [cell_notCells (o := o) (by show w.heap[p.b]? = _; rw [← e2]; exact k) k2.notCells] at hu
                cases hu
        · intro i j q r oi oj hij hi hj hbi hbj ho1 ho2
          rcases hset i _ hbi with ⟨_, hx⟩ | ⟨_, hbi⟩
          · subst hx; cases ho1
          rcases hset j _ hbj with ⟨_, hx⟩ | ⟨_, hbj⟩
          · subst hx; cases ho2
          exact R.objInj i j q r oi oj hij hi hj hbi hbj ho1 ho2
      · cases e'
    · cases e'

theorem wr_sound {n0 : Nat} {ρ : Rho} {h h' : H} {w : World} (R : Rel n0 ρ h w) {b o : Nat} {vs vs' : List Value} {p : Pl} (hp : ρ[b]? = some p) (e : wr h b o vs = some h') (hv : VRs ρ vs vs') :
    (∀ v ∈ vs', oneC v = true) ∧ (∀ j, j < vs'.length → ∃ u, w.cell? ⟨p.b, p.s + o + j, none⟩ = some u) ∧ (∀ j, j < vs'.length → w.frozen? ⟨p.b, p.s + o + j, none⟩ = false) ∧
    Rel n0 ρ h' (setCs w p.b (p.s + o) vs') ∧ Below n0 w (setCs w p.b (p.s + o) vs') := by
  cases vs with
  | nil =>
    cases vs' with
    | nil => simp [wr] at e; subst e; exact ⟨by simp, by simp, by simp, R, Below.refl _ _⟩
    | cons _ _ => exact hv.elim
  | cons v vr =>
    simp only [wr] at e
    split at e
    · rename_i ee cs hb
      split at e
      · rename_i hc
        have hroom := (R.own b p ee cs hp hb).2.1
        refine wrx_sound R hp ?_ hv (by omega)
        simp only [wrx, hb]
        rw [if_pos ⟨by omega, hc.2⟩]; exact e
      · cases e
    · cases e
/-- an object that is no row of cells -/
theorem Rel.pushObj {n0 : Nat} {ρ : Rho} {h : H} {w w' : World} (R : Rel n0 ρ h w) {ob : Ob} {o : Obj} (P : Pushed w w' o) (hob : isObj ob = true) (hor : OR (ρ ++ [⟨w.heap.size, 0, 0, 0⟩]) ob o) :
    Rel n0 (ρ ++ [⟨w.heap.size, 0, 0, 0⟩]) (h ++ [ob]) w' := by
  refine ⟨by simp [R.len], by rw [P.size]; have := R.n0le; omega, ?_, ?_, ?_, ?_, ?_, ?_, ?_, ?_⟩
  · intro i p hi
    rw [P.size]
    rcases get_snoc hi with hi | ⟨_, rfl⟩
    · have := R.lt i p hi; omega
    · simp
  · intro i p o e1 cs' hi hb
    rcases get_snoc hb with hb | ⟨_, hb⟩
    · have hl := lt_of_some hb; rw [← R.len] at hl
      rw [List.getElem?_append_left hl] at hi
      obtain ⟨a, k⟩ := R.cells i p o e1 cs' hi hb
      exact ⟨a, k.mono (Le.app _ _) fun j _ => P.cell (R.lt i p hi)⟩
    · subst hb; cases hob
  · intro i p o e1 cs' hi hb he
    rcases get_snoc hb with hb | ⟨_, hb⟩
    · have hl := lt_of_some hb; rw [← R.len] at hl
      rw [List.getElem?_append_left hl] at hi
      obtain ⟨a, a', c1, f1, k, k2⟩ := R.ty i p o e1 cs' hi hb he
      exact ⟨a, a', c1, f1, by rw [P.old _ (R.lt i p hi)]; exact k, k2⟩
    · subst hb; cases hob
  · intro i p e1 cs' hi hb
    rcases get_snoc hb with hb | ⟨_, hb⟩
    · have hl := lt_of_some hb; rw [← R.len] at hl
      rw [List.getElem?_append_left hl] at hi
      obtain ⟨a, a2, k⟩ := R.own i p e1 cs' hi hb
      exact ⟨a, a2, fun j hj => by rw [P.frozen (R.lt i p hi), P.cell (a := ⟨p.b, j, none⟩) (R.lt i p hi)]; exact k j hj⟩
    · subst hb; cases hob
  · intro i j p q e1 e2 ci cj o hij hi hj hbi hbj
    rcases get_snoc hbi with hbi | ⟨_, hbi⟩
    · rcases get_snoc hbj with hbj | ⟨_, hbj⟩
      · have a := lt_of_some hbi; have b := lt_of_some hbj
        rw [← R.len] at a b
        rw [List.getElem?_append_left a] at hi
        rw [List.getElem?_append_left b] at hj
        exact R.inj i j p q e1 e2 ci cj o hij hi hj hbi hbj
      · subst hbj; cases hob
    · subst hbi; cases hob
  · intro i p e1 cs' s hi hb
    rcases get_snoc hb with hb | ⟨_, hb⟩
    · have hl := lt_of_some hb; rw [← R.len] at hl
      rw [List.getElem?_append_left hl] at hi
      obtain ⟨a0, a⟩ := R.old i p e1 cs' s hi hb
      refine ⟨a0, ?_⟩
      rcases a with ⟨a, k⟩ | a
      · refine .inl ⟨a.mono (Le.app _ _) fun j _ => P.cell (R.lt i p hi), fun j q e2 cj hj hbj => ?_⟩
        rcases get_snoc hbj with hbj | ⟨_, hbj⟩
        · have b := lt_of_some hbj; rw [← R.len] at b
          rw [List.getElem?_append_left b] at hj
          exact k j q e2 cj hj hbj
        · subst hbj; cases hob
      · exact .inr (Le.app _ _ _ _ a)
    · subst hb; cases hob
  · intro i p ob' hi hb ho
    rcases get_snoc hb with hb | ⟨e1, e2⟩
    · have hl := lt_of_some hb; rw [← R.len] at hl
      rw [List.getElem?_append_left hl] at hi
      obtain ⟨a, o', k, k2⟩ := R.obj i p ob' hi hb ho
      exact ⟨a, o', by rw [P.old _ (R.lt i p hi)]; exact k, k2.mono (Le.app _ _)⟩
    · subst e1; subst e2
      rcases get_snoc hi with hi | ⟨_, rfl⟩
      · have := lt_of_some hi; rw [R.len] at this; omega
      · exact ⟨⟨R.n0le, rfl⟩, o, P.new, hor⟩
  · intro i j p q oi oj hij hi hj hbi hbj ho1 ho2
    rcases get_snoc hi with hi | ⟨rfl, rfl⟩
    · rcases get_snoc hj with hj | ⟨rfl, rfl⟩
      · have a := lt_of_some hi; have b := lt_of_some hj
        rw [R.len] at a b
        rw [List.getElem?_append_left a] at hbi
        rw [List.getElem?_append_left b] at hbj
        exact R.objInj i j p q oi oj hij hi hj hbi hbj ho1 ho2
      · have := R.lt i p hi; simp; omega
    · rcases get_snoc hj with hj | ⟨rfl, rfl⟩
      · have := R.lt j q hj; simp; omega
      · exact absurd rfl hij

/-- such an object is another one now, or is told no more -/
theorem Rel.setObj {n0 : Nat} {ρ : Rho} {h : H} {w w' : World} (R : Rel n0 ρ h w) {r : Nat} {p : Pl} {ob ob' : Ob} {o' : Obj} (hp : ρ[r]? = some p) (hb : h[r]? = some ob) (hob : isObj ob = true) (hob' : isObj ob' = true ∨ ob' = .dead)
    (hsz : w'.heap.size = w.heap.size) (hnew : w'.heap[p.b]? = some o') (hnc : notCells o' = true) (hor : isObj ob' = true → OR ρ ob' o') (hold : ∀ k, k ≠ p.b → w'.heap[k]? = w.heap[k]?) : Rel n0 ρ (h.set r ob') w' := by
  have hset : ∀ i (x : Ob), (h.set r ob')[i]? = some x → (i = r ∧ x = ob') ∨ (i ≠ r ∧ h[i]? = some x) := fun i x hx => get_set hx
  obtain ⟨hn, o, hpw, hoo⟩ := R.obj r p ob hp hb hob
  have hncell : ∀ (ow : Bool) e ci, ob' ≠ .cells ow e ci := fun ow e ci hx => by rcases hob' with h1 | h1 <;> (rw [hx] at h1; cases h1)
  have hnold : ∀ e ci s, ob' ≠ .old e ci s := fun e ci s hx => by rcases hob' with h1 | h1 <;> (rw [hx] at h1; cases h1)
  have hcell : ∀ b o u, w.cell? ⟨b, o, none⟩ = some u → w'.cell? ⟨b, o, none⟩ = w.cell? ⟨b, o, none⟩ := fun b o1 u hu => by
    by_cases e : b = p.b
    · subst e; rw [cell_notCells hpw hoo.notCells] at hu; cases hu
    · exact World.cell?_of_block (w := w) (hold b e)
  have hmono : ∀ q cs, CellsAt ρ w q cs → CellsAt ρ w' q cs := fun q cs k j v e => by
    obtain ⟨v', a, b⟩ := k j v e
    exact ⟨v', by rw [hcell _ _ _ a]; exact a, b⟩
  refine ⟨by simp [R.len], by rw [hsz]; exact R.n0le, fun i q hi => by rw [hsz]; exact R.lt i q hi, ?_, ?_, ?_, ?_, ?_, ?_, ?_⟩
  · intro i q o e1 ci hi hbi
    rcases hset i _ hbi with ⟨_, hx⟩ | ⟨_, hbi⟩
    · exact absurd hx.symm (hncell _ _ _)
    · exact ⟨(R.cells i q o e1 ci hi hbi).1, hmono _ _ (R.cells i q o e1 ci hi hbi).2⟩
  · intro i q o e1 ci hi hbi he
    rcases hset i _ hbi with ⟨_, hx⟩ | ⟨_, hbi⟩
    · exact absurd hx.symm (hncell _ _ _)
    · obtain ⟨a, a', c1, f1, k, k2⟩ := R.ty i q o e1 ci hi hbi he
      refine ⟨a, a', c1, f1, ?_, k2⟩
      rw [hold]
      · exact k
      · intro e2
        rw [e2] at k; rw [k] at hpw; cases hpw
        have := hoo.notCells; cases this
  · intro i q e1 ci hi hbi
    rcases hset i _ hbi with ⟨_, hx⟩ | ⟨_, hbi⟩
    · exact absurd hx.symm (hncell _ _ _)
    · refine ⟨(R.own i q e1 ci hi hbi).1, (R.own i q e1 ci hi hbi).2.1, fun j hj => ?_⟩
      obtain ⟨⟨u, hu⟩, hf⟩ := (R.own i q e1 ci hi hbi).2.2 j hj
      refine ⟨⟨u, by rw [hcell _ _ _ hu]; exact hu⟩, ?_⟩
      by_cases e : q.b = p.b
      · rw [e, cell_notCells hpw hoo.notCells] at hu; cases hu
      · rw [World.frozen?_of_block (w := w) (hold q.b e)]; exact hf
  · intro i j q t e1 e2 ci cj o hij hi hj hbi hbj
    rcases hset i _ hbi with ⟨_, hx⟩ | ⟨_, hbi⟩
    · exact absurd hx.symm (hncell _ _ _)
    rcases hset j _ hbj with ⟨_, hx⟩ | ⟨_, hbj⟩
    · exact absurd hx.symm (hncell _ _ _)
    exact R.inj i j q t e1 e2 ci cj o hij hi hj hbi hbj
  · intro i q e1 ci t hi hbi
    rcases hset i _ hbi with ⟨_, hx⟩ | ⟨_, hbi⟩
    · exact absurd hx.symm (hnold _ _ _)
    · obtain ⟨a0, a⟩ := R.old i q e1 ci t hi hbi
      refine ⟨a0, ?_⟩
      rcases a with ⟨a, k⟩ | a
      · refine .inl ⟨hmono _ _ a, fun j u e2 cj hj hbj => ?_⟩
        rcases hset j _ hbj with ⟨_, hx⟩ | ⟨_, hbj⟩
        · exact absurd hx.symm (hncell _ _ _)
        · exact k j u e2 cj hj hbj
      · exact .inr a
  · intro i q ob2 hi hbi ho
    rcases hset i _ hbi with ⟨e1, hx⟩ | ⟨hne, hbi⟩
    · subst e1; subst hx; rw [hp] at hi; cases hi; exact ⟨hn, o', hnew, hor ho⟩
    · obtain ⟨a, o2, k, k2⟩ := R.obj i q ob2 hi hbi ho
      exact ⟨a, o2, by rw [hold _ (fun e => R.objInj i r q p ob2 ob hne hi hp hbi hb ho hob e)]; exact k, k2⟩
  · intro i j q t oi oj hij hi hj hbi hbj ho1 ho2
    have f : ∀ i oi, (h.set r ob')[i]? = some oi → isObj oi = true → ∃ o2, h[i]? = some o2 ∧ isObj o2 = true := fun i oi hx ho => by
      rcases hset i _ hx with ⟨e1, hx⟩ | ⟨_, hx⟩
      · subst e1; exact ⟨_, hb, hob⟩
      · exact ⟨_, hx, ho⟩
    obtain ⟨_, h1, h2⟩ := f i oi hbi ho1
    obtain ⟨_, h3, h4⟩ := f j oj hbj ho2
    exact R.objInj i j q t _ _ hij hi hj h1 h3 h2 h4
end Go.Ev
