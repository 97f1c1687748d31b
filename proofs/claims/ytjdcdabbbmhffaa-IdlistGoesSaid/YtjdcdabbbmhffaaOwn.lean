/- Slices that fill their own block, and what laying on does to them. No condition. -/
import Derived.Test.YtjdcdabbbmhffaaEvLib
set_option linter.unusedVariables false
namespace Go.Ev
variable {P : Program}
/-- a slice that is its block: n elements of s cells -/
def Fu (h : H) (s E : Nat) (v : Value) (n : Nat) (cs : List Value) : Prop :=
  (v = .slice none 0 0 ∧ n = 0 ∧ cs = []) ∨ ∃ b, v = .slice (some ⟨b, 0, none⟩) n n ∧ 0 < n ∧ h[b]? = some (.cells true (enc s E) cs) ∧ cs.length = n * s
/-- the block of a slice -/
def isBlk (v : Value) (j : Nat) : Prop := ∃ o q n c, v = .slice (some ⟨j, o, q⟩) n c
theorem isBlk_nil {n c j : Nat} : ¬ isBlk (.slice none n c) j := by rintro ⟨o, q, n, c, e⟩; cases e
theorem isBlk_some {a : Addr} {n c j : Nat} : isBlk (.slice (some a) n c) j ↔ j = a.block := by
  constructor
  · rintro ⟨o, q, n, c, e⟩; cases e; rfl
  · rintro rfl; exact ⟨a.off, a.spot, n, c, rfl⟩
theorem Fu.nil {h : H} {s E : Nat} : Fu h s E (.slice none 0 0) 0 [] := .inl ⟨rfl, rfl, rfl⟩
theorem Fu.mk {h : H} {s E b n : Nat} {cs : List Value} (hn : 0 < n) (hb : h[b]? = some (.cells true (enc s E) cs)) (hl : cs.length = n * s) : Fu h s E (.slice (some ⟨b, 0, none⟩) n n) n cs := .inr ⟨b, rfl, hn, hb, hl⟩
theorem Fu.len {h : H} {s E n : Nat} {v : Value} {cs : List Value} (F : Fu h s E v n cs) : cs.length = n * s := by
  rcases F with ⟨_, rfl, rfl⟩ | ⟨b, _, _, _, e⟩
  · simp
  · exact e
theorem Fu.form {h : H} {s E n : Nat} {v : Value} {cs : List Value} (F : Fu h s E v n cs) : ∃ a, v = .slice a n n := by
  rcases F with ⟨rfl, rfl, rfl⟩ | ⟨b, rfl, _, _, e⟩
  · exact ⟨_, rfl⟩
  · exact ⟨_, rfl⟩
theorem Fu.sl {h : H} {s E n : Nat} {v : Value} {cs : List Value} (F : Fu h s E v n cs) (hs : s < 1024) : Sl h s v cs := by
  rcases F with ⟨rfl, rfl, rfl⟩ | ⟨b, rfl, hn, hb, e⟩
  · exact Sl.nil
  · exact Sl.mk (o := 0) hb (eS_enc' hs) (by rw [List.drop_zero]; exact List.take_of_length_le (by omega)) e (Nat.le_refl _)
theorem Fu.keep {h h' : H} {s E n : Nat} {v : Value} {cs : List Value} (F : Fu h s E v n cs) (X : ∀ j ob, isBlk v j → h[j]? = some ob → h'[j]? = some ob) : Fu h' s E v n cs := by
  rcases F with ⟨rfl, rfl, rfl⟩ | ⟨b, rfl, hn, hb, e⟩
  · exact Fu.nil
  · exact Fu.mk hn (X _ _ (isBlk_some.2 rfl) hb) e
theorem Sl.keep {h h' : H} {s : Nat} {v : Value} {cs : List Value} (S : Sl h s v cs) (X : ∀ j ob, isBlk v j → h[j]? = some ob → h'[j]? = some ob) : Sl h' s v cs := by
  obtain ⟨ad, n, c, rfl, h2, h3, h5, h4⟩ := S
  refine ⟨ad, n, c, rfl, h2, h3, h5, h4.imp id ?_⟩
  rintro ⟨b, o, own, e, cs0, rfl, a2, a3⟩
  exact ⟨b, o, own, e, cs0, rfl, X _ _ (isBlk_some.2 rfl) a2, a3⟩
/-- where the slice's own block is not, nothing changes -/
def But (v : Value) (h h' : H) : Prop := h.length ≤ h'.length ∧ ∀ j ob, ¬ isBlk v j → h[j]? = some ob → h'[j]? = some ob
theorem Fu.append {h : H} {T E s n m by' : Nat} {v x z : Value} {cs new : List Value} (F : Fu h s E v n cs) (hT : elOf P T = some E) (hs : szOf P E = some s) (hz : zeroOf P E = some z) (hb : bytesOf P E = some by') (hzl : z.cells.size = s) (hs1 : 0 < s) (hs2 : s < 1024)
    (src : srcCells s x h = some (m, new)) (hl : new.length = m * s) (hnew : new.all oneC = true) (h1 : (n + m + 1024) * by' ≤ 3 * 2 ^ 46) (h2 : n + m < 2 ^ 63) :
    ∃ v' h', aAppend P T v x h = some (v', h') ∧ Fu h' s E v' (n + m) (cs ++ new) ∧ But v h h' ∧ (∀ j, isBlk v' j → isBlk v j ∨ j = h.length) := by
  by_cases hm : m = 0
  · subst hm
    have : new = [] := List.eq_nil_of_length_eq_zero (by omega)
    subst this
    refine ⟨v, h, ?_, by simpa using F, ⟨Nat.le_refl _, fun _ _ _ e => e⟩, fun j e => .inl e⟩
    obtain ⟨a, rfl⟩ := F.form
    simp [aAppend, hT, hs, hz, hb, src]
  · rcases F with ⟨rfl, rfl, rfl⟩ | ⟨b, rfl, hn, hB, e⟩
    · refine ⟨_, _, app_nil hT hs hz hb hzl hs1 hs2 src (by omega) (by simpa using h1) (by omega), ?_, ⟨by simp, fun _ _ _ e => get_app e⟩, fun j e => .inr (isBlk_some.1 e)⟩
      simp only [Nat.zero_add, List.nil_append]
      exact Fu.mk (by omega) get_last hl
    · refine ⟨_, _, app_full (e := 0) hT hs hz hb hzl hs1 hs2 src (by omega) hB e hnew h1 h2, ?_, ⟨by simp, ?_⟩, fun j e => .inr (isBlk_some.1 e)⟩
      · exact Fu.mk (by omega) (by rw [List.getElem?_append_right (by simp)]; simp) (by rw [List.length_append, e, hl, Nat.add_mul])
      · intro j ob hj ho
        exact get_app (set_ne ho (fun e => hj (isBlk_some.2 e)))
end Go.Ev
