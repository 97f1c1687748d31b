/- Texts as lists of bytes: the first character of one, and what a range over it tells there. Plain, without memory. No condition. -/
import Derived.Test.YtcdnnpbpadhgeaaDoorEvLib
set_option linter.unusedVariables false
set_option linter.unusedSimpArgs false
namespace Oct
open Go Go.Ev
def at' (l : List UInt8) (k : Nat) : Nat := (l.getD k 0).toNat
theorem at_lt {l : List UInt8} {k : Nat} : at' l k < 256 := UInt8.toNat_lt _
def cnt (l : List UInt8) (k : Nat) : Bool := decide (k < l.length) && at' l k / 64 == 2
def dec (l : List UInt8) : Nat × Nat :=
  if at' l 0 < 0x80 then (at' l 0, 1)
  else if at' l 0 / 32 == 6 && cnt l 1 then
    if at' l 0 % 32 * 64 + at' l 1 % 64 ≥ 0x80 then (at' l 0 % 32 * 64 + at' l 1 % 64, 2) else (65533, 1)
  else if at' l 0 / 16 == 14 && cnt l 1 && cnt l 2 then
    if at' l 0 % 16 * 4096 + at' l 1 % 64 * 64 + at' l 2 % 64 ≥ 0x800 && Utf8.valid (at' l 0 % 16 * 4096 + at' l 1 % 64 * 64 + at' l 2 % 64 : Nat) then (at' l 0 % 16 * 4096 + at' l 1 % 64 * 64 + at' l 2 % 64, 3) else (65533, 1)
  else if at' l 0 / 8 == 30 && cnt l 1 && cnt l 2 && cnt l 3 then
    if at' l 0 % 8 * 262144 + at' l 1 % 64 * 4096 + at' l 2 % 64 * 64 + at' l 3 % 64 ≥ 0x10000 && Utf8.valid (at' l 0 % 8 * 262144 + at' l 1 % 64 * 4096 + at' l 2 % 64 * 64 + at' l 3 % 64 : Nat) then (at' l 0 % 8 * 262144 + at' l 1 % 64 * 4096 + at' l 2 % 64 * 64 + at' l 3 % 64, 4) else (65533, 1)
  else (65533, 1)
theorem get_drop (s : ByteArray) (i k : Nat) : (s.get! (i + k)).toNat = at' (s.data.toList.drop i) k := by
  unfold at'
  rw [List.getD_eq_getElem?_getD, List.getElem?_drop]
  cases s with
  | mk d =>
    show (d[i + k]!).toNat = _
    rw [getElem!_def, Array.getElem?_toList]
    cases d[i + k]? <;> rfl
theorem size_drop (s : ByteArray) (i k : Nat) : (decide (i + k < s.size)) = decide (k < (s.data.toList.drop i).length) := by
  have : s.size = s.data.toList.length := rfl
  rw [List.length_drop, this]
  congr 1
  exact propext (by omega)
theorem dec_eq (s : ByteArray) (i : Nat) : Utf8.decode s i = dec (s.data.toList.drop i) := by
  unfold Utf8.decode dec cnt
  simp only [get_drop, size_drop, Utf8.runeError]
def wi (c a b : Nat) : Bool := decide (a ≤ c) && decide (c ≤ b)
def tl (l : List UInt8) (k : Nat) : Bool := decide (k < l.length) && wi (at' l k) 128 191
/-- how many bytes the character has with which a text begins; 0: its first byte stands alone -/
def first (l : List UInt8) : Nat :=
  if l.length = 0 then 0
  else if at' l 0 ≤ 0x7f then 1
  else if wi (at' l 0) 0xc2 0xdf && tl l 1 then 2
  else if at' l 0 == 0xe0 && wi (at' l 1) 0xa0 0xbf && tl l 2 then 3
  else if (wi (at' l 0) 0xe1 0xec || at' l 0 == 0xee || at' l 0 == 0xef) && (tl l 1 && tl l 2) then 3
  else if at' l 0 == 0xed && wi (at' l 1) 0x80 0x9f && tl l 2 then 3
  else if at' l 0 == 0xf0 && wi (at' l 1) 0x90 0xbf && (tl l 2 && tl l 3) then 4
  else if wi (at' l 0) 0xf1 0xf3 && (tl l 1 && tl l 2 && tl l 3) then 4
  else if at' l 0 == 0xf4 && wi (at' l 1) 0x80 0x8f && (tl l 2 && tl l 3) then 4
  else 0
def fffd : List UInt8 := [0xEF, 0xBF, 0xBD]
theorem u8_of {n : Nat} {x : UInt8} (h : n = x.toNat) : UInt8.ofNat n = x := by subst h; simp
end Oct
namespace Oct
open Go Go.Ev
theorem at0 {x : UInt8} {l : List UInt8} : at' (x :: l) 0 = x.toNat := rfl
theorem at1 {x y : UInt8} {l : List UInt8} : at' (x :: y :: l) 1 = y.toNat := rfl
theorem at2 {x y z : UInt8} {l : List UInt8} : at' (x :: y :: z :: l) 2 = z.toNat := rfl
theorem at3 {x y z w : UInt8} {l : List UInt8} : at' (x :: y :: z :: w :: l) 3 = w.toNat := rfl
theorem valid_nat {c : Nat} : Utf8.valid (c : Int) = true ↔ c < 0xD800 ∨ (0xE000 ≤ c ∧ c ≤ 0x10FFFF) := by
  unfold Utf8.valid
  simp only [Bool.or_eq_true, Bool.and_eq_true, decide_eq_true_eq]
  omega
/-- how a character is written -/
def encL (c : Nat) : List UInt8 :=
  if c < 128 then [UInt8.ofNat c]
  else if c < 2048 then [UInt8.ofNat (0xC0 + c / 64), UInt8.ofNat (0x80 + c % 64)]
  else if c < 65536 then [UInt8.ofNat (0xE0 + c / 4096), UInt8.ofNat (0x80 + c / 64 % 64), UInt8.ofNat (0x80 + c % 64)]
  else [UInt8.ofNat (0xF0 + c / 262144), UInt8.ofNat (0x80 + c / 4096 % 64), UInt8.ofNat (0x80 + c / 64 % 64), UInt8.ofNat (0x80 + c % 64)]
theorem enc1 {c : Nat} (h : c < 128) : encL c = [UInt8.ofNat c] := by unfold encL; rw [if_pos h]
theorem enc2 {c : Nat} (h : 128 ≤ c) (h2 : c < 2048) : encL c = [UInt8.ofNat (0xC0 + c / 64), UInt8.ofNat (0x80 + c % 64)] := by
  unfold encL; rw [if_neg (show ¬ c < 128 by omega), if_pos h2]
theorem enc3 {c : Nat} (h : 2048 ≤ c) (h2 : c < 65536) : encL c = [UInt8.ofNat (0xE0 + c / 4096), UInt8.ofNat (0x80 + c / 64 % 64), UInt8.ofNat (0x80 + c % 64)] := by
  unfold encL; rw [if_neg (show ¬ c < 128 by omega), if_neg (show ¬ c < 2048 by omega), if_pos h2]
theorem enc4 {c : Nat} (h : 65536 ≤ c) : encL c = [UInt8.ofNat (0xF0 + c / 262144), UInt8.ofNat (0x80 + c / 4096 % 64), UInt8.ofNat (0x80 + c / 64 % 64), UInt8.ofNat (0x80 + c % 64)] := by
  unfold encL; rw [if_neg (show ¬ c < 128 by omega), if_neg (show ¬ c < 2048 by omega), if_neg (show ¬ c < 65536 by omega)]
/-- a character stands at the begin: what it is, how it is written -/
structure Chr (l : List UInt8) : Prop where
  pos : 1 ≤ first l
  le : first l ≤ l.length
  wd : (dec l).2 = first l
  enc : encL (dec l).1 = l.take (first l)
  bad : (dec l).1 = 65533 → l.take 3 = fffd
  way : (first l = 1 ∧ (dec l).1 = at' l 0 ∧ at' l 0 < 128) ∨ (2 ≤ first l ∧ 128 ≤ (dec l).1 ∧ 128 ≤ at' l 0)
def Lone (l : List UInt8) : Prop := first l = 0 ∧ (dec l).1 = 65533 ∧ (dec l).2 = 1 ∧ l.take 3 ≠ fffd ∧ 128 ≤ at' l 0
theorem len_pos {x : UInt8} {l : List UInt8} : ¬ (x :: l).length = 0 := by simp
theorem first_low {l : List UInt8} (h : l ≠ []) (ha : at' l 0 < 128) : Chr l := by
  obtain ⟨x, r, rfl⟩ : ∃ x r, l = x :: r := by cases l; exact absurd rfl h; exact ⟨_, _, rfl⟩
  have e1 : first (x :: r) = 1 := by unfold first; rw [if_neg len_pos, if_pos (by omega)]
  have e2 : dec (x :: r) = (at' (x :: r) 0, 1) := by unfold dec; rw [if_pos (by omega)]
  refine ⟨by omega, by rw [e1]; simp, by rw [e1, e2], ?_, ?_, .inl ⟨e1, by rw [e2], ha⟩⟩
  · rw [e2, enc1 ha, e1]
    simp [at0]
  · rw [e2]; intro h; simp only at h; omega
end Oct
namespace Oct
open Go Go.Ev
set_option maxRecDepth 20000 in
theorem f_2 {l : List UInt8} (h1 : 194 ≤ at' l 0) (h2 : at' l 0 ≤ 223) (h3 : 2 ≤ l.length) (h4 : at' l 1 / 64 = 2) : first l = 2 := by
  unfold first tl wi
  simp only [Bool.and_eq_true, Bool.or_eq_true, decide_eq_true_eq, beq_iff_eq]
  rw [if_neg, if_neg, if_pos] <;> omega
theorem f_3 {l : List UInt8} (h1 : at' l 0 / 16 = 14) (h3 : 3 ≤ l.length) (h4 : at' l 1 / 64 = 2) (h5 : at' l 2 / 64 = 2) (h6 : at' l 0 = 224 → 160 ≤ at' l 1) (h7 : at' l 0 = 237 → at' l 1 ≤ 159) : first l = 3 := by
  unfold first tl wi
  simp only [Bool.and_eq_true, Bool.or_eq_true, decide_eq_true_eq, beq_iff_eq]
  by_cases e1 : at' l 0 = 224
  · rw [if_neg, if_neg, if_neg, if_pos] <;> omega
  by_cases e2 : at' l 0 = 237
  · rw [if_neg, if_neg, if_neg, if_neg, if_neg, if_pos] <;> omega
  · rw [if_neg, if_neg, if_neg, if_neg, if_pos] <;> omega
theorem f_4 {l : List UInt8} (h1 : 240 ≤ at' l 0) (h2 : at' l 0 ≤ 244) (h3 : 4 ≤ l.length) (h4 : at' l 1 / 64 = 2) (h5 : at' l 2 / 64 = 2) (h8 : at' l 3 / 64 = 2) (h6 : at' l 0 = 240 → 144 ≤ at' l 1) (h7 : at' l 0 = 244 → at' l 1 ≤ 143) : first l = 4 := by
  unfold first tl wi
  simp only [Bool.and_eq_true, Bool.or_eq_true, decide_eq_true_eq, beq_iff_eq]
  by_cases e1 : at' l 0 = 240
  · rw [if_neg, if_neg, if_neg, if_neg, if_neg, if_neg, if_pos] <;> omega
  by_cases e2 : at' l 0 = 244
  · rw [if_neg, if_neg, if_neg, if_neg, if_neg, if_neg, if_neg, if_neg, if_pos] <;> omega
  · rw [if_neg, if_neg, if_neg, if_neg, if_neg, if_neg, if_neg, if_pos] <;> omega
theorem f_0 {l : List UInt8} (h0 : 128 ≤ at' l 0) (n2 : ¬ (194 ≤ at' l 0 ∧ at' l 0 ≤ 223 ∧ 2 ≤ l.length ∧ at' l 1 / 64 = 2))
    (n3 : ¬ (at' l 0 / 16 = 14 ∧ 3 ≤ l.length ∧ at' l 1 / 64 = 2 ∧ at' l 2 / 64 = 2 ∧ (at' l 0 = 224 → 160 ≤ at' l 1) ∧ (at' l 0 = 237 → at' l 1 ≤ 159)))
    (n4 : ¬ (240 ≤ at' l 0 ∧ at' l 0 ≤ 244 ∧ 4 ≤ l.length ∧ at' l 1 / 64 = 2 ∧ at' l 2 / 64 = 2 ∧ at' l 3 / 64 = 2 ∧ (at' l 0 = 240 → 144 ≤ at' l 1) ∧ (at' l 0 = 244 → at' l 1 ≤ 143))) : first l = 0 := by
  unfold first tl wi
  simp only [Bool.and_eq_true, Bool.or_eq_true, decide_eq_true_eq, beq_iff_eq]
  by_cases hn : l.length = 0
  · exact if_pos hn
  rw [if_neg hn, if_neg, if_neg, if_neg, if_neg, if_neg, if_neg, if_neg, if_neg] <;> omega
theorem d_2 {l : List UInt8} (h1 : 194 ≤ at' l 0) (h2 : at' l 0 ≤ 223) (h3 : 2 ≤ l.length) (h4 : at' l 1 / 64 = 2) : dec l = (at' l 0 % 32 * 64 + at' l 1 % 64, 2) := by
  unfold dec cnt
  simp only [Bool.and_eq_true, decide_eq_true_eq, beq_iff_eq]
  rw [if_neg, if_pos, if_pos] <;> omega
theorem d_3 {l : List UInt8} (h1 : at' l 0 / 16 = 14) (h3 : 3 ≤ l.length) (h4 : at' l 1 / 64 = 2) (h5 : at' l 2 / 64 = 2) (h6 : at' l 0 = 224 → 160 ≤ at' l 1) (h7 : at' l 0 = 237 → at' l 1 ≤ 159) :
    dec l = (at' l 0 % 16 * 4096 + at' l 1 % 64 * 64 + at' l 2 % 64, 3) ∧ 2048 ≤ at' l 0 % 16 * 4096 + at' l 1 % 64 * 64 + at' l 2 % 64 := by
  have b1 := at_lt (l := l) (k := 1)
  have b2 := at_lt (l := l) (k := 2)
  unfold dec cnt
  simp only [Bool.and_eq_true, decide_eq_true_eq, beq_iff_eq, valid_nat]
  refine ⟨?_, by omega⟩
  rw [if_neg, if_neg, if_pos, if_pos] <;> omega
theorem d_4 {l : List UInt8} (h1 : 240 ≤ at' l 0) (h2 : at' l 0 ≤ 244) (h3 : 4 ≤ l.length) (h4 : at' l 1 / 64 = 2) (h5 : at' l 2 / 64 = 2) (h8 : at' l 3 / 64 = 2) (h6 : at' l 0 = 240 → 144 ≤ at' l 1) (h7 : at' l 0 = 244 → at' l 1 ≤ 143) :
    dec l = (at' l 0 % 8 * 262144 + at' l 1 % 64 * 4096 + at' l 2 % 64 * 64 + at' l 3 % 64, 4) ∧ 65536 ≤ at' l 0 % 8 * 262144 + at' l 1 % 64 * 4096 + at' l 2 % 64 * 64 + at' l 3 % 64 := by
  unfold dec cnt
  simp only [Bool.and_eq_true, decide_eq_true_eq, beq_iff_eq, valid_nat]
  refine ⟨?_, by omega⟩
  rw [if_neg, if_neg, if_neg, if_pos, if_pos] <;> omega
theorem ite2 {p q : Prop} [Decidable p] [Decidable q] {a b : Nat × Nat} (h : p → ¬ q) (k : ¬ p → b = (65533, 1)) : (if p then (if q then a else (65533, 1)) else b) = (65533, 1) := by
  by_cases hp : p
  · rw [if_pos hp, if_neg (h hp)]
  · rw [if_neg hp, k hp]
theorem d_0 {l : List UInt8} (h0 : 128 ≤ at' l 0) (n2 : ¬ (194 ≤ at' l 0 ∧ at' l 0 ≤ 223 ∧ 2 ≤ l.length ∧ at' l 1 / 64 = 2))
    (n3 : ¬ (at' l 0 / 16 = 14 ∧ 3 ≤ l.length ∧ at' l 1 / 64 = 2 ∧ at' l 2 / 64 = 2 ∧ (at' l 0 = 224 → 160 ≤ at' l 1) ∧ (at' l 0 = 237 → at' l 1 ≤ 159)))
    (n4 : ¬ (240 ≤ at' l 0 ∧ at' l 0 ≤ 244 ∧ 4 ≤ l.length ∧ at' l 1 / 64 = 2 ∧ at' l 2 / 64 = 2 ∧ at' l 3 / 64 = 2 ∧ (at' l 0 = 240 → 144 ≤ at' l 1) ∧ (at' l 0 = 244 → at' l 1 ≤ 143))) : dec l = (65533, 1) := by
  have b0 := at_lt (l := l) (k := 0)
  unfold dec cnt
  simp only [Bool.and_eq_true, decide_eq_true_eq, beq_iff_eq, valid_nat]
  rw [if_neg (by omega), ite2]
  · omega
  · intro _; rw [ite2]
    · omega
    · intro _; rw [ite2]
      · omega
      · intro _; rfl
theorem at_take3 {l : List UInt8} (h : l.take 3 = fffd) : 3 ≤ l.length ∧ at' l 0 = 0xEF ∧ at' l 1 = 0xBF ∧ at' l 2 = 0xBD := by
  match l, h with
  | x :: y :: z :: r, h =>
    simp only [List.take_succ_cons, List.take_zero, fffd, List.cons.injEq, and_true] at h
    obtain ⟨rfl, rfl, rfl⟩ := h
    exact ⟨by simp, rfl, rfl, rfl⟩
  | [], h => simp [fffd] at h
  | [x], h => simp [fffd] at h
  | [x, y], h => simp [fffd] at h
theorem two_of {l : List UInt8} (h : 2 ≤ l.length) : ∃ x y r, l = x :: y :: r := by
  cases l with
  | nil => simp at h
  | cons x l => cases l with
    | nil => simp at h
    | cons y r => exact ⟨x, y, r, rfl⟩
theorem three_of {l : List UInt8} (h : 3 ≤ l.length) : ∃ x y z r, l = x :: y :: z :: r := by
  cases l with
  | nil => simp at h
  | cons x l => cases l with
    | nil => simp at h
    | cons y l => cases l with
      | nil => simp at h
      | cons z r => exact ⟨x, y, z, r, rfl⟩
theorem four {l : List UInt8} (h : 4 ≤ l.length) : ∃ x y z w r, l = x :: y :: z :: w :: r := by
  cases l with
  | nil => simp at h
  | cons x l => cases l with
    | nil => simp at h
    | cons y l => cases l with
      | nil => simp at h
      | cons z l => cases l with
        | nil => simp at h
        | cons w r => exact ⟨x, y, z, w, r, rfl⟩
theorem u8_eq {x : UInt8} {n : Nat} (h : x.toNat = n) : x = UInt8.ofNat n := (u8_of h.symm).symm
theorem first_high {l : List UInt8} (h : l ≠ []) (ha : 128 ≤ at' l 0) : Chr l ∨ Lone l := by
  by_cases n2 : 194 ≤ at' l 0 ∧ at' l 0 ≤ 223 ∧ 2 ≤ l.length ∧ at' l 1 / 64 = 2
  · obtain ⟨q1, q2, q3, q4⟩ := n2
    have f := f_2 q1 q2 q3 q4
    have d := d_2 q1 q2 q3 q4
    have b1 := at_lt (l := l) (k := 1)
    obtain ⟨x, y, r, rfl⟩ : ∃ x y r, l = x :: y :: r := two_of q3
    rw [at0] at *
    rw [at1] at *
    refine .inl ⟨by omega, by rw [f]; simp, by rw [d, f], ?_, ?_, .inr ⟨by omega, by rw [d]; simp only; omega, ha⟩⟩
    · rw [d, f]
      simp only
      rw [enc2 (by omega) (by omega), u8_of (x := x) (by omega), u8_of (x := y) (by omega)]
      rfl
    · rw [d]; intro e; simp only at e; omega
  by_cases n3 : at' l 0 / 16 = 14 ∧ 3 ≤ l.length ∧ at' l 1 / 64 = 2 ∧ at' l 2 / 64 = 2 ∧ (at' l 0 = 224 → 160 ≤ at' l 1) ∧ (at' l 0 = 237 → at' l 1 ≤ 159)
  · obtain ⟨q1, q2, q3, q4, q5, q6⟩ := n3
    have f := f_3 q1 q2 q3 q4 q5 q6
    obtain ⟨d, d2⟩ := d_3 q1 q2 q3 q4 q5 q6
    have b1 := at_lt (l := l) (k := 1)
    obtain ⟨x, y, z, r, rfl⟩ : ∃ x y z r, l = x :: y :: z :: r := three_of q2
    rw [at0] at *
    rw [at1] at *
    rw [at2] at *
    refine .inl ⟨by omega, by rw [f]; simp, by rw [d, f], ?_, ?_, .inr ⟨by omega, by rw [d]; simp only; omega, ha⟩⟩
    · rw [d, f]
      simp only
      rw [enc3 (by omega) (by omega), u8_of (x := x) (by omega), u8_of (x := y) (by omega), u8_of (x := z) (by omega)]
      rfl
    · rw [d]; intro e; simp only at e
      rw [u8_eq (x := x) (n := 0xEF) (by omega), u8_eq (x := y) (n := 0xBF) (by omega), u8_eq (x := z) (n := 0xBD) (by omega)]
      rfl
  by_cases n4 : 240 ≤ at' l 0 ∧ at' l 0 ≤ 244 ∧ 4 ≤ l.length ∧ at' l 1 / 64 = 2 ∧ at' l 2 / 64 = 2 ∧ at' l 3 / 64 = 2 ∧ (at' l 0 = 240 → 144 ≤ at' l 1) ∧ (at' l 0 = 244 → at' l 1 ≤ 143)
  · obtain ⟨q1, q2, q3, q4, q5, q6, q7, q8⟩ := n4
    have f := f_4 q1 q2 q3 q4 q5 q6 q7 q8
    obtain ⟨d, d2⟩ := d_4 q1 q2 q3 q4 q5 q6 q7 q8
    obtain ⟨x, y, z, w, r, rfl⟩ : ∃ x y z w r, l = x :: y :: z :: w :: r := four q3
    rw [at0] at *
    rw [at1] at *
    rw [at2] at *
    rw [at3] at *
    refine .inl ⟨by omega, by rw [f]; simp, by rw [d, f], ?_, ?_, .inr ⟨by omega, by rw [d]; simp only; omega, ha⟩⟩
    · rw [d, f]
      simp only
      rw [enc4 (by omega), u8_of (x := x) (by omega), u8_of (x := y) (by omega), u8_of (x := z) (by omega), u8_of (x := w) (by omega)]
      rfl
    · rw [d]; intro e; simp only at e; omega
  have f := f_0 ha n2 n3 n4
  have d := d_0 ha n2 n3 n4
  refine .inr ⟨f, by rw [d], by rw [d], fun e => ?_, ha⟩
  obtain ⟨e1, e2, e3, e4⟩ := at_take3 e
  omega
theorem first_way {l : List UInt8} (h : l ≠ []) : Chr l ∨ Lone l := by
  by_cases ha : at' l 0 < 128
  · exact .inl (first_low h ha)
  · exact first_high h (by omega)
end Oct
