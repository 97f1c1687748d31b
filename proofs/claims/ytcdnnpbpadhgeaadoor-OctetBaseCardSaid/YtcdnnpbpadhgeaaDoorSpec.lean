/- What the functions of octet answer, over lists of bytes. Plain, without memory. No condition. -/
import Derived.Test.YtcdnnpbpadhgeaaDoorUtf
set_option linter.unusedVariables false
set_option linter.unusedSimpArgs false
namespace Oct
open Go Go.Ev
def bs (l : List UInt8) : ByteArray := ⟨l.toArray⟩
theorem bs_size {l : List UInt8} : (bs l).size = l.length := by simp [bs, ByteArray.size]
theorem bs_data {l : List UInt8} : (bs l).data.toList = l := by simp [bs]
theorem bs_eta (s : ByteArray) : bs s.data.toList = s := by simp [bs]
theorem bs_toList {l : List UInt8} : (bs l).toList = l := by
  have h : ∀ (s : ByteArray) (i : Nat) (r : List UInt8), ByteArray.toList.loop s i r = r.reverse ++ s.data.toList.drop i := by
    intro s i r
    induction hn : s.size - i generalizing i r with
    | zero =>
      unfold ByteArray.toList.loop
      rw [if_neg (by omega), List.drop_of_length_le (by have : s.data.toList.length = s.size := rfl; omega)]; simp
    | succ n ih =>
      unfold ByteArray.toList.loop
      rw [if_pos (by omega), ih _ _ (by omega)]
      have hi : i < s.data.toList.length := by have : s.data.toList.length = s.size := rfl; omega
      rw [List.drop_eq_getElem_cons hi, List.reverse_cons, List.append_assoc]
      have : s.get! i = s.data.toList[i] := by
        show s.data[i]! = _
        rw [getElem!_pos s.data i (by simpa using hi)]; simp
      rw [this]; rfl
  unfold ByteArray.toList
  rw [h]; simp [bs]
theorem bs_inj {a b : List UInt8} : bs a = bs b ↔ a = b := by
  constructor
  · intro h; have := congrArg (fun s => s.data.toList) h; simpa [bs] using this
  · rintro rfl; rfl
theorem bs_append {a b : List UInt8} : bs a ++ bs b = bs (a ++ b) := by
  have h2 : (bs a ++ bs b) = ⟨(bs a ++ bs b).data⟩ := rfl
  rw [h2, ByteArray.data_append]; simp [bs]
theorem bs_extract {l : List UInt8} {i j : Nat} : (bs l).extract i j = bs ((l.drop i).take (j - i)) := by
  have h2 : (bs l).extract i j = ⟨((bs l).extract i j).data⟩ := rfl
  rw [h2, ByteArray.data_extract]; simp [bs, List.extract_toArray]
  try simp [List.take_drop]
/-! digits -/
def hexd (n : Nat) : UInt8 := if n < 10 then UInt8.ofNat (48 + n) else UInt8.ofNat (87 + n)
def two (x : UInt8) : List UInt8 := [hexd (x.toNat / 16), hexd (x.toNat % 16)]
def hexS (l : List UInt8) : List UInt8 := l.flatMap two
def dig (great : Bool) (c : UInt8) : Option Nat :=
  if 48 ≤ c.toNat ∧ c.toNat ≤ 57 then some (c.toNat - 48) else if 97 ≤ c.toNat ∧ c.toNat ≤ 102 then some (c.toNat - 87)
  else if great = true ∧ 65 ≤ c.toNat ∧ c.toNat ≤ 70 then some (c.toNat - 55) else none
def dig2 (great : Bool) (x y : UInt8) : Option UInt8 := match dig great x, dig great y with
  | some a, some b => some (UInt8.ofNat (16 * a + b))
  | _, _ => none
def unhexS : List UInt8 → Option (List UInt8)
  | [] => some []
  | [_] => none
  | x :: y :: r => match dig2 false x y with
    | some c => (unhexS r).map fun t => c :: t
    | none => none
/-! escapes -/
def bare (c : UInt8) : Bool := c == 0 || c == 40 || c == 41 || c == 42 || c == 92
def validS : Nat → List UInt8 → Bool
  | 0, _ => true
  | _, [] => true
  | k + 1, l => if first l = 0 then false else validS k (l.drop (first l))
def escS : Nat → List UInt8 → List UInt8
  | 0, _ => []
  | _, [] => []
  | k + 1, x :: r => if first (x :: r) = 0 ∨ bare x = true then 92 :: two x ++ escS k r else (x :: r).take (first (x :: r)) ++ escS k ((x :: r).drop (first (x :: r)))
/-- a piece of an escaped text: the bytes it says, how many it takes; or what is wrong -/
def pieceS (l : List UInt8) : List UInt8 × Nat × Int :=
  match l with
  | [] => ([], 0, 0)
  | x :: r => if x = 92 then (match r with
      | y :: z :: _ => (match dig2 true y z with | some c => ([c], 3, 0) | none => ([], 0, 11))
      | _ => ([], 0, 11))
    else if bare x = true then ([], 0, 12)
    else if first l = 0 then ([], 0, 10)
    else (l.take (first l), first l, 0)
def unescS : Nat → List UInt8 → List UInt8 × Int
  | 0, _ => ([], 0)
  | _, [] => ([], 0)
  | k + 1, l => match pieceS l with
    | (t, n, e) => if e ≠ 0 then ([], e) else match unescS k (l.drop n) with
      | (u, e) => if e ≠ 0 then ([], e) else (t ++ u, 0)
/-! base 64 -/
def lett (n : Nat) : UInt8 := if n < 26 then UInt8.ofNat (65 + n) else if n < 52 then UInt8.ofNat (71 + n) else if n < 62 then UInt8.ofNat (n - 4) else if n = 62 then 43 else 47
def grp (l : List UInt8) : Nat → Nat
  | 0 => 0
  | j + 1 => 256 * grp l j + at' l j
def chunk (l : List UInt8) : List UInt8 := (List.range 4).map fun i => if l.length < i then 61 else lett (grp l 3 / 2 ^ (18 - 6 * i) % 64)
def b64F : Nat → List UInt8 → List UInt8
  | 0, _ => []
  | k + 1, l => if l = [] then [] else chunk l ++ b64F k (l.drop 3)
def b64S (l : List UInt8) : List UInt8 := b64F l.length l
def lval (c : UInt8) : Option Nat := if 65 ≤ c.toNat ∧ c.toNat ≤ 90 then some (c.toNat - 65) else if 97 ≤ c.toNat ∧ c.toNat ≤ 122 then some (c.toNat - 71)
  else if 48 ≤ c.toNat ∧ c.toNat ≤ 57 then some (c.toNat + 4) else if c.toNat = 43 then some 62 else if c.toNat = 47 then some 63 else none
/-- what letters say: behind the state (bits, how many) -/
def unS : Nat → Nat → List UInt8 → List UInt8
  | _, _, [] => []
  | n, k, c :: r => match lval c with
    | none => []
    | some v => if 8 ≤ k + 6 then UInt8.ofNat ((64 * n + v) % 65536 / 2 ^ (k - 2)) :: unS ((64 * n + v) % 65536) (k - 2) r else unS ((64 * n + v) % 65536) (k + 6) r
def unb64S (l : List UInt8) : List UInt8 × Int := if b64S (unS 0 0 l) = l then (unS 0 0 l, 0) else ([], 13)
end Oct
