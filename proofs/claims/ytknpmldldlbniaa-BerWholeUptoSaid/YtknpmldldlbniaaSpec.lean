/- The headers of items as a function of lists: plain, without memory. No condition. -/
import Derived.Test.YtknpmldldlbniaaEvLib
namespace Ber
open Go Go.Ev
structure Tlv where
  cls : Int
  cons : Bool
  num : Int
  frm : Int
  to : Int
  deriving DecidableEq
def Tlv.nil : Tlv := ⟨0, false, 0, 0, 0⟩
def Tlv.v (t : Tlv) : Value := .agg #[.int .i8 t.cls, .bool t.cons, .int .i64 t.num, .int .i64 t.frm, .int .i64 t.to]
/-- octets, the highest first -/
def be (l : List UInt8) : Nat := l.foldl (fun a b => 256 * a + b.toNat) 0
/-- the body's length n stands ahead of the place frm: does it fit? -/
def fin (tag : Nat) (frm e : Int) (n : Nat) : Tlv × Int := if (n : Int) > e - frm then (.nil, 5) else (⟨tag / 64, tag / 32 % 2 == 1, tag % 32, frm, frm + n⟩, 0)
def headS (bs : List UInt8) (a e : Int) : Tlv × Int :=
  if a < 0 ∨ e < a ∨ bs.length < e then (.nil, 2)
  else if a = e then (.nil, 5)
  else
    let tag := (bs.getD a.toNat 0).toNat
    if tag % 32 = 31 then (.nil, 20)
    else if a + 1 = e then (.nil, 5)
    else
      let n := (bs.getD (a.toNat + 1) 0).toNat
      if n = 128 ∨ n = 255 then (.nil, 21)
      else if n < 128 then fin tag (a + 2) e n
      else if (n - 128 : Int) > e - (a + 2) then (.nil, 5)
      else fin tag (a + 2 + (n - 128)) e (be ((bs.drop (a.toNat + 2)).take (n - 128)))
theorem be_snoc (l : List UInt8) (x : UInt8) : be (l ++ [x]) = 256 * be l + x.toNat := by simp [be]
end Ber
namespace Ber
open Go Go.Ev
theorem b31 {n : Nat} (h : n < 256) : iAnd .u8 (n : Int) 31 = ((n % 32 : Nat) : Int) := of_decide_eq_true (byte_all (p := fun n => decide (iAnd .u8 (n : Int) 31 = ((n % 32 : Nat) : Int))) (by decide +kernel) n h)
theorem b32 {n : Nat} (h : n < 256) : (!decide (iAnd .u8 (n : Int) 32 = 0)) = (n / 32 % 2 == 1) := of_decide_eq_true (byte_all (p := fun n => decide ((!decide (iAnd .u8 (n : Int) 32 = 0)) = (n / 32 % 2 == 1))) (by decide +kernel) n h)
theorem bs6 {n : Nat} (h : n < 256) : IntKind.i8.wrap (iShr .u8 (n : Int) 6) = ((n / 64 : Nat) : Int) := of_decide_eq_true (byte_all (p := fun n => decide (IntKind.i8.wrap (iShr .u8 (n : Int) 6) = ((n / 64 : Nat) : Int))) (by decide +kernel) n h)
theorem bn128 {n : Nat} (h : n < 256) (h2 : 128 ≤ n) : IntKind.i64.wrap (iAndNot .u64 (n : Int) 128) = ((n - 128 : Nat) : Int) := by
  have := byte_all (p := fun n => n < 128 || decide (IntKind.i64.wrap (iAndNot .u64 (n : Int) 128) = ((n - 128 : Nat) : Int))) (by decide +kernel) n h
  simp only [Bool.or_eq_true, decide_eq_true_eq] at this
  exact this.resolve_left (by omega)
theorem shl8 {n : Nat} (h : n < 2 ^ 48) : iShl .u64 (n : Int) 8 = ((256 * n : Nat) : Int) := by
  unfold iShl
  have : min (8 : Int).toNat IntKind.u64.bits = 8 := by decide
  rw [this, IntWalk.u64_in _ (by omega)]; omega
theorem or8 {n b : Nat} (h : n < 2 ^ 48) (hb : b < 256) : iOr .u64 ((256 * n : Nat) : Int) (b : Int) = ((256 * n + b : Nat) : Int) := by
  rw [iOr_u64 (by omega) (by omega)]
  exact congrArg Nat.cast (or_shl (i := 8) hb)
end Ber
namespace Ber
theorem foldl_be (l : List UInt8) : ∀ a, a ≤ l.foldl (fun a b => 256 * a + b.toNat) a := by
  induction l with
  | nil => intro a; exact Nat.le_refl _
  | cons x r ih => intro a; simp only [List.foldl_cons]; have := ih (256 * a + x.toNat); omega
theorem be_take_le (l : List UInt8) (i : Nat) : be (l.take i) ≤ be l := by
  conv => rhs; rw [← List.take_append_drop i l]
  unfold be
  rw [List.foldl_append]; exact foldl_be _ _
end Ber
