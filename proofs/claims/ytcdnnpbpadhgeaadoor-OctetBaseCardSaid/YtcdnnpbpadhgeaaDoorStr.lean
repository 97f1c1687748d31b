/- Operations on texts, as lists of bytes. No condition. -/
import Derived.Test.YtcdnnpbpadhgeaaDoorSpec
set_option linter.unusedVariables false
set_option linter.unusedSimpArgs false
namespace Oct
open Go Go.Ev
variable {P : Program} {T : TypeId} {h : H}
theorem len_str (hT : P.underlying T = some .string) {l : List UInt8} : aBuiltin P .len #[T] [.string (bs l)] h = some (.int .i64 l.length, h) := by
  simp [aBuiltin, hT, aLen, bs_size]
theorem sl_from (hT : P.underlying T = some .string) {l : List UInt8} {k : IntKind} {i : Int} (h0 : 0 ≤ i) (h1 : i ≤ l.length) : aSlice P T (.string (bs l)) (some (.int k i)) none none h = some (.string (bs (l.drop i.toNat))) := by
  simp only [aSlice, hT, Option.isSome_none, Bool.false_eq_true, if_false, bnd, Option.bind_some, bs_size, bs_extract]
  rw [if_pos ⟨h0, h1⟩]
  simp only [Option.bind_some]
  rw [List.take_of_length_le (by simp)]
theorem sl_to (hT : P.underlying T = some .string) {l : List UInt8} {k : IntKind} {i : Int} (h0 : 0 ≤ i) (h1 : i ≤ l.length) : aSlice P T (.string (bs l)) none (some (.int k i)) none h = some (.string (bs (l.take i.toNat))) := by
  simp only [aSlice, hT, Option.isSome_none, Bool.false_eq_true, if_false, bnd, Option.bind_some, bs_size, bs_extract]
  rw [if_pos ⟨h0, h1⟩]
  simp only [Option.bind_some, List.drop_zero, Nat.sub_zero]
theorem sl_mid (hT : P.underlying T = some .string) {l : List UInt8} {k k' : IntKind} {i j : Int} (h0 : 0 ≤ i) (h1 : i ≤ j) (h2 : j ≤ l.length) : aSlice P T (.string (bs l)) (some (.int k i)) (some (.int k' j)) none h = some (.string (bs ((l.drop i.toNat).take (j.toNat - i.toNat)))) := by
  simp only [aSlice, hT, Option.isSome_none, Bool.false_eq_true, if_false, bnd, Option.bind_some, bs_size, bs_extract]
  rw [if_pos ⟨by omega, h2⟩]
  simp only [Option.bind_some]
  rw [if_pos ⟨h0, by omega⟩]
  simp only [Option.bind_some]
theorem ix_bs (hT : P.underlying T = some .string) {l : List UInt8} {k : IntKind} {i : Int} (h0 : 0 ≤ i) (h1 : i < l.length) : aIndex P T (.string (bs l)) (.int k i) = some (.int .u8 (at' l i.toNat)) := by
  rw [ix_str hT, if_pos h0]
  have hi : i.toNat < l.length := by omega
  have : (bs l)[i.toNat]? = some l[i.toNat] := by
    rw [getElem?_pos (bs l) i.toNat (by rw [bs_size]; exact hi)]
    congr 1
  rw [this, Option.map_some]
  unfold at'
  rw [List.getD_eq_getElem?_getD, List.getElem?_eq_getElem hi]; rfl
theorem ixI {l : List UInt8} {i : Nat} (h : i < l.length) : (if 0 ≤ (i : Int) then Option.map (fun b => Value.int IntKind.u8 (b : UInt8).toNat) (bs l)[(i : Int).toNat]? else none) = some (.int .u8 (at' l i)) := by
  rw [if_pos (by omega), Int.toNat_natCast, getElem?_pos (bs l) i (by rw [bs_size]; exact h), Option.map_some]
  unfold at'
  rw [List.getD_eq_getElem?_getD, List.getElem?_eq_getElem h]; rfl
theorem nil_bs : (⟨#[]⟩ : ByteArray) = bs [] := rfl
theorem range_bs (hT : P.underlying T = some .string) {s : ByteArray} : aRange P T (.string s) h = some (.pointer (some ⟨h.length, 0, none⟩), h ++ [.iter s 0]) := by
  simp only [aRange, hT]
theorem next_bs {l : List UInt8} {r pos : Nat} (hr : h[r]? = some (.iter (bs l) pos)) (hp : pos < l.length) :
    aNext (.pointer (some ⟨r, 0, none⟩)) h = some (.tuple #[.bool true, .int .i64 pos, .int .i32 (dec (l.drop pos)).1], h.set r (.iter (bs l) (pos + (dec (l.drop pos)).2))) := by
  simp only [aNext, hr, bs_size]
  rw [if_pos hp, dec_eq, bs_data]
theorem next_end {l : List UInt8} {r pos : Nat} (hr : h[r]? = some (.iter (bs l) pos)) (hp : l.length ≤ pos) : aNext (.pointer (some ⟨r, 0, none⟩)) h = some (.tuple #[.bool false], h) := by
  simp only [aNext, hr, bs_size]
  rw [if_neg (by omega)]
theorem seq_bs {c : Bool} {a b : List UInt8} : aBin P c .eql T (.string (bs a)) (.string (bs b)) = some (.bool (decide (a = b))) := by
  rw [sEql, bs_toList, bs_toList]
  congr 2
  by_cases h : a = b <;> simp [h]
theorem sne_bs {c : Bool} {a b : List UInt8} : aBin P c .neq T (.string (bs a)) (.string (bs b)) = some (.bool (!decide (a = b))) := by
  rw [sNeq, bs_toList, bs_toList]
  congr 3
  by_cases h : a = b <;> simp [h]
theorem bl {a b : List UInt8} : ((bs a).toList == (bs b).toList) = decide (a = b) := by
  rw [bs_toList, bs_toList]
  by_cases h : a = b <;> simp [h]
theorem empty_bs : (ByteArray.empty : ByteArray) = bs [] := rfl
theorem _root_.Go.Ev.Ext.set {h h' : H} (x : Ext h h') {r : Nat} (hr : h.length ≤ r) (ob : Ob) : Ext h (h'.set r ob) := by
  intro b o e
  have := lt_of_some e
  rw [List.getElem?_set_ne (by omega)]; exact x b o e
theorem _root_.Go.Ev.Ext.len {h h' : H} (x : Ext h h') : h.length ≤ h'.length := by
  by_cases hn : h.length = 0
  · omega
  · have := x (h.length - 1) h[h.length - 1] (List.getElem?_eq_getElem (by omega))
    have := lt_of_some this
    omega
theorem _root_.Go.Ev.Ext.push {h h' : H} (x : Ext h h') (ob : Ob) : Ext h (h' ++ [ob]) := fun b o e => get_app (x b o e)
end Oct
