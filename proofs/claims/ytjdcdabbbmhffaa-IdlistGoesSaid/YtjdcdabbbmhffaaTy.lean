/- What the evaluator does with this seat's types: reads, stores, fields. No condition. -/
import Derived.Test.YtjdcdabbbmhffaaSeat
import Derived.Test.YtjdcdabbbmhffaaEvLib
set_option linter.unusedVariables false
namespace Go.Proofs.Ytjdcdabbbmhffaa
open Go.Ev
theorem un_22 : Try.prog.underlying 22 = some (.slice 23) := by kernel_rfl
theorem sz_22 : szOf Try.prog 22 = some 1 := by kernel_rfl
theorem ag_22 : Ev.isAgg Try.prog 22 = some false := by kernel_rfl
theorem ze_22 : zeroOf Try.prog 22 = some (.slice none 0 0) := by kernel_rfl
theorem by_22 : bytesOf Try.prog 22 = some 24 := by kernel_rfl
theorem un_23 : Try.prog.underlying 23 = some (.int .u64) := by kernel_rfl
theorem sz_23 : szOf Try.prog 23 = some 1 := by kernel_rfl
theorem ag_23 : Ev.isAgg Try.prog 23 = some false := by kernel_rfl
theorem ze_23 : zeroOf Try.prog 23 = some (.int .u64 0) := by kernel_rfl
theorem by_23 : bytesOf Try.prog 23 = some 8 := by kernel_rfl
theorem el_22 : elOf Try.prog 22 = some 23 := by kernel_rfl
theorem ld_22 {b o : Nat} {h : H} : aLoad Try.prog 22 (.pointer (some ⟨b, o, none⟩)) h = rd h b o := by kernel_rfl
theorem ld_23 {b o : Nat} {h : H} : aLoad Try.prog 23 (.pointer (some ⟨b, o, none⟩)) h = rd h b o := by kernel_rfl
theorem un_3 : Try.prog.underlying 3 = some (.int .i64) := by kernel_rfl
theorem sz_3 : szOf Try.prog 3 = some 1 := by kernel_rfl
theorem ag_3 : Ev.isAgg Try.prog 3 = some false := by kernel_rfl
theorem ze_3 : zeroOf Try.prog 3 = some (.int .i64 0) := by kernel_rfl
theorem by_3 : bytesOf Try.prog 3 = some 8 := by kernel_rfl
theorem ld_3 {b o : Nat} {h : H} : aLoad Try.prog 3 (.pointer (some ⟨b, o, none⟩)) h = rd h b o := by kernel_rfl
theorem sz_31 : szOf Try.prog 31 = some 1 := by kernel_rfl
theorem ag_31 : Ev.isAgg Try.prog 31 = some false := by kernel_rfl
theorem ze_31 : zeroOf Try.prog 31 = some (.nilFunc) := by kernel_rfl
theorem by_31 : bytesOf Try.prog 31 = some 8 := by kernel_rfl
theorem ld_31 {b o : Nat} {h : H} : aLoad Try.prog 31 (.pointer (some ⟨b, o, none⟩)) h = rd h b o := by kernel_rfl
theorem un_5 : Try.prog.underlying 5 = some (.int .u8) := by kernel_rfl
theorem sz_5 : szOf Try.prog 5 = some 1 := by kernel_rfl
theorem ag_5 : Ev.isAgg Try.prog 5 = some false := by kernel_rfl
theorem ze_5 : zeroOf Try.prog 5 = some (.int .u8 0) := by kernel_rfl
theorem by_5 : bytesOf Try.prog 5 = some 1 := by kernel_rfl
theorem ld_5 {b o : Nat} {h : H} : aLoad Try.prog 5 (.pointer (some ⟨b, o, none⟩)) h = rd h b o := by kernel_rfl
theorem un_76 : Try.prog.underlying 76 = some (.int .u64) := by kernel_rfl
theorem sz_76 : szOf Try.prog 76 = some 1 := by kernel_rfl
theorem ag_76 : Ev.isAgg Try.prog 76 = some false := by kernel_rfl
theorem ze_76 : zeroOf Try.prog 76 = some (.int .u64 0) := by kernel_rfl
theorem by_76 : bytesOf Try.prog 76 = some 8 := by kernel_rfl
theorem ld_76 {b o : Nat} {h : H} : aLoad Try.prog 76 (.pointer (some ⟨b, o, none⟩)) h = rd h b o := by kernel_rfl
theorem un_4 : Try.prog.underlying 4 = some (.bool) := by kernel_rfl
theorem sz_4 : szOf Try.prog 4 = some 1 := by kernel_rfl
theorem ag_4 : Ev.isAgg Try.prog 4 = some false := by kernel_rfl
theorem ze_4 : zeroOf Try.prog 4 = some (.bool false) := by kernel_rfl
theorem by_4 : bytesOf Try.prog 4 = some 1 := by kernel_rfl
theorem ld_4 {b o : Nat} {h : H} : aLoad Try.prog 4 (.pointer (some ⟨b, o, none⟩)) h = rd h b o := by kernel_rfl
theorem st_22 {b o : Nat} {v : Value} {h : H} : aStore Try.prog 22 (.pointer (some ⟨b, o, none⟩)) v h = if v.cells.size = 1 then wr h b o v.cells.toList else none := by kernel_rfl
theorem st_23 {b o : Nat} {v : Value} {h : H} : aStore Try.prog 23 (.pointer (some ⟨b, o, none⟩)) v h = if v.cells.size = 1 then wr h b o v.cells.toList else none := by kernel_rfl
theorem st_3 {b o : Nat} {v : Value} {h : H} : aStore Try.prog 3 (.pointer (some ⟨b, o, none⟩)) v h = if v.cells.size = 1 then wr h b o v.cells.toList else none := by kernel_rfl
theorem st_31 {b o : Nat} {v : Value} {h : H} : aStore Try.prog 31 (.pointer (some ⟨b, o, none⟩)) v h = if v.cells.size = 1 then wr h b o v.cells.toList else none := by kernel_rfl
theorem st_4 {b o : Nat} {v : Value} {h : H} : aStore Try.prog 4 (.pointer (some ⟨b, o, none⟩)) v h = if v.cells.size = 1 then wr h b o v.cells.toList else none := by kernel_rfl
theorem st_5 {b o : Nat} {v : Value} {h : H} : aStore Try.prog 5 (.pointer (some ⟨b, o, none⟩)) v h = if v.cells.size = 1 then wr h b o v.cells.toList else none := by kernel_rfl
theorem st_76 {b o : Nat} {v : Value} {h : H} : aStore Try.prog 76 (.pointer (some ⟨b, o, none⟩)) v h = if v.cells.size = 1 then wr h b o v.cells.toList else none := by kernel_rfl
theorem ia_22 {b o l c : Nat} {k : IntKind} {i : Int} : aIndexAddr Try.prog 22 (.slice (some ⟨b, o, none⟩) l c) (.int k i) = if 0 ≤ i ∧ i < l then some (.pointer (some ⟨b, o + i.toNat * 1, none⟩)) else none := by kernel_rfl
theorem un_36 : Try.prog.underlying 36 = some (.slice 5) := by kernel_rfl
theorem sz_36 : szOf Try.prog 36 = some 1 := by kernel_rfl
theorem ag_36 : Ev.isAgg Try.prog 36 = some false := by kernel_rfl
theorem ze_36 : zeroOf Try.prog 36 = some (.slice none 0 0) := by kernel_rfl
theorem by_36 : bytesOf Try.prog 36 = some 24 := by kernel_rfl
theorem el_36 : elOf Try.prog 36 = some 5 := by kernel_rfl
theorem ia_36 {b o l c : Nat} {k : IntKind} {i : Int} : aIndexAddr Try.prog 36 (.slice (some ⟨b, o, none⟩) l c) (.int k i) = if 0 ≤ i ∧ i < l then some (.pointer (some ⟨b, o + i.toNat * 1, none⟩)) else none := by kernel_rfl
theorem un_42 : Try.prog.underlying 42 = some (.slice 22) := by kernel_rfl
theorem sz_42 : szOf Try.prog 42 = some 1 := by kernel_rfl
theorem ag_42 : Ev.isAgg Try.prog 42 = some false := by kernel_rfl
theorem ze_42 : zeroOf Try.prog 42 = some (.slice none 0 0) := by kernel_rfl
theorem by_42 : bytesOf Try.prog 42 = some 24 := by kernel_rfl
theorem el_42 : elOf Try.prog 42 = some 22 := by kernel_rfl
theorem ia_42 {b o l c : Nat} {k : IntKind} {i : Int} : aIndexAddr Try.prog 42 (.slice (some ⟨b, o, none⟩) l c) (.int k i) = if 0 ≤ i ∧ i < l then some (.pointer (some ⟨b, o + i.toNat * 1, none⟩)) else none := by kernel_rfl
theorem un_9 : Try.prog.underlying 9 = some (.string) := by kernel_rfl
theorem sz_9 : szOf Try.prog 9 = some 1 := by kernel_rfl
theorem ag_9 : Ev.isAgg Try.prog 9 = some false := by kernel_rfl
theorem ze_9 : zeroOf Try.prog 9 = some (.string .empty) := by kernel_rfl
theorem by_9 : bytesOf Try.prog 9 = some 16 := by kernel_rfl
theorem ix_9 {s : ByteArray} {k : IntKind} {i : Int} : aIndex Try.prog 9 (.string s) (.int k i) = if 0 ≤ i then (s[i.toNat]?).map fun b => .int .u8 b.toNat else none := ix_str un_9
theorem len_22 {a : Option Addr} {l c : Nat} {h : H} : aBuiltin Try.prog .len #[22] [.slice a l c] h = some (.int .i64 l, h) := by kernel_rfl
theorem len_36 {a : Option Addr} {l c : Nat} {h : H} : aBuiltin Try.prog .len #[36] [.slice a l c] h = some (.int .i64 l, h) := by kernel_rfl
theorem len_42 {a : Option Addr} {l c : Nat} {h : H} : aBuiltin Try.prog .len #[42] [.slice a l c] h = some (.int .i64 l, h) := by kernel_rfl
theorem cv_23_5 {k : IntKind} {n : Int} {h : H} : cvt Try.prog 23 5 (.int k n) h = some (.int .u8 (IntKind.u8.wrap n), h) := cvt_int (by rw [un_23]; rfl) un_5
theorem cv_3_23 {k : IntKind} {n : Int} {h : H} : cvt Try.prog 3 23 (.int k n) h = some (.int .u64 (IntKind.u64.wrap n), h) := cvt_int (by rw [un_3]; rfl) un_23
theorem un_61 : Try.prog.underlying 61 = some (.int .u64) := by kernel_rfl
theorem sz_61 : szOf Try.prog 61 = some 1 := by kernel_rfl
theorem ag_61 : Ev.isAgg Try.prog 61 = some false := by kernel_rfl
theorem ze_61 : zeroOf Try.prog 61 = some (.int .u64 0) := by kernel_rfl
theorem by_61 : bytesOf Try.prog 61 = some 8 := by kernel_rfl
theorem cv_3_61 {k : IntKind} {n : Int} {h : H} : cvt Try.prog 3 61 (.int k n) h = some (.int .u64 (IntKind.u64.wrap n), h) := cvt_int (by rw [un_3]; rfl) un_61
theorem cv_3_76 {k : IntKind} {n : Int} {h : H} : cvt Try.prog 3 76 (.int k n) h = some (.int .u64 (IntKind.u64.wrap n), h) := cvt_int (by rw [un_3]; rfl) un_76
theorem cv_5_23 {k : IntKind} {n : Int} {h : H} : cvt Try.prog 5 23 (.int k n) h = some (.int .u64 (IntKind.u64.wrap n), h) := cvt_int (by rw [un_5]; rfl) un_23
theorem cv_5_3 {k : IntKind} {n : Int} {h : H} : cvt Try.prog 5 3 (.int k n) h = some (.int .i64 (IntKind.i64.wrap n), h) := cvt_int (by rw [un_5]; rfl) un_3
theorem cv_61_3 {k : IntKind} {n : Int} {h : H} : cvt Try.prog 61 3 (.int k n) h = some (.int .i64 (IntKind.i64.wrap n), h) := cvt_int (by rw [un_61]; rfl) un_3
theorem un_74 : Try.prog.underlying 74 = some (.int .u32) := by kernel_rfl
theorem sz_74 : szOf Try.prog 74 = some 1 := by kernel_rfl
theorem ag_74 : Ev.isAgg Try.prog 74 = some false := by kernel_rfl
theorem ze_74 : zeroOf Try.prog 74 = some (.int .u32 0) := by kernel_rfl
theorem by_74 : bytesOf Try.prog 74 = some 4 := by kernel_rfl
theorem cv_61_74 {k : IntKind} {n : Int} {h : H} : cvt Try.prog 61 74 (.int k n) h = some (.int .u32 (IntKind.u32.wrap n), h) := cvt_int (by rw [un_61]; rfl) un_74
theorem cv_74_5 {k : IntKind} {n : Int} {h : H} : cvt Try.prog 74 5 (.int k n) h = some (.int .u8 (IntKind.u8.wrap n), h) := cvt_int (by rw [un_74]; rfl) un_5
theorem zc_22 : zc Try.prog 22 = [.slice none 0 0] := by kernel_rfl
theorem zc_3 : zc Try.prog 3 = [.int .i64 0] := by kernel_rfl
theorem zc_31 : zc Try.prog 31 = [.nilFunc] := by kernel_rfl
theorem zc_4 : zc Try.prog 4 = [.bool false] := by kernel_rfl
theorem zc_76 : zc Try.prog 76 = [.int .u64 0] := by kernel_rfl
theorem ap_22_22 {b x : Value} {h : H} : aBuiltin Try.prog .append #[22, 22] [b, x] h = aAppend Try.prog 22 b x h := by kernel_rfl
theorem ap_36_36 {b x : Value} {h : H} : aBuiltin Try.prog .append #[36, 36] [b, x] h = aAppend Try.prog 36 b x h := by kernel_rfl
theorem ap_42_42 {b x : Value} {h : H} : aBuiltin Try.prog .append #[42, 42] [b, x] h = aAppend Try.prog 42 b x h := by kernel_rfl
theorem co_22_22 {b x : Value} {h : H} : aBuiltin Try.prog .copy #[22, 22] [b, x] h = aCopy Try.prog 22 b x h := by kernel_rfl
theorem bsl_22_1_0 {x0 : Int} {h : H} : aBuildSlice Try.prog 22 1 [(0, .int .u64 x0)] h = some (.slice (some ⟨h.length, 0, none⟩) 1 1, h ++ [.cells true (enc 1 23) [.int .u64 x0]]) := by kernel_rfl
theorem bsl_22_0  {h : H} : aBuildSlice Try.prog 22 0 [] h = some (.slice (some ⟨h.length, 0, none⟩) 0 0, h ++ [.cells true (enc 1 23) []]) := by kernel_rfl
theorem bsl_42_1_0 {x0a : Option Addr} {x0l x0c : Nat} {h : H} : aBuildSlice Try.prog 42 1 [(0, .slice x0a x0l x0c)] h = some (.slice (some ⟨h.length, 0, none⟩) 1 1, h ++ [.cells true (enc 1 22) [.slice x0a x0l x0c]]) := by kernel_rfl
theorem bsl_36_1_0 {x0 : Int} {h : H} : aBuildSlice Try.prog 36 1 [(0, .int .u8 x0)] h = some (.slice (some ⟨h.length, 0, none⟩) 1 1, h ++ [.cells true (enc 1 5) [.int .u8 x0]]) := by kernel_rfl
theorem bsl_36_0  {h : H} : aBuildSlice Try.prog 36 0 [] h = some (.slice (some ⟨h.length, 0, none⟩) 0 0, h ++ [.cells true (enc 1 5) []]) := by kernel_rfl
theorem bsl_36_2_0_1 {x0 : Int} {x1 : Int} {h : H} : aBuildSlice Try.prog 36 2 [(0, .int .u8 x0), (1, .int .u8 x1)] h = some (.slice (some ⟨h.length, 0, none⟩) 2 2, h ++ [.cells true (enc 1 5) [.int .u8 x0, .int .u8 x1]]) := by kernel_rfl
theorem bsl_36_4_0_1_2_3 {x0 : Int} {x1 : Int} {x2 : Int} {x3 : Int} {h : H} : aBuildSlice Try.prog 36 4 [(0, .int .u8 x0), (1, .int .u8 x1), (2, .int .u8 x2), (3, .int .u8 x3)] h = some (.slice (some ⟨h.length, 0, none⟩) 4 4, h ++ [.cells true (enc 1 5) [.int .u8 x0, .int .u8 x1, .int .u8 x2, .int .u8 x3]]) := by kernel_rfl
theorem bsl_42_3_0_1_2 {x0a : Option Addr} {x0l x0c : Nat} {x1a : Option Addr} {x1l x1c : Nat} {x2a : Option Addr} {x2l x2c : Nat} {h : H} : aBuildSlice Try.prog 42 3 [(0, .slice x0a x0l x0c), (1, .slice x1a x1l x1c), (2, .slice x2a x2l x2c)] h = some (.slice (some ⟨h.length, 0, none⟩) 3 3, h ++ [.cells true (enc 1 22) [.slice x0a x0l x0c, .slice x1a x1l x1c, .slice x2a x2l x2c]]) := by kernel_rfl
theorem bsl_42_4_0_1_2_3 {x0a : Option Addr} {x0l x0c : Nat} {x1a : Option Addr} {x1l x1c : Nat} {x2a : Option Addr} {x2l x2c : Nat} {x3a : Option Addr} {x3l x3c : Nat} {h : H} : aBuildSlice Try.prog 42 4 [(0, .slice x0a x0l x0c), (1, .slice x1a x1l x1c), (2, .slice x2a x2l x2c), (3, .slice x3a x3l x3c)] h = some (.slice (some ⟨h.length, 0, none⟩) 4 4, h ++ [.cells true (enc 1 22) [.slice x0a x0l x0c, .slice x1a x1l x1c, .slice x2a x2l x2c, .slice x3a x3l x3c]]) := by kernel_rfl
theorem bsl_42_2_0_1 {x0a : Option Addr} {x0l x0c : Nat} {x1a : Option Addr} {x1l x1c : Nat} {h : H} : aBuildSlice Try.prog 42 2 [(0, .slice x0a x0l x0c), (1, .slice x1a x1l x1c)] h = some (.slice (some ⟨h.length, 0, none⟩) 2 2, h ++ [.cells true (enc 1 22) [.slice x0a x0l x0c, .slice x1a x1l x1c]]) := by kernel_rfl
theorem bsl_42_5_0_1_2_3_4 {x0a : Option Addr} {x0l x0c : Nat} {x1a : Option Addr} {x1l x1c : Nat} {x2a : Option Addr} {x2l x2c : Nat} {x3a : Option Addr} {x3l x3c : Nat} {x4a : Option Addr} {x4l x4c : Nat} {h : H} : aBuildSlice Try.prog 42 5 [(0, .slice x0a x0l x0c), (1, .slice x1a x1l x1c), (2, .slice x2a x2l x2c), (3, .slice x3a x3l x3c), (4, .slice x4a x4l x4c)] h = some (.slice (some ⟨h.length, 0, none⟩) 5 5, h ++ [.cells true (enc 1 22) [.slice x0a x0l x0c, .slice x1a x1l x1c, .slice x2a x2l x2c, .slice x3a x3l x3c, .slice x4a x4l x4c]]) := by kernel_rfl
theorem mks_22 {k k' : IntKind} {l c : Int} {h : H} (h1 : 0 ≤ l) (h2 : l ≤ c) (h3 : (8 : Int) * c ≤ 281474976710656) : aMakeSlice Try.prog 22 (.int k l) (.int k' c) h = some (.slice (some ⟨h.length, 0, none⟩) l.toNat c.toNat, h ++ [.cells true (enc 1 23) (List.replicate c.toNat (.int .u64 0))]) := mk1 el_22 sz_23 ze_23 by_23 rfl rfl h1 h2 (by omega) (by omega)
end Go.Proofs.Ytjdcdabbbmhffaa
