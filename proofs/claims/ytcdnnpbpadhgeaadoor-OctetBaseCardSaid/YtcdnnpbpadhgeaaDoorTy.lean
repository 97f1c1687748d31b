/- What the evaluator does with this seat's types: reads, stores, fields. No condition. -/
import Derived.Test.YtcdnnpbpadhgeaaDoorSeat
import Derived.Test.YtcdnnpbpadhgeaaDoorEvLib
set_option linter.unusedVariables false
namespace Go.Proofs.YtcdnnpbpadhgeaaDoor
open Go.Ev
theorem un_31 : Tryd.prog.underlying 31 = some (.slice 5) := by kernel_rfl
theorem sz_31 : szOf Tryd.prog 31 = some 1 := by kernel_rfl
theorem ag_31 : Ev.isAgg Tryd.prog 31 = some false := by kernel_rfl
theorem ze_31 : zeroOf Tryd.prog 31 = some (.slice none 0 0) := by kernel_rfl
theorem by_31 : bytesOf Tryd.prog 31 = some 24 := by kernel_rfl
theorem un_5 : Tryd.prog.underlying 5 = some (.int .u8) := by kernel_rfl
theorem sz_5 : szOf Tryd.prog 5 = some 1 := by kernel_rfl
theorem ag_5 : Ev.isAgg Tryd.prog 5 = some false := by kernel_rfl
theorem ze_5 : zeroOf Tryd.prog 5 = some (.int .u8 0) := by kernel_rfl
theorem by_5 : bytesOf Tryd.prog 5 = some 1 := by kernel_rfl
theorem el_31 : elOf Tryd.prog 31 = some 5 := by kernel_rfl
theorem ld_31 {b o : Nat} {h : H} : aLoad Tryd.prog 31 (.pointer (some ⟨b, o, none⟩)) h = rd h b o := by kernel_rfl
theorem un_33 : Tryd.prog.underlying 33 = some (.pointer 35) := by kernel_rfl
theorem sz_33 : szOf Tryd.prog 33 = some 1 := by kernel_rfl
theorem ag_33 : Ev.isAgg Tryd.prog 33 = some false := by kernel_rfl
theorem ze_33 : zeroOf Tryd.prog 33 = some (.pointer none) := by kernel_rfl
theorem by_33 : bytesOf Tryd.prog 33 = some 8 := by kernel_rfl
theorem ld_33 {b o : Nat} {h : H} : aLoad Tryd.prog 33 (.pointer (some ⟨b, o, none⟩)) h = rd h b o := by kernel_rfl
theorem st_31 {b o : Nat} {v : Value} {h : H} : aStore Tryd.prog 31 (.pointer (some ⟨b, o, none⟩)) v h = if v.cells.size = 1 then wr h b o v.cells.toList else none := by kernel_rfl
theorem st_33 {b o : Nat} {v : Value} {h : H} : aStore Tryd.prog 33 (.pointer (some ⟨b, o, none⟩)) v h = if v.cells.size = 1 then wr h b o v.cells.toList else none := by kernel_rfl
theorem st_5 {b o : Nat} {v : Value} {h : H} : aStore Tryd.prog 5 (.pointer (some ⟨b, o, none⟩)) v h = if v.cells.size = 1 then wr h b o v.cells.toList else none := by kernel_rfl
theorem fa_35_0 {b o : Nat} : aFieldAddr Tryd.prog 35 (.pointer (some ⟨b, o, none⟩)) 0 = some (.pointer (some ⟨b, o + 0, none⟩)) := by kernel_rfl
theorem fa_35_1 {b o : Nat} : aFieldAddr Tryd.prog 35 (.pointer (some ⟨b, o, none⟩)) 1 = some (.pointer (some ⟨b, o + 1, none⟩)) := by kernel_rfl
theorem ia_31 {b o l c : Nat} {k : IntKind} {i : Int} : aIndexAddr Tryd.prog 31 (.slice (some ⟨b, o, none⟩) l c) (.int k i) = if 0 ≤ i ∧ i < l then some (.pointer (some ⟨b, o + i.toNat * 1, none⟩)) else none := by kernel_rfl
theorem sz_52 : szOf Tryd.prog 52 = some 5 := by kernel_rfl
theorem ag_52 : Ev.isAgg Tryd.prog 52 = some true := by kernel_rfl
theorem ze_52 : zeroOf Tryd.prog 52 = some (.agg #[.int .i32 0, .int .i32 0, .int .i32 0, .int .i32 0, .int .i32 0]) := by kernel_rfl
theorem by_52 : bytesOf Tryd.prog 52 = some 20 := by kernel_rfl
theorem un_9 : Tryd.prog.underlying 9 = some (.string) := by kernel_rfl
theorem sz_9 : szOf Tryd.prog 9 = some 1 := by kernel_rfl
theorem ag_9 : Ev.isAgg Tryd.prog 9 = some false := by kernel_rfl
theorem ze_9 : zeroOf Tryd.prog 9 = some (.string .empty) := by kernel_rfl
theorem by_9 : bytesOf Tryd.prog 9 = some 16 := by kernel_rfl
theorem ix_9 {s : ByteArray} {k : IntKind} {i : Int} : aIndex Tryd.prog 9 (.string s) (.int k i) = if 0 ≤ i then (s[i.toNat]?).map fun b => .int .u8 b.toNat else none := ix_str un_9
theorem len_31 {a : Option Addr} {l c : Nat} {h : H} : aBuiltin Tryd.prog .len #[31] [.slice a l c] h = some (.int .i64 l, h) := by kernel_rfl
theorem len_9 {s : ByteArray} {h : H} : aBuiltin Tryd.prog .len #[9] [.string s] h = some (.int .i64 s.size, h) := by kernel_rfl
theorem un_21 : Tryd.prog.underlying 21 = some (.int .i32) := by kernel_rfl
theorem sz_21 : szOf Tryd.prog 21 = some 1 := by kernel_rfl
theorem ag_21 : Ev.isAgg Tryd.prog 21 = some false := by kernel_rfl
theorem ze_21 : zeroOf Tryd.prog 21 = some (.int .i32 0) := by kernel_rfl
theorem by_21 : bytesOf Tryd.prog 21 = some 4 := by kernel_rfl
theorem cv_21_5 {k : IntKind} {n : Int} {h : H} : cvt Tryd.prog 21 5 (.int k n) h = some (.int .u8 (IntKind.u8.wrap n), h) := cvt_int (by rw [un_21]; rfl) un_5
theorem un_67 : Tryd.prog.underlying 67 = some (.int .u32) := by kernel_rfl
theorem sz_67 : szOf Tryd.prog 67 = some 1 := by kernel_rfl
theorem ag_67 : Ev.isAgg Tryd.prog 67 = some false := by kernel_rfl
theorem ze_67 : zeroOf Tryd.prog 67 = some (.int .u32 0) := by kernel_rfl
theorem by_67 : bytesOf Tryd.prog 67 = some 4 := by kernel_rfl
theorem cv_21_67 {k : IntKind} {n : Int} {h : H} : cvt Tryd.prog 21 67 (.int k n) h = some (.int .u32 (IntKind.u32.wrap n), h) := cvt_int (by rw [un_21]; rfl) un_67
theorem un_3 : Tryd.prog.underlying 3 = some (.int .i64) := by kernel_rfl
theorem sz_3 : szOf Tryd.prog 3 = some 1 := by kernel_rfl
theorem ag_3 : Ev.isAgg Tryd.prog 3 = some false := by kernel_rfl
theorem ze_3 : zeroOf Tryd.prog 3 = some (.int .i64 0) := by kernel_rfl
theorem by_3 : bytesOf Tryd.prog 3 = some 8 := by kernel_rfl
theorem un_42 : Tryd.prog.underlying 42 = some (.int .u64) := by kernel_rfl
theorem sz_42 : szOf Tryd.prog 42 = some 1 := by kernel_rfl
theorem ag_42 : Ev.isAgg Tryd.prog 42 = some false := by kernel_rfl
theorem ze_42 : zeroOf Tryd.prog 42 = some (.int .u64 0) := by kernel_rfl
theorem by_42 : bytesOf Tryd.prog 42 = some 8 := by kernel_rfl
theorem cv_3_42 {k : IntKind} {n : Int} {h : H} : cvt Tryd.prog 3 42 (.int k n) h = some (.int .u64 (IntKind.u64.wrap n), h) := cvt_int (by rw [un_3]; rfl) un_42
theorem cv_3_5 {k : IntKind} {n : Int} {h : H} : cvt Tryd.prog 3 5 (.int k n) h = some (.int .u8 (IntKind.u8.wrap n), h) := cvt_int (by rw [un_3]; rfl) un_5
theorem un_60 : Tryd.prog.underlying 60 = some (.unsafePointer) := by kernel_rfl
theorem sz_60 : szOf Tryd.prog 60 = some 1 := by kernel_rfl
theorem ag_60 : Ev.isAgg Tryd.prog 60 = some false := by kernel_rfl
theorem ze_60 : zeroOf Tryd.prog 60 = some (.pointer none) := by kernel_rfl
theorem by_60 : bytesOf Tryd.prog 60 = some 8 := by kernel_rfl
theorem cv_5_3 {k : IntKind} {n : Int} {h : H} : cvt Tryd.prog 5 3 (.int k n) h = some (.int .i64 (IntKind.i64.wrap n), h) := cvt_int (by rw [un_5]; rfl) un_3
theorem sz_35 : szOf Tryd.prog 35 = some 2 := by kernel_rfl
theorem ag_35 : Ev.isAgg Tryd.prog 35 = some true := by kernel_rfl
theorem ze_35 : zeroOf Tryd.prog 35 = some (.agg #[.pointer none, .slice none 0 0]) := by kernel_rfl
theorem by_35 : bytesOf Tryd.prog 35 = some 32 := by kernel_rfl
theorem zc_35 : zc Tryd.prog 35 = [.pointer none, .slice none 0 0] := by kernel_rfl
theorem ap_31_31 {b x : Value} {h : H} : aBuiltin Tryd.prog .append #[31, 31] [b, x] h = aAppend Tryd.prog 31 b x h := by kernel_rfl
theorem ap_31_9 {b x : Value} {h : H} : aBuiltin Tryd.prog .append #[31, 9] [b, x] h = aAppend Tryd.prog 31 b x h := by kernel_rfl
theorem bsl_31_1_0 {x0 : Int} {h : H} : aBuildSlice Tryd.prog 31 1 [(0, .int .u8 x0)] h = some (.slice (some ⟨h.length, 0, none⟩) 1 1, h ++ [.cells true (enc 1 5) [.int .u8 x0]]) := by kernel_rfl
theorem bsl_31_2_0_1 {x0 : Int} {x1 : Int} {h : H} : aBuildSlice Tryd.prog 31 2 [(0, .int .u8 x0), (1, .int .u8 x1)] h = some (.slice (some ⟨h.length, 0, none⟩) 2 2, h ++ [.cells true (enc 1 5) [.int .u8 x0, .int .u8 x1]]) := by kernel_rfl
theorem bsl_31_4_0_1_2_3 {x0 : Int} {x1 : Int} {x2 : Int} {x3 : Int} {h : H} : aBuildSlice Tryd.prog 31 4 [(0, .int .u8 x0), (1, .int .u8 x1), (2, .int .u8 x2), (3, .int .u8 x3)] h = some (.slice (some ⟨h.length, 0, none⟩) 4 4, h ++ [.cells true (enc 1 5) [.int .u8 x0, .int .u8 x1, .int .u8 x2, .int .u8 x3]]) := by kernel_rfl
theorem bsl_31_3_0_1_2 {x0 : Int} {x1 : Int} {x2 : Int} {h : H} : aBuildSlice Tryd.prog 31 3 [(0, .int .u8 x0), (1, .int .u8 x1), (2, .int .u8 x2)] h = some (.slice (some ⟨h.length, 0, none⟩) 3 3, h ++ [.cells true (enc 1 5) [.int .u8 x0, .int .u8 x1, .int .u8 x2]]) := by kernel_rfl
theorem neq_33_false_na {a : Addr} : aBin Tryd.prog false .neq 33 (.pointer none) (.pointer (some a)) = some (.bool true) := by kernel_rfl
theorem neq_33_false_an {a : Addr} : aBin Tryd.prog false .neq 33 (.pointer (some a)) (.pointer none) = some (.bool true) := by kernel_rfl
theorem neq_33_false_nn : aBin Tryd.prog false .neq 33 (.pointer none) (.pointer none) = some (.bool false) := by kernel_rfl
theorem eql_33_true_na {a : Addr} : aBin Tryd.prog true .eql 33 (.pointer none) (.pointer (some a)) = some (.bool false) := by kernel_rfl
theorem eql_33_true_an {a : Addr} : aBin Tryd.prog true .eql 33 (.pointer (some a)) (.pointer none) = some (.bool false) := by kernel_rfl
theorem eql_33_true_nn : aBin Tryd.prog true .eql 33 (.pointer none) (.pointer none) = some (.bool true) := by kernel_rfl
theorem un_55 : Tryd.prog.underlying 55 = some (.pointer 5) := by kernel_rfl
theorem sz_55 : szOf Tryd.prog 55 = some 1 := by kernel_rfl
theorem ag_55 : Ev.isAgg Tryd.prog 55 = some false := by kernel_rfl
theorem ze_55 : zeroOf Tryd.prog 55 = some (.pointer none) := by kernel_rfl
theorem by_55 : bytesOf Tryd.prog 55 = some 8 := by kernel_rfl
end Go.Proofs.YtcdnnpbpadhgeaaDoor
