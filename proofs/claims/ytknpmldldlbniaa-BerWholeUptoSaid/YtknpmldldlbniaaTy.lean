/- What the evaluator does with this seat's types: reads, stores, fields. No condition. -/
import Derived.Test.YtknpmldldlbniaaSeat
import Derived.Test.YtknpmldldlbniaaEvLib
set_option linter.unusedVariables false
namespace Go.Proofs.Ytknpmldldlbniaa
open Go.Ev
theorem un_100 : Try.prog.underlying 100 = some (.slice 102) := by kernel_rfl
theorem sz_100 : szOf Try.prog 100 = some 1 := by kernel_rfl
theorem ag_100 : Ev.isAgg Try.prog 100 = some false := by kernel_rfl
theorem ze_100 : zeroOf Try.prog 100 = some (.slice none 0 0) := by kernel_rfl
theorem by_100 : bytesOf Try.prog 100 = some 24 := by kernel_rfl
theorem sz_102 : szOf Try.prog 102 = some 6 := by kernel_rfl
theorem ag_102 : Ev.isAgg Try.prog 102 = some true := by kernel_rfl
theorem ze_102 : zeroOf Try.prog 102 = some (.agg #[.int .i64 0, .int .i8 0, .bool false, .int .i64 0, .int .i64 0, .int .i64 0]) := by kernel_rfl
theorem by_102 : bytesOf Try.prog 102 = some 40 := by kernel_rfl
theorem el_100 : elOf Try.prog 100 = some 102 := by kernel_rfl
theorem ld_100 {b o : Nat} {h : H} : aLoad Try.prog 100 (.pointer (some ⟨b, o, none⟩)) h = rd h b o := by kernel_rfl
theorem ld_102 {b o : Nat} {h : H} : aLoad Try.prog 102 (.pointer (some ⟨b, o, none⟩)) h = (rdN h b o 6).map fun l => .agg l.toArray := by kernel_rfl
theorem sz_108 : szOf Try.prog 108 = some 2 := by kernel_rfl
theorem ag_108 : Ev.isAgg Try.prog 108 = some true := by kernel_rfl
theorem ze_108 : zeroOf Try.prog 108 = some (.agg #[.int .u8 0, .slice none 0 0]) := by kernel_rfl
theorem by_108 : bytesOf Try.prog 108 = some 32 := by kernel_rfl
theorem ld_108 {b o : Nat} {h : H} : aLoad Try.prog 108 (.pointer (some ⟨b, o, none⟩)) h = (rdN h b o 2).map fun l => .agg l.toArray := by kernel_rfl
theorem un_2 : Try.prog.underlying 2 = some (.int .i64) := by kernel_rfl
theorem sz_2 : szOf Try.prog 2 = some 1 := by kernel_rfl
theorem ag_2 : Ev.isAgg Try.prog 2 = some false := by kernel_rfl
theorem ze_2 : zeroOf Try.prog 2 = some (.int .i64 0) := by kernel_rfl
theorem by_2 : bytesOf Try.prog 2 = some 8 := by kernel_rfl
theorem ld_2 {b o : Nat} {h : H} : aLoad Try.prog 2 (.pointer (some ⟨b, o, none⟩)) h = rd h b o := by kernel_rfl
theorem un_22 : Try.prog.underlying 22 = some (.slice 5) := by kernel_rfl
theorem sz_22 : szOf Try.prog 22 = some 1 := by kernel_rfl
theorem ag_22 : Ev.isAgg Try.prog 22 = some false := by kernel_rfl
theorem ze_22 : zeroOf Try.prog 22 = some (.slice none 0 0) := by kernel_rfl
theorem by_22 : bytesOf Try.prog 22 = some 24 := by kernel_rfl
theorem un_5 : Try.prog.underlying 5 = some (.int .u8) := by kernel_rfl
theorem sz_5 : szOf Try.prog 5 = some 1 := by kernel_rfl
theorem ag_5 : Ev.isAgg Try.prog 5 = some false := by kernel_rfl
theorem ze_5 : zeroOf Try.prog 5 = some (.int .u8 0) := by kernel_rfl
theorem by_5 : bytesOf Try.prog 5 = some 1 := by kernel_rfl
theorem el_22 : elOf Try.prog 22 = some 5 := by kernel_rfl
theorem ld_22 {b o : Nat} {h : H} : aLoad Try.prog 22 (.pointer (some ⟨b, o, none⟩)) h = rd h b o := by kernel_rfl
theorem un_24 : Try.prog.underlying 24 = some (.int .i8) := by kernel_rfl
theorem sz_24 : szOf Try.prog 24 = some 1 := by kernel_rfl
theorem ag_24 : Ev.isAgg Try.prog 24 = some false := by kernel_rfl
theorem ze_24 : zeroOf Try.prog 24 = some (.int .i8 0) := by kernel_rfl
theorem by_24 : bytesOf Try.prog 24 = some 1 := by kernel_rfl
theorem ld_24 {b o : Nat} {h : H} : aLoad Try.prog 24 (.pointer (some ⟨b, o, none⟩)) h = rd h b o := by kernel_rfl
theorem sz_26 : szOf Try.prog 26 = some 5 := by kernel_rfl
theorem ag_26 : Ev.isAgg Try.prog 26 = some true := by kernel_rfl
theorem ze_26 : zeroOf Try.prog 26 = some (.agg #[.int .i8 0, .bool false, .int .i64 0, .int .i64 0, .int .i64 0]) := by kernel_rfl
theorem by_26 : bytesOf Try.prog 26 = some 32 := by kernel_rfl
theorem ld_26 {b o : Nat} {h : H} : aLoad Try.prog 26 (.pointer (some ⟨b, o, none⟩)) h = (rdN h b o 5).map fun l => .agg l.toArray := by kernel_rfl
theorem un_27 : Try.prog.underlying 27 = some (.int .i64) := by kernel_rfl
theorem sz_27 : szOf Try.prog 27 = some 1 := by kernel_rfl
theorem ag_27 : Ev.isAgg Try.prog 27 = some false := by kernel_rfl
theorem ze_27 : zeroOf Try.prog 27 = some (.int .i64 0) := by kernel_rfl
theorem by_27 : bytesOf Try.prog 27 = some 8 := by kernel_rfl
theorem ld_27 {b o : Nat} {h : H} : aLoad Try.prog 27 (.pointer (some ⟨b, o, none⟩)) h = rd h b o := by kernel_rfl
theorem un_3 : Try.prog.underlying 3 = some (.int .i64) := by kernel_rfl
theorem sz_3 : szOf Try.prog 3 = some 1 := by kernel_rfl
theorem ag_3 : Ev.isAgg Try.prog 3 = some false := by kernel_rfl
theorem ze_3 : zeroOf Try.prog 3 = some (.int .i64 0) := by kernel_rfl
theorem by_3 : bytesOf Try.prog 3 = some 8 := by kernel_rfl
theorem ld_3 {b o : Nat} {h : H} : aLoad Try.prog 3 (.pointer (some ⟨b, o, none⟩)) h = rd h b o := by kernel_rfl
theorem un_4 : Try.prog.underlying 4 = some (.bool) := by kernel_rfl
theorem sz_4 : szOf Try.prog 4 = some 1 := by kernel_rfl
theorem ag_4 : Ev.isAgg Try.prog 4 = some false := by kernel_rfl
theorem ze_4 : zeroOf Try.prog 4 = some (.bool false) := by kernel_rfl
theorem by_4 : bytesOf Try.prog 4 = some 1 := by kernel_rfl
theorem ld_4 {b o : Nat} {h : H} : aLoad Try.prog 4 (.pointer (some ⟨b, o, none⟩)) h = rd h b o := by kernel_rfl
theorem sz_47 : szOf Try.prog 47 = some 5 := by kernel_rfl
theorem ag_47 : Ev.isAgg Try.prog 47 = some true := by kernel_rfl
theorem ze_47 : zeroOf Try.prog 47 = some (.agg #[.int .i64 0, .int .i8 0, .int .i64 0, .int .i64 0, .string .empty]) := by kernel_rfl
theorem by_47 : bytesOf Try.prog 47 = some 48 := by kernel_rfl
theorem ld_47 {b o : Nat} {h : H} : aLoad Try.prog 47 (.pointer (some ⟨b, o, none⟩)) h = (rdN h b o 5).map fun l => .agg l.toArray := by kernel_rfl
theorem ld_5 {b o : Nat} {h : H} : aLoad Try.prog 5 (.pointer (some ⟨b, o, none⟩)) h = rd h b o := by kernel_rfl
theorem un_59 : Try.prog.underlying 59 = some (.slice 98) := by kernel_rfl
theorem sz_59 : szOf Try.prog 59 = some 1 := by kernel_rfl
theorem ag_59 : Ev.isAgg Try.prog 59 = some false := by kernel_rfl
theorem ze_59 : zeroOf Try.prog 59 = some (.slice none 0 0) := by kernel_rfl
theorem by_59 : bytesOf Try.prog 59 = some 24 := by kernel_rfl
theorem sz_98 : szOf Try.prog 98 = some 6 := by kernel_rfl
theorem ag_98 : Ev.isAgg Try.prog 98 = some true := by kernel_rfl
theorem ze_98 : zeroOf Try.prog 98 = some (.agg #[.int .i64 0, .int .i8 0, .int .i64 0, .int .i64 0, .string .empty, .slice none 0 0]) := by kernel_rfl
theorem by_98 : bytesOf Try.prog 98 = some 72 := by kernel_rfl
theorem el_59 : elOf Try.prog 59 = some 98 := by kernel_rfl
theorem ld_59 {b o : Nat} {h : H} : aLoad Try.prog 59 (.pointer (some ⟨b, o, none⟩)) h = rd h b o := by kernel_rfl
theorem un_64 : Try.prog.underlying 64 = some (.slice 26) := by kernel_rfl
theorem sz_64 : szOf Try.prog 64 = some 1 := by kernel_rfl
theorem ag_64 : Ev.isAgg Try.prog 64 = some false := by kernel_rfl
theorem ze_64 : zeroOf Try.prog 64 = some (.slice none 0 0) := by kernel_rfl
theorem by_64 : bytesOf Try.prog 64 = some 24 := by kernel_rfl
theorem el_64 : elOf Try.prog 64 = some 26 := by kernel_rfl
theorem ld_64 {b o : Nat} {h : H} : aLoad Try.prog 64 (.pointer (some ⟨b, o, none⟩)) h = rd h b o := by kernel_rfl
theorem un_67 : Try.prog.underlying 67 = some (.slice 75) := by kernel_rfl
theorem sz_67 : szOf Try.prog 67 = some 1 := by kernel_rfl
theorem ag_67 : Ev.isAgg Try.prog 67 = some false := by kernel_rfl
theorem ze_67 : zeroOf Try.prog 67 = some (.slice none 0 0) := by kernel_rfl
theorem by_67 : bytesOf Try.prog 67 = some 24 := by kernel_rfl
theorem sz_75 : szOf Try.prog 75 = some 6 := by kernel_rfl
theorem ag_75 : Ev.isAgg Try.prog 75 = some true := by kernel_rfl
theorem ze_75 : zeroOf Try.prog 75 = some (.agg #[.int .i64 0, .int .i8 0, .bool false, .int .i64 0, .int .i64 0, .int .i64 0]) := by kernel_rfl
theorem by_75 : bytesOf Try.prog 75 = some 40 := by kernel_rfl
theorem el_67 : elOf Try.prog 67 = some 75 := by kernel_rfl
theorem ld_67 {b o : Nat} {h : H} : aLoad Try.prog 67 (.pointer (some ⟨b, o, none⟩)) h = rd h b o := by kernel_rfl
theorem un_83 : Try.prog.underlying 83 = some (.slice 108) := by kernel_rfl
theorem sz_83 : szOf Try.prog 83 = some 1 := by kernel_rfl
theorem ag_83 : Ev.isAgg Try.prog 83 = some false := by kernel_rfl
theorem ze_83 : zeroOf Try.prog 83 = some (.slice none 0 0) := by kernel_rfl
theorem by_83 : bytesOf Try.prog 83 = some 24 := by kernel_rfl
theorem el_83 : elOf Try.prog 83 = some 108 := by kernel_rfl
theorem ld_83 {b o : Nat} {h : H} : aLoad Try.prog 83 (.pointer (some ⟨b, o, none⟩)) h = rd h b o := by kernel_rfl
theorem un_89 : Try.prog.underlying 89 = some (.slice 94) := by kernel_rfl
theorem sz_89 : szOf Try.prog 89 = some 1 := by kernel_rfl
theorem ag_89 : Ev.isAgg Try.prog 89 = some false := by kernel_rfl
theorem ze_89 : zeroOf Try.prog 89 = some (.slice none 0 0) := by kernel_rfl
theorem by_89 : bytesOf Try.prog 89 = some 24 := by kernel_rfl
theorem sz_94 : szOf Try.prog 94 = some 3 := by kernel_rfl
theorem ag_94 : Ev.isAgg Try.prog 94 = some true := by kernel_rfl
theorem ze_94 : zeroOf Try.prog 94 = some (.agg #[.int .i8 0, .int .i64 0, .slice none 0 0]) := by kernel_rfl
theorem by_94 : bytesOf Try.prog 94 = some 40 := by kernel_rfl
theorem el_89 : elOf Try.prog 89 = some 94 := by kernel_rfl
theorem ld_89 {b o : Nat} {h : H} : aLoad Try.prog 89 (.pointer (some ⟨b, o, none⟩)) h = rd h b o := by kernel_rfl
theorem un_9 : Try.prog.underlying 9 = some (.string) := by kernel_rfl
theorem sz_9 : szOf Try.prog 9 = some 1 := by kernel_rfl
theorem ag_9 : Ev.isAgg Try.prog 9 = some false := by kernel_rfl
theorem ze_9 : zeroOf Try.prog 9 = some (.string .empty) := by kernel_rfl
theorem by_9 : bytesOf Try.prog 9 = some 16 := by kernel_rfl
theorem ld_9 {b o : Nat} {h : H} : aLoad Try.prog 9 (.pointer (some ⟨b, o, none⟩)) h = rd h b o := by kernel_rfl
theorem ld_94 {b o : Nat} {h : H} : aLoad Try.prog 94 (.pointer (some ⟨b, o, none⟩)) h = (rdN h b o 3).map fun l => .agg l.toArray := by kernel_rfl
theorem ld_98 {b o : Nat} {h : H} : aLoad Try.prog 98 (.pointer (some ⟨b, o, none⟩)) h = (rdN h b o 6).map fun l => .agg l.toArray := by kernel_rfl
theorem st_100 {b o : Nat} {v : Value} {h : H} : aStore Try.prog 100 (.pointer (some ⟨b, o, none⟩)) v h = if v.cells.size = 1 then wr h b o v.cells.toList else none := by kernel_rfl
theorem st_102 {b o : Nat} {v : Value} {h : H} : aStore Try.prog 102 (.pointer (some ⟨b, o, none⟩)) v h = if v.cells.size = 6 then wr h b o v.cells.toList else none := by kernel_rfl
theorem st_108 {b o : Nat} {v : Value} {h : H} : aStore Try.prog 108 (.pointer (some ⟨b, o, none⟩)) v h = if v.cells.size = 2 then wr h b o v.cells.toList else none := by kernel_rfl
theorem st_22 {b o : Nat} {v : Value} {h : H} : aStore Try.prog 22 (.pointer (some ⟨b, o, none⟩)) v h = if v.cells.size = 1 then wr h b o v.cells.toList else none := by kernel_rfl
theorem st_26 {b o : Nat} {v : Value} {h : H} : aStore Try.prog 26 (.pointer (some ⟨b, o, none⟩)) v h = if v.cells.size = 5 then wr h b o v.cells.toList else none := by kernel_rfl
theorem st_27 {b o : Nat} {v : Value} {h : H} : aStore Try.prog 27 (.pointer (some ⟨b, o, none⟩)) v h = if v.cells.size = 1 then wr h b o v.cells.toList else none := by kernel_rfl
theorem st_3 {b o : Nat} {v : Value} {h : H} : aStore Try.prog 3 (.pointer (some ⟨b, o, none⟩)) v h = if v.cells.size = 1 then wr h b o v.cells.toList else none := by kernel_rfl
theorem st_4 {b o : Nat} {v : Value} {h : H} : aStore Try.prog 4 (.pointer (some ⟨b, o, none⟩)) v h = if v.cells.size = 1 then wr h b o v.cells.toList else none := by kernel_rfl
theorem st_5 {b o : Nat} {v : Value} {h : H} : aStore Try.prog 5 (.pointer (some ⟨b, o, none⟩)) v h = if v.cells.size = 1 then wr h b o v.cells.toList else none := by kernel_rfl
theorem st_64 {b o : Nat} {v : Value} {h : H} : aStore Try.prog 64 (.pointer (some ⟨b, o, none⟩)) v h = if v.cells.size = 1 then wr h b o v.cells.toList else none := by kernel_rfl
theorem st_67 {b o : Nat} {v : Value} {h : H} : aStore Try.prog 67 (.pointer (some ⟨b, o, none⟩)) v h = if v.cells.size = 1 then wr h b o v.cells.toList else none := by kernel_rfl
theorem st_83 {b o : Nat} {v : Value} {h : H} : aStore Try.prog 83 (.pointer (some ⟨b, o, none⟩)) v h = if v.cells.size = 1 then wr h b o v.cells.toList else none := by kernel_rfl
theorem st_89 {b o : Nat} {v : Value} {h : H} : aStore Try.prog 89 (.pointer (some ⟨b, o, none⟩)) v h = if v.cells.size = 1 then wr h b o v.cells.toList else none := by kernel_rfl
theorem st_94 {b o : Nat} {v : Value} {h : H} : aStore Try.prog 94 (.pointer (some ⟨b, o, none⟩)) v h = if v.cells.size = 3 then wr h b o v.cells.toList else none := by kernel_rfl
theorem fa_102_0 {b o : Nat} : aFieldAddr Try.prog 102 (.pointer (some ⟨b, o, none⟩)) 0 = some (.pointer (some ⟨b, o + 0, none⟩)) := by kernel_rfl
theorem fa_102_1 {b o : Nat} : aFieldAddr Try.prog 102 (.pointer (some ⟨b, o, none⟩)) 1 = some (.pointer (some ⟨b, o + 1, none⟩)) := by kernel_rfl
theorem fa_108_0 {b o : Nat} : aFieldAddr Try.prog 108 (.pointer (some ⟨b, o, none⟩)) 0 = some (.pointer (some ⟨b, o + 0, none⟩)) := by kernel_rfl
theorem fa_108_1 {b o : Nat} : aFieldAddr Try.prog 108 (.pointer (some ⟨b, o, none⟩)) 1 = some (.pointer (some ⟨b, o + 1, none⟩)) := by kernel_rfl
theorem fa_26_0 {b o : Nat} : aFieldAddr Try.prog 26 (.pointer (some ⟨b, o, none⟩)) 0 = some (.pointer (some ⟨b, o + 0, none⟩)) := by kernel_rfl
theorem fa_26_1 {b o : Nat} : aFieldAddr Try.prog 26 (.pointer (some ⟨b, o, none⟩)) 1 = some (.pointer (some ⟨b, o + 1, none⟩)) := by kernel_rfl
theorem fa_26_2 {b o : Nat} : aFieldAddr Try.prog 26 (.pointer (some ⟨b, o, none⟩)) 2 = some (.pointer (some ⟨b, o + 2, none⟩)) := by kernel_rfl
theorem fa_26_3 {b o : Nat} : aFieldAddr Try.prog 26 (.pointer (some ⟨b, o, none⟩)) 3 = some (.pointer (some ⟨b, o + 3, none⟩)) := by kernel_rfl
theorem fa_26_4 {b o : Nat} : aFieldAddr Try.prog 26 (.pointer (some ⟨b, o, none⟩)) 4 = some (.pointer (some ⟨b, o + 4, none⟩)) := by kernel_rfl
theorem fa_47_0 {b o : Nat} : aFieldAddr Try.prog 47 (.pointer (some ⟨b, o, none⟩)) 0 = some (.pointer (some ⟨b, o + 0, none⟩)) := by kernel_rfl
theorem fa_47_1 {b o : Nat} : aFieldAddr Try.prog 47 (.pointer (some ⟨b, o, none⟩)) 1 = some (.pointer (some ⟨b, o + 1, none⟩)) := by kernel_rfl
theorem fa_47_2 {b o : Nat} : aFieldAddr Try.prog 47 (.pointer (some ⟨b, o, none⟩)) 2 = some (.pointer (some ⟨b, o + 2, none⟩)) := by kernel_rfl
theorem fa_47_3 {b o : Nat} : aFieldAddr Try.prog 47 (.pointer (some ⟨b, o, none⟩)) 3 = some (.pointer (some ⟨b, o + 3, none⟩)) := by kernel_rfl
theorem fa_47_4 {b o : Nat} : aFieldAddr Try.prog 47 (.pointer (some ⟨b, o, none⟩)) 4 = some (.pointer (some ⟨b, o + 4, none⟩)) := by kernel_rfl
theorem fa_75_0 {b o : Nat} : aFieldAddr Try.prog 75 (.pointer (some ⟨b, o, none⟩)) 0 = some (.pointer (some ⟨b, o + 0, none⟩)) := by kernel_rfl
theorem fa_75_1 {b o : Nat} : aFieldAddr Try.prog 75 (.pointer (some ⟨b, o, none⟩)) 1 = some (.pointer (some ⟨b, o + 1, none⟩)) := by kernel_rfl
theorem fa_85_0 {b o : Nat} : aFieldAddr Try.prog 85 (.pointer (some ⟨b, o, none⟩)) 0 = some (.pointer (some ⟨b, o + 0, none⟩)) := by kernel_rfl
theorem fa_85_1 {b o : Nat} : aFieldAddr Try.prog 85 (.pointer (some ⟨b, o, none⟩)) 1 = some (.pointer (some ⟨b, o + 1, none⟩)) := by kernel_rfl
theorem fa_91_0 {b o : Nat} : aFieldAddr Try.prog 91 (.pointer (some ⟨b, o, none⟩)) 0 = some (.pointer (some ⟨b, o + 0, none⟩)) := by kernel_rfl
theorem fa_94_0 {b o : Nat} : aFieldAddr Try.prog 94 (.pointer (some ⟨b, o, none⟩)) 0 = some (.pointer (some ⟨b, o + 0, none⟩)) := by kernel_rfl
theorem fa_94_1 {b o : Nat} : aFieldAddr Try.prog 94 (.pointer (some ⟨b, o, none⟩)) 1 = some (.pointer (some ⟨b, o + 1, none⟩)) := by kernel_rfl
theorem fa_94_2 {b o : Nat} : aFieldAddr Try.prog 94 (.pointer (some ⟨b, o, none⟩)) 2 = some (.pointer (some ⟨b, o + 2, none⟩)) := by kernel_rfl
theorem fa_98_0 {b o : Nat} : aFieldAddr Try.prog 98 (.pointer (some ⟨b, o, none⟩)) 0 = some (.pointer (some ⟨b, o + 0, none⟩)) := by kernel_rfl
theorem fa_98_1 {b o : Nat} : aFieldAddr Try.prog 98 (.pointer (some ⟨b, o, none⟩)) 1 = some (.pointer (some ⟨b, o + 1, none⟩)) := by kernel_rfl
theorem fa_98_2 {b o : Nat} : aFieldAddr Try.prog 98 (.pointer (some ⟨b, o, none⟩)) 2 = some (.pointer (some ⟨b, o + 2, none⟩)) := by kernel_rfl
theorem fa_98_3 {b o : Nat} : aFieldAddr Try.prog 98 (.pointer (some ⟨b, o, none⟩)) 3 = some (.pointer (some ⟨b, o + 3, none⟩)) := by kernel_rfl
theorem fa_98_4 {b o : Nat} : aFieldAddr Try.prog 98 (.pointer (some ⟨b, o, none⟩)) 4 = some (.pointer (some ⟨b, o + 4, none⟩)) := by kernel_rfl
theorem fa_98_5 {b o : Nat} : aFieldAddr Try.prog 98 (.pointer (some ⟨b, o, none⟩)) 5 = some (.pointer (some ⟨b, o + 5, none⟩)) := by kernel_rfl
theorem ia_100 {b o l c : Nat} {k : IntKind} {i : Int} : aIndexAddr Try.prog 100 (.slice (some ⟨b, o, none⟩) l c) (.int k i) = if 0 ≤ i ∧ i < l then some (.pointer (some ⟨b, o + i.toNat * 6, none⟩)) else none := by kernel_rfl
theorem ia_22 {b o l c : Nat} {k : IntKind} {i : Int} : aIndexAddr Try.prog 22 (.slice (some ⟨b, o, none⟩) l c) (.int k i) = if 0 ≤ i ∧ i < l then some (.pointer (some ⟨b, o + i.toNat * 1, none⟩)) else none := by kernel_rfl
theorem un_41 : Try.prog.underlying 41 = some (.slice 47) := by kernel_rfl
theorem sz_41 : szOf Try.prog 41 = some 1 := by kernel_rfl
theorem ag_41 : Ev.isAgg Try.prog 41 = some false := by kernel_rfl
theorem ze_41 : zeroOf Try.prog 41 = some (.slice none 0 0) := by kernel_rfl
theorem by_41 : bytesOf Try.prog 41 = some 24 := by kernel_rfl
theorem el_41 : elOf Try.prog 41 = some 47 := by kernel_rfl
theorem ia_41 {b o l c : Nat} {k : IntKind} {i : Int} : aIndexAddr Try.prog 41 (.slice (some ⟨b, o, none⟩) l c) (.int k i) = if 0 ≤ i ∧ i < l then some (.pointer (some ⟨b, o + i.toNat * 5, none⟩)) else none := by kernel_rfl
theorem un_44 : Try.prog.underlying 44 = some (.slice 22) := by kernel_rfl
theorem sz_44 : szOf Try.prog 44 = some 1 := by kernel_rfl
theorem ag_44 : Ev.isAgg Try.prog 44 = some false := by kernel_rfl
theorem ze_44 : zeroOf Try.prog 44 = some (.slice none 0 0) := by kernel_rfl
theorem by_44 : bytesOf Try.prog 44 = some 24 := by kernel_rfl
theorem el_44 : elOf Try.prog 44 = some 22 := by kernel_rfl
theorem ia_44 {b o l c : Nat} {k : IntKind} {i : Int} : aIndexAddr Try.prog 44 (.slice (some ⟨b, o, none⟩) l c) (.int k i) = if 0 ≤ i ∧ i < l then some (.pointer (some ⟨b, o + i.toNat * 1, none⟩)) else none := by kernel_rfl
theorem ia_59 {b o l c : Nat} {k : IntKind} {i : Int} : aIndexAddr Try.prog 59 (.slice (some ⟨b, o, none⟩) l c) (.int k i) = if 0 ≤ i ∧ i < l then some (.pointer (some ⟨b, o + i.toNat * 6, none⟩)) else none := by kernel_rfl
theorem ia_64 {b o l c : Nat} {k : IntKind} {i : Int} : aIndexAddr Try.prog 64 (.slice (some ⟨b, o, none⟩) l c) (.int k i) = if 0 ≤ i ∧ i < l then some (.pointer (some ⟨b, o + i.toNat * 5, none⟩)) else none := by kernel_rfl
theorem ia_67 {b o l c : Nat} {k : IntKind} {i : Int} : aIndexAddr Try.prog 67 (.slice (some ⟨b, o, none⟩) l c) (.int k i) = if 0 ≤ i ∧ i < l then some (.pointer (some ⟨b, o + i.toNat * 6, none⟩)) else none := by kernel_rfl
theorem ia_83 {b o l c : Nat} {k : IntKind} {i : Int} : aIndexAddr Try.prog 83 (.slice (some ⟨b, o, none⟩) l c) (.int k i) = if 0 ≤ i ∧ i < l then some (.pointer (some ⟨b, o + i.toNat * 2, none⟩)) else none := by kernel_rfl
theorem ia_89 {b o l c : Nat} {k : IntKind} {i : Int} : aIndexAddr Try.prog 89 (.slice (some ⟨b, o, none⟩) l c) (.int k i) = if 0 ≤ i ∧ i < l then some (.pointer (some ⟨b, o + i.toNat * 3, none⟩)) else none := by kernel_rfl
theorem ix_9 {s : ByteArray} {k : IntKind} {i : Int} : aIndex Try.prog 9 (.string s) (.int k i) = if 0 ≤ i then (s[i.toNat]?).map fun b => .int .u8 b.toNat else none := ix_str un_9
theorem len_100 {a : Option Addr} {l c : Nat} {h : H} : aBuiltin Try.prog .len #[100] [.slice a l c] h = some (.int .i64 l, h) := by kernel_rfl
theorem len_22 {a : Option Addr} {l c : Nat} {h : H} : aBuiltin Try.prog .len #[22] [.slice a l c] h = some (.int .i64 l, h) := by kernel_rfl
theorem len_41 {a : Option Addr} {l c : Nat} {h : H} : aBuiltin Try.prog .len #[41] [.slice a l c] h = some (.int .i64 l, h) := by kernel_rfl
theorem len_44 {a : Option Addr} {l c : Nat} {h : H} : aBuiltin Try.prog .len #[44] [.slice a l c] h = some (.int .i64 l, h) := by kernel_rfl
theorem len_59 {a : Option Addr} {l c : Nat} {h : H} : aBuiltin Try.prog .len #[59] [.slice a l c] h = some (.int .i64 l, h) := by kernel_rfl
theorem len_64 {a : Option Addr} {l c : Nat} {h : H} : aBuiltin Try.prog .len #[64] [.slice a l c] h = some (.int .i64 l, h) := by kernel_rfl
theorem len_67 {a : Option Addr} {l c : Nat} {h : H} : aBuiltin Try.prog .len #[67] [.slice a l c] h = some (.int .i64 l, h) := by kernel_rfl
theorem len_83 {a : Option Addr} {l c : Nat} {h : H} : aBuiltin Try.prog .len #[83] [.slice a l c] h = some (.int .i64 l, h) := by kernel_rfl
theorem len_89 {a : Option Addr} {l c : Nat} {h : H} : aBuiltin Try.prog .len #[89] [.slice a l c] h = some (.int .i64 l, h) := by kernel_rfl
theorem len_9 {s : ByteArray} {h : H} : aBuiltin Try.prog .len #[9] [.string s] h = some (.int .i64 s.size, h) := by kernel_rfl
theorem un_120 : Try.prog.underlying 120 = some (.int .u32) := by kernel_rfl
theorem sz_120 : szOf Try.prog 120 = some 1 := by kernel_rfl
theorem ag_120 : Ev.isAgg Try.prog 120 = some false := by kernel_rfl
theorem ze_120 : zeroOf Try.prog 120 = some (.int .u32 0) := by kernel_rfl
theorem by_120 : bytesOf Try.prog 120 = some 4 := by kernel_rfl
theorem cv_120_5 {k : IntKind} {n : Int} {h : H} : cvt Try.prog 120 5 (.int k n) h = some (.int .u8 (IntKind.u8.wrap n), h) := cvt_int (by rw [un_120]; rfl) un_5
theorem cv_2_5 {k : IntKind} {n : Int} {h : H} : cvt Try.prog 2 5 (.int k n) h = some (.int .u8 (IntKind.u8.wrap n), h) := cvt_int (by rw [un_2]; rfl) un_5
theorem cv_24_2 {k : IntKind} {n : Int} {h : H} : cvt Try.prog 24 2 (.int k n) h = some (.int .i64 (IntKind.i64.wrap n), h) := cvt_int (by rw [un_24]; rfl) un_2
theorem cv_24_3 {k : IntKind} {n : Int} {h : H} : cvt Try.prog 24 3 (.int k n) h = some (.int .i64 (IntKind.i64.wrap n), h) := cvt_int (by rw [un_24]; rfl) un_3
theorem cv_24_5 {k : IntKind} {n : Int} {h : H} : cvt Try.prog 24 5 (.int k n) h = some (.int .u8 (IntKind.u8.wrap n), h) := cvt_int (by rw [un_24]; rfl) un_5
theorem cv_3_5 {k : IntKind} {n : Int} {h : H} : cvt Try.prog 3 5 (.int k n) h = some (.int .u8 (IntKind.u8.wrap n), h) := cvt_int (by rw [un_3]; rfl) un_5
theorem un_78 : Try.prog.underlying 78 = some (.int .u64) := by kernel_rfl
theorem sz_78 : szOf Try.prog 78 = some 1 := by kernel_rfl
theorem ag_78 : Ev.isAgg Try.prog 78 = some false := by kernel_rfl
theorem ze_78 : zeroOf Try.prog 78 = some (.int .u64 0) := by kernel_rfl
theorem by_78 : bytesOf Try.prog 78 = some 8 := by kernel_rfl
theorem cv_3_78 {k : IntKind} {n : Int} {h : H} : cvt Try.prog 3 78 (.int k n) h = some (.int .u64 (IntKind.u64.wrap n), h) := cvt_int (by rw [un_3]; rfl) un_78
theorem un_79 : Try.prog.underlying 79 = some (.int .u64) := by kernel_rfl
theorem sz_79 : szOf Try.prog 79 = some 1 := by kernel_rfl
theorem ag_79 : Ev.isAgg Try.prog 79 = some false := by kernel_rfl
theorem ze_79 : zeroOf Try.prog 79 = some (.int .u64 0) := by kernel_rfl
theorem by_79 : bytesOf Try.prog 79 = some 8 := by kernel_rfl
theorem cv_3_79 {k : IntKind} {n : Int} {h : H} : cvt Try.prog 3 79 (.int k n) h = some (.int .u64 (IntKind.u64.wrap n), h) := cvt_int (by rw [un_3]; rfl) un_79
theorem cv_5_2 {k : IntKind} {n : Int} {h : H} : cvt Try.prog 5 2 (.int k n) h = some (.int .i64 (IntKind.i64.wrap n), h) := cvt_int (by rw [un_5]; rfl) un_2
theorem cv_5_24 {k : IntKind} {n : Int} {h : H} : cvt Try.prog 5 24 (.int k n) h = some (.int .i8 (IntKind.i8.wrap n), h) := cvt_int (by rw [un_5]; rfl) un_24
theorem cv_5_3 {k : IntKind} {n : Int} {h : H} : cvt Try.prog 5 3 (.int k n) h = some (.int .i64 (IntKind.i64.wrap n), h) := cvt_int (by rw [un_5]; rfl) un_3
theorem cv_5_78 {k : IntKind} {n : Int} {h : H} : cvt Try.prog 5 78 (.int k n) h = some (.int .u64 (IntKind.u64.wrap n), h) := cvt_int (by rw [un_5]; rfl) un_78
theorem cv_78_3 {k : IntKind} {n : Int} {h : H} : cvt Try.prog 78 3 (.int k n) h = some (.int .i64 (IntKind.i64.wrap n), h) := cvt_int (by rw [un_78]; rfl) un_3
theorem cv_78_5 {k : IntKind} {n : Int} {h : H} : cvt Try.prog 78 5 (.int k n) h = some (.int .u8 (IntKind.u8.wrap n), h) := cvt_int (by rw [un_78]; rfl) un_5
theorem cv_79_120 {k : IntKind} {n : Int} {h : H} : cvt Try.prog 79 120 (.int k n) h = some (.int .u32 (IntKind.u32.wrap n), h) := cvt_int (by rw [un_79]; rfl) un_120
theorem cv_9_22 {s : ByteArray} {h : H} : cvt Try.prog 9 22 (.string s) h = some (.slice (some ⟨h.length, 0, none⟩) s.size s.size, h ++ [.cells true (enc 1 5) (bytesOfStr s)]) := cvt_sb un_9 un_22 un_5
theorem zc_100 : zc Try.prog 100 = [.slice none 0 0] := by kernel_rfl
theorem zc_102 : zc Try.prog 102 = [.int .i64 0, .int .i8 0, .bool false, .int .i64 0, .int .i64 0, .int .i64 0] := by kernel_rfl
theorem zc_108 : zc Try.prog 108 = [.int .u8 0, .slice none 0 0] := by kernel_rfl
theorem zc_26 : zc Try.prog 26 = [.int .i8 0, .bool false, .int .i64 0, .int .i64 0, .int .i64 0] := by kernel_rfl
theorem zc_27 : zc Try.prog 27 = [.int .i64 0] := by kernel_rfl
theorem zc_3 : zc Try.prog 3 = [.int .i64 0] := by kernel_rfl
theorem zc_4 : zc Try.prog 4 = [.bool false] := by kernel_rfl
theorem zc_64 : zc Try.prog 64 = [.slice none 0 0] := by kernel_rfl
theorem zc_67 : zc Try.prog 67 = [.slice none 0 0] := by kernel_rfl
theorem zc_94 : zc Try.prog 94 = [.int .i8 0, .int .i64 0, .slice none 0 0] := by kernel_rfl
theorem bd_26  : aBuild Try.prog 26 [] = some (.agg #[.int .i8 0, .bool false, .int .i64 0, .int .i64 0, .int .i64 0]) := by kernel_rfl
theorem bd_26_0_1_2_3_4 {x0 : Int} {x1 : Bool} {x2 : Int} {x3 : Int} {x4 : Int} : aBuild Try.prog 26 [(0, .int .i8 x0), (1, .bool x1), (2, .int .i64 x2), (3, .int .i64 x3), (4, .int .i64 x4)] = some (.agg #[.int .i8 x0, .bool x1, .int .i64 x2, .int .i64 x3, .int .i64 x4]) := by kernel_rfl
theorem bd_26_0_1_2 {x0 : Int} {x1 : Bool} {x2 : Int} : aBuild Try.prog 26 [(0, .int .i8 x0), (1, .bool x1), (2, .int .i64 x2)] = some (.agg #[.int .i8 x0, .bool x1, .int .i64 x2, .int .i64 0, .int .i64 0]) := by kernel_rfl
theorem sz_85 : szOf Try.prog 85 = some 2 := by kernel_rfl
theorem ag_85 : Ev.isAgg Try.prog 85 = some true := by kernel_rfl
theorem ze_85 : zeroOf Try.prog 85 = some (.agg #[.slice none 0 0, .slice none 0 0]) := by kernel_rfl
theorem by_85 : bytesOf Try.prog 85 = some 48 := by kernel_rfl
theorem bd_85  : aBuild Try.prog 85 [] = some (.agg #[.slice none 0 0, .slice none 0 0]) := by kernel_rfl
theorem sz_91 : szOf Try.prog 91 = some 1 := by kernel_rfl
theorem ag_91 : Ev.isAgg Try.prog 91 = some true := by kernel_rfl
theorem ze_91 : zeroOf Try.prog 91 = some (.agg #[.slice none 0 0]) := by kernel_rfl
theorem by_91 : bytesOf Try.prog 91 = some 24 := by kernel_rfl
theorem bd_91_0 {x0a : Option Addr} {x0l x0c : Nat} : aBuild Try.prog 91 [(0, .slice x0a x0l x0c)] = some (.agg #[.slice x0a x0l x0c]) := by kernel_rfl
theorem bd_108_0 {x0 : Int} : aBuild Try.prog 108 [(0, .int .u8 x0)] = some (.agg #[.int .u8 x0, .slice none 0 0]) := by kernel_rfl
theorem bd_94_0_1 {x0 : Int} {x1 : Int} : aBuild Try.prog 94 [(0, .int .i8 x0), (1, .int .i64 x1)] = some (.agg #[.int .i8 x0, .int .i64 x1, .slice none 0 0]) := by kernel_rfl
theorem bd_26_2_3_4 {x2 : Int} {x3 : Int} {x4 : Int} : aBuild Try.prog 26 [(2, .int .i64 x2), (3, .int .i64 x3), (4, .int .i64 x4)] = some (.agg #[.int .i8 0, .bool false, .int .i64 x2, .int .i64 x3, .int .i64 x4]) := by kernel_rfl
theorem bd_26_2_4 {x2 : Int} {x4 : Int} : aBuild Try.prog 26 [(2, .int .i64 x2), (4, .int .i64 x4)] = some (.agg #[.int .i8 0, .bool false, .int .i64 x2, .int .i64 0, .int .i64 x4]) := by kernel_rfl
theorem bd_75_0_1 {x0 : Int} {x1_0 : Int} {x1_1 : Bool} {x1_2 : Int} {x1_3 : Int} {x1_4 : Int} : aBuild Try.prog 75 [(0, .int .i64 x0), (1, .agg #[.int .i8 x1_0, .bool x1_1, .int .i64 x1_2, .int .i64 x1_3, .int .i64 x1_4])] = some (.agg #[.int .i64 x0, .int .i8 x1_0, .bool x1_1, .int .i64 x1_2, .int .i64 x1_3, .int .i64 x1_4]) := by kernel_rfl
theorem bd_102_0_1 {x0 : Int} {x1_0 : Int} {x1_1 : Bool} {x1_2 : Int} {x1_3 : Int} {x1_4 : Int} : aBuild Try.prog 102 [(0, .int .i64 x0), (1, .agg #[.int .i8 x1_0, .bool x1_1, .int .i64 x1_2, .int .i64 x1_3, .int .i64 x1_4])] = some (.agg #[.int .i64 x0, .int .i8 x1_0, .bool x1_1, .int .i64 x1_2, .int .i64 x1_3, .int .i64 x1_4]) := by kernel_rfl
theorem bd_26_2 {x2 : Int} : aBuild Try.prog 26 [(2, .int .i64 x2)] = some (.agg #[.int .i8 0, .bool false, .int .i64 x2, .int .i64 0, .int .i64 0]) := by kernel_rfl
theorem ap_100_100 {b x : Value} {h : H} : aBuiltin Try.prog .append #[100, 100] [b, x] h = aAppend Try.prog 100 b x h := by kernel_rfl
theorem ap_22_22 {b x : Value} {h : H} : aBuiltin Try.prog .append #[22, 22] [b, x] h = aAppend Try.prog 22 b x h := by kernel_rfl
theorem ap_44_44 {b x : Value} {h : H} : aBuiltin Try.prog .append #[44, 44] [b, x] h = aAppend Try.prog 44 b x h := by kernel_rfl
theorem ap_64_64 {b x : Value} {h : H} : aBuiltin Try.prog .append #[64, 64] [b, x] h = aAppend Try.prog 64 b x h := by kernel_rfl
theorem ap_67_67 {b x : Value} {h : H} : aBuiltin Try.prog .append #[67, 67] [b, x] h = aAppend Try.prog 67 b x h := by kernel_rfl
theorem ap_83_83 {b x : Value} {h : H} : aBuiltin Try.prog .append #[83, 83] [b, x] h = aAppend Try.prog 83 b x h := by kernel_rfl
theorem ap_89_89 {b x : Value} {h : H} : aBuiltin Try.prog .append #[89, 89] [b, x] h = aAppend Try.prog 89 b x h := by kernel_rfl
theorem bsl_22_5_0_1_2_3_4 {x0 : Int} {x1 : Int} {x2 : Int} {x3 : Int} {x4 : Int} {h : H} : aBuildSlice Try.prog 22 5 [(0, .int .u8 x0), (1, .int .u8 x1), (2, .int .u8 x2), (3, .int .u8 x3), (4, .int .u8 x4)] h = some (.slice (some ⟨h.length, 0, none⟩) 5 5, h ++ [.cells true (enc 1 5) [.int .u8 x0, .int .u8 x1, .int .u8 x2, .int .u8 x3, .int .u8 x4]]) := by kernel_rfl
theorem bsl_44_1_0 {x0a : Option Addr} {x0l x0c : Nat} {h : H} : aBuildSlice Try.prog 44 1 [(0, .slice x0a x0l x0c)] h = some (.slice (some ⟨h.length, 0, none⟩) 1 1, h ++ [.cells true (enc 1 22) [.slice x0a x0l x0c]]) := by kernel_rfl
theorem bsl_22_1_0 {x0 : Int} {h : H} : aBuildSlice Try.prog 22 1 [(0, .int .u8 x0)] h = some (.slice (some ⟨h.length, 0, none⟩) 1 1, h ++ [.cells true (enc 1 5) [.int .u8 x0]]) := by kernel_rfl
theorem bsl_83_1_0 {x0_0 : Int} {x0_1a : Option Addr} {x0_1l x0_1c : Nat} {h : H} : aBuildSlice Try.prog 83 1 [(0, .agg #[.int .u8 x0_0, .slice x0_1a x0_1l x0_1c])] h = some (.slice (some ⟨h.length, 0, none⟩) 1 1, h ++ [.cells true (enc 2 108) [.int .u8 x0_0, .slice x0_1a x0_1l x0_1c]]) := by kernel_rfl
theorem bsl_44_2_0_1 {x0a : Option Addr} {x0l x0c : Nat} {x1a : Option Addr} {x1l x1c : Nat} {h : H} : aBuildSlice Try.prog 44 2 [(0, .slice x0a x0l x0c), (1, .slice x1a x1l x1c)] h = some (.slice (some ⟨h.length, 0, none⟩) 2 2, h ++ [.cells true (enc 1 22) [.slice x0a x0l x0c, .slice x1a x1l x1c]]) := by kernel_rfl
theorem bsl_89_1_0 {x0_0 : Int} {x0_1 : Int} {x0_2a : Option Addr} {x0_2l x0_2c : Nat} {h : H} : aBuildSlice Try.prog 89 1 [(0, .agg #[.int .i8 x0_0, .int .i64 x0_1, .slice x0_2a x0_2l x0_2c])] h = some (.slice (some ⟨h.length, 0, none⟩) 1 1, h ++ [.cells true (enc 3 94) [.int .i8 x0_0, .int .i64 x0_1, .slice x0_2a x0_2l x0_2c]]) := by kernel_rfl
theorem bsl_22_2_0_1 {x0 : Int} {x1 : Int} {h : H} : aBuildSlice Try.prog 22 2 [(0, .int .u8 x0), (1, .int .u8 x1)] h = some (.slice (some ⟨h.length, 0, none⟩) 2 2, h ++ [.cells true (enc 1 5) [.int .u8 x0, .int .u8 x1]]) := by kernel_rfl
theorem bsl_64_1_0 {x0_0 : Int} {x0_1 : Bool} {x0_2 : Int} {x0_3 : Int} {x0_4 : Int} {h : H} : aBuildSlice Try.prog 64 1 [(0, .agg #[.int .i8 x0_0, .bool x0_1, .int .i64 x0_2, .int .i64 x0_3, .int .i64 x0_4])] h = some (.slice (some ⟨h.length, 0, none⟩) 1 1, h ++ [.cells true (enc 5 26) [.int .i8 x0_0, .bool x0_1, .int .i64 x0_2, .int .i64 x0_3, .int .i64 x0_4]]) := by kernel_rfl
theorem bsl_67_1_0 {x0_0 : Int} {x0_1_0 : Int} {x0_1_1 : Bool} {x0_1_2 : Int} {x0_1_3 : Int} {x0_1_4 : Int} {h : H} : aBuildSlice Try.prog 67 1 [(0, .agg #[.int .i64 x0_0, .int .i8 x0_1_0, .bool x0_1_1, .int .i64 x0_1_2, .int .i64 x0_1_3, .int .i64 x0_1_4])] h = some (.slice (some ⟨h.length, 0, none⟩) 1 1, h ++ [.cells true (enc 6 75) [.int .i64 x0_0, .int .i8 x0_1_0, .bool x0_1_1, .int .i64 x0_1_2, .int .i64 x0_1_3, .int .i64 x0_1_4]]) := by kernel_rfl
theorem bsl_100_1_0 {x0_0 : Int} {x0_1_0 : Int} {x0_1_1 : Bool} {x0_1_2 : Int} {x0_1_3 : Int} {x0_1_4 : Int} {h : H} : aBuildSlice Try.prog 100 1 [(0, .agg #[.int .i64 x0_0, .int .i8 x0_1_0, .bool x0_1_1, .int .i64 x0_1_2, .int .i64 x0_1_3, .int .i64 x0_1_4])] h = some (.slice (some ⟨h.length, 0, none⟩) 1 1, h ++ [.cells true (enc 6 102) [.int .i64 x0_0, .int .i8 x0_1_0, .bool x0_1_1, .int .i64 x0_1_2, .int .i64 x0_1_3, .int .i64 x0_1_4]]) := by kernel_rfl
theorem eql_26_false {x_0 : Int} {x_1 : Bool} {x_2 : Int} {x_3 : Int} {x_4 : Int} {y_0 : Int} {y_1 : Bool} {y_2 : Int} {y_3 : Int} {y_4 : Int} : aBin Try.prog false .eql 26 (.agg #[.int .i8 x_0, .bool x_1, .int .i64 x_2, .int .i64 x_3, .int .i64 x_4]) (.agg #[.int .i8 y_0, .bool y_1, .int .i64 y_2, .int .i64 y_3, .int .i64 y_4]) = some (.bool ((decide (x_0 = y_0) && ((x_1 == y_1) && (decide (x_2 = y_2) && (decide (x_3 = y_3) && (decide (x_4 = y_4) && true))))))) := by kernel_rfl
theorem neq_26_false {x_0 : Int} {x_1 : Bool} {x_2 : Int} {x_3 : Int} {x_4 : Int} {y_0 : Int} {y_1 : Bool} {y_2 : Int} {y_3 : Int} {y_4 : Int} : aBin Try.prog false .neq 26 (.agg #[.int .i8 x_0, .bool x_1, .int .i64 x_2, .int .i64 x_3, .int .i64 x_4]) (.agg #[.int .i8 y_0, .bool y_1, .int .i64 y_2, .int .i64 y_3, .int .i64 y_4]) = some (.bool (!(decide (x_0 = y_0) && ((x_1 == y_1) && (decide (x_2 = y_2) && (decide (x_3 = y_3) && (decide (x_4 = y_4) && true))))))) := by kernel_rfl
theorem eql_33_true_na {a : Addr} : aBin Try.prog true .eql 33 (.pointer none) (.pointer (some a)) = some (.bool false) := by kernel_rfl
theorem eql_33_true_an {a : Addr} : aBin Try.prog true .eql 33 (.pointer (some a)) (.pointer none) = some (.bool false) := by kernel_rfl
theorem eql_33_true_nn : aBin Try.prog true .eql 33 (.pointer none) (.pointer none) = some (.bool true) := by kernel_rfl
theorem mks_22 {k k' : IntKind} {l c : Int} {h : H} (h1 : 0 ≤ l) (h2 : l ≤ c) (h3 : (1 : Int) * c ≤ 281474976710656) : aMakeSlice Try.prog 22 (.int k l) (.int k' c) h = some (.slice (some ⟨h.length, 0, none⟩) l.toNat c.toNat, h ++ [.cells true (enc 1 5) (List.replicate c.toNat (.int .u8 0))]) := mk1 el_22 sz_5 ze_5 by_5 rfl rfl h1 h2 (by omega) (by omega)
end Go.Proofs.Ytknpmldldlbniaa
