/- The texts of Go functions of this seat, as the evaluator comes to them: each is what wA says of the code. No condition. -/
import Derived.Test.YtknpmldldlbniaaEvAc3
import Derived.Test.YtknpmldldlbniaaSeat
set_option linter.unusedVariables false
namespace Go.Proofs.Ytknpmldldlbniaa
open Go.Ev

/-! roster.rosterlaw02.lent -/
noncomputable def F12.ac : AC := (ann (bodyOf Try.f12) [[0], [0, 3], [0, 3], [0, 3], [2]]).1
noncomputable def F12.c0 : AC := F12.ac
noncomputable def F12.p0 (n0 : Nat) : WP := wA Try.prog n0 18 none F12.c0
noncomputable def F12.t0 (n0 : Nat) (b0 : Value) (ds : List Nat) (h : H) (K : KP) : Prop :=
  Bnd2 (aBuiltin Try.prog .len #[22] [b0] h) fun t5 h1 =>
  Bnd (aBin Try.prog true .add 3 t5 (.int .i64 5)) fun t6 =>
  Bnd2 (aMakeSlice Try.prog 22 (.int .i64 0) t6 h1) fun t7 h2 =>
  Bnd2 (aBuiltin Try.prog .append #[22, 22] [t7, b0] h2) fun t10 h3 =>
  Bnd2 (aBuildSlice Try.prog 22 5 [(0, (.int .u8 119)), (1, (.int .u8 119)), (2, (.int .u8 119)), (3, (.int .u8 119)), (4, (.int .u8 119))] h3) fun t12 h4 =>
  Bnd2 (aBuiltin Try.prog .append #[22, 22] [t10, t12] h4) fun t13 h5 =>
  Bnd2 (aBuiltin Try.prog .len #[22] [b0] h5) fun t16 h6 =>
  Bnd (aSlice Try.prog 22 t13 none (some t16) none h6) fun t17 =>
  K .ret [(2, t17)] ds h6
theorem F12.g0 {n0 : Nat} (b0 : Value) {ds : List Nat} {h : H} {K : KP} : wA Try.prog n0 18 none F12.c0 [(0, b0)] ds h K = F12.t0 n0 b0 ds h K := by kernel_rfl
theorem F12.s0 {n0 : Nat} : F12.p0 n0 = wA Try.prog n0 18 none F12.c0 := by kernel_rfl
theorem F12.e0 {n0 : Nat} {b0 : Value} {ds : List Nat} {h : H} {K : KP} : F12.p0 n0 [(0, b0)] ds h K = F12.t0 n0 b0 ds h K :=
  wchain (F12.s0) (F12.g0 b0)
theorem F12.k0 : F12.c0.ok = true := by kernel_rfl
theorem F12.d0 {n0 : Nat} : F12.p0 n0 = wA Try.prog n0 18 none F12.c0 := by kernel_rfl
theorem F12.m0 (n0 : Nat) : MonoW (F12.p0 n0) := @mono_c Try.prog n0 18 none F12.c0 (F12.p0 n0) (F12.d0) F12.k0
theorem F12.b : Try.f12.body = some F12.c0.erase := by kernel_rfl
theorem F12.b2 : (Try.f12.name == "runtime.NumGoroutine") = false := by kernel_rfl
theorem F12.b3 : Try.f12.ntmps = 18 := by kernel_rfl
theorem F12.b4 : Try.f12.results.toList = [.tmp 2] := by kernel_rfl
theorem F12.enter {n0 : Nat} {x0 : Value} {h : H} {Q : Value → H → Prop} (w : F12.p0 n0 [(0, x0)] [] h (KFin Try.prog [.tmp 2] Q)) : Cn Try.prog n0 (.func 12) [x0] h Q :=
  @fn_enter Try.prog n0 mixed 12 Try.f12 F12.c0 [x0] h Q Try.func12 F12.b F12.k0 F12.b2 18 F12.b3 [.tmp 2] F12.b4 (by simp) [(0, x0)] rfl (wback F12.d0 w)

/-! roster.ber.Head -/
noncomputable def F13.ac : AC := (ann (bodyOf Try.f13) [[0, 1, 2, 6], [0, 1, 2, 6], [0, 1, 2, 6, 26], [0, 1, 2, 6], [6, 7], [1, 6, 8], [1, 6, 8], [1, 6, 8, 34], [1, 6, 8], [6, 7], [1, 6, 8, 9], [1, 6, 8, 9], [1, 6, 8, 9, 41], [1, 6, 8, 9], [6, 7], [1, 6, 8, 9], [1, 6, 8, 9, 45], [1, 6, 8, 9], [6, 7], [1, 6, 8, 9, 10, 11], [1, 6, 8, 9, 10, 11], [1, 6, 8, 9, 10, 11], [1, 6, 8, 9, 10, 11, 51], [1, 6, 8, 9, 10, 11, 51], [1, 6, 8, 9, 10, 11, 51], [1, 6, 8, 9, 10, 11], [6, 7], [1, 6, 8, 9, 10, 11, 57], [1, 6, 8, 9, 10, 11], [1, 6, 8, 9, 11], [1, 6, 8, 9, 11], [1, 6, 8, 9, 11, 68], [1, 6, 8, 9, 11], [6, 7], [1, 6, 8, 9, 10, 11], [1, 6, 8, 9, 10, 11, 72, 73, 74], [1, 6, 8, 9, 10, 11], [1, 6, 8, 9, 10, 11, 72, 73, 74], [1, 6, 8, 9, 10, 11, 72, 73, 74, 75], [1, 6, 8, 9, 10, 11, 72, 73, 74], [1, 6, 8, 9, 10, 11, 72, 73, 74], [1, 6, 8, 9, 10, 11, 72, 73, 74], [1, 6, 8, 9, 10, 11, 72, 73, 74], [1, 6, 8, 9, 10, 11, 13, 72, 73, 74], [1, 6, 8, 9, 10, 11, 13, 72, 73, 74], [1, 6, 8, 9, 10, 11, 13, 72, 73, 74, 79], [1, 6, 8, 9, 10, 11, 13, 72, 73, 74], [6, 7], [1, 6, 8, 9, 10, 11, 13, 72, 73, 74], [1, 6, 9, 10, 11], [1, 6, 9, 10, 11, 94], [1, 6, 9, 10, 11], [6, 7], [6, 7]]).1
noncomputable def F13.c0 : AC := F13.ac
noncomputable def F13.c1 : AC := F13.ac.snd.fst.snd.fst
noncomputable def F13.c2 : AC := F13.ac.snd.snd
noncomputable def F13.c3 : AC := F13.ac.snd.snd.snd.fst.snd.fst
noncomputable def F13.c4 : AC := F13.ac.snd.snd.snd.snd
noncomputable def F13.c5 : AC := F13.ac.snd.snd.snd.snd.snd.fst.snd.fst
noncomputable def F13.c6 : AC := F13.ac.snd.snd.snd.snd.snd.snd
noncomputable def F13.c7 : AC := F13.ac.snd.snd.snd.snd.snd.snd.fst.snd.fst
noncomputable def F13.c8 : AC := F13.ac.snd.snd.snd.snd.snd.snd.snd
noncomputable def F13.c9 : AC := F13.ac.snd.snd.snd.snd.snd.snd.snd.snd.fst.fst.fst.snd.snd
noncomputable def F13.c10 : AC := F13.ac.snd.snd.snd.snd.snd.snd.snd.snd.fst.fst.snd
noncomputable def F13.c11 : AC := F13.ac.snd.snd.snd.snd.snd.snd.snd.snd.fst.fst.snd.fst
noncomputable def F13.c12 : AC := F13.ac.snd.snd.snd.snd.snd.snd.snd.snd.fst.fst.snd.snd
noncomputable def F13.c13 : AC := F13.ac.snd.snd.snd.snd.snd.snd.snd.snd.fst.fst.snd.snd.snd.fst
noncomputable def F13.c14 : AC := F13.ac.snd.snd.snd.snd.snd.snd.snd.snd.fst.fst.snd.snd.snd.fst.snd.fst.snd.fst
noncomputable def F13.c15 : AC := F13.ac.snd.snd.snd.snd.snd.snd.snd.snd.fst.fst.snd.snd.snd.fst.snd.snd
noncomputable def F13.c16 : AC := F13.ac.snd.snd.snd.snd.snd.snd.snd.snd.fst.fst.snd.snd.snd.fst.snd.snd.snd.snd.fst.fst
noncomputable def F13.c17 : AC := F13.ac.snd.snd.snd.snd.snd.snd.snd.snd.fst.fst.snd.snd.snd.fst.snd.snd.snd.snd.fst.fst.snd.snd
noncomputable def F13.c18 : AC := F13.ac.snd.snd.snd.snd.snd.snd.snd.snd.fst.fst.snd.snd.snd.fst.snd.snd.snd.snd.fst.fst.snd.snd.fst.fst.snd.fst.snd.fst
noncomputable def F13.c19 : AC := F13.ac.snd.snd.snd.snd.snd.snd.snd.snd.fst.fst.snd.snd.snd.fst.snd.snd.snd.snd.fst.fst.snd.snd.fst.fst.snd.snd
noncomputable def F13.c20 : AC := F13.ac.snd.snd.snd.snd.snd.snd.snd.snd.fst.fst.snd.snd.snd.fst.snd.snd.snd.snd.fst.fst.snd.snd.snd
noncomputable def F13.c21 : AC := F13.ac.snd.snd.snd.snd.snd.snd.snd.snd.snd
noncomputable def F13.c22 : AC := F13.ac.snd.snd.snd.snd.snd.snd.snd.snd.snd.fst.snd.fst
noncomputable def F13.c23 : AC := F13.ac.snd.snd.snd.snd.snd.snd.snd.snd.snd.snd
noncomputable def F13.p0 (n0 : Nat) : WP := wA Try.prog n0 115 none F13.c0
noncomputable def F13.p1 (n0 : Nat) : WP := wA Try.prog n0 115 none F13.c1
noncomputable def F13.p2 (n0 : Nat) : WP := wA Try.prog n0 115 none F13.c2
noncomputable def F13.p3 (n0 : Nat) : WP := wA Try.prog n0 115 none F13.c3
noncomputable def F13.p4 (n0 : Nat) : WP := wA Try.prog n0 115 none F13.c4
noncomputable def F13.p5 (n0 : Nat) : WP := wA Try.prog n0 115 none F13.c5
noncomputable def F13.p6 (n0 : Nat) : WP := wA Try.prog n0 115 none F13.c6
noncomputable def F13.p7 (n0 : Nat) : WP := wA Try.prog n0 115 none F13.c7
noncomputable def F13.p8 (n0 : Nat) : WP := wA Try.prog n0 115 none F13.c8
noncomputable def F13.p9 (n0 : Nat) : WP := wA Try.prog n0 115 none F13.c9
noncomputable def F13.p10 (n0 : Nat) : WP := wA Try.prog n0 115 none F13.c10
noncomputable def F13.p11 (n0 : Nat) : WP := wA Try.prog n0 115 none F13.c11
noncomputable def F13.p12 (n0 : Nat) : WP := wA Try.prog n0 115 none F13.c12
noncomputable def F13.p13 (n0 : Nat) : WP := wA Try.prog n0 115 none F13.c13
noncomputable def F13.p14 (n0 : Nat) : WP := wA Try.prog n0 115 none F13.c14
noncomputable def F13.p15 (n0 : Nat) : WP := wA Try.prog n0 115 none F13.c15
noncomputable def F13.p16 (n0 : Nat) : WP := wA Try.prog n0 115 none F13.c16
noncomputable def F13.p17 (n0 : Nat) : WP := wA Try.prog n0 115 none F13.c17
noncomputable def F13.p18 (n0 : Nat) : WP := wA Try.prog n0 115 none F13.c18
noncomputable def F13.p19 (n0 : Nat) : WP := wA Try.prog n0 115 none F13.c19
noncomputable def F13.p20 (n0 : Nat) : WP := wA Try.prog n0 115 none F13.c20
noncomputable def F13.p21 (n0 : Nat) : WP := wA Try.prog n0 115 none F13.c21
noncomputable def F13.p22 (n0 : Nat) : WP := wA Try.prog n0 115 none F13.c22
noncomputable def F13.p23 (n0 : Nat) : WP := wA Try.prog n0 115 none F13.c23
noncomputable def F13.t0 (n0 : Nat) (B1 : WP) (B2 : WP) (b0 at1 end2 : Value) (ds : List Nat) (h : H) (K : KP) : Prop :=
  Nw (enc 0 26) (zc Try.prog 26) h fun t6 h1 =>
  Bnd (aBin Try.prog true .lss 3 at1 (.int .i64 0)) fun t15 =>
  Gd t15
   (B1 [(0, b0), (1, at1), (2, end2), (6, t6)] ds h1 (KSeq [0, 1, 2, 6] B2 K))
   (Bnd (aBin Try.prog false .gtr 3 at1 end2) fun t19 =>
  Gd t19
   (B1 [(0, b0), (1, at1), (2, end2), (6, t6)] ds h1 (KSeq [0, 1, 2, 6] B2 K))
   (Bnd2 (aBuiltin Try.prog .len #[22] [b0] h1) fun t24 h2 =>
  Bnd (aBin Try.prog false .gtr 3 end2 t24) fun t25 =>
  Cnd t25
   (B1 [(0, b0), (1, at1), (2, end2), (6, t6)] ds h2 (KSeq [0, 1, 2, 6] B2 K))
   (B2 [(0, b0), (1, at1), (2, end2), (6, t6)] ds h2 K)))
theorem F13.g0 {n0 : Nat} (B1 : WP) (B2 : WP) (b0 at1 end2 : Value) {ds : List Nat} {h : H} {K : KP} : wA Try.prog n0 115 none (.seq [0, 1, 2, 6] F13.c0.fst (.seq [0, 1, 2, 6] (.seq [0, 1, 2, 6, 26] F13.c0.snd.fst.fst (.cond [0, 1, 2, 6] (.tmp 26) (.sub B1) F13.c0.snd.fst.snd.snd)) (.sub B2))) [(0, b0), (1, at1), (2, end2)] ds h K = F13.t0 n0 B1 B2 b0 at1 end2 ds h K := by kernel_rfl
theorem F13.s0 {n0 : Nat} : F13.p0 n0 = wA Try.prog n0 115 none (.seq [0, 1, 2, 6] F13.c0.fst (.seq [0, 1, 2, 6] (.seq [0, 1, 2, 6, 26] F13.c0.snd.fst.fst (.cond [0, 1, 2, 6] (.tmp 26) (.sub (F13.p1 n0)) F13.c0.snd.fst.snd.snd)) (.sub (F13.p2 n0)))) := by kernel_rfl
theorem F13.e0 {n0 : Nat} {b0 at1 end2 : Value} {ds : List Nat} {h : H} {K : KP} : F13.p0 n0 [(0, b0), (1, at1), (2, end2)] ds h K = F13.t0 n0 (F13.p1 n0) (F13.p2 n0) b0 at1 end2 ds h K :=
  wchain (F13.s0) (F13.g0 (F13.p1 n0) (F13.p2 n0) b0 at1 end2)
theorem F13.k0 : F13.c0.ok = true := by kernel_rfl
theorem F13.d0 {n0 : Nat} : F13.p0 n0 = wA Try.prog n0 115 none F13.c0 := by kernel_rfl
theorem F13.m0 (n0 : Nat) : MonoW (F13.p0 n0) := @mono_c Try.prog n0 115 none F13.c0 (F13.p0 n0) (F13.d0) F13.k0
noncomputable def F13.t1 (n0 : Nat) (b0 at1 end2 t6 : Value) (ds : List Nat) (h : H) (K : KP) : Prop :=
  Bnd (aBuild Try.prog 26 []) fun t27 =>
  Bnd (aStore Try.prog 26 t6 t27 h) fun h1 =>
  K .ret [(6, t6), (7, (.int .i64 2))] ds h1
theorem F13.g1 {n0 : Nat} (b0 at1 end2 t6 : Value) {ds : List Nat} {h : H} {K : KP} : wA Try.prog n0 115 none F13.c1 [(0, b0), (1, at1), (2, end2), (6, t6)] ds h K = F13.t1 n0 b0 at1 end2 t6 ds h K := by kernel_rfl
theorem F13.s1 {n0 : Nat} : F13.p1 n0 = wA Try.prog n0 115 none F13.c1 := by kernel_rfl
theorem F13.e1 {n0 : Nat} {b0 at1 end2 t6 : Value} {ds : List Nat} {h : H} {K : KP} : F13.p1 n0 [(0, b0), (1, at1), (2, end2), (6, t6)] ds h K = F13.t1 n0 b0 at1 end2 t6 ds h K :=
  wchain (F13.s1) (F13.g1 b0 at1 end2 t6)
noncomputable def F13.t2 (n0 : Nat) (B3 : WP) (B4 : WP) (b0 at1 end2 t6 : Value) (ds : List Nat) (h : H) (K : KP) : Prop :=
  Bnd (aSlice Try.prog 22 b0 (some at1) (some end2) none h) fun t31 =>
  Bnd2 (aBuiltin Try.prog .len #[22] [t31] h) fun t33 h1 =>
  Bnd (aBin Try.prog true .eql 3 t33 (.int .i64 0)) fun t34 =>
  Cnd t34
   (B3 [(1, at1), (6, t6), (8, t31)] ds h1 (KSeq [1, 6, 8] B4 K))
   (B4 [(1, at1), (6, t6), (8, t31)] ds h1 K)
theorem F13.g2 {n0 : Nat} (B3 : WP) (B4 : WP) (b0 at1 end2 t6 : Value) {ds : List Nat} {h : H} {K : KP} : wA Try.prog n0 115 none (.seq [1, 6, 8] F13.c2.fst (.seq [1, 6, 8] (.seq [1, 6, 8, 34] F13.c2.snd.fst.fst (.cond [1, 6, 8] (.tmp 34) (.sub B3) F13.c2.snd.fst.snd.snd)) (.sub B4))) [(0, b0), (1, at1), (2, end2), (6, t6)] ds h K = F13.t2 n0 B3 B4 b0 at1 end2 t6 ds h K := by kernel_rfl
theorem F13.s2 {n0 : Nat} : F13.p2 n0 = wA Try.prog n0 115 none (.seq [1, 6, 8] F13.c2.fst (.seq [1, 6, 8] (.seq [1, 6, 8, 34] F13.c2.snd.fst.fst (.cond [1, 6, 8] (.tmp 34) (.sub (F13.p3 n0)) F13.c2.snd.fst.snd.snd)) (.sub (F13.p4 n0)))) := by kernel_rfl
theorem F13.e2 {n0 : Nat} {b0 at1 end2 t6 : Value} {ds : List Nat} {h : H} {K : KP} : F13.p2 n0 [(0, b0), (1, at1), (2, end2), (6, t6)] ds h K = F13.t2 n0 (F13.p3 n0) (F13.p4 n0) b0 at1 end2 t6 ds h K :=
  wchain (F13.s2) (F13.g2 (F13.p3 n0) (F13.p4 n0) b0 at1 end2 t6)
noncomputable def F13.t3 (n0 : Nat) (at1 t6 rest8 : Value) (ds : List Nat) (h : H) (K : KP) : Prop :=
  Bnd (aBuild Try.prog 26 []) fun t35 =>
  Bnd (aStore Try.prog 26 t6 t35 h) fun h1 =>
  K .ret [(6, t6), (7, (.int .i64 5))] ds h1
theorem F13.g3 {n0 : Nat} (at1 t6 rest8 : Value) {ds : List Nat} {h : H} {K : KP} : wA Try.prog n0 115 none F13.c3 [(1, at1), (6, t6), (8, rest8)] ds h K = F13.t3 n0 at1 t6 rest8 ds h K := by kernel_rfl
theorem F13.s3 {n0 : Nat} : F13.p3 n0 = wA Try.prog n0 115 none F13.c3 := by kernel_rfl
theorem F13.e3 {n0 : Nat} {at1 t6 rest8 : Value} {ds : List Nat} {h : H} {K : KP} : F13.p3 n0 [(1, at1), (6, t6), (8, rest8)] ds h K = F13.t3 n0 at1 t6 rest8 ds h K :=
  wchain (F13.s3) (F13.g3 at1 t6 rest8)
noncomputable def F13.t4 (n0 : Nat) (B5 : WP) (B6 : WP) (at1 t6 rest8 : Value) (ds : List Nat) (h : H) (K : KP) : Prop :=
  Bnd (aIndexAddr Try.prog 22 rest8 (.int .i64 0)) fun t37 =>
  Bnd (aLoad Try.prog 5 t37 h) fun t38 =>
  Bnd (aBin Try.prog true .and 5 t38 (.int .u8 31)) fun t40 =>
  Bnd (aBin Try.prog true .eql 5 t40 (.int .u8 31)) fun t41 =>
  Cnd t41
   (B5 [(1, at1), (6, t6), (8, rest8), (9, t38)] ds h (KSeq [1, 6, 8, 9] B6 K))
   (B6 [(1, at1), (6, t6), (8, rest8), (9, t38)] ds h K)
theorem F13.g4 {n0 : Nat} (B5 : WP) (B6 : WP) (at1 t6 rest8 : Value) {ds : List Nat} {h : H} {K : KP} : wA Try.prog n0 115 none (.seq [1, 6, 8, 9] F13.c4.fst (.seq [1, 6, 8, 9] (.seq [1, 6, 8, 9, 41] F13.c4.snd.fst.fst (.cond [1, 6, 8, 9] (.tmp 41) (.sub B5) F13.c4.snd.fst.snd.snd)) (.sub B6))) [(1, at1), (6, t6), (8, rest8)] ds h K = F13.t4 n0 B5 B6 at1 t6 rest8 ds h K := by kernel_rfl
theorem F13.s4 {n0 : Nat} : F13.p4 n0 = wA Try.prog n0 115 none (.seq [1, 6, 8, 9] F13.c4.fst (.seq [1, 6, 8, 9] (.seq [1, 6, 8, 9, 41] F13.c4.snd.fst.fst (.cond [1, 6, 8, 9] (.tmp 41) (.sub (F13.p5 n0)) F13.c4.snd.fst.snd.snd)) (.sub (F13.p6 n0)))) := by kernel_rfl
theorem F13.e4 {n0 : Nat} {at1 t6 rest8 : Value} {ds : List Nat} {h : H} {K : KP} : F13.p4 n0 [(1, at1), (6, t6), (8, rest8)] ds h K = F13.t4 n0 (F13.p5 n0) (F13.p6 n0) at1 t6 rest8 ds h K :=
  wchain (F13.s4) (F13.g4 (F13.p5 n0) (F13.p6 n0) at1 t6 rest8)
noncomputable def F13.t5 (n0 : Nat) (at1 t6 rest8 tag9 : Value) (ds : List Nat) (h : H) (K : KP) : Prop :=
  Bnd (aBuild Try.prog 26 []) fun t42 =>
  Bnd (aStore Try.prog 26 t6 t42 h) fun h1 =>
  K .ret [(6, t6), (7, (.int .i64 20))] ds h1
theorem F13.g5 {n0 : Nat} (at1 t6 rest8 tag9 : Value) {ds : List Nat} {h : H} {K : KP} : wA Try.prog n0 115 none F13.c5 [(1, at1), (6, t6), (8, rest8), (9, tag9)] ds h K = F13.t5 n0 at1 t6 rest8 tag9 ds h K := by kernel_rfl
theorem F13.s5 {n0 : Nat} : F13.p5 n0 = wA Try.prog n0 115 none F13.c5 := by kernel_rfl
theorem F13.e5 {n0 : Nat} {at1 t6 rest8 tag9 : Value} {ds : List Nat} {h : H} {K : KP} : F13.p5 n0 [(1, at1), (6, t6), (8, rest8), (9, tag9)] ds h K = F13.t5 n0 at1 t6 rest8 tag9 ds h K :=
  wchain (F13.s5) (F13.g5 at1 t6 rest8 tag9)
noncomputable def F13.t6 (n0 : Nat) (B7 : WP) (B8 : WP) (at1 t6 rest8 tag9 : Value) (ds : List Nat) (h : H) (K : KP) : Prop :=
  Bnd2 (aBuiltin Try.prog .len #[22] [rest8] h) fun t44 h1 =>
  Bnd (aBin Try.prog true .eql 3 t44 (.int .i64 1)) fun t45 =>
  Cnd t45
   (B7 [(1, at1), (6, t6), (8, rest8), (9, tag9)] ds h1 (KSeq [1, 6, 8, 9] B8 K))
   (B8 [(1, at1), (6, t6), (8, rest8), (9, tag9)] ds h1 K)
theorem F13.g6 {n0 : Nat} (B7 : WP) (B8 : WP) (at1 t6 rest8 tag9 : Value) {ds : List Nat} {h : H} {K : KP} : wA Try.prog n0 115 none (.seq [1, 6, 8, 9] (.seq [1, 6, 8, 9, 45] F13.c6.fst.fst (.cond [1, 6, 8, 9] (.tmp 45) (.sub B7) F13.c6.fst.snd.snd)) (.sub B8)) [(1, at1), (6, t6), (8, rest8), (9, tag9)] ds h K = F13.t6 n0 B7 B8 at1 t6 rest8 tag9 ds h K := by kernel_rfl
theorem F13.s6 {n0 : Nat} : F13.p6 n0 = wA Try.prog n0 115 none (.seq [1, 6, 8, 9] (.seq [1, 6, 8, 9, 45] F13.c6.fst.fst (.cond [1, 6, 8, 9] (.tmp 45) (.sub (F13.p7 n0)) F13.c6.fst.snd.snd)) (.sub (F13.p8 n0))) := by kernel_rfl
theorem F13.e6 {n0 : Nat} {at1 t6 rest8 tag9 : Value} {ds : List Nat} {h : H} {K : KP} : F13.p6 n0 [(1, at1), (6, t6), (8, rest8), (9, tag9)] ds h K = F13.t6 n0 (F13.p7 n0) (F13.p8 n0) at1 t6 rest8 tag9 ds h K :=
  wchain (F13.s6) (F13.g6 (F13.p7 n0) (F13.p8 n0) at1 t6 rest8 tag9)
noncomputable def F13.t7 (n0 : Nat) (at1 t6 rest8 tag9 : Value) (ds : List Nat) (h : H) (K : KP) : Prop :=
  Bnd (aBuild Try.prog 26 []) fun t46 =>
  Bnd (aStore Try.prog 26 t6 t46 h) fun h1 =>
  K .ret [(6, t6), (7, (.int .i64 5))] ds h1
theorem F13.g7 {n0 : Nat} (at1 t6 rest8 tag9 : Value) {ds : List Nat} {h : H} {K : KP} : wA Try.prog n0 115 none F13.c7 [(1, at1), (6, t6), (8, rest8), (9, tag9)] ds h K = F13.t7 n0 at1 t6 rest8 tag9 ds h K := by kernel_rfl
theorem F13.s7 {n0 : Nat} : F13.p7 n0 = wA Try.prog n0 115 none F13.c7 := by kernel_rfl
theorem F13.e7 {n0 : Nat} {at1 t6 rest8 tag9 : Value} {ds : List Nat} {h : H} {K : KP} : F13.p7 n0 [(1, at1), (6, t6), (8, rest8), (9, tag9)] ds h K = F13.t7 n0 at1 t6 rest8 tag9 ds h K :=
  wchain (F13.s7) (F13.g7 at1 t6 rest8 tag9)
noncomputable def F13.t8 (n0 : Nat) (B9 : WP) (B10 : WP) (B21 : WP) (at1 t6 rest8 tag9 : Value) (ds : List Nat) (h : H) (K : KP) : Prop :=
  Bnd (aIndexAddr Try.prog 22 rest8 (.int .i64 1)) fun t48 =>
  Bnd (aLoad Try.prog 5 t48 h) fun t49 =>
  Bnd2 (cvt Try.prog 5 78 t49 h) fun t50 h1 =>
  Bnd (aBin Try.prog true .eql 78 t50 (.int .u64 128)) fun t53 =>
  Cnd t53
   (B10 [(1, at1), (6, t6), (8, rest8), (9, tag9), (10, t50), (11, (.int .i64 2)), (51, t53)] ds h1 (KBlk [1, 6, 8, 9, 10, 11] 0 (KSeq [1, 6, 8, 9, 10, 11] B21 K)))
   (B9 [(1, at1), (6, t6), (8, rest8), (9, tag9), (10, t50), (11, (.int .i64 2)), (51, t53)] ds h1 (KSeq [1, 6, 8, 9, 10, 11, 51] B10 (KBlk [1, 6, 8, 9, 10, 11] 0 (KSeq [1, 6, 8, 9, 10, 11] B21 K))))
theorem F13.g8 {n0 : Nat} (B9 : WP) (B10 : WP) (B21 : WP) (at1 t6 rest8 tag9 : Value) {ds : List Nat} {h : H} {K : KP} : wA Try.prog n0 115 none (.seq [1, 6, 8, 9, 10, 11] F13.c8.fst (.seq [1, 6, 8, 9, 10, 11] (.block [1, 6, 8, 9, 10, 11] 0 (.seq [1, 6, 8, 9, 10, 11, 51] (.seq [1, 6, 8, 9, 10, 11, 51] F13.c8.snd.fst.fst.fst.fst (.cond [1, 6, 8, 9, 10, 11, 51] (.tmp 51) F13.c8.snd.fst.fst.fst.snd.fst (.sub B9))) (.sub B10))) (.sub B21))) [(1, at1), (6, t6), (8, rest8), (9, tag9)] ds h K = F13.t8 n0 B9 B10 B21 at1 t6 rest8 tag9 ds h K := by kernel_rfl
theorem F13.s8 {n0 : Nat} : F13.p8 n0 = wA Try.prog n0 115 none (.seq [1, 6, 8, 9, 10, 11] F13.c8.fst (.seq [1, 6, 8, 9, 10, 11] (.block [1, 6, 8, 9, 10, 11] 0 (.seq [1, 6, 8, 9, 10, 11, 51] (.seq [1, 6, 8, 9, 10, 11, 51] F13.c8.snd.fst.fst.fst.fst (.cond [1, 6, 8, 9, 10, 11, 51] (.tmp 51) F13.c8.snd.fst.fst.fst.snd.fst (.sub (F13.p9 n0)))) (.sub (F13.p10 n0)))) (.sub (F13.p21 n0)))) := by kernel_rfl
theorem F13.e8 {n0 : Nat} {at1 t6 rest8 tag9 : Value} {ds : List Nat} {h : H} {K : KP} : F13.p8 n0 [(1, at1), (6, t6), (8, rest8), (9, tag9)] ds h K = F13.t8 n0 (F13.p9 n0) (F13.p10 n0) (F13.p21 n0) at1 t6 rest8 tag9 ds h K :=
  wchain (F13.s8) (F13.g8 (F13.p9 n0) (F13.p10 n0) (F13.p21 n0) at1 t6 rest8 tag9)
noncomputable def F13.t9 (n0 : Nat) (at1 t6 rest8 tag9 n10 from11 t51 : Value) (ds : List Nat) (h : H) (K : KP) : Prop :=
  Bnd (aBin Try.prog true .eql 78 n10 (.int .u64 255)) fun t55 =>
  K .normal [(1, at1), (6, t6), (8, rest8), (9, tag9), (10, n10), (11, from11), (51, t55), (54, n10), (55, t55)] ds h
theorem F13.g9 {n0 : Nat} (at1 t6 rest8 tag9 n10 from11 t51 : Value) {ds : List Nat} {h : H} {K : KP} : wA Try.prog n0 115 none F13.c9 [(1, at1), (6, t6), (8, rest8), (9, tag9), (10, n10), (11, from11), (51, t51)] ds h K = F13.t9 n0 at1 t6 rest8 tag9 n10 from11 t51 ds h K := by kernel_rfl
theorem F13.s9 {n0 : Nat} : F13.p9 n0 = wA Try.prog n0 115 none F13.c9 := by kernel_rfl
theorem F13.e9 {n0 : Nat} {at1 t6 rest8 tag9 n10 from11 t51 : Value} {ds : List Nat} {h : H} {K : KP} : F13.p9 n0 [(1, at1), (6, t6), (8, rest8), (9, tag9), (10, n10), (11, from11), (51, t51)] ds h K = F13.t9 n0 at1 t6 rest8 tag9 n10 from11 t51 ds h K :=
  wchain (F13.s9) (F13.g9 at1 t6 rest8 tag9 n10 from11 t51)
noncomputable def F13.t10 (n0 : Nat) (B11 : WP) (B12 : WP) (at1 t6 rest8 tag9 n10 from11 t51 : Value) (ds : List Nat) (h : H) (K : KP) : Prop :=
  Cnd t51
   (B11 [(1, at1), (6, t6), (8, rest8), (9, tag9), (10, n10), (11, from11)] ds h K)
   (B12 [(1, at1), (6, t6), (8, rest8), (9, tag9), (10, n10), (11, from11)] ds h K)
theorem F13.g10 {n0 : Nat} (B11 : WP) (B12 : WP) (at1 t6 rest8 tag9 n10 from11 t51 : Value) {ds : List Nat} {h : H} {K : KP} : wA Try.prog n0 115 none (.cond [1, 6, 8, 9, 10, 11] (.tmp 51) (.sub B11) (.sub B12)) [(1, at1), (6, t6), (8, rest8), (9, tag9), (10, n10), (11, from11), (51, t51)] ds h K = F13.t10 n0 B11 B12 at1 t6 rest8 tag9 n10 from11 t51 ds h K := by kernel_rfl
theorem F13.s10 {n0 : Nat} : F13.p10 n0 = wA Try.prog n0 115 none (.cond [1, 6, 8, 9, 10, 11] (.tmp 51) (.sub (F13.p11 n0)) (.sub (F13.p12 n0))) := by kernel_rfl
theorem F13.e10 {n0 : Nat} {at1 t6 rest8 tag9 n10 from11 t51 : Value} {ds : List Nat} {h : H} {K : KP} : F13.p10 n0 [(1, at1), (6, t6), (8, rest8), (9, tag9), (10, n10), (11, from11), (51, t51)] ds h K = F13.t10 n0 (F13.p11 n0) (F13.p12 n0) at1 t6 rest8 tag9 n10 from11 t51 ds h K :=
  wchain (F13.s10) (F13.g10 (F13.p11 n0) (F13.p12 n0) at1 t6 rest8 tag9 n10 from11 t51)
noncomputable def F13.t11 (n0 : Nat) (at1 t6 rest8 tag9 n10 from11 : Value) (ds : List Nat) (h : H) (K : KP) : Prop :=
  Bnd (aBuild Try.prog 26 []) fun t56 =>
  Bnd (aStore Try.prog 26 t6 t56 h) fun h1 =>
  K .ret [(6, t6), (7, (.int .i64 21))] ds h1
theorem F13.g11 {n0 : Nat} (at1 t6 rest8 tag9 n10 from11 : Value) {ds : List Nat} {h : H} {K : KP} : wA Try.prog n0 115 none F13.c11 [(1, at1), (6, t6), (8, rest8), (9, tag9), (10, n10), (11, from11)] ds h K = F13.t11 n0 at1 t6 rest8 tag9 n10 from11 ds h K := by kernel_rfl
theorem F13.s11 {n0 : Nat} : F13.p11 n0 = wA Try.prog n0 115 none F13.c11 := by kernel_rfl
theorem F13.e11 {n0 : Nat} {at1 t6 rest8 tag9 n10 from11 : Value} {ds : List Nat} {h : H} {K : KP} : F13.p11 n0 [(1, at1), (6, t6), (8, rest8), (9, tag9), (10, n10), (11, from11)] ds h K = F13.t11 n0 at1 t6 rest8 tag9 n10 from11 ds h K :=
  wchain (F13.s11) (F13.g11 at1 t6 rest8 tag9 n10 from11)
noncomputable def F13.t12 (n0 : Nat) (B13 : WP) (at1 t6 rest8 tag9 n10 from11 : Value) (ds : List Nat) (h : H) (K : KP) : Prop :=
  Bnd (aBin Try.prog true .gtr 78 n10 (.int .u64 128)) fun t59 =>
  Cnd t59
   (B13 [(1, at1), (6, t6), (8, rest8), (9, tag9), (10, n10), (11, from11)] ds h K)
   (K .normal [(1, at1), (6, t6), (8, rest8), (9, tag9), (10, n10), (11, from11)] ds h)
theorem F13.g12 {n0 : Nat} (B13 : WP) (at1 t6 rest8 tag9 n10 from11 : Value) {ds : List Nat} {h : H} {K : KP} : wA Try.prog n0 115 none (.seq [1, 6, 8, 9, 10, 11, 57] F13.c12.fst (.cond [1, 6, 8, 9, 10, 11] (.tmp 57) (.sub B13) F13.c12.snd.snd)) [(1, at1), (6, t6), (8, rest8), (9, tag9), (10, n10), (11, from11)] ds h K = F13.t12 n0 B13 at1 t6 rest8 tag9 n10 from11 ds h K := by kernel_rfl
theorem F13.s12 {n0 : Nat} : F13.p12 n0 = wA Try.prog n0 115 none (.seq [1, 6, 8, 9, 10, 11, 57] F13.c12.fst (.cond [1, 6, 8, 9, 10, 11] (.tmp 57) (.sub (F13.p13 n0)) F13.c12.snd.snd)) := by kernel_rfl
theorem F13.e12 {n0 : Nat} {at1 t6 rest8 tag9 n10 from11 : Value} {ds : List Nat} {h : H} {K : KP} : F13.p12 n0 [(1, at1), (6, t6), (8, rest8), (9, tag9), (10, n10), (11, from11)] ds h K = F13.t12 n0 (F13.p13 n0) at1 t6 rest8 tag9 n10 from11 ds h K :=
  wchain (F13.s12) (F13.g12 (F13.p13 n0) at1 t6 rest8 tag9 n10 from11)
noncomputable def F13.t13 (n0 : Nat) (B14 : WP) (B15 : WP) (at1 t6 rest8 tag9 n10 from11 : Value) (ds : List Nat) (h : H) (K : KP) : Prop :=
  Bnd (aBin Try.prog true .andNot 78 n10 (.int .u64 128)) fun t62 =>
  Bnd2 (cvt Try.prog 78 3 t62 h) fun t63 h1 =>
  Bnd (aBin Try.prog false .add 3 from11 t63) fun t64 =>
  Bnd2 (aBuiltin Try.prog .len #[22] [rest8] h1) fun t67 h2 =>
  Bnd (aBin Try.prog false .gtr 3 t64 t67) fun t68 =>
  Cnd t68
   (B14 [(1, at1), (6, t6), (8, rest8), (9, tag9), (11, t64)] ds h2 (KSeq [1, 6, 8, 9, 11] B15 K))
   (B15 [(1, at1), (6, t6), (8, rest8), (9, tag9), (11, t64)] ds h2 K)
theorem F13.g13 {n0 : Nat} (B14 : WP) (B15 : WP) (at1 t6 rest8 tag9 n10 from11 : Value) {ds : List Nat} {h : H} {K : KP} : wA Try.prog n0 115 none (.seq [1, 6, 8, 9, 11] F13.c13.fst (.seq [1, 6, 8, 9, 11] (.seq [1, 6, 8, 9, 11, 68] F13.c13.snd.fst.fst (.cond [1, 6, 8, 9, 11] (.tmp 68) (.sub B14) F13.c13.snd.fst.snd.snd)) (.sub B15))) [(1, at1), (6, t6), (8, rest8), (9, tag9), (10, n10), (11, from11)] ds h K = F13.t13 n0 B14 B15 at1 t6 rest8 tag9 n10 from11 ds h K := by kernel_rfl
theorem F13.s13 {n0 : Nat} : F13.p13 n0 = wA Try.prog n0 115 none (.seq [1, 6, 8, 9, 11] F13.c13.fst (.seq [1, 6, 8, 9, 11] (.seq [1, 6, 8, 9, 11, 68] F13.c13.snd.fst.fst (.cond [1, 6, 8, 9, 11] (.tmp 68) (.sub (F13.p14 n0)) F13.c13.snd.fst.snd.snd)) (.sub (F13.p15 n0)))) := by kernel_rfl
theorem F13.e13 {n0 : Nat} {at1 t6 rest8 tag9 n10 from11 : Value} {ds : List Nat} {h : H} {K : KP} : F13.p13 n0 [(1, at1), (6, t6), (8, rest8), (9, tag9), (10, n10), (11, from11)] ds h K = F13.t13 n0 (F13.p14 n0) (F13.p15 n0) at1 t6 rest8 tag9 n10 from11 ds h K :=
  wchain (F13.s13) (F13.g13 (F13.p14 n0) (F13.p15 n0) at1 t6 rest8 tag9 n10 from11)
noncomputable def F13.t14 (n0 : Nat) (at1 t6 rest8 tag9 from11 : Value) (ds : List Nat) (h : H) (K : KP) : Prop :=
  Bnd (aBuild Try.prog 26 []) fun t69 =>
  Bnd (aStore Try.prog 26 t6 t69 h) fun h1 =>
  K .ret [(6, t6), (7, (.int .i64 5))] ds h1
theorem F13.g14 {n0 : Nat} (at1 t6 rest8 tag9 from11 : Value) {ds : List Nat} {h : H} {K : KP} : wA Try.prog n0 115 none F13.c14 [(1, at1), (6, t6), (8, rest8), (9, tag9), (11, from11)] ds h K = F13.t14 n0 at1 t6 rest8 tag9 from11 ds h K := by kernel_rfl
theorem F13.s14 {n0 : Nat} : F13.p14 n0 = wA Try.prog n0 115 none F13.c14 := by kernel_rfl
theorem F13.e14 {n0 : Nat} {at1 t6 rest8 tag9 from11 : Value} {ds : List Nat} {h : H} {K : KP} : F13.p14 n0 [(1, at1), (6, t6), (8, rest8), (9, tag9), (11, from11)] ds h K = F13.t14 n0 at1 t6 rest8 tag9 from11 ds h K :=
  wchain (F13.s14) (F13.g14 at1 t6 rest8 tag9 from11)
noncomputable def F13.t15 (n0 : Nat) (B16 : WP) (at1 t6 rest8 tag9 from11 : Value) (ds : List Nat) (h : H) (K : KP) : Prop :=
  Bnd (aSlice Try.prog 22 rest8 (some (.int .i64 2)) (some from11) none h) fun t72 =>
  Bnd2 (aBuiltin Try.prog .len #[22] [t72] h) fun t73 h1 =>
  Lp [1, 6, 8, 9, 10, 11, 72, 73, 74] B16 [(1, at1), (6, t6), (8, rest8), (9, tag9), (10, (.int .u64 0)), (11, from11), (72, t72), (73, t73), (74, (.int .i64 0))] ds h1 (KBlk [1, 6, 8, 9, 10, 11] 1 K)
theorem F13.g15 {n0 : Nat} (B16 : WP) (at1 t6 rest8 tag9 from11 : Value) {ds : List Nat} {h : H} {K : KP} : wA Try.prog n0 115 none (.seq [1, 6, 8, 9, 10, 11] F13.c15.fst (.seq [1, 6, 8, 9, 10, 11, 72, 73, 74] F13.c15.snd.fst (.block [1, 6, 8, 9, 10, 11] 1 (.loop [1, 6, 8, 9, 10, 11, 72, 73, 74] (.sub B16))))) [(1, at1), (6, t6), (8, rest8), (9, tag9), (11, from11)] ds h K = F13.t15 n0 B16 at1 t6 rest8 tag9 from11 ds h K := by kernel_rfl
theorem F13.s15 {n0 : Nat} : F13.p15 n0 = wA Try.prog n0 115 none (.seq [1, 6, 8, 9, 10, 11] F13.c15.fst (.seq [1, 6, 8, 9, 10, 11, 72, 73, 74] F13.c15.snd.fst (.block [1, 6, 8, 9, 10, 11] 1 (.loop [1, 6, 8, 9, 10, 11, 72, 73, 74] (.sub (F13.p16 n0)))))) := by kernel_rfl
theorem F13.e15 {n0 : Nat} {at1 t6 rest8 tag9 from11 : Value} {ds : List Nat} {h : H} {K : KP} : F13.p15 n0 [(1, at1), (6, t6), (8, rest8), (9, tag9), (11, from11)] ds h K = F13.t15 n0 (F13.p16 n0) at1 t6 rest8 tag9 from11 ds h K :=
  wchain (F13.s15) (F13.g15 (F13.p16 n0) at1 t6 rest8 tag9 from11)
noncomputable def F13.t16 (n0 : Nat) (B17 : WP) (at1 t6 rest8 tag9 n10 from11 t72 t73 t74 : Value) (ds : List Nat) (h : H) (K : KP) : Prop :=
  Bnd (aBin Try.prog false .lss 3 t74 t73) fun t75 =>
  Cnd t75
   (B17 [(1, at1), (6, t6), (8, rest8), (9, tag9), (10, n10), (11, from11), (72, t72), (73, t73), (74, t74)] ds h K)
   (K (.exit 1) [(1, at1), (6, t6), (8, rest8), (9, tag9), (10, n10), (11, from11), (72, t72), (73, t73), (74, t74)] ds h)
theorem F13.g16 {n0 : Nat} (B17 : WP) (at1 t6 rest8 tag9 n10 from11 t72 t73 t74 : Value) {ds : List Nat} {h : H} {K : KP} : wA Try.prog n0 115 none (.seq [1, 6, 8, 9, 10, 11, 72, 73, 74, 75] F13.c16.fst (.seq [1, 6, 8, 9, 10, 11, 72, 73, 74] F13.c16.snd.fst (.sub B17))) [(1, at1), (6, t6), (8, rest8), (9, tag9), (10, n10), (11, from11), (72, t72), (73, t73), (74, t74)] ds h K = F13.t16 n0 B17 at1 t6 rest8 tag9 n10 from11 t72 t73 t74 ds h K := by kernel_rfl
theorem F13.s16 {n0 : Nat} : F13.p16 n0 = wA Try.prog n0 115 none (.seq [1, 6, 8, 9, 10, 11, 72, 73, 74, 75] F13.c16.fst (.seq [1, 6, 8, 9, 10, 11, 72, 73, 74] F13.c16.snd.fst (.sub (F13.p17 n0)))) := by kernel_rfl
theorem F13.e16 {n0 : Nat} {at1 t6 rest8 tag9 n10 from11 t72 t73 t74 : Value} {ds : List Nat} {h : H} {K : KP} : F13.p16 n0 [(1, at1), (6, t6), (8, rest8), (9, tag9), (10, n10), (11, from11), (72, t72), (73, t73), (74, t74)] ds h K = F13.t16 n0 (F13.p17 n0) at1 t6 rest8 tag9 n10 from11 t72 t73 t74 ds h K :=
  wchain (F13.s16) (F13.g16 (F13.p17 n0) at1 t6 rest8 tag9 n10 from11 t72 t73 t74)
theorem F13.k16 : F13.c16.ok = true := by kernel_rfl
theorem F13.d16 {n0 : Nat} : F13.p16 n0 = wA Try.prog n0 115 none F13.c16 := by kernel_rfl
theorem F13.m16 (n0 : Nat) : MonoW (F13.p16 n0) := @mono_c Try.prog n0 115 none F13.c16 (F13.p16 n0) (F13.d16) F13.k16
noncomputable def F13.t17 (n0 : Nat) (B18 : WP) (B19 : WP) (B20 : WP) (at1 t6 rest8 tag9 n10 from11 t72 t73 t74 : Value) (ds : List Nat) (h : H) (K : KP) : Prop :=
  Bnd (aIndexAddr Try.prog 22 t72 t74) fun t76 =>
  Bnd (aLoad Try.prog 5 t76 h) fun t77 =>
  Bnd (aBin Try.prog true .geq 78 n10 (.int .u64 281474976710656)) fun t79 =>
  Cnd t79
   (B18 [(1, at1), (6, t6), (8, rest8), (9, tag9), (10, n10), (11, from11), (13, t77), (72, t72), (73, t73), (74, t74)] ds h (KSeq [1, 6, 8, 9, 10, 11, 13, 72, 73, 74] B19 (KBlk [1, 6, 8, 9, 10, 11, 72, 73, 74] 2 (KSeq [1, 6, 8, 9, 10, 11, 72, 73, 74] B20 K))))
   (B19 [(1, at1), (6, t6), (8, rest8), (9, tag9), (10, n10), (11, from11), (13, t77), (72, t72), (73, t73), (74, t74)] ds h (KBlk [1, 6, 8, 9, 10, 11, 72, 73, 74] 2 (KSeq [1, 6, 8, 9, 10, 11, 72, 73, 74] B20 K)))
theorem F13.g17 {n0 : Nat} (B18 : WP) (B19 : WP) (B20 : WP) (at1 t6 rest8 tag9 n10 from11 t72 t73 t74 : Value) {ds : List Nat} {h : H} {K : KP} : wA Try.prog n0 115 none (.seq [1, 6, 8, 9, 10, 11, 72, 73, 74] (.block [1, 6, 8, 9, 10, 11, 72, 73, 74] 2 (.seq [1, 6, 8, 9, 10, 11, 13, 72, 73, 74] F13.c17.fst.fst.fst (.seq [1, 6, 8, 9, 10, 11, 13, 72, 73, 74] (.seq [1, 6, 8, 9, 10, 11, 13, 72, 73, 74, 79] F13.c17.fst.fst.snd.fst.fst (.cond [1, 6, 8, 9, 10, 11, 13, 72, 73, 74] (.tmp 79) (.sub B18) F13.c17.fst.fst.snd.fst.snd.snd)) (.sub B19)))) (.sub B20)) [(1, at1), (6, t6), (8, rest8), (9, tag9), (10, n10), (11, from11), (72, t72), (73, t73), (74, t74)] ds h K = F13.t17 n0 B18 B19 B20 at1 t6 rest8 tag9 n10 from11 t72 t73 t74 ds h K := by kernel_rfl
theorem F13.s17 {n0 : Nat} : F13.p17 n0 = wA Try.prog n0 115 none (.seq [1, 6, 8, 9, 10, 11, 72, 73, 74] (.block [1, 6, 8, 9, 10, 11, 72, 73, 74] 2 (.seq [1, 6, 8, 9, 10, 11, 13, 72, 73, 74] F13.c17.fst.fst.fst (.seq [1, 6, 8, 9, 10, 11, 13, 72, 73, 74] (.seq [1, 6, 8, 9, 10, 11, 13, 72, 73, 74, 79] F13.c17.fst.fst.snd.fst.fst (.cond [1, 6, 8, 9, 10, 11, 13, 72, 73, 74] (.tmp 79) (.sub (F13.p18 n0)) F13.c17.fst.fst.snd.fst.snd.snd)) (.sub (F13.p19 n0))))) (.sub (F13.p20 n0))) := by kernel_rfl
theorem F13.e17 {n0 : Nat} {at1 t6 rest8 tag9 n10 from11 t72 t73 t74 : Value} {ds : List Nat} {h : H} {K : KP} : F13.p17 n0 [(1, at1), (6, t6), (8, rest8), (9, tag9), (10, n10), (11, from11), (72, t72), (73, t73), (74, t74)] ds h K = F13.t17 n0 (F13.p18 n0) (F13.p19 n0) (F13.p20 n0) at1 t6 rest8 tag9 n10 from11 t72 t73 t74 ds h K :=
  wchain (F13.s17) (F13.g17 (F13.p18 n0) (F13.p19 n0) (F13.p20 n0) at1 t6 rest8 tag9 n10 from11 t72 t73 t74)
noncomputable def F13.t18 (n0 : Nat) (at1 t6 rest8 tag9 n10 from11 c13 t72 t73 t74 : Value) (ds : List Nat) (h : H) (K : KP) : Prop :=
  Bnd (aBuild Try.prog 26 []) fun t80 =>
  Bnd (aStore Try.prog 26 t6 t80 h) fun h1 =>
  K .ret [(6, t6), (7, (.int .i64 5))] ds h1
theorem F13.g18 {n0 : Nat} (at1 t6 rest8 tag9 n10 from11 c13 t72 t73 t74 : Value) {ds : List Nat} {h : H} {K : KP} : wA Try.prog n0 115 none F13.c18 [(1, at1), (6, t6), (8, rest8), (9, tag9), (10, n10), (11, from11), (13, c13), (72, t72), (73, t73), (74, t74)] ds h K = F13.t18 n0 at1 t6 rest8 tag9 n10 from11 c13 t72 t73 t74 ds h K := by kernel_rfl
theorem F13.s18 {n0 : Nat} : F13.p18 n0 = wA Try.prog n0 115 none F13.c18 := by kernel_rfl
theorem F13.e18 {n0 : Nat} {at1 t6 rest8 tag9 n10 from11 c13 t72 t73 t74 : Value} {ds : List Nat} {h : H} {K : KP} : F13.p18 n0 [(1, at1), (6, t6), (8, rest8), (9, tag9), (10, n10), (11, from11), (13, c13), (72, t72), (73, t73), (74, t74)] ds h K = F13.t18 n0 at1 t6 rest8 tag9 n10 from11 c13 t72 t73 t74 ds h K :=
  wchain (F13.s18) (F13.g18 at1 t6 rest8 tag9 n10 from11 c13 t72 t73 t74)
noncomputable def F13.t19 (n0 : Nat) (at1 t6 rest8 tag9 n10 from11 c13 t72 t73 t74 : Value) (ds : List Nat) (h : H) (K : KP) : Prop :=
  Bnd (aBin Try.prog true .shl 78 n10 (.int .u64 8)) fun t82 =>
  Bnd2 (cvt Try.prog 5 78 c13 h) fun t85 h1 =>
  Bnd (aBin Try.prog false .or 78 t82 t85) fun t86 =>
  K .normal [(1, at1), (6, t6), (8, rest8), (9, tag9), (10, t86), (11, from11), (13, c13), (72, t72), (73, t73), (74, t74), (83, t82), (84, c13), (85, t85), (86, t86)] ds h1
theorem F13.g19 {n0 : Nat} (at1 t6 rest8 tag9 n10 from11 c13 t72 t73 t74 : Value) {ds : List Nat} {h : H} {K : KP} : wA Try.prog n0 115 none F13.c19 [(1, at1), (6, t6), (8, rest8), (9, tag9), (10, n10), (11, from11), (13, c13), (72, t72), (73, t73), (74, t74)] ds h K = F13.t19 n0 at1 t6 rest8 tag9 n10 from11 c13 t72 t73 t74 ds h K := by kernel_rfl
theorem F13.s19 {n0 : Nat} : F13.p19 n0 = wA Try.prog n0 115 none F13.c19 := by kernel_rfl
theorem F13.e19 {n0 : Nat} {at1 t6 rest8 tag9 n10 from11 c13 t72 t73 t74 : Value} {ds : List Nat} {h : H} {K : KP} : F13.p19 n0 [(1, at1), (6, t6), (8, rest8), (9, tag9), (10, n10), (11, from11), (13, c13), (72, t72), (73, t73), (74, t74)] ds h K = F13.t19 n0 at1 t6 rest8 tag9 n10 from11 c13 t72 t73 t74 ds h K :=
  wchain (F13.s19) (F13.g19 at1 t6 rest8 tag9 n10 from11 c13 t72 t73 t74)
noncomputable def F13.t20 (n0 : Nat) (at1 t6 rest8 tag9 n10 from11 t72 t73 t74 : Value) (ds : List Nat) (h : H) (K : KP) : Prop :=
  Bnd (aBin Try.prog true .add 3 t74 (.int .i64 1)) fun t87 =>
  K .normal [(1, at1), (6, t6), (8, rest8), (9, tag9), (10, n10), (11, from11), (72, t72), (73, t73), (74, t87), (87, t87)] ds h
theorem F13.g20 {n0 : Nat} (at1 t6 rest8 tag9 n10 from11 t72 t73 t74 : Value) {ds : List Nat} {h : H} {K : KP} : wA Try.prog n0 115 none F13.c20 [(1, at1), (6, t6), (8, rest8), (9, tag9), (10, n10), (11, from11), (72, t72), (73, t73), (74, t74)] ds h K = F13.t20 n0 at1 t6 rest8 tag9 n10 from11 t72 t73 t74 ds h K := by kernel_rfl
theorem F13.s20 {n0 : Nat} : F13.p20 n0 = wA Try.prog n0 115 none F13.c20 := by kernel_rfl
theorem F13.e20 {n0 : Nat} {at1 t6 rest8 tag9 n10 from11 t72 t73 t74 : Value} {ds : List Nat} {h : H} {K : KP} : F13.p20 n0 [(1, at1), (6, t6), (8, rest8), (9, tag9), (10, n10), (11, from11), (72, t72), (73, t73), (74, t74)] ds h K = F13.t20 n0 at1 t6 rest8 tag9 n10 from11 t72 t73 t74 ds h K :=
  wchain (F13.s20) (F13.g20 at1 t6 rest8 tag9 n10 from11 t72 t73 t74)
noncomputable def F13.t21 (n0 : Nat) (B22 : WP) (B23 : WP) (at1 t6 rest8 tag9 n10 from11 : Value) (ds : List Nat) (h : H) (K : KP) : Prop :=
  Bnd2 (aBuiltin Try.prog .len #[22] [rest8] h) fun t90 h1 =>
  Bnd (aBin Try.prog false .sub 3 t90 from11) fun t92 =>
  Bnd2 (cvt Try.prog 3 78 t92 h1) fun t93 h2 =>
  Bnd (aBin Try.prog false .gtr 78 n10 t93) fun t94 =>
  Cnd t94
   (B22 [(1, at1), (6, t6), (9, tag9), (10, n10), (11, from11)] ds h2 (KSeq [1, 6, 9, 10, 11] B23 K))
   (B23 [(1, at1), (6, t6), (9, tag9), (10, n10), (11, from11)] ds h2 K)
theorem F13.g21 {n0 : Nat} (B22 : WP) (B23 : WP) (at1 t6 rest8 tag9 n10 from11 : Value) {ds : List Nat} {h : H} {K : KP} : wA Try.prog n0 115 none (.seq [1, 6, 9, 10, 11] (.seq [1, 6, 9, 10, 11, 94] F13.c21.fst.fst (.cond [1, 6, 9, 10, 11] (.tmp 94) (.sub B22) F13.c21.fst.snd.snd)) (.sub B23)) [(1, at1), (6, t6), (8, rest8), (9, tag9), (10, n10), (11, from11)] ds h K = F13.t21 n0 B22 B23 at1 t6 rest8 tag9 n10 from11 ds h K := by kernel_rfl
theorem F13.s21 {n0 : Nat} : F13.p21 n0 = wA Try.prog n0 115 none (.seq [1, 6, 9, 10, 11] (.seq [1, 6, 9, 10, 11, 94] F13.c21.fst.fst (.cond [1, 6, 9, 10, 11] (.tmp 94) (.sub (F13.p22 n0)) F13.c21.fst.snd.snd)) (.sub (F13.p23 n0))) := by kernel_rfl
theorem F13.e21 {n0 : Nat} {at1 t6 rest8 tag9 n10 from11 : Value} {ds : List Nat} {h : H} {K : KP} : F13.p21 n0 [(1, at1), (6, t6), (8, rest8), (9, tag9), (10, n10), (11, from11)] ds h K = F13.t21 n0 (F13.p22 n0) (F13.p23 n0) at1 t6 rest8 tag9 n10 from11 ds h K :=
  wchain (F13.s21) (F13.g21 (F13.p22 n0) (F13.p23 n0) at1 t6 rest8 tag9 n10 from11)
noncomputable def F13.t22 (n0 : Nat) (at1 t6 tag9 n10 from11 : Value) (ds : List Nat) (h : H) (K : KP) : Prop :=
  Bnd (aBuild Try.prog 26 []) fun t95 =>
  Bnd (aStore Try.prog 26 t6 t95 h) fun h1 =>
  K .ret [(6, t6), (7, (.int .i64 5))] ds h1
theorem F13.g22 {n0 : Nat} (at1 t6 tag9 n10 from11 : Value) {ds : List Nat} {h : H} {K : KP} : wA Try.prog n0 115 none F13.c22 [(1, at1), (6, t6), (9, tag9), (10, n10), (11, from11)] ds h K = F13.t22 n0 at1 t6 tag9 n10 from11 ds h K := by kernel_rfl
theorem F13.s22 {n0 : Nat} : F13.p22 n0 = wA Try.prog n0 115 none F13.c22 := by kernel_rfl
theorem F13.e22 {n0 : Nat} {at1 t6 tag9 n10 from11 : Value} {ds : List Nat} {h : H} {K : KP} : F13.p22 n0 [(1, at1), (6, t6), (9, tag9), (10, n10), (11, from11)] ds h K = F13.t22 n0 at1 t6 tag9 n10 from11 ds h K :=
  wchain (F13.s22) (F13.g22 at1 t6 tag9 n10 from11)
noncomputable def F13.t23 (n0 : Nat) (at1 t6 tag9 n10 from11 : Value) (ds : List Nat) (h : H) (K : KP) : Prop :=
  Bnd (aBin Try.prog true .shr 5 tag9 (.int .u64 6)) fun t97 =>
  Bnd2 (cvt Try.prog 5 24 t97 h) fun t98 h1 =>
  Bnd (aBin Try.prog true .and 5 tag9 (.int .u8 32)) fun t100 =>
  Bnd (aBin Try.prog true .neq 5 t100 (.int .u8 0)) fun t101 =>
  Bnd (aBin Try.prog true .and 5 tag9 (.int .u8 31)) fun t103 =>
  Bnd2 (cvt Try.prog 5 3 t103 h1) fun t104 h2 =>
  Bnd (aBin Try.prog false .add 3 at1 from11) fun t107 =>
  Bnd (aBin Try.prog false .add 3 at1 from11) fun t110 =>
  Bnd2 (cvt Try.prog 78 3 n10 h2) fun t112 h3 =>
  Bnd (aBin Try.prog false .add 3 t110 t112) fun t113 =>
  Bnd (aBuild Try.prog 26 [(0, t98), (1, t101), (2, t104), (3, t107), (4, t113)]) fun t114 =>
  Bnd (aStore Try.prog 26 t6 t114 h3) fun h4 =>
  K .ret [(6, t6), (7, (.int .i64 0))] ds h4
theorem F13.g23 {n0 : Nat} (at1 t6 tag9 n10 from11 : Value) {ds : List Nat} {h : H} {K : KP} : wA Try.prog n0 115 none F13.c23 [(1, at1), (6, t6), (9, tag9), (10, n10), (11, from11)] ds h K = F13.t23 n0 at1 t6 tag9 n10 from11 ds h K := by kernel_rfl
theorem F13.s23 {n0 : Nat} : F13.p23 n0 = wA Try.prog n0 115 none F13.c23 := by kernel_rfl
theorem F13.e23 {n0 : Nat} {at1 t6 tag9 n10 from11 : Value} {ds : List Nat} {h : H} {K : KP} : F13.p23 n0 [(1, at1), (6, t6), (9, tag9), (10, n10), (11, from11)] ds h K = F13.t23 n0 at1 t6 tag9 n10 from11 ds h K :=
  wchain (F13.s23) (F13.g23 at1 t6 tag9 n10 from11)
theorem F13.b : Try.f13.body = some F13.c0.erase := by kernel_rfl
theorem F13.b2 : (Try.f13.name == "runtime.NumGoroutine") = false := by kernel_rfl
theorem F13.b3 : Try.f13.ntmps = 115 := by kernel_rfl
theorem F13.b4 : Try.f13.results.toList = [.cell 6 26, .tmp 7] := by kernel_rfl
theorem F13.enter {n0 : Nat} {x0 x1 x2 : Value} {h : H} {Q : Value → H → Prop} (w : F13.p0 n0 [(0, x0), (1, x1), (2, x2)] [] h (KFin Try.prog [.cell 6 26, .tmp 7] Q)) : Cn Try.prog n0 (.func 13) [x0, x1, x2] h Q :=
  @fn_enter Try.prog n0 mixed 13 Try.f13 F13.c0 [x0, x1, x2] h Q Try.func13 F13.b F13.k0 F13.b2 115 F13.b3 [.cell 6 26, .tmp 7] F13.b4 (by simp) [(0, x0), (1, x1), (2, x2)] rfl (wback F13.d0 w)

/-! roster.rosterref02.Head -/
noncomputable def F14.ac : AC := (ann (bodyOf Try.f14) [[0, 1, 2, 6], [0, 1, 2, 6], [0, 1, 2, 6, 24], [0, 1, 2, 6], [6, 7], [0, 1, 2, 6], [0, 1, 2, 6, 28], [0, 1, 2, 6], [6, 7], [0, 1, 2, 6, 8], [0, 1, 2, 6, 8], [0, 1, 2, 6, 8, 52], [0, 1, 2, 6, 8], [6, 7], [0, 1, 2, 6, 8], [0, 1, 2, 6, 8, 57], [0, 1, 2, 6, 8], [6, 7], [0, 1, 2, 6, 8, 9], [0, 2, 6, 8, 9], [0, 2, 6, 8, 9], [0, 2, 6, 8, 9, 73], [0, 2, 6, 8, 9], [6, 7], [2, 6, 8, 9], [0, 2, 6, 8, 9, 76], [0, 2, 6, 8, 9], [0, 2, 6, 8, 10], [0, 2, 6, 8, 10], [0, 2, 6, 8, 10, 84], [0, 2, 6, 8, 10], [6, 7], [0, 2, 6, 8, 9, 10], [2, 6, 8, 9, 10], [0, 2, 6, 8, 9, 10, 11], [2, 6, 8, 9, 10], [0, 2, 6, 8, 9, 10, 11], [0, 2, 6, 8, 9, 10, 11], [0, 2, 6, 8, 9, 10, 11, 88], [0, 2, 6, 8, 9, 10, 11], [0, 2, 6, 8, 9, 10, 11], [0, 2, 6, 8, 9, 10, 11], [6, 8, 9], [6, 8, 9, 113], [6, 8, 9], [6, 7], [6, 8], [6, 7]]).1
noncomputable def F14.c0 : AC := F14.ac
noncomputable def F14.c1 : AC := F14.ac.snd.fst.snd.fst
noncomputable def F14.c2 : AC := F14.ac.snd.snd
noncomputable def F14.c3 : AC := F14.ac.snd.snd.fst.snd.fst
noncomputable def F14.c4 : AC := F14.ac.snd.snd.snd
noncomputable def F14.c5 : AC := F14.ac.snd.snd.snd.snd.fst.snd.fst
noncomputable def F14.c6 : AC := F14.ac.snd.snd.snd.snd.snd
noncomputable def F14.c7 : AC := F14.ac.snd.snd.snd.snd.snd.fst.snd.fst
noncomputable def F14.c8 : AC := F14.ac.snd.snd.snd.snd.snd.snd
noncomputable def F14.c9 : AC := F14.ac.snd.snd.snd.snd.snd.snd.snd.snd.fst.snd.fst
noncomputable def F14.c10 : AC := F14.ac.snd.snd.snd.snd.snd.snd.snd.snd.snd
noncomputable def F14.c11 : AC := F14.ac.snd.snd.snd.snd.snd.snd.snd.snd.snd.fst.snd.fst
noncomputable def F14.c12 : AC := F14.ac.snd.snd.snd.snd.snd.snd.snd.snd.snd.fst.snd.fst.snd.fst.snd.fst
noncomputable def F14.c13 : AC := F14.ac.snd.snd.snd.snd.snd.snd.snd.snd.snd.fst.snd.fst.snd.snd
noncomputable def F14.c14 : AC := F14.ac.snd.snd.snd.snd.snd.snd.snd.snd.snd.fst.snd.fst.snd.snd.snd.fst.snd.fst.fst
noncomputable def F14.c15 : AC := F14.ac.snd.snd.snd.snd.snd.snd.snd.snd.snd.fst.snd.fst.snd.snd.snd.fst.snd.fst.fst.snd
noncomputable def F14.c16 : AC := F14.ac.snd.snd.snd.snd.snd.snd.snd.snd.snd.fst.snd.fst.snd.snd.snd.fst.snd.fst.fst.snd.snd
noncomputable def F14.c17 : AC := F14.ac.snd.snd.snd.snd.snd.snd.snd.snd.snd.fst.snd.fst.snd.snd.snd.snd
noncomputable def F14.c18 : AC := F14.ac.snd.snd.snd.snd.snd.snd.snd.snd.snd.snd
noncomputable def F14.c19 : AC := F14.ac.snd.snd.snd.snd.snd.snd.snd.snd.snd.snd.fst.snd.fst
noncomputable def F14.c20 : AC := F14.ac.snd.snd.snd.snd.snd.snd.snd.snd.snd.snd.snd
noncomputable def F14.p0 (n0 : Nat) : WP := wA Try.prog n0 121 none F14.c0
noncomputable def F14.p1 (n0 : Nat) : WP := wA Try.prog n0 121 none F14.c1
noncomputable def F14.p2 (n0 : Nat) : WP := wA Try.prog n0 121 none F14.c2
noncomputable def F14.p3 (n0 : Nat) : WP := wA Try.prog n0 121 none F14.c3
noncomputable def F14.p4 (n0 : Nat) : WP := wA Try.prog n0 121 none F14.c4
noncomputable def F14.p5 (n0 : Nat) : WP := wA Try.prog n0 121 none F14.c5
noncomputable def F14.p6 (n0 : Nat) : WP := wA Try.prog n0 121 none F14.c6
noncomputable def F14.p7 (n0 : Nat) : WP := wA Try.prog n0 121 none F14.c7
noncomputable def F14.p8 (n0 : Nat) : WP := wA Try.prog n0 121 none F14.c8
noncomputable def F14.p9 (n0 : Nat) : WP := wA Try.prog n0 121 none F14.c9
noncomputable def F14.p10 (n0 : Nat) : WP := wA Try.prog n0 121 none F14.c10
noncomputable def F14.p11 (n0 : Nat) : WP := wA Try.prog n0 121 none F14.c11
noncomputable def F14.p12 (n0 : Nat) : WP := wA Try.prog n0 121 none F14.c12
noncomputable def F14.p13 (n0 : Nat) : WP := wA Try.prog n0 121 none F14.c13
noncomputable def F14.p14 (n0 : Nat) : WP := wA Try.prog n0 121 none F14.c14
noncomputable def F14.p15 (n0 : Nat) : WP := wA Try.prog n0 121 none F14.c15
noncomputable def F14.p16 (n0 : Nat) : WP := wA Try.prog n0 121 none F14.c16
noncomputable def F14.p17 (n0 : Nat) : WP := wA Try.prog n0 121 none F14.c17
noncomputable def F14.p18 (n0 : Nat) : WP := wA Try.prog n0 121 none F14.c18
noncomputable def F14.p19 (n0 : Nat) : WP := wA Try.prog n0 121 none F14.c19
noncomputable def F14.p20 (n0 : Nat) : WP := wA Try.prog n0 121 none F14.c20
noncomputable def F14.t0 (n0 : Nat) (B1 : WP) (B2 : WP) (b0 at1 end2 : Value) (ds : List Nat) (h : H) (K : KP) : Prop :=
  Nw (enc 0 26) (zc Try.prog 26) h fun t6 h1 =>
  Bnd (aBin Try.prog true .lss 3 at1 (.int .i64 0)) fun t13 =>
  Gd t13
   (B1 [(0, b0), (1, at1), (2, end2), (6, t6)] ds h1 (KSeq [0, 1, 2, 6] B2 K))
   (Bnd (aBin Try.prog false .lss 3 end2 at1) fun t17 =>
  Gd t17
   (B1 [(0, b0), (1, at1), (2, end2), (6, t6)] ds h1 (KSeq [0, 1, 2, 6] B2 K))
   (Bnd2 (aBuiltin Try.prog .len #[22] [b0] h1) fun t22 h2 =>
  Bnd (aBin Try.prog false .gtr 3 end2 t22) fun t23 =>
  Cnd t23
   (B1 [(0, b0), (1, at1), (2, end2), (6, t6)] ds h2 (KSeq [0, 1, 2, 6] B2 K))
   (B2 [(0, b0), (1, at1), (2, end2), (6, t6)] ds h2 K)))
theorem F14.g0 {n0 : Nat} (B1 : WP) (B2 : WP) (b0 at1 end2 : Value) {ds : List Nat} {h : H} {K : KP} : wA Try.prog n0 121 none (.seq [0, 1, 2, 6] F14.c0.fst (.seq [0, 1, 2, 6] (.seq [0, 1, 2, 6, 24] F14.c0.snd.fst.fst (.cond [0, 1, 2, 6] (.tmp 24) (.sub B1) F14.c0.snd.fst.snd.snd)) (.sub B2))) [(0, b0), (1, at1), (2, end2)] ds h K = F14.t0 n0 B1 B2 b0 at1 end2 ds h K := by kernel_rfl
theorem F14.s0 {n0 : Nat} : F14.p0 n0 = wA Try.prog n0 121 none (.seq [0, 1, 2, 6] F14.c0.fst (.seq [0, 1, 2, 6] (.seq [0, 1, 2, 6, 24] F14.c0.snd.fst.fst (.cond [0, 1, 2, 6] (.tmp 24) (.sub (F14.p1 n0)) F14.c0.snd.fst.snd.snd)) (.sub (F14.p2 n0)))) := by kernel_rfl
theorem F14.e0 {n0 : Nat} {b0 at1 end2 : Value} {ds : List Nat} {h : H} {K : KP} : F14.p0 n0 [(0, b0), (1, at1), (2, end2)] ds h K = F14.t0 n0 (F14.p1 n0) (F14.p2 n0) b0 at1 end2 ds h K :=
  wchain (F14.s0) (F14.g0 (F14.p1 n0) (F14.p2 n0) b0 at1 end2)
theorem F14.k0 : F14.c0.ok = true := by kernel_rfl
theorem F14.d0 {n0 : Nat} : F14.p0 n0 = wA Try.prog n0 121 none F14.c0 := by kernel_rfl
theorem F14.m0 (n0 : Nat) : MonoW (F14.p0 n0) := @mono_c Try.prog n0 121 none F14.c0 (F14.p0 n0) (F14.d0) F14.k0
noncomputable def F14.t1 (n0 : Nat) (b0 at1 end2 t6 : Value) (ds : List Nat) (h : H) (K : KP) : Prop :=
  Bnd (aBuild Try.prog 26 []) fun t25 =>
  Bnd (aStore Try.prog 26 t6 t25 h) fun h1 =>
  K .ret [(6, t6), (7, (.int .i64 2))] ds h1
theorem F14.g1 {n0 : Nat} (b0 at1 end2 t6 : Value) {ds : List Nat} {h : H} {K : KP} : wA Try.prog n0 121 none F14.c1 [(0, b0), (1, at1), (2, end2), (6, t6)] ds h K = F14.t1 n0 b0 at1 end2 t6 ds h K := by kernel_rfl
theorem F14.s1 {n0 : Nat} : F14.p1 n0 = wA Try.prog n0 121 none F14.c1 := by kernel_rfl
theorem F14.e1 {n0 : Nat} {b0 at1 end2 t6 : Value} {ds : List Nat} {h : H} {K : KP} : F14.p1 n0 [(0, b0), (1, at1), (2, end2), (6, t6)] ds h K = F14.t1 n0 b0 at1 end2 t6 ds h K :=
  wchain (F14.s1) (F14.g1 b0 at1 end2 t6)
noncomputable def F14.t2 (n0 : Nat) (B3 : WP) (B4 : WP) (b0 at1 end2 t6 : Value) (ds : List Nat) (h : H) (K : KP) : Prop :=
  Bnd (aBin Try.prog false .eql 3 at1 end2) fun t28 =>
  Cnd t28
   (B3 [(0, b0), (1, at1), (2, end2), (6, t6)] ds h (KSeq [0, 1, 2, 6] B4 K))
   (B4 [(0, b0), (1, at1), (2, end2), (6, t6)] ds h K)
theorem F14.g2 {n0 : Nat} (B3 : WP) (B4 : WP) (b0 at1 end2 t6 : Value) {ds : List Nat} {h : H} {K : KP} : wA Try.prog n0 121 none (.seq [0, 1, 2, 6] (.seq [0, 1, 2, 6, 28] F14.c2.fst.fst (.cond [0, 1, 2, 6] (.tmp 28) (.sub B3) F14.c2.fst.snd.snd)) (.sub B4)) [(0, b0), (1, at1), (2, end2), (6, t6)] ds h K = F14.t2 n0 B3 B4 b0 at1 end2 t6 ds h K := by kernel_rfl
theorem F14.s2 {n0 : Nat} : F14.p2 n0 = wA Try.prog n0 121 none (.seq [0, 1, 2, 6] (.seq [0, 1, 2, 6, 28] F14.c2.fst.fst (.cond [0, 1, 2, 6] (.tmp 28) (.sub (F14.p3 n0)) F14.c2.fst.snd.snd)) (.sub (F14.p4 n0))) := by kernel_rfl
theorem F14.e2 {n0 : Nat} {b0 at1 end2 t6 : Value} {ds : List Nat} {h : H} {K : KP} : F14.p2 n0 [(0, b0), (1, at1), (2, end2), (6, t6)] ds h K = F14.t2 n0 (F14.p3 n0) (F14.p4 n0) b0 at1 end2 t6 ds h K :=
  wchain (F14.s2) (F14.g2 (F14.p3 n0) (F14.p4 n0) b0 at1 end2 t6)
noncomputable def F14.t3 (n0 : Nat) (b0 at1 end2 t6 : Value) (ds : List Nat) (h : H) (K : KP) : Prop :=
  Bnd (aBuild Try.prog 26 []) fun t29 =>
  Bnd (aStore Try.prog 26 t6 t29 h) fun h1 =>
  K .ret [(6, t6), (7, (.int .i64 5))] ds h1
theorem F14.g3 {n0 : Nat} (b0 at1 end2 t6 : Value) {ds : List Nat} {h : H} {K : KP} : wA Try.prog n0 121 none F14.c3 [(0, b0), (1, at1), (2, end2), (6, t6)] ds h K = F14.t3 n0 b0 at1 end2 t6 ds h K := by kernel_rfl
theorem F14.s3 {n0 : Nat} : F14.p3 n0 = wA Try.prog n0 121 none F14.c3 := by kernel_rfl
theorem F14.e3 {n0 : Nat} {b0 at1 end2 t6 : Value} {ds : List Nat} {h : H} {K : KP} : F14.p3 n0 [(0, b0), (1, at1), (2, end2), (6, t6)] ds h K = F14.t3 n0 b0 at1 end2 t6 ds h K :=
  wchain (F14.s3) (F14.g3 b0 at1 end2 t6)
noncomputable def F14.t4 (n0 : Nat) (B5 : WP) (B6 : WP) (b0 at1 end2 t6 : Value) (ds : List Nat) (h : H) (K : KP) : Prop :=
  Bnd (aIndexAddr Try.prog 22 b0 at1) fun t32 =>
  Bnd (aLoad Try.prog 5 t32 h) fun t33 =>
  Bnd (aBin Try.prog true .quo 5 t33 (.int .u8 64)) fun t34 =>
  Bnd2 (cvt Try.prog 5 24 t34 h) fun t35 h1 =>
  Bnd (aIndexAddr Try.prog 22 b0 at1) fun t38 =>
  Bnd (aLoad Try.prog 5 t38 h1) fun t39 =>
  Bnd (aBin Try.prog true .quo 5 t39 (.int .u8 32)) fun t40 =>
  Bnd (aBin Try.prog true .rem 5 t40 (.int .u8 2)) fun t41 =>
  Bnd (aBin Try.prog true .eql 5 t41 (.int .u8 1)) fun t42 =>
  Bnd (aIndexAddr Try.prog 22 b0 at1) fun t45 =>
  Bnd (aLoad Try.prog 5 t45 h1) fun t46 =>
  Bnd (aBin Try.prog true .rem 5 t46 (.int .u8 32)) fun t47 =>
  Bnd2 (cvt Try.prog 5 3 t47 h1) fun t48 h2 =>
  Bnd (aBuild Try.prog 26 [(0, t35), (1, t42), (2, t48)]) fun t49 =>
  Nw (enc 0 26) (zc Try.prog 26) h2 fun t8 h3 =>
  Bnd (aStore Try.prog 26 t8 t49 h3) fun h4 =>
  Sm (aLoad Try.prog 5 t32 h2) t33 <|
  Sm (aLoad Try.prog 5 t32 h3) t33 <|
  Sm (aLoad Try.prog 5 t38 h2) t39 <|
  Sm (aLoad Try.prog 5 t38 h3) t39 <|
  Sm (aLoad Try.prog 5 t45 h2) t46 <|
  Sm (aLoad Try.prog 5 t45 h3) t46 <|
  Bnd (aFieldAddr Try.prog 26 t8 2) fun t50 =>
  Bnd (aLoad Try.prog 3 t50 h4) fun t51 =>
  Bnd (aBin Try.prog true .eql 3 t51 (.int .i64 31)) fun t52 =>
  Cnd t52
   (B5 [(0, b0), (1, at1), (2, end2), (6, t6), (8, t8)] ds h4 (KSeq [0, 1, 2, 6, 8] B6 K))
   (B6 [(0, b0), (1, at1), (2, end2), (6, t6), (8, t8)] ds h4 K)
theorem F14.g4 {n0 : Nat} (B5 : WP) (B6 : WP) (b0 at1 end2 t6 : Value) {ds : List Nat} {h : H} {K : KP} : wA Try.prog n0 121 none (.seq [0, 1, 2, 6, 8] F14.c4.fst (.seq [0, 1, 2, 6, 8] (.seq [0, 1, 2, 6, 8, 52] F14.c4.snd.fst.fst (.cond [0, 1, 2, 6, 8] (.tmp 52) (.sub B5) F14.c4.snd.fst.snd.snd)) (.sub B6))) [(0, b0), (1, at1), (2, end2), (6, t6)] ds h K = F14.t4 n0 B5 B6 b0 at1 end2 t6 ds h K := by kernel_rfl
theorem F14.s4 {n0 : Nat} : F14.p4 n0 = wA Try.prog n0 121 none (.seq [0, 1, 2, 6, 8] F14.c4.fst (.seq [0, 1, 2, 6, 8] (.seq [0, 1, 2, 6, 8, 52] F14.c4.snd.fst.fst (.cond [0, 1, 2, 6, 8] (.tmp 52) (.sub (F14.p5 n0)) F14.c4.snd.fst.snd.snd)) (.sub (F14.p6 n0)))) := by kernel_rfl
theorem F14.e4 {n0 : Nat} {b0 at1 end2 t6 : Value} {ds : List Nat} {h : H} {K : KP} : F14.p4 n0 [(0, b0), (1, at1), (2, end2), (6, t6)] ds h K = F14.t4 n0 (F14.p5 n0) (F14.p6 n0) b0 at1 end2 t6 ds h K :=
  wchain (F14.s4) (F14.g4 (F14.p5 n0) (F14.p6 n0) b0 at1 end2 t6)
noncomputable def F14.t5 (n0 : Nat) (b0 at1 end2 t6 t8 : Value) (ds : List Nat) (h : H) (K : KP) : Prop :=
  Bnd (aBuild Try.prog 26 []) fun t53 =>
  Bnd (aStore Try.prog 26 t6 t53 h) fun h1 =>
  K .ret [(6, t6), (7, (.int .i64 20))] ds h1
theorem F14.g5 {n0 : Nat} (b0 at1 end2 t6 t8 : Value) {ds : List Nat} {h : H} {K : KP} : wA Try.prog n0 121 none F14.c5 [(0, b0), (1, at1), (2, end2), (6, t6), (8, t8)] ds h K = F14.t5 n0 b0 at1 end2 t6 t8 ds h K := by kernel_rfl
theorem F14.s5 {n0 : Nat} : F14.p5 n0 = wA Try.prog n0 121 none F14.c5 := by kernel_rfl
theorem F14.e5 {n0 : Nat} {b0 at1 end2 t6 t8 : Value} {ds : List Nat} {h : H} {K : KP} : F14.p5 n0 [(0, b0), (1, at1), (2, end2), (6, t6), (8, t8)] ds h K = F14.t5 n0 b0 at1 end2 t6 t8 ds h K :=
  wchain (F14.s5) (F14.g5 b0 at1 end2 t6 t8)
noncomputable def F14.t6 (n0 : Nat) (B7 : WP) (B8 : WP) (b0 at1 end2 t6 t8 : Value) (ds : List Nat) (h : H) (K : KP) : Prop :=
  Bnd (aBin Try.prog true .add 3 at1 (.int .i64 1)) fun t55 =>
  Bnd (aBin Try.prog false .eql 3 t55 end2) fun t57 =>
  Cnd t57
   (B7 [(0, b0), (1, at1), (2, end2), (6, t6), (8, t8)] ds h (KSeq [0, 1, 2, 6, 8] B8 K))
   (B8 [(0, b0), (1, at1), (2, end2), (6, t6), (8, t8)] ds h K)
theorem F14.g6 {n0 : Nat} (B7 : WP) (B8 : WP) (b0 at1 end2 t6 t8 : Value) {ds : List Nat} {h : H} {K : KP} : wA Try.prog n0 121 none (.seq [0, 1, 2, 6, 8] (.seq [0, 1, 2, 6, 8, 57] F14.c6.fst.fst (.cond [0, 1, 2, 6, 8] (.tmp 57) (.sub B7) F14.c6.fst.snd.snd)) (.sub B8)) [(0, b0), (1, at1), (2, end2), (6, t6), (8, t8)] ds h K = F14.t6 n0 B7 B8 b0 at1 end2 t6 t8 ds h K := by kernel_rfl
theorem F14.s6 {n0 : Nat} : F14.p6 n0 = wA Try.prog n0 121 none (.seq [0, 1, 2, 6, 8] (.seq [0, 1, 2, 6, 8, 57] F14.c6.fst.fst (.cond [0, 1, 2, 6, 8] (.tmp 57) (.sub (F14.p7 n0)) F14.c6.fst.snd.snd)) (.sub (F14.p8 n0))) := by kernel_rfl
theorem F14.e6 {n0 : Nat} {b0 at1 end2 t6 t8 : Value} {ds : List Nat} {h : H} {K : KP} : F14.p6 n0 [(0, b0), (1, at1), (2, end2), (6, t6), (8, t8)] ds h K = F14.t6 n0 (F14.p7 n0) (F14.p8 n0) b0 at1 end2 t6 t8 ds h K :=
  wchain (F14.s6) (F14.g6 (F14.p7 n0) (F14.p8 n0) b0 at1 end2 t6 t8)
noncomputable def F14.t7 (n0 : Nat) (b0 at1 end2 t6 t8 : Value) (ds : List Nat) (h : H) (K : KP) : Prop :=
  Bnd (aBuild Try.prog 26 []) fun t58 =>
  Bnd (aStore Try.prog 26 t6 t58 h) fun h1 =>
  K .ret [(6, t6), (7, (.int .i64 5))] ds h1
theorem F14.g7 {n0 : Nat} (b0 at1 end2 t6 t8 : Value) {ds : List Nat} {h : H} {K : KP} : wA Try.prog n0 121 none F14.c7 [(0, b0), (1, at1), (2, end2), (6, t6), (8, t8)] ds h K = F14.t7 n0 b0 at1 end2 t6 t8 ds h K := by kernel_rfl
theorem F14.s7 {n0 : Nat} : F14.p7 n0 = wA Try.prog n0 121 none F14.c7 := by kernel_rfl
theorem F14.e7 {n0 : Nat} {b0 at1 end2 t6 t8 : Value} {ds : List Nat} {h : H} {K : KP} : F14.p7 n0 [(0, b0), (1, at1), (2, end2), (6, t6), (8, t8)] ds h K = F14.t7 n0 b0 at1 end2 t6 t8 ds h K :=
  wchain (F14.s7) (F14.g7 b0 at1 end2 t6 t8)
noncomputable def F14.t8 (n0 : Nat) (B9 : WP) (B10 : WP) (b0 at1 end2 t6 t8 : Value) (ds : List Nat) (h : H) (K : KP) : Prop :=
  Bnd (aBin Try.prog true .add 3 at1 (.int .i64 1)) fun t61 =>
  Bnd (aIndexAddr Try.prog 22 b0 t61) fun t62 =>
  Bnd (aLoad Try.prog 5 t62 h) fun t63 =>
  Bnd2 (cvt Try.prog 5 3 t63 h) fun t64 h1 =>
  Bnd (aBin Try.prog true .add 3 at1 (.int .i64 2)) fun t66 =>
  Bnd (aFieldAddr Try.prog 26 t8 3) fun t67 =>
  Bnd (aStore Try.prog 3 t67 t66 h1) fun h2 =>
  Bnd (aBin Try.prog true .eql 3 t64 (.int .i64 128)) fun t69 =>
  Gd t69
   (B9 [(0, b0), (2, end2), (6, t6), (8, t8), (9, t64)] ds h2 (KSeq [0, 2, 6, 8, 9] B10 K))
   (Bnd (aBin Try.prog true .eql 3 t64 (.int .i64 255)) fun t72 =>
  Cnd t72
   (B9 [(0, b0), (2, end2), (6, t6), (8, t8), (9, t64)] ds h2 (KSeq [0, 2, 6, 8, 9] B10 K))
   (B10 [(0, b0), (2, end2), (6, t6), (8, t8), (9, t64)] ds h2 K))
theorem F14.g8 {n0 : Nat} (B9 : WP) (B10 : WP) (b0 at1 end2 t6 t8 : Value) {ds : List Nat} {h : H} {K : KP} : wA Try.prog n0 121 none (.seq [0, 1, 2, 6, 8, 9] F14.c8.fst (.seq [0, 2, 6, 8, 9] F14.c8.snd.fst (.seq [0, 2, 6, 8, 9] (.seq [0, 2, 6, 8, 9, 73] F14.c8.snd.snd.fst.fst (.cond [0, 2, 6, 8, 9] (.tmp 73) (.sub B9) F14.c8.snd.snd.fst.snd.snd)) (.sub B10)))) [(0, b0), (1, at1), (2, end2), (6, t6), (8, t8)] ds h K = F14.t8 n0 B9 B10 b0 at1 end2 t6 t8 ds h K := by kernel_rfl
theorem F14.s8 {n0 : Nat} : F14.p8 n0 = wA Try.prog n0 121 none (.seq [0, 1, 2, 6, 8, 9] F14.c8.fst (.seq [0, 2, 6, 8, 9] F14.c8.snd.fst (.seq [0, 2, 6, 8, 9] (.seq [0, 2, 6, 8, 9, 73] F14.c8.snd.snd.fst.fst (.cond [0, 2, 6, 8, 9] (.tmp 73) (.sub (F14.p9 n0)) F14.c8.snd.snd.fst.snd.snd)) (.sub (F14.p10 n0))))) := by kernel_rfl
theorem F14.e8 {n0 : Nat} {b0 at1 end2 t6 t8 : Value} {ds : List Nat} {h : H} {K : KP} : F14.p8 n0 [(0, b0), (1, at1), (2, end2), (6, t6), (8, t8)] ds h K = F14.t8 n0 (F14.p9 n0) (F14.p10 n0) b0 at1 end2 t6 t8 ds h K :=
  wchain (F14.s8) (F14.g8 (F14.p9 n0) (F14.p10 n0) b0 at1 end2 t6 t8)
noncomputable def F14.t9 (n0 : Nat) (b0 end2 t6 t8 n9 : Value) (ds : List Nat) (h : H) (K : KP) : Prop :=
  Bnd (aBuild Try.prog 26 []) fun t74 =>
  Bnd (aStore Try.prog 26 t6 t74 h) fun h1 =>
  K .ret [(6, t6), (7, (.int .i64 21))] ds h1
theorem F14.g9 {n0 : Nat} (b0 end2 t6 t8 n9 : Value) {ds : List Nat} {h : H} {K : KP} : wA Try.prog n0 121 none F14.c9 [(0, b0), (2, end2), (6, t6), (8, t8), (9, n9)] ds h K = F14.t9 n0 b0 end2 t6 t8 n9 ds h K := by kernel_rfl
theorem F14.s9 {n0 : Nat} : F14.p9 n0 = wA Try.prog n0 121 none F14.c9 := by kernel_rfl
theorem F14.e9 {n0 : Nat} {b0 end2 t6 t8 n9 : Value} {ds : List Nat} {h : H} {K : KP} : F14.p9 n0 [(0, b0), (2, end2), (6, t6), (8, t8), (9, n9)] ds h K = F14.t9 n0 b0 end2 t6 t8 n9 ds h K :=
  wchain (F14.s9) (F14.g9 b0 end2 t6 t8 n9)
noncomputable def F14.t10 (n0 : Nat) (B11 : WP) (B18 : WP) (b0 end2 t6 t8 n9 : Value) (ds : List Nat) (h : H) (K : KP) : Prop :=
  Bnd (aBin Try.prog true .gtr 3 n9 (.int .i64 128)) fun t76 =>
  Cnd t76
   (B11 [(0, b0), (2, end2), (6, t6), (8, t8), (9, n9)] ds h (KSeq [2, 6, 8, 9] B18 K))
   (B18 [(2, end2), (6, t6), (8, t8), (9, n9)] ds h K)
theorem F14.g10 {n0 : Nat} (B11 : WP) (B18 : WP) (b0 end2 t6 t8 n9 : Value) {ds : List Nat} {h : H} {K : KP} : wA Try.prog n0 121 none (.seq [2, 6, 8, 9] (.seq [0, 2, 6, 8, 9, 76] F14.c10.fst.fst (.cond [0, 2, 6, 8, 9] (.tmp 76) (.sub B11) F14.c10.fst.snd.snd)) (.sub B18)) [(0, b0), (2, end2), (6, t6), (8, t8), (9, n9)] ds h K = F14.t10 n0 B11 B18 b0 end2 t6 t8 n9 ds h K := by kernel_rfl
theorem F14.s10 {n0 : Nat} : F14.p10 n0 = wA Try.prog n0 121 none (.seq [2, 6, 8, 9] (.seq [0, 2, 6, 8, 9, 76] F14.c10.fst.fst (.cond [0, 2, 6, 8, 9] (.tmp 76) (.sub (F14.p11 n0)) F14.c10.fst.snd.snd)) (.sub (F14.p18 n0))) := by kernel_rfl
theorem F14.e10 {n0 : Nat} {b0 end2 t6 t8 n9 : Value} {ds : List Nat} {h : H} {K : KP} : F14.p10 n0 [(0, b0), (2, end2), (6, t6), (8, t8), (9, n9)] ds h K = F14.t10 n0 (F14.p11 n0) (F14.p18 n0) b0 end2 t6 t8 n9 ds h K :=
  wchain (F14.s10) (F14.g10 (F14.p11 n0) (F14.p18 n0) b0 end2 t6 t8 n9)
noncomputable def F14.t11 (n0 : Nat) (B12 : WP) (B13 : WP) (b0 end2 t6 t8 n9 : Value) (ds : List Nat) (h : H) (K : KP) : Prop :=
  Bnd (aBin Try.prog true .sub 3 n9 (.int .i64 128)) fun t78 =>
  Bnd (aFieldAddr Try.prog 26 t8 3) fun t81 =>
  Bnd (aLoad Try.prog 3 t81 h) fun t82 =>
  Bnd (aBin Try.prog false .sub 3 end2 t82) fun t83 =>
  Bnd (aBin Try.prog false .gtr 3 t78 t83) fun t84 =>
  Cnd t84
   (B12 [(0, b0), (2, end2), (6, t6), (8, t8), (10, t78)] ds h (KSeq [0, 2, 6, 8, 10] B13 K))
   (B13 [(0, b0), (2, end2), (6, t6), (8, t8), (10, t78)] ds h K)
theorem F14.g11 {n0 : Nat} (B12 : WP) (B13 : WP) (b0 end2 t6 t8 n9 : Value) {ds : List Nat} {h : H} {K : KP} : wA Try.prog n0 121 none (.seq [0, 2, 6, 8, 10] F14.c11.fst (.seq [0, 2, 6, 8, 10] (.seq [0, 2, 6, 8, 10, 84] F14.c11.snd.fst.fst (.cond [0, 2, 6, 8, 10] (.tmp 84) (.sub B12) F14.c11.snd.fst.snd.snd)) (.sub B13))) [(0, b0), (2, end2), (6, t6), (8, t8), (9, n9)] ds h K = F14.t11 n0 B12 B13 b0 end2 t6 t8 n9 ds h K := by kernel_rfl
theorem F14.s11 {n0 : Nat} : F14.p11 n0 = wA Try.prog n0 121 none (.seq [0, 2, 6, 8, 10] F14.c11.fst (.seq [0, 2, 6, 8, 10] (.seq [0, 2, 6, 8, 10, 84] F14.c11.snd.fst.fst (.cond [0, 2, 6, 8, 10] (.tmp 84) (.sub (F14.p12 n0)) F14.c11.snd.fst.snd.snd)) (.sub (F14.p13 n0)))) := by kernel_rfl
theorem F14.e11 {n0 : Nat} {b0 end2 t6 t8 n9 : Value} {ds : List Nat} {h : H} {K : KP} : F14.p11 n0 [(0, b0), (2, end2), (6, t6), (8, t8), (9, n9)] ds h K = F14.t11 n0 (F14.p12 n0) (F14.p13 n0) b0 end2 t6 t8 n9 ds h K :=
  wchain (F14.s11) (F14.g11 (F14.p12 n0) (F14.p13 n0) b0 end2 t6 t8 n9)
noncomputable def F14.t12 (n0 : Nat) (b0 end2 t6 t8 k10 : Value) (ds : List Nat) (h : H) (K : KP) : Prop :=
  Bnd (aBuild Try.prog 26 []) fun t85 =>
  Bnd (aStore Try.prog 26 t6 t85 h) fun h1 =>
  K .ret [(6, t6), (7, (.int .i64 5))] ds h1
theorem F14.g12 {n0 : Nat} (b0 end2 t6 t8 k10 : Value) {ds : List Nat} {h : H} {K : KP} : wA Try.prog n0 121 none F14.c12 [(0, b0), (2, end2), (6, t6), (8, t8), (10, k10)] ds h K = F14.t12 n0 b0 end2 t6 t8 k10 ds h K := by kernel_rfl
theorem F14.s12 {n0 : Nat} : F14.p12 n0 = wA Try.prog n0 121 none F14.c12 := by kernel_rfl
theorem F14.e12 {n0 : Nat} {b0 end2 t6 t8 k10 : Value} {ds : List Nat} {h : H} {K : KP} : F14.p12 n0 [(0, b0), (2, end2), (6, t6), (8, t8), (10, k10)] ds h K = F14.t12 n0 b0 end2 t6 t8 k10 ds h K :=
  wchain (F14.s12) (F14.g12 b0 end2 t6 t8 k10)
noncomputable def F14.t13 (n0 : Nat) (B14 : WP) (B17 : WP) (b0 end2 t6 t8 k10 : Value) (ds : List Nat) (h : H) (K : KP) : Prop :=
  Lp [0, 2, 6, 8, 9, 10, 11] B14 [(0, b0), (2, end2), (6, t6), (8, t8), (9, (.int .i64 0)), (10, k10), (11, (.int .i64 0))] ds h (KBlk [2, 6, 8, 9, 10] 0 (KSeq [2, 6, 8, 9, 10] B17 K))
theorem F14.g13 {n0 : Nat} (B14 : WP) (B17 : WP) (b0 end2 t6 t8 k10 : Value) {ds : List Nat} {h : H} {K : KP} : wA Try.prog n0 121 none (.seq [0, 2, 6, 8, 9, 10] F14.c13.fst (.seq [2, 6, 8, 9, 10] (.seq [0, 2, 6, 8, 9, 10, 11] F14.c13.snd.fst.fst (.block [2, 6, 8, 9, 10] 0 (.loop [0, 2, 6, 8, 9, 10, 11] (.sub B14)))) (.sub B17))) [(0, b0), (2, end2), (6, t6), (8, t8), (10, k10)] ds h K = F14.t13 n0 B14 B17 b0 end2 t6 t8 k10 ds h K := by kernel_rfl
theorem F14.s13 {n0 : Nat} : F14.p13 n0 = wA Try.prog n0 121 none (.seq [0, 2, 6, 8, 9, 10] F14.c13.fst (.seq [2, 6, 8, 9, 10] (.seq [0, 2, 6, 8, 9, 10, 11] F14.c13.snd.fst.fst (.block [2, 6, 8, 9, 10] 0 (.loop [0, 2, 6, 8, 9, 10, 11] (.sub (F14.p14 n0))))) (.sub (F14.p17 n0)))) := by kernel_rfl
theorem F14.e13 {n0 : Nat} {b0 end2 t6 t8 k10 : Value} {ds : List Nat} {h : H} {K : KP} : F14.p13 n0 [(0, b0), (2, end2), (6, t6), (8, t8), (10, k10)] ds h K = F14.t13 n0 (F14.p14 n0) (F14.p17 n0) b0 end2 t6 t8 k10 ds h K :=
  wchain (F14.s13) (F14.g13 (F14.p14 n0) (F14.p17 n0) b0 end2 t6 t8 k10)
noncomputable def F14.t14 (n0 : Nat) (B15 : WP) (b0 end2 t6 t8 n9 k10 i11 : Value) (ds : List Nat) (h : H) (K : KP) : Prop :=
  Bnd (aBin Try.prog false .lss 3 i11 k10) fun t88 =>
  Cnd t88
   (B15 [(0, b0), (2, end2), (6, t6), (8, t8), (9, n9), (10, k10), (11, i11)] ds h K)
   (K (.exit 0) [(0, b0), (2, end2), (6, t6), (8, t8), (9, n9), (10, k10), (11, i11)] ds h)
theorem F14.g14 {n0 : Nat} (B15 : WP) (b0 end2 t6 t8 n9 k10 i11 : Value) {ds : List Nat} {h : H} {K : KP} : wA Try.prog n0 121 none (.seq [0, 2, 6, 8, 9, 10, 11] F14.c14.fst (.sub B15)) [(0, b0), (2, end2), (6, t6), (8, t8), (9, n9), (10, k10), (11, i11)] ds h K = F14.t14 n0 B15 b0 end2 t6 t8 n9 k10 i11 ds h K := by kernel_rfl
theorem F14.s14 {n0 : Nat} : F14.p14 n0 = wA Try.prog n0 121 none (.seq [0, 2, 6, 8, 9, 10, 11] F14.c14.fst (.sub (F14.p15 n0))) := by kernel_rfl
theorem F14.e14 {n0 : Nat} {b0 end2 t6 t8 n9 k10 i11 : Value} {ds : List Nat} {h : H} {K : KP} : F14.p14 n0 [(0, b0), (2, end2), (6, t6), (8, t8), (9, n9), (10, k10), (11, i11)] ds h K = F14.t14 n0 (F14.p15 n0) b0 end2 t6 t8 n9 k10 i11 ds h K :=
  wchain (F14.s14) (F14.g14 (F14.p15 n0) b0 end2 t6 t8 n9 k10 i11)
theorem F14.k14 : F14.c14.ok = true := by kernel_rfl
theorem F14.d14 {n0 : Nat} : F14.p14 n0 = wA Try.prog n0 121 none F14.c14 := by kernel_rfl
theorem F14.m14 (n0 : Nat) : MonoW (F14.p14 n0) := @mono_c Try.prog n0 121 none F14.c14 (F14.p14 n0) (F14.d14) F14.k14
noncomputable def F14.t15 (n0 : Nat) (B16 : WP) (b0 end2 t6 t8 n9 k10 i11 : Value) (ds : List Nat) (h : H) (K : KP) : Prop :=
  Bnd (aBin Try.prog true .mul 3 (.int .i64 256) n9) fun t92 =>
  Bnd (aFieldAddr Try.prog 26 t8 3) fun t94 =>
  Bnd (aLoad Try.prog 3 t94 h) fun t95 =>
  Bnd (aBin Try.prog false .add 3 t95 i11) fun t97 =>
  Bnd (aIndexAddr Try.prog 22 b0 t97) fun t98 =>
  Bnd (aLoad Try.prog 5 t98 h) fun t99 =>
  Bnd2 (cvt Try.prog 5 3 t99 h) fun t100 h1 =>
  Bnd (aBin Try.prog false .add 3 t92 t100) fun t101 =>
  Bnd2 (aBuiltin Try.prog .min #[3, 3] [t101, (.int .i64 1099511627776)] h1) fun t102 h2 =>
  B16 [(0, b0), (2, end2), (6, t6), (8, t8), (9, t102), (10, k10), (11, i11)] ds h2 K
theorem F14.g15 {n0 : Nat} (B16 : WP) (b0 end2 t6 t8 n9 k10 i11 : Value) {ds : List Nat} {h : H} {K : KP} : wA Try.prog n0 121 none (.seq [0, 2, 6, 8, 9, 10, 11] F14.c15.fst (.sub B16)) [(0, b0), (2, end2), (6, t6), (8, t8), (9, n9), (10, k10), (11, i11)] ds h K = F14.t15 n0 B16 b0 end2 t6 t8 n9 k10 i11 ds h K := by kernel_rfl
theorem F14.s15 {n0 : Nat} : F14.p15 n0 = wA Try.prog n0 121 none (.seq [0, 2, 6, 8, 9, 10, 11] F14.c15.fst (.sub (F14.p16 n0))) := by kernel_rfl
theorem F14.e15 {n0 : Nat} {b0 end2 t6 t8 n9 k10 i11 : Value} {ds : List Nat} {h : H} {K : KP} : F14.p15 n0 [(0, b0), (2, end2), (6, t6), (8, t8), (9, n9), (10, k10), (11, i11)] ds h K = F14.t15 n0 (F14.p16 n0) b0 end2 t6 t8 n9 k10 i11 ds h K :=
  wchain (F14.s15) (F14.g15 (F14.p16 n0) b0 end2 t6 t8 n9 k10 i11)
noncomputable def F14.t16 (n0 : Nat) (b0 end2 t6 t8 n9 k10 i11 : Value) (ds : List Nat) (h : H) (K : KP) : Prop :=
  Bnd (aBin Try.prog true .add 3 i11 (.int .i64 1)) fun t90 =>
  K .normal [(0, b0), (2, end2), (6, t6), (8, t8), (9, n9), (10, k10), (11, t90), (89, i11), (90, t90)] ds h
theorem F14.g16 {n0 : Nat} (b0 end2 t6 t8 n9 k10 i11 : Value) {ds : List Nat} {h : H} {K : KP} : wA Try.prog n0 121 none F14.c16 [(0, b0), (2, end2), (6, t6), (8, t8), (9, n9), (10, k10), (11, i11)] ds h K = F14.t16 n0 b0 end2 t6 t8 n9 k10 i11 ds h K := by kernel_rfl
theorem F14.s16 {n0 : Nat} : F14.p16 n0 = wA Try.prog n0 121 none F14.c16 := by kernel_rfl
theorem F14.e16 {n0 : Nat} {b0 end2 t6 t8 n9 k10 i11 : Value} {ds : List Nat} {h : H} {K : KP} : F14.p16 n0 [(0, b0), (2, end2), (6, t6), (8, t8), (9, n9), (10, k10), (11, i11)] ds h K = F14.t16 n0 b0 end2 t6 t8 n9 k10 i11 ds h K :=
  wchain (F14.s16) (F14.g16 b0 end2 t6 t8 n9 k10 i11)
noncomputable def F14.t17 (n0 : Nat) (end2 t6 t8 n9 k10 : Value) (ds : List Nat) (h : H) (K : KP) : Prop :=
  Bnd (aFieldAddr Try.prog 26 t8 3) fun t103 =>
  Bnd (aLoad Try.prog 3 t103 h) fun t104 =>
  Bnd (aBin Try.prog false .add 3 t104 k10) fun t106 =>
  Bnd (aFieldAddr Try.prog 26 t8 3) fun t107 =>
  Bnd (aStore Try.prog 3 t107 t106 h) fun h1 =>
  K .normal [(2, end2), (6, t6), (8, t8), (9, n9), (10, k10), (103, t103), (104, t104), (105, k10), (106, t106), (107, t107)] ds h1
theorem F14.g17 {n0 : Nat} (end2 t6 t8 n9 k10 : Value) {ds : List Nat} {h : H} {K : KP} : wA Try.prog n0 121 none F14.c17 [(2, end2), (6, t6), (8, t8), (9, n9), (10, k10)] ds h K = F14.t17 n0 end2 t6 t8 n9 k10 ds h K := by kernel_rfl
theorem F14.s17 {n0 : Nat} : F14.p17 n0 = wA Try.prog n0 121 none F14.c17 := by kernel_rfl
theorem F14.e17 {n0 : Nat} {end2 t6 t8 n9 k10 : Value} {ds : List Nat} {h : H} {K : KP} : F14.p17 n0 [(2, end2), (6, t6), (8, t8), (9, n9), (10, k10)] ds h K = F14.t17 n0 end2 t6 t8 n9 k10 ds h K :=
  wchain (F14.s17) (F14.g17 end2 t6 t8 n9 k10)
noncomputable def F14.t18 (n0 : Nat) (B19 : WP) (B20 : WP) (end2 t6 t8 n9 : Value) (ds : List Nat) (h : H) (K : KP) : Prop :=
  Bnd (aFieldAddr Try.prog 26 t8 3) fun t110 =>
  Bnd (aLoad Try.prog 3 t110 h) fun t111 =>
  Bnd (aBin Try.prog false .sub 3 end2 t111) fun t112 =>
  Bnd (aBin Try.prog false .gtr 3 n9 t112) fun t113 =>
  Cnd t113
   (B19 [(6, t6), (8, t8), (9, n9)] ds h (KSeq [6, 8, 9] B20 K))
   (B20 [(6, t6), (8, t8), (9, n9)] ds h K)
theorem F14.g18 {n0 : Nat} (B19 : WP) (B20 : WP) (end2 t6 t8 n9 : Value) {ds : List Nat} {h : H} {K : KP} : wA Try.prog n0 121 none (.seq [6, 8, 9] (.seq [6, 8, 9, 113] F14.c18.fst.fst (.cond [6, 8, 9] (.tmp 113) (.sub B19) F14.c18.fst.snd.snd)) (.sub B20)) [(2, end2), (6, t6), (8, t8), (9, n9)] ds h K = F14.t18 n0 B19 B20 end2 t6 t8 n9 ds h K := by kernel_rfl
theorem F14.s18 {n0 : Nat} : F14.p18 n0 = wA Try.prog n0 121 none (.seq [6, 8, 9] (.seq [6, 8, 9, 113] F14.c18.fst.fst (.cond [6, 8, 9] (.tmp 113) (.sub (F14.p19 n0)) F14.c18.fst.snd.snd)) (.sub (F14.p20 n0))) := by kernel_rfl
theorem F14.e18 {n0 : Nat} {end2 t6 t8 n9 : Value} {ds : List Nat} {h : H} {K : KP} : F14.p18 n0 [(2, end2), (6, t6), (8, t8), (9, n9)] ds h K = F14.t18 n0 (F14.p19 n0) (F14.p20 n0) end2 t6 t8 n9 ds h K :=
  wchain (F14.s18) (F14.g18 (F14.p19 n0) (F14.p20 n0) end2 t6 t8 n9)
noncomputable def F14.t19 (n0 : Nat) (t6 t8 n9 : Value) (ds : List Nat) (h : H) (K : KP) : Prop :=
  Bnd (aBuild Try.prog 26 []) fun t114 =>
  Bnd (aStore Try.prog 26 t6 t114 h) fun h1 =>
  K .ret [(6, t6), (7, (.int .i64 5))] ds h1
theorem F14.g19 {n0 : Nat} (t6 t8 n9 : Value) {ds : List Nat} {h : H} {K : KP} : wA Try.prog n0 121 none F14.c19 [(6, t6), (8, t8), (9, n9)] ds h K = F14.t19 n0 t6 t8 n9 ds h K := by kernel_rfl
theorem F14.s19 {n0 : Nat} : F14.p19 n0 = wA Try.prog n0 121 none F14.c19 := by kernel_rfl
theorem F14.e19 {n0 : Nat} {t6 t8 n9 : Value} {ds : List Nat} {h : H} {K : KP} : F14.p19 n0 [(6, t6), (8, t8), (9, n9)] ds h K = F14.t19 n0 t6 t8 n9 ds h K :=
  wchain (F14.s19) (F14.g19 t6 t8 n9)
noncomputable def F14.t20 (n0 : Nat) (t6 t8 n9 : Value) (ds : List Nat) (h : H) (K : KP) : Prop :=
  Bnd (aFieldAddr Try.prog 26 t8 3) fun t115 =>
  Bnd (aLoad Try.prog 3 t115 h) fun t116 =>
  Bnd (aBin Try.prog false .add 3 t116 n9) fun t118 =>
  Bnd (aFieldAddr Try.prog 26 t8 4) fun t119 =>
  Bnd (aStore Try.prog 3 t119 t118 h) fun h1 =>
  Bnd (aLoad Try.prog 26 t8 h1) fun t120 =>
  Bnd (aStore Try.prog 26 t6 t120 h1) fun h2 =>
  K .ret [(6, t6), (7, (.int .i64 0))] ds h2
theorem F14.g20 {n0 : Nat} (t6 t8 n9 : Value) {ds : List Nat} {h : H} {K : KP} : wA Try.prog n0 121 none F14.c20 [(6, t6), (8, t8), (9, n9)] ds h K = F14.t20 n0 t6 t8 n9 ds h K := by kernel_rfl
theorem F14.s20 {n0 : Nat} : F14.p20 n0 = wA Try.prog n0 121 none F14.c20 := by kernel_rfl
theorem F14.e20 {n0 : Nat} {t6 t8 n9 : Value} {ds : List Nat} {h : H} {K : KP} : F14.p20 n0 [(6, t6), (8, t8), (9, n9)] ds h K = F14.t20 n0 t6 t8 n9 ds h K :=
  wchain (F14.s20) (F14.g20 t6 t8 n9)
theorem F14.b : Try.f14.body = some F14.c0.erase := by kernel_rfl
theorem F14.b2 : (Try.f14.name == "runtime.NumGoroutine") = false := by kernel_rfl
theorem F14.b3 : Try.f14.ntmps = 121 := by kernel_rfl
theorem F14.b4 : Try.f14.results.toList = [.cell 6 26, .tmp 7] := by kernel_rfl
theorem F14.enter {n0 : Nat} {x0 x1 x2 : Value} {h : H} {Q : Value → H → Prop} (w : F14.p0 n0 [(0, x0), (1, x1), (2, x2)] [] h (KFin Try.prog [.cell 6 26, .tmp 7] Q)) : Cn Try.prog n0 (.func 14) [x0, x1, x2] h Q :=
  @fn_enter Try.prog n0 mixed 14 Try.f14 F14.c0 [x0, x1, x2] h Q Try.func14 F14.b F14.k0 F14.b2 121 F14.b3 [.cell 6 26, .tmp 7] F14.b4 (by simp) [(0, x0), (1, x1), (2, x2)] rfl (wback F14.d0 w)

/-! roster.rosterlaw02.kept -/
noncomputable def F15.ac : AC := (ann (bodyOf Try.f15) [[0, 1], [0, 1, 5], [0, 1], [0, 1, 5, 13, 14], [0, 1], [0, 1, 5, 13, 14], [0, 1, 5, 13, 14, 15], [0, 1, 5, 13, 14], [0, 1, 5, 13, 14], [0, 1, 5, 13, 14], [0, 1, 5, 13, 14], [0, 1, 5, 6, 13, 14], [0, 1, 5, 13, 14, 44], [0, 1, 5, 13, 14], [4], [4]]).1
noncomputable def F15.c0 : AC := F15.ac
noncomputable def F15.c1 : AC := F15.ac.snd.snd.fst.snd.fst.fst
noncomputable def F15.c2 : AC := F15.ac.snd.snd.fst.snd.fst.fst.snd.snd
noncomputable def F15.c3 : AC := F15.ac.snd.snd.fst.snd.fst.fst.snd.snd.fst.fst.snd.snd.fst
noncomputable def F15.c4 : AC := F15.ac.snd.snd.fst.snd.fst.fst.snd.snd.snd
noncomputable def F15.c5 : AC := F15.ac.snd.snd.snd
noncomputable def F15.p0 (n0 : Nat) : WP := wA Try.prog n0 51 none F15.c0
noncomputable def F15.p1 (n0 : Nat) : WP := wA Try.prog n0 51 none F15.c1
noncomputable def F15.p2 (n0 : Nat) : WP := wA Try.prog n0 51 none F15.c2
noncomputable def F15.p3 (n0 : Nat) : WP := wA Try.prog n0 51 none F15.c3
noncomputable def F15.p4 (n0 : Nat) : WP := wA Try.prog n0 51 none F15.c4
noncomputable def F15.p5 (n0 : Nat) : WP := wA Try.prog n0 51 none F15.c5
noncomputable def F15.t0 (n0 : Nat) (B1 : WP) (B5 : WP) (l0 b1 : Value) (ds : List Nat) (h : H) (K : KP) : Prop :=
  Bnd2 (aBuiltin Try.prog .len #[22] [b1] h) fun t9 h1 =>
  Bnd (aBin Try.prog true .add 3 t9 (.int .i64 5)) fun t10 =>
  Bnd (aSlice Try.prog 22 l0 none (some t10) none h1) fun t11 =>
  Bnd2 (aBuiltin Try.prog .len #[22] [t11] h1) fun t13 h2 =>
  Lp [0, 1, 5, 13, 14] B1 [(0, l0), (1, b1), (5, t11), (13, t13), (14, (.int .i64 0))] ds h2 (KBlk [0, 1] 0 (KSeq [0, 1] B5 K))
theorem F15.g0 {n0 : Nat} (B1 : WP) (B5 : WP) (l0 b1 : Value) {ds : List Nat} {h : H} {K : KP} : wA Try.prog n0 51 none (.seq [0, 1] F15.c0.fst (.seq [0, 1, 5] F15.c0.snd.fst (.seq [0, 1] (.seq [0, 1, 5, 13, 14] F15.c0.snd.snd.fst.fst (.block [0, 1] 0 (.loop [0, 1, 5, 13, 14] (.sub B1)))) (.sub B5)))) [(0, l0), (1, b1)] ds h K = F15.t0 n0 B1 B5 l0 b1 ds h K := by kernel_rfl
theorem F15.s0 {n0 : Nat} : F15.p0 n0 = wA Try.prog n0 51 none (.seq [0, 1] F15.c0.fst (.seq [0, 1, 5] F15.c0.snd.fst (.seq [0, 1] (.seq [0, 1, 5, 13, 14] F15.c0.snd.snd.fst.fst (.block [0, 1] 0 (.loop [0, 1, 5, 13, 14] (.sub (F15.p1 n0))))) (.sub (F15.p5 n0))))) := by kernel_rfl
theorem F15.e0 {n0 : Nat} {l0 b1 : Value} {ds : List Nat} {h : H} {K : KP} : F15.p0 n0 [(0, l0), (1, b1)] ds h K = F15.t0 n0 (F15.p1 n0) (F15.p5 n0) l0 b1 ds h K :=
  wchain (F15.s0) (F15.g0 (F15.p1 n0) (F15.p5 n0) l0 b1)
theorem F15.k0 : F15.c0.ok = true := by kernel_rfl
theorem F15.d0 {n0 : Nat} : F15.p0 n0 = wA Try.prog n0 51 none F15.c0 := by kernel_rfl
theorem F15.m0 (n0 : Nat) : MonoW (F15.p0 n0) := @mono_c Try.prog n0 51 none F15.c0 (F15.p0 n0) (F15.d0) F15.k0
noncomputable def F15.t1 (n0 : Nat) (B2 : WP) (l0 b1 full5 t13 t14 : Value) (ds : List Nat) (h : H) (K : KP) : Prop :=
  Bnd (aBin Try.prog false .lss 3 t14 t13) fun t15 =>
  Cnd t15
   (B2 [(0, l0), (1, b1), (5, full5), (13, t13), (14, t14)] ds h K)
   (K (.exit 0) [(0, l0), (1, b1), (5, full5), (13, t13), (14, t14)] ds h)
theorem F15.g1 {n0 : Nat} (B2 : WP) (l0 b1 full5 t13 t14 : Value) {ds : List Nat} {h : H} {K : KP} : wA Try.prog n0 51 none (.seq [0, 1, 5, 13, 14, 15] F15.c1.fst (.seq [0, 1, 5, 13, 14] F15.c1.snd.fst (.sub B2))) [(0, l0), (1, b1), (5, full5), (13, t13), (14, t14)] ds h K = F15.t1 n0 B2 l0 b1 full5 t13 t14 ds h K := by kernel_rfl
theorem F15.s1 {n0 : Nat} : F15.p1 n0 = wA Try.prog n0 51 none (.seq [0, 1, 5, 13, 14, 15] F15.c1.fst (.seq [0, 1, 5, 13, 14] F15.c1.snd.fst (.sub (F15.p2 n0)))) := by kernel_rfl
theorem F15.e1 {n0 : Nat} {l0 b1 full5 t13 t14 : Value} {ds : List Nat} {h : H} {K : KP} : F15.p1 n0 [(0, l0), (1, b1), (5, full5), (13, t13), (14, t14)] ds h K = F15.t1 n0 (F15.p2 n0) l0 b1 full5 t13 t14 ds h K :=
  wchain (F15.s1) (F15.g1 (F15.p2 n0) l0 b1 full5 t13 t14)
theorem F15.k1 : F15.c1.ok = true := by kernel_rfl
theorem F15.d1 {n0 : Nat} : F15.p1 n0 = wA Try.prog n0 51 none F15.c1 := by kernel_rfl
theorem F15.m1 (n0 : Nat) : MonoW (F15.p1 n0) := @mono_c Try.prog n0 51 none F15.c1 (F15.p1 n0) (F15.d1) F15.k1
noncomputable def F15.t2 (n0 : Nat) (B3 : WP) (B4 : WP) (l0 b1 full5 t13 t14 : Value) (ds : List Nat) (h : H) (K : KP) : Prop :=
  Bnd2 (aBuiltin Try.prog .len #[22] [b1] h) fun t19 h1 =>
  Bnd (aBin Try.prog false .lss 3 t14 t19) fun t20 =>
  Gd t20
   (Bnd (aIndexAddr Try.prog 22 full5 t14) fun t24 =>
  Bnd (aLoad Try.prog 5 t24 h1) fun t25 =>
  Bnd (aIndexAddr Try.prog 22 b1 t14) fun t28 =>
  Bnd (aLoad Try.prog 5 t28 h1) fun t29 =>
  Bnd (aBin Try.prog false .neq 5 t25 t29) fun t30 =>
  Gd t30
   (B3 [(0, l0), (1, b1), (5, full5), (13, t13), (14, t14)] ds h1 (KBlk [0, 1, 5, 13, 14] 1 (KSeq [0, 1, 5, 13, 14] B4 K)))
   (Bnd2 (aBuiltin Try.prog .len #[22] [b1] h1) fun t35 h2 =>
  Bnd (aBin Try.prog false .geq 3 t14 t35) fun t36 =>
  Gd t36
   (Bnd (aIndexAddr Try.prog 22 full5 t14) fun t40 =>
  Bnd (aLoad Try.prog 5 t40 h2) fun t41 =>
  Bnd (aBin Try.prog true .neq 5 t41 (.int .u8 119)) fun t42 =>
  Cnd t42
   (B3 [(0, l0), (1, b1), (5, full5), (13, t13), (14, t14)] ds h2 (KBlk [0, 1, 5, 13, 14] 1 (KSeq [0, 1, 5, 13, 14] B4 K)))
   (B4 [(0, l0), (1, b1), (5, full5), (13, t13), (14, t14)] ds h2 K))
   (B4 [(0, l0), (1, b1), (5, full5), (13, t13), (14, t14)] ds h2 K)))
   (Bnd2 (aBuiltin Try.prog .len #[22] [b1] h1) fun t35 h2 =>
  Bnd (aBin Try.prog false .geq 3 t14 t35) fun t36 =>
  Gd t36
   (Bnd (aIndexAddr Try.prog 22 full5 t14) fun t40 =>
  Bnd (aLoad Try.prog 5 t40 h2) fun t41 =>
  Bnd (aBin Try.prog true .neq 5 t41 (.int .u8 119)) fun t42 =>
  Cnd t42
   (B3 [(0, l0), (1, b1), (5, full5), (13, t13), (14, t14)] ds h2 (KBlk [0, 1, 5, 13, 14] 1 (KSeq [0, 1, 5, 13, 14] B4 K)))
   (B4 [(0, l0), (1, b1), (5, full5), (13, t13), (14, t14)] ds h2 K))
   (B4 [(0, l0), (1, b1), (5, full5), (13, t13), (14, t14)] ds h2 K))
theorem F15.g2 {n0 : Nat} (B3 : WP) (B4 : WP) (l0 b1 full5 t13 t14 : Value) {ds : List Nat} {h : H} {K : KP} : wA Try.prog n0 51 none (.seq [0, 1, 5, 13, 14] (.block [0, 1, 5, 13, 14] 1 (.seq [0, 1, 5, 6, 13, 14] F15.c2.fst.fst.fst (.seq [0, 1, 5, 13, 14, 44] F15.c2.fst.fst.snd.fst (.cond [0, 1, 5, 13, 14] (.tmp 44) (.sub B3) F15.c2.fst.fst.snd.snd.snd)))) (.sub B4)) [(0, l0), (1, b1), (5, full5), (13, t13), (14, t14)] ds h K = F15.t2 n0 B3 B4 l0 b1 full5 t13 t14 ds h K := by kernel_rfl
theorem F15.s2 {n0 : Nat} : F15.p2 n0 = wA Try.prog n0 51 none (.seq [0, 1, 5, 13, 14] (.block [0, 1, 5, 13, 14] 1 (.seq [0, 1, 5, 6, 13, 14] F15.c2.fst.fst.fst (.seq [0, 1, 5, 13, 14, 44] F15.c2.fst.fst.snd.fst (.cond [0, 1, 5, 13, 14] (.tmp 44) (.sub (F15.p3 n0)) F15.c2.fst.fst.snd.snd.snd)))) (.sub (F15.p4 n0))) := by kernel_rfl
theorem F15.e2 {n0 : Nat} {l0 b1 full5 t13 t14 : Value} {ds : List Nat} {h : H} {K : KP} : F15.p2 n0 [(0, l0), (1, b1), (5, full5), (13, t13), (14, t14)] ds h K = F15.t2 n0 (F15.p3 n0) (F15.p4 n0) l0 b1 full5 t13 t14 ds h K :=
  wchain (F15.s2) (F15.g2 (F15.p3 n0) (F15.p4 n0) l0 b1 full5 t13 t14)
noncomputable def F15.t3 (n0 : Nat) (l0 b1 full5 t13 t14 : Value) (ds : List Nat) (h : H) (K : KP) : Prop :=
  K .ret [(4, (.bool false))] ds h
theorem F15.g3 {n0 : Nat} (l0 b1 full5 t13 t14 : Value) {ds : List Nat} {h : H} {K : KP} : wA Try.prog n0 51 none F15.c3 [(0, l0), (1, b1), (5, full5), (13, t13), (14, t14)] ds h K = F15.t3 n0 l0 b1 full5 t13 t14 ds h K := by kernel_rfl
theorem F15.s3 {n0 : Nat} : F15.p3 n0 = wA Try.prog n0 51 none F15.c3 := by kernel_rfl
theorem F15.e3 {n0 : Nat} {l0 b1 full5 t13 t14 : Value} {ds : List Nat} {h : H} {K : KP} : F15.p3 n0 [(0, l0), (1, b1), (5, full5), (13, t13), (14, t14)] ds h K = F15.t3 n0 l0 b1 full5 t13 t14 ds h K :=
  wchain (F15.s3) (F15.g3 l0 b1 full5 t13 t14)
noncomputable def F15.t4 (n0 : Nat) (l0 b1 full5 t13 t14 : Value) (ds : List Nat) (h : H) (K : KP) : Prop :=
  Bnd (aBin Try.prog true .add 3 t14 (.int .i64 1)) fun t45 =>
  K .normal [(0, l0), (1, b1), (5, full5), (13, t13), (14, t45), (45, t45)] ds h
theorem F15.g4 {n0 : Nat} (l0 b1 full5 t13 t14 : Value) {ds : List Nat} {h : H} {K : KP} : wA Try.prog n0 51 none F15.c4 [(0, l0), (1, b1), (5, full5), (13, t13), (14, t14)] ds h K = F15.t4 n0 l0 b1 full5 t13 t14 ds h K := by kernel_rfl
theorem F15.s4 {n0 : Nat} : F15.p4 n0 = wA Try.prog n0 51 none F15.c4 := by kernel_rfl
theorem F15.e4 {n0 : Nat} {l0 b1 full5 t13 t14 : Value} {ds : List Nat} {h : H} {K : KP} : F15.p4 n0 [(0, l0), (1, b1), (5, full5), (13, t13), (14, t14)] ds h K = F15.t4 n0 l0 b1 full5 t13 t14 ds h K :=
  wchain (F15.s4) (F15.g4 l0 b1 full5 t13 t14)
noncomputable def F15.t5 (n0 : Nat) (l0 b1 : Value) (ds : List Nat) (h : H) (K : KP) : Prop :=
  Bnd2 (aBuiltin Try.prog .len #[22] [l0] h) fun t47 h1 =>
  Bnd2 (aBuiltin Try.prog .len #[22] [b1] h1) fun t49 h2 =>
  Bnd (aBin Try.prog false .eql 3 t47 t49) fun t50 =>
  K .ret [(4, t50)] ds h2
theorem F15.g5 {n0 : Nat} (l0 b1 : Value) {ds : List Nat} {h : H} {K : KP} : wA Try.prog n0 51 none F15.c5 [(0, l0), (1, b1)] ds h K = F15.t5 n0 l0 b1 ds h K := by kernel_rfl
theorem F15.s5 {n0 : Nat} : F15.p5 n0 = wA Try.prog n0 51 none F15.c5 := by kernel_rfl
theorem F15.e5 {n0 : Nat} {l0 b1 : Value} {ds : List Nat} {h : H} {K : KP} : F15.p5 n0 [(0, l0), (1, b1)] ds h K = F15.t5 n0 l0 b1 ds h K :=
  wchain (F15.s5) (F15.g5 l0 b1)
theorem F15.b : Try.f15.body = some F15.c0.erase := by kernel_rfl
theorem F15.b2 : (Try.f15.name == "runtime.NumGoroutine") = false := by kernel_rfl
theorem F15.b3 : Try.f15.ntmps = 51 := by kernel_rfl
theorem F15.b4 : Try.f15.results.toList = [.tmp 4] := by kernel_rfl
theorem F15.enter {n0 : Nat} {x0 x1 : Value} {h : H} {Q : Value → H → Prop} (w : F15.p0 n0 [(0, x0), (1, x1)] [] h (KFin Try.prog [.tmp 4] Q)) : Cn Try.prog n0 (.func 15) [x0, x1] h Q :=
  @fn_enter Try.prog n0 mixed 15 Try.f15 F15.c0 [x0, x1] h Q Try.func15 F15.b F15.k0 F15.b2 51 F15.b3 [.tmp 4] F15.b4 (by simp) [(0, x0), (1, x1)] rfl (wback F15.d0 w)

/-! roster.rosterlaw02.BerHead -/
noncomputable def F3.ac : AC := (ann (bodyOf Try.f3) [[0, 1, 2], [0, 1, 2, 7], [0, 1, 2, 7, 8, 9], [0, 7, 8, 9, 10, 11], [0, 7, 8, 9, 10, 11, 12, 13], [0, 7, 8, 9, 10, 11, 12, 13, 14, 15], [6]]).1
noncomputable def F3.c0 : AC := F3.ac
noncomputable def F3.p0 (n0 : Nat) : WP := wA Try.prog n0 72 none F3.c0
noncomputable def F3.t0 (n0 : Nat) (b0 at1 end2 : Value) (ds : List Nat) (h : H) (K : KP) : Prop :=
  Cn Try.prog n0 (.func 12) [b0] h fun t17 h1 =>
  Cn Try.prog n0 (.func 13) [t17, at1, end2] h1 fun t22 h2 =>
  Bnd (tupAt t22 0) fun t23 =>
  Bnd (tupAt t22 1) fun t24 =>
  Nw (enc 0 26) (zc Try.prog 26) h2 fun t8 h3 =>
  Bnd (aStore Try.prog 26 t8 t23 h3) fun h4 =>
  Cn Try.prog n0 (.func 14) [b0, at1, end2] h4 fun t29 h5 =>
  Bnd (tupAt t29 0) fun t30 =>
  Bnd (tupAt t29 1) fun t31 =>
  Nw (enc 0 26) (zc Try.prog 26) h5 fun want10 h6 =>
  Bnd (aStore Try.prog 26 want10 t30 h6) fun h7 =>
  Bnd2 (aBuiltin Try.prog .len #[22] [t17] h7) fun t35 h8 =>
  Cn Try.prog n0 (.func 13) [t17, (.int .i64 0), t35] h8 fun t36 h9 =>
  Bnd (tupAt t36 0) fun t37 =>
  Bnd (tupAt t36 1) fun t38 =>
  Nw (enc 0 26) (zc Try.prog 26) h9 fun all12 h10 =>
  Bnd (aStore Try.prog 26 all12 t37 h10) fun h11 =>
  Bnd2 (aBuiltin Try.prog .len #[22] [b0] h11) fun t42 h12 =>
  Cn Try.prog n0 (.func 14) [b0, (.int .i64 0), t42] h12 fun t43 h13 =>
  Bnd (tupAt t43 0) fun t44 =>
  Bnd (tupAt t43 1) fun t45 =>
  Nw (enc 0 26) (zc Try.prog 26) h13 fun first14 h14 =>
  Bnd (aStore Try.prog 26 first14 t44 h14) fun h15 =>
  Bnd (aLoad Try.prog 26 t8 h15) fun t46 =>
  Bnd (aLoad Try.prog 26 want10 h15) fun t47 =>
  Bnd (aBin Try.prog false .eql 26 t46 t47) fun t48 =>
  Gd t48
   (Bnd (aBin Try.prog false .eql 27 t24 t31) fun t52 =>
  Gd t52
   (Bnd (aLoad Try.prog 26 all12 h15) fun t55 =>
  Bnd (aLoad Try.prog 26 first14 h15) fun t56 =>
  Bnd (aBin Try.prog false .eql 26 t55 t56) fun t57 =>
  Gd t57
   (Bnd (aBin Try.prog false .eql 27 t38 t45) fun t62 =>
  Gd t62
   (Cn Try.prog n0 (.func 15) [t17, b0] h15 fun t67 h16 =>
  Gd t67
   (Cn Try.prog n0 (.func 16) [] h16 fun t70 h17 =>
  K .ret [(6, t70)] ds h17)
   (K .ret [(6, (.bool false))] ds h16))
   (K .ret [(6, (.bool false))] ds h15))
   (K .ret [(6, (.bool false))] ds h15))
   (K .ret [(6, (.bool false))] ds h15))
   (K .ret [(6, (.bool false))] ds h15)
theorem F3.g0 {n0 : Nat} (b0 at1 end2 : Value) {ds : List Nat} {h : H} {K : KP} : wA Try.prog n0 72 none F3.c0 [(0, b0), (1, at1), (2, end2)] ds h K = F3.t0 n0 b0 at1 end2 ds h K := by kernel_rfl
theorem F3.s0 {n0 : Nat} : F3.p0 n0 = wA Try.prog n0 72 none F3.c0 := by kernel_rfl
theorem F3.e0 {n0 : Nat} {b0 at1 end2 : Value} {ds : List Nat} {h : H} {K : KP} : F3.p0 n0 [(0, b0), (1, at1), (2, end2)] ds h K = F3.t0 n0 b0 at1 end2 ds h K :=
  wchain (F3.s0) (F3.g0 b0 at1 end2)
theorem F3.k0 : F3.c0.ok = true := by kernel_rfl
theorem F3.d0 {n0 : Nat} : F3.p0 n0 = wA Try.prog n0 72 none F3.c0 := by kernel_rfl
theorem F3.m0 (n0 : Nat) : MonoW (F3.p0 n0) := @mono_c Try.prog n0 72 none F3.c0 (F3.p0 n0) (F3.d0) F3.k0
theorem F3.b : Try.f3.body = some F3.c0.erase := by kernel_rfl
theorem F3.b2 : (Try.f3.name == "runtime.NumGoroutine") = false := by kernel_rfl
theorem F3.b3 : Try.f3.ntmps = 72 := by kernel_rfl
theorem F3.b4 : Try.f3.results.toList = [.tmp 6] := by kernel_rfl
theorem F3.enter {n0 : Nat} {x0 x1 x2 : Value} {h : H} {Q : Value → H → Prop} (w : F3.p0 n0 [(0, x0), (1, x1), (2, x2)] [] h (KFin Try.prog [.tmp 6] Q)) : Cn Try.prog n0 (.func 3) [x0, x1, x2] h Q :=
  @fn_enter Try.prog n0 mixed 3 Try.f3 F3.c0 [x0, x1, x2] h Q Try.func3 F3.b F3.k0 F3.b2 72 F3.b3 [.tmp 6] F3.b4 (by simp) [(0, x0), (1, x1), (2, x2)] rfl (wback F3.d0 w)

/-! roster.ber.Int -/
noncomputable def F20.ac : AC := (ann (bodyOf Try.f20) [[0, 3], [6, 7], [6], [6, 7, 18], [6, 7], [4, 5], [6], [6, 55], [6], [4, 5], [6, 8], [8], [8, 62, 63, 64], [8], [8, 62, 63, 64], [8, 62, 63, 64, 65], [8, 62, 63, 64], [8, 62, 63, 64], [8, 62, 63, 64], [8, 62, 63, 64], [8, 10, 62, 63, 64], [8, 10, 62, 63, 64], [4, 5]]).1
noncomputable def F20.c0 : AC := F20.ac
noncomputable def F20.c1 : AC := F20.ac.snd.snd.fst.snd.fst
noncomputable def F20.c2 : AC := F20.ac.snd.snd.snd
noncomputable def F20.c3 : AC := F20.ac.snd.snd.snd.fst.snd.fst
noncomputable def F20.c4 : AC := F20.ac.snd.snd.snd.snd
noncomputable def F20.c5 : AC := F20.ac.snd.snd.snd.snd.snd.fst.snd.fst.fst
noncomputable def F20.c6 : AC := F20.ac.snd.snd.snd.snd.snd.fst.snd.fst.fst.snd.snd
noncomputable def F20.c7 : AC := F20.ac.snd.snd.snd.snd.snd.fst.snd.fst.fst.snd.snd.snd
noncomputable def F20.c8 : AC := F20.ac.snd.snd.snd.snd.snd.snd
noncomputable def F20.p0 (n0 : Nat) : WP := wA Try.prog n0 76 none F20.c0
noncomputable def F20.p1 (n0 : Nat) : WP := wA Try.prog n0 76 none F20.c1
noncomputable def F20.p2 (n0 : Nat) : WP := wA Try.prog n0 76 none F20.c2
noncomputable def F20.p3 (n0 : Nat) : WP := wA Try.prog n0 76 none F20.c3
noncomputable def F20.p4 (n0 : Nat) : WP := wA Try.prog n0 76 none F20.c4
noncomputable def F20.p5 (n0 : Nat) : WP := wA Try.prog n0 76 none F20.c5
noncomputable def F20.p6 (n0 : Nat) : WP := wA Try.prog n0 76 none F20.c6
noncomputable def F20.p7 (n0 : Nat) : WP := wA Try.prog n0 76 none F20.c7
noncomputable def F20.p8 (n0 : Nat) : WP := wA Try.prog n0 76 none F20.c8
noncomputable def F20.t0 (n0 : Nat) (B1 : WP) (B2 : WP) (b0 t1 : Value) (ds : List Nat) (h : H) (K : KP) : Prop :=
  Nw (enc 0 26) (clL t1) h fun t3 h1 =>
  Bnd (aLoad Try.prog 26 t3 h1) fun t13 =>
  Cn Try.prog n0 (.func 45) [b0, t13] h1 fun t14 h2 =>
  Bnd (tupAt t14 0) fun t15 =>
  Bnd (tupAt t14 1) fun t16 =>
  Bnd (aBin Try.prog true .neq 27 t16 (.int .i64 0)) fun t18 =>
  Cnd t18
   (B1 [(6, t15), (7, t16)] ds h2 (KSeq [6] B2 K))
   (B2 [(6, t15)] ds h2 K)
theorem F20.g0 {n0 : Nat} (B1 : WP) (B2 : WP) (b0 t1 : Value) {ds : List Nat} {h : H} {K : KP} : wA Try.prog n0 76 none (.seq [0, 3] F20.c0.fst (.seq [6, 7] F20.c0.snd.fst (.seq [6] (.seq [6, 7, 18] F20.c0.snd.snd.fst.fst (.cond [6, 7] (.tmp 18) (.sub B1) F20.c0.snd.snd.fst.snd.snd)) (.sub B2)))) [(0, b0), (1, t1)] ds h K = F20.t0 n0 B1 B2 b0 t1 ds h K := by kernel_rfl
theorem F20.s0 {n0 : Nat} : F20.p0 n0 = wA Try.prog n0 76 none (.seq [0, 3] F20.c0.fst (.seq [6, 7] F20.c0.snd.fst (.seq [6] (.seq [6, 7, 18] F20.c0.snd.snd.fst.fst (.cond [6, 7] (.tmp 18) (.sub (F20.p1 n0)) F20.c0.snd.snd.fst.snd.snd)) (.sub (F20.p2 n0))))) := by kernel_rfl
theorem F20.e0 {n0 : Nat} {b0 t1 : Value} {ds : List Nat} {h : H} {K : KP} : F20.p0 n0 [(0, b0), (1, t1)] ds h K = F20.t0 n0 (F20.p1 n0) (F20.p2 n0) b0 t1 ds h K :=
  wchain (F20.s0) (F20.g0 (F20.p1 n0) (F20.p2 n0) b0 t1)
theorem F20.k0 : F20.c0.ok = true := by kernel_rfl
theorem F20.d0 {n0 : Nat} : F20.p0 n0 = wA Try.prog n0 76 none F20.c0 := by kernel_rfl
theorem F20.m0 (n0 : Nat) : MonoW (F20.p0 n0) := @mono_c Try.prog n0 76 none F20.c0 (F20.p0 n0) (F20.d0) F20.k0
noncomputable def F20.t1 (n0 : Nat) (l6 e7 : Value) (ds : List Nat) (h : H) (K : KP) : Prop :=
  K .ret [(4, (.int .i64 0)), (5, e7)] ds h
theorem F20.g1 {n0 : Nat} (l6 e7 : Value) {ds : List Nat} {h : H} {K : KP} : wA Try.prog n0 76 none F20.c1 [(6, l6), (7, e7)] ds h K = F20.t1 n0 l6 e7 ds h K := by kernel_rfl
theorem F20.s1 {n0 : Nat} : F20.p1 n0 = wA Try.prog n0 76 none F20.c1 := by kernel_rfl
theorem F20.e1 {n0 : Nat} {l6 e7 : Value} {ds : List Nat} {h : H} {K : KP} : F20.p1 n0 [(6, l6), (7, e7)] ds h K = F20.t1 n0 l6 e7 ds h K :=
  wchain (F20.s1) (F20.g1 l6 e7)
noncomputable def F20.t2 (n0 : Nat) (B3 : WP) (B4 : WP) (l6 : Value) (ds : List Nat) (h : H) (K : KP) : Prop :=
  Bnd2 (aBuiltin Try.prog .len #[22] [l6] h) fun t21 h1 =>
  Bnd (aBin Try.prog true .lss 3 t21 (.int .i64 1)) fun t22 =>
  Gd t22
   (B3 [(6, l6)] ds h1 (KSeq [6] B4 K))
   (Bnd2 (aBuiltin Try.prog .len #[22] [l6] h1) fun t25 h2 =>
  Bnd (aBin Try.prog true .gtr 3 t25 (.int .i64 8)) fun t26 =>
  Gd t26
   (B3 [(6, l6)] ds h2 (KSeq [6] B4 K))
   (Bnd2 (aBuiltin Try.prog .len #[22] [l6] h2) fun t30 h3 =>
  Bnd (aBin Try.prog true .gtr 3 t30 (.int .i64 1)) fun t31 =>
  Gd t31
   (Bnd (aIndexAddr Try.prog 22 l6 (.int .i64 0)) fun t34 =>
  Bnd (aLoad Try.prog 5 t34 h3) fun t35 =>
  Bnd2 (cvt Try.prog 5 24 t35 h3) fun t36 h4 =>
  Bnd (aBin Try.prog true .shr 24 t36 (.int .u64 7)) fun t37 =>
  Bnd2 (cvt Try.prog 24 5 t37 h4) fun t38 h5 =>
  Bnd (aIndexAddr Try.prog 22 l6 (.int .i64 0)) fun t40 =>
  Bnd (aLoad Try.prog 5 t40 h5) fun t41 =>
  Bnd (aBin Try.prog false .eql 5 t38 t41) fun t42 =>
  Gd t42
   (Bnd (aIndexAddr Try.prog 22 l6 (.int .i64 0)) fun t46 =>
  Bnd (aLoad Try.prog 5 t46 h5) fun t47 =>
  Bnd (aIndexAddr Try.prog 22 l6 (.int .i64 1)) fun t49 =>
  Bnd (aLoad Try.prog 5 t49 h5) fun t50 =>
  Bnd (aBin Try.prog false .xor 5 t47 t50) fun t51 =>
  Bnd (aBin Try.prog true .and 5 t51 (.int .u8 128)) fun t52 =>
  Bnd (aBin Try.prog true .eql 5 t52 (.int .u8 0)) fun t53 =>
  Cnd t53
   (B3 [(6, l6)] ds h5 (KSeq [6] B4 K))
   (B4 [(6, l6)] ds h5 K))
   (B4 [(6, l6)] ds h5 K))
   (B4 [(6, l6)] ds h3 K)))
theorem F20.g2 {n0 : Nat} (B3 : WP) (B4 : WP) (l6 : Value) {ds : List Nat} {h : H} {K : KP} : wA Try.prog n0 76 none (.seq [6] (.seq [6, 55] F20.c2.fst.fst (.cond [6] (.tmp 55) (.sub B3) F20.c2.fst.snd.snd)) (.sub B4)) [(6, l6)] ds h K = F20.t2 n0 B3 B4 l6 ds h K := by kernel_rfl
theorem F20.s2 {n0 : Nat} : F20.p2 n0 = wA Try.prog n0 76 none (.seq [6] (.seq [6, 55] F20.c2.fst.fst (.cond [6] (.tmp 55) (.sub (F20.p3 n0)) F20.c2.fst.snd.snd)) (.sub (F20.p4 n0))) := by kernel_rfl
theorem F20.e2 {n0 : Nat} {l6 : Value} {ds : List Nat} {h : H} {K : KP} : F20.p2 n0 [(6, l6)] ds h K = F20.t2 n0 (F20.p3 n0) (F20.p4 n0) l6 ds h K :=
  wchain (F20.s2) (F20.g2 (F20.p3 n0) (F20.p4 n0) l6)
noncomputable def F20.t3 (n0 : Nat) (l6 : Value) (ds : List Nat) (h : H) (K : KP) : Prop :=
  K .ret [(4, (.int .i64 0)), (5, (.int .i64 23))] ds h
theorem F20.g3 {n0 : Nat} (l6 : Value) {ds : List Nat} {h : H} {K : KP} : wA Try.prog n0 76 none F20.c3 [(6, l6)] ds h K = F20.t3 n0 l6 ds h K := by kernel_rfl
theorem F20.s3 {n0 : Nat} : F20.p3 n0 = wA Try.prog n0 76 none F20.c3 := by kernel_rfl
theorem F20.e3 {n0 : Nat} {l6 : Value} {ds : List Nat} {h : H} {K : KP} : F20.p3 n0 [(6, l6)] ds h K = F20.t3 n0 l6 ds h K :=
  wchain (F20.s3) (F20.g3 l6)
noncomputable def F20.t4 (n0 : Nat) (B5 : WP) (B8 : WP) (l6 : Value) (ds : List Nat) (h : H) (K : KP) : Prop :=
  Bnd (aIndexAddr Try.prog 22 l6 (.int .i64 0)) fun t57 =>
  Bnd (aLoad Try.prog 5 t57 h) fun t58 =>
  Bnd2 (cvt Try.prog 5 24 t58 h) fun t59 h1 =>
  Bnd2 (cvt Try.prog 24 2 t59 h1) fun t60 h2 =>
  Bnd (aSlice Try.prog 22 l6 (some (.int .i64 1)) none none h2) fun t62 =>
  Bnd2 (aBuiltin Try.prog .len #[22] [t62] h2) fun t63 h3 =>
  Lp [8, 62, 63, 64] B5 [(8, t60), (62, t62), (63, t63), (64, (.int .i64 0))] ds h3 (KBlk [8] 0 (KSeq [8] B8 K))
theorem F20.g4 {n0 : Nat} (B5 : WP) (B8 : WP) (l6 : Value) {ds : List Nat} {h : H} {K : KP} : wA Try.prog n0 76 none (.seq [6, 8] F20.c4.fst (.seq [8] (.seq [8, 62, 63, 64] F20.c4.snd.fst.fst (.block [8] 0 (.loop [8, 62, 63, 64] (.sub B5)))) (.sub B8))) [(6, l6)] ds h K = F20.t4 n0 B5 B8 l6 ds h K := by kernel_rfl
theorem F20.s4 {n0 : Nat} : F20.p4 n0 = wA Try.prog n0 76 none (.seq [6, 8] F20.c4.fst (.seq [8] (.seq [8, 62, 63, 64] F20.c4.snd.fst.fst (.block [8] 0 (.loop [8, 62, 63, 64] (.sub (F20.p5 n0))))) (.sub (F20.p8 n0)))) := by kernel_rfl
theorem F20.e4 {n0 : Nat} {l6 : Value} {ds : List Nat} {h : H} {K : KP} : F20.p4 n0 [(6, l6)] ds h K = F20.t4 n0 (F20.p5 n0) (F20.p8 n0) l6 ds h K :=
  wchain (F20.s4) (F20.g4 (F20.p5 n0) (F20.p8 n0) l6)
noncomputable def F20.t5 (n0 : Nat) (B6 : WP) (n8 t62 t63 t64 : Value) (ds : List Nat) (h : H) (K : KP) : Prop :=
  Bnd (aBin Try.prog false .lss 3 t64 t63) fun t65 =>
  Cnd t65
   (B6 [(8, n8), (62, t62), (63, t63), (64, t64)] ds h K)
   (K (.exit 0) [(8, n8), (62, t62), (63, t63), (64, t64)] ds h)
theorem F20.g5 {n0 : Nat} (B6 : WP) (n8 t62 t63 t64 : Value) {ds : List Nat} {h : H} {K : KP} : wA Try.prog n0 76 none (.seq [8, 62, 63, 64, 65] F20.c5.fst (.seq [8, 62, 63, 64] F20.c5.snd.fst (.sub B6))) [(8, n8), (62, t62), (63, t63), (64, t64)] ds h K = F20.t5 n0 B6 n8 t62 t63 t64 ds h K := by kernel_rfl
theorem F20.s5 {n0 : Nat} : F20.p5 n0 = wA Try.prog n0 76 none (.seq [8, 62, 63, 64, 65] F20.c5.fst (.seq [8, 62, 63, 64] F20.c5.snd.fst (.sub (F20.p6 n0)))) := by kernel_rfl
theorem F20.e5 {n0 : Nat} {n8 t62 t63 t64 : Value} {ds : List Nat} {h : H} {K : KP} : F20.p5 n0 [(8, n8), (62, t62), (63, t63), (64, t64)] ds h K = F20.t5 n0 (F20.p6 n0) n8 t62 t63 t64 ds h K :=
  wchain (F20.s5) (F20.g5 (F20.p6 n0) n8 t62 t63 t64)
theorem F20.k5 : F20.c5.ok = true := by kernel_rfl
theorem F20.d5 {n0 : Nat} : F20.p5 n0 = wA Try.prog n0 76 none F20.c5 := by kernel_rfl
theorem F20.m5 (n0 : Nat) : MonoW (F20.p5 n0) := @mono_c Try.prog n0 76 none F20.c5 (F20.p5 n0) (F20.d5) F20.k5
noncomputable def F20.t6 (n0 : Nat) (B7 : WP) (n8 t62 t63 t64 : Value) (ds : List Nat) (h : H) (K : KP) : Prop :=
  Bnd (aIndexAddr Try.prog 22 t62 t64) fun t66 =>
  Bnd (aLoad Try.prog 5 t66 h) fun t67 =>
  Bnd (aBin Try.prog true .shl 2 n8 (.int .u64 8)) fun t69 =>
  Bnd2 (cvt Try.prog 5 2 t67 h) fun t72 h1 =>
  Bnd (aBin Try.prog false .or 2 t69 t72) fun t73 =>
  B7 [(8, t73), (62, t62), (63, t63), (64, t64)] ds h1 K
theorem F20.g6 {n0 : Nat} (B7 : WP) (n8 t62 t63 t64 : Value) {ds : List Nat} {h : H} {K : KP} : wA Try.prog n0 76 none (.seq [8, 62, 63, 64] F20.c6.fst (.sub B7)) [(8, n8), (62, t62), (63, t63), (64, t64)] ds h K = F20.t6 n0 B7 n8 t62 t63 t64 ds h K := by kernel_rfl
theorem F20.s6 {n0 : Nat} : F20.p6 n0 = wA Try.prog n0 76 none (.seq [8, 62, 63, 64] F20.c6.fst (.sub (F20.p7 n0))) := by kernel_rfl
theorem F20.e6 {n0 : Nat} {n8 t62 t63 t64 : Value} {ds : List Nat} {h : H} {K : KP} : F20.p6 n0 [(8, n8), (62, t62), (63, t63), (64, t64)] ds h K = F20.t6 n0 (F20.p7 n0) n8 t62 t63 t64 ds h K :=
  wchain (F20.s6) (F20.g6 (F20.p7 n0) n8 t62 t63 t64)
noncomputable def F20.t7 (n0 : Nat) (n8 t62 t63 t64 : Value) (ds : List Nat) (h : H) (K : KP) : Prop :=
  Bnd (aBin Try.prog true .add 3 t64 (.int .i64 1)) fun t74 =>
  K .normal [(8, n8), (62, t62), (63, t63), (64, t74), (74, t74)] ds h
theorem F20.g7 {n0 : Nat} (n8 t62 t63 t64 : Value) {ds : List Nat} {h : H} {K : KP} : wA Try.prog n0 76 none F20.c7 [(8, n8), (62, t62), (63, t63), (64, t64)] ds h K = F20.t7 n0 n8 t62 t63 t64 ds h K := by kernel_rfl
theorem F20.s7 {n0 : Nat} : F20.p7 n0 = wA Try.prog n0 76 none F20.c7 := by kernel_rfl
theorem F20.e7 {n0 : Nat} {n8 t62 t63 t64 : Value} {ds : List Nat} {h : H} {K : KP} : F20.p7 n0 [(8, n8), (62, t62), (63, t63), (64, t64)] ds h K = F20.t7 n0 n8 t62 t63 t64 ds h K :=
  wchain (F20.s7) (F20.g7 n8 t62 t63 t64)
noncomputable def F20.t8 (n0 : Nat) (n8 : Value) (ds : List Nat) (h : H) (K : KP) : Prop :=
  K .ret [(4, n8), (5, (.int .i64 0))] ds h
theorem F20.g8 {n0 : Nat} (n8 : Value) {ds : List Nat} {h : H} {K : KP} : wA Try.prog n0 76 none F20.c8 [(8, n8)] ds h K = F20.t8 n0 n8 ds h K := by kernel_rfl
theorem F20.s8 {n0 : Nat} : F20.p8 n0 = wA Try.prog n0 76 none F20.c8 := by kernel_rfl
theorem F20.e8 {n0 : Nat} {n8 : Value} {ds : List Nat} {h : H} {K : KP} : F20.p8 n0 [(8, n8)] ds h K = F20.t8 n0 n8 ds h K :=
  wchain (F20.s8) (F20.g8 n8)
theorem F20.b : Try.f20.body = some F20.c0.erase := by kernel_rfl
theorem F20.b2 : (Try.f20.name == "runtime.NumGoroutine") = false := by kernel_rfl
theorem F20.b3 : Try.f20.ntmps = 76 := by kernel_rfl
theorem F20.b4 : Try.f20.results.toList = [.tmp 4, .tmp 5] := by kernel_rfl
theorem F20.enter {n0 : Nat} {x0 x1 : Value} {h : H} {Q : Value → H → Prop} (w : F20.p0 n0 [(0, x0), (1, x1)] [] h (KFin Try.prog [.tmp 4, .tmp 5] Q)) : Cn Try.prog n0 (.func 20) [x0, x1] h Q :=
  @fn_enter Try.prog n0 mixed 20 Try.f20 F20.c0 [x0, x1] h Q Try.func20 F20.b F20.k0 F20.b2 76 F20.b3 [.tmp 4, .tmp 5] F20.b4 (by simp) [(0, x0), (1, x1)] rfl (wback F20.d0 w)

/-! roster.rosterref02.Int -/
noncomputable def F27.ac : AC := (ann (bodyOf Try.f27) [[0, 3], [6, 7], [6], [6, 7, 17], [6, 7], [4, 5], [6], [6, 26], [6], [4, 5], [6], [6, 53], [6], [4, 5], [6, 8], [6, 8], [6, 8, 59], [6, 8], [8], [6, 8, 9], [8], [6, 8, 9], [6, 8, 9], [6, 8, 9, 65], [6, 8, 9], [6, 8, 9], [6, 8, 9], [4, 5]]).1
noncomputable def F27.c0 : AC := F27.ac
noncomputable def F27.c1 : AC := F27.ac.snd.snd.fst.snd.fst
noncomputable def F27.c2 : AC := F27.ac.snd.snd.snd
noncomputable def F27.c3 : AC := F27.ac.snd.snd.snd.fst.snd.fst
noncomputable def F27.c4 : AC := F27.ac.snd.snd.snd.snd
noncomputable def F27.c5 : AC := F27.ac.snd.snd.snd.snd.fst.snd.fst
noncomputable def F27.c6 : AC := F27.ac.snd.snd.snd.snd.snd
noncomputable def F27.c7 : AC := F27.ac.snd.snd.snd.snd.snd.snd.fst.snd.fst
noncomputable def F27.c8 : AC := F27.ac.snd.snd.snd.snd.snd.snd.snd
noncomputable def F27.c9 : AC := F27.ac.snd.snd.snd.snd.snd.snd.snd.fst.snd.fst.fst
noncomputable def F27.c10 : AC := F27.ac.snd.snd.snd.snd.snd.snd.snd.fst.snd.fst.fst.snd
noncomputable def F27.c11 : AC := F27.ac.snd.snd.snd.snd.snd.snd.snd.fst.snd.fst.fst.snd.snd
noncomputable def F27.c12 : AC := F27.ac.snd.snd.snd.snd.snd.snd.snd.snd
noncomputable def F27.p0 (n0 : Nat) : WP := wA Try.prog n0 77 none F27.c0
noncomputable def F27.p1 (n0 : Nat) : WP := wA Try.prog n0 77 none F27.c1
noncomputable def F27.p2 (n0 : Nat) : WP := wA Try.prog n0 77 none F27.c2
noncomputable def F27.p3 (n0 : Nat) : WP := wA Try.prog n0 77 none F27.c3
noncomputable def F27.p4 (n0 : Nat) : WP := wA Try.prog n0 77 none F27.c4
noncomputable def F27.p5 (n0 : Nat) : WP := wA Try.prog n0 77 none F27.c5
noncomputable def F27.p6 (n0 : Nat) : WP := wA Try.prog n0 77 none F27.c6
noncomputable def F27.p7 (n0 : Nat) : WP := wA Try.prog n0 77 none F27.c7
noncomputable def F27.p8 (n0 : Nat) : WP := wA Try.prog n0 77 none F27.c8
noncomputable def F27.p9 (n0 : Nat) : WP := wA Try.prog n0 77 none F27.c9
noncomputable def F27.p10 (n0 : Nat) : WP := wA Try.prog n0 77 none F27.c10
noncomputable def F27.p11 (n0 : Nat) : WP := wA Try.prog n0 77 none F27.c11
noncomputable def F27.p12 (n0 : Nat) : WP := wA Try.prog n0 77 none F27.c12
noncomputable def F27.t0 (n0 : Nat) (B1 : WP) (B2 : WP) (b0 t1 : Value) (ds : List Nat) (h : H) (K : KP) : Prop :=
  Nw (enc 0 26) (clL t1) h fun t3 h1 =>
  Bnd (aLoad Try.prog 26 t3 h1) fun t12 =>
  Cn Try.prog n0 (.func 52) [b0, t12] h1 fun t13 h2 =>
  Bnd (tupAt t13 0) fun t14 =>
  Bnd (tupAt t13 1) fun t15 =>
  Bnd (aBin Try.prog true .neq 27 t15 (.int .i64 0)) fun t17 =>
  Cnd t17
   (B1 [(6, t14), (7, t15)] ds h2 (KSeq [6] B2 K))
   (B2 [(6, t14)] ds h2 K)
theorem F27.g0 {n0 : Nat} (B1 : WP) (B2 : WP) (b0 t1 : Value) {ds : List Nat} {h : H} {K : KP} : wA Try.prog n0 77 none (.seq [0, 3] F27.c0.fst (.seq [6, 7] F27.c0.snd.fst (.seq [6] (.seq [6, 7, 17] F27.c0.snd.snd.fst.fst (.cond [6, 7] (.tmp 17) (.sub B1) F27.c0.snd.snd.fst.snd.snd)) (.sub B2)))) [(0, b0), (1, t1)] ds h K = F27.t0 n0 B1 B2 b0 t1 ds h K := by kernel_rfl
theorem F27.s0 {n0 : Nat} : F27.p0 n0 = wA Try.prog n0 77 none (.seq [0, 3] F27.c0.fst (.seq [6, 7] F27.c0.snd.fst (.seq [6] (.seq [6, 7, 17] F27.c0.snd.snd.fst.fst (.cond [6, 7] (.tmp 17) (.sub (F27.p1 n0)) F27.c0.snd.snd.fst.snd.snd)) (.sub (F27.p2 n0))))) := by kernel_rfl
theorem F27.e0 {n0 : Nat} {b0 t1 : Value} {ds : List Nat} {h : H} {K : KP} : F27.p0 n0 [(0, b0), (1, t1)] ds h K = F27.t0 n0 (F27.p1 n0) (F27.p2 n0) b0 t1 ds h K :=
  wchain (F27.s0) (F27.g0 (F27.p1 n0) (F27.p2 n0) b0 t1)
theorem F27.k0 : F27.c0.ok = true := by kernel_rfl
theorem F27.d0 {n0 : Nat} : F27.p0 n0 = wA Try.prog n0 77 none F27.c0 := by kernel_rfl
theorem F27.m0 (n0 : Nat) : MonoW (F27.p0 n0) := @mono_c Try.prog n0 77 none F27.c0 (F27.p0 n0) (F27.d0) F27.k0
noncomputable def F27.t1 (n0 : Nat) (l6 e7 : Value) (ds : List Nat) (h : H) (K : KP) : Prop :=
  K .ret [(4, (.int .i64 0)), (5, e7)] ds h
theorem F27.g1 {n0 : Nat} (l6 e7 : Value) {ds : List Nat} {h : H} {K : KP} : wA Try.prog n0 77 none F27.c1 [(6, l6), (7, e7)] ds h K = F27.t1 n0 l6 e7 ds h K := by kernel_rfl
theorem F27.s1 {n0 : Nat} : F27.p1 n0 = wA Try.prog n0 77 none F27.c1 := by kernel_rfl
theorem F27.e1 {n0 : Nat} {l6 e7 : Value} {ds : List Nat} {h : H} {K : KP} : F27.p1 n0 [(6, l6), (7, e7)] ds h K = F27.t1 n0 l6 e7 ds h K :=
  wchain (F27.s1) (F27.g1 l6 e7)
noncomputable def F27.t2 (n0 : Nat) (B3 : WP) (B4 : WP) (l6 : Value) (ds : List Nat) (h : H) (K : KP) : Prop :=
  Bnd2 (aBuiltin Try.prog .len #[22] [l6] h) fun t20 h1 =>
  Bnd (aBin Try.prog true .lss 3 t20 (.int .i64 1)) fun t21 =>
  Gd t21
   (B3 [(6, l6)] ds h1 (KSeq [6] B4 K))
   (Bnd2 (aBuiltin Try.prog .len #[22] [l6] h1) fun t24 h2 =>
  Bnd (aBin Try.prog true .gtr 3 t24 (.int .i64 8)) fun t25 =>
  Cnd t25
   (B3 [(6, l6)] ds h2 (KSeq [6] B4 K))
   (B4 [(6, l6)] ds h2 K))
theorem F27.g2 {n0 : Nat} (B3 : WP) (B4 : WP) (l6 : Value) {ds : List Nat} {h : H} {K : KP} : wA Try.prog n0 77 none (.seq [6] (.seq [6, 26] F27.c2.fst.fst (.cond [6] (.tmp 26) (.sub B3) F27.c2.fst.snd.snd)) (.sub B4)) [(6, l6)] ds h K = F27.t2 n0 B3 B4 l6 ds h K := by kernel_rfl
theorem F27.s2 {n0 : Nat} : F27.p2 n0 = wA Try.prog n0 77 none (.seq [6] (.seq [6, 26] F27.c2.fst.fst (.cond [6] (.tmp 26) (.sub (F27.p3 n0)) F27.c2.fst.snd.snd)) (.sub (F27.p4 n0))) := by kernel_rfl
theorem F27.e2 {n0 : Nat} {l6 : Value} {ds : List Nat} {h : H} {K : KP} : F27.p2 n0 [(6, l6)] ds h K = F27.t2 n0 (F27.p3 n0) (F27.p4 n0) l6 ds h K :=
  wchain (F27.s2) (F27.g2 (F27.p3 n0) (F27.p4 n0) l6)
noncomputable def F27.t3 (n0 : Nat) (l6 : Value) (ds : List Nat) (h : H) (K : KP) : Prop :=
  K .ret [(4, (.int .i64 0)), (5, (.int .i64 23))] ds h
theorem F27.g3 {n0 : Nat} (l6 : Value) {ds : List Nat} {h : H} {K : KP} : wA Try.prog n0 77 none F27.c3 [(6, l6)] ds h K = F27.t3 n0 l6 ds h K := by kernel_rfl
theorem F27.s3 {n0 : Nat} : F27.p3 n0 = wA Try.prog n0 77 none F27.c3 := by kernel_rfl
theorem F27.e3 {n0 : Nat} {l6 : Value} {ds : List Nat} {h : H} {K : KP} : F27.p3 n0 [(6, l6)] ds h K = F27.t3 n0 l6 ds h K :=
  wchain (F27.s3) (F27.g3 l6)
noncomputable def F27.t4 (n0 : Nat) (B5 : WP) (B6 : WP) (l6 : Value) (ds : List Nat) (h : H) (K : KP) : Prop :=
  Bnd2 (aBuiltin Try.prog .len #[22] [l6] h) fun t28 h1 =>
  Bnd (aBin Try.prog true .gtr 3 t28 (.int .i64 1)) fun t29 =>
  Gd t29
   (Bnd (aIndexAddr Try.prog 22 l6 (.int .i64 0)) fun t32 =>
  Bnd (aLoad Try.prog 5 t32 h1) fun t33 =>
  Bnd (aBin Try.prog true .eql 5 t33 (.int .u8 0)) fun t34 =>
  Gd t34
   (Bnd (aIndexAddr Try.prog 22 l6 (.int .i64 1)) fun t37 =>
  Bnd (aLoad Try.prog 5 t37 h1) fun t38 =>
  Bnd (aBin Try.prog true .lss 5 t38 (.int .u8 128)) fun t39 =>
  Gd t39
   (B5 [(6, l6)] ds h1 (KSeq [6] B6 K))
   (Bnd (aIndexAddr Try.prog 22 l6 (.int .i64 0)) fun t43 =>
  Bnd (aLoad Try.prog 5 t43 h1) fun t44 =>
  Bnd (aBin Try.prog true .eql 5 t44 (.int .u8 255)) fun t45 =>
  Gd t45
   (Bnd (aIndexAddr Try.prog 22 l6 (.int .i64 1)) fun t48 =>
  Bnd (aLoad Try.prog 5 t48 h1) fun t49 =>
  Bnd (aBin Try.prog true .geq 5 t49 (.int .u8 128)) fun t50 =>
  Cnd t50
   (B5 [(6, l6)] ds h1 (KSeq [6] B6 K))
   (B6 [(6, l6)] ds h1 K))
   (B6 [(6, l6)] ds h1 K)))
   (Bnd (aIndexAddr Try.prog 22 l6 (.int .i64 0)) fun t43 =>
  Bnd (aLoad Try.prog 5 t43 h1) fun t44 =>
  Bnd (aBin Try.prog true .eql 5 t44 (.int .u8 255)) fun t45 =>
  Gd t45
   (Bnd (aIndexAddr Try.prog 22 l6 (.int .i64 1)) fun t48 =>
  Bnd (aLoad Try.prog 5 t48 h1) fun t49 =>
  Bnd (aBin Try.prog true .geq 5 t49 (.int .u8 128)) fun t50 =>
  Cnd t50
   (B5 [(6, l6)] ds h1 (KSeq [6] B6 K))
   (B6 [(6, l6)] ds h1 K))
   (B6 [(6, l6)] ds h1 K)))
   (B6 [(6, l6)] ds h1 K)
theorem F27.g4 {n0 : Nat} (B5 : WP) (B6 : WP) (l6 : Value) {ds : List Nat} {h : H} {K : KP} : wA Try.prog n0 77 none (.seq [6] (.seq [6, 53] F27.c4.fst.fst (.cond [6] (.tmp 53) (.sub B5) F27.c4.fst.snd.snd)) (.sub B6)) [(6, l6)] ds h K = F27.t4 n0 B5 B6 l6 ds h K := by kernel_rfl
theorem F27.s4 {n0 : Nat} : F27.p4 n0 = wA Try.prog n0 77 none (.seq [6] (.seq [6, 53] F27.c4.fst.fst (.cond [6] (.tmp 53) (.sub (F27.p5 n0)) F27.c4.fst.snd.snd)) (.sub (F27.p6 n0))) := by kernel_rfl
theorem F27.e4 {n0 : Nat} {l6 : Value} {ds : List Nat} {h : H} {K : KP} : F27.p4 n0 [(6, l6)] ds h K = F27.t4 n0 (F27.p5 n0) (F27.p6 n0) l6 ds h K :=
  wchain (F27.s4) (F27.g4 (F27.p5 n0) (F27.p6 n0) l6)
noncomputable def F27.t5 (n0 : Nat) (l6 : Value) (ds : List Nat) (h : H) (K : KP) : Prop :=
  K .ret [(4, (.int .i64 0)), (5, (.int .i64 23))] ds h
theorem F27.g5 {n0 : Nat} (l6 : Value) {ds : List Nat} {h : H} {K : KP} : wA Try.prog n0 77 none F27.c5 [(6, l6)] ds h K = F27.t5 n0 l6 ds h K := by kernel_rfl
theorem F27.s5 {n0 : Nat} : F27.p5 n0 = wA Try.prog n0 77 none F27.c5 := by kernel_rfl
theorem F27.e5 {n0 : Nat} {l6 : Value} {ds : List Nat} {h : H} {K : KP} : F27.p5 n0 [(6, l6)] ds h K = F27.t5 n0 l6 ds h K :=
  wchain (F27.s5) (F27.g5 l6)
noncomputable def F27.t6 (n0 : Nat) (B7 : WP) (B8 : WP) (l6 : Value) (ds : List Nat) (h : H) (K : KP) : Prop :=
  Bnd (aIndexAddr Try.prog 22 l6 (.int .i64 0)) fun t55 =>
  Bnd (aLoad Try.prog 5 t55 h) fun t56 =>
  Bnd2 (cvt Try.prog 5 2 t56 h) fun t57 h1 =>
  Bnd (aBin Try.prog true .geq 2 t57 (.int .i64 128)) fun t59 =>
  Cnd t59
   (B7 [(6, l6), (8, t57)] ds h1 (KSeq [6, 8] B8 K))
   (B8 [(6, l6), (8, t57)] ds h1 K)
theorem F27.g6 {n0 : Nat} (B7 : WP) (B8 : WP) (l6 : Value) {ds : List Nat} {h : H} {K : KP} : wA Try.prog n0 77 none (.seq [6, 8] F27.c6.fst (.seq [6, 8] (.seq [6, 8, 59] F27.c6.snd.fst.fst (.cond [6, 8] (.tmp 59) (.sub B7) F27.c6.snd.fst.snd.snd)) (.sub B8))) [(6, l6)] ds h K = F27.t6 n0 B7 B8 l6 ds h K := by kernel_rfl
theorem F27.s6 {n0 : Nat} : F27.p6 n0 = wA Try.prog n0 77 none (.seq [6, 8] F27.c6.fst (.seq [6, 8] (.seq [6, 8, 59] F27.c6.snd.fst.fst (.cond [6, 8] (.tmp 59) (.sub (F27.p7 n0)) F27.c6.snd.fst.snd.snd)) (.sub (F27.p8 n0)))) := by kernel_rfl
theorem F27.e6 {n0 : Nat} {l6 : Value} {ds : List Nat} {h : H} {K : KP} : F27.p6 n0 [(6, l6)] ds h K = F27.t6 n0 (F27.p7 n0) (F27.p8 n0) l6 ds h K :=
  wchain (F27.s6) (F27.g6 (F27.p7 n0) (F27.p8 n0) l6)
noncomputable def F27.t7 (n0 : Nat) (l6 n8 : Value) (ds : List Nat) (h : H) (K : KP) : Prop :=
  Bnd (aBin Try.prog true .sub 2 n8 (.int .i64 256)) fun t61 =>
  K .normal [(6, l6), (8, t61), (60, n8), (61, t61)] ds h
theorem F27.g7 {n0 : Nat} (l6 n8 : Value) {ds : List Nat} {h : H} {K : KP} : wA Try.prog n0 77 none F27.c7 [(6, l6), (8, n8)] ds h K = F27.t7 n0 l6 n8 ds h K := by kernel_rfl
theorem F27.s7 {n0 : Nat} : F27.p7 n0 = wA Try.prog n0 77 none F27.c7 := by kernel_rfl
theorem F27.e7 {n0 : Nat} {l6 n8 : Value} {ds : List Nat} {h : H} {K : KP} : F27.p7 n0 [(6, l6), (8, n8)] ds h K = F27.t7 n0 l6 n8 ds h K :=
  wchain (F27.s7) (F27.g7 l6 n8)
noncomputable def F27.t8 (n0 : Nat) (B9 : WP) (B12 : WP) (l6 n8 : Value) (ds : List Nat) (h : H) (K : KP) : Prop :=
  Lp [6, 8, 9] B9 [(6, l6), (8, n8), (9, (.int .i64 1))] ds h (KBlk [8] 0 (KSeq [8] B12 K))
theorem F27.g8 {n0 : Nat} (B9 : WP) (B12 : WP) (l6 n8 : Value) {ds : List Nat} {h : H} {K : KP} : wA Try.prog n0 77 none (.seq [8] (.seq [6, 8, 9] F27.c8.fst.fst (.block [8] 0 (.loop [6, 8, 9] (.sub B9)))) (.sub B12)) [(6, l6), (8, n8)] ds h K = F27.t8 n0 B9 B12 l6 n8 ds h K := by kernel_rfl
theorem F27.s8 {n0 : Nat} : F27.p8 n0 = wA Try.prog n0 77 none (.seq [8] (.seq [6, 8, 9] F27.c8.fst.fst (.block [8] 0 (.loop [6, 8, 9] (.sub (F27.p9 n0))))) (.sub (F27.p12 n0))) := by kernel_rfl
theorem F27.e8 {n0 : Nat} {l6 n8 : Value} {ds : List Nat} {h : H} {K : KP} : F27.p8 n0 [(6, l6), (8, n8)] ds h K = F27.t8 n0 (F27.p9 n0) (F27.p12 n0) l6 n8 ds h K :=
  wchain (F27.s8) (F27.g8 (F27.p9 n0) (F27.p12 n0) l6 n8)
noncomputable def F27.t9 (n0 : Nat) (B10 : WP) (l6 n8 i9 : Value) (ds : List Nat) (h : H) (K : KP) : Prop :=
  Bnd2 (aBuiltin Try.prog .len #[22] [l6] h) fun t64 h1 =>
  Bnd (aBin Try.prog false .lss 3 i9 t64) fun t65 =>
  Cnd t65
   (B10 [(6, l6), (8, n8), (9, i9)] ds h1 K)
   (K (.exit 0) [(6, l6), (8, n8), (9, i9)] ds h1)
theorem F27.g9 {n0 : Nat} (B10 : WP) (l6 n8 i9 : Value) {ds : List Nat} {h : H} {K : KP} : wA Try.prog n0 77 none (.seq [6, 8, 9] F27.c9.fst (.sub B10)) [(6, l6), (8, n8), (9, i9)] ds h K = F27.t9 n0 B10 l6 n8 i9 ds h K := by kernel_rfl
theorem F27.s9 {n0 : Nat} : F27.p9 n0 = wA Try.prog n0 77 none (.seq [6, 8, 9] F27.c9.fst (.sub (F27.p10 n0))) := by kernel_rfl
theorem F27.e9 {n0 : Nat} {l6 n8 i9 : Value} {ds : List Nat} {h : H} {K : KP} : F27.p9 n0 [(6, l6), (8, n8), (9, i9)] ds h K = F27.t9 n0 (F27.p10 n0) l6 n8 i9 ds h K :=
  wchain (F27.s9) (F27.g9 (F27.p10 n0) l6 n8 i9)
theorem F27.k9 : F27.c9.ok = true := by kernel_rfl
theorem F27.d9 {n0 : Nat} : F27.p9 n0 = wA Try.prog n0 77 none F27.c9 := by kernel_rfl
theorem F27.m9 (n0 : Nat) : MonoW (F27.p9 n0) := @mono_c Try.prog n0 77 none F27.c9 (F27.p9 n0) (F27.d9) F27.k9
noncomputable def F27.t10 (n0 : Nat) (B11 : WP) (l6 n8 i9 : Value) (ds : List Nat) (h : H) (K : KP) : Prop :=
  Bnd (aBin Try.prog true .mul 2 (.int .i64 256) n8) fun t69 =>
  Bnd (aIndexAddr Try.prog 22 l6 i9) fun t72 =>
  Bnd (aLoad Try.prog 5 t72 h) fun t73 =>
  Bnd2 (cvt Try.prog 5 2 t73 h) fun t74 h1 =>
  Bnd (aBin Try.prog false .add 2 t69 t74) fun t75 =>
  B11 [(6, l6), (8, t75), (9, i9)] ds h1 K
theorem F27.g10 {n0 : Nat} (B11 : WP) (l6 n8 i9 : Value) {ds : List Nat} {h : H} {K : KP} : wA Try.prog n0 77 none (.seq [6, 8, 9] F27.c10.fst (.sub B11)) [(6, l6), (8, n8), (9, i9)] ds h K = F27.t10 n0 B11 l6 n8 i9 ds h K := by kernel_rfl
theorem F27.s10 {n0 : Nat} : F27.p10 n0 = wA Try.prog n0 77 none (.seq [6, 8, 9] F27.c10.fst (.sub (F27.p11 n0))) := by kernel_rfl
theorem F27.e10 {n0 : Nat} {l6 n8 i9 : Value} {ds : List Nat} {h : H} {K : KP} : F27.p10 n0 [(6, l6), (8, n8), (9, i9)] ds h K = F27.t10 n0 (F27.p11 n0) l6 n8 i9 ds h K :=
  wchain (F27.s10) (F27.g10 (F27.p11 n0) l6 n8 i9)
noncomputable def F27.t11 (n0 : Nat) (l6 n8 i9 : Value) (ds : List Nat) (h : H) (K : KP) : Prop :=
  Bnd (aBin Try.prog true .add 3 i9 (.int .i64 1)) fun t67 =>
  K .normal [(6, l6), (8, n8), (9, t67), (66, i9), (67, t67)] ds h
theorem F27.g11 {n0 : Nat} (l6 n8 i9 : Value) {ds : List Nat} {h : H} {K : KP} : wA Try.prog n0 77 none F27.c11 [(6, l6), (8, n8), (9, i9)] ds h K = F27.t11 n0 l6 n8 i9 ds h K := by kernel_rfl
theorem F27.s11 {n0 : Nat} : F27.p11 n0 = wA Try.prog n0 77 none F27.c11 := by kernel_rfl
theorem F27.e11 {n0 : Nat} {l6 n8 i9 : Value} {ds : List Nat} {h : H} {K : KP} : F27.p11 n0 [(6, l6), (8, n8), (9, i9)] ds h K = F27.t11 n0 l6 n8 i9 ds h K :=
  wchain (F27.s11) (F27.g11 l6 n8 i9)
noncomputable def F27.t12 (n0 : Nat) (n8 : Value) (ds : List Nat) (h : H) (K : KP) : Prop :=
  K .ret [(4, n8), (5, (.int .i64 0))] ds h
theorem F27.g12 {n0 : Nat} (n8 : Value) {ds : List Nat} {h : H} {K : KP} : wA Try.prog n0 77 none F27.c12 [(8, n8)] ds h K = F27.t12 n0 n8 ds h K := by kernel_rfl
theorem F27.s12 {n0 : Nat} : F27.p12 n0 = wA Try.prog n0 77 none F27.c12 := by kernel_rfl
theorem F27.e12 {n0 : Nat} {n8 : Value} {ds : List Nat} {h : H} {K : KP} : F27.p12 n0 [(8, n8)] ds h K = F27.t12 n0 n8 ds h K :=
  wchain (F27.s12) (F27.g12 n8)
theorem F27.b : Try.f27.body = some F27.c0.erase := by kernel_rfl
theorem F27.b2 : (Try.f27.name == "runtime.NumGoroutine") = false := by kernel_rfl
theorem F27.b3 : Try.f27.ntmps = 77 := by kernel_rfl
theorem F27.b4 : Try.f27.results.toList = [.tmp 4, .tmp 5] := by kernel_rfl
theorem F27.enter {n0 : Nat} {x0 x1 : Value} {h : H} {Q : Value → H → Prop} (w : F27.p0 n0 [(0, x0), (1, x1)] [] h (KFin Try.prog [.tmp 4, .tmp 5] Q)) : Cn Try.prog n0 (.func 27) [x0, x1] h Q :=
  @fn_enter Try.prog n0 mixed 27 Try.f27 F27.c0 [x0, x1] h Q Try.func27 F27.b F27.k0 F27.b2 77 F27.b3 [.tmp 4, .tmp 5] F27.b4 (by simp) [(0, x0), (1, x1)] rfl (wback F27.d0 w)

/-! roster.ber.Flag -/
noncomputable def F28.ac : AC := (ann (bodyOf Try.f28) [[0, 3], [6, 7], [6], [6, 7, 15], [6, 7], [4, 5], [6], [6, 31], [6], [4, 5], [4, 5]]).1
noncomputable def F28.c0 : AC := F28.ac
noncomputable def F28.c1 : AC := F28.ac.snd.snd.fst.snd.fst
noncomputable def F28.c2 : AC := F28.ac.snd.snd.snd
noncomputable def F28.c3 : AC := F28.ac.snd.snd.snd.fst.snd.fst
noncomputable def F28.c4 : AC := F28.ac.snd.snd.snd.snd
noncomputable def F28.p0 (n0 : Nat) : WP := wA Try.prog n0 36 none F28.c0
noncomputable def F28.p1 (n0 : Nat) : WP := wA Try.prog n0 36 none F28.c1
noncomputable def F28.p2 (n0 : Nat) : WP := wA Try.prog n0 36 none F28.c2
noncomputable def F28.p3 (n0 : Nat) : WP := wA Try.prog n0 36 none F28.c3
noncomputable def F28.p4 (n0 : Nat) : WP := wA Try.prog n0 36 none F28.c4
noncomputable def F28.t0 (n0 : Nat) (B1 : WP) (B2 : WP) (b0 t1 : Value) (ds : List Nat) (h : H) (K : KP) : Prop :=
  Nw (enc 0 26) (clL t1) h fun t3 h1 =>
  Bnd (aLoad Try.prog 26 t3 h1) fun t10 =>
  Cn Try.prog n0 (.func 45) [b0, t10] h1 fun t11 h2 =>
  Bnd (tupAt t11 0) fun t12 =>
  Bnd (tupAt t11 1) fun t13 =>
  Bnd (aBin Try.prog true .neq 27 t13 (.int .i64 0)) fun t15 =>
  Cnd t15
   (B1 [(6, t12), (7, t13)] ds h2 (KSeq [6] B2 K))
   (B2 [(6, t12)] ds h2 K)
theorem F28.g0 {n0 : Nat} (B1 : WP) (B2 : WP) (b0 t1 : Value) {ds : List Nat} {h : H} {K : KP} : wA Try.prog n0 36 none (.seq [0, 3] F28.c0.fst (.seq [6, 7] F28.c0.snd.fst (.seq [6] (.seq [6, 7, 15] F28.c0.snd.snd.fst.fst (.cond [6, 7] (.tmp 15) (.sub B1) F28.c0.snd.snd.fst.snd.snd)) (.sub B2)))) [(0, b0), (1, t1)] ds h K = F28.t0 n0 B1 B2 b0 t1 ds h K := by kernel_rfl
theorem F28.s0 {n0 : Nat} : F28.p0 n0 = wA Try.prog n0 36 none (.seq [0, 3] F28.c0.fst (.seq [6, 7] F28.c0.snd.fst (.seq [6] (.seq [6, 7, 15] F28.c0.snd.snd.fst.fst (.cond [6, 7] (.tmp 15) (.sub (F28.p1 n0)) F28.c0.snd.snd.fst.snd.snd)) (.sub (F28.p2 n0))))) := by kernel_rfl
theorem F28.e0 {n0 : Nat} {b0 t1 : Value} {ds : List Nat} {h : H} {K : KP} : F28.p0 n0 [(0, b0), (1, t1)] ds h K = F28.t0 n0 (F28.p1 n0) (F28.p2 n0) b0 t1 ds h K :=
  wchain (F28.s0) (F28.g0 (F28.p1 n0) (F28.p2 n0) b0 t1)
theorem F28.k0 : F28.c0.ok = true := by kernel_rfl
theorem F28.d0 {n0 : Nat} : F28.p0 n0 = wA Try.prog n0 36 none F28.c0 := by kernel_rfl
theorem F28.m0 (n0 : Nat) : MonoW (F28.p0 n0) := @mono_c Try.prog n0 36 none F28.c0 (F28.p0 n0) (F28.d0) F28.k0
noncomputable def F28.t1 (n0 : Nat) (l6 e7 : Value) (ds : List Nat) (h : H) (K : KP) : Prop :=
  K .ret [(4, (.bool false)), (5, e7)] ds h
theorem F28.g1 {n0 : Nat} (l6 e7 : Value) {ds : List Nat} {h : H} {K : KP} : wA Try.prog n0 36 none F28.c1 [(6, l6), (7, e7)] ds h K = F28.t1 n0 l6 e7 ds h K := by kernel_rfl
theorem F28.s1 {n0 : Nat} : F28.p1 n0 = wA Try.prog n0 36 none F28.c1 := by kernel_rfl
theorem F28.e1 {n0 : Nat} {l6 e7 : Value} {ds : List Nat} {h : H} {K : KP} : F28.p1 n0 [(6, l6), (7, e7)] ds h K = F28.t1 n0 l6 e7 ds h K :=
  wchain (F28.s1) (F28.g1 l6 e7)
noncomputable def F28.t2 (n0 : Nat) (B3 : WP) (B4 : WP) (l6 : Value) (ds : List Nat) (h : H) (K : KP) : Prop :=
  Bnd2 (aBuiltin Try.prog .len #[22] [l6] h) fun t18 h1 =>
  Bnd (aBin Try.prog true .neq 3 t18 (.int .i64 1)) fun t19 =>
  Gd t19
   (B3 [(6, l6)] ds h1 (KSeq [6] B4 K))
   (Bnd (aIndexAddr Try.prog 22 l6 (.int .i64 0)) fun t22 =>
  Bnd (aLoad Try.prog 5 t22 h1) fun t23 =>
  Bnd (aBin Try.prog true .neq 5 t23 (.int .u8 0)) fun t24 =>
  Gd t24
   (Bnd (aIndexAddr Try.prog 22 l6 (.int .i64 0)) fun t27 =>
  Bnd (aLoad Try.prog 5 t27 h1) fun t28 =>
  Bnd (aBin Try.prog true .neq 5 t28 (.int .u8 255)) fun t29 =>
  Cnd t29
   (B3 [(6, l6)] ds h1 (KSeq [6] B4 K))
   (B4 [(6, l6)] ds h1 K))
   (B4 [(6, l6)] ds h1 K))
theorem F28.g2 {n0 : Nat} (B3 : WP) (B4 : WP) (l6 : Value) {ds : List Nat} {h : H} {K : KP} : wA Try.prog n0 36 none (.seq [6] (.seq [6, 31] F28.c2.fst.fst (.cond [6] (.tmp 31) (.sub B3) F28.c2.fst.snd.snd)) (.sub B4)) [(6, l6)] ds h K = F28.t2 n0 B3 B4 l6 ds h K := by kernel_rfl
theorem F28.s2 {n0 : Nat} : F28.p2 n0 = wA Try.prog n0 36 none (.seq [6] (.seq [6, 31] F28.c2.fst.fst (.cond [6] (.tmp 31) (.sub (F28.p3 n0)) F28.c2.fst.snd.snd)) (.sub (F28.p4 n0))) := by kernel_rfl
theorem F28.e2 {n0 : Nat} {l6 : Value} {ds : List Nat} {h : H} {K : KP} : F28.p2 n0 [(6, l6)] ds h K = F28.t2 n0 (F28.p3 n0) (F28.p4 n0) l6 ds h K :=
  wchain (F28.s2) (F28.g2 (F28.p3 n0) (F28.p4 n0) l6)
noncomputable def F28.t3 (n0 : Nat) (l6 : Value) (ds : List Nat) (h : H) (K : KP) : Prop :=
  K .ret [(4, (.bool false)), (5, (.int .i64 22))] ds h
theorem F28.g3 {n0 : Nat} (l6 : Value) {ds : List Nat} {h : H} {K : KP} : wA Try.prog n0 36 none F28.c3 [(6, l6)] ds h K = F28.t3 n0 l6 ds h K := by kernel_rfl
theorem F28.s3 {n0 : Nat} : F28.p3 n0 = wA Try.prog n0 36 none F28.c3 := by kernel_rfl
theorem F28.e3 {n0 : Nat} {l6 : Value} {ds : List Nat} {h : H} {K : KP} : F28.p3 n0 [(6, l6)] ds h K = F28.t3 n0 l6 ds h K :=
  wchain (F28.s3) (F28.g3 l6)
noncomputable def F28.t4 (n0 : Nat) (l6 : Value) (ds : List Nat) (h : H) (K : KP) : Prop :=
  Bnd (aIndexAddr Try.prog 22 l6 (.int .i64 0)) fun t33 =>
  Bnd (aLoad Try.prog 5 t33 h) fun t34 =>
  Bnd (aBin Try.prog true .neq 5 t34 (.int .u8 0)) fun t35 =>
  K .ret [(4, t35), (5, (.int .i64 0))] ds h
theorem F28.g4 {n0 : Nat} (l6 : Value) {ds : List Nat} {h : H} {K : KP} : wA Try.prog n0 36 none F28.c4 [(6, l6)] ds h K = F28.t4 n0 l6 ds h K := by kernel_rfl
theorem F28.s4 {n0 : Nat} : F28.p4 n0 = wA Try.prog n0 36 none F28.c4 := by kernel_rfl
theorem F28.e4 {n0 : Nat} {l6 : Value} {ds : List Nat} {h : H} {K : KP} : F28.p4 n0 [(6, l6)] ds h K = F28.t4 n0 l6 ds h K :=
  wchain (F28.s4) (F28.g4 l6)
theorem F28.b : Try.f28.body = some F28.c0.erase := by kernel_rfl
theorem F28.b2 : (Try.f28.name == "runtime.NumGoroutine") = false := by kernel_rfl
theorem F28.b3 : Try.f28.ntmps = 36 := by kernel_rfl
theorem F28.b4 : Try.f28.results.toList = [.tmp 4, .tmp 5] := by kernel_rfl
theorem F28.enter {n0 : Nat} {x0 x1 : Value} {h : H} {Q : Value → H → Prop} (w : F28.p0 n0 [(0, x0), (1, x1)] [] h (KFin Try.prog [.tmp 4, .tmp 5] Q)) : Cn Try.prog n0 (.func 28) [x0, x1] h Q :=
  @fn_enter Try.prog n0 mixed 28 Try.f28 F28.c0 [x0, x1] h Q Try.func28 F28.b F28.k0 F28.b2 36 F28.b3 [.tmp 4, .tmp 5] F28.b4 (by simp) [(0, x0), (1, x1)] rfl (wback F28.d0 w)

/-! roster.rosterref02.Flag -/
noncomputable def F29.ac : AC := (ann (bodyOf Try.f29) [[0, 3], [6, 7], [6], [6, 7, 15], [6, 7], [4, 5], [6], [6, 31], [6], [4, 5], [4, 5]]).1
noncomputable def F29.c0 : AC := F29.ac
noncomputable def F29.c1 : AC := F29.ac.snd.snd.fst.snd.fst
noncomputable def F29.c2 : AC := F29.ac.snd.snd.snd
noncomputable def F29.c3 : AC := F29.ac.snd.snd.snd.fst.snd.fst
noncomputable def F29.c4 : AC := F29.ac.snd.snd.snd.snd
noncomputable def F29.p0 (n0 : Nat) : WP := wA Try.prog n0 36 none F29.c0
noncomputable def F29.p1 (n0 : Nat) : WP := wA Try.prog n0 36 none F29.c1
noncomputable def F29.p2 (n0 : Nat) : WP := wA Try.prog n0 36 none F29.c2
noncomputable def F29.p3 (n0 : Nat) : WP := wA Try.prog n0 36 none F29.c3
noncomputable def F29.p4 (n0 : Nat) : WP := wA Try.prog n0 36 none F29.c4
noncomputable def F29.t0 (n0 : Nat) (B1 : WP) (B2 : WP) (b0 t1 : Value) (ds : List Nat) (h : H) (K : KP) : Prop :=
  Nw (enc 0 26) (clL t1) h fun t3 h1 =>
  Bnd (aLoad Try.prog 26 t3 h1) fun t10 =>
  Cn Try.prog n0 (.func 52) [b0, t10] h1 fun t11 h2 =>
  Bnd (tupAt t11 0) fun t12 =>
  Bnd (tupAt t11 1) fun t13 =>
  Bnd (aBin Try.prog true .neq 27 t13 (.int .i64 0)) fun t15 =>
  Cnd t15
   (B1 [(6, t12), (7, t13)] ds h2 (KSeq [6] B2 K))
   (B2 [(6, t12)] ds h2 K)
theorem F29.g0 {n0 : Nat} (B1 : WP) (B2 : WP) (b0 t1 : Value) {ds : List Nat} {h : H} {K : KP} : wA Try.prog n0 36 none (.seq [0, 3] F29.c0.fst (.seq [6, 7] F29.c0.snd.fst (.seq [6] (.seq [6, 7, 15] F29.c0.snd.snd.fst.fst (.cond [6, 7] (.tmp 15) (.sub B1) F29.c0.snd.snd.fst.snd.snd)) (.sub B2)))) [(0, b0), (1, t1)] ds h K = F29.t0 n0 B1 B2 b0 t1 ds h K := by kernel_rfl
theorem F29.s0 {n0 : Nat} : F29.p0 n0 = wA Try.prog n0 36 none (.seq [0, 3] F29.c0.fst (.seq [6, 7] F29.c0.snd.fst (.seq [6] (.seq [6, 7, 15] F29.c0.snd.snd.fst.fst (.cond [6, 7] (.tmp 15) (.sub (F29.p1 n0)) F29.c0.snd.snd.fst.snd.snd)) (.sub (F29.p2 n0))))) := by kernel_rfl
theorem F29.e0 {n0 : Nat} {b0 t1 : Value} {ds : List Nat} {h : H} {K : KP} : F29.p0 n0 [(0, b0), (1, t1)] ds h K = F29.t0 n0 (F29.p1 n0) (F29.p2 n0) b0 t1 ds h K :=
  wchain (F29.s0) (F29.g0 (F29.p1 n0) (F29.p2 n0) b0 t1)
theorem F29.k0 : F29.c0.ok = true := by kernel_rfl
theorem F29.d0 {n0 : Nat} : F29.p0 n0 = wA Try.prog n0 36 none F29.c0 := by kernel_rfl
theorem F29.m0 (n0 : Nat) : MonoW (F29.p0 n0) := @mono_c Try.prog n0 36 none F29.c0 (F29.p0 n0) (F29.d0) F29.k0
noncomputable def F29.t1 (n0 : Nat) (l6 e7 : Value) (ds : List Nat) (h : H) (K : KP) : Prop :=
  K .ret [(4, (.bool false)), (5, e7)] ds h
theorem F29.g1 {n0 : Nat} (l6 e7 : Value) {ds : List Nat} {h : H} {K : KP} : wA Try.prog n0 36 none F29.c1 [(6, l6), (7, e7)] ds h K = F29.t1 n0 l6 e7 ds h K := by kernel_rfl
theorem F29.s1 {n0 : Nat} : F29.p1 n0 = wA Try.prog n0 36 none F29.c1 := by kernel_rfl
theorem F29.e1 {n0 : Nat} {l6 e7 : Value} {ds : List Nat} {h : H} {K : KP} : F29.p1 n0 [(6, l6), (7, e7)] ds h K = F29.t1 n0 l6 e7 ds h K :=
  wchain (F29.s1) (F29.g1 l6 e7)
noncomputable def F29.t2 (n0 : Nat) (B3 : WP) (B4 : WP) (l6 : Value) (ds : List Nat) (h : H) (K : KP) : Prop :=
  Bnd2 (aBuiltin Try.prog .len #[22] [l6] h) fun t18 h1 =>
  Bnd (aBin Try.prog true .neq 3 t18 (.int .i64 1)) fun t19 =>
  Gd t19
   (B3 [(6, l6)] ds h1 (KSeq [6] B4 K))
   (Bnd (aIndexAddr Try.prog 22 l6 (.int .i64 0)) fun t22 =>
  Bnd (aLoad Try.prog 5 t22 h1) fun t23 =>
  Bnd (aBin Try.prog true .neq 5 t23 (.int .u8 0)) fun t24 =>
  Gd t24
   (Bnd (aIndexAddr Try.prog 22 l6 (.int .i64 0)) fun t27 =>
  Bnd (aLoad Try.prog 5 t27 h1) fun t28 =>
  Bnd (aBin Try.prog true .neq 5 t28 (.int .u8 255)) fun t29 =>
  Cnd t29
   (B3 [(6, l6)] ds h1 (KSeq [6] B4 K))
   (B4 [(6, l6)] ds h1 K))
   (B4 [(6, l6)] ds h1 K))
theorem F29.g2 {n0 : Nat} (B3 : WP) (B4 : WP) (l6 : Value) {ds : List Nat} {h : H} {K : KP} : wA Try.prog n0 36 none (.seq [6] (.seq [6, 31] F29.c2.fst.fst (.cond [6] (.tmp 31) (.sub B3) F29.c2.fst.snd.snd)) (.sub B4)) [(6, l6)] ds h K = F29.t2 n0 B3 B4 l6 ds h K := by kernel_rfl
theorem F29.s2 {n0 : Nat} : F29.p2 n0 = wA Try.prog n0 36 none (.seq [6] (.seq [6, 31] F29.c2.fst.fst (.cond [6] (.tmp 31) (.sub (F29.p3 n0)) F29.c2.fst.snd.snd)) (.sub (F29.p4 n0))) := by kernel_rfl
theorem F29.e2 {n0 : Nat} {l6 : Value} {ds : List Nat} {h : H} {K : KP} : F29.p2 n0 [(6, l6)] ds h K = F29.t2 n0 (F29.p3 n0) (F29.p4 n0) l6 ds h K :=
  wchain (F29.s2) (F29.g2 (F29.p3 n0) (F29.p4 n0) l6)
noncomputable def F29.t3 (n0 : Nat) (l6 : Value) (ds : List Nat) (h : H) (K : KP) : Prop :=
  K .ret [(4, (.bool false)), (5, (.int .i64 22))] ds h
theorem F29.g3 {n0 : Nat} (l6 : Value) {ds : List Nat} {h : H} {K : KP} : wA Try.prog n0 36 none F29.c3 [(6, l6)] ds h K = F29.t3 n0 l6 ds h K := by kernel_rfl
theorem F29.s3 {n0 : Nat} : F29.p3 n0 = wA Try.prog n0 36 none F29.c3 := by kernel_rfl
theorem F29.e3 {n0 : Nat} {l6 : Value} {ds : List Nat} {h : H} {K : KP} : F29.p3 n0 [(6, l6)] ds h K = F29.t3 n0 l6 ds h K :=
  wchain (F29.s3) (F29.g3 l6)
noncomputable def F29.t4 (n0 : Nat) (l6 : Value) (ds : List Nat) (h : H) (K : KP) : Prop :=
  Bnd (aIndexAddr Try.prog 22 l6 (.int .i64 0)) fun t33 =>
  Bnd (aLoad Try.prog 5 t33 h) fun t34 =>
  Bnd (aBin Try.prog true .eql 5 t34 (.int .u8 255)) fun t35 =>
  K .ret [(4, t35), (5, (.int .i64 0))] ds h
theorem F29.g4 {n0 : Nat} (l6 : Value) {ds : List Nat} {h : H} {K : KP} : wA Try.prog n0 36 none F29.c4 [(6, l6)] ds h K = F29.t4 n0 l6 ds h K := by kernel_rfl
theorem F29.s4 {n0 : Nat} : F29.p4 n0 = wA Try.prog n0 36 none F29.c4 := by kernel_rfl
theorem F29.e4 {n0 : Nat} {l6 : Value} {ds : List Nat} {h : H} {K : KP} : F29.p4 n0 [(6, l6)] ds h K = F29.t4 n0 l6 ds h K :=
  wchain (F29.s4) (F29.g4 l6)
theorem F29.b : Try.f29.body = some F29.c0.erase := by kernel_rfl
theorem F29.b2 : (Try.f29.name == "runtime.NumGoroutine") = false := by kernel_rfl
theorem F29.b3 : Try.f29.ntmps = 36 := by kernel_rfl
theorem F29.b4 : Try.f29.results.toList = [.tmp 4, .tmp 5] := by kernel_rfl
theorem F29.enter {n0 : Nat} {x0 x1 : Value} {h : H} {Q : Value → H → Prop} (w : F29.p0 n0 [(0, x0), (1, x1)] [] h (KFin Try.prog [.tmp 4, .tmp 5] Q)) : Cn Try.prog n0 (.func 29) [x0, x1] h Q :=
  @fn_enter Try.prog n0 mixed 29 Try.f29 F29.c0 [x0, x1] h Q Try.func29 F29.b F29.k0 F29.b2 36 F29.b3 [.tmp 4, .tmp 5] F29.b4 (by simp) [(0, x0), (1, x1)] rfl (wback F29.d0 w)

/-! roster.ber.Text -/
noncomputable def F30.ac : AC := (ann (bodyOf Try.f30) [[0, 3], [6, 7], [4, 5]]).1
noncomputable def F30.c0 : AC := F30.ac
noncomputable def F30.p0 (n0 : Nat) : WP := wA Try.prog n0 17 none F30.c0
noncomputable def F30.t0 (n0 : Nat) (b0 t1 : Value) (ds : List Nat) (h : H) (K : KP) : Prop :=
  Nw (enc 0 26) (clL t1) h fun t3 h1 =>
  Bnd (aLoad Try.prog 26 t3 h1) fun t10 =>
  Cn Try.prog n0 (.func 45) [b0, t10] h1 fun t11 h2 =>
  Bnd (tupAt t11 0) fun t12 =>
  Bnd (tupAt t11 1) fun t13 =>
  Bnd2 (cvt Try.prog 22 9 t12 h2) fun t15 h3 =>
  K .ret [(4, t15), (5, t13)] ds h3
theorem F30.g0 {n0 : Nat} (b0 t1 : Value) {ds : List Nat} {h : H} {K : KP} : wA Try.prog n0 17 none F30.c0 [(0, b0), (1, t1)] ds h K = F30.t0 n0 b0 t1 ds h K := by kernel_rfl
theorem F30.s0 {n0 : Nat} : F30.p0 n0 = wA Try.prog n0 17 none F30.c0 := by kernel_rfl
theorem F30.e0 {n0 : Nat} {b0 t1 : Value} {ds : List Nat} {h : H} {K : KP} : F30.p0 n0 [(0, b0), (1, t1)] ds h K = F30.t0 n0 b0 t1 ds h K :=
  wchain (F30.s0) (F30.g0 b0 t1)
theorem F30.k0 : F30.c0.ok = true := by kernel_rfl
theorem F30.d0 {n0 : Nat} : F30.p0 n0 = wA Try.prog n0 17 none F30.c0 := by kernel_rfl
theorem F30.m0 (n0 : Nat) : MonoW (F30.p0 n0) := @mono_c Try.prog n0 17 none F30.c0 (F30.p0 n0) (F30.d0) F30.k0
theorem F30.b : Try.f30.body = some F30.c0.erase := by kernel_rfl
theorem F30.b2 : (Try.f30.name == "runtime.NumGoroutine") = false := by kernel_rfl
theorem F30.b3 : Try.f30.ntmps = 17 := by kernel_rfl
theorem F30.b4 : Try.f30.results.toList = [.tmp 4, .tmp 5] := by kernel_rfl
theorem F30.enter {n0 : Nat} {x0 x1 : Value} {h : H} {Q : Value → H → Prop} (w : F30.p0 n0 [(0, x0), (1, x1)] [] h (KFin Try.prog [.tmp 4, .tmp 5] Q)) : Cn Try.prog n0 (.func 30) [x0, x1] h Q :=
  @fn_enter Try.prog n0 mixed 30 Try.f30 F30.c0 [x0, x1] h Q Try.func30 F30.b F30.k0 F30.b2 17 F30.b3 [.tmp 4, .tmp 5] F30.b4 (by simp) [(0, x0), (1, x1)] rfl (wback F30.d0 w)

/-! roster.rosterref02.Text -/
noncomputable def F31.ac : AC := (ann (bodyOf Try.f31) [[0, 3], [6, 7], [6], [6, 7, 15], [6, 7], [4, 5], [4, 5]]).1
noncomputable def F31.c0 : AC := F31.ac
noncomputable def F31.c1 : AC := F31.ac.snd.snd.fst.snd.fst
noncomputable def F31.c2 : AC := F31.ac.snd.snd.snd
noncomputable def F31.p0 (n0 : Nat) : WP := wA Try.prog n0 19 none F31.c0
noncomputable def F31.p1 (n0 : Nat) : WP := wA Try.prog n0 19 none F31.c1
noncomputable def F31.p2 (n0 : Nat) : WP := wA Try.prog n0 19 none F31.c2
noncomputable def F31.t0 (n0 : Nat) (B1 : WP) (B2 : WP) (b0 t1 : Value) (ds : List Nat) (h : H) (K : KP) : Prop :=
  Nw (enc 0 26) (clL t1) h fun t3 h1 =>
  Bnd (aLoad Try.prog 26 t3 h1) fun t10 =>
  Cn Try.prog n0 (.func 52) [b0, t10] h1 fun t11 h2 =>
  Bnd (tupAt t11 0) fun t12 =>
  Bnd (tupAt t11 1) fun t13 =>
  Bnd (aBin Try.prog true .neq 27 t13 (.int .i64 0)) fun t15 =>
  Cnd t15
   (B1 [(6, t12), (7, t13)] ds h2 (KSeq [6] B2 K))
   (B2 [(6, t12)] ds h2 K)
theorem F31.g0 {n0 : Nat} (B1 : WP) (B2 : WP) (b0 t1 : Value) {ds : List Nat} {h : H} {K : KP} : wA Try.prog n0 19 none (.seq [0, 3] F31.c0.fst (.seq [6, 7] F31.c0.snd.fst (.seq [6] (.seq [6, 7, 15] F31.c0.snd.snd.fst.fst (.cond [6, 7] (.tmp 15) (.sub B1) F31.c0.snd.snd.fst.snd.snd)) (.sub B2)))) [(0, b0), (1, t1)] ds h K = F31.t0 n0 B1 B2 b0 t1 ds h K := by kernel_rfl
theorem F31.s0 {n0 : Nat} : F31.p0 n0 = wA Try.prog n0 19 none (.seq [0, 3] F31.c0.fst (.seq [6, 7] F31.c0.snd.fst (.seq [6] (.seq [6, 7, 15] F31.c0.snd.snd.fst.fst (.cond [6, 7] (.tmp 15) (.sub (F31.p1 n0)) F31.c0.snd.snd.fst.snd.snd)) (.sub (F31.p2 n0))))) := by kernel_rfl
theorem F31.e0 {n0 : Nat} {b0 t1 : Value} {ds : List Nat} {h : H} {K : KP} : F31.p0 n0 [(0, b0), (1, t1)] ds h K = F31.t0 n0 (F31.p1 n0) (F31.p2 n0) b0 t1 ds h K :=
  wchain (F31.s0) (F31.g0 (F31.p1 n0) (F31.p2 n0) b0 t1)
theorem F31.k0 : F31.c0.ok = true := by kernel_rfl
theorem F31.d0 {n0 : Nat} : F31.p0 n0 = wA Try.prog n0 19 none F31.c0 := by kernel_rfl
theorem F31.m0 (n0 : Nat) : MonoW (F31.p0 n0) := @mono_c Try.prog n0 19 none F31.c0 (F31.p0 n0) (F31.d0) F31.k0
noncomputable def F31.t1 (n0 : Nat) (l6 e7 : Value) (ds : List Nat) (h : H) (K : KP) : Prop :=
  K .ret [(4, (.string ⟨#[]⟩)), (5, e7)] ds h
theorem F31.g1 {n0 : Nat} (l6 e7 : Value) {ds : List Nat} {h : H} {K : KP} : wA Try.prog n0 19 none F31.c1 [(6, l6), (7, e7)] ds h K = F31.t1 n0 l6 e7 ds h K := by kernel_rfl
theorem F31.s1 {n0 : Nat} : F31.p1 n0 = wA Try.prog n0 19 none F31.c1 := by kernel_rfl
theorem F31.e1 {n0 : Nat} {l6 e7 : Value} {ds : List Nat} {h : H} {K : KP} : F31.p1 n0 [(6, l6), (7, e7)] ds h K = F31.t1 n0 l6 e7 ds h K :=
  wchain (F31.s1) (F31.g1 l6 e7)
noncomputable def F31.t2 (n0 : Nat) (l6 : Value) (ds : List Nat) (h : H) (K : KP) : Prop :=
  Bnd2 (cvt Try.prog 22 9 l6 h) fun t18 h1 =>
  K .ret [(4, t18), (5, (.int .i64 0))] ds h1
theorem F31.g2 {n0 : Nat} (l6 : Value) {ds : List Nat} {h : H} {K : KP} : wA Try.prog n0 19 none F31.c2 [(6, l6)] ds h K = F31.t2 n0 l6 ds h K := by kernel_rfl
theorem F31.s2 {n0 : Nat} : F31.p2 n0 = wA Try.prog n0 19 none F31.c2 := by kernel_rfl
theorem F31.e2 {n0 : Nat} {l6 : Value} {ds : List Nat} {h : H} {K : KP} : F31.p2 n0 [(6, l6)] ds h K = F31.t2 n0 l6 ds h K :=
  wchain (F31.s2) (F31.g2 l6)
theorem F31.b : Try.f31.body = some F31.c0.erase := by kernel_rfl
theorem F31.b2 : (Try.f31.name == "runtime.NumGoroutine") = false := by kernel_rfl
theorem F31.b3 : Try.f31.ntmps = 19 := by kernel_rfl
theorem F31.b4 : Try.f31.results.toList = [.tmp 4, .tmp 5] := by kernel_rfl
theorem F31.enter {n0 : Nat} {x0 x1 : Value} {h : H} {Q : Value → H → Prop} (w : F31.p0 n0 [(0, x0), (1, x1)] [] h (KFin Try.prog [.tmp 4, .tmp 5] Q)) : Cn Try.prog n0 (.func 31) [x0, x1] h Q :=
  @fn_enter Try.prog n0 mixed 31 Try.f31 F31.c0 [x0, x1] h Q Try.func31 F31.b F31.k0 F31.b2 19 F31.b3 [.tmp 4, .tmp 5] F31.b4 (by simp) [(0, x0), (1, x1)] rfl (wback F31.d0 w)

/-! roster.ber.body -/
noncomputable def F45.ac : AC := (ann (bodyOf Try.f45) [[0, 3], [0, 3], [0, 3], [0, 3, 6], [0, 3], [4, 5], [0, 3, 24], [0, 3], [4, 5], [4, 5]]).1
noncomputable def F45.c0 : AC := F45.ac
noncomputable def F45.c1 : AC := F45.ac.snd.fst.fst.snd.fst
noncomputable def F45.c2 : AC := F45.ac.snd.fst.fst.snd.snd
noncomputable def F45.c3 : AC := F45.ac.snd.fst.fst.snd.snd.snd.fst
noncomputable def F45.c4 : AC := F45.ac.snd.snd
noncomputable def F45.p0 (n0 : Nat) : WP := wA Try.prog n0 33 none F45.c0
noncomputable def F45.p1 (n0 : Nat) : WP := wA Try.prog n0 33 none F45.c1
noncomputable def F45.p2 (n0 : Nat) : WP := wA Try.prog n0 33 none F45.c2
noncomputable def F45.p3 (n0 : Nat) : WP := wA Try.prog n0 33 none F45.c3
noncomputable def F45.p4 (n0 : Nat) : WP := wA Try.prog n0 33 none F45.c4
noncomputable def F45.t0 (n0 : Nat) (B1 : WP) (B2 : WP) (B4 : WP) (b0 t1 : Value) (ds : List Nat) (h : H) (K : KP) : Prop :=
  Nw (enc 0 26) (clL t1) h fun t3 h1 =>
  Bnd (aFieldAddr Try.prog 26 t3 3) fun t7 =>
  Bnd (aLoad Try.prog 3 t7 h1) fun t8 =>
  Bnd (aBin Try.prog true .lss 3 t8 (.int .i64 0)) fun t9 =>
  Gd t9
   (B1 [(0, b0), (3, t3)] ds h1 (KBlk [0, 3] 0 (KSeq [0, 3] B4 K)))
   (Bnd (aFieldAddr Try.prog 26 t3 3) fun t11 =>
  Bnd (aLoad Try.prog 3 t11 h1) fun t12 =>
  Bnd (aFieldAddr Try.prog 26 t3 4) fun t13 =>
  Bnd (aLoad Try.prog 3 t13 h1) fun t14 =>
  Bnd (aBin Try.prog false .gtr 3 t12 t14) fun t15 =>
  Gd t15
   (B1 [(0, b0), (3, t3)] ds h1 (KBlk [0, 3] 0 (KSeq [0, 3] B4 K)))
   (Bnd (aFieldAddr Try.prog 26 t3 4) fun t18 =>
  Bnd (aLoad Try.prog 3 t18 h1) fun t19 =>
  Bnd2 (aBuiltin Try.prog .len #[22] [b0] h1) fun t21 h2 =>
  Bnd (aBin Try.prog false .gtr 3 t19 t21) fun t22 =>
  Cnd t22
   (B1 [(0, b0), (3, t3)] ds h2 (KBlk [0, 3] 0 (KSeq [0, 3] B4 K)))
   (B2 [(0, b0), (3, t3)] ds h2 (KBlk [0, 3] 0 (KSeq [0, 3] B4 K)))))
theorem F45.g0 {n0 : Nat} (B1 : WP) (B2 : WP) (B4 : WP) (b0 t1 : Value) {ds : List Nat} {h : H} {K : KP} : wA Try.prog n0 33 none (.seq [0, 3] F45.c0.fst (.seq [0, 3] (.block [0, 3] 0 (.seq [0, 3, 6] F45.c0.snd.fst.fst.fst (.cond [0, 3] (.tmp 6) (.sub B1) (.sub B2)))) (.sub B4))) [(0, b0), (1, t1)] ds h K = F45.t0 n0 B1 B2 B4 b0 t1 ds h K := by kernel_rfl
theorem F45.s0 {n0 : Nat} : F45.p0 n0 = wA Try.prog n0 33 none (.seq [0, 3] F45.c0.fst (.seq [0, 3] (.block [0, 3] 0 (.seq [0, 3, 6] F45.c0.snd.fst.fst.fst (.cond [0, 3] (.tmp 6) (.sub (F45.p1 n0)) (.sub (F45.p2 n0))))) (.sub (F45.p4 n0)))) := by kernel_rfl
theorem F45.e0 {n0 : Nat} {b0 t1 : Value} {ds : List Nat} {h : H} {K : KP} : F45.p0 n0 [(0, b0), (1, t1)] ds h K = F45.t0 n0 (F45.p1 n0) (F45.p2 n0) (F45.p4 n0) b0 t1 ds h K :=
  wchain (F45.s0) (F45.g0 (F45.p1 n0) (F45.p2 n0) (F45.p4 n0) b0 t1)
theorem F45.k0 : F45.c0.ok = true := by kernel_rfl
theorem F45.d0 {n0 : Nat} : F45.p0 n0 = wA Try.prog n0 33 none F45.c0 := by kernel_rfl
theorem F45.m0 (n0 : Nat) : MonoW (F45.p0 n0) := @mono_c Try.prog n0 33 none F45.c0 (F45.p0 n0) (F45.d0) F45.k0
noncomputable def F45.t1 (n0 : Nat) (b0 t3 : Value) (ds : List Nat) (h : H) (K : KP) : Prop :=
  K .ret [(4, (.slice none 0 0)), (5, (.int .i64 2))] ds h
theorem F45.g1 {n0 : Nat} (b0 t3 : Value) {ds : List Nat} {h : H} {K : KP} : wA Try.prog n0 33 none F45.c1 [(0, b0), (3, t3)] ds h K = F45.t1 n0 b0 t3 ds h K := by kernel_rfl
theorem F45.s1 {n0 : Nat} : F45.p1 n0 = wA Try.prog n0 33 none F45.c1 := by kernel_rfl
theorem F45.e1 {n0 : Nat} {b0 t3 : Value} {ds : List Nat} {h : H} {K : KP} : F45.p1 n0 [(0, b0), (3, t3)] ds h K = F45.t1 n0 b0 t3 ds h K :=
  wchain (F45.s1) (F45.g1 b0 t3)
noncomputable def F45.t2 (n0 : Nat) (B3 : WP) (b0 t3 : Value) (ds : List Nat) (h : H) (K : KP) : Prop :=
  Bnd (aFieldAddr Try.prog 26 t3 1) fun t25 =>
  Bnd (aLoad Try.prog 4 t25 h) fun t26 =>
  Cnd t26
   (B3 [(0, b0), (3, t3)] ds h K)
   (K .normal [(0, b0), (3, t3)] ds h)
theorem F45.g2 {n0 : Nat} (B3 : WP) (b0 t3 : Value) {ds : List Nat} {h : H} {K : KP} : wA Try.prog n0 33 none (.seq [0, 3, 24] F45.c2.fst (.cond [0, 3] (.tmp 24) (.sub B3) F45.c2.snd.snd)) [(0, b0), (3, t3)] ds h K = F45.t2 n0 B3 b0 t3 ds h K := by kernel_rfl
theorem F45.s2 {n0 : Nat} : F45.p2 n0 = wA Try.prog n0 33 none (.seq [0, 3, 24] F45.c2.fst (.cond [0, 3] (.tmp 24) (.sub (F45.p3 n0)) F45.c2.snd.snd)) := by kernel_rfl
theorem F45.e2 {n0 : Nat} {b0 t3 : Value} {ds : List Nat} {h : H} {K : KP} : F45.p2 n0 [(0, b0), (3, t3)] ds h K = F45.t2 n0 (F45.p3 n0) b0 t3 ds h K :=
  wchain (F45.s2) (F45.g2 (F45.p3 n0) b0 t3)
noncomputable def F45.t3 (n0 : Nat) (b0 t3 : Value) (ds : List Nat) (h : H) (K : KP) : Prop :=
  K .ret [(4, (.slice none 0 0)), (5, (.int .i64 20))] ds h
theorem F45.g3 {n0 : Nat} (b0 t3 : Value) {ds : List Nat} {h : H} {K : KP} : wA Try.prog n0 33 none F45.c3 [(0, b0), (3, t3)] ds h K = F45.t3 n0 b0 t3 ds h K := by kernel_rfl
theorem F45.s3 {n0 : Nat} : F45.p3 n0 = wA Try.prog n0 33 none F45.c3 := by kernel_rfl
theorem F45.e3 {n0 : Nat} {b0 t3 : Value} {ds : List Nat} {h : H} {K : KP} : F45.p3 n0 [(0, b0), (3, t3)] ds h K = F45.t3 n0 b0 t3 ds h K :=
  wchain (F45.s3) (F45.g3 b0 t3)
noncomputable def F45.t4 (n0 : Nat) (b0 t3 : Value) (ds : List Nat) (h : H) (K : KP) : Prop :=
  Bnd (aFieldAddr Try.prog 26 t3 3) fun t28 =>
  Bnd (aLoad Try.prog 3 t28 h) fun t29 =>
  Bnd (aFieldAddr Try.prog 26 t3 4) fun t30 =>
  Bnd (aLoad Try.prog 3 t30 h) fun t31 =>
  Bnd (aSlice Try.prog 22 b0 (some t29) (some t31) none h) fun t32 =>
  K .ret [(4, t32), (5, (.int .i64 0))] ds h
theorem F45.g4 {n0 : Nat} (b0 t3 : Value) {ds : List Nat} {h : H} {K : KP} : wA Try.prog n0 33 none F45.c4 [(0, b0), (3, t3)] ds h K = F45.t4 n0 b0 t3 ds h K := by kernel_rfl
theorem F45.s4 {n0 : Nat} : F45.p4 n0 = wA Try.prog n0 33 none F45.c4 := by kernel_rfl
theorem F45.e4 {n0 : Nat} {b0 t3 : Value} {ds : List Nat} {h : H} {K : KP} : F45.p4 n0 [(0, b0), (3, t3)] ds h K = F45.t4 n0 b0 t3 ds h K :=
  wchain (F45.s4) (F45.g4 b0 t3)
theorem F45.b : Try.f45.body = some F45.c0.erase := by kernel_rfl
theorem F45.b2 : (Try.f45.name == "runtime.NumGoroutine") = false := by kernel_rfl
theorem F45.b3 : Try.f45.ntmps = 33 := by kernel_rfl
theorem F45.b4 : Try.f45.results.toList = [.tmp 4, .tmp 5] := by kernel_rfl
theorem F45.enter {n0 : Nat} {x0 x1 : Value} {h : H} {Q : Value → H → Prop} (w : F45.p0 n0 [(0, x0), (1, x1)] [] h (KFin Try.prog [.tmp 4, .tmp 5] Q)) : Cn Try.prog n0 (.func 45) [x0, x1] h Q :=
  @fn_enter Try.prog n0 mixed 45 Try.f45 F45.c0 [x0, x1] h Q Try.func45 F45.b F45.k0 F45.b2 33 F45.b3 [.tmp 4, .tmp 5] F45.b4 (by simp) [(0, x0), (1, x1)] rfl (wback F45.d0 w)

/-! roster.rosterref02.body -/
noncomputable def F52.ac : AC := (ann (bodyOf Try.f52) [[0, 3], [0, 3], [0, 3, 22], [0, 3], [4, 5], [0, 3], [0, 3, 24], [0, 3], [4, 5], [4, 5]]).1
noncomputable def F52.c0 : AC := F52.ac
noncomputable def F52.c1 : AC := F52.ac.snd.fst.snd.fst
noncomputable def F52.c2 : AC := F52.ac.snd.snd
noncomputable def F52.c3 : AC := F52.ac.snd.snd.fst.snd.fst
noncomputable def F52.c4 : AC := F52.ac.snd.snd.snd
noncomputable def F52.p0 (n0 : Nat) : WP := wA Try.prog n0 31 none F52.c0
noncomputable def F52.p1 (n0 : Nat) : WP := wA Try.prog n0 31 none F52.c1
noncomputable def F52.p2 (n0 : Nat) : WP := wA Try.prog n0 31 none F52.c2
noncomputable def F52.p3 (n0 : Nat) : WP := wA Try.prog n0 31 none F52.c3
noncomputable def F52.p4 (n0 : Nat) : WP := wA Try.prog n0 31 none F52.c4
noncomputable def F52.t0 (n0 : Nat) (B1 : WP) (B2 : WP) (b0 t1 : Value) (ds : List Nat) (h : H) (K : KP) : Prop :=
  Nw (enc 0 26) (clL t1) h fun t3 h1 =>
  Bnd (aFieldAddr Try.prog 26 t3 3) fun t6 =>
  Bnd (aLoad Try.prog 3 t6 h1) fun t7 =>
  Bnd (aBin Try.prog true .lss 3 t7 (.int .i64 0)) fun t8 =>
  Gd t8
   (B1 [(0, b0), (3, t3)] ds h1 (KSeq [0, 3] B2 K))
   (Bnd (aFieldAddr Try.prog 26 t3 4) fun t10 =>
  Bnd (aLoad Try.prog 3 t10 h1) fun t11 =>
  Bnd (aFieldAddr Try.prog 26 t3 3) fun t12 =>
  Bnd (aLoad Try.prog 3 t12 h1) fun t13 =>
  Bnd (aBin Try.prog false .lss 3 t11 t13) fun t14 =>
  Gd t14
   (B1 [(0, b0), (3, t3)] ds h1 (KSeq [0, 3] B2 K))
   (Bnd (aFieldAddr Try.prog 26 t3 4) fun t17 =>
  Bnd (aLoad Try.prog 3 t17 h1) fun t18 =>
  Bnd2 (aBuiltin Try.prog .len #[22] [b0] h1) fun t20 h2 =>
  Bnd (aBin Try.prog false .gtr 3 t18 t20) fun t21 =>
  Cnd t21
   (B1 [(0, b0), (3, t3)] ds h2 (KSeq [0, 3] B2 K))
   (B2 [(0, b0), (3, t3)] ds h2 K)))
theorem F52.g0 {n0 : Nat} (B1 : WP) (B2 : WP) (b0 t1 : Value) {ds : List Nat} {h : H} {K : KP} : wA Try.prog n0 31 none (.seq [0, 3] F52.c0.fst (.seq [0, 3] (.seq [0, 3, 22] F52.c0.snd.fst.fst (.cond [0, 3] (.tmp 22) (.sub B1) F52.c0.snd.fst.snd.snd)) (.sub B2))) [(0, b0), (1, t1)] ds h K = F52.t0 n0 B1 B2 b0 t1 ds h K := by kernel_rfl
theorem F52.s0 {n0 : Nat} : F52.p0 n0 = wA Try.prog n0 31 none (.seq [0, 3] F52.c0.fst (.seq [0, 3] (.seq [0, 3, 22] F52.c0.snd.fst.fst (.cond [0, 3] (.tmp 22) (.sub (F52.p1 n0)) F52.c0.snd.fst.snd.snd)) (.sub (F52.p2 n0)))) := by kernel_rfl
theorem F52.e0 {n0 : Nat} {b0 t1 : Value} {ds : List Nat} {h : H} {K : KP} : F52.p0 n0 [(0, b0), (1, t1)] ds h K = F52.t0 n0 (F52.p1 n0) (F52.p2 n0) b0 t1 ds h K :=
  wchain (F52.s0) (F52.g0 (F52.p1 n0) (F52.p2 n0) b0 t1)
theorem F52.k0 : F52.c0.ok = true := by kernel_rfl
theorem F52.d0 {n0 : Nat} : F52.p0 n0 = wA Try.prog n0 31 none F52.c0 := by kernel_rfl
theorem F52.m0 (n0 : Nat) : MonoW (F52.p0 n0) := @mono_c Try.prog n0 31 none F52.c0 (F52.p0 n0) (F52.d0) F52.k0
noncomputable def F52.t1 (n0 : Nat) (b0 t3 : Value) (ds : List Nat) (h : H) (K : KP) : Prop :=
  K .ret [(4, (.slice none 0 0)), (5, (.int .i64 2))] ds h
theorem F52.g1 {n0 : Nat} (b0 t3 : Value) {ds : List Nat} {h : H} {K : KP} : wA Try.prog n0 31 none F52.c1 [(0, b0), (3, t3)] ds h K = F52.t1 n0 b0 t3 ds h K := by kernel_rfl
theorem F52.s1 {n0 : Nat} : F52.p1 n0 = wA Try.prog n0 31 none F52.c1 := by kernel_rfl
theorem F52.e1 {n0 : Nat} {b0 t3 : Value} {ds : List Nat} {h : H} {K : KP} : F52.p1 n0 [(0, b0), (3, t3)] ds h K = F52.t1 n0 b0 t3 ds h K :=
  wchain (F52.s1) (F52.g1 b0 t3)
noncomputable def F52.t2 (n0 : Nat) (B3 : WP) (B4 : WP) (b0 t3 : Value) (ds : List Nat) (h : H) (K : KP) : Prop :=
  Bnd (aFieldAddr Try.prog 26 t3 1) fun t23 =>
  Bnd (aLoad Try.prog 4 t23 h) fun t24 =>
  Cnd t24
   (B3 [(0, b0), (3, t3)] ds h (KSeq [0, 3] B4 K))
   (B4 [(0, b0), (3, t3)] ds h K)
theorem F52.g2 {n0 : Nat} (B3 : WP) (B4 : WP) (b0 t3 : Value) {ds : List Nat} {h : H} {K : KP} : wA Try.prog n0 31 none (.seq [0, 3] (.seq [0, 3, 24] F52.c2.fst.fst (.cond [0, 3] (.tmp 24) (.sub B3) F52.c2.fst.snd.snd)) (.sub B4)) [(0, b0), (3, t3)] ds h K = F52.t2 n0 B3 B4 b0 t3 ds h K := by kernel_rfl
theorem F52.s2 {n0 : Nat} : F52.p2 n0 = wA Try.prog n0 31 none (.seq [0, 3] (.seq [0, 3, 24] F52.c2.fst.fst (.cond [0, 3] (.tmp 24) (.sub (F52.p3 n0)) F52.c2.fst.snd.snd)) (.sub (F52.p4 n0))) := by kernel_rfl
theorem F52.e2 {n0 : Nat} {b0 t3 : Value} {ds : List Nat} {h : H} {K : KP} : F52.p2 n0 [(0, b0), (3, t3)] ds h K = F52.t2 n0 (F52.p3 n0) (F52.p4 n0) b0 t3 ds h K :=
  wchain (F52.s2) (F52.g2 (F52.p3 n0) (F52.p4 n0) b0 t3)
noncomputable def F52.t3 (n0 : Nat) (b0 t3 : Value) (ds : List Nat) (h : H) (K : KP) : Prop :=
  K .ret [(4, (.slice none 0 0)), (5, (.int .i64 20))] ds h
theorem F52.g3 {n0 : Nat} (b0 t3 : Value) {ds : List Nat} {h : H} {K : KP} : wA Try.prog n0 31 none F52.c3 [(0, b0), (3, t3)] ds h K = F52.t3 n0 b0 t3 ds h K := by kernel_rfl
theorem F52.s3 {n0 : Nat} : F52.p3 n0 = wA Try.prog n0 31 none F52.c3 := by kernel_rfl
theorem F52.e3 {n0 : Nat} {b0 t3 : Value} {ds : List Nat} {h : H} {K : KP} : F52.p3 n0 [(0, b0), (3, t3)] ds h K = F52.t3 n0 b0 t3 ds h K :=
  wchain (F52.s3) (F52.g3 b0 t3)
noncomputable def F52.t4 (n0 : Nat) (b0 t3 : Value) (ds : List Nat) (h : H) (K : KP) : Prop :=
  Bnd (aFieldAddr Try.prog 26 t3 3) fun t26 =>
  Bnd (aLoad Try.prog 3 t26 h) fun t27 =>
  Bnd (aFieldAddr Try.prog 26 t3 4) fun t28 =>
  Bnd (aLoad Try.prog 3 t28 h) fun t29 =>
  Bnd (aSlice Try.prog 22 b0 (some t27) (some t29) none h) fun t30 =>
  K .ret [(4, t30), (5, (.int .i64 0))] ds h
theorem F52.g4 {n0 : Nat} (b0 t3 : Value) {ds : List Nat} {h : H} {K : KP} : wA Try.prog n0 31 none F52.c4 [(0, b0), (3, t3)] ds h K = F52.t4 n0 b0 t3 ds h K := by kernel_rfl
theorem F52.s4 {n0 : Nat} : F52.p4 n0 = wA Try.prog n0 31 none F52.c4 := by kernel_rfl
theorem F52.e4 {n0 : Nat} {b0 t3 : Value} {ds : List Nat} {h : H} {K : KP} : F52.p4 n0 [(0, b0), (3, t3)] ds h K = F52.t4 n0 b0 t3 ds h K :=
  wchain (F52.s4) (F52.g4 b0 t3)
theorem F52.b : Try.f52.body = some F52.c0.erase := by kernel_rfl
theorem F52.b2 : (Try.f52.name == "runtime.NumGoroutine") = false := by kernel_rfl
theorem F52.b3 : Try.f52.ntmps = 31 := by kernel_rfl
theorem F52.b4 : Try.f52.results.toList = [.tmp 4, .tmp 5] := by kernel_rfl
theorem F52.enter {n0 : Nat} {x0 x1 : Value} {h : H} {Q : Value → H → Prop} (w : F52.p0 n0 [(0, x0), (1, x1)] [] h (KFin Try.prog [.tmp 4, .tmp 5] Q)) : Cn Try.prog n0 (.func 52) [x0, x1] h Q :=
  @fn_enter Try.prog n0 mixed 52 Try.f52 F52.c0 [x0, x1] h Q Try.func52 F52.b F52.k0 F52.b2 31 F52.b3 [.tmp 4, .tmp 5] F52.b4 (by simp) [(0, x0), (1, x1)] rfl (wback F52.d0 w)

/-! roster.rosterlaw02.BerBodies -/
noncomputable def F7.ac : AC := (ann (bodyOf Try.f7) [[0, 3], [0, 3, 5], [0, 3, 5, 6, 7], [0, 3, 5, 6, 7, 8, 9], [0, 3, 5, 6, 7, 8, 9, 10, 11], [0, 3, 5, 6, 7, 8, 9, 10, 11, 12, 13], [0, 3, 5, 6, 7, 8, 9, 10, 11, 12, 13, 14, 15], [0, 5, 6, 7, 8, 9, 10, 11, 12, 13, 14, 15, 16, 17], [5, 14, 16], [5, 14, 16, 90], [5, 14, 16], [4], [14, 16], [5, 14, 16, 92, 93], [14, 16], [5, 14, 16, 92, 93], [5, 14, 16, 92, 93, 94], [5, 14, 16, 92, 93], [5, 14, 16, 92, 93], [5, 14, 16, 92, 93], [5, 14, 16, 92, 93], [5, 14, 16, 18, 92, 93], [4]]).1
noncomputable def F7.c0 : AC := F7.ac
noncomputable def F7.c1 : AC := F7.ac.snd.snd.snd.snd.snd.snd.snd.snd.fst.snd.fst
noncomputable def F7.c2 : AC := F7.ac.snd.snd.snd.snd.snd.snd.snd.snd.snd
noncomputable def F7.c3 : AC := F7.ac.snd.snd.snd.snd.snd.snd.snd.snd.snd.fst.snd.fst.fst
noncomputable def F7.c4 : AC := F7.ac.snd.snd.snd.snd.snd.snd.snd.snd.snd.fst.snd.fst.fst.snd.snd
noncomputable def F7.c5 : AC := F7.ac.snd.snd.snd.snd.snd.snd.snd.snd.snd.fst.snd.fst.fst.snd.snd.snd
noncomputable def F7.c6 : AC := F7.ac.snd.snd.snd.snd.snd.snd.snd.snd.snd.snd
noncomputable def F7.p0 (n0 : Nat) : WP := wA Try.prog n0 106 none F7.c0
noncomputable def F7.p1 (n0 : Nat) : WP := wA Try.prog n0 106 none F7.c1
noncomputable def F7.p2 (n0 : Nat) : WP := wA Try.prog n0 106 none F7.c2
noncomputable def F7.p3 (n0 : Nat) : WP := wA Try.prog n0 106 none F7.c3
noncomputable def F7.p4 (n0 : Nat) : WP := wA Try.prog n0 106 none F7.c4
noncomputable def F7.p5 (n0 : Nat) : WP := wA Try.prog n0 106 none F7.c5
noncomputable def F7.p6 (n0 : Nat) : WP := wA Try.prog n0 106 none F7.c6
noncomputable def F7.t0 (n0 : Nat) (B1 : WP) (B2 : WP) (b0 t1 : Value) (ds : List Nat) (h : H) (K : KP) : Prop :=
  Nw (enc 0 26) (clL t1) h fun t3 h1 =>
  Cn Try.prog n0 (.func 12) [b0] h1 fun t20 h2 =>
  Bnd (aLoad Try.prog 26 t3 h2) fun t23 =>
  Cn Try.prog n0 (.func 20) [t20, t23] h2 fun t24 h3 =>
  Bnd (tupAt t24 0) fun t25 =>
  Bnd (tupAt t24 1) fun t26 =>
  Bnd (aLoad Try.prog 26 t3 h3) fun t29 =>
  Cn Try.prog n0 (.func 27) [b0, t29] h3 fun t30 h4 =>
  Bnd (tupAt t30 0) fun t31 =>
  Bnd (tupAt t30 1) fun t32 =>
  Bnd (aLoad Try.prog 26 t3 h4) fun t35 =>
  Cn Try.prog n0 (.func 28) [t20, t35] h4 fun t36 h5 =>
  Bnd (tupAt t36 0) fun t37 =>
  Bnd (tupAt t36 1) fun t38 =>
  Bnd (aLoad Try.prog 26 t3 h5) fun t41 =>
  Cn Try.prog n0 (.func 29) [b0, t41] h5 fun t42 h6 =>
  Bnd (tupAt t42 0) fun t43 =>
  Bnd (tupAt t42 1) fun t44 =>
  Bnd (aLoad Try.prog 26 t3 h6) fun t47 =>
  Cn Try.prog n0 (.func 30) [t20, t47] h6 fun t48 h7 =>
  Bnd (tupAt t48 0) fun t49 =>
  Bnd (tupAt t48 1) fun t50 =>
  Bnd (aLoad Try.prog 26 t3 h7) fun t53 =>
  Cn Try.prog n0 (.func 31) [b0, t53] h7 fun t54 h8 =>
  Bnd (tupAt t54 0) fun t55 =>
  Bnd (tupAt t54 1) fun t56 =>
  Bnd (aBin Try.prog false .neq 2 t25 t31) fun t59 =>
  Gd t59
   (B1 [(5, t20), (14, t49), (16, t55)] ds h8 (KSeq [5, 14, 16] B2 K))
   (Bnd (aBin Try.prog false .neq 27 t26 t32) fun t63 =>
  Gd t63
   (B1 [(5, t20), (14, t49), (16, t55)] ds h8 (KSeq [5, 14, 16] B2 K))
   (Bnd (aBin Try.prog false .neq 4 t37 t43) fun t68 =>
  Gd t68
   (B1 [(5, t20), (14, t49), (16, t55)] ds h8 (KSeq [5, 14, 16] B2 K))
   (Bnd (aBin Try.prog false .neq 27 t38 t44) fun t73 =>
  Gd t73
   (B1 [(5, t20), (14, t49), (16, t55)] ds h8 (KSeq [5, 14, 16] B2 K))
   (Bnd (aBin Try.prog false .neq 9 t49 t55) fun t78 =>
  Gd t78
   (B1 [(5, t20), (14, t49), (16, t55)] ds h8 (KSeq [5, 14, 16] B2 K))
   (Bnd (aBin Try.prog false .neq 27 t50 t56) fun t83 =>
  Gd t83
   (B1 [(5, t20), (14, t49), (16, t55)] ds h8 (KSeq [5, 14, 16] B2 K))
   (Cn Try.prog n0 (.func 15) [t20, b0] h8 fun t88 h9 =>
  Bnd (aUn .not t88) fun t89 =>
  Cnd t89
   (B1 [(5, t20), (14, t49), (16, t55)] ds h9 (KSeq [5, 14, 16] B2 K))
   (B2 [(5, t20), (14, t49), (16, t55)] ds h9 K)))))))
theorem F7.g0 {n0 : Nat} (B1 : WP) (B2 : WP) (b0 t1 : Value) {ds : List Nat} {h : H} {K : KP} : wA Try.prog n0 106 none (.seq [0, 3] F7.c0.fst (.seq [0, 3, 5] F7.c0.snd.fst (.seq [0, 3, 5, 6, 7] F7.c0.snd.snd.fst (.seq [0, 3, 5, 6, 7, 8, 9] F7.c0.snd.snd.snd.fst (.seq [0, 3, 5, 6, 7, 8, 9, 10, 11] F7.c0.snd.snd.snd.snd.fst (.seq [0, 3, 5, 6, 7, 8, 9, 10, 11, 12, 13] F7.c0.snd.snd.snd.snd.snd.fst (.seq [0, 3, 5, 6, 7, 8, 9, 10, 11, 12, 13, 14, 15] F7.c0.snd.snd.snd.snd.snd.snd.fst (.seq [0, 5, 6, 7, 8, 9, 10, 11, 12, 13, 14, 15, 16, 17] F7.c0.snd.snd.snd.snd.snd.snd.snd.fst (.seq [5, 14, 16] (.seq [5, 14, 16, 90] F7.c0.snd.snd.snd.snd.snd.snd.snd.snd.fst.fst (.cond [5, 14, 16] (.tmp 90) (.sub B1) F7.c0.snd.snd.snd.snd.snd.snd.snd.snd.fst.snd.snd)) (.sub B2)))))))))) [(0, b0), (1, t1)] ds h K = F7.t0 n0 B1 B2 b0 t1 ds h K := by kernel_rfl
theorem F7.s0 {n0 : Nat} : F7.p0 n0 = wA Try.prog n0 106 none (.seq [0, 3] F7.c0.fst (.seq [0, 3, 5] F7.c0.snd.fst (.seq [0, 3, 5, 6, 7] F7.c0.snd.snd.fst (.seq [0, 3, 5, 6, 7, 8, 9] F7.c0.snd.snd.snd.fst (.seq [0, 3, 5, 6, 7, 8, 9, 10, 11] F7.c0.snd.snd.snd.snd.fst (.seq [0, 3, 5, 6, 7, 8, 9, 10, 11, 12, 13] F7.c0.snd.snd.snd.snd.snd.fst (.seq [0, 3, 5, 6, 7, 8, 9, 10, 11, 12, 13, 14, 15] F7.c0.snd.snd.snd.snd.snd.snd.fst (.seq [0, 5, 6, 7, 8, 9, 10, 11, 12, 13, 14, 15, 16, 17] F7.c0.snd.snd.snd.snd.snd.snd.snd.fst (.seq [5, 14, 16] (.seq [5, 14, 16, 90] F7.c0.snd.snd.snd.snd.snd.snd.snd.snd.fst.fst (.cond [5, 14, 16] (.tmp 90) (.sub (F7.p1 n0)) F7.c0.snd.snd.snd.snd.snd.snd.snd.snd.fst.snd.snd)) (.sub (F7.p2 n0))))))))))) := by kernel_rfl
theorem F7.e0 {n0 : Nat} {b0 t1 : Value} {ds : List Nat} {h : H} {K : KP} : F7.p0 n0 [(0, b0), (1, t1)] ds h K = F7.t0 n0 (F7.p1 n0) (F7.p2 n0) b0 t1 ds h K :=
  wchain (F7.s0) (F7.g0 (F7.p1 n0) (F7.p2 n0) b0 t1)
theorem F7.k0 : F7.c0.ok = true := by kernel_rfl
theorem F7.d0 {n0 : Nat} : F7.p0 n0 = wA Try.prog n0 106 none F7.c0 := by kernel_rfl
theorem F7.m0 (n0 : Nat) : MonoW (F7.p0 n0) := @mono_c Try.prog n0 106 none F7.c0 (F7.p0 n0) (F7.d0) F7.k0
noncomputable def F7.t1 (n0 : Nat) (l5 s14 u16 : Value) (ds : List Nat) (h : H) (K : KP) : Prop :=
  K .ret [(4, (.bool false))] ds h
theorem F7.g1 {n0 : Nat} (l5 s14 u16 : Value) {ds : List Nat} {h : H} {K : KP} : wA Try.prog n0 106 none F7.c1 [(5, l5), (14, s14), (16, u16)] ds h K = F7.t1 n0 l5 s14 u16 ds h K := by kernel_rfl
theorem F7.s1 {n0 : Nat} : F7.p1 n0 = wA Try.prog n0 106 none F7.c1 := by kernel_rfl
theorem F7.e1 {n0 : Nat} {l5 s14 u16 : Value} {ds : List Nat} {h : H} {K : KP} : F7.p1 n0 [(5, l5), (14, s14), (16, u16)] ds h K = F7.t1 n0 l5 s14 u16 ds h K :=
  wchain (F7.s1) (F7.g1 l5 s14 u16)
noncomputable def F7.t2 (n0 : Nat) (B3 : WP) (B6 : WP) (l5 s14 u16 : Value) (ds : List Nat) (h : H) (K : KP) : Prop :=
  Bnd2 (aBuiltin Try.prog .len #[22] [l5] h) fun t92 h1 =>
  Lp [5, 14, 16, 92, 93] B3 [(5, l5), (14, s14), (16, u16), (92, t92), (93, (.int .i64 0))] ds h1 (KBlk [14, 16] 0 (KSeq [14, 16] B6 K))
theorem F7.g2 {n0 : Nat} (B3 : WP) (B6 : WP) (l5 s14 u16 : Value) {ds : List Nat} {h : H} {K : KP} : wA Try.prog n0 106 none (.seq [14, 16] (.seq [5, 14, 16, 92, 93] F7.c2.fst.fst (.block [14, 16] 0 (.loop [5, 14, 16, 92, 93] (.sub B3)))) (.sub B6)) [(5, l5), (14, s14), (16, u16)] ds h K = F7.t2 n0 B3 B6 l5 s14 u16 ds h K := by kernel_rfl
theorem F7.s2 {n0 : Nat} : F7.p2 n0 = wA Try.prog n0 106 none (.seq [14, 16] (.seq [5, 14, 16, 92, 93] F7.c2.fst.fst (.block [14, 16] 0 (.loop [5, 14, 16, 92, 93] (.sub (F7.p3 n0))))) (.sub (F7.p6 n0))) := by kernel_rfl
theorem F7.e2 {n0 : Nat} {l5 s14 u16 : Value} {ds : List Nat} {h : H} {K : KP} : F7.p2 n0 [(5, l5), (14, s14), (16, u16)] ds h K = F7.t2 n0 (F7.p3 n0) (F7.p6 n0) l5 s14 u16 ds h K :=
  wchain (F7.s2) (F7.g2 (F7.p3 n0) (F7.p6 n0) l5 s14 u16)
noncomputable def F7.t3 (n0 : Nat) (B4 : WP) (l5 s14 u16 t92 t93 : Value) (ds : List Nat) (h : H) (K : KP) : Prop :=
  Bnd (aBin Try.prog false .lss 3 t93 t92) fun t94 =>
  Cnd t94
   (B4 [(5, l5), (14, s14), (16, u16), (92, t92), (93, t93)] ds h K)
   (K (.exit 0) [(5, l5), (14, s14), (16, u16), (92, t92), (93, t93)] ds h)
theorem F7.g3 {n0 : Nat} (B4 : WP) (l5 s14 u16 t92 t93 : Value) {ds : List Nat} {h : H} {K : KP} : wA Try.prog n0 106 none (.seq [5, 14, 16, 92, 93, 94] F7.c3.fst (.seq [5, 14, 16, 92, 93] F7.c3.snd.fst (.sub B4))) [(5, l5), (14, s14), (16, u16), (92, t92), (93, t93)] ds h K = F7.t3 n0 B4 l5 s14 u16 t92 t93 ds h K := by kernel_rfl
theorem F7.s3 {n0 : Nat} : F7.p3 n0 = wA Try.prog n0 106 none (.seq [5, 14, 16, 92, 93, 94] F7.c3.fst (.seq [5, 14, 16, 92, 93] F7.c3.snd.fst (.sub (F7.p4 n0)))) := by kernel_rfl
theorem F7.e3 {n0 : Nat} {l5 s14 u16 t92 t93 : Value} {ds : List Nat} {h : H} {K : KP} : F7.p3 n0 [(5, l5), (14, s14), (16, u16), (92, t92), (93, t93)] ds h K = F7.t3 n0 (F7.p4 n0) l5 s14 u16 t92 t93 ds h K :=
  wchain (F7.s3) (F7.g3 (F7.p4 n0) l5 s14 u16 t92 t93)
theorem F7.k3 : F7.c3.ok = true := by kernel_rfl
theorem F7.d3 {n0 : Nat} : F7.p3 n0 = wA Try.prog n0 106 none F7.c3 := by kernel_rfl
theorem F7.m3 (n0 : Nat) : MonoW (F7.p3 n0) := @mono_c Try.prog n0 106 none F7.c3 (F7.p3 n0) (F7.d3) F7.k3
noncomputable def F7.t4 (n0 : Nat) (B5 : WP) (l5 s14 u16 t92 t93 : Value) (ds : List Nat) (h : H) (K : KP) : Prop :=
  Bnd (aIndexAddr Try.prog 22 l5 t93) fun t98 =>
  Bnd (aStore Try.prog 5 t98 (.int .u8 238) h) fun h1 =>
  B5 [(5, l5), (14, s14), (16, u16), (92, t92), (93, t93)] ds h1 K
theorem F7.g4 {n0 : Nat} (B5 : WP) (l5 s14 u16 t92 t93 : Value) {ds : List Nat} {h : H} {K : KP} : wA Try.prog n0 106 none (.seq [5, 14, 16, 92, 93] F7.c4.fst (.sub B5)) [(5, l5), (14, s14), (16, u16), (92, t92), (93, t93)] ds h K = F7.t4 n0 B5 l5 s14 u16 t92 t93 ds h K := by kernel_rfl
theorem F7.s4 {n0 : Nat} : F7.p4 n0 = wA Try.prog n0 106 none (.seq [5, 14, 16, 92, 93] F7.c4.fst (.sub (F7.p5 n0))) := by kernel_rfl
theorem F7.e4 {n0 : Nat} {l5 s14 u16 t92 t93 : Value} {ds : List Nat} {h : H} {K : KP} : F7.p4 n0 [(5, l5), (14, s14), (16, u16), (92, t92), (93, t93)] ds h K = F7.t4 n0 (F7.p5 n0) l5 s14 u16 t92 t93 ds h K :=
  wchain (F7.s4) (F7.g4 (F7.p5 n0) l5 s14 u16 t92 t93)
noncomputable def F7.t5 (n0 : Nat) (l5 s14 u16 t92 t93 : Value) (ds : List Nat) (h : H) (K : KP) : Prop :=
  Bnd (aBin Try.prog true .add 3 t93 (.int .i64 1)) fun t99 =>
  K .normal [(5, l5), (14, s14), (16, u16), (92, t92), (93, t99), (99, t99)] ds h
theorem F7.g5 {n0 : Nat} (l5 s14 u16 t92 t93 : Value) {ds : List Nat} {h : H} {K : KP} : wA Try.prog n0 106 none F7.c5 [(5, l5), (14, s14), (16, u16), (92, t92), (93, t93)] ds h K = F7.t5 n0 l5 s14 u16 t92 t93 ds h K := by kernel_rfl
theorem F7.s5 {n0 : Nat} : F7.p5 n0 = wA Try.prog n0 106 none F7.c5 := by kernel_rfl
theorem F7.e5 {n0 : Nat} {l5 s14 u16 t92 t93 : Value} {ds : List Nat} {h : H} {K : KP} : F7.p5 n0 [(5, l5), (14, s14), (16, u16), (92, t92), (93, t93)] ds h K = F7.t5 n0 l5 s14 u16 t92 t93 ds h K :=
  wchain (F7.s5) (F7.g5 l5 s14 u16 t92 t93)
noncomputable def F7.t6 (n0 : Nat) (s14 u16 : Value) (ds : List Nat) (h : H) (K : KP) : Prop :=
  Bnd (aBin Try.prog false .eql 9 s14 u16) fun t102 =>
  Gd t102
   (Cn Try.prog n0 (.func 16) [] h fun t104 h1 =>
  K .ret [(4, t104)] ds h1)
   (K .ret [(4, (.bool false))] ds h)
theorem F7.g6 {n0 : Nat} (s14 u16 : Value) {ds : List Nat} {h : H} {K : KP} : wA Try.prog n0 106 none F7.c6 [(14, s14), (16, u16)] ds h K = F7.t6 n0 s14 u16 ds h K := by kernel_rfl
theorem F7.s6 {n0 : Nat} : F7.p6 n0 = wA Try.prog n0 106 none F7.c6 := by kernel_rfl
theorem F7.e6 {n0 : Nat} {s14 u16 : Value} {ds : List Nat} {h : H} {K : KP} : F7.p6 n0 [(14, s14), (16, u16)] ds h K = F7.t6 n0 s14 u16 ds h K :=
  wchain (F7.s6) (F7.g6 s14 u16)
theorem F7.b : Try.f7.body = some F7.c0.erase := by kernel_rfl
theorem F7.b2 : (Try.f7.name == "runtime.NumGoroutine") = false := by kernel_rfl
theorem F7.b3 : Try.f7.ntmps = 106 := by kernel_rfl
theorem F7.b4 : Try.f7.results.toList = [.tmp 4] := by kernel_rfl
theorem F7.enter {n0 : Nat} {x0 x1 : Value} {h : H} {Q : Value → H → Prop} (w : F7.p0 n0 [(0, x0), (1, x1)] [] h (KFin Try.prog [.tmp 4] Q)) : Cn Try.prog n0 (.func 7) [x0, x1] h Q :=
  @fn_enter Try.prog n0 mixed 7 Try.f7 F7.c0 [x0, x1] h Q Try.func7 F7.b F7.k0 F7.b2 106 F7.b3 [.tmp 4] F7.b4 (by simp) [(0, x0), (1, x1)] rfl (wback F7.d0 w)

end Go.Proofs.Ytknpmldldlbniaa
