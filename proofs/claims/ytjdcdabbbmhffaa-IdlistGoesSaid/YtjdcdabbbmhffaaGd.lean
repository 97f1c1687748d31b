/- The texts of Go functions of this seat, as the evaluator comes to them: each is what wA says of the code. No condition. -/
import Derived.Test.YtjdcdabbbmhffaaEvAc3
import Derived.Test.YtjdcdabbbmhffaaSeat
set_option linter.unusedVariables false
namespace Go.Proofs.Ytjdcdabbbmhffaa
open Go.Ev

/-! roster.rosterref04.Set -/
noncomputable def F46.ac : AC := (ann (bodyOf Try.f46) [[0], [0], [0, 7], [0], [2], [0, 3], [3, 4], [2]]).1
noncomputable def F46.c0 : AC := F46.ac
noncomputable def F46.c1 : AC := F46.ac.snd.fst.snd.fst
noncomputable def F46.c2 : AC := F46.ac.snd.snd
noncomputable def F46.p0 (n0 : Nat) : WP := wA Try.prog n0 26 none F46.c0
noncomputable def F46.p1 (n0 : Nat) : WP := wA Try.prog n0 26 none F46.c1
noncomputable def F46.p2 (n0 : Nat) : WP := wA Try.prog n0 26 none F46.c2
noncomputable def F46.t0 (n0 : Nat) (B1 : WP) (B2 : WP) (l0 : Value) (ds : List Nat) (h : H) (K : KP) : Prop :=
  Bnd2 (aBuiltin Try.prog .len #[22] [l0] h) fun t6 h1 =>
  Bnd (aBin Try.prog true .lss 3 t6 (.int .i64 2)) fun t7 =>
  Cnd t7
   (B1 [(0, l0)] ds h1 (KSeq [0] B2 K))
   (B2 [(0, l0)] ds h1 K)
theorem F46.g0 {n0 : Nat} (B1 : WP) (B2 : WP) (l0 : Value) {ds : List Nat} {h : H} {K : KP} : wA Try.prog n0 26 none (.seq [0] F46.c0.fst (.seq [0] (.seq [0, 7] F46.c0.snd.fst.fst (.cond [0] (.tmp 7) (.sub B1) F46.c0.snd.fst.snd.snd)) (.sub B2))) [(0, l0)] ds h K = F46.t0 n0 B1 B2 l0 ds h K := by kernel_rfl
theorem F46.s0 {n0 : Nat} : F46.p0 n0 = wA Try.prog n0 26 none (.seq [0] F46.c0.fst (.seq [0] (.seq [0, 7] F46.c0.snd.fst.fst (.cond [0] (.tmp 7) (.sub (F46.p1 n0)) F46.c0.snd.fst.snd.snd)) (.sub (F46.p2 n0)))) := by kernel_rfl
theorem F46.e0 {n0 : Nat} {l0 : Value} {ds : List Nat} {h : H} {K : KP} : F46.p0 n0 [(0, l0)] ds h K = F46.t0 n0 (F46.p1 n0) (F46.p2 n0) l0 ds h K :=
  wchain (F46.s0) (F46.g0 (F46.p1 n0) (F46.p2 n0) l0)
theorem F46.k0 : F46.c0.ok = true := by kernel_rfl
theorem F46.d0 {n0 : Nat} : F46.p0 n0 = wA Try.prog n0 26 none F46.c0 := by kernel_rfl
theorem F46.m0 (n0 : Nat) : MonoW (F46.p0 n0) := @mono_c Try.prog n0 26 none F46.c0 (F46.p0 n0) (F46.d0) F46.k0
noncomputable def F46.t1 (n0 : Nat) (l0 : Value) (ds : List Nat) (h : H) (K : KP) : Prop :=
  Bnd2 (aBuildSlice Try.prog 22 0 [] h) fun t8 h1 =>
  Bnd2 (aBuiltin Try.prog .append #[22, 22] [t8, l0] h1) fun t10 h2 =>
  K .ret [(2, t10)] ds h2
theorem F46.g1 {n0 : Nat} (l0 : Value) {ds : List Nat} {h : H} {K : KP} : wA Try.prog n0 26 none F46.c1 [(0, l0)] ds h K = F46.t1 n0 l0 ds h K := by kernel_rfl
theorem F46.s1 {n0 : Nat} : F46.p1 n0 = wA Try.prog n0 26 none F46.c1 := by kernel_rfl
theorem F46.e1 {n0 : Nat} {l0 : Value} {ds : List Nat} {h : H} {K : KP} : F46.p1 n0 [(0, l0)] ds h K = F46.t1 n0 l0 ds h K :=
  wchain (F46.s1) (F46.g1 l0)
noncomputable def F46.t2 (n0 : Nat) (l0 : Value) (ds : List Nat) (h : H) (K : KP) : Prop :=
  Bnd2 (aBuiltin Try.prog .len #[22] [l0] h) fun t13 h1 =>
  Bnd (aBin Try.prog true .quo 3 t13 (.int .i64 2)) fun t14 =>
  Bnd (aSlice Try.prog 22 l0 none (some t14) none h1) fun t15 =>
  Cn Try.prog n0 (.func 46) [t15] h1 fun t16 h2 =>
  Bnd2 (aBuiltin Try.prog .len #[22] [l0] h2) fun t19 h3 =>
  Bnd (aBin Try.prog true .quo 3 t19 (.int .i64 2)) fun t20 =>
  Bnd (aSlice Try.prog 22 l0 (some t20) none none h3) fun t21 =>
  Cn Try.prog n0 (.func 46) [t21] h3 fun t22 h4 =>
  Cn Try.prog n0 (.func 52) [t16, t22] h4 fun t25 h5 =>
  K .ret [(2, t25)] ds h5
theorem F46.g2 {n0 : Nat} (l0 : Value) {ds : List Nat} {h : H} {K : KP} : wA Try.prog n0 26 none F46.c2 [(0, l0)] ds h K = F46.t2 n0 l0 ds h K := by kernel_rfl
theorem F46.s2 {n0 : Nat} : F46.p2 n0 = wA Try.prog n0 26 none F46.c2 := by kernel_rfl
theorem F46.e2 {n0 : Nat} {l0 : Value} {ds : List Nat} {h : H} {K : KP} : F46.p2 n0 [(0, l0)] ds h K = F46.t2 n0 l0 ds h K :=
  wchain (F46.s2) (F46.g2 l0)
theorem F46.b : Try.f46.body = some F46.c0.erase := by kernel_rfl
theorem F46.b2 : (Try.f46.name == "runtime.NumGoroutine") = false := by kernel_rfl
theorem F46.b3 : Try.f46.ntmps = 26 := by kernel_rfl
theorem F46.b4 : Try.f46.results.toList = [.tmp 2] := by kernel_rfl
theorem F46.enter {n0 : Nat} {x0 : Value} {h : H} {Q : Value → H → Prop} (w : F46.p0 n0 [(0, x0)] [] h (KFin Try.prog [.tmp 2] Q)) : Cn Try.prog n0 (.func 46) [x0] h Q :=
  @fn_enter Try.prog n0 mixed 46 Try.f46 F46.c0 [x0] h Q Try.func46 F46.b F46.k0 F46.b2 26 F46.b3 [.tmp 2] F46.b4 (by simp) [(0, x0)] rfl (wback F46.d0 w)

/-! roster.rosterref04.merge -/
noncomputable def F52.ac : AC := (ann (bodyOf Try.f52) [[0, 1], [0, 1, 5], [5], [5], [0, 1, 5], [0, 1, 5], [0, 1, 5, 13], [0, 1, 5], [0, 1, 5], [0, 1, 5], [0, 1, 5, 30], [0, 1, 5], [0, 1, 5], [0, 1, 5], [0, 1, 5], [0, 1, 5, 50], [0, 1, 5], [0, 1, 5], [4]]).1
noncomputable def F52.c0 : AC := F52.ac
noncomputable def F52.c1 : AC := F52.ac.snd.snd.fst.fst.fst
noncomputable def F52.c2 : AC := F52.ac.snd.snd.fst.fst.fst.snd
noncomputable def F52.c3 : AC := F52.ac.snd.snd.fst.fst.fst.snd.fst.fst.snd.fst
noncomputable def F52.c4 : AC := F52.ac.snd.snd.fst.fst.fst.snd.fst.snd
noncomputable def F52.c5 : AC := F52.ac.snd.snd.fst.fst.fst.snd.fst.snd.fst.snd.fst
noncomputable def F52.c6 : AC := F52.ac.snd.snd.fst.fst.fst.snd.fst.snd.snd
noncomputable def F52.c7 : AC := F52.ac.snd.snd.snd
noncomputable def F52.p0 (n0 : Nat) : WP := wA Try.prog n0 62 none F52.c0
noncomputable def F52.p1 (n0 : Nat) : WP := wA Try.prog n0 62 none F52.c1
noncomputable def F52.p2 (n0 : Nat) : WP := wA Try.prog n0 62 none F52.c2
noncomputable def F52.p3 (n0 : Nat) : WP := wA Try.prog n0 62 none F52.c3
noncomputable def F52.p4 (n0 : Nat) : WP := wA Try.prog n0 62 none F52.c4
noncomputable def F52.p5 (n0 : Nat) : WP := wA Try.prog n0 62 none F52.c5
noncomputable def F52.p6 (n0 : Nat) : WP := wA Try.prog n0 62 none F52.c6
noncomputable def F52.p7 (n0 : Nat) : WP := wA Try.prog n0 62 none F52.c7
noncomputable def F52.t0 (n0 : Nat) (B1 : WP) (B7 : WP) (a0 b1 : Value) (ds : List Nat) (h : H) (K : KP) : Prop :=
  Lp [0, 1, 5] B1 [(0, a0), (1, b1), (5, (.slice none 0 0))] ds h (KBlk [5] 0 (KSeq [5] B7 K))
theorem F52.g0 {n0 : Nat} (B1 : WP) (B7 : WP) (a0 b1 : Value) {ds : List Nat} {h : H} {K : KP} : wA Try.prog n0 62 none (.seq [0, 1] F52.c0.fst (.seq [0, 1, 5] F52.c0.snd.fst (.seq [5] (.block [5] 0 (.loop [0, 1, 5] (.sub B1))) (.sub B7)))) [(0, a0), (1, b1)] ds h K = F52.t0 n0 B1 B7 a0 b1 ds h K := by kernel_rfl
theorem F52.s0 {n0 : Nat} : F52.p0 n0 = wA Try.prog n0 62 none (.seq [0, 1] F52.c0.fst (.seq [0, 1, 5] F52.c0.snd.fst (.seq [5] (.block [5] 0 (.loop [0, 1, 5] (.sub (F52.p1 n0)))) (.sub (F52.p7 n0))))) := by kernel_rfl
theorem F52.e0 {n0 : Nat} {a0 b1 : Value} {ds : List Nat} {h : H} {K : KP} : F52.p0 n0 [(0, a0), (1, b1)] ds h K = F52.t0 n0 (F52.p1 n0) (F52.p7 n0) a0 b1 ds h K :=
  wchain (F52.s0) (F52.g0 (F52.p1 n0) (F52.p7 n0) a0 b1)
theorem F52.k0 : F52.c0.ok = true := by kernel_rfl
theorem F52.d0 {n0 : Nat} : F52.p0 n0 = wA Try.prog n0 62 none F52.c0 := by kernel_rfl
theorem F52.m0 (n0 : Nat) : MonoW (F52.p0 n0) := @mono_c Try.prog n0 62 none F52.c0 (F52.p0 n0) (F52.d0) F52.k0
noncomputable def F52.t1 (n0 : Nat) (B2 : WP) (a0 b1 out5 : Value) (ds : List Nat) (h : H) (K : KP) : Prop :=
  Bnd2 (aBuiltin Try.prog .len #[22] [a0] h) fun t7 h1 =>
  Bnd (aBin Try.prog true .gtr 3 t7 (.int .i64 0)) fun t8 =>
  Gd t8
   (B2 [(0, a0), (1, b1), (5, out5)] ds h1 K)
   (Bnd2 (aBuiltin Try.prog .len #[22] [b1] h1) fun t11 h2 =>
  Bnd (aBin Try.prog true .gtr 3 t11 (.int .i64 0)) fun t12 =>
  Cnd t12
   (B2 [(0, a0), (1, b1), (5, out5)] ds h2 K)
   (K (.exit 0) [(0, a0), (1, b1), (5, out5)] ds h2))
theorem F52.g1 {n0 : Nat} (B2 : WP) (a0 b1 out5 : Value) {ds : List Nat} {h : H} {K : KP} : wA Try.prog n0 62 none (.seq [0, 1, 5] F52.c1.fst (.sub B2)) [(0, a0), (1, b1), (5, out5)] ds h K = F52.t1 n0 B2 a0 b1 out5 ds h K := by kernel_rfl
theorem F52.s1 {n0 : Nat} : F52.p1 n0 = wA Try.prog n0 62 none (.seq [0, 1, 5] F52.c1.fst (.sub (F52.p2 n0))) := by kernel_rfl
theorem F52.e1 {n0 : Nat} {a0 b1 out5 : Value} {ds : List Nat} {h : H} {K : KP} : F52.p1 n0 [(0, a0), (1, b1), (5, out5)] ds h K = F52.t1 n0 (F52.p2 n0) a0 b1 out5 ds h K :=
  wchain (F52.s1) (F52.g1 (F52.p2 n0) a0 b1 out5)
theorem F52.k1 : F52.c1.ok = true := by kernel_rfl
theorem F52.d1 {n0 : Nat} : F52.p1 n0 = wA Try.prog n0 62 none F52.c1 := by kernel_rfl
theorem F52.m1 (n0 : Nat) : MonoW (F52.p1 n0) := @mono_c Try.prog n0 62 none F52.c1 (F52.p1 n0) (F52.d1) F52.k1
noncomputable def F52.t2 (n0 : Nat) (B3 : WP) (B4 : WP) (a0 b1 out5 : Value) (ds : List Nat) (h : H) (K : KP) : Prop :=
  Bnd2 (aBuiltin Try.prog .len #[22] [b1] h) fun t15 h1 =>
  Bnd (aBin Try.prog true .eql 3 t15 (.int .i64 0)) fun t16 =>
  Gd t16
   (B3 [(0, a0), (1, b1), (5, out5)] ds h1 (KSeq [0, 1, 5] B4 (KBlk [0, 1, 5] 1 K)))
   (Bnd2 (aBuiltin Try.prog .len #[22] [a0] h1) fun t19 h2 =>
  Bnd (aBin Try.prog true .gtr 3 t19 (.int .i64 0)) fun t20 =>
  Gd t20
   (Bnd (aIndexAddr Try.prog 22 a0 (.int .i64 0)) fun t23 =>
  Bnd (aLoad Try.prog 23 t23 h2) fun t24 =>
  Bnd (aIndexAddr Try.prog 22 b1 (.int .i64 0)) fun t26 =>
  Bnd (aLoad Try.prog 23 t26 h2) fun t27 =>
  Bnd (aBin Try.prog false .lss 23 t24 t27) fun t28 =>
  Cnd t28
   (B3 [(0, a0), (1, b1), (5, out5)] ds h2 (KSeq [0, 1, 5] B4 (KBlk [0, 1, 5] 1 K)))
   (B4 [(0, a0), (1, b1), (5, out5)] ds h2 (KBlk [0, 1, 5] 1 K)))
   (B4 [(0, a0), (1, b1), (5, out5)] ds h2 (KBlk [0, 1, 5] 1 K)))
theorem F52.g2 {n0 : Nat} (B3 : WP) (B4 : WP) (a0 b1 out5 : Value) {ds : List Nat} {h : H} {K : KP} : wA Try.prog n0 62 none (.block [0, 1, 5] 1 (.seq [0, 1, 5] (.seq [0, 1, 5, 30] F52.c2.fst.fst.fst (.cond [0, 1, 5] (.tmp 30) (.sub B3) F52.c2.fst.fst.snd.snd)) (.sub B4))) [(0, a0), (1, b1), (5, out5)] ds h K = F52.t2 n0 B3 B4 a0 b1 out5 ds h K := by kernel_rfl
theorem F52.s2 {n0 : Nat} : F52.p2 n0 = wA Try.prog n0 62 none (.block [0, 1, 5] 1 (.seq [0, 1, 5] (.seq [0, 1, 5, 30] F52.c2.fst.fst.fst (.cond [0, 1, 5] (.tmp 30) (.sub (F52.p3 n0)) F52.c2.fst.fst.snd.snd)) (.sub (F52.p4 n0)))) := by kernel_rfl
theorem F52.e2 {n0 : Nat} {a0 b1 out5 : Value} {ds : List Nat} {h : H} {K : KP} : F52.p2 n0 [(0, a0), (1, b1), (5, out5)] ds h K = F52.t2 n0 (F52.p3 n0) (F52.p4 n0) a0 b1 out5 ds h K :=
  wchain (F52.s2) (F52.g2 (F52.p3 n0) (F52.p4 n0) a0 b1 out5)
noncomputable def F52.t3 (n0 : Nat) (a0 b1 out5 : Value) (ds : List Nat) (h : H) (K : KP) : Prop :=
  Bnd (aIndexAddr Try.prog 22 a0 (.int .i64 0)) fun t33 =>
  Bnd (aLoad Try.prog 23 t33 h) fun t34 =>
  Bnd2 (aBuildSlice Try.prog 22 1 [(0, t34)] h) fun t35 h1 =>
  Bnd2 (aBuiltin Try.prog .append #[22, 22] [out5, t35] h1) fun t36 h2 =>
  Bnd (aSlice Try.prog 22 a0 (some (.int .i64 1)) none none h2) fun t38 =>
  K (.exit 1) [(0, t38), (1, b1), (5, t36)] ds h2
theorem F52.g3 {n0 : Nat} (a0 b1 out5 : Value) {ds : List Nat} {h : H} {K : KP} : wA Try.prog n0 62 none F52.c3 [(0, a0), (1, b1), (5, out5)] ds h K = F52.t3 n0 a0 b1 out5 ds h K := by kernel_rfl
theorem F52.s3 {n0 : Nat} : F52.p3 n0 = wA Try.prog n0 62 none F52.c3 := by kernel_rfl
theorem F52.e3 {n0 : Nat} {a0 b1 out5 : Value} {ds : List Nat} {h : H} {K : KP} : F52.p3 n0 [(0, a0), (1, b1), (5, out5)] ds h K = F52.t3 n0 a0 b1 out5 ds h K :=
  wchain (F52.s3) (F52.g3 a0 b1 out5)
noncomputable def F52.t4 (n0 : Nat) (B5 : WP) (B6 : WP) (a0 b1 out5 : Value) (ds : List Nat) (h : H) (K : KP) : Prop :=
  Bnd2 (aBuiltin Try.prog .len #[22] [a0] h) fun t40 h1 =>
  Bnd (aBin Try.prog true .gtr 3 t40 (.int .i64 0)) fun t41 =>
  Gd t41
   (Bnd (aIndexAddr Try.prog 22 a0 (.int .i64 0)) fun t44 =>
  Bnd (aLoad Try.prog 23 t44 h1) fun t45 =>
  Bnd (aIndexAddr Try.prog 22 b1 (.int .i64 0)) fun t47 =>
  Bnd (aLoad Try.prog 23 t47 h1) fun t48 =>
  Bnd (aBin Try.prog false .eql 23 t45 t48) fun t49 =>
  Cnd t49
   (B5 [(0, a0), (1, b1), (5, out5)] ds h1 (KSeq [0, 1, 5] B6 K))
   (B6 [(0, a0), (1, b1), (5, out5)] ds h1 K))
   (B6 [(0, a0), (1, b1), (5, out5)] ds h1 K)
theorem F52.g4 {n0 : Nat} (B5 : WP) (B6 : WP) (a0 b1 out5 : Value) {ds : List Nat} {h : H} {K : KP} : wA Try.prog n0 62 none (.seq [0, 1, 5] (.seq [0, 1, 5, 50] F52.c4.fst.fst (.cond [0, 1, 5] (.tmp 50) (.sub B5) F52.c4.fst.snd.snd)) (.sub B6)) [(0, a0), (1, b1), (5, out5)] ds h K = F52.t4 n0 B5 B6 a0 b1 out5 ds h K := by kernel_rfl
theorem F52.s4 {n0 : Nat} : F52.p4 n0 = wA Try.prog n0 62 none (.seq [0, 1, 5] (.seq [0, 1, 5, 50] F52.c4.fst.fst (.cond [0, 1, 5] (.tmp 50) (.sub (F52.p5 n0)) F52.c4.fst.snd.snd)) (.sub (F52.p6 n0))) := by kernel_rfl
theorem F52.e4 {n0 : Nat} {a0 b1 out5 : Value} {ds : List Nat} {h : H} {K : KP} : F52.p4 n0 [(0, a0), (1, b1), (5, out5)] ds h K = F52.t4 n0 (F52.p5 n0) (F52.p6 n0) a0 b1 out5 ds h K :=
  wchain (F52.s4) (F52.g4 (F52.p5 n0) (F52.p6 n0) a0 b1 out5)
noncomputable def F52.t5 (n0 : Nat) (a0 b1 out5 : Value) (ds : List Nat) (h : H) (K : KP) : Prop :=
  Bnd (aSlice Try.prog 22 a0 (some (.int .i64 1)) none none h) fun t52 =>
  K .normal [(0, t52), (1, b1), (5, out5), (51, a0), (52, t52)] ds h
theorem F52.g5 {n0 : Nat} (a0 b1 out5 : Value) {ds : List Nat} {h : H} {K : KP} : wA Try.prog n0 62 none F52.c5 [(0, a0), (1, b1), (5, out5)] ds h K = F52.t5 n0 a0 b1 out5 ds h K := by kernel_rfl
theorem F52.s5 {n0 : Nat} : F52.p5 n0 = wA Try.prog n0 62 none F52.c5 := by kernel_rfl
theorem F52.e5 {n0 : Nat} {a0 b1 out5 : Value} {ds : List Nat} {h : H} {K : KP} : F52.p5 n0 [(0, a0), (1, b1), (5, out5)] ds h K = F52.t5 n0 a0 b1 out5 ds h K :=
  wchain (F52.s5) (F52.g5 a0 b1 out5)
noncomputable def F52.t6 (n0 : Nat) (a0 b1 out5 : Value) (ds : List Nat) (h : H) (K : KP) : Prop :=
  Bnd (aIndexAddr Try.prog 22 b1 (.int .i64 0)) fun t55 =>
  Bnd (aLoad Try.prog 23 t55 h) fun t56 =>
  Bnd2 (aBuildSlice Try.prog 22 1 [(0, t56)] h) fun t57 h1 =>
  Bnd2 (aBuiltin Try.prog .append #[22, 22] [out5, t57] h1) fun t58 h2 =>
  Bnd (aSlice Try.prog 22 b1 (some (.int .i64 1)) none none h2) fun t60 =>
  K .normal [(0, a0), (1, t60), (5, t58), (59, b1), (60, t60)] ds h2
theorem F52.g6 {n0 : Nat} (a0 b1 out5 : Value) {ds : List Nat} {h : H} {K : KP} : wA Try.prog n0 62 none F52.c6 [(0, a0), (1, b1), (5, out5)] ds h K = F52.t6 n0 a0 b1 out5 ds h K := by kernel_rfl
theorem F52.s6 {n0 : Nat} : F52.p6 n0 = wA Try.prog n0 62 none F52.c6 := by kernel_rfl
theorem F52.e6 {n0 : Nat} {a0 b1 out5 : Value} {ds : List Nat} {h : H} {K : KP} : F52.p6 n0 [(0, a0), (1, b1), (5, out5)] ds h K = F52.t6 n0 a0 b1 out5 ds h K :=
  wchain (F52.s6) (F52.g6 a0 b1 out5)
noncomputable def F52.t7 (n0 : Nat) (out5 : Value) (ds : List Nat) (h : H) (K : KP) : Prop :=
  K .ret [(4, out5)] ds h
theorem F52.g7 {n0 : Nat} (out5 : Value) {ds : List Nat} {h : H} {K : KP} : wA Try.prog n0 62 none F52.c7 [(5, out5)] ds h K = F52.t7 n0 out5 ds h K := by kernel_rfl
theorem F52.s7 {n0 : Nat} : F52.p7 n0 = wA Try.prog n0 62 none F52.c7 := by kernel_rfl
theorem F52.e7 {n0 : Nat} {out5 : Value} {ds : List Nat} {h : H} {K : KP} : F52.p7 n0 [(5, out5)] ds h K = F52.t7 n0 out5 ds h K :=
  wchain (F52.s7) (F52.g7 out5)
theorem F52.b : Try.f52.body = some F52.c0.erase := by kernel_rfl
theorem F52.b2 : (Try.f52.name == "runtime.NumGoroutine") = false := by kernel_rfl
theorem F52.b3 : Try.f52.ntmps = 62 := by kernel_rfl
theorem F52.b4 : Try.f52.results.toList = [.tmp 4] := by kernel_rfl
theorem F52.enter {n0 : Nat} {x0 x1 : Value} {h : H} {Q : Value → H → Prop} (w : F52.p0 n0 [(0, x0), (1, x1)] [] h (KFin Try.prog [.tmp 4] Q)) : Cn Try.prog n0 (.func 52) [x0, x1] h Q :=
  @fn_enter Try.prog n0 mixed 52 Try.f52 F52.c0 [x0, x1] h Q Try.func52 F52.b F52.k0 F52.b2 62 F52.b3 [.tmp 4] F52.b4 (by simp) [(0, x0), (1, x1)] rfl (wback F52.d0 w)

/-! roster.rosterref04.From -/
noncomputable def F20.ac : AC := (ann (bodyOf Try.f20) [[0, 1], [1, 5], [1, 5, 6], [5, 6], [5, 6], [1, 5, 6], [1, 5, 6], [1, 5, 6, 20], [1, 5, 6], [1, 5, 6], [4]]).1
noncomputable def F20.c0 : AC := F20.ac
noncomputable def F20.c1 : AC := F20.ac.snd.snd.snd.fst.fst.fst
noncomputable def F20.c2 : AC := F20.ac.snd.snd.snd.fst.fst.fst.snd
noncomputable def F20.c3 : AC := F20.ac.snd.snd.snd.snd
noncomputable def F20.p0 (n0 : Nat) : WP := wA Try.prog n0 26 none F20.c0
noncomputable def F20.p1 (n0 : Nat) : WP := wA Try.prog n0 26 none F20.c1
noncomputable def F20.p2 (n0 : Nat) : WP := wA Try.prog n0 26 none F20.c2
noncomputable def F20.p3 (n0 : Nat) : WP := wA Try.prog n0 26 none F20.c3
noncomputable def F20.t0 (n0 : Nat) (B1 : WP) (B3 : WP) (l0 id1 : Value) (ds : List Nat) (h : H) (K : KP) : Prop :=
  Cn Try.prog n0 (.func 46) [l0] h fun t8 h1 =>
  Lp [1, 5, 6] B1 [(1, id1), (5, t8), (6, (.int .i64 0))] ds h1 (KBlk [5, 6] 0 (KSeq [5, 6] B3 K))
theorem F20.g0 {n0 : Nat} (B1 : WP) (B3 : WP) (l0 id1 : Value) {ds : List Nat} {h : H} {K : KP} : wA Try.prog n0 26 none (.seq [0, 1] F20.c0.fst (.seq [1, 5] F20.c0.snd.fst (.seq [1, 5, 6] F20.c0.snd.snd.fst (.seq [5, 6] (.block [5, 6] 0 (.loop [1, 5, 6] (.sub B1))) (.sub B3))))) [(0, l0), (1, id1)] ds h K = F20.t0 n0 B1 B3 l0 id1 ds h K := by kernel_rfl
theorem F20.s0 {n0 : Nat} : F20.p0 n0 = wA Try.prog n0 26 none (.seq [0, 1] F20.c0.fst (.seq [1, 5] F20.c0.snd.fst (.seq [1, 5, 6] F20.c0.snd.snd.fst (.seq [5, 6] (.block [5, 6] 0 (.loop [1, 5, 6] (.sub (F20.p1 n0)))) (.sub (F20.p3 n0)))))) := by kernel_rfl
theorem F20.e0 {n0 : Nat} {l0 id1 : Value} {ds : List Nat} {h : H} {K : KP} : F20.p0 n0 [(0, l0), (1, id1)] ds h K = F20.t0 n0 (F20.p1 n0) (F20.p3 n0) l0 id1 ds h K :=
  wchain (F20.s0) (F20.g0 (F20.p1 n0) (F20.p3 n0) l0 id1)
theorem F20.k0 : F20.c0.ok = true := by kernel_rfl
theorem F20.d0 {n0 : Nat} : F20.p0 n0 = wA Try.prog n0 26 none F20.c0 := by kernel_rfl
theorem F20.m0 (n0 : Nat) : MonoW (F20.p0 n0) := @mono_c Try.prog n0 26 none F20.c0 (F20.p0 n0) (F20.d0) F20.k0
noncomputable def F20.t1 (n0 : Nat) (B2 : WP) (id1 x5 i6 : Value) (ds : List Nat) (h : H) (K : KP) : Prop :=
  Bnd2 (aBuiltin Try.prog .len #[22] [x5] h) fun t11 h1 =>
  Bnd (aBin Try.prog false .lss 3 i6 t11) fun t12 =>
  Gd t12
   (Bnd (aIndexAddr Try.prog 22 x5 i6) fun t16 =>
  Bnd (aLoad Try.prog 23 t16 h1) fun t17 =>
  Bnd (aBin Try.prog false .lss 23 t17 id1) fun t19 =>
  Cnd t19
   (B2 [(1, id1), (5, x5), (6, i6)] ds h1 K)
   (K (.exit 0) [(1, id1), (5, x5), (6, i6)] ds h1))
   (K (.exit 0) [(1, id1), (5, x5), (6, i6)] ds h1)
theorem F20.g1 {n0 : Nat} (B2 : WP) (id1 x5 i6 : Value) {ds : List Nat} {h : H} {K : KP} : wA Try.prog n0 26 none (.seq [1, 5, 6] F20.c1.fst (.sub B2)) [(1, id1), (5, x5), (6, i6)] ds h K = F20.t1 n0 B2 id1 x5 i6 ds h K := by kernel_rfl
theorem F20.s1 {n0 : Nat} : F20.p1 n0 = wA Try.prog n0 26 none (.seq [1, 5, 6] F20.c1.fst (.sub (F20.p2 n0))) := by kernel_rfl
theorem F20.e1 {n0 : Nat} {id1 x5 i6 : Value} {ds : List Nat} {h : H} {K : KP} : F20.p1 n0 [(1, id1), (5, x5), (6, i6)] ds h K = F20.t1 n0 (F20.p2 n0) id1 x5 i6 ds h K :=
  wchain (F20.s1) (F20.g1 (F20.p2 n0) id1 x5 i6)
theorem F20.k1 : F20.c1.ok = true := by kernel_rfl
theorem F20.d1 {n0 : Nat} : F20.p1 n0 = wA Try.prog n0 26 none F20.c1 := by kernel_rfl
theorem F20.m1 (n0 : Nat) : MonoW (F20.p1 n0) := @mono_c Try.prog n0 26 none F20.c1 (F20.p1 n0) (F20.d1) F20.k1
noncomputable def F20.t2 (n0 : Nat) (id1 x5 i6 : Value) (ds : List Nat) (h : H) (K : KP) : Prop :=
  Bnd (aBin Try.prog true .add 3 i6 (.int .i64 1)) fun t22 =>
  K .normal [(1, id1), (5, x5), (6, t22)] ds h
theorem F20.g2 {n0 : Nat} (id1 x5 i6 : Value) {ds : List Nat} {h : H} {K : KP} : wA Try.prog n0 26 none F20.c2 [(1, id1), (5, x5), (6, i6)] ds h K = F20.t2 n0 id1 x5 i6 ds h K := by kernel_rfl
theorem F20.s2 {n0 : Nat} : F20.p2 n0 = wA Try.prog n0 26 none F20.c2 := by kernel_rfl
theorem F20.e2 {n0 : Nat} {id1 x5 i6 : Value} {ds : List Nat} {h : H} {K : KP} : F20.p2 n0 [(1, id1), (5, x5), (6, i6)] ds h K = F20.t2 n0 id1 x5 i6 ds h K :=
  wchain (F20.s2) (F20.g2 id1 x5 i6)
noncomputable def F20.t3 (n0 : Nat) (x5 i6 : Value) (ds : List Nat) (h : H) (K : KP) : Prop :=
  Bnd (aSlice Try.prog 22 x5 (some i6) none none h) fun t25 =>
  K .ret [(4, t25)] ds h
theorem F20.g3 {n0 : Nat} (x5 i6 : Value) {ds : List Nat} {h : H} {K : KP} : wA Try.prog n0 26 none F20.c3 [(5, x5), (6, i6)] ds h K = F20.t3 n0 x5 i6 ds h K := by kernel_rfl
theorem F20.s3 {n0 : Nat} : F20.p3 n0 = wA Try.prog n0 26 none F20.c3 := by kernel_rfl
theorem F20.e3 {n0 : Nat} {x5 i6 : Value} {ds : List Nat} {h : H} {K : KP} : F20.p3 n0 [(5, x5), (6, i6)] ds h K = F20.t3 n0 x5 i6 ds h K :=
  wchain (F20.s3) (F20.g3 x5 i6)
theorem F20.b : Try.f20.body = some F20.c0.erase := by kernel_rfl
theorem F20.b2 : (Try.f20.name == "runtime.NumGoroutine") = false := by kernel_rfl
theorem F20.b3 : Try.f20.ntmps = 26 := by kernel_rfl
theorem F20.b4 : Try.f20.results.toList = [.tmp 4] := by kernel_rfl
theorem F20.enter {n0 : Nat} {x0 x1 : Value} {h : H} {Q : Value → H → Prop} (w : F20.p0 n0 [(0, x0), (1, x1)] [] h (KFin Try.prog [.tmp 4] Q)) : Cn Try.prog n0 (.func 20) [x0, x1] h Q :=
  @fn_enter Try.prog n0 mixed 20 Try.f20 F20.c0 [x0, x1] h Q Try.func20 F20.b F20.k0 F20.b2 26 F20.b3 [.tmp 4] F20.b4 (by simp) [(0, x0), (1, x1)] rfl (wback F20.d0 w)

/-! roster.rosterlaw04.through -/
noncomputable def F21.ac : AC := (ann (bodyOf Try.f21) [[0, 3, 4], [0, 3, 4, 5], [5], [3, 4, 5, 7], [5], [3, 4, 5, 7], [4]]).1
noncomputable def F21.rAs0 : Code := F21.ac.snd.snd.fst.snd.fst.rfAs
noncomputable def F21.rBd0 : Code := F21.ac.snd.snd.fst.snd.fst.rfBd
noncomputable def F21.aAs0 : AC := (ann F21.rAs0 []).1
noncomputable def F21.aBd0 : AC := (ann F21.rBd0 [[3, 4, 5], [3, 4, 5, 6], [3, 4, 5, 6, 12], [3, 4, 5, 6]]).1
noncomputable def F21.c0 : AC := F21.ac
noncomputable def F21.c1 : AC := F21.ac.snd.snd.snd
noncomputable def F21.p0 (n0 : Nat) : WP := wA Try.prog n0 18 none F21.c0
noncomputable def F21.p1 (n0 : Nat) : WP := wA Try.prog n0 18 none F21.c1
noncomputable def F21.t0 (n0 : Nat) (B1 : WP) (each0 most1 : Value) (ds : List Nat) (h : H) (K : KP) : Prop :=
  Nw (enc 0 3) (clL most1) h fun most3 h1 =>
  Nw (enc 0 22) (zc Try.prog 22) h1 fun out5 h2 =>
  wRange Try.prog n0 none 18 each0 #[8] F21.rAs0 F21.rBd0 [(3, most3), (4, (.slice none 0 0)), (5, out5), (7, each0)] ds h2 (KBlk [5] 0 (KSeq [5] B1 K))
theorem F21.g0 {n0 : Nat} (B1 : WP) (each0 most1 : Value) {ds : List Nat} {h : H} {K : KP} : wA Try.prog n0 18 none (.seq [0, 3, 4] F21.c0.fst (.seq [0, 3, 4, 5] F21.c0.snd.fst (.seq [5] F21.c0.snd.snd.fst (.sub B1)))) [(0, each0), (1, most1)] ds h K = F21.t0 n0 B1 each0 most1 ds h K := by kernel_rfl
theorem F21.s0 {n0 : Nat} : F21.p0 n0 = wA Try.prog n0 18 none (.seq [0, 3, 4] F21.c0.fst (.seq [0, 3, 4, 5] F21.c0.snd.fst (.seq [5] F21.c0.snd.snd.fst (.sub (F21.p1 n0))))) := by kernel_rfl
theorem F21.e0 {n0 : Nat} {each0 most1 : Value} {ds : List Nat} {h : H} {K : KP} : F21.p0 n0 [(0, each0), (1, most1)] ds h K = F21.t0 n0 (F21.p1 n0) each0 most1 ds h K :=
  wchain (F21.s0) (F21.g0 (F21.p1 n0) each0 most1)
theorem F21.k0 : F21.c0.ok = true := by kernel_rfl
theorem F21.d0 {n0 : Nat} : F21.p0 n0 = wA Try.prog n0 18 none F21.c0 := by kernel_rfl
theorem F21.m0 (n0 : Nat) : MonoW (F21.p0 n0) := @mono_c Try.prog n0 18 none F21.c0 (F21.p0 n0) (F21.d0) F21.k0
noncomputable def F21.t1 (n0 : Nat) (out5 : Value) (ds : List Nat) (h : H) (K : KP) : Prop :=
  Bnd (aLoad Try.prog 22 out5 h) fun t17 =>
  K .ret [(4, t17)] ds h
theorem F21.g1 {n0 : Nat} (out5 : Value) {ds : List Nat} {h : H} {K : KP} : wA Try.prog n0 18 none F21.c1 [(5, out5)] ds h K = F21.t1 n0 out5 ds h K := by kernel_rfl
theorem F21.s1 {n0 : Nat} : F21.p1 n0 = wA Try.prog n0 18 none F21.c1 := by kernel_rfl
theorem F21.e1 {n0 : Nat} {out5 : Value} {ds : List Nat} {h : H} {K : KP} : F21.p1 n0 [(5, out5)] ds h K = F21.t1 n0 out5 ds h K :=
  wchain (F21.s1) (F21.g1 out5)
noncomputable def F21.c2 : AC := F21.aAs0
noncomputable def F21.p2 (n0 : Nat) (l : Nat) : WP := wA Try.prog n0 18 (some l) F21.c2
noncomputable def F21.t2 (n0 : Nat) (l : Nat) (most3 t4 out5 t7 t8 : Value) (ds : List Nat) (h : H) (K : KP) : Prop :=
  K .normal [(3, most3), (4, t4), (5, out5), (7, t7), (8, t8), (6, t8)] ds h
theorem F21.g2 {n0 : Nat} {l : Nat} (most3 t4 out5 t7 t8 : Value) {ds : List Nat} {h : H} {K : KP} : wA Try.prog n0 18 (some l) F21.c2 [(3, most3), (4, t4), (5, out5), (7, t7), (8, t8)] ds h K = F21.t2 n0 l most3 t4 out5 t7 t8 ds h K := by kernel_rfl
theorem F21.s2 {n0 : Nat} (l : Nat) : F21.p2 n0 l = wA Try.prog n0 18 (some l) F21.c2 := by kernel_rfl
theorem F21.e2 {n0 : Nat} {l : Nat} {most3 t4 out5 t7 t8 : Value} {ds : List Nat} {h : H} {K : KP} : F21.p2 n0 l [(3, most3), (4, t4), (5, out5), (7, t7), (8, t8)] ds h K = F21.t2 n0 l most3 t4 out5 t7 t8 ds h K :=
  wchain (F21.s2 l) (F21.g2 most3 t4 out5 t7 t8)
theorem F21.k2 : F21.c2.ok = true := by kernel_rfl
theorem F21.d2 {n0 : Nat} (l : Nat) : F21.p2 n0 l = wA Try.prog n0 18 (some l) F21.c2 := by kernel_rfl
theorem F21.m2 (n0 : Nat) (l : Nat) : MonoW (F21.p2 n0 l) := @mono_c Try.prog n0 18 (some l) F21.c2 (F21.p2 n0 l) (F21.d2 l) F21.k2
noncomputable def F21.c3 : AC := F21.aBd0
noncomputable def F21.c4 : AC := F21.aBd0.fst.snd
noncomputable def F21.p3 (n0 : Nat) (l : Nat) : WP := wA Try.prog n0 18 (some l) F21.c3
noncomputable def F21.p4 (n0 : Nat) (l : Nat) : WP := wA Try.prog n0 18 (some l) F21.c4
noncomputable def F21.t3 (n0 : Nat) (l : Nat) (B4 : WP) (most3 t4 out5 id6 : Value) (ds : List Nat) (h : H) (K : KP) : Prop :=
  Bnd (aLoad Try.prog 22 out5 h) fun t9 =>
  Bnd2 (aBuiltin Try.prog .len #[22] [t9] h) fun t10 h1 =>
  Bnd (aLoad Try.prog 3 most3 h1) fun t11 =>
  Bnd (aBin Try.prog false .geq 3 t10 t11) fun t12 =>
  Cnd t12
   (K (.exit 0) [(3, most3), (4, t4), (5, out5), (6, id6)] ds h1)
   (B4 [(3, most3), (4, t4), (5, out5), (6, id6)] ds h1 (KBlk [3, 4, 5] 1 K))
theorem F21.g3 {n0 : Nat} {l : Nat} (B4 : WP) (most3 t4 out5 id6 : Value) {ds : List Nat} {h : H} {K : KP} : wA Try.prog n0 18 (some l) (.block [3, 4, 5] 1 (.seq [3, 4, 5, 6] F21.c3.fst.fst (.sub B4))) [(3, most3), (4, t4), (5, out5), (6, id6)] ds h K = F21.t3 n0 l B4 most3 t4 out5 id6 ds h K := by kernel_rfl
theorem F21.s3 {n0 : Nat} (l : Nat) : F21.p3 n0 l = wA Try.prog n0 18 (some l) (.block [3, 4, 5] 1 (.seq [3, 4, 5, 6] F21.c3.fst.fst (.sub (F21.p4 n0 l)))) := by kernel_rfl
theorem F21.e3 {n0 : Nat} {l : Nat} {most3 t4 out5 id6 : Value} {ds : List Nat} {h : H} {K : KP} : F21.p3 n0 l [(3, most3), (4, t4), (5, out5), (6, id6)] ds h K = F21.t3 n0 l (F21.p4 n0 l) most3 t4 out5 id6 ds h K :=
  wchain (F21.s3 l) (F21.g3 (F21.p4 n0 l) most3 t4 out5 id6)
theorem F21.k3 : F21.c3.ok = true := by kernel_rfl
theorem F21.d3 {n0 : Nat} (l : Nat) : F21.p3 n0 l = wA Try.prog n0 18 (some l) F21.c3 := by kernel_rfl
theorem F21.m3 (n0 : Nat) (l : Nat) : MonoW (F21.p3 n0 l) := @mono_c Try.prog n0 18 (some l) F21.c3 (F21.p3 n0 l) (F21.d3 l) F21.k3
noncomputable def F21.t4 (n0 : Nat) (l : Nat) (most3 t4 out5 id6 : Value) (ds : List Nat) (h : H) (K : KP) : Prop :=
  Bnd (aLoad Try.prog 22 out5 h) fun t13 =>
  Bnd2 (aBuildSlice Try.prog 22 1 [(0, id6)] h) fun t15 h1 =>
  Bnd2 (aBuiltin Try.prog .append #[22, 22] [t13, t15] h1) fun t16 h2 =>
  Bnd (aStore Try.prog 22 out5 t16 h2) fun h3 =>
  K .normal [(3, most3), (4, t4), (5, out5), (6, id6), (13, t13), (14, id6), (15, t15), (16, t16)] ds h3
theorem F21.g4 {n0 : Nat} {l : Nat} (most3 t4 out5 id6 : Value) {ds : List Nat} {h : H} {K : KP} : wA Try.prog n0 18 (some l) F21.c4 [(3, most3), (4, t4), (5, out5), (6, id6)] ds h K = F21.t4 n0 l most3 t4 out5 id6 ds h K := by kernel_rfl
theorem F21.s4 {n0 : Nat} (l : Nat) : F21.p4 n0 l = wA Try.prog n0 18 (some l) F21.c4 := by kernel_rfl
theorem F21.e4 {n0 : Nat} {l : Nat} {most3 t4 out5 id6 : Value} {ds : List Nat} {h : H} {K : KP} : F21.p4 n0 l [(3, most3), (4, t4), (5, out5), (6, id6)] ds h K = F21.t4 n0 l most3 t4 out5 id6 ds h K :=
  wchain (F21.s4 l) (F21.g4 most3 t4 out5 id6)
theorem F21.b : Try.f21.body = some F21.c0.erase := by kernel_rfl
theorem F21.b2 : (Try.f21.name == "runtime.NumGoroutine") = false := by kernel_rfl
theorem F21.b3 : Try.f21.ntmps = 18 := by kernel_rfl
theorem F21.b4 : Try.f21.results.toList = [.tmp 4] := by kernel_rfl
theorem F21.enter {n0 : Nat} {x0 x1 : Value} {h : H} {Q : Value → H → Prop} (w : F21.p0 n0 [(0, x0), (1, x1)] [] h (KFin Try.prog [.tmp 4] Q)) : Cn Try.prog n0 (.func 21) [x0, x1] h Q :=
  @fn_enter Try.prog n0 mixed 21 Try.f21 F21.c0 [x0, x1] h Q Try.func21 F21.b F21.k0 F21.b2 18 F21.b3 [.tmp 4] F21.b4 (by simp) [(0, x0), (1, x1)] rfl (wback F21.d0 w)

end Go.Proofs.Ytjdcdabbbmhffaa
