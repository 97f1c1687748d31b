/- The texts of Go functions of this seat, as the evaluator comes to them: each is what wA says of the code. No condition. -/
import Derived.Test.YtjdcdabbbmhffaaEvAc3
import Derived.Test.YtjdcdabbbmhffaaSeat
set_option linter.unusedVariables false
namespace Go.Proofs.Ytjdcdabbbmhffaa
open Go.Ev

/-! slices.Sort[[]uint64,uint64] -/
noncomputable def F57.ac : AC := (ann (bodyOf Try.f57) [[0, 2]]).1
noncomputable def F57.c0 : AC := F57.ac
noncomputable def F57.p0 (n0 : Nat) : WP := wA Try.prog n0 11 none F57.c0
noncomputable def F57.t0 (n0 : Nat) (x0 : Value) (ds : List Nat) (h : H) (K : KP) : Prop :=
  Bnd2 (aBuiltin Try.prog .len #[22] [x0] h) fun t4 h1 =>
  Bnd2 (cvt Try.prog 3 61 t4 h1) fun t8 h2 =>
  Cn Try.prog n0 (.func 60) [t8] h2 fun t9 h3 =>
  Cn Try.prog n0 (.func 59) [x0, (.int .i64 0), t4, t9] h3 fun t10 h4 =>
  K .normal [(0, x0), (2, t4), (5, x0), (6, t4), (7, t4), (8, t8), (9, t9), (10, t10)] ds h4
theorem F57.g0 {n0 : Nat} (x0 : Value) {ds : List Nat} {h : H} {K : KP} : wA Try.prog n0 11 none F57.c0 [(0, x0)] ds h K = F57.t0 n0 x0 ds h K := by kernel_rfl
theorem F57.s0 {n0 : Nat} : F57.p0 n0 = wA Try.prog n0 11 none F57.c0 := by kernel_rfl
theorem F57.e0 {n0 : Nat} {x0 : Value} {ds : List Nat} {h : H} {K : KP} : F57.p0 n0 [(0, x0)] ds h K = F57.t0 n0 x0 ds h K :=
  wchain (F57.s0) (F57.g0 x0)
theorem F57.k0 : F57.c0.ok = true := by kernel_rfl
theorem F57.d0 {n0 : Nat} : F57.p0 n0 = wA Try.prog n0 11 none F57.c0 := by kernel_rfl
theorem F57.m0 (n0 : Nat) : MonoW (F57.p0 n0) := @mono_c Try.prog n0 11 none F57.c0 (F57.p0 n0) (F57.d0) F57.k0
theorem F57.b : Try.f57.body = some F57.c0.erase := by kernel_rfl
theorem F57.b2 : (Try.f57.name == "runtime.NumGoroutine") = false := by kernel_rfl
theorem F57.b3 : Try.f57.ntmps = 11 := by kernel_rfl
theorem F57.b4 : Try.f57.results.toList = [] := by kernel_rfl
theorem F57.enter {n0 : Nat} {x0 : Value} {h : H} {Q : Value → H → Prop} (w : F57.p0 n0 [(0, x0)] [] h (KFin Try.prog [] Q)) : Cn Try.prog n0 (.func 57) [x0] h Q :=
  @fn_enter Try.prog n0 mixed 57 Try.f57 F57.c0 [x0] h Q Try.func57 F57.b F57.k0 F57.b2 11 F57.b3 [] F57.b4 (by simp) [(0, x0)] rfl (wback F57.d0 w)

/-! slices.Compact[[]uint64,uint64] -/
noncomputable def F58.ac : AC := (ann (bodyOf Try.f58) [[0], [0], [0, 8], [0], [2], [0], [0, 3], [0], [0, 3], [0, 3], [0, 3, 13], [0, 3], [0, 3], [0, 3], [0, 3, 25], [0, 3], [0, 3, 4], [0, 3], [0, 3, 4, 5], [0, 3], [0, 3, 4, 5], [0, 3, 4, 5], [0, 3, 4, 5, 32], [0, 3, 4, 5], [0, 3, 4, 5], [0, 3, 4, 5], [0, 3, 4, 5, 44], [0, 3, 4, 5], [0, 3, 4, 5], [0, 3], [2], [2]]).1
noncomputable def F58.c0 : AC := F58.ac
noncomputable def F58.c1 : AC := F58.ac.snd.fst.snd.fst
noncomputable def F58.c2 : AC := F58.ac.snd.snd
noncomputable def F58.c3 : AC := F58.ac.snd.snd.fst.snd.fst.fst
noncomputable def F58.c4 : AC := F58.ac.snd.snd.fst.snd.fst.fst.snd
noncomputable def F58.c5 : AC := F58.ac.snd.snd.fst.snd.fst.fst.snd.fst.fst.snd.fst
noncomputable def F58.c6 : AC := F58.ac.snd.snd.fst.snd.fst.fst.snd.fst.fst.snd.fst.snd.fst.snd.fst.fst
noncomputable def F58.c7 : AC := F58.ac.snd.snd.fst.snd.fst.fst.snd.fst.fst.snd.fst.snd.fst.snd.fst.fst.snd
noncomputable def F58.c8 : AC := F58.ac.snd.snd.fst.snd.fst.fst.snd.fst.fst.snd.fst.snd.fst.snd.fst.fst.snd.fst.fst.snd.fst
noncomputable def F58.c9 : AC := F58.ac.snd.snd.fst.snd.fst.fst.snd.fst.fst.snd.fst.snd.fst.snd.fst.fst.snd.snd
noncomputable def F58.c10 : AC := F58.ac.snd.snd.fst.snd.fst.fst.snd.fst.fst.snd.fst.snd.snd
noncomputable def F58.c11 : AC := F58.ac.snd.snd.fst.snd.fst.fst.snd.snd
noncomputable def F58.c12 : AC := F58.ac.snd.snd.snd
noncomputable def F58.p0 (n0 : Nat) : WP := wA Try.prog n0 61 none F58.c0
noncomputable def F58.p1 (n0 : Nat) : WP := wA Try.prog n0 61 none F58.c1
noncomputable def F58.p2 (n0 : Nat) : WP := wA Try.prog n0 61 none F58.c2
noncomputable def F58.p3 (n0 : Nat) : WP := wA Try.prog n0 61 none F58.c3
noncomputable def F58.p4 (n0 : Nat) : WP := wA Try.prog n0 61 none F58.c4
noncomputable def F58.p5 (n0 : Nat) : WP := wA Try.prog n0 61 none F58.c5
noncomputable def F58.p6 (n0 : Nat) : WP := wA Try.prog n0 61 none F58.c6
noncomputable def F58.p7 (n0 : Nat) : WP := wA Try.prog n0 61 none F58.c7
noncomputable def F58.p8 (n0 : Nat) : WP := wA Try.prog n0 61 none F58.c8
noncomputable def F58.p9 (n0 : Nat) : WP := wA Try.prog n0 61 none F58.c9
noncomputable def F58.p10 (n0 : Nat) : WP := wA Try.prog n0 61 none F58.c10
noncomputable def F58.p11 (n0 : Nat) : WP := wA Try.prog n0 61 none F58.c11
noncomputable def F58.p12 (n0 : Nat) : WP := wA Try.prog n0 61 none F58.c12
noncomputable def F58.t0 (n0 : Nat) (B1 : WP) (B2 : WP) (s0 : Value) (ds : List Nat) (h : H) (K : KP) : Prop :=
  Bnd2 (aBuiltin Try.prog .len #[22] [s0] h) fun t7 h1 =>
  Bnd (aBin Try.prog true .lss 3 t7 (.int .i64 2)) fun t8 =>
  Cnd t8
   (B1 [(0, s0)] ds h1 (KSeq [0] B2 K))
   (B2 [(0, s0)] ds h1 K)
theorem F58.g0 {n0 : Nat} (B1 : WP) (B2 : WP) (s0 : Value) {ds : List Nat} {h : H} {K : KP} : wA Try.prog n0 61 none (.seq [0] F58.c0.fst (.seq [0] (.seq [0, 8] F58.c0.snd.fst.fst (.cond [0] (.tmp 8) (.sub B1) F58.c0.snd.fst.snd.snd)) (.sub B2))) [(0, s0)] ds h K = F58.t0 n0 B1 B2 s0 ds h K := by kernel_rfl
theorem F58.s0 {n0 : Nat} : F58.p0 n0 = wA Try.prog n0 61 none (.seq [0] F58.c0.fst (.seq [0] (.seq [0, 8] F58.c0.snd.fst.fst (.cond [0] (.tmp 8) (.sub (F58.p1 n0)) F58.c0.snd.fst.snd.snd)) (.sub (F58.p2 n0)))) := by kernel_rfl
theorem F58.e0 {n0 : Nat} {s0 : Value} {ds : List Nat} {h : H} {K : KP} : F58.p0 n0 [(0, s0)] ds h K = F58.t0 n0 (F58.p1 n0) (F58.p2 n0) s0 ds h K :=
  wchain (F58.s0) (F58.g0 (F58.p1 n0) (F58.p2 n0) s0)
theorem F58.k0 : F58.c0.ok = true := by kernel_rfl
theorem F58.d0 {n0 : Nat} : F58.p0 n0 = wA Try.prog n0 61 none F58.c0 := by kernel_rfl
theorem F58.m0 (n0 : Nat) : MonoW (F58.p0 n0) := @mono_c Try.prog n0 61 none F58.c0 (F58.p0 n0) (F58.d0) F58.k0
noncomputable def F58.t1 (n0 : Nat) (s0 : Value) (ds : List Nat) (h : H) (K : KP) : Prop :=
  K .ret [(2, s0)] ds h
theorem F58.g1 {n0 : Nat} (s0 : Value) {ds : List Nat} {h : H} {K : KP} : wA Try.prog n0 61 none F58.c1 [(0, s0)] ds h K = F58.t1 n0 s0 ds h K := by kernel_rfl
theorem F58.s1 {n0 : Nat} : F58.p1 n0 = wA Try.prog n0 61 none F58.c1 := by kernel_rfl
theorem F58.e1 {n0 : Nat} {s0 : Value} {ds : List Nat} {h : H} {K : KP} : F58.p1 n0 [(0, s0)] ds h K = F58.t1 n0 s0 ds h K :=
  wchain (F58.s1) (F58.g1 s0)
noncomputable def F58.t2 (n0 : Nat) (B3 : WP) (B12 : WP) (s0 : Value) (ds : List Nat) (h : H) (K : KP) : Prop :=
  Lp [0, 3] B3 [(0, s0), (3, (.int .i64 1))] ds h (KBlk [0] 0 (KSeq [0] B12 K))
theorem F58.g2 {n0 : Nat} (B3 : WP) (B12 : WP) (s0 : Value) {ds : List Nat} {h : H} {K : KP} : wA Try.prog n0 61 none (.seq [0] (.seq [0, 3] F58.c2.fst.fst (.block [0] 0 (.loop [0, 3] (.sub B3)))) (.sub B12)) [(0, s0)] ds h K = F58.t2 n0 B3 B12 s0 ds h K := by kernel_rfl
theorem F58.s2 {n0 : Nat} : F58.p2 n0 = wA Try.prog n0 61 none (.seq [0] (.seq [0, 3] F58.c2.fst.fst (.block [0] 0 (.loop [0, 3] (.sub (F58.p3 n0))))) (.sub (F58.p12 n0))) := by kernel_rfl
theorem F58.e2 {n0 : Nat} {s0 : Value} {ds : List Nat} {h : H} {K : KP} : F58.p2 n0 [(0, s0)] ds h K = F58.t2 n0 (F58.p3 n0) (F58.p12 n0) s0 ds h K :=
  wchain (F58.s2) (F58.g2 (F58.p3 n0) (F58.p12 n0) s0)
noncomputable def F58.t3 (n0 : Nat) (B4 : WP) (s0 k3 : Value) (ds : List Nat) (h : H) (K : KP) : Prop :=
  Bnd2 (aBuiltin Try.prog .len #[22] [s0] h) fun t12 h1 =>
  Bnd (aBin Try.prog false .lss 3 k3 t12) fun t13 =>
  Cnd t13
   (B4 [(0, s0), (3, k3)] ds h1 K)
   (K (.exit 0) [(0, s0), (3, k3)] ds h1)
theorem F58.g3 {n0 : Nat} (B4 : WP) (s0 k3 : Value) {ds : List Nat} {h : H} {K : KP} : wA Try.prog n0 61 none (.seq [0, 3] F58.c3.fst (.sub B4)) [(0, s0), (3, k3)] ds h K = F58.t3 n0 B4 s0 k3 ds h K := by kernel_rfl
theorem F58.s3 {n0 : Nat} : F58.p3 n0 = wA Try.prog n0 61 none (.seq [0, 3] F58.c3.fst (.sub (F58.p4 n0))) := by kernel_rfl
theorem F58.e3 {n0 : Nat} {s0 k3 : Value} {ds : List Nat} {h : H} {K : KP} : F58.p3 n0 [(0, s0), (3, k3)] ds h K = F58.t3 n0 (F58.p4 n0) s0 k3 ds h K :=
  wchain (F58.s3) (F58.g3 (F58.p4 n0) s0 k3)
theorem F58.k3 : F58.c3.ok = true := by kernel_rfl
theorem F58.d3 {n0 : Nat} : F58.p3 n0 = wA Try.prog n0 61 none F58.c3 := by kernel_rfl
theorem F58.m3 (n0 : Nat) : MonoW (F58.p3 n0) := @mono_c Try.prog n0 61 none F58.c3 (F58.p3 n0) (F58.d3) F58.k3
noncomputable def F58.t4 (n0 : Nat) (B5 : WP) (B11 : WP) (s0 k3 : Value) (ds : List Nat) (h : H) (K : KP) : Prop :=
  Bnd (aIndexAddr Try.prog 22 s0 k3) fun t18 =>
  Bnd (aLoad Try.prog 23 t18 h) fun t19 =>
  Bnd (aBin Try.prog true .sub 3 k3 (.int .i64 1)) fun t22 =>
  Bnd (aIndexAddr Try.prog 22 s0 t22) fun t23 =>
  Bnd (aLoad Try.prog 23 t23 h) fun t24 =>
  Bnd (aBin Try.prog false .eql 23 t19 t24) fun t25 =>
  Cnd t25
   (B5 [(0, s0), (3, k3)] ds h (KBlk [0, 3] 1 (KSeq [0, 3] B11 K)))
   (B11 [(0, s0), (3, k3)] ds h K)
theorem F58.g4 {n0 : Nat} (B5 : WP) (B11 : WP) (s0 k3 : Value) {ds : List Nat} {h : H} {K : KP} : wA Try.prog n0 61 none (.seq [0, 3] (.block [0, 3] 1 (.seq [0, 3, 25] F58.c4.fst.fst.fst (.cond [0, 3] (.tmp 25) (.sub B5) F58.c4.fst.fst.snd.snd))) (.sub B11)) [(0, s0), (3, k3)] ds h K = F58.t4 n0 B5 B11 s0 k3 ds h K := by kernel_rfl
theorem F58.s4 {n0 : Nat} : F58.p4 n0 = wA Try.prog n0 61 none (.seq [0, 3] (.block [0, 3] 1 (.seq [0, 3, 25] F58.c4.fst.fst.fst (.cond [0, 3] (.tmp 25) (.sub (F58.p5 n0)) F58.c4.fst.fst.snd.snd))) (.sub (F58.p11 n0))) := by kernel_rfl
theorem F58.e4 {n0 : Nat} {s0 k3 : Value} {ds : List Nat} {h : H} {K : KP} : F58.p4 n0 [(0, s0), (3, k3)] ds h K = F58.t4 n0 (F58.p5 n0) (F58.p11 n0) s0 k3 ds h K :=
  wchain (F58.s4) (F58.g4 (F58.p5 n0) (F58.p11 n0) s0 k3)
noncomputable def F58.t5 (n0 : Nat) (B6 : WP) (B10 : WP) (s0 k3 : Value) (ds : List Nat) (h : H) (K : KP) : Prop :=
  Bnd (aSlice Try.prog 22 s0 (some k3) none none h) fun t28 =>
  Lp [0, 3, 4, 5] B6 [(0, s0), (3, k3), (4, t28), (5, (.int .i64 1))] ds h (KBlk [0, 3] 2 (KSeq [0, 3] B10 K))
theorem F58.g5 {n0 : Nat} (B6 : WP) (B10 : WP) (s0 k3 : Value) {ds : List Nat} {h : H} {K : KP} : wA Try.prog n0 61 none (.seq [0, 3, 4] F58.c5.fst (.seq [0, 3] (.seq [0, 3, 4, 5] F58.c5.snd.fst.fst (.block [0, 3] 2 (.loop [0, 3, 4, 5] (.sub B6)))) (.sub B10))) [(0, s0), (3, k3)] ds h K = F58.t5 n0 B6 B10 s0 k3 ds h K := by kernel_rfl
theorem F58.s5 {n0 : Nat} : F58.p5 n0 = wA Try.prog n0 61 none (.seq [0, 3, 4] F58.c5.fst (.seq [0, 3] (.seq [0, 3, 4, 5] F58.c5.snd.fst.fst (.block [0, 3] 2 (.loop [0, 3, 4, 5] (.sub (F58.p6 n0))))) (.sub (F58.p10 n0)))) := by kernel_rfl
theorem F58.e5 {n0 : Nat} {s0 k3 : Value} {ds : List Nat} {h : H} {K : KP} : F58.p5 n0 [(0, s0), (3, k3)] ds h K = F58.t5 n0 (F58.p6 n0) (F58.p10 n0) s0 k3 ds h K :=
  wchain (F58.s5) (F58.g5 (F58.p6 n0) (F58.p10 n0) s0 k3)
noncomputable def F58.t6 (n0 : Nat) (B7 : WP) (s0 k3 s24 k25 : Value) (ds : List Nat) (h : H) (K : KP) : Prop :=
  Bnd2 (aBuiltin Try.prog .len #[22] [s24] h) fun t31 h1 =>
  Bnd (aBin Try.prog false .lss 3 k25 t31) fun t32 =>
  Cnd t32
   (B7 [(0, s0), (3, k3), (4, s24), (5, k25)] ds h1 K)
   (K (.exit 2) [(0, s0), (3, k3), (4, s24), (5, k25)] ds h1)
theorem F58.g6 {n0 : Nat} (B7 : WP) (s0 k3 s24 k25 : Value) {ds : List Nat} {h : H} {K : KP} : wA Try.prog n0 61 none (.seq [0, 3, 4, 5] F58.c6.fst (.sub B7)) [(0, s0), (3, k3), (4, s24), (5, k25)] ds h K = F58.t6 n0 B7 s0 k3 s24 k25 ds h K := by kernel_rfl
theorem F58.s6 {n0 : Nat} : F58.p6 n0 = wA Try.prog n0 61 none (.seq [0, 3, 4, 5] F58.c6.fst (.sub (F58.p7 n0))) := by kernel_rfl
theorem F58.e6 {n0 : Nat} {s0 k3 s24 k25 : Value} {ds : List Nat} {h : H} {K : KP} : F58.p6 n0 [(0, s0), (3, k3), (4, s24), (5, k25)] ds h K = F58.t6 n0 (F58.p7 n0) s0 k3 s24 k25 ds h K :=
  wchain (F58.s6) (F58.g6 (F58.p7 n0) s0 k3 s24 k25)
theorem F58.k6 : F58.c6.ok = true := by kernel_rfl
theorem F58.d6 {n0 : Nat} : F58.p6 n0 = wA Try.prog n0 61 none F58.c6 := by kernel_rfl
theorem F58.m6 (n0 : Nat) : MonoW (F58.p6 n0) := @mono_c Try.prog n0 61 none F58.c6 (F58.p6 n0) (F58.d6) F58.k6
noncomputable def F58.t7 (n0 : Nat) (B8 : WP) (B9 : WP) (s0 k3 s24 k25 : Value) (ds : List Nat) (h : H) (K : KP) : Prop :=
  Bnd (aIndexAddr Try.prog 22 s24 k25) fun t37 =>
  Bnd (aLoad Try.prog 23 t37 h) fun t38 =>
  Bnd (aBin Try.prog true .sub 3 k25 (.int .i64 1)) fun t41 =>
  Bnd (aIndexAddr Try.prog 22 s24 t41) fun t42 =>
  Bnd (aLoad Try.prog 23 t42 h) fun t43 =>
  Bnd (aBin Try.prog false .neq 23 t38 t43) fun t44 =>
  Cnd t44
   (B8 [(0, s0), (3, k3), (4, s24), (5, k25)] ds h (KBlk [0, 3, 4, 5] 3 (KSeq [0, 3, 4, 5] B9 K)))
   (B9 [(0, s0), (3, k3), (4, s24), (5, k25)] ds h K)
theorem F58.g7 {n0 : Nat} (B8 : WP) (B9 : WP) (s0 k3 s24 k25 : Value) {ds : List Nat} {h : H} {K : KP} : wA Try.prog n0 61 none (.seq [0, 3, 4, 5] (.block [0, 3, 4, 5] 3 (.seq [0, 3, 4, 5, 44] F58.c7.fst.fst.fst (.cond [0, 3, 4, 5] (.tmp 44) (.sub B8) F58.c7.fst.fst.snd.snd))) (.sub B9)) [(0, s0), (3, k3), (4, s24), (5, k25)] ds h K = F58.t7 n0 B8 B9 s0 k3 s24 k25 ds h K := by kernel_rfl
theorem F58.s7 {n0 : Nat} : F58.p7 n0 = wA Try.prog n0 61 none (.seq [0, 3, 4, 5] (.block [0, 3, 4, 5] 3 (.seq [0, 3, 4, 5, 44] F58.c7.fst.fst.fst (.cond [0, 3, 4, 5] (.tmp 44) (.sub (F58.p8 n0)) F58.c7.fst.fst.snd.snd))) (.sub (F58.p9 n0))) := by kernel_rfl
theorem F58.e7 {n0 : Nat} {s0 k3 s24 k25 : Value} {ds : List Nat} {h : H} {K : KP} : F58.p7 n0 [(0, s0), (3, k3), (4, s24), (5, k25)] ds h K = F58.t7 n0 (F58.p8 n0) (F58.p9 n0) s0 k3 s24 k25 ds h K :=
  wchain (F58.s7) (F58.g7 (F58.p8 n0) (F58.p9 n0) s0 k3 s24 k25)
noncomputable def F58.t8 (n0 : Nat) (s0 k3 s24 k25 : Value) (ds : List Nat) (h : H) (K : KP) : Prop :=
  Bnd (aIndexAddr Try.prog 22 s24 k25) fun t49 =>
  Bnd (aLoad Try.prog 23 t49 h) fun t50 =>
  Bnd (aIndexAddr Try.prog 22 s0 k3) fun t51 =>
  Bnd (aStore Try.prog 23 t51 t50 h) fun h1 =>
  Bnd (aBin Try.prog true .add 3 k3 (.int .i64 1)) fun t53 =>
  K .normal [(0, s0), (3, t53), (4, s24), (5, k25), (52, k3), (53, t53)] ds h1
theorem F58.g8 {n0 : Nat} (s0 k3 s24 k25 : Value) {ds : List Nat} {h : H} {K : KP} : wA Try.prog n0 61 none F58.c8 [(0, s0), (3, k3), (4, s24), (5, k25)] ds h K = F58.t8 n0 s0 k3 s24 k25 ds h K := by kernel_rfl
theorem F58.s8 {n0 : Nat} : F58.p8 n0 = wA Try.prog n0 61 none F58.c8 := by kernel_rfl
theorem F58.e8 {n0 : Nat} {s0 k3 s24 k25 : Value} {ds : List Nat} {h : H} {K : KP} : F58.p8 n0 [(0, s0), (3, k3), (4, s24), (5, k25)] ds h K = F58.t8 n0 s0 k3 s24 k25 ds h K :=
  wchain (F58.s8) (F58.g8 s0 k3 s24 k25)
noncomputable def F58.t9 (n0 : Nat) (s0 k3 s24 k25 : Value) (ds : List Nat) (h : H) (K : KP) : Prop :=
  Bnd (aBin Try.prog true .add 3 k25 (.int .i64 1)) fun t34 =>
  K .normal [(0, s0), (3, k3), (4, s24), (5, t34), (33, k25), (34, t34)] ds h
theorem F58.g9 {n0 : Nat} (s0 k3 s24 k25 : Value) {ds : List Nat} {h : H} {K : KP} : wA Try.prog n0 61 none F58.c9 [(0, s0), (3, k3), (4, s24), (5, k25)] ds h K = F58.t9 n0 s0 k3 s24 k25 ds h K := by kernel_rfl
theorem F58.s9 {n0 : Nat} : F58.p9 n0 = wA Try.prog n0 61 none F58.c9 := by kernel_rfl
theorem F58.e9 {n0 : Nat} {s0 k3 s24 k25 : Value} {ds : List Nat} {h : H} {K : KP} : F58.p9 n0 [(0, s0), (3, k3), (4, s24), (5, k25)] ds h K = F58.t9 n0 s0 k3 s24 k25 ds h K :=
  wchain (F58.s9) (F58.g9 s0 k3 s24 k25)
noncomputable def F58.t10 (n0 : Nat) (s0 k3 : Value) (ds : List Nat) (h : H) (K : KP) : Prop :=
  Bnd (aSlice Try.prog 22 s0 (some k3) none none h) fun t56 =>
  Bnd2 (aBuiltin Try.prog .clear #[22] [t56] h) fun u h1 =>
  Bnd (aSlice Try.prog 22 s0 none (some k3) none h1) fun t59 =>
  K .ret [(2, t59)] ds h1
theorem F58.g10 {n0 : Nat} (s0 k3 : Value) {ds : List Nat} {h : H} {K : KP} : wA Try.prog n0 61 none F58.c10 [(0, s0), (3, k3)] ds h K = F58.t10 n0 s0 k3 ds h K := by kernel_rfl
theorem F58.s10 {n0 : Nat} : F58.p10 n0 = wA Try.prog n0 61 none F58.c10 := by kernel_rfl
theorem F58.e10 {n0 : Nat} {s0 k3 : Value} {ds : List Nat} {h : H} {K : KP} : F58.p10 n0 [(0, s0), (3, k3)] ds h K = F58.t10 n0 s0 k3 ds h K :=
  wchain (F58.s10) (F58.g10 s0 k3)
noncomputable def F58.t11 (n0 : Nat) (s0 k3 : Value) (ds : List Nat) (h : H) (K : KP) : Prop :=
  Bnd (aBin Try.prog true .add 3 k3 (.int .i64 1)) fun t15 =>
  K .normal [(0, s0), (3, t15), (14, k3), (15, t15)] ds h
theorem F58.g11 {n0 : Nat} (s0 k3 : Value) {ds : List Nat} {h : H} {K : KP} : wA Try.prog n0 61 none F58.c11 [(0, s0), (3, k3)] ds h K = F58.t11 n0 s0 k3 ds h K := by kernel_rfl
theorem F58.s11 {n0 : Nat} : F58.p11 n0 = wA Try.prog n0 61 none F58.c11 := by kernel_rfl
theorem F58.e11 {n0 : Nat} {s0 k3 : Value} {ds : List Nat} {h : H} {K : KP} : F58.p11 n0 [(0, s0), (3, k3)] ds h K = F58.t11 n0 s0 k3 ds h K :=
  wchain (F58.s11) (F58.g11 s0 k3)
noncomputable def F58.t12 (n0 : Nat) (s0 : Value) (ds : List Nat) (h : H) (K : KP) : Prop :=
  K .ret [(2, s0)] ds h
theorem F58.g12 {n0 : Nat} (s0 : Value) {ds : List Nat} {h : H} {K : KP} : wA Try.prog n0 61 none F58.c12 [(0, s0)] ds h K = F58.t12 n0 s0 ds h K := by kernel_rfl
theorem F58.s12 {n0 : Nat} : F58.p12 n0 = wA Try.prog n0 61 none F58.c12 := by kernel_rfl
theorem F58.e12 {n0 : Nat} {s0 : Value} {ds : List Nat} {h : H} {K : KP} : F58.p12 n0 [(0, s0)] ds h K = F58.t12 n0 s0 ds h K :=
  wchain (F58.s12) (F58.g12 s0)
theorem F58.b : Try.f58.body = some F58.c0.erase := by kernel_rfl
theorem F58.b2 : (Try.f58.name == "runtime.NumGoroutine") = false := by kernel_rfl
theorem F58.b3 : Try.f58.ntmps = 61 := by kernel_rfl
theorem F58.b4 : Try.f58.results.toList = [.tmp 2] := by kernel_rfl
theorem F58.enter {n0 : Nat} {x0 : Value} {h : H} {Q : Value → H → Prop} (w : F58.p0 n0 [(0, x0)] [] h (KFin Try.prog [.tmp 2] Q)) : Cn Try.prog n0 (.func 58) [x0] h Q :=
  @fn_enter Try.prog n0 mixed 58 Try.f58 F58.c0 [x0] h Q Try.func58 F58.b F58.k0 F58.b2 61 F58.b3 [.tmp 2] F58.b4 (by simp) [(0, x0)] rfl (wback F58.d0 w)

/-! slices.pdqsortOrdered[uint64] -/
noncomputable def F59.ac : AC := (ann (bodyOf Try.f59) [[0, 1, 2, 3, 8], [0, 1, 2, 3, 8, 9], [], [0, 1, 2, 3, 8, 9], [0, 1, 2, 3, 8, 9], [0, 1, 2, 3, 8, 9, 10], [0, 1, 2, 3, 8, 9, 10], [0, 1, 2, 3, 8, 9, 10, 23], [0, 1, 2, 3, 8, 9, 10], [], [0, 1, 2, 3, 8, 9, 10], [0, 1, 2, 3, 8, 9, 10, 29], [0, 1, 2, 3, 8, 9, 10], [], [0, 1, 2, 3, 8, 9, 10], [0, 1, 2, 3, 8, 9, 10, 35], [0, 1, 2, 3, 8, 9, 10], [0, 1, 2, 3, 8, 9, 10], [0, 1, 2, 3, 8, 9, 10, 11, 12], [0, 1, 2, 3, 8, 9, 10, 11, 12], [0, 1, 2, 3, 8, 9, 10, 11, 12, 50], [0, 1, 2, 3, 8, 9, 10, 11, 12], [0, 1, 2, 3, 8, 9, 10, 11], [0, 1, 2, 3, 8, 9, 10, 11], [0, 1, 2, 3, 8, 9, 10, 11], [0, 1, 2, 3, 8, 9, 10, 11, 68], [0, 1, 2, 3, 8, 9, 10, 11], [0, 1, 2, 3, 8, 9, 10, 11, 72], [0, 1, 2, 3, 8, 9, 10, 11], [0, 1, 2, 3, 10, 11], [0, 1, 2, 3, 8, 9, 10, 11, 87], [0, 1, 2, 3, 8, 9, 10, 11], [0, 2, 3, 8, 9, 13], [0, 1, 2, 3, 8, 9], [0, 1, 2, 3, 10, 14, 15], [0, 1, 2, 3, 9, 10, 14], [0, 1, 2, 3, 9, 10, 14, 16, 17], [0, 1, 2, 3, 9, 14, 16, 17, 18], [0, 1, 2, 3, 9, 14, 16, 17, 18, 113], [0, 1, 2, 3, 9, 14, 16, 17, 18], [0, 1, 2, 3, 8, 9, 14], [0, 2, 3, 8, 9, 14], [0, 1, 2, 3, 8, 9, 14], [0, 1, 3, 8, 9, 14]]).1
noncomputable def F59.c0 : AC := F59.ac
noncomputable def F59.c1 : AC := F59.ac.snd.snd.fst.fst
noncomputable def F59.c2 : AC := F59.ac.snd.snd.fst.fst.fst.snd.fst.snd.fst
noncomputable def F59.c3 : AC := F59.ac.snd.snd.fst.fst.fst.snd.snd
noncomputable def F59.c4 : AC := F59.ac.snd.snd.fst.fst.fst.snd.snd.fst.snd.fst
noncomputable def F59.c5 : AC := F59.ac.snd.snd.fst.fst.fst.snd.snd.snd
noncomputable def F59.c6 : AC := F59.ac.snd.snd.fst.fst.fst.snd.snd.snd.fst.snd.fst
noncomputable def F59.c7 : AC := F59.ac.snd.snd.fst.fst.fst.snd.snd.snd.snd
noncomputable def F59.c8 : AC := F59.ac.snd.snd.fst.fst.fst.snd.snd.snd.snd.snd.fst.snd.fst
noncomputable def F59.c9 : AC := F59.ac.snd.snd.fst.fst.fst.snd.snd.snd.snd.snd.snd
noncomputable def F59.c10 : AC := F59.ac.snd.snd.fst.fst.fst.snd.snd.snd.snd.snd.snd.fst.snd.fst
noncomputable def F59.c11 : AC := F59.ac.snd.snd.fst.fst.fst.snd.snd.snd.snd.snd.snd.snd
noncomputable def F59.c12 : AC := F59.ac.snd.snd.fst.fst.fst.snd.snd.snd.snd.snd.snd.snd.fst.snd.fst
noncomputable def F59.c13 : AC := F59.ac.snd.snd.fst.fst.fst.snd.snd.snd.snd.snd.snd.snd.snd
noncomputable def F59.c14 : AC := F59.ac.snd.snd.fst.fst.fst.snd.snd.snd.snd.snd.snd.snd.snd.snd.snd.snd.snd.snd.fst
noncomputable def F59.c15 : AC := F59.ac.snd.snd.fst.fst.fst.snd.snd.snd.snd.snd.snd.snd.snd.snd.snd.snd.snd.snd.snd
noncomputable def F59.p0 (n0 : Nat) : WP := wA Try.prog n0 134 none F59.c0
noncomputable def F59.p1 (n0 : Nat) : WP := wA Try.prog n0 134 none F59.c1
noncomputable def F59.p2 (n0 : Nat) : WP := wA Try.prog n0 134 none F59.c2
noncomputable def F59.p3 (n0 : Nat) : WP := wA Try.prog n0 134 none F59.c3
noncomputable def F59.p4 (n0 : Nat) : WP := wA Try.prog n0 134 none F59.c4
noncomputable def F59.p5 (n0 : Nat) : WP := wA Try.prog n0 134 none F59.c5
noncomputable def F59.p6 (n0 : Nat) : WP := wA Try.prog n0 134 none F59.c6
noncomputable def F59.p7 (n0 : Nat) : WP := wA Try.prog n0 134 none F59.c7
noncomputable def F59.p8 (n0 : Nat) : WP := wA Try.prog n0 134 none F59.c8
noncomputable def F59.p9 (n0 : Nat) : WP := wA Try.prog n0 134 none F59.c9
noncomputable def F59.p10 (n0 : Nat) : WP := wA Try.prog n0 134 none F59.c10
noncomputable def F59.p11 (n0 : Nat) : WP := wA Try.prog n0 134 none F59.c11
noncomputable def F59.p12 (n0 : Nat) : WP := wA Try.prog n0 134 none F59.c12
noncomputable def F59.p13 (n0 : Nat) : WP := wA Try.prog n0 134 none F59.c13
noncomputable def F59.p14 (n0 : Nat) : WP := wA Try.prog n0 134 none F59.c14
noncomputable def F59.p15 (n0 : Nat) : WP := wA Try.prog n0 134 none F59.c15
noncomputable def F59.t0 (n0 : Nat) (B1 : WP) (data0 a1 b2 limit3 : Value) (ds : List Nat) (h : H) (K : KP) : Prop :=
  Lp [0, 1, 2, 3, 8, 9] B1 [(0, data0), (1, a1), (2, b2), (3, limit3), (8, (.bool true)), (9, (.bool true))] ds h (KBlk [] 0 K)
theorem F59.g0 {n0 : Nat} (B1 : WP) (data0 a1 b2 limit3 : Value) {ds : List Nat} {h : H} {K : KP} : wA Try.prog n0 134 none (.seq [0, 1, 2, 3, 8] F59.c0.fst (.seq [0, 1, 2, 3, 8, 9] F59.c0.snd.fst (.block [] 0 (.loop [0, 1, 2, 3, 8, 9] (.sub B1))))) [(0, data0), (1, a1), (2, b2), (3, limit3)] ds h K = F59.t0 n0 B1 data0 a1 b2 limit3 ds h K := by kernel_rfl
theorem F59.s0 {n0 : Nat} : F59.p0 n0 = wA Try.prog n0 134 none (.seq [0, 1, 2, 3, 8] F59.c0.fst (.seq [0, 1, 2, 3, 8, 9] F59.c0.snd.fst (.block [] 0 (.loop [0, 1, 2, 3, 8, 9] (.sub (F59.p1 n0)))))) := by kernel_rfl
theorem F59.e0 {n0 : Nat} {data0 a1 b2 limit3 : Value} {ds : List Nat} {h : H} {K : KP} : F59.p0 n0 [(0, data0), (1, a1), (2, b2), (3, limit3)] ds h K = F59.t0 n0 (F59.p1 n0) data0 a1 b2 limit3 ds h K :=
  wchain (F59.s0) (F59.g0 (F59.p1 n0) data0 a1 b2 limit3)
theorem F59.k0 : F59.c0.ok = true := by kernel_rfl
theorem F59.d0 {n0 : Nat} : F59.p0 n0 = wA Try.prog n0 134 none F59.c0 := by kernel_rfl
theorem F59.m0 (n0 : Nat) : MonoW (F59.p0 n0) := @mono_c Try.prog n0 134 none F59.c0 (F59.p0 n0) (F59.d0) F59.k0
noncomputable def F59.t1 (n0 : Nat) (B2 : WP) (B3 : WP) (data0 a1 b2 limit3 wasBalanced8 wasPartitioned9 : Value) (ds : List Nat) (h : H) (K : KP) : Prop :=
  Bnd (aBin Try.prog false .sub 3 b2 a1) fun t21 =>
  Bnd (aBin Try.prog true .leq 3 t21 (.int .i64 12)) fun t23 =>
  Cnd t23
   (B2 [(0, data0), (1, a1), (2, b2), (3, limit3), (8, wasBalanced8), (9, wasPartitioned9), (10, t21)] ds h (KSeq [0, 1, 2, 3, 8, 9, 10] B3 (KBlk [0, 1, 2, 3, 8, 9] 1 K)))
   (B3 [(0, data0), (1, a1), (2, b2), (3, limit3), (8, wasBalanced8), (9, wasPartitioned9), (10, t21)] ds h (KBlk [0, 1, 2, 3, 8, 9] 1 K))
theorem F59.g1 {n0 : Nat} (B2 : WP) (B3 : WP) (data0 a1 b2 limit3 wasBalanced8 wasPartitioned9 : Value) {ds : List Nat} {h : H} {K : KP} : wA Try.prog n0 134 none (.block [0, 1, 2, 3, 8, 9] 1 (.seq [0, 1, 2, 3, 8, 9, 10] F59.c1.fst.fst (.seq [0, 1, 2, 3, 8, 9, 10] (.seq [0, 1, 2, 3, 8, 9, 10, 23] F59.c1.fst.snd.fst.fst (.cond [0, 1, 2, 3, 8, 9, 10] (.tmp 23) (.sub B2) F59.c1.fst.snd.fst.snd.snd)) (.sub B3)))) [(0, data0), (1, a1), (2, b2), (3, limit3), (8, wasBalanced8), (9, wasPartitioned9)] ds h K = F59.t1 n0 B2 B3 data0 a1 b2 limit3 wasBalanced8 wasPartitioned9 ds h K := by kernel_rfl
theorem F59.s1 {n0 : Nat} : F59.p1 n0 = wA Try.prog n0 134 none (.block [0, 1, 2, 3, 8, 9] 1 (.seq [0, 1, 2, 3, 8, 9, 10] F59.c1.fst.fst (.seq [0, 1, 2, 3, 8, 9, 10] (.seq [0, 1, 2, 3, 8, 9, 10, 23] F59.c1.fst.snd.fst.fst (.cond [0, 1, 2, 3, 8, 9, 10] (.tmp 23) (.sub (F59.p2 n0)) F59.c1.fst.snd.fst.snd.snd)) (.sub (F59.p3 n0))))) := by kernel_rfl
theorem F59.e1 {n0 : Nat} {data0 a1 b2 limit3 wasBalanced8 wasPartitioned9 : Value} {ds : List Nat} {h : H} {K : KP} : F59.p1 n0 [(0, data0), (1, a1), (2, b2), (3, limit3), (8, wasBalanced8), (9, wasPartitioned9)] ds h K = F59.t1 n0 (F59.p2 n0) (F59.p3 n0) data0 a1 b2 limit3 wasBalanced8 wasPartitioned9 ds h K :=
  wchain (F59.s1) (F59.g1 (F59.p2 n0) (F59.p3 n0) data0 a1 b2 limit3 wasBalanced8 wasPartitioned9)
theorem F59.k1 : F59.c1.ok = true := by kernel_rfl
theorem F59.d1 {n0 : Nat} : F59.p1 n0 = wA Try.prog n0 134 none F59.c1 := by kernel_rfl
theorem F59.m1 (n0 : Nat) : MonoW (F59.p1 n0) := @mono_c Try.prog n0 134 none F59.c1 (F59.p1 n0) (F59.d1) F59.k1
noncomputable def F59.t2 (n0 : Nat) (data0 a1 b2 limit3 wasBalanced8 wasPartitioned9 length10 : Value) (ds : List Nat) (h : H) (K : KP) : Prop :=
  Cn Try.prog n0 (.func 61) [data0, a1, b2] h fun t27 h1 =>
  K .ret [] ds h1
theorem F59.g2 {n0 : Nat} (data0 a1 b2 limit3 wasBalanced8 wasPartitioned9 length10 : Value) {ds : List Nat} {h : H} {K : KP} : wA Try.prog n0 134 none F59.c2 [(0, data0), (1, a1), (2, b2), (3, limit3), (8, wasBalanced8), (9, wasPartitioned9), (10, length10)] ds h K = F59.t2 n0 data0 a1 b2 limit3 wasBalanced8 wasPartitioned9 length10 ds h K := by kernel_rfl
theorem F59.s2 {n0 : Nat} : F59.p2 n0 = wA Try.prog n0 134 none F59.c2 := by kernel_rfl
theorem F59.e2 {n0 : Nat} {data0 a1 b2 limit3 wasBalanced8 wasPartitioned9 length10 : Value} {ds : List Nat} {h : H} {K : KP} : F59.p2 n0 [(0, data0), (1, a1), (2, b2), (3, limit3), (8, wasBalanced8), (9, wasPartitioned9), (10, length10)] ds h K = F59.t2 n0 data0 a1 b2 limit3 wasBalanced8 wasPartitioned9 length10 ds h K :=
  wchain (F59.s2) (F59.g2 data0 a1 b2 limit3 wasBalanced8 wasPartitioned9 length10)
noncomputable def F59.t3 (n0 : Nat) (B4 : WP) (B5 : WP) (data0 a1 b2 limit3 wasBalanced8 wasPartitioned9 length10 : Value) (ds : List Nat) (h : H) (K : KP) : Prop :=
  Bnd (aBin Try.prog true .eql 3 limit3 (.int .i64 0)) fun t29 =>
  Cnd t29
   (B4 [(0, data0), (1, a1), (2, b2), (3, limit3), (8, wasBalanced8), (9, wasPartitioned9), (10, length10)] ds h (KSeq [0, 1, 2, 3, 8, 9, 10] B5 K))
   (B5 [(0, data0), (1, a1), (2, b2), (3, limit3), (8, wasBalanced8), (9, wasPartitioned9), (10, length10)] ds h K)
theorem F59.g3 {n0 : Nat} (B4 : WP) (B5 : WP) (data0 a1 b2 limit3 wasBalanced8 wasPartitioned9 length10 : Value) {ds : List Nat} {h : H} {K : KP} : wA Try.prog n0 134 none (.seq [0, 1, 2, 3, 8, 9, 10] (.seq [0, 1, 2, 3, 8, 9, 10, 29] F59.c3.fst.fst (.cond [0, 1, 2, 3, 8, 9, 10] (.tmp 29) (.sub B4) F59.c3.fst.snd.snd)) (.sub B5)) [(0, data0), (1, a1), (2, b2), (3, limit3), (8, wasBalanced8), (9, wasPartitioned9), (10, length10)] ds h K = F59.t3 n0 B4 B5 data0 a1 b2 limit3 wasBalanced8 wasPartitioned9 length10 ds h K := by kernel_rfl
theorem F59.s3 {n0 : Nat} : F59.p3 n0 = wA Try.prog n0 134 none (.seq [0, 1, 2, 3, 8, 9, 10] (.seq [0, 1, 2, 3, 8, 9, 10, 29] F59.c3.fst.fst (.cond [0, 1, 2, 3, 8, 9, 10] (.tmp 29) (.sub (F59.p4 n0)) F59.c3.fst.snd.snd)) (.sub (F59.p5 n0))) := by kernel_rfl
theorem F59.e3 {n0 : Nat} {data0 a1 b2 limit3 wasBalanced8 wasPartitioned9 length10 : Value} {ds : List Nat} {h : H} {K : KP} : F59.p3 n0 [(0, data0), (1, a1), (2, b2), (3, limit3), (8, wasBalanced8), (9, wasPartitioned9), (10, length10)] ds h K = F59.t3 n0 (F59.p4 n0) (F59.p5 n0) data0 a1 b2 limit3 wasBalanced8 wasPartitioned9 length10 ds h K :=
  wchain (F59.s3) (F59.g3 (F59.p4 n0) (F59.p5 n0) data0 a1 b2 limit3 wasBalanced8 wasPartitioned9 length10)
noncomputable def F59.t4 (n0 : Nat) (data0 a1 b2 limit3 wasBalanced8 wasPartitioned9 length10 : Value) (ds : List Nat) (h : H) (K : KP) : Prop :=
  Cn Try.prog n0 (.func 62) [data0, a1, b2] h fun t33 h1 =>
  K .ret [] ds h1
theorem F59.g4 {n0 : Nat} (data0 a1 b2 limit3 wasBalanced8 wasPartitioned9 length10 : Value) {ds : List Nat} {h : H} {K : KP} : wA Try.prog n0 134 none F59.c4 [(0, data0), (1, a1), (2, b2), (3, limit3), (8, wasBalanced8), (9, wasPartitioned9), (10, length10)] ds h K = F59.t4 n0 data0 a1 b2 limit3 wasBalanced8 wasPartitioned9 length10 ds h K := by kernel_rfl
theorem F59.s4 {n0 : Nat} : F59.p4 n0 = wA Try.prog n0 134 none F59.c4 := by kernel_rfl
theorem F59.e4 {n0 : Nat} {data0 a1 b2 limit3 wasBalanced8 wasPartitioned9 length10 : Value} {ds : List Nat} {h : H} {K : KP} : F59.p4 n0 [(0, data0), (1, a1), (2, b2), (3, limit3), (8, wasBalanced8), (9, wasPartitioned9), (10, length10)] ds h K = F59.t4 n0 data0 a1 b2 limit3 wasBalanced8 wasPartitioned9 length10 ds h K :=
  wchain (F59.s4) (F59.g4 data0 a1 b2 limit3 wasBalanced8 wasPartitioned9 length10)
noncomputable def F59.t5 (n0 : Nat) (B6 : WP) (B7 : WP) (data0 a1 b2 limit3 wasBalanced8 wasPartitioned9 length10 : Value) (ds : List Nat) (h : H) (K : KP) : Prop :=
  Bnd (aUn .not wasBalanced8) fun t35 =>
  Cnd t35
   (B6 [(0, data0), (1, a1), (2, b2), (3, limit3), (8, wasBalanced8), (9, wasPartitioned9), (10, length10)] ds h (KSeq [0, 1, 2, 3, 8, 9, 10] B7 K))
   (B7 [(0, data0), (1, a1), (2, b2), (3, limit3), (8, wasBalanced8), (9, wasPartitioned9), (10, length10)] ds h K)
theorem F59.g5 {n0 : Nat} (B6 : WP) (B7 : WP) (data0 a1 b2 limit3 wasBalanced8 wasPartitioned9 length10 : Value) {ds : List Nat} {h : H} {K : KP} : wA Try.prog n0 134 none (.seq [0, 1, 2, 3, 8, 9, 10] (.seq [0, 1, 2, 3, 8, 9, 10, 35] F59.c5.fst.fst (.cond [0, 1, 2, 3, 8, 9, 10] (.tmp 35) (.sub B6) F59.c5.fst.snd.snd)) (.sub B7)) [(0, data0), (1, a1), (2, b2), (3, limit3), (8, wasBalanced8), (9, wasPartitioned9), (10, length10)] ds h K = F59.t5 n0 B6 B7 data0 a1 b2 limit3 wasBalanced8 wasPartitioned9 length10 ds h K := by kernel_rfl
theorem F59.s5 {n0 : Nat} : F59.p5 n0 = wA Try.prog n0 134 none (.seq [0, 1, 2, 3, 8, 9, 10] (.seq [0, 1, 2, 3, 8, 9, 10, 35] F59.c5.fst.fst (.cond [0, 1, 2, 3, 8, 9, 10] (.tmp 35) (.sub (F59.p6 n0)) F59.c5.fst.snd.snd)) (.sub (F59.p7 n0))) := by kernel_rfl
theorem F59.e5 {n0 : Nat} {data0 a1 b2 limit3 wasBalanced8 wasPartitioned9 length10 : Value} {ds : List Nat} {h : H} {K : KP} : F59.p5 n0 [(0, data0), (1, a1), (2, b2), (3, limit3), (8, wasBalanced8), (9, wasPartitioned9), (10, length10)] ds h K = F59.t5 n0 (F59.p6 n0) (F59.p7 n0) data0 a1 b2 limit3 wasBalanced8 wasPartitioned9 length10 ds h K :=
  wchain (F59.s5) (F59.g5 (F59.p6 n0) (F59.p7 n0) data0 a1 b2 limit3 wasBalanced8 wasPartitioned9 length10)
noncomputable def F59.t6 (n0 : Nat) (data0 a1 b2 limit3 wasBalanced8 wasPartitioned9 length10 : Value) (ds : List Nat) (h : H) (K : KP) : Prop :=
  Cn Try.prog n0 (.func 63) [data0, a1, b2] h fun t39 h1 =>
  Bnd (aBin Try.prog true .sub 3 limit3 (.int .i64 1)) fun t41 =>
  K .normal [(0, data0), (1, a1), (2, b2), (3, t41), (8, wasBalanced8), (9, wasPartitioned9), (10, length10), (40, limit3), (41, t41)] ds h1
theorem F59.g6 {n0 : Nat} (data0 a1 b2 limit3 wasBalanced8 wasPartitioned9 length10 : Value) {ds : List Nat} {h : H} {K : KP} : wA Try.prog n0 134 none F59.c6 [(0, data0), (1, a1), (2, b2), (3, limit3), (8, wasBalanced8), (9, wasPartitioned9), (10, length10)] ds h K = F59.t6 n0 data0 a1 b2 limit3 wasBalanced8 wasPartitioned9 length10 ds h K := by kernel_rfl
theorem F59.s6 {n0 : Nat} : F59.p6 n0 = wA Try.prog n0 134 none F59.c6 := by kernel_rfl
theorem F59.e6 {n0 : Nat} {data0 a1 b2 limit3 wasBalanced8 wasPartitioned9 length10 : Value} {ds : List Nat} {h : H} {K : KP} : F59.p6 n0 [(0, data0), (1, a1), (2, b2), (3, limit3), (8, wasBalanced8), (9, wasPartitioned9), (10, length10)] ds h K = F59.t6 n0 data0 a1 b2 limit3 wasBalanced8 wasPartitioned9 length10 ds h K :=
  wchain (F59.s6) (F59.g6 data0 a1 b2 limit3 wasBalanced8 wasPartitioned9 length10)
noncomputable def F59.t7 (n0 : Nat) (B8 : WP) (B9 : WP) (data0 a1 b2 limit3 wasBalanced8 wasPartitioned9 length10 : Value) (ds : List Nat) (h : H) (K : KP) : Prop :=
  Cn Try.prog n0 (.func 64) [data0, a1, b2] h fun t46 h1 =>
  Bnd (tupAt t46 0) fun t47 =>
  Bnd (tupAt t46 1) fun t48 =>
  Bnd (aBin Try.prog true .eql 65 t48 (.int .i64 2)) fun t50 =>
  Cnd t50
   (B8 [(0, data0), (1, a1), (2, b2), (3, limit3), (8, wasBalanced8), (9, wasPartitioned9), (10, length10), (11, t47), (12, t48)] ds h1 (KSeq [0, 1, 2, 3, 8, 9, 10, 11, 12] B9 K))
   (B9 [(0, data0), (1, a1), (2, b2), (3, limit3), (8, wasBalanced8), (9, wasPartitioned9), (10, length10), (11, t47), (12, t48)] ds h1 K)
theorem F59.g7 {n0 : Nat} (B8 : WP) (B9 : WP) (data0 a1 b2 limit3 wasBalanced8 wasPartitioned9 length10 : Value) {ds : List Nat} {h : H} {K : KP} : wA Try.prog n0 134 none (.seq [0, 1, 2, 3, 8, 9, 10, 11, 12] F59.c7.fst (.seq [0, 1, 2, 3, 8, 9, 10, 11, 12] (.seq [0, 1, 2, 3, 8, 9, 10, 11, 12, 50] F59.c7.snd.fst.fst (.cond [0, 1, 2, 3, 8, 9, 10, 11, 12] (.tmp 50) (.sub B8) F59.c7.snd.fst.snd.snd)) (.sub B9))) [(0, data0), (1, a1), (2, b2), (3, limit3), (8, wasBalanced8), (9, wasPartitioned9), (10, length10)] ds h K = F59.t7 n0 B8 B9 data0 a1 b2 limit3 wasBalanced8 wasPartitioned9 length10 ds h K := by kernel_rfl
theorem F59.s7 {n0 : Nat} : F59.p7 n0 = wA Try.prog n0 134 none (.seq [0, 1, 2, 3, 8, 9, 10, 11, 12] F59.c7.fst (.seq [0, 1, 2, 3, 8, 9, 10, 11, 12] (.seq [0, 1, 2, 3, 8, 9, 10, 11, 12, 50] F59.c7.snd.fst.fst (.cond [0, 1, 2, 3, 8, 9, 10, 11, 12] (.tmp 50) (.sub (F59.p8 n0)) F59.c7.snd.fst.snd.snd)) (.sub (F59.p9 n0)))) := by kernel_rfl
theorem F59.e7 {n0 : Nat} {data0 a1 b2 limit3 wasBalanced8 wasPartitioned9 length10 : Value} {ds : List Nat} {h : H} {K : KP} : F59.p7 n0 [(0, data0), (1, a1), (2, b2), (3, limit3), (8, wasBalanced8), (9, wasPartitioned9), (10, length10)] ds h K = F59.t7 n0 (F59.p8 n0) (F59.p9 n0) data0 a1 b2 limit3 wasBalanced8 wasPartitioned9 length10 ds h K :=
  wchain (F59.s7) (F59.g7 (F59.p8 n0) (F59.p9 n0) data0 a1 b2 limit3 wasBalanced8 wasPartitioned9 length10)
noncomputable def F59.t8 (n0 : Nat) (data0 a1 b2 limit3 wasBalanced8 wasPartitioned9 length10 pivot11 hint12 : Value) (ds : List Nat) (h : H) (K : KP) : Prop :=
  Cn Try.prog n0 (.func 65) [data0, a1, b2] h fun t54 h1 =>
  Bnd (aBin Try.prog true .sub 3 b2 (.int .i64 1)) fun t56 =>
  Bnd (aBin Try.prog false .sub 3 pivot11 a1) fun t59 =>
  Bnd (aBin Try.prog false .sub 3 t56 t59) fun t60 =>
  K .normal [(0, data0), (1, a1), (2, b2), (3, limit3), (8, wasBalanced8), (9, wasPartitioned9), (10, length10), (11, t60), (12, (.int .i64 1))] ds h1
theorem F59.g8 {n0 : Nat} (data0 a1 b2 limit3 wasBalanced8 wasPartitioned9 length10 pivot11 hint12 : Value) {ds : List Nat} {h : H} {K : KP} : wA Try.prog n0 134 none F59.c8 [(0, data0), (1, a1), (2, b2), (3, limit3), (8, wasBalanced8), (9, wasPartitioned9), (10, length10), (11, pivot11), (12, hint12)] ds h K = F59.t8 n0 data0 a1 b2 limit3 wasBalanced8 wasPartitioned9 length10 pivot11 hint12 ds h K := by kernel_rfl
theorem F59.s8 {n0 : Nat} : F59.p8 n0 = wA Try.prog n0 134 none F59.c8 := by kernel_rfl
theorem F59.e8 {n0 : Nat} {data0 a1 b2 limit3 wasBalanced8 wasPartitioned9 length10 pivot11 hint12 : Value} {ds : List Nat} {h : H} {K : KP} : F59.p8 n0 [(0, data0), (1, a1), (2, b2), (3, limit3), (8, wasBalanced8), (9, wasPartitioned9), (10, length10), (11, pivot11), (12, hint12)] ds h K = F59.t8 n0 data0 a1 b2 limit3 wasBalanced8 wasPartitioned9 length10 pivot11 hint12 ds h K :=
  wchain (F59.s8) (F59.g8 data0 a1 b2 limit3 wasBalanced8 wasPartitioned9 length10 pivot11 hint12)
noncomputable def F59.t9 (n0 : Nat) (B10 : WP) (B11 : WP) (data0 a1 b2 limit3 wasBalanced8 wasPartitioned9 length10 pivot11 hint12 : Value) (ds : List Nat) (h : H) (K : KP) : Prop :=
  Gd wasBalanced8
   (Gd wasPartitioned9
   (Bnd (aBin Try.prog true .eql 65 hint12 (.int .i64 1)) fun t67 =>
  Cnd t67
   (B10 [(0, data0), (1, a1), (2, b2), (3, limit3), (8, wasBalanced8), (9, wasPartitioned9), (10, length10), (11, pivot11)] ds h (KSeq [0, 1, 2, 3, 8, 9, 10, 11] B11 K))
   (B11 [(0, data0), (1, a1), (2, b2), (3, limit3), (8, wasBalanced8), (9, wasPartitioned9), (10, length10), (11, pivot11)] ds h K))
   (B11 [(0, data0), (1, a1), (2, b2), (3, limit3), (8, wasBalanced8), (9, wasPartitioned9), (10, length10), (11, pivot11)] ds h K))
   (B11 [(0, data0), (1, a1), (2, b2), (3, limit3), (8, wasBalanced8), (9, wasPartitioned9), (10, length10), (11, pivot11)] ds h K)
theorem F59.g9 {n0 : Nat} (B10 : WP) (B11 : WP) (data0 a1 b2 limit3 wasBalanced8 wasPartitioned9 length10 pivot11 hint12 : Value) {ds : List Nat} {h : H} {K : KP} : wA Try.prog n0 134 none (.seq [0, 1, 2, 3, 8, 9, 10, 11] (.seq [0, 1, 2, 3, 8, 9, 10, 11, 68] F59.c9.fst.fst (.cond [0, 1, 2, 3, 8, 9, 10, 11] (.tmp 68) (.sub B10) F59.c9.fst.snd.snd)) (.sub B11)) [(0, data0), (1, a1), (2, b2), (3, limit3), (8, wasBalanced8), (9, wasPartitioned9), (10, length10), (11, pivot11), (12, hint12)] ds h K = F59.t9 n0 B10 B11 data0 a1 b2 limit3 wasBalanced8 wasPartitioned9 length10 pivot11 hint12 ds h K := by kernel_rfl
theorem F59.s9 {n0 : Nat} : F59.p9 n0 = wA Try.prog n0 134 none (.seq [0, 1, 2, 3, 8, 9, 10, 11] (.seq [0, 1, 2, 3, 8, 9, 10, 11, 68] F59.c9.fst.fst (.cond [0, 1, 2, 3, 8, 9, 10, 11] (.tmp 68) (.sub (F59.p10 n0)) F59.c9.fst.snd.snd)) (.sub (F59.p11 n0))) := by kernel_rfl
theorem F59.e9 {n0 : Nat} {data0 a1 b2 limit3 wasBalanced8 wasPartitioned9 length10 pivot11 hint12 : Value} {ds : List Nat} {h : H} {K : KP} : F59.p9 n0 [(0, data0), (1, a1), (2, b2), (3, limit3), (8, wasBalanced8), (9, wasPartitioned9), (10, length10), (11, pivot11), (12, hint12)] ds h K = F59.t9 n0 (F59.p10 n0) (F59.p11 n0) data0 a1 b2 limit3 wasBalanced8 wasPartitioned9 length10 pivot11 hint12 ds h K :=
  wchain (F59.s9) (F59.g9 (F59.p10 n0) (F59.p11 n0) data0 a1 b2 limit3 wasBalanced8 wasPartitioned9 length10 pivot11 hint12)
noncomputable def F59.t10 (n0 : Nat) (data0 a1 b2 limit3 wasBalanced8 wasPartitioned9 length10 pivot11 : Value) (ds : List Nat) (h : H) (K : KP) : Prop :=
  Cn Try.prog n0 (.func 66) [data0, a1, b2] h fun t72 h1 =>
  Cnd t72
   (K .ret [(0, data0), (1, a1), (2, b2), (3, limit3), (8, wasBalanced8), (9, wasPartitioned9), (10, length10), (11, pivot11)] ds h1)
   (K .normal [(0, data0), (1, a1), (2, b2), (3, limit3), (8, wasBalanced8), (9, wasPartitioned9), (10, length10), (11, pivot11)] ds h1)
theorem F59.g10 {n0 : Nat} (data0 a1 b2 limit3 wasBalanced8 wasPartitioned9 length10 pivot11 : Value) {ds : List Nat} {h : H} {K : KP} : wA Try.prog n0 134 none F59.c10 [(0, data0), (1, a1), (2, b2), (3, limit3), (8, wasBalanced8), (9, wasPartitioned9), (10, length10), (11, pivot11)] ds h K = F59.t10 n0 data0 a1 b2 limit3 wasBalanced8 wasPartitioned9 length10 pivot11 ds h K := by kernel_rfl
theorem F59.s10 {n0 : Nat} : F59.p10 n0 = wA Try.prog n0 134 none F59.c10 := by kernel_rfl
theorem F59.e10 {n0 : Nat} {data0 a1 b2 limit3 wasBalanced8 wasPartitioned9 length10 pivot11 : Value} {ds : List Nat} {h : H} {K : KP} : F59.p10 n0 [(0, data0), (1, a1), (2, b2), (3, limit3), (8, wasBalanced8), (9, wasPartitioned9), (10, length10), (11, pivot11)] ds h K = F59.t10 n0 data0 a1 b2 limit3 wasBalanced8 wasPartitioned9 length10 pivot11 ds h K :=
  wchain (F59.s10) (F59.g10 data0 a1 b2 limit3 wasBalanced8 wasPartitioned9 length10 pivot11)
noncomputable def F59.t11 (n0 : Nat) (B12 : WP) (B13 : WP) (data0 a1 b2 limit3 wasBalanced8 wasPartitioned9 length10 pivot11 : Value) (ds : List Nat) (h : H) (K : KP) : Prop :=
  Bnd (aBin Try.prog true .gtr 3 a1 (.int .i64 0)) fun t74 =>
  Gd t74
   (Bnd (aBin Try.prog true .sub 3 a1 (.int .i64 1)) fun t78 =>
  Bnd (aIndexAddr Try.prog 22 data0 t78) fun t79 =>
  Bnd (aLoad Try.prog 23 t79 h) fun t80 =>
  Bnd (aIndexAddr Try.prog 22 data0 pivot11) fun t83 =>
  Bnd (aLoad Try.prog 23 t83 h) fun t84 =>
  Cn Try.prog n0 (.func 67) [t80, t84] h fun t85 h1 =>
  Bnd (aUn .not t85) fun t86 =>
  Cnd t86
   (B12 [(0, data0), (1, a1), (2, b2), (3, limit3), (8, wasBalanced8), (9, wasPartitioned9), (10, length10), (11, pivot11)] ds h1 (KSeq [0, 1, 2, 3, 10, 11] B13 K))
   (B13 [(0, data0), (1, a1), (2, b2), (3, limit3), (10, length10), (11, pivot11)] ds h1 K))
   (B13 [(0, data0), (1, a1), (2, b2), (3, limit3), (10, length10), (11, pivot11)] ds h K)
theorem F59.g11 {n0 : Nat} (B12 : WP) (B13 : WP) (data0 a1 b2 limit3 wasBalanced8 wasPartitioned9 length10 pivot11 : Value) {ds : List Nat} {h : H} {K : KP} : wA Try.prog n0 134 none (.seq [0, 1, 2, 3, 10, 11] (.seq [0, 1, 2, 3, 8, 9, 10, 11, 87] F59.c11.fst.fst (.cond [0, 1, 2, 3, 8, 9, 10, 11] (.tmp 87) (.sub B12) F59.c11.fst.snd.snd)) (.sub B13)) [(0, data0), (1, a1), (2, b2), (3, limit3), (8, wasBalanced8), (9, wasPartitioned9), (10, length10), (11, pivot11)] ds h K = F59.t11 n0 B12 B13 data0 a1 b2 limit3 wasBalanced8 wasPartitioned9 length10 pivot11 ds h K := by kernel_rfl
theorem F59.s11 {n0 : Nat} : F59.p11 n0 = wA Try.prog n0 134 none (.seq [0, 1, 2, 3, 10, 11] (.seq [0, 1, 2, 3, 8, 9, 10, 11, 87] F59.c11.fst.fst (.cond [0, 1, 2, 3, 8, 9, 10, 11] (.tmp 87) (.sub (F59.p12 n0)) F59.c11.fst.snd.snd)) (.sub (F59.p13 n0))) := by kernel_rfl
theorem F59.e11 {n0 : Nat} {data0 a1 b2 limit3 wasBalanced8 wasPartitioned9 length10 pivot11 : Value} {ds : List Nat} {h : H} {K : KP} : F59.p11 n0 [(0, data0), (1, a1), (2, b2), (3, limit3), (8, wasBalanced8), (9, wasPartitioned9), (10, length10), (11, pivot11)] ds h K = F59.t11 n0 (F59.p12 n0) (F59.p13 n0) data0 a1 b2 limit3 wasBalanced8 wasPartitioned9 length10 pivot11 ds h K :=
  wchain (F59.s11) (F59.g11 (F59.p12 n0) (F59.p13 n0) data0 a1 b2 limit3 wasBalanced8 wasPartitioned9 length10 pivot11)
noncomputable def F59.t12 (n0 : Nat) (data0 a1 b2 limit3 wasBalanced8 wasPartitioned9 length10 pivot11 : Value) (ds : List Nat) (h : H) (K : KP) : Prop :=
  Cn Try.prog n0 (.func 68) [data0, a1, b2, pivot11] h fun t92 h1 =>
  K (.exit 1) [(0, data0), (1, t92), (2, b2), (3, limit3), (8, wasBalanced8), (9, wasPartitioned9)] ds h1
theorem F59.g12 {n0 : Nat} (data0 a1 b2 limit3 wasBalanced8 wasPartitioned9 length10 pivot11 : Value) {ds : List Nat} {h : H} {K : KP} : wA Try.prog n0 134 none F59.c12 [(0, data0), (1, a1), (2, b2), (3, limit3), (8, wasBalanced8), (9, wasPartitioned9), (10, length10), (11, pivot11)] ds h K = F59.t12 n0 data0 a1 b2 limit3 wasBalanced8 wasPartitioned9 length10 pivot11 ds h K := by kernel_rfl
theorem F59.s12 {n0 : Nat} : F59.p12 n0 = wA Try.prog n0 134 none F59.c12 := by kernel_rfl
theorem F59.e12 {n0 : Nat} {data0 a1 b2 limit3 wasBalanced8 wasPartitioned9 length10 pivot11 : Value} {ds : List Nat} {h : H} {K : KP} : F59.p12 n0 [(0, data0), (1, a1), (2, b2), (3, limit3), (8, wasBalanced8), (9, wasPartitioned9), (10, length10), (11, pivot11)] ds h K = F59.t12 n0 data0 a1 b2 limit3 wasBalanced8 wasPartitioned9 length10 pivot11 ds h K :=
  wchain (F59.s12) (F59.g12 data0 a1 b2 limit3 wasBalanced8 wasPartitioned9 length10 pivot11)
noncomputable def F59.t13 (n0 : Nat) (B14 : WP) (B15 : WP) (data0 a1 b2 limit3 length10 pivot11 : Value) (ds : List Nat) (h : H) (K : KP) : Prop :=
  Cn Try.prog n0 (.func 69) [data0, a1, b2, pivot11] h fun t99 h1 =>
  Bnd (tupAt t99 0) fun t100 =>
  Bnd (tupAt t99 1) fun t101 =>
  Bnd (aBin Try.prog false .sub 3 t100 a1) fun t105 =>
  Bnd (aBin Try.prog false .sub 3 b2 t100) fun t108 =>
  Bnd (aBin Try.prog true .quo 3 length10 (.int .i64 8)) fun t110 =>
  Bnd (aBin Try.prog false .lss 3 t105 t108) fun t113 =>
  Cnd t113
   (B14 [(0, data0), (1, a1), (2, b2), (3, limit3), (9, t101), (14, t100), (16, t105), (17, t108), (18, t110)] ds h1 K)
   (B15 [(0, data0), (1, a1), (2, b2), (3, limit3), (9, t101), (14, t100), (16, t105), (17, t108), (18, t110)] ds h1 K)
theorem F59.g13 {n0 : Nat} (B14 : WP) (B15 : WP) (data0 a1 b2 limit3 length10 pivot11 : Value) {ds : List Nat} {h : H} {K : KP} : wA Try.prog n0 134 none (.seq [0, 1, 2, 3, 10, 14, 15] F59.c13.fst (.seq [0, 1, 2, 3, 9, 10, 14] F59.c13.snd.fst (.seq [0, 1, 2, 3, 9, 10, 14, 16, 17] F59.c13.snd.snd.fst (.seq [0, 1, 2, 3, 9, 14, 16, 17, 18] F59.c13.snd.snd.snd.fst (.seq [0, 1, 2, 3, 9, 14, 16, 17, 18, 113] F59.c13.snd.snd.snd.snd.fst (.cond [0, 1, 2, 3, 9, 14, 16, 17, 18] (.tmp 113) (.sub B14) (.sub B15))))))) [(0, data0), (1, a1), (2, b2), (3, limit3), (10, length10), (11, pivot11)] ds h K = F59.t13 n0 B14 B15 data0 a1 b2 limit3 length10 pivot11 ds h K := by kernel_rfl
theorem F59.s13 {n0 : Nat} : F59.p13 n0 = wA Try.prog n0 134 none (.seq [0, 1, 2, 3, 10, 14, 15] F59.c13.fst (.seq [0, 1, 2, 3, 9, 10, 14] F59.c13.snd.fst (.seq [0, 1, 2, 3, 9, 10, 14, 16, 17] F59.c13.snd.snd.fst (.seq [0, 1, 2, 3, 9, 14, 16, 17, 18] F59.c13.snd.snd.snd.fst (.seq [0, 1, 2, 3, 9, 14, 16, 17, 18, 113] F59.c13.snd.snd.snd.snd.fst (.cond [0, 1, 2, 3, 9, 14, 16, 17, 18] (.tmp 113) (.sub (F59.p14 n0)) (.sub (F59.p15 n0)))))))) := by kernel_rfl
theorem F59.e13 {n0 : Nat} {data0 a1 b2 limit3 length10 pivot11 : Value} {ds : List Nat} {h : H} {K : KP} : F59.p13 n0 [(0, data0), (1, a1), (2, b2), (3, limit3), (10, length10), (11, pivot11)] ds h K = F59.t13 n0 (F59.p14 n0) (F59.p15 n0) data0 a1 b2 limit3 length10 pivot11 ds h K :=
  wchain (F59.s13) (F59.g13 (F59.p14 n0) (F59.p15 n0) data0 a1 b2 limit3 length10 pivot11)
noncomputable def F59.t14 (n0 : Nat) (data0 a1 b2 limit3 wasPartitioned9 mid14 leftLen16 rightLen17 balanceThreshold18 : Value) (ds : List Nat) (h : H) (K : KP) : Prop :=
  Bnd (aBin Try.prog false .geq 3 leftLen16 balanceThreshold18) fun t116 =>
  Cn Try.prog n0 (.func 59) [data0, a1, mid14, limit3] h fun t121 h1 =>
  Bnd (aBin Try.prog true .add 3 mid14 (.int .i64 1)) fun t123 =>
  K .normal [(0, data0), (2, b2), (3, limit3), (8, t116), (9, wasPartitioned9), (14, mid14), (122, mid14), (123, t123), (1, t123)] ds h1
theorem F59.g14 {n0 : Nat} (data0 a1 b2 limit3 wasPartitioned9 mid14 leftLen16 rightLen17 balanceThreshold18 : Value) {ds : List Nat} {h : H} {K : KP} : wA Try.prog n0 134 none F59.c14 [(0, data0), (1, a1), (2, b2), (3, limit3), (9, wasPartitioned9), (14, mid14), (16, leftLen16), (17, rightLen17), (18, balanceThreshold18)] ds h K = F59.t14 n0 data0 a1 b2 limit3 wasPartitioned9 mid14 leftLen16 rightLen17 balanceThreshold18 ds h K := by kernel_rfl
theorem F59.s14 {n0 : Nat} : F59.p14 n0 = wA Try.prog n0 134 none F59.c14 := by kernel_rfl
theorem F59.e14 {n0 : Nat} {data0 a1 b2 limit3 wasPartitioned9 mid14 leftLen16 rightLen17 balanceThreshold18 : Value} {ds : List Nat} {h : H} {K : KP} : F59.p14 n0 [(0, data0), (1, a1), (2, b2), (3, limit3), (9, wasPartitioned9), (14, mid14), (16, leftLen16), (17, rightLen17), (18, balanceThreshold18)] ds h K = F59.t14 n0 data0 a1 b2 limit3 wasPartitioned9 mid14 leftLen16 rightLen17 balanceThreshold18 ds h K :=
  wchain (F59.s14) (F59.g14 data0 a1 b2 limit3 wasPartitioned9 mid14 leftLen16 rightLen17 balanceThreshold18)
noncomputable def F59.t15 (n0 : Nat) (data0 a1 b2 limit3 wasPartitioned9 mid14 leftLen16 rightLen17 balanceThreshold18 : Value) (ds : List Nat) (h : H) (K : KP) : Prop :=
  Bnd (aBin Try.prog false .geq 3 rightLen17 balanceThreshold18) fun t126 =>
  Bnd (aBin Try.prog true .add 3 mid14 (.int .i64 1)) fun t129 =>
  Cn Try.prog n0 (.func 59) [data0, t129, b2, limit3] h fun t132 h1 =>
  K .normal [(0, data0), (1, a1), (3, limit3), (8, t126), (9, wasPartitioned9), (14, mid14), (133, mid14), (2, mid14)] ds h1
theorem F59.g15 {n0 : Nat} (data0 a1 b2 limit3 wasPartitioned9 mid14 leftLen16 rightLen17 balanceThreshold18 : Value) {ds : List Nat} {h : H} {K : KP} : wA Try.prog n0 134 none F59.c15 [(0, data0), (1, a1), (2, b2), (3, limit3), (9, wasPartitioned9), (14, mid14), (16, leftLen16), (17, rightLen17), (18, balanceThreshold18)] ds h K = F59.t15 n0 data0 a1 b2 limit3 wasPartitioned9 mid14 leftLen16 rightLen17 balanceThreshold18 ds h K := by kernel_rfl
theorem F59.s15 {n0 : Nat} : F59.p15 n0 = wA Try.prog n0 134 none F59.c15 := by kernel_rfl
theorem F59.e15 {n0 : Nat} {data0 a1 b2 limit3 wasPartitioned9 mid14 leftLen16 rightLen17 balanceThreshold18 : Value} {ds : List Nat} {h : H} {K : KP} : F59.p15 n0 [(0, data0), (1, a1), (2, b2), (3, limit3), (9, wasPartitioned9), (14, mid14), (16, leftLen16), (17, rightLen17), (18, balanceThreshold18)] ds h K = F59.t15 n0 data0 a1 b2 limit3 wasPartitioned9 mid14 leftLen16 rightLen17 balanceThreshold18 ds h K :=
  wchain (F59.s15) (F59.g15 data0 a1 b2 limit3 wasPartitioned9 mid14 leftLen16 rightLen17 balanceThreshold18)
theorem F59.b : Try.f59.body = some F59.c0.erase := by kernel_rfl
theorem F59.b2 : (Try.f59.name == "runtime.NumGoroutine") = false := by kernel_rfl
theorem F59.b3 : Try.f59.ntmps = 134 := by kernel_rfl
theorem F59.b4 : Try.f59.results.toList = [] := by kernel_rfl
theorem F59.enter {n0 : Nat} {x0 x1 x2 x3 : Value} {h : H} {Q : Value → H → Prop} (w : F59.p0 n0 [(0, x0), (1, x1), (2, x2), (3, x3)] [] h (KFin Try.prog [] Q)) : Cn Try.prog n0 (.func 59) [x0, x1, x2, x3] h Q :=
  @fn_enter Try.prog n0 mixed 59 Try.f59 F59.c0 [x0, x1, x2, x3] h Q Try.func59 F59.b F59.k0 F59.b2 134 F59.b3 [] F59.b4 (by simp) [(0, x0), (1, x1), (2, x2), (3, x3)] rfl (wback F59.d0 w)

/-! slices.insertionSortOrdered[uint64] -/
noncomputable def F61.ac : AC := (ann (bodyOf Try.f61) [[0, 1, 2, 6], [], [0, 1, 2, 6], [0, 1, 2, 6], [0, 1, 2, 6, 12], [0, 1, 2, 6], [0, 1, 2, 6], [0, 1, 2, 6], [0, 1, 2, 6, 7], [0, 1, 2, 6], [0, 1, 2, 6, 7], [0, 1, 2, 6, 7], [0, 1, 2, 6, 7, 30], [0, 1, 2, 6, 7], [0, 1, 2, 6, 7], [0, 1, 2, 6, 7]]).1
noncomputable def F61.c0 : AC := F61.ac
noncomputable def F61.c1 : AC := F61.ac.snd.fst.fst
noncomputable def F61.c2 : AC := F61.ac.snd.fst.fst.snd
noncomputable def F61.c3 : AC := F61.ac.snd.fst.fst.snd.fst.fst.snd.fst.fst
noncomputable def F61.c4 : AC := F61.ac.snd.fst.fst.snd.fst.fst.snd.fst.fst.snd
noncomputable def F61.c5 : AC := F61.ac.snd.fst.fst.snd.fst.fst.snd.fst.fst.snd.snd
noncomputable def F61.c6 : AC := F61.ac.snd.fst.fst.snd.snd
noncomputable def F61.p0 (n0 : Nat) : WP := wA Try.prog n0 49 none F61.c0
noncomputable def F61.p1 (n0 : Nat) : WP := wA Try.prog n0 49 none F61.c1
noncomputable def F61.p2 (n0 : Nat) : WP := wA Try.prog n0 49 none F61.c2
noncomputable def F61.p3 (n0 : Nat) : WP := wA Try.prog n0 49 none F61.c3
noncomputable def F61.p4 (n0 : Nat) : WP := wA Try.prog n0 49 none F61.c4
noncomputable def F61.p5 (n0 : Nat) : WP := wA Try.prog n0 49 none F61.c5
noncomputable def F61.p6 (n0 : Nat) : WP := wA Try.prog n0 49 none F61.c6
noncomputable def F61.t0 (n0 : Nat) (B1 : WP) (data0 a1 b2 : Value) (ds : List Nat) (h : H) (K : KP) : Prop :=
  Bnd (aBin Try.prog true .add 3 a1 (.int .i64 1)) fun t9 =>
  Lp [0, 1, 2, 6] B1 [(0, data0), (1, a1), (2, b2), (6, t9)] ds h (KBlk [] 0 K)
theorem F61.g0 {n0 : Nat} (B1 : WP) (data0 a1 b2 : Value) {ds : List Nat} {h : H} {K : KP} : wA Try.prog n0 49 none (.seq [0, 1, 2, 6] F61.c0.fst (.block [] 0 (.loop [0, 1, 2, 6] (.sub B1)))) [(0, data0), (1, a1), (2, b2)] ds h K = F61.t0 n0 B1 data0 a1 b2 ds h K := by kernel_rfl
theorem F61.s0 {n0 : Nat} : F61.p0 n0 = wA Try.prog n0 49 none (.seq [0, 1, 2, 6] F61.c0.fst (.block [] 0 (.loop [0, 1, 2, 6] (.sub (F61.p1 n0))))) := by kernel_rfl
theorem F61.e0 {n0 : Nat} {data0 a1 b2 : Value} {ds : List Nat} {h : H} {K : KP} : F61.p0 n0 [(0, data0), (1, a1), (2, b2)] ds h K = F61.t0 n0 (F61.p1 n0) data0 a1 b2 ds h K :=
  wchain (F61.s0) (F61.g0 (F61.p1 n0) data0 a1 b2)
theorem F61.k0 : F61.c0.ok = true := by kernel_rfl
theorem F61.d0 {n0 : Nat} : F61.p0 n0 = wA Try.prog n0 49 none F61.c0 := by kernel_rfl
theorem F61.m0 (n0 : Nat) : MonoW (F61.p0 n0) := @mono_c Try.prog n0 49 none F61.c0 (F61.p0 n0) (F61.d0) F61.k0
noncomputable def F61.t1 (n0 : Nat) (B2 : WP) (data0 a1 b2 i6 : Value) (ds : List Nat) (h : H) (K : KP) : Prop :=
  Bnd (aBin Try.prog false .lss 3 i6 b2) fun t12 =>
  Cnd t12
   (B2 [(0, data0), (1, a1), (2, b2), (6, i6)] ds h K)
   (K (.exit 0) [(0, data0), (1, a1), (2, b2), (6, i6)] ds h)
theorem F61.g1 {n0 : Nat} (B2 : WP) (data0 a1 b2 i6 : Value) {ds : List Nat} {h : H} {K : KP} : wA Try.prog n0 49 none (.seq [0, 1, 2, 6] F61.c1.fst (.sub B2)) [(0, data0), (1, a1), (2, b2), (6, i6)] ds h K = F61.t1 n0 B2 data0 a1 b2 i6 ds h K := by kernel_rfl
theorem F61.s1 {n0 : Nat} : F61.p1 n0 = wA Try.prog n0 49 none (.seq [0, 1, 2, 6] F61.c1.fst (.sub (F61.p2 n0))) := by kernel_rfl
theorem F61.e1 {n0 : Nat} {data0 a1 b2 i6 : Value} {ds : List Nat} {h : H} {K : KP} : F61.p1 n0 [(0, data0), (1, a1), (2, b2), (6, i6)] ds h K = F61.t1 n0 (F61.p2 n0) data0 a1 b2 i6 ds h K :=
  wchain (F61.s1) (F61.g1 (F61.p2 n0) data0 a1 b2 i6)
theorem F61.k1 : F61.c1.ok = true := by kernel_rfl
theorem F61.d1 {n0 : Nat} : F61.p1 n0 = wA Try.prog n0 49 none F61.c1 := by kernel_rfl
theorem F61.m1 (n0 : Nat) : MonoW (F61.p1 n0) := @mono_c Try.prog n0 49 none F61.c1 (F61.p1 n0) (F61.d1) F61.k1
noncomputable def F61.t2 (n0 : Nat) (B3 : WP) (B6 : WP) (data0 a1 b2 i6 : Value) (ds : List Nat) (h : H) (K : KP) : Prop :=
  Lp [0, 1, 2, 6, 7] B3 [(0, data0), (1, a1), (2, b2), (6, i6), (7, i6)] ds h (KBlk [0, 1, 2, 6] 2 (KBlk [0, 1, 2, 6] 1 (KSeq [0, 1, 2, 6] B6 K)))
theorem F61.g2 {n0 : Nat} (B3 : WP) (B6 : WP) (data0 a1 b2 i6 : Value) {ds : List Nat} {h : H} {K : KP} : wA Try.prog n0 49 none (.seq [0, 1, 2, 6] (.block [0, 1, 2, 6] 1 (.seq [0, 1, 2, 6, 7] F61.c2.fst.fst.fst (.block [0, 1, 2, 6] 2 (.loop [0, 1, 2, 6, 7] (.sub B3))))) (.sub B6)) [(0, data0), (1, a1), (2, b2), (6, i6)] ds h K = F61.t2 n0 B3 B6 data0 a1 b2 i6 ds h K := by kernel_rfl
theorem F61.s2 {n0 : Nat} : F61.p2 n0 = wA Try.prog n0 49 none (.seq [0, 1, 2, 6] (.block [0, 1, 2, 6] 1 (.seq [0, 1, 2, 6, 7] F61.c2.fst.fst.fst (.block [0, 1, 2, 6] 2 (.loop [0, 1, 2, 6, 7] (.sub (F61.p3 n0)))))) (.sub (F61.p6 n0))) := by kernel_rfl
theorem F61.e2 {n0 : Nat} {data0 a1 b2 i6 : Value} {ds : List Nat} {h : H} {K : KP} : F61.p2 n0 [(0, data0), (1, a1), (2, b2), (6, i6)] ds h K = F61.t2 n0 (F61.p3 n0) (F61.p6 n0) data0 a1 b2 i6 ds h K :=
  wchain (F61.s2) (F61.g2 (F61.p3 n0) (F61.p6 n0) data0 a1 b2 i6)
noncomputable def F61.t3 (n0 : Nat) (B4 : WP) (data0 a1 b2 i6 j7 : Value) (ds : List Nat) (h : H) (K : KP) : Prop :=
  Bnd (aBin Try.prog false .gtr 3 j7 a1) fun t18 =>
  Gd t18
   (Bnd (aIndexAddr Try.prog 22 data0 j7) fun t22 =>
  Bnd (aLoad Try.prog 23 t22 h) fun t23 =>
  Bnd (aBin Try.prog true .sub 3 j7 (.int .i64 1)) fun t26 =>
  Bnd (aIndexAddr Try.prog 22 data0 t26) fun t27 =>
  Bnd (aLoad Try.prog 23 t27 h) fun t28 =>
  Cn Try.prog n0 (.func 67) [t23, t28] h fun t29 h1 =>
  Cnd t29
   (B4 [(0, data0), (1, a1), (2, b2), (6, i6), (7, j7)] ds h1 K)
   (K (.exit 2) [(0, data0), (1, a1), (2, b2), (6, i6), (7, j7)] ds h1))
   (K (.exit 2) [(0, data0), (1, a1), (2, b2), (6, i6), (7, j7)] ds h)
theorem F61.g3 {n0 : Nat} (B4 : WP) (data0 a1 b2 i6 j7 : Value) {ds : List Nat} {h : H} {K : KP} : wA Try.prog n0 49 none (.seq [0, 1, 2, 6, 7] F61.c3.fst (.sub B4)) [(0, data0), (1, a1), (2, b2), (6, i6), (7, j7)] ds h K = F61.t3 n0 B4 data0 a1 b2 i6 j7 ds h K := by kernel_rfl
theorem F61.s3 {n0 : Nat} : F61.p3 n0 = wA Try.prog n0 49 none (.seq [0, 1, 2, 6, 7] F61.c3.fst (.sub (F61.p4 n0))) := by kernel_rfl
theorem F61.e3 {n0 : Nat} {data0 a1 b2 i6 j7 : Value} {ds : List Nat} {h : H} {K : KP} : F61.p3 n0 [(0, data0), (1, a1), (2, b2), (6, i6), (7, j7)] ds h K = F61.t3 n0 (F61.p4 n0) data0 a1 b2 i6 j7 ds h K :=
  wchain (F61.s3) (F61.g3 (F61.p4 n0) data0 a1 b2 i6 j7)
theorem F61.k3 : F61.c3.ok = true := by kernel_rfl
theorem F61.d3 {n0 : Nat} : F61.p3 n0 = wA Try.prog n0 49 none F61.c3 := by kernel_rfl
theorem F61.m3 (n0 : Nat) : MonoW (F61.p3 n0) := @mono_c Try.prog n0 49 none F61.c3 (F61.p3 n0) (F61.d3) F61.k3
noncomputable def F61.t4 (n0 : Nat) (B5 : WP) (data0 a1 b2 i6 j7 : Value) (ds : List Nat) (h : H) (K : KP) : Prop :=
  Bnd (aBin Try.prog true .sub 3 j7 (.int .i64 1)) fun t37 =>
  Bnd (aBin Try.prog true .sub 3 j7 (.int .i64 1)) fun t40 =>
  Bnd (aIndexAddr Try.prog 22 data0 t40) fun t41 =>
  Bnd (aLoad Try.prog 23 t41 h) fun t42 =>
  Bnd (aIndexAddr Try.prog 22 data0 j7) fun t45 =>
  Bnd (aLoad Try.prog 23 t45 h) fun t46 =>
  Bnd (aIndexAddr Try.prog 22 data0 j7) fun t47 =>
  Bnd (aStore Try.prog 23 t47 t42 h) fun h1 =>
  Bnd (aIndexAddr Try.prog 22 data0 t37) fun t48 =>
  Bnd (aStore Try.prog 23 t48 t46 h1) fun h2 =>
  B5 [(0, data0), (1, a1), (2, b2), (6, i6), (7, j7)] ds h2 K
theorem F61.g4 {n0 : Nat} (B5 : WP) (data0 a1 b2 i6 j7 : Value) {ds : List Nat} {h : H} {K : KP} : wA Try.prog n0 49 none (.seq [0, 1, 2, 6, 7] F61.c4.fst (.sub B5)) [(0, data0), (1, a1), (2, b2), (6, i6), (7, j7)] ds h K = F61.t4 n0 B5 data0 a1 b2 i6 j7 ds h K := by kernel_rfl
theorem F61.s4 {n0 : Nat} : F61.p4 n0 = wA Try.prog n0 49 none (.seq [0, 1, 2, 6, 7] F61.c4.fst (.sub (F61.p5 n0))) := by kernel_rfl
theorem F61.e4 {n0 : Nat} {data0 a1 b2 i6 j7 : Value} {ds : List Nat} {h : H} {K : KP} : F61.p4 n0 [(0, data0), (1, a1), (2, b2), (6, i6), (7, j7)] ds h K = F61.t4 n0 (F61.p5 n0) data0 a1 b2 i6 j7 ds h K :=
  wchain (F61.s4) (F61.g4 (F61.p5 n0) data0 a1 b2 i6 j7)
noncomputable def F61.t5 (n0 : Nat) (data0 a1 b2 i6 j7 : Value) (ds : List Nat) (h : H) (K : KP) : Prop :=
  Bnd (aBin Try.prog true .sub 3 j7 (.int .i64 1)) fun t32 =>
  K .normal [(0, data0), (1, a1), (2, b2), (6, i6), (7, t32), (31, j7), (32, t32)] ds h
theorem F61.g5 {n0 : Nat} (data0 a1 b2 i6 j7 : Value) {ds : List Nat} {h : H} {K : KP} : wA Try.prog n0 49 none F61.c5 [(0, data0), (1, a1), (2, b2), (6, i6), (7, j7)] ds h K = F61.t5 n0 data0 a1 b2 i6 j7 ds h K := by kernel_rfl
theorem F61.s5 {n0 : Nat} : F61.p5 n0 = wA Try.prog n0 49 none F61.c5 := by kernel_rfl
theorem F61.e5 {n0 : Nat} {data0 a1 b2 i6 j7 : Value} {ds : List Nat} {h : H} {K : KP} : F61.p5 n0 [(0, data0), (1, a1), (2, b2), (6, i6), (7, j7)] ds h K = F61.t5 n0 data0 a1 b2 i6 j7 ds h K :=
  wchain (F61.s5) (F61.g5 data0 a1 b2 i6 j7)
noncomputable def F61.t6 (n0 : Nat) (data0 a1 b2 i6 : Value) (ds : List Nat) (h : H) (K : KP) : Prop :=
  Bnd (aBin Try.prog true .add 3 i6 (.int .i64 1)) fun t14 =>
  K .normal [(0, data0), (1, a1), (2, b2), (6, t14), (13, i6), (14, t14)] ds h
theorem F61.g6 {n0 : Nat} (data0 a1 b2 i6 : Value) {ds : List Nat} {h : H} {K : KP} : wA Try.prog n0 49 none F61.c6 [(0, data0), (1, a1), (2, b2), (6, i6)] ds h K = F61.t6 n0 data0 a1 b2 i6 ds h K := by kernel_rfl
theorem F61.s6 {n0 : Nat} : F61.p6 n0 = wA Try.prog n0 49 none F61.c6 := by kernel_rfl
theorem F61.e6 {n0 : Nat} {data0 a1 b2 i6 : Value} {ds : List Nat} {h : H} {K : KP} : F61.p6 n0 [(0, data0), (1, a1), (2, b2), (6, i6)] ds h K = F61.t6 n0 data0 a1 b2 i6 ds h K :=
  wchain (F61.s6) (F61.g6 data0 a1 b2 i6)
theorem F61.b : Try.f61.body = some F61.c0.erase := by kernel_rfl
theorem F61.b2 : (Try.f61.name == "runtime.NumGoroutine") = false := by kernel_rfl
theorem F61.b3 : Try.f61.ntmps = 49 := by kernel_rfl
theorem F61.b4 : Try.f61.results.toList = [] := by kernel_rfl
theorem F61.enter {n0 : Nat} {x0 x1 x2 : Value} {h : H} {Q : Value → H → Prop} (w : F61.p0 n0 [(0, x0), (1, x1), (2, x2)] [] h (KFin Try.prog [] Q)) : Cn Try.prog n0 (.func 61) [x0, x1, x2] h Q :=
  @fn_enter Try.prog n0 mixed 61 Try.f61 F61.c0 [x0, x1, x2] h Q Try.func61 F61.b F61.k0 F61.b2 49 F61.b3 [] F61.b4 (by simp) [(0, x0), (1, x1), (2, x2)] rfl (wback F61.d0 w)

/-! slices.heapSortOrdered[uint64] -/
noncomputable def F62.ac : AC := (ann (bodyOf Try.f62) [[0, 1, 2, 6], [0, 1, 2, 6, 7], [0, 6, 7, 8], [0, 6, 7, 8], [0, 6, 7, 8, 9], [0, 6, 7, 8], [0, 6, 7, 8, 9], [0, 6, 7, 8, 9], [0, 6, 7, 8, 9, 19], [0, 6, 7, 8, 9], [0, 6, 7, 8, 9], [0, 6, 7, 8, 9], [0, 6, 7, 10], [], [0, 6, 7, 10], [0, 6, 7, 10], [0, 6, 7, 10, 30], [0, 6, 7, 10], [0, 6, 7, 10], [0, 6, 7, 10], [0, 6, 7, 10]]).1
noncomputable def F62.c0 : AC := F62.ac
noncomputable def F62.c1 : AC := F62.ac.snd.snd.snd.fst.snd.fst.fst
noncomputable def F62.c2 : AC := F62.ac.snd.snd.snd.fst.snd.fst.fst.snd
noncomputable def F62.c3 : AC := F62.ac.snd.snd.snd.fst.snd.fst.fst.snd.snd
noncomputable def F62.c4 : AC := F62.ac.snd.snd.snd.snd
noncomputable def F62.c5 : AC := F62.ac.snd.snd.snd.snd.snd.fst.fst
noncomputable def F62.c6 : AC := F62.ac.snd.snd.snd.snd.snd.fst.fst.snd
noncomputable def F62.c7 : AC := F62.ac.snd.snd.snd.snd.snd.fst.fst.snd.snd
noncomputable def F62.p0 (n0 : Nat) : WP := wA Try.prog n0 56 none F62.c0
noncomputable def F62.p1 (n0 : Nat) : WP := wA Try.prog n0 56 none F62.c1
noncomputable def F62.p2 (n0 : Nat) : WP := wA Try.prog n0 56 none F62.c2
noncomputable def F62.p3 (n0 : Nat) : WP := wA Try.prog n0 56 none F62.c3
noncomputable def F62.p4 (n0 : Nat) : WP := wA Try.prog n0 56 none F62.c4
noncomputable def F62.p5 (n0 : Nat) : WP := wA Try.prog n0 56 none F62.c5
noncomputable def F62.p6 (n0 : Nat) : WP := wA Try.prog n0 56 none F62.c6
noncomputable def F62.p7 (n0 : Nat) : WP := wA Try.prog n0 56 none F62.c7
noncomputable def F62.t0 (n0 : Nat) (B1 : WP) (B4 : WP) (data0 a1 b2 : Value) (ds : List Nat) (h : H) (K : KP) : Prop :=
  Bnd (aBin Try.prog false .sub 3 b2 a1) fun t14 =>
  Bnd (aBin Try.prog true .sub 3 t14 (.int .i64 1)) fun t16 =>
  Bnd (aBin Try.prog true .quo 3 t16 (.int .i64 2)) fun t17 =>
  Lp [0, 6, 7, 8, 9] B1 [(0, data0), (6, a1), (7, (.int .i64 0)), (8, t14), (9, t17)] ds h (KBlk [0, 6, 7, 8] 0 (KSeq [0, 6, 7, 8] B4 K))
theorem F62.g0 {n0 : Nat} (B1 : WP) (B4 : WP) (data0 a1 b2 : Value) {ds : List Nat} {h : H} {K : KP} : wA Try.prog n0 56 none (.seq [0, 1, 2, 6] F62.c0.fst (.seq [0, 1, 2, 6, 7] F62.c0.snd.fst (.seq [0, 6, 7, 8] F62.c0.snd.snd.fst (.seq [0, 6, 7, 8] (.seq [0, 6, 7, 8, 9] F62.c0.snd.snd.snd.fst.fst (.block [0, 6, 7, 8] 0 (.loop [0, 6, 7, 8, 9] (.sub B1)))) (.sub B4))))) [(0, data0), (1, a1), (2, b2)] ds h K = F62.t0 n0 B1 B4 data0 a1 b2 ds h K := by kernel_rfl
theorem F62.s0 {n0 : Nat} : F62.p0 n0 = wA Try.prog n0 56 none (.seq [0, 1, 2, 6] F62.c0.fst (.seq [0, 1, 2, 6, 7] F62.c0.snd.fst (.seq [0, 6, 7, 8] F62.c0.snd.snd.fst (.seq [0, 6, 7, 8] (.seq [0, 6, 7, 8, 9] F62.c0.snd.snd.snd.fst.fst (.block [0, 6, 7, 8] 0 (.loop [0, 6, 7, 8, 9] (.sub (F62.p1 n0))))) (.sub (F62.p4 n0)))))) := by kernel_rfl
theorem F62.e0 {n0 : Nat} {data0 a1 b2 : Value} {ds : List Nat} {h : H} {K : KP} : F62.p0 n0 [(0, data0), (1, a1), (2, b2)] ds h K = F62.t0 n0 (F62.p1 n0) (F62.p4 n0) data0 a1 b2 ds h K :=
  wchain (F62.s0) (F62.g0 (F62.p1 n0) (F62.p4 n0) data0 a1 b2)
theorem F62.k0 : F62.c0.ok = true := by kernel_rfl
theorem F62.d0 {n0 : Nat} : F62.p0 n0 = wA Try.prog n0 56 none F62.c0 := by kernel_rfl
theorem F62.m0 (n0 : Nat) : MonoW (F62.p0 n0) := @mono_c Try.prog n0 56 none F62.c0 (F62.p0 n0) (F62.d0) F62.k0
noncomputable def F62.t1 (n0 : Nat) (B2 : WP) (data0 first6 lo7 hi8 i9 : Value) (ds : List Nat) (h : H) (K : KP) : Prop :=
  Bnd (aBin Try.prog true .geq 3 i9 (.int .i64 0)) fun t19 =>
  Cnd t19
   (B2 [(0, data0), (6, first6), (7, lo7), (8, hi8), (9, i9)] ds h K)
   (K (.exit 0) [(0, data0), (6, first6), (7, lo7), (8, hi8), (9, i9)] ds h)
theorem F62.g1 {n0 : Nat} (B2 : WP) (data0 first6 lo7 hi8 i9 : Value) {ds : List Nat} {h : H} {K : KP} : wA Try.prog n0 56 none (.seq [0, 6, 7, 8, 9] F62.c1.fst (.sub B2)) [(0, data0), (6, first6), (7, lo7), (8, hi8), (9, i9)] ds h K = F62.t1 n0 B2 data0 first6 lo7 hi8 i9 ds h K := by kernel_rfl
theorem F62.s1 {n0 : Nat} : F62.p1 n0 = wA Try.prog n0 56 none (.seq [0, 6, 7, 8, 9] F62.c1.fst (.sub (F62.p2 n0))) := by kernel_rfl
theorem F62.e1 {n0 : Nat} {data0 first6 lo7 hi8 i9 : Value} {ds : List Nat} {h : H} {K : KP} : F62.p1 n0 [(0, data0), (6, first6), (7, lo7), (8, hi8), (9, i9)] ds h K = F62.t1 n0 (F62.p2 n0) data0 first6 lo7 hi8 i9 ds h K :=
  wchain (F62.s1) (F62.g1 (F62.p2 n0) data0 first6 lo7 hi8 i9)
theorem F62.k1 : F62.c1.ok = true := by kernel_rfl
theorem F62.d1 {n0 : Nat} : F62.p1 n0 = wA Try.prog n0 56 none F62.c1 := by kernel_rfl
theorem F62.m1 (n0 : Nat) : MonoW (F62.p1 n0) := @mono_c Try.prog n0 56 none F62.c1 (F62.p1 n0) (F62.d1) F62.k1
noncomputable def F62.t2 (n0 : Nat) (B3 : WP) (data0 first6 lo7 hi8 i9 : Value) (ds : List Nat) (h : H) (K : KP) : Prop :=
  Cn Try.prog n0 (.func 72) [data0, i9, hi8, first6] h fun t26 h1 =>
  B3 [(0, data0), (6, first6), (7, lo7), (8, hi8), (9, i9)] ds h1 K
theorem F62.g2 {n0 : Nat} (B3 : WP) (data0 first6 lo7 hi8 i9 : Value) {ds : List Nat} {h : H} {K : KP} : wA Try.prog n0 56 none (.seq [0, 6, 7, 8, 9] F62.c2.fst (.sub B3)) [(0, data0), (6, first6), (7, lo7), (8, hi8), (9, i9)] ds h K = F62.t2 n0 B3 data0 first6 lo7 hi8 i9 ds h K := by kernel_rfl
theorem F62.s2 {n0 : Nat} : F62.p2 n0 = wA Try.prog n0 56 none (.seq [0, 6, 7, 8, 9] F62.c2.fst (.sub (F62.p3 n0))) := by kernel_rfl
theorem F62.e2 {n0 : Nat} {data0 first6 lo7 hi8 i9 : Value} {ds : List Nat} {h : H} {K : KP} : F62.p2 n0 [(0, data0), (6, first6), (7, lo7), (8, hi8), (9, i9)] ds h K = F62.t2 n0 (F62.p3 n0) data0 first6 lo7 hi8 i9 ds h K :=
  wchain (F62.s2) (F62.g2 (F62.p3 n0) data0 first6 lo7 hi8 i9)
noncomputable def F62.t3 (n0 : Nat) (data0 first6 lo7 hi8 i9 : Value) (ds : List Nat) (h : H) (K : KP) : Prop :=
  Bnd (aBin Try.prog true .sub 3 i9 (.int .i64 1)) fun t21 =>
  K .normal [(0, data0), (6, first6), (7, lo7), (8, hi8), (9, t21), (20, i9), (21, t21)] ds h
theorem F62.g3 {n0 : Nat} (data0 first6 lo7 hi8 i9 : Value) {ds : List Nat} {h : H} {K : KP} : wA Try.prog n0 56 none F62.c3 [(0, data0), (6, first6), (7, lo7), (8, hi8), (9, i9)] ds h K = F62.t3 n0 data0 first6 lo7 hi8 i9 ds h K := by kernel_rfl
theorem F62.s3 {n0 : Nat} : F62.p3 n0 = wA Try.prog n0 56 none F62.c3 := by kernel_rfl
theorem F62.e3 {n0 : Nat} {data0 first6 lo7 hi8 i9 : Value} {ds : List Nat} {h : H} {K : KP} : F62.p3 n0 [(0, data0), (6, first6), (7, lo7), (8, hi8), (9, i9)] ds h K = F62.t3 n0 data0 first6 lo7 hi8 i9 ds h K :=
  wchain (F62.s3) (F62.g3 data0 first6 lo7 hi8 i9)
noncomputable def F62.t4 (n0 : Nat) (B5 : WP) (data0 first6 lo7 hi8 : Value) (ds : List Nat) (h : H) (K : KP) : Prop :=
  Bnd (aBin Try.prog true .sub 3 hi8 (.int .i64 1)) fun t28 =>
  Lp [0, 6, 7, 10] B5 [(0, data0), (6, first6), (7, lo7), (10, t28)] ds h (KBlk [] 2 K)
theorem F62.g4 {n0 : Nat} (B5 : WP) (data0 first6 lo7 hi8 : Value) {ds : List Nat} {h : H} {K : KP} : wA Try.prog n0 56 none (.seq [0, 6, 7, 10] F62.c4.fst (.block [] 2 (.loop [0, 6, 7, 10] (.sub B5)))) [(0, data0), (6, first6), (7, lo7), (8, hi8)] ds h K = F62.t4 n0 B5 data0 first6 lo7 hi8 ds h K := by kernel_rfl
theorem F62.s4 {n0 : Nat} : F62.p4 n0 = wA Try.prog n0 56 none (.seq [0, 6, 7, 10] F62.c4.fst (.block [] 2 (.loop [0, 6, 7, 10] (.sub (F62.p5 n0))))) := by kernel_rfl
theorem F62.e4 {n0 : Nat} {data0 first6 lo7 hi8 : Value} {ds : List Nat} {h : H} {K : KP} : F62.p4 n0 [(0, data0), (6, first6), (7, lo7), (8, hi8)] ds h K = F62.t4 n0 (F62.p5 n0) data0 first6 lo7 hi8 ds h K :=
  wchain (F62.s4) (F62.g4 (F62.p5 n0) data0 first6 lo7 hi8)
noncomputable def F62.t5 (n0 : Nat) (B6 : WP) (data0 first6 lo7 i10 : Value) (ds : List Nat) (h : H) (K : KP) : Prop :=
  Bnd (aBin Try.prog true .geq 3 i10 (.int .i64 0)) fun t30 =>
  Cnd t30
   (B6 [(0, data0), (6, first6), (7, lo7), (10, i10)] ds h K)
   (K (.exit 2) [(0, data0), (6, first6), (7, lo7), (10, i10)] ds h)
theorem F62.g5 {n0 : Nat} (B6 : WP) (data0 first6 lo7 i10 : Value) {ds : List Nat} {h : H} {K : KP} : wA Try.prog n0 56 none (.seq [0, 6, 7, 10] F62.c5.fst (.sub B6)) [(0, data0), (6, first6), (7, lo7), (10, i10)] ds h K = F62.t5 n0 B6 data0 first6 lo7 i10 ds h K := by kernel_rfl
theorem F62.s5 {n0 : Nat} : F62.p5 n0 = wA Try.prog n0 56 none (.seq [0, 6, 7, 10] F62.c5.fst (.sub (F62.p6 n0))) := by kernel_rfl
theorem F62.e5 {n0 : Nat} {data0 first6 lo7 i10 : Value} {ds : List Nat} {h : H} {K : KP} : F62.p5 n0 [(0, data0), (6, first6), (7, lo7), (10, i10)] ds h K = F62.t5 n0 (F62.p6 n0) data0 first6 lo7 i10 ds h K :=
  wchain (F62.s5) (F62.g5 (F62.p6 n0) data0 first6 lo7 i10)
theorem F62.k5 : F62.c5.ok = true := by kernel_rfl
theorem F62.d5 {n0 : Nat} : F62.p5 n0 = wA Try.prog n0 56 none F62.c5 := by kernel_rfl
theorem F62.m5 (n0 : Nat) : MonoW (F62.p5 n0) := @mono_c Try.prog n0 56 none F62.c5 (F62.p5 n0) (F62.d5) F62.k5
noncomputable def F62.t6 (n0 : Nat) (B7 : WP) (data0 first6 lo7 i10 : Value) (ds : List Nat) (h : H) (K : KP) : Prop :=
  Bnd (aBin Try.prog false .add 3 first6 i10) fun t38 =>
  Bnd (aBin Try.prog false .add 3 first6 i10) fun t42 =>
  Bnd (aIndexAddr Try.prog 22 data0 t42) fun t43 =>
  Bnd (aLoad Try.prog 23 t43 h) fun t44 =>
  Bnd (aIndexAddr Try.prog 22 data0 first6) fun t47 =>
  Bnd (aLoad Try.prog 23 t47 h) fun t48 =>
  Bnd (aIndexAddr Try.prog 22 data0 first6) fun t49 =>
  Bnd (aStore Try.prog 23 t49 t44 h) fun h1 =>
  Bnd (aIndexAddr Try.prog 22 data0 t38) fun t50 =>
  Bnd (aStore Try.prog 23 t50 t48 h1) fun h2 =>
  Cn Try.prog n0 (.func 72) [data0, lo7, i10, first6] h2 fun t55 h3 =>
  B7 [(0, data0), (6, first6), (7, lo7), (10, i10)] ds h3 K
theorem F62.g6 {n0 : Nat} (B7 : WP) (data0 first6 lo7 i10 : Value) {ds : List Nat} {h : H} {K : KP} : wA Try.prog n0 56 none (.seq [0, 6, 7, 10] F62.c6.fst (.sub B7)) [(0, data0), (6, first6), (7, lo7), (10, i10)] ds h K = F62.t6 n0 B7 data0 first6 lo7 i10 ds h K := by kernel_rfl
theorem F62.s6 {n0 : Nat} : F62.p6 n0 = wA Try.prog n0 56 none (.seq [0, 6, 7, 10] F62.c6.fst (.sub (F62.p7 n0))) := by kernel_rfl
theorem F62.e6 {n0 : Nat} {data0 first6 lo7 i10 : Value} {ds : List Nat} {h : H} {K : KP} : F62.p6 n0 [(0, data0), (6, first6), (7, lo7), (10, i10)] ds h K = F62.t6 n0 (F62.p7 n0) data0 first6 lo7 i10 ds h K :=
  wchain (F62.s6) (F62.g6 (F62.p7 n0) data0 first6 lo7 i10)
noncomputable def F62.t7 (n0 : Nat) (data0 first6 lo7 i10 : Value) (ds : List Nat) (h : H) (K : KP) : Prop :=
  Bnd (aBin Try.prog true .sub 3 i10 (.int .i64 1)) fun t32 =>
  K .normal [(0, data0), (6, first6), (7, lo7), (10, t32), (31, i10), (32, t32)] ds h
theorem F62.g7 {n0 : Nat} (data0 first6 lo7 i10 : Value) {ds : List Nat} {h : H} {K : KP} : wA Try.prog n0 56 none F62.c7 [(0, data0), (6, first6), (7, lo7), (10, i10)] ds h K = F62.t7 n0 data0 first6 lo7 i10 ds h K := by kernel_rfl
theorem F62.s7 {n0 : Nat} : F62.p7 n0 = wA Try.prog n0 56 none F62.c7 := by kernel_rfl
theorem F62.e7 {n0 : Nat} {data0 first6 lo7 i10 : Value} {ds : List Nat} {h : H} {K : KP} : F62.p7 n0 [(0, data0), (6, first6), (7, lo7), (10, i10)] ds h K = F62.t7 n0 data0 first6 lo7 i10 ds h K :=
  wchain (F62.s7) (F62.g7 data0 first6 lo7 i10)
theorem F62.b : Try.f62.body = some F62.c0.erase := by kernel_rfl
theorem F62.b2 : (Try.f62.name == "runtime.NumGoroutine") = false := by kernel_rfl
theorem F62.b3 : Try.f62.ntmps = 56 := by kernel_rfl
theorem F62.b4 : Try.f62.results.toList = [] := by kernel_rfl
theorem F62.enter {n0 : Nat} {x0 x1 x2 : Value} {h : H} {Q : Value → H → Prop} (w : F62.p0 n0 [(0, x0), (1, x1), (2, x2)] [] h (KFin Try.prog [] Q)) : Cn Try.prog n0 (.func 62) [x0, x1, x2] h Q :=
  @fn_enter Try.prog n0 mixed 62 Try.f62 F62.c0 [x0, x1, x2] h Q Try.func62 F62.b F62.k0 F62.b2 56 F62.b3 [] F62.b4 (by simp) [(0, x0), (1, x1), (2, x2)] rfl (wback F62.d0 w)

/-! slices.breakPatternsOrdered[uint64] -/
noncomputable def F63.ac : AC := (ann (bodyOf Try.f63) [[0, 1, 6], [0, 1, 6, 15], [0, 1, 6], [0, 1, 6, 7], [0, 1, 6, 7, 8], [0, 1, 6, 7, 8, 9], [], [0, 1, 6, 7, 8, 9], [0, 1, 6, 7, 8, 9], [0, 1, 6, 7, 8, 9, 33], [0, 1, 6, 7, 8, 9], [0, 1, 6, 7, 8, 9], [0, 1, 6, 7, 8, 9], [0, 1, 6, 7, 8, 9, 10], [0, 1, 6, 7, 8, 9, 10], [0, 1, 6, 7, 8, 9, 10, 43], [0, 1, 6, 7, 8, 9, 10]]).1
noncomputable def F63.c0 : AC := F63.ac
noncomputable def F63.c1 : AC := F63.ac.snd.snd.fst
noncomputable def F63.c2 : AC := F63.ac.snd.snd.fst.snd.snd.snd.fst.fst
noncomputable def F63.c3 : AC := F63.ac.snd.snd.fst.snd.snd.snd.fst.fst.snd
noncomputable def F63.c4 : AC := F63.ac.snd.snd.fst.snd.snd.snd.fst.fst.snd.fst.fst.snd.fst.snd.fst
noncomputable def F63.c5 : AC := F63.ac.snd.snd.fst.snd.snd.snd.fst.fst.snd.fst.fst.snd.snd
noncomputable def F63.c6 : AC := F63.ac.snd.snd.fst.snd.snd.snd.fst.fst.snd.snd
noncomputable def F63.p0 (n0 : Nat) : WP := wA Try.prog n0 65 none F63.c0
noncomputable def F63.p1 (n0 : Nat) : WP := wA Try.prog n0 65 none F63.c1
noncomputable def F63.p2 (n0 : Nat) : WP := wA Try.prog n0 65 none F63.c2
noncomputable def F63.p3 (n0 : Nat) : WP := wA Try.prog n0 65 none F63.c3
noncomputable def F63.p4 (n0 : Nat) : WP := wA Try.prog n0 65 none F63.c4
noncomputable def F63.p5 (n0 : Nat) : WP := wA Try.prog n0 65 none F63.c5
noncomputable def F63.p6 (n0 : Nat) : WP := wA Try.prog n0 65 none F63.c6
noncomputable def F63.t0 (n0 : Nat) (B1 : WP) (data0 a1 b2 : Value) (ds : List Nat) (h : H) (K : KP) : Prop :=
  Bnd (aBin Try.prog false .sub 3 b2 a1) fun t13 =>
  Bnd (aBin Try.prog true .geq 3 t13 (.int .i64 8)) fun t15 =>
  Cnd t15
   (B1 [(0, data0), (1, a1), (6, t13)] ds h K)
   (K .normal [(0, data0), (1, a1), (6, t13)] ds h)
theorem F63.g0 {n0 : Nat} (B1 : WP) (data0 a1 b2 : Value) {ds : List Nat} {h : H} {K : KP} : wA Try.prog n0 65 none (.seq [0, 1, 6] F63.c0.fst (.seq [0, 1, 6, 15] F63.c0.snd.fst (.cond [0, 1, 6] (.tmp 15) (.sub B1) F63.c0.snd.snd.snd))) [(0, data0), (1, a1), (2, b2)] ds h K = F63.t0 n0 B1 data0 a1 b2 ds h K := by kernel_rfl
theorem F63.s0 {n0 : Nat} : F63.p0 n0 = wA Try.prog n0 65 none (.seq [0, 1, 6] F63.c0.fst (.seq [0, 1, 6, 15] F63.c0.snd.fst (.cond [0, 1, 6] (.tmp 15) (.sub (F63.p1 n0)) F63.c0.snd.snd.snd))) := by kernel_rfl
theorem F63.e0 {n0 : Nat} {data0 a1 b2 : Value} {ds : List Nat} {h : H} {K : KP} : F63.p0 n0 [(0, data0), (1, a1), (2, b2)] ds h K = F63.t0 n0 (F63.p1 n0) data0 a1 b2 ds h K :=
  wchain (F63.s0) (F63.g0 (F63.p1 n0) data0 a1 b2)
theorem F63.k0 : F63.c0.ok = true := by kernel_rfl
theorem F63.d0 {n0 : Nat} : F63.p0 n0 = wA Try.prog n0 65 none F63.c0 := by kernel_rfl
theorem F63.m0 (n0 : Nat) : MonoW (F63.p0 n0) := @mono_c Try.prog n0 65 none F63.c0 (F63.p0 n0) (F63.d0) F63.k0
noncomputable def F63.t1 (n0 : Nat) (B2 : WP) (data0 a1 length6 : Value) (ds : List Nat) (h : H) (K : KP) : Prop :=
  Bnd2 (cvt Try.prog 3 76 length6 h) fun t17 h1 =>
  Nw (enc 0 76) (zc Try.prog 76) h1 fun random7 h2 =>
  Bnd (aStore Try.prog 76 random7 t17 h2) fun h3 =>
  Cn Try.prog n0 (.func 73) [length6] h3 fun t19 h4 =>
  Bnd (aBin Try.prog true .quo 3 length6 (.int .i64 4)) fun t22 =>
  Bnd (aBin Try.prog true .mul 3 t22 (.int .i64 2)) fun t23 =>
  Bnd (aBin Try.prog false .add 3 a1 t23) fun t24 =>
  Bnd (aBin Try.prog true .sub 3 t24 (.int .i64 1)) fun t25 =>
  Lp [0, 1, 6, 7, 8, 9] B2 [(0, data0), (1, a1), (6, length6), (7, random7), (8, t19), (9, t25)] ds h4 (KBlk [] 0 K)
theorem F63.g1 {n0 : Nat} (B2 : WP) (data0 a1 length6 : Value) {ds : List Nat} {h : H} {K : KP} : wA Try.prog n0 65 none (.seq [0, 1, 6, 7] F63.c1.fst (.seq [0, 1, 6, 7, 8] F63.c1.snd.fst (.seq [0, 1, 6, 7, 8, 9] F63.c1.snd.snd.fst (.block [] 0 (.loop [0, 1, 6, 7, 8, 9] (.sub B2)))))) [(0, data0), (1, a1), (6, length6)] ds h K = F63.t1 n0 B2 data0 a1 length6 ds h K := by kernel_rfl
theorem F63.s1 {n0 : Nat} : F63.p1 n0 = wA Try.prog n0 65 none (.seq [0, 1, 6, 7] F63.c1.fst (.seq [0, 1, 6, 7, 8] F63.c1.snd.fst (.seq [0, 1, 6, 7, 8, 9] F63.c1.snd.snd.fst (.block [] 0 (.loop [0, 1, 6, 7, 8, 9] (.sub (F63.p2 n0))))))) := by kernel_rfl
theorem F63.e1 {n0 : Nat} {data0 a1 length6 : Value} {ds : List Nat} {h : H} {K : KP} : F63.p1 n0 [(0, data0), (1, a1), (6, length6)] ds h K = F63.t1 n0 (F63.p2 n0) data0 a1 length6 ds h K :=
  wchain (F63.s1) (F63.g1 (F63.p2 n0) data0 a1 length6)
noncomputable def F63.t2 (n0 : Nat) (B3 : WP) (data0 a1 length6 random7 modulus8 idx9 : Value) (ds : List Nat) (h : H) (K : KP) : Prop :=
  Bnd (aBin Try.prog true .quo 3 length6 (.int .i64 4)) fun t29 =>
  Bnd (aBin Try.prog true .mul 3 t29 (.int .i64 2)) fun t30 =>
  Bnd (aBin Try.prog false .add 3 a1 t30) fun t31 =>
  Bnd (aBin Try.prog true .add 3 t31 (.int .i64 1)) fun t32 =>
  Bnd (aBin Try.prog false .leq 3 idx9 t32) fun t33 =>
  Cnd t33
   (B3 [(0, data0), (1, a1), (6, length6), (7, random7), (8, modulus8), (9, idx9)] ds h K)
   (K (.exit 0) [(0, data0), (1, a1), (6, length6), (7, random7), (8, modulus8), (9, idx9)] ds h)
theorem F63.g2 {n0 : Nat} (B3 : WP) (data0 a1 length6 random7 modulus8 idx9 : Value) {ds : List Nat} {h : H} {K : KP} : wA Try.prog n0 65 none (.seq [0, 1, 6, 7, 8, 9] F63.c2.fst (.sub B3)) [(0, data0), (1, a1), (6, length6), (7, random7), (8, modulus8), (9, idx9)] ds h K = F63.t2 n0 B3 data0 a1 length6 random7 modulus8 idx9 ds h K := by kernel_rfl
theorem F63.s2 {n0 : Nat} : F63.p2 n0 = wA Try.prog n0 65 none (.seq [0, 1, 6, 7, 8, 9] F63.c2.fst (.sub (F63.p3 n0))) := by kernel_rfl
theorem F63.e2 {n0 : Nat} {data0 a1 length6 random7 modulus8 idx9 : Value} {ds : List Nat} {h : H} {K : KP} : F63.p2 n0 [(0, data0), (1, a1), (6, length6), (7, random7), (8, modulus8), (9, idx9)] ds h K = F63.t2 n0 (F63.p3 n0) data0 a1 length6 random7 modulus8 idx9 ds h K :=
  wchain (F63.s2) (F63.g2 (F63.p3 n0) data0 a1 length6 random7 modulus8 idx9)
theorem F63.k2 : F63.c2.ok = true := by kernel_rfl
theorem F63.d2 {n0 : Nat} : F63.p2 n0 = wA Try.prog n0 65 none F63.c2 := by kernel_rfl
theorem F63.m2 (n0 : Nat) : MonoW (F63.p2 n0) := @mono_c Try.prog n0 65 none F63.c2 (F63.p2 n0) (F63.d2) F63.k2
noncomputable def F63.t3 (n0 : Nat) (B4 : WP) (B5 : WP) (B6 : WP) (data0 a1 length6 random7 modulus8 idx9 : Value) (ds : List Nat) (h : H) (K : KP) : Prop :=
  Cn Try.prog n0 (.func 74) [random7] h fun t36 h1 =>
  Bnd (aBin Try.prog true .sub 61 modulus8 (.int .u64 1)) fun t38 =>
  Bnd (aBin Try.prog false .and 61 t36 t38) fun t39 =>
  Bnd2 (cvt Try.prog 61 3 t39 h1) fun t40 h2 =>
  Bnd (aBin Try.prog false .geq 3 t40 length6) fun t43 =>
  Cnd t43
   (B4 [(0, data0), (1, a1), (6, length6), (7, random7), (8, modulus8), (9, idx9), (10, t40)] ds h2 (KSeq [0, 1, 6, 7, 8, 9, 10] B5 (KBlk [0, 1, 6, 7, 8, 9] 1 (KSeq [0, 1, 6, 7, 8, 9] B6 K))))
   (B5 [(0, data0), (1, a1), (6, length6), (7, random7), (8, modulus8), (9, idx9), (10, t40)] ds h2 (KBlk [0, 1, 6, 7, 8, 9] 1 (KSeq [0, 1, 6, 7, 8, 9] B6 K)))
theorem F63.g3 {n0 : Nat} (B4 : WP) (B5 : WP) (B6 : WP) (data0 a1 length6 random7 modulus8 idx9 : Value) {ds : List Nat} {h : H} {K : KP} : wA Try.prog n0 65 none (.seq [0, 1, 6, 7, 8, 9] (.block [0, 1, 6, 7, 8, 9] 1 (.seq [0, 1, 6, 7, 8, 9, 10] F63.c3.fst.fst.fst (.seq [0, 1, 6, 7, 8, 9, 10] (.seq [0, 1, 6, 7, 8, 9, 10, 43] F63.c3.fst.fst.snd.fst.fst (.cond [0, 1, 6, 7, 8, 9, 10] (.tmp 43) (.sub B4) F63.c3.fst.fst.snd.fst.snd.snd)) (.sub B5)))) (.sub B6)) [(0, data0), (1, a1), (6, length6), (7, random7), (8, modulus8), (9, idx9)] ds h K = F63.t3 n0 B4 B5 B6 data0 a1 length6 random7 modulus8 idx9 ds h K := by kernel_rfl
theorem F63.s3 {n0 : Nat} : F63.p3 n0 = wA Try.prog n0 65 none (.seq [0, 1, 6, 7, 8, 9] (.block [0, 1, 6, 7, 8, 9] 1 (.seq [0, 1, 6, 7, 8, 9, 10] F63.c3.fst.fst.fst (.seq [0, 1, 6, 7, 8, 9, 10] (.seq [0, 1, 6, 7, 8, 9, 10, 43] F63.c3.fst.fst.snd.fst.fst (.cond [0, 1, 6, 7, 8, 9, 10] (.tmp 43) (.sub (F63.p4 n0)) F63.c3.fst.fst.snd.fst.snd.snd)) (.sub (F63.p5 n0))))) (.sub (F63.p6 n0))) := by kernel_rfl
theorem F63.e3 {n0 : Nat} {data0 a1 length6 random7 modulus8 idx9 : Value} {ds : List Nat} {h : H} {K : KP} : F63.p3 n0 [(0, data0), (1, a1), (6, length6), (7, random7), (8, modulus8), (9, idx9)] ds h K = F63.t3 n0 (F63.p4 n0) (F63.p5 n0) (F63.p6 n0) data0 a1 length6 random7 modulus8 idx9 ds h K :=
  wchain (F63.s3) (F63.g3 (F63.p4 n0) (F63.p5 n0) (F63.p6 n0) data0 a1 length6 random7 modulus8 idx9)
noncomputable def F63.t4 (n0 : Nat) (data0 a1 length6 random7 modulus8 idx9 other10 : Value) (ds : List Nat) (h : H) (K : KP) : Prop :=
  Bnd (aBin Try.prog false .sub 3 other10 length6) fun t46 =>
  K .normal [(0, data0), (1, a1), (6, length6), (7, random7), (8, modulus8), (9, idx9), (10, t46), (44, other10), (45, length6), (46, t46)] ds h
theorem F63.g4 {n0 : Nat} (data0 a1 length6 random7 modulus8 idx9 other10 : Value) {ds : List Nat} {h : H} {K : KP} : wA Try.prog n0 65 none F63.c4 [(0, data0), (1, a1), (6, length6), (7, random7), (8, modulus8), (9, idx9), (10, other10)] ds h K = F63.t4 n0 data0 a1 length6 random7 modulus8 idx9 other10 ds h K := by kernel_rfl
theorem F63.s4 {n0 : Nat} : F63.p4 n0 = wA Try.prog n0 65 none F63.c4 := by kernel_rfl
theorem F63.e4 {n0 : Nat} {data0 a1 length6 random7 modulus8 idx9 other10 : Value} {ds : List Nat} {h : H} {K : KP} : F63.p4 n0 [(0, data0), (1, a1), (6, length6), (7, random7), (8, modulus8), (9, idx9), (10, other10)] ds h K = F63.t4 n0 data0 a1 length6 random7 modulus8 idx9 other10 ds h K :=
  wchain (F63.s4) (F63.g4 data0 a1 length6 random7 modulus8 idx9 other10)
noncomputable def F63.t5 (n0 : Nat) (data0 a1 length6 random7 modulus8 idx9 other10 : Value) (ds : List Nat) (h : H) (K : KP) : Prop :=
  Bnd (aBin Try.prog false .add 3 a1 other10) fun t52 =>
  Bnd (aBin Try.prog false .add 3 a1 other10) fun t56 =>
  Bnd (aIndexAddr Try.prog 22 data0 t56) fun t57 =>
  Bnd (aLoad Try.prog 23 t57 h) fun t58 =>
  Bnd (aIndexAddr Try.prog 22 data0 idx9) fun t61 =>
  Bnd (aLoad Try.prog 23 t61 h) fun t62 =>
  Bnd (aIndexAddr Try.prog 22 data0 idx9) fun t63 =>
  Bnd (aStore Try.prog 23 t63 t58 h) fun h1 =>
  Bnd (aIndexAddr Try.prog 22 data0 t52) fun t64 =>
  Bnd (aStore Try.prog 23 t64 t62 h1) fun h2 =>
  K .normal [(0, data0), (1, a1), (6, length6), (7, random7), (8, modulus8), (9, idx9), (10, other10), (47, data0), (48, idx9), (49, data0), (50, a1), (51, other10), (52, t52), (53, data0), (54, a1), (55, other10), (56, t56), (57, t57), (58, t58), (59, data0), (60, idx9), (61, t61), (62, t62), (63, t63), (64, t64)] ds h2
theorem F63.g5 {n0 : Nat} (data0 a1 length6 random7 modulus8 idx9 other10 : Value) {ds : List Nat} {h : H} {K : KP} : wA Try.prog n0 65 none F63.c5 [(0, data0), (1, a1), (6, length6), (7, random7), (8, modulus8), (9, idx9), (10, other10)] ds h K = F63.t5 n0 data0 a1 length6 random7 modulus8 idx9 other10 ds h K := by kernel_rfl
theorem F63.s5 {n0 : Nat} : F63.p5 n0 = wA Try.prog n0 65 none F63.c5 := by kernel_rfl
theorem F63.e5 {n0 : Nat} {data0 a1 length6 random7 modulus8 idx9 other10 : Value} {ds : List Nat} {h : H} {K : KP} : F63.p5 n0 [(0, data0), (1, a1), (6, length6), (7, random7), (8, modulus8), (9, idx9), (10, other10)] ds h K = F63.t5 n0 data0 a1 length6 random7 modulus8 idx9 other10 ds h K :=
  wchain (F63.s5) (F63.g5 data0 a1 length6 random7 modulus8 idx9 other10)
noncomputable def F63.t6 (n0 : Nat) (data0 a1 length6 random7 modulus8 idx9 : Value) (ds : List Nat) (h : H) (K : KP) : Prop :=
  Bnd (aBin Try.prog true .add 3 idx9 (.int .i64 1)) fun t35 =>
  K .normal [(0, data0), (1, a1), (6, length6), (7, random7), (8, modulus8), (9, t35), (34, idx9), (35, t35)] ds h
theorem F63.g6 {n0 : Nat} (data0 a1 length6 random7 modulus8 idx9 : Value) {ds : List Nat} {h : H} {K : KP} : wA Try.prog n0 65 none F63.c6 [(0, data0), (1, a1), (6, length6), (7, random7), (8, modulus8), (9, idx9)] ds h K = F63.t6 n0 data0 a1 length6 random7 modulus8 idx9 ds h K := by kernel_rfl
theorem F63.s6 {n0 : Nat} : F63.p6 n0 = wA Try.prog n0 65 none F63.c6 := by kernel_rfl
theorem F63.e6 {n0 : Nat} {data0 a1 length6 random7 modulus8 idx9 : Value} {ds : List Nat} {h : H} {K : KP} : F63.p6 n0 [(0, data0), (1, a1), (6, length6), (7, random7), (8, modulus8), (9, idx9)] ds h K = F63.t6 n0 data0 a1 length6 random7 modulus8 idx9 ds h K :=
  wchain (F63.s6) (F63.g6 data0 a1 length6 random7 modulus8 idx9)
theorem F63.b : Try.f63.body = some F63.c0.erase := by kernel_rfl
theorem F63.b2 : (Try.f63.name == "runtime.NumGoroutine") = false := by kernel_rfl
theorem F63.b3 : Try.f63.ntmps = 65 := by kernel_rfl
theorem F63.b4 : Try.f63.results.toList = [] := by kernel_rfl
theorem F63.enter {n0 : Nat} {x0 x1 x2 : Value} {h : H} {Q : Value → H → Prop} (w : F63.p0 n0 [(0, x0), (1, x1), (2, x2)] [] h (KFin Try.prog [] Q)) : Cn Try.prog n0 (.func 63) [x0, x1, x2] h Q :=
  @fn_enter Try.prog n0 mixed 63 Try.f63 F63.c0 [x0, x1, x2] h Q Try.func63 F63.b F63.k0 F63.b2 65 F63.b3 [] F63.b4 (by simp) [(0, x0), (1, x1), (2, x2)] rfl (wback F63.d0 w)

/-! slices.choosePivotOrdered[uint64] -/
noncomputable def F64.ac : AC := (ann (bodyOf Try.f64) [[0, 1, 2], [0, 1, 8], [0, 1, 8, 9], [0, 1, 8, 9, 10], [0, 1, 8, 9, 10, 11], [0, 8, 9, 10, 11, 12], [9, 11], [0, 8, 9, 10, 11, 12, 32], [0, 8, 9, 10, 11, 12], [0, 9, 10, 11, 12], [0, 9, 10, 11, 12, 34], [0, 9, 10, 11, 12], [0, 9, 10, 11, 12], [0, 9, 10, 11, 12], [11, 49], [6, 7], [11, 49, 51], [11, 49], [6, 7], [11, 54], [11], [6, 7], [6, 7]]).1
noncomputable def F64.c0 : AC := F64.ac
noncomputable def F64.c1 : AC := F64.ac.snd.snd.snd.snd.snd.snd.fst.snd.fst
noncomputable def F64.c2 : AC := F64.ac.snd.snd.snd.snd.snd.snd.fst.snd.fst.fst.snd.fst
noncomputable def F64.c3 : AC := F64.ac.snd.snd.snd.snd.snd.snd.fst.snd.fst.snd
noncomputable def F64.c4 : AC := F64.ac.snd.snd.snd.snd.snd.snd.snd
noncomputable def F64.c5 : AC := F64.ac.snd.snd.snd.snd.snd.snd.snd.snd.fst.snd.fst
noncomputable def F64.c6 : AC := F64.ac.snd.snd.snd.snd.snd.snd.snd.snd.fst.snd.snd
noncomputable def F64.c7 : AC := F64.ac.snd.snd.snd.snd.snd.snd.snd.snd.fst.snd.snd.snd.fst
noncomputable def F64.c8 : AC := F64.ac.snd.snd.snd.snd.snd.snd.snd.snd.fst.snd.snd.snd.snd
noncomputable def F64.p0 (n0 : Nat) : WP := wA Try.prog n0 57 none F64.c0
noncomputable def F64.p1 (n0 : Nat) : WP := wA Try.prog n0 57 none F64.c1
noncomputable def F64.p2 (n0 : Nat) : WP := wA Try.prog n0 57 none F64.c2
noncomputable def F64.p3 (n0 : Nat) : WP := wA Try.prog n0 57 none F64.c3
noncomputable def F64.p4 (n0 : Nat) : WP := wA Try.prog n0 57 none F64.c4
noncomputable def F64.p5 (n0 : Nat) : WP := wA Try.prog n0 57 none F64.c5
noncomputable def F64.p6 (n0 : Nat) : WP := wA Try.prog n0 57 none F64.c6
noncomputable def F64.p7 (n0 : Nat) : WP := wA Try.prog n0 57 none F64.c7
noncomputable def F64.p8 (n0 : Nat) : WP := wA Try.prog n0 57 none F64.c8
noncomputable def F64.t0 (n0 : Nat) (B1 : WP) (B4 : WP) (data0 a1 b2 : Value) (ds : List Nat) (h : H) (K : KP) : Prop :=
  Bnd (aBin Try.prog false .sub 3 b2 a1) fun t15 =>
  Nw (enc 0 3) (zc Try.prog 3) h fun swaps9 h1 =>
  Bnd (aBin Try.prog true .quo 3 t15 (.int .i64 4)) fun t18 =>
  Bnd (aBin Try.prog true .mul 3 t18 (.int .i64 1)) fun t19 =>
  Bnd (aBin Try.prog false .add 3 a1 t19) fun t20 =>
  Bnd (aBin Try.prog true .quo 3 t15 (.int .i64 4)) fun t23 =>
  Bnd (aBin Try.prog true .mul 3 t23 (.int .i64 2)) fun t24 =>
  Bnd (aBin Try.prog false .add 3 a1 t24) fun t25 =>
  Bnd (aBin Try.prog true .quo 3 t15 (.int .i64 4)) fun t28 =>
  Bnd (aBin Try.prog true .mul 3 t28 (.int .i64 3)) fun t29 =>
  Bnd (aBin Try.prog false .add 3 a1 t29) fun t30 =>
  Bnd (aBin Try.prog true .geq 3 t15 (.int .i64 8)) fun t32 =>
  Cnd t32
   (B1 [(0, data0), (8, t15), (9, swaps9), (10, t20), (11, t25), (12, t30)] ds h1 (KSeq [9, 11] B4 K))
   (B4 [(9, swaps9), (11, t25)] ds h1 K)
theorem F64.g0 {n0 : Nat} (B1 : WP) (B4 : WP) (data0 a1 b2 : Value) {ds : List Nat} {h : H} {K : KP} : wA Try.prog n0 57 none (.seq [0, 1, 2] F64.c0.fst (.seq [0, 1, 8] F64.c0.snd.fst (.seq [0, 1, 8, 9] F64.c0.snd.snd.fst (.seq [0, 1, 8, 9, 10] F64.c0.snd.snd.snd.fst (.seq [0, 1, 8, 9, 10, 11] F64.c0.snd.snd.snd.snd.fst (.seq [0, 8, 9, 10, 11, 12] F64.c0.snd.snd.snd.snd.snd.fst (.seq [9, 11] (.seq [0, 8, 9, 10, 11, 12, 32] F64.c0.snd.snd.snd.snd.snd.snd.fst.fst (.cond [0, 8, 9, 10, 11, 12] (.tmp 32) (.sub B1) F64.c0.snd.snd.snd.snd.snd.snd.fst.snd.snd)) (.sub B4)))))))) [(0, data0), (1, a1), (2, b2)] ds h K = F64.t0 n0 B1 B4 data0 a1 b2 ds h K := by kernel_rfl
theorem F64.s0 {n0 : Nat} : F64.p0 n0 = wA Try.prog n0 57 none (.seq [0, 1, 2] F64.c0.fst (.seq [0, 1, 8] F64.c0.snd.fst (.seq [0, 1, 8, 9] F64.c0.snd.snd.fst (.seq [0, 1, 8, 9, 10] F64.c0.snd.snd.snd.fst (.seq [0, 1, 8, 9, 10, 11] F64.c0.snd.snd.snd.snd.fst (.seq [0, 8, 9, 10, 11, 12] F64.c0.snd.snd.snd.snd.snd.fst (.seq [9, 11] (.seq [0, 8, 9, 10, 11, 12, 32] F64.c0.snd.snd.snd.snd.snd.snd.fst.fst (.cond [0, 8, 9, 10, 11, 12] (.tmp 32) (.sub (F64.p1 n0)) F64.c0.snd.snd.snd.snd.snd.snd.fst.snd.snd)) (.sub (F64.p4 n0))))))))) := by kernel_rfl
theorem F64.e0 {n0 : Nat} {data0 a1 b2 : Value} {ds : List Nat} {h : H} {K : KP} : F64.p0 n0 [(0, data0), (1, a1), (2, b2)] ds h K = F64.t0 n0 (F64.p1 n0) (F64.p4 n0) data0 a1 b2 ds h K :=
  wchain (F64.s0) (F64.g0 (F64.p1 n0) (F64.p4 n0) data0 a1 b2)
theorem F64.k0 : F64.c0.ok = true := by kernel_rfl
theorem F64.d0 {n0 : Nat} : F64.p0 n0 = wA Try.prog n0 57 none F64.c0 := by kernel_rfl
theorem F64.m0 (n0 : Nat) : MonoW (F64.p0 n0) := @mono_c Try.prog n0 57 none F64.c0 (F64.p0 n0) (F64.d0) F64.k0
noncomputable def F64.t1 (n0 : Nat) (B2 : WP) (B3 : WP) (data0 l8 swaps9 i10 j11 k12 : Value) (ds : List Nat) (h : H) (K : KP) : Prop :=
  Bnd (aBin Try.prog true .geq 3 l8 (.int .i64 50)) fun t34 =>
  Cnd t34
   (B2 [(0, data0), (9, swaps9), (10, i10), (11, j11), (12, k12)] ds h (KSeq [0, 9, 10, 11, 12] B3 K))
   (B3 [(0, data0), (9, swaps9), (10, i10), (11, j11), (12, k12)] ds h K)
theorem F64.g1 {n0 : Nat} (B2 : WP) (B3 : WP) (data0 l8 swaps9 i10 j11 k12 : Value) {ds : List Nat} {h : H} {K : KP} : wA Try.prog n0 57 none (.seq [0, 9, 10, 11, 12] (.seq [0, 9, 10, 11, 12, 34] F64.c1.fst.fst (.cond [0, 9, 10, 11, 12] (.tmp 34) (.sub B2) F64.c1.fst.snd.snd)) (.sub B3)) [(0, data0), (8, l8), (9, swaps9), (10, i10), (11, j11), (12, k12)] ds h K = F64.t1 n0 B2 B3 data0 l8 swaps9 i10 j11 k12 ds h K := by kernel_rfl
theorem F64.s1 {n0 : Nat} : F64.p1 n0 = wA Try.prog n0 57 none (.seq [0, 9, 10, 11, 12] (.seq [0, 9, 10, 11, 12, 34] F64.c1.fst.fst (.cond [0, 9, 10, 11, 12] (.tmp 34) (.sub (F64.p2 n0)) F64.c1.fst.snd.snd)) (.sub (F64.p3 n0))) := by kernel_rfl
theorem F64.e1 {n0 : Nat} {data0 l8 swaps9 i10 j11 k12 : Value} {ds : List Nat} {h : H} {K : KP} : F64.p1 n0 [(0, data0), (8, l8), (9, swaps9), (10, i10), (11, j11), (12, k12)] ds h K = F64.t1 n0 (F64.p2 n0) (F64.p3 n0) data0 l8 swaps9 i10 j11 k12 ds h K :=
  wchain (F64.s1) (F64.g1 (F64.p2 n0) (F64.p3 n0) data0 l8 swaps9 i10 j11 k12)
noncomputable def F64.t2 (n0 : Nat) (data0 swaps9 i10 j11 k12 : Value) (ds : List Nat) (h : H) (K : KP) : Prop :=
  Cn Try.prog n0 (.func 75) [data0, i10, swaps9] h fun t37 h1 =>
  Cn Try.prog n0 (.func 75) [data0, j11, swaps9] h1 fun t40 h2 =>
  Cn Try.prog n0 (.func 75) [data0, k12, swaps9] h2 fun t43 h3 =>
  K .normal [(0, data0), (9, swaps9), (10, t37), (11, t40), (12, t43), (41, data0), (42, k12), (43, t43)] ds h3
theorem F64.g2 {n0 : Nat} (data0 swaps9 i10 j11 k12 : Value) {ds : List Nat} {h : H} {K : KP} : wA Try.prog n0 57 none F64.c2 [(0, data0), (9, swaps9), (10, i10), (11, j11), (12, k12)] ds h K = F64.t2 n0 data0 swaps9 i10 j11 k12 ds h K := by kernel_rfl
theorem F64.s2 {n0 : Nat} : F64.p2 n0 = wA Try.prog n0 57 none F64.c2 := by kernel_rfl
theorem F64.e2 {n0 : Nat} {data0 swaps9 i10 j11 k12 : Value} {ds : List Nat} {h : H} {K : KP} : F64.p2 n0 [(0, data0), (9, swaps9), (10, i10), (11, j11), (12, k12)] ds h K = F64.t2 n0 data0 swaps9 i10 j11 k12 ds h K :=
  wchain (F64.s2) (F64.g2 data0 swaps9 i10 j11 k12)
noncomputable def F64.t3 (n0 : Nat) (data0 swaps9 i10 j11 k12 : Value) (ds : List Nat) (h : H) (K : KP) : Prop :=
  Cn Try.prog n0 (.func 76) [data0, i10, j11, k12, swaps9] h fun t48 h1 =>
  K .normal [(0, data0), (9, swaps9), (10, i10), (11, t48), (12, k12), (44, data0), (45, i10), (46, j11), (47, k12), (48, t48)] ds h1
theorem F64.g3 {n0 : Nat} (data0 swaps9 i10 j11 k12 : Value) {ds : List Nat} {h : H} {K : KP} : wA Try.prog n0 57 none F64.c3 [(0, data0), (9, swaps9), (10, i10), (11, j11), (12, k12)] ds h K = F64.t3 n0 data0 swaps9 i10 j11 k12 ds h K := by kernel_rfl
theorem F64.s3 {n0 : Nat} : F64.p3 n0 = wA Try.prog n0 57 none F64.c3 := by kernel_rfl
theorem F64.e3 {n0 : Nat} {data0 swaps9 i10 j11 k12 : Value} {ds : List Nat} {h : H} {K : KP} : F64.p3 n0 [(0, data0), (9, swaps9), (10, i10), (11, j11), (12, k12)] ds h K = F64.t3 n0 data0 swaps9 i10 j11 k12 ds h K :=
  wchain (F64.s3) (F64.g3 data0 swaps9 i10 j11 k12)
noncomputable def F64.t4 (n0 : Nat) (B5 : WP) (B6 : WP) (swaps9 j11 : Value) (ds : List Nat) (h : H) (K : KP) : Prop :=
  Bnd (aLoad Try.prog 3 swaps9 h) fun t49 =>
  Bnd (aBin Try.prog true .eql 3 t49 (.int .i64 0)) fun t52 =>
  Cnd t52
   (B5 [(11, j11), (49, t49)] ds h (KBlk [6, 7] 0 K))
   (B6 [(11, j11), (49, t49)] ds h (KBlk [6, 7] 0 K))
theorem F64.g4 {n0 : Nat} (B5 : WP) (B6 : WP) (swaps9 j11 : Value) {ds : List Nat} {h : H} {K : KP} : wA Try.prog n0 57 none (.seq [11, 49] F64.c4.fst (.block [6, 7] 0 (.seq [11, 49, 51] F64.c4.snd.fst.fst (.cond [11, 49] (.tmp 51) (.sub B5) (.sub B6))))) [(9, swaps9), (11, j11)] ds h K = F64.t4 n0 B5 B6 swaps9 j11 ds h K := by kernel_rfl
theorem F64.s4 {n0 : Nat} : F64.p4 n0 = wA Try.prog n0 57 none (.seq [11, 49] F64.c4.fst (.block [6, 7] 0 (.seq [11, 49, 51] F64.c4.snd.fst.fst (.cond [11, 49] (.tmp 51) (.sub (F64.p5 n0)) (.sub (F64.p6 n0)))))) := by kernel_rfl
theorem F64.e4 {n0 : Nat} {swaps9 j11 : Value} {ds : List Nat} {h : H} {K : KP} : F64.p4 n0 [(9, swaps9), (11, j11)] ds h K = F64.t4 n0 (F64.p5 n0) (F64.p6 n0) swaps9 j11 ds h K :=
  wchain (F64.s4) (F64.g4 (F64.p5 n0) (F64.p6 n0) swaps9 j11)
noncomputable def F64.t5 (n0 : Nat) (j11 t49 : Value) (ds : List Nat) (h : H) (K : KP) : Prop :=
  K .ret [(6, j11), (7, (.int .i64 1))] ds h
theorem F64.g5 {n0 : Nat} (j11 t49 : Value) {ds : List Nat} {h : H} {K : KP} : wA Try.prog n0 57 none F64.c5 [(11, j11), (49, t49)] ds h K = F64.t5 n0 j11 t49 ds h K := by kernel_rfl
theorem F64.s5 {n0 : Nat} : F64.p5 n0 = wA Try.prog n0 57 none F64.c5 := by kernel_rfl
theorem F64.e5 {n0 : Nat} {j11 t49 : Value} {ds : List Nat} {h : H} {K : KP} : F64.p5 n0 [(11, j11), (49, t49)] ds h K = F64.t5 n0 j11 t49 ds h K :=
  wchain (F64.s5) (F64.g5 j11 t49)
noncomputable def F64.t6 (n0 : Nat) (B7 : WP) (B8 : WP) (j11 t49 : Value) (ds : List Nat) (h : H) (K : KP) : Prop :=
  Bnd (aBin Try.prog true .eql 3 t49 (.int .i64 12)) fun t55 =>
  Cnd t55
   (B7 [(11, j11)] ds h K)
   (B8 [(11, j11)] ds h K)
theorem F64.g6 {n0 : Nat} (B7 : WP) (B8 : WP) (j11 t49 : Value) {ds : List Nat} {h : H} {K : KP} : wA Try.prog n0 57 none (.seq [11, 54] F64.c6.fst (.cond [11] (.tmp 54) (.sub B7) (.sub B8))) [(11, j11), (49, t49)] ds h K = F64.t6 n0 B7 B8 j11 t49 ds h K := by kernel_rfl
theorem F64.s6 {n0 : Nat} : F64.p6 n0 = wA Try.prog n0 57 none (.seq [11, 54] F64.c6.fst (.cond [11] (.tmp 54) (.sub (F64.p7 n0)) (.sub (F64.p8 n0)))) := by kernel_rfl
theorem F64.e6 {n0 : Nat} {j11 t49 : Value} {ds : List Nat} {h : H} {K : KP} : F64.p6 n0 [(11, j11), (49, t49)] ds h K = F64.t6 n0 (F64.p7 n0) (F64.p8 n0) j11 t49 ds h K :=
  wchain (F64.s6) (F64.g6 (F64.p7 n0) (F64.p8 n0) j11 t49)
noncomputable def F64.t7 (n0 : Nat) (j11 : Value) (ds : List Nat) (h : H) (K : KP) : Prop :=
  K .ret [(6, j11), (7, (.int .i64 2))] ds h
theorem F64.g7 {n0 : Nat} (j11 : Value) {ds : List Nat} {h : H} {K : KP} : wA Try.prog n0 57 none F64.c7 [(11, j11)] ds h K = F64.t7 n0 j11 ds h K := by kernel_rfl
theorem F64.s7 {n0 : Nat} : F64.p7 n0 = wA Try.prog n0 57 none F64.c7 := by kernel_rfl
theorem F64.e7 {n0 : Nat} {j11 : Value} {ds : List Nat} {h : H} {K : KP} : F64.p7 n0 [(11, j11)] ds h K = F64.t7 n0 j11 ds h K :=
  wchain (F64.s7) (F64.g7 j11)
noncomputable def F64.t8 (n0 : Nat) (j11 : Value) (ds : List Nat) (h : H) (K : KP) : Prop :=
  K .ret [(6, j11), (7, (.int .i64 0))] ds h
theorem F64.g8 {n0 : Nat} (j11 : Value) {ds : List Nat} {h : H} {K : KP} : wA Try.prog n0 57 none F64.c8 [(11, j11)] ds h K = F64.t8 n0 j11 ds h K := by kernel_rfl
theorem F64.s8 {n0 : Nat} : F64.p8 n0 = wA Try.prog n0 57 none F64.c8 := by kernel_rfl
theorem F64.e8 {n0 : Nat} {j11 : Value} {ds : List Nat} {h : H} {K : KP} : F64.p8 n0 [(11, j11)] ds h K = F64.t8 n0 j11 ds h K :=
  wchain (F64.s8) (F64.g8 j11)
theorem F64.b : Try.f64.body = some F64.c0.erase := by kernel_rfl
theorem F64.b2 : (Try.f64.name == "runtime.NumGoroutine") = false := by kernel_rfl
theorem F64.b3 : Try.f64.ntmps = 57 := by kernel_rfl
theorem F64.b4 : Try.f64.results.toList = [.tmp 6, .tmp 7] := by kernel_rfl
theorem F64.enter {n0 : Nat} {x0 x1 x2 : Value} {h : H} {Q : Value → H → Prop} (w : F64.p0 n0 [(0, x0), (1, x1), (2, x2)] [] h (KFin Try.prog [.tmp 6, .tmp 7] Q)) : Cn Try.prog n0 (.func 64) [x0, x1, x2] h Q :=
  @fn_enter Try.prog n0 mixed 64 Try.f64 F64.c0 [x0, x1, x2] h Q Try.func64 F64.b F64.k0 F64.b2 57 F64.b3 [.tmp 6, .tmp 7] F64.b4 (by simp) [(0, x0), (1, x1), (2, x2)] rfl (wback F64.d0 w)

/-! slices.reverseRangeOrdered[uint64] -/
noncomputable def F65.ac : AC := (ann (bodyOf Try.f65) [[0, 2, 6], [0, 6, 7], [], [0, 6, 7], [0, 6, 7], [0, 6, 7, 13], [0, 6, 7], [0, 6, 7], [0, 6, 7], [0, 6, 7]]).1
noncomputable def F65.c0 : AC := F65.ac
noncomputable def F65.c1 : AC := F65.ac.snd.snd.fst.fst
noncomputable def F65.c2 : AC := F65.ac.snd.snd.fst.fst.snd
noncomputable def F65.p0 (n0 : Nat) : WP := wA Try.prog n0 32 none F65.c0
noncomputable def F65.p1 (n0 : Nat) : WP := wA Try.prog n0 32 none F65.c1
noncomputable def F65.p2 (n0 : Nat) : WP := wA Try.prog n0 32 none F65.c2
noncomputable def F65.t0 (n0 : Nat) (B1 : WP) (data0 a1 b2 : Value) (ds : List Nat) (h : H) (K : KP) : Prop :=
  Bnd (aBin Try.prog true .sub 3 b2 (.int .i64 1)) fun t10 =>
  Lp [0, 6, 7] B1 [(0, data0), (6, a1), (7, t10)] ds h (KBlk [] 0 K)
theorem F65.g0 {n0 : Nat} (B1 : WP) (data0 a1 b2 : Value) {ds : List Nat} {h : H} {K : KP} : wA Try.prog n0 32 none (.seq [0, 2, 6] F65.c0.fst (.seq [0, 6, 7] F65.c0.snd.fst (.block [] 0 (.loop [0, 6, 7] (.sub B1))))) [(0, data0), (1, a1), (2, b2)] ds h K = F65.t0 n0 B1 data0 a1 b2 ds h K := by kernel_rfl
theorem F65.s0 {n0 : Nat} : F65.p0 n0 = wA Try.prog n0 32 none (.seq [0, 2, 6] F65.c0.fst (.seq [0, 6, 7] F65.c0.snd.fst (.block [] 0 (.loop [0, 6, 7] (.sub (F65.p1 n0)))))) := by kernel_rfl
theorem F65.e0 {n0 : Nat} {data0 a1 b2 : Value} {ds : List Nat} {h : H} {K : KP} : F65.p0 n0 [(0, data0), (1, a1), (2, b2)] ds h K = F65.t0 n0 (F65.p1 n0) data0 a1 b2 ds h K :=
  wchain (F65.s0) (F65.g0 (F65.p1 n0) data0 a1 b2)
theorem F65.k0 : F65.c0.ok = true := by kernel_rfl
theorem F65.d0 {n0 : Nat} : F65.p0 n0 = wA Try.prog n0 32 none F65.c0 := by kernel_rfl
theorem F65.m0 (n0 : Nat) : MonoW (F65.p0 n0) := @mono_c Try.prog n0 32 none F65.c0 (F65.p0 n0) (F65.d0) F65.k0
noncomputable def F65.t1 (n0 : Nat) (B2 : WP) (data0 i6 j7 : Value) (ds : List Nat) (h : H) (K : KP) : Prop :=
  Bnd (aBin Try.prog false .lss 3 i6 j7) fun t13 =>
  Cnd t13
   (B2 [(0, data0), (6, i6), (7, j7)] ds h K)
   (K (.exit 0) [(0, data0), (6, i6), (7, j7)] ds h)
theorem F65.g1 {n0 : Nat} (B2 : WP) (data0 i6 j7 : Value) {ds : List Nat} {h : H} {K : KP} : wA Try.prog n0 32 none (.seq [0, 6, 7] F65.c1.fst (.sub B2)) [(0, data0), (6, i6), (7, j7)] ds h K = F65.t1 n0 B2 data0 i6 j7 ds h K := by kernel_rfl
theorem F65.s1 {n0 : Nat} : F65.p1 n0 = wA Try.prog n0 32 none (.seq [0, 6, 7] F65.c1.fst (.sub (F65.p2 n0))) := by kernel_rfl
theorem F65.e1 {n0 : Nat} {data0 i6 j7 : Value} {ds : List Nat} {h : H} {K : KP} : F65.p1 n0 [(0, data0), (6, i6), (7, j7)] ds h K = F65.t1 n0 (F65.p2 n0) data0 i6 j7 ds h K :=
  wchain (F65.s1) (F65.g1 (F65.p2 n0) data0 i6 j7)
theorem F65.k1 : F65.c1.ok = true := by kernel_rfl
theorem F65.d1 {n0 : Nat} : F65.p1 n0 = wA Try.prog n0 32 none F65.c1 := by kernel_rfl
theorem F65.m1 (n0 : Nat) : MonoW (F65.p1 n0) := @mono_c Try.prog n0 32 none F65.c1 (F65.p1 n0) (F65.d1) F65.k1
noncomputable def F65.t2 (n0 : Nat) (data0 i6 j7 : Value) (ds : List Nat) (h : H) (K : KP) : Prop :=
  Bnd (aIndexAddr Try.prog 22 data0 j7) fun t20 =>
  Bnd (aLoad Try.prog 23 t20 h) fun t21 =>
  Bnd (aIndexAddr Try.prog 22 data0 i6) fun t24 =>
  Bnd (aLoad Try.prog 23 t24 h) fun t25 =>
  Bnd (aIndexAddr Try.prog 22 data0 i6) fun t26 =>
  Bnd (aStore Try.prog 23 t26 t21 h) fun h1 =>
  Bnd (aIndexAddr Try.prog 22 data0 j7) fun t27 =>
  Bnd (aStore Try.prog 23 t27 t25 h1) fun h2 =>
  Bnd (aBin Try.prog true .add 3 i6 (.int .i64 1)) fun t29 =>
  Bnd (aBin Try.prog true .sub 3 j7 (.int .i64 1)) fun t31 =>
  K .normal [(0, data0), (6, t29), (7, t31)] ds h2
theorem F65.g2 {n0 : Nat} (data0 i6 j7 : Value) {ds : List Nat} {h : H} {K : KP} : wA Try.prog n0 32 none F65.c2 [(0, data0), (6, i6), (7, j7)] ds h K = F65.t2 n0 data0 i6 j7 ds h K := by kernel_rfl
theorem F65.s2 {n0 : Nat} : F65.p2 n0 = wA Try.prog n0 32 none F65.c2 := by kernel_rfl
theorem F65.e2 {n0 : Nat} {data0 i6 j7 : Value} {ds : List Nat} {h : H} {K : KP} : F65.p2 n0 [(0, data0), (6, i6), (7, j7)] ds h K = F65.t2 n0 data0 i6 j7 ds h K :=
  wchain (F65.s2) (F65.g2 data0 i6 j7)
theorem F65.b : Try.f65.body = some F65.c0.erase := by kernel_rfl
theorem F65.b2 : (Try.f65.name == "runtime.NumGoroutine") = false := by kernel_rfl
theorem F65.b3 : Try.f65.ntmps = 32 := by kernel_rfl
theorem F65.b4 : Try.f65.results.toList = [] := by kernel_rfl
theorem F65.enter {n0 : Nat} {x0 x1 x2 : Value} {h : H} {Q : Value → H → Prop} (w : F65.p0 n0 [(0, x0), (1, x1), (2, x2)] [] h (KFin Try.prog [] Q)) : Cn Try.prog n0 (.func 65) [x0, x1, x2] h Q :=
  @fn_enter Try.prog n0 mixed 65 Try.f65 F65.c0 [x0, x1, x2] h Q Try.func65 F65.b F65.k0 F65.b2 32 F65.b3 [] F65.b4 (by simp) [(0, x0), (1, x1), (2, x2)] rfl (wback F65.d0 w)

/-! slices.partialInsertionSortOrdered[uint64] -/
noncomputable def F66.ac : AC := (ann (bodyOf Try.f66) [[0, 1, 2], [0, 1, 2, 7], [], [0, 1, 2, 7, 8], [], [0, 1, 2, 7, 8], [0, 1, 2, 7, 8], [0, 1, 2, 7, 8, 14], [0, 1, 2, 7, 8], [0, 1, 2, 7, 8], [0, 1, 2, 7, 8], [0, 1, 2, 7, 8], [0, 1, 2, 7, 8], [0, 1, 2, 7, 8], [0, 1, 2, 7, 8], [0, 1, 2, 7, 8, 32], [0, 1, 2, 7, 8], [0, 1, 2, 7, 8], [0, 1, 2, 7, 8], [0, 1, 2, 7, 8, 37], [0, 1, 2, 7, 8], [6], [0, 1, 2, 7, 8], [0, 1, 2, 7, 8, 41], [0, 1, 2, 7, 8], [6], [0, 1, 2, 7, 8], [0, 1, 2, 7, 8], [0, 1, 2, 7, 8, 61], [0, 1, 2, 7, 8], [0, 1, 2, 7, 8, 9], [0, 1, 2, 7, 8], [0, 1, 2, 7, 8, 9], [0, 1, 2, 7, 8, 9], [0, 1, 2, 7, 8, 9, 65], [0, 1, 2, 7, 8, 9], [0, 1, 2, 7, 8, 9], [0, 1, 2, 7, 8, 9], [0, 1, 2, 7, 8, 9], [0, 1, 2, 7, 8, 9, 78], [0, 1, 2, 7, 8, 9], [0, 1, 2, 7, 8, 98], [0, 1, 2, 7, 8], [0, 1, 2, 7, 8, 10], [0, 1, 2, 7, 8], [0, 1, 2, 7, 8, 10], [0, 1, 2, 7, 8, 10], [0, 1, 2, 7, 8, 10, 103], [0, 1, 2, 7, 8, 10], [0, 1, 2, 7, 8, 10], [0, 1, 2, 7, 8, 10], [0, 1, 2, 7, 8, 10], [0, 1, 2, 7, 8, 10, 116], [0, 1, 2, 7, 8, 10], [6]]).1
noncomputable def F66.c0 : AC := F66.ac
noncomputable def F66.c1 : AC := F66.ac.snd.snd.fst.snd.fst.fst
noncomputable def F66.c2 : AC := F66.ac.snd.snd.fst.snd.fst.fst.snd
noncomputable def F66.c3 : AC := F66.ac.snd.snd.fst.snd.fst.fst.snd.fst.fst.fst.fst.fst
noncomputable def F66.c4 : AC := F66.ac.snd.snd.fst.snd.fst.fst.snd.fst.fst.fst.fst.fst.snd
noncomputable def F66.c5 : AC := F66.ac.snd.snd.fst.snd.fst.fst.snd.fst.fst.snd
noncomputable def F66.c6 : AC := F66.ac.snd.snd.fst.snd.fst.fst.snd.fst.fst.snd.fst.snd.fst
noncomputable def F66.c7 : AC := F66.ac.snd.snd.fst.snd.fst.fst.snd.fst.fst.snd.snd
noncomputable def F66.c8 : AC := F66.ac.snd.snd.fst.snd.fst.fst.snd.fst.fst.snd.snd.fst.snd.fst
noncomputable def F66.c9 : AC := F66.ac.snd.snd.fst.snd.fst.fst.snd.fst.fst.snd.snd.snd
noncomputable def F66.c10 : AC := F66.ac.snd.snd.fst.snd.fst.fst.snd.fst.fst.snd.snd.snd.snd.fst.snd.fst
noncomputable def F66.c11 : AC := F66.ac.snd.snd.fst.snd.fst.fst.snd.fst.fst.snd.snd.snd.snd.fst.snd.fst.snd.fst.fst
noncomputable def F66.c12 : AC := F66.ac.snd.snd.fst.snd.fst.fst.snd.fst.fst.snd.snd.snd.snd.fst.snd.fst.snd.fst.fst.snd
noncomputable def F66.c13 : AC := F66.ac.snd.snd.fst.snd.fst.fst.snd.fst.fst.snd.snd.snd.snd.fst.snd.fst.snd.fst.fst.snd.fst.fst.snd
noncomputable def F66.c14 : AC := F66.ac.snd.snd.fst.snd.fst.fst.snd.fst.fst.snd.snd.snd.snd.fst.snd.fst.snd.fst.fst.snd.snd
noncomputable def F66.c15 : AC := F66.ac.snd.snd.fst.snd.fst.fst.snd.fst.fst.snd.snd.snd.snd.snd
noncomputable def F66.c16 : AC := F66.ac.snd.snd.fst.snd.fst.fst.snd.fst.fst.snd.snd.snd.snd.snd.snd.fst
noncomputable def F66.c17 : AC := F66.ac.snd.snd.fst.snd.fst.fst.snd.fst.fst.snd.snd.snd.snd.snd.snd.fst.snd.fst.fst
noncomputable def F66.c18 : AC := F66.ac.snd.snd.fst.snd.fst.fst.snd.fst.fst.snd.snd.snd.snd.snd.snd.fst.snd.fst.fst.snd
noncomputable def F66.c19 : AC := F66.ac.snd.snd.fst.snd.fst.fst.snd.fst.fst.snd.snd.snd.snd.snd.snd.fst.snd.fst.fst.snd.fst.fst.snd
noncomputable def F66.c20 : AC := F66.ac.snd.snd.fst.snd.fst.fst.snd.fst.fst.snd.snd.snd.snd.snd.snd.fst.snd.fst.fst.snd.snd
noncomputable def F66.c21 : AC := F66.ac.snd.snd.fst.snd.fst.fst.snd.snd
noncomputable def F66.c22 : AC := F66.ac.snd.snd.snd
noncomputable def F66.p0 (n0 : Nat) : WP := wA Try.prog n0 133 none F66.c0
noncomputable def F66.p1 (n0 : Nat) : WP := wA Try.prog n0 133 none F66.c1
noncomputable def F66.p2 (n0 : Nat) : WP := wA Try.prog n0 133 none F66.c2
noncomputable def F66.p3 (n0 : Nat) : WP := wA Try.prog n0 133 none F66.c3
noncomputable def F66.p4 (n0 : Nat) : WP := wA Try.prog n0 133 none F66.c4
noncomputable def F66.p5 (n0 : Nat) : WP := wA Try.prog n0 133 none F66.c5
noncomputable def F66.p6 (n0 : Nat) : WP := wA Try.prog n0 133 none F66.c6
noncomputable def F66.p7 (n0 : Nat) : WP := wA Try.prog n0 133 none F66.c7
noncomputable def F66.p8 (n0 : Nat) : WP := wA Try.prog n0 133 none F66.c8
noncomputable def F66.p9 (n0 : Nat) : WP := wA Try.prog n0 133 none F66.c9
noncomputable def F66.p10 (n0 : Nat) : WP := wA Try.prog n0 133 none F66.c10
noncomputable def F66.p11 (n0 : Nat) : WP := wA Try.prog n0 133 none F66.c11
noncomputable def F66.p12 (n0 : Nat) : WP := wA Try.prog n0 133 none F66.c12
noncomputable def F66.p13 (n0 : Nat) : WP := wA Try.prog n0 133 none F66.c13
noncomputable def F66.p14 (n0 : Nat) : WP := wA Try.prog n0 133 none F66.c14
noncomputable def F66.p15 (n0 : Nat) : WP := wA Try.prog n0 133 none F66.c15
noncomputable def F66.p16 (n0 : Nat) : WP := wA Try.prog n0 133 none F66.c16
noncomputable def F66.p17 (n0 : Nat) : WP := wA Try.prog n0 133 none F66.c17
noncomputable def F66.p18 (n0 : Nat) : WP := wA Try.prog n0 133 none F66.c18
noncomputable def F66.p19 (n0 : Nat) : WP := wA Try.prog n0 133 none F66.c19
noncomputable def F66.p20 (n0 : Nat) : WP := wA Try.prog n0 133 none F66.c20
noncomputable def F66.p21 (n0 : Nat) : WP := wA Try.prog n0 133 none F66.c21
noncomputable def F66.p22 (n0 : Nat) : WP := wA Try.prog n0 133 none F66.c22
noncomputable def F66.t0 (n0 : Nat) (B1 : WP) (B22 : WP) (data0 a1 b2 : Value) (ds : List Nat) (h : H) (K : KP) : Prop :=
  Bnd (aBin Try.prog true .add 3 a1 (.int .i64 1)) fun t12 =>
  Lp [0, 1, 2, 7, 8] B1 [(0, data0), (1, a1), (2, b2), (7, t12), (8, (.int .i64 0))] ds h (KBlk [] 0 (KSeq [] B22 K))
theorem F66.g0 {n0 : Nat} (B1 : WP) (B22 : WP) (data0 a1 b2 : Value) {ds : List Nat} {h : H} {K : KP} : wA Try.prog n0 133 none (.seq [0, 1, 2] F66.c0.fst (.seq [0, 1, 2, 7] F66.c0.snd.fst (.seq [] (.seq [0, 1, 2, 7, 8] F66.c0.snd.snd.fst.fst (.block [] 0 (.loop [0, 1, 2, 7, 8] (.sub B1)))) (.sub B22)))) [(0, data0), (1, a1), (2, b2)] ds h K = F66.t0 n0 B1 B22 data0 a1 b2 ds h K := by kernel_rfl
theorem F66.s0 {n0 : Nat} : F66.p0 n0 = wA Try.prog n0 133 none (.seq [0, 1, 2] F66.c0.fst (.seq [0, 1, 2, 7] F66.c0.snd.fst (.seq [] (.seq [0, 1, 2, 7, 8] F66.c0.snd.snd.fst.fst (.block [] 0 (.loop [0, 1, 2, 7, 8] (.sub (F66.p1 n0))))) (.sub (F66.p22 n0))))) := by kernel_rfl
theorem F66.e0 {n0 : Nat} {data0 a1 b2 : Value} {ds : List Nat} {h : H} {K : KP} : F66.p0 n0 [(0, data0), (1, a1), (2, b2)] ds h K = F66.t0 n0 (F66.p1 n0) (F66.p22 n0) data0 a1 b2 ds h K :=
  wchain (F66.s0) (F66.g0 (F66.p1 n0) (F66.p22 n0) data0 a1 b2)
theorem F66.k0 : F66.c0.ok = true := by kernel_rfl
theorem F66.d0 {n0 : Nat} : F66.p0 n0 = wA Try.prog n0 133 none F66.c0 := by kernel_rfl
theorem F66.m0 (n0 : Nat) : MonoW (F66.p0 n0) := @mono_c Try.prog n0 133 none F66.c0 (F66.p0 n0) (F66.d0) F66.k0
noncomputable def F66.t1 (n0 : Nat) (B2 : WP) (data0 a1 b2 i7 j8 : Value) (ds : List Nat) (h : H) (K : KP) : Prop :=
  Bnd (aBin Try.prog true .lss 3 j8 (.int .i64 5)) fun t14 =>
  Cnd t14
   (B2 [(0, data0), (1, a1), (2, b2), (7, i7), (8, j8)] ds h K)
   (K (.exit 0) [(0, data0), (1, a1), (2, b2), (7, i7), (8, j8)] ds h)
theorem F66.g1 {n0 : Nat} (B2 : WP) (data0 a1 b2 i7 j8 : Value) {ds : List Nat} {h : H} {K : KP} : wA Try.prog n0 133 none (.seq [0, 1, 2, 7, 8] F66.c1.fst (.sub B2)) [(0, data0), (1, a1), (2, b2), (7, i7), (8, j8)] ds h K = F66.t1 n0 B2 data0 a1 b2 i7 j8 ds h K := by kernel_rfl
theorem F66.s1 {n0 : Nat} : F66.p1 n0 = wA Try.prog n0 133 none (.seq [0, 1, 2, 7, 8] F66.c1.fst (.sub (F66.p2 n0))) := by kernel_rfl
theorem F66.e1 {n0 : Nat} {data0 a1 b2 i7 j8 : Value} {ds : List Nat} {h : H} {K : KP} : F66.p1 n0 [(0, data0), (1, a1), (2, b2), (7, i7), (8, j8)] ds h K = F66.t1 n0 (F66.p2 n0) data0 a1 b2 i7 j8 ds h K :=
  wchain (F66.s1) (F66.g1 (F66.p2 n0) data0 a1 b2 i7 j8)
theorem F66.k1 : F66.c1.ok = true := by kernel_rfl
theorem F66.d1 {n0 : Nat} : F66.p1 n0 = wA Try.prog n0 133 none F66.c1 := by kernel_rfl
theorem F66.m1 (n0 : Nat) : MonoW (F66.p1 n0) := @mono_c Try.prog n0 133 none F66.c1 (F66.p1 n0) (F66.d1) F66.k1
noncomputable def F66.t2 (n0 : Nat) (B3 : WP) (B5 : WP) (B21 : WP) (data0 a1 b2 i7 j8 : Value) (ds : List Nat) (h : H) (K : KP) : Prop :=
  Lp [0, 1, 2, 7, 8] B3 [(0, data0), (1, a1), (2, b2), (7, i7), (8, j8)] ds h (KBlk [0, 1, 2, 7, 8] 2 (KSeq [0, 1, 2, 7, 8] B5 (KBlk [0, 1, 2, 7, 8] 1 (KSeq [0, 1, 2, 7, 8] B21 K))))
theorem F66.g2 {n0 : Nat} (B3 : WP) (B5 : WP) (B21 : WP) (data0 a1 b2 i7 j8 : Value) {ds : List Nat} {h : H} {K : KP} : wA Try.prog n0 133 none (.seq [0, 1, 2, 7, 8] (.block [0, 1, 2, 7, 8] 1 (.seq [0, 1, 2, 7, 8] (.block [0, 1, 2, 7, 8] 2 (.loop [0, 1, 2, 7, 8] (.sub B3))) (.sub B5))) (.sub B21)) [(0, data0), (1, a1), (2, b2), (7, i7), (8, j8)] ds h K = F66.t2 n0 B3 B5 B21 data0 a1 b2 i7 j8 ds h K := by kernel_rfl
theorem F66.s2 {n0 : Nat} : F66.p2 n0 = wA Try.prog n0 133 none (.seq [0, 1, 2, 7, 8] (.block [0, 1, 2, 7, 8] 1 (.seq [0, 1, 2, 7, 8] (.block [0, 1, 2, 7, 8] 2 (.loop [0, 1, 2, 7, 8] (.sub (F66.p3 n0)))) (.sub (F66.p5 n0)))) (.sub (F66.p21 n0))) := by kernel_rfl
theorem F66.e2 {n0 : Nat} {data0 a1 b2 i7 j8 : Value} {ds : List Nat} {h : H} {K : KP} : F66.p2 n0 [(0, data0), (1, a1), (2, b2), (7, i7), (8, j8)] ds h K = F66.t2 n0 (F66.p3 n0) (F66.p5 n0) (F66.p21 n0) data0 a1 b2 i7 j8 ds h K :=
  wchain (F66.s2) (F66.g2 (F66.p3 n0) (F66.p5 n0) (F66.p21 n0) data0 a1 b2 i7 j8)
noncomputable def F66.t3 (n0 : Nat) (B4 : WP) (data0 a1 b2 i7 j8 : Value) (ds : List Nat) (h : H) (K : KP) : Prop :=
  Bnd (aBin Try.prog false .lss 3 i7 b2) fun t19 =>
  Gd t19
   (Bnd (aIndexAddr Try.prog 22 data0 i7) fun t23 =>
  Bnd (aLoad Try.prog 23 t23 h) fun t24 =>
  Bnd (aBin Try.prog true .sub 3 i7 (.int .i64 1)) fun t27 =>
  Bnd (aIndexAddr Try.prog 22 data0 t27) fun t28 =>
  Bnd (aLoad Try.prog 23 t28 h) fun t29 =>
  Cn Try.prog n0 (.func 67) [t24, t29] h fun t30 h1 =>
  Bnd (aUn .not t30) fun t31 =>
  Cnd t31
   (B4 [(0, data0), (1, a1), (2, b2), (7, i7), (8, j8)] ds h1 K)
   (K (.exit 2) [(0, data0), (1, a1), (2, b2), (7, i7), (8, j8)] ds h1))
   (K (.exit 2) [(0, data0), (1, a1), (2, b2), (7, i7), (8, j8)] ds h)
theorem F66.g3 {n0 : Nat} (B4 : WP) (data0 a1 b2 i7 j8 : Value) {ds : List Nat} {h : H} {K : KP} : wA Try.prog n0 133 none (.seq [0, 1, 2, 7, 8] F66.c3.fst (.sub B4)) [(0, data0), (1, a1), (2, b2), (7, i7), (8, j8)] ds h K = F66.t3 n0 B4 data0 a1 b2 i7 j8 ds h K := by kernel_rfl
theorem F66.s3 {n0 : Nat} : F66.p3 n0 = wA Try.prog n0 133 none (.seq [0, 1, 2, 7, 8] F66.c3.fst (.sub (F66.p4 n0))) := by kernel_rfl
theorem F66.e3 {n0 : Nat} {data0 a1 b2 i7 j8 : Value} {ds : List Nat} {h : H} {K : KP} : F66.p3 n0 [(0, data0), (1, a1), (2, b2), (7, i7), (8, j8)] ds h K = F66.t3 n0 (F66.p4 n0) data0 a1 b2 i7 j8 ds h K :=
  wchain (F66.s3) (F66.g3 (F66.p4 n0) data0 a1 b2 i7 j8)
theorem F66.k3 : F66.c3.ok = true := by kernel_rfl
theorem F66.d3 {n0 : Nat} : F66.p3 n0 = wA Try.prog n0 133 none F66.c3 := by kernel_rfl
theorem F66.m3 (n0 : Nat) : MonoW (F66.p3 n0) := @mono_c Try.prog n0 133 none F66.c3 (F66.p3 n0) (F66.d3) F66.k3
noncomputable def F66.t4 (n0 : Nat) (data0 a1 b2 i7 j8 : Value) (ds : List Nat) (h : H) (K : KP) : Prop :=
  Bnd (aBin Try.prog true .add 3 i7 (.int .i64 1)) fun t34 =>
  K .normal [(0, data0), (1, a1), (2, b2), (7, t34), (8, j8)] ds h
theorem F66.g4 {n0 : Nat} (data0 a1 b2 i7 j8 : Value) {ds : List Nat} {h : H} {K : KP} : wA Try.prog n0 133 none F66.c4 [(0, data0), (1, a1), (2, b2), (7, i7), (8, j8)] ds h K = F66.t4 n0 data0 a1 b2 i7 j8 ds h K := by kernel_rfl
theorem F66.s4 {n0 : Nat} : F66.p4 n0 = wA Try.prog n0 133 none F66.c4 := by kernel_rfl
theorem F66.e4 {n0 : Nat} {data0 a1 b2 i7 j8 : Value} {ds : List Nat} {h : H} {K : KP} : F66.p4 n0 [(0, data0), (1, a1), (2, b2), (7, i7), (8, j8)] ds h K = F66.t4 n0 data0 a1 b2 i7 j8 ds h K :=
  wchain (F66.s4) (F66.g4 data0 a1 b2 i7 j8)
noncomputable def F66.t5 (n0 : Nat) (B6 : WP) (B7 : WP) (data0 a1 b2 i7 j8 : Value) (ds : List Nat) (h : H) (K : KP) : Prop :=
  Bnd (aBin Try.prog false .eql 3 i7 b2) fun t37 =>
  Cnd t37
   (B6 [(0, data0), (1, a1), (2, b2), (7, i7), (8, j8)] ds h (KSeq [0, 1, 2, 7, 8] B7 K))
   (B7 [(0, data0), (1, a1), (2, b2), (7, i7), (8, j8)] ds h K)
theorem F66.g5 {n0 : Nat} (B6 : WP) (B7 : WP) (data0 a1 b2 i7 j8 : Value) {ds : List Nat} {h : H} {K : KP} : wA Try.prog n0 133 none (.seq [0, 1, 2, 7, 8] (.seq [0, 1, 2, 7, 8, 37] F66.c5.fst.fst (.cond [0, 1, 2, 7, 8] (.tmp 37) (.sub B6) F66.c5.fst.snd.snd)) (.sub B7)) [(0, data0), (1, a1), (2, b2), (7, i7), (8, j8)] ds h K = F66.t5 n0 B6 B7 data0 a1 b2 i7 j8 ds h K := by kernel_rfl
theorem F66.s5 {n0 : Nat} : F66.p5 n0 = wA Try.prog n0 133 none (.seq [0, 1, 2, 7, 8] (.seq [0, 1, 2, 7, 8, 37] F66.c5.fst.fst (.cond [0, 1, 2, 7, 8] (.tmp 37) (.sub (F66.p6 n0)) F66.c5.fst.snd.snd)) (.sub (F66.p7 n0))) := by kernel_rfl
theorem F66.e5 {n0 : Nat} {data0 a1 b2 i7 j8 : Value} {ds : List Nat} {h : H} {K : KP} : F66.p5 n0 [(0, data0), (1, a1), (2, b2), (7, i7), (8, j8)] ds h K = F66.t5 n0 (F66.p6 n0) (F66.p7 n0) data0 a1 b2 i7 j8 ds h K :=
  wchain (F66.s5) (F66.g5 (F66.p6 n0) (F66.p7 n0) data0 a1 b2 i7 j8)
noncomputable def F66.t6 (n0 : Nat) (data0 a1 b2 i7 j8 : Value) (ds : List Nat) (h : H) (K : KP) : Prop :=
  K .ret [(6, (.bool true))] ds h
theorem F66.g6 {n0 : Nat} (data0 a1 b2 i7 j8 : Value) {ds : List Nat} {h : H} {K : KP} : wA Try.prog n0 133 none F66.c6 [(0, data0), (1, a1), (2, b2), (7, i7), (8, j8)] ds h K = F66.t6 n0 data0 a1 b2 i7 j8 ds h K := by kernel_rfl
theorem F66.s6 {n0 : Nat} : F66.p6 n0 = wA Try.prog n0 133 none F66.c6 := by kernel_rfl
theorem F66.e6 {n0 : Nat} {data0 a1 b2 i7 j8 : Value} {ds : List Nat} {h : H} {K : KP} : F66.p6 n0 [(0, data0), (1, a1), (2, b2), (7, i7), (8, j8)] ds h K = F66.t6 n0 data0 a1 b2 i7 j8 ds h K :=
  wchain (F66.s6) (F66.g6 data0 a1 b2 i7 j8)
noncomputable def F66.t7 (n0 : Nat) (B8 : WP) (B9 : WP) (data0 a1 b2 i7 j8 : Value) (ds : List Nat) (h : H) (K : KP) : Prop :=
  Bnd (aBin Try.prog false .sub 3 b2 a1) fun t40 =>
  Bnd (aBin Try.prog true .lss 3 t40 (.int .i64 50)) fun t41 =>
  Cnd t41
   (B8 [(0, data0), (1, a1), (2, b2), (7, i7), (8, j8)] ds h (KSeq [0, 1, 2, 7, 8] B9 K))
   (B9 [(0, data0), (1, a1), (2, b2), (7, i7), (8, j8)] ds h K)
theorem F66.g7 {n0 : Nat} (B8 : WP) (B9 : WP) (data0 a1 b2 i7 j8 : Value) {ds : List Nat} {h : H} {K : KP} : wA Try.prog n0 133 none (.seq [0, 1, 2, 7, 8] (.seq [0, 1, 2, 7, 8, 41] F66.c7.fst.fst (.cond [0, 1, 2, 7, 8] (.tmp 41) (.sub B8) F66.c7.fst.snd.snd)) (.sub B9)) [(0, data0), (1, a1), (2, b2), (7, i7), (8, j8)] ds h K = F66.t7 n0 B8 B9 data0 a1 b2 i7 j8 ds h K := by kernel_rfl
theorem F66.s7 {n0 : Nat} : F66.p7 n0 = wA Try.prog n0 133 none (.seq [0, 1, 2, 7, 8] (.seq [0, 1, 2, 7, 8, 41] F66.c7.fst.fst (.cond [0, 1, 2, 7, 8] (.tmp 41) (.sub (F66.p8 n0)) F66.c7.fst.snd.snd)) (.sub (F66.p9 n0))) := by kernel_rfl
theorem F66.e7 {n0 : Nat} {data0 a1 b2 i7 j8 : Value} {ds : List Nat} {h : H} {K : KP} : F66.p7 n0 [(0, data0), (1, a1), (2, b2), (7, i7), (8, j8)] ds h K = F66.t7 n0 (F66.p8 n0) (F66.p9 n0) data0 a1 b2 i7 j8 ds h K :=
  wchain (F66.s7) (F66.g7 (F66.p8 n0) (F66.p9 n0) data0 a1 b2 i7 j8)
noncomputable def F66.t8 (n0 : Nat) (data0 a1 b2 i7 j8 : Value) (ds : List Nat) (h : H) (K : KP) : Prop :=
  K .ret [(6, (.bool false))] ds h
theorem F66.g8 {n0 : Nat} (data0 a1 b2 i7 j8 : Value) {ds : List Nat} {h : H} {K : KP} : wA Try.prog n0 133 none F66.c8 [(0, data0), (1, a1), (2, b2), (7, i7), (8, j8)] ds h K = F66.t8 n0 data0 a1 b2 i7 j8 ds h K := by kernel_rfl
theorem F66.s8 {n0 : Nat} : F66.p8 n0 = wA Try.prog n0 133 none F66.c8 := by kernel_rfl
theorem F66.e8 {n0 : Nat} {data0 a1 b2 i7 j8 : Value} {ds : List Nat} {h : H} {K : KP} : F66.p8 n0 [(0, data0), (1, a1), (2, b2), (7, i7), (8, j8)] ds h K = F66.t8 n0 data0 a1 b2 i7 j8 ds h K :=
  wchain (F66.s8) (F66.g8 data0 a1 b2 i7 j8)
noncomputable def F66.t9 (n0 : Nat) (B10 : WP) (B15 : WP) (data0 a1 b2 i7 j8 : Value) (ds : List Nat) (h : H) (K : KP) : Prop :=
  Bnd (aBin Try.prog true .sub 3 i7 (.int .i64 1)) fun t46 =>
  Bnd (aBin Try.prog true .sub 3 i7 (.int .i64 1)) fun t49 =>
  Bnd (aIndexAddr Try.prog 22 data0 t49) fun t50 =>
  Bnd (aLoad Try.prog 23 t50 h) fun t51 =>
  Bnd (aIndexAddr Try.prog 22 data0 i7) fun t54 =>
  Bnd (aLoad Try.prog 23 t54 h) fun t55 =>
  Bnd (aIndexAddr Try.prog 22 data0 i7) fun t56 =>
  Bnd (aStore Try.prog 23 t56 t51 h) fun h1 =>
  Bnd (aIndexAddr Try.prog 22 data0 t46) fun t57 =>
  Bnd (aStore Try.prog 23 t57 t55 h1) fun h2 =>
  Bnd (aBin Try.prog false .sub 3 i7 a1) fun t60 =>
  Bnd (aBin Try.prog true .geq 3 t60 (.int .i64 2)) fun t61 =>
  Cnd t61
   (B10 [(0, data0), (1, a1), (2, b2), (7, i7), (8, j8)] ds h2 (KSeq [0, 1, 2, 7, 8] B15 K))
   (B15 [(0, data0), (1, a1), (2, b2), (7, i7), (8, j8)] ds h2 K)
theorem F66.g9 {n0 : Nat} (B10 : WP) (B15 : WP) (data0 a1 b2 i7 j8 : Value) {ds : List Nat} {h : H} {K : KP} : wA Try.prog n0 133 none (.seq [0, 1, 2, 7, 8] F66.c9.fst (.seq [0, 1, 2, 7, 8] (.seq [0, 1, 2, 7, 8, 61] F66.c9.snd.fst.fst (.cond [0, 1, 2, 7, 8] (.tmp 61) (.sub B10) F66.c9.snd.fst.snd.snd)) (.sub B15))) [(0, data0), (1, a1), (2, b2), (7, i7), (8, j8)] ds h K = F66.t9 n0 B10 B15 data0 a1 b2 i7 j8 ds h K := by kernel_rfl
theorem F66.s9 {n0 : Nat} : F66.p9 n0 = wA Try.prog n0 133 none (.seq [0, 1, 2, 7, 8] F66.c9.fst (.seq [0, 1, 2, 7, 8] (.seq [0, 1, 2, 7, 8, 61] F66.c9.snd.fst.fst (.cond [0, 1, 2, 7, 8] (.tmp 61) (.sub (F66.p10 n0)) F66.c9.snd.fst.snd.snd)) (.sub (F66.p15 n0)))) := by kernel_rfl
theorem F66.e9 {n0 : Nat} {data0 a1 b2 i7 j8 : Value} {ds : List Nat} {h : H} {K : KP} : F66.p9 n0 [(0, data0), (1, a1), (2, b2), (7, i7), (8, j8)] ds h K = F66.t9 n0 (F66.p10 n0) (F66.p15 n0) data0 a1 b2 i7 j8 ds h K :=
  wchain (F66.s9) (F66.g9 (F66.p10 n0) (F66.p15 n0) data0 a1 b2 i7 j8)
noncomputable def F66.t10 (n0 : Nat) (B11 : WP) (data0 a1 b2 i7 j8 : Value) (ds : List Nat) (h : H) (K : KP) : Prop :=
  Bnd (aBin Try.prog true .sub 3 i7 (.int .i64 1)) fun t63 =>
  Lp [0, 1, 2, 7, 8, 9] B11 [(0, data0), (1, a1), (2, b2), (7, i7), (8, j8), (9, t63)] ds h (KBlk [0, 1, 2, 7, 8] 4 K)
theorem F66.g10 {n0 : Nat} (B11 : WP) (data0 a1 b2 i7 j8 : Value) {ds : List Nat} {h : H} {K : KP} : wA Try.prog n0 133 none (.seq [0, 1, 2, 7, 8, 9] F66.c10.fst (.block [0, 1, 2, 7, 8] 4 (.loop [0, 1, 2, 7, 8, 9] (.sub B11)))) [(0, data0), (1, a1), (2, b2), (7, i7), (8, j8)] ds h K = F66.t10 n0 B11 data0 a1 b2 i7 j8 ds h K := by kernel_rfl
theorem F66.s10 {n0 : Nat} : F66.p10 n0 = wA Try.prog n0 133 none (.seq [0, 1, 2, 7, 8, 9] F66.c10.fst (.block [0, 1, 2, 7, 8] 4 (.loop [0, 1, 2, 7, 8, 9] (.sub (F66.p11 n0))))) := by kernel_rfl
theorem F66.e10 {n0 : Nat} {data0 a1 b2 i7 j8 : Value} {ds : List Nat} {h : H} {K : KP} : F66.p10 n0 [(0, data0), (1, a1), (2, b2), (7, i7), (8, j8)] ds h K = F66.t10 n0 (F66.p11 n0) data0 a1 b2 i7 j8 ds h K :=
  wchain (F66.s10) (F66.g10 (F66.p11 n0) data0 a1 b2 i7 j8)
noncomputable def F66.t11 (n0 : Nat) (B12 : WP) (data0 a1 b2 i7 j8 j9 : Value) (ds : List Nat) (h : H) (K : KP) : Prop :=
  Bnd (aBin Try.prog true .geq 3 j9 (.int .i64 1)) fun t65 =>
  Cnd t65
   (B12 [(0, data0), (1, a1), (2, b2), (7, i7), (8, j8), (9, j9)] ds h K)
   (K (.exit 4) [(0, data0), (1, a1), (2, b2), (7, i7), (8, j8), (9, j9)] ds h)
theorem F66.g11 {n0 : Nat} (B12 : WP) (data0 a1 b2 i7 j8 j9 : Value) {ds : List Nat} {h : H} {K : KP} : wA Try.prog n0 133 none (.seq [0, 1, 2, 7, 8, 9] F66.c11.fst (.sub B12)) [(0, data0), (1, a1), (2, b2), (7, i7), (8, j8), (9, j9)] ds h K = F66.t11 n0 B12 data0 a1 b2 i7 j8 j9 ds h K := by kernel_rfl
theorem F66.s11 {n0 : Nat} : F66.p11 n0 = wA Try.prog n0 133 none (.seq [0, 1, 2, 7, 8, 9] F66.c11.fst (.sub (F66.p12 n0))) := by kernel_rfl
theorem F66.e11 {n0 : Nat} {data0 a1 b2 i7 j8 j9 : Value} {ds : List Nat} {h : H} {K : KP} : F66.p11 n0 [(0, data0), (1, a1), (2, b2), (7, i7), (8, j8), (9, j9)] ds h K = F66.t11 n0 (F66.p12 n0) data0 a1 b2 i7 j8 j9 ds h K :=
  wchain (F66.s11) (F66.g11 (F66.p12 n0) data0 a1 b2 i7 j8 j9)
theorem F66.k11 : F66.c11.ok = true := by kernel_rfl
theorem F66.d11 {n0 : Nat} : F66.p11 n0 = wA Try.prog n0 133 none F66.c11 := by kernel_rfl
theorem F66.m11 (n0 : Nat) : MonoW (F66.p11 n0) := @mono_c Try.prog n0 133 none F66.c11 (F66.p11 n0) (F66.d11) F66.k11
noncomputable def F66.t12 (n0 : Nat) (B13 : WP) (B14 : WP) (data0 a1 b2 i7 j8 j9 : Value) (ds : List Nat) (h : H) (K : KP) : Prop :=
  Bnd (aIndexAddr Try.prog 22 data0 j9) fun t70 =>
  Bnd (aLoad Try.prog 23 t70 h) fun t71 =>
  Bnd (aBin Try.prog true .sub 3 j9 (.int .i64 1)) fun t74 =>
  Bnd (aIndexAddr Try.prog 22 data0 t74) fun t75 =>
  Bnd (aLoad Try.prog 23 t75 h) fun t76 =>
  Cn Try.prog n0 (.func 67) [t71, t76] h fun t77 h1 =>
  Bnd (aUn .not t77) fun t78 =>
  Cnd t78
   (K (.exit 4) [(0, data0), (1, a1), (2, b2), (7, i7), (8, j8), (9, j9)] ds h1)
   (B13 [(0, data0), (1, a1), (2, b2), (7, i7), (8, j8), (9, j9)] ds h1 (KBlk [0, 1, 2, 7, 8, 9] 5 (KSeq [0, 1, 2, 7, 8, 9] B14 K)))
theorem F66.g12 {n0 : Nat} (B13 : WP) (B14 : WP) (data0 a1 b2 i7 j8 j9 : Value) {ds : List Nat} {h : H} {K : KP} : wA Try.prog n0 133 none (.seq [0, 1, 2, 7, 8, 9] (.block [0, 1, 2, 7, 8, 9] 5 (.seq [0, 1, 2, 7, 8, 9] F66.c12.fst.fst.fst (.sub B13))) (.sub B14)) [(0, data0), (1, a1), (2, b2), (7, i7), (8, j8), (9, j9)] ds h K = F66.t12 n0 B13 B14 data0 a1 b2 i7 j8 j9 ds h K := by kernel_rfl
theorem F66.s12 {n0 : Nat} : F66.p12 n0 = wA Try.prog n0 133 none (.seq [0, 1, 2, 7, 8, 9] (.block [0, 1, 2, 7, 8, 9] 5 (.seq [0, 1, 2, 7, 8, 9] F66.c12.fst.fst.fst (.sub (F66.p13 n0)))) (.sub (F66.p14 n0))) := by kernel_rfl
theorem F66.e12 {n0 : Nat} {data0 a1 b2 i7 j8 j9 : Value} {ds : List Nat} {h : H} {K : KP} : F66.p12 n0 [(0, data0), (1, a1), (2, b2), (7, i7), (8, j8), (9, j9)] ds h K = F66.t12 n0 (F66.p13 n0) (F66.p14 n0) data0 a1 b2 i7 j8 j9 ds h K :=
  wchain (F66.s12) (F66.g12 (F66.p13 n0) (F66.p14 n0) data0 a1 b2 i7 j8 j9)
noncomputable def F66.t13 (n0 : Nat) (data0 a1 b2 i7 j8 j9 : Value) (ds : List Nat) (h : H) (K : KP) : Prop :=
  Bnd (aBin Try.prog true .sub 3 j9 (.int .i64 1)) fun t83 =>
  Bnd (aBin Try.prog true .sub 3 j9 (.int .i64 1)) fun t86 =>
  Bnd (aIndexAddr Try.prog 22 data0 t86) fun t87 =>
  Bnd (aLoad Try.prog 23 t87 h) fun t88 =>
  Bnd (aIndexAddr Try.prog 22 data0 j9) fun t91 =>
  Bnd (aLoad Try.prog 23 t91 h) fun t92 =>
  Bnd (aIndexAddr Try.prog 22 data0 j9) fun t93 =>
  Bnd (aStore Try.prog 23 t93 t88 h) fun h1 =>
  Bnd (aIndexAddr Try.prog 22 data0 t83) fun t94 =>
  Bnd (aStore Try.prog 23 t94 t92 h1) fun h2 =>
  K .normal [(0, data0), (1, a1), (2, b2), (7, i7), (8, j8), (9, j9), (79, data0), (80, j9), (81, data0), (82, j9), (83, t83), (84, data0), (85, j9), (86, t86), (87, t87), (88, t88), (89, data0), (90, j9), (91, t91), (92, t92), (93, t93), (94, t94)] ds h2
theorem F66.g13 {n0 : Nat} (data0 a1 b2 i7 j8 j9 : Value) {ds : List Nat} {h : H} {K : KP} : wA Try.prog n0 133 none F66.c13 [(0, data0), (1, a1), (2, b2), (7, i7), (8, j8), (9, j9)] ds h K = F66.t13 n0 data0 a1 b2 i7 j8 j9 ds h K := by kernel_rfl
theorem F66.s13 {n0 : Nat} : F66.p13 n0 = wA Try.prog n0 133 none F66.c13 := by kernel_rfl
theorem F66.e13 {n0 : Nat} {data0 a1 b2 i7 j8 j9 : Value} {ds : List Nat} {h : H} {K : KP} : F66.p13 n0 [(0, data0), (1, a1), (2, b2), (7, i7), (8, j8), (9, j9)] ds h K = F66.t13 n0 data0 a1 b2 i7 j8 j9 ds h K :=
  wchain (F66.s13) (F66.g13 data0 a1 b2 i7 j8 j9)
noncomputable def F66.t14 (n0 : Nat) (data0 a1 b2 i7 j8 j9 : Value) (ds : List Nat) (h : H) (K : KP) : Prop :=
  Bnd (aBin Try.prog true .sub 3 j9 (.int .i64 1)) fun t67 =>
  K .normal [(0, data0), (1, a1), (2, b2), (7, i7), (8, j8), (9, t67), (66, j9), (67, t67)] ds h
theorem F66.g14 {n0 : Nat} (data0 a1 b2 i7 j8 j9 : Value) {ds : List Nat} {h : H} {K : KP} : wA Try.prog n0 133 none F66.c14 [(0, data0), (1, a1), (2, b2), (7, i7), (8, j8), (9, j9)] ds h K = F66.t14 n0 data0 a1 b2 i7 j8 j9 ds h K := by kernel_rfl
theorem F66.s14 {n0 : Nat} : F66.p14 n0 = wA Try.prog n0 133 none F66.c14 := by kernel_rfl
theorem F66.e14 {n0 : Nat} {data0 a1 b2 i7 j8 j9 : Value} {ds : List Nat} {h : H} {K : KP} : F66.p14 n0 [(0, data0), (1, a1), (2, b2), (7, i7), (8, j8), (9, j9)] ds h K = F66.t14 n0 data0 a1 b2 i7 j8 j9 ds h K :=
  wchain (F66.s14) (F66.g14 data0 a1 b2 i7 j8 j9)
noncomputable def F66.t15 (n0 : Nat) (B16 : WP) (data0 a1 b2 i7 j8 : Value) (ds : List Nat) (h : H) (K : KP) : Prop :=
  Bnd (aBin Try.prog false .sub 3 b2 i7) fun t97 =>
  Bnd (aBin Try.prog true .geq 3 t97 (.int .i64 2)) fun t98 =>
  Cnd t98
   (B16 [(0, data0), (1, a1), (2, b2), (7, i7), (8, j8)] ds h K)
   (K .normal [(0, data0), (1, a1), (2, b2), (7, i7), (8, j8)] ds h)
theorem F66.g15 {n0 : Nat} (B16 : WP) (data0 a1 b2 i7 j8 : Value) {ds : List Nat} {h : H} {K : KP} : wA Try.prog n0 133 none (.seq [0, 1, 2, 7, 8, 98] F66.c15.fst (.cond [0, 1, 2, 7, 8] (.tmp 98) (.sub B16) F66.c15.snd.snd)) [(0, data0), (1, a1), (2, b2), (7, i7), (8, j8)] ds h K = F66.t15 n0 B16 data0 a1 b2 i7 j8 ds h K := by kernel_rfl
theorem F66.s15 {n0 : Nat} : F66.p15 n0 = wA Try.prog n0 133 none (.seq [0, 1, 2, 7, 8, 98] F66.c15.fst (.cond [0, 1, 2, 7, 8] (.tmp 98) (.sub (F66.p16 n0)) F66.c15.snd.snd)) := by kernel_rfl
theorem F66.e15 {n0 : Nat} {data0 a1 b2 i7 j8 : Value} {ds : List Nat} {h : H} {K : KP} : F66.p15 n0 [(0, data0), (1, a1), (2, b2), (7, i7), (8, j8)] ds h K = F66.t15 n0 (F66.p16 n0) data0 a1 b2 i7 j8 ds h K :=
  wchain (F66.s15) (F66.g15 (F66.p16 n0) data0 a1 b2 i7 j8)
noncomputable def F66.t16 (n0 : Nat) (B17 : WP) (data0 a1 b2 i7 j8 : Value) (ds : List Nat) (h : H) (K : KP) : Prop :=
  Bnd (aBin Try.prog true .add 3 i7 (.int .i64 1)) fun t100 =>
  Lp [0, 1, 2, 7, 8, 10] B17 [(0, data0), (1, a1), (2, b2), (7, i7), (8, j8), (10, t100)] ds h (KBlk [0, 1, 2, 7, 8] 6 K)
theorem F66.g16 {n0 : Nat} (B17 : WP) (data0 a1 b2 i7 j8 : Value) {ds : List Nat} {h : H} {K : KP} : wA Try.prog n0 133 none (.seq [0, 1, 2, 7, 8, 10] F66.c16.fst (.block [0, 1, 2, 7, 8] 6 (.loop [0, 1, 2, 7, 8, 10] (.sub B17)))) [(0, data0), (1, a1), (2, b2), (7, i7), (8, j8)] ds h K = F66.t16 n0 B17 data0 a1 b2 i7 j8 ds h K := by kernel_rfl
theorem F66.s16 {n0 : Nat} : F66.p16 n0 = wA Try.prog n0 133 none (.seq [0, 1, 2, 7, 8, 10] F66.c16.fst (.block [0, 1, 2, 7, 8] 6 (.loop [0, 1, 2, 7, 8, 10] (.sub (F66.p17 n0))))) := by kernel_rfl
theorem F66.e16 {n0 : Nat} {data0 a1 b2 i7 j8 : Value} {ds : List Nat} {h : H} {K : KP} : F66.p16 n0 [(0, data0), (1, a1), (2, b2), (7, i7), (8, j8)] ds h K = F66.t16 n0 (F66.p17 n0) data0 a1 b2 i7 j8 ds h K :=
  wchain (F66.s16) (F66.g16 (F66.p17 n0) data0 a1 b2 i7 j8)
noncomputable def F66.t17 (n0 : Nat) (B18 : WP) (data0 a1 b2 i7 j8 j10 : Value) (ds : List Nat) (h : H) (K : KP) : Prop :=
  Bnd (aBin Try.prog false .lss 3 j10 b2) fun t103 =>
  Cnd t103
   (B18 [(0, data0), (1, a1), (2, b2), (7, i7), (8, j8), (10, j10)] ds h K)
   (K (.exit 6) [(0, data0), (1, a1), (2, b2), (7, i7), (8, j8), (10, j10)] ds h)
theorem F66.g17 {n0 : Nat} (B18 : WP) (data0 a1 b2 i7 j8 j10 : Value) {ds : List Nat} {h : H} {K : KP} : wA Try.prog n0 133 none (.seq [0, 1, 2, 7, 8, 10] F66.c17.fst (.sub B18)) [(0, data0), (1, a1), (2, b2), (7, i7), (8, j8), (10, j10)] ds h K = F66.t17 n0 B18 data0 a1 b2 i7 j8 j10 ds h K := by kernel_rfl
theorem F66.s17 {n0 : Nat} : F66.p17 n0 = wA Try.prog n0 133 none (.seq [0, 1, 2, 7, 8, 10] F66.c17.fst (.sub (F66.p18 n0))) := by kernel_rfl
theorem F66.e17 {n0 : Nat} {data0 a1 b2 i7 j8 j10 : Value} {ds : List Nat} {h : H} {K : KP} : F66.p17 n0 [(0, data0), (1, a1), (2, b2), (7, i7), (8, j8), (10, j10)] ds h K = F66.t17 n0 (F66.p18 n0) data0 a1 b2 i7 j8 j10 ds h K :=
  wchain (F66.s17) (F66.g17 (F66.p18 n0) data0 a1 b2 i7 j8 j10)
theorem F66.k17 : F66.c17.ok = true := by kernel_rfl
theorem F66.d17 {n0 : Nat} : F66.p17 n0 = wA Try.prog n0 133 none F66.c17 := by kernel_rfl
theorem F66.m17 (n0 : Nat) : MonoW (F66.p17 n0) := @mono_c Try.prog n0 133 none F66.c17 (F66.p17 n0) (F66.d17) F66.k17
noncomputable def F66.t18 (n0 : Nat) (B19 : WP) (B20 : WP) (data0 a1 b2 i7 j8 j10 : Value) (ds : List Nat) (h : H) (K : KP) : Prop :=
  Bnd (aIndexAddr Try.prog 22 data0 j10) fun t108 =>
  Bnd (aLoad Try.prog 23 t108 h) fun t109 =>
  Bnd (aBin Try.prog true .sub 3 j10 (.int .i64 1)) fun t112 =>
  Bnd (aIndexAddr Try.prog 22 data0 t112) fun t113 =>
  Bnd (aLoad Try.prog 23 t113 h) fun t114 =>
  Cn Try.prog n0 (.func 67) [t109, t114] h fun t115 h1 =>
  Bnd (aUn .not t115) fun t116 =>
  Cnd t116
   (K (.exit 6) [(0, data0), (1, a1), (2, b2), (7, i7), (8, j8), (10, j10)] ds h1)
   (B19 [(0, data0), (1, a1), (2, b2), (7, i7), (8, j8), (10, j10)] ds h1 (KBlk [0, 1, 2, 7, 8, 10] 7 (KSeq [0, 1, 2, 7, 8, 10] B20 K)))
theorem F66.g18 {n0 : Nat} (B19 : WP) (B20 : WP) (data0 a1 b2 i7 j8 j10 : Value) {ds : List Nat} {h : H} {K : KP} : wA Try.prog n0 133 none (.seq [0, 1, 2, 7, 8, 10] (.block [0, 1, 2, 7, 8, 10] 7 (.seq [0, 1, 2, 7, 8, 10] F66.c18.fst.fst.fst (.sub B19))) (.sub B20)) [(0, data0), (1, a1), (2, b2), (7, i7), (8, j8), (10, j10)] ds h K = F66.t18 n0 B19 B20 data0 a1 b2 i7 j8 j10 ds h K := by kernel_rfl
theorem F66.s18 {n0 : Nat} : F66.p18 n0 = wA Try.prog n0 133 none (.seq [0, 1, 2, 7, 8, 10] (.block [0, 1, 2, 7, 8, 10] 7 (.seq [0, 1, 2, 7, 8, 10] F66.c18.fst.fst.fst (.sub (F66.p19 n0)))) (.sub (F66.p20 n0))) := by kernel_rfl
theorem F66.e18 {n0 : Nat} {data0 a1 b2 i7 j8 j10 : Value} {ds : List Nat} {h : H} {K : KP} : F66.p18 n0 [(0, data0), (1, a1), (2, b2), (7, i7), (8, j8), (10, j10)] ds h K = F66.t18 n0 (F66.p19 n0) (F66.p20 n0) data0 a1 b2 i7 j8 j10 ds h K :=
  wchain (F66.s18) (F66.g18 (F66.p19 n0) (F66.p20 n0) data0 a1 b2 i7 j8 j10)
noncomputable def F66.t19 (n0 : Nat) (data0 a1 b2 i7 j8 j10 : Value) (ds : List Nat) (h : H) (K : KP) : Prop :=
  Bnd (aBin Try.prog true .sub 3 j10 (.int .i64 1)) fun t121 =>
  Bnd (aBin Try.prog true .sub 3 j10 (.int .i64 1)) fun t124 =>
  Bnd (aIndexAddr Try.prog 22 data0 t124) fun t125 =>
  Bnd (aLoad Try.prog 23 t125 h) fun t126 =>
  Bnd (aIndexAddr Try.prog 22 data0 j10) fun t129 =>
  Bnd (aLoad Try.prog 23 t129 h) fun t130 =>
  Bnd (aIndexAddr Try.prog 22 data0 j10) fun t131 =>
  Bnd (aStore Try.prog 23 t131 t126 h) fun h1 =>
  Bnd (aIndexAddr Try.prog 22 data0 t121) fun t132 =>
  Bnd (aStore Try.prog 23 t132 t130 h1) fun h2 =>
  K .normal [(0, data0), (1, a1), (2, b2), (7, i7), (8, j8), (10, j10), (117, data0), (118, j10), (119, data0), (120, j10), (121, t121), (122, data0), (123, j10), (124, t124), (125, t125), (126, t126), (127, data0), (128, j10), (129, t129), (130, t130), (131, t131), (132, t132)] ds h2
theorem F66.g19 {n0 : Nat} (data0 a1 b2 i7 j8 j10 : Value) {ds : List Nat} {h : H} {K : KP} : wA Try.prog n0 133 none F66.c19 [(0, data0), (1, a1), (2, b2), (7, i7), (8, j8), (10, j10)] ds h K = F66.t19 n0 data0 a1 b2 i7 j8 j10 ds h K := by kernel_rfl
theorem F66.s19 {n0 : Nat} : F66.p19 n0 = wA Try.prog n0 133 none F66.c19 := by kernel_rfl
theorem F66.e19 {n0 : Nat} {data0 a1 b2 i7 j8 j10 : Value} {ds : List Nat} {h : H} {K : KP} : F66.p19 n0 [(0, data0), (1, a1), (2, b2), (7, i7), (8, j8), (10, j10)] ds h K = F66.t19 n0 data0 a1 b2 i7 j8 j10 ds h K :=
  wchain (F66.s19) (F66.g19 data0 a1 b2 i7 j8 j10)
noncomputable def F66.t20 (n0 : Nat) (data0 a1 b2 i7 j8 j10 : Value) (ds : List Nat) (h : H) (K : KP) : Prop :=
  Bnd (aBin Try.prog true .add 3 j10 (.int .i64 1)) fun t105 =>
  K .normal [(0, data0), (1, a1), (2, b2), (7, i7), (8, j8), (10, t105), (104, j10), (105, t105)] ds h
theorem F66.g20 {n0 : Nat} (data0 a1 b2 i7 j8 j10 : Value) {ds : List Nat} {h : H} {K : KP} : wA Try.prog n0 133 none F66.c20 [(0, data0), (1, a1), (2, b2), (7, i7), (8, j8), (10, j10)] ds h K = F66.t20 n0 data0 a1 b2 i7 j8 j10 ds h K := by kernel_rfl
theorem F66.s20 {n0 : Nat} : F66.p20 n0 = wA Try.prog n0 133 none F66.c20 := by kernel_rfl
theorem F66.e20 {n0 : Nat} {data0 a1 b2 i7 j8 j10 : Value} {ds : List Nat} {h : H} {K : KP} : F66.p20 n0 [(0, data0), (1, a1), (2, b2), (7, i7), (8, j8), (10, j10)] ds h K = F66.t20 n0 data0 a1 b2 i7 j8 j10 ds h K :=
  wchain (F66.s20) (F66.g20 data0 a1 b2 i7 j8 j10)
noncomputable def F66.t21 (n0 : Nat) (data0 a1 b2 i7 j8 : Value) (ds : List Nat) (h : H) (K : KP) : Prop :=
  Bnd (aBin Try.prog true .add 3 j8 (.int .i64 1)) fun t16 =>
  K .normal [(0, data0), (1, a1), (2, b2), (7, i7), (8, t16), (15, j8), (16, t16)] ds h
theorem F66.g21 {n0 : Nat} (data0 a1 b2 i7 j8 : Value) {ds : List Nat} {h : H} {K : KP} : wA Try.prog n0 133 none F66.c21 [(0, data0), (1, a1), (2, b2), (7, i7), (8, j8)] ds h K = F66.t21 n0 data0 a1 b2 i7 j8 ds h K := by kernel_rfl
theorem F66.s21 {n0 : Nat} : F66.p21 n0 = wA Try.prog n0 133 none F66.c21 := by kernel_rfl
theorem F66.e21 {n0 : Nat} {data0 a1 b2 i7 j8 : Value} {ds : List Nat} {h : H} {K : KP} : F66.p21 n0 [(0, data0), (1, a1), (2, b2), (7, i7), (8, j8)] ds h K = F66.t21 n0 data0 a1 b2 i7 j8 ds h K :=
  wchain (F66.s21) (F66.g21 data0 a1 b2 i7 j8)
noncomputable def F66.t22 (n0 : Nat) (ds : List Nat) (h : H) (K : KP) : Prop :=
  K .ret [(6, (.bool false))] ds h
theorem F66.g22 {n0 : Nat} {ds : List Nat} {h : H} {K : KP} : wA Try.prog n0 133 none F66.c22 [] ds h K = F66.t22 n0  ds h K := by kernel_rfl
theorem F66.s22 {n0 : Nat} : F66.p22 n0 = wA Try.prog n0 133 none F66.c22 := by kernel_rfl
theorem F66.e22 {n0 : Nat} {ds : List Nat} {h : H} {K : KP} : F66.p22 n0 [] ds h K = F66.t22 n0  ds h K :=
  wchain (F66.s22) (F66.g22)
theorem F66.b : Try.f66.body = some F66.c0.erase := by kernel_rfl
theorem F66.b2 : (Try.f66.name == "runtime.NumGoroutine") = false := by kernel_rfl
theorem F66.b3 : Try.f66.ntmps = 133 := by kernel_rfl
theorem F66.b4 : Try.f66.results.toList = [.tmp 6] := by kernel_rfl
theorem F66.enter {n0 : Nat} {x0 x1 x2 : Value} {h : H} {Q : Value → H → Prop} (w : F66.p0 n0 [(0, x0), (1, x1), (2, x2)] [] h (KFin Try.prog [.tmp 6] Q)) : Cn Try.prog n0 (.func 66) [x0, x1, x2] h Q :=
  @fn_enter Try.prog n0 mixed 66 Try.f66 F66.c0 [x0, x1, x2] h Q Try.func66 F66.b F66.k0 F66.b2 133 F66.b3 [.tmp 6] F66.b4 (by simp) [(0, x0), (1, x1), (2, x2)] rfl (wback F66.d0 w)

/-! cmp.Less[uint64] -/
noncomputable def F67.ac : AC := (ann (bodyOf Try.f67) [[0, 1], [4]]).1
noncomputable def F67.c0 : AC := F67.ac
noncomputable def F67.p0 (n0 : Nat) : WP := wA Try.prog n0 17 none F67.c0
noncomputable def F67.t0 (n0 : Nat) (x0 y1 : Value) (ds : List Nat) (h : H) (K : KP) : Prop :=
  Cn Try.prog n0 (.func 77) [x0] h fun t6 h1 =>
  Gd t6
   (Cn Try.prog n0 (.func 77) [y1] h1 fun t9 h2 =>
  Bnd (aUn .not t9) fun t10 =>
  Gd t10
   (K .ret [(4, (.bool true))] ds h2)
   (Bnd (aBin Try.prog false .lss 23 x0 y1) fun t15 =>
  K .ret [(4, t15)] ds h2))
   (Bnd (aBin Try.prog false .lss 23 x0 y1) fun t15 =>
  K .ret [(4, t15)] ds h1)
theorem F67.g0 {n0 : Nat} (x0 y1 : Value) {ds : List Nat} {h : H} {K : KP} : wA Try.prog n0 17 none F67.c0 [(0, x0), (1, y1)] ds h K = F67.t0 n0 x0 y1 ds h K := by kernel_rfl
theorem F67.s0 {n0 : Nat} : F67.p0 n0 = wA Try.prog n0 17 none F67.c0 := by kernel_rfl
theorem F67.e0 {n0 : Nat} {x0 y1 : Value} {ds : List Nat} {h : H} {K : KP} : F67.p0 n0 [(0, x0), (1, y1)] ds h K = F67.t0 n0 x0 y1 ds h K :=
  wchain (F67.s0) (F67.g0 x0 y1)
theorem F67.k0 : F67.c0.ok = true := by kernel_rfl
theorem F67.d0 {n0 : Nat} : F67.p0 n0 = wA Try.prog n0 17 none F67.c0 := by kernel_rfl
theorem F67.m0 (n0 : Nat) : MonoW (F67.p0 n0) := @mono_c Try.prog n0 17 none F67.c0 (F67.p0 n0) (F67.d0) F67.k0
theorem F67.b : Try.f67.body = some F67.c0.erase := by kernel_rfl
theorem F67.b2 : (Try.f67.name == "runtime.NumGoroutine") = false := by kernel_rfl
theorem F67.b3 : Try.f67.ntmps = 17 := by kernel_rfl
theorem F67.b4 : Try.f67.results.toList = [.tmp 4] := by kernel_rfl
theorem F67.enter {n0 : Nat} {x0 x1 : Value} {h : H} {Q : Value → H → Prop} (w : F67.p0 n0 [(0, x0), (1, x1)] [] h (KFin Try.prog [.tmp 4] Q)) : Cn Try.prog n0 (.func 67) [x0, x1] h Q :=
  @fn_enter Try.prog n0 mixed 67 Try.f67 F67.c0 [x0, x1] h Q Try.func67 F67.b F67.k0 F67.b2 17 F67.b3 [.tmp 4] F67.b4 (by simp) [(0, x0), (1, x1)] rfl (wback F67.d0 w)

/-! slices.partitionEqualOrdered[uint64] -/
noncomputable def F68.ac : AC := (ann (bodyOf Try.f68) [[0, 1, 2, 3], [0, 1, 2], [0, 1, 9, 10], [9], [9], [0, 1, 9, 10], [0, 1, 9, 10], [0, 1, 9, 10], [0, 1, 9, 10], [0, 1, 9, 10], [0, 1, 9, 10], [0, 1, 9, 10, 43], [0, 1, 9, 10], [0, 1, 9, 10], [0, 1, 9, 10], [0, 1, 9, 10], [0, 1, 9, 10], [0, 1, 9, 10], [0, 1, 9, 10, 59], [0, 1, 9, 10], [0, 1, 9, 10], [0, 1, 9, 10], [0, 1, 9, 10, 64], [0, 1, 9, 10], [0, 1, 9, 10], [0, 1, 9, 10], [8]]).1
noncomputable def F68.c0 : AC := F68.ac
noncomputable def F68.c1 : AC := F68.ac.snd.snd.snd.fst.fst.fst
noncomputable def F68.c2 : AC := F68.ac.snd.snd.snd.fst.fst.fst.fst.fst.fst.fst
noncomputable def F68.c3 : AC := F68.ac.snd.snd.snd.fst.fst.fst.fst.fst.fst.fst.snd
noncomputable def F68.c4 : AC := F68.ac.snd.snd.snd.fst.fst.fst.fst.snd
noncomputable def F68.c5 : AC := F68.ac.snd.snd.snd.fst.fst.fst.fst.snd.fst.fst.fst
noncomputable def F68.c6 : AC := F68.ac.snd.snd.snd.fst.fst.fst.fst.snd.fst.fst.fst.snd
noncomputable def F68.c7 : AC := F68.ac.snd.snd.snd.fst.fst.fst.fst.snd.snd
noncomputable def F68.c8 : AC := F68.ac.snd.snd.snd.fst.fst.fst.fst.snd.snd.snd
noncomputable def F68.c9 : AC := F68.ac.snd.snd.snd.snd
noncomputable def F68.p0 (n0 : Nat) : WP := wA Try.prog n0 84 none F68.c0
noncomputable def F68.p1 (n0 : Nat) : WP := wA Try.prog n0 84 none F68.c1
noncomputable def F68.p2 (n0 : Nat) : WP := wA Try.prog n0 84 none F68.c2
noncomputable def F68.p3 (n0 : Nat) : WP := wA Try.prog n0 84 none F68.c3
noncomputable def F68.p4 (n0 : Nat) : WP := wA Try.prog n0 84 none F68.c4
noncomputable def F68.p5 (n0 : Nat) : WP := wA Try.prog n0 84 none F68.c5
noncomputable def F68.p6 (n0 : Nat) : WP := wA Try.prog n0 84 none F68.c6
noncomputable def F68.p7 (n0 : Nat) : WP := wA Try.prog n0 84 none F68.c7
noncomputable def F68.p8 (n0 : Nat) : WP := wA Try.prog n0 84 none F68.c8
noncomputable def F68.p9 (n0 : Nat) : WP := wA Try.prog n0 84 none F68.c9
noncomputable def F68.t0 (n0 : Nat) (B1 : WP) (B9 : WP) (data0 a1 b2 pivot3 : Value) (ds : List Nat) (h : H) (K : KP) : Prop :=
  Bnd (aIndexAddr Try.prog 22 data0 pivot3) fun t17 =>
  Bnd (aLoad Try.prog 23 t17 h) fun t18 =>
  Bnd (aIndexAddr Try.prog 22 data0 a1) fun t21 =>
  Bnd (aLoad Try.prog 23 t21 h) fun t22 =>
  Bnd (aIndexAddr Try.prog 22 data0 a1) fun t23 =>
  Bnd (aStore Try.prog 23 t23 t18 h) fun h1 =>
  Bnd (aIndexAddr Try.prog 22 data0 pivot3) fun t24 =>
  Bnd (aStore Try.prog 23 t24 t22 h1) fun h2 =>
  Bnd (aBin Try.prog true .add 3 a1 (.int .i64 1)) fun t26 =>
  Bnd (aBin Try.prog true .sub 3 b2 (.int .i64 1)) fun t28 =>
  Lp [0, 1, 9, 10] B1 [(0, data0), (1, a1), (9, t26), (10, t28)] ds h2 (KBlk [9] 0 (KSeq [9] B9 K))
theorem F68.g0 {n0 : Nat} (B1 : WP) (B9 : WP) (data0 a1 b2 pivot3 : Value) {ds : List Nat} {h : H} {K : KP} : wA Try.prog n0 84 none (.seq [0, 1, 2, 3] F68.c0.fst (.seq [0, 1, 2] F68.c0.snd.fst (.seq [0, 1, 9, 10] F68.c0.snd.snd.fst (.seq [9] (.block [9] 0 (.loop [0, 1, 9, 10] (.sub B1))) (.sub B9))))) [(0, data0), (1, a1), (2, b2), (3, pivot3)] ds h K = F68.t0 n0 B1 B9 data0 a1 b2 pivot3 ds h K := by kernel_rfl
theorem F68.s0 {n0 : Nat} : F68.p0 n0 = wA Try.prog n0 84 none (.seq [0, 1, 2, 3] F68.c0.fst (.seq [0, 1, 2] F68.c0.snd.fst (.seq [0, 1, 9, 10] F68.c0.snd.snd.fst (.seq [9] (.block [9] 0 (.loop [0, 1, 9, 10] (.sub (F68.p1 n0)))) (.sub (F68.p9 n0)))))) := by kernel_rfl
theorem F68.e0 {n0 : Nat} {data0 a1 b2 pivot3 : Value} {ds : List Nat} {h : H} {K : KP} : F68.p0 n0 [(0, data0), (1, a1), (2, b2), (3, pivot3)] ds h K = F68.t0 n0 (F68.p1 n0) (F68.p9 n0) data0 a1 b2 pivot3 ds h K :=
  wchain (F68.s0) (F68.g0 (F68.p1 n0) (F68.p9 n0) data0 a1 b2 pivot3)
theorem F68.k0 : F68.c0.ok = true := by kernel_rfl
theorem F68.d0 {n0 : Nat} : F68.p0 n0 = wA Try.prog n0 84 none F68.c0 := by kernel_rfl
theorem F68.m0 (n0 : Nat) : MonoW (F68.p0 n0) := @mono_c Try.prog n0 84 none F68.c0 (F68.p0 n0) (F68.d0) F68.k0
noncomputable def F68.t1 (n0 : Nat) (B2 : WP) (B4 : WP) (data0 a1 i9 j10 : Value) (ds : List Nat) (h : H) (K : KP) : Prop :=
  Lp [0, 1, 9, 10] B2 [(0, data0), (1, a1), (9, i9), (10, j10)] ds h (KBlk [0, 1, 9, 10] 2 (KSeq [0, 1, 9, 10] B4 (KBlk [0, 1, 9, 10] 1 K)))
theorem F68.g1 {n0 : Nat} (B2 : WP) (B4 : WP) (data0 a1 i9 j10 : Value) {ds : List Nat} {h : H} {K : KP} : wA Try.prog n0 84 none (.block [0, 1, 9, 10] 1 (.seq [0, 1, 9, 10] (.block [0, 1, 9, 10] 2 (.loop [0, 1, 9, 10] (.sub B2))) (.sub B4))) [(0, data0), (1, a1), (9, i9), (10, j10)] ds h K = F68.t1 n0 B2 B4 data0 a1 i9 j10 ds h K := by kernel_rfl
theorem F68.s1 {n0 : Nat} : F68.p1 n0 = wA Try.prog n0 84 none (.block [0, 1, 9, 10] 1 (.seq [0, 1, 9, 10] (.block [0, 1, 9, 10] 2 (.loop [0, 1, 9, 10] (.sub (F68.p2 n0)))) (.sub (F68.p4 n0)))) := by kernel_rfl
theorem F68.e1 {n0 : Nat} {data0 a1 i9 j10 : Value} {ds : List Nat} {h : H} {K : KP} : F68.p1 n0 [(0, data0), (1, a1), (9, i9), (10, j10)] ds h K = F68.t1 n0 (F68.p2 n0) (F68.p4 n0) data0 a1 i9 j10 ds h K :=
  wchain (F68.s1) (F68.g1 (F68.p2 n0) (F68.p4 n0) data0 a1 i9 j10)
theorem F68.k1 : F68.c1.ok = true := by kernel_rfl
theorem F68.d1 {n0 : Nat} : F68.p1 n0 = wA Try.prog n0 84 none F68.c1 := by kernel_rfl
theorem F68.m1 (n0 : Nat) : MonoW (F68.p1 n0) := @mono_c Try.prog n0 84 none F68.c1 (F68.p1 n0) (F68.d1) F68.k1
noncomputable def F68.t2 (n0 : Nat) (B3 : WP) (data0 a1 i9 j10 : Value) (ds : List Nat) (h : H) (K : KP) : Prop :=
  Bnd (aBin Try.prog false .leq 3 i9 j10) fun t31 =>
  Gd t31
   (Bnd (aIndexAddr Try.prog 22 data0 a1) fun t35 =>
  Bnd (aLoad Try.prog 23 t35 h) fun t36 =>
  Bnd (aIndexAddr Try.prog 22 data0 i9) fun t39 =>
  Bnd (aLoad Try.prog 23 t39 h) fun t40 =>
  Cn Try.prog n0 (.func 67) [t36, t40] h fun t41 h1 =>
  Bnd (aUn .not t41) fun t42 =>
  Cnd t42
   (B3 [(0, data0), (1, a1), (9, i9), (10, j10)] ds h1 K)
   (K (.exit 2) [(0, data0), (1, a1), (9, i9), (10, j10)] ds h1))
   (K (.exit 2) [(0, data0), (1, a1), (9, i9), (10, j10)] ds h)
theorem F68.g2 {n0 : Nat} (B3 : WP) (data0 a1 i9 j10 : Value) {ds : List Nat} {h : H} {K : KP} : wA Try.prog n0 84 none (.seq [0, 1, 9, 10] F68.c2.fst (.sub B3)) [(0, data0), (1, a1), (9, i9), (10, j10)] ds h K = F68.t2 n0 B3 data0 a1 i9 j10 ds h K := by kernel_rfl
theorem F68.s2 {n0 : Nat} : F68.p2 n0 = wA Try.prog n0 84 none (.seq [0, 1, 9, 10] F68.c2.fst (.sub (F68.p3 n0))) := by kernel_rfl
theorem F68.e2 {n0 : Nat} {data0 a1 i9 j10 : Value} {ds : List Nat} {h : H} {K : KP} : F68.p2 n0 [(0, data0), (1, a1), (9, i9), (10, j10)] ds h K = F68.t2 n0 (F68.p3 n0) data0 a1 i9 j10 ds h K :=
  wchain (F68.s2) (F68.g2 (F68.p3 n0) data0 a1 i9 j10)
theorem F68.k2 : F68.c2.ok = true := by kernel_rfl
theorem F68.d2 {n0 : Nat} : F68.p2 n0 = wA Try.prog n0 84 none F68.c2 := by kernel_rfl
theorem F68.m2 (n0 : Nat) : MonoW (F68.p2 n0) := @mono_c Try.prog n0 84 none F68.c2 (F68.p2 n0) (F68.d2) F68.k2
noncomputable def F68.t3 (n0 : Nat) (data0 a1 i9 j10 : Value) (ds : List Nat) (h : H) (K : KP) : Prop :=
  Bnd (aBin Try.prog true .add 3 i9 (.int .i64 1)) fun t45 =>
  K .normal [(0, data0), (1, a1), (9, t45), (10, j10)] ds h
theorem F68.g3 {n0 : Nat} (data0 a1 i9 j10 : Value) {ds : List Nat} {h : H} {K : KP} : wA Try.prog n0 84 none F68.c3 [(0, data0), (1, a1), (9, i9), (10, j10)] ds h K = F68.t3 n0 data0 a1 i9 j10 ds h K := by kernel_rfl
theorem F68.s3 {n0 : Nat} : F68.p3 n0 = wA Try.prog n0 84 none F68.c3 := by kernel_rfl
theorem F68.e3 {n0 : Nat} {data0 a1 i9 j10 : Value} {ds : List Nat} {h : H} {K : KP} : F68.p3 n0 [(0, data0), (1, a1), (9, i9), (10, j10)] ds h K = F68.t3 n0 data0 a1 i9 j10 ds h K :=
  wchain (F68.s3) (F68.g3 data0 a1 i9 j10)
noncomputable def F68.t4 (n0 : Nat) (B5 : WP) (B7 : WP) (data0 a1 i9 j10 : Value) (ds : List Nat) (h : H) (K : KP) : Prop :=
  Lp [0, 1, 9, 10] B5 [(0, data0), (1, a1), (9, i9), (10, j10)] ds h (KBlk [0, 1, 9, 10] 4 (KSeq [0, 1, 9, 10] B7 K))
theorem F68.g4 {n0 : Nat} (B5 : WP) (B7 : WP) (data0 a1 i9 j10 : Value) {ds : List Nat} {h : H} {K : KP} : wA Try.prog n0 84 none (.seq [0, 1, 9, 10] (.block [0, 1, 9, 10] 4 (.loop [0, 1, 9, 10] (.sub B5))) (.sub B7)) [(0, data0), (1, a1), (9, i9), (10, j10)] ds h K = F68.t4 n0 B5 B7 data0 a1 i9 j10 ds h K := by kernel_rfl
theorem F68.s4 {n0 : Nat} : F68.p4 n0 = wA Try.prog n0 84 none (.seq [0, 1, 9, 10] (.block [0, 1, 9, 10] 4 (.loop [0, 1, 9, 10] (.sub (F68.p5 n0)))) (.sub (F68.p7 n0))) := by kernel_rfl
theorem F68.e4 {n0 : Nat} {data0 a1 i9 j10 : Value} {ds : List Nat} {h : H} {K : KP} : F68.p4 n0 [(0, data0), (1, a1), (9, i9), (10, j10)] ds h K = F68.t4 n0 (F68.p5 n0) (F68.p7 n0) data0 a1 i9 j10 ds h K :=
  wchain (F68.s4) (F68.g4 (F68.p5 n0) (F68.p7 n0) data0 a1 i9 j10)
noncomputable def F68.t5 (n0 : Nat) (B6 : WP) (data0 a1 i9 j10 : Value) (ds : List Nat) (h : H) (K : KP) : Prop :=
  Bnd (aBin Try.prog false .leq 3 i9 j10) fun t48 =>
  Gd t48
   (Bnd (aIndexAddr Try.prog 22 data0 a1) fun t52 =>
  Bnd (aLoad Try.prog 23 t52 h) fun t53 =>
  Bnd (aIndexAddr Try.prog 22 data0 j10) fun t56 =>
  Bnd (aLoad Try.prog 23 t56 h) fun t57 =>
  Cn Try.prog n0 (.func 67) [t53, t57] h fun t58 h1 =>
  Cnd t58
   (B6 [(0, data0), (1, a1), (9, i9), (10, j10)] ds h1 K)
   (K (.exit 4) [(0, data0), (1, a1), (9, i9), (10, j10)] ds h1))
   (K (.exit 4) [(0, data0), (1, a1), (9, i9), (10, j10)] ds h)
theorem F68.g5 {n0 : Nat} (B6 : WP) (data0 a1 i9 j10 : Value) {ds : List Nat} {h : H} {K : KP} : wA Try.prog n0 84 none (.seq [0, 1, 9, 10] F68.c5.fst (.sub B6)) [(0, data0), (1, a1), (9, i9), (10, j10)] ds h K = F68.t5 n0 B6 data0 a1 i9 j10 ds h K := by kernel_rfl
theorem F68.s5 {n0 : Nat} : F68.p5 n0 = wA Try.prog n0 84 none (.seq [0, 1, 9, 10] F68.c5.fst (.sub (F68.p6 n0))) := by kernel_rfl
theorem F68.e5 {n0 : Nat} {data0 a1 i9 j10 : Value} {ds : List Nat} {h : H} {K : KP} : F68.p5 n0 [(0, data0), (1, a1), (9, i9), (10, j10)] ds h K = F68.t5 n0 (F68.p6 n0) data0 a1 i9 j10 ds h K :=
  wchain (F68.s5) (F68.g5 (F68.p6 n0) data0 a1 i9 j10)
theorem F68.k5 : F68.c5.ok = true := by kernel_rfl
theorem F68.d5 {n0 : Nat} : F68.p5 n0 = wA Try.prog n0 84 none F68.c5 := by kernel_rfl
theorem F68.m5 (n0 : Nat) : MonoW (F68.p5 n0) := @mono_c Try.prog n0 84 none F68.c5 (F68.p5 n0) (F68.d5) F68.k5
noncomputable def F68.t6 (n0 : Nat) (data0 a1 i9 j10 : Value) (ds : List Nat) (h : H) (K : KP) : Prop :=
  Bnd (aBin Try.prog true .sub 3 j10 (.int .i64 1)) fun t61 =>
  K .normal [(0, data0), (1, a1), (9, i9), (10, t61)] ds h
theorem F68.g6 {n0 : Nat} (data0 a1 i9 j10 : Value) {ds : List Nat} {h : H} {K : KP} : wA Try.prog n0 84 none F68.c6 [(0, data0), (1, a1), (9, i9), (10, j10)] ds h K = F68.t6 n0 data0 a1 i9 j10 ds h K := by kernel_rfl
theorem F68.s6 {n0 : Nat} : F68.p6 n0 = wA Try.prog n0 84 none F68.c6 := by kernel_rfl
theorem F68.e6 {n0 : Nat} {data0 a1 i9 j10 : Value} {ds : List Nat} {h : H} {K : KP} : F68.p6 n0 [(0, data0), (1, a1), (9, i9), (10, j10)] ds h K = F68.t6 n0 data0 a1 i9 j10 ds h K :=
  wchain (F68.s6) (F68.g6 data0 a1 i9 j10)
noncomputable def F68.t7 (n0 : Nat) (B8 : WP) (data0 a1 i9 j10 : Value) (ds : List Nat) (h : H) (K : KP) : Prop :=
  Bnd (aBin Try.prog false .gtr 3 i9 j10) fun t64 =>
  Cnd t64
   (K (.exit 0) [(0, data0), (1, a1), (9, i9), (10, j10)] ds h)
   (B8 [(0, data0), (1, a1), (9, i9), (10, j10)] ds h K)
theorem F68.g7 {n0 : Nat} (B8 : WP) (data0 a1 i9 j10 : Value) {ds : List Nat} {h : H} {K : KP} : wA Try.prog n0 84 none (.seq [0, 1, 9, 10] F68.c7.fst (.sub B8)) [(0, data0), (1, a1), (9, i9), (10, j10)] ds h K = F68.t7 n0 B8 data0 a1 i9 j10 ds h K := by kernel_rfl
theorem F68.s7 {n0 : Nat} : F68.p7 n0 = wA Try.prog n0 84 none (.seq [0, 1, 9, 10] F68.c7.fst (.sub (F68.p8 n0))) := by kernel_rfl
theorem F68.e7 {n0 : Nat} {data0 a1 i9 j10 : Value} {ds : List Nat} {h : H} {K : KP} : F68.p7 n0 [(0, data0), (1, a1), (9, i9), (10, j10)] ds h K = F68.t7 n0 (F68.p8 n0) data0 a1 i9 j10 ds h K :=
  wchain (F68.s7) (F68.g7 (F68.p8 n0) data0 a1 i9 j10)
noncomputable def F68.t8 (n0 : Nat) (data0 a1 i9 j10 : Value) (ds : List Nat) (h : H) (K : KP) : Prop :=
  Bnd (aIndexAddr Try.prog 22 data0 j10) fun t71 =>
  Bnd (aLoad Try.prog 23 t71 h) fun t72 =>
  Bnd (aIndexAddr Try.prog 22 data0 i9) fun t75 =>
  Bnd (aLoad Try.prog 23 t75 h) fun t76 =>
  Bnd (aIndexAddr Try.prog 22 data0 i9) fun t77 =>
  Bnd (aStore Try.prog 23 t77 t72 h) fun h1 =>
  Bnd (aIndexAddr Try.prog 22 data0 j10) fun t78 =>
  Bnd (aStore Try.prog 23 t78 t76 h1) fun h2 =>
  Bnd (aBin Try.prog true .add 3 i9 (.int .i64 1)) fun t80 =>
  Bnd (aBin Try.prog true .sub 3 j10 (.int .i64 1)) fun t82 =>
  K .normal [(0, data0), (1, a1), (9, t80), (10, t82), (81, j10), (82, t82)] ds h2
theorem F68.g8 {n0 : Nat} (data0 a1 i9 j10 : Value) {ds : List Nat} {h : H} {K : KP} : wA Try.prog n0 84 none F68.c8 [(0, data0), (1, a1), (9, i9), (10, j10)] ds h K = F68.t8 n0 data0 a1 i9 j10 ds h K := by kernel_rfl
theorem F68.s8 {n0 : Nat} : F68.p8 n0 = wA Try.prog n0 84 none F68.c8 := by kernel_rfl
theorem F68.e8 {n0 : Nat} {data0 a1 i9 j10 : Value} {ds : List Nat} {h : H} {K : KP} : F68.p8 n0 [(0, data0), (1, a1), (9, i9), (10, j10)] ds h K = F68.t8 n0 data0 a1 i9 j10 ds h K :=
  wchain (F68.s8) (F68.g8 data0 a1 i9 j10)
noncomputable def F68.t9 (n0 : Nat) (i9 : Value) (ds : List Nat) (h : H) (K : KP) : Prop :=
  K .ret [(8, i9)] ds h
theorem F68.g9 {n0 : Nat} (i9 : Value) {ds : List Nat} {h : H} {K : KP} : wA Try.prog n0 84 none F68.c9 [(9, i9)] ds h K = F68.t9 n0 i9 ds h K := by kernel_rfl
theorem F68.s9 {n0 : Nat} : F68.p9 n0 = wA Try.prog n0 84 none F68.c9 := by kernel_rfl
theorem F68.e9 {n0 : Nat} {i9 : Value} {ds : List Nat} {h : H} {K : KP} : F68.p9 n0 [(9, i9)] ds h K = F68.t9 n0 i9 ds h K :=
  wchain (F68.s9) (F68.g9 i9)
theorem F68.b : Try.f68.body = some F68.c0.erase := by kernel_rfl
theorem F68.b2 : (Try.f68.name == "runtime.NumGoroutine") = false := by kernel_rfl
theorem F68.b3 : Try.f68.ntmps = 84 := by kernel_rfl
theorem F68.b4 : Try.f68.results.toList = [.tmp 8] := by kernel_rfl
theorem F68.enter {n0 : Nat} {x0 x1 x2 x3 : Value} {h : H} {Q : Value → H → Prop} (w : F68.p0 n0 [(0, x0), (1, x1), (2, x2), (3, x3)] [] h (KFin Try.prog [.tmp 8] Q)) : Cn Try.prog n0 (.func 68) [x0, x1, x2, x3] h Q :=
  @fn_enter Try.prog n0 mixed 68 Try.f68 F68.c0 [x0, x1, x2, x3] h Q Try.func68 F68.b F68.k0 F68.b2 84 F68.b3 [.tmp 8] F68.b4 (by simp) [(0, x0), (1, x1), (2, x2), (3, x3)] rfl (wback F68.d0 w)

/-! slices.partitionOrdered[uint64] -/
noncomputable def F69.ac : AC := (ann (bodyOf Try.f69) [[0, 1, 2, 3], [0, 1, 2], [0, 1, 10, 11], [0, 1, 10, 11], [0, 1, 10, 11], [0, 1, 10, 11], [0, 1, 10, 11], [0, 1, 10, 11, 43], [0, 1, 10, 11], [0, 1, 10, 11], [0, 1, 10, 11], [0, 1, 10, 11], [0, 1, 10, 11], [0, 1, 10, 11], [0, 1, 10, 11, 60], [0, 1, 10, 11], [0, 1, 10, 11], [0, 1, 10, 11], [0, 1, 10, 11, 65], [0, 1, 10, 11], [11], [8, 9], [0, 1, 10, 11], [0, 1, 10, 11], [0, 1, 10, 11], [0, 1, 11], [0, 1, 11], [0, 1, 10, 11], [0, 1, 10, 11], [0, 1, 10, 11], [0, 1, 10, 11], [0, 1, 10, 11], [0, 1, 10, 11], [0, 1, 10, 11, 112], [0, 1, 10, 11], [0, 1, 10, 11], [0, 1, 10, 11], [0, 1, 10, 11], [0, 1, 10, 11], [0, 1, 10, 11], [0, 1, 10, 11, 129], [0, 1, 10, 11], [0, 1, 10, 11], [0, 1, 10, 11], [0, 1, 10, 11, 134], [0, 1, 10, 11], [0, 1, 10, 11], [0, 1, 10, 11], [11], [8, 9]]).1
noncomputable def F69.c0 : AC := F69.ac
noncomputable def F69.c1 : AC := F69.ac.snd.snd.snd.fst.fst.fst
noncomputable def F69.c2 : AC := F69.ac.snd.snd.snd.fst.fst.fst.snd
noncomputable def F69.c3 : AC := F69.ac.snd.snd.snd.snd
noncomputable def F69.c4 : AC := F69.ac.snd.snd.snd.snd.fst.fst.fst
noncomputable def F69.c5 : AC := F69.ac.snd.snd.snd.snd.fst.fst.fst.snd
noncomputable def F69.c6 : AC := F69.ac.snd.snd.snd.snd.snd
noncomputable def F69.c7 : AC := F69.ac.snd.snd.snd.snd.snd.fst.snd.fst
noncomputable def F69.c8 : AC := F69.ac.snd.snd.snd.snd.snd.snd
noncomputable def F69.c9 : AC := F69.ac.snd.snd.snd.snd.snd.snd.snd.snd.snd.fst.fst.fst
noncomputable def F69.c10 : AC := F69.ac.snd.snd.snd.snd.snd.snd.snd.snd.snd.fst.fst.fst.fst.fst.fst.fst
noncomputable def F69.c11 : AC := F69.ac.snd.snd.snd.snd.snd.snd.snd.snd.snd.fst.fst.fst.fst.fst.fst.fst.snd
noncomputable def F69.c12 : AC := F69.ac.snd.snd.snd.snd.snd.snd.snd.snd.snd.fst.fst.fst.fst.snd
noncomputable def F69.c13 : AC := F69.ac.snd.snd.snd.snd.snd.snd.snd.snd.snd.fst.fst.fst.fst.snd.fst.fst.fst
noncomputable def F69.c14 : AC := F69.ac.snd.snd.snd.snd.snd.snd.snd.snd.snd.fst.fst.fst.fst.snd.fst.fst.fst.snd
noncomputable def F69.c15 : AC := F69.ac.snd.snd.snd.snd.snd.snd.snd.snd.snd.fst.fst.fst.fst.snd.snd
noncomputable def F69.c16 : AC := F69.ac.snd.snd.snd.snd.snd.snd.snd.snd.snd.fst.fst.fst.fst.snd.snd.snd
noncomputable def F69.c17 : AC := F69.ac.snd.snd.snd.snd.snd.snd.snd.snd.snd.snd
noncomputable def F69.p0 (n0 : Nat) : WP := wA Try.prog n0 168 none F69.c0
noncomputable def F69.p1 (n0 : Nat) : WP := wA Try.prog n0 168 none F69.c1
noncomputable def F69.p2 (n0 : Nat) : WP := wA Try.prog n0 168 none F69.c2
noncomputable def F69.p3 (n0 : Nat) : WP := wA Try.prog n0 168 none F69.c3
noncomputable def F69.p4 (n0 : Nat) : WP := wA Try.prog n0 168 none F69.c4
noncomputable def F69.p5 (n0 : Nat) : WP := wA Try.prog n0 168 none F69.c5
noncomputable def F69.p6 (n0 : Nat) : WP := wA Try.prog n0 168 none F69.c6
noncomputable def F69.p7 (n0 : Nat) : WP := wA Try.prog n0 168 none F69.c7
noncomputable def F69.p8 (n0 : Nat) : WP := wA Try.prog n0 168 none F69.c8
noncomputable def F69.p9 (n0 : Nat) : WP := wA Try.prog n0 168 none F69.c9
noncomputable def F69.p10 (n0 : Nat) : WP := wA Try.prog n0 168 none F69.c10
noncomputable def F69.p11 (n0 : Nat) : WP := wA Try.prog n0 168 none F69.c11
noncomputable def F69.p12 (n0 : Nat) : WP := wA Try.prog n0 168 none F69.c12
noncomputable def F69.p13 (n0 : Nat) : WP := wA Try.prog n0 168 none F69.c13
noncomputable def F69.p14 (n0 : Nat) : WP := wA Try.prog n0 168 none F69.c14
noncomputable def F69.p15 (n0 : Nat) : WP := wA Try.prog n0 168 none F69.c15
noncomputable def F69.p16 (n0 : Nat) : WP := wA Try.prog n0 168 none F69.c16
noncomputable def F69.p17 (n0 : Nat) : WP := wA Try.prog n0 168 none F69.c17
noncomputable def F69.t0 (n0 : Nat) (B1 : WP) (B3 : WP) (data0 a1 b2 pivot3 : Value) (ds : List Nat) (h : H) (K : KP) : Prop :=
  Bnd (aIndexAddr Try.prog 22 data0 pivot3) fun t18 =>
  Bnd (aLoad Try.prog 23 t18 h) fun t19 =>
  Bnd (aIndexAddr Try.prog 22 data0 a1) fun t22 =>
  Bnd (aLoad Try.prog 23 t22 h) fun t23 =>
  Bnd (aIndexAddr Try.prog 22 data0 a1) fun t24 =>
  Bnd (aStore Try.prog 23 t24 t19 h) fun h1 =>
  Bnd (aIndexAddr Try.prog 22 data0 pivot3) fun t25 =>
  Bnd (aStore Try.prog 23 t25 t23 h1) fun h2 =>
  Bnd (aBin Try.prog true .add 3 a1 (.int .i64 1)) fun t27 =>
  Bnd (aBin Try.prog true .sub 3 b2 (.int .i64 1)) fun t29 =>
  Lp [0, 1, 10, 11] B1 [(0, data0), (1, a1), (10, t27), (11, t29)] ds h2 (KBlk [0, 1, 10, 11] 0 (KSeq [0, 1, 10, 11] B3 K))
theorem F69.g0 {n0 : Nat} (B1 : WP) (B3 : WP) (data0 a1 b2 pivot3 : Value) {ds : List Nat} {h : H} {K : KP} : wA Try.prog n0 168 none (.seq [0, 1, 2, 3] F69.c0.fst (.seq [0, 1, 2] F69.c0.snd.fst (.seq [0, 1, 10, 11] F69.c0.snd.snd.fst (.seq [0, 1, 10, 11] (.block [0, 1, 10, 11] 0 (.loop [0, 1, 10, 11] (.sub B1))) (.sub B3))))) [(0, data0), (1, a1), (2, b2), (3, pivot3)] ds h K = F69.t0 n0 B1 B3 data0 a1 b2 pivot3 ds h K := by kernel_rfl
theorem F69.s0 {n0 : Nat} : F69.p0 n0 = wA Try.prog n0 168 none (.seq [0, 1, 2, 3] F69.c0.fst (.seq [0, 1, 2] F69.c0.snd.fst (.seq [0, 1, 10, 11] F69.c0.snd.snd.fst (.seq [0, 1, 10, 11] (.block [0, 1, 10, 11] 0 (.loop [0, 1, 10, 11] (.sub (F69.p1 n0)))) (.sub (F69.p3 n0)))))) := by kernel_rfl
theorem F69.e0 {n0 : Nat} {data0 a1 b2 pivot3 : Value} {ds : List Nat} {h : H} {K : KP} : F69.p0 n0 [(0, data0), (1, a1), (2, b2), (3, pivot3)] ds h K = F69.t0 n0 (F69.p1 n0) (F69.p3 n0) data0 a1 b2 pivot3 ds h K :=
  wchain (F69.s0) (F69.g0 (F69.p1 n0) (F69.p3 n0) data0 a1 b2 pivot3)
theorem F69.k0 : F69.c0.ok = true := by kernel_rfl
theorem F69.d0 {n0 : Nat} : F69.p0 n0 = wA Try.prog n0 168 none F69.c0 := by kernel_rfl
theorem F69.m0 (n0 : Nat) : MonoW (F69.p0 n0) := @mono_c Try.prog n0 168 none F69.c0 (F69.p0 n0) (F69.d0) F69.k0
noncomputable def F69.t1 (n0 : Nat) (B2 : WP) (data0 a1 i10 j11 : Value) (ds : List Nat) (h : H) (K : KP) : Prop :=
  Bnd (aBin Try.prog false .leq 3 i10 j11) fun t32 =>
  Gd t32
   (Bnd (aIndexAddr Try.prog 22 data0 i10) fun t36 =>
  Bnd (aLoad Try.prog 23 t36 h) fun t37 =>
  Bnd (aIndexAddr Try.prog 22 data0 a1) fun t40 =>
  Bnd (aLoad Try.prog 23 t40 h) fun t41 =>
  Cn Try.prog n0 (.func 67) [t37, t41] h fun t42 h1 =>
  Cnd t42
   (B2 [(0, data0), (1, a1), (10, i10), (11, j11)] ds h1 K)
   (K (.exit 0) [(0, data0), (1, a1), (10, i10), (11, j11)] ds h1))
   (K (.exit 0) [(0, data0), (1, a1), (10, i10), (11, j11)] ds h)
theorem F69.g1 {n0 : Nat} (B2 : WP) (data0 a1 i10 j11 : Value) {ds : List Nat} {h : H} {K : KP} : wA Try.prog n0 168 none (.seq [0, 1, 10, 11] F69.c1.fst (.sub B2)) [(0, data0), (1, a1), (10, i10), (11, j11)] ds h K = F69.t1 n0 B2 data0 a1 i10 j11 ds h K := by kernel_rfl
theorem F69.s1 {n0 : Nat} : F69.p1 n0 = wA Try.prog n0 168 none (.seq [0, 1, 10, 11] F69.c1.fst (.sub (F69.p2 n0))) := by kernel_rfl
theorem F69.e1 {n0 : Nat} {data0 a1 i10 j11 : Value} {ds : List Nat} {h : H} {K : KP} : F69.p1 n0 [(0, data0), (1, a1), (10, i10), (11, j11)] ds h K = F69.t1 n0 (F69.p2 n0) data0 a1 i10 j11 ds h K :=
  wchain (F69.s1) (F69.g1 (F69.p2 n0) data0 a1 i10 j11)
theorem F69.k1 : F69.c1.ok = true := by kernel_rfl
theorem F69.d1 {n0 : Nat} : F69.p1 n0 = wA Try.prog n0 168 none F69.c1 := by kernel_rfl
theorem F69.m1 (n0 : Nat) : MonoW (F69.p1 n0) := @mono_c Try.prog n0 168 none F69.c1 (F69.p1 n0) (F69.d1) F69.k1
noncomputable def F69.t2 (n0 : Nat) (data0 a1 i10 j11 : Value) (ds : List Nat) (h : H) (K : KP) : Prop :=
  Bnd (aBin Try.prog true .add 3 i10 (.int .i64 1)) fun t45 =>
  K .normal [(0, data0), (1, a1), (10, t45), (11, j11)] ds h
theorem F69.g2 {n0 : Nat} (data0 a1 i10 j11 : Value) {ds : List Nat} {h : H} {K : KP} : wA Try.prog n0 168 none F69.c2 [(0, data0), (1, a1), (10, i10), (11, j11)] ds h K = F69.t2 n0 data0 a1 i10 j11 ds h K := by kernel_rfl
theorem F69.s2 {n0 : Nat} : F69.p2 n0 = wA Try.prog n0 168 none F69.c2 := by kernel_rfl
theorem F69.e2 {n0 : Nat} {data0 a1 i10 j11 : Value} {ds : List Nat} {h : H} {K : KP} : F69.p2 n0 [(0, data0), (1, a1), (10, i10), (11, j11)] ds h K = F69.t2 n0 data0 a1 i10 j11 ds h K :=
  wchain (F69.s2) (F69.g2 data0 a1 i10 j11)
noncomputable def F69.t3 (n0 : Nat) (B4 : WP) (B6 : WP) (data0 a1 i10 j11 : Value) (ds : List Nat) (h : H) (K : KP) : Prop :=
  Lp [0, 1, 10, 11] B4 [(0, data0), (1, a1), (10, i10), (11, j11)] ds h (KBlk [0, 1, 10, 11] 2 (KSeq [0, 1, 10, 11] B6 K))
theorem F69.g3 {n0 : Nat} (B4 : WP) (B6 : WP) (data0 a1 i10 j11 : Value) {ds : List Nat} {h : H} {K : KP} : wA Try.prog n0 168 none (.seq [0, 1, 10, 11] (.block [0, 1, 10, 11] 2 (.loop [0, 1, 10, 11] (.sub B4))) (.sub B6)) [(0, data0), (1, a1), (10, i10), (11, j11)] ds h K = F69.t3 n0 B4 B6 data0 a1 i10 j11 ds h K := by kernel_rfl
theorem F69.s3 {n0 : Nat} : F69.p3 n0 = wA Try.prog n0 168 none (.seq [0, 1, 10, 11] (.block [0, 1, 10, 11] 2 (.loop [0, 1, 10, 11] (.sub (F69.p4 n0)))) (.sub (F69.p6 n0))) := by kernel_rfl
theorem F69.e3 {n0 : Nat} {data0 a1 i10 j11 : Value} {ds : List Nat} {h : H} {K : KP} : F69.p3 n0 [(0, data0), (1, a1), (10, i10), (11, j11)] ds h K = F69.t3 n0 (F69.p4 n0) (F69.p6 n0) data0 a1 i10 j11 ds h K :=
  wchain (F69.s3) (F69.g3 (F69.p4 n0) (F69.p6 n0) data0 a1 i10 j11)
noncomputable def F69.t4 (n0 : Nat) (B5 : WP) (data0 a1 i10 j11 : Value) (ds : List Nat) (h : H) (K : KP) : Prop :=
  Bnd (aBin Try.prog false .leq 3 i10 j11) fun t48 =>
  Gd t48
   (Bnd (aIndexAddr Try.prog 22 data0 j11) fun t52 =>
  Bnd (aLoad Try.prog 23 t52 h) fun t53 =>
  Bnd (aIndexAddr Try.prog 22 data0 a1) fun t56 =>
  Bnd (aLoad Try.prog 23 t56 h) fun t57 =>
  Cn Try.prog n0 (.func 67) [t53, t57] h fun t58 h1 =>
  Bnd (aUn .not t58) fun t59 =>
  Cnd t59
   (B5 [(0, data0), (1, a1), (10, i10), (11, j11)] ds h1 K)
   (K (.exit 2) [(0, data0), (1, a1), (10, i10), (11, j11)] ds h1))
   (K (.exit 2) [(0, data0), (1, a1), (10, i10), (11, j11)] ds h)
theorem F69.g4 {n0 : Nat} (B5 : WP) (data0 a1 i10 j11 : Value) {ds : List Nat} {h : H} {K : KP} : wA Try.prog n0 168 none (.seq [0, 1, 10, 11] F69.c4.fst (.sub B5)) [(0, data0), (1, a1), (10, i10), (11, j11)] ds h K = F69.t4 n0 B5 data0 a1 i10 j11 ds h K := by kernel_rfl
theorem F69.s4 {n0 : Nat} : F69.p4 n0 = wA Try.prog n0 168 none (.seq [0, 1, 10, 11] F69.c4.fst (.sub (F69.p5 n0))) := by kernel_rfl
theorem F69.e4 {n0 : Nat} {data0 a1 i10 j11 : Value} {ds : List Nat} {h : H} {K : KP} : F69.p4 n0 [(0, data0), (1, a1), (10, i10), (11, j11)] ds h K = F69.t4 n0 (F69.p5 n0) data0 a1 i10 j11 ds h K :=
  wchain (F69.s4) (F69.g4 (F69.p5 n0) data0 a1 i10 j11)
theorem F69.k4 : F69.c4.ok = true := by kernel_rfl
theorem F69.d4 {n0 : Nat} : F69.p4 n0 = wA Try.prog n0 168 none F69.c4 := by kernel_rfl
theorem F69.m4 (n0 : Nat) : MonoW (F69.p4 n0) := @mono_c Try.prog n0 168 none F69.c4 (F69.p4 n0) (F69.d4) F69.k4
noncomputable def F69.t5 (n0 : Nat) (data0 a1 i10 j11 : Value) (ds : List Nat) (h : H) (K : KP) : Prop :=
  Bnd (aBin Try.prog true .sub 3 j11 (.int .i64 1)) fun t62 =>
  K .normal [(0, data0), (1, a1), (10, i10), (11, t62)] ds h
theorem F69.g5 {n0 : Nat} (data0 a1 i10 j11 : Value) {ds : List Nat} {h : H} {K : KP} : wA Try.prog n0 168 none F69.c5 [(0, data0), (1, a1), (10, i10), (11, j11)] ds h K = F69.t5 n0 data0 a1 i10 j11 ds h K := by kernel_rfl
theorem F69.s5 {n0 : Nat} : F69.p5 n0 = wA Try.prog n0 168 none F69.c5 := by kernel_rfl
theorem F69.e5 {n0 : Nat} {data0 a1 i10 j11 : Value} {ds : List Nat} {h : H} {K : KP} : F69.p5 n0 [(0, data0), (1, a1), (10, i10), (11, j11)] ds h K = F69.t5 n0 data0 a1 i10 j11 ds h K :=
  wchain (F69.s5) (F69.g5 data0 a1 i10 j11)
noncomputable def F69.t6 (n0 : Nat) (B7 : WP) (B8 : WP) (data0 a1 i10 j11 : Value) (ds : List Nat) (h : H) (K : KP) : Prop :=
  Bnd (aBin Try.prog false .gtr 3 i10 j11) fun t65 =>
  Cnd t65
   (B7 [(0, data0), (1, a1), (10, i10), (11, j11)] ds h (KSeq [0, 1, 10, 11] B8 K))
   (B8 [(0, data0), (1, a1), (10, i10), (11, j11)] ds h K)
theorem F69.g6 {n0 : Nat} (B7 : WP) (B8 : WP) (data0 a1 i10 j11 : Value) {ds : List Nat} {h : H} {K : KP} : wA Try.prog n0 168 none (.seq [0, 1, 10, 11] (.seq [0, 1, 10, 11, 65] F69.c6.fst.fst (.cond [0, 1, 10, 11] (.tmp 65) (.sub B7) F69.c6.fst.snd.snd)) (.sub B8)) [(0, data0), (1, a1), (10, i10), (11, j11)] ds h K = F69.t6 n0 B7 B8 data0 a1 i10 j11 ds h K := by kernel_rfl
theorem F69.s6 {n0 : Nat} : F69.p6 n0 = wA Try.prog n0 168 none (.seq [0, 1, 10, 11] (.seq [0, 1, 10, 11, 65] F69.c6.fst.fst (.cond [0, 1, 10, 11] (.tmp 65) (.sub (F69.p7 n0)) F69.c6.fst.snd.snd)) (.sub (F69.p8 n0))) := by kernel_rfl
theorem F69.e6 {n0 : Nat} {data0 a1 i10 j11 : Value} {ds : List Nat} {h : H} {K : KP} : F69.p6 n0 [(0, data0), (1, a1), (10, i10), (11, j11)] ds h K = F69.t6 n0 (F69.p7 n0) (F69.p8 n0) data0 a1 i10 j11 ds h K :=
  wchain (F69.s6) (F69.g6 (F69.p7 n0) (F69.p8 n0) data0 a1 i10 j11)
noncomputable def F69.t7 (n0 : Nat) (data0 a1 i10 j11 : Value) (ds : List Nat) (h : H) (K : KP) : Prop :=
  Bnd (aIndexAddr Try.prog 22 data0 a1) fun t72 =>
  Bnd (aLoad Try.prog 23 t72 h) fun t73 =>
  Bnd (aIndexAddr Try.prog 22 data0 j11) fun t76 =>
  Bnd (aLoad Try.prog 23 t76 h) fun t77 =>
  Bnd (aIndexAddr Try.prog 22 data0 j11) fun t78 =>
  Bnd (aStore Try.prog 23 t78 t73 h) fun h1 =>
  Bnd (aIndexAddr Try.prog 22 data0 a1) fun t79 =>
  Bnd (aStore Try.prog 23 t79 t77 h1) fun h2 =>
  K .ret [(8, j11), (9, (.bool true))] ds h2
theorem F69.g7 {n0 : Nat} (data0 a1 i10 j11 : Value) {ds : List Nat} {h : H} {K : KP} : wA Try.prog n0 168 none F69.c7 [(0, data0), (1, a1), (10, i10), (11, j11)] ds h K = F69.t7 n0 data0 a1 i10 j11 ds h K := by kernel_rfl
theorem F69.s7 {n0 : Nat} : F69.p7 n0 = wA Try.prog n0 168 none F69.c7 := by kernel_rfl
theorem F69.e7 {n0 : Nat} {data0 a1 i10 j11 : Value} {ds : List Nat} {h : H} {K : KP} : F69.p7 n0 [(0, data0), (1, a1), (10, i10), (11, j11)] ds h K = F69.t7 n0 data0 a1 i10 j11 ds h K :=
  wchain (F69.s7) (F69.g7 data0 a1 i10 j11)
noncomputable def F69.t8 (n0 : Nat) (B9 : WP) (B17 : WP) (data0 a1 i10 j11 : Value) (ds : List Nat) (h : H) (K : KP) : Prop :=
  Bnd (aIndexAddr Try.prog 22 data0 j11) fun t87 =>
  Bnd (aLoad Try.prog 23 t87 h) fun t88 =>
  Bnd (aIndexAddr Try.prog 22 data0 i10) fun t91 =>
  Bnd (aLoad Try.prog 23 t91 h) fun t92 =>
  Bnd (aIndexAddr Try.prog 22 data0 i10) fun t93 =>
  Bnd (aStore Try.prog 23 t93 t88 h) fun h1 =>
  Bnd (aIndexAddr Try.prog 22 data0 j11) fun t94 =>
  Bnd (aStore Try.prog 23 t94 t92 h1) fun h2 =>
  Bnd (aBin Try.prog true .add 3 i10 (.int .i64 1)) fun t96 =>
  Bnd (aBin Try.prog true .sub 3 j11 (.int .i64 1)) fun t98 =>
  Lp [0, 1, 10, 11] B9 [(0, data0), (1, a1), (10, t96), (11, t98)] ds h2 (KBlk [0, 1, 11] 4 (KSeq [0, 1, 11] B17 K))
theorem F69.g8 {n0 : Nat} (B9 : WP) (B17 : WP) (data0 a1 i10 j11 : Value) {ds : List Nat} {h : H} {K : KP} : wA Try.prog n0 168 none (.seq [0, 1, 10, 11] F69.c8.fst (.seq [0, 1, 10, 11] F69.c8.snd.fst (.seq [0, 1, 10, 11] F69.c8.snd.snd.fst (.seq [0, 1, 11] (.block [0, 1, 11] 4 (.loop [0, 1, 10, 11] (.sub B9))) (.sub B17))))) [(0, data0), (1, a1), (10, i10), (11, j11)] ds h K = F69.t8 n0 B9 B17 data0 a1 i10 j11 ds h K := by kernel_rfl
theorem F69.s8 {n0 : Nat} : F69.p8 n0 = wA Try.prog n0 168 none (.seq [0, 1, 10, 11] F69.c8.fst (.seq [0, 1, 10, 11] F69.c8.snd.fst (.seq [0, 1, 10, 11] F69.c8.snd.snd.fst (.seq [0, 1, 11] (.block [0, 1, 11] 4 (.loop [0, 1, 10, 11] (.sub (F69.p9 n0)))) (.sub (F69.p17 n0)))))) := by kernel_rfl
theorem F69.e8 {n0 : Nat} {data0 a1 i10 j11 : Value} {ds : List Nat} {h : H} {K : KP} : F69.p8 n0 [(0, data0), (1, a1), (10, i10), (11, j11)] ds h K = F69.t8 n0 (F69.p9 n0) (F69.p17 n0) data0 a1 i10 j11 ds h K :=
  wchain (F69.s8) (F69.g8 (F69.p9 n0) (F69.p17 n0) data0 a1 i10 j11)
noncomputable def F69.t9 (n0 : Nat) (B10 : WP) (B12 : WP) (data0 a1 i10 j11 : Value) (ds : List Nat) (h : H) (K : KP) : Prop :=
  Lp [0, 1, 10, 11] B10 [(0, data0), (1, a1), (10, i10), (11, j11)] ds h (KBlk [0, 1, 10, 11] 6 (KSeq [0, 1, 10, 11] B12 (KBlk [0, 1, 10, 11] 5 K)))
theorem F69.g9 {n0 : Nat} (B10 : WP) (B12 : WP) (data0 a1 i10 j11 : Value) {ds : List Nat} {h : H} {K : KP} : wA Try.prog n0 168 none (.block [0, 1, 10, 11] 5 (.seq [0, 1, 10, 11] (.block [0, 1, 10, 11] 6 (.loop [0, 1, 10, 11] (.sub B10))) (.sub B12))) [(0, data0), (1, a1), (10, i10), (11, j11)] ds h K = F69.t9 n0 B10 B12 data0 a1 i10 j11 ds h K := by kernel_rfl
theorem F69.s9 {n0 : Nat} : F69.p9 n0 = wA Try.prog n0 168 none (.block [0, 1, 10, 11] 5 (.seq [0, 1, 10, 11] (.block [0, 1, 10, 11] 6 (.loop [0, 1, 10, 11] (.sub (F69.p10 n0)))) (.sub (F69.p12 n0)))) := by kernel_rfl
theorem F69.e9 {n0 : Nat} {data0 a1 i10 j11 : Value} {ds : List Nat} {h : H} {K : KP} : F69.p9 n0 [(0, data0), (1, a1), (10, i10), (11, j11)] ds h K = F69.t9 n0 (F69.p10 n0) (F69.p12 n0) data0 a1 i10 j11 ds h K :=
  wchain (F69.s9) (F69.g9 (F69.p10 n0) (F69.p12 n0) data0 a1 i10 j11)
theorem F69.k9 : F69.c9.ok = true := by kernel_rfl
theorem F69.d9 {n0 : Nat} : F69.p9 n0 = wA Try.prog n0 168 none F69.c9 := by kernel_rfl
theorem F69.m9 (n0 : Nat) : MonoW (F69.p9 n0) := @mono_c Try.prog n0 168 none F69.c9 (F69.p9 n0) (F69.d9) F69.k9
noncomputable def F69.t10 (n0 : Nat) (B11 : WP) (data0 a1 i10 j11 : Value) (ds : List Nat) (h : H) (K : KP) : Prop :=
  Bnd (aBin Try.prog false .leq 3 i10 j11) fun t101 =>
  Gd t101
   (Bnd (aIndexAddr Try.prog 22 data0 i10) fun t105 =>
  Bnd (aLoad Try.prog 23 t105 h) fun t106 =>
  Bnd (aIndexAddr Try.prog 22 data0 a1) fun t109 =>
  Bnd (aLoad Try.prog 23 t109 h) fun t110 =>
  Cn Try.prog n0 (.func 67) [t106, t110] h fun t111 h1 =>
  Cnd t111
   (B11 [(0, data0), (1, a1), (10, i10), (11, j11)] ds h1 K)
   (K (.exit 6) [(0, data0), (1, a1), (10, i10), (11, j11)] ds h1))
   (K (.exit 6) [(0, data0), (1, a1), (10, i10), (11, j11)] ds h)
theorem F69.g10 {n0 : Nat} (B11 : WP) (data0 a1 i10 j11 : Value) {ds : List Nat} {h : H} {K : KP} : wA Try.prog n0 168 none (.seq [0, 1, 10, 11] F69.c10.fst (.sub B11)) [(0, data0), (1, a1), (10, i10), (11, j11)] ds h K = F69.t10 n0 B11 data0 a1 i10 j11 ds h K := by kernel_rfl
theorem F69.s10 {n0 : Nat} : F69.p10 n0 = wA Try.prog n0 168 none (.seq [0, 1, 10, 11] F69.c10.fst (.sub (F69.p11 n0))) := by kernel_rfl
theorem F69.e10 {n0 : Nat} {data0 a1 i10 j11 : Value} {ds : List Nat} {h : H} {K : KP} : F69.p10 n0 [(0, data0), (1, a1), (10, i10), (11, j11)] ds h K = F69.t10 n0 (F69.p11 n0) data0 a1 i10 j11 ds h K :=
  wchain (F69.s10) (F69.g10 (F69.p11 n0) data0 a1 i10 j11)
theorem F69.k10 : F69.c10.ok = true := by kernel_rfl
theorem F69.d10 {n0 : Nat} : F69.p10 n0 = wA Try.prog n0 168 none F69.c10 := by kernel_rfl
theorem F69.m10 (n0 : Nat) : MonoW (F69.p10 n0) := @mono_c Try.prog n0 168 none F69.c10 (F69.p10 n0) (F69.d10) F69.k10
noncomputable def F69.t11 (n0 : Nat) (data0 a1 i10 j11 : Value) (ds : List Nat) (h : H) (K : KP) : Prop :=
  Bnd (aBin Try.prog true .add 3 i10 (.int .i64 1)) fun t114 =>
  K .normal [(0, data0), (1, a1), (10, t114), (11, j11)] ds h
theorem F69.g11 {n0 : Nat} (data0 a1 i10 j11 : Value) {ds : List Nat} {h : H} {K : KP} : wA Try.prog n0 168 none F69.c11 [(0, data0), (1, a1), (10, i10), (11, j11)] ds h K = F69.t11 n0 data0 a1 i10 j11 ds h K := by kernel_rfl
theorem F69.s11 {n0 : Nat} : F69.p11 n0 = wA Try.prog n0 168 none F69.c11 := by kernel_rfl
theorem F69.e11 {n0 : Nat} {data0 a1 i10 j11 : Value} {ds : List Nat} {h : H} {K : KP} : F69.p11 n0 [(0, data0), (1, a1), (10, i10), (11, j11)] ds h K = F69.t11 n0 data0 a1 i10 j11 ds h K :=
  wchain (F69.s11) (F69.g11 data0 a1 i10 j11)
noncomputable def F69.t12 (n0 : Nat) (B13 : WP) (B15 : WP) (data0 a1 i10 j11 : Value) (ds : List Nat) (h : H) (K : KP) : Prop :=
  Lp [0, 1, 10, 11] B13 [(0, data0), (1, a1), (10, i10), (11, j11)] ds h (KBlk [0, 1, 10, 11] 8 (KSeq [0, 1, 10, 11] B15 K))
theorem F69.g12 {n0 : Nat} (B13 : WP) (B15 : WP) (data0 a1 i10 j11 : Value) {ds : List Nat} {h : H} {K : KP} : wA Try.prog n0 168 none (.seq [0, 1, 10, 11] (.block [0, 1, 10, 11] 8 (.loop [0, 1, 10, 11] (.sub B13))) (.sub B15)) [(0, data0), (1, a1), (10, i10), (11, j11)] ds h K = F69.t12 n0 B13 B15 data0 a1 i10 j11 ds h K := by kernel_rfl
theorem F69.s12 {n0 : Nat} : F69.p12 n0 = wA Try.prog n0 168 none (.seq [0, 1, 10, 11] (.block [0, 1, 10, 11] 8 (.loop [0, 1, 10, 11] (.sub (F69.p13 n0)))) (.sub (F69.p15 n0))) := by kernel_rfl
theorem F69.e12 {n0 : Nat} {data0 a1 i10 j11 : Value} {ds : List Nat} {h : H} {K : KP} : F69.p12 n0 [(0, data0), (1, a1), (10, i10), (11, j11)] ds h K = F69.t12 n0 (F69.p13 n0) (F69.p15 n0) data0 a1 i10 j11 ds h K :=
  wchain (F69.s12) (F69.g12 (F69.p13 n0) (F69.p15 n0) data0 a1 i10 j11)
noncomputable def F69.t13 (n0 : Nat) (B14 : WP) (data0 a1 i10 j11 : Value) (ds : List Nat) (h : H) (K : KP) : Prop :=
  Bnd (aBin Try.prog false .leq 3 i10 j11) fun t117 =>
  Gd t117
   (Bnd (aIndexAddr Try.prog 22 data0 j11) fun t121 =>
  Bnd (aLoad Try.prog 23 t121 h) fun t122 =>
  Bnd (aIndexAddr Try.prog 22 data0 a1) fun t125 =>
  Bnd (aLoad Try.prog 23 t125 h) fun t126 =>
  Cn Try.prog n0 (.func 67) [t122, t126] h fun t127 h1 =>
  Bnd (aUn .not t127) fun t128 =>
  Cnd t128
   (B14 [(0, data0), (1, a1), (10, i10), (11, j11)] ds h1 K)
   (K (.exit 8) [(0, data0), (1, a1), (10, i10), (11, j11)] ds h1))
   (K (.exit 8) [(0, data0), (1, a1), (10, i10), (11, j11)] ds h)
theorem F69.g13 {n0 : Nat} (B14 : WP) (data0 a1 i10 j11 : Value) {ds : List Nat} {h : H} {K : KP} : wA Try.prog n0 168 none (.seq [0, 1, 10, 11] F69.c13.fst (.sub B14)) [(0, data0), (1, a1), (10, i10), (11, j11)] ds h K = F69.t13 n0 B14 data0 a1 i10 j11 ds h K := by kernel_rfl
theorem F69.s13 {n0 : Nat} : F69.p13 n0 = wA Try.prog n0 168 none (.seq [0, 1, 10, 11] F69.c13.fst (.sub (F69.p14 n0))) := by kernel_rfl
theorem F69.e13 {n0 : Nat} {data0 a1 i10 j11 : Value} {ds : List Nat} {h : H} {K : KP} : F69.p13 n0 [(0, data0), (1, a1), (10, i10), (11, j11)] ds h K = F69.t13 n0 (F69.p14 n0) data0 a1 i10 j11 ds h K :=
  wchain (F69.s13) (F69.g13 (F69.p14 n0) data0 a1 i10 j11)
theorem F69.k13 : F69.c13.ok = true := by kernel_rfl
theorem F69.d13 {n0 : Nat} : F69.p13 n0 = wA Try.prog n0 168 none F69.c13 := by kernel_rfl
theorem F69.m13 (n0 : Nat) : MonoW (F69.p13 n0) := @mono_c Try.prog n0 168 none F69.c13 (F69.p13 n0) (F69.d13) F69.k13
noncomputable def F69.t14 (n0 : Nat) (data0 a1 i10 j11 : Value) (ds : List Nat) (h : H) (K : KP) : Prop :=
  Bnd (aBin Try.prog true .sub 3 j11 (.int .i64 1)) fun t131 =>
  K .normal [(0, data0), (1, a1), (10, i10), (11, t131)] ds h
theorem F69.g14 {n0 : Nat} (data0 a1 i10 j11 : Value) {ds : List Nat} {h : H} {K : KP} : wA Try.prog n0 168 none F69.c14 [(0, data0), (1, a1), (10, i10), (11, j11)] ds h K = F69.t14 n0 data0 a1 i10 j11 ds h K := by kernel_rfl
theorem F69.s14 {n0 : Nat} : F69.p14 n0 = wA Try.prog n0 168 none F69.c14 := by kernel_rfl
theorem F69.e14 {n0 : Nat} {data0 a1 i10 j11 : Value} {ds : List Nat} {h : H} {K : KP} : F69.p14 n0 [(0, data0), (1, a1), (10, i10), (11, j11)] ds h K = F69.t14 n0 data0 a1 i10 j11 ds h K :=
  wchain (F69.s14) (F69.g14 data0 a1 i10 j11)
noncomputable def F69.t15 (n0 : Nat) (B16 : WP) (data0 a1 i10 j11 : Value) (ds : List Nat) (h : H) (K : KP) : Prop :=
  Bnd (aBin Try.prog false .gtr 3 i10 j11) fun t134 =>
  Cnd t134
   (K (.exit 4) [(0, data0), (1, a1), (10, i10), (11, j11)] ds h)
   (B16 [(0, data0), (1, a1), (10, i10), (11, j11)] ds h K)
theorem F69.g15 {n0 : Nat} (B16 : WP) (data0 a1 i10 j11 : Value) {ds : List Nat} {h : H} {K : KP} : wA Try.prog n0 168 none (.seq [0, 1, 10, 11] F69.c15.fst (.sub B16)) [(0, data0), (1, a1), (10, i10), (11, j11)] ds h K = F69.t15 n0 B16 data0 a1 i10 j11 ds h K := by kernel_rfl
theorem F69.s15 {n0 : Nat} : F69.p15 n0 = wA Try.prog n0 168 none (.seq [0, 1, 10, 11] F69.c15.fst (.sub (F69.p16 n0))) := by kernel_rfl
theorem F69.e15 {n0 : Nat} {data0 a1 i10 j11 : Value} {ds : List Nat} {h : H} {K : KP} : F69.p15 n0 [(0, data0), (1, a1), (10, i10), (11, j11)] ds h K = F69.t15 n0 (F69.p16 n0) data0 a1 i10 j11 ds h K :=
  wchain (F69.s15) (F69.g15 (F69.p16 n0) data0 a1 i10 j11)
noncomputable def F69.t16 (n0 : Nat) (data0 a1 i10 j11 : Value) (ds : List Nat) (h : H) (K : KP) : Prop :=
  Bnd (aIndexAddr Try.prog 22 data0 j11) fun t141 =>
  Bnd (aLoad Try.prog 23 t141 h) fun t142 =>
  Bnd (aIndexAddr Try.prog 22 data0 i10) fun t145 =>
  Bnd (aLoad Try.prog 23 t145 h) fun t146 =>
  Bnd (aIndexAddr Try.prog 22 data0 i10) fun t147 =>
  Bnd (aStore Try.prog 23 t147 t142 h) fun h1 =>
  Bnd (aIndexAddr Try.prog 22 data0 j11) fun t148 =>
  Bnd (aStore Try.prog 23 t148 t146 h1) fun h2 =>
  Bnd (aBin Try.prog true .add 3 i10 (.int .i64 1)) fun t150 =>
  Bnd (aBin Try.prog true .sub 3 j11 (.int .i64 1)) fun t152 =>
  K .normal [(0, data0), (1, a1), (10, t150), (11, t152), (151, j11), (152, t152)] ds h2
theorem F69.g16 {n0 : Nat} (data0 a1 i10 j11 : Value) {ds : List Nat} {h : H} {K : KP} : wA Try.prog n0 168 none F69.c16 [(0, data0), (1, a1), (10, i10), (11, j11)] ds h K = F69.t16 n0 data0 a1 i10 j11 ds h K := by kernel_rfl
theorem F69.s16 {n0 : Nat} : F69.p16 n0 = wA Try.prog n0 168 none F69.c16 := by kernel_rfl
theorem F69.e16 {n0 : Nat} {data0 a1 i10 j11 : Value} {ds : List Nat} {h : H} {K : KP} : F69.p16 n0 [(0, data0), (1, a1), (10, i10), (11, j11)] ds h K = F69.t16 n0 data0 a1 i10 j11 ds h K :=
  wchain (F69.s16) (F69.g16 data0 a1 i10 j11)
noncomputable def F69.t17 (n0 : Nat) (data0 a1 j11 : Value) (ds : List Nat) (h : H) (K : KP) : Prop :=
  Bnd (aIndexAddr Try.prog 22 data0 a1) fun t159 =>
  Bnd (aLoad Try.prog 23 t159 h) fun t160 =>
  Bnd (aIndexAddr Try.prog 22 data0 j11) fun t163 =>
  Bnd (aLoad Try.prog 23 t163 h) fun t164 =>
  Bnd (aIndexAddr Try.prog 22 data0 j11) fun t165 =>
  Bnd (aStore Try.prog 23 t165 t160 h) fun h1 =>
  Bnd (aIndexAddr Try.prog 22 data0 a1) fun t166 =>
  Bnd (aStore Try.prog 23 t166 t164 h1) fun h2 =>
  K .ret [(8, j11), (9, (.bool false))] ds h2
theorem F69.g17 {n0 : Nat} (data0 a1 j11 : Value) {ds : List Nat} {h : H} {K : KP} : wA Try.prog n0 168 none F69.c17 [(0, data0), (1, a1), (11, j11)] ds h K = F69.t17 n0 data0 a1 j11 ds h K := by kernel_rfl
theorem F69.s17 {n0 : Nat} : F69.p17 n0 = wA Try.prog n0 168 none F69.c17 := by kernel_rfl
theorem F69.e17 {n0 : Nat} {data0 a1 j11 : Value} {ds : List Nat} {h : H} {K : KP} : F69.p17 n0 [(0, data0), (1, a1), (11, j11)] ds h K = F69.t17 n0 data0 a1 j11 ds h K :=
  wchain (F69.s17) (F69.g17 data0 a1 j11)
theorem F69.b : Try.f69.body = some F69.c0.erase := by kernel_rfl
theorem F69.b2 : (Try.f69.name == "runtime.NumGoroutine") = false := by kernel_rfl
theorem F69.b3 : Try.f69.ntmps = 168 := by kernel_rfl
theorem F69.b4 : Try.f69.results.toList = [.tmp 8, .tmp 9] := by kernel_rfl
theorem F69.enter {n0 : Nat} {x0 x1 x2 x3 : Value} {h : H} {Q : Value → H → Prop} (w : F69.p0 n0 [(0, x0), (1, x1), (2, x2), (3, x3)] [] h (KFin Try.prog [.tmp 8, .tmp 9] Q)) : Cn Try.prog n0 (.func 69) [x0, x1, x2, x3] h Q :=
  @fn_enter Try.prog n0 mixed 69 Try.f69 F69.c0 [x0, x1, x2, x3] h Q Try.func69 F69.b F69.k0 F69.b2 168 F69.b3 [.tmp 8, .tmp 9] F69.b4 (by simp) [(0, x0), (1, x1), (2, x2), (3, x3)] rfl (wback F69.d0 w)

/-! slices.siftDownOrdered[uint64] -/
noncomputable def F72.ac : AC := (ann (bodyOf Try.f72) [[0, 2, 3, 8], [], [0, 2, 3, 8], [0, 2, 3, 8], [0, 2, 3, 8, 9], [0, 2, 3, 8, 9], [0, 2, 3, 8, 9, 16], [0, 2, 3, 8, 9], [0, 2, 3, 8, 9], [0, 2, 3, 8, 9, 36], [0, 2, 3, 8, 9], [0, 2, 3, 8, 9], [0, 2, 3, 8, 9, 52], [0, 2, 3, 8, 9], [0, 2, 3, 9]]).1
noncomputable def F72.c0 : AC := F72.ac
noncomputable def F72.c1 : AC := F72.ac.snd.fst.fst
noncomputable def F72.c2 : AC := F72.ac.snd.fst.fst.fst.snd.snd
noncomputable def F72.c3 : AC := F72.ac.snd.fst.fst.fst.snd.snd.fst.snd.fst
noncomputable def F72.c4 : AC := F72.ac.snd.fst.fst.fst.snd.snd.snd
noncomputable def F72.c5 : AC := F72.ac.snd.fst.fst.fst.snd.snd.snd.snd
noncomputable def F72.p0 (n0 : Nat) : WP := wA Try.prog n0 76 none F72.c0
noncomputable def F72.p1 (n0 : Nat) : WP := wA Try.prog n0 76 none F72.c1
noncomputable def F72.p2 (n0 : Nat) : WP := wA Try.prog n0 76 none F72.c2
noncomputable def F72.p3 (n0 : Nat) : WP := wA Try.prog n0 76 none F72.c3
noncomputable def F72.p4 (n0 : Nat) : WP := wA Try.prog n0 76 none F72.c4
noncomputable def F72.p5 (n0 : Nat) : WP := wA Try.prog n0 76 none F72.c5
noncomputable def F72.t0 (n0 : Nat) (B1 : WP) (data0 lo1 hi2 first3 : Value) (ds : List Nat) (h : H) (K : KP) : Prop :=
  Lp [0, 2, 3, 8] B1 [(0, data0), (2, hi2), (3, first3), (8, lo1)] ds h (KBlk [] 0 K)
theorem F72.g0 {n0 : Nat} (B1 : WP) (data0 lo1 hi2 first3 : Value) {ds : List Nat} {h : H} {K : KP} : wA Try.prog n0 76 none (.seq [0, 2, 3, 8] F72.c0.fst (.block [] 0 (.loop [0, 2, 3, 8] (.sub B1)))) [(0, data0), (1, lo1), (2, hi2), (3, first3)] ds h K = F72.t0 n0 B1 data0 lo1 hi2 first3 ds h K := by kernel_rfl
theorem F72.s0 {n0 : Nat} : F72.p0 n0 = wA Try.prog n0 76 none (.seq [0, 2, 3, 8] F72.c0.fst (.block [] 0 (.loop [0, 2, 3, 8] (.sub (F72.p1 n0))))) := by kernel_rfl
theorem F72.e0 {n0 : Nat} {data0 lo1 hi2 first3 : Value} {ds : List Nat} {h : H} {K : KP} : F72.p0 n0 [(0, data0), (1, lo1), (2, hi2), (3, first3)] ds h K = F72.t0 n0 (F72.p1 n0) data0 lo1 hi2 first3 ds h K :=
  wchain (F72.s0) (F72.g0 (F72.p1 n0) data0 lo1 hi2 first3)
theorem F72.k0 : F72.c0.ok = true := by kernel_rfl
theorem F72.d0 {n0 : Nat} : F72.p0 n0 = wA Try.prog n0 76 none F72.c0 := by kernel_rfl
theorem F72.m0 (n0 : Nat) : MonoW (F72.p0 n0) := @mono_c Try.prog n0 76 none F72.c0 (F72.p0 n0) (F72.d0) F72.k0
noncomputable def F72.t1 (n0 : Nat) (B2 : WP) (data0 hi2 first3 root8 : Value) (ds : List Nat) (h : H) (K : KP) : Prop :=
  Bnd (aBin Try.prog true .mul 3 (.int .i64 2) root8) fun t12 =>
  Bnd (aBin Try.prog true .add 3 t12 (.int .i64 1)) fun t13 =>
  Bnd (aBin Try.prog false .geq 3 t13 hi2) fun t16 =>
  Cnd t16
   (K (.exit 0) [(0, data0), (2, hi2), (3, first3), (8, root8), (9, t13)] ds h)
   (B2 [(0, data0), (2, hi2), (3, first3), (8, root8), (9, t13)] ds h (KBlk [0, 2, 3, 8] 1 K))
theorem F72.g1 {n0 : Nat} (B2 : WP) (data0 hi2 first3 root8 : Value) {ds : List Nat} {h : H} {K : KP} : wA Try.prog n0 76 none (.block [0, 2, 3, 8] 1 (.seq [0, 2, 3, 8, 9] F72.c1.fst.fst (.seq [0, 2, 3, 8, 9] F72.c1.fst.snd.fst (.sub B2)))) [(0, data0), (2, hi2), (3, first3), (8, root8)] ds h K = F72.t1 n0 B2 data0 hi2 first3 root8 ds h K := by kernel_rfl
theorem F72.s1 {n0 : Nat} : F72.p1 n0 = wA Try.prog n0 76 none (.block [0, 2, 3, 8] 1 (.seq [0, 2, 3, 8, 9] F72.c1.fst.fst (.seq [0, 2, 3, 8, 9] F72.c1.fst.snd.fst (.sub (F72.p2 n0))))) := by kernel_rfl
theorem F72.e1 {n0 : Nat} {data0 hi2 first3 root8 : Value} {ds : List Nat} {h : H} {K : KP} : F72.p1 n0 [(0, data0), (2, hi2), (3, first3), (8, root8)] ds h K = F72.t1 n0 (F72.p2 n0) data0 hi2 first3 root8 ds h K :=
  wchain (F72.s1) (F72.g1 (F72.p2 n0) data0 hi2 first3 root8)
theorem F72.k1 : F72.c1.ok = true := by kernel_rfl
theorem F72.d1 {n0 : Nat} : F72.p1 n0 = wA Try.prog n0 76 none F72.c1 := by kernel_rfl
theorem F72.m1 (n0 : Nat) : MonoW (F72.p1 n0) := @mono_c Try.prog n0 76 none F72.c1 (F72.p1 n0) (F72.d1) F72.k1
noncomputable def F72.t2 (n0 : Nat) (B3 : WP) (B4 : WP) (data0 hi2 first3 root8 child9 : Value) (ds : List Nat) (h : H) (K : KP) : Prop :=
  Bnd (aBin Try.prog true .add 3 child9 (.int .i64 1)) fun t18 =>
  Bnd (aBin Try.prog false .lss 3 t18 hi2) fun t20 =>
  Gd t20
   (Bnd (aBin Try.prog false .add 3 first3 child9) fun t25 =>
  Bnd (aIndexAddr Try.prog 22 data0 t25) fun t26 =>
  Bnd (aLoad Try.prog 23 t26 h) fun t27 =>
  Bnd (aBin Try.prog false .add 3 first3 child9) fun t31 =>
  Bnd (aBin Try.prog true .add 3 t31 (.int .i64 1)) fun t32 =>
  Bnd (aIndexAddr Try.prog 22 data0 t32) fun t33 =>
  Bnd (aLoad Try.prog 23 t33 h) fun t34 =>
  Cn Try.prog n0 (.func 67) [t27, t34] h fun t35 h1 =>
  Cnd t35
   (B3 [(0, data0), (2, hi2), (3, first3), (8, root8), (9, child9)] ds h1 (KSeq [0, 2, 3, 8, 9] B4 K))
   (B4 [(0, data0), (2, hi2), (3, first3), (8, root8), (9, child9)] ds h1 K))
   (B4 [(0, data0), (2, hi2), (3, first3), (8, root8), (9, child9)] ds h K)
theorem F72.g2 {n0 : Nat} (B3 : WP) (B4 : WP) (data0 hi2 first3 root8 child9 : Value) {ds : List Nat} {h : H} {K : KP} : wA Try.prog n0 76 none (.seq [0, 2, 3, 8, 9] (.seq [0, 2, 3, 8, 9, 36] F72.c2.fst.fst (.cond [0, 2, 3, 8, 9] (.tmp 36) (.sub B3) F72.c2.fst.snd.snd)) (.sub B4)) [(0, data0), (2, hi2), (3, first3), (8, root8), (9, child9)] ds h K = F72.t2 n0 B3 B4 data0 hi2 first3 root8 child9 ds h K := by kernel_rfl
theorem F72.s2 {n0 : Nat} : F72.p2 n0 = wA Try.prog n0 76 none (.seq [0, 2, 3, 8, 9] (.seq [0, 2, 3, 8, 9, 36] F72.c2.fst.fst (.cond [0, 2, 3, 8, 9] (.tmp 36) (.sub (F72.p3 n0)) F72.c2.fst.snd.snd)) (.sub (F72.p4 n0))) := by kernel_rfl
theorem F72.e2 {n0 : Nat} {data0 hi2 first3 root8 child9 : Value} {ds : List Nat} {h : H} {K : KP} : F72.p2 n0 [(0, data0), (2, hi2), (3, first3), (8, root8), (9, child9)] ds h K = F72.t2 n0 (F72.p3 n0) (F72.p4 n0) data0 hi2 first3 root8 child9 ds h K :=
  wchain (F72.s2) (F72.g2 (F72.p3 n0) (F72.p4 n0) data0 hi2 first3 root8 child9)
noncomputable def F72.t3 (n0 : Nat) (data0 hi2 first3 root8 child9 : Value) (ds : List Nat) (h : H) (K : KP) : Prop :=
  Bnd (aBin Try.prog true .add 3 child9 (.int .i64 1)) fun t38 =>
  K .normal [(0, data0), (2, hi2), (3, first3), (8, root8), (9, t38), (37, child9), (38, t38)] ds h
theorem F72.g3 {n0 : Nat} (data0 hi2 first3 root8 child9 : Value) {ds : List Nat} {h : H} {K : KP} : wA Try.prog n0 76 none F72.c3 [(0, data0), (2, hi2), (3, first3), (8, root8), (9, child9)] ds h K = F72.t3 n0 data0 hi2 first3 root8 child9 ds h K := by kernel_rfl
theorem F72.s3 {n0 : Nat} : F72.p3 n0 = wA Try.prog n0 76 none F72.c3 := by kernel_rfl
theorem F72.e3 {n0 : Nat} {data0 hi2 first3 root8 child9 : Value} {ds : List Nat} {h : H} {K : KP} : F72.p3 n0 [(0, data0), (2, hi2), (3, first3), (8, root8), (9, child9)] ds h K = F72.t3 n0 data0 hi2 first3 root8 child9 ds h K :=
  wchain (F72.s3) (F72.g3 data0 hi2 first3 root8 child9)
noncomputable def F72.t4 (n0 : Nat) (B5 : WP) (data0 hi2 first3 root8 child9 : Value) (ds : List Nat) (h : H) (K : KP) : Prop :=
  Bnd (aBin Try.prog false .add 3 first3 root8) fun t42 =>
  Bnd (aIndexAddr Try.prog 22 data0 t42) fun t43 =>
  Bnd (aLoad Try.prog 23 t43 h) fun t44 =>
  Bnd (aBin Try.prog false .add 3 first3 child9) fun t48 =>
  Bnd (aIndexAddr Try.prog 22 data0 t48) fun t49 =>
  Bnd (aLoad Try.prog 23 t49 h) fun t50 =>
  Cn Try.prog n0 (.func 67) [t44, t50] h fun t51 h1 =>
  Bnd (aUn .not t51) fun t52 =>
  Cnd t52
   (K .ret [(0, data0), (2, hi2), (3, first3), (8, root8), (9, child9)] ds h1)
   (B5 [(0, data0), (2, hi2), (3, first3), (8, root8), (9, child9)] ds h1 K)
theorem F72.g4 {n0 : Nat} (B5 : WP) (data0 hi2 first3 root8 child9 : Value) {ds : List Nat} {h : H} {K : KP} : wA Try.prog n0 76 none (.seq [0, 2, 3, 8, 9] F72.c4.fst (.sub B5)) [(0, data0), (2, hi2), (3, first3), (8, root8), (9, child9)] ds h K = F72.t4 n0 B5 data0 hi2 first3 root8 child9 ds h K := by kernel_rfl
theorem F72.s4 {n0 : Nat} : F72.p4 n0 = wA Try.prog n0 76 none (.seq [0, 2, 3, 8, 9] F72.c4.fst (.sub (F72.p5 n0))) := by kernel_rfl
theorem F72.e4 {n0 : Nat} {data0 hi2 first3 root8 child9 : Value} {ds : List Nat} {h : H} {K : KP} : F72.p4 n0 [(0, data0), (2, hi2), (3, first3), (8, root8), (9, child9)] ds h K = F72.t4 n0 (F72.p5 n0) data0 hi2 first3 root8 child9 ds h K :=
  wchain (F72.s4) (F72.g4 (F72.p5 n0) data0 hi2 first3 root8 child9)
noncomputable def F72.t5 (n0 : Nat) (data0 hi2 first3 root8 child9 : Value) (ds : List Nat) (h : H) (K : KP) : Prop :=
  Bnd (aBin Try.prog false .add 3 first3 root8) fun t56 =>
  Bnd (aBin Try.prog false .add 3 first3 child9) fun t60 =>
  Bnd (aBin Try.prog false .add 3 first3 child9) fun t64 =>
  Bnd (aIndexAddr Try.prog 22 data0 t64) fun t65 =>
  Bnd (aLoad Try.prog 23 t65 h) fun t66 =>
  Bnd (aBin Try.prog false .add 3 first3 root8) fun t70 =>
  Bnd (aIndexAddr Try.prog 22 data0 t70) fun t71 =>
  Bnd (aLoad Try.prog 23 t71 h) fun t72 =>
  Bnd (aIndexAddr Try.prog 22 data0 t56) fun t73 =>
  Bnd (aStore Try.prog 23 t73 t66 h) fun h1 =>
  Bnd (aIndexAddr Try.prog 22 data0 t60) fun t74 =>
  Bnd (aStore Try.prog 23 t74 t72 h1) fun h2 =>
  K .normal [(0, data0), (2, hi2), (3, first3), (9, child9), (75, child9), (8, child9)] ds h2
theorem F72.g5 {n0 : Nat} (data0 hi2 first3 root8 child9 : Value) {ds : List Nat} {h : H} {K : KP} : wA Try.prog n0 76 none F72.c5 [(0, data0), (2, hi2), (3, first3), (8, root8), (9, child9)] ds h K = F72.t5 n0 data0 hi2 first3 root8 child9 ds h K := by kernel_rfl
theorem F72.s5 {n0 : Nat} : F72.p5 n0 = wA Try.prog n0 76 none F72.c5 := by kernel_rfl
theorem F72.e5 {n0 : Nat} {data0 hi2 first3 root8 child9 : Value} {ds : List Nat} {h : H} {K : KP} : F72.p5 n0 [(0, data0), (2, hi2), (3, first3), (8, root8), (9, child9)] ds h K = F72.t5 n0 data0 hi2 first3 root8 child9 ds h K :=
  wchain (F72.s5) (F72.g5 data0 hi2 first3 root8 child9)
theorem F72.b : Try.f72.body = some F72.c0.erase := by kernel_rfl
theorem F72.b2 : (Try.f72.name == "runtime.NumGoroutine") = false := by kernel_rfl
theorem F72.b3 : Try.f72.ntmps = 76 := by kernel_rfl
theorem F72.b4 : Try.f72.results.toList = [] := by kernel_rfl
theorem F72.enter {n0 : Nat} {x0 x1 x2 x3 : Value} {h : H} {Q : Value → H → Prop} (w : F72.p0 n0 [(0, x0), (1, x1), (2, x2), (3, x3)] [] h (KFin Try.prog [] Q)) : Cn Try.prog n0 (.func 72) [x0, x1, x2, x3] h Q :=
  @fn_enter Try.prog n0 mixed 72 Try.f72 F72.c0 [x0, x1, x2, x3] h Q Try.func72 F72.b F72.k0 F72.b2 76 F72.b3 [] F72.b4 (by simp) [(0, x0), (1, x1), (2, x2), (3, x3)] rfl (wback F72.d0 w)

/-! slices.nextPowerOfTwo -/
noncomputable def F73.ac : AC := (ann (bodyOf Try.f73) [[0], [2]]).1
noncomputable def F73.c0 : AC := F73.ac
noncomputable def F73.p0 (n0 : Nat) : WP := wA Try.prog n0 7 none F73.c0
noncomputable def F73.t0 (n0 : Nat) (length0 : Value) (ds : List Nat) (h : H) (K : KP) : Prop :=
  Bnd2 (cvt Try.prog 3 61 length0 h) fun t4 h1 =>
  Cn Try.prog n0 (.func 60) [t4] h1 fun t5 h2 =>
  Bnd (aBin Try.prog true .shl 61 (.int .u64 1) t5) fun t6 =>
  K .ret [(2, t6)] ds h2
theorem F73.g0 {n0 : Nat} (length0 : Value) {ds : List Nat} {h : H} {K : KP} : wA Try.prog n0 7 none F73.c0 [(0, length0)] ds h K = F73.t0 n0 length0 ds h K := by kernel_rfl
theorem F73.s0 {n0 : Nat} : F73.p0 n0 = wA Try.prog n0 7 none F73.c0 := by kernel_rfl
theorem F73.e0 {n0 : Nat} {length0 : Value} {ds : List Nat} {h : H} {K : KP} : F73.p0 n0 [(0, length0)] ds h K = F73.t0 n0 length0 ds h K :=
  wchain (F73.s0) (F73.g0 length0)
theorem F73.k0 : F73.c0.ok = true := by kernel_rfl
theorem F73.d0 {n0 : Nat} : F73.p0 n0 = wA Try.prog n0 7 none F73.c0 := by kernel_rfl
theorem F73.m0 (n0 : Nat) : MonoW (F73.p0 n0) := @mono_c Try.prog n0 7 none F73.c0 (F73.p0 n0) (F73.d0) F73.k0
theorem F73.b : Try.f73.body = some F73.c0.erase := by kernel_rfl
theorem F73.b2 : (Try.f73.name == "runtime.NumGoroutine") = false := by kernel_rfl
theorem F73.b3 : Try.f73.ntmps = 7 := by kernel_rfl
theorem F73.b4 : Try.f73.results.toList = [.tmp 2] := by kernel_rfl
theorem F73.enter {n0 : Nat} {x0 : Value} {h : H} {Q : Value → H → Prop} (w : F73.p0 n0 [(0, x0)] [] h (KFin Try.prog [.tmp 2] Q)) : Cn Try.prog n0 (.func 73) [x0] h Q :=
  @fn_enter Try.prog n0 mixed 73 Try.f73 F73.c0 [x0] h Q Try.func73 F73.b F73.k0 F73.b2 7 F73.b3 [.tmp 2] F73.b4 (by simp) [(0, x0)] rfl (wback F73.d0 w)

/-! (*slices.xorshift).Next -/
noncomputable def F74.ac : AC := (ann (bodyOf Try.f74) [[0], [0], [0], [0], [2]]).1
noncomputable def F74.c0 : AC := F74.ac
noncomputable def F74.p0 (n0 : Nat) : WP := wA Try.prog n0 33 none F74.c0
noncomputable def F74.t0 (n0 : Nat) (r0 : Value) (ds : List Nat) (h : H) (K : KP) : Prop :=
  NilC r0 <|
  Bnd (aLoad Try.prog 76 r0 h) fun t5 =>
  NilC r0 <|
  Bnd (aLoad Try.prog 76 r0 h) fun t8 =>
  Bnd (aBin Try.prog true .shl 76 t8 (.int .u64 13)) fun t9 =>
  Bnd (aBin Try.prog false .xor 76 t5 t9) fun t10 =>
  NilC r0 <|
  Bnd (aStore Try.prog 76 r0 t10 h) fun h1 =>
  NilC r0 <|
  Bnd (aLoad Try.prog 76 r0 h1) fun t14 =>
  NilC r0 <|
  Bnd (aLoad Try.prog 76 r0 h1) fun t17 =>
  Bnd (aBin Try.prog true .shr 76 t17 (.int .u64 7)) fun t18 =>
  Bnd (aBin Try.prog false .xor 76 t14 t18) fun t19 =>
  NilC r0 <|
  Bnd (aStore Try.prog 76 r0 t19 h1) fun h2 =>
  NilC r0 <|
  Bnd (aLoad Try.prog 76 r0 h2) fun t23 =>
  NilC r0 <|
  Bnd (aLoad Try.prog 76 r0 h2) fun t26 =>
  Bnd (aBin Try.prog true .shl 76 t26 (.int .u64 17)) fun t27 =>
  Bnd (aBin Try.prog false .xor 76 t23 t27) fun t28 =>
  NilC r0 <|
  Bnd (aStore Try.prog 76 r0 t28 h2) fun h3 =>
  NilC r0 <|
  Bnd (aLoad Try.prog 76 r0 h3) fun t32 =>
  K .ret [(2, t32)] ds h3
theorem F74.g0 {n0 : Nat} (r0 : Value) {ds : List Nat} {h : H} {K : KP} : wA Try.prog n0 33 none F74.c0 [(0, r0)] ds h K = F74.t0 n0 r0 ds h K := by kernel_rfl
theorem F74.s0 {n0 : Nat} : F74.p0 n0 = wA Try.prog n0 33 none F74.c0 := by kernel_rfl
theorem F74.e0 {n0 : Nat} {r0 : Value} {ds : List Nat} {h : H} {K : KP} : F74.p0 n0 [(0, r0)] ds h K = F74.t0 n0 r0 ds h K :=
  wchain (F74.s0) (F74.g0 r0)
theorem F74.k0 : F74.c0.ok = true := by kernel_rfl
theorem F74.d0 {n0 : Nat} : F74.p0 n0 = wA Try.prog n0 33 none F74.c0 := by kernel_rfl
theorem F74.m0 (n0 : Nat) : MonoW (F74.p0 n0) := @mono_c Try.prog n0 33 none F74.c0 (F74.p0 n0) (F74.d0) F74.k0
theorem F74.b : Try.f74.body = some F74.c0.erase := by kernel_rfl
theorem F74.b2 : (Try.f74.name == "runtime.NumGoroutine") = false := by kernel_rfl
theorem F74.b3 : Try.f74.ntmps = 33 := by kernel_rfl
theorem F74.b4 : Try.f74.results.toList = [.tmp 2] := by kernel_rfl
theorem F74.enter {n0 : Nat} {x0 : Value} {h : H} {Q : Value → H → Prop} (w : F74.p0 n0 [(0, x0)] [] h (KFin Try.prog [.tmp 2] Q)) : Cn Try.prog n0 (.func 74) [x0] h Q :=
  @fn_enter Try.prog n0 mixed 74 Try.f74 F74.c0 [x0] h Q Try.func74 F74.b F74.k0 F74.b2 33 F74.b3 [.tmp 2] F74.b4 (by simp) [(0, x0)] rfl (wback F74.d0 w)

/-! slices.medianAdjacentOrdered[uint64] -/
noncomputable def F75.ac : AC := (ann (bodyOf Try.f75) [[0, 1, 2], [6]]).1
noncomputable def F75.c0 : AC := F75.ac
noncomputable def F75.p0 (n0 : Nat) : WP := wA Try.prog n0 15 none F75.c0
noncomputable def F75.t0 (n0 : Nat) (data0 a1 swaps2 : Value) (ds : List Nat) (h : H) (K : KP) : Prop :=
  Bnd (aBin Try.prog true .sub 3 a1 (.int .i64 1)) fun t9 =>
  Bnd (aBin Try.prog true .add 3 a1 (.int .i64 1)) fun t12 =>
  Cn Try.prog n0 (.func 76) [data0, t9, a1, t12, swaps2] h fun t14 h1 =>
  K .ret [(6, t14)] ds h1
theorem F75.g0 {n0 : Nat} (data0 a1 swaps2 : Value) {ds : List Nat} {h : H} {K : KP} : wA Try.prog n0 15 none F75.c0 [(0, data0), (1, a1), (2, swaps2)] ds h K = F75.t0 n0 data0 a1 swaps2 ds h K := by kernel_rfl
theorem F75.s0 {n0 : Nat} : F75.p0 n0 = wA Try.prog n0 15 none F75.c0 := by kernel_rfl
theorem F75.e0 {n0 : Nat} {data0 a1 swaps2 : Value} {ds : List Nat} {h : H} {K : KP} : F75.p0 n0 [(0, data0), (1, a1), (2, swaps2)] ds h K = F75.t0 n0 data0 a1 swaps2 ds h K :=
  wchain (F75.s0) (F75.g0 data0 a1 swaps2)
theorem F75.k0 : F75.c0.ok = true := by kernel_rfl
theorem F75.d0 {n0 : Nat} : F75.p0 n0 = wA Try.prog n0 15 none F75.c0 := by kernel_rfl
theorem F75.m0 (n0 : Nat) : MonoW (F75.p0 n0) := @mono_c Try.prog n0 15 none F75.c0 (F75.p0 n0) (F75.d0) F75.k0
theorem F75.b : Try.f75.body = some F75.c0.erase := by kernel_rfl
theorem F75.b2 : (Try.f75.name == "runtime.NumGoroutine") = false := by kernel_rfl
theorem F75.b3 : Try.f75.ntmps = 15 := by kernel_rfl
theorem F75.b4 : Try.f75.results.toList = [.tmp 6] := by kernel_rfl
theorem F75.enter {n0 : Nat} {x0 x1 x2 : Value} {h : H} {Q : Value → H → Prop} (w : F75.p0 n0 [(0, x0), (1, x1), (2, x2)] [] h (KFin Try.prog [.tmp 6] Q)) : Cn Try.prog n0 (.func 75) [x0, x1, x2] h Q :=
  @fn_enter Try.prog n0 mixed 75 Try.f75 F75.c0 [x0, x1, x2] h Q Try.func75 F75.b F75.k0 F75.b2 15 F75.b3 [.tmp 6] F75.b4 (by simp) [(0, x0), (1, x1), (2, x2)] rfl (wback F75.d0 w)

/-! slices.medianOrdered[uint64] -/
noncomputable def F76.ac : AC := (ann (bodyOf Try.f76) [[0, 1, 2, 3, 4], [0, 1, 2, 3, 4], [0, 1, 2, 4], [2], [10]]).1
noncomputable def F76.c0 : AC := F76.ac
noncomputable def F76.p0 (n0 : Nat) : WP := wA Try.prog n0 36 none F76.c0
noncomputable def F76.t0 (n0 : Nat) (data0 a1 b2 c3 swaps4 : Value) (ds : List Nat) (h : H) (K : KP) : Prop :=
  Cn Try.prog n0 (.func 78) [data0, a1, b2, swaps4] h fun t16 h1 =>
  Bnd (tupAt t16 0) fun t17 =>
  Bnd (tupAt t16 1) fun t18 =>
  Cn Try.prog n0 (.func 78) [data0, t18, c3, swaps4] h1 fun t24 h2 =>
  Bnd (tupAt t24 0) fun t25 =>
  Bnd (tupAt t24 1) fun t26 =>
  Cn Try.prog n0 (.func 78) [data0, t17, t25, swaps4] h2 fun t32 h3 =>
  Bnd (tupAt t32 0) fun t33 =>
  Bnd (tupAt t32 1) fun t34 =>
  K .ret [(10, t34)] ds h3
theorem F76.g0 {n0 : Nat} (data0 a1 b2 c3 swaps4 : Value) {ds : List Nat} {h : H} {K : KP} : wA Try.prog n0 36 none F76.c0 [(0, data0), (1, a1), (2, b2), (3, c3), (4, swaps4)] ds h K = F76.t0 n0 data0 a1 b2 c3 swaps4 ds h K := by kernel_rfl
theorem F76.s0 {n0 : Nat} : F76.p0 n0 = wA Try.prog n0 36 none F76.c0 := by kernel_rfl
theorem F76.e0 {n0 : Nat} {data0 a1 b2 c3 swaps4 : Value} {ds : List Nat} {h : H} {K : KP} : F76.p0 n0 [(0, data0), (1, a1), (2, b2), (3, c3), (4, swaps4)] ds h K = F76.t0 n0 data0 a1 b2 c3 swaps4 ds h K :=
  wchain (F76.s0) (F76.g0 data0 a1 b2 c3 swaps4)
theorem F76.k0 : F76.c0.ok = true := by kernel_rfl
theorem F76.d0 {n0 : Nat} : F76.p0 n0 = wA Try.prog n0 36 none F76.c0 := by kernel_rfl
theorem F76.m0 (n0 : Nat) : MonoW (F76.p0 n0) := @mono_c Try.prog n0 36 none F76.c0 (F76.p0 n0) (F76.d0) F76.k0
theorem F76.b : Try.f76.body = some F76.c0.erase := by kernel_rfl
theorem F76.b2 : (Try.f76.name == "runtime.NumGoroutine") = false := by kernel_rfl
theorem F76.b3 : Try.f76.ntmps = 36 := by kernel_rfl
theorem F76.b4 : Try.f76.results.toList = [.tmp 10] := by kernel_rfl
theorem F76.enter {n0 : Nat} {x0 x1 x2 x3 x4 : Value} {h : H} {Q : Value → H → Prop} (w : F76.p0 n0 [(0, x0), (1, x1), (2, x2), (3, x3), (4, x4)] [] h (KFin Try.prog [.tmp 10] Q)) : Cn Try.prog n0 (.func 76) [x0, x1, x2, x3, x4] h Q :=
  @fn_enter Try.prog n0 mixed 76 Try.f76 F76.c0 [x0, x1, x2, x3, x4] h Q Try.func76 F76.b F76.k0 F76.b2 36 F76.b3 [.tmp 10] F76.b4 (by simp) [(0, x0), (1, x1), (2, x2), (3, x3), (4, x4)] rfl (wback F76.d0 w)

/-! cmp.isNaN[uint64] -/
noncomputable def F77.ac : AC := (ann (bodyOf Try.f77) [[0], [2]]).1
noncomputable def F77.c0 : AC := F77.ac
noncomputable def F77.p0 (n0 : Nat) : WP := wA Try.prog n0 6 none F77.c0
noncomputable def F77.t0 (n0 : Nat) (x0 : Value) (ds : List Nat) (h : H) (K : KP) : Prop :=
  Bnd (aBin Try.prog false .neq 23 x0 x0) fun t5 =>
  K .ret [(2, t5)] ds h
theorem F77.g0 {n0 : Nat} (x0 : Value) {ds : List Nat} {h : H} {K : KP} : wA Try.prog n0 6 none F77.c0 [(0, x0)] ds h K = F77.t0 n0 x0 ds h K := by kernel_rfl
theorem F77.s0 {n0 : Nat} : F77.p0 n0 = wA Try.prog n0 6 none F77.c0 := by kernel_rfl
theorem F77.e0 {n0 : Nat} {x0 : Value} {ds : List Nat} {h : H} {K : KP} : F77.p0 n0 [(0, x0)] ds h K = F77.t0 n0 x0 ds h K :=
  wchain (F77.s0) (F77.g0 x0)
theorem F77.k0 : F77.c0.ok = true := by kernel_rfl
theorem F77.d0 {n0 : Nat} : F77.p0 n0 = wA Try.prog n0 6 none F77.c0 := by kernel_rfl
theorem F77.m0 (n0 : Nat) : MonoW (F77.p0 n0) := @mono_c Try.prog n0 6 none F77.c0 (F77.p0 n0) (F77.d0) F77.k0
theorem F77.b : Try.f77.body = some F77.c0.erase := by kernel_rfl
theorem F77.b2 : (Try.f77.name == "runtime.NumGoroutine") = false := by kernel_rfl
theorem F77.b3 : Try.f77.ntmps = 6 := by kernel_rfl
theorem F77.b4 : Try.f77.results.toList = [.tmp 2] := by kernel_rfl
theorem F77.enter {n0 : Nat} {x0 : Value} {h : H} {Q : Value → H → Prop} (w : F77.p0 n0 [(0, x0)] [] h (KFin Try.prog [.tmp 2] Q)) : Cn Try.prog n0 (.func 77) [x0] h Q :=
  @fn_enter Try.prog n0 mixed 77 Try.f77 F77.c0 [x0] h Q Try.func77 F77.b F77.k0 F77.b2 6 F77.b3 [.tmp 2] F77.b4 (by simp) [(0, x0)] rfl (wback F77.d0 w)

/-! slices.order2Ordered[uint64] -/
noncomputable def F78.ac : AC := (ann (bodyOf Try.f78) [[0, 1, 2, 3], [1, 2], [1, 2, 3, 18], [1, 2, 3], [1, 2], [8, 9], [8, 9]]).1
noncomputable def F78.c0 : AC := F78.ac
noncomputable def F78.c1 : AC := F78.ac.snd.fst.snd.fst
noncomputable def F78.c2 : AC := F78.ac.snd.snd
noncomputable def F78.p0 (n0 : Nat) : WP := wA Try.prog n0 28 none F78.c0
noncomputable def F78.p1 (n0 : Nat) : WP := wA Try.prog n0 28 none F78.c1
noncomputable def F78.p2 (n0 : Nat) : WP := wA Try.prog n0 28 none F78.c2
noncomputable def F78.t0 (n0 : Nat) (B1 : WP) (B2 : WP) (data0 a1 b2 swaps3 : Value) (ds : List Nat) (h : H) (K : KP) : Prop :=
  Bnd (aIndexAddr Try.prog 22 data0 b2) fun t12 =>
  Bnd (aLoad Try.prog 23 t12 h) fun t13 =>
  Bnd (aIndexAddr Try.prog 22 data0 a1) fun t16 =>
  Bnd (aLoad Try.prog 23 t16 h) fun t17 =>
  Cn Try.prog n0 (.func 67) [t13, t17] h fun t18 h1 =>
  Cnd t18
   (B1 [(1, a1), (2, b2), (3, swaps3)] ds h1 (KSeq [1, 2] B2 K))
   (B2 [(1, a1), (2, b2)] ds h1 K)
theorem F78.g0 {n0 : Nat} (B1 : WP) (B2 : WP) (data0 a1 b2 swaps3 : Value) {ds : List Nat} {h : H} {K : KP} : wA Try.prog n0 28 none (.seq [0, 1, 2, 3] F78.c0.fst (.seq [1, 2] (.seq [1, 2, 3, 18] F78.c0.snd.fst.fst (.cond [1, 2, 3] (.tmp 18) (.sub B1) F78.c0.snd.fst.snd.snd)) (.sub B2))) [(0, data0), (1, a1), (2, b2), (3, swaps3)] ds h K = F78.t0 n0 B1 B2 data0 a1 b2 swaps3 ds h K := by kernel_rfl
theorem F78.s0 {n0 : Nat} : F78.p0 n0 = wA Try.prog n0 28 none (.seq [0, 1, 2, 3] F78.c0.fst (.seq [1, 2] (.seq [1, 2, 3, 18] F78.c0.snd.fst.fst (.cond [1, 2, 3] (.tmp 18) (.sub (F78.p1 n0)) F78.c0.snd.fst.snd.snd)) (.sub (F78.p2 n0)))) := by kernel_rfl
theorem F78.e0 {n0 : Nat} {data0 a1 b2 swaps3 : Value} {ds : List Nat} {h : H} {K : KP} : F78.p0 n0 [(0, data0), (1, a1), (2, b2), (3, swaps3)] ds h K = F78.t0 n0 (F78.p1 n0) (F78.p2 n0) data0 a1 b2 swaps3 ds h K :=
  wchain (F78.s0) (F78.g0 (F78.p1 n0) (F78.p2 n0) data0 a1 b2 swaps3)
theorem F78.k0 : F78.c0.ok = true := by kernel_rfl
theorem F78.d0 {n0 : Nat} : F78.p0 n0 = wA Try.prog n0 28 none F78.c0 := by kernel_rfl
theorem F78.m0 (n0 : Nat) : MonoW (F78.p0 n0) := @mono_c Try.prog n0 28 none F78.c0 (F78.p0 n0) (F78.d0) F78.k0
noncomputable def F78.t1 (n0 : Nat) (a1 b2 swaps3 : Value) (ds : List Nat) (h : H) (K : KP) : Prop :=
  NilC swaps3 <|
  Bnd (aLoad Try.prog 3 swaps3 h) fun t21 =>
  Bnd (aBin Try.prog true .add 3 t21 (.int .i64 1)) fun t22 =>
  NilC swaps3 <|
  Bnd (aStore Try.prog 3 swaps3 t22 h) fun h1 =>
  K .ret [(8, b2), (9, a1)] ds h1
theorem F78.g1 {n0 : Nat} (a1 b2 swaps3 : Value) {ds : List Nat} {h : H} {K : KP} : wA Try.prog n0 28 none F78.c1 [(1, a1), (2, b2), (3, swaps3)] ds h K = F78.t1 n0 a1 b2 swaps3 ds h K := by kernel_rfl
theorem F78.s1 {n0 : Nat} : F78.p1 n0 = wA Try.prog n0 28 none F78.c1 := by kernel_rfl
theorem F78.e1 {n0 : Nat} {a1 b2 swaps3 : Value} {ds : List Nat} {h : H} {K : KP} : F78.p1 n0 [(1, a1), (2, b2), (3, swaps3)] ds h K = F78.t1 n0 a1 b2 swaps3 ds h K :=
  wchain (F78.s1) (F78.g1 a1 b2 swaps3)
noncomputable def F78.t2 (n0 : Nat) (a1 b2 : Value) (ds : List Nat) (h : H) (K : KP) : Prop :=
  K .ret [(8, a1), (9, b2)] ds h
theorem F78.g2 {n0 : Nat} (a1 b2 : Value) {ds : List Nat} {h : H} {K : KP} : wA Try.prog n0 28 none F78.c2 [(1, a1), (2, b2)] ds h K = F78.t2 n0 a1 b2 ds h K := by kernel_rfl
theorem F78.s2 {n0 : Nat} : F78.p2 n0 = wA Try.prog n0 28 none F78.c2 := by kernel_rfl
theorem F78.e2 {n0 : Nat} {a1 b2 : Value} {ds : List Nat} {h : H} {K : KP} : F78.p2 n0 [(1, a1), (2, b2)] ds h K = F78.t2 n0 a1 b2 ds h K :=
  wchain (F78.s2) (F78.g2 a1 b2)
theorem F78.b : Try.f78.body = some F78.c0.erase := by kernel_rfl
theorem F78.b2 : (Try.f78.name == "runtime.NumGoroutine") = false := by kernel_rfl
theorem F78.b3 : Try.f78.ntmps = 28 := by kernel_rfl
theorem F78.b4 : Try.f78.results.toList = [.tmp 8, .tmp 9] := by kernel_rfl
theorem F78.enter {n0 : Nat} {x0 x1 x2 x3 : Value} {h : H} {Q : Value → H → Prop} (w : F78.p0 n0 [(0, x0), (1, x1), (2, x2), (3, x3)] [] h (KFin Try.prog [.tmp 8, .tmp 9] Q)) : Cn Try.prog n0 (.func 78) [x0, x1, x2, x3] h Q :=
  @fn_enter Try.prog n0 mixed 78 Try.f78 F78.c0 [x0, x1, x2, x3] h Q Try.func78 F78.b F78.k0 F78.b2 28 F78.b3 [.tmp 8, .tmp 9] F78.b4 (by simp) [(0, x0), (1, x1), (2, x2), (3, x3)] rfl (wback F78.d0 w)

/-! math.bits.Len -/
noncomputable def F60.ac : AC := (ann (bodyOf Try.f60) [[0], [0], [0], [2], [2]]).1
noncomputable def F60.c0 : AC := F60.ac
noncomputable def F60.c1 : AC := F60.ac.snd.fst.fst
noncomputable def F60.c2 : AC := F60.ac.snd.snd
noncomputable def F60.p0 (n0 : Nat) : WP := wA Try.prog n0 8 none F60.c0
noncomputable def F60.p1 (n0 : Nat) : WP := wA Try.prog n0 8 none F60.c1
noncomputable def F60.p2 (n0 : Nat) : WP := wA Try.prog n0 8 none F60.c2
noncomputable def F60.t0 (n0 : Nat) (B1 : WP) (B2 : WP) (x0 : Value) (ds : List Nat) (h : H) (K : KP) : Prop :=
  B2 [(0, x0)] ds h K
theorem F60.g0 {n0 : Nat} (B1 : WP) (B2 : WP) (x0 : Value) {ds : List Nat} {h : H} {K : KP} : wA Try.prog n0 8 none (.seq [0] F60.c0.fst (.seq [0] (.cond [0] (.const (.bool false)) (.sub B1) F60.c0.snd.fst.snd) (.sub B2))) [(0, x0)] ds h K = F60.t0 n0 B1 B2 x0 ds h K := by kernel_rfl
theorem F60.s0 {n0 : Nat} : F60.p0 n0 = wA Try.prog n0 8 none (.seq [0] F60.c0.fst (.seq [0] (.cond [0] (.const (.bool false)) (.sub (F60.p1 n0)) F60.c0.snd.fst.snd) (.sub (F60.p2 n0)))) := by kernel_rfl
theorem F60.e0 {n0 : Nat} {x0 : Value} {ds : List Nat} {h : H} {K : KP} : F60.p0 n0 [(0, x0)] ds h K = F60.t0 n0 (F60.p1 n0) (F60.p2 n0) x0 ds h K :=
  wchain (F60.s0) (F60.g0 (F60.p1 n0) (F60.p2 n0) x0)
theorem F60.k0 : F60.c0.ok = true := by kernel_rfl
theorem F60.d0 {n0 : Nat} : F60.p0 n0 = wA Try.prog n0 8 none F60.c0 := by kernel_rfl
theorem F60.m0 (n0 : Nat) : MonoW (F60.p0 n0) := @mono_c Try.prog n0 8 none F60.c0 (F60.p0 n0) (F60.d0) F60.k0
noncomputable def F60.t1 (n0 : Nat) (x0 : Value) (ds : List Nat) (h : H) (K : KP) : Prop :=
  Bnd2 (cvt Try.prog 61 74 x0 h) fun t4 h1 =>
  Cn Try.prog n0 (.func 70) [t4] h1 fun t5 h2 =>
  K .ret [(2, t5)] ds h2
theorem F60.g1 {n0 : Nat} (x0 : Value) {ds : List Nat} {h : H} {K : KP} : wA Try.prog n0 8 none F60.c1 [(0, x0)] ds h K = F60.t1 n0 x0 ds h K := by kernel_rfl
theorem F60.s1 {n0 : Nat} : F60.p1 n0 = wA Try.prog n0 8 none F60.c1 := by kernel_rfl
theorem F60.e1 {n0 : Nat} {x0 : Value} {ds : List Nat} {h : H} {K : KP} : F60.p1 n0 [(0, x0)] ds h K = F60.t1 n0 x0 ds h K :=
  wchain (F60.s1) (F60.g1 x0)
noncomputable def F60.t2 (n0 : Nat) (x0 : Value) (ds : List Nat) (h : H) (K : KP) : Prop :=
  Cn Try.prog n0 (.func 71) [x0] h fun t7 h1 =>
  K .ret [(2, t7)] ds h1
theorem F60.g2 {n0 : Nat} (x0 : Value) {ds : List Nat} {h : H} {K : KP} : wA Try.prog n0 8 none F60.c2 [(0, x0)] ds h K = F60.t2 n0 x0 ds h K := by kernel_rfl
theorem F60.s2 {n0 : Nat} : F60.p2 n0 = wA Try.prog n0 8 none F60.c2 := by kernel_rfl
theorem F60.e2 {n0 : Nat} {x0 : Value} {ds : List Nat} {h : H} {K : KP} : F60.p2 n0 [(0, x0)] ds h K = F60.t2 n0 x0 ds h K :=
  wchain (F60.s2) (F60.g2 x0)
theorem F60.b : Try.f60.body = some F60.c0.erase := by kernel_rfl
theorem F60.b2 : (Try.f60.name == "runtime.NumGoroutine") = false := by kernel_rfl
theorem F60.b3 : Try.f60.ntmps = 8 := by kernel_rfl
theorem F60.b4 : Try.f60.results.toList = [.tmp 2] := by kernel_rfl
theorem F60.enter {n0 : Nat} {x0 : Value} {h : H} {Q : Value → H → Prop} (w : F60.p0 n0 [(0, x0)] [] h (KFin Try.prog [.tmp 2] Q)) : Cn Try.prog n0 (.func 60) [x0] h Q :=
  @fn_enter Try.prog n0 mixed 60 Try.f60 F60.c0 [x0] h Q Try.func60 F60.b F60.k0 F60.b2 8 F60.b3 [.tmp 2] F60.b4 (by simp) [(0, x0)] rfl (wback F60.d0 w)

/-! math.bits.Len32 -/
noncomputable def F70.ac : AC := (ann (bodyOf Try.f70) [[0, 2], [0, 2], [0, 2, 4], [0, 2], [0], [0, 2], [0, 2, 8], [0, 2], [0, 2], [2]]).1
noncomputable def F70.c0 : AC := F70.ac
noncomputable def F70.c1 : AC := F70.ac.snd.fst.snd.fst
noncomputable def F70.c2 : AC := F70.ac.snd.snd
noncomputable def F70.c3 : AC := F70.ac.snd.snd.fst.snd.fst
noncomputable def F70.c4 : AC := F70.ac.snd.snd.snd
noncomputable def F70.p0 (n0 : Nat) : WP := wA Try.prog n0 19 none F70.c0
noncomputable def F70.p1 (n0 : Nat) : WP := wA Try.prog n0 19 none F70.c1
noncomputable def F70.p2 (n0 : Nat) : WP := wA Try.prog n0 19 none F70.c2
noncomputable def F70.p3 (n0 : Nat) : WP := wA Try.prog n0 19 none F70.c3
noncomputable def F70.p4 (n0 : Nat) : WP := wA Try.prog n0 19 none F70.c4
noncomputable def F70.t0 (n0 : Nat) (B1 : WP) (B2 : WP) (x0 : Value) (ds : List Nat) (h : H) (K : KP) : Prop :=
  Bnd (aBin Try.prog true .geq 74 x0 (.int .u32 65536)) fun t4 =>
  Cnd t4
   (B1 [(0, x0), (2, (.int .i64 0))] ds h (KSeq [0, 2] B2 K))
   (B2 [(0, x0), (2, (.int .i64 0))] ds h K)
theorem F70.g0 {n0 : Nat} (B1 : WP) (B2 : WP) (x0 : Value) {ds : List Nat} {h : H} {K : KP} : wA Try.prog n0 19 none (.seq [0, 2] F70.c0.fst (.seq [0, 2] (.seq [0, 2, 4] F70.c0.snd.fst.fst (.cond [0, 2] (.tmp 4) (.sub B1) F70.c0.snd.fst.snd.snd)) (.sub B2))) [(0, x0)] ds h K = F70.t0 n0 B1 B2 x0 ds h K := by kernel_rfl
theorem F70.s0 {n0 : Nat} : F70.p0 n0 = wA Try.prog n0 19 none (.seq [0, 2] F70.c0.fst (.seq [0, 2] (.seq [0, 2, 4] F70.c0.snd.fst.fst (.cond [0, 2] (.tmp 4) (.sub (F70.p1 n0)) F70.c0.snd.fst.snd.snd)) (.sub (F70.p2 n0)))) := by kernel_rfl
theorem F70.e0 {n0 : Nat} {x0 : Value} {ds : List Nat} {h : H} {K : KP} : F70.p0 n0 [(0, x0)] ds h K = F70.t0 n0 (F70.p1 n0) (F70.p2 n0) x0 ds h K :=
  wchain (F70.s0) (F70.g0 (F70.p1 n0) (F70.p2 n0) x0)
theorem F70.k0 : F70.c0.ok = true := by kernel_rfl
theorem F70.d0 {n0 : Nat} : F70.p0 n0 = wA Try.prog n0 19 none F70.c0 := by kernel_rfl
theorem F70.m0 (n0 : Nat) : MonoW (F70.p0 n0) := @mono_c Try.prog n0 19 none F70.c0 (F70.p0 n0) (F70.d0) F70.k0
noncomputable def F70.t1 (n0 : Nat) (x0 n2 : Value) (ds : List Nat) (h : H) (K : KP) : Prop :=
  Bnd (aBin Try.prog true .shr 74 x0 (.int .u64 16)) fun t6 =>
  K .normal [(0, t6), (2, (.int .i64 16))] ds h
theorem F70.g1 {n0 : Nat} (x0 n2 : Value) {ds : List Nat} {h : H} {K : KP} : wA Try.prog n0 19 none F70.c1 [(0, x0), (2, n2)] ds h K = F70.t1 n0 x0 n2 ds h K := by kernel_rfl
theorem F70.s1 {n0 : Nat} : F70.p1 n0 = wA Try.prog n0 19 none F70.c1 := by kernel_rfl
theorem F70.e1 {n0 : Nat} {x0 n2 : Value} {ds : List Nat} {h : H} {K : KP} : F70.p1 n0 [(0, x0), (2, n2)] ds h K = F70.t1 n0 x0 n2 ds h K :=
  wchain (F70.s1) (F70.g1 x0 n2)
noncomputable def F70.t2 (n0 : Nat) (B3 : WP) (B4 : WP) (x0 n2 : Value) (ds : List Nat) (h : H) (K : KP) : Prop :=
  Bnd (aBin Try.prog true .geq 74 x0 (.int .u32 256)) fun t8 =>
  Cnd t8
   (B3 [(0, x0), (2, n2)] ds h (KSeq [0, 2] B4 K))
   (B4 [(0, x0), (2, n2)] ds h K)
theorem F70.g2 {n0 : Nat} (B3 : WP) (B4 : WP) (x0 n2 : Value) {ds : List Nat} {h : H} {K : KP} : wA Try.prog n0 19 none (.seq [0, 2] (.seq [0, 2, 8] F70.c2.fst.fst (.cond [0, 2] (.tmp 8) (.sub B3) F70.c2.fst.snd.snd)) (.sub B4)) [(0, x0), (2, n2)] ds h K = F70.t2 n0 B3 B4 x0 n2 ds h K := by kernel_rfl
theorem F70.s2 {n0 : Nat} : F70.p2 n0 = wA Try.prog n0 19 none (.seq [0, 2] (.seq [0, 2, 8] F70.c2.fst.fst (.cond [0, 2] (.tmp 8) (.sub (F70.p3 n0)) F70.c2.fst.snd.snd)) (.sub (F70.p4 n0))) := by kernel_rfl
theorem F70.e2 {n0 : Nat} {x0 n2 : Value} {ds : List Nat} {h : H} {K : KP} : F70.p2 n0 [(0, x0), (2, n2)] ds h K = F70.t2 n0 (F70.p3 n0) (F70.p4 n0) x0 n2 ds h K :=
  wchain (F70.s2) (F70.g2 (F70.p3 n0) (F70.p4 n0) x0 n2)
noncomputable def F70.t3 (n0 : Nat) (x0 n2 : Value) (ds : List Nat) (h : H) (K : KP) : Prop :=
  Bnd (aBin Try.prog true .shr 74 x0 (.int .u64 8)) fun t10 =>
  Bnd (aBin Try.prog true .add 3 n2 (.int .i64 8)) fun t12 =>
  K .normal [(0, t10), (2, t12), (11, n2), (12, t12)] ds h
theorem F70.g3 {n0 : Nat} (x0 n2 : Value) {ds : List Nat} {h : H} {K : KP} : wA Try.prog n0 19 none F70.c3 [(0, x0), (2, n2)] ds h K = F70.t3 n0 x0 n2 ds h K := by kernel_rfl
theorem F70.s3 {n0 : Nat} : F70.p3 n0 = wA Try.prog n0 19 none F70.c3 := by kernel_rfl
theorem F70.e3 {n0 : Nat} {x0 n2 : Value} {ds : List Nat} {h : H} {K : KP} : F70.p3 n0 [(0, x0), (2, n2)] ds h K = F70.t3 n0 x0 n2 ds h K :=
  wchain (F70.s3) (F70.g3 x0 n2)
noncomputable def F70.t4 (n0 : Nat) (x0 n2 : Value) (ds : List Nat) (h : H) (K : KP) : Prop :=
  Bnd2 (cvt Try.prog 74 5 x0 h) fun t15 h1 =>
  Bnd (aIndex Try.prog 9 (.string ⟨#[0, 1, 2, 2, 3, 3, 3, 3, 4, 4, 4, 4, 4, 4, 4, 4, 5, 5, 5, 5, 5, 5, 5, 5, 5, 5, 5, 5, 5, 5, 5, 5, 6, 6, 6, 6, 6, 6, 6, 6, 6, 6, 6, 6, 6, 6, 6, 6, 6, 6, 6, 6, 6, 6, 6, 6, 6, 6, 6, 6, 6, 6, 6, 6, 7, 7, 7, 7, 7, 7, 7, 7, 7, 7, 7, 7, 7, 7, 7, 7, 7, 7, 7, 7, 7, 7, 7, 7, 7, 7, 7, 7, 7, 7, 7, 7, 7, 7, 7, 7, 7, 7, 7, 7, 7, 7, 7, 7, 7, 7, 7, 7, 7, 7, 7, 7, 7, 7, 7, 7, 7, 7, 7, 7, 7, 7, 7, 7, 8, 8, 8, 8, 8, 8, 8, 8, 8, 8, 8, 8, 8, 8, 8, 8, 8, 8, 8, 8, 8, 8, 8, 8, 8, 8, 8, 8, 8, 8, 8, 8, 8, 8, 8, 8, 8, 8, 8, 8, 8, 8, 8, 8, 8, 8, 8, 8, 8, 8, 8, 8, 8, 8, 8, 8, 8, 8, 8, 8, 8, 8, 8, 8, 8, 8, 8, 8, 8, 8, 8, 8, 8, 8, 8, 8, 8, 8, 8, 8, 8, 8, 8, 8, 8, 8, 8, 8, 8, 8, 8, 8, 8, 8, 8, 8, 8, 8, 8, 8, 8, 8, 8, 8, 8, 8, 8, 8, 8, 8, 8, 8, 8, 8, 8, 8, 8, 8, 8, 8, 8, 8, 8, 8, 8, 8, 8, 8]⟩) t15) fun t16 =>
  Bnd2 (cvt Try.prog 5 3 t16 h1) fun t17 h2 =>
  Bnd (aBin Try.prog false .add 3 n2 t17) fun t18 =>
  K .ret [(2, t18)] ds h2
theorem F70.g4 {n0 : Nat} (x0 n2 : Value) {ds : List Nat} {h : H} {K : KP} : wA Try.prog n0 19 none F70.c4 [(0, x0), (2, n2)] ds h K = F70.t4 n0 x0 n2 ds h K := by kernel_rfl
theorem F70.s4 {n0 : Nat} : F70.p4 n0 = wA Try.prog n0 19 none F70.c4 := by kernel_rfl
theorem F70.e4 {n0 : Nat} {x0 n2 : Value} {ds : List Nat} {h : H} {K : KP} : F70.p4 n0 [(0, x0), (2, n2)] ds h K = F70.t4 n0 x0 n2 ds h K :=
  wchain (F70.s4) (F70.g4 x0 n2)
theorem F70.b : Try.f70.body = some F70.c0.erase := by kernel_rfl
theorem F70.b2 : (Try.f70.name == "runtime.NumGoroutine") = false := by kernel_rfl
theorem F70.b3 : Try.f70.ntmps = 19 := by kernel_rfl
theorem F70.b4 : Try.f70.results.toList = [.tmp 2] := by kernel_rfl
theorem F70.enter {n0 : Nat} {x0 : Value} {h : H} {Q : Value → H → Prop} (w : F70.p0 n0 [(0, x0)] [] h (KFin Try.prog [.tmp 2] Q)) : Cn Try.prog n0 (.func 70) [x0] h Q :=
  @fn_enter Try.prog n0 mixed 70 Try.f70 F70.c0 [x0] h Q Try.func70 F70.b F70.k0 F70.b2 19 F70.b3 [.tmp 2] F70.b4 (by simp) [(0, x0)] rfl (wback F70.d0 w)

/-! math.bits.Len64 -/
noncomputable def F71.ac : AC := (ann (bodyOf Try.f71) [[0, 2], [0, 2], [0, 2, 4], [0, 2], [0], [0, 2], [0, 2, 8], [0, 2], [0, 2], [0, 2], [0, 2, 14], [0, 2], [0, 2], [2]]).1
noncomputable def F71.c0 : AC := F71.ac
noncomputable def F71.c1 : AC := F71.ac.snd.fst.snd.fst
noncomputable def F71.c2 : AC := F71.ac.snd.snd
noncomputable def F71.c3 : AC := F71.ac.snd.snd.fst.snd.fst
noncomputable def F71.c4 : AC := F71.ac.snd.snd.snd
noncomputable def F71.c5 : AC := F71.ac.snd.snd.snd.fst.snd.fst
noncomputable def F71.c6 : AC := F71.ac.snd.snd.snd.snd
noncomputable def F71.p0 (n0 : Nat) : WP := wA Try.prog n0 25 none F71.c0
noncomputable def F71.p1 (n0 : Nat) : WP := wA Try.prog n0 25 none F71.c1
noncomputable def F71.p2 (n0 : Nat) : WP := wA Try.prog n0 25 none F71.c2
noncomputable def F71.p3 (n0 : Nat) : WP := wA Try.prog n0 25 none F71.c3
noncomputable def F71.p4 (n0 : Nat) : WP := wA Try.prog n0 25 none F71.c4
noncomputable def F71.p5 (n0 : Nat) : WP := wA Try.prog n0 25 none F71.c5
noncomputable def F71.p6 (n0 : Nat) : WP := wA Try.prog n0 25 none F71.c6
noncomputable def F71.t0 (n0 : Nat) (B1 : WP) (B2 : WP) (x0 : Value) (ds : List Nat) (h : H) (K : KP) : Prop :=
  Bnd (aBin Try.prog true .geq 23 x0 (.int .u64 4294967296)) fun t4 =>
  Cnd t4
   (B1 [(0, x0), (2, (.int .i64 0))] ds h (KSeq [0, 2] B2 K))
   (B2 [(0, x0), (2, (.int .i64 0))] ds h K)
theorem F71.g0 {n0 : Nat} (B1 : WP) (B2 : WP) (x0 : Value) {ds : List Nat} {h : H} {K : KP} : wA Try.prog n0 25 none (.seq [0, 2] F71.c0.fst (.seq [0, 2] (.seq [0, 2, 4] F71.c0.snd.fst.fst (.cond [0, 2] (.tmp 4) (.sub B1) F71.c0.snd.fst.snd.snd)) (.sub B2))) [(0, x0)] ds h K = F71.t0 n0 B1 B2 x0 ds h K := by kernel_rfl
theorem F71.s0 {n0 : Nat} : F71.p0 n0 = wA Try.prog n0 25 none (.seq [0, 2] F71.c0.fst (.seq [0, 2] (.seq [0, 2, 4] F71.c0.snd.fst.fst (.cond [0, 2] (.tmp 4) (.sub (F71.p1 n0)) F71.c0.snd.fst.snd.snd)) (.sub (F71.p2 n0)))) := by kernel_rfl
theorem F71.e0 {n0 : Nat} {x0 : Value} {ds : List Nat} {h : H} {K : KP} : F71.p0 n0 [(0, x0)] ds h K = F71.t0 n0 (F71.p1 n0) (F71.p2 n0) x0 ds h K :=
  wchain (F71.s0) (F71.g0 (F71.p1 n0) (F71.p2 n0) x0)
theorem F71.k0 : F71.c0.ok = true := by kernel_rfl
theorem F71.d0 {n0 : Nat} : F71.p0 n0 = wA Try.prog n0 25 none F71.c0 := by kernel_rfl
theorem F71.m0 (n0 : Nat) : MonoW (F71.p0 n0) := @mono_c Try.prog n0 25 none F71.c0 (F71.p0 n0) (F71.d0) F71.k0
noncomputable def F71.t1 (n0 : Nat) (x0 n2 : Value) (ds : List Nat) (h : H) (K : KP) : Prop :=
  Bnd (aBin Try.prog true .shr 23 x0 (.int .u64 32)) fun t6 =>
  K .normal [(0, t6), (2, (.int .i64 32))] ds h
theorem F71.g1 {n0 : Nat} (x0 n2 : Value) {ds : List Nat} {h : H} {K : KP} : wA Try.prog n0 25 none F71.c1 [(0, x0), (2, n2)] ds h K = F71.t1 n0 x0 n2 ds h K := by kernel_rfl
theorem F71.s1 {n0 : Nat} : F71.p1 n0 = wA Try.prog n0 25 none F71.c1 := by kernel_rfl
theorem F71.e1 {n0 : Nat} {x0 n2 : Value} {ds : List Nat} {h : H} {K : KP} : F71.p1 n0 [(0, x0), (2, n2)] ds h K = F71.t1 n0 x0 n2 ds h K :=
  wchain (F71.s1) (F71.g1 x0 n2)
noncomputable def F71.t2 (n0 : Nat) (B3 : WP) (B4 : WP) (x0 n2 : Value) (ds : List Nat) (h : H) (K : KP) : Prop :=
  Bnd (aBin Try.prog true .geq 23 x0 (.int .u64 65536)) fun t8 =>
  Cnd t8
   (B3 [(0, x0), (2, n2)] ds h (KSeq [0, 2] B4 K))
   (B4 [(0, x0), (2, n2)] ds h K)
theorem F71.g2 {n0 : Nat} (B3 : WP) (B4 : WP) (x0 n2 : Value) {ds : List Nat} {h : H} {K : KP} : wA Try.prog n0 25 none (.seq [0, 2] (.seq [0, 2, 8] F71.c2.fst.fst (.cond [0, 2] (.tmp 8) (.sub B3) F71.c2.fst.snd.snd)) (.sub B4)) [(0, x0), (2, n2)] ds h K = F71.t2 n0 B3 B4 x0 n2 ds h K := by kernel_rfl
theorem F71.s2 {n0 : Nat} : F71.p2 n0 = wA Try.prog n0 25 none (.seq [0, 2] (.seq [0, 2, 8] F71.c2.fst.fst (.cond [0, 2] (.tmp 8) (.sub (F71.p3 n0)) F71.c2.fst.snd.snd)) (.sub (F71.p4 n0))) := by kernel_rfl
theorem F71.e2 {n0 : Nat} {x0 n2 : Value} {ds : List Nat} {h : H} {K : KP} : F71.p2 n0 [(0, x0), (2, n2)] ds h K = F71.t2 n0 (F71.p3 n0) (F71.p4 n0) x0 n2 ds h K :=
  wchain (F71.s2) (F71.g2 (F71.p3 n0) (F71.p4 n0) x0 n2)
noncomputable def F71.t3 (n0 : Nat) (x0 n2 : Value) (ds : List Nat) (h : H) (K : KP) : Prop :=
  Bnd (aBin Try.prog true .shr 23 x0 (.int .u64 16)) fun t10 =>
  Bnd (aBin Try.prog true .add 3 n2 (.int .i64 16)) fun t12 =>
  K .normal [(0, t10), (2, t12), (11, n2), (12, t12)] ds h
theorem F71.g3 {n0 : Nat} (x0 n2 : Value) {ds : List Nat} {h : H} {K : KP} : wA Try.prog n0 25 none F71.c3 [(0, x0), (2, n2)] ds h K = F71.t3 n0 x0 n2 ds h K := by kernel_rfl
theorem F71.s3 {n0 : Nat} : F71.p3 n0 = wA Try.prog n0 25 none F71.c3 := by kernel_rfl
theorem F71.e3 {n0 : Nat} {x0 n2 : Value} {ds : List Nat} {h : H} {K : KP} : F71.p3 n0 [(0, x0), (2, n2)] ds h K = F71.t3 n0 x0 n2 ds h K :=
  wchain (F71.s3) (F71.g3 x0 n2)
noncomputable def F71.t4 (n0 : Nat) (B5 : WP) (B6 : WP) (x0 n2 : Value) (ds : List Nat) (h : H) (K : KP) : Prop :=
  Bnd (aBin Try.prog true .geq 23 x0 (.int .u64 256)) fun t14 =>
  Cnd t14
   (B5 [(0, x0), (2, n2)] ds h (KSeq [0, 2] B6 K))
   (B6 [(0, x0), (2, n2)] ds h K)
theorem F71.g4 {n0 : Nat} (B5 : WP) (B6 : WP) (x0 n2 : Value) {ds : List Nat} {h : H} {K : KP} : wA Try.prog n0 25 none (.seq [0, 2] (.seq [0, 2, 14] F71.c4.fst.fst (.cond [0, 2] (.tmp 14) (.sub B5) F71.c4.fst.snd.snd)) (.sub B6)) [(0, x0), (2, n2)] ds h K = F71.t4 n0 B5 B6 x0 n2 ds h K := by kernel_rfl
theorem F71.s4 {n0 : Nat} : F71.p4 n0 = wA Try.prog n0 25 none (.seq [0, 2] (.seq [0, 2, 14] F71.c4.fst.fst (.cond [0, 2] (.tmp 14) (.sub (F71.p5 n0)) F71.c4.fst.snd.snd)) (.sub (F71.p6 n0))) := by kernel_rfl
theorem F71.e4 {n0 : Nat} {x0 n2 : Value} {ds : List Nat} {h : H} {K : KP} : F71.p4 n0 [(0, x0), (2, n2)] ds h K = F71.t4 n0 (F71.p5 n0) (F71.p6 n0) x0 n2 ds h K :=
  wchain (F71.s4) (F71.g4 (F71.p5 n0) (F71.p6 n0) x0 n2)
noncomputable def F71.t5 (n0 : Nat) (x0 n2 : Value) (ds : List Nat) (h : H) (K : KP) : Prop :=
  Bnd (aBin Try.prog true .shr 23 x0 (.int .u64 8)) fun t16 =>
  Bnd (aBin Try.prog true .add 3 n2 (.int .i64 8)) fun t18 =>
  K .normal [(0, t16), (2, t18), (17, n2), (18, t18)] ds h
theorem F71.g5 {n0 : Nat} (x0 n2 : Value) {ds : List Nat} {h : H} {K : KP} : wA Try.prog n0 25 none F71.c5 [(0, x0), (2, n2)] ds h K = F71.t5 n0 x0 n2 ds h K := by kernel_rfl
theorem F71.s5 {n0 : Nat} : F71.p5 n0 = wA Try.prog n0 25 none F71.c5 := by kernel_rfl
theorem F71.e5 {n0 : Nat} {x0 n2 : Value} {ds : List Nat} {h : H} {K : KP} : F71.p5 n0 [(0, x0), (2, n2)] ds h K = F71.t5 n0 x0 n2 ds h K :=
  wchain (F71.s5) (F71.g5 x0 n2)
noncomputable def F71.t6 (n0 : Nat) (x0 n2 : Value) (ds : List Nat) (h : H) (K : KP) : Prop :=
  Bnd2 (cvt Try.prog 23 5 x0 h) fun t21 h1 =>
  Bnd (aIndex Try.prog 9 (.string ⟨#[0, 1, 2, 2, 3, 3, 3, 3, 4, 4, 4, 4, 4, 4, 4, 4, 5, 5, 5, 5, 5, 5, 5, 5, 5, 5, 5, 5, 5, 5, 5, 5, 6, 6, 6, 6, 6, 6, 6, 6, 6, 6, 6, 6, 6, 6, 6, 6, 6, 6, 6, 6, 6, 6, 6, 6, 6, 6, 6, 6, 6, 6, 6, 6, 7, 7, 7, 7, 7, 7, 7, 7, 7, 7, 7, 7, 7, 7, 7, 7, 7, 7, 7, 7, 7, 7, 7, 7, 7, 7, 7, 7, 7, 7, 7, 7, 7, 7, 7, 7, 7, 7, 7, 7, 7, 7, 7, 7, 7, 7, 7, 7, 7, 7, 7, 7, 7, 7, 7, 7, 7, 7, 7, 7, 7, 7, 7, 7, 8, 8, 8, 8, 8, 8, 8, 8, 8, 8, 8, 8, 8, 8, 8, 8, 8, 8, 8, 8, 8, 8, 8, 8, 8, 8, 8, 8, 8, 8, 8, 8, 8, 8, 8, 8, 8, 8, 8, 8, 8, 8, 8, 8, 8, 8, 8, 8, 8, 8, 8, 8, 8, 8, 8, 8, 8, 8, 8, 8, 8, 8, 8, 8, 8, 8, 8, 8, 8, 8, 8, 8, 8, 8, 8, 8, 8, 8, 8, 8, 8, 8, 8, 8, 8, 8, 8, 8, 8, 8, 8, 8, 8, 8, 8, 8, 8, 8, 8, 8, 8, 8, 8, 8, 8, 8, 8, 8, 8, 8, 8, 8, 8, 8, 8, 8, 8, 8, 8, 8, 8, 8, 8, 8, 8, 8, 8, 8]⟩) t21) fun t22 =>
  Bnd2 (cvt Try.prog 5 3 t22 h1) fun t23 h2 =>
  Bnd (aBin Try.prog false .add 3 n2 t23) fun t24 =>
  K .ret [(2, t24)] ds h2
theorem F71.g6 {n0 : Nat} (x0 n2 : Value) {ds : List Nat} {h : H} {K : KP} : wA Try.prog n0 25 none F71.c6 [(0, x0), (2, n2)] ds h K = F71.t6 n0 x0 n2 ds h K := by kernel_rfl
theorem F71.s6 {n0 : Nat} : F71.p6 n0 = wA Try.prog n0 25 none F71.c6 := by kernel_rfl
theorem F71.e6 {n0 : Nat} {x0 n2 : Value} {ds : List Nat} {h : H} {K : KP} : F71.p6 n0 [(0, x0), (2, n2)] ds h K = F71.t6 n0 x0 n2 ds h K :=
  wchain (F71.s6) (F71.g6 x0 n2)
theorem F71.b : Try.f71.body = some F71.c0.erase := by kernel_rfl
theorem F71.b2 : (Try.f71.name == "runtime.NumGoroutine") = false := by kernel_rfl
theorem F71.b3 : Try.f71.ntmps = 25 := by kernel_rfl
theorem F71.b4 : Try.f71.results.toList = [.tmp 2] := by kernel_rfl
theorem F71.enter {n0 : Nat} {x0 : Value} {h : H} {Q : Value → H → Prop} (w : F71.p0 n0 [(0, x0)] [] h (KFin Try.prog [.tmp 2] Q)) : Cn Try.prog n0 (.func 71) [x0] h Q :=
  @fn_enter Try.prog n0 mixed 71 Try.f71 F71.c0 [x0] h Q Try.func71 F71.b F71.k0 F71.b2 25 F71.b3 [.tmp 2] F71.b4 (by simp) [(0, x0)] rfl (wback F71.d0 w)

end Go.Proofs.Ytjdcdabbbmhffaa
