/- The texts of Go functions of this seat, as the evaluator comes to them: each is what wA says of the code. No condition. -/
import Derived.Test.YtjdcdabbbmhffaaEvAc3
import Derived.Test.YtjdcdabbbmhffaaSeat
set_option linter.unusedVariables false
namespace Go.Proofs.Ytjdcdabbbmhffaa
open Go.Ev

/-! roster.rosterref04.Right -/
noncomputable def F37.ac : AC := (ann (bodyOf Try.f37) [[0], [], [0, 3], [], [0, 3], [0, 3], [0, 3, 7], [0, 3], [0, 3], [0, 3], [0, 3, 19], [0, 3], [2], [2]]).1
noncomputable def F37.c0 : AC := F37.ac
noncomputable def F37.c1 : AC := F37.ac.snd.fst.snd.fst.fst
noncomputable def F37.c2 : AC := F37.ac.snd.fst.snd.fst.fst.snd
noncomputable def F37.c3 : AC := F37.ac.snd.fst.snd.fst.fst.snd.fst.fst.snd.fst
noncomputable def F37.c4 : AC := F37.ac.snd.fst.snd.fst.fst.snd.snd
noncomputable def F37.c5 : AC := F37.ac.snd.snd
noncomputable def F37.p0 (n0 : Nat) : WP := wA Try.prog n0 20 none F37.c0
noncomputable def F37.p1 (n0 : Nat) : WP := wA Try.prog n0 20 none F37.c1
noncomputable def F37.p2 (n0 : Nat) : WP := wA Try.prog n0 20 none F37.c2
noncomputable def F37.p3 (n0 : Nat) : WP := wA Try.prog n0 20 none F37.c3
noncomputable def F37.p4 (n0 : Nat) : WP := wA Try.prog n0 20 none F37.c4
noncomputable def F37.p5 (n0 : Nat) : WP := wA Try.prog n0 20 none F37.c5
noncomputable def F37.t0 (n0 : Nat) (B1 : WP) (B5 : WP) (l0 : Value) (ds : List Nat) (h : H) (K : KP) : Prop :=
  Lp [0, 3] B1 [(0, l0), (3, (.int .i64 1))] ds h (KBlk [] 0 (KSeq [] B5 K))
theorem F37.g0 {n0 : Nat} (B1 : WP) (B5 : WP) (l0 : Value) {ds : List Nat} {h : H} {K : KP} : wA Try.prog n0 20 none (.seq [0] F37.c0.fst (.seq [] (.seq [0, 3] F37.c0.snd.fst.fst (.block [] 0 (.loop [0, 3] (.sub B1)))) (.sub B5))) [(0, l0)] ds h K = F37.t0 n0 B1 B5 l0 ds h K := by kernel_rfl
theorem F37.s0 {n0 : Nat} : F37.p0 n0 = wA Try.prog n0 20 none (.seq [0] F37.c0.fst (.seq [] (.seq [0, 3] F37.c0.snd.fst.fst (.block [] 0 (.loop [0, 3] (.sub (F37.p1 n0))))) (.sub (F37.p5 n0)))) := by kernel_rfl
theorem F37.e0 {n0 : Nat} {l0 : Value} {ds : List Nat} {h : H} {K : KP} : F37.p0 n0 [(0, l0)] ds h K = F37.t0 n0 (F37.p1 n0) (F37.p5 n0) l0 ds h K :=
  wchain (F37.s0) (F37.g0 (F37.p1 n0) (F37.p5 n0) l0)
theorem F37.k0 : F37.c0.ok = true := by kernel_rfl
theorem F37.d0 {n0 : Nat} : F37.p0 n0 = wA Try.prog n0 20 none F37.c0 := by kernel_rfl
theorem F37.m0 (n0 : Nat) : MonoW (F37.p0 n0) := @mono_c Try.prog n0 20 none F37.c0 (F37.p0 n0) (F37.d0) F37.k0
noncomputable def F37.t1 (n0 : Nat) (B2 : WP) (l0 i3 : Value) (ds : List Nat) (h : H) (K : KP) : Prop :=
  Bnd2 (aBuiltin Try.prog .len #[22] [l0] h) fun t6 h1 =>
  Bnd (aBin Try.prog false .lss 3 i3 t6) fun t7 =>
  Cnd t7
   (B2 [(0, l0), (3, i3)] ds h1 K)
   (K (.exit 0) [(0, l0), (3, i3)] ds h1)
theorem F37.g1 {n0 : Nat} (B2 : WP) (l0 i3 : Value) {ds : List Nat} {h : H} {K : KP} : wA Try.prog n0 20 none (.seq [0, 3] F37.c1.fst (.sub B2)) [(0, l0), (3, i3)] ds h K = F37.t1 n0 B2 l0 i3 ds h K := by kernel_rfl
theorem F37.s1 {n0 : Nat} : F37.p1 n0 = wA Try.prog n0 20 none (.seq [0, 3] F37.c1.fst (.sub (F37.p2 n0))) := by kernel_rfl
theorem F37.e1 {n0 : Nat} {l0 i3 : Value} {ds : List Nat} {h : H} {K : KP} : F37.p1 n0 [(0, l0), (3, i3)] ds h K = F37.t1 n0 (F37.p2 n0) l0 i3 ds h K :=
  wchain (F37.s1) (F37.g1 (F37.p2 n0) l0 i3)
theorem F37.k1 : F37.c1.ok = true := by kernel_rfl
theorem F37.d1 {n0 : Nat} : F37.p1 n0 = wA Try.prog n0 20 none F37.c1 := by kernel_rfl
theorem F37.m1 (n0 : Nat) : MonoW (F37.p1 n0) := @mono_c Try.prog n0 20 none F37.c1 (F37.p1 n0) (F37.d1) F37.k1
noncomputable def F37.t2 (n0 : Nat) (B3 : WP) (B4 : WP) (l0 i3 : Value) (ds : List Nat) (h : H) (K : KP) : Prop :=
  Bnd (aIndexAddr Try.prog 22 l0 i3) fun t12 =>
  Bnd (aLoad Try.prog 23 t12 h) fun t13 =>
  Bnd (aBin Try.prog true .sub 3 i3 (.int .i64 1)) fun t16 =>
  Bnd (aIndexAddr Try.prog 22 l0 t16) fun t17 =>
  Bnd (aLoad Try.prog 23 t17 h) fun t18 =>
  Bnd (aBin Try.prog false .leq 23 t13 t18) fun t19 =>
  Cnd t19
   (B3 [(0, l0), (3, i3)] ds h (KBlk [0, 3] 1 (KSeq [0, 3] B4 K)))
   (B4 [(0, l0), (3, i3)] ds h K)
theorem F37.g2 {n0 : Nat} (B3 : WP) (B4 : WP) (l0 i3 : Value) {ds : List Nat} {h : H} {K : KP} : wA Try.prog n0 20 none (.seq [0, 3] (.block [0, 3] 1 (.seq [0, 3, 19] F37.c2.fst.fst.fst (.cond [0, 3] (.tmp 19) (.sub B3) F37.c2.fst.fst.snd.snd))) (.sub B4)) [(0, l0), (3, i3)] ds h K = F37.t2 n0 B3 B4 l0 i3 ds h K := by kernel_rfl
theorem F37.s2 {n0 : Nat} : F37.p2 n0 = wA Try.prog n0 20 none (.seq [0, 3] (.block [0, 3] 1 (.seq [0, 3, 19] F37.c2.fst.fst.fst (.cond [0, 3] (.tmp 19) (.sub (F37.p3 n0)) F37.c2.fst.fst.snd.snd))) (.sub (F37.p4 n0))) := by kernel_rfl
theorem F37.e2 {n0 : Nat} {l0 i3 : Value} {ds : List Nat} {h : H} {K : KP} : F37.p2 n0 [(0, l0), (3, i3)] ds h K = F37.t2 n0 (F37.p3 n0) (F37.p4 n0) l0 i3 ds h K :=
  wchain (F37.s2) (F37.g2 (F37.p3 n0) (F37.p4 n0) l0 i3)
noncomputable def F37.t3 (n0 : Nat) (l0 i3 : Value) (ds : List Nat) (h : H) (K : KP) : Prop :=
  K .ret [(2, (.bool false))] ds h
theorem F37.g3 {n0 : Nat} (l0 i3 : Value) {ds : List Nat} {h : H} {K : KP} : wA Try.prog n0 20 none F37.c3 [(0, l0), (3, i3)] ds h K = F37.t3 n0 l0 i3 ds h K := by kernel_rfl
theorem F37.s3 {n0 : Nat} : F37.p3 n0 = wA Try.prog n0 20 none F37.c3 := by kernel_rfl
theorem F37.e3 {n0 : Nat} {l0 i3 : Value} {ds : List Nat} {h : H} {K : KP} : F37.p3 n0 [(0, l0), (3, i3)] ds h K = F37.t3 n0 l0 i3 ds h K :=
  wchain (F37.s3) (F37.g3 l0 i3)
noncomputable def F37.t4 (n0 : Nat) (l0 i3 : Value) (ds : List Nat) (h : H) (K : KP) : Prop :=
  Bnd (aBin Try.prog true .add 3 i3 (.int .i64 1)) fun t9 =>
  K .normal [(0, l0), (3, t9), (8, i3), (9, t9)] ds h
theorem F37.g4 {n0 : Nat} (l0 i3 : Value) {ds : List Nat} {h : H} {K : KP} : wA Try.prog n0 20 none F37.c4 [(0, l0), (3, i3)] ds h K = F37.t4 n0 l0 i3 ds h K := by kernel_rfl
theorem F37.s4 {n0 : Nat} : F37.p4 n0 = wA Try.prog n0 20 none F37.c4 := by kernel_rfl
theorem F37.e4 {n0 : Nat} {l0 i3 : Value} {ds : List Nat} {h : H} {K : KP} : F37.p4 n0 [(0, l0), (3, i3)] ds h K = F37.t4 n0 l0 i3 ds h K :=
  wchain (F37.s4) (F37.g4 l0 i3)
noncomputable def F37.t5 (n0 : Nat) (ds : List Nat) (h : H) (K : KP) : Prop :=
  K .ret [(2, (.bool true))] ds h
theorem F37.g5 {n0 : Nat} {ds : List Nat} {h : H} {K : KP} : wA Try.prog n0 20 none F37.c5 [] ds h K = F37.t5 n0  ds h K := by kernel_rfl
theorem F37.s5 {n0 : Nat} : F37.p5 n0 = wA Try.prog n0 20 none F37.c5 := by kernel_rfl
theorem F37.e5 {n0 : Nat} {ds : List Nat} {h : H} {K : KP} : F37.p5 n0 [] ds h K = F37.t5 n0  ds h K :=
  wchain (F37.s5) (F37.g5)
theorem F37.b : Try.f37.body = some F37.c0.erase := by kernel_rfl
theorem F37.b2 : (Try.f37.name == "runtime.NumGoroutine") = false := by kernel_rfl
theorem F37.b3 : Try.f37.ntmps = 20 := by kernel_rfl
theorem F37.b4 : Try.f37.results.toList = [.tmp 2] := by kernel_rfl
theorem F37.enter {n0 : Nat} {x0 : Value} {h : H} {Q : Value → H → Prop} (w : F37.p0 n0 [(0, x0)] [] h (KFin Try.prog [.tmp 2] Q)) : Cn Try.prog n0 (.func 37) [x0] h Q :=
  @fn_enter Try.prog n0 mixed 37 Try.f37 F37.c0 [x0] h Q Try.func37 F37.b F37.k0 F37.b2 20 F37.b3 [.tmp 2] F37.b4 (by simp) [(0, x0)] rfl (wback F37.d0 w)

/-! roster.rosterref04.Same -/
noncomputable def F22.ac : AC := (ann (bodyOf Try.f22) [[0, 1], [0, 1], [0, 1, 10], [0, 1], [4], [], [0, 1, 5], [], [0, 1, 5], [0, 1, 5], [0, 1, 5, 14], [0, 1, 5], [0, 1, 5], [0, 1, 5], [0, 1, 5, 25], [0, 1, 5], [4], [4]]).1
noncomputable def F22.c0 : AC := F22.ac
noncomputable def F22.c1 : AC := F22.ac.snd.fst.snd.fst
noncomputable def F22.c2 : AC := F22.ac.snd.snd
noncomputable def F22.c3 : AC := F22.ac.snd.snd.fst.snd.fst.fst
noncomputable def F22.c4 : AC := F22.ac.snd.snd.fst.snd.fst.fst.snd
noncomputable def F22.c5 : AC := F22.ac.snd.snd.fst.snd.fst.fst.snd.fst.fst.snd.fst
noncomputable def F22.c6 : AC := F22.ac.snd.snd.fst.snd.fst.fst.snd.snd
noncomputable def F22.c7 : AC := F22.ac.snd.snd.snd
noncomputable def F22.p0 (n0 : Nat) : WP := wA Try.prog n0 26 none F22.c0
noncomputable def F22.p1 (n0 : Nat) : WP := wA Try.prog n0 26 none F22.c1
noncomputable def F22.p2 (n0 : Nat) : WP := wA Try.prog n0 26 none F22.c2
noncomputable def F22.p3 (n0 : Nat) : WP := wA Try.prog n0 26 none F22.c3
noncomputable def F22.p4 (n0 : Nat) : WP := wA Try.prog n0 26 none F22.c4
noncomputable def F22.p5 (n0 : Nat) : WP := wA Try.prog n0 26 none F22.c5
noncomputable def F22.p6 (n0 : Nat) : WP := wA Try.prog n0 26 none F22.c6
noncomputable def F22.p7 (n0 : Nat) : WP := wA Try.prog n0 26 none F22.c7
noncomputable def F22.t0 (n0 : Nat) (B1 : WP) (B2 : WP) (a0 b1 : Value) (ds : List Nat) (h : H) (K : KP) : Prop :=
  Bnd2 (aBuiltin Try.prog .len #[22] [a0] h) fun t7 h1 =>
  Bnd2 (aBuiltin Try.prog .len #[22] [b1] h1) fun t9 h2 =>
  Bnd (aBin Try.prog false .neq 3 t7 t9) fun t10 =>
  Cnd t10
   (B1 [(0, a0), (1, b1)] ds h2 (KSeq [0, 1] B2 K))
   (B2 [(0, a0), (1, b1)] ds h2 K)
theorem F22.g0 {n0 : Nat} (B1 : WP) (B2 : WP) (a0 b1 : Value) {ds : List Nat} {h : H} {K : KP} : wA Try.prog n0 26 none (.seq [0, 1] F22.c0.fst (.seq [0, 1] (.seq [0, 1, 10] F22.c0.snd.fst.fst (.cond [0, 1] (.tmp 10) (.sub B1) F22.c0.snd.fst.snd.snd)) (.sub B2))) [(0, a0), (1, b1)] ds h K = F22.t0 n0 B1 B2 a0 b1 ds h K := by kernel_rfl
theorem F22.s0 {n0 : Nat} : F22.p0 n0 = wA Try.prog n0 26 none (.seq [0, 1] F22.c0.fst (.seq [0, 1] (.seq [0, 1, 10] F22.c0.snd.fst.fst (.cond [0, 1] (.tmp 10) (.sub (F22.p1 n0)) F22.c0.snd.fst.snd.snd)) (.sub (F22.p2 n0)))) := by kernel_rfl
theorem F22.e0 {n0 : Nat} {a0 b1 : Value} {ds : List Nat} {h : H} {K : KP} : F22.p0 n0 [(0, a0), (1, b1)] ds h K = F22.t0 n0 (F22.p1 n0) (F22.p2 n0) a0 b1 ds h K :=
  wchain (F22.s0) (F22.g0 (F22.p1 n0) (F22.p2 n0) a0 b1)
theorem F22.k0 : F22.c0.ok = true := by kernel_rfl
theorem F22.d0 {n0 : Nat} : F22.p0 n0 = wA Try.prog n0 26 none F22.c0 := by kernel_rfl
theorem F22.m0 (n0 : Nat) : MonoW (F22.p0 n0) := @mono_c Try.prog n0 26 none F22.c0 (F22.p0 n0) (F22.d0) F22.k0
noncomputable def F22.t1 (n0 : Nat) (a0 b1 : Value) (ds : List Nat) (h : H) (K : KP) : Prop :=
  K .ret [(4, (.bool false))] ds h
theorem F22.g1 {n0 : Nat} (a0 b1 : Value) {ds : List Nat} {h : H} {K : KP} : wA Try.prog n0 26 none F22.c1 [(0, a0), (1, b1)] ds h K = F22.t1 n0 a0 b1 ds h K := by kernel_rfl
theorem F22.s1 {n0 : Nat} : F22.p1 n0 = wA Try.prog n0 26 none F22.c1 := by kernel_rfl
theorem F22.e1 {n0 : Nat} {a0 b1 : Value} {ds : List Nat} {h : H} {K : KP} : F22.p1 n0 [(0, a0), (1, b1)] ds h K = F22.t1 n0 a0 b1 ds h K :=
  wchain (F22.s1) (F22.g1 a0 b1)
noncomputable def F22.t2 (n0 : Nat) (B3 : WP) (B7 : WP) (a0 b1 : Value) (ds : List Nat) (h : H) (K : KP) : Prop :=
  Lp [0, 1, 5] B3 [(0, a0), (1, b1), (5, (.int .i64 0))] ds h (KBlk [] 0 (KSeq [] B7 K))
theorem F22.g2 {n0 : Nat} (B3 : WP) (B7 : WP) (a0 b1 : Value) {ds : List Nat} {h : H} {K : KP} : wA Try.prog n0 26 none (.seq [] (.seq [0, 1, 5] F22.c2.fst.fst (.block [] 0 (.loop [0, 1, 5] (.sub B3)))) (.sub B7)) [(0, a0), (1, b1)] ds h K = F22.t2 n0 B3 B7 a0 b1 ds h K := by kernel_rfl
theorem F22.s2 {n0 : Nat} : F22.p2 n0 = wA Try.prog n0 26 none (.seq [] (.seq [0, 1, 5] F22.c2.fst.fst (.block [] 0 (.loop [0, 1, 5] (.sub (F22.p3 n0))))) (.sub (F22.p7 n0))) := by kernel_rfl
theorem F22.e2 {n0 : Nat} {a0 b1 : Value} {ds : List Nat} {h : H} {K : KP} : F22.p2 n0 [(0, a0), (1, b1)] ds h K = F22.t2 n0 (F22.p3 n0) (F22.p7 n0) a0 b1 ds h K :=
  wchain (F22.s2) (F22.g2 (F22.p3 n0) (F22.p7 n0) a0 b1)
noncomputable def F22.t3 (n0 : Nat) (B4 : WP) (a0 b1 i5 : Value) (ds : List Nat) (h : H) (K : KP) : Prop :=
  Bnd2 (aBuiltin Try.prog .len #[22] [a0] h) fun t13 h1 =>
  Bnd (aBin Try.prog false .lss 3 i5 t13) fun t14 =>
  Cnd t14
   (B4 [(0, a0), (1, b1), (5, i5)] ds h1 K)
   (K (.exit 0) [(0, a0), (1, b1), (5, i5)] ds h1)
theorem F22.g3 {n0 : Nat} (B4 : WP) (a0 b1 i5 : Value) {ds : List Nat} {h : H} {K : KP} : wA Try.prog n0 26 none (.seq [0, 1, 5] F22.c3.fst (.sub B4)) [(0, a0), (1, b1), (5, i5)] ds h K = F22.t3 n0 B4 a0 b1 i5 ds h K := by kernel_rfl
theorem F22.s3 {n0 : Nat} : F22.p3 n0 = wA Try.prog n0 26 none (.seq [0, 1, 5] F22.c3.fst (.sub (F22.p4 n0))) := by kernel_rfl
theorem F22.e3 {n0 : Nat} {a0 b1 i5 : Value} {ds : List Nat} {h : H} {K : KP} : F22.p3 n0 [(0, a0), (1, b1), (5, i5)] ds h K = F22.t3 n0 (F22.p4 n0) a0 b1 i5 ds h K :=
  wchain (F22.s3) (F22.g3 (F22.p4 n0) a0 b1 i5)
theorem F22.k3 : F22.c3.ok = true := by kernel_rfl
theorem F22.d3 {n0 : Nat} : F22.p3 n0 = wA Try.prog n0 26 none F22.c3 := by kernel_rfl
theorem F22.m3 (n0 : Nat) : MonoW (F22.p3 n0) := @mono_c Try.prog n0 26 none F22.c3 (F22.p3 n0) (F22.d3) F22.k3
noncomputable def F22.t4 (n0 : Nat) (B5 : WP) (B6 : WP) (a0 b1 i5 : Value) (ds : List Nat) (h : H) (K : KP) : Prop :=
  Bnd (aIndexAddr Try.prog 22 a0 i5) fun t19 =>
  Bnd (aLoad Try.prog 23 t19 h) fun t20 =>
  Bnd (aIndexAddr Try.prog 22 b1 i5) fun t23 =>
  Bnd (aLoad Try.prog 23 t23 h) fun t24 =>
  Bnd (aBin Try.prog false .neq 23 t20 t24) fun t25 =>
  Cnd t25
   (B5 [(0, a0), (1, b1), (5, i5)] ds h (KBlk [0, 1, 5] 1 (KSeq [0, 1, 5] B6 K)))
   (B6 [(0, a0), (1, b1), (5, i5)] ds h K)
theorem F22.g4 {n0 : Nat} (B5 : WP) (B6 : WP) (a0 b1 i5 : Value) {ds : List Nat} {h : H} {K : KP} : wA Try.prog n0 26 none (.seq [0, 1, 5] (.block [0, 1, 5] 1 (.seq [0, 1, 5, 25] F22.c4.fst.fst.fst (.cond [0, 1, 5] (.tmp 25) (.sub B5) F22.c4.fst.fst.snd.snd))) (.sub B6)) [(0, a0), (1, b1), (5, i5)] ds h K = F22.t4 n0 B5 B6 a0 b1 i5 ds h K := by kernel_rfl
theorem F22.s4 {n0 : Nat} : F22.p4 n0 = wA Try.prog n0 26 none (.seq [0, 1, 5] (.block [0, 1, 5] 1 (.seq [0, 1, 5, 25] F22.c4.fst.fst.fst (.cond [0, 1, 5] (.tmp 25) (.sub (F22.p5 n0)) F22.c4.fst.fst.snd.snd))) (.sub (F22.p6 n0))) := by kernel_rfl
theorem F22.e4 {n0 : Nat} {a0 b1 i5 : Value} {ds : List Nat} {h : H} {K : KP} : F22.p4 n0 [(0, a0), (1, b1), (5, i5)] ds h K = F22.t4 n0 (F22.p5 n0) (F22.p6 n0) a0 b1 i5 ds h K :=
  wchain (F22.s4) (F22.g4 (F22.p5 n0) (F22.p6 n0) a0 b1 i5)
noncomputable def F22.t5 (n0 : Nat) (a0 b1 i5 : Value) (ds : List Nat) (h : H) (K : KP) : Prop :=
  K .ret [(4, (.bool false))] ds h
theorem F22.g5 {n0 : Nat} (a0 b1 i5 : Value) {ds : List Nat} {h : H} {K : KP} : wA Try.prog n0 26 none F22.c5 [(0, a0), (1, b1), (5, i5)] ds h K = F22.t5 n0 a0 b1 i5 ds h K := by kernel_rfl
theorem F22.s5 {n0 : Nat} : F22.p5 n0 = wA Try.prog n0 26 none F22.c5 := by kernel_rfl
theorem F22.e5 {n0 : Nat} {a0 b1 i5 : Value} {ds : List Nat} {h : H} {K : KP} : F22.p5 n0 [(0, a0), (1, b1), (5, i5)] ds h K = F22.t5 n0 a0 b1 i5 ds h K :=
  wchain (F22.s5) (F22.g5 a0 b1 i5)
noncomputable def F22.t6 (n0 : Nat) (a0 b1 i5 : Value) (ds : List Nat) (h : H) (K : KP) : Prop :=
  Bnd (aBin Try.prog true .add 3 i5 (.int .i64 1)) fun t16 =>
  K .normal [(0, a0), (1, b1), (5, t16), (15, i5), (16, t16)] ds h
theorem F22.g6 {n0 : Nat} (a0 b1 i5 : Value) {ds : List Nat} {h : H} {K : KP} : wA Try.prog n0 26 none F22.c6 [(0, a0), (1, b1), (5, i5)] ds h K = F22.t6 n0 a0 b1 i5 ds h K := by kernel_rfl
theorem F22.s6 {n0 : Nat} : F22.p6 n0 = wA Try.prog n0 26 none F22.c6 := by kernel_rfl
theorem F22.e6 {n0 : Nat} {a0 b1 i5 : Value} {ds : List Nat} {h : H} {K : KP} : F22.p6 n0 [(0, a0), (1, b1), (5, i5)] ds h K = F22.t6 n0 a0 b1 i5 ds h K :=
  wchain (F22.s6) (F22.g6 a0 b1 i5)
noncomputable def F22.t7 (n0 : Nat) (ds : List Nat) (h : H) (K : KP) : Prop :=
  K .ret [(4, (.bool true))] ds h
theorem F22.g7 {n0 : Nat} {ds : List Nat} {h : H} {K : KP} : wA Try.prog n0 26 none F22.c7 [] ds h K = F22.t7 n0  ds h K := by kernel_rfl
theorem F22.s7 {n0 : Nat} : F22.p7 n0 = wA Try.prog n0 26 none F22.c7 := by kernel_rfl
theorem F22.e7 {n0 : Nat} {ds : List Nat} {h : H} {K : KP} : F22.p7 n0 [] ds h K = F22.t7 n0  ds h K :=
  wchain (F22.s7) (F22.g7)
theorem F22.b : Try.f22.body = some F22.c0.erase := by kernel_rfl
theorem F22.b2 : (Try.f22.name == "runtime.NumGoroutine") = false := by kernel_rfl
theorem F22.b3 : Try.f22.ntmps = 26 := by kernel_rfl
theorem F22.b4 : Try.f22.results.toList = [.tmp 4] := by kernel_rfl
theorem F22.enter {n0 : Nat} {x0 x1 : Value} {h : H} {Q : Value → H → Prop} (w : F22.p0 n0 [(0, x0), (1, x1)] [] h (KFin Try.prog [.tmp 4] Q)) : Cn Try.prog n0 (.func 22) [x0, x1] h Q :=
  @fn_enter Try.prog n0 mixed 22 Try.f22 F22.c0 [x0, x1] h Q Try.func22 F22.b F22.k0 F22.b2 26 F22.b3 [.tmp 4] F22.b4 (by simp) [(0, x0), (1, x1)] rfl (wback F22.d0 w)

/-! roster.rosterref04.Find -/
noncomputable def F12.ac : AC := (ann (bodyOf Try.f12) [[0, 1, 2], [0, 1, 2, 7], [0, 1, 2], [0, 1, 2, 12], [0, 1, 2], [6], [0, 2, 8], [8], [8], [0, 2, 8], [0, 2, 8], [0, 2, 8, 29], [0, 2, 8], [0, 2, 8], [6]]).1
noncomputable def F12.c0 : AC := F12.ac
noncomputable def F12.c1 : AC := F12.ac.snd.snd.fst.snd.fst
noncomputable def F12.c2 : AC := F12.ac.snd.snd.snd
noncomputable def F12.c3 : AC := F12.ac.snd.snd.snd.snd.fst.fst.fst
noncomputable def F12.c4 : AC := F12.ac.snd.snd.snd.snd.fst.fst.fst.snd
noncomputable def F12.c5 : AC := F12.ac.snd.snd.snd.snd.snd
noncomputable def F12.p0 (n0 : Nat) : WP := wA Try.prog n0 33 none F12.c0
noncomputable def F12.p1 (n0 : Nat) : WP := wA Try.prog n0 33 none F12.c1
noncomputable def F12.p2 (n0 : Nat) : WP := wA Try.prog n0 33 none F12.c2
noncomputable def F12.p3 (n0 : Nat) : WP := wA Try.prog n0 33 none F12.c3
noncomputable def F12.p4 (n0 : Nat) : WP := wA Try.prog n0 33 none F12.c4
noncomputable def F12.p5 (n0 : Nat) : WP := wA Try.prog n0 33 none F12.c5
noncomputable def F12.t0 (n0 : Nat) (B1 : WP) (B2 : WP) (l0 from1 id2 : Value) (ds : List Nat) (h : H) (K : KP) : Prop :=
  Cn Try.prog n0 (.func 37) [l0] h fun t10 h1 =>
  Bnd (aUn .not t10) fun t12 =>
  Cnd t12
   (B1 [(0, l0), (1, from1), (2, id2)] ds h1 (KSeq [0, 1, 2] B2 K))
   (B2 [(0, l0), (1, from1), (2, id2)] ds h1 K)
theorem F12.g0 {n0 : Nat} (B1 : WP) (B2 : WP) (l0 from1 id2 : Value) {ds : List Nat} {h : H} {K : KP} : wA Try.prog n0 33 none (.seq [0, 1, 2] F12.c0.fst (.seq [0, 1, 2, 7] F12.c0.snd.fst (.seq [0, 1, 2] (.seq [0, 1, 2, 12] F12.c0.snd.snd.fst.fst (.cond [0, 1, 2] (.tmp 12) (.sub B1) F12.c0.snd.snd.fst.snd.snd)) (.sub B2)))) [(0, l0), (1, from1), (2, id2)] ds h K = F12.t0 n0 B1 B2 l0 from1 id2 ds h K := by kernel_rfl
theorem F12.s0 {n0 : Nat} : F12.p0 n0 = wA Try.prog n0 33 none (.seq [0, 1, 2] F12.c0.fst (.seq [0, 1, 2, 7] F12.c0.snd.fst (.seq [0, 1, 2] (.seq [0, 1, 2, 12] F12.c0.snd.snd.fst.fst (.cond [0, 1, 2] (.tmp 12) (.sub (F12.p1 n0)) F12.c0.snd.snd.fst.snd.snd)) (.sub (F12.p2 n0))))) := by kernel_rfl
theorem F12.e0 {n0 : Nat} {l0 from1 id2 : Value} {ds : List Nat} {h : H} {K : KP} : F12.p0 n0 [(0, l0), (1, from1), (2, id2)] ds h K = F12.t0 n0 (F12.p1 n0) (F12.p2 n0) l0 from1 id2 ds h K :=
  wchain (F12.s0) (F12.g0 (F12.p1 n0) (F12.p2 n0) l0 from1 id2)
theorem F12.k0 : F12.c0.ok = true := by kernel_rfl
theorem F12.d0 {n0 : Nat} : F12.p0 n0 = wA Try.prog n0 33 none F12.c0 := by kernel_rfl
theorem F12.m0 (n0 : Nat) : MonoW (F12.p0 n0) := @mono_c Try.prog n0 33 none F12.c0 (F12.p0 n0) (F12.d0) F12.k0
noncomputable def F12.t1 (n0 : Nat) (l0 from1 id2 : Value) (ds : List Nat) (h : H) (K : KP) : Prop :=
  K .ret [(6, (.int .i64 (-1)))] ds h
theorem F12.g1 {n0 : Nat} (l0 from1 id2 : Value) {ds : List Nat} {h : H} {K : KP} : wA Try.prog n0 33 none F12.c1 [(0, l0), (1, from1), (2, id2)] ds h K = F12.t1 n0 l0 from1 id2 ds h K := by kernel_rfl
theorem F12.s1 {n0 : Nat} : F12.p1 n0 = wA Try.prog n0 33 none F12.c1 := by kernel_rfl
theorem F12.e1 {n0 : Nat} {l0 from1 id2 : Value} {ds : List Nat} {h : H} {K : KP} : F12.p1 n0 [(0, l0), (1, from1), (2, id2)] ds h K = F12.t1 n0 l0 from1 id2 ds h K :=
  wchain (F12.s1) (F12.g1 l0 from1 id2)
noncomputable def F12.t2 (n0 : Nat) (B3 : WP) (B5 : WP) (l0 from1 id2 : Value) (ds : List Nat) (h : H) (K : KP) : Prop :=
  Bnd2 (aBuiltin Try.prog .max #[3, 3] [from1, (.int .i64 0)] h) fun t14 h1 =>
  Bnd2 (aBuiltin Try.prog .len #[22] [l0] h1) fun t16 h2 =>
  Bnd2 (aBuiltin Try.prog .min #[3, 3] [t14, t16] h2) fun t17 h3 =>
  Lp [0, 2, 8] B3 [(0, l0), (2, id2), (8, t17)] ds h3 (KBlk [8] 0 (KSeq [8] B5 K))
theorem F12.g2 {n0 : Nat} (B3 : WP) (B5 : WP) (l0 from1 id2 : Value) {ds : List Nat} {h : H} {K : KP} : wA Try.prog n0 33 none (.seq [0, 2, 8] F12.c2.fst (.seq [8] (.block [8] 0 (.loop [0, 2, 8] (.sub B3))) (.sub B5))) [(0, l0), (1, from1), (2, id2)] ds h K = F12.t2 n0 B3 B5 l0 from1 id2 ds h K := by kernel_rfl
theorem F12.s2 {n0 : Nat} : F12.p2 n0 = wA Try.prog n0 33 none (.seq [0, 2, 8] F12.c2.fst (.seq [8] (.block [8] 0 (.loop [0, 2, 8] (.sub (F12.p3 n0)))) (.sub (F12.p5 n0)))) := by kernel_rfl
theorem F12.e2 {n0 : Nat} {l0 from1 id2 : Value} {ds : List Nat} {h : H} {K : KP} : F12.p2 n0 [(0, l0), (1, from1), (2, id2)] ds h K = F12.t2 n0 (F12.p3 n0) (F12.p5 n0) l0 from1 id2 ds h K :=
  wchain (F12.s2) (F12.g2 (F12.p3 n0) (F12.p5 n0) l0 from1 id2)
noncomputable def F12.t3 (n0 : Nat) (B4 : WP) (l0 id2 i8 : Value) (ds : List Nat) (h : H) (K : KP) : Prop :=
  Bnd2 (aBuiltin Try.prog .len #[22] [l0] h) fun t20 h1 =>
  Bnd (aBin Try.prog false .lss 3 i8 t20) fun t21 =>
  Gd t21
   (Bnd (aIndexAddr Try.prog 22 l0 i8) fun t25 =>
  Bnd (aLoad Try.prog 23 t25 h1) fun t26 =>
  Bnd (aBin Try.prog false .lss 23 t26 id2) fun t28 =>
  Cnd t28
   (B4 [(0, l0), (2, id2), (8, i8)] ds h1 K)
   (K (.exit 0) [(0, l0), (2, id2), (8, i8)] ds h1))
   (K (.exit 0) [(0, l0), (2, id2), (8, i8)] ds h1)
theorem F12.g3 {n0 : Nat} (B4 : WP) (l0 id2 i8 : Value) {ds : List Nat} {h : H} {K : KP} : wA Try.prog n0 33 none (.seq [0, 2, 8] F12.c3.fst (.sub B4)) [(0, l0), (2, id2), (8, i8)] ds h K = F12.t3 n0 B4 l0 id2 i8 ds h K := by kernel_rfl
theorem F12.s3 {n0 : Nat} : F12.p3 n0 = wA Try.prog n0 33 none (.seq [0, 2, 8] F12.c3.fst (.sub (F12.p4 n0))) := by kernel_rfl
theorem F12.e3 {n0 : Nat} {l0 id2 i8 : Value} {ds : List Nat} {h : H} {K : KP} : F12.p3 n0 [(0, l0), (2, id2), (8, i8)] ds h K = F12.t3 n0 (F12.p4 n0) l0 id2 i8 ds h K :=
  wchain (F12.s3) (F12.g3 (F12.p4 n0) l0 id2 i8)
theorem F12.k3 : F12.c3.ok = true := by kernel_rfl
theorem F12.d3 {n0 : Nat} : F12.p3 n0 = wA Try.prog n0 33 none F12.c3 := by kernel_rfl
theorem F12.m3 (n0 : Nat) : MonoW (F12.p3 n0) := @mono_c Try.prog n0 33 none F12.c3 (F12.p3 n0) (F12.d3) F12.k3
noncomputable def F12.t4 (n0 : Nat) (l0 id2 i8 : Value) (ds : List Nat) (h : H) (K : KP) : Prop :=
  Bnd (aBin Try.prog true .add 3 i8 (.int .i64 1)) fun t31 =>
  K .normal [(0, l0), (2, id2), (8, t31)] ds h
theorem F12.g4 {n0 : Nat} (l0 id2 i8 : Value) {ds : List Nat} {h : H} {K : KP} : wA Try.prog n0 33 none F12.c4 [(0, l0), (2, id2), (8, i8)] ds h K = F12.t4 n0 l0 id2 i8 ds h K := by kernel_rfl
theorem F12.s4 {n0 : Nat} : F12.p4 n0 = wA Try.prog n0 33 none F12.c4 := by kernel_rfl
theorem F12.e4 {n0 : Nat} {l0 id2 i8 : Value} {ds : List Nat} {h : H} {K : KP} : F12.p4 n0 [(0, l0), (2, id2), (8, i8)] ds h K = F12.t4 n0 l0 id2 i8 ds h K :=
  wchain (F12.s4) (F12.g4 l0 id2 i8)
noncomputable def F12.t5 (n0 : Nat) (i8 : Value) (ds : List Nat) (h : H) (K : KP) : Prop :=
  K .ret [(6, i8)] ds h
theorem F12.g5 {n0 : Nat} (i8 : Value) {ds : List Nat} {h : H} {K : KP} : wA Try.prog n0 33 none F12.c5 [(8, i8)] ds h K = F12.t5 n0 i8 ds h K := by kernel_rfl
theorem F12.s5 {n0 : Nat} : F12.p5 n0 = wA Try.prog n0 33 none F12.c5 := by kernel_rfl
theorem F12.e5 {n0 : Nat} {i8 : Value} {ds : List Nat} {h : H} {K : KP} : F12.p5 n0 [(8, i8)] ds h K = F12.t5 n0 i8 ds h K :=
  wchain (F12.s5) (F12.g5 i8)
theorem F12.b : Try.f12.body = some F12.c0.erase := by kernel_rfl
theorem F12.b2 : (Try.f12.name == "runtime.NumGoroutine") = false := by kernel_rfl
theorem F12.b3 : Try.f12.ntmps = 33 := by kernel_rfl
theorem F12.b4 : Try.f12.results.toList = [.tmp 6] := by kernel_rfl
theorem F12.enter {n0 : Nat} {x0 x1 x2 : Value} {h : H} {Q : Value → H → Prop} (w : F12.p0 n0 [(0, x0), (1, x1), (2, x2)] [] h (KFin Try.prog [.tmp 6] Q)) : Cn Try.prog n0 (.func 12) [x0, x1, x2] h Q :=
  @fn_enter Try.prog n0 mixed 12 Try.f12 F12.c0 [x0, x1, x2] h Q Try.func12 F12.b F12.k0 F12.b2 33 F12.b3 [.tmp 6] F12.b4 (by simp) [(0, x0), (1, x1), (2, x2)] rfl (wback F12.d0 w)

/-! roster.rosterref04.Has -/
noncomputable def F16.ac : AC := (ann (bodyOf Try.f16) [[0, 1], [], [0, 1, 5], [], [0, 1, 5], [0, 1, 5], [0, 1, 5, 9], [0, 1, 5], [0, 1, 5], [0, 1, 5], [0, 1, 5, 17], [0, 1, 5], [4], [4]]).1
noncomputable def F16.c0 : AC := F16.ac
noncomputable def F16.c1 : AC := F16.ac.snd.fst.snd.fst.fst
noncomputable def F16.c2 : AC := F16.ac.snd.fst.snd.fst.fst.snd
noncomputable def F16.c3 : AC := F16.ac.snd.fst.snd.fst.fst.snd.fst.fst.snd.fst
noncomputable def F16.c4 : AC := F16.ac.snd.fst.snd.fst.fst.snd.snd
noncomputable def F16.c5 : AC := F16.ac.snd.snd
noncomputable def F16.p0 (n0 : Nat) : WP := wA Try.prog n0 18 none F16.c0
noncomputable def F16.p1 (n0 : Nat) : WP := wA Try.prog n0 18 none F16.c1
noncomputable def F16.p2 (n0 : Nat) : WP := wA Try.prog n0 18 none F16.c2
noncomputable def F16.p3 (n0 : Nat) : WP := wA Try.prog n0 18 none F16.c3
noncomputable def F16.p4 (n0 : Nat) : WP := wA Try.prog n0 18 none F16.c4
noncomputable def F16.p5 (n0 : Nat) : WP := wA Try.prog n0 18 none F16.c5
noncomputable def F16.t0 (n0 : Nat) (B1 : WP) (B5 : WP) (l0 id1 : Value) (ds : List Nat) (h : H) (K : KP) : Prop :=
  Lp [0, 1, 5] B1 [(0, l0), (1, id1), (5, (.int .i64 0))] ds h (KBlk [] 0 (KSeq [] B5 K))
theorem F16.g0 {n0 : Nat} (B1 : WP) (B5 : WP) (l0 id1 : Value) {ds : List Nat} {h : H} {K : KP} : wA Try.prog n0 18 none (.seq [0, 1] F16.c0.fst (.seq [] (.seq [0, 1, 5] F16.c0.snd.fst.fst (.block [] 0 (.loop [0, 1, 5] (.sub B1)))) (.sub B5))) [(0, l0), (1, id1)] ds h K = F16.t0 n0 B1 B5 l0 id1 ds h K := by kernel_rfl
theorem F16.s0 {n0 : Nat} : F16.p0 n0 = wA Try.prog n0 18 none (.seq [0, 1] F16.c0.fst (.seq [] (.seq [0, 1, 5] F16.c0.snd.fst.fst (.block [] 0 (.loop [0, 1, 5] (.sub (F16.p1 n0))))) (.sub (F16.p5 n0)))) := by kernel_rfl
theorem F16.e0 {n0 : Nat} {l0 id1 : Value} {ds : List Nat} {h : H} {K : KP} : F16.p0 n0 [(0, l0), (1, id1)] ds h K = F16.t0 n0 (F16.p1 n0) (F16.p5 n0) l0 id1 ds h K :=
  wchain (F16.s0) (F16.g0 (F16.p1 n0) (F16.p5 n0) l0 id1)
theorem F16.k0 : F16.c0.ok = true := by kernel_rfl
theorem F16.d0 {n0 : Nat} : F16.p0 n0 = wA Try.prog n0 18 none F16.c0 := by kernel_rfl
theorem F16.m0 (n0 : Nat) : MonoW (F16.p0 n0) := @mono_c Try.prog n0 18 none F16.c0 (F16.p0 n0) (F16.d0) F16.k0
noncomputable def F16.t1 (n0 : Nat) (B2 : WP) (l0 id1 i5 : Value) (ds : List Nat) (h : H) (K : KP) : Prop :=
  Bnd2 (aBuiltin Try.prog .len #[22] [l0] h) fun t8 h1 =>
  Bnd (aBin Try.prog false .lss 3 i5 t8) fun t9 =>
  Cnd t9
   (B2 [(0, l0), (1, id1), (5, i5)] ds h1 K)
   (K (.exit 0) [(0, l0), (1, id1), (5, i5)] ds h1)
theorem F16.g1 {n0 : Nat} (B2 : WP) (l0 id1 i5 : Value) {ds : List Nat} {h : H} {K : KP} : wA Try.prog n0 18 none (.seq [0, 1, 5] F16.c1.fst (.sub B2)) [(0, l0), (1, id1), (5, i5)] ds h K = F16.t1 n0 B2 l0 id1 i5 ds h K := by kernel_rfl
theorem F16.s1 {n0 : Nat} : F16.p1 n0 = wA Try.prog n0 18 none (.seq [0, 1, 5] F16.c1.fst (.sub (F16.p2 n0))) := by kernel_rfl
theorem F16.e1 {n0 : Nat} {l0 id1 i5 : Value} {ds : List Nat} {h : H} {K : KP} : F16.p1 n0 [(0, l0), (1, id1), (5, i5)] ds h K = F16.t1 n0 (F16.p2 n0) l0 id1 i5 ds h K :=
  wchain (F16.s1) (F16.g1 (F16.p2 n0) l0 id1 i5)
theorem F16.k1 : F16.c1.ok = true := by kernel_rfl
theorem F16.d1 {n0 : Nat} : F16.p1 n0 = wA Try.prog n0 18 none F16.c1 := by kernel_rfl
theorem F16.m1 (n0 : Nat) : MonoW (F16.p1 n0) := @mono_c Try.prog n0 18 none F16.c1 (F16.p1 n0) (F16.d1) F16.k1
noncomputable def F16.t2 (n0 : Nat) (B3 : WP) (B4 : WP) (l0 id1 i5 : Value) (ds : List Nat) (h : H) (K : KP) : Prop :=
  Bnd (aIndexAddr Try.prog 22 l0 i5) fun t14 =>
  Bnd (aLoad Try.prog 23 t14 h) fun t15 =>
  Bnd (aBin Try.prog false .eql 23 t15 id1) fun t17 =>
  Cnd t17
   (B3 [(0, l0), (1, id1), (5, i5)] ds h (KBlk [0, 1, 5] 1 (KSeq [0, 1, 5] B4 K)))
   (B4 [(0, l0), (1, id1), (5, i5)] ds h K)
theorem F16.g2 {n0 : Nat} (B3 : WP) (B4 : WP) (l0 id1 i5 : Value) {ds : List Nat} {h : H} {K : KP} : wA Try.prog n0 18 none (.seq [0, 1, 5] (.block [0, 1, 5] 1 (.seq [0, 1, 5, 17] F16.c2.fst.fst.fst (.cond [0, 1, 5] (.tmp 17) (.sub B3) F16.c2.fst.fst.snd.snd))) (.sub B4)) [(0, l0), (1, id1), (5, i5)] ds h K = F16.t2 n0 B3 B4 l0 id1 i5 ds h K := by kernel_rfl
theorem F16.s2 {n0 : Nat} : F16.p2 n0 = wA Try.prog n0 18 none (.seq [0, 1, 5] (.block [0, 1, 5] 1 (.seq [0, 1, 5, 17] F16.c2.fst.fst.fst (.cond [0, 1, 5] (.tmp 17) (.sub (F16.p3 n0)) F16.c2.fst.fst.snd.snd))) (.sub (F16.p4 n0))) := by kernel_rfl
theorem F16.e2 {n0 : Nat} {l0 id1 i5 : Value} {ds : List Nat} {h : H} {K : KP} : F16.p2 n0 [(0, l0), (1, id1), (5, i5)] ds h K = F16.t2 n0 (F16.p3 n0) (F16.p4 n0) l0 id1 i5 ds h K :=
  wchain (F16.s2) (F16.g2 (F16.p3 n0) (F16.p4 n0) l0 id1 i5)
noncomputable def F16.t3 (n0 : Nat) (l0 id1 i5 : Value) (ds : List Nat) (h : H) (K : KP) : Prop :=
  K .ret [(4, (.bool true))] ds h
theorem F16.g3 {n0 : Nat} (l0 id1 i5 : Value) {ds : List Nat} {h : H} {K : KP} : wA Try.prog n0 18 none F16.c3 [(0, l0), (1, id1), (5, i5)] ds h K = F16.t3 n0 l0 id1 i5 ds h K := by kernel_rfl
theorem F16.s3 {n0 : Nat} : F16.p3 n0 = wA Try.prog n0 18 none F16.c3 := by kernel_rfl
theorem F16.e3 {n0 : Nat} {l0 id1 i5 : Value} {ds : List Nat} {h : H} {K : KP} : F16.p3 n0 [(0, l0), (1, id1), (5, i5)] ds h K = F16.t3 n0 l0 id1 i5 ds h K :=
  wchain (F16.s3) (F16.g3 l0 id1 i5)
noncomputable def F16.t4 (n0 : Nat) (l0 id1 i5 : Value) (ds : List Nat) (h : H) (K : KP) : Prop :=
  Bnd (aBin Try.prog true .add 3 i5 (.int .i64 1)) fun t11 =>
  K .normal [(0, l0), (1, id1), (5, t11), (10, i5), (11, t11)] ds h
theorem F16.g4 {n0 : Nat} (l0 id1 i5 : Value) {ds : List Nat} {h : H} {K : KP} : wA Try.prog n0 18 none F16.c4 [(0, l0), (1, id1), (5, i5)] ds h K = F16.t4 n0 l0 id1 i5 ds h K := by kernel_rfl
theorem F16.s4 {n0 : Nat} : F16.p4 n0 = wA Try.prog n0 18 none F16.c4 := by kernel_rfl
theorem F16.e4 {n0 : Nat} {l0 id1 i5 : Value} {ds : List Nat} {h : H} {K : KP} : F16.p4 n0 [(0, l0), (1, id1), (5, i5)] ds h K = F16.t4 n0 l0 id1 i5 ds h K :=
  wchain (F16.s4) (F16.g4 l0 id1 i5)
noncomputable def F16.t5 (n0 : Nat) (ds : List Nat) (h : H) (K : KP) : Prop :=
  K .ret [(4, (.bool false))] ds h
theorem F16.g5 {n0 : Nat} {ds : List Nat} {h : H} {K : KP} : wA Try.prog n0 18 none F16.c5 [] ds h K = F16.t5 n0  ds h K := by kernel_rfl
theorem F16.s5 {n0 : Nat} : F16.p5 n0 = wA Try.prog n0 18 none F16.c5 := by kernel_rfl
theorem F16.e5 {n0 : Nat} {ds : List Nat} {h : H} {K : KP} : F16.p5 n0 [] ds h K = F16.t5 n0  ds h K :=
  wchain (F16.s5) (F16.g5)
theorem F16.b : Try.f16.body = some F16.c0.erase := by kernel_rfl
theorem F16.b2 : (Try.f16.name == "runtime.NumGoroutine") = false := by kernel_rfl
theorem F16.b3 : Try.f16.ntmps = 18 := by kernel_rfl
theorem F16.b4 : Try.f16.results.toList = [.tmp 4] := by kernel_rfl
theorem F16.enter {n0 : Nat} {x0 x1 : Value} {h : H} {Q : Value → H → Prop} (w : F16.p0 n0 [(0, x0), (1, x1)] [] h (KFin Try.prog [.tmp 4] Q)) : Cn Try.prog n0 (.func 16) [x0, x1] h Q :=
  @fn_enter Try.prog n0 mixed 16 Try.f16 F16.c0 [x0, x1] h Q Try.func16 F16.b F16.k0 F16.b2 18 F16.b3 [.tmp 4] F16.b4 (by simp) [(0, x0), (1, x1)] rfl (wback F16.d0 w)

/-! roster.rosterlaw04.roomy -/
noncomputable def F13.ac : AC := (ann (bodyOf Try.f13) [[0], [0, 3], [0, 3], [0, 3], [0, 3, 4], [0, 3], [0, 3, 4], [0, 3, 4], [0, 3, 4, 17], [0, 3, 4], [0, 3, 4], [0, 3, 4], [2]]).1
noncomputable def F13.c0 : AC := F13.ac
noncomputable def F13.c1 : AC := F13.ac.snd.snd.snd.fst.snd.fst.fst
noncomputable def F13.c2 : AC := F13.ac.snd.snd.snd.fst.snd.fst.fst.snd
noncomputable def F13.c3 : AC := F13.ac.snd.snd.snd.fst.snd.fst.fst.snd.snd
noncomputable def F13.c4 : AC := F13.ac.snd.snd.snd.snd
noncomputable def F13.p0 (n0 : Nat) : WP := wA Try.prog n0 27 none F13.c0
noncomputable def F13.p1 (n0 : Nat) : WP := wA Try.prog n0 27 none F13.c1
noncomputable def F13.p2 (n0 : Nat) : WP := wA Try.prog n0 27 none F13.c2
noncomputable def F13.p3 (n0 : Nat) : WP := wA Try.prog n0 27 none F13.c3
noncomputable def F13.p4 (n0 : Nat) : WP := wA Try.prog n0 27 none F13.c4
noncomputable def F13.t0 (n0 : Nat) (B1 : WP) (B4 : WP) (l0 : Value) (ds : List Nat) (h : H) (K : KP) : Prop :=
  Bnd2 (aBuiltin Try.prog .len #[22] [l0] h) fun t6 h1 =>
  Bnd (aBin Try.prog true .add 3 t6 (.int .i64 9)) fun t7 =>
  Bnd2 (aMakeSlice Try.prog 22 t7 t7 h1) fun t8 h2 =>
  Bnd2 (aBuiltin Try.prog .copy #[22, 22] [t8, l0] h2) fun t11 h3 =>
  Bnd2 (aBuiltin Try.prog .len #[22] [l0] h3) fun t13 h4 =>
  Lp [0, 3, 4] B1 [(0, l0), (3, t8), (4, t13)] ds h4 (KBlk [0, 3] 0 (KSeq [0, 3] B4 K))
theorem F13.g0 {n0 : Nat} (B1 : WP) (B4 : WP) (l0 : Value) {ds : List Nat} {h : H} {K : KP} : wA Try.prog n0 27 none (.seq [0] F13.c0.fst (.seq [0, 3] F13.c0.snd.fst (.seq [0, 3] F13.c0.snd.snd.fst (.seq [0, 3] (.seq [0, 3, 4] F13.c0.snd.snd.snd.fst.fst (.block [0, 3] 0 (.loop [0, 3, 4] (.sub B1)))) (.sub B4))))) [(0, l0)] ds h K = F13.t0 n0 B1 B4 l0 ds h K := by kernel_rfl
theorem F13.s0 {n0 : Nat} : F13.p0 n0 = wA Try.prog n0 27 none (.seq [0] F13.c0.fst (.seq [0, 3] F13.c0.snd.fst (.seq [0, 3] F13.c0.snd.snd.fst (.seq [0, 3] (.seq [0, 3, 4] F13.c0.snd.snd.snd.fst.fst (.block [0, 3] 0 (.loop [0, 3, 4] (.sub (F13.p1 n0))))) (.sub (F13.p4 n0)))))) := by kernel_rfl
theorem F13.e0 {n0 : Nat} {l0 : Value} {ds : List Nat} {h : H} {K : KP} : F13.p0 n0 [(0, l0)] ds h K = F13.t0 n0 (F13.p1 n0) (F13.p4 n0) l0 ds h K :=
  wchain (F13.s0) (F13.g0 (F13.p1 n0) (F13.p4 n0) l0)
theorem F13.k0 : F13.c0.ok = true := by kernel_rfl
theorem F13.d0 {n0 : Nat} : F13.p0 n0 = wA Try.prog n0 27 none F13.c0 := by kernel_rfl
theorem F13.m0 (n0 : Nat) : MonoW (F13.p0 n0) := @mono_c Try.prog n0 27 none F13.c0 (F13.p0 n0) (F13.d0) F13.k0
noncomputable def F13.t1 (n0 : Nat) (B2 : WP) (l0 x3 i4 : Value) (ds : List Nat) (h : H) (K : KP) : Prop :=
  Bnd2 (aBuiltin Try.prog .len #[22] [x3] h) fun t16 h1 =>
  Bnd (aBin Try.prog false .lss 3 i4 t16) fun t17 =>
  Cnd t17
   (B2 [(0, l0), (3, x3), (4, i4)] ds h1 K)
   (K (.exit 0) [(0, l0), (3, x3), (4, i4)] ds h1)
theorem F13.g1 {n0 : Nat} (B2 : WP) (l0 x3 i4 : Value) {ds : List Nat} {h : H} {K : KP} : wA Try.prog n0 27 none (.seq [0, 3, 4] F13.c1.fst (.sub B2)) [(0, l0), (3, x3), (4, i4)] ds h K = F13.t1 n0 B2 l0 x3 i4 ds h K := by kernel_rfl
theorem F13.s1 {n0 : Nat} : F13.p1 n0 = wA Try.prog n0 27 none (.seq [0, 3, 4] F13.c1.fst (.sub (F13.p2 n0))) := by kernel_rfl
theorem F13.e1 {n0 : Nat} {l0 x3 i4 : Value} {ds : List Nat} {h : H} {K : KP} : F13.p1 n0 [(0, l0), (3, x3), (4, i4)] ds h K = F13.t1 n0 (F13.p2 n0) l0 x3 i4 ds h K :=
  wchain (F13.s1) (F13.g1 (F13.p2 n0) l0 x3 i4)
theorem F13.k1 : F13.c1.ok = true := by kernel_rfl
theorem F13.d1 {n0 : Nat} : F13.p1 n0 = wA Try.prog n0 27 none F13.c1 := by kernel_rfl
theorem F13.m1 (n0 : Nat) : MonoW (F13.p1 n0) := @mono_c Try.prog n0 27 none F13.c1 (F13.p1 n0) (F13.d1) F13.k1
noncomputable def F13.t2 (n0 : Nat) (B3 : WP) (l0 x3 i4 : Value) (ds : List Nat) (h : H) (K : KP) : Prop :=
  Bnd (aIndexAddr Try.prog 22 x3 i4) fun t22 =>
  Bnd (aStore Try.prog 23 t22 (.int .u64 42405) h) fun h1 =>
  B3 [(0, l0), (3, x3), (4, i4)] ds h1 K
theorem F13.g2 {n0 : Nat} (B3 : WP) (l0 x3 i4 : Value) {ds : List Nat} {h : H} {K : KP} : wA Try.prog n0 27 none (.seq [0, 3, 4] F13.c2.fst (.sub B3)) [(0, l0), (3, x3), (4, i4)] ds h K = F13.t2 n0 B3 l0 x3 i4 ds h K := by kernel_rfl
theorem F13.s2 {n0 : Nat} : F13.p2 n0 = wA Try.prog n0 27 none (.seq [0, 3, 4] F13.c2.fst (.sub (F13.p3 n0))) := by kernel_rfl
theorem F13.e2 {n0 : Nat} {l0 x3 i4 : Value} {ds : List Nat} {h : H} {K : KP} : F13.p2 n0 [(0, l0), (3, x3), (4, i4)] ds h K = F13.t2 n0 (F13.p3 n0) l0 x3 i4 ds h K :=
  wchain (F13.s2) (F13.g2 (F13.p3 n0) l0 x3 i4)
noncomputable def F13.t3 (n0 : Nat) (l0 x3 i4 : Value) (ds : List Nat) (h : H) (K : KP) : Prop :=
  Bnd (aBin Try.prog true .add 3 i4 (.int .i64 1)) fun t19 =>
  K .normal [(0, l0), (3, x3), (4, t19), (18, i4), (19, t19)] ds h
theorem F13.g3 {n0 : Nat} (l0 x3 i4 : Value) {ds : List Nat} {h : H} {K : KP} : wA Try.prog n0 27 none F13.c3 [(0, l0), (3, x3), (4, i4)] ds h K = F13.t3 n0 l0 x3 i4 ds h K := by kernel_rfl
theorem F13.s3 {n0 : Nat} : F13.p3 n0 = wA Try.prog n0 27 none F13.c3 := by kernel_rfl
theorem F13.e3 {n0 : Nat} {l0 x3 i4 : Value} {ds : List Nat} {h : H} {K : KP} : F13.p3 n0 [(0, l0), (3, x3), (4, i4)] ds h K = F13.t3 n0 l0 x3 i4 ds h K :=
  wchain (F13.s3) (F13.g3 l0 x3 i4)
noncomputable def F13.t4 (n0 : Nat) (l0 x3 : Value) (ds : List Nat) (h : H) (K : KP) : Prop :=
  Bnd2 (aBuiltin Try.prog .len #[22] [l0] h) fun t25 h1 =>
  Bnd (aSlice Try.prog 22 x3 none (some t25) none h1) fun t26 =>
  K .ret [(2, t26)] ds h1
theorem F13.g4 {n0 : Nat} (l0 x3 : Value) {ds : List Nat} {h : H} {K : KP} : wA Try.prog n0 27 none F13.c4 [(0, l0), (3, x3)] ds h K = F13.t4 n0 l0 x3 ds h K := by kernel_rfl
theorem F13.s4 {n0 : Nat} : F13.p4 n0 = wA Try.prog n0 27 none F13.c4 := by kernel_rfl
theorem F13.e4 {n0 : Nat} {l0 x3 : Value} {ds : List Nat} {h : H} {K : KP} : F13.p4 n0 [(0, l0), (3, x3)] ds h K = F13.t4 n0 l0 x3 ds h K :=
  wchain (F13.s4) (F13.g4 l0 x3)
theorem F13.b : Try.f13.body = some F13.c0.erase := by kernel_rfl
theorem F13.b2 : (Try.f13.name == "runtime.NumGoroutine") = false := by kernel_rfl
theorem F13.b3 : Try.f13.ntmps = 27 := by kernel_rfl
theorem F13.b4 : Try.f13.results.toList = [.tmp 2] := by kernel_rfl
theorem F13.enter {n0 : Nat} {x0 : Value} {h : H} {Q : Value → H → Prop} (w : F13.p0 n0 [(0, x0)] [] h (KFin Try.prog [.tmp 2] Q)) : Cn Try.prog n0 (.func 13) [x0] h Q :=
  @fn_enter Try.prog n0 mixed 13 Try.f13 F13.c0 [x0] h Q Try.func13 F13.b F13.k0 F13.b2 27 F13.b3 [.tmp 2] F13.b4 (by simp) [(0, x0)] rfl (wback F13.d0 w)

/-! roster.rosterlaw04.kept -/
noncomputable def F17.ac : AC := (ann (bodyOf Try.f17) [[0, 1], [0, 1, 5], [0, 1], [0, 1, 5, 6], [0, 1], [0, 1, 5, 6], [0, 1, 5, 6], [0, 1, 5, 6, 17], [0, 1, 5, 6], [0, 1, 5, 6], [0, 1, 5, 6], [0, 1, 5, 6, 24], [0, 1, 5, 6], [4], [4]]).1
noncomputable def F17.c0 : AC := F17.ac
noncomputable def F17.c1 : AC := F17.ac.snd.snd.fst.snd.fst.fst
noncomputable def F17.c2 : AC := F17.ac.snd.snd.fst.snd.fst.fst.snd
noncomputable def F17.c3 : AC := F17.ac.snd.snd.fst.snd.fst.fst.snd.fst.fst.snd.fst
noncomputable def F17.c4 : AC := F17.ac.snd.snd.fst.snd.fst.fst.snd.snd
noncomputable def F17.c5 : AC := F17.ac.snd.snd.snd
noncomputable def F17.p0 (n0 : Nat) : WP := wA Try.prog n0 28 none F17.c0
noncomputable def F17.p1 (n0 : Nat) : WP := wA Try.prog n0 28 none F17.c1
noncomputable def F17.p2 (n0 : Nat) : WP := wA Try.prog n0 28 none F17.c2
noncomputable def F17.p3 (n0 : Nat) : WP := wA Try.prog n0 28 none F17.c3
noncomputable def F17.p4 (n0 : Nat) : WP := wA Try.prog n0 28 none F17.c4
noncomputable def F17.p5 (n0 : Nat) : WP := wA Try.prog n0 28 none F17.c5
noncomputable def F17.t0 (n0 : Nat) (B1 : WP) (B5 : WP) (x0 l1 : Value) (ds : List Nat) (h : H) (K : KP) : Prop :=
  Bnd2 (aBuiltin Try.prog .len #[22] [l1] h) fun t9 h1 =>
  Bnd (aBin Try.prog true .add 3 t9 (.int .i64 9)) fun t10 =>
  Bnd (aSlice Try.prog 22 x0 none (some t10) none h1) fun t11 =>
  Bnd2 (aBuiltin Try.prog .len #[22] [l1] h1) fun t13 h2 =>
  Lp [0, 1, 5, 6] B1 [(0, x0), (1, l1), (5, t11), (6, t13)] ds h2 (KBlk [0, 1] 0 (KSeq [0, 1] B5 K))
theorem F17.g0 {n0 : Nat} (B1 : WP) (B5 : WP) (x0 l1 : Value) {ds : List Nat} {h : H} {K : KP} : wA Try.prog n0 28 none (.seq [0, 1] F17.c0.fst (.seq [0, 1, 5] F17.c0.snd.fst (.seq [0, 1] (.seq [0, 1, 5, 6] F17.c0.snd.snd.fst.fst (.block [0, 1] 0 (.loop [0, 1, 5, 6] (.sub B1)))) (.sub B5)))) [(0, x0), (1, l1)] ds h K = F17.t0 n0 B1 B5 x0 l1 ds h K := by kernel_rfl
theorem F17.s0 {n0 : Nat} : F17.p0 n0 = wA Try.prog n0 28 none (.seq [0, 1] F17.c0.fst (.seq [0, 1, 5] F17.c0.snd.fst (.seq [0, 1] (.seq [0, 1, 5, 6] F17.c0.snd.snd.fst.fst (.block [0, 1] 0 (.loop [0, 1, 5, 6] (.sub (F17.p1 n0))))) (.sub (F17.p5 n0))))) := by kernel_rfl
theorem F17.e0 {n0 : Nat} {x0 l1 : Value} {ds : List Nat} {h : H} {K : KP} : F17.p0 n0 [(0, x0), (1, l1)] ds h K = F17.t0 n0 (F17.p1 n0) (F17.p5 n0) x0 l1 ds h K :=
  wchain (F17.s0) (F17.g0 (F17.p1 n0) (F17.p5 n0) x0 l1)
theorem F17.k0 : F17.c0.ok = true := by kernel_rfl
theorem F17.d0 {n0 : Nat} : F17.p0 n0 = wA Try.prog n0 28 none F17.c0 := by kernel_rfl
theorem F17.m0 (n0 : Nat) : MonoW (F17.p0 n0) := @mono_c Try.prog n0 28 none F17.c0 (F17.p0 n0) (F17.d0) F17.k0
noncomputable def F17.t1 (n0 : Nat) (B2 : WP) (x0 l1 room5 i6 : Value) (ds : List Nat) (h : H) (K : KP) : Prop :=
  Bnd2 (aBuiltin Try.prog .len #[22] [room5] h) fun t16 h1 =>
  Bnd (aBin Try.prog false .lss 3 i6 t16) fun t17 =>
  Cnd t17
   (B2 [(0, x0), (1, l1), (5, room5), (6, i6)] ds h1 K)
   (K (.exit 0) [(0, x0), (1, l1), (5, room5), (6, i6)] ds h1)
theorem F17.g1 {n0 : Nat} (B2 : WP) (x0 l1 room5 i6 : Value) {ds : List Nat} {h : H} {K : KP} : wA Try.prog n0 28 none (.seq [0, 1, 5, 6] F17.c1.fst (.sub B2)) [(0, x0), (1, l1), (5, room5), (6, i6)] ds h K = F17.t1 n0 B2 x0 l1 room5 i6 ds h K := by kernel_rfl
theorem F17.s1 {n0 : Nat} : F17.p1 n0 = wA Try.prog n0 28 none (.seq [0, 1, 5, 6] F17.c1.fst (.sub (F17.p2 n0))) := by kernel_rfl
theorem F17.e1 {n0 : Nat} {x0 l1 room5 i6 : Value} {ds : List Nat} {h : H} {K : KP} : F17.p1 n0 [(0, x0), (1, l1), (5, room5), (6, i6)] ds h K = F17.t1 n0 (F17.p2 n0) x0 l1 room5 i6 ds h K :=
  wchain (F17.s1) (F17.g1 (F17.p2 n0) x0 l1 room5 i6)
theorem F17.k1 : F17.c1.ok = true := by kernel_rfl
theorem F17.d1 {n0 : Nat} : F17.p1 n0 = wA Try.prog n0 28 none F17.c1 := by kernel_rfl
theorem F17.m1 (n0 : Nat) : MonoW (F17.p1 n0) := @mono_c Try.prog n0 28 none F17.c1 (F17.p1 n0) (F17.d1) F17.k1
noncomputable def F17.t2 (n0 : Nat) (B3 : WP) (B4 : WP) (x0 l1 room5 i6 : Value) (ds : List Nat) (h : H) (K : KP) : Prop :=
  Bnd (aIndexAddr Try.prog 22 room5 i6) fun t22 =>
  Bnd (aLoad Try.prog 23 t22 h) fun t23 =>
  Bnd (aBin Try.prog true .neq 23 t23 (.int .u64 42405)) fun t24 =>
  Cnd t24
   (B3 [(0, x0), (1, l1), (5, room5), (6, i6)] ds h (KBlk [0, 1, 5, 6] 1 (KSeq [0, 1, 5, 6] B4 K)))
   (B4 [(0, x0), (1, l1), (5, room5), (6, i6)] ds h K)
theorem F17.g2 {n0 : Nat} (B3 : WP) (B4 : WP) (x0 l1 room5 i6 : Value) {ds : List Nat} {h : H} {K : KP} : wA Try.prog n0 28 none (.seq [0, 1, 5, 6] (.block [0, 1, 5, 6] 1 (.seq [0, 1, 5, 6, 24] F17.c2.fst.fst.fst (.cond [0, 1, 5, 6] (.tmp 24) (.sub B3) F17.c2.fst.fst.snd.snd))) (.sub B4)) [(0, x0), (1, l1), (5, room5), (6, i6)] ds h K = F17.t2 n0 B3 B4 x0 l1 room5 i6 ds h K := by kernel_rfl
theorem F17.s2 {n0 : Nat} : F17.p2 n0 = wA Try.prog n0 28 none (.seq [0, 1, 5, 6] (.block [0, 1, 5, 6] 1 (.seq [0, 1, 5, 6, 24] F17.c2.fst.fst.fst (.cond [0, 1, 5, 6] (.tmp 24) (.sub (F17.p3 n0)) F17.c2.fst.fst.snd.snd))) (.sub (F17.p4 n0))) := by kernel_rfl
theorem F17.e2 {n0 : Nat} {x0 l1 room5 i6 : Value} {ds : List Nat} {h : H} {K : KP} : F17.p2 n0 [(0, x0), (1, l1), (5, room5), (6, i6)] ds h K = F17.t2 n0 (F17.p3 n0) (F17.p4 n0) x0 l1 room5 i6 ds h K :=
  wchain (F17.s2) (F17.g2 (F17.p3 n0) (F17.p4 n0) x0 l1 room5 i6)
noncomputable def F17.t3 (n0 : Nat) (x0 l1 room5 i6 : Value) (ds : List Nat) (h : H) (K : KP) : Prop :=
  K .ret [(4, (.bool false))] ds h
theorem F17.g3 {n0 : Nat} (x0 l1 room5 i6 : Value) {ds : List Nat} {h : H} {K : KP} : wA Try.prog n0 28 none F17.c3 [(0, x0), (1, l1), (5, room5), (6, i6)] ds h K = F17.t3 n0 x0 l1 room5 i6 ds h K := by kernel_rfl
theorem F17.s3 {n0 : Nat} : F17.p3 n0 = wA Try.prog n0 28 none F17.c3 := by kernel_rfl
theorem F17.e3 {n0 : Nat} {x0 l1 room5 i6 : Value} {ds : List Nat} {h : H} {K : KP} : F17.p3 n0 [(0, x0), (1, l1), (5, room5), (6, i6)] ds h K = F17.t3 n0 x0 l1 room5 i6 ds h K :=
  wchain (F17.s3) (F17.g3 x0 l1 room5 i6)
noncomputable def F17.t4 (n0 : Nat) (x0 l1 room5 i6 : Value) (ds : List Nat) (h : H) (K : KP) : Prop :=
  Bnd (aBin Try.prog true .add 3 i6 (.int .i64 1)) fun t19 =>
  K .normal [(0, x0), (1, l1), (5, room5), (6, t19), (18, i6), (19, t19)] ds h
theorem F17.g4 {n0 : Nat} (x0 l1 room5 i6 : Value) {ds : List Nat} {h : H} {K : KP} : wA Try.prog n0 28 none F17.c4 [(0, x0), (1, l1), (5, room5), (6, i6)] ds h K = F17.t4 n0 x0 l1 room5 i6 ds h K := by kernel_rfl
theorem F17.s4 {n0 : Nat} : F17.p4 n0 = wA Try.prog n0 28 none F17.c4 := by kernel_rfl
theorem F17.e4 {n0 : Nat} {x0 l1 room5 i6 : Value} {ds : List Nat} {h : H} {K : KP} : F17.p4 n0 [(0, x0), (1, l1), (5, room5), (6, i6)] ds h K = F17.t4 n0 x0 l1 room5 i6 ds h K :=
  wchain (F17.s4) (F17.g4 x0 l1 room5 i6)
noncomputable def F17.t5 (n0 : Nat) (x0 l1 : Value) (ds : List Nat) (h : H) (K : KP) : Prop :=
  Cn Try.prog n0 (.func 22) [x0, l1] h fun t27 h1 =>
  K .ret [(4, t27)] ds h1
theorem F17.g5 {n0 : Nat} (x0 l1 : Value) {ds : List Nat} {h : H} {K : KP} : wA Try.prog n0 28 none F17.c5 [(0, x0), (1, l1)] ds h K = F17.t5 n0 x0 l1 ds h K := by kernel_rfl
theorem F17.s5 {n0 : Nat} : F17.p5 n0 = wA Try.prog n0 28 none F17.c5 := by kernel_rfl
theorem F17.e5 {n0 : Nat} {x0 l1 : Value} {ds : List Nat} {h : H} {K : KP} : F17.p5 n0 [(0, x0), (1, l1)] ds h K = F17.t5 n0 x0 l1 ds h K :=
  wchain (F17.s5) (F17.g5 x0 l1)
theorem F17.b : Try.f17.body = some F17.c0.erase := by kernel_rfl
theorem F17.b2 : (Try.f17.name == "runtime.NumGoroutine") = false := by kernel_rfl
theorem F17.b3 : Try.f17.ntmps = 28 := by kernel_rfl
theorem F17.b4 : Try.f17.results.toList = [.tmp 4] := by kernel_rfl
theorem F17.enter {n0 : Nat} {x0 x1 : Value} {h : H} {Q : Value → H → Prop} (w : F17.p0 n0 [(0, x0), (1, x1)] [] h (KFin Try.prog [.tmp 4] Q)) : Cn Try.prog n0 (.func 17) [x0, x1] h Q :=
  @fn_enter Try.prog n0 mixed 17 Try.f17 F17.c0 [x0, x1] h Q Try.func17 F17.b F17.k0 F17.b2 28 F17.b3 [.tmp 4] F17.b4 (by simp) [(0, x0), (1, x1)] rfl (wback F17.d0 w)

end Go.Proofs.Ytjdcdabbbmhffaa
