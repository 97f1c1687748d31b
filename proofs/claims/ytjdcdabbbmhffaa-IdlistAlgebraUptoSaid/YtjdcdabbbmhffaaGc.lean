/- The texts of Go functions of this seat, as the evaluator comes to them: each is what wA says of the code. No condition. -/
import Derived.Test.YtjdcdabbbmhffaaEvAc3
import Derived.Test.YtjdcdabbbmhffaaSeat
set_option linter.unusedVariables false
namespace Go.Proofs.Ytjdcdabbbmhffaa
open Go.Ev

/-! roster.idlist.Meet -/
noncomputable def F35.ac : AC := (ann (bodyOf Try.f35) [[0, 1], [4]]).1
noncomputable def F35.c0 : AC := F35.ac
noncomputable def F35.p0 (n0 : Nat) : WP := wA Try.prog n0 8 none F35.c0
noncomputable def F35.t0 (n0 : Nat) (a0 b1 : Value) (ds : List Nat) (h : H) (K : KP) : Prop :=
  Cn Try.prog n0 (.func 54) [a0, b1, (.bool true)] h fun t7 h1 =>
  K .ret [(4, t7)] ds h1
theorem F35.g0 {n0 : Nat} (a0 b1 : Value) {ds : List Nat} {h : H} {K : KP} : wA Try.prog n0 8 none F35.c0 [(0, a0), (1, b1)] ds h K = F35.t0 n0 a0 b1 ds h K := by kernel_rfl
theorem F35.s0 {n0 : Nat} : F35.p0 n0 = wA Try.prog n0 8 none F35.c0 := by kernel_rfl
theorem F35.e0 {n0 : Nat} {a0 b1 : Value} {ds : List Nat} {h : H} {K : KP} : F35.p0 n0 [(0, a0), (1, b1)] ds h K = F35.t0 n0 a0 b1 ds h K :=
  wchain (F35.s0) (F35.g0 a0 b1)
theorem F35.k0 : F35.c0.ok = true := by kernel_rfl
theorem F35.d0 {n0 : Nat} : F35.p0 n0 = wA Try.prog n0 8 none F35.c0 := by kernel_rfl
theorem F35.m0 (n0 : Nat) : MonoW (F35.p0 n0) := @mono_c Try.prog n0 8 none F35.c0 (F35.p0 n0) (F35.d0) F35.k0
theorem F35.b : Try.f35.body = some F35.c0.erase := by kernel_rfl
theorem F35.b2 : (Try.f35.name == "runtime.NumGoroutine") = false := by kernel_rfl
theorem F35.b3 : Try.f35.ntmps = 8 := by kernel_rfl
theorem F35.b4 : Try.f35.results.toList = [.tmp 4] := by kernel_rfl
theorem F35.enter {n0 : Nat} {x0 x1 : Value} {h : H} {Q : Value → H → Prop} (w : F35.p0 n0 [(0, x0), (1, x1)] [] h (KFin Try.prog [.tmp 4] Q)) : Cn Try.prog n0 (.func 35) [x0, x1] h Q :=
  @fn_enter Try.prog n0 mixed 35 Try.f35 F35.c0 [x0, x1] h Q Try.func35 F35.b F35.k0 F35.b2 8 F35.b3 [.tmp 4] F35.b4 (by simp) [(0, x0), (1, x1)] rfl (wback F35.d0 w)

/-! roster.idlist.Less -/
noncomputable def F36.ac : AC := (ann (bodyOf Try.f36) [[0, 1], [4]]).1
noncomputable def F36.c0 : AC := F36.ac
noncomputable def F36.p0 (n0 : Nat) : WP := wA Try.prog n0 8 none F36.c0
noncomputable def F36.t0 (n0 : Nat) (a0 b1 : Value) (ds : List Nat) (h : H) (K : KP) : Prop :=
  Cn Try.prog n0 (.func 54) [a0, b1, (.bool false)] h fun t7 h1 =>
  K .ret [(4, t7)] ds h1
theorem F36.g0 {n0 : Nat} (a0 b1 : Value) {ds : List Nat} {h : H} {K : KP} : wA Try.prog n0 8 none F36.c0 [(0, a0), (1, b1)] ds h K = F36.t0 n0 a0 b1 ds h K := by kernel_rfl
theorem F36.s0 {n0 : Nat} : F36.p0 n0 = wA Try.prog n0 8 none F36.c0 := by kernel_rfl
theorem F36.e0 {n0 : Nat} {a0 b1 : Value} {ds : List Nat} {h : H} {K : KP} : F36.p0 n0 [(0, a0), (1, b1)] ds h K = F36.t0 n0 a0 b1 ds h K :=
  wchain (F36.s0) (F36.g0 a0 b1)
theorem F36.k0 : F36.c0.ok = true := by kernel_rfl
theorem F36.d0 {n0 : Nat} : F36.p0 n0 = wA Try.prog n0 8 none F36.c0 := by kernel_rfl
theorem F36.m0 (n0 : Nat) : MonoW (F36.p0 n0) := @mono_c Try.prog n0 8 none F36.c0 (F36.p0 n0) (F36.d0) F36.k0
theorem F36.b : Try.f36.body = some F36.c0.erase := by kernel_rfl
theorem F36.b2 : (Try.f36.name == "runtime.NumGoroutine") = false := by kernel_rfl
theorem F36.b3 : Try.f36.ntmps = 8 := by kernel_rfl
theorem F36.b4 : Try.f36.results.toList = [.tmp 4] := by kernel_rfl
theorem F36.enter {n0 : Nat} {x0 x1 : Value} {h : H} {Q : Value → H → Prop} (w : F36.p0 n0 [(0, x0), (1, x1)] [] h (KFin Try.prog [.tmp 4] Q)) : Cn Try.prog n0 (.func 36) [x0, x1] h Q :=
  @fn_enter Try.prog n0 mixed 36 Try.f36 F36.c0 [x0, x1] h Q Try.func36 F36.b F36.k0 F36.b2 8 F36.b3 [.tmp 4] F36.b4 (by simp) [(0, x0), (1, x1)] rfl (wback F36.d0 w)

/-! roster.idlist.Put -/
noncomputable def F38.ac : AC := (ann (bodyOf Try.f38) [[0, 1], [4]]).1
noncomputable def F38.c0 : AC := F38.ac
noncomputable def F38.p0 (n0 : Nat) : WP := wA Try.prog n0 10 none F38.c0
noncomputable def F38.t0 (n0 : Nat) (l0 id1 : Value) (ds : List Nat) (h : H) (K : KP) : Prop :=
  Cn Try.prog n0 (.func 44) [l0] h fun t6 h1 =>
  Bnd2 (aBuildSlice Try.prog 22 1 [(0, id1)] h1) fun t8 h2 =>
  Cn Try.prog n0 (.func 51) [t6, t8] h2 fun t9 h3 =>
  K .ret [(4, t9)] ds h3
theorem F38.g0 {n0 : Nat} (l0 id1 : Value) {ds : List Nat} {h : H} {K : KP} : wA Try.prog n0 10 none F38.c0 [(0, l0), (1, id1)] ds h K = F38.t0 n0 l0 id1 ds h K := by kernel_rfl
theorem F38.s0 {n0 : Nat} : F38.p0 n0 = wA Try.prog n0 10 none F38.c0 := by kernel_rfl
theorem F38.e0 {n0 : Nat} {l0 id1 : Value} {ds : List Nat} {h : H} {K : KP} : F38.p0 n0 [(0, l0), (1, id1)] ds h K = F38.t0 n0 l0 id1 ds h K :=
  wchain (F38.s0) (F38.g0 l0 id1)
theorem F38.k0 : F38.c0.ok = true := by kernel_rfl
theorem F38.d0 {n0 : Nat} : F38.p0 n0 = wA Try.prog n0 10 none F38.c0 := by kernel_rfl
theorem F38.m0 (n0 : Nat) : MonoW (F38.p0 n0) := @mono_c Try.prog n0 10 none F38.c0 (F38.p0 n0) (F38.d0) F38.k0
theorem F38.b : Try.f38.body = some F38.c0.erase := by kernel_rfl
theorem F38.b2 : (Try.f38.name == "runtime.NumGoroutine") = false := by kernel_rfl
theorem F38.b3 : Try.f38.ntmps = 10 := by kernel_rfl
theorem F38.b4 : Try.f38.results.toList = [.tmp 4] := by kernel_rfl
theorem F38.enter {n0 : Nat} {x0 x1 : Value} {h : H} {Q : Value → H → Prop} (w : F38.p0 n0 [(0, x0), (1, x1)] [] h (KFin Try.prog [.tmp 4] Q)) : Cn Try.prog n0 (.func 38) [x0, x1] h Q :=
  @fn_enter Try.prog n0 mixed 38 Try.f38 F38.c0 [x0, x1] h Q Try.func38 F38.b F38.k0 F38.b2 10 F38.b3 [.tmp 4] F38.b4 (by simp) [(0, x0), (1, x1)] rfl (wback F38.d0 w)

/-! roster.idlist.Drop -/
noncomputable def F39.ac : AC := (ann (bodyOf Try.f39) [[0, 1], [4]]).1
noncomputable def F39.c0 : AC := F39.ac
noncomputable def F39.p0 (n0 : Nat) : WP := wA Try.prog n0 9 none F39.c0
noncomputable def F39.t0 (n0 : Nat) (l0 id1 : Value) (ds : List Nat) (h : H) (K : KP) : Prop :=
  Bnd2 (aBuildSlice Try.prog 22 1 [(0, id1)] h) fun t7 h1 =>
  Cn Try.prog n0 (.func 54) [l0, t7, (.bool false)] h1 fun t8 h2 =>
  K .ret [(4, t8)] ds h2
theorem F39.g0 {n0 : Nat} (l0 id1 : Value) {ds : List Nat} {h : H} {K : KP} : wA Try.prog n0 9 none F39.c0 [(0, l0), (1, id1)] ds h K = F39.t0 n0 l0 id1 ds h K := by kernel_rfl
theorem F39.s0 {n0 : Nat} : F39.p0 n0 = wA Try.prog n0 9 none F39.c0 := by kernel_rfl
theorem F39.e0 {n0 : Nat} {l0 id1 : Value} {ds : List Nat} {h : H} {K : KP} : F39.p0 n0 [(0, l0), (1, id1)] ds h K = F39.t0 n0 l0 id1 ds h K :=
  wchain (F39.s0) (F39.g0 l0 id1)
theorem F39.k0 : F39.c0.ok = true := by kernel_rfl
theorem F39.d0 {n0 : Nat} : F39.p0 n0 = wA Try.prog n0 9 none F39.c0 := by kernel_rfl
theorem F39.m0 (n0 : Nat) : MonoW (F39.p0 n0) := @mono_c Try.prog n0 9 none F39.c0 (F39.p0 n0) (F39.d0) F39.k0
theorem F39.b : Try.f39.body = some F39.c0.erase := by kernel_rfl
theorem F39.b2 : (Try.f39.name == "runtime.NumGoroutine") = false := by kernel_rfl
theorem F39.b3 : Try.f39.ntmps = 9 := by kernel_rfl
theorem F39.b4 : Try.f39.results.toList = [.tmp 4] := by kernel_rfl
theorem F39.enter {n0 : Nat} {x0 x1 : Value} {h : H} {Q : Value → H → Prop} (w : F39.p0 n0 [(0, x0), (1, x1)] [] h (KFin Try.prog [.tmp 4] Q)) : Cn Try.prog n0 (.func 39) [x0, x1] h Q :=
  @fn_enter Try.prog n0 mixed 39 Try.f39 F39.c0 [x0, x1] h Q Try.func39 F39.b F39.k0 F39.b2 9 F39.b3 [.tmp 4] F39.b4 (by simp) [(0, x0), (1, x1)] rfl (wback F39.d0 w)

/-! roster.idlist.keep -/
noncomputable def F54.ac : AC := (ann (bodyOf Try.f54) [[0, 1, 2], [0, 1, 2], [0, 1, 2, 7], [0, 1, 2, 7, 8], [7], [1, 2, 7, 8, 15, 16, 17], [7], [1, 2, 7, 8, 15, 16, 17], [1, 2, 7, 8, 15, 16, 17, 18], [1, 2, 7, 8, 15, 16, 17], [1, 2, 7, 8, 15, 16, 17], [1, 2, 7, 8, 15, 16, 17], [1, 2, 7, 8, 15, 16, 17], [1, 2, 7, 8, 10, 15, 16, 17], [1, 2, 7, 8, 10, 15, 16, 17], [1, 2, 7, 8, 10, 15, 16, 17, 38], [1, 2, 7, 8, 10, 15, 16, 17], [6]]).1
noncomputable def F54.c0 : AC := F54.ac
noncomputable def F54.c1 : AC := F54.ac.snd.snd.snd.snd.fst.snd.fst.fst
noncomputable def F54.c2 : AC := F54.ac.snd.snd.snd.snd.fst.snd.fst.fst.snd.snd
noncomputable def F54.c3 : AC := F54.ac.snd.snd.snd.snd.fst.snd.fst.fst.snd.snd.fst.fst.snd.snd.snd.fst
noncomputable def F54.c4 : AC := F54.ac.snd.snd.snd.snd.fst.snd.fst.fst.snd.snd.snd
noncomputable def F54.c5 : AC := F54.ac.snd.snd.snd.snd.snd
noncomputable def F54.p0 (n0 : Nat) : WP := wA Try.prog n0 45 none F54.c0
noncomputable def F54.p1 (n0 : Nat) : WP := wA Try.prog n0 45 none F54.c1
noncomputable def F54.p2 (n0 : Nat) : WP := wA Try.prog n0 45 none F54.c2
noncomputable def F54.p3 (n0 : Nat) : WP := wA Try.prog n0 45 none F54.c3
noncomputable def F54.p4 (n0 : Nat) : WP := wA Try.prog n0 45 none F54.c4
noncomputable def F54.p5 (n0 : Nat) : WP := wA Try.prog n0 45 none F54.c5
noncomputable def F54.t0 (n0 : Nat) (B1 : WP) (B5 : WP) (a0 b1 in2 : Value) (ds : List Nat) (h : H) (K : KP) : Prop :=
  Cn Try.prog n0 (.func 44) [a0] h fun t12 h1 =>
  Cn Try.prog n0 (.func 44) [b1] h1 fun t14 h2 =>
  Bnd2 (aBuiltin Try.prog .len #[22] [t12] h2) fun t16 h3 =>
  Lp [1, 2, 7, 8, 15, 16, 17] B1 [(1, t14), (2, in2), (7, (.slice none 0 0)), (8, (.int .i64 0)), (15, t12), (16, t16), (17, (.int .i64 0))] ds h3 (KBlk [7] 0 (KSeq [7] B5 K))
theorem F54.g0 {n0 : Nat} (B1 : WP) (B5 : WP) (a0 b1 in2 : Value) {ds : List Nat} {h : H} {K : KP} : wA Try.prog n0 45 none (.seq [0, 1, 2] F54.c0.fst (.seq [0, 1, 2] F54.c0.snd.fst (.seq [0, 1, 2, 7] F54.c0.snd.snd.fst (.seq [0, 1, 2, 7, 8] F54.c0.snd.snd.snd.fst (.seq [7] (.seq [1, 2, 7, 8, 15, 16, 17] F54.c0.snd.snd.snd.snd.fst.fst (.block [7] 0 (.loop [1, 2, 7, 8, 15, 16, 17] (.sub B1)))) (.sub B5)))))) [(0, a0), (1, b1), (2, in2)] ds h K = F54.t0 n0 B1 B5 a0 b1 in2 ds h K := by kernel_rfl
theorem F54.s0 {n0 : Nat} : F54.p0 n0 = wA Try.prog n0 45 none (.seq [0, 1, 2] F54.c0.fst (.seq [0, 1, 2] F54.c0.snd.fst (.seq [0, 1, 2, 7] F54.c0.snd.snd.fst (.seq [0, 1, 2, 7, 8] F54.c0.snd.snd.snd.fst (.seq [7] (.seq [1, 2, 7, 8, 15, 16, 17] F54.c0.snd.snd.snd.snd.fst.fst (.block [7] 0 (.loop [1, 2, 7, 8, 15, 16, 17] (.sub (F54.p1 n0))))) (.sub (F54.p5 n0))))))) := by kernel_rfl
theorem F54.e0 {n0 : Nat} {a0 b1 in2 : Value} {ds : List Nat} {h : H} {K : KP} : F54.p0 n0 [(0, a0), (1, b1), (2, in2)] ds h K = F54.t0 n0 (F54.p1 n0) (F54.p5 n0) a0 b1 in2 ds h K :=
  wchain (F54.s0) (F54.g0 (F54.p1 n0) (F54.p5 n0) a0 b1 in2)
theorem F54.k0 : F54.c0.ok = true := by kernel_rfl
theorem F54.d0 {n0 : Nat} : F54.p0 n0 = wA Try.prog n0 45 none F54.c0 := by kernel_rfl
theorem F54.m0 (n0 : Nat) : MonoW (F54.p0 n0) := @mono_c Try.prog n0 45 none F54.c0 (F54.p0 n0) (F54.d0) F54.k0
noncomputable def F54.t1 (n0 : Nat) (B2 : WP) (b1 in2 out7 at8 t15 t16 t17 : Value) (ds : List Nat) (h : H) (K : KP) : Prop :=
  Bnd (aBin Try.prog false .lss 3 t17 t16) fun t18 =>
  Cnd t18
   (B2 [(1, b1), (2, in2), (7, out7), (8, at8), (15, t15), (16, t16), (17, t17)] ds h K)
   (K (.exit 0) [(1, b1), (2, in2), (7, out7), (8, at8), (15, t15), (16, t16), (17, t17)] ds h)
theorem F54.g1 {n0 : Nat} (B2 : WP) (b1 in2 out7 at8 t15 t16 t17 : Value) {ds : List Nat} {h : H} {K : KP} : wA Try.prog n0 45 none (.seq [1, 2, 7, 8, 15, 16, 17, 18] F54.c1.fst (.seq [1, 2, 7, 8, 15, 16, 17] F54.c1.snd.fst (.sub B2))) [(1, b1), (2, in2), (7, out7), (8, at8), (15, t15), (16, t16), (17, t17)] ds h K = F54.t1 n0 B2 b1 in2 out7 at8 t15 t16 t17 ds h K := by kernel_rfl
theorem F54.s1 {n0 : Nat} : F54.p1 n0 = wA Try.prog n0 45 none (.seq [1, 2, 7, 8, 15, 16, 17, 18] F54.c1.fst (.seq [1, 2, 7, 8, 15, 16, 17] F54.c1.snd.fst (.sub (F54.p2 n0)))) := by kernel_rfl
theorem F54.e1 {n0 : Nat} {b1 in2 out7 at8 t15 t16 t17 : Value} {ds : List Nat} {h : H} {K : KP} : F54.p1 n0 [(1, b1), (2, in2), (7, out7), (8, at8), (15, t15), (16, t16), (17, t17)] ds h K = F54.t1 n0 (F54.p2 n0) b1 in2 out7 at8 t15 t16 t17 ds h K :=
  wchain (F54.s1) (F54.g1 (F54.p2 n0) b1 in2 out7 at8 t15 t16 t17)
theorem F54.k1 : F54.c1.ok = true := by kernel_rfl
theorem F54.d1 {n0 : Nat} : F54.p1 n0 = wA Try.prog n0 45 none F54.c1 := by kernel_rfl
theorem F54.m1 (n0 : Nat) : MonoW (F54.p1 n0) := @mono_c Try.prog n0 45 none F54.c1 (F54.p1 n0) (F54.d1) F54.k1
noncomputable def F54.t2 (n0 : Nat) (B3 : WP) (B4 : WP) (b1 in2 out7 at8 t15 t16 t17 : Value) (ds : List Nat) (h : H) (K : KP) : Prop :=
  Bnd (aIndexAddr Try.prog 22 t15 t17) fun t19 =>
  Bnd (aLoad Try.prog 23 t19 h) fun t20 =>
  Cn Try.prog n0 (.func 42) [b1, at8, t20] h fun t24 h1 =>
  Bnd2 (aBuiltin Try.prog .len #[22] [b1] h1) fun t27 h2 =>
  Bnd (aBin Try.prog false .lss 3 t24 t27) fun t28 =>
  Gd t28
   (Bnd (aIndexAddr Try.prog 22 b1 t24) fun t32 =>
  Bnd (aLoad Try.prog 23 t32 h2) fun t33 =>
  Bnd (aBin Try.prog false .eql 23 t33 t20) fun t35 =>
  Bnd (aBin Try.prog false .eql 4 t35 in2) fun t38 =>
  Cnd t38
   (B3 [(1, b1), (2, in2), (7, out7), (8, t24), (10, t20), (15, t15), (16, t16), (17, t17)] ds h2 (KBlk [1, 2, 7, 8, 15, 16, 17] 1 (KSeq [1, 2, 7, 8, 15, 16, 17] B4 K)))
   (B4 [(1, b1), (2, in2), (7, out7), (8, t24), (15, t15), (16, t16), (17, t17)] ds h2 K))
   (Bnd (aBin Try.prog false .eql 4 (.bool false) in2) fun t38 =>
  Cnd t38
   (B3 [(1, b1), (2, in2), (7, out7), (8, t24), (10, t20), (15, t15), (16, t16), (17, t17)] ds h2 (KBlk [1, 2, 7, 8, 15, 16, 17] 1 (KSeq [1, 2, 7, 8, 15, 16, 17] B4 K)))
   (B4 [(1, b1), (2, in2), (7, out7), (8, t24), (15, t15), (16, t16), (17, t17)] ds h2 K))
theorem F54.g2 {n0 : Nat} (B3 : WP) (B4 : WP) (b1 in2 out7 at8 t15 t16 t17 : Value) {ds : List Nat} {h : H} {K : KP} : wA Try.prog n0 45 none (.seq [1, 2, 7, 8, 15, 16, 17] (.block [1, 2, 7, 8, 15, 16, 17] 1 (.seq [1, 2, 7, 8, 10, 15, 16, 17] F54.c2.fst.fst.fst (.seq [1, 2, 7, 8, 10, 15, 16, 17] F54.c2.fst.fst.snd.fst (.seq [1, 2, 7, 8, 10, 15, 16, 17, 38] F54.c2.fst.fst.snd.snd.fst (.cond [1, 2, 7, 8, 10, 15, 16, 17] (.tmp 38) (.sub B3) F54.c2.fst.fst.snd.snd.snd.snd))))) (.sub B4)) [(1, b1), (2, in2), (7, out7), (8, at8), (15, t15), (16, t16), (17, t17)] ds h K = F54.t2 n0 B3 B4 b1 in2 out7 at8 t15 t16 t17 ds h K := by kernel_rfl
theorem F54.s2 {n0 : Nat} : F54.p2 n0 = wA Try.prog n0 45 none (.seq [1, 2, 7, 8, 15, 16, 17] (.block [1, 2, 7, 8, 15, 16, 17] 1 (.seq [1, 2, 7, 8, 10, 15, 16, 17] F54.c2.fst.fst.fst (.seq [1, 2, 7, 8, 10, 15, 16, 17] F54.c2.fst.fst.snd.fst (.seq [1, 2, 7, 8, 10, 15, 16, 17, 38] F54.c2.fst.fst.snd.snd.fst (.cond [1, 2, 7, 8, 10, 15, 16, 17] (.tmp 38) (.sub (F54.p3 n0)) F54.c2.fst.fst.snd.snd.snd.snd))))) (.sub (F54.p4 n0))) := by kernel_rfl
theorem F54.e2 {n0 : Nat} {b1 in2 out7 at8 t15 t16 t17 : Value} {ds : List Nat} {h : H} {K : KP} : F54.p2 n0 [(1, b1), (2, in2), (7, out7), (8, at8), (15, t15), (16, t16), (17, t17)] ds h K = F54.t2 n0 (F54.p3 n0) (F54.p4 n0) b1 in2 out7 at8 t15 t16 t17 ds h K :=
  wchain (F54.s2) (F54.g2 (F54.p3 n0) (F54.p4 n0) b1 in2 out7 at8 t15 t16 t17)
noncomputable def F54.t3 (n0 : Nat) (b1 in2 out7 at8 id10 t15 t16 t17 : Value) (ds : List Nat) (h : H) (K : KP) : Prop :=
  Bnd2 (aBuildSlice Try.prog 22 1 [(0, id10)] h) fun t41 h1 =>
  Bnd2 (aBuiltin Try.prog .append #[22, 22] [out7, t41] h1) fun t42 h2 =>
  K .normal [(1, b1), (2, in2), (7, t42), (8, at8), (10, id10), (15, t15), (16, t16), (17, t17), (39, out7), (40, id10), (41, t41), (42, t42)] ds h2
theorem F54.g3 {n0 : Nat} (b1 in2 out7 at8 id10 t15 t16 t17 : Value) {ds : List Nat} {h : H} {K : KP} : wA Try.prog n0 45 none F54.c3 [(1, b1), (2, in2), (7, out7), (8, at8), (10, id10), (15, t15), (16, t16), (17, t17)] ds h K = F54.t3 n0 b1 in2 out7 at8 id10 t15 t16 t17 ds h K := by kernel_rfl
theorem F54.s3 {n0 : Nat} : F54.p3 n0 = wA Try.prog n0 45 none F54.c3 := by kernel_rfl
theorem F54.e3 {n0 : Nat} {b1 in2 out7 at8 id10 t15 t16 t17 : Value} {ds : List Nat} {h : H} {K : KP} : F54.p3 n0 [(1, b1), (2, in2), (7, out7), (8, at8), (10, id10), (15, t15), (16, t16), (17, t17)] ds h K = F54.t3 n0 b1 in2 out7 at8 id10 t15 t16 t17 ds h K :=
  wchain (F54.s3) (F54.g3 b1 in2 out7 at8 id10 t15 t16 t17)
noncomputable def F54.t4 (n0 : Nat) (b1 in2 out7 at8 t15 t16 t17 : Value) (ds : List Nat) (h : H) (K : KP) : Prop :=
  Bnd (aBin Try.prog true .add 3 t17 (.int .i64 1)) fun t43 =>
  K .normal [(1, b1), (2, in2), (7, out7), (8, at8), (15, t15), (16, t16), (17, t43), (43, t43)] ds h
theorem F54.g4 {n0 : Nat} (b1 in2 out7 at8 t15 t16 t17 : Value) {ds : List Nat} {h : H} {K : KP} : wA Try.prog n0 45 none F54.c4 [(1, b1), (2, in2), (7, out7), (8, at8), (15, t15), (16, t16), (17, t17)] ds h K = F54.t4 n0 b1 in2 out7 at8 t15 t16 t17 ds h K := by kernel_rfl
theorem F54.s4 {n0 : Nat} : F54.p4 n0 = wA Try.prog n0 45 none F54.c4 := by kernel_rfl
theorem F54.e4 {n0 : Nat} {b1 in2 out7 at8 t15 t16 t17 : Value} {ds : List Nat} {h : H} {K : KP} : F54.p4 n0 [(1, b1), (2, in2), (7, out7), (8, at8), (15, t15), (16, t16), (17, t17)] ds h K = F54.t4 n0 b1 in2 out7 at8 t15 t16 t17 ds h K :=
  wchain (F54.s4) (F54.g4 b1 in2 out7 at8 t15 t16 t17)
noncomputable def F54.t5 (n0 : Nat) (out7 : Value) (ds : List Nat) (h : H) (K : KP) : Prop :=
  K .ret [(6, out7)] ds h
theorem F54.g5 {n0 : Nat} (out7 : Value) {ds : List Nat} {h : H} {K : KP} : wA Try.prog n0 45 none F54.c5 [(7, out7)] ds h K = F54.t5 n0 out7 ds h K := by kernel_rfl
theorem F54.s5 {n0 : Nat} : F54.p5 n0 = wA Try.prog n0 45 none F54.c5 := by kernel_rfl
theorem F54.e5 {n0 : Nat} {out7 : Value} {ds : List Nat} {h : H} {K : KP} : F54.p5 n0 [(7, out7)] ds h K = F54.t5 n0 out7 ds h K :=
  wchain (F54.s5) (F54.g5 out7)
theorem F54.b : Try.f54.body = some F54.c0.erase := by kernel_rfl
theorem F54.b2 : (Try.f54.name == "runtime.NumGoroutine") = false := by kernel_rfl
theorem F54.b3 : Try.f54.ntmps = 45 := by kernel_rfl
theorem F54.b4 : Try.f54.results.toList = [.tmp 6] := by kernel_rfl
theorem F54.enter {n0 : Nat} {x0 x1 x2 : Value} {h : H} {Q : Value → H → Prop} (w : F54.p0 n0 [(0, x0), (1, x1), (2, x2)] [] h (KFin Try.prog [.tmp 6] Q)) : Cn Try.prog n0 (.func 54) [x0, x1, x2] h Q :=
  @fn_enter Try.prog n0 mixed 54 Try.f54 F54.c0 [x0, x1, x2] h Q Try.func54 F54.b F54.k0 F54.b2 45 F54.b3 [.tmp 6] F54.b4 (by simp) [(0, x0), (1, x1), (2, x2)] rfl (wback F54.d0 w)

end Go.Proofs.Ytjdcdabbbmhffaa
