/- The texts of Go functions of this seat, as the evaluator comes to them: each is what wA says of the code. No condition. -/
import Derived.Test.YtjdcdabbbmhffaaEvAc3
import Derived.Test.YtjdcdabbbmhffaaSeat
set_option linter.unusedVariables false
namespace Go.Proofs.Ytjdcdabbbmhffaa
open Go.Ev

/-! roster.idlist.Right -/
noncomputable def F31.ac : AC := (ann (bodyOf Try.f31) [[0], [], [0, 3], [], [0, 3], [0, 3], [0, 3, 7], [0, 3], [0, 3], [0, 3], [0, 3, 19], [0, 3], [2], [2]]).1
noncomputable def F31.c0 : AC := F31.ac
noncomputable def F31.c1 : AC := F31.ac.snd.fst.snd.fst.fst
noncomputable def F31.c2 : AC := F31.ac.snd.fst.snd.fst.fst.snd
noncomputable def F31.c3 : AC := F31.ac.snd.fst.snd.fst.fst.snd.fst.fst.snd.fst
noncomputable def F31.c4 : AC := F31.ac.snd.fst.snd.fst.fst.snd.snd
noncomputable def F31.c5 : AC := F31.ac.snd.snd
noncomputable def F31.p0 (n0 : Nat) : WP := wA Try.prog n0 20 none F31.c0
noncomputable def F31.p1 (n0 : Nat) : WP := wA Try.prog n0 20 none F31.c1
noncomputable def F31.p2 (n0 : Nat) : WP := wA Try.prog n0 20 none F31.c2
noncomputable def F31.p3 (n0 : Nat) : WP := wA Try.prog n0 20 none F31.c3
noncomputable def F31.p4 (n0 : Nat) : WP := wA Try.prog n0 20 none F31.c4
noncomputable def F31.p5 (n0 : Nat) : WP := wA Try.prog n0 20 none F31.c5
noncomputable def F31.t0 (n0 : Nat) (B1 : WP) (B5 : WP) (l0 : Value) (ds : List Nat) (h : H) (K : KP) : Prop :=
  Lp [0, 3] B1 [(0, l0), (3, (.int .i64 1))] ds h (KBlk [] 0 (KSeq [] B5 K))
theorem F31.g0 {n0 : Nat} (B1 : WP) (B5 : WP) (l0 : Value) {ds : List Nat} {h : H} {K : KP} : wA Try.prog n0 20 none (.seq [0] F31.c0.fst (.seq [] (.seq [0, 3] F31.c0.snd.fst.fst (.block [] 0 (.loop [0, 3] (.sub B1)))) (.sub B5))) [(0, l0)] ds h K = F31.t0 n0 B1 B5 l0 ds h K := by kernel_rfl
theorem F31.s0 {n0 : Nat} : F31.p0 n0 = wA Try.prog n0 20 none (.seq [0] F31.c0.fst (.seq [] (.seq [0, 3] F31.c0.snd.fst.fst (.block [] 0 (.loop [0, 3] (.sub (F31.p1 n0))))) (.sub (F31.p5 n0)))) := by kernel_rfl
theorem F31.e0 {n0 : Nat} {l0 : Value} {ds : List Nat} {h : H} {K : KP} : F31.p0 n0 [(0, l0)] ds h K = F31.t0 n0 (F31.p1 n0) (F31.p5 n0) l0 ds h K :=
  wchain (F31.s0) (F31.g0 (F31.p1 n0) (F31.p5 n0) l0)
theorem F31.k0 : F31.c0.ok = true := by kernel_rfl
theorem F31.d0 {n0 : Nat} : F31.p0 n0 = wA Try.prog n0 20 none F31.c0 := by kernel_rfl
theorem F31.m0 (n0 : Nat) : MonoW (F31.p0 n0) := @mono_c Try.prog n0 20 none F31.c0 (F31.p0 n0) (F31.d0) F31.k0
noncomputable def F31.t1 (n0 : Nat) (B2 : WP) (l0 i3 : Value) (ds : List Nat) (h : H) (K : KP) : Prop :=
  Bnd2 (aBuiltin Try.prog .len #[22] [l0] h) fun t6 h1 =>
  Bnd (aBin Try.prog false .lss 3 i3 t6) fun t7 =>
  Cnd t7
   (B2 [(0, l0), (3, i3)] ds h1 K)
   (K (.exit 0) [(0, l0), (3, i3)] ds h1)
theorem F31.g1 {n0 : Nat} (B2 : WP) (l0 i3 : Value) {ds : List Nat} {h : H} {K : KP} : wA Try.prog n0 20 none (.seq [0, 3] F31.c1.fst (.sub B2)) [(0, l0), (3, i3)] ds h K = F31.t1 n0 B2 l0 i3 ds h K := by kernel_rfl
theorem F31.s1 {n0 : Nat} : F31.p1 n0 = wA Try.prog n0 20 none (.seq [0, 3] F31.c1.fst (.sub (F31.p2 n0))) := by kernel_rfl
theorem F31.e1 {n0 : Nat} {l0 i3 : Value} {ds : List Nat} {h : H} {K : KP} : F31.p1 n0 [(0, l0), (3, i3)] ds h K = F31.t1 n0 (F31.p2 n0) l0 i3 ds h K :=
  wchain (F31.s1) (F31.g1 (F31.p2 n0) l0 i3)
theorem F31.k1 : F31.c1.ok = true := by kernel_rfl
theorem F31.d1 {n0 : Nat} : F31.p1 n0 = wA Try.prog n0 20 none F31.c1 := by kernel_rfl
theorem F31.m1 (n0 : Nat) : MonoW (F31.p1 n0) := @mono_c Try.prog n0 20 none F31.c1 (F31.p1 n0) (F31.d1) F31.k1
noncomputable def F31.t2 (n0 : Nat) (B3 : WP) (B4 : WP) (l0 i3 : Value) (ds : List Nat) (h : H) (K : KP) : Prop :=
  Bnd (aBin Try.prog true .sub 3 i3 (.int .i64 1)) fun t12 =>
  Bnd (aIndexAddr Try.prog 22 l0 t12) fun t13 =>
  Bnd (aLoad Try.prog 23 t13 h) fun t14 =>
  Bnd (aIndexAddr Try.prog 22 l0 i3) fun t17 =>
  Bnd (aLoad Try.prog 23 t17 h) fun t18 =>
  Bnd (aBin Try.prog false .geq 23 t14 t18) fun t19 =>
  Cnd t19
   (B3 [(0, l0), (3, i3)] ds h (KBlk [0, 3] 1 (KSeq [0, 3] B4 K)))
   (B4 [(0, l0), (3, i3)] ds h K)
theorem F31.g2 {n0 : Nat} (B3 : WP) (B4 : WP) (l0 i3 : Value) {ds : List Nat} {h : H} {K : KP} : wA Try.prog n0 20 none (.seq [0, 3] (.block [0, 3] 1 (.seq [0, 3, 19] F31.c2.fst.fst.fst (.cond [0, 3] (.tmp 19) (.sub B3) F31.c2.fst.fst.snd.snd))) (.sub B4)) [(0, l0), (3, i3)] ds h K = F31.t2 n0 B3 B4 l0 i3 ds h K := by kernel_rfl
theorem F31.s2 {n0 : Nat} : F31.p2 n0 = wA Try.prog n0 20 none (.seq [0, 3] (.block [0, 3] 1 (.seq [0, 3, 19] F31.c2.fst.fst.fst (.cond [0, 3] (.tmp 19) (.sub (F31.p3 n0)) F31.c2.fst.fst.snd.snd))) (.sub (F31.p4 n0))) := by kernel_rfl
theorem F31.e2 {n0 : Nat} {l0 i3 : Value} {ds : List Nat} {h : H} {K : KP} : F31.p2 n0 [(0, l0), (3, i3)] ds h K = F31.t2 n0 (F31.p3 n0) (F31.p4 n0) l0 i3 ds h K :=
  wchain (F31.s2) (F31.g2 (F31.p3 n0) (F31.p4 n0) l0 i3)
noncomputable def F31.t3 (n0 : Nat) (l0 i3 : Value) (ds : List Nat) (h : H) (K : KP) : Prop :=
  K .ret [(2, (.bool false))] ds h
theorem F31.g3 {n0 : Nat} (l0 i3 : Value) {ds : List Nat} {h : H} {K : KP} : wA Try.prog n0 20 none F31.c3 [(0, l0), (3, i3)] ds h K = F31.t3 n0 l0 i3 ds h K := by kernel_rfl
theorem F31.s3 {n0 : Nat} : F31.p3 n0 = wA Try.prog n0 20 none F31.c3 := by kernel_rfl
theorem F31.e3 {n0 : Nat} {l0 i3 : Value} {ds : List Nat} {h : H} {K : KP} : F31.p3 n0 [(0, l0), (3, i3)] ds h K = F31.t3 n0 l0 i3 ds h K :=
  wchain (F31.s3) (F31.g3 l0 i3)
noncomputable def F31.t4 (n0 : Nat) (l0 i3 : Value) (ds : List Nat) (h : H) (K : KP) : Prop :=
  Bnd (aBin Try.prog true .add 3 i3 (.int .i64 1)) fun t9 =>
  K .normal [(0, l0), (3, t9), (8, i3), (9, t9)] ds h
theorem F31.g4 {n0 : Nat} (l0 i3 : Value) {ds : List Nat} {h : H} {K : KP} : wA Try.prog n0 20 none F31.c4 [(0, l0), (3, i3)] ds h K = F31.t4 n0 l0 i3 ds h K := by kernel_rfl
theorem F31.s4 {n0 : Nat} : F31.p4 n0 = wA Try.prog n0 20 none F31.c4 := by kernel_rfl
theorem F31.e4 {n0 : Nat} {l0 i3 : Value} {ds : List Nat} {h : H} {K : KP} : F31.p4 n0 [(0, l0), (3, i3)] ds h K = F31.t4 n0 l0 i3 ds h K :=
  wchain (F31.s4) (F31.g4 l0 i3)
noncomputable def F31.t5 (n0 : Nat) (ds : List Nat) (h : H) (K : KP) : Prop :=
  K .ret [(2, (.bool true))] ds h
theorem F31.g5 {n0 : Nat} {ds : List Nat} {h : H} {K : KP} : wA Try.prog n0 20 none F31.c5 [] ds h K = F31.t5 n0  ds h K := by kernel_rfl
theorem F31.s5 {n0 : Nat} : F31.p5 n0 = wA Try.prog n0 20 none F31.c5 := by kernel_rfl
theorem F31.e5 {n0 : Nat} {ds : List Nat} {h : H} {K : KP} : F31.p5 n0 [] ds h K = F31.t5 n0  ds h K :=
  wchain (F31.s5) (F31.g5)
theorem F31.b : Try.f31.body = some F31.c0.erase := by kernel_rfl
theorem F31.b2 : (Try.f31.name == "runtime.NumGoroutine") = false := by kernel_rfl
theorem F31.b3 : Try.f31.ntmps = 20 := by kernel_rfl
theorem F31.b4 : Try.f31.results.toList = [.tmp 2] := by kernel_rfl
theorem F31.enter {n0 : Nat} {x0 : Value} {h : H} {Q : Value → H → Prop} (w : F31.p0 n0 [(0, x0)] [] h (KFin Try.prog [.tmp 2] Q)) : Cn Try.prog n0 (.func 31) [x0] h Q :=
  @fn_enter Try.prog n0 mixed 31 Try.f31 F31.c0 [x0] h Q Try.func31 F31.b F31.k0 F31.b2 20 F31.b3 [.tmp 2] F31.b4 (by simp) [(0, x0)] rfl (wback F31.d0 w)

/-! slices.Clone[[]uint64,uint64] -/
noncomputable def F43.ac : AC := (ann (bodyOf Try.f43) [[0], [0], [0, 4], [0], [2], [2]]).1
noncomputable def F43.c0 : AC := F43.ac
noncomputable def F43.c1 : AC := F43.ac.snd.fst.snd.fst
noncomputable def F43.c2 : AC := F43.ac.snd.snd
noncomputable def F43.p0 (n0 : Nat) : WP := wA Try.prog n0 8 none F43.c0
noncomputable def F43.p1 (n0 : Nat) : WP := wA Try.prog n0 8 none F43.c1
noncomputable def F43.p2 (n0 : Nat) : WP := wA Try.prog n0 8 none F43.c2
noncomputable def F43.t0 (n0 : Nat) (B1 : WP) (B2 : WP) (s0 : Value) (ds : List Nat) (h : H) (K : KP) : Prop :=
  Bnd (aBin Try.prog true .eql 22 s0 (.slice none 0 0)) fun t4 =>
  Cnd t4
   (B1 [(0, s0)] ds h (KSeq [0] B2 K))
   (B2 [(0, s0)] ds h K)
theorem F43.g0 {n0 : Nat} (B1 : WP) (B2 : WP) (s0 : Value) {ds : List Nat} {h : H} {K : KP} : wA Try.prog n0 8 none (.seq [0] F43.c0.fst (.seq [0] (.seq [0, 4] F43.c0.snd.fst.fst (.cond [0] (.tmp 4) (.sub B1) F43.c0.snd.fst.snd.snd)) (.sub B2))) [(0, s0)] ds h K = F43.t0 n0 B1 B2 s0 ds h K := by kernel_rfl
theorem F43.s0 {n0 : Nat} : F43.p0 n0 = wA Try.prog n0 8 none (.seq [0] F43.c0.fst (.seq [0] (.seq [0, 4] F43.c0.snd.fst.fst (.cond [0] (.tmp 4) (.sub (F43.p1 n0)) F43.c0.snd.fst.snd.snd)) (.sub (F43.p2 n0)))) := by kernel_rfl
theorem F43.e0 {n0 : Nat} {s0 : Value} {ds : List Nat} {h : H} {K : KP} : F43.p0 n0 [(0, s0)] ds h K = F43.t0 n0 (F43.p1 n0) (F43.p2 n0) s0 ds h K :=
  wchain (F43.s0) (F43.g0 (F43.p1 n0) (F43.p2 n0) s0)
theorem F43.k0 : F43.c0.ok = true := by kernel_rfl
theorem F43.d0 {n0 : Nat} : F43.p0 n0 = wA Try.prog n0 8 none F43.c0 := by kernel_rfl
theorem F43.m0 (n0 : Nat) : MonoW (F43.p0 n0) := @mono_c Try.prog n0 8 none F43.c0 (F43.p0 n0) (F43.d0) F43.k0
noncomputable def F43.t1 (n0 : Nat) (s0 : Value) (ds : List Nat) (h : H) (K : KP) : Prop :=
  K .ret [(2, (.slice none 0 0))] ds h
theorem F43.g1 {n0 : Nat} (s0 : Value) {ds : List Nat} {h : H} {K : KP} : wA Try.prog n0 8 none F43.c1 [(0, s0)] ds h K = F43.t1 n0 s0 ds h K := by kernel_rfl
theorem F43.s1 {n0 : Nat} : F43.p1 n0 = wA Try.prog n0 8 none F43.c1 := by kernel_rfl
theorem F43.e1 {n0 : Nat} {s0 : Value} {ds : List Nat} {h : H} {K : KP} : F43.p1 n0 [(0, s0)] ds h K = F43.t1 n0 s0 ds h K :=
  wchain (F43.s1) (F43.g1 s0)
noncomputable def F43.t2 (n0 : Nat) (s0 : Value) (ds : List Nat) (h : H) (K : KP) : Prop :=
  Bnd2 (aBuildSlice Try.prog 22 0 [] h) fun t5 h1 =>
  Bnd2 (aBuiltin Try.prog .append #[22, 22] [t5, s0] h1) fun t7 h2 =>
  K .ret [(2, t7)] ds h2
theorem F43.g2 {n0 : Nat} (s0 : Value) {ds : List Nat} {h : H} {K : KP} : wA Try.prog n0 8 none F43.c2 [(0, s0)] ds h K = F43.t2 n0 s0 ds h K := by kernel_rfl
theorem F43.s2 {n0 : Nat} : F43.p2 n0 = wA Try.prog n0 8 none F43.c2 := by kernel_rfl
theorem F43.e2 {n0 : Nat} {s0 : Value} {ds : List Nat} {h : H} {K : KP} : F43.p2 n0 [(0, s0)] ds h K = F43.t2 n0 s0 ds h K :=
  wchain (F43.s2) (F43.g2 s0)
theorem F43.b : Try.f43.body = some F43.c0.erase := by kernel_rfl
theorem F43.b2 : (Try.f43.name == "runtime.NumGoroutine") = false := by kernel_rfl
theorem F43.b3 : Try.f43.ntmps = 8 := by kernel_rfl
theorem F43.b4 : Try.f43.results.toList = [.tmp 2] := by kernel_rfl
theorem F43.enter {n0 : Nat} {x0 : Value} {h : H} {Q : Value → H → Prop} (w : F43.p0 n0 [(0, x0)] [] h (KFin Try.prog [.tmp 2] Q)) : Cn Try.prog n0 (.func 43) [x0] h Q :=
  @fn_enter Try.prog n0 mixed 43 Try.f43 F43.c0 [x0] h Q Try.func43 F43.b F43.k0 F43.b2 8 F43.b3 [.tmp 2] F43.b4 (by simp) [(0, x0)] rfl (wback F43.d0 w)

/-! roster.idlist.set -/
noncomputable def F44.ac : AC := (ann (bodyOf Try.f44) [[0], [0], [0, 5], [0], [2], [3], [3], [2]]).1
noncomputable def F44.c0 : AC := F44.ac
noncomputable def F44.c1 : AC := F44.ac.snd.fst.snd.fst
noncomputable def F44.c2 : AC := F44.ac.snd.snd
noncomputable def F44.p0 (n0 : Nat) : WP := wA Try.prog n0 18 none F44.c0
noncomputable def F44.p1 (n0 : Nat) : WP := wA Try.prog n0 18 none F44.c1
noncomputable def F44.p2 (n0 : Nat) : WP := wA Try.prog n0 18 none F44.c2
noncomputable def F44.t0 (n0 : Nat) (B1 : WP) (B2 : WP) (l0 : Value) (ds : List Nat) (h : H) (K : KP) : Prop :=
  Cn Try.prog n0 (.func 31) [l0] h fun t5 h1 =>
  Cnd t5
   (B1 [(0, l0)] ds h1 (KSeq [0] B2 K))
   (B2 [(0, l0)] ds h1 K)
theorem F44.g0 {n0 : Nat} (B1 : WP) (B2 : WP) (l0 : Value) {ds : List Nat} {h : H} {K : KP} : wA Try.prog n0 18 none (.seq [0] F44.c0.fst (.seq [0] (.seq [0, 5] F44.c0.snd.fst.fst (.cond [0] (.tmp 5) (.sub B1) F44.c0.snd.fst.snd.snd)) (.sub B2))) [(0, l0)] ds h K = F44.t0 n0 B1 B2 l0 ds h K := by kernel_rfl
theorem F44.s0 {n0 : Nat} : F44.p0 n0 = wA Try.prog n0 18 none (.seq [0] F44.c0.fst (.seq [0] (.seq [0, 5] F44.c0.snd.fst.fst (.cond [0] (.tmp 5) (.sub (F44.p1 n0)) F44.c0.snd.fst.snd.snd)) (.sub (F44.p2 n0)))) := by kernel_rfl
theorem F44.e0 {n0 : Nat} {l0 : Value} {ds : List Nat} {h : H} {K : KP} : F44.p0 n0 [(0, l0)] ds h K = F44.t0 n0 (F44.p1 n0) (F44.p2 n0) l0 ds h K :=
  wchain (F44.s0) (F44.g0 (F44.p1 n0) (F44.p2 n0) l0)
theorem F44.k0 : F44.c0.ok = true := by kernel_rfl
theorem F44.d0 {n0 : Nat} : F44.p0 n0 = wA Try.prog n0 18 none F44.c0 := by kernel_rfl
theorem F44.m0 (n0 : Nat) : MonoW (F44.p0 n0) := @mono_c Try.prog n0 18 none F44.c0 (F44.p0 n0) (F44.d0) F44.k0
noncomputable def F44.t1 (n0 : Nat) (l0 : Value) (ds : List Nat) (h : H) (K : KP) : Prop :=
  Bnd2 (aBuiltin Try.prog .len #[22] [l0] h) fun t8 h1 =>
  Bnd2 (aBuiltin Try.prog .len #[22] [l0] h1) fun t10 h2 =>
  Bnd (aSlice Try.prog 22 l0 none (some t8) (some t10) h2) fun t11 =>
  K .ret [(2, t11)] ds h2
theorem F44.g1 {n0 : Nat} (l0 : Value) {ds : List Nat} {h : H} {K : KP} : wA Try.prog n0 18 none F44.c1 [(0, l0)] ds h K = F44.t1 n0 l0 ds h K := by kernel_rfl
theorem F44.s1 {n0 : Nat} : F44.p1 n0 = wA Try.prog n0 18 none F44.c1 := by kernel_rfl
theorem F44.e1 {n0 : Nat} {l0 : Value} {ds : List Nat} {h : H} {K : KP} : F44.p1 n0 [(0, l0)] ds h K = F44.t1 n0 l0 ds h K :=
  wchain (F44.s1) (F44.g1 l0)
noncomputable def F44.t2 (n0 : Nat) (l0 : Value) (ds : List Nat) (h : H) (K : KP) : Prop :=
  Cn Try.prog n0 (.func 43) [l0] h fun t13 h1 =>
  Cn Try.prog n0 (.func 57) [t13] h1 fun t15 h2 =>
  Cn Try.prog n0 (.func 58) [t13] h2 fun t17 h3 =>
  K .ret [(2, t17)] ds h3
theorem F44.g2 {n0 : Nat} (l0 : Value) {ds : List Nat} {h : H} {K : KP} : wA Try.prog n0 18 none F44.c2 [(0, l0)] ds h K = F44.t2 n0 l0 ds h K := by kernel_rfl
theorem F44.s2 {n0 : Nat} : F44.p2 n0 = wA Try.prog n0 18 none F44.c2 := by kernel_rfl
theorem F44.e2 {n0 : Nat} {l0 : Value} {ds : List Nat} {h : H} {K : KP} : F44.p2 n0 [(0, l0)] ds h K = F44.t2 n0 l0 ds h K :=
  wchain (F44.s2) (F44.g2 l0)
theorem F44.b : Try.f44.body = some F44.c0.erase := by kernel_rfl
theorem F44.b2 : (Try.f44.name == "runtime.NumGoroutine") = false := by kernel_rfl
theorem F44.b3 : Try.f44.ntmps = 18 := by kernel_rfl
theorem F44.b4 : Try.f44.results.toList = [.tmp 2] := by kernel_rfl
theorem F44.enter {n0 : Nat} {x0 : Value} {h : H} {Q : Value → H → Prop} (w : F44.p0 n0 [(0, x0)] [] h (KFin Try.prog [.tmp 2] Q)) : Cn Try.prog n0 (.func 44) [x0] h Q :=
  @fn_enter Try.prog n0 mixed 44 Try.f44 F44.c0 [x0] h Q Try.func44 F44.b F44.k0 F44.b2 18 F44.b3 [.tmp 2] F44.b4 (by simp) [(0, x0)] rfl (wback F44.d0 w)

/-! roster.idlist.seek -/
noncomputable def F42.ac : AC := (ann (bodyOf Try.f42) [[1, 3, 5], [1, 3, 5, 7], [3, 5, 7, 8], [3, 5, 7, 8], [3, 5, 7, 8], [3, 5, 7, 8], [3, 5, 7, 8], [3, 5, 7, 8, 26], [3, 5, 7, 8], [3, 5, 7, 8], [3, 5, 7, 8], [3, 5, 8, 9], [6]]).1
noncomputable def F42.c0 : AC := F42.ac
noncomputable def F42.c1 : AC := F42.ac.snd.snd.snd.fst.fst.fst
noncomputable def F42.c2 : AC := F42.ac.snd.snd.snd.fst.fst.fst.snd
noncomputable def F42.c3 : AC := F42.ac.snd.snd.snd.snd
noncomputable def F42.p0 (n0 : Nat) : WP := wA Try.prog n0 45 none F42.c0
noncomputable def F42.p1 (n0 : Nat) : WP := wA Try.prog n0 45 none F42.c1
noncomputable def F42.p2 (n0 : Nat) : WP := wA Try.prog n0 45 none F42.c2
noncomputable def F42.p3 (n0 : Nat) : WP := wA Try.prog n0 45 none F42.c3
noncomputable def F42.t0 (n0 : Nat) (B1 : WP) (B3 : WP) (l0 from1 id2 : Value) (ds : List Nat) (h : H) (K : KP) : Prop :=
  Nw (enc 0 22) (clL l0) h fun l3 h1 =>
  Nw (enc 0 23) (clL id2) h1 fun id5 h2 =>
  Nw (enc 0 3) (zc Try.prog 3) h2 fun low8 h3 =>
  Bnd (aStore Try.prog 3 low8 from1 h3) fun h4 =>
  Lp [3, 5, 7, 8] B1 [(3, l3), (5, id5), (7, (.int .i64 1)), (8, low8)] ds h4 (KBlk [3, 5, 7, 8] 0 (KSeq [3, 5, 7, 8] B3 K))
theorem F42.g0 {n0 : Nat} (B1 : WP) (B3 : WP) (l0 from1 id2 : Value) {ds : List Nat} {h : H} {K : KP} : wA Try.prog n0 45 none (.seq [1, 3, 5] F42.c0.fst (.seq [1, 3, 5, 7] F42.c0.snd.fst (.seq [3, 5, 7, 8] F42.c0.snd.snd.fst (.seq [3, 5, 7, 8] (.block [3, 5, 7, 8] 0 (.loop [3, 5, 7, 8] (.sub B1))) (.sub B3))))) [(0, l0), (1, from1), (2, id2)] ds h K = F42.t0 n0 B1 B3 l0 from1 id2 ds h K := by kernel_rfl
theorem F42.s0 {n0 : Nat} : F42.p0 n0 = wA Try.prog n0 45 none (.seq [1, 3, 5] F42.c0.fst (.seq [1, 3, 5, 7] F42.c0.snd.fst (.seq [3, 5, 7, 8] F42.c0.snd.snd.fst (.seq [3, 5, 7, 8] (.block [3, 5, 7, 8] 0 (.loop [3, 5, 7, 8] (.sub (F42.p1 n0)))) (.sub (F42.p3 n0)))))) := by kernel_rfl
theorem F42.e0 {n0 : Nat} {l0 from1 id2 : Value} {ds : List Nat} {h : H} {K : KP} : F42.p0 n0 [(0, l0), (1, from1), (2, id2)] ds h K = F42.t0 n0 (F42.p1 n0) (F42.p3 n0) l0 from1 id2 ds h K :=
  wchain (F42.s0) (F42.g0 (F42.p1 n0) (F42.p3 n0) l0 from1 id2)
theorem F42.k0 : F42.c0.ok = true := by kernel_rfl
theorem F42.d0 {n0 : Nat} : F42.p0 n0 = wA Try.prog n0 45 none F42.c0 := by kernel_rfl
theorem F42.m0 (n0 : Nat) : MonoW (F42.p0 n0) := @mono_c Try.prog n0 45 none F42.c0 (F42.p0 n0) (F42.d0) F42.k0
noncomputable def F42.t1 (n0 : Nat) (B2 : WP) (l3 id5 leap7 low8 : Value) (ds : List Nat) (h : H) (K : KP) : Prop :=
  Bnd (aLoad Try.prog 3 low8 h) fun t11 =>
  Bnd (aBin Try.prog false .add 3 t11 leap7) fun t13 =>
  Bnd (aLoad Try.prog 22 l3 h) fun t14 =>
  Bnd2 (aBuiltin Try.prog .len #[22] [t14] h) fun t15 h1 =>
  Bnd (aBin Try.prog false .lss 3 t13 t15) fun t16 =>
  Gd t16
   (Bnd (aLoad Try.prog 22 l3 h1) fun t18 =>
  Bnd (aLoad Try.prog 3 low8 h1) fun t19 =>
  Bnd (aBin Try.prog false .add 3 t19 leap7) fun t21 =>
  Bnd (aIndexAddr Try.prog 22 t18 t21) fun t22 =>
  Bnd (aLoad Try.prog 23 t22 h1) fun t23 =>
  Bnd (aLoad Try.prog 23 id5 h1) fun t24 =>
  Bnd (aBin Try.prog false .lss 23 t23 t24) fun t25 =>
  Cnd t25
   (B2 [(3, l3), (5, id5), (7, leap7), (8, low8)] ds h1 K)
   (K (.exit 0) [(3, l3), (5, id5), (7, leap7), (8, low8)] ds h1))
   (K (.exit 0) [(3, l3), (5, id5), (7, leap7), (8, low8)] ds h1)
theorem F42.g1 {n0 : Nat} (B2 : WP) (l3 id5 leap7 low8 : Value) {ds : List Nat} {h : H} {K : KP} : wA Try.prog n0 45 none (.seq [3, 5, 7, 8] F42.c1.fst (.sub B2)) [(3, l3), (5, id5), (7, leap7), (8, low8)] ds h K = F42.t1 n0 B2 l3 id5 leap7 low8 ds h K := by kernel_rfl
theorem F42.s1 {n0 : Nat} : F42.p1 n0 = wA Try.prog n0 45 none (.seq [3, 5, 7, 8] F42.c1.fst (.sub (F42.p2 n0))) := by kernel_rfl
theorem F42.e1 {n0 : Nat} {l3 id5 leap7 low8 : Value} {ds : List Nat} {h : H} {K : KP} : F42.p1 n0 [(3, l3), (5, id5), (7, leap7), (8, low8)] ds h K = F42.t1 n0 (F42.p2 n0) l3 id5 leap7 low8 ds h K :=
  wchain (F42.s1) (F42.g1 (F42.p2 n0) l3 id5 leap7 low8)
theorem F42.k1 : F42.c1.ok = true := by kernel_rfl
theorem F42.d1 {n0 : Nat} : F42.p1 n0 = wA Try.prog n0 45 none F42.c1 := by kernel_rfl
theorem F42.m1 (n0 : Nat) : MonoW (F42.p1 n0) := @mono_c Try.prog n0 45 none F42.c1 (F42.p1 n0) (F42.d1) F42.k1
noncomputable def F42.t2 (n0 : Nat) (l3 id5 leap7 low8 : Value) (ds : List Nat) (h : H) (K : KP) : Prop :=
  Bnd (aLoad Try.prog 3 low8 h) fun t27 =>
  Bnd (aBin Try.prog false .add 3 t27 leap7) fun t29 =>
  Bnd (aStore Try.prog 3 low8 t29 h) fun h1 =>
  Bnd (aBin Try.prog true .mul 3 leap7 (.int .i64 2)) fun t31 =>
  K .normal [(3, l3), (5, id5), (7, t31), (8, low8)] ds h1
theorem F42.g2 {n0 : Nat} (l3 id5 leap7 low8 : Value) {ds : List Nat} {h : H} {K : KP} : wA Try.prog n0 45 none F42.c2 [(3, l3), (5, id5), (7, leap7), (8, low8)] ds h K = F42.t2 n0 l3 id5 leap7 low8 ds h K := by kernel_rfl
theorem F42.s2 {n0 : Nat} : F42.p2 n0 = wA Try.prog n0 45 none F42.c2 := by kernel_rfl
theorem F42.e2 {n0 : Nat} {l3 id5 leap7 low8 : Value} {ds : List Nat} {h : H} {K : KP} : F42.p2 n0 [(3, l3), (5, id5), (7, leap7), (8, low8)] ds h K = F42.t2 n0 l3 id5 leap7 low8 ds h K :=
  wchain (F42.s2) (F42.g2 l3 id5 leap7 low8)
noncomputable def F42.t3 (n0 : Nat) (l3 id5 leap7 low8 : Value) (ds : List Nat) (h : H) (K : KP) : Prop :=
  Bnd (aLoad Try.prog 3 low8 h) fun t32 =>
  Bnd (aBin Try.prog false .add 3 t32 leap7) fun t34 =>
  Bnd (aLoad Try.prog 22 l3 h) fun t35 =>
  Bnd2 (aBuiltin Try.prog .len #[22] [t35] h) fun t36 h1 =>
  Bnd2 (aBuiltin Try.prog .min #[3, 3] [t34, t36] h1) fun t37 h2 =>
  Bnd (aLoad Try.prog 3 low8 h2) fun t38 =>
  Bnd (aLoad Try.prog 3 low8 h2) fun t40 =>
  Bnd (aBin Try.prog false .sub 3 t37 t40) fun t41 =>
  Cn Try.prog n0 (.func 55) [t41, (.func (.func 56) #[] #[l3, low8, id5])] h2 fun t43 h3 =>
  Bnd (aBin Try.prog false .add 3 t38 t43) fun t44 =>
  Sm (aLoad Try.prog 3 low8 h2) t38 <|
  Sm (aLoad Try.prog 3 low8 h3) t38 <|
  K .ret [(6, t44)] ds h3
theorem F42.g3 {n0 : Nat} (l3 id5 leap7 low8 : Value) {ds : List Nat} {h : H} {K : KP} : wA Try.prog n0 45 none F42.c3 [(3, l3), (5, id5), (7, leap7), (8, low8)] ds h K = F42.t3 n0 l3 id5 leap7 low8 ds h K := by kernel_rfl
theorem F42.s3 {n0 : Nat} : F42.p3 n0 = wA Try.prog n0 45 none F42.c3 := by kernel_rfl
theorem F42.e3 {n0 : Nat} {l3 id5 leap7 low8 : Value} {ds : List Nat} {h : H} {K : KP} : F42.p3 n0 [(3, l3), (5, id5), (7, leap7), (8, low8)] ds h K = F42.t3 n0 l3 id5 leap7 low8 ds h K :=
  wchain (F42.s3) (F42.g3 l3 id5 leap7 low8)
theorem F42.b : Try.f42.body = some F42.c0.erase := by kernel_rfl
theorem F42.b2 : (Try.f42.name == "runtime.NumGoroutine") = false := by kernel_rfl
theorem F42.b3 : Try.f42.ntmps = 45 := by kernel_rfl
theorem F42.b4 : Try.f42.results.toList = [.tmp 6] := by kernel_rfl
theorem F42.enter {n0 : Nat} {x0 x1 x2 : Value} {h : H} {Q : Value → H → Prop} (w : F42.p0 n0 [(0, x0), (1, x1), (2, x2)] [] h (KFin Try.prog [.tmp 6] Q)) : Cn Try.prog n0 (.func 42) [x0, x1, x2] h Q :=
  @fn_enter Try.prog n0 mixed 42 Try.f42 F42.c0 [x0, x1, x2] h Q Try.func42 F42.b F42.k0 F42.b2 45 F42.b3 [.tmp 6] F42.b4 (by simp) [(0, x0), (1, x1), (2, x2)] rfl (wback F42.d0 w)

/-! sort.Search -/
noncomputable def F55.ac : AC := (ann (bodyOf Try.f55) [[0, 1], [1, 5, 6], [5], [5], [1, 5, 6], [1, 5, 6], [1, 5, 6, 11], [1, 5, 6], [1, 5, 6], [1, 5, 6, 7], [1, 5, 6, 7, 21], [1, 5, 6, 7], [4]]).1
noncomputable def F55.c0 : AC := F55.ac
noncomputable def F55.c1 : AC := F55.ac.snd.snd.fst.fst.fst
noncomputable def F55.c2 : AC := F55.ac.snd.snd.fst.fst.fst.snd
noncomputable def F55.c3 : AC := F55.ac.snd.snd.fst.fst.fst.snd.fst.snd.snd.fst
noncomputable def F55.c4 : AC := F55.ac.snd.snd.fst.fst.fst.snd.fst.snd.snd.snd
noncomputable def F55.c5 : AC := F55.ac.snd.snd.snd
noncomputable def F55.p0 (n0 : Nat) : WP := wA Try.prog n0 26 none F55.c0
noncomputable def F55.p1 (n0 : Nat) : WP := wA Try.prog n0 26 none F55.c1
noncomputable def F55.p2 (n0 : Nat) : WP := wA Try.prog n0 26 none F55.c2
noncomputable def F55.p3 (n0 : Nat) : WP := wA Try.prog n0 26 none F55.c3
noncomputable def F55.p4 (n0 : Nat) : WP := wA Try.prog n0 26 none F55.c4
noncomputable def F55.p5 (n0 : Nat) : WP := wA Try.prog n0 26 none F55.c5
noncomputable def F55.t0 (n0 : Nat) (B1 : WP) (B5 : WP) (n0_2 f1 : Value) (ds : List Nat) (h : H) (K : KP) : Prop :=
  Lp [1, 5, 6] B1 [(1, f1), (5, (.int .i64 0)), (6, n0_2)] ds h (KBlk [5] 0 (KSeq [5] B5 K))
theorem F55.g0 {n0 : Nat} (B1 : WP) (B5 : WP) (n0_2 f1 : Value) {ds : List Nat} {h : H} {K : KP} : wA Try.prog n0 26 none (.seq [0, 1] F55.c0.fst (.seq [1, 5, 6] F55.c0.snd.fst (.seq [5] (.block [5] 0 (.loop [1, 5, 6] (.sub B1))) (.sub B5)))) [(0, n0_2), (1, f1)] ds h K = F55.t0 n0 B1 B5 n0_2 f1 ds h K := by kernel_rfl
theorem F55.s0 {n0 : Nat} : F55.p0 n0 = wA Try.prog n0 26 none (.seq [0, 1] F55.c0.fst (.seq [1, 5, 6] F55.c0.snd.fst (.seq [5] (.block [5] 0 (.loop [1, 5, 6] (.sub (F55.p1 n0)))) (.sub (F55.p5 n0))))) := by kernel_rfl
theorem F55.e0 {n0 : Nat} {n0_2 f1 : Value} {ds : List Nat} {h : H} {K : KP} : F55.p0 n0 [(0, n0_2), (1, f1)] ds h K = F55.t0 n0 (F55.p1 n0) (F55.p5 n0) n0_2 f1 ds h K :=
  wchain (F55.s0) (F55.g0 (F55.p1 n0) (F55.p5 n0) n0_2 f1)
theorem F55.k0 : F55.c0.ok = true := by kernel_rfl
theorem F55.d0 {n0 : Nat} : F55.p0 n0 = wA Try.prog n0 26 none F55.c0 := by kernel_rfl
theorem F55.m0 (n0 : Nat) : MonoW (F55.p0 n0) := @mono_c Try.prog n0 26 none F55.c0 (F55.p0 n0) (F55.d0) F55.k0
noncomputable def F55.t1 (n0 : Nat) (B2 : WP) (f1 i5 j6 : Value) (ds : List Nat) (h : H) (K : KP) : Prop :=
  Bnd (aBin Try.prog false .lss 3 i5 j6) fun t11 =>
  Cnd t11
   (B2 [(1, f1), (5, i5), (6, j6)] ds h K)
   (K (.exit 0) [(1, f1), (5, i5), (6, j6)] ds h)
theorem F55.g1 {n0 : Nat} (B2 : WP) (f1 i5 j6 : Value) {ds : List Nat} {h : H} {K : KP} : wA Try.prog n0 26 none (.seq [1, 5, 6] F55.c1.fst (.sub B2)) [(1, f1), (5, i5), (6, j6)] ds h K = F55.t1 n0 B2 f1 i5 j6 ds h K := by kernel_rfl
theorem F55.s1 {n0 : Nat} : F55.p1 n0 = wA Try.prog n0 26 none (.seq [1, 5, 6] F55.c1.fst (.sub (F55.p2 n0))) := by kernel_rfl
theorem F55.e1 {n0 : Nat} {f1 i5 j6 : Value} {ds : List Nat} {h : H} {K : KP} : F55.p1 n0 [(1, f1), (5, i5), (6, j6)] ds h K = F55.t1 n0 (F55.p2 n0) f1 i5 j6 ds h K :=
  wchain (F55.s1) (F55.g1 (F55.p2 n0) f1 i5 j6)
theorem F55.k1 : F55.c1.ok = true := by kernel_rfl
theorem F55.d1 {n0 : Nat} : F55.p1 n0 = wA Try.prog n0 26 none F55.c1 := by kernel_rfl
theorem F55.m1 (n0 : Nat) : MonoW (F55.p1 n0) := @mono_c Try.prog n0 26 none F55.c1 (F55.p1 n0) (F55.d1) F55.k1
noncomputable def F55.t2 (n0 : Nat) (B3 : WP) (B4 : WP) (f1 i5 j6 : Value) (ds : List Nat) (h : H) (K : KP) : Prop :=
  Bnd (aBin Try.prog false .add 3 i5 j6) fun t14 =>
  Bnd2 (cvt Try.prog 3 61 t14 h) fun t15 h1 =>
  Bnd (aBin Try.prog true .shr 61 t15 (.int .u64 1)) fun t16 =>
  Bnd2 (cvt Try.prog 61 3 t16 h1) fun t17 h2 =>
  CallV Try.prog n0 f1 [t17] h2 fun t20 h3 =>
  Bnd (aUn .not t20) fun t21 =>
  Cnd t21
   (B3 [(1, f1), (5, i5), (6, j6), (7, t17)] ds h3 (KBlk [1, 5, 6] 1 K))
   (B4 [(1, f1), (5, i5), (6, j6), (7, t17)] ds h3 (KBlk [1, 5, 6] 1 K))
theorem F55.g2 {n0 : Nat} (B3 : WP) (B4 : WP) (f1 i5 j6 : Value) {ds : List Nat} {h : H} {K : KP} : wA Try.prog n0 26 none (.block [1, 5, 6] 1 (.seq [1, 5, 6, 7] F55.c2.fst.fst (.seq [1, 5, 6, 7, 21] F55.c2.fst.snd.fst (.cond [1, 5, 6, 7] (.tmp 21) (.sub B3) (.sub B4))))) [(1, f1), (5, i5), (6, j6)] ds h K = F55.t2 n0 B3 B4 f1 i5 j6 ds h K := by kernel_rfl
theorem F55.s2 {n0 : Nat} : F55.p2 n0 = wA Try.prog n0 26 none (.block [1, 5, 6] 1 (.seq [1, 5, 6, 7] F55.c2.fst.fst (.seq [1, 5, 6, 7, 21] F55.c2.fst.snd.fst (.cond [1, 5, 6, 7] (.tmp 21) (.sub (F55.p3 n0)) (.sub (F55.p4 n0)))))) := by kernel_rfl
theorem F55.e2 {n0 : Nat} {f1 i5 j6 : Value} {ds : List Nat} {h : H} {K : KP} : F55.p2 n0 [(1, f1), (5, i5), (6, j6)] ds h K = F55.t2 n0 (F55.p3 n0) (F55.p4 n0) f1 i5 j6 ds h K :=
  wchain (F55.s2) (F55.g2 (F55.p3 n0) (F55.p4 n0) f1 i5 j6)
noncomputable def F55.t3 (n0 : Nat) (f1 i5 j6 h7 : Value) (ds : List Nat) (h : H) (K : KP) : Prop :=
  Bnd (aBin Try.prog true .add 3 h7 (.int .i64 1)) fun t23 =>
  K .normal [(1, f1), (5, t23), (6, j6), (7, h7), (22, h7), (23, t23)] ds h
theorem F55.g3 {n0 : Nat} (f1 i5 j6 h7 : Value) {ds : List Nat} {h : H} {K : KP} : wA Try.prog n0 26 none F55.c3 [(1, f1), (5, i5), (6, j6), (7, h7)] ds h K = F55.t3 n0 f1 i5 j6 h7 ds h K := by kernel_rfl
theorem F55.s3 {n0 : Nat} : F55.p3 n0 = wA Try.prog n0 26 none F55.c3 := by kernel_rfl
theorem F55.e3 {n0 : Nat} {f1 i5 j6 h7 : Value} {ds : List Nat} {h : H} {K : KP} : F55.p3 n0 [(1, f1), (5, i5), (6, j6), (7, h7)] ds h K = F55.t3 n0 f1 i5 j6 h7 ds h K :=
  wchain (F55.s3) (F55.g3 f1 i5 j6 h7)
noncomputable def F55.t4 (n0 : Nat) (f1 i5 j6 h7 : Value) (ds : List Nat) (h : H) (K : KP) : Prop :=
  K .normal [(1, f1), (5, i5), (6, h7), (7, h7), (24, h7)] ds h
theorem F55.g4 {n0 : Nat} (f1 i5 j6 h7 : Value) {ds : List Nat} {h : H} {K : KP} : wA Try.prog n0 26 none F55.c4 [(1, f1), (5, i5), (6, j6), (7, h7)] ds h K = F55.t4 n0 f1 i5 j6 h7 ds h K := by kernel_rfl
theorem F55.s4 {n0 : Nat} : F55.p4 n0 = wA Try.prog n0 26 none F55.c4 := by kernel_rfl
theorem F55.e4 {n0 : Nat} {f1 i5 j6 h7 : Value} {ds : List Nat} {h : H} {K : KP} : F55.p4 n0 [(1, f1), (5, i5), (6, j6), (7, h7)] ds h K = F55.t4 n0 f1 i5 j6 h7 ds h K :=
  wchain (F55.s4) (F55.g4 f1 i5 j6 h7)
noncomputable def F55.t5 (n0 : Nat) (i5 : Value) (ds : List Nat) (h : H) (K : KP) : Prop :=
  K .ret [(4, i5)] ds h
theorem F55.g5 {n0 : Nat} (i5 : Value) {ds : List Nat} {h : H} {K : KP} : wA Try.prog n0 26 none F55.c5 [(5, i5)] ds h K = F55.t5 n0 i5 ds h K := by kernel_rfl
theorem F55.s5 {n0 : Nat} : F55.p5 n0 = wA Try.prog n0 26 none F55.c5 := by kernel_rfl
theorem F55.e5 {n0 : Nat} {i5 : Value} {ds : List Nat} {h : H} {K : KP} : F55.p5 n0 [(5, i5)] ds h K = F55.t5 n0 i5 ds h K :=
  wchain (F55.s5) (F55.g5 i5)
theorem F55.b : Try.f55.body = some F55.c0.erase := by kernel_rfl
theorem F55.b2 : (Try.f55.name == "runtime.NumGoroutine") = false := by kernel_rfl
theorem F55.b3 : Try.f55.ntmps = 26 := by kernel_rfl
theorem F55.b4 : Try.f55.results.toList = [.tmp 4] := by kernel_rfl
theorem F55.enter {n0 : Nat} {x0 x1 : Value} {h : H} {Q : Value → H → Prop} (w : F55.p0 n0 [(0, x0), (1, x1)] [] h (KFin Try.prog [.tmp 4] Q)) : Cn Try.prog n0 (.func 55) [x0, x1] h Q :=
  @fn_enter Try.prog n0 mixed 55 Try.f55 F55.c0 [x0, x1] h Q Try.func55 F55.b F55.k0 F55.b2 26 F55.b3 [.tmp 4] F55.b4 (by simp) [(0, x0), (1, x1)] rfl (wback F55.d0 w)

/-! roster.idlist.seek$1 -/
noncomputable def F56.ac : AC := (ann (bodyOf Try.f56) [[0, 1, 2, 3], [5]]).1
noncomputable def F56.c0 : AC := F56.ac
noncomputable def F56.p0 (n0 : Nat) : WP := wA Try.prog n0 14 none F56.c0
noncomputable def F56.t0 (n0 : Nat) (i0 t1 t2 t3 : Value) (ds : List Nat) (h : H) (K : KP) : Prop :=
  Bnd (aLoad Try.prog 22 t1 h) fun t6 =>
  Bnd (aLoad Try.prog 3 t2 h) fun t7 =>
  Bnd (aBin Try.prog false .add 3 t7 i0) fun t9 =>
  Bnd (aIndexAddr Try.prog 22 t6 t9) fun t10 =>
  Bnd (aLoad Try.prog 23 t10 h) fun t11 =>
  Bnd (aLoad Try.prog 23 t3 h) fun t12 =>
  Bnd (aBin Try.prog false .geq 23 t11 t12) fun t13 =>
  K .ret [(5, t13)] ds h
theorem F56.g0 {n0 : Nat} (i0 t1 t2 t3 : Value) {ds : List Nat} {h : H} {K : KP} : wA Try.prog n0 14 none F56.c0 [(0, i0), (1, t1), (2, t2), (3, t3)] ds h K = F56.t0 n0 i0 t1 t2 t3 ds h K := by kernel_rfl
theorem F56.s0 {n0 : Nat} : F56.p0 n0 = wA Try.prog n0 14 none F56.c0 := by kernel_rfl
theorem F56.e0 {n0 : Nat} {i0 t1 t2 t3 : Value} {ds : List Nat} {h : H} {K : KP} : F56.p0 n0 [(0, i0), (1, t1), (2, t2), (3, t3)] ds h K = F56.t0 n0 i0 t1 t2 t3 ds h K :=
  wchain (F56.s0) (F56.g0 i0 t1 t2 t3)
theorem F56.k0 : F56.c0.ok = true := by kernel_rfl
theorem F56.d0 {n0 : Nat} : F56.p0 n0 = wA Try.prog n0 14 none F56.c0 := by kernel_rfl
theorem F56.m0 (n0 : Nat) : MonoW (F56.p0 n0) := @mono_c Try.prog n0 14 none F56.c0 (F56.p0 n0) (F56.d0) F56.k0
theorem F56.b : Try.f56.body = some F56.c0.erase := by kernel_rfl
theorem F56.b2 : (Try.f56.name == "runtime.NumGoroutine") = false := by kernel_rfl
theorem F56.b3 : Try.f56.ntmps = 14 := by kernel_rfl
theorem F56.b4 : Try.f56.results.toList = [.tmp 5] := by kernel_rfl
theorem F56.enter {n0 : Nat} {x0 x1 x2 x3 : Value} {h : H} {Q : Value → H → Prop} (w : F56.p0 n0 [(0, x0), (1, x1), (2, x2), (3, x3)] [] h (KFin Try.prog [.tmp 5] Q)) : Cn Try.prog n0 (.func 56) [x0, x1, x2, x3] h Q :=
  @fn_enter Try.prog n0 mixed 56 Try.f56 F56.c0 [x0, x1, x2, x3] h Q Try.func56 F56.b F56.k0 F56.b2 14 F56.b3 [.tmp 5] F56.b4 (by simp) [(0, x0), (1, x1), (2, x2), (3, x3)] rfl (wback F56.d0 w)

/-! roster.idlist.Find -/
noncomputable def F14.ac : AC := (ann (bodyOf Try.f14) [[0, 1, 2], [0, 1, 2], [0, 1, 2, 9], [0, 1, 2], [6], [6]]).1
noncomputable def F14.c0 : AC := F14.ac
noncomputable def F14.c1 : AC := F14.ac.snd.fst.snd.fst
noncomputable def F14.c2 : AC := F14.ac.snd.snd
noncomputable def F14.p0 (n0 : Nat) : WP := wA Try.prog n0 18 none F14.c0
noncomputable def F14.p1 (n0 : Nat) : WP := wA Try.prog n0 18 none F14.c1
noncomputable def F14.p2 (n0 : Nat) : WP := wA Try.prog n0 18 none F14.c2
noncomputable def F14.t0 (n0 : Nat) (B1 : WP) (B2 : WP) (l0 from1 id2 : Value) (ds : List Nat) (h : H) (K : KP) : Prop :=
  Cn Try.prog n0 (.func 31) [l0] h fun t8 h1 =>
  Bnd (aUn .not t8) fun t9 =>
  Cnd t9
   (B1 [(0, l0), (1, from1), (2, id2)] ds h1 (KSeq [0, 1, 2] B2 K))
   (B2 [(0, l0), (1, from1), (2, id2)] ds h1 K)
theorem F14.g0 {n0 : Nat} (B1 : WP) (B2 : WP) (l0 from1 id2 : Value) {ds : List Nat} {h : H} {K : KP} : wA Try.prog n0 18 none (.seq [0, 1, 2] F14.c0.fst (.seq [0, 1, 2] (.seq [0, 1, 2, 9] F14.c0.snd.fst.fst (.cond [0, 1, 2] (.tmp 9) (.sub B1) F14.c0.snd.fst.snd.snd)) (.sub B2))) [(0, l0), (1, from1), (2, id2)] ds h K = F14.t0 n0 B1 B2 l0 from1 id2 ds h K := by kernel_rfl
theorem F14.s0 {n0 : Nat} : F14.p0 n0 = wA Try.prog n0 18 none (.seq [0, 1, 2] F14.c0.fst (.seq [0, 1, 2] (.seq [0, 1, 2, 9] F14.c0.snd.fst.fst (.cond [0, 1, 2] (.tmp 9) (.sub (F14.p1 n0)) F14.c0.snd.fst.snd.snd)) (.sub (F14.p2 n0)))) := by kernel_rfl
theorem F14.e0 {n0 : Nat} {l0 from1 id2 : Value} {ds : List Nat} {h : H} {K : KP} : F14.p0 n0 [(0, l0), (1, from1), (2, id2)] ds h K = F14.t0 n0 (F14.p1 n0) (F14.p2 n0) l0 from1 id2 ds h K :=
  wchain (F14.s0) (F14.g0 (F14.p1 n0) (F14.p2 n0) l0 from1 id2)
theorem F14.k0 : F14.c0.ok = true := by kernel_rfl
theorem F14.d0 {n0 : Nat} : F14.p0 n0 = wA Try.prog n0 18 none F14.c0 := by kernel_rfl
theorem F14.m0 (n0 : Nat) : MonoW (F14.p0 n0) := @mono_c Try.prog n0 18 none F14.c0 (F14.p0 n0) (F14.d0) F14.k0
noncomputable def F14.t1 (n0 : Nat) (l0 from1 id2 : Value) (ds : List Nat) (h : H) (K : KP) : Prop :=
  K .ret [(6, (.int .i64 (-1)))] ds h
theorem F14.g1 {n0 : Nat} (l0 from1 id2 : Value) {ds : List Nat} {h : H} {K : KP} : wA Try.prog n0 18 none F14.c1 [(0, l0), (1, from1), (2, id2)] ds h K = F14.t1 n0 l0 from1 id2 ds h K := by kernel_rfl
theorem F14.s1 {n0 : Nat} : F14.p1 n0 = wA Try.prog n0 18 none F14.c1 := by kernel_rfl
theorem F14.e1 {n0 : Nat} {l0 from1 id2 : Value} {ds : List Nat} {h : H} {K : KP} : F14.p1 n0 [(0, l0), (1, from1), (2, id2)] ds h K = F14.t1 n0 l0 from1 id2 ds h K :=
  wchain (F14.s1) (F14.g1 l0 from1 id2)
noncomputable def F14.t2 (n0 : Nat) (l0 from1 id2 : Value) (ds : List Nat) (h : H) (K : KP) : Prop :=
  Bnd2 (aBuiltin Try.prog .max #[3, 3] [from1, (.int .i64 0)] h) fun t12 h1 =>
  Bnd2 (aBuiltin Try.prog .len #[22] [l0] h1) fun t14 h2 =>
  Bnd2 (aBuiltin Try.prog .min #[3, 3] [t12, t14] h2) fun t15 h3 =>
  Cn Try.prog n0 (.func 42) [l0, t15, id2] h3 fun t17 h4 =>
  K .ret [(6, t17)] ds h4
theorem F14.g2 {n0 : Nat} (l0 from1 id2 : Value) {ds : List Nat} {h : H} {K : KP} : wA Try.prog n0 18 none F14.c2 [(0, l0), (1, from1), (2, id2)] ds h K = F14.t2 n0 l0 from1 id2 ds h K := by kernel_rfl
theorem F14.s2 {n0 : Nat} : F14.p2 n0 = wA Try.prog n0 18 none F14.c2 := by kernel_rfl
theorem F14.e2 {n0 : Nat} {l0 from1 id2 : Value} {ds : List Nat} {h : H} {K : KP} : F14.p2 n0 [(0, l0), (1, from1), (2, id2)] ds h K = F14.t2 n0 l0 from1 id2 ds h K :=
  wchain (F14.s2) (F14.g2 l0 from1 id2)
theorem F14.b : Try.f14.body = some F14.c0.erase := by kernel_rfl
theorem F14.b2 : (Try.f14.name == "runtime.NumGoroutine") = false := by kernel_rfl
theorem F14.b3 : Try.f14.ntmps = 18 := by kernel_rfl
theorem F14.b4 : Try.f14.results.toList = [.tmp 6] := by kernel_rfl
theorem F14.enter {n0 : Nat} {x0 x1 x2 : Value} {h : H} {Q : Value → H → Prop} (w : F14.p0 n0 [(0, x0), (1, x1), (2, x2)] [] h (KFin Try.prog [.tmp 6] Q)) : Cn Try.prog n0 (.func 14) [x0, x1, x2] h Q :=
  @fn_enter Try.prog n0 mixed 14 Try.f14 F14.c0 [x0, x1, x2] h Q Try.func14 F14.b F14.k0 F14.b2 18 F14.b3 [.tmp 6] F14.b4 (by simp) [(0, x0), (1, x1), (2, x2)] rfl (wback F14.d0 w)

/-! roster.rosterlaw04.same -/
noncomputable def F28.ac : AC := (ann (bodyOf Try.f28) [[0, 1], [0, 1], [0, 1, 10], [0, 1], [4], [], [0, 1, 5], [], [0, 1, 5], [0, 1, 5], [0, 1, 5, 14], [0, 1, 5], [0, 1, 5], [0, 1, 5], [0, 1, 5, 25], [0, 1, 5], [4], [4]]).1
noncomputable def F28.c0 : AC := F28.ac
noncomputable def F28.c1 : AC := F28.ac.snd.fst.snd.fst
noncomputable def F28.c2 : AC := F28.ac.snd.snd
noncomputable def F28.c3 : AC := F28.ac.snd.snd.fst.snd.fst.fst
noncomputable def F28.c4 : AC := F28.ac.snd.snd.fst.snd.fst.fst.snd
noncomputable def F28.c5 : AC := F28.ac.snd.snd.fst.snd.fst.fst.snd.fst.fst.snd.fst
noncomputable def F28.c6 : AC := F28.ac.snd.snd.fst.snd.fst.fst.snd.snd
noncomputable def F28.c7 : AC := F28.ac.snd.snd.snd
noncomputable def F28.p0 (n0 : Nat) : WP := wA Try.prog n0 26 none F28.c0
noncomputable def F28.p1 (n0 : Nat) : WP := wA Try.prog n0 26 none F28.c1
noncomputable def F28.p2 (n0 : Nat) : WP := wA Try.prog n0 26 none F28.c2
noncomputable def F28.p3 (n0 : Nat) : WP := wA Try.prog n0 26 none F28.c3
noncomputable def F28.p4 (n0 : Nat) : WP := wA Try.prog n0 26 none F28.c4
noncomputable def F28.p5 (n0 : Nat) : WP := wA Try.prog n0 26 none F28.c5
noncomputable def F28.p6 (n0 : Nat) : WP := wA Try.prog n0 26 none F28.c6
noncomputable def F28.p7 (n0 : Nat) : WP := wA Try.prog n0 26 none F28.c7
noncomputable def F28.t0 (n0 : Nat) (B1 : WP) (B2 : WP) (a0 b1 : Value) (ds : List Nat) (h : H) (K : KP) : Prop :=
  Bnd2 (aBuiltin Try.prog .len #[22] [a0] h) fun t7 h1 =>
  Bnd2 (aBuiltin Try.prog .len #[22] [b1] h1) fun t9 h2 =>
  Bnd (aBin Try.prog false .neq 3 t7 t9) fun t10 =>
  Cnd t10
   (B1 [(0, a0), (1, b1)] ds h2 (KSeq [0, 1] B2 K))
   (B2 [(0, a0), (1, b1)] ds h2 K)
theorem F28.g0 {n0 : Nat} (B1 : WP) (B2 : WP) (a0 b1 : Value) {ds : List Nat} {h : H} {K : KP} : wA Try.prog n0 26 none (.seq [0, 1] F28.c0.fst (.seq [0, 1] (.seq [0, 1, 10] F28.c0.snd.fst.fst (.cond [0, 1] (.tmp 10) (.sub B1) F28.c0.snd.fst.snd.snd)) (.sub B2))) [(0, a0), (1, b1)] ds h K = F28.t0 n0 B1 B2 a0 b1 ds h K := by kernel_rfl
theorem F28.s0 {n0 : Nat} : F28.p0 n0 = wA Try.prog n0 26 none (.seq [0, 1] F28.c0.fst (.seq [0, 1] (.seq [0, 1, 10] F28.c0.snd.fst.fst (.cond [0, 1] (.tmp 10) (.sub (F28.p1 n0)) F28.c0.snd.fst.snd.snd)) (.sub (F28.p2 n0)))) := by kernel_rfl
theorem F28.e0 {n0 : Nat} {a0 b1 : Value} {ds : List Nat} {h : H} {K : KP} : F28.p0 n0 [(0, a0), (1, b1)] ds h K = F28.t0 n0 (F28.p1 n0) (F28.p2 n0) a0 b1 ds h K :=
  wchain (F28.s0) (F28.g0 (F28.p1 n0) (F28.p2 n0) a0 b1)
theorem F28.k0 : F28.c0.ok = true := by kernel_rfl
theorem F28.d0 {n0 : Nat} : F28.p0 n0 = wA Try.prog n0 26 none F28.c0 := by kernel_rfl
theorem F28.m0 (n0 : Nat) : MonoW (F28.p0 n0) := @mono_c Try.prog n0 26 none F28.c0 (F28.p0 n0) (F28.d0) F28.k0
noncomputable def F28.t1 (n0 : Nat) (a0 b1 : Value) (ds : List Nat) (h : H) (K : KP) : Prop :=
  K .ret [(4, (.bool false))] ds h
theorem F28.g1 {n0 : Nat} (a0 b1 : Value) {ds : List Nat} {h : H} {K : KP} : wA Try.prog n0 26 none F28.c1 [(0, a0), (1, b1)] ds h K = F28.t1 n0 a0 b1 ds h K := by kernel_rfl
theorem F28.s1 {n0 : Nat} : F28.p1 n0 = wA Try.prog n0 26 none F28.c1 := by kernel_rfl
theorem F28.e1 {n0 : Nat} {a0 b1 : Value} {ds : List Nat} {h : H} {K : KP} : F28.p1 n0 [(0, a0), (1, b1)] ds h K = F28.t1 n0 a0 b1 ds h K :=
  wchain (F28.s1) (F28.g1 a0 b1)
noncomputable def F28.t2 (n0 : Nat) (B3 : WP) (B7 : WP) (a0 b1 : Value) (ds : List Nat) (h : H) (K : KP) : Prop :=
  Lp [0, 1, 5] B3 [(0, a0), (1, b1), (5, (.int .i64 0))] ds h (KBlk [] 0 (KSeq [] B7 K))
theorem F28.g2 {n0 : Nat} (B3 : WP) (B7 : WP) (a0 b1 : Value) {ds : List Nat} {h : H} {K : KP} : wA Try.prog n0 26 none (.seq [] (.seq [0, 1, 5] F28.c2.fst.fst (.block [] 0 (.loop [0, 1, 5] (.sub B3)))) (.sub B7)) [(0, a0), (1, b1)] ds h K = F28.t2 n0 B3 B7 a0 b1 ds h K := by kernel_rfl
theorem F28.s2 {n0 : Nat} : F28.p2 n0 = wA Try.prog n0 26 none (.seq [] (.seq [0, 1, 5] F28.c2.fst.fst (.block [] 0 (.loop [0, 1, 5] (.sub (F28.p3 n0))))) (.sub (F28.p7 n0))) := by kernel_rfl
theorem F28.e2 {n0 : Nat} {a0 b1 : Value} {ds : List Nat} {h : H} {K : KP} : F28.p2 n0 [(0, a0), (1, b1)] ds h K = F28.t2 n0 (F28.p3 n0) (F28.p7 n0) a0 b1 ds h K :=
  wchain (F28.s2) (F28.g2 (F28.p3 n0) (F28.p7 n0) a0 b1)
noncomputable def F28.t3 (n0 : Nat) (B4 : WP) (a0 b1 i5 : Value) (ds : List Nat) (h : H) (K : KP) : Prop :=
  Bnd2 (aBuiltin Try.prog .len #[22] [a0] h) fun t13 h1 =>
  Bnd (aBin Try.prog false .lss 3 i5 t13) fun t14 =>
  Cnd t14
   (B4 [(0, a0), (1, b1), (5, i5)] ds h1 K)
   (K (.exit 0) [(0, a0), (1, b1), (5, i5)] ds h1)
theorem F28.g3 {n0 : Nat} (B4 : WP) (a0 b1 i5 : Value) {ds : List Nat} {h : H} {K : KP} : wA Try.prog n0 26 none (.seq [0, 1, 5] F28.c3.fst (.sub B4)) [(0, a0), (1, b1), (5, i5)] ds h K = F28.t3 n0 B4 a0 b1 i5 ds h K := by kernel_rfl
theorem F28.s3 {n0 : Nat} : F28.p3 n0 = wA Try.prog n0 26 none (.seq [0, 1, 5] F28.c3.fst (.sub (F28.p4 n0))) := by kernel_rfl
theorem F28.e3 {n0 : Nat} {a0 b1 i5 : Value} {ds : List Nat} {h : H} {K : KP} : F28.p3 n0 [(0, a0), (1, b1), (5, i5)] ds h K = F28.t3 n0 (F28.p4 n0) a0 b1 i5 ds h K :=
  wchain (F28.s3) (F28.g3 (F28.p4 n0) a0 b1 i5)
theorem F28.k3 : F28.c3.ok = true := by kernel_rfl
theorem F28.d3 {n0 : Nat} : F28.p3 n0 = wA Try.prog n0 26 none F28.c3 := by kernel_rfl
theorem F28.m3 (n0 : Nat) : MonoW (F28.p3 n0) := @mono_c Try.prog n0 26 none F28.c3 (F28.p3 n0) (F28.d3) F28.k3
noncomputable def F28.t4 (n0 : Nat) (B5 : WP) (B6 : WP) (a0 b1 i5 : Value) (ds : List Nat) (h : H) (K : KP) : Prop :=
  Bnd (aIndexAddr Try.prog 22 a0 i5) fun t19 =>
  Bnd (aLoad Try.prog 23 t19 h) fun t20 =>
  Bnd (aIndexAddr Try.prog 22 b1 i5) fun t23 =>
  Bnd (aLoad Try.prog 23 t23 h) fun t24 =>
  Bnd (aBin Try.prog false .neq 23 t20 t24) fun t25 =>
  Cnd t25
   (B5 [(0, a0), (1, b1), (5, i5)] ds h (KBlk [0, 1, 5] 1 (KSeq [0, 1, 5] B6 K)))
   (B6 [(0, a0), (1, b1), (5, i5)] ds h K)
theorem F28.g4 {n0 : Nat} (B5 : WP) (B6 : WP) (a0 b1 i5 : Value) {ds : List Nat} {h : H} {K : KP} : wA Try.prog n0 26 none (.seq [0, 1, 5] (.block [0, 1, 5] 1 (.seq [0, 1, 5, 25] F28.c4.fst.fst.fst (.cond [0, 1, 5] (.tmp 25) (.sub B5) F28.c4.fst.fst.snd.snd))) (.sub B6)) [(0, a0), (1, b1), (5, i5)] ds h K = F28.t4 n0 B5 B6 a0 b1 i5 ds h K := by kernel_rfl
theorem F28.s4 {n0 : Nat} : F28.p4 n0 = wA Try.prog n0 26 none (.seq [0, 1, 5] (.block [0, 1, 5] 1 (.seq [0, 1, 5, 25] F28.c4.fst.fst.fst (.cond [0, 1, 5] (.tmp 25) (.sub (F28.p5 n0)) F28.c4.fst.fst.snd.snd))) (.sub (F28.p6 n0))) := by kernel_rfl
theorem F28.e4 {n0 : Nat} {a0 b1 i5 : Value} {ds : List Nat} {h : H} {K : KP} : F28.p4 n0 [(0, a0), (1, b1), (5, i5)] ds h K = F28.t4 n0 (F28.p5 n0) (F28.p6 n0) a0 b1 i5 ds h K :=
  wchain (F28.s4) (F28.g4 (F28.p5 n0) (F28.p6 n0) a0 b1 i5)
noncomputable def F28.t5 (n0 : Nat) (a0 b1 i5 : Value) (ds : List Nat) (h : H) (K : KP) : Prop :=
  K .ret [(4, (.bool false))] ds h
theorem F28.g5 {n0 : Nat} (a0 b1 i5 : Value) {ds : List Nat} {h : H} {K : KP} : wA Try.prog n0 26 none F28.c5 [(0, a0), (1, b1), (5, i5)] ds h K = F28.t5 n0 a0 b1 i5 ds h K := by kernel_rfl
theorem F28.s5 {n0 : Nat} : F28.p5 n0 = wA Try.prog n0 26 none F28.c5 := by kernel_rfl
theorem F28.e5 {n0 : Nat} {a0 b1 i5 : Value} {ds : List Nat} {h : H} {K : KP} : F28.p5 n0 [(0, a0), (1, b1), (5, i5)] ds h K = F28.t5 n0 a0 b1 i5 ds h K :=
  wchain (F28.s5) (F28.g5 a0 b1 i5)
noncomputable def F28.t6 (n0 : Nat) (a0 b1 i5 : Value) (ds : List Nat) (h : H) (K : KP) : Prop :=
  Bnd (aBin Try.prog true .add 3 i5 (.int .i64 1)) fun t16 =>
  K .normal [(0, a0), (1, b1), (5, t16), (15, i5), (16, t16)] ds h
theorem F28.g6 {n0 : Nat} (a0 b1 i5 : Value) {ds : List Nat} {h : H} {K : KP} : wA Try.prog n0 26 none F28.c6 [(0, a0), (1, b1), (5, i5)] ds h K = F28.t6 n0 a0 b1 i5 ds h K := by kernel_rfl
theorem F28.s6 {n0 : Nat} : F28.p6 n0 = wA Try.prog n0 26 none F28.c6 := by kernel_rfl
theorem F28.e6 {n0 : Nat} {a0 b1 i5 : Value} {ds : List Nat} {h : H} {K : KP} : F28.p6 n0 [(0, a0), (1, b1), (5, i5)] ds h K = F28.t6 n0 a0 b1 i5 ds h K :=
  wchain (F28.s6) (F28.g6 a0 b1 i5)
noncomputable def F28.t7 (n0 : Nat) (ds : List Nat) (h : H) (K : KP) : Prop :=
  K .ret [(4, (.bool true))] ds h
theorem F28.g7 {n0 : Nat} {ds : List Nat} {h : H} {K : KP} : wA Try.prog n0 26 none F28.c7 [] ds h K = F28.t7 n0  ds h K := by kernel_rfl
theorem F28.s7 {n0 : Nat} : F28.p7 n0 = wA Try.prog n0 26 none F28.c7 := by kernel_rfl
theorem F28.e7 {n0 : Nat} {ds : List Nat} {h : H} {K : KP} : F28.p7 n0 [] ds h K = F28.t7 n0  ds h K :=
  wchain (F28.s7) (F28.g7)
theorem F28.b : Try.f28.body = some F28.c0.erase := by kernel_rfl
theorem F28.b2 : (Try.f28.name == "runtime.NumGoroutine") = false := by kernel_rfl
theorem F28.b3 : Try.f28.ntmps = 26 := by kernel_rfl
theorem F28.b4 : Try.f28.results.toList = [.tmp 4] := by kernel_rfl
theorem F28.enter {n0 : Nat} {x0 x1 : Value} {h : H} {Q : Value → H → Prop} (w : F28.p0 n0 [(0, x0), (1, x1)] [] h (KFin Try.prog [.tmp 4] Q)) : Cn Try.prog n0 (.func 28) [x0, x1] h Q :=
  @fn_enter Try.prog n0 mixed 28 Try.f28 F28.c0 [x0, x1] h Q Try.func28 F28.b F28.k0 F28.b2 26 F28.b3 [.tmp 4] F28.b4 (by simp) [(0, x0), (1, x1)] rfl (wback F28.d0 w)

/-! roster.rosterlaw04.right -/
noncomputable def F30.ac : AC := (ann (bodyOf Try.f30) [[0], [], [0, 3], [], [0, 3], [0, 3], [0, 3, 7], [0, 3], [0, 3], [0, 3], [0, 3, 19], [0, 3], [2], [2]]).1
noncomputable def F30.c0 : AC := F30.ac
noncomputable def F30.c1 : AC := F30.ac.snd.fst.snd.fst.fst
noncomputable def F30.c2 : AC := F30.ac.snd.fst.snd.fst.fst.snd
noncomputable def F30.c3 : AC := F30.ac.snd.fst.snd.fst.fst.snd.fst.fst.snd.fst
noncomputable def F30.c4 : AC := F30.ac.snd.fst.snd.fst.fst.snd.snd
noncomputable def F30.c5 : AC := F30.ac.snd.snd
noncomputable def F30.p0 (n0 : Nat) : WP := wA Try.prog n0 20 none F30.c0
noncomputable def F30.p1 (n0 : Nat) : WP := wA Try.prog n0 20 none F30.c1
noncomputable def F30.p2 (n0 : Nat) : WP := wA Try.prog n0 20 none F30.c2
noncomputable def F30.p3 (n0 : Nat) : WP := wA Try.prog n0 20 none F30.c3
noncomputable def F30.p4 (n0 : Nat) : WP := wA Try.prog n0 20 none F30.c4
noncomputable def F30.p5 (n0 : Nat) : WP := wA Try.prog n0 20 none F30.c5
noncomputable def F30.t0 (n0 : Nat) (B1 : WP) (B5 : WP) (l0 : Value) (ds : List Nat) (h : H) (K : KP) : Prop :=
  Lp [0, 3] B1 [(0, l0), (3, (.int .i64 1))] ds h (KBlk [] 0 (KSeq [] B5 K))
theorem F30.g0 {n0 : Nat} (B1 : WP) (B5 : WP) (l0 : Value) {ds : List Nat} {h : H} {K : KP} : wA Try.prog n0 20 none (.seq [0] F30.c0.fst (.seq [] (.seq [0, 3] F30.c0.snd.fst.fst (.block [] 0 (.loop [0, 3] (.sub B1)))) (.sub B5))) [(0, l0)] ds h K = F30.t0 n0 B1 B5 l0 ds h K := by kernel_rfl
theorem F30.s0 {n0 : Nat} : F30.p0 n0 = wA Try.prog n0 20 none (.seq [0] F30.c0.fst (.seq [] (.seq [0, 3] F30.c0.snd.fst.fst (.block [] 0 (.loop [0, 3] (.sub (F30.p1 n0))))) (.sub (F30.p5 n0)))) := by kernel_rfl
theorem F30.e0 {n0 : Nat} {l0 : Value} {ds : List Nat} {h : H} {K : KP} : F30.p0 n0 [(0, l0)] ds h K = F30.t0 n0 (F30.p1 n0) (F30.p5 n0) l0 ds h K :=
  wchain (F30.s0) (F30.g0 (F30.p1 n0) (F30.p5 n0) l0)
theorem F30.k0 : F30.c0.ok = true := by kernel_rfl
theorem F30.d0 {n0 : Nat} : F30.p0 n0 = wA Try.prog n0 20 none F30.c0 := by kernel_rfl
theorem F30.m0 (n0 : Nat) : MonoW (F30.p0 n0) := @mono_c Try.prog n0 20 none F30.c0 (F30.p0 n0) (F30.d0) F30.k0
noncomputable def F30.t1 (n0 : Nat) (B2 : WP) (l0 i3 : Value) (ds : List Nat) (h : H) (K : KP) : Prop :=
  Bnd2 (aBuiltin Try.prog .len #[22] [l0] h) fun t6 h1 =>
  Bnd (aBin Try.prog false .lss 3 i3 t6) fun t7 =>
  Cnd t7
   (B2 [(0, l0), (3, i3)] ds h1 K)
   (K (.exit 0) [(0, l0), (3, i3)] ds h1)
theorem F30.g1 {n0 : Nat} (B2 : WP) (l0 i3 : Value) {ds : List Nat} {h : H} {K : KP} : wA Try.prog n0 20 none (.seq [0, 3] F30.c1.fst (.sub B2)) [(0, l0), (3, i3)] ds h K = F30.t1 n0 B2 l0 i3 ds h K := by kernel_rfl
theorem F30.s1 {n0 : Nat} : F30.p1 n0 = wA Try.prog n0 20 none (.seq [0, 3] F30.c1.fst (.sub (F30.p2 n0))) := by kernel_rfl
theorem F30.e1 {n0 : Nat} {l0 i3 : Value} {ds : List Nat} {h : H} {K : KP} : F30.p1 n0 [(0, l0), (3, i3)] ds h K = F30.t1 n0 (F30.p2 n0) l0 i3 ds h K :=
  wchain (F30.s1) (F30.g1 (F30.p2 n0) l0 i3)
theorem F30.k1 : F30.c1.ok = true := by kernel_rfl
theorem F30.d1 {n0 : Nat} : F30.p1 n0 = wA Try.prog n0 20 none F30.c1 := by kernel_rfl
theorem F30.m1 (n0 : Nat) : MonoW (F30.p1 n0) := @mono_c Try.prog n0 20 none F30.c1 (F30.p1 n0) (F30.d1) F30.k1
noncomputable def F30.t2 (n0 : Nat) (B3 : WP) (B4 : WP) (l0 i3 : Value) (ds : List Nat) (h : H) (K : KP) : Prop :=
  Bnd (aIndexAddr Try.prog 22 l0 i3) fun t12 =>
  Bnd (aLoad Try.prog 23 t12 h) fun t13 =>
  Bnd (aBin Try.prog true .sub 3 i3 (.int .i64 1)) fun t16 =>
  Bnd (aIndexAddr Try.prog 22 l0 t16) fun t17 =>
  Bnd (aLoad Try.prog 23 t17 h) fun t18 =>
  Bnd (aBin Try.prog false .leq 23 t13 t18) fun t19 =>
  Cnd t19
   (B3 [(0, l0), (3, i3)] ds h (KBlk [0, 3] 1 (KSeq [0, 3] B4 K)))
   (B4 [(0, l0), (3, i3)] ds h K)
theorem F30.g2 {n0 : Nat} (B3 : WP) (B4 : WP) (l0 i3 : Value) {ds : List Nat} {h : H} {K : KP} : wA Try.prog n0 20 none (.seq [0, 3] (.block [0, 3] 1 (.seq [0, 3, 19] F30.c2.fst.fst.fst (.cond [0, 3] (.tmp 19) (.sub B3) F30.c2.fst.fst.snd.snd))) (.sub B4)) [(0, l0), (3, i3)] ds h K = F30.t2 n0 B3 B4 l0 i3 ds h K := by kernel_rfl
theorem F30.s2 {n0 : Nat} : F30.p2 n0 = wA Try.prog n0 20 none (.seq [0, 3] (.block [0, 3] 1 (.seq [0, 3, 19] F30.c2.fst.fst.fst (.cond [0, 3] (.tmp 19) (.sub (F30.p3 n0)) F30.c2.fst.fst.snd.snd))) (.sub (F30.p4 n0))) := by kernel_rfl
theorem F30.e2 {n0 : Nat} {l0 i3 : Value} {ds : List Nat} {h : H} {K : KP} : F30.p2 n0 [(0, l0), (3, i3)] ds h K = F30.t2 n0 (F30.p3 n0) (F30.p4 n0) l0 i3 ds h K :=
  wchain (F30.s2) (F30.g2 (F30.p3 n0) (F30.p4 n0) l0 i3)
noncomputable def F30.t3 (n0 : Nat) (l0 i3 : Value) (ds : List Nat) (h : H) (K : KP) : Prop :=
  K .ret [(2, (.bool false))] ds h
theorem F30.g3 {n0 : Nat} (l0 i3 : Value) {ds : List Nat} {h : H} {K : KP} : wA Try.prog n0 20 none F30.c3 [(0, l0), (3, i3)] ds h K = F30.t3 n0 l0 i3 ds h K := by kernel_rfl
theorem F30.s3 {n0 : Nat} : F30.p3 n0 = wA Try.prog n0 20 none F30.c3 := by kernel_rfl
theorem F30.e3 {n0 : Nat} {l0 i3 : Value} {ds : List Nat} {h : H} {K : KP} : F30.p3 n0 [(0, l0), (3, i3)] ds h K = F30.t3 n0 l0 i3 ds h K :=
  wchain (F30.s3) (F30.g3 l0 i3)
noncomputable def F30.t4 (n0 : Nat) (l0 i3 : Value) (ds : List Nat) (h : H) (K : KP) : Prop :=
  Bnd (aBin Try.prog true .add 3 i3 (.int .i64 1)) fun t9 =>
  K .normal [(0, l0), (3, t9), (8, i3), (9, t9)] ds h
theorem F30.g4 {n0 : Nat} (l0 i3 : Value) {ds : List Nat} {h : H} {K : KP} : wA Try.prog n0 20 none F30.c4 [(0, l0), (3, i3)] ds h K = F30.t4 n0 l0 i3 ds h K := by kernel_rfl
theorem F30.s4 {n0 : Nat} : F30.p4 n0 = wA Try.prog n0 20 none F30.c4 := by kernel_rfl
theorem F30.e4 {n0 : Nat} {l0 i3 : Value} {ds : List Nat} {h : H} {K : KP} : F30.p4 n0 [(0, l0), (3, i3)] ds h K = F30.t4 n0 l0 i3 ds h K :=
  wchain (F30.s4) (F30.g4 l0 i3)
noncomputable def F30.t5 (n0 : Nat) (ds : List Nat) (h : H) (K : KP) : Prop :=
  K .ret [(2, (.bool true))] ds h
theorem F30.g5 {n0 : Nat} {ds : List Nat} {h : H} {K : KP} : wA Try.prog n0 20 none F30.c5 [] ds h K = F30.t5 n0  ds h K := by kernel_rfl
theorem F30.s5 {n0 : Nat} : F30.p5 n0 = wA Try.prog n0 20 none F30.c5 := by kernel_rfl
theorem F30.e5 {n0 : Nat} {ds : List Nat} {h : H} {K : KP} : F30.p5 n0 [] ds h K = F30.t5 n0  ds h K :=
  wchain (F30.s5) (F30.g5)
theorem F30.b : Try.f30.body = some F30.c0.erase := by kernel_rfl
theorem F30.b2 : (Try.f30.name == "runtime.NumGoroutine") = false := by kernel_rfl
theorem F30.b3 : Try.f30.ntmps = 20 := by kernel_rfl
theorem F30.b4 : Try.f30.results.toList = [.tmp 2] := by kernel_rfl
theorem F30.enter {n0 : Nat} {x0 : Value} {h : H} {Q : Value → H → Prop} (w : F30.p0 n0 [(0, x0)] [] h (KFin Try.prog [.tmp 2] Q)) : Cn Try.prog n0 (.func 30) [x0] h Q :=
  @fn_enter Try.prog n0 mixed 30 Try.f30 F30.c0 [x0] h Q Try.func30 F30.b F30.k0 F30.b2 20 F30.b3 [.tmp 2] F30.b4 (by simp) [(0, x0)] rfl (wback F30.d0 w)

/-! roster.idlist.From -/
noncomputable def F19.ac : AC := (ann (bodyOf Try.f19) [[0, 1], [1, 5], [5, 6], [4]]).1
noncomputable def F19.c0 : AC := F19.ac
noncomputable def F19.p0 (n0 : Nat) : WP := wA Try.prog n0 14 none F19.c0
noncomputable def F19.t0 (n0 : Nat) (l0 id1 : Value) (ds : List Nat) (h : H) (K : KP) : Prop :=
  Cn Try.prog n0 (.func 44) [l0] h fun t8 h1 =>
  Cn Try.prog n0 (.func 43) [t8] h1 fun t9 h2 =>
  Nw (enc 0 22) (zc Try.prog 22) h2 fun own5 h3 =>
  Bnd (aStore Try.prog 22 own5 t9 h3) fun h4 =>
  Bnd (aLoad Try.prog 22 own5 h4) fun t10 =>
  Cn Try.prog n0 (.func 42) [t10, (.int .i64 0), id1] h4 fun t12 h5 =>
  Nw (enc 0 3) (zc Try.prog 3) h5 fun at6 h6 =>
  Bnd (aStore Try.prog 3 at6 t12 h6) fun h7 =>
  K .ret [(4, (.func (.func 45) #[] #[own5, at6]))] ds h7
theorem F19.g0 {n0 : Nat} (l0 id1 : Value) {ds : List Nat} {h : H} {K : KP} : wA Try.prog n0 14 none F19.c0 [(0, l0), (1, id1)] ds h K = F19.t0 n0 l0 id1 ds h K := by kernel_rfl
theorem F19.s0 {n0 : Nat} : F19.p0 n0 = wA Try.prog n0 14 none F19.c0 := by kernel_rfl
theorem F19.e0 {n0 : Nat} {l0 id1 : Value} {ds : List Nat} {h : H} {K : KP} : F19.p0 n0 [(0, l0), (1, id1)] ds h K = F19.t0 n0 l0 id1 ds h K :=
  wchain (F19.s0) (F19.g0 l0 id1)
theorem F19.k0 : F19.c0.ok = true := by kernel_rfl
theorem F19.d0 {n0 : Nat} : F19.p0 n0 = wA Try.prog n0 14 none F19.c0 := by kernel_rfl
theorem F19.m0 (n0 : Nat) : MonoW (F19.p0 n0) := @mono_c Try.prog n0 14 none F19.c0 (F19.p0 n0) (F19.d0) F19.k0
theorem F19.b : Try.f19.body = some F19.c0.erase := by kernel_rfl
theorem F19.b2 : (Try.f19.name == "runtime.NumGoroutine") = false := by kernel_rfl
theorem F19.b3 : Try.f19.ntmps = 14 := by kernel_rfl
theorem F19.b4 : Try.f19.results.toList = [.tmp 4] := by kernel_rfl
theorem F19.enter {n0 : Nat} {x0 x1 : Value} {h : H} {Q : Value → H → Prop} (w : F19.p0 n0 [(0, x0), (1, x1)] [] h (KFin Try.prog [.tmp 4] Q)) : Cn Try.prog n0 (.func 19) [x0, x1] h Q :=
  @fn_enter Try.prog n0 mixed 19 Try.f19 F19.c0 [x0, x1] h Q Try.func19 F19.b F19.k0 F19.b2 14 F19.b3 [.tmp 4] F19.b4 (by simp) [(0, x0), (1, x1)] rfl (wback F19.d0 w)

/-! roster.idlist.From$1 -/
noncomputable def F45.ac : AC := (ann (bodyOf Try.f45) [[0, 8, 9, 10], [], [0, 8, 9, 10], [0, 8, 9, 10, 11], [0, 8, 9, 10], [0, 8, 9, 10], [0, 8, 9, 10], [0, 8, 9, 10], [0, 5, 8, 9, 10], [0, 8, 9, 10, 17], [0, 8, 9, 10]]).1
noncomputable def F45.c0 : AC := F45.ac
noncomputable def F45.c1 : AC := F45.ac.snd.fst.fst
noncomputable def F45.c2 : AC := F45.ac.snd.fst.fst.snd.snd
noncomputable def F45.c3 : AC := F45.ac.snd.fst.fst.snd.snd.snd
noncomputable def F45.p0 (n0 : Nat) : WP := wA Try.prog n0 19 none F45.c0
noncomputable def F45.p1 (n0 : Nat) : WP := wA Try.prog n0 19 none F45.c1
noncomputable def F45.p2 (n0 : Nat) : WP := wA Try.prog n0 19 none F45.c2
noncomputable def F45.p3 (n0 : Nat) : WP := wA Try.prog n0 19 none F45.c3
noncomputable def F45.t0 (n0 : Nat) (B1 : WP) (yield0 t1 t2 : Value) (ds : List Nat) (h : H) (K : KP) : Prop :=
  Bnd (aLoad Try.prog 22 t1 h) fun t6 =>
  Bnd (aLoad Try.prog 3 t2 h) fun t7 =>
  Bnd (aSlice Try.prog 22 t6 (some t7) none none h) fun t8 =>
  Bnd2 (aBuiltin Try.prog .len #[22] [t8] h) fun t9 h1 =>
  Lp [0, 8, 9, 10] B1 [(0, yield0), (8, t8), (9, t9), (10, (.int .i64 0))] ds h1 (KBlk [] 0 K)
theorem F45.g0 {n0 : Nat} (B1 : WP) (yield0 t1 t2 : Value) {ds : List Nat} {h : H} {K : KP} : wA Try.prog n0 19 none (.seq [0, 8, 9, 10] F45.c0.fst (.block [] 0 (.loop [0, 8, 9, 10] (.sub B1)))) [(0, yield0), (1, t1), (2, t2)] ds h K = F45.t0 n0 B1 yield0 t1 t2 ds h K := by kernel_rfl
theorem F45.s0 {n0 : Nat} : F45.p0 n0 = wA Try.prog n0 19 none (.seq [0, 8, 9, 10] F45.c0.fst (.block [] 0 (.loop [0, 8, 9, 10] (.sub (F45.p1 n0))))) := by kernel_rfl
theorem F45.e0 {n0 : Nat} {yield0 t1 t2 : Value} {ds : List Nat} {h : H} {K : KP} : F45.p0 n0 [(0, yield0), (1, t1), (2, t2)] ds h K = F45.t0 n0 (F45.p1 n0) yield0 t1 t2 ds h K :=
  wchain (F45.s0) (F45.g0 (F45.p1 n0) yield0 t1 t2)
theorem F45.k0 : F45.c0.ok = true := by kernel_rfl
theorem F45.d0 {n0 : Nat} : F45.p0 n0 = wA Try.prog n0 19 none F45.c0 := by kernel_rfl
theorem F45.m0 (n0 : Nat) : MonoW (F45.p0 n0) := @mono_c Try.prog n0 19 none F45.c0 (F45.p0 n0) (F45.d0) F45.k0
noncomputable def F45.t1 (n0 : Nat) (B2 : WP) (yield0 t8 t9 t10 : Value) (ds : List Nat) (h : H) (K : KP) : Prop :=
  Bnd (aBin Try.prog false .lss 3 t10 t9) fun t11 =>
  Cnd t11
   (B2 [(0, yield0), (8, t8), (9, t9), (10, t10)] ds h K)
   (K (.exit 0) [(0, yield0), (8, t8), (9, t9), (10, t10)] ds h)
theorem F45.g1 {n0 : Nat} (B2 : WP) (yield0 t8 t9 t10 : Value) {ds : List Nat} {h : H} {K : KP} : wA Try.prog n0 19 none (.seq [0, 8, 9, 10, 11] F45.c1.fst (.seq [0, 8, 9, 10] F45.c1.snd.fst (.sub B2))) [(0, yield0), (8, t8), (9, t9), (10, t10)] ds h K = F45.t1 n0 B2 yield0 t8 t9 t10 ds h K := by kernel_rfl
theorem F45.s1 {n0 : Nat} : F45.p1 n0 = wA Try.prog n0 19 none (.seq [0, 8, 9, 10, 11] F45.c1.fst (.seq [0, 8, 9, 10] F45.c1.snd.fst (.sub (F45.p2 n0)))) := by kernel_rfl
theorem F45.e1 {n0 : Nat} {yield0 t8 t9 t10 : Value} {ds : List Nat} {h : H} {K : KP} : F45.p1 n0 [(0, yield0), (8, t8), (9, t9), (10, t10)] ds h K = F45.t1 n0 (F45.p2 n0) yield0 t8 t9 t10 ds h K :=
  wchain (F45.s1) (F45.g1 (F45.p2 n0) yield0 t8 t9 t10)
theorem F45.k1 : F45.c1.ok = true := by kernel_rfl
theorem F45.d1 {n0 : Nat} : F45.p1 n0 = wA Try.prog n0 19 none F45.c1 := by kernel_rfl
theorem F45.m1 (n0 : Nat) : MonoW (F45.p1 n0) := @mono_c Try.prog n0 19 none F45.c1 (F45.p1 n0) (F45.d1) F45.k1
noncomputable def F45.t2 (n0 : Nat) (B3 : WP) (yield0 t8 t9 t10 : Value) (ds : List Nat) (h : H) (K : KP) : Prop :=
  Bnd (aIndexAddr Try.prog 22 t8 t10) fun t12 =>
  Bnd (aLoad Try.prog 23 t12 h) fun t13 =>
  CallV Try.prog n0 yield0 [t13] h fun t16 h1 =>
  Bnd (aUn .not t16) fun t17 =>
  Cnd t17
   (K .ret [(0, yield0), (8, t8), (9, t9), (10, t10)] ds h1)
   (B3 [(0, yield0), (8, t8), (9, t9), (10, t10)] ds h1 K)
theorem F45.g2 {n0 : Nat} (B3 : WP) (yield0 t8 t9 t10 : Value) {ds : List Nat} {h : H} {K : KP} : wA Try.prog n0 19 none (.seq [0, 8, 9, 10] F45.c2.fst (.sub B3)) [(0, yield0), (8, t8), (9, t9), (10, t10)] ds h K = F45.t2 n0 B3 yield0 t8 t9 t10 ds h K := by kernel_rfl
theorem F45.s2 {n0 : Nat} : F45.p2 n0 = wA Try.prog n0 19 none (.seq [0, 8, 9, 10] F45.c2.fst (.sub (F45.p3 n0))) := by kernel_rfl
theorem F45.e2 {n0 : Nat} {yield0 t8 t9 t10 : Value} {ds : List Nat} {h : H} {K : KP} : F45.p2 n0 [(0, yield0), (8, t8), (9, t9), (10, t10)] ds h K = F45.t2 n0 (F45.p3 n0) yield0 t8 t9 t10 ds h K :=
  wchain (F45.s2) (F45.g2 (F45.p3 n0) yield0 t8 t9 t10)
noncomputable def F45.t3 (n0 : Nat) (yield0 t8 t9 t10 : Value) (ds : List Nat) (h : H) (K : KP) : Prop :=
  Bnd (aBin Try.prog true .add 3 t10 (.int .i64 1)) fun t18 =>
  K .normal [(0, yield0), (8, t8), (9, t9), (10, t18), (18, t18)] ds h
theorem F45.g3 {n0 : Nat} (yield0 t8 t9 t10 : Value) {ds : List Nat} {h : H} {K : KP} : wA Try.prog n0 19 none F45.c3 [(0, yield0), (8, t8), (9, t9), (10, t10)] ds h K = F45.t3 n0 yield0 t8 t9 t10 ds h K := by kernel_rfl
theorem F45.s3 {n0 : Nat} : F45.p3 n0 = wA Try.prog n0 19 none F45.c3 := by kernel_rfl
theorem F45.e3 {n0 : Nat} {yield0 t8 t9 t10 : Value} {ds : List Nat} {h : H} {K : KP} : F45.p3 n0 [(0, yield0), (8, t8), (9, t9), (10, t10)] ds h K = F45.t3 n0 yield0 t8 t9 t10 ds h K :=
  wchain (F45.s3) (F45.g3 yield0 t8 t9 t10)
theorem F45.b : Try.f45.body = some F45.c0.erase := by kernel_rfl
theorem F45.b2 : (Try.f45.name == "runtime.NumGoroutine") = false := by kernel_rfl
theorem F45.b3 : Try.f45.ntmps = 19 := by kernel_rfl
theorem F45.b4 : Try.f45.results.toList = [] := by kernel_rfl
theorem F45.enter {n0 : Nat} {x0 x1 x2 : Value} {h : H} {Q : Value → H → Prop} (w : F45.p0 n0 [(0, x0), (1, x1), (2, x2)] [] h (KFin Try.prog [] Q)) : Cn Try.prog n0 (.func 45) [x0, x1, x2] h Q :=
  @fn_enter Try.prog n0 mixed 45 Try.f45 F45.c0 [x0, x1, x2] h Q Try.func45 F45.b F45.k0 F45.b2 19 F45.b3 [] F45.b4 (by simp) [(0, x0), (1, x1), (2, x2)] rfl (wback F45.d0 w)

/-! roster.idlist.Has -/
noncomputable def F15.ac : AC := (ann (bodyOf Try.f15) [[0, 3, 4], [4], [3, 4, 8], [4], [3, 4, 8], [4]]).1
noncomputable def F15.rAs0 : Code := F15.ac.snd.fst.snd.fst.rfAs
noncomputable def F15.rBd0 : Code := F15.ac.snd.fst.snd.fst.rfBd
noncomputable def F15.aAs0 : AC := (ann F15.rAs0 []).1
noncomputable def F15.aBd0 : AC := (ann F15.rBd0 [[3, 4], [4]]).1
noncomputable def F15.c0 : AC := F15.ac
noncomputable def F15.c1 : AC := F15.ac.snd.snd
noncomputable def F15.p0 (n0 : Nat) : WP := wA Try.prog n0 13 none F15.c0
noncomputable def F15.p1 (n0 : Nat) : WP := wA Try.prog n0 13 none F15.c1
noncomputable def F15.t0 (n0 : Nat) (B1 : WP) (l0 id1 : Value) (ds : List Nat) (h : H) (K : KP) : Prop :=
  Nw (enc 0 23) (clL id1) h fun id3 h1 =>
  Nw (enc 0 4) (zc Try.prog 4) h1 fun t4 h2 =>
  Bnd (aLoad Try.prog 23 id3 h2) fun t7 =>
  Cn Try.prog n0 (.func 19) [l0, t7] h2 fun t8 h3 =>
  wRange Try.prog n0 none 13 t8 #[9] F15.rAs0 F15.rBd0 [(3, id3), (4, t4), (8, t8)] ds h3 (KBlk [4] 0 (KSeq [4] B1 K))
theorem F15.g0 {n0 : Nat} (B1 : WP) (l0 id1 : Value) {ds : List Nat} {h : H} {K : KP} : wA Try.prog n0 13 none (.seq [0, 3, 4] F15.c0.fst (.seq [4] F15.c0.snd.fst (.sub B1))) [(0, l0), (1, id1)] ds h K = F15.t0 n0 B1 l0 id1 ds h K := by kernel_rfl
theorem F15.s0 {n0 : Nat} : F15.p0 n0 = wA Try.prog n0 13 none (.seq [0, 3, 4] F15.c0.fst (.seq [4] F15.c0.snd.fst (.sub (F15.p1 n0)))) := by kernel_rfl
theorem F15.e0 {n0 : Nat} {l0 id1 : Value} {ds : List Nat} {h : H} {K : KP} : F15.p0 n0 [(0, l0), (1, id1)] ds h K = F15.t0 n0 (F15.p1 n0) l0 id1 ds h K :=
  wchain (F15.s0) (F15.g0 (F15.p1 n0) l0 id1)
theorem F15.k0 : F15.c0.ok = true := by kernel_rfl
theorem F15.d0 {n0 : Nat} : F15.p0 n0 = wA Try.prog n0 13 none F15.c0 := by kernel_rfl
theorem F15.m0 (n0 : Nat) : MonoW (F15.p0 n0) := @mono_c Try.prog n0 13 none F15.c0 (F15.p0 n0) (F15.d0) F15.k0
noncomputable def F15.t1 (n0 : Nat) (t4 : Value) (ds : List Nat) (h : H) (K : KP) : Prop :=
  Bnd (aStore Try.prog 4 t4 (.bool false) h) fun h1 =>
  K .ret [(4, t4)] ds h1
theorem F15.g1 {n0 : Nat} (t4 : Value) {ds : List Nat} {h : H} {K : KP} : wA Try.prog n0 13 none F15.c1 [(4, t4)] ds h K = F15.t1 n0 t4 ds h K := by kernel_rfl
theorem F15.s1 {n0 : Nat} : F15.p1 n0 = wA Try.prog n0 13 none F15.c1 := by kernel_rfl
theorem F15.e1 {n0 : Nat} {t4 : Value} {ds : List Nat} {h : H} {K : KP} : F15.p1 n0 [(4, t4)] ds h K = F15.t1 n0 t4 ds h K :=
  wchain (F15.s1) (F15.g1 t4)
noncomputable def F15.c2 : AC := F15.aAs0
noncomputable def F15.p2 (n0 : Nat) (l : Nat) : WP := wA Try.prog n0 13 (some l) F15.c2
noncomputable def F15.t2 (n0 : Nat) (l : Nat) (id3 t4 t8 t9 : Value) (ds : List Nat) (h : H) (K : KP) : Prop :=
  K .normal [(3, id3), (4, t4), (8, t8), (9, t9), (5, t9)] ds h
theorem F15.g2 {n0 : Nat} {l : Nat} (id3 t4 t8 t9 : Value) {ds : List Nat} {h : H} {K : KP} : wA Try.prog n0 13 (some l) F15.c2 [(3, id3), (4, t4), (8, t8), (9, t9)] ds h K = F15.t2 n0 l id3 t4 t8 t9 ds h K := by kernel_rfl
theorem F15.s2 {n0 : Nat} (l : Nat) : F15.p2 n0 l = wA Try.prog n0 13 (some l) F15.c2 := by kernel_rfl
theorem F15.e2 {n0 : Nat} {l : Nat} {id3 t4 t8 t9 : Value} {ds : List Nat} {h : H} {K : KP} : F15.p2 n0 l [(3, id3), (4, t4), (8, t8), (9, t9)] ds h K = F15.t2 n0 l id3 t4 t8 t9 ds h K :=
  wchain (F15.s2 l) (F15.g2 id3 t4 t8 t9)
theorem F15.k2 : F15.c2.ok = true := by kernel_rfl
theorem F15.d2 {n0 : Nat} (l : Nat) : F15.p2 n0 l = wA Try.prog n0 13 (some l) F15.c2 := by kernel_rfl
theorem F15.m2 (n0 : Nat) (l : Nat) : MonoW (F15.p2 n0 l) := @mono_c Try.prog n0 13 (some l) F15.c2 (F15.p2 n0 l) (F15.d2 l) F15.k2
noncomputable def F15.c3 : AC := F15.aBd0
noncomputable def F15.p3 (n0 : Nat) (l : Nat) : WP := wA Try.prog n0 13 (some l) F15.c3
noncomputable def F15.t3 (n0 : Nat) (l : Nat) (id3 t4 x5 : Value) (ds : List Nat) (h : H) (K : KP) : Prop :=
  Bnd (aLoad Try.prog 23 id3 h) fun t11 =>
  Bnd (aBin Try.prog false .eql 23 x5 t11) fun t12 =>
  Bnd (aStore Try.prog 4 t4 t12 h) fun h1 =>
  K .ret [(4, t4)] ds h1
theorem F15.g3 {n0 : Nat} {l : Nat} (id3 t4 x5 : Value) {ds : List Nat} {h : H} {K : KP} : wA Try.prog n0 13 (some l) F15.c3 [(3, id3), (4, t4), (5, x5)] ds h K = F15.t3 n0 l id3 t4 x5 ds h K := by kernel_rfl
theorem F15.s3 {n0 : Nat} (l : Nat) : F15.p3 n0 l = wA Try.prog n0 13 (some l) F15.c3 := by kernel_rfl
theorem F15.e3 {n0 : Nat} {l : Nat} {id3 t4 x5 : Value} {ds : List Nat} {h : H} {K : KP} : F15.p3 n0 l [(3, id3), (4, t4), (5, x5)] ds h K = F15.t3 n0 l id3 t4 x5 ds h K :=
  wchain (F15.s3 l) (F15.g3 id3 t4 x5)
theorem F15.k3 : F15.c3.ok = true := by kernel_rfl
theorem F15.d3 {n0 : Nat} (l : Nat) : F15.p3 n0 l = wA Try.prog n0 13 (some l) F15.c3 := by kernel_rfl
theorem F15.m3 (n0 : Nat) (l : Nat) : MonoW (F15.p3 n0 l) := @mono_c Try.prog n0 13 (some l) F15.c3 (F15.p3 n0 l) (F15.d3 l) F15.k3
theorem F15.b : Try.f15.body = some F15.c0.erase := by kernel_rfl
theorem F15.b2 : (Try.f15.name == "runtime.NumGoroutine") = false := by kernel_rfl
theorem F15.b3 : Try.f15.ntmps = 13 := by kernel_rfl
theorem F15.b4 : Try.f15.results.toList = [.cell 4 4] := by kernel_rfl
theorem F15.enter {n0 : Nat} {x0 x1 : Value} {h : H} {Q : Value → H → Prop} (w : F15.p0 n0 [(0, x0), (1, x1)] [] h (KFin Try.prog [.cell 4 4] Q)) : Cn Try.prog n0 (.func 15) [x0, x1] h Q :=
  @fn_enter Try.prog n0 mixed 15 Try.f15 F15.c0 [x0, x1] h Q Try.func15 F15.b F15.k0 F15.b2 13 F15.b3 [.cell 4 4] F15.b4 (by simp) [(0, x0), (1, x1)] rfl (wback F15.d0 w)

/-! roster.idlist.both -/
noncomputable def F51.ac : AC := (ann (bodyOf Try.f51) [[0, 1], [0, 1, 5], [0, 1, 5], [0, 1, 5], [0, 1, 5], [0, 1, 5], [0, 1, 5, 21], [0, 1, 5], [0, 1, 5], [0, 1, 5, 6, 7], [0, 1, 5, 6, 7], [0, 1, 5, 6, 7, 30], [0, 1, 5, 6, 7], [0, 1, 5, 6, 7], [0, 1, 5, 6, 7, 35], [0, 1, 5, 6, 7], [1, 5], [4]]).1
noncomputable def F51.c0 : AC := F51.ac
noncomputable def F51.c1 : AC := F51.ac.snd.snd.fst.fst.fst
noncomputable def F51.c2 : AC := F51.ac.snd.snd.fst.fst.fst.snd
noncomputable def F51.c3 : AC := F51.ac.snd.snd.fst.fst.fst.snd.fst.snd.fst.snd.fst
noncomputable def F51.c4 : AC := F51.ac.snd.snd.fst.fst.fst.snd.fst.snd.snd
noncomputable def F51.c5 : AC := F51.ac.snd.snd.fst.fst.fst.snd.fst.snd.snd.fst.snd.fst
noncomputable def F51.c6 : AC := F51.ac.snd.snd.fst.fst.fst.snd.fst.snd.snd.snd
noncomputable def F51.c7 : AC := F51.ac.snd.snd.snd
noncomputable def F51.p0 (n0 : Nat) : WP := wA Try.prog n0 50 none F51.c0
noncomputable def F51.p1 (n0 : Nat) : WP := wA Try.prog n0 50 none F51.c1
noncomputable def F51.p2 (n0 : Nat) : WP := wA Try.prog n0 50 none F51.c2
noncomputable def F51.p3 (n0 : Nat) : WP := wA Try.prog n0 50 none F51.c3
noncomputable def F51.p4 (n0 : Nat) : WP := wA Try.prog n0 50 none F51.c4
noncomputable def F51.p5 (n0 : Nat) : WP := wA Try.prog n0 50 none F51.c5
noncomputable def F51.p6 (n0 : Nat) : WP := wA Try.prog n0 50 none F51.c6
noncomputable def F51.p7 (n0 : Nat) : WP := wA Try.prog n0 50 none F51.c7
noncomputable def F51.t0 (n0 : Nat) (B1 : WP) (B7 : WP) (a0 b1 : Value) (ds : List Nat) (h : H) (K : KP) : Prop :=
  Bnd2 (aBuiltin Try.prog .len #[22] [a0] h) fun t9 h1 =>
  Bnd2 (aBuiltin Try.prog .len #[22] [b1] h1) fun t11 h2 =>
  Bnd (aBin Try.prog false .add 3 t9 t11) fun t12 =>
  Bnd2 (aMakeSlice Try.prog 22 (.int .i64 0) t12 h2) fun t13 h3 =>
  Lp [0, 1, 5] B1 [(0, a0), (1, b1), (5, t13)] ds h3 (KBlk [0, 1, 5] 0 (KSeq [0, 1, 5] B7 K))
theorem F51.g0 {n0 : Nat} (B1 : WP) (B7 : WP) (a0 b1 : Value) {ds : List Nat} {h : H} {K : KP} : wA Try.prog n0 50 none (.seq [0, 1] F51.c0.fst (.seq [0, 1, 5] F51.c0.snd.fst (.seq [0, 1, 5] (.block [0, 1, 5] 0 (.loop [0, 1, 5] (.sub B1))) (.sub B7)))) [(0, a0), (1, b1)] ds h K = F51.t0 n0 B1 B7 a0 b1 ds h K := by kernel_rfl
theorem F51.s0 {n0 : Nat} : F51.p0 n0 = wA Try.prog n0 50 none (.seq [0, 1] F51.c0.fst (.seq [0, 1, 5] F51.c0.snd.fst (.seq [0, 1, 5] (.block [0, 1, 5] 0 (.loop [0, 1, 5] (.sub (F51.p1 n0)))) (.sub (F51.p7 n0))))) := by kernel_rfl
theorem F51.e0 {n0 : Nat} {a0 b1 : Value} {ds : List Nat} {h : H} {K : KP} : F51.p0 n0 [(0, a0), (1, b1)] ds h K = F51.t0 n0 (F51.p1 n0) (F51.p7 n0) a0 b1 ds h K :=
  wchain (F51.s0) (F51.g0 (F51.p1 n0) (F51.p7 n0) a0 b1)
theorem F51.k0 : F51.c0.ok = true := by kernel_rfl
theorem F51.d0 {n0 : Nat} : F51.p0 n0 = wA Try.prog n0 50 none F51.c0 := by kernel_rfl
theorem F51.m0 (n0 : Nat) : MonoW (F51.p0 n0) := @mono_c Try.prog n0 50 none F51.c0 (F51.p0 n0) (F51.d0) F51.k0
noncomputable def F51.t1 (n0 : Nat) (B2 : WP) (a0 b1 out5 : Value) (ds : List Nat) (h : H) (K : KP) : Prop :=
  Bnd2 (aBuiltin Try.prog .len #[22] [a0] h) fun t15 h1 =>
  Bnd (aBin Try.prog true .gtr 3 t15 (.int .i64 0)) fun t16 =>
  Gd t16
   (Bnd2 (aBuiltin Try.prog .len #[22] [b1] h1) fun t19 h2 =>
  Bnd (aBin Try.prog true .gtr 3 t19 (.int .i64 0)) fun t20 =>
  Cnd t20
   (B2 [(0, a0), (1, b1), (5, out5)] ds h2 K)
   (K (.exit 0) [(0, a0), (1, b1), (5, out5)] ds h2))
   (K (.exit 0) [(0, a0), (1, b1), (5, out5)] ds h1)
theorem F51.g1 {n0 : Nat} (B2 : WP) (a0 b1 out5 : Value) {ds : List Nat} {h : H} {K : KP} : wA Try.prog n0 50 none (.seq [0, 1, 5] F51.c1.fst (.sub B2)) [(0, a0), (1, b1), (5, out5)] ds h K = F51.t1 n0 B2 a0 b1 out5 ds h K := by kernel_rfl
theorem F51.s1 {n0 : Nat} : F51.p1 n0 = wA Try.prog n0 50 none (.seq [0, 1, 5] F51.c1.fst (.sub (F51.p2 n0))) := by kernel_rfl
theorem F51.e1 {n0 : Nat} {a0 b1 out5 : Value} {ds : List Nat} {h : H} {K : KP} : F51.p1 n0 [(0, a0), (1, b1), (5, out5)] ds h K = F51.t1 n0 (F51.p2 n0) a0 b1 out5 ds h K :=
  wchain (F51.s1) (F51.g1 (F51.p2 n0) a0 b1 out5)
theorem F51.k1 : F51.c1.ok = true := by kernel_rfl
theorem F51.d1 {n0 : Nat} : F51.p1 n0 = wA Try.prog n0 50 none F51.c1 := by kernel_rfl
theorem F51.m1 (n0 : Nat) : MonoW (F51.p1 n0) := @mono_c Try.prog n0 50 none F51.c1 (F51.p1 n0) (F51.d1) F51.k1
noncomputable def F51.t2 (n0 : Nat) (B3 : WP) (B4 : WP) (a0 b1 out5 : Value) (ds : List Nat) (h : H) (K : KP) : Prop :=
  Bnd (aIndexAddr Try.prog 22 a0 (.int .i64 0)) fun t23 =>
  Bnd (aLoad Try.prog 23 t23 h) fun t24 =>
  Bnd (aIndexAddr Try.prog 22 b1 (.int .i64 0)) fun t26 =>
  Bnd (aLoad Try.prog 23 t26 h) fun t27 =>
  Bnd (aBin Try.prog false .leq 23 t24 t27) fun t30 =>
  Cnd t30
   (B3 [(0, a0), (1, b1), (5, out5), (6, t24), (7, t27)] ds h (KSeq [0, 1, 5, 6, 7] B4 (KBlk [0, 1, 5] 1 K)))
   (B4 [(0, a0), (1, b1), (5, out5), (6, t24), (7, t27)] ds h (KBlk [0, 1, 5] 1 K))
theorem F51.g2 {n0 : Nat} (B3 : WP) (B4 : WP) (a0 b1 out5 : Value) {ds : List Nat} {h : H} {K : KP} : wA Try.prog n0 50 none (.block [0, 1, 5] 1 (.seq [0, 1, 5, 6, 7] F51.c2.fst.fst (.seq [0, 1, 5, 6, 7] (.seq [0, 1, 5, 6, 7, 30] F51.c2.fst.snd.fst.fst (.cond [0, 1, 5, 6, 7] (.tmp 30) (.sub B3) F51.c2.fst.snd.fst.snd.snd)) (.sub B4)))) [(0, a0), (1, b1), (5, out5)] ds h K = F51.t2 n0 B3 B4 a0 b1 out5 ds h K := by kernel_rfl
theorem F51.s2 {n0 : Nat} : F51.p2 n0 = wA Try.prog n0 50 none (.block [0, 1, 5] 1 (.seq [0, 1, 5, 6, 7] F51.c2.fst.fst (.seq [0, 1, 5, 6, 7] (.seq [0, 1, 5, 6, 7, 30] F51.c2.fst.snd.fst.fst (.cond [0, 1, 5, 6, 7] (.tmp 30) (.sub (F51.p3 n0)) F51.c2.fst.snd.fst.snd.snd)) (.sub (F51.p4 n0))))) := by kernel_rfl
theorem F51.e2 {n0 : Nat} {a0 b1 out5 : Value} {ds : List Nat} {h : H} {K : KP} : F51.p2 n0 [(0, a0), (1, b1), (5, out5)] ds h K = F51.t2 n0 (F51.p3 n0) (F51.p4 n0) a0 b1 out5 ds h K :=
  wchain (F51.s2) (F51.g2 (F51.p3 n0) (F51.p4 n0) a0 b1 out5)
noncomputable def F51.t3 (n0 : Nat) (a0 b1 out5 x6 y7 : Value) (ds : List Nat) (h : H) (K : KP) : Prop :=
  Bnd (aSlice Try.prog 22 a0 (some (.int .i64 1)) none none h) fun t32 =>
  K .normal [(0, t32), (1, b1), (5, out5), (6, x6), (7, y7), (31, a0), (32, t32)] ds h
theorem F51.g3 {n0 : Nat} (a0 b1 out5 x6 y7 : Value) {ds : List Nat} {h : H} {K : KP} : wA Try.prog n0 50 none F51.c3 [(0, a0), (1, b1), (5, out5), (6, x6), (7, y7)] ds h K = F51.t3 n0 a0 b1 out5 x6 y7 ds h K := by kernel_rfl
theorem F51.s3 {n0 : Nat} : F51.p3 n0 = wA Try.prog n0 50 none F51.c3 := by kernel_rfl
theorem F51.e3 {n0 : Nat} {a0 b1 out5 x6 y7 : Value} {ds : List Nat} {h : H} {K : KP} : F51.p3 n0 [(0, a0), (1, b1), (5, out5), (6, x6), (7, y7)] ds h K = F51.t3 n0 a0 b1 out5 x6 y7 ds h K :=
  wchain (F51.s3) (F51.g3 a0 b1 out5 x6 y7)
noncomputable def F51.t4 (n0 : Nat) (B5 : WP) (B6 : WP) (a0 b1 out5 x6 y7 : Value) (ds : List Nat) (h : H) (K : KP) : Prop :=
  Bnd (aBin Try.prog false .leq 23 y7 x6) fun t35 =>
  Cnd t35
   (B5 [(0, a0), (1, b1), (5, out5), (6, x6), (7, y7)] ds h (KSeq [0, 1, 5, 6, 7] B6 K))
   (B6 [(0, a0), (1, b1), (5, out5), (6, x6), (7, y7)] ds h K)
theorem F51.g4 {n0 : Nat} (B5 : WP) (B6 : WP) (a0 b1 out5 x6 y7 : Value) {ds : List Nat} {h : H} {K : KP} : wA Try.prog n0 50 none (.seq [0, 1, 5, 6, 7] (.seq [0, 1, 5, 6, 7, 35] F51.c4.fst.fst (.cond [0, 1, 5, 6, 7] (.tmp 35) (.sub B5) F51.c4.fst.snd.snd)) (.sub B6)) [(0, a0), (1, b1), (5, out5), (6, x6), (7, y7)] ds h K = F51.t4 n0 B5 B6 a0 b1 out5 x6 y7 ds h K := by kernel_rfl
theorem F51.s4 {n0 : Nat} : F51.p4 n0 = wA Try.prog n0 50 none (.seq [0, 1, 5, 6, 7] (.seq [0, 1, 5, 6, 7, 35] F51.c4.fst.fst (.cond [0, 1, 5, 6, 7] (.tmp 35) (.sub (F51.p5 n0)) F51.c4.fst.snd.snd)) (.sub (F51.p6 n0))) := by kernel_rfl
theorem F51.e4 {n0 : Nat} {a0 b1 out5 x6 y7 : Value} {ds : List Nat} {h : H} {K : KP} : F51.p4 n0 [(0, a0), (1, b1), (5, out5), (6, x6), (7, y7)] ds h K = F51.t4 n0 (F51.p5 n0) (F51.p6 n0) a0 b1 out5 x6 y7 ds h K :=
  wchain (F51.s4) (F51.g4 (F51.p5 n0) (F51.p6 n0) a0 b1 out5 x6 y7)
noncomputable def F51.t5 (n0 : Nat) (a0 b1 out5 x6 y7 : Value) (ds : List Nat) (h : H) (K : KP) : Prop :=
  Bnd (aSlice Try.prog 22 b1 (some (.int .i64 1)) none none h) fun t37 =>
  K .normal [(0, a0), (1, t37), (5, out5), (6, x6), (7, y7), (36, b1), (37, t37)] ds h
theorem F51.g5 {n0 : Nat} (a0 b1 out5 x6 y7 : Value) {ds : List Nat} {h : H} {K : KP} : wA Try.prog n0 50 none F51.c5 [(0, a0), (1, b1), (5, out5), (6, x6), (7, y7)] ds h K = F51.t5 n0 a0 b1 out5 x6 y7 ds h K := by kernel_rfl
theorem F51.s5 {n0 : Nat} : F51.p5 n0 = wA Try.prog n0 50 none F51.c5 := by kernel_rfl
theorem F51.e5 {n0 : Nat} {a0 b1 out5 x6 y7 : Value} {ds : List Nat} {h : H} {K : KP} : F51.p5 n0 [(0, a0), (1, b1), (5, out5), (6, x6), (7, y7)] ds h K = F51.t5 n0 a0 b1 out5 x6 y7 ds h K :=
  wchain (F51.s5) (F51.g5 a0 b1 out5 x6 y7)
noncomputable def F51.t6 (n0 : Nat) (a0 b1 out5 x6 y7 : Value) (ds : List Nat) (h : H) (K : KP) : Prop :=
  Bnd2 (aBuiltin Try.prog .min #[23, 23] [x6, y7] h) fun t41 h1 =>
  Bnd2 (aBuildSlice Try.prog 22 1 [(0, t41)] h1) fun t42 h2 =>
  Bnd2 (aBuiltin Try.prog .append #[22, 22] [out5, t42] h2) fun t43 h3 =>
  K .normal [(0, a0), (1, b1), (5, t43), (6, x6), (7, y7), (38, out5), (39, x6), (40, y7), (41, t41), (42, t42), (43, t43)] ds h3
theorem F51.g6 {n0 : Nat} (a0 b1 out5 x6 y7 : Value) {ds : List Nat} {h : H} {K : KP} : wA Try.prog n0 50 none F51.c6 [(0, a0), (1, b1), (5, out5), (6, x6), (7, y7)] ds h K = F51.t6 n0 a0 b1 out5 x6 y7 ds h K := by kernel_rfl
theorem F51.s6 {n0 : Nat} : F51.p6 n0 = wA Try.prog n0 50 none F51.c6 := by kernel_rfl
theorem F51.e6 {n0 : Nat} {a0 b1 out5 x6 y7 : Value} {ds : List Nat} {h : H} {K : KP} : F51.p6 n0 [(0, a0), (1, b1), (5, out5), (6, x6), (7, y7)] ds h K = F51.t6 n0 a0 b1 out5 x6 y7 ds h K :=
  wchain (F51.s6) (F51.g6 a0 b1 out5 x6 y7)
noncomputable def F51.t7 (n0 : Nat) (a0 b1 out5 : Value) (ds : List Nat) (h : H) (K : KP) : Prop :=
  Bnd2 (aBuiltin Try.prog .append #[22, 22] [out5, a0] h) fun t46 h1 =>
  Bnd2 (aBuiltin Try.prog .append #[22, 22] [t46, b1] h1) fun t49 h2 =>
  K .ret [(4, t49)] ds h2
theorem F51.g7 {n0 : Nat} (a0 b1 out5 : Value) {ds : List Nat} {h : H} {K : KP} : wA Try.prog n0 50 none F51.c7 [(0, a0), (1, b1), (5, out5)] ds h K = F51.t7 n0 a0 b1 out5 ds h K := by kernel_rfl
theorem F51.s7 {n0 : Nat} : F51.p7 n0 = wA Try.prog n0 50 none F51.c7 := by kernel_rfl
theorem F51.e7 {n0 : Nat} {a0 b1 out5 : Value} {ds : List Nat} {h : H} {K : KP} : F51.p7 n0 [(0, a0), (1, b1), (5, out5)] ds h K = F51.t7 n0 a0 b1 out5 ds h K :=
  wchain (F51.s7) (F51.g7 a0 b1 out5)
theorem F51.b : Try.f51.body = some F51.c0.erase := by kernel_rfl
theorem F51.b2 : (Try.f51.name == "runtime.NumGoroutine") = false := by kernel_rfl
theorem F51.b3 : Try.f51.ntmps = 50 := by kernel_rfl
theorem F51.b4 : Try.f51.results.toList = [.tmp 4] := by kernel_rfl
theorem F51.enter {n0 : Nat} {x0 x1 : Value} {h : H} {Q : Value → H → Prop} (w : F51.p0 n0 [(0, x0), (1, x1)] [] h (KFin Try.prog [.tmp 4] Q)) : Cn Try.prog n0 (.func 51) [x0, x1] h Q :=
  @fn_enter Try.prog n0 mixed 51 Try.f51 F51.c0 [x0, x1] h Q Try.func51 F51.b F51.k0 F51.b2 50 F51.b3 [.tmp 4] F51.b4 (by simp) [(0, x0), (1, x1)] rfl (wback F51.d0 w)

/-! roster.idlist.Union -/
noncomputable def F29.ac : AC := (ann (bodyOf Try.f29) [[0], [0, 3], [3], [3, 6, 7, 8], [3], [3, 6, 7, 8], [3, 6, 7, 8, 9], [3, 6, 7, 8], [3, 6, 7, 8], [3, 6, 7, 8], [3, 6, 7, 8], [3, 5, 6, 7, 8], [2]]).1
noncomputable def F29.c0 : AC := F29.ac
noncomputable def F29.c1 : AC := F29.ac.snd.snd.fst.snd.fst.fst
noncomputable def F29.c2 : AC := F29.ac.snd.snd.fst.snd.fst.fst.snd.snd
noncomputable def F29.c3 : AC := F29.ac.snd.snd.fst.snd.fst.fst.snd.snd.snd
noncomputable def F29.c4 : AC := F29.ac.snd.snd.snd
noncomputable def F29.p0 (n0 : Nat) : WP := wA Try.prog n0 18 none F29.c0
noncomputable def F29.p1 (n0 : Nat) : WP := wA Try.prog n0 18 none F29.c1
noncomputable def F29.p2 (n0 : Nat) : WP := wA Try.prog n0 18 none F29.c2
noncomputable def F29.p3 (n0 : Nat) : WP := wA Try.prog n0 18 none F29.c3
noncomputable def F29.p4 (n0 : Nat) : WP := wA Try.prog n0 18 none F29.c4
noncomputable def F29.t0 (n0 : Nat) (B1 : WP) (B4 : WP) (l0 : Value) (ds : List Nat) (h : H) (K : KP) : Prop :=
  Bnd2 (aBuiltin Try.prog .len #[42] [l0] h) fun t7 h1 =>
  Lp [3, 6, 7, 8] B1 [(3, (.slice none 0 0)), (6, l0), (7, t7), (8, (.int .i64 0))] ds h1 (KBlk [3] 0 (KSeq [3] B4 K))
theorem F29.g0 {n0 : Nat} (B1 : WP) (B4 : WP) (l0 : Value) {ds : List Nat} {h : H} {K : KP} : wA Try.prog n0 18 none (.seq [0] F29.c0.fst (.seq [0, 3] F29.c0.snd.fst (.seq [3] (.seq [3, 6, 7, 8] F29.c0.snd.snd.fst.fst (.block [3] 0 (.loop [3, 6, 7, 8] (.sub B1)))) (.sub B4)))) [(0, l0)] ds h K = F29.t0 n0 B1 B4 l0 ds h K := by kernel_rfl
theorem F29.s0 {n0 : Nat} : F29.p0 n0 = wA Try.prog n0 18 none (.seq [0] F29.c0.fst (.seq [0, 3] F29.c0.snd.fst (.seq [3] (.seq [3, 6, 7, 8] F29.c0.snd.snd.fst.fst (.block [3] 0 (.loop [3, 6, 7, 8] (.sub (F29.p1 n0))))) (.sub (F29.p4 n0))))) := by kernel_rfl
theorem F29.e0 {n0 : Nat} {l0 : Value} {ds : List Nat} {h : H} {K : KP} : F29.p0 n0 [(0, l0)] ds h K = F29.t0 n0 (F29.p1 n0) (F29.p4 n0) l0 ds h K :=
  wchain (F29.s0) (F29.g0 (F29.p1 n0) (F29.p4 n0) l0)
theorem F29.k0 : F29.c0.ok = true := by kernel_rfl
theorem F29.d0 {n0 : Nat} : F29.p0 n0 = wA Try.prog n0 18 none F29.c0 := by kernel_rfl
theorem F29.m0 (n0 : Nat) : MonoW (F29.p0 n0) := @mono_c Try.prog n0 18 none F29.c0 (F29.p0 n0) (F29.d0) F29.k0
noncomputable def F29.t1 (n0 : Nat) (B2 : WP) (out3 t6 t7 t8 : Value) (ds : List Nat) (h : H) (K : KP) : Prop :=
  Bnd (aBin Try.prog false .lss 3 t8 t7) fun t9 =>
  Cnd t9
   (B2 [(3, out3), (6, t6), (7, t7), (8, t8)] ds h K)
   (K (.exit 0) [(3, out3), (6, t6), (7, t7), (8, t8)] ds h)
theorem F29.g1 {n0 : Nat} (B2 : WP) (out3 t6 t7 t8 : Value) {ds : List Nat} {h : H} {K : KP} : wA Try.prog n0 18 none (.seq [3, 6, 7, 8, 9] F29.c1.fst (.seq [3, 6, 7, 8] F29.c1.snd.fst (.sub B2))) [(3, out3), (6, t6), (7, t7), (8, t8)] ds h K = F29.t1 n0 B2 out3 t6 t7 t8 ds h K := by kernel_rfl
theorem F29.s1 {n0 : Nat} : F29.p1 n0 = wA Try.prog n0 18 none (.seq [3, 6, 7, 8, 9] F29.c1.fst (.seq [3, 6, 7, 8] F29.c1.snd.fst (.sub (F29.p2 n0)))) := by kernel_rfl
theorem F29.e1 {n0 : Nat} {out3 t6 t7 t8 : Value} {ds : List Nat} {h : H} {K : KP} : F29.p1 n0 [(3, out3), (6, t6), (7, t7), (8, t8)] ds h K = F29.t1 n0 (F29.p2 n0) out3 t6 t7 t8 ds h K :=
  wchain (F29.s1) (F29.g1 (F29.p2 n0) out3 t6 t7 t8)
theorem F29.k1 : F29.c1.ok = true := by kernel_rfl
theorem F29.d1 {n0 : Nat} : F29.p1 n0 = wA Try.prog n0 18 none F29.c1 := by kernel_rfl
theorem F29.m1 (n0 : Nat) : MonoW (F29.p1 n0) := @mono_c Try.prog n0 18 none F29.c1 (F29.p1 n0) (F29.d1) F29.k1
noncomputable def F29.t2 (n0 : Nat) (B3 : WP) (out3 t6 t7 t8 : Value) (ds : List Nat) (h : H) (K : KP) : Prop :=
  Bnd (aIndexAddr Try.prog 42 t6 t8) fun t10 =>
  Bnd (aLoad Try.prog 22 t10 h) fun t11 =>
  Cn Try.prog n0 (.func 44) [t11] h fun t14 h1 =>
  Cn Try.prog n0 (.func 51) [out3, t14] h1 fun t15 h2 =>
  B3 [(3, t15), (6, t6), (7, t7), (8, t8)] ds h2 K
theorem F29.g2 {n0 : Nat} (B3 : WP) (out3 t6 t7 t8 : Value) {ds : List Nat} {h : H} {K : KP} : wA Try.prog n0 18 none (.seq [3, 6, 7, 8] F29.c2.fst (.sub B3)) [(3, out3), (6, t6), (7, t7), (8, t8)] ds h K = F29.t2 n0 B3 out3 t6 t7 t8 ds h K := by kernel_rfl
theorem F29.s2 {n0 : Nat} : F29.p2 n0 = wA Try.prog n0 18 none (.seq [3, 6, 7, 8] F29.c2.fst (.sub (F29.p3 n0))) := by kernel_rfl
theorem F29.e2 {n0 : Nat} {out3 t6 t7 t8 : Value} {ds : List Nat} {h : H} {K : KP} : F29.p2 n0 [(3, out3), (6, t6), (7, t7), (8, t8)] ds h K = F29.t2 n0 (F29.p3 n0) out3 t6 t7 t8 ds h K :=
  wchain (F29.s2) (F29.g2 (F29.p3 n0) out3 t6 t7 t8)
noncomputable def F29.t3 (n0 : Nat) (out3 t6 t7 t8 : Value) (ds : List Nat) (h : H) (K : KP) : Prop :=
  Bnd (aBin Try.prog true .add 3 t8 (.int .i64 1)) fun t16 =>
  K .normal [(3, out3), (6, t6), (7, t7), (8, t16), (16, t16)] ds h
theorem F29.g3 {n0 : Nat} (out3 t6 t7 t8 : Value) {ds : List Nat} {h : H} {K : KP} : wA Try.prog n0 18 none F29.c3 [(3, out3), (6, t6), (7, t7), (8, t8)] ds h K = F29.t3 n0 out3 t6 t7 t8 ds h K := by kernel_rfl
theorem F29.s3 {n0 : Nat} : F29.p3 n0 = wA Try.prog n0 18 none F29.c3 := by kernel_rfl
theorem F29.e3 {n0 : Nat} {out3 t6 t7 t8 : Value} {ds : List Nat} {h : H} {K : KP} : F29.p3 n0 [(3, out3), (6, t6), (7, t7), (8, t8)] ds h K = F29.t3 n0 out3 t6 t7 t8 ds h K :=
  wchain (F29.s3) (F29.g3 out3 t6 t7 t8)
noncomputable def F29.t4 (n0 : Nat) (out3 : Value) (ds : List Nat) (h : H) (K : KP) : Prop :=
  K .ret [(2, out3)] ds h
theorem F29.g4 {n0 : Nat} (out3 : Value) {ds : List Nat} {h : H} {K : KP} : wA Try.prog n0 18 none F29.c4 [(3, out3)] ds h K = F29.t4 n0 out3 ds h K := by kernel_rfl
theorem F29.s4 {n0 : Nat} : F29.p4 n0 = wA Try.prog n0 18 none F29.c4 := by kernel_rfl
theorem F29.e4 {n0 : Nat} {out3 : Value} {ds : List Nat} {h : H} {K : KP} : F29.p4 n0 [(3, out3)] ds h K = F29.t4 n0 out3 ds h K :=
  wchain (F29.s4) (F29.g4 out3)
theorem F29.b : Try.f29.body = some F29.c0.erase := by kernel_rfl
theorem F29.b2 : (Try.f29.name == "runtime.NumGoroutine") = false := by kernel_rfl
theorem F29.b3 : Try.f29.ntmps = 18 := by kernel_rfl
theorem F29.b4 : Try.f29.results.toList = [.tmp 2] := by kernel_rfl
theorem F29.enter {n0 : Nat} {x0 : Value} {h : H} {Q : Value → H → Prop} (w : F29.p0 n0 [(0, x0)] [] h (KFin Try.prog [.tmp 2] Q)) : Cn Try.prog n0 (.func 29) [x0] h Q :=
  @fn_enter Try.prog n0 mixed 29 Try.f29 F29.c0 [x0] h Q Try.func29 F29.b F29.k0 F29.b2 18 F29.b3 [.tmp 2] F29.b4 (by simp) [(0, x0)] rfl (wback F29.d0 w)

end Go.Proofs.Ytjdcdabbbmhffaa
