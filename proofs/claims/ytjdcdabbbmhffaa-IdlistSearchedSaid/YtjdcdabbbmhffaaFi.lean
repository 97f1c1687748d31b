/- The texts of Go functions of this seat, as the evaluator comes to them: each is what wA says of the code. No condition. -/
import Derived.Test.YtjdcdabbbmhffaaEvAc3
import Derived.Test.YtjdcdabbbmhffaaSeat
set_option linter.unusedVariables false
namespace Go.Proofs.Ytjdcdabbbmhffaa
open Go.Ev

/-! roster.rosterref04.Find -/
noncomputable def F12.ac : AC := (ann (bodyOf Try.f12) [[0, 1, 2], [0, 1, 2, 7], [0, 1, 2], [0, 1, 2, 12], [0, 1, 2], [6], [0, 2, 8], [8], [8], [0, 2, 8], [0, 2, 8], [0, 2, 8, 29], [0, 2, 8], [0, 2, 8], [6]]).1
noncomputable def F12.c0 : AC := F12.ac
noncomputable def F12.c1 : AC := F12.ac.snd.snd.fst.snd.fst
noncomputable def F12.c2 : AC := F12.ac.snd.snd.snd
noncomputable def F12.c3 : AC := F12.ac.snd.snd.snd.snd.fst.fst.fst
noncomputable def F12.c4 : AC := F12.ac.snd.snd.snd.snd.fst.fst.fst.snd
noncomputable def F12.c5 : AC := F12.ac.snd.snd.snd.snd.snd
noncomputable def F12.p0 (n0 : Nat) : WP := wA Try.prog n0 33 none F12.c0
noncomputable def F12.p1 (n0 : Nat) : WP := wA Try.prog n0 33 none F12.c1
noncomputable def F12.p2 (n0 : Nat) : WP := wA Try.prog n0 33 none F12.c2
noncomputable def F12.p3 (n0 : Nat) : WP := wA Try.prog n0 33 none F12.c3
noncomputable def F12.p4 (n0 : Nat) : WP := wA Try.prog n0 33 none F12.c4
noncomputable def F12.p5 (n0 : Nat) : WP := wA Try.prog n0 33 none F12.c5
noncomputable def F12.t0 (n0 : Nat) (B1 : WP) (B2 : WP) (l0 from1 id2 : Value) (ds : List Nat) (h : H) (K : KP) : Prop :=
  Cn Try.prog n0 (.func 37) [l0] h fun t10 h1 =>
  Bnd (aUn .not t10) fun t12 =>
  Cnd t12
   (B1 [(0, l0), (1, from1), (2, id2)] ds h1 (KSeq [0, 1, 2] B2 K))
   (B2 [(0, l0), (1, from1), (2, id2)] ds h1 K)
theorem F12.g0 {n0 : Nat} (B1 : WP) (B2 : WP) (l0 from1 id2 : Value) {ds : List Nat} {h : H} {K : KP} : wA Try.prog n0 33 none (.seq [0, 1, 2] F12.c0.fst (.seq [0, 1, 2, 7] F12.c0.snd.fst (.seq [0, 1, 2] (.seq [0, 1, 2, 12] F12.c0.snd.snd.fst.fst (.cond [0, 1, 2] (.tmp 12) (.sub B1) F12.c0.snd.snd.fst.snd.snd)) (.sub B2)))) [(0, l0), (1, from1), (2, id2)] ds h K = F12.t0 n0 B1 B2 l0 from1 id2 ds h K := by kernel_rfl
theorem F12.s0 {n0 : Nat} : F12.p0 n0 = wA Try.prog n0 33 none (.seq [0, 1, 2] F12.c0.fst (.seq [0, 1, 2, 7] F12.c0.snd.fst (.seq [0, 1, 2] (.seq [0, 1, 2, 12] F12.c0.snd.snd.fst.fst (.cond [0, 1, 2] (.tmp 12) (.sub (F12.p1 n0)) F12.c0.snd.snd.fst.snd.snd)) (.sub (F12.p2 n0))))) := by kernel_rfl
theorem F12.e0 {n0 : Nat} {l0 from1 id2 : Value} {ds : List Nat} {h : H} {K : KP} : F12.p0 n0 [(0, l0), (1, from1), (2, id2)] ds h K = F12.t0 n0 (F12.p1 n0) (F12.p2 n0) l0 from1 id2 ds h K :=
  wchain (F12.s0) (F12.g0 (F12.p1 n0) (F12.p2 n0) l0 from1 id2)
theorem F12.k0 : F12.c0.ok = true := by kernel_rfl
theorem F12.d0 {n0 : Nat} : F12.p0 n0 = wA Try.prog n0 33 none F12.c0 := by kernel_rfl
theorem F12.m0 (n0 : Nat) : MonoW (F12.p0 n0) := @mono_c Try.prog n0 33 none F12.c0 (F12.p0 n0) (F12.d0) F12.k0
noncomputable def F12.t1 (n0 : Nat) (l0 from1 id2 : Value) (ds : List Nat) (h : H) (K : KP) : Prop :=
  K .ret [(6, (.int .i64 (-1)))] ds h
theorem F12.g1 {n0 : Nat} (l0 from1 id2 : Value) {ds : List Nat} {h : H} {K : KP} : wA Try.prog n0 33 none F12.c1 [(0, l0), (1, from1), (2, id2)] ds h K = F12.t1 n0 l0 from1 id2 ds h K := by kernel_rfl
theorem F12.s1 {n0 : Nat} : F12.p1 n0 = wA Try.prog n0 33 none F12.c1 := by kernel_rfl
theorem F12.e1 {n0 : Nat} {l0 from1 id2 : Value} {ds : List Nat} {h : H} {K : KP} : F12.p1 n0 [(0, l0), (1, from1), (2, id2)] ds h K = F12.t1 n0 l0 from1 id2 ds h K :=
  wchain (F12.s1) (F12.g1 l0 from1 id2)
noncomputable def F12.t2 (n0 : Nat) (B3 : WP) (B5 : WP) (l0 from1 id2 : Value) (ds : List Nat) (h : H) (K : KP) : Prop :=
  Bnd2 (aBuiltin Try.prog .max #[3, 3] [from1, (.int .i64 0)] h) fun t14 h1 =>
  Bnd2 (aBuiltin Try.prog .len #[22] [l0] h1) fun t16 h2 =>
  Bnd2 (aBuiltin Try.prog .min #[3, 3] [t14, t16] h2) fun t17 h3 =>
  Lp [0, 2, 8] B3 [(0, l0), (2, id2), (8, t17)] ds h3 (KBlk [8] 0 (KSeq [8] B5 K))
theorem F12.g2 {n0 : Nat} (B3 : WP) (B5 : WP) (l0 from1 id2 : Value) {ds : List Nat} {h : H} {K : KP} : wA Try.prog n0 33 none (.seq [0, 2, 8] F12.c2.fst (.seq [8] (.block [8] 0 (.loop [0, 2, 8] (.sub B3))) (.sub B5))) [(0, l0), (1, from1), (2, id2)] ds h K = F12.t2 n0 B3 B5 l0 from1 id2 ds h K := by kernel_rfl
theorem F12.s2 {n0 : Nat} : F12.p2 n0 = wA Try.prog n0 33 none (.seq [0, 2, 8] F12.c2.fst (.seq [8] (.block [8] 0 (.loop [0, 2, 8] (.sub (F12.p3 n0)))) (.sub (F12.p5 n0)))) := by kernel_rfl
theorem F12.e2 {n0 : Nat} {l0 from1 id2 : Value} {ds : List Nat} {h : H} {K : KP} : F12.p2 n0 [(0, l0), (1, from1), (2, id2)] ds h K = F12.t2 n0 (F12.p3 n0) (F12.p5 n0) l0 from1 id2 ds h K :=
  wchain (F12.s2) (F12.g2 (F12.p3 n0) (F12.p5 n0) l0 from1 id2)
noncomputable def F12.t3 (n0 : Nat) (B4 : WP) (l0 id2 i8 : Value) (ds : List Nat) (h : H) (K : KP) : Prop :=
  Bnd2 (aBuiltin Try.prog .len #[22] [l0] h) fun t20 h1 =>
  Bnd (aBin Try.prog false .lss 3 i8 t20) fun t21 =>
  Gd t21
   (Bnd (aIndexAddr Try.prog 22 l0 i8) fun t25 =>
  Bnd (aLoad Try.prog 23 t25 h1) fun t26 =>
  Bnd (aBin Try.prog false .lss 23 t26 id2) fun t28 =>
  Cnd t28
   (B4 [(0, l0), (2, id2), (8, i8)] ds h1 K)
   (K (.exit 0) [(0, l0), (2, id2), (8, i8)] ds h1))
   (K (.exit 0) [(0, l0), (2, id2), (8, i8)] ds h1)
theorem F12.g3 {n0 : Nat} (B4 : WP) (l0 id2 i8 : Value) {ds : List Nat} {h : H} {K : KP} : wA Try.prog n0 33 none (.seq [0, 2, 8] F12.c3.fst (.sub B4)) [(0, l0), (2, id2), (8, i8)] ds h K = F12.t3 n0 B4 l0 id2 i8 ds h K := by kernel_rfl
theorem F12.s3 {n0 : Nat} : F12.p3 n0 = wA Try.prog n0 33 none (.seq [0, 2, 8] F12.c3.fst (.sub (F12.p4 n0))) := by kernel_rfl
theorem F12.e3 {n0 : Nat} {l0 id2 i8 : Value} {ds : List Nat} {h : H} {K : KP} : F12.p3 n0 [(0, l0), (2, id2), (8, i8)] ds h K = F12.t3 n0 (F12.p4 n0) l0 id2 i8 ds h K :=
  wchain (F12.s3) (F12.g3 (F12.p4 n0) l0 id2 i8)
theorem F12.k3 : F12.c3.ok = true := by kernel_rfl
theorem F12.d3 {n0 : Nat} : F12.p3 n0 = wA Try.prog n0 33 none F12.c3 := by kernel_rfl
theorem F12.m3 (n0 : Nat) : MonoW (F12.p3 n0) := @mono_c Try.prog n0 33 none F12.c3 (F12.p3 n0) (F12.d3) F12.k3
noncomputable def F12.t4 (n0 : Nat) (l0 id2 i8 : Value) (ds : List Nat) (h : H) (K : KP) : Prop :=
  Bnd (aBin Try.prog true .add 3 i8 (.int .i64 1)) fun t31 =>
  K .normal [(0, l0), (2, id2), (8, t31)] ds h
theorem F12.g4 {n0 : Nat} (l0 id2 i8 : Value) {ds : List Nat} {h : H} {K : KP} : wA Try.prog n0 33 none F12.c4 [(0, l0), (2, id2), (8, i8)] ds h K = F12.t4 n0 l0 id2 i8 ds h K := by kernel_rfl
theorem F12.s4 {n0 : Nat} : F12.p4 n0 = wA Try.prog n0 33 none F12.c4 := by kernel_rfl
theorem F12.e4 {n0 : Nat} {l0 id2 i8 : Value} {ds : List Nat} {h : H} {K : KP} : F12.p4 n0 [(0, l0), (2, id2), (8, i8)] ds h K = F12.t4 n0 l0 id2 i8 ds h K :=
  wchain (F12.s4) (F12.g4 l0 id2 i8)
noncomputable def F12.t5 (n0 : Nat) (i8 : Value) (ds : List Nat) (h : H) (K : KP) : Prop :=
  K .ret [(6, i8)] ds h
theorem F12.g5 {n0 : Nat} (i8 : Value) {ds : List Nat} {h : H} {K : KP} : wA Try.prog n0 33 none F12.c5 [(8, i8)] ds h K = F12.t5 n0 i8 ds h K := by kernel_rfl
theorem F12.s5 {n0 : Nat} : F12.p5 n0 = wA Try.prog n0 33 none F12.c5 := by kernel_rfl
theorem F12.e5 {n0 : Nat} {i8 : Value} {ds : List Nat} {h : H} {K : KP} : F12.p5 n0 [(8, i8)] ds h K = F12.t5 n0 i8 ds h K :=
  wchain (F12.s5) (F12.g5 i8)
theorem F12.b : Try.f12.body = some F12.c0.erase := by kernel_rfl
theorem F12.b2 : (Try.f12.name == "runtime.NumGoroutine") = false := by kernel_rfl
theorem F12.b3 : Try.f12.ntmps = 33 := by kernel_rfl
theorem F12.b4 : Try.f12.results.toList = [.tmp 6] := by kernel_rfl
theorem F12.enter {n0 : Nat} {x0 x1 x2 : Value} {h : H} {Q : Value → H → Prop} (w : F12.p0 n0 [(0, x0), (1, x1), (2, x2)] [] h (KFin Try.prog [.tmp 6] Q)) : Cn Try.prog n0 (.func 12) [x0, x1, x2] h Q :=
  @fn_enter Try.prog n0 mixed 12 Try.f12 F12.c0 [x0, x1, x2] h Q Try.func12 F12.b F12.k0 F12.b2 33 F12.b3 [.tmp 6] F12.b4 (by simp) [(0, x0), (1, x1), (2, x2)] rfl (wback F12.d0 w)

/-! roster.rosterlaw04.roomy -/
noncomputable def F13.ac : AC := (ann (bodyOf Try.f13) [[0], [0, 3], [0, 3], [0, 3], [0, 3, 4], [0, 3], [0, 3, 4], [0, 3, 4], [0, 3, 4, 17], [0, 3, 4], [0, 3, 4], [0, 3, 4], [2]]).1
noncomputable def F13.c0 : AC := F13.ac
noncomputable def F13.c1 : AC := F13.ac.snd.snd.snd.fst.snd.fst.fst
noncomputable def F13.c2 : AC := F13.ac.snd.snd.snd.fst.snd.fst.fst.snd
noncomputable def F13.c3 : AC := F13.ac.snd.snd.snd.fst.snd.fst.fst.snd.snd
noncomputable def F13.c4 : AC := F13.ac.snd.snd.snd.snd
noncomputable def F13.p0 (n0 : Nat) : WP := wA Try.prog n0 27 none F13.c0
noncomputable def F13.p1 (n0 : Nat) : WP := wA Try.prog n0 27 none F13.c1
noncomputable def F13.p2 (n0 : Nat) : WP := wA Try.prog n0 27 none F13.c2
noncomputable def F13.p3 (n0 : Nat) : WP := wA Try.prog n0 27 none F13.c3
noncomputable def F13.p4 (n0 : Nat) : WP := wA Try.prog n0 27 none F13.c4
noncomputable def F13.t0 (n0 : Nat) (B1 : WP) (B4 : WP) (l0 : Value) (ds : List Nat) (h : H) (K : KP) : Prop :=
  Bnd2 (aBuiltin Try.prog .len #[22] [l0] h) fun t6 h1 =>
  Bnd (aBin Try.prog true .add 3 t6 (.int .i64 9)) fun t7 =>
  Bnd2 (aMakeSlice Try.prog 22 t7 t7 h1) fun t8 h2 =>
  Bnd2 (aBuiltin Try.prog .copy #[22, 22] [t8, l0] h2) fun t11 h3 =>
  Bnd2 (aBuiltin Try.prog .len #[22] [l0] h3) fun t13 h4 =>
  Lp [0, 3, 4] B1 [(0, l0), (3, t8), (4, t13)] ds h4 (KBlk [0, 3] 0 (KSeq [0, 3] B4 K))
theorem F13.g0 {n0 : Nat} (B1 : WP) (B4 : WP) (l0 : Value) {ds : List Nat} {h : H} {K : KP} : wA Try.prog n0 27 none (.seq [0] F13.c0.fst (.seq [0, 3] F13.c0.snd.fst (.seq [0, 3] F13.c0.snd.snd.fst (.seq [0, 3] (.seq [0, 3, 4] F13.c0.snd.snd.snd.fst.fst (.block [0, 3] 0 (.loop [0, 3, 4] (.sub B1)))) (.sub B4))))) [(0, l0)] ds h K = F13.t0 n0 B1 B4 l0 ds h K := by kernel_rfl
theorem F13.s0 {n0 : Nat} : F13.p0 n0 = wA Try.prog n0 27 none (.seq [0] F13.c0.fst (.seq [0, 3] F13.c0.snd.fst (.seq [0, 3] F13.c0.snd.snd.fst (.seq [0, 3] (.seq [0, 3, 4] F13.c0.snd.snd.snd.fst.fst (.block [0, 3] 0 (.loop [0, 3, 4] (.sub (F13.p1 n0))))) (.sub (F13.p4 n0)))))) := by kernel_rfl
theorem F13.e0 {n0 : Nat} {l0 : Value} {ds : List Nat} {h : H} {K : KP} : F13.p0 n0 [(0, l0)] ds h K = F13.t0 n0 (F13.p1 n0) (F13.p4 n0) l0 ds h K :=
  wchain (F13.s0) (F13.g0 (F13.p1 n0) (F13.p4 n0) l0)
theorem F13.k0 : F13.c0.ok = true := by kernel_rfl
theorem F13.d0 {n0 : Nat} : F13.p0 n0 = wA Try.prog n0 27 none F13.c0 := by kernel_rfl
theorem F13.m0 (n0 : Nat) : MonoW (F13.p0 n0) := @mono_c Try.prog n0 27 none F13.c0 (F13.p0 n0) (F13.d0) F13.k0
noncomputable def F13.t1 (n0 : Nat) (B2 : WP) (l0 x3 i4 : Value) (ds : List Nat) (h : H) (K : KP) : Prop :=
  Bnd2 (aBuiltin Try.prog .len #[22] [x3] h) fun t16 h1 =>
  Bnd (aBin Try.prog false .lss 3 i4 t16) fun t17 =>
  Cnd t17
   (B2 [(0, l0), (3, x3), (4, i4)] ds h1 K)
   (K (.exit 0) [(0, l0), (3, x3), (4, i4)] ds h1)
theorem F13.g1 {n0 : Nat} (B2 : WP) (l0 x3 i4 : Value) {ds : List Nat} {h : H} {K : KP} : wA Try.prog n0 27 none (.seq [0, 3, 4] F13.c1.fst (.sub B2)) [(0, l0), (3, x3), (4, i4)] ds h K = F13.t1 n0 B2 l0 x3 i4 ds h K := by kernel_rfl
theorem F13.s1 {n0 : Nat} : F13.p1 n0 = wA Try.prog n0 27 none (.seq [0, 3, 4] F13.c1.fst (.sub (F13.p2 n0))) := by kernel_rfl
theorem F13.e1 {n0 : Nat} {l0 x3 i4 : Value} {ds : List Nat} {h : H} {K : KP} : F13.p1 n0 [(0, l0), (3, x3), (4, i4)] ds h K = F13.t1 n0 (F13.p2 n0) l0 x3 i4 ds h K :=
  wchain (F13.s1) (F13.g1 (F13.p2 n0) l0 x3 i4)
theorem F13.k1 : F13.c1.ok = true := by kernel_rfl
theorem F13.d1 {n0 : Nat} : F13.p1 n0 = wA Try.prog n0 27 none F13.c1 := by kernel_rfl
theorem F13.m1 (n0 : Nat) : MonoW (F13.p1 n0) := @mono_c Try.prog n0 27 none F13.c1 (F13.p1 n0) (F13.d1) F13.k1
noncomputable def F13.t2 (n0 : Nat) (B3 : WP) (l0 x3 i4 : Value) (ds : List Nat) (h : H) (K : KP) : Prop :=
  Bnd (aIndexAddr Try.prog 22 x3 i4) fun t22 =>
  Bnd (aStore Try.prog 23 t22 (.int .u64 42405) h) fun h1 =>
  B3 [(0, l0), (3, x3), (4, i4)] ds h1 K
theorem F13.g2 {n0 : Nat} (B3 : WP) (l0 x3 i4 : Value) {ds : List Nat} {h : H} {K : KP} : wA Try.prog n0 27 none (.seq [0, 3, 4] F13.c2.fst (.sub B3)) [(0, l0), (3, x3), (4, i4)] ds h K = F13.t2 n0 B3 l0 x3 i4 ds h K := by kernel_rfl
theorem F13.s2 {n0 : Nat} : F13.p2 n0 = wA Try.prog n0 27 none (.seq [0, 3, 4] F13.c2.fst (.sub (F13.p3 n0))) := by kernel_rfl
theorem F13.e2 {n0 : Nat} {l0 x3 i4 : Value} {ds : List Nat} {h : H} {K : KP} : F13.p2 n0 [(0, l0), (3, x3), (4, i4)] ds h K = F13.t2 n0 (F13.p3 n0) l0 x3 i4 ds h K :=
  wchain (F13.s2) (F13.g2 (F13.p3 n0) l0 x3 i4)
noncomputable def F13.t3 (n0 : Nat) (l0 x3 i4 : Value) (ds : List Nat) (h : H) (K : KP) : Prop :=
  Bnd (aBin Try.prog true .add 3 i4 (.int .i64 1)) fun t19 =>
  K .normal [(0, l0), (3, x3), (4, t19), (18, i4), (19, t19)] ds h
theorem F13.g3 {n0 : Nat} (l0 x3 i4 : Value) {ds : List Nat} {h : H} {K : KP} : wA Try.prog n0 27 none F13.c3 [(0, l0), (3, x3), (4, i4)] ds h K = F13.t3 n0 l0 x3 i4 ds h K := by kernel_rfl
theorem F13.s3 {n0 : Nat} : F13.p3 n0 = wA Try.prog n0 27 none F13.c3 := by kernel_rfl
theorem F13.e3 {n0 : Nat} {l0 x3 i4 : Value} {ds : List Nat} {h : H} {K : KP} : F13.p3 n0 [(0, l0), (3, x3), (4, i4)] ds h K = F13.t3 n0 l0 x3 i4 ds h K :=
  wchain (F13.s3) (F13.g3 l0 x3 i4)
noncomputable def F13.t4 (n0 : Nat) (l0 x3 : Value) (ds : List Nat) (h : H) (K : KP) : Prop :=
  Bnd2 (aBuiltin Try.prog .len #[22] [l0] h) fun t25 h1 =>
  Bnd (aSlice Try.prog 22 x3 none (some t25) none h1) fun t26 =>
  K .ret [(2, t26)] ds h1
theorem F13.g4 {n0 : Nat} (l0 x3 : Value) {ds : List Nat} {h : H} {K : KP} : wA Try.prog n0 27 none F13.c4 [(0, l0), (3, x3)] ds h K = F13.t4 n0 l0 x3 ds h K := by kernel_rfl
theorem F13.s4 {n0 : Nat} : F13.p4 n0 = wA Try.prog n0 27 none F13.c4 := by kernel_rfl
theorem F13.e4 {n0 : Nat} {l0 x3 : Value} {ds : List Nat} {h : H} {K : KP} : F13.p4 n0 [(0, l0), (3, x3)] ds h K = F13.t4 n0 l0 x3 ds h K :=
  wchain (F13.s4) (F13.g4 l0 x3)
theorem F13.b : Try.f13.body = some F13.c0.erase := by kernel_rfl
theorem F13.b2 : (Try.f13.name == "runtime.NumGoroutine") = false := by kernel_rfl
theorem F13.b3 : Try.f13.ntmps = 27 := by kernel_rfl
theorem F13.b4 : Try.f13.results.toList = [.tmp 2] := by kernel_rfl
theorem F13.enter {n0 : Nat} {x0 : Value} {h : H} {Q : Value → H → Prop} (w : F13.p0 n0 [(0, x0)] [] h (KFin Try.prog [.tmp 2] Q)) : Cn Try.prog n0 (.func 13) [x0] h Q :=
  @fn_enter Try.prog n0 mixed 13 Try.f13 F13.c0 [x0] h Q Try.func13 F13.b F13.k0 F13.b2 27 F13.b3 [.tmp 2] F13.b4 (by simp) [(0, x0)] rfl (wback F13.d0 w)

/-! roster.idlist.Find -/
noncomputable def F14.ac : AC := (ann (bodyOf Try.f14) [[0, 1, 2], [0, 1, 2], [0, 1, 2, 9], [0, 1, 2], [6], [6]]).1
noncomputable def F14.c0 : AC := F14.ac
noncomputable def F14.c1 : AC := F14.ac.snd.fst.snd.fst
noncomputable def F14.c2 : AC := F14.ac.snd.snd
noncomputable def F14.p0 (n0 : Nat) : WP := wA Try.prog n0 18 none F14.c0
noncomputable def F14.p1 (n0 : Nat) : WP := wA Try.prog n0 18 none F14.c1
noncomputable def F14.p2 (n0 : Nat) : WP := wA Try.prog n0 18 none F14.c2
noncomputable def F14.t0 (n0 : Nat) (B1 : WP) (B2 : WP) (l0 from1 id2 : Value) (ds : List Nat) (h : H) (K : KP) : Prop :=
  Cn Try.prog n0 (.func 31) [l0] h fun t8 h1 =>
  Bnd (aUn .not t8) fun t9 =>
  Cnd t9
   (B1 [(0, l0), (1, from1), (2, id2)] ds h1 (KSeq [0, 1, 2] B2 K))
   (B2 [(0, l0), (1, from1), (2, id2)] ds h1 K)
theorem F14.g0 {n0 : Nat} (B1 : WP) (B2 : WP) (l0 from1 id2 : Value) {ds : List Nat} {h : H} {K : KP} : wA Try.prog n0 18 none (.seq [0, 1, 2] F14.c0.fst (.seq [0, 1, 2] (.seq [0, 1, 2, 9] F14.c0.snd.fst.fst (.cond [0, 1, 2] (.tmp 9) (.sub B1) F14.c0.snd.fst.snd.snd)) (.sub B2))) [(0, l0), (1, from1), (2, id2)] ds h K = F14.t0 n0 B1 B2 l0 from1 id2 ds h K := by kernel_rfl
theorem F14.s0 {n0 : Nat} : F14.p0 n0 = wA Try.prog n0 18 none (.seq [0, 1, 2] F14.c0.fst (.seq [0, 1, 2] (.seq [0, 1, 2, 9] F14.c0.snd.fst.fst (.cond [0, 1, 2] (.tmp 9) (.sub (F14.p1 n0)) F14.c0.snd.fst.snd.snd)) (.sub (F14.p2 n0)))) := by kernel_rfl
theorem F14.e0 {n0 : Nat} {l0 from1 id2 : Value} {ds : List Nat} {h : H} {K : KP} : F14.p0 n0 [(0, l0), (1, from1), (2, id2)] ds h K = F14.t0 n0 (F14.p1 n0) (F14.p2 n0) l0 from1 id2 ds h K :=
  wchain (F14.s0) (F14.g0 (F14.p1 n0) (F14.p2 n0) l0 from1 id2)
theorem F14.k0 : F14.c0.ok = true := by kernel_rfl
theorem F14.d0 {n0 : Nat} : F14.p0 n0 = wA Try.prog n0 18 none F14.c0 := by kernel_rfl
theorem F14.m0 (n0 : Nat) : MonoW (F14.p0 n0) := @mono_c Try.prog n0 18 none F14.c0 (F14.p0 n0) (F14.d0) F14.k0
noncomputable def F14.t1 (n0 : Nat) (l0 from1 id2 : Value) (ds : List Nat) (h : H) (K : KP) : Prop :=
  K .ret [(6, (.int .i64 (-1)))] ds h
theorem F14.g1 {n0 : Nat} (l0 from1 id2 : Value) {ds : List Nat} {h : H} {K : KP} : wA Try.prog n0 18 none F14.c1 [(0, l0), (1, from1), (2, id2)] ds h K = F14.t1 n0 l0 from1 id2 ds h K := by kernel_rfl
theorem F14.s1 {n0 : Nat} : F14.p1 n0 = wA Try.prog n0 18 none F14.c1 := by kernel_rfl
theorem F14.e1 {n0 : Nat} {l0 from1 id2 : Value} {ds : List Nat} {h : H} {K : KP} : F14.p1 n0 [(0, l0), (1, from1), (2, id2)] ds h K = F14.t1 n0 l0 from1 id2 ds h K :=
  wchain (F14.s1) (F14.g1 l0 from1 id2)
noncomputable def F14.t2 (n0 : Nat) (l0 from1 id2 : Value) (ds : List Nat) (h : H) (K : KP) : Prop :=
  Bnd2 (aBuiltin Try.prog .max #[3, 3] [from1, (.int .i64 0)] h) fun t12 h1 =>
  Bnd2 (aBuiltin Try.prog .len #[22] [l0] h1) fun t14 h2 =>
  Bnd2 (aBuiltin Try.prog .min #[3, 3] [t12, t14] h2) fun t15 h3 =>
  Cn Try.prog n0 (.func 42) [l0, t15, id2] h3 fun t17 h4 =>
  K .ret [(6, t17)] ds h4
theorem F14.g2 {n0 : Nat} (l0 from1 id2 : Value) {ds : List Nat} {h : H} {K : KP} : wA Try.prog n0 18 none F14.c2 [(0, l0), (1, from1), (2, id2)] ds h K = F14.t2 n0 l0 from1 id2 ds h K := by kernel_rfl
theorem F14.s2 {n0 : Nat} : F14.p2 n0 = wA Try.prog n0 18 none F14.c2 := by kernel_rfl
theorem F14.e2 {n0 : Nat} {l0 from1 id2 : Value} {ds : List Nat} {h : H} {K : KP} : F14.p2 n0 [(0, l0), (1, from1), (2, id2)] ds h K = F14.t2 n0 l0 from1 id2 ds h K :=
  wchain (F14.s2) (F14.g2 l0 from1 id2)
theorem F14.b : Try.f14.body = some F14.c0.erase := by kernel_rfl
theorem F14.b2 : (Try.f14.name == "runtime.NumGoroutine") = false := by kernel_rfl
theorem F14.b3 : Try.f14.ntmps = 18 := by kernel_rfl
theorem F14.b4 : Try.f14.results.toList = [.tmp 6] := by kernel_rfl
theorem F14.enter {n0 : Nat} {x0 x1 x2 : Value} {h : H} {Q : Value → H → Prop} (w : F14.p0 n0 [(0, x0), (1, x1), (2, x2)] [] h (KFin Try.prog [.tmp 6] Q)) : Cn Try.prog n0 (.func 14) [x0, x1, x2] h Q :=
  @fn_enter Try.prog n0 mixed 14 Try.f14 F14.c0 [x0, x1, x2] h Q Try.func14 F14.b F14.k0 F14.b2 18 F14.b3 [.tmp 6] F14.b4 (by simp) [(0, x0), (1, x1), (2, x2)] rfl (wback F14.d0 w)

/-! roster.idlist.Has -/
noncomputable def F15.ac : AC := (ann (bodyOf Try.f15) [[0, 3, 4], [4], [3, 4, 8], [4], [3, 4, 8], [4]]).1
noncomputable def F15.rAs0 : Code := F15.ac.snd.fst.snd.fst.rfAs
noncomputable def F15.rBd0 : Code := F15.ac.snd.fst.snd.fst.rfBd
noncomputable def F15.aAs0 : AC := (ann F15.rAs0 []).1
noncomputable def F15.aBd0 : AC := (ann F15.rBd0 [[3, 4], [4]]).1
noncomputable def F15.c0 : AC := F15.ac
noncomputable def F15.c1 : AC := F15.ac.snd.snd
noncomputable def F15.p0 (n0 : Nat) : WP := wA Try.prog n0 13 none F15.c0
noncomputable def F15.p1 (n0 : Nat) : WP := wA Try.prog n0 13 none F15.c1
noncomputable def F15.t0 (n0 : Nat) (B1 : WP) (l0 id1 : Value) (ds : List Nat) (h : H) (K : KP) : Prop :=
  Nw (enc 0 23) (clL id1) h fun id3 h1 =>
  Nw (enc 0 4) (zc Try.prog 4) h1 fun t4 h2 =>
  Bnd (aLoad Try.prog 23 id3 h2) fun t7 =>
  Cn Try.prog n0 (.func 19) [l0, t7] h2 fun t8 h3 =>
  wRange Try.prog n0 none 13 t8 #[9] F15.rAs0 F15.rBd0 [(3, id3), (4, t4), (8, t8)] ds h3 (KBlk [4] 0 (KSeq [4] B1 K))
theorem F15.g0 {n0 : Nat} (B1 : WP) (l0 id1 : Value) {ds : List Nat} {h : H} {K : KP} : wA Try.prog n0 13 none (.seq [0, 3, 4] F15.c0.fst (.seq [4] F15.c0.snd.fst (.sub B1))) [(0, l0), (1, id1)] ds h K = F15.t0 n0 B1 l0 id1 ds h K := by kernel_rfl
theorem F15.s0 {n0 : Nat} : F15.p0 n0 = wA Try.prog n0 13 none (.seq [0, 3, 4] F15.c0.fst (.seq [4] F15.c0.snd.fst (.sub (F15.p1 n0)))) := by kernel_rfl
theorem F15.e0 {n0 : Nat} {l0 id1 : Value} {ds : List Nat} {h : H} {K : KP} : F15.p0 n0 [(0, l0), (1, id1)] ds h K = F15.t0 n0 (F15.p1 n0) l0 id1 ds h K :=
  wchain (F15.s0) (F15.g0 (F15.p1 n0) l0 id1)
theorem F15.k0 : F15.c0.ok = true := by kernel_rfl
theorem F15.d0 {n0 : Nat} : F15.p0 n0 = wA Try.prog n0 13 none F15.c0 := by kernel_rfl
theorem F15.m0 (n0 : Nat) : MonoW (F15.p0 n0) := @mono_c Try.prog n0 13 none F15.c0 (F15.p0 n0) (F15.d0) F15.k0
noncomputable def F15.t1 (n0 : Nat) (t4 : Value) (ds : List Nat) (h : H) (K : KP) : Prop :=
  Bnd (aStore Try.prog 4 t4 (.bool false) h) fun h1 =>
  K .ret [(4, t4)] ds h1
theorem F15.g1 {n0 : Nat} (t4 : Value) {ds : List Nat} {h : H} {K : KP} : wA Try.prog n0 13 none F15.c1 [(4, t4)] ds h K = F15.t1 n0 t4 ds h K := by kernel_rfl
theorem F15.s1 {n0 : Nat} : F15.p1 n0 = wA Try.prog n0 13 none F15.c1 := by kernel_rfl
theorem F15.e1 {n0 : Nat} {t4 : Value} {ds : List Nat} {h : H} {K : KP} : F15.p1 n0 [(4, t4)] ds h K = F15.t1 n0 t4 ds h K :=
  wchain (F15.s1) (F15.g1 t4)
noncomputable def F15.c2 : AC := F15.aAs0
noncomputable def F15.p2 (n0 : Nat) (l : Nat) : WP := wA Try.prog n0 13 (some l) F15.c2
noncomputable def F15.t2 (n0 : Nat) (l : Nat) (id3 t4 t8 t9 : Value) (ds : List Nat) (h : H) (K : KP) : Prop :=
  K .normal [(3, id3), (4, t4), (8, t8), (9, t9), (5, t9)] ds h
theorem F15.g2 {n0 : Nat} {l : Nat} (id3 t4 t8 t9 : Value) {ds : List Nat} {h : H} {K : KP} : wA Try.prog n0 13 (some l) F15.c2 [(3, id3), (4, t4), (8, t8), (9, t9)] ds h K = F15.t2 n0 l id3 t4 t8 t9 ds h K := by kernel_rfl
theorem F15.s2 {n0 : Nat} (l : Nat) : F15.p2 n0 l = wA Try.prog n0 13 (some l) F15.c2 := by kernel_rfl
theorem F15.e2 {n0 : Nat} {l : Nat} {id3 t4 t8 t9 : Value} {ds : List Nat} {h : H} {K : KP} : F15.p2 n0 l [(3, id3), (4, t4), (8, t8), (9, t9)] ds h K = F15.t2 n0 l id3 t4 t8 t9 ds h K :=
  wchain (F15.s2 l) (F15.g2 id3 t4 t8 t9)
theorem F15.k2 : F15.c2.ok = true := by kernel_rfl
theorem F15.d2 {n0 : Nat} (l : Nat) : F15.p2 n0 l = wA Try.prog n0 13 (some l) F15.c2 := by kernel_rfl
theorem F15.m2 (n0 : Nat) (l : Nat) : MonoW (F15.p2 n0 l) := @mono_c Try.prog n0 13 (some l) F15.c2 (F15.p2 n0 l) (F15.d2 l) F15.k2
noncomputable def F15.c3 : AC := F15.aBd0
noncomputable def F15.p3 (n0 : Nat) (l : Nat) : WP := wA Try.prog n0 13 (some l) F15.c3
noncomputable def F15.t3 (n0 : Nat) (l : Nat) (id3 t4 x5 : Value) (ds : List Nat) (h : H) (K : KP) : Prop :=
  Bnd (aLoad Try.prog 23 id3 h) fun t11 =>
  Bnd (aBin Try.prog false .eql 23 x5 t11) fun t12 =>
  Bnd (aStore Try.prog 4 t4 t12 h) fun h1 =>
  K .ret [(4, t4)] ds h1
theorem F15.g3 {n0 : Nat} {l : Nat} (id3 t4 x5 : Value) {ds : List Nat} {h : H} {K : KP} : wA Try.prog n0 13 (some l) F15.c3 [(3, id3), (4, t4), (5, x5)] ds h K = F15.t3 n0 l id3 t4 x5 ds h K := by kernel_rfl
theorem F15.s3 {n0 : Nat} (l : Nat) : F15.p3 n0 l = wA Try.prog n0 13 (some l) F15.c3 := by kernel_rfl
theorem F15.e3 {n0 : Nat} {l : Nat} {id3 t4 x5 : Value} {ds : List Nat} {h : H} {K : KP} : F15.p3 n0 l [(3, id3), (4, t4), (5, x5)] ds h K = F15.t3 n0 l id3 t4 x5 ds h K :=
  wchain (F15.s3 l) (F15.g3 id3 t4 x5)
theorem F15.k3 : F15.c3.ok = true := by kernel_rfl
theorem F15.d3 {n0 : Nat} (l : Nat) : F15.p3 n0 l = wA Try.prog n0 13 (some l) F15.c3 := by kernel_rfl
theorem F15.m3 (n0 : Nat) (l : Nat) : MonoW (F15.p3 n0 l) := @mono_c Try.prog n0 13 (some l) F15.c3 (F15.p3 n0 l) (F15.d3 l) F15.k3
theorem F15.b : Try.f15.body = some F15.c0.erase := by kernel_rfl
theorem F15.b2 : (Try.f15.name == "runtime.NumGoroutine") = false := by kernel_rfl
theorem F15.b3 : Try.f15.ntmps = 13 := by kernel_rfl
theorem F15.b4 : Try.f15.results.toList = [.cell 4 4] := by kernel_rfl
theorem F15.enter {n0 : Nat} {x0 x1 : Value} {h : H} {Q : Value → H → Prop} (w : F15.p0 n0 [(0, x0), (1, x1)] [] h (KFin Try.prog [.cell 4 4] Q)) : Cn Try.prog n0 (.func 15) [x0, x1] h Q :=
  @fn_enter Try.prog n0 mixed 15 Try.f15 F15.c0 [x0, x1] h Q Try.func15 F15.b F15.k0 F15.b2 13 F15.b3 [.cell 4 4] F15.b4 (by simp) [(0, x0), (1, x1)] rfl (wback F15.d0 w)

/-! roster.rosterref04.Has -/
noncomputable def F16.ac : AC := (ann (bodyOf Try.f16) [[0, 1], [], [0, 1, 5], [], [0, 1, 5], [0, 1, 5], [0, 1, 5, 9], [0, 1, 5], [0, 1, 5], [0, 1, 5], [0, 1, 5, 17], [0, 1, 5], [4], [4]]).1
noncomputable def F16.c0 : AC := F16.ac
noncomputable def F16.c1 : AC := F16.ac.snd.fst.snd.fst.fst
noncomputable def F16.c2 : AC := F16.ac.snd.fst.snd.fst.fst.snd
noncomputable def F16.c3 : AC := F16.ac.snd.fst.snd.fst.fst.snd.fst.fst.snd.fst
noncomputable def F16.c4 : AC := F16.ac.snd.fst.snd.fst.fst.snd.snd
noncomputable def F16.c5 : AC := F16.ac.snd.snd
noncomputable def F16.p0 (n0 : Nat) : WP := wA Try.prog n0 18 none F16.c0
noncomputable def F16.p1 (n0 : Nat) : WP := wA Try.prog n0 18 none F16.c1
noncomputable def F16.p2 (n0 : Nat) : WP := wA Try.prog n0 18 none F16.c2
noncomputable def F16.p3 (n0 : Nat) : WP := wA Try.prog n0 18 none F16.c3
noncomputable def F16.p4 (n0 : Nat) : WP := wA Try.prog n0 18 none F16.c4
noncomputable def F16.p5 (n0 : Nat) : WP := wA Try.prog n0 18 none F16.c5
noncomputable def F16.t0 (n0 : Nat) (B1 : WP) (B5 : WP) (l0 id1 : Value) (ds : List Nat) (h : H) (K : KP) : Prop :=
  Lp [0, 1, 5] B1 [(0, l0), (1, id1), (5, (.int .i64 0))] ds h (KBlk [] 0 (KSeq [] B5 K))
theorem F16.g0 {n0 : Nat} (B1 : WP) (B5 : WP) (l0 id1 : Value) {ds : List Nat} {h : H} {K : KP} : wA Try.prog n0 18 none (.seq [0, 1] F16.c0.fst (.seq [] (.seq [0, 1, 5] F16.c0.snd.fst.fst (.block [] 0 (.loop [0, 1, 5] (.sub B1)))) (.sub B5))) [(0, l0), (1, id1)] ds h K = F16.t0 n0 B1 B5 l0 id1 ds h K := by kernel_rfl
theorem F16.s0 {n0 : Nat} : F16.p0 n0 = wA Try.prog n0 18 none (.seq [0, 1] F16.c0.fst (.seq [] (.seq [0, 1, 5] F16.c0.snd.fst.fst (.block [] 0 (.loop [0, 1, 5] (.sub (F16.p1 n0))))) (.sub (F16.p5 n0)))) := by kernel_rfl
theorem F16.e0 {n0 : Nat} {l0 id1 : Value} {ds : List Nat} {h : H} {K : KP} : F16.p0 n0 [(0, l0), (1, id1)] ds h K = F16.t0 n0 (F16.p1 n0) (F16.p5 n0) l0 id1 ds h K :=
  wchain (F16.s0) (F16.g0 (F16.p1 n0) (F16.p5 n0) l0 id1)
theorem F16.k0 : F16.c0.ok = true := by kernel_rfl
theorem F16.d0 {n0 : Nat} : F16.p0 n0 = wA Try.prog n0 18 none F16.c0 := by kernel_rfl
theorem F16.m0 (n0 : Nat) : MonoW (F16.p0 n0) := @mono_c Try.prog n0 18 none F16.c0 (F16.p0 n0) (F16.d0) F16.k0
noncomputable def F16.t1 (n0 : Nat) (B2 : WP) (l0 id1 i5 : Value) (ds : List Nat) (h : H) (K : KP) : Prop :=
  Bnd2 (aBuiltin Try.prog .len #[22] [l0] h) fun t8 h1 =>
  Bnd (aBin Try.prog false .lss 3 i5 t8) fun t9 =>
  Cnd t9
   (B2 [(0, l0), (1, id1), (5, i5)] ds h1 K)
   (K (.exit 0) [(0, l0), (1, id1), (5, i5)] ds h1)
theorem F16.g1 {n0 : Nat} (B2 : WP) (l0 id1 i5 : Value) {ds : List Nat} {h : H} {K : KP} : wA Try.prog n0 18 none (.seq [0, 1, 5] F16.c1.fst (.sub B2)) [(0, l0), (1, id1), (5, i5)] ds h K = F16.t1 n0 B2 l0 id1 i5 ds h K := by kernel_rfl
theorem F16.s1 {n0 : Nat} : F16.p1 n0 = wA Try.prog n0 18 none (.seq [0, 1, 5] F16.c1.fst (.sub (F16.p2 n0))) := by kernel_rfl
theorem F16.e1 {n0 : Nat} {l0 id1 i5 : Value} {ds : List Nat} {h : H} {K : KP} : F16.p1 n0 [(0, l0), (1, id1), (5, i5)] ds h K = F16.t1 n0 (F16.p2 n0) l0 id1 i5 ds h K :=
  wchain (F16.s1) (F16.g1 (F16.p2 n0) l0 id1 i5)
theorem F16.k1 : F16.c1.ok = true := by kernel_rfl
theorem F16.d1 {n0 : Nat} : F16.p1 n0 = wA Try.prog n0 18 none F16.c1 := by kernel_rfl
theorem F16.m1 (n0 : Nat) : MonoW (F16.p1 n0) := @mono_c Try.prog n0 18 none F16.c1 (F16.p1 n0) (F16.d1) F16.k1
noncomputable def F16.t2 (n0 : Nat) (B3 : WP) (B4 : WP) (l0 id1 i5 : Value) (ds : List Nat) (h : H) (K : KP) : Prop :=
  Bnd (aIndexAddr Try.prog 22 l0 i5) fun t14 =>
  Bnd (aLoad Try.prog 23 t14 h) fun t15 =>
  Bnd (aBin Try.prog false .eql 23 t15 id1) fun t17 =>
  Cnd t17
   (B3 [(0, l0), (1, id1), (5, i5)] ds h (KBlk [0, 1, 5] 1 (KSeq [0, 1, 5] B4 K)))
   (B4 [(0, l0), (1, id1), (5, i5)] ds h K)
theorem F16.g2 {n0 : Nat} (B3 : WP) (B4 : WP) (l0 id1 i5 : Value) {ds : List Nat} {h : H} {K : KP} : wA Try.prog n0 18 none (.seq [0, 1, 5] (.block [0, 1, 5] 1 (.seq [0, 1, 5, 17] F16.c2.fst.fst.fst (.cond [0, 1, 5] (.tmp 17) (.sub B3) F16.c2.fst.fst.snd.snd))) (.sub B4)) [(0, l0), (1, id1), (5, i5)] ds h K = F16.t2 n0 B3 B4 l0 id1 i5 ds h K := by kernel_rfl
theorem F16.s2 {n0 : Nat} : F16.p2 n0 = wA Try.prog n0 18 none (.seq [0, 1, 5] (.block [0, 1, 5] 1 (.seq [0, 1, 5, 17] F16.c2.fst.fst.fst (.cond [0, 1, 5] (.tmp 17) (.sub (F16.p3 n0)) F16.c2.fst.fst.snd.snd))) (.sub (F16.p4 n0))) := by kernel_rfl
theorem F16.e2 {n0 : Nat} {l0 id1 i5 : Value} {ds : List Nat} {h : H} {K : KP} : F16.p2 n0 [(0, l0), (1, id1), (5, i5)] ds h K = F16.t2 n0 (F16.p3 n0) (F16.p4 n0) l0 id1 i5 ds h K :=
  wchain (F16.s2) (F16.g2 (F16.p3 n0) (F16.p4 n0) l0 id1 i5)
noncomputable def F16.t3 (n0 : Nat) (l0 id1 i5 : Value) (ds : List Nat) (h : H) (K : KP) : Prop :=
  K .ret [(4, (.bool true))] ds h
theorem F16.g3 {n0 : Nat} (l0 id1 i5 : Value) {ds : List Nat} {h : H} {K : KP} : wA Try.prog n0 18 none F16.c3 [(0, l0), (1, id1), (5, i5)] ds h K = F16.t3 n0 l0 id1 i5 ds h K := by kernel_rfl
theorem F16.s3 {n0 : Nat} : F16.p3 n0 = wA Try.prog n0 18 none F16.c3 := by kernel_rfl
theorem F16.e3 {n0 : Nat} {l0 id1 i5 : Value} {ds : List Nat} {h : H} {K : KP} : F16.p3 n0 [(0, l0), (1, id1), (5, i5)] ds h K = F16.t3 n0 l0 id1 i5 ds h K :=
  wchain (F16.s3) (F16.g3 l0 id1 i5)
noncomputable def F16.t4 (n0 : Nat) (l0 id1 i5 : Value) (ds : List Nat) (h : H) (K : KP) : Prop :=
  Bnd (aBin Try.prog true .add 3 i5 (.int .i64 1)) fun t11 =>
  K .normal [(0, l0), (1, id1), (5, t11), (10, i5), (11, t11)] ds h
theorem F16.g4 {n0 : Nat} (l0 id1 i5 : Value) {ds : List Nat} {h : H} {K : KP} : wA Try.prog n0 18 none F16.c4 [(0, l0), (1, id1), (5, i5)] ds h K = F16.t4 n0 l0 id1 i5 ds h K := by kernel_rfl
theorem F16.s4 {n0 : Nat} : F16.p4 n0 = wA Try.prog n0 18 none F16.c4 := by kernel_rfl
theorem F16.e4 {n0 : Nat} {l0 id1 i5 : Value} {ds : List Nat} {h : H} {K : KP} : F16.p4 n0 [(0, l0), (1, id1), (5, i5)] ds h K = F16.t4 n0 l0 id1 i5 ds h K :=
  wchain (F16.s4) (F16.g4 l0 id1 i5)
noncomputable def F16.t5 (n0 : Nat) (ds : List Nat) (h : H) (K : KP) : Prop :=
  K .ret [(4, (.bool false))] ds h
theorem F16.g5 {n0 : Nat} {ds : List Nat} {h : H} {K : KP} : wA Try.prog n0 18 none F16.c5 [] ds h K = F16.t5 n0  ds h K := by kernel_rfl
theorem F16.s5 {n0 : Nat} : F16.p5 n0 = wA Try.prog n0 18 none F16.c5 := by kernel_rfl
theorem F16.e5 {n0 : Nat} {ds : List Nat} {h : H} {K : KP} : F16.p5 n0 [] ds h K = F16.t5 n0  ds h K :=
  wchain (F16.s5) (F16.g5)
theorem F16.b : Try.f16.body = some F16.c0.erase := by kernel_rfl
theorem F16.b2 : (Try.f16.name == "runtime.NumGoroutine") = false := by kernel_rfl
theorem F16.b3 : Try.f16.ntmps = 18 := by kernel_rfl
theorem F16.b4 : Try.f16.results.toList = [.tmp 4] := by kernel_rfl
theorem F16.enter {n0 : Nat} {x0 x1 : Value} {h : H} {Q : Value → H → Prop} (w : F16.p0 n0 [(0, x0), (1, x1)] [] h (KFin Try.prog [.tmp 4] Q)) : Cn Try.prog n0 (.func 16) [x0, x1] h Q :=
  @fn_enter Try.prog n0 mixed 16 Try.f16 F16.c0 [x0, x1] h Q Try.func16 F16.b F16.k0 F16.b2 18 F16.b3 [.tmp 4] F16.b4 (by simp) [(0, x0), (1, x1)] rfl (wback F16.d0 w)

/-! roster.rosterlaw04.kept -/
noncomputable def F17.ac : AC := (ann (bodyOf Try.f17) [[0, 1], [0, 1, 5], [0, 1], [0, 1, 5, 6], [0, 1], [0, 1, 5, 6], [0, 1, 5, 6], [0, 1, 5, 6, 17], [0, 1, 5, 6], [0, 1, 5, 6], [0, 1, 5, 6], [0, 1, 5, 6, 24], [0, 1, 5, 6], [4], [4]]).1
noncomputable def F17.c0 : AC := F17.ac
noncomputable def F17.c1 : AC := F17.ac.snd.snd.fst.snd.fst.fst
noncomputable def F17.c2 : AC := F17.ac.snd.snd.fst.snd.fst.fst.snd
noncomputable def F17.c3 : AC := F17.ac.snd.snd.fst.snd.fst.fst.snd.fst.fst.snd.fst
noncomputable def F17.c4 : AC := F17.ac.snd.snd.fst.snd.fst.fst.snd.snd
noncomputable def F17.c5 : AC := F17.ac.snd.snd.snd
noncomputable def F17.p0 (n0 : Nat) : WP := wA Try.prog n0 28 none F17.c0
noncomputable def F17.p1 (n0 : Nat) : WP := wA Try.prog n0 28 none F17.c1
noncomputable def F17.p2 (n0 : Nat) : WP := wA Try.prog n0 28 none F17.c2
noncomputable def F17.p3 (n0 : Nat) : WP := wA Try.prog n0 28 none F17.c3
noncomputable def F17.p4 (n0 : Nat) : WP := wA Try.prog n0 28 none F17.c4
noncomputable def F17.p5 (n0 : Nat) : WP := wA Try.prog n0 28 none F17.c5
noncomputable def F17.t0 (n0 : Nat) (B1 : WP) (B5 : WP) (x0 l1 : Value) (ds : List Nat) (h : H) (K : KP) : Prop :=
  Bnd2 (aBuiltin Try.prog .len #[22] [l1] h) fun t9 h1 =>
  Bnd (aBin Try.prog true .add 3 t9 (.int .i64 9)) fun t10 =>
  Bnd (aSlice Try.prog 22 x0 none (some t10) none h1) fun t11 =>
  Bnd2 (aBuiltin Try.prog .len #[22] [l1] h1) fun t13 h2 =>
  Lp [0, 1, 5, 6] B1 [(0, x0), (1, l1), (5, t11), (6, t13)] ds h2 (KBlk [0, 1] 0 (KSeq [0, 1] B5 K))
theorem F17.g0 {n0 : Nat} (B1 : WP) (B5 : WP) (x0 l1 : Value) {ds : List Nat} {h : H} {K : KP} : wA Try.prog n0 28 none (.seq [0, 1] F17.c0.fst (.seq [0, 1, 5] F17.c0.snd.fst (.seq [0, 1] (.seq [0, 1, 5, 6] F17.c0.snd.snd.fst.fst (.block [0, 1] 0 (.loop [0, 1, 5, 6] (.sub B1)))) (.sub B5)))) [(0, x0), (1, l1)] ds h K = F17.t0 n0 B1 B5 x0 l1 ds h K := by kernel_rfl
theorem F17.s0 {n0 : Nat} : F17.p0 n0 = wA Try.prog n0 28 none (.seq [0, 1] F17.c0.fst (.seq [0, 1, 5] F17.c0.snd.fst (.seq [0, 1] (.seq [0, 1, 5, 6] F17.c0.snd.snd.fst.fst (.block [0, 1] 0 (.loop [0, 1, 5, 6] (.sub (F17.p1 n0))))) (.sub (F17.p5 n0))))) := by kernel_rfl
theorem F17.e0 {n0 : Nat} {x0 l1 : Value} {ds : List Nat} {h : H} {K : KP} : F17.p0 n0 [(0, x0), (1, l1)] ds h K = F17.t0 n0 (F17.p1 n0) (F17.p5 n0) x0 l1 ds h K :=
  wchain (F17.s0) (F17.g0 (F17.p1 n0) (F17.p5 n0) x0 l1)
theorem F17.k0 : F17.c0.ok = true := by kernel_rfl
theorem F17.d0 {n0 : Nat} : F17.p0 n0 = wA Try.prog n0 28 none F17.c0 := by kernel_rfl
theorem F17.m0 (n0 : Nat) : MonoW (F17.p0 n0) := @mono_c Try.prog n0 28 none F17.c0 (F17.p0 n0) (F17.d0) F17.k0
noncomputable def F17.t1 (n0 : Nat) (B2 : WP) (x0 l1 room5 i6 : Value) (ds : List Nat) (h : H) (K : KP) : Prop :=
  Bnd2 (aBuiltin Try.prog .len #[22] [room5] h) fun t16 h1 =>
  Bnd (aBin Try.prog false .lss 3 i6 t16) fun t17 =>
  Cnd t17
   (B2 [(0, x0), (1, l1), (5, room5), (6, i6)] ds h1 K)
   (K (.exit 0) [(0, x0), (1, l1), (5, room5), (6, i6)] ds h1)
theorem F17.g1 {n0 : Nat} (B2 : WP) (x0 l1 room5 i6 : Value) {ds : List Nat} {h : H} {K : KP} : wA Try.prog n0 28 none (.seq [0, 1, 5, 6] F17.c1.fst (.sub B2)) [(0, x0), (1, l1), (5, room5), (6, i6)] ds h K = F17.t1 n0 B2 x0 l1 room5 i6 ds h K := by kernel_rfl
theorem F17.s1 {n0 : Nat} : F17.p1 n0 = wA Try.prog n0 28 none (.seq [0, 1, 5, 6] F17.c1.fst (.sub (F17.p2 n0))) := by kernel_rfl
theorem F17.e1 {n0 : Nat} {x0 l1 room5 i6 : Value} {ds : List Nat} {h : H} {K : KP} : F17.p1 n0 [(0, x0), (1, l1), (5, room5), (6, i6)] ds h K = F17.t1 n0 (F17.p2 n0) x0 l1 room5 i6 ds h K :=
  wchain (F17.s1) (F17.g1 (F17.p2 n0) x0 l1 room5 i6)
theorem F17.k1 : F17.c1.ok = true := by kernel_rfl
theorem F17.d1 {n0 : Nat} : F17.p1 n0 = wA Try.prog n0 28 none F17.c1 := by kernel_rfl
theorem F17.m1 (n0 : Nat) : MonoW (F17.p1 n0) := @mono_c Try.prog n0 28 none F17.c1 (F17.p1 n0) (F17.d1) F17.k1
noncomputable def F17.t2 (n0 : Nat) (B3 : WP) (B4 : WP) (x0 l1 room5 i6 : Value) (ds : List Nat) (h : H) (K : KP) : Prop :=
  Bnd (aIndexAddr Try.prog 22 room5 i6) fun t22 =>
  Bnd (aLoad Try.prog 23 t22 h) fun t23 =>
  Bnd (aBin Try.prog true .neq 23 t23 (.int .u64 42405)) fun t24 =>
  Cnd t24
   (B3 [(0, x0), (1, l1), (5, room5), (6, i6)] ds h (KBlk [0, 1, 5, 6] 1 (KSeq [0, 1, 5, 6] B4 K)))
   (B4 [(0, x0), (1, l1), (5, room5), (6, i6)] ds h K)
theorem F17.g2 {n0 : Nat} (B3 : WP) (B4 : WP) (x0 l1 room5 i6 : Value) {ds : List Nat} {h : H} {K : KP} : wA Try.prog n0 28 none (.seq [0, 1, 5, 6] (.block [0, 1, 5, 6] 1 (.seq [0, 1, 5, 6, 24] F17.c2.fst.fst.fst (.cond [0, 1, 5, 6] (.tmp 24) (.sub B3) F17.c2.fst.fst.snd.snd))) (.sub B4)) [(0, x0), (1, l1), (5, room5), (6, i6)] ds h K = F17.t2 n0 B3 B4 x0 l1 room5 i6 ds h K := by kernel_rfl
theorem F17.s2 {n0 : Nat} : F17.p2 n0 = wA Try.prog n0 28 none (.seq [0, 1, 5, 6] (.block [0, 1, 5, 6] 1 (.seq [0, 1, 5, 6, 24] F17.c2.fst.fst.fst (.cond [0, 1, 5, 6] (.tmp 24) (.sub (F17.p3 n0)) F17.c2.fst.fst.snd.snd))) (.sub (F17.p4 n0))) := by kernel_rfl
theorem F17.e2 {n0 : Nat} {x0 l1 room5 i6 : Value} {ds : List Nat} {h : H} {K : KP} : F17.p2 n0 [(0, x0), (1, l1), (5, room5), (6, i6)] ds h K = F17.t2 n0 (F17.p3 n0) (F17.p4 n0) x0 l1 room5 i6 ds h K :=
  wchain (F17.s2) (F17.g2 (F17.p3 n0) (F17.p4 n0) x0 l1 room5 i6)
noncomputable def F17.t3 (n0 : Nat) (x0 l1 room5 i6 : Value) (ds : List Nat) (h : H) (K : KP) : Prop :=
  K .ret [(4, (.bool false))] ds h
theorem F17.g3 {n0 : Nat} (x0 l1 room5 i6 : Value) {ds : List Nat} {h : H} {K : KP} : wA Try.prog n0 28 none F17.c3 [(0, x0), (1, l1), (5, room5), (6, i6)] ds h K = F17.t3 n0 x0 l1 room5 i6 ds h K := by kernel_rfl
theorem F17.s3 {n0 : Nat} : F17.p3 n0 = wA Try.prog n0 28 none F17.c3 := by kernel_rfl
theorem F17.e3 {n0 : Nat} {x0 l1 room5 i6 : Value} {ds : List Nat} {h : H} {K : KP} : F17.p3 n0 [(0, x0), (1, l1), (5, room5), (6, i6)] ds h K = F17.t3 n0 x0 l1 room5 i6 ds h K :=
  wchain (F17.s3) (F17.g3 x0 l1 room5 i6)
noncomputable def F17.t4 (n0 : Nat) (x0 l1 room5 i6 : Value) (ds : List Nat) (h : H) (K : KP) : Prop :=
  Bnd (aBin Try.prog true .add 3 i6 (.int .i64 1)) fun t19 =>
  K .normal [(0, x0), (1, l1), (5, room5), (6, t19), (18, i6), (19, t19)] ds h
theorem F17.g4 {n0 : Nat} (x0 l1 room5 i6 : Value) {ds : List Nat} {h : H} {K : KP} : wA Try.prog n0 28 none F17.c4 [(0, x0), (1, l1), (5, room5), (6, i6)] ds h K = F17.t4 n0 x0 l1 room5 i6 ds h K := by kernel_rfl
theorem F17.s4 {n0 : Nat} : F17.p4 n0 = wA Try.prog n0 28 none F17.c4 := by kernel_rfl
theorem F17.e4 {n0 : Nat} {x0 l1 room5 i6 : Value} {ds : List Nat} {h : H} {K : KP} : F17.p4 n0 [(0, x0), (1, l1), (5, room5), (6, i6)] ds h K = F17.t4 n0 x0 l1 room5 i6 ds h K :=
  wchain (F17.s4) (F17.g4 x0 l1 room5 i6)
noncomputable def F17.t5 (n0 : Nat) (x0 l1 : Value) (ds : List Nat) (h : H) (K : KP) : Prop :=
  Cn Try.prog n0 (.func 22) [x0, l1] h fun t27 h1 =>
  K .ret [(4, t27)] ds h1
theorem F17.g5 {n0 : Nat} (x0 l1 : Value) {ds : List Nat} {h : H} {K : KP} : wA Try.prog n0 28 none F17.c5 [(0, x0), (1, l1)] ds h K = F17.t5 n0 x0 l1 ds h K := by kernel_rfl
theorem F17.s5 {n0 : Nat} : F17.p5 n0 = wA Try.prog n0 28 none F17.c5 := by kernel_rfl
theorem F17.e5 {n0 : Nat} {x0 l1 : Value} {ds : List Nat} {h : H} {K : KP} : F17.p5 n0 [(0, x0), (1, l1)] ds h K = F17.t5 n0 x0 l1 ds h K :=
  wchain (F17.s5) (F17.g5 x0 l1)
theorem F17.b : Try.f17.body = some F17.c0.erase := by kernel_rfl
theorem F17.b2 : (Try.f17.name == "runtime.NumGoroutine") = false := by kernel_rfl
theorem F17.b3 : Try.f17.ntmps = 28 := by kernel_rfl
theorem F17.b4 : Try.f17.results.toList = [.tmp 4] := by kernel_rfl
theorem F17.enter {n0 : Nat} {x0 x1 : Value} {h : H} {Q : Value → H → Prop} (w : F17.p0 n0 [(0, x0), (1, x1)] [] h (KFin Try.prog [.tmp 4] Q)) : Cn Try.prog n0 (.func 17) [x0, x1] h Q :=
  @fn_enter Try.prog n0 mixed 17 Try.f17 F17.c0 [x0, x1] h Q Try.func17 F17.b F17.k0 F17.b2 28 F17.b3 [.tmp 4] F17.b4 (by simp) [(0, x0), (1, x1)] rfl (wback F17.d0 w)

/-! roster.idlist.From -/
noncomputable def F19.ac : AC := (ann (bodyOf Try.f19) [[0, 1], [1, 5], [5, 6], [4]]).1
noncomputable def F19.c0 : AC := F19.ac
noncomputable def F19.p0 (n0 : Nat) : WP := wA Try.prog n0 14 none F19.c0
noncomputable def F19.t0 (n0 : Nat) (l0 id1 : Value) (ds : List Nat) (h : H) (K : KP) : Prop :=
  Cn Try.prog n0 (.func 44) [l0] h fun t8 h1 =>
  Cn Try.prog n0 (.func 43) [t8] h1 fun t9 h2 =>
  Nw (enc 0 22) (zc Try.prog 22) h2 fun own5 h3 =>
  Bnd (aStore Try.prog 22 own5 t9 h3) fun h4 =>
  Bnd (aLoad Try.prog 22 own5 h4) fun t10 =>
  Cn Try.prog n0 (.func 42) [t10, (.int .i64 0), id1] h4 fun t12 h5 =>
  Nw (enc 0 3) (zc Try.prog 3) h5 fun at6 h6 =>
  Bnd (aStore Try.prog 3 at6 t12 h6) fun h7 =>
  K .ret [(4, (.func (.func 45) #[] #[own5, at6]))] ds h7
theorem F19.g0 {n0 : Nat} (l0 id1 : Value) {ds : List Nat} {h : H} {K : KP} : wA Try.prog n0 14 none F19.c0 [(0, l0), (1, id1)] ds h K = F19.t0 n0 l0 id1 ds h K := by kernel_rfl
theorem F19.s0 {n0 : Nat} : F19.p0 n0 = wA Try.prog n0 14 none F19.c0 := by kernel_rfl
theorem F19.e0 {n0 : Nat} {l0 id1 : Value} {ds : List Nat} {h : H} {K : KP} : F19.p0 n0 [(0, l0), (1, id1)] ds h K = F19.t0 n0 l0 id1 ds h K :=
  wchain (F19.s0) (F19.g0 l0 id1)
theorem F19.k0 : F19.c0.ok = true := by kernel_rfl
theorem F19.d0 {n0 : Nat} : F19.p0 n0 = wA Try.prog n0 14 none F19.c0 := by kernel_rfl
theorem F19.m0 (n0 : Nat) : MonoW (F19.p0 n0) := @mono_c Try.prog n0 14 none F19.c0 (F19.p0 n0) (F19.d0) F19.k0
theorem F19.b : Try.f19.body = some F19.c0.erase := by kernel_rfl
theorem F19.b2 : (Try.f19.name == "runtime.NumGoroutine") = false := by kernel_rfl
theorem F19.b3 : Try.f19.ntmps = 14 := by kernel_rfl
theorem F19.b4 : Try.f19.results.toList = [.tmp 4] := by kernel_rfl
theorem F19.enter {n0 : Nat} {x0 x1 : Value} {h : H} {Q : Value → H → Prop} (w : F19.p0 n0 [(0, x0), (1, x1)] [] h (KFin Try.prog [.tmp 4] Q)) : Cn Try.prog n0 (.func 19) [x0, x1] h Q :=
  @fn_enter Try.prog n0 mixed 19 Try.f19 F19.c0 [x0, x1] h Q Try.func19 F19.b F19.k0 F19.b2 14 F19.b3 [.tmp 4] F19.b4 (by simp) [(0, x0), (1, x1)] rfl (wback F19.d0 w)

/-! roster.rosterref04.From -/
noncomputable def F20.ac : AC := (ann (bodyOf Try.f20) [[0, 1], [1, 5], [1, 5, 6], [5, 6], [5, 6], [1, 5, 6], [1, 5, 6], [1, 5, 6, 20], [1, 5, 6], [1, 5, 6], [4]]).1
noncomputable def F20.c0 : AC := F20.ac
noncomputable def F20.c1 : AC := F20.ac.snd.snd.snd.fst.fst.fst
noncomputable def F20.c2 : AC := F20.ac.snd.snd.snd.fst.fst.fst.snd
noncomputable def F20.c3 : AC := F20.ac.snd.snd.snd.snd
noncomputable def F20.p0 (n0 : Nat) : WP := wA Try.prog n0 26 none F20.c0
noncomputable def F20.p1 (n0 : Nat) : WP := wA Try.prog n0 26 none F20.c1
noncomputable def F20.p2 (n0 : Nat) : WP := wA Try.prog n0 26 none F20.c2
noncomputable def F20.p3 (n0 : Nat) : WP := wA Try.prog n0 26 none F20.c3
noncomputable def F20.t0 (n0 : Nat) (B1 : WP) (B3 : WP) (l0 id1 : Value) (ds : List Nat) (h : H) (K : KP) : Prop :=
  Cn Try.prog n0 (.func 46) [l0] h fun t8 h1 =>
  Lp [1, 5, 6] B1 [(1, id1), (5, t8), (6, (.int .i64 0))] ds h1 (KBlk [5, 6] 0 (KSeq [5, 6] B3 K))
theorem F20.g0 {n0 : Nat} (B1 : WP) (B3 : WP) (l0 id1 : Value) {ds : List Nat} {h : H} {K : KP} : wA Try.prog n0 26 none (.seq [0, 1] F20.c0.fst (.seq [1, 5] F20.c0.snd.fst (.seq [1, 5, 6] F20.c0.snd.snd.fst (.seq [5, 6] (.block [5, 6] 0 (.loop [1, 5, 6] (.sub B1))) (.sub B3))))) [(0, l0), (1, id1)] ds h K = F20.t0 n0 B1 B3 l0 id1 ds h K := by kernel_rfl
theorem F20.s0 {n0 : Nat} : F20.p0 n0 = wA Try.prog n0 26 none (.seq [0, 1] F20.c0.fst (.seq [1, 5] F20.c0.snd.fst (.seq [1, 5, 6] F20.c0.snd.snd.fst (.seq [5, 6] (.block [5, 6] 0 (.loop [1, 5, 6] (.sub (F20.p1 n0)))) (.sub (F20.p3 n0)))))) := by kernel_rfl
theorem F20.e0 {n0 : Nat} {l0 id1 : Value} {ds : List Nat} {h : H} {K : KP} : F20.p0 n0 [(0, l0), (1, id1)] ds h K = F20.t0 n0 (F20.p1 n0) (F20.p3 n0) l0 id1 ds h K :=
  wchain (F20.s0) (F20.g0 (F20.p1 n0) (F20.p3 n0) l0 id1)
theorem F20.k0 : F20.c0.ok = true := by kernel_rfl
theorem F20.d0 {n0 : Nat} : F20.p0 n0 = wA Try.prog n0 26 none F20.c0 := by kernel_rfl
theorem F20.m0 (n0 : Nat) : MonoW (F20.p0 n0) := @mono_c Try.prog n0 26 none F20.c0 (F20.p0 n0) (F20.d0) F20.k0
noncomputable def F20.t1 (n0 : Nat) (B2 : WP) (id1 x5 i6 : Value) (ds : List Nat) (h : H) (K : KP) : Prop :=
  Bnd2 (aBuiltin Try.prog .len #[22] [x5] h) fun t11 h1 =>
  Bnd (aBin Try.prog false .lss 3 i6 t11) fun t12 =>
  Gd t12
   (Bnd (aIndexAddr Try.prog 22 x5 i6) fun t16 =>
  Bnd (aLoad Try.prog 23 t16 h1) fun t17 =>
  Bnd (aBin Try.prog false .lss 23 t17 id1) fun t19 =>
  Cnd t19
   (B2 [(1, id1), (5, x5), (6, i6)] ds h1 K)
   (K (.exit 0) [(1, id1), (5, x5), (6, i6)] ds h1))
   (K (.exit 0) [(1, id1), (5, x5), (6, i6)] ds h1)
theorem F20.g1 {n0 : Nat} (B2 : WP) (id1 x5 i6 : Value) {ds : List Nat} {h : H} {K : KP} : wA Try.prog n0 26 none (.seq [1, 5, 6] F20.c1.fst (.sub B2)) [(1, id1), (5, x5), (6, i6)] ds h K = F20.t1 n0 B2 id1 x5 i6 ds h K := by kernel_rfl
theorem F20.s1 {n0 : Nat} : F20.p1 n0 = wA Try.prog n0 26 none (.seq [1, 5, 6] F20.c1.fst (.sub (F20.p2 n0))) := by kernel_rfl
theorem F20.e1 {n0 : Nat} {id1 x5 i6 : Value} {ds : List Nat} {h : H} {K : KP} : F20.p1 n0 [(1, id1), (5, x5), (6, i6)] ds h K = F20.t1 n0 (F20.p2 n0) id1 x5 i6 ds h K :=
  wchain (F20.s1) (F20.g1 (F20.p2 n0) id1 x5 i6)
theorem F20.k1 : F20.c1.ok = true := by kernel_rfl
theorem F20.d1 {n0 : Nat} : F20.p1 n0 = wA Try.prog n0 26 none F20.c1 := by kernel_rfl
theorem F20.m1 (n0 : Nat) : MonoW (F20.p1 n0) := @mono_c Try.prog n0 26 none F20.c1 (F20.p1 n0) (F20.d1) F20.k1
noncomputable def F20.t2 (n0 : Nat) (id1 x5 i6 : Value) (ds : List Nat) (h : H) (K : KP) : Prop :=
  Bnd (aBin Try.prog true .add 3 i6 (.int .i64 1)) fun t22 =>
  K .normal [(1, id1), (5, x5), (6, t22)] ds h
theorem F20.g2 {n0 : Nat} (id1 x5 i6 : Value) {ds : List Nat} {h : H} {K : KP} : wA Try.prog n0 26 none F20.c2 [(1, id1), (5, x5), (6, i6)] ds h K = F20.t2 n0 id1 x5 i6 ds h K := by kernel_rfl
theorem F20.s2 {n0 : Nat} : F20.p2 n0 = wA Try.prog n0 26 none F20.c2 := by kernel_rfl
theorem F20.e2 {n0 : Nat} {id1 x5 i6 : Value} {ds : List Nat} {h : H} {K : KP} : F20.p2 n0 [(1, id1), (5, x5), (6, i6)] ds h K = F20.t2 n0 id1 x5 i6 ds h K :=
  wchain (F20.s2) (F20.g2 id1 x5 i6)
noncomputable def F20.t3 (n0 : Nat) (x5 i6 : Value) (ds : List Nat) (h : H) (K : KP) : Prop :=
  Bnd (aSlice Try.prog 22 x5 (some i6) none none h) fun t25 =>
  K .ret [(4, t25)] ds h
theorem F20.g3 {n0 : Nat} (x5 i6 : Value) {ds : List Nat} {h : H} {K : KP} : wA Try.prog n0 26 none F20.c3 [(5, x5), (6, i6)] ds h K = F20.t3 n0 x5 i6 ds h K := by kernel_rfl
theorem F20.s3 {n0 : Nat} : F20.p3 n0 = wA Try.prog n0 26 none F20.c3 := by kernel_rfl
theorem F20.e3 {n0 : Nat} {x5 i6 : Value} {ds : List Nat} {h : H} {K : KP} : F20.p3 n0 [(5, x5), (6, i6)] ds h K = F20.t3 n0 x5 i6 ds h K :=
  wchain (F20.s3) (F20.g3 x5 i6)
theorem F20.b : Try.f20.body = some F20.c0.erase := by kernel_rfl
theorem F20.b2 : (Try.f20.name == "runtime.NumGoroutine") = false := by kernel_rfl
theorem F20.b3 : Try.f20.ntmps = 26 := by kernel_rfl
theorem F20.b4 : Try.f20.results.toList = [.tmp 4] := by kernel_rfl
theorem F20.enter {n0 : Nat} {x0 x1 : Value} {h : H} {Q : Value → H → Prop} (w : F20.p0 n0 [(0, x0), (1, x1)] [] h (KFin Try.prog [.tmp 4] Q)) : Cn Try.prog n0 (.func 20) [x0, x1] h Q :=
  @fn_enter Try.prog n0 mixed 20 Try.f20 F20.c0 [x0, x1] h Q Try.func20 F20.b F20.k0 F20.b2 26 F20.b3 [.tmp 4] F20.b4 (by simp) [(0, x0), (1, x1)] rfl (wback F20.d0 w)

/-! roster.rosterlaw04.through -/
noncomputable def F21.ac : AC := (ann (bodyOf Try.f21) [[0, 3, 4], [0, 3, 4, 5], [5], [3, 4, 5, 7], [5], [3, 4, 5, 7], [4]]).1
noncomputable def F21.rAs0 : Code := F21.ac.snd.snd.fst.snd.fst.rfAs
noncomputable def F21.rBd0 : Code := F21.ac.snd.snd.fst.snd.fst.rfBd
noncomputable def F21.aAs0 : AC := (ann F21.rAs0 []).1
noncomputable def F21.aBd0 : AC := (ann F21.rBd0 [[3, 4, 5], [3, 4, 5, 6], [3, 4, 5, 6, 12], [3, 4, 5, 6]]).1
noncomputable def F21.c0 : AC := F21.ac
noncomputable def F21.c1 : AC := F21.ac.snd.snd.snd
noncomputable def F21.p0 (n0 : Nat) : WP := wA Try.prog n0 18 none F21.c0
noncomputable def F21.p1 (n0 : Nat) : WP := wA Try.prog n0 18 none F21.c1
noncomputable def F21.t0 (n0 : Nat) (B1 : WP) (each0 most1 : Value) (ds : List Nat) (h : H) (K : KP) : Prop :=
  Nw (enc 0 3) (clL most1) h fun most3 h1 =>
  Nw (enc 0 22) (zc Try.prog 22) h1 fun out5 h2 =>
  wRange Try.prog n0 none 18 each0 #[8] F21.rAs0 F21.rBd0 [(3, most3), (4, (.slice none 0 0)), (5, out5), (7, each0)] ds h2 (KBlk [5] 0 (KSeq [5] B1 K))
theorem F21.g0 {n0 : Nat} (B1 : WP) (each0 most1 : Value) {ds : List Nat} {h : H} {K : KP} : wA Try.prog n0 18 none (.seq [0, 3, 4] F21.c0.fst (.seq [0, 3, 4, 5] F21.c0.snd.fst (.seq [5] F21.c0.snd.snd.fst (.sub B1)))) [(0, each0), (1, most1)] ds h K = F21.t0 n0 B1 each0 most1 ds h K := by kernel_rfl
theorem F21.s0 {n0 : Nat} : F21.p0 n0 = wA Try.prog n0 18 none (.seq [0, 3, 4] F21.c0.fst (.seq [0, 3, 4, 5] F21.c0.snd.fst (.seq [5] F21.c0.snd.snd.fst (.sub (F21.p1 n0))))) := by kernel_rfl
theorem F21.e0 {n0 : Nat} {each0 most1 : Value} {ds : List Nat} {h : H} {K : KP} : F21.p0 n0 [(0, each0), (1, most1)] ds h K = F21.t0 n0 (F21.p1 n0) each0 most1 ds h K :=
  wchain (F21.s0) (F21.g0 (F21.p1 n0) each0 most1)
theorem F21.k0 : F21.c0.ok = true := by kernel_rfl
theorem F21.d0 {n0 : Nat} : F21.p0 n0 = wA Try.prog n0 18 none F21.c0 := by kernel_rfl
theorem F21.m0 (n0 : Nat) : MonoW (F21.p0 n0) := @mono_c Try.prog n0 18 none F21.c0 (F21.p0 n0) (F21.d0) F21.k0
noncomputable def F21.t1 (n0 : Nat) (out5 : Value) (ds : List Nat) (h : H) (K : KP) : Prop :=
  Bnd (aLoad Try.prog 22 out5 h) fun t17 =>
  K .ret [(4, t17)] ds h
theorem F21.g1 {n0 : Nat} (out5 : Value) {ds : List Nat} {h : H} {K : KP} : wA Try.prog n0 18 none F21.c1 [(5, out5)] ds h K = F21.t1 n0 out5 ds h K := by kernel_rfl
theorem F21.s1 {n0 : Nat} : F21.p1 n0 = wA Try.prog n0 18 none F21.c1 := by kernel_rfl
theorem F21.e1 {n0 : Nat} {out5 : Value} {ds : List Nat} {h : H} {K : KP} : F21.p1 n0 [(5, out5)] ds h K = F21.t1 n0 out5 ds h K :=
  wchain (F21.s1) (F21.g1 out5)
noncomputable def F21.c2 : AC := F21.aAs0
noncomputable def F21.p2 (n0 : Nat) (l : Nat) : WP := wA Try.prog n0 18 (some l) F21.c2
noncomputable def F21.t2 (n0 : Nat) (l : Nat) (most3 t4 out5 t7 t8 : Value) (ds : List Nat) (h : H) (K : KP) : Prop :=
  K .normal [(3, most3), (4, t4), (5, out5), (7, t7), (8, t8), (6, t8)] ds h
theorem F21.g2 {n0 : Nat} {l : Nat} (most3 t4 out5 t7 t8 : Value) {ds : List Nat} {h : H} {K : KP} : wA Try.prog n0 18 (some l) F21.c2 [(3, most3), (4, t4), (5, out5), (7, t7), (8, t8)] ds h K = F21.t2 n0 l most3 t4 out5 t7 t8 ds h K := by kernel_rfl
theorem F21.s2 {n0 : Nat} (l : Nat) : F21.p2 n0 l = wA Try.prog n0 18 (some l) F21.c2 := by kernel_rfl
theorem F21.e2 {n0 : Nat} {l : Nat} {most3 t4 out5 t7 t8 : Value} {ds : List Nat} {h : H} {K : KP} : F21.p2 n0 l [(3, most3), (4, t4), (5, out5), (7, t7), (8, t8)] ds h K = F21.t2 n0 l most3 t4 out5 t7 t8 ds h K :=
  wchain (F21.s2 l) (F21.g2 most3 t4 out5 t7 t8)
theorem F21.k2 : F21.c2.ok = true := by kernel_rfl
theorem F21.d2 {n0 : Nat} (l : Nat) : F21.p2 n0 l = wA Try.prog n0 18 (some l) F21.c2 := by kernel_rfl
theorem F21.m2 (n0 : Nat) (l : Nat) : MonoW (F21.p2 n0 l) := @mono_c Try.prog n0 18 (some l) F21.c2 (F21.p2 n0 l) (F21.d2 l) F21.k2
noncomputable def F21.c3 : AC := F21.aBd0
noncomputable def F21.c4 : AC := F21.aBd0.fst.snd
noncomputable def F21.p3 (n0 : Nat) (l : Nat) : WP := wA Try.prog n0 18 (some l) F21.c3
noncomputable def F21.p4 (n0 : Nat) (l : Nat) : WP := wA Try.prog n0 18 (some l) F21.c4
noncomputable def F21.t3 (n0 : Nat) (l : Nat) (B4 : WP) (most3 t4 out5 id6 : Value) (ds : List Nat) (h : H) (K : KP) : Prop :=
  Bnd (aLoad Try.prog 22 out5 h) fun t9 =>
  Bnd2 (aBuiltin Try.prog .len #[22] [t9] h) fun t10 h1 =>
  Bnd (aLoad Try.prog 3 most3 h1) fun t11 =>
  Bnd (aBin Try.prog false .geq 3 t10 t11) fun t12 =>
  Cnd t12
   (K (.exit 0) [(3, most3), (4, t4), (5, out5), (6, id6)] ds h1)
   (B4 [(3, most3), (4, t4), (5, out5), (6, id6)] ds h1 (KBlk [3, 4, 5] 1 K))
theorem F21.g3 {n0 : Nat} {l : Nat} (B4 : WP) (most3 t4 out5 id6 : Value) {ds : List Nat} {h : H} {K : KP} : wA Try.prog n0 18 (some l) (.block [3, 4, 5] 1 (.seq [3, 4, 5, 6] F21.c3.fst.fst (.sub B4))) [(3, most3), (4, t4), (5, out5), (6, id6)] ds h K = F21.t3 n0 l B4 most3 t4 out5 id6 ds h K := by kernel_rfl
theorem F21.s3 {n0 : Nat} (l : Nat) : F21.p3 n0 l = wA Try.prog n0 18 (some l) (.block [3, 4, 5] 1 (.seq [3, 4, 5, 6] F21.c3.fst.fst (.sub (F21.p4 n0 l)))) := by kernel_rfl
theorem F21.e3 {n0 : Nat} {l : Nat} {most3 t4 out5 id6 : Value} {ds : List Nat} {h : H} {K : KP} : F21.p3 n0 l [(3, most3), (4, t4), (5, out5), (6, id6)] ds h K = F21.t3 n0 l (F21.p4 n0 l) most3 t4 out5 id6 ds h K :=
  wchain (F21.s3 l) (F21.g3 (F21.p4 n0 l) most3 t4 out5 id6)
theorem F21.k3 : F21.c3.ok = true := by kernel_rfl
theorem F21.d3 {n0 : Nat} (l : Nat) : F21.p3 n0 l = wA Try.prog n0 18 (some l) F21.c3 := by kernel_rfl
theorem F21.m3 (n0 : Nat) (l : Nat) : MonoW (F21.p3 n0 l) := @mono_c Try.prog n0 18 (some l) F21.c3 (F21.p3 n0 l) (F21.d3 l) F21.k3
noncomputable def F21.t4 (n0 : Nat) (l : Nat) (most3 t4 out5 id6 : Value) (ds : List Nat) (h : H) (K : KP) : Prop :=
  Bnd (aLoad Try.prog 22 out5 h) fun t13 =>
  Bnd2 (aBuildSlice Try.prog 22 1 [(0, id6)] h) fun t15 h1 =>
  Bnd2 (aBuiltin Try.prog .append #[22, 22] [t13, t15] h1) fun t16 h2 =>
  Bnd (aStore Try.prog 22 out5 t16 h2) fun h3 =>
  K .normal [(3, most3), (4, t4), (5, out5), (6, id6), (13, t13), (14, id6), (15, t15), (16, t16)] ds h3
theorem F21.g4 {n0 : Nat} {l : Nat} (most3 t4 out5 id6 : Value) {ds : List Nat} {h : H} {K : KP} : wA Try.prog n0 18 (some l) F21.c4 [(3, most3), (4, t4), (5, out5), (6, id6)] ds h K = F21.t4 n0 l most3 t4 out5 id6 ds h K := by kernel_rfl
theorem F21.s4 {n0 : Nat} (l : Nat) : F21.p4 n0 l = wA Try.prog n0 18 (some l) F21.c4 := by kernel_rfl
theorem F21.e4 {n0 : Nat} {l : Nat} {most3 t4 out5 id6 : Value} {ds : List Nat} {h : H} {K : KP} : F21.p4 n0 l [(3, most3), (4, t4), (5, out5), (6, id6)] ds h K = F21.t4 n0 l most3 t4 out5 id6 ds h K :=
  wchain (F21.s4 l) (F21.g4 most3 t4 out5 id6)
theorem F21.b : Try.f21.body = some F21.c0.erase := by kernel_rfl
theorem F21.b2 : (Try.f21.name == "runtime.NumGoroutine") = false := by kernel_rfl
theorem F21.b3 : Try.f21.ntmps = 18 := by kernel_rfl
theorem F21.b4 : Try.f21.results.toList = [.tmp 4] := by kernel_rfl
theorem F21.enter {n0 : Nat} {x0 x1 : Value} {h : H} {Q : Value → H → Prop} (w : F21.p0 n0 [(0, x0), (1, x1)] [] h (KFin Try.prog [.tmp 4] Q)) : Cn Try.prog n0 (.func 21) [x0, x1] h Q :=
  @fn_enter Try.prog n0 mixed 21 Try.f21 F21.c0 [x0, x1] h Q Try.func21 F21.b F21.k0 F21.b2 18 F21.b3 [.tmp 4] F21.b4 (by simp) [(0, x0), (1, x1)] rfl (wback F21.d0 w)

/-! roster.rosterref04.Same -/
noncomputable def F22.ac : AC := (ann (bodyOf Try.f22) [[0, 1], [0, 1], [0, 1, 10], [0, 1], [4], [], [0, 1, 5], [], [0, 1, 5], [0, 1, 5], [0, 1, 5, 14], [0, 1, 5], [0, 1, 5], [0, 1, 5], [0, 1, 5, 25], [0, 1, 5], [4], [4]]).1
noncomputable def F22.c0 : AC := F22.ac
noncomputable def F22.c1 : AC := F22.ac.snd.fst.snd.fst
noncomputable def F22.c2 : AC := F22.ac.snd.snd
noncomputable def F22.c3 : AC := F22.ac.snd.snd.fst.snd.fst.fst
noncomputable def F22.c4 : AC := F22.ac.snd.snd.fst.snd.fst.fst.snd
noncomputable def F22.c5 : AC := F22.ac.snd.snd.fst.snd.fst.fst.snd.fst.fst.snd.fst
noncomputable def F22.c6 : AC := F22.ac.snd.snd.fst.snd.fst.fst.snd.snd
noncomputable def F22.c7 : AC := F22.ac.snd.snd.snd
noncomputable def F22.p0 (n0 : Nat) : WP := wA Try.prog n0 26 none F22.c0
noncomputable def F22.p1 (n0 : Nat) : WP := wA Try.prog n0 26 none F22.c1
noncomputable def F22.p2 (n0 : Nat) : WP := wA Try.prog n0 26 none F22.c2
noncomputable def F22.p3 (n0 : Nat) : WP := wA Try.prog n0 26 none F22.c3
noncomputable def F22.p4 (n0 : Nat) : WP := wA Try.prog n0 26 none F22.c4
noncomputable def F22.p5 (n0 : Nat) : WP := wA Try.prog n0 26 none F22.c5
noncomputable def F22.p6 (n0 : Nat) : WP := wA Try.prog n0 26 none F22.c6
noncomputable def F22.p7 (n0 : Nat) : WP := wA Try.prog n0 26 none F22.c7
noncomputable def F22.t0 (n0 : Nat) (B1 : WP) (B2 : WP) (a0 b1 : Value) (ds : List Nat) (h : H) (K : KP) : Prop :=
  Bnd2 (aBuiltin Try.prog .len #[22] [a0] h) fun t7 h1 =>
  Bnd2 (aBuiltin Try.prog .len #[22] [b1] h1) fun t9 h2 =>
  Bnd (aBin Try.prog false .neq 3 t7 t9) fun t10 =>
  Cnd t10
   (B1 [(0, a0), (1, b1)] ds h2 (KSeq [0, 1] B2 K))
   (B2 [(0, a0), (1, b1)] ds h2 K)
theorem F22.g0 {n0 : Nat} (B1 : WP) (B2 : WP) (a0 b1 : Value) {ds : List Nat} {h : H} {K : KP} : wA Try.prog n0 26 none (.seq [0, 1] F22.c0.fst (.seq [0, 1] (.seq [0, 1, 10] F22.c0.snd.fst.fst (.cond [0, 1] (.tmp 10) (.sub B1) F22.c0.snd.fst.snd.snd)) (.sub B2))) [(0, a0), (1, b1)] ds h K = F22.t0 n0 B1 B2 a0 b1 ds h K := by kernel_rfl
theorem F22.s0 {n0 : Nat} : F22.p0 n0 = wA Try.prog n0 26 none (.seq [0, 1] F22.c0.fst (.seq [0, 1] (.seq [0, 1, 10] F22.c0.snd.fst.fst (.cond [0, 1] (.tmp 10) (.sub (F22.p1 n0)) F22.c0.snd.fst.snd.snd)) (.sub (F22.p2 n0)))) := by kernel_rfl
theorem F22.e0 {n0 : Nat} {a0 b1 : Value} {ds : List Nat} {h : H} {K : KP} : F22.p0 n0 [(0, a0), (1, b1)] ds h K = F22.t0 n0 (F22.p1 n0) (F22.p2 n0) a0 b1 ds h K :=
  wchain (F22.s0) (F22.g0 (F22.p1 n0) (F22.p2 n0) a0 b1)
theorem F22.k0 : F22.c0.ok = true := by kernel_rfl
theorem F22.d0 {n0 : Nat} : F22.p0 n0 = wA Try.prog n0 26 none F22.c0 := by kernel_rfl
theorem F22.m0 (n0 : Nat) : MonoW (F22.p0 n0) := @mono_c Try.prog n0 26 none F22.c0 (F22.p0 n0) (F22.d0) F22.k0
noncomputable def F22.t1 (n0 : Nat) (a0 b1 : Value) (ds : List Nat) (h : H) (K : KP) : Prop :=
  K .ret [(4, (.bool false))] ds h
theorem F22.g1 {n0 : Nat} (a0 b1 : Value) {ds : List Nat} {h : H} {K : KP} : wA Try.prog n0 26 none F22.c1 [(0, a0), (1, b1)] ds h K = F22.t1 n0 a0 b1 ds h K := by kernel_rfl
theorem F22.s1 {n0 : Nat} : F22.p1 n0 = wA Try.prog n0 26 none F22.c1 := by kernel_rfl
theorem F22.e1 {n0 : Nat} {a0 b1 : Value} {ds : List Nat} {h : H} {K : KP} : F22.p1 n0 [(0, a0), (1, b1)] ds h K = F22.t1 n0 a0 b1 ds h K :=
  wchain (F22.s1) (F22.g1 a0 b1)
noncomputable def F22.t2 (n0 : Nat) (B3 : WP) (B7 : WP) (a0 b1 : Value) (ds : List Nat) (h : H) (K : KP) : Prop :=
  Lp [0, 1, 5] B3 [(0, a0), (1, b1), (5, (.int .i64 0))] ds h (KBlk [] 0 (KSeq [] B7 K))
theorem F22.g2 {n0 : Nat} (B3 : WP) (B7 : WP) (a0 b1 : Value) {ds : List Nat} {h : H} {K : KP} : wA Try.prog n0 26 none (.seq [] (.seq [0, 1, 5] F22.c2.fst.fst (.block [] 0 (.loop [0, 1, 5] (.sub B3)))) (.sub B7)) [(0, a0), (1, b1)] ds h K = F22.t2 n0 B3 B7 a0 b1 ds h K := by kernel_rfl
theorem F22.s2 {n0 : Nat} : F22.p2 n0 = wA Try.prog n0 26 none (.seq [] (.seq [0, 1, 5] F22.c2.fst.fst (.block [] 0 (.loop [0, 1, 5] (.sub (F22.p3 n0))))) (.sub (F22.p7 n0))) := by kernel_rfl
theorem F22.e2 {n0 : Nat} {a0 b1 : Value} {ds : List Nat} {h : H} {K : KP} : F22.p2 n0 [(0, a0), (1, b1)] ds h K = F22.t2 n0 (F22.p3 n0) (F22.p7 n0) a0 b1 ds h K :=
  wchain (F22.s2) (F22.g2 (F22.p3 n0) (F22.p7 n0) a0 b1)
noncomputable def F22.t3 (n0 : Nat) (B4 : WP) (a0 b1 i5 : Value) (ds : List Nat) (h : H) (K : KP) : Prop :=
  Bnd2 (aBuiltin Try.prog .len #[22] [a0] h) fun t13 h1 =>
  Bnd (aBin Try.prog false .lss 3 i5 t13) fun t14 =>
  Cnd t14
   (B4 [(0, a0), (1, b1), (5, i5)] ds h1 K)
   (K (.exit 0) [(0, a0), (1, b1), (5, i5)] ds h1)
theorem F22.g3 {n0 : Nat} (B4 : WP) (a0 b1 i5 : Value) {ds : List Nat} {h : H} {K : KP} : wA Try.prog n0 26 none (.seq [0, 1, 5] F22.c3.fst (.sub B4)) [(0, a0), (1, b1), (5, i5)] ds h K = F22.t3 n0 B4 a0 b1 i5 ds h K := by kernel_rfl
theorem F22.s3 {n0 : Nat} : F22.p3 n0 = wA Try.prog n0 26 none (.seq [0, 1, 5] F22.c3.fst (.sub (F22.p4 n0))) := by kernel_rfl
theorem F22.e3 {n0 : Nat} {a0 b1 i5 : Value} {ds : List Nat} {h : H} {K : KP} : F22.p3 n0 [(0, a0), (1, b1), (5, i5)] ds h K = F22.t3 n0 (F22.p4 n0) a0 b1 i5 ds h K :=
  wchain (F22.s3) (F22.g3 (F22.p4 n0) a0 b1 i5)
theorem F22.k3 : F22.c3.ok = true := by kernel_rfl
theorem F22.d3 {n0 : Nat} : F22.p3 n0 = wA Try.prog n0 26 none F22.c3 := by kernel_rfl
theorem F22.m3 (n0 : Nat) : MonoW (F22.p3 n0) := @mono_c Try.prog n0 26 none F22.c3 (F22.p3 n0) (F22.d3) F22.k3
noncomputable def F22.t4 (n0 : Nat) (B5 : WP) (B6 : WP) (a0 b1 i5 : Value) (ds : List Nat) (h : H) (K : KP) : Prop :=
  Bnd (aIndexAddr Try.prog 22 a0 i5) fun t19 =>
  Bnd (aLoad Try.prog 23 t19 h) fun t20 =>
  Bnd (aIndexAddr Try.prog 22 b1 i5) fun t23 =>
  Bnd (aLoad Try.prog 23 t23 h) fun t24 =>
  Bnd (aBin Try.prog false .neq 23 t20 t24) fun t25 =>
  Cnd t25
   (B5 [(0, a0), (1, b1), (5, i5)] ds h (KBlk [0, 1, 5] 1 (KSeq [0, 1, 5] B6 K)))
   (B6 [(0, a0), (1, b1), (5, i5)] ds h K)
theorem F22.g4 {n0 : Nat} (B5 : WP) (B6 : WP) (a0 b1 i5 : Value) {ds : List Nat} {h : H} {K : KP} : wA Try.prog n0 26 none (.seq [0, 1, 5] (.block [0, 1, 5] 1 (.seq [0, 1, 5, 25] F22.c4.fst.fst.fst (.cond [0, 1, 5] (.tmp 25) (.sub B5) F22.c4.fst.fst.snd.snd))) (.sub B6)) [(0, a0), (1, b1), (5, i5)] ds h K = F22.t4 n0 B5 B6 a0 b1 i5 ds h K := by kernel_rfl
theorem F22.s4 {n0 : Nat} : F22.p4 n0 = wA Try.prog n0 26 none (.seq [0, 1, 5] (.block [0, 1, 5] 1 (.seq [0, 1, 5, 25] F22.c4.fst.fst.fst (.cond [0, 1, 5] (.tmp 25) (.sub (F22.p5 n0)) F22.c4.fst.fst.snd.snd))) (.sub (F22.p6 n0))) := by kernel_rfl
theorem F22.e4 {n0 : Nat} {a0 b1 i5 : Value} {ds : List Nat} {h : H} {K : KP} : F22.p4 n0 [(0, a0), (1, b1), (5, i5)] ds h K = F22.t4 n0 (F22.p5 n0) (F22.p6 n0) a0 b1 i5 ds h K :=
  wchain (F22.s4) (F22.g4 (F22.p5 n0) (F22.p6 n0) a0 b1 i5)
noncomputable def F22.t5 (n0 : Nat) (a0 b1 i5 : Value) (ds : List Nat) (h : H) (K : KP) : Prop :=
  K .ret [(4, (.bool false))] ds h
theorem F22.g5 {n0 : Nat} (a0 b1 i5 : Value) {ds : List Nat} {h : H} {K : KP} : wA Try.prog n0 26 none F22.c5 [(0, a0), (1, b1), (5, i5)] ds h K = F22.t5 n0 a0 b1 i5 ds h K := by kernel_rfl
theorem F22.s5 {n0 : Nat} : F22.p5 n0 = wA Try.prog n0 26 none F22.c5 := by kernel_rfl
theorem F22.e5 {n0 : Nat} {a0 b1 i5 : Value} {ds : List Nat} {h : H} {K : KP} : F22.p5 n0 [(0, a0), (1, b1), (5, i5)] ds h K = F22.t5 n0 a0 b1 i5 ds h K :=
  wchain (F22.s5) (F22.g5 a0 b1 i5)
noncomputable def F22.t6 (n0 : Nat) (a0 b1 i5 : Value) (ds : List Nat) (h : H) (K : KP) : Prop :=
  Bnd (aBin Try.prog true .add 3 i5 (.int .i64 1)) fun t16 =>
  K .normal [(0, a0), (1, b1), (5, t16), (15, i5), (16, t16)] ds h
theorem F22.g6 {n0 : Nat} (a0 b1 i5 : Value) {ds : List Nat} {h : H} {K : KP} : wA Try.prog n0 26 none F22.c6 [(0, a0), (1, b1), (5, i5)] ds h K = F22.t6 n0 a0 b1 i5 ds h K := by kernel_rfl
theorem F22.s6 {n0 : Nat} : F22.p6 n0 = wA Try.prog n0 26 none F22.c6 := by kernel_rfl
theorem F22.e6 {n0 : Nat} {a0 b1 i5 : Value} {ds : List Nat} {h : H} {K : KP} : F22.p6 n0 [(0, a0), (1, b1), (5, i5)] ds h K = F22.t6 n0 a0 b1 i5 ds h K :=
  wchain (F22.s6) (F22.g6 a0 b1 i5)
noncomputable def F22.t7 (n0 : Nat) (ds : List Nat) (h : H) (K : KP) : Prop :=
  K .ret [(4, (.bool true))] ds h
theorem F22.g7 {n0 : Nat} {ds : List Nat} {h : H} {K : KP} : wA Try.prog n0 26 none F22.c7 [] ds h K = F22.t7 n0  ds h K := by kernel_rfl
theorem F22.s7 {n0 : Nat} : F22.p7 n0 = wA Try.prog n0 26 none F22.c7 := by kernel_rfl
theorem F22.e7 {n0 : Nat} {ds : List Nat} {h : H} {K : KP} : F22.p7 n0 [] ds h K = F22.t7 n0  ds h K :=
  wchain (F22.s7) (F22.g7)
theorem F22.b : Try.f22.body = some F22.c0.erase := by kernel_rfl
theorem F22.b2 : (Try.f22.name == "runtime.NumGoroutine") = false := by kernel_rfl
theorem F22.b3 : Try.f22.ntmps = 26 := by kernel_rfl
theorem F22.b4 : Try.f22.results.toList = [.tmp 4] := by kernel_rfl
theorem F22.enter {n0 : Nat} {x0 x1 : Value} {h : H} {Q : Value → H → Prop} (w : F22.p0 n0 [(0, x0), (1, x1)] [] h (KFin Try.prog [.tmp 4] Q)) : Cn Try.prog n0 (.func 22) [x0, x1] h Q :=
  @fn_enter Try.prog n0 mixed 22 Try.f22 F22.c0 [x0, x1] h Q Try.func22 F22.b F22.k0 F22.b2 26 F22.b3 [.tmp 4] F22.b4 (by simp) [(0, x0), (1, x1)] rfl (wback F22.d0 w)

/-! roster.idlist.seek -/
noncomputable def F42.ac : AC := (ann (bodyOf Try.f42) [[1, 3, 5], [1, 3, 5, 7], [3, 5, 7, 8], [3, 5, 7, 8], [3, 5, 7, 8], [3, 5, 7, 8], [3, 5, 7, 8], [3, 5, 7, 8, 26], [3, 5, 7, 8], [3, 5, 7, 8], [3, 5, 7, 8], [3, 5, 8, 9], [6]]).1
noncomputable def F42.c0 : AC := F42.ac
noncomputable def F42.c1 : AC := F42.ac.snd.snd.snd.fst.fst.fst
noncomputable def F42.c2 : AC := F42.ac.snd.snd.snd.fst.fst.fst.snd
noncomputable def F42.c3 : AC := F42.ac.snd.snd.snd.snd
noncomputable def F42.p0 (n0 : Nat) : WP := wA Try.prog n0 45 none F42.c0
noncomputable def F42.p1 (n0 : Nat) : WP := wA Try.prog n0 45 none F42.c1
noncomputable def F42.p2 (n0 : Nat) : WP := wA Try.prog n0 45 none F42.c2
noncomputable def F42.p3 (n0 : Nat) : WP := wA Try.prog n0 45 none F42.c3
noncomputable def F42.t0 (n0 : Nat) (B1 : WP) (B3 : WP) (l0 from1 id2 : Value) (ds : List Nat) (h : H) (K : KP) : Prop :=
  Nw (enc 0 22) (clL l0) h fun l3 h1 =>
  Nw (enc 0 23) (clL id2) h1 fun id5 h2 =>
  Nw (enc 0 3) (zc Try.prog 3) h2 fun low8 h3 =>
  Bnd (aStore Try.prog 3 low8 from1 h3) fun h4 =>
  Lp [3, 5, 7, 8] B1 [(3, l3), (5, id5), (7, (.int .i64 1)), (8, low8)] ds h4 (KBlk [3, 5, 7, 8] 0 (KSeq [3, 5, 7, 8] B3 K))
theorem F42.g0 {n0 : Nat} (B1 : WP) (B3 : WP) (l0 from1 id2 : Value) {ds : List Nat} {h : H} {K : KP} : wA Try.prog n0 45 none (.seq [1, 3, 5] F42.c0.fst (.seq [1, 3, 5, 7] F42.c0.snd.fst (.seq [3, 5, 7, 8] F42.c0.snd.snd.fst (.seq [3, 5, 7, 8] (.block [3, 5, 7, 8] 0 (.loop [3, 5, 7, 8] (.sub B1))) (.sub B3))))) [(0, l0), (1, from1), (2, id2)] ds h K = F42.t0 n0 B1 B3 l0 from1 id2 ds h K := by kernel_rfl
theorem F42.s0 {n0 : Nat} : F42.p0 n0 = wA Try.prog n0 45 none (.seq [1, 3, 5] F42.c0.fst (.seq [1, 3, 5, 7] F42.c0.snd.fst (.seq [3, 5, 7, 8] F42.c0.snd.snd.fst (.seq [3, 5, 7, 8] (.block [3, 5, 7, 8] 0 (.loop [3, 5, 7, 8] (.sub (F42.p1 n0)))) (.sub (F42.p3 n0)))))) := by kernel_rfl
theorem F42.e0 {n0 : Nat} {l0 from1 id2 : Value} {ds : List Nat} {h : H} {K : KP} : F42.p0 n0 [(0, l0), (1, from1), (2, id2)] ds h K = F42.t0 n0 (F42.p1 n0) (F42.p3 n0) l0 from1 id2 ds h K :=
  wchain (F42.s0) (F42.g0 (F42.p1 n0) (F42.p3 n0) l0 from1 id2)
theorem F42.k0 : F42.c0.ok = true := by kernel_rfl
theorem F42.d0 {n0 : Nat} : F42.p0 n0 = wA Try.prog n0 45 none F42.c0 := by kernel_rfl
theorem F42.m0 (n0 : Nat) : MonoW (F42.p0 n0) := @mono_c Try.prog n0 45 none F42.c0 (F42.p0 n0) (F42.d0) F42.k0
noncomputable def F42.t1 (n0 : Nat) (B2 : WP) (l3 id5 leap7 low8 : Value) (ds : List Nat) (h : H) (K : KP) : Prop :=
  Bnd (aLoad Try.prog 3 low8 h) fun t11 =>
  Bnd (aBin Try.prog false .add 3 t11 leap7) fun t13 =>
  Bnd (aLoad Try.prog 22 l3 h) fun t14 =>
  Bnd2 (aBuiltin Try.prog .len #[22] [t14] h) fun t15 h1 =>
  Bnd (aBin Try.prog false .lss 3 t13 t15) fun t16 =>
  Gd t16
   (Bnd (aLoad Try.prog 22 l3 h1) fun t18 =>
  Bnd (aLoad Try.prog 3 low8 h1) fun t19 =>
  Bnd (aBin Try.prog false .add 3 t19 leap7) fun t21 =>
  Bnd (aIndexAddr Try.prog 22 t18 t21) fun t22 =>
  Bnd (aLoad Try.prog 23 t22 h1) fun t23 =>
  Bnd (aLoad Try.prog 23 id5 h1) fun t24 =>
  Bnd (aBin Try.prog false .lss 23 t23 t24) fun t25 =>
  Cnd t25
   (B2 [(3, l3), (5, id5), (7, leap7), (8, low8)] ds h1 K)
   (K (.exit 0) [(3, l3), (5, id5), (7, leap7), (8, low8)] ds h1))
   (K (.exit 0) [(3, l3), (5, id5), (7, leap7), (8, low8)] ds h1)
theorem F42.g1 {n0 : Nat} (B2 : WP) (l3 id5 leap7 low8 : Value) {ds : List Nat} {h : H} {K : KP} : wA Try.prog n0 45 none (.seq [3, 5, 7, 8] F42.c1.fst (.sub B2)) [(3, l3), (5, id5), (7, leap7), (8, low8)] ds h K = F42.t1 n0 B2 l3 id5 leap7 low8 ds h K := by kernel_rfl
theorem F42.s1 {n0 : Nat} : F42.p1 n0 = wA Try.prog n0 45 none (.seq [3, 5, 7, 8] F42.c1.fst (.sub (F42.p2 n0))) := by kernel_rfl
theorem F42.e1 {n0 : Nat} {l3 id5 leap7 low8 : Value} {ds : List Nat} {h : H} {K : KP} : F42.p1 n0 [(3, l3), (5, id5), (7, leap7), (8, low8)] ds h K = F42.t1 n0 (F42.p2 n0) l3 id5 leap7 low8 ds h K :=
  wchain (F42.s1) (F42.g1 (F42.p2 n0) l3 id5 leap7 low8)
theorem F42.k1 : F42.c1.ok = true := by kernel_rfl
theorem F42.d1 {n0 : Nat} : F42.p1 n0 = wA Try.prog n0 45 none F42.c1 := by kernel_rfl
theorem F42.m1 (n0 : Nat) : MonoW (F42.p1 n0) := @mono_c Try.prog n0 45 none F42.c1 (F42.p1 n0) (F42.d1) F42.k1
noncomputable def F42.t2 (n0 : Nat) (l3 id5 leap7 low8 : Value) (ds : List Nat) (h : H) (K : KP) : Prop :=
  Bnd (aLoad Try.prog 3 low8 h) fun t27 =>
  Bnd (aBin Try.prog false .add 3 t27 leap7) fun t29 =>
  Bnd (aStore Try.prog 3 low8 t29 h) fun h1 =>
  Bnd (aBin Try.prog true .mul 3 leap7 (.int .i64 2)) fun t31 =>
  K .normal [(3, l3), (5, id5), (7, t31), (8, low8)] ds h1
theorem F42.g2 {n0 : Nat} (l3 id5 leap7 low8 : Value) {ds : List Nat} {h : H} {K : KP} : wA Try.prog n0 45 none F42.c2 [(3, l3), (5, id5), (7, leap7), (8, low8)] ds h K = F42.t2 n0 l3 id5 leap7 low8 ds h K := by kernel_rfl
theorem F42.s2 {n0 : Nat} : F42.p2 n0 = wA Try.prog n0 45 none F42.c2 := by kernel_rfl
theorem F42.e2 {n0 : Nat} {l3 id5 leap7 low8 : Value} {ds : List Nat} {h : H} {K : KP} : F42.p2 n0 [(3, l3), (5, id5), (7, leap7), (8, low8)] ds h K = F42.t2 n0 l3 id5 leap7 low8 ds h K :=
  wchain (F42.s2) (F42.g2 l3 id5 leap7 low8)
noncomputable def F42.t3 (n0 : Nat) (l3 id5 leap7 low8 : Value) (ds : List Nat) (h : H) (K : KP) : Prop :=
  Bnd (aLoad Try.prog 3 low8 h) fun t32 =>
  Bnd (aBin Try.prog false .add 3 t32 leap7) fun t34 =>
  Bnd (aLoad Try.prog 22 l3 h) fun t35 =>
  Bnd2 (aBuiltin Try.prog .len #[22] [t35] h) fun t36 h1 =>
  Bnd2 (aBuiltin Try.prog .min #[3, 3] [t34, t36] h1) fun t37 h2 =>
  Bnd (aLoad Try.prog 3 low8 h2) fun t38 =>
  Bnd (aLoad Try.prog 3 low8 h2) fun t40 =>
  Bnd (aBin Try.prog false .sub 3 t37 t40) fun t41 =>
  Cn Try.prog n0 (.func 55) [t41, (.func (.func 56) #[] #[l3, low8, id5])] h2 fun t43 h3 =>
  Bnd (aBin Try.prog false .add 3 t38 t43) fun t44 =>
  Sm (aLoad Try.prog 3 low8 h2) t38 <|
  Sm (aLoad Try.prog 3 low8 h3) t38 <|
  K .ret [(6, t44)] ds h3
theorem F42.g3 {n0 : Nat} (l3 id5 leap7 low8 : Value) {ds : List Nat} {h : H} {K : KP} : wA Try.prog n0 45 none F42.c3 [(3, l3), (5, id5), (7, leap7), (8, low8)] ds h K = F42.t3 n0 l3 id5 leap7 low8 ds h K := by kernel_rfl
theorem F42.s3 {n0 : Nat} : F42.p3 n0 = wA Try.prog n0 45 none F42.c3 := by kernel_rfl
theorem F42.e3 {n0 : Nat} {l3 id5 leap7 low8 : Value} {ds : List Nat} {h : H} {K : KP} : F42.p3 n0 [(3, l3), (5, id5), (7, leap7), (8, low8)] ds h K = F42.t3 n0 l3 id5 leap7 low8 ds h K :=
  wchain (F42.s3) (F42.g3 l3 id5 leap7 low8)
theorem F42.b : Try.f42.body = some F42.c0.erase := by kernel_rfl
theorem F42.b2 : (Try.f42.name == "runtime.NumGoroutine") = false := by kernel_rfl
theorem F42.b3 : Try.f42.ntmps = 45 := by kernel_rfl
theorem F42.b4 : Try.f42.results.toList = [.tmp 6] := by kernel_rfl
theorem F42.enter {n0 : Nat} {x0 x1 x2 : Value} {h : H} {Q : Value → H → Prop} (w : F42.p0 n0 [(0, x0), (1, x1), (2, x2)] [] h (KFin Try.prog [.tmp 6] Q)) : Cn Try.prog n0 (.func 42) [x0, x1, x2] h Q :=
  @fn_enter Try.prog n0 mixed 42 Try.f42 F42.c0 [x0, x1, x2] h Q Try.func42 F42.b F42.k0 F42.b2 45 F42.b3 [.tmp 6] F42.b4 (by simp) [(0, x0), (1, x1), (2, x2)] rfl (wback F42.d0 w)

/-! slices.Clone[[]uint64,uint64] -/
noncomputable def F43.ac : AC := (ann (bodyOf Try.f43) [[0], [0], [0, 4], [0], [2], [2]]).1
noncomputable def F43.c0 : AC := F43.ac
noncomputable def F43.c1 : AC := F43.ac.snd.fst.snd.fst
noncomputable def F43.c2 : AC := F43.ac.snd.snd
noncomputable def F43.p0 (n0 : Nat) : WP := wA Try.prog n0 8 none F43.c0
noncomputable def F43.p1 (n0 : Nat) : WP := wA Try.prog n0 8 none F43.c1
noncomputable def F43.p2 (n0 : Nat) : WP := wA Try.prog n0 8 none F43.c2
noncomputable def F43.t0 (n0 : Nat) (B1 : WP) (B2 : WP) (s0 : Value) (ds : List Nat) (h : H) (K : KP) : Prop :=
  Bnd (aBin Try.prog true .eql 22 s0 (.slice none 0 0)) fun t4 =>
  Cnd t4
   (B1 [(0, s0)] ds h (KSeq [0] B2 K))
   (B2 [(0, s0)] ds h K)
theorem F43.g0 {n0 : Nat} (B1 : WP) (B2 : WP) (s0 : Value) {ds : List Nat} {h : H} {K : KP} : wA Try.prog n0 8 none (.seq [0] F43.c0.fst (.seq [0] (.seq [0, 4] F43.c0.snd.fst.fst (.cond [0] (.tmp 4) (.sub B1) F43.c0.snd.fst.snd.snd)) (.sub B2))) [(0, s0)] ds h K = F43.t0 n0 B1 B2 s0 ds h K := by kernel_rfl
theorem F43.s0 {n0 : Nat} : F43.p0 n0 = wA Try.prog n0 8 none (.seq [0] F43.c0.fst (.seq [0] (.seq [0, 4] F43.c0.snd.fst.fst (.cond [0] (.tmp 4) (.sub (F43.p1 n0)) F43.c0.snd.fst.snd.snd)) (.sub (F43.p2 n0)))) := by kernel_rfl
theorem F43.e0 {n0 : Nat} {s0 : Value} {ds : List Nat} {h : H} {K : KP} : F43.p0 n0 [(0, s0)] ds h K = F43.t0 n0 (F43.p1 n0) (F43.p2 n0) s0 ds h K :=
  wchain (F43.s0) (F43.g0 (F43.p1 n0) (F43.p2 n0) s0)
theorem F43.k0 : F43.c0.ok = true := by kernel_rfl
theorem F43.d0 {n0 : Nat} : F43.p0 n0 = wA Try.prog n0 8 none F43.c0 := by kernel_rfl
theorem F43.m0 (n0 : Nat) : MonoW (F43.p0 n0) := @mono_c Try.prog n0 8 none F43.c0 (F43.p0 n0) (F43.d0) F43.k0
noncomputable def F43.t1 (n0 : Nat) (s0 : Value) (ds : List Nat) (h : H) (K : KP) : Prop :=
  K .ret [(2, (.slice none 0 0))] ds h
theorem F43.g1 {n0 : Nat} (s0 : Value) {ds : List Nat} {h : H} {K : KP} : wA Try.prog n0 8 none F43.c1 [(0, s0)] ds h K = F43.t1 n0 s0 ds h K := by kernel_rfl
theorem F43.s1 {n0 : Nat} : F43.p1 n0 = wA Try.prog n0 8 none F43.c1 := by kernel_rfl
theorem F43.e1 {n0 : Nat} {s0 : Value} {ds : List Nat} {h : H} {K : KP} : F43.p1 n0 [(0, s0)] ds h K = F43.t1 n0 s0 ds h K :=
  wchain (F43.s1) (F43.g1 s0)
noncomputable def F43.t2 (n0 : Nat) (s0 : Value) (ds : List Nat) (h : H) (K : KP) : Prop :=
  Bnd2 (aBuildSlice Try.prog 22 0 [] h) fun t5 h1 =>
  Bnd2 (aBuiltin Try.prog .append #[22, 22] [t5, s0] h1) fun t7 h2 =>
  K .ret [(2, t7)] ds h2
theorem F43.g2 {n0 : Nat} (s0 : Value) {ds : List Nat} {h : H} {K : KP} : wA Try.prog n0 8 none F43.c2 [(0, s0)] ds h K = F43.t2 n0 s0 ds h K := by kernel_rfl
theorem F43.s2 {n0 : Nat} : F43.p2 n0 = wA Try.prog n0 8 none F43.c2 := by kernel_rfl
theorem F43.e2 {n0 : Nat} {s0 : Value} {ds : List Nat} {h : H} {K : KP} : F43.p2 n0 [(0, s0)] ds h K = F43.t2 n0 s0 ds h K :=
  wchain (F43.s2) (F43.g2 s0)
theorem F43.b : Try.f43.body = some F43.c0.erase := by kernel_rfl
theorem F43.b2 : (Try.f43.name == "runtime.NumGoroutine") = false := by kernel_rfl
theorem F43.b3 : Try.f43.ntmps = 8 := by kernel_rfl
theorem F43.b4 : Try.f43.results.toList = [.tmp 2] := by kernel_rfl
theorem F43.enter {n0 : Nat} {x0 : Value} {h : H} {Q : Value → H → Prop} (w : F43.p0 n0 [(0, x0)] [] h (KFin Try.prog [.tmp 2] Q)) : Cn Try.prog n0 (.func 43) [x0] h Q :=
  @fn_enter Try.prog n0 mixed 43 Try.f43 F43.c0 [x0] h Q Try.func43 F43.b F43.k0 F43.b2 8 F43.b3 [.tmp 2] F43.b4 (by simp) [(0, x0)] rfl (wback F43.d0 w)

/-! roster.idlist.set -/
noncomputable def F44.ac : AC := (ann (bodyOf Try.f44) [[0], [0], [0, 5], [0], [2], [3], [3], [2]]).1
noncomputable def F44.c0 : AC := F44.ac
noncomputable def F44.c1 : AC := F44.ac.snd.fst.snd.fst
noncomputable def F44.c2 : AC := F44.ac.snd.snd
noncomputable def F44.p0 (n0 : Nat) : WP := wA Try.prog n0 18 none F44.c0
noncomputable def F44.p1 (n0 : Nat) : WP := wA Try.prog n0 18 none F44.c1
noncomputable def F44.p2 (n0 : Nat) : WP := wA Try.prog n0 18 none F44.c2
noncomputable def F44.t0 (n0 : Nat) (B1 : WP) (B2 : WP) (l0 : Value) (ds : List Nat) (h : H) (K : KP) : Prop :=
  Cn Try.prog n0 (.func 31) [l0] h fun t5 h1 =>
  Cnd t5
   (B1 [(0, l0)] ds h1 (KSeq [0] B2 K))
   (B2 [(0, l0)] ds h1 K)
theorem F44.g0 {n0 : Nat} (B1 : WP) (B2 : WP) (l0 : Value) {ds : List Nat} {h : H} {K : KP} : wA Try.prog n0 18 none (.seq [0] F44.c0.fst (.seq [0] (.seq [0, 5] F44.c0.snd.fst.fst (.cond [0] (.tmp 5) (.sub B1) F44.c0.snd.fst.snd.snd)) (.sub B2))) [(0, l0)] ds h K = F44.t0 n0 B1 B2 l0 ds h K := by kernel_rfl
theorem F44.s0 {n0 : Nat} : F44.p0 n0 = wA Try.prog n0 18 none (.seq [0] F44.c0.fst (.seq [0] (.seq [0, 5] F44.c0.snd.fst.fst (.cond [0] (.tmp 5) (.sub (F44.p1 n0)) F44.c0.snd.fst.snd.snd)) (.sub (F44.p2 n0)))) := by kernel_rfl
theorem F44.e0 {n0 : Nat} {l0 : Value} {ds : List Nat} {h : H} {K : KP} : F44.p0 n0 [(0, l0)] ds h K = F44.t0 n0 (F44.p1 n0) (F44.p2 n0) l0 ds h K :=
  wchain (F44.s0) (F44.g0 (F44.p1 n0) (F44.p2 n0) l0)
theorem F44.k0 : F44.c0.ok = true := by kernel_rfl
theorem F44.d0 {n0 : Nat} : F44.p0 n0 = wA Try.prog n0 18 none F44.c0 := by kernel_rfl
theorem F44.m0 (n0 : Nat) : MonoW (F44.p0 n0) := @mono_c Try.prog n0 18 none F44.c0 (F44.p0 n0) (F44.d0) F44.k0
noncomputable def F44.t1 (n0 : Nat) (l0 : Value) (ds : List Nat) (h : H) (K : KP) : Prop :=
  Bnd2 (aBuiltin Try.prog .len #[22] [l0] h) fun t8 h1 =>
  Bnd2 (aBuiltin Try.prog .len #[22] [l0] h1) fun t10 h2 =>
  Bnd (aSlice Try.prog 22 l0 none (some t8) (some t10) h2) fun t11 =>
  K .ret [(2, t11)] ds h2
theorem F44.g1 {n0 : Nat} (l0 : Value) {ds : List Nat} {h : H} {K : KP} : wA Try.prog n0 18 none F44.c1 [(0, l0)] ds h K = F44.t1 n0 l0 ds h K := by kernel_rfl
theorem F44.s1 {n0 : Nat} : F44.p1 n0 = wA Try.prog n0 18 none F44.c1 := by kernel_rfl
theorem F44.e1 {n0 : Nat} {l0 : Value} {ds : List Nat} {h : H} {K : KP} : F44.p1 n0 [(0, l0)] ds h K = F44.t1 n0 l0 ds h K :=
  wchain (F44.s1) (F44.g1 l0)
noncomputable def F44.t2 (n0 : Nat) (l0 : Value) (ds : List Nat) (h : H) (K : KP) : Prop :=
  Cn Try.prog n0 (.func 43) [l0] h fun t13 h1 =>
  Cn Try.prog n0 (.func 57) [t13] h1 fun t15 h2 =>
  Cn Try.prog n0 (.func 58) [t13] h2 fun t17 h3 =>
  K .ret [(2, t17)] ds h3
theorem F44.g2 {n0 : Nat} (l0 : Value) {ds : List Nat} {h : H} {K : KP} : wA Try.prog n0 18 none F44.c2 [(0, l0)] ds h K = F44.t2 n0 l0 ds h K := by kernel_rfl
theorem F44.s2 {n0 : Nat} : F44.p2 n0 = wA Try.prog n0 18 none F44.c2 := by kernel_rfl
theorem F44.e2 {n0 : Nat} {l0 : Value} {ds : List Nat} {h : H} {K : KP} : F44.p2 n0 [(0, l0)] ds h K = F44.t2 n0 l0 ds h K :=
  wchain (F44.s2) (F44.g2 l0)
theorem F44.b : Try.f44.body = some F44.c0.erase := by kernel_rfl
theorem F44.b2 : (Try.f44.name == "runtime.NumGoroutine") = false := by kernel_rfl
theorem F44.b3 : Try.f44.ntmps = 18 := by kernel_rfl
theorem F44.b4 : Try.f44.results.toList = [.tmp 2] := by kernel_rfl
theorem F44.enter {n0 : Nat} {x0 : Value} {h : H} {Q : Value → H → Prop} (w : F44.p0 n0 [(0, x0)] [] h (KFin Try.prog [.tmp 2] Q)) : Cn Try.prog n0 (.func 44) [x0] h Q :=
  @fn_enter Try.prog n0 mixed 44 Try.f44 F44.c0 [x0] h Q Try.func44 F44.b F44.k0 F44.b2 18 F44.b3 [.tmp 2] F44.b4 (by simp) [(0, x0)] rfl (wback F44.d0 w)

/-! roster.idlist.From$1 -/
noncomputable def F45.ac : AC := (ann (bodyOf Try.f45) [[0, 8, 9, 10], [], [0, 8, 9, 10], [0, 8, 9, 10, 11], [0, 8, 9, 10], [0, 8, 9, 10], [0, 8, 9, 10], [0, 8, 9, 10], [0, 5, 8, 9, 10], [0, 8, 9, 10, 17], [0, 8, 9, 10]]).1
noncomputable def F45.c0 : AC := F45.ac
noncomputable def F45.c1 : AC := F45.ac.snd.fst.fst
noncomputable def F45.c2 : AC := F45.ac.snd.fst.fst.snd.snd
noncomputable def F45.c3 : AC := F45.ac.snd.fst.fst.snd.snd.snd
noncomputable def F45.p0 (n0 : Nat) : WP := wA Try.prog n0 19 none F45.c0
noncomputable def F45.p1 (n0 : Nat) : WP := wA Try.prog n0 19 none F45.c1
noncomputable def F45.p2 (n0 : Nat) : WP := wA Try.prog n0 19 none F45.c2
noncomputable def F45.p3 (n0 : Nat) : WP := wA Try.prog n0 19 none F45.c3
noncomputable def F45.t0 (n0 : Nat) (B1 : WP) (yield0 t1 t2 : Value) (ds : List Nat) (h : H) (K : KP) : Prop :=
  Bnd (aLoad Try.prog 22 t1 h) fun t6 =>
  Bnd (aLoad Try.prog 3 t2 h) fun t7 =>
  Bnd (aSlice Try.prog 22 t6 (some t7) none none h) fun t8 =>
  Bnd2 (aBuiltin Try.prog .len #[22] [t8] h) fun t9 h1 =>
  Lp [0, 8, 9, 10] B1 [(0, yield0), (8, t8), (9, t9), (10, (.int .i64 0))] ds h1 (KBlk [] 0 K)
theorem F45.g0 {n0 : Nat} (B1 : WP) (yield0 t1 t2 : Value) {ds : List Nat} {h : H} {K : KP} : wA Try.prog n0 19 none (.seq [0, 8, 9, 10] F45.c0.fst (.block [] 0 (.loop [0, 8, 9, 10] (.sub B1)))) [(0, yield0), (1, t1), (2, t2)] ds h K = F45.t0 n0 B1 yield0 t1 t2 ds h K := by kernel_rfl
theorem F45.s0 {n0 : Nat} : F45.p0 n0 = wA Try.prog n0 19 none (.seq [0, 8, 9, 10] F45.c0.fst (.block [] 0 (.loop [0, 8, 9, 10] (.sub (F45.p1 n0))))) := by kernel_rfl
theorem F45.e0 {n0 : Nat} {yield0 t1 t2 : Value} {ds : List Nat} {h : H} {K : KP} : F45.p0 n0 [(0, yield0), (1, t1), (2, t2)] ds h K = F45.t0 n0 (F45.p1 n0) yield0 t1 t2 ds h K :=
  wchain (F45.s0) (F45.g0 (F45.p1 n0) yield0 t1 t2)
theorem F45.k0 : F45.c0.ok = true := by kernel_rfl
theorem F45.d0 {n0 : Nat} : F45.p0 n0 = wA Try.prog n0 19 none F45.c0 := by kernel_rfl
theorem F45.m0 (n0 : Nat) : MonoW (F45.p0 n0) := @mono_c Try.prog n0 19 none F45.c0 (F45.p0 n0) (F45.d0) F45.k0
noncomputable def F45.t1 (n0 : Nat) (B2 : WP) (yield0 t8 t9 t10 : Value) (ds : List Nat) (h : H) (K : KP) : Prop :=
  Bnd (aBin Try.prog false .lss 3 t10 t9) fun t11 =>
  Cnd t11
   (B2 [(0, yield0), (8, t8), (9, t9), (10, t10)] ds h K)
   (K (.exit 0) [(0, yield0), (8, t8), (9, t9), (10, t10)] ds h)
theorem F45.g1 {n0 : Nat} (B2 : WP) (yield0 t8 t9 t10 : Value) {ds : List Nat} {h : H} {K : KP} : wA Try.prog n0 19 none (.seq [0, 8, 9, 10, 11] F45.c1.fst (.seq [0, 8, 9, 10] F45.c1.snd.fst (.sub B2))) [(0, yield0), (8, t8), (9, t9), (10, t10)] ds h K = F45.t1 n0 B2 yield0 t8 t9 t10 ds h K := by kernel_rfl
theorem F45.s1 {n0 : Nat} : F45.p1 n0 = wA Try.prog n0 19 none (.seq [0, 8, 9, 10, 11] F45.c1.fst (.seq [0, 8, 9, 10] F45.c1.snd.fst (.sub (F45.p2 n0)))) := by kernel_rfl
theorem F45.e1 {n0 : Nat} {yield0 t8 t9 t10 : Value} {ds : List Nat} {h : H} {K : KP} : F45.p1 n0 [(0, yield0), (8, t8), (9, t9), (10, t10)] ds h K = F45.t1 n0 (F45.p2 n0) yield0 t8 t9 t10 ds h K :=
  wchain (F45.s1) (F45.g1 (F45.p2 n0) yield0 t8 t9 t10)
theorem F45.k1 : F45.c1.ok = true := by kernel_rfl
theorem F45.d1 {n0 : Nat} : F45.p1 n0 = wA Try.prog n0 19 none F45.c1 := by kernel_rfl
theorem F45.m1 (n0 : Nat) : MonoW (F45.p1 n0) := @mono_c Try.prog n0 19 none F45.c1 (F45.p1 n0) (F45.d1) F45.k1
noncomputable def F45.t2 (n0 : Nat) (B3 : WP) (yield0 t8 t9 t10 : Value) (ds : List Nat) (h : H) (K : KP) : Prop :=
  Bnd (aIndexAddr Try.prog 22 t8 t10) fun t12 =>
  Bnd (aLoad Try.prog 23 t12 h) fun t13 =>
  CallV Try.prog n0 yield0 [t13] h fun t16 h1 =>
  Bnd (aUn .not t16) fun t17 =>
  Cnd t17
   (K .ret [(0, yield0), (8, t8), (9, t9), (10, t10)] ds h1)
   (B3 [(0, yield0), (8, t8), (9, t9), (10, t10)] ds h1 K)
theorem F45.g2 {n0 : Nat} (B3 : WP) (yield0 t8 t9 t10 : Value) {ds : List Nat} {h : H} {K : KP} : wA Try.prog n0 19 none (.seq [0, 8, 9, 10] F45.c2.fst (.sub B3)) [(0, yield0), (8, t8), (9, t9), (10, t10)] ds h K = F45.t2 n0 B3 yield0 t8 t9 t10 ds h K := by kernel_rfl
theorem F45.s2 {n0 : Nat} : F45.p2 n0 = wA Try.prog n0 19 none (.seq [0, 8, 9, 10] F45.c2.fst (.sub (F45.p3 n0))) := by kernel_rfl
theorem F45.e2 {n0 : Nat} {yield0 t8 t9 t10 : Value} {ds : List Nat} {h : H} {K : KP} : F45.p2 n0 [(0, yield0), (8, t8), (9, t9), (10, t10)] ds h K = F45.t2 n0 (F45.p3 n0) yield0 t8 t9 t10 ds h K :=
  wchain (F45.s2) (F45.g2 (F45.p3 n0) yield0 t8 t9 t10)
noncomputable def F45.t3 (n0 : Nat) (yield0 t8 t9 t10 : Value) (ds : List Nat) (h : H) (K : KP) : Prop :=
  Bnd (aBin Try.prog true .add 3 t10 (.int .i64 1)) fun t18 =>
  K .normal [(0, yield0), (8, t8), (9, t9), (10, t18), (18, t18)] ds h
theorem F45.g3 {n0 : Nat} (yield0 t8 t9 t10 : Value) {ds : List Nat} {h : H} {K : KP} : wA Try.prog n0 19 none F45.c3 [(0, yield0), (8, t8), (9, t9), (10, t10)] ds h K = F45.t3 n0 yield0 t8 t9 t10 ds h K := by kernel_rfl
theorem F45.s3 {n0 : Nat} : F45.p3 n0 = wA Try.prog n0 19 none F45.c3 := by kernel_rfl
theorem F45.e3 {n0 : Nat} {yield0 t8 t9 t10 : Value} {ds : List Nat} {h : H} {K : KP} : F45.p3 n0 [(0, yield0), (8, t8), (9, t9), (10, t10)] ds h K = F45.t3 n0 yield0 t8 t9 t10 ds h K :=
  wchain (F45.s3) (F45.g3 yield0 t8 t9 t10)
theorem F45.b : Try.f45.body = some F45.c0.erase := by kernel_rfl
theorem F45.b2 : (Try.f45.name == "runtime.NumGoroutine") = false := by kernel_rfl
theorem F45.b3 : Try.f45.ntmps = 19 := by kernel_rfl
theorem F45.b4 : Try.f45.results.toList = [] := by kernel_rfl
theorem F45.enter {n0 : Nat} {x0 x1 x2 : Value} {h : H} {Q : Value → H → Prop} (w : F45.p0 n0 [(0, x0), (1, x1), (2, x2)] [] h (KFin Try.prog [] Q)) : Cn Try.prog n0 (.func 45) [x0, x1, x2] h Q :=
  @fn_enter Try.prog n0 mixed 45 Try.f45 F45.c0 [x0, x1, x2] h Q Try.func45 F45.b F45.k0 F45.b2 19 F45.b3 [] F45.b4 (by simp) [(0, x0), (1, x1), (2, x2)] rfl (wback F45.d0 w)

/-! sort.Search -/
noncomputable def F55.ac : AC := (ann (bodyOf Try.f55) [[0, 1], [1, 5, 6], [5], [5], [1, 5, 6], [1, 5, 6], [1, 5, 6, 11], [1, 5, 6], [1, 5, 6], [1, 5, 6, 7], [1, 5, 6, 7, 21], [1, 5, 6, 7], [4]]).1
noncomputable def F55.c0 : AC := F55.ac
noncomputable def F55.c1 : AC := F55.ac.snd.snd.fst.fst.fst
noncomputable def F55.c2 : AC := F55.ac.snd.snd.fst.fst.fst.snd
noncomputable def F55.c3 : AC := F55.ac.snd.snd.fst.fst.fst.snd.fst.snd.snd.fst
noncomputable def F55.c4 : AC := F55.ac.snd.snd.fst.fst.fst.snd.fst.snd.snd.snd
noncomputable def F55.c5 : AC := F55.ac.snd.snd.snd
noncomputable def F55.p0 (n0 : Nat) : WP := wA Try.prog n0 26 none F55.c0
noncomputable def F55.p1 (n0 : Nat) : WP := wA Try.prog n0 26 none F55.c1
noncomputable def F55.p2 (n0 : Nat) : WP := wA Try.prog n0 26 none F55.c2
noncomputable def F55.p3 (n0 : Nat) : WP := wA Try.prog n0 26 none F55.c3
noncomputable def F55.p4 (n0 : Nat) : WP := wA Try.prog n0 26 none F55.c4
noncomputable def F55.p5 (n0 : Nat) : WP := wA Try.prog n0 26 none F55.c5
noncomputable def F55.t0 (n0 : Nat) (B1 : WP) (B5 : WP) (n0_2 f1 : Value) (ds : List Nat) (h : H) (K : KP) : Prop :=
  Lp [1, 5, 6] B1 [(1, f1), (5, (.int .i64 0)), (6, n0_2)] ds h (KBlk [5] 0 (KSeq [5] B5 K))
theorem F55.g0 {n0 : Nat} (B1 : WP) (B5 : WP) (n0_2 f1 : Value) {ds : List Nat} {h : H} {K : KP} : wA Try.prog n0 26 none (.seq [0, 1] F55.c0.fst (.seq [1, 5, 6] F55.c0.snd.fst (.seq [5] (.block [5] 0 (.loop [1, 5, 6] (.sub B1))) (.sub B5)))) [(0, n0_2), (1, f1)] ds h K = F55.t0 n0 B1 B5 n0_2 f1 ds h K := by kernel_rfl
theorem F55.s0 {n0 : Nat} : F55.p0 n0 = wA Try.prog n0 26 none (.seq [0, 1] F55.c0.fst (.seq [1, 5, 6] F55.c0.snd.fst (.seq [5] (.block [5] 0 (.loop [1, 5, 6] (.sub (F55.p1 n0)))) (.sub (F55.p5 n0))))) := by kernel_rfl
theorem F55.e0 {n0 : Nat} {n0_2 f1 : Value} {ds : List Nat} {h : H} {K : KP} : F55.p0 n0 [(0, n0_2), (1, f1)] ds h K = F55.t0 n0 (F55.p1 n0) (F55.p5 n0) n0_2 f1 ds h K :=
  wchain (F55.s0) (F55.g0 (F55.p1 n0) (F55.p5 n0) n0_2 f1)
theorem F55.k0 : F55.c0.ok = true := by kernel_rfl
theorem F55.d0 {n0 : Nat} : F55.p0 n0 = wA Try.prog n0 26 none F55.c0 := by kernel_rfl
theorem F55.m0 (n0 : Nat) : MonoW (F55.p0 n0) := @mono_c Try.prog n0 26 none F55.c0 (F55.p0 n0) (F55.d0) F55.k0
noncomputable def F55.t1 (n0 : Nat) (B2 : WP) (f1 i5 j6 : Value) (ds : List Nat) (h : H) (K : KP) : Prop :=
  Bnd (aBin Try.prog false .lss 3 i5 j6) fun t11 =>
  Cnd t11
   (B2 [(1, f1), (5, i5), (6, j6)] ds h K)
   (K (.exit 0) [(1, f1), (5, i5), (6, j6)] ds h)
theorem F55.g1 {n0 : Nat} (B2 : WP) (f1 i5 j6 : Value) {ds : List Nat} {h : H} {K : KP} : wA Try.prog n0 26 none (.seq [1, 5, 6] F55.c1.fst (.sub B2)) [(1, f1), (5, i5), (6, j6)] ds h K = F55.t1 n0 B2 f1 i5 j6 ds h K := by kernel_rfl
theorem F55.s1 {n0 : Nat} : F55.p1 n0 = wA Try.prog n0 26 none (.seq [1, 5, 6] F55.c1.fst (.sub (F55.p2 n0))) := by kernel_rfl
theorem F55.e1 {n0 : Nat} {f1 i5 j6 : Value} {ds : List Nat} {h : H} {K : KP} : F55.p1 n0 [(1, f1), (5, i5), (6, j6)] ds h K = F55.t1 n0 (F55.p2 n0) f1 i5 j6 ds h K :=
  wchain (F55.s1) (F55.g1 (F55.p2 n0) f1 i5 j6)
theorem F55.k1 : F55.c1.ok = true := by kernel_rfl
theorem F55.d1 {n0 : Nat} : F55.p1 n0 = wA Try.prog n0 26 none F55.c1 := by kernel_rfl
theorem F55.m1 (n0 : Nat) : MonoW (F55.p1 n0) := @mono_c Try.prog n0 26 none F55.c1 (F55.p1 n0) (F55.d1) F55.k1
noncomputable def F55.t2 (n0 : Nat) (B3 : WP) (B4 : WP) (f1 i5 j6 : Value) (ds : List Nat) (h : H) (K : KP) : Prop :=
  Bnd (aBin Try.prog false .add 3 i5 j6) fun t14 =>
  Bnd2 (cvt Try.prog 3 61 t14 h) fun t15 h1 =>
  Bnd (aBin Try.prog true .shr 61 t15 (.int .u64 1)) fun t16 =>
  Bnd2 (cvt Try.prog 61 3 t16 h1) fun t17 h2 =>
  CallV Try.prog n0 f1 [t17] h2 fun t20 h3 =>
  Bnd (aUn .not t20) fun t21 =>
  Cnd t21
   (B3 [(1, f1), (5, i5), (6, j6), (7, t17)] ds h3 (KBlk [1, 5, 6] 1 K))
   (B4 [(1, f1), (5, i5), (6, j6), (7, t17)] ds h3 (KBlk [1, 5, 6] 1 K))
theorem F55.g2 {n0 : Nat} (B3 : WP) (B4 : WP) (f1 i5 j6 : Value) {ds : List Nat} {h : H} {K : KP} : wA Try.prog n0 26 none (.block [1, 5, 6] 1 (.seq [1, 5, 6, 7] F55.c2.fst.fst (.seq [1, 5, 6, 7, 21] F55.c2.fst.snd.fst (.cond [1, 5, 6, 7] (.tmp 21) (.sub B3) (.sub B4))))) [(1, f1), (5, i5), (6, j6)] ds h K = F55.t2 n0 B3 B4 f1 i5 j6 ds h K := by kernel_rfl
theorem F55.s2 {n0 : Nat} : F55.p2 n0 = wA Try.prog n0 26 none (.block [1, 5, 6] 1 (.seq [1, 5, 6, 7] F55.c2.fst.fst (.seq [1, 5, 6, 7, 21] F55.c2.fst.snd.fst (.cond [1, 5, 6, 7] (.tmp 21) (.sub (F55.p3 n0)) (.sub (F55.p4 n0)))))) := by kernel_rfl
theorem F55.e2 {n0 : Nat} {f1 i5 j6 : Value} {ds : List Nat} {h : H} {K : KP} : F55.p2 n0 [(1, f1), (5, i5), (6, j6)] ds h K = F55.t2 n0 (F55.p3 n0) (F55.p4 n0) f1 i5 j6 ds h K :=
  wchain (F55.s2) (F55.g2 (F55.p3 n0) (F55.p4 n0) f1 i5 j6)
noncomputable def F55.t3 (n0 : Nat) (f1 i5 j6 h7 : Value) (ds : List Nat) (h : H) (K : KP) : Prop :=
  Bnd (aBin Try.prog true .add 3 h7 (.int .i64 1)) fun t23 =>
  K .normal [(1, f1), (5, t23), (6, j6), (7, h7), (22, h7), (23, t23)] ds h
theorem F55.g3 {n0 : Nat} (f1 i5 j6 h7 : Value) {ds : List Nat} {h : H} {K : KP} : wA Try.prog n0 26 none F55.c3 [(1, f1), (5, i5), (6, j6), (7, h7)] ds h K = F55.t3 n0 f1 i5 j6 h7 ds h K := by kernel_rfl
theorem F55.s3 {n0 : Nat} : F55.p3 n0 = wA Try.prog n0 26 none F55.c3 := by kernel_rfl
theorem F55.e3 {n0 : Nat} {f1 i5 j6 h7 : Value} {ds : List Nat} {h : H} {K : KP} : F55.p3 n0 [(1, f1), (5, i5), (6, j6), (7, h7)] ds h K = F55.t3 n0 f1 i5 j6 h7 ds h K :=
  wchain (F55.s3) (F55.g3 f1 i5 j6 h7)
noncomputable def F55.t4 (n0 : Nat) (f1 i5 j6 h7 : Value) (ds : List Nat) (h : H) (K : KP) : Prop :=
  K .normal [(1, f1), (5, i5), (6, h7), (7, h7), (24, h7)] ds h
theorem F55.g4 {n0 : Nat} (f1 i5 j6 h7 : Value) {ds : List Nat} {h : H} {K : KP} : wA Try.prog n0 26 none F55.c4 [(1, f1), (5, i5), (6, j6), (7, h7)] ds h K = F55.t4 n0 f1 i5 j6 h7 ds h K := by kernel_rfl
theorem F55.s4 {n0 : Nat} : F55.p4 n0 = wA Try.prog n0 26 none F55.c4 := by kernel_rfl
theorem F55.e4 {n0 : Nat} {f1 i5 j6 h7 : Value} {ds : List Nat} {h : H} {K : KP} : F55.p4 n0 [(1, f1), (5, i5), (6, j6), (7, h7)] ds h K = F55.t4 n0 f1 i5 j6 h7 ds h K :=
  wchain (F55.s4) (F55.g4 f1 i5 j6 h7)
noncomputable def F55.t5 (n0 : Nat) (i5 : Value) (ds : List Nat) (h : H) (K : KP) : Prop :=
  K .ret [(4, i5)] ds h
theorem F55.g5 {n0 : Nat} (i5 : Value) {ds : List Nat} {h : H} {K : KP} : wA Try.prog n0 26 none F55.c5 [(5, i5)] ds h K = F55.t5 n0 i5 ds h K := by kernel_rfl
theorem F55.s5 {n0 : Nat} : F55.p5 n0 = wA Try.prog n0 26 none F55.c5 := by kernel_rfl
theorem F55.e5 {n0 : Nat} {i5 : Value} {ds : List Nat} {h : H} {K : KP} : F55.p5 n0 [(5, i5)] ds h K = F55.t5 n0 i5 ds h K :=
  wchain (F55.s5) (F55.g5 i5)
theorem F55.b : Try.f55.body = some F55.c0.erase := by kernel_rfl
theorem F55.b2 : (Try.f55.name == "runtime.NumGoroutine") = false := by kernel_rfl
theorem F55.b3 : Try.f55.ntmps = 26 := by kernel_rfl
theorem F55.b4 : Try.f55.results.toList = [.tmp 4] := by kernel_rfl
theorem F55.enter {n0 : Nat} {x0 x1 : Value} {h : H} {Q : Value → H → Prop} (w : F55.p0 n0 [(0, x0), (1, x1)] [] h (KFin Try.prog [.tmp 4] Q)) : Cn Try.prog n0 (.func 55) [x0, x1] h Q :=
  @fn_enter Try.prog n0 mixed 55 Try.f55 F55.c0 [x0, x1] h Q Try.func55 F55.b F55.k0 F55.b2 26 F55.b3 [.tmp 4] F55.b4 (by simp) [(0, x0), (1, x1)] rfl (wback F55.d0 w)

/-! roster.idlist.seek$1 -/
noncomputable def F56.ac : AC := (ann (bodyOf Try.f56) [[0, 1, 2, 3], [5]]).1
noncomputable def F56.c0 : AC := F56.ac
noncomputable def F56.p0 (n0 : Nat) : WP := wA Try.prog n0 14 none F56.c0
noncomputable def F56.t0 (n0 : Nat) (i0 t1 t2 t3 : Value) (ds : List Nat) (h : H) (K : KP) : Prop :=
  Bnd (aLoad Try.prog 22 t1 h) fun t6 =>
  Bnd (aLoad Try.prog 3 t2 h) fun t7 =>
  Bnd (aBin Try.prog false .add 3 t7 i0) fun t9 =>
  Bnd (aIndexAddr Try.prog 22 t6 t9) fun t10 =>
  Bnd (aLoad Try.prog 23 t10 h) fun t11 =>
  Bnd (aLoad Try.prog 23 t3 h) fun t12 =>
  Bnd (aBin Try.prog false .geq 23 t11 t12) fun t13 =>
  K .ret [(5, t13)] ds h
theorem F56.g0 {n0 : Nat} (i0 t1 t2 t3 : Value) {ds : List Nat} {h : H} {K : KP} : wA Try.prog n0 14 none F56.c0 [(0, i0), (1, t1), (2, t2), (3, t3)] ds h K = F56.t0 n0 i0 t1 t2 t3 ds h K := by kernel_rfl
theorem F56.s0 {n0 : Nat} : F56.p0 n0 = wA Try.prog n0 14 none F56.c0 := by kernel_rfl
theorem F56.e0 {n0 : Nat} {i0 t1 t2 t3 : Value} {ds : List Nat} {h : H} {K : KP} : F56.p0 n0 [(0, i0), (1, t1), (2, t2), (3, t3)] ds h K = F56.t0 n0 i0 t1 t2 t3 ds h K :=
  wchain (F56.s0) (F56.g0 i0 t1 t2 t3)
theorem F56.k0 : F56.c0.ok = true := by kernel_rfl
theorem F56.d0 {n0 : Nat} : F56.p0 n0 = wA Try.prog n0 14 none F56.c0 := by kernel_rfl
theorem F56.m0 (n0 : Nat) : MonoW (F56.p0 n0) := @mono_c Try.prog n0 14 none F56.c0 (F56.p0 n0) (F56.d0) F56.k0
theorem F56.b : Try.f56.body = some F56.c0.erase := by kernel_rfl
theorem F56.b2 : (Try.f56.name == "runtime.NumGoroutine") = false := by kernel_rfl
theorem F56.b3 : Try.f56.ntmps = 14 := by kernel_rfl
theorem F56.b4 : Try.f56.results.toList = [.tmp 5] := by kernel_rfl
theorem F56.enter {n0 : Nat} {x0 x1 x2 x3 : Value} {h : H} {Q : Value → H → Prop} (w : F56.p0 n0 [(0, x0), (1, x1), (2, x2), (3, x3)] [] h (KFin Try.prog [.tmp 5] Q)) : Cn Try.prog n0 (.func 56) [x0, x1, x2, x3] h Q :=
  @fn_enter Try.prog n0 mixed 56 Try.f56 F56.c0 [x0, x1, x2, x3] h Q Try.func56 F56.b F56.k0 F56.b2 14 F56.b3 [.tmp 5] F56.b4 (by simp) [(0, x0), (1, x1), (2, x2), (3, x3)] rfl (wback F56.d0 w)

/-! roster.idlist.Right -/
noncomputable def F31.ac : AC := (ann (bodyOf Try.f31) [[0], [], [0, 3], [], [0, 3], [0, 3], [0, 3, 7], [0, 3], [0, 3], [0, 3], [0, 3, 19], [0, 3], [2], [2]]).1
noncomputable def F31.c0 : AC := F31.ac
noncomputable def F31.c1 : AC := F31.ac.snd.fst.snd.fst.fst
noncomputable def F31.c2 : AC := F31.ac.snd.fst.snd.fst.fst.snd
noncomputable def F31.c3 : AC := F31.ac.snd.fst.snd.fst.fst.snd.fst.fst.snd.fst
noncomputable def F31.c4 : AC := F31.ac.snd.fst.snd.fst.fst.snd.snd
noncomputable def F31.c5 : AC := F31.ac.snd.snd
noncomputable def F31.p0 (n0 : Nat) : WP := wA Try.prog n0 20 none F31.c0
noncomputable def F31.p1 (n0 : Nat) : WP := wA Try.prog n0 20 none F31.c1
noncomputable def F31.p2 (n0 : Nat) : WP := wA Try.prog n0 20 none F31.c2
noncomputable def F31.p3 (n0 : Nat) : WP := wA Try.prog n0 20 none F31.c3
noncomputable def F31.p4 (n0 : Nat) : WP := wA Try.prog n0 20 none F31.c4
noncomputable def F31.p5 (n0 : Nat) : WP := wA Try.prog n0 20 none F31.c5
noncomputable def F31.t0 (n0 : Nat) (B1 : WP) (B5 : WP) (l0 : Value) (ds : List Nat) (h : H) (K : KP) : Prop :=
  Lp [0, 3] B1 [(0, l0), (3, (.int .i64 1))] ds h (KBlk [] 0 (KSeq [] B5 K))
theorem F31.g0 {n0 : Nat} (B1 : WP) (B5 : WP) (l0 : Value) {ds : List Nat} {h : H} {K : KP} : wA Try.prog n0 20 none (.seq [0] F31.c0.fst (.seq [] (.seq [0, 3] F31.c0.snd.fst.fst (.block [] 0 (.loop [0, 3] (.sub B1)))) (.sub B5))) [(0, l0)] ds h K = F31.t0 n0 B1 B5 l0 ds h K := by kernel_rfl
theorem F31.s0 {n0 : Nat} : F31.p0 n0 = wA Try.prog n0 20 none (.seq [0] F31.c0.fst (.seq [] (.seq [0, 3] F31.c0.snd.fst.fst (.block [] 0 (.loop [0, 3] (.sub (F31.p1 n0))))) (.sub (F31.p5 n0)))) := by kernel_rfl
theorem F31.e0 {n0 : Nat} {l0 : Value} {ds : List Nat} {h : H} {K : KP} : F31.p0 n0 [(0, l0)] ds h K = F31.t0 n0 (F31.p1 n0) (F31.p5 n0) l0 ds h K :=
  wchain (F31.s0) (F31.g0 (F31.p1 n0) (F31.p5 n0) l0)
theorem F31.k0 : F31.c0.ok = true := by kernel_rfl
theorem F31.d0 {n0 : Nat} : F31.p0 n0 = wA Try.prog n0 20 none F31.c0 := by kernel_rfl
theorem F31.m0 (n0 : Nat) : MonoW (F31.p0 n0) := @mono_c Try.prog n0 20 none F31.c0 (F31.p0 n0) (F31.d0) F31.k0
noncomputable def F31.t1 (n0 : Nat) (B2 : WP) (l0 i3 : Value) (ds : List Nat) (h : H) (K : KP) : Prop :=
  Bnd2 (aBuiltin Try.prog .len #[22] [l0] h) fun t6 h1 =>
  Bnd (aBin Try.prog false .lss 3 i3 t6) fun t7 =>
  Cnd t7
   (B2 [(0, l0), (3, i3)] ds h1 K)
   (K (.exit 0) [(0, l0), (3, i3)] ds h1)
theorem F31.g1 {n0 : Nat} (B2 : WP) (l0 i3 : Value) {ds : List Nat} {h : H} {K : KP} : wA Try.prog n0 20 none (.seq [0, 3] F31.c1.fst (.sub B2)) [(0, l0), (3, i3)] ds h K = F31.t1 n0 B2 l0 i3 ds h K := by kernel_rfl
theorem F31.s1 {n0 : Nat} : F31.p1 n0 = wA Try.prog n0 20 none (.seq [0, 3] F31.c1.fst (.sub (F31.p2 n0))) := by kernel_rfl
theorem F31.e1 {n0 : Nat} {l0 i3 : Value} {ds : List Nat} {h : H} {K : KP} : F31.p1 n0 [(0, l0), (3, i3)] ds h K = F31.t1 n0 (F31.p2 n0) l0 i3 ds h K :=
  wchain (F31.s1) (F31.g1 (F31.p2 n0) l0 i3)
theorem F31.k1 : F31.c1.ok = true := by kernel_rfl
theorem F31.d1 {n0 : Nat} : F31.p1 n0 = wA Try.prog n0 20 none F31.c1 := by kernel_rfl
theorem F31.m1 (n0 : Nat) : MonoW (F31.p1 n0) := @mono_c Try.prog n0 20 none F31.c1 (F31.p1 n0) (F31.d1) F31.k1
noncomputable def F31.t2 (n0 : Nat) (B3 : WP) (B4 : WP) (l0 i3 : Value) (ds : List Nat) (h : H) (K : KP) : Prop :=
  Bnd (aBin Try.prog true .sub 3 i3 (.int .i64 1)) fun t12 =>
  Bnd (aIndexAddr Try.prog 22 l0 t12) fun t13 =>
  Bnd (aLoad Try.prog 23 t13 h) fun t14 =>
  Bnd (aIndexAddr Try.prog 22 l0 i3) fun t17 =>
  Bnd (aLoad Try.prog 23 t17 h) fun t18 =>
  Bnd (aBin Try.prog false .geq 23 t14 t18) fun t19 =>
  Cnd t19
   (B3 [(0, l0), (3, i3)] ds h (KBlk [0, 3] 1 (KSeq [0, 3] B4 K)))
   (B4 [(0, l0), (3, i3)] ds h K)
theorem F31.g2 {n0 : Nat} (B3 : WP) (B4 : WP) (l0 i3 : Value) {ds : List Nat} {h : H} {K : KP} : wA Try.prog n0 20 none (.seq [0, 3] (.block [0, 3] 1 (.seq [0, 3, 19] F31.c2.fst.fst.fst (.cond [0, 3] (.tmp 19) (.sub B3) F31.c2.fst.fst.snd.snd))) (.sub B4)) [(0, l0), (3, i3)] ds h K = F31.t2 n0 B3 B4 l0 i3 ds h K := by kernel_rfl
theorem F31.s2 {n0 : Nat} : F31.p2 n0 = wA Try.prog n0 20 none (.seq [0, 3] (.block [0, 3] 1 (.seq [0, 3, 19] F31.c2.fst.fst.fst (.cond [0, 3] (.tmp 19) (.sub (F31.p3 n0)) F31.c2.fst.fst.snd.snd))) (.sub (F31.p4 n0))) := by kernel_rfl
theorem F31.e2 {n0 : Nat} {l0 i3 : Value} {ds : List Nat} {h : H} {K : KP} : F31.p2 n0 [(0, l0), (3, i3)] ds h K = F31.t2 n0 (F31.p3 n0) (F31.p4 n0) l0 i3 ds h K :=
  wchain (F31.s2) (F31.g2 (F31.p3 n0) (F31.p4 n0) l0 i3)
noncomputable def F31.t3 (n0 : Nat) (l0 i3 : Value) (ds : List Nat) (h : H) (K : KP) : Prop :=
  K .ret [(2, (.bool false))] ds h
theorem F31.g3 {n0 : Nat} (l0 i3 : Value) {ds : List Nat} {h : H} {K : KP} : wA Try.prog n0 20 none F31.c3 [(0, l0), (3, i3)] ds h K = F31.t3 n0 l0 i3 ds h K := by kernel_rfl
theorem F31.s3 {n0 : Nat} : F31.p3 n0 = wA Try.prog n0 20 none F31.c3 := by kernel_rfl
theorem F31.e3 {n0 : Nat} {l0 i3 : Value} {ds : List Nat} {h : H} {K : KP} : F31.p3 n0 [(0, l0), (3, i3)] ds h K = F31.t3 n0 l0 i3 ds h K :=
  wchain (F31.s3) (F31.g3 l0 i3)
noncomputable def F31.t4 (n0 : Nat) (l0 i3 : Value) (ds : List Nat) (h : H) (K : KP) : Prop :=
  Bnd (aBin Try.prog true .add 3 i3 (.int .i64 1)) fun t9 =>
  K .normal [(0, l0), (3, t9), (8, i3), (9, t9)] ds h
theorem F31.g4 {n0 : Nat} (l0 i3 : Value) {ds : List Nat} {h : H} {K : KP} : wA Try.prog n0 20 none F31.c4 [(0, l0), (3, i3)] ds h K = F31.t4 n0 l0 i3 ds h K := by kernel_rfl
theorem F31.s4 {n0 : Nat} : F31.p4 n0 = wA Try.prog n0 20 none F31.c4 := by kernel_rfl
theorem F31.e4 {n0 : Nat} {l0 i3 : Value} {ds : List Nat} {h : H} {K : KP} : F31.p4 n0 [(0, l0), (3, i3)] ds h K = F31.t4 n0 l0 i3 ds h K :=
  wchain (F31.s4) (F31.g4 l0 i3)
noncomputable def F31.t5 (n0 : Nat) (ds : List Nat) (h : H) (K : KP) : Prop :=
  K .ret [(2, (.bool true))] ds h
theorem F31.g5 {n0 : Nat} {ds : List Nat} {h : H} {K : KP} : wA Try.prog n0 20 none F31.c5 [] ds h K = F31.t5 n0  ds h K := by kernel_rfl
theorem F31.s5 {n0 : Nat} : F31.p5 n0 = wA Try.prog n0 20 none F31.c5 := by kernel_rfl
theorem F31.e5 {n0 : Nat} {ds : List Nat} {h : H} {K : KP} : F31.p5 n0 [] ds h K = F31.t5 n0  ds h K :=
  wchain (F31.s5) (F31.g5)
theorem F31.b : Try.f31.body = some F31.c0.erase := by kernel_rfl
theorem F31.b2 : (Try.f31.name == "runtime.NumGoroutine") = false := by kernel_rfl
theorem F31.b3 : Try.f31.ntmps = 20 := by kernel_rfl
theorem F31.b4 : Try.f31.results.toList = [.tmp 2] := by kernel_rfl
theorem F31.enter {n0 : Nat} {x0 : Value} {h : H} {Q : Value → H → Prop} (w : F31.p0 n0 [(0, x0)] [] h (KFin Try.prog [.tmp 2] Q)) : Cn Try.prog n0 (.func 31) [x0] h Q :=
  @fn_enter Try.prog n0 mixed 31 Try.f31 F31.c0 [x0] h Q Try.func31 F31.b F31.k0 F31.b2 20 F31.b3 [.tmp 2] F31.b4 (by simp) [(0, x0)] rfl (wback F31.d0 w)

/-! roster.rosterref04.Right -/
noncomputable def F37.ac : AC := (ann (bodyOf Try.f37) [[0], [], [0, 3], [], [0, 3], [0, 3], [0, 3, 7], [0, 3], [0, 3], [0, 3], [0, 3, 19], [0, 3], [2], [2]]).1
noncomputable def F37.c0 : AC := F37.ac
noncomputable def F37.c1 : AC := F37.ac.snd.fst.snd.fst.fst
noncomputable def F37.c2 : AC := F37.ac.snd.fst.snd.fst.fst.snd
noncomputable def F37.c3 : AC := F37.ac.snd.fst.snd.fst.fst.snd.fst.fst.snd.fst
noncomputable def F37.c4 : AC := F37.ac.snd.fst.snd.fst.fst.snd.snd
noncomputable def F37.c5 : AC := F37.ac.snd.snd
noncomputable def F37.p0 (n0 : Nat) : WP := wA Try.prog n0 20 none F37.c0
noncomputable def F37.p1 (n0 : Nat) : WP := wA Try.prog n0 20 none F37.c1
noncomputable def F37.p2 (n0 : Nat) : WP := wA Try.prog n0 20 none F37.c2
noncomputable def F37.p3 (n0 : Nat) : WP := wA Try.prog n0 20 none F37.c3
noncomputable def F37.p4 (n0 : Nat) : WP := wA Try.prog n0 20 none F37.c4
noncomputable def F37.p5 (n0 : Nat) : WP := wA Try.prog n0 20 none F37.c5
noncomputable def F37.t0 (n0 : Nat) (B1 : WP) (B5 : WP) (l0 : Value) (ds : List Nat) (h : H) (K : KP) : Prop :=
  Lp [0, 3] B1 [(0, l0), (3, (.int .i64 1))] ds h (KBlk [] 0 (KSeq [] B5 K))
theorem F37.g0 {n0 : Nat} (B1 : WP) (B5 : WP) (l0 : Value) {ds : List Nat} {h : H} {K : KP} : wA Try.prog n0 20 none (.seq [0] F37.c0.fst (.seq [] (.seq [0, 3] F37.c0.snd.fst.fst (.block [] 0 (.loop [0, 3] (.sub B1)))) (.sub B5))) [(0, l0)] ds h K = F37.t0 n0 B1 B5 l0 ds h K := by kernel_rfl
theorem F37.s0 {n0 : Nat} : F37.p0 n0 = wA Try.prog n0 20 none (.seq [0] F37.c0.fst (.seq [] (.seq [0, 3] F37.c0.snd.fst.fst (.block [] 0 (.loop [0, 3] (.sub (F37.p1 n0))))) (.sub (F37.p5 n0)))) := by kernel_rfl
theorem F37.e0 {n0 : Nat} {l0 : Value} {ds : List Nat} {h : H} {K : KP} : F37.p0 n0 [(0, l0)] ds h K = F37.t0 n0 (F37.p1 n0) (F37.p5 n0) l0 ds h K :=
  wchain (F37.s0) (F37.g0 (F37.p1 n0) (F37.p5 n0) l0)
theorem F37.k0 : F37.c0.ok = true := by kernel_rfl
theorem F37.d0 {n0 : Nat} : F37.p0 n0 = wA Try.prog n0 20 none F37.c0 := by kernel_rfl
theorem F37.m0 (n0 : Nat) : MonoW (F37.p0 n0) := @mono_c Try.prog n0 20 none F37.c0 (F37.p0 n0) (F37.d0) F37.k0
noncomputable def F37.t1 (n0 : Nat) (B2 : WP) (l0 i3 : Value) (ds : List Nat) (h : H) (K : KP) : Prop :=
  Bnd2 (aBuiltin Try.prog .len #[22] [l0] h) fun t6 h1 =>
  Bnd (aBin Try.prog false .lss 3 i3 t6) fun t7 =>
  Cnd t7
   (B2 [(0, l0), (3, i3)] ds h1 K)
   (K (.exit 0) [(0, l0), (3, i3)] ds h1)
theorem F37.g1 {n0 : Nat} (B2 : WP) (l0 i3 : Value) {ds : List Nat} {h : H} {K : KP} : wA Try.prog n0 20 none (.seq [0, 3] F37.c1.fst (.sub B2)) [(0, l0), (3, i3)] ds h K = F37.t1 n0 B2 l0 i3 ds h K := by kernel_rfl
theorem F37.s1 {n0 : Nat} : F37.p1 n0 = wA Try.prog n0 20 none (.seq [0, 3] F37.c1.fst (.sub (F37.p2 n0))) := by kernel_rfl
theorem F37.e1 {n0 : Nat} {l0 i3 : Value} {ds : List Nat} {h : H} {K : KP} : F37.p1 n0 [(0, l0), (3, i3)] ds h K = F37.t1 n0 (F37.p2 n0) l0 i3 ds h K :=
  wchain (F37.s1) (F37.g1 (F37.p2 n0) l0 i3)
theorem F37.k1 : F37.c1.ok = true := by kernel_rfl
theorem F37.d1 {n0 : Nat} : F37.p1 n0 = wA Try.prog n0 20 none F37.c1 := by kernel_rfl
theorem F37.m1 (n0 : Nat) : MonoW (F37.p1 n0) := @mono_c Try.prog n0 20 none F37.c1 (F37.p1 n0) (F37.d1) F37.k1
noncomputable def F37.t2 (n0 : Nat) (B3 : WP) (B4 : WP) (l0 i3 : Value) (ds : List Nat) (h : H) (K : KP) : Prop :=
  Bnd (aIndexAddr Try.prog 22 l0 i3) fun t12 =>
  Bnd (aLoad Try.prog 23 t12 h) fun t13 =>
  Bnd (aBin Try.prog true .sub 3 i3 (.int .i64 1)) fun t16 =>
  Bnd (aIndexAddr Try.prog 22 l0 t16) fun t17 =>
  Bnd (aLoad Try.prog 23 t17 h) fun t18 =>
  Bnd (aBin Try.prog false .leq 23 t13 t18) fun t19 =>
  Cnd t19
   (B3 [(0, l0), (3, i3)] ds h (KBlk [0, 3] 1 (KSeq [0, 3] B4 K)))
   (B4 [(0, l0), (3, i3)] ds h K)
theorem F37.g2 {n0 : Nat} (B3 : WP) (B4 : WP) (l0 i3 : Value) {ds : List Nat} {h : H} {K : KP} : wA Try.prog n0 20 none (.seq [0, 3] (.block [0, 3] 1 (.seq [0, 3, 19] F37.c2.fst.fst.fst (.cond [0, 3] (.tmp 19) (.sub B3) F37.c2.fst.fst.snd.snd))) (.sub B4)) [(0, l0), (3, i3)] ds h K = F37.t2 n0 B3 B4 l0 i3 ds h K := by kernel_rfl
theorem F37.s2 {n0 : Nat} : F37.p2 n0 = wA Try.prog n0 20 none (.seq [0, 3] (.block [0, 3] 1 (.seq [0, 3, 19] F37.c2.fst.fst.fst (.cond [0, 3] (.tmp 19) (.sub (F37.p3 n0)) F37.c2.fst.fst.snd.snd))) (.sub (F37.p4 n0))) := by kernel_rfl
theorem F37.e2 {n0 : Nat} {l0 i3 : Value} {ds : List Nat} {h : H} {K : KP} : F37.p2 n0 [(0, l0), (3, i3)] ds h K = F37.t2 n0 (F37.p3 n0) (F37.p4 n0) l0 i3 ds h K :=
  wchain (F37.s2) (F37.g2 (F37.p3 n0) (F37.p4 n0) l0 i3)
noncomputable def F37.t3 (n0 : Nat) (l0 i3 : Value) (ds : List Nat) (h : H) (K : KP) : Prop :=
  K .ret [(2, (.bool false))] ds h
theorem F37.g3 {n0 : Nat} (l0 i3 : Value) {ds : List Nat} {h : H} {K : KP} : wA Try.prog n0 20 none F37.c3 [(0, l0), (3, i3)] ds h K = F37.t3 n0 l0 i3 ds h K := by kernel_rfl
theorem F37.s3 {n0 : Nat} : F37.p3 n0 = wA Try.prog n0 20 none F37.c3 := by kernel_rfl
theorem F37.e3 {n0 : Nat} {l0 i3 : Value} {ds : List Nat} {h : H} {K : KP} : F37.p3 n0 [(0, l0), (3, i3)] ds h K = F37.t3 n0 l0 i3 ds h K :=
  wchain (F37.s3) (F37.g3 l0 i3)
noncomputable def F37.t4 (n0 : Nat) (l0 i3 : Value) (ds : List Nat) (h : H) (K : KP) : Prop :=
  Bnd (aBin Try.prog true .add 3 i3 (.int .i64 1)) fun t9 =>
  K .normal [(0, l0), (3, t9), (8, i3), (9, t9)] ds h
theorem F37.g4 {n0 : Nat} (l0 i3 : Value) {ds : List Nat} {h : H} {K : KP} : wA Try.prog n0 20 none F37.c4 [(0, l0), (3, i3)] ds h K = F37.t4 n0 l0 i3 ds h K := by kernel_rfl
theorem F37.s4 {n0 : Nat} : F37.p4 n0 = wA Try.prog n0 20 none F37.c4 := by kernel_rfl
theorem F37.e4 {n0 : Nat} {l0 i3 : Value} {ds : List Nat} {h : H} {K : KP} : F37.p4 n0 [(0, l0), (3, i3)] ds h K = F37.t4 n0 l0 i3 ds h K :=
  wchain (F37.s4) (F37.g4 l0 i3)
noncomputable def F37.t5 (n0 : Nat) (ds : List Nat) (h : H) (K : KP) : Prop :=
  K .ret [(2, (.bool true))] ds h
theorem F37.g5 {n0 : Nat} {ds : List Nat} {h : H} {K : KP} : wA Try.prog n0 20 none F37.c5 [] ds h K = F37.t5 n0  ds h K := by kernel_rfl
theorem F37.s5 {n0 : Nat} : F37.p5 n0 = wA Try.prog n0 20 none F37.c5 := by kernel_rfl
theorem F37.e5 {n0 : Nat} {ds : List Nat} {h : H} {K : KP} : F37.p5 n0 [] ds h K = F37.t5 n0  ds h K :=
  wchain (F37.s5) (F37.g5)
theorem F37.b : Try.f37.body = some F37.c0.erase := by kernel_rfl
theorem F37.b2 : (Try.f37.name == "runtime.NumGoroutine") = false := by kernel_rfl
theorem F37.b3 : Try.f37.ntmps = 20 := by kernel_rfl
theorem F37.b4 : Try.f37.results.toList = [.tmp 2] := by kernel_rfl
theorem F37.enter {n0 : Nat} {x0 : Value} {h : H} {Q : Value → H → Prop} (w : F37.p0 n0 [(0, x0)] [] h (KFin Try.prog [.tmp 2] Q)) : Cn Try.prog n0 (.func 37) [x0] h Q :=
  @fn_enter Try.prog n0 mixed 37 Try.f37 F37.c0 [x0] h Q Try.func37 F37.b F37.k0 F37.b2 20 F37.b3 [.tmp 2] F37.b4 (by simp) [(0, x0)] rfl (wback F37.d0 w)

/-! roster.rosterref04.Set -/
noncomputable def F46.ac : AC := (ann (bodyOf Try.f46) [[0], [0], [0, 7], [0], [2], [0, 3], [3, 4], [2]]).1
noncomputable def F46.c0 : AC := F46.ac
noncomputable def F46.c1 : AC := F46.ac.snd.fst.snd.fst
noncomputable def F46.c2 : AC := F46.ac.snd.snd
noncomputable def F46.p0 (n0 : Nat) : WP := wA Try.prog n0 26 none F46.c0
noncomputable def F46.p1 (n0 : Nat) : WP := wA Try.prog n0 26 none F46.c1
noncomputable def F46.p2 (n0 : Nat) : WP := wA Try.prog n0 26 none F46.c2
noncomputable def F46.t0 (n0 : Nat) (B1 : WP) (B2 : WP) (l0 : Value) (ds : List Nat) (h : H) (K : KP) : Prop :=
  Bnd2 (aBuiltin Try.prog .len #[22] [l0] h) fun t6 h1 =>
  Bnd (aBin Try.prog true .lss 3 t6 (.int .i64 2)) fun t7 =>
  Cnd t7
   (B1 [(0, l0)] ds h1 (KSeq [0] B2 K))
   (B2 [(0, l0)] ds h1 K)
theorem F46.g0 {n0 : Nat} (B1 : WP) (B2 : WP) (l0 : Value) {ds : List Nat} {h : H} {K : KP} : wA Try.prog n0 26 none (.seq [0] F46.c0.fst (.seq [0] (.seq [0, 7] F46.c0.snd.fst.fst (.cond [0] (.tmp 7) (.sub B1) F46.c0.snd.fst.snd.snd)) (.sub B2))) [(0, l0)] ds h K = F46.t0 n0 B1 B2 l0 ds h K := by kernel_rfl
theorem F46.s0 {n0 : Nat} : F46.p0 n0 = wA Try.prog n0 26 none (.seq [0] F46.c0.fst (.seq [0] (.seq [0, 7] F46.c0.snd.fst.fst (.cond [0] (.tmp 7) (.sub (F46.p1 n0)) F46.c0.snd.fst.snd.snd)) (.sub (F46.p2 n0)))) := by kernel_rfl
theorem F46.e0 {n0 : Nat} {l0 : Value} {ds : List Nat} {h : H} {K : KP} : F46.p0 n0 [(0, l0)] ds h K = F46.t0 n0 (F46.p1 n0) (F46.p2 n0) l0 ds h K :=
  wchain (F46.s0) (F46.g0 (F46.p1 n0) (F46.p2 n0) l0)
theorem F46.k0 : F46.c0.ok = true := by kernel_rfl
theorem F46.d0 {n0 : Nat} : F46.p0 n0 = wA Try.prog n0 26 none F46.c0 := by kernel_rfl
theorem F46.m0 (n0 : Nat) : MonoW (F46.p0 n0) := @mono_c Try.prog n0 26 none F46.c0 (F46.p0 n0) (F46.d0) F46.k0
noncomputable def F46.t1 (n0 : Nat) (l0 : Value) (ds : List Nat) (h : H) (K : KP) : Prop :=
  Bnd2 (aBuildSlice Try.prog 22 0 [] h) fun t8 h1 =>
  Bnd2 (aBuiltin Try.prog .append #[22, 22] [t8, l0] h1) fun t10 h2 =>
  K .ret [(2, t10)] ds h2
theorem F46.g1 {n0 : Nat} (l0 : Value) {ds : List Nat} {h : H} {K : KP} : wA Try.prog n0 26 none F46.c1 [(0, l0)] ds h K = F46.t1 n0 l0 ds h K := by kernel_rfl
theorem F46.s1 {n0 : Nat} : F46.p1 n0 = wA Try.prog n0 26 none F46.c1 := by kernel_rfl
theorem F46.e1 {n0 : Nat} {l0 : Value} {ds : List Nat} {h : H} {K : KP} : F46.p1 n0 [(0, l0)] ds h K = F46.t1 n0 l0 ds h K :=
  wchain (F46.s1) (F46.g1 l0)
noncomputable def F46.t2 (n0 : Nat) (l0 : Value) (ds : List Nat) (h : H) (K : KP) : Prop :=
  Bnd2 (aBuiltin Try.prog .len #[22] [l0] h) fun t13 h1 =>
  Bnd (aBin Try.prog true .quo 3 t13 (.int .i64 2)) fun t14 =>
  Bnd (aSlice Try.prog 22 l0 none (some t14) none h1) fun t15 =>
  Cn Try.prog n0 (.func 46) [t15] h1 fun t16 h2 =>
  Bnd2 (aBuiltin Try.prog .len #[22] [l0] h2) fun t19 h3 =>
  Bnd (aBin Try.prog true .quo 3 t19 (.int .i64 2)) fun t20 =>
  Bnd (aSlice Try.prog 22 l0 (some t20) none none h3) fun t21 =>
  Cn Try.prog n0 (.func 46) [t21] h3 fun t22 h4 =>
  Cn Try.prog n0 (.func 52) [t16, t22] h4 fun t25 h5 =>
  K .ret [(2, t25)] ds h5
theorem F46.g2 {n0 : Nat} (l0 : Value) {ds : List Nat} {h : H} {K : KP} : wA Try.prog n0 26 none F46.c2 [(0, l0)] ds h K = F46.t2 n0 l0 ds h K := by kernel_rfl
theorem F46.s2 {n0 : Nat} : F46.p2 n0 = wA Try.prog n0 26 none F46.c2 := by kernel_rfl
theorem F46.e2 {n0 : Nat} {l0 : Value} {ds : List Nat} {h : H} {K : KP} : F46.p2 n0 [(0, l0)] ds h K = F46.t2 n0 l0 ds h K :=
  wchain (F46.s2) (F46.g2 l0)
theorem F46.b : Try.f46.body = some F46.c0.erase := by kernel_rfl
theorem F46.b2 : (Try.f46.name == "runtime.NumGoroutine") = false := by kernel_rfl
theorem F46.b3 : Try.f46.ntmps = 26 := by kernel_rfl
theorem F46.b4 : Try.f46.results.toList = [.tmp 2] := by kernel_rfl
theorem F46.enter {n0 : Nat} {x0 : Value} {h : H} {Q : Value → H → Prop} (w : F46.p0 n0 [(0, x0)] [] h (KFin Try.prog [.tmp 2] Q)) : Cn Try.prog n0 (.func 46) [x0] h Q :=
  @fn_enter Try.prog n0 mixed 46 Try.f46 F46.c0 [x0] h Q Try.func46 F46.b F46.k0 F46.b2 26 F46.b3 [.tmp 2] F46.b4 (by simp) [(0, x0)] rfl (wback F46.d0 w)

/-! roster.rosterlaw04.IdlistFinds -/
noncomputable def F3.ac : AC := (ann (bodyOf Try.f3) [[0, 1, 2], [0, 1, 2, 7], [0, 1, 2, 7, 8], [6]]).1
noncomputable def F3.c0 : AC := F3.ac
noncomputable def F3.p0 (n0 : Nat) : WP := wA Try.prog n0 38 none F3.c0
noncomputable def F3.t0 (n0 : Nat) (l0 from1 id2 : Value) (ds : List Nat) (h : H) (K : KP) : Prop :=
  Cn Try.prog n0 (.func 12) [l0, from1, id2] h fun t12 h1 =>
  Cn Try.prog n0 (.func 13) [l0] h1 fun t14 h2 =>
  Cn Try.prog n0 (.func 14) [t14, from1, id2] h2 fun t18 h3 =>
  Bnd (aBin Try.prog false .eql 3 t18 t12) fun t20 =>
  Gd t20
   (Cn Try.prog n0 (.func 15) [t14, id2] h3 fun t24 h4 =>
  Cn Try.prog n0 (.func 16) [l0, id2] h4 fun t27 h5 =>
  Bnd (aBin Try.prog false .eql 4 t24 t27) fun t28 =>
  Gd t28
   (Cn Try.prog n0 (.func 17) [t14, l0] h5 fun t33 h6 =>
  Gd t33
   (Cn Try.prog n0 (.func 18) [] h6 fun t36 h7 =>
  K .ret [(6, t36)] ds h7)
   (K .ret [(6, (.bool false))] ds h6))
   (K .ret [(6, (.bool false))] ds h5))
   (K .ret [(6, (.bool false))] ds h3)
theorem F3.g0 {n0 : Nat} (l0 from1 id2 : Value) {ds : List Nat} {h : H} {K : KP} : wA Try.prog n0 38 none F3.c0 [(0, l0), (1, from1), (2, id2)] ds h K = F3.t0 n0 l0 from1 id2 ds h K := by kernel_rfl
theorem F3.s0 {n0 : Nat} : F3.p0 n0 = wA Try.prog n0 38 none F3.c0 := by kernel_rfl
theorem F3.e0 {n0 : Nat} {l0 from1 id2 : Value} {ds : List Nat} {h : H} {K : KP} : F3.p0 n0 [(0, l0), (1, from1), (2, id2)] ds h K = F3.t0 n0 l0 from1 id2 ds h K :=
  wchain (F3.s0) (F3.g0 l0 from1 id2)
theorem F3.k0 : F3.c0.ok = true := by kernel_rfl
theorem F3.d0 {n0 : Nat} : F3.p0 n0 = wA Try.prog n0 38 none F3.c0 := by kernel_rfl
theorem F3.m0 (n0 : Nat) : MonoW (F3.p0 n0) := @mono_c Try.prog n0 38 none F3.c0 (F3.p0 n0) (F3.d0) F3.k0
theorem F3.b : Try.f3.body = some F3.c0.erase := by kernel_rfl
theorem F3.b2 : (Try.f3.name == "runtime.NumGoroutine") = false := by kernel_rfl
theorem F3.b3 : Try.f3.ntmps = 38 := by kernel_rfl
theorem F3.b4 : Try.f3.results.toList = [.tmp 6] := by kernel_rfl
theorem F3.enter {n0 : Nat} {x0 x1 x2 : Value} {h : H} {Q : Value → H → Prop} (w : F3.p0 n0 [(0, x0), (1, x1), (2, x2)] [] h (KFin Try.prog [.tmp 6] Q)) : Cn Try.prog n0 (.func 3) [x0, x1, x2] h Q :=
  @fn_enter Try.prog n0 mixed 3 Try.f3 F3.c0 [x0, x1, x2] h Q Try.func3 F3.b F3.k0 F3.b2 38 F3.b3 [.tmp 6] F3.b4 (by simp) [(0, x0), (1, x1), (2, x2)] rfl (wback F3.d0 w)

/-! roster.rosterlaw04.IdlistGoes -/
noncomputable def F4.ac : AC := (ann (bodyOf Try.f4) [[0, 1, 2, 6], [0, 1, 2, 6, 7], [0, 1, 2, 6, 7, 8], [0, 1, 2, 6, 7, 8], [0, 1, 2, 6, 7, 8, 29], [0, 1, 2, 6, 7, 8], [6], [0, 1, 2, 6, 8], [0, 1, 2, 6, 7, 8, 9], [0, 1, 2, 6, 8], [0, 1, 2, 6, 7, 8, 9], [0, 1, 2, 6, 7, 8, 9], [0, 1, 2, 6, 7, 8, 9, 33], [0, 1, 2, 6, 7, 8, 9], [0, 1, 2, 6, 7, 8, 9], [0, 1, 2, 6, 7, 8, 9], [2, 6, 8, 10], [6, 8, 10, 11], [6, 8, 10, 11, 12], [6, 8, 10, 11, 12, 13], [6, 8, 10, 11], [6, 8, 10, 11, 66], [6, 8, 10, 11], [6], [6, 8, 10, 11, 14], [6, 10, 14], [6, 8, 10, 11, 14, 67], [6, 10, 14], [6, 8, 10, 11, 14, 67], [6]]).1
noncomputable def F4.rAs0 : Code := F4.ac.snd.snd.snd.snd.snd.snd.snd.snd.snd.snd.snd.fst.snd.fst.rfAs
noncomputable def F4.rBd0 : Code := F4.ac.snd.snd.snd.snd.snd.snd.snd.snd.snd.snd.snd.fst.snd.fst.rfBd
noncomputable def F4.aAs0 : AC := (ann F4.rAs0 []).1
noncomputable def F4.aBd0 : AC := (ann F4.rBd0 [[6, 8, 10, 11, 14], [6, 8, 10, 11, 14], [6, 8, 10, 11, 14, 80], [6, 8, 10, 11, 14], [6], [6, 8, 10, 11, 14], [6, 8, 10, 11, 14, 83], [6, 8, 10, 11, 14], [6, 8, 10, 11, 14, 16], [6, 8, 10, 11, 14, 92], [6, 8, 10, 11, 14], [6]]).1
noncomputable def F4.c0 : AC := F4.ac
noncomputable def F4.c1 : AC := F4.ac.snd.snd.snd.fst.snd.fst
noncomputable def F4.c2 : AC := F4.ac.snd.snd.snd.snd
noncomputable def F4.c3 : AC := F4.ac.snd.snd.snd.snd.fst.snd.fst.fst
noncomputable def F4.c4 : AC := F4.ac.snd.snd.snd.snd.fst.snd.fst.fst.snd
noncomputable def F4.c5 : AC := F4.ac.snd.snd.snd.snd.fst.snd.fst.fst.snd.snd
noncomputable def F4.c6 : AC := F4.ac.snd.snd.snd.snd.snd
noncomputable def F4.c7 : AC := F4.ac.snd.snd.snd.snd.snd.snd.snd.snd.snd.fst.snd.fst
noncomputable def F4.c8 : AC := F4.ac.snd.snd.snd.snd.snd.snd.snd.snd.snd.snd
noncomputable def F4.c9 : AC := F4.ac.snd.snd.snd.snd.snd.snd.snd.snd.snd.snd.snd.snd
noncomputable def F4.p0 (n0 : Nat) : WP := wA Try.prog n0 102 none F4.c0
noncomputable def F4.p1 (n0 : Nat) : WP := wA Try.prog n0 102 none F4.c1
noncomputable def F4.p2 (n0 : Nat) : WP := wA Try.prog n0 102 none F4.c2
noncomputable def F4.p3 (n0 : Nat) : WP := wA Try.prog n0 102 none F4.c3
noncomputable def F4.p4 (n0 : Nat) : WP := wA Try.prog n0 102 none F4.c4
noncomputable def F4.p5 (n0 : Nat) : WP := wA Try.prog n0 102 none F4.c5
noncomputable def F4.p6 (n0 : Nat) : WP := wA Try.prog n0 102 none F4.c6
noncomputable def F4.p7 (n0 : Nat) : WP := wA Try.prog n0 102 none F4.c7
noncomputable def F4.p8 (n0 : Nat) : WP := wA Try.prog n0 102 none F4.c8
noncomputable def F4.p9 (n0 : Nat) : WP := wA Try.prog n0 102 none F4.c9
noncomputable def F4.t0 (n0 : Nat) (B1 : WP) (B2 : WP) (l0 id1 most2 : Value) (ds : List Nat) (h : H) (K : KP) : Prop :=
  Nw (enc 0 4) (zc Try.prog 4) h fun t6 h1 =>
  Cn Try.prog n0 (.func 13) [l0] h1 fun t18 h2 =>
  Cn Try.prog n0 (.func 19) [t18, id1] h2 fun t21 h3 =>
  Nw (enc 0 31) (zc Try.prog 31) h3 fun each8 h4 =>
  Bnd (aStore Try.prog 31 each8 t21 h4) fun h5 =>
  Bnd (aLoad Try.prog 31 each8 h5) fun t22 =>
  Bnd (aBin Try.prog true .eql 31 t22 (.nilFunc)) fun t23 =>
  Gd t23
   (B1 [(0, l0), (1, id1), (2, most2), (6, t6), (7, t18), (8, each8)] ds h5 (KSeq [0, 1, 2, 6, 7, 8] B2 K))
   (Cn Try.prog n0 (.func 17) [t18, l0] h5 fun t27 h6 =>
  Bnd (aUn .not t27) fun t28 =>
  Cnd t28
   (B1 [(0, l0), (1, id1), (2, most2), (6, t6), (7, t18), (8, each8)] ds h6 (KSeq [0, 1, 2, 6, 7, 8] B2 K))
   (B2 [(0, l0), (1, id1), (2, most2), (6, t6), (7, t18), (8, each8)] ds h6 K))
theorem F4.g0 {n0 : Nat} (B1 : WP) (B2 : WP) (l0 id1 most2 : Value) {ds : List Nat} {h : H} {K : KP} : wA Try.prog n0 102 none (.seq [0, 1, 2, 6] F4.c0.fst (.seq [0, 1, 2, 6, 7] F4.c0.snd.fst (.seq [0, 1, 2, 6, 7, 8] F4.c0.snd.snd.fst (.seq [0, 1, 2, 6, 7, 8] (.seq [0, 1, 2, 6, 7, 8, 29] F4.c0.snd.snd.snd.fst.fst (.cond [0, 1, 2, 6, 7, 8] (.tmp 29) (.sub B1) F4.c0.snd.snd.snd.fst.snd.snd)) (.sub B2))))) [(0, l0), (1, id1), (2, most2)] ds h K = F4.t0 n0 B1 B2 l0 id1 most2 ds h K := by kernel_rfl
theorem F4.s0 {n0 : Nat} : F4.p0 n0 = wA Try.prog n0 102 none (.seq [0, 1, 2, 6] F4.c0.fst (.seq [0, 1, 2, 6, 7] F4.c0.snd.fst (.seq [0, 1, 2, 6, 7, 8] F4.c0.snd.snd.fst (.seq [0, 1, 2, 6, 7, 8] (.seq [0, 1, 2, 6, 7, 8, 29] F4.c0.snd.snd.snd.fst.fst (.cond [0, 1, 2, 6, 7, 8] (.tmp 29) (.sub (F4.p1 n0)) F4.c0.snd.snd.snd.fst.snd.snd)) (.sub (F4.p2 n0)))))) := by kernel_rfl
theorem F4.e0 {n0 : Nat} {l0 id1 most2 : Value} {ds : List Nat} {h : H} {K : KP} : F4.p0 n0 [(0, l0), (1, id1), (2, most2)] ds h K = F4.t0 n0 (F4.p1 n0) (F4.p2 n0) l0 id1 most2 ds h K :=
  wchain (F4.s0) (F4.g0 (F4.p1 n0) (F4.p2 n0) l0 id1 most2)
theorem F4.k0 : F4.c0.ok = true := by kernel_rfl
theorem F4.d0 {n0 : Nat} : F4.p0 n0 = wA Try.prog n0 102 none F4.c0 := by kernel_rfl
theorem F4.m0 (n0 : Nat) : MonoW (F4.p0 n0) := @mono_c Try.prog n0 102 none F4.c0 (F4.p0 n0) (F4.d0) F4.k0
noncomputable def F4.t1 (n0 : Nat) (l0 id1 most2 t6 x7 each8 : Value) (ds : List Nat) (h : H) (K : KP) : Prop :=
  Bnd (aStore Try.prog 4 t6 (.bool false) h) fun h1 =>
  K .ret [(6, t6)] ds h1
theorem F4.g1 {n0 : Nat} (l0 id1 most2 t6 x7 each8 : Value) {ds : List Nat} {h : H} {K : KP} : wA Try.prog n0 102 none F4.c1 [(0, l0), (1, id1), (2, most2), (6, t6), (7, x7), (8, each8)] ds h K = F4.t1 n0 l0 id1 most2 t6 x7 each8 ds h K := by kernel_rfl
theorem F4.s1 {n0 : Nat} : F4.p1 n0 = wA Try.prog n0 102 none F4.c1 := by kernel_rfl
theorem F4.e1 {n0 : Nat} {l0 id1 most2 t6 x7 each8 : Value} {ds : List Nat} {h : H} {K : KP} : F4.p1 n0 [(0, l0), (1, id1), (2, most2), (6, t6), (7, x7), (8, each8)] ds h K = F4.t1 n0 l0 id1 most2 t6 x7 each8 ds h K :=
  wchain (F4.s1) (F4.g1 l0 id1 most2 t6 x7 each8)
noncomputable def F4.t2 (n0 : Nat) (B3 : WP) (B6 : WP) (l0 id1 most2 t6 x7 each8 : Value) (ds : List Nat) (h : H) (K : KP) : Prop :=
  Lp [0, 1, 2, 6, 7, 8, 9] B3 [(0, l0), (1, id1), (2, most2), (6, t6), (7, x7), (8, each8), (9, (.int .i64 0))] ds h (KBlk [0, 1, 2, 6, 8] 0 (KSeq [0, 1, 2, 6, 8] B6 K))
theorem F4.g2 {n0 : Nat} (B3 : WP) (B6 : WP) (l0 id1 most2 t6 x7 each8 : Value) {ds : List Nat} {h : H} {K : KP} : wA Try.prog n0 102 none (.seq [0, 1, 2, 6, 8] (.seq [0, 1, 2, 6, 7, 8, 9] F4.c2.fst.fst (.block [0, 1, 2, 6, 8] 0 (.loop [0, 1, 2, 6, 7, 8, 9] (.sub B3)))) (.sub B6)) [(0, l0), (1, id1), (2, most2), (6, t6), (7, x7), (8, each8)] ds h K = F4.t2 n0 B3 B6 l0 id1 most2 t6 x7 each8 ds h K := by kernel_rfl
theorem F4.s2 {n0 : Nat} : F4.p2 n0 = wA Try.prog n0 102 none (.seq [0, 1, 2, 6, 8] (.seq [0, 1, 2, 6, 7, 8, 9] F4.c2.fst.fst (.block [0, 1, 2, 6, 8] 0 (.loop [0, 1, 2, 6, 7, 8, 9] (.sub (F4.p3 n0))))) (.sub (F4.p6 n0))) := by kernel_rfl
theorem F4.e2 {n0 : Nat} {l0 id1 most2 t6 x7 each8 : Value} {ds : List Nat} {h : H} {K : KP} : F4.p2 n0 [(0, l0), (1, id1), (2, most2), (6, t6), (7, x7), (8, each8)] ds h K = F4.t2 n0 (F4.p3 n0) (F4.p6 n0) l0 id1 most2 t6 x7 each8 ds h K :=
  wchain (F4.s2) (F4.g2 (F4.p3 n0) (F4.p6 n0) l0 id1 most2 t6 x7 each8)
noncomputable def F4.t3 (n0 : Nat) (B4 : WP) (l0 id1 most2 t6 x7 each8 i9 : Value) (ds : List Nat) (h : H) (K : KP) : Prop :=
  Bnd2 (aBuiltin Try.prog .len #[22] [x7] h) fun t32 h1 =>
  Bnd (aBin Try.prog false .lss 3 i9 t32) fun t33 =>
  Cnd t33
   (B4 [(0, l0), (1, id1), (2, most2), (6, t6), (7, x7), (8, each8), (9, i9)] ds h1 K)
   (K (.exit 0) [(0, l0), (1, id1), (2, most2), (6, t6), (7, x7), (8, each8), (9, i9)] ds h1)
theorem F4.g3 {n0 : Nat} (B4 : WP) (l0 id1 most2 t6 x7 each8 i9 : Value) {ds : List Nat} {h : H} {K : KP} : wA Try.prog n0 102 none (.seq [0, 1, 2, 6, 7, 8, 9] F4.c3.fst (.sub B4)) [(0, l0), (1, id1), (2, most2), (6, t6), (7, x7), (8, each8), (9, i9)] ds h K = F4.t3 n0 B4 l0 id1 most2 t6 x7 each8 i9 ds h K := by kernel_rfl
theorem F4.s3 {n0 : Nat} : F4.p3 n0 = wA Try.prog n0 102 none (.seq [0, 1, 2, 6, 7, 8, 9] F4.c3.fst (.sub (F4.p4 n0))) := by kernel_rfl
theorem F4.e3 {n0 : Nat} {l0 id1 most2 t6 x7 each8 i9 : Value} {ds : List Nat} {h : H} {K : KP} : F4.p3 n0 [(0, l0), (1, id1), (2, most2), (6, t6), (7, x7), (8, each8), (9, i9)] ds h K = F4.t3 n0 (F4.p4 n0) l0 id1 most2 t6 x7 each8 i9 ds h K :=
  wchain (F4.s3) (F4.g3 (F4.p4 n0) l0 id1 most2 t6 x7 each8 i9)
theorem F4.k3 : F4.c3.ok = true := by kernel_rfl
theorem F4.d3 {n0 : Nat} : F4.p3 n0 = wA Try.prog n0 102 none F4.c3 := by kernel_rfl
theorem F4.m3 (n0 : Nat) : MonoW (F4.p3 n0) := @mono_c Try.prog n0 102 none F4.c3 (F4.p3 n0) (F4.d3) F4.k3
noncomputable def F4.t4 (n0 : Nat) (B5 : WP) (l0 id1 most2 t6 x7 each8 i9 : Value) (ds : List Nat) (h : H) (K : KP) : Prop :=
  Bnd (aIndexAddr Try.prog 22 x7 i9) fun t38 =>
  Bnd (aStore Try.prog 23 t38 (.int .u64 3) h) fun h1 =>
  B5 [(0, l0), (1, id1), (2, most2), (6, t6), (7, x7), (8, each8), (9, i9)] ds h1 K
theorem F4.g4 {n0 : Nat} (B5 : WP) (l0 id1 most2 t6 x7 each8 i9 : Value) {ds : List Nat} {h : H} {K : KP} : wA Try.prog n0 102 none (.seq [0, 1, 2, 6, 7, 8, 9] F4.c4.fst (.sub B5)) [(0, l0), (1, id1), (2, most2), (6, t6), (7, x7), (8, each8), (9, i9)] ds h K = F4.t4 n0 B5 l0 id1 most2 t6 x7 each8 i9 ds h K := by kernel_rfl
theorem F4.s4 {n0 : Nat} : F4.p4 n0 = wA Try.prog n0 102 none (.seq [0, 1, 2, 6, 7, 8, 9] F4.c4.fst (.sub (F4.p5 n0))) := by kernel_rfl
theorem F4.e4 {n0 : Nat} {l0 id1 most2 t6 x7 each8 i9 : Value} {ds : List Nat} {h : H} {K : KP} : F4.p4 n0 [(0, l0), (1, id1), (2, most2), (6, t6), (7, x7), (8, each8), (9, i9)] ds h K = F4.t4 n0 (F4.p5 n0) l0 id1 most2 t6 x7 each8 i9 ds h K :=
  wchain (F4.s4) (F4.g4 (F4.p5 n0) l0 id1 most2 t6 x7 each8 i9)
noncomputable def F4.t5 (n0 : Nat) (l0 id1 most2 t6 x7 each8 i9 : Value) (ds : List Nat) (h : H) (K : KP) : Prop :=
  Bnd (aBin Try.prog true .add 3 i9 (.int .i64 1)) fun t35 =>
  K .normal [(0, l0), (1, id1), (2, most2), (6, t6), (7, x7), (8, each8), (9, t35), (34, i9), (35, t35)] ds h
theorem F4.g5 {n0 : Nat} (l0 id1 most2 t6 x7 each8 i9 : Value) {ds : List Nat} {h : H} {K : KP} : wA Try.prog n0 102 none F4.c5 [(0, l0), (1, id1), (2, most2), (6, t6), (7, x7), (8, each8), (9, i9)] ds h K = F4.t5 n0 l0 id1 most2 t6 x7 each8 i9 ds h K := by kernel_rfl
theorem F4.s5 {n0 : Nat} : F4.p5 n0 = wA Try.prog n0 102 none F4.c5 := by kernel_rfl
theorem F4.e5 {n0 : Nat} {l0 id1 most2 t6 x7 each8 i9 : Value} {ds : List Nat} {h : H} {K : KP} : F4.p5 n0 [(0, l0), (1, id1), (2, most2), (6, t6), (7, x7), (8, each8), (9, i9)] ds h K = F4.t5 n0 l0 id1 most2 t6 x7 each8 i9 ds h K :=
  wchain (F4.s5) (F4.g5 l0 id1 most2 t6 x7 each8 i9)
noncomputable def F4.t6 (n0 : Nat) (B7 : WP) (B8 : WP) (l0 id1 most2 t6 each8 : Value) (ds : List Nat) (h : H) (K : KP) : Prop :=
  Cn Try.prog n0 (.func 20) [l0, id1] h fun t41 h1 =>
  Nw (enc 0 22) (zc Try.prog 22) h1 fun want10 h2 =>
  Bnd (aStore Try.prog 22 want10 t41 h2) fun h3 =>
  Bnd2 (aBuiltin Try.prog .max #[3, 3] [most2, (.int .i64 0)] h3) fun t43 h4 =>
  Bnd (aLoad Try.prog 22 want10 h4) fun t44 =>
  Bnd2 (aBuiltin Try.prog .len #[22] [t44] h4) fun t45 h5 =>
  Bnd2 (aBuiltin Try.prog .min #[3, 3] [t43, t45] h5) fun t46 h6 =>
  Nw (enc 0 3) (zc Try.prog 3) h6 fun n11 h7 =>
  Bnd (aStore Try.prog 3 n11 t46 h7) fun h8 =>
  Bnd (aLoad Try.prog 31 each8 h8) fun t47 =>
  Bnd (aLoad Try.prog 3 n11 h8) fun t48 =>
  Cn Try.prog n0 (.func 21) [t47, t48] h8 fun t49 h9 =>
  Bnd (aLoad Try.prog 31 each8 h9) fun t50 =>
  Bnd (aLoad Try.prog 22 want10 h9) fun t51 =>
  Bnd2 (aBuiltin Try.prog .len #[22] [t51] h9) fun t52 h10 =>
  Bnd (aBin Try.prog true .add 3 t52 (.int .i64 9)) fun t53 =>
  Cn Try.prog n0 (.func 21) [t50, t53] h10 fun t54 h11 =>
  Bnd (aLoad Try.prog 22 want10 h11) fun t56 =>
  Bnd (aLoad Try.prog 3 n11 h11) fun t57 =>
  Bnd (aSlice Try.prog 22 t56 none (some t57) none h11) fun t58 =>
  Cn Try.prog n0 (.func 22) [t49, t58] h11 fun t59 h12 =>
  Bnd (aUn .not t59) fun t60 =>
  Gd t60
   (B7 [(6, t6), (8, each8), (10, want10), (11, n11)] ds h12 (KSeq [6, 8, 10, 11] B8 K))
   (Bnd (aLoad Try.prog 22 want10 h12) fun t63 =>
  Cn Try.prog n0 (.func 22) [t54, t63] h12 fun t64 h13 =>
  Bnd (aUn .not t64) fun t65 =>
  Cnd t65
   (B7 [(6, t6), (8, each8), (10, want10), (11, n11)] ds h13 (KSeq [6, 8, 10, 11] B8 K))
   (B8 [(6, t6), (8, each8), (10, want10), (11, n11)] ds h13 K))
theorem F4.g6 {n0 : Nat} (B7 : WP) (B8 : WP) (l0 id1 most2 t6 each8 : Value) {ds : List Nat} {h : H} {K : KP} : wA Try.prog n0 102 none (.seq [2, 6, 8, 10] F4.c6.fst (.seq [6, 8, 10, 11] F4.c6.snd.fst (.seq [6, 8, 10, 11, 12] F4.c6.snd.snd.fst (.seq [6, 8, 10, 11, 12, 13] F4.c6.snd.snd.snd.fst (.seq [6, 8, 10, 11] (.seq [6, 8, 10, 11, 66] F4.c6.snd.snd.snd.snd.fst.fst (.cond [6, 8, 10, 11] (.tmp 66) (.sub B7) F4.c6.snd.snd.snd.snd.fst.snd.snd)) (.sub B8)))))) [(0, l0), (1, id1), (2, most2), (6, t6), (8, each8)] ds h K = F4.t6 n0 B7 B8 l0 id1 most2 t6 each8 ds h K := by kernel_rfl
theorem F4.s6 {n0 : Nat} : F4.p6 n0 = wA Try.prog n0 102 none (.seq [2, 6, 8, 10] F4.c6.fst (.seq [6, 8, 10, 11] F4.c6.snd.fst (.seq [6, 8, 10, 11, 12] F4.c6.snd.snd.fst (.seq [6, 8, 10, 11, 12, 13] F4.c6.snd.snd.snd.fst (.seq [6, 8, 10, 11] (.seq [6, 8, 10, 11, 66] F4.c6.snd.snd.snd.snd.fst.fst (.cond [6, 8, 10, 11] (.tmp 66) (.sub (F4.p7 n0)) F4.c6.snd.snd.snd.snd.fst.snd.snd)) (.sub (F4.p8 n0))))))) := by kernel_rfl
theorem F4.e6 {n0 : Nat} {l0 id1 most2 t6 each8 : Value} {ds : List Nat} {h : H} {K : KP} : F4.p6 n0 [(0, l0), (1, id1), (2, most2), (6, t6), (8, each8)] ds h K = F4.t6 n0 (F4.p7 n0) (F4.p8 n0) l0 id1 most2 t6 each8 ds h K :=
  wchain (F4.s6) (F4.g6 (F4.p7 n0) (F4.p8 n0) l0 id1 most2 t6 each8)
noncomputable def F4.t7 (n0 : Nat) (t6 each8 want10 n11 : Value) (ds : List Nat) (h : H) (K : KP) : Prop :=
  Bnd (aStore Try.prog 4 t6 (.bool false) h) fun h1 =>
  K .ret [(6, t6)] ds h1
theorem F4.g7 {n0 : Nat} (t6 each8 want10 n11 : Value) {ds : List Nat} {h : H} {K : KP} : wA Try.prog n0 102 none F4.c7 [(6, t6), (8, each8), (10, want10), (11, n11)] ds h K = F4.t7 n0 t6 each8 want10 n11 ds h K := by kernel_rfl
theorem F4.s7 {n0 : Nat} : F4.p7 n0 = wA Try.prog n0 102 none F4.c7 := by kernel_rfl
theorem F4.e7 {n0 : Nat} {t6 each8 want10 n11 : Value} {ds : List Nat} {h : H} {K : KP} : F4.p7 n0 [(6, t6), (8, each8), (10, want10), (11, n11)] ds h K = F4.t7 n0 t6 each8 want10 n11 ds h K :=
  wchain (F4.s7) (F4.g7 t6 each8 want10 n11)
noncomputable def F4.t8 (n0 : Nat) (B9 : WP) (t6 each8 want10 n11 : Value) (ds : List Nat) (h : H) (K : KP) : Prop :=
  Nw (enc 0 3) (zc Try.prog 3) h fun k14 h1 =>
  Bnd (aStore Try.prog 3 k14 (.int .i64 0) h1) fun h2 =>
  Bnd (aLoad Try.prog 31 each8 h2) fun t67 =>
  wRange Try.prog n0 none 102 t67 #[68] F4.rAs0 F4.rBd0 [(6, t6), (8, each8), (10, want10), (11, n11), (14, k14), (67, t67)] ds h2 (KBlk [6, 10, 14] 2 (KSeq [6, 10, 14] B9 K))
theorem F4.g8 {n0 : Nat} (B9 : WP) (t6 each8 want10 n11 : Value) {ds : List Nat} {h : H} {K : KP} : wA Try.prog n0 102 none (.seq [6, 8, 10, 11, 14] F4.c8.fst (.seq [6, 10, 14] F4.c8.snd.fst (.sub B9))) [(6, t6), (8, each8), (10, want10), (11, n11)] ds h K = F4.t8 n0 B9 t6 each8 want10 n11 ds h K := by kernel_rfl
theorem F4.s8 {n0 : Nat} : F4.p8 n0 = wA Try.prog n0 102 none (.seq [6, 8, 10, 11, 14] F4.c8.fst (.seq [6, 10, 14] F4.c8.snd.fst (.sub (F4.p9 n0)))) := by kernel_rfl
theorem F4.e8 {n0 : Nat} {t6 each8 want10 n11 : Value} {ds : List Nat} {h : H} {K : KP} : F4.p8 n0 [(6, t6), (8, each8), (10, want10), (11, n11)] ds h K = F4.t8 n0 (F4.p9 n0) t6 each8 want10 n11 ds h K :=
  wchain (F4.s8) (F4.g8 (F4.p9 n0) t6 each8 want10 n11)
noncomputable def F4.t9 (n0 : Nat) (t6 want10 k14 : Value) (ds : List Nat) (h : H) (K : KP) : Prop :=
  Bnd (aLoad Try.prog 3 k14 h) fun t95 =>
  Bnd (aLoad Try.prog 22 want10 h) fun t96 =>
  Bnd2 (aBuiltin Try.prog .len #[22] [t96] h) fun t97 h1 =>
  Bnd (aBin Try.prog false .eql 3 t95 t97) fun t98 =>
  Gd t98
   (Cn Try.prog n0 (.func 18) [] h1 fun t100 h2 =>
  Bnd (aStore Try.prog 4 t6 t100 h2) fun h3 =>
  K .ret [(6, t6)] ds h3)
   (Bnd (aStore Try.prog 4 t6 (.bool false) h1) fun h2 =>
  K .ret [(6, t6)] ds h2)
theorem F4.g9 {n0 : Nat} (t6 want10 k14 : Value) {ds : List Nat} {h : H} {K : KP} : wA Try.prog n0 102 none F4.c9 [(6, t6), (10, want10), (14, k14)] ds h K = F4.t9 n0 t6 want10 k14 ds h K := by kernel_rfl
theorem F4.s9 {n0 : Nat} : F4.p9 n0 = wA Try.prog n0 102 none F4.c9 := by kernel_rfl
theorem F4.e9 {n0 : Nat} {t6 want10 k14 : Value} {ds : List Nat} {h : H} {K : KP} : F4.p9 n0 [(6, t6), (10, want10), (14, k14)] ds h K = F4.t9 n0 t6 want10 k14 ds h K :=
  wchain (F4.s9) (F4.g9 t6 want10 k14)
noncomputable def F4.c10 : AC := F4.aAs0
noncomputable def F4.p10 (n0 : Nat) (l : Nat) : WP := wA Try.prog n0 102 (some l) F4.c10
noncomputable def F4.t10 (n0 : Nat) (l : Nat) (t6 each8 want10 n11 k14 t67 t68 : Value) (ds : List Nat) (h : H) (K : KP) : Prop :=
  K .normal [(6, t6), (8, each8), (10, want10), (11, n11), (14, k14), (67, t67), (68, t68), (15, t68)] ds h
theorem F4.g10 {n0 : Nat} {l : Nat} (t6 each8 want10 n11 k14 t67 t68 : Value) {ds : List Nat} {h : H} {K : KP} : wA Try.prog n0 102 (some l) F4.c10 [(6, t6), (8, each8), (10, want10), (11, n11), (14, k14), (67, t67), (68, t68)] ds h K = F4.t10 n0 l t6 each8 want10 n11 k14 t67 t68 ds h K := by kernel_rfl
theorem F4.s10 {n0 : Nat} (l : Nat) : F4.p10 n0 l = wA Try.prog n0 102 (some l) F4.c10 := by kernel_rfl
theorem F4.e10 {n0 : Nat} {l : Nat} {t6 each8 want10 n11 k14 t67 t68 : Value} {ds : List Nat} {h : H} {K : KP} : F4.p10 n0 l [(6, t6), (8, each8), (10, want10), (11, n11), (14, k14), (67, t67), (68, t68)] ds h K = F4.t10 n0 l t6 each8 want10 n11 k14 t67 t68 ds h K :=
  wchain (F4.s10 l) (F4.g10 t6 each8 want10 n11 k14 t67 t68)
theorem F4.k10 : F4.c10.ok = true := by kernel_rfl
theorem F4.d10 {n0 : Nat} (l : Nat) : F4.p10 n0 l = wA Try.prog n0 102 (some l) F4.c10 := by kernel_rfl
theorem F4.m10 (n0 : Nat) (l : Nat) : MonoW (F4.p10 n0 l) := @mono_c Try.prog n0 102 (some l) F4.c10 (F4.p10 n0 l) (F4.d10 l) F4.k10
noncomputable def F4.c11 : AC := F4.aBd0
noncomputable def F4.c12 : AC := F4.aBd0.fst.fst.snd.fst
noncomputable def F4.c13 : AC := F4.aBd0.fst.snd
noncomputable def F4.c14 : AC := F4.aBd0.fst.snd.fst.snd.fst
noncomputable def F4.c15 : AC := F4.aBd0.fst.snd.fst.snd.fst.snd.snd.fst
noncomputable def F4.c16 : AC := F4.aBd0.fst.snd.snd
noncomputable def F4.p11 (n0 : Nat) (l : Nat) : WP := wA Try.prog n0 102 (some l) F4.c11
noncomputable def F4.p12 (n0 : Nat) (l : Nat) : WP := wA Try.prog n0 102 (some l) F4.c12
noncomputable def F4.p13 (n0 : Nat) (l : Nat) : WP := wA Try.prog n0 102 (some l) F4.c13
noncomputable def F4.p14 (n0 : Nat) (l : Nat) : WP := wA Try.prog n0 102 (some l) F4.c14
noncomputable def F4.p15 (n0 : Nat) (l : Nat) : WP := wA Try.prog n0 102 (some l) F4.c15
noncomputable def F4.p16 (n0 : Nat) (l : Nat) : WP := wA Try.prog n0 102 (some l) F4.c16
noncomputable def F4.t11 (n0 : Nat) (l : Nat) (B12 : WP) (B13 : WP) (t6 each8 want10 n11 k14 got15 : Value) (ds : List Nat) (h : H) (K : KP) : Prop :=
  Bnd (aLoad Try.prog 3 k14 h) fun t69 =>
  Bnd (aLoad Try.prog 22 want10 h) fun t70 =>
  Bnd2 (aBuiltin Try.prog .len #[22] [t70] h) fun t71 h1 =>
  Bnd (aBin Try.prog false .geq 3 t69 t71) fun t72 =>
  Gd t72
   (B12 [(6, t6), (8, each8), (10, want10), (11, n11), (14, k14)] ds h1 (KSeq [6, 8, 10, 11, 14] B13 (KBlk [6, 8, 10, 11, 14] 3 K)))
   (Bnd (aLoad Try.prog 22 want10 h1) fun t75 =>
  Bnd (aLoad Try.prog 3 k14 h1) fun t76 =>
  Bnd (aIndexAddr Try.prog 22 t75 t76) fun t77 =>
  Bnd (aLoad Try.prog 23 t77 h1) fun t78 =>
  Bnd (aBin Try.prog false .neq 23 got15 t78) fun t79 =>
  Cnd t79
   (B12 [(6, t6), (8, each8), (10, want10), (11, n11), (14, k14)] ds h1 (KSeq [6, 8, 10, 11, 14] B13 (KBlk [6, 8, 10, 11, 14] 3 K)))
   (B13 [(6, t6), (8, each8), (10, want10), (11, n11), (14, k14)] ds h1 (KBlk [6, 8, 10, 11, 14] 3 K)))
theorem F4.g11 {n0 : Nat} {l : Nat} (B12 : WP) (B13 : WP) (t6 each8 want10 n11 k14 got15 : Value) {ds : List Nat} {h : H} {K : KP} : wA Try.prog n0 102 (some l) (.block [6, 8, 10, 11, 14] 3 (.seq [6, 8, 10, 11, 14] (.seq [6, 8, 10, 11, 14, 80] F4.c11.fst.fst.fst (.cond [6, 8, 10, 11, 14] (.tmp 80) (.sub B12) F4.c11.fst.fst.snd.snd)) (.sub B13))) [(6, t6), (8, each8), (10, want10), (11, n11), (14, k14), (15, got15)] ds h K = F4.t11 n0 l B12 B13 t6 each8 want10 n11 k14 got15 ds h K := by kernel_rfl
theorem F4.s11 {n0 : Nat} (l : Nat) : F4.p11 n0 l = wA Try.prog n0 102 (some l) (.block [6, 8, 10, 11, 14] 3 (.seq [6, 8, 10, 11, 14] (.seq [6, 8, 10, 11, 14, 80] F4.c11.fst.fst.fst (.cond [6, 8, 10, 11, 14] (.tmp 80) (.sub (F4.p12 n0 l)) F4.c11.fst.fst.snd.snd)) (.sub (F4.p13 n0 l)))) := by kernel_rfl
theorem F4.e11 {n0 : Nat} {l : Nat} {t6 each8 want10 n11 k14 got15 : Value} {ds : List Nat} {h : H} {K : KP} : F4.p11 n0 l [(6, t6), (8, each8), (10, want10), (11, n11), (14, k14), (15, got15)] ds h K = F4.t11 n0 l (F4.p12 n0 l) (F4.p13 n0 l) t6 each8 want10 n11 k14 got15 ds h K :=
  wchain (F4.s11 l) (F4.g11 (F4.p12 n0 l) (F4.p13 n0 l) t6 each8 want10 n11 k14 got15)
theorem F4.k11 : F4.c11.ok = true := by kernel_rfl
theorem F4.d11 {n0 : Nat} (l : Nat) : F4.p11 n0 l = wA Try.prog n0 102 (some l) F4.c11 := by kernel_rfl
theorem F4.m11 (n0 : Nat) (l : Nat) : MonoW (F4.p11 n0 l) := @mono_c Try.prog n0 102 (some l) F4.c11 (F4.p11 n0 l) (F4.d11 l) F4.k11
noncomputable def F4.t12 (n0 : Nat) (l : Nat) (t6 each8 want10 n11 k14 : Value) (ds : List Nat) (h : H) (K : KP) : Prop :=
  Bnd (aStore Try.prog 4 t6 (.bool false) h) fun h1 =>
  K .ret [(6, t6)] ds h1
theorem F4.g12 {n0 : Nat} {l : Nat} (t6 each8 want10 n11 k14 : Value) {ds : List Nat} {h : H} {K : KP} : wA Try.prog n0 102 (some l) F4.c12 [(6, t6), (8, each8), (10, want10), (11, n11), (14, k14)] ds h K = F4.t12 n0 l t6 each8 want10 n11 k14 ds h K := by kernel_rfl
theorem F4.s12 {n0 : Nat} (l : Nat) : F4.p12 n0 l = wA Try.prog n0 102 (some l) F4.c12 := by kernel_rfl
theorem F4.e12 {n0 : Nat} {l : Nat} {t6 each8 want10 n11 k14 : Value} {ds : List Nat} {h : H} {K : KP} : F4.p12 n0 l [(6, t6), (8, each8), (10, want10), (11, n11), (14, k14)] ds h K = F4.t12 n0 l t6 each8 want10 n11 k14 ds h K :=
  wchain (F4.s12 l) (F4.g12 t6 each8 want10 n11 k14)
noncomputable def F4.t13 (n0 : Nat) (l : Nat) (B14 : WP) (B16 : WP) (t6 each8 want10 n11 k14 : Value) (ds : List Nat) (h : H) (K : KP) : Prop :=
  Bnd (aLoad Try.prog 3 k14 h) fun t81 =>
  Bnd (aLoad Try.prog 3 n11 h) fun t82 =>
  Bnd (aBin Try.prog false .eql 3 t81 t82) fun t83 =>
  Cnd t83
   (B14 [(6, t6), (8, each8), (10, want10), (11, n11), (14, k14)] ds h (KSeq [6, 8, 10, 11, 14] B16 K))
   (B16 [(6, t6), (8, each8), (10, want10), (11, n11), (14, k14)] ds h K)
theorem F4.g13 {n0 : Nat} {l : Nat} (B14 : WP) (B16 : WP) (t6 each8 want10 n11 k14 : Value) {ds : List Nat} {h : H} {K : KP} : wA Try.prog n0 102 (some l) (.seq [6, 8, 10, 11, 14] (.seq [6, 8, 10, 11, 14, 83] F4.c13.fst.fst (.cond [6, 8, 10, 11, 14] (.tmp 83) (.sub B14) F4.c13.fst.snd.snd)) (.sub B16)) [(6, t6), (8, each8), (10, want10), (11, n11), (14, k14)] ds h K = F4.t13 n0 l B14 B16 t6 each8 want10 n11 k14 ds h K := by kernel_rfl
theorem F4.s13 {n0 : Nat} (l : Nat) : F4.p13 n0 l = wA Try.prog n0 102 (some l) (.seq [6, 8, 10, 11, 14] (.seq [6, 8, 10, 11, 14, 83] F4.c13.fst.fst (.cond [6, 8, 10, 11, 14] (.tmp 83) (.sub (F4.p14 n0 l)) F4.c13.fst.snd.snd)) (.sub (F4.p16 n0 l))) := by kernel_rfl
theorem F4.e13 {n0 : Nat} {l : Nat} {t6 each8 want10 n11 k14 : Value} {ds : List Nat} {h : H} {K : KP} : F4.p13 n0 l [(6, t6), (8, each8), (10, want10), (11, n11), (14, k14)] ds h K = F4.t13 n0 l (F4.p14 n0 l) (F4.p16 n0 l) t6 each8 want10 n11 k14 ds h K :=
  wchain (F4.s13 l) (F4.g13 (F4.p14 n0 l) (F4.p16 n0 l) t6 each8 want10 n11 k14)
noncomputable def F4.t14 (n0 : Nat) (l : Nat) (B15 : WP) (t6 each8 want10 n11 k14 : Value) (ds : List Nat) (h : H) (K : KP) : Prop :=
  Bnd (aLoad Try.prog 31 each8 h) fun t84 =>
  Bnd (aLoad Try.prog 22 want10 h) fun t85 =>
  Bnd2 (aBuiltin Try.prog .len #[22] [t85] h) fun t86 h1 =>
  Bnd (aBin Try.prog true .add 3 t86 (.int .i64 9)) fun t87 =>
  Cn Try.prog n0 (.func 21) [t84, t87] h1 fun t88 h2 =>
  Bnd (aLoad Try.prog 22 want10 h2) fun t90 =>
  Cn Try.prog n0 (.func 22) [t88, t90] h2 fun t91 h3 =>
  Bnd (aUn .not t91) fun t92 =>
  Cnd t92
   (B15 [(6, t6), (8, each8), (10, want10), (11, n11), (14, k14)] ds h3 K)
   (K .normal [(6, t6), (8, each8), (10, want10), (11, n11), (14, k14)] ds h3)
theorem F4.g14 {n0 : Nat} {l : Nat} (B15 : WP) (t6 each8 want10 n11 k14 : Value) {ds : List Nat} {h : H} {K : KP} : wA Try.prog n0 102 (some l) (.seq [6, 8, 10, 11, 14, 16] F4.c14.fst (.seq [6, 8, 10, 11, 14, 92] F4.c14.snd.fst (.cond [6, 8, 10, 11, 14] (.tmp 92) (.sub B15) F4.c14.snd.snd.snd))) [(6, t6), (8, each8), (10, want10), (11, n11), (14, k14)] ds h K = F4.t14 n0 l B15 t6 each8 want10 n11 k14 ds h K := by kernel_rfl
theorem F4.s14 {n0 : Nat} (l : Nat) : F4.p14 n0 l = wA Try.prog n0 102 (some l) (.seq [6, 8, 10, 11, 14, 16] F4.c14.fst (.seq [6, 8, 10, 11, 14, 92] F4.c14.snd.fst (.cond [6, 8, 10, 11, 14] (.tmp 92) (.sub (F4.p15 n0 l)) F4.c14.snd.snd.snd))) := by kernel_rfl
theorem F4.e14 {n0 : Nat} {l : Nat} {t6 each8 want10 n11 k14 : Value} {ds : List Nat} {h : H} {K : KP} : F4.p14 n0 l [(6, t6), (8, each8), (10, want10), (11, n11), (14, k14)] ds h K = F4.t14 n0 l (F4.p15 n0 l) t6 each8 want10 n11 k14 ds h K :=
  wchain (F4.s14 l) (F4.g14 (F4.p15 n0 l) t6 each8 want10 n11 k14)
noncomputable def F4.t15 (n0 : Nat) (l : Nat) (t6 each8 want10 n11 k14 : Value) (ds : List Nat) (h : H) (K : KP) : Prop :=
  Bnd (aStore Try.prog 4 t6 (.bool false) h) fun h1 =>
  K .ret [(6, t6)] ds h1
theorem F4.g15 {n0 : Nat} {l : Nat} (t6 each8 want10 n11 k14 : Value) {ds : List Nat} {h : H} {K : KP} : wA Try.prog n0 102 (some l) F4.c15 [(6, t6), (8, each8), (10, want10), (11, n11), (14, k14)] ds h K = F4.t15 n0 l t6 each8 want10 n11 k14 ds h K := by kernel_rfl
theorem F4.s15 {n0 : Nat} (l : Nat) : F4.p15 n0 l = wA Try.prog n0 102 (some l) F4.c15 := by kernel_rfl
theorem F4.e15 {n0 : Nat} {l : Nat} {t6 each8 want10 n11 k14 : Value} {ds : List Nat} {h : H} {K : KP} : F4.p15 n0 l [(6, t6), (8, each8), (10, want10), (11, n11), (14, k14)] ds h K = F4.t15 n0 l t6 each8 want10 n11 k14 ds h K :=
  wchain (F4.s15 l) (F4.g15 t6 each8 want10 n11 k14)
noncomputable def F4.t16 (n0 : Nat) (l : Nat) (t6 each8 want10 n11 k14 : Value) (ds : List Nat) (h : H) (K : KP) : Prop :=
  Bnd (aLoad Try.prog 3 k14 h) fun t93 =>
  Bnd (aBin Try.prog true .add 3 t93 (.int .i64 1)) fun t94 =>
  Bnd (aStore Try.prog 3 k14 t94 h) fun h1 =>
  K .normal [(6, t6), (8, each8), (10, want10), (11, n11), (14, k14), (93, t93), (94, t94)] ds h1
theorem F4.g16 {n0 : Nat} {l : Nat} (t6 each8 want10 n11 k14 : Value) {ds : List Nat} {h : H} {K : KP} : wA Try.prog n0 102 (some l) F4.c16 [(6, t6), (8, each8), (10, want10), (11, n11), (14, k14)] ds h K = F4.t16 n0 l t6 each8 want10 n11 k14 ds h K := by kernel_rfl
theorem F4.s16 {n0 : Nat} (l : Nat) : F4.p16 n0 l = wA Try.prog n0 102 (some l) F4.c16 := by kernel_rfl
theorem F4.e16 {n0 : Nat} {l : Nat} {t6 each8 want10 n11 k14 : Value} {ds : List Nat} {h : H} {K : KP} : F4.p16 n0 l [(6, t6), (8, each8), (10, want10), (11, n11), (14, k14)] ds h K = F4.t16 n0 l t6 each8 want10 n11 k14 ds h K :=
  wchain (F4.s16 l) (F4.g16 t6 each8 want10 n11 k14)
theorem F4.b : Try.f4.body = some F4.c0.erase := by kernel_rfl
theorem F4.b2 : (Try.f4.name == "runtime.NumGoroutine") = false := by kernel_rfl
theorem F4.b3 : Try.f4.ntmps = 102 := by kernel_rfl
theorem F4.b4 : Try.f4.results.toList = [.cell 6 4] := by kernel_rfl
theorem F4.enter {n0 : Nat} {x0 x1 x2 : Value} {h : H} {Q : Value → H → Prop} (w : F4.p0 n0 [(0, x0), (1, x1), (2, x2)] [] h (KFin Try.prog [.cell 6 4] Q)) : Cn Try.prog n0 (.func 4) [x0, x1, x2] h Q :=
  @fn_enter Try.prog n0 mixed 4 Try.f4 F4.c0 [x0, x1, x2] h Q Try.func4 F4.b F4.k0 F4.b2 102 F4.b3 [.cell 6 4] F4.b4 (by simp) [(0, x0), (1, x1), (2, x2)] rfl (wback F4.d0 w)

/-! roster.rosterlaw04.right -/
noncomputable def F30.ac : AC := (ann (bodyOf Try.f30) [[0], [], [0, 3], [], [0, 3], [0, 3], [0, 3, 7], [0, 3], [0, 3], [0, 3], [0, 3, 19], [0, 3], [2], [2]]).1
noncomputable def F30.c0 : AC := F30.ac
noncomputable def F30.c1 : AC := F30.ac.snd.fst.snd.fst.fst
noncomputable def F30.c2 : AC := F30.ac.snd.fst.snd.fst.fst.snd
noncomputable def F30.c3 : AC := F30.ac.snd.fst.snd.fst.fst.snd.fst.fst.snd.fst
noncomputable def F30.c4 : AC := F30.ac.snd.fst.snd.fst.fst.snd.snd
noncomputable def F30.c5 : AC := F30.ac.snd.snd
noncomputable def F30.p0 (n0 : Nat) : WP := wA Try.prog n0 20 none F30.c0
noncomputable def F30.p1 (n0 : Nat) : WP := wA Try.prog n0 20 none F30.c1
noncomputable def F30.p2 (n0 : Nat) : WP := wA Try.prog n0 20 none F30.c2
noncomputable def F30.p3 (n0 : Nat) : WP := wA Try.prog n0 20 none F30.c3
noncomputable def F30.p4 (n0 : Nat) : WP := wA Try.prog n0 20 none F30.c4
noncomputable def F30.p5 (n0 : Nat) : WP := wA Try.prog n0 20 none F30.c5
noncomputable def F30.t0 (n0 : Nat) (B1 : WP) (B5 : WP) (l0 : Value) (ds : List Nat) (h : H) (K : KP) : Prop :=
  Lp [0, 3] B1 [(0, l0), (3, (.int .i64 1))] ds h (KBlk [] 0 (KSeq [] B5 K))
theorem F30.g0 {n0 : Nat} (B1 : WP) (B5 : WP) (l0 : Value) {ds : List Nat} {h : H} {K : KP} : wA Try.prog n0 20 none (.seq [0] F30.c0.fst (.seq [] (.seq [0, 3] F30.c0.snd.fst.fst (.block [] 0 (.loop [0, 3] (.sub B1)))) (.sub B5))) [(0, l0)] ds h K = F30.t0 n0 B1 B5 l0 ds h K := by kernel_rfl
theorem F30.s0 {n0 : Nat} : F30.p0 n0 = wA Try.prog n0 20 none (.seq [0] F30.c0.fst (.seq [] (.seq [0, 3] F30.c0.snd.fst.fst (.block [] 0 (.loop [0, 3] (.sub (F30.p1 n0))))) (.sub (F30.p5 n0)))) := by kernel_rfl
theorem F30.e0 {n0 : Nat} {l0 : Value} {ds : List Nat} {h : H} {K : KP} : F30.p0 n0 [(0, l0)] ds h K = F30.t0 n0 (F30.p1 n0) (F30.p5 n0) l0 ds h K :=
  wchain (F30.s0) (F30.g0 (F30.p1 n0) (F30.p5 n0) l0)
theorem F30.k0 : F30.c0.ok = true := by kernel_rfl
theorem F30.d0 {n0 : Nat} : F30.p0 n0 = wA Try.prog n0 20 none F30.c0 := by kernel_rfl
theorem F30.m0 (n0 : Nat) : MonoW (F30.p0 n0) := @mono_c Try.prog n0 20 none F30.c0 (F30.p0 n0) (F30.d0) F30.k0
noncomputable def F30.t1 (n0 : Nat) (B2 : WP) (l0 i3 : Value) (ds : List Nat) (h : H) (K : KP) : Prop :=
  Bnd2 (aBuiltin Try.prog .len #[22] [l0] h) fun t6 h1 =>
  Bnd (aBin Try.prog false .lss 3 i3 t6) fun t7 =>
  Cnd t7
   (B2 [(0, l0), (3, i3)] ds h1 K)
   (K (.exit 0) [(0, l0), (3, i3)] ds h1)
theorem F30.g1 {n0 : Nat} (B2 : WP) (l0 i3 : Value) {ds : List Nat} {h : H} {K : KP} : wA Try.prog n0 20 none (.seq [0, 3] F30.c1.fst (.sub B2)) [(0, l0), (3, i3)] ds h K = F30.t1 n0 B2 l0 i3 ds h K := by kernel_rfl
theorem F30.s1 {n0 : Nat} : F30.p1 n0 = wA Try.prog n0 20 none (.seq [0, 3] F30.c1.fst (.sub (F30.p2 n0))) := by kernel_rfl
theorem F30.e1 {n0 : Nat} {l0 i3 : Value} {ds : List Nat} {h : H} {K : KP} : F30.p1 n0 [(0, l0), (3, i3)] ds h K = F30.t1 n0 (F30.p2 n0) l0 i3 ds h K :=
  wchain (F30.s1) (F30.g1 (F30.p2 n0) l0 i3)
theorem F30.k1 : F30.c1.ok = true := by kernel_rfl
theorem F30.d1 {n0 : Nat} : F30.p1 n0 = wA Try.prog n0 20 none F30.c1 := by kernel_rfl
theorem F30.m1 (n0 : Nat) : MonoW (F30.p1 n0) := @mono_c Try.prog n0 20 none F30.c1 (F30.p1 n0) (F30.d1) F30.k1
noncomputable def F30.t2 (n0 : Nat) (B3 : WP) (B4 : WP) (l0 i3 : Value) (ds : List Nat) (h : H) (K : KP) : Prop :=
  Bnd (aIndexAddr Try.prog 22 l0 i3) fun t12 =>
  Bnd (aLoad Try.prog 23 t12 h) fun t13 =>
  Bnd (aBin Try.prog true .sub 3 i3 (.int .i64 1)) fun t16 =>
  Bnd (aIndexAddr Try.prog 22 l0 t16) fun t17 =>
  Bnd (aLoad Try.prog 23 t17 h) fun t18 =>
  Bnd (aBin Try.prog false .leq 23 t13 t18) fun t19 =>
  Cnd t19
   (B3 [(0, l0), (3, i3)] ds h (KBlk [0, 3] 1 (KSeq [0, 3] B4 K)))
   (B4 [(0, l0), (3, i3)] ds h K)
theorem F30.g2 {n0 : Nat} (B3 : WP) (B4 : WP) (l0 i3 : Value) {ds : List Nat} {h : H} {K : KP} : wA Try.prog n0 20 none (.seq [0, 3] (.block [0, 3] 1 (.seq [0, 3, 19] F30.c2.fst.fst.fst (.cond [0, 3] (.tmp 19) (.sub B3) F30.c2.fst.fst.snd.snd))) (.sub B4)) [(0, l0), (3, i3)] ds h K = F30.t2 n0 B3 B4 l0 i3 ds h K := by kernel_rfl
theorem F30.s2 {n0 : Nat} : F30.p2 n0 = wA Try.prog n0 20 none (.seq [0, 3] (.block [0, 3] 1 (.seq [0, 3, 19] F30.c2.fst.fst.fst (.cond [0, 3] (.tmp 19) (.sub (F30.p3 n0)) F30.c2.fst.fst.snd.snd))) (.sub (F30.p4 n0))) := by kernel_rfl
theorem F30.e2 {n0 : Nat} {l0 i3 : Value} {ds : List Nat} {h : H} {K : KP} : F30.p2 n0 [(0, l0), (3, i3)] ds h K = F30.t2 n0 (F30.p3 n0) (F30.p4 n0) l0 i3 ds h K :=
  wchain (F30.s2) (F30.g2 (F30.p3 n0) (F30.p4 n0) l0 i3)
noncomputable def F30.t3 (n0 : Nat) (l0 i3 : Value) (ds : List Nat) (h : H) (K : KP) : Prop :=
  K .ret [(2, (.bool false))] ds h
theorem F30.g3 {n0 : Nat} (l0 i3 : Value) {ds : List Nat} {h : H} {K : KP} : wA Try.prog n0 20 none F30.c3 [(0, l0), (3, i3)] ds h K = F30.t3 n0 l0 i3 ds h K := by kernel_rfl
theorem F30.s3 {n0 : Nat} : F30.p3 n0 = wA Try.prog n0 20 none F30.c3 := by kernel_rfl
theorem F30.e3 {n0 : Nat} {l0 i3 : Value} {ds : List Nat} {h : H} {K : KP} : F30.p3 n0 [(0, l0), (3, i3)] ds h K = F30.t3 n0 l0 i3 ds h K :=
  wchain (F30.s3) (F30.g3 l0 i3)
noncomputable def F30.t4 (n0 : Nat) (l0 i3 : Value) (ds : List Nat) (h : H) (K : KP) : Prop :=
  Bnd (aBin Try.prog true .add 3 i3 (.int .i64 1)) fun t9 =>
  K .normal [(0, l0), (3, t9), (8, i3), (9, t9)] ds h
theorem F30.g4 {n0 : Nat} (l0 i3 : Value) {ds : List Nat} {h : H} {K : KP} : wA Try.prog n0 20 none F30.c4 [(0, l0), (3, i3)] ds h K = F30.t4 n0 l0 i3 ds h K := by kernel_rfl
theorem F30.s4 {n0 : Nat} : F30.p4 n0 = wA Try.prog n0 20 none F30.c4 := by kernel_rfl
theorem F30.e4 {n0 : Nat} {l0 i3 : Value} {ds : List Nat} {h : H} {K : KP} : F30.p4 n0 [(0, l0), (3, i3)] ds h K = F30.t4 n0 l0 i3 ds h K :=
  wchain (F30.s4) (F30.g4 l0 i3)
noncomputable def F30.t5 (n0 : Nat) (ds : List Nat) (h : H) (K : KP) : Prop :=
  K .ret [(2, (.bool true))] ds h
theorem F30.g5 {n0 : Nat} {ds : List Nat} {h : H} {K : KP} : wA Try.prog n0 20 none F30.c5 [] ds h K = F30.t5 n0  ds h K := by kernel_rfl
theorem F30.s5 {n0 : Nat} : F30.p5 n0 = wA Try.prog n0 20 none F30.c5 := by kernel_rfl
theorem F30.e5 {n0 : Nat} {ds : List Nat} {h : H} {K : KP} : F30.p5 n0 [] ds h K = F30.t5 n0  ds h K :=
  wchain (F30.s5) (F30.g5)
theorem F30.b : Try.f30.body = some F30.c0.erase := by kernel_rfl
theorem F30.b2 : (Try.f30.name == "runtime.NumGoroutine") = false := by kernel_rfl
theorem F30.b3 : Try.f30.ntmps = 20 := by kernel_rfl
theorem F30.b4 : Try.f30.results.toList = [.tmp 2] := by kernel_rfl
theorem F30.enter {n0 : Nat} {x0 : Value} {h : H} {Q : Value → H → Prop} (w : F30.p0 n0 [(0, x0)] [] h (KFin Try.prog [.tmp 2] Q)) : Cn Try.prog n0 (.func 30) [x0] h Q :=
  @fn_enter Try.prog n0 mixed 30 Try.f30 F30.c0 [x0] h Q Try.func30 F30.b F30.k0 F30.b2 20 F30.b3 [.tmp 2] F30.b4 (by simp) [(0, x0)] rfl (wback F30.d0 w)

/-! roster.rosterlaw04.same -/
noncomputable def F28.ac : AC := (ann (bodyOf Try.f28) [[0, 1], [0, 1], [0, 1, 10], [0, 1], [4], [], [0, 1, 5], [], [0, 1, 5], [0, 1, 5], [0, 1, 5, 14], [0, 1, 5], [0, 1, 5], [0, 1, 5], [0, 1, 5, 25], [0, 1, 5], [4], [4]]).1
noncomputable def F28.c0 : AC := F28.ac
noncomputable def F28.c1 : AC := F28.ac.snd.fst.snd.fst
noncomputable def F28.c2 : AC := F28.ac.snd.snd
noncomputable def F28.c3 : AC := F28.ac.snd.snd.fst.snd.fst.fst
noncomputable def F28.c4 : AC := F28.ac.snd.snd.fst.snd.fst.fst.snd
noncomputable def F28.c5 : AC := F28.ac.snd.snd.fst.snd.fst.fst.snd.fst.fst.snd.fst
noncomputable def F28.c6 : AC := F28.ac.snd.snd.fst.snd.fst.fst.snd.snd
noncomputable def F28.c7 : AC := F28.ac.snd.snd.snd
noncomputable def F28.p0 (n0 : Nat) : WP := wA Try.prog n0 26 none F28.c0
noncomputable def F28.p1 (n0 : Nat) : WP := wA Try.prog n0 26 none F28.c1
noncomputable def F28.p2 (n0 : Nat) : WP := wA Try.prog n0 26 none F28.c2
noncomputable def F28.p3 (n0 : Nat) : WP := wA Try.prog n0 26 none F28.c3
noncomputable def F28.p4 (n0 : Nat) : WP := wA Try.prog n0 26 none F28.c4
noncomputable def F28.p5 (n0 : Nat) : WP := wA Try.prog n0 26 none F28.c5
noncomputable def F28.p6 (n0 : Nat) : WP := wA Try.prog n0 26 none F28.c6
noncomputable def F28.p7 (n0 : Nat) : WP := wA Try.prog n0 26 none F28.c7
noncomputable def F28.t0 (n0 : Nat) (B1 : WP) (B2 : WP) (a0 b1 : Value) (ds : List Nat) (h : H) (K : KP) : Prop :=
  Bnd2 (aBuiltin Try.prog .len #[22] [a0] h) fun t7 h1 =>
  Bnd2 (aBuiltin Try.prog .len #[22] [b1] h1) fun t9 h2 =>
  Bnd (aBin Try.prog false .neq 3 t7 t9) fun t10 =>
  Cnd t10
   (B1 [(0, a0), (1, b1)] ds h2 (KSeq [0, 1] B2 K))
   (B2 [(0, a0), (1, b1)] ds h2 K)
theorem F28.g0 {n0 : Nat} (B1 : WP) (B2 : WP) (a0 b1 : Value) {ds : List Nat} {h : H} {K : KP} : wA Try.prog n0 26 none (.seq [0, 1] F28.c0.fst (.seq [0, 1] (.seq [0, 1, 10] F28.c0.snd.fst.fst (.cond [0, 1] (.tmp 10) (.sub B1) F28.c0.snd.fst.snd.snd)) (.sub B2))) [(0, a0), (1, b1)] ds h K = F28.t0 n0 B1 B2 a0 b1 ds h K := by kernel_rfl
theorem F28.s0 {n0 : Nat} : F28.p0 n0 = wA Try.prog n0 26 none (.seq [0, 1] F28.c0.fst (.seq [0, 1] (.seq [0, 1, 10] F28.c0.snd.fst.fst (.cond [0, 1] (.tmp 10) (.sub (F28.p1 n0)) F28.c0.snd.fst.snd.snd)) (.sub (F28.p2 n0)))) := by kernel_rfl
theorem F28.e0 {n0 : Nat} {a0 b1 : Value} {ds : List Nat} {h : H} {K : KP} : F28.p0 n0 [(0, a0), (1, b1)] ds h K = F28.t0 n0 (F28.p1 n0) (F28.p2 n0) a0 b1 ds h K :=
  wchain (F28.s0) (F28.g0 (F28.p1 n0) (F28.p2 n0) a0 b1)
theorem F28.k0 : F28.c0.ok = true := by kernel_rfl
theorem F28.d0 {n0 : Nat} : F28.p0 n0 = wA Try.prog n0 26 none F28.c0 := by kernel_rfl
theorem F28.m0 (n0 : Nat) : MonoW (F28.p0 n0) := @mono_c Try.prog n0 26 none F28.c0 (F28.p0 n0) (F28.d0) F28.k0
noncomputable def F28.t1 (n0 : Nat) (a0 b1 : Value) (ds : List Nat) (h : H) (K : KP) : Prop :=
  K .ret [(4, (.bool false))] ds h
theorem F28.g1 {n0 : Nat} (a0 b1 : Value) {ds : List Nat} {h : H} {K : KP} : wA Try.prog n0 26 none F28.c1 [(0, a0), (1, b1)] ds h K = F28.t1 n0 a0 b1 ds h K := by kernel_rfl
theorem F28.s1 {n0 : Nat} : F28.p1 n0 = wA Try.prog n0 26 none F28.c1 := by kernel_rfl
theorem F28.e1 {n0 : Nat} {a0 b1 : Value} {ds : List Nat} {h : H} {K : KP} : F28.p1 n0 [(0, a0), (1, b1)] ds h K = F28.t1 n0 a0 b1 ds h K :=
  wchain (F28.s1) (F28.g1 a0 b1)
noncomputable def F28.t2 (n0 : Nat) (B3 : WP) (B7 : WP) (a0 b1 : Value) (ds : List Nat) (h : H) (K : KP) : Prop :=
  Lp [0, 1, 5] B3 [(0, a0), (1, b1), (5, (.int .i64 0))] ds h (KBlk [] 0 (KSeq [] B7 K))
theorem F28.g2 {n0 : Nat} (B3 : WP) (B7 : WP) (a0 b1 : Value) {ds : List Nat} {h : H} {K : KP} : wA Try.prog n0 26 none (.seq [] (.seq [0, 1, 5] F28.c2.fst.fst (.block [] 0 (.loop [0, 1, 5] (.sub B3)))) (.sub B7)) [(0, a0), (1, b1)] ds h K = F28.t2 n0 B3 B7 a0 b1 ds h K := by kernel_rfl
theorem F28.s2 {n0 : Nat} : F28.p2 n0 = wA Try.prog n0 26 none (.seq [] (.seq [0, 1, 5] F28.c2.fst.fst (.block [] 0 (.loop [0, 1, 5] (.sub (F28.p3 n0))))) (.sub (F28.p7 n0))) := by kernel_rfl
theorem F28.e2 {n0 : Nat} {a0 b1 : Value} {ds : List Nat} {h : H} {K : KP} : F28.p2 n0 [(0, a0), (1, b1)] ds h K = F28.t2 n0 (F28.p3 n0) (F28.p7 n0) a0 b1 ds h K :=
  wchain (F28.s2) (F28.g2 (F28.p3 n0) (F28.p7 n0) a0 b1)
noncomputable def F28.t3 (n0 : Nat) (B4 : WP) (a0 b1 i5 : Value) (ds : List Nat) (h : H) (K : KP) : Prop :=
  Bnd2 (aBuiltin Try.prog .len #[22] [a0] h) fun t13 h1 =>
  Bnd (aBin Try.prog false .lss 3 i5 t13) fun t14 =>
  Cnd t14
   (B4 [(0, a0), (1, b1), (5, i5)] ds h1 K)
   (K (.exit 0) [(0, a0), (1, b1), (5, i5)] ds h1)
theorem F28.g3 {n0 : Nat} (B4 : WP) (a0 b1 i5 : Value) {ds : List Nat} {h : H} {K : KP} : wA Try.prog n0 26 none (.seq [0, 1, 5] F28.c3.fst (.sub B4)) [(0, a0), (1, b1), (5, i5)] ds h K = F28.t3 n0 B4 a0 b1 i5 ds h K := by kernel_rfl
theorem F28.s3 {n0 : Nat} : F28.p3 n0 = wA Try.prog n0 26 none (.seq [0, 1, 5] F28.c3.fst (.sub (F28.p4 n0))) := by kernel_rfl
theorem F28.e3 {n0 : Nat} {a0 b1 i5 : Value} {ds : List Nat} {h : H} {K : KP} : F28.p3 n0 [(0, a0), (1, b1), (5, i5)] ds h K = F28.t3 n0 (F28.p4 n0) a0 b1 i5 ds h K :=
  wchain (F28.s3) (F28.g3 (F28.p4 n0) a0 b1 i5)
theorem F28.k3 : F28.c3.ok = true := by kernel_rfl
theorem F28.d3 {n0 : Nat} : F28.p3 n0 = wA Try.prog n0 26 none F28.c3 := by kernel_rfl
theorem F28.m3 (n0 : Nat) : MonoW (F28.p3 n0) := @mono_c Try.prog n0 26 none F28.c3 (F28.p3 n0) (F28.d3) F28.k3
noncomputable def F28.t4 (n0 : Nat) (B5 : WP) (B6 : WP) (a0 b1 i5 : Value) (ds : List Nat) (h : H) (K : KP) : Prop :=
  Bnd (aIndexAddr Try.prog 22 a0 i5) fun t19 =>
  Bnd (aLoad Try.prog 23 t19 h) fun t20 =>
  Bnd (aIndexAddr Try.prog 22 b1 i5) fun t23 =>
  Bnd (aLoad Try.prog 23 t23 h) fun t24 =>
  Bnd (aBin Try.prog false .neq 23 t20 t24) fun t25 =>
  Cnd t25
   (B5 [(0, a0), (1, b1), (5, i5)] ds h (KBlk [0, 1, 5] 1 (KSeq [0, 1, 5] B6 K)))
   (B6 [(0, a0), (1, b1), (5, i5)] ds h K)
theorem F28.g4 {n0 : Nat} (B5 : WP) (B6 : WP) (a0 b1 i5 : Value) {ds : List Nat} {h : H} {K : KP} : wA Try.prog n0 26 none (.seq [0, 1, 5] (.block [0, 1, 5] 1 (.seq [0, 1, 5, 25] F28.c4.fst.fst.fst (.cond [0, 1, 5] (.tmp 25) (.sub B5) F28.c4.fst.fst.snd.snd))) (.sub B6)) [(0, a0), (1, b1), (5, i5)] ds h K = F28.t4 n0 B5 B6 a0 b1 i5 ds h K := by kernel_rfl
theorem F28.s4 {n0 : Nat} : F28.p4 n0 = wA Try.prog n0 26 none (.seq [0, 1, 5] (.block [0, 1, 5] 1 (.seq [0, 1, 5, 25] F28.c4.fst.fst.fst (.cond [0, 1, 5] (.tmp 25) (.sub (F28.p5 n0)) F28.c4.fst.fst.snd.snd))) (.sub (F28.p6 n0))) := by kernel_rfl
theorem F28.e4 {n0 : Nat} {a0 b1 i5 : Value} {ds : List Nat} {h : H} {K : KP} : F28.p4 n0 [(0, a0), (1, b1), (5, i5)] ds h K = F28.t4 n0 (F28.p5 n0) (F28.p6 n0) a0 b1 i5 ds h K :=
  wchain (F28.s4) (F28.g4 (F28.p5 n0) (F28.p6 n0) a0 b1 i5)
noncomputable def F28.t5 (n0 : Nat) (a0 b1 i5 : Value) (ds : List Nat) (h : H) (K : KP) : Prop :=
  K .ret [(4, (.bool false))] ds h
theorem F28.g5 {n0 : Nat} (a0 b1 i5 : Value) {ds : List Nat} {h : H} {K : KP} : wA Try.prog n0 26 none F28.c5 [(0, a0), (1, b1), (5, i5)] ds h K = F28.t5 n0 a0 b1 i5 ds h K := by kernel_rfl
theorem F28.s5 {n0 : Nat} : F28.p5 n0 = wA Try.prog n0 26 none F28.c5 := by kernel_rfl
theorem F28.e5 {n0 : Nat} {a0 b1 i5 : Value} {ds : List Nat} {h : H} {K : KP} : F28.p5 n0 [(0, a0), (1, b1), (5, i5)] ds h K = F28.t5 n0 a0 b1 i5 ds h K :=
  wchain (F28.s5) (F28.g5 a0 b1 i5)
noncomputable def F28.t6 (n0 : Nat) (a0 b1 i5 : Value) (ds : List Nat) (h : H) (K : KP) : Prop :=
  Bnd (aBin Try.prog true .add 3 i5 (.int .i64 1)) fun t16 =>
  K .normal [(0, a0), (1, b1), (5, t16), (15, i5), (16, t16)] ds h
theorem F28.g6 {n0 : Nat} (a0 b1 i5 : Value) {ds : List Nat} {h : H} {K : KP} : wA Try.prog n0 26 none F28.c6 [(0, a0), (1, b1), (5, i5)] ds h K = F28.t6 n0 a0 b1 i5 ds h K := by kernel_rfl
theorem F28.s6 {n0 : Nat} : F28.p6 n0 = wA Try.prog n0 26 none F28.c6 := by kernel_rfl
theorem F28.e6 {n0 : Nat} {a0 b1 i5 : Value} {ds : List Nat} {h : H} {K : KP} : F28.p6 n0 [(0, a0), (1, b1), (5, i5)] ds h K = F28.t6 n0 a0 b1 i5 ds h K :=
  wchain (F28.s6) (F28.g6 a0 b1 i5)
noncomputable def F28.t7 (n0 : Nat) (ds : List Nat) (h : H) (K : KP) : Prop :=
  K .ret [(4, (.bool true))] ds h
theorem F28.g7 {n0 : Nat} {ds : List Nat} {h : H} {K : KP} : wA Try.prog n0 26 none F28.c7 [] ds h K = F28.t7 n0  ds h K := by kernel_rfl
theorem F28.s7 {n0 : Nat} : F28.p7 n0 = wA Try.prog n0 26 none F28.c7 := by kernel_rfl
theorem F28.e7 {n0 : Nat} {ds : List Nat} {h : H} {K : KP} : F28.p7 n0 [] ds h K = F28.t7 n0  ds h K :=
  wchain (F28.s7) (F28.g7)
theorem F28.b : Try.f28.body = some F28.c0.erase := by kernel_rfl
theorem F28.b2 : (Try.f28.name == "runtime.NumGoroutine") = false := by kernel_rfl
theorem F28.b3 : Try.f28.ntmps = 26 := by kernel_rfl
theorem F28.b4 : Try.f28.results.toList = [.tmp 4] := by kernel_rfl
theorem F28.enter {n0 : Nat} {x0 x1 : Value} {h : H} {Q : Value → H → Prop} (w : F28.p0 n0 [(0, x0), (1, x1)] [] h (KFin Try.prog [.tmp 4] Q)) : Cn Try.prog n0 (.func 28) [x0, x1] h Q :=
  @fn_enter Try.prog n0 mixed 28 Try.f28 F28.c0 [x0, x1] h Q Try.func28 F28.b F28.k0 F28.b2 26 F28.b3 [.tmp 4] F28.b4 (by simp) [(0, x0), (1, x1)] rfl (wback F28.d0 w)

/-! roster.idlist.Union -/
noncomputable def F29.ac : AC := (ann (bodyOf Try.f29) [[0], [0, 3], [3], [3, 6, 7, 8], [3], [3, 6, 7, 8], [3, 6, 7, 8, 9], [3, 6, 7, 8], [3, 6, 7, 8], [3, 6, 7, 8], [3, 6, 7, 8], [3, 5, 6, 7, 8], [2]]).1
noncomputable def F29.c0 : AC := F29.ac
noncomputable def F29.c1 : AC := F29.ac.snd.snd.fst.snd.fst.fst
noncomputable def F29.c2 : AC := F29.ac.snd.snd.fst.snd.fst.fst.snd.snd
noncomputable def F29.c3 : AC := F29.ac.snd.snd.fst.snd.fst.fst.snd.snd.snd
noncomputable def F29.c4 : AC := F29.ac.snd.snd.snd
noncomputable def F29.p0 (n0 : Nat) : WP := wA Try.prog n0 18 none F29.c0
noncomputable def F29.p1 (n0 : Nat) : WP := wA Try.prog n0 18 none F29.c1
noncomputable def F29.p2 (n0 : Nat) : WP := wA Try.prog n0 18 none F29.c2
noncomputable def F29.p3 (n0 : Nat) : WP := wA Try.prog n0 18 none F29.c3
noncomputable def F29.p4 (n0 : Nat) : WP := wA Try.prog n0 18 none F29.c4
noncomputable def F29.t0 (n0 : Nat) (B1 : WP) (B4 : WP) (l0 : Value) (ds : List Nat) (h : H) (K : KP) : Prop :=
  Bnd2 (aBuiltin Try.prog .len #[42] [l0] h) fun t7 h1 =>
  Lp [3, 6, 7, 8] B1 [(3, (.slice none 0 0)), (6, l0), (7, t7), (8, (.int .i64 0))] ds h1 (KBlk [3] 0 (KSeq [3] B4 K))
theorem F29.g0 {n0 : Nat} (B1 : WP) (B4 : WP) (l0 : Value) {ds : List Nat} {h : H} {K : KP} : wA Try.prog n0 18 none (.seq [0] F29.c0.fst (.seq [0, 3] F29.c0.snd.fst (.seq [3] (.seq [3, 6, 7, 8] F29.c0.snd.snd.fst.fst (.block [3] 0 (.loop [3, 6, 7, 8] (.sub B1)))) (.sub B4)))) [(0, l0)] ds h K = F29.t0 n0 B1 B4 l0 ds h K := by kernel_rfl
theorem F29.s0 {n0 : Nat} : F29.p0 n0 = wA Try.prog n0 18 none (.seq [0] F29.c0.fst (.seq [0, 3] F29.c0.snd.fst (.seq [3] (.seq [3, 6, 7, 8] F29.c0.snd.snd.fst.fst (.block [3] 0 (.loop [3, 6, 7, 8] (.sub (F29.p1 n0))))) (.sub (F29.p4 n0))))) := by kernel_rfl
theorem F29.e0 {n0 : Nat} {l0 : Value} {ds : List Nat} {h : H} {K : KP} : F29.p0 n0 [(0, l0)] ds h K = F29.t0 n0 (F29.p1 n0) (F29.p4 n0) l0 ds h K :=
  wchain (F29.s0) (F29.g0 (F29.p1 n0) (F29.p4 n0) l0)
theorem F29.k0 : F29.c0.ok = true := by kernel_rfl
theorem F29.d0 {n0 : Nat} : F29.p0 n0 = wA Try.prog n0 18 none F29.c0 := by kernel_rfl
theorem F29.m0 (n0 : Nat) : MonoW (F29.p0 n0) := @mono_c Try.prog n0 18 none F29.c0 (F29.p0 n0) (F29.d0) F29.k0
noncomputable def F29.t1 (n0 : Nat) (B2 : WP) (out3 t6 t7 t8 : Value) (ds : List Nat) (h : H) (K : KP) : Prop :=
  Bnd (aBin Try.prog false .lss 3 t8 t7) fun t9 =>
  Cnd t9
   (B2 [(3, out3), (6, t6), (7, t7), (8, t8)] ds h K)
   (K (.exit 0) [(3, out3), (6, t6), (7, t7), (8, t8)] ds h)
theorem F29.g1 {n0 : Nat} (B2 : WP) (out3 t6 t7 t8 : Value) {ds : List Nat} {h : H} {K : KP} : wA Try.prog n0 18 none (.seq [3, 6, 7, 8, 9] F29.c1.fst (.seq [3, 6, 7, 8] F29.c1.snd.fst (.sub B2))) [(3, out3), (6, t6), (7, t7), (8, t8)] ds h K = F29.t1 n0 B2 out3 t6 t7 t8 ds h K := by kernel_rfl
theorem F29.s1 {n0 : Nat} : F29.p1 n0 = wA Try.prog n0 18 none (.seq [3, 6, 7, 8, 9] F29.c1.fst (.seq [3, 6, 7, 8] F29.c1.snd.fst (.sub (F29.p2 n0)))) := by kernel_rfl
theorem F29.e1 {n0 : Nat} {out3 t6 t7 t8 : Value} {ds : List Nat} {h : H} {K : KP} : F29.p1 n0 [(3, out3), (6, t6), (7, t7), (8, t8)] ds h K = F29.t1 n0 (F29.p2 n0) out3 t6 t7 t8 ds h K :=
  wchain (F29.s1) (F29.g1 (F29.p2 n0) out3 t6 t7 t8)
theorem F29.k1 : F29.c1.ok = true := by kernel_rfl
theorem F29.d1 {n0 : Nat} : F29.p1 n0 = wA Try.prog n0 18 none F29.c1 := by kernel_rfl
theorem F29.m1 (n0 : Nat) : MonoW (F29.p1 n0) := @mono_c Try.prog n0 18 none F29.c1 (F29.p1 n0) (F29.d1) F29.k1
noncomputable def F29.t2 (n0 : Nat) (B3 : WP) (out3 t6 t7 t8 : Value) (ds : List Nat) (h : H) (K : KP) : Prop :=
  Bnd (aIndexAddr Try.prog 42 t6 t8) fun t10 =>
  Bnd (aLoad Try.prog 22 t10 h) fun t11 =>
  Cn Try.prog n0 (.func 44) [t11] h fun t14 h1 =>
  Cn Try.prog n0 (.func 51) [out3, t14] h1 fun t15 h2 =>
  B3 [(3, t15), (6, t6), (7, t7), (8, t8)] ds h2 K
theorem F29.g2 {n0 : Nat} (B3 : WP) (out3 t6 t7 t8 : Value) {ds : List Nat} {h : H} {K : KP} : wA Try.prog n0 18 none (.seq [3, 6, 7, 8] F29.c2.fst (.sub B3)) [(3, out3), (6, t6), (7, t7), (8, t8)] ds h K = F29.t2 n0 B3 out3 t6 t7 t8 ds h K := by kernel_rfl
theorem F29.s2 {n0 : Nat} : F29.p2 n0 = wA Try.prog n0 18 none (.seq [3, 6, 7, 8] F29.c2.fst (.sub (F29.p3 n0))) := by kernel_rfl
theorem F29.e2 {n0 : Nat} {out3 t6 t7 t8 : Value} {ds : List Nat} {h : H} {K : KP} : F29.p2 n0 [(3, out3), (6, t6), (7, t7), (8, t8)] ds h K = F29.t2 n0 (F29.p3 n0) out3 t6 t7 t8 ds h K :=
  wchain (F29.s2) (F29.g2 (F29.p3 n0) out3 t6 t7 t8)
noncomputable def F29.t3 (n0 : Nat) (out3 t6 t7 t8 : Value) (ds : List Nat) (h : H) (K : KP) : Prop :=
  Bnd (aBin Try.prog true .add 3 t8 (.int .i64 1)) fun t16 =>
  K .normal [(3, out3), (6, t6), (7, t7), (8, t16), (16, t16)] ds h
theorem F29.g3 {n0 : Nat} (out3 t6 t7 t8 : Value) {ds : List Nat} {h : H} {K : KP} : wA Try.prog n0 18 none F29.c3 [(3, out3), (6, t6), (7, t7), (8, t8)] ds h K = F29.t3 n0 out3 t6 t7 t8 ds h K := by kernel_rfl
theorem F29.s3 {n0 : Nat} : F29.p3 n0 = wA Try.prog n0 18 none F29.c3 := by kernel_rfl
theorem F29.e3 {n0 : Nat} {out3 t6 t7 t8 : Value} {ds : List Nat} {h : H} {K : KP} : F29.p3 n0 [(3, out3), (6, t6), (7, t7), (8, t8)] ds h K = F29.t3 n0 out3 t6 t7 t8 ds h K :=
  wchain (F29.s3) (F29.g3 out3 t6 t7 t8)
noncomputable def F29.t4 (n0 : Nat) (out3 : Value) (ds : List Nat) (h : H) (K : KP) : Prop :=
  K .ret [(2, out3)] ds h
theorem F29.g4 {n0 : Nat} (out3 : Value) {ds : List Nat} {h : H} {K : KP} : wA Try.prog n0 18 none F29.c4 [(3, out3)] ds h K = F29.t4 n0 out3 ds h K := by kernel_rfl
theorem F29.s4 {n0 : Nat} : F29.p4 n0 = wA Try.prog n0 18 none F29.c4 := by kernel_rfl
theorem F29.e4 {n0 : Nat} {out3 : Value} {ds : List Nat} {h : H} {K : KP} : F29.p4 n0 [(3, out3)] ds h K = F29.t4 n0 out3 ds h K :=
  wchain (F29.s4) (F29.g4 out3)
theorem F29.b : Try.f29.body = some F29.c0.erase := by kernel_rfl
theorem F29.b2 : (Try.f29.name == "runtime.NumGoroutine") = false := by kernel_rfl
theorem F29.b3 : Try.f29.ntmps = 18 := by kernel_rfl
theorem F29.b4 : Try.f29.results.toList = [.tmp 2] := by kernel_rfl
theorem F29.enter {n0 : Nat} {x0 : Value} {h : H} {Q : Value → H → Prop} (w : F29.p0 n0 [(0, x0)] [] h (KFin Try.prog [.tmp 2] Q)) : Cn Try.prog n0 (.func 29) [x0] h Q :=
  @fn_enter Try.prog n0 mixed 29 Try.f29 F29.c0 [x0] h Q Try.func29 F29.b F29.k0 F29.b2 18 F29.b3 [.tmp 2] F29.b4 (by simp) [(0, x0)] rfl (wback F29.d0 w)

/-! roster.idlist.both -/
noncomputable def F51.ac : AC := (ann (bodyOf Try.f51) [[0, 1], [0, 1, 5], [0, 1, 5], [0, 1, 5], [0, 1, 5], [0, 1, 5], [0, 1, 5, 21], [0, 1, 5], [0, 1, 5], [0, 1, 5, 6, 7], [0, 1, 5, 6, 7], [0, 1, 5, 6, 7, 30], [0, 1, 5, 6, 7], [0, 1, 5, 6, 7], [0, 1, 5, 6, 7, 35], [0, 1, 5, 6, 7], [1, 5], [4]]).1
noncomputable def F51.c0 : AC := F51.ac
noncomputable def F51.c1 : AC := F51.ac.snd.snd.fst.fst.fst
noncomputable def F51.c2 : AC := F51.ac.snd.snd.fst.fst.fst.snd
noncomputable def F51.c3 : AC := F51.ac.snd.snd.fst.fst.fst.snd.fst.snd.fst.snd.fst
noncomputable def F51.c4 : AC := F51.ac.snd.snd.fst.fst.fst.snd.fst.snd.snd
noncomputable def F51.c5 : AC := F51.ac.snd.snd.fst.fst.fst.snd.fst.snd.snd.fst.snd.fst
noncomputable def F51.c6 : AC := F51.ac.snd.snd.fst.fst.fst.snd.fst.snd.snd.snd
noncomputable def F51.c7 : AC := F51.ac.snd.snd.snd
noncomputable def F51.p0 (n0 : Nat) : WP := wA Try.prog n0 50 none F51.c0
noncomputable def F51.p1 (n0 : Nat) : WP := wA Try.prog n0 50 none F51.c1
noncomputable def F51.p2 (n0 : Nat) : WP := wA Try.prog n0 50 none F51.c2
noncomputable def F51.p3 (n0 : Nat) : WP := wA Try.prog n0 50 none F51.c3
noncomputable def F51.p4 (n0 : Nat) : WP := wA Try.prog n0 50 none F51.c4
noncomputable def F51.p5 (n0 : Nat) : WP := wA Try.prog n0 50 none F51.c5
noncomputable def F51.p6 (n0 : Nat) : WP := wA Try.prog n0 50 none F51.c6
noncomputable def F51.p7 (n0 : Nat) : WP := wA Try.prog n0 50 none F51.c7
noncomputable def F51.t0 (n0 : Nat) (B1 : WP) (B7 : WP) (a0 b1 : Value) (ds : List Nat) (h : H) (K : KP) : Prop :=
  Bnd2 (aBuiltin Try.prog .len #[22] [a0] h) fun t9 h1 =>
  Bnd2 (aBuiltin Try.prog .len #[22] [b1] h1) fun t11 h2 =>
  Bnd (aBin Try.prog false .add 3 t9 t11) fun t12 =>
  Bnd2 (aMakeSlice Try.prog 22 (.int .i64 0) t12 h2) fun t13 h3 =>
  Lp [0, 1, 5] B1 [(0, a0), (1, b1), (5, t13)] ds h3 (KBlk [0, 1, 5] 0 (KSeq [0, 1, 5] B7 K))
theorem F51.g0 {n0 : Nat} (B1 : WP) (B7 : WP) (a0 b1 : Value) {ds : List Nat} {h : H} {K : KP} : wA Try.prog n0 50 none (.seq [0, 1] F51.c0.fst (.seq [0, 1, 5] F51.c0.snd.fst (.seq [0, 1, 5] (.block [0, 1, 5] 0 (.loop [0, 1, 5] (.sub B1))) (.sub B7)))) [(0, a0), (1, b1)] ds h K = F51.t0 n0 B1 B7 a0 b1 ds h K := by kernel_rfl
theorem F51.s0 {n0 : Nat} : F51.p0 n0 = wA Try.prog n0 50 none (.seq [0, 1] F51.c0.fst (.seq [0, 1, 5] F51.c0.snd.fst (.seq [0, 1, 5] (.block [0, 1, 5] 0 (.loop [0, 1, 5] (.sub (F51.p1 n0)))) (.sub (F51.p7 n0))))) := by kernel_rfl
theorem F51.e0 {n0 : Nat} {a0 b1 : Value} {ds : List Nat} {h : H} {K : KP} : F51.p0 n0 [(0, a0), (1, b1)] ds h K = F51.t0 n0 (F51.p1 n0) (F51.p7 n0) a0 b1 ds h K :=
  wchain (F51.s0) (F51.g0 (F51.p1 n0) (F51.p7 n0) a0 b1)
theorem F51.k0 : F51.c0.ok = true := by kernel_rfl
theorem F51.d0 {n0 : Nat} : F51.p0 n0 = wA Try.prog n0 50 none F51.c0 := by kernel_rfl
theorem F51.m0 (n0 : Nat) : MonoW (F51.p0 n0) := @mono_c Try.prog n0 50 none F51.c0 (F51.p0 n0) (F51.d0) F51.k0
noncomputable def F51.t1 (n0 : Nat) (B2 : WP) (a0 b1 out5 : Value) (ds : List Nat) (h : H) (K : KP) : Prop :=
  Bnd2 (aBuiltin Try.prog .len #[22] [a0] h) fun t15 h1 =>
  Bnd (aBin Try.prog true .gtr 3 t15 (.int .i64 0)) fun t16 =>
  Gd t16
   (Bnd2 (aBuiltin Try.prog .len #[22] [b1] h1) fun t19 h2 =>
  Bnd (aBin Try.prog true .gtr 3 t19 (.int .i64 0)) fun t20 =>
  Cnd t20
   (B2 [(0, a0), (1, b1), (5, out5)] ds h2 K)
   (K (.exit 0) [(0, a0), (1, b1), (5, out5)] ds h2))
   (K (.exit 0) [(0, a0), (1, b1), (5, out5)] ds h1)
theorem F51.g1 {n0 : Nat} (B2 : WP) (a0 b1 out5 : Value) {ds : List Nat} {h : H} {K : KP} : wA Try.prog n0 50 none (.seq [0, 1, 5] F51.c1.fst (.sub B2)) [(0, a0), (1, b1), (5, out5)] ds h K = F51.t1 n0 B2 a0 b1 out5 ds h K := by kernel_rfl
theorem F51.s1 {n0 : Nat} : F51.p1 n0 = wA Try.prog n0 50 none (.seq [0, 1, 5] F51.c1.fst (.sub (F51.p2 n0))) := by kernel_rfl
theorem F51.e1 {n0 : Nat} {a0 b1 out5 : Value} {ds : List Nat} {h : H} {K : KP} : F51.p1 n0 [(0, a0), (1, b1), (5, out5)] ds h K = F51.t1 n0 (F51.p2 n0) a0 b1 out5 ds h K :=
  wchain (F51.s1) (F51.g1 (F51.p2 n0) a0 b1 out5)
theorem F51.k1 : F51.c1.ok = true := by kernel_rfl
theorem F51.d1 {n0 : Nat} : F51.p1 n0 = wA Try.prog n0 50 none F51.c1 := by kernel_rfl
theorem F51.m1 (n0 : Nat) : MonoW (F51.p1 n0) := @mono_c Try.prog n0 50 none F51.c1 (F51.p1 n0) (F51.d1) F51.k1
noncomputable def F51.t2 (n0 : Nat) (B3 : WP) (B4 : WP) (a0 b1 out5 : Value) (ds : List Nat) (h : H) (K : KP) : Prop :=
  Bnd (aIndexAddr Try.prog 22 a0 (.int .i64 0)) fun t23 =>
  Bnd (aLoad Try.prog 23 t23 h) fun t24 =>
  Bnd (aIndexAddr Try.prog 22 b1 (.int .i64 0)) fun t26 =>
  Bnd (aLoad Try.prog 23 t26 h) fun t27 =>
  Bnd (aBin Try.prog false .leq 23 t24 t27) fun t30 =>
  Cnd t30
   (B3 [(0, a0), (1, b1), (5, out5), (6, t24), (7, t27)] ds h (KSeq [0, 1, 5, 6, 7] B4 (KBlk [0, 1, 5] 1 K)))
   (B4 [(0, a0), (1, b1), (5, out5), (6, t24), (7, t27)] ds h (KBlk [0, 1, 5] 1 K))
theorem F51.g2 {n0 : Nat} (B3 : WP) (B4 : WP) (a0 b1 out5 : Value) {ds : List Nat} {h : H} {K : KP} : wA Try.prog n0 50 none (.block [0, 1, 5] 1 (.seq [0, 1, 5, 6, 7] F51.c2.fst.fst (.seq [0, 1, 5, 6, 7] (.seq [0, 1, 5, 6, 7, 30] F51.c2.fst.snd.fst.fst (.cond [0, 1, 5, 6, 7] (.tmp 30) (.sub B3) F51.c2.fst.snd.fst.snd.snd)) (.sub B4)))) [(0, a0), (1, b1), (5, out5)] ds h K = F51.t2 n0 B3 B4 a0 b1 out5 ds h K := by kernel_rfl
theorem F51.s2 {n0 : Nat} : F51.p2 n0 = wA Try.prog n0 50 none (.block [0, 1, 5] 1 (.seq [0, 1, 5, 6, 7] F51.c2.fst.fst (.seq [0, 1, 5, 6, 7] (.seq [0, 1, 5, 6, 7, 30] F51.c2.fst.snd.fst.fst (.cond [0, 1, 5, 6, 7] (.tmp 30) (.sub (F51.p3 n0)) F51.c2.fst.snd.fst.snd.snd)) (.sub (F51.p4 n0))))) := by kernel_rfl
theorem F51.e2 {n0 : Nat} {a0 b1 out5 : Value} {ds : List Nat} {h : H} {K : KP} : F51.p2 n0 [(0, a0), (1, b1), (5, out5)] ds h K = F51.t2 n0 (F51.p3 n0) (F51.p4 n0) a0 b1 out5 ds h K :=
  wchain (F51.s2) (F51.g2 (F51.p3 n0) (F51.p4 n0) a0 b1 out5)
noncomputable def F51.t3 (n0 : Nat) (a0 b1 out5 x6 y7 : Value) (ds : List Nat) (h : H) (K : KP) : Prop :=
  Bnd (aSlice Try.prog 22 a0 (some (.int .i64 1)) none none h) fun t32 =>
  K .normal [(0, t32), (1, b1), (5, out5), (6, x6), (7, y7), (31, a0), (32, t32)] ds h
theorem F51.g3 {n0 : Nat} (a0 b1 out5 x6 y7 : Value) {ds : List Nat} {h : H} {K : KP} : wA Try.prog n0 50 none F51.c3 [(0, a0), (1, b1), (5, out5), (6, x6), (7, y7)] ds h K = F51.t3 n0 a0 b1 out5 x6 y7 ds h K := by kernel_rfl
theorem F51.s3 {n0 : Nat} : F51.p3 n0 = wA Try.prog n0 50 none F51.c3 := by kernel_rfl
theorem F51.e3 {n0 : Nat} {a0 b1 out5 x6 y7 : Value} {ds : List Nat} {h : H} {K : KP} : F51.p3 n0 [(0, a0), (1, b1), (5, out5), (6, x6), (7, y7)] ds h K = F51.t3 n0 a0 b1 out5 x6 y7 ds h K :=
  wchain (F51.s3) (F51.g3 a0 b1 out5 x6 y7)
noncomputable def F51.t4 (n0 : Nat) (B5 : WP) (B6 : WP) (a0 b1 out5 x6 y7 : Value) (ds : List Nat) (h : H) (K : KP) : Prop :=
  Bnd (aBin Try.prog false .leq 23 y7 x6) fun t35 =>
  Cnd t35
   (B5 [(0, a0), (1, b1), (5, out5), (6, x6), (7, y7)] ds h (KSeq [0, 1, 5, 6, 7] B6 K))
   (B6 [(0, a0), (1, b1), (5, out5), (6, x6), (7, y7)] ds h K)
theorem F51.g4 {n0 : Nat} (B5 : WP) (B6 : WP) (a0 b1 out5 x6 y7 : Value) {ds : List Nat} {h : H} {K : KP} : wA Try.prog n0 50 none (.seq [0, 1, 5, 6, 7] (.seq [0, 1, 5, 6, 7, 35] F51.c4.fst.fst (.cond [0, 1, 5, 6, 7] (.tmp 35) (.sub B5) F51.c4.fst.snd.snd)) (.sub B6)) [(0, a0), (1, b1), (5, out5), (6, x6), (7, y7)] ds h K = F51.t4 n0 B5 B6 a0 b1 out5 x6 y7 ds h K := by kernel_rfl
theorem F51.s4 {n0 : Nat} : F51.p4 n0 = wA Try.prog n0 50 none (.seq [0, 1, 5, 6, 7] (.seq [0, 1, 5, 6, 7, 35] F51.c4.fst.fst (.cond [0, 1, 5, 6, 7] (.tmp 35) (.sub (F51.p5 n0)) F51.c4.fst.snd.snd)) (.sub (F51.p6 n0))) := by kernel_rfl
theorem F51.e4 {n0 : Nat} {a0 b1 out5 x6 y7 : Value} {ds : List Nat} {h : H} {K : KP} : F51.p4 n0 [(0, a0), (1, b1), (5, out5), (6, x6), (7, y7)] ds h K = F51.t4 n0 (F51.p5 n0) (F51.p6 n0) a0 b1 out5 x6 y7 ds h K :=
  wchain (F51.s4) (F51.g4 (F51.p5 n0) (F51.p6 n0) a0 b1 out5 x6 y7)
noncomputable def F51.t5 (n0 : Nat) (a0 b1 out5 x6 y7 : Value) (ds : List Nat) (h : H) (K : KP) : Prop :=
  Bnd (aSlice Try.prog 22 b1 (some (.int .i64 1)) none none h) fun t37 =>
  K .normal [(0, a0), (1, t37), (5, out5), (6, x6), (7, y7), (36, b1), (37, t37)] ds h
theorem F51.g5 {n0 : Nat} (a0 b1 out5 x6 y7 : Value) {ds : List Nat} {h : H} {K : KP} : wA Try.prog n0 50 none F51.c5 [(0, a0), (1, b1), (5, out5), (6, x6), (7, y7)] ds h K = F51.t5 n0 a0 b1 out5 x6 y7 ds h K := by kernel_rfl
theorem F51.s5 {n0 : Nat} : F51.p5 n0 = wA Try.prog n0 50 none F51.c5 := by kernel_rfl
theorem F51.e5 {n0 : Nat} {a0 b1 out5 x6 y7 : Value} {ds : List Nat} {h : H} {K : KP} : F51.p5 n0 [(0, a0), (1, b1), (5, out5), (6, x6), (7, y7)] ds h K = F51.t5 n0 a0 b1 out5 x6 y7 ds h K :=
  wchain (F51.s5) (F51.g5 a0 b1 out5 x6 y7)
noncomputable def F51.t6 (n0 : Nat) (a0 b1 out5 x6 y7 : Value) (ds : List Nat) (h : H) (K : KP) : Prop :=
  Bnd2 (aBuiltin Try.prog .min #[23, 23] [x6, y7] h) fun t41 h1 =>
  Bnd2 (aBuildSlice Try.prog 22 1 [(0, t41)] h1) fun t42 h2 =>
  Bnd2 (aBuiltin Try.prog .append #[22, 22] [out5, t42] h2) fun t43 h3 =>
  K .normal [(0, a0), (1, b1), (5, t43), (6, x6), (7, y7), (38, out5), (39, x6), (40, y7), (41, t41), (42, t42), (43, t43)] ds h3
theorem F51.g6 {n0 : Nat} (a0 b1 out5 x6 y7 : Value) {ds : List Nat} {h : H} {K : KP} : wA Try.prog n0 50 none F51.c6 [(0, a0), (1, b1), (5, out5), (6, x6), (7, y7)] ds h K = F51.t6 n0 a0 b1 out5 x6 y7 ds h K := by kernel_rfl
theorem F51.s6 {n0 : Nat} : F51.p6 n0 = wA Try.prog n0 50 none F51.c6 := by kernel_rfl
theorem F51.e6 {n0 : Nat} {a0 b1 out5 x6 y7 : Value} {ds : List Nat} {h : H} {K : KP} : F51.p6 n0 [(0, a0), (1, b1), (5, out5), (6, x6), (7, y7)] ds h K = F51.t6 n0 a0 b1 out5 x6 y7 ds h K :=
  wchain (F51.s6) (F51.g6 a0 b1 out5 x6 y7)
noncomputable def F51.t7 (n0 : Nat) (a0 b1 out5 : Value) (ds : List Nat) (h : H) (K : KP) : Prop :=
  Bnd2 (aBuiltin Try.prog .append #[22, 22] [out5, a0] h) fun t46 h1 =>
  Bnd2 (aBuiltin Try.prog .append #[22, 22] [t46, b1] h1) fun t49 h2 =>
  K .ret [(4, t49)] ds h2
theorem F51.g7 {n0 : Nat} (a0 b1 out5 : Value) {ds : List Nat} {h : H} {K : KP} : wA Try.prog n0 50 none F51.c7 [(0, a0), (1, b1), (5, out5)] ds h K = F51.t7 n0 a0 b1 out5 ds h K := by kernel_rfl
theorem F51.s7 {n0 : Nat} : F51.p7 n0 = wA Try.prog n0 50 none F51.c7 := by kernel_rfl
theorem F51.e7 {n0 : Nat} {a0 b1 out5 : Value} {ds : List Nat} {h : H} {K : KP} : F51.p7 n0 [(0, a0), (1, b1), (5, out5)] ds h K = F51.t7 n0 a0 b1 out5 ds h K :=
  wchain (F51.s7) (F51.g7 a0 b1 out5)
theorem F51.b : Try.f51.body = some F51.c0.erase := by kernel_rfl
theorem F51.b2 : (Try.f51.name == "runtime.NumGoroutine") = false := by kernel_rfl
theorem F51.b3 : Try.f51.ntmps = 50 := by kernel_rfl
theorem F51.b4 : Try.f51.results.toList = [.tmp 4] := by kernel_rfl
theorem F51.enter {n0 : Nat} {x0 x1 : Value} {h : H} {Q : Value → H → Prop} (w : F51.p0 n0 [(0, x0), (1, x1)] [] h (KFin Try.prog [.tmp 4] Q)) : Cn Try.prog n0 (.func 51) [x0, x1] h Q :=
  @fn_enter Try.prog n0 mixed 51 Try.f51 F51.c0 [x0, x1] h Q Try.func51 F51.b F51.k0 F51.b2 50 F51.b3 [.tmp 4] F51.b4 (by simp) [(0, x0), (1, x1)] rfl (wback F51.d0 w)

/-! roster.rosterlaw04.IdlistSearched -/
noncomputable def F8.ac : AC := (ann (bodyOf Try.f8) [[0, 1, 2], [0, 1, 2, 7], [0, 1, 2, 7, 8], [0, 1, 2, 7, 8], [0, 1, 2, 7, 8, 50], [0, 1, 2, 7, 8], [6], [0, 1, 2, 7, 8, 9], [0, 1, 2, 7], [0, 1, 2, 7, 81], [0, 1, 2, 7], [6], [0, 7], [0, 1, 2, 7, 84], [0, 1, 2, 7], [6], [6]]).1
noncomputable def F8.c0 : AC := F8.ac
noncomputable def F8.c1 : AC := F8.ac.snd.snd.snd.fst.snd.fst
noncomputable def F8.c2 : AC := F8.ac.snd.snd.snd.snd
noncomputable def F8.c3 : AC := F8.ac.snd.snd.snd.snd.snd.fst.snd.fst
noncomputable def F8.c4 : AC := F8.ac.snd.snd.snd.snd.snd.snd
noncomputable def F8.c5 : AC := F8.ac.snd.snd.snd.snd.snd.snd.fst.snd.fst
noncomputable def F8.c6 : AC := F8.ac.snd.snd.snd.snd.snd.snd.snd
noncomputable def F8.p0 (n0 : Nat) : WP := wA Try.prog n0 108 none F8.c0
noncomputable def F8.p1 (n0 : Nat) : WP := wA Try.prog n0 108 none F8.c1
noncomputable def F8.p2 (n0 : Nat) : WP := wA Try.prog n0 108 none F8.c2
noncomputable def F8.p3 (n0 : Nat) : WP := wA Try.prog n0 108 none F8.c3
noncomputable def F8.p4 (n0 : Nat) : WP := wA Try.prog n0 108 none F8.c4
noncomputable def F8.p5 (n0 : Nat) : WP := wA Try.prog n0 108 none F8.c5
noncomputable def F8.p6 (n0 : Nat) : WP := wA Try.prog n0 108 none F8.c6
noncomputable def F8.t0 (n0 : Nat) (B1 : WP) (B2 : WP) (l0 from1 id2 : Value) (ds : List Nat) (h : H) (K : KP) : Prop :=
  Bnd2 (aBuildSlice Try.prog 42 1 [(0, l0)] h) fun t11 h1 =>
  Cn Try.prog n0 (.func 29) [t11] h1 fun t12 h2 =>
  Cn Try.prog n0 (.func 14) [t12, (.int .i64 0), id2] h2 fun t15 h3 =>
  Bnd (aBin Try.prog true .lss 3 t15 (.int .i64 0)) fun t17 =>
  Gd t17
   (B1 [(0, l0), (1, from1), (2, id2), (7, t12), (8, t15)] ds h3 (KSeq [0, 1, 2, 7, 8] B2 K))
   (Bnd2 (aBuiltin Try.prog .len #[22] [t12] h3) fun t21 h4 =>
  Bnd (aBin Try.prog false .gtr 3 t15 t21) fun t22 =>
  Gd t22
   (B1 [(0, l0), (1, from1), (2, id2), (7, t12), (8, t15)] ds h4 (KSeq [0, 1, 2, 7, 8] B2 K))
   (Bnd (aBin Try.prog true .gtr 3 t15 (.int .i64 0)) fun t26 =>
  Gd t26
   (Bnd (aBin Try.prog true .sub 3 t15 (.int .i64 1)) fun t30 =>
  Bnd (aIndexAddr Try.prog 22 t12 t30) fun t31 =>
  Bnd (aLoad Try.prog 23 t31 h4) fun t32 =>
  Bnd (aBin Try.prog false .geq 23 t32 id2) fun t34 =>
  Gd t34
   (B1 [(0, l0), (1, from1), (2, id2), (7, t12), (8, t15)] ds h4 (KSeq [0, 1, 2, 7, 8] B2 K))
   (Bnd2 (aBuiltin Try.prog .len #[22] [t12] h4) fun t40 h5 =>
  Bnd (aBin Try.prog false .lss 3 t15 t40) fun t41 =>
  Gd t41
   (Bnd (aIndexAddr Try.prog 22 t12 t15) fun t45 =>
  Bnd (aLoad Try.prog 23 t45 h5) fun t46 =>
  Bnd (aBin Try.prog false .lss 23 t46 id2) fun t48 =>
  Cnd t48
   (B1 [(0, l0), (1, from1), (2, id2), (7, t12), (8, t15)] ds h5 (KSeq [0, 1, 2, 7, 8] B2 K))
   (B2 [(0, l0), (1, from1), (2, id2), (7, t12), (8, t15)] ds h5 K))
   (B2 [(0, l0), (1, from1), (2, id2), (7, t12), (8, t15)] ds h5 K)))
   (Bnd2 (aBuiltin Try.prog .len #[22] [t12] h4) fun t40 h5 =>
  Bnd (aBin Try.prog false .lss 3 t15 t40) fun t41 =>
  Gd t41
   (Bnd (aIndexAddr Try.prog 22 t12 t15) fun t45 =>
  Bnd (aLoad Try.prog 23 t45 h5) fun t46 =>
  Bnd (aBin Try.prog false .lss 23 t46 id2) fun t48 =>
  Cnd t48
   (B1 [(0, l0), (1, from1), (2, id2), (7, t12), (8, t15)] ds h5 (KSeq [0, 1, 2, 7, 8] B2 K))
   (B2 [(0, l0), (1, from1), (2, id2), (7, t12), (8, t15)] ds h5 K))
   (B2 [(0, l0), (1, from1), (2, id2), (7, t12), (8, t15)] ds h5 K))))
theorem F8.g0 {n0 : Nat} (B1 : WP) (B2 : WP) (l0 from1 id2 : Value) {ds : List Nat} {h : H} {K : KP} : wA Try.prog n0 108 none (.seq [0, 1, 2] F8.c0.fst (.seq [0, 1, 2, 7] F8.c0.snd.fst (.seq [0, 1, 2, 7, 8] F8.c0.snd.snd.fst (.seq [0, 1, 2, 7, 8] (.seq [0, 1, 2, 7, 8, 50] F8.c0.snd.snd.snd.fst.fst (.cond [0, 1, 2, 7, 8] (.tmp 50) (.sub B1) F8.c0.snd.snd.snd.fst.snd.snd)) (.sub B2))))) [(0, l0), (1, from1), (2, id2)] ds h K = F8.t0 n0 B1 B2 l0 from1 id2 ds h K := by kernel_rfl
theorem F8.s0 {n0 : Nat} : F8.p0 n0 = wA Try.prog n0 108 none (.seq [0, 1, 2] F8.c0.fst (.seq [0, 1, 2, 7] F8.c0.snd.fst (.seq [0, 1, 2, 7, 8] F8.c0.snd.snd.fst (.seq [0, 1, 2, 7, 8] (.seq [0, 1, 2, 7, 8, 50] F8.c0.snd.snd.snd.fst.fst (.cond [0, 1, 2, 7, 8] (.tmp 50) (.sub (F8.p1 n0)) F8.c0.snd.snd.snd.fst.snd.snd)) (.sub (F8.p2 n0)))))) := by kernel_rfl
theorem F8.e0 {n0 : Nat} {l0 from1 id2 : Value} {ds : List Nat} {h : H} {K : KP} : F8.p0 n0 [(0, l0), (1, from1), (2, id2)] ds h K = F8.t0 n0 (F8.p1 n0) (F8.p2 n0) l0 from1 id2 ds h K :=
  wchain (F8.s0) (F8.g0 (F8.p1 n0) (F8.p2 n0) l0 from1 id2)
theorem F8.k0 : F8.c0.ok = true := by kernel_rfl
theorem F8.d0 {n0 : Nat} : F8.p0 n0 = wA Try.prog n0 108 none F8.c0 := by kernel_rfl
theorem F8.m0 (n0 : Nat) : MonoW (F8.p0 n0) := @mono_c Try.prog n0 108 none F8.c0 (F8.p0 n0) (F8.d0) F8.k0
noncomputable def F8.t1 (n0 : Nat) (l0 from1 id2 x7 k8 : Value) (ds : List Nat) (h : H) (K : KP) : Prop :=
  K .ret [(6, (.bool false))] ds h
theorem F8.g1 {n0 : Nat} (l0 from1 id2 x7 k8 : Value) {ds : List Nat} {h : H} {K : KP} : wA Try.prog n0 108 none F8.c1 [(0, l0), (1, from1), (2, id2), (7, x7), (8, k8)] ds h K = F8.t1 n0 l0 from1 id2 x7 k8 ds h K := by kernel_rfl
theorem F8.s1 {n0 : Nat} : F8.p1 n0 = wA Try.prog n0 108 none F8.c1 := by kernel_rfl
theorem F8.e1 {n0 : Nat} {l0 from1 id2 x7 k8 : Value} {ds : List Nat} {h : H} {K : KP} : F8.p1 n0 [(0, l0), (1, from1), (2, id2), (7, x7), (8, k8)] ds h K = F8.t1 n0 l0 from1 id2 x7 k8 ds h K :=
  wchain (F8.s1) (F8.g1 l0 from1 id2 x7 k8)
noncomputable def F8.t2 (n0 : Nat) (B3 : WP) (B4 : WP) (l0 from1 id2 x7 k8 : Value) (ds : List Nat) (h : H) (K : KP) : Prop :=
  Bnd2 (aBuiltin Try.prog .max #[3, 3] [from1, (.int .i64 0)] h) fun t52 h1 =>
  Bnd2 (aBuiltin Try.prog .len #[22] [x7] h1) fun t54 h2 =>
  Bnd2 (aBuiltin Try.prog .min #[3, 3] [t52, t54] h2) fun t55 h3 =>
  Cn Try.prog n0 (.func 14) [x7, from1, id2] h3 fun t59 h4 =>
  Bnd2 (aBuiltin Try.prog .max #[3, 3] [k8, t55] h4) fun t62 h5 =>
  Bnd (aBin Try.prog false .neq 3 t59 t62) fun t63 =>
  Gd t63
   (B3 [(0, l0), (1, from1), (2, id2), (7, x7)] ds h5 (KSeq [0, 1, 2, 7] B4 K))
   (Cn Try.prog n0 (.func 15) [x7, id2] h5 fun t67 h6 =>
  Bnd2 (aBuiltin Try.prog .len #[22] [x7] h6) fun t70 h7 =>
  Bnd (aBin Try.prog false .lss 3 k8 t70) fun t71 =>
  Gd t71
   (Bnd (aIndexAddr Try.prog 22 x7 k8) fun t75 =>
  Bnd (aLoad Try.prog 23 t75 h7) fun t76 =>
  Bnd (aBin Try.prog false .eql 23 t76 id2) fun t78 =>
  Bnd (aBin Try.prog false .neq 4 t67 t78) fun t80 =>
  Cnd t80
   (B3 [(0, l0), (1, from1), (2, id2), (7, x7)] ds h7 (KSeq [0, 1, 2, 7] B4 K))
   (B4 [(0, l0), (1, from1), (2, id2), (7, x7)] ds h7 K))
   (Bnd (aBin Try.prog false .neq 4 t67 (.bool false)) fun t80 =>
  Cnd t80
   (B3 [(0, l0), (1, from1), (2, id2), (7, x7)] ds h7 (KSeq [0, 1, 2, 7] B4 K))
   (B4 [(0, l0), (1, from1), (2, id2), (7, x7)] ds h7 K)))
theorem F8.g2 {n0 : Nat} (B3 : WP) (B4 : WP) (l0 from1 id2 x7 k8 : Value) {ds : List Nat} {h : H} {K : KP} : wA Try.prog n0 108 none (.seq [0, 1, 2, 7, 8, 9] F8.c2.fst (.seq [0, 1, 2, 7] (.seq [0, 1, 2, 7, 81] F8.c2.snd.fst.fst (.cond [0, 1, 2, 7] (.tmp 81) (.sub B3) F8.c2.snd.fst.snd.snd)) (.sub B4))) [(0, l0), (1, from1), (2, id2), (7, x7), (8, k8)] ds h K = F8.t2 n0 B3 B4 l0 from1 id2 x7 k8 ds h K := by kernel_rfl
theorem F8.s2 {n0 : Nat} : F8.p2 n0 = wA Try.prog n0 108 none (.seq [0, 1, 2, 7, 8, 9] F8.c2.fst (.seq [0, 1, 2, 7] (.seq [0, 1, 2, 7, 81] F8.c2.snd.fst.fst (.cond [0, 1, 2, 7] (.tmp 81) (.sub (F8.p3 n0)) F8.c2.snd.fst.snd.snd)) (.sub (F8.p4 n0)))) := by kernel_rfl
theorem F8.e2 {n0 : Nat} {l0 from1 id2 x7 k8 : Value} {ds : List Nat} {h : H} {K : KP} : F8.p2 n0 [(0, l0), (1, from1), (2, id2), (7, x7), (8, k8)] ds h K = F8.t2 n0 (F8.p3 n0) (F8.p4 n0) l0 from1 id2 x7 k8 ds h K :=
  wchain (F8.s2) (F8.g2 (F8.p3 n0) (F8.p4 n0) l0 from1 id2 x7 k8)
noncomputable def F8.t3 (n0 : Nat) (l0 from1 id2 x7 : Value) (ds : List Nat) (h : H) (K : KP) : Prop :=
  K .ret [(6, (.bool false))] ds h
theorem F8.g3 {n0 : Nat} (l0 from1 id2 x7 : Value) {ds : List Nat} {h : H} {K : KP} : wA Try.prog n0 108 none F8.c3 [(0, l0), (1, from1), (2, id2), (7, x7)] ds h K = F8.t3 n0 l0 from1 id2 x7 ds h K := by kernel_rfl
theorem F8.s3 {n0 : Nat} : F8.p3 n0 = wA Try.prog n0 108 none F8.c3 := by kernel_rfl
theorem F8.e3 {n0 : Nat} {l0 from1 id2 x7 : Value} {ds : List Nat} {h : H} {K : KP} : F8.p3 n0 [(0, l0), (1, from1), (2, id2), (7, x7)] ds h K = F8.t3 n0 l0 from1 id2 x7 ds h K :=
  wchain (F8.s3) (F8.g3 l0 from1 id2 x7)
noncomputable def F8.t4 (n0 : Nat) (B5 : WP) (B6 : WP) (l0 from1 id2 x7 : Value) (ds : List Nat) (h : H) (K : KP) : Prop :=
  Cn Try.prog n0 (.func 30) [l0] h fun t83 h1 =>
  Bnd (aUn .not t83) fun t84 =>
  Cnd t84
   (B5 [(0, l0), (1, from1), (2, id2), (7, x7)] ds h1 (KSeq [0, 7] B6 K))
   (B6 [(0, l0), (7, x7)] ds h1 K)
theorem F8.g4 {n0 : Nat} (B5 : WP) (B6 : WP) (l0 from1 id2 x7 : Value) {ds : List Nat} {h : H} {K : KP} : wA Try.prog n0 108 none (.seq [0, 7] (.seq [0, 1, 2, 7, 84] F8.c4.fst.fst (.cond [0, 1, 2, 7] (.tmp 84) (.sub B5) F8.c4.fst.snd.snd)) (.sub B6)) [(0, l0), (1, from1), (2, id2), (7, x7)] ds h K = F8.t4 n0 B5 B6 l0 from1 id2 x7 ds h K := by kernel_rfl
theorem F8.s4 {n0 : Nat} : F8.p4 n0 = wA Try.prog n0 108 none (.seq [0, 7] (.seq [0, 1, 2, 7, 84] F8.c4.fst.fst (.cond [0, 1, 2, 7] (.tmp 84) (.sub (F8.p5 n0)) F8.c4.fst.snd.snd)) (.sub (F8.p6 n0))) := by kernel_rfl
theorem F8.e4 {n0 : Nat} {l0 from1 id2 x7 : Value} {ds : List Nat} {h : H} {K : KP} : F8.p4 n0 [(0, l0), (1, from1), (2, id2), (7, x7)] ds h K = F8.t4 n0 (F8.p5 n0) (F8.p6 n0) l0 from1 id2 x7 ds h K :=
  wchain (F8.s4) (F8.g4 (F8.p5 n0) (F8.p6 n0) l0 from1 id2 x7)
noncomputable def F8.t5 (n0 : Nat) (l0 from1 id2 x7 : Value) (ds : List Nat) (h : H) (K : KP) : Prop :=
  Cn Try.prog n0 (.func 14) [l0, from1, id2] h fun t88 h1 =>
  Bnd (aBin Try.prog true .eql 3 t88 (.int .i64 (-1))) fun t89 =>
  Gd t89
   (Cn Try.prog n0 (.func 31) [l0] h1 fun t92 h2 =>
  Bnd (aUn .not t92) fun t93 =>
  Gd t93
   (Cn Try.prog n0 (.func 18) [] h2 fun t96 h3 =>
  K .ret [(6, t96)] ds h3)
   (K .ret [(6, (.bool false))] ds h2))
   (K .ret [(6, (.bool false))] ds h1)
theorem F8.g5 {n0 : Nat} (l0 from1 id2 x7 : Value) {ds : List Nat} {h : H} {K : KP} : wA Try.prog n0 108 none F8.c5 [(0, l0), (1, from1), (2, id2), (7, x7)] ds h K = F8.t5 n0 l0 from1 id2 x7 ds h K := by kernel_rfl
theorem F8.s5 {n0 : Nat} : F8.p5 n0 = wA Try.prog n0 108 none F8.c5 := by kernel_rfl
theorem F8.e5 {n0 : Nat} {l0 from1 id2 x7 : Value} {ds : List Nat} {h : H} {K : KP} : F8.p5 n0 [(0, l0), (1, from1), (2, id2), (7, x7)] ds h K = F8.t5 n0 l0 from1 id2 x7 ds h K :=
  wchain (F8.s5) (F8.g5 l0 from1 id2 x7)
noncomputable def F8.t6 (n0 : Nat) (l0 x7 : Value) (ds : List Nat) (h : H) (K : KP) : Prop :=
  Cn Try.prog n0 (.func 31) [l0] h fun t99 h1 =>
  Gd t99
   (Cn Try.prog n0 (.func 28) [x7, l0] h1 fun t103 h2 =>
  Gd t103
   (Cn Try.prog n0 (.func 18) [] h2 fun t106 h3 =>
  K .ret [(6, t106)] ds h3)
   (K .ret [(6, (.bool false))] ds h2))
   (K .ret [(6, (.bool false))] ds h1)
theorem F8.g6 {n0 : Nat} (l0 x7 : Value) {ds : List Nat} {h : H} {K : KP} : wA Try.prog n0 108 none F8.c6 [(0, l0), (7, x7)] ds h K = F8.t6 n0 l0 x7 ds h K := by kernel_rfl
theorem F8.s6 {n0 : Nat} : F8.p6 n0 = wA Try.prog n0 108 none F8.c6 := by kernel_rfl
theorem F8.e6 {n0 : Nat} {l0 x7 : Value} {ds : List Nat} {h : H} {K : KP} : F8.p6 n0 [(0, l0), (7, x7)] ds h K = F8.t6 n0 l0 x7 ds h K :=
  wchain (F8.s6) (F8.g6 l0 x7)
theorem F8.b : Try.f8.body = some F8.c0.erase := by kernel_rfl
theorem F8.b2 : (Try.f8.name == "runtime.NumGoroutine") = false := by kernel_rfl
theorem F8.b3 : Try.f8.ntmps = 108 := by kernel_rfl
theorem F8.b4 : Try.f8.results.toList = [.tmp 6] := by kernel_rfl
theorem F8.enter {n0 : Nat} {x0 x1 x2 : Value} {h : H} {Q : Value → H → Prop} (w : F8.p0 n0 [(0, x0), (1, x1), (2, x2)] [] h (KFin Try.prog [.tmp 6] Q)) : Cn Try.prog n0 (.func 8) [x0, x1, x2] h Q :=
  @fn_enter Try.prog n0 mixed 8 Try.f8 F8.c0 [x0, x1, x2] h Q Try.func8 F8.b F8.k0 F8.b2 108 F8.b3 [.tmp 6] F8.b4 (by simp) [(0, x0), (1, x1), (2, x2)] rfl (wback F8.d0 w)

end Go.Proofs.Ytjdcdabbbmhffaa
