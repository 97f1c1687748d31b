/- The texts of Go functions of this seat, as the evaluator comes to them: each is what wA says of the code. No condition. -/
import Derived.Test.YtcdnnpbpadhgeaaDoorEvAc3
import Derived.Test.YtcdnnpbpadhgeaaDoorSeat
set_option linter.unusedVariables false
namespace Go.Proofs.YtcdnnpbpadhgeaaDoor
open Go.Ev

/-! roster.rosterlaw01.OctetBase -/
noncomputable def F6.ac : AC := (ann (bodyOf Tryd.f6) [[0, 1], [0, 1, 5, 6], [0, 5, 6, 7, 8], [4]]).1
noncomputable def F6.c0 : AC := F6.ac
noncomputable def F6.p0 (n0 : Nat) : WP := wA Tryd.prog n0 37 none F6.c0
noncomputable def F6.t0 (n0 : Nat) (s0 t1 : Value) (ds : List Nat) (h : H) (K : KP) : Prop :=
  Cn Tryd.prog n0 (.func 22) [t1] h fun t11 h1 =>
  Bnd (tupAt t11 0) fun t12 =>
  Bnd (tupAt t11 1) fun t13 =>
  Cn Tryd.prog n0 (.func 23) [t1] h1 fun t16 h2 =>
  Bnd (tupAt t16 0) fun t17 =>
  Bnd (tupAt t16 1) fun t18 =>
  Cn Tryd.prog n0 (.func 24) [s0] h2 fun t20 h3 =>
  Cn Tryd.prog n0 (.func 25) [s0] h3 fun t22 h4 =>
  Bnd (aBin Tryd.prog false .eql 9 t20 t22) fun t23 =>
  Gd t23
   (Bnd (aBin Tryd.prog false .eql 9 t17 t12) fun t27 =>
  Gd t27
   (Bnd (aBin Tryd.prog false .eql 24 t18 t13) fun t32 =>
  Gd t32
   (Cn Tryd.prog n0 (.func 13) [] h4 fun t35 h5 =>
  K .ret [(4, t35)] ds h5)
   (K .ret [(4, (.bool false))] ds h4))
   (K .ret [(4, (.bool false))] ds h4))
   (K .ret [(4, (.bool false))] ds h4)
theorem F6.g0 {n0 : Nat} (s0 t1 : Value) {ds : List Nat} {h : H} {K : KP} : wA Tryd.prog n0 37 none F6.c0 [(0, s0), (1, t1)] ds h K = F6.t0 n0 s0 t1 ds h K := by kernel_rfl
theorem F6.s0 {n0 : Nat} : F6.p0 n0 = wA Tryd.prog n0 37 none F6.c0 := by kernel_rfl
theorem F6.e0 {n0 : Nat} {s0 t1 : Value} {ds : List Nat} {h : H} {K : KP} : F6.p0 n0 [(0, s0), (1, t1)] ds h K = F6.t0 n0 s0 t1 ds h K :=
  wchain (F6.s0) (F6.g0 s0 t1)
theorem F6.k0 : F6.c0.ok = true := by kernel_rfl
theorem F6.d0 {n0 : Nat} : F6.p0 n0 = wA Tryd.prog n0 37 none F6.c0 := by kernel_rfl
theorem F6.m0 (n0 : Nat) : MonoW (F6.p0 n0) := @mono_c Tryd.prog n0 37 none F6.c0 (F6.p0 n0) (F6.d0) F6.k0
theorem F6.b : Tryd.f6.body = some F6.c0.erase := by kernel_rfl
theorem F6.b2 : (Tryd.f6.name == "runtime.NumGoroutine") = false := by kernel_rfl
theorem F6.b3 : Tryd.f6.ntmps = 37 := by kernel_rfl
theorem F6.b4 : Tryd.f6.results.toList = [.tmp 4] := by kernel_rfl
theorem F6.enter {n0 : Nat} {x0 x1 : Value} {h : H} {Q : Value → H → Prop} (w : F6.p0 n0 [(0, x0), (1, x1)] [] h (KFin Tryd.prog [.tmp 4] Q)) : Cn Tryd.prog n0 (.func 6) [x0, x1] h Q :=
  @fn_enter Tryd.prog n0 mixed 6 Tryd.f6 F6.c0 [x0, x1] h Q Tryd.func6 F6.b F6.k0 F6.b2 37 F6.b3 [.tmp 4] F6.b4 (by simp) [(0, x0), (1, x1)] rfl (wback F6.d0 w)

/-! roster.rosterref01.Unbase64 -/
noncomputable def F22.ac : AC := (ann (bodyOf Tryd.f22) [[0], [0, 4], [0, 4, 5], [0, 4, 5, 6], [0, 4], [0, 4, 5, 6, 7], [0, 4], [0, 4, 5, 6, 7], [0, 4, 5, 6, 7], [0, 4, 5, 6, 7, 13], [0, 4, 5, 6, 7], [0, 4, 5, 6, 7], [0, 4, 5, 6, 7], [0, 4, 5, 6, 7, 8], [0, 4, 5, 6, 7, 8], [0, 4, 5, 6, 7, 8, 21], [0, 4, 5, 6, 7, 8], [0, 4, 5, 6, 7], [0, 4, 5, 6, 7], [0, 4, 5, 6, 7, 30], [0, 4, 5, 6, 7], [0, 4, 5, 6, 7], [0, 9], [9], [9, 46], [9], [2, 3], [2, 3]]).1
noncomputable def F22.c0 : AC := F22.ac
noncomputable def F22.c1 : AC := F22.ac.snd.snd.snd.snd.fst.snd.fst.fst
noncomputable def F22.c2 : AC := F22.ac.snd.snd.snd.snd.fst.snd.fst.fst.snd
noncomputable def F22.c3 : AC := F22.ac.snd.snd.snd.snd.fst.snd.fst.fst.snd.fst.fst.snd.snd
noncomputable def F22.c4 : AC := F22.ac.snd.snd.snd.snd.fst.snd.fst.fst.snd.fst.fst.snd.snd.snd.snd.snd.fst
noncomputable def F22.c5 : AC := F22.ac.snd.snd.snd.snd.fst.snd.fst.fst.snd.snd
noncomputable def F22.c6 : AC := F22.ac.snd.snd.snd.snd.snd
noncomputable def F22.c7 : AC := F22.ac.snd.snd.snd.snd.snd.snd.fst.snd.fst
noncomputable def F22.c8 : AC := F22.ac.snd.snd.snd.snd.snd.snd.snd
noncomputable def F22.p0 (n0 : Nat) : WP := wA Tryd.prog n0 48 none F22.c0
noncomputable def F22.p1 (n0 : Nat) : WP := wA Tryd.prog n0 48 none F22.c1
noncomputable def F22.p2 (n0 : Nat) : WP := wA Tryd.prog n0 48 none F22.c2
noncomputable def F22.p3 (n0 : Nat) : WP := wA Tryd.prog n0 48 none F22.c3
noncomputable def F22.p4 (n0 : Nat) : WP := wA Tryd.prog n0 48 none F22.c4
noncomputable def F22.p5 (n0 : Nat) : WP := wA Tryd.prog n0 48 none F22.c5
noncomputable def F22.p6 (n0 : Nat) : WP := wA Tryd.prog n0 48 none F22.c6
noncomputable def F22.p7 (n0 : Nat) : WP := wA Tryd.prog n0 48 none F22.c7
noncomputable def F22.p8 (n0 : Nat) : WP := wA Tryd.prog n0 48 none F22.c8
noncomputable def F22.t0 (n0 : Nat) (B1 : WP) (B6 : WP) (s0 : Value) (ds : List Nat) (h : H) (K : KP) : Prop :=
  Lp [0, 4, 5, 6, 7] B1 [(0, s0), (4, (.slice none 0 0)), (5, (.int .i64 0)), (6, (.int .i64 0)), (7, (.int .i64 0))] ds h (KBlk [0, 4] 0 (KSeq [0, 4] B6 K))
theorem F22.g0 {n0 : Nat} (B1 : WP) (B6 : WP) (s0 : Value) {ds : List Nat} {h : H} {K : KP} : wA Tryd.prog n0 48 none (.seq [0] F22.c0.fst (.seq [0, 4] F22.c0.snd.fst (.seq [0, 4, 5] F22.c0.snd.snd.fst (.seq [0, 4, 5, 6] F22.c0.snd.snd.snd.fst (.seq [0, 4] (.seq [0, 4, 5, 6, 7] F22.c0.snd.snd.snd.snd.fst.fst (.block [0, 4] 0 (.loop [0, 4, 5, 6, 7] (.sub B1)))) (.sub B6)))))) [(0, s0)] ds h K = F22.t0 n0 B1 B6 s0 ds h K := by kernel_rfl
theorem F22.s0 {n0 : Nat} : F22.p0 n0 = wA Tryd.prog n0 48 none (.seq [0] F22.c0.fst (.seq [0, 4] F22.c0.snd.fst (.seq [0, 4, 5] F22.c0.snd.snd.fst (.seq [0, 4, 5, 6] F22.c0.snd.snd.snd.fst (.seq [0, 4] (.seq [0, 4, 5, 6, 7] F22.c0.snd.snd.snd.snd.fst.fst (.block [0, 4] 0 (.loop [0, 4, 5, 6, 7] (.sub (F22.p1 n0))))) (.sub (F22.p6 n0))))))) := by kernel_rfl
theorem F22.e0 {n0 : Nat} {s0 : Value} {ds : List Nat} {h : H} {K : KP} : F22.p0 n0 [(0, s0)] ds h K = F22.t0 n0 (F22.p1 n0) (F22.p6 n0) s0 ds h K :=
  wchain (F22.s0) (F22.g0 (F22.p1 n0) (F22.p6 n0) s0)
theorem F22.k0 : F22.c0.ok = true := by kernel_rfl
theorem F22.d0 {n0 : Nat} : F22.p0 n0 = wA Tryd.prog n0 48 none F22.c0 := by kernel_rfl
theorem F22.m0 (n0 : Nat) : MonoW (F22.p0 n0) := @mono_c Tryd.prog n0 48 none F22.c0 (F22.p0 n0) (F22.d0) F22.k0
noncomputable def F22.t1 (n0 : Nat) (B2 : WP) (s0 b4 n5 bits6 i7 : Value) (ds : List Nat) (h : H) (K : KP) : Prop :=
  Bnd2 (aBuiltin Tryd.prog .len #[9] [s0] h) fun t12 h1 =>
  Bnd (aBin Tryd.prog false .lss 3 i7 t12) fun t13 =>
  Cnd t13
   (B2 [(0, s0), (4, b4), (5, n5), (6, bits6), (7, i7)] ds h1 K)
   (K (.exit 0) [(0, s0), (4, b4), (5, n5), (6, bits6), (7, i7)] ds h1)
theorem F22.g1 {n0 : Nat} (B2 : WP) (s0 b4 n5 bits6 i7 : Value) {ds : List Nat} {h : H} {K : KP} : wA Tryd.prog n0 48 none (.seq [0, 4, 5, 6, 7] F22.c1.fst (.sub B2)) [(0, s0), (4, b4), (5, n5), (6, bits6), (7, i7)] ds h K = F22.t1 n0 B2 s0 b4 n5 bits6 i7 ds h K := by kernel_rfl
theorem F22.s1 {n0 : Nat} : F22.p1 n0 = wA Tryd.prog n0 48 none (.seq [0, 4, 5, 6, 7] F22.c1.fst (.sub (F22.p2 n0))) := by kernel_rfl
theorem F22.e1 {n0 : Nat} {s0 b4 n5 bits6 i7 : Value} {ds : List Nat} {h : H} {K : KP} : F22.p1 n0 [(0, s0), (4, b4), (5, n5), (6, bits6), (7, i7)] ds h K = F22.t1 n0 (F22.p2 n0) s0 b4 n5 bits6 i7 ds h K :=
  wchain (F22.s1) (F22.g1 (F22.p2 n0) s0 b4 n5 bits6 i7)
theorem F22.k1 : F22.c1.ok = true := by kernel_rfl
theorem F22.d1 {n0 : Nat} : F22.p1 n0 = wA Tryd.prog n0 48 none F22.c1 := by kernel_rfl
theorem F22.m1 (n0 : Nat) : MonoW (F22.p1 n0) := @mono_c Tryd.prog n0 48 none F22.c1 (F22.p1 n0) (F22.d1) F22.k1
noncomputable def F22.t2 (n0 : Nat) (B3 : WP) (B5 : WP) (s0 b4 n5 bits6 i7 : Value) (ds : List Nat) (h : H) (K : KP) : Prop :=
  Bnd (aIndex Tryd.prog 9 s0 i7) fun t18 =>
  Cn Tryd.prog n0 (.func 39) [t18] h fun t19 h1 =>
  Bnd (aBin Tryd.prog true .lss 3 t19 (.int .i64 0)) fun t21 =>
  Cnd t21
   (K (.exit 0) [(0, s0), (4, b4), (5, n5), (6, bits6), (7, i7), (8, t19)] ds h1)
   (B3 [(0, s0), (4, b4), (5, n5), (6, bits6), (7, i7), (8, t19)] ds h1 (KBlk [0, 4, 5, 6, 7] 1 (KSeq [0, 4, 5, 6, 7] B5 K)))
theorem F22.g2 {n0 : Nat} (B3 : WP) (B5 : WP) (s0 b4 n5 bits6 i7 : Value) {ds : List Nat} {h : H} {K : KP} : wA Tryd.prog n0 48 none (.seq [0, 4, 5, 6, 7] (.block [0, 4, 5, 6, 7] 1 (.seq [0, 4, 5, 6, 7, 8] F22.c2.fst.fst.fst (.seq [0, 4, 5, 6, 7, 8] F22.c2.fst.fst.snd.fst (.sub B3)))) (.sub B5)) [(0, s0), (4, b4), (5, n5), (6, bits6), (7, i7)] ds h K = F22.t2 n0 B3 B5 s0 b4 n5 bits6 i7 ds h K := by kernel_rfl
theorem F22.s2 {n0 : Nat} : F22.p2 n0 = wA Tryd.prog n0 48 none (.seq [0, 4, 5, 6, 7] (.block [0, 4, 5, 6, 7] 1 (.seq [0, 4, 5, 6, 7, 8] F22.c2.fst.fst.fst (.seq [0, 4, 5, 6, 7, 8] F22.c2.fst.fst.snd.fst (.sub (F22.p3 n0))))) (.sub (F22.p5 n0))) := by kernel_rfl
theorem F22.e2 {n0 : Nat} {s0 b4 n5 bits6 i7 : Value} {ds : List Nat} {h : H} {K : KP} : F22.p2 n0 [(0, s0), (4, b4), (5, n5), (6, bits6), (7, i7)] ds h K = F22.t2 n0 (F22.p3 n0) (F22.p5 n0) s0 b4 n5 bits6 i7 ds h K :=
  wchain (F22.s2) (F22.g2 (F22.p3 n0) (F22.p5 n0) s0 b4 n5 bits6 i7)
noncomputable def F22.t3 (n0 : Nat) (B4 : WP) (s0 b4 n5 bits6 i7 v8 : Value) (ds : List Nat) (h : H) (K : KP) : Prop :=
  Bnd (aBin Tryd.prog true .mul 3 (.int .i64 64) n5) fun t23 =>
  Bnd (aBin Tryd.prog false .add 3 t23 v8) fun t25 =>
  Bnd (aBin Tryd.prog true .rem 3 t25 (.int .i64 65536)) fun t26 =>
  Bnd (aBin Tryd.prog true .add 3 bits6 (.int .i64 6)) fun t28 =>
  Bnd (aBin Tryd.prog true .geq 3 t28 (.int .i64 8)) fun t30 =>
  Cnd t30
   (B4 [(0, s0), (4, b4), (5, t26), (6, t28), (7, i7)] ds h K)
   (K .normal [(0, s0), (4, b4), (5, t26), (6, t28), (7, i7)] ds h)
theorem F22.g3 {n0 : Nat} (B4 : WP) (s0 b4 n5 bits6 i7 v8 : Value) {ds : List Nat} {h : H} {K : KP} : wA Tryd.prog n0 48 none (.seq [0, 4, 5, 6, 7] F22.c3.fst (.seq [0, 4, 5, 6, 7] F22.c3.snd.fst (.seq [0, 4, 5, 6, 7, 30] F22.c3.snd.snd.fst (.cond [0, 4, 5, 6, 7] (.tmp 30) (.sub B4) F22.c3.snd.snd.snd.snd)))) [(0, s0), (4, b4), (5, n5), (6, bits6), (7, i7), (8, v8)] ds h K = F22.t3 n0 B4 s0 b4 n5 bits6 i7 v8 ds h K := by kernel_rfl
theorem F22.s3 {n0 : Nat} : F22.p3 n0 = wA Tryd.prog n0 48 none (.seq [0, 4, 5, 6, 7] F22.c3.fst (.seq [0, 4, 5, 6, 7] F22.c3.snd.fst (.seq [0, 4, 5, 6, 7, 30] F22.c3.snd.snd.fst (.cond [0, 4, 5, 6, 7] (.tmp 30) (.sub (F22.p4 n0)) F22.c3.snd.snd.snd.snd)))) := by kernel_rfl
theorem F22.e3 {n0 : Nat} {s0 b4 n5 bits6 i7 v8 : Value} {ds : List Nat} {h : H} {K : KP} : F22.p3 n0 [(0, s0), (4, b4), (5, n5), (6, bits6), (7, i7), (8, v8)] ds h K = F22.t3 n0 (F22.p4 n0) s0 b4 n5 bits6 i7 v8 ds h K :=
  wchain (F22.s3) (F22.g3 (F22.p4 n0) s0 b4 n5 bits6 i7 v8)
noncomputable def F22.t4 (n0 : Nat) (s0 b4 n5 bits6 i7 : Value) (ds : List Nat) (h : H) (K : KP) : Prop :=
  Bnd (aBin Tryd.prog true .sub 3 bits6 (.int .i64 8)) fun t32 =>
  Bnd2 (cvt Tryd.prog 3 42 t32 h) fun t36 h1 =>
  Bnd (aBin Tryd.prog false .shr 3 n5 t36) fun t37 =>
  Bnd2 (cvt Tryd.prog 3 5 t37 h1) fun t38 h2 =>
  Bnd2 (aBuildSlice Tryd.prog 31 1 [(0, t38)] h2) fun t39 h3 =>
  Bnd2 (aBuiltin Tryd.prog .append #[31, 31] [b4, t39] h3) fun t40 h4 =>
  K .normal [(0, s0), (4, t40), (5, n5), (6, t32), (7, i7), (33, b4), (34, n5), (35, t32), (36, t36), (37, t37), (38, t38), (39, t39), (40, t40)] ds h4
theorem F22.g4 {n0 : Nat} (s0 b4 n5 bits6 i7 : Value) {ds : List Nat} {h : H} {K : KP} : wA Tryd.prog n0 48 none F22.c4 [(0, s0), (4, b4), (5, n5), (6, bits6), (7, i7)] ds h K = F22.t4 n0 s0 b4 n5 bits6 i7 ds h K := by kernel_rfl
theorem F22.s4 {n0 : Nat} : F22.p4 n0 = wA Tryd.prog n0 48 none F22.c4 := by kernel_rfl
theorem F22.e4 {n0 : Nat} {s0 b4 n5 bits6 i7 : Value} {ds : List Nat} {h : H} {K : KP} : F22.p4 n0 [(0, s0), (4, b4), (5, n5), (6, bits6), (7, i7)] ds h K = F22.t4 n0 s0 b4 n5 bits6 i7 ds h K :=
  wchain (F22.s4) (F22.g4 s0 b4 n5 bits6 i7)
noncomputable def F22.t5 (n0 : Nat) (s0 b4 n5 bits6 i7 : Value) (ds : List Nat) (h : H) (K : KP) : Prop :=
  Bnd (aBin Tryd.prog true .add 3 i7 (.int .i64 1)) fun t15 =>
  K .normal [(0, s0), (4, b4), (5, n5), (6, bits6), (7, t15), (14, i7), (15, t15)] ds h
theorem F22.g5 {n0 : Nat} (s0 b4 n5 bits6 i7 : Value) {ds : List Nat} {h : H} {K : KP} : wA Tryd.prog n0 48 none F22.c5 [(0, s0), (4, b4), (5, n5), (6, bits6), (7, i7)] ds h K = F22.t5 n0 s0 b4 n5 bits6 i7 ds h K := by kernel_rfl
theorem F22.s5 {n0 : Nat} : F22.p5 n0 = wA Tryd.prog n0 48 none F22.c5 := by kernel_rfl
theorem F22.e5 {n0 : Nat} {s0 b4 n5 bits6 i7 : Value} {ds : List Nat} {h : H} {K : KP} : F22.p5 n0 [(0, s0), (4, b4), (5, n5), (6, bits6), (7, i7)] ds h K = F22.t5 n0 s0 b4 n5 bits6 i7 ds h K :=
  wchain (F22.s5) (F22.g5 s0 b4 n5 bits6 i7)
noncomputable def F22.t6 (n0 : Nat) (B7 : WP) (B8 : WP) (s0 b4 : Value) (ds : List Nat) (h : H) (K : KP) : Prop :=
  Bnd2 (cvt Tryd.prog 31 9 b4 h) fun t42 h1 =>
  Cn Tryd.prog n0 (.func 25) [t42] h1 fun t44 h2 =>
  Bnd (aBin Tryd.prog false .neq 9 t44 s0) fun t46 =>
  Cnd t46
   (B7 [(9, t42)] ds h2 (KSeq [9] B8 K))
   (B8 [(9, t42)] ds h2 K)
theorem F22.g6 {n0 : Nat} (B7 : WP) (B8 : WP) (s0 b4 : Value) {ds : List Nat} {h : H} {K : KP} : wA Tryd.prog n0 48 none (.seq [0, 9] F22.c6.fst (.seq [9] (.seq [9, 46] F22.c6.snd.fst.fst (.cond [9] (.tmp 46) (.sub B7) F22.c6.snd.fst.snd.snd)) (.sub B8))) [(0, s0), (4, b4)] ds h K = F22.t6 n0 B7 B8 s0 b4 ds h K := by kernel_rfl
theorem F22.s6 {n0 : Nat} : F22.p6 n0 = wA Tryd.prog n0 48 none (.seq [0, 9] F22.c6.fst (.seq [9] (.seq [9, 46] F22.c6.snd.fst.fst (.cond [9] (.tmp 46) (.sub (F22.p7 n0)) F22.c6.snd.fst.snd.snd)) (.sub (F22.p8 n0)))) := by kernel_rfl
theorem F22.e6 {n0 : Nat} {s0 b4 : Value} {ds : List Nat} {h : H} {K : KP} : F22.p6 n0 [(0, s0), (4, b4)] ds h K = F22.t6 n0 (F22.p7 n0) (F22.p8 n0) s0 b4 ds h K :=
  wchain (F22.s6) (F22.g6 (F22.p7 n0) (F22.p8 n0) s0 b4)
noncomputable def F22.t7 (n0 : Nat) (t9 : Value) (ds : List Nat) (h : H) (K : KP) : Prop :=
  K .ret [(2, (.string ⟨#[]⟩)), (3, (.int .i64 13))] ds h
theorem F22.g7 {n0 : Nat} (t9 : Value) {ds : List Nat} {h : H} {K : KP} : wA Tryd.prog n0 48 none F22.c7 [(9, t9)] ds h K = F22.t7 n0 t9 ds h K := by kernel_rfl
theorem F22.s7 {n0 : Nat} : F22.p7 n0 = wA Tryd.prog n0 48 none F22.c7 := by kernel_rfl
theorem F22.e7 {n0 : Nat} {t9 : Value} {ds : List Nat} {h : H} {K : KP} : F22.p7 n0 [(9, t9)] ds h K = F22.t7 n0 t9 ds h K :=
  wchain (F22.s7) (F22.g7 t9)
noncomputable def F22.t8 (n0 : Nat) (t9 : Value) (ds : List Nat) (h : H) (K : KP) : Prop :=
  K .ret [(2, t9), (3, (.int .i64 0))] ds h
theorem F22.g8 {n0 : Nat} (t9 : Value) {ds : List Nat} {h : H} {K : KP} : wA Tryd.prog n0 48 none F22.c8 [(9, t9)] ds h K = F22.t8 n0 t9 ds h K := by kernel_rfl
theorem F22.s8 {n0 : Nat} : F22.p8 n0 = wA Tryd.prog n0 48 none F22.c8 := by kernel_rfl
theorem F22.e8 {n0 : Nat} {t9 : Value} {ds : List Nat} {h : H} {K : KP} : F22.p8 n0 [(9, t9)] ds h K = F22.t8 n0 t9 ds h K :=
  wchain (F22.s8) (F22.g8 t9)
theorem F22.b : Tryd.f22.body = some F22.c0.erase := by kernel_rfl
theorem F22.b2 : (Tryd.f22.name == "runtime.NumGoroutine") = false := by kernel_rfl
theorem F22.b3 : Tryd.f22.ntmps = 48 := by kernel_rfl
theorem F22.b4 : Tryd.f22.results.toList = [.tmp 2, .tmp 3] := by kernel_rfl
theorem F22.enter {n0 : Nat} {x0 : Value} {h : H} {Q : Value → H → Prop} (w : F22.p0 n0 [(0, x0)] [] h (KFin Tryd.prog [.tmp 2, .tmp 3] Q)) : Cn Tryd.prog n0 (.func 22) [x0] h Q :=
  @fn_enter Tryd.prog n0 mixed 22 Tryd.f22 F22.c0 [x0] h Q Tryd.func22 F22.b F22.k0 F22.b2 48 F22.b3 [.tmp 2, .tmp 3] F22.b4 (by simp) [(0, x0)] rfl (wback F22.d0 w)

/-! roster.octet.Unbase64 -/
noncomputable def F23.ac : AC := (ann (bodyOf Tryd.f23) [[0], [0, 4], [0, 4, 5, 6], [0, 4], [0, 4, 5, 6, 10, 11], [0, 4], [0, 4, 5, 6, 10, 11], [0, 4, 5, 6, 10, 11, 12], [0, 4, 5, 6, 10, 11], [0, 4, 5, 6, 10, 11], [0, 4, 5, 6, 10, 11], [0, 4, 5, 6, 10, 11], [0, 4, 5, 6, 7, 10, 11], [0, 4, 5, 6, 8, 10, 11], [0, 4, 5, 6, 8, 10, 11], [0, 4, 5, 6, 8, 10, 11, 19], [0, 4, 5, 6, 8, 10, 11], [0, 4, 5, 6, 10, 11], [0, 4, 5, 6, 10, 11, 28], [0, 4, 5, 6, 10, 11], [0, 4, 5, 6, 10, 11], [4], [4, 40], [4], [2, 3], [2, 3]]).1
noncomputable def F23.c0 : AC := F23.ac
noncomputable def F23.c1 : AC := F23.ac.snd.snd.snd.fst.snd.fst.fst
noncomputable def F23.c2 : AC := F23.ac.snd.snd.snd.fst.snd.fst.fst.snd.snd
noncomputable def F23.c3 : AC := F23.ac.snd.snd.snd.fst.snd.fst.fst.snd.snd.fst.fst.snd.snd.snd
noncomputable def F23.c4 : AC := F23.ac.snd.snd.snd.fst.snd.fst.fst.snd.snd.fst.fst.snd.snd.snd.snd.snd.fst
noncomputable def F23.c5 : AC := F23.ac.snd.snd.snd.fst.snd.fst.fst.snd.snd.snd
noncomputable def F23.c6 : AC := F23.ac.snd.snd.snd.snd
noncomputable def F23.c7 : AC := F23.ac.snd.snd.snd.snd.fst.snd.fst
noncomputable def F23.c8 : AC := F23.ac.snd.snd.snd.snd.snd
noncomputable def F23.p0 (n0 : Nat) : WP := wA Tryd.prog n0 42 none F23.c0
noncomputable def F23.p1 (n0 : Nat) : WP := wA Tryd.prog n0 42 none F23.c1
noncomputable def F23.p2 (n0 : Nat) : WP := wA Tryd.prog n0 42 none F23.c2
noncomputable def F23.p3 (n0 : Nat) : WP := wA Tryd.prog n0 42 none F23.c3
noncomputable def F23.p4 (n0 : Nat) : WP := wA Tryd.prog n0 42 none F23.c4
noncomputable def F23.p5 (n0 : Nat) : WP := wA Tryd.prog n0 42 none F23.c5
noncomputable def F23.p6 (n0 : Nat) : WP := wA Tryd.prog n0 42 none F23.c6
noncomputable def F23.p7 (n0 : Nat) : WP := wA Tryd.prog n0 42 none F23.c7
noncomputable def F23.p8 (n0 : Nat) : WP := wA Tryd.prog n0 42 none F23.c8
noncomputable def F23.t0 (n0 : Nat) (B1 : WP) (B6 : WP) (s0 : Value) (ds : List Nat) (h : H) (K : KP) : Prop :=
  Nw (enc 0 35) (zc Tryd.prog 35) h fun b4 h1 =>
  Bnd2 (aBuiltin Tryd.prog .len #[9] [s0] h1) fun t10 h2 =>
  Lp [0, 4, 5, 6, 10, 11] B1 [(0, s0), (4, b4), (5, (.int .i64 0)), (6, (.int .i64 0)), (10, t10), (11, (.int .i64 0))] ds h2 (KBlk [0, 4] 0 (KSeq [0, 4] B6 K))
theorem F23.g0 {n0 : Nat} (B1 : WP) (B6 : WP) (s0 : Value) {ds : List Nat} {h : H} {K : KP} : wA Tryd.prog n0 42 none (.seq [0] F23.c0.fst (.seq [0, 4] F23.c0.snd.fst (.seq [0, 4, 5, 6] F23.c0.snd.snd.fst (.seq [0, 4] (.seq [0, 4, 5, 6, 10, 11] F23.c0.snd.snd.snd.fst.fst (.block [0, 4] 0 (.loop [0, 4, 5, 6, 10, 11] (.sub B1)))) (.sub B6))))) [(0, s0)] ds h K = F23.t0 n0 B1 B6 s0 ds h K := by kernel_rfl
theorem F23.s0 {n0 : Nat} : F23.p0 n0 = wA Tryd.prog n0 42 none (.seq [0] F23.c0.fst (.seq [0, 4] F23.c0.snd.fst (.seq [0, 4, 5, 6] F23.c0.snd.snd.fst (.seq [0, 4] (.seq [0, 4, 5, 6, 10, 11] F23.c0.snd.snd.snd.fst.fst (.block [0, 4] 0 (.loop [0, 4, 5, 6, 10, 11] (.sub (F23.p1 n0))))) (.sub (F23.p6 n0)))))) := by kernel_rfl
theorem F23.e0 {n0 : Nat} {s0 : Value} {ds : List Nat} {h : H} {K : KP} : F23.p0 n0 [(0, s0)] ds h K = F23.t0 n0 (F23.p1 n0) (F23.p6 n0) s0 ds h K :=
  wchain (F23.s0) (F23.g0 (F23.p1 n0) (F23.p6 n0) s0)
theorem F23.k0 : F23.c0.ok = true := by kernel_rfl
theorem F23.d0 {n0 : Nat} : F23.p0 n0 = wA Tryd.prog n0 42 none F23.c0 := by kernel_rfl
theorem F23.m0 (n0 : Nat) : MonoW (F23.p0 n0) := @mono_c Tryd.prog n0 42 none F23.c0 (F23.p0 n0) (F23.d0) F23.k0
noncomputable def F23.t1 (n0 : Nat) (B2 : WP) (s0 b4 bits5 have6 t10 t11 : Value) (ds : List Nat) (h : H) (K : KP) : Prop :=
  Bnd (aBin Tryd.prog false .lss 3 t11 t10) fun t12 =>
  Cnd t12
   (B2 [(0, s0), (4, b4), (5, bits5), (6, have6), (10, t10), (11, t11)] ds h K)
   (K (.exit 0) [(0, s0), (4, b4), (5, bits5), (6, have6), (10, t10), (11, t11)] ds h)
theorem F23.g1 {n0 : Nat} (B2 : WP) (s0 b4 bits5 have6 t10 t11 : Value) {ds : List Nat} {h : H} {K : KP} : wA Tryd.prog n0 42 none (.seq [0, 4, 5, 6, 10, 11, 12] F23.c1.fst (.seq [0, 4, 5, 6, 10, 11] F23.c1.snd.fst (.sub B2))) [(0, s0), (4, b4), (5, bits5), (6, have6), (10, t10), (11, t11)] ds h K = F23.t1 n0 B2 s0 b4 bits5 have6 t10 t11 ds h K := by kernel_rfl
theorem F23.s1 {n0 : Nat} : F23.p1 n0 = wA Tryd.prog n0 42 none (.seq [0, 4, 5, 6, 10, 11, 12] F23.c1.fst (.seq [0, 4, 5, 6, 10, 11] F23.c1.snd.fst (.sub (F23.p2 n0)))) := by kernel_rfl
theorem F23.e1 {n0 : Nat} {s0 b4 bits5 have6 t10 t11 : Value} {ds : List Nat} {h : H} {K : KP} : F23.p1 n0 [(0, s0), (4, b4), (5, bits5), (6, have6), (10, t10), (11, t11)] ds h K = F23.t1 n0 (F23.p2 n0) s0 b4 bits5 have6 t10 t11 ds h K :=
  wchain (F23.s1) (F23.g1 (F23.p2 n0) s0 b4 bits5 have6 t10 t11)
theorem F23.k1 : F23.c1.ok = true := by kernel_rfl
theorem F23.d1 {n0 : Nat} : F23.p1 n0 = wA Tryd.prog n0 42 none F23.c1 := by kernel_rfl
theorem F23.m1 (n0 : Nat) : MonoW (F23.p1 n0) := @mono_c Tryd.prog n0 42 none F23.c1 (F23.p1 n0) (F23.d1) F23.k1
noncomputable def F23.t2 (n0 : Nat) (B3 : WP) (B5 : WP) (s0 b4 bits5 have6 t10 t11 : Value) (ds : List Nat) (h : H) (K : KP) : Prop :=
  Bnd (aIndex Tryd.prog 9 s0 t11) fun t16 =>
  Cn Tryd.prog n0 (.func 40) [(.string ⟨#[65, 66, 67, 68, 69, 70, 71, 72, 73, 74, 75, 76, 77, 78, 79, 80, 81, 82, 83, 84, 85, 86, 87, 88, 89, 90, 97, 98, 99, 100, 101, 102, 103, 104, 105, 106, 107, 108, 109, 110, 111, 112, 113, 114, 115, 116, 117, 118, 119, 120, 121, 122, 48, 49, 50, 51, 52, 53, 54, 55, 56, 57, 43, 47]⟩), t16] h fun t17 h1 =>
  Bnd (aBin Tryd.prog true .lss 3 t17 (.int .i64 0)) fun t19 =>
  Cnd t19
   (K (.exit 0) [(0, s0), (4, b4), (5, bits5), (6, have6), (8, t17), (10, t10), (11, t11)] ds h1)
   (B3 [(0, s0), (4, b4), (5, bits5), (6, have6), (8, t17), (10, t10), (11, t11)] ds h1 (KBlk [0, 4, 5, 6, 10, 11] 1 (KSeq [0, 4, 5, 6, 10, 11] B5 K)))
theorem F23.g2 {n0 : Nat} (B3 : WP) (B5 : WP) (s0 b4 bits5 have6 t10 t11 : Value) {ds : List Nat} {h : H} {K : KP} : wA Tryd.prog n0 42 none (.seq [0, 4, 5, 6, 10, 11] (.block [0, 4, 5, 6, 10, 11] 1 (.seq [0, 4, 5, 6, 7, 10, 11] F23.c2.fst.fst.fst (.seq [0, 4, 5, 6, 8, 10, 11] F23.c2.fst.fst.snd.fst (.seq [0, 4, 5, 6, 8, 10, 11] F23.c2.fst.fst.snd.snd.fst (.sub B3))))) (.sub B5)) [(0, s0), (4, b4), (5, bits5), (6, have6), (10, t10), (11, t11)] ds h K = F23.t2 n0 B3 B5 s0 b4 bits5 have6 t10 t11 ds h K := by kernel_rfl
theorem F23.s2 {n0 : Nat} : F23.p2 n0 = wA Tryd.prog n0 42 none (.seq [0, 4, 5, 6, 10, 11] (.block [0, 4, 5, 6, 10, 11] 1 (.seq [0, 4, 5, 6, 7, 10, 11] F23.c2.fst.fst.fst (.seq [0, 4, 5, 6, 8, 10, 11] F23.c2.fst.fst.snd.fst (.seq [0, 4, 5, 6, 8, 10, 11] F23.c2.fst.fst.snd.snd.fst (.sub (F23.p3 n0)))))) (.sub (F23.p5 n0))) := by kernel_rfl
theorem F23.e2 {n0 : Nat} {s0 b4 bits5 have6 t10 t11 : Value} {ds : List Nat} {h : H} {K : KP} : F23.p2 n0 [(0, s0), (4, b4), (5, bits5), (6, have6), (10, t10), (11, t11)] ds h K = F23.t2 n0 (F23.p3 n0) (F23.p5 n0) s0 b4 bits5 have6 t10 t11 ds h K :=
  wchain (F23.s2) (F23.g2 (F23.p3 n0) (F23.p5 n0) s0 b4 bits5 have6 t10 t11)
noncomputable def F23.t3 (n0 : Nat) (B4 : WP) (s0 b4 bits5 have6 v8 t10 t11 : Value) (ds : List Nat) (h : H) (K : KP) : Prop :=
  Bnd (aBin Tryd.prog true .shl 3 bits5 (.int .u64 6)) fun t21 =>
  Bnd (aBin Tryd.prog true .and 3 t21 (.int .i64 65535)) fun t22 =>
  Bnd (aBin Tryd.prog false .or 3 t22 v8) fun t24 =>
  Bnd (aBin Tryd.prog true .add 3 have6 (.int .i64 6)) fun t26 =>
  Bnd (aBin Tryd.prog true .geq 3 t26 (.int .i64 8)) fun t28 =>
  Cnd t28
   (B4 [(0, s0), (4, b4), (5, t24), (6, t26), (10, t10), (11, t11)] ds h K)
   (K .normal [(0, s0), (4, b4), (5, t24), (6, t26), (10, t10), (11, t11)] ds h)
theorem F23.g3 {n0 : Nat} (B4 : WP) (s0 b4 bits5 have6 v8 t10 t11 : Value) {ds : List Nat} {h : H} {K : KP} : wA Tryd.prog n0 42 none (.seq [0, 4, 5, 6, 10, 11] F23.c3.fst (.seq [0, 4, 5, 6, 10, 11, 28] F23.c3.snd.fst (.cond [0, 4, 5, 6, 10, 11] (.tmp 28) (.sub B4) F23.c3.snd.snd.snd))) [(0, s0), (4, b4), (5, bits5), (6, have6), (8, v8), (10, t10), (11, t11)] ds h K = F23.t3 n0 B4 s0 b4 bits5 have6 v8 t10 t11 ds h K := by kernel_rfl
theorem F23.s3 {n0 : Nat} : F23.p3 n0 = wA Tryd.prog n0 42 none (.seq [0, 4, 5, 6, 10, 11] F23.c3.fst (.seq [0, 4, 5, 6, 10, 11, 28] F23.c3.snd.fst (.cond [0, 4, 5, 6, 10, 11] (.tmp 28) (.sub (F23.p4 n0)) F23.c3.snd.snd.snd))) := by kernel_rfl
theorem F23.e3 {n0 : Nat} {s0 b4 bits5 have6 v8 t10 t11 : Value} {ds : List Nat} {h : H} {K : KP} : F23.p3 n0 [(0, s0), (4, b4), (5, bits5), (6, have6), (8, v8), (10, t10), (11, t11)] ds h K = F23.t3 n0 (F23.p4 n0) s0 b4 bits5 have6 v8 t10 t11 ds h K :=
  wchain (F23.s3) (F23.g3 (F23.p4 n0) s0 b4 bits5 have6 v8 t10 t11)
noncomputable def F23.t4 (n0 : Nat) (s0 b4 bits5 have6 t10 t11 : Value) (ds : List Nat) (h : H) (K : KP) : Prop :=
  Bnd (aBin Tryd.prog true .sub 3 have6 (.int .i64 8)) fun t30 =>
  Bnd (aBin Tryd.prog false .shr 3 bits5 t30) fun t33 =>
  Bnd2 (cvt Tryd.prog 3 5 t33 h) fun t34 h1 =>
  Cn Tryd.prog n0 (.func 31) [b4, t34] h1 fun t35 h2 =>
  K .normal [(0, s0), (4, b4), (5, bits5), (6, t30), (10, t10), (11, t11), (31, bits5), (32, t30), (33, t33), (34, t34), (35, t35)] ds h2
theorem F23.g4 {n0 : Nat} (s0 b4 bits5 have6 t10 t11 : Value) {ds : List Nat} {h : H} {K : KP} : wA Tryd.prog n0 42 none F23.c4 [(0, s0), (4, b4), (5, bits5), (6, have6), (10, t10), (11, t11)] ds h K = F23.t4 n0 s0 b4 bits5 have6 t10 t11 ds h K := by kernel_rfl
theorem F23.s4 {n0 : Nat} : F23.p4 n0 = wA Tryd.prog n0 42 none F23.c4 := by kernel_rfl
theorem F23.e4 {n0 : Nat} {s0 b4 bits5 have6 t10 t11 : Value} {ds : List Nat} {h : H} {K : KP} : F23.p4 n0 [(0, s0), (4, b4), (5, bits5), (6, have6), (10, t10), (11, t11)] ds h K = F23.t4 n0 s0 b4 bits5 have6 t10 t11 ds h K :=
  wchain (F23.s4) (F23.g4 s0 b4 bits5 have6 t10 t11)
noncomputable def F23.t5 (n0 : Nat) (s0 b4 bits5 have6 t10 t11 : Value) (ds : List Nat) (h : H) (K : KP) : Prop :=
  Bnd (aBin Tryd.prog true .add 3 t11 (.int .i64 1)) fun t36 =>
  K .normal [(0, s0), (4, b4), (5, bits5), (6, have6), (10, t10), (11, t36), (36, t36)] ds h
theorem F23.g5 {n0 : Nat} (s0 b4 bits5 have6 t10 t11 : Value) {ds : List Nat} {h : H} {K : KP} : wA Tryd.prog n0 42 none F23.c5 [(0, s0), (4, b4), (5, bits5), (6, have6), (10, t10), (11, t11)] ds h K = F23.t5 n0 s0 b4 bits5 have6 t10 t11 ds h K := by kernel_rfl
theorem F23.s5 {n0 : Nat} : F23.p5 n0 = wA Tryd.prog n0 42 none F23.c5 := by kernel_rfl
theorem F23.e5 {n0 : Nat} {s0 b4 bits5 have6 t10 t11 : Value} {ds : List Nat} {h : H} {K : KP} : F23.p5 n0 [(0, s0), (4, b4), (5, bits5), (6, have6), (10, t10), (11, t11)] ds h K = F23.t5 n0 s0 b4 bits5 have6 t10 t11 ds h K :=
  wchain (F23.s5) (F23.g5 s0 b4 bits5 have6 t10 t11)
noncomputable def F23.t6 (n0 : Nat) (B7 : WP) (B8 : WP) (s0 b4 : Value) (ds : List Nat) (h : H) (K : KP) : Prop :=
  Cn Tryd.prog n0 (.func 32) [b4] h fun t37 h1 =>
  Cn Tryd.prog n0 (.func 24) [t37] h1 fun t38 h2 =>
  Bnd (aBin Tryd.prog false .neq 9 t38 s0) fun t40 =>
  Cnd t40
   (B7 [(4, b4)] ds h2 (KSeq [4] B8 K))
   (B8 [(4, b4)] ds h2 K)
theorem F23.g6 {n0 : Nat} (B7 : WP) (B8 : WP) (s0 b4 : Value) {ds : List Nat} {h : H} {K : KP} : wA Tryd.prog n0 42 none (.seq [4] (.seq [4, 40] F23.c6.fst.fst (.cond [4] (.tmp 40) (.sub B7) F23.c6.fst.snd.snd)) (.sub B8)) [(0, s0), (4, b4)] ds h K = F23.t6 n0 B7 B8 s0 b4 ds h K := by kernel_rfl
theorem F23.s6 {n0 : Nat} : F23.p6 n0 = wA Tryd.prog n0 42 none (.seq [4] (.seq [4, 40] F23.c6.fst.fst (.cond [4] (.tmp 40) (.sub (F23.p7 n0)) F23.c6.fst.snd.snd)) (.sub (F23.p8 n0))) := by kernel_rfl
theorem F23.e6 {n0 : Nat} {s0 b4 : Value} {ds : List Nat} {h : H} {K : KP} : F23.p6 n0 [(0, s0), (4, b4)] ds h K = F23.t6 n0 (F23.p7 n0) (F23.p8 n0) s0 b4 ds h K :=
  wchain (F23.s6) (F23.g6 (F23.p7 n0) (F23.p8 n0) s0 b4)
noncomputable def F23.t7 (n0 : Nat) (b4 : Value) (ds : List Nat) (h : H) (K : KP) : Prop :=
  K .ret [(2, (.string ⟨#[]⟩)), (3, (.int .i64 13))] ds h
theorem F23.g7 {n0 : Nat} (b4 : Value) {ds : List Nat} {h : H} {K : KP} : wA Tryd.prog n0 42 none F23.c7 [(4, b4)] ds h K = F23.t7 n0 b4 ds h K := by kernel_rfl
theorem F23.s7 {n0 : Nat} : F23.p7 n0 = wA Tryd.prog n0 42 none F23.c7 := by kernel_rfl
theorem F23.e7 {n0 : Nat} {b4 : Value} {ds : List Nat} {h : H} {K : KP} : F23.p7 n0 [(4, b4)] ds h K = F23.t7 n0 b4 ds h K :=
  wchain (F23.s7) (F23.g7 b4)
noncomputable def F23.t8 (n0 : Nat) (b4 : Value) (ds : List Nat) (h : H) (K : KP) : Prop :=
  Cn Tryd.prog n0 (.func 32) [b4] h fun t41 h1 =>
  K .ret [(2, t41), (3, (.int .i64 0))] ds h1
theorem F23.g8 {n0 : Nat} (b4 : Value) {ds : List Nat} {h : H} {K : KP} : wA Tryd.prog n0 42 none F23.c8 [(4, b4)] ds h K = F23.t8 n0 b4 ds h K := by kernel_rfl
theorem F23.s8 {n0 : Nat} : F23.p8 n0 = wA Tryd.prog n0 42 none F23.c8 := by kernel_rfl
theorem F23.e8 {n0 : Nat} {b4 : Value} {ds : List Nat} {h : H} {K : KP} : F23.p8 n0 [(4, b4)] ds h K = F23.t8 n0 b4 ds h K :=
  wchain (F23.s8) (F23.g8 b4)
theorem F23.b : Tryd.f23.body = some F23.c0.erase := by kernel_rfl
theorem F23.b2 : (Tryd.f23.name == "runtime.NumGoroutine") = false := by kernel_rfl
theorem F23.b3 : Tryd.f23.ntmps = 42 := by kernel_rfl
theorem F23.b4 : Tryd.f23.results.toList = [.tmp 2, .tmp 3] := by kernel_rfl
theorem F23.enter {n0 : Nat} {x0 : Value} {h : H} {Q : Value → H → Prop} (w : F23.p0 n0 [(0, x0)] [] h (KFin Tryd.prog [.tmp 2, .tmp 3] Q)) : Cn Tryd.prog n0 (.func 23) [x0] h Q :=
  @fn_enter Tryd.prog n0 mixed 23 Tryd.f23 F23.c0 [x0] h Q Tryd.func23 F23.b F23.k0 F23.b2 42 F23.b3 [.tmp 2, .tmp 3] F23.b4 (by simp) [(0, x0)] rfl (wback F23.d0 w)

/-! roster.octet.Base64 -/
noncomputable def F24.ac : AC := (ann (bodyOf Tryd.f24) [[0], [0, 3], [3], [3], [0, 3], [0, 3], [0, 3, 8], [0, 3], [0, 3], [0, 3], [0, 3, 4], [0, 3, 4], [0, 3, 4, 14], [0, 3, 4], [0, 3, 4, 14], [0, 3, 4, 14, 15], [0, 3, 4, 14], [0, 3, 4, 14], [0, 3, 4, 14], [0, 3, 4, 14], [0, 3, 4, 5, 14], [0, 3, 4, 5, 14], [0, 3, 4, 5, 14, 22], [0, 3, 4, 5, 14], [0, 3, 4, 30], [0, 3], [0, 3, 4, 30], [0, 3, 4, 30, 31], [0, 3, 4, 30], [0, 3, 4, 30], [0, 3, 4, 30], [0, 3, 4, 30], [0, 3, 4, 6, 30], [0, 3, 4, 6, 30, 36], [0, 3, 4, 6, 30], [2]]).1
noncomputable def F24.c0 : AC := F24.ac
noncomputable def F24.c1 : AC := F24.ac.snd.snd.fst.fst.fst
noncomputable def F24.c2 : AC := F24.ac.snd.snd.fst.fst.fst.snd
noncomputable def F24.c3 : AC := F24.ac.snd.snd.fst.fst.fst.snd.fst.fst.snd.fst.snd.fst.fst
noncomputable def F24.c4 : AC := F24.ac.snd.snd.fst.fst.fst.snd.fst.fst.snd.fst.snd.fst.fst.snd.snd
noncomputable def F24.c5 : AC := F24.ac.snd.snd.fst.fst.fst.snd.fst.fst.snd.fst.snd.fst.fst.snd.snd.fst.fst.snd.snd.snd.fst
noncomputable def F24.c6 : AC := F24.ac.snd.snd.fst.fst.fst.snd.fst.fst.snd.fst.snd.fst.fst.snd.snd.snd
noncomputable def F24.c7 : AC := F24.ac.snd.snd.fst.fst.fst.snd.fst.fst.snd.snd
noncomputable def F24.c8 : AC := F24.ac.snd.snd.fst.fst.fst.snd.fst.fst.snd.snd.snd.fst.fst
noncomputable def F24.c9 : AC := F24.ac.snd.snd.fst.fst.fst.snd.fst.fst.snd.snd.snd.fst.fst.snd.snd
noncomputable def F24.c10 : AC := F24.ac.snd.snd.fst.fst.fst.snd.fst.fst.snd.snd.snd.fst.fst.snd.snd.fst.fst.snd.snd.fst
noncomputable def F24.c11 : AC := F24.ac.snd.snd.fst.fst.fst.snd.fst.fst.snd.snd.snd.fst.fst.snd.snd.fst.fst.snd.snd.snd
noncomputable def F24.c12 : AC := F24.ac.snd.snd.fst.fst.fst.snd.fst.fst.snd.snd.snd.fst.fst.snd.snd.snd
noncomputable def F24.c13 : AC := F24.ac.snd.snd.fst.fst.fst.snd.snd
noncomputable def F24.c14 : AC := F24.ac.snd.snd.snd
noncomputable def F24.p0 (n0 : Nat) : WP := wA Tryd.prog n0 48 none F24.c0
noncomputable def F24.p1 (n0 : Nat) : WP := wA Tryd.prog n0 48 none F24.c1
noncomputable def F24.p2 (n0 : Nat) : WP := wA Tryd.prog n0 48 none F24.c2
noncomputable def F24.p3 (n0 : Nat) : WP := wA Tryd.prog n0 48 none F24.c3
noncomputable def F24.p4 (n0 : Nat) : WP := wA Tryd.prog n0 48 none F24.c4
noncomputable def F24.p5 (n0 : Nat) : WP := wA Tryd.prog n0 48 none F24.c5
noncomputable def F24.p6 (n0 : Nat) : WP := wA Tryd.prog n0 48 none F24.c6
noncomputable def F24.p7 (n0 : Nat) : WP := wA Tryd.prog n0 48 none F24.c7
noncomputable def F24.p8 (n0 : Nat) : WP := wA Tryd.prog n0 48 none F24.c8
noncomputable def F24.p9 (n0 : Nat) : WP := wA Tryd.prog n0 48 none F24.c9
noncomputable def F24.p10 (n0 : Nat) : WP := wA Tryd.prog n0 48 none F24.c10
noncomputable def F24.p11 (n0 : Nat) : WP := wA Tryd.prog n0 48 none F24.c11
noncomputable def F24.p12 (n0 : Nat) : WP := wA Tryd.prog n0 48 none F24.c12
noncomputable def F24.p13 (n0 : Nat) : WP := wA Tryd.prog n0 48 none F24.c13
noncomputable def F24.p14 (n0 : Nat) : WP := wA Tryd.prog n0 48 none F24.c14
noncomputable def F24.t0 (n0 : Nat) (B1 : WP) (B14 : WP) (s0 : Value) (ds : List Nat) (h : H) (K : KP) : Prop :=
  Nw (enc 0 35) (zc Tryd.prog 35) h fun b3 h1 =>
  Lp [0, 3] B1 [(0, s0), (3, b3)] ds h1 (KBlk [3] 0 (KSeq [3] B14 K))
theorem F24.g0 {n0 : Nat} (B1 : WP) (B14 : WP) (s0 : Value) {ds : List Nat} {h : H} {K : KP} : wA Tryd.prog n0 48 none (.seq [0] F24.c0.fst (.seq [0, 3] F24.c0.snd.fst (.seq [3] (.block [3] 0 (.loop [0, 3] (.sub B1))) (.sub B14)))) [(0, s0)] ds h K = F24.t0 n0 B1 B14 s0 ds h K := by kernel_rfl
theorem F24.s0 {n0 : Nat} : F24.p0 n0 = wA Tryd.prog n0 48 none (.seq [0] F24.c0.fst (.seq [0, 3] F24.c0.snd.fst (.seq [3] (.block [3] 0 (.loop [0, 3] (.sub (F24.p1 n0)))) (.sub (F24.p14 n0))))) := by kernel_rfl
theorem F24.e0 {n0 : Nat} {s0 : Value} {ds : List Nat} {h : H} {K : KP} : F24.p0 n0 [(0, s0)] ds h K = F24.t0 n0 (F24.p1 n0) (F24.p14 n0) s0 ds h K :=
  wchain (F24.s0) (F24.g0 (F24.p1 n0) (F24.p14 n0) s0)
theorem F24.k0 : F24.c0.ok = true := by kernel_rfl
theorem F24.d0 {n0 : Nat} : F24.p0 n0 = wA Tryd.prog n0 48 none F24.c0 := by kernel_rfl
theorem F24.m0 (n0 : Nat) : MonoW (F24.p0 n0) := @mono_c Tryd.prog n0 48 none F24.c0 (F24.p0 n0) (F24.d0) F24.k0
noncomputable def F24.t1 (n0 : Nat) (B2 : WP) (s0 b3 : Value) (ds : List Nat) (h : H) (K : KP) : Prop :=
  Bnd (aBin Tryd.prog true .neq 9 s0 (.string ⟨#[]⟩)) fun t8 =>
  Cnd t8
   (B2 [(0, s0), (3, b3)] ds h K)
   (K (.exit 0) [(0, s0), (3, b3)] ds h)
theorem F24.g1 {n0 : Nat} (B2 : WP) (s0 b3 : Value) {ds : List Nat} {h : H} {K : KP} : wA Tryd.prog n0 48 none (.seq [0, 3] F24.c1.fst (.sub B2)) [(0, s0), (3, b3)] ds h K = F24.t1 n0 B2 s0 b3 ds h K := by kernel_rfl
theorem F24.s1 {n0 : Nat} : F24.p1 n0 = wA Tryd.prog n0 48 none (.seq [0, 3] F24.c1.fst (.sub (F24.p2 n0))) := by kernel_rfl
theorem F24.e1 {n0 : Nat} {s0 b3 : Value} {ds : List Nat} {h : H} {K : KP} : F24.p1 n0 [(0, s0), (3, b3)] ds h K = F24.t1 n0 (F24.p2 n0) s0 b3 ds h K :=
  wchain (F24.s1) (F24.g1 (F24.p2 n0) s0 b3)
theorem F24.k1 : F24.c1.ok = true := by kernel_rfl
theorem F24.d1 {n0 : Nat} : F24.p1 n0 = wA Tryd.prog n0 48 none F24.c1 := by kernel_rfl
theorem F24.m1 (n0 : Nat) : MonoW (F24.p1 n0) := @mono_c Tryd.prog n0 48 none F24.c1 (F24.p1 n0) (F24.d1) F24.k1
noncomputable def F24.t2 (n0 : Nat) (B3 : WP) (B7 : WP) (B13 : WP) (s0 b3 : Value) (ds : List Nat) (h : H) (K : KP) : Prop :=
  Lp [0, 3, 4, 14] B3 [(0, s0), (3, b3), (4, (.int .i64 0)), (14, (.int .i64 0))] ds h (KBlk [0, 3, 4] 2 (KSeq [0, 3, 4] B7 (KBlk [0, 3] 1 (KSeq [0, 3] B13 K))))
theorem F24.g2 {n0 : Nat} (B3 : WP) (B7 : WP) (B13 : WP) (s0 b3 : Value) {ds : List Nat} {h : H} {K : KP} : wA Tryd.prog n0 48 none (.seq [0, 3] (.block [0, 3] 1 (.seq [0, 3, 4] F24.c2.fst.fst.fst (.seq [0, 3, 4] (.seq [0, 3, 4, 14] F24.c2.fst.fst.snd.fst.fst (.block [0, 3, 4] 2 (.loop [0, 3, 4, 14] (.sub B3)))) (.sub B7)))) (.sub B13)) [(0, s0), (3, b3)] ds h K = F24.t2 n0 B3 B7 B13 s0 b3 ds h K := by kernel_rfl
theorem F24.s2 {n0 : Nat} : F24.p2 n0 = wA Tryd.prog n0 48 none (.seq [0, 3] (.block [0, 3] 1 (.seq [0, 3, 4] F24.c2.fst.fst.fst (.seq [0, 3, 4] (.seq [0, 3, 4, 14] F24.c2.fst.fst.snd.fst.fst (.block [0, 3, 4] 2 (.loop [0, 3, 4, 14] (.sub (F24.p3 n0))))) (.sub (F24.p7 n0))))) (.sub (F24.p13 n0))) := by kernel_rfl
theorem F24.e2 {n0 : Nat} {s0 b3 : Value} {ds : List Nat} {h : H} {K : KP} : F24.p2 n0 [(0, s0), (3, b3)] ds h K = F24.t2 n0 (F24.p3 n0) (F24.p7 n0) (F24.p13 n0) s0 b3 ds h K :=
  wchain (F24.s2) (F24.g2 (F24.p3 n0) (F24.p7 n0) (F24.p13 n0) s0 b3)
noncomputable def F24.t3 (n0 : Nat) (B4 : WP) (s0 b3 group4 t14 : Value) (ds : List Nat) (h : H) (K : KP) : Prop :=
  Bnd (aBin Tryd.prog true .lss 3 t14 (.int .i64 3)) fun t15 =>
  Cnd t15
   (B4 [(0, s0), (3, b3), (4, group4), (14, t14)] ds h K)
   (K (.exit 2) [(0, s0), (3, b3), (4, group4), (14, t14)] ds h)
theorem F24.g3 {n0 : Nat} (B4 : WP) (s0 b3 group4 t14 : Value) {ds : List Nat} {h : H} {K : KP} : wA Tryd.prog n0 48 none (.seq [0, 3, 4, 14, 15] F24.c3.fst (.seq [0, 3, 4, 14] F24.c3.snd.fst (.sub B4))) [(0, s0), (3, b3), (4, group4), (14, t14)] ds h K = F24.t3 n0 B4 s0 b3 group4 t14 ds h K := by kernel_rfl
theorem F24.s3 {n0 : Nat} : F24.p3 n0 = wA Tryd.prog n0 48 none (.seq [0, 3, 4, 14, 15] F24.c3.fst (.seq [0, 3, 4, 14] F24.c3.snd.fst (.sub (F24.p4 n0)))) := by kernel_rfl
theorem F24.e3 {n0 : Nat} {s0 b3 group4 t14 : Value} {ds : List Nat} {h : H} {K : KP} : F24.p3 n0 [(0, s0), (3, b3), (4, group4), (14, t14)] ds h K = F24.t3 n0 (F24.p4 n0) s0 b3 group4 t14 ds h K :=
  wchain (F24.s3) (F24.g3 (F24.p4 n0) s0 b3 group4 t14)
theorem F24.k3 : F24.c3.ok = true := by kernel_rfl
theorem F24.d3 {n0 : Nat} : F24.p3 n0 = wA Tryd.prog n0 48 none F24.c3 := by kernel_rfl
theorem F24.m3 (n0 : Nat) : MonoW (F24.p3 n0) := @mono_c Tryd.prog n0 48 none F24.c3 (F24.p3 n0) (F24.d3) F24.k3
noncomputable def F24.t4 (n0 : Nat) (B5 : WP) (B6 : WP) (s0 b3 group4 t14 : Value) (ds : List Nat) (h : H) (K : KP) : Prop :=
  Bnd (aBin Tryd.prog true .shl 3 group4 (.int .u64 8)) fun t18 =>
  Bnd2 (aBuiltin Tryd.prog .len #[9] [s0] h) fun t21 h1 =>
  Bnd (aBin Tryd.prog false .lss 3 t14 t21) fun t22 =>
  Cnd t22
   (B5 [(0, s0), (3, b3), (4, t18), (5, t14), (14, t14)] ds h1 (KBlk [0, 3, 4, 14] 3 (KSeq [0, 3, 4, 14] B6 K)))
   (B6 [(0, s0), (3, b3), (4, t18), (14, t14)] ds h1 K)
theorem F24.g4 {n0 : Nat} (B5 : WP) (B6 : WP) (s0 b3 group4 t14 : Value) {ds : List Nat} {h : H} {K : KP} : wA Tryd.prog n0 48 none (.seq [0, 3, 4, 14] (.block [0, 3, 4, 14] 3 (.seq [0, 3, 4, 5, 14] F24.c4.fst.fst.fst (.seq [0, 3, 4, 5, 14] F24.c4.fst.fst.snd.fst (.seq [0, 3, 4, 5, 14, 22] F24.c4.fst.fst.snd.snd.fst (.cond [0, 3, 4, 5, 14] (.tmp 22) (.sub B5) F24.c4.fst.fst.snd.snd.snd.snd))))) (.sub B6)) [(0, s0), (3, b3), (4, group4), (14, t14)] ds h K = F24.t4 n0 B5 B6 s0 b3 group4 t14 ds h K := by kernel_rfl
theorem F24.s4 {n0 : Nat} : F24.p4 n0 = wA Tryd.prog n0 48 none (.seq [0, 3, 4, 14] (.block [0, 3, 4, 14] 3 (.seq [0, 3, 4, 5, 14] F24.c4.fst.fst.fst (.seq [0, 3, 4, 5, 14] F24.c4.fst.fst.snd.fst (.seq [0, 3, 4, 5, 14, 22] F24.c4.fst.fst.snd.snd.fst (.cond [0, 3, 4, 5, 14] (.tmp 22) (.sub (F24.p5 n0)) F24.c4.fst.fst.snd.snd.snd.snd))))) (.sub (F24.p6 n0))) := by kernel_rfl
theorem F24.e4 {n0 : Nat} {s0 b3 group4 t14 : Value} {ds : List Nat} {h : H} {K : KP} : F24.p4 n0 [(0, s0), (3, b3), (4, group4), (14, t14)] ds h K = F24.t4 n0 (F24.p5 n0) (F24.p6 n0) s0 b3 group4 t14 ds h K :=
  wchain (F24.s4) (F24.g4 (F24.p5 n0) (F24.p6 n0) s0 b3 group4 t14)
noncomputable def F24.t5 (n0 : Nat) (s0 b3 group4 i5 t14 : Value) (ds : List Nat) (h : H) (K : KP) : Prop :=
  Bnd (aIndex Tryd.prog 9 s0 i5) fun t26 =>
  Bnd2 (cvt Tryd.prog 5 3 t26 h) fun t27 h1 =>
  Bnd (aBin Tryd.prog false .or 3 group4 t27) fun t28 =>
  K .normal [(0, s0), (3, b3), (4, t28), (5, i5), (14, t14), (23, group4), (24, s0), (25, i5), (26, t26), (27, t27), (28, t28)] ds h1
theorem F24.g5 {n0 : Nat} (s0 b3 group4 i5 t14 : Value) {ds : List Nat} {h : H} {K : KP} : wA Tryd.prog n0 48 none F24.c5 [(0, s0), (3, b3), (4, group4), (5, i5), (14, t14)] ds h K = F24.t5 n0 s0 b3 group4 i5 t14 ds h K := by kernel_rfl
theorem F24.s5 {n0 : Nat} : F24.p5 n0 = wA Tryd.prog n0 48 none F24.c5 := by kernel_rfl
theorem F24.e5 {n0 : Nat} {s0 b3 group4 i5 t14 : Value} {ds : List Nat} {h : H} {K : KP} : F24.p5 n0 [(0, s0), (3, b3), (4, group4), (5, i5), (14, t14)] ds h K = F24.t5 n0 s0 b3 group4 i5 t14 ds h K :=
  wchain (F24.s5) (F24.g5 s0 b3 group4 i5 t14)
noncomputable def F24.t6 (n0 : Nat) (s0 b3 group4 t14 : Value) (ds : List Nat) (h : H) (K : KP) : Prop :=
  Bnd (aBin Tryd.prog true .add 3 t14 (.int .i64 1)) fun t29 =>
  K .normal [(0, s0), (3, b3), (4, group4), (14, t29), (29, t29)] ds h
theorem F24.g6 {n0 : Nat} (s0 b3 group4 t14 : Value) {ds : List Nat} {h : H} {K : KP} : wA Tryd.prog n0 48 none F24.c6 [(0, s0), (3, b3), (4, group4), (14, t14)] ds h K = F24.t6 n0 s0 b3 group4 t14 ds h K := by kernel_rfl
theorem F24.s6 {n0 : Nat} : F24.p6 n0 = wA Tryd.prog n0 48 none F24.c6 := by kernel_rfl
theorem F24.e6 {n0 : Nat} {s0 b3 group4 t14 : Value} {ds : List Nat} {h : H} {K : KP} : F24.p6 n0 [(0, s0), (3, b3), (4, group4), (14, t14)] ds h K = F24.t6 n0 s0 b3 group4 t14 ds h K :=
  wchain (F24.s6) (F24.g6 s0 b3 group4 t14)
noncomputable def F24.t7 (n0 : Nat) (B8 : WP) (s0 b3 group4 : Value) (ds : List Nat) (h : H) (K : KP) : Prop :=
  Lp [0, 3, 4, 30] B8 [(0, s0), (3, b3), (4, group4), (30, (.int .i64 0))] ds h (KBlk [0, 3] 4 K)
theorem F24.g7 {n0 : Nat} (B8 : WP) (s0 b3 group4 : Value) {ds : List Nat} {h : H} {K : KP} : wA Tryd.prog n0 48 none (.seq [0, 3, 4, 30] F24.c7.fst (.block [0, 3] 4 (.loop [0, 3, 4, 30] (.sub B8)))) [(0, s0), (3, b3), (4, group4)] ds h K = F24.t7 n0 B8 s0 b3 group4 ds h K := by kernel_rfl
theorem F24.s7 {n0 : Nat} : F24.p7 n0 = wA Tryd.prog n0 48 none (.seq [0, 3, 4, 30] F24.c7.fst (.block [0, 3] 4 (.loop [0, 3, 4, 30] (.sub (F24.p8 n0))))) := by kernel_rfl
theorem F24.e7 {n0 : Nat} {s0 b3 group4 : Value} {ds : List Nat} {h : H} {K : KP} : F24.p7 n0 [(0, s0), (3, b3), (4, group4)] ds h K = F24.t7 n0 (F24.p8 n0) s0 b3 group4 ds h K :=
  wchain (F24.s7) (F24.g7 (F24.p8 n0) s0 b3 group4)
noncomputable def F24.t8 (n0 : Nat) (B9 : WP) (s0 b3 group4 t30 : Value) (ds : List Nat) (h : H) (K : KP) : Prop :=
  Bnd (aBin Tryd.prog true .lss 3 t30 (.int .i64 4)) fun t31 =>
  Cnd t31
   (B9 [(0, s0), (3, b3), (4, group4), (30, t30)] ds h K)
   (K (.exit 4) [(0, s0), (3, b3), (4, group4), (30, t30)] ds h)
theorem F24.g8 {n0 : Nat} (B9 : WP) (s0 b3 group4 t30 : Value) {ds : List Nat} {h : H} {K : KP} : wA Tryd.prog n0 48 none (.seq [0, 3, 4, 30, 31] F24.c8.fst (.seq [0, 3, 4, 30] F24.c8.snd.fst (.sub B9))) [(0, s0), (3, b3), (4, group4), (30, t30)] ds h K = F24.t8 n0 B9 s0 b3 group4 t30 ds h K := by kernel_rfl
theorem F24.s8 {n0 : Nat} : F24.p8 n0 = wA Tryd.prog n0 48 none (.seq [0, 3, 4, 30, 31] F24.c8.fst (.seq [0, 3, 4, 30] F24.c8.snd.fst (.sub (F24.p9 n0)))) := by kernel_rfl
theorem F24.e8 {n0 : Nat} {s0 b3 group4 t30 : Value} {ds : List Nat} {h : H} {K : KP} : F24.p8 n0 [(0, s0), (3, b3), (4, group4), (30, t30)] ds h K = F24.t8 n0 (F24.p9 n0) s0 b3 group4 t30 ds h K :=
  wchain (F24.s8) (F24.g8 (F24.p9 n0) s0 b3 group4 t30)
theorem F24.k8 : F24.c8.ok = true := by kernel_rfl
theorem F24.d8 {n0 : Nat} : F24.p8 n0 = wA Tryd.prog n0 48 none F24.c8 := by kernel_rfl
theorem F24.m8 (n0 : Nat) : MonoW (F24.p8 n0) := @mono_c Tryd.prog n0 48 none F24.c8 (F24.p8 n0) (F24.d8) F24.k8
noncomputable def F24.t9 (n0 : Nat) (B10 : WP) (B11 : WP) (B12 : WP) (s0 b3 group4 t30 : Value) (ds : List Nat) (h : H) (K : KP) : Prop :=
  Bnd2 (aBuiltin Tryd.prog .len #[9] [s0] h) fun t35 h1 =>
  Bnd (aBin Tryd.prog false .gtr 3 t30 t35) fun t36 =>
  Cnd t36
   (B10 [(0, s0), (3, b3), (4, group4), (6, t30), (30, t30)] ds h1 (KBlk [0, 3, 4, 30] 5 (KSeq [0, 3, 4, 30] B12 K)))
   (B11 [(0, s0), (3, b3), (4, group4), (6, t30), (30, t30)] ds h1 (KBlk [0, 3, 4, 30] 5 (KSeq [0, 3, 4, 30] B12 K)))
theorem F24.g9 {n0 : Nat} (B10 : WP) (B11 : WP) (B12 : WP) (s0 b3 group4 t30 : Value) {ds : List Nat} {h : H} {K : KP} : wA Tryd.prog n0 48 none (.seq [0, 3, 4, 30] (.block [0, 3, 4, 30] 5 (.seq [0, 3, 4, 6, 30] F24.c9.fst.fst.fst (.seq [0, 3, 4, 6, 30, 36] F24.c9.fst.fst.snd.fst (.cond [0, 3, 4, 6, 30] (.tmp 36) (.sub B10) (.sub B11))))) (.sub B12)) [(0, s0), (3, b3), (4, group4), (30, t30)] ds h K = F24.t9 n0 B10 B11 B12 s0 b3 group4 t30 ds h K := by kernel_rfl
theorem F24.s9 {n0 : Nat} : F24.p9 n0 = wA Tryd.prog n0 48 none (.seq [0, 3, 4, 30] (.block [0, 3, 4, 30] 5 (.seq [0, 3, 4, 6, 30] F24.c9.fst.fst.fst (.seq [0, 3, 4, 6, 30, 36] F24.c9.fst.fst.snd.fst (.cond [0, 3, 4, 6, 30] (.tmp 36) (.sub (F24.p10 n0)) (.sub (F24.p11 n0)))))) (.sub (F24.p12 n0))) := by kernel_rfl
theorem F24.e9 {n0 : Nat} {s0 b3 group4 t30 : Value} {ds : List Nat} {h : H} {K : KP} : F24.p9 n0 [(0, s0), (3, b3), (4, group4), (30, t30)] ds h K = F24.t9 n0 (F24.p10 n0) (F24.p11 n0) (F24.p12 n0) s0 b3 group4 t30 ds h K :=
  wchain (F24.s9) (F24.g9 (F24.p10 n0) (F24.p11 n0) (F24.p12 n0) s0 b3 group4 t30)
noncomputable def F24.t10 (n0 : Nat) (s0 b3 group4 i6 t30 : Value) (ds : List Nat) (h : H) (K : KP) : Prop :=
  Cn Tryd.prog n0 (.func 31) [b3, (.int .u8 61)] h fun t37 h1 =>
  K .normal [(0, s0), (3, b3), (4, group4), (6, i6), (30, t30), (37, t37)] ds h1
theorem F24.g10 {n0 : Nat} (s0 b3 group4 i6 t30 : Value) {ds : List Nat} {h : H} {K : KP} : wA Tryd.prog n0 48 none F24.c10 [(0, s0), (3, b3), (4, group4), (6, i6), (30, t30)] ds h K = F24.t10 n0 s0 b3 group4 i6 t30 ds h K := by kernel_rfl
theorem F24.s10 {n0 : Nat} : F24.p10 n0 = wA Tryd.prog n0 48 none F24.c10 := by kernel_rfl
theorem F24.e10 {n0 : Nat} {s0 b3 group4 i6 t30 : Value} {ds : List Nat} {h : H} {K : KP} : F24.p10 n0 [(0, s0), (3, b3), (4, group4), (6, i6), (30, t30)] ds h K = F24.t10 n0 s0 b3 group4 i6 t30 ds h K :=
  wchain (F24.s10) (F24.g10 s0 b3 group4 i6 t30)
noncomputable def F24.t11 (n0 : Nat) (s0 b3 group4 i6 t30 : Value) (ds : List Nat) (h : H) (K : KP) : Prop :=
  Bnd (aBin Tryd.prog true .mul 3 (.int .i64 6) i6) fun t40 =>
  Bnd (aBin Tryd.prog true .sub 3 (.int .i64 18) t40) fun t41 =>
  Bnd (aBin Tryd.prog false .shr 3 group4 t41) fun t42 =>
  Bnd (aBin Tryd.prog true .and 3 t42 (.int .i64 63)) fun t43 =>
  Bnd (aIndex Tryd.prog 9 (.string ⟨#[65, 66, 67, 68, 69, 70, 71, 72, 73, 74, 75, 76, 77, 78, 79, 80, 81, 82, 83, 84, 85, 86, 87, 88, 89, 90, 97, 98, 99, 100, 101, 102, 103, 104, 105, 106, 107, 108, 109, 110, 111, 112, 113, 114, 115, 116, 117, 118, 119, 120, 121, 122, 48, 49, 50, 51, 52, 53, 54, 55, 56, 57, 43, 47]⟩) t43) fun t44 =>
  Cn Tryd.prog n0 (.func 31) [b3, t44] h fun t45 h1 =>
  K .normal [(0, s0), (3, b3), (4, group4), (6, i6), (30, t30), (38, group4), (39, i6), (40, t40), (41, t41), (42, t42), (43, t43), (44, t44), (45, t45)] ds h1
theorem F24.g11 {n0 : Nat} (s0 b3 group4 i6 t30 : Value) {ds : List Nat} {h : H} {K : KP} : wA Tryd.prog n0 48 none F24.c11 [(0, s0), (3, b3), (4, group4), (6, i6), (30, t30)] ds h K = F24.t11 n0 s0 b3 group4 i6 t30 ds h K := by kernel_rfl
theorem F24.s11 {n0 : Nat} : F24.p11 n0 = wA Tryd.prog n0 48 none F24.c11 := by kernel_rfl
theorem F24.e11 {n0 : Nat} {s0 b3 group4 i6 t30 : Value} {ds : List Nat} {h : H} {K : KP} : F24.p11 n0 [(0, s0), (3, b3), (4, group4), (6, i6), (30, t30)] ds h K = F24.t11 n0 s0 b3 group4 i6 t30 ds h K :=
  wchain (F24.s11) (F24.g11 s0 b3 group4 i6 t30)
noncomputable def F24.t12 (n0 : Nat) (s0 b3 group4 t30 : Value) (ds : List Nat) (h : H) (K : KP) : Prop :=
  Bnd (aBin Tryd.prog true .add 3 t30 (.int .i64 1)) fun t46 =>
  K .normal [(0, s0), (3, b3), (4, group4), (30, t46), (46, t46)] ds h
theorem F24.g12 {n0 : Nat} (s0 b3 group4 t30 : Value) {ds : List Nat} {h : H} {K : KP} : wA Tryd.prog n0 48 none F24.c12 [(0, s0), (3, b3), (4, group4), (30, t30)] ds h K = F24.t12 n0 s0 b3 group4 t30 ds h K := by kernel_rfl
theorem F24.s12 {n0 : Nat} : F24.p12 n0 = wA Tryd.prog n0 48 none F24.c12 := by kernel_rfl
theorem F24.e12 {n0 : Nat} {s0 b3 group4 t30 : Value} {ds : List Nat} {h : H} {K : KP} : F24.p12 n0 [(0, s0), (3, b3), (4, group4), (30, t30)] ds h K = F24.t12 n0 s0 b3 group4 t30 ds h K :=
  wchain (F24.s12) (F24.g12 s0 b3 group4 t30)
noncomputable def F24.t13 (n0 : Nat) (s0 b3 : Value) (ds : List Nat) (h : H) (K : KP) : Prop :=
  Bnd2 (aBuiltin Tryd.prog .len #[9] [s0] h) fun t11 h1 =>
  Bnd2 (aBuiltin Tryd.prog .min #[3, 3] [(.int .i64 3), t11] h1) fun t12 h2 =>
  Bnd (aSlice Tryd.prog 9 s0 (some t12) none none h2) fun t13 =>
  K .normal [(0, t13), (3, b3), (9, s0), (10, s0), (11, t11), (12, t12), (13, t13)] ds h2
theorem F24.g13 {n0 : Nat} (s0 b3 : Value) {ds : List Nat} {h : H} {K : KP} : wA Tryd.prog n0 48 none F24.c13 [(0, s0), (3, b3)] ds h K = F24.t13 n0 s0 b3 ds h K := by kernel_rfl
theorem F24.s13 {n0 : Nat} : F24.p13 n0 = wA Tryd.prog n0 48 none F24.c13 := by kernel_rfl
theorem F24.e13 {n0 : Nat} {s0 b3 : Value} {ds : List Nat} {h : H} {K : KP} : F24.p13 n0 [(0, s0), (3, b3)] ds h K = F24.t13 n0 s0 b3 ds h K :=
  wchain (F24.s13) (F24.g13 s0 b3)
noncomputable def F24.t14 (n0 : Nat) (b3 : Value) (ds : List Nat) (h : H) (K : KP) : Prop :=
  Cn Tryd.prog n0 (.func 32) [b3] h fun t47 h1 =>
  K .ret [(2, t47)] ds h1
theorem F24.g14 {n0 : Nat} (b3 : Value) {ds : List Nat} {h : H} {K : KP} : wA Tryd.prog n0 48 none F24.c14 [(3, b3)] ds h K = F24.t14 n0 b3 ds h K := by kernel_rfl
theorem F24.s14 {n0 : Nat} : F24.p14 n0 = wA Tryd.prog n0 48 none F24.c14 := by kernel_rfl
theorem F24.e14 {n0 : Nat} {b3 : Value} {ds : List Nat} {h : H} {K : KP} : F24.p14 n0 [(3, b3)] ds h K = F24.t14 n0 b3 ds h K :=
  wchain (F24.s14) (F24.g14 b3)
theorem F24.b : Tryd.f24.body = some F24.c0.erase := by kernel_rfl
theorem F24.b2 : (Tryd.f24.name == "runtime.NumGoroutine") = false := by kernel_rfl
theorem F24.b3 : Tryd.f24.ntmps = 48 := by kernel_rfl
theorem F24.b4 : Tryd.f24.results.toList = [.tmp 2] := by kernel_rfl
theorem F24.enter {n0 : Nat} {x0 : Value} {h : H} {Q : Value → H → Prop} (w : F24.p0 n0 [(0, x0)] [] h (KFin Tryd.prog [.tmp 2] Q)) : Cn Tryd.prog n0 (.func 24) [x0] h Q :=
  @fn_enter Tryd.prog n0 mixed 24 Tryd.f24 F24.c0 [x0] h Q Tryd.func24 F24.b F24.k0 F24.b2 48 F24.b3 [.tmp 2] F24.b4 (by simp) [(0, x0)] rfl (wback F24.d0 w)

/-! roster.rosterref01.Base64 -/
noncomputable def F25.ac : AC := (ann (bodyOf Tryd.f25) [[0], [0, 3], [3], [0, 3, 4], [3], [0, 3, 4], [0, 3, 4], [0, 3, 4, 13], [0, 3, 4], [0, 3, 4], [0, 3, 4], [0, 3, 4, 5], [0, 3, 4, 5, 6], [0, 3, 4, 5, 6], [0, 3, 4, 5, 6, 7], [0, 3, 4, 5, 6], [0, 3, 4, 5, 6, 7], [0, 3, 4, 5, 6, 7], [0, 3, 4, 5, 6, 7, 17], [0, 3, 4, 5, 6, 7], [0, 3, 4, 5, 6, 7], [0, 3, 4, 5, 6, 7], [0, 3, 4, 5, 6, 7], [0, 3, 4, 5, 6, 7, 27], [0, 3, 4, 5, 6, 7], [0, 3, 4, 5, 6, 7], [0, 3, 4, 6, 8], [0, 3, 4, 8], [0, 3, 4, 8, 9], [0, 3, 4, 8], [0, 3, 4, 8, 9], [0, 3, 4, 8, 9], [0, 3, 4, 8, 9, 56], [0, 3, 4, 8, 9], [0, 3, 4, 8, 9], [0, 3, 4, 8, 9], [2]]).1
noncomputable def F25.c0 : AC := F25.ac
noncomputable def F25.c1 : AC := F25.ac.snd.snd.fst.snd.fst.fst
noncomputable def F25.c2 : AC := F25.ac.snd.snd.fst.snd.fst.fst.snd
noncomputable def F25.c3 : AC := F25.ac.snd.snd.fst.snd.fst.fst.snd.fst.fst.snd.snd.fst.snd.fst.fst
noncomputable def F25.c4 : AC := F25.ac.snd.snd.fst.snd.fst.fst.snd.fst.fst.snd.snd.fst.snd.fst.fst.snd
noncomputable def F25.c5 : AC := F25.ac.snd.snd.fst.snd.fst.fst.snd.fst.fst.snd.snd.fst.snd.fst.fst.snd.fst.fst.snd.snd.fst
noncomputable def F25.c6 : AC := F25.ac.snd.snd.fst.snd.fst.fst.snd.fst.fst.snd.snd.fst.snd.fst.fst.snd.snd
noncomputable def F25.c7 : AC := F25.ac.snd.snd.fst.snd.fst.fst.snd.fst.fst.snd.snd.snd
noncomputable def F25.c8 : AC := F25.ac.snd.snd.fst.snd.fst.fst.snd.fst.fst.snd.snd.snd.snd.fst.snd.fst.fst
noncomputable def F25.c9 : AC := F25.ac.snd.snd.fst.snd.fst.fst.snd.fst.fst.snd.snd.snd.snd.fst.snd.fst.fst.snd
noncomputable def F25.c10 : AC := F25.ac.snd.snd.fst.snd.fst.fst.snd.fst.fst.snd.snd.snd.snd.fst.snd.fst.fst.snd.snd
noncomputable def F25.c11 : AC := F25.ac.snd.snd.fst.snd.fst.fst.snd.fst.fst.snd.snd.snd.snd.snd
noncomputable def F25.c12 : AC := F25.ac.snd.snd.fst.snd.fst.fst.snd.snd
noncomputable def F25.c13 : AC := F25.ac.snd.snd.snd
noncomputable def F25.p0 (n0 : Nat) : WP := wA Tryd.prog n0 67 none F25.c0
noncomputable def F25.p1 (n0 : Nat) : WP := wA Tryd.prog n0 67 none F25.c1
noncomputable def F25.p2 (n0 : Nat) : WP := wA Tryd.prog n0 67 none F25.c2
noncomputable def F25.p3 (n0 : Nat) : WP := wA Tryd.prog n0 67 none F25.c3
noncomputable def F25.p4 (n0 : Nat) : WP := wA Tryd.prog n0 67 none F25.c4
noncomputable def F25.p5 (n0 : Nat) : WP := wA Tryd.prog n0 67 none F25.c5
noncomputable def F25.p6 (n0 : Nat) : WP := wA Tryd.prog n0 67 none F25.c6
noncomputable def F25.p7 (n0 : Nat) : WP := wA Tryd.prog n0 67 none F25.c7
noncomputable def F25.p8 (n0 : Nat) : WP := wA Tryd.prog n0 67 none F25.c8
noncomputable def F25.p9 (n0 : Nat) : WP := wA Tryd.prog n0 67 none F25.c9
noncomputable def F25.p10 (n0 : Nat) : WP := wA Tryd.prog n0 67 none F25.c10
noncomputable def F25.p11 (n0 : Nat) : WP := wA Tryd.prog n0 67 none F25.c11
noncomputable def F25.p12 (n0 : Nat) : WP := wA Tryd.prog n0 67 none F25.c12
noncomputable def F25.p13 (n0 : Nat) : WP := wA Tryd.prog n0 67 none F25.c13
noncomputable def F25.t0 (n0 : Nat) (B1 : WP) (B13 : WP) (s0 : Value) (ds : List Nat) (h : H) (K : KP) : Prop :=
  Lp [0, 3, 4] B1 [(0, s0), (3, (.slice none 0 0)), (4, (.int .i64 0))] ds h (KBlk [3] 0 (KSeq [3] B13 K))
theorem F25.g0 {n0 : Nat} (B1 : WP) (B13 : WP) (s0 : Value) {ds : List Nat} {h : H} {K : KP} : wA Tryd.prog n0 67 none (.seq [0] F25.c0.fst (.seq [0, 3] F25.c0.snd.fst (.seq [3] (.seq [0, 3, 4] F25.c0.snd.snd.fst.fst (.block [3] 0 (.loop [0, 3, 4] (.sub B1)))) (.sub B13)))) [(0, s0)] ds h K = F25.t0 n0 B1 B13 s0 ds h K := by kernel_rfl
theorem F25.s0 {n0 : Nat} : F25.p0 n0 = wA Tryd.prog n0 67 none (.seq [0] F25.c0.fst (.seq [0, 3] F25.c0.snd.fst (.seq [3] (.seq [0, 3, 4] F25.c0.snd.snd.fst.fst (.block [3] 0 (.loop [0, 3, 4] (.sub (F25.p1 n0))))) (.sub (F25.p13 n0))))) := by kernel_rfl
theorem F25.e0 {n0 : Nat} {s0 : Value} {ds : List Nat} {h : H} {K : KP} : F25.p0 n0 [(0, s0)] ds h K = F25.t0 n0 (F25.p1 n0) (F25.p13 n0) s0 ds h K :=
  wchain (F25.s0) (F25.g0 (F25.p1 n0) (F25.p13 n0) s0)
theorem F25.k0 : F25.c0.ok = true := by kernel_rfl
theorem F25.d0 {n0 : Nat} : F25.p0 n0 = wA Tryd.prog n0 67 none F25.c0 := by kernel_rfl
theorem F25.m0 (n0 : Nat) : MonoW (F25.p0 n0) := @mono_c Tryd.prog n0 67 none F25.c0 (F25.p0 n0) (F25.d0) F25.k0
noncomputable def F25.t1 (n0 : Nat) (B2 : WP) (s0 b3 i4 : Value) (ds : List Nat) (h : H) (K : KP) : Prop :=
  Bnd2 (aBuiltin Tryd.prog .len #[9] [s0] h) fun t12 h1 =>
  Bnd (aBin Tryd.prog false .lss 3 i4 t12) fun t13 =>
  Cnd t13
   (B2 [(0, s0), (3, b3), (4, i4)] ds h1 K)
   (K (.exit 0) [(0, s0), (3, b3), (4, i4)] ds h1)
theorem F25.g1 {n0 : Nat} (B2 : WP) (s0 b3 i4 : Value) {ds : List Nat} {h : H} {K : KP} : wA Tryd.prog n0 67 none (.seq [0, 3, 4] F25.c1.fst (.sub B2)) [(0, s0), (3, b3), (4, i4)] ds h K = F25.t1 n0 B2 s0 b3 i4 ds h K := by kernel_rfl
theorem F25.s1 {n0 : Nat} : F25.p1 n0 = wA Tryd.prog n0 67 none (.seq [0, 3, 4] F25.c1.fst (.sub (F25.p2 n0))) := by kernel_rfl
theorem F25.e1 {n0 : Nat} {s0 b3 i4 : Value} {ds : List Nat} {h : H} {K : KP} : F25.p1 n0 [(0, s0), (3, b3), (4, i4)] ds h K = F25.t1 n0 (F25.p2 n0) s0 b3 i4 ds h K :=
  wchain (F25.s1) (F25.g1 (F25.p2 n0) s0 b3 i4)
theorem F25.k1 : F25.c1.ok = true := by kernel_rfl
theorem F25.d1 {n0 : Nat} : F25.p1 n0 = wA Tryd.prog n0 67 none F25.c1 := by kernel_rfl
theorem F25.m1 (n0 : Nat) : MonoW (F25.p1 n0) := @mono_c Tryd.prog n0 67 none F25.c1 (F25.p1 n0) (F25.d1) F25.k1
noncomputable def F25.t2 (n0 : Nat) (B3 : WP) (B7 : WP) (B12 : WP) (s0 b3 i4 : Value) (ds : List Nat) (h : H) (K : KP) : Prop :=
  Lp [0, 3, 4, 5, 6, 7] B3 [(0, s0), (3, b3), (4, i4), (5, (.int .i64 0)), (6, (.int .i64 0)), (7, (.int .i64 0))] ds h (KBlk [0, 3, 4, 5, 6] 2 (KSeq [0, 3, 4, 5, 6] B7 (KBlk [0, 3, 4] 1 (KSeq [0, 3, 4] B12 K))))
theorem F25.g2 {n0 : Nat} (B3 : WP) (B7 : WP) (B12 : WP) (s0 b3 i4 : Value) {ds : List Nat} {h : H} {K : KP} : wA Tryd.prog n0 67 none (.seq [0, 3, 4] (.block [0, 3, 4] 1 (.seq [0, 3, 4, 5] F25.c2.fst.fst.fst (.seq [0, 3, 4, 5, 6] F25.c2.fst.fst.snd.fst (.seq [0, 3, 4, 5, 6] (.seq [0, 3, 4, 5, 6, 7] F25.c2.fst.fst.snd.snd.fst.fst (.block [0, 3, 4, 5, 6] 2 (.loop [0, 3, 4, 5, 6, 7] (.sub B3)))) (.sub B7))))) (.sub B12)) [(0, s0), (3, b3), (4, i4)] ds h K = F25.t2 n0 B3 B7 B12 s0 b3 i4 ds h K := by kernel_rfl
theorem F25.s2 {n0 : Nat} : F25.p2 n0 = wA Tryd.prog n0 67 none (.seq [0, 3, 4] (.block [0, 3, 4] 1 (.seq [0, 3, 4, 5] F25.c2.fst.fst.fst (.seq [0, 3, 4, 5, 6] F25.c2.fst.fst.snd.fst (.seq [0, 3, 4, 5, 6] (.seq [0, 3, 4, 5, 6, 7] F25.c2.fst.fst.snd.snd.fst.fst (.block [0, 3, 4, 5, 6] 2 (.loop [0, 3, 4, 5, 6, 7] (.sub (F25.p3 n0))))) (.sub (F25.p7 n0)))))) (.sub (F25.p12 n0))) := by kernel_rfl
theorem F25.e2 {n0 : Nat} {s0 b3 i4 : Value} {ds : List Nat} {h : H} {K : KP} : F25.p2 n0 [(0, s0), (3, b3), (4, i4)] ds h K = F25.t2 n0 (F25.p3 n0) (F25.p7 n0) (F25.p12 n0) s0 b3 i4 ds h K :=
  wchain (F25.s2) (F25.g2 (F25.p3 n0) (F25.p7 n0) (F25.p12 n0) s0 b3 i4)
noncomputable def F25.t3 (n0 : Nat) (B4 : WP) (s0 b3 i4 n5 have6 k7 : Value) (ds : List Nat) (h : H) (K : KP) : Prop :=
  Bnd (aBin Tryd.prog true .lss 3 k7 (.int .i64 3)) fun t17 =>
  Cnd t17
   (B4 [(0, s0), (3, b3), (4, i4), (5, n5), (6, have6), (7, k7)] ds h K)
   (K (.exit 2) [(0, s0), (3, b3), (4, i4), (5, n5), (6, have6), (7, k7)] ds h)
theorem F25.g3 {n0 : Nat} (B4 : WP) (s0 b3 i4 n5 have6 k7 : Value) {ds : List Nat} {h : H} {K : KP} : wA Tryd.prog n0 67 none (.seq [0, 3, 4, 5, 6, 7] F25.c3.fst (.sub B4)) [(0, s0), (3, b3), (4, i4), (5, n5), (6, have6), (7, k7)] ds h K = F25.t3 n0 B4 s0 b3 i4 n5 have6 k7 ds h K := by kernel_rfl
theorem F25.s3 {n0 : Nat} : F25.p3 n0 = wA Tryd.prog n0 67 none (.seq [0, 3, 4, 5, 6, 7] F25.c3.fst (.sub (F25.p4 n0))) := by kernel_rfl
theorem F25.e3 {n0 : Nat} {s0 b3 i4 n5 have6 k7 : Value} {ds : List Nat} {h : H} {K : KP} : F25.p3 n0 [(0, s0), (3, b3), (4, i4), (5, n5), (6, have6), (7, k7)] ds h K = F25.t3 n0 (F25.p4 n0) s0 b3 i4 n5 have6 k7 ds h K :=
  wchain (F25.s3) (F25.g3 (F25.p4 n0) s0 b3 i4 n5 have6 k7)
theorem F25.k3 : F25.c3.ok = true := by kernel_rfl
theorem F25.d3 {n0 : Nat} : F25.p3 n0 = wA Tryd.prog n0 67 none F25.c3 := by kernel_rfl
theorem F25.m3 (n0 : Nat) : MonoW (F25.p3 n0) := @mono_c Tryd.prog n0 67 none F25.c3 (F25.p3 n0) (F25.d3) F25.k3
noncomputable def F25.t4 (n0 : Nat) (B5 : WP) (B6 : WP) (s0 b3 i4 n5 have6 k7 : Value) (ds : List Nat) (h : H) (K : KP) : Prop :=
  Bnd (aBin Tryd.prog true .mul 3 (.int .i64 256) n5) fun t21 =>
  Bnd (aBin Tryd.prog false .add 3 i4 k7) fun t24 =>
  Bnd2 (aBuiltin Tryd.prog .len #[9] [s0] h) fun t26 h1 =>
  Bnd (aBin Tryd.prog false .lss 3 t24 t26) fun t27 =>
  Cnd t27
   (B5 [(0, s0), (3, b3), (4, i4), (5, t21), (6, have6), (7, k7)] ds h1 (KBlk [0, 3, 4, 5, 6, 7] 3 (KSeq [0, 3, 4, 5, 6, 7] B6 K)))
   (B6 [(0, s0), (3, b3), (4, i4), (5, t21), (6, have6), (7, k7)] ds h1 K)
theorem F25.g4 {n0 : Nat} (B5 : WP) (B6 : WP) (s0 b3 i4 n5 have6 k7 : Value) {ds : List Nat} {h : H} {K : KP} : wA Tryd.prog n0 67 none (.seq [0, 3, 4, 5, 6, 7] (.block [0, 3, 4, 5, 6, 7] 3 (.seq [0, 3, 4, 5, 6, 7] F25.c4.fst.fst.fst (.seq [0, 3, 4, 5, 6, 7, 27] F25.c4.fst.fst.snd.fst (.cond [0, 3, 4, 5, 6, 7] (.tmp 27) (.sub B5) F25.c4.fst.fst.snd.snd.snd)))) (.sub B6)) [(0, s0), (3, b3), (4, i4), (5, n5), (6, have6), (7, k7)] ds h K = F25.t4 n0 B5 B6 s0 b3 i4 n5 have6 k7 ds h K := by kernel_rfl
theorem F25.s4 {n0 : Nat} : F25.p4 n0 = wA Tryd.prog n0 67 none (.seq [0, 3, 4, 5, 6, 7] (.block [0, 3, 4, 5, 6, 7] 3 (.seq [0, 3, 4, 5, 6, 7] F25.c4.fst.fst.fst (.seq [0, 3, 4, 5, 6, 7, 27] F25.c4.fst.fst.snd.fst (.cond [0, 3, 4, 5, 6, 7] (.tmp 27) (.sub (F25.p5 n0)) F25.c4.fst.fst.snd.snd.snd)))) (.sub (F25.p6 n0))) := by kernel_rfl
theorem F25.e4 {n0 : Nat} {s0 b3 i4 n5 have6 k7 : Value} {ds : List Nat} {h : H} {K : KP} : F25.p4 n0 [(0, s0), (3, b3), (4, i4), (5, n5), (6, have6), (7, k7)] ds h K = F25.t4 n0 (F25.p5 n0) (F25.p6 n0) s0 b3 i4 n5 have6 k7 ds h K :=
  wchain (F25.s4) (F25.g4 (F25.p5 n0) (F25.p6 n0) s0 b3 i4 n5 have6 k7)
noncomputable def F25.t5 (n0 : Nat) (s0 b3 i4 n5 have6 k7 : Value) (ds : List Nat) (h : H) (K : KP) : Prop :=
  Bnd (aBin Tryd.prog false .add 3 i4 k7) fun t32 =>
  Bnd (aIndex Tryd.prog 9 s0 t32) fun t33 =>
  Bnd2 (cvt Tryd.prog 5 3 t33 h) fun t34 h1 =>
  Bnd (aBin Tryd.prog false .add 3 n5 t34) fun t35 =>
  Bnd (aBin Tryd.prog true .add 3 have6 (.int .i64 1)) fun t37 =>
  K .normal [(0, s0), (3, b3), (4, i4), (5, t35), (6, t37), (7, k7), (36, have6), (37, t37)] ds h1
theorem F25.g5 {n0 : Nat} (s0 b3 i4 n5 have6 k7 : Value) {ds : List Nat} {h : H} {K : KP} : wA Tryd.prog n0 67 none F25.c5 [(0, s0), (3, b3), (4, i4), (5, n5), (6, have6), (7, k7)] ds h K = F25.t5 n0 s0 b3 i4 n5 have6 k7 ds h K := by kernel_rfl
theorem F25.s5 {n0 : Nat} : F25.p5 n0 = wA Tryd.prog n0 67 none F25.c5 := by kernel_rfl
theorem F25.e5 {n0 : Nat} {s0 b3 i4 n5 have6 k7 : Value} {ds : List Nat} {h : H} {K : KP} : F25.p5 n0 [(0, s0), (3, b3), (4, i4), (5, n5), (6, have6), (7, k7)] ds h K = F25.t5 n0 s0 b3 i4 n5 have6 k7 ds h K :=
  wchain (F25.s5) (F25.g5 s0 b3 i4 n5 have6 k7)
noncomputable def F25.t6 (n0 : Nat) (s0 b3 i4 n5 have6 k7 : Value) (ds : List Nat) (h : H) (K : KP) : Prop :=
  Bnd (aBin Tryd.prog true .add 3 k7 (.int .i64 1)) fun t19 =>
  K .normal [(0, s0), (3, b3), (4, i4), (5, n5), (6, have6), (7, t19), (18, k7), (19, t19)] ds h
theorem F25.g6 {n0 : Nat} (s0 b3 i4 n5 have6 k7 : Value) {ds : List Nat} {h : H} {K : KP} : wA Tryd.prog n0 67 none F25.c6 [(0, s0), (3, b3), (4, i4), (5, n5), (6, have6), (7, k7)] ds h K = F25.t6 n0 s0 b3 i4 n5 have6 k7 ds h K := by kernel_rfl
theorem F25.s6 {n0 : Nat} : F25.p6 n0 = wA Tryd.prog n0 67 none F25.c6 := by kernel_rfl
theorem F25.e6 {n0 : Nat} {s0 b3 i4 n5 have6 k7 : Value} {ds : List Nat} {h : H} {K : KP} : F25.p6 n0 [(0, s0), (3, b3), (4, i4), (5, n5), (6, have6), (7, k7)] ds h K = F25.t6 n0 s0 b3 i4 n5 have6 k7 ds h K :=
  wchain (F25.s6) (F25.g6 s0 b3 i4 n5 have6 k7)
noncomputable def F25.t7 (n0 : Nat) (B8 : WP) (B11 : WP) (s0 b3 i4 n5 have6 : Value) (ds : List Nat) (h : H) (K : KP) : Prop :=
  Bnd (aBin Tryd.prog true .quo 3 n5 (.int .i64 262144)) fun t39 =>
  Bnd (aIndex Tryd.prog 9 (.string ⟨#[65, 66, 67, 68, 69, 70, 71, 72, 73, 74, 75, 76, 77, 78, 79, 80, 81, 82, 83, 84, 85, 86, 87, 88, 89, 90, 97, 98, 99, 100, 101, 102, 103, 104, 105, 106, 107, 108, 109, 110, 111, 112, 113, 114, 115, 116, 117, 118, 119, 120, 121, 122, 48, 49, 50, 51, 52, 53, 54, 55, 56, 57, 43, 47]⟩) t39) fun t40 =>
  Bnd (aBin Tryd.prog true .quo 3 n5 (.int .i64 4096)) fun t42 =>
  Bnd (aBin Tryd.prog true .rem 3 t42 (.int .i64 64)) fun t43 =>
  Bnd (aIndex Tryd.prog 9 (.string ⟨#[65, 66, 67, 68, 69, 70, 71, 72, 73, 74, 75, 76, 77, 78, 79, 80, 81, 82, 83, 84, 85, 86, 87, 88, 89, 90, 97, 98, 99, 100, 101, 102, 103, 104, 105, 106, 107, 108, 109, 110, 111, 112, 113, 114, 115, 116, 117, 118, 119, 120, 121, 122, 48, 49, 50, 51, 52, 53, 54, 55, 56, 57, 43, 47]⟩) t43) fun t44 =>
  Bnd (aBin Tryd.prog true .quo 3 n5 (.int .i64 64)) fun t46 =>
  Bnd (aBin Tryd.prog true .rem 3 t46 (.int .i64 64)) fun t47 =>
  Bnd (aIndex Tryd.prog 9 (.string ⟨#[65, 66, 67, 68, 69, 70, 71, 72, 73, 74, 75, 76, 77, 78, 79, 80, 81, 82, 83, 84, 85, 86, 87, 88, 89, 90, 97, 98, 99, 100, 101, 102, 103, 104, 105, 106, 107, 108, 109, 110, 111, 112, 113, 114, 115, 116, 117, 118, 119, 120, 121, 122, 48, 49, 50, 51, 52, 53, 54, 55, 56, 57, 43, 47]⟩) t47) fun t48 =>
  Bnd (aBin Tryd.prog true .rem 3 n5 (.int .i64 64)) fun t50 =>
  Bnd (aIndex Tryd.prog 9 (.string ⟨#[65, 66, 67, 68, 69, 70, 71, 72, 73, 74, 75, 76, 77, 78, 79, 80, 81, 82, 83, 84, 85, 86, 87, 88, 89, 90, 97, 98, 99, 100, 101, 102, 103, 104, 105, 106, 107, 108, 109, 110, 111, 112, 113, 114, 115, 116, 117, 118, 119, 120, 121, 122, 48, 49, 50, 51, 52, 53, 54, 55, 56, 57, 43, 47]⟩) t50) fun t51 =>
  Bnd2 (aBuildSlice Tryd.prog 31 4 [(0, t40), (1, t44), (2, t48), (3, t51)] h) fun t52 h1 =>
  Bnd (aBin Tryd.prog true .add 3 have6 (.int .i64 1)) fun t54 =>
  Lp [0, 3, 4, 8, 9] B8 [(0, s0), (3, b3), (4, i4), (8, t52), (9, t54)] ds h1 (KBlk [0, 3, 4, 8] 4 (KSeq [0, 3, 4, 8] B11 K))
theorem F25.g7 {n0 : Nat} (B8 : WP) (B11 : WP) (s0 b3 i4 n5 have6 : Value) {ds : List Nat} {h : H} {K : KP} : wA Tryd.prog n0 67 none (.seq [0, 3, 4, 6, 8] F25.c7.fst (.seq [0, 3, 4, 8] (.seq [0, 3, 4, 8, 9] F25.c7.snd.fst.fst (.block [0, 3, 4, 8] 4 (.loop [0, 3, 4, 8, 9] (.sub B8)))) (.sub B11))) [(0, s0), (3, b3), (4, i4), (5, n5), (6, have6)] ds h K = F25.t7 n0 B8 B11 s0 b3 i4 n5 have6 ds h K := by kernel_rfl
theorem F25.s7 {n0 : Nat} : F25.p7 n0 = wA Tryd.prog n0 67 none (.seq [0, 3, 4, 6, 8] F25.c7.fst (.seq [0, 3, 4, 8] (.seq [0, 3, 4, 8, 9] F25.c7.snd.fst.fst (.block [0, 3, 4, 8] 4 (.loop [0, 3, 4, 8, 9] (.sub (F25.p8 n0))))) (.sub (F25.p11 n0)))) := by kernel_rfl
theorem F25.e7 {n0 : Nat} {s0 b3 i4 n5 have6 : Value} {ds : List Nat} {h : H} {K : KP} : F25.p7 n0 [(0, s0), (3, b3), (4, i4), (5, n5), (6, have6)] ds h K = F25.t7 n0 (F25.p8 n0) (F25.p11 n0) s0 b3 i4 n5 have6 ds h K :=
  wchain (F25.s7) (F25.g7 (F25.p8 n0) (F25.p11 n0) s0 b3 i4 n5 have6)
noncomputable def F25.t8 (n0 : Nat) (B9 : WP) (s0 b3 i4 four8 k9 : Value) (ds : List Nat) (h : H) (K : KP) : Prop :=
  Bnd (aBin Tryd.prog true .lss 3 k9 (.int .i64 4)) fun t56 =>
  Cnd t56
   (B9 [(0, s0), (3, b3), (4, i4), (8, four8), (9, k9)] ds h K)
   (K (.exit 4) [(0, s0), (3, b3), (4, i4), (8, four8), (9, k9)] ds h)
theorem F25.g8 {n0 : Nat} (B9 : WP) (s0 b3 i4 four8 k9 : Value) {ds : List Nat} {h : H} {K : KP} : wA Tryd.prog n0 67 none (.seq [0, 3, 4, 8, 9] F25.c8.fst (.sub B9)) [(0, s0), (3, b3), (4, i4), (8, four8), (9, k9)] ds h K = F25.t8 n0 B9 s0 b3 i4 four8 k9 ds h K := by kernel_rfl
theorem F25.s8 {n0 : Nat} : F25.p8 n0 = wA Tryd.prog n0 67 none (.seq [0, 3, 4, 8, 9] F25.c8.fst (.sub (F25.p9 n0))) := by kernel_rfl
theorem F25.e8 {n0 : Nat} {s0 b3 i4 four8 k9 : Value} {ds : List Nat} {h : H} {K : KP} : F25.p8 n0 [(0, s0), (3, b3), (4, i4), (8, four8), (9, k9)] ds h K = F25.t8 n0 (F25.p9 n0) s0 b3 i4 four8 k9 ds h K :=
  wchain (F25.s8) (F25.g8 (F25.p9 n0) s0 b3 i4 four8 k9)
theorem F25.k8 : F25.c8.ok = true := by kernel_rfl
theorem F25.d8 {n0 : Nat} : F25.p8 n0 = wA Tryd.prog n0 67 none F25.c8 := by kernel_rfl
theorem F25.m8 (n0 : Nat) : MonoW (F25.p8 n0) := @mono_c Tryd.prog n0 67 none F25.c8 (F25.p8 n0) (F25.d8) F25.k8
noncomputable def F25.t9 (n0 : Nat) (B10 : WP) (s0 b3 i4 four8 k9 : Value) (ds : List Nat) (h : H) (K : KP) : Prop :=
  Bnd (aIndexAddr Tryd.prog 31 four8 k9) fun t61 =>
  Bnd (aStore Tryd.prog 5 t61 (.int .u8 61) h) fun h1 =>
  B10 [(0, s0), (3, b3), (4, i4), (8, four8), (9, k9)] ds h1 K
theorem F25.g9 {n0 : Nat} (B10 : WP) (s0 b3 i4 four8 k9 : Value) {ds : List Nat} {h : H} {K : KP} : wA Tryd.prog n0 67 none (.seq [0, 3, 4, 8, 9] F25.c9.fst (.sub B10)) [(0, s0), (3, b3), (4, i4), (8, four8), (9, k9)] ds h K = F25.t9 n0 B10 s0 b3 i4 four8 k9 ds h K := by kernel_rfl
theorem F25.s9 {n0 : Nat} : F25.p9 n0 = wA Tryd.prog n0 67 none (.seq [0, 3, 4, 8, 9] F25.c9.fst (.sub (F25.p10 n0))) := by kernel_rfl
theorem F25.e9 {n0 : Nat} {s0 b3 i4 four8 k9 : Value} {ds : List Nat} {h : H} {K : KP} : F25.p9 n0 [(0, s0), (3, b3), (4, i4), (8, four8), (9, k9)] ds h K = F25.t9 n0 (F25.p10 n0) s0 b3 i4 four8 k9 ds h K :=
  wchain (F25.s9) (F25.g9 (F25.p10 n0) s0 b3 i4 four8 k9)
noncomputable def F25.t10 (n0 : Nat) (s0 b3 i4 four8 k9 : Value) (ds : List Nat) (h : H) (K : KP) : Prop :=
  Bnd (aBin Tryd.prog true .add 3 k9 (.int .i64 1)) fun t58 =>
  K .normal [(0, s0), (3, b3), (4, i4), (8, four8), (9, t58), (57, k9), (58, t58)] ds h
theorem F25.g10 {n0 : Nat} (s0 b3 i4 four8 k9 : Value) {ds : List Nat} {h : H} {K : KP} : wA Tryd.prog n0 67 none F25.c10 [(0, s0), (3, b3), (4, i4), (8, four8), (9, k9)] ds h K = F25.t10 n0 s0 b3 i4 four8 k9 ds h K := by kernel_rfl
theorem F25.s10 {n0 : Nat} : F25.p10 n0 = wA Tryd.prog n0 67 none F25.c10 := by kernel_rfl
theorem F25.e10 {n0 : Nat} {s0 b3 i4 four8 k9 : Value} {ds : List Nat} {h : H} {K : KP} : F25.p10 n0 [(0, s0), (3, b3), (4, i4), (8, four8), (9, k9)] ds h K = F25.t10 n0 s0 b3 i4 four8 k9 ds h K :=
  wchain (F25.s10) (F25.g10 s0 b3 i4 four8 k9)
noncomputable def F25.t11 (n0 : Nat) (s0 b3 i4 four8 : Value) (ds : List Nat) (h : H) (K : KP) : Prop :=
  Bnd2 (aBuiltin Tryd.prog .append #[31, 31] [b3, four8] h) fun t64 h1 =>
  K .normal [(0, s0), (3, t64), (4, i4), (8, four8), (62, b3), (63, four8), (64, t64)] ds h1
theorem F25.g11 {n0 : Nat} (s0 b3 i4 four8 : Value) {ds : List Nat} {h : H} {K : KP} : wA Tryd.prog n0 67 none F25.c11 [(0, s0), (3, b3), (4, i4), (8, four8)] ds h K = F25.t11 n0 s0 b3 i4 four8 ds h K := by kernel_rfl
theorem F25.s11 {n0 : Nat} : F25.p11 n0 = wA Tryd.prog n0 67 none F25.c11 := by kernel_rfl
theorem F25.e11 {n0 : Nat} {s0 b3 i4 four8 : Value} {ds : List Nat} {h : H} {K : KP} : F25.p11 n0 [(0, s0), (3, b3), (4, i4), (8, four8)] ds h K = F25.t11 n0 s0 b3 i4 four8 ds h K :=
  wchain (F25.s11) (F25.g11 s0 b3 i4 four8)
noncomputable def F25.t12 (n0 : Nat) (s0 b3 i4 : Value) (ds : List Nat) (h : H) (K : KP) : Prop :=
  Bnd (aBin Tryd.prog true .add 3 i4 (.int .i64 3)) fun t15 =>
  K .normal [(0, s0), (3, b3), (4, t15), (14, i4), (15, t15)] ds h
theorem F25.g12 {n0 : Nat} (s0 b3 i4 : Value) {ds : List Nat} {h : H} {K : KP} : wA Tryd.prog n0 67 none F25.c12 [(0, s0), (3, b3), (4, i4)] ds h K = F25.t12 n0 s0 b3 i4 ds h K := by kernel_rfl
theorem F25.s12 {n0 : Nat} : F25.p12 n0 = wA Tryd.prog n0 67 none F25.c12 := by kernel_rfl
theorem F25.e12 {n0 : Nat} {s0 b3 i4 : Value} {ds : List Nat} {h : H} {K : KP} : F25.p12 n0 [(0, s0), (3, b3), (4, i4)] ds h K = F25.t12 n0 s0 b3 i4 ds h K :=
  wchain (F25.s12) (F25.g12 s0 b3 i4)
noncomputable def F25.t13 (n0 : Nat) (b3 : Value) (ds : List Nat) (h : H) (K : KP) : Prop :=
  Bnd2 (cvt Tryd.prog 31 9 b3 h) fun t66 h1 =>
  K .ret [(2, t66)] ds h1
theorem F25.g13 {n0 : Nat} (b3 : Value) {ds : List Nat} {h : H} {K : KP} : wA Tryd.prog n0 67 none F25.c13 [(3, b3)] ds h K = F25.t13 n0 b3 ds h K := by kernel_rfl
theorem F25.s13 {n0 : Nat} : F25.p13 n0 = wA Tryd.prog n0 67 none F25.c13 := by kernel_rfl
theorem F25.e13 {n0 : Nat} {b3 : Value} {ds : List Nat} {h : H} {K : KP} : F25.p13 n0 [(3, b3)] ds h K = F25.t13 n0 b3 ds h K :=
  wchain (F25.s13) (F25.g13 b3)
theorem F25.b : Tryd.f25.body = some F25.c0.erase := by kernel_rfl
theorem F25.b2 : (Tryd.f25.name == "runtime.NumGoroutine") = false := by kernel_rfl
theorem F25.b3 : Tryd.f25.ntmps = 67 := by kernel_rfl
theorem F25.b4 : Tryd.f25.results.toList = [.tmp 2] := by kernel_rfl
theorem F25.enter {n0 : Nat} {x0 : Value} {h : H} {Q : Value → H → Prop} (w : F25.p0 n0 [(0, x0)] [] h (KFin Tryd.prog [.tmp 2] Q)) : Cn Tryd.prog n0 (.func 25) [x0] h Q :=
  @fn_enter Tryd.prog n0 mixed 25 Tryd.f25 F25.c0 [x0] h Q Tryd.func25 F25.b F25.k0 F25.b2 67 F25.b3 [.tmp 2] F25.b4 (by simp) [(0, x0)] rfl (wback F25.d0 w)

/-! roster.rosterref01.value -/
noncomputable def F39.ac : AC := (ann (bodyOf Tryd.f39) [[0], [], [0, 3], [], [0, 3], [0, 3], [0, 3, 5], [0, 3], [0, 3], [0, 3], [0, 3, 11], [0, 3], [2], [2]]).1
noncomputable def F39.c0 : AC := F39.ac
noncomputable def F39.c1 : AC := F39.ac.snd.fst.snd.fst.fst
noncomputable def F39.c2 : AC := F39.ac.snd.fst.snd.fst.fst.snd
noncomputable def F39.c3 : AC := F39.ac.snd.fst.snd.fst.fst.snd.fst.fst.snd.fst
noncomputable def F39.c4 : AC := F39.ac.snd.fst.snd.fst.fst.snd.snd
noncomputable def F39.c5 : AC := F39.ac.snd.snd
noncomputable def F39.p0 (n0 : Nat) : WP := wA Tryd.prog n0 13 none F39.c0
noncomputable def F39.p1 (n0 : Nat) : WP := wA Tryd.prog n0 13 none F39.c1
noncomputable def F39.p2 (n0 : Nat) : WP := wA Tryd.prog n0 13 none F39.c2
noncomputable def F39.p3 (n0 : Nat) : WP := wA Tryd.prog n0 13 none F39.c3
noncomputable def F39.p4 (n0 : Nat) : WP := wA Tryd.prog n0 13 none F39.c4
noncomputable def F39.p5 (n0 : Nat) : WP := wA Tryd.prog n0 13 none F39.c5
noncomputable def F39.t0 (n0 : Nat) (B1 : WP) (B5 : WP) (c0 : Value) (ds : List Nat) (h : H) (K : KP) : Prop :=
  Lp [0, 3] B1 [(0, c0), (3, (.int .i64 0))] ds h (KBlk [] 0 (KSeq [] B5 K))
theorem F39.g0 {n0 : Nat} (B1 : WP) (B5 : WP) (c0 : Value) {ds : List Nat} {h : H} {K : KP} : wA Tryd.prog n0 13 none (.seq [0] F39.c0.fst (.seq [] (.seq [0, 3] F39.c0.snd.fst.fst (.block [] 0 (.loop [0, 3] (.sub B1)))) (.sub B5))) [(0, c0)] ds h K = F39.t0 n0 B1 B5 c0 ds h K := by kernel_rfl
theorem F39.s0 {n0 : Nat} : F39.p0 n0 = wA Tryd.prog n0 13 none (.seq [0] F39.c0.fst (.seq [] (.seq [0, 3] F39.c0.snd.fst.fst (.block [] 0 (.loop [0, 3] (.sub (F39.p1 n0))))) (.sub (F39.p5 n0)))) := by kernel_rfl
theorem F39.e0 {n0 : Nat} {c0 : Value} {ds : List Nat} {h : H} {K : KP} : F39.p0 n0 [(0, c0)] ds h K = F39.t0 n0 (F39.p1 n0) (F39.p5 n0) c0 ds h K :=
  wchain (F39.s0) (F39.g0 (F39.p1 n0) (F39.p5 n0) c0)
theorem F39.k0 : F39.c0.ok = true := by kernel_rfl
theorem F39.d0 {n0 : Nat} : F39.p0 n0 = wA Tryd.prog n0 13 none F39.c0 := by kernel_rfl
theorem F39.m0 (n0 : Nat) : MonoW (F39.p0 n0) := @mono_c Tryd.prog n0 13 none F39.c0 (F39.p0 n0) (F39.d0) F39.k0
noncomputable def F39.t1 (n0 : Nat) (B2 : WP) (c0 i3 : Value) (ds : List Nat) (h : H) (K : KP) : Prop :=
  Bnd (aBin Tryd.prog true .lss 3 i3 (.int .i64 64)) fun t5 =>
  Cnd t5
   (B2 [(0, c0), (3, i3)] ds h K)
   (K (.exit 0) [(0, c0), (3, i3)] ds h)
theorem F39.g1 {n0 : Nat} (B2 : WP) (c0 i3 : Value) {ds : List Nat} {h : H} {K : KP} : wA Tryd.prog n0 13 none (.seq [0, 3] F39.c1.fst (.sub B2)) [(0, c0), (3, i3)] ds h K = F39.t1 n0 B2 c0 i3 ds h K := by kernel_rfl
theorem F39.s1 {n0 : Nat} : F39.p1 n0 = wA Tryd.prog n0 13 none (.seq [0, 3] F39.c1.fst (.sub (F39.p2 n0))) := by kernel_rfl
theorem F39.e1 {n0 : Nat} {c0 i3 : Value} {ds : List Nat} {h : H} {K : KP} : F39.p1 n0 [(0, c0), (3, i3)] ds h K = F39.t1 n0 (F39.p2 n0) c0 i3 ds h K :=
  wchain (F39.s1) (F39.g1 (F39.p2 n0) c0 i3)
theorem F39.k1 : F39.c1.ok = true := by kernel_rfl
theorem F39.d1 {n0 : Nat} : F39.p1 n0 = wA Tryd.prog n0 13 none F39.c1 := by kernel_rfl
theorem F39.m1 (n0 : Nat) : MonoW (F39.p1 n0) := @mono_c Tryd.prog n0 13 none F39.c1 (F39.p1 n0) (F39.d1) F39.k1
noncomputable def F39.t2 (n0 : Nat) (B3 : WP) (B4 : WP) (c0 i3 : Value) (ds : List Nat) (h : H) (K : KP) : Prop :=
  Bnd (aIndex Tryd.prog 9 (.string ⟨#[65, 66, 67, 68, 69, 70, 71, 72, 73, 74, 75, 76, 77, 78, 79, 80, 81, 82, 83, 84, 85, 86, 87, 88, 89, 90, 97, 98, 99, 100, 101, 102, 103, 104, 105, 106, 107, 108, 109, 110, 111, 112, 113, 114, 115, 116, 117, 118, 119, 120, 121, 122, 48, 49, 50, 51, 52, 53, 54, 55, 56, 57, 43, 47]⟩) i3) fun t9 =>
  Bnd (aBin Tryd.prog false .eql 5 t9 c0) fun t11 =>
  Cnd t11
   (B3 [(0, c0), (3, i3)] ds h (KBlk [0, 3] 1 (KSeq [0, 3] B4 K)))
   (B4 [(0, c0), (3, i3)] ds h K)
theorem F39.g2 {n0 : Nat} (B3 : WP) (B4 : WP) (c0 i3 : Value) {ds : List Nat} {h : H} {K : KP} : wA Tryd.prog n0 13 none (.seq [0, 3] (.block [0, 3] 1 (.seq [0, 3, 11] F39.c2.fst.fst.fst (.cond [0, 3] (.tmp 11) (.sub B3) F39.c2.fst.fst.snd.snd))) (.sub B4)) [(0, c0), (3, i3)] ds h K = F39.t2 n0 B3 B4 c0 i3 ds h K := by kernel_rfl
theorem F39.s2 {n0 : Nat} : F39.p2 n0 = wA Tryd.prog n0 13 none (.seq [0, 3] (.block [0, 3] 1 (.seq [0, 3, 11] F39.c2.fst.fst.fst (.cond [0, 3] (.tmp 11) (.sub (F39.p3 n0)) F39.c2.fst.fst.snd.snd))) (.sub (F39.p4 n0))) := by kernel_rfl
theorem F39.e2 {n0 : Nat} {c0 i3 : Value} {ds : List Nat} {h : H} {K : KP} : F39.p2 n0 [(0, c0), (3, i3)] ds h K = F39.t2 n0 (F39.p3 n0) (F39.p4 n0) c0 i3 ds h K :=
  wchain (F39.s2) (F39.g2 (F39.p3 n0) (F39.p4 n0) c0 i3)
noncomputable def F39.t3 (n0 : Nat) (c0 i3 : Value) (ds : List Nat) (h : H) (K : KP) : Prop :=
  K .ret [(2, i3)] ds h
theorem F39.g3 {n0 : Nat} (c0 i3 : Value) {ds : List Nat} {h : H} {K : KP} : wA Tryd.prog n0 13 none F39.c3 [(0, c0), (3, i3)] ds h K = F39.t3 n0 c0 i3 ds h K := by kernel_rfl
theorem F39.s3 {n0 : Nat} : F39.p3 n0 = wA Tryd.prog n0 13 none F39.c3 := by kernel_rfl
theorem F39.e3 {n0 : Nat} {c0 i3 : Value} {ds : List Nat} {h : H} {K : KP} : F39.p3 n0 [(0, c0), (3, i3)] ds h K = F39.t3 n0 c0 i3 ds h K :=
  wchain (F39.s3) (F39.g3 c0 i3)
noncomputable def F39.t4 (n0 : Nat) (c0 i3 : Value) (ds : List Nat) (h : H) (K : KP) : Prop :=
  Bnd (aBin Tryd.prog true .add 3 i3 (.int .i64 1)) fun t7 =>
  K .normal [(0, c0), (3, t7), (6, i3), (7, t7)] ds h
theorem F39.g4 {n0 : Nat} (c0 i3 : Value) {ds : List Nat} {h : H} {K : KP} : wA Tryd.prog n0 13 none F39.c4 [(0, c0), (3, i3)] ds h K = F39.t4 n0 c0 i3 ds h K := by kernel_rfl
theorem F39.s4 {n0 : Nat} : F39.p4 n0 = wA Tryd.prog n0 13 none F39.c4 := by kernel_rfl
theorem F39.e4 {n0 : Nat} {c0 i3 : Value} {ds : List Nat} {h : H} {K : KP} : F39.p4 n0 [(0, c0), (3, i3)] ds h K = F39.t4 n0 c0 i3 ds h K :=
  wchain (F39.s4) (F39.g4 c0 i3)
noncomputable def F39.t5 (n0 : Nat) (ds : List Nat) (h : H) (K : KP) : Prop :=
  K .ret [(2, (.int .i64 (-1)))] ds h
theorem F39.g5 {n0 : Nat} {ds : List Nat} {h : H} {K : KP} : wA Tryd.prog n0 13 none F39.c5 [] ds h K = F39.t5 n0  ds h K := by kernel_rfl
theorem F39.s5 {n0 : Nat} : F39.p5 n0 = wA Tryd.prog n0 13 none F39.c5 := by kernel_rfl
theorem F39.e5 {n0 : Nat} {ds : List Nat} {h : H} {K : KP} : F39.p5 n0 [] ds h K = F39.t5 n0  ds h K :=
  wchain (F39.s5) (F39.g5)
theorem F39.b : Tryd.f39.body = some F39.c0.erase := by kernel_rfl
theorem F39.b2 : (Tryd.f39.name == "runtime.NumGoroutine") = false := by kernel_rfl
theorem F39.b3 : Tryd.f39.ntmps = 13 := by kernel_rfl
theorem F39.b4 : Tryd.f39.results.toList = [.tmp 2] := by kernel_rfl
theorem F39.enter {n0 : Nat} {x0 : Value} {h : H} {Q : Value → H → Prop} (w : F39.p0 n0 [(0, x0)] [] h (KFin Tryd.prog [.tmp 2] Q)) : Cn Tryd.prog n0 (.func 39) [x0] h Q :=
  @fn_enter Tryd.prog n0 mixed 39 Tryd.f39 F39.c0 [x0] h Q Tryd.func39 F39.b F39.k0 F39.b2 13 F39.b3 [.tmp 2] F39.b4 (by simp) [(0, x0)] rfl (wback F39.d0 w)

end Go.Proofs.YtcdnnpbpadhgeaaDoor
