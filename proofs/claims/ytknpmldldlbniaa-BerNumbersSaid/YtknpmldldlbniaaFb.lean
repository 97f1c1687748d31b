/- The texts of Go functions of this seat, as the evaluator comes to them: each is what wA says of the code. No condition. -/
import Derived.Test.YtknpmldldlbniaaEvAc3
import Derived.Test.YtknpmldldlbniaaSeat
set_option linter.unusedVariables false
namespace Go.Proofs.Ytknpmldldlbniaa
open Go.Ev

/-! roster.ber.New -/
noncomputable def F17.ac : AC := (ann (bodyOf Try.f17) [[], [0]]).1
noncomputable def F17.c0 : AC := F17.ac
noncomputable def F17.p0 (n0 : Nat) : WP := wA Try.prog n0 3 none F17.c0
noncomputable def F17.t0 (n0 : Nat) (ds : List Nat) (h : H) (K : KP) : Prop :=
  Bnd (aBuild Try.prog 85 []) fun t1 =>
  Nw (enc 0 85) (clL t1) h fun t2 h1 =>
  K .ret [(0, t2)] ds h1
theorem F17.g0 {n0 : Nat} {ds : List Nat} {h : H} {K : KP} : wA Try.prog n0 3 none F17.c0 [] ds h K = F17.t0 n0  ds h K := by kernel_rfl
theorem F17.s0 {n0 : Nat} : F17.p0 n0 = wA Try.prog n0 3 none F17.c0 := by kernel_rfl
theorem F17.e0 {n0 : Nat} {ds : List Nat} {h : H} {K : KP} : F17.p0 n0 [] ds h K = F17.t0 n0  ds h K :=
  wchain (F17.s0) (F17.g0)
theorem F17.k0 : F17.c0.ok = true := by kernel_rfl
theorem F17.d0 {n0 : Nat} : F17.p0 n0 = wA Try.prog n0 3 none F17.c0 := by kernel_rfl
theorem F17.m0 (n0 : Nat) : MonoW (F17.p0 n0) := @mono_c Try.prog n0 3 none F17.c0 (F17.p0 n0) (F17.d0) F17.k0
theorem F17.b : Try.f17.body = some F17.c0.erase := by kernel_rfl
theorem F17.b2 : (Try.f17.name == "runtime.NumGoroutine") = false := by kernel_rfl
theorem F17.b3 : Try.f17.ntmps = 3 := by kernel_rfl
theorem F17.b4 : Try.f17.results.toList = [.tmp 0] := by kernel_rfl
theorem F17.enter {n0 : Nat} {h : H} {Q : Value → H → Prop} (w : F17.p0 n0 [] [] h (KFin Try.prog [.tmp 0] Q)) : Cn Try.prog n0 (.func 17) [] h Q :=
  @fn_enter Try.prog n0 mixed 17 Try.f17 F17.c0 [] h Q Try.func17 F17.b F17.k0 F17.b2 3 F17.b3 [.tmp 0] F17.b4 (by simp) [] rfl (wback F17.d0 w)

/-! (*roster.ber.Writer).Int -/
noncomputable def F18.ac : AC := (ann (bodyOf Try.f18) [[0, 1, 2, 7], [0, 1, 2, 7, 9], [0, 1, 2, 7, 9], [0, 1, 2, 7, 9], [0, 1, 2, 7, 9], [0, 1, 2, 7, 9], [0, 1, 2, 7, 9, 23], [0, 1, 2, 7, 9], [0, 1, 2, 7, 9], [8]]).1
noncomputable def F18.c0 : AC := F18.ac
noncomputable def F18.c1 : AC := F18.ac.snd.snd.fst.fst.fst
noncomputable def F18.c2 : AC := F18.ac.snd.snd.fst.fst.fst.snd
noncomputable def F18.c3 : AC := F18.ac.snd.snd.snd
noncomputable def F18.p0 (n0 : Nat) : WP := wA Try.prog n0 32 none F18.c0
noncomputable def F18.p1 (n0 : Nat) : WP := wA Try.prog n0 32 none F18.c1
noncomputable def F18.p2 (n0 : Nat) : WP := wA Try.prog n0 32 none F18.c2
noncomputable def F18.p3 (n0 : Nat) : WP := wA Try.prog n0 32 none F18.c3
noncomputable def F18.t0 (n0 : Nat) (B1 : WP) (B3 : WP) (w0 class1 number2 v3 : Value) (ds : List Nat) (h : H) (K : KP) : Prop :=
  Nw (enc 0 2) (clL v3) h fun v7 h1 =>
  Nw (enc 0 3) (zc Try.prog 3) h1 fun k9 h2 =>
  Bnd (aStore Try.prog 3 k9 (.int .i64 1) h2) fun h3 =>
  Lp [0, 1, 2, 7, 9] B1 [(0, w0), (1, class1), (2, number2), (7, v7), (9, k9)] ds h3 (KBlk [0, 1, 2, 7, 9] 0 (KSeq [0, 1, 2, 7, 9] B3 K))
theorem F18.g0 {n0 : Nat} (B1 : WP) (B3 : WP) (w0 class1 number2 v3 : Value) {ds : List Nat} {h : H} {K : KP} : wA Try.prog n0 32 none (.seq [0, 1, 2, 7] F18.c0.fst (.seq [0, 1, 2, 7, 9] F18.c0.snd.fst (.seq [0, 1, 2, 7, 9] (.block [0, 1, 2, 7, 9] 0 (.loop [0, 1, 2, 7, 9] (.sub B1))) (.sub B3)))) [(0, w0), (1, class1), (2, number2), (3, v3)] ds h K = F18.t0 n0 B1 B3 w0 class1 number2 v3 ds h K := by kernel_rfl
theorem F18.s0 {n0 : Nat} : F18.p0 n0 = wA Try.prog n0 32 none (.seq [0, 1, 2, 7] F18.c0.fst (.seq [0, 1, 2, 7, 9] F18.c0.snd.fst (.seq [0, 1, 2, 7, 9] (.block [0, 1, 2, 7, 9] 0 (.loop [0, 1, 2, 7, 9] (.sub (F18.p1 n0)))) (.sub (F18.p3 n0))))) := by kernel_rfl
theorem F18.e0 {n0 : Nat} {w0 class1 number2 v3 : Value} {ds : List Nat} {h : H} {K : KP} : F18.p0 n0 [(0, w0), (1, class1), (2, number2), (3, v3)] ds h K = F18.t0 n0 (F18.p1 n0) (F18.p3 n0) w0 class1 number2 v3 ds h K :=
  wchain (F18.s0) (F18.g0 (F18.p1 n0) (F18.p3 n0) w0 class1 number2 v3)
theorem F18.k0 : F18.c0.ok = true := by kernel_rfl
theorem F18.d0 {n0 : Nat} : F18.p0 n0 = wA Try.prog n0 32 none F18.c0 := by kernel_rfl
theorem F18.m0 (n0 : Nat) : MonoW (F18.p0 n0) := @mono_c Try.prog n0 32 none F18.c0 (F18.p0 n0) (F18.d0) F18.k0
noncomputable def F18.t1 (n0 : Nat) (B2 : WP) (w0 class1 number2 v7 k9 : Value) (ds : List Nat) (h : H) (K : KP) : Prop :=
  Bnd (aLoad Try.prog 2 v7 h) fun t10 =>
  Bnd (aLoad Try.prog 3 k9 h) fun t11 =>
  Bnd (aBin Try.prog true .mul 3 (.int .i64 8) t11) fun t12 =>
  Bnd (aBin Try.prog true .sub 3 t12 (.int .i64 1)) fun t13 =>
  Bnd (aBin Try.prog false .shr 2 t10 t13) fun t14 =>
  Bnd (aBin Try.prog true .neq 2 t14 (.int .i64 0)) fun t15 =>
  Gd t15
   (Bnd (aLoad Try.prog 2 v7 h) fun t17 =>
  Bnd (aLoad Try.prog 3 k9 h) fun t18 =>
  Bnd (aBin Try.prog true .mul 3 (.int .i64 8) t18) fun t19 =>
  Bnd (aBin Try.prog true .sub 3 t19 (.int .i64 1)) fun t20 =>
  Bnd (aBin Try.prog false .shr 2 t17 t20) fun t21 =>
  Bnd (aBin Try.prog true .neq 2 t21 (.int .i64 (-1))) fun t22 =>
  Cnd t22
   (B2 [(0, w0), (1, class1), (2, number2), (7, v7), (9, k9)] ds h K)
   (K (.exit 0) [(0, w0), (1, class1), (2, number2), (7, v7), (9, k9)] ds h))
   (K (.exit 0) [(0, w0), (1, class1), (2, number2), (7, v7), (9, k9)] ds h)
theorem F18.g1 {n0 : Nat} (B2 : WP) (w0 class1 number2 v7 k9 : Value) {ds : List Nat} {h : H} {K : KP} : wA Try.prog n0 32 none (.seq [0, 1, 2, 7, 9] F18.c1.fst (.sub B2)) [(0, w0), (1, class1), (2, number2), (7, v7), (9, k9)] ds h K = F18.t1 n0 B2 w0 class1 number2 v7 k9 ds h K := by kernel_rfl
theorem F18.s1 {n0 : Nat} : F18.p1 n0 = wA Try.prog n0 32 none (.seq [0, 1, 2, 7, 9] F18.c1.fst (.sub (F18.p2 n0))) := by kernel_rfl
theorem F18.e1 {n0 : Nat} {w0 class1 number2 v7 k9 : Value} {ds : List Nat} {h : H} {K : KP} : F18.p1 n0 [(0, w0), (1, class1), (2, number2), (7, v7), (9, k9)] ds h K = F18.t1 n0 (F18.p2 n0) w0 class1 number2 v7 k9 ds h K :=
  wchain (F18.s1) (F18.g1 (F18.p2 n0) w0 class1 number2 v7 k9)
theorem F18.k1 : F18.c1.ok = true := by kernel_rfl
theorem F18.d1 {n0 : Nat} : F18.p1 n0 = wA Try.prog n0 32 none F18.c1 := by kernel_rfl
theorem F18.m1 (n0 : Nat) : MonoW (F18.p1 n0) := @mono_c Try.prog n0 32 none F18.c1 (F18.p1 n0) (F18.d1) F18.k1
noncomputable def F18.t2 (n0 : Nat) (w0 class1 number2 v7 k9 : Value) (ds : List Nat) (h : H) (K : KP) : Prop :=
  Bnd (aLoad Try.prog 3 k9 h) fun t24 =>
  Bnd (aBin Try.prog true .add 3 t24 (.int .i64 1)) fun t25 =>
  Bnd (aStore Try.prog 3 k9 t25 h) fun h1 =>
  K .normal [(0, w0), (1, class1), (2, number2), (7, v7), (9, k9)] ds h1
theorem F18.g2 {n0 : Nat} (w0 class1 number2 v7 k9 : Value) {ds : List Nat} {h : H} {K : KP} : wA Try.prog n0 32 none F18.c2 [(0, w0), (1, class1), (2, number2), (7, v7), (9, k9)] ds h K = F18.t2 n0 w0 class1 number2 v7 k9 ds h K := by kernel_rfl
theorem F18.s2 {n0 : Nat} : F18.p2 n0 = wA Try.prog n0 32 none F18.c2 := by kernel_rfl
theorem F18.e2 {n0 : Nat} {w0 class1 number2 v7 k9 : Value} {ds : List Nat} {h : H} {K : KP} : F18.p2 n0 [(0, w0), (1, class1), (2, number2), (7, v7), (9, k9)] ds h K = F18.t2 n0 w0 class1 number2 v7 k9 ds h K :=
  wchain (F18.s2) (F18.g2 w0 class1 number2 v7 k9)
noncomputable def F18.t3 (n0 : Nat) (w0 class1 number2 v7 k9 : Value) (ds : List Nat) (h : H) (K : KP) : Prop :=
  Bnd (aLoad Try.prog 3 k9 h) fun t29 =>
  Cn Try.prog n0 (.func 43) [w0, class1, number2, t29, (.func (.func 44) #[] #[k9, v7])] h fun t31 h1 =>
  K .ret [(8, t31)] ds h1
theorem F18.g3 {n0 : Nat} (w0 class1 number2 v7 k9 : Value) {ds : List Nat} {h : H} {K : KP} : wA Try.prog n0 32 none F18.c3 [(0, w0), (1, class1), (2, number2), (7, v7), (9, k9)] ds h K = F18.t3 n0 w0 class1 number2 v7 k9 ds h K := by kernel_rfl
theorem F18.s3 {n0 : Nat} : F18.p3 n0 = wA Try.prog n0 32 none F18.c3 := by kernel_rfl
theorem F18.e3 {n0 : Nat} {w0 class1 number2 v7 k9 : Value} {ds : List Nat} {h : H} {K : KP} : F18.p3 n0 [(0, w0), (1, class1), (2, number2), (7, v7), (9, k9)] ds h K = F18.t3 n0 w0 class1 number2 v7 k9 ds h K :=
  wchain (F18.s3) (F18.g3 w0 class1 number2 v7 k9)
theorem F18.b : Try.f18.body = some F18.c0.erase := by kernel_rfl
theorem F18.b2 : (Try.f18.name == "runtime.NumGoroutine") = false := by kernel_rfl
theorem F18.b3 : Try.f18.ntmps = 32 := by kernel_rfl
theorem F18.b4 : Try.f18.results.toList = [.tmp 8] := by kernel_rfl
theorem F18.enter {n0 : Nat} {x0 x1 x2 x3 : Value} {h : H} {Q : Value → H → Prop} (w : F18.p0 n0 [(0, x0), (1, x1), (2, x2), (3, x3)] [] h (KFin Try.prog [.tmp 8] Q)) : Cn Try.prog n0 (.func 18) [x0, x1, x2, x3] h Q :=
  @fn_enter Try.prog n0 mixed 18 Try.f18 F18.c0 [x0, x1, x2, x3] h Q Try.func18 F18.b F18.k0 F18.b2 32 F18.b3 [.tmp 8] F18.b4 (by simp) [(0, x0), (1, x1), (2, x2), (3, x3)] rfl (wback F18.d0 w)

/-! (*roster.ber.Writer).Bytes -/
noncomputable def F19.ac : AC := (ann (bodyOf Try.f19) [[0], [0], [0], [0, 4], [0], [2, 3], [0, 7], [0], [2, 3], [2, 3]]).1
noncomputable def F19.c0 : AC := F19.ac
noncomputable def F19.c1 : AC := F19.ac.snd.fst.fst.snd.fst
noncomputable def F19.c2 : AC := F19.ac.snd.fst.fst.snd.snd
noncomputable def F19.c3 : AC := F19.ac.snd.fst.fst.snd.snd.snd.fst
noncomputable def F19.c4 : AC := F19.ac.snd.snd
noncomputable def F19.p0 (n0 : Nat) : WP := wA Try.prog n0 19 none F19.c0
noncomputable def F19.p1 (n0 : Nat) : WP := wA Try.prog n0 19 none F19.c1
noncomputable def F19.p2 (n0 : Nat) : WP := wA Try.prog n0 19 none F19.c2
noncomputable def F19.p3 (n0 : Nat) : WP := wA Try.prog n0 19 none F19.c3
noncomputable def F19.p4 (n0 : Nat) : WP := wA Try.prog n0 19 none F19.c4
noncomputable def F19.t0 (n0 : Nat) (B1 : WP) (B2 : WP) (B4 : WP) (w0 : Value) (ds : List Nat) (h : H) (K : KP) : Prop :=
  Bnd (aBin Try.prog true .eql 33 w0 (.pointer none)) fun t6 =>
  Cnd t6
   (B1 [(0, w0)] ds h (KBlk [0] 0 (KSeq [0] B4 K)))
   (B2 [(0, w0)] ds h (KBlk [0] 0 (KSeq [0] B4 K)))
theorem F19.g0 {n0 : Nat} (B1 : WP) (B2 : WP) (B4 : WP) (w0 : Value) {ds : List Nat} {h : H} {K : KP} : wA Try.prog n0 19 none (.seq [0] F19.c0.fst (.seq [0] (.block [0] 0 (.seq [0, 4] F19.c0.snd.fst.fst.fst (.cond [0] (.tmp 4) (.sub B1) (.sub B2)))) (.sub B4))) [(0, w0)] ds h K = F19.t0 n0 B1 B2 B4 w0 ds h K := by kernel_rfl
theorem F19.s0 {n0 : Nat} : F19.p0 n0 = wA Try.prog n0 19 none (.seq [0] F19.c0.fst (.seq [0] (.block [0] 0 (.seq [0, 4] F19.c0.snd.fst.fst.fst (.cond [0] (.tmp 4) (.sub (F19.p1 n0)) (.sub (F19.p2 n0))))) (.sub (F19.p4 n0)))) := by kernel_rfl
theorem F19.e0 {n0 : Nat} {w0 : Value} {ds : List Nat} {h : H} {K : KP} : F19.p0 n0 [(0, w0)] ds h K = F19.t0 n0 (F19.p1 n0) (F19.p2 n0) (F19.p4 n0) w0 ds h K :=
  wchain (F19.s0) (F19.g0 (F19.p1 n0) (F19.p2 n0) (F19.p4 n0) w0)
theorem F19.k0 : F19.c0.ok = true := by kernel_rfl
theorem F19.d0 {n0 : Nat} : F19.p0 n0 = wA Try.prog n0 19 none F19.c0 := by kernel_rfl
theorem F19.m0 (n0 : Nat) : MonoW (F19.p0 n0) := @mono_c Try.prog n0 19 none F19.c0 (F19.p0 n0) (F19.d0) F19.k0
noncomputable def F19.t1 (n0 : Nat) (w0 : Value) (ds : List Nat) (h : H) (K : KP) : Prop :=
  K .ret [(2, (.slice none 0 0)), (3, (.int .i64 1))] ds h
theorem F19.g1 {n0 : Nat} (w0 : Value) {ds : List Nat} {h : H} {K : KP} : wA Try.prog n0 19 none F19.c1 [(0, w0)] ds h K = F19.t1 n0 w0 ds h K := by kernel_rfl
theorem F19.s1 {n0 : Nat} : F19.p1 n0 = wA Try.prog n0 19 none F19.c1 := by kernel_rfl
theorem F19.e1 {n0 : Nat} {w0 : Value} {ds : List Nat} {h : H} {K : KP} : F19.p1 n0 [(0, w0)] ds h K = F19.t1 n0 w0 ds h K :=
  wchain (F19.s1) (F19.g1 w0)
noncomputable def F19.t2 (n0 : Nat) (B3 : WP) (w0 : Value) (ds : List Nat) (h : H) (K : KP) : Prop :=
  NilC w0 <|
  Bnd (aFieldAddr Try.prog 85 w0 1) fun t10 =>
  Bnd (aLoad Try.prog 83 t10 h) fun t11 =>
  Bnd2 (aBuiltin Try.prog .len #[83] [t11] h) fun t12 h1 =>
  Bnd (aBin Try.prog true .gtr 3 t12 (.int .i64 0)) fun t13 =>
  Cnd t13
   (B3 [(0, w0)] ds h1 K)
   (K .normal [(0, w0)] ds h1)
theorem F19.g2 {n0 : Nat} (B3 : WP) (w0 : Value) {ds : List Nat} {h : H} {K : KP} : wA Try.prog n0 19 none (.seq [0, 7] F19.c2.fst (.cond [0] (.tmp 7) (.sub B3) F19.c2.snd.snd)) [(0, w0)] ds h K = F19.t2 n0 B3 w0 ds h K := by kernel_rfl
theorem F19.s2 {n0 : Nat} : F19.p2 n0 = wA Try.prog n0 19 none (.seq [0, 7] F19.c2.fst (.cond [0] (.tmp 7) (.sub (F19.p3 n0)) F19.c2.snd.snd)) := by kernel_rfl
theorem F19.e2 {n0 : Nat} {w0 : Value} {ds : List Nat} {h : H} {K : KP} : F19.p2 n0 [(0, w0)] ds h K = F19.t2 n0 (F19.p3 n0) w0 ds h K :=
  wchain (F19.s2) (F19.g2 (F19.p3 n0) w0)
noncomputable def F19.t3 (n0 : Nat) (w0 : Value) (ds : List Nat) (h : H) (K : KP) : Prop :=
  K .ret [(2, (.slice none 0 0)), (3, (.int .i64 5))] ds h
theorem F19.g3 {n0 : Nat} (w0 : Value) {ds : List Nat} {h : H} {K : KP} : wA Try.prog n0 19 none F19.c3 [(0, w0)] ds h K = F19.t3 n0 w0 ds h K := by kernel_rfl
theorem F19.s3 {n0 : Nat} : F19.p3 n0 = wA Try.prog n0 19 none F19.c3 := by kernel_rfl
theorem F19.e3 {n0 : Nat} {w0 : Value} {ds : List Nat} {h : H} {K : KP} : F19.p3 n0 [(0, w0)] ds h K = F19.t3 n0 w0 ds h K :=
  wchain (F19.s3) (F19.g3 w0)
noncomputable def F19.t4 (n0 : Nat) (w0 : Value) (ds : List Nat) (h : H) (K : KP) : Prop :=
  NilC w0 <|
  Bnd (aFieldAddr Try.prog 85 w0 0) fun t16 =>
  Bnd (aLoad Try.prog 22 t16 h) fun t17 =>
  Bnd2 (aBuiltin Try.prog .append #[22, 22] [(.slice none 0 0), t17] h) fun t18 h1 =>
  K .ret [(2, t18), (3, (.int .i64 0))] ds h1
theorem F19.g4 {n0 : Nat} (w0 : Value) {ds : List Nat} {h : H} {K : KP} : wA Try.prog n0 19 none F19.c4 [(0, w0)] ds h K = F19.t4 n0 w0 ds h K := by kernel_rfl
theorem F19.s4 {n0 : Nat} : F19.p4 n0 = wA Try.prog n0 19 none F19.c4 := by kernel_rfl
theorem F19.e4 {n0 : Nat} {w0 : Value} {ds : List Nat} {h : H} {K : KP} : F19.p4 n0 [(0, w0)] ds h K = F19.t4 n0 w0 ds h K :=
  wchain (F19.s4) (F19.g4 w0)
theorem F19.b : Try.f19.body = some F19.c0.erase := by kernel_rfl
theorem F19.b2 : (Try.f19.name == "runtime.NumGoroutine") = false := by kernel_rfl
theorem F19.b3 : Try.f19.ntmps = 19 := by kernel_rfl
theorem F19.b4 : Try.f19.results.toList = [.tmp 2, .tmp 3] := by kernel_rfl
theorem F19.enter {n0 : Nat} {x0 : Value} {h : H} {Q : Value → H → Prop} (w : F19.p0 n0 [(0, x0)] [] h (KFin Try.prog [.tmp 2, .tmp 3] Q)) : Cn Try.prog n0 (.func 19) [x0] h Q :=
  @fn_enter Try.prog n0 mixed 19 Try.f19 F19.c0 [x0] h Q Try.func19 F19.b F19.k0 F19.b2 19 F19.b3 [.tmp 2, .tmp 3] F19.b4 (by simp) [(0, x0)] rfl (wback F19.d0 w)

/-! roster.rosterref02.New -/
noncomputable def F21.ac : AC := (ann (bodyOf Try.f21) [[], [0]]).1
noncomputable def F21.c0 : AC := F21.ac
noncomputable def F21.p0 (n0 : Nat) : WP := wA Try.prog n0 4 none F21.c0
noncomputable def F21.t0 (n0 : Nat) (ds : List Nat) (h : H) (K : KP) : Prop :=
  Bnd2 (aMakeSlice Try.prog 89 (.int .i64 1) (.int .i64 1) h) fun t1 h1 =>
  Bnd (aBuild Try.prog 91 [(0, t1)]) fun t2 =>
  Nw (enc 0 91) (clL t2) h1 fun t3 h2 =>
  K .ret [(0, t3)] ds h2
theorem F21.g0 {n0 : Nat} {ds : List Nat} {h : H} {K : KP} : wA Try.prog n0 4 none F21.c0 [] ds h K = F21.t0 n0  ds h K := by kernel_rfl
theorem F21.s0 {n0 : Nat} : F21.p0 n0 = wA Try.prog n0 4 none F21.c0 := by kernel_rfl
theorem F21.e0 {n0 : Nat} {ds : List Nat} {h : H} {K : KP} : F21.p0 n0 [] ds h K = F21.t0 n0  ds h K :=
  wchain (F21.s0) (F21.g0)
theorem F21.k0 : F21.c0.ok = true := by kernel_rfl
theorem F21.d0 {n0 : Nat} : F21.p0 n0 = wA Try.prog n0 4 none F21.c0 := by kernel_rfl
theorem F21.m0 (n0 : Nat) : MonoW (F21.p0 n0) := @mono_c Try.prog n0 4 none F21.c0 (F21.p0 n0) (F21.d0) F21.k0
theorem F21.b : Try.f21.body = some F21.c0.erase := by kernel_rfl
theorem F21.b2 : (Try.f21.name == "runtime.NumGoroutine") = false := by kernel_rfl
theorem F21.b3 : Try.f21.ntmps = 4 := by kernel_rfl
theorem F21.b4 : Try.f21.results.toList = [.tmp 0] := by kernel_rfl
theorem F21.enter {n0 : Nat} {h : H} {Q : Value → H → Prop} (w : F21.p0 n0 [] [] h (KFin Try.prog [.tmp 0] Q)) : Cn Try.prog n0 (.func 21) [] h Q :=
  @fn_enter Try.prog n0 mixed 21 Try.f21 F21.c0 [] h Q Try.func21 F21.b F21.k0 F21.b2 4 F21.b3 [.tmp 0] F21.b4 (by simp) [] rfl (wback F21.d0 w)

/-! roster.rosterlaw02.step -/
noncomputable def F22.ac : AC := (ann (bodyOf Try.f22) [[0, 3], [], [0, 3, 7], [], [0, 3, 7, 8], [0, 3, 7], [4, 5], [0, 3, 7, 16], [0, 3, 7], [4, 5], [0, 3, 7, 20], [0, 3, 7], [4, 5], [0, 3, 7, 30], [0, 3, 7], [4, 5], [0, 3, 7, 41], [0, 3, 7], [4, 5], [0, 51], [0], [4, 5], [4, 5]]).1
noncomputable def F22.c0 : AC := F22.ac
noncomputable def F22.c1 : AC := F22.ac.snd.fst.snd.fst.snd.fst
noncomputable def F22.c2 : AC := F22.ac.snd.fst.snd.fst.snd.snd
noncomputable def F22.c3 : AC := F22.ac.snd.fst.snd.fst.snd.snd.snd.fst
noncomputable def F22.c4 : AC := F22.ac.snd.fst.snd.fst.snd.snd.snd.snd
noncomputable def F22.c5 : AC := F22.ac.snd.fst.snd.fst.snd.snd.snd.snd.snd.fst
noncomputable def F22.c6 : AC := F22.ac.snd.fst.snd.fst.snd.snd.snd.snd.snd.snd
noncomputable def F22.c7 : AC := F22.ac.snd.fst.snd.fst.snd.snd.snd.snd.snd.snd.snd.fst
noncomputable def F22.c8 : AC := F22.ac.snd.fst.snd.fst.snd.snd.snd.snd.snd.snd.snd.snd
noncomputable def F22.c9 : AC := F22.ac.snd.fst.snd.fst.snd.snd.snd.snd.snd.snd.snd.snd.snd.fst
noncomputable def F22.c10 : AC := F22.ac.snd.fst.snd.fst.snd.snd.snd.snd.snd.snd.snd.snd.snd.snd
noncomputable def F22.c11 : AC := F22.ac.snd.fst.snd.fst.snd.snd.snd.snd.snd.snd.snd.snd.snd.snd.snd.fst
noncomputable def F22.c12 : AC := F22.ac.snd.snd
noncomputable def F22.p0 (n0 : Nat) : WP := wA Try.prog n0 57 none F22.c0
noncomputable def F22.p1 (n0 : Nat) : WP := wA Try.prog n0 57 none F22.c1
noncomputable def F22.p2 (n0 : Nat) : WP := wA Try.prog n0 57 none F22.c2
noncomputable def F22.p3 (n0 : Nat) : WP := wA Try.prog n0 57 none F22.c3
noncomputable def F22.p4 (n0 : Nat) : WP := wA Try.prog n0 57 none F22.c4
noncomputable def F22.p5 (n0 : Nat) : WP := wA Try.prog n0 57 none F22.c5
noncomputable def F22.p6 (n0 : Nat) : WP := wA Try.prog n0 57 none F22.c6
noncomputable def F22.p7 (n0 : Nat) : WP := wA Try.prog n0 57 none F22.c7
noncomputable def F22.p8 (n0 : Nat) : WP := wA Try.prog n0 57 none F22.c8
noncomputable def F22.p9 (n0 : Nat) : WP := wA Try.prog n0 57 none F22.c9
noncomputable def F22.p10 (n0 : Nat) : WP := wA Try.prog n0 57 none F22.c10
noncomputable def F22.p11 (n0 : Nat) : WP := wA Try.prog n0 57 none F22.c11
noncomputable def F22.p12 (n0 : Nat) : WP := wA Try.prog n0 57 none F22.c12
noncomputable def F22.t0 (n0 : Nat) (B1 : WP) (B2 : WP) (B12 : WP) (w0 s1 : Value) (ds : List Nat) (h : H) (K : KP) : Prop :=
  Nw (enc 0 47) (clL s1) h fun s3 h1 =>
  Bnd (aFieldAddr Try.prog 47 s3 0) fun t6 =>
  Bnd (aLoad Try.prog 3 t6 h1) fun t7 =>
  Bnd (aBin Try.prog true .eql 3 t7 (.int .i64 0)) fun t9 =>
  Cnd t9
   (B1 [(0, w0), (3, s3), (7, t7)] ds h1 (KBlk [] 0 (KSeq [] B12 K)))
   (B2 [(0, w0), (3, s3), (7, t7)] ds h1 (KBlk [] 0 (KSeq [] B12 K)))
theorem F22.g0 {n0 : Nat} (B1 : WP) (B2 : WP) (B12 : WP) (w0 s1 : Value) {ds : List Nat} {h : H} {K : KP} : wA Try.prog n0 57 none (.seq [0, 3] F22.c0.fst (.seq [] (.seq [0, 3, 7] F22.c0.snd.fst.fst (.block [] 0 (.seq [0, 3, 7, 8] F22.c0.snd.fst.snd.fst.fst (.cond [0, 3, 7] (.tmp 8) (.sub B1) (.sub B2))))) (.sub B12))) [(0, w0), (1, s1)] ds h K = F22.t0 n0 B1 B2 B12 w0 s1 ds h K := by kernel_rfl
theorem F22.s0 {n0 : Nat} : F22.p0 n0 = wA Try.prog n0 57 none (.seq [0, 3] F22.c0.fst (.seq [] (.seq [0, 3, 7] F22.c0.snd.fst.fst (.block [] 0 (.seq [0, 3, 7, 8] F22.c0.snd.fst.snd.fst.fst (.cond [0, 3, 7] (.tmp 8) (.sub (F22.p1 n0)) (.sub (F22.p2 n0)))))) (.sub (F22.p12 n0)))) := by kernel_rfl
theorem F22.e0 {n0 : Nat} {w0 s1 : Value} {ds : List Nat} {h : H} {K : KP} : F22.p0 n0 [(0, w0), (1, s1)] ds h K = F22.t0 n0 (F22.p1 n0) (F22.p2 n0) (F22.p12 n0) w0 s1 ds h K :=
  wchain (F22.s0) (F22.g0 (F22.p1 n0) (F22.p2 n0) (F22.p12 n0) w0 s1)
theorem F22.k0 : F22.c0.ok = true := by kernel_rfl
theorem F22.d0 {n0 : Nat} : F22.p0 n0 = wA Try.prog n0 57 none F22.c0 := by kernel_rfl
theorem F22.m0 (n0 : Nat) : MonoW (F22.p0 n0) := @mono_c Try.prog n0 57 none F22.c0 (F22.p0 n0) (F22.d0) F22.k0
noncomputable def F22.t1 (n0 : Nat) (w0 s3 t7 : Value) (ds : List Nat) (h : H) (K : KP) : Prop :=
  Bnd (aFieldAddr Try.prog 47 s3 1) fun t11 =>
  Bnd (aLoad Try.prog 24 t11 h) fun t12 =>
  Bnd (aFieldAddr Try.prog 47 s3 2) fun t13 =>
  Bnd (aLoad Try.prog 3 t13 h) fun t14 =>
  Cn Try.prog n0 (.func 40) [w0, t12, t14] h fun t15 h1 =>
  K .ret [(4, (.slice none 0 0)), (5, t15)] ds h1
theorem F22.g1 {n0 : Nat} (w0 s3 t7 : Value) {ds : List Nat} {h : H} {K : KP} : wA Try.prog n0 57 none F22.c1 [(0, w0), (3, s3), (7, t7)] ds h K = F22.t1 n0 w0 s3 t7 ds h K := by kernel_rfl
theorem F22.s1 {n0 : Nat} : F22.p1 n0 = wA Try.prog n0 57 none F22.c1 := by kernel_rfl
theorem F22.e1 {n0 : Nat} {w0 s3 t7 : Value} {ds : List Nat} {h : H} {K : KP} : F22.p1 n0 [(0, w0), (3, s3), (7, t7)] ds h K = F22.t1 n0 w0 s3 t7 ds h K :=
  wchain (F22.s1) (F22.g1 w0 s3 t7)
noncomputable def F22.t2 (n0 : Nat) (B3 : WP) (B4 : WP) (w0 s3 t7 : Value) (ds : List Nat) (h : H) (K : KP) : Prop :=
  Bnd (aBin Try.prog true .eql 3 t7 (.int .i64 1)) fun t17 =>
  Cnd t17
   (B3 [(0, w0), (3, s3), (7, t7)] ds h K)
   (B4 [(0, w0), (3, s3), (7, t7)] ds h K)
theorem F22.g2 {n0 : Nat} (B3 : WP) (B4 : WP) (w0 s3 t7 : Value) {ds : List Nat} {h : H} {K : KP} : wA Try.prog n0 57 none (.seq [0, 3, 7, 16] F22.c2.fst (.cond [0, 3, 7] (.tmp 16) (.sub B3) (.sub B4))) [(0, w0), (3, s3), (7, t7)] ds h K = F22.t2 n0 B3 B4 w0 s3 t7 ds h K := by kernel_rfl
theorem F22.s2 {n0 : Nat} : F22.p2 n0 = wA Try.prog n0 57 none (.seq [0, 3, 7, 16] F22.c2.fst (.cond [0, 3, 7] (.tmp 16) (.sub (F22.p3 n0)) (.sub (F22.p4 n0)))) := by kernel_rfl
theorem F22.e2 {n0 : Nat} {w0 s3 t7 : Value} {ds : List Nat} {h : H} {K : KP} : F22.p2 n0 [(0, w0), (3, s3), (7, t7)] ds h K = F22.t2 n0 (F22.p3 n0) (F22.p4 n0) w0 s3 t7 ds h K :=
  wchain (F22.s2) (F22.g2 (F22.p3 n0) (F22.p4 n0) w0 s3 t7)
noncomputable def F22.t3 (n0 : Nat) (w0 s3 t7 : Value) (ds : List Nat) (h : H) (K : KP) : Prop :=
  Cn Try.prog n0 (.func 42) [w0] h fun t19 h1 =>
  K .ret [(4, (.slice none 0 0)), (5, t19)] ds h1
theorem F22.g3 {n0 : Nat} (w0 s3 t7 : Value) {ds : List Nat} {h : H} {K : KP} : wA Try.prog n0 57 none F22.c3 [(0, w0), (3, s3), (7, t7)] ds h K = F22.t3 n0 w0 s3 t7 ds h K := by kernel_rfl
theorem F22.s3 {n0 : Nat} : F22.p3 n0 = wA Try.prog n0 57 none F22.c3 := by kernel_rfl
theorem F22.e3 {n0 : Nat} {w0 s3 t7 : Value} {ds : List Nat} {h : H} {K : KP} : F22.p3 n0 [(0, w0), (3, s3), (7, t7)] ds h K = F22.t3 n0 w0 s3 t7 ds h K :=
  wchain (F22.s3) (F22.g3 w0 s3 t7)
noncomputable def F22.t4 (n0 : Nat) (B5 : WP) (B6 : WP) (w0 s3 t7 : Value) (ds : List Nat) (h : H) (K : KP) : Prop :=
  Bnd (aBin Try.prog true .eql 3 t7 (.int .i64 2)) fun t21 =>
  Cnd t21
   (B5 [(0, w0), (3, s3), (7, t7)] ds h K)
   (B6 [(0, w0), (3, s3), (7, t7)] ds h K)
theorem F22.g4 {n0 : Nat} (B5 : WP) (B6 : WP) (w0 s3 t7 : Value) {ds : List Nat} {h : H} {K : KP} : wA Try.prog n0 57 none (.seq [0, 3, 7, 20] F22.c4.fst (.cond [0, 3, 7] (.tmp 20) (.sub B5) (.sub B6))) [(0, w0), (3, s3), (7, t7)] ds h K = F22.t4 n0 B5 B6 w0 s3 t7 ds h K := by kernel_rfl
theorem F22.s4 {n0 : Nat} : F22.p4 n0 = wA Try.prog n0 57 none (.seq [0, 3, 7, 20] F22.c4.fst (.cond [0, 3, 7] (.tmp 20) (.sub (F22.p5 n0)) (.sub (F22.p6 n0)))) := by kernel_rfl
theorem F22.e4 {n0 : Nat} {w0 s3 t7 : Value} {ds : List Nat} {h : H} {K : KP} : F22.p4 n0 [(0, w0), (3, s3), (7, t7)] ds h K = F22.t4 n0 (F22.p5 n0) (F22.p6 n0) w0 s3 t7 ds h K :=
  wchain (F22.s4) (F22.g4 (F22.p5 n0) (F22.p6 n0) w0 s3 t7)
noncomputable def F22.t5 (n0 : Nat) (w0 s3 t7 : Value) (ds : List Nat) (h : H) (K : KP) : Prop :=
  Bnd (aFieldAddr Try.prog 47 s3 1) fun t23 =>
  Bnd (aLoad Try.prog 24 t23 h) fun t24 =>
  Bnd (aFieldAddr Try.prog 47 s3 2) fun t25 =>
  Bnd (aLoad Try.prog 3 t25 h) fun t26 =>
  Bnd (aFieldAddr Try.prog 47 s3 3) fun t27 =>
  Bnd (aLoad Try.prog 2 t27 h) fun t28 =>
  Cn Try.prog n0 (.func 18) [w0, t24, t26, t28] h fun t29 h1 =>
  K .ret [(4, (.slice none 0 0)), (5, t29)] ds h1
theorem F22.g5 {n0 : Nat} (w0 s3 t7 : Value) {ds : List Nat} {h : H} {K : KP} : wA Try.prog n0 57 none F22.c5 [(0, w0), (3, s3), (7, t7)] ds h K = F22.t5 n0 w0 s3 t7 ds h K := by kernel_rfl
theorem F22.s5 {n0 : Nat} : F22.p5 n0 = wA Try.prog n0 57 none F22.c5 := by kernel_rfl
theorem F22.e5 {n0 : Nat} {w0 s3 t7 : Value} {ds : List Nat} {h : H} {K : KP} : F22.p5 n0 [(0, w0), (3, s3), (7, t7)] ds h K = F22.t5 n0 w0 s3 t7 ds h K :=
  wchain (F22.s5) (F22.g5 w0 s3 t7)
noncomputable def F22.t6 (n0 : Nat) (B7 : WP) (B8 : WP) (w0 s3 t7 : Value) (ds : List Nat) (h : H) (K : KP) : Prop :=
  Bnd (aBin Try.prog true .eql 3 t7 (.int .i64 3)) fun t31 =>
  Cnd t31
   (B7 [(0, w0), (3, s3), (7, t7)] ds h K)
   (B8 [(0, w0), (3, s3), (7, t7)] ds h K)
theorem F22.g6 {n0 : Nat} (B7 : WP) (B8 : WP) (w0 s3 t7 : Value) {ds : List Nat} {h : H} {K : KP} : wA Try.prog n0 57 none (.seq [0, 3, 7, 30] F22.c6.fst (.cond [0, 3, 7] (.tmp 30) (.sub B7) (.sub B8))) [(0, w0), (3, s3), (7, t7)] ds h K = F22.t6 n0 B7 B8 w0 s3 t7 ds h K := by kernel_rfl
theorem F22.s6 {n0 : Nat} : F22.p6 n0 = wA Try.prog n0 57 none (.seq [0, 3, 7, 30] F22.c6.fst (.cond [0, 3, 7] (.tmp 30) (.sub (F22.p7 n0)) (.sub (F22.p8 n0)))) := by kernel_rfl
theorem F22.e6 {n0 : Nat} {w0 s3 t7 : Value} {ds : List Nat} {h : H} {K : KP} : F22.p6 n0 [(0, w0), (3, s3), (7, t7)] ds h K = F22.t6 n0 (F22.p7 n0) (F22.p8 n0) w0 s3 t7 ds h K :=
  wchain (F22.s6) (F22.g6 (F22.p7 n0) (F22.p8 n0) w0 s3 t7)
noncomputable def F22.t7 (n0 : Nat) (w0 s3 t7 : Value) (ds : List Nat) (h : H) (K : KP) : Prop :=
  Bnd (aFieldAddr Try.prog 47 s3 1) fun t33 =>
  Bnd (aLoad Try.prog 24 t33 h) fun t34 =>
  Bnd (aFieldAddr Try.prog 47 s3 2) fun t35 =>
  Bnd (aLoad Try.prog 3 t35 h) fun t36 =>
  Bnd (aFieldAddr Try.prog 47 s3 3) fun t37 =>
  Bnd (aLoad Try.prog 2 t37 h) fun t38 =>
  Bnd (aBin Try.prog true .gtr 2 t38 (.int .i64 0)) fun t39 =>
  Cn Try.prog n0 (.func 46) [w0, t34, t36, t39] h fun t40 h1 =>
  K .ret [(4, (.slice none 0 0)), (5, t40)] ds h1
theorem F22.g7 {n0 : Nat} (w0 s3 t7 : Value) {ds : List Nat} {h : H} {K : KP} : wA Try.prog n0 57 none F22.c7 [(0, w0), (3, s3), (7, t7)] ds h K = F22.t7 n0 w0 s3 t7 ds h K := by kernel_rfl
theorem F22.s7 {n0 : Nat} : F22.p7 n0 = wA Try.prog n0 57 none F22.c7 := by kernel_rfl
theorem F22.e7 {n0 : Nat} {w0 s3 t7 : Value} {ds : List Nat} {h : H} {K : KP} : F22.p7 n0 [(0, w0), (3, s3), (7, t7)] ds h K = F22.t7 n0 w0 s3 t7 ds h K :=
  wchain (F22.s7) (F22.g7 w0 s3 t7)
noncomputable def F22.t8 (n0 : Nat) (B9 : WP) (B10 : WP) (w0 s3 t7 : Value) (ds : List Nat) (h : H) (K : KP) : Prop :=
  Bnd (aBin Try.prog true .eql 3 t7 (.int .i64 4)) fun t42 =>
  Cnd t42
   (B9 [(0, w0), (3, s3), (7, t7)] ds h K)
   (B10 [(0, w0), (3, s3), (7, t7)] ds h K)
theorem F22.g8 {n0 : Nat} (B9 : WP) (B10 : WP) (w0 s3 t7 : Value) {ds : List Nat} {h : H} {K : KP} : wA Try.prog n0 57 none (.seq [0, 3, 7, 41] F22.c8.fst (.cond [0, 3, 7] (.tmp 41) (.sub B9) (.sub B10))) [(0, w0), (3, s3), (7, t7)] ds h K = F22.t8 n0 B9 B10 w0 s3 t7 ds h K := by kernel_rfl
theorem F22.s8 {n0 : Nat} : F22.p8 n0 = wA Try.prog n0 57 none (.seq [0, 3, 7, 41] F22.c8.fst (.cond [0, 3, 7] (.tmp 41) (.sub (F22.p9 n0)) (.sub (F22.p10 n0)))) := by kernel_rfl
theorem F22.e8 {n0 : Nat} {w0 s3 t7 : Value} {ds : List Nat} {h : H} {K : KP} : F22.p8 n0 [(0, w0), (3, s3), (7, t7)] ds h K = F22.t8 n0 (F22.p9 n0) (F22.p10 n0) w0 s3 t7 ds h K :=
  wchain (F22.s8) (F22.g8 (F22.p9 n0) (F22.p10 n0) w0 s3 t7)
noncomputable def F22.t9 (n0 : Nat) (w0 s3 t7 : Value) (ds : List Nat) (h : H) (K : KP) : Prop :=
  Bnd (aFieldAddr Try.prog 47 s3 1) fun t44 =>
  Bnd (aLoad Try.prog 24 t44 h) fun t45 =>
  Bnd (aFieldAddr Try.prog 47 s3 2) fun t46 =>
  Bnd (aLoad Try.prog 3 t46 h) fun t47 =>
  Bnd (aFieldAddr Try.prog 47 s3 4) fun t48 =>
  Bnd (aLoad Try.prog 9 t48 h) fun t49 =>
  Cn Try.prog n0 (.func 41) [w0, t45, t47, t49] h fun t50 h1 =>
  K .ret [(4, (.slice none 0 0)), (5, t50)] ds h1
theorem F22.g9 {n0 : Nat} (w0 s3 t7 : Value) {ds : List Nat} {h : H} {K : KP} : wA Try.prog n0 57 none F22.c9 [(0, w0), (3, s3), (7, t7)] ds h K = F22.t9 n0 w0 s3 t7 ds h K := by kernel_rfl
theorem F22.s9 {n0 : Nat} : F22.p9 n0 = wA Try.prog n0 57 none F22.c9 := by kernel_rfl
theorem F22.e9 {n0 : Nat} {w0 s3 t7 : Value} {ds : List Nat} {h : H} {K : KP} : F22.p9 n0 [(0, w0), (3, s3), (7, t7)] ds h K = F22.t9 n0 w0 s3 t7 ds h K :=
  wchain (F22.s9) (F22.g9 w0 s3 t7)
noncomputable def F22.t10 (n0 : Nat) (B11 : WP) (w0 s3 t7 : Value) (ds : List Nat) (h : H) (K : KP) : Prop :=
  Bnd (aBin Try.prog true .eql 3 t7 (.int .i64 5)) fun t52 =>
  Cnd t52
   (B11 [(0, w0)] ds h K)
   (K .normal [(0, w0)] ds h)
theorem F22.g10 {n0 : Nat} (B11 : WP) (w0 s3 t7 : Value) {ds : List Nat} {h : H} {K : KP} : wA Try.prog n0 57 none (.seq [0, 51] F22.c10.fst (.cond [0] (.tmp 51) (.sub B11) F22.c10.snd.snd)) [(0, w0), (3, s3), (7, t7)] ds h K = F22.t10 n0 B11 w0 s3 t7 ds h K := by kernel_rfl
theorem F22.s10 {n0 : Nat} : F22.p10 n0 = wA Try.prog n0 57 none (.seq [0, 51] F22.c10.fst (.cond [0] (.tmp 51) (.sub (F22.p11 n0)) F22.c10.snd.snd)) := by kernel_rfl
theorem F22.e10 {n0 : Nat} {w0 s3 t7 : Value} {ds : List Nat} {h : H} {K : KP} : F22.p10 n0 [(0, w0), (3, s3), (7, t7)] ds h K = F22.t10 n0 (F22.p11 n0) w0 s3 t7 ds h K :=
  wchain (F22.s10) (F22.g10 (F22.p11 n0) w0 s3 t7)
noncomputable def F22.t11 (n0 : Nat) (w0 : Value) (ds : List Nat) (h : H) (K : KP) : Prop :=
  Cn Try.prog n0 (.func 19) [w0] h fun t54 h1 =>
  Bnd (tupAt t54 0) fun t55 =>
  Bnd (tupAt t54 1) fun t56 =>
  K .ret [(4, t55), (5, t56)] ds h1
theorem F22.g11 {n0 : Nat} (w0 : Value) {ds : List Nat} {h : H} {K : KP} : wA Try.prog n0 57 none F22.c11 [(0, w0)] ds h K = F22.t11 n0 w0 ds h K := by kernel_rfl
theorem F22.s11 {n0 : Nat} : F22.p11 n0 = wA Try.prog n0 57 none F22.c11 := by kernel_rfl
theorem F22.e11 {n0 : Nat} {w0 : Value} {ds : List Nat} {h : H} {K : KP} : F22.p11 n0 [(0, w0)] ds h K = F22.t11 n0 w0 ds h K :=
  wchain (F22.s11) (F22.g11 w0)
noncomputable def F22.t12 (n0 : Nat) (ds : List Nat) (h : H) (K : KP) : Prop :=
  K .ret [(4, (.slice none 0 0)), (5, (.int .i64 0))] ds h
theorem F22.g12 {n0 : Nat} {ds : List Nat} {h : H} {K : KP} : wA Try.prog n0 57 none F22.c12 [] ds h K = F22.t12 n0  ds h K := by kernel_rfl
theorem F22.s12 {n0 : Nat} : F22.p12 n0 = wA Try.prog n0 57 none F22.c12 := by kernel_rfl
theorem F22.e12 {n0 : Nat} {ds : List Nat} {h : H} {K : KP} : F22.p12 n0 [] ds h K = F22.t12 n0  ds h K :=
  wchain (F22.s12) (F22.g12)
theorem F22.b : Try.f22.body = some F22.c0.erase := by kernel_rfl
theorem F22.b2 : (Try.f22.name == "runtime.NumGoroutine") = false := by kernel_rfl
theorem F22.b3 : Try.f22.ntmps = 57 := by kernel_rfl
theorem F22.b4 : Try.f22.results.toList = [.tmp 4, .tmp 5] := by kernel_rfl
theorem F22.enter {n0 : Nat} {x0 x1 : Value} {h : H} {Q : Value → H → Prop} (w : F22.p0 n0 [(0, x0), (1, x1)] [] h (KFin Try.prog [.tmp 4, .tmp 5] Q)) : Cn Try.prog n0 (.func 22) [x0, x1] h Q :=
  @fn_enter Try.prog n0 mixed 22 Try.f22 F22.c0 [x0, x1] h Q Try.func22 F22.b F22.k0 F22.b2 57 F22.b3 [.tmp 4, .tmp 5] F22.b4 (by simp) [(0, x0), (1, x1)] rfl (wback F22.d0 w)

/-! roster.rosterlaw02.should -/
noncomputable def F23.ac : AC := (ann (bodyOf Try.f23) [[0, 3], [], [0, 3, 7], [], [0, 3, 7, 8], [0, 3, 7], [4, 5], [0, 3, 7, 16], [0, 3, 7], [4, 5], [0, 3, 7, 20], [0, 3, 7], [4, 5], [0, 3, 7, 30], [0, 3, 7], [4, 5], [0, 3, 7, 41], [0, 3, 7], [4, 5], [0, 51], [0], [4, 5], [4, 5]]).1
noncomputable def F23.c0 : AC := F23.ac
noncomputable def F23.c1 : AC := F23.ac.snd.fst.snd.fst.snd.fst
noncomputable def F23.c2 : AC := F23.ac.snd.fst.snd.fst.snd.snd
noncomputable def F23.c3 : AC := F23.ac.snd.fst.snd.fst.snd.snd.snd.fst
noncomputable def F23.c4 : AC := F23.ac.snd.fst.snd.fst.snd.snd.snd.snd
noncomputable def F23.c5 : AC := F23.ac.snd.fst.snd.fst.snd.snd.snd.snd.snd.fst
noncomputable def F23.c6 : AC := F23.ac.snd.fst.snd.fst.snd.snd.snd.snd.snd.snd
noncomputable def F23.c7 : AC := F23.ac.snd.fst.snd.fst.snd.snd.snd.snd.snd.snd.snd.fst
noncomputable def F23.c8 : AC := F23.ac.snd.fst.snd.fst.snd.snd.snd.snd.snd.snd.snd.snd
noncomputable def F23.c9 : AC := F23.ac.snd.fst.snd.fst.snd.snd.snd.snd.snd.snd.snd.snd.snd.fst
noncomputable def F23.c10 : AC := F23.ac.snd.fst.snd.fst.snd.snd.snd.snd.snd.snd.snd.snd.snd.snd
noncomputable def F23.c11 : AC := F23.ac.snd.fst.snd.fst.snd.snd.snd.snd.snd.snd.snd.snd.snd.snd.snd.fst
noncomputable def F23.c12 : AC := F23.ac.snd.snd
noncomputable def F23.p0 (n0 : Nat) : WP := wA Try.prog n0 57 none F23.c0
noncomputable def F23.p1 (n0 : Nat) : WP := wA Try.prog n0 57 none F23.c1
noncomputable def F23.p2 (n0 : Nat) : WP := wA Try.prog n0 57 none F23.c2
noncomputable def F23.p3 (n0 : Nat) : WP := wA Try.prog n0 57 none F23.c3
noncomputable def F23.p4 (n0 : Nat) : WP := wA Try.prog n0 57 none F23.c4
noncomputable def F23.p5 (n0 : Nat) : WP := wA Try.prog n0 57 none F23.c5
noncomputable def F23.p6 (n0 : Nat) : WP := wA Try.prog n0 57 none F23.c6
noncomputable def F23.p7 (n0 : Nat) : WP := wA Try.prog n0 57 none F23.c7
noncomputable def F23.p8 (n0 : Nat) : WP := wA Try.prog n0 57 none F23.c8
noncomputable def F23.p9 (n0 : Nat) : WP := wA Try.prog n0 57 none F23.c9
noncomputable def F23.p10 (n0 : Nat) : WP := wA Try.prog n0 57 none F23.c10
noncomputable def F23.p11 (n0 : Nat) : WP := wA Try.prog n0 57 none F23.c11
noncomputable def F23.p12 (n0 : Nat) : WP := wA Try.prog n0 57 none F23.c12
noncomputable def F23.t0 (n0 : Nat) (B1 : WP) (B2 : WP) (B12 : WP) (w0 s1 : Value) (ds : List Nat) (h : H) (K : KP) : Prop :=
  Nw (enc 0 47) (clL s1) h fun s3 h1 =>
  Bnd (aFieldAddr Try.prog 47 s3 0) fun t6 =>
  Bnd (aLoad Try.prog 3 t6 h1) fun t7 =>
  Bnd (aBin Try.prog true .eql 3 t7 (.int .i64 0)) fun t9 =>
  Cnd t9
   (B1 [(0, w0), (3, s3), (7, t7)] ds h1 (KBlk [] 0 (KSeq [] B12 K)))
   (B2 [(0, w0), (3, s3), (7, t7)] ds h1 (KBlk [] 0 (KSeq [] B12 K)))
theorem F23.g0 {n0 : Nat} (B1 : WP) (B2 : WP) (B12 : WP) (w0 s1 : Value) {ds : List Nat} {h : H} {K : KP} : wA Try.prog n0 57 none (.seq [0, 3] F23.c0.fst (.seq [] (.seq [0, 3, 7] F23.c0.snd.fst.fst (.block [] 0 (.seq [0, 3, 7, 8] F23.c0.snd.fst.snd.fst.fst (.cond [0, 3, 7] (.tmp 8) (.sub B1) (.sub B2))))) (.sub B12))) [(0, w0), (1, s1)] ds h K = F23.t0 n0 B1 B2 B12 w0 s1 ds h K := by kernel_rfl
theorem F23.s0 {n0 : Nat} : F23.p0 n0 = wA Try.prog n0 57 none (.seq [0, 3] F23.c0.fst (.seq [] (.seq [0, 3, 7] F23.c0.snd.fst.fst (.block [] 0 (.seq [0, 3, 7, 8] F23.c0.snd.fst.snd.fst.fst (.cond [0, 3, 7] (.tmp 8) (.sub (F23.p1 n0)) (.sub (F23.p2 n0)))))) (.sub (F23.p12 n0)))) := by kernel_rfl
theorem F23.e0 {n0 : Nat} {w0 s1 : Value} {ds : List Nat} {h : H} {K : KP} : F23.p0 n0 [(0, w0), (1, s1)] ds h K = F23.t0 n0 (F23.p1 n0) (F23.p2 n0) (F23.p12 n0) w0 s1 ds h K :=
  wchain (F23.s0) (F23.g0 (F23.p1 n0) (F23.p2 n0) (F23.p12 n0) w0 s1)
theorem F23.k0 : F23.c0.ok = true := by kernel_rfl
theorem F23.d0 {n0 : Nat} : F23.p0 n0 = wA Try.prog n0 57 none F23.c0 := by kernel_rfl
theorem F23.m0 (n0 : Nat) : MonoW (F23.p0 n0) := @mono_c Try.prog n0 57 none F23.c0 (F23.p0 n0) (F23.d0) F23.k0
noncomputable def F23.t1 (n0 : Nat) (w0 s3 t7 : Value) (ds : List Nat) (h : H) (K : KP) : Prop :=
  Bnd (aFieldAddr Try.prog 47 s3 1) fun t11 =>
  Bnd (aLoad Try.prog 24 t11 h) fun t12 =>
  Bnd (aFieldAddr Try.prog 47 s3 2) fun t13 =>
  Bnd (aLoad Try.prog 3 t13 h) fun t14 =>
  Cn Try.prog n0 (.func 47) [w0, t12, t14] h fun t15 h1 =>
  K .ret [(4, (.slice none 0 0)), (5, t15)] ds h1
theorem F23.g1 {n0 : Nat} (w0 s3 t7 : Value) {ds : List Nat} {h : H} {K : KP} : wA Try.prog n0 57 none F23.c1 [(0, w0), (3, s3), (7, t7)] ds h K = F23.t1 n0 w0 s3 t7 ds h K := by kernel_rfl
theorem F23.s1 {n0 : Nat} : F23.p1 n0 = wA Try.prog n0 57 none F23.c1 := by kernel_rfl
theorem F23.e1 {n0 : Nat} {w0 s3 t7 : Value} {ds : List Nat} {h : H} {K : KP} : F23.p1 n0 [(0, w0), (3, s3), (7, t7)] ds h K = F23.t1 n0 w0 s3 t7 ds h K :=
  wchain (F23.s1) (F23.g1 w0 s3 t7)
noncomputable def F23.t2 (n0 : Nat) (B3 : WP) (B4 : WP) (w0 s3 t7 : Value) (ds : List Nat) (h : H) (K : KP) : Prop :=
  Bnd (aBin Try.prog true .eql 3 t7 (.int .i64 1)) fun t17 =>
  Cnd t17
   (B3 [(0, w0), (3, s3), (7, t7)] ds h K)
   (B4 [(0, w0), (3, s3), (7, t7)] ds h K)
theorem F23.g2 {n0 : Nat} (B3 : WP) (B4 : WP) (w0 s3 t7 : Value) {ds : List Nat} {h : H} {K : KP} : wA Try.prog n0 57 none (.seq [0, 3, 7, 16] F23.c2.fst (.cond [0, 3, 7] (.tmp 16) (.sub B3) (.sub B4))) [(0, w0), (3, s3), (7, t7)] ds h K = F23.t2 n0 B3 B4 w0 s3 t7 ds h K := by kernel_rfl
theorem F23.s2 {n0 : Nat} : F23.p2 n0 = wA Try.prog n0 57 none (.seq [0, 3, 7, 16] F23.c2.fst (.cond [0, 3, 7] (.tmp 16) (.sub (F23.p3 n0)) (.sub (F23.p4 n0)))) := by kernel_rfl
theorem F23.e2 {n0 : Nat} {w0 s3 t7 : Value} {ds : List Nat} {h : H} {K : KP} : F23.p2 n0 [(0, w0), (3, s3), (7, t7)] ds h K = F23.t2 n0 (F23.p3 n0) (F23.p4 n0) w0 s3 t7 ds h K :=
  wchain (F23.s2) (F23.g2 (F23.p3 n0) (F23.p4 n0) w0 s3 t7)
noncomputable def F23.t3 (n0 : Nat) (w0 s3 t7 : Value) (ds : List Nat) (h : H) (K : KP) : Prop :=
  Cn Try.prog n0 (.func 48) [w0] h fun t19 h1 =>
  K .ret [(4, (.slice none 0 0)), (5, t19)] ds h1
theorem F23.g3 {n0 : Nat} (w0 s3 t7 : Value) {ds : List Nat} {h : H} {K : KP} : wA Try.prog n0 57 none F23.c3 [(0, w0), (3, s3), (7, t7)] ds h K = F23.t3 n0 w0 s3 t7 ds h K := by kernel_rfl
theorem F23.s3 {n0 : Nat} : F23.p3 n0 = wA Try.prog n0 57 none F23.c3 := by kernel_rfl
theorem F23.e3 {n0 : Nat} {w0 s3 t7 : Value} {ds : List Nat} {h : H} {K : KP} : F23.p3 n0 [(0, w0), (3, s3), (7, t7)] ds h K = F23.t3 n0 w0 s3 t7 ds h K :=
  wchain (F23.s3) (F23.g3 w0 s3 t7)
noncomputable def F23.t4 (n0 : Nat) (B5 : WP) (B6 : WP) (w0 s3 t7 : Value) (ds : List Nat) (h : H) (K : KP) : Prop :=
  Bnd (aBin Try.prog true .eql 3 t7 (.int .i64 2)) fun t21 =>
  Cnd t21
   (B5 [(0, w0), (3, s3), (7, t7)] ds h K)
   (B6 [(0, w0), (3, s3), (7, t7)] ds h K)
theorem F23.g4 {n0 : Nat} (B5 : WP) (B6 : WP) (w0 s3 t7 : Value) {ds : List Nat} {h : H} {K : KP} : wA Try.prog n0 57 none (.seq [0, 3, 7, 20] F23.c4.fst (.cond [0, 3, 7] (.tmp 20) (.sub B5) (.sub B6))) [(0, w0), (3, s3), (7, t7)] ds h K = F23.t4 n0 B5 B6 w0 s3 t7 ds h K := by kernel_rfl
theorem F23.s4 {n0 : Nat} : F23.p4 n0 = wA Try.prog n0 57 none (.seq [0, 3, 7, 20] F23.c4.fst (.cond [0, 3, 7] (.tmp 20) (.sub (F23.p5 n0)) (.sub (F23.p6 n0)))) := by kernel_rfl
theorem F23.e4 {n0 : Nat} {w0 s3 t7 : Value} {ds : List Nat} {h : H} {K : KP} : F23.p4 n0 [(0, w0), (3, s3), (7, t7)] ds h K = F23.t4 n0 (F23.p5 n0) (F23.p6 n0) w0 s3 t7 ds h K :=
  wchain (F23.s4) (F23.g4 (F23.p5 n0) (F23.p6 n0) w0 s3 t7)
noncomputable def F23.t5 (n0 : Nat) (w0 s3 t7 : Value) (ds : List Nat) (h : H) (K : KP) : Prop :=
  Bnd (aFieldAddr Try.prog 47 s3 1) fun t23 =>
  Bnd (aLoad Try.prog 24 t23 h) fun t24 =>
  Bnd (aFieldAddr Try.prog 47 s3 2) fun t25 =>
  Bnd (aLoad Try.prog 3 t25 h) fun t26 =>
  Bnd (aFieldAddr Try.prog 47 s3 3) fun t27 =>
  Bnd (aLoad Try.prog 2 t27 h) fun t28 =>
  Cn Try.prog n0 (.func 49) [w0, t24, t26, t28] h fun t29 h1 =>
  K .ret [(4, (.slice none 0 0)), (5, t29)] ds h1
theorem F23.g5 {n0 : Nat} (w0 s3 t7 : Value) {ds : List Nat} {h : H} {K : KP} : wA Try.prog n0 57 none F23.c5 [(0, w0), (3, s3), (7, t7)] ds h K = F23.t5 n0 w0 s3 t7 ds h K := by kernel_rfl
theorem F23.s5 {n0 : Nat} : F23.p5 n0 = wA Try.prog n0 57 none F23.c5 := by kernel_rfl
theorem F23.e5 {n0 : Nat} {w0 s3 t7 : Value} {ds : List Nat} {h : H} {K : KP} : F23.p5 n0 [(0, w0), (3, s3), (7, t7)] ds h K = F23.t5 n0 w0 s3 t7 ds h K :=
  wchain (F23.s5) (F23.g5 w0 s3 t7)
noncomputable def F23.t6 (n0 : Nat) (B7 : WP) (B8 : WP) (w0 s3 t7 : Value) (ds : List Nat) (h : H) (K : KP) : Prop :=
  Bnd (aBin Try.prog true .eql 3 t7 (.int .i64 3)) fun t31 =>
  Cnd t31
   (B7 [(0, w0), (3, s3), (7, t7)] ds h K)
   (B8 [(0, w0), (3, s3), (7, t7)] ds h K)
theorem F23.g6 {n0 : Nat} (B7 : WP) (B8 : WP) (w0 s3 t7 : Value) {ds : List Nat} {h : H} {K : KP} : wA Try.prog n0 57 none (.seq [0, 3, 7, 30] F23.c6.fst (.cond [0, 3, 7] (.tmp 30) (.sub B7) (.sub B8))) [(0, w0), (3, s3), (7, t7)] ds h K = F23.t6 n0 B7 B8 w0 s3 t7 ds h K := by kernel_rfl
theorem F23.s6 {n0 : Nat} : F23.p6 n0 = wA Try.prog n0 57 none (.seq [0, 3, 7, 30] F23.c6.fst (.cond [0, 3, 7] (.tmp 30) (.sub (F23.p7 n0)) (.sub (F23.p8 n0)))) := by kernel_rfl
theorem F23.e6 {n0 : Nat} {w0 s3 t7 : Value} {ds : List Nat} {h : H} {K : KP} : F23.p6 n0 [(0, w0), (3, s3), (7, t7)] ds h K = F23.t6 n0 (F23.p7 n0) (F23.p8 n0) w0 s3 t7 ds h K :=
  wchain (F23.s6) (F23.g6 (F23.p7 n0) (F23.p8 n0) w0 s3 t7)
noncomputable def F23.t7 (n0 : Nat) (w0 s3 t7 : Value) (ds : List Nat) (h : H) (K : KP) : Prop :=
  Bnd (aFieldAddr Try.prog 47 s3 1) fun t33 =>
  Bnd (aLoad Try.prog 24 t33 h) fun t34 =>
  Bnd (aFieldAddr Try.prog 47 s3 2) fun t35 =>
  Bnd (aLoad Try.prog 3 t35 h) fun t36 =>
  Bnd (aFieldAddr Try.prog 47 s3 3) fun t37 =>
  Bnd (aLoad Try.prog 2 t37 h) fun t38 =>
  Bnd (aBin Try.prog true .gtr 2 t38 (.int .i64 0)) fun t39 =>
  Cn Try.prog n0 (.func 50) [w0, t34, t36, t39] h fun t40 h1 =>
  K .ret [(4, (.slice none 0 0)), (5, t40)] ds h1
theorem F23.g7 {n0 : Nat} (w0 s3 t7 : Value) {ds : List Nat} {h : H} {K : KP} : wA Try.prog n0 57 none F23.c7 [(0, w0), (3, s3), (7, t7)] ds h K = F23.t7 n0 w0 s3 t7 ds h K := by kernel_rfl
theorem F23.s7 {n0 : Nat} : F23.p7 n0 = wA Try.prog n0 57 none F23.c7 := by kernel_rfl
theorem F23.e7 {n0 : Nat} {w0 s3 t7 : Value} {ds : List Nat} {h : H} {K : KP} : F23.p7 n0 [(0, w0), (3, s3), (7, t7)] ds h K = F23.t7 n0 w0 s3 t7 ds h K :=
  wchain (F23.s7) (F23.g7 w0 s3 t7)
noncomputable def F23.t8 (n0 : Nat) (B9 : WP) (B10 : WP) (w0 s3 t7 : Value) (ds : List Nat) (h : H) (K : KP) : Prop :=
  Bnd (aBin Try.prog true .eql 3 t7 (.int .i64 4)) fun t42 =>
  Cnd t42
   (B9 [(0, w0), (3, s3), (7, t7)] ds h K)
   (B10 [(0, w0), (3, s3), (7, t7)] ds h K)
theorem F23.g8 {n0 : Nat} (B9 : WP) (B10 : WP) (w0 s3 t7 : Value) {ds : List Nat} {h : H} {K : KP} : wA Try.prog n0 57 none (.seq [0, 3, 7, 41] F23.c8.fst (.cond [0, 3, 7] (.tmp 41) (.sub B9) (.sub B10))) [(0, w0), (3, s3), (7, t7)] ds h K = F23.t8 n0 B9 B10 w0 s3 t7 ds h K := by kernel_rfl
theorem F23.s8 {n0 : Nat} : F23.p8 n0 = wA Try.prog n0 57 none (.seq [0, 3, 7, 41] F23.c8.fst (.cond [0, 3, 7] (.tmp 41) (.sub (F23.p9 n0)) (.sub (F23.p10 n0)))) := by kernel_rfl
theorem F23.e8 {n0 : Nat} {w0 s3 t7 : Value} {ds : List Nat} {h : H} {K : KP} : F23.p8 n0 [(0, w0), (3, s3), (7, t7)] ds h K = F23.t8 n0 (F23.p9 n0) (F23.p10 n0) w0 s3 t7 ds h K :=
  wchain (F23.s8) (F23.g8 (F23.p9 n0) (F23.p10 n0) w0 s3 t7)
noncomputable def F23.t9 (n0 : Nat) (w0 s3 t7 : Value) (ds : List Nat) (h : H) (K : KP) : Prop :=
  Bnd (aFieldAddr Try.prog 47 s3 1) fun t44 =>
  Bnd (aLoad Try.prog 24 t44 h) fun t45 =>
  Bnd (aFieldAddr Try.prog 47 s3 2) fun t46 =>
  Bnd (aLoad Try.prog 3 t46 h) fun t47 =>
  Bnd (aFieldAddr Try.prog 47 s3 4) fun t48 =>
  Bnd (aLoad Try.prog 9 t48 h) fun t49 =>
  Cn Try.prog n0 (.func 51) [w0, t45, t47, t49] h fun t50 h1 =>
  K .ret [(4, (.slice none 0 0)), (5, t50)] ds h1
theorem F23.g9 {n0 : Nat} (w0 s3 t7 : Value) {ds : List Nat} {h : H} {K : KP} : wA Try.prog n0 57 none F23.c9 [(0, w0), (3, s3), (7, t7)] ds h K = F23.t9 n0 w0 s3 t7 ds h K := by kernel_rfl
theorem F23.s9 {n0 : Nat} : F23.p9 n0 = wA Try.prog n0 57 none F23.c9 := by kernel_rfl
theorem F23.e9 {n0 : Nat} {w0 s3 t7 : Value} {ds : List Nat} {h : H} {K : KP} : F23.p9 n0 [(0, w0), (3, s3), (7, t7)] ds h K = F23.t9 n0 w0 s3 t7 ds h K :=
  wchain (F23.s9) (F23.g9 w0 s3 t7)
noncomputable def F23.t10 (n0 : Nat) (B11 : WP) (w0 s3 t7 : Value) (ds : List Nat) (h : H) (K : KP) : Prop :=
  Bnd (aBin Try.prog true .eql 3 t7 (.int .i64 5)) fun t52 =>
  Cnd t52
   (B11 [(0, w0)] ds h K)
   (K .normal [(0, w0)] ds h)
theorem F23.g10 {n0 : Nat} (B11 : WP) (w0 s3 t7 : Value) {ds : List Nat} {h : H} {K : KP} : wA Try.prog n0 57 none (.seq [0, 51] F23.c10.fst (.cond [0] (.tmp 51) (.sub B11) F23.c10.snd.snd)) [(0, w0), (3, s3), (7, t7)] ds h K = F23.t10 n0 B11 w0 s3 t7 ds h K := by kernel_rfl
theorem F23.s10 {n0 : Nat} : F23.p10 n0 = wA Try.prog n0 57 none (.seq [0, 51] F23.c10.fst (.cond [0] (.tmp 51) (.sub (F23.p11 n0)) F23.c10.snd.snd)) := by kernel_rfl
theorem F23.e10 {n0 : Nat} {w0 s3 t7 : Value} {ds : List Nat} {h : H} {K : KP} : F23.p10 n0 [(0, w0), (3, s3), (7, t7)] ds h K = F23.t10 n0 (F23.p11 n0) w0 s3 t7 ds h K :=
  wchain (F23.s10) (F23.g10 (F23.p11 n0) w0 s3 t7)
noncomputable def F23.t11 (n0 : Nat) (w0 : Value) (ds : List Nat) (h : H) (K : KP) : Prop :=
  Cn Try.prog n0 (.func 25) [w0] h fun t54 h1 =>
  Bnd (tupAt t54 0) fun t55 =>
  Bnd (tupAt t54 1) fun t56 =>
  K .ret [(4, t55), (5, t56)] ds h1
theorem F23.g11 {n0 : Nat} (w0 : Value) {ds : List Nat} {h : H} {K : KP} : wA Try.prog n0 57 none F23.c11 [(0, w0)] ds h K = F23.t11 n0 w0 ds h K := by kernel_rfl
theorem F23.s11 {n0 : Nat} : F23.p11 n0 = wA Try.prog n0 57 none F23.c11 := by kernel_rfl
theorem F23.e11 {n0 : Nat} {w0 : Value} {ds : List Nat} {h : H} {K : KP} : F23.p11 n0 [(0, w0)] ds h K = F23.t11 n0 w0 ds h K :=
  wchain (F23.s11) (F23.g11 w0)
noncomputable def F23.t12 (n0 : Nat) (ds : List Nat) (h : H) (K : KP) : Prop :=
  K .ret [(4, (.slice none 0 0)), (5, (.int .i64 0))] ds h
theorem F23.g12 {n0 : Nat} {ds : List Nat} {h : H} {K : KP} : wA Try.prog n0 57 none F23.c12 [] ds h K = F23.t12 n0  ds h K := by kernel_rfl
theorem F23.s12 {n0 : Nat} : F23.p12 n0 = wA Try.prog n0 57 none F23.c12 := by kernel_rfl
theorem F23.e12 {n0 : Nat} {ds : List Nat} {h : H} {K : KP} : F23.p12 n0 [] ds h K = F23.t12 n0  ds h K :=
  wchain (F23.s12) (F23.g12)
theorem F23.b : Try.f23.body = some F23.c0.erase := by kernel_rfl
theorem F23.b2 : (Try.f23.name == "runtime.NumGoroutine") = false := by kernel_rfl
theorem F23.b3 : Try.f23.ntmps = 57 := by kernel_rfl
theorem F23.b4 : Try.f23.results.toList = [.tmp 4, .tmp 5] := by kernel_rfl
theorem F23.enter {n0 : Nat} {x0 x1 : Value} {h : H} {Q : Value → H → Prop} (w : F23.p0 n0 [(0, x0), (1, x1)] [] h (KFin Try.prog [.tmp 4, .tmp 5] Q)) : Cn Try.prog n0 (.func 23) [x0, x1] h Q :=
  @fn_enter Try.prog n0 mixed 23 Try.f23 F23.c0 [x0, x1] h Q Try.func23 F23.b F23.k0 F23.b2 57 F23.b3 [.tmp 4, .tmp 5] F23.b4 (by simp) [(0, x0), (1, x1)] rfl (wback F23.d0 w)

/-! roster.rosterlaw02.keep -/
noncomputable def F24.ac : AC := (ann (bodyOf Try.f24) [[0, 1, 2, 3], [0, 1], [0, 1, 2, 3, 22], [0, 1, 2, 3], [8, 9], [8, 9]]).1
noncomputable def F24.c0 : AC := F24.ac
noncomputable def F24.c1 : AC := F24.ac.snd.fst.snd.fst
noncomputable def F24.c2 : AC := F24.ac.snd.snd
noncomputable def F24.p0 (n0 : Nat) : WP := wA Try.prog n0 33 none F24.c0
noncomputable def F24.p1 (n0 : Nat) : WP := wA Try.prog n0 33 none F24.c1
noncomputable def F24.p2 (n0 : Nat) : WP := wA Try.prog n0 33 none F24.c2
noncomputable def F24.t0 (n0 : Nat) (B1 : WP) (B2 : WP) (told0 want1 a2 b3 : Value) (ds : List Nat) (h : H) (K : KP) : Prop :=
  Bnd2 (aBuiltin Try.prog .len #[44] [told0] h) fun t11 h1 =>
  Bnd (aBin Try.prog true .lss 3 t11 (.int .i64 30)) fun t12 =>
  Gd t12
   (Bnd2 (aBuiltin Try.prog .len #[22] [a2] h1) fun t15 h2 =>
  Bnd (aBin Try.prog true .gtr 3 t15 (.int .i64 0)) fun t16 =>
  Gd t16
   (Bnd2 (aBuiltin Try.prog .len #[22] [a2] h2) fun t20 h3 =>
  Bnd (aBin Try.prog true .lss 3 t20 (.int .i64 65536)) fun t21 =>
  Cnd t21
   (B1 [(0, told0), (1, want1), (2, a2), (3, b3)] ds h3 (KSeq [0, 1] B2 K))
   (B2 [(0, told0), (1, want1)] ds h3 K))
   (B2 [(0, told0), (1, want1)] ds h2 K))
   (B2 [(0, told0), (1, want1)] ds h1 K)
theorem F24.g0 {n0 : Nat} (B1 : WP) (B2 : WP) (told0 want1 a2 b3 : Value) {ds : List Nat} {h : H} {K : KP} : wA Try.prog n0 33 none (.seq [0, 1, 2, 3] F24.c0.fst (.seq [0, 1] (.seq [0, 1, 2, 3, 22] F24.c0.snd.fst.fst (.cond [0, 1, 2, 3] (.tmp 22) (.sub B1) F24.c0.snd.fst.snd.snd)) (.sub B2))) [(0, told0), (1, want1), (2, a2), (3, b3)] ds h K = F24.t0 n0 B1 B2 told0 want1 a2 b3 ds h K := by kernel_rfl
theorem F24.s0 {n0 : Nat} : F24.p0 n0 = wA Try.prog n0 33 none (.seq [0, 1, 2, 3] F24.c0.fst (.seq [0, 1] (.seq [0, 1, 2, 3, 22] F24.c0.snd.fst.fst (.cond [0, 1, 2, 3] (.tmp 22) (.sub (F24.p1 n0)) F24.c0.snd.fst.snd.snd)) (.sub (F24.p2 n0)))) := by kernel_rfl
theorem F24.e0 {n0 : Nat} {told0 want1 a2 b3 : Value} {ds : List Nat} {h : H} {K : KP} : F24.p0 n0 [(0, told0), (1, want1), (2, a2), (3, b3)] ds h K = F24.t0 n0 (F24.p1 n0) (F24.p2 n0) told0 want1 a2 b3 ds h K :=
  wchain (F24.s0) (F24.g0 (F24.p1 n0) (F24.p2 n0) told0 want1 a2 b3)
theorem F24.k0 : F24.c0.ok = true := by kernel_rfl
theorem F24.d0 {n0 : Nat} : F24.p0 n0 = wA Try.prog n0 33 none F24.c0 := by kernel_rfl
theorem F24.m0 (n0 : Nat) : MonoW (F24.p0 n0) := @mono_c Try.prog n0 33 none F24.c0 (F24.p0 n0) (F24.d0) F24.k0
noncomputable def F24.t1 (n0 : Nat) (told0 want1 a2 b3 : Value) (ds : List Nat) (h : H) (K : KP) : Prop :=
  Bnd2 (aBuildSlice Try.prog 44 1 [(0, a2)] h) fun t25 h1 =>
  Bnd2 (aBuiltin Try.prog .append #[44, 44] [told0, t25] h1) fun t26 h2 =>
  Bnd2 (aBuildSlice Try.prog 44 1 [(0, b3)] h2) fun t29 h3 =>
  Bnd2 (aBuiltin Try.prog .append #[44, 44] [want1, t29] h3) fun t30 h4 =>
  K .ret [(8, t26), (9, t30)] ds h4
theorem F24.g1 {n0 : Nat} (told0 want1 a2 b3 : Value) {ds : List Nat} {h : H} {K : KP} : wA Try.prog n0 33 none F24.c1 [(0, told0), (1, want1), (2, a2), (3, b3)] ds h K = F24.t1 n0 told0 want1 a2 b3 ds h K := by kernel_rfl
theorem F24.s1 {n0 : Nat} : F24.p1 n0 = wA Try.prog n0 33 none F24.c1 := by kernel_rfl
theorem F24.e1 {n0 : Nat} {told0 want1 a2 b3 : Value} {ds : List Nat} {h : H} {K : KP} : F24.p1 n0 [(0, told0), (1, want1), (2, a2), (3, b3)] ds h K = F24.t1 n0 told0 want1 a2 b3 ds h K :=
  wchain (F24.s1) (F24.g1 told0 want1 a2 b3)
noncomputable def F24.t2 (n0 : Nat) (told0 want1 : Value) (ds : List Nat) (h : H) (K : KP) : Prop :=
  K .ret [(8, told0), (9, want1)] ds h
theorem F24.g2 {n0 : Nat} (told0 want1 : Value) {ds : List Nat} {h : H} {K : KP} : wA Try.prog n0 33 none F24.c2 [(0, told0), (1, want1)] ds h K = F24.t2 n0 told0 want1 ds h K := by kernel_rfl
theorem F24.s2 {n0 : Nat} : F24.p2 n0 = wA Try.prog n0 33 none F24.c2 := by kernel_rfl
theorem F24.e2 {n0 : Nat} {told0 want1 : Value} {ds : List Nat} {h : H} {K : KP} : F24.p2 n0 [(0, told0), (1, want1)] ds h K = F24.t2 n0 told0 want1 ds h K :=
  wchain (F24.s2) (F24.g2 told0 want1)
theorem F24.b : Try.f24.body = some F24.c0.erase := by kernel_rfl
theorem F24.b2 : (Try.f24.name == "runtime.NumGoroutine") = false := by kernel_rfl
theorem F24.b3 : Try.f24.ntmps = 33 := by kernel_rfl
theorem F24.b4 : Try.f24.results.toList = [.tmp 8, .tmp 9] := by kernel_rfl
theorem F24.enter {n0 : Nat} {x0 x1 x2 x3 : Value} {h : H} {Q : Value → H → Prop} (w : F24.p0 n0 [(0, x0), (1, x1), (2, x2), (3, x3)] [] h (KFin Try.prog [.tmp 8, .tmp 9] Q)) : Cn Try.prog n0 (.func 24) [x0, x1, x2, x3] h Q :=
  @fn_enter Try.prog n0 mixed 24 Try.f24 F24.c0 [x0, x1, x2, x3] h Q Try.func24 F24.b F24.k0 F24.b2 33 F24.b3 [.tmp 8, .tmp 9] F24.b4 (by simp) [(0, x0), (1, x1), (2, x2), (3, x3)] rfl (wback F24.d0 w)

/-! (*roster.rosterref02.Writer).Bytes -/
noncomputable def F25.ac : AC := (ann (bodyOf Try.f25) [[0], [0], [0, 9], [0], [2, 3], [2, 3]]).1
noncomputable def F25.c0 : AC := F25.ac
noncomputable def F25.c1 : AC := F25.ac.snd.fst.snd.fst
noncomputable def F25.c2 : AC := F25.ac.snd.snd
noncomputable def F25.p0 (n0 : Nat) : WP := wA Try.prog n0 18 none F25.c0
noncomputable def F25.p1 (n0 : Nat) : WP := wA Try.prog n0 18 none F25.c1
noncomputable def F25.p2 (n0 : Nat) : WP := wA Try.prog n0 18 none F25.c2
noncomputable def F25.t0 (n0 : Nat) (B1 : WP) (B2 : WP) (w0 : Value) (ds : List Nat) (h : H) (K : KP) : Prop :=
  NilC w0 <|
  Bnd (aFieldAddr Try.prog 91 w0 0) fun t6 =>
  Bnd (aLoad Try.prog 89 t6 h) fun t7 =>
  Bnd2 (aBuiltin Try.prog .len #[89] [t7] h) fun t8 h1 =>
  Bnd (aBin Try.prog true .gtr 3 t8 (.int .i64 1)) fun t9 =>
  Cnd t9
   (B1 [(0, w0)] ds h1 (KSeq [0] B2 K))
   (B2 [(0, w0)] ds h1 K)
theorem F25.g0 {n0 : Nat} (B1 : WP) (B2 : WP) (w0 : Value) {ds : List Nat} {h : H} {K : KP} : wA Try.prog n0 18 none (.seq [0] F25.c0.fst (.seq [0] (.seq [0, 9] F25.c0.snd.fst.fst (.cond [0] (.tmp 9) (.sub B1) F25.c0.snd.fst.snd.snd)) (.sub B2))) [(0, w0)] ds h K = F25.t0 n0 B1 B2 w0 ds h K := by kernel_rfl
theorem F25.s0 {n0 : Nat} : F25.p0 n0 = wA Try.prog n0 18 none (.seq [0] F25.c0.fst (.seq [0] (.seq [0, 9] F25.c0.snd.fst.fst (.cond [0] (.tmp 9) (.sub (F25.p1 n0)) F25.c0.snd.fst.snd.snd)) (.sub (F25.p2 n0)))) := by kernel_rfl
theorem F25.e0 {n0 : Nat} {w0 : Value} {ds : List Nat} {h : H} {K : KP} : F25.p0 n0 [(0, w0)] ds h K = F25.t0 n0 (F25.p1 n0) (F25.p2 n0) w0 ds h K :=
  wchain (F25.s0) (F25.g0 (F25.p1 n0) (F25.p2 n0) w0)
theorem F25.k0 : F25.c0.ok = true := by kernel_rfl
theorem F25.d0 {n0 : Nat} : F25.p0 n0 = wA Try.prog n0 18 none F25.c0 := by kernel_rfl
theorem F25.m0 (n0 : Nat) : MonoW (F25.p0 n0) := @mono_c Try.prog n0 18 none F25.c0 (F25.p0 n0) (F25.d0) F25.k0
noncomputable def F25.t1 (n0 : Nat) (w0 : Value) (ds : List Nat) (h : H) (K : KP) : Prop :=
  K .ret [(2, (.slice none 0 0)), (3, (.int .i64 5))] ds h
theorem F25.g1 {n0 : Nat} (w0 : Value) {ds : List Nat} {h : H} {K : KP} : wA Try.prog n0 18 none F25.c1 [(0, w0)] ds h K = F25.t1 n0 w0 ds h K := by kernel_rfl
theorem F25.s1 {n0 : Nat} : F25.p1 n0 = wA Try.prog n0 18 none F25.c1 := by kernel_rfl
theorem F25.e1 {n0 : Nat} {w0 : Value} {ds : List Nat} {h : H} {K : KP} : F25.p1 n0 [(0, w0)] ds h K = F25.t1 n0 w0 ds h K :=
  wchain (F25.s1) (F25.g1 w0)
noncomputable def F25.t2 (n0 : Nat) (w0 : Value) (ds : List Nat) (h : H) (K : KP) : Prop :=
  NilC w0 <|
  Bnd (aFieldAddr Try.prog 91 w0 0) fun t12 =>
  Bnd (aLoad Try.prog 89 t12 h) fun t13 =>
  Bnd (aIndexAddr Try.prog 89 t13 (.int .i64 0)) fun t14 =>
  Bnd (aFieldAddr Try.prog 94 t14 2) fun t15 =>
  Bnd (aLoad Try.prog 22 t15 h) fun t16 =>
  Bnd2 (aBuiltin Try.prog .append #[22, 22] [(.slice none 0 0), t16] h) fun t17 h1 =>
  K .ret [(2, t17), (3, (.int .i64 0))] ds h1
theorem F25.g2 {n0 : Nat} (w0 : Value) {ds : List Nat} {h : H} {K : KP} : wA Try.prog n0 18 none F25.c2 [(0, w0)] ds h K = F25.t2 n0 w0 ds h K := by kernel_rfl
theorem F25.s2 {n0 : Nat} : F25.p2 n0 = wA Try.prog n0 18 none F25.c2 := by kernel_rfl
theorem F25.e2 {n0 : Nat} {w0 : Value} {ds : List Nat} {h : H} {K : KP} : F25.p2 n0 [(0, w0)] ds h K = F25.t2 n0 w0 ds h K :=
  wchain (F25.s2) (F25.g2 w0)
theorem F25.b : Try.f25.body = some F25.c0.erase := by kernel_rfl
theorem F25.b2 : (Try.f25.name == "runtime.NumGoroutine") = false := by kernel_rfl
theorem F25.b3 : Try.f25.ntmps = 18 := by kernel_rfl
theorem F25.b4 : Try.f25.results.toList = [.tmp 2, .tmp 3] := by kernel_rfl
theorem F25.enter {n0 : Nat} {x0 : Value} {h : H} {Q : Value → H → Prop} (w : F25.p0 n0 [(0, x0)] [] h (KFin Try.prog [.tmp 2, .tmp 3] Q)) : Cn Try.prog n0 (.func 25) [x0] h Q :=
  @fn_enter Try.prog n0 mixed 25 Try.f25 F25.c0 [x0] h Q Try.func25 F25.b F25.k0 F25.b2 18 F25.b3 [.tmp 2, .tmp 3] F25.b4 (by simp) [(0, x0)] rfl (wback F25.d0 w)

/-! roster.rosterlaw02.fresh -/
noncomputable def F26.ac : AC := (ann (bodyOf Try.f26) [[0, 1], [0], [0, 1, 14, 15], [0], [0, 1, 14, 15], [0, 1, 14, 15, 16], [0, 1, 14, 15], [0, 1, 14, 15], [0, 1, 14, 15], [0, 1, 14, 15], [0, 1, 5, 14, 15], [0, 1, 14, 15, 28], [0, 1, 14, 15], [4], [0], [0, 31, 32], [0], [0, 31, 32], [0, 31, 32, 33], [0, 31, 32], [0, 31, 32], [0, 31, 32], [0, 31, 32], [0, 6, 31, 32], [0, 6, 31, 32, 39, 40], [0, 31, 32], [0, 6, 31, 32, 39, 40], [0, 6, 31, 32, 39, 40, 41], [0, 6, 31, 32, 39, 40], [0, 6, 31, 32, 39, 40], [0, 6, 31, 32, 39, 40], [0, 6, 31, 32, 39, 40], [0, 6, 7, 31, 32, 39, 40], [0, 8], [0, 8], [0, 8, 54, 55], [0, 8], [0, 8, 54, 55], [0, 8, 54, 55, 56], [0, 8, 54, 55], [0, 8, 54, 55], [0, 8, 54, 55], [0, 8, 54, 55], [0, 8, 9, 54, 55], [0, 8, 9, 10, 54, 55], [0, 8, 10, 54, 55], [0, 8, 9, 10, 54, 55, 62], [0, 8, 10, 54, 55], [0, 8, 9, 10, 54, 55, 62], [0, 8, 9, 10, 54, 55, 62, 63], [0, 8, 9, 10, 54, 55, 62], [0, 8, 9, 10, 54, 55, 62], [0, 8, 9, 10, 54, 55, 62], [0, 8, 9, 10, 54, 55, 62], [], [0, 8, 77, 78], [], [0, 8, 77, 78], [0, 8, 77, 78, 79], [0, 8, 77, 78], [0, 8, 77, 78], [0, 8, 77, 78], [0, 8, 77, 78], [0, 8, 11, 77, 78], [0, 8, 11, 77, 78, 85, 86], [0, 8, 77, 78], [0, 8, 11, 77, 78, 85, 86], [0, 8, 11, 77, 78, 85, 86, 87], [0, 8, 11, 77, 78, 85, 86], [0, 8, 11, 77, 78, 85, 86], [0, 8, 11, 77, 78, 85, 86], [0, 8, 11, 77, 78, 85, 86], [0, 8, 11, 12, 77, 78, 85, 86], [0, 8, 11, 77, 78, 85, 86, 129], [0, 8, 11, 77, 78, 85, 86], [4], [4]]).1
noncomputable def F26.c0 : AC := F26.ac
noncomputable def F26.c1 : AC := F26.ac.snd.fst.snd.fst.fst
noncomputable def F26.c2 : AC := F26.ac.snd.fst.snd.fst.fst.snd.snd
noncomputable def F26.c3 : AC := F26.ac.snd.fst.snd.fst.fst.snd.snd.fst.fst.snd.snd.fst
noncomputable def F26.c4 : AC := F26.ac.snd.fst.snd.fst.fst.snd.snd.snd
noncomputable def F26.c5 : AC := F26.ac.snd.snd
noncomputable def F26.c6 : AC := F26.ac.snd.snd.fst.snd.fst.fst
noncomputable def F26.c7 : AC := F26.ac.snd.snd.fst.snd.fst.fst.snd.snd
noncomputable def F26.c8 : AC := F26.ac.snd.snd.fst.snd.fst.fst.snd.snd.fst.fst.snd.snd.fst.fst
noncomputable def F26.c9 : AC := F26.ac.snd.snd.fst.snd.fst.fst.snd.snd.fst.fst.snd.snd.fst.fst.snd.snd
noncomputable def F26.c10 : AC := F26.ac.snd.snd.fst.snd.fst.fst.snd.snd.fst.fst.snd.snd.fst.fst.snd.snd.snd
noncomputable def F26.c11 : AC := F26.ac.snd.snd.fst.snd.fst.fst.snd.snd.snd
noncomputable def F26.c12 : AC := F26.ac.snd.snd.snd
noncomputable def F26.c13 : AC := F26.ac.snd.snd.snd.snd.fst.snd.fst.fst
noncomputable def F26.c14 : AC := F26.ac.snd.snd.snd.snd.fst.snd.fst.fst.snd.snd
noncomputable def F26.c15 : AC := F26.ac.snd.snd.snd.snd.fst.snd.fst.fst.snd.snd.fst.fst.snd.snd.fst.snd.fst.fst
noncomputable def F26.c16 : AC := F26.ac.snd.snd.snd.snd.fst.snd.fst.fst.snd.snd.fst.fst.snd.snd.fst.snd.fst.fst.snd.snd
noncomputable def F26.c17 : AC := F26.ac.snd.snd.snd.snd.fst.snd.fst.fst.snd.snd.fst.fst.snd.snd.fst.snd.fst.fst.snd.snd.snd
noncomputable def F26.c18 : AC := F26.ac.snd.snd.snd.snd.fst.snd.fst.fst.snd.snd.fst.fst.snd.snd.snd
noncomputable def F26.c19 : AC := F26.ac.snd.snd.snd.snd.fst.snd.fst.fst.snd.snd.snd
noncomputable def F26.c20 : AC := F26.ac.snd.snd.snd.snd.snd
noncomputable def F26.c21 : AC := F26.ac.snd.snd.snd.snd.snd.fst.snd.fst.fst
noncomputable def F26.c22 : AC := F26.ac.snd.snd.snd.snd.snd.fst.snd.fst.fst.snd.snd
noncomputable def F26.c23 : AC := F26.ac.snd.snd.snd.snd.snd.fst.snd.fst.fst.snd.snd.fst.fst.snd.snd.fst.fst
noncomputable def F26.c24 : AC := F26.ac.snd.snd.snd.snd.snd.fst.snd.fst.fst.snd.snd.fst.fst.snd.snd.fst.fst.snd.snd
noncomputable def F26.c25 : AC := F26.ac.snd.snd.snd.snd.snd.fst.snd.fst.fst.snd.snd.fst.fst.snd.snd.fst.fst.snd.snd.fst.fst.snd.snd.fst
noncomputable def F26.c26 : AC := F26.ac.snd.snd.snd.snd.snd.fst.snd.fst.fst.snd.snd.fst.fst.snd.snd.fst.fst.snd.snd.snd
noncomputable def F26.c27 : AC := F26.ac.snd.snd.snd.snd.snd.fst.snd.fst.fst.snd.snd.snd
noncomputable def F26.c28 : AC := F26.ac.snd.snd.snd.snd.snd.snd
noncomputable def F26.p0 (n0 : Nat) : WP := wA Try.prog n0 132 none F26.c0
noncomputable def F26.p1 (n0 : Nat) : WP := wA Try.prog n0 132 none F26.c1
noncomputable def F26.p2 (n0 : Nat) : WP := wA Try.prog n0 132 none F26.c2
noncomputable def F26.p3 (n0 : Nat) : WP := wA Try.prog n0 132 none F26.c3
noncomputable def F26.p4 (n0 : Nat) : WP := wA Try.prog n0 132 none F26.c4
noncomputable def F26.p5 (n0 : Nat) : WP := wA Try.prog n0 132 none F26.c5
noncomputable def F26.p6 (n0 : Nat) : WP := wA Try.prog n0 132 none F26.c6
noncomputable def F26.p7 (n0 : Nat) : WP := wA Try.prog n0 132 none F26.c7
noncomputable def F26.p8 (n0 : Nat) : WP := wA Try.prog n0 132 none F26.c8
noncomputable def F26.p9 (n0 : Nat) : WP := wA Try.prog n0 132 none F26.c9
noncomputable def F26.p10 (n0 : Nat) : WP := wA Try.prog n0 132 none F26.c10
noncomputable def F26.p11 (n0 : Nat) : WP := wA Try.prog n0 132 none F26.c11
noncomputable def F26.p12 (n0 : Nat) : WP := wA Try.prog n0 132 none F26.c12
noncomputable def F26.p13 (n0 : Nat) : WP := wA Try.prog n0 132 none F26.c13
noncomputable def F26.p14 (n0 : Nat) : WP := wA Try.prog n0 132 none F26.c14
noncomputable def F26.p15 (n0 : Nat) : WP := wA Try.prog n0 132 none F26.c15
noncomputable def F26.p16 (n0 : Nat) : WP := wA Try.prog n0 132 none F26.c16
noncomputable def F26.p17 (n0 : Nat) : WP := wA Try.prog n0 132 none F26.c17
noncomputable def F26.p18 (n0 : Nat) : WP := wA Try.prog n0 132 none F26.c18
noncomputable def F26.p19 (n0 : Nat) : WP := wA Try.prog n0 132 none F26.c19
noncomputable def F26.p20 (n0 : Nat) : WP := wA Try.prog n0 132 none F26.c20
noncomputable def F26.p21 (n0 : Nat) : WP := wA Try.prog n0 132 none F26.c21
noncomputable def F26.p22 (n0 : Nat) : WP := wA Try.prog n0 132 none F26.c22
noncomputable def F26.p23 (n0 : Nat) : WP := wA Try.prog n0 132 none F26.c23
noncomputable def F26.p24 (n0 : Nat) : WP := wA Try.prog n0 132 none F26.c24
noncomputable def F26.p25 (n0 : Nat) : WP := wA Try.prog n0 132 none F26.c25
noncomputable def F26.p26 (n0 : Nat) : WP := wA Try.prog n0 132 none F26.c26
noncomputable def F26.p27 (n0 : Nat) : WP := wA Try.prog n0 132 none F26.c27
noncomputable def F26.p28 (n0 : Nat) : WP := wA Try.prog n0 132 none F26.c28
noncomputable def F26.t0 (n0 : Nat) (B1 : WP) (B5 : WP) (l0 want1 : Value) (ds : List Nat) (h : H) (K : KP) : Prop :=
  Bnd2 (aBuiltin Try.prog .len #[44] [l0] h) fun t14 h1 =>
  Lp [0, 1, 14, 15] B1 [(0, l0), (1, want1), (14, t14), (15, (.int .i64 0))] ds h1 (KBlk [0] 0 (KSeq [0] B5 K))
theorem F26.g0 {n0 : Nat} (B1 : WP) (B5 : WP) (l0 want1 : Value) {ds : List Nat} {h : H} {K : KP} : wA Try.prog n0 132 none (.seq [0, 1] F26.c0.fst (.seq [0] (.seq [0, 1, 14, 15] F26.c0.snd.fst.fst (.block [0] 0 (.loop [0, 1, 14, 15] (.sub B1)))) (.sub B5))) [(0, l0), (1, want1)] ds h K = F26.t0 n0 B1 B5 l0 want1 ds h K := by kernel_rfl
theorem F26.s0 {n0 : Nat} : F26.p0 n0 = wA Try.prog n0 132 none (.seq [0, 1] F26.c0.fst (.seq [0] (.seq [0, 1, 14, 15] F26.c0.snd.fst.fst (.block [0] 0 (.loop [0, 1, 14, 15] (.sub (F26.p1 n0))))) (.sub (F26.p5 n0)))) := by kernel_rfl
theorem F26.e0 {n0 : Nat} {l0 want1 : Value} {ds : List Nat} {h : H} {K : KP} : F26.p0 n0 [(0, l0), (1, want1)] ds h K = F26.t0 n0 (F26.p1 n0) (F26.p5 n0) l0 want1 ds h K :=
  wchain (F26.s0) (F26.g0 (F26.p1 n0) (F26.p5 n0) l0 want1)
theorem F26.k0 : F26.c0.ok = true := by kernel_rfl
theorem F26.d0 {n0 : Nat} : F26.p0 n0 = wA Try.prog n0 132 none F26.c0 := by kernel_rfl
theorem F26.m0 (n0 : Nat) : MonoW (F26.p0 n0) := @mono_c Try.prog n0 132 none F26.c0 (F26.p0 n0) (F26.d0) F26.k0
noncomputable def F26.t1 (n0 : Nat) (B2 : WP) (l0 want1 t14 t15 : Value) (ds : List Nat) (h : H) (K : KP) : Prop :=
  Bnd (aBin Try.prog false .lss 3 t15 t14) fun t16 =>
  Cnd t16
   (B2 [(0, l0), (1, want1), (14, t14), (15, t15)] ds h K)
   (K (.exit 0) [(0, l0), (1, want1), (14, t14), (15, t15)] ds h)
theorem F26.g1 {n0 : Nat} (B2 : WP) (l0 want1 t14 t15 : Value) {ds : List Nat} {h : H} {K : KP} : wA Try.prog n0 132 none (.seq [0, 1, 14, 15, 16] F26.c1.fst (.seq [0, 1, 14, 15] F26.c1.snd.fst (.sub B2))) [(0, l0), (1, want1), (14, t14), (15, t15)] ds h K = F26.t1 n0 B2 l0 want1 t14 t15 ds h K := by kernel_rfl
theorem F26.s1 {n0 : Nat} : F26.p1 n0 = wA Try.prog n0 132 none (.seq [0, 1, 14, 15, 16] F26.c1.fst (.seq [0, 1, 14, 15] F26.c1.snd.fst (.sub (F26.p2 n0)))) := by kernel_rfl
theorem F26.e1 {n0 : Nat} {l0 want1 t14 t15 : Value} {ds : List Nat} {h : H} {K : KP} : F26.p1 n0 [(0, l0), (1, want1), (14, t14), (15, t15)] ds h K = F26.t1 n0 (F26.p2 n0) l0 want1 t14 t15 ds h K :=
  wchain (F26.s1) (F26.g1 (F26.p2 n0) l0 want1 t14 t15)
theorem F26.k1 : F26.c1.ok = true := by kernel_rfl
theorem F26.d1 {n0 : Nat} : F26.p1 n0 = wA Try.prog n0 132 none F26.c1 := by kernel_rfl
theorem F26.m1 (n0 : Nat) : MonoW (F26.p1 n0) := @mono_c Try.prog n0 132 none F26.c1 (F26.p1 n0) (F26.d1) F26.k1
noncomputable def F26.t2 (n0 : Nat) (B3 : WP) (B4 : WP) (l0 want1 t14 t15 : Value) (ds : List Nat) (h : H) (K : KP) : Prop :=
  Bnd (aIndexAddr Try.prog 44 l0 t15) fun t20 =>
  Bnd (aLoad Try.prog 22 t20 h) fun t21 =>
  Bnd2 (cvt Try.prog 22 9 t21 h) fun t22 h1 =>
  Bnd (aIndexAddr Try.prog 44 want1 t15) fun t25 =>
  Bnd (aLoad Try.prog 22 t25 h1) fun t26 =>
  Bnd2 (cvt Try.prog 22 9 t26 h1) fun t27 h2 =>
  Bnd (aBin Try.prog false .neq 9 t22 t27) fun t28 =>
  Cnd t28
   (B3 [(0, l0), (1, want1), (14, t14), (15, t15)] ds h2 (KBlk [0, 1, 14, 15] 1 (KSeq [0, 1, 14, 15] B4 K)))
   (B4 [(0, l0), (1, want1), (14, t14), (15, t15)] ds h2 K)
theorem F26.g2 {n0 : Nat} (B3 : WP) (B4 : WP) (l0 want1 t14 t15 : Value) {ds : List Nat} {h : H} {K : KP} : wA Try.prog n0 132 none (.seq [0, 1, 14, 15] (.block [0, 1, 14, 15] 1 (.seq [0, 1, 5, 14, 15] F26.c2.fst.fst.fst (.seq [0, 1, 14, 15, 28] F26.c2.fst.fst.snd.fst (.cond [0, 1, 14, 15] (.tmp 28) (.sub B3) F26.c2.fst.fst.snd.snd.snd)))) (.sub B4)) [(0, l0), (1, want1), (14, t14), (15, t15)] ds h K = F26.t2 n0 B3 B4 l0 want1 t14 t15 ds h K := by kernel_rfl
theorem F26.s2 {n0 : Nat} : F26.p2 n0 = wA Try.prog n0 132 none (.seq [0, 1, 14, 15] (.block [0, 1, 14, 15] 1 (.seq [0, 1, 5, 14, 15] F26.c2.fst.fst.fst (.seq [0, 1, 14, 15, 28] F26.c2.fst.fst.snd.fst (.cond [0, 1, 14, 15] (.tmp 28) (.sub (F26.p3 n0)) F26.c2.fst.fst.snd.snd.snd)))) (.sub (F26.p4 n0))) := by kernel_rfl
theorem F26.e2 {n0 : Nat} {l0 want1 t14 t15 : Value} {ds : List Nat} {h : H} {K : KP} : F26.p2 n0 [(0, l0), (1, want1), (14, t14), (15, t15)] ds h K = F26.t2 n0 (F26.p3 n0) (F26.p4 n0) l0 want1 t14 t15 ds h K :=
  wchain (F26.s2) (F26.g2 (F26.p3 n0) (F26.p4 n0) l0 want1 t14 t15)
noncomputable def F26.t3 (n0 : Nat) (l0 want1 t14 t15 : Value) (ds : List Nat) (h : H) (K : KP) : Prop :=
  K .ret [(4, (.bool false))] ds h
theorem F26.g3 {n0 : Nat} (l0 want1 t14 t15 : Value) {ds : List Nat} {h : H} {K : KP} : wA Try.prog n0 132 none F26.c3 [(0, l0), (1, want1), (14, t14), (15, t15)] ds h K = F26.t3 n0 l0 want1 t14 t15 ds h K := by kernel_rfl
theorem F26.s3 {n0 : Nat} : F26.p3 n0 = wA Try.prog n0 132 none F26.c3 := by kernel_rfl
theorem F26.e3 {n0 : Nat} {l0 want1 t14 t15 : Value} {ds : List Nat} {h : H} {K : KP} : F26.p3 n0 [(0, l0), (1, want1), (14, t14), (15, t15)] ds h K = F26.t3 n0 l0 want1 t14 t15 ds h K :=
  wchain (F26.s3) (F26.g3 l0 want1 t14 t15)
noncomputable def F26.t4 (n0 : Nat) (l0 want1 t14 t15 : Value) (ds : List Nat) (h : H) (K : KP) : Prop :=
  Bnd (aBin Try.prog true .add 3 t15 (.int .i64 1)) fun t29 =>
  K .normal [(0, l0), (1, want1), (14, t14), (15, t29), (29, t29)] ds h
theorem F26.g4 {n0 : Nat} (l0 want1 t14 t15 : Value) {ds : List Nat} {h : H} {K : KP} : wA Try.prog n0 132 none F26.c4 [(0, l0), (1, want1), (14, t14), (15, t15)] ds h K = F26.t4 n0 l0 want1 t14 t15 ds h K := by kernel_rfl
theorem F26.s4 {n0 : Nat} : F26.p4 n0 = wA Try.prog n0 132 none F26.c4 := by kernel_rfl
theorem F26.e4 {n0 : Nat} {l0 want1 t14 t15 : Value} {ds : List Nat} {h : H} {K : KP} : F26.p4 n0 [(0, l0), (1, want1), (14, t14), (15, t15)] ds h K = F26.t4 n0 l0 want1 t14 t15 ds h K :=
  wchain (F26.s4) (F26.g4 l0 want1 t14 t15)
noncomputable def F26.t5 (n0 : Nat) (B6 : WP) (B12 : WP) (l0 : Value) (ds : List Nat) (h : H) (K : KP) : Prop :=
  Bnd2 (aBuiltin Try.prog .len #[44] [l0] h) fun t31 h1 =>
  Lp [0, 31, 32] B6 [(0, l0), (31, t31), (32, (.int .i64 0))] ds h1 (KBlk [0] 2 (KSeq [0] B12 K))
theorem F26.g5 {n0 : Nat} (B6 : WP) (B12 : WP) (l0 : Value) {ds : List Nat} {h : H} {K : KP} : wA Try.prog n0 132 none (.seq [0] (.seq [0, 31, 32] F26.c5.fst.fst (.block [0] 2 (.loop [0, 31, 32] (.sub B6)))) (.sub B12)) [(0, l0)] ds h K = F26.t5 n0 B6 B12 l0 ds h K := by kernel_rfl
theorem F26.s5 {n0 : Nat} : F26.p5 n0 = wA Try.prog n0 132 none (.seq [0] (.seq [0, 31, 32] F26.c5.fst.fst (.block [0] 2 (.loop [0, 31, 32] (.sub (F26.p6 n0))))) (.sub (F26.p12 n0))) := by kernel_rfl
theorem F26.e5 {n0 : Nat} {l0 : Value} {ds : List Nat} {h : H} {K : KP} : F26.p5 n0 [(0, l0)] ds h K = F26.t5 n0 (F26.p6 n0) (F26.p12 n0) l0 ds h K :=
  wchain (F26.s5) (F26.g5 (F26.p6 n0) (F26.p12 n0) l0)
noncomputable def F26.t6 (n0 : Nat) (B7 : WP) (l0 t31 t32 : Value) (ds : List Nat) (h : H) (K : KP) : Prop :=
  Bnd (aBin Try.prog false .lss 3 t32 t31) fun t33 =>
  Cnd t33
   (B7 [(0, l0), (31, t31), (32, t32)] ds h K)
   (K (.exit 2) [(0, l0), (31, t31), (32, t32)] ds h)
theorem F26.g6 {n0 : Nat} (B7 : WP) (l0 t31 t32 : Value) {ds : List Nat} {h : H} {K : KP} : wA Try.prog n0 132 none (.seq [0, 31, 32, 33] F26.c6.fst (.seq [0, 31, 32] F26.c6.snd.fst (.sub B7))) [(0, l0), (31, t31), (32, t32)] ds h K = F26.t6 n0 B7 l0 t31 t32 ds h K := by kernel_rfl
theorem F26.s6 {n0 : Nat} : F26.p6 n0 = wA Try.prog n0 132 none (.seq [0, 31, 32, 33] F26.c6.fst (.seq [0, 31, 32] F26.c6.snd.fst (.sub (F26.p7 n0)))) := by kernel_rfl
theorem F26.e6 {n0 : Nat} {l0 t31 t32 : Value} {ds : List Nat} {h : H} {K : KP} : F26.p6 n0 [(0, l0), (31, t31), (32, t32)] ds h K = F26.t6 n0 (F26.p7 n0) l0 t31 t32 ds h K :=
  wchain (F26.s6) (F26.g6 (F26.p7 n0) l0 t31 t32)
theorem F26.k6 : F26.c6.ok = true := by kernel_rfl
theorem F26.d6 {n0 : Nat} : F26.p6 n0 = wA Try.prog n0 132 none F26.c6 := by kernel_rfl
theorem F26.m6 (n0 : Nat) : MonoW (F26.p6 n0) := @mono_c Try.prog n0 132 none F26.c6 (F26.p6 n0) (F26.d6) F26.k6
noncomputable def F26.t7 (n0 : Nat) (B8 : WP) (B11 : WP) (l0 t31 t32 : Value) (ds : List Nat) (h : H) (K : KP) : Prop :=
  Bnd (aIndexAddr Try.prog 44 l0 t32) fun t37 =>
  Bnd (aLoad Try.prog 22 t37 h) fun t38 =>
  Bnd2 (aBuiltin Try.prog .len #[22] [t38] h) fun t39 h1 =>
  Lp [0, 6, 31, 32, 39, 40] B8 [(0, l0), (6, t32), (31, t31), (32, t32), (39, t39), (40, (.int .i64 0))] ds h1 (KBlk [0, 31, 32] 4 (KBlk [0, 31, 32] 3 (KSeq [0, 31, 32] B11 K)))
theorem F26.g7 {n0 : Nat} (B8 : WP) (B11 : WP) (l0 t31 t32 : Value) {ds : List Nat} {h : H} {K : KP} : wA Try.prog n0 132 none (.seq [0, 31, 32] (.block [0, 31, 32] 3 (.seq [0, 6, 31, 32] F26.c7.fst.fst.fst (.seq [0, 6, 31, 32, 39, 40] F26.c7.fst.fst.snd.fst (.block [0, 31, 32] 4 (.loop [0, 6, 31, 32, 39, 40] (.sub B8)))))) (.sub B11)) [(0, l0), (31, t31), (32, t32)] ds h K = F26.t7 n0 B8 B11 l0 t31 t32 ds h K := by kernel_rfl
theorem F26.s7 {n0 : Nat} : F26.p7 n0 = wA Try.prog n0 132 none (.seq [0, 31, 32] (.block [0, 31, 32] 3 (.seq [0, 6, 31, 32] F26.c7.fst.fst.fst (.seq [0, 6, 31, 32, 39, 40] F26.c7.fst.fst.snd.fst (.block [0, 31, 32] 4 (.loop [0, 6, 31, 32, 39, 40] (.sub (F26.p8 n0))))))) (.sub (F26.p11 n0))) := by kernel_rfl
theorem F26.e7 {n0 : Nat} {l0 t31 t32 : Value} {ds : List Nat} {h : H} {K : KP} : F26.p7 n0 [(0, l0), (31, t31), (32, t32)] ds h K = F26.t7 n0 (F26.p8 n0) (F26.p11 n0) l0 t31 t32 ds h K :=
  wchain (F26.s7) (F26.g7 (F26.p8 n0) (F26.p11 n0) l0 t31 t32)
noncomputable def F26.t8 (n0 : Nat) (B9 : WP) (l0 i6 t31 t32 t39 t40 : Value) (ds : List Nat) (h : H) (K : KP) : Prop :=
  Bnd (aBin Try.prog false .lss 3 t40 t39) fun t41 =>
  Cnd t41
   (B9 [(0, l0), (6, i6), (31, t31), (32, t32), (39, t39), (40, t40)] ds h K)
   (K (.exit 4) [(0, l0), (6, i6), (31, t31), (32, t32), (39, t39), (40, t40)] ds h)
theorem F26.g8 {n0 : Nat} (B9 : WP) (l0 i6 t31 t32 t39 t40 : Value) {ds : List Nat} {h : H} {K : KP} : wA Try.prog n0 132 none (.seq [0, 6, 31, 32, 39, 40, 41] F26.c8.fst (.seq [0, 6, 31, 32, 39, 40] F26.c8.snd.fst (.sub B9))) [(0, l0), (6, i6), (31, t31), (32, t32), (39, t39), (40, t40)] ds h K = F26.t8 n0 B9 l0 i6 t31 t32 t39 t40 ds h K := by kernel_rfl
theorem F26.s8 {n0 : Nat} : F26.p8 n0 = wA Try.prog n0 132 none (.seq [0, 6, 31, 32, 39, 40, 41] F26.c8.fst (.seq [0, 6, 31, 32, 39, 40] F26.c8.snd.fst (.sub (F26.p9 n0)))) := by kernel_rfl
theorem F26.e8 {n0 : Nat} {l0 i6 t31 t32 t39 t40 : Value} {ds : List Nat} {h : H} {K : KP} : F26.p8 n0 [(0, l0), (6, i6), (31, t31), (32, t32), (39, t39), (40, t40)] ds h K = F26.t8 n0 (F26.p9 n0) l0 i6 t31 t32 t39 t40 ds h K :=
  wchain (F26.s8) (F26.g8 (F26.p9 n0) l0 i6 t31 t32 t39 t40)
theorem F26.k8 : F26.c8.ok = true := by kernel_rfl
theorem F26.d8 {n0 : Nat} : F26.p8 n0 = wA Try.prog n0 132 none F26.c8 := by kernel_rfl
theorem F26.m8 (n0 : Nat) : MonoW (F26.p8 n0) := @mono_c Try.prog n0 132 none F26.c8 (F26.p8 n0) (F26.d8) F26.k8
noncomputable def F26.t9 (n0 : Nat) (B10 : WP) (l0 i6 t31 t32 t39 t40 : Value) (ds : List Nat) (h : H) (K : KP) : Prop :=
  Bnd (aIndexAddr Try.prog 44 l0 i6) fun t45 =>
  Bnd (aLoad Try.prog 22 t45 h) fun t46 =>
  Bnd2 (cvt Try.prog 3 5 i6 h) fun t49 h1 =>
  Bnd (aIndexAddr Try.prog 22 t46 t40) fun t50 =>
  Bnd (aStore Try.prog 5 t50 t49 h1) fun h2 =>
  B10 [(0, l0), (6, i6), (31, t31), (32, t32), (39, t39), (40, t40)] ds h2 K
theorem F26.g9 {n0 : Nat} (B10 : WP) (l0 i6 t31 t32 t39 t40 : Value) {ds : List Nat} {h : H} {K : KP} : wA Try.prog n0 132 none (.seq [0, 6, 31, 32, 39, 40] F26.c9.fst (.sub B10)) [(0, l0), (6, i6), (31, t31), (32, t32), (39, t39), (40, t40)] ds h K = F26.t9 n0 B10 l0 i6 t31 t32 t39 t40 ds h K := by kernel_rfl
theorem F26.s9 {n0 : Nat} : F26.p9 n0 = wA Try.prog n0 132 none (.seq [0, 6, 31, 32, 39, 40] F26.c9.fst (.sub (F26.p10 n0))) := by kernel_rfl
theorem F26.e9 {n0 : Nat} {l0 i6 t31 t32 t39 t40 : Value} {ds : List Nat} {h : H} {K : KP} : F26.p9 n0 [(0, l0), (6, i6), (31, t31), (32, t32), (39, t39), (40, t40)] ds h K = F26.t9 n0 (F26.p10 n0) l0 i6 t31 t32 t39 t40 ds h K :=
  wchain (F26.s9) (F26.g9 (F26.p10 n0) l0 i6 t31 t32 t39 t40)
noncomputable def F26.t10 (n0 : Nat) (l0 i6 t31 t32 t39 t40 : Value) (ds : List Nat) (h : H) (K : KP) : Prop :=
  Bnd (aBin Try.prog true .add 3 t40 (.int .i64 1)) fun t51 =>
  K .normal [(0, l0), (6, i6), (31, t31), (32, t32), (39, t39), (40, t51), (51, t51)] ds h
theorem F26.g10 {n0 : Nat} (l0 i6 t31 t32 t39 t40 : Value) {ds : List Nat} {h : H} {K : KP} : wA Try.prog n0 132 none F26.c10 [(0, l0), (6, i6), (31, t31), (32, t32), (39, t39), (40, t40)] ds h K = F26.t10 n0 l0 i6 t31 t32 t39 t40 ds h K := by kernel_rfl
theorem F26.s10 {n0 : Nat} : F26.p10 n0 = wA Try.prog n0 132 none F26.c10 := by kernel_rfl
theorem F26.e10 {n0 : Nat} {l0 i6 t31 t32 t39 t40 : Value} {ds : List Nat} {h : H} {K : KP} : F26.p10 n0 [(0, l0), (6, i6), (31, t31), (32, t32), (39, t39), (40, t40)] ds h K = F26.t10 n0 l0 i6 t31 t32 t39 t40 ds h K :=
  wchain (F26.s10) (F26.g10 l0 i6 t31 t32 t39 t40)
noncomputable def F26.t11 (n0 : Nat) (l0 t31 t32 : Value) (ds : List Nat) (h : H) (K : KP) : Prop :=
  Bnd (aBin Try.prog true .add 3 t32 (.int .i64 1)) fun t52 =>
  K .normal [(0, l0), (31, t31), (32, t52), (52, t52)] ds h
theorem F26.g11 {n0 : Nat} (l0 t31 t32 : Value) {ds : List Nat} {h : H} {K : KP} : wA Try.prog n0 132 none F26.c11 [(0, l0), (31, t31), (32, t32)] ds h K = F26.t11 n0 l0 t31 t32 ds h K := by kernel_rfl
theorem F26.s11 {n0 : Nat} : F26.p11 n0 = wA Try.prog n0 132 none F26.c11 := by kernel_rfl
theorem F26.e11 {n0 : Nat} {l0 t31 t32 : Value} {ds : List Nat} {h : H} {K : KP} : F26.p11 n0 [(0, l0), (31, t31), (32, t32)] ds h K = F26.t11 n0 l0 t31 t32 ds h K :=
  wchain (F26.s11) (F26.g11 l0 t31 t32)
noncomputable def F26.t12 (n0 : Nat) (B13 : WP) (B20 : WP) (l0 : Value) (ds : List Nat) (h : H) (K : KP) : Prop :=
  Bnd2 (aBuiltin Try.prog .len #[44] [l0] h) fun t54 h1 =>
  Lp [0, 8, 54, 55] B13 [(0, l0), (8, (.slice none 0 0)), (54, t54), (55, (.int .i64 0))] ds h1 (KBlk [0, 8] 6 (KSeq [0, 8] B20 K))
theorem F26.g12 {n0 : Nat} (B13 : WP) (B20 : WP) (l0 : Value) {ds : List Nat} {h : H} {K : KP} : wA Try.prog n0 132 none (.seq [0, 8] F26.c12.fst (.seq [0, 8] (.seq [0, 8, 54, 55] F26.c12.snd.fst.fst (.block [0, 8] 6 (.loop [0, 8, 54, 55] (.sub B13)))) (.sub B20))) [(0, l0)] ds h K = F26.t12 n0 B13 B20 l0 ds h K := by kernel_rfl
theorem F26.s12 {n0 : Nat} : F26.p12 n0 = wA Try.prog n0 132 none (.seq [0, 8] F26.c12.fst (.seq [0, 8] (.seq [0, 8, 54, 55] F26.c12.snd.fst.fst (.block [0, 8] 6 (.loop [0, 8, 54, 55] (.sub (F26.p13 n0))))) (.sub (F26.p20 n0)))) := by kernel_rfl
theorem F26.e12 {n0 : Nat} {l0 : Value} {ds : List Nat} {h : H} {K : KP} : F26.p12 n0 [(0, l0)] ds h K = F26.t12 n0 (F26.p13 n0) (F26.p20 n0) l0 ds h K :=
  wchain (F26.s12) (F26.g12 (F26.p13 n0) (F26.p20 n0) l0)
noncomputable def F26.t13 (n0 : Nat) (B14 : WP) (l0 long8 t54 t55 : Value) (ds : List Nat) (h : H) (K : KP) : Prop :=
  Bnd (aBin Try.prog false .lss 3 t55 t54) fun t56 =>
  Cnd t56
   (B14 [(0, l0), (8, long8), (54, t54), (55, t55)] ds h K)
   (K (.exit 6) [(0, l0), (8, long8), (54, t54), (55, t55)] ds h)
theorem F26.g13 {n0 : Nat} (B14 : WP) (l0 long8 t54 t55 : Value) {ds : List Nat} {h : H} {K : KP} : wA Try.prog n0 132 none (.seq [0, 8, 54, 55, 56] F26.c13.fst (.seq [0, 8, 54, 55] F26.c13.snd.fst (.sub B14))) [(0, l0), (8, long8), (54, t54), (55, t55)] ds h K = F26.t13 n0 B14 l0 long8 t54 t55 ds h K := by kernel_rfl
theorem F26.s13 {n0 : Nat} : F26.p13 n0 = wA Try.prog n0 132 none (.seq [0, 8, 54, 55, 56] F26.c13.fst (.seq [0, 8, 54, 55] F26.c13.snd.fst (.sub (F26.p14 n0)))) := by kernel_rfl
theorem F26.e13 {n0 : Nat} {l0 long8 t54 t55 : Value} {ds : List Nat} {h : H} {K : KP} : F26.p13 n0 [(0, l0), (8, long8), (54, t54), (55, t55)] ds h K = F26.t13 n0 (F26.p14 n0) l0 long8 t54 t55 ds h K :=
  wchain (F26.s13) (F26.g13 (F26.p14 n0) l0 long8 t54 t55)
theorem F26.k13 : F26.c13.ok = true := by kernel_rfl
theorem F26.d13 {n0 : Nat} : F26.p13 n0 = wA Try.prog n0 132 none F26.c13 := by kernel_rfl
theorem F26.m13 (n0 : Nat) : MonoW (F26.p13 n0) := @mono_c Try.prog n0 132 none F26.c13 (F26.p13 n0) (F26.d13) F26.k13
noncomputable def F26.t14 (n0 : Nat) (B15 : WP) (B18 : WP) (B19 : WP) (l0 long8 t54 t55 : Value) (ds : List Nat) (h : H) (K : KP) : Prop :=
  Bnd (aIndexAddr Try.prog 44 l0 t55) fun t60 =>
  Bnd (aLoad Try.prog 22 t60 h) fun t61 =>
  Lp [0, 8, 9, 10, 54, 55, 62] B15 [(0, l0), (8, long8), (9, t55), (10, t61), (54, t54), (55, t55), (62, (.int .i64 0))] ds h (KBlk [0, 8, 10, 54, 55] 8 (KSeq [0, 8, 10, 54, 55] B18 (KBlk [0, 8, 54, 55] 7 (KSeq [0, 8, 54, 55] B19 K))))
theorem F26.g14 {n0 : Nat} (B15 : WP) (B18 : WP) (B19 : WP) (l0 long8 t54 t55 : Value) {ds : List Nat} {h : H} {K : KP} : wA Try.prog n0 132 none (.seq [0, 8, 54, 55] (.block [0, 8, 54, 55] 7 (.seq [0, 8, 9, 54, 55] F26.c14.fst.fst.fst (.seq [0, 8, 9, 10, 54, 55] F26.c14.fst.fst.snd.fst (.seq [0, 8, 10, 54, 55] (.seq [0, 8, 9, 10, 54, 55, 62] F26.c14.fst.fst.snd.snd.fst.fst (.block [0, 8, 10, 54, 55] 8 (.loop [0, 8, 9, 10, 54, 55, 62] (.sub B15)))) (.sub B18))))) (.sub B19)) [(0, l0), (8, long8), (54, t54), (55, t55)] ds h K = F26.t14 n0 B15 B18 B19 l0 long8 t54 t55 ds h K := by kernel_rfl
theorem F26.s14 {n0 : Nat} : F26.p14 n0 = wA Try.prog n0 132 none (.seq [0, 8, 54, 55] (.block [0, 8, 54, 55] 7 (.seq [0, 8, 9, 54, 55] F26.c14.fst.fst.fst (.seq [0, 8, 9, 10, 54, 55] F26.c14.fst.fst.snd.fst (.seq [0, 8, 10, 54, 55] (.seq [0, 8, 9, 10, 54, 55, 62] F26.c14.fst.fst.snd.snd.fst.fst (.block [0, 8, 10, 54, 55] 8 (.loop [0, 8, 9, 10, 54, 55, 62] (.sub (F26.p15 n0))))) (.sub (F26.p18 n0)))))) (.sub (F26.p19 n0))) := by kernel_rfl
theorem F26.e14 {n0 : Nat} {l0 long8 t54 t55 : Value} {ds : List Nat} {h : H} {K : KP} : F26.p14 n0 [(0, l0), (8, long8), (54, t54), (55, t55)] ds h K = F26.t14 n0 (F26.p15 n0) (F26.p18 n0) (F26.p19 n0) l0 long8 t54 t55 ds h K :=
  wchain (F26.s14) (F26.g14 (F26.p15 n0) (F26.p18 n0) (F26.p19 n0) l0 long8 t54 t55)
noncomputable def F26.t15 (n0 : Nat) (B16 : WP) (l0 long8 i9 g10 t54 t55 t62 : Value) (ds : List Nat) (h : H) (K : KP) : Prop :=
  Bnd (aBin Try.prog true .lss 3 t62 (.int .i64 70)) fun t63 =>
  Cnd t63
   (B16 [(0, l0), (8, long8), (9, i9), (10, g10), (54, t54), (55, t55), (62, t62)] ds h K)
   (K (.exit 8) [(0, l0), (8, long8), (9, i9), (10, g10), (54, t54), (55, t55), (62, t62)] ds h)
theorem F26.g15 {n0 : Nat} (B16 : WP) (l0 long8 i9 g10 t54 t55 t62 : Value) {ds : List Nat} {h : H} {K : KP} : wA Try.prog n0 132 none (.seq [0, 8, 9, 10, 54, 55, 62, 63] F26.c15.fst (.seq [0, 8, 9, 10, 54, 55, 62] F26.c15.snd.fst (.sub B16))) [(0, l0), (8, long8), (9, i9), (10, g10), (54, t54), (55, t55), (62, t62)] ds h K = F26.t15 n0 B16 l0 long8 i9 g10 t54 t55 t62 ds h K := by kernel_rfl
theorem F26.s15 {n0 : Nat} : F26.p15 n0 = wA Try.prog n0 132 none (.seq [0, 8, 9, 10, 54, 55, 62, 63] F26.c15.fst (.seq [0, 8, 9, 10, 54, 55, 62] F26.c15.snd.fst (.sub (F26.p16 n0)))) := by kernel_rfl
theorem F26.e15 {n0 : Nat} {l0 long8 i9 g10 t54 t55 t62 : Value} {ds : List Nat} {h : H} {K : KP} : F26.p15 n0 [(0, l0), (8, long8), (9, i9), (10, g10), (54, t54), (55, t55), (62, t62)] ds h K = F26.t15 n0 (F26.p16 n0) l0 long8 i9 g10 t54 t55 t62 ds h K :=
  wchain (F26.s15) (F26.g15 (F26.p16 n0) l0 long8 i9 g10 t54 t55 t62)
theorem F26.k15 : F26.c15.ok = true := by kernel_rfl
theorem F26.d15 {n0 : Nat} : F26.p15 n0 = wA Try.prog n0 132 none F26.c15 := by kernel_rfl
theorem F26.m15 (n0 : Nat) : MonoW (F26.p15 n0) := @mono_c Try.prog n0 132 none F26.c15 (F26.p15 n0) (F26.d15) F26.k15
noncomputable def F26.t16 (n0 : Nat) (B17 : WP) (l0 long8 i9 g10 t54 t55 t62 : Value) (ds : List Nat) (h : H) (K : KP) : Prop :=
  Bnd (aBin Try.prog true .add 3 (.int .i64 100) i9) fun t66 =>
  Bnd2 (cvt Try.prog 3 5 t66 h) fun t67 h1 =>
  Bnd2 (aBuildSlice Try.prog 22 1 [(0, t67)] h1) fun t68 h2 =>
  Bnd2 (aBuiltin Try.prog .append #[22, 22] [g10, t68] h2) fun t69 h3 =>
  B17 [(0, l0), (8, long8), (9, i9), (10, t69), (54, t54), (55, t55), (62, t62)] ds h3 K
theorem F26.g16 {n0 : Nat} (B17 : WP) (l0 long8 i9 g10 t54 t55 t62 : Value) {ds : List Nat} {h : H} {K : KP} : wA Try.prog n0 132 none (.seq [0, 8, 9, 10, 54, 55, 62] F26.c16.fst (.sub B17)) [(0, l0), (8, long8), (9, i9), (10, g10), (54, t54), (55, t55), (62, t62)] ds h K = F26.t16 n0 B17 l0 long8 i9 g10 t54 t55 t62 ds h K := by kernel_rfl
theorem F26.s16 {n0 : Nat} : F26.p16 n0 = wA Try.prog n0 132 none (.seq [0, 8, 9, 10, 54, 55, 62] F26.c16.fst (.sub (F26.p17 n0))) := by kernel_rfl
theorem F26.e16 {n0 : Nat} {l0 long8 i9 g10 t54 t55 t62 : Value} {ds : List Nat} {h : H} {K : KP} : F26.p16 n0 [(0, l0), (8, long8), (9, i9), (10, g10), (54, t54), (55, t55), (62, t62)] ds h K = F26.t16 n0 (F26.p17 n0) l0 long8 i9 g10 t54 t55 t62 ds h K :=
  wchain (F26.s16) (F26.g16 (F26.p17 n0) l0 long8 i9 g10 t54 t55 t62)
noncomputable def F26.t17 (n0 : Nat) (l0 long8 i9 g10 t54 t55 t62 : Value) (ds : List Nat) (h : H) (K : KP) : Prop :=
  Bnd (aBin Try.prog true .add 3 t62 (.int .i64 1)) fun t70 =>
  K .normal [(0, l0), (8, long8), (9, i9), (10, g10), (54, t54), (55, t55), (62, t70), (70, t70)] ds h
theorem F26.g17 {n0 : Nat} (l0 long8 i9 g10 t54 t55 t62 : Value) {ds : List Nat} {h : H} {K : KP} : wA Try.prog n0 132 none F26.c17 [(0, l0), (8, long8), (9, i9), (10, g10), (54, t54), (55, t55), (62, t62)] ds h K = F26.t17 n0 l0 long8 i9 g10 t54 t55 t62 ds h K := by kernel_rfl
theorem F26.s17 {n0 : Nat} : F26.p17 n0 = wA Try.prog n0 132 none F26.c17 := by kernel_rfl
theorem F26.e17 {n0 : Nat} {l0 long8 i9 g10 t54 t55 t62 : Value} {ds : List Nat} {h : H} {K : KP} : F26.p17 n0 [(0, l0), (8, long8), (9, i9), (10, g10), (54, t54), (55, t55), (62, t62)] ds h K = F26.t17 n0 l0 long8 i9 g10 t54 t55 t62 ds h K :=
  wchain (F26.s17) (F26.g17 l0 long8 i9 g10 t54 t55 t62)
noncomputable def F26.t18 (n0 : Nat) (l0 long8 g10 t54 t55 : Value) (ds : List Nat) (h : H) (K : KP) : Prop :=
  Bnd2 (aBuildSlice Try.prog 44 1 [(0, g10)] h) fun t73 h1 =>
  Bnd2 (aBuiltin Try.prog .append #[44, 44] [long8, t73] h1) fun t74 h2 =>
  K .normal [(0, l0), (8, t74), (10, g10), (54, t54), (55, t55), (71, long8), (72, g10), (73, t73), (74, t74)] ds h2
theorem F26.g18 {n0 : Nat} (l0 long8 g10 t54 t55 : Value) {ds : List Nat} {h : H} {K : KP} : wA Try.prog n0 132 none F26.c18 [(0, l0), (8, long8), (10, g10), (54, t54), (55, t55)] ds h K = F26.t18 n0 l0 long8 g10 t54 t55 ds h K := by kernel_rfl
theorem F26.s18 {n0 : Nat} : F26.p18 n0 = wA Try.prog n0 132 none F26.c18 := by kernel_rfl
theorem F26.e18 {n0 : Nat} {l0 long8 g10 t54 t55 : Value} {ds : List Nat} {h : H} {K : KP} : F26.p18 n0 [(0, l0), (8, long8), (10, g10), (54, t54), (55, t55)] ds h K = F26.t18 n0 l0 long8 g10 t54 t55 ds h K :=
  wchain (F26.s18) (F26.g18 l0 long8 g10 t54 t55)
noncomputable def F26.t19 (n0 : Nat) (l0 long8 t54 t55 : Value) (ds : List Nat) (h : H) (K : KP) : Prop :=
  Bnd (aBin Try.prog true .add 3 t55 (.int .i64 1)) fun t75 =>
  K .normal [(0, l0), (8, long8), (54, t54), (55, t75), (75, t75)] ds h
theorem F26.g19 {n0 : Nat} (l0 long8 t54 t55 : Value) {ds : List Nat} {h : H} {K : KP} : wA Try.prog n0 132 none F26.c19 [(0, l0), (8, long8), (54, t54), (55, t55)] ds h K = F26.t19 n0 l0 long8 t54 t55 ds h K := by kernel_rfl
theorem F26.s19 {n0 : Nat} : F26.p19 n0 = wA Try.prog n0 132 none F26.c19 := by kernel_rfl
theorem F26.e19 {n0 : Nat} {l0 long8 t54 t55 : Value} {ds : List Nat} {h : H} {K : KP} : F26.p19 n0 [(0, l0), (8, long8), (54, t54), (55, t55)] ds h K = F26.t19 n0 l0 long8 t54 t55 ds h K :=
  wchain (F26.s19) (F26.g19 l0 long8 t54 t55)
noncomputable def F26.t20 (n0 : Nat) (B21 : WP) (B28 : WP) (l0 long8 : Value) (ds : List Nat) (h : H) (K : KP) : Prop :=
  Bnd2 (aBuiltin Try.prog .len #[44] [l0] h) fun t77 h1 =>
  Lp [0, 8, 77, 78] B21 [(0, l0), (8, long8), (77, t77), (78, (.int .i64 0))] ds h1 (KBlk [] 10 (KSeq [] B28 K))
theorem F26.g20 {n0 : Nat} (B21 : WP) (B28 : WP) (l0 long8 : Value) {ds : List Nat} {h : H} {K : KP} : wA Try.prog n0 132 none (.seq [] (.seq [0, 8, 77, 78] F26.c20.fst.fst (.block [] 10 (.loop [0, 8, 77, 78] (.sub B21)))) (.sub B28)) [(0, l0), (8, long8)] ds h K = F26.t20 n0 B21 B28 l0 long8 ds h K := by kernel_rfl
theorem F26.s20 {n0 : Nat} : F26.p20 n0 = wA Try.prog n0 132 none (.seq [] (.seq [0, 8, 77, 78] F26.c20.fst.fst (.block [] 10 (.loop [0, 8, 77, 78] (.sub (F26.p21 n0))))) (.sub (F26.p28 n0))) := by kernel_rfl
theorem F26.e20 {n0 : Nat} {l0 long8 : Value} {ds : List Nat} {h : H} {K : KP} : F26.p20 n0 [(0, l0), (8, long8)] ds h K = F26.t20 n0 (F26.p21 n0) (F26.p28 n0) l0 long8 ds h K :=
  wchain (F26.s20) (F26.g20 (F26.p21 n0) (F26.p28 n0) l0 long8)
noncomputable def F26.t21 (n0 : Nat) (B22 : WP) (l0 long8 t77 t78 : Value) (ds : List Nat) (h : H) (K : KP) : Prop :=
  Bnd (aBin Try.prog false .lss 3 t78 t77) fun t79 =>
  Cnd t79
   (B22 [(0, l0), (8, long8), (77, t77), (78, t78)] ds h K)
   (K (.exit 10) [(0, l0), (8, long8), (77, t77), (78, t78)] ds h)
theorem F26.g21 {n0 : Nat} (B22 : WP) (l0 long8 t77 t78 : Value) {ds : List Nat} {h : H} {K : KP} : wA Try.prog n0 132 none (.seq [0, 8, 77, 78, 79] F26.c21.fst (.seq [0, 8, 77, 78] F26.c21.snd.fst (.sub B22))) [(0, l0), (8, long8), (77, t77), (78, t78)] ds h K = F26.t21 n0 B22 l0 long8 t77 t78 ds h K := by kernel_rfl
theorem F26.s21 {n0 : Nat} : F26.p21 n0 = wA Try.prog n0 132 none (.seq [0, 8, 77, 78, 79] F26.c21.fst (.seq [0, 8, 77, 78] F26.c21.snd.fst (.sub (F26.p22 n0)))) := by kernel_rfl
theorem F26.e21 {n0 : Nat} {l0 long8 t77 t78 : Value} {ds : List Nat} {h : H} {K : KP} : F26.p21 n0 [(0, l0), (8, long8), (77, t77), (78, t78)] ds h K = F26.t21 n0 (F26.p22 n0) l0 long8 t77 t78 ds h K :=
  wchain (F26.s21) (F26.g21 (F26.p22 n0) l0 long8 t77 t78)
theorem F26.k21 : F26.c21.ok = true := by kernel_rfl
theorem F26.d21 {n0 : Nat} : F26.p21 n0 = wA Try.prog n0 132 none F26.c21 := by kernel_rfl
theorem F26.m21 (n0 : Nat) : MonoW (F26.p21 n0) := @mono_c Try.prog n0 132 none F26.c21 (F26.p21 n0) (F26.d21) F26.k21
noncomputable def F26.t22 (n0 : Nat) (B23 : WP) (B27 : WP) (l0 long8 t77 t78 : Value) (ds : List Nat) (h : H) (K : KP) : Prop :=
  Bnd (aIndexAddr Try.prog 44 long8 t78) fun t83 =>
  Bnd (aLoad Try.prog 22 t83 h) fun t84 =>
  Bnd2 (aBuiltin Try.prog .len #[22] [t84] h) fun t85 h1 =>
  Lp [0, 8, 11, 77, 78, 85, 86] B23 [(0, l0), (8, long8), (11, t78), (77, t77), (78, t78), (85, t85), (86, (.int .i64 0))] ds h1 (KBlk [0, 8, 77, 78] 12 (KBlk [0, 8, 77, 78] 11 (KSeq [0, 8, 77, 78] B27 K)))
theorem F26.g22 {n0 : Nat} (B23 : WP) (B27 : WP) (l0 long8 t77 t78 : Value) {ds : List Nat} {h : H} {K : KP} : wA Try.prog n0 132 none (.seq [0, 8, 77, 78] (.block [0, 8, 77, 78] 11 (.seq [0, 8, 11, 77, 78] F26.c22.fst.fst.fst (.seq [0, 8, 11, 77, 78, 85, 86] F26.c22.fst.fst.snd.fst (.block [0, 8, 77, 78] 12 (.loop [0, 8, 11, 77, 78, 85, 86] (.sub B23)))))) (.sub B27)) [(0, l0), (8, long8), (77, t77), (78, t78)] ds h K = F26.t22 n0 B23 B27 l0 long8 t77 t78 ds h K := by kernel_rfl
theorem F26.s22 {n0 : Nat} : F26.p22 n0 = wA Try.prog n0 132 none (.seq [0, 8, 77, 78] (.block [0, 8, 77, 78] 11 (.seq [0, 8, 11, 77, 78] F26.c22.fst.fst.fst (.seq [0, 8, 11, 77, 78, 85, 86] F26.c22.fst.fst.snd.fst (.block [0, 8, 77, 78] 12 (.loop [0, 8, 11, 77, 78, 85, 86] (.sub (F26.p23 n0))))))) (.sub (F26.p27 n0))) := by kernel_rfl
theorem F26.e22 {n0 : Nat} {l0 long8 t77 t78 : Value} {ds : List Nat} {h : H} {K : KP} : F26.p22 n0 [(0, l0), (8, long8), (77, t77), (78, t78)] ds h K = F26.t22 n0 (F26.p23 n0) (F26.p27 n0) l0 long8 t77 t78 ds h K :=
  wchain (F26.s22) (F26.g22 (F26.p23 n0) (F26.p27 n0) l0 long8 t77 t78)
noncomputable def F26.t23 (n0 : Nat) (B24 : WP) (l0 long8 i11 t77 t78 t85 t86 : Value) (ds : List Nat) (h : H) (K : KP) : Prop :=
  Bnd (aBin Try.prog false .lss 3 t86 t85) fun t87 =>
  Cnd t87
   (B24 [(0, l0), (8, long8), (11, i11), (77, t77), (78, t78), (85, t85), (86, t86)] ds h K)
   (K (.exit 12) [(0, l0), (8, long8), (11, i11), (77, t77), (78, t78), (85, t85), (86, t86)] ds h)
theorem F26.g23 {n0 : Nat} (B24 : WP) (l0 long8 i11 t77 t78 t85 t86 : Value) {ds : List Nat} {h : H} {K : KP} : wA Try.prog n0 132 none (.seq [0, 8, 11, 77, 78, 85, 86, 87] F26.c23.fst (.seq [0, 8, 11, 77, 78, 85, 86] F26.c23.snd.fst (.sub B24))) [(0, l0), (8, long8), (11, i11), (77, t77), (78, t78), (85, t85), (86, t86)] ds h K = F26.t23 n0 B24 l0 long8 i11 t77 t78 t85 t86 ds h K := by kernel_rfl
theorem F26.s23 {n0 : Nat} : F26.p23 n0 = wA Try.prog n0 132 none (.seq [0, 8, 11, 77, 78, 85, 86, 87] F26.c23.fst (.seq [0, 8, 11, 77, 78, 85, 86] F26.c23.snd.fst (.sub (F26.p24 n0)))) := by kernel_rfl
theorem F26.e23 {n0 : Nat} {l0 long8 i11 t77 t78 t85 t86 : Value} {ds : List Nat} {h : H} {K : KP} : F26.p23 n0 [(0, l0), (8, long8), (11, i11), (77, t77), (78, t78), (85, t85), (86, t86)] ds h K = F26.t23 n0 (F26.p24 n0) l0 long8 i11 t77 t78 t85 t86 ds h K :=
  wchain (F26.s23) (F26.g23 (F26.p24 n0) l0 long8 i11 t77 t78 t85 t86)
theorem F26.k23 : F26.c23.ok = true := by kernel_rfl
theorem F26.d23 {n0 : Nat} : F26.p23 n0 = wA Try.prog n0 132 none F26.c23 := by kernel_rfl
theorem F26.m23 (n0 : Nat) : MonoW (F26.p23 n0) := @mono_c Try.prog n0 132 none F26.c23 (F26.p23 n0) (F26.d23) F26.k23
noncomputable def F26.t24 (n0 : Nat) (B25 : WP) (B26 : WP) (l0 long8 i11 t77 t78 t85 t86 : Value) (ds : List Nat) (h : H) (K : KP) : Prop :=
  Bnd (aIndexAddr Try.prog 44 l0 i11) fun t92 =>
  Bnd (aLoad Try.prog 22 t92 h) fun t93 =>
  Bnd2 (aBuiltin Try.prog .len #[22] [t93] h) fun t94 h1 =>
  Bnd (aBin Try.prog false .lss 3 t86 t94) fun t95 =>
  Gd t95
   (Bnd (aIndexAddr Try.prog 44 l0 i11) fun t99 =>
  Bnd (aLoad Try.prog 22 t99 h1) fun t100 =>
  Bnd (aIndexAddr Try.prog 22 t100 t86) fun t102 =>
  Bnd (aLoad Try.prog 5 t102 h1) fun t103 =>
  Bnd2 (cvt Try.prog 3 5 i11 h1) fun t105 h2 =>
  Bnd (aBin Try.prog false .neq 5 t103 t105) fun t106 =>
  Gd t106
   (B25 [(0, l0), (8, long8), (11, i11), (77, t77), (78, t78), (85, t85), (86, t86)] ds h2 (KBlk [0, 8, 11, 77, 78, 85, 86] 13 (KSeq [0, 8, 11, 77, 78, 85, 86] B26 K)))
   (Bnd (aIndexAddr Try.prog 44 l0 i11) fun t112 =>
  Bnd (aLoad Try.prog 22 t112 h2) fun t113 =>
  Bnd2 (aBuiltin Try.prog .len #[22] [t113] h2) fun t114 h3 =>
  Bnd (aBin Try.prog false .geq 3 t86 t114) fun t115 =>
  Gd t115
   (Bnd (aIndexAddr Try.prog 44 long8 i11) fun t119 =>
  Bnd (aLoad Try.prog 22 t119 h3) fun t120 =>
  Bnd (aIndexAddr Try.prog 22 t120 t86) fun t122 =>
  Bnd (aLoad Try.prog 5 t122 h3) fun t123 =>
  Bnd (aBin Try.prog true .add 3 (.int .i64 100) i11) fun t125 =>
  Bnd2 (cvt Try.prog 3 5 t125 h3) fun t126 h4 =>
  Bnd (aBin Try.prog false .neq 5 t123 t126) fun t127 =>
  Cnd t127
   (B25 [(0, l0), (8, long8), (11, i11), (77, t77), (78, t78), (85, t85), (86, t86)] ds h4 (KBlk [0, 8, 11, 77, 78, 85, 86] 13 (KSeq [0, 8, 11, 77, 78, 85, 86] B26 K)))
   (B26 [(0, l0), (8, long8), (11, i11), (77, t77), (78, t78), (85, t85), (86, t86)] ds h4 K))
   (B26 [(0, l0), (8, long8), (11, i11), (77, t77), (78, t78), (85, t85), (86, t86)] ds h3 K)))
   (Bnd (aIndexAddr Try.prog 44 l0 i11) fun t112 =>
  Bnd (aLoad Try.prog 22 t112 h1) fun t113 =>
  Bnd2 (aBuiltin Try.prog .len #[22] [t113] h1) fun t114 h2 =>
  Bnd (aBin Try.prog false .geq 3 t86 t114) fun t115 =>
  Gd t115
   (Bnd (aIndexAddr Try.prog 44 long8 i11) fun t119 =>
  Bnd (aLoad Try.prog 22 t119 h2) fun t120 =>
  Bnd (aIndexAddr Try.prog 22 t120 t86) fun t122 =>
  Bnd (aLoad Try.prog 5 t122 h2) fun t123 =>
  Bnd (aBin Try.prog true .add 3 (.int .i64 100) i11) fun t125 =>
  Bnd2 (cvt Try.prog 3 5 t125 h2) fun t126 h3 =>
  Bnd (aBin Try.prog false .neq 5 t123 t126) fun t127 =>
  Cnd t127
   (B25 [(0, l0), (8, long8), (11, i11), (77, t77), (78, t78), (85, t85), (86, t86)] ds h3 (KBlk [0, 8, 11, 77, 78, 85, 86] 13 (KSeq [0, 8, 11, 77, 78, 85, 86] B26 K)))
   (B26 [(0, l0), (8, long8), (11, i11), (77, t77), (78, t78), (85, t85), (86, t86)] ds h3 K))
   (B26 [(0, l0), (8, long8), (11, i11), (77, t77), (78, t78), (85, t85), (86, t86)] ds h2 K))
theorem F26.g24 {n0 : Nat} (B25 : WP) (B26 : WP) (l0 long8 i11 t77 t78 t85 t86 : Value) {ds : List Nat} {h : H} {K : KP} : wA Try.prog n0 132 none (.seq [0, 8, 11, 77, 78, 85, 86] (.block [0, 8, 11, 77, 78, 85, 86] 13 (.seq [0, 8, 11, 12, 77, 78, 85, 86] F26.c24.fst.fst.fst (.seq [0, 8, 11, 77, 78, 85, 86, 129] F26.c24.fst.fst.snd.fst (.cond [0, 8, 11, 77, 78, 85, 86] (.tmp 129) (.sub B25) F26.c24.fst.fst.snd.snd.snd)))) (.sub B26)) [(0, l0), (8, long8), (11, i11), (77, t77), (78, t78), (85, t85), (86, t86)] ds h K = F26.t24 n0 B25 B26 l0 long8 i11 t77 t78 t85 t86 ds h K := by kernel_rfl
theorem F26.s24 {n0 : Nat} : F26.p24 n0 = wA Try.prog n0 132 none (.seq [0, 8, 11, 77, 78, 85, 86] (.block [0, 8, 11, 77, 78, 85, 86] 13 (.seq [0, 8, 11, 12, 77, 78, 85, 86] F26.c24.fst.fst.fst (.seq [0, 8, 11, 77, 78, 85, 86, 129] F26.c24.fst.fst.snd.fst (.cond [0, 8, 11, 77, 78, 85, 86] (.tmp 129) (.sub (F26.p25 n0)) F26.c24.fst.fst.snd.snd.snd)))) (.sub (F26.p26 n0))) := by kernel_rfl
theorem F26.e24 {n0 : Nat} {l0 long8 i11 t77 t78 t85 t86 : Value} {ds : List Nat} {h : H} {K : KP} : F26.p24 n0 [(0, l0), (8, long8), (11, i11), (77, t77), (78, t78), (85, t85), (86, t86)] ds h K = F26.t24 n0 (F26.p25 n0) (F26.p26 n0) l0 long8 i11 t77 t78 t85 t86 ds h K :=
  wchain (F26.s24) (F26.g24 (F26.p25 n0) (F26.p26 n0) l0 long8 i11 t77 t78 t85 t86)
noncomputable def F26.t25 (n0 : Nat) (l0 long8 i11 t77 t78 t85 t86 : Value) (ds : List Nat) (h : H) (K : KP) : Prop :=
  K .ret [(4, (.bool false))] ds h
theorem F26.g25 {n0 : Nat} (l0 long8 i11 t77 t78 t85 t86 : Value) {ds : List Nat} {h : H} {K : KP} : wA Try.prog n0 132 none F26.c25 [(0, l0), (8, long8), (11, i11), (77, t77), (78, t78), (85, t85), (86, t86)] ds h K = F26.t25 n0 l0 long8 i11 t77 t78 t85 t86 ds h K := by kernel_rfl
theorem F26.s25 {n0 : Nat} : F26.p25 n0 = wA Try.prog n0 132 none F26.c25 := by kernel_rfl
theorem F26.e25 {n0 : Nat} {l0 long8 i11 t77 t78 t85 t86 : Value} {ds : List Nat} {h : H} {K : KP} : F26.p25 n0 [(0, l0), (8, long8), (11, i11), (77, t77), (78, t78), (85, t85), (86, t86)] ds h K = F26.t25 n0 l0 long8 i11 t77 t78 t85 t86 ds h K :=
  wchain (F26.s25) (F26.g25 l0 long8 i11 t77 t78 t85 t86)
noncomputable def F26.t26 (n0 : Nat) (l0 long8 i11 t77 t78 t85 t86 : Value) (ds : List Nat) (h : H) (K : KP) : Prop :=
  Bnd (aBin Try.prog true .add 3 t86 (.int .i64 1)) fun t130 =>
  K .normal [(0, l0), (8, long8), (11, i11), (77, t77), (78, t78), (85, t85), (86, t130), (130, t130)] ds h
theorem F26.g26 {n0 : Nat} (l0 long8 i11 t77 t78 t85 t86 : Value) {ds : List Nat} {h : H} {K : KP} : wA Try.prog n0 132 none F26.c26 [(0, l0), (8, long8), (11, i11), (77, t77), (78, t78), (85, t85), (86, t86)] ds h K = F26.t26 n0 l0 long8 i11 t77 t78 t85 t86 ds h K := by kernel_rfl
theorem F26.s26 {n0 : Nat} : F26.p26 n0 = wA Try.prog n0 132 none F26.c26 := by kernel_rfl
theorem F26.e26 {n0 : Nat} {l0 long8 i11 t77 t78 t85 t86 : Value} {ds : List Nat} {h : H} {K : KP} : F26.p26 n0 [(0, l0), (8, long8), (11, i11), (77, t77), (78, t78), (85, t85), (86, t86)] ds h K = F26.t26 n0 l0 long8 i11 t77 t78 t85 t86 ds h K :=
  wchain (F26.s26) (F26.g26 l0 long8 i11 t77 t78 t85 t86)
noncomputable def F26.t27 (n0 : Nat) (l0 long8 t77 t78 : Value) (ds : List Nat) (h : H) (K : KP) : Prop :=
  Bnd (aBin Try.prog true .add 3 t78 (.int .i64 1)) fun t131 =>
  K .normal [(0, l0), (8, long8), (77, t77), (78, t131), (131, t131)] ds h
theorem F26.g27 {n0 : Nat} (l0 long8 t77 t78 : Value) {ds : List Nat} {h : H} {K : KP} : wA Try.prog n0 132 none F26.c27 [(0, l0), (8, long8), (77, t77), (78, t78)] ds h K = F26.t27 n0 l0 long8 t77 t78 ds h K := by kernel_rfl
theorem F26.s27 {n0 : Nat} : F26.p27 n0 = wA Try.prog n0 132 none F26.c27 := by kernel_rfl
theorem F26.e27 {n0 : Nat} {l0 long8 t77 t78 : Value} {ds : List Nat} {h : H} {K : KP} : F26.p27 n0 [(0, l0), (8, long8), (77, t77), (78, t78)] ds h K = F26.t27 n0 l0 long8 t77 t78 ds h K :=
  wchain (F26.s27) (F26.g27 l0 long8 t77 t78)
noncomputable def F26.t28 (n0 : Nat) (ds : List Nat) (h : H) (K : KP) : Prop :=
  K .ret [(4, (.bool true))] ds h
theorem F26.g28 {n0 : Nat} {ds : List Nat} {h : H} {K : KP} : wA Try.prog n0 132 none F26.c28 [] ds h K = F26.t28 n0  ds h K := by kernel_rfl
theorem F26.s28 {n0 : Nat} : F26.p28 n0 = wA Try.prog n0 132 none F26.c28 := by kernel_rfl
theorem F26.e28 {n0 : Nat} {ds : List Nat} {h : H} {K : KP} : F26.p28 n0 [] ds h K = F26.t28 n0  ds h K :=
  wchain (F26.s28) (F26.g28)
theorem F26.b : Try.f26.body = some F26.c0.erase := by kernel_rfl
theorem F26.b2 : (Try.f26.name == "runtime.NumGoroutine") = false := by kernel_rfl
theorem F26.b3 : Try.f26.ntmps = 132 := by kernel_rfl
theorem F26.b4 : Try.f26.results.toList = [.tmp 4] := by kernel_rfl
theorem F26.enter {n0 : Nat} {x0 x1 : Value} {h : H} {Q : Value → H → Prop} (w : F26.p0 n0 [(0, x0), (1, x1)] [] h (KFin Try.prog [.tmp 4] Q)) : Cn Try.prog n0 (.func 26) [x0, x1] h Q :=
  @fn_enter Try.prog n0 mixed 26 Try.f26 F26.c0 [x0, x1] h Q Try.func26 F26.b F26.k0 F26.b2 132 F26.b3 [.tmp 4] F26.b4 (by simp) [(0, x0), (1, x1)] rfl (wback F26.d0 w)

/-! (*roster.ber.Writer).Open -/
noncomputable def F40.ac : AC := (ann (bodyOf Try.f40) [[0, 1, 2], [0, 7, 8], [0, 7], [0, 7], [0, 7, 8, 15], [0, 7, 8], [6], [0, 7, 18], [0, 7], [6], [0, 7, 21], [0, 7], [6], [0, 7, 28], [0, 7], [6], [], [6]]).1
noncomputable def F40.c0 : AC := F40.ac
noncomputable def F40.c1 : AC := F40.ac.snd.snd.fst.fst.snd.fst
noncomputable def F40.c2 : AC := F40.ac.snd.snd.fst.fst.snd.snd
noncomputable def F40.c3 : AC := F40.ac.snd.snd.fst.fst.snd.snd.snd.fst
noncomputable def F40.c4 : AC := F40.ac.snd.snd.fst.fst.snd.snd.snd.snd
noncomputable def F40.c5 : AC := F40.ac.snd.snd.fst.fst.snd.snd.snd.snd.snd.fst
noncomputable def F40.c6 : AC := F40.ac.snd.snd.fst.fst.snd.snd.snd.snd.snd.snd
noncomputable def F40.c7 : AC := F40.ac.snd.snd.fst.fst.snd.snd.snd.snd.snd.snd.snd.fst
noncomputable def F40.c8 : AC := F40.ac.snd.snd.snd
noncomputable def F40.p0 (n0 : Nat) : WP := wA Try.prog n0 44 none F40.c0
noncomputable def F40.p1 (n0 : Nat) : WP := wA Try.prog n0 44 none F40.c1
noncomputable def F40.p2 (n0 : Nat) : WP := wA Try.prog n0 44 none F40.c2
noncomputable def F40.p3 (n0 : Nat) : WP := wA Try.prog n0 44 none F40.c3
noncomputable def F40.p4 (n0 : Nat) : WP := wA Try.prog n0 44 none F40.c4
noncomputable def F40.p5 (n0 : Nat) : WP := wA Try.prog n0 44 none F40.c5
noncomputable def F40.p6 (n0 : Nat) : WP := wA Try.prog n0 44 none F40.c6
noncomputable def F40.p7 (n0 : Nat) : WP := wA Try.prog n0 44 none F40.c7
noncomputable def F40.p8 (n0 : Nat) : WP := wA Try.prog n0 44 none F40.c8
noncomputable def F40.t0 (n0 : Nat) (B1 : WP) (B2 : WP) (B8 : WP) (w0 class1 number2 : Value) (ds : List Nat) (h : H) (K : KP) : Prop :=
  Cn Try.prog n0 (.func 56) [class1, number2] h fun t12 h1 =>
  Bnd (tupAt t12 0) fun t13 =>
  Bnd (tupAt t12 1) fun t14 =>
  Bnd (aBin Try.prog true .eql 33 w0 (.pointer none)) fun t17 =>
  Cnd t17
   (B1 [(0, w0), (7, t13), (8, t14)] ds h1 (KBlk [0, 7] 0 (KSeq [0, 7] B8 K)))
   (B2 [(0, w0), (7, t13), (8, t14)] ds h1 (KBlk [0, 7] 0 (KSeq [0, 7] B8 K)))
theorem F40.g0 {n0 : Nat} (B1 : WP) (B2 : WP) (B8 : WP) (w0 class1 number2 : Value) {ds : List Nat} {h : H} {K : KP} : wA Try.prog n0 44 none (.seq [0, 1, 2] F40.c0.fst (.seq [0, 7, 8] F40.c0.snd.fst (.seq [0, 7] (.block [0, 7] 0 (.seq [0, 7, 8, 15] F40.c0.snd.snd.fst.fst.fst (.cond [0, 7, 8] (.tmp 15) (.sub B1) (.sub B2)))) (.sub B8)))) [(0, w0), (1, class1), (2, number2)] ds h K = F40.t0 n0 B1 B2 B8 w0 class1 number2 ds h K := by kernel_rfl
theorem F40.s0 {n0 : Nat} : F40.p0 n0 = wA Try.prog n0 44 none (.seq [0, 1, 2] F40.c0.fst (.seq [0, 7, 8] F40.c0.snd.fst (.seq [0, 7] (.block [0, 7] 0 (.seq [0, 7, 8, 15] F40.c0.snd.snd.fst.fst.fst (.cond [0, 7, 8] (.tmp 15) (.sub (F40.p1 n0)) (.sub (F40.p2 n0))))) (.sub (F40.p8 n0))))) := by kernel_rfl
theorem F40.e0 {n0 : Nat} {w0 class1 number2 : Value} {ds : List Nat} {h : H} {K : KP} : F40.p0 n0 [(0, w0), (1, class1), (2, number2)] ds h K = F40.t0 n0 (F40.p1 n0) (F40.p2 n0) (F40.p8 n0) w0 class1 number2 ds h K :=
  wchain (F40.s0) (F40.g0 (F40.p1 n0) (F40.p2 n0) (F40.p8 n0) w0 class1 number2)
theorem F40.k0 : F40.c0.ok = true := by kernel_rfl
theorem F40.d0 {n0 : Nat} : F40.p0 n0 = wA Try.prog n0 44 none F40.c0 := by kernel_rfl
theorem F40.m0 (n0 : Nat) : MonoW (F40.p0 n0) := @mono_c Try.prog n0 44 none F40.c0 (F40.p0 n0) (F40.d0) F40.k0
noncomputable def F40.t1 (n0 : Nat) (w0 tag7 ok8 : Value) (ds : List Nat) (h : H) (K : KP) : Prop :=
  K .ret [(6, (.int .i64 1))] ds h
theorem F40.g1 {n0 : Nat} (w0 tag7 ok8 : Value) {ds : List Nat} {h : H} {K : KP} : wA Try.prog n0 44 none F40.c1 [(0, w0), (7, tag7), (8, ok8)] ds h K = F40.t1 n0 w0 tag7 ok8 ds h K := by kernel_rfl
theorem F40.s1 {n0 : Nat} : F40.p1 n0 = wA Try.prog n0 44 none F40.c1 := by kernel_rfl
theorem F40.e1 {n0 : Nat} {w0 tag7 ok8 : Value} {ds : List Nat} {h : H} {K : KP} : F40.p1 n0 [(0, w0), (7, tag7), (8, ok8)] ds h K = F40.t1 n0 w0 tag7 ok8 ds h K :=
  wchain (F40.s1) (F40.g1 w0 tag7 ok8)
noncomputable def F40.t2 (n0 : Nat) (B3 : WP) (B4 : WP) (w0 tag7 ok8 : Value) (ds : List Nat) (h : H) (K : KP) : Prop :=
  Bnd (aUn .not ok8) fun t20 =>
  Cnd t20
   (B3 [(0, w0), (7, tag7)] ds h K)
   (B4 [(0, w0), (7, tag7)] ds h K)
theorem F40.g2 {n0 : Nat} (B3 : WP) (B4 : WP) (w0 tag7 ok8 : Value) {ds : List Nat} {h : H} {K : KP} : wA Try.prog n0 44 none (.seq [0, 7, 18] F40.c2.fst (.cond [0, 7] (.tmp 18) (.sub B3) (.sub B4))) [(0, w0), (7, tag7), (8, ok8)] ds h K = F40.t2 n0 B3 B4 w0 tag7 ok8 ds h K := by kernel_rfl
theorem F40.s2 {n0 : Nat} : F40.p2 n0 = wA Try.prog n0 44 none (.seq [0, 7, 18] F40.c2.fst (.cond [0, 7] (.tmp 18) (.sub (F40.p3 n0)) (.sub (F40.p4 n0)))) := by kernel_rfl
theorem F40.e2 {n0 : Nat} {w0 tag7 ok8 : Value} {ds : List Nat} {h : H} {K : KP} : F40.p2 n0 [(0, w0), (7, tag7), (8, ok8)] ds h K = F40.t2 n0 (F40.p3 n0) (F40.p4 n0) w0 tag7 ok8 ds h K :=
  wchain (F40.s2) (F40.g2 (F40.p3 n0) (F40.p4 n0) w0 tag7 ok8)
noncomputable def F40.t3 (n0 : Nat) (w0 tag7 : Value) (ds : List Nat) (h : H) (K : KP) : Prop :=
  K .ret [(6, (.int .i64 2))] ds h
theorem F40.g3 {n0 : Nat} (w0 tag7 : Value) {ds : List Nat} {h : H} {K : KP} : wA Try.prog n0 44 none F40.c3 [(0, w0), (7, tag7)] ds h K = F40.t3 n0 w0 tag7 ds h K := by kernel_rfl
theorem F40.s3 {n0 : Nat} : F40.p3 n0 = wA Try.prog n0 44 none F40.c3 := by kernel_rfl
theorem F40.e3 {n0 : Nat} {w0 tag7 : Value} {ds : List Nat} {h : H} {K : KP} : F40.p3 n0 [(0, w0), (7, tag7)] ds h K = F40.t3 n0 w0 tag7 ds h K :=
  wchain (F40.s3) (F40.g3 w0 tag7)
noncomputable def F40.t4 (n0 : Nat) (B5 : WP) (B6 : WP) (w0 tag7 : Value) (ds : List Nat) (h : H) (K : KP) : Prop :=
  NilC w0 <|
  Bnd (aFieldAddr Try.prog 85 w0 1) fun t24 =>
  Bnd (aLoad Try.prog 83 t24 h) fun t25 =>
  Bnd2 (aBuiltin Try.prog .len #[83] [t25] h) fun t26 h1 =>
  Bnd (aBin Try.prog true .geq 3 t26 (.int .i64 80)) fun t27 =>
  Cnd t27
   (B5 [(0, w0), (7, tag7)] ds h1 K)
   (B6 [(0, w0), (7, tag7)] ds h1 K)
theorem F40.g4 {n0 : Nat} (B5 : WP) (B6 : WP) (w0 tag7 : Value) {ds : List Nat} {h : H} {K : KP} : wA Try.prog n0 44 none (.seq [0, 7, 21] F40.c4.fst (.cond [0, 7] (.tmp 21) (.sub B5) (.sub B6))) [(0, w0), (7, tag7)] ds h K = F40.t4 n0 B5 B6 w0 tag7 ds h K := by kernel_rfl
theorem F40.s4 {n0 : Nat} : F40.p4 n0 = wA Try.prog n0 44 none (.seq [0, 7, 21] F40.c4.fst (.cond [0, 7] (.tmp 21) (.sub (F40.p5 n0)) (.sub (F40.p6 n0)))) := by kernel_rfl
theorem F40.e4 {n0 : Nat} {w0 tag7 : Value} {ds : List Nat} {h : H} {K : KP} : F40.p4 n0 [(0, w0), (7, tag7)] ds h K = F40.t4 n0 (F40.p5 n0) (F40.p6 n0) w0 tag7 ds h K :=
  wchain (F40.s4) (F40.g4 (F40.p5 n0) (F40.p6 n0) w0 tag7)
noncomputable def F40.t5 (n0 : Nat) (w0 tag7 : Value) (ds : List Nat) (h : H) (K : KP) : Prop :=
  K .ret [(6, (.int .i64 91))] ds h
theorem F40.g5 {n0 : Nat} (w0 tag7 : Value) {ds : List Nat} {h : H} {K : KP} : wA Try.prog n0 44 none F40.c5 [(0, w0), (7, tag7)] ds h K = F40.t5 n0 w0 tag7 ds h K := by kernel_rfl
theorem F40.s5 {n0 : Nat} : F40.p5 n0 = wA Try.prog n0 44 none F40.c5 := by kernel_rfl
theorem F40.e5 {n0 : Nat} {w0 tag7 : Value} {ds : List Nat} {h : H} {K : KP} : F40.p5 n0 [(0, w0), (7, tag7)] ds h K = F40.t5 n0 w0 tag7 ds h K :=
  wchain (F40.s5) (F40.g5 w0 tag7)
noncomputable def F40.t6 (n0 : Nat) (B7 : WP) (w0 tag7 : Value) (ds : List Nat) (h : H) (K : KP) : Prop :=
  Cn Try.prog n0 (.func 57) [w0, (.int .i64 2)] h fun t30 h1 =>
  Bnd (aUn .not t30) fun t31 =>
  Cnd t31
   (B7 [(0, w0), (7, tag7)] ds h1 K)
   (K .normal [(0, w0), (7, tag7)] ds h1)
theorem F40.g6 {n0 : Nat} (B7 : WP) (w0 tag7 : Value) {ds : List Nat} {h : H} {K : KP} : wA Try.prog n0 44 none (.seq [0, 7, 28] F40.c6.fst (.cond [0, 7] (.tmp 28) (.sub B7) F40.c6.snd.snd)) [(0, w0), (7, tag7)] ds h K = F40.t6 n0 B7 w0 tag7 ds h K := by kernel_rfl
theorem F40.s6 {n0 : Nat} : F40.p6 n0 = wA Try.prog n0 44 none (.seq [0, 7, 28] F40.c6.fst (.cond [0, 7] (.tmp 28) (.sub (F40.p7 n0)) F40.c6.snd.snd)) := by kernel_rfl
theorem F40.e6 {n0 : Nat} {w0 tag7 : Value} {ds : List Nat} {h : H} {K : KP} : F40.p6 n0 [(0, w0), (7, tag7)] ds h K = F40.t6 n0 (F40.p7 n0) w0 tag7 ds h K :=
  wchain (F40.s6) (F40.g6 (F40.p7 n0) w0 tag7)
noncomputable def F40.t7 (n0 : Nat) (w0 tag7 : Value) (ds : List Nat) (h : H) (K : KP) : Prop :=
  K .ret [(6, (.int .i64 3))] ds h
theorem F40.g7 {n0 : Nat} (w0 tag7 : Value) {ds : List Nat} {h : H} {K : KP} : wA Try.prog n0 44 none F40.c7 [(0, w0), (7, tag7)] ds h K = F40.t7 n0 w0 tag7 ds h K := by kernel_rfl
theorem F40.s7 {n0 : Nat} : F40.p7 n0 = wA Try.prog n0 44 none F40.c7 := by kernel_rfl
theorem F40.e7 {n0 : Nat} {w0 tag7 : Value} {ds : List Nat} {h : H} {K : KP} : F40.p7 n0 [(0, w0), (7, tag7)] ds h K = F40.t7 n0 w0 tag7 ds h K :=
  wchain (F40.s7) (F40.g7 w0 tag7)
noncomputable def F40.t8 (n0 : Nat) (w0 tag7 : Value) (ds : List Nat) (h : H) (K : KP) : Prop :=
  NilC w0 <|
  Bnd (aFieldAddr Try.prog 85 w0 1) fun t35 =>
  Bnd (aLoad Try.prog 83 t35 h) fun t36 =>
  Bnd (aBin Try.prog true .or 5 tag7 (.int .u8 32)) fun t38 =>
  Bnd (aBuild Try.prog 108 [(0, t38)]) fun t39 =>
  Bnd2 (aBuildSlice Try.prog 83 1 [(0, t39)] h) fun t40 h1 =>
  Bnd2 (aBuiltin Try.prog .append #[83, 83] [t36, t40] h1) fun t41 h2 =>
  NilC w0 <|
  Bnd (aFieldAddr Try.prog 85 w0 1) fun t43 =>
  Bnd (aStore Try.prog 83 t43 t41 h2) fun h3 =>
  K .ret [(6, (.int .i64 0))] ds h3
theorem F40.g8 {n0 : Nat} (w0 tag7 : Value) {ds : List Nat} {h : H} {K : KP} : wA Try.prog n0 44 none F40.c8 [(0, w0), (7, tag7)] ds h K = F40.t8 n0 w0 tag7 ds h K := by kernel_rfl
theorem F40.s8 {n0 : Nat} : F40.p8 n0 = wA Try.prog n0 44 none F40.c8 := by kernel_rfl
theorem F40.e8 {n0 : Nat} {w0 tag7 : Value} {ds : List Nat} {h : H} {K : KP} : F40.p8 n0 [(0, w0), (7, tag7)] ds h K = F40.t8 n0 w0 tag7 ds h K :=
  wchain (F40.s8) (F40.g8 w0 tag7)
theorem F40.b : Try.f40.body = some F40.c0.erase := by kernel_rfl
theorem F40.b2 : (Try.f40.name == "runtime.NumGoroutine") = false := by kernel_rfl
theorem F40.b3 : Try.f40.ntmps = 44 := by kernel_rfl
theorem F40.b4 : Try.f40.results.toList = [.tmp 6] := by kernel_rfl
theorem F40.enter {n0 : Nat} {x0 x1 x2 : Value} {h : H} {Q : Value → H → Prop} (w : F40.p0 n0 [(0, x0), (1, x1), (2, x2)] [] h (KFin Try.prog [.tmp 6] Q)) : Cn Try.prog n0 (.func 40) [x0, x1, x2] h Q :=
  @fn_enter Try.prog n0 mixed 40 Try.f40 F40.c0 [x0, x1, x2] h Q Try.func40 F40.b F40.k0 F40.b2 44 F40.b3 [.tmp 6] F40.b4 (by simp) [(0, x0), (1, x1), (2, x2)] rfl (wback F40.d0 w)

/-! (*roster.ber.Writer).Text -/
noncomputable def F41.ac : AC := (ann (bodyOf Try.f41) [[0, 1, 2, 7], [8]]).1
noncomputable def F41.c0 : AC := F41.ac
noncomputable def F41.p0 (n0 : Nat) : WP := wA Try.prog n0 16 none F41.c0
noncomputable def F41.t0 (n0 : Nat) (w0 class1 number2 s3 : Value) (ds : List Nat) (h : H) (K : KP) : Prop :=
  Nw (enc 0 9) (clL s3) h fun s7 h1 =>
  Bnd (aLoad Try.prog 9 s7 h1) fun t12 =>
  Bnd2 (aBuiltin Try.prog .len #[9] [t12] h1) fun t13 h2 =>
  Cn Try.prog n0 (.func 43) [w0, class1, number2, t13, (.func (.func 58) #[] #[s7])] h2 fun t15 h3 =>
  K .ret [(8, t15)] ds h3
theorem F41.g0 {n0 : Nat} (w0 class1 number2 s3 : Value) {ds : List Nat} {h : H} {K : KP} : wA Try.prog n0 16 none F41.c0 [(0, w0), (1, class1), (2, number2), (3, s3)] ds h K = F41.t0 n0 w0 class1 number2 s3 ds h K := by kernel_rfl
theorem F41.s0 {n0 : Nat} : F41.p0 n0 = wA Try.prog n0 16 none F41.c0 := by kernel_rfl
theorem F41.e0 {n0 : Nat} {w0 class1 number2 s3 : Value} {ds : List Nat} {h : H} {K : KP} : F41.p0 n0 [(0, w0), (1, class1), (2, number2), (3, s3)] ds h K = F41.t0 n0 w0 class1 number2 s3 ds h K :=
  wchain (F41.s0) (F41.g0 w0 class1 number2 s3)
theorem F41.k0 : F41.c0.ok = true := by kernel_rfl
theorem F41.d0 {n0 : Nat} : F41.p0 n0 = wA Try.prog n0 16 none F41.c0 := by kernel_rfl
theorem F41.m0 (n0 : Nat) : MonoW (F41.p0 n0) := @mono_c Try.prog n0 16 none F41.c0 (F41.p0 n0) (F41.d0) F41.k0
theorem F41.b : Try.f41.body = some F41.c0.erase := by kernel_rfl
theorem F41.b2 : (Try.f41.name == "runtime.NumGoroutine") = false := by kernel_rfl
theorem F41.b3 : Try.f41.ntmps = 16 := by kernel_rfl
theorem F41.b4 : Try.f41.results.toList = [.tmp 8] := by kernel_rfl
theorem F41.enter {n0 : Nat} {x0 x1 x2 x3 : Value} {h : H} {Q : Value → H → Prop} (w : F41.p0 n0 [(0, x0), (1, x1), (2, x2), (3, x3)] [] h (KFin Try.prog [.tmp 8] Q)) : Cn Try.prog n0 (.func 41) [x0, x1, x2, x3] h Q :=
  @fn_enter Try.prog n0 mixed 41 Try.f41 F41.c0 [x0, x1, x2, x3] h Q Try.func41 F41.b F41.k0 F41.b2 16 F41.b3 [.tmp 8] F41.b4 (by simp) [(0, x0), (1, x1), (2, x2), (3, x3)] rfl (wback F41.d0 w)

/-! (*roster.ber.Writer).Close -/
noncomputable def F42.ac : AC := (ann (bodyOf Try.f42) [[0], [0], [0, 6], [0], [2], [0, 3], [0, 3], [0, 3, 14], [0, 3], [2], [0, 3, 4], [0, 4], [], [2]]).1
noncomputable def F42.c0 : AC := F42.ac
noncomputable def F42.c1 : AC := F42.ac.snd.fst.snd.fst
noncomputable def F42.c2 : AC := F42.ac.snd.snd
noncomputable def F42.c3 : AC := F42.ac.snd.snd.snd.fst.snd.fst
noncomputable def F42.c4 : AC := F42.ac.snd.snd.snd.snd
noncomputable def F42.p0 (n0 : Nat) : WP := wA Try.prog n0 42 none F42.c0
noncomputable def F42.p1 (n0 : Nat) : WP := wA Try.prog n0 42 none F42.c1
noncomputable def F42.p2 (n0 : Nat) : WP := wA Try.prog n0 42 none F42.c2
noncomputable def F42.p3 (n0 : Nat) : WP := wA Try.prog n0 42 none F42.c3
noncomputable def F42.p4 (n0 : Nat) : WP := wA Try.prog n0 42 none F42.c4
noncomputable def F42.t0 (n0 : Nat) (B1 : WP) (B2 : WP) (w0 : Value) (ds : List Nat) (h : H) (K : KP) : Prop :=
  Bnd (aBin Try.prog true .eql 33 w0 (.pointer none)) fun t6 =>
  Cnd t6
   (B1 [(0, w0)] ds h (KSeq [0] B2 K))
   (B2 [(0, w0)] ds h K)
theorem F42.g0 {n0 : Nat} (B1 : WP) (B2 : WP) (w0 : Value) {ds : List Nat} {h : H} {K : KP} : wA Try.prog n0 42 none (.seq [0] F42.c0.fst (.seq [0] (.seq [0, 6] F42.c0.snd.fst.fst (.cond [0] (.tmp 6) (.sub B1) F42.c0.snd.fst.snd.snd)) (.sub B2))) [(0, w0)] ds h K = F42.t0 n0 B1 B2 w0 ds h K := by kernel_rfl
theorem F42.s0 {n0 : Nat} : F42.p0 n0 = wA Try.prog n0 42 none (.seq [0] F42.c0.fst (.seq [0] (.seq [0, 6] F42.c0.snd.fst.fst (.cond [0] (.tmp 6) (.sub (F42.p1 n0)) F42.c0.snd.fst.snd.snd)) (.sub (F42.p2 n0)))) := by kernel_rfl
theorem F42.e0 {n0 : Nat} {w0 : Value} {ds : List Nat} {h : H} {K : KP} : F42.p0 n0 [(0, w0)] ds h K = F42.t0 n0 (F42.p1 n0) (F42.p2 n0) w0 ds h K :=
  wchain (F42.s0) (F42.g0 (F42.p1 n0) (F42.p2 n0) w0)
theorem F42.k0 : F42.c0.ok = true := by kernel_rfl
theorem F42.d0 {n0 : Nat} : F42.p0 n0 = wA Try.prog n0 42 none F42.c0 := by kernel_rfl
theorem F42.m0 (n0 : Nat) : MonoW (F42.p0 n0) := @mono_c Try.prog n0 42 none F42.c0 (F42.p0 n0) (F42.d0) F42.k0
noncomputable def F42.t1 (n0 : Nat) (w0 : Value) (ds : List Nat) (h : H) (K : KP) : Prop :=
  K .ret [(2, (.int .i64 1))] ds h
theorem F42.g1 {n0 : Nat} (w0 : Value) {ds : List Nat} {h : H} {K : KP} : wA Try.prog n0 42 none F42.c1 [(0, w0)] ds h K = F42.t1 n0 w0 ds h K := by kernel_rfl
theorem F42.s1 {n0 : Nat} : F42.p1 n0 = wA Try.prog n0 42 none F42.c1 := by kernel_rfl
theorem F42.e1 {n0 : Nat} {w0 : Value} {ds : List Nat} {h : H} {K : KP} : F42.p1 n0 [(0, w0)] ds h K = F42.t1 n0 w0 ds h K :=
  wchain (F42.s1) (F42.g1 w0)
noncomputable def F42.t2 (n0 : Nat) (B3 : WP) (B4 : WP) (w0 : Value) (ds : List Nat) (h : H) (K : KP) : Prop :=
  NilC w0 <|
  Bnd (aFieldAddr Try.prog 85 w0 1) fun t9 =>
  Bnd (aLoad Try.prog 83 t9 h) fun t10 =>
  Bnd2 (aBuiltin Try.prog .len #[83] [t10] h) fun t11 h1 =>
  Bnd (aBin Try.prog true .sub 3 t11 (.int .i64 1)) fun t12 =>
  Bnd (aBin Try.prog true .lss 3 t12 (.int .i64 0)) fun t14 =>
  Cnd t14
   (B3 [(0, w0), (3, t12)] ds h1 (KSeq [0, 3] B4 K))
   (B4 [(0, w0), (3, t12)] ds h1 K)
theorem F42.g2 {n0 : Nat} (B3 : WP) (B4 : WP) (w0 : Value) {ds : List Nat} {h : H} {K : KP} : wA Try.prog n0 42 none (.seq [0, 3] F42.c2.fst (.seq [0, 3] (.seq [0, 3, 14] F42.c2.snd.fst.fst (.cond [0, 3] (.tmp 14) (.sub B3) F42.c2.snd.fst.snd.snd)) (.sub B4))) [(0, w0)] ds h K = F42.t2 n0 B3 B4 w0 ds h K := by kernel_rfl
theorem F42.s2 {n0 : Nat} : F42.p2 n0 = wA Try.prog n0 42 none (.seq [0, 3] F42.c2.fst (.seq [0, 3] (.seq [0, 3, 14] F42.c2.snd.fst.fst (.cond [0, 3] (.tmp 14) (.sub (F42.p3 n0)) F42.c2.snd.fst.snd.snd)) (.sub (F42.p4 n0)))) := by kernel_rfl
theorem F42.e2 {n0 : Nat} {w0 : Value} {ds : List Nat} {h : H} {K : KP} : F42.p2 n0 [(0, w0)] ds h K = F42.t2 n0 (F42.p3 n0) (F42.p4 n0) w0 ds h K :=
  wchain (F42.s2) (F42.g2 (F42.p3 n0) (F42.p4 n0) w0)
noncomputable def F42.t3 (n0 : Nat) (w0 k3 : Value) (ds : List Nat) (h : H) (K : KP) : Prop :=
  K .ret [(2, (.int .i64 2))] ds h
theorem F42.g3 {n0 : Nat} (w0 k3 : Value) {ds : List Nat} {h : H} {K : KP} : wA Try.prog n0 42 none F42.c3 [(0, w0), (3, k3)] ds h K = F42.t3 n0 w0 k3 ds h K := by kernel_rfl
theorem F42.s3 {n0 : Nat} : F42.p3 n0 = wA Try.prog n0 42 none F42.c3 := by kernel_rfl
theorem F42.e3 {n0 : Nat} {w0 k3 : Value} {ds : List Nat} {h : H} {K : KP} : F42.p3 n0 [(0, w0), (3, k3)] ds h K = F42.t3 n0 w0 k3 ds h K :=
  wchain (F42.s3) (F42.g3 w0 k3)
noncomputable def F42.t4 (n0 : Nat) (w0 k3 : Value) (ds : List Nat) (h : H) (K : KP) : Prop :=
  NilC w0 <|
  Bnd (aFieldAddr Try.prog 85 w0 1) fun t17 =>
  Bnd (aLoad Try.prog 83 t17 h) fun t18 =>
  Bnd (aIndexAddr Try.prog 83 t18 k3) fun t20 =>
  Bnd (aLoad Try.prog 108 t20 h) fun t21 =>
  Nw (enc 0 108) (zc Try.prog 108) h fun f4 h1 =>
  Bnd (aStore Try.prog 108 f4 t21 h1) fun h2 =>
  NilC w0 <|
  Bnd (aFieldAddr Try.prog 85 w0 1) fun t25 =>
  Bnd (aLoad Try.prog 83 t25 h2) fun t26 =>
  Bnd (aSlice Try.prog 83 t26 none (some k3) none h2) fun t28 =>
  NilC w0 <|
  Bnd (aFieldAddr Try.prog 85 w0 1) fun t30 =>
  Bnd (aStore Try.prog 83 t30 t28 h2) fun h3 =>
  Bnd (aFieldAddr Try.prog 108 f4 0) fun t32 =>
  Bnd (aLoad Try.prog 5 t32 h3) fun t33 =>
  Bnd (aFieldAddr Try.prog 108 f4 1) fun t34 =>
  Bnd (aLoad Try.prog 22 t34 h3) fun t35 =>
  Bnd2 (aBuiltin Try.prog .len #[22] [t35] h3) fun t36 h4 =>
  Cn Try.prog n0 (.func 60) [t33, t36] h4 fun t37 h5 =>
  Bnd (aFieldAddr Try.prog 108 f4 1) fun t38 =>
  Bnd (aLoad Try.prog 22 t38 h5) fun t39 =>
  Bnd2 (aBuildSlice Try.prog 44 2 [(0, t37), (1, t39)] h5) fun t40 h6 =>
  Cn Try.prog n0 (.func 59) [w0, t40] h6 fun t41 h7 =>
  Sm (aLoad Try.prog 22 t38 h4) t39 <|
  Sm (aLoad Try.prog 22 t38 h5) t39 <|
  K .ret [(2, (.int .i64 0))] ds h7
theorem F42.g4 {n0 : Nat} (w0 k3 : Value) {ds : List Nat} {h : H} {K : KP} : wA Try.prog n0 42 none F42.c4 [(0, w0), (3, k3)] ds h K = F42.t4 n0 w0 k3 ds h K := by kernel_rfl
theorem F42.s4 {n0 : Nat} : F42.p4 n0 = wA Try.prog n0 42 none F42.c4 := by kernel_rfl
theorem F42.e4 {n0 : Nat} {w0 k3 : Value} {ds : List Nat} {h : H} {K : KP} : F42.p4 n0 [(0, w0), (3, k3)] ds h K = F42.t4 n0 w0 k3 ds h K :=
  wchain (F42.s4) (F42.g4 w0 k3)
theorem F42.b : Try.f42.body = some F42.c0.erase := by kernel_rfl
theorem F42.b2 : (Try.f42.name == "runtime.NumGoroutine") = false := by kernel_rfl
theorem F42.b3 : Try.f42.ntmps = 42 := by kernel_rfl
theorem F42.b4 : Try.f42.results.toList = [.tmp 2] := by kernel_rfl
theorem F42.enter {n0 : Nat} {x0 : Value} {h : H} {Q : Value → H → Prop} (w : F42.p0 n0 [(0, x0)] [] h (KFin Try.prog [.tmp 2] Q)) : Cn Try.prog n0 (.func 42) [x0] h Q :=
  @fn_enter Try.prog n0 mixed 42 Try.f42 F42.c0 [x0] h Q Try.func42 F42.b F42.k0 F42.b2 42 F42.b3 [.tmp 2] F42.b4 (by simp) [(0, x0)] rfl (wback F42.d0 w)

/-! (*roster.ber.Writer).put -/
noncomputable def F43.ac : AC := (ann (bodyOf Try.f43) [[0, 1, 2, 3, 4], [0, 3, 4, 11, 12], [0, 3, 4, 11], [0, 3, 4, 11], [0, 3, 4, 11, 12, 20], [0, 3, 4, 11, 12], [10], [0, 3, 4, 11, 23], [0, 3, 4, 11], [10], [0, 3, 4, 13], [0, 4, 13], [0, 4, 13, 39], [0, 4, 13], [10], [], [10]]).1
noncomputable def F43.c0 : AC := F43.ac
noncomputable def F43.c1 : AC := F43.ac.snd.snd.fst.fst.snd.fst
noncomputable def F43.c2 : AC := F43.ac.snd.snd.fst.fst.snd.snd
noncomputable def F43.c3 : AC := F43.ac.snd.snd.fst.fst.snd.snd.snd.fst
noncomputable def F43.c4 : AC := F43.ac.snd.snd.snd
noncomputable def F43.c5 : AC := F43.ac.snd.snd.snd.snd.fst.snd.fst
noncomputable def F43.c6 : AC := F43.ac.snd.snd.snd.snd.snd
noncomputable def F43.p0 (n0 : Nat) : WP := wA Try.prog n0 46 none F43.c0
noncomputable def F43.p1 (n0 : Nat) : WP := wA Try.prog n0 46 none F43.c1
noncomputable def F43.p2 (n0 : Nat) : WP := wA Try.prog n0 46 none F43.c2
noncomputable def F43.p3 (n0 : Nat) : WP := wA Try.prog n0 46 none F43.c3
noncomputable def F43.p4 (n0 : Nat) : WP := wA Try.prog n0 46 none F43.c4
noncomputable def F43.p5 (n0 : Nat) : WP := wA Try.prog n0 46 none F43.c5
noncomputable def F43.p6 (n0 : Nat) : WP := wA Try.prog n0 46 none F43.c6
noncomputable def F43.t0 (n0 : Nat) (B1 : WP) (B2 : WP) (B4 : WP) (w0 class1 number2 size3 b4 : Value) (ds : List Nat) (h : H) (K : KP) : Prop :=
  Cn Try.prog n0 (.func 56) [class1, number2] h fun t17 h1 =>
  Bnd (tupAt t17 0) fun t18 =>
  Bnd (tupAt t17 1) fun t19 =>
  Bnd (aBin Try.prog true .eql 33 w0 (.pointer none)) fun t22 =>
  Cnd t22
   (B1 [(0, w0), (3, size3), (4, b4), (11, t18), (12, t19)] ds h1 (KBlk [0, 3, 4, 11] 0 (KSeq [0, 3, 4, 11] B4 K)))
   (B2 [(0, w0), (3, size3), (4, b4), (11, t18), (12, t19)] ds h1 (KBlk [0, 3, 4, 11] 0 (KSeq [0, 3, 4, 11] B4 K)))
theorem F43.g0 {n0 : Nat} (B1 : WP) (B2 : WP) (B4 : WP) (w0 class1 number2 size3 b4 : Value) {ds : List Nat} {h : H} {K : KP} : wA Try.prog n0 46 none (.seq [0, 1, 2, 3, 4] F43.c0.fst (.seq [0, 3, 4, 11, 12] F43.c0.snd.fst (.seq [0, 3, 4, 11] (.block [0, 3, 4, 11] 0 (.seq [0, 3, 4, 11, 12, 20] F43.c0.snd.snd.fst.fst.fst (.cond [0, 3, 4, 11, 12] (.tmp 20) (.sub B1) (.sub B2)))) (.sub B4)))) [(0, w0), (1, class1), (2, number2), (3, size3), (4, b4)] ds h K = F43.t0 n0 B1 B2 B4 w0 class1 number2 size3 b4 ds h K := by kernel_rfl
theorem F43.s0 {n0 : Nat} : F43.p0 n0 = wA Try.prog n0 46 none (.seq [0, 1, 2, 3, 4] F43.c0.fst (.seq [0, 3, 4, 11, 12] F43.c0.snd.fst (.seq [0, 3, 4, 11] (.block [0, 3, 4, 11] 0 (.seq [0, 3, 4, 11, 12, 20] F43.c0.snd.snd.fst.fst.fst (.cond [0, 3, 4, 11, 12] (.tmp 20) (.sub (F43.p1 n0)) (.sub (F43.p2 n0))))) (.sub (F43.p4 n0))))) := by kernel_rfl
theorem F43.e0 {n0 : Nat} {w0 class1 number2 size3 b4 : Value} {ds : List Nat} {h : H} {K : KP} : F43.p0 n0 [(0, w0), (1, class1), (2, number2), (3, size3), (4, b4)] ds h K = F43.t0 n0 (F43.p1 n0) (F43.p2 n0) (F43.p4 n0) w0 class1 number2 size3 b4 ds h K :=
  wchain (F43.s0) (F43.g0 (F43.p1 n0) (F43.p2 n0) (F43.p4 n0) w0 class1 number2 size3 b4)
theorem F43.k0 : F43.c0.ok = true := by kernel_rfl
theorem F43.d0 {n0 : Nat} : F43.p0 n0 = wA Try.prog n0 46 none F43.c0 := by kernel_rfl
theorem F43.m0 (n0 : Nat) : MonoW (F43.p0 n0) := @mono_c Try.prog n0 46 none F43.c0 (F43.p0 n0) (F43.d0) F43.k0
noncomputable def F43.t1 (n0 : Nat) (w0 size3 b4 tag11 ok12 : Value) (ds : List Nat) (h : H) (K : KP) : Prop :=
  K .ret [(10, (.int .i64 1))] ds h
theorem F43.g1 {n0 : Nat} (w0 size3 b4 tag11 ok12 : Value) {ds : List Nat} {h : H} {K : KP} : wA Try.prog n0 46 none F43.c1 [(0, w0), (3, size3), (4, b4), (11, tag11), (12, ok12)] ds h K = F43.t1 n0 w0 size3 b4 tag11 ok12 ds h K := by kernel_rfl
theorem F43.s1 {n0 : Nat} : F43.p1 n0 = wA Try.prog n0 46 none F43.c1 := by kernel_rfl
theorem F43.e1 {n0 : Nat} {w0 size3 b4 tag11 ok12 : Value} {ds : List Nat} {h : H} {K : KP} : F43.p1 n0 [(0, w0), (3, size3), (4, b4), (11, tag11), (12, ok12)] ds h K = F43.t1 n0 w0 size3 b4 tag11 ok12 ds h K :=
  wchain (F43.s1) (F43.g1 w0 size3 b4 tag11 ok12)
noncomputable def F43.t2 (n0 : Nat) (B3 : WP) (w0 size3 b4 tag11 ok12 : Value) (ds : List Nat) (h : H) (K : KP) : Prop :=
  Bnd (aUn .not ok12) fun t25 =>
  Cnd t25
   (B3 [(0, w0), (3, size3), (4, b4), (11, tag11)] ds h K)
   (K .normal [(0, w0), (3, size3), (4, b4), (11, tag11)] ds h)
theorem F43.g2 {n0 : Nat} (B3 : WP) (w0 size3 b4 tag11 ok12 : Value) {ds : List Nat} {h : H} {K : KP} : wA Try.prog n0 46 none (.seq [0, 3, 4, 11, 23] F43.c2.fst (.cond [0, 3, 4, 11] (.tmp 23) (.sub B3) F43.c2.snd.snd)) [(0, w0), (3, size3), (4, b4), (11, tag11), (12, ok12)] ds h K = F43.t2 n0 B3 w0 size3 b4 tag11 ok12 ds h K := by kernel_rfl
theorem F43.s2 {n0 : Nat} : F43.p2 n0 = wA Try.prog n0 46 none (.seq [0, 3, 4, 11, 23] F43.c2.fst (.cond [0, 3, 4, 11] (.tmp 23) (.sub (F43.p3 n0)) F43.c2.snd.snd)) := by kernel_rfl
theorem F43.e2 {n0 : Nat} {w0 size3 b4 tag11 ok12 : Value} {ds : List Nat} {h : H} {K : KP} : F43.p2 n0 [(0, w0), (3, size3), (4, b4), (11, tag11), (12, ok12)] ds h K = F43.t2 n0 (F43.p3 n0) w0 size3 b4 tag11 ok12 ds h K :=
  wchain (F43.s2) (F43.g2 (F43.p3 n0) w0 size3 b4 tag11 ok12)
noncomputable def F43.t3 (n0 : Nat) (w0 size3 b4 tag11 : Value) (ds : List Nat) (h : H) (K : KP) : Prop :=
  K .ret [(10, (.int .i64 2))] ds h
theorem F43.g3 {n0 : Nat} (w0 size3 b4 tag11 : Value) {ds : List Nat} {h : H} {K : KP} : wA Try.prog n0 46 none F43.c3 [(0, w0), (3, size3), (4, b4), (11, tag11)] ds h K = F43.t3 n0 w0 size3 b4 tag11 ds h K := by kernel_rfl
theorem F43.s3 {n0 : Nat} : F43.p3 n0 = wA Try.prog n0 46 none F43.c3 := by kernel_rfl
theorem F43.e3 {n0 : Nat} {w0 size3 b4 tag11 : Value} {ds : List Nat} {h : H} {K : KP} : F43.p3 n0 [(0, w0), (3, size3), (4, b4), (11, tag11)] ds h K = F43.t3 n0 w0 size3 b4 tag11 ds h K :=
  wchain (F43.s3) (F43.g3 w0 size3 b4 tag11)
noncomputable def F43.t4 (n0 : Nat) (B5 : WP) (B6 : WP) (w0 size3 b4 tag11 : Value) (ds : List Nat) (h : H) (K : KP) : Prop :=
  Cn Try.prog n0 (.func 60) [tag11, size3] h fun t28 h1 =>
  Bnd (aBin Try.prog true .gtr 3 size3 (.int .i64 67108864)) fun t30 =>
  Gd t30
   (B5 [(0, w0), (4, b4), (13, t28)] ds h1 (KSeq [0, 4, 13] B6 K))
   (Bnd2 (aBuiltin Try.prog .len #[22] [t28] h1) fun t34 h2 =>
  Bnd (aBin Try.prog false .add 3 t34 size3) fun t36 =>
  Cn Try.prog n0 (.func 57) [w0, t36] h2 fun t37 h3 =>
  Bnd (aUn .not t37) fun t38 =>
  Cnd t38
   (B5 [(0, w0), (4, b4), (13, t28)] ds h3 (KSeq [0, 4, 13] B6 K))
   (B6 [(0, w0), (4, b4), (13, t28)] ds h3 K))
theorem F43.g4 {n0 : Nat} (B5 : WP) (B6 : WP) (w0 size3 b4 tag11 : Value) {ds : List Nat} {h : H} {K : KP} : wA Try.prog n0 46 none (.seq [0, 3, 4, 13] F43.c4.fst (.seq [0, 4, 13] (.seq [0, 4, 13, 39] F43.c4.snd.fst.fst (.cond [0, 4, 13] (.tmp 39) (.sub B5) F43.c4.snd.fst.snd.snd)) (.sub B6))) [(0, w0), (3, size3), (4, b4), (11, tag11)] ds h K = F43.t4 n0 B5 B6 w0 size3 b4 tag11 ds h K := by kernel_rfl
theorem F43.s4 {n0 : Nat} : F43.p4 n0 = wA Try.prog n0 46 none (.seq [0, 3, 4, 13] F43.c4.fst (.seq [0, 4, 13] (.seq [0, 4, 13, 39] F43.c4.snd.fst.fst (.cond [0, 4, 13] (.tmp 39) (.sub (F43.p5 n0)) F43.c4.snd.fst.snd.snd)) (.sub (F43.p6 n0)))) := by kernel_rfl
theorem F43.e4 {n0 : Nat} {w0 size3 b4 tag11 : Value} {ds : List Nat} {h : H} {K : KP} : F43.p4 n0 [(0, w0), (3, size3), (4, b4), (11, tag11)] ds h K = F43.t4 n0 (F43.p5 n0) (F43.p6 n0) w0 size3 b4 tag11 ds h K :=
  wchain (F43.s4) (F43.g4 (F43.p5 n0) (F43.p6 n0) w0 size3 b4 tag11)
noncomputable def F43.t5 (n0 : Nat) (w0 b4 h13 : Value) (ds : List Nat) (h : H) (K : KP) : Prop :=
  K .ret [(10, (.int .i64 3))] ds h
theorem F43.g5 {n0 : Nat} (w0 b4 h13 : Value) {ds : List Nat} {h : H} {K : KP} : wA Try.prog n0 46 none F43.c5 [(0, w0), (4, b4), (13, h13)] ds h K = F43.t5 n0 w0 b4 h13 ds h K := by kernel_rfl
theorem F43.s5 {n0 : Nat} : F43.p5 n0 = wA Try.prog n0 46 none F43.c5 := by kernel_rfl
theorem F43.e5 {n0 : Nat} {w0 b4 h13 : Value} {ds : List Nat} {h : H} {K : KP} : F43.p5 n0 [(0, w0), (4, b4), (13, h13)] ds h K = F43.t5 n0 w0 b4 h13 ds h K :=
  wchain (F43.s5) (F43.g5 w0 b4 h13)
noncomputable def F43.t6 (n0 : Nat) (w0 b4 h13 : Value) (ds : List Nat) (h : H) (K : KP) : Prop :=
  CallV Try.prog n0 b4 [] h fun t43 h1 =>
  Bnd2 (aBuildSlice Try.prog 44 2 [(0, h13), (1, t43)] h1) fun t44 h2 =>
  Cn Try.prog n0 (.func 59) [w0, t44] h2 fun t45 h3 =>
  K .ret [(10, (.int .i64 0))] ds h3
theorem F43.g6 {n0 : Nat} (w0 b4 h13 : Value) {ds : List Nat} {h : H} {K : KP} : wA Try.prog n0 46 none F43.c6 [(0, w0), (4, b4), (13, h13)] ds h K = F43.t6 n0 w0 b4 h13 ds h K := by kernel_rfl
theorem F43.s6 {n0 : Nat} : F43.p6 n0 = wA Try.prog n0 46 none F43.c6 := by kernel_rfl
theorem F43.e6 {n0 : Nat} {w0 b4 h13 : Value} {ds : List Nat} {h : H} {K : KP} : F43.p6 n0 [(0, w0), (4, b4), (13, h13)] ds h K = F43.t6 n0 w0 b4 h13 ds h K :=
  wchain (F43.s6) (F43.g6 w0 b4 h13)
theorem F43.b : Try.f43.body = some F43.c0.erase := by kernel_rfl
theorem F43.b2 : (Try.f43.name == "runtime.NumGoroutine") = false := by kernel_rfl
theorem F43.b3 : Try.f43.ntmps = 46 := by kernel_rfl
theorem F43.b4 : Try.f43.results.toList = [.tmp 10] := by kernel_rfl
theorem F43.enter {n0 : Nat} {x0 x1 x2 x3 x4 : Value} {h : H} {Q : Value → H → Prop} (w : F43.p0 n0 [(0, x0), (1, x1), (2, x2), (3, x3), (4, x4)] [] h (KFin Try.prog [.tmp 10] Q)) : Cn Try.prog n0 (.func 43) [x0, x1, x2, x3, x4] h Q :=
  @fn_enter Try.prog n0 mixed 43 Try.f43 F43.c0 [x0, x1, x2, x3, x4] h Q Try.func43 F43.b F43.k0 F43.b2 46 F43.b3 [.tmp 10] F43.b4 (by simp) [(0, x0), (1, x1), (2, x2), (3, x3), (4, x4)] rfl (wback F43.d0 w)

/-! (*roster.ber.Writer).Int$1 -/
noncomputable def F44.ac : AC := (ann (bodyOf Try.f44) [[0, 1], [0, 1, 3], [3], [1, 3, 4], [3], [1, 3, 4], [1, 3, 4], [1, 3, 4, 8], [1, 3, 4], [1, 3, 4], [1, 3, 4], [2]]).1
noncomputable def F44.c0 : AC := F44.ac
noncomputable def F44.c1 : AC := F44.ac.snd.snd.fst.snd.fst.fst
noncomputable def F44.c2 : AC := F44.ac.snd.snd.fst.snd.fst.fst.snd
noncomputable def F44.c3 : AC := F44.ac.snd.snd.fst.snd.fst.fst.snd.snd
noncomputable def F44.c4 : AC := F44.ac.snd.snd.snd
noncomputable def F44.p0 (n0 : Nat) : WP := wA Try.prog n0 20 none F44.c0
noncomputable def F44.p1 (n0 : Nat) : WP := wA Try.prog n0 20 none F44.c1
noncomputable def F44.p2 (n0 : Nat) : WP := wA Try.prog n0 20 none F44.c2
noncomputable def F44.p3 (n0 : Nat) : WP := wA Try.prog n0 20 none F44.c3
noncomputable def F44.p4 (n0 : Nat) : WP := wA Try.prog n0 20 none F44.c4
noncomputable def F44.t0 (n0 : Nat) (B1 : WP) (B4 : WP) (t0 t1 : Value) (ds : List Nat) (h : H) (K : KP) : Prop :=
  Bnd (aLoad Try.prog 3 t0 h) fun t5 =>
  Bnd (aBin Try.prog true .sub 3 t5 (.int .i64 1)) fun t6 =>
  Lp [1, 3, 4] B1 [(1, t1), (3, (.slice none 0 0)), (4, t6)] ds h (KBlk [3] 0 (KSeq [3] B4 K))
theorem F44.g0 {n0 : Nat} (B1 : WP) (B4 : WP) (t0 t1 : Value) {ds : List Nat} {h : H} {K : KP} : wA Try.prog n0 20 none (.seq [0, 1] F44.c0.fst (.seq [0, 1, 3] F44.c0.snd.fst (.seq [3] (.seq [1, 3, 4] F44.c0.snd.snd.fst.fst (.block [3] 0 (.loop [1, 3, 4] (.sub B1)))) (.sub B4)))) [(0, t0), (1, t1)] ds h K = F44.t0 n0 B1 B4 t0 t1 ds h K := by kernel_rfl
theorem F44.s0 {n0 : Nat} : F44.p0 n0 = wA Try.prog n0 20 none (.seq [0, 1] F44.c0.fst (.seq [0, 1, 3] F44.c0.snd.fst (.seq [3] (.seq [1, 3, 4] F44.c0.snd.snd.fst.fst (.block [3] 0 (.loop [1, 3, 4] (.sub (F44.p1 n0))))) (.sub (F44.p4 n0))))) := by kernel_rfl
theorem F44.e0 {n0 : Nat} {t0 t1 : Value} {ds : List Nat} {h : H} {K : KP} : F44.p0 n0 [(0, t0), (1, t1)] ds h K = F44.t0 n0 (F44.p1 n0) (F44.p4 n0) t0 t1 ds h K :=
  wchain (F44.s0) (F44.g0 (F44.p1 n0) (F44.p4 n0) t0 t1)
theorem F44.k0 : F44.c0.ok = true := by kernel_rfl
theorem F44.d0 {n0 : Nat} : F44.p0 n0 = wA Try.prog n0 20 none F44.c0 := by kernel_rfl
theorem F44.m0 (n0 : Nat) : MonoW (F44.p0 n0) := @mono_c Try.prog n0 20 none F44.c0 (F44.p0 n0) (F44.d0) F44.k0
noncomputable def F44.t1 (n0 : Nat) (B2 : WP) (t1 b3 i4 : Value) (ds : List Nat) (h : H) (K : KP) : Prop :=
  Bnd (aBin Try.prog true .geq 3 i4 (.int .i64 0)) fun t8 =>
  Cnd t8
   (B2 [(1, t1), (3, b3), (4, i4)] ds h K)
   (K (.exit 0) [(1, t1), (3, b3), (4, i4)] ds h)
theorem F44.g1 {n0 : Nat} (B2 : WP) (t1 b3 i4 : Value) {ds : List Nat} {h : H} {K : KP} : wA Try.prog n0 20 none (.seq [1, 3, 4] F44.c1.fst (.sub B2)) [(1, t1), (3, b3), (4, i4)] ds h K = F44.t1 n0 B2 t1 b3 i4 ds h K := by kernel_rfl
theorem F44.s1 {n0 : Nat} : F44.p1 n0 = wA Try.prog n0 20 none (.seq [1, 3, 4] F44.c1.fst (.sub (F44.p2 n0))) := by kernel_rfl
theorem F44.e1 {n0 : Nat} {t1 b3 i4 : Value} {ds : List Nat} {h : H} {K : KP} : F44.p1 n0 [(1, t1), (3, b3), (4, i4)] ds h K = F44.t1 n0 (F44.p2 n0) t1 b3 i4 ds h K :=
  wchain (F44.s1) (F44.g1 (F44.p2 n0) t1 b3 i4)
theorem F44.k1 : F44.c1.ok = true := by kernel_rfl
theorem F44.d1 {n0 : Nat} : F44.p1 n0 = wA Try.prog n0 20 none F44.c1 := by kernel_rfl
theorem F44.m1 (n0 : Nat) : MonoW (F44.p1 n0) := @mono_c Try.prog n0 20 none F44.c1 (F44.p1 n0) (F44.d1) F44.k1
noncomputable def F44.t2 (n0 : Nat) (B3 : WP) (t1 b3 i4 : Value) (ds : List Nat) (h : H) (K : KP) : Prop :=
  Bnd (aLoad Try.prog 2 t1 h) fun t12 =>
  Bnd (aBin Try.prog true .mul 3 (.int .i64 8) i4) fun t14 =>
  Bnd (aBin Try.prog false .shr 2 t12 t14) fun t15 =>
  Bnd2 (cvt Try.prog 2 5 t15 h) fun t16 h1 =>
  Bnd2 (aBuildSlice Try.prog 22 1 [(0, t16)] h1) fun t17 h2 =>
  Bnd2 (aBuiltin Try.prog .append #[22, 22] [b3, t17] h2) fun t18 h3 =>
  B3 [(1, t1), (3, t18), (4, i4)] ds h3 K
theorem F44.g2 {n0 : Nat} (B3 : WP) (t1 b3 i4 : Value) {ds : List Nat} {h : H} {K : KP} : wA Try.prog n0 20 none (.seq [1, 3, 4] F44.c2.fst (.sub B3)) [(1, t1), (3, b3), (4, i4)] ds h K = F44.t2 n0 B3 t1 b3 i4 ds h K := by kernel_rfl
theorem F44.s2 {n0 : Nat} : F44.p2 n0 = wA Try.prog n0 20 none (.seq [1, 3, 4] F44.c2.fst (.sub (F44.p3 n0))) := by kernel_rfl
theorem F44.e2 {n0 : Nat} {t1 b3 i4 : Value} {ds : List Nat} {h : H} {K : KP} : F44.p2 n0 [(1, t1), (3, b3), (4, i4)] ds h K = F44.t2 n0 (F44.p3 n0) t1 b3 i4 ds h K :=
  wchain (F44.s2) (F44.g2 (F44.p3 n0) t1 b3 i4)
noncomputable def F44.t3 (n0 : Nat) (t1 b3 i4 : Value) (ds : List Nat) (h : H) (K : KP) : Prop :=
  Bnd (aBin Try.prog true .sub 3 i4 (.int .i64 1)) fun t10 =>
  K .normal [(1, t1), (3, b3), (4, t10), (9, i4), (10, t10)] ds h
theorem F44.g3 {n0 : Nat} (t1 b3 i4 : Value) {ds : List Nat} {h : H} {K : KP} : wA Try.prog n0 20 none F44.c3 [(1, t1), (3, b3), (4, i4)] ds h K = F44.t3 n0 t1 b3 i4 ds h K := by kernel_rfl
theorem F44.s3 {n0 : Nat} : F44.p3 n0 = wA Try.prog n0 20 none F44.c3 := by kernel_rfl
theorem F44.e3 {n0 : Nat} {t1 b3 i4 : Value} {ds : List Nat} {h : H} {K : KP} : F44.p3 n0 [(1, t1), (3, b3), (4, i4)] ds h K = F44.t3 n0 t1 b3 i4 ds h K :=
  wchain (F44.s3) (F44.g3 t1 b3 i4)
noncomputable def F44.t4 (n0 : Nat) (b3 : Value) (ds : List Nat) (h : H) (K : KP) : Prop :=
  K .ret [(2, b3)] ds h
theorem F44.g4 {n0 : Nat} (b3 : Value) {ds : List Nat} {h : H} {K : KP} : wA Try.prog n0 20 none F44.c4 [(3, b3)] ds h K = F44.t4 n0 b3 ds h K := by kernel_rfl
theorem F44.s4 {n0 : Nat} : F44.p4 n0 = wA Try.prog n0 20 none F44.c4 := by kernel_rfl
theorem F44.e4 {n0 : Nat} {b3 : Value} {ds : List Nat} {h : H} {K : KP} : F44.p4 n0 [(3, b3)] ds h K = F44.t4 n0 b3 ds h K :=
  wchain (F44.s4) (F44.g4 b3)
theorem F44.b : Try.f44.body = some F44.c0.erase := by kernel_rfl
theorem F44.b2 : (Try.f44.name == "runtime.NumGoroutine") = false := by kernel_rfl
theorem F44.b3 : Try.f44.ntmps = 20 := by kernel_rfl
theorem F44.b4 : Try.f44.results.toList = [.tmp 2] := by kernel_rfl
theorem F44.enter {n0 : Nat} {x0 x1 : Value} {h : H} {Q : Value → H → Prop} (w : F44.p0 n0 [(0, x0), (1, x1)] [] h (KFin Try.prog [.tmp 2] Q)) : Cn Try.prog n0 (.func 44) [x0, x1] h Q :=
  @fn_enter Try.prog n0 mixed 44 Try.f44 F44.c0 [x0, x1] h Q Try.func44 F44.b F44.k0 F44.b2 20 F44.b3 [.tmp 2] F44.b4 (by simp) [(0, x0), (1, x1)] rfl (wback F44.d0 w)

/-! (*roster.ber.Writer).Flag -/
noncomputable def F46.ac : AC := (ann (bodyOf Try.f46) [[0, 1, 2, 7], [8]]).1
noncomputable def F46.c0 : AC := F46.ac
noncomputable def F46.p0 (n0 : Nat) : WP := wA Try.prog n0 14 none F46.c0
noncomputable def F46.t0 (n0 : Nat) (w0 class1 number2 v3 : Value) (ds : List Nat) (h : H) (K : KP) : Prop :=
  Nw (enc 0 4) (clL v3) h fun v7 h1 =>
  Cn Try.prog n0 (.func 43) [w0, class1, number2, (.int .i64 1), (.func (.func 61) #[] #[v7])] h1 fun t13 h2 =>
  K .ret [(8, t13)] ds h2
theorem F46.g0 {n0 : Nat} (w0 class1 number2 v3 : Value) {ds : List Nat} {h : H} {K : KP} : wA Try.prog n0 14 none F46.c0 [(0, w0), (1, class1), (2, number2), (3, v3)] ds h K = F46.t0 n0 w0 class1 number2 v3 ds h K := by kernel_rfl
theorem F46.s0 {n0 : Nat} : F46.p0 n0 = wA Try.prog n0 14 none F46.c0 := by kernel_rfl
theorem F46.e0 {n0 : Nat} {w0 class1 number2 v3 : Value} {ds : List Nat} {h : H} {K : KP} : F46.p0 n0 [(0, w0), (1, class1), (2, number2), (3, v3)] ds h K = F46.t0 n0 w0 class1 number2 v3 ds h K :=
  wchain (F46.s0) (F46.g0 w0 class1 number2 v3)
theorem F46.k0 : F46.c0.ok = true := by kernel_rfl
theorem F46.d0 {n0 : Nat} : F46.p0 n0 = wA Try.prog n0 14 none F46.c0 := by kernel_rfl
theorem F46.m0 (n0 : Nat) : MonoW (F46.p0 n0) := @mono_c Try.prog n0 14 none F46.c0 (F46.p0 n0) (F46.d0) F46.k0
theorem F46.b : Try.f46.body = some F46.c0.erase := by kernel_rfl
theorem F46.b2 : (Try.f46.name == "runtime.NumGoroutine") = false := by kernel_rfl
theorem F46.b3 : Try.f46.ntmps = 14 := by kernel_rfl
theorem F46.b4 : Try.f46.results.toList = [.tmp 8] := by kernel_rfl
theorem F46.enter {n0 : Nat} {x0 x1 x2 x3 : Value} {h : H} {Q : Value → H → Prop} (w : F46.p0 n0 [(0, x0), (1, x1), (2, x2), (3, x3)] [] h (KFin Try.prog [.tmp 8] Q)) : Cn Try.prog n0 (.func 46) [x0, x1, x2, x3] h Q :=
  @fn_enter Try.prog n0 mixed 46 Try.f46 F46.c0 [x0, x1, x2, x3] h Q Try.func46 F46.b F46.k0 F46.b2 14 F46.b3 [.tmp 8] F46.b4 (by simp) [(0, x0), (1, x1), (2, x2), (3, x3)] rfl (wback F46.d0 w)

/-! (*roster.rosterref02.Writer).Begin -/
noncomputable def F47.ac : AC := (ann (bodyOf Try.f47) [[0, 1, 2], [0, 1, 2, 7], [0, 1, 2], [0, 1, 2, 12], [0, 1, 2], [6], [0, 1, 2], [0, 1, 2, 19], [0, 1, 2], [6], [0, 1, 2], [0, 1, 2, 22], [0, 1, 2], [6], [], [6]]).1
noncomputable def F47.c0 : AC := F47.ac
noncomputable def F47.c1 : AC := F47.ac.snd.snd.fst.snd.fst
noncomputable def F47.c2 : AC := F47.ac.snd.snd.snd
noncomputable def F47.c3 : AC := F47.ac.snd.snd.snd.fst.snd.fst
noncomputable def F47.c4 : AC := F47.ac.snd.snd.snd.snd
noncomputable def F47.c5 : AC := F47.ac.snd.snd.snd.snd.fst.snd.fst
noncomputable def F47.c6 : AC := F47.ac.snd.snd.snd.snd.snd
noncomputable def F47.p0 (n0 : Nat) : WP := wA Try.prog n0 35 none F47.c0
noncomputable def F47.p1 (n0 : Nat) : WP := wA Try.prog n0 35 none F47.c1
noncomputable def F47.p2 (n0 : Nat) : WP := wA Try.prog n0 35 none F47.c2
noncomputable def F47.p3 (n0 : Nat) : WP := wA Try.prog n0 35 none F47.c3
noncomputable def F47.p4 (n0 : Nat) : WP := wA Try.prog n0 35 none F47.c4
noncomputable def F47.p5 (n0 : Nat) : WP := wA Try.prog n0 35 none F47.c5
noncomputable def F47.p6 (n0 : Nat) : WP := wA Try.prog n0 35 none F47.c6
noncomputable def F47.t0 (n0 : Nat) (B1 : WP) (B2 : WP) (w0 class1 number2 : Value) (ds : List Nat) (h : H) (K : KP) : Prop :=
  Cn Try.prog n0 (.func 62) [class1, number2] h fun t10 h1 =>
  Bnd (aUn .not t10) fun t12 =>
  Cnd t12
   (B1 [(0, w0), (1, class1), (2, number2)] ds h1 (KSeq [0, 1, 2] B2 K))
   (B2 [(0, w0), (1, class1), (2, number2)] ds h1 K)
theorem F47.g0 {n0 : Nat} (B1 : WP) (B2 : WP) (w0 class1 number2 : Value) {ds : List Nat} {h : H} {K : KP} : wA Try.prog n0 35 none (.seq [0, 1, 2] F47.c0.fst (.seq [0, 1, 2, 7] F47.c0.snd.fst (.seq [0, 1, 2] (.seq [0, 1, 2, 12] F47.c0.snd.snd.fst.fst (.cond [0, 1, 2] (.tmp 12) (.sub B1) F47.c0.snd.snd.fst.snd.snd)) (.sub B2)))) [(0, w0), (1, class1), (2, number2)] ds h K = F47.t0 n0 B1 B2 w0 class1 number2 ds h K := by kernel_rfl
theorem F47.s0 {n0 : Nat} : F47.p0 n0 = wA Try.prog n0 35 none (.seq [0, 1, 2] F47.c0.fst (.seq [0, 1, 2, 7] F47.c0.snd.fst (.seq [0, 1, 2] (.seq [0, 1, 2, 12] F47.c0.snd.snd.fst.fst (.cond [0, 1, 2] (.tmp 12) (.sub (F47.p1 n0)) F47.c0.snd.snd.fst.snd.snd)) (.sub (F47.p2 n0))))) := by kernel_rfl
theorem F47.e0 {n0 : Nat} {w0 class1 number2 : Value} {ds : List Nat} {h : H} {K : KP} : F47.p0 n0 [(0, w0), (1, class1), (2, number2)] ds h K = F47.t0 n0 (F47.p1 n0) (F47.p2 n0) w0 class1 number2 ds h K :=
  wchain (F47.s0) (F47.g0 (F47.p1 n0) (F47.p2 n0) w0 class1 number2)
theorem F47.k0 : F47.c0.ok = true := by kernel_rfl
theorem F47.d0 {n0 : Nat} : F47.p0 n0 = wA Try.prog n0 35 none F47.c0 := by kernel_rfl
theorem F47.m0 (n0 : Nat) : MonoW (F47.p0 n0) := @mono_c Try.prog n0 35 none F47.c0 (F47.p0 n0) (F47.d0) F47.k0
noncomputable def F47.t1 (n0 : Nat) (w0 class1 number2 : Value) (ds : List Nat) (h : H) (K : KP) : Prop :=
  K .ret [(6, (.int .i64 2))] ds h
theorem F47.g1 {n0 : Nat} (w0 class1 number2 : Value) {ds : List Nat} {h : H} {K : KP} : wA Try.prog n0 35 none F47.c1 [(0, w0), (1, class1), (2, number2)] ds h K = F47.t1 n0 w0 class1 number2 ds h K := by kernel_rfl
theorem F47.s1 {n0 : Nat} : F47.p1 n0 = wA Try.prog n0 35 none F47.c1 := by kernel_rfl
theorem F47.e1 {n0 : Nat} {w0 class1 number2 : Value} {ds : List Nat} {h : H} {K : KP} : F47.p1 n0 [(0, w0), (1, class1), (2, number2)] ds h K = F47.t1 n0 w0 class1 number2 ds h K :=
  wchain (F47.s1) (F47.g1 w0 class1 number2)
noncomputable def F47.t2 (n0 : Nat) (B3 : WP) (B4 : WP) (w0 class1 number2 : Value) (ds : List Nat) (h : H) (K : KP) : Prop :=
  NilC w0 <|
  Bnd (aFieldAddr Try.prog 91 w0 0) fun t15 =>
  Bnd (aLoad Try.prog 89 t15 h) fun t16 =>
  Bnd2 (aBuiltin Try.prog .len #[89] [t16] h) fun t17 h1 =>
  Bnd (aBin Try.prog true .sub 3 t17 (.int .i64 1)) fun t18 =>
  Bnd (aBin Try.prog true .geq 3 t18 (.int .i64 80)) fun t19 =>
  Cnd t19
   (B3 [(0, w0), (1, class1), (2, number2)] ds h1 (KSeq [0, 1, 2] B4 K))
   (B4 [(0, w0), (1, class1), (2, number2)] ds h1 K)
theorem F47.g2 {n0 : Nat} (B3 : WP) (B4 : WP) (w0 class1 number2 : Value) {ds : List Nat} {h : H} {K : KP} : wA Try.prog n0 35 none (.seq [0, 1, 2] (.seq [0, 1, 2, 19] F47.c2.fst.fst (.cond [0, 1, 2] (.tmp 19) (.sub B3) F47.c2.fst.snd.snd)) (.sub B4)) [(0, w0), (1, class1), (2, number2)] ds h K = F47.t2 n0 B3 B4 w0 class1 number2 ds h K := by kernel_rfl
theorem F47.s2 {n0 : Nat} : F47.p2 n0 = wA Try.prog n0 35 none (.seq [0, 1, 2] (.seq [0, 1, 2, 19] F47.c2.fst.fst (.cond [0, 1, 2] (.tmp 19) (.sub (F47.p3 n0)) F47.c2.fst.snd.snd)) (.sub (F47.p4 n0))) := by kernel_rfl
theorem F47.e2 {n0 : Nat} {w0 class1 number2 : Value} {ds : List Nat} {h : H} {K : KP} : F47.p2 n0 [(0, w0), (1, class1), (2, number2)] ds h K = F47.t2 n0 (F47.p3 n0) (F47.p4 n0) w0 class1 number2 ds h K :=
  wchain (F47.s2) (F47.g2 (F47.p3 n0) (F47.p4 n0) w0 class1 number2)
noncomputable def F47.t3 (n0 : Nat) (w0 class1 number2 : Value) (ds : List Nat) (h : H) (K : KP) : Prop :=
  K .ret [(6, (.int .i64 91))] ds h
theorem F47.g3 {n0 : Nat} (w0 class1 number2 : Value) {ds : List Nat} {h : H} {K : KP} : wA Try.prog n0 35 none F47.c3 [(0, w0), (1, class1), (2, number2)] ds h K = F47.t3 n0 w0 class1 number2 ds h K := by kernel_rfl
theorem F47.s3 {n0 : Nat} : F47.p3 n0 = wA Try.prog n0 35 none F47.c3 := by kernel_rfl
theorem F47.e3 {n0 : Nat} {w0 class1 number2 : Value} {ds : List Nat} {h : H} {K : KP} : F47.p3 n0 [(0, w0), (1, class1), (2, number2)] ds h K = F47.t3 n0 w0 class1 number2 ds h K :=
  wchain (F47.s3) (F47.g3 w0 class1 number2)
noncomputable def F47.t4 (n0 : Nat) (B5 : WP) (B6 : WP) (w0 class1 number2 : Value) (ds : List Nat) (h : H) (K : KP) : Prop :=
  Cn Try.prog n0 (.func 63) [w0, (.int .i64 2)] h fun t21 h1 =>
  Bnd (aBin Try.prog true .gtr 3 t21 (.int .i64 67108864)) fun t22 =>
  Cnd t22
   (B5 [(0, w0), (1, class1), (2, number2)] ds h1 (KSeq [0, 1, 2] B6 K))
   (B6 [(0, w0), (1, class1), (2, number2)] ds h1 K)
theorem F47.g4 {n0 : Nat} (B5 : WP) (B6 : WP) (w0 class1 number2 : Value) {ds : List Nat} {h : H} {K : KP} : wA Try.prog n0 35 none (.seq [0, 1, 2] (.seq [0, 1, 2, 22] F47.c4.fst.fst (.cond [0, 1, 2] (.tmp 22) (.sub B5) F47.c4.fst.snd.snd)) (.sub B6)) [(0, w0), (1, class1), (2, number2)] ds h K = F47.t4 n0 B5 B6 w0 class1 number2 ds h K := by kernel_rfl
theorem F47.s4 {n0 : Nat} : F47.p4 n0 = wA Try.prog n0 35 none (.seq [0, 1, 2] (.seq [0, 1, 2, 22] F47.c4.fst.fst (.cond [0, 1, 2] (.tmp 22) (.sub (F47.p5 n0)) F47.c4.fst.snd.snd)) (.sub (F47.p6 n0))) := by kernel_rfl
theorem F47.e4 {n0 : Nat} {w0 class1 number2 : Value} {ds : List Nat} {h : H} {K : KP} : F47.p4 n0 [(0, w0), (1, class1), (2, number2)] ds h K = F47.t4 n0 (F47.p5 n0) (F47.p6 n0) w0 class1 number2 ds h K :=
  wchain (F47.s4) (F47.g4 (F47.p5 n0) (F47.p6 n0) w0 class1 number2)
noncomputable def F47.t5 (n0 : Nat) (w0 class1 number2 : Value) (ds : List Nat) (h : H) (K : KP) : Prop :=
  K .ret [(6, (.int .i64 3))] ds h
theorem F47.g5 {n0 : Nat} (w0 class1 number2 : Value) {ds : List Nat} {h : H} {K : KP} : wA Try.prog n0 35 none F47.c5 [(0, w0), (1, class1), (2, number2)] ds h K = F47.t5 n0 w0 class1 number2 ds h K := by kernel_rfl
theorem F47.s5 {n0 : Nat} : F47.p5 n0 = wA Try.prog n0 35 none F47.c5 := by kernel_rfl
theorem F47.e5 {n0 : Nat} {w0 class1 number2 : Value} {ds : List Nat} {h : H} {K : KP} : F47.p5 n0 [(0, w0), (1, class1), (2, number2)] ds h K = F47.t5 n0 w0 class1 number2 ds h K :=
  wchain (F47.s5) (F47.g5 w0 class1 number2)
noncomputable def F47.t6 (n0 : Nat) (w0 class1 number2 : Value) (ds : List Nat) (h : H) (K : KP) : Prop :=
  NilC w0 <|
  Bnd (aFieldAddr Try.prog 91 w0 0) fun t26 =>
  Bnd (aLoad Try.prog 89 t26 h) fun t27 =>
  Bnd (aBuild Try.prog 94 [(0, class1), (1, number2)]) fun t30 =>
  Bnd2 (aBuildSlice Try.prog 89 1 [(0, t30)] h) fun t31 h1 =>
  Bnd2 (aBuiltin Try.prog .append #[89, 89] [t27, t31] h1) fun t32 h2 =>
  NilC w0 <|
  Bnd (aFieldAddr Try.prog 91 w0 0) fun t34 =>
  Bnd (aStore Try.prog 89 t34 t32 h2) fun h3 =>
  K .ret [(6, (.int .i64 0))] ds h3
theorem F47.g6 {n0 : Nat} (w0 class1 number2 : Value) {ds : List Nat} {h : H} {K : KP} : wA Try.prog n0 35 none F47.c6 [(0, w0), (1, class1), (2, number2)] ds h K = F47.t6 n0 w0 class1 number2 ds h K := by kernel_rfl
theorem F47.s6 {n0 : Nat} : F47.p6 n0 = wA Try.prog n0 35 none F47.c6 := by kernel_rfl
theorem F47.e6 {n0 : Nat} {w0 class1 number2 : Value} {ds : List Nat} {h : H} {K : KP} : F47.p6 n0 [(0, w0), (1, class1), (2, number2)] ds h K = F47.t6 n0 w0 class1 number2 ds h K :=
  wchain (F47.s6) (F47.g6 w0 class1 number2)
theorem F47.b : Try.f47.body = some F47.c0.erase := by kernel_rfl
theorem F47.b2 : (Try.f47.name == "runtime.NumGoroutine") = false := by kernel_rfl
theorem F47.b3 : Try.f47.ntmps = 35 := by kernel_rfl
theorem F47.b4 : Try.f47.results.toList = [.tmp 6] := by kernel_rfl
theorem F47.enter {n0 : Nat} {x0 x1 x2 : Value} {h : H} {Q : Value → H → Prop} (w : F47.p0 n0 [(0, x0), (1, x1), (2, x2)] [] h (KFin Try.prog [.tmp 6] Q)) : Cn Try.prog n0 (.func 47) [x0, x1, x2] h Q :=
  @fn_enter Try.prog n0 mixed 47 Try.f47 F47.c0 [x0, x1, x2] h Q Try.func47 F47.b F47.k0 F47.b2 35 F47.b3 [.tmp 6] F47.b4 (by simp) [(0, x0), (1, x1), (2, x2)] rfl (wback F47.d0 w)

/-! (*roster.rosterref02.Writer).End -/
noncomputable def F48.ac : AC := (ann (bodyOf Try.f48) [[0], [0, 3], [0, 3], [0, 3, 13], [0, 3], [2], [0, 3, 4], [0, 3, 4], [0, 3, 4, 5], [0, 3, 5], [], [2]]).1
noncomputable def F48.c0 : AC := F48.ac
noncomputable def F48.c1 : AC := F48.ac.snd.snd.fst.snd.fst
noncomputable def F48.c2 : AC := F48.ac.snd.snd.snd
noncomputable def F48.p0 (n0 : Nat) : WP := wA Try.prog n0 61 none F48.c0
noncomputable def F48.p1 (n0 : Nat) : WP := wA Try.prog n0 61 none F48.c1
noncomputable def F48.p2 (n0 : Nat) : WP := wA Try.prog n0 61 none F48.c2
noncomputable def F48.t0 (n0 : Nat) (B1 : WP) (B2 : WP) (w0 : Value) (ds : List Nat) (h : H) (K : KP) : Prop :=
  NilC w0 <|
  Bnd (aFieldAddr Try.prog 91 w0 0) fun t8 =>
  Bnd (aLoad Try.prog 89 t8 h) fun t9 =>
  Bnd2 (aBuiltin Try.prog .len #[89] [t9] h) fun t10 h1 =>
  Bnd (aBin Try.prog true .sub 3 t10 (.int .i64 1)) fun t11 =>
  Bnd (aBin Try.prog true .eql 3 t11 (.int .i64 0)) fun t13 =>
  Cnd t13
   (B1 [(0, w0), (3, t11)] ds h1 (KSeq [0, 3] B2 K))
   (B2 [(0, w0), (3, t11)] ds h1 K)
theorem F48.g0 {n0 : Nat} (B1 : WP) (B2 : WP) (w0 : Value) {ds : List Nat} {h : H} {K : KP} : wA Try.prog n0 61 none (.seq [0] F48.c0.fst (.seq [0, 3] F48.c0.snd.fst (.seq [0, 3] (.seq [0, 3, 13] F48.c0.snd.snd.fst.fst (.cond [0, 3] (.tmp 13) (.sub B1) F48.c0.snd.snd.fst.snd.snd)) (.sub B2)))) [(0, w0)] ds h K = F48.t0 n0 B1 B2 w0 ds h K := by kernel_rfl
theorem F48.s0 {n0 : Nat} : F48.p0 n0 = wA Try.prog n0 61 none (.seq [0] F48.c0.fst (.seq [0, 3] F48.c0.snd.fst (.seq [0, 3] (.seq [0, 3, 13] F48.c0.snd.snd.fst.fst (.cond [0, 3] (.tmp 13) (.sub (F48.p1 n0)) F48.c0.snd.snd.fst.snd.snd)) (.sub (F48.p2 n0))))) := by kernel_rfl
theorem F48.e0 {n0 : Nat} {w0 : Value} {ds : List Nat} {h : H} {K : KP} : F48.p0 n0 [(0, w0)] ds h K = F48.t0 n0 (F48.p1 n0) (F48.p2 n0) w0 ds h K :=
  wchain (F48.s0) (F48.g0 (F48.p1 n0) (F48.p2 n0) w0)
theorem F48.k0 : F48.c0.ok = true := by kernel_rfl
theorem F48.d0 {n0 : Nat} : F48.p0 n0 = wA Try.prog n0 61 none F48.c0 := by kernel_rfl
theorem F48.m0 (n0 : Nat) : MonoW (F48.p0 n0) := @mono_c Try.prog n0 61 none F48.c0 (F48.p0 n0) (F48.d0) F48.k0
noncomputable def F48.t1 (n0 : Nat) (w0 k3 : Value) (ds : List Nat) (h : H) (K : KP) : Prop :=
  K .ret [(2, (.int .i64 2))] ds h
theorem F48.g1 {n0 : Nat} (w0 k3 : Value) {ds : List Nat} {h : H} {K : KP} : wA Try.prog n0 61 none F48.c1 [(0, w0), (3, k3)] ds h K = F48.t1 n0 w0 k3 ds h K := by kernel_rfl
theorem F48.s1 {n0 : Nat} : F48.p1 n0 = wA Try.prog n0 61 none F48.c1 := by kernel_rfl
theorem F48.e1 {n0 : Nat} {w0 k3 : Value} {ds : List Nat} {h : H} {K : KP} : F48.p1 n0 [(0, w0), (3, k3)] ds h K = F48.t1 n0 w0 k3 ds h K :=
  wchain (F48.s1) (F48.g1 w0 k3)
noncomputable def F48.t2 (n0 : Nat) (w0 k3 : Value) (ds : List Nat) (h : H) (K : KP) : Prop :=
  NilC w0 <|
  Bnd (aFieldAddr Try.prog 91 w0 0) fun t16 =>
  Bnd (aLoad Try.prog 89 t16 h) fun t17 =>
  Bnd (aIndexAddr Try.prog 89 t17 k3) fun t19 =>
  Bnd (aLoad Try.prog 94 t19 h) fun t20 =>
  Nw (enc 0 94) (zc Try.prog 94) h fun x4 h1 =>
  Bnd (aStore Try.prog 94 x4 t20 h1) fun h2 =>
  NilC w0 <|
  Bnd (aFieldAddr Try.prog 91 w0 0) fun t24 =>
  Bnd (aLoad Try.prog 89 t24 h2) fun t25 =>
  Bnd (aSlice Try.prog 89 t25 none (some k3) none h2) fun t27 =>
  NilC w0 <|
  Bnd (aFieldAddr Try.prog 91 w0 0) fun t29 =>
  Bnd (aStore Try.prog 89 t29 t27 h2) fun h3 =>
  Bnd (aFieldAddr Try.prog 94 x4 0) fun t30 =>
  Bnd (aLoad Try.prog 24 t30 h3) fun t31 =>
  Bnd (aFieldAddr Try.prog 94 x4 1) fun t32 =>
  Bnd (aLoad Try.prog 3 t32 h3) fun t33 =>
  Bnd (aFieldAddr Try.prog 94 x4 2) fun t34 =>
  Bnd (aLoad Try.prog 22 t34 h3) fun t35 =>
  Bnd2 (aBuiltin Try.prog .len #[22] [t35] h3) fun t36 h4 =>
  Cn Try.prog n0 (.func 64) [t31, (.bool true), t33, t36] h4 fun t37 h5 =>
  Bnd (aFieldAddr Try.prog 94 x4 2) fun t39 =>
  Bnd (aLoad Try.prog 22 t39 h5) fun t40 =>
  Bnd2 (aBuiltin Try.prog .append #[22, 22] [t37, t40] h5) fun t41 h6 =>
  NilC w0 <|
  Bnd (aFieldAddr Try.prog 91 w0 0) fun t44 =>
  Bnd (aLoad Try.prog 89 t44 h6) fun t45 =>
  Bnd (aBin Try.prog true .sub 3 k3 (.int .i64 1)) fun t47 =>
  NilC w0 <|
  Bnd (aFieldAddr Try.prog 91 w0 0) fun t50 =>
  Bnd (aLoad Try.prog 89 t50 h6) fun t51 =>
  Bnd (aBin Try.prog true .sub 3 k3 (.int .i64 1)) fun t53 =>
  Bnd (aIndexAddr Try.prog 89 t51 t53) fun t54 =>
  Bnd (aFieldAddr Try.prog 94 t54 2) fun t55 =>
  Bnd (aLoad Try.prog 22 t55 h6) fun t56 =>
  Bnd2 (aBuiltin Try.prog .append #[22, 22] [t56, t41] h6) fun t58 h7 =>
  Bnd (aIndexAddr Try.prog 89 t45 t47) fun t59 =>
  Bnd (aFieldAddr Try.prog 94 t59 2) fun t60 =>
  Bnd (aStore Try.prog 22 t60 t58 h7) fun h8 =>
  Sm (aLoad Try.prog 89 t44 h6) t45 <|
  Sm (aLoad Try.prog 89 t44 h7) t45 <|
  K .ret [(2, (.int .i64 0))] ds h8
theorem F48.g2 {n0 : Nat} (w0 k3 : Value) {ds : List Nat} {h : H} {K : KP} : wA Try.prog n0 61 none F48.c2 [(0, w0), (3, k3)] ds h K = F48.t2 n0 w0 k3 ds h K := by kernel_rfl
theorem F48.s2 {n0 : Nat} : F48.p2 n0 = wA Try.prog n0 61 none F48.c2 := by kernel_rfl
theorem F48.e2 {n0 : Nat} {w0 k3 : Value} {ds : List Nat} {h : H} {K : KP} : F48.p2 n0 [(0, w0), (3, k3)] ds h K = F48.t2 n0 w0 k3 ds h K :=
  wchain (F48.s2) (F48.g2 w0 k3)
theorem F48.b : Try.f48.body = some F48.c0.erase := by kernel_rfl
theorem F48.b2 : (Try.f48.name == "runtime.NumGoroutine") = false := by kernel_rfl
theorem F48.b3 : Try.f48.ntmps = 61 := by kernel_rfl
theorem F48.b4 : Try.f48.results.toList = [.tmp 2] := by kernel_rfl
theorem F48.enter {n0 : Nat} {x0 : Value} {h : H} {Q : Value → H → Prop} (w : F48.p0 n0 [(0, x0)] [] h (KFin Try.prog [.tmp 2] Q)) : Cn Try.prog n0 (.func 48) [x0] h Q :=
  @fn_enter Try.prog n0 mixed 48 Try.f48 F48.c0 [x0] h Q Try.func48 F48.b F48.k0 F48.b2 61 F48.b3 [.tmp 2] F48.b4 (by simp) [(0, x0)] rfl (wback F48.d0 w)

/-! (*roster.rosterref02.Writer).Int -/
noncomputable def F49.ac : AC := (ann (bodyOf Try.f49) [[0, 1, 2, 3], [8]]).1
noncomputable def F49.c0 : AC := F49.ac
noncomputable def F49.p0 (n0 : Nat) : WP := wA Try.prog n0 15 none F49.c0
noncomputable def F49.t0 (n0 : Nat) (w0 class1 number2 v3 : Value) (ds : List Nat) (h : H) (K : KP) : Prop :=
  Cn Try.prog n0 (.func 66) [v3] h fun t13 h1 =>
  Cn Try.prog n0 (.func 65) [w0, class1, number2, t13] h1 fun t14 h2 =>
  K .ret [(8, t14)] ds h2
theorem F49.g0 {n0 : Nat} (w0 class1 number2 v3 : Value) {ds : List Nat} {h : H} {K : KP} : wA Try.prog n0 15 none F49.c0 [(0, w0), (1, class1), (2, number2), (3, v3)] ds h K = F49.t0 n0 w0 class1 number2 v3 ds h K := by kernel_rfl
theorem F49.s0 {n0 : Nat} : F49.p0 n0 = wA Try.prog n0 15 none F49.c0 := by kernel_rfl
theorem F49.e0 {n0 : Nat} {w0 class1 number2 v3 : Value} {ds : List Nat} {h : H} {K : KP} : F49.p0 n0 [(0, w0), (1, class1), (2, number2), (3, v3)] ds h K = F49.t0 n0 w0 class1 number2 v3 ds h K :=
  wchain (F49.s0) (F49.g0 w0 class1 number2 v3)
theorem F49.k0 : F49.c0.ok = true := by kernel_rfl
theorem F49.d0 {n0 : Nat} : F49.p0 n0 = wA Try.prog n0 15 none F49.c0 := by kernel_rfl
theorem F49.m0 (n0 : Nat) : MonoW (F49.p0 n0) := @mono_c Try.prog n0 15 none F49.c0 (F49.p0 n0) (F49.d0) F49.k0
theorem F49.b : Try.f49.body = some F49.c0.erase := by kernel_rfl
theorem F49.b2 : (Try.f49.name == "runtime.NumGoroutine") = false := by kernel_rfl
theorem F49.b3 : Try.f49.ntmps = 15 := by kernel_rfl
theorem F49.b4 : Try.f49.results.toList = [.tmp 8] := by kernel_rfl
theorem F49.enter {n0 : Nat} {x0 x1 x2 x3 : Value} {h : H} {Q : Value → H → Prop} (w : F49.p0 n0 [(0, x0), (1, x1), (2, x2), (3, x3)] [] h (KFin Try.prog [.tmp 8] Q)) : Cn Try.prog n0 (.func 49) [x0, x1, x2, x3] h Q :=
  @fn_enter Try.prog n0 mixed 49 Try.f49 F49.c0 [x0, x1, x2, x3] h Q Try.func49 F49.b F49.k0 F49.b2 15 F49.b3 [.tmp 8] F49.b4 (by simp) [(0, x0), (1, x1), (2, x2), (3, x3)] rfl (wback F49.d0 w)

/-! (*roster.rosterref02.Writer).Flag -/
noncomputable def F50.ac : AC := (ann (bodyOf Try.f50) [[0, 1, 2, 3], [0, 1, 2], [0, 1, 2, 9], [0, 1, 2], [8], [8]]).1
noncomputable def F50.c0 : AC := F50.ac
noncomputable def F50.c1 : AC := F50.ac.snd.fst.snd.fst
noncomputable def F50.c2 : AC := F50.ac.snd.snd
noncomputable def F50.p0 (n0 : Nat) : WP := wA Try.prog n0 20 none F50.c0
noncomputable def F50.p1 (n0 : Nat) : WP := wA Try.prog n0 20 none F50.c1
noncomputable def F50.p2 (n0 : Nat) : WP := wA Try.prog n0 20 none F50.c2
noncomputable def F50.t0 (n0 : Nat) (B1 : WP) (B2 : WP) (w0 class1 number2 v3 : Value) (ds : List Nat) (h : H) (K : KP) : Prop :=
  Cnd v3
   (B1 [(0, w0), (1, class1), (2, number2)] ds h (KSeq [0, 1, 2] B2 K))
   (B2 [(0, w0), (1, class1), (2, number2)] ds h K)
theorem F50.g0 {n0 : Nat} (B1 : WP) (B2 : WP) (w0 class1 number2 v3 : Value) {ds : List Nat} {h : H} {K : KP} : wA Try.prog n0 20 none (.seq [0, 1, 2, 3] F50.c0.fst (.seq [0, 1, 2] (.seq [0, 1, 2, 9] F50.c0.snd.fst.fst (.cond [0, 1, 2] (.tmp 9) (.sub B1) F50.c0.snd.fst.snd.snd)) (.sub B2))) [(0, w0), (1, class1), (2, number2), (3, v3)] ds h K = F50.t0 n0 B1 B2 w0 class1 number2 v3 ds h K := by kernel_rfl
theorem F50.s0 {n0 : Nat} : F50.p0 n0 = wA Try.prog n0 20 none (.seq [0, 1, 2, 3] F50.c0.fst (.seq [0, 1, 2] (.seq [0, 1, 2, 9] F50.c0.snd.fst.fst (.cond [0, 1, 2] (.tmp 9) (.sub (F50.p1 n0)) F50.c0.snd.fst.snd.snd)) (.sub (F50.p2 n0)))) := by kernel_rfl
theorem F50.e0 {n0 : Nat} {w0 class1 number2 v3 : Value} {ds : List Nat} {h : H} {K : KP} : F50.p0 n0 [(0, w0), (1, class1), (2, number2), (3, v3)] ds h K = F50.t0 n0 (F50.p1 n0) (F50.p2 n0) w0 class1 number2 v3 ds h K :=
  wchain (F50.s0) (F50.g0 (F50.p1 n0) (F50.p2 n0) w0 class1 number2 v3)
theorem F50.k0 : F50.c0.ok = true := by kernel_rfl
theorem F50.d0 {n0 : Nat} : F50.p0 n0 = wA Try.prog n0 20 none F50.c0 := by kernel_rfl
theorem F50.m0 (n0 : Nat) : MonoW (F50.p0 n0) := @mono_c Try.prog n0 20 none F50.c0 (F50.p0 n0) (F50.d0) F50.k0
noncomputable def F50.t1 (n0 : Nat) (w0 class1 number2 : Value) (ds : List Nat) (h : H) (K : KP) : Prop :=
  Bnd2 (aBuildSlice Try.prog 22 1 [(0, (.int .u8 255))] h) fun t13 h1 =>
  Cn Try.prog n0 (.func 65) [w0, class1, number2, t13] h1 fun t14 h2 =>
  K .ret [(8, t14)] ds h2
theorem F50.g1 {n0 : Nat} (w0 class1 number2 : Value) {ds : List Nat} {h : H} {K : KP} : wA Try.prog n0 20 none F50.c1 [(0, w0), (1, class1), (2, number2)] ds h K = F50.t1 n0 w0 class1 number2 ds h K := by kernel_rfl
theorem F50.s1 {n0 : Nat} : F50.p1 n0 = wA Try.prog n0 20 none F50.c1 := by kernel_rfl
theorem F50.e1 {n0 : Nat} {w0 class1 number2 : Value} {ds : List Nat} {h : H} {K : KP} : F50.p1 n0 [(0, w0), (1, class1), (2, number2)] ds h K = F50.t1 n0 w0 class1 number2 ds h K :=
  wchain (F50.s1) (F50.g1 w0 class1 number2)
noncomputable def F50.t2 (n0 : Nat) (w0 class1 number2 : Value) (ds : List Nat) (h : H) (K : KP) : Prop :=
  Bnd2 (aBuildSlice Try.prog 22 1 [(0, (.int .u8 0))] h) fun t18 h1 =>
  Cn Try.prog n0 (.func 65) [w0, class1, number2, t18] h1 fun t19 h2 =>
  K .ret [(8, t19)] ds h2
theorem F50.g2 {n0 : Nat} (w0 class1 number2 : Value) {ds : List Nat} {h : H} {K : KP} : wA Try.prog n0 20 none F50.c2 [(0, w0), (1, class1), (2, number2)] ds h K = F50.t2 n0 w0 class1 number2 ds h K := by kernel_rfl
theorem F50.s2 {n0 : Nat} : F50.p2 n0 = wA Try.prog n0 20 none F50.c2 := by kernel_rfl
theorem F50.e2 {n0 : Nat} {w0 class1 number2 : Value} {ds : List Nat} {h : H} {K : KP} : F50.p2 n0 [(0, w0), (1, class1), (2, number2)] ds h K = F50.t2 n0 w0 class1 number2 ds h K :=
  wchain (F50.s2) (F50.g2 w0 class1 number2)
theorem F50.b : Try.f50.body = some F50.c0.erase := by kernel_rfl
theorem F50.b2 : (Try.f50.name == "runtime.NumGoroutine") = false := by kernel_rfl
theorem F50.b3 : Try.f50.ntmps = 20 := by kernel_rfl
theorem F50.b4 : Try.f50.results.toList = [.tmp 8] := by kernel_rfl
theorem F50.enter {n0 : Nat} {x0 x1 x2 x3 : Value} {h : H} {Q : Value → H → Prop} (w : F50.p0 n0 [(0, x0), (1, x1), (2, x2), (3, x3)] [] h (KFin Try.prog [.tmp 8] Q)) : Cn Try.prog n0 (.func 50) [x0, x1, x2, x3] h Q :=
  @fn_enter Try.prog n0 mixed 50 Try.f50 F50.c0 [x0, x1, x2, x3] h Q Try.func50 F50.b F50.k0 F50.b2 20 F50.b3 [.tmp 8] F50.b4 (by simp) [(0, x0), (1, x1), (2, x2), (3, x3)] rfl (wback F50.d0 w)

/-! (*roster.rosterref02.Writer).Text -/
noncomputable def F51.ac : AC := (ann (bodyOf Try.f51) [[0, 1, 2, 3], [0, 1, 2, 3], [0, 1, 2, 3, 12], [0, 1, 2, 3], [9], [], [17], [], [8], [8], [8]]).1
noncomputable def F51.c0 : AC := F51.ac
noncomputable def F51.c1 : AC := F51.ac.snd.fst.snd.fst
noncomputable def F51.c2 : AC := F51.ac.snd.fst.snd.fst.snd.fst.snd.fst
noncomputable def F51.c3 : AC := F51.ac.snd.fst.snd.fst.snd.snd
noncomputable def F51.c4 : AC := F51.ac.snd.snd
noncomputable def F51.p0 (n0 : Nat) : WP := wA Try.prog n0 24 none F51.c0
noncomputable def F51.p1 (n0 : Nat) : WP := wA Try.prog n0 24 none F51.c1
noncomputable def F51.p2 (n0 : Nat) : WP := wA Try.prog n0 24 none F51.c2
noncomputable def F51.p3 (n0 : Nat) : WP := wA Try.prog n0 24 none F51.c3
noncomputable def F51.p4 (n0 : Nat) : WP := wA Try.prog n0 24 none F51.c4
noncomputable def F51.t0 (n0 : Nat) (B1 : WP) (B4 : WP) (w0 class1 number2 s3 : Value) (ds : List Nat) (h : H) (K : KP) : Prop :=
  Bnd2 (aBuiltin Try.prog .len #[9] [s3] h) fun t11 h1 =>
  Bnd (aBin Try.prog true .gtr 3 t11 (.int .i64 67108864)) fun t12 =>
  Cnd t12
   (B1 [(0, w0), (1, class1), (2, number2), (3, s3)] ds h1 (KSeq [0, 1, 2, 3] B4 K))
   (B4 [(0, w0), (1, class1), (2, number2), (3, s3)] ds h1 K)
theorem F51.g0 {n0 : Nat} (B1 : WP) (B4 : WP) (w0 class1 number2 s3 : Value) {ds : List Nat} {h : H} {K : KP} : wA Try.prog n0 24 none (.seq [0, 1, 2, 3] F51.c0.fst (.seq [0, 1, 2, 3] (.seq [0, 1, 2, 3, 12] F51.c0.snd.fst.fst (.cond [0, 1, 2, 3] (.tmp 12) (.sub B1) F51.c0.snd.fst.snd.snd)) (.sub B4))) [(0, w0), (1, class1), (2, number2), (3, s3)] ds h K = F51.t0 n0 B1 B4 w0 class1 number2 s3 ds h K := by kernel_rfl
theorem F51.s0 {n0 : Nat} : F51.p0 n0 = wA Try.prog n0 24 none (.seq [0, 1, 2, 3] F51.c0.fst (.seq [0, 1, 2, 3] (.seq [0, 1, 2, 3, 12] F51.c0.snd.fst.fst (.cond [0, 1, 2, 3] (.tmp 12) (.sub (F51.p1 n0)) F51.c0.snd.fst.snd.snd)) (.sub (F51.p4 n0)))) := by kernel_rfl
theorem F51.e0 {n0 : Nat} {w0 class1 number2 s3 : Value} {ds : List Nat} {h : H} {K : KP} : F51.p0 n0 [(0, w0), (1, class1), (2, number2), (3, s3)] ds h K = F51.t0 n0 (F51.p1 n0) (F51.p4 n0) w0 class1 number2 s3 ds h K :=
  wchain (F51.s0) (F51.g0 (F51.p1 n0) (F51.p4 n0) w0 class1 number2 s3)
theorem F51.k0 : F51.c0.ok = true := by kernel_rfl
theorem F51.d0 {n0 : Nat} : F51.p0 n0 = wA Try.prog n0 24 none F51.c0 := by kernel_rfl
theorem F51.m0 (n0 : Nat) : MonoW (F51.p0 n0) := @mono_c Try.prog n0 24 none F51.c0 (F51.p0 n0) (F51.d0) F51.k0
noncomputable def F51.t1 (n0 : Nat) (B2 : WP) (B3 : WP) (w0 class1 number2 s3 : Value) (ds : List Nat) (h : H) (K : KP) : Prop :=
  Cn Try.prog n0 (.func 62) [class1, number2] h fun t15 h1 =>
  Bnd (aUn .not t15) fun t17 =>
  Cnd t17
   (B2 [] ds h1 (KSeq [] B3 K))
   (B3 [] ds h1 K)
theorem F51.g1 {n0 : Nat} (B2 : WP) (B3 : WP) (w0 class1 number2 s3 : Value) {ds : List Nat} {h : H} {K : KP} : wA Try.prog n0 24 none (.seq [9] F51.c1.fst (.seq [] (.seq [17] F51.c1.snd.fst.fst (.cond [] (.tmp 17) (.sub B2) F51.c1.snd.fst.snd.snd)) (.sub B3))) [(0, w0), (1, class1), (2, number2), (3, s3)] ds h K = F51.t1 n0 B2 B3 w0 class1 number2 s3 ds h K := by kernel_rfl
theorem F51.s1 {n0 : Nat} : F51.p1 n0 = wA Try.prog n0 24 none (.seq [9] F51.c1.fst (.seq [] (.seq [17] F51.c1.snd.fst.fst (.cond [] (.tmp 17) (.sub (F51.p2 n0)) F51.c1.snd.fst.snd.snd)) (.sub (F51.p3 n0)))) := by kernel_rfl
theorem F51.e1 {n0 : Nat} {w0 class1 number2 s3 : Value} {ds : List Nat} {h : H} {K : KP} : F51.p1 n0 [(0, w0), (1, class1), (2, number2), (3, s3)] ds h K = F51.t1 n0 (F51.p2 n0) (F51.p3 n0) w0 class1 number2 s3 ds h K :=
  wchain (F51.s1) (F51.g1 (F51.p2 n0) (F51.p3 n0) w0 class1 number2 s3)
noncomputable def F51.t2 (n0 : Nat) (ds : List Nat) (h : H) (K : KP) : Prop :=
  K .ret [(8, (.int .i64 2))] ds h
theorem F51.g2 {n0 : Nat} {ds : List Nat} {h : H} {K : KP} : wA Try.prog n0 24 none F51.c2 [] ds h K = F51.t2 n0  ds h K := by kernel_rfl
theorem F51.s2 {n0 : Nat} : F51.p2 n0 = wA Try.prog n0 24 none F51.c2 := by kernel_rfl
theorem F51.e2 {n0 : Nat} {ds : List Nat} {h : H} {K : KP} : F51.p2 n0 [] ds h K = F51.t2 n0  ds h K :=
  wchain (F51.s2) (F51.g2)
noncomputable def F51.t3 (n0 : Nat) (ds : List Nat) (h : H) (K : KP) : Prop :=
  K .ret [(8, (.int .i64 3))] ds h
theorem F51.g3 {n0 : Nat} {ds : List Nat} {h : H} {K : KP} : wA Try.prog n0 24 none F51.c3 [] ds h K = F51.t3 n0  ds h K := by kernel_rfl
theorem F51.s3 {n0 : Nat} : F51.p3 n0 = wA Try.prog n0 24 none F51.c3 := by kernel_rfl
theorem F51.e3 {n0 : Nat} {ds : List Nat} {h : H} {K : KP} : F51.p3 n0 [] ds h K = F51.t3 n0  ds h K :=
  wchain (F51.s3) (F51.g3)
noncomputable def F51.t4 (n0 : Nat) (w0 class1 number2 s3 : Value) (ds : List Nat) (h : H) (K : KP) : Prop :=
  Bnd2 (cvt Try.prog 9 22 s3 h) fun t22 h1 =>
  Cn Try.prog n0 (.func 65) [w0, class1, number2, t22] h1 fun t23 h2 =>
  K .ret [(8, t23)] ds h2
theorem F51.g4 {n0 : Nat} (w0 class1 number2 s3 : Value) {ds : List Nat} {h : H} {K : KP} : wA Try.prog n0 24 none F51.c4 [(0, w0), (1, class1), (2, number2), (3, s3)] ds h K = F51.t4 n0 w0 class1 number2 s3 ds h K := by kernel_rfl
theorem F51.s4 {n0 : Nat} : F51.p4 n0 = wA Try.prog n0 24 none F51.c4 := by kernel_rfl
theorem F51.e4 {n0 : Nat} {w0 class1 number2 s3 : Value} {ds : List Nat} {h : H} {K : KP} : F51.p4 n0 [(0, w0), (1, class1), (2, number2), (3, s3)] ds h K = F51.t4 n0 w0 class1 number2 s3 ds h K :=
  wchain (F51.s4) (F51.g4 w0 class1 number2 s3)
theorem F51.b : Try.f51.body = some F51.c0.erase := by kernel_rfl
theorem F51.b2 : (Try.f51.name == "runtime.NumGoroutine") = false := by kernel_rfl
theorem F51.b3 : Try.f51.ntmps = 24 := by kernel_rfl
theorem F51.b4 : Try.f51.results.toList = [.tmp 8] := by kernel_rfl
theorem F51.enter {n0 : Nat} {x0 x1 x2 x3 : Value} {h : H} {Q : Value → H → Prop} (w : F51.p0 n0 [(0, x0), (1, x1), (2, x2), (3, x3)] [] h (KFin Try.prog [.tmp 8] Q)) : Cn Try.prog n0 (.func 51) [x0, x1, x2, x3] h Q :=
  @fn_enter Try.prog n0 mixed 51 Try.f51 F51.c0 [x0, x1, x2, x3] h Q Try.func51 F51.b F51.k0 F51.b2 24 F51.b3 [.tmp 8] F51.b4 (by simp) [(0, x0), (1, x1), (2, x2), (3, x3)] rfl (wback F51.d0 w)

/-! roster.ber.tagged -/
noncomputable def F56.ac : AC := (ann (bodyOf Try.f56) [[0, 1], [4, 5]]).1
noncomputable def F56.c0 : AC := F56.ac
noncomputable def F56.p0 (n0 : Nat) : WP := wA Try.prog n0 27 none F56.c0
noncomputable def F56.t0 (n0 : Nat) (class0 number1 : Value) (ds : List Nat) (h : H) (K : KP) : Prop :=
  Bnd2 (cvt Try.prog 24 5 class0 h) fun t7 h1 =>
  Bnd (aBin Try.prog true .shl 5 t7 (.int .u64 6)) fun t8 =>
  Bnd (aBin Try.prog true .and 3 number1 (.int .i64 31)) fun t10 =>
  Bnd2 (cvt Try.prog 3 5 t10 h1) fun t11 h2 =>
  Bnd (aBin Try.prog false .or 5 t8 t11) fun t12 =>
  Bnd (aBin Try.prog true .geq 24 class0 (.int .i8 0)) fun t14 =>
  Gd t14
   (Bnd (aBin Try.prog true .leq 24 class0 (.int .i8 3)) fun t17 =>
  Gd t17
   (Bnd (aBin Try.prog true .geq 3 number1 (.int .i64 0)) fun t21 =>
  Gd t21
   (Bnd (aBin Try.prog true .lss 3 number1 (.int .i64 31)) fun t25 =>
  K .ret [(4, t12), (5, t25)] ds h2)
   (K .ret [(4, t12), (5, (.bool false))] ds h2))
   (K .ret [(4, t12), (5, (.bool false))] ds h2))
   (K .ret [(4, t12), (5, (.bool false))] ds h2)
theorem F56.g0 {n0 : Nat} (class0 number1 : Value) {ds : List Nat} {h : H} {K : KP} : wA Try.prog n0 27 none F56.c0 [(0, class0), (1, number1)] ds h K = F56.t0 n0 class0 number1 ds h K := by kernel_rfl
theorem F56.s0 {n0 : Nat} : F56.p0 n0 = wA Try.prog n0 27 none F56.c0 := by kernel_rfl
theorem F56.e0 {n0 : Nat} {class0 number1 : Value} {ds : List Nat} {h : H} {K : KP} : F56.p0 n0 [(0, class0), (1, number1)] ds h K = F56.t0 n0 class0 number1 ds h K :=
  wchain (F56.s0) (F56.g0 class0 number1)
theorem F56.k0 : F56.c0.ok = true := by kernel_rfl
theorem F56.d0 {n0 : Nat} : F56.p0 n0 = wA Try.prog n0 27 none F56.c0 := by kernel_rfl
theorem F56.m0 (n0 : Nat) : MonoW (F56.p0 n0) := @mono_c Try.prog n0 27 none F56.c0 (F56.p0 n0) (F56.d0) F56.k0
theorem F56.b : Try.f56.body = some F56.c0.erase := by kernel_rfl
theorem F56.b2 : (Try.f56.name == "runtime.NumGoroutine") = false := by kernel_rfl
theorem F56.b3 : Try.f56.ntmps = 27 := by kernel_rfl
theorem F56.b4 : Try.f56.results.toList = [.tmp 4, .tmp 5] := by kernel_rfl
theorem F56.enter {n0 : Nat} {x0 x1 : Value} {h : H} {Q : Value → H → Prop} (w : F56.p0 n0 [(0, x0), (1, x1)] [] h (KFin Try.prog [.tmp 4, .tmp 5] Q)) : Cn Try.prog n0 (.func 56) [x0, x1] h Q :=
  @fn_enter Try.prog n0 mixed 56 Try.f56 F56.c0 [x0, x1] h Q Try.func56 F56.b F56.k0 F56.b2 27 F56.b3 [.tmp 4, .tmp 5] F56.b4 (by simp) [(0, x0), (1, x1)] rfl (wback F56.d0 w)

/-! (*roster.ber.Writer).fits -/
noncomputable def F57.ac : AC := (ann (bodyOf Try.f57) [[0, 1], [0, 1], [0, 1, 5], [0, 1], [0, 1, 5], [0, 1, 5], [0, 1, 5, 13], [0, 1, 5], [0, 1, 5], [0, 1, 5], [0, 1, 5], [4]]).1
noncomputable def F57.c0 : AC := F57.ac
noncomputable def F57.c1 : AC := F57.ac.snd.fst.snd.fst.fst
noncomputable def F57.c2 : AC := F57.ac.snd.fst.snd.fst.fst.snd
noncomputable def F57.c3 : AC := F57.ac.snd.fst.snd.fst.fst.snd.snd
noncomputable def F57.c4 : AC := F57.ac.snd.snd
noncomputable def F57.p0 (n0 : Nat) : WP := wA Try.prog n0 40 none F57.c0
noncomputable def F57.p1 (n0 : Nat) : WP := wA Try.prog n0 40 none F57.c1
noncomputable def F57.p2 (n0 : Nat) : WP := wA Try.prog n0 40 none F57.c2
noncomputable def F57.p3 (n0 : Nat) : WP := wA Try.prog n0 40 none F57.c3
noncomputable def F57.p4 (n0 : Nat) : WP := wA Try.prog n0 40 none F57.c4
noncomputable def F57.t0 (n0 : Nat) (B1 : WP) (B4 : WP) (w0 more1 : Value) (ds : List Nat) (h : H) (K : KP) : Prop :=
  NilC w0 <|
  Bnd (aFieldAddr Try.prog 85 w0 1) fun t8 =>
  Bnd (aLoad Try.prog 83 t8 h) fun t9 =>
  Bnd2 (aBuiltin Try.prog .len #[83] [t9] h) fun t10 h1 =>
  Bnd (aBin Try.prog true .sub 3 t10 (.int .i64 1)) fun t11 =>
  Lp [0, 1, 5] B1 [(0, w0), (1, more1), (5, t11)] ds h1 (KBlk [0, 1] 0 (KSeq [0, 1] B4 K))
theorem F57.g0 {n0 : Nat} (B1 : WP) (B4 : WP) (w0 more1 : Value) {ds : List Nat} {h : H} {K : KP} : wA Try.prog n0 40 none (.seq [0, 1] F57.c0.fst (.seq [0, 1] (.seq [0, 1, 5] F57.c0.snd.fst.fst (.block [0, 1] 0 (.loop [0, 1, 5] (.sub B1)))) (.sub B4))) [(0, w0), (1, more1)] ds h K = F57.t0 n0 B1 B4 w0 more1 ds h K := by kernel_rfl
theorem F57.s0 {n0 : Nat} : F57.p0 n0 = wA Try.prog n0 40 none (.seq [0, 1] F57.c0.fst (.seq [0, 1] (.seq [0, 1, 5] F57.c0.snd.fst.fst (.block [0, 1] 0 (.loop [0, 1, 5] (.sub (F57.p1 n0))))) (.sub (F57.p4 n0)))) := by kernel_rfl
theorem F57.e0 {n0 : Nat} {w0 more1 : Value} {ds : List Nat} {h : H} {K : KP} : F57.p0 n0 [(0, w0), (1, more1)] ds h K = F57.t0 n0 (F57.p1 n0) (F57.p4 n0) w0 more1 ds h K :=
  wchain (F57.s0) (F57.g0 (F57.p1 n0) (F57.p4 n0) w0 more1)
theorem F57.k0 : F57.c0.ok = true := by kernel_rfl
theorem F57.d0 {n0 : Nat} : F57.p0 n0 = wA Try.prog n0 40 none F57.c0 := by kernel_rfl
theorem F57.m0 (n0 : Nat) : MonoW (F57.p0 n0) := @mono_c Try.prog n0 40 none F57.c0 (F57.p0 n0) (F57.d0) F57.k0
noncomputable def F57.t1 (n0 : Nat) (B2 : WP) (w0 more1 i5 : Value) (ds : List Nat) (h : H) (K : KP) : Prop :=
  Bnd (aBin Try.prog true .geq 3 i5 (.int .i64 0)) fun t13 =>
  Cnd t13
   (B2 [(0, w0), (1, more1), (5, i5)] ds h K)
   (K (.exit 0) [(0, w0), (1, more1), (5, i5)] ds h)
theorem F57.g1 {n0 : Nat} (B2 : WP) (w0 more1 i5 : Value) {ds : List Nat} {h : H} {K : KP} : wA Try.prog n0 40 none (.seq [0, 1, 5] F57.c1.fst (.sub B2)) [(0, w0), (1, more1), (5, i5)] ds h K = F57.t1 n0 B2 w0 more1 i5 ds h K := by kernel_rfl
theorem F57.s1 {n0 : Nat} : F57.p1 n0 = wA Try.prog n0 40 none (.seq [0, 1, 5] F57.c1.fst (.sub (F57.p2 n0))) := by kernel_rfl
theorem F57.e1 {n0 : Nat} {w0 more1 i5 : Value} {ds : List Nat} {h : H} {K : KP} : F57.p1 n0 [(0, w0), (1, more1), (5, i5)] ds h K = F57.t1 n0 (F57.p2 n0) w0 more1 i5 ds h K :=
  wchain (F57.s1) (F57.g1 (F57.p2 n0) w0 more1 i5)
theorem F57.k1 : F57.c1.ok = true := by kernel_rfl
theorem F57.d1 {n0 : Nat} : F57.p1 n0 = wA Try.prog n0 40 none F57.c1 := by kernel_rfl
theorem F57.m1 (n0 : Nat) : MonoW (F57.p1 n0) := @mono_c Try.prog n0 40 none F57.c1 (F57.p1 n0) (F57.d1) F57.k1
noncomputable def F57.t2 (n0 : Nat) (B3 : WP) (w0 more1 i5 : Value) (ds : List Nat) (h : H) (K : KP) : Prop :=
  NilC w0 <|
  Bnd (aFieldAddr Try.prog 85 w0 1) fun t19 =>
  Bnd (aLoad Try.prog 83 t19 h) fun t20 =>
  Bnd (aIndexAddr Try.prog 83 t20 i5) fun t22 =>
  Bnd (aFieldAddr Try.prog 108 t22 1) fun t23 =>
  Bnd (aLoad Try.prog 22 t23 h) fun t24 =>
  Bnd2 (aBuiltin Try.prog .len #[22] [t24] h) fun t25 h1 =>
  Bnd (aBin Try.prog false .add 3 more1 t25) fun t26 =>
  Cn Try.prog n0 (.func 60) [(.int .u8 0), t26] h1 fun t29 h2 =>
  Bnd2 (aBuiltin Try.prog .len #[22] [t29] h2) fun t30 h3 =>
  Bnd (aBin Try.prog false .add 3 t26 t30) fun t31 =>
  B3 [(0, w0), (1, t31), (5, i5)] ds h3 K
theorem F57.g2 {n0 : Nat} (B3 : WP) (w0 more1 i5 : Value) {ds : List Nat} {h : H} {K : KP} : wA Try.prog n0 40 none (.seq [0, 1, 5] F57.c2.fst (.sub B3)) [(0, w0), (1, more1), (5, i5)] ds h K = F57.t2 n0 B3 w0 more1 i5 ds h K := by kernel_rfl
theorem F57.s2 {n0 : Nat} : F57.p2 n0 = wA Try.prog n0 40 none (.seq [0, 1, 5] F57.c2.fst (.sub (F57.p3 n0))) := by kernel_rfl
theorem F57.e2 {n0 : Nat} {w0 more1 i5 : Value} {ds : List Nat} {h : H} {K : KP} : F57.p2 n0 [(0, w0), (1, more1), (5, i5)] ds h K = F57.t2 n0 (F57.p3 n0) w0 more1 i5 ds h K :=
  wchain (F57.s2) (F57.g2 (F57.p3 n0) w0 more1 i5)
noncomputable def F57.t3 (n0 : Nat) (w0 more1 i5 : Value) (ds : List Nat) (h : H) (K : KP) : Prop :=
  Bnd (aBin Try.prog true .sub 3 i5 (.int .i64 1)) fun t15 =>
  K .normal [(0, w0), (1, more1), (5, t15), (14, i5), (15, t15)] ds h
theorem F57.g3 {n0 : Nat} (w0 more1 i5 : Value) {ds : List Nat} {h : H} {K : KP} : wA Try.prog n0 40 none F57.c3 [(0, w0), (1, more1), (5, i5)] ds h K = F57.t3 n0 w0 more1 i5 ds h K := by kernel_rfl
theorem F57.s3 {n0 : Nat} : F57.p3 n0 = wA Try.prog n0 40 none F57.c3 := by kernel_rfl
theorem F57.e3 {n0 : Nat} {w0 more1 i5 : Value} {ds : List Nat} {h : H} {K : KP} : F57.p3 n0 [(0, w0), (1, more1), (5, i5)] ds h K = F57.t3 n0 w0 more1 i5 ds h K :=
  wchain (F57.s3) (F57.g3 w0 more1 i5)
noncomputable def F57.t4 (n0 : Nat) (w0 more1 : Value) (ds : List Nat) (h : H) (K : KP) : Prop :=
  NilC w0 <|
  Bnd (aFieldAddr Try.prog 85 w0 0) fun t35 =>
  Bnd (aLoad Try.prog 22 t35 h) fun t36 =>
  Bnd2 (aBuiltin Try.prog .len #[22] [t36] h) fun t37 h1 =>
  Bnd (aBin Try.prog false .add 3 more1 t37) fun t38 =>
  Bnd (aBin Try.prog true .leq 3 t38 (.int .i64 67108864)) fun t39 =>
  K .ret [(4, t39)] ds h1
theorem F57.g4 {n0 : Nat} (w0 more1 : Value) {ds : List Nat} {h : H} {K : KP} : wA Try.prog n0 40 none F57.c4 [(0, w0), (1, more1)] ds h K = F57.t4 n0 w0 more1 ds h K := by kernel_rfl
theorem F57.s4 {n0 : Nat} : F57.p4 n0 = wA Try.prog n0 40 none F57.c4 := by kernel_rfl
theorem F57.e4 {n0 : Nat} {w0 more1 : Value} {ds : List Nat} {h : H} {K : KP} : F57.p4 n0 [(0, w0), (1, more1)] ds h K = F57.t4 n0 w0 more1 ds h K :=
  wchain (F57.s4) (F57.g4 w0 more1)
theorem F57.b : Try.f57.body = some F57.c0.erase := by kernel_rfl
theorem F57.b2 : (Try.f57.name == "runtime.NumGoroutine") = false := by kernel_rfl
theorem F57.b3 : Try.f57.ntmps = 40 := by kernel_rfl
theorem F57.b4 : Try.f57.results.toList = [.tmp 4] := by kernel_rfl
theorem F57.enter {n0 : Nat} {x0 x1 : Value} {h : H} {Q : Value → H → Prop} (w : F57.p0 n0 [(0, x0), (1, x1)] [] h (KFin Try.prog [.tmp 4] Q)) : Cn Try.prog n0 (.func 57) [x0, x1] h Q :=
  @fn_enter Try.prog n0 mixed 57 Try.f57 F57.c0 [x0, x1] h Q Try.func57 F57.b F57.k0 F57.b2 40 F57.b3 [.tmp 4] F57.b4 (by simp) [(0, x0), (1, x1)] rfl (wback F57.d0 w)

/-! (*roster.ber.Writer).Text$1 -/
noncomputable def F58.ac : AC := (ann (bodyOf Try.f58) [[0], [1]]).1
noncomputable def F58.c0 : AC := F58.ac
noncomputable def F58.p0 (n0 : Nat) : WP := wA Try.prog n0 4 none F58.c0
noncomputable def F58.t0 (n0 : Nat) (t0 : Value) (ds : List Nat) (h : H) (K : KP) : Prop :=
  Bnd (aLoad Try.prog 9 t0 h) fun t2 =>
  Bnd2 (cvt Try.prog 9 22 t2 h) fun t3 h1 =>
  K .ret [(1, t3)] ds h1
theorem F58.g0 {n0 : Nat} (t0 : Value) {ds : List Nat} {h : H} {K : KP} : wA Try.prog n0 4 none F58.c0 [(0, t0)] ds h K = F58.t0 n0 t0 ds h K := by kernel_rfl
theorem F58.s0 {n0 : Nat} : F58.p0 n0 = wA Try.prog n0 4 none F58.c0 := by kernel_rfl
theorem F58.e0 {n0 : Nat} {t0 : Value} {ds : List Nat} {h : H} {K : KP} : F58.p0 n0 [(0, t0)] ds h K = F58.t0 n0 t0 ds h K :=
  wchain (F58.s0) (F58.g0 t0)
theorem F58.k0 : F58.c0.ok = true := by kernel_rfl
theorem F58.d0 {n0 : Nat} : F58.p0 n0 = wA Try.prog n0 4 none F58.c0 := by kernel_rfl
theorem F58.m0 (n0 : Nat) : MonoW (F58.p0 n0) := @mono_c Try.prog n0 4 none F58.c0 (F58.p0 n0) (F58.d0) F58.k0
theorem F58.b : Try.f58.body = some F58.c0.erase := by kernel_rfl
theorem F58.b2 : (Try.f58.name == "runtime.NumGoroutine") = false := by kernel_rfl
theorem F58.b3 : Try.f58.ntmps = 4 := by kernel_rfl
theorem F58.b4 : Try.f58.results.toList = [.tmp 1] := by kernel_rfl
theorem F58.enter {n0 : Nat} {x0 : Value} {h : H} {Q : Value → H → Prop} (w : F58.p0 n0 [(0, x0)] [] h (KFin Try.prog [.tmp 1] Q)) : Cn Try.prog n0 (.func 58) [x0] h Q :=
  @fn_enter Try.prog n0 mixed 58 Try.f58 F58.c0 [x0] h Q Try.func58 F58.b F58.k0 F58.b2 4 F58.b3 [.tmp 1] F58.b4 (by simp) [(0, x0)] rfl (wback F58.d0 w)

/-! (*roster.ber.Writer).lay -/
noncomputable def F59.ac : AC := (ann (bodyOf Try.f59) [[0, 1, 4], [1, 4], [0, 1, 4, 5], [0, 1, 4, 5, 17], [0, 1, 4, 5], [4, 26, 27, 28], [], [4, 26, 27, 28], [4, 26, 27, 28, 29], [4, 26, 27, 28], [4, 26, 27, 28], [4, 26, 27, 28], [4, 26, 27, 28], [4, 7, 26, 27, 28]]).1
noncomputable def F59.c0 : AC := F59.ac
noncomputable def F59.c1 : AC := F59.ac.snd.fst.snd.snd.fst
noncomputable def F59.c2 : AC := F59.ac.snd.snd
noncomputable def F59.c3 : AC := F59.ac.snd.snd.snd.fst.fst
noncomputable def F59.c4 : AC := F59.ac.snd.snd.snd.fst.fst.snd.snd
noncomputable def F59.c5 : AC := F59.ac.snd.snd.snd.fst.fst.snd.snd.snd
noncomputable def F59.p0 (n0 : Nat) : WP := wA Try.prog n0 40 none F59.c0
noncomputable def F59.p1 (n0 : Nat) : WP := wA Try.prog n0 40 none F59.c1
noncomputable def F59.p2 (n0 : Nat) : WP := wA Try.prog n0 40 none F59.c2
noncomputable def F59.p3 (n0 : Nat) : WP := wA Try.prog n0 40 none F59.c3
noncomputable def F59.p4 (n0 : Nat) : WP := wA Try.prog n0 40 none F59.c4
noncomputable def F59.p5 (n0 : Nat) : WP := wA Try.prog n0 40 none F59.c5
noncomputable def F59.t0 (n0 : Nat) (B1 : WP) (B2 : WP) (w0 b1 : Value) (ds : List Nat) (h : H) (K : KP) : Prop :=
  NilC w0 <|
  Bnd (aFieldAddr Try.prog 85 w0 0) fun t10 =>
  NilC w0 <|
  Bnd (aFieldAddr Try.prog 85 w0 1) fun t13 =>
  Bnd (aLoad Try.prog 83 t13 h) fun t14 =>
  Bnd2 (aBuiltin Try.prog .len #[83] [t14] h) fun t15 h1 =>
  Bnd (aBin Try.prog true .gtr 3 t15 (.int .i64 0)) fun t17 =>
  Cnd t17
   (B1 [(0, w0), (1, b1), (4, t10), (5, t15)] ds h1 (KSeq [1, 4] B2 K))
   (B2 [(1, b1), (4, t10)] ds h1 K)
theorem F59.g0 {n0 : Nat} (B1 : WP) (B2 : WP) (w0 b1 : Value) {ds : List Nat} {h : H} {K : KP} : wA Try.prog n0 40 none (.seq [0, 1, 4] F59.c0.fst (.seq [1, 4] (.seq [0, 1, 4, 5] F59.c0.snd.fst.fst (.seq [0, 1, 4, 5, 17] F59.c0.snd.fst.snd.fst (.cond [0, 1, 4, 5] (.tmp 17) (.sub B1) F59.c0.snd.fst.snd.snd.snd))) (.sub B2))) [(0, w0), (1, b1)] ds h K = F59.t0 n0 B1 B2 w0 b1 ds h K := by kernel_rfl
theorem F59.s0 {n0 : Nat} : F59.p0 n0 = wA Try.prog n0 40 none (.seq [0, 1, 4] F59.c0.fst (.seq [1, 4] (.seq [0, 1, 4, 5] F59.c0.snd.fst.fst (.seq [0, 1, 4, 5, 17] F59.c0.snd.fst.snd.fst (.cond [0, 1, 4, 5] (.tmp 17) (.sub (F59.p1 n0)) F59.c0.snd.fst.snd.snd.snd))) (.sub (F59.p2 n0)))) := by kernel_rfl
theorem F59.e0 {n0 : Nat} {w0 b1 : Value} {ds : List Nat} {h : H} {K : KP} : F59.p0 n0 [(0, w0), (1, b1)] ds h K = F59.t0 n0 (F59.p1 n0) (F59.p2 n0) w0 b1 ds h K :=
  wchain (F59.s0) (F59.g0 (F59.p1 n0) (F59.p2 n0) w0 b1)
theorem F59.k0 : F59.c0.ok = true := by kernel_rfl
theorem F59.d0 {n0 : Nat} : F59.p0 n0 = wA Try.prog n0 40 none F59.c0 := by kernel_rfl
theorem F59.m0 (n0 : Nat) : MonoW (F59.p0 n0) := @mono_c Try.prog n0 40 none F59.c0 (F59.p0 n0) (F59.d0) F59.k0
noncomputable def F59.t1 (n0 : Nat) (w0 b1 to4 k5 : Value) (ds : List Nat) (h : H) (K : KP) : Prop :=
  NilC w0 <|
  Bnd (aFieldAddr Try.prog 85 w0 1) fun t20 =>
  Bnd (aLoad Try.prog 83 t20 h) fun t21 =>
  Bnd (aBin Try.prog true .sub 3 k5 (.int .i64 1)) fun t23 =>
  Bnd (aIndexAddr Try.prog 83 t21 t23) fun t24 =>
  Bnd (aFieldAddr Try.prog 108 t24 1) fun t25 =>
  K .normal [(0, w0), (1, b1), (4, t25), (5, k5), (18, w0), (19, w0), (20, t20), (21, t21), (22, k5), (23, t23), (24, t24), (25, t25)] ds h
theorem F59.g1 {n0 : Nat} (w0 b1 to4 k5 : Value) {ds : List Nat} {h : H} {K : KP} : wA Try.prog n0 40 none F59.c1 [(0, w0), (1, b1), (4, to4), (5, k5)] ds h K = F59.t1 n0 w0 b1 to4 k5 ds h K := by kernel_rfl
theorem F59.s1 {n0 : Nat} : F59.p1 n0 = wA Try.prog n0 40 none F59.c1 := by kernel_rfl
theorem F59.e1 {n0 : Nat} {w0 b1 to4 k5 : Value} {ds : List Nat} {h : H} {K : KP} : F59.p1 n0 [(0, w0), (1, b1), (4, to4), (5, k5)] ds h K = F59.t1 n0 w0 b1 to4 k5 ds h K :=
  wchain (F59.s1) (F59.g1 w0 b1 to4 k5)
noncomputable def F59.t2 (n0 : Nat) (B3 : WP) (b1 to4 : Value) (ds : List Nat) (h : H) (K : KP) : Prop :=
  Bnd2 (aBuiltin Try.prog .len #[44] [b1] h) fun t27 h1 =>
  Lp [4, 26, 27, 28] B3 [(4, to4), (26, b1), (27, t27), (28, (.int .i64 0))] ds h1 (KBlk [] 0 K)
theorem F59.g2 {n0 : Nat} (B3 : WP) (b1 to4 : Value) {ds : List Nat} {h : H} {K : KP} : wA Try.prog n0 40 none (.seq [4, 26, 27, 28] F59.c2.fst (.block [] 0 (.loop [4, 26, 27, 28] (.sub B3)))) [(1, b1), (4, to4)] ds h K = F59.t2 n0 B3 b1 to4 ds h K := by kernel_rfl
theorem F59.s2 {n0 : Nat} : F59.p2 n0 = wA Try.prog n0 40 none (.seq [4, 26, 27, 28] F59.c2.fst (.block [] 0 (.loop [4, 26, 27, 28] (.sub (F59.p3 n0))))) := by kernel_rfl
theorem F59.e2 {n0 : Nat} {b1 to4 : Value} {ds : List Nat} {h : H} {K : KP} : F59.p2 n0 [(1, b1), (4, to4)] ds h K = F59.t2 n0 (F59.p3 n0) b1 to4 ds h K :=
  wchain (F59.s2) (F59.g2 (F59.p3 n0) b1 to4)
noncomputable def F59.t3 (n0 : Nat) (B4 : WP) (to4 t26 t27 t28 : Value) (ds : List Nat) (h : H) (K : KP) : Prop :=
  Bnd (aBin Try.prog false .lss 3 t28 t27) fun t29 =>
  Cnd t29
   (B4 [(4, to4), (26, t26), (27, t27), (28, t28)] ds h K)
   (K (.exit 0) [(4, to4), (26, t26), (27, t27), (28, t28)] ds h)
theorem F59.g3 {n0 : Nat} (B4 : WP) (to4 t26 t27 t28 : Value) {ds : List Nat} {h : H} {K : KP} : wA Try.prog n0 40 none (.seq [4, 26, 27, 28, 29] F59.c3.fst (.seq [4, 26, 27, 28] F59.c3.snd.fst (.sub B4))) [(4, to4), (26, t26), (27, t27), (28, t28)] ds h K = F59.t3 n0 B4 to4 t26 t27 t28 ds h K := by kernel_rfl
theorem F59.s3 {n0 : Nat} : F59.p3 n0 = wA Try.prog n0 40 none (.seq [4, 26, 27, 28, 29] F59.c3.fst (.seq [4, 26, 27, 28] F59.c3.snd.fst (.sub (F59.p4 n0)))) := by kernel_rfl
theorem F59.e3 {n0 : Nat} {to4 t26 t27 t28 : Value} {ds : List Nat} {h : H} {K : KP} : F59.p3 n0 [(4, to4), (26, t26), (27, t27), (28, t28)] ds h K = F59.t3 n0 (F59.p4 n0) to4 t26 t27 t28 ds h K :=
  wchain (F59.s3) (F59.g3 (F59.p4 n0) to4 t26 t27 t28)
theorem F59.k3 : F59.c3.ok = true := by kernel_rfl
theorem F59.d3 {n0 : Nat} : F59.p3 n0 = wA Try.prog n0 40 none F59.c3 := by kernel_rfl
theorem F59.m3 (n0 : Nat) : MonoW (F59.p3 n0) := @mono_c Try.prog n0 40 none F59.c3 (F59.p3 n0) (F59.d3) F59.k3
noncomputable def F59.t4 (n0 : Nat) (B5 : WP) (to4 t26 t27 t28 : Value) (ds : List Nat) (h : H) (K : KP) : Prop :=
  Bnd (aIndexAddr Try.prog 44 t26 t28) fun t30 =>
  Bnd (aLoad Try.prog 22 t30 h) fun t31 =>
  NilC to4 <|
  Bnd (aLoad Try.prog 22 to4 h) fun t35 =>
  Bnd2 (aBuiltin Try.prog .append #[22, 22] [t35, t31] h) fun t37 h1 =>
  NilC to4 <|
  Bnd (aStore Try.prog 22 to4 t37 h1) fun h2 =>
  B5 [(4, to4), (26, t26), (27, t27), (28, t28)] ds h2 K
theorem F59.g4 {n0 : Nat} (B5 : WP) (to4 t26 t27 t28 : Value) {ds : List Nat} {h : H} {K : KP} : wA Try.prog n0 40 none (.seq [4, 26, 27, 28] F59.c4.fst (.sub B5)) [(4, to4), (26, t26), (27, t27), (28, t28)] ds h K = F59.t4 n0 B5 to4 t26 t27 t28 ds h K := by kernel_rfl
theorem F59.s4 {n0 : Nat} : F59.p4 n0 = wA Try.prog n0 40 none (.seq [4, 26, 27, 28] F59.c4.fst (.sub (F59.p5 n0))) := by kernel_rfl
theorem F59.e4 {n0 : Nat} {to4 t26 t27 t28 : Value} {ds : List Nat} {h : H} {K : KP} : F59.p4 n0 [(4, to4), (26, t26), (27, t27), (28, t28)] ds h K = F59.t4 n0 (F59.p5 n0) to4 t26 t27 t28 ds h K :=
  wchain (F59.s4) (F59.g4 (F59.p5 n0) to4 t26 t27 t28)
noncomputable def F59.t5 (n0 : Nat) (to4 t26 t27 t28 : Value) (ds : List Nat) (h : H) (K : KP) : Prop :=
  Bnd (aBin Try.prog true .add 3 t28 (.int .i64 1)) fun t39 =>
  K .normal [(4, to4), (26, t26), (27, t27), (28, t39), (39, t39)] ds h
theorem F59.g5 {n0 : Nat} (to4 t26 t27 t28 : Value) {ds : List Nat} {h : H} {K : KP} : wA Try.prog n0 40 none F59.c5 [(4, to4), (26, t26), (27, t27), (28, t28)] ds h K = F59.t5 n0 to4 t26 t27 t28 ds h K := by kernel_rfl
theorem F59.s5 {n0 : Nat} : F59.p5 n0 = wA Try.prog n0 40 none F59.c5 := by kernel_rfl
theorem F59.e5 {n0 : Nat} {to4 t26 t27 t28 : Value} {ds : List Nat} {h : H} {K : KP} : F59.p5 n0 [(4, to4), (26, t26), (27, t27), (28, t28)] ds h K = F59.t5 n0 to4 t26 t27 t28 ds h K :=
  wchain (F59.s5) (F59.g5 to4 t26 t27 t28)
theorem F59.b : Try.f59.body = some F59.c0.erase := by kernel_rfl
theorem F59.b2 : (Try.f59.name == "runtime.NumGoroutine") = false := by kernel_rfl
theorem F59.b3 : Try.f59.ntmps = 40 := by kernel_rfl
theorem F59.b4 : Try.f59.results.toList = [] := by kernel_rfl
theorem F59.enter {n0 : Nat} {x0 x1 : Value} {h : H} {Q : Value → H → Prop} (w : F59.p0 n0 [(0, x0), (1, x1)] [] h (KFin Try.prog [] Q)) : Cn Try.prog n0 (.func 59) [x0, x1] h Q :=
  @fn_enter Try.prog n0 mixed 59 Try.f59 F59.c0 [x0, x1] h Q Try.func59 F59.b F59.k0 F59.b2 40 F59.b3 [] F59.b4 (by simp) [(0, x0), (1, x1)] rfl (wback F59.d0 w)

/-! roster.ber.head -/
noncomputable def F60.ac : AC := (ann (bodyOf Try.f60) [[0, 1], [0, 1], [0, 1, 8], [0, 1], [4], [0, 1, 5], [1, 5, 6], [6], [1, 5, 6], [6], [1, 5, 6], [1, 5, 6], [1, 5, 6, 26], [1, 5, 6], [1, 5, 6], [1, 5, 6], [4]]).1
noncomputable def F60.c0 : AC := F60.ac
noncomputable def F60.c1 : AC := F60.ac.snd.fst.snd.fst
noncomputable def F60.c2 : AC := F60.ac.snd.snd
noncomputable def F60.c3 : AC := F60.ac.snd.snd.snd.snd.fst.snd.fst.fst
noncomputable def F60.c4 : AC := F60.ac.snd.snd.snd.snd.fst.snd.fst.fst.snd
noncomputable def F60.c5 : AC := F60.ac.snd.snd.snd.snd.fst.snd.fst.fst.snd.snd
noncomputable def F60.c6 : AC := F60.ac.snd.snd.snd.snd.snd
noncomputable def F60.p0 (n0 : Nat) : WP := wA Try.prog n0 38 none F60.c0
noncomputable def F60.p1 (n0 : Nat) : WP := wA Try.prog n0 38 none F60.c1
noncomputable def F60.p2 (n0 : Nat) : WP := wA Try.prog n0 38 none F60.c2
noncomputable def F60.p3 (n0 : Nat) : WP := wA Try.prog n0 38 none F60.c3
noncomputable def F60.p4 (n0 : Nat) : WP := wA Try.prog n0 38 none F60.c4
noncomputable def F60.p5 (n0 : Nat) : WP := wA Try.prog n0 38 none F60.c5
noncomputable def F60.p6 (n0 : Nat) : WP := wA Try.prog n0 38 none F60.c6
noncomputable def F60.t0 (n0 : Nat) (B1 : WP) (B2 : WP) (tag0 n1 : Value) (ds : List Nat) (h : H) (K : KP) : Prop :=
  Bnd (aBin Try.prog true .lss 3 n1 (.int .i64 128)) fun t8 =>
  Cnd t8
   (B1 [(0, tag0), (1, n1)] ds h (KSeq [0, 1] B2 K))
   (B2 [(0, tag0), (1, n1)] ds h K)
theorem F60.g0 {n0 : Nat} (B1 : WP) (B2 : WP) (tag0 n1 : Value) {ds : List Nat} {h : H} {K : KP} : wA Try.prog n0 38 none (.seq [0, 1] F60.c0.fst (.seq [0, 1] (.seq [0, 1, 8] F60.c0.snd.fst.fst (.cond [0, 1] (.tmp 8) (.sub B1) F60.c0.snd.fst.snd.snd)) (.sub B2))) [(0, tag0), (1, n1)] ds h K = F60.t0 n0 B1 B2 tag0 n1 ds h K := by kernel_rfl
theorem F60.s0 {n0 : Nat} : F60.p0 n0 = wA Try.prog n0 38 none (.seq [0, 1] F60.c0.fst (.seq [0, 1] (.seq [0, 1, 8] F60.c0.snd.fst.fst (.cond [0, 1] (.tmp 8) (.sub (F60.p1 n0)) F60.c0.snd.fst.snd.snd)) (.sub (F60.p2 n0)))) := by kernel_rfl
theorem F60.e0 {n0 : Nat} {tag0 n1 : Value} {ds : List Nat} {h : H} {K : KP} : F60.p0 n0 [(0, tag0), (1, n1)] ds h K = F60.t0 n0 (F60.p1 n0) (F60.p2 n0) tag0 n1 ds h K :=
  wchain (F60.s0) (F60.g0 (F60.p1 n0) (F60.p2 n0) tag0 n1)
theorem F60.k0 : F60.c0.ok = true := by kernel_rfl
theorem F60.d0 {n0 : Nat} : F60.p0 n0 = wA Try.prog n0 38 none F60.c0 := by kernel_rfl
theorem F60.m0 (n0 : Nat) : MonoW (F60.p0 n0) := @mono_c Try.prog n0 38 none F60.c0 (F60.p0 n0) (F60.d0) F60.k0
noncomputable def F60.t1 (n0 : Nat) (tag0 n1 : Value) (ds : List Nat) (h : H) (K : KP) : Prop :=
  Bnd2 (cvt Try.prog 3 5 n1 h) fun t11 h1 =>
  Bnd2 (aBuildSlice Try.prog 22 2 [(0, tag0), (1, t11)] h1) fun t12 h2 =>
  K .ret [(4, t12)] ds h2
theorem F60.g1 {n0 : Nat} (tag0 n1 : Value) {ds : List Nat} {h : H} {K : KP} : wA Try.prog n0 38 none F60.c1 [(0, tag0), (1, n1)] ds h K = F60.t1 n0 tag0 n1 ds h K := by kernel_rfl
theorem F60.s1 {n0 : Nat} : F60.p1 n0 = wA Try.prog n0 38 none F60.c1 := by kernel_rfl
theorem F60.e1 {n0 : Nat} {tag0 n1 : Value} {ds : List Nat} {h : H} {K : KP} : F60.p1 n0 [(0, tag0), (1, n1)] ds h K = F60.t1 n0 tag0 n1 ds h K :=
  wchain (F60.s1) (F60.g1 tag0 n1)
noncomputable def F60.t2 (n0 : Nat) (B3 : WP) (B6 : WP) (tag0 n1 : Value) (ds : List Nat) (h : H) (K : KP) : Prop :=
  Bnd2 (cvt Try.prog 3 79 n1 h) fun t14 h1 =>
  Cn Try.prog n0 (.func 68) [t14] h1 fun t15 h2 =>
  Bnd (aBin Try.prog true .add 3 t15 (.int .i64 7)) fun t16 =>
  Bnd (aBin Try.prog true .quo 3 t16 (.int .i64 8)) fun t17 =>
  Bnd (aBin Try.prog true .add 3 (.int .i64 128) t17) fun t20 =>
  Bnd2 (cvt Try.prog 3 5 t20 h2) fun t21 h3 =>
  Bnd2 (aBuildSlice Try.prog 22 2 [(0, tag0), (1, t21)] h3) fun t22 h4 =>
  Bnd (aBin Try.prog true .sub 3 t17 (.int .i64 1)) fun t24 =>
  Lp [1, 5, 6] B3 [(1, n1), (5, t24), (6, t22)] ds h4 (KBlk [6] 0 (KSeq [6] B6 K))
theorem F60.g2 {n0 : Nat} (B3 : WP) (B6 : WP) (tag0 n1 : Value) {ds : List Nat} {h : H} {K : KP} : wA Try.prog n0 38 none (.seq [0, 1, 5] F60.c2.fst (.seq [1, 5, 6] F60.c2.snd.fst (.seq [6] (.seq [1, 5, 6] F60.c2.snd.snd.fst.fst (.block [6] 0 (.loop [1, 5, 6] (.sub B3)))) (.sub B6)))) [(0, tag0), (1, n1)] ds h K = F60.t2 n0 B3 B6 tag0 n1 ds h K := by kernel_rfl
theorem F60.s2 {n0 : Nat} : F60.p2 n0 = wA Try.prog n0 38 none (.seq [0, 1, 5] F60.c2.fst (.seq [1, 5, 6] F60.c2.snd.fst (.seq [6] (.seq [1, 5, 6] F60.c2.snd.snd.fst.fst (.block [6] 0 (.loop [1, 5, 6] (.sub (F60.p3 n0))))) (.sub (F60.p6 n0))))) := by kernel_rfl
theorem F60.e2 {n0 : Nat} {tag0 n1 : Value} {ds : List Nat} {h : H} {K : KP} : F60.p2 n0 [(0, tag0), (1, n1)] ds h K = F60.t2 n0 (F60.p3 n0) (F60.p6 n0) tag0 n1 ds h K :=
  wchain (F60.s2) (F60.g2 (F60.p3 n0) (F60.p6 n0) tag0 n1)
noncomputable def F60.t3 (n0 : Nat) (B4 : WP) (n1 k5 b6 : Value) (ds : List Nat) (h : H) (K : KP) : Prop :=
  Bnd (aBin Try.prog true .geq 3 k5 (.int .i64 0)) fun t26 =>
  Cnd t26
   (B4 [(1, n1), (5, k5), (6, b6)] ds h K)
   (K (.exit 0) [(1, n1), (5, k5), (6, b6)] ds h)
theorem F60.g3 {n0 : Nat} (B4 : WP) (n1 k5 b6 : Value) {ds : List Nat} {h : H} {K : KP} : wA Try.prog n0 38 none (.seq [1, 5, 6] F60.c3.fst (.sub B4)) [(1, n1), (5, k5), (6, b6)] ds h K = F60.t3 n0 B4 n1 k5 b6 ds h K := by kernel_rfl
theorem F60.s3 {n0 : Nat} : F60.p3 n0 = wA Try.prog n0 38 none (.seq [1, 5, 6] F60.c3.fst (.sub (F60.p4 n0))) := by kernel_rfl
theorem F60.e3 {n0 : Nat} {n1 k5 b6 : Value} {ds : List Nat} {h : H} {K : KP} : F60.p3 n0 [(1, n1), (5, k5), (6, b6)] ds h K = F60.t3 n0 (F60.p4 n0) n1 k5 b6 ds h K :=
  wchain (F60.s3) (F60.g3 (F60.p4 n0) n1 k5 b6)
theorem F60.k3 : F60.c3.ok = true := by kernel_rfl
theorem F60.d3 {n0 : Nat} : F60.p3 n0 = wA Try.prog n0 38 none F60.c3 := by kernel_rfl
theorem F60.m3 (n0 : Nat) : MonoW (F60.p3 n0) := @mono_c Try.prog n0 38 none F60.c3 (F60.p3 n0) (F60.d3) F60.k3
noncomputable def F60.t4 (n0 : Nat) (B5 : WP) (n1 k5 b6 : Value) (ds : List Nat) (h : H) (K : KP) : Prop :=
  Bnd (aBin Try.prog true .mul 3 (.int .i64 8) k5) fun t32 =>
  Bnd (aBin Try.prog false .shr 3 n1 t32) fun t33 =>
  Bnd2 (cvt Try.prog 3 5 t33 h) fun t34 h1 =>
  Bnd2 (aBuildSlice Try.prog 22 1 [(0, t34)] h1) fun t35 h2 =>
  Bnd2 (aBuiltin Try.prog .append #[22, 22] [b6, t35] h2) fun t36 h3 =>
  B5 [(1, n1), (5, k5), (6, t36)] ds h3 K
theorem F60.g4 {n0 : Nat} (B5 : WP) (n1 k5 b6 : Value) {ds : List Nat} {h : H} {K : KP} : wA Try.prog n0 38 none (.seq [1, 5, 6] F60.c4.fst (.sub B5)) [(1, n1), (5, k5), (6, b6)] ds h K = F60.t4 n0 B5 n1 k5 b6 ds h K := by kernel_rfl
theorem F60.s4 {n0 : Nat} : F60.p4 n0 = wA Try.prog n0 38 none (.seq [1, 5, 6] F60.c4.fst (.sub (F60.p5 n0))) := by kernel_rfl
theorem F60.e4 {n0 : Nat} {n1 k5 b6 : Value} {ds : List Nat} {h : H} {K : KP} : F60.p4 n0 [(1, n1), (5, k5), (6, b6)] ds h K = F60.t4 n0 (F60.p5 n0) n1 k5 b6 ds h K :=
  wchain (F60.s4) (F60.g4 (F60.p5 n0) n1 k5 b6)
noncomputable def F60.t5 (n0 : Nat) (n1 k5 b6 : Value) (ds : List Nat) (h : H) (K : KP) : Prop :=
  Bnd (aBin Try.prog true .sub 3 k5 (.int .i64 1)) fun t28 =>
  K .normal [(1, n1), (5, t28), (6, b6), (27, k5), (28, t28)] ds h
theorem F60.g5 {n0 : Nat} (n1 k5 b6 : Value) {ds : List Nat} {h : H} {K : KP} : wA Try.prog n0 38 none F60.c5 [(1, n1), (5, k5), (6, b6)] ds h K = F60.t5 n0 n1 k5 b6 ds h K := by kernel_rfl
theorem F60.s5 {n0 : Nat} : F60.p5 n0 = wA Try.prog n0 38 none F60.c5 := by kernel_rfl
theorem F60.e5 {n0 : Nat} {n1 k5 b6 : Value} {ds : List Nat} {h : H} {K : KP} : F60.p5 n0 [(1, n1), (5, k5), (6, b6)] ds h K = F60.t5 n0 n1 k5 b6 ds h K :=
  wchain (F60.s5) (F60.g5 n1 k5 b6)
noncomputable def F60.t6 (n0 : Nat) (b6 : Value) (ds : List Nat) (h : H) (K : KP) : Prop :=
  K .ret [(4, b6)] ds h
theorem F60.g6 {n0 : Nat} (b6 : Value) {ds : List Nat} {h : H} {K : KP} : wA Try.prog n0 38 none F60.c6 [(6, b6)] ds h K = F60.t6 n0 b6 ds h K := by kernel_rfl
theorem F60.s6 {n0 : Nat} : F60.p6 n0 = wA Try.prog n0 38 none F60.c6 := by kernel_rfl
theorem F60.e6 {n0 : Nat} {b6 : Value} {ds : List Nat} {h : H} {K : KP} : F60.p6 n0 [(6, b6)] ds h K = F60.t6 n0 b6 ds h K :=
  wchain (F60.s6) (F60.g6 b6)
theorem F60.b : Try.f60.body = some F60.c0.erase := by kernel_rfl
theorem F60.b2 : (Try.f60.name == "runtime.NumGoroutine") = false := by kernel_rfl
theorem F60.b3 : Try.f60.ntmps = 38 := by kernel_rfl
theorem F60.b4 : Try.f60.results.toList = [.tmp 4] := by kernel_rfl
theorem F60.enter {n0 : Nat} {x0 x1 : Value} {h : H} {Q : Value → H → Prop} (w : F60.p0 n0 [(0, x0), (1, x1)] [] h (KFin Try.prog [.tmp 4] Q)) : Cn Try.prog n0 (.func 60) [x0, x1] h Q :=
  @fn_enter Try.prog n0 mixed 60 Try.f60 F60.c0 [x0, x1] h Q Try.func60 F60.b F60.k0 F60.b2 38 F60.b3 [.tmp 4] F60.b4 (by simp) [(0, x0), (1, x1)] rfl (wback F60.d0 w)

/-! (*roster.ber.Writer).Flag$1 -/
noncomputable def F61.ac : AC := (ann (bodyOf Try.f61) [[0], [], [2], [], [1], [1]]).1
noncomputable def F61.c0 : AC := F61.ac
noncomputable def F61.c1 : AC := F61.ac.snd.fst.snd.fst
noncomputable def F61.c2 : AC := F61.ac.snd.snd
noncomputable def F61.p0 (n0 : Nat) : WP := wA Try.prog n0 5 none F61.c0
noncomputable def F61.p1 (n0 : Nat) : WP := wA Try.prog n0 5 none F61.c1
noncomputable def F61.p2 (n0 : Nat) : WP := wA Try.prog n0 5 none F61.c2
noncomputable def F61.t0 (n0 : Nat) (B1 : WP) (B2 : WP) (t0 : Value) (ds : List Nat) (h : H) (K : KP) : Prop :=
  Bnd (aLoad Try.prog 4 t0 h) fun t2 =>
  Cnd t2
   (B1 [] ds h (KSeq [] B2 K))
   (B2 [] ds h K)
theorem F61.g0 {n0 : Nat} (B1 : WP) (B2 : WP) (t0 : Value) {ds : List Nat} {h : H} {K : KP} : wA Try.prog n0 5 none (.seq [0] F61.c0.fst (.seq [] (.seq [2] F61.c0.snd.fst.fst (.cond [] (.tmp 2) (.sub B1) F61.c0.snd.fst.snd.snd)) (.sub B2))) [(0, t0)] ds h K = F61.t0 n0 B1 B2 t0 ds h K := by kernel_rfl
theorem F61.s0 {n0 : Nat} : F61.p0 n0 = wA Try.prog n0 5 none (.seq [0] F61.c0.fst (.seq [] (.seq [2] F61.c0.snd.fst.fst (.cond [] (.tmp 2) (.sub (F61.p1 n0)) F61.c0.snd.fst.snd.snd)) (.sub (F61.p2 n0)))) := by kernel_rfl
theorem F61.e0 {n0 : Nat} {t0 : Value} {ds : List Nat} {h : H} {K : KP} : F61.p0 n0 [(0, t0)] ds h K = F61.t0 n0 (F61.p1 n0) (F61.p2 n0) t0 ds h K :=
  wchain (F61.s0) (F61.g0 (F61.p1 n0) (F61.p2 n0) t0)
theorem F61.k0 : F61.c0.ok = true := by kernel_rfl
theorem F61.d0 {n0 : Nat} : F61.p0 n0 = wA Try.prog n0 5 none F61.c0 := by kernel_rfl
theorem F61.m0 (n0 : Nat) : MonoW (F61.p0 n0) := @mono_c Try.prog n0 5 none F61.c0 (F61.p0 n0) (F61.d0) F61.k0
noncomputable def F61.t1 (n0 : Nat) (ds : List Nat) (h : H) (K : KP) : Prop :=
  Bnd2 (aBuildSlice Try.prog 22 1 [(0, (.int .u8 255))] h) fun t3 h1 =>
  K .ret [(1, t3)] ds h1
theorem F61.g1 {n0 : Nat} {ds : List Nat} {h : H} {K : KP} : wA Try.prog n0 5 none F61.c1 [] ds h K = F61.t1 n0  ds h K := by kernel_rfl
theorem F61.s1 {n0 : Nat} : F61.p1 n0 = wA Try.prog n0 5 none F61.c1 := by kernel_rfl
theorem F61.e1 {n0 : Nat} {ds : List Nat} {h : H} {K : KP} : F61.p1 n0 [] ds h K = F61.t1 n0  ds h K :=
  wchain (F61.s1) (F61.g1)
noncomputable def F61.t2 (n0 : Nat) (ds : List Nat) (h : H) (K : KP) : Prop :=
  Bnd2 (aBuildSlice Try.prog 22 1 [(0, (.int .u8 0))] h) fun t4 h1 =>
  K .ret [(1, t4)] ds h1
theorem F61.g2 {n0 : Nat} {ds : List Nat} {h : H} {K : KP} : wA Try.prog n0 5 none F61.c2 [] ds h K = F61.t2 n0  ds h K := by kernel_rfl
theorem F61.s2 {n0 : Nat} : F61.p2 n0 = wA Try.prog n0 5 none F61.c2 := by kernel_rfl
theorem F61.e2 {n0 : Nat} {ds : List Nat} {h : H} {K : KP} : F61.p2 n0 [] ds h K = F61.t2 n0  ds h K :=
  wchain (F61.s2) (F61.g2)
theorem F61.b : Try.f61.body = some F61.c0.erase := by kernel_rfl
theorem F61.b2 : (Try.f61.name == "runtime.NumGoroutine") = false := by kernel_rfl
theorem F61.b3 : Try.f61.ntmps = 5 := by kernel_rfl
theorem F61.b4 : Try.f61.results.toList = [.tmp 1] := by kernel_rfl
theorem F61.enter {n0 : Nat} {x0 : Value} {h : H} {Q : Value → H → Prop} (w : F61.p0 n0 [(0, x0)] [] h (KFin Try.prog [.tmp 1] Q)) : Cn Try.prog n0 (.func 61) [x0] h Q :=
  @fn_enter Try.prog n0 mixed 61 Try.f61 F61.c0 [x0] h Q Try.func61 F61.b F61.k0 F61.b2 5 F61.b3 [.tmp 1] F61.b4 (by simp) [(0, x0)] rfl (wback F61.d0 w)

/-! roster.rosterref02.may -/
noncomputable def F62.ac : AC := (ann (bodyOf Try.f62) [[0, 1], [4]]).1
noncomputable def F62.c0 : AC := F62.ac
noncomputable def F62.p0 (n0 : Nat) : WP := wA Try.prog n0 19 none F62.c0
noncomputable def F62.t0 (n0 : Nat) (class0 number1 : Value) (ds : List Nat) (h : H) (K : KP) : Prop :=
  Bnd (aBin Try.prog true .geq 24 class0 (.int .i8 0)) fun t6 =>
  Gd t6
   (Bnd (aBin Try.prog true .leq 24 class0 (.int .i8 3)) fun t9 =>
  Gd t9
   (Bnd (aBin Try.prog true .geq 3 number1 (.int .i64 0)) fun t13 =>
  Gd t13
   (Bnd (aBin Try.prog true .leq 3 number1 (.int .i64 30)) fun t17 =>
  K .ret [(4, t17)] ds h)
   (K .ret [(4, (.bool false))] ds h))
   (K .ret [(4, (.bool false))] ds h))
   (K .ret [(4, (.bool false))] ds h)
theorem F62.g0 {n0 : Nat} (class0 number1 : Value) {ds : List Nat} {h : H} {K : KP} : wA Try.prog n0 19 none F62.c0 [(0, class0), (1, number1)] ds h K = F62.t0 n0 class0 number1 ds h K := by kernel_rfl
theorem F62.s0 {n0 : Nat} : F62.p0 n0 = wA Try.prog n0 19 none F62.c0 := by kernel_rfl
theorem F62.e0 {n0 : Nat} {class0 number1 : Value} {ds : List Nat} {h : H} {K : KP} : F62.p0 n0 [(0, class0), (1, number1)] ds h K = F62.t0 n0 class0 number1 ds h K :=
  wchain (F62.s0) (F62.g0 class0 number1)
theorem F62.k0 : F62.c0.ok = true := by kernel_rfl
theorem F62.d0 {n0 : Nat} : F62.p0 n0 = wA Try.prog n0 19 none F62.c0 := by kernel_rfl
theorem F62.m0 (n0 : Nat) : MonoW (F62.p0 n0) := @mono_c Try.prog n0 19 none F62.c0 (F62.p0 n0) (F62.d0) F62.k0
theorem F62.b : Try.f62.body = some F62.c0.erase := by kernel_rfl
theorem F62.b2 : (Try.f62.name == "runtime.NumGoroutine") = false := by kernel_rfl
theorem F62.b3 : Try.f62.ntmps = 19 := by kernel_rfl
theorem F62.b4 : Try.f62.results.toList = [.tmp 4] := by kernel_rfl
theorem F62.enter {n0 : Nat} {x0 x1 : Value} {h : H} {Q : Value → H → Prop} (w : F62.p0 n0 [(0, x0), (1, x1)] [] h (KFin Try.prog [.tmp 4] Q)) : Cn Try.prog n0 (.func 62) [x0, x1] h Q :=
  @fn_enter Try.prog n0 mixed 62 Try.f62 F62.c0 [x0, x1] h Q Try.func62 F62.b F62.k0 F62.b2 19 F62.b3 [.tmp 4] F62.b4 (by simp) [(0, x0), (1, x1)] rfl (wback F62.d0 w)

/-! (*roster.rosterref02.Writer).size -/
noncomputable def F63.ac : AC := (ann (bodyOf Try.f63) [[0, 1], [0, 5], [0, 5], [0, 5, 6], [0, 5], [0, 5, 6], [0, 5, 6], [0, 5, 6, 15], [0, 5, 6], [0, 5, 6], [0, 5, 6], [0, 5, 6], [4]]).1
noncomputable def F63.c0 : AC := F63.ac
noncomputable def F63.c1 : AC := F63.ac.snd.snd.fst.snd.fst.fst
noncomputable def F63.c2 : AC := F63.ac.snd.snd.fst.snd.fst.fst.snd
noncomputable def F63.c3 : AC := F63.ac.snd.snd.fst.snd.fst.fst.snd.snd
noncomputable def F63.c4 : AC := F63.ac.snd.snd.snd
noncomputable def F63.p0 (n0 : Nat) : WP := wA Try.prog n0 44 none F63.c0
noncomputable def F63.p1 (n0 : Nat) : WP := wA Try.prog n0 44 none F63.c1
noncomputable def F63.p2 (n0 : Nat) : WP := wA Try.prog n0 44 none F63.c2
noncomputable def F63.p3 (n0 : Nat) : WP := wA Try.prog n0 44 none F63.c3
noncomputable def F63.p4 (n0 : Nat) : WP := wA Try.prog n0 44 none F63.c4
noncomputable def F63.t0 (n0 : Nat) (B1 : WP) (B4 : WP) (w0 more1 : Value) (ds : List Nat) (h : H) (K : KP) : Prop :=
  NilC w0 <|
  Bnd (aFieldAddr Try.prog 91 w0 0) fun t10 =>
  Bnd (aLoad Try.prog 89 t10 h) fun t11 =>
  Bnd2 (aBuiltin Try.prog .len #[89] [t11] h) fun t12 h1 =>
  Bnd (aBin Try.prog true .sub 3 t12 (.int .i64 1)) fun t13 =>
  Lp [0, 5, 6] B1 [(0, w0), (5, more1), (6, t13)] ds h1 (KBlk [0, 5] 0 (KSeq [0, 5] B4 K))
theorem F63.g0 {n0 : Nat} (B1 : WP) (B4 : WP) (w0 more1 : Value) {ds : List Nat} {h : H} {K : KP} : wA Try.prog n0 44 none (.seq [0, 1] F63.c0.fst (.seq [0, 5] F63.c0.snd.fst (.seq [0, 5] (.seq [0, 5, 6] F63.c0.snd.snd.fst.fst (.block [0, 5] 0 (.loop [0, 5, 6] (.sub B1)))) (.sub B4)))) [(0, w0), (1, more1)] ds h K = F63.t0 n0 B1 B4 w0 more1 ds h K := by kernel_rfl
theorem F63.s0 {n0 : Nat} : F63.p0 n0 = wA Try.prog n0 44 none (.seq [0, 1] F63.c0.fst (.seq [0, 5] F63.c0.snd.fst (.seq [0, 5] (.seq [0, 5, 6] F63.c0.snd.snd.fst.fst (.block [0, 5] 0 (.loop [0, 5, 6] (.sub (F63.p1 n0))))) (.sub (F63.p4 n0))))) := by kernel_rfl
theorem F63.e0 {n0 : Nat} {w0 more1 : Value} {ds : List Nat} {h : H} {K : KP} : F63.p0 n0 [(0, w0), (1, more1)] ds h K = F63.t0 n0 (F63.p1 n0) (F63.p4 n0) w0 more1 ds h K :=
  wchain (F63.s0) (F63.g0 (F63.p1 n0) (F63.p4 n0) w0 more1)
theorem F63.k0 : F63.c0.ok = true := by kernel_rfl
theorem F63.d0 {n0 : Nat} : F63.p0 n0 = wA Try.prog n0 44 none F63.c0 := by kernel_rfl
theorem F63.m0 (n0 : Nat) : MonoW (F63.p0 n0) := @mono_c Try.prog n0 44 none F63.c0 (F63.p0 n0) (F63.d0) F63.k0
noncomputable def F63.t1 (n0 : Nat) (B2 : WP) (w0 n5 i6 : Value) (ds : List Nat) (h : H) (K : KP) : Prop :=
  Bnd (aBin Try.prog true .gtr 3 i6 (.int .i64 0)) fun t15 =>
  Cnd t15
   (B2 [(0, w0), (5, n5), (6, i6)] ds h K)
   (K (.exit 0) [(0, w0), (5, n5), (6, i6)] ds h)
theorem F63.g1 {n0 : Nat} (B2 : WP) (w0 n5 i6 : Value) {ds : List Nat} {h : H} {K : KP} : wA Try.prog n0 44 none (.seq [0, 5, 6] F63.c1.fst (.sub B2)) [(0, w0), (5, n5), (6, i6)] ds h K = F63.t1 n0 B2 w0 n5 i6 ds h K := by kernel_rfl
theorem F63.s1 {n0 : Nat} : F63.p1 n0 = wA Try.prog n0 44 none (.seq [0, 5, 6] F63.c1.fst (.sub (F63.p2 n0))) := by kernel_rfl
theorem F63.e1 {n0 : Nat} {w0 n5 i6 : Value} {ds : List Nat} {h : H} {K : KP} : F63.p1 n0 [(0, w0), (5, n5), (6, i6)] ds h K = F63.t1 n0 (F63.p2 n0) w0 n5 i6 ds h K :=
  wchain (F63.s1) (F63.g1 (F63.p2 n0) w0 n5 i6)
theorem F63.k1 : F63.c1.ok = true := by kernel_rfl
theorem F63.d1 {n0 : Nat} : F63.p1 n0 = wA Try.prog n0 44 none F63.c1 := by kernel_rfl
theorem F63.m1 (n0 : Nat) : MonoW (F63.p1 n0) := @mono_c Try.prog n0 44 none F63.c1 (F63.p1 n0) (F63.d1) F63.k1
noncomputable def F63.t2 (n0 : Nat) (B3 : WP) (w0 n5 i6 : Value) (ds : List Nat) (h : H) (K : KP) : Prop :=
  NilC w0 <|
  Bnd (aFieldAddr Try.prog 91 w0 0) fun t21 =>
  Bnd (aLoad Try.prog 89 t21 h) fun t22 =>
  Bnd (aIndexAddr Try.prog 89 t22 i6) fun t24 =>
  Bnd (aFieldAddr Try.prog 94 t24 2) fun t25 =>
  Bnd (aLoad Try.prog 22 t25 h) fun t26 =>
  Bnd2 (aBuiltin Try.prog .len #[22] [t26] h) fun t27 h1 =>
  Bnd (aBin Try.prog false .add 3 n5 t27) fun t28 =>
  Cn Try.prog n0 (.func 64) [(.int .i8 0), (.bool true), (.int .i64 0), t28] h1 fun t31 h2 =>
  Bnd2 (aBuiltin Try.prog .len #[22] [t31] h2) fun t32 h3 =>
  Bnd (aBin Try.prog false .add 3 t28 t32) fun t33 =>
  B3 [(0, w0), (5, t33), (6, i6)] ds h3 K
theorem F63.g2 {n0 : Nat} (B3 : WP) (w0 n5 i6 : Value) {ds : List Nat} {h : H} {K : KP} : wA Try.prog n0 44 none (.seq [0, 5, 6] F63.c2.fst (.sub B3)) [(0, w0), (5, n5), (6, i6)] ds h K = F63.t2 n0 B3 w0 n5 i6 ds h K := by kernel_rfl
theorem F63.s2 {n0 : Nat} : F63.p2 n0 = wA Try.prog n0 44 none (.seq [0, 5, 6] F63.c2.fst (.sub (F63.p3 n0))) := by kernel_rfl
theorem F63.e2 {n0 : Nat} {w0 n5 i6 : Value} {ds : List Nat} {h : H} {K : KP} : F63.p2 n0 [(0, w0), (5, n5), (6, i6)] ds h K = F63.t2 n0 (F63.p3 n0) w0 n5 i6 ds h K :=
  wchain (F63.s2) (F63.g2 (F63.p3 n0) w0 n5 i6)
noncomputable def F63.t3 (n0 : Nat) (w0 n5 i6 : Value) (ds : List Nat) (h : H) (K : KP) : Prop :=
  Bnd (aBin Try.prog true .sub 3 i6 (.int .i64 1)) fun t17 =>
  K .normal [(0, w0), (5, n5), (6, t17), (16, i6), (17, t17)] ds h
theorem F63.g3 {n0 : Nat} (w0 n5 i6 : Value) {ds : List Nat} {h : H} {K : KP} : wA Try.prog n0 44 none F63.c3 [(0, w0), (5, n5), (6, i6)] ds h K = F63.t3 n0 w0 n5 i6 ds h K := by kernel_rfl
theorem F63.s3 {n0 : Nat} : F63.p3 n0 = wA Try.prog n0 44 none F63.c3 := by kernel_rfl
theorem F63.e3 {n0 : Nat} {w0 n5 i6 : Value} {ds : List Nat} {h : H} {K : KP} : F63.p3 n0 [(0, w0), (5, n5), (6, i6)] ds h K = F63.t3 n0 w0 n5 i6 ds h K :=
  wchain (F63.s3) (F63.g3 w0 n5 i6)
noncomputable def F63.t4 (n0 : Nat) (w0 n5 : Value) (ds : List Nat) (h : H) (K : KP) : Prop :=
  NilC w0 <|
  Bnd (aFieldAddr Try.prog 91 w0 0) fun t37 =>
  Bnd (aLoad Try.prog 89 t37 h) fun t38 =>
  Bnd (aIndexAddr Try.prog 89 t38 (.int .i64 0)) fun t39 =>
  Bnd (aFieldAddr Try.prog 94 t39 2) fun t40 =>
  Bnd (aLoad Try.prog 22 t40 h) fun t41 =>
  Bnd2 (aBuiltin Try.prog .len #[22] [t41] h) fun t42 h1 =>
  Bnd (aBin Try.prog false .add 3 n5 t42) fun t43 =>
  K .ret [(4, t43)] ds h1
theorem F63.g4 {n0 : Nat} (w0 n5 : Value) {ds : List Nat} {h : H} {K : KP} : wA Try.prog n0 44 none F63.c4 [(0, w0), (5, n5)] ds h K = F63.t4 n0 w0 n5 ds h K := by kernel_rfl
theorem F63.s4 {n0 : Nat} : F63.p4 n0 = wA Try.prog n0 44 none F63.c4 := by kernel_rfl
theorem F63.e4 {n0 : Nat} {w0 n5 : Value} {ds : List Nat} {h : H} {K : KP} : F63.p4 n0 [(0, w0), (5, n5)] ds h K = F63.t4 n0 w0 n5 ds h K :=
  wchain (F63.s4) (F63.g4 w0 n5)
theorem F63.b : Try.f63.body = some F63.c0.erase := by kernel_rfl
theorem F63.b2 : (Try.f63.name == "runtime.NumGoroutine") = false := by kernel_rfl
theorem F63.b3 : Try.f63.ntmps = 44 := by kernel_rfl
theorem F63.b4 : Try.f63.results.toList = [.tmp 4] := by kernel_rfl
theorem F63.enter {n0 : Nat} {x0 x1 : Value} {h : H} {Q : Value → H → Prop} (w : F63.p0 n0 [(0, x0), (1, x1)] [] h (KFin Try.prog [.tmp 4] Q)) : Cn Try.prog n0 (.func 63) [x0, x1] h Q :=
  @fn_enter Try.prog n0 mixed 63 Try.f63 F63.c0 [x0, x1] h Q Try.func63 F63.b F63.k0 F63.b2 44 F63.b3 [.tmp 4] F63.b4 (by simp) [(0, x0), (1, x1)] rfl (wback F63.d0 w)

/-! roster.rosterref02.Header -/
noncomputable def F64.ac : AC := (ann (bodyOf Try.f64) [[0, 1, 2, 3], [1, 3, 9], [3, 9], [3, 9, 18], [3, 9], [3, 10], [3, 10], [3, 10, 25], [3, 10], [8], [3, 10, 11], [10, 11], [10, 11], [3, 10, 11], [3, 10, 11], [3, 10, 11, 32], [3, 10, 11], [3, 10, 11], [3, 10, 11, 12], [3, 10, 11], [10, 11], [8]]).1
noncomputable def F64.c0 : AC := F64.ac
noncomputable def F64.c1 : AC := F64.ac.snd.snd.fst.snd.fst
noncomputable def F64.c2 : AC := F64.ac.snd.snd.snd
noncomputable def F64.c3 : AC := F64.ac.snd.snd.snd.snd.fst.snd.fst
noncomputable def F64.c4 : AC := F64.ac.snd.snd.snd.snd.snd
noncomputable def F64.c5 : AC := F64.ac.snd.snd.snd.snd.snd.snd.fst.fst.fst
noncomputable def F64.c6 : AC := F64.ac.snd.snd.snd.snd.snd.snd.fst.fst.fst.snd
noncomputable def F64.c7 : AC := F64.ac.snd.snd.snd.snd.snd.snd.snd
noncomputable def F64.p0 (n0 : Nat) : WP := wA Try.prog n0 52 none F64.c0
noncomputable def F64.p1 (n0 : Nat) : WP := wA Try.prog n0 52 none F64.c1
noncomputable def F64.p2 (n0 : Nat) : WP := wA Try.prog n0 52 none F64.c2
noncomputable def F64.p3 (n0 : Nat) : WP := wA Try.prog n0 52 none F64.c3
noncomputable def F64.p4 (n0 : Nat) : WP := wA Try.prog n0 52 none F64.c4
noncomputable def F64.p5 (n0 : Nat) : WP := wA Try.prog n0 52 none F64.c5
noncomputable def F64.p6 (n0 : Nat) : WP := wA Try.prog n0 52 none F64.c6
noncomputable def F64.p7 (n0 : Nat) : WP := wA Try.prog n0 52 none F64.c7
noncomputable def F64.t0 (n0 : Nat) (B1 : WP) (B2 : WP) (class0 made1 number2 n3 : Value) (ds : List Nat) (h : H) (K : KP) : Prop :=
  Bnd2 (cvt Try.prog 24 3 class0 h) fun t14 h1 =>
  Bnd (aBin Try.prog true .mul 3 (.int .i64 64) t14) fun t15 =>
  Bnd (aBin Try.prog false .add 3 t15 number2) fun t17 =>
  Cnd made1
   (B1 [(3, n3), (9, t17)] ds h1 (KSeq [3, 9] B2 K))
   (B2 [(3, n3), (9, t17)] ds h1 K)
theorem F64.g0 {n0 : Nat} (B1 : WP) (B2 : WP) (class0 made1 number2 n3 : Value) {ds : List Nat} {h : H} {K : KP} : wA Try.prog n0 52 none (.seq [0, 1, 2, 3] F64.c0.fst (.seq [1, 3, 9] F64.c0.snd.fst (.seq [3, 9] (.seq [3, 9, 18] F64.c0.snd.snd.fst.fst (.cond [3, 9] (.tmp 18) (.sub B1) F64.c0.snd.snd.fst.snd.snd)) (.sub B2)))) [(0, class0), (1, made1), (2, number2), (3, n3)] ds h K = F64.t0 n0 B1 B2 class0 made1 number2 n3 ds h K := by kernel_rfl
theorem F64.s0 {n0 : Nat} : F64.p0 n0 = wA Try.prog n0 52 none (.seq [0, 1, 2, 3] F64.c0.fst (.seq [1, 3, 9] F64.c0.snd.fst (.seq [3, 9] (.seq [3, 9, 18] F64.c0.snd.snd.fst.fst (.cond [3, 9] (.tmp 18) (.sub (F64.p1 n0)) F64.c0.snd.snd.fst.snd.snd)) (.sub (F64.p2 n0))))) := by kernel_rfl
theorem F64.e0 {n0 : Nat} {class0 made1 number2 n3 : Value} {ds : List Nat} {h : H} {K : KP} : F64.p0 n0 [(0, class0), (1, made1), (2, number2), (3, n3)] ds h K = F64.t0 n0 (F64.p1 n0) (F64.p2 n0) class0 made1 number2 n3 ds h K :=
  wchain (F64.s0) (F64.g0 (F64.p1 n0) (F64.p2 n0) class0 made1 number2 n3)
theorem F64.k0 : F64.c0.ok = true := by kernel_rfl
theorem F64.d0 {n0 : Nat} : F64.p0 n0 = wA Try.prog n0 52 none F64.c0 := by kernel_rfl
theorem F64.m0 (n0 : Nat) : MonoW (F64.p0 n0) := @mono_c Try.prog n0 52 none F64.c0 (F64.p0 n0) (F64.d0) F64.k0
noncomputable def F64.t1 (n0 : Nat) (n3 tag9 : Value) (ds : List Nat) (h : H) (K : KP) : Prop :=
  Bnd (aBin Try.prog true .add 3 tag9 (.int .i64 32)) fun t20 =>
  K .normal [(3, n3), (9, t20), (19, tag9), (20, t20)] ds h
theorem F64.g1 {n0 : Nat} (n3 tag9 : Value) {ds : List Nat} {h : H} {K : KP} : wA Try.prog n0 52 none F64.c1 [(3, n3), (9, tag9)] ds h K = F64.t1 n0 n3 tag9 ds h K := by kernel_rfl
theorem F64.s1 {n0 : Nat} : F64.p1 n0 = wA Try.prog n0 52 none F64.c1 := by kernel_rfl
theorem F64.e1 {n0 : Nat} {n3 tag9 : Value} {ds : List Nat} {h : H} {K : KP} : F64.p1 n0 [(3, n3), (9, tag9)] ds h K = F64.t1 n0 n3 tag9 ds h K :=
  wchain (F64.s1) (F64.g1 n3 tag9)
noncomputable def F64.t2 (n0 : Nat) (B3 : WP) (B4 : WP) (n3 tag9 : Value) (ds : List Nat) (h : H) (K : KP) : Prop :=
  Bnd2 (cvt Try.prog 3 5 tag9 h) fun t22 h1 =>
  Bnd2 (aBuildSlice Try.prog 22 1 [(0, t22)] h1) fun t23 h2 =>
  Bnd (aBin Try.prog true .lss 3 n3 (.int .i64 128)) fun t25 =>
  Cnd t25
   (B3 [(3, n3), (10, t23)] ds h2 (KSeq [3, 10] B4 K))
   (B4 [(3, n3), (10, t23)] ds h2 K)
theorem F64.g2 {n0 : Nat} (B3 : WP) (B4 : WP) (n3 tag9 : Value) {ds : List Nat} {h : H} {K : KP} : wA Try.prog n0 52 none (.seq [3, 10] F64.c2.fst (.seq [3, 10] (.seq [3, 10, 25] F64.c2.snd.fst.fst (.cond [3, 10] (.tmp 25) (.sub B3) F64.c2.snd.fst.snd.snd)) (.sub B4))) [(3, n3), (9, tag9)] ds h K = F64.t2 n0 B3 B4 n3 tag9 ds h K := by kernel_rfl
theorem F64.s2 {n0 : Nat} : F64.p2 n0 = wA Try.prog n0 52 none (.seq [3, 10] F64.c2.fst (.seq [3, 10] (.seq [3, 10, 25] F64.c2.snd.fst.fst (.cond [3, 10] (.tmp 25) (.sub (F64.p3 n0)) F64.c2.snd.fst.snd.snd)) (.sub (F64.p4 n0)))) := by kernel_rfl
theorem F64.e2 {n0 : Nat} {n3 tag9 : Value} {ds : List Nat} {h : H} {K : KP} : F64.p2 n0 [(3, n3), (9, tag9)] ds h K = F64.t2 n0 (F64.p3 n0) (F64.p4 n0) n3 tag9 ds h K :=
  wchain (F64.s2) (F64.g2 (F64.p3 n0) (F64.p4 n0) n3 tag9)
noncomputable def F64.t3 (n0 : Nat) (n3 out10 : Value) (ds : List Nat) (h : H) (K : KP) : Prop :=
  Bnd2 (cvt Try.prog 3 5 n3 h) fun t28 h1 =>
  Bnd2 (aBuildSlice Try.prog 22 1 [(0, t28)] h1) fun t29 h2 =>
  Bnd2 (aBuiltin Try.prog .append #[22, 22] [out10, t29] h2) fun t30 h3 =>
  K .ret [(8, t30)] ds h3
theorem F64.g3 {n0 : Nat} (n3 out10 : Value) {ds : List Nat} {h : H} {K : KP} : wA Try.prog n0 52 none F64.c3 [(3, n3), (10, out10)] ds h K = F64.t3 n0 n3 out10 ds h K := by kernel_rfl
theorem F64.s3 {n0 : Nat} : F64.p3 n0 = wA Try.prog n0 52 none F64.c3 := by kernel_rfl
theorem F64.e3 {n0 : Nat} {n3 out10 : Value} {ds : List Nat} {h : H} {K : KP} : F64.p3 n0 [(3, n3), (10, out10)] ds h K = F64.t3 n0 n3 out10 ds h K :=
  wchain (F64.s3) (F64.g3 n3 out10)
noncomputable def F64.t4 (n0 : Nat) (B5 : WP) (B7 : WP) (n3 out10 : Value) (ds : List Nat) (h : H) (K : KP) : Prop :=
  Lp [3, 10, 11] B5 [(3, n3), (10, out10), (11, (.slice none 0 0))] ds h (KBlk [10, 11] 0 (KSeq [10, 11] B7 K))
theorem F64.g4 {n0 : Nat} (B5 : WP) (B7 : WP) (n3 out10 : Value) {ds : List Nat} {h : H} {K : KP} : wA Try.prog n0 52 none (.seq [3, 10, 11] F64.c4.fst (.seq [10, 11] (.block [10, 11] 0 (.loop [3, 10, 11] (.sub B5))) (.sub B7))) [(3, n3), (10, out10)] ds h K = F64.t4 n0 B5 B7 n3 out10 ds h K := by kernel_rfl
theorem F64.s4 {n0 : Nat} : F64.p4 n0 = wA Try.prog n0 52 none (.seq [3, 10, 11] F64.c4.fst (.seq [10, 11] (.block [10, 11] 0 (.loop [3, 10, 11] (.sub (F64.p5 n0)))) (.sub (F64.p7 n0)))) := by kernel_rfl
theorem F64.e4 {n0 : Nat} {n3 out10 : Value} {ds : List Nat} {h : H} {K : KP} : F64.p4 n0 [(3, n3), (10, out10)] ds h K = F64.t4 n0 (F64.p5 n0) (F64.p7 n0) n3 out10 ds h K :=
  wchain (F64.s4) (F64.g4 (F64.p5 n0) (F64.p7 n0) n3 out10)
noncomputable def F64.t5 (n0 : Nat) (B6 : WP) (n3 out10 l11 : Value) (ds : List Nat) (h : H) (K : KP) : Prop :=
  Bnd (aBin Try.prog true .gtr 3 n3 (.int .i64 0)) fun t32 =>
  Cnd t32
   (B6 [(3, n3), (10, out10), (11, l11)] ds h K)
   (K (.exit 0) [(3, n3), (10, out10), (11, l11)] ds h)
theorem F64.g5 {n0 : Nat} (B6 : WP) (n3 out10 l11 : Value) {ds : List Nat} {h : H} {K : KP} : wA Try.prog n0 52 none (.seq [3, 10, 11] F64.c5.fst (.sub B6)) [(3, n3), (10, out10), (11, l11)] ds h K = F64.t5 n0 B6 n3 out10 l11 ds h K := by kernel_rfl
theorem F64.s5 {n0 : Nat} : F64.p5 n0 = wA Try.prog n0 52 none (.seq [3, 10, 11] F64.c5.fst (.sub (F64.p6 n0))) := by kernel_rfl
theorem F64.e5 {n0 : Nat} {n3 out10 l11 : Value} {ds : List Nat} {h : H} {K : KP} : F64.p5 n0 [(3, n3), (10, out10), (11, l11)] ds h K = F64.t5 n0 (F64.p6 n0) n3 out10 l11 ds h K :=
  wchain (F64.s5) (F64.g5 (F64.p6 n0) n3 out10 l11)
theorem F64.k5 : F64.c5.ok = true := by kernel_rfl
theorem F64.d5 {n0 : Nat} : F64.p5 n0 = wA Try.prog n0 52 none F64.c5 := by kernel_rfl
theorem F64.m5 (n0 : Nat) : MonoW (F64.p5 n0) := @mono_c Try.prog n0 52 none F64.c5 (F64.p5 n0) (F64.d5) F64.k5
noncomputable def F64.t6 (n0 : Nat) (n3 out10 l11 : Value) (ds : List Nat) (h : H) (K : KP) : Prop :=
  Bnd (aBin Try.prog true .rem 3 n3 (.int .i64 256)) fun t34 =>
  Bnd2 (cvt Try.prog 3 5 t34 h) fun t35 h1 =>
  Bnd2 (aBuildSlice Try.prog 22 1 [(0, t35)] h1) fun t36 h2 =>
  Bnd2 (aBuiltin Try.prog .append #[22, 22] [t36, l11] h2) fun t39 h3 =>
  Bnd (aBin Try.prog true .quo 3 n3 (.int .i64 256)) fun t41 =>
  K .normal [(3, t41), (10, out10), (11, t39)] ds h3
theorem F64.g6 {n0 : Nat} (n3 out10 l11 : Value) {ds : List Nat} {h : H} {K : KP} : wA Try.prog n0 52 none F64.c6 [(3, n3), (10, out10), (11, l11)] ds h K = F64.t6 n0 n3 out10 l11 ds h K := by kernel_rfl
theorem F64.s6 {n0 : Nat} : F64.p6 n0 = wA Try.prog n0 52 none F64.c6 := by kernel_rfl
theorem F64.e6 {n0 : Nat} {n3 out10 l11 : Value} {ds : List Nat} {h : H} {K : KP} : F64.p6 n0 [(3, n3), (10, out10), (11, l11)] ds h K = F64.t6 n0 n3 out10 l11 ds h K :=
  wchain (F64.s6) (F64.g6 n3 out10 l11)
noncomputable def F64.t7 (n0 : Nat) (out10 l11 : Value) (ds : List Nat) (h : H) (K : KP) : Prop :=
  Bnd2 (aBuiltin Try.prog .len #[22] [l11] h) fun t44 h1 =>
  Bnd (aBin Try.prog true .add 3 (.int .i64 128) t44) fun t45 =>
  Bnd2 (cvt Try.prog 3 5 t45 h1) fun t46 h2 =>
  Bnd2 (aBuildSlice Try.prog 22 1 [(0, t46)] h2) fun t47 h3 =>
  Bnd2 (aBuiltin Try.prog .append #[22, 22] [out10, t47] h3) fun t48 h4 =>
  Bnd2 (aBuiltin Try.prog .append #[22, 22] [t48, l11] h4) fun t51 h5 =>
  K .ret [(8, t51)] ds h5
theorem F64.g7 {n0 : Nat} (out10 l11 : Value) {ds : List Nat} {h : H} {K : KP} : wA Try.prog n0 52 none F64.c7 [(10, out10), (11, l11)] ds h K = F64.t7 n0 out10 l11 ds h K := by kernel_rfl
theorem F64.s7 {n0 : Nat} : F64.p7 n0 = wA Try.prog n0 52 none F64.c7 := by kernel_rfl
theorem F64.e7 {n0 : Nat} {out10 l11 : Value} {ds : List Nat} {h : H} {K : KP} : F64.p7 n0 [(10, out10), (11, l11)] ds h K = F64.t7 n0 out10 l11 ds h K :=
  wchain (F64.s7) (F64.g7 out10 l11)
theorem F64.b : Try.f64.body = some F64.c0.erase := by kernel_rfl
theorem F64.b2 : (Try.f64.name == "runtime.NumGoroutine") = false := by kernel_rfl
theorem F64.b3 : Try.f64.ntmps = 52 := by kernel_rfl
theorem F64.b4 : Try.f64.results.toList = [.tmp 8] := by kernel_rfl
theorem F64.enter {n0 : Nat} {x0 x1 x2 x3 : Value} {h : H} {Q : Value → H → Prop} (w : F64.p0 n0 [(0, x0), (1, x1), (2, x2), (3, x3)] [] h (KFin Try.prog [.tmp 8] Q)) : Cn Try.prog n0 (.func 64) [x0, x1, x2, x3] h Q :=
  @fn_enter Try.prog n0 mixed 64 Try.f64 F64.c0 [x0, x1, x2, x3] h Q Try.func64 F64.b F64.k0 F64.b2 52 F64.b3 [.tmp 8] F64.b4 (by simp) [(0, x0), (1, x1), (2, x2), (3, x3)] rfl (wback F64.d0 w)

/-! (*roster.rosterref02.Writer).Put -/
noncomputable def F65.ac : AC := (ann (bodyOf Try.f65) [[0, 1, 2, 3], [0, 1, 2, 3, 9], [0, 1, 2, 3], [0, 1, 2, 3, 16], [0, 1, 2, 3], [8], [0, 1, 2, 3], [0, 1, 2, 3, 19], [0, 1, 2, 3], [8], [0, 3, 10], [0, 3, 10], [0, 3, 10, 32], [0, 3, 10], [8], [0, 3, 10, 11], [0, 3, 11], [], [8]]).1
noncomputable def F65.c0 : AC := F65.ac
noncomputable def F65.c1 : AC := F65.ac.snd.snd.fst.snd.fst
noncomputable def F65.c2 : AC := F65.ac.snd.snd.snd
noncomputable def F65.c3 : AC := F65.ac.snd.snd.snd.fst.snd.fst
noncomputable def F65.c4 : AC := F65.ac.snd.snd.snd.snd
noncomputable def F65.c5 : AC := F65.ac.snd.snd.snd.snd.snd.fst.snd.fst
noncomputable def F65.c6 : AC := F65.ac.snd.snd.snd.snd.snd.snd
noncomputable def F65.p0 (n0 : Nat) : WP := wA Try.prog n0 73 none F65.c0
noncomputable def F65.p1 (n0 : Nat) : WP := wA Try.prog n0 73 none F65.c1
noncomputable def F65.p2 (n0 : Nat) : WP := wA Try.prog n0 73 none F65.c2
noncomputable def F65.p3 (n0 : Nat) : WP := wA Try.prog n0 73 none F65.c3
noncomputable def F65.p4 (n0 : Nat) : WP := wA Try.prog n0 73 none F65.c4
noncomputable def F65.p5 (n0 : Nat) : WP := wA Try.prog n0 73 none F65.c5
noncomputable def F65.p6 (n0 : Nat) : WP := wA Try.prog n0 73 none F65.c6
noncomputable def F65.t0 (n0 : Nat) (B1 : WP) (B2 : WP) (w0 class1 number2 body3 : Value) (ds : List Nat) (h : H) (K : KP) : Prop :=
  Cn Try.prog n0 (.func 62) [class1, number2] h fun t14 h1 =>
  Bnd (aUn .not t14) fun t16 =>
  Cnd t16
   (B1 [(0, w0), (1, class1), (2, number2), (3, body3)] ds h1 (KSeq [0, 1, 2, 3] B2 K))
   (B2 [(0, w0), (1, class1), (2, number2), (3, body3)] ds h1 K)
theorem F65.g0 {n0 : Nat} (B1 : WP) (B2 : WP) (w0 class1 number2 body3 : Value) {ds : List Nat} {h : H} {K : KP} : wA Try.prog n0 73 none (.seq [0, 1, 2, 3] F65.c0.fst (.seq [0, 1, 2, 3, 9] F65.c0.snd.fst (.seq [0, 1, 2, 3] (.seq [0, 1, 2, 3, 16] F65.c0.snd.snd.fst.fst (.cond [0, 1, 2, 3] (.tmp 16) (.sub B1) F65.c0.snd.snd.fst.snd.snd)) (.sub B2)))) [(0, w0), (1, class1), (2, number2), (3, body3)] ds h K = F65.t0 n0 B1 B2 w0 class1 number2 body3 ds h K := by kernel_rfl
theorem F65.s0 {n0 : Nat} : F65.p0 n0 = wA Try.prog n0 73 none (.seq [0, 1, 2, 3] F65.c0.fst (.seq [0, 1, 2, 3, 9] F65.c0.snd.fst (.seq [0, 1, 2, 3] (.seq [0, 1, 2, 3, 16] F65.c0.snd.snd.fst.fst (.cond [0, 1, 2, 3] (.tmp 16) (.sub (F65.p1 n0)) F65.c0.snd.snd.fst.snd.snd)) (.sub (F65.p2 n0))))) := by kernel_rfl
theorem F65.e0 {n0 : Nat} {w0 class1 number2 body3 : Value} {ds : List Nat} {h : H} {K : KP} : F65.p0 n0 [(0, w0), (1, class1), (2, number2), (3, body3)] ds h K = F65.t0 n0 (F65.p1 n0) (F65.p2 n0) w0 class1 number2 body3 ds h K :=
  wchain (F65.s0) (F65.g0 (F65.p1 n0) (F65.p2 n0) w0 class1 number2 body3)
theorem F65.k0 : F65.c0.ok = true := by kernel_rfl
theorem F65.d0 {n0 : Nat} : F65.p0 n0 = wA Try.prog n0 73 none F65.c0 := by kernel_rfl
theorem F65.m0 (n0 : Nat) : MonoW (F65.p0 n0) := @mono_c Try.prog n0 73 none F65.c0 (F65.p0 n0) (F65.d0) F65.k0
noncomputable def F65.t1 (n0 : Nat) (w0 class1 number2 body3 : Value) (ds : List Nat) (h : H) (K : KP) : Prop :=
  K .ret [(8, (.int .i64 2))] ds h
theorem F65.g1 {n0 : Nat} (w0 class1 number2 body3 : Value) {ds : List Nat} {h : H} {K : KP} : wA Try.prog n0 73 none F65.c1 [(0, w0), (1, class1), (2, number2), (3, body3)] ds h K = F65.t1 n0 w0 class1 number2 body3 ds h K := by kernel_rfl
theorem F65.s1 {n0 : Nat} : F65.p1 n0 = wA Try.prog n0 73 none F65.c1 := by kernel_rfl
theorem F65.e1 {n0 : Nat} {w0 class1 number2 body3 : Value} {ds : List Nat} {h : H} {K : KP} : F65.p1 n0 [(0, w0), (1, class1), (2, number2), (3, body3)] ds h K = F65.t1 n0 w0 class1 number2 body3 ds h K :=
  wchain (F65.s1) (F65.g1 w0 class1 number2 body3)
noncomputable def F65.t2 (n0 : Nat) (B3 : WP) (B4 : WP) (w0 class1 number2 body3 : Value) (ds : List Nat) (h : H) (K : KP) : Prop :=
  Bnd2 (aBuiltin Try.prog .len #[22] [body3] h) fun t18 h1 =>
  Bnd (aBin Try.prog true .gtr 3 t18 (.int .i64 67108864)) fun t19 =>
  Cnd t19
   (B3 [(0, w0), (1, class1), (2, number2), (3, body3)] ds h1 (KSeq [0, 1, 2, 3] B4 K))
   (B4 [(0, w0), (1, class1), (2, number2), (3, body3)] ds h1 K)
theorem F65.g2 {n0 : Nat} (B3 : WP) (B4 : WP) (w0 class1 number2 body3 : Value) {ds : List Nat} {h : H} {K : KP} : wA Try.prog n0 73 none (.seq [0, 1, 2, 3] (.seq [0, 1, 2, 3, 19] F65.c2.fst.fst (.cond [0, 1, 2, 3] (.tmp 19) (.sub B3) F65.c2.fst.snd.snd)) (.sub B4)) [(0, w0), (1, class1), (2, number2), (3, body3)] ds h K = F65.t2 n0 B3 B4 w0 class1 number2 body3 ds h K := by kernel_rfl
theorem F65.s2 {n0 : Nat} : F65.p2 n0 = wA Try.prog n0 73 none (.seq [0, 1, 2, 3] (.seq [0, 1, 2, 3, 19] F65.c2.fst.fst (.cond [0, 1, 2, 3] (.tmp 19) (.sub (F65.p3 n0)) F65.c2.fst.snd.snd)) (.sub (F65.p4 n0))) := by kernel_rfl
theorem F65.e2 {n0 : Nat} {w0 class1 number2 body3 : Value} {ds : List Nat} {h : H} {K : KP} : F65.p2 n0 [(0, w0), (1, class1), (2, number2), (3, body3)] ds h K = F65.t2 n0 (F65.p3 n0) (F65.p4 n0) w0 class1 number2 body3 ds h K :=
  wchain (F65.s2) (F65.g2 (F65.p3 n0) (F65.p4 n0) w0 class1 number2 body3)
noncomputable def F65.t3 (n0 : Nat) (w0 class1 number2 body3 : Value) (ds : List Nat) (h : H) (K : KP) : Prop :=
  K .ret [(8, (.int .i64 3))] ds h
theorem F65.g3 {n0 : Nat} (w0 class1 number2 body3 : Value) {ds : List Nat} {h : H} {K : KP} : wA Try.prog n0 73 none F65.c3 [(0, w0), (1, class1), (2, number2), (3, body3)] ds h K = F65.t3 n0 w0 class1 number2 body3 ds h K := by kernel_rfl
theorem F65.s3 {n0 : Nat} : F65.p3 n0 = wA Try.prog n0 73 none F65.c3 := by kernel_rfl
theorem F65.e3 {n0 : Nat} {w0 class1 number2 body3 : Value} {ds : List Nat} {h : H} {K : KP} : F65.p3 n0 [(0, w0), (1, class1), (2, number2), (3, body3)] ds h K = F65.t3 n0 w0 class1 number2 body3 ds h K :=
  wchain (F65.s3) (F65.g3 w0 class1 number2 body3)
noncomputable def F65.t4 (n0 : Nat) (B5 : WP) (B6 : WP) (w0 class1 number2 body3 : Value) (ds : List Nat) (h : H) (K : KP) : Prop :=
  Bnd2 (aBuiltin Try.prog .len #[22] [body3] h) fun t23 h1 =>
  Cn Try.prog n0 (.func 64) [class1, (.bool false), number2, t23] h1 fun t24 h2 =>
  Bnd2 (aBuiltin Try.prog .len #[22] [t24] h2) fun t27 h3 =>
  Bnd2 (aBuiltin Try.prog .len #[22] [body3] h3) fun t29 h4 =>
  Bnd (aBin Try.prog false .add 3 t27 t29) fun t30 =>
  Cn Try.prog n0 (.func 63) [w0, t30] h4 fun t31 h5 =>
  Bnd (aBin Try.prog true .gtr 3 t31 (.int .i64 67108864)) fun t32 =>
  Cnd t32
   (B5 [(0, w0), (3, body3), (10, t24)] ds h5 (KSeq [0, 3, 10] B6 K))
   (B6 [(0, w0), (3, body3), (10, t24)] ds h5 K)
theorem F65.g4 {n0 : Nat} (B5 : WP) (B6 : WP) (w0 class1 number2 body3 : Value) {ds : List Nat} {h : H} {K : KP} : wA Try.prog n0 73 none (.seq [0, 3, 10] F65.c4.fst (.seq [0, 3, 10] (.seq [0, 3, 10, 32] F65.c4.snd.fst.fst (.cond [0, 3, 10] (.tmp 32) (.sub B5) F65.c4.snd.fst.snd.snd)) (.sub B6))) [(0, w0), (1, class1), (2, number2), (3, body3)] ds h K = F65.t4 n0 B5 B6 w0 class1 number2 body3 ds h K := by kernel_rfl
theorem F65.s4 {n0 : Nat} : F65.p4 n0 = wA Try.prog n0 73 none (.seq [0, 3, 10] F65.c4.fst (.seq [0, 3, 10] (.seq [0, 3, 10, 32] F65.c4.snd.fst.fst (.cond [0, 3, 10] (.tmp 32) (.sub (F65.p5 n0)) F65.c4.snd.fst.snd.snd)) (.sub (F65.p6 n0)))) := by kernel_rfl
theorem F65.e4 {n0 : Nat} {w0 class1 number2 body3 : Value} {ds : List Nat} {h : H} {K : KP} : F65.p4 n0 [(0, w0), (1, class1), (2, number2), (3, body3)] ds h K = F65.t4 n0 (F65.p5 n0) (F65.p6 n0) w0 class1 number2 body3 ds h K :=
  wchain (F65.s4) (F65.g4 (F65.p5 n0) (F65.p6 n0) w0 class1 number2 body3)
noncomputable def F65.t5 (n0 : Nat) (w0 body3 l10 : Value) (ds : List Nat) (h : H) (K : KP) : Prop :=
  K .ret [(8, (.int .i64 3))] ds h
theorem F65.g5 {n0 : Nat} (w0 body3 l10 : Value) {ds : List Nat} {h : H} {K : KP} : wA Try.prog n0 73 none F65.c5 [(0, w0), (3, body3), (10, l10)] ds h K = F65.t5 n0 w0 body3 l10 ds h K := by kernel_rfl
theorem F65.s5 {n0 : Nat} : F65.p5 n0 = wA Try.prog n0 73 none F65.c5 := by kernel_rfl
theorem F65.e5 {n0 : Nat} {w0 body3 l10 : Value} {ds : List Nat} {h : H} {K : KP} : F65.p5 n0 [(0, w0), (3, body3), (10, l10)] ds h K = F65.t5 n0 w0 body3 l10 ds h K :=
  wchain (F65.s5) (F65.g5 w0 body3 l10)
noncomputable def F65.t6 (n0 : Nat) (w0 body3 l10 : Value) (ds : List Nat) (h : H) (K : KP) : Prop :=
  NilC w0 <|
  Bnd (aFieldAddr Try.prog 91 w0 0) fun t35 =>
  Bnd (aLoad Try.prog 89 t35 h) fun t36 =>
  Bnd2 (aBuiltin Try.prog .len #[89] [t36] h) fun t37 h1 =>
  Bnd (aBin Try.prog true .sub 3 t37 (.int .i64 1)) fun t38 =>
  NilC w0 <|
  Bnd (aFieldAddr Try.prog 91 w0 0) fun t41 =>
  Bnd (aLoad Try.prog 89 t41 h1) fun t42 =>
  NilC w0 <|
  Bnd (aFieldAddr Try.prog 91 w0 0) fun t46 =>
  Bnd (aLoad Try.prog 89 t46 h1) fun t47 =>
  Bnd (aIndexAddr Try.prog 89 t47 t38) fun t49 =>
  Bnd (aFieldAddr Try.prog 94 t49 2) fun t50 =>
  Bnd (aLoad Try.prog 22 t50 h1) fun t51 =>
  Bnd2 (aBuiltin Try.prog .append #[22, 22] [t51, l10] h1) fun t53 h2 =>
  Bnd (aIndexAddr Try.prog 89 t42 t38) fun t54 =>
  Bnd (aFieldAddr Try.prog 94 t54 2) fun t55 =>
  Bnd (aStore Try.prog 22 t55 t53 h2) fun h3 =>
  Sm (aLoad Try.prog 89 t41 h1) t42 <|
  Sm (aLoad Try.prog 89 t41 h2) t42 <|
  NilC w0 <|
  Bnd (aFieldAddr Try.prog 91 w0 0) fun t58 =>
  Bnd (aLoad Try.prog 89 t58 h3) fun t59 =>
  NilC w0 <|
  Bnd (aFieldAddr Try.prog 91 w0 0) fun t63 =>
  Bnd (aLoad Try.prog 89 t63 h3) fun t64 =>
  Bnd (aIndexAddr Try.prog 89 t64 t38) fun t66 =>
  Bnd (aFieldAddr Try.prog 94 t66 2) fun t67 =>
  Bnd (aLoad Try.prog 22 t67 h3) fun t68 =>
  Bnd2 (aBuiltin Try.prog .append #[22, 22] [t68, body3] h3) fun t70 h4 =>
  Bnd (aIndexAddr Try.prog 89 t59 t38) fun t71 =>
  Bnd (aFieldAddr Try.prog 94 t71 2) fun t72 =>
  Bnd (aStore Try.prog 22 t72 t70 h4) fun h5 =>
  Sm (aLoad Try.prog 89 t58 h3) t59 <|
  Sm (aLoad Try.prog 89 t58 h4) t59 <|
  K .ret [(8, (.int .i64 0))] ds h5
theorem F65.g6 {n0 : Nat} (w0 body3 l10 : Value) {ds : List Nat} {h : H} {K : KP} : wA Try.prog n0 73 none F65.c6 [(0, w0), (3, body3), (10, l10)] ds h K = F65.t6 n0 w0 body3 l10 ds h K := by kernel_rfl
theorem F65.s6 {n0 : Nat} : F65.p6 n0 = wA Try.prog n0 73 none F65.c6 := by kernel_rfl
theorem F65.e6 {n0 : Nat} {w0 body3 l10 : Value} {ds : List Nat} {h : H} {K : KP} : F65.p6 n0 [(0, w0), (3, body3), (10, l10)] ds h K = F65.t6 n0 w0 body3 l10 ds h K :=
  wchain (F65.s6) (F65.g6 w0 body3 l10)
theorem F65.b : Try.f65.body = some F65.c0.erase := by kernel_rfl
theorem F65.b2 : (Try.f65.name == "runtime.NumGoroutine") = false := by kernel_rfl
theorem F65.b3 : Try.f65.ntmps = 73 := by kernel_rfl
theorem F65.b4 : Try.f65.results.toList = [.tmp 8] := by kernel_rfl
theorem F65.enter {n0 : Nat} {x0 x1 x2 x3 : Value} {h : H} {Q : Value → H → Prop} (w : F65.p0 n0 [(0, x0), (1, x1), (2, x2), (3, x3)] [] h (KFin Try.prog [.tmp 8] Q)) : Cn Try.prog n0 (.func 65) [x0, x1, x2, x3] h Q :=
  @fn_enter Try.prog n0 mixed 65 Try.f65 F65.c0 [x0, x1, x2, x3] h Q Try.func65 F65.b F65.k0 F65.b2 73 F65.b3 [.tmp 8] F65.b4 (by simp) [(0, x0), (1, x1), (2, x2), (3, x3)] rfl (wback F65.d0 w)

/-! roster.rosterref02.Octets -/
noncomputable def F66.ac : AC := (ann (bodyOf Try.f66) [[0], [0, 3], [2], [0, 3], [0, 3], [0, 3, 4], [0, 3, 4], [0, 3, 4, 9], [0, 3, 4], [0, 3, 4, 5], [0, 3, 4], [0, 3], [0, 3, 39], [0, 3], [2]]).1
noncomputable def F66.c0 : AC := F66.ac
noncomputable def F66.c1 : AC := F66.ac.snd.snd.fst.fst
noncomputable def F66.c2 : AC := F66.ac.snd.snd.fst.fst.fst.snd.fst.snd.fst
noncomputable def F66.c3 : AC := F66.ac.snd.snd.fst.fst.fst.snd.snd
noncomputable def F66.c4 : AC := F66.ac.snd.snd.fst.fst.fst.snd.snd.snd.snd.snd.snd.fst
noncomputable def F66.p0 (n0 : Nat) : WP := wA Try.prog n0 41 none F66.c0
noncomputable def F66.p1 (n0 : Nat) : WP := wA Try.prog n0 41 none F66.c1
noncomputable def F66.p2 (n0 : Nat) : WP := wA Try.prog n0 41 none F66.c2
noncomputable def F66.p3 (n0 : Nat) : WP := wA Try.prog n0 41 none F66.c3
noncomputable def F66.p4 (n0 : Nat) : WP := wA Try.prog n0 41 none F66.c4
noncomputable def F66.t0 (n0 : Nat) (B1 : WP) (v0 : Value) (ds : List Nat) (h : H) (K : KP) : Prop :=
  Lp [0, 3] B1 [(0, v0), (3, (.slice none 0 0))] ds h (KBlk [2] 0 K)
theorem F66.g0 {n0 : Nat} (B1 : WP) (v0 : Value) {ds : List Nat} {h : H} {K : KP} : wA Try.prog n0 41 none (.seq [0] F66.c0.fst (.seq [0, 3] F66.c0.snd.fst (.block [2] 0 (.loop [0, 3] (.sub B1))))) [(0, v0)] ds h K = F66.t0 n0 B1 v0 ds h K := by kernel_rfl
theorem F66.s0 {n0 : Nat} : F66.p0 n0 = wA Try.prog n0 41 none (.seq [0] F66.c0.fst (.seq [0, 3] F66.c0.snd.fst (.block [2] 0 (.loop [0, 3] (.sub (F66.p1 n0)))))) := by kernel_rfl
theorem F66.e0 {n0 : Nat} {v0 : Value} {ds : List Nat} {h : H} {K : KP} : F66.p0 n0 [(0, v0)] ds h K = F66.t0 n0 (F66.p1 n0) v0 ds h K :=
  wchain (F66.s0) (F66.g0 (F66.p1 n0) v0)
theorem F66.k0 : F66.c0.ok = true := by kernel_rfl
theorem F66.d0 {n0 : Nat} : F66.p0 n0 = wA Try.prog n0 41 none F66.c0 := by kernel_rfl
theorem F66.m0 (n0 : Nat) : MonoW (F66.p0 n0) := @mono_c Try.prog n0 41 none F66.c0 (F66.p0 n0) (F66.d0) F66.k0
noncomputable def F66.t1 (n0 : Nat) (B2 : WP) (B3 : WP) (v0 l3 : Value) (ds : List Nat) (h : H) (K : KP) : Prop :=
  Bnd (aBin Try.prog true .rem 2 v0 (.int .i64 256)) fun t7 =>
  Bnd (aBin Try.prog true .lss 2 t7 (.int .i64 0)) fun t9 =>
  Cnd t9
   (B2 [(0, v0), (3, l3), (4, t7)] ds h (KSeq [0, 3, 4] B3 (KBlk [0, 3] 1 K)))
   (B3 [(0, v0), (3, l3), (4, t7)] ds h (KBlk [0, 3] 1 K))
theorem F66.g1 {n0 : Nat} (B2 : WP) (B3 : WP) (v0 l3 : Value) {ds : List Nat} {h : H} {K : KP} : wA Try.prog n0 41 none (.block [0, 3] 1 (.seq [0, 3, 4] F66.c1.fst.fst (.seq [0, 3, 4] (.seq [0, 3, 4, 9] F66.c1.fst.snd.fst.fst (.cond [0, 3, 4] (.tmp 9) (.sub B2) F66.c1.fst.snd.fst.snd.snd)) (.sub B3)))) [(0, v0), (3, l3)] ds h K = F66.t1 n0 B2 B3 v0 l3 ds h K := by kernel_rfl
theorem F66.s1 {n0 : Nat} : F66.p1 n0 = wA Try.prog n0 41 none (.block [0, 3] 1 (.seq [0, 3, 4] F66.c1.fst.fst (.seq [0, 3, 4] (.seq [0, 3, 4, 9] F66.c1.fst.snd.fst.fst (.cond [0, 3, 4] (.tmp 9) (.sub (F66.p2 n0)) F66.c1.fst.snd.fst.snd.snd)) (.sub (F66.p3 n0))))) := by kernel_rfl
theorem F66.e1 {n0 : Nat} {v0 l3 : Value} {ds : List Nat} {h : H} {K : KP} : F66.p1 n0 [(0, v0), (3, l3)] ds h K = F66.t1 n0 (F66.p2 n0) (F66.p3 n0) v0 l3 ds h K :=
  wchain (F66.s1) (F66.g1 (F66.p2 n0) (F66.p3 n0) v0 l3)
theorem F66.k1 : F66.c1.ok = true := by kernel_rfl
theorem F66.d1 {n0 : Nat} : F66.p1 n0 = wA Try.prog n0 41 none F66.c1 := by kernel_rfl
theorem F66.m1 (n0 : Nat) : MonoW (F66.p1 n0) := @mono_c Try.prog n0 41 none F66.c1 (F66.p1 n0) (F66.d1) F66.k1
noncomputable def F66.t2 (n0 : Nat) (v0 l3 r4 : Value) (ds : List Nat) (h : H) (K : KP) : Prop :=
  Bnd (aBin Try.prog true .add 2 r4 (.int .i64 256)) fun t11 =>
  K .normal [(0, v0), (3, l3), (4, t11), (10, r4), (11, t11)] ds h
theorem F66.g2 {n0 : Nat} (v0 l3 r4 : Value) {ds : List Nat} {h : H} {K : KP} : wA Try.prog n0 41 none F66.c2 [(0, v0), (3, l3), (4, r4)] ds h K = F66.t2 n0 v0 l3 r4 ds h K := by kernel_rfl
theorem F66.s2 {n0 : Nat} : F66.p2 n0 = wA Try.prog n0 41 none F66.c2 := by kernel_rfl
theorem F66.e2 {n0 : Nat} {v0 l3 r4 : Value} {ds : List Nat} {h : H} {K : KP} : F66.p2 n0 [(0, v0), (3, l3), (4, r4)] ds h K = F66.t2 n0 v0 l3 r4 ds h K :=
  wchain (F66.s2) (F66.g2 v0 l3 r4)
noncomputable def F66.t3 (n0 : Nat) (B4 : WP) (v0 l3 r4 : Value) (ds : List Nat) (h : H) (K : KP) : Prop :=
  Bnd2 (cvt Try.prog 2 5 r4 h) fun t13 h1 =>
  Bnd2 (aBuildSlice Try.prog 22 1 [(0, t13)] h1) fun t14 h2 =>
  Bnd2 (aBuiltin Try.prog .append #[22, 22] [t14, l3] h2) fun t17 h3 =>
  Bnd (aBin Try.prog false .sub 2 v0 r4) fun t20 =>
  Bnd (aBin Try.prog true .quo 2 t20 (.int .i64 256)) fun t21 =>
  Bnd (aBin Try.prog true .eql 2 t21 (.int .i64 0)) fun t23 =>
  Gd t23
   (Bnd (aIndexAddr Try.prog 22 t17 (.int .i64 0)) fun t26 =>
  Bnd (aLoad Try.prog 5 t26 h3) fun t27 =>
  Bnd (aBin Try.prog true .lss 5 t27 (.int .u8 128)) fun t28 =>
  Gd t28
   (B4 [(0, t21), (3, t17)] ds h3 K)
   (Bnd (aBin Try.prog true .eql 2 t21 (.int .i64 (-1))) fun t32 =>
  Gd t32
   (Bnd (aIndexAddr Try.prog 22 t17 (.int .i64 0)) fun t35 =>
  Bnd (aLoad Try.prog 5 t35 h3) fun t36 =>
  Bnd (aBin Try.prog true .geq 5 t36 (.int .u8 128)) fun t37 =>
  Cnd t37
   (B4 [(0, t21), (3, t17)] ds h3 K)
   (K .normal [(0, t21), (3, t17)] ds h3))
   (K .normal [(0, t21), (3, t17)] ds h3)))
   (Bnd (aBin Try.prog true .eql 2 t21 (.int .i64 (-1))) fun t32 =>
  Gd t32
   (Bnd (aIndexAddr Try.prog 22 t17 (.int .i64 0)) fun t35 =>
  Bnd (aLoad Try.prog 5 t35 h3) fun t36 =>
  Bnd (aBin Try.prog true .geq 5 t36 (.int .u8 128)) fun t37 =>
  Cnd t37
   (B4 [(0, t21), (3, t17)] ds h3 K)
   (K .normal [(0, t21), (3, t17)] ds h3))
   (K .normal [(0, t21), (3, t17)] ds h3))
theorem F66.g3 {n0 : Nat} (B4 : WP) (v0 l3 r4 : Value) {ds : List Nat} {h : H} {K : KP} : wA Try.prog n0 41 none (.seq [0, 3, 4, 5] F66.c3.fst (.seq [0, 3, 4] F66.c3.snd.fst (.seq [0, 3] F66.c3.snd.snd.fst (.seq [0, 3, 39] F66.c3.snd.snd.snd.fst (.cond [0, 3] (.tmp 39) (.sub B4) F66.c3.snd.snd.snd.snd.snd))))) [(0, v0), (3, l3), (4, r4)] ds h K = F66.t3 n0 B4 v0 l3 r4 ds h K := by kernel_rfl
theorem F66.s3 {n0 : Nat} : F66.p3 n0 = wA Try.prog n0 41 none (.seq [0, 3, 4, 5] F66.c3.fst (.seq [0, 3, 4] F66.c3.snd.fst (.seq [0, 3] F66.c3.snd.snd.fst (.seq [0, 3, 39] F66.c3.snd.snd.snd.fst (.cond [0, 3] (.tmp 39) (.sub (F66.p4 n0)) F66.c3.snd.snd.snd.snd.snd))))) := by kernel_rfl
theorem F66.e3 {n0 : Nat} {v0 l3 r4 : Value} {ds : List Nat} {h : H} {K : KP} : F66.p3 n0 [(0, v0), (3, l3), (4, r4)] ds h K = F66.t3 n0 (F66.p4 n0) v0 l3 r4 ds h K :=
  wchain (F66.s3) (F66.g3 (F66.p4 n0) v0 l3 r4)
noncomputable def F66.t4 (n0 : Nat) (v0 l3 : Value) (ds : List Nat) (h : H) (K : KP) : Prop :=
  K .ret [(2, l3)] ds h
theorem F66.g4 {n0 : Nat} (v0 l3 : Value) {ds : List Nat} {h : H} {K : KP} : wA Try.prog n0 41 none F66.c4 [(0, v0), (3, l3)] ds h K = F66.t4 n0 v0 l3 ds h K := by kernel_rfl
theorem F66.s4 {n0 : Nat} : F66.p4 n0 = wA Try.prog n0 41 none F66.c4 := by kernel_rfl
theorem F66.e4 {n0 : Nat} {v0 l3 : Value} {ds : List Nat} {h : H} {K : KP} : F66.p4 n0 [(0, v0), (3, l3)] ds h K = F66.t4 n0 v0 l3 ds h K :=
  wchain (F66.s4) (F66.g4 v0 l3)
theorem F66.b : Try.f66.body = some F66.c0.erase := by kernel_rfl
theorem F66.b2 : (Try.f66.name == "runtime.NumGoroutine") = false := by kernel_rfl
theorem F66.b3 : Try.f66.ntmps = 41 := by kernel_rfl
theorem F66.b4 : Try.f66.results.toList = [.tmp 2] := by kernel_rfl
theorem F66.enter {n0 : Nat} {x0 : Value} {h : H} {Q : Value → H → Prop} (w : F66.p0 n0 [(0, x0)] [] h (KFin Try.prog [.tmp 2] Q)) : Cn Try.prog n0 (.func 66) [x0] h Q :=
  @fn_enter Try.prog n0 mixed 66 Try.f66 F66.c0 [x0] h Q Try.func66 F66.b F66.k0 F66.b2 41 F66.b3 [.tmp 2] F66.b4 (by simp) [(0, x0)] rfl (wback F66.d0 w)

/-! math.bits.Len -/
noncomputable def F68.ac : AC := (ann (bodyOf Try.f68) [[0], [0], [0], [2], [2]]).1
noncomputable def F68.c0 : AC := F68.ac
noncomputable def F68.c1 : AC := F68.ac.snd.fst.fst
noncomputable def F68.c2 : AC := F68.ac.snd.snd
noncomputable def F68.p0 (n0 : Nat) : WP := wA Try.prog n0 8 none F68.c0
noncomputable def F68.p1 (n0 : Nat) : WP := wA Try.prog n0 8 none F68.c1
noncomputable def F68.p2 (n0 : Nat) : WP := wA Try.prog n0 8 none F68.c2
noncomputable def F68.t0 (n0 : Nat) (B1 : WP) (B2 : WP) (x0 : Value) (ds : List Nat) (h : H) (K : KP) : Prop :=
  B2 [(0, x0)] ds h K
theorem F68.g0 {n0 : Nat} (B1 : WP) (B2 : WP) (x0 : Value) {ds : List Nat} {h : H} {K : KP} : wA Try.prog n0 8 none (.seq [0] F68.c0.fst (.seq [0] (.cond [0] (.const (.bool false)) (.sub B1) F68.c0.snd.fst.snd) (.sub B2))) [(0, x0)] ds h K = F68.t0 n0 B1 B2 x0 ds h K := by kernel_rfl
theorem F68.s0 {n0 : Nat} : F68.p0 n0 = wA Try.prog n0 8 none (.seq [0] F68.c0.fst (.seq [0] (.cond [0] (.const (.bool false)) (.sub (F68.p1 n0)) F68.c0.snd.fst.snd) (.sub (F68.p2 n0)))) := by kernel_rfl
theorem F68.e0 {n0 : Nat} {x0 : Value} {ds : List Nat} {h : H} {K : KP} : F68.p0 n0 [(0, x0)] ds h K = F68.t0 n0 (F68.p1 n0) (F68.p2 n0) x0 ds h K :=
  wchain (F68.s0) (F68.g0 (F68.p1 n0) (F68.p2 n0) x0)
theorem F68.k0 : F68.c0.ok = true := by kernel_rfl
theorem F68.d0 {n0 : Nat} : F68.p0 n0 = wA Try.prog n0 8 none F68.c0 := by kernel_rfl
theorem F68.m0 (n0 : Nat) : MonoW (F68.p0 n0) := @mono_c Try.prog n0 8 none F68.c0 (F68.p0 n0) (F68.d0) F68.k0
noncomputable def F68.t1 (n0 : Nat) (x0 : Value) (ds : List Nat) (h : H) (K : KP) : Prop :=
  Bnd2 (cvt Try.prog 79 120 x0 h) fun t4 h1 =>
  Cn Try.prog n0 (.func 69) [t4] h1 fun t5 h2 =>
  K .ret [(2, t5)] ds h2
theorem F68.g1 {n0 : Nat} (x0 : Value) {ds : List Nat} {h : H} {K : KP} : wA Try.prog n0 8 none F68.c1 [(0, x0)] ds h K = F68.t1 n0 x0 ds h K := by kernel_rfl
theorem F68.s1 {n0 : Nat} : F68.p1 n0 = wA Try.prog n0 8 none F68.c1 := by kernel_rfl
theorem F68.e1 {n0 : Nat} {x0 : Value} {ds : List Nat} {h : H} {K : KP} : F68.p1 n0 [(0, x0)] ds h K = F68.t1 n0 x0 ds h K :=
  wchain (F68.s1) (F68.g1 x0)
noncomputable def F68.t2 (n0 : Nat) (x0 : Value) (ds : List Nat) (h : H) (K : KP) : Prop :=
  Cn Try.prog n0 (.func 70) [x0] h fun t7 h1 =>
  K .ret [(2, t7)] ds h1
theorem F68.g2 {n0 : Nat} (x0 : Value) {ds : List Nat} {h : H} {K : KP} : wA Try.prog n0 8 none F68.c2 [(0, x0)] ds h K = F68.t2 n0 x0 ds h K := by kernel_rfl
theorem F68.s2 {n0 : Nat} : F68.p2 n0 = wA Try.prog n0 8 none F68.c2 := by kernel_rfl
theorem F68.e2 {n0 : Nat} {x0 : Value} {ds : List Nat} {h : H} {K : KP} : F68.p2 n0 [(0, x0)] ds h K = F68.t2 n0 x0 ds h K :=
  wchain (F68.s2) (F68.g2 x0)
theorem F68.b : Try.f68.body = some F68.c0.erase := by kernel_rfl
theorem F68.b2 : (Try.f68.name == "runtime.NumGoroutine") = false := by kernel_rfl
theorem F68.b3 : Try.f68.ntmps = 8 := by kernel_rfl
theorem F68.b4 : Try.f68.results.toList = [.tmp 2] := by kernel_rfl
theorem F68.enter {n0 : Nat} {x0 : Value} {h : H} {Q : Value → H → Prop} (w : F68.p0 n0 [(0, x0)] [] h (KFin Try.prog [.tmp 2] Q)) : Cn Try.prog n0 (.func 68) [x0] h Q :=
  @fn_enter Try.prog n0 mixed 68 Try.f68 F68.c0 [x0] h Q Try.func68 F68.b F68.k0 F68.b2 8 F68.b3 [.tmp 2] F68.b4 (by simp) [(0, x0)] rfl (wback F68.d0 w)

/-! math.bits.Len32 -/
noncomputable def F69.ac : AC := (ann (bodyOf Try.f69) [[0, 2], [0, 2], [0, 2, 4], [0, 2], [0], [0, 2], [0, 2, 8], [0, 2], [0, 2], [2]]).1
noncomputable def F69.c0 : AC := F69.ac
noncomputable def F69.c1 : AC := F69.ac.snd.fst.snd.fst
noncomputable def F69.c2 : AC := F69.ac.snd.snd
noncomputable def F69.c3 : AC := F69.ac.snd.snd.fst.snd.fst
noncomputable def F69.c4 : AC := F69.ac.snd.snd.snd
noncomputable def F69.p0 (n0 : Nat) : WP := wA Try.prog n0 19 none F69.c0
noncomputable def F69.p1 (n0 : Nat) : WP := wA Try.prog n0 19 none F69.c1
noncomputable def F69.p2 (n0 : Nat) : WP := wA Try.prog n0 19 none F69.c2
noncomputable def F69.p3 (n0 : Nat) : WP := wA Try.prog n0 19 none F69.c3
noncomputable def F69.p4 (n0 : Nat) : WP := wA Try.prog n0 19 none F69.c4
noncomputable def F69.t0 (n0 : Nat) (B1 : WP) (B2 : WP) (x0 : Value) (ds : List Nat) (h : H) (K : KP) : Prop :=
  Bnd (aBin Try.prog true .geq 120 x0 (.int .u32 65536)) fun t4 =>
  Cnd t4
   (B1 [(0, x0), (2, (.int .i64 0))] ds h (KSeq [0, 2] B2 K))
   (B2 [(0, x0), (2, (.int .i64 0))] ds h K)
theorem F69.g0 {n0 : Nat} (B1 : WP) (B2 : WP) (x0 : Value) {ds : List Nat} {h : H} {K : KP} : wA Try.prog n0 19 none (.seq [0, 2] F69.c0.fst (.seq [0, 2] (.seq [0, 2, 4] F69.c0.snd.fst.fst (.cond [0, 2] (.tmp 4) (.sub B1) F69.c0.snd.fst.snd.snd)) (.sub B2))) [(0, x0)] ds h K = F69.t0 n0 B1 B2 x0 ds h K := by kernel_rfl
theorem F69.s0 {n0 : Nat} : F69.p0 n0 = wA Try.prog n0 19 none (.seq [0, 2] F69.c0.fst (.seq [0, 2] (.seq [0, 2, 4] F69.c0.snd.fst.fst (.cond [0, 2] (.tmp 4) (.sub (F69.p1 n0)) F69.c0.snd.fst.snd.snd)) (.sub (F69.p2 n0)))) := by kernel_rfl
theorem F69.e0 {n0 : Nat} {x0 : Value} {ds : List Nat} {h : H} {K : KP} : F69.p0 n0 [(0, x0)] ds h K = F69.t0 n0 (F69.p1 n0) (F69.p2 n0) x0 ds h K :=
  wchain (F69.s0) (F69.g0 (F69.p1 n0) (F69.p2 n0) x0)
theorem F69.k0 : F69.c0.ok = true := by kernel_rfl
theorem F69.d0 {n0 : Nat} : F69.p0 n0 = wA Try.prog n0 19 none F69.c0 := by kernel_rfl
theorem F69.m0 (n0 : Nat) : MonoW (F69.p0 n0) := @mono_c Try.prog n0 19 none F69.c0 (F69.p0 n0) (F69.d0) F69.k0
noncomputable def F69.t1 (n0 : Nat) (x0 n2 : Value) (ds : List Nat) (h : H) (K : KP) : Prop :=
  Bnd (aBin Try.prog true .shr 120 x0 (.int .u64 16)) fun t6 =>
  K .normal [(0, t6), (2, (.int .i64 16))] ds h
theorem F69.g1 {n0 : Nat} (x0 n2 : Value) {ds : List Nat} {h : H} {K : KP} : wA Try.prog n0 19 none F69.c1 [(0, x0), (2, n2)] ds h K = F69.t1 n0 x0 n2 ds h K := by kernel_rfl
theorem F69.s1 {n0 : Nat} : F69.p1 n0 = wA Try.prog n0 19 none F69.c1 := by kernel_rfl
theorem F69.e1 {n0 : Nat} {x0 n2 : Value} {ds : List Nat} {h : H} {K : KP} : F69.p1 n0 [(0, x0), (2, n2)] ds h K = F69.t1 n0 x0 n2 ds h K :=
  wchain (F69.s1) (F69.g1 x0 n2)
noncomputable def F69.t2 (n0 : Nat) (B3 : WP) (B4 : WP) (x0 n2 : Value) (ds : List Nat) (h : H) (K : KP) : Prop :=
  Bnd (aBin Try.prog true .geq 120 x0 (.int .u32 256)) fun t8 =>
  Cnd t8
   (B3 [(0, x0), (2, n2)] ds h (KSeq [0, 2] B4 K))
   (B4 [(0, x0), (2, n2)] ds h K)
theorem F69.g2 {n0 : Nat} (B3 : WP) (B4 : WP) (x0 n2 : Value) {ds : List Nat} {h : H} {K : KP} : wA Try.prog n0 19 none (.seq [0, 2] (.seq [0, 2, 8] F69.c2.fst.fst (.cond [0, 2] (.tmp 8) (.sub B3) F69.c2.fst.snd.snd)) (.sub B4)) [(0, x0), (2, n2)] ds h K = F69.t2 n0 B3 B4 x0 n2 ds h K := by kernel_rfl
theorem F69.s2 {n0 : Nat} : F69.p2 n0 = wA Try.prog n0 19 none (.seq [0, 2] (.seq [0, 2, 8] F69.c2.fst.fst (.cond [0, 2] (.tmp 8) (.sub (F69.p3 n0)) F69.c2.fst.snd.snd)) (.sub (F69.p4 n0))) := by kernel_rfl
theorem F69.e2 {n0 : Nat} {x0 n2 : Value} {ds : List Nat} {h : H} {K : KP} : F69.p2 n0 [(0, x0), (2, n2)] ds h K = F69.t2 n0 (F69.p3 n0) (F69.p4 n0) x0 n2 ds h K :=
  wchain (F69.s2) (F69.g2 (F69.p3 n0) (F69.p4 n0) x0 n2)
noncomputable def F69.t3 (n0 : Nat) (x0 n2 : Value) (ds : List Nat) (h : H) (K : KP) : Prop :=
  Bnd (aBin Try.prog true .shr 120 x0 (.int .u64 8)) fun t10 =>
  Bnd (aBin Try.prog true .add 3 n2 (.int .i64 8)) fun t12 =>
  K .normal [(0, t10), (2, t12), (11, n2), (12, t12)] ds h
theorem F69.g3 {n0 : Nat} (x0 n2 : Value) {ds : List Nat} {h : H} {K : KP} : wA Try.prog n0 19 none F69.c3 [(0, x0), (2, n2)] ds h K = F69.t3 n0 x0 n2 ds h K := by kernel_rfl
theorem F69.s3 {n0 : Nat} : F69.p3 n0 = wA Try.prog n0 19 none F69.c3 := by kernel_rfl
theorem F69.e3 {n0 : Nat} {x0 n2 : Value} {ds : List Nat} {h : H} {K : KP} : F69.p3 n0 [(0, x0), (2, n2)] ds h K = F69.t3 n0 x0 n2 ds h K :=
  wchain (F69.s3) (F69.g3 x0 n2)
noncomputable def F69.t4 (n0 : Nat) (x0 n2 : Value) (ds : List Nat) (h : H) (K : KP) : Prop :=
  Bnd2 (cvt Try.prog 120 5 x0 h) fun t15 h1 =>
  Bnd (aIndex Try.prog 9 (.string ⟨#[0, 1, 2, 2, 3, 3, 3, 3, 4, 4, 4, 4, 4, 4, 4, 4, 5, 5, 5, 5, 5, 5, 5, 5, 5, 5, 5, 5, 5, 5, 5, 5, 6, 6, 6, 6, 6, 6, 6, 6, 6, 6, 6, 6, 6, 6, 6, 6, 6, 6, 6, 6, 6, 6, 6, 6, 6, 6, 6, 6, 6, 6, 6, 6, 7, 7, 7, 7, 7, 7, 7, 7, 7, 7, 7, 7, 7, 7, 7, 7, 7, 7, 7, 7, 7, 7, 7, 7, 7, 7, 7, 7, 7, 7, 7, 7, 7, 7, 7, 7, 7, 7, 7, 7, 7, 7, 7, 7, 7, 7, 7, 7, 7, 7, 7, 7, 7, 7, 7, 7, 7, 7, 7, 7, 7, 7, 7, 7, 8, 8, 8, 8, 8, 8, 8, 8, 8, 8, 8, 8, 8, 8, 8, 8, 8, 8, 8, 8, 8, 8, 8, 8, 8, 8, 8, 8, 8, 8, 8, 8, 8, 8, 8, 8, 8, 8, 8, 8, 8, 8, 8, 8, 8, 8, 8, 8, 8, 8, 8, 8, 8, 8, 8, 8, 8, 8, 8, 8, 8, 8, 8, 8, 8, 8, 8, 8, 8, 8, 8, 8, 8, 8, 8, 8, 8, 8, 8, 8, 8, 8, 8, 8, 8, 8, 8, 8, 8, 8, 8, 8, 8, 8, 8, 8, 8, 8, 8, 8, 8, 8, 8, 8, 8, 8, 8, 8, 8, 8, 8, 8, 8, 8, 8, 8, 8, 8, 8, 8, 8, 8, 8, 8, 8, 8, 8, 8]⟩) t15) fun t16 =>
  Bnd2 (cvt Try.prog 5 3 t16 h1) fun t17 h2 =>
  Bnd (aBin Try.prog false .add 3 n2 t17) fun t18 =>
  K .ret [(2, t18)] ds h2
theorem F69.g4 {n0 : Nat} (x0 n2 : Value) {ds : List Nat} {h : H} {K : KP} : wA Try.prog n0 19 none F69.c4 [(0, x0), (2, n2)] ds h K = F69.t4 n0 x0 n2 ds h K := by kernel_rfl
theorem F69.s4 {n0 : Nat} : F69.p4 n0 = wA Try.prog n0 19 none F69.c4 := by kernel_rfl
theorem F69.e4 {n0 : Nat} {x0 n2 : Value} {ds : List Nat} {h : H} {K : KP} : F69.p4 n0 [(0, x0), (2, n2)] ds h K = F69.t4 n0 x0 n2 ds h K :=
  wchain (F69.s4) (F69.g4 x0 n2)
theorem F69.b : Try.f69.body = some F69.c0.erase := by kernel_rfl
theorem F69.b2 : (Try.f69.name == "runtime.NumGoroutine") = false := by kernel_rfl
theorem F69.b3 : Try.f69.ntmps = 19 := by kernel_rfl
theorem F69.b4 : Try.f69.results.toList = [.tmp 2] := by kernel_rfl
theorem F69.enter {n0 : Nat} {x0 : Value} {h : H} {Q : Value → H → Prop} (w : F69.p0 n0 [(0, x0)] [] h (KFin Try.prog [.tmp 2] Q)) : Cn Try.prog n0 (.func 69) [x0] h Q :=
  @fn_enter Try.prog n0 mixed 69 Try.f69 F69.c0 [x0] h Q Try.func69 F69.b F69.k0 F69.b2 19 F69.b3 [.tmp 2] F69.b4 (by simp) [(0, x0)] rfl (wback F69.d0 w)

/-! math.bits.Len64 -/
noncomputable def F70.ac : AC := (ann (bodyOf Try.f70) [[0, 2], [0, 2], [0, 2, 4], [0, 2], [0], [0, 2], [0, 2, 8], [0, 2], [0, 2], [0, 2], [0, 2, 14], [0, 2], [0, 2], [2]]).1
noncomputable def F70.c0 : AC := F70.ac
noncomputable def F70.c1 : AC := F70.ac.snd.fst.snd.fst
noncomputable def F70.c2 : AC := F70.ac.snd.snd
noncomputable def F70.c3 : AC := F70.ac.snd.snd.fst.snd.fst
noncomputable def F70.c4 : AC := F70.ac.snd.snd.snd
noncomputable def F70.c5 : AC := F70.ac.snd.snd.snd.fst.snd.fst
noncomputable def F70.c6 : AC := F70.ac.snd.snd.snd.snd
noncomputable def F70.p0 (n0 : Nat) : WP := wA Try.prog n0 25 none F70.c0
noncomputable def F70.p1 (n0 : Nat) : WP := wA Try.prog n0 25 none F70.c1
noncomputable def F70.p2 (n0 : Nat) : WP := wA Try.prog n0 25 none F70.c2
noncomputable def F70.p3 (n0 : Nat) : WP := wA Try.prog n0 25 none F70.c3
noncomputable def F70.p4 (n0 : Nat) : WP := wA Try.prog n0 25 none F70.c4
noncomputable def F70.p5 (n0 : Nat) : WP := wA Try.prog n0 25 none F70.c5
noncomputable def F70.p6 (n0 : Nat) : WP := wA Try.prog n0 25 none F70.c6
noncomputable def F70.t0 (n0 : Nat) (B1 : WP) (B2 : WP) (x0 : Value) (ds : List Nat) (h : H) (K : KP) : Prop :=
  Bnd (aBin Try.prog true .geq 78 x0 (.int .u64 4294967296)) fun t4 =>
  Cnd t4
   (B1 [(0, x0), (2, (.int .i64 0))] ds h (KSeq [0, 2] B2 K))
   (B2 [(0, x0), (2, (.int .i64 0))] ds h K)
theorem F70.g0 {n0 : Nat} (B1 : WP) (B2 : WP) (x0 : Value) {ds : List Nat} {h : H} {K : KP} : wA Try.prog n0 25 none (.seq [0, 2] F70.c0.fst (.seq [0, 2] (.seq [0, 2, 4] F70.c0.snd.fst.fst (.cond [0, 2] (.tmp 4) (.sub B1) F70.c0.snd.fst.snd.snd)) (.sub B2))) [(0, x0)] ds h K = F70.t0 n0 B1 B2 x0 ds h K := by kernel_rfl
theorem F70.s0 {n0 : Nat} : F70.p0 n0 = wA Try.prog n0 25 none (.seq [0, 2] F70.c0.fst (.seq [0, 2] (.seq [0, 2, 4] F70.c0.snd.fst.fst (.cond [0, 2] (.tmp 4) (.sub (F70.p1 n0)) F70.c0.snd.fst.snd.snd)) (.sub (F70.p2 n0)))) := by kernel_rfl
theorem F70.e0 {n0 : Nat} {x0 : Value} {ds : List Nat} {h : H} {K : KP} : F70.p0 n0 [(0, x0)] ds h K = F70.t0 n0 (F70.p1 n0) (F70.p2 n0) x0 ds h K :=
  wchain (F70.s0) (F70.g0 (F70.p1 n0) (F70.p2 n0) x0)
theorem F70.k0 : F70.c0.ok = true := by kernel_rfl
theorem F70.d0 {n0 : Nat} : F70.p0 n0 = wA Try.prog n0 25 none F70.c0 := by kernel_rfl
theorem F70.m0 (n0 : Nat) : MonoW (F70.p0 n0) := @mono_c Try.prog n0 25 none F70.c0 (F70.p0 n0) (F70.d0) F70.k0
noncomputable def F70.t1 (n0 : Nat) (x0 n2 : Value) (ds : List Nat) (h : H) (K : KP) : Prop :=
  Bnd (aBin Try.prog true .shr 78 x0 (.int .u64 32)) fun t6 =>
  K .normal [(0, t6), (2, (.int .i64 32))] ds h
theorem F70.g1 {n0 : Nat} (x0 n2 : Value) {ds : List Nat} {h : H} {K : KP} : wA Try.prog n0 25 none F70.c1 [(0, x0), (2, n2)] ds h K = F70.t1 n0 x0 n2 ds h K := by kernel_rfl
theorem F70.s1 {n0 : Nat} : F70.p1 n0 = wA Try.prog n0 25 none F70.c1 := by kernel_rfl
theorem F70.e1 {n0 : Nat} {x0 n2 : Value} {ds : List Nat} {h : H} {K : KP} : F70.p1 n0 [(0, x0), (2, n2)] ds h K = F70.t1 n0 x0 n2 ds h K :=
  wchain (F70.s1) (F70.g1 x0 n2)
noncomputable def F70.t2 (n0 : Nat) (B3 : WP) (B4 : WP) (x0 n2 : Value) (ds : List Nat) (h : H) (K : KP) : Prop :=
  Bnd (aBin Try.prog true .geq 78 x0 (.int .u64 65536)) fun t8 =>
  Cnd t8
   (B3 [(0, x0), (2, n2)] ds h (KSeq [0, 2] B4 K))
   (B4 [(0, x0), (2, n2)] ds h K)
theorem F70.g2 {n0 : Nat} (B3 : WP) (B4 : WP) (x0 n2 : Value) {ds : List Nat} {h : H} {K : KP} : wA Try.prog n0 25 none (.seq [0, 2] (.seq [0, 2, 8] F70.c2.fst.fst (.cond [0, 2] (.tmp 8) (.sub B3) F70.c2.fst.snd.snd)) (.sub B4)) [(0, x0), (2, n2)] ds h K = F70.t2 n0 B3 B4 x0 n2 ds h K := by kernel_rfl
theorem F70.s2 {n0 : Nat} : F70.p2 n0 = wA Try.prog n0 25 none (.seq [0, 2] (.seq [0, 2, 8] F70.c2.fst.fst (.cond [0, 2] (.tmp 8) (.sub (F70.p3 n0)) F70.c2.fst.snd.snd)) (.sub (F70.p4 n0))) := by kernel_rfl
theorem F70.e2 {n0 : Nat} {x0 n2 : Value} {ds : List Nat} {h : H} {K : KP} : F70.p2 n0 [(0, x0), (2, n2)] ds h K = F70.t2 n0 (F70.p3 n0) (F70.p4 n0) x0 n2 ds h K :=
  wchain (F70.s2) (F70.g2 (F70.p3 n0) (F70.p4 n0) x0 n2)
noncomputable def F70.t3 (n0 : Nat) (x0 n2 : Value) (ds : List Nat) (h : H) (K : KP) : Prop :=
  Bnd (aBin Try.prog true .shr 78 x0 (.int .u64 16)) fun t10 =>
  Bnd (aBin Try.prog true .add 3 n2 (.int .i64 16)) fun t12 =>
  K .normal [(0, t10), (2, t12), (11, n2), (12, t12)] ds h
theorem F70.g3 {n0 : Nat} (x0 n2 : Value) {ds : List Nat} {h : H} {K : KP} : wA Try.prog n0 25 none F70.c3 [(0, x0), (2, n2)] ds h K = F70.t3 n0 x0 n2 ds h K := by kernel_rfl
theorem F70.s3 {n0 : Nat} : F70.p3 n0 = wA Try.prog n0 25 none F70.c3 := by kernel_rfl
theorem F70.e3 {n0 : Nat} {x0 n2 : Value} {ds : List Nat} {h : H} {K : KP} : F70.p3 n0 [(0, x0), (2, n2)] ds h K = F70.t3 n0 x0 n2 ds h K :=
  wchain (F70.s3) (F70.g3 x0 n2)
noncomputable def F70.t4 (n0 : Nat) (B5 : WP) (B6 : WP) (x0 n2 : Value) (ds : List Nat) (h : H) (K : KP) : Prop :=
  Bnd (aBin Try.prog true .geq 78 x0 (.int .u64 256)) fun t14 =>
  Cnd t14
   (B5 [(0, x0), (2, n2)] ds h (KSeq [0, 2] B6 K))
   (B6 [(0, x0), (2, n2)] ds h K)
theorem F70.g4 {n0 : Nat} (B5 : WP) (B6 : WP) (x0 n2 : Value) {ds : List Nat} {h : H} {K : KP} : wA Try.prog n0 25 none (.seq [0, 2] (.seq [0, 2, 14] F70.c4.fst.fst (.cond [0, 2] (.tmp 14) (.sub B5) F70.c4.fst.snd.snd)) (.sub B6)) [(0, x0), (2, n2)] ds h K = F70.t4 n0 B5 B6 x0 n2 ds h K := by kernel_rfl
theorem F70.s4 {n0 : Nat} : F70.p4 n0 = wA Try.prog n0 25 none (.seq [0, 2] (.seq [0, 2, 14] F70.c4.fst.fst (.cond [0, 2] (.tmp 14) (.sub (F70.p5 n0)) F70.c4.fst.snd.snd)) (.sub (F70.p6 n0))) := by kernel_rfl
theorem F70.e4 {n0 : Nat} {x0 n2 : Value} {ds : List Nat} {h : H} {K : KP} : F70.p4 n0 [(0, x0), (2, n2)] ds h K = F70.t4 n0 (F70.p5 n0) (F70.p6 n0) x0 n2 ds h K :=
  wchain (F70.s4) (F70.g4 (F70.p5 n0) (F70.p6 n0) x0 n2)
noncomputable def F70.t5 (n0 : Nat) (x0 n2 : Value) (ds : List Nat) (h : H) (K : KP) : Prop :=
  Bnd (aBin Try.prog true .shr 78 x0 (.int .u64 8)) fun t16 =>
  Bnd (aBin Try.prog true .add 3 n2 (.int .i64 8)) fun t18 =>
  K .normal [(0, t16), (2, t18), (17, n2), (18, t18)] ds h
theorem F70.g5 {n0 : Nat} (x0 n2 : Value) {ds : List Nat} {h : H} {K : KP} : wA Try.prog n0 25 none F70.c5 [(0, x0), (2, n2)] ds h K = F70.t5 n0 x0 n2 ds h K := by kernel_rfl
theorem F70.s5 {n0 : Nat} : F70.p5 n0 = wA Try.prog n0 25 none F70.c5 := by kernel_rfl
theorem F70.e5 {n0 : Nat} {x0 n2 : Value} {ds : List Nat} {h : H} {K : KP} : F70.p5 n0 [(0, x0), (2, n2)] ds h K = F70.t5 n0 x0 n2 ds h K :=
  wchain (F70.s5) (F70.g5 x0 n2)
noncomputable def F70.t6 (n0 : Nat) (x0 n2 : Value) (ds : List Nat) (h : H) (K : KP) : Prop :=
  Bnd2 (cvt Try.prog 78 5 x0 h) fun t21 h1 =>
  Bnd (aIndex Try.prog 9 (.string ⟨#[0, 1, 2, 2, 3, 3, 3, 3, 4, 4, 4, 4, 4, 4, 4, 4, 5, 5, 5, 5, 5, 5, 5, 5, 5, 5, 5, 5, 5, 5, 5, 5, 6, 6, 6, 6, 6, 6, 6, 6, 6, 6, 6, 6, 6, 6, 6, 6, 6, 6, 6, 6, 6, 6, 6, 6, 6, 6, 6, 6, 6, 6, 6, 6, 7, 7, 7, 7, 7, 7, 7, 7, 7, 7, 7, 7, 7, 7, 7, 7, 7, 7, 7, 7, 7, 7, 7, 7, 7, 7, 7, 7, 7, 7, 7, 7, 7, 7, 7, 7, 7, 7, 7, 7, 7, 7, 7, 7, 7, 7, 7, 7, 7, 7, 7, 7, 7, 7, 7, 7, 7, 7, 7, 7, 7, 7, 7, 7, 8, 8, 8, 8, 8, 8, 8, 8, 8, 8, 8, 8, 8, 8, 8, 8, 8, 8, 8, 8, 8, 8, 8, 8, 8, 8, 8, 8, 8, 8, 8, 8, 8, 8, 8, 8, 8, 8, 8, 8, 8, 8, 8, 8, 8, 8, 8, 8, 8, 8, 8, 8, 8, 8, 8, 8, 8, 8, 8, 8, 8, 8, 8, 8, 8, 8, 8, 8, 8, 8, 8, 8, 8, 8, 8, 8, 8, 8, 8, 8, 8, 8, 8, 8, 8, 8, 8, 8, 8, 8, 8, 8, 8, 8, 8, 8, 8, 8, 8, 8, 8, 8, 8, 8, 8, 8, 8, 8, 8, 8, 8, 8, 8, 8, 8, 8, 8, 8, 8, 8, 8, 8, 8, 8, 8, 8, 8, 8]⟩) t21) fun t22 =>
  Bnd2 (cvt Try.prog 5 3 t22 h1) fun t23 h2 =>
  Bnd (aBin Try.prog false .add 3 n2 t23) fun t24 =>
  K .ret [(2, t24)] ds h2
theorem F70.g6 {n0 : Nat} (x0 n2 : Value) {ds : List Nat} {h : H} {K : KP} : wA Try.prog n0 25 none F70.c6 [(0, x0), (2, n2)] ds h K = F70.t6 n0 x0 n2 ds h K := by kernel_rfl
theorem F70.s6 {n0 : Nat} : F70.p6 n0 = wA Try.prog n0 25 none F70.c6 := by kernel_rfl
theorem F70.e6 {n0 : Nat} {x0 n2 : Value} {ds : List Nat} {h : H} {K : KP} : F70.p6 n0 [(0, x0), (2, n2)] ds h K = F70.t6 n0 x0 n2 ds h K :=
  wchain (F70.s6) (F70.g6 x0 n2)
theorem F70.b : Try.f70.body = some F70.c0.erase := by kernel_rfl
theorem F70.b2 : (Try.f70.name == "runtime.NumGoroutine") = false := by kernel_rfl
theorem F70.b3 : Try.f70.ntmps = 25 := by kernel_rfl
theorem F70.b4 : Try.f70.results.toList = [.tmp 2] := by kernel_rfl
theorem F70.enter {n0 : Nat} {x0 : Value} {h : H} {Q : Value → H → Prop} (w : F70.p0 n0 [(0, x0)] [] h (KFin Try.prog [.tmp 2] Q)) : Cn Try.prog n0 (.func 70) [x0] h Q :=
  @fn_enter Try.prog n0 mixed 70 Try.f70 F70.c0 [x0] h Q Try.func70 F70.b F70.k0 F70.b2 25 F70.b3 [.tmp 2] F70.b4 (by simp) [(0, x0)] rfl (wback F70.d0 w)

/-! roster.rosterlaw02.BerNumbers -/
noncomputable def F4.ac : AC := (ann (bodyOf Try.f4) [[0], [0, 3], [0, 3], [0, 3, 24], [0, 3], [2], [0, 4, 5], [0, 4], [0, 4, 51], [0, 4], [2], [0, 4, 6, 7], [0, 4, 6, 7, 8], [0, 4, 6, 7, 8], [0, 4, 6, 7, 8, 61], [0, 4, 6, 7, 8], [0, 4, 6, 7, 8, 9], [0, 4, 6, 7, 9], [0, 6, 7, 9], [0, 6, 7, 11], [2]]).1
noncomputable def F4.c0 : AC := F4.ac
noncomputable def F4.c1 : AC := F4.ac.snd.snd.fst.snd.fst
noncomputable def F4.c2 : AC := F4.ac.snd.snd.snd
noncomputable def F4.c3 : AC := F4.ac.snd.snd.snd.snd.fst.snd.fst
noncomputable def F4.c4 : AC := F4.ac.snd.snd.snd.snd.snd
noncomputable def F4.c5 : AC := F4.ac.snd.snd.snd.snd.snd.snd.snd.fst.snd.fst
noncomputable def F4.c6 : AC := F4.ac.snd.snd.snd.snd.snd.snd.snd.snd
noncomputable def F4.p0 (n0 : Nat) : WP := wA Try.prog n0 89 none F4.c0
noncomputable def F4.p1 (n0 : Nat) : WP := wA Try.prog n0 89 none F4.c1
noncomputable def F4.p2 (n0 : Nat) : WP := wA Try.prog n0 89 none F4.c2
noncomputable def F4.p3 (n0 : Nat) : WP := wA Try.prog n0 89 none F4.c3
noncomputable def F4.p4 (n0 : Nat) : WP := wA Try.prog n0 89 none F4.c4
noncomputable def F4.p5 (n0 : Nat) : WP := wA Try.prog n0 89 none F4.c5
noncomputable def F4.p6 (n0 : Nat) : WP := wA Try.prog n0 89 none F4.c6
noncomputable def F4.t0 (n0 : Nat) (B1 : WP) (B2 : WP) (v0 : Value) (ds : List Nat) (h : H) (K : KP) : Prop :=
  Cn Try.prog n0 (.func 17) [] h fun t12 h1 =>
  Cn Try.prog n0 (.func 16) [] h1 fun t13 h2 =>
  Bnd (aUn .not t13) fun t14 =>
  Gd t14
   (B1 [(0, v0), (3, t12)] ds h2 (KSeq [0, 3] B2 K))
   (Bnd (aBin Try.prog true .eql 33 t12 (.pointer none)) fun t17 =>
  Gd t17
   (B1 [(0, v0), (3, t12)] ds h2 (KSeq [0, 3] B2 K))
   (Cn Try.prog n0 (.func 18) [t12, (.int .i8 0), (.int .i64 2), v0] h2 fun t22 h3 =>
  Bnd (aBin Try.prog true .neq 27 t22 (.int .i64 0)) fun t23 =>
  Cnd t23
   (B1 [(0, v0), (3, t12)] ds h3 (KSeq [0, 3] B2 K))
   (B2 [(0, v0), (3, t12)] ds h3 K)))
theorem F4.g0 {n0 : Nat} (B1 : WP) (B2 : WP) (v0 : Value) {ds : List Nat} {h : H} {K : KP} : wA Try.prog n0 89 none (.seq [0] F4.c0.fst (.seq [0, 3] F4.c0.snd.fst (.seq [0, 3] (.seq [0, 3, 24] F4.c0.snd.snd.fst.fst (.cond [0, 3] (.tmp 24) (.sub B1) F4.c0.snd.snd.fst.snd.snd)) (.sub B2)))) [(0, v0)] ds h K = F4.t0 n0 B1 B2 v0 ds h K := by kernel_rfl
theorem F4.s0 {n0 : Nat} : F4.p0 n0 = wA Try.prog n0 89 none (.seq [0] F4.c0.fst (.seq [0, 3] F4.c0.snd.fst (.seq [0, 3] (.seq [0, 3, 24] F4.c0.snd.snd.fst.fst (.cond [0, 3] (.tmp 24) (.sub (F4.p1 n0)) F4.c0.snd.snd.fst.snd.snd)) (.sub (F4.p2 n0))))) := by kernel_rfl
theorem F4.e0 {n0 : Nat} {v0 : Value} {ds : List Nat} {h : H} {K : KP} : F4.p0 n0 [(0, v0)] ds h K = F4.t0 n0 (F4.p1 n0) (F4.p2 n0) v0 ds h K :=
  wchain (F4.s0) (F4.g0 (F4.p1 n0) (F4.p2 n0) v0)
theorem F4.k0 : F4.c0.ok = true := by kernel_rfl
theorem F4.d0 {n0 : Nat} : F4.p0 n0 = wA Try.prog n0 89 none F4.c0 := by kernel_rfl
theorem F4.m0 (n0 : Nat) : MonoW (F4.p0 n0) := @mono_c Try.prog n0 89 none F4.c0 (F4.p0 n0) (F4.d0) F4.k0
noncomputable def F4.t1 (n0 : Nat) (v0 w3 : Value) (ds : List Nat) (h : H) (K : KP) : Prop :=
  K .ret [(2, (.bool false))] ds h
theorem F4.g1 {n0 : Nat} (v0 w3 : Value) {ds : List Nat} {h : H} {K : KP} : wA Try.prog n0 89 none F4.c1 [(0, v0), (3, w3)] ds h K = F4.t1 n0 v0 w3 ds h K := by kernel_rfl
theorem F4.s1 {n0 : Nat} : F4.p1 n0 = wA Try.prog n0 89 none F4.c1 := by kernel_rfl
theorem F4.e1 {n0 : Nat} {v0 w3 : Value} {ds : List Nat} {h : H} {K : KP} : F4.p1 n0 [(0, v0), (3, w3)] ds h K = F4.t1 n0 v0 w3 ds h K :=
  wchain (F4.s1) (F4.g1 v0 w3)
noncomputable def F4.t2 (n0 : Nat) (B3 : WP) (B4 : WP) (v0 w3 : Value) (ds : List Nat) (h : H) (K : KP) : Prop :=
  Cn Try.prog n0 (.func 19) [w3] h fun t27 h1 =>
  Bnd (tupAt t27 0) fun t28 =>
  Bnd (tupAt t27 1) fun t29 =>
  Bnd (aBin Try.prog true .neq 27 t29 (.int .i64 0)) fun t31 =>
  Gd t31
   (B3 [(0, v0), (4, t28)] ds h1 (KSeq [0, 4] B4 K))
   (Bnd2 (aBuiltin Try.prog .len #[22] [t28] h1) fun t34 h2 =>
  Bnd (aBin Try.prog true .lss 3 t34 (.int .i64 3)) fun t35 =>
  Gd t35
   (B3 [(0, v0), (4, t28)] ds h2 (KSeq [0, 4] B4 K))
   (Bnd2 (aBuiltin Try.prog .len #[22] [t28] h2) fun t39 h3 =>
  Bnd (aBin Try.prog true .gtr 3 t39 (.int .i64 10)) fun t40 =>
  Gd t40
   (B3 [(0, v0), (4, t28)] ds h3 (KSeq [0, 4] B4 K))
   (Bnd (aIndexAddr Try.prog 22 t28 (.int .i64 1)) fun t44 =>
  Bnd (aLoad Try.prog 5 t44 h3) fun t45 =>
  Bnd2 (cvt Try.prog 5 3 t45 h3) fun t46 h4 =>
  Bnd2 (aBuiltin Try.prog .len #[22] [t28] h4) fun t48 h5 =>
  Bnd (aBin Try.prog true .sub 3 t48 (.int .i64 2)) fun t49 =>
  Bnd (aBin Try.prog false .neq 3 t46 t49) fun t50 =>
  Cnd t50
   (B3 [(0, v0), (4, t28)] ds h5 (KSeq [0, 4] B4 K))
   (B4 [(0, v0), (4, t28)] ds h5 K))))
theorem F4.g2 {n0 : Nat} (B3 : WP) (B4 : WP) (v0 w3 : Value) {ds : List Nat} {h : H} {K : KP} : wA Try.prog n0 89 none (.seq [0, 4, 5] F4.c2.fst (.seq [0, 4] (.seq [0, 4, 51] F4.c2.snd.fst.fst (.cond [0, 4] (.tmp 51) (.sub B3) F4.c2.snd.fst.snd.snd)) (.sub B4))) [(0, v0), (3, w3)] ds h K = F4.t2 n0 B3 B4 v0 w3 ds h K := by kernel_rfl
theorem F4.s2 {n0 : Nat} : F4.p2 n0 = wA Try.prog n0 89 none (.seq [0, 4, 5] F4.c2.fst (.seq [0, 4] (.seq [0, 4, 51] F4.c2.snd.fst.fst (.cond [0, 4] (.tmp 51) (.sub (F4.p3 n0)) F4.c2.snd.fst.snd.snd)) (.sub (F4.p4 n0)))) := by kernel_rfl
theorem F4.e2 {n0 : Nat} {v0 w3 : Value} {ds : List Nat} {h : H} {K : KP} : F4.p2 n0 [(0, v0), (3, w3)] ds h K = F4.t2 n0 (F4.p3 n0) (F4.p4 n0) v0 w3 ds h K :=
  wchain (F4.s2) (F4.g2 (F4.p3 n0) (F4.p4 n0) v0 w3)
noncomputable def F4.t3 (n0 : Nat) (v0 b4 : Value) (ds : List Nat) (h : H) (K : KP) : Prop :=
  K .ret [(2, (.bool false))] ds h
theorem F4.g3 {n0 : Nat} (v0 b4 : Value) {ds : List Nat} {h : H} {K : KP} : wA Try.prog n0 89 none F4.c3 [(0, v0), (4, b4)] ds h K = F4.t3 n0 v0 b4 ds h K := by kernel_rfl
theorem F4.s3 {n0 : Nat} : F4.p3 n0 = wA Try.prog n0 89 none F4.c3 := by kernel_rfl
theorem F4.e3 {n0 : Nat} {v0 b4 : Value} {ds : List Nat} {h : H} {K : KP} : F4.p3 n0 [(0, v0), (4, b4)] ds h K = F4.t3 n0 v0 b4 ds h K :=
  wchain (F4.s3) (F4.g3 v0 b4)
noncomputable def F4.t4 (n0 : Nat) (B5 : WP) (B6 : WP) (v0 b4 : Value) (ds : List Nat) (h : H) (K : KP) : Prop :=
  Bnd2 (aBuiltin Try.prog .len #[22] [b4] h) fun t55 h1 =>
  Bnd (aBuild Try.prog 26 [(2, (.int .i64 2)), (3, (.int .i64 2)), (4, t55)]) fun t56 =>
  Cn Try.prog n0 (.func 20) [b4, t56] h1 fun t57 h2 =>
  Bnd (tupAt t57 0) fun t58 =>
  Bnd (tupAt t57 1) fun t59 =>
  Bnd (aBin Try.prog true .lss 2 v0 (.int .i64 0)) fun t61 =>
  Cnd t61
   (B5 [(0, v0), (4, b4), (6, t58), (7, t59), (8, (.int .u8 0))] ds h2 (KSeq [0, 4, 6, 7, 8] B6 K))
   (B6 [(0, v0), (4, b4), (6, t58), (7, t59), (8, (.int .u8 0))] ds h2 K)
theorem F4.g4 {n0 : Nat} (B5 : WP) (B6 : WP) (v0 b4 : Value) {ds : List Nat} {h : H} {K : KP} : wA Try.prog n0 89 none (.seq [0, 4, 6, 7] F4.c4.fst (.seq [0, 4, 6, 7, 8] F4.c4.snd.fst (.seq [0, 4, 6, 7, 8] (.seq [0, 4, 6, 7, 8, 61] F4.c4.snd.snd.fst.fst (.cond [0, 4, 6, 7, 8] (.tmp 61) (.sub B5) F4.c4.snd.snd.fst.snd.snd)) (.sub B6)))) [(0, v0), (4, b4)] ds h K = F4.t4 n0 B5 B6 v0 b4 ds h K := by kernel_rfl
theorem F4.s4 {n0 : Nat} : F4.p4 n0 = wA Try.prog n0 89 none (.seq [0, 4, 6, 7] F4.c4.fst (.seq [0, 4, 6, 7, 8] F4.c4.snd.fst (.seq [0, 4, 6, 7, 8] (.seq [0, 4, 6, 7, 8, 61] F4.c4.snd.snd.fst.fst (.cond [0, 4, 6, 7, 8] (.tmp 61) (.sub (F4.p5 n0)) F4.c4.snd.snd.fst.snd.snd)) (.sub (F4.p6 n0))))) := by kernel_rfl
theorem F4.e4 {n0 : Nat} {v0 b4 : Value} {ds : List Nat} {h : H} {K : KP} : F4.p4 n0 [(0, v0), (4, b4)] ds h K = F4.t4 n0 (F4.p5 n0) (F4.p6 n0) v0 b4 ds h K :=
  wchain (F4.s4) (F4.g4 (F4.p5 n0) (F4.p6 n0) v0 b4)
noncomputable def F4.t5 (n0 : Nat) (v0 b4 n6 f7 sign8 : Value) (ds : List Nat) (h : H) (K : KP) : Prop :=
  K .normal [(0, v0), (4, b4), (6, n6), (7, f7), (8, (.int .u8 255))] ds h
theorem F4.g5 {n0 : Nat} (v0 b4 n6 f7 sign8 : Value) {ds : List Nat} {h : H} {K : KP} : wA Try.prog n0 89 none F4.c5 [(0, v0), (4, b4), (6, n6), (7, f7), (8, sign8)] ds h K = F4.t5 n0 v0 b4 n6 f7 sign8 ds h K := by kernel_rfl
theorem F4.s5 {n0 : Nat} : F4.p5 n0 = wA Try.prog n0 89 none F4.c5 := by kernel_rfl
theorem F4.e5 {n0 : Nat} {v0 b4 n6 f7 sign8 : Value} {ds : List Nat} {h : H} {K : KP} : F4.p5 n0 [(0, v0), (4, b4), (6, n6), (7, f7), (8, sign8)] ds h K = F4.t5 n0 v0 b4 n6 f7 sign8 ds h K :=
  wchain (F4.s5) (F4.g5 v0 b4 n6 f7 sign8)
noncomputable def F4.t6 (n0 : Nat) (v0 b4 n6 f7 sign8 : Value) (ds : List Nat) (h : H) (K : KP) : Prop :=
  Bnd2 (aBuildSlice Try.prog 22 1 [(0, sign8)] h) fun t64 h1 =>
  Bnd2 (aBuiltin Try.prog .append #[22, 22] [(.slice none 0 0), t64] h1) fun t65 h2 =>
  Bnd (aSlice Try.prog 22 b4 (some (.int .i64 2)) none none h2) fun t68 =>
  Bnd2 (aBuiltin Try.prog .append #[22, 22] [t65, t68] h2) fun t69 h3 =>
  Bnd2 (aBuiltin Try.prog .len #[22] [t69] h3) fun t73 h4 =>
  Bnd (aBuild Try.prog 26 [(2, (.int .i64 2)), (4, t73)]) fun t74 =>
  Cn Try.prog n0 (.func 20) [t69, t74] h4 fun t75 h5 =>
  Bnd (tupAt t75 0) fun t76 =>
  Bnd (tupAt t75 1) fun t77 =>
  Bnd (aBin Try.prog true .eql 27 f7 (.int .i64 0)) fun t79 =>
  Gd t79
   (Bnd (aBin Try.prog false .eql 2 n6 v0) fun t83 =>
  Gd t83
   (Bnd (aBin Try.prog true .eql 27 t77 (.int .i64 23)) fun t87 =>
  K .ret [(2, t87)] ds h5)
   (K .ret [(2, (.bool false))] ds h5))
   (K .ret [(2, (.bool false))] ds h5)
theorem F4.g6 {n0 : Nat} (v0 b4 n6 f7 sign8 : Value) {ds : List Nat} {h : H} {K : KP} : wA Try.prog n0 89 none F4.c6 [(0, v0), (4, b4), (6, n6), (7, f7), (8, sign8)] ds h K = F4.t6 n0 v0 b4 n6 f7 sign8 ds h K := by kernel_rfl
theorem F4.s6 {n0 : Nat} : F4.p6 n0 = wA Try.prog n0 89 none F4.c6 := by kernel_rfl
theorem F4.e6 {n0 : Nat} {v0 b4 n6 f7 sign8 : Value} {ds : List Nat} {h : H} {K : KP} : F4.p6 n0 [(0, v0), (4, b4), (6, n6), (7, f7), (8, sign8)] ds h K = F4.t6 n0 v0 b4 n6 f7 sign8 ds h K :=
  wchain (F4.s6) (F4.g6 v0 b4 n6 f7 sign8)
theorem F4.b : Try.f4.body = some F4.c0.erase := by kernel_rfl
theorem F4.b2 : (Try.f4.name == "runtime.NumGoroutine") = false := by kernel_rfl
theorem F4.b3 : Try.f4.ntmps = 89 := by kernel_rfl
theorem F4.b4 : Try.f4.results.toList = [.tmp 2] := by kernel_rfl
theorem F4.enter {n0 : Nat} {x0 : Value} {h : H} {Q : Value → H → Prop} (w : F4.p0 n0 [(0, x0)] [] h (KFin Try.prog [.tmp 2] Q)) : Cn Try.prog n0 (.func 4) [x0] h Q :=
  @fn_enter Try.prog n0 mixed 4 Try.f4 F4.c0 [x0] h Q Try.func4 F4.b F4.k0 F4.b2 89 F4.b3 [.tmp 2] F4.b4 (by simp) [(0, x0)] rfl (wback F4.d0 w)

/-! roster.rosterlaw02.BerWrites -/
noncomputable def F5.ac : AC := (ann (bodyOf Try.f5) [[0, 1], [0, 1], [0, 1, 31], [0, 1], [4], [0, 1, 5, 6], [0, 1, 5, 6, 7, 8], [0, 1, 5, 6, 7, 8], [0, 1, 5, 6, 7, 8, 42], [0, 1, 5, 6, 7, 8], [4], [0, 1, 5, 6, 7, 8, 9, 10], [5, 7, 9, 10], [0, 1, 5, 6, 7, 8, 9, 10, 11], [5, 7, 9, 10], [0, 1, 5, 6, 7, 8, 9, 10, 11], [0, 1, 5, 6, 7, 8, 9, 10, 11], [0, 1, 5, 6, 7, 8, 9, 10, 11, 52], [0, 1, 5, 6, 7, 8, 9, 10, 11], [0, 1, 5, 6, 7, 8, 9, 10, 11], [0, 1, 5, 6, 7, 8, 9, 10, 11], [0, 1, 5, 6, 7, 8, 9, 10, 11], [0, 1, 5, 6, 7, 8, 9, 10, 11, 58], [0, 1, 5, 6, 7, 8, 9, 10, 11], [0, 1, 5, 6, 7, 8, 9, 10, 11, 12, 13], [0, 1, 5, 6, 7, 8, 9, 10, 11, 12, 13, 14, 15], [0, 1, 5, 6, 7, 8, 9, 10, 11, 12, 14], [0, 1, 5, 6, 7, 8, 9, 10, 11, 12, 14, 86], [0, 1, 5, 6, 7, 8, 9, 10, 11, 12, 14], [4], [0, 1, 5, 6, 7, 8, 9, 10, 11, 98], [0, 1, 5, 6, 7, 8, 9, 10, 11], [0, 1, 5, 6, 7, 8, 9, 10, 11, 16, 17], [0, 1, 5, 6, 7, 8, 9, 10, 11, 16, 17, 18, 19], [0, 1, 5, 6, 7, 8, 9, 10, 11, 16, 18], [0, 1, 5, 6, 7, 8, 9, 10, 11, 16, 18, 126], [0, 1, 5, 6, 7, 8, 9, 10, 11, 16, 18], [4], [7, 9, 10, 20, 21], [9, 10, 20, 21, 22, 23], [4]]).1
noncomputable def F5.c0 : AC := F5.ac
noncomputable def F5.c1 : AC := F5.ac.snd.fst.snd.fst
noncomputable def F5.c2 : AC := F5.ac.snd.snd
noncomputable def F5.c3 : AC := F5.ac.snd.snd.snd.snd.fst.snd.fst
noncomputable def F5.c4 : AC := F5.ac.snd.snd.snd.snd.snd
noncomputable def F5.c5 : AC := F5.ac.snd.snd.snd.snd.snd.snd.fst.snd.fst.fst
noncomputable def F5.c6 : AC := F5.ac.snd.snd.snd.snd.snd.snd.fst.snd.fst.fst.snd
noncomputable def F5.c7 : AC := F5.ac.snd.snd.snd.snd.snd.snd.fst.snd.fst.fst.snd.fst.fst.fst.snd.fst
noncomputable def F5.c8 : AC := F5.ac.snd.snd.snd.snd.snd.snd.fst.snd.fst.fst.snd.fst.fst.fst.snd.fst.snd.snd.fst.snd.fst
noncomputable def F5.c9 : AC := F5.ac.snd.snd.snd.snd.snd.snd.fst.snd.fst.fst.snd.fst.fst.fst.snd.fst.snd.snd.snd
noncomputable def F5.c10 : AC := F5.ac.snd.snd.snd.snd.snd.snd.fst.snd.fst.fst.snd.fst.fst.snd
noncomputable def F5.c11 : AC := F5.ac.snd.snd.snd.snd.snd.snd.fst.snd.fst.fst.snd.fst.fst.snd.snd.fst
noncomputable def F5.c12 : AC := F5.ac.snd.snd.snd.snd.snd.snd.fst.snd.fst.fst.snd.fst.fst.snd.snd.fst.snd.snd.fst.snd.fst
noncomputable def F5.c13 : AC := F5.ac.snd.snd.snd.snd.snd.snd.fst.snd.fst.fst.snd.fst.fst.snd.snd.fst.snd.snd.snd
noncomputable def F5.c14 : AC := F5.ac.snd.snd.snd.snd.snd.snd.fst.snd.fst.fst.snd.snd
noncomputable def F5.c15 : AC := F5.ac.snd.snd.snd.snd.snd.snd.snd
noncomputable def F5.p0 (n0 : Nat) : WP := wA Try.prog n0 163 none F5.c0
noncomputable def F5.p1 (n0 : Nat) : WP := wA Try.prog n0 163 none F5.c1
noncomputable def F5.p2 (n0 : Nat) : WP := wA Try.prog n0 163 none F5.c2
noncomputable def F5.p3 (n0 : Nat) : WP := wA Try.prog n0 163 none F5.c3
noncomputable def F5.p4 (n0 : Nat) : WP := wA Try.prog n0 163 none F5.c4
noncomputable def F5.p5 (n0 : Nat) : WP := wA Try.prog n0 163 none F5.c5
noncomputable def F5.p6 (n0 : Nat) : WP := wA Try.prog n0 163 none F5.c6
noncomputable def F5.p7 (n0 : Nat) : WP := wA Try.prog n0 163 none F5.c7
noncomputable def F5.p8 (n0 : Nat) : WP := wA Try.prog n0 163 none F5.c8
noncomputable def F5.p9 (n0 : Nat) : WP := wA Try.prog n0 163 none F5.c9
noncomputable def F5.p10 (n0 : Nat) : WP := wA Try.prog n0 163 none F5.c10
noncomputable def F5.p11 (n0 : Nat) : WP := wA Try.prog n0 163 none F5.c11
noncomputable def F5.p12 (n0 : Nat) : WP := wA Try.prog n0 163 none F5.c12
noncomputable def F5.p13 (n0 : Nat) : WP := wA Try.prog n0 163 none F5.c13
noncomputable def F5.p14 (n0 : Nat) : WP := wA Try.prog n0 163 none F5.c14
noncomputable def F5.p15 (n0 : Nat) : WP := wA Try.prog n0 163 none F5.c15
noncomputable def F5.t0 (n0 : Nat) (B1 : WP) (B2 : WP) (one0 two1 : Value) (ds : List Nat) (h : H) (K : KP) : Prop :=
  Bnd2 (aBuiltin Try.prog .len #[41] [one0] h) fun t25 h1 =>
  Bnd (aBin Try.prog true .gtr 3 t25 (.int .i64 1024)) fun t26 =>
  Gd t26
   (B1 [(0, one0), (1, two1)] ds h1 (KSeq [0, 1] B2 K))
   (Bnd2 (aBuiltin Try.prog .len #[41] [two1] h1) fun t29 h2 =>
  Bnd (aBin Try.prog true .gtr 3 t29 (.int .i64 1024)) fun t30 =>
  Cnd t30
   (B1 [(0, one0), (1, two1)] ds h2 (KSeq [0, 1] B2 K))
   (B2 [(0, one0), (1, two1)] ds h2 K))
theorem F5.g0 {n0 : Nat} (B1 : WP) (B2 : WP) (one0 two1 : Value) {ds : List Nat} {h : H} {K : KP} : wA Try.prog n0 163 none (.seq [0, 1] F5.c0.fst (.seq [0, 1] (.seq [0, 1, 31] F5.c0.snd.fst.fst (.cond [0, 1] (.tmp 31) (.sub B1) F5.c0.snd.fst.snd.snd)) (.sub B2))) [(0, one0), (1, two1)] ds h K = F5.t0 n0 B1 B2 one0 two1 ds h K := by kernel_rfl
theorem F5.s0 {n0 : Nat} : F5.p0 n0 = wA Try.prog n0 163 none (.seq [0, 1] F5.c0.fst (.seq [0, 1] (.seq [0, 1, 31] F5.c0.snd.fst.fst (.cond [0, 1] (.tmp 31) (.sub (F5.p1 n0)) F5.c0.snd.fst.snd.snd)) (.sub (F5.p2 n0)))) := by kernel_rfl
theorem F5.e0 {n0 : Nat} {one0 two1 : Value} {ds : List Nat} {h : H} {K : KP} : F5.p0 n0 [(0, one0), (1, two1)] ds h K = F5.t0 n0 (F5.p1 n0) (F5.p2 n0) one0 two1 ds h K :=
  wchain (F5.s0) (F5.g0 (F5.p1 n0) (F5.p2 n0) one0 two1)
theorem F5.k0 : F5.c0.ok = true := by kernel_rfl
theorem F5.d0 {n0 : Nat} : F5.p0 n0 = wA Try.prog n0 163 none F5.c0 := by kernel_rfl
theorem F5.m0 (n0 : Nat) : MonoW (F5.p0 n0) := @mono_c Try.prog n0 163 none F5.c0 (F5.p0 n0) (F5.d0) F5.k0
noncomputable def F5.t1 (n0 : Nat) (one0 two1 : Value) (ds : List Nat) (h : H) (K : KP) : Prop :=
  Cn Try.prog n0 (.func 16) [] h fun t32 h1 =>
  K .ret [(4, t32)] ds h1
theorem F5.g1 {n0 : Nat} (one0 two1 : Value) {ds : List Nat} {h : H} {K : KP} : wA Try.prog n0 163 none F5.c1 [(0, one0), (1, two1)] ds h K = F5.t1 n0 one0 two1 ds h K := by kernel_rfl
theorem F5.s1 {n0 : Nat} : F5.p1 n0 = wA Try.prog n0 163 none F5.c1 := by kernel_rfl
theorem F5.e1 {n0 : Nat} {one0 two1 : Value} {ds : List Nat} {h : H} {K : KP} : F5.p1 n0 [(0, one0), (1, two1)] ds h K = F5.t1 n0 one0 two1 ds h K :=
  wchain (F5.s1) (F5.g1 one0 two1)
noncomputable def F5.t2 (n0 : Nat) (B3 : WP) (B4 : WP) (one0 two1 : Value) (ds : List Nat) (h : H) (K : KP) : Prop :=
  Cn Try.prog n0 (.func 17) [] h fun t33 h1 =>
  Cn Try.prog n0 (.func 17) [] h1 fun t34 h2 =>
  Cn Try.prog n0 (.func 21) [] h2 fun t35 h3 =>
  Cn Try.prog n0 (.func 21) [] h3 fun t36 h4 =>
  Bnd (aBin Try.prog true .eql 33 t33 (.pointer none)) fun t38 =>
  Gd t38
   (B3 [(0, one0), (1, two1), (5, t33), (6, t34), (7, t35), (8, t36)] ds h4 (KSeq [0, 1, 5, 6, 7, 8] B4 K))
   (Bnd (aBin Try.prog true .eql 33 t34 (.pointer none)) fun t41 =>
  Cnd t41
   (B3 [(0, one0), (1, two1), (5, t33), (6, t34), (7, t35), (8, t36)] ds h4 (KSeq [0, 1, 5, 6, 7, 8] B4 K))
   (B4 [(0, one0), (1, two1), (5, t33), (6, t34), (7, t35), (8, t36)] ds h4 K))
theorem F5.g2 {n0 : Nat} (B3 : WP) (B4 : WP) (one0 two1 : Value) {ds : List Nat} {h : H} {K : KP} : wA Try.prog n0 163 none (.seq [0, 1, 5, 6] F5.c2.fst (.seq [0, 1, 5, 6, 7, 8] F5.c2.snd.fst (.seq [0, 1, 5, 6, 7, 8] (.seq [0, 1, 5, 6, 7, 8, 42] F5.c2.snd.snd.fst.fst (.cond [0, 1, 5, 6, 7, 8] (.tmp 42) (.sub B3) F5.c2.snd.snd.fst.snd.snd)) (.sub B4)))) [(0, one0), (1, two1)] ds h K = F5.t2 n0 B3 B4 one0 two1 ds h K := by kernel_rfl
theorem F5.s2 {n0 : Nat} : F5.p2 n0 = wA Try.prog n0 163 none (.seq [0, 1, 5, 6] F5.c2.fst (.seq [0, 1, 5, 6, 7, 8] F5.c2.snd.fst (.seq [0, 1, 5, 6, 7, 8] (.seq [0, 1, 5, 6, 7, 8, 42] F5.c2.snd.snd.fst.fst (.cond [0, 1, 5, 6, 7, 8] (.tmp 42) (.sub (F5.p3 n0)) F5.c2.snd.snd.fst.snd.snd)) (.sub (F5.p4 n0))))) := by kernel_rfl
theorem F5.e2 {n0 : Nat} {one0 two1 : Value} {ds : List Nat} {h : H} {K : KP} : F5.p2 n0 [(0, one0), (1, two1)] ds h K = F5.t2 n0 (F5.p3 n0) (F5.p4 n0) one0 two1 ds h K :=
  wchain (F5.s2) (F5.g2 (F5.p3 n0) (F5.p4 n0) one0 two1)
noncomputable def F5.t3 (n0 : Nat) (one0 two1 p5 q6 r7 s8 : Value) (ds : List Nat) (h : H) (K : KP) : Prop :=
  K .ret [(4, (.bool false))] ds h
theorem F5.g3 {n0 : Nat} (one0 two1 p5 q6 r7 s8 : Value) {ds : List Nat} {h : H} {K : KP} : wA Try.prog n0 163 none F5.c3 [(0, one0), (1, two1), (5, p5), (6, q6), (7, r7), (8, s8)] ds h K = F5.t3 n0 one0 two1 p5 q6 r7 s8 ds h K := by kernel_rfl
theorem F5.s3 {n0 : Nat} : F5.p3 n0 = wA Try.prog n0 163 none F5.c3 := by kernel_rfl
theorem F5.e3 {n0 : Nat} {one0 two1 p5 q6 r7 s8 : Value} {ds : List Nat} {h : H} {K : KP} : F5.p3 n0 [(0, one0), (1, two1), (5, p5), (6, q6), (7, r7), (8, s8)] ds h K = F5.t3 n0 one0 two1 p5 q6 r7 s8 ds h K :=
  wchain (F5.s3) (F5.g3 one0 two1 p5 q6 r7 s8)
noncomputable def F5.t4 (n0 : Nat) (B5 : WP) (B15 : WP) (one0 two1 p5 q6 r7 s8 : Value) (ds : List Nat) (h : H) (K : KP) : Prop :=
  Lp [0, 1, 5, 6, 7, 8, 9, 10, 11] B5 [(0, one0), (1, two1), (5, p5), (6, q6), (7, r7), (8, s8), (9, (.slice none 0 0)), (10, (.slice none 0 0)), (11, (.int .i64 0))] ds h (KBlk [5, 7, 9, 10] 0 (KSeq [5, 7, 9, 10] B15 K))
theorem F5.g4 {n0 : Nat} (B5 : WP) (B15 : WP) (one0 two1 p5 q6 r7 s8 : Value) {ds : List Nat} {h : H} {K : KP} : wA Try.prog n0 163 none (.seq [0, 1, 5, 6, 7, 8, 9, 10] F5.c4.fst (.seq [5, 7, 9, 10] (.seq [0, 1, 5, 6, 7, 8, 9, 10, 11] F5.c4.snd.fst.fst (.block [5, 7, 9, 10] 0 (.loop [0, 1, 5, 6, 7, 8, 9, 10, 11] (.sub B5)))) (.sub B15))) [(0, one0), (1, two1), (5, p5), (6, q6), (7, r7), (8, s8)] ds h K = F5.t4 n0 B5 B15 one0 two1 p5 q6 r7 s8 ds h K := by kernel_rfl
theorem F5.s4 {n0 : Nat} : F5.p4 n0 = wA Try.prog n0 163 none (.seq [0, 1, 5, 6, 7, 8, 9, 10] F5.c4.fst (.seq [5, 7, 9, 10] (.seq [0, 1, 5, 6, 7, 8, 9, 10, 11] F5.c4.snd.fst.fst (.block [5, 7, 9, 10] 0 (.loop [0, 1, 5, 6, 7, 8, 9, 10, 11] (.sub (F5.p5 n0))))) (.sub (F5.p15 n0)))) := by kernel_rfl
theorem F5.e4 {n0 : Nat} {one0 two1 p5 q6 r7 s8 : Value} {ds : List Nat} {h : H} {K : KP} : F5.p4 n0 [(0, one0), (1, two1), (5, p5), (6, q6), (7, r7), (8, s8)] ds h K = F5.t4 n0 (F5.p5 n0) (F5.p15 n0) one0 two1 p5 q6 r7 s8 ds h K :=
  wchain (F5.s4) (F5.g4 (F5.p5 n0) (F5.p15 n0) one0 two1 p5 q6 r7 s8)
noncomputable def F5.t5 (n0 : Nat) (B6 : WP) (one0 two1 p5 q6 r7 s8 told9 want10 i11 : Value) (ds : List Nat) (h : H) (K : KP) : Prop :=
  Bnd2 (aBuiltin Try.prog .len #[41] [one0] h) fun t45 h1 =>
  Bnd (aBin Try.prog false .lss 3 i11 t45) fun t46 =>
  Gd t46
   (B6 [(0, one0), (1, two1), (5, p5), (6, q6), (7, r7), (8, s8), (9, told9), (10, want10), (11, i11)] ds h1 K)
   (Bnd2 (aBuiltin Try.prog .len #[41] [two1] h1) fun t50 h2 =>
  Bnd (aBin Try.prog false .lss 3 i11 t50) fun t51 =>
  Cnd t51
   (B6 [(0, one0), (1, two1), (5, p5), (6, q6), (7, r7), (8, s8), (9, told9), (10, want10), (11, i11)] ds h2 K)
   (K (.exit 0) [(0, one0), (1, two1), (5, p5), (6, q6), (7, r7), (8, s8), (9, told9), (10, want10), (11, i11)] ds h2))
theorem F5.g5 {n0 : Nat} (B6 : WP) (one0 two1 p5 q6 r7 s8 told9 want10 i11 : Value) {ds : List Nat} {h : H} {K : KP} : wA Try.prog n0 163 none (.seq [0, 1, 5, 6, 7, 8, 9, 10, 11] F5.c5.fst (.sub B6)) [(0, one0), (1, two1), (5, p5), (6, q6), (7, r7), (8, s8), (9, told9), (10, want10), (11, i11)] ds h K = F5.t5 n0 B6 one0 two1 p5 q6 r7 s8 told9 want10 i11 ds h K := by kernel_rfl
theorem F5.s5 {n0 : Nat} : F5.p5 n0 = wA Try.prog n0 163 none (.seq [0, 1, 5, 6, 7, 8, 9, 10, 11] F5.c5.fst (.sub (F5.p6 n0))) := by kernel_rfl
theorem F5.e5 {n0 : Nat} {one0 two1 p5 q6 r7 s8 told9 want10 i11 : Value} {ds : List Nat} {h : H} {K : KP} : F5.p5 n0 [(0, one0), (1, two1), (5, p5), (6, q6), (7, r7), (8, s8), (9, told9), (10, want10), (11, i11)] ds h K = F5.t5 n0 (F5.p6 n0) one0 two1 p5 q6 r7 s8 told9 want10 i11 ds h K :=
  wchain (F5.s5) (F5.g5 (F5.p6 n0) one0 two1 p5 q6 r7 s8 told9 want10 i11)
theorem F5.k5 : F5.c5.ok = true := by kernel_rfl
theorem F5.d5 {n0 : Nat} : F5.p5 n0 = wA Try.prog n0 163 none F5.c5 := by kernel_rfl
theorem F5.m5 (n0 : Nat) : MonoW (F5.p5 n0) := @mono_c Try.prog n0 163 none F5.c5 (F5.p5 n0) (F5.d5) F5.k5
noncomputable def F5.t6 (n0 : Nat) (B7 : WP) (B10 : WP) (B14 : WP) (one0 two1 p5 q6 r7 s8 told9 want10 i11 : Value) (ds : List Nat) (h : H) (K : KP) : Prop :=
  Bnd2 (aBuiltin Try.prog .len #[41] [one0] h) fun t57 h1 =>
  Bnd (aBin Try.prog false .lss 3 i11 t57) fun t58 =>
  Cnd t58
   (B7 [(0, one0), (1, two1), (5, p5), (6, q6), (7, r7), (8, s8), (9, told9), (10, want10), (11, i11)] ds h1 (KSeq [0, 1, 5, 6, 7, 8, 9, 10, 11] B10 (KBlk [0, 1, 5, 6, 7, 8, 9, 10, 11] 1 (KSeq [0, 1, 5, 6, 7, 8, 9, 10, 11] B14 K))))
   (B10 [(0, one0), (1, two1), (5, p5), (6, q6), (7, r7), (8, s8), (9, told9), (10, want10), (11, i11)] ds h1 (KBlk [0, 1, 5, 6, 7, 8, 9, 10, 11] 1 (KSeq [0, 1, 5, 6, 7, 8, 9, 10, 11] B14 K)))
theorem F5.g6 {n0 : Nat} (B7 : WP) (B10 : WP) (B14 : WP) (one0 two1 p5 q6 r7 s8 told9 want10 i11 : Value) {ds : List Nat} {h : H} {K : KP} : wA Try.prog n0 163 none (.seq [0, 1, 5, 6, 7, 8, 9, 10, 11] (.block [0, 1, 5, 6, 7, 8, 9, 10, 11] 1 (.seq [0, 1, 5, 6, 7, 8, 9, 10, 11] (.seq [0, 1, 5, 6, 7, 8, 9, 10, 11, 58] F5.c6.fst.fst.fst.fst (.cond [0, 1, 5, 6, 7, 8, 9, 10, 11] (.tmp 58) (.sub B7) F5.c6.fst.fst.fst.snd.snd)) (.sub B10))) (.sub B14)) [(0, one0), (1, two1), (5, p5), (6, q6), (7, r7), (8, s8), (9, told9), (10, want10), (11, i11)] ds h K = F5.t6 n0 B7 B10 B14 one0 two1 p5 q6 r7 s8 told9 want10 i11 ds h K := by kernel_rfl
theorem F5.s6 {n0 : Nat} : F5.p6 n0 = wA Try.prog n0 163 none (.seq [0, 1, 5, 6, 7, 8, 9, 10, 11] (.block [0, 1, 5, 6, 7, 8, 9, 10, 11] 1 (.seq [0, 1, 5, 6, 7, 8, 9, 10, 11] (.seq [0, 1, 5, 6, 7, 8, 9, 10, 11, 58] F5.c6.fst.fst.fst.fst (.cond [0, 1, 5, 6, 7, 8, 9, 10, 11] (.tmp 58) (.sub (F5.p7 n0)) F5.c6.fst.fst.fst.snd.snd)) (.sub (F5.p10 n0)))) (.sub (F5.p14 n0))) := by kernel_rfl
theorem F5.e6 {n0 : Nat} {one0 two1 p5 q6 r7 s8 told9 want10 i11 : Value} {ds : List Nat} {h : H} {K : KP} : F5.p6 n0 [(0, one0), (1, two1), (5, p5), (6, q6), (7, r7), (8, s8), (9, told9), (10, want10), (11, i11)] ds h K = F5.t6 n0 (F5.p7 n0) (F5.p10 n0) (F5.p14 n0) one0 two1 p5 q6 r7 s8 told9 want10 i11 ds h K :=
  wchain (F5.s6) (F5.g6 (F5.p7 n0) (F5.p10 n0) (F5.p14 n0) one0 two1 p5 q6 r7 s8 told9 want10 i11)
noncomputable def F5.t7 (n0 : Nat) (B8 : WP) (B9 : WP) (one0 two1 p5 q6 r7 s8 told9 want10 i11 : Value) (ds : List Nat) (h : H) (K : KP) : Prop :=
  Bnd (aIndexAddr Try.prog 41 one0 i11) fun t63 =>
  Bnd (aLoad Try.prog 47 t63 h) fun t64 =>
  Cn Try.prog n0 (.func 22) [p5, t64] h fun t65 h1 =>
  Bnd (tupAt t65 0) fun t66 =>
  Bnd (tupAt t65 1) fun t67 =>
  Bnd (aIndexAddr Try.prog 41 one0 i11) fun t72 =>
  Bnd (aLoad Try.prog 47 t72 h1) fun t73 =>
  Cn Try.prog n0 (.func 23) [r7, t73] h1 fun t74 h2 =>
  Bnd (tupAt t74 0) fun t75 =>
  Bnd (tupAt t74 1) fun t76 =>
  Bnd (aBin Try.prog false .neq 27 t67 t76) fun t79 =>
  Gd t79
   (B8 [(0, one0), (1, two1), (5, p5), (6, q6), (7, r7), (8, s8), (9, told9), (10, want10), (11, i11), (12, t66), (14, t75)] ds h2 (KSeq [0, 1, 5, 6, 7, 8, 9, 10, 11, 12, 14] B9 K))
   (Bnd2 (cvt Try.prog 22 9 t66 h2) fun t82 h3 =>
  Bnd2 (cvt Try.prog 22 9 t75 h3) fun t84 h4 =>
  Bnd (aBin Try.prog false .neq 9 t82 t84) fun t85 =>
  Cnd t85
   (B8 [(0, one0), (1, two1), (5, p5), (6, q6), (7, r7), (8, s8), (9, told9), (10, want10), (11, i11), (12, t66), (14, t75)] ds h4 (KSeq [0, 1, 5, 6, 7, 8, 9, 10, 11, 12, 14] B9 K))
   (B9 [(0, one0), (1, two1), (5, p5), (6, q6), (7, r7), (8, s8), (9, told9), (10, want10), (11, i11), (12, t66), (14, t75)] ds h4 K))
theorem F5.g7 {n0 : Nat} (B8 : WP) (B9 : WP) (one0 two1 p5 q6 r7 s8 told9 want10 i11 : Value) {ds : List Nat} {h : H} {K : KP} : wA Try.prog n0 163 none (.seq [0, 1, 5, 6, 7, 8, 9, 10, 11, 12, 13] F5.c7.fst (.seq [0, 1, 5, 6, 7, 8, 9, 10, 11, 12, 13, 14, 15] F5.c7.snd.fst (.seq [0, 1, 5, 6, 7, 8, 9, 10, 11, 12, 14] (.seq [0, 1, 5, 6, 7, 8, 9, 10, 11, 12, 14, 86] F5.c7.snd.snd.fst.fst (.cond [0, 1, 5, 6, 7, 8, 9, 10, 11, 12, 14] (.tmp 86) (.sub B8) F5.c7.snd.snd.fst.snd.snd)) (.sub B9)))) [(0, one0), (1, two1), (5, p5), (6, q6), (7, r7), (8, s8), (9, told9), (10, want10), (11, i11)] ds h K = F5.t7 n0 B8 B9 one0 two1 p5 q6 r7 s8 told9 want10 i11 ds h K := by kernel_rfl
theorem F5.s7 {n0 : Nat} : F5.p7 n0 = wA Try.prog n0 163 none (.seq [0, 1, 5, 6, 7, 8, 9, 10, 11, 12, 13] F5.c7.fst (.seq [0, 1, 5, 6, 7, 8, 9, 10, 11, 12, 13, 14, 15] F5.c7.snd.fst (.seq [0, 1, 5, 6, 7, 8, 9, 10, 11, 12, 14] (.seq [0, 1, 5, 6, 7, 8, 9, 10, 11, 12, 14, 86] F5.c7.snd.snd.fst.fst (.cond [0, 1, 5, 6, 7, 8, 9, 10, 11, 12, 14] (.tmp 86) (.sub (F5.p8 n0)) F5.c7.snd.snd.fst.snd.snd)) (.sub (F5.p9 n0))))) := by kernel_rfl
theorem F5.e7 {n0 : Nat} {one0 two1 p5 q6 r7 s8 told9 want10 i11 : Value} {ds : List Nat} {h : H} {K : KP} : F5.p7 n0 [(0, one0), (1, two1), (5, p5), (6, q6), (7, r7), (8, s8), (9, told9), (10, want10), (11, i11)] ds h K = F5.t7 n0 (F5.p8 n0) (F5.p9 n0) one0 two1 p5 q6 r7 s8 told9 want10 i11 ds h K :=
  wchain (F5.s7) (F5.g7 (F5.p8 n0) (F5.p9 n0) one0 two1 p5 q6 r7 s8 told9 want10 i11)
noncomputable def F5.t8 (n0 : Nat) (one0 two1 p5 q6 r7 s8 told9 want10 i11 a12 b14 : Value) (ds : List Nat) (h : H) (K : KP) : Prop :=
  K .ret [(4, (.bool false))] ds h
theorem F5.g8 {n0 : Nat} (one0 two1 p5 q6 r7 s8 told9 want10 i11 a12 b14 : Value) {ds : List Nat} {h : H} {K : KP} : wA Try.prog n0 163 none F5.c8 [(0, one0), (1, two1), (5, p5), (6, q6), (7, r7), (8, s8), (9, told9), (10, want10), (11, i11), (12, a12), (14, b14)] ds h K = F5.t8 n0 one0 two1 p5 q6 r7 s8 told9 want10 i11 a12 b14 ds h K := by kernel_rfl
theorem F5.s8 {n0 : Nat} : F5.p8 n0 = wA Try.prog n0 163 none F5.c8 := by kernel_rfl
theorem F5.e8 {n0 : Nat} {one0 two1 p5 q6 r7 s8 told9 want10 i11 a12 b14 : Value} {ds : List Nat} {h : H} {K : KP} : F5.p8 n0 [(0, one0), (1, two1), (5, p5), (6, q6), (7, r7), (8, s8), (9, told9), (10, want10), (11, i11), (12, a12), (14, b14)] ds h K = F5.t8 n0 one0 two1 p5 q6 r7 s8 told9 want10 i11 a12 b14 ds h K :=
  wchain (F5.s8) (F5.g8 one0 two1 p5 q6 r7 s8 told9 want10 i11 a12 b14)
noncomputable def F5.t9 (n0 : Nat) (one0 two1 p5 q6 r7 s8 told9 want10 i11 a12 b14 : Value) (ds : List Nat) (h : H) (K : KP) : Prop :=
  Cn Try.prog n0 (.func 24) [told9, want10, a12, b14] h fun t92 h1 =>
  Bnd (tupAt t92 0) fun t93 =>
  Bnd (tupAt t92 1) fun t94 =>
  K .normal [(0, one0), (1, two1), (5, p5), (6, q6), (7, r7), (8, s8), (9, t93), (10, t94), (11, i11), (12, a12), (14, b14), (88, told9), (89, want10), (90, a12), (91, b14), (92, t92), (87, t92), (93, t93), (94, t94)] ds h1
theorem F5.g9 {n0 : Nat} (one0 two1 p5 q6 r7 s8 told9 want10 i11 a12 b14 : Value) {ds : List Nat} {h : H} {K : KP} : wA Try.prog n0 163 none F5.c9 [(0, one0), (1, two1), (5, p5), (6, q6), (7, r7), (8, s8), (9, told9), (10, want10), (11, i11), (12, a12), (14, b14)] ds h K = F5.t9 n0 one0 two1 p5 q6 r7 s8 told9 want10 i11 a12 b14 ds h K := by kernel_rfl
theorem F5.s9 {n0 : Nat} : F5.p9 n0 = wA Try.prog n0 163 none F5.c9 := by kernel_rfl
theorem F5.e9 {n0 : Nat} {one0 two1 p5 q6 r7 s8 told9 want10 i11 a12 b14 : Value} {ds : List Nat} {h : H} {K : KP} : F5.p9 n0 [(0, one0), (1, two1), (5, p5), (6, q6), (7, r7), (8, s8), (9, told9), (10, want10), (11, i11), (12, a12), (14, b14)] ds h K = F5.t9 n0 one0 two1 p5 q6 r7 s8 told9 want10 i11 a12 b14 ds h K :=
  wchain (F5.s9) (F5.g9 one0 two1 p5 q6 r7 s8 told9 want10 i11 a12 b14)
noncomputable def F5.t10 (n0 : Nat) (B11 : WP) (one0 two1 p5 q6 r7 s8 told9 want10 i11 : Value) (ds : List Nat) (h : H) (K : KP) : Prop :=
  Bnd2 (aBuiltin Try.prog .len #[41] [two1] h) fun t97 h1 =>
  Bnd (aBin Try.prog false .lss 3 i11 t97) fun t98 =>
  Cnd t98
   (B11 [(0, one0), (1, two1), (5, p5), (6, q6), (7, r7), (8, s8), (9, told9), (10, want10), (11, i11)] ds h1 K)
   (K .normal [(0, one0), (1, two1), (5, p5), (6, q6), (7, r7), (8, s8), (9, told9), (10, want10), (11, i11)] ds h1)
theorem F5.g10 {n0 : Nat} (B11 : WP) (one0 two1 p5 q6 r7 s8 told9 want10 i11 : Value) {ds : List Nat} {h : H} {K : KP} : wA Try.prog n0 163 none (.seq [0, 1, 5, 6, 7, 8, 9, 10, 11, 98] F5.c10.fst (.cond [0, 1, 5, 6, 7, 8, 9, 10, 11] (.tmp 98) (.sub B11) F5.c10.snd.snd)) [(0, one0), (1, two1), (5, p5), (6, q6), (7, r7), (8, s8), (9, told9), (10, want10), (11, i11)] ds h K = F5.t10 n0 B11 one0 two1 p5 q6 r7 s8 told9 want10 i11 ds h K := by kernel_rfl
theorem F5.s10 {n0 : Nat} : F5.p10 n0 = wA Try.prog n0 163 none (.seq [0, 1, 5, 6, 7, 8, 9, 10, 11, 98] F5.c10.fst (.cond [0, 1, 5, 6, 7, 8, 9, 10, 11] (.tmp 98) (.sub (F5.p11 n0)) F5.c10.snd.snd)) := by kernel_rfl
theorem F5.e10 {n0 : Nat} {one0 two1 p5 q6 r7 s8 told9 want10 i11 : Value} {ds : List Nat} {h : H} {K : KP} : F5.p10 n0 [(0, one0), (1, two1), (5, p5), (6, q6), (7, r7), (8, s8), (9, told9), (10, want10), (11, i11)] ds h K = F5.t10 n0 (F5.p11 n0) one0 two1 p5 q6 r7 s8 told9 want10 i11 ds h K :=
  wchain (F5.s10) (F5.g10 (F5.p11 n0) one0 two1 p5 q6 r7 s8 told9 want10 i11)
noncomputable def F5.t11 (n0 : Nat) (B12 : WP) (B13 : WP) (one0 two1 p5 q6 r7 s8 told9 want10 i11 : Value) (ds : List Nat) (h : H) (K : KP) : Prop :=
  Bnd (aIndexAddr Try.prog 41 two1 i11) fun t103 =>
  Bnd (aLoad Try.prog 47 t103 h) fun t104 =>
  Cn Try.prog n0 (.func 22) [q6, t104] h fun t105 h1 =>
  Bnd (tupAt t105 0) fun t106 =>
  Bnd (tupAt t105 1) fun t107 =>
  Bnd (aIndexAddr Try.prog 41 two1 i11) fun t112 =>
  Bnd (aLoad Try.prog 47 t112 h1) fun t113 =>
  Cn Try.prog n0 (.func 23) [s8, t113] h1 fun t114 h2 =>
  Bnd (tupAt t114 0) fun t115 =>
  Bnd (tupAt t114 1) fun t116 =>
  Bnd (aBin Try.prog false .neq 27 t107 t116) fun t119 =>
  Gd t119
   (B12 [(0, one0), (1, two1), (5, p5), (6, q6), (7, r7), (8, s8), (9, told9), (10, want10), (11, i11), (16, t106), (18, t115)] ds h2 (KSeq [0, 1, 5, 6, 7, 8, 9, 10, 11, 16, 18] B13 K))
   (Bnd2 (cvt Try.prog 22 9 t106 h2) fun t122 h3 =>
  Bnd2 (cvt Try.prog 22 9 t115 h3) fun t124 h4 =>
  Bnd (aBin Try.prog false .neq 9 t122 t124) fun t125 =>
  Cnd t125
   (B12 [(0, one0), (1, two1), (5, p5), (6, q6), (7, r7), (8, s8), (9, told9), (10, want10), (11, i11), (16, t106), (18, t115)] ds h4 (KSeq [0, 1, 5, 6, 7, 8, 9, 10, 11, 16, 18] B13 K))
   (B13 [(0, one0), (1, two1), (5, p5), (6, q6), (7, r7), (8, s8), (9, told9), (10, want10), (11, i11), (16, t106), (18, t115)] ds h4 K))
theorem F5.g11 {n0 : Nat} (B12 : WP) (B13 : WP) (one0 two1 p5 q6 r7 s8 told9 want10 i11 : Value) {ds : List Nat} {h : H} {K : KP} : wA Try.prog n0 163 none (.seq [0, 1, 5, 6, 7, 8, 9, 10, 11, 16, 17] F5.c11.fst (.seq [0, 1, 5, 6, 7, 8, 9, 10, 11, 16, 17, 18, 19] F5.c11.snd.fst (.seq [0, 1, 5, 6, 7, 8, 9, 10, 11, 16, 18] (.seq [0, 1, 5, 6, 7, 8, 9, 10, 11, 16, 18, 126] F5.c11.snd.snd.fst.fst (.cond [0, 1, 5, 6, 7, 8, 9, 10, 11, 16, 18] (.tmp 126) (.sub B12) F5.c11.snd.snd.fst.snd.snd)) (.sub B13)))) [(0, one0), (1, two1), (5, p5), (6, q6), (7, r7), (8, s8), (9, told9), (10, want10), (11, i11)] ds h K = F5.t11 n0 B12 B13 one0 two1 p5 q6 r7 s8 told9 want10 i11 ds h K := by kernel_rfl
theorem F5.s11 {n0 : Nat} : F5.p11 n0 = wA Try.prog n0 163 none (.seq [0, 1, 5, 6, 7, 8, 9, 10, 11, 16, 17] F5.c11.fst (.seq [0, 1, 5, 6, 7, 8, 9, 10, 11, 16, 17, 18, 19] F5.c11.snd.fst (.seq [0, 1, 5, 6, 7, 8, 9, 10, 11, 16, 18] (.seq [0, 1, 5, 6, 7, 8, 9, 10, 11, 16, 18, 126] F5.c11.snd.snd.fst.fst (.cond [0, 1, 5, 6, 7, 8, 9, 10, 11, 16, 18] (.tmp 126) (.sub (F5.p12 n0)) F5.c11.snd.snd.fst.snd.snd)) (.sub (F5.p13 n0))))) := by kernel_rfl
theorem F5.e11 {n0 : Nat} {one0 two1 p5 q6 r7 s8 told9 want10 i11 : Value} {ds : List Nat} {h : H} {K : KP} : F5.p11 n0 [(0, one0), (1, two1), (5, p5), (6, q6), (7, r7), (8, s8), (9, told9), (10, want10), (11, i11)] ds h K = F5.t11 n0 (F5.p12 n0) (F5.p13 n0) one0 two1 p5 q6 r7 s8 told9 want10 i11 ds h K :=
  wchain (F5.s11) (F5.g11 (F5.p12 n0) (F5.p13 n0) one0 two1 p5 q6 r7 s8 told9 want10 i11)
noncomputable def F5.t12 (n0 : Nat) (one0 two1 p5 q6 r7 s8 told9 want10 i11 a16 b18 : Value) (ds : List Nat) (h : H) (K : KP) : Prop :=
  K .ret [(4, (.bool false))] ds h
theorem F5.g12 {n0 : Nat} (one0 two1 p5 q6 r7 s8 told9 want10 i11 a16 b18 : Value) {ds : List Nat} {h : H} {K : KP} : wA Try.prog n0 163 none F5.c12 [(0, one0), (1, two1), (5, p5), (6, q6), (7, r7), (8, s8), (9, told9), (10, want10), (11, i11), (16, a16), (18, b18)] ds h K = F5.t12 n0 one0 two1 p5 q6 r7 s8 told9 want10 i11 a16 b18 ds h K := by kernel_rfl
theorem F5.s12 {n0 : Nat} : F5.p12 n0 = wA Try.prog n0 163 none F5.c12 := by kernel_rfl
theorem F5.e12 {n0 : Nat} {one0 two1 p5 q6 r7 s8 told9 want10 i11 a16 b18 : Value} {ds : List Nat} {h : H} {K : KP} : F5.p12 n0 [(0, one0), (1, two1), (5, p5), (6, q6), (7, r7), (8, s8), (9, told9), (10, want10), (11, i11), (16, a16), (18, b18)] ds h K = F5.t12 n0 one0 two1 p5 q6 r7 s8 told9 want10 i11 a16 b18 ds h K :=
  wchain (F5.s12) (F5.g12 one0 two1 p5 q6 r7 s8 told9 want10 i11 a16 b18)
noncomputable def F5.t13 (n0 : Nat) (one0 two1 p5 q6 r7 s8 told9 want10 i11 a16 b18 : Value) (ds : List Nat) (h : H) (K : KP) : Prop :=
  Cn Try.prog n0 (.func 24) [told9, want10, a16, b18] h fun t132 h1 =>
  Bnd (tupAt t132 0) fun t133 =>
  Bnd (tupAt t132 1) fun t134 =>
  K .normal [(0, one0), (1, two1), (5, p5), (6, q6), (7, r7), (8, s8), (9, t133), (10, t134), (11, i11), (16, a16), (18, b18), (128, told9), (129, want10), (130, a16), (131, b18), (132, t132), (127, t132), (133, t133), (134, t134)] ds h1
theorem F5.g13 {n0 : Nat} (one0 two1 p5 q6 r7 s8 told9 want10 i11 a16 b18 : Value) {ds : List Nat} {h : H} {K : KP} : wA Try.prog n0 163 none F5.c13 [(0, one0), (1, two1), (5, p5), (6, q6), (7, r7), (8, s8), (9, told9), (10, want10), (11, i11), (16, a16), (18, b18)] ds h K = F5.t13 n0 one0 two1 p5 q6 r7 s8 told9 want10 i11 a16 b18 ds h K := by kernel_rfl
theorem F5.s13 {n0 : Nat} : F5.p13 n0 = wA Try.prog n0 163 none F5.c13 := by kernel_rfl
theorem F5.e13 {n0 : Nat} {one0 two1 p5 q6 r7 s8 told9 want10 i11 a16 b18 : Value} {ds : List Nat} {h : H} {K : KP} : F5.p13 n0 [(0, one0), (1, two1), (5, p5), (6, q6), (7, r7), (8, s8), (9, told9), (10, want10), (11, i11), (16, a16), (18, b18)] ds h K = F5.t13 n0 one0 two1 p5 q6 r7 s8 told9 want10 i11 a16 b18 ds h K :=
  wchain (F5.s13) (F5.g13 one0 two1 p5 q6 r7 s8 told9 want10 i11 a16 b18)
noncomputable def F5.t14 (n0 : Nat) (one0 two1 p5 q6 r7 s8 told9 want10 i11 : Value) (ds : List Nat) (h : H) (K : KP) : Prop :=
  Bnd (aBin Try.prog true .add 3 i11 (.int .i64 1)) fun t54 =>
  K .normal [(0, one0), (1, two1), (5, p5), (6, q6), (7, r7), (8, s8), (9, told9), (10, want10), (11, t54), (53, i11), (54, t54)] ds h
theorem F5.g14 {n0 : Nat} (one0 two1 p5 q6 r7 s8 told9 want10 i11 : Value) {ds : List Nat} {h : H} {K : KP} : wA Try.prog n0 163 none F5.c14 [(0, one0), (1, two1), (5, p5), (6, q6), (7, r7), (8, s8), (9, told9), (10, want10), (11, i11)] ds h K = F5.t14 n0 one0 two1 p5 q6 r7 s8 told9 want10 i11 ds h K := by kernel_rfl
theorem F5.s14 {n0 : Nat} : F5.p14 n0 = wA Try.prog n0 163 none F5.c14 := by kernel_rfl
theorem F5.e14 {n0 : Nat} {one0 two1 p5 q6 r7 s8 told9 want10 i11 : Value} {ds : List Nat} {h : H} {K : KP} : F5.p14 n0 [(0, one0), (1, two1), (5, p5), (6, q6), (7, r7), (8, s8), (9, told9), (10, want10), (11, i11)] ds h K = F5.t14 n0 one0 two1 p5 q6 r7 s8 told9 want10 i11 ds h K :=
  wchain (F5.s14) (F5.g14 one0 two1 p5 q6 r7 s8 told9 want10 i11)
noncomputable def F5.t15 (n0 : Nat) (p5 r7 told9 want10 : Value) (ds : List Nat) (h : H) (K : KP) : Prop :=
  Cn Try.prog n0 (.func 19) [p5] h fun t137 h1 =>
  Bnd (tupAt t137 0) fun t138 =>
  Bnd (tupAt t137 1) fun t139 =>
  Cn Try.prog n0 (.func 25) [r7] h1 fun t142 h2 =>
  Bnd (tupAt t142 0) fun t143 =>
  Bnd (tupAt t142 1) fun t144 =>
  Bnd (aBin Try.prog false .eql 27 t139 t144) fun t147 =>
  Gd t147
   (Bnd2 (cvt Try.prog 22 9 t138 h2) fun t150 h3 =>
  Bnd2 (cvt Try.prog 22 9 t143 h3) fun t152 h4 =>
  Bnd (aBin Try.prog false .eql 9 t150 t152) fun t153 =>
  Gd t153
   (Cn Try.prog n0 (.func 26) [told9, want10] h4 fun t158 h5 =>
  Gd t158
   (Cn Try.prog n0 (.func 16) [] h5 fun t161 h6 =>
  K .ret [(4, t161)] ds h6)
   (K .ret [(4, (.bool false))] ds h5))
   (K .ret [(4, (.bool false))] ds h4))
   (K .ret [(4, (.bool false))] ds h2)
theorem F5.g15 {n0 : Nat} (p5 r7 told9 want10 : Value) {ds : List Nat} {h : H} {K : KP} : wA Try.prog n0 163 none F5.c15 [(5, p5), (7, r7), (9, told9), (10, want10)] ds h K = F5.t15 n0 p5 r7 told9 want10 ds h K := by kernel_rfl
theorem F5.s15 {n0 : Nat} : F5.p15 n0 = wA Try.prog n0 163 none F5.c15 := by kernel_rfl
theorem F5.e15 {n0 : Nat} {p5 r7 told9 want10 : Value} {ds : List Nat} {h : H} {K : KP} : F5.p15 n0 [(5, p5), (7, r7), (9, told9), (10, want10)] ds h K = F5.t15 n0 p5 r7 told9 want10 ds h K :=
  wchain (F5.s15) (F5.g15 p5 r7 told9 want10)
theorem F5.b : Try.f5.body = some F5.c0.erase := by kernel_rfl
theorem F5.b2 : (Try.f5.name == "runtime.NumGoroutine") = false := by kernel_rfl
theorem F5.b3 : Try.f5.ntmps = 163 := by kernel_rfl
theorem F5.b4 : Try.f5.results.toList = [.tmp 4] := by kernel_rfl
theorem F5.enter {n0 : Nat} {x0 x1 : Value} {h : H} {Q : Value → H → Prop} (w : F5.p0 n0 [(0, x0), (1, x1)] [] h (KFin Try.prog [.tmp 4] Q)) : Cn Try.prog n0 (.func 5) [x0, x1] h Q :=
  @fn_enter Try.prog n0 mixed 5 Try.f5 F5.c0 [x0, x1] h Q Try.func5 F5.b F5.k0 F5.b2 163 F5.b3 [.tmp 4] F5.b4 (by simp) [(0, x0), (1, x1)] rfl (wback F5.d0 w)

/-! roster.rosterlaw02.BerNil -/
noncomputable def F6.ac : AC := (ann (bodyOf Try.f6) [[1], [1, 3], [1, 4, 5], [2]]).1
noncomputable def F6.c0 : AC := F6.ac
noncomputable def F6.p0 (n0 : Nat) : WP := wA Try.prog n0 32 none F6.c0
noncomputable def F6.t0 (n0 : Nat) (s0 : Value) (ds : List Nat) (h : H) (K : KP) : Prop :=
  Nw (enc 0 47) (clL s0) h fun s1 h1 =>
  Bnd (aLoad Try.prog 47 s1 h1) fun t8 =>
  Cn Try.prog n0 (.func 22) [(.pointer none), t8] h1 fun t9 h2 =>
  Bnd (tupAt t9 0) fun t10 =>
  Bnd (tupAt t9 1) fun t11 =>
  Bnd2 (aBuiltin Try.prog .len #[22] [t10] h2) fun t13 h3 =>
  Bnd (aBin Try.prog true .eql 3 t13 (.int .i64 0)) fun t14 =>
  Gd t14
   (Bnd (aBin Try.prog true .eql 27 t11 (.int .i64 1)) fun t17 =>
  Gd t17
   (Cn Try.prog n0 (.func 16) [] h3 fun t30 h4 =>
  K .ret [(2, t30)] ds h4)
   (Bnd (aFieldAddr Try.prog 47 s1 0) fun t19 =>
  Bnd (aLoad Try.prog 3 t19 h3) fun t20 =>
  Bnd (aBin Try.prog true .lss 3 t20 (.int .i64 0)) fun t21 =>
  Gd t21
   (Cn Try.prog n0 (.func 16) [] h3 fun t30 h4 =>
  K .ret [(2, t30)] ds h4)
   (Bnd (aFieldAddr Try.prog 47 s1 0) fun t24 =>
  Bnd (aLoad Try.prog 3 t24 h3) fun t25 =>
  Bnd (aBin Try.prog true .gtr 3 t25 (.int .i64 5)) fun t26 =>
  Gd t26
   (Cn Try.prog n0 (.func 16) [] h3 fun t30 h4 =>
  K .ret [(2, t30)] ds h4)
   (K .ret [(2, (.bool false))] ds h3))))
   (K .ret [(2, (.bool false))] ds h3)
theorem F6.g0 {n0 : Nat} (s0 : Value) {ds : List Nat} {h : H} {K : KP} : wA Try.prog n0 32 none F6.c0 [(0, s0)] ds h K = F6.t0 n0 s0 ds h K := by kernel_rfl
theorem F6.s0 {n0 : Nat} : F6.p0 n0 = wA Try.prog n0 32 none F6.c0 := by kernel_rfl
theorem F6.e0 {n0 : Nat} {s0 : Value} {ds : List Nat} {h : H} {K : KP} : F6.p0 n0 [(0, s0)] ds h K = F6.t0 n0 s0 ds h K :=
  wchain (F6.s0) (F6.g0 s0)
theorem F6.k0 : F6.c0.ok = true := by kernel_rfl
theorem F6.d0 {n0 : Nat} : F6.p0 n0 = wA Try.prog n0 32 none F6.c0 := by kernel_rfl
theorem F6.m0 (n0 : Nat) : MonoW (F6.p0 n0) := @mono_c Try.prog n0 32 none F6.c0 (F6.p0 n0) (F6.d0) F6.k0
theorem F6.b : Try.f6.body = some F6.c0.erase := by kernel_rfl
theorem F6.b2 : (Try.f6.name == "runtime.NumGoroutine") = false := by kernel_rfl
theorem F6.b3 : Try.f6.ntmps = 32 := by kernel_rfl
theorem F6.b4 : Try.f6.results.toList = [.tmp 2] := by kernel_rfl
theorem F6.enter {n0 : Nat} {x0 : Value} {h : H} {Q : Value → H → Prop} (w : F6.p0 n0 [(0, x0)] [] h (KFin Try.prog [.tmp 2] Q)) : Cn Try.prog n0 (.func 6) [x0] h Q :=
  @fn_enter Try.prog n0 mixed 6 Try.f6 F6.c0 [x0] h Q Try.func6 F6.b F6.k0 F6.b2 32 F6.b3 [.tmp 2] F6.b4 (by simp) [(0, x0)] rfl (wback F6.d0 w)

end Go.Proofs.Ytknpmldldlbniaa
