/- The texts of Go functions of this seat, as the evaluator comes to them: each is what wA says of the code. No condition. -/
import Derived.Test.YtknpmldldlbniaaEvAc3
import Derived.Test.YtknpmldldlbniaaSeat
set_option linter.unusedVariables false
namespace Go.Proofs.Ytknpmldldlbniaa
open Go.Ev

/-! roster.rosterlaw02.BerBack -/
noncomputable def F9.ac : AC := (ann (bodyOf Try.f9) [[0], [0], [0, 9], [0], [2], [0, 3], [0, 3], [0, 3, 12], [0, 3], [2], [0, 3, 5], [0, 5, 6, 7], [0, 6], [0, 6, 29], [0, 6], [2], [5], [2]]).1
noncomputable def F9.c0 : AC := F9.ac
noncomputable def F9.c1 : AC := F9.ac.snd.fst.snd.fst
noncomputable def F9.c2 : AC := F9.ac.snd.snd
noncomputable def F9.c3 : AC := F9.ac.snd.snd.snd.fst.snd.fst
noncomputable def F9.c4 : AC := F9.ac.snd.snd.snd.snd
noncomputable def F9.c5 : AC := F9.ac.snd.snd.snd.snd.snd.snd.fst.snd.fst
noncomputable def F9.c6 : AC := F9.ac.snd.snd.snd.snd.snd.snd.snd
noncomputable def F9.p0 (n0 : Nat) : WP := wA Try.prog n0 39 none F9.c0
noncomputable def F9.p1 (n0 : Nat) : WP := wA Try.prog n0 39 none F9.c1
noncomputable def F9.p2 (n0 : Nat) : WP := wA Try.prog n0 39 none F9.c2
noncomputable def F9.p3 (n0 : Nat) : WP := wA Try.prog n0 39 none F9.c3
noncomputable def F9.p4 (n0 : Nat) : WP := wA Try.prog n0 39 none F9.c4
noncomputable def F9.p5 (n0 : Nat) : WP := wA Try.prog n0 39 none F9.c5
noncomputable def F9.p6 (n0 : Nat) : WP := wA Try.prog n0 39 none F9.c6
noncomputable def F9.t0 (n0 : Nat) (B1 : WP) (B2 : WP) (l0 : Value) (ds : List Nat) (h : H) (K : KP) : Prop :=
  Cn Try.prog n0 (.func 16) [] h fun t8 h1 =>
  Bnd (aUn .not t8) fun t9 =>
  Cnd t9
   (B1 [(0, l0)] ds h1 (KSeq [0] B2 K))
   (B2 [(0, l0)] ds h1 K)
theorem F9.g0 {n0 : Nat} (B1 : WP) (B2 : WP) (l0 : Value) {ds : List Nat} {h : H} {K : KP} : wA Try.prog n0 39 none (.seq [0] F9.c0.fst (.seq [0] (.seq [0, 9] F9.c0.snd.fst.fst (.cond [0] (.tmp 9) (.sub B1) F9.c0.snd.fst.snd.snd)) (.sub B2))) [(0, l0)] ds h K = F9.t0 n0 B1 B2 l0 ds h K := by kernel_rfl
theorem F9.s0 {n0 : Nat} : F9.p0 n0 = wA Try.prog n0 39 none (.seq [0] F9.c0.fst (.seq [0] (.seq [0, 9] F9.c0.snd.fst.fst (.cond [0] (.tmp 9) (.sub (F9.p1 n0)) F9.c0.snd.fst.snd.snd)) (.sub (F9.p2 n0)))) := by kernel_rfl
theorem F9.e0 {n0 : Nat} {l0 : Value} {ds : List Nat} {h : H} {K : KP} : F9.p0 n0 [(0, l0)] ds h K = F9.t0 n0 (F9.p1 n0) (F9.p2 n0) l0 ds h K :=
  wchain (F9.s0) (F9.g0 (F9.p1 n0) (F9.p2 n0) l0)
theorem F9.k0 : F9.c0.ok = true := by kernel_rfl
theorem F9.d0 {n0 : Nat} : F9.p0 n0 = wA Try.prog n0 39 none F9.c0 := by kernel_rfl
theorem F9.m0 (n0 : Nat) : MonoW (F9.p0 n0) := @mono_c Try.prog n0 39 none F9.c0 (F9.p0 n0) (F9.d0) F9.k0
noncomputable def F9.t1 (n0 : Nat) (l0 : Value) (ds : List Nat) (h : H) (K : KP) : Prop :=
  K .ret [(2, (.bool false))] ds h
theorem F9.g1 {n0 : Nat} (l0 : Value) {ds : List Nat} {h : H} {K : KP} : wA Try.prog n0 39 none F9.c1 [(0, l0)] ds h K = F9.t1 n0 l0 ds h K := by kernel_rfl
theorem F9.s1 {n0 : Nat} : F9.p1 n0 = wA Try.prog n0 39 none F9.c1 := by kernel_rfl
theorem F9.e1 {n0 : Nat} {l0 : Value} {ds : List Nat} {h : H} {K : KP} : F9.p1 n0 [(0, l0)] ds h K = F9.t1 n0 l0 ds h K :=
  wchain (F9.s1) (F9.g1 l0)
noncomputable def F9.t2 (n0 : Nat) (B3 : WP) (B4 : WP) (l0 : Value) (ds : List Nat) (h : H) (K : KP) : Prop :=
  Cn Try.prog n0 (.func 17) [] h fun t10 h1 =>
  Bnd (aBin Try.prog true .eql 33 t10 (.pointer none)) fun t12 =>
  Cnd t12
   (B3 [(0, l0), (3, t10)] ds h1 (KSeq [0, 3] B4 K))
   (B4 [(0, l0), (3, t10)] ds h1 K)
theorem F9.g2 {n0 : Nat} (B3 : WP) (B4 : WP) (l0 : Value) {ds : List Nat} {h : H} {K : KP} : wA Try.prog n0 39 none (.seq [0, 3] F9.c2.fst (.seq [0, 3] (.seq [0, 3, 12] F9.c2.snd.fst.fst (.cond [0, 3] (.tmp 12) (.sub B3) F9.c2.snd.fst.snd.snd)) (.sub B4))) [(0, l0)] ds h K = F9.t2 n0 B3 B4 l0 ds h K := by kernel_rfl
theorem F9.s2 {n0 : Nat} : F9.p2 n0 = wA Try.prog n0 39 none (.seq [0, 3] F9.c2.fst (.seq [0, 3] (.seq [0, 3, 12] F9.c2.snd.fst.fst (.cond [0, 3] (.tmp 12) (.sub (F9.p3 n0)) F9.c2.snd.fst.snd.snd)) (.sub (F9.p4 n0)))) := by kernel_rfl
theorem F9.e2 {n0 : Nat} {l0 : Value} {ds : List Nat} {h : H} {K : KP} : F9.p2 n0 [(0, l0)] ds h K = F9.t2 n0 (F9.p3 n0) (F9.p4 n0) l0 ds h K :=
  wchain (F9.s2) (F9.g2 (F9.p3 n0) (F9.p4 n0) l0)
noncomputable def F9.t3 (n0 : Nat) (l0 w3 : Value) (ds : List Nat) (h : H) (K : KP) : Prop :=
  K .ret [(2, (.bool false))] ds h
theorem F9.g3 {n0 : Nat} (l0 w3 : Value) {ds : List Nat} {h : H} {K : KP} : wA Try.prog n0 39 none F9.c3 [(0, l0), (3, w3)] ds h K = F9.t3 n0 l0 w3 ds h K := by kernel_rfl
theorem F9.s3 {n0 : Nat} : F9.p3 n0 = wA Try.prog n0 39 none F9.c3 := by kernel_rfl
theorem F9.e3 {n0 : Nat} {l0 w3 : Value} {ds : List Nat} {h : H} {K : KP} : F9.p3 n0 [(0, l0), (3, w3)] ds h K = F9.t3 n0 l0 w3 ds h K :=
  wchain (F9.s3) (F9.g3 l0 w3)
noncomputable def F9.t4 (n0 : Nat) (B5 : WP) (B6 : WP) (l0 w3 : Value) (ds : List Nat) (h : H) (K : KP) : Prop :=
  Cn Try.prog n0 (.func 32) [w3, l0, (.int .i64 0), (.int .i64 500)] h fun t16 h1 =>
  Bnd (tupAt t16 0) fun t17 =>
  Bnd (tupAt t16 1) fun t18 =>
  Cn Try.prog n0 (.func 19) [w3] h1 fun t21 h2 =>
  Bnd (tupAt t21 0) fun t22 =>
  Bnd (tupAt t21 1) fun t23 =>
  Bnd (aUn .not t18) fun t25 =>
  Gd t25
   (B5 [(0, l0), (6, t22)] ds h2 (KSeq [0, 6] B6 K))
   (Bnd (aBin Try.prog true .neq 27 t23 (.int .i64 0)) fun t28 =>
  Cnd t28
   (B5 [(0, l0), (6, t22)] ds h2 (KSeq [0, 6] B6 K))
   (B6 [(0, l0), (6, t22)] ds h2 K))
theorem F9.g4 {n0 : Nat} (B5 : WP) (B6 : WP) (l0 w3 : Value) {ds : List Nat} {h : H} {K : KP} : wA Try.prog n0 39 none (.seq [0, 3, 5] F9.c4.fst (.seq [0, 5, 6, 7] F9.c4.snd.fst (.seq [0, 6] (.seq [0, 6, 29] F9.c4.snd.snd.fst.fst (.cond [0, 6] (.tmp 29) (.sub B5) F9.c4.snd.snd.fst.snd.snd)) (.sub B6)))) [(0, l0), (3, w3)] ds h K = F9.t4 n0 B5 B6 l0 w3 ds h K := by kernel_rfl
theorem F9.s4 {n0 : Nat} : F9.p4 n0 = wA Try.prog n0 39 none (.seq [0, 3, 5] F9.c4.fst (.seq [0, 5, 6, 7] F9.c4.snd.fst (.seq [0, 6] (.seq [0, 6, 29] F9.c4.snd.snd.fst.fst (.cond [0, 6] (.tmp 29) (.sub (F9.p5 n0)) F9.c4.snd.snd.fst.snd.snd)) (.sub (F9.p6 n0))))) := by kernel_rfl
theorem F9.e4 {n0 : Nat} {l0 w3 : Value} {ds : List Nat} {h : H} {K : KP} : F9.p4 n0 [(0, l0), (3, w3)] ds h K = F9.t4 n0 (F9.p5 n0) (F9.p6 n0) l0 w3 ds h K :=
  wchain (F9.s4) (F9.g4 (F9.p5 n0) (F9.p6 n0) l0 w3)
noncomputable def F9.t5 (n0 : Nat) (l0 b6 : Value) (ds : List Nat) (h : H) (K : KP) : Prop :=
  K .ret [(2, (.bool false))] ds h
theorem F9.g5 {n0 : Nat} (l0 b6 : Value) {ds : List Nat} {h : H} {K : KP} : wA Try.prog n0 39 none F9.c5 [(0, l0), (6, b6)] ds h K = F9.t5 n0 l0 b6 ds h K := by kernel_rfl
theorem F9.s5 {n0 : Nat} : F9.p5 n0 = wA Try.prog n0 39 none F9.c5 := by kernel_rfl
theorem F9.e5 {n0 : Nat} {l0 b6 : Value} {ds : List Nat} {h : H} {K : KP} : F9.p5 n0 [(0, l0), (6, b6)] ds h K = F9.t5 n0 l0 b6 ds h K :=
  wchain (F9.s5) (F9.g5 l0 b6)
noncomputable def F9.t6 (n0 : Nat) (l0 b6 : Value) (ds : List Nat) (h : H) (K : KP) : Prop :=
  Bnd2 (aBuiltin Try.prog .len #[22] [b6] h) fun t33 h1 =>
  Cn Try.prog n0 (.func 33) [b6, (.int .i64 0), t33, l0, (.int .i64 0), (.int .i64 500)] h1 fun t35 h2 =>
  Bnd (tupAt t35 0) fun t36 =>
  Bnd (tupAt t35 1) fun t37 =>
  K .ret [(2, t37)] ds h2
theorem F9.g6 {n0 : Nat} (l0 b6 : Value) {ds : List Nat} {h : H} {K : KP} : wA Try.prog n0 39 none F9.c6 [(0, l0), (6, b6)] ds h K = F9.t6 n0 l0 b6 ds h K := by kernel_rfl
theorem F9.s6 {n0 : Nat} : F9.p6 n0 = wA Try.prog n0 39 none F9.c6 := by kernel_rfl
theorem F9.e6 {n0 : Nat} {l0 b6 : Value} {ds : List Nat} {h : H} {K : KP} : F9.p6 n0 [(0, l0), (6, b6)] ds h K = F9.t6 n0 l0 b6 ds h K :=
  wchain (F9.s6) (F9.g6 l0 b6)
theorem F9.b : Try.f9.body = some F9.c0.erase := by kernel_rfl
theorem F9.b2 : (Try.f9.name == "runtime.NumGoroutine") = false := by kernel_rfl
theorem F9.b3 : Try.f9.ntmps = 39 := by kernel_rfl
theorem F9.b4 : Try.f9.results.toList = [.tmp 2] := by kernel_rfl
theorem F9.enter {n0 : Nat} {x0 : Value} {h : H} {Q : Value → H → Prop} (w : F9.p0 n0 [(0, x0)] [] h (KFin Try.prog [.tmp 2] Q)) : Cn Try.prog n0 (.func 9) [x0] h Q :=
  @fn_enter Try.prog n0 mixed 9 Try.f9 F9.c0 [x0] h Q Try.func9 F9.b F9.k0 F9.b2 39 F9.b3 [.tmp 2] F9.b4 (by simp) [(0, x0)] rfl (wback F9.d0 w)

/-! roster.rosterlaw02.BerWhole -/
noncomputable def F10.ac : AC := (ann (bodyOf Try.f10) [[0, 1, 2, 7, 8], [0, 1, 2, 7, 8, 9, 10], [0, 1, 2, 7, 8, 9, 10, 11], [0, 1, 2, 7, 8, 9, 10, 11, 13], [0, 1, 2, 7, 8, 9, 10, 11, 13, 14, 15], [0, 1, 2, 7, 8, 9, 10, 11, 13, 14, 15, 16, 17], [0, 7, 8, 9, 10, 11, 13, 14, 15, 16, 17, 18], [7, 8, 11, 13, 14, 16, 18], [7, 8, 11, 13, 14, 16, 18, 89], [7, 8, 11, 13, 14, 16, 18], [8], [7, 8, 11, 14, 16, 18], [7, 8, 11, 13, 14, 16, 18, 91, 92], [7, 8, 11, 14, 16, 18], [7, 8, 11, 13, 14, 16, 18, 91, 92], [7, 8, 11, 13, 14, 16, 18, 91, 92, 93], [7, 8, 11, 13, 14, 16, 18, 91, 92], [7, 8, 11, 13, 14, 16, 18, 91, 92], [7, 8, 11, 13, 14, 16, 18, 91, 92], [7, 8, 11, 13, 14, 16, 18, 91, 92], [7, 8, 11, 13, 14, 16, 18, 19, 91, 92], [7, 8, 11, 14, 16, 18], [7, 8, 11, 14, 16, 18, 99], [7, 8, 11, 14, 16, 18], [7, 8, 11, 14, 16, 18, 99], [7, 8, 11, 14, 16, 18, 99, 100], [7, 8, 11, 14, 16, 18, 99], [7, 8, 11, 14, 16, 18, 99], [7, 8, 11, 14, 16, 18, 99], [7, 8, 11, 14, 16, 18, 99], [7, 8, 11, 14, 16, 18, 20, 99], [7, 8, 11, 14, 16, 18, 20, 99], [7, 8, 11, 14, 16, 18, 20, 99, 101], [7, 8, 11, 14, 16, 18, 20, 99], [7, 8, 11, 14, 16, 18, 20, 99, 101], [7, 8, 11, 14, 16, 18, 99, 131], [7, 8, 11, 14, 16, 18, 99], [8], [7, 8, 11, 14, 16, 18, 23], [8, 14, 16], [7, 8, 11, 14, 16, 23, 133], [8, 14, 16], [7, 8, 11, 14, 16, 23, 133], [8]]).1
noncomputable def F10.rAs0 : Code := F10.ac.snd.snd.snd.snd.snd.snd.snd.snd.snd.fst.snd.fst.fst.snd.snd.fst.fst.snd.fst.snd.fst.rfAs
noncomputable def F10.rBd0 : Code := F10.ac.snd.snd.snd.snd.snd.snd.snd.snd.snd.fst.snd.fst.fst.snd.snd.fst.fst.snd.fst.snd.fst.rfBd
noncomputable def F10.aAs0 : AC := (ann F10.rAs0 [[7, 8, 11, 14, 16, 18, 20, 21, 99, 103]]).1
noncomputable def F10.aBd0 : AC := (ann F10.rBd0 [[7, 8, 11, 14, 16, 18, 20, 99], [7, 8, 11, 14, 16, 18, 20, 99], [7, 8, 11, 14, 16, 18, 20, 99, 125], [7, 8, 11, 14, 16, 18, 20, 99], [8]]).1
noncomputable def F10.rAs1 : Code := F10.ac.snd.snd.snd.snd.snd.snd.snd.snd.snd.snd.snd.fst.snd.fst.rfAs
noncomputable def F10.rBd1 : Code := F10.ac.snd.snd.snd.snd.snd.snd.snd.snd.snd.snd.snd.fst.snd.fst.rfBd
noncomputable def F10.aAs1 : AC := (ann F10.rAs1 [[7, 8, 11, 14, 16, 23, 24, 135]]).1
noncomputable def F10.aBd1 : AC := (ann F10.rBd1 [[7, 8, 11, 14, 16, 23], [7, 8, 11, 14, 16, 23], [7, 8, 11, 14, 16, 23, 157], [7, 8, 11, 14, 16, 23], [8], [7, 8, 11, 14, 16, 23], [7, 8, 11, 14, 16, 23, 160], [7, 8, 11, 14, 16, 23]]).1
noncomputable def F10.c0 : AC := F10.ac
noncomputable def F10.c1 : AC := F10.ac.snd.snd.snd.snd.snd.snd.snd.fst.snd.fst
noncomputable def F10.c2 : AC := F10.ac.snd.snd.snd.snd.snd.snd.snd.snd
noncomputable def F10.c3 : AC := F10.ac.snd.snd.snd.snd.snd.snd.snd.snd.fst.snd.fst.fst
noncomputable def F10.c4 : AC := F10.ac.snd.snd.snd.snd.snd.snd.snd.snd.fst.snd.fst.fst.snd.snd
noncomputable def F10.c5 : AC := F10.ac.snd.snd.snd.snd.snd.snd.snd.snd.fst.snd.fst.fst.snd.snd.snd
noncomputable def F10.c6 : AC := F10.ac.snd.snd.snd.snd.snd.snd.snd.snd.snd
noncomputable def F10.c7 : AC := F10.ac.snd.snd.snd.snd.snd.snd.snd.snd.snd.fst.snd.fst.fst
noncomputable def F10.c8 : AC := F10.ac.snd.snd.snd.snd.snd.snd.snd.snd.snd.fst.snd.fst.fst.snd.snd
noncomputable def F10.c9 : AC := F10.ac.snd.snd.snd.snd.snd.snd.snd.snd.snd.fst.snd.fst.fst.snd.snd.fst.fst.snd.snd
noncomputable def F10.c10 : AC := F10.ac.snd.snd.snd.snd.snd.snd.snd.snd.snd.fst.snd.fst.fst.snd.snd.fst.fst.snd.snd.snd.fst
noncomputable def F10.c11 : AC := F10.ac.snd.snd.snd.snd.snd.snd.snd.snd.snd.fst.snd.fst.fst.snd.snd.snd
noncomputable def F10.c12 : AC := F10.ac.snd.snd.snd.snd.snd.snd.snd.snd.snd.snd
noncomputable def F10.c13 : AC := F10.ac.snd.snd.snd.snd.snd.snd.snd.snd.snd.snd.snd.snd
noncomputable def F10.p0 (n0 : Nat) : WP := wA Try.prog n0 169 none F10.c0
noncomputable def F10.p1 (n0 : Nat) : WP := wA Try.prog n0 169 none F10.c1
noncomputable def F10.p2 (n0 : Nat) : WP := wA Try.prog n0 169 none F10.c2
noncomputable def F10.p3 (n0 : Nat) : WP := wA Try.prog n0 169 none F10.c3
noncomputable def F10.p4 (n0 : Nat) : WP := wA Try.prog n0 169 none F10.c4
noncomputable def F10.p5 (n0 : Nat) : WP := wA Try.prog n0 169 none F10.c5
noncomputable def F10.p6 (n0 : Nat) : WP := wA Try.prog n0 169 none F10.c6
noncomputable def F10.p7 (n0 : Nat) : WP := wA Try.prog n0 169 none F10.c7
noncomputable def F10.p8 (n0 : Nat) : WP := wA Try.prog n0 169 none F10.c8
noncomputable def F10.p9 (n0 : Nat) : WP := wA Try.prog n0 169 none F10.c9
noncomputable def F10.p10 (n0 : Nat) : WP := wA Try.prog n0 169 none F10.c10
noncomputable def F10.p11 (n0 : Nat) : WP := wA Try.prog n0 169 none F10.c11
noncomputable def F10.p12 (n0 : Nat) : WP := wA Try.prog n0 169 none F10.c12
noncomputable def F10.p13 (n0 : Nat) : WP := wA Try.prog n0 169 none F10.c13
noncomputable def F10.t0 (n0 : Nat) (B1 : WP) (B2 : WP) (t0 o1 A2 r3 : Value) (ds : List Nat) (h : H) (K : KP) : Prop :=
  Nw (enc 0 3) (clL r3) h fun t7 h1 =>
  Nw (enc 0 4) (zc Try.prog 4) h1 fun t8 h2 =>
  Cn Try.prog n0 (.func 34) [t0, o1, A2] h2 fun t30 h3 =>
  Bnd (tupAt t30 0) fun t31 =>
  Bnd (tupAt t30 1) fun t32 =>
  Cn Try.prog n0 (.func 35) [t0, o1, A2] h3 fun t37 h4 =>
  Bnd (tupAt t37 0) fun t38 =>
  Bnd (tupAt t37 1) fun t39 =>
  Nw (enc 0 67) (zc Try.prog 67) h4 fun t11 h5 =>
  Bnd (aStore Try.prog 67 t11 t38 h5) fun h6 =>
  Cn Try.prog n0 (.func 12) [t0] h6 fun t41 h7 =>
  Cn Try.prog n0 (.func 36) [t41, o1, A2] h7 fun t46 h8 =>
  Bnd (tupAt t46 0) fun t47 =>
  Bnd (tupAt t46 1) fun t48 =>
  Cn Try.prog n0 (.func 36) [t41, o1, A2] h8 fun t53 h9 =>
  Bnd (tupAt t53 0) fun t54 =>
  Bnd (tupAt t53 1) fun t55 =>
  Cn Try.prog n0 (.func 37) [t41, o1, A2] h9 fun t59 h10 =>
  Bnd (aBin Try.prog false .neq 27 t48 t32) fun t62 =>
  Gd t62
   (B1 [(7, t7), (8, t8), (11, t11), (13, t41), (14, t47), (16, t54), (18, t59)] ds h10 (KSeq [7, 8, 11, 13, 14, 16, 18] B2 K))
   (Bnd (aBin Try.prog false .neq 27 t55 t32) fun t66 =>
  Gd t66
   (B1 [(7, t7), (8, t8), (11, t11), (13, t41), (14, t47), (16, t54), (18, t59)] ds h10 (KSeq [7, 8, 11, 13, 14, 16, 18] B2 K))
   (Cn Try.prog n0 (.func 38) [t47, t31] h10 fun t71 h11 =>
  Bnd (aUn .not t71) fun t72 =>
  Gd t72
   (B1 [(7, t7), (8, t8), (11, t11), (13, t41), (14, t47), (16, t54), (18, t59)] ds h11 (KSeq [7, 8, 11, 13, 14, 16, 18] B2 K))
   (Cn Try.prog n0 (.func 38) [t54, t31] h11 fun t77 h12 =>
  Bnd (aUn .not t77) fun t78 =>
  Gd t78
   (B1 [(7, t7), (8, t8), (11, t11), (13, t41), (14, t47), (16, t54), (18, t59)] ds h12 (KSeq [7, 8, 11, 13, 14, 16, 18] B2 K))
   (Bnd (aBin Try.prog true .eql 71 t59 (.nilFunc)) fun t82 =>
  Gd t82
   (B1 [(7, t7), (8, t8), (11, t11), (13, t41), (14, t47), (16, t54), (18, t59)] ds h12 (KSeq [7, 8, 11, 13, 14, 16, 18] B2 K))
   (Cn Try.prog n0 (.func 15) [t41, t0] h12 fun t87 h13 =>
  Bnd (aUn .not t87) fun t88 =>
  Cnd t88
   (B1 [(7, t7), (8, t8), (11, t11), (13, t41), (14, t47), (16, t54), (18, t59)] ds h13 (KSeq [7, 8, 11, 13, 14, 16, 18] B2 K))
   (B2 [(7, t7), (8, t8), (11, t11), (13, t41), (14, t47), (16, t54), (18, t59)] ds h13 K))))))
theorem F10.g0 {n0 : Nat} (B1 : WP) (B2 : WP) (t0 o1 A2 r3 : Value) {ds : List Nat} {h : H} {K : KP} : wA Try.prog n0 169 none (.seq [0, 1, 2, 7, 8] F10.c0.fst (.seq [0, 1, 2, 7, 8, 9, 10] F10.c0.snd.fst (.seq [0, 1, 2, 7, 8, 9, 10, 11] F10.c0.snd.snd.fst (.seq [0, 1, 2, 7, 8, 9, 10, 11, 13] F10.c0.snd.snd.snd.fst (.seq [0, 1, 2, 7, 8, 9, 10, 11, 13, 14, 15] F10.c0.snd.snd.snd.snd.fst (.seq [0, 1, 2, 7, 8, 9, 10, 11, 13, 14, 15, 16, 17] F10.c0.snd.snd.snd.snd.snd.fst (.seq [0, 7, 8, 9, 10, 11, 13, 14, 15, 16, 17, 18] F10.c0.snd.snd.snd.snd.snd.snd.fst (.seq [7, 8, 11, 13, 14, 16, 18] (.seq [7, 8, 11, 13, 14, 16, 18, 89] F10.c0.snd.snd.snd.snd.snd.snd.snd.fst.fst (.cond [7, 8, 11, 13, 14, 16, 18] (.tmp 89) (.sub B1) F10.c0.snd.snd.snd.snd.snd.snd.snd.fst.snd.snd)) (.sub B2))))))))) [(0, t0), (1, o1), (2, A2), (3, r3)] ds h K = F10.t0 n0 B1 B2 t0 o1 A2 r3 ds h K := by kernel_rfl
theorem F10.s0 {n0 : Nat} : F10.p0 n0 = wA Try.prog n0 169 none (.seq [0, 1, 2, 7, 8] F10.c0.fst (.seq [0, 1, 2, 7, 8, 9, 10] F10.c0.snd.fst (.seq [0, 1, 2, 7, 8, 9, 10, 11] F10.c0.snd.snd.fst (.seq [0, 1, 2, 7, 8, 9, 10, 11, 13] F10.c0.snd.snd.snd.fst (.seq [0, 1, 2, 7, 8, 9, 10, 11, 13, 14, 15] F10.c0.snd.snd.snd.snd.fst (.seq [0, 1, 2, 7, 8, 9, 10, 11, 13, 14, 15, 16, 17] F10.c0.snd.snd.snd.snd.snd.fst (.seq [0, 7, 8, 9, 10, 11, 13, 14, 15, 16, 17, 18] F10.c0.snd.snd.snd.snd.snd.snd.fst (.seq [7, 8, 11, 13, 14, 16, 18] (.seq [7, 8, 11, 13, 14, 16, 18, 89] F10.c0.snd.snd.snd.snd.snd.snd.snd.fst.fst (.cond [7, 8, 11, 13, 14, 16, 18] (.tmp 89) (.sub (F10.p1 n0)) F10.c0.snd.snd.snd.snd.snd.snd.snd.fst.snd.snd)) (.sub (F10.p2 n0)))))))))) := by kernel_rfl
theorem F10.e0 {n0 : Nat} {t0 o1 A2 r3 : Value} {ds : List Nat} {h : H} {K : KP} : F10.p0 n0 [(0, t0), (1, o1), (2, A2), (3, r3)] ds h K = F10.t0 n0 (F10.p1 n0) (F10.p2 n0) t0 o1 A2 r3 ds h K :=
  wchain (F10.s0) (F10.g0 (F10.p1 n0) (F10.p2 n0) t0 o1 A2 r3)
theorem F10.k0 : F10.c0.ok = true := by kernel_rfl
theorem F10.d0 {n0 : Nat} : F10.p0 n0 = wA Try.prog n0 169 none F10.c0 := by kernel_rfl
theorem F10.m0 (n0 : Nat) : MonoW (F10.p0 n0) := @mono_c Try.prog n0 169 none F10.c0 (F10.p0 n0) (F10.d0) F10.k0
noncomputable def F10.t1 (n0 : Nat) (t7 t8 t11 t13 t14 t16 t18 : Value) (ds : List Nat) (h : H) (K : KP) : Prop :=
  Bnd (aStore Try.prog 4 t8 (.bool false) h) fun h1 =>
  K .ret [(8, t8)] ds h1
theorem F10.g1 {n0 : Nat} (t7 t8 t11 t13 t14 t16 t18 : Value) {ds : List Nat} {h : H} {K : KP} : wA Try.prog n0 169 none F10.c1 [(7, t7), (8, t8), (11, t11), (13, t13), (14, t14), (16, t16), (18, t18)] ds h K = F10.t1 n0 t7 t8 t11 t13 t14 t16 t18 ds h K := by kernel_rfl
theorem F10.s1 {n0 : Nat} : F10.p1 n0 = wA Try.prog n0 169 none F10.c1 := by kernel_rfl
theorem F10.e1 {n0 : Nat} {t7 t8 t11 t13 t14 t16 t18 : Value} {ds : List Nat} {h : H} {K : KP} : F10.p1 n0 [(7, t7), (8, t8), (11, t11), (13, t13), (14, t14), (16, t16), (18, t18)] ds h K = F10.t1 n0 t7 t8 t11 t13 t14 t16 t18 ds h K :=
  wchain (F10.s1) (F10.g1 t7 t8 t11 t13 t14 t16 t18)
noncomputable def F10.t2 (n0 : Nat) (B3 : WP) (B6 : WP) (t7 t8 t11 t13 t14 t16 t18 : Value) (ds : List Nat) (h : H) (K : KP) : Prop :=
  Bnd2 (aBuiltin Try.prog .len #[22] [t13] h) fun t91 h1 =>
  Lp [7, 8, 11, 13, 14, 16, 18, 91, 92] B3 [(7, t7), (8, t8), (11, t11), (13, t13), (14, t14), (16, t16), (18, t18), (91, t91), (92, (.int .i64 0))] ds h1 (KBlk [7, 8, 11, 14, 16, 18] 0 (KSeq [7, 8, 11, 14, 16, 18] B6 K))
theorem F10.g2 {n0 : Nat} (B3 : WP) (B6 : WP) (t7 t8 t11 t13 t14 t16 t18 : Value) {ds : List Nat} {h : H} {K : KP} : wA Try.prog n0 169 none (.seq [7, 8, 11, 14, 16, 18] (.seq [7, 8, 11, 13, 14, 16, 18, 91, 92] F10.c2.fst.fst (.block [7, 8, 11, 14, 16, 18] 0 (.loop [7, 8, 11, 13, 14, 16, 18, 91, 92] (.sub B3)))) (.sub B6)) [(7, t7), (8, t8), (11, t11), (13, t13), (14, t14), (16, t16), (18, t18)] ds h K = F10.t2 n0 B3 B6 t7 t8 t11 t13 t14 t16 t18 ds h K := by kernel_rfl
theorem F10.s2 {n0 : Nat} : F10.p2 n0 = wA Try.prog n0 169 none (.seq [7, 8, 11, 14, 16, 18] (.seq [7, 8, 11, 13, 14, 16, 18, 91, 92] F10.c2.fst.fst (.block [7, 8, 11, 14, 16, 18] 0 (.loop [7, 8, 11, 13, 14, 16, 18, 91, 92] (.sub (F10.p3 n0))))) (.sub (F10.p6 n0))) := by kernel_rfl
theorem F10.e2 {n0 : Nat} {t7 t8 t11 t13 t14 t16 t18 : Value} {ds : List Nat} {h : H} {K : KP} : F10.p2 n0 [(7, t7), (8, t8), (11, t11), (13, t13), (14, t14), (16, t16), (18, t18)] ds h K = F10.t2 n0 (F10.p3 n0) (F10.p6 n0) t7 t8 t11 t13 t14 t16 t18 ds h K :=
  wchain (F10.s2) (F10.g2 (F10.p3 n0) (F10.p6 n0) t7 t8 t11 t13 t14 t16 t18)
noncomputable def F10.t3 (n0 : Nat) (B4 : WP) (t7 t8 t11 t13 t14 t16 t18 t91 t92 : Value) (ds : List Nat) (h : H) (K : KP) : Prop :=
  Bnd (aBin Try.prog false .lss 3 t92 t91) fun t93 =>
  Cnd t93
   (B4 [(7, t7), (8, t8), (11, t11), (13, t13), (14, t14), (16, t16), (18, t18), (91, t91), (92, t92)] ds h K)
   (K (.exit 0) [(7, t7), (8, t8), (11, t11), (13, t13), (14, t14), (16, t16), (18, t18), (91, t91), (92, t92)] ds h)
theorem F10.g3 {n0 : Nat} (B4 : WP) (t7 t8 t11 t13 t14 t16 t18 t91 t92 : Value) {ds : List Nat} {h : H} {K : KP} : wA Try.prog n0 169 none (.seq [7, 8, 11, 13, 14, 16, 18, 91, 92, 93] F10.c3.fst (.seq [7, 8, 11, 13, 14, 16, 18, 91, 92] F10.c3.snd.fst (.sub B4))) [(7, t7), (8, t8), (11, t11), (13, t13), (14, t14), (16, t16), (18, t18), (91, t91), (92, t92)] ds h K = F10.t3 n0 B4 t7 t8 t11 t13 t14 t16 t18 t91 t92 ds h K := by kernel_rfl
theorem F10.s3 {n0 : Nat} : F10.p3 n0 = wA Try.prog n0 169 none (.seq [7, 8, 11, 13, 14, 16, 18, 91, 92, 93] F10.c3.fst (.seq [7, 8, 11, 13, 14, 16, 18, 91, 92] F10.c3.snd.fst (.sub (F10.p4 n0)))) := by kernel_rfl
theorem F10.e3 {n0 : Nat} {t7 t8 t11 t13 t14 t16 t18 t91 t92 : Value} {ds : List Nat} {h : H} {K : KP} : F10.p3 n0 [(7, t7), (8, t8), (11, t11), (13, t13), (14, t14), (16, t16), (18, t18), (91, t91), (92, t92)] ds h K = F10.t3 n0 (F10.p4 n0) t7 t8 t11 t13 t14 t16 t18 t91 t92 ds h K :=
  wchain (F10.s3) (F10.g3 (F10.p4 n0) t7 t8 t11 t13 t14 t16 t18 t91 t92)
theorem F10.k3 : F10.c3.ok = true := by kernel_rfl
theorem F10.d3 {n0 : Nat} : F10.p3 n0 = wA Try.prog n0 169 none F10.c3 := by kernel_rfl
theorem F10.m3 (n0 : Nat) : MonoW (F10.p3 n0) := @mono_c Try.prog n0 169 none F10.c3 (F10.p3 n0) (F10.d3) F10.k3
noncomputable def F10.t4 (n0 : Nat) (B5 : WP) (t7 t8 t11 t13 t14 t16 t18 t91 t92 : Value) (ds : List Nat) (h : H) (K : KP) : Prop :=
  Bnd (aIndexAddr Try.prog 22 t13 t92) fun t97 =>
  Bnd (aStore Try.prog 5 t97 (.int .u8 238) h) fun h1 =>
  B5 [(7, t7), (8, t8), (11, t11), (13, t13), (14, t14), (16, t16), (18, t18), (91, t91), (92, t92)] ds h1 K
theorem F10.g4 {n0 : Nat} (B5 : WP) (t7 t8 t11 t13 t14 t16 t18 t91 t92 : Value) {ds : List Nat} {h : H} {K : KP} : wA Try.prog n0 169 none (.seq [7, 8, 11, 13, 14, 16, 18, 91, 92] F10.c4.fst (.sub B5)) [(7, t7), (8, t8), (11, t11), (13, t13), (14, t14), (16, t16), (18, t18), (91, t91), (92, t92)] ds h K = F10.t4 n0 B5 t7 t8 t11 t13 t14 t16 t18 t91 t92 ds h K := by kernel_rfl
theorem F10.s4 {n0 : Nat} : F10.p4 n0 = wA Try.prog n0 169 none (.seq [7, 8, 11, 13, 14, 16, 18, 91, 92] F10.c4.fst (.sub (F10.p5 n0))) := by kernel_rfl
theorem F10.e4 {n0 : Nat} {t7 t8 t11 t13 t14 t16 t18 t91 t92 : Value} {ds : List Nat} {h : H} {K : KP} : F10.p4 n0 [(7, t7), (8, t8), (11, t11), (13, t13), (14, t14), (16, t16), (18, t18), (91, t91), (92, t92)] ds h K = F10.t4 n0 (F10.p5 n0) t7 t8 t11 t13 t14 t16 t18 t91 t92 ds h K :=
  wchain (F10.s4) (F10.g4 (F10.p5 n0) t7 t8 t11 t13 t14 t16 t18 t91 t92)
noncomputable def F10.t5 (n0 : Nat) (t7 t8 t11 t13 t14 t16 t18 t91 t92 : Value) (ds : List Nat) (h : H) (K : KP) : Prop :=
  Bnd (aBin Try.prog true .add 3 t92 (.int .i64 1)) fun t98 =>
  K .normal [(7, t7), (8, t8), (11, t11), (13, t13), (14, t14), (16, t16), (18, t18), (91, t91), (92, t98), (98, t98)] ds h
theorem F10.g5 {n0 : Nat} (t7 t8 t11 t13 t14 t16 t18 t91 t92 : Value) {ds : List Nat} {h : H} {K : KP} : wA Try.prog n0 169 none F10.c5 [(7, t7), (8, t8), (11, t11), (13, t13), (14, t14), (16, t16), (18, t18), (91, t91), (92, t92)] ds h K = F10.t5 n0 t7 t8 t11 t13 t14 t16 t18 t91 t92 ds h K := by kernel_rfl
theorem F10.s5 {n0 : Nat} : F10.p5 n0 = wA Try.prog n0 169 none F10.c5 := by kernel_rfl
theorem F10.e5 {n0 : Nat} {t7 t8 t11 t13 t14 t16 t18 t91 t92 : Value} {ds : List Nat} {h : H} {K : KP} : F10.p5 n0 [(7, t7), (8, t8), (11, t11), (13, t13), (14, t14), (16, t16), (18, t18), (91, t91), (92, t92)] ds h K = F10.t5 n0 t7 t8 t11 t13 t14 t16 t18 t91 t92 ds h K :=
  wchain (F10.s5) (F10.g5 t7 t8 t11 t13 t14 t16 t18 t91 t92)
noncomputable def F10.t6 (n0 : Nat) (B7 : WP) (B12 : WP) (t7 t8 t11 t14 t16 t18 : Value) (ds : List Nat) (h : H) (K : KP) : Prop :=
  Lp [7, 8, 11, 14, 16, 18, 99] B7 [(7, t7), (8, t8), (11, t11), (14, t14), (16, t16), (18, t18), (99, (.int .i64 0))] ds h (KBlk [7, 8, 11, 14, 16, 18] 2 (KSeq [7, 8, 11, 14, 16, 18] B12 K))
theorem F10.g6 {n0 : Nat} (B7 : WP) (B12 : WP) (t7 t8 t11 t14 t16 t18 : Value) {ds : List Nat} {h : H} {K : KP} : wA Try.prog n0 169 none (.seq [7, 8, 11, 14, 16, 18] (.seq [7, 8, 11, 14, 16, 18, 99] F10.c6.fst.fst (.block [7, 8, 11, 14, 16, 18] 2 (.loop [7, 8, 11, 14, 16, 18, 99] (.sub B7)))) (.sub B12)) [(7, t7), (8, t8), (11, t11), (14, t14), (16, t16), (18, t18)] ds h K = F10.t6 n0 B7 B12 t7 t8 t11 t14 t16 t18 ds h K := by kernel_rfl
theorem F10.s6 {n0 : Nat} : F10.p6 n0 = wA Try.prog n0 169 none (.seq [7, 8, 11, 14, 16, 18] (.seq [7, 8, 11, 14, 16, 18, 99] F10.c6.fst.fst (.block [7, 8, 11, 14, 16, 18] 2 (.loop [7, 8, 11, 14, 16, 18, 99] (.sub (F10.p7 n0))))) (.sub (F10.p12 n0))) := by kernel_rfl
theorem F10.e6 {n0 : Nat} {t7 t8 t11 t14 t16 t18 : Value} {ds : List Nat} {h : H} {K : KP} : F10.p6 n0 [(7, t7), (8, t8), (11, t11), (14, t14), (16, t16), (18, t18)] ds h K = F10.t6 n0 (F10.p7 n0) (F10.p12 n0) t7 t8 t11 t14 t16 t18 ds h K :=
  wchain (F10.s6) (F10.g6 (F10.p7 n0) (F10.p12 n0) t7 t8 t11 t14 t16 t18)
noncomputable def F10.t7 (n0 : Nat) (B8 : WP) (t7 t8 t11 t14 t16 t18 t99 : Value) (ds : List Nat) (h : H) (K : KP) : Prop :=
  Bnd (aBin Try.prog true .lss 3 t99 (.int .i64 2)) fun t100 =>
  Cnd t100
   (B8 [(7, t7), (8, t8), (11, t11), (14, t14), (16, t16), (18, t18), (99, t99)] ds h K)
   (K (.exit 2) [(7, t7), (8, t8), (11, t11), (14, t14), (16, t16), (18, t18), (99, t99)] ds h)
theorem F10.g7 {n0 : Nat} (B8 : WP) (t7 t8 t11 t14 t16 t18 t99 : Value) {ds : List Nat} {h : H} {K : KP} : wA Try.prog n0 169 none (.seq [7, 8, 11, 14, 16, 18, 99, 100] F10.c7.fst (.seq [7, 8, 11, 14, 16, 18, 99] F10.c7.snd.fst (.sub B8))) [(7, t7), (8, t8), (11, t11), (14, t14), (16, t16), (18, t18), (99, t99)] ds h K = F10.t7 n0 B8 t7 t8 t11 t14 t16 t18 t99 ds h K := by kernel_rfl
theorem F10.s7 {n0 : Nat} : F10.p7 n0 = wA Try.prog n0 169 none (.seq [7, 8, 11, 14, 16, 18, 99, 100] F10.c7.fst (.seq [7, 8, 11, 14, 16, 18, 99] F10.c7.snd.fst (.sub (F10.p8 n0)))) := by kernel_rfl
theorem F10.e7 {n0 : Nat} {t7 t8 t11 t14 t16 t18 t99 : Value} {ds : List Nat} {h : H} {K : KP} : F10.p7 n0 [(7, t7), (8, t8), (11, t11), (14, t14), (16, t16), (18, t18), (99, t99)] ds h K = F10.t7 n0 (F10.p8 n0) t7 t8 t11 t14 t16 t18 t99 ds h K :=
  wchain (F10.s7) (F10.g7 (F10.p8 n0) t7 t8 t11 t14 t16 t18 t99)
theorem F10.k7 : F10.c7.ok = true := by kernel_rfl
theorem F10.d7 {n0 : Nat} : F10.p7 n0 = wA Try.prog n0 169 none F10.c7 := by kernel_rfl
theorem F10.m7 (n0 : Nat) : MonoW (F10.p7 n0) := @mono_c Try.prog n0 169 none F10.c7 (F10.p7 n0) (F10.d7) F10.k7
noncomputable def F10.t8 (n0 : Nat) (B9 : WP) (B11 : WP) (t7 t8 t11 t14 t16 t18 t99 : Value) (ds : List Nat) (h : H) (K : KP) : Prop :=
  Nw (enc 0 3) (zc Try.prog 3) h fun t20 h1 =>
  Bnd (aStore Try.prog 3 t20 (.int .i64 0) h1) fun h2 =>
  wRange Try.prog n0 none 169 t18 #[102, 103] F10.rAs0 F10.rBd0 [(7, t7), (8, t8), (11, t11), (14, t14), (16, t16), (18, t18), (20, t20), (99, t99), (101, t18)] ds h2 (KBlk [7, 8, 11, 14, 16, 18, 20, 99] 4 (KSeq [7, 8, 11, 14, 16, 18, 20, 99] B9 (KBlk [7, 8, 11, 14, 16, 18, 99] 3 (KSeq [7, 8, 11, 14, 16, 18, 99] B11 K))))
theorem F10.g8 {n0 : Nat} (B9 : WP) (B11 : WP) (t7 t8 t11 t14 t16 t18 t99 : Value) {ds : List Nat} {h : H} {K : KP} : wA Try.prog n0 169 none (.seq [7, 8, 11, 14, 16, 18, 99] (.block [7, 8, 11, 14, 16, 18, 99] 3 (.seq [7, 8, 11, 14, 16, 18, 20, 99] F10.c8.fst.fst.fst (.seq [7, 8, 11, 14, 16, 18, 20, 99] F10.c8.fst.fst.snd.fst (.sub B9)))) (.sub B11)) [(7, t7), (8, t8), (11, t11), (14, t14), (16, t16), (18, t18), (99, t99)] ds h K = F10.t8 n0 B9 B11 t7 t8 t11 t14 t16 t18 t99 ds h K := by kernel_rfl
theorem F10.s8 {n0 : Nat} : F10.p8 n0 = wA Try.prog n0 169 none (.seq [7, 8, 11, 14, 16, 18, 99] (.block [7, 8, 11, 14, 16, 18, 99] 3 (.seq [7, 8, 11, 14, 16, 18, 20, 99] F10.c8.fst.fst.fst (.seq [7, 8, 11, 14, 16, 18, 20, 99] F10.c8.fst.fst.snd.fst (.sub (F10.p9 n0))))) (.sub (F10.p11 n0))) := by kernel_rfl
theorem F10.e8 {n0 : Nat} {t7 t8 t11 t14 t16 t18 t99 : Value} {ds : List Nat} {h : H} {K : KP} : F10.p8 n0 [(7, t7), (8, t8), (11, t11), (14, t14), (16, t16), (18, t18), (99, t99)] ds h K = F10.t8 n0 (F10.p9 n0) (F10.p11 n0) t7 t8 t11 t14 t16 t18 t99 ds h K :=
  wchain (F10.s8) (F10.g8 (F10.p9 n0) (F10.p11 n0) t7 t8 t11 t14 t16 t18 t99)
noncomputable def F10.t9 (n0 : Nat) (B10 : WP) (t7 t8 t11 t14 t16 t18 t20 t99 : Value) (ds : List Nat) (h : H) (K : KP) : Prop :=
  Bnd (aLoad Try.prog 3 t20 h) fun t128 =>
  Bnd (aLoad Try.prog 67 t11 h) fun t129 =>
  Bnd2 (aBuiltin Try.prog .len #[67] [t129] h) fun t130 h1 =>
  Bnd (aBin Try.prog false .neq 3 t128 t130) fun t131 =>
  Cnd t131
   (B10 [(7, t7), (8, t8), (11, t11), (14, t14), (16, t16), (18, t18), (99, t99)] ds h1 K)
   (K .normal [(7, t7), (8, t8), (11, t11), (14, t14), (16, t16), (18, t18), (99, t99)] ds h1)
theorem F10.g9 {n0 : Nat} (B10 : WP) (t7 t8 t11 t14 t16 t18 t20 t99 : Value) {ds : List Nat} {h : H} {K : KP} : wA Try.prog n0 169 none (.seq [7, 8, 11, 14, 16, 18, 99, 131] F10.c9.fst (.cond [7, 8, 11, 14, 16, 18, 99] (.tmp 131) (.sub B10) F10.c9.snd.snd)) [(7, t7), (8, t8), (11, t11), (14, t14), (16, t16), (18, t18), (20, t20), (99, t99)] ds h K = F10.t9 n0 B10 t7 t8 t11 t14 t16 t18 t20 t99 ds h K := by kernel_rfl
theorem F10.s9 {n0 : Nat} : F10.p9 n0 = wA Try.prog n0 169 none (.seq [7, 8, 11, 14, 16, 18, 99, 131] F10.c9.fst (.cond [7, 8, 11, 14, 16, 18, 99] (.tmp 131) (.sub (F10.p10 n0)) F10.c9.snd.snd)) := by kernel_rfl
theorem F10.e9 {n0 : Nat} {t7 t8 t11 t14 t16 t18 t20 t99 : Value} {ds : List Nat} {h : H} {K : KP} : F10.p9 n0 [(7, t7), (8, t8), (11, t11), (14, t14), (16, t16), (18, t18), (20, t20), (99, t99)] ds h K = F10.t9 n0 (F10.p10 n0) t7 t8 t11 t14 t16 t18 t20 t99 ds h K :=
  wchain (F10.s9) (F10.g9 (F10.p10 n0) t7 t8 t11 t14 t16 t18 t20 t99)
noncomputable def F10.t10 (n0 : Nat) (t7 t8 t11 t14 t16 t18 t99 : Value) (ds : List Nat) (h : H) (K : KP) : Prop :=
  Bnd (aStore Try.prog 4 t8 (.bool false) h) fun h1 =>
  K .ret [(8, t8)] ds h1
theorem F10.g10 {n0 : Nat} (t7 t8 t11 t14 t16 t18 t99 : Value) {ds : List Nat} {h : H} {K : KP} : wA Try.prog n0 169 none F10.c10 [(7, t7), (8, t8), (11, t11), (14, t14), (16, t16), (18, t18), (99, t99)] ds h K = F10.t10 n0 t7 t8 t11 t14 t16 t18 t99 ds h K := by kernel_rfl
theorem F10.s10 {n0 : Nat} : F10.p10 n0 = wA Try.prog n0 169 none F10.c10 := by kernel_rfl
theorem F10.e10 {n0 : Nat} {t7 t8 t11 t14 t16 t18 t99 : Value} {ds : List Nat} {h : H} {K : KP} : F10.p10 n0 [(7, t7), (8, t8), (11, t11), (14, t14), (16, t16), (18, t18), (99, t99)] ds h K = F10.t10 n0 t7 t8 t11 t14 t16 t18 t99 ds h K :=
  wchain (F10.s10) (F10.g10 t7 t8 t11 t14 t16 t18 t99)
noncomputable def F10.t11 (n0 : Nat) (t7 t8 t11 t14 t16 t18 t99 : Value) (ds : List Nat) (h : H) (K : KP) : Prop :=
  Bnd (aBin Try.prog true .add 3 t99 (.int .i64 1)) fun t132 =>
  K .normal [(7, t7), (8, t8), (11, t11), (14, t14), (16, t16), (18, t18), (99, t132), (132, t132)] ds h
theorem F10.g11 {n0 : Nat} (t7 t8 t11 t14 t16 t18 t99 : Value) {ds : List Nat} {h : H} {K : KP} : wA Try.prog n0 169 none F10.c11 [(7, t7), (8, t8), (11, t11), (14, t14), (16, t16), (18, t18), (99, t99)] ds h K = F10.t11 n0 t7 t8 t11 t14 t16 t18 t99 ds h K := by kernel_rfl
theorem F10.s11 {n0 : Nat} : F10.p11 n0 = wA Try.prog n0 169 none F10.c11 := by kernel_rfl
theorem F10.e11 {n0 : Nat} {t7 t8 t11 t14 t16 t18 t99 : Value} {ds : List Nat} {h : H} {K : KP} : F10.p11 n0 [(7, t7), (8, t8), (11, t11), (14, t14), (16, t16), (18, t18), (99, t99)] ds h K = F10.t11 n0 t7 t8 t11 t14 t16 t18 t99 ds h K :=
  wchain (F10.s11) (F10.g11 t7 t8 t11 t14 t16 t18 t99)
noncomputable def F10.t12 (n0 : Nat) (B13 : WP) (t7 t8 t11 t14 t16 t18 : Value) (ds : List Nat) (h : H) (K : KP) : Prop :=
  Nw (enc 0 3) (zc Try.prog 3) h fun t23 h1 =>
  Bnd (aStore Try.prog 3 t23 (.int .i64 0) h1) fun h2 =>
  wRange Try.prog n0 none 169 t18 #[134, 135] F10.rAs1 F10.rBd1 [(7, t7), (8, t8), (11, t11), (14, t14), (16, t16), (23, t23), (133, t18)] ds h2 (KBlk [8, 14, 16] 6 (KSeq [8, 14, 16] B13 K))
theorem F10.g12 {n0 : Nat} (B13 : WP) (t7 t8 t11 t14 t16 t18 : Value) {ds : List Nat} {h : H} {K : KP} : wA Try.prog n0 169 none (.seq [7, 8, 11, 14, 16, 18, 23] F10.c12.fst (.seq [8, 14, 16] F10.c12.snd.fst (.sub B13))) [(7, t7), (8, t8), (11, t11), (14, t14), (16, t16), (18, t18)] ds h K = F10.t12 n0 B13 t7 t8 t11 t14 t16 t18 ds h K := by kernel_rfl
theorem F10.s12 {n0 : Nat} : F10.p12 n0 = wA Try.prog n0 169 none (.seq [7, 8, 11, 14, 16, 18, 23] F10.c12.fst (.seq [8, 14, 16] F10.c12.snd.fst (.sub (F10.p13 n0)))) := by kernel_rfl
theorem F10.e12 {n0 : Nat} {t7 t8 t11 t14 t16 t18 : Value} {ds : List Nat} {h : H} {K : KP} : F10.p12 n0 [(7, t7), (8, t8), (11, t11), (14, t14), (16, t16), (18, t18)] ds h K = F10.t12 n0 (F10.p13 n0) t7 t8 t11 t14 t16 t18 ds h K :=
  wchain (F10.s12) (F10.g12 (F10.p13 n0) t7 t8 t11 t14 t16 t18)
noncomputable def F10.t13 (n0 : Nat) (t8 t14 t16 : Value) (ds : List Nat) (h : H) (K : KP) : Prop :=
  Cn Try.prog n0 (.func 39) [t14, t16] h fun t165 h1 =>
  Gd t165
   (Cn Try.prog n0 (.func 16) [] h1 fun t167 h2 =>
  Bnd (aStore Try.prog 4 t8 t167 h2) fun h3 =>
  K .ret [(8, t8)] ds h3)
   (Bnd (aStore Try.prog 4 t8 (.bool false) h1) fun h2 =>
  K .ret [(8, t8)] ds h2)
theorem F10.g13 {n0 : Nat} (t8 t14 t16 : Value) {ds : List Nat} {h : H} {K : KP} : wA Try.prog n0 169 none F10.c13 [(8, t8), (14, t14), (16, t16)] ds h K = F10.t13 n0 t8 t14 t16 ds h K := by kernel_rfl
theorem F10.s13 {n0 : Nat} : F10.p13 n0 = wA Try.prog n0 169 none F10.c13 := by kernel_rfl
theorem F10.e13 {n0 : Nat} {t8 t14 t16 : Value} {ds : List Nat} {h : H} {K : KP} : F10.p13 n0 [(8, t8), (14, t14), (16, t16)] ds h K = F10.t13 n0 t8 t14 t16 ds h K :=
  wchain (F10.s13) (F10.g13 t8 t14 t16)
noncomputable def F10.c14 : AC := F10.aAs0
noncomputable def F10.p14 (n0 : Nat) (l : Nat) : WP := wA Try.prog n0 169 (some l) F10.c14
noncomputable def F10.t14 (n0 : Nat) (l : Nat) (t7 t8 t11 t14 t16 t18 t20 t99 t101 t102 t103 : Value) (ds : List Nat) (h : H) (K : KP) : Prop :=
  Nw (enc 0 26) (zc Try.prog 26) h fun t22 h1 =>
  Bnd (aStore Try.prog 26 t22 t103 h1) fun h2 =>
  K .normal [(7, t7), (8, t8), (11, t11), (14, t14), (16, t16), (18, t18), (20, t20), (21, t102), (99, t99), (103, t103), (22, t22)] ds h2
theorem F10.g14 {n0 : Nat} {l : Nat} (t7 t8 t11 t14 t16 t18 t20 t99 t101 t102 t103 : Value) {ds : List Nat} {h : H} {K : KP} : wA Try.prog n0 169 (some l) F10.c14 [(7, t7), (8, t8), (11, t11), (14, t14), (16, t16), (18, t18), (20, t20), (99, t99), (101, t101), (102, t102), (103, t103)] ds h K = F10.t14 n0 l t7 t8 t11 t14 t16 t18 t20 t99 t101 t102 t103 ds h K := by kernel_rfl
theorem F10.s14 {n0 : Nat} (l : Nat) : F10.p14 n0 l = wA Try.prog n0 169 (some l) F10.c14 := by kernel_rfl
theorem F10.e14 {n0 : Nat} {l : Nat} {t7 t8 t11 t14 t16 t18 t20 t99 t101 t102 t103 : Value} {ds : List Nat} {h : H} {K : KP} : F10.p14 n0 l [(7, t7), (8, t8), (11, t11), (14, t14), (16, t16), (18, t18), (20, t20), (99, t99), (101, t101), (102, t102), (103, t103)] ds h K = F10.t14 n0 l t7 t8 t11 t14 t16 t18 t20 t99 t101 t102 t103 ds h K :=
  wchain (F10.s14 l) (F10.g14 t7 t8 t11 t14 t16 t18 t20 t99 t101 t102 t103)
theorem F10.k14 : F10.c14.ok = true := by kernel_rfl
theorem F10.d14 {n0 : Nat} (l : Nat) : F10.p14 n0 l = wA Try.prog n0 169 (some l) F10.c14 := by kernel_rfl
theorem F10.m14 (n0 : Nat) (l : Nat) : MonoW (F10.p14 n0 l) := @mono_c Try.prog n0 169 (some l) F10.c14 (F10.p14 n0 l) (F10.d14 l) F10.k14
noncomputable def F10.c15 : AC := F10.aBd0
noncomputable def F10.c16 : AC := F10.aBd0.fst.fst.snd.fst
noncomputable def F10.c17 : AC := F10.aBd0.fst.snd
noncomputable def F10.p15 (n0 : Nat) (l : Nat) : WP := wA Try.prog n0 169 (some l) F10.c15
noncomputable def F10.p16 (n0 : Nat) (l : Nat) : WP := wA Try.prog n0 169 (some l) F10.c16
noncomputable def F10.p17 (n0 : Nat) (l : Nat) : WP := wA Try.prog n0 169 (some l) F10.c17
noncomputable def F10.t15 (n0 : Nat) (l : Nat) (B16 : WP) (B17 : WP) (t7 t8 t11 t14 t16 t18 t20 t21 t22 t99 : Value) (ds : List Nat) (h : H) (K : KP) : Prop :=
  Bnd (aLoad Try.prog 3 t20 h) fun t104 =>
  Bnd (aLoad Try.prog 67 t11 h) fun t105 =>
  Bnd2 (aBuiltin Try.prog .len #[67] [t105] h) fun t106 h1 =>
  Bnd (aBin Try.prog false .geq 3 t104 t106) fun t107 =>
  Gd t107
   (B16 [(7, t7), (8, t8), (11, t11), (14, t14), (16, t16), (18, t18), (20, t20), (99, t99)] ds h1 (KSeq [7, 8, 11, 14, 16, 18, 20, 99] B17 (KBlk [7, 8, 11, 14, 16, 18, 20, 99] 5 K)))
   (Bnd (aLoad Try.prog 67 t11 h1) fun t109 =>
  Bnd (aLoad Try.prog 3 t20 h1) fun t110 =>
  Bnd (aIndexAddr Try.prog 67 t109 t110) fun t111 =>
  Bnd (aFieldAddr Try.prog 75 t111 0) fun t112 =>
  Bnd (aLoad Try.prog 3 t112 h1) fun t113 =>
  Bnd (aBin Try.prog false .neq 3 t113 t21) fun t115 =>
  Gd t115
   (B16 [(7, t7), (8, t8), (11, t11), (14, t14), (16, t16), (18, t18), (20, t20), (99, t99)] ds h1 (KSeq [7, 8, 11, 14, 16, 18, 20, 99] B17 (KBlk [7, 8, 11, 14, 16, 18, 20, 99] 5 K)))
   (Bnd (aLoad Try.prog 67 t11 h1) fun t118 =>
  Bnd (aLoad Try.prog 3 t20 h1) fun t119 =>
  Bnd (aIndexAddr Try.prog 67 t118 t119) fun t120 =>
  Bnd (aFieldAddr Try.prog 75 t120 1) fun t121 =>
  Bnd (aLoad Try.prog 26 t121 h1) fun t122 =>
  Bnd (aLoad Try.prog 26 t22 h1) fun t123 =>
  Bnd (aBin Try.prog false .neq 26 t122 t123) fun t124 =>
  Cnd t124
   (B16 [(7, t7), (8, t8), (11, t11), (14, t14), (16, t16), (18, t18), (20, t20), (99, t99)] ds h1 (KSeq [7, 8, 11, 14, 16, 18, 20, 99] B17 (KBlk [7, 8, 11, 14, 16, 18, 20, 99] 5 K)))
   (B17 [(7, t7), (8, t8), (11, t11), (14, t14), (16, t16), (18, t18), (20, t20), (99, t99)] ds h1 (KBlk [7, 8, 11, 14, 16, 18, 20, 99] 5 K))))
theorem F10.g15 {n0 : Nat} {l : Nat} (B16 : WP) (B17 : WP) (t7 t8 t11 t14 t16 t18 t20 t21 t22 t99 : Value) {ds : List Nat} {h : H} {K : KP} : wA Try.prog n0 169 (some l) (.block [7, 8, 11, 14, 16, 18, 20, 99] 5 (.seq [7, 8, 11, 14, 16, 18, 20, 99] (.seq [7, 8, 11, 14, 16, 18, 20, 99, 125] F10.c15.fst.fst.fst (.cond [7, 8, 11, 14, 16, 18, 20, 99] (.tmp 125) (.sub B16) F10.c15.fst.fst.snd.snd)) (.sub B17))) [(7, t7), (8, t8), (11, t11), (14, t14), (16, t16), (18, t18), (20, t20), (21, t21), (22, t22), (99, t99)] ds h K = F10.t15 n0 l B16 B17 t7 t8 t11 t14 t16 t18 t20 t21 t22 t99 ds h K := by kernel_rfl
theorem F10.s15 {n0 : Nat} (l : Nat) : F10.p15 n0 l = wA Try.prog n0 169 (some l) (.block [7, 8, 11, 14, 16, 18, 20, 99] 5 (.seq [7, 8, 11, 14, 16, 18, 20, 99] (.seq [7, 8, 11, 14, 16, 18, 20, 99, 125] F10.c15.fst.fst.fst (.cond [7, 8, 11, 14, 16, 18, 20, 99] (.tmp 125) (.sub (F10.p16 n0 l)) F10.c15.fst.fst.snd.snd)) (.sub (F10.p17 n0 l)))) := by kernel_rfl
theorem F10.e15 {n0 : Nat} {l : Nat} {t7 t8 t11 t14 t16 t18 t20 t21 t22 t99 : Value} {ds : List Nat} {h : H} {K : KP} : F10.p15 n0 l [(7, t7), (8, t8), (11, t11), (14, t14), (16, t16), (18, t18), (20, t20), (21, t21), (22, t22), (99, t99)] ds h K = F10.t15 n0 l (F10.p16 n0 l) (F10.p17 n0 l) t7 t8 t11 t14 t16 t18 t20 t21 t22 t99 ds h K :=
  wchain (F10.s15 l) (F10.g15 (F10.p16 n0 l) (F10.p17 n0 l) t7 t8 t11 t14 t16 t18 t20 t21 t22 t99)
theorem F10.k15 : F10.c15.ok = true := by kernel_rfl
theorem F10.d15 {n0 : Nat} (l : Nat) : F10.p15 n0 l = wA Try.prog n0 169 (some l) F10.c15 := by kernel_rfl
theorem F10.m15 (n0 : Nat) (l : Nat) : MonoW (F10.p15 n0 l) := @mono_c Try.prog n0 169 (some l) F10.c15 (F10.p15 n0 l) (F10.d15 l) F10.k15
noncomputable def F10.t16 (n0 : Nat) (l : Nat) (t7 t8 t11 t14 t16 t18 t20 t99 : Value) (ds : List Nat) (h : H) (K : KP) : Prop :=
  Bnd (aStore Try.prog 4 t8 (.bool false) h) fun h1 =>
  K .ret [(8, t8)] ds h1
theorem F10.g16 {n0 : Nat} {l : Nat} (t7 t8 t11 t14 t16 t18 t20 t99 : Value) {ds : List Nat} {h : H} {K : KP} : wA Try.prog n0 169 (some l) F10.c16 [(7, t7), (8, t8), (11, t11), (14, t14), (16, t16), (18, t18), (20, t20), (99, t99)] ds h K = F10.t16 n0 l t7 t8 t11 t14 t16 t18 t20 t99 ds h K := by kernel_rfl
theorem F10.s16 {n0 : Nat} (l : Nat) : F10.p16 n0 l = wA Try.prog n0 169 (some l) F10.c16 := by kernel_rfl
theorem F10.e16 {n0 : Nat} {l : Nat} {t7 t8 t11 t14 t16 t18 t20 t99 : Value} {ds : List Nat} {h : H} {K : KP} : F10.p16 n0 l [(7, t7), (8, t8), (11, t11), (14, t14), (16, t16), (18, t18), (20, t20), (99, t99)] ds h K = F10.t16 n0 l t7 t8 t11 t14 t16 t18 t20 t99 ds h K :=
  wchain (F10.s16 l) (F10.g16 t7 t8 t11 t14 t16 t18 t20 t99)
noncomputable def F10.t17 (n0 : Nat) (l : Nat) (t7 t8 t11 t14 t16 t18 t20 t99 : Value) (ds : List Nat) (h : H) (K : KP) : Prop :=
  Bnd (aLoad Try.prog 3 t20 h) fun t126 =>
  Bnd (aBin Try.prog true .add 3 t126 (.int .i64 1)) fun t127 =>
  Bnd (aStore Try.prog 3 t20 t127 h) fun h1 =>
  K .normal [(7, t7), (8, t8), (11, t11), (14, t14), (16, t16), (18, t18), (20, t20), (99, t99), (126, t126), (127, t127)] ds h1
theorem F10.g17 {n0 : Nat} {l : Nat} (t7 t8 t11 t14 t16 t18 t20 t99 : Value) {ds : List Nat} {h : H} {K : KP} : wA Try.prog n0 169 (some l) F10.c17 [(7, t7), (8, t8), (11, t11), (14, t14), (16, t16), (18, t18), (20, t20), (99, t99)] ds h K = F10.t17 n0 l t7 t8 t11 t14 t16 t18 t20 t99 ds h K := by kernel_rfl
theorem F10.s17 {n0 : Nat} (l : Nat) : F10.p17 n0 l = wA Try.prog n0 169 (some l) F10.c17 := by kernel_rfl
theorem F10.e17 {n0 : Nat} {l : Nat} {t7 t8 t11 t14 t16 t18 t20 t99 : Value} {ds : List Nat} {h : H} {K : KP} : F10.p17 n0 l [(7, t7), (8, t8), (11, t11), (14, t14), (16, t16), (18, t18), (20, t20), (99, t99)] ds h K = F10.t17 n0 l t7 t8 t11 t14 t16 t18 t20 t99 ds h K :=
  wchain (F10.s17 l) (F10.g17 t7 t8 t11 t14 t16 t18 t20 t99)
noncomputable def F10.c18 : AC := F10.aAs1
noncomputable def F10.p18 (n0 : Nat) (l : Nat) : WP := wA Try.prog n0 169 (some l) F10.c18
noncomputable def F10.t18 (n0 : Nat) (l : Nat) (t7 t8 t11 t14 t16 t23 t133 t134 t135 : Value) (ds : List Nat) (h : H) (K : KP) : Prop :=
  Nw (enc 0 26) (zc Try.prog 26) h fun t25 h1 =>
  Bnd (aStore Try.prog 26 t25 t135 h1) fun h2 =>
  K .normal [(7, t7), (8, t8), (11, t11), (14, t14), (16, t16), (23, t23), (24, t134), (135, t135), (25, t25)] ds h2
theorem F10.g18 {n0 : Nat} {l : Nat} (t7 t8 t11 t14 t16 t23 t133 t134 t135 : Value) {ds : List Nat} {h : H} {K : KP} : wA Try.prog n0 169 (some l) F10.c18 [(7, t7), (8, t8), (11, t11), (14, t14), (16, t16), (23, t23), (133, t133), (134, t134), (135, t135)] ds h K = F10.t18 n0 l t7 t8 t11 t14 t16 t23 t133 t134 t135 ds h K := by kernel_rfl
theorem F10.s18 {n0 : Nat} (l : Nat) : F10.p18 n0 l = wA Try.prog n0 169 (some l) F10.c18 := by kernel_rfl
theorem F10.e18 {n0 : Nat} {l : Nat} {t7 t8 t11 t14 t16 t23 t133 t134 t135 : Value} {ds : List Nat} {h : H} {K : KP} : F10.p18 n0 l [(7, t7), (8, t8), (11, t11), (14, t14), (16, t16), (23, t23), (133, t133), (134, t134), (135, t135)] ds h K = F10.t18 n0 l t7 t8 t11 t14 t16 t23 t133 t134 t135 ds h K :=
  wchain (F10.s18 l) (F10.g18 t7 t8 t11 t14 t16 t23 t133 t134 t135)
theorem F10.k18 : F10.c18.ok = true := by kernel_rfl
theorem F10.d18 {n0 : Nat} (l : Nat) : F10.p18 n0 l = wA Try.prog n0 169 (some l) F10.c18 := by kernel_rfl
theorem F10.m18 (n0 : Nat) (l : Nat) : MonoW (F10.p18 n0 l) := @mono_c Try.prog n0 169 (some l) F10.c18 (F10.p18 n0 l) (F10.d18 l) F10.k18
noncomputable def F10.c19 : AC := F10.aBd1
noncomputable def F10.c20 : AC := F10.aBd1.fst.fst.snd.fst
noncomputable def F10.c21 : AC := F10.aBd1.fst.snd
noncomputable def F10.c22 : AC := F10.aBd1.fst.snd.snd
noncomputable def F10.p19 (n0 : Nat) (l : Nat) : WP := wA Try.prog n0 169 (some l) F10.c19
noncomputable def F10.p20 (n0 : Nat) (l : Nat) : WP := wA Try.prog n0 169 (some l) F10.c20
noncomputable def F10.p21 (n0 : Nat) (l : Nat) : WP := wA Try.prog n0 169 (some l) F10.c21
noncomputable def F10.p22 (n0 : Nat) (l : Nat) : WP := wA Try.prog n0 169 (some l) F10.c22
noncomputable def F10.t19 (n0 : Nat) (l : Nat) (B20 : WP) (B21 : WP) (t7 t8 t11 t14 t16 t23 t24 t25 : Value) (ds : List Nat) (h : H) (K : KP) : Prop :=
  Bnd (aLoad Try.prog 3 t23 h) fun t136 =>
  Bnd (aLoad Try.prog 67 t11 h) fun t137 =>
  Bnd2 (aBuiltin Try.prog .len #[67] [t137] h) fun t138 h1 =>
  Bnd (aBin Try.prog false .geq 3 t136 t138) fun t139 =>
  Gd t139
   (B20 [(7, t7), (8, t8), (11, t11), (14, t14), (16, t16), (23, t23)] ds h1 (KSeq [7, 8, 11, 14, 16, 23] B21 (KBlk [7, 8, 11, 14, 16, 23] 7 K)))
   (Bnd (aLoad Try.prog 67 t11 h1) fun t141 =>
  Bnd (aLoad Try.prog 3 t23 h1) fun t142 =>
  Bnd (aIndexAddr Try.prog 67 t141 t142) fun t143 =>
  Bnd (aFieldAddr Try.prog 75 t143 0) fun t144 =>
  Bnd (aLoad Try.prog 3 t144 h1) fun t145 =>
  Bnd (aBin Try.prog false .neq 3 t145 t24) fun t147 =>
  Gd t147
   (B20 [(7, t7), (8, t8), (11, t11), (14, t14), (16, t16), (23, t23)] ds h1 (KSeq [7, 8, 11, 14, 16, 23] B21 (KBlk [7, 8, 11, 14, 16, 23] 7 K)))
   (Bnd (aLoad Try.prog 67 t11 h1) fun t150 =>
  Bnd (aLoad Try.prog 3 t23 h1) fun t151 =>
  Bnd (aIndexAddr Try.prog 67 t150 t151) fun t152 =>
  Bnd (aFieldAddr Try.prog 75 t152 1) fun t153 =>
  Bnd (aLoad Try.prog 26 t153 h1) fun t154 =>
  Bnd (aLoad Try.prog 26 t25 h1) fun t155 =>
  Bnd (aBin Try.prog false .neq 26 t154 t155) fun t156 =>
  Cnd t156
   (B20 [(7, t7), (8, t8), (11, t11), (14, t14), (16, t16), (23, t23)] ds h1 (KSeq [7, 8, 11, 14, 16, 23] B21 (KBlk [7, 8, 11, 14, 16, 23] 7 K)))
   (B21 [(7, t7), (8, t8), (11, t11), (14, t14), (16, t16), (23, t23)] ds h1 (KBlk [7, 8, 11, 14, 16, 23] 7 K))))
theorem F10.g19 {n0 : Nat} {l : Nat} (B20 : WP) (B21 : WP) (t7 t8 t11 t14 t16 t23 t24 t25 : Value) {ds : List Nat} {h : H} {K : KP} : wA Try.prog n0 169 (some l) (.block [7, 8, 11, 14, 16, 23] 7 (.seq [7, 8, 11, 14, 16, 23] (.seq [7, 8, 11, 14, 16, 23, 157] F10.c19.fst.fst.fst (.cond [7, 8, 11, 14, 16, 23] (.tmp 157) (.sub B20) F10.c19.fst.fst.snd.snd)) (.sub B21))) [(7, t7), (8, t8), (11, t11), (14, t14), (16, t16), (23, t23), (24, t24), (25, t25)] ds h K = F10.t19 n0 l B20 B21 t7 t8 t11 t14 t16 t23 t24 t25 ds h K := by kernel_rfl
theorem F10.s19 {n0 : Nat} (l : Nat) : F10.p19 n0 l = wA Try.prog n0 169 (some l) (.block [7, 8, 11, 14, 16, 23] 7 (.seq [7, 8, 11, 14, 16, 23] (.seq [7, 8, 11, 14, 16, 23, 157] F10.c19.fst.fst.fst (.cond [7, 8, 11, 14, 16, 23] (.tmp 157) (.sub (F10.p20 n0 l)) F10.c19.fst.fst.snd.snd)) (.sub (F10.p21 n0 l)))) := by kernel_rfl
theorem F10.e19 {n0 : Nat} {l : Nat} {t7 t8 t11 t14 t16 t23 t24 t25 : Value} {ds : List Nat} {h : H} {K : KP} : F10.p19 n0 l [(7, t7), (8, t8), (11, t11), (14, t14), (16, t16), (23, t23), (24, t24), (25, t25)] ds h K = F10.t19 n0 l (F10.p20 n0 l) (F10.p21 n0 l) t7 t8 t11 t14 t16 t23 t24 t25 ds h K :=
  wchain (F10.s19 l) (F10.g19 (F10.p20 n0 l) (F10.p21 n0 l) t7 t8 t11 t14 t16 t23 t24 t25)
theorem F10.k19 : F10.c19.ok = true := by kernel_rfl
theorem F10.d19 {n0 : Nat} (l : Nat) : F10.p19 n0 l = wA Try.prog n0 169 (some l) F10.c19 := by kernel_rfl
theorem F10.m19 (n0 : Nat) (l : Nat) : MonoW (F10.p19 n0 l) := @mono_c Try.prog n0 169 (some l) F10.c19 (F10.p19 n0 l) (F10.d19 l) F10.k19
noncomputable def F10.t20 (n0 : Nat) (l : Nat) (t7 t8 t11 t14 t16 t23 : Value) (ds : List Nat) (h : H) (K : KP) : Prop :=
  Bnd (aStore Try.prog 4 t8 (.bool false) h) fun h1 =>
  K .ret [(8, t8)] ds h1
theorem F10.g20 {n0 : Nat} {l : Nat} (t7 t8 t11 t14 t16 t23 : Value) {ds : List Nat} {h : H} {K : KP} : wA Try.prog n0 169 (some l) F10.c20 [(7, t7), (8, t8), (11, t11), (14, t14), (16, t16), (23, t23)] ds h K = F10.t20 n0 l t7 t8 t11 t14 t16 t23 ds h K := by kernel_rfl
theorem F10.s20 {n0 : Nat} (l : Nat) : F10.p20 n0 l = wA Try.prog n0 169 (some l) F10.c20 := by kernel_rfl
theorem F10.e20 {n0 : Nat} {l : Nat} {t7 t8 t11 t14 t16 t23 : Value} {ds : List Nat} {h : H} {K : KP} : F10.p20 n0 l [(7, t7), (8, t8), (11, t11), (14, t14), (16, t16), (23, t23)] ds h K = F10.t20 n0 l t7 t8 t11 t14 t16 t23 ds h K :=
  wchain (F10.s20 l) (F10.g20 t7 t8 t11 t14 t16 t23)
noncomputable def F10.t21 (n0 : Nat) (l : Nat) (B22 : WP) (t7 t8 t11 t14 t16 t23 : Value) (ds : List Nat) (h : H) (K : KP) : Prop :=
  Bnd (aLoad Try.prog 3 t23 h) fun t158 =>
  Bnd (aLoad Try.prog 3 t7 h) fun t159 =>
  Bnd (aBin Try.prog false .geq 3 t158 t159) fun t160 =>
  Cnd t160
   (K (.exit 6) [(7, t7), (8, t8), (11, t11), (14, t14), (16, t16), (23, t23)] ds h)
   (B22 [(7, t7), (8, t8), (11, t11), (14, t14), (16, t16), (23, t23)] ds h K)
theorem F10.g21 {n0 : Nat} {l : Nat} (B22 : WP) (t7 t8 t11 t14 t16 t23 : Value) {ds : List Nat} {h : H} {K : KP} : wA Try.prog n0 169 (some l) (.seq [7, 8, 11, 14, 16, 23] F10.c21.fst (.sub B22)) [(7, t7), (8, t8), (11, t11), (14, t14), (16, t16), (23, t23)] ds h K = F10.t21 n0 l B22 t7 t8 t11 t14 t16 t23 ds h K := by kernel_rfl
theorem F10.s21 {n0 : Nat} (l : Nat) : F10.p21 n0 l = wA Try.prog n0 169 (some l) (.seq [7, 8, 11, 14, 16, 23] F10.c21.fst (.sub (F10.p22 n0 l))) := by kernel_rfl
theorem F10.e21 {n0 : Nat} {l : Nat} {t7 t8 t11 t14 t16 t23 : Value} {ds : List Nat} {h : H} {K : KP} : F10.p21 n0 l [(7, t7), (8, t8), (11, t11), (14, t14), (16, t16), (23, t23)] ds h K = F10.t21 n0 l (F10.p22 n0 l) t7 t8 t11 t14 t16 t23 ds h K :=
  wchain (F10.s21 l) (F10.g21 (F10.p22 n0 l) t7 t8 t11 t14 t16 t23)
noncomputable def F10.t22 (n0 : Nat) (l : Nat) (t7 t8 t11 t14 t16 t23 : Value) (ds : List Nat) (h : H) (K : KP) : Prop :=
  Bnd (aLoad Try.prog 3 t23 h) fun t161 =>
  Bnd (aBin Try.prog true .add 3 t161 (.int .i64 1)) fun t162 =>
  Bnd (aStore Try.prog 3 t23 t162 h) fun h1 =>
  K .normal [(7, t7), (8, t8), (11, t11), (14, t14), (16, t16), (23, t23), (161, t161), (162, t162)] ds h1
theorem F10.g22 {n0 : Nat} {l : Nat} (t7 t8 t11 t14 t16 t23 : Value) {ds : List Nat} {h : H} {K : KP} : wA Try.prog n0 169 (some l) F10.c22 [(7, t7), (8, t8), (11, t11), (14, t14), (16, t16), (23, t23)] ds h K = F10.t22 n0 l t7 t8 t11 t14 t16 t23 ds h K := by kernel_rfl
theorem F10.s22 {n0 : Nat} (l : Nat) : F10.p22 n0 l = wA Try.prog n0 169 (some l) F10.c22 := by kernel_rfl
theorem F10.e22 {n0 : Nat} {l : Nat} {t7 t8 t11 t14 t16 t23 : Value} {ds : List Nat} {h : H} {K : KP} : F10.p22 n0 l [(7, t7), (8, t8), (11, t11), (14, t14), (16, t16), (23, t23)] ds h K = F10.t22 n0 l t7 t8 t11 t14 t16 t23 ds h K :=
  wchain (F10.s22 l) (F10.g22 t7 t8 t11 t14 t16 t23)
theorem F10.b : Try.f10.body = some F10.c0.erase := by kernel_rfl
theorem F10.b2 : (Try.f10.name == "runtime.NumGoroutine") = false := by kernel_rfl
theorem F10.b3 : Try.f10.ntmps = 169 := by kernel_rfl
theorem F10.b4 : Try.f10.results.toList = [.cell 8 4] := by kernel_rfl
theorem F10.enter {n0 : Nat} {x0 x1 x2 x3 : Value} {h : H} {Q : Value → H → Prop} (w : F10.p0 n0 [(0, x0), (1, x1), (2, x2), (3, x3)] [] h (KFin Try.prog [.cell 8 4] Q)) : Cn Try.prog n0 (.func 10) [x0, x1, x2, x3] h Q :=
  @fn_enter Try.prog n0 mixed 10 Try.f10 F10.c0 [x0, x1, x2, x3] h Q Try.func10 F10.b F10.k0 F10.b2 169 F10.b3 [.cell 8 4] F10.b4 (by simp) [(0, x0), (1, x1), (2, x2), (3, x3)] rfl (wback F10.d0 w)

/-! roster.rosterlaw02.BerSides -/
noncomputable def F11.ac : AC := (ann (bodyOf Try.f11) [[1, 2], [1, 2], [1, 2, 14], [1, 2], [2], [1, 2, 3, 4], [1, 2, 3, 4, 5, 6], [1, 2, 3, 4, 5, 6], [1, 2, 3, 4, 5, 6, 25], [1, 2, 3, 4, 5, 6], [1, 2, 3, 4, 5, 6, 25], [1, 2, 3, 5, 6], [1, 2, 3, 4, 5, 6, 90], [1, 2, 3, 4, 5, 6], [1, 2, 3, 4, 5, 12], [2], [2]]).1
noncomputable def F11.rAs0 : Code := F11.ac.snd.snd.snd.snd.fst.snd.fst.rfAs
noncomputable def F11.rBd0 : Code := F11.ac.snd.snd.snd.snd.fst.snd.fst.rfBd
noncomputable def F11.aAs0 : AC := (ann F11.rAs0 [[1, 2, 3, 4, 5, 6, 7, 27]]).1
noncomputable def F11.aBd0 : AC := (ann F11.rBd0 [[1, 2, 3, 4, 5, 6], [1, 2, 3, 4, 5, 6, 7, 8, 9, 10], [1, 2, 3, 4, 5, 6, 8], [1, 2, 3, 4, 5, 6, 8, 68], [1, 2, 3, 4, 5, 6, 8], [2], [1, 2, 3, 4, 5, 6, 8], [1, 2, 3, 4, 5, 6, 8, 84], [1, 2, 3, 4, 5, 6, 8], [2], [1, 2, 3, 4, 5, 6]]).1
noncomputable def F11.c0 : AC := F11.ac
noncomputable def F11.c1 : AC := F11.ac.snd.fst.snd.fst
noncomputable def F11.c2 : AC := F11.ac.snd.snd
noncomputable def F11.c3 : AC := F11.ac.snd.snd.snd.snd.snd
noncomputable def F11.c4 : AC := F11.ac.snd.snd.snd.snd.snd.fst.snd.fst
noncomputable def F11.c5 : AC := F11.ac.snd.snd.snd.snd.snd.snd
noncomputable def F11.p0 (n0 : Nat) : WP := wA Try.prog n0 123 none F11.c0
noncomputable def F11.p1 (n0 : Nat) : WP := wA Try.prog n0 123 none F11.c1
noncomputable def F11.p2 (n0 : Nat) : WP := wA Try.prog n0 123 none F11.c2
noncomputable def F11.p3 (n0 : Nat) : WP := wA Try.prog n0 123 none F11.c3
noncomputable def F11.p4 (n0 : Nat) : WP := wA Try.prog n0 123 none F11.c4
noncomputable def F11.p5 (n0 : Nat) : WP := wA Try.prog n0 123 none F11.c5
noncomputable def F11.t0 (n0 : Nat) (B1 : WP) (B2 : WP) (b0 : Value) (ds : List Nat) (h : H) (K : KP) : Prop :=
  Nw (enc 0 22) (clL b0) h fun b1 h1 =>
  Nw (enc 0 4) (zc Try.prog 4) h1 fun t2 h2 =>
  Cn Try.prog n0 (.func 16) [] h2 fun t13 h3 =>
  Bnd (aUn .not t13) fun t14 =>
  Cnd t14
   (B1 [(1, b1), (2, t2)] ds h3 (KSeq [1, 2] B2 K))
   (B2 [(1, b1), (2, t2)] ds h3 K)
theorem F11.g0 {n0 : Nat} (B1 : WP) (B2 : WP) (b0 : Value) {ds : List Nat} {h : H} {K : KP} : wA Try.prog n0 123 none (.seq [1, 2] F11.c0.fst (.seq [1, 2] (.seq [1, 2, 14] F11.c0.snd.fst.fst (.cond [1, 2] (.tmp 14) (.sub B1) F11.c0.snd.fst.snd.snd)) (.sub B2))) [(0, b0)] ds h K = F11.t0 n0 B1 B2 b0 ds h K := by kernel_rfl
theorem F11.s0 {n0 : Nat} : F11.p0 n0 = wA Try.prog n0 123 none (.seq [1, 2] F11.c0.fst (.seq [1, 2] (.seq [1, 2, 14] F11.c0.snd.fst.fst (.cond [1, 2] (.tmp 14) (.sub (F11.p1 n0)) F11.c0.snd.fst.snd.snd)) (.sub (F11.p2 n0)))) := by kernel_rfl
theorem F11.e0 {n0 : Nat} {b0 : Value} {ds : List Nat} {h : H} {K : KP} : F11.p0 n0 [(0, b0)] ds h K = F11.t0 n0 (F11.p1 n0) (F11.p2 n0) b0 ds h K :=
  wchain (F11.s0) (F11.g0 (F11.p1 n0) (F11.p2 n0) b0)
theorem F11.k0 : F11.c0.ok = true := by kernel_rfl
theorem F11.d0 {n0 : Nat} : F11.p0 n0 = wA Try.prog n0 123 none F11.c0 := by kernel_rfl
theorem F11.m0 (n0 : Nat) : MonoW (F11.p0 n0) := @mono_c Try.prog n0 123 none F11.c0 (F11.p0 n0) (F11.d0) F11.k0
noncomputable def F11.t1 (n0 : Nat) (b1 t2 : Value) (ds : List Nat) (h : H) (K : KP) : Prop :=
  Bnd (aStore Try.prog 4 t2 (.bool false) h) fun h1 =>
  K .ret [(2, t2)] ds h1
theorem F11.g1 {n0 : Nat} (b1 t2 : Value) {ds : List Nat} {h : H} {K : KP} : wA Try.prog n0 123 none F11.c1 [(1, b1), (2, t2)] ds h K = F11.t1 n0 b1 t2 ds h K := by kernel_rfl
theorem F11.s1 {n0 : Nat} : F11.p1 n0 = wA Try.prog n0 123 none F11.c1 := by kernel_rfl
theorem F11.e1 {n0 : Nat} {b1 t2 : Value} {ds : List Nat} {h : H} {K : KP} : F11.p1 n0 [(1, b1), (2, t2)] ds h K = F11.t1 n0 b1 t2 ds h K :=
  wchain (F11.s1) (F11.g1 b1 t2)
noncomputable def F11.t2 (n0 : Nat) (B3 : WP) (b1 t2 : Value) (ds : List Nat) (h : H) (K : KP) : Prop :=
  Bnd (aLoad Try.prog 22 b1 h) fun t16 =>
  Bnd (aLoad Try.prog 22 b1 h) fun t17 =>
  Bnd2 (aBuiltin Try.prog .len #[22] [t17] h) fun t18 h1 =>
  Cn Try.prog n0 (.func 36) [t16, (.int .i64 0), t18] h1 fun t19 h2 =>
  Bnd (tupAt t19 0) fun t20 =>
  Bnd (tupAt t19 1) fun t21 =>
  Nw (enc 0 64) (zc Try.prog 64) h2 fun l3 h3 =>
  Nw (enc 0 27) (zc Try.prog 27) h3 fun e4 h4 =>
  Bnd (aStore Try.prog 64 l3 t20 h4) fun h5 =>
  Bnd (aStore Try.prog 27 e4 t21 h5) fun h6 =>
  Nw (enc 0 3) (zc Try.prog 3) h6 fun at5 h7 =>
  Nw (enc 0 3) (zc Try.prog 3) h7 fun n6 h8 =>
  Bnd (aStore Try.prog 3 at5 (.int .i64 0) h8) fun h9 =>
  Bnd (aStore Try.prog 3 n6 (.int .i64 0) h9) fun h10 =>
  Bnd (aLoad Try.prog 22 b1 h10) fun t22 =>
  Bnd (aLoad Try.prog 22 b1 h10) fun t23 =>
  Bnd2 (aBuiltin Try.prog .len #[22] [t23] h10) fun t24 h11 =>
  Cn Try.prog n0 (.func 37) [t22, (.int .i64 0), t24] h11 fun t25 h12 =>
  wRange Try.prog n0 none 123 t25 #[26, 27] F11.rAs0 F11.rBd0 [(1, b1), (2, t2), (3, l3), (4, e4), (5, at5), (6, n6), (25, t25)] ds h12 (KBlk [1, 2, 3, 4, 5, 6] 0 (KSeq [1, 2, 3, 4, 5, 6] B3 K))
theorem F11.g2 {n0 : Nat} (B3 : WP) (b1 t2 : Value) {ds : List Nat} {h : H} {K : KP} : wA Try.prog n0 123 none (.seq [1, 2, 3, 4] F11.c2.fst (.seq [1, 2, 3, 4, 5, 6] F11.c2.snd.fst (.seq [1, 2, 3, 4, 5, 6] F11.c2.snd.snd.fst (.sub B3)))) [(1, b1), (2, t2)] ds h K = F11.t2 n0 B3 b1 t2 ds h K := by kernel_rfl
theorem F11.s2 {n0 : Nat} : F11.p2 n0 = wA Try.prog n0 123 none (.seq [1, 2, 3, 4] F11.c2.fst (.seq [1, 2, 3, 4, 5, 6] F11.c2.snd.fst (.seq [1, 2, 3, 4, 5, 6] F11.c2.snd.snd.fst (.sub (F11.p3 n0))))) := by kernel_rfl
theorem F11.e2 {n0 : Nat} {b1 t2 : Value} {ds : List Nat} {h : H} {K : KP} : F11.p2 n0 [(1, b1), (2, t2)] ds h K = F11.t2 n0 (F11.p3 n0) b1 t2 ds h K :=
  wchain (F11.s2) (F11.g2 (F11.p3 n0) b1 t2)
noncomputable def F11.t3 (n0 : Nat) (B4 : WP) (B5 : WP) (b1 t2 l3 e4 at5 n6 : Value) (ds : List Nat) (h : H) (K : KP) : Prop :=
  Bnd (aLoad Try.prog 27 e4 h) fun t89 =>
  Bnd (aBin Try.prog true .neq 27 t89 (.int .i64 0)) fun t90 =>
  Cnd t90
   (B4 [(1, b1), (2, t2), (3, l3), (4, e4), (5, at5), (6, n6)] ds h (KSeq [1, 2, 3, 5, 6] B5 K))
   (B5 [(1, b1), (2, t2), (3, l3), (5, at5), (6, n6)] ds h K)
theorem F11.g3 {n0 : Nat} (B4 : WP) (B5 : WP) (b1 t2 l3 e4 at5 n6 : Value) {ds : List Nat} {h : H} {K : KP} : wA Try.prog n0 123 none (.seq [1, 2, 3, 5, 6] (.seq [1, 2, 3, 4, 5, 6, 90] F11.c3.fst.fst (.cond [1, 2, 3, 4, 5, 6] (.tmp 90) (.sub B4) F11.c3.fst.snd.snd)) (.sub B5)) [(1, b1), (2, t2), (3, l3), (4, e4), (5, at5), (6, n6)] ds h K = F11.t3 n0 B4 B5 b1 t2 l3 e4 at5 n6 ds h K := by kernel_rfl
theorem F11.s3 {n0 : Nat} : F11.p3 n0 = wA Try.prog n0 123 none (.seq [1, 2, 3, 5, 6] (.seq [1, 2, 3, 4, 5, 6, 90] F11.c3.fst.fst (.cond [1, 2, 3, 4, 5, 6] (.tmp 90) (.sub (F11.p4 n0)) F11.c3.fst.snd.snd)) (.sub (F11.p5 n0))) := by kernel_rfl
theorem F11.e3 {n0 : Nat} {b1 t2 l3 e4 at5 n6 : Value} {ds : List Nat} {h : H} {K : KP} : F11.p3 n0 [(1, b1), (2, t2), (3, l3), (4, e4), (5, at5), (6, n6)] ds h K = F11.t3 n0 (F11.p4 n0) (F11.p5 n0) b1 t2 l3 e4 at5 n6 ds h K :=
  wchain (F11.s3) (F11.g3 (F11.p4 n0) (F11.p5 n0) b1 t2 l3 e4 at5 n6)
noncomputable def F11.t4 (n0 : Nat) (b1 t2 l3 e4 at5 n6 : Value) (ds : List Nat) (h : H) (K : KP) : Prop :=
  Bnd (aLoad Try.prog 22 b1 h) fun t92 =>
  Bnd (aLoad Try.prog 3 at5 h) fun t93 =>
  Bnd (aLoad Try.prog 22 b1 h) fun t94 =>
  Bnd2 (aBuiltin Try.prog .len #[22] [t94] h) fun t95 h1 =>
  Cn Try.prog n0 (.func 13) [t92, t93, t95] h1 fun t96 h2 =>
  Bnd (tupAt t96 0) fun t97 =>
  Bnd (tupAt t96 1) fun t98 =>
  Nw (enc 0 26) (zc Try.prog 26) h2 fun t11 h3 =>
  Bnd (aStore Try.prog 26 t11 t97 h3) fun h4 =>
  Bnd (aLoad Try.prog 3 at5 h4) fun t99 =>
  Bnd (aLoad Try.prog 22 b1 h4) fun t100 =>
  Bnd2 (aBuiltin Try.prog .len #[22] [t100] h4) fun t101 h5 =>
  Bnd (aBin Try.prog false .lss 3 t99 t101) fun t102 =>
  Gd t102
   (Bnd (aLoad Try.prog 27 e4 h5) fun t105 =>
  Bnd (aBin Try.prog false .eql 27 t98 t105) fun t106 =>
  Gd t106
   (Bnd (aLoad Try.prog 64 l3 h5) fun t109 =>
  Bnd2 (aBuiltin Try.prog .len #[64] [t109] h5) fun t110 h6 =>
  Bnd (aBin Try.prog true .eql 3 t110 (.int .i64 0)) fun t111 =>
  Bnd (aStore Try.prog 4 t2 t111 h6) fun h7 =>
  K .ret [(2, t2)] ds h7)
   (Bnd (aStore Try.prog 4 t2 (.bool false) h5) fun h6 =>
  K .ret [(2, t2)] ds h6))
   (Bnd (aStore Try.prog 4 t2 (.bool false) h5) fun h6 =>
  K .ret [(2, t2)] ds h6)
theorem F11.g4 {n0 : Nat} (b1 t2 l3 e4 at5 n6 : Value) {ds : List Nat} {h : H} {K : KP} : wA Try.prog n0 123 none F11.c4 [(1, b1), (2, t2), (3, l3), (4, e4), (5, at5), (6, n6)] ds h K = F11.t4 n0 b1 t2 l3 e4 at5 n6 ds h K := by kernel_rfl
theorem F11.s4 {n0 : Nat} : F11.p4 n0 = wA Try.prog n0 123 none F11.c4 := by kernel_rfl
theorem F11.e4 {n0 : Nat} {b1 t2 l3 e4 at5 n6 : Value} {ds : List Nat} {h : H} {K : KP} : F11.p4 n0 [(1, b1), (2, t2), (3, l3), (4, e4), (5, at5), (6, n6)] ds h K = F11.t4 n0 b1 t2 l3 e4 at5 n6 ds h K :=
  wchain (F11.s4) (F11.g4 b1 t2 l3 e4 at5 n6)
noncomputable def F11.t5 (n0 : Nat) (b1 t2 l3 at5 n6 : Value) (ds : List Nat) (h : H) (K : KP) : Prop :=
  Bnd (aLoad Try.prog 3 at5 h) fun t113 =>
  Bnd (aLoad Try.prog 22 b1 h) fun t114 =>
  Bnd2 (aBuiltin Try.prog .len #[22] [t114] h) fun t115 h1 =>
  Bnd (aBin Try.prog false .eql 3 t113 t115) fun t116 =>
  Gd t116
   (Bnd (aLoad Try.prog 3 n6 h1) fun t118 =>
  Bnd (aLoad Try.prog 64 l3 h1) fun t119 =>
  Bnd2 (aBuiltin Try.prog .len #[64] [t119] h1) fun t120 h2 =>
  Bnd (aBin Try.prog false .eql 3 t118 t120) fun t121 =>
  Bnd (aStore Try.prog 4 t2 t121 h2) fun h3 =>
  K .ret [(2, t2)] ds h3)
   (Bnd (aStore Try.prog 4 t2 (.bool false) h1) fun h2 =>
  K .ret [(2, t2)] ds h2)
theorem F11.g5 {n0 : Nat} (b1 t2 l3 at5 n6 : Value) {ds : List Nat} {h : H} {K : KP} : wA Try.prog n0 123 none F11.c5 [(1, b1), (2, t2), (3, l3), (5, at5), (6, n6)] ds h K = F11.t5 n0 b1 t2 l3 at5 n6 ds h K := by kernel_rfl
theorem F11.s5 {n0 : Nat} : F11.p5 n0 = wA Try.prog n0 123 none F11.c5 := by kernel_rfl
theorem F11.e5 {n0 : Nat} {b1 t2 l3 at5 n6 : Value} {ds : List Nat} {h : H} {K : KP} : F11.p5 n0 [(1, b1), (2, t2), (3, l3), (5, at5), (6, n6)] ds h K = F11.t5 n0 b1 t2 l3 at5 n6 ds h K :=
  wchain (F11.s5) (F11.g5 b1 t2 l3 at5 n6)
noncomputable def F11.c6 : AC := F11.aAs0
noncomputable def F11.p6 (n0 : Nat) (l : Nat) : WP := wA Try.prog n0 123 (some l) F11.c6
noncomputable def F11.t6 (n0 : Nat) (l : Nat) (b1 t2 l3 e4 at5 n6 t25 t26 t27 : Value) (ds : List Nat) (h : H) (K : KP) : Prop :=
  Nw (enc 0 26) (zc Try.prog 26) h fun t8 h1 =>
  Bnd (aStore Try.prog 26 t8 t27 h1) fun h2 =>
  K .normal [(1, b1), (2, t2), (3, l3), (4, e4), (5, at5), (6, n6), (7, t26), (27, t27), (8, t8)] ds h2
theorem F11.g6 {n0 : Nat} {l : Nat} (b1 t2 l3 e4 at5 n6 t25 t26 t27 : Value) {ds : List Nat} {h : H} {K : KP} : wA Try.prog n0 123 (some l) F11.c6 [(1, b1), (2, t2), (3, l3), (4, e4), (5, at5), (6, n6), (25, t25), (26, t26), (27, t27)] ds h K = F11.t6 n0 l b1 t2 l3 e4 at5 n6 t25 t26 t27 ds h K := by kernel_rfl
theorem F11.s6 {n0 : Nat} (l : Nat) : F11.p6 n0 l = wA Try.prog n0 123 (some l) F11.c6 := by kernel_rfl
theorem F11.e6 {n0 : Nat} {l : Nat} {b1 t2 l3 e4 at5 n6 t25 t26 t27 : Value} {ds : List Nat} {h : H} {K : KP} : F11.p6 n0 l [(1, b1), (2, t2), (3, l3), (4, e4), (5, at5), (6, n6), (25, t25), (26, t26), (27, t27)] ds h K = F11.t6 n0 l b1 t2 l3 e4 at5 n6 t25 t26 t27 ds h K :=
  wchain (F11.s6 l) (F11.g6 b1 t2 l3 e4 at5 n6 t25 t26 t27)
theorem F11.k6 : F11.c6.ok = true := by kernel_rfl
theorem F11.d6 {n0 : Nat} (l : Nat) : F11.p6 n0 l = wA Try.prog n0 123 (some l) F11.c6 := by kernel_rfl
theorem F11.m6 (n0 : Nat) (l : Nat) : MonoW (F11.p6 n0 l) := @mono_c Try.prog n0 123 (some l) F11.c6 (F11.p6 n0 l) (F11.d6 l) F11.k6
noncomputable def F11.c7 : AC := F11.aBd0
noncomputable def F11.c8 : AC := F11.aBd0.fst.snd.fst.snd.fst
noncomputable def F11.c9 : AC := F11.aBd0.fst.snd.snd
noncomputable def F11.c10 : AC := F11.aBd0.fst.snd.snd.fst.snd.fst
noncomputable def F11.c11 : AC := F11.aBd0.fst.snd.snd.snd
noncomputable def F11.p7 (n0 : Nat) (l : Nat) : WP := wA Try.prog n0 123 (some l) F11.c7
noncomputable def F11.p8 (n0 : Nat) (l : Nat) : WP := wA Try.prog n0 123 (some l) F11.c8
noncomputable def F11.p9 (n0 : Nat) (l : Nat) : WP := wA Try.prog n0 123 (some l) F11.c9
noncomputable def F11.p10 (n0 : Nat) (l : Nat) : WP := wA Try.prog n0 123 (some l) F11.c10
noncomputable def F11.p11 (n0 : Nat) (l : Nat) : WP := wA Try.prog n0 123 (some l) F11.c11
noncomputable def F11.t7 (n0 : Nat) (l : Nat) (B8 : WP) (B9 : WP) (b1 t2 l3 e4 at5 n6 place7 t8 : Value) (ds : List Nat) (h : H) (K : KP) : Prop :=
  Bnd (aLoad Try.prog 22 b1 h) fun t29 =>
  Bnd (aLoad Try.prog 22 b1 h) fun t31 =>
  Bnd2 (aBuiltin Try.prog .len #[22] [t31] h) fun t32 h1 =>
  Cn Try.prog n0 (.func 13) [t29, place7, t32] h1 fun t33 h2 =>
  Bnd (tupAt t33 0) fun t34 =>
  Bnd (tupAt t33 1) fun t35 =>
  Nw (enc 0 26) (zc Try.prog 26) h2 fun u9 h3 =>
  Bnd (aStore Try.prog 26 u9 t34 h3) fun h4 =>
  Bnd (aLoad Try.prog 3 at5 h4) fun t37 =>
  Bnd (aBin Try.prog false .neq 3 place7 t37) fun t38 =>
  Gd t38
   (B8 [(1, b1), (2, t2), (3, l3), (4, e4), (5, at5), (6, n6), (8, t8)] ds h4 (KSeq [1, 2, 3, 4, 5, 6, 8] B9 (KBlk [1, 2, 3, 4, 5, 6] 1 K)))
   (Bnd (aBin Try.prog true .neq 27 t35 (.int .i64 0)) fun t41 =>
  Gd t41
   (B8 [(1, b1), (2, t2), (3, l3), (4, e4), (5, at5), (6, n6), (8, t8)] ds h4 (KSeq [1, 2, 3, 4, 5, 6, 8] B9 (KBlk [1, 2, 3, 4, 5, 6] 1 K)))
   (Bnd (aLoad Try.prog 26 u9 h4) fun t44 =>
  Bnd (aLoad Try.prog 26 t8 h4) fun t45 =>
  Bnd (aBin Try.prog false .neq 26 t44 t45) fun t46 =>
  Gd t46
   (B8 [(1, b1), (2, t2), (3, l3), (4, e4), (5, at5), (6, n6), (8, t8)] ds h4 (KSeq [1, 2, 3, 4, 5, 6, 8] B9 (KBlk [1, 2, 3, 4, 5, 6] 1 K)))
   (Bnd (aFieldAddr Try.prog 26 t8 3) fun t49 =>
  Bnd (aLoad Try.prog 3 t49 h4) fun t50 =>
  Bnd (aBin Try.prog true .add 3 place7 (.int .i64 2)) fun t52 =>
  Bnd (aBin Try.prog false .lss 3 t50 t52) fun t53 =>
  Gd t53
   (B8 [(1, b1), (2, t2), (3, l3), (4, e4), (5, at5), (6, n6), (8, t8)] ds h4 (KSeq [1, 2, 3, 4, 5, 6, 8] B9 (KBlk [1, 2, 3, 4, 5, 6] 1 K)))
   (Bnd (aFieldAddr Try.prog 26 t8 4) fun t56 =>
  Bnd (aLoad Try.prog 3 t56 h4) fun t57 =>
  Bnd (aFieldAddr Try.prog 26 t8 3) fun t58 =>
  Bnd (aLoad Try.prog 3 t58 h4) fun t59 =>
  Bnd (aBin Try.prog false .lss 3 t57 t59) fun t60 =>
  Gd t60
   (B8 [(1, b1), (2, t2), (3, l3), (4, e4), (5, at5), (6, n6), (8, t8)] ds h4 (KSeq [1, 2, 3, 4, 5, 6, 8] B9 (KBlk [1, 2, 3, 4, 5, 6] 1 K)))
   (Bnd (aFieldAddr Try.prog 26 t8 4) fun t63 =>
  Bnd (aLoad Try.prog 3 t63 h4) fun t64 =>
  Bnd (aLoad Try.prog 22 b1 h4) fun t65 =>
  Bnd2 (aBuiltin Try.prog .len #[22] [t65] h4) fun t66 h5 =>
  Bnd (aBin Try.prog false .gtr 3 t64 t66) fun t67 =>
  Cnd t67
   (B8 [(1, b1), (2, t2), (3, l3), (4, e4), (5, at5), (6, n6), (8, t8)] ds h5 (KSeq [1, 2, 3, 4, 5, 6, 8] B9 (KBlk [1, 2, 3, 4, 5, 6] 1 K)))
   (B9 [(1, b1), (2, t2), (3, l3), (4, e4), (5, at5), (6, n6), (8, t8)] ds h5 (KBlk [1, 2, 3, 4, 5, 6] 1 K)))))))
theorem F11.g7 {n0 : Nat} {l : Nat} (B8 : WP) (B9 : WP) (b1 t2 l3 e4 at5 n6 place7 t8 : Value) {ds : List Nat} {h : H} {K : KP} : wA Try.prog n0 123 (some l) (.block [1, 2, 3, 4, 5, 6] 1 (.seq [1, 2, 3, 4, 5, 6, 7, 8, 9, 10] F11.c7.fst.fst (.seq [1, 2, 3, 4, 5, 6, 8] (.seq [1, 2, 3, 4, 5, 6, 8, 68] F11.c7.fst.snd.fst.fst (.cond [1, 2, 3, 4, 5, 6, 8] (.tmp 68) (.sub B8) F11.c7.fst.snd.fst.snd.snd)) (.sub B9)))) [(1, b1), (2, t2), (3, l3), (4, e4), (5, at5), (6, n6), (7, place7), (8, t8)] ds h K = F11.t7 n0 l B8 B9 b1 t2 l3 e4 at5 n6 place7 t8 ds h K := by kernel_rfl
theorem F11.s7 {n0 : Nat} (l : Nat) : F11.p7 n0 l = wA Try.prog n0 123 (some l) (.block [1, 2, 3, 4, 5, 6] 1 (.seq [1, 2, 3, 4, 5, 6, 7, 8, 9, 10] F11.c7.fst.fst (.seq [1, 2, 3, 4, 5, 6, 8] (.seq [1, 2, 3, 4, 5, 6, 8, 68] F11.c7.fst.snd.fst.fst (.cond [1, 2, 3, 4, 5, 6, 8] (.tmp 68) (.sub (F11.p8 n0 l)) F11.c7.fst.snd.fst.snd.snd)) (.sub (F11.p9 n0 l))))) := by kernel_rfl
theorem F11.e7 {n0 : Nat} {l : Nat} {b1 t2 l3 e4 at5 n6 place7 t8 : Value} {ds : List Nat} {h : H} {K : KP} : F11.p7 n0 l [(1, b1), (2, t2), (3, l3), (4, e4), (5, at5), (6, n6), (7, place7), (8, t8)] ds h K = F11.t7 n0 l (F11.p8 n0 l) (F11.p9 n0 l) b1 t2 l3 e4 at5 n6 place7 t8 ds h K :=
  wchain (F11.s7 l) (F11.g7 (F11.p8 n0 l) (F11.p9 n0 l) b1 t2 l3 e4 at5 n6 place7 t8)
theorem F11.k7 : F11.c7.ok = true := by kernel_rfl
theorem F11.d7 {n0 : Nat} (l : Nat) : F11.p7 n0 l = wA Try.prog n0 123 (some l) F11.c7 := by kernel_rfl
theorem F11.m7 (n0 : Nat) (l : Nat) : MonoW (F11.p7 n0 l) := @mono_c Try.prog n0 123 (some l) F11.c7 (F11.p7 n0 l) (F11.d7 l) F11.k7
noncomputable def F11.t8 (n0 : Nat) (l : Nat) (b1 t2 l3 e4 at5 n6 t8 : Value) (ds : List Nat) (h : H) (K : KP) : Prop :=
  Bnd (aStore Try.prog 4 t2 (.bool false) h) fun h1 =>
  K .ret [(2, t2)] ds h1
theorem F11.g8 {n0 : Nat} {l : Nat} (b1 t2 l3 e4 at5 n6 t8 : Value) {ds : List Nat} {h : H} {K : KP} : wA Try.prog n0 123 (some l) F11.c8 [(1, b1), (2, t2), (3, l3), (4, e4), (5, at5), (6, n6), (8, t8)] ds h K = F11.t8 n0 l b1 t2 l3 e4 at5 n6 t8 ds h K := by kernel_rfl
theorem F11.s8 {n0 : Nat} (l : Nat) : F11.p8 n0 l = wA Try.prog n0 123 (some l) F11.c8 := by kernel_rfl
theorem F11.e8 {n0 : Nat} {l : Nat} {b1 t2 l3 e4 at5 n6 t8 : Value} {ds : List Nat} {h : H} {K : KP} : F11.p8 n0 l [(1, b1), (2, t2), (3, l3), (4, e4), (5, at5), (6, n6), (8, t8)] ds h K = F11.t8 n0 l b1 t2 l3 e4 at5 n6 t8 ds h K :=
  wchain (F11.s8 l) (F11.g8 b1 t2 l3 e4 at5 n6 t8)
noncomputable def F11.t9 (n0 : Nat) (l : Nat) (B10 : WP) (B11 : WP) (b1 t2 l3 e4 at5 n6 t8 : Value) (ds : List Nat) (h : H) (K : KP) : Prop :=
  Bnd (aLoad Try.prog 27 e4 h) fun t69 =>
  Bnd (aBin Try.prog true .eql 27 t69 (.int .i64 0)) fun t70 =>
  Gd t70
   (Bnd (aLoad Try.prog 3 n6 h) fun t72 =>
  Bnd (aLoad Try.prog 64 l3 h) fun t73 =>
  Bnd2 (aBuiltin Try.prog .len #[64] [t73] h) fun t74 h1 =>
  Bnd (aBin Try.prog false .geq 3 t72 t74) fun t75 =>
  Gd t75
   (B10 [(1, b1), (2, t2), (3, l3), (4, e4), (5, at5), (6, n6), (8, t8)] ds h1 (KSeq [1, 2, 3, 4, 5, 6, 8] B11 K))
   (Bnd (aLoad Try.prog 64 l3 h1) fun t77 =>
  Bnd (aLoad Try.prog 3 n6 h1) fun t78 =>
  Bnd (aIndexAddr Try.prog 64 t77 t78) fun t79 =>
  Bnd (aLoad Try.prog 26 t79 h1) fun t80 =>
  Bnd (aLoad Try.prog 26 t8 h1) fun t81 =>
  Bnd (aBin Try.prog false .neq 26 t80 t81) fun t82 =>
  Cnd t82
   (B10 [(1, b1), (2, t2), (3, l3), (4, e4), (5, at5), (6, n6), (8, t8)] ds h1 (KSeq [1, 2, 3, 4, 5, 6, 8] B11 K))
   (B11 [(1, b1), (2, t2), (3, l3), (4, e4), (5, at5), (6, n6), (8, t8)] ds h1 K)))
   (B11 [(1, b1), (2, t2), (3, l3), (4, e4), (5, at5), (6, n6), (8, t8)] ds h K)
theorem F11.g9 {n0 : Nat} {l : Nat} (B10 : WP) (B11 : WP) (b1 t2 l3 e4 at5 n6 t8 : Value) {ds : List Nat} {h : H} {K : KP} : wA Try.prog n0 123 (some l) (.seq [1, 2, 3, 4, 5, 6, 8] (.seq [1, 2, 3, 4, 5, 6, 8, 84] F11.c9.fst.fst (.cond [1, 2, 3, 4, 5, 6, 8] (.tmp 84) (.sub B10) F11.c9.fst.snd.snd)) (.sub B11)) [(1, b1), (2, t2), (3, l3), (4, e4), (5, at5), (6, n6), (8, t8)] ds h K = F11.t9 n0 l B10 B11 b1 t2 l3 e4 at5 n6 t8 ds h K := by kernel_rfl
theorem F11.s9 {n0 : Nat} (l : Nat) : F11.p9 n0 l = wA Try.prog n0 123 (some l) (.seq [1, 2, 3, 4, 5, 6, 8] (.seq [1, 2, 3, 4, 5, 6, 8, 84] F11.c9.fst.fst (.cond [1, 2, 3, 4, 5, 6, 8] (.tmp 84) (.sub (F11.p10 n0 l)) F11.c9.fst.snd.snd)) (.sub (F11.p11 n0 l))) := by kernel_rfl
theorem F11.e9 {n0 : Nat} {l : Nat} {b1 t2 l3 e4 at5 n6 t8 : Value} {ds : List Nat} {h : H} {K : KP} : F11.p9 n0 l [(1, b1), (2, t2), (3, l3), (4, e4), (5, at5), (6, n6), (8, t8)] ds h K = F11.t9 n0 l (F11.p10 n0 l) (F11.p11 n0 l) b1 t2 l3 e4 at5 n6 t8 ds h K :=
  wchain (F11.s9 l) (F11.g9 (F11.p10 n0 l) (F11.p11 n0 l) b1 t2 l3 e4 at5 n6 t8)
noncomputable def F11.t10 (n0 : Nat) (l : Nat) (b1 t2 l3 e4 at5 n6 t8 : Value) (ds : List Nat) (h : H) (K : KP) : Prop :=
  Bnd (aStore Try.prog 4 t2 (.bool false) h) fun h1 =>
  K .ret [(2, t2)] ds h1
theorem F11.g10 {n0 : Nat} {l : Nat} (b1 t2 l3 e4 at5 n6 t8 : Value) {ds : List Nat} {h : H} {K : KP} : wA Try.prog n0 123 (some l) F11.c10 [(1, b1), (2, t2), (3, l3), (4, e4), (5, at5), (6, n6), (8, t8)] ds h K = F11.t10 n0 l b1 t2 l3 e4 at5 n6 t8 ds h K := by kernel_rfl
theorem F11.s10 {n0 : Nat} (l : Nat) : F11.p10 n0 l = wA Try.prog n0 123 (some l) F11.c10 := by kernel_rfl
theorem F11.e10 {n0 : Nat} {l : Nat} {b1 t2 l3 e4 at5 n6 t8 : Value} {ds : List Nat} {h : H} {K : KP} : F11.p10 n0 l [(1, b1), (2, t2), (3, l3), (4, e4), (5, at5), (6, n6), (8, t8)] ds h K = F11.t10 n0 l b1 t2 l3 e4 at5 n6 t8 ds h K :=
  wchain (F11.s10 l) (F11.g10 b1 t2 l3 e4 at5 n6 t8)
noncomputable def F11.t11 (n0 : Nat) (l : Nat) (b1 t2 l3 e4 at5 n6 t8 : Value) (ds : List Nat) (h : H) (K : KP) : Prop :=
  Bnd (aFieldAddr Try.prog 26 t8 4) fun t85 =>
  Bnd (aLoad Try.prog 3 t85 h) fun t86 =>
  Bnd (aStore Try.prog 3 at5 t86 h) fun h1 =>
  Bnd (aLoad Try.prog 3 n6 h1) fun t87 =>
  Bnd (aBin Try.prog true .add 3 t87 (.int .i64 1)) fun t88 =>
  Bnd (aStore Try.prog 3 n6 t88 h1) fun h2 =>
  K .normal [(1, b1), (2, t2), (3, l3), (4, e4), (5, at5), (6, n6), (87, t87), (88, t88)] ds h2
theorem F11.g11 {n0 : Nat} {l : Nat} (b1 t2 l3 e4 at5 n6 t8 : Value) {ds : List Nat} {h : H} {K : KP} : wA Try.prog n0 123 (some l) F11.c11 [(1, b1), (2, t2), (3, l3), (4, e4), (5, at5), (6, n6), (8, t8)] ds h K = F11.t11 n0 l b1 t2 l3 e4 at5 n6 t8 ds h K := by kernel_rfl
theorem F11.s11 {n0 : Nat} (l : Nat) : F11.p11 n0 l = wA Try.prog n0 123 (some l) F11.c11 := by kernel_rfl
theorem F11.e11 {n0 : Nat} {l : Nat} {b1 t2 l3 e4 at5 n6 t8 : Value} {ds : List Nat} {h : H} {K : KP} : F11.p11 n0 l [(1, b1), (2, t2), (3, l3), (4, e4), (5, at5), (6, n6), (8, t8)] ds h K = F11.t11 n0 l b1 t2 l3 e4 at5 n6 t8 ds h K :=
  wchain (F11.s11 l) (F11.g11 b1 t2 l3 e4 at5 n6 t8)
theorem F11.b : Try.f11.body = some F11.c0.erase := by kernel_rfl
theorem F11.b2 : (Try.f11.name == "runtime.NumGoroutine") = false := by kernel_rfl
theorem F11.b3 : Try.f11.ntmps = 123 := by kernel_rfl
theorem F11.b4 : Try.f11.results.toList = [.cell 2 4] := by kernel_rfl
theorem F11.enter {n0 : Nat} {x0 : Value} {h : H} {Q : Value → H → Prop} (w : F11.p0 n0 [(0, x0)] [] h (KFin Try.prog [.cell 2 4] Q)) : Cn Try.prog n0 (.func 11) [x0] h Q :=
  @fn_enter Try.prog n0 mixed 11 Try.f11 F11.c0 [x0] h Q Try.func11 F11.b F11.k0 F11.b2 123 F11.b3 [.cell 2 4] F11.b4 (by simp) [(0, x0)] rfl (wback F11.d0 w)

/-! roster.rosterlaw02.lay -/
noncomputable def F32.ac : AC := (ann (bodyOf Try.f32) [[0, 1, 2, 3], [3], [0, 1, 2, 3, 16, 17], [3], [0, 1, 2, 3, 16, 17], [0, 1, 2, 3, 16, 17, 18], [0, 1, 2, 3, 16, 17], [0, 1, 2, 3, 16, 17], [0, 1, 2, 3, 16, 17], [0, 1, 2, 3, 16, 17], [0, 1, 2, 3, 10, 16, 17], [0, 1, 2, 3, 10, 16, 17], [0, 1, 2, 3, 10, 16, 17, 21], [0, 1, 2, 3, 10, 16, 17], [8, 9], [0, 1, 2, 3, 10, 11, 12, 16, 17], [0, 1, 2, 3, 10, 11, 12, 16, 17], [0, 1, 2, 3, 10, 11, 12, 16, 17], [0, 1, 2, 3, 13, 16, 17], [0, 1, 2, 3, 13, 16, 17], [0, 1, 2, 3, 10, 11, 12, 16, 17, 56], [0, 1, 2, 3, 10, 11, 12, 16, 17], [0, 1, 2, 3, 10, 11, 12, 16, 17, 72], [0, 1, 2, 3, 10, 11, 12, 16, 17], [0, 1, 2, 3, 10, 11, 12, 16, 17, 89], [0, 1, 2, 3, 10, 11, 12, 16, 17], [0, 1, 2, 3, 10, 16, 17], [0, 1, 2, 3, 10, 16, 17, 36], [0, 1, 2, 3, 10, 16, 17], [8, 9], [0, 1, 2, 3, 10, 16, 17], [0, 1, 2, 3, 14, 16, 17], [0, 1, 2, 3, 16, 17], [0, 1, 2, 3, 16, 17, 52], [0, 1, 2, 3, 16, 17], [8, 9], [0, 1, 2, 3, 16, 17, 111], [0, 1, 2, 3, 16, 17], [8, 9], [8, 9]]).1
noncomputable def F32.c0 : AC := F32.ac
noncomputable def F32.c1 : AC := F32.ac.snd.fst.snd.fst.fst
noncomputable def F32.c2 : AC := F32.ac.snd.fst.snd.fst.fst.snd.snd
noncomputable def F32.c3 : AC := F32.ac.snd.fst.snd.fst.fst.snd.snd.fst.fst.snd.fst.snd.fst
noncomputable def F32.c4 : AC := F32.ac.snd.fst.snd.fst.fst.snd.snd.fst.fst.snd.snd
noncomputable def F32.c5 : AC := F32.ac.snd.fst.snd.fst.fst.snd.snd.fst.fst.snd.snd.snd.snd.snd.fst.fst.snd.fst
noncomputable def F32.c6 : AC := F32.ac.snd.fst.snd.fst.fst.snd.snd.fst.fst.snd.snd.snd.snd.snd.fst.fst.snd.snd
noncomputable def F32.c7 : AC := F32.ac.snd.fst.snd.fst.fst.snd.snd.fst.fst.snd.snd.snd.snd.snd.fst.fst.snd.snd.snd.fst
noncomputable def F32.c8 : AC := F32.ac.snd.fst.snd.fst.fst.snd.snd.fst.fst.snd.snd.snd.snd.snd.fst.fst.snd.snd.snd.snd
noncomputable def F32.c9 : AC := F32.ac.snd.fst.snd.fst.fst.snd.snd.fst.fst.snd.snd.snd.snd.snd.fst.fst.snd.snd.snd.snd.snd.fst
noncomputable def F32.c10 : AC := F32.ac.snd.fst.snd.fst.fst.snd.snd.fst.fst.snd.snd.snd.snd.snd.fst.fst.snd.snd.snd.snd.snd.snd
noncomputable def F32.c11 : AC := F32.ac.snd.fst.snd.fst.fst.snd.snd.fst.fst.snd.snd.snd.snd.snd.fst.fst.snd.snd.snd.snd.snd.snd.fst.snd.fst
noncomputable def F32.c12 : AC := F32.ac.snd.fst.snd.fst.fst.snd.snd.fst.fst.snd.snd.snd.snd.snd.fst.fst.snd.snd.snd.snd.snd.snd.snd
noncomputable def F32.c13 : AC := F32.ac.snd.fst.snd.fst.fst.snd.snd.fst.fst.snd.snd.snd.snd.snd.fst.fst.snd.snd.snd.snd.snd.snd.snd.snd.snd.fst.snd.fst
noncomputable def F32.c14 : AC := F32.ac.snd.fst.snd.fst.fst.snd.snd.fst.fst.snd.snd.snd.snd.snd.fst.fst.snd.snd.snd.snd.snd.snd.snd.snd.snd.snd
noncomputable def F32.c15 : AC := F32.ac.snd.fst.snd.fst.fst.snd.snd.fst.fst.snd.snd.snd.snd.snd.snd
noncomputable def F32.c16 : AC := F32.ac.snd.fst.snd.fst.fst.snd.snd.fst.fst.snd.snd.snd.snd.snd.snd.snd.fst
noncomputable def F32.c17 : AC := F32.ac.snd.fst.snd.fst.fst.snd.snd.snd
noncomputable def F32.c18 : AC := F32.ac.snd.snd
noncomputable def F32.p0 (n0 : Nat) : WP := wA Try.prog n0 115 none F32.c0
noncomputable def F32.p1 (n0 : Nat) : WP := wA Try.prog n0 115 none F32.c1
noncomputable def F32.p2 (n0 : Nat) : WP := wA Try.prog n0 115 none F32.c2
noncomputable def F32.p3 (n0 : Nat) : WP := wA Try.prog n0 115 none F32.c3
noncomputable def F32.p4 (n0 : Nat) : WP := wA Try.prog n0 115 none F32.c4
noncomputable def F32.p5 (n0 : Nat) : WP := wA Try.prog n0 115 none F32.c5
noncomputable def F32.p6 (n0 : Nat) : WP := wA Try.prog n0 115 none F32.c6
noncomputable def F32.p7 (n0 : Nat) : WP := wA Try.prog n0 115 none F32.c7
noncomputable def F32.p8 (n0 : Nat) : WP := wA Try.prog n0 115 none F32.c8
noncomputable def F32.p9 (n0 : Nat) : WP := wA Try.prog n0 115 none F32.c9
noncomputable def F32.p10 (n0 : Nat) : WP := wA Try.prog n0 115 none F32.c10
noncomputable def F32.p11 (n0 : Nat) : WP := wA Try.prog n0 115 none F32.c11
noncomputable def F32.p12 (n0 : Nat) : WP := wA Try.prog n0 115 none F32.c12
noncomputable def F32.p13 (n0 : Nat) : WP := wA Try.prog n0 115 none F32.c13
noncomputable def F32.p14 (n0 : Nat) : WP := wA Try.prog n0 115 none F32.c14
noncomputable def F32.p15 (n0 : Nat) : WP := wA Try.prog n0 115 none F32.c15
noncomputable def F32.p16 (n0 : Nat) : WP := wA Try.prog n0 115 none F32.c16
noncomputable def F32.p17 (n0 : Nat) : WP := wA Try.prog n0 115 none F32.c17
noncomputable def F32.p18 (n0 : Nat) : WP := wA Try.prog n0 115 none F32.c18
noncomputable def F32.t0 (n0 : Nat) (B1 : WP) (B18 : WP) (w0 l1 depth2 left3 : Value) (ds : List Nat) (h : H) (K : KP) : Prop :=
  Bnd2 (aBuiltin Try.prog .len #[59] [l1] h) fun t16 h1 =>
  Lp [0, 1, 2, 3, 16, 17] B1 [(0, w0), (1, l1), (2, depth2), (3, left3), (16, t16), (17, (.int .i64 0))] ds h1 (KBlk [3] 0 (KSeq [3] B18 K))
theorem F32.g0 {n0 : Nat} (B1 : WP) (B18 : WP) (w0 l1 depth2 left3 : Value) {ds : List Nat} {h : H} {K : KP} : wA Try.prog n0 115 none (.seq [0, 1, 2, 3] F32.c0.fst (.seq [3] (.seq [0, 1, 2, 3, 16, 17] F32.c0.snd.fst.fst (.block [3] 0 (.loop [0, 1, 2, 3, 16, 17] (.sub B1)))) (.sub B18))) [(0, w0), (1, l1), (2, depth2), (3, left3)] ds h K = F32.t0 n0 B1 B18 w0 l1 depth2 left3 ds h K := by kernel_rfl
theorem F32.s0 {n0 : Nat} : F32.p0 n0 = wA Try.prog n0 115 none (.seq [0, 1, 2, 3] F32.c0.fst (.seq [3] (.seq [0, 1, 2, 3, 16, 17] F32.c0.snd.fst.fst (.block [3] 0 (.loop [0, 1, 2, 3, 16, 17] (.sub (F32.p1 n0))))) (.sub (F32.p18 n0)))) := by kernel_rfl
theorem F32.e0 {n0 : Nat} {w0 l1 depth2 left3 : Value} {ds : List Nat} {h : H} {K : KP} : F32.p0 n0 [(0, w0), (1, l1), (2, depth2), (3, left3)] ds h K = F32.t0 n0 (F32.p1 n0) (F32.p18 n0) w0 l1 depth2 left3 ds h K :=
  wchain (F32.s0) (F32.g0 (F32.p1 n0) (F32.p18 n0) w0 l1 depth2 left3)
theorem F32.k0 : F32.c0.ok = true := by kernel_rfl
theorem F32.d0 {n0 : Nat} : F32.p0 n0 = wA Try.prog n0 115 none F32.c0 := by kernel_rfl
theorem F32.m0 (n0 : Nat) : MonoW (F32.p0 n0) := @mono_c Try.prog n0 115 none F32.c0 (F32.p0 n0) (F32.d0) F32.k0
noncomputable def F32.t1 (n0 : Nat) (B2 : WP) (w0 l1 depth2 left3 t16 t17 : Value) (ds : List Nat) (h : H) (K : KP) : Prop :=
  Bnd (aBin Try.prog false .lss 3 t17 t16) fun t18 =>
  Cnd t18
   (B2 [(0, w0), (1, l1), (2, depth2), (3, left3), (16, t16), (17, t17)] ds h K)
   (K (.exit 0) [(0, w0), (1, l1), (2, depth2), (3, left3), (16, t16), (17, t17)] ds h)
theorem F32.g1 {n0 : Nat} (B2 : WP) (w0 l1 depth2 left3 t16 t17 : Value) {ds : List Nat} {h : H} {K : KP} : wA Try.prog n0 115 none (.seq [0, 1, 2, 3, 16, 17, 18] F32.c1.fst (.seq [0, 1, 2, 3, 16, 17] F32.c1.snd.fst (.sub B2))) [(0, w0), (1, l1), (2, depth2), (3, left3), (16, t16), (17, t17)] ds h K = F32.t1 n0 B2 w0 l1 depth2 left3 t16 t17 ds h K := by kernel_rfl
theorem F32.s1 {n0 : Nat} : F32.p1 n0 = wA Try.prog n0 115 none (.seq [0, 1, 2, 3, 16, 17, 18] F32.c1.fst (.seq [0, 1, 2, 3, 16, 17] F32.c1.snd.fst (.sub (F32.p2 n0)))) := by kernel_rfl
theorem F32.e1 {n0 : Nat} {w0 l1 depth2 left3 t16 t17 : Value} {ds : List Nat} {h : H} {K : KP} : F32.p1 n0 [(0, w0), (1, l1), (2, depth2), (3, left3), (16, t16), (17, t17)] ds h K = F32.t1 n0 (F32.p2 n0) w0 l1 depth2 left3 t16 t17 ds h K :=
  wchain (F32.s1) (F32.g1 (F32.p2 n0) w0 l1 depth2 left3 t16 t17)
theorem F32.k1 : F32.c1.ok = true := by kernel_rfl
theorem F32.d1 {n0 : Nat} : F32.p1 n0 = wA Try.prog n0 115 none F32.c1 := by kernel_rfl
theorem F32.m1 (n0 : Nat) : MonoW (F32.p1 n0) := @mono_c Try.prog n0 115 none F32.c1 (F32.p1 n0) (F32.d1) F32.k1
noncomputable def F32.t2 (n0 : Nat) (B3 : WP) (B4 : WP) (B17 : WP) (w0 l1 depth2 left3 t16 t17 : Value) (ds : List Nat) (h : H) (K : KP) : Prop :=
  Bnd (aBin Try.prog true .leq 3 left3 (.int .i64 0)) fun t21 =>
  Cnd t21
   (B3 [(0, w0), (1, l1), (2, depth2), (3, left3), (10, t17), (16, t16), (17, t17)] ds h (KSeq [0, 1, 2, 3, 10, 16, 17] B4 (KBlk [0, 1, 2, 3, 16, 17] 1 (KSeq [0, 1, 2, 3, 16, 17] B17 K))))
   (B4 [(0, w0), (1, l1), (2, depth2), (3, left3), (10, t17), (16, t16), (17, t17)] ds h (KBlk [0, 1, 2, 3, 16, 17] 1 (KSeq [0, 1, 2, 3, 16, 17] B17 K)))
theorem F32.g2 {n0 : Nat} (B3 : WP) (B4 : WP) (B17 : WP) (w0 l1 depth2 left3 t16 t17 : Value) {ds : List Nat} {h : H} {K : KP} : wA Try.prog n0 115 none (.seq [0, 1, 2, 3, 16, 17] (.block [0, 1, 2, 3, 16, 17] 1 (.seq [0, 1, 2, 3, 10, 16, 17] F32.c2.fst.fst.fst (.seq [0, 1, 2, 3, 10, 16, 17] (.seq [0, 1, 2, 3, 10, 16, 17, 21] F32.c2.fst.fst.snd.fst.fst (.cond [0, 1, 2, 3, 10, 16, 17] (.tmp 21) (.sub B3) F32.c2.fst.fst.snd.fst.snd.snd)) (.sub B4)))) (.sub B17)) [(0, w0), (1, l1), (2, depth2), (3, left3), (16, t16), (17, t17)] ds h K = F32.t2 n0 B3 B4 B17 w0 l1 depth2 left3 t16 t17 ds h K := by kernel_rfl
theorem F32.s2 {n0 : Nat} : F32.p2 n0 = wA Try.prog n0 115 none (.seq [0, 1, 2, 3, 16, 17] (.block [0, 1, 2, 3, 16, 17] 1 (.seq [0, 1, 2, 3, 10, 16, 17] F32.c2.fst.fst.fst (.seq [0, 1, 2, 3, 10, 16, 17] (.seq [0, 1, 2, 3, 10, 16, 17, 21] F32.c2.fst.fst.snd.fst.fst (.cond [0, 1, 2, 3, 10, 16, 17] (.tmp 21) (.sub (F32.p3 n0)) F32.c2.fst.fst.snd.fst.snd.snd)) (.sub (F32.p4 n0))))) (.sub (F32.p17 n0))) := by kernel_rfl
theorem F32.e2 {n0 : Nat} {w0 l1 depth2 left3 t16 t17 : Value} {ds : List Nat} {h : H} {K : KP} : F32.p2 n0 [(0, w0), (1, l1), (2, depth2), (3, left3), (16, t16), (17, t17)] ds h K = F32.t2 n0 (F32.p3 n0) (F32.p4 n0) (F32.p17 n0) w0 l1 depth2 left3 t16 t17 ds h K :=
  wchain (F32.s2) (F32.g2 (F32.p3 n0) (F32.p4 n0) (F32.p17 n0) w0 l1 depth2 left3 t16 t17)
noncomputable def F32.t3 (n0 : Nat) (w0 l1 depth2 left3 i10 t16 t17 : Value) (ds : List Nat) (h : H) (K : KP) : Prop :=
  K .ret [(8, (.int .i64 0)), (9, (.bool true))] ds h
theorem F32.g3 {n0 : Nat} (w0 l1 depth2 left3 i10 t16 t17 : Value) {ds : List Nat} {h : H} {K : KP} : wA Try.prog n0 115 none F32.c3 [(0, w0), (1, l1), (2, depth2), (3, left3), (10, i10), (16, t16), (17, t17)] ds h K = F32.t3 n0 w0 l1 depth2 left3 i10 t16 t17 ds h K := by kernel_rfl
theorem F32.s3 {n0 : Nat} : F32.p3 n0 = wA Try.prog n0 115 none F32.c3 := by kernel_rfl
theorem F32.e3 {n0 : Nat} {w0 l1 depth2 left3 i10 t16 t17 : Value} {ds : List Nat} {h : H} {K : KP} : F32.p3 n0 [(0, w0), (1, l1), (2, depth2), (3, left3), (10, i10), (16, t16), (17, t17)] ds h K = F32.t3 n0 w0 l1 depth2 left3 i10 t16 t17 ds h K :=
  wchain (F32.s3) (F32.g3 w0 l1 depth2 left3 i10 t16 t17)
noncomputable def F32.t4 (n0 : Nat) (B5 : WP) (B6 : WP) (B15 : WP) (w0 l1 depth2 left3 i10 t16 t17 : Value) (ds : List Nat) (h : H) (K : KP) : Prop :=
  Bnd (aIndexAddr Try.prog 59 l1 i10) fun t25 =>
  Bnd (aLoad Try.prog 98 t25 h) fun t26 =>
  Cn Try.prog n0 (.func 53) [t26] h fun t27 h1 =>
  Bnd (tupAt t27 0) fun t28 =>
  Bnd (tupAt t27 1) fun t29 =>
  Bnd (aBin Try.prog true .sub 3 left3 (.int .i64 1)) fun t31 =>
  Bnd (aIndexAddr Try.prog 59 l1 i10) fun t59 =>
  Bnd (aFieldAddr Try.prog 98 t59 0) fun t60 =>
  Bnd (aLoad Try.prog 3 t60 h1) fun t61 =>
  Bnd (aBin Try.prog true .eql 3 t61 (.int .i64 0)) fun t62 =>
  Cnd t62
   (B5 [(0, w0), (1, l1), (2, depth2), (3, t31), (10, i10), (11, t28), (12, t29), (16, t16), (17, t17)] ds h1 (KBlk [0, 1, 2, 3, 13, 16, 17] 2 (KSeq [0, 1, 2, 3, 13, 16, 17] B15 K)))
   (B6 [(0, w0), (1, l1), (2, depth2), (3, t31), (10, i10), (11, t28), (12, t29), (16, t16), (17, t17)] ds h1 (KBlk [0, 1, 2, 3, 13, 16, 17] 2 (KSeq [0, 1, 2, 3, 13, 16, 17] B15 K)))
theorem F32.g4 {n0 : Nat} (B5 : WP) (B6 : WP) (B15 : WP) (w0 l1 depth2 left3 i10 t16 t17 : Value) {ds : List Nat} {h : H} {K : KP} : wA Try.prog n0 115 none (.seq [0, 1, 2, 3, 10, 11, 12, 16, 17] F32.c4.fst (.seq [0, 1, 2, 3, 10, 11, 12, 16, 17] F32.c4.snd.fst (.seq [0, 1, 2, 3, 10, 11, 12, 16, 17] F32.c4.snd.snd.fst (.seq [0, 1, 2, 3, 13, 16, 17] (.block [0, 1, 2, 3, 13, 16, 17] 2 (.seq [0, 1, 2, 3, 10, 11, 12, 16, 17, 56] F32.c4.snd.snd.snd.fst.fst.fst (.cond [0, 1, 2, 3, 10, 11, 12, 16, 17] (.tmp 56) (.sub B5) (.sub B6)))) (.sub B15))))) [(0, w0), (1, l1), (2, depth2), (3, left3), (10, i10), (16, t16), (17, t17)] ds h K = F32.t4 n0 B5 B6 B15 w0 l1 depth2 left3 i10 t16 t17 ds h K := by kernel_rfl
theorem F32.s4 {n0 : Nat} : F32.p4 n0 = wA Try.prog n0 115 none (.seq [0, 1, 2, 3, 10, 11, 12, 16, 17] F32.c4.fst (.seq [0, 1, 2, 3, 10, 11, 12, 16, 17] F32.c4.snd.fst (.seq [0, 1, 2, 3, 10, 11, 12, 16, 17] F32.c4.snd.snd.fst (.seq [0, 1, 2, 3, 13, 16, 17] (.block [0, 1, 2, 3, 13, 16, 17] 2 (.seq [0, 1, 2, 3, 10, 11, 12, 16, 17, 56] F32.c4.snd.snd.snd.fst.fst.fst (.cond [0, 1, 2, 3, 10, 11, 12, 16, 17] (.tmp 56) (.sub (F32.p5 n0)) (.sub (F32.p6 n0))))) (.sub (F32.p15 n0)))))) := by kernel_rfl
theorem F32.e4 {n0 : Nat} {w0 l1 depth2 left3 i10 t16 t17 : Value} {ds : List Nat} {h : H} {K : KP} : F32.p4 n0 [(0, w0), (1, l1), (2, depth2), (3, left3), (10, i10), (16, t16), (17, t17)] ds h K = F32.t4 n0 (F32.p5 n0) (F32.p6 n0) (F32.p15 n0) w0 l1 depth2 left3 i10 t16 t17 ds h K :=
  wchain (F32.s4) (F32.g4 (F32.p5 n0) (F32.p6 n0) (F32.p15 n0) w0 l1 depth2 left3 i10 t16 t17)
noncomputable def F32.t5 (n0 : Nat) (w0 l1 depth2 left3 i10 c11 n12 t16 t17 : Value) (ds : List Nat) (h : H) (K : KP) : Prop :=
  Bnd (aIndexAddr Try.prog 59 l1 i10) fun t68 =>
  Bnd (aFieldAddr Try.prog 98 t68 3) fun t69 =>
  Bnd (aLoad Try.prog 2 t69 h) fun t70 =>
  Cn Try.prog n0 (.func 18) [w0, c11, n12, t70] h fun t71 h1 =>
  K .normal [(0, w0), (1, l1), (2, depth2), (3, left3), (10, i10), (11, c11), (12, n12), (16, t16), (17, t17), (63, w0), (64, c11), (65, n12), (66, l1), (67, i10), (68, t68), (69, t69), (70, t70), (71, t71), (13, t71)] ds h1
theorem F32.g5 {n0 : Nat} (w0 l1 depth2 left3 i10 c11 n12 t16 t17 : Value) {ds : List Nat} {h : H} {K : KP} : wA Try.prog n0 115 none F32.c5 [(0, w0), (1, l1), (2, depth2), (3, left3), (10, i10), (11, c11), (12, n12), (16, t16), (17, t17)] ds h K = F32.t5 n0 w0 l1 depth2 left3 i10 c11 n12 t16 t17 ds h K := by kernel_rfl
theorem F32.s5 {n0 : Nat} : F32.p5 n0 = wA Try.prog n0 115 none F32.c5 := by kernel_rfl
theorem F32.e5 {n0 : Nat} {w0 l1 depth2 left3 i10 c11 n12 t16 t17 : Value} {ds : List Nat} {h : H} {K : KP} : F32.p5 n0 [(0, w0), (1, l1), (2, depth2), (3, left3), (10, i10), (11, c11), (12, n12), (16, t16), (17, t17)] ds h K = F32.t5 n0 w0 l1 depth2 left3 i10 c11 n12 t16 t17 ds h K :=
  wchain (F32.s5) (F32.g5 w0 l1 depth2 left3 i10 c11 n12 t16 t17)
noncomputable def F32.t6 (n0 : Nat) (B7 : WP) (B8 : WP) (w0 l1 depth2 left3 i10 c11 n12 t16 t17 : Value) (ds : List Nat) (h : H) (K : KP) : Prop :=
  Bnd (aIndexAddr Try.prog 59 l1 i10) fun t75 =>
  Bnd (aFieldAddr Try.prog 98 t75 0) fun t76 =>
  Bnd (aLoad Try.prog 3 t76 h) fun t77 =>
  Bnd (aBin Try.prog true .eql 3 t77 (.int .i64 1)) fun t78 =>
  Cnd t78
   (B7 [(0, w0), (1, l1), (2, depth2), (3, left3), (10, i10), (11, c11), (12, n12), (16, t16), (17, t17)] ds h K)
   (B8 [(0, w0), (1, l1), (2, depth2), (3, left3), (10, i10), (11, c11), (12, n12), (16, t16), (17, t17)] ds h K)
theorem F32.g6 {n0 : Nat} (B7 : WP) (B8 : WP) (w0 l1 depth2 left3 i10 c11 n12 t16 t17 : Value) {ds : List Nat} {h : H} {K : KP} : wA Try.prog n0 115 none (.seq [0, 1, 2, 3, 10, 11, 12, 16, 17, 72] F32.c6.fst (.cond [0, 1, 2, 3, 10, 11, 12, 16, 17] (.tmp 72) (.sub B7) (.sub B8))) [(0, w0), (1, l1), (2, depth2), (3, left3), (10, i10), (11, c11), (12, n12), (16, t16), (17, t17)] ds h K = F32.t6 n0 B7 B8 w0 l1 depth2 left3 i10 c11 n12 t16 t17 ds h K := by kernel_rfl
theorem F32.s6 {n0 : Nat} : F32.p6 n0 = wA Try.prog n0 115 none (.seq [0, 1, 2, 3, 10, 11, 12, 16, 17, 72] F32.c6.fst (.cond [0, 1, 2, 3, 10, 11, 12, 16, 17] (.tmp 72) (.sub (F32.p7 n0)) (.sub (F32.p8 n0)))) := by kernel_rfl
theorem F32.e6 {n0 : Nat} {w0 l1 depth2 left3 i10 c11 n12 t16 t17 : Value} {ds : List Nat} {h : H} {K : KP} : F32.p6 n0 [(0, w0), (1, l1), (2, depth2), (3, left3), (10, i10), (11, c11), (12, n12), (16, t16), (17, t17)] ds h K = F32.t6 n0 (F32.p7 n0) (F32.p8 n0) w0 l1 depth2 left3 i10 c11 n12 t16 t17 ds h K :=
  wchain (F32.s6) (F32.g6 (F32.p7 n0) (F32.p8 n0) w0 l1 depth2 left3 i10 c11 n12 t16 t17)
noncomputable def F32.t7 (n0 : Nat) (w0 l1 depth2 left3 i10 c11 n12 t16 t17 : Value) (ds : List Nat) (h : H) (K : KP) : Prop :=
  Bnd (aIndexAddr Try.prog 59 l1 i10) fun t84 =>
  Bnd (aFieldAddr Try.prog 98 t84 3) fun t85 =>
  Bnd (aLoad Try.prog 2 t85 h) fun t86 =>
  Bnd (aBin Try.prog true .gtr 2 t86 (.int .i64 0)) fun t87 =>
  Cn Try.prog n0 (.func 46) [w0, c11, n12, t87] h fun t88 h1 =>
  K .normal [(0, w0), (1, l1), (2, depth2), (3, left3), (10, i10), (11, c11), (12, n12), (16, t16), (17, t17), (79, w0), (80, c11), (81, n12), (82, l1), (83, i10), (84, t84), (85, t85), (86, t86), (87, t87), (88, t88), (13, t88)] ds h1
theorem F32.g7 {n0 : Nat} (w0 l1 depth2 left3 i10 c11 n12 t16 t17 : Value) {ds : List Nat} {h : H} {K : KP} : wA Try.prog n0 115 none F32.c7 [(0, w0), (1, l1), (2, depth2), (3, left3), (10, i10), (11, c11), (12, n12), (16, t16), (17, t17)] ds h K = F32.t7 n0 w0 l1 depth2 left3 i10 c11 n12 t16 t17 ds h K := by kernel_rfl
theorem F32.s7 {n0 : Nat} : F32.p7 n0 = wA Try.prog n0 115 none F32.c7 := by kernel_rfl
theorem F32.e7 {n0 : Nat} {w0 l1 depth2 left3 i10 c11 n12 t16 t17 : Value} {ds : List Nat} {h : H} {K : KP} : F32.p7 n0 [(0, w0), (1, l1), (2, depth2), (3, left3), (10, i10), (11, c11), (12, n12), (16, t16), (17, t17)] ds h K = F32.t7 n0 w0 l1 depth2 left3 i10 c11 n12 t16 t17 ds h K :=
  wchain (F32.s7) (F32.g7 w0 l1 depth2 left3 i10 c11 n12 t16 t17)
noncomputable def F32.t8 (n0 : Nat) (B9 : WP) (B10 : WP) (w0 l1 depth2 left3 i10 c11 n12 t16 t17 : Value) (ds : List Nat) (h : H) (K : KP) : Prop :=
  Bnd (aIndexAddr Try.prog 59 l1 i10) fun t92 =>
  Bnd (aFieldAddr Try.prog 98 t92 0) fun t93 =>
  Bnd (aLoad Try.prog 3 t93 h) fun t94 =>
  Bnd (aBin Try.prog true .eql 3 t94 (.int .i64 2)) fun t95 =>
  Gd t95
   (B9 [(0, w0), (1, l1), (2, depth2), (3, left3), (10, i10), (11, c11), (12, n12), (16, t16), (17, t17)] ds h K)
   (Bnd (aBin Try.prog true .geq 3 depth2 (.int .i64 60)) fun t98 =>
  Cnd t98
   (B9 [(0, w0), (1, l1), (2, depth2), (3, left3), (10, i10), (11, c11), (12, n12), (16, t16), (17, t17)] ds h K)
   (B10 [(0, w0), (1, l1), (2, depth2), (3, left3), (10, i10), (11, c11), (12, n12), (16, t16), (17, t17)] ds h K))
theorem F32.g8 {n0 : Nat} (B9 : WP) (B10 : WP) (w0 l1 depth2 left3 i10 c11 n12 t16 t17 : Value) {ds : List Nat} {h : H} {K : KP} : wA Try.prog n0 115 none (.seq [0, 1, 2, 3, 10, 11, 12, 16, 17, 89] F32.c8.fst (.cond [0, 1, 2, 3, 10, 11, 12, 16, 17] (.tmp 89) (.sub B9) (.sub B10))) [(0, w0), (1, l1), (2, depth2), (3, left3), (10, i10), (11, c11), (12, n12), (16, t16), (17, t17)] ds h K = F32.t8 n0 B9 B10 w0 l1 depth2 left3 i10 c11 n12 t16 t17 ds h K := by kernel_rfl
theorem F32.s8 {n0 : Nat} : F32.p8 n0 = wA Try.prog n0 115 none (.seq [0, 1, 2, 3, 10, 11, 12, 16, 17, 89] F32.c8.fst (.cond [0, 1, 2, 3, 10, 11, 12, 16, 17] (.tmp 89) (.sub (F32.p9 n0)) (.sub (F32.p10 n0)))) := by kernel_rfl
theorem F32.e8 {n0 : Nat} {w0 l1 depth2 left3 i10 c11 n12 t16 t17 : Value} {ds : List Nat} {h : H} {K : KP} : F32.p8 n0 [(0, w0), (1, l1), (2, depth2), (3, left3), (10, i10), (11, c11), (12, n12), (16, t16), (17, t17)] ds h K = F32.t8 n0 (F32.p9 n0) (F32.p10 n0) w0 l1 depth2 left3 i10 c11 n12 t16 t17 ds h K :=
  wchain (F32.s8) (F32.g8 (F32.p9 n0) (F32.p10 n0) w0 l1 depth2 left3 i10 c11 n12 t16 t17)
noncomputable def F32.t9 (n0 : Nat) (w0 l1 depth2 left3 i10 c11 n12 t16 t17 : Value) (ds : List Nat) (h : H) (K : KP) : Prop :=
  Bnd (aIndexAddr Try.prog 59 l1 i10) fun t105 =>
  Bnd (aFieldAddr Try.prog 98 t105 4) fun t106 =>
  Bnd (aLoad Try.prog 9 t106 h) fun t107 =>
  Cn Try.prog n0 (.func 54) [t107] h fun t108 h1 =>
  Cn Try.prog n0 (.func 41) [w0, c11, n12, t108] h1 fun t109 h2 =>
  K .normal [(0, w0), (1, l1), (2, depth2), (3, left3), (10, i10), (11, c11), (12, n12), (16, t16), (17, t17), (100, w0), (101, c11), (102, n12), (103, l1), (104, i10), (105, t105), (106, t106), (107, t107), (108, t108), (109, t109), (13, t109)] ds h2
theorem F32.g9 {n0 : Nat} (w0 l1 depth2 left3 i10 c11 n12 t16 t17 : Value) {ds : List Nat} {h : H} {K : KP} : wA Try.prog n0 115 none F32.c9 [(0, w0), (1, l1), (2, depth2), (3, left3), (10, i10), (11, c11), (12, n12), (16, t16), (17, t17)] ds h K = F32.t9 n0 w0 l1 depth2 left3 i10 c11 n12 t16 t17 ds h K := by kernel_rfl
theorem F32.s9 {n0 : Nat} : F32.p9 n0 = wA Try.prog n0 115 none F32.c9 := by kernel_rfl
theorem F32.e9 {n0 : Nat} {w0 l1 depth2 left3 i10 c11 n12 t16 t17 : Value} {ds : List Nat} {h : H} {K : KP} : F32.p9 n0 [(0, w0), (1, l1), (2, depth2), (3, left3), (10, i10), (11, c11), (12, n12), (16, t16), (17, t17)] ds h K = F32.t9 n0 w0 l1 depth2 left3 i10 c11 n12 t16 t17 ds h K :=
  wchain (F32.s9) (F32.g9 w0 l1 depth2 left3 i10 c11 n12 t16 t17)
noncomputable def F32.t10 (n0 : Nat) (B11 : WP) (B12 : WP) (w0 l1 depth2 left3 i10 c11 n12 t16 t17 : Value) (ds : List Nat) (h : H) (K : KP) : Prop :=
  Cn Try.prog n0 (.func 40) [w0, c11, n12] h fun t35 h1 =>
  Bnd (aBin Try.prog true .neq 27 t35 (.int .i64 0)) fun t36 =>
  Cnd t36
   (B11 [(0, w0), (1, l1), (2, depth2), (3, left3), (10, i10), (16, t16), (17, t17)] ds h1 (KSeq [0, 1, 2, 3, 10, 16, 17] B12 K))
   (B12 [(0, w0), (1, l1), (2, depth2), (3, left3), (10, i10), (16, t16), (17, t17)] ds h1 K)
theorem F32.g10 {n0 : Nat} (B11 : WP) (B12 : WP) (w0 l1 depth2 left3 i10 c11 n12 t16 t17 : Value) {ds : List Nat} {h : H} {K : KP} : wA Try.prog n0 115 none (.seq [0, 1, 2, 3, 10, 16, 17] (.seq [0, 1, 2, 3, 10, 16, 17, 36] F32.c10.fst.fst (.cond [0, 1, 2, 3, 10, 16, 17] (.tmp 36) (.sub B11) F32.c10.fst.snd.snd)) (.sub B12)) [(0, w0), (1, l1), (2, depth2), (3, left3), (10, i10), (11, c11), (12, n12), (16, t16), (17, t17)] ds h K = F32.t10 n0 B11 B12 w0 l1 depth2 left3 i10 c11 n12 t16 t17 ds h K := by kernel_rfl
theorem F32.s10 {n0 : Nat} : F32.p10 n0 = wA Try.prog n0 115 none (.seq [0, 1, 2, 3, 10, 16, 17] (.seq [0, 1, 2, 3, 10, 16, 17, 36] F32.c10.fst.fst (.cond [0, 1, 2, 3, 10, 16, 17] (.tmp 36) (.sub (F32.p11 n0)) F32.c10.fst.snd.snd)) (.sub (F32.p12 n0))) := by kernel_rfl
theorem F32.e10 {n0 : Nat} {w0 l1 depth2 left3 i10 c11 n12 t16 t17 : Value} {ds : List Nat} {h : H} {K : KP} : F32.p10 n0 [(0, w0), (1, l1), (2, depth2), (3, left3), (10, i10), (11, c11), (12, n12), (16, t16), (17, t17)] ds h K = F32.t10 n0 (F32.p11 n0) (F32.p12 n0) w0 l1 depth2 left3 i10 c11 n12 t16 t17 ds h K :=
  wchain (F32.s10) (F32.g10 (F32.p11 n0) (F32.p12 n0) w0 l1 depth2 left3 i10 c11 n12 t16 t17)
noncomputable def F32.t11 (n0 : Nat) (w0 l1 depth2 left3 i10 t16 t17 : Value) (ds : List Nat) (h : H) (K : KP) : Prop :=
  K .ret [(8, left3), (9, (.bool false))] ds h
theorem F32.g11 {n0 : Nat} (w0 l1 depth2 left3 i10 t16 t17 : Value) {ds : List Nat} {h : H} {K : KP} : wA Try.prog n0 115 none F32.c11 [(0, w0), (1, l1), (2, depth2), (3, left3), (10, i10), (16, t16), (17, t17)] ds h K = F32.t11 n0 w0 l1 depth2 left3 i10 t16 t17 ds h K := by kernel_rfl
theorem F32.s11 {n0 : Nat} : F32.p11 n0 = wA Try.prog n0 115 none F32.c11 := by kernel_rfl
theorem F32.e11 {n0 : Nat} {w0 l1 depth2 left3 i10 t16 t17 : Value} {ds : List Nat} {h : H} {K : KP} : F32.p11 n0 [(0, w0), (1, l1), (2, depth2), (3, left3), (10, i10), (16, t16), (17, t17)] ds h K = F32.t11 n0 w0 l1 depth2 left3 i10 t16 t17 ds h K :=
  wchain (F32.s11) (F32.g11 w0 l1 depth2 left3 i10 t16 t17)
noncomputable def F32.t12 (n0 : Nat) (B13 : WP) (B14 : WP) (w0 l1 depth2 left3 i10 t16 t17 : Value) (ds : List Nat) (h : H) (K : KP) : Prop :=
  Bnd (aIndexAddr Try.prog 59 l1 i10) fun t42 =>
  Bnd (aFieldAddr Try.prog 98 t42 5) fun t43 =>
  Bnd (aLoad Try.prog 59 t43 h) fun t44 =>
  Bnd (aBin Try.prog true .add 3 depth2 (.int .i64 1)) fun t46 =>
  Cn Try.prog n0 (.func 32) [w0, t44, t46, left3] h fun t48 h1 =>
  Bnd (tupAt t48 0) fun t49 =>
  Bnd (tupAt t48 1) fun t50 =>
  Bnd (aUn .not t50) fun t52 =>
  Cnd t52
   (B13 [(0, w0), (1, l1), (2, depth2), (3, t49), (16, t16), (17, t17)] ds h1 (KSeq [0, 1, 2, 3, 16, 17] B14 K))
   (B14 [(0, w0), (1, l1), (2, depth2), (3, t49), (16, t16), (17, t17)] ds h1 K)
theorem F32.g12 {n0 : Nat} (B13 : WP) (B14 : WP) (w0 l1 depth2 left3 i10 t16 t17 : Value) {ds : List Nat} {h : H} {K : KP} : wA Try.prog n0 115 none (.seq [0, 1, 2, 3, 10, 16, 17] F32.c12.fst (.seq [0, 1, 2, 3, 14, 16, 17] F32.c12.snd.fst (.seq [0, 1, 2, 3, 16, 17] (.seq [0, 1, 2, 3, 16, 17, 52] F32.c12.snd.snd.fst.fst (.cond [0, 1, 2, 3, 16, 17] (.tmp 52) (.sub B13) F32.c12.snd.snd.fst.snd.snd)) (.sub B14)))) [(0, w0), (1, l1), (2, depth2), (3, left3), (10, i10), (16, t16), (17, t17)] ds h K = F32.t12 n0 B13 B14 w0 l1 depth2 left3 i10 t16 t17 ds h K := by kernel_rfl
theorem F32.s12 {n0 : Nat} : F32.p12 n0 = wA Try.prog n0 115 none (.seq [0, 1, 2, 3, 10, 16, 17] F32.c12.fst (.seq [0, 1, 2, 3, 14, 16, 17] F32.c12.snd.fst (.seq [0, 1, 2, 3, 16, 17] (.seq [0, 1, 2, 3, 16, 17, 52] F32.c12.snd.snd.fst.fst (.cond [0, 1, 2, 3, 16, 17] (.tmp 52) (.sub (F32.p13 n0)) F32.c12.snd.snd.fst.snd.snd)) (.sub (F32.p14 n0))))) := by kernel_rfl
theorem F32.e12 {n0 : Nat} {w0 l1 depth2 left3 i10 t16 t17 : Value} {ds : List Nat} {h : H} {K : KP} : F32.p12 n0 [(0, w0), (1, l1), (2, depth2), (3, left3), (10, i10), (16, t16), (17, t17)] ds h K = F32.t12 n0 (F32.p13 n0) (F32.p14 n0) w0 l1 depth2 left3 i10 t16 t17 ds h K :=
  wchain (F32.s12) (F32.g12 (F32.p13 n0) (F32.p14 n0) w0 l1 depth2 left3 i10 t16 t17)
noncomputable def F32.t13 (n0 : Nat) (w0 l1 depth2 left3 t16 t17 : Value) (ds : List Nat) (h : H) (K : KP) : Prop :=
  K .ret [(8, left3), (9, (.bool false))] ds h
theorem F32.g13 {n0 : Nat} (w0 l1 depth2 left3 t16 t17 : Value) {ds : List Nat} {h : H} {K : KP} : wA Try.prog n0 115 none F32.c13 [(0, w0), (1, l1), (2, depth2), (3, left3), (16, t16), (17, t17)] ds h K = F32.t13 n0 w0 l1 depth2 left3 t16 t17 ds h K := by kernel_rfl
theorem F32.s13 {n0 : Nat} : F32.p13 n0 = wA Try.prog n0 115 none F32.c13 := by kernel_rfl
theorem F32.e13 {n0 : Nat} {w0 l1 depth2 left3 t16 t17 : Value} {ds : List Nat} {h : H} {K : KP} : F32.p13 n0 [(0, w0), (1, l1), (2, depth2), (3, left3), (16, t16), (17, t17)] ds h K = F32.t13 n0 w0 l1 depth2 left3 t16 t17 ds h K :=
  wchain (F32.s13) (F32.g13 w0 l1 depth2 left3 t16 t17)
noncomputable def F32.t14 (n0 : Nat) (w0 l1 depth2 left3 t16 t17 : Value) (ds : List Nat) (h : H) (K : KP) : Prop :=
  Cn Try.prog n0 (.func 42) [w0] h fun t55 h1 =>
  K .normal [(0, w0), (1, l1), (2, depth2), (3, left3), (16, t16), (17, t17), (54, w0), (55, t55), (13, t55)] ds h1
theorem F32.g14 {n0 : Nat} (w0 l1 depth2 left3 t16 t17 : Value) {ds : List Nat} {h : H} {K : KP} : wA Try.prog n0 115 none F32.c14 [(0, w0), (1, l1), (2, depth2), (3, left3), (16, t16), (17, t17)] ds h K = F32.t14 n0 w0 l1 depth2 left3 t16 t17 ds h K := by kernel_rfl
theorem F32.s14 {n0 : Nat} : F32.p14 n0 = wA Try.prog n0 115 none F32.c14 := by kernel_rfl
theorem F32.e14 {n0 : Nat} {w0 l1 depth2 left3 t16 t17 : Value} {ds : List Nat} {h : H} {K : KP} : F32.p14 n0 [(0, w0), (1, l1), (2, depth2), (3, left3), (16, t16), (17, t17)] ds h K = F32.t14 n0 w0 l1 depth2 left3 t16 t17 ds h K :=
  wchain (F32.s14) (F32.g14 w0 l1 depth2 left3 t16 t17)
noncomputable def F32.t15 (n0 : Nat) (B16 : WP) (w0 l1 depth2 left3 e13 t16 t17 : Value) (ds : List Nat) (h : H) (K : KP) : Prop :=
  Bnd (aBin Try.prog true .neq 27 e13 (.int .i64 0)) fun t111 =>
  Cnd t111
   (B16 [(0, w0), (1, l1), (2, depth2), (3, left3), (16, t16), (17, t17)] ds h K)
   (K .normal [(0, w0), (1, l1), (2, depth2), (3, left3), (16, t16), (17, t17)] ds h)
theorem F32.g15 {n0 : Nat} (B16 : WP) (w0 l1 depth2 left3 e13 t16 t17 : Value) {ds : List Nat} {h : H} {K : KP} : wA Try.prog n0 115 none (.seq [0, 1, 2, 3, 16, 17, 111] F32.c15.fst (.cond [0, 1, 2, 3, 16, 17] (.tmp 111) (.sub B16) F32.c15.snd.snd)) [(0, w0), (1, l1), (2, depth2), (3, left3), (13, e13), (16, t16), (17, t17)] ds h K = F32.t15 n0 B16 w0 l1 depth2 left3 e13 t16 t17 ds h K := by kernel_rfl
theorem F32.s15 {n0 : Nat} : F32.p15 n0 = wA Try.prog n0 115 none (.seq [0, 1, 2, 3, 16, 17, 111] F32.c15.fst (.cond [0, 1, 2, 3, 16, 17] (.tmp 111) (.sub (F32.p16 n0)) F32.c15.snd.snd)) := by kernel_rfl
theorem F32.e15 {n0 : Nat} {w0 l1 depth2 left3 e13 t16 t17 : Value} {ds : List Nat} {h : H} {K : KP} : F32.p15 n0 [(0, w0), (1, l1), (2, depth2), (3, left3), (13, e13), (16, t16), (17, t17)] ds h K = F32.t15 n0 (F32.p16 n0) w0 l1 depth2 left3 e13 t16 t17 ds h K :=
  wchain (F32.s15) (F32.g15 (F32.p16 n0) w0 l1 depth2 left3 e13 t16 t17)
noncomputable def F32.t16 (n0 : Nat) (w0 l1 depth2 left3 t16 t17 : Value) (ds : List Nat) (h : H) (K : KP) : Prop :=
  K .ret [(8, left3), (9, (.bool false))] ds h
theorem F32.g16 {n0 : Nat} (w0 l1 depth2 left3 t16 t17 : Value) {ds : List Nat} {h : H} {K : KP} : wA Try.prog n0 115 none F32.c16 [(0, w0), (1, l1), (2, depth2), (3, left3), (16, t16), (17, t17)] ds h K = F32.t16 n0 w0 l1 depth2 left3 t16 t17 ds h K := by kernel_rfl
theorem F32.s16 {n0 : Nat} : F32.p16 n0 = wA Try.prog n0 115 none F32.c16 := by kernel_rfl
theorem F32.e16 {n0 : Nat} {w0 l1 depth2 left3 t16 t17 : Value} {ds : List Nat} {h : H} {K : KP} : F32.p16 n0 [(0, w0), (1, l1), (2, depth2), (3, left3), (16, t16), (17, t17)] ds h K = F32.t16 n0 w0 l1 depth2 left3 t16 t17 ds h K :=
  wchain (F32.s16) (F32.g16 w0 l1 depth2 left3 t16 t17)
noncomputable def F32.t17 (n0 : Nat) (w0 l1 depth2 left3 t16 t17 : Value) (ds : List Nat) (h : H) (K : KP) : Prop :=
  Bnd (aBin Try.prog true .add 3 t17 (.int .i64 1)) fun t113 =>
  K .normal [(0, w0), (1, l1), (2, depth2), (3, left3), (16, t16), (17, t113), (113, t113)] ds h
theorem F32.g17 {n0 : Nat} (w0 l1 depth2 left3 t16 t17 : Value) {ds : List Nat} {h : H} {K : KP} : wA Try.prog n0 115 none F32.c17 [(0, w0), (1, l1), (2, depth2), (3, left3), (16, t16), (17, t17)] ds h K = F32.t17 n0 w0 l1 depth2 left3 t16 t17 ds h K := by kernel_rfl
theorem F32.s17 {n0 : Nat} : F32.p17 n0 = wA Try.prog n0 115 none F32.c17 := by kernel_rfl
theorem F32.e17 {n0 : Nat} {w0 l1 depth2 left3 t16 t17 : Value} {ds : List Nat} {h : H} {K : KP} : F32.p17 n0 [(0, w0), (1, l1), (2, depth2), (3, left3), (16, t16), (17, t17)] ds h K = F32.t17 n0 w0 l1 depth2 left3 t16 t17 ds h K :=
  wchain (F32.s17) (F32.g17 w0 l1 depth2 left3 t16 t17)
noncomputable def F32.t18 (n0 : Nat) (left3 : Value) (ds : List Nat) (h : H) (K : KP) : Prop :=
  K .ret [(8, left3), (9, (.bool true))] ds h
theorem F32.g18 {n0 : Nat} (left3 : Value) {ds : List Nat} {h : H} {K : KP} : wA Try.prog n0 115 none F32.c18 [(3, left3)] ds h K = F32.t18 n0 left3 ds h K := by kernel_rfl
theorem F32.s18 {n0 : Nat} : F32.p18 n0 = wA Try.prog n0 115 none F32.c18 := by kernel_rfl
theorem F32.e18 {n0 : Nat} {left3 : Value} {ds : List Nat} {h : H} {K : KP} : F32.p18 n0 [(3, left3)] ds h K = F32.t18 n0 left3 ds h K :=
  wchain (F32.s18) (F32.g18 left3)
theorem F32.b : Try.f32.body = some F32.c0.erase := by kernel_rfl
theorem F32.b2 : (Try.f32.name == "runtime.NumGoroutine") = false := by kernel_rfl
theorem F32.b3 : Try.f32.ntmps = 115 := by kernel_rfl
theorem F32.b4 : Try.f32.results.toList = [.tmp 8, .tmp 9] := by kernel_rfl
theorem F32.enter {n0 : Nat} {x0 x1 x2 x3 : Value} {h : H} {Q : Value → H → Prop} (w : F32.p0 n0 [(0, x0), (1, x1), (2, x2), (3, x3)] [] h (KFin Try.prog [.tmp 8, .tmp 9] Q)) : Cn Try.prog n0 (.func 32) [x0, x1, x2, x3] h Q :=
  @fn_enter Try.prog n0 mixed 32 Try.f32 F32.c0 [x0, x1, x2, x3] h Q Try.func32 F32.b F32.k0 F32.b2 115 F32.b3 [.tmp 8, .tmp 9] F32.b4 (by simp) [(0, x0), (1, x1), (2, x2), (3, x3)] rfl (wback F32.d0 w)

/-! roster.rosterlaw02.reads -/
noncomputable def F33.ac : AC := (ann (bodyOf Try.f33) [[0, 1, 2, 3, 4, 5], [0, 3, 4, 5, 14, 15], [0, 3, 4, 5, 14], [0, 3, 4, 5, 14, 35], [0, 3, 4, 5, 14], [12, 13], [3, 5, 14], [0, 3, 4, 5, 14, 37, 38], [3, 5, 14], [0, 3, 4, 5, 14, 37, 38], [0, 3, 4, 5, 14, 37, 38, 39], [0, 3, 4, 5, 14, 37, 38], [0, 3, 4, 5, 14, 37, 38], [0, 3, 4, 5, 14, 37, 38], [0, 3, 4, 5, 14, 37, 38], [0, 3, 4, 5, 14, 16, 37, 38], [0, 3, 4, 5, 14, 16, 37, 38], [0, 3, 4, 5, 14, 16, 37, 38, 42], [0, 3, 4, 5, 14, 16, 37, 38], [12, 13], [0, 3, 4, 5, 14, 16, 37, 38], [0, 3, 4, 5, 14, 16, 37, 38], [0, 3, 4, 5, 14, 16, 37, 38, 52], [0, 3, 4, 5, 14, 16, 37, 38], [12, 13], [0, 3, 4, 5, 14, 16, 17, 18, 37, 38], [0, 3, 4, 5, 14, 16, 17, 18, 19, 37, 38], [0, 3, 4, 5, 14, 16, 17, 18, 19, 20, 21, 37, 38], [0, 3, 4, 5, 14, 16, 17, 18, 19, 20, 21, 22, 23, 37, 38], [0, 3, 4, 5, 14, 16, 17, 18, 19, 20, 21, 22, 23, 24, 25, 37, 38], [0, 3, 4, 5, 14, 16, 19, 20, 21, 22, 23, 24, 25, 26, 37, 38], [0, 3, 4, 5, 14, 26, 37, 38], [0, 3, 4, 5, 14, 26, 37, 38], [0, 3, 4, 5, 14, 16, 19, 20, 21, 22, 23, 24, 25, 26, 37, 38, 123], [0, 3, 4, 5, 14, 16, 19, 20, 21, 22, 23, 24, 25, 26, 37, 38], [0, 3, 4, 5, 14, 16, 19, 22, 23, 24, 25, 26, 37, 38, 149], [0, 3, 4, 5, 14, 16, 19, 22, 23, 24, 25, 26, 37, 38], [0, 3, 4, 5, 14, 16, 19, 24, 25, 26, 37, 38, 176], [0, 3, 4, 5, 14, 16, 19, 24, 25, 26, 37, 38], [0, 3, 4, 5, 14, 16, 19, 37, 38], [0, 3, 4, 5, 14, 16, 19, 37, 38, 104], [0, 3, 4, 5, 14, 16, 19, 37, 38], [12, 13], [0, 3, 4, 5, 14, 37, 38, 208], [0, 3, 4, 5, 14, 37, 38], [12, 13], [12, 13]]).1
noncomputable def F33.c0 : AC := F33.ac
noncomputable def F33.c1 : AC := F33.ac.snd.snd.fst.snd.fst
noncomputable def F33.c2 : AC := F33.ac.snd.snd.snd
noncomputable def F33.c3 : AC := F33.ac.snd.snd.snd.fst.snd.fst.fst
noncomputable def F33.c4 : AC := F33.ac.snd.snd.snd.fst.snd.fst.fst.snd.snd
noncomputable def F33.c5 : AC := F33.ac.snd.snd.snd.fst.snd.fst.fst.snd.snd.fst.fst.snd.fst.snd.fst
noncomputable def F33.c6 : AC := F33.ac.snd.snd.snd.fst.snd.fst.fst.snd.snd.fst.fst.snd.snd
noncomputable def F33.c7 : AC := F33.ac.snd.snd.snd.fst.snd.fst.fst.snd.snd.fst.fst.snd.snd.snd.fst.snd.fst
noncomputable def F33.c8 : AC := F33.ac.snd.snd.snd.fst.snd.fst.fst.snd.snd.fst.fst.snd.snd.snd.snd
noncomputable def F33.c9 : AC := F33.ac.snd.snd.snd.fst.snd.fst.fst.snd.snd.fst.fst.snd.snd.snd.snd.snd.snd.snd.snd.snd.snd.fst.fst.snd.fst
noncomputable def F33.c10 : AC := F33.ac.snd.snd.snd.fst.snd.fst.fst.snd.snd.fst.fst.snd.snd.snd.snd.snd.snd.snd.snd.snd.snd.fst.fst.snd.snd
noncomputable def F33.c11 : AC := F33.ac.snd.snd.snd.fst.snd.fst.fst.snd.snd.fst.fst.snd.snd.snd.snd.snd.snd.snd.snd.snd.snd.fst.fst.snd.snd.snd.fst
noncomputable def F33.c12 : AC := F33.ac.snd.snd.snd.fst.snd.fst.fst.snd.snd.fst.fst.snd.snd.snd.snd.snd.snd.snd.snd.snd.snd.fst.fst.snd.snd.snd.snd
noncomputable def F33.c13 : AC := F33.ac.snd.snd.snd.fst.snd.fst.fst.snd.snd.fst.fst.snd.snd.snd.snd.snd.snd.snd.snd.snd.snd.fst.fst.snd.snd.snd.snd.snd.fst
noncomputable def F33.c14 : AC := F33.ac.snd.snd.snd.fst.snd.fst.fst.snd.snd.fst.fst.snd.snd.snd.snd.snd.snd.snd.snd.snd.snd.fst.fst.snd.snd.snd.snd.snd.snd
noncomputable def F33.c15 : AC := F33.ac.snd.snd.snd.fst.snd.fst.fst.snd.snd.fst.fst.snd.snd.snd.snd.snd.snd.snd.snd.snd.snd.fst.fst.snd.snd.snd.snd.snd.snd.fst.snd.fst
noncomputable def F33.c16 : AC := F33.ac.snd.snd.snd.fst.snd.fst.fst.snd.snd.fst.fst.snd.snd.snd.snd.snd.snd.snd.snd.snd.snd.fst.fst.snd.snd.snd.snd.snd.snd.snd
noncomputable def F33.c17 : AC := F33.ac.snd.snd.snd.fst.snd.fst.fst.snd.snd.fst.fst.snd.snd.snd.snd.snd.snd.snd.snd.snd.snd.snd
noncomputable def F33.c18 : AC := F33.ac.snd.snd.snd.fst.snd.fst.fst.snd.snd.fst.fst.snd.snd.snd.snd.snd.snd.snd.snd.snd.snd.snd.snd.fst
noncomputable def F33.c19 : AC := F33.ac.snd.snd.snd.fst.snd.fst.fst.snd.snd.snd
noncomputable def F33.c20 : AC := F33.ac.snd.snd.snd.snd
noncomputable def F33.p0 (n0 : Nat) : WP := wA Try.prog n0 217 none F33.c0
noncomputable def F33.p1 (n0 : Nat) : WP := wA Try.prog n0 217 none F33.c1
noncomputable def F33.p2 (n0 : Nat) : WP := wA Try.prog n0 217 none F33.c2
noncomputable def F33.p3 (n0 : Nat) : WP := wA Try.prog n0 217 none F33.c3
noncomputable def F33.p4 (n0 : Nat) : WP := wA Try.prog n0 217 none F33.c4
noncomputable def F33.p5 (n0 : Nat) : WP := wA Try.prog n0 217 none F33.c5
noncomputable def F33.p6 (n0 : Nat) : WP := wA Try.prog n0 217 none F33.c6
noncomputable def F33.p7 (n0 : Nat) : WP := wA Try.prog n0 217 none F33.c7
noncomputable def F33.p8 (n0 : Nat) : WP := wA Try.prog n0 217 none F33.c8
noncomputable def F33.p9 (n0 : Nat) : WP := wA Try.prog n0 217 none F33.c9
noncomputable def F33.p10 (n0 : Nat) : WP := wA Try.prog n0 217 none F33.c10
noncomputable def F33.p11 (n0 : Nat) : WP := wA Try.prog n0 217 none F33.c11
noncomputable def F33.p12 (n0 : Nat) : WP := wA Try.prog n0 217 none F33.c12
noncomputable def F33.p13 (n0 : Nat) : WP := wA Try.prog n0 217 none F33.c13
noncomputable def F33.p14 (n0 : Nat) : WP := wA Try.prog n0 217 none F33.c14
noncomputable def F33.p15 (n0 : Nat) : WP := wA Try.prog n0 217 none F33.c15
noncomputable def F33.p16 (n0 : Nat) : WP := wA Try.prog n0 217 none F33.c16
noncomputable def F33.p17 (n0 : Nat) : WP := wA Try.prog n0 217 none F33.c17
noncomputable def F33.p18 (n0 : Nat) : WP := wA Try.prog n0 217 none F33.c18
noncomputable def F33.p19 (n0 : Nat) : WP := wA Try.prog n0 217 none F33.c19
noncomputable def F33.p20 (n0 : Nat) : WP := wA Try.prog n0 217 none F33.c20
noncomputable def F33.t0 (n0 : Nat) (B1 : WP) (B2 : WP) (t0 o1 A2 r3 r4 a5 : Value) (ds : List Nat) (h : H) (K : KP) : Prop :=
  Cn Try.prog n0 (.func 36) [t0, o1, A2] h fun t31 h1 =>
  Bnd (tupAt t31 0) fun t32 =>
  Bnd (tupAt t31 1) fun t33 =>
  Bnd (aBin Try.prog true .neq 27 t33 (.int .i64 0)) fun t35 =>
  Cnd t35
   (B1 [(0, t0), (3, r3), (4, r4), (5, a5), (14, t32)] ds h1 (KSeq [0, 3, 4, 5, 14] B2 K))
   (B2 [(0, t0), (3, r3), (4, r4), (5, a5), (14, t32)] ds h1 K)
theorem F33.g0 {n0 : Nat} (B1 : WP) (B2 : WP) (t0 o1 A2 r3 r4 a5 : Value) {ds : List Nat} {h : H} {K : KP} : wA Try.prog n0 217 none (.seq [0, 1, 2, 3, 4, 5] F33.c0.fst (.seq [0, 3, 4, 5, 14, 15] F33.c0.snd.fst (.seq [0, 3, 4, 5, 14] (.seq [0, 3, 4, 5, 14, 35] F33.c0.snd.snd.fst.fst (.cond [0, 3, 4, 5, 14] (.tmp 35) (.sub B1) F33.c0.snd.snd.fst.snd.snd)) (.sub B2)))) [(0, t0), (1, o1), (2, A2), (3, r3), (4, r4), (5, a5)] ds h K = F33.t0 n0 B1 B2 t0 o1 A2 r3 r4 a5 ds h K := by kernel_rfl
theorem F33.s0 {n0 : Nat} : F33.p0 n0 = wA Try.prog n0 217 none (.seq [0, 1, 2, 3, 4, 5] F33.c0.fst (.seq [0, 3, 4, 5, 14, 15] F33.c0.snd.fst (.seq [0, 3, 4, 5, 14] (.seq [0, 3, 4, 5, 14, 35] F33.c0.snd.snd.fst.fst (.cond [0, 3, 4, 5, 14] (.tmp 35) (.sub (F33.p1 n0)) F33.c0.snd.snd.fst.snd.snd)) (.sub (F33.p2 n0))))) := by kernel_rfl
theorem F33.e0 {n0 : Nat} {t0 o1 A2 r3 r4 a5 : Value} {ds : List Nat} {h : H} {K : KP} : F33.p0 n0 [(0, t0), (1, o1), (2, A2), (3, r3), (4, r4), (5, a5)] ds h K = F33.t0 n0 (F33.p1 n0) (F33.p2 n0) t0 o1 A2 r3 r4 a5 ds h K :=
  wchain (F33.s0) (F33.g0 (F33.p1 n0) (F33.p2 n0) t0 o1 A2 r3 r4 a5)
theorem F33.k0 : F33.c0.ok = true := by kernel_rfl
theorem F33.d0 {n0 : Nat} : F33.p0 n0 = wA Try.prog n0 217 none F33.c0 := by kernel_rfl
theorem F33.m0 (n0 : Nat) : MonoW (F33.p0 n0) := @mono_c Try.prog n0 217 none F33.c0 (F33.p0 n0) (F33.d0) F33.k0
noncomputable def F33.t1 (n0 : Nat) (t0 r3 r4 a5 t14 : Value) (ds : List Nat) (h : H) (K : KP) : Prop :=
  K .ret [(12, (.int .i64 0)), (13, (.bool false))] ds h
theorem F33.g1 {n0 : Nat} (t0 r3 r4 a5 t14 : Value) {ds : List Nat} {h : H} {K : KP} : wA Try.prog n0 217 none F33.c1 [(0, t0), (3, r3), (4, r4), (5, a5), (14, t14)] ds h K = F33.t1 n0 t0 r3 r4 a5 t14 ds h K := by kernel_rfl
theorem F33.s1 {n0 : Nat} : F33.p1 n0 = wA Try.prog n0 217 none F33.c1 := by kernel_rfl
theorem F33.e1 {n0 : Nat} {t0 r3 r4 a5 t14 : Value} {ds : List Nat} {h : H} {K : KP} : F33.p1 n0 [(0, t0), (3, r3), (4, r4), (5, a5), (14, t14)] ds h K = F33.t1 n0 t0 r3 r4 a5 t14 ds h K :=
  wchain (F33.s1) (F33.g1 t0 r3 r4 a5 t14)
noncomputable def F33.t2 (n0 : Nat) (B3 : WP) (B20 : WP) (t0 r3 r4 a5 t14 : Value) (ds : List Nat) (h : H) (K : KP) : Prop :=
  Bnd2 (aBuiltin Try.prog .len #[59] [r3] h) fun t37 h1 =>
  Lp [0, 3, 4, 5, 14, 37, 38] B3 [(0, t0), (3, r3), (4, r4), (5, a5), (14, t14), (37, t37), (38, (.int .i64 0))] ds h1 (KBlk [3, 5, 14] 0 (KSeq [3, 5, 14] B20 K))
theorem F33.g2 {n0 : Nat} (B3 : WP) (B20 : WP) (t0 r3 r4 a5 t14 : Value) {ds : List Nat} {h : H} {K : KP} : wA Try.prog n0 217 none (.seq [3, 5, 14] (.seq [0, 3, 4, 5, 14, 37, 38] F33.c2.fst.fst (.block [3, 5, 14] 0 (.loop [0, 3, 4, 5, 14, 37, 38] (.sub B3)))) (.sub B20)) [(0, t0), (3, r3), (4, r4), (5, a5), (14, t14)] ds h K = F33.t2 n0 B3 B20 t0 r3 r4 a5 t14 ds h K := by kernel_rfl
theorem F33.s2 {n0 : Nat} : F33.p2 n0 = wA Try.prog n0 217 none (.seq [3, 5, 14] (.seq [0, 3, 4, 5, 14, 37, 38] F33.c2.fst.fst (.block [3, 5, 14] 0 (.loop [0, 3, 4, 5, 14, 37, 38] (.sub (F33.p3 n0))))) (.sub (F33.p20 n0))) := by kernel_rfl
theorem F33.e2 {n0 : Nat} {t0 r3 r4 a5 t14 : Value} {ds : List Nat} {h : H} {K : KP} : F33.p2 n0 [(0, t0), (3, r3), (4, r4), (5, a5), (14, t14)] ds h K = F33.t2 n0 (F33.p3 n0) (F33.p20 n0) t0 r3 r4 a5 t14 ds h K :=
  wchain (F33.s2) (F33.g2 (F33.p3 n0) (F33.p20 n0) t0 r3 r4 a5 t14)
noncomputable def F33.t3 (n0 : Nat) (B4 : WP) (t0 r3 r4 a5 t14 t37 t38 : Value) (ds : List Nat) (h : H) (K : KP) : Prop :=
  Bnd (aBin Try.prog false .lss 3 t38 t37) fun t39 =>
  Cnd t39
   (B4 [(0, t0), (3, r3), (4, r4), (5, a5), (14, t14), (37, t37), (38, t38)] ds h K)
   (K (.exit 0) [(0, t0), (3, r3), (4, r4), (5, a5), (14, t14), (37, t37), (38, t38)] ds h)
theorem F33.g3 {n0 : Nat} (B4 : WP) (t0 r3 r4 a5 t14 t37 t38 : Value) {ds : List Nat} {h : H} {K : KP} : wA Try.prog n0 217 none (.seq [0, 3, 4, 5, 14, 37, 38, 39] F33.c3.fst (.seq [0, 3, 4, 5, 14, 37, 38] F33.c3.snd.fst (.sub B4))) [(0, t0), (3, r3), (4, r4), (5, a5), (14, t14), (37, t37), (38, t38)] ds h K = F33.t3 n0 B4 t0 r3 r4 a5 t14 t37 t38 ds h K := by kernel_rfl
theorem F33.s3 {n0 : Nat} : F33.p3 n0 = wA Try.prog n0 217 none (.seq [0, 3, 4, 5, 14, 37, 38, 39] F33.c3.fst (.seq [0, 3, 4, 5, 14, 37, 38] F33.c3.snd.fst (.sub (F33.p4 n0)))) := by kernel_rfl
theorem F33.e3 {n0 : Nat} {t0 r3 r4 a5 t14 t37 t38 : Value} {ds : List Nat} {h : H} {K : KP} : F33.p3 n0 [(0, t0), (3, r3), (4, r4), (5, a5), (14, t14), (37, t37), (38, t38)] ds h K = F33.t3 n0 (F33.p4 n0) t0 r3 r4 a5 t14 t37 t38 ds h K :=
  wchain (F33.s3) (F33.g3 (F33.p4 n0) t0 r3 r4 a5 t14 t37 t38)
theorem F33.k3 : F33.c3.ok = true := by kernel_rfl
theorem F33.d3 {n0 : Nat} : F33.p3 n0 = wA Try.prog n0 217 none F33.c3 := by kernel_rfl
theorem F33.m3 (n0 : Nat) : MonoW (F33.p3 n0) := @mono_c Try.prog n0 217 none F33.c3 (F33.p3 n0) (F33.d3) F33.k3
noncomputable def F33.t4 (n0 : Nat) (B5 : WP) (B6 : WP) (B19 : WP) (t0 r3 r4 a5 t14 t37 t38 : Value) (ds : List Nat) (h : H) (K : KP) : Prop :=
  Bnd (aBin Try.prog true .leq 3 a5 (.int .i64 0)) fun t42 =>
  Cnd t42
   (B5 [(0, t0), (3, r3), (4, r4), (5, a5), (14, t14), (16, t38), (37, t37), (38, t38)] ds h (KSeq [0, 3, 4, 5, 14, 16, 37, 38] B6 (KBlk [0, 3, 4, 5, 14, 37, 38] 1 (KSeq [0, 3, 4, 5, 14, 37, 38] B19 K))))
   (B6 [(0, t0), (3, r3), (4, r4), (5, a5), (14, t14), (16, t38), (37, t37), (38, t38)] ds h (KBlk [0, 3, 4, 5, 14, 37, 38] 1 (KSeq [0, 3, 4, 5, 14, 37, 38] B19 K)))
theorem F33.g4 {n0 : Nat} (B5 : WP) (B6 : WP) (B19 : WP) (t0 r3 r4 a5 t14 t37 t38 : Value) {ds : List Nat} {h : H} {K : KP} : wA Try.prog n0 217 none (.seq [0, 3, 4, 5, 14, 37, 38] (.block [0, 3, 4, 5, 14, 37, 38] 1 (.seq [0, 3, 4, 5, 14, 16, 37, 38] F33.c4.fst.fst.fst (.seq [0, 3, 4, 5, 14, 16, 37, 38] (.seq [0, 3, 4, 5, 14, 16, 37, 38, 42] F33.c4.fst.fst.snd.fst.fst (.cond [0, 3, 4, 5, 14, 16, 37, 38] (.tmp 42) (.sub B5) F33.c4.fst.fst.snd.fst.snd.snd)) (.sub B6)))) (.sub B19)) [(0, t0), (3, r3), (4, r4), (5, a5), (14, t14), (37, t37), (38, t38)] ds h K = F33.t4 n0 B5 B6 B19 t0 r3 r4 a5 t14 t37 t38 ds h K := by kernel_rfl
theorem F33.s4 {n0 : Nat} : F33.p4 n0 = wA Try.prog n0 217 none (.seq [0, 3, 4, 5, 14, 37, 38] (.block [0, 3, 4, 5, 14, 37, 38] 1 (.seq [0, 3, 4, 5, 14, 16, 37, 38] F33.c4.fst.fst.fst (.seq [0, 3, 4, 5, 14, 16, 37, 38] (.seq [0, 3, 4, 5, 14, 16, 37, 38, 42] F33.c4.fst.fst.snd.fst.fst (.cond [0, 3, 4, 5, 14, 16, 37, 38] (.tmp 42) (.sub (F33.p5 n0)) F33.c4.fst.fst.snd.fst.snd.snd)) (.sub (F33.p6 n0))))) (.sub (F33.p19 n0))) := by kernel_rfl
theorem F33.e4 {n0 : Nat} {t0 r3 r4 a5 t14 t37 t38 : Value} {ds : List Nat} {h : H} {K : KP} : F33.p4 n0 [(0, t0), (3, r3), (4, r4), (5, a5), (14, t14), (37, t37), (38, t38)] ds h K = F33.t4 n0 (F33.p5 n0) (F33.p6 n0) (F33.p19 n0) t0 r3 r4 a5 t14 t37 t38 ds h K :=
  wchain (F33.s4) (F33.g4 (F33.p5 n0) (F33.p6 n0) (F33.p19 n0) t0 r3 r4 a5 t14 t37 t38)
noncomputable def F33.t5 (n0 : Nat) (t0 r3 r4 a5 t14 t16 t37 t38 : Value) (ds : List Nat) (h : H) (K : KP) : Prop :=
  Bnd2 (aBuiltin Try.prog .len #[64] [t14] h) fun t44 h1 =>
  Bnd (aBin Try.prog false .eql 3 t44 t16) fun t46 =>
  K .ret [(12, (.int .i64 0)), (13, t46)] ds h1
theorem F33.g5 {n0 : Nat} (t0 r3 r4 a5 t14 t16 t37 t38 : Value) {ds : List Nat} {h : H} {K : KP} : wA Try.prog n0 217 none F33.c5 [(0, t0), (3, r3), (4, r4), (5, a5), (14, t14), (16, t16), (37, t37), (38, t38)] ds h K = F33.t5 n0 t0 r3 r4 a5 t14 t16 t37 t38 ds h K := by kernel_rfl
theorem F33.s5 {n0 : Nat} : F33.p5 n0 = wA Try.prog n0 217 none F33.c5 := by kernel_rfl
theorem F33.e5 {n0 : Nat} {t0 r3 r4 a5 t14 t16 t37 t38 : Value} {ds : List Nat} {h : H} {K : KP} : F33.p5 n0 [(0, t0), (3, r3), (4, r4), (5, a5), (14, t14), (16, t16), (37, t37), (38, t38)] ds h K = F33.t5 n0 t0 r3 r4 a5 t14 t16 t37 t38 ds h K :=
  wchain (F33.s5) (F33.g5 t0 r3 r4 a5 t14 t16 t37 t38)
noncomputable def F33.t6 (n0 : Nat) (B7 : WP) (B8 : WP) (t0 r3 r4 a5 t14 t16 t37 t38 : Value) (ds : List Nat) (h : H) (K : KP) : Prop :=
  Bnd (aBin Try.prog true .sub 3 a5 (.int .i64 1)) fun t48 =>
  Bnd2 (aBuiltin Try.prog .len #[64] [t14] h) fun t51 h1 =>
  Bnd (aBin Try.prog false .geq 3 t16 t51) fun t52 =>
  Cnd t52
   (B7 [(0, t0), (3, r3), (4, r4), (5, t48), (14, t14), (16, t16), (37, t37), (38, t38)] ds h1 (KSeq [0, 3, 4, 5, 14, 16, 37, 38] B8 K))
   (B8 [(0, t0), (3, r3), (4, r4), (5, t48), (14, t14), (16, t16), (37, t37), (38, t38)] ds h1 K)
theorem F33.g6 {n0 : Nat} (B7 : WP) (B8 : WP) (t0 r3 r4 a5 t14 t16 t37 t38 : Value) {ds : List Nat} {h : H} {K : KP} : wA Try.prog n0 217 none (.seq [0, 3, 4, 5, 14, 16, 37, 38] F33.c6.fst (.seq [0, 3, 4, 5, 14, 16, 37, 38] (.seq [0, 3, 4, 5, 14, 16, 37, 38, 52] F33.c6.snd.fst.fst (.cond [0, 3, 4, 5, 14, 16, 37, 38] (.tmp 52) (.sub B7) F33.c6.snd.fst.snd.snd)) (.sub B8))) [(0, t0), (3, r3), (4, r4), (5, a5), (14, t14), (16, t16), (37, t37), (38, t38)] ds h K = F33.t6 n0 B7 B8 t0 r3 r4 a5 t14 t16 t37 t38 ds h K := by kernel_rfl
theorem F33.s6 {n0 : Nat} : F33.p6 n0 = wA Try.prog n0 217 none (.seq [0, 3, 4, 5, 14, 16, 37, 38] F33.c6.fst (.seq [0, 3, 4, 5, 14, 16, 37, 38] (.seq [0, 3, 4, 5, 14, 16, 37, 38, 52] F33.c6.snd.fst.fst (.cond [0, 3, 4, 5, 14, 16, 37, 38] (.tmp 52) (.sub (F33.p7 n0)) F33.c6.snd.fst.snd.snd)) (.sub (F33.p8 n0)))) := by kernel_rfl
theorem F33.e6 {n0 : Nat} {t0 r3 r4 a5 t14 t16 t37 t38 : Value} {ds : List Nat} {h : H} {K : KP} : F33.p6 n0 [(0, t0), (3, r3), (4, r4), (5, a5), (14, t14), (16, t16), (37, t37), (38, t38)] ds h K = F33.t6 n0 (F33.p7 n0) (F33.p8 n0) t0 r3 r4 a5 t14 t16 t37 t38 ds h K :=
  wchain (F33.s6) (F33.g6 (F33.p7 n0) (F33.p8 n0) t0 r3 r4 a5 t14 t16 t37 t38)
noncomputable def F33.t7 (n0 : Nat) (t0 r3 r4 a5 t14 t16 t37 t38 : Value) (ds : List Nat) (h : H) (K : KP) : Prop :=
  K .ret [(12, a5), (13, (.bool false))] ds h
theorem F33.g7 {n0 : Nat} (t0 r3 r4 a5 t14 t16 t37 t38 : Value) {ds : List Nat} {h : H} {K : KP} : wA Try.prog n0 217 none F33.c7 [(0, t0), (3, r3), (4, r4), (5, a5), (14, t14), (16, t16), (37, t37), (38, t38)] ds h K = F33.t7 n0 t0 r3 r4 a5 t14 t16 t37 t38 ds h K := by kernel_rfl
theorem F33.s7 {n0 : Nat} : F33.p7 n0 = wA Try.prog n0 217 none F33.c7 := by kernel_rfl
theorem F33.e7 {n0 : Nat} {t0 r3 r4 a5 t14 t16 t37 t38 : Value} {ds : List Nat} {h : H} {K : KP} : F33.p7 n0 [(0, t0), (3, r3), (4, r4), (5, a5), (14, t14), (16, t16), (37, t37), (38, t38)] ds h K = F33.t7 n0 t0 r3 r4 a5 t14 t16 t37 t38 ds h K :=
  wchain (F33.s7) (F33.g7 t0 r3 r4 a5 t14 t16 t37 t38)
noncomputable def F33.t8 (n0 : Nat) (B9 : WP) (B10 : WP) (B17 : WP) (t0 r3 r4 a5 t14 t16 t37 t38 : Value) (ds : List Nat) (h : H) (K : KP) : Prop :=
  Bnd (aIndexAddr Try.prog 59 r3 t16) fun t57 =>
  Bnd (aLoad Try.prog 98 t57 h) fun t58 =>
  Cn Try.prog n0 (.func 53) [t58] h fun t59 h1 =>
  Bnd (tupAt t59 0) fun t60 =>
  Bnd (tupAt t59 1) fun t61 =>
  Bnd (aIndexAddr Try.prog 64 t14 t16) fun t64 =>
  Bnd (aLoad Try.prog 26 t64 h1) fun t65 =>
  Nw (enc 0 26) (zc Try.prog 26) h1 fun t19 h2 =>
  Bnd (aStore Try.prog 26 t19 t65 h2) fun h3 =>
  Bnd (aLoad Try.prog 26 t19 h3) fun t68 =>
  Cn Try.prog n0 (.func 20) [t0, t68] h3 fun t69 h4 =>
  Bnd (tupAt t69 0) fun t70 =>
  Bnd (tupAt t69 1) fun t71 =>
  Bnd (aLoad Try.prog 26 t19 h4) fun t74 =>
  Cn Try.prog n0 (.func 28) [t0, t74] h4 fun t75 h5 =>
  Bnd (tupAt t75 0) fun t76 =>
  Bnd (tupAt t75 1) fun t77 =>
  Bnd (aLoad Try.prog 26 t19 h5) fun t80 =>
  Cn Try.prog n0 (.func 30) [t0, t80] h5 fun t81 h6 =>
  Bnd (tupAt t81 0) fun t82 =>
  Bnd (tupAt t81 1) fun t83 =>
  Bnd (aFieldAddr Try.prog 26 t19 0) fun t84 =>
  Bnd (aLoad Try.prog 24 t84 h6) fun t85 =>
  Bnd (aBin Try.prog false .eql 24 t85 t60) fun t87 =>
  Gd t87
   (Bnd (aFieldAddr Try.prog 26 t19 2) fun t89 =>
  Bnd (aLoad Try.prog 3 t89 h6) fun t90 =>
  Bnd (aBin Try.prog false .eql 3 t90 t61) fun t92 =>
  Bnd (aIndexAddr Try.prog 59 r3 t16) fun t126 =>
  Bnd (aFieldAddr Try.prog 98 t126 0) fun t127 =>
  Bnd (aLoad Try.prog 3 t127 h6) fun t128 =>
  Bnd (aBin Try.prog true .eql 3 t128 (.int .i64 0)) fun t129 =>
  Cnd t129
   (B9 [(0, t0), (3, r3), (4, r4), (5, a5), (14, t14), (16, t16), (19, t19), (20, t70), (21, t71), (22, t76), (23, t77), (24, t82), (25, t83), (26, t92), (37, t37), (38, t38)] ds h6 (KBlk [0, 3, 4, 5, 14, 26, 37, 38] 2 (KSeq [0, 3, 4, 5, 14, 26, 37, 38] B17 K)))
   (B10 [(0, t0), (3, r3), (4, r4), (5, a5), (14, t14), (16, t16), (19, t19), (20, t70), (21, t71), (22, t76), (23, t77), (24, t82), (25, t83), (26, t92), (37, t37), (38, t38)] ds h6 (KBlk [0, 3, 4, 5, 14, 26, 37, 38] 2 (KSeq [0, 3, 4, 5, 14, 26, 37, 38] B17 K))))
   (Bnd (aIndexAddr Try.prog 59 r3 t16) fun t126 =>
  Bnd (aFieldAddr Try.prog 98 t126 0) fun t127 =>
  Bnd (aLoad Try.prog 3 t127 h6) fun t128 =>
  Bnd (aBin Try.prog true .eql 3 t128 (.int .i64 0)) fun t129 =>
  Cnd t129
   (B9 [(0, t0), (3, r3), (4, r4), (5, a5), (14, t14), (16, t16), (19, t19), (20, t70), (21, t71), (22, t76), (23, t77), (24, t82), (25, t83), (26, (.bool false)), (37, t37), (38, t38)] ds h6 (KBlk [0, 3, 4, 5, 14, 26, 37, 38] 2 (KSeq [0, 3, 4, 5, 14, 26, 37, 38] B17 K)))
   (B10 [(0, t0), (3, r3), (4, r4), (5, a5), (14, t14), (16, t16), (19, t19), (20, t70), (21, t71), (22, t76), (23, t77), (24, t82), (25, t83), (26, (.bool false)), (37, t37), (38, t38)] ds h6 (KBlk [0, 3, 4, 5, 14, 26, 37, 38] 2 (KSeq [0, 3, 4, 5, 14, 26, 37, 38] B17 K))))
theorem F33.g8 {n0 : Nat} (B9 : WP) (B10 : WP) (B17 : WP) (t0 r3 r4 a5 t14 t16 t37 t38 : Value) {ds : List Nat} {h : H} {K : KP} : wA Try.prog n0 217 none (.seq [0, 3, 4, 5, 14, 16, 17, 18, 37, 38] F33.c8.fst (.seq [0, 3, 4, 5, 14, 16, 17, 18, 19, 37, 38] F33.c8.snd.fst (.seq [0, 3, 4, 5, 14, 16, 17, 18, 19, 20, 21, 37, 38] F33.c8.snd.snd.fst (.seq [0, 3, 4, 5, 14, 16, 17, 18, 19, 20, 21, 22, 23, 37, 38] F33.c8.snd.snd.snd.fst (.seq [0, 3, 4, 5, 14, 16, 17, 18, 19, 20, 21, 22, 23, 24, 25, 37, 38] F33.c8.snd.snd.snd.snd.fst (.seq [0, 3, 4, 5, 14, 16, 19, 20, 21, 22, 23, 24, 25, 26, 37, 38] F33.c8.snd.snd.snd.snd.snd.fst (.seq [0, 3, 4, 5, 14, 26, 37, 38] (.block [0, 3, 4, 5, 14, 26, 37, 38] 2 (.seq [0, 3, 4, 5, 14, 16, 19, 20, 21, 22, 23, 24, 25, 26, 37, 38, 123] F33.c8.snd.snd.snd.snd.snd.snd.fst.fst.fst (.cond [0, 3, 4, 5, 14, 16, 19, 20, 21, 22, 23, 24, 25, 26, 37, 38] (.tmp 123) (.sub B9) (.sub B10)))) (.sub B17)))))))) [(0, t0), (3, r3), (4, r4), (5, a5), (14, t14), (16, t16), (37, t37), (38, t38)] ds h K = F33.t8 n0 B9 B10 B17 t0 r3 r4 a5 t14 t16 t37 t38 ds h K := by kernel_rfl
theorem F33.s8 {n0 : Nat} : F33.p8 n0 = wA Try.prog n0 217 none (.seq [0, 3, 4, 5, 14, 16, 17, 18, 37, 38] F33.c8.fst (.seq [0, 3, 4, 5, 14, 16, 17, 18, 19, 37, 38] F33.c8.snd.fst (.seq [0, 3, 4, 5, 14, 16, 17, 18, 19, 20, 21, 37, 38] F33.c8.snd.snd.fst (.seq [0, 3, 4, 5, 14, 16, 17, 18, 19, 20, 21, 22, 23, 37, 38] F33.c8.snd.snd.snd.fst (.seq [0, 3, 4, 5, 14, 16, 17, 18, 19, 20, 21, 22, 23, 24, 25, 37, 38] F33.c8.snd.snd.snd.snd.fst (.seq [0, 3, 4, 5, 14, 16, 19, 20, 21, 22, 23, 24, 25, 26, 37, 38] F33.c8.snd.snd.snd.snd.snd.fst (.seq [0, 3, 4, 5, 14, 26, 37, 38] (.block [0, 3, 4, 5, 14, 26, 37, 38] 2 (.seq [0, 3, 4, 5, 14, 16, 19, 20, 21, 22, 23, 24, 25, 26, 37, 38, 123] F33.c8.snd.snd.snd.snd.snd.snd.fst.fst.fst (.cond [0, 3, 4, 5, 14, 16, 19, 20, 21, 22, 23, 24, 25, 26, 37, 38] (.tmp 123) (.sub (F33.p9 n0)) (.sub (F33.p10 n0))))) (.sub (F33.p17 n0))))))))) := by kernel_rfl
theorem F33.e8 {n0 : Nat} {t0 r3 r4 a5 t14 t16 t37 t38 : Value} {ds : List Nat} {h : H} {K : KP} : F33.p8 n0 [(0, t0), (3, r3), (4, r4), (5, a5), (14, t14), (16, t16), (37, t37), (38, t38)] ds h K = F33.t8 n0 (F33.p9 n0) (F33.p10 n0) (F33.p17 n0) t0 r3 r4 a5 t14 t16 t37 t38 ds h K :=
  wchain (F33.s8) (F33.g8 (F33.p9 n0) (F33.p10 n0) (F33.p17 n0) t0 r3 r4 a5 t14 t16 t37 t38)
noncomputable def F33.t9 (n0 : Nat) (t0 r3 r4 a5 t14 t16 t19 t20 t21 t22 t23 t24 t25 t26 t37 t38 : Value) (ds : List Nat) (h : H) (K : KP) : Prop :=
  Gd t26
   (Bnd (aBin Try.prog true .eql 27 t21 (.int .i64 0)) fun t133 =>
  Gd t133
   (Bnd (aIndexAddr Try.prog 59 r3 t16) fun t139 =>
  Bnd (aFieldAddr Try.prog 98 t139 3) fun t140 =>
  Bnd (aLoad Try.prog 2 t140 h) fun t141 =>
  Bnd (aBin Try.prog false .eql 2 t20 t141) fun t142 =>
  Gd t142
   (Bnd (aFieldAddr Try.prog 26 t19 1) fun t145 =>
  Bnd (aLoad Try.prog 4 t145 h) fun t146 =>
  Bnd (aUn .not t146) fun t147 =>
  K .normal [(0, t0), (3, r3), (4, r4), (5, a5), (14, t14), (16, t16), (19, t19), (20, t20), (21, t21), (22, t22), (23, t23), (24, t24), (25, t25), (26, t147), (37, t37), (38, t38), (130, t26), (131, (.bool true)), (132, t21), (133, t133), (134, t133), (135, (.bool true)), (136, t20), (137, r3), (138, t16), (139, t139), (140, t140), (141, t141), (142, t142), (143, t142), (144, (.bool true)), (145, t145), (146, t146), (147, t147), (148, t147)] ds h)
   (K .normal [(0, t0), (3, r3), (4, r4), (5, a5), (14, t14), (16, t16), (19, t19), (20, t20), (21, t21), (22, t22), (23, t23), (24, t24), (25, t25), (26, (.bool false)), (37, t37), (38, t38), (130, t26), (131, (.bool true)), (132, t21), (133, t133), (134, t133), (135, (.bool true)), (136, t20), (137, r3), (138, t16), (139, t139), (140, t140), (141, t141), (142, t142), (143, t142), (144, (.bool false)), (145, undef), (146, undef), (147, undef), (148, (.bool false))] ds h))
   (K .normal [(0, t0), (3, r3), (4, r4), (5, a5), (14, t14), (16, t16), (19, t19), (20, t20), (21, t21), (22, t22), (23, t23), (24, t24), (25, t25), (26, (.bool false)), (37, t37), (38, t38), (130, t26), (131, (.bool true)), (132, t21), (133, t133), (134, t133), (135, (.bool false)), (136, undef), (137, undef), (138, undef), (139, undef), (140, undef), (141, undef), (142, undef), (143, (.bool false)), (144, (.bool false)), (145, undef), (146, undef), (147, undef), (148, (.bool false))] ds h))
   (K .normal [(0, t0), (3, r3), (4, r4), (5, a5), (14, t14), (16, t16), (19, t19), (20, t20), (21, t21), (22, t22), (23, t23), (24, t24), (25, t25), (26, (.bool false)), (37, t37), (38, t38), (130, t26), (131, (.bool false)), (132, undef), (133, undef), (134, (.bool false)), (135, (.bool false)), (136, undef), (137, undef), (138, undef), (139, undef), (140, undef), (141, undef), (142, undef), (143, (.bool false)), (144, (.bool false)), (145, undef), (146, undef), (147, undef), (148, (.bool false))] ds h)
theorem F33.g9 {n0 : Nat} (t0 r3 r4 a5 t14 t16 t19 t20 t21 t22 t23 t24 t25 t26 t37 t38 : Value) {ds : List Nat} {h : H} {K : KP} : wA Try.prog n0 217 none F33.c9 [(0, t0), (3, r3), (4, r4), (5, a5), (14, t14), (16, t16), (19, t19), (20, t20), (21, t21), (22, t22), (23, t23), (24, t24), (25, t25), (26, t26), (37, t37), (38, t38)] ds h K = F33.t9 n0 t0 r3 r4 a5 t14 t16 t19 t20 t21 t22 t23 t24 t25 t26 t37 t38 ds h K := by kernel_rfl
theorem F33.s9 {n0 : Nat} : F33.p9 n0 = wA Try.prog n0 217 none F33.c9 := by kernel_rfl
theorem F33.e9 {n0 : Nat} {t0 r3 r4 a5 t14 t16 t19 t20 t21 t22 t23 t24 t25 t26 t37 t38 : Value} {ds : List Nat} {h : H} {K : KP} : F33.p9 n0 [(0, t0), (3, r3), (4, r4), (5, a5), (14, t14), (16, t16), (19, t19), (20, t20), (21, t21), (22, t22), (23, t23), (24, t24), (25, t25), (26, t26), (37, t37), (38, t38)] ds h K = F33.t9 n0 t0 r3 r4 a5 t14 t16 t19 t20 t21 t22 t23 t24 t25 t26 t37 t38 ds h K :=
  wchain (F33.s9) (F33.g9 t0 r3 r4 a5 t14 t16 t19 t20 t21 t22 t23 t24 t25 t26 t37 t38)
noncomputable def F33.t10 (n0 : Nat) (B11 : WP) (B12 : WP) (t0 r3 r4 a5 t14 t16 t19 t20 t21 t22 t23 t24 t25 t26 t37 t38 : Value) (ds : List Nat) (h : H) (K : KP) : Prop :=
  Bnd (aIndexAddr Try.prog 59 r3 t16) fun t152 =>
  Bnd (aFieldAddr Try.prog 98 t152 0) fun t153 =>
  Bnd (aLoad Try.prog 3 t153 h) fun t154 =>
  Bnd (aBin Try.prog true .eql 3 t154 (.int .i64 1)) fun t155 =>
  Cnd t155
   (B11 [(0, t0), (3, r3), (4, r4), (5, a5), (14, t14), (16, t16), (19, t19), (22, t22), (23, t23), (24, t24), (25, t25), (26, t26), (37, t37), (38, t38)] ds h K)
   (B12 [(0, t0), (3, r3), (4, r4), (5, a5), (14, t14), (16, t16), (19, t19), (22, t22), (23, t23), (24, t24), (25, t25), (26, t26), (37, t37), (38, t38)] ds h K)
theorem F33.g10 {n0 : Nat} (B11 : WP) (B12 : WP) (t0 r3 r4 a5 t14 t16 t19 t20 t21 t22 t23 t24 t25 t26 t37 t38 : Value) {ds : List Nat} {h : H} {K : KP} : wA Try.prog n0 217 none (.seq [0, 3, 4, 5, 14, 16, 19, 22, 23, 24, 25, 26, 37, 38, 149] F33.c10.fst (.cond [0, 3, 4, 5, 14, 16, 19, 22, 23, 24, 25, 26, 37, 38] (.tmp 149) (.sub B11) (.sub B12))) [(0, t0), (3, r3), (4, r4), (5, a5), (14, t14), (16, t16), (19, t19), (20, t20), (21, t21), (22, t22), (23, t23), (24, t24), (25, t25), (26, t26), (37, t37), (38, t38)] ds h K = F33.t10 n0 B11 B12 t0 r3 r4 a5 t14 t16 t19 t20 t21 t22 t23 t24 t25 t26 t37 t38 ds h K := by kernel_rfl
theorem F33.s10 {n0 : Nat} : F33.p10 n0 = wA Try.prog n0 217 none (.seq [0, 3, 4, 5, 14, 16, 19, 22, 23, 24, 25, 26, 37, 38, 149] F33.c10.fst (.cond [0, 3, 4, 5, 14, 16, 19, 22, 23, 24, 25, 26, 37, 38] (.tmp 149) (.sub (F33.p11 n0)) (.sub (F33.p12 n0)))) := by kernel_rfl
theorem F33.e10 {n0 : Nat} {t0 r3 r4 a5 t14 t16 t19 t20 t21 t22 t23 t24 t25 t26 t37 t38 : Value} {ds : List Nat} {h : H} {K : KP} : F33.p10 n0 [(0, t0), (3, r3), (4, r4), (5, a5), (14, t14), (16, t16), (19, t19), (20, t20), (21, t21), (22, t22), (23, t23), (24, t24), (25, t25), (26, t26), (37, t37), (38, t38)] ds h K = F33.t10 n0 (F33.p11 n0) (F33.p12 n0) t0 r3 r4 a5 t14 t16 t19 t20 t21 t22 t23 t24 t25 t26 t37 t38 ds h K :=
  wchain (F33.s10) (F33.g10 (F33.p11 n0) (F33.p12 n0) t0 r3 r4 a5 t14 t16 t19 t20 t21 t22 t23 t24 t25 t26 t37 t38)
noncomputable def F33.t11 (n0 : Nat) (t0 r3 r4 a5 t14 t16 t19 t22 t23 t24 t25 t26 t37 t38 : Value) (ds : List Nat) (h : H) (K : KP) : Prop :=
  Gd t26
   (Bnd (aBin Try.prog true .eql 27 t23 (.int .i64 0)) fun t159 =>
  Gd t159
   (Bnd (aIndexAddr Try.prog 59 r3 t16) fun t165 =>
  Bnd (aFieldAddr Try.prog 98 t165 3) fun t166 =>
  Bnd (aLoad Try.prog 2 t166 h) fun t167 =>
  Bnd (aBin Try.prog true .gtr 2 t167 (.int .i64 0)) fun t168 =>
  Bnd (aBin Try.prog false .eql 4 t22 t168) fun t169 =>
  Gd t169
   (Bnd (aFieldAddr Try.prog 26 t19 1) fun t172 =>
  Bnd (aLoad Try.prog 4 t172 h) fun t173 =>
  Bnd (aUn .not t173) fun t174 =>
  K .normal [(0, t0), (3, r3), (4, r4), (5, a5), (14, t14), (16, t16), (19, t19), (22, t22), (23, t23), (24, t24), (25, t25), (26, t174), (37, t37), (38, t38), (156, t26), (157, (.bool true)), (158, t23), (159, t159), (160, t159), (161, (.bool true)), (162, t22), (163, r3), (164, t16), (165, t165), (166, t166), (167, t167), (168, t168), (169, t169), (170, t169), (171, (.bool true)), (172, t172), (173, t173), (174, t174), (175, t174)] ds h)
   (K .normal [(0, t0), (3, r3), (4, r4), (5, a5), (14, t14), (16, t16), (19, t19), (22, t22), (23, t23), (24, t24), (25, t25), (26, (.bool false)), (37, t37), (38, t38), (156, t26), (157, (.bool true)), (158, t23), (159, t159), (160, t159), (161, (.bool true)), (162, t22), (163, r3), (164, t16), (165, t165), (166, t166), (167, t167), (168, t168), (169, t169), (170, t169), (171, (.bool false)), (172, undef), (173, undef), (174, undef), (175, (.bool false))] ds h))
   (K .normal [(0, t0), (3, r3), (4, r4), (5, a5), (14, t14), (16, t16), (19, t19), (22, t22), (23, t23), (24, t24), (25, t25), (26, (.bool false)), (37, t37), (38, t38), (156, t26), (157, (.bool true)), (158, t23), (159, t159), (160, t159), (161, (.bool false)), (162, undef), (163, undef), (164, undef), (165, undef), (166, undef), (167, undef), (168, undef), (169, undef), (170, (.bool false)), (171, (.bool false)), (172, undef), (173, undef), (174, undef), (175, (.bool false))] ds h))
   (K .normal [(0, t0), (3, r3), (4, r4), (5, a5), (14, t14), (16, t16), (19, t19), (22, t22), (23, t23), (24, t24), (25, t25), (26, (.bool false)), (37, t37), (38, t38), (156, t26), (157, (.bool false)), (158, undef), (159, undef), (160, (.bool false)), (161, (.bool false)), (162, undef), (163, undef), (164, undef), (165, undef), (166, undef), (167, undef), (168, undef), (169, undef), (170, (.bool false)), (171, (.bool false)), (172, undef), (173, undef), (174, undef), (175, (.bool false))] ds h)
theorem F33.g11 {n0 : Nat} (t0 r3 r4 a5 t14 t16 t19 t22 t23 t24 t25 t26 t37 t38 : Value) {ds : List Nat} {h : H} {K : KP} : wA Try.prog n0 217 none F33.c11 [(0, t0), (3, r3), (4, r4), (5, a5), (14, t14), (16, t16), (19, t19), (22, t22), (23, t23), (24, t24), (25, t25), (26, t26), (37, t37), (38, t38)] ds h K = F33.t11 n0 t0 r3 r4 a5 t14 t16 t19 t22 t23 t24 t25 t26 t37 t38 ds h K := by kernel_rfl
theorem F33.s11 {n0 : Nat} : F33.p11 n0 = wA Try.prog n0 217 none F33.c11 := by kernel_rfl
theorem F33.e11 {n0 : Nat} {t0 r3 r4 a5 t14 t16 t19 t22 t23 t24 t25 t26 t37 t38 : Value} {ds : List Nat} {h : H} {K : KP} : F33.p11 n0 [(0, t0), (3, r3), (4, r4), (5, a5), (14, t14), (16, t16), (19, t19), (22, t22), (23, t23), (24, t24), (25, t25), (26, t26), (37, t37), (38, t38)] ds h K = F33.t11 n0 t0 r3 r4 a5 t14 t16 t19 t22 t23 t24 t25 t26 t37 t38 ds h K :=
  wchain (F33.s11) (F33.g11 t0 r3 r4 a5 t14 t16 t19 t22 t23 t24 t25 t26 t37 t38)
noncomputable def F33.t12 (n0 : Nat) (B13 : WP) (B14 : WP) (t0 r3 r4 a5 t14 t16 t19 t22 t23 t24 t25 t26 t37 t38 : Value) (ds : List Nat) (h : H) (K : KP) : Prop :=
  Bnd (aIndexAddr Try.prog 59 r3 t16) fun t179 =>
  Bnd (aFieldAddr Try.prog 98 t179 0) fun t180 =>
  Bnd (aLoad Try.prog 3 t180 h) fun t181 =>
  Bnd (aBin Try.prog true .eql 3 t181 (.int .i64 2)) fun t182 =>
  Gd t182
   (B13 [(0, t0), (3, r3), (4, r4), (5, a5), (14, t14), (16, t16), (19, t19), (24, t24), (25, t25), (26, t26), (37, t37), (38, t38)] ds h K)
   (Bnd (aBin Try.prog true .geq 3 r4 (.int .i64 60)) fun t185 =>
  Cnd t185
   (B13 [(0, t0), (3, r3), (4, r4), (5, a5), (14, t14), (16, t16), (19, t19), (24, t24), (25, t25), (26, t26), (37, t37), (38, t38)] ds h K)
   (B14 [(0, t0), (3, r3), (4, r4), (5, a5), (14, t14), (16, t16), (19, t19), (24, t24), (25, t25), (26, t26), (37, t37), (38, t38)] ds h K))
theorem F33.g12 {n0 : Nat} (B13 : WP) (B14 : WP) (t0 r3 r4 a5 t14 t16 t19 t22 t23 t24 t25 t26 t37 t38 : Value) {ds : List Nat} {h : H} {K : KP} : wA Try.prog n0 217 none (.seq [0, 3, 4, 5, 14, 16, 19, 24, 25, 26, 37, 38, 176] F33.c12.fst (.cond [0, 3, 4, 5, 14, 16, 19, 24, 25, 26, 37, 38] (.tmp 176) (.sub B13) (.sub B14))) [(0, t0), (3, r3), (4, r4), (5, a5), (14, t14), (16, t16), (19, t19), (22, t22), (23, t23), (24, t24), (25, t25), (26, t26), (37, t37), (38, t38)] ds h K = F33.t12 n0 B13 B14 t0 r3 r4 a5 t14 t16 t19 t22 t23 t24 t25 t26 t37 t38 ds h K := by kernel_rfl
theorem F33.s12 {n0 : Nat} : F33.p12 n0 = wA Try.prog n0 217 none (.seq [0, 3, 4, 5, 14, 16, 19, 24, 25, 26, 37, 38, 176] F33.c12.fst (.cond [0, 3, 4, 5, 14, 16, 19, 24, 25, 26, 37, 38] (.tmp 176) (.sub (F33.p13 n0)) (.sub (F33.p14 n0)))) := by kernel_rfl
theorem F33.e12 {n0 : Nat} {t0 r3 r4 a5 t14 t16 t19 t22 t23 t24 t25 t26 t37 t38 : Value} {ds : List Nat} {h : H} {K : KP} : F33.p12 n0 [(0, t0), (3, r3), (4, r4), (5, a5), (14, t14), (16, t16), (19, t19), (22, t22), (23, t23), (24, t24), (25, t25), (26, t26), (37, t37), (38, t38)] ds h K = F33.t12 n0 (F33.p13 n0) (F33.p14 n0) t0 r3 r4 a5 t14 t16 t19 t22 t23 t24 t25 t26 t37 t38 ds h K :=
  wchain (F33.s12) (F33.g12 (F33.p13 n0) (F33.p14 n0) t0 r3 r4 a5 t14 t16 t19 t22 t23 t24 t25 t26 t37 t38)
noncomputable def F33.t13 (n0 : Nat) (t0 r3 r4 a5 t14 t16 t19 t24 t25 t26 t37 t38 : Value) (ds : List Nat) (h : H) (K : KP) : Prop :=
  Gd t26
   (Bnd (aBin Try.prog true .eql 27 t25 (.int .i64 0)) fun t190 =>
  Gd t190
   (Bnd (aIndexAddr Try.prog 59 r3 t16) fun t196 =>
  Bnd (aFieldAddr Try.prog 98 t196 4) fun t197 =>
  Bnd (aLoad Try.prog 9 t197 h) fun t198 =>
  Cn Try.prog n0 (.func 54) [t198] h fun t199 h1 =>
  Bnd (aBin Try.prog false .eql 9 t24 t199) fun t200 =>
  Gd t200
   (Bnd (aFieldAddr Try.prog 26 t19 1) fun t203 =>
  Bnd (aLoad Try.prog 4 t203 h1) fun t204 =>
  Bnd (aUn .not t204) fun t205 =>
  K .normal [(0, t0), (3, r3), (4, r4), (5, a5), (14, t14), (16, t16), (19, t19), (24, t24), (25, t25), (26, t205), (37, t37), (38, t38), (187, t26), (188, (.bool true)), (189, t25), (190, t190), (191, t190), (192, (.bool true)), (193, t24), (194, r3), (195, t16), (196, t196), (197, t197), (198, t198), (199, t199), (200, t200), (201, t200), (202, (.bool true)), (203, t203), (204, t204), (205, t205), (206, t205)] ds h1)
   (K .normal [(0, t0), (3, r3), (4, r4), (5, a5), (14, t14), (16, t16), (19, t19), (24, t24), (25, t25), (26, (.bool false)), (37, t37), (38, t38), (187, t26), (188, (.bool true)), (189, t25), (190, t190), (191, t190), (192, (.bool true)), (193, t24), (194, r3), (195, t16), (196, t196), (197, t197), (198, t198), (199, t199), (200, t200), (201, t200), (202, (.bool false)), (203, undef), (204, undef), (205, undef), (206, (.bool false))] ds h1))
   (K .normal [(0, t0), (3, r3), (4, r4), (5, a5), (14, t14), (16, t16), (19, t19), (24, t24), (25, t25), (26, (.bool false)), (37, t37), (38, t38), (187, t26), (188, (.bool true)), (189, t25), (190, t190), (191, t190), (192, (.bool false)), (193, undef), (194, undef), (195, undef), (196, undef), (197, undef), (198, undef), (199, undef), (200, undef), (201, (.bool false)), (202, (.bool false)), (203, undef), (204, undef), (205, undef), (206, (.bool false))] ds h))
   (K .normal [(0, t0), (3, r3), (4, r4), (5, a5), (14, t14), (16, t16), (19, t19), (24, t24), (25, t25), (26, (.bool false)), (37, t37), (38, t38), (187, t26), (188, (.bool false)), (189, undef), (190, undef), (191, (.bool false)), (192, (.bool false)), (193, undef), (194, undef), (195, undef), (196, undef), (197, undef), (198, undef), (199, undef), (200, undef), (201, (.bool false)), (202, (.bool false)), (203, undef), (204, undef), (205, undef), (206, (.bool false))] ds h)
theorem F33.g13 {n0 : Nat} (t0 r3 r4 a5 t14 t16 t19 t24 t25 t26 t37 t38 : Value) {ds : List Nat} {h : H} {K : KP} : wA Try.prog n0 217 none F33.c13 [(0, t0), (3, r3), (4, r4), (5, a5), (14, t14), (16, t16), (19, t19), (24, t24), (25, t25), (26, t26), (37, t37), (38, t38)] ds h K = F33.t13 n0 t0 r3 r4 a5 t14 t16 t19 t24 t25 t26 t37 t38 ds h K := by kernel_rfl
theorem F33.s13 {n0 : Nat} : F33.p13 n0 = wA Try.prog n0 217 none F33.c13 := by kernel_rfl
theorem F33.e13 {n0 : Nat} {t0 r3 r4 a5 t14 t16 t19 t24 t25 t26 t37 t38 : Value} {ds : List Nat} {h : H} {K : KP} : F33.p13 n0 [(0, t0), (3, r3), (4, r4), (5, a5), (14, t14), (16, t16), (19, t19), (24, t24), (25, t25), (26, t26), (37, t37), (38, t38)] ds h K = F33.t13 n0 t0 r3 r4 a5 t14 t16 t19 t24 t25 t26 t37 t38 ds h K :=
  wchain (F33.s13) (F33.g13 t0 r3 r4 a5 t14 t16 t19 t24 t25 t26 t37 t38)
noncomputable def F33.t14 (n0 : Nat) (B15 : WP) (B16 : WP) (t0 r3 r4 a5 t14 t16 t19 t24 t25 t26 t37 t38 : Value) (ds : List Nat) (h : H) (K : KP) : Prop :=
  Bnd (aUn .not t26) fun t95 =>
  Gd t95
   (B15 [(0, t0), (3, r3), (4, r4), (5, a5), (14, t14), (16, t16), (19, t19), (37, t37), (38, t38)] ds h (KSeq [0, 3, 4, 5, 14, 16, 19, 37, 38] B16 K))
   (Bnd (aFieldAddr Try.prog 26 t19 1) fun t97 =>
  Bnd (aLoad Try.prog 4 t97 h) fun t98 =>
  Bnd (aUn .not t98) fun t99 =>
  Gd t99
   (B15 [(0, t0), (3, r3), (4, r4), (5, a5), (14, t14), (16, t16), (19, t19), (37, t37), (38, t38)] ds h (KSeq [0, 3, 4, 5, 14, 16, 19, 37, 38] B16 K))
   (Bnd (aBin Try.prog true .neq 27 t25 (.int .i64 20)) fun t103 =>
  Cnd t103
   (B15 [(0, t0), (3, r3), (4, r4), (5, a5), (14, t14), (16, t16), (19, t19), (37, t37), (38, t38)] ds h (KSeq [0, 3, 4, 5, 14, 16, 19, 37, 38] B16 K))
   (B16 [(0, t0), (3, r3), (4, r4), (5, a5), (14, t14), (16, t16), (19, t19), (37, t37), (38, t38)] ds h K)))
theorem F33.g14 {n0 : Nat} (B15 : WP) (B16 : WP) (t0 r3 r4 a5 t14 t16 t19 t24 t25 t26 t37 t38 : Value) {ds : List Nat} {h : H} {K : KP} : wA Try.prog n0 217 none (.seq [0, 3, 4, 5, 14, 16, 19, 37, 38] (.seq [0, 3, 4, 5, 14, 16, 19, 37, 38, 104] F33.c14.fst.fst (.cond [0, 3, 4, 5, 14, 16, 19, 37, 38] (.tmp 104) (.sub B15) F33.c14.fst.snd.snd)) (.sub B16)) [(0, t0), (3, r3), (4, r4), (5, a5), (14, t14), (16, t16), (19, t19), (24, t24), (25, t25), (26, t26), (37, t37), (38, t38)] ds h K = F33.t14 n0 B15 B16 t0 r3 r4 a5 t14 t16 t19 t24 t25 t26 t37 t38 ds h K := by kernel_rfl
theorem F33.s14 {n0 : Nat} : F33.p14 n0 = wA Try.prog n0 217 none (.seq [0, 3, 4, 5, 14, 16, 19, 37, 38] (.seq [0, 3, 4, 5, 14, 16, 19, 37, 38, 104] F33.c14.fst.fst (.cond [0, 3, 4, 5, 14, 16, 19, 37, 38] (.tmp 104) (.sub (F33.p15 n0)) F33.c14.fst.snd.snd)) (.sub (F33.p16 n0))) := by kernel_rfl
theorem F33.e14 {n0 : Nat} {t0 r3 r4 a5 t14 t16 t19 t24 t25 t26 t37 t38 : Value} {ds : List Nat} {h : H} {K : KP} : F33.p14 n0 [(0, t0), (3, r3), (4, r4), (5, a5), (14, t14), (16, t16), (19, t19), (24, t24), (25, t25), (26, t26), (37, t37), (38, t38)] ds h K = F33.t14 n0 (F33.p15 n0) (F33.p16 n0) t0 r3 r4 a5 t14 t16 t19 t24 t25 t26 t37 t38 ds h K :=
  wchain (F33.s14) (F33.g14 (F33.p15 n0) (F33.p16 n0) t0 r3 r4 a5 t14 t16 t19 t24 t25 t26 t37 t38)
noncomputable def F33.t15 (n0 : Nat) (t0 r3 r4 a5 t14 t16 t19 t37 t38 : Value) (ds : List Nat) (h : H) (K : KP) : Prop :=
  K .ret [(12, a5), (13, (.bool false))] ds h
theorem F33.g15 {n0 : Nat} (t0 r3 r4 a5 t14 t16 t19 t37 t38 : Value) {ds : List Nat} {h : H} {K : KP} : wA Try.prog n0 217 none F33.c15 [(0, t0), (3, r3), (4, r4), (5, a5), (14, t14), (16, t16), (19, t19), (37, t37), (38, t38)] ds h K = F33.t15 n0 t0 r3 r4 a5 t14 t16 t19 t37 t38 ds h K := by kernel_rfl
theorem F33.s15 {n0 : Nat} : F33.p15 n0 = wA Try.prog n0 217 none F33.c15 := by kernel_rfl
theorem F33.e15 {n0 : Nat} {t0 r3 r4 a5 t14 t16 t19 t37 t38 : Value} {ds : List Nat} {h : H} {K : KP} : F33.p15 n0 [(0, t0), (3, r3), (4, r4), (5, a5), (14, t14), (16, t16), (19, t19), (37, t37), (38, t38)] ds h K = F33.t15 n0 t0 r3 r4 a5 t14 t16 t19 t37 t38 ds h K :=
  wchain (F33.s15) (F33.g15 t0 r3 r4 a5 t14 t16 t19 t37 t38)
noncomputable def F33.t16 (n0 : Nat) (t0 r3 r4 a5 t14 t16 t19 t37 t38 : Value) (ds : List Nat) (h : H) (K : KP) : Prop :=
  Bnd (aFieldAddr Try.prog 26 t19 3) fun t108 =>
  Bnd (aLoad Try.prog 3 t108 h) fun t109 =>
  Bnd (aFieldAddr Try.prog 26 t19 4) fun t110 =>
  Bnd (aLoad Try.prog 3 t110 h) fun t111 =>
  Bnd (aIndexAddr Try.prog 59 r3 t16) fun t114 =>
  Bnd (aFieldAddr Try.prog 98 t114 5) fun t115 =>
  Bnd (aLoad Try.prog 59 t115 h) fun t116 =>
  Bnd (aBin Try.prog true .add 3 r4 (.int .i64 1)) fun t118 =>
  Cn Try.prog n0 (.func 33) [t0, t109, t111, t116, t118, a5] h fun t120 h1 =>
  Bnd (tupAt t120 0) fun t121 =>
  Bnd (tupAt t120 1) fun t122 =>
  K .normal [(0, t0), (3, r3), (4, r4), (5, t121), (14, t14), (16, t16), (19, t19), (37, t37), (38, t38), (107, t0), (108, t108), (109, t109), (110, t110), (111, t111), (112, r3), (113, t16), (114, t114), (115, t115), (116, t116), (117, r4), (118, t118), (119, a5), (120, t120), (106, t120), (121, t121), (122, t122), (26, t122)] ds h1
theorem F33.g16 {n0 : Nat} (t0 r3 r4 a5 t14 t16 t19 t37 t38 : Value) {ds : List Nat} {h : H} {K : KP} : wA Try.prog n0 217 none F33.c16 [(0, t0), (3, r3), (4, r4), (5, a5), (14, t14), (16, t16), (19, t19), (37, t37), (38, t38)] ds h K = F33.t16 n0 t0 r3 r4 a5 t14 t16 t19 t37 t38 ds h K := by kernel_rfl
theorem F33.s16 {n0 : Nat} : F33.p16 n0 = wA Try.prog n0 217 none F33.c16 := by kernel_rfl
theorem F33.e16 {n0 : Nat} {t0 r3 r4 a5 t14 t16 t19 t37 t38 : Value} {ds : List Nat} {h : H} {K : KP} : F33.p16 n0 [(0, t0), (3, r3), (4, r4), (5, a5), (14, t14), (16, t16), (19, t19), (37, t37), (38, t38)] ds h K = F33.t16 n0 t0 r3 r4 a5 t14 t16 t19 t37 t38 ds h K :=
  wchain (F33.s16) (F33.g16 t0 r3 r4 a5 t14 t16 t19 t37 t38)
noncomputable def F33.t17 (n0 : Nat) (B18 : WP) (t0 r3 r4 a5 t14 t26 t37 t38 : Value) (ds : List Nat) (h : H) (K : KP) : Prop :=
  Bnd (aUn .not t26) fun t208 =>
  Cnd t208
   (B18 [(0, t0), (3, r3), (4, r4), (5, a5), (14, t14), (37, t37), (38, t38)] ds h K)
   (K .normal [(0, t0), (3, r3), (4, r4), (5, a5), (14, t14), (37, t37), (38, t38)] ds h)
theorem F33.g17 {n0 : Nat} (B18 : WP) (t0 r3 r4 a5 t14 t26 t37 t38 : Value) {ds : List Nat} {h : H} {K : KP} : wA Try.prog n0 217 none (.seq [0, 3, 4, 5, 14, 37, 38, 208] F33.c17.fst (.cond [0, 3, 4, 5, 14, 37, 38] (.tmp 208) (.sub B18) F33.c17.snd.snd)) [(0, t0), (3, r3), (4, r4), (5, a5), (14, t14), (26, t26), (37, t37), (38, t38)] ds h K = F33.t17 n0 B18 t0 r3 r4 a5 t14 t26 t37 t38 ds h K := by kernel_rfl
theorem F33.s17 {n0 : Nat} : F33.p17 n0 = wA Try.prog n0 217 none (.seq [0, 3, 4, 5, 14, 37, 38, 208] F33.c17.fst (.cond [0, 3, 4, 5, 14, 37, 38] (.tmp 208) (.sub (F33.p18 n0)) F33.c17.snd.snd)) := by kernel_rfl
theorem F33.e17 {n0 : Nat} {t0 r3 r4 a5 t14 t26 t37 t38 : Value} {ds : List Nat} {h : H} {K : KP} : F33.p17 n0 [(0, t0), (3, r3), (4, r4), (5, a5), (14, t14), (26, t26), (37, t37), (38, t38)] ds h K = F33.t17 n0 (F33.p18 n0) t0 r3 r4 a5 t14 t26 t37 t38 ds h K :=
  wchain (F33.s17) (F33.g17 (F33.p18 n0) t0 r3 r4 a5 t14 t26 t37 t38)
noncomputable def F33.t18 (n0 : Nat) (t0 r3 r4 a5 t14 t37 t38 : Value) (ds : List Nat) (h : H) (K : KP) : Prop :=
  K .ret [(12, a5), (13, (.bool false))] ds h
theorem F33.g18 {n0 : Nat} (t0 r3 r4 a5 t14 t37 t38 : Value) {ds : List Nat} {h : H} {K : KP} : wA Try.prog n0 217 none F33.c18 [(0, t0), (3, r3), (4, r4), (5, a5), (14, t14), (37, t37), (38, t38)] ds h K = F33.t18 n0 t0 r3 r4 a5 t14 t37 t38 ds h K := by kernel_rfl
theorem F33.s18 {n0 : Nat} : F33.p18 n0 = wA Try.prog n0 217 none F33.c18 := by kernel_rfl
theorem F33.e18 {n0 : Nat} {t0 r3 r4 a5 t14 t37 t38 : Value} {ds : List Nat} {h : H} {K : KP} : F33.p18 n0 [(0, t0), (3, r3), (4, r4), (5, a5), (14, t14), (37, t37), (38, t38)] ds h K = F33.t18 n0 t0 r3 r4 a5 t14 t37 t38 ds h K :=
  wchain (F33.s18) (F33.g18 t0 r3 r4 a5 t14 t37 t38)
noncomputable def F33.t19 (n0 : Nat) (t0 r3 r4 a5 t14 t37 t38 : Value) (ds : List Nat) (h : H) (K : KP) : Prop :=
  Bnd (aBin Try.prog true .add 3 t38 (.int .i64 1)) fun t210 =>
  K .normal [(0, t0), (3, r3), (4, r4), (5, a5), (14, t14), (37, t37), (38, t210), (210, t210)] ds h
theorem F33.g19 {n0 : Nat} (t0 r3 r4 a5 t14 t37 t38 : Value) {ds : List Nat} {h : H} {K : KP} : wA Try.prog n0 217 none F33.c19 [(0, t0), (3, r3), (4, r4), (5, a5), (14, t14), (37, t37), (38, t38)] ds h K = F33.t19 n0 t0 r3 r4 a5 t14 t37 t38 ds h K := by kernel_rfl
theorem F33.s19 {n0 : Nat} : F33.p19 n0 = wA Try.prog n0 217 none F33.c19 := by kernel_rfl
theorem F33.e19 {n0 : Nat} {t0 r3 r4 a5 t14 t37 t38 : Value} {ds : List Nat} {h : H} {K : KP} : F33.p19 n0 [(0, t0), (3, r3), (4, r4), (5, a5), (14, t14), (37, t37), (38, t38)] ds h K = F33.t19 n0 t0 r3 r4 a5 t14 t37 t38 ds h K :=
  wchain (F33.s19) (F33.g19 t0 r3 r4 a5 t14 t37 t38)
noncomputable def F33.t20 (n0 : Nat) (r3 a5 t14 : Value) (ds : List Nat) (h : H) (K : KP) : Prop :=
  Bnd2 (aBuiltin Try.prog .len #[64] [t14] h) fun t213 h1 =>
  Bnd2 (aBuiltin Try.prog .len #[59] [r3] h1) fun t215 h2 =>
  Bnd (aBin Try.prog false .eql 3 t213 t215) fun t216 =>
  K .ret [(12, a5), (13, t216)] ds h2
theorem F33.g20 {n0 : Nat} (r3 a5 t14 : Value) {ds : List Nat} {h : H} {K : KP} : wA Try.prog n0 217 none F33.c20 [(3, r3), (5, a5), (14, t14)] ds h K = F33.t20 n0 r3 a5 t14 ds h K := by kernel_rfl
theorem F33.s20 {n0 : Nat} : F33.p20 n0 = wA Try.prog n0 217 none F33.c20 := by kernel_rfl
theorem F33.e20 {n0 : Nat} {r3 a5 t14 : Value} {ds : List Nat} {h : H} {K : KP} : F33.p20 n0 [(3, r3), (5, a5), (14, t14)] ds h K = F33.t20 n0 r3 a5 t14 ds h K :=
  wchain (F33.s20) (F33.g20 r3 a5 t14)
theorem F33.b : Try.f33.body = some F33.c0.erase := by kernel_rfl
theorem F33.b2 : (Try.f33.name == "runtime.NumGoroutine") = false := by kernel_rfl
theorem F33.b3 : Try.f33.ntmps = 217 := by kernel_rfl
theorem F33.b4 : Try.f33.results.toList = [.tmp 12, .tmp 13] := by kernel_rfl
theorem F33.enter {n0 : Nat} {x0 x1 x2 x3 x4 x5 : Value} {h : H} {Q : Value → H → Prop} (w : F33.p0 n0 [(0, x0), (1, x1), (2, x2), (3, x3), (4, x4), (5, x5)] [] h (KFin Try.prog [.tmp 12, .tmp 13] Q)) : Cn Try.prog n0 (.func 33) [x0, x1, x2, x3, x4, x5] h Q :=
  @fn_enter Try.prog n0 mixed 33 Try.f33 F33.c0 [x0, x1, x2, x3, x4, x5] h Q Try.func33 F33.b F33.k0 F33.b2 217 F33.b3 [.tmp 12, .tmp 13] F33.b4 (by simp) [(0, x0), (1, x1), (2, x2), (3, x3), (4, x4), (5, x5)] rfl (wback F33.d0 w)

/-! roster.rosterref02.Whole -/
noncomputable def F34.ac : AC := (ann (bodyOf Try.f34) [[0, 1, 2], [8, 9], [8], [8, 9, 20], [8, 9], [6, 7], [8, 10], [10], [8, 10, 11], [10], [8, 10, 11], [8, 10, 11], [8, 10, 11, 25], [8, 10, 11], [8, 10, 11], [8, 10, 11], [6, 7]]).1
noncomputable def F34.c0 : AC := F34.ac
noncomputable def F34.c1 : AC := F34.ac.snd.snd.fst.snd.fst
noncomputable def F34.c2 : AC := F34.ac.snd.snd.snd
noncomputable def F34.c3 : AC := F34.ac.snd.snd.snd.snd.fst.snd.fst.fst
noncomputable def F34.c4 : AC := F34.ac.snd.snd.snd.snd.fst.snd.fst.fst.snd
noncomputable def F34.c5 : AC := F34.ac.snd.snd.snd.snd.fst.snd.fst.fst.snd.snd
noncomputable def F34.c6 : AC := F34.ac.snd.snd.snd.snd.snd
noncomputable def F34.p0 (n0 : Nat) : WP := wA Try.prog n0 37 none F34.c0
noncomputable def F34.p1 (n0 : Nat) : WP := wA Try.prog n0 37 none F34.c1
noncomputable def F34.p2 (n0 : Nat) : WP := wA Try.prog n0 37 none F34.c2
noncomputable def F34.p3 (n0 : Nat) : WP := wA Try.prog n0 37 none F34.c3
noncomputable def F34.p4 (n0 : Nat) : WP := wA Try.prog n0 37 none F34.c4
noncomputable def F34.p5 (n0 : Nat) : WP := wA Try.prog n0 37 none F34.c5
noncomputable def F34.p6 (n0 : Nat) : WP := wA Try.prog n0 37 none F34.c6
noncomputable def F34.t0 (n0 : Nat) (B1 : WP) (B2 : WP) (b0 from1 to2 : Value) (ds : List Nat) (h : H) (K : KP) : Prop :=
  Cn Try.prog n0 (.func 35) [b0, from1, to2] h fun t16 h1 =>
  Bnd (tupAt t16 0) fun t17 =>
  Bnd (tupAt t16 1) fun t18 =>
  Bnd (aBin Try.prog true .neq 27 t18 (.int .i64 0)) fun t20 =>
  Cnd t20
   (B1 [(8, t17), (9, t18)] ds h1 (KSeq [8] B2 K))
   (B2 [(8, t17)] ds h1 K)
theorem F34.g0 {n0 : Nat} (B1 : WP) (B2 : WP) (b0 from1 to2 : Value) {ds : List Nat} {h : H} {K : KP} : wA Try.prog n0 37 none (.seq [0, 1, 2] F34.c0.fst (.seq [8, 9] F34.c0.snd.fst (.seq [8] (.seq [8, 9, 20] F34.c0.snd.snd.fst.fst (.cond [8, 9] (.tmp 20) (.sub B1) F34.c0.snd.snd.fst.snd.snd)) (.sub B2)))) [(0, b0), (1, from1), (2, to2)] ds h K = F34.t0 n0 B1 B2 b0 from1 to2 ds h K := by kernel_rfl
theorem F34.s0 {n0 : Nat} : F34.p0 n0 = wA Try.prog n0 37 none (.seq [0, 1, 2] F34.c0.fst (.seq [8, 9] F34.c0.snd.fst (.seq [8] (.seq [8, 9, 20] F34.c0.snd.snd.fst.fst (.cond [8, 9] (.tmp 20) (.sub (F34.p1 n0)) F34.c0.snd.snd.fst.snd.snd)) (.sub (F34.p2 n0))))) := by kernel_rfl
theorem F34.e0 {n0 : Nat} {b0 from1 to2 : Value} {ds : List Nat} {h : H} {K : KP} : F34.p0 n0 [(0, b0), (1, from1), (2, to2)] ds h K = F34.t0 n0 (F34.p1 n0) (F34.p2 n0) b0 from1 to2 ds h K :=
  wchain (F34.s0) (F34.g0 (F34.p1 n0) (F34.p2 n0) b0 from1 to2)
theorem F34.k0 : F34.c0.ok = true := by kernel_rfl
theorem F34.d0 {n0 : Nat} : F34.p0 n0 = wA Try.prog n0 37 none F34.c0 := by kernel_rfl
theorem F34.m0 (n0 : Nat) : MonoW (F34.p0 n0) := @mono_c Try.prog n0 37 none F34.c0 (F34.p0 n0) (F34.d0) F34.k0
noncomputable def F34.t1 (n0 : Nat) (l8 e9 : Value) (ds : List Nat) (h : H) (K : KP) : Prop :=
  K .ret [(6, (.slice none 0 0)), (7, e9)] ds h
theorem F34.g1 {n0 : Nat} (l8 e9 : Value) {ds : List Nat} {h : H} {K : KP} : wA Try.prog n0 37 none F34.c1 [(8, l8), (9, e9)] ds h K = F34.t1 n0 l8 e9 ds h K := by kernel_rfl
theorem F34.s1 {n0 : Nat} : F34.p1 n0 = wA Try.prog n0 37 none F34.c1 := by kernel_rfl
theorem F34.e1 {n0 : Nat} {l8 e9 : Value} {ds : List Nat} {h : H} {K : KP} : F34.p1 n0 [(8, l8), (9, e9)] ds h K = F34.t1 n0 l8 e9 ds h K :=
  wchain (F34.s1) (F34.g1 l8 e9)
noncomputable def F34.t2 (n0 : Nat) (B3 : WP) (B6 : WP) (l8 : Value) (ds : List Nat) (h : H) (K : KP) : Prop :=
  Lp [8, 10, 11] B3 [(8, l8), (10, (.slice none 0 0)), (11, (.int .i64 0))] ds h (KBlk [10] 0 (KSeq [10] B6 K))
theorem F34.g2 {n0 : Nat} (B3 : WP) (B6 : WP) (l8 : Value) {ds : List Nat} {h : H} {K : KP} : wA Try.prog n0 37 none (.seq [8, 10] F34.c2.fst (.seq [10] (.seq [8, 10, 11] F34.c2.snd.fst.fst (.block [10] 0 (.loop [8, 10, 11] (.sub B3)))) (.sub B6))) [(8, l8)] ds h K = F34.t2 n0 B3 B6 l8 ds h K := by kernel_rfl
theorem F34.s2 {n0 : Nat} : F34.p2 n0 = wA Try.prog n0 37 none (.seq [8, 10] F34.c2.fst (.seq [10] (.seq [8, 10, 11] F34.c2.snd.fst.fst (.block [10] 0 (.loop [8, 10, 11] (.sub (F34.p3 n0))))) (.sub (F34.p6 n0)))) := by kernel_rfl
theorem F34.e2 {n0 : Nat} {l8 : Value} {ds : List Nat} {h : H} {K : KP} : F34.p2 n0 [(8, l8)] ds h K = F34.t2 n0 (F34.p3 n0) (F34.p6 n0) l8 ds h K :=
  wchain (F34.s2) (F34.g2 (F34.p3 n0) (F34.p6 n0) l8)
noncomputable def F34.t3 (n0 : Nat) (B4 : WP) (l8 out10 i11 : Value) (ds : List Nat) (h : H) (K : KP) : Prop :=
  Bnd2 (aBuiltin Try.prog .len #[67] [l8] h) fun t24 h1 =>
  Bnd (aBin Try.prog false .lss 3 i11 t24) fun t25 =>
  Cnd t25
   (B4 [(8, l8), (10, out10), (11, i11)] ds h1 K)
   (K (.exit 0) [(8, l8), (10, out10), (11, i11)] ds h1)
theorem F34.g3 {n0 : Nat} (B4 : WP) (l8 out10 i11 : Value) {ds : List Nat} {h : H} {K : KP} : wA Try.prog n0 37 none (.seq [8, 10, 11] F34.c3.fst (.sub B4)) [(8, l8), (10, out10), (11, i11)] ds h K = F34.t3 n0 B4 l8 out10 i11 ds h K := by kernel_rfl
theorem F34.s3 {n0 : Nat} : F34.p3 n0 = wA Try.prog n0 37 none (.seq [8, 10, 11] F34.c3.fst (.sub (F34.p4 n0))) := by kernel_rfl
theorem F34.e3 {n0 : Nat} {l8 out10 i11 : Value} {ds : List Nat} {h : H} {K : KP} : F34.p3 n0 [(8, l8), (10, out10), (11, i11)] ds h K = F34.t3 n0 (F34.p4 n0) l8 out10 i11 ds h K :=
  wchain (F34.s3) (F34.g3 (F34.p4 n0) l8 out10 i11)
theorem F34.k3 : F34.c3.ok = true := by kernel_rfl
theorem F34.d3 {n0 : Nat} : F34.p3 n0 = wA Try.prog n0 37 none F34.c3 := by kernel_rfl
theorem F34.m3 (n0 : Nat) : MonoW (F34.p3 n0) := @mono_c Try.prog n0 37 none F34.c3 (F34.p3 n0) (F34.d3) F34.k3
noncomputable def F34.t4 (n0 : Nat) (B5 : WP) (l8 out10 i11 : Value) (ds : List Nat) (h : H) (K : KP) : Prop :=
  Bnd (aIndexAddr Try.prog 67 l8 i11) fun t31 =>
  Bnd (aFieldAddr Try.prog 75 t31 1) fun t32 =>
  Bnd (aLoad Try.prog 26 t32 h) fun t33 =>
  Bnd2 (aBuildSlice Try.prog 64 1 [(0, t33)] h) fun t34 h1 =>
  Bnd2 (aBuiltin Try.prog .append #[64, 64] [out10, t34] h1) fun t35 h2 =>
  B5 [(8, l8), (10, t35), (11, i11)] ds h2 K
theorem F34.g4 {n0 : Nat} (B5 : WP) (l8 out10 i11 : Value) {ds : List Nat} {h : H} {K : KP} : wA Try.prog n0 37 none (.seq [8, 10, 11] F34.c4.fst (.sub B5)) [(8, l8), (10, out10), (11, i11)] ds h K = F34.t4 n0 B5 l8 out10 i11 ds h K := by kernel_rfl
theorem F34.s4 {n0 : Nat} : F34.p4 n0 = wA Try.prog n0 37 none (.seq [8, 10, 11] F34.c4.fst (.sub (F34.p5 n0))) := by kernel_rfl
theorem F34.e4 {n0 : Nat} {l8 out10 i11 : Value} {ds : List Nat} {h : H} {K : KP} : F34.p4 n0 [(8, l8), (10, out10), (11, i11)] ds h K = F34.t4 n0 (F34.p5 n0) l8 out10 i11 ds h K :=
  wchain (F34.s4) (F34.g4 (F34.p5 n0) l8 out10 i11)
noncomputable def F34.t5 (n0 : Nat) (l8 out10 i11 : Value) (ds : List Nat) (h : H) (K : KP) : Prop :=
  Bnd (aBin Try.prog true .add 3 i11 (.int .i64 1)) fun t27 =>
  K .normal [(8, l8), (10, out10), (11, t27), (26, i11), (27, t27)] ds h
theorem F34.g5 {n0 : Nat} (l8 out10 i11 : Value) {ds : List Nat} {h : H} {K : KP} : wA Try.prog n0 37 none F34.c5 [(8, l8), (10, out10), (11, i11)] ds h K = F34.t5 n0 l8 out10 i11 ds h K := by kernel_rfl
theorem F34.s5 {n0 : Nat} : F34.p5 n0 = wA Try.prog n0 37 none F34.c5 := by kernel_rfl
theorem F34.e5 {n0 : Nat} {l8 out10 i11 : Value} {ds : List Nat} {h : H} {K : KP} : F34.p5 n0 [(8, l8), (10, out10), (11, i11)] ds h K = F34.t5 n0 l8 out10 i11 ds h K :=
  wchain (F34.s5) (F34.g5 l8 out10 i11)
noncomputable def F34.t6 (n0 : Nat) (out10 : Value) (ds : List Nat) (h : H) (K : KP) : Prop :=
  K .ret [(6, out10), (7, (.int .i64 0))] ds h
theorem F34.g6 {n0 : Nat} (out10 : Value) {ds : List Nat} {h : H} {K : KP} : wA Try.prog n0 37 none F34.c6 [(10, out10)] ds h K = F34.t6 n0 out10 ds h K := by kernel_rfl
theorem F34.s6 {n0 : Nat} : F34.p6 n0 = wA Try.prog n0 37 none F34.c6 := by kernel_rfl
theorem F34.e6 {n0 : Nat} {out10 : Value} {ds : List Nat} {h : H} {K : KP} : F34.p6 n0 [(10, out10)] ds h K = F34.t6 n0 out10 ds h K :=
  wchain (F34.s6) (F34.g6 out10)
theorem F34.b : Try.f34.body = some F34.c0.erase := by kernel_rfl
theorem F34.b2 : (Try.f34.name == "runtime.NumGoroutine") = false := by kernel_rfl
theorem F34.b3 : Try.f34.ntmps = 37 := by kernel_rfl
theorem F34.b4 : Try.f34.results.toList = [.tmp 6, .tmp 7] := by kernel_rfl
theorem F34.enter {n0 : Nat} {x0 x1 x2 : Value} {h : H} {Q : Value → H → Prop} (w : F34.p0 n0 [(0, x0), (1, x1), (2, x2)] [] h (KFin Try.prog [.tmp 6, .tmp 7] Q)) : Cn Try.prog n0 (.func 34) [x0, x1, x2] h Q :=
  @fn_enter Try.prog n0 mixed 34 Try.f34 F34.c0 [x0, x1, x2] h Q Try.func34 F34.b F34.k0 F34.b2 37 F34.b3 [.tmp 6, .tmp 7] F34.b4 (by simp) [(0, x0), (1, x1), (2, x2)] rfl (wback F34.d0 w)

/-! roster.rosterref02.Places -/
noncomputable def F35.ac : AC := (ann (bodyOf Try.f35) [[0, 1, 2], [0, 1, 2], [0, 1, 2, 24], [0, 1, 2], [6, 7], [0, 1, 2, 8], [8], [0, 2, 8, 9], [8], [0, 2, 8, 9], [0, 2, 8, 9], [0, 2, 8, 9, 28], [0, 2, 8, 9], [0, 2, 8, 9], [0, 2, 8, 9, 10, 11], [0, 2, 8, 9, 10], [0, 2, 8, 9, 10, 11, 37], [0, 2, 8, 9, 10, 11], [6, 7], [0, 2, 8, 10], [6, 7]]).1
noncomputable def F35.c0 : AC := F35.ac
noncomputable def F35.c1 : AC := F35.ac.snd.fst.snd.fst
noncomputable def F35.c2 : AC := F35.ac.snd.snd
noncomputable def F35.c3 : AC := F35.ac.snd.snd.snd.fst.snd.fst.fst
noncomputable def F35.c4 : AC := F35.ac.snd.snd.snd.fst.snd.fst.fst.snd
noncomputable def F35.c5 : AC := F35.ac.snd.snd.snd.fst.snd.fst.fst.snd.fst.snd.fst.snd.fst
noncomputable def F35.c6 : AC := F35.ac.snd.snd.snd.fst.snd.fst.fst.snd.fst.snd.snd
noncomputable def F35.c7 : AC := F35.ac.snd.snd.snd.snd
noncomputable def F35.p0 (n0 : Nat) : WP := wA Try.prog n0 49 none F35.c0
noncomputable def F35.p1 (n0 : Nat) : WP := wA Try.prog n0 49 none F35.c1
noncomputable def F35.p2 (n0 : Nat) : WP := wA Try.prog n0 49 none F35.c2
noncomputable def F35.p3 (n0 : Nat) : WP := wA Try.prog n0 49 none F35.c3
noncomputable def F35.p4 (n0 : Nat) : WP := wA Try.prog n0 49 none F35.c4
noncomputable def F35.p5 (n0 : Nat) : WP := wA Try.prog n0 49 none F35.c5
noncomputable def F35.p6 (n0 : Nat) : WP := wA Try.prog n0 49 none F35.c6
noncomputable def F35.p7 (n0 : Nat) : WP := wA Try.prog n0 49 none F35.c7
noncomputable def F35.t0 (n0 : Nat) (B1 : WP) (B2 : WP) (b0 from1 to2 : Value) (ds : List Nat) (h : H) (K : KP) : Prop :=
  Bnd (aBin Try.prog true .lss 3 from1 (.int .i64 0)) fun t13 =>
  Gd t13
   (B1 [(0, b0), (1, from1), (2, to2)] ds h (KSeq [0, 1, 2] B2 K))
   (Bnd (aBin Try.prog false .lss 3 to2 from1) fun t17 =>
  Gd t17
   (B1 [(0, b0), (1, from1), (2, to2)] ds h (KSeq [0, 1, 2] B2 K))
   (Bnd2 (aBuiltin Try.prog .len #[22] [b0] h) fun t22 h1 =>
  Bnd (aBin Try.prog false .gtr 3 to2 t22) fun t23 =>
  Cnd t23
   (B1 [(0, b0), (1, from1), (2, to2)] ds h1 (KSeq [0, 1, 2] B2 K))
   (B2 [(0, b0), (1, from1), (2, to2)] ds h1 K)))
theorem F35.g0 {n0 : Nat} (B1 : WP) (B2 : WP) (b0 from1 to2 : Value) {ds : List Nat} {h : H} {K : KP} : wA Try.prog n0 49 none (.seq [0, 1, 2] F35.c0.fst (.seq [0, 1, 2] (.seq [0, 1, 2, 24] F35.c0.snd.fst.fst (.cond [0, 1, 2] (.tmp 24) (.sub B1) F35.c0.snd.fst.snd.snd)) (.sub B2))) [(0, b0), (1, from1), (2, to2)] ds h K = F35.t0 n0 B1 B2 b0 from1 to2 ds h K := by kernel_rfl
theorem F35.s0 {n0 : Nat} : F35.p0 n0 = wA Try.prog n0 49 none (.seq [0, 1, 2] F35.c0.fst (.seq [0, 1, 2] (.seq [0, 1, 2, 24] F35.c0.snd.fst.fst (.cond [0, 1, 2] (.tmp 24) (.sub (F35.p1 n0)) F35.c0.snd.fst.snd.snd)) (.sub (F35.p2 n0)))) := by kernel_rfl
theorem F35.e0 {n0 : Nat} {b0 from1 to2 : Value} {ds : List Nat} {h : H} {K : KP} : F35.p0 n0 [(0, b0), (1, from1), (2, to2)] ds h K = F35.t0 n0 (F35.p1 n0) (F35.p2 n0) b0 from1 to2 ds h K :=
  wchain (F35.s0) (F35.g0 (F35.p1 n0) (F35.p2 n0) b0 from1 to2)
theorem F35.k0 : F35.c0.ok = true := by kernel_rfl
theorem F35.d0 {n0 : Nat} : F35.p0 n0 = wA Try.prog n0 49 none F35.c0 := by kernel_rfl
theorem F35.m0 (n0 : Nat) : MonoW (F35.p0 n0) := @mono_c Try.prog n0 49 none F35.c0 (F35.p0 n0) (F35.d0) F35.k0
noncomputable def F35.t1 (n0 : Nat) (b0 from1 to2 : Value) (ds : List Nat) (h : H) (K : KP) : Prop :=
  K .ret [(6, (.slice none 0 0)), (7, (.int .i64 2))] ds h
theorem F35.g1 {n0 : Nat} (b0 from1 to2 : Value) {ds : List Nat} {h : H} {K : KP} : wA Try.prog n0 49 none F35.c1 [(0, b0), (1, from1), (2, to2)] ds h K = F35.t1 n0 b0 from1 to2 ds h K := by kernel_rfl
theorem F35.s1 {n0 : Nat} : F35.p1 n0 = wA Try.prog n0 49 none F35.c1 := by kernel_rfl
theorem F35.e1 {n0 : Nat} {b0 from1 to2 : Value} {ds : List Nat} {h : H} {K : KP} : F35.p1 n0 [(0, b0), (1, from1), (2, to2)] ds h K = F35.t1 n0 b0 from1 to2 ds h K :=
  wchain (F35.s1) (F35.g1 b0 from1 to2)
noncomputable def F35.t2 (n0 : Nat) (B3 : WP) (B7 : WP) (b0 from1 to2 : Value) (ds : List Nat) (h : H) (K : KP) : Prop :=
  Lp [0, 2, 8, 9] B3 [(0, b0), (2, to2), (8, (.slice none 0 0)), (9, from1)] ds h (KBlk [8] 0 (KSeq [8] B7 K))
theorem F35.g2 {n0 : Nat} (B3 : WP) (B7 : WP) (b0 from1 to2 : Value) {ds : List Nat} {h : H} {K : KP} : wA Try.prog n0 49 none (.seq [0, 1, 2, 8] F35.c2.fst (.seq [8] (.seq [0, 2, 8, 9] F35.c2.snd.fst.fst (.block [8] 0 (.loop [0, 2, 8, 9] (.sub B3)))) (.sub B7))) [(0, b0), (1, from1), (2, to2)] ds h K = F35.t2 n0 B3 B7 b0 from1 to2 ds h K := by kernel_rfl
theorem F35.s2 {n0 : Nat} : F35.p2 n0 = wA Try.prog n0 49 none (.seq [0, 1, 2, 8] F35.c2.fst (.seq [8] (.seq [0, 2, 8, 9] F35.c2.snd.fst.fst (.block [8] 0 (.loop [0, 2, 8, 9] (.sub (F35.p3 n0))))) (.sub (F35.p7 n0)))) := by kernel_rfl
theorem F35.e2 {n0 : Nat} {b0 from1 to2 : Value} {ds : List Nat} {h : H} {K : KP} : F35.p2 n0 [(0, b0), (1, from1), (2, to2)] ds h K = F35.t2 n0 (F35.p3 n0) (F35.p7 n0) b0 from1 to2 ds h K :=
  wchain (F35.s2) (F35.g2 (F35.p3 n0) (F35.p7 n0) b0 from1 to2)
noncomputable def F35.t3 (n0 : Nat) (B4 : WP) (b0 to2 l8 at9 : Value) (ds : List Nat) (h : H) (K : KP) : Prop :=
  Bnd (aBin Try.prog false .lss 3 at9 to2) fun t28 =>
  Cnd t28
   (B4 [(0, b0), (2, to2), (8, l8), (9, at9)] ds h K)
   (K (.exit 0) [(0, b0), (2, to2), (8, l8), (9, at9)] ds h)
theorem F35.g3 {n0 : Nat} (B4 : WP) (b0 to2 l8 at9 : Value) {ds : List Nat} {h : H} {K : KP} : wA Try.prog n0 49 none (.seq [0, 2, 8, 9] F35.c3.fst (.sub B4)) [(0, b0), (2, to2), (8, l8), (9, at9)] ds h K = F35.t3 n0 B4 b0 to2 l8 at9 ds h K := by kernel_rfl
theorem F35.s3 {n0 : Nat} : F35.p3 n0 = wA Try.prog n0 49 none (.seq [0, 2, 8, 9] F35.c3.fst (.sub (F35.p4 n0))) := by kernel_rfl
theorem F35.e3 {n0 : Nat} {b0 to2 l8 at9 : Value} {ds : List Nat} {h : H} {K : KP} : F35.p3 n0 [(0, b0), (2, to2), (8, l8), (9, at9)] ds h K = F35.t3 n0 (F35.p4 n0) b0 to2 l8 at9 ds h K :=
  wchain (F35.s3) (F35.g3 (F35.p4 n0) b0 to2 l8 at9)
theorem F35.k3 : F35.c3.ok = true := by kernel_rfl
theorem F35.d3 {n0 : Nat} : F35.p3 n0 = wA Try.prog n0 49 none F35.c3 := by kernel_rfl
theorem F35.m3 (n0 : Nat) : MonoW (F35.p3 n0) := @mono_c Try.prog n0 49 none F35.c3 (F35.p3 n0) (F35.d3) F35.k3
noncomputable def F35.t4 (n0 : Nat) (B5 : WP) (B6 : WP) (b0 to2 l8 at9 : Value) (ds : List Nat) (h : H) (K : KP) : Prop :=
  Cn Try.prog n0 (.func 14) [b0, at9, to2] h fun t33 h1 =>
  Bnd (tupAt t33 0) fun t34 =>
  Bnd (tupAt t33 1) fun t35 =>
  Nw (enc 0 26) (zc Try.prog 26) h1 fun t10 h2 =>
  Bnd (aStore Try.prog 26 t10 t34 h2) fun h3 =>
  Bnd (aBin Try.prog true .neq 27 t35 (.int .i64 0)) fun t37 =>
  Cnd t37
   (B5 [(0, b0), (2, to2), (8, l8), (9, at9), (10, t10), (11, t35)] ds h3 (KSeq [0, 2, 8, 9, 10] B6 (KBlk [0, 2, 8, 9] 1 K)))
   (B6 [(0, b0), (2, to2), (8, l8), (9, at9), (10, t10)] ds h3 (KBlk [0, 2, 8, 9] 1 K))
theorem F35.g4 {n0 : Nat} (B5 : WP) (B6 : WP) (b0 to2 l8 at9 : Value) {ds : List Nat} {h : H} {K : KP} : wA Try.prog n0 49 none (.block [0, 2, 8, 9] 1 (.seq [0, 2, 8, 9, 10, 11] F35.c4.fst.fst (.seq [0, 2, 8, 9, 10] (.seq [0, 2, 8, 9, 10, 11, 37] F35.c4.fst.snd.fst.fst (.cond [0, 2, 8, 9, 10, 11] (.tmp 37) (.sub B5) F35.c4.fst.snd.fst.snd.snd)) (.sub B6)))) [(0, b0), (2, to2), (8, l8), (9, at9)] ds h K = F35.t4 n0 B5 B6 b0 to2 l8 at9 ds h K := by kernel_rfl
theorem F35.s4 {n0 : Nat} : F35.p4 n0 = wA Try.prog n0 49 none (.block [0, 2, 8, 9] 1 (.seq [0, 2, 8, 9, 10, 11] F35.c4.fst.fst (.seq [0, 2, 8, 9, 10] (.seq [0, 2, 8, 9, 10, 11, 37] F35.c4.fst.snd.fst.fst (.cond [0, 2, 8, 9, 10, 11] (.tmp 37) (.sub (F35.p5 n0)) F35.c4.fst.snd.fst.snd.snd)) (.sub (F35.p6 n0))))) := by kernel_rfl
theorem F35.e4 {n0 : Nat} {b0 to2 l8 at9 : Value} {ds : List Nat} {h : H} {K : KP} : F35.p4 n0 [(0, b0), (2, to2), (8, l8), (9, at9)] ds h K = F35.t4 n0 (F35.p5 n0) (F35.p6 n0) b0 to2 l8 at9 ds h K :=
  wchain (F35.s4) (F35.g4 (F35.p5 n0) (F35.p6 n0) b0 to2 l8 at9)
noncomputable def F35.t5 (n0 : Nat) (b0 to2 l8 at9 t10 e11 : Value) (ds : List Nat) (h : H) (K : KP) : Prop :=
  K .ret [(6, l8), (7, e11)] ds h
theorem F35.g5 {n0 : Nat} (b0 to2 l8 at9 t10 e11 : Value) {ds : List Nat} {h : H} {K : KP} : wA Try.prog n0 49 none F35.c5 [(0, b0), (2, to2), (8, l8), (9, at9), (10, t10), (11, e11)] ds h K = F35.t5 n0 b0 to2 l8 at9 t10 e11 ds h K := by kernel_rfl
theorem F35.s5 {n0 : Nat} : F35.p5 n0 = wA Try.prog n0 49 none F35.c5 := by kernel_rfl
theorem F35.e5 {n0 : Nat} {b0 to2 l8 at9 t10 e11 : Value} {ds : List Nat} {h : H} {K : KP} : F35.p5 n0 [(0, b0), (2, to2), (8, l8), (9, at9), (10, t10), (11, e11)] ds h K = F35.t5 n0 b0 to2 l8 at9 t10 e11 ds h K :=
  wchain (F35.s5) (F35.g5 b0 to2 l8 at9 t10 e11)
noncomputable def F35.t6 (n0 : Nat) (b0 to2 l8 at9 t10 : Value) (ds : List Nat) (h : H) (K : KP) : Prop :=
  Bnd (aLoad Try.prog 26 t10 h) fun t42 =>
  Bnd (aBuild Try.prog 75 [(0, at9), (1, t42)]) fun t43 =>
  Bnd2 (aBuildSlice Try.prog 67 1 [(0, t43)] h) fun t44 h1 =>
  Bnd2 (aBuiltin Try.prog .append #[67, 67] [l8, t44] h1) fun t45 h2 =>
  Bnd (aFieldAddr Try.prog 26 t10 4) fun t46 =>
  Bnd (aLoad Try.prog 3 t46 h2) fun t47 =>
  K .normal [(0, b0), (2, to2), (8, t45), (10, t10), (46, t46), (47, t47), (9, t47)] ds h2
theorem F35.g6 {n0 : Nat} (b0 to2 l8 at9 t10 : Value) {ds : List Nat} {h : H} {K : KP} : wA Try.prog n0 49 none F35.c6 [(0, b0), (2, to2), (8, l8), (9, at9), (10, t10)] ds h K = F35.t6 n0 b0 to2 l8 at9 t10 ds h K := by kernel_rfl
theorem F35.s6 {n0 : Nat} : F35.p6 n0 = wA Try.prog n0 49 none F35.c6 := by kernel_rfl
theorem F35.e6 {n0 : Nat} {b0 to2 l8 at9 t10 : Value} {ds : List Nat} {h : H} {K : KP} : F35.p6 n0 [(0, b0), (2, to2), (8, l8), (9, at9), (10, t10)] ds h K = F35.t6 n0 b0 to2 l8 at9 t10 ds h K :=
  wchain (F35.s6) (F35.g6 b0 to2 l8 at9 t10)
noncomputable def F35.t7 (n0 : Nat) (l8 : Value) (ds : List Nat) (h : H) (K : KP) : Prop :=
  K .ret [(6, l8), (7, (.int .i64 0))] ds h
theorem F35.g7 {n0 : Nat} (l8 : Value) {ds : List Nat} {h : H} {K : KP} : wA Try.prog n0 49 none F35.c7 [(8, l8)] ds h K = F35.t7 n0 l8 ds h K := by kernel_rfl
theorem F35.s7 {n0 : Nat} : F35.p7 n0 = wA Try.prog n0 49 none F35.c7 := by kernel_rfl
theorem F35.e7 {n0 : Nat} {l8 : Value} {ds : List Nat} {h : H} {K : KP} : F35.p7 n0 [(8, l8)] ds h K = F35.t7 n0 l8 ds h K :=
  wchain (F35.s7) (F35.g7 l8)
theorem F35.b : Try.f35.body = some F35.c0.erase := by kernel_rfl
theorem F35.b2 : (Try.f35.name == "runtime.NumGoroutine") = false := by kernel_rfl
theorem F35.b3 : Try.f35.ntmps = 49 := by kernel_rfl
theorem F35.b4 : Try.f35.results.toList = [.tmp 6, .tmp 7] := by kernel_rfl
theorem F35.enter {n0 : Nat} {x0 x1 x2 : Value} {h : H} {Q : Value → H → Prop} (w : F35.p0 n0 [(0, x0), (1, x1), (2, x2)] [] h (KFin Try.prog [.tmp 6, .tmp 7] Q)) : Cn Try.prog n0 (.func 35) [x0, x1, x2] h Q :=
  @fn_enter Try.prog n0 mixed 35 Try.f35 F35.c0 [x0, x1, x2] h Q Try.func35 F35.b F35.k0 F35.b2 49 F35.b3 [.tmp 6, .tmp 7] F35.b4 (by simp) [(0, x0), (1, x1), (2, x2)] rfl (wback F35.d0 w)

/-! roster.ber.Whole -/
noncomputable def F36.ac : AC := (ann (bodyOf Try.f36) [[0, 1, 2], [0, 1, 2], [0, 1, 2, 23], [0, 1, 2], [6, 7], [0, 1, 2, 8], [8], [8], [0, 1, 2, 8], [0, 1, 2, 8], [0, 1, 2, 8, 26], [0, 1, 2, 8], [0, 1, 2, 8], [0, 2, 8, 9, 10], [0, 2, 8, 9], [0, 2, 8, 9, 10, 35], [0, 2, 8, 9, 10], [6, 7], [0, 2, 8, 9], [6, 7]]).1
noncomputable def F36.c0 : AC := F36.ac
noncomputable def F36.c1 : AC := F36.ac.snd.fst.snd.fst
noncomputable def F36.c2 : AC := F36.ac.snd.snd
noncomputable def F36.c3 : AC := F36.ac.snd.snd.snd.fst.fst.fst
noncomputable def F36.c4 : AC := F36.ac.snd.snd.snd.fst.fst.fst.snd
noncomputable def F36.c5 : AC := F36.ac.snd.snd.snd.fst.fst.fst.snd.fst.snd.fst.snd.fst
noncomputable def F36.c6 : AC := F36.ac.snd.snd.snd.fst.fst.fst.snd.fst.snd.snd
noncomputable def F36.c7 : AC := F36.ac.snd.snd.snd.snd
noncomputable def F36.p0 (n0 : Nat) : WP := wA Try.prog n0 44 none F36.c0
noncomputable def F36.p1 (n0 : Nat) : WP := wA Try.prog n0 44 none F36.c1
noncomputable def F36.p2 (n0 : Nat) : WP := wA Try.prog n0 44 none F36.c2
noncomputable def F36.p3 (n0 : Nat) : WP := wA Try.prog n0 44 none F36.c3
noncomputable def F36.p4 (n0 : Nat) : WP := wA Try.prog n0 44 none F36.c4
noncomputable def F36.p5 (n0 : Nat) : WP := wA Try.prog n0 44 none F36.c5
noncomputable def F36.p6 (n0 : Nat) : WP := wA Try.prog n0 44 none F36.c6
noncomputable def F36.p7 (n0 : Nat) : WP := wA Try.prog n0 44 none F36.c7
noncomputable def F36.t0 (n0 : Nat) (B1 : WP) (B2 : WP) (b0 from1 to2 : Value) (ds : List Nat) (h : H) (K : KP) : Prop :=
  Bnd (aBin Try.prog true .lss 3 from1 (.int .i64 0)) fun t12 =>
  Gd t12
   (B1 [(0, b0), (1, from1), (2, to2)] ds h (KSeq [0, 1, 2] B2 K))
   (Bnd (aBin Try.prog false .gtr 3 from1 to2) fun t16 =>
  Gd t16
   (B1 [(0, b0), (1, from1), (2, to2)] ds h (KSeq [0, 1, 2] B2 K))
   (Bnd2 (aBuiltin Try.prog .len #[22] [b0] h) fun t21 h1 =>
  Bnd (aBin Try.prog false .gtr 3 to2 t21) fun t22 =>
  Cnd t22
   (B1 [(0, b0), (1, from1), (2, to2)] ds h1 (KSeq [0, 1, 2] B2 K))
   (B2 [(0, b0), (1, from1), (2, to2)] ds h1 K)))
theorem F36.g0 {n0 : Nat} (B1 : WP) (B2 : WP) (b0 from1 to2 : Value) {ds : List Nat} {h : H} {K : KP} : wA Try.prog n0 44 none (.seq [0, 1, 2] F36.c0.fst (.seq [0, 1, 2] (.seq [0, 1, 2, 23] F36.c0.snd.fst.fst (.cond [0, 1, 2] (.tmp 23) (.sub B1) F36.c0.snd.fst.snd.snd)) (.sub B2))) [(0, b0), (1, from1), (2, to2)] ds h K = F36.t0 n0 B1 B2 b0 from1 to2 ds h K := by kernel_rfl
theorem F36.s0 {n0 : Nat} : F36.p0 n0 = wA Try.prog n0 44 none (.seq [0, 1, 2] F36.c0.fst (.seq [0, 1, 2] (.seq [0, 1, 2, 23] F36.c0.snd.fst.fst (.cond [0, 1, 2] (.tmp 23) (.sub (F36.p1 n0)) F36.c0.snd.fst.snd.snd)) (.sub (F36.p2 n0)))) := by kernel_rfl
theorem F36.e0 {n0 : Nat} {b0 from1 to2 : Value} {ds : List Nat} {h : H} {K : KP} : F36.p0 n0 [(0, b0), (1, from1), (2, to2)] ds h K = F36.t0 n0 (F36.p1 n0) (F36.p2 n0) b0 from1 to2 ds h K :=
  wchain (F36.s0) (F36.g0 (F36.p1 n0) (F36.p2 n0) b0 from1 to2)
theorem F36.k0 : F36.c0.ok = true := by kernel_rfl
theorem F36.d0 {n0 : Nat} : F36.p0 n0 = wA Try.prog n0 44 none F36.c0 := by kernel_rfl
theorem F36.m0 (n0 : Nat) : MonoW (F36.p0 n0) := @mono_c Try.prog n0 44 none F36.c0 (F36.p0 n0) (F36.d0) F36.k0
noncomputable def F36.t1 (n0 : Nat) (b0 from1 to2 : Value) (ds : List Nat) (h : H) (K : KP) : Prop :=
  K .ret [(6, (.slice none 0 0)), (7, (.int .i64 2))] ds h
theorem F36.g1 {n0 : Nat} (b0 from1 to2 : Value) {ds : List Nat} {h : H} {K : KP} : wA Try.prog n0 44 none F36.c1 [(0, b0), (1, from1), (2, to2)] ds h K = F36.t1 n0 b0 from1 to2 ds h K := by kernel_rfl
theorem F36.s1 {n0 : Nat} : F36.p1 n0 = wA Try.prog n0 44 none F36.c1 := by kernel_rfl
theorem F36.e1 {n0 : Nat} {b0 from1 to2 : Value} {ds : List Nat} {h : H} {K : KP} : F36.p1 n0 [(0, b0), (1, from1), (2, to2)] ds h K = F36.t1 n0 b0 from1 to2 ds h K :=
  wchain (F36.s1) (F36.g1 b0 from1 to2)
noncomputable def F36.t2 (n0 : Nat) (B3 : WP) (B7 : WP) (b0 from1 to2 : Value) (ds : List Nat) (h : H) (K : KP) : Prop :=
  Lp [0, 1, 2, 8] B3 [(0, b0), (1, from1), (2, to2), (8, (.slice none 0 0))] ds h (KBlk [8] 0 (KSeq [8] B7 K))
theorem F36.g2 {n0 : Nat} (B3 : WP) (B7 : WP) (b0 from1 to2 : Value) {ds : List Nat} {h : H} {K : KP} : wA Try.prog n0 44 none (.seq [0, 1, 2, 8] F36.c2.fst (.seq [8] (.block [8] 0 (.loop [0, 1, 2, 8] (.sub B3))) (.sub B7))) [(0, b0), (1, from1), (2, to2)] ds h K = F36.t2 n0 B3 B7 b0 from1 to2 ds h K := by kernel_rfl
theorem F36.s2 {n0 : Nat} : F36.p2 n0 = wA Try.prog n0 44 none (.seq [0, 1, 2, 8] F36.c2.fst (.seq [8] (.block [8] 0 (.loop [0, 1, 2, 8] (.sub (F36.p3 n0)))) (.sub (F36.p7 n0)))) := by kernel_rfl
theorem F36.e2 {n0 : Nat} {b0 from1 to2 : Value} {ds : List Nat} {h : H} {K : KP} : F36.p2 n0 [(0, b0), (1, from1), (2, to2)] ds h K = F36.t2 n0 (F36.p3 n0) (F36.p7 n0) b0 from1 to2 ds h K :=
  wchain (F36.s2) (F36.g2 (F36.p3 n0) (F36.p7 n0) b0 from1 to2)
noncomputable def F36.t3 (n0 : Nat) (B4 : WP) (b0 from1 to2 l8 : Value) (ds : List Nat) (h : H) (K : KP) : Prop :=
  Bnd (aBin Try.prog false .lss 3 from1 to2) fun t26 =>
  Cnd t26
   (B4 [(0, b0), (1, from1), (2, to2), (8, l8)] ds h K)
   (K (.exit 0) [(0, b0), (1, from1), (2, to2), (8, l8)] ds h)
theorem F36.g3 {n0 : Nat} (B4 : WP) (b0 from1 to2 l8 : Value) {ds : List Nat} {h : H} {K : KP} : wA Try.prog n0 44 none (.seq [0, 1, 2, 8] F36.c3.fst (.sub B4)) [(0, b0), (1, from1), (2, to2), (8, l8)] ds h K = F36.t3 n0 B4 b0 from1 to2 l8 ds h K := by kernel_rfl
theorem F36.s3 {n0 : Nat} : F36.p3 n0 = wA Try.prog n0 44 none (.seq [0, 1, 2, 8] F36.c3.fst (.sub (F36.p4 n0))) := by kernel_rfl
theorem F36.e3 {n0 : Nat} {b0 from1 to2 l8 : Value} {ds : List Nat} {h : H} {K : KP} : F36.p3 n0 [(0, b0), (1, from1), (2, to2), (8, l8)] ds h K = F36.t3 n0 (F36.p4 n0) b0 from1 to2 l8 ds h K :=
  wchain (F36.s3) (F36.g3 (F36.p4 n0) b0 from1 to2 l8)
theorem F36.k3 : F36.c3.ok = true := by kernel_rfl
theorem F36.d3 {n0 : Nat} : F36.p3 n0 = wA Try.prog n0 44 none F36.c3 := by kernel_rfl
theorem F36.m3 (n0 : Nat) : MonoW (F36.p3 n0) := @mono_c Try.prog n0 44 none F36.c3 (F36.p3 n0) (F36.d3) F36.k3
noncomputable def F36.t4 (n0 : Nat) (B5 : WP) (B6 : WP) (b0 from1 to2 l8 : Value) (ds : List Nat) (h : H) (K : KP) : Prop :=
  Cn Try.prog n0 (.func 13) [b0, from1, to2] h fun t31 h1 =>
  Bnd (tupAt t31 0) fun t32 =>
  Bnd (tupAt t31 1) fun t33 =>
  Nw (enc 0 26) (zc Try.prog 26) h1 fun t9 h2 =>
  Bnd (aStore Try.prog 26 t9 t32 h2) fun h3 =>
  Bnd (aBin Try.prog true .neq 27 t33 (.int .i64 0)) fun t35 =>
  Cnd t35
   (B5 [(0, b0), (2, to2), (8, l8), (9, t9), (10, t33)] ds h3 (KSeq [0, 2, 8, 9] B6 (KBlk [0, 1, 2, 8] 1 K)))
   (B6 [(0, b0), (2, to2), (8, l8), (9, t9)] ds h3 (KBlk [0, 1, 2, 8] 1 K))
theorem F36.g4 {n0 : Nat} (B5 : WP) (B6 : WP) (b0 from1 to2 l8 : Value) {ds : List Nat} {h : H} {K : KP} : wA Try.prog n0 44 none (.block [0, 1, 2, 8] 1 (.seq [0, 2, 8, 9, 10] F36.c4.fst.fst (.seq [0, 2, 8, 9] (.seq [0, 2, 8, 9, 10, 35] F36.c4.fst.snd.fst.fst (.cond [0, 2, 8, 9, 10] (.tmp 35) (.sub B5) F36.c4.fst.snd.fst.snd.snd)) (.sub B6)))) [(0, b0), (1, from1), (2, to2), (8, l8)] ds h K = F36.t4 n0 B5 B6 b0 from1 to2 l8 ds h K := by kernel_rfl
theorem F36.s4 {n0 : Nat} : F36.p4 n0 = wA Try.prog n0 44 none (.block [0, 1, 2, 8] 1 (.seq [0, 2, 8, 9, 10] F36.c4.fst.fst (.seq [0, 2, 8, 9] (.seq [0, 2, 8, 9, 10, 35] F36.c4.fst.snd.fst.fst (.cond [0, 2, 8, 9, 10] (.tmp 35) (.sub (F36.p5 n0)) F36.c4.fst.snd.fst.snd.snd)) (.sub (F36.p6 n0))))) := by kernel_rfl
theorem F36.e4 {n0 : Nat} {b0 from1 to2 l8 : Value} {ds : List Nat} {h : H} {K : KP} : F36.p4 n0 [(0, b0), (1, from1), (2, to2), (8, l8)] ds h K = F36.t4 n0 (F36.p5 n0) (F36.p6 n0) b0 from1 to2 l8 ds h K :=
  wchain (F36.s4) (F36.g4 (F36.p5 n0) (F36.p6 n0) b0 from1 to2 l8)
noncomputable def F36.t5 (n0 : Nat) (b0 to2 l8 t9 e10 : Value) (ds : List Nat) (h : H) (K : KP) : Prop :=
  K .ret [(6, (.slice none 0 0)), (7, e10)] ds h
theorem F36.g5 {n0 : Nat} (b0 to2 l8 t9 e10 : Value) {ds : List Nat} {h : H} {K : KP} : wA Try.prog n0 44 none F36.c5 [(0, b0), (2, to2), (8, l8), (9, t9), (10, e10)] ds h K = F36.t5 n0 b0 to2 l8 t9 e10 ds h K := by kernel_rfl
theorem F36.s5 {n0 : Nat} : F36.p5 n0 = wA Try.prog n0 44 none F36.c5 := by kernel_rfl
theorem F36.e5 {n0 : Nat} {b0 to2 l8 t9 e10 : Value} {ds : List Nat} {h : H} {K : KP} : F36.p5 n0 [(0, b0), (2, to2), (8, l8), (9, t9), (10, e10)] ds h K = F36.t5 n0 b0 to2 l8 t9 e10 ds h K :=
  wchain (F36.s5) (F36.g5 b0 to2 l8 t9 e10)
noncomputable def F36.t6 (n0 : Nat) (b0 to2 l8 t9 : Value) (ds : List Nat) (h : H) (K : KP) : Prop :=
  Bnd (aLoad Try.prog 26 t9 h) fun t38 =>
  Bnd2 (aBuildSlice Try.prog 64 1 [(0, t38)] h) fun t39 h1 =>
  Bnd2 (aBuiltin Try.prog .append #[64, 64] [l8, t39] h1) fun t40 h2 =>
  Bnd (aFieldAddr Try.prog 26 t9 4) fun t41 =>
  Bnd (aLoad Try.prog 3 t41 h2) fun t42 =>
  K .normal [(0, b0), (2, to2), (8, t40), (9, t9), (41, t41), (42, t42), (1, t42)] ds h2
theorem F36.g6 {n0 : Nat} (b0 to2 l8 t9 : Value) {ds : List Nat} {h : H} {K : KP} : wA Try.prog n0 44 none F36.c6 [(0, b0), (2, to2), (8, l8), (9, t9)] ds h K = F36.t6 n0 b0 to2 l8 t9 ds h K := by kernel_rfl
theorem F36.s6 {n0 : Nat} : F36.p6 n0 = wA Try.prog n0 44 none F36.c6 := by kernel_rfl
theorem F36.e6 {n0 : Nat} {b0 to2 l8 t9 : Value} {ds : List Nat} {h : H} {K : KP} : F36.p6 n0 [(0, b0), (2, to2), (8, l8), (9, t9)] ds h K = F36.t6 n0 b0 to2 l8 t9 ds h K :=
  wchain (F36.s6) (F36.g6 b0 to2 l8 t9)
noncomputable def F36.t7 (n0 : Nat) (l8 : Value) (ds : List Nat) (h : H) (K : KP) : Prop :=
  K .ret [(6, l8), (7, (.int .i64 0))] ds h
theorem F36.g7 {n0 : Nat} (l8 : Value) {ds : List Nat} {h : H} {K : KP} : wA Try.prog n0 44 none F36.c7 [(8, l8)] ds h K = F36.t7 n0 l8 ds h K := by kernel_rfl
theorem F36.s7 {n0 : Nat} : F36.p7 n0 = wA Try.prog n0 44 none F36.c7 := by kernel_rfl
theorem F36.e7 {n0 : Nat} {l8 : Value} {ds : List Nat} {h : H} {K : KP} : F36.p7 n0 [(8, l8)] ds h K = F36.t7 n0 l8 ds h K :=
  wchain (F36.s7) (F36.g7 l8)
theorem F36.b : Try.f36.body = some F36.c0.erase := by kernel_rfl
theorem F36.b2 : (Try.f36.name == "runtime.NumGoroutine") = false := by kernel_rfl
theorem F36.b3 : Try.f36.ntmps = 44 := by kernel_rfl
theorem F36.b4 : Try.f36.results.toList = [.tmp 6, .tmp 7] := by kernel_rfl
theorem F36.enter {n0 : Nat} {x0 x1 x2 : Value} {h : H} {Q : Value → H → Prop} (w : F36.p0 n0 [(0, x0), (1, x1), (2, x2)] [] h (KFin Try.prog [.tmp 6, .tmp 7] Q)) : Cn Try.prog n0 (.func 36) [x0, x1, x2] h Q :=
  @fn_enter Try.prog n0 mixed 36 Try.f36 F36.c0 [x0, x1, x2] h Q Try.func36 F36.b F36.k0 F36.b2 44 F36.b3 [.tmp 6, .tmp 7] F36.b4 (by simp) [(0, x0), (1, x1), (2, x2)] rfl (wback F36.d0 w)

/-! roster.ber.Each -/
noncomputable def F37.ac : AC := (ann (bodyOf Try.f37) [[0, 1, 2], [0, 1, 2, 7], [7], [7], [0, 1, 2, 7], [0, 1, 2, 7], [0, 1, 2, 7, 22], [0, 1, 2, 7], [0, 1, 2, 7], [0, 1, 2, 7, 8, 9], [0, 1, 2, 7, 8], [0, 1, 2, 7, 8, 31], [0, 1, 2, 7, 8], [0, 2, 7, 8], [6]]).1
noncomputable def F37.c0 : AC := F37.ac
noncomputable def F37.c1 : AC := F37.ac.snd.snd.fst.fst.fst
noncomputable def F37.c2 : AC := F37.ac.snd.snd.fst.fst.fst.snd
noncomputable def F37.c3 : AC := F37.ac.snd.snd.fst.fst.fst.snd.fst.snd.snd
noncomputable def F37.c4 : AC := F37.ac.snd.snd.snd
noncomputable def F37.p0 (n0 : Nat) : WP := wA Try.prog n0 41 none F37.c0
noncomputable def F37.p1 (n0 : Nat) : WP := wA Try.prog n0 41 none F37.c1
noncomputable def F37.p2 (n0 : Nat) : WP := wA Try.prog n0 41 none F37.c2
noncomputable def F37.p3 (n0 : Nat) : WP := wA Try.prog n0 41 none F37.c3
noncomputable def F37.p4 (n0 : Nat) : WP := wA Try.prog n0 41 none F37.c4
noncomputable def F37.t0 (n0 : Nat) (B1 : WP) (B4 : WP) (b0 from1 to2 : Value) (ds : List Nat) (h : H) (K : KP) : Prop :=
  Nw (enc 0 100) (zc Try.prog 100) h fun l7 h1 =>
  Lp [0, 1, 2, 7] B1 [(0, b0), (1, from1), (2, to2), (7, l7)] ds h1 (KBlk [7] 0 (KSeq [7] B4 K))
theorem F37.g0 {n0 : Nat} (B1 : WP) (B4 : WP) (b0 from1 to2 : Value) {ds : List Nat} {h : H} {K : KP} : wA Try.prog n0 41 none (.seq [0, 1, 2] F37.c0.fst (.seq [0, 1, 2, 7] F37.c0.snd.fst (.seq [7] (.block [7] 0 (.loop [0, 1, 2, 7] (.sub B1))) (.sub B4)))) [(0, b0), (1, from1), (2, to2)] ds h K = F37.t0 n0 B1 B4 b0 from1 to2 ds h K := by kernel_rfl
theorem F37.s0 {n0 : Nat} : F37.p0 n0 = wA Try.prog n0 41 none (.seq [0, 1, 2] F37.c0.fst (.seq [0, 1, 2, 7] F37.c0.snd.fst (.seq [7] (.block [7] 0 (.loop [0, 1, 2, 7] (.sub (F37.p1 n0)))) (.sub (F37.p4 n0))))) := by kernel_rfl
theorem F37.e0 {n0 : Nat} {b0 from1 to2 : Value} {ds : List Nat} {h : H} {K : KP} : F37.p0 n0 [(0, b0), (1, from1), (2, to2)] ds h K = F37.t0 n0 (F37.p1 n0) (F37.p4 n0) b0 from1 to2 ds h K :=
  wchain (F37.s0) (F37.g0 (F37.p1 n0) (F37.p4 n0) b0 from1 to2)
theorem F37.k0 : F37.c0.ok = true := by kernel_rfl
theorem F37.d0 {n0 : Nat} : F37.p0 n0 = wA Try.prog n0 41 none F37.c0 := by kernel_rfl
theorem F37.m0 (n0 : Nat) : MonoW (F37.p0 n0) := @mono_c Try.prog n0 41 none F37.c0 (F37.p0 n0) (F37.d0) F37.k0
noncomputable def F37.t1 (n0 : Nat) (B2 : WP) (b0 from1 to2 l7 : Value) (ds : List Nat) (h : H) (K : KP) : Prop :=
  Bnd (aBin Try.prog true .geq 3 from1 (.int .i64 0)) fun t11 =>
  Gd t11
   (Bnd (aBin Try.prog false .lss 3 from1 to2) fun t15 =>
  Gd t15
   (Bnd2 (aBuiltin Try.prog .len #[22] [b0] h) fun t20 h1 =>
  Bnd (aBin Try.prog false .leq 3 to2 t20) fun t21 =>
  Cnd t21
   (B2 [(0, b0), (1, from1), (2, to2), (7, l7)] ds h1 K)
   (K (.exit 0) [(0, b0), (1, from1), (2, to2), (7, l7)] ds h1))
   (K (.exit 0) [(0, b0), (1, from1), (2, to2), (7, l7)] ds h))
   (K (.exit 0) [(0, b0), (1, from1), (2, to2), (7, l7)] ds h)
theorem F37.g1 {n0 : Nat} (B2 : WP) (b0 from1 to2 l7 : Value) {ds : List Nat} {h : H} {K : KP} : wA Try.prog n0 41 none (.seq [0, 1, 2, 7] F37.c1.fst (.sub B2)) [(0, b0), (1, from1), (2, to2), (7, l7)] ds h K = F37.t1 n0 B2 b0 from1 to2 l7 ds h K := by kernel_rfl
theorem F37.s1 {n0 : Nat} : F37.p1 n0 = wA Try.prog n0 41 none (.seq [0, 1, 2, 7] F37.c1.fst (.sub (F37.p2 n0))) := by kernel_rfl
theorem F37.e1 {n0 : Nat} {b0 from1 to2 l7 : Value} {ds : List Nat} {h : H} {K : KP} : F37.p1 n0 [(0, b0), (1, from1), (2, to2), (7, l7)] ds h K = F37.t1 n0 (F37.p2 n0) b0 from1 to2 l7 ds h K :=
  wchain (F37.s1) (F37.g1 (F37.p2 n0) b0 from1 to2 l7)
theorem F37.k1 : F37.c1.ok = true := by kernel_rfl
theorem F37.d1 {n0 : Nat} : F37.p1 n0 = wA Try.prog n0 41 none F37.c1 := by kernel_rfl
theorem F37.m1 (n0 : Nat) : MonoW (F37.p1 n0) := @mono_c Try.prog n0 41 none F37.c1 (F37.p1 n0) (F37.d1) F37.k1
noncomputable def F37.t2 (n0 : Nat) (B3 : WP) (b0 from1 to2 l7 : Value) (ds : List Nat) (h : H) (K : KP) : Prop :=
  Cn Try.prog n0 (.func 13) [b0, from1, to2] h fun t27 h1 =>
  Bnd (tupAt t27 0) fun t28 =>
  Bnd (tupAt t27 1) fun t29 =>
  Nw (enc 0 26) (zc Try.prog 26) h1 fun t8 h2 =>
  Bnd (aStore Try.prog 26 t8 t28 h2) fun h3 =>
  Bnd (aBin Try.prog true .neq 27 t29 (.int .i64 0)) fun t31 =>
  Cnd t31
   (K (.exit 0) [(0, b0), (1, from1), (2, to2), (7, l7), (8, t8)] ds h3)
   (B3 [(0, b0), (1, from1), (2, to2), (7, l7), (8, t8)] ds h3 (KBlk [0, 1, 2, 7] 1 K))
theorem F37.g2 {n0 : Nat} (B3 : WP) (b0 from1 to2 l7 : Value) {ds : List Nat} {h : H} {K : KP} : wA Try.prog n0 41 none (.block [0, 1, 2, 7] 1 (.seq [0, 1, 2, 7, 8, 9] F37.c2.fst.fst (.seq [0, 1, 2, 7, 8] F37.c2.fst.snd.fst (.sub B3)))) [(0, b0), (1, from1), (2, to2), (7, l7)] ds h K = F37.t2 n0 B3 b0 from1 to2 l7 ds h K := by kernel_rfl
theorem F37.s2 {n0 : Nat} : F37.p2 n0 = wA Try.prog n0 41 none (.block [0, 1, 2, 7] 1 (.seq [0, 1, 2, 7, 8, 9] F37.c2.fst.fst (.seq [0, 1, 2, 7, 8] F37.c2.fst.snd.fst (.sub (F37.p3 n0))))) := by kernel_rfl
theorem F37.e2 {n0 : Nat} {b0 from1 to2 l7 : Value} {ds : List Nat} {h : H} {K : KP} : F37.p2 n0 [(0, b0), (1, from1), (2, to2), (7, l7)] ds h K = F37.t2 n0 (F37.p3 n0) b0 from1 to2 l7 ds h K :=
  wchain (F37.s2) (F37.g2 (F37.p3 n0) b0 from1 to2 l7)
noncomputable def F37.t3 (n0 : Nat) (b0 from1 to2 l7 t8 : Value) (ds : List Nat) (h : H) (K : KP) : Prop :=
  Bnd (aLoad Try.prog 100 l7 h) fun t32 =>
  Bnd (aLoad Try.prog 26 t8 h) fun t34 =>
  Bnd (aBuild Try.prog 102 [(0, from1), (1, t34)]) fun t35 =>
  Bnd2 (aBuildSlice Try.prog 100 1 [(0, t35)] h) fun t36 h1 =>
  Bnd2 (aBuiltin Try.prog .append #[100, 100] [t32, t36] h1) fun t37 h2 =>
  Bnd (aStore Try.prog 100 l7 t37 h2) fun h3 =>
  Bnd (aFieldAddr Try.prog 26 t8 4) fun t38 =>
  Bnd (aLoad Try.prog 3 t38 h3) fun t39 =>
  K .normal [(0, b0), (2, to2), (7, l7), (8, t8), (38, t38), (39, t39), (1, t39)] ds h3
theorem F37.g3 {n0 : Nat} (b0 from1 to2 l7 t8 : Value) {ds : List Nat} {h : H} {K : KP} : wA Try.prog n0 41 none F37.c3 [(0, b0), (1, from1), (2, to2), (7, l7), (8, t8)] ds h K = F37.t3 n0 b0 from1 to2 l7 t8 ds h K := by kernel_rfl
theorem F37.s3 {n0 : Nat} : F37.p3 n0 = wA Try.prog n0 41 none F37.c3 := by kernel_rfl
theorem F37.e3 {n0 : Nat} {b0 from1 to2 l7 t8 : Value} {ds : List Nat} {h : H} {K : KP} : F37.p3 n0 [(0, b0), (1, from1), (2, to2), (7, l7), (8, t8)] ds h K = F37.t3 n0 b0 from1 to2 l7 t8 ds h K :=
  wchain (F37.s3) (F37.g3 b0 from1 to2 l7 t8)
noncomputable def F37.t4 (n0 : Nat) (l7 : Value) (ds : List Nat) (h : H) (K : KP) : Prop :=
  K .ret [(6, (.func (.func 55) #[] #[l7]))] ds h
theorem F37.g4 {n0 : Nat} (l7 : Value) {ds : List Nat} {h : H} {K : KP} : wA Try.prog n0 41 none F37.c4 [(7, l7)] ds h K = F37.t4 n0 l7 ds h K := by kernel_rfl
theorem F37.s4 {n0 : Nat} : F37.p4 n0 = wA Try.prog n0 41 none F37.c4 := by kernel_rfl
theorem F37.e4 {n0 : Nat} {l7 : Value} {ds : List Nat} {h : H} {K : KP} : F37.p4 n0 [(7, l7)] ds h K = F37.t4 n0 l7 ds h K :=
  wchain (F37.s4) (F37.g4 l7)
theorem F37.b : Try.f37.body = some F37.c0.erase := by kernel_rfl
theorem F37.b2 : (Try.f37.name == "runtime.NumGoroutine") = false := by kernel_rfl
theorem F37.b3 : Try.f37.ntmps = 41 := by kernel_rfl
theorem F37.b4 : Try.f37.results.toList = [.tmp 6] := by kernel_rfl
theorem F37.enter {n0 : Nat} {x0 x1 x2 : Value} {h : H} {Q : Value → H → Prop} (w : F37.p0 n0 [(0, x0), (1, x1), (2, x2)] [] h (KFin Try.prog [.tmp 6] Q)) : Cn Try.prog n0 (.func 37) [x0, x1, x2] h Q :=
  @fn_enter Try.prog n0 mixed 37 Try.f37 F37.c0 [x0, x1, x2] h Q Try.func37 F37.b F37.k0 F37.b2 41 F37.b3 [.tmp 6] F37.b4 (by simp) [(0, x0), (1, x1), (2, x2)] rfl (wback F37.d0 w)

/-! roster.rosterlaw02.sameItems -/
noncomputable def F38.ac : AC := (ann (bodyOf Try.f38) [[0, 1], [0, 1], [0, 1, 10], [0, 1], [4], [], [0, 1, 12, 13], [], [0, 1, 12, 13], [0, 1, 12, 13, 14], [0, 1, 12, 13], [0, 1, 12, 13], [0, 1, 12, 13], [0, 1, 12, 13], [0, 1, 5, 12, 13], [0, 1, 12, 13, 24], [0, 1, 12, 13], [4], [4]]).1
noncomputable def F38.c0 : AC := F38.ac
noncomputable def F38.c1 : AC := F38.ac.snd.fst.snd.fst
noncomputable def F38.c2 : AC := F38.ac.snd.snd
noncomputable def F38.c3 : AC := F38.ac.snd.snd.fst.snd.fst.fst
noncomputable def F38.c4 : AC := F38.ac.snd.snd.fst.snd.fst.fst.snd.snd
noncomputable def F38.c5 : AC := F38.ac.snd.snd.fst.snd.fst.fst.snd.snd.fst.fst.snd.snd.fst
noncomputable def F38.c6 : AC := F38.ac.snd.snd.fst.snd.fst.fst.snd.snd.snd
noncomputable def F38.c7 : AC := F38.ac.snd.snd.snd
noncomputable def F38.p0 (n0 : Nat) : WP := wA Try.prog n0 26 none F38.c0
noncomputable def F38.p1 (n0 : Nat) : WP := wA Try.prog n0 26 none F38.c1
noncomputable def F38.p2 (n0 : Nat) : WP := wA Try.prog n0 26 none F38.c2
noncomputable def F38.p3 (n0 : Nat) : WP := wA Try.prog n0 26 none F38.c3
noncomputable def F38.p4 (n0 : Nat) : WP := wA Try.prog n0 26 none F38.c4
noncomputable def F38.p5 (n0 : Nat) : WP := wA Try.prog n0 26 none F38.c5
noncomputable def F38.p6 (n0 : Nat) : WP := wA Try.prog n0 26 none F38.c6
noncomputable def F38.p7 (n0 : Nat) : WP := wA Try.prog n0 26 none F38.c7
noncomputable def F38.t0 (n0 : Nat) (B1 : WP) (B2 : WP) (a0 b1 : Value) (ds : List Nat) (h : H) (K : KP) : Prop :=
  Bnd2 (aBuiltin Try.prog .len #[64] [a0] h) fun t7 h1 =>
  Bnd2 (aBuiltin Try.prog .len #[64] [b1] h1) fun t9 h2 =>
  Bnd (aBin Try.prog false .neq 3 t7 t9) fun t10 =>
  Cnd t10
   (B1 [(0, a0), (1, b1)] ds h2 (KSeq [0, 1] B2 K))
   (B2 [(0, a0), (1, b1)] ds h2 K)
theorem F38.g0 {n0 : Nat} (B1 : WP) (B2 : WP) (a0 b1 : Value) {ds : List Nat} {h : H} {K : KP} : wA Try.prog n0 26 none (.seq [0, 1] F38.c0.fst (.seq [0, 1] (.seq [0, 1, 10] F38.c0.snd.fst.fst (.cond [0, 1] (.tmp 10) (.sub B1) F38.c0.snd.fst.snd.snd)) (.sub B2))) [(0, a0), (1, b1)] ds h K = F38.t0 n0 B1 B2 a0 b1 ds h K := by kernel_rfl
theorem F38.s0 {n0 : Nat} : F38.p0 n0 = wA Try.prog n0 26 none (.seq [0, 1] F38.c0.fst (.seq [0, 1] (.seq [0, 1, 10] F38.c0.snd.fst.fst (.cond [0, 1] (.tmp 10) (.sub (F38.p1 n0)) F38.c0.snd.fst.snd.snd)) (.sub (F38.p2 n0)))) := by kernel_rfl
theorem F38.e0 {n0 : Nat} {a0 b1 : Value} {ds : List Nat} {h : H} {K : KP} : F38.p0 n0 [(0, a0), (1, b1)] ds h K = F38.t0 n0 (F38.p1 n0) (F38.p2 n0) a0 b1 ds h K :=
  wchain (F38.s0) (F38.g0 (F38.p1 n0) (F38.p2 n0) a0 b1)
theorem F38.k0 : F38.c0.ok = true := by kernel_rfl
theorem F38.d0 {n0 : Nat} : F38.p0 n0 = wA Try.prog n0 26 none F38.c0 := by kernel_rfl
theorem F38.m0 (n0 : Nat) : MonoW (F38.p0 n0) := @mono_c Try.prog n0 26 none F38.c0 (F38.p0 n0) (F38.d0) F38.k0
noncomputable def F38.t1 (n0 : Nat) (a0 b1 : Value) (ds : List Nat) (h : H) (K : KP) : Prop :=
  K .ret [(4, (.bool false))] ds h
theorem F38.g1 {n0 : Nat} (a0 b1 : Value) {ds : List Nat} {h : H} {K : KP} : wA Try.prog n0 26 none F38.c1 [(0, a0), (1, b1)] ds h K = F38.t1 n0 a0 b1 ds h K := by kernel_rfl
theorem F38.s1 {n0 : Nat} : F38.p1 n0 = wA Try.prog n0 26 none F38.c1 := by kernel_rfl
theorem F38.e1 {n0 : Nat} {a0 b1 : Value} {ds : List Nat} {h : H} {K : KP} : F38.p1 n0 [(0, a0), (1, b1)] ds h K = F38.t1 n0 a0 b1 ds h K :=
  wchain (F38.s1) (F38.g1 a0 b1)
noncomputable def F38.t2 (n0 : Nat) (B3 : WP) (B7 : WP) (a0 b1 : Value) (ds : List Nat) (h : H) (K : KP) : Prop :=
  Bnd2 (aBuiltin Try.prog .len #[64] [a0] h) fun t12 h1 =>
  Lp [0, 1, 12, 13] B3 [(0, a0), (1, b1), (12, t12), (13, (.int .i64 0))] ds h1 (KBlk [] 0 (KSeq [] B7 K))
theorem F38.g2 {n0 : Nat} (B3 : WP) (B7 : WP) (a0 b1 : Value) {ds : List Nat} {h : H} {K : KP} : wA Try.prog n0 26 none (.seq [] (.seq [0, 1, 12, 13] F38.c2.fst.fst (.block [] 0 (.loop [0, 1, 12, 13] (.sub B3)))) (.sub B7)) [(0, a0), (1, b1)] ds h K = F38.t2 n0 B3 B7 a0 b1 ds h K := by kernel_rfl
theorem F38.s2 {n0 : Nat} : F38.p2 n0 = wA Try.prog n0 26 none (.seq [] (.seq [0, 1, 12, 13] F38.c2.fst.fst (.block [] 0 (.loop [0, 1, 12, 13] (.sub (F38.p3 n0))))) (.sub (F38.p7 n0))) := by kernel_rfl
theorem F38.e2 {n0 : Nat} {a0 b1 : Value} {ds : List Nat} {h : H} {K : KP} : F38.p2 n0 [(0, a0), (1, b1)] ds h K = F38.t2 n0 (F38.p3 n0) (F38.p7 n0) a0 b1 ds h K :=
  wchain (F38.s2) (F38.g2 (F38.p3 n0) (F38.p7 n0) a0 b1)
noncomputable def F38.t3 (n0 : Nat) (B4 : WP) (a0 b1 t12 t13 : Value) (ds : List Nat) (h : H) (K : KP) : Prop :=
  Bnd (aBin Try.prog false .lss 3 t13 t12) fun t14 =>
  Cnd t14
   (B4 [(0, a0), (1, b1), (12, t12), (13, t13)] ds h K)
   (K (.exit 0) [(0, a0), (1, b1), (12, t12), (13, t13)] ds h)
theorem F38.g3 {n0 : Nat} (B4 : WP) (a0 b1 t12 t13 : Value) {ds : List Nat} {h : H} {K : KP} : wA Try.prog n0 26 none (.seq [0, 1, 12, 13, 14] F38.c3.fst (.seq [0, 1, 12, 13] F38.c3.snd.fst (.sub B4))) [(0, a0), (1, b1), (12, t12), (13, t13)] ds h K = F38.t3 n0 B4 a0 b1 t12 t13 ds h K := by kernel_rfl
theorem F38.s3 {n0 : Nat} : F38.p3 n0 = wA Try.prog n0 26 none (.seq [0, 1, 12, 13, 14] F38.c3.fst (.seq [0, 1, 12, 13] F38.c3.snd.fst (.sub (F38.p4 n0)))) := by kernel_rfl
theorem F38.e3 {n0 : Nat} {a0 b1 t12 t13 : Value} {ds : List Nat} {h : H} {K : KP} : F38.p3 n0 [(0, a0), (1, b1), (12, t12), (13, t13)] ds h K = F38.t3 n0 (F38.p4 n0) a0 b1 t12 t13 ds h K :=
  wchain (F38.s3) (F38.g3 (F38.p4 n0) a0 b1 t12 t13)
theorem F38.k3 : F38.c3.ok = true := by kernel_rfl
theorem F38.d3 {n0 : Nat} : F38.p3 n0 = wA Try.prog n0 26 none F38.c3 := by kernel_rfl
theorem F38.m3 (n0 : Nat) : MonoW (F38.p3 n0) := @mono_c Try.prog n0 26 none F38.c3 (F38.p3 n0) (F38.d3) F38.k3
noncomputable def F38.t4 (n0 : Nat) (B5 : WP) (B6 : WP) (a0 b1 t12 t13 : Value) (ds : List Nat) (h : H) (K : KP) : Prop :=
  Bnd (aIndexAddr Try.prog 64 a0 t13) fun t18 =>
  Bnd (aLoad Try.prog 26 t18 h) fun t19 =>
  Bnd (aIndexAddr Try.prog 64 b1 t13) fun t22 =>
  Bnd (aLoad Try.prog 26 t22 h) fun t23 =>
  Bnd (aBin Try.prog false .neq 26 t19 t23) fun t24 =>
  Cnd t24
   (B5 [(0, a0), (1, b1), (12, t12), (13, t13)] ds h (KBlk [0, 1, 12, 13] 1 (KSeq [0, 1, 12, 13] B6 K)))
   (B6 [(0, a0), (1, b1), (12, t12), (13, t13)] ds h K)
theorem F38.g4 {n0 : Nat} (B5 : WP) (B6 : WP) (a0 b1 t12 t13 : Value) {ds : List Nat} {h : H} {K : KP} : wA Try.prog n0 26 none (.seq [0, 1, 12, 13] (.block [0, 1, 12, 13] 1 (.seq [0, 1, 5, 12, 13] F38.c4.fst.fst.fst (.seq [0, 1, 12, 13, 24] F38.c4.fst.fst.snd.fst (.cond [0, 1, 12, 13] (.tmp 24) (.sub B5) F38.c4.fst.fst.snd.snd.snd)))) (.sub B6)) [(0, a0), (1, b1), (12, t12), (13, t13)] ds h K = F38.t4 n0 B5 B6 a0 b1 t12 t13 ds h K := by kernel_rfl
theorem F38.s4 {n0 : Nat} : F38.p4 n0 = wA Try.prog n0 26 none (.seq [0, 1, 12, 13] (.block [0, 1, 12, 13] 1 (.seq [0, 1, 5, 12, 13] F38.c4.fst.fst.fst (.seq [0, 1, 12, 13, 24] F38.c4.fst.fst.snd.fst (.cond [0, 1, 12, 13] (.tmp 24) (.sub (F38.p5 n0)) F38.c4.fst.fst.snd.snd.snd)))) (.sub (F38.p6 n0))) := by kernel_rfl
theorem F38.e4 {n0 : Nat} {a0 b1 t12 t13 : Value} {ds : List Nat} {h : H} {K : KP} : F38.p4 n0 [(0, a0), (1, b1), (12, t12), (13, t13)] ds h K = F38.t4 n0 (F38.p5 n0) (F38.p6 n0) a0 b1 t12 t13 ds h K :=
  wchain (F38.s4) (F38.g4 (F38.p5 n0) (F38.p6 n0) a0 b1 t12 t13)
noncomputable def F38.t5 (n0 : Nat) (a0 b1 t12 t13 : Value) (ds : List Nat) (h : H) (K : KP) : Prop :=
  K .ret [(4, (.bool false))] ds h
theorem F38.g5 {n0 : Nat} (a0 b1 t12 t13 : Value) {ds : List Nat} {h : H} {K : KP} : wA Try.prog n0 26 none F38.c5 [(0, a0), (1, b1), (12, t12), (13, t13)] ds h K = F38.t5 n0 a0 b1 t12 t13 ds h K := by kernel_rfl
theorem F38.s5 {n0 : Nat} : F38.p5 n0 = wA Try.prog n0 26 none F38.c5 := by kernel_rfl
theorem F38.e5 {n0 : Nat} {a0 b1 t12 t13 : Value} {ds : List Nat} {h : H} {K : KP} : F38.p5 n0 [(0, a0), (1, b1), (12, t12), (13, t13)] ds h K = F38.t5 n0 a0 b1 t12 t13 ds h K :=
  wchain (F38.s5) (F38.g5 a0 b1 t12 t13)
noncomputable def F38.t6 (n0 : Nat) (a0 b1 t12 t13 : Value) (ds : List Nat) (h : H) (K : KP) : Prop :=
  Bnd (aBin Try.prog true .add 3 t13 (.int .i64 1)) fun t25 =>
  K .normal [(0, a0), (1, b1), (12, t12), (13, t25), (25, t25)] ds h
theorem F38.g6 {n0 : Nat} (a0 b1 t12 t13 : Value) {ds : List Nat} {h : H} {K : KP} : wA Try.prog n0 26 none F38.c6 [(0, a0), (1, b1), (12, t12), (13, t13)] ds h K = F38.t6 n0 a0 b1 t12 t13 ds h K := by kernel_rfl
theorem F38.s6 {n0 : Nat} : F38.p6 n0 = wA Try.prog n0 26 none F38.c6 := by kernel_rfl
theorem F38.e6 {n0 : Nat} {a0 b1 t12 t13 : Value} {ds : List Nat} {h : H} {K : KP} : F38.p6 n0 [(0, a0), (1, b1), (12, t12), (13, t13)] ds h K = F38.t6 n0 a0 b1 t12 t13 ds h K :=
  wchain (F38.s6) (F38.g6 a0 b1 t12 t13)
noncomputable def F38.t7 (n0 : Nat) (ds : List Nat) (h : H) (K : KP) : Prop :=
  K .ret [(4, (.bool true))] ds h
theorem F38.g7 {n0 : Nat} {ds : List Nat} {h : H} {K : KP} : wA Try.prog n0 26 none F38.c7 [] ds h K = F38.t7 n0  ds h K := by kernel_rfl
theorem F38.s7 {n0 : Nat} : F38.p7 n0 = wA Try.prog n0 26 none F38.c7 := by kernel_rfl
theorem F38.e7 {n0 : Nat} {ds : List Nat} {h : H} {K : KP} : F38.p7 n0 [] ds h K = F38.t7 n0  ds h K :=
  wchain (F38.s7) (F38.g7)
theorem F38.b : Try.f38.body = some F38.c0.erase := by kernel_rfl
theorem F38.b2 : (Try.f38.name == "runtime.NumGoroutine") = false := by kernel_rfl
theorem F38.b3 : Try.f38.ntmps = 26 := by kernel_rfl
theorem F38.b4 : Try.f38.results.toList = [.tmp 4] := by kernel_rfl
theorem F38.enter {n0 : Nat} {x0 x1 : Value} {h : H} {Q : Value → H → Prop} (w : F38.p0 n0 [(0, x0), (1, x1)] [] h (KFin Try.prog [.tmp 4] Q)) : Cn Try.prog n0 (.func 38) [x0, x1] h Q :=
  @fn_enter Try.prog n0 mixed 38 Try.f38 F38.c0 [x0, x1] h Q Try.func38 F38.b F38.k0 F38.b2 26 F38.b3 [.tmp 4] F38.b4 (by simp) [(0, x0), (1, x1)] rfl (wback F38.d0 w)

/-! roster.rosterlaw02.apart -/
noncomputable def F39.ac : AC := (ann (bodyOf Try.f39) [[0, 1], [0, 1], [0, 1, 12, 13], [0, 1], [0, 1, 12, 13], [0, 1, 12, 13, 14], [0, 1, 12, 13], [0, 1, 12, 13], [0, 1, 12, 13], [0, 1, 12, 13], [0, 1, 5, 12, 13], [0, 1], [0, 1, 22, 23], [0, 1], [0, 1, 22, 23], [0, 1, 22, 23, 24], [0, 1, 22, 23], [0, 1, 22, 23], [0, 1, 22, 23], [0, 1, 22, 23], [0, 1, 6, 22, 23], [0, 1, 7, 8], [0, 1, 7, 8], [0, 1, 7, 8, 33], [0, 1, 7, 8], [0, 1, 7, 8, 33], [0, 1, 7, 8, 33, 34], [0, 1, 7, 8, 33], [0, 1, 7, 8, 33], [0, 1, 7, 8, 33], [0, 1, 7, 8, 33], [0, 1, 7, 8, 33], [1, 8], [0, 1, 7, 8, 45, 46], [1, 8], [0, 1, 7, 8, 45, 46], [0, 1, 7, 8, 45, 46, 47], [0, 1, 7, 8, 45, 46], [0, 1, 7, 8, 45, 46], [0, 1, 7, 8, 45, 46], [0, 1, 7, 8, 45, 46], [0, 1, 7, 8, 9, 45, 46], [0, 1, 7, 8, 45, 46, 68], [0, 1, 7, 8, 45, 46], [4], [], [1, 8, 71, 72], [], [1, 8, 71, 72], [1, 8, 71, 72, 73], [1, 8, 71, 72], [1, 8, 71, 72], [1, 8, 71, 72], [1, 8, 71, 72], [1, 8, 10, 71, 72], [1, 8, 71, 72, 94], [1, 8, 71, 72], [4], [4]]).1
noncomputable def F39.c0 : AC := F39.ac
noncomputable def F39.c1 : AC := F39.ac.snd.fst.snd.fst.fst
noncomputable def F39.c2 : AC := F39.ac.snd.fst.snd.fst.fst.snd.snd
noncomputable def F39.c3 : AC := F39.ac.snd.fst.snd.fst.fst.snd.snd.snd
noncomputable def F39.c4 : AC := F39.ac.snd.snd
noncomputable def F39.c5 : AC := F39.ac.snd.snd.fst.snd.fst.fst
noncomputable def F39.c6 : AC := F39.ac.snd.snd.fst.snd.fst.fst.snd.snd
noncomputable def F39.c7 : AC := F39.ac.snd.snd.fst.snd.fst.fst.snd.snd.snd
noncomputable def F39.c8 : AC := F39.ac.snd.snd.snd
noncomputable def F39.c9 : AC := F39.ac.snd.snd.snd.snd.fst.snd.fst.fst
noncomputable def F39.c10 : AC := F39.ac.snd.snd.snd.snd.fst.snd.fst.fst.snd.snd
noncomputable def F39.c11 : AC := F39.ac.snd.snd.snd.snd.fst.snd.fst.fst.snd.snd.snd
noncomputable def F39.c12 : AC := F39.ac.snd.snd.snd.snd.snd
noncomputable def F39.c13 : AC := F39.ac.snd.snd.snd.snd.snd.fst.snd.fst.fst
noncomputable def F39.c14 : AC := F39.ac.snd.snd.snd.snd.snd.fst.snd.fst.fst.snd.snd
noncomputable def F39.c15 : AC := F39.ac.snd.snd.snd.snd.snd.fst.snd.fst.fst.snd.snd.fst.fst.snd.snd.fst
noncomputable def F39.c16 : AC := F39.ac.snd.snd.snd.snd.snd.fst.snd.fst.fst.snd.snd.snd
noncomputable def F39.c17 : AC := F39.ac.snd.snd.snd.snd.snd.snd
noncomputable def F39.c18 : AC := F39.ac.snd.snd.snd.snd.snd.snd.fst.snd.fst.fst
noncomputable def F39.c19 : AC := F39.ac.snd.snd.snd.snd.snd.snd.fst.snd.fst.fst.snd.snd
noncomputable def F39.c20 : AC := F39.ac.snd.snd.snd.snd.snd.snd.fst.snd.fst.fst.snd.snd.fst.fst.snd.snd.fst
noncomputable def F39.c21 : AC := F39.ac.snd.snd.snd.snd.snd.snd.fst.snd.fst.fst.snd.snd.snd
noncomputable def F39.c22 : AC := F39.ac.snd.snd.snd.snd.snd.snd.snd
noncomputable def F39.p0 (n0 : Nat) : WP := wA Try.prog n0 96 none F39.c0
noncomputable def F39.p1 (n0 : Nat) : WP := wA Try.prog n0 96 none F39.c1
noncomputable def F39.p2 (n0 : Nat) : WP := wA Try.prog n0 96 none F39.c2
noncomputable def F39.p3 (n0 : Nat) : WP := wA Try.prog n0 96 none F39.c3
noncomputable def F39.p4 (n0 : Nat) : WP := wA Try.prog n0 96 none F39.c4
noncomputable def F39.p5 (n0 : Nat) : WP := wA Try.prog n0 96 none F39.c5
noncomputable def F39.p6 (n0 : Nat) : WP := wA Try.prog n0 96 none F39.c6
noncomputable def F39.p7 (n0 : Nat) : WP := wA Try.prog n0 96 none F39.c7
noncomputable def F39.p8 (n0 : Nat) : WP := wA Try.prog n0 96 none F39.c8
noncomputable def F39.p9 (n0 : Nat) : WP := wA Try.prog n0 96 none F39.c9
noncomputable def F39.p10 (n0 : Nat) : WP := wA Try.prog n0 96 none F39.c10
noncomputable def F39.p11 (n0 : Nat) : WP := wA Try.prog n0 96 none F39.c11
noncomputable def F39.p12 (n0 : Nat) : WP := wA Try.prog n0 96 none F39.c12
noncomputable def F39.p13 (n0 : Nat) : WP := wA Try.prog n0 96 none F39.c13
noncomputable def F39.p14 (n0 : Nat) : WP := wA Try.prog n0 96 none F39.c14
noncomputable def F39.p15 (n0 : Nat) : WP := wA Try.prog n0 96 none F39.c15
noncomputable def F39.p16 (n0 : Nat) : WP := wA Try.prog n0 96 none F39.c16
noncomputable def F39.p17 (n0 : Nat) : WP := wA Try.prog n0 96 none F39.c17
noncomputable def F39.p18 (n0 : Nat) : WP := wA Try.prog n0 96 none F39.c18
noncomputable def F39.p19 (n0 : Nat) : WP := wA Try.prog n0 96 none F39.c19
noncomputable def F39.p20 (n0 : Nat) : WP := wA Try.prog n0 96 none F39.c20
noncomputable def F39.p21 (n0 : Nat) : WP := wA Try.prog n0 96 none F39.c21
noncomputable def F39.p22 (n0 : Nat) : WP := wA Try.prog n0 96 none F39.c22
noncomputable def F39.t0 (n0 : Nat) (B1 : WP) (B4 : WP) (a0 b1 : Value) (ds : List Nat) (h : H) (K : KP) : Prop :=
  Bnd2 (aBuiltin Try.prog .len #[64] [a0] h) fun t12 h1 =>
  Lp [0, 1, 12, 13] B1 [(0, a0), (1, b1), (12, t12), (13, (.int .i64 0))] ds h1 (KBlk [0, 1] 0 (KSeq [0, 1] B4 K))
theorem F39.g0 {n0 : Nat} (B1 : WP) (B4 : WP) (a0 b1 : Value) {ds : List Nat} {h : H} {K : KP} : wA Try.prog n0 96 none (.seq [0, 1] F39.c0.fst (.seq [0, 1] (.seq [0, 1, 12, 13] F39.c0.snd.fst.fst (.block [0, 1] 0 (.loop [0, 1, 12, 13] (.sub B1)))) (.sub B4))) [(0, a0), (1, b1)] ds h K = F39.t0 n0 B1 B4 a0 b1 ds h K := by kernel_rfl
theorem F39.s0 {n0 : Nat} : F39.p0 n0 = wA Try.prog n0 96 none (.seq [0, 1] F39.c0.fst (.seq [0, 1] (.seq [0, 1, 12, 13] F39.c0.snd.fst.fst (.block [0, 1] 0 (.loop [0, 1, 12, 13] (.sub (F39.p1 n0))))) (.sub (F39.p4 n0)))) := by kernel_rfl
theorem F39.e0 {n0 : Nat} {a0 b1 : Value} {ds : List Nat} {h : H} {K : KP} : F39.p0 n0 [(0, a0), (1, b1)] ds h K = F39.t0 n0 (F39.p1 n0) (F39.p4 n0) a0 b1 ds h K :=
  wchain (F39.s0) (F39.g0 (F39.p1 n0) (F39.p4 n0) a0 b1)
theorem F39.k0 : F39.c0.ok = true := by kernel_rfl
theorem F39.d0 {n0 : Nat} : F39.p0 n0 = wA Try.prog n0 96 none F39.c0 := by kernel_rfl
theorem F39.m0 (n0 : Nat) : MonoW (F39.p0 n0) := @mono_c Try.prog n0 96 none F39.c0 (F39.p0 n0) (F39.d0) F39.k0
noncomputable def F39.t1 (n0 : Nat) (B2 : WP) (a0 b1 t12 t13 : Value) (ds : List Nat) (h : H) (K : KP) : Prop :=
  Bnd (aBin Try.prog false .lss 3 t13 t12) fun t14 =>
  Cnd t14
   (B2 [(0, a0), (1, b1), (12, t12), (13, t13)] ds h K)
   (K (.exit 0) [(0, a0), (1, b1), (12, t12), (13, t13)] ds h)
theorem F39.g1 {n0 : Nat} (B2 : WP) (a0 b1 t12 t13 : Value) {ds : List Nat} {h : H} {K : KP} : wA Try.prog n0 96 none (.seq [0, 1, 12, 13, 14] F39.c1.fst (.seq [0, 1, 12, 13] F39.c1.snd.fst (.sub B2))) [(0, a0), (1, b1), (12, t12), (13, t13)] ds h K = F39.t1 n0 B2 a0 b1 t12 t13 ds h K := by kernel_rfl
theorem F39.s1 {n0 : Nat} : F39.p1 n0 = wA Try.prog n0 96 none (.seq [0, 1, 12, 13, 14] F39.c1.fst (.seq [0, 1, 12, 13] F39.c1.snd.fst (.sub (F39.p2 n0)))) := by kernel_rfl
theorem F39.e1 {n0 : Nat} {a0 b1 t12 t13 : Value} {ds : List Nat} {h : H} {K : KP} : F39.p1 n0 [(0, a0), (1, b1), (12, t12), (13, t13)] ds h K = F39.t1 n0 (F39.p2 n0) a0 b1 t12 t13 ds h K :=
  wchain (F39.s1) (F39.g1 (F39.p2 n0) a0 b1 t12 t13)
theorem F39.k1 : F39.c1.ok = true := by kernel_rfl
theorem F39.d1 {n0 : Nat} : F39.p1 n0 = wA Try.prog n0 96 none F39.c1 := by kernel_rfl
theorem F39.m1 (n0 : Nat) : MonoW (F39.p1 n0) := @mono_c Try.prog n0 96 none F39.c1 (F39.p1 n0) (F39.d1) F39.k1
noncomputable def F39.t2 (n0 : Nat) (B3 : WP) (a0 b1 t12 t13 : Value) (ds : List Nat) (h : H) (K : KP) : Prop :=
  Bnd (aBuild Try.prog 26 [(2, (.int .i64 (-1)))]) fun t18 =>
  Bnd (aIndexAddr Try.prog 64 a0 t13) fun t19 =>
  Bnd (aStore Try.prog 26 t19 t18 h) fun h1 =>
  B3 [(0, a0), (1, b1), (12, t12), (13, t13)] ds h1 K
theorem F39.g2 {n0 : Nat} (B3 : WP) (a0 b1 t12 t13 : Value) {ds : List Nat} {h : H} {K : KP} : wA Try.prog n0 96 none (.seq [0, 1, 12, 13] F39.c2.fst (.sub B3)) [(0, a0), (1, b1), (12, t12), (13, t13)] ds h K = F39.t2 n0 B3 a0 b1 t12 t13 ds h K := by kernel_rfl
theorem F39.s2 {n0 : Nat} : F39.p2 n0 = wA Try.prog n0 96 none (.seq [0, 1, 12, 13] F39.c2.fst (.sub (F39.p3 n0))) := by kernel_rfl
theorem F39.e2 {n0 : Nat} {a0 b1 t12 t13 : Value} {ds : List Nat} {h : H} {K : KP} : F39.p2 n0 [(0, a0), (1, b1), (12, t12), (13, t13)] ds h K = F39.t2 n0 (F39.p3 n0) a0 b1 t12 t13 ds h K :=
  wchain (F39.s2) (F39.g2 (F39.p3 n0) a0 b1 t12 t13)
noncomputable def F39.t3 (n0 : Nat) (a0 b1 t12 t13 : Value) (ds : List Nat) (h : H) (K : KP) : Prop :=
  Bnd (aBin Try.prog true .add 3 t13 (.int .i64 1)) fun t20 =>
  K .normal [(0, a0), (1, b1), (12, t12), (13, t20), (20, t20)] ds h
theorem F39.g3 {n0 : Nat} (a0 b1 t12 t13 : Value) {ds : List Nat} {h : H} {K : KP} : wA Try.prog n0 96 none F39.c3 [(0, a0), (1, b1), (12, t12), (13, t13)] ds h K = F39.t3 n0 a0 b1 t12 t13 ds h K := by kernel_rfl
theorem F39.s3 {n0 : Nat} : F39.p3 n0 = wA Try.prog n0 96 none F39.c3 := by kernel_rfl
theorem F39.e3 {n0 : Nat} {a0 b1 t12 t13 : Value} {ds : List Nat} {h : H} {K : KP} : F39.p3 n0 [(0, a0), (1, b1), (12, t12), (13, t13)] ds h K = F39.t3 n0 a0 b1 t12 t13 ds h K :=
  wchain (F39.s3) (F39.g3 a0 b1 t12 t13)
noncomputable def F39.t4 (n0 : Nat) (B5 : WP) (B8 : WP) (a0 b1 : Value) (ds : List Nat) (h : H) (K : KP) : Prop :=
  Bnd2 (aBuiltin Try.prog .len #[64] [b1] h) fun t22 h1 =>
  Lp [0, 1, 22, 23] B5 [(0, a0), (1, b1), (22, t22), (23, (.int .i64 0))] ds h1 (KBlk [0, 1] 2 (KSeq [0, 1] B8 K))
theorem F39.g4 {n0 : Nat} (B5 : WP) (B8 : WP) (a0 b1 : Value) {ds : List Nat} {h : H} {K : KP} : wA Try.prog n0 96 none (.seq [0, 1] (.seq [0, 1, 22, 23] F39.c4.fst.fst (.block [0, 1] 2 (.loop [0, 1, 22, 23] (.sub B5)))) (.sub B8)) [(0, a0), (1, b1)] ds h K = F39.t4 n0 B5 B8 a0 b1 ds h K := by kernel_rfl
theorem F39.s4 {n0 : Nat} : F39.p4 n0 = wA Try.prog n0 96 none (.seq [0, 1] (.seq [0, 1, 22, 23] F39.c4.fst.fst (.block [0, 1] 2 (.loop [0, 1, 22, 23] (.sub (F39.p5 n0))))) (.sub (F39.p8 n0))) := by kernel_rfl
theorem F39.e4 {n0 : Nat} {a0 b1 : Value} {ds : List Nat} {h : H} {K : KP} : F39.p4 n0 [(0, a0), (1, b1)] ds h K = F39.t4 n0 (F39.p5 n0) (F39.p8 n0) a0 b1 ds h K :=
  wchain (F39.s4) (F39.g4 (F39.p5 n0) (F39.p8 n0) a0 b1)
noncomputable def F39.t5 (n0 : Nat) (B6 : WP) (a0 b1 t22 t23 : Value) (ds : List Nat) (h : H) (K : KP) : Prop :=
  Bnd (aBin Try.prog false .lss 3 t23 t22) fun t24 =>
  Cnd t24
   (B6 [(0, a0), (1, b1), (22, t22), (23, t23)] ds h K)
   (K (.exit 2) [(0, a0), (1, b1), (22, t22), (23, t23)] ds h)
theorem F39.g5 {n0 : Nat} (B6 : WP) (a0 b1 t22 t23 : Value) {ds : List Nat} {h : H} {K : KP} : wA Try.prog n0 96 none (.seq [0, 1, 22, 23, 24] F39.c5.fst (.seq [0, 1, 22, 23] F39.c5.snd.fst (.sub B6))) [(0, a0), (1, b1), (22, t22), (23, t23)] ds h K = F39.t5 n0 B6 a0 b1 t22 t23 ds h K := by kernel_rfl
theorem F39.s5 {n0 : Nat} : F39.p5 n0 = wA Try.prog n0 96 none (.seq [0, 1, 22, 23, 24] F39.c5.fst (.seq [0, 1, 22, 23] F39.c5.snd.fst (.sub (F39.p6 n0)))) := by kernel_rfl
theorem F39.e5 {n0 : Nat} {a0 b1 t22 t23 : Value} {ds : List Nat} {h : H} {K : KP} : F39.p5 n0 [(0, a0), (1, b1), (22, t22), (23, t23)] ds h K = F39.t5 n0 (F39.p6 n0) a0 b1 t22 t23 ds h K :=
  wchain (F39.s5) (F39.g5 (F39.p6 n0) a0 b1 t22 t23)
theorem F39.k5 : F39.c5.ok = true := by kernel_rfl
theorem F39.d5 {n0 : Nat} : F39.p5 n0 = wA Try.prog n0 96 none F39.c5 := by kernel_rfl
theorem F39.m5 (n0 : Nat) : MonoW (F39.p5 n0) := @mono_c Try.prog n0 96 none F39.c5 (F39.p5 n0) (F39.d5) F39.k5
noncomputable def F39.t6 (n0 : Nat) (B7 : WP) (a0 b1 t22 t23 : Value) (ds : List Nat) (h : H) (K : KP) : Prop :=
  Bnd (aBuild Try.prog 26 [(2, (.int .i64 (-2)))]) fun t28 =>
  Bnd (aIndexAddr Try.prog 64 b1 t23) fun t29 =>
  Bnd (aStore Try.prog 26 t29 t28 h) fun h1 =>
  B7 [(0, a0), (1, b1), (22, t22), (23, t23)] ds h1 K
theorem F39.g6 {n0 : Nat} (B7 : WP) (a0 b1 t22 t23 : Value) {ds : List Nat} {h : H} {K : KP} : wA Try.prog n0 96 none (.seq [0, 1, 22, 23] F39.c6.fst (.sub B7)) [(0, a0), (1, b1), (22, t22), (23, t23)] ds h K = F39.t6 n0 B7 a0 b1 t22 t23 ds h K := by kernel_rfl
theorem F39.s6 {n0 : Nat} : F39.p6 n0 = wA Try.prog n0 96 none (.seq [0, 1, 22, 23] F39.c6.fst (.sub (F39.p7 n0))) := by kernel_rfl
theorem F39.e6 {n0 : Nat} {a0 b1 t22 t23 : Value} {ds : List Nat} {h : H} {K : KP} : F39.p6 n0 [(0, a0), (1, b1), (22, t22), (23, t23)] ds h K = F39.t6 n0 (F39.p7 n0) a0 b1 t22 t23 ds h K :=
  wchain (F39.s6) (F39.g6 (F39.p7 n0) a0 b1 t22 t23)
noncomputable def F39.t7 (n0 : Nat) (a0 b1 t22 t23 : Value) (ds : List Nat) (h : H) (K : KP) : Prop :=
  Bnd (aBin Try.prog true .add 3 t23 (.int .i64 1)) fun t30 =>
  K .normal [(0, a0), (1, b1), (22, t22), (23, t30), (30, t30)] ds h
theorem F39.g7 {n0 : Nat} (a0 b1 t22 t23 : Value) {ds : List Nat} {h : H} {K : KP} : wA Try.prog n0 96 none F39.c7 [(0, a0), (1, b1), (22, t22), (23, t23)] ds h K = F39.t7 n0 a0 b1 t22 t23 ds h K := by kernel_rfl
theorem F39.s7 {n0 : Nat} : F39.p7 n0 = wA Try.prog n0 96 none F39.c7 := by kernel_rfl
theorem F39.e7 {n0 : Nat} {a0 b1 t22 t23 : Value} {ds : List Nat} {h : H} {K : KP} : F39.p7 n0 [(0, a0), (1, b1), (22, t22), (23, t23)] ds h K = F39.t7 n0 a0 b1 t22 t23 ds h K :=
  wchain (F39.s7) (F39.g7 a0 b1 t22 t23)
noncomputable def F39.t8 (n0 : Nat) (B9 : WP) (B12 : WP) (a0 b1 : Value) (ds : List Nat) (h : H) (K : KP) : Prop :=
  Lp [0, 1, 7, 8, 33] B9 [(0, a0), (1, b1), (7, a0), (8, b1), (33, (.int .i64 0))] ds h (KBlk [0, 1, 7, 8] 4 (KSeq [0, 1, 7, 8] B12 K))
theorem F39.g8 {n0 : Nat} (B9 : WP) (B12 : WP) (a0 b1 : Value) {ds : List Nat} {h : H} {K : KP} : wA Try.prog n0 96 none (.seq [0, 1, 7, 8] F39.c8.fst (.seq [0, 1, 7, 8] (.seq [0, 1, 7, 8, 33] F39.c8.snd.fst.fst (.block [0, 1, 7, 8] 4 (.loop [0, 1, 7, 8, 33] (.sub B9)))) (.sub B12))) [(0, a0), (1, b1)] ds h K = F39.t8 n0 B9 B12 a0 b1 ds h K := by kernel_rfl
theorem F39.s8 {n0 : Nat} : F39.p8 n0 = wA Try.prog n0 96 none (.seq [0, 1, 7, 8] F39.c8.fst (.seq [0, 1, 7, 8] (.seq [0, 1, 7, 8, 33] F39.c8.snd.fst.fst (.block [0, 1, 7, 8] 4 (.loop [0, 1, 7, 8, 33] (.sub (F39.p9 n0))))) (.sub (F39.p12 n0)))) := by kernel_rfl
theorem F39.e8 {n0 : Nat} {a0 b1 : Value} {ds : List Nat} {h : H} {K : KP} : F39.p8 n0 [(0, a0), (1, b1)] ds h K = F39.t8 n0 (F39.p9 n0) (F39.p12 n0) a0 b1 ds h K :=
  wchain (F39.s8) (F39.g8 (F39.p9 n0) (F39.p12 n0) a0 b1)
noncomputable def F39.t9 (n0 : Nat) (B10 : WP) (a0 b1 x7 y8 t33 : Value) (ds : List Nat) (h : H) (K : KP) : Prop :=
  Bnd (aBin Try.prog true .lss 3 t33 (.int .i64 60)) fun t34 =>
  Cnd t34
   (B10 [(0, a0), (1, b1), (7, x7), (8, y8), (33, t33)] ds h K)
   (K (.exit 4) [(0, a0), (1, b1), (7, x7), (8, y8), (33, t33)] ds h)
theorem F39.g9 {n0 : Nat} (B10 : WP) (a0 b1 x7 y8 t33 : Value) {ds : List Nat} {h : H} {K : KP} : wA Try.prog n0 96 none (.seq [0, 1, 7, 8, 33, 34] F39.c9.fst (.seq [0, 1, 7, 8, 33] F39.c9.snd.fst (.sub B10))) [(0, a0), (1, b1), (7, x7), (8, y8), (33, t33)] ds h K = F39.t9 n0 B10 a0 b1 x7 y8 t33 ds h K := by kernel_rfl
theorem F39.s9 {n0 : Nat} : F39.p9 n0 = wA Try.prog n0 96 none (.seq [0, 1, 7, 8, 33, 34] F39.c9.fst (.seq [0, 1, 7, 8, 33] F39.c9.snd.fst (.sub (F39.p10 n0)))) := by kernel_rfl
theorem F39.e9 {n0 : Nat} {a0 b1 x7 y8 t33 : Value} {ds : List Nat} {h : H} {K : KP} : F39.p9 n0 [(0, a0), (1, b1), (7, x7), (8, y8), (33, t33)] ds h K = F39.t9 n0 (F39.p10 n0) a0 b1 x7 y8 t33 ds h K :=
  wchain (F39.s9) (F39.g9 (F39.p10 n0) a0 b1 x7 y8 t33)
theorem F39.k9 : F39.c9.ok = true := by kernel_rfl
theorem F39.d9 {n0 : Nat} : F39.p9 n0 = wA Try.prog n0 96 none F39.c9 := by kernel_rfl
theorem F39.m9 (n0 : Nat) : MonoW (F39.p9 n0) := @mono_c Try.prog n0 96 none F39.c9 (F39.p9 n0) (F39.d9) F39.k9
noncomputable def F39.t10 (n0 : Nat) (B11 : WP) (a0 b1 x7 y8 t33 : Value) (ds : List Nat) (h : H) (K : KP) : Prop :=
  Bnd (aBuild Try.prog 26 [(2, (.int .i64 (-1)))]) fun t36 =>
  Bnd2 (aBuildSlice Try.prog 64 1 [(0, t36)] h) fun t37 h1 =>
  Bnd2 (aBuiltin Try.prog .append #[64, 64] [x7, t37] h1) fun t38 h2 =>
  Bnd (aBuild Try.prog 26 [(2, (.int .i64 (-2)))]) fun t40 =>
  Bnd2 (aBuildSlice Try.prog 64 1 [(0, t40)] h2) fun t41 h3 =>
  Bnd2 (aBuiltin Try.prog .append #[64, 64] [y8, t41] h3) fun t42 h4 =>
  B11 [(0, a0), (1, b1), (7, t38), (8, t42), (33, t33)] ds h4 K
theorem F39.g10 {n0 : Nat} (B11 : WP) (a0 b1 x7 y8 t33 : Value) {ds : List Nat} {h : H} {K : KP} : wA Try.prog n0 96 none (.seq [0, 1, 7, 8, 33] F39.c10.fst (.sub B11)) [(0, a0), (1, b1), (7, x7), (8, y8), (33, t33)] ds h K = F39.t10 n0 B11 a0 b1 x7 y8 t33 ds h K := by kernel_rfl
theorem F39.s10 {n0 : Nat} : F39.p10 n0 = wA Try.prog n0 96 none (.seq [0, 1, 7, 8, 33] F39.c10.fst (.sub (F39.p11 n0))) := by kernel_rfl
theorem F39.e10 {n0 : Nat} {a0 b1 x7 y8 t33 : Value} {ds : List Nat} {h : H} {K : KP} : F39.p10 n0 [(0, a0), (1, b1), (7, x7), (8, y8), (33, t33)] ds h K = F39.t10 n0 (F39.p11 n0) a0 b1 x7 y8 t33 ds h K :=
  wchain (F39.s10) (F39.g10 (F39.p11 n0) a0 b1 x7 y8 t33)
noncomputable def F39.t11 (n0 : Nat) (a0 b1 x7 y8 t33 : Value) (ds : List Nat) (h : H) (K : KP) : Prop :=
  Bnd (aBin Try.prog true .add 3 t33 (.int .i64 1)) fun t43 =>
  K .normal [(0, a0), (1, b1), (7, x7), (8, y8), (33, t43), (43, t43)] ds h
theorem F39.g11 {n0 : Nat} (a0 b1 x7 y8 t33 : Value) {ds : List Nat} {h : H} {K : KP} : wA Try.prog n0 96 none F39.c11 [(0, a0), (1, b1), (7, x7), (8, y8), (33, t33)] ds h K = F39.t11 n0 a0 b1 x7 y8 t33 ds h K := by kernel_rfl
theorem F39.s11 {n0 : Nat} : F39.p11 n0 = wA Try.prog n0 96 none F39.c11 := by kernel_rfl
theorem F39.e11 {n0 : Nat} {a0 b1 x7 y8 t33 : Value} {ds : List Nat} {h : H} {K : KP} : F39.p11 n0 [(0, a0), (1, b1), (7, x7), (8, y8), (33, t33)] ds h K = F39.t11 n0 a0 b1 x7 y8 t33 ds h K :=
  wchain (F39.s11) (F39.g11 a0 b1 x7 y8 t33)
noncomputable def F39.t12 (n0 : Nat) (B13 : WP) (B17 : WP) (a0 b1 x7 y8 : Value) (ds : List Nat) (h : H) (K : KP) : Prop :=
  Bnd2 (aBuiltin Try.prog .len #[64] [x7] h) fun t45 h1 =>
  Lp [0, 1, 7, 8, 45, 46] B13 [(0, a0), (1, b1), (7, x7), (8, y8), (45, t45), (46, (.int .i64 0))] ds h1 (KBlk [1, 8] 6 (KSeq [1, 8] B17 K))
theorem F39.g12 {n0 : Nat} (B13 : WP) (B17 : WP) (a0 b1 x7 y8 : Value) {ds : List Nat} {h : H} {K : KP} : wA Try.prog n0 96 none (.seq [1, 8] (.seq [0, 1, 7, 8, 45, 46] F39.c12.fst.fst (.block [1, 8] 6 (.loop [0, 1, 7, 8, 45, 46] (.sub B13)))) (.sub B17)) [(0, a0), (1, b1), (7, x7), (8, y8)] ds h K = F39.t12 n0 B13 B17 a0 b1 x7 y8 ds h K := by kernel_rfl
theorem F39.s12 {n0 : Nat} : F39.p12 n0 = wA Try.prog n0 96 none (.seq [1, 8] (.seq [0, 1, 7, 8, 45, 46] F39.c12.fst.fst (.block [1, 8] 6 (.loop [0, 1, 7, 8, 45, 46] (.sub (F39.p13 n0))))) (.sub (F39.p17 n0))) := by kernel_rfl
theorem F39.e12 {n0 : Nat} {a0 b1 x7 y8 : Value} {ds : List Nat} {h : H} {K : KP} : F39.p12 n0 [(0, a0), (1, b1), (7, x7), (8, y8)] ds h K = F39.t12 n0 (F39.p13 n0) (F39.p17 n0) a0 b1 x7 y8 ds h K :=
  wchain (F39.s12) (F39.g12 (F39.p13 n0) (F39.p17 n0) a0 b1 x7 y8)
noncomputable def F39.t13 (n0 : Nat) (B14 : WP) (a0 b1 x7 y8 t45 t46 : Value) (ds : List Nat) (h : H) (K : KP) : Prop :=
  Bnd (aBin Try.prog false .lss 3 t46 t45) fun t47 =>
  Cnd t47
   (B14 [(0, a0), (1, b1), (7, x7), (8, y8), (45, t45), (46, t46)] ds h K)
   (K (.exit 6) [(0, a0), (1, b1), (7, x7), (8, y8), (45, t45), (46, t46)] ds h)
theorem F39.g13 {n0 : Nat} (B14 : WP) (a0 b1 x7 y8 t45 t46 : Value) {ds : List Nat} {h : H} {K : KP} : wA Try.prog n0 96 none (.seq [0, 1, 7, 8, 45, 46, 47] F39.c13.fst (.seq [0, 1, 7, 8, 45, 46] F39.c13.snd.fst (.sub B14))) [(0, a0), (1, b1), (7, x7), (8, y8), (45, t45), (46, t46)] ds h K = F39.t13 n0 B14 a0 b1 x7 y8 t45 t46 ds h K := by kernel_rfl
theorem F39.s13 {n0 : Nat} : F39.p13 n0 = wA Try.prog n0 96 none (.seq [0, 1, 7, 8, 45, 46, 47] F39.c13.fst (.seq [0, 1, 7, 8, 45, 46] F39.c13.snd.fst (.sub (F39.p14 n0)))) := by kernel_rfl
theorem F39.e13 {n0 : Nat} {a0 b1 x7 y8 t45 t46 : Value} {ds : List Nat} {h : H} {K : KP} : F39.p13 n0 [(0, a0), (1, b1), (7, x7), (8, y8), (45, t45), (46, t46)] ds h K = F39.t13 n0 (F39.p14 n0) a0 b1 x7 y8 t45 t46 ds h K :=
  wchain (F39.s13) (F39.g13 (F39.p14 n0) a0 b1 x7 y8 t45 t46)
theorem F39.k13 : F39.c13.ok = true := by kernel_rfl
theorem F39.d13 {n0 : Nat} : F39.p13 n0 = wA Try.prog n0 96 none F39.c13 := by kernel_rfl
theorem F39.m13 (n0 : Nat) : MonoW (F39.p13 n0) := @mono_c Try.prog n0 96 none F39.c13 (F39.p13 n0) (F39.d13) F39.k13
noncomputable def F39.t14 (n0 : Nat) (B15 : WP) (B16 : WP) (a0 b1 x7 y8 t45 t46 : Value) (ds : List Nat) (h : H) (K : KP) : Prop :=
  Bnd (aIndexAddr Try.prog 64 x7 t46) fun t51 =>
  Bnd (aFieldAddr Try.prog 26 t51 2) fun t52 =>
  Bnd (aLoad Try.prog 3 t52 h) fun t53 =>
  Bnd (aBin Try.prog true .neq 3 t53 (.int .i64 (-1))) fun t54 =>
  Gd t54
   (B15 [(0, a0), (1, b1), (7, x7), (8, y8), (45, t45), (46, t46)] ds h (KBlk [0, 1, 7, 8, 45, 46] 7 (KSeq [0, 1, 7, 8, 45, 46] B16 K)))
   (Bnd2 (aBuiltin Try.prog .len #[64] [a0] h) fun t58 h1 =>
  Bnd (aBin Try.prog false .lss 3 t46 t58) fun t59 =>
  Gd t59
   (Bnd (aIndexAddr Try.prog 64 a0 t46) fun t63 =>
  Bnd (aFieldAddr Try.prog 26 t63 2) fun t64 =>
  Bnd (aLoad Try.prog 3 t64 h1) fun t65 =>
  Bnd (aBin Try.prog true .neq 3 t65 (.int .i64 (-1))) fun t66 =>
  Cnd t66
   (B15 [(0, a0), (1, b1), (7, x7), (8, y8), (45, t45), (46, t46)] ds h1 (KBlk [0, 1, 7, 8, 45, 46] 7 (KSeq [0, 1, 7, 8, 45, 46] B16 K)))
   (B16 [(0, a0), (1, b1), (7, x7), (8, y8), (45, t45), (46, t46)] ds h1 K))
   (B16 [(0, a0), (1, b1), (7, x7), (8, y8), (45, t45), (46, t46)] ds h1 K))
theorem F39.g14 {n0 : Nat} (B15 : WP) (B16 : WP) (a0 b1 x7 y8 t45 t46 : Value) {ds : List Nat} {h : H} {K : KP} : wA Try.prog n0 96 none (.seq [0, 1, 7, 8, 45, 46] (.block [0, 1, 7, 8, 45, 46] 7 (.seq [0, 1, 7, 8, 9, 45, 46] F39.c14.fst.fst.fst (.seq [0, 1, 7, 8, 45, 46, 68] F39.c14.fst.fst.snd.fst (.cond [0, 1, 7, 8, 45, 46] (.tmp 68) (.sub B15) F39.c14.fst.fst.snd.snd.snd)))) (.sub B16)) [(0, a0), (1, b1), (7, x7), (8, y8), (45, t45), (46, t46)] ds h K = F39.t14 n0 B15 B16 a0 b1 x7 y8 t45 t46 ds h K := by kernel_rfl
theorem F39.s14 {n0 : Nat} : F39.p14 n0 = wA Try.prog n0 96 none (.seq [0, 1, 7, 8, 45, 46] (.block [0, 1, 7, 8, 45, 46] 7 (.seq [0, 1, 7, 8, 9, 45, 46] F39.c14.fst.fst.fst (.seq [0, 1, 7, 8, 45, 46, 68] F39.c14.fst.fst.snd.fst (.cond [0, 1, 7, 8, 45, 46] (.tmp 68) (.sub (F39.p15 n0)) F39.c14.fst.fst.snd.snd.snd)))) (.sub (F39.p16 n0))) := by kernel_rfl
theorem F39.e14 {n0 : Nat} {a0 b1 x7 y8 t45 t46 : Value} {ds : List Nat} {h : H} {K : KP} : F39.p14 n0 [(0, a0), (1, b1), (7, x7), (8, y8), (45, t45), (46, t46)] ds h K = F39.t14 n0 (F39.p15 n0) (F39.p16 n0) a0 b1 x7 y8 t45 t46 ds h K :=
  wchain (F39.s14) (F39.g14 (F39.p15 n0) (F39.p16 n0) a0 b1 x7 y8 t45 t46)
noncomputable def F39.t15 (n0 : Nat) (a0 b1 x7 y8 t45 t46 : Value) (ds : List Nat) (h : H) (K : KP) : Prop :=
  K .ret [(4, (.bool false))] ds h
theorem F39.g15 {n0 : Nat} (a0 b1 x7 y8 t45 t46 : Value) {ds : List Nat} {h : H} {K : KP} : wA Try.prog n0 96 none F39.c15 [(0, a0), (1, b1), (7, x7), (8, y8), (45, t45), (46, t46)] ds h K = F39.t15 n0 a0 b1 x7 y8 t45 t46 ds h K := by kernel_rfl
theorem F39.s15 {n0 : Nat} : F39.p15 n0 = wA Try.prog n0 96 none F39.c15 := by kernel_rfl
theorem F39.e15 {n0 : Nat} {a0 b1 x7 y8 t45 t46 : Value} {ds : List Nat} {h : H} {K : KP} : F39.p15 n0 [(0, a0), (1, b1), (7, x7), (8, y8), (45, t45), (46, t46)] ds h K = F39.t15 n0 a0 b1 x7 y8 t45 t46 ds h K :=
  wchain (F39.s15) (F39.g15 a0 b1 x7 y8 t45 t46)
noncomputable def F39.t16 (n0 : Nat) (a0 b1 x7 y8 t45 t46 : Value) (ds : List Nat) (h : H) (K : KP) : Prop :=
  Bnd (aBin Try.prog true .add 3 t46 (.int .i64 1)) fun t69 =>
  K .normal [(0, a0), (1, b1), (7, x7), (8, y8), (45, t45), (46, t69), (69, t69)] ds h
theorem F39.g16 {n0 : Nat} (a0 b1 x7 y8 t45 t46 : Value) {ds : List Nat} {h : H} {K : KP} : wA Try.prog n0 96 none F39.c16 [(0, a0), (1, b1), (7, x7), (8, y8), (45, t45), (46, t46)] ds h K = F39.t16 n0 a0 b1 x7 y8 t45 t46 ds h K := by kernel_rfl
theorem F39.s16 {n0 : Nat} : F39.p16 n0 = wA Try.prog n0 96 none F39.c16 := by kernel_rfl
theorem F39.e16 {n0 : Nat} {a0 b1 x7 y8 t45 t46 : Value} {ds : List Nat} {h : H} {K : KP} : F39.p16 n0 [(0, a0), (1, b1), (7, x7), (8, y8), (45, t45), (46, t46)] ds h K = F39.t16 n0 a0 b1 x7 y8 t45 t46 ds h K :=
  wchain (F39.s16) (F39.g16 a0 b1 x7 y8 t45 t46)
noncomputable def F39.t17 (n0 : Nat) (B18 : WP) (B22 : WP) (b1 y8 : Value) (ds : List Nat) (h : H) (K : KP) : Prop :=
  Bnd2 (aBuiltin Try.prog .len #[64] [y8] h) fun t71 h1 =>
  Lp [1, 8, 71, 72] B18 [(1, b1), (8, y8), (71, t71), (72, (.int .i64 0))] ds h1 (KBlk [] 8 (KSeq [] B22 K))
theorem F39.g17 {n0 : Nat} (B18 : WP) (B22 : WP) (b1 y8 : Value) {ds : List Nat} {h : H} {K : KP} : wA Try.prog n0 96 none (.seq [] (.seq [1, 8, 71, 72] F39.c17.fst.fst (.block [] 8 (.loop [1, 8, 71, 72] (.sub B18)))) (.sub B22)) [(1, b1), (8, y8)] ds h K = F39.t17 n0 B18 B22 b1 y8 ds h K := by kernel_rfl
theorem F39.s17 {n0 : Nat} : F39.p17 n0 = wA Try.prog n0 96 none (.seq [] (.seq [1, 8, 71, 72] F39.c17.fst.fst (.block [] 8 (.loop [1, 8, 71, 72] (.sub (F39.p18 n0))))) (.sub (F39.p22 n0))) := by kernel_rfl
theorem F39.e17 {n0 : Nat} {b1 y8 : Value} {ds : List Nat} {h : H} {K : KP} : F39.p17 n0 [(1, b1), (8, y8)] ds h K = F39.t17 n0 (F39.p18 n0) (F39.p22 n0) b1 y8 ds h K :=
  wchain (F39.s17) (F39.g17 (F39.p18 n0) (F39.p22 n0) b1 y8)
noncomputable def F39.t18 (n0 : Nat) (B19 : WP) (b1 y8 t71 t72 : Value) (ds : List Nat) (h : H) (K : KP) : Prop :=
  Bnd (aBin Try.prog false .lss 3 t72 t71) fun t73 =>
  Cnd t73
   (B19 [(1, b1), (8, y8), (71, t71), (72, t72)] ds h K)
   (K (.exit 8) [(1, b1), (8, y8), (71, t71), (72, t72)] ds h)
theorem F39.g18 {n0 : Nat} (B19 : WP) (b1 y8 t71 t72 : Value) {ds : List Nat} {h : H} {K : KP} : wA Try.prog n0 96 none (.seq [1, 8, 71, 72, 73] F39.c18.fst (.seq [1, 8, 71, 72] F39.c18.snd.fst (.sub B19))) [(1, b1), (8, y8), (71, t71), (72, t72)] ds h K = F39.t18 n0 B19 b1 y8 t71 t72 ds h K := by kernel_rfl
theorem F39.s18 {n0 : Nat} : F39.p18 n0 = wA Try.prog n0 96 none (.seq [1, 8, 71, 72, 73] F39.c18.fst (.seq [1, 8, 71, 72] F39.c18.snd.fst (.sub (F39.p19 n0)))) := by kernel_rfl
theorem F39.e18 {n0 : Nat} {b1 y8 t71 t72 : Value} {ds : List Nat} {h : H} {K : KP} : F39.p18 n0 [(1, b1), (8, y8), (71, t71), (72, t72)] ds h K = F39.t18 n0 (F39.p19 n0) b1 y8 t71 t72 ds h K :=
  wchain (F39.s18) (F39.g18 (F39.p19 n0) b1 y8 t71 t72)
theorem F39.k18 : F39.c18.ok = true := by kernel_rfl
theorem F39.d18 {n0 : Nat} : F39.p18 n0 = wA Try.prog n0 96 none F39.c18 := by kernel_rfl
theorem F39.m18 (n0 : Nat) : MonoW (F39.p18 n0) := @mono_c Try.prog n0 96 none F39.c18 (F39.p18 n0) (F39.d18) F39.k18
noncomputable def F39.t19 (n0 : Nat) (B20 : WP) (B21 : WP) (b1 y8 t71 t72 : Value) (ds : List Nat) (h : H) (K : KP) : Prop :=
  Bnd (aIndexAddr Try.prog 64 y8 t72) fun t77 =>
  Bnd (aFieldAddr Try.prog 26 t77 2) fun t78 =>
  Bnd (aLoad Try.prog 3 t78 h) fun t79 =>
  Bnd (aBin Try.prog true .neq 3 t79 (.int .i64 (-2))) fun t80 =>
  Gd t80
   (B20 [(1, b1), (8, y8), (71, t71), (72, t72)] ds h (KBlk [1, 8, 71, 72] 9 (KSeq [1, 8, 71, 72] B21 K)))
   (Bnd2 (aBuiltin Try.prog .len #[64] [b1] h) fun t84 h1 =>
  Bnd (aBin Try.prog false .lss 3 t72 t84) fun t85 =>
  Gd t85
   (Bnd (aIndexAddr Try.prog 64 b1 t72) fun t89 =>
  Bnd (aFieldAddr Try.prog 26 t89 2) fun t90 =>
  Bnd (aLoad Try.prog 3 t90 h1) fun t91 =>
  Bnd (aBin Try.prog true .neq 3 t91 (.int .i64 (-2))) fun t92 =>
  Cnd t92
   (B20 [(1, b1), (8, y8), (71, t71), (72, t72)] ds h1 (KBlk [1, 8, 71, 72] 9 (KSeq [1, 8, 71, 72] B21 K)))
   (B21 [(1, b1), (8, y8), (71, t71), (72, t72)] ds h1 K))
   (B21 [(1, b1), (8, y8), (71, t71), (72, t72)] ds h1 K))
theorem F39.g19 {n0 : Nat} (B20 : WP) (B21 : WP) (b1 y8 t71 t72 : Value) {ds : List Nat} {h : H} {K : KP} : wA Try.prog n0 96 none (.seq [1, 8, 71, 72] (.block [1, 8, 71, 72] 9 (.seq [1, 8, 10, 71, 72] F39.c19.fst.fst.fst (.seq [1, 8, 71, 72, 94] F39.c19.fst.fst.snd.fst (.cond [1, 8, 71, 72] (.tmp 94) (.sub B20) F39.c19.fst.fst.snd.snd.snd)))) (.sub B21)) [(1, b1), (8, y8), (71, t71), (72, t72)] ds h K = F39.t19 n0 B20 B21 b1 y8 t71 t72 ds h K := by kernel_rfl
theorem F39.s19 {n0 : Nat} : F39.p19 n0 = wA Try.prog n0 96 none (.seq [1, 8, 71, 72] (.block [1, 8, 71, 72] 9 (.seq [1, 8, 10, 71, 72] F39.c19.fst.fst.fst (.seq [1, 8, 71, 72, 94] F39.c19.fst.fst.snd.fst (.cond [1, 8, 71, 72] (.tmp 94) (.sub (F39.p20 n0)) F39.c19.fst.fst.snd.snd.snd)))) (.sub (F39.p21 n0))) := by kernel_rfl
theorem F39.e19 {n0 : Nat} {b1 y8 t71 t72 : Value} {ds : List Nat} {h : H} {K : KP} : F39.p19 n0 [(1, b1), (8, y8), (71, t71), (72, t72)] ds h K = F39.t19 n0 (F39.p20 n0) (F39.p21 n0) b1 y8 t71 t72 ds h K :=
  wchain (F39.s19) (F39.g19 (F39.p20 n0) (F39.p21 n0) b1 y8 t71 t72)
noncomputable def F39.t20 (n0 : Nat) (b1 y8 t71 t72 : Value) (ds : List Nat) (h : H) (K : KP) : Prop :=
  K .ret [(4, (.bool false))] ds h
theorem F39.g20 {n0 : Nat} (b1 y8 t71 t72 : Value) {ds : List Nat} {h : H} {K : KP} : wA Try.prog n0 96 none F39.c20 [(1, b1), (8, y8), (71, t71), (72, t72)] ds h K = F39.t20 n0 b1 y8 t71 t72 ds h K := by kernel_rfl
theorem F39.s20 {n0 : Nat} : F39.p20 n0 = wA Try.prog n0 96 none F39.c20 := by kernel_rfl
theorem F39.e20 {n0 : Nat} {b1 y8 t71 t72 : Value} {ds : List Nat} {h : H} {K : KP} : F39.p20 n0 [(1, b1), (8, y8), (71, t71), (72, t72)] ds h K = F39.t20 n0 b1 y8 t71 t72 ds h K :=
  wchain (F39.s20) (F39.g20 b1 y8 t71 t72)
noncomputable def F39.t21 (n0 : Nat) (b1 y8 t71 t72 : Value) (ds : List Nat) (h : H) (K : KP) : Prop :=
  Bnd (aBin Try.prog true .add 3 t72 (.int .i64 1)) fun t95 =>
  K .normal [(1, b1), (8, y8), (71, t71), (72, t95), (95, t95)] ds h
theorem F39.g21 {n0 : Nat} (b1 y8 t71 t72 : Value) {ds : List Nat} {h : H} {K : KP} : wA Try.prog n0 96 none F39.c21 [(1, b1), (8, y8), (71, t71), (72, t72)] ds h K = F39.t21 n0 b1 y8 t71 t72 ds h K := by kernel_rfl
theorem F39.s21 {n0 : Nat} : F39.p21 n0 = wA Try.prog n0 96 none F39.c21 := by kernel_rfl
theorem F39.e21 {n0 : Nat} {b1 y8 t71 t72 : Value} {ds : List Nat} {h : H} {K : KP} : F39.p21 n0 [(1, b1), (8, y8), (71, t71), (72, t72)] ds h K = F39.t21 n0 b1 y8 t71 t72 ds h K :=
  wchain (F39.s21) (F39.g21 b1 y8 t71 t72)
noncomputable def F39.t22 (n0 : Nat) (ds : List Nat) (h : H) (K : KP) : Prop :=
  K .ret [(4, (.bool true))] ds h
theorem F39.g22 {n0 : Nat} {ds : List Nat} {h : H} {K : KP} : wA Try.prog n0 96 none F39.c22 [] ds h K = F39.t22 n0  ds h K := by kernel_rfl
theorem F39.s22 {n0 : Nat} : F39.p22 n0 = wA Try.prog n0 96 none F39.c22 := by kernel_rfl
theorem F39.e22 {n0 : Nat} {ds : List Nat} {h : H} {K : KP} : F39.p22 n0 [] ds h K = F39.t22 n0  ds h K :=
  wchain (F39.s22) (F39.g22)
theorem F39.b : Try.f39.body = some F39.c0.erase := by kernel_rfl
theorem F39.b2 : (Try.f39.name == "runtime.NumGoroutine") = false := by kernel_rfl
theorem F39.b3 : Try.f39.ntmps = 96 := by kernel_rfl
theorem F39.b4 : Try.f39.results.toList = [.tmp 4] := by kernel_rfl
theorem F39.enter {n0 : Nat} {x0 x1 : Value} {h : H} {Q : Value → H → Prop} (w : F39.p0 n0 [(0, x0), (1, x1)] [] h (KFin Try.prog [.tmp 4] Q)) : Cn Try.prog n0 (.func 39) [x0, x1] h Q :=
  @fn_enter Try.prog n0 mixed 39 Try.f39 F39.c0 [x0, x1] h Q Try.func39 F39.b F39.k0 F39.b2 96 F39.b3 [.tmp 4] F39.b4 (by simp) [(0, x0), (1, x1)] rfl (wback F39.d0 w)

/-! roster.rosterlaw02.tag -/
noncomputable def F53.ac : AC := (ann (bodyOf Try.f53) [[1], [2, 3]]).1
noncomputable def F53.c0 : AC := F53.ac
noncomputable def F53.p0 (n0 : Nat) : WP := wA Try.prog n0 10 none F53.c0
noncomputable def F53.t0 (n0 : Nat) (x0 : Value) (ds : List Nat) (h : H) (K : KP) : Prop :=
  Nw (enc 0 98) (clL x0) h fun x1 h1 =>
  Bnd (aFieldAddr Try.prog 98 x1 1) fun t4 =>
  Bnd (aLoad Try.prog 24 t4 h1) fun t5 =>
  Bnd (aBin Try.prog true .and 24 t5 (.int .i8 3)) fun t6 =>
  Bnd (aFieldAddr Try.prog 98 x1 2) fun t7 =>
  Bnd (aLoad Try.prog 3 t7 h1) fun t8 =>
  Cn Try.prog n0 (.func 67) [t8, (.int .i64 31)] h1 fun t9 h2 =>
  Sm (aLoad Try.prog 24 t4 h1) t5 <|
  Sm (aLoad Try.prog 24 t4 h2) t5 <|
  K .ret [(2, t6), (3, t9)] ds h2
theorem F53.g0 {n0 : Nat} (x0 : Value) {ds : List Nat} {h : H} {K : KP} : wA Try.prog n0 10 none F53.c0 [(0, x0)] ds h K = F53.t0 n0 x0 ds h K := by kernel_rfl
theorem F53.s0 {n0 : Nat} : F53.p0 n0 = wA Try.prog n0 10 none F53.c0 := by kernel_rfl
theorem F53.e0 {n0 : Nat} {x0 : Value} {ds : List Nat} {h : H} {K : KP} : F53.p0 n0 [(0, x0)] ds h K = F53.t0 n0 x0 ds h K :=
  wchain (F53.s0) (F53.g0 x0)
theorem F53.k0 : F53.c0.ok = true := by kernel_rfl
theorem F53.d0 {n0 : Nat} : F53.p0 n0 = wA Try.prog n0 10 none F53.c0 := by kernel_rfl
theorem F53.m0 (n0 : Nat) : MonoW (F53.p0 n0) := @mono_c Try.prog n0 10 none F53.c0 (F53.p0 n0) (F53.d0) F53.k0
theorem F53.b : Try.f53.body = some F53.c0.erase := by kernel_rfl
theorem F53.b2 : (Try.f53.name == "runtime.NumGoroutine") = false := by kernel_rfl
theorem F53.b3 : Try.f53.ntmps = 10 := by kernel_rfl
theorem F53.b4 : Try.f53.results.toList = [.tmp 2, .tmp 3] := by kernel_rfl
theorem F53.enter {n0 : Nat} {x0 : Value} {h : H} {Q : Value → H → Prop} (w : F53.p0 n0 [(0, x0)] [] h (KFin Try.prog [.tmp 2, .tmp 3] Q)) : Cn Try.prog n0 (.func 53) [x0] h Q :=
  @fn_enter Try.prog n0 mixed 53 Try.f53 F53.c0 [x0] h Q Try.func53 F53.b F53.k0 F53.b2 10 F53.b3 [.tmp 2, .tmp 3] F53.b4 (by simp) [(0, x0)] rfl (wback F53.d0 w)

/-! roster.rosterlaw02.cut -/
noncomputable def F54.ac : AC := (ann (bodyOf Try.f54) [[0], [2]]).1
noncomputable def F54.c0 : AC := F54.ac
noncomputable def F54.p0 (n0 : Nat) : WP := wA Try.prog n0 8 none F54.c0
noncomputable def F54.t0 (n0 : Nat) (s0 : Value) (ds : List Nat) (h : H) (K : KP) : Prop :=
  Bnd2 (aBuiltin Try.prog .len #[9] [s0] h) fun t5 h1 =>
  Bnd2 (aBuiltin Try.prog .min #[3, 3] [t5, (.int .i64 65536)] h1) fun t6 h2 =>
  Bnd (aSlice Try.prog 9 s0 none (some t6) none h2) fun t7 =>
  K .ret [(2, t7)] ds h2
theorem F54.g0 {n0 : Nat} (s0 : Value) {ds : List Nat} {h : H} {K : KP} : wA Try.prog n0 8 none F54.c0 [(0, s0)] ds h K = F54.t0 n0 s0 ds h K := by kernel_rfl
theorem F54.s0 {n0 : Nat} : F54.p0 n0 = wA Try.prog n0 8 none F54.c0 := by kernel_rfl
theorem F54.e0 {n0 : Nat} {s0 : Value} {ds : List Nat} {h : H} {K : KP} : F54.p0 n0 [(0, s0)] ds h K = F54.t0 n0 s0 ds h K :=
  wchain (F54.s0) (F54.g0 s0)
theorem F54.k0 : F54.c0.ok = true := by kernel_rfl
theorem F54.d0 {n0 : Nat} : F54.p0 n0 = wA Try.prog n0 8 none F54.c0 := by kernel_rfl
theorem F54.m0 (n0 : Nat) : MonoW (F54.p0 n0) := @mono_c Try.prog n0 8 none F54.c0 (F54.p0 n0) (F54.d0) F54.k0
theorem F54.b : Try.f54.body = some F54.c0.erase := by kernel_rfl
theorem F54.b2 : (Try.f54.name == "runtime.NumGoroutine") = false := by kernel_rfl
theorem F54.b3 : Try.f54.ntmps = 8 := by kernel_rfl
theorem F54.b4 : Try.f54.results.toList = [.tmp 2] := by kernel_rfl
theorem F54.enter {n0 : Nat} {x0 : Value} {h : H} {Q : Value → H → Prop} (w : F54.p0 n0 [(0, x0)] [] h (KFin Try.prog [.tmp 2] Q)) : Cn Try.prog n0 (.func 54) [x0] h Q :=
  @fn_enter Try.prog n0 mixed 54 Try.f54 F54.c0 [x0] h Q Try.func54 F54.b F54.k0 F54.b2 8 F54.b3 [.tmp 2] F54.b4 (by simp) [(0, x0)] rfl (wback F54.d0 w)

/-! roster.ber.Each$1 -/
noncomputable def F55.ac : AC := (ann (bodyOf Try.f55) [[0, 5, 6, 7], [], [0, 5, 6, 7], [0, 5, 6, 7, 8], [0, 5, 6, 7], [0, 5, 6, 7], [0, 5, 6, 7], [0, 5, 6, 7], [0, 4, 5, 6, 7], [0, 5, 6, 7, 17], [0, 5, 6, 7]]).1
noncomputable def F55.c0 : AC := F55.ac
noncomputable def F55.c1 : AC := F55.ac.snd.fst.fst
noncomputable def F55.c2 : AC := F55.ac.snd.fst.fst.snd.snd
noncomputable def F55.c3 : AC := F55.ac.snd.fst.fst.snd.snd.snd
noncomputable def F55.p0 (n0 : Nat) : WP := wA Try.prog n0 19 none F55.c0
noncomputable def F55.p1 (n0 : Nat) : WP := wA Try.prog n0 19 none F55.c1
noncomputable def F55.p2 (n0 : Nat) : WP := wA Try.prog n0 19 none F55.c2
noncomputable def F55.p3 (n0 : Nat) : WP := wA Try.prog n0 19 none F55.c3
noncomputable def F55.t0 (n0 : Nat) (B1 : WP) (yield0 t1 : Value) (ds : List Nat) (h : H) (K : KP) : Prop :=
  Bnd (aLoad Try.prog 100 t1 h) fun t5 =>
  Bnd2 (aBuiltin Try.prog .len #[100] [t5] h) fun t6 h1 =>
  Lp [0, 5, 6, 7] B1 [(0, yield0), (5, t5), (6, t6), (7, (.int .i64 0))] ds h1 (KBlk [] 0 K)
theorem F55.g0 {n0 : Nat} (B1 : WP) (yield0 t1 : Value) {ds : List Nat} {h : H} {K : KP} : wA Try.prog n0 19 none (.seq [0, 5, 6, 7] F55.c0.fst (.block [] 0 (.loop [0, 5, 6, 7] (.sub B1)))) [(0, yield0), (1, t1)] ds h K = F55.t0 n0 B1 yield0 t1 ds h K := by kernel_rfl
theorem F55.s0 {n0 : Nat} : F55.p0 n0 = wA Try.prog n0 19 none (.seq [0, 5, 6, 7] F55.c0.fst (.block [] 0 (.loop [0, 5, 6, 7] (.sub (F55.p1 n0))))) := by kernel_rfl
theorem F55.e0 {n0 : Nat} {yield0 t1 : Value} {ds : List Nat} {h : H} {K : KP} : F55.p0 n0 [(0, yield0), (1, t1)] ds h K = F55.t0 n0 (F55.p1 n0) yield0 t1 ds h K :=
  wchain (F55.s0) (F55.g0 (F55.p1 n0) yield0 t1)
theorem F55.k0 : F55.c0.ok = true := by kernel_rfl
theorem F55.d0 {n0 : Nat} : F55.p0 n0 = wA Try.prog n0 19 none F55.c0 := by kernel_rfl
theorem F55.m0 (n0 : Nat) : MonoW (F55.p0 n0) := @mono_c Try.prog n0 19 none F55.c0 (F55.p0 n0) (F55.d0) F55.k0
noncomputable def F55.t1 (n0 : Nat) (B2 : WP) (yield0 t5 t6 t7 : Value) (ds : List Nat) (h : H) (K : KP) : Prop :=
  Bnd (aBin Try.prog false .lss 3 t7 t6) fun t8 =>
  Cnd t8
   (B2 [(0, yield0), (5, t5), (6, t6), (7, t7)] ds h K)
   (K (.exit 0) [(0, yield0), (5, t5), (6, t6), (7, t7)] ds h)
theorem F55.g1 {n0 : Nat} (B2 : WP) (yield0 t5 t6 t7 : Value) {ds : List Nat} {h : H} {K : KP} : wA Try.prog n0 19 none (.seq [0, 5, 6, 7, 8] F55.c1.fst (.seq [0, 5, 6, 7] F55.c1.snd.fst (.sub B2))) [(0, yield0), (5, t5), (6, t6), (7, t7)] ds h K = F55.t1 n0 B2 yield0 t5 t6 t7 ds h K := by kernel_rfl
theorem F55.s1 {n0 : Nat} : F55.p1 n0 = wA Try.prog n0 19 none (.seq [0, 5, 6, 7, 8] F55.c1.fst (.seq [0, 5, 6, 7] F55.c1.snd.fst (.sub (F55.p2 n0)))) := by kernel_rfl
theorem F55.e1 {n0 : Nat} {yield0 t5 t6 t7 : Value} {ds : List Nat} {h : H} {K : KP} : F55.p1 n0 [(0, yield0), (5, t5), (6, t6), (7, t7)] ds h K = F55.t1 n0 (F55.p2 n0) yield0 t5 t6 t7 ds h K :=
  wchain (F55.s1) (F55.g1 (F55.p2 n0) yield0 t5 t6 t7)
theorem F55.k1 : F55.c1.ok = true := by kernel_rfl
theorem F55.d1 {n0 : Nat} : F55.p1 n0 = wA Try.prog n0 19 none F55.c1 := by kernel_rfl
theorem F55.m1 (n0 : Nat) : MonoW (F55.p1 n0) := @mono_c Try.prog n0 19 none F55.c1 (F55.p1 n0) (F55.d1) F55.k1
noncomputable def F55.t2 (n0 : Nat) (B3 : WP) (yield0 t5 t6 t7 : Value) (ds : List Nat) (h : H) (K : KP) : Prop :=
  Bnd (aIndexAddr Try.prog 100 t5 t7) fun t9 =>
  Bnd (aLoad Try.prog 102 t9 h) fun t10 =>
  Nw (enc 0 102) (zc Try.prog 102) h fun p4 h1 =>
  Bnd (aStore Try.prog 102 p4 t10 h1) fun h2 =>
  Bnd (aFieldAddr Try.prog 102 p4 0) fun t12 =>
  Bnd (aLoad Try.prog 3 t12 h2) fun t13 =>
  Bnd (aFieldAddr Try.prog 102 p4 1) fun t14 =>
  Bnd (aLoad Try.prog 26 t14 h2) fun t15 =>
  CallV Try.prog n0 yield0 [t13, t15] h2 fun t16 h3 =>
  Bnd (aUn .not t16) fun t17 =>
  Cnd t17
   (K .ret [(0, yield0), (5, t5), (6, t6), (7, t7)] ds h3)
   (B3 [(0, yield0), (5, t5), (6, t6), (7, t7)] ds h3 K)
theorem F55.g2 {n0 : Nat} (B3 : WP) (yield0 t5 t6 t7 : Value) {ds : List Nat} {h : H} {K : KP} : wA Try.prog n0 19 none (.seq [0, 5, 6, 7] F55.c2.fst (.sub B3)) [(0, yield0), (5, t5), (6, t6), (7, t7)] ds h K = F55.t2 n0 B3 yield0 t5 t6 t7 ds h K := by kernel_rfl
theorem F55.s2 {n0 : Nat} : F55.p2 n0 = wA Try.prog n0 19 none (.seq [0, 5, 6, 7] F55.c2.fst (.sub (F55.p3 n0))) := by kernel_rfl
theorem F55.e2 {n0 : Nat} {yield0 t5 t6 t7 : Value} {ds : List Nat} {h : H} {K : KP} : F55.p2 n0 [(0, yield0), (5, t5), (6, t6), (7, t7)] ds h K = F55.t2 n0 (F55.p3 n0) yield0 t5 t6 t7 ds h K :=
  wchain (F55.s2) (F55.g2 (F55.p3 n0) yield0 t5 t6 t7)
noncomputable def F55.t3 (n0 : Nat) (yield0 t5 t6 t7 : Value) (ds : List Nat) (h : H) (K : KP) : Prop :=
  Bnd (aBin Try.prog true .add 3 t7 (.int .i64 1)) fun t18 =>
  K .normal [(0, yield0), (5, t5), (6, t6), (7, t18), (18, t18)] ds h
theorem F55.g3 {n0 : Nat} (yield0 t5 t6 t7 : Value) {ds : List Nat} {h : H} {K : KP} : wA Try.prog n0 19 none F55.c3 [(0, yield0), (5, t5), (6, t6), (7, t7)] ds h K = F55.t3 n0 yield0 t5 t6 t7 ds h K := by kernel_rfl
theorem F55.s3 {n0 : Nat} : F55.p3 n0 = wA Try.prog n0 19 none F55.c3 := by kernel_rfl
theorem F55.e3 {n0 : Nat} {yield0 t5 t6 t7 : Value} {ds : List Nat} {h : H} {K : KP} : F55.p3 n0 [(0, yield0), (5, t5), (6, t6), (7, t7)] ds h K = F55.t3 n0 yield0 t5 t6 t7 ds h K :=
  wchain (F55.s3) (F55.g3 yield0 t5 t6 t7)
theorem F55.b : Try.f55.body = some F55.c0.erase := by kernel_rfl
theorem F55.b2 : (Try.f55.name == "runtime.NumGoroutine") = false := by kernel_rfl
theorem F55.b3 : Try.f55.ntmps = 19 := by kernel_rfl
theorem F55.b4 : Try.f55.results.toList = [] := by kernel_rfl
theorem F55.enter {n0 : Nat} {x0 x1 : Value} {h : H} {Q : Value → H → Prop} (w : F55.p0 n0 [(0, x0), (1, x1)] [] h (KFin Try.prog [] Q)) : Cn Try.prog n0 (.func 55) [x0, x1] h Q :=
  @fn_enter Try.prog n0 mixed 55 Try.f55 F55.c0 [x0, x1] h Q Try.func55 F55.b F55.k0 F55.b2 19 F55.b3 [] F55.b4 (by simp) [(0, x0), (1, x1)] rfl (wback F55.d0 w)

/-! roster.rosterlaw02.counted -/
noncomputable def F67.ac : AC := (ann (bodyOf Try.f67) [[0, 1], [1, 5], [5], [1, 5, 10], [1, 5], [4]]).1
noncomputable def F67.c0 : AC := F67.ac
noncomputable def F67.c1 : AC := F67.ac.snd.snd.fst.snd.fst
noncomputable def F67.c2 : AC := F67.ac.snd.snd.snd
noncomputable def F67.p0 (n0 : Nat) : WP := wA Try.prog n0 15 none F67.c0
noncomputable def F67.p1 (n0 : Nat) : WP := wA Try.prog n0 15 none F67.c1
noncomputable def F67.p2 (n0 : Nat) : WP := wA Try.prog n0 15 none F67.c2
noncomputable def F67.t0 (n0 : Nat) (B1 : WP) (B2 : WP) (i0 n1 : Value) (ds : List Nat) (h : H) (K : KP) : Prop :=
  Bnd (aBin Try.prog false .rem 3 i0 n1) fun t8 =>
  Bnd (aBin Try.prog true .lss 3 t8 (.int .i64 0)) fun t10 =>
  Cnd t10
   (B1 [(1, n1), (5, t8)] ds h (KSeq [5] B2 K))
   (B2 [(5, t8)] ds h K)
theorem F67.g0 {n0 : Nat} (B1 : WP) (B2 : WP) (i0 n1 : Value) {ds : List Nat} {h : H} {K : KP} : wA Try.prog n0 15 none (.seq [0, 1] F67.c0.fst (.seq [1, 5] F67.c0.snd.fst (.seq [5] (.seq [1, 5, 10] F67.c0.snd.snd.fst.fst (.cond [1, 5] (.tmp 10) (.sub B1) F67.c0.snd.snd.fst.snd.snd)) (.sub B2)))) [(0, i0), (1, n1)] ds h K = F67.t0 n0 B1 B2 i0 n1 ds h K := by kernel_rfl
theorem F67.s0 {n0 : Nat} : F67.p0 n0 = wA Try.prog n0 15 none (.seq [0, 1] F67.c0.fst (.seq [1, 5] F67.c0.snd.fst (.seq [5] (.seq [1, 5, 10] F67.c0.snd.snd.fst.fst (.cond [1, 5] (.tmp 10) (.sub (F67.p1 n0)) F67.c0.snd.snd.fst.snd.snd)) (.sub (F67.p2 n0))))) := by kernel_rfl
theorem F67.e0 {n0 : Nat} {i0 n1 : Value} {ds : List Nat} {h : H} {K : KP} : F67.p0 n0 [(0, i0), (1, n1)] ds h K = F67.t0 n0 (F67.p1 n0) (F67.p2 n0) i0 n1 ds h K :=
  wchain (F67.s0) (F67.g0 (F67.p1 n0) (F67.p2 n0) i0 n1)
theorem F67.k0 : F67.c0.ok = true := by kernel_rfl
theorem F67.d0 {n0 : Nat} : F67.p0 n0 = wA Try.prog n0 15 none F67.c0 := by kernel_rfl
theorem F67.m0 (n0 : Nat) : MonoW (F67.p0 n0) := @mono_c Try.prog n0 15 none F67.c0 (F67.p0 n0) (F67.d0) F67.k0
noncomputable def F67.t1 (n0 : Nat) (n1 k5 : Value) (ds : List Nat) (h : H) (K : KP) : Prop :=
  Bnd (aBin Try.prog false .add 3 k5 n1) fun t13 =>
  K .normal [(1, n1), (5, t13), (11, k5), (12, n1), (13, t13)] ds h
theorem F67.g1 {n0 : Nat} (n1 k5 : Value) {ds : List Nat} {h : H} {K : KP} : wA Try.prog n0 15 none F67.c1 [(1, n1), (5, k5)] ds h K = F67.t1 n0 n1 k5 ds h K := by kernel_rfl
theorem F67.s1 {n0 : Nat} : F67.p1 n0 = wA Try.prog n0 15 none F67.c1 := by kernel_rfl
theorem F67.e1 {n0 : Nat} {n1 k5 : Value} {ds : List Nat} {h : H} {K : KP} : F67.p1 n0 [(1, n1), (5, k5)] ds h K = F67.t1 n0 n1 k5 ds h K :=
  wchain (F67.s1) (F67.g1 n1 k5)
noncomputable def F67.t2 (n0 : Nat) (k5 : Value) (ds : List Nat) (h : H) (K : KP) : Prop :=
  K .ret [(4, k5)] ds h
theorem F67.g2 {n0 : Nat} (k5 : Value) {ds : List Nat} {h : H} {K : KP} : wA Try.prog n0 15 none F67.c2 [(5, k5)] ds h K = F67.t2 n0 k5 ds h K := by kernel_rfl
theorem F67.s2 {n0 : Nat} : F67.p2 n0 = wA Try.prog n0 15 none F67.c2 := by kernel_rfl
theorem F67.e2 {n0 : Nat} {k5 : Value} {ds : List Nat} {h : H} {K : KP} : F67.p2 n0 [(5, k5)] ds h K = F67.t2 n0 k5 ds h K :=
  wchain (F67.s2) (F67.g2 k5)
theorem F67.b : Try.f67.body = some F67.c0.erase := by kernel_rfl
theorem F67.b2 : (Try.f67.name == "runtime.NumGoroutine") = false := by kernel_rfl
theorem F67.b3 : Try.f67.ntmps = 15 := by kernel_rfl
theorem F67.b4 : Try.f67.results.toList = [.tmp 4] := by kernel_rfl
theorem F67.enter {n0 : Nat} {x0 x1 : Value} {h : H} {Q : Value → H → Prop} (w : F67.p0 n0 [(0, x0), (1, x1)] [] h (KFin Try.prog [.tmp 4] Q)) : Cn Try.prog n0 (.func 67) [x0, x1] h Q :=
  @fn_enter Try.prog n0 mixed 67 Try.f67 F67.c0 [x0, x1] h Q Try.func67 F67.b F67.k0 F67.b2 15 F67.b3 [.tmp 4] F67.b4 (by simp) [(0, x0), (1, x1)] rfl (wback F67.d0 w)

end Go.Proofs.Ytknpmldldlbniaa
