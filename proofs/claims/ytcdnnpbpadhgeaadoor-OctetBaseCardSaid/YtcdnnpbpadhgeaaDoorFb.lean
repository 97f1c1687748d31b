/- The texts of Go functions of this seat, as the evaluator comes to them: each is what wA says of the code. No condition. -/
import Derived.Test.YtcdnnpbpadhgeaaDoorEvAc3
import Derived.Test.YtcdnnpbpadhgeaaDoorSeat
set_option linter.unusedVariables false
namespace Go.Proofs.YtcdnnpbpadhgeaaDoor
open Go.Ev

/-! roster.rosterlaw01.OctetHex -/
noncomputable def F4.ac : AC := (ann (bodyOf Tryd.f4) [[0, 1], [0, 1, 5, 6], [0, 5, 6, 7, 8], [4]]).1
noncomputable def F4.c0 : AC := F4.ac
noncomputable def F4.p0 (n0 : Nat) : WP := wA Tryd.prog n0 37 none F4.c0
noncomputable def F4.t0 (n0 : Nat) (s0 t1 : Value) (ds : List Nat) (h : H) (K : KP) : Prop :=
  Cn Tryd.prog n0 (.func 14) [t1] h fun t11 h1 =>
  Bnd (tupAt t11 0) fun t12 =>
  Bnd (tupAt t11 1) fun t13 =>
  Cn Tryd.prog n0 (.func 15) [t1] h1 fun t16 h2 =>
  Bnd (tupAt t16 0) fun t17 =>
  Bnd (tupAt t16 1) fun t18 =>
  Cn Tryd.prog n0 (.func 16) [s0] h2 fun t20 h3 =>
  Cn Tryd.prog n0 (.func 17) [s0] h3 fun t22 h4 =>
  Bnd (aBin Tryd.prog false .eql 9 t20 t22) fun t23 =>
  Gd t23
   (Bnd (aBin Tryd.prog false .eql 9 t17 t12) fun t27 =>
  Gd t27
   (Bnd (aBin Tryd.prog false .eql 24 t18 t13) fun t32 =>
  Gd t32
   (Cn Tryd.prog n0 (.func 13) [] h4 fun t35 h5 =>
  K .ret [(4, t35)] ds h5)
   (K .ret [(4, (.bool false))] ds h4))
   (K .ret [(4, (.bool false))] ds h4))
   (K .ret [(4, (.bool false))] ds h4)
theorem F4.g0 {n0 : Nat} (s0 t1 : Value) {ds : List Nat} {h : H} {K : KP} : wA Tryd.prog n0 37 none F4.c0 [(0, s0), (1, t1)] ds h K = F4.t0 n0 s0 t1 ds h K := by kernel_rfl
theorem F4.s0 {n0 : Nat} : F4.p0 n0 = wA Tryd.prog n0 37 none F4.c0 := by kernel_rfl
theorem F4.e0 {n0 : Nat} {s0 t1 : Value} {ds : List Nat} {h : H} {K : KP} : F4.p0 n0 [(0, s0), (1, t1)] ds h K = F4.t0 n0 s0 t1 ds h K :=
  wchain (F4.s0) (F4.g0 s0 t1)
theorem F4.k0 : F4.c0.ok = true := by kernel_rfl
theorem F4.d0 {n0 : Nat} : F4.p0 n0 = wA Tryd.prog n0 37 none F4.c0 := by kernel_rfl
theorem F4.m0 (n0 : Nat) : MonoW (F4.p0 n0) := @mono_c Tryd.prog n0 37 none F4.c0 (F4.p0 n0) (F4.d0) F4.k0
theorem F4.b : Tryd.f4.body = some F4.c0.erase := by kernel_rfl
theorem F4.b2 : (Tryd.f4.name == "runtime.NumGoroutine") = false := by kernel_rfl
theorem F4.b3 : Tryd.f4.ntmps = 37 := by kernel_rfl
theorem F4.b4 : Tryd.f4.results.toList = [.tmp 4] := by kernel_rfl
theorem F4.enter {n0 : Nat} {x0 x1 : Value} {h : H} {Q : Value → H → Prop} (w : F4.p0 n0 [(0, x0), (1, x1)] [] h (KFin Tryd.prog [.tmp 4] Q)) : Cn Tryd.prog n0 (.func 4) [x0, x1] h Q :=
  @fn_enter Tryd.prog n0 mixed 4 Tryd.f4 F4.c0 [x0, x1] h Q Tryd.func4 F4.b F4.k0 F4.b2 37 F4.b3 [.tmp 4] F4.b4 (by simp) [(0, x0), (1, x1)] rfl (wback F4.d0 w)

/-! roster.rosterlaw01.OctetOnly -/
noncomputable def F9.ac : AC := (ann (bodyOf Tryd.f9) [[0], [0, 3, 4], [0, 3, 4, 5, 6], [0, 5, 6], [0, 5, 6, 36], [0, 5, 6], [2], [], [56], [], [2], [2]]).1
noncomputable def F9.c0 : AC := F9.ac
noncomputable def F9.c1 : AC := F9.ac.snd.snd.snd.fst.snd.fst
noncomputable def F9.c2 : AC := F9.ac.snd.snd.snd.snd
noncomputable def F9.c3 : AC := F9.ac.snd.snd.snd.snd.fst.snd.fst
noncomputable def F9.c4 : AC := F9.ac.snd.snd.snd.snd.snd
noncomputable def F9.p0 (n0 : Nat) : WP := wA Tryd.prog n0 58 none F9.c0
noncomputable def F9.p1 (n0 : Nat) : WP := wA Tryd.prog n0 58 none F9.c1
noncomputable def F9.p2 (n0 : Nat) : WP := wA Tryd.prog n0 58 none F9.c2
noncomputable def F9.p3 (n0 : Nat) : WP := wA Tryd.prog n0 58 none F9.c3
noncomputable def F9.p4 (n0 : Nat) : WP := wA Tryd.prog n0 58 none F9.c4
noncomputable def F9.t0 (n0 : Nat) (B1 : WP) (B2 : WP) (t0 : Value) (ds : List Nat) (h : H) (K : KP) : Prop :=
  Cn Tryd.prog n0 (.func 15) [t0] h fun t9 h1 =>
  Bnd (tupAt t9 0) fun t10 =>
  Bnd (tupAt t9 1) fun t11 =>
  Cn Tryd.prog n0 (.func 23) [t0] h1 fun t14 h2 =>
  Bnd (tupAt t14 0) fun t15 =>
  Bnd (tupAt t14 1) fun t16 =>
  Bnd (aBin Tryd.prog true .eql 24 t11 (.int .i64 0)) fun t18 =>
  Gd t18
   (Cn Tryd.prog n0 (.func 16) [t10] h2 fun t21 h3 =>
  Bnd (aBin Tryd.prog false .neq 9 t21 t0) fun t23 =>
  Gd t23
   (B1 [(0, t0), (5, t15), (6, t16)] ds h3 (KSeq [0, 5, 6] B2 K))
   (Bnd (aBin Tryd.prog true .neq 24 t11 (.int .i64 0)) fun t27 =>
  Gd t27
   (Bnd (aBin Tryd.prog true .neq 24 t11 (.int .i64 11)) fun t30 =>
  Gd t30
   (B1 [(0, t0), (5, t15), (6, t16)] ds h3 (KSeq [0, 5, 6] B2 K))
   (Bnd (aBin Tryd.prog true .neq 9 t10 (.string ⟨#[]⟩)) fun t33 =>
  Cnd t33
   (B1 [(0, t0), (5, t15), (6, t16)] ds h3 (KSeq [0, 5, 6] B2 K))
   (B2 [(0, t0), (5, t15), (6, t16)] ds h3 K)))
   (B2 [(0, t0), (5, t15), (6, t16)] ds h3 K)))
   (Bnd (aBin Tryd.prog true .neq 24 t11 (.int .i64 0)) fun t27 =>
  Gd t27
   (Bnd (aBin Tryd.prog true .neq 24 t11 (.int .i64 11)) fun t30 =>
  Gd t30
   (B1 [(0, t0), (5, t15), (6, t16)] ds h2 (KSeq [0, 5, 6] B2 K))
   (Bnd (aBin Tryd.prog true .neq 9 t10 (.string ⟨#[]⟩)) fun t33 =>
  Cnd t33
   (B1 [(0, t0), (5, t15), (6, t16)] ds h2 (KSeq [0, 5, 6] B2 K))
   (B2 [(0, t0), (5, t15), (6, t16)] ds h2 K)))
   (B2 [(0, t0), (5, t15), (6, t16)] ds h2 K))
theorem F9.g0 {n0 : Nat} (B1 : WP) (B2 : WP) (t0 : Value) {ds : List Nat} {h : H} {K : KP} : wA Tryd.prog n0 58 none (.seq [0] F9.c0.fst (.seq [0, 3, 4] F9.c0.snd.fst (.seq [0, 3, 4, 5, 6] F9.c0.snd.snd.fst (.seq [0, 5, 6] (.seq [0, 5, 6, 36] F9.c0.snd.snd.snd.fst.fst (.cond [0, 5, 6] (.tmp 36) (.sub B1) F9.c0.snd.snd.snd.fst.snd.snd)) (.sub B2))))) [(0, t0)] ds h K = F9.t0 n0 B1 B2 t0 ds h K := by kernel_rfl
theorem F9.s0 {n0 : Nat} : F9.p0 n0 = wA Tryd.prog n0 58 none (.seq [0] F9.c0.fst (.seq [0, 3, 4] F9.c0.snd.fst (.seq [0, 3, 4, 5, 6] F9.c0.snd.snd.fst (.seq [0, 5, 6] (.seq [0, 5, 6, 36] F9.c0.snd.snd.snd.fst.fst (.cond [0, 5, 6] (.tmp 36) (.sub (F9.p1 n0)) F9.c0.snd.snd.snd.fst.snd.snd)) (.sub (F9.p2 n0)))))) := by kernel_rfl
theorem F9.e0 {n0 : Nat} {t0 : Value} {ds : List Nat} {h : H} {K : KP} : F9.p0 n0 [(0, t0)] ds h K = F9.t0 n0 (F9.p1 n0) (F9.p2 n0) t0 ds h K :=
  wchain (F9.s0) (F9.g0 (F9.p1 n0) (F9.p2 n0) t0)
theorem F9.k0 : F9.c0.ok = true := by kernel_rfl
theorem F9.d0 {n0 : Nat} : F9.p0 n0 = wA Tryd.prog n0 58 none F9.c0 := by kernel_rfl
theorem F9.m0 (n0 : Nat) : MonoW (F9.p0 n0) := @mono_c Tryd.prog n0 58 none F9.c0 (F9.p0 n0) (F9.d0) F9.k0
noncomputable def F9.t1 (n0 : Nat) (t0 b5 f6 : Value) (ds : List Nat) (h : H) (K : KP) : Prop :=
  K .ret [(2, (.bool false))] ds h
theorem F9.g1 {n0 : Nat} (t0 b5 f6 : Value) {ds : List Nat} {h : H} {K : KP} : wA Tryd.prog n0 58 none F9.c1 [(0, t0), (5, b5), (6, f6)] ds h K = F9.t1 n0 t0 b5 f6 ds h K := by kernel_rfl
theorem F9.s1 {n0 : Nat} : F9.p1 n0 = wA Tryd.prog n0 58 none F9.c1 := by kernel_rfl
theorem F9.e1 {n0 : Nat} {t0 b5 f6 : Value} {ds : List Nat} {h : H} {K : KP} : F9.p1 n0 [(0, t0), (5, b5), (6, f6)] ds h K = F9.t1 n0 t0 b5 f6 ds h K :=
  wchain (F9.s1) (F9.g1 t0 b5 f6)
noncomputable def F9.t2 (n0 : Nat) (B3 : WP) (B4 : WP) (t0 b5 f6 : Value) (ds : List Nat) (h : H) (K : KP) : Prop :=
  Bnd (aBin Tryd.prog true .eql 24 f6 (.int .i64 0)) fun t38 =>
  Gd t38
   (Cn Tryd.prog n0 (.func 24) [b5] h fun t41 h1 =>
  Bnd (aBin Tryd.prog false .neq 9 t41 t0) fun t43 =>
  Gd t43
   (B3 [] ds h1 (KSeq [] B4 K))
   (Bnd (aBin Tryd.prog true .neq 24 f6 (.int .i64 0)) fun t47 =>
  Gd t47
   (Bnd (aBin Tryd.prog true .neq 24 f6 (.int .i64 13)) fun t50 =>
  Gd t50
   (B3 [] ds h1 (KSeq [] B4 K))
   (Bnd (aBin Tryd.prog true .neq 9 b5 (.string ⟨#[]⟩)) fun t53 =>
  Cnd t53
   (B3 [] ds h1 (KSeq [] B4 K))
   (B4 [] ds h1 K)))
   (B4 [] ds h1 K)))
   (Bnd (aBin Tryd.prog true .neq 24 f6 (.int .i64 0)) fun t47 =>
  Gd t47
   (Bnd (aBin Tryd.prog true .neq 24 f6 (.int .i64 13)) fun t50 =>
  Gd t50
   (B3 [] ds h (KSeq [] B4 K))
   (Bnd (aBin Tryd.prog true .neq 9 b5 (.string ⟨#[]⟩)) fun t53 =>
  Cnd t53
   (B3 [] ds h (KSeq [] B4 K))
   (B4 [] ds h K)))
   (B4 [] ds h K))
theorem F9.g2 {n0 : Nat} (B3 : WP) (B4 : WP) (t0 b5 f6 : Value) {ds : List Nat} {h : H} {K : KP} : wA Tryd.prog n0 58 none (.seq [] (.seq [56] F9.c2.fst.fst (.cond [] (.tmp 56) (.sub B3) F9.c2.fst.snd.snd)) (.sub B4)) [(0, t0), (5, b5), (6, f6)] ds h K = F9.t2 n0 B3 B4 t0 b5 f6 ds h K := by kernel_rfl
theorem F9.s2 {n0 : Nat} : F9.p2 n0 = wA Tryd.prog n0 58 none (.seq [] (.seq [56] F9.c2.fst.fst (.cond [] (.tmp 56) (.sub (F9.p3 n0)) F9.c2.fst.snd.snd)) (.sub (F9.p4 n0))) := by kernel_rfl
theorem F9.e2 {n0 : Nat} {t0 b5 f6 : Value} {ds : List Nat} {h : H} {K : KP} : F9.p2 n0 [(0, t0), (5, b5), (6, f6)] ds h K = F9.t2 n0 (F9.p3 n0) (F9.p4 n0) t0 b5 f6 ds h K :=
  wchain (F9.s2) (F9.g2 (F9.p3 n0) (F9.p4 n0) t0 b5 f6)
noncomputable def F9.t3 (n0 : Nat) (ds : List Nat) (h : H) (K : KP) : Prop :=
  K .ret [(2, (.bool false))] ds h
theorem F9.g3 {n0 : Nat} {ds : List Nat} {h : H} {K : KP} : wA Tryd.prog n0 58 none F9.c3 [] ds h K = F9.t3 n0  ds h K := by kernel_rfl
theorem F9.s3 {n0 : Nat} : F9.p3 n0 = wA Tryd.prog n0 58 none F9.c3 := by kernel_rfl
theorem F9.e3 {n0 : Nat} {ds : List Nat} {h : H} {K : KP} : F9.p3 n0 [] ds h K = F9.t3 n0  ds h K :=
  wchain (F9.s3) (F9.g3)
noncomputable def F9.t4 (n0 : Nat) (ds : List Nat) (h : H) (K : KP) : Prop :=
  Cn Tryd.prog n0 (.func 13) [] h fun t57 h1 =>
  K .ret [(2, t57)] ds h1
theorem F9.g4 {n0 : Nat} {ds : List Nat} {h : H} {K : KP} : wA Tryd.prog n0 58 none F9.c4 [] ds h K = F9.t4 n0  ds h K := by kernel_rfl
theorem F9.s4 {n0 : Nat} : F9.p4 n0 = wA Tryd.prog n0 58 none F9.c4 := by kernel_rfl
theorem F9.e4 {n0 : Nat} {ds : List Nat} {h : H} {K : KP} : F9.p4 n0 [] ds h K = F9.t4 n0  ds h K :=
  wchain (F9.s4) (F9.g4)
theorem F9.b : Tryd.f9.body = some F9.c0.erase := by kernel_rfl
theorem F9.b2 : (Tryd.f9.name == "runtime.NumGoroutine") = false := by kernel_rfl
theorem F9.b3 : Tryd.f9.ntmps = 58 := by kernel_rfl
theorem F9.b4 : Tryd.f9.results.toList = [.tmp 2] := by kernel_rfl
theorem F9.enter {n0 : Nat} {x0 : Value} {h : H} {Q : Value → H → Prop} (w : F9.p0 n0 [(0, x0)] [] h (KFin Tryd.prog [.tmp 2] Q)) : Cn Tryd.prog n0 (.func 9) [x0] h Q :=
  @fn_enter Tryd.prog n0 mixed 9 Tryd.f9 F9.c0 [x0] h Q Tryd.func9 F9.b F9.k0 F9.b2 58 F9.b3 [.tmp 2] F9.b4 (by simp) [(0, x0)] rfl (wback F9.d0 w)

/-! roster.rosterref01.Unhex -/
noncomputable def F14.ac : AC := (ann (bodyOf Tryd.f14) [[0], [0], [0, 11], [0], [2, 3], [0, 4], [4], [0, 4, 5], [4], [0, 4, 5], [0, 4, 5], [0, 4, 5, 15], [0, 4, 5], [0, 4, 5], [0, 4, 5], [0, 4, 5, 6], [0, 4, 5, 6, 7], [0, 4, 5, 6, 7], [0, 4, 5, 6, 7, 32], [0, 4, 5, 6, 7], [2, 3], [2, 3]]).1
noncomputable def F14.c0 : AC := F14.ac
noncomputable def F14.c1 : AC := F14.ac.snd.fst.snd.fst
noncomputable def F14.c2 : AC := F14.ac.snd.snd
noncomputable def F14.c3 : AC := F14.ac.snd.snd.snd.fst.snd.fst.fst
noncomputable def F14.c4 : AC := F14.ac.snd.snd.snd.fst.snd.fst.fst.snd
noncomputable def F14.c5 : AC := F14.ac.snd.snd.snd.fst.snd.fst.fst.snd.fst.fst.snd.snd.fst.snd.fst
noncomputable def F14.c6 : AC := F14.ac.snd.snd.snd.fst.snd.fst.fst.snd.fst.fst.snd.snd.snd
noncomputable def F14.c7 : AC := F14.ac.snd.snd.snd.fst.snd.fst.fst.snd.snd
noncomputable def F14.c8 : AC := F14.ac.snd.snd.snd.snd
noncomputable def F14.p0 (n0 : Nat) : WP := wA Tryd.prog n0 43 none F14.c0
noncomputable def F14.p1 (n0 : Nat) : WP := wA Tryd.prog n0 43 none F14.c1
noncomputable def F14.p2 (n0 : Nat) : WP := wA Tryd.prog n0 43 none F14.c2
noncomputable def F14.p3 (n0 : Nat) : WP := wA Tryd.prog n0 43 none F14.c3
noncomputable def F14.p4 (n0 : Nat) : WP := wA Tryd.prog n0 43 none F14.c4
noncomputable def F14.p5 (n0 : Nat) : WP := wA Tryd.prog n0 43 none F14.c5
noncomputable def F14.p6 (n0 : Nat) : WP := wA Tryd.prog n0 43 none F14.c6
noncomputable def F14.p7 (n0 : Nat) : WP := wA Tryd.prog n0 43 none F14.c7
noncomputable def F14.p8 (n0 : Nat) : WP := wA Tryd.prog n0 43 none F14.c8
noncomputable def F14.t0 (n0 : Nat) (B1 : WP) (B2 : WP) (s0 : Value) (ds : List Nat) (h : H) (K : KP) : Prop :=
  Bnd2 (aBuiltin Tryd.prog .len #[9] [s0] h) fun t9 h1 =>
  Bnd (aBin Tryd.prog true .rem 3 t9 (.int .i64 2)) fun t10 =>
  Bnd (aBin Tryd.prog true .neq 3 t10 (.int .i64 0)) fun t11 =>
  Cnd t11
   (B1 [(0, s0)] ds h1 (KSeq [0] B2 K))
   (B2 [(0, s0)] ds h1 K)
theorem F14.g0 {n0 : Nat} (B1 : WP) (B2 : WP) (s0 : Value) {ds : List Nat} {h : H} {K : KP} : wA Tryd.prog n0 43 none (.seq [0] F14.c0.fst (.seq [0] (.seq [0, 11] F14.c0.snd.fst.fst (.cond [0] (.tmp 11) (.sub B1) F14.c0.snd.fst.snd.snd)) (.sub B2))) [(0, s0)] ds h K = F14.t0 n0 B1 B2 s0 ds h K := by kernel_rfl
theorem F14.s0 {n0 : Nat} : F14.p0 n0 = wA Tryd.prog n0 43 none (.seq [0] F14.c0.fst (.seq [0] (.seq [0, 11] F14.c0.snd.fst.fst (.cond [0] (.tmp 11) (.sub (F14.p1 n0)) F14.c0.snd.fst.snd.snd)) (.sub (F14.p2 n0)))) := by kernel_rfl
theorem F14.e0 {n0 : Nat} {s0 : Value} {ds : List Nat} {h : H} {K : KP} : F14.p0 n0 [(0, s0)] ds h K = F14.t0 n0 (F14.p1 n0) (F14.p2 n0) s0 ds h K :=
  wchain (F14.s0) (F14.g0 (F14.p1 n0) (F14.p2 n0) s0)
theorem F14.k0 : F14.c0.ok = true := by kernel_rfl
theorem F14.d0 {n0 : Nat} : F14.p0 n0 = wA Tryd.prog n0 43 none F14.c0 := by kernel_rfl
theorem F14.m0 (n0 : Nat) : MonoW (F14.p0 n0) := @mono_c Tryd.prog n0 43 none F14.c0 (F14.p0 n0) (F14.d0) F14.k0
noncomputable def F14.t1 (n0 : Nat) (s0 : Value) (ds : List Nat) (h : H) (K : KP) : Prop :=
  K .ret [(2, (.string ⟨#[]⟩)), (3, (.int .i64 11))] ds h
theorem F14.g1 {n0 : Nat} (s0 : Value) {ds : List Nat} {h : H} {K : KP} : wA Tryd.prog n0 43 none F14.c1 [(0, s0)] ds h K = F14.t1 n0 s0 ds h K := by kernel_rfl
theorem F14.s1 {n0 : Nat} : F14.p1 n0 = wA Tryd.prog n0 43 none F14.c1 := by kernel_rfl
theorem F14.e1 {n0 : Nat} {s0 : Value} {ds : List Nat} {h : H} {K : KP} : F14.p1 n0 [(0, s0)] ds h K = F14.t1 n0 s0 ds h K :=
  wchain (F14.s1) (F14.g1 s0)
noncomputable def F14.t2 (n0 : Nat) (B3 : WP) (B8 : WP) (s0 : Value) (ds : List Nat) (h : H) (K : KP) : Prop :=
  Lp [0, 4, 5] B3 [(0, s0), (4, (.slice none 0 0)), (5, (.int .i64 0))] ds h (KBlk [4] 0 (KSeq [4] B8 K))
theorem F14.g2 {n0 : Nat} (B3 : WP) (B8 : WP) (s0 : Value) {ds : List Nat} {h : H} {K : KP} : wA Tryd.prog n0 43 none (.seq [0, 4] F14.c2.fst (.seq [4] (.seq [0, 4, 5] F14.c2.snd.fst.fst (.block [4] 0 (.loop [0, 4, 5] (.sub B3)))) (.sub B8))) [(0, s0)] ds h K = F14.t2 n0 B3 B8 s0 ds h K := by kernel_rfl
theorem F14.s2 {n0 : Nat} : F14.p2 n0 = wA Tryd.prog n0 43 none (.seq [0, 4] F14.c2.fst (.seq [4] (.seq [0, 4, 5] F14.c2.snd.fst.fst (.block [4] 0 (.loop [0, 4, 5] (.sub (F14.p3 n0))))) (.sub (F14.p8 n0)))) := by kernel_rfl
theorem F14.e2 {n0 : Nat} {s0 : Value} {ds : List Nat} {h : H} {K : KP} : F14.p2 n0 [(0, s0)] ds h K = F14.t2 n0 (F14.p3 n0) (F14.p8 n0) s0 ds h K :=
  wchain (F14.s2) (F14.g2 (F14.p3 n0) (F14.p8 n0) s0)
noncomputable def F14.t3 (n0 : Nat) (B4 : WP) (s0 b4 i5 : Value) (ds : List Nat) (h : H) (K : KP) : Prop :=
  Bnd2 (aBuiltin Tryd.prog .len #[9] [s0] h) fun t14 h1 =>
  Bnd (aBin Tryd.prog false .lss 3 i5 t14) fun t15 =>
  Cnd t15
   (B4 [(0, s0), (4, b4), (5, i5)] ds h1 K)
   (K (.exit 0) [(0, s0), (4, b4), (5, i5)] ds h1)
theorem F14.g3 {n0 : Nat} (B4 : WP) (s0 b4 i5 : Value) {ds : List Nat} {h : H} {K : KP} : wA Tryd.prog n0 43 none (.seq [0, 4, 5] F14.c3.fst (.sub B4)) [(0, s0), (4, b4), (5, i5)] ds h K = F14.t3 n0 B4 s0 b4 i5 ds h K := by kernel_rfl
theorem F14.s3 {n0 : Nat} : F14.p3 n0 = wA Tryd.prog n0 43 none (.seq [0, 4, 5] F14.c3.fst (.sub (F14.p4 n0))) := by kernel_rfl
theorem F14.e3 {n0 : Nat} {s0 b4 i5 : Value} {ds : List Nat} {h : H} {K : KP} : F14.p3 n0 [(0, s0), (4, b4), (5, i5)] ds h K = F14.t3 n0 (F14.p4 n0) s0 b4 i5 ds h K :=
  wchain (F14.s3) (F14.g3 (F14.p4 n0) s0 b4 i5)
theorem F14.k3 : F14.c3.ok = true := by kernel_rfl
theorem F14.d3 {n0 : Nat} : F14.p3 n0 = wA Tryd.prog n0 43 none F14.c3 := by kernel_rfl
theorem F14.m3 (n0 : Nat) : MonoW (F14.p3 n0) := @mono_c Tryd.prog n0 43 none F14.c3 (F14.p3 n0) (F14.d3) F14.k3
noncomputable def F14.t4 (n0 : Nat) (B5 : WP) (B6 : WP) (B7 : WP) (s0 b4 i5 : Value) (ds : List Nat) (h : H) (K : KP) : Prop :=
  Bnd (aIndex Tryd.prog 9 s0 i5) fun t20 =>
  Cn Tryd.prog n0 (.func 29) [t20, (.bool false)] h fun t21 h1 =>
  Bnd (aBin Tryd.prog true .add 3 i5 (.int .i64 1)) fun t24 =>
  Bnd (aIndex Tryd.prog 9 s0 t24) fun t25 =>
  Cn Tryd.prog n0 (.func 29) [t25, (.bool false)] h1 fun t26 h2 =>
  Bnd (aBin Tryd.prog true .lss 3 t21 (.int .i64 0)) fun t28 =>
  Gd t28
   (B5 [(0, s0), (4, b4), (5, i5), (6, t21), (7, t26)] ds h2 (KSeq [0, 4, 5, 6, 7] B6 (KBlk [0, 4, 5] 1 (KSeq [0, 4, 5] B7 K))))
   (Bnd (aBin Tryd.prog true .lss 3 t26 (.int .i64 0)) fun t31 =>
  Cnd t31
   (B5 [(0, s0), (4, b4), (5, i5), (6, t21), (7, t26)] ds h2 (KSeq [0, 4, 5, 6, 7] B6 (KBlk [0, 4, 5] 1 (KSeq [0, 4, 5] B7 K))))
   (B6 [(0, s0), (4, b4), (5, i5), (6, t21), (7, t26)] ds h2 (KBlk [0, 4, 5] 1 (KSeq [0, 4, 5] B7 K))))
theorem F14.g4 {n0 : Nat} (B5 : WP) (B6 : WP) (B7 : WP) (s0 b4 i5 : Value) {ds : List Nat} {h : H} {K : KP} : wA Tryd.prog n0 43 none (.seq [0, 4, 5] (.block [0, 4, 5] 1 (.seq [0, 4, 5, 6] F14.c4.fst.fst.fst (.seq [0, 4, 5, 6, 7] F14.c4.fst.fst.snd.fst (.seq [0, 4, 5, 6, 7] (.seq [0, 4, 5, 6, 7, 32] F14.c4.fst.fst.snd.snd.fst.fst (.cond [0, 4, 5, 6, 7] (.tmp 32) (.sub B5) F14.c4.fst.fst.snd.snd.fst.snd.snd)) (.sub B6))))) (.sub B7)) [(0, s0), (4, b4), (5, i5)] ds h K = F14.t4 n0 B5 B6 B7 s0 b4 i5 ds h K := by kernel_rfl
theorem F14.s4 {n0 : Nat} : F14.p4 n0 = wA Tryd.prog n0 43 none (.seq [0, 4, 5] (.block [0, 4, 5] 1 (.seq [0, 4, 5, 6] F14.c4.fst.fst.fst (.seq [0, 4, 5, 6, 7] F14.c4.fst.fst.snd.fst (.seq [0, 4, 5, 6, 7] (.seq [0, 4, 5, 6, 7, 32] F14.c4.fst.fst.snd.snd.fst.fst (.cond [0, 4, 5, 6, 7] (.tmp 32) (.sub (F14.p5 n0)) F14.c4.fst.fst.snd.snd.fst.snd.snd)) (.sub (F14.p6 n0)))))) (.sub (F14.p7 n0))) := by kernel_rfl
theorem F14.e4 {n0 : Nat} {s0 b4 i5 : Value} {ds : List Nat} {h : H} {K : KP} : F14.p4 n0 [(0, s0), (4, b4), (5, i5)] ds h K = F14.t4 n0 (F14.p5 n0) (F14.p6 n0) (F14.p7 n0) s0 b4 i5 ds h K :=
  wchain (F14.s4) (F14.g4 (F14.p5 n0) (F14.p6 n0) (F14.p7 n0) s0 b4 i5)
noncomputable def F14.t5 (n0 : Nat) (s0 b4 i5 x6 y7 : Value) (ds : List Nat) (h : H) (K : KP) : Prop :=
  K .ret [(2, (.string ⟨#[]⟩)), (3, (.int .i64 11))] ds h
theorem F14.g5 {n0 : Nat} (s0 b4 i5 x6 y7 : Value) {ds : List Nat} {h : H} {K : KP} : wA Tryd.prog n0 43 none F14.c5 [(0, s0), (4, b4), (5, i5), (6, x6), (7, y7)] ds h K = F14.t5 n0 s0 b4 i5 x6 y7 ds h K := by kernel_rfl
theorem F14.s5 {n0 : Nat} : F14.p5 n0 = wA Tryd.prog n0 43 none F14.c5 := by kernel_rfl
theorem F14.e5 {n0 : Nat} {s0 b4 i5 x6 y7 : Value} {ds : List Nat} {h : H} {K : KP} : F14.p5 n0 [(0, s0), (4, b4), (5, i5), (6, x6), (7, y7)] ds h K = F14.t5 n0 s0 b4 i5 x6 y7 ds h K :=
  wchain (F14.s5) (F14.g5 s0 b4 i5 x6 y7)
noncomputable def F14.t6 (n0 : Nat) (s0 b4 i5 x6 y7 : Value) (ds : List Nat) (h : H) (K : KP) : Prop :=
  Bnd (aBin Tryd.prog true .mul 3 (.int .i64 16) x6) fun t35 =>
  Bnd (aBin Tryd.prog false .add 3 t35 y7) fun t37 =>
  Bnd2 (cvt Tryd.prog 3 5 t37 h) fun t38 h1 =>
  Bnd2 (aBuildSlice Tryd.prog 31 1 [(0, t38)] h1) fun t39 h2 =>
  Bnd2 (aBuiltin Tryd.prog .append #[31, 31] [b4, t39] h2) fun t40 h3 =>
  K .normal [(0, s0), (4, t40), (5, i5), (6, x6), (7, y7), (33, b4), (34, x6), (35, t35), (36, y7), (37, t37), (38, t38), (39, t39), (40, t40)] ds h3
theorem F14.g6 {n0 : Nat} (s0 b4 i5 x6 y7 : Value) {ds : List Nat} {h : H} {K : KP} : wA Tryd.prog n0 43 none F14.c6 [(0, s0), (4, b4), (5, i5), (6, x6), (7, y7)] ds h K = F14.t6 n0 s0 b4 i5 x6 y7 ds h K := by kernel_rfl
theorem F14.s6 {n0 : Nat} : F14.p6 n0 = wA Tryd.prog n0 43 none F14.c6 := by kernel_rfl
theorem F14.e6 {n0 : Nat} {s0 b4 i5 x6 y7 : Value} {ds : List Nat} {h : H} {K : KP} : F14.p6 n0 [(0, s0), (4, b4), (5, i5), (6, x6), (7, y7)] ds h K = F14.t6 n0 s0 b4 i5 x6 y7 ds h K :=
  wchain (F14.s6) (F14.g6 s0 b4 i5 x6 y7)
noncomputable def F14.t7 (n0 : Nat) (s0 b4 i5 : Value) (ds : List Nat) (h : H) (K : KP) : Prop :=
  Bnd (aBin Tryd.prog true .add 3 i5 (.int .i64 2)) fun t17 =>
  K .normal [(0, s0), (4, b4), (5, t17), (16, i5), (17, t17)] ds h
theorem F14.g7 {n0 : Nat} (s0 b4 i5 : Value) {ds : List Nat} {h : H} {K : KP} : wA Tryd.prog n0 43 none F14.c7 [(0, s0), (4, b4), (5, i5)] ds h K = F14.t7 n0 s0 b4 i5 ds h K := by kernel_rfl
theorem F14.s7 {n0 : Nat} : F14.p7 n0 = wA Tryd.prog n0 43 none F14.c7 := by kernel_rfl
theorem F14.e7 {n0 : Nat} {s0 b4 i5 : Value} {ds : List Nat} {h : H} {K : KP} : F14.p7 n0 [(0, s0), (4, b4), (5, i5)] ds h K = F14.t7 n0 s0 b4 i5 ds h K :=
  wchain (F14.s7) (F14.g7 s0 b4 i5)
noncomputable def F14.t8 (n0 : Nat) (b4 : Value) (ds : List Nat) (h : H) (K : KP) : Prop :=
  Bnd2 (cvt Tryd.prog 31 9 b4 h) fun t42 h1 =>
  K .ret [(2, t42), (3, (.int .i64 0))] ds h1
theorem F14.g8 {n0 : Nat} (b4 : Value) {ds : List Nat} {h : H} {K : KP} : wA Tryd.prog n0 43 none F14.c8 [(4, b4)] ds h K = F14.t8 n0 b4 ds h K := by kernel_rfl
theorem F14.s8 {n0 : Nat} : F14.p8 n0 = wA Tryd.prog n0 43 none F14.c8 := by kernel_rfl
theorem F14.e8 {n0 : Nat} {b4 : Value} {ds : List Nat} {h : H} {K : KP} : F14.p8 n0 [(4, b4)] ds h K = F14.t8 n0 b4 ds h K :=
  wchain (F14.s8) (F14.g8 b4)
theorem F14.b : Tryd.f14.body = some F14.c0.erase := by kernel_rfl
theorem F14.b2 : (Tryd.f14.name == "runtime.NumGoroutine") = false := by kernel_rfl
theorem F14.b3 : Tryd.f14.ntmps = 43 := by kernel_rfl
theorem F14.b4 : Tryd.f14.results.toList = [.tmp 2, .tmp 3] := by kernel_rfl
theorem F14.enter {n0 : Nat} {x0 : Value} {h : H} {Q : Value → H → Prop} (w : F14.p0 n0 [(0, x0)] [] h (KFin Tryd.prog [.tmp 2, .tmp 3] Q)) : Cn Tryd.prog n0 (.func 14) [x0] h Q :=
  @fn_enter Tryd.prog n0 mixed 14 Tryd.f14 F14.c0 [x0] h Q Tryd.func14 F14.b F14.k0 F14.b2 43 F14.b3 [.tmp 2, .tmp 3] F14.b4 (by simp) [(0, x0)] rfl (wback F14.d0 w)

/-! roster.octet.Unhex -/
noncomputable def F15.ac : AC := (ann (bodyOf Tryd.f15) [[0], [0, 4], [4], [4], [0, 4], [0, 4], [0, 4, 8], [0, 4], [0, 4], [0, 4], [0, 4, 5, 6], [0, 4, 5], [0, 4, 5, 17], [0, 4, 5], [2, 3], [2, 3]]).1
noncomputable def F15.c0 : AC := F15.ac
noncomputable def F15.c1 : AC := F15.ac.snd.snd.fst.fst.fst
noncomputable def F15.c2 : AC := F15.ac.snd.snd.fst.fst.fst.snd
noncomputable def F15.c3 : AC := F15.ac.snd.snd.fst.fst.fst.snd.fst.fst.snd.fst.snd.fst
noncomputable def F15.c4 : AC := F15.ac.snd.snd.fst.fst.fst.snd.fst.fst.snd.snd
noncomputable def F15.c5 : AC := F15.ac.snd.snd.fst.fst.fst.snd.snd
noncomputable def F15.c6 : AC := F15.ac.snd.snd.snd
noncomputable def F15.p0 (n0 : Nat) : WP := wA Tryd.prog n0 21 none F15.c0
noncomputable def F15.p1 (n0 : Nat) : WP := wA Tryd.prog n0 21 none F15.c1
noncomputable def F15.p2 (n0 : Nat) : WP := wA Tryd.prog n0 21 none F15.c2
noncomputable def F15.p3 (n0 : Nat) : WP := wA Tryd.prog n0 21 none F15.c3
noncomputable def F15.p4 (n0 : Nat) : WP := wA Tryd.prog n0 21 none F15.c4
noncomputable def F15.p5 (n0 : Nat) : WP := wA Tryd.prog n0 21 none F15.c5
noncomputable def F15.p6 (n0 : Nat) : WP := wA Tryd.prog n0 21 none F15.c6
noncomputable def F15.t0 (n0 : Nat) (B1 : WP) (B6 : WP) (s0 : Value) (ds : List Nat) (h : H) (K : KP) : Prop :=
  Nw (enc 0 35) (zc Tryd.prog 35) h fun b4 h1 =>
  Lp [0, 4] B1 [(0, s0), (4, b4)] ds h1 (KBlk [4] 0 (KSeq [4] B6 K))
theorem F15.g0 {n0 : Nat} (B1 : WP) (B6 : WP) (s0 : Value) {ds : List Nat} {h : H} {K : KP} : wA Tryd.prog n0 21 none (.seq [0] F15.c0.fst (.seq [0, 4] F15.c0.snd.fst (.seq [4] (.block [4] 0 (.loop [0, 4] (.sub B1))) (.sub B6)))) [(0, s0)] ds h K = F15.t0 n0 B1 B6 s0 ds h K := by kernel_rfl
theorem F15.s0 {n0 : Nat} : F15.p0 n0 = wA Tryd.prog n0 21 none (.seq [0] F15.c0.fst (.seq [0, 4] F15.c0.snd.fst (.seq [4] (.block [4] 0 (.loop [0, 4] (.sub (F15.p1 n0)))) (.sub (F15.p6 n0))))) := by kernel_rfl
theorem F15.e0 {n0 : Nat} {s0 : Value} {ds : List Nat} {h : H} {K : KP} : F15.p0 n0 [(0, s0)] ds h K = F15.t0 n0 (F15.p1 n0) (F15.p6 n0) s0 ds h K :=
  wchain (F15.s0) (F15.g0 (F15.p1 n0) (F15.p6 n0) s0)
theorem F15.k0 : F15.c0.ok = true := by kernel_rfl
theorem F15.d0 {n0 : Nat} : F15.p0 n0 = wA Tryd.prog n0 21 none F15.c0 := by kernel_rfl
theorem F15.m0 (n0 : Nat) : MonoW (F15.p0 n0) := @mono_c Tryd.prog n0 21 none F15.c0 (F15.p0 n0) (F15.d0) F15.k0
noncomputable def F15.t1 (n0 : Nat) (B2 : WP) (s0 b4 : Value) (ds : List Nat) (h : H) (K : KP) : Prop :=
  Bnd (aBin Tryd.prog true .neq 9 s0 (.string ⟨#[]⟩)) fun t8 =>
  Cnd t8
   (B2 [(0, s0), (4, b4)] ds h K)
   (K (.exit 0) [(0, s0), (4, b4)] ds h)
theorem F15.g1 {n0 : Nat} (B2 : WP) (s0 b4 : Value) {ds : List Nat} {h : H} {K : KP} : wA Tryd.prog n0 21 none (.seq [0, 4] F15.c1.fst (.sub B2)) [(0, s0), (4, b4)] ds h K = F15.t1 n0 B2 s0 b4 ds h K := by kernel_rfl
theorem F15.s1 {n0 : Nat} : F15.p1 n0 = wA Tryd.prog n0 21 none (.seq [0, 4] F15.c1.fst (.sub (F15.p2 n0))) := by kernel_rfl
theorem F15.e1 {n0 : Nat} {s0 b4 : Value} {ds : List Nat} {h : H} {K : KP} : F15.p1 n0 [(0, s0), (4, b4)] ds h K = F15.t1 n0 (F15.p2 n0) s0 b4 ds h K :=
  wchain (F15.s1) (F15.g1 (F15.p2 n0) s0 b4)
theorem F15.k1 : F15.c1.ok = true := by kernel_rfl
theorem F15.d1 {n0 : Nat} : F15.p1 n0 = wA Tryd.prog n0 21 none F15.c1 := by kernel_rfl
theorem F15.m1 (n0 : Nat) : MonoW (F15.p1 n0) := @mono_c Tryd.prog n0 21 none F15.c1 (F15.p1 n0) (F15.d1) F15.k1
noncomputable def F15.t2 (n0 : Nat) (B3 : WP) (B4 : WP) (B5 : WP) (s0 b4 : Value) (ds : List Nat) (h : H) (K : KP) : Prop :=
  Cn Tryd.prog n0 (.func 30) [s0] h fun t13 h1 =>
  Bnd (tupAt t13 0) fun t14 =>
  Bnd (tupAt t13 1) fun t15 =>
  Bnd (aUn .not t15) fun t17 =>
  Cnd t17
   (B3 [(0, s0), (4, b4), (5, t14)] ds h1 (KSeq [0, 4, 5] B4 (KBlk [0, 4] 1 (KSeq [0, 4] B5 K))))
   (B4 [(0, s0), (4, b4), (5, t14)] ds h1 (KBlk [0, 4] 1 (KSeq [0, 4] B5 K)))
theorem F15.g2 {n0 : Nat} (B3 : WP) (B4 : WP) (B5 : WP) (s0 b4 : Value) {ds : List Nat} {h : H} {K : KP} : wA Tryd.prog n0 21 none (.seq [0, 4] (.block [0, 4] 1 (.seq [0, 4, 5, 6] F15.c2.fst.fst.fst (.seq [0, 4, 5] (.seq [0, 4, 5, 17] F15.c2.fst.fst.snd.fst.fst (.cond [0, 4, 5] (.tmp 17) (.sub B3) F15.c2.fst.fst.snd.fst.snd.snd)) (.sub B4)))) (.sub B5)) [(0, s0), (4, b4)] ds h K = F15.t2 n0 B3 B4 B5 s0 b4 ds h K := by kernel_rfl
theorem F15.s2 {n0 : Nat} : F15.p2 n0 = wA Tryd.prog n0 21 none (.seq [0, 4] (.block [0, 4] 1 (.seq [0, 4, 5, 6] F15.c2.fst.fst.fst (.seq [0, 4, 5] (.seq [0, 4, 5, 17] F15.c2.fst.fst.snd.fst.fst (.cond [0, 4, 5] (.tmp 17) (.sub (F15.p3 n0)) F15.c2.fst.fst.snd.fst.snd.snd)) (.sub (F15.p4 n0))))) (.sub (F15.p5 n0))) := by kernel_rfl
theorem F15.e2 {n0 : Nat} {s0 b4 : Value} {ds : List Nat} {h : H} {K : KP} : F15.p2 n0 [(0, s0), (4, b4)] ds h K = F15.t2 n0 (F15.p3 n0) (F15.p4 n0) (F15.p5 n0) s0 b4 ds h K :=
  wchain (F15.s2) (F15.g2 (F15.p3 n0) (F15.p4 n0) (F15.p5 n0) s0 b4)
noncomputable def F15.t3 (n0 : Nat) (s0 b4 c5 : Value) (ds : List Nat) (h : H) (K : KP) : Prop :=
  K .ret [(2, (.string ⟨#[]⟩)), (3, (.int .i64 11))] ds h
theorem F15.g3 {n0 : Nat} (s0 b4 c5 : Value) {ds : List Nat} {h : H} {K : KP} : wA Tryd.prog n0 21 none F15.c3 [(0, s0), (4, b4), (5, c5)] ds h K = F15.t3 n0 s0 b4 c5 ds h K := by kernel_rfl
theorem F15.s3 {n0 : Nat} : F15.p3 n0 = wA Tryd.prog n0 21 none F15.c3 := by kernel_rfl
theorem F15.e3 {n0 : Nat} {s0 b4 c5 : Value} {ds : List Nat} {h : H} {K : KP} : F15.p3 n0 [(0, s0), (4, b4), (5, c5)] ds h K = F15.t3 n0 s0 b4 c5 ds h K :=
  wchain (F15.s3) (F15.g3 s0 b4 c5)
noncomputable def F15.t4 (n0 : Nat) (s0 b4 c5 : Value) (ds : List Nat) (h : H) (K : KP) : Prop :=
  Cn Tryd.prog n0 (.func 31) [b4, c5] h fun t19 h1 =>
  K .normal [(0, s0), (4, b4), (5, c5), (18, c5), (19, t19)] ds h1
theorem F15.g4 {n0 : Nat} (s0 b4 c5 : Value) {ds : List Nat} {h : H} {K : KP} : wA Tryd.prog n0 21 none F15.c4 [(0, s0), (4, b4), (5, c5)] ds h K = F15.t4 n0 s0 b4 c5 ds h K := by kernel_rfl
theorem F15.s4 {n0 : Nat} : F15.p4 n0 = wA Tryd.prog n0 21 none F15.c4 := by kernel_rfl
theorem F15.e4 {n0 : Nat} {s0 b4 c5 : Value} {ds : List Nat} {h : H} {K : KP} : F15.p4 n0 [(0, s0), (4, b4), (5, c5)] ds h K = F15.t4 n0 s0 b4 c5 ds h K :=
  wchain (F15.s4) (F15.g4 s0 b4 c5)
noncomputable def F15.t5 (n0 : Nat) (s0 b4 : Value) (ds : List Nat) (h : H) (K : KP) : Prop :=
  Bnd (aSlice Tryd.prog 9 s0 (some (.int .i64 2)) none none h) fun t10 =>
  K .normal [(0, t10), (4, b4), (9, s0), (10, t10)] ds h
theorem F15.g5 {n0 : Nat} (s0 b4 : Value) {ds : List Nat} {h : H} {K : KP} : wA Tryd.prog n0 21 none F15.c5 [(0, s0), (4, b4)] ds h K = F15.t5 n0 s0 b4 ds h K := by kernel_rfl
theorem F15.s5 {n0 : Nat} : F15.p5 n0 = wA Tryd.prog n0 21 none F15.c5 := by kernel_rfl
theorem F15.e5 {n0 : Nat} {s0 b4 : Value} {ds : List Nat} {h : H} {K : KP} : F15.p5 n0 [(0, s0), (4, b4)] ds h K = F15.t5 n0 s0 b4 ds h K :=
  wchain (F15.s5) (F15.g5 s0 b4)
noncomputable def F15.t6 (n0 : Nat) (b4 : Value) (ds : List Nat) (h : H) (K : KP) : Prop :=
  Cn Tryd.prog n0 (.func 32) [b4] h fun t20 h1 =>
  K .ret [(2, t20), (3, (.int .i64 0))] ds h1
theorem F15.g6 {n0 : Nat} (b4 : Value) {ds : List Nat} {h : H} {K : KP} : wA Tryd.prog n0 21 none F15.c6 [(4, b4)] ds h K = F15.t6 n0 b4 ds h K := by kernel_rfl
theorem F15.s6 {n0 : Nat} : F15.p6 n0 = wA Tryd.prog n0 21 none F15.c6 := by kernel_rfl
theorem F15.e6 {n0 : Nat} {b4 : Value} {ds : List Nat} {h : H} {K : KP} : F15.p6 n0 [(4, b4)] ds h K = F15.t6 n0 b4 ds h K :=
  wchain (F15.s6) (F15.g6 b4)
theorem F15.b : Tryd.f15.body = some F15.c0.erase := by kernel_rfl
theorem F15.b2 : (Tryd.f15.name == "runtime.NumGoroutine") = false := by kernel_rfl
theorem F15.b3 : Tryd.f15.ntmps = 21 := by kernel_rfl
theorem F15.b4 : Tryd.f15.results.toList = [.tmp 2, .tmp 3] := by kernel_rfl
theorem F15.enter {n0 : Nat} {x0 : Value} {h : H} {Q : Value → H → Prop} (w : F15.p0 n0 [(0, x0)] [] h (KFin Tryd.prog [.tmp 2, .tmp 3] Q)) : Cn Tryd.prog n0 (.func 15) [x0] h Q :=
  @fn_enter Tryd.prog n0 mixed 15 Tryd.f15 F15.c0 [x0] h Q Tryd.func15 F15.b F15.k0 F15.b2 21 F15.b3 [.tmp 2, .tmp 3] F15.b4 (by simp) [(0, x0)] rfl (wback F15.d0 w)

/-! roster.octet.Hex -/
noncomputable def F16.ac : AC := (ann (bodyOf Tryd.f16) [[0], [0, 3], [3], [0, 3, 6, 7], [3], [0, 3, 6, 7], [0, 3, 6, 7, 8], [0, 3, 6, 7], [0, 3, 6, 7], [0, 3, 6, 7], [0, 3, 6, 7], [0, 3, 4, 6, 7], [0, 3, 4, 6, 7], [2]]).1
noncomputable def F16.c0 : AC := F16.ac
noncomputable def F16.c1 : AC := F16.ac.snd.snd.fst.snd.fst.fst
noncomputable def F16.c2 : AC := F16.ac.snd.snd.fst.snd.fst.fst.snd.snd
noncomputable def F16.c3 : AC := F16.ac.snd.snd.fst.snd.fst.fst.snd.snd.snd
noncomputable def F16.c4 : AC := F16.ac.snd.snd.snd
noncomputable def F16.p0 (n0 : Nat) : WP := wA Tryd.prog n0 24 none F16.c0
noncomputable def F16.p1 (n0 : Nat) : WP := wA Tryd.prog n0 24 none F16.c1
noncomputable def F16.p2 (n0 : Nat) : WP := wA Tryd.prog n0 24 none F16.c2
noncomputable def F16.p3 (n0 : Nat) : WP := wA Tryd.prog n0 24 none F16.c3
noncomputable def F16.p4 (n0 : Nat) : WP := wA Tryd.prog n0 24 none F16.c4
noncomputable def F16.t0 (n0 : Nat) (B1 : WP) (B4 : WP) (s0 : Value) (ds : List Nat) (h : H) (K : KP) : Prop :=
  Nw (enc 0 35) (zc Tryd.prog 35) h fun b3 h1 =>
  Bnd2 (aBuiltin Tryd.prog .len #[9] [s0] h1) fun t6 h2 =>
  Lp [0, 3, 6, 7] B1 [(0, s0), (3, b3), (6, t6), (7, (.int .i64 0))] ds h2 (KBlk [3] 0 (KSeq [3] B4 K))
theorem F16.g0 {n0 : Nat} (B1 : WP) (B4 : WP) (s0 : Value) {ds : List Nat} {h : H} {K : KP} : wA Tryd.prog n0 24 none (.seq [0] F16.c0.fst (.seq [0, 3] F16.c0.snd.fst (.seq [3] (.seq [0, 3, 6, 7] F16.c0.snd.snd.fst.fst (.block [3] 0 (.loop [0, 3, 6, 7] (.sub B1)))) (.sub B4)))) [(0, s0)] ds h K = F16.t0 n0 B1 B4 s0 ds h K := by kernel_rfl
theorem F16.s0 {n0 : Nat} : F16.p0 n0 = wA Tryd.prog n0 24 none (.seq [0] F16.c0.fst (.seq [0, 3] F16.c0.snd.fst (.seq [3] (.seq [0, 3, 6, 7] F16.c0.snd.snd.fst.fst (.block [3] 0 (.loop [0, 3, 6, 7] (.sub (F16.p1 n0))))) (.sub (F16.p4 n0))))) := by kernel_rfl
theorem F16.e0 {n0 : Nat} {s0 : Value} {ds : List Nat} {h : H} {K : KP} : F16.p0 n0 [(0, s0)] ds h K = F16.t0 n0 (F16.p1 n0) (F16.p4 n0) s0 ds h K :=
  wchain (F16.s0) (F16.g0 (F16.p1 n0) (F16.p4 n0) s0)
theorem F16.k0 : F16.c0.ok = true := by kernel_rfl
theorem F16.d0 {n0 : Nat} : F16.p0 n0 = wA Tryd.prog n0 24 none F16.c0 := by kernel_rfl
theorem F16.m0 (n0 : Nat) : MonoW (F16.p0 n0) := @mono_c Tryd.prog n0 24 none F16.c0 (F16.p0 n0) (F16.d0) F16.k0
noncomputable def F16.t1 (n0 : Nat) (B2 : WP) (s0 b3 t6 t7 : Value) (ds : List Nat) (h : H) (K : KP) : Prop :=
  Bnd (aBin Tryd.prog false .lss 3 t7 t6) fun t8 =>
  Cnd t8
   (B2 [(0, s0), (3, b3), (6, t6), (7, t7)] ds h K)
   (K (.exit 0) [(0, s0), (3, b3), (6, t6), (7, t7)] ds h)
theorem F16.g1 {n0 : Nat} (B2 : WP) (s0 b3 t6 t7 : Value) {ds : List Nat} {h : H} {K : KP} : wA Tryd.prog n0 24 none (.seq [0, 3, 6, 7, 8] F16.c1.fst (.seq [0, 3, 6, 7] F16.c1.snd.fst (.sub B2))) [(0, s0), (3, b3), (6, t6), (7, t7)] ds h K = F16.t1 n0 B2 s0 b3 t6 t7 ds h K := by kernel_rfl
theorem F16.s1 {n0 : Nat} : F16.p1 n0 = wA Tryd.prog n0 24 none (.seq [0, 3, 6, 7, 8] F16.c1.fst (.seq [0, 3, 6, 7] F16.c1.snd.fst (.sub (F16.p2 n0)))) := by kernel_rfl
theorem F16.e1 {n0 : Nat} {s0 b3 t6 t7 : Value} {ds : List Nat} {h : H} {K : KP} : F16.p1 n0 [(0, s0), (3, b3), (6, t6), (7, t7)] ds h K = F16.t1 n0 (F16.p2 n0) s0 b3 t6 t7 ds h K :=
  wchain (F16.s1) (F16.g1 (F16.p2 n0) s0 b3 t6 t7)
theorem F16.k1 : F16.c1.ok = true := by kernel_rfl
theorem F16.d1 {n0 : Nat} : F16.p1 n0 = wA Tryd.prog n0 24 none F16.c1 := by kernel_rfl
theorem F16.m1 (n0 : Nat) : MonoW (F16.p1 n0) := @mono_c Tryd.prog n0 24 none F16.c1 (F16.p1 n0) (F16.d1) F16.k1
noncomputable def F16.t2 (n0 : Nat) (B3 : WP) (s0 b3 t6 t7 : Value) (ds : List Nat) (h : H) (K : KP) : Prop :=
  Bnd (aIndex Tryd.prog 9 s0 t7) fun t12 =>
  Bnd (aBin Tryd.prog true .shr 5 t12 (.int .u64 4)) fun t13 =>
  Bnd (aIndex Tryd.prog 9 (.string ⟨#[48, 49, 50, 51, 52, 53, 54, 55, 56, 57, 97, 98, 99, 100, 101, 102]⟩) t13) fun t14 =>
  Cn Tryd.prog n0 (.func 31) [b3, t14] h fun t15 h1 =>
  Bnd (aIndex Tryd.prog 9 s0 t7) fun t18 =>
  Bnd (aBin Tryd.prog true .and 5 t18 (.int .u8 15)) fun t19 =>
  Bnd (aIndex Tryd.prog 9 (.string ⟨#[48, 49, 50, 51, 52, 53, 54, 55, 56, 57, 97, 98, 99, 100, 101, 102]⟩) t19) fun t20 =>
  Cn Tryd.prog n0 (.func 31) [b3, t20] h1 fun t21 h2 =>
  B3 [(0, s0), (3, b3), (6, t6), (7, t7)] ds h2 K
theorem F16.g2 {n0 : Nat} (B3 : WP) (s0 b3 t6 t7 : Value) {ds : List Nat} {h : H} {K : KP} : wA Tryd.prog n0 24 none (.seq [0, 3, 6, 7] F16.c2.fst (.sub B3)) [(0, s0), (3, b3), (6, t6), (7, t7)] ds h K = F16.t2 n0 B3 s0 b3 t6 t7 ds h K := by kernel_rfl
theorem F16.s2 {n0 : Nat} : F16.p2 n0 = wA Tryd.prog n0 24 none (.seq [0, 3, 6, 7] F16.c2.fst (.sub (F16.p3 n0))) := by kernel_rfl
theorem F16.e2 {n0 : Nat} {s0 b3 t6 t7 : Value} {ds : List Nat} {h : H} {K : KP} : F16.p2 n0 [(0, s0), (3, b3), (6, t6), (7, t7)] ds h K = F16.t2 n0 (F16.p3 n0) s0 b3 t6 t7 ds h K :=
  wchain (F16.s2) (F16.g2 (F16.p3 n0) s0 b3 t6 t7)
noncomputable def F16.t3 (n0 : Nat) (s0 b3 t6 t7 : Value) (ds : List Nat) (h : H) (K : KP) : Prop :=
  Bnd (aBin Tryd.prog true .add 3 t7 (.int .i64 1)) fun t22 =>
  K .normal [(0, s0), (3, b3), (6, t6), (7, t22), (22, t22)] ds h
theorem F16.g3 {n0 : Nat} (s0 b3 t6 t7 : Value) {ds : List Nat} {h : H} {K : KP} : wA Tryd.prog n0 24 none F16.c3 [(0, s0), (3, b3), (6, t6), (7, t7)] ds h K = F16.t3 n0 s0 b3 t6 t7 ds h K := by kernel_rfl
theorem F16.s3 {n0 : Nat} : F16.p3 n0 = wA Tryd.prog n0 24 none F16.c3 := by kernel_rfl
theorem F16.e3 {n0 : Nat} {s0 b3 t6 t7 : Value} {ds : List Nat} {h : H} {K : KP} : F16.p3 n0 [(0, s0), (3, b3), (6, t6), (7, t7)] ds h K = F16.t3 n0 s0 b3 t6 t7 ds h K :=
  wchain (F16.s3) (F16.g3 s0 b3 t6 t7)
noncomputable def F16.t4 (n0 : Nat) (b3 : Value) (ds : List Nat) (h : H) (K : KP) : Prop :=
  Cn Tryd.prog n0 (.func 32) [b3] h fun t23 h1 =>
  K .ret [(2, t23)] ds h1
theorem F16.g4 {n0 : Nat} (b3 : Value) {ds : List Nat} {h : H} {K : KP} : wA Tryd.prog n0 24 none F16.c4 [(3, b3)] ds h K = F16.t4 n0 b3 ds h K := by kernel_rfl
theorem F16.s4 {n0 : Nat} : F16.p4 n0 = wA Tryd.prog n0 24 none F16.c4 := by kernel_rfl
theorem F16.e4 {n0 : Nat} {b3 : Value} {ds : List Nat} {h : H} {K : KP} : F16.p4 n0 [(3, b3)] ds h K = F16.t4 n0 b3 ds h K :=
  wchain (F16.s4) (F16.g4 b3)
theorem F16.b : Tryd.f16.body = some F16.c0.erase := by kernel_rfl
theorem F16.b2 : (Tryd.f16.name == "runtime.NumGoroutine") = false := by kernel_rfl
theorem F16.b3 : Tryd.f16.ntmps = 24 := by kernel_rfl
theorem F16.b4 : Tryd.f16.results.toList = [.tmp 2] := by kernel_rfl
theorem F16.enter {n0 : Nat} {x0 : Value} {h : H} {Q : Value → H → Prop} (w : F16.p0 n0 [(0, x0)] [] h (KFin Tryd.prog [.tmp 2] Q)) : Cn Tryd.prog n0 (.func 16) [x0] h Q :=
  @fn_enter Tryd.prog n0 mixed 16 Tryd.f16 F16.c0 [x0] h Q Tryd.func16 F16.b F16.k0 F16.b2 24 F16.b3 [.tmp 2] F16.b4 (by simp) [(0, x0)] rfl (wback F16.d0 w)

/-! roster.rosterref01.Hex -/
noncomputable def F17.ac : AC := (ann (bodyOf Tryd.f17) [[0], [0, 3], [3], [0, 3, 4], [3], [0, 3, 4], [0, 3, 4], [0, 3, 4, 8], [0, 3, 4], [0, 3, 4], [0, 3, 4], [2]]).1
noncomputable def F17.c0 : AC := F17.ac
noncomputable def F17.c1 : AC := F17.ac.snd.snd.fst.snd.fst.fst
noncomputable def F17.c2 : AC := F17.ac.snd.snd.fst.snd.fst.fst.snd
noncomputable def F17.c3 : AC := F17.ac.snd.snd.fst.snd.fst.fst.snd.snd
noncomputable def F17.c4 : AC := F17.ac.snd.snd.snd
noncomputable def F17.p0 (n0 : Nat) : WP := wA Tryd.prog n0 19 none F17.c0
noncomputable def F17.p1 (n0 : Nat) : WP := wA Tryd.prog n0 19 none F17.c1
noncomputable def F17.p2 (n0 : Nat) : WP := wA Tryd.prog n0 19 none F17.c2
noncomputable def F17.p3 (n0 : Nat) : WP := wA Tryd.prog n0 19 none F17.c3
noncomputable def F17.p4 (n0 : Nat) : WP := wA Tryd.prog n0 19 none F17.c4
noncomputable def F17.t0 (n0 : Nat) (B1 : WP) (B4 : WP) (s0 : Value) (ds : List Nat) (h : H) (K : KP) : Prop :=
  Lp [0, 3, 4] B1 [(0, s0), (3, (.slice none 0 0)), (4, (.int .i64 0))] ds h (KBlk [3] 0 (KSeq [3] B4 K))
theorem F17.g0 {n0 : Nat} (B1 : WP) (B4 : WP) (s0 : Value) {ds : List Nat} {h : H} {K : KP} : wA Tryd.prog n0 19 none (.seq [0] F17.c0.fst (.seq [0, 3] F17.c0.snd.fst (.seq [3] (.seq [0, 3, 4] F17.c0.snd.snd.fst.fst (.block [3] 0 (.loop [0, 3, 4] (.sub B1)))) (.sub B4)))) [(0, s0)] ds h K = F17.t0 n0 B1 B4 s0 ds h K := by kernel_rfl
theorem F17.s0 {n0 : Nat} : F17.p0 n0 = wA Tryd.prog n0 19 none (.seq [0] F17.c0.fst (.seq [0, 3] F17.c0.snd.fst (.seq [3] (.seq [0, 3, 4] F17.c0.snd.snd.fst.fst (.block [3] 0 (.loop [0, 3, 4] (.sub (F17.p1 n0))))) (.sub (F17.p4 n0))))) := by kernel_rfl
theorem F17.e0 {n0 : Nat} {s0 : Value} {ds : List Nat} {h : H} {K : KP} : F17.p0 n0 [(0, s0)] ds h K = F17.t0 n0 (F17.p1 n0) (F17.p4 n0) s0 ds h K :=
  wchain (F17.s0) (F17.g0 (F17.p1 n0) (F17.p4 n0) s0)
theorem F17.k0 : F17.c0.ok = true := by kernel_rfl
theorem F17.d0 {n0 : Nat} : F17.p0 n0 = wA Tryd.prog n0 19 none F17.c0 := by kernel_rfl
theorem F17.m0 (n0 : Nat) : MonoW (F17.p0 n0) := @mono_c Tryd.prog n0 19 none F17.c0 (F17.p0 n0) (F17.d0) F17.k0
noncomputable def F17.t1 (n0 : Nat) (B2 : WP) (s0 b3 i4 : Value) (ds : List Nat) (h : H) (K : KP) : Prop :=
  Bnd2 (aBuiltin Tryd.prog .len #[9] [s0] h) fun t7 h1 =>
  Bnd (aBin Tryd.prog false .lss 3 i4 t7) fun t8 =>
  Cnd t8
   (B2 [(0, s0), (3, b3), (4, i4)] ds h1 K)
   (K (.exit 0) [(0, s0), (3, b3), (4, i4)] ds h1)
theorem F17.g1 {n0 : Nat} (B2 : WP) (s0 b3 i4 : Value) {ds : List Nat} {h : H} {K : KP} : wA Tryd.prog n0 19 none (.seq [0, 3, 4] F17.c1.fst (.sub B2)) [(0, s0), (3, b3), (4, i4)] ds h K = F17.t1 n0 B2 s0 b3 i4 ds h K := by kernel_rfl
theorem F17.s1 {n0 : Nat} : F17.p1 n0 = wA Tryd.prog n0 19 none (.seq [0, 3, 4] F17.c1.fst (.sub (F17.p2 n0))) := by kernel_rfl
theorem F17.e1 {n0 : Nat} {s0 b3 i4 : Value} {ds : List Nat} {h : H} {K : KP} : F17.p1 n0 [(0, s0), (3, b3), (4, i4)] ds h K = F17.t1 n0 (F17.p2 n0) s0 b3 i4 ds h K :=
  wchain (F17.s1) (F17.g1 (F17.p2 n0) s0 b3 i4)
theorem F17.k1 : F17.c1.ok = true := by kernel_rfl
theorem F17.d1 {n0 : Nat} : F17.p1 n0 = wA Tryd.prog n0 19 none F17.c1 := by kernel_rfl
theorem F17.m1 (n0 : Nat) : MonoW (F17.p1 n0) := @mono_c Tryd.prog n0 19 none F17.c1 (F17.p1 n0) (F17.d1) F17.k1
noncomputable def F17.t2 (n0 : Nat) (B3 : WP) (s0 b3 i4 : Value) (ds : List Nat) (h : H) (K : KP) : Prop :=
  Bnd (aIndex Tryd.prog 9 s0 i4) fun t14 =>
  Cn Tryd.prog n0 (.func 33) [t14] h fun t15 h1 =>
  Bnd2 (aBuiltin Tryd.prog .append #[31, 9] [b3, t15] h1) fun t16 h2 =>
  B3 [(0, s0), (3, t16), (4, i4)] ds h2 K
theorem F17.g2 {n0 : Nat} (B3 : WP) (s0 b3 i4 : Value) {ds : List Nat} {h : H} {K : KP} : wA Tryd.prog n0 19 none (.seq [0, 3, 4] F17.c2.fst (.sub B3)) [(0, s0), (3, b3), (4, i4)] ds h K = F17.t2 n0 B3 s0 b3 i4 ds h K := by kernel_rfl
theorem F17.s2 {n0 : Nat} : F17.p2 n0 = wA Tryd.prog n0 19 none (.seq [0, 3, 4] F17.c2.fst (.sub (F17.p3 n0))) := by kernel_rfl
theorem F17.e2 {n0 : Nat} {s0 b3 i4 : Value} {ds : List Nat} {h : H} {K : KP} : F17.p2 n0 [(0, s0), (3, b3), (4, i4)] ds h K = F17.t2 n0 (F17.p3 n0) s0 b3 i4 ds h K :=
  wchain (F17.s2) (F17.g2 (F17.p3 n0) s0 b3 i4)
noncomputable def F17.t3 (n0 : Nat) (s0 b3 i4 : Value) (ds : List Nat) (h : H) (K : KP) : Prop :=
  Bnd (aBin Tryd.prog true .add 3 i4 (.int .i64 1)) fun t10 =>
  K .normal [(0, s0), (3, b3), (4, t10), (9, i4), (10, t10)] ds h
theorem F17.g3 {n0 : Nat} (s0 b3 i4 : Value) {ds : List Nat} {h : H} {K : KP} : wA Tryd.prog n0 19 none F17.c3 [(0, s0), (3, b3), (4, i4)] ds h K = F17.t3 n0 s0 b3 i4 ds h K := by kernel_rfl
theorem F17.s3 {n0 : Nat} : F17.p3 n0 = wA Tryd.prog n0 19 none F17.c3 := by kernel_rfl
theorem F17.e3 {n0 : Nat} {s0 b3 i4 : Value} {ds : List Nat} {h : H} {K : KP} : F17.p3 n0 [(0, s0), (3, b3), (4, i4)] ds h K = F17.t3 n0 s0 b3 i4 ds h K :=
  wchain (F17.s3) (F17.g3 s0 b3 i4)
noncomputable def F17.t4 (n0 : Nat) (b3 : Value) (ds : List Nat) (h : H) (K : KP) : Prop :=
  Bnd2 (cvt Tryd.prog 31 9 b3 h) fun t18 h1 =>
  K .ret [(2, t18)] ds h1
theorem F17.g4 {n0 : Nat} (b3 : Value) {ds : List Nat} {h : H} {K : KP} : wA Tryd.prog n0 19 none F17.c4 [(3, b3)] ds h K = F17.t4 n0 b3 ds h K := by kernel_rfl
theorem F17.s4 {n0 : Nat} : F17.p4 n0 = wA Tryd.prog n0 19 none F17.c4 := by kernel_rfl
theorem F17.e4 {n0 : Nat} {b3 : Value} {ds : List Nat} {h : H} {K : KP} : F17.p4 n0 [(3, b3)] ds h K = F17.t4 n0 b3 ds h K :=
  wchain (F17.s4) (F17.g4 b3)
theorem F17.b : Tryd.f17.body = some F17.c0.erase := by kernel_rfl
theorem F17.b2 : (Tryd.f17.name == "runtime.NumGoroutine") = false := by kernel_rfl
theorem F17.b3 : Tryd.f17.ntmps = 19 := by kernel_rfl
theorem F17.b4 : Tryd.f17.results.toList = [.tmp 2] := by kernel_rfl
theorem F17.enter {n0 : Nat} {x0 : Value} {h : H} {Q : Value → H → Prop} (w : F17.p0 n0 [(0, x0)] [] h (KFin Tryd.prog [.tmp 2] Q)) : Cn Tryd.prog n0 (.func 17) [x0] h Q :=
  @fn_enter Tryd.prog n0 mixed 17 Tryd.f17 F17.c0 [x0] h Q Tryd.func17 F17.b F17.k0 F17.b2 19 F17.b3 [.tmp 2] F17.b4 (by simp) [(0, x0)] rfl (wback F17.d0 w)

/-! roster.rosterref01.digit -/
noncomputable def F29.ac : AC := (ann (bodyOf Tryd.f29) [[0, 1], [], [], [0, 1, 5], [0, 1], [4], [0, 1, 11], [0, 1], [4], [0, 18], [0], [4], [4]]).1
noncomputable def F29.c0 : AC := F29.ac
noncomputable def F29.c1 : AC := F29.ac.snd.fst.fst.snd.fst
noncomputable def F29.c2 : AC := F29.ac.snd.fst.fst.snd.snd
noncomputable def F29.c3 : AC := F29.ac.snd.fst.fst.snd.snd.snd.fst
noncomputable def F29.c4 : AC := F29.ac.snd.fst.fst.snd.snd.snd.snd
noncomputable def F29.c5 : AC := F29.ac.snd.fst.fst.snd.snd.snd.snd.snd.fst
noncomputable def F29.c6 : AC := F29.ac.snd.snd
noncomputable def F29.p0 (n0 : Nat) : WP := wA Tryd.prog n0 28 none F29.c0
noncomputable def F29.p1 (n0 : Nat) : WP := wA Tryd.prog n0 28 none F29.c1
noncomputable def F29.p2 (n0 : Nat) : WP := wA Tryd.prog n0 28 none F29.c2
noncomputable def F29.p3 (n0 : Nat) : WP := wA Tryd.prog n0 28 none F29.c3
noncomputable def F29.p4 (n0 : Nat) : WP := wA Tryd.prog n0 28 none F29.c4
noncomputable def F29.p5 (n0 : Nat) : WP := wA Tryd.prog n0 28 none F29.c5
noncomputable def F29.p6 (n0 : Nat) : WP := wA Tryd.prog n0 28 none F29.c6
noncomputable def F29.t0 (n0 : Nat) (B1 : WP) (B2 : WP) (B6 : WP) (c0 great1 : Value) (ds : List Nat) (h : H) (K : KP) : Prop :=
  Cn Tryd.prog n0 (.func 42) [c0, (.int .u8 48), (.int .u8 57)] h fun t7 h1 =>
  Cnd t7
   (B1 [(0, c0), (1, great1)] ds h1 (KBlk [] 0 (KSeq [] B6 K)))
   (B2 [(0, c0), (1, great1)] ds h1 (KBlk [] 0 (KSeq [] B6 K)))
theorem F29.g0 {n0 : Nat} (B1 : WP) (B2 : WP) (B6 : WP) (c0 great1 : Value) {ds : List Nat} {h : H} {K : KP} : wA Tryd.prog n0 28 none (.seq [0, 1] F29.c0.fst (.seq [] (.block [] 0 (.seq [0, 1, 5] F29.c0.snd.fst.fst.fst (.cond [0, 1] (.tmp 5) (.sub B1) (.sub B2)))) (.sub B6))) [(0, c0), (1, great1)] ds h K = F29.t0 n0 B1 B2 B6 c0 great1 ds h K := by kernel_rfl
theorem F29.s0 {n0 : Nat} : F29.p0 n0 = wA Tryd.prog n0 28 none (.seq [0, 1] F29.c0.fst (.seq [] (.block [] 0 (.seq [0, 1, 5] F29.c0.snd.fst.fst.fst (.cond [0, 1] (.tmp 5) (.sub (F29.p1 n0)) (.sub (F29.p2 n0))))) (.sub (F29.p6 n0)))) := by kernel_rfl
theorem F29.e0 {n0 : Nat} {c0 great1 : Value} {ds : List Nat} {h : H} {K : KP} : F29.p0 n0 [(0, c0), (1, great1)] ds h K = F29.t0 n0 (F29.p1 n0) (F29.p2 n0) (F29.p6 n0) c0 great1 ds h K :=
  wchain (F29.s0) (F29.g0 (F29.p1 n0) (F29.p2 n0) (F29.p6 n0) c0 great1)
theorem F29.k0 : F29.c0.ok = true := by kernel_rfl
theorem F29.d0 {n0 : Nat} : F29.p0 n0 = wA Tryd.prog n0 28 none F29.c0 := by kernel_rfl
theorem F29.m0 (n0 : Nat) : MonoW (F29.p0 n0) := @mono_c Tryd.prog n0 28 none F29.c0 (F29.p0 n0) (F29.d0) F29.k0
noncomputable def F29.t1 (n0 : Nat) (c0 great1 : Value) (ds : List Nat) (h : H) (K : KP) : Prop :=
  Bnd (aBin Tryd.prog true .sub 5 c0 (.int .u8 48)) fun t9 =>
  Bnd2 (cvt Tryd.prog 5 3 t9 h) fun t10 h1 =>
  K .ret [(4, t10)] ds h1
theorem F29.g1 {n0 : Nat} (c0 great1 : Value) {ds : List Nat} {h : H} {K : KP} : wA Tryd.prog n0 28 none F29.c1 [(0, c0), (1, great1)] ds h K = F29.t1 n0 c0 great1 ds h K := by kernel_rfl
theorem F29.s1 {n0 : Nat} : F29.p1 n0 = wA Tryd.prog n0 28 none F29.c1 := by kernel_rfl
theorem F29.e1 {n0 : Nat} {c0 great1 : Value} {ds : List Nat} {h : H} {K : KP} : F29.p1 n0 [(0, c0), (1, great1)] ds h K = F29.t1 n0 c0 great1 ds h K :=
  wchain (F29.s1) (F29.g1 c0 great1)
noncomputable def F29.t2 (n0 : Nat) (B3 : WP) (B4 : WP) (c0 great1 : Value) (ds : List Nat) (h : H) (K : KP) : Prop :=
  Cn Tryd.prog n0 (.func 42) [c0, (.int .u8 97), (.int .u8 102)] h fun t13 h1 =>
  Cnd t13
   (B3 [(0, c0), (1, great1)] ds h1 K)
   (B4 [(0, c0), (1, great1)] ds h1 K)
theorem F29.g2 {n0 : Nat} (B3 : WP) (B4 : WP) (c0 great1 : Value) {ds : List Nat} {h : H} {K : KP} : wA Tryd.prog n0 28 none (.seq [0, 1, 11] F29.c2.fst (.cond [0, 1] (.tmp 11) (.sub B3) (.sub B4))) [(0, c0), (1, great1)] ds h K = F29.t2 n0 B3 B4 c0 great1 ds h K := by kernel_rfl
theorem F29.s2 {n0 : Nat} : F29.p2 n0 = wA Tryd.prog n0 28 none (.seq [0, 1, 11] F29.c2.fst (.cond [0, 1] (.tmp 11) (.sub (F29.p3 n0)) (.sub (F29.p4 n0)))) := by kernel_rfl
theorem F29.e2 {n0 : Nat} {c0 great1 : Value} {ds : List Nat} {h : H} {K : KP} : F29.p2 n0 [(0, c0), (1, great1)] ds h K = F29.t2 n0 (F29.p3 n0) (F29.p4 n0) c0 great1 ds h K :=
  wchain (F29.s2) (F29.g2 (F29.p3 n0) (F29.p4 n0) c0 great1)
noncomputable def F29.t3 (n0 : Nat) (c0 great1 : Value) (ds : List Nat) (h : H) (K : KP) : Prop :=
  Bnd (aBin Tryd.prog true .sub 5 c0 (.int .u8 97)) fun t15 =>
  Bnd2 (cvt Tryd.prog 5 3 t15 h) fun t16 h1 =>
  Bnd (aBin Tryd.prog true .add 3 t16 (.int .i64 10)) fun t17 =>
  K .ret [(4, t17)] ds h1
theorem F29.g3 {n0 : Nat} (c0 great1 : Value) {ds : List Nat} {h : H} {K : KP} : wA Tryd.prog n0 28 none F29.c3 [(0, c0), (1, great1)] ds h K = F29.t3 n0 c0 great1 ds h K := by kernel_rfl
theorem F29.s3 {n0 : Nat} : F29.p3 n0 = wA Tryd.prog n0 28 none F29.c3 := by kernel_rfl
theorem F29.e3 {n0 : Nat} {c0 great1 : Value} {ds : List Nat} {h : H} {K : KP} : F29.p3 n0 [(0, c0), (1, great1)] ds h K = F29.t3 n0 c0 great1 ds h K :=
  wchain (F29.s3) (F29.g3 c0 great1)
noncomputable def F29.t4 (n0 : Nat) (B5 : WP) (c0 great1 : Value) (ds : List Nat) (h : H) (K : KP) : Prop :=
  Gd great1
   (Cn Tryd.prog n0 (.func 42) [c0, (.int .u8 65), (.int .u8 70)] h fun t22 h1 =>
  Cnd t22
   (B5 [(0, c0)] ds h1 K)
   (K .normal [(0, c0)] ds h1))
   (K .normal [(0, c0)] ds h)
theorem F29.g4 {n0 : Nat} (B5 : WP) (c0 great1 : Value) {ds : List Nat} {h : H} {K : KP} : wA Tryd.prog n0 28 none (.seq [0, 18] F29.c4.fst (.cond [0] (.tmp 18) (.sub B5) F29.c4.snd.snd)) [(0, c0), (1, great1)] ds h K = F29.t4 n0 B5 c0 great1 ds h K := by kernel_rfl
theorem F29.s4 {n0 : Nat} : F29.p4 n0 = wA Tryd.prog n0 28 none (.seq [0, 18] F29.c4.fst (.cond [0] (.tmp 18) (.sub (F29.p5 n0)) F29.c4.snd.snd)) := by kernel_rfl
theorem F29.e4 {n0 : Nat} {c0 great1 : Value} {ds : List Nat} {h : H} {K : KP} : F29.p4 n0 [(0, c0), (1, great1)] ds h K = F29.t4 n0 (F29.p5 n0) c0 great1 ds h K :=
  wchain (F29.s4) (F29.g4 (F29.p5 n0) c0 great1)
noncomputable def F29.t5 (n0 : Nat) (c0 : Value) (ds : List Nat) (h : H) (K : KP) : Prop :=
  Bnd (aBin Tryd.prog true .sub 5 c0 (.int .u8 65)) fun t25 =>
  Bnd2 (cvt Tryd.prog 5 3 t25 h) fun t26 h1 =>
  Bnd (aBin Tryd.prog true .add 3 t26 (.int .i64 10)) fun t27 =>
  K .ret [(4, t27)] ds h1
theorem F29.g5 {n0 : Nat} (c0 : Value) {ds : List Nat} {h : H} {K : KP} : wA Tryd.prog n0 28 none F29.c5 [(0, c0)] ds h K = F29.t5 n0 c0 ds h K := by kernel_rfl
theorem F29.s5 {n0 : Nat} : F29.p5 n0 = wA Tryd.prog n0 28 none F29.c5 := by kernel_rfl
theorem F29.e5 {n0 : Nat} {c0 : Value} {ds : List Nat} {h : H} {K : KP} : F29.p5 n0 [(0, c0)] ds h K = F29.t5 n0 c0 ds h K :=
  wchain (F29.s5) (F29.g5 c0)
noncomputable def F29.t6 (n0 : Nat) (ds : List Nat) (h : H) (K : KP) : Prop :=
  K .ret [(4, (.int .i64 (-1)))] ds h
theorem F29.g6 {n0 : Nat} {ds : List Nat} {h : H} {K : KP} : wA Tryd.prog n0 28 none F29.c6 [] ds h K = F29.t6 n0  ds h K := by kernel_rfl
theorem F29.s6 {n0 : Nat} : F29.p6 n0 = wA Tryd.prog n0 28 none F29.c6 := by kernel_rfl
theorem F29.e6 {n0 : Nat} {ds : List Nat} {h : H} {K : KP} : F29.p6 n0 [] ds h K = F29.t6 n0  ds h K :=
  wchain (F29.s6) (F29.g6)
theorem F29.b : Tryd.f29.body = some F29.c0.erase := by kernel_rfl
theorem F29.b2 : (Tryd.f29.name == "runtime.NumGoroutine") = false := by kernel_rfl
theorem F29.b3 : Tryd.f29.ntmps = 28 := by kernel_rfl
theorem F29.b4 : Tryd.f29.results.toList = [.tmp 4] := by kernel_rfl
theorem F29.enter {n0 : Nat} {x0 x1 : Value} {h : H} {Q : Value → H → Prop} (w : F29.p0 n0 [(0, x0), (1, x1)] [] h (KFin Tryd.prog [.tmp 4] Q)) : Cn Tryd.prog n0 (.func 29) [x0, x1] h Q :=
  @fn_enter Tryd.prog n0 mixed 29 Tryd.f29 F29.c0 [x0, x1] h Q Tryd.func29 F29.b F29.k0 F29.b2 28 F29.b3 [.tmp 4] F29.b4 (by simp) [(0, x0), (1, x1)] rfl (wback F29.d0 w)

/-! roster.octet.digits -/
noncomputable def F30.ac : AC := (ann (bodyOf Tryd.f30) [[0], [0], [0, 8], [0], [2, 3], [4, 5], [2, 3]]).1
noncomputable def F30.c0 : AC := F30.ac
noncomputable def F30.c1 : AC := F30.ac.snd.fst.snd.fst
noncomputable def F30.c2 : AC := F30.ac.snd.snd
noncomputable def F30.p0 (n0 : Nat) : WP := wA Tryd.prog n0 27 none F30.c0
noncomputable def F30.p1 (n0 : Nat) : WP := wA Tryd.prog n0 27 none F30.c1
noncomputable def F30.p2 (n0 : Nat) : WP := wA Tryd.prog n0 27 none F30.c2
noncomputable def F30.t0 (n0 : Nat) (B1 : WP) (B2 : WP) (two0 : Value) (ds : List Nat) (h : H) (K : KP) : Prop :=
  Bnd2 (aBuiltin Tryd.prog .len #[9] [two0] h) fun t7 h1 =>
  Bnd (aBin Tryd.prog true .lss 3 t7 (.int .i64 2)) fun t8 =>
  Cnd t8
   (B1 [(0, two0)] ds h1 (KSeq [0] B2 K))
   (B2 [(0, two0)] ds h1 K)
theorem F30.g0 {n0 : Nat} (B1 : WP) (B2 : WP) (two0 : Value) {ds : List Nat} {h : H} {K : KP} : wA Tryd.prog n0 27 none (.seq [0] F30.c0.fst (.seq [0] (.seq [0, 8] F30.c0.snd.fst.fst (.cond [0] (.tmp 8) (.sub B1) F30.c0.snd.fst.snd.snd)) (.sub B2))) [(0, two0)] ds h K = F30.t0 n0 B1 B2 two0 ds h K := by kernel_rfl
theorem F30.s0 {n0 : Nat} : F30.p0 n0 = wA Tryd.prog n0 27 none (.seq [0] F30.c0.fst (.seq [0] (.seq [0, 8] F30.c0.snd.fst.fst (.cond [0] (.tmp 8) (.sub (F30.p1 n0)) F30.c0.snd.fst.snd.snd)) (.sub (F30.p2 n0)))) := by kernel_rfl
theorem F30.e0 {n0 : Nat} {two0 : Value} {ds : List Nat} {h : H} {K : KP} : F30.p0 n0 [(0, two0)] ds h K = F30.t0 n0 (F30.p1 n0) (F30.p2 n0) two0 ds h K :=
  wchain (F30.s0) (F30.g0 (F30.p1 n0) (F30.p2 n0) two0)
theorem F30.k0 : F30.c0.ok = true := by kernel_rfl
theorem F30.d0 {n0 : Nat} : F30.p0 n0 = wA Tryd.prog n0 27 none F30.c0 := by kernel_rfl
theorem F30.m0 (n0 : Nat) : MonoW (F30.p0 n0) := @mono_c Tryd.prog n0 27 none F30.c0 (F30.p0 n0) (F30.d0) F30.k0
noncomputable def F30.t1 (n0 : Nat) (two0 : Value) (ds : List Nat) (h : H) (K : KP) : Prop :=
  K .ret [(2, (.int .u8 0)), (3, (.bool false))] ds h
theorem F30.g1 {n0 : Nat} (two0 : Value) {ds : List Nat} {h : H} {K : KP} : wA Tryd.prog n0 27 none F30.c1 [(0, two0)] ds h K = F30.t1 n0 two0 ds h K := by kernel_rfl
theorem F30.s1 {n0 : Nat} : F30.p1 n0 = wA Tryd.prog n0 27 none F30.c1 := by kernel_rfl
theorem F30.e1 {n0 : Nat} {two0 : Value} {ds : List Nat} {h : H} {K : KP} : F30.p1 n0 [(0, two0)] ds h K = F30.t1 n0 two0 ds h K :=
  wchain (F30.s1) (F30.g1 two0)
noncomputable def F30.t2 (n0 : Nat) (two0 : Value) (ds : List Nat) (h : H) (K : KP) : Prop :=
  Bnd (aIndex Tryd.prog 9 two0 (.int .i64 0)) fun t10 =>
  Cn Tryd.prog n0 (.func 40) [(.string ⟨#[48, 49, 50, 51, 52, 53, 54, 55, 56, 57, 97, 98, 99, 100, 101, 102]⟩), t10] h fun t11 h1 =>
  Bnd (aIndex Tryd.prog 9 two0 (.int .i64 1)) fun t13 =>
  Cn Tryd.prog n0 (.func 40) [(.string ⟨#[48, 49, 50, 51, 52, 53, 54, 55, 56, 57, 97, 98, 99, 100, 101, 102]⟩), t13] h1 fun t14 h2 =>
  Bnd (aBin Tryd.prog true .shl 3 t11 (.int .u64 4)) fun t16 =>
  Bnd (aBin Tryd.prog true .and 3 t14 (.int .i64 15)) fun t18 =>
  Bnd (aBin Tryd.prog false .or 3 t16 t18) fun t19 =>
  Bnd2 (cvt Tryd.prog 3 5 t19 h2) fun t20 h3 =>
  Bnd (aBin Tryd.prog true .geq 3 t11 (.int .i64 0)) fun t22 =>
  Gd t22
   (Bnd (aBin Tryd.prog true .geq 3 t14 (.int .i64 0)) fun t25 =>
  K .ret [(2, t20), (3, t25)] ds h3)
   (K .ret [(2, t20), (3, (.bool false))] ds h3)
theorem F30.g2 {n0 : Nat} (two0 : Value) {ds : List Nat} {h : H} {K : KP} : wA Tryd.prog n0 27 none F30.c2 [(0, two0)] ds h K = F30.t2 n0 two0 ds h K := by kernel_rfl
theorem F30.s2 {n0 : Nat} : F30.p2 n0 = wA Tryd.prog n0 27 none F30.c2 := by kernel_rfl
theorem F30.e2 {n0 : Nat} {two0 : Value} {ds : List Nat} {h : H} {K : KP} : F30.p2 n0 [(0, two0)] ds h K = F30.t2 n0 two0 ds h K :=
  wchain (F30.s2) (F30.g2 two0)
theorem F30.b : Tryd.f30.body = some F30.c0.erase := by kernel_rfl
theorem F30.b2 : (Tryd.f30.name == "runtime.NumGoroutine") = false := by kernel_rfl
theorem F30.b3 : Tryd.f30.ntmps = 27 := by kernel_rfl
theorem F30.b4 : Tryd.f30.results.toList = [.tmp 2, .tmp 3] := by kernel_rfl
theorem F30.enter {n0 : Nat} {x0 : Value} {h : H} {Q : Value → H → Prop} (w : F30.p0 n0 [(0, x0)] [] h (KFin Tryd.prog [.tmp 2, .tmp 3] Q)) : Cn Tryd.prog n0 (.func 30) [x0] h Q :=
  @fn_enter Tryd.prog n0 mixed 30 Tryd.f30 F30.c0 [x0] h Q Tryd.func30 F30.b F30.k0 F30.b2 27 F30.b3 [.tmp 2, .tmp 3] F30.b4 (by simp) [(0, x0)] rfl (wback F30.d0 w)

/-! (*strings.Builder).WriteByte -/
noncomputable def F31.ac : AC := (ann (bodyOf Tryd.f31) [[0, 1], [0, 1], [], [4]]).1
noncomputable def F31.c0 : AC := F31.ac
noncomputable def F31.p0 (n0 : Nat) : WP := wA Tryd.prog n0 17 none F31.c0
noncomputable def F31.t0 (n0 : Nat) (b0 c1 : Value) (ds : List Nat) (h : H) (K : KP) : Prop :=
  Cn Tryd.prog n0 (.func 44) [b0] h fun t6 h1 =>
  NilC b0 <|
  Bnd (aFieldAddr Tryd.prog 35 b0 1) fun t10 =>
  Bnd (aLoad Tryd.prog 31 t10 h1) fun t11 =>
  Bnd2 (aBuildSlice Tryd.prog 31 1 [(0, c1)] h1) fun t13 h2 =>
  Bnd2 (aBuiltin Tryd.prog .append #[31, 31] [t11, t13] h2) fun t14 h3 =>
  NilC b0 <|
  Bnd (aFieldAddr Tryd.prog 35 b0 1) fun t16 =>
  Bnd (aStore Tryd.prog 31 t16 t14 h3) fun h4 =>
  K .ret [(4, (.nilIface))] ds h4
theorem F31.g0 {n0 : Nat} (b0 c1 : Value) {ds : List Nat} {h : H} {K : KP} : wA Tryd.prog n0 17 none F31.c0 [(0, b0), (1, c1)] ds h K = F31.t0 n0 b0 c1 ds h K := by kernel_rfl
theorem F31.s0 {n0 : Nat} : F31.p0 n0 = wA Tryd.prog n0 17 none F31.c0 := by kernel_rfl
theorem F31.e0 {n0 : Nat} {b0 c1 : Value} {ds : List Nat} {h : H} {K : KP} : F31.p0 n0 [(0, b0), (1, c1)] ds h K = F31.t0 n0 b0 c1 ds h K :=
  wchain (F31.s0) (F31.g0 b0 c1)
theorem F31.k0 : F31.c0.ok = true := by kernel_rfl
theorem F31.d0 {n0 : Nat} : F31.p0 n0 = wA Tryd.prog n0 17 none F31.c0 := by kernel_rfl
theorem F31.m0 (n0 : Nat) : MonoW (F31.p0 n0) := @mono_c Tryd.prog n0 17 none F31.c0 (F31.p0 n0) (F31.d0) F31.k0
theorem F31.b : Tryd.f31.body = some F31.c0.erase := by kernel_rfl
theorem F31.b2 : (Tryd.f31.name == "runtime.NumGoroutine") = false := by kernel_rfl
theorem F31.b3 : Tryd.f31.ntmps = 17 := by kernel_rfl
theorem F31.b4 : Tryd.f31.results.toList = [.tmp 4] := by kernel_rfl
theorem F31.enter {n0 : Nat} {x0 x1 : Value} {h : H} {Q : Value → H → Prop} (w : F31.p0 n0 [(0, x0), (1, x1)] [] h (KFin Tryd.prog [.tmp 4] Q)) : Cn Tryd.prog n0 (.func 31) [x0, x1] h Q :=
  @fn_enter Tryd.prog n0 mixed 31 Tryd.f31 F31.c0 [x0, x1] h Q Tryd.func31 F31.b F31.k0 F31.b2 17 F31.b3 [.tmp 4] F31.b4 (by simp) [(0, x0), (1, x1)] rfl (wback F31.d0 w)

/-! (*strings.Builder).String -/
noncomputable def F32.ac : AC := (ann (bodyOf Tryd.f32) [[0], [2]]).1
noncomputable def F32.c0 : AC := F32.ac
noncomputable def F32.p0 (n0 : Nat) : WP := wA Tryd.prog n0 14 none F32.c0
noncomputable def F32.t0 (n0 : Nat) (b0 : Value) (ds : List Nat) (h : H) (K : KP) : Prop :=
  NilC b0 <|
  Bnd (aFieldAddr Tryd.prog 35 b0 1) fun t5 =>
  Bnd (aLoad Tryd.prog 31 t5 h) fun t6 =>
  Bnd2 (aBuiltin Tryd.prog .unsafeSliceData #[31] [t6] h) fun t7 h1 =>
  NilC b0 <|
  Bnd (aFieldAddr Tryd.prog 35 b0 1) fun t10 =>
  Bnd (aLoad Tryd.prog 31 t10 h1) fun t11 =>
  Bnd2 (aBuiltin Tryd.prog .len #[31] [t11] h1) fun t12 h2 =>
  Bnd2 (aBuiltin Tryd.prog .unsafeString #[55, 3] [t7, t12] h2) fun t13 h3 =>
  K .ret [(2, t13)] ds h3
theorem F32.g0 {n0 : Nat} (b0 : Value) {ds : List Nat} {h : H} {K : KP} : wA Tryd.prog n0 14 none F32.c0 [(0, b0)] ds h K = F32.t0 n0 b0 ds h K := by kernel_rfl
theorem F32.s0 {n0 : Nat} : F32.p0 n0 = wA Tryd.prog n0 14 none F32.c0 := by kernel_rfl
theorem F32.e0 {n0 : Nat} {b0 : Value} {ds : List Nat} {h : H} {K : KP} : F32.p0 n0 [(0, b0)] ds h K = F32.t0 n0 b0 ds h K :=
  wchain (F32.s0) (F32.g0 b0)
theorem F32.k0 : F32.c0.ok = true := by kernel_rfl
theorem F32.d0 {n0 : Nat} : F32.p0 n0 = wA Tryd.prog n0 14 none F32.c0 := by kernel_rfl
theorem F32.m0 (n0 : Nat) : MonoW (F32.p0 n0) := @mono_c Tryd.prog n0 14 none F32.c0 (F32.p0 n0) (F32.d0) F32.k0
theorem F32.b : Tryd.f32.body = some F32.c0.erase := by kernel_rfl
theorem F32.b2 : (Tryd.f32.name == "runtime.NumGoroutine") = false := by kernel_rfl
theorem F32.b3 : Tryd.f32.ntmps = 14 := by kernel_rfl
theorem F32.b4 : Tryd.f32.results.toList = [.tmp 2] := by kernel_rfl
theorem F32.enter {n0 : Nat} {x0 : Value} {h : H} {Q : Value → H → Prop} (w : F32.p0 n0 [(0, x0)] [] h (KFin Tryd.prog [.tmp 2] Q)) : Cn Tryd.prog n0 (.func 32) [x0] h Q :=
  @fn_enter Tryd.prog n0 mixed 32 Tryd.f32 F32.c0 [x0] h Q Tryd.func32 F32.b F32.k0 F32.b2 14 F32.b3 [.tmp 2] F32.b4 (by simp) [(0, x0)] rfl (wback F32.d0 w)

/-! roster.rosterref01.two -/
noncomputable def F33.ac : AC := (ann (bodyOf Tryd.f33) [[0], [2]]).1
noncomputable def F33.c0 : AC := F33.ac
noncomputable def F33.p0 (n0 : Nat) : WP := wA Tryd.prog n0 11 none F33.c0
noncomputable def F33.t0 (n0 : Nat) (c0 : Value) (ds : List Nat) (h : H) (K : KP) : Prop :=
  Bnd (aBin Tryd.prog true .quo 5 c0 (.int .u8 16)) fun t4 =>
  Bnd (aIndex Tryd.prog 9 (.string ⟨#[48, 49, 50, 51, 52, 53, 54, 55, 56, 57, 97, 98, 99, 100, 101, 102]⟩) t4) fun t5 =>
  Bnd (aBin Tryd.prog true .rem 5 c0 (.int .u8 16)) fun t7 =>
  Bnd (aIndex Tryd.prog 9 (.string ⟨#[48, 49, 50, 51, 52, 53, 54, 55, 56, 57, 97, 98, 99, 100, 101, 102]⟩) t7) fun t8 =>
  Bnd2 (aBuildSlice Tryd.prog 31 2 [(0, t5), (1, t8)] h) fun t9 h1 =>
  Bnd2 (cvt Tryd.prog 31 9 t9 h1) fun t10 h2 =>
  K .ret [(2, t10)] ds h2
theorem F33.g0 {n0 : Nat} (c0 : Value) {ds : List Nat} {h : H} {K : KP} : wA Tryd.prog n0 11 none F33.c0 [(0, c0)] ds h K = F33.t0 n0 c0 ds h K := by kernel_rfl
theorem F33.s0 {n0 : Nat} : F33.p0 n0 = wA Tryd.prog n0 11 none F33.c0 := by kernel_rfl
theorem F33.e0 {n0 : Nat} {c0 : Value} {ds : List Nat} {h : H} {K : KP} : F33.p0 n0 [(0, c0)] ds h K = F33.t0 n0 c0 ds h K :=
  wchain (F33.s0) (F33.g0 c0)
theorem F33.k0 : F33.c0.ok = true := by kernel_rfl
theorem F33.d0 {n0 : Nat} : F33.p0 n0 = wA Tryd.prog n0 11 none F33.c0 := by kernel_rfl
theorem F33.m0 (n0 : Nat) : MonoW (F33.p0 n0) := @mono_c Tryd.prog n0 11 none F33.c0 (F33.p0 n0) (F33.d0) F33.k0
theorem F33.b : Tryd.f33.body = some F33.c0.erase := by kernel_rfl
theorem F33.b2 : (Tryd.f33.name == "runtime.NumGoroutine") = false := by kernel_rfl
theorem F33.b3 : Tryd.f33.ntmps = 11 := by kernel_rfl
theorem F33.b4 : Tryd.f33.results.toList = [.tmp 2] := by kernel_rfl
theorem F33.enter {n0 : Nat} {x0 : Value} {h : H} {Q : Value → H → Prop} (w : F33.p0 n0 [(0, x0)] [] h (KFin Tryd.prog [.tmp 2] Q)) : Cn Tryd.prog n0 (.func 33) [x0] h Q :=
  @fn_enter Tryd.prog n0 mixed 33 Tryd.f33 F33.c0 [x0] h Q Tryd.func33 F33.b F33.k0 F33.b2 11 F33.b3 [.tmp 2] F33.b4 (by simp) [(0, x0)] rfl (wback F33.d0 w)

/-! strings.IndexByte -/
noncomputable def F40.ac : AC := (ann (bodyOf Tryd.f40) [[0, 1], [4]]).1
noncomputable def F40.c0 : AC := F40.ac
noncomputable def F40.p0 (n0 : Nat) : WP := wA Tryd.prog n0 8 none F40.c0
noncomputable def F40.t0 (n0 : Nat) (s0 c1 : Value) (ds : List Nat) (h : H) (K : KP) : Prop :=
  Cn Tryd.prog n0 (.func 49) [s0, c1] h fun t7 h1 =>
  K .ret [(4, t7)] ds h1
theorem F40.g0 {n0 : Nat} (s0 c1 : Value) {ds : List Nat} {h : H} {K : KP} : wA Tryd.prog n0 8 none F40.c0 [(0, s0), (1, c1)] ds h K = F40.t0 n0 s0 c1 ds h K := by kernel_rfl
theorem F40.s0 {n0 : Nat} : F40.p0 n0 = wA Tryd.prog n0 8 none F40.c0 := by kernel_rfl
theorem F40.e0 {n0 : Nat} {s0 c1 : Value} {ds : List Nat} {h : H} {K : KP} : F40.p0 n0 [(0, s0), (1, c1)] ds h K = F40.t0 n0 s0 c1 ds h K :=
  wchain (F40.s0) (F40.g0 s0 c1)
theorem F40.k0 : F40.c0.ok = true := by kernel_rfl
theorem F40.d0 {n0 : Nat} : F40.p0 n0 = wA Tryd.prog n0 8 none F40.c0 := by kernel_rfl
theorem F40.m0 (n0 : Nat) : MonoW (F40.p0 n0) := @mono_c Tryd.prog n0 8 none F40.c0 (F40.p0 n0) (F40.d0) F40.k0
theorem F40.b : Tryd.f40.body = some F40.c0.erase := by kernel_rfl
theorem F40.b2 : (Tryd.f40.name == "runtime.NumGoroutine") = false := by kernel_rfl
theorem F40.b3 : Tryd.f40.ntmps = 8 := by kernel_rfl
theorem F40.b4 : Tryd.f40.results.toList = [.tmp 4] := by kernel_rfl
theorem F40.enter {n0 : Nat} {x0 x1 : Value} {h : H} {Q : Value → H → Prop} (w : F40.p0 n0 [(0, x0), (1, x1)] [] h (KFin Tryd.prog [.tmp 4] Q)) : Cn Tryd.prog n0 (.func 40) [x0, x1] h Q :=
  @fn_enter Tryd.prog n0 mixed 40 Tryd.f40 F40.c0 [x0, x1] h Q Tryd.func40 F40.b F40.k0 F40.b2 8 F40.b3 [.tmp 4] F40.b4 (by simp) [(0, x0), (1, x1)] rfl (wback F40.d0 w)

/-! (*strings.Builder).copyCheck -/
noncomputable def F44.ac : AC := (ann (bodyOf Tryd.f44) [[0, 6], [0], [19], []]).1
noncomputable def F44.c0 : AC := F44.ac
noncomputable def F44.c1 : AC := F44.ac.snd.fst
noncomputable def F44.c2 : AC := F44.ac.snd.snd
noncomputable def F44.c3 : AC := F44.ac.snd.snd.snd.fst
noncomputable def F44.p0 (n0 : Nat) : WP := wA Tryd.prog n0 20 none F44.c0
noncomputable def F44.p1 (n0 : Nat) : WP := wA Tryd.prog n0 20 none F44.c1
noncomputable def F44.p2 (n0 : Nat) : WP := wA Tryd.prog n0 20 none F44.c2
noncomputable def F44.p3 (n0 : Nat) : WP := wA Tryd.prog n0 20 none F44.c3
noncomputable def F44.t0 (n0 : Nat) (B1 : WP) (B2 : WP) (b0 : Value) (ds : List Nat) (h : H) (K : KP) : Prop :=
  NilC b0 <|
  Bnd (aFieldAddr Tryd.prog 35 b0 0) fun t4 =>
  Bnd (aLoad Tryd.prog 33 t4 h) fun t5 =>
  Bnd (aBin Tryd.prog true .eql 33 t5 (.pointer none)) fun t6 =>
  Cnd t6
   (B1 [(0, b0)] ds h K)
   (B2 [(0, b0)] ds h K)
theorem F44.g0 {n0 : Nat} (B1 : WP) (B2 : WP) (b0 : Value) {ds : List Nat} {h : H} {K : KP} : wA Tryd.prog n0 20 none (.seq [0, 6] F44.c0.fst (.cond [0] (.tmp 6) (.sub B1) (.sub B2))) [(0, b0)] ds h K = F44.t0 n0 B1 B2 b0 ds h K := by kernel_rfl
theorem F44.s0 {n0 : Nat} : F44.p0 n0 = wA Tryd.prog n0 20 none (.seq [0, 6] F44.c0.fst (.cond [0] (.tmp 6) (.sub (F44.p1 n0)) (.sub (F44.p2 n0)))) := by kernel_rfl
theorem F44.e0 {n0 : Nat} {b0 : Value} {ds : List Nat} {h : H} {K : KP} : F44.p0 n0 [(0, b0)] ds h K = F44.t0 n0 (F44.p1 n0) (F44.p2 n0) b0 ds h K :=
  wchain (F44.s0) (F44.g0 (F44.p1 n0) (F44.p2 n0) b0)
theorem F44.k0 : F44.c0.ok = true := by kernel_rfl
theorem F44.d0 {n0 : Nat} : F44.p0 n0 = wA Tryd.prog n0 20 none F44.c0 := by kernel_rfl
theorem F44.m0 (n0 : Nat) : MonoW (F44.p0 n0) := @mono_c Tryd.prog n0 20 none F44.c0 (F44.p0 n0) (F44.d0) F44.k0
noncomputable def F44.t1 (n0 : Nat) (b0 : Value) (ds : List Nat) (h : H) (K : KP) : Prop :=
  Bnd2 (cvt Tryd.prog 33 60 b0 h) fun t9 h1 =>
  Cn Tryd.prog n0 (.func 51) [t9] h1 fun t10 h2 =>
  Bnd2 (cvt Tryd.prog 60 33 t10 h2) fun t11 h3 =>
  NilC b0 <|
  Bnd (aFieldAddr Tryd.prog 35 b0 0) fun t13 =>
  Bnd (aStore Tryd.prog 33 t13 t11 h3) fun h4 =>
  K .normal [(0, b0), (7, b0), (8, b0), (9, t9), (10, t10), (11, t11), (12, b0), (13, t13)] ds h4
theorem F44.g1 {n0 : Nat} (b0 : Value) {ds : List Nat} {h : H} {K : KP} : wA Tryd.prog n0 20 none F44.c1 [(0, b0)] ds h K = F44.t1 n0 b0 ds h K := by kernel_rfl
theorem F44.s1 {n0 : Nat} : F44.p1 n0 = wA Tryd.prog n0 20 none F44.c1 := by kernel_rfl
theorem F44.e1 {n0 : Nat} {b0 : Value} {ds : List Nat} {h : H} {K : KP} : F44.p1 n0 [(0, b0)] ds h K = F44.t1 n0 b0 ds h K :=
  wchain (F44.s1) (F44.g1 b0)
noncomputable def F44.t2 (n0 : Nat) (B3 : WP) (b0 : Value) (ds : List Nat) (h : H) (K : KP) : Prop :=
  NilC b0 <|
  Bnd (aFieldAddr Tryd.prog 35 b0 0) fun t16 =>
  Bnd (aLoad Tryd.prog 33 t16 h) fun t17 =>
  Bnd (aBin Tryd.prog false .neq 33 t17 b0) fun t19 =>
  Cnd t19
   (B3 [] ds h K)
   (K .normal [] ds h)
theorem F44.g2 {n0 : Nat} (B3 : WP) (b0 : Value) {ds : List Nat} {h : H} {K : KP} : wA Tryd.prog n0 20 none (.seq [19] F44.c2.fst (.cond [] (.tmp 19) (.sub B3) F44.c2.snd.snd)) [(0, b0)] ds h K = F44.t2 n0 B3 b0 ds h K := by kernel_rfl
theorem F44.s2 {n0 : Nat} : F44.p2 n0 = wA Tryd.prog n0 20 none (.seq [19] F44.c2.fst (.cond [] (.tmp 19) (.sub (F44.p3 n0)) F44.c2.snd.snd)) := by kernel_rfl
theorem F44.e2 {n0 : Nat} {b0 : Value} {ds : List Nat} {h : H} {K : KP} : F44.p2 n0 [(0, b0)] ds h K = F44.t2 n0 (F44.p3 n0) b0 ds h K :=
  wchain (F44.s2) (F44.g2 (F44.p3 n0) b0)
noncomputable def F44.t3 (n0 : Nat) (ds : List Nat) (h : H) (K : KP) : Prop :=
  False
theorem F44.g3 {n0 : Nat} {ds : List Nat} {h : H} {K : KP} : wA Tryd.prog n0 20 none F44.c3 [] ds h K = F44.t3 n0  ds h K := by kernel_rfl
theorem F44.s3 {n0 : Nat} : F44.p3 n0 = wA Tryd.prog n0 20 none F44.c3 := by kernel_rfl
theorem F44.e3 {n0 : Nat} {ds : List Nat} {h : H} {K : KP} : F44.p3 n0 [] ds h K = F44.t3 n0  ds h K :=
  wchain (F44.s3) (F44.g3)
theorem F44.b : Tryd.f44.body = some F44.c0.erase := by kernel_rfl
theorem F44.b2 : (Tryd.f44.name == "runtime.NumGoroutine") = false := by kernel_rfl
theorem F44.b3 : Tryd.f44.ntmps = 20 := by kernel_rfl
theorem F44.b4 : Tryd.f44.results.toList = [] := by kernel_rfl
theorem F44.enter {n0 : Nat} {x0 : Value} {h : H} {Q : Value → H → Prop} (w : F44.p0 n0 [(0, x0)] [] h (KFin Tryd.prog [] Q)) : Cn Tryd.prog n0 (.func 44) [x0] h Q :=
  @fn_enter Tryd.prog n0 mixed 44 Tryd.f44 F44.c0 [x0] h Q Tryd.func44 F44.b F44.k0 F44.b2 20 F44.b3 [] F44.b4 (by simp) [(0, x0)] rfl (wback F44.d0 w)

/-! internal.stringslite.IndexByte -/
noncomputable def F49.ac : AC := (ann (bodyOf Tryd.f49) [[0, 1], [4]]).1
noncomputable def F49.c0 : AC := F49.ac
noncomputable def F49.p0 (n0 : Nat) : WP := wA Tryd.prog n0 8 none F49.c0
noncomputable def F49.t0 (n0 : Nat) (s0 c1 : Value) (ds : List Nat) (h : H) (K : KP) : Prop :=
  Cn Tryd.prog n0 (.func 58) [s0, c1] h fun t7 h1 =>
  K .ret [(4, t7)] ds h1
theorem F49.g0 {n0 : Nat} (s0 c1 : Value) {ds : List Nat} {h : H} {K : KP} : wA Tryd.prog n0 8 none F49.c0 [(0, s0), (1, c1)] ds h K = F49.t0 n0 s0 c1 ds h K := by kernel_rfl
theorem F49.s0 {n0 : Nat} : F49.p0 n0 = wA Tryd.prog n0 8 none F49.c0 := by kernel_rfl
theorem F49.e0 {n0 : Nat} {s0 c1 : Value} {ds : List Nat} {h : H} {K : KP} : F49.p0 n0 [(0, s0), (1, c1)] ds h K = F49.t0 n0 s0 c1 ds h K :=
  wchain (F49.s0) (F49.g0 s0 c1)
theorem F49.k0 : F49.c0.ok = true := by kernel_rfl
theorem F49.d0 {n0 : Nat} : F49.p0 n0 = wA Tryd.prog n0 8 none F49.c0 := by kernel_rfl
theorem F49.m0 (n0 : Nat) : MonoW (F49.p0 n0) := @mono_c Tryd.prog n0 8 none F49.c0 (F49.p0 n0) (F49.d0) F49.k0
theorem F49.b : Tryd.f49.body = some F49.c0.erase := by kernel_rfl
theorem F49.b2 : (Tryd.f49.name == "runtime.NumGoroutine") = false := by kernel_rfl
theorem F49.b3 : Tryd.f49.ntmps = 8 := by kernel_rfl
theorem F49.b4 : Tryd.f49.results.toList = [.tmp 4] := by kernel_rfl
theorem F49.enter {n0 : Nat} {x0 x1 : Value} {h : H} {Q : Value → H → Prop} (w : F49.p0 n0 [(0, x0), (1, x1)] [] h (KFin Tryd.prog [.tmp 4] Q)) : Cn Tryd.prog n0 (.func 49) [x0, x1] h Q :=
  @fn_enter Tryd.prog n0 mixed 49 Tryd.f49 F49.c0 [x0, x1] h Q Tryd.func49 F49.b F49.k0 F49.b2 8 F49.b3 [.tmp 4] F49.b4 (by simp) [(0, x0), (1, x1)] rfl (wback F49.d0 w)

end Go.Proofs.YtcdnnpbpadhgeaaDoor
