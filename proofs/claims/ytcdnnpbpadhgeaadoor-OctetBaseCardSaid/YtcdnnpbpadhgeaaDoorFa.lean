/- The texts of Go functions of this seat, as the evaluator comes to them: each is what wA says of the code. No condition. -/
import Derived.Test.YtcdnnpbpadhgeaaDoorEvAc3
import Derived.Test.YtcdnnpbpadhgeaaDoorSeat
set_option linter.unusedVariables false
namespace Go.Proofs.YtcdnnpbpadhgeaaDoor
open Go.Ev

/-! roster.rosterlaw01.OctetValid -/
noncomputable def F3.ac : AC := (ann (bodyOf Tryd.f3) [[0], [2]]).1
noncomputable def F3.c0 : AC := F3.ac
noncomputable def F3.p0 (n0 : Nat) : WP := wA Tryd.prog n0 11 none F3.c0
noncomputable def F3.t0 (n0 : Nat) (s0 : Value) (ds : List Nat) (h : H) (K : KP) : Prop :=
  Cn Tryd.prog n0 (.func 11) [s0] h fun t4 h1 =>
  Cn Tryd.prog n0 (.func 12) [s0] h1 fun t6 h2 =>
  Bnd (aBin Tryd.prog false .eql 4 t4 t6) fun t7 =>
  Gd t7
   (Cn Tryd.prog n0 (.func 13) [] h2 fun t9 h3 =>
  K .ret [(2, t9)] ds h3)
   (K .ret [(2, (.bool false))] ds h2)
theorem F3.g0 {n0 : Nat} (s0 : Value) {ds : List Nat} {h : H} {K : KP} : wA Tryd.prog n0 11 none F3.c0 [(0, s0)] ds h K = F3.t0 n0 s0 ds h K := by kernel_rfl
theorem F3.s0 {n0 : Nat} : F3.p0 n0 = wA Tryd.prog n0 11 none F3.c0 := by kernel_rfl
theorem F3.e0 {n0 : Nat} {s0 : Value} {ds : List Nat} {h : H} {K : KP} : F3.p0 n0 [(0, s0)] ds h K = F3.t0 n0 s0 ds h K :=
  wchain (F3.s0) (F3.g0 s0)
theorem F3.k0 : F3.c0.ok = true := by kernel_rfl
theorem F3.d0 {n0 : Nat} : F3.p0 n0 = wA Tryd.prog n0 11 none F3.c0 := by kernel_rfl
theorem F3.m0 (n0 : Nat) : MonoW (F3.p0 n0) := @mono_c Tryd.prog n0 11 none F3.c0 (F3.p0 n0) (F3.d0) F3.k0
theorem F3.b : Tryd.f3.body = some F3.c0.erase := by kernel_rfl
theorem F3.b2 : (Tryd.f3.name == "runtime.NumGoroutine") = false := by kernel_rfl
theorem F3.b3 : Tryd.f3.ntmps = 11 := by kernel_rfl
theorem F3.b4 : Tryd.f3.results.toList = [.tmp 2] := by kernel_rfl
theorem F3.enter {n0 : Nat} {x0 : Value} {h : H} {Q : Value → H → Prop} (w : F3.p0 n0 [(0, x0)] [] h (KFin Tryd.prog [.tmp 2] Q)) : Cn Tryd.prog n0 (.func 3) [x0] h Q :=
  @fn_enter Tryd.prog n0 mixed 3 Tryd.f3 F3.c0 [x0] h Q Tryd.func3 F3.b F3.k0 F3.b2 11 F3.b3 [.tmp 2] F3.b4 (by simp) [(0, x0)] rfl (wback F3.d0 w)

/-! roster.octet.Valid -/
noncomputable def F11.ac : AC := (ann (bodyOf Tryd.f11) [[0], [], [0, 6], [], [0, 6], [0, 6, 7, 8], [0, 6, 7], [0, 6, 7], [0, 6], [0, 3, 4, 6], [0, 6, 15], [0, 6], [2], [2]]).1
noncomputable def F11.c0 : AC := F11.ac
noncomputable def F11.c1 : AC := F11.ac.snd.fst.snd.fst.fst
noncomputable def F11.c2 : AC := F11.ac.snd.fst.snd.fst.fst.snd.snd
noncomputable def F11.c3 : AC := F11.ac.snd.fst.snd.fst.fst.snd.snd.fst.snd.snd.fst
noncomputable def F11.c4 : AC := F11.ac.snd.snd
noncomputable def F11.p0 (n0 : Nat) : WP := wA Tryd.prog n0 16 none F11.c0
noncomputable def F11.p1 (n0 : Nat) : WP := wA Tryd.prog n0 16 none F11.c1
noncomputable def F11.p2 (n0 : Nat) : WP := wA Tryd.prog n0 16 none F11.c2
noncomputable def F11.p3 (n0 : Nat) : WP := wA Tryd.prog n0 16 none F11.c3
noncomputable def F11.p4 (n0 : Nat) : WP := wA Tryd.prog n0 16 none F11.c4
noncomputable def F11.t0 (n0 : Nat) (B1 : WP) (B4 : WP) (s0 : Value) (ds : List Nat) (h : H) (K : KP) : Prop :=
  Bnd2 (aRange Tryd.prog 9 s0 h) fun t6 h1 =>
  Lp [0, 6] B1 [(0, s0), (6, t6)] ds h1 (KBlk [] 0 (KSeq [] B4 K))
theorem F11.g0 {n0 : Nat} (B1 : WP) (B4 : WP) (s0 : Value) {ds : List Nat} {h : H} {K : KP} : wA Tryd.prog n0 16 none (.seq [0] F11.c0.fst (.seq [] (.seq [0, 6] F11.c0.snd.fst.fst (.block [] 0 (.loop [0, 6] (.sub B1)))) (.sub B4))) [(0, s0)] ds h K = F11.t0 n0 B1 B4 s0 ds h K := by kernel_rfl
theorem F11.s0 {n0 : Nat} : F11.p0 n0 = wA Tryd.prog n0 16 none (.seq [0] F11.c0.fst (.seq [] (.seq [0, 6] F11.c0.snd.fst.fst (.block [] 0 (.loop [0, 6] (.sub (F11.p1 n0))))) (.sub (F11.p4 n0)))) := by kernel_rfl
theorem F11.e0 {n0 : Nat} {s0 : Value} {ds : List Nat} {h : H} {K : KP} : F11.p0 n0 [(0, s0)] ds h K = F11.t0 n0 (F11.p1 n0) (F11.p4 n0) s0 ds h K :=
  wchain (F11.s0) (F11.g0 (F11.p1 n0) (F11.p4 n0) s0)
theorem F11.k0 : F11.c0.ok = true := by kernel_rfl
theorem F11.d0 {n0 : Nat} : F11.p0 n0 = wA Tryd.prog n0 16 none F11.c0 := by kernel_rfl
theorem F11.m0 (n0 : Nat) : MonoW (F11.p0 n0) := @mono_c Tryd.prog n0 16 none F11.c0 (F11.p0 n0) (F11.d0) F11.k0
noncomputable def F11.t1 (n0 : Nat) (B2 : WP) (s0 t6 : Value) (ds : List Nat) (h : H) (K : KP) : Prop :=
  Bnd2 (aNext t6 h) fun t7 h1 =>
  Bnd (tupAt t7 0) fun t8 =>
  Cnd t8
   (B2 [(0, s0), (6, t6), (7, t7)] ds h1 K)
   (K (.exit 0) [(0, s0), (6, t6), (7, t7)] ds h1)
theorem F11.g1 {n0 : Nat} (B2 : WP) (s0 t6 : Value) {ds : List Nat} {h : H} {K : KP} : wA Tryd.prog n0 16 none (.seq [0, 6, 7, 8] F11.c1.fst (.seq [0, 6, 7] F11.c1.snd.fst (.sub B2))) [(0, s0), (6, t6)] ds h K = F11.t1 n0 B2 s0 t6 ds h K := by kernel_rfl
theorem F11.s1 {n0 : Nat} : F11.p1 n0 = wA Tryd.prog n0 16 none (.seq [0, 6, 7, 8] F11.c1.fst (.seq [0, 6, 7] F11.c1.snd.fst (.sub (F11.p2 n0)))) := by kernel_rfl
theorem F11.e1 {n0 : Nat} {s0 t6 : Value} {ds : List Nat} {h : H} {K : KP} : F11.p1 n0 [(0, s0), (6, t6)] ds h K = F11.t1 n0 (F11.p2 n0) s0 t6 ds h K :=
  wchain (F11.s1) (F11.g1 (F11.p2 n0) s0 t6)
theorem F11.k1 : F11.c1.ok = true := by kernel_rfl
theorem F11.d1 {n0 : Nat} : F11.p1 n0 = wA Tryd.prog n0 16 none F11.c1 := by kernel_rfl
theorem F11.m1 (n0 : Nat) : MonoW (F11.p1 n0) := @mono_c Tryd.prog n0 16 none F11.c1 (F11.p1 n0) (F11.d1) F11.k1
noncomputable def F11.t2 (n0 : Nat) (B3 : WP) (s0 t6 t7 : Value) (ds : List Nat) (h : H) (K : KP) : Prop :=
  Bnd (tupAt t7 1) fun t9 =>
  Bnd (tupAt t7 2) fun t10 =>
  Cn Tryd.prog n0 (.func 27) [s0, t9, t10] h fun t14 h1 =>
  Bnd (aBin Tryd.prog true .eql 3 t14 (.int .i64 0)) fun t15 =>
  Cnd t15
   (B3 [(0, s0), (6, t6)] ds h1 (KBlk [0, 6] 1 K))
   (K .normal [(0, s0), (6, t6)] ds h1)
theorem F11.g2 {n0 : Nat} (B3 : WP) (s0 t6 t7 : Value) {ds : List Nat} {h : H} {K : KP} : wA Tryd.prog n0 16 none (.block [0, 6] 1 (.seq [0, 3, 4, 6] F11.c2.fst.fst (.seq [0, 6, 15] F11.c2.fst.snd.fst (.cond [0, 6] (.tmp 15) (.sub B3) F11.c2.fst.snd.snd.snd)))) [(0, s0), (6, t6), (7, t7)] ds h K = F11.t2 n0 B3 s0 t6 t7 ds h K := by kernel_rfl
theorem F11.s2 {n0 : Nat} : F11.p2 n0 = wA Tryd.prog n0 16 none (.block [0, 6] 1 (.seq [0, 3, 4, 6] F11.c2.fst.fst (.seq [0, 6, 15] F11.c2.fst.snd.fst (.cond [0, 6] (.tmp 15) (.sub (F11.p3 n0)) F11.c2.fst.snd.snd.snd)))) := by kernel_rfl
theorem F11.e2 {n0 : Nat} {s0 t6 t7 : Value} {ds : List Nat} {h : H} {K : KP} : F11.p2 n0 [(0, s0), (6, t6), (7, t7)] ds h K = F11.t2 n0 (F11.p3 n0) s0 t6 t7 ds h K :=
  wchain (F11.s2) (F11.g2 (F11.p3 n0) s0 t6 t7)
noncomputable def F11.t3 (n0 : Nat) (s0 t6 : Value) (ds : List Nat) (h : H) (K : KP) : Prop :=
  K .ret [(2, (.bool false))] ds h
theorem F11.g3 {n0 : Nat} (s0 t6 : Value) {ds : List Nat} {h : H} {K : KP} : wA Tryd.prog n0 16 none F11.c3 [(0, s0), (6, t6)] ds h K = F11.t3 n0 s0 t6 ds h K := by kernel_rfl
theorem F11.s3 {n0 : Nat} : F11.p3 n0 = wA Tryd.prog n0 16 none F11.c3 := by kernel_rfl
theorem F11.e3 {n0 : Nat} {s0 t6 : Value} {ds : List Nat} {h : H} {K : KP} : F11.p3 n0 [(0, s0), (6, t6)] ds h K = F11.t3 n0 s0 t6 ds h K :=
  wchain (F11.s3) (F11.g3 s0 t6)
noncomputable def F11.t4 (n0 : Nat) (ds : List Nat) (h : H) (K : KP) : Prop :=
  K .ret [(2, (.bool true))] ds h
theorem F11.g4 {n0 : Nat} {ds : List Nat} {h : H} {K : KP} : wA Tryd.prog n0 16 none F11.c4 [] ds h K = F11.t4 n0  ds h K := by kernel_rfl
theorem F11.s4 {n0 : Nat} : F11.p4 n0 = wA Tryd.prog n0 16 none F11.c4 := by kernel_rfl
theorem F11.e4 {n0 : Nat} {ds : List Nat} {h : H} {K : KP} : F11.p4 n0 [] ds h K = F11.t4 n0  ds h K :=
  wchain (F11.s4) (F11.g4)
theorem F11.b : Tryd.f11.body = some F11.c0.erase := by kernel_rfl
theorem F11.b2 : (Tryd.f11.name == "runtime.NumGoroutine") = false := by kernel_rfl
theorem F11.b3 : Tryd.f11.ntmps = 16 := by kernel_rfl
theorem F11.b4 : Tryd.f11.results.toList = [.tmp 2] := by kernel_rfl
theorem F11.enter {n0 : Nat} {x0 : Value} {h : H} {Q : Value → H → Prop} (w : F11.p0 n0 [(0, x0)] [] h (KFin Tryd.prog [.tmp 2] Q)) : Cn Tryd.prog n0 (.func 11) [x0] h Q :=
  @fn_enter Tryd.prog n0 mixed 11 Tryd.f11 F11.c0 [x0] h Q Tryd.func11 F11.b F11.k0 F11.b2 16 F11.b3 [.tmp 2] F11.b4 (by simp) [(0, x0)] rfl (wback F11.d0 w)

/-! roster.rosterref01.Valid -/
noncomputable def F12.ac : AC := (ann (bodyOf Tryd.f12) [[0], [], [], [0], [0], [0, 5], [0], [0], [0, 3], [0, 3], [0, 3, 9], [0, 3], [2], [2]]).1
noncomputable def F12.c0 : AC := F12.ac
noncomputable def F12.c1 : AC := F12.ac.snd.fst.fst.fst
noncomputable def F12.c2 : AC := F12.ac.snd.fst.fst.fst.snd
noncomputable def F12.c3 : AC := F12.ac.snd.fst.fst.fst.snd.fst.snd.fst.snd.fst
noncomputable def F12.c4 : AC := F12.ac.snd.fst.fst.fst.snd.fst.snd.snd
noncomputable def F12.c5 : AC := F12.ac.snd.snd
noncomputable def F12.p0 (n0 : Nat) : WP := wA Tryd.prog n0 13 none F12.c0
noncomputable def F12.p1 (n0 : Nat) : WP := wA Tryd.prog n0 13 none F12.c1
noncomputable def F12.p2 (n0 : Nat) : WP := wA Tryd.prog n0 13 none F12.c2
noncomputable def F12.p3 (n0 : Nat) : WP := wA Tryd.prog n0 13 none F12.c3
noncomputable def F12.p4 (n0 : Nat) : WP := wA Tryd.prog n0 13 none F12.c4
noncomputable def F12.p5 (n0 : Nat) : WP := wA Tryd.prog n0 13 none F12.c5
noncomputable def F12.t0 (n0 : Nat) (B1 : WP) (B5 : WP) (s0 : Value) (ds : List Nat) (h : H) (K : KP) : Prop :=
  Lp [0] B1 [(0, s0)] ds h (KBlk [] 0 (KSeq [] B5 K))
theorem F12.g0 {n0 : Nat} (B1 : WP) (B5 : WP) (s0 : Value) {ds : List Nat} {h : H} {K : KP} : wA Tryd.prog n0 13 none (.seq [0] F12.c0.fst (.seq [] (.block [] 0 (.loop [0] (.sub B1))) (.sub B5))) [(0, s0)] ds h K = F12.t0 n0 B1 B5 s0 ds h K := by kernel_rfl
theorem F12.s0 {n0 : Nat} : F12.p0 n0 = wA Tryd.prog n0 13 none (.seq [0] F12.c0.fst (.seq [] (.block [] 0 (.loop [0] (.sub (F12.p1 n0)))) (.sub (F12.p5 n0)))) := by kernel_rfl
theorem F12.e0 {n0 : Nat} {s0 : Value} {ds : List Nat} {h : H} {K : KP} : F12.p0 n0 [(0, s0)] ds h K = F12.t0 n0 (F12.p1 n0) (F12.p5 n0) s0 ds h K :=
  wchain (F12.s0) (F12.g0 (F12.p1 n0) (F12.p5 n0) s0)
theorem F12.k0 : F12.c0.ok = true := by kernel_rfl
theorem F12.d0 {n0 : Nat} : F12.p0 n0 = wA Tryd.prog n0 13 none F12.c0 := by kernel_rfl
theorem F12.m0 (n0 : Nat) : MonoW (F12.p0 n0) := @mono_c Tryd.prog n0 13 none F12.c0 (F12.p0 n0) (F12.d0) F12.k0
noncomputable def F12.t1 (n0 : Nat) (B2 : WP) (s0 : Value) (ds : List Nat) (h : H) (K : KP) : Prop :=
  Bnd (aBin Tryd.prog true .neq 9 s0 (.string ⟨#[]⟩)) fun t5 =>
  Cnd t5
   (B2 [(0, s0)] ds h K)
   (K (.exit 0) [(0, s0)] ds h)
theorem F12.g1 {n0 : Nat} (B2 : WP) (s0 : Value) {ds : List Nat} {h : H} {K : KP} : wA Tryd.prog n0 13 none (.seq [0] F12.c1.fst (.sub B2)) [(0, s0)] ds h K = F12.t1 n0 B2 s0 ds h K := by kernel_rfl
theorem F12.s1 {n0 : Nat} : F12.p1 n0 = wA Tryd.prog n0 13 none (.seq [0] F12.c1.fst (.sub (F12.p2 n0))) := by kernel_rfl
theorem F12.e1 {n0 : Nat} {s0 : Value} {ds : List Nat} {h : H} {K : KP} : F12.p1 n0 [(0, s0)] ds h K = F12.t1 n0 (F12.p2 n0) s0 ds h K :=
  wchain (F12.s1) (F12.g1 (F12.p2 n0) s0)
theorem F12.k1 : F12.c1.ok = true := by kernel_rfl
theorem F12.d1 {n0 : Nat} : F12.p1 n0 = wA Tryd.prog n0 13 none F12.c1 := by kernel_rfl
theorem F12.m1 (n0 : Nat) : MonoW (F12.p1 n0) := @mono_c Tryd.prog n0 13 none F12.c1 (F12.p1 n0) (F12.d1) F12.k1
noncomputable def F12.t2 (n0 : Nat) (B3 : WP) (B4 : WP) (s0 : Value) (ds : List Nat) (h : H) (K : KP) : Prop :=
  Cn Tryd.prog n0 (.func 28) [s0] h fun t7 h1 =>
  Bnd (aBin Tryd.prog true .eql 3 t7 (.int .i64 0)) fun t9 =>
  Cnd t9
   (B3 [(0, s0), (3, t7)] ds h1 (KSeq [0, 3] B4 (KBlk [0] 1 K)))
   (B4 [(0, s0), (3, t7)] ds h1 (KBlk [0] 1 K))
theorem F12.g2 {n0 : Nat} (B3 : WP) (B4 : WP) (s0 : Value) {ds : List Nat} {h : H} {K : KP} : wA Tryd.prog n0 13 none (.block [0] 1 (.seq [0, 3] F12.c2.fst.fst (.seq [0, 3] (.seq [0, 3, 9] F12.c2.fst.snd.fst.fst (.cond [0, 3] (.tmp 9) (.sub B3) F12.c2.fst.snd.fst.snd.snd)) (.sub B4)))) [(0, s0)] ds h K = F12.t2 n0 B3 B4 s0 ds h K := by kernel_rfl
theorem F12.s2 {n0 : Nat} : F12.p2 n0 = wA Tryd.prog n0 13 none (.block [0] 1 (.seq [0, 3] F12.c2.fst.fst (.seq [0, 3] (.seq [0, 3, 9] F12.c2.fst.snd.fst.fst (.cond [0, 3] (.tmp 9) (.sub (F12.p3 n0)) F12.c2.fst.snd.fst.snd.snd)) (.sub (F12.p4 n0))))) := by kernel_rfl
theorem F12.e2 {n0 : Nat} {s0 : Value} {ds : List Nat} {h : H} {K : KP} : F12.p2 n0 [(0, s0)] ds h K = F12.t2 n0 (F12.p3 n0) (F12.p4 n0) s0 ds h K :=
  wchain (F12.s2) (F12.g2 (F12.p3 n0) (F12.p4 n0) s0)
noncomputable def F12.t3 (n0 : Nat) (s0 n3 : Value) (ds : List Nat) (h : H) (K : KP) : Prop :=
  K .ret [(2, (.bool false))] ds h
theorem F12.g3 {n0 : Nat} (s0 n3 : Value) {ds : List Nat} {h : H} {K : KP} : wA Tryd.prog n0 13 none F12.c3 [(0, s0), (3, n3)] ds h K = F12.t3 n0 s0 n3 ds h K := by kernel_rfl
theorem F12.s3 {n0 : Nat} : F12.p3 n0 = wA Tryd.prog n0 13 none F12.c3 := by kernel_rfl
theorem F12.e3 {n0 : Nat} {s0 n3 : Value} {ds : List Nat} {h : H} {K : KP} : F12.p3 n0 [(0, s0), (3, n3)] ds h K = F12.t3 n0 s0 n3 ds h K :=
  wchain (F12.s3) (F12.g3 s0 n3)
noncomputable def F12.t4 (n0 : Nat) (s0 n3 : Value) (ds : List Nat) (h : H) (K : KP) : Prop :=
  Bnd (aSlice Tryd.prog 9 s0 (some n3) none none h) fun t12 =>
  K .normal [(0, t12), (3, n3), (10, s0), (11, n3), (12, t12)] ds h
theorem F12.g4 {n0 : Nat} (s0 n3 : Value) {ds : List Nat} {h : H} {K : KP} : wA Tryd.prog n0 13 none F12.c4 [(0, s0), (3, n3)] ds h K = F12.t4 n0 s0 n3 ds h K := by kernel_rfl
theorem F12.s4 {n0 : Nat} : F12.p4 n0 = wA Tryd.prog n0 13 none F12.c4 := by kernel_rfl
theorem F12.e4 {n0 : Nat} {s0 n3 : Value} {ds : List Nat} {h : H} {K : KP} : F12.p4 n0 [(0, s0), (3, n3)] ds h K = F12.t4 n0 s0 n3 ds h K :=
  wchain (F12.s4) (F12.g4 s0 n3)
noncomputable def F12.t5 (n0 : Nat) (ds : List Nat) (h : H) (K : KP) : Prop :=
  K .ret [(2, (.bool true))] ds h
theorem F12.g5 {n0 : Nat} {ds : List Nat} {h : H} {K : KP} : wA Tryd.prog n0 13 none F12.c5 [] ds h K = F12.t5 n0  ds h K := by kernel_rfl
theorem F12.s5 {n0 : Nat} : F12.p5 n0 = wA Tryd.prog n0 13 none F12.c5 := by kernel_rfl
theorem F12.e5 {n0 : Nat} {ds : List Nat} {h : H} {K : KP} : F12.p5 n0 [] ds h K = F12.t5 n0  ds h K :=
  wchain (F12.s5) (F12.g5)
theorem F12.b : Tryd.f12.body = some F12.c0.erase := by kernel_rfl
theorem F12.b2 : (Tryd.f12.name == "runtime.NumGoroutine") = false := by kernel_rfl
theorem F12.b3 : Tryd.f12.ntmps = 13 := by kernel_rfl
theorem F12.b4 : Tryd.f12.results.toList = [.tmp 2] := by kernel_rfl
theorem F12.enter {n0 : Nat} {x0 : Value} {h : H} {Q : Value → H → Prop} (w : F12.p0 n0 [(0, x0)] [] h (KFin Tryd.prog [.tmp 2] Q)) : Cn Tryd.prog n0 (.func 12) [x0] h Q :=
  @fn_enter Tryd.prog n0 mixed 12 Tryd.f12 F12.c0 [x0] h Q Tryd.func12 F12.b F12.k0 F12.b2 13 F12.b3 [.tmp 2] F12.b4 (by simp) [(0, x0)] rfl (wback F12.d0 w)

/-! roster.octet.kind -/
noncomputable def F27.ac : AC := (ann (bodyOf Tryd.f27) [[0, 1, 2], [2], [2], [2, 9], [2], [6], [], [2, 19, 20], [], [2, 19, 20], [2, 19, 20, 21], [2, 19, 20], [2, 19, 20], [2, 19, 20], [2, 19, 20], [2, 8, 19, 20], [2, 19, 20, 25], [2, 19, 20], [6], [6]]).1
noncomputable def F27.c0 : AC := F27.ac
noncomputable def F27.c1 : AC := F27.ac.snd.fst.fst.snd.fst
noncomputable def F27.c2 : AC := F27.ac.snd.snd
noncomputable def F27.c3 : AC := F27.ac.snd.snd.fst.snd.fst.fst
noncomputable def F27.c4 : AC := F27.ac.snd.snd.fst.snd.fst.fst.snd.snd
noncomputable def F27.c5 : AC := F27.ac.snd.snd.fst.snd.fst.fst.snd.snd.fst.fst.snd.snd.fst
noncomputable def F27.c6 : AC := F27.ac.snd.snd.fst.snd.fst.fst.snd.snd.snd
noncomputable def F27.c7 : AC := F27.ac.snd.snd.snd
noncomputable def F27.p0 (n0 : Nat) : WP := wA Tryd.prog n0 27 none F27.c0
noncomputable def F27.p1 (n0 : Nat) : WP := wA Tryd.prog n0 27 none F27.c1
noncomputable def F27.p2 (n0 : Nat) : WP := wA Tryd.prog n0 27 none F27.c2
noncomputable def F27.p3 (n0 : Nat) : WP := wA Tryd.prog n0 27 none F27.c3
noncomputable def F27.p4 (n0 : Nat) : WP := wA Tryd.prog n0 27 none F27.c4
noncomputable def F27.p5 (n0 : Nat) : WP := wA Tryd.prog n0 27 none F27.c5
noncomputable def F27.p6 (n0 : Nat) : WP := wA Tryd.prog n0 27 none F27.c6
noncomputable def F27.p7 (n0 : Nat) : WP := wA Tryd.prog n0 27 none F27.c7
noncomputable def F27.t0 (n0 : Nat) (B1 : WP) (B2 : WP) (s0 at1 r2 : Value) (ds : List Nat) (h : H) (K : KP) : Prop :=
  Bnd (aBin Tryd.prog true .eql 21 r2 (.int .i32 65533)) fun t11 =>
  Gd t11
   (Bnd (aSlice Tryd.prog 9 s0 (some at1) none none h) fun t15 =>
  Cn Tryd.prog n0 (.func 41) [t15, (.string ⟨#[239, 191, 189]⟩)] h fun t16 h1 =>
  Bnd (aUn .not t16) fun t17 =>
  Cnd t17
   (B1 [(2, r2)] ds h1 (KBlk [2] 0 (KSeq [2] B2 K)))
   (B2 [(2, r2)] ds h1 K))
   (B2 [(2, r2)] ds h K)
theorem F27.g0 {n0 : Nat} (B1 : WP) (B2 : WP) (s0 at1 r2 : Value) {ds : List Nat} {h : H} {K : KP} : wA Tryd.prog n0 27 none (.seq [0, 1, 2] F27.c0.fst (.seq [2] (.block [2] 0 (.seq [2, 9] F27.c0.snd.fst.fst.fst (.cond [2] (.tmp 9) (.sub B1) F27.c0.snd.fst.fst.snd.snd))) (.sub B2))) [(0, s0), (1, at1), (2, r2)] ds h K = F27.t0 n0 B1 B2 s0 at1 r2 ds h K := by kernel_rfl
theorem F27.s0 {n0 : Nat} : F27.p0 n0 = wA Tryd.prog n0 27 none (.seq [0, 1, 2] F27.c0.fst (.seq [2] (.block [2] 0 (.seq [2, 9] F27.c0.snd.fst.fst.fst (.cond [2] (.tmp 9) (.sub (F27.p1 n0)) F27.c0.snd.fst.fst.snd.snd))) (.sub (F27.p2 n0)))) := by kernel_rfl
theorem F27.e0 {n0 : Nat} {s0 at1 r2 : Value} {ds : List Nat} {h : H} {K : KP} : F27.p0 n0 [(0, s0), (1, at1), (2, r2)] ds h K = F27.t0 n0 (F27.p1 n0) (F27.p2 n0) s0 at1 r2 ds h K :=
  wchain (F27.s0) (F27.g0 (F27.p1 n0) (F27.p2 n0) s0 at1 r2)
theorem F27.k0 : F27.c0.ok = true := by kernel_rfl
theorem F27.d0 {n0 : Nat} : F27.p0 n0 = wA Tryd.prog n0 27 none F27.c0 := by kernel_rfl
theorem F27.m0 (n0 : Nat) : MonoW (F27.p0 n0) := @mono_c Tryd.prog n0 27 none F27.c0 (F27.p0 n0) (F27.d0) F27.k0
noncomputable def F27.t1 (n0 : Nat) (r2 : Value) (ds : List Nat) (h : H) (K : KP) : Prop :=
  K .ret [(6, (.int .i64 0))] ds h
theorem F27.g1 {n0 : Nat} (r2 : Value) {ds : List Nat} {h : H} {K : KP} : wA Tryd.prog n0 27 none F27.c1 [(2, r2)] ds h K = F27.t1 n0 r2 ds h K := by kernel_rfl
theorem F27.s1 {n0 : Nat} : F27.p1 n0 = wA Tryd.prog n0 27 none F27.c1 := by kernel_rfl
theorem F27.e1 {n0 : Nat} {r2 : Value} {ds : List Nat} {h : H} {K : KP} : F27.p1 n0 [(2, r2)] ds h K = F27.t1 n0 r2 ds h K :=
  wchain (F27.s1) (F27.g1 r2)
noncomputable def F27.t2 (n0 : Nat) (B3 : WP) (B7 : WP) (r2 : Value) (ds : List Nat) (h : H) (K : KP) : Prop :=
  Bnd (aBuild Tryd.prog 52 [(0, (.int .i32 0)), (1, (.int .i32 40)), (2, (.int .i32 41)), (3, (.int .i32 42)), (4, (.int .i32 92))]) fun t19 =>
  Lp [2, 19, 20] B3 [(2, r2), (19, t19), (20, (.int .i64 0))] ds h (KBlk [] 1 (KSeq [] B7 K))
theorem F27.g2 {n0 : Nat} (B3 : WP) (B7 : WP) (r2 : Value) {ds : List Nat} {h : H} {K : KP} : wA Tryd.prog n0 27 none (.seq [] (.seq [2, 19, 20] F27.c2.fst.fst (.block [] 1 (.loop [2, 19, 20] (.sub B3)))) (.sub B7)) [(2, r2)] ds h K = F27.t2 n0 B3 B7 r2 ds h K := by kernel_rfl
theorem F27.s2 {n0 : Nat} : F27.p2 n0 = wA Tryd.prog n0 27 none (.seq [] (.seq [2, 19, 20] F27.c2.fst.fst (.block [] 1 (.loop [2, 19, 20] (.sub (F27.p3 n0))))) (.sub (F27.p7 n0))) := by kernel_rfl
theorem F27.e2 {n0 : Nat} {r2 : Value} {ds : List Nat} {h : H} {K : KP} : F27.p2 n0 [(2, r2)] ds h K = F27.t2 n0 (F27.p3 n0) (F27.p7 n0) r2 ds h K :=
  wchain (F27.s2) (F27.g2 (F27.p3 n0) (F27.p7 n0) r2)
noncomputable def F27.t3 (n0 : Nat) (B4 : WP) (r2 t19 t20 : Value) (ds : List Nat) (h : H) (K : KP) : Prop :=
  Bnd (aBin Tryd.prog true .lss 3 t20 (.int .i64 5)) fun t21 =>
  Cnd t21
   (B4 [(2, r2), (19, t19), (20, t20)] ds h K)
   (K (.exit 1) [(2, r2), (19, t19), (20, t20)] ds h)
theorem F27.g3 {n0 : Nat} (B4 : WP) (r2 t19 t20 : Value) {ds : List Nat} {h : H} {K : KP} : wA Tryd.prog n0 27 none (.seq [2, 19, 20, 21] F27.c3.fst (.seq [2, 19, 20] F27.c3.snd.fst (.sub B4))) [(2, r2), (19, t19), (20, t20)] ds h K = F27.t3 n0 B4 r2 t19 t20 ds h K := by kernel_rfl
theorem F27.s3 {n0 : Nat} : F27.p3 n0 = wA Tryd.prog n0 27 none (.seq [2, 19, 20, 21] F27.c3.fst (.seq [2, 19, 20] F27.c3.snd.fst (.sub (F27.p4 n0)))) := by kernel_rfl
theorem F27.e3 {n0 : Nat} {r2 t19 t20 : Value} {ds : List Nat} {h : H} {K : KP} : F27.p3 n0 [(2, r2), (19, t19), (20, t20)] ds h K = F27.t3 n0 (F27.p4 n0) r2 t19 t20 ds h K :=
  wchain (F27.s3) (F27.g3 (F27.p4 n0) r2 t19 t20)
theorem F27.k3 : F27.c3.ok = true := by kernel_rfl
theorem F27.d3 {n0 : Nat} : F27.p3 n0 = wA Tryd.prog n0 27 none F27.c3 := by kernel_rfl
theorem F27.m3 (n0 : Nat) : MonoW (F27.p3 n0) := @mono_c Tryd.prog n0 27 none F27.c3 (F27.p3 n0) (F27.d3) F27.k3
noncomputable def F27.t4 (n0 : Nat) (B5 : WP) (B6 : WP) (r2 t19 t20 : Value) (ds : List Nat) (h : H) (K : KP) : Prop :=
  Bnd (aIndex Tryd.prog 52 t19 t20) fun t22 =>
  Bnd (aBin Tryd.prog false .eql 21 r2 t22) fun t25 =>
  Cnd t25
   (B5 [(2, r2), (19, t19), (20, t20)] ds h (KBlk [2, 19, 20] 2 (KSeq [2, 19, 20] B6 K)))
   (B6 [(2, r2), (19, t19), (20, t20)] ds h K)
theorem F27.g4 {n0 : Nat} (B5 : WP) (B6 : WP) (r2 t19 t20 : Value) {ds : List Nat} {h : H} {K : KP} : wA Tryd.prog n0 27 none (.seq [2, 19, 20] (.block [2, 19, 20] 2 (.seq [2, 8, 19, 20] F27.c4.fst.fst.fst (.seq [2, 19, 20, 25] F27.c4.fst.fst.snd.fst (.cond [2, 19, 20] (.tmp 25) (.sub B5) F27.c4.fst.fst.snd.snd.snd)))) (.sub B6)) [(2, r2), (19, t19), (20, t20)] ds h K = F27.t4 n0 B5 B6 r2 t19 t20 ds h K := by kernel_rfl
theorem F27.s4 {n0 : Nat} : F27.p4 n0 = wA Tryd.prog n0 27 none (.seq [2, 19, 20] (.block [2, 19, 20] 2 (.seq [2, 8, 19, 20] F27.c4.fst.fst.fst (.seq [2, 19, 20, 25] F27.c4.fst.fst.snd.fst (.cond [2, 19, 20] (.tmp 25) (.sub (F27.p5 n0)) F27.c4.fst.fst.snd.snd.snd)))) (.sub (F27.p6 n0))) := by kernel_rfl
theorem F27.e4 {n0 : Nat} {r2 t19 t20 : Value} {ds : List Nat} {h : H} {K : KP} : F27.p4 n0 [(2, r2), (19, t19), (20, t20)] ds h K = F27.t4 n0 (F27.p5 n0) (F27.p6 n0) r2 t19 t20 ds h K :=
  wchain (F27.s4) (F27.g4 (F27.p5 n0) (F27.p6 n0) r2 t19 t20)
noncomputable def F27.t5 (n0 : Nat) (r2 t19 t20 : Value) (ds : List Nat) (h : H) (K : KP) : Prop :=
  K .ret [(6, (.int .i64 1))] ds h
theorem F27.g5 {n0 : Nat} (r2 t19 t20 : Value) {ds : List Nat} {h : H} {K : KP} : wA Tryd.prog n0 27 none F27.c5 [(2, r2), (19, t19), (20, t20)] ds h K = F27.t5 n0 r2 t19 t20 ds h K := by kernel_rfl
theorem F27.s5 {n0 : Nat} : F27.p5 n0 = wA Tryd.prog n0 27 none F27.c5 := by kernel_rfl
theorem F27.e5 {n0 : Nat} {r2 t19 t20 : Value} {ds : List Nat} {h : H} {K : KP} : F27.p5 n0 [(2, r2), (19, t19), (20, t20)] ds h K = F27.t5 n0 r2 t19 t20 ds h K :=
  wchain (F27.s5) (F27.g5 r2 t19 t20)
noncomputable def F27.t6 (n0 : Nat) (r2 t19 t20 : Value) (ds : List Nat) (h : H) (K : KP) : Prop :=
  Bnd (aBin Tryd.prog true .add 3 t20 (.int .i64 1)) fun t26 =>
  K .normal [(2, r2), (19, t19), (20, t26), (26, t26)] ds h
theorem F27.g6 {n0 : Nat} (r2 t19 t20 : Value) {ds : List Nat} {h : H} {K : KP} : wA Tryd.prog n0 27 none F27.c6 [(2, r2), (19, t19), (20, t20)] ds h K = F27.t6 n0 r2 t19 t20 ds h K := by kernel_rfl
theorem F27.s6 {n0 : Nat} : F27.p6 n0 = wA Tryd.prog n0 27 none F27.c6 := by kernel_rfl
theorem F27.e6 {n0 : Nat} {r2 t19 t20 : Value} {ds : List Nat} {h : H} {K : KP} : F27.p6 n0 [(2, r2), (19, t19), (20, t20)] ds h K = F27.t6 n0 r2 t19 t20 ds h K :=
  wchain (F27.s6) (F27.g6 r2 t19 t20)
noncomputable def F27.t7 (n0 : Nat) (ds : List Nat) (h : H) (K : KP) : Prop :=
  K .ret [(6, (.int .i64 2))] ds h
theorem F27.g7 {n0 : Nat} {ds : List Nat} {h : H} {K : KP} : wA Tryd.prog n0 27 none F27.c7 [] ds h K = F27.t7 n0  ds h K := by kernel_rfl
theorem F27.s7 {n0 : Nat} : F27.p7 n0 = wA Tryd.prog n0 27 none F27.c7 := by kernel_rfl
theorem F27.e7 {n0 : Nat} {ds : List Nat} {h : H} {K : KP} : F27.p7 n0 [] ds h K = F27.t7 n0  ds h K :=
  wchain (F27.s7) (F27.g7)
theorem F27.b : Tryd.f27.body = some F27.c0.erase := by kernel_rfl
theorem F27.b2 : (Tryd.f27.name == "runtime.NumGoroutine") = false := by kernel_rfl
theorem F27.b3 : Tryd.f27.ntmps = 27 := by kernel_rfl
theorem F27.b4 : Tryd.f27.results.toList = [.tmp 6] := by kernel_rfl
theorem F27.enter {n0 : Nat} {x0 x1 x2 : Value} {h : H} {Q : Value → H → Prop} (w : F27.p0 n0 [(0, x0), (1, x1), (2, x2)] [] h (KFin Tryd.prog [.tmp 6] Q)) : Cn Tryd.prog n0 (.func 27) [x0, x1, x2] h Q :=
  @fn_enter Tryd.prog n0 mixed 27 Tryd.f27 F27.c0 [x0, x1, x2] h Q Tryd.func27 F27.b F27.k0 F27.b2 27 F27.b3 [.tmp 6] F27.b4 (by simp) [(0, x0), (1, x1), (2, x2)] rfl (wback F27.d0 w)

/-! roster.rosterref01.First -/
noncomputable def F28.ac : AC := (ann (bodyOf Tryd.f28) [[0], [0], [0, 6], [0], [2], [0, 3], [0, 3, 4], [0, 3, 4], [0, 3, 4, 11], [0, 3, 4], [], [], [0, 3, 4, 14], [0, 3, 4], [2], [0, 3, 4, 17], [0, 3, 4], [2], [0, 3, 4, 24], [0, 3, 4], [2], [0, 3, 4, 35], [0, 3, 4], [2], [0, 3, 4, 50], [0, 3, 4], [2], [0, 3, 4, 61], [0, 3, 4], [2], [0, 3, 4, 72], [0, 3, 4], [2], [79], [], [2], [2]]).1
noncomputable def F28.c0 : AC := F28.ac
noncomputable def F28.c1 : AC := F28.ac.snd.fst.snd.fst
noncomputable def F28.c2 : AC := F28.ac.snd.snd
noncomputable def F28.c3 : AC := F28.ac.snd.snd.snd.snd.fst.snd.fst
noncomputable def F28.c4 : AC := F28.ac.snd.snd.snd.snd.snd
noncomputable def F28.c5 : AC := F28.ac.snd.snd.snd.snd.snd.fst.fst.snd.fst
noncomputable def F28.c6 : AC := F28.ac.snd.snd.snd.snd.snd.fst.fst.snd.snd
noncomputable def F28.c7 : AC := F28.ac.snd.snd.snd.snd.snd.fst.fst.snd.snd.snd.fst
noncomputable def F28.c8 : AC := F28.ac.snd.snd.snd.snd.snd.fst.fst.snd.snd.snd.snd
noncomputable def F28.c9 : AC := F28.ac.snd.snd.snd.snd.snd.fst.fst.snd.snd.snd.snd.snd.fst
noncomputable def F28.c10 : AC := F28.ac.snd.snd.snd.snd.snd.fst.fst.snd.snd.snd.snd.snd.snd
noncomputable def F28.c11 : AC := F28.ac.snd.snd.snd.snd.snd.fst.fst.snd.snd.snd.snd.snd.snd.snd.fst
noncomputable def F28.c12 : AC := F28.ac.snd.snd.snd.snd.snd.fst.fst.snd.snd.snd.snd.snd.snd.snd.snd
noncomputable def F28.c13 : AC := F28.ac.snd.snd.snd.snd.snd.fst.fst.snd.snd.snd.snd.snd.snd.snd.snd.snd.fst
noncomputable def F28.c14 : AC := F28.ac.snd.snd.snd.snd.snd.fst.fst.snd.snd.snd.snd.snd.snd.snd.snd.snd.snd
noncomputable def F28.c15 : AC := F28.ac.snd.snd.snd.snd.snd.fst.fst.snd.snd.snd.snd.snd.snd.snd.snd.snd.snd.snd.fst
noncomputable def F28.c16 : AC := F28.ac.snd.snd.snd.snd.snd.fst.fst.snd.snd.snd.snd.snd.snd.snd.snd.snd.snd.snd.snd
noncomputable def F28.c17 : AC := F28.ac.snd.snd.snd.snd.snd.fst.fst.snd.snd.snd.snd.snd.snd.snd.snd.snd.snd.snd.snd.snd.fst
noncomputable def F28.c18 : AC := F28.ac.snd.snd.snd.snd.snd.fst.fst.snd.snd.snd.snd.snd.snd.snd.snd.snd.snd.snd.snd.snd.snd
noncomputable def F28.c19 : AC := F28.ac.snd.snd.snd.snd.snd.fst.fst.snd.snd.snd.snd.snd.snd.snd.snd.snd.snd.snd.snd.snd.snd.snd.fst
noncomputable def F28.c20 : AC := F28.ac.snd.snd.snd.snd.snd.snd
noncomputable def F28.p0 (n0 : Nat) : WP := wA Tryd.prog n0 90 none F28.c0
noncomputable def F28.p1 (n0 : Nat) : WP := wA Tryd.prog n0 90 none F28.c1
noncomputable def F28.p2 (n0 : Nat) : WP := wA Tryd.prog n0 90 none F28.c2
noncomputable def F28.p3 (n0 : Nat) : WP := wA Tryd.prog n0 90 none F28.c3
noncomputable def F28.p4 (n0 : Nat) : WP := wA Tryd.prog n0 90 none F28.c4
noncomputable def F28.p5 (n0 : Nat) : WP := wA Tryd.prog n0 90 none F28.c5
noncomputable def F28.p6 (n0 : Nat) : WP := wA Tryd.prog n0 90 none F28.c6
noncomputable def F28.p7 (n0 : Nat) : WP := wA Tryd.prog n0 90 none F28.c7
noncomputable def F28.p8 (n0 : Nat) : WP := wA Tryd.prog n0 90 none F28.c8
noncomputable def F28.p9 (n0 : Nat) : WP := wA Tryd.prog n0 90 none F28.c9
noncomputable def F28.p10 (n0 : Nat) : WP := wA Tryd.prog n0 90 none F28.c10
noncomputable def F28.p11 (n0 : Nat) : WP := wA Tryd.prog n0 90 none F28.c11
noncomputable def F28.p12 (n0 : Nat) : WP := wA Tryd.prog n0 90 none F28.c12
noncomputable def F28.p13 (n0 : Nat) : WP := wA Tryd.prog n0 90 none F28.c13
noncomputable def F28.p14 (n0 : Nat) : WP := wA Tryd.prog n0 90 none F28.c14
noncomputable def F28.p15 (n0 : Nat) : WP := wA Tryd.prog n0 90 none F28.c15
noncomputable def F28.p16 (n0 : Nat) : WP := wA Tryd.prog n0 90 none F28.c16
noncomputable def F28.p17 (n0 : Nat) : WP := wA Tryd.prog n0 90 none F28.c17
noncomputable def F28.p18 (n0 : Nat) : WP := wA Tryd.prog n0 90 none F28.c18
noncomputable def F28.p19 (n0 : Nat) : WP := wA Tryd.prog n0 90 none F28.c19
noncomputable def F28.p20 (n0 : Nat) : WP := wA Tryd.prog n0 90 none F28.c20
noncomputable def F28.t0 (n0 : Nat) (B1 : WP) (B2 : WP) (s0 : Value) (ds : List Nat) (h : H) (K : KP) : Prop :=
  Bnd (aBin Tryd.prog true .eql 9 s0 (.string ⟨#[]⟩)) fun t6 =>
  Cnd t6
   (B1 [(0, s0)] ds h (KSeq [0] B2 K))
   (B2 [(0, s0)] ds h K)
theorem F28.g0 {n0 : Nat} (B1 : WP) (B2 : WP) (s0 : Value) {ds : List Nat} {h : H} {K : KP} : wA Tryd.prog n0 90 none (.seq [0] F28.c0.fst (.seq [0] (.seq [0, 6] F28.c0.snd.fst.fst (.cond [0] (.tmp 6) (.sub B1) F28.c0.snd.fst.snd.snd)) (.sub B2))) [(0, s0)] ds h K = F28.t0 n0 B1 B2 s0 ds h K := by kernel_rfl
theorem F28.s0 {n0 : Nat} : F28.p0 n0 = wA Tryd.prog n0 90 none (.seq [0] F28.c0.fst (.seq [0] (.seq [0, 6] F28.c0.snd.fst.fst (.cond [0] (.tmp 6) (.sub (F28.p1 n0)) F28.c0.snd.fst.snd.snd)) (.sub (F28.p2 n0)))) := by kernel_rfl
theorem F28.e0 {n0 : Nat} {s0 : Value} {ds : List Nat} {h : H} {K : KP} : F28.p0 n0 [(0, s0)] ds h K = F28.t0 n0 (F28.p1 n0) (F28.p2 n0) s0 ds h K :=
  wchain (F28.s0) (F28.g0 (F28.p1 n0) (F28.p2 n0) s0)
theorem F28.k0 : F28.c0.ok = true := by kernel_rfl
theorem F28.d0 {n0 : Nat} : F28.p0 n0 = wA Tryd.prog n0 90 none F28.c0 := by kernel_rfl
theorem F28.m0 (n0 : Nat) : MonoW (F28.p0 n0) := @mono_c Tryd.prog n0 90 none F28.c0 (F28.p0 n0) (F28.d0) F28.k0
noncomputable def F28.t1 (n0 : Nat) (s0 : Value) (ds : List Nat) (h : H) (K : KP) : Prop :=
  K .ret [(2, (.int .i64 0))] ds h
theorem F28.g1 {n0 : Nat} (s0 : Value) {ds : List Nat} {h : H} {K : KP} : wA Tryd.prog n0 90 none F28.c1 [(0, s0)] ds h K = F28.t1 n0 s0 ds h K := by kernel_rfl
theorem F28.s1 {n0 : Nat} : F28.p1 n0 = wA Tryd.prog n0 90 none F28.c1 := by kernel_rfl
theorem F28.e1 {n0 : Nat} {s0 : Value} {ds : List Nat} {h : H} {K : KP} : F28.p1 n0 [(0, s0)] ds h K = F28.t1 n0 s0 ds h K :=
  wchain (F28.s1) (F28.g1 s0)
noncomputable def F28.t2 (n0 : Nat) (B3 : WP) (B4 : WP) (s0 : Value) (ds : List Nat) (h : H) (K : KP) : Prop :=
  Bnd (aIndex Tryd.prog 9 s0 (.int .i64 0)) fun t8 =>
  Bnd2 (aBuiltin Tryd.prog .len #[9] [s0] h) fun t10 h1 =>
  Bnd (aBin Tryd.prog true .gtr 3 t10 (.int .i64 1)) fun t11 =>
  Cnd t11
   (B3 [(0, s0), (3, t8), (4, (.int .u8 0))] ds h1 (KSeq [0, 3, 4] B4 K))
   (B4 [(0, s0), (3, t8), (4, (.int .u8 0))] ds h1 K)
theorem F28.g2 {n0 : Nat} (B3 : WP) (B4 : WP) (s0 : Value) {ds : List Nat} {h : H} {K : KP} : wA Tryd.prog n0 90 none (.seq [0, 3] F28.c2.fst (.seq [0, 3, 4] F28.c2.snd.fst (.seq [0, 3, 4] (.seq [0, 3, 4, 11] F28.c2.snd.snd.fst.fst (.cond [0, 3, 4] (.tmp 11) (.sub B3) F28.c2.snd.snd.fst.snd.snd)) (.sub B4)))) [(0, s0)] ds h K = F28.t2 n0 B3 B4 s0 ds h K := by kernel_rfl
theorem F28.s2 {n0 : Nat} : F28.p2 n0 = wA Tryd.prog n0 90 none (.seq [0, 3] F28.c2.fst (.seq [0, 3, 4] F28.c2.snd.fst (.seq [0, 3, 4] (.seq [0, 3, 4, 11] F28.c2.snd.snd.fst.fst (.cond [0, 3, 4] (.tmp 11) (.sub (F28.p3 n0)) F28.c2.snd.snd.fst.snd.snd)) (.sub (F28.p4 n0))))) := by kernel_rfl
theorem F28.e2 {n0 : Nat} {s0 : Value} {ds : List Nat} {h : H} {K : KP} : F28.p2 n0 [(0, s0)] ds h K = F28.t2 n0 (F28.p3 n0) (F28.p4 n0) s0 ds h K :=
  wchain (F28.s2) (F28.g2 (F28.p3 n0) (F28.p4 n0) s0)
noncomputable def F28.t3 (n0 : Nat) (s0 c3 second4 : Value) (ds : List Nat) (h : H) (K : KP) : Prop :=
  Bnd (aIndex Tryd.prog 9 s0 (.int .i64 1)) fun t13 =>
  K .normal [(0, s0), (3, c3), (4, t13), (12, s0), (13, t13)] ds h
theorem F28.g3 {n0 : Nat} (s0 c3 second4 : Value) {ds : List Nat} {h : H} {K : KP} : wA Tryd.prog n0 90 none F28.c3 [(0, s0), (3, c3), (4, second4)] ds h K = F28.t3 n0 s0 c3 second4 ds h K := by kernel_rfl
theorem F28.s3 {n0 : Nat} : F28.p3 n0 = wA Tryd.prog n0 90 none F28.c3 := by kernel_rfl
theorem F28.e3 {n0 : Nat} {s0 c3 second4 : Value} {ds : List Nat} {h : H} {K : KP} : F28.p3 n0 [(0, s0), (3, c3), (4, second4)] ds h K = F28.t3 n0 s0 c3 second4 ds h K :=
  wchain (F28.s3) (F28.g3 s0 c3 second4)
noncomputable def F28.t4 (n0 : Nat) (B5 : WP) (B6 : WP) (B20 : WP) (s0 c3 second4 : Value) (ds : List Nat) (h : H) (K : KP) : Prop :=
  Bnd (aBin Tryd.prog true .leq 5 c3 (.int .u8 127)) fun t16 =>
  Cnd t16
   (B5 [(0, s0), (3, c3), (4, second4)] ds h (KBlk [] 0 (KSeq [] B20 K)))
   (B6 [(0, s0), (3, c3), (4, second4)] ds h (KBlk [] 0 (KSeq [] B20 K)))
theorem F28.g4 {n0 : Nat} (B5 : WP) (B6 : WP) (B20 : WP) (s0 c3 second4 : Value) {ds : List Nat} {h : H} {K : KP} : wA Tryd.prog n0 90 none (.seq [] (.block [] 0 (.seq [0, 3, 4, 14] F28.c4.fst.fst.fst (.cond [0, 3, 4] (.tmp 14) (.sub B5) (.sub B6)))) (.sub B20)) [(0, s0), (3, c3), (4, second4)] ds h K = F28.t4 n0 B5 B6 B20 s0 c3 second4 ds h K := by kernel_rfl
theorem F28.s4 {n0 : Nat} : F28.p4 n0 = wA Tryd.prog n0 90 none (.seq [] (.block [] 0 (.seq [0, 3, 4, 14] F28.c4.fst.fst.fst (.cond [0, 3, 4] (.tmp 14) (.sub (F28.p5 n0)) (.sub (F28.p6 n0))))) (.sub (F28.p20 n0))) := by kernel_rfl
theorem F28.e4 {n0 : Nat} {s0 c3 second4 : Value} {ds : List Nat} {h : H} {K : KP} : F28.p4 n0 [(0, s0), (3, c3), (4, second4)] ds h K = F28.t4 n0 (F28.p5 n0) (F28.p6 n0) (F28.p20 n0) s0 c3 second4 ds h K :=
  wchain (F28.s4) (F28.g4 (F28.p5 n0) (F28.p6 n0) (F28.p20 n0) s0 c3 second4)
noncomputable def F28.t5 (n0 : Nat) (s0 c3 second4 : Value) (ds : List Nat) (h : H) (K : KP) : Prop :=
  K .ret [(2, (.int .i64 1))] ds h
theorem F28.g5 {n0 : Nat} (s0 c3 second4 : Value) {ds : List Nat} {h : H} {K : KP} : wA Tryd.prog n0 90 none F28.c5 [(0, s0), (3, c3), (4, second4)] ds h K = F28.t5 n0 s0 c3 second4 ds h K := by kernel_rfl
theorem F28.s5 {n0 : Nat} : F28.p5 n0 = wA Tryd.prog n0 90 none F28.c5 := by kernel_rfl
theorem F28.e5 {n0 : Nat} {s0 c3 second4 : Value} {ds : List Nat} {h : H} {K : KP} : F28.p5 n0 [(0, s0), (3, c3), (4, second4)] ds h K = F28.t5 n0 s0 c3 second4 ds h K :=
  wchain (F28.s5) (F28.g5 s0 c3 second4)
noncomputable def F28.t6 (n0 : Nat) (B7 : WP) (B8 : WP) (s0 c3 second4 : Value) (ds : List Nat) (h : H) (K : KP) : Prop :=
  Cn Tryd.prog n0 (.func 42) [c3, (.int .u8 194), (.int .u8 223)] h fun t19 h1 =>
  Gd t19
   (Cn Tryd.prog n0 (.func 43) [s0, (.int .i64 1), (.int .i64 1)] h1 fun t22 h2 =>
  Cnd t22
   (B7 [(0, s0), (3, c3), (4, second4)] ds h2 K)
   (B8 [(0, s0), (3, c3), (4, second4)] ds h2 K))
   (B8 [(0, s0), (3, c3), (4, second4)] ds h1 K)
theorem F28.g6 {n0 : Nat} (B7 : WP) (B8 : WP) (s0 c3 second4 : Value) {ds : List Nat} {h : H} {K : KP} : wA Tryd.prog n0 90 none (.seq [0, 3, 4, 17] F28.c6.fst (.cond [0, 3, 4] (.tmp 17) (.sub B7) (.sub B8))) [(0, s0), (3, c3), (4, second4)] ds h K = F28.t6 n0 B7 B8 s0 c3 second4 ds h K := by kernel_rfl
theorem F28.s6 {n0 : Nat} : F28.p6 n0 = wA Tryd.prog n0 90 none (.seq [0, 3, 4, 17] F28.c6.fst (.cond [0, 3, 4] (.tmp 17) (.sub (F28.p7 n0)) (.sub (F28.p8 n0)))) := by kernel_rfl
theorem F28.e6 {n0 : Nat} {s0 c3 second4 : Value} {ds : List Nat} {h : H} {K : KP} : F28.p6 n0 [(0, s0), (3, c3), (4, second4)] ds h K = F28.t6 n0 (F28.p7 n0) (F28.p8 n0) s0 c3 second4 ds h K :=
  wchain (F28.s6) (F28.g6 (F28.p7 n0) (F28.p8 n0) s0 c3 second4)
noncomputable def F28.t7 (n0 : Nat) (s0 c3 second4 : Value) (ds : List Nat) (h : H) (K : KP) : Prop :=
  K .ret [(2, (.int .i64 2))] ds h
theorem F28.g7 {n0 : Nat} (s0 c3 second4 : Value) {ds : List Nat} {h : H} {K : KP} : wA Tryd.prog n0 90 none F28.c7 [(0, s0), (3, c3), (4, second4)] ds h K = F28.t7 n0 s0 c3 second4 ds h K := by kernel_rfl
theorem F28.s7 {n0 : Nat} : F28.p7 n0 = wA Tryd.prog n0 90 none F28.c7 := by kernel_rfl
theorem F28.e7 {n0 : Nat} {s0 c3 second4 : Value} {ds : List Nat} {h : H} {K : KP} : F28.p7 n0 [(0, s0), (3, c3), (4, second4)] ds h K = F28.t7 n0 s0 c3 second4 ds h K :=
  wchain (F28.s7) (F28.g7 s0 c3 second4)
noncomputable def F28.t8 (n0 : Nat) (B9 : WP) (B10 : WP) (s0 c3 second4 : Value) (ds : List Nat) (h : H) (K : KP) : Prop :=
  Bnd (aBin Tryd.prog true .eql 5 c3 (.int .u8 224)) fun t26 =>
  Gd t26
   (Cn Tryd.prog n0 (.func 42) [second4, (.int .u8 160), (.int .u8 191)] h fun t29 h1 =>
  Gd t29
   (Cn Tryd.prog n0 (.func 43) [s0, (.int .i64 2), (.int .i64 1)] h1 fun t33 h2 =>
  Cnd t33
   (B9 [(0, s0), (3, c3), (4, second4)] ds h2 K)
   (B10 [(0, s0), (3, c3), (4, second4)] ds h2 K))
   (B10 [(0, s0), (3, c3), (4, second4)] ds h1 K))
   (B10 [(0, s0), (3, c3), (4, second4)] ds h K)
theorem F28.g8 {n0 : Nat} (B9 : WP) (B10 : WP) (s0 c3 second4 : Value) {ds : List Nat} {h : H} {K : KP} : wA Tryd.prog n0 90 none (.seq [0, 3, 4, 24] F28.c8.fst (.cond [0, 3, 4] (.tmp 24) (.sub B9) (.sub B10))) [(0, s0), (3, c3), (4, second4)] ds h K = F28.t8 n0 B9 B10 s0 c3 second4 ds h K := by kernel_rfl
theorem F28.s8 {n0 : Nat} : F28.p8 n0 = wA Tryd.prog n0 90 none (.seq [0, 3, 4, 24] F28.c8.fst (.cond [0, 3, 4] (.tmp 24) (.sub (F28.p9 n0)) (.sub (F28.p10 n0)))) := by kernel_rfl
theorem F28.e8 {n0 : Nat} {s0 c3 second4 : Value} {ds : List Nat} {h : H} {K : KP} : F28.p8 n0 [(0, s0), (3, c3), (4, second4)] ds h K = F28.t8 n0 (F28.p9 n0) (F28.p10 n0) s0 c3 second4 ds h K :=
  wchain (F28.s8) (F28.g8 (F28.p9 n0) (F28.p10 n0) s0 c3 second4)
noncomputable def F28.t9 (n0 : Nat) (s0 c3 second4 : Value) (ds : List Nat) (h : H) (K : KP) : Prop :=
  K .ret [(2, (.int .i64 3))] ds h
theorem F28.g9 {n0 : Nat} (s0 c3 second4 : Value) {ds : List Nat} {h : H} {K : KP} : wA Tryd.prog n0 90 none F28.c9 [(0, s0), (3, c3), (4, second4)] ds h K = F28.t9 n0 s0 c3 second4 ds h K := by kernel_rfl
theorem F28.s9 {n0 : Nat} : F28.p9 n0 = wA Tryd.prog n0 90 none F28.c9 := by kernel_rfl
theorem F28.e9 {n0 : Nat} {s0 c3 second4 : Value} {ds : List Nat} {h : H} {K : KP} : F28.p9 n0 [(0, s0), (3, c3), (4, second4)] ds h K = F28.t9 n0 s0 c3 second4 ds h K :=
  wchain (F28.s9) (F28.g9 s0 c3 second4)
noncomputable def F28.t10 (n0 : Nat) (B11 : WP) (B12 : WP) (s0 c3 second4 : Value) (ds : List Nat) (h : H) (K : KP) : Prop :=
  Cn Tryd.prog n0 (.func 42) [c3, (.int .u8 225), (.int .u8 236)] h fun t37 h1 =>
  Gd t37
   (Cn Tryd.prog n0 (.func 43) [s0, (.int .i64 1), (.int .i64 2)] h1 fun t48 h2 =>
  Cnd t48
   (B11 [(0, s0), (3, c3), (4, second4)] ds h2 K)
   (B12 [(0, s0), (3, c3), (4, second4)] ds h2 K))
   (Bnd (aBin Tryd.prog true .eql 5 c3 (.int .u8 238)) fun t40 =>
  Gd t40
   (Cn Tryd.prog n0 (.func 43) [s0, (.int .i64 1), (.int .i64 2)] h1 fun t48 h2 =>
  Cnd t48
   (B11 [(0, s0), (3, c3), (4, second4)] ds h2 K)
   (B12 [(0, s0), (3, c3), (4, second4)] ds h2 K))
   (Bnd (aBin Tryd.prog true .eql 5 c3 (.int .u8 239)) fun t44 =>
  Gd t44
   (Cn Tryd.prog n0 (.func 43) [s0, (.int .i64 1), (.int .i64 2)] h1 fun t48 h2 =>
  Cnd t48
   (B11 [(0, s0), (3, c3), (4, second4)] ds h2 K)
   (B12 [(0, s0), (3, c3), (4, second4)] ds h2 K))
   (B12 [(0, s0), (3, c3), (4, second4)] ds h1 K)))
theorem F28.g10 {n0 : Nat} (B11 : WP) (B12 : WP) (s0 c3 second4 : Value) {ds : List Nat} {h : H} {K : KP} : wA Tryd.prog n0 90 none (.seq [0, 3, 4, 35] F28.c10.fst (.cond [0, 3, 4] (.tmp 35) (.sub B11) (.sub B12))) [(0, s0), (3, c3), (4, second4)] ds h K = F28.t10 n0 B11 B12 s0 c3 second4 ds h K := by kernel_rfl
theorem F28.s10 {n0 : Nat} : F28.p10 n0 = wA Tryd.prog n0 90 none (.seq [0, 3, 4, 35] F28.c10.fst (.cond [0, 3, 4] (.tmp 35) (.sub (F28.p11 n0)) (.sub (F28.p12 n0)))) := by kernel_rfl
theorem F28.e10 {n0 : Nat} {s0 c3 second4 : Value} {ds : List Nat} {h : H} {K : KP} : F28.p10 n0 [(0, s0), (3, c3), (4, second4)] ds h K = F28.t10 n0 (F28.p11 n0) (F28.p12 n0) s0 c3 second4 ds h K :=
  wchain (F28.s10) (F28.g10 (F28.p11 n0) (F28.p12 n0) s0 c3 second4)
noncomputable def F28.t11 (n0 : Nat) (s0 c3 second4 : Value) (ds : List Nat) (h : H) (K : KP) : Prop :=
  K .ret [(2, (.int .i64 3))] ds h
theorem F28.g11 {n0 : Nat} (s0 c3 second4 : Value) {ds : List Nat} {h : H} {K : KP} : wA Tryd.prog n0 90 none F28.c11 [(0, s0), (3, c3), (4, second4)] ds h K = F28.t11 n0 s0 c3 second4 ds h K := by kernel_rfl
theorem F28.s11 {n0 : Nat} : F28.p11 n0 = wA Tryd.prog n0 90 none F28.c11 := by kernel_rfl
theorem F28.e11 {n0 : Nat} {s0 c3 second4 : Value} {ds : List Nat} {h : H} {K : KP} : F28.p11 n0 [(0, s0), (3, c3), (4, second4)] ds h K = F28.t11 n0 s0 c3 second4 ds h K :=
  wchain (F28.s11) (F28.g11 s0 c3 second4)
noncomputable def F28.t12 (n0 : Nat) (B13 : WP) (B14 : WP) (s0 c3 second4 : Value) (ds : List Nat) (h : H) (K : KP) : Prop :=
  Bnd (aBin Tryd.prog true .eql 5 c3 (.int .u8 237)) fun t52 =>
  Gd t52
   (Cn Tryd.prog n0 (.func 42) [second4, (.int .u8 128), (.int .u8 159)] h fun t55 h1 =>
  Gd t55
   (Cn Tryd.prog n0 (.func 43) [s0, (.int .i64 2), (.int .i64 1)] h1 fun t59 h2 =>
  Cnd t59
   (B13 [(0, s0), (3, c3), (4, second4)] ds h2 K)
   (B14 [(0, s0), (3, c3), (4, second4)] ds h2 K))
   (B14 [(0, s0), (3, c3), (4, second4)] ds h1 K))
   (B14 [(0, s0), (3, c3), (4, second4)] ds h K)
theorem F28.g12 {n0 : Nat} (B13 : WP) (B14 : WP) (s0 c3 second4 : Value) {ds : List Nat} {h : H} {K : KP} : wA Tryd.prog n0 90 none (.seq [0, 3, 4, 50] F28.c12.fst (.cond [0, 3, 4] (.tmp 50) (.sub B13) (.sub B14))) [(0, s0), (3, c3), (4, second4)] ds h K = F28.t12 n0 B13 B14 s0 c3 second4 ds h K := by kernel_rfl
theorem F28.s12 {n0 : Nat} : F28.p12 n0 = wA Tryd.prog n0 90 none (.seq [0, 3, 4, 50] F28.c12.fst (.cond [0, 3, 4] (.tmp 50) (.sub (F28.p13 n0)) (.sub (F28.p14 n0)))) := by kernel_rfl
theorem F28.e12 {n0 : Nat} {s0 c3 second4 : Value} {ds : List Nat} {h : H} {K : KP} : F28.p12 n0 [(0, s0), (3, c3), (4, second4)] ds h K = F28.t12 n0 (F28.p13 n0) (F28.p14 n0) s0 c3 second4 ds h K :=
  wchain (F28.s12) (F28.g12 (F28.p13 n0) (F28.p14 n0) s0 c3 second4)
noncomputable def F28.t13 (n0 : Nat) (s0 c3 second4 : Value) (ds : List Nat) (h : H) (K : KP) : Prop :=
  K .ret [(2, (.int .i64 3))] ds h
theorem F28.g13 {n0 : Nat} (s0 c3 second4 : Value) {ds : List Nat} {h : H} {K : KP} : wA Tryd.prog n0 90 none F28.c13 [(0, s0), (3, c3), (4, second4)] ds h K = F28.t13 n0 s0 c3 second4 ds h K := by kernel_rfl
theorem F28.s13 {n0 : Nat} : F28.p13 n0 = wA Tryd.prog n0 90 none F28.c13 := by kernel_rfl
theorem F28.e13 {n0 : Nat} {s0 c3 second4 : Value} {ds : List Nat} {h : H} {K : KP} : F28.p13 n0 [(0, s0), (3, c3), (4, second4)] ds h K = F28.t13 n0 s0 c3 second4 ds h K :=
  wchain (F28.s13) (F28.g13 s0 c3 second4)
noncomputable def F28.t14 (n0 : Nat) (B15 : WP) (B16 : WP) (s0 c3 second4 : Value) (ds : List Nat) (h : H) (K : KP) : Prop :=
  Bnd (aBin Tryd.prog true .eql 5 c3 (.int .u8 240)) fun t63 =>
  Gd t63
   (Cn Tryd.prog n0 (.func 42) [second4, (.int .u8 144), (.int .u8 191)] h fun t66 h1 =>
  Gd t66
   (Cn Tryd.prog n0 (.func 43) [s0, (.int .i64 2), (.int .i64 2)] h1 fun t70 h2 =>
  Cnd t70
   (B15 [(0, s0), (3, c3), (4, second4)] ds h2 K)
   (B16 [(0, s0), (3, c3), (4, second4)] ds h2 K))
   (B16 [(0, s0), (3, c3), (4, second4)] ds h1 K))
   (B16 [(0, s0), (3, c3), (4, second4)] ds h K)
theorem F28.g14 {n0 : Nat} (B15 : WP) (B16 : WP) (s0 c3 second4 : Value) {ds : List Nat} {h : H} {K : KP} : wA Tryd.prog n0 90 none (.seq [0, 3, 4, 61] F28.c14.fst (.cond [0, 3, 4] (.tmp 61) (.sub B15) (.sub B16))) [(0, s0), (3, c3), (4, second4)] ds h K = F28.t14 n0 B15 B16 s0 c3 second4 ds h K := by kernel_rfl
theorem F28.s14 {n0 : Nat} : F28.p14 n0 = wA Tryd.prog n0 90 none (.seq [0, 3, 4, 61] F28.c14.fst (.cond [0, 3, 4] (.tmp 61) (.sub (F28.p15 n0)) (.sub (F28.p16 n0)))) := by kernel_rfl
theorem F28.e14 {n0 : Nat} {s0 c3 second4 : Value} {ds : List Nat} {h : H} {K : KP} : F28.p14 n0 [(0, s0), (3, c3), (4, second4)] ds h K = F28.t14 n0 (F28.p15 n0) (F28.p16 n0) s0 c3 second4 ds h K :=
  wchain (F28.s14) (F28.g14 (F28.p15 n0) (F28.p16 n0) s0 c3 second4)
noncomputable def F28.t15 (n0 : Nat) (s0 c3 second4 : Value) (ds : List Nat) (h : H) (K : KP) : Prop :=
  K .ret [(2, (.int .i64 4))] ds h
theorem F28.g15 {n0 : Nat} (s0 c3 second4 : Value) {ds : List Nat} {h : H} {K : KP} : wA Tryd.prog n0 90 none F28.c15 [(0, s0), (3, c3), (4, second4)] ds h K = F28.t15 n0 s0 c3 second4 ds h K := by kernel_rfl
theorem F28.s15 {n0 : Nat} : F28.p15 n0 = wA Tryd.prog n0 90 none F28.c15 := by kernel_rfl
theorem F28.e15 {n0 : Nat} {s0 c3 second4 : Value} {ds : List Nat} {h : H} {K : KP} : F28.p15 n0 [(0, s0), (3, c3), (4, second4)] ds h K = F28.t15 n0 s0 c3 second4 ds h K :=
  wchain (F28.s15) (F28.g15 s0 c3 second4)
noncomputable def F28.t16 (n0 : Nat) (B17 : WP) (B18 : WP) (s0 c3 second4 : Value) (ds : List Nat) (h : H) (K : KP) : Prop :=
  Cn Tryd.prog n0 (.func 42) [c3, (.int .u8 241), (.int .u8 243)] h fun t74 h1 =>
  Gd t74
   (Cn Tryd.prog n0 (.func 43) [s0, (.int .i64 1), (.int .i64 3)] h1 fun t77 h2 =>
  Cnd t77
   (B17 [(0, s0), (3, c3), (4, second4)] ds h2 K)
   (B18 [(0, s0), (3, c3), (4, second4)] ds h2 K))
   (B18 [(0, s0), (3, c3), (4, second4)] ds h1 K)
theorem F28.g16 {n0 : Nat} (B17 : WP) (B18 : WP) (s0 c3 second4 : Value) {ds : List Nat} {h : H} {K : KP} : wA Tryd.prog n0 90 none (.seq [0, 3, 4, 72] F28.c16.fst (.cond [0, 3, 4] (.tmp 72) (.sub B17) (.sub B18))) [(0, s0), (3, c3), (4, second4)] ds h K = F28.t16 n0 B17 B18 s0 c3 second4 ds h K := by kernel_rfl
theorem F28.s16 {n0 : Nat} : F28.p16 n0 = wA Tryd.prog n0 90 none (.seq [0, 3, 4, 72] F28.c16.fst (.cond [0, 3, 4] (.tmp 72) (.sub (F28.p17 n0)) (.sub (F28.p18 n0)))) := by kernel_rfl
theorem F28.e16 {n0 : Nat} {s0 c3 second4 : Value} {ds : List Nat} {h : H} {K : KP} : F28.p16 n0 [(0, s0), (3, c3), (4, second4)] ds h K = F28.t16 n0 (F28.p17 n0) (F28.p18 n0) s0 c3 second4 ds h K :=
  wchain (F28.s16) (F28.g16 (F28.p17 n0) (F28.p18 n0) s0 c3 second4)
noncomputable def F28.t17 (n0 : Nat) (s0 c3 second4 : Value) (ds : List Nat) (h : H) (K : KP) : Prop :=
  K .ret [(2, (.int .i64 4))] ds h
theorem F28.g17 {n0 : Nat} (s0 c3 second4 : Value) {ds : List Nat} {h : H} {K : KP} : wA Tryd.prog n0 90 none F28.c17 [(0, s0), (3, c3), (4, second4)] ds h K = F28.t17 n0 s0 c3 second4 ds h K := by kernel_rfl
theorem F28.s17 {n0 : Nat} : F28.p17 n0 = wA Tryd.prog n0 90 none F28.c17 := by kernel_rfl
theorem F28.e17 {n0 : Nat} {s0 c3 second4 : Value} {ds : List Nat} {h : H} {K : KP} : F28.p17 n0 [(0, s0), (3, c3), (4, second4)] ds h K = F28.t17 n0 s0 c3 second4 ds h K :=
  wchain (F28.s17) (F28.g17 s0 c3 second4)
noncomputable def F28.t18 (n0 : Nat) (B19 : WP) (s0 c3 second4 : Value) (ds : List Nat) (h : H) (K : KP) : Prop :=
  Bnd (aBin Tryd.prog true .eql 5 c3 (.int .u8 244)) fun t81 =>
  Gd t81
   (Cn Tryd.prog n0 (.func 42) [second4, (.int .u8 128), (.int .u8 143)] h fun t84 h1 =>
  Gd t84
   (Cn Tryd.prog n0 (.func 43) [s0, (.int .i64 2), (.int .i64 2)] h1 fun t88 h2 =>
  Cnd t88
   (B19 [] ds h2 K)
   (K .normal [] ds h2))
   (K .normal [] ds h1))
   (K .normal [] ds h)
theorem F28.g18 {n0 : Nat} (B19 : WP) (s0 c3 second4 : Value) {ds : List Nat} {h : H} {K : KP} : wA Tryd.prog n0 90 none (.seq [79] F28.c18.fst (.cond [] (.tmp 79) (.sub B19) F28.c18.snd.snd)) [(0, s0), (3, c3), (4, second4)] ds h K = F28.t18 n0 B19 s0 c3 second4 ds h K := by kernel_rfl
theorem F28.s18 {n0 : Nat} : F28.p18 n0 = wA Tryd.prog n0 90 none (.seq [79] F28.c18.fst (.cond [] (.tmp 79) (.sub (F28.p19 n0)) F28.c18.snd.snd)) := by kernel_rfl
theorem F28.e18 {n0 : Nat} {s0 c3 second4 : Value} {ds : List Nat} {h : H} {K : KP} : F28.p18 n0 [(0, s0), (3, c3), (4, second4)] ds h K = F28.t18 n0 (F28.p19 n0) s0 c3 second4 ds h K :=
  wchain (F28.s18) (F28.g18 (F28.p19 n0) s0 c3 second4)
noncomputable def F28.t19 (n0 : Nat) (ds : List Nat) (h : H) (K : KP) : Prop :=
  K .ret [(2, (.int .i64 4))] ds h
theorem F28.g19 {n0 : Nat} {ds : List Nat} {h : H} {K : KP} : wA Tryd.prog n0 90 none F28.c19 [] ds h K = F28.t19 n0  ds h K := by kernel_rfl
theorem F28.s19 {n0 : Nat} : F28.p19 n0 = wA Tryd.prog n0 90 none F28.c19 := by kernel_rfl
theorem F28.e19 {n0 : Nat} {ds : List Nat} {h : H} {K : KP} : F28.p19 n0 [] ds h K = F28.t19 n0  ds h K :=
  wchain (F28.s19) (F28.g19)
noncomputable def F28.t20 (n0 : Nat) (ds : List Nat) (h : H) (K : KP) : Prop :=
  K .ret [(2, (.int .i64 0))] ds h
theorem F28.g20 {n0 : Nat} {ds : List Nat} {h : H} {K : KP} : wA Tryd.prog n0 90 none F28.c20 [] ds h K = F28.t20 n0  ds h K := by kernel_rfl
theorem F28.s20 {n0 : Nat} : F28.p20 n0 = wA Tryd.prog n0 90 none F28.c20 := by kernel_rfl
theorem F28.e20 {n0 : Nat} {ds : List Nat} {h : H} {K : KP} : F28.p20 n0 [] ds h K = F28.t20 n0  ds h K :=
  wchain (F28.s20) (F28.g20)
theorem F28.b : Tryd.f28.body = some F28.c0.erase := by kernel_rfl
theorem F28.b2 : (Tryd.f28.name == "runtime.NumGoroutine") = false := by kernel_rfl
theorem F28.b3 : Tryd.f28.ntmps = 90 := by kernel_rfl
theorem F28.b4 : Tryd.f28.results.toList = [.tmp 2] := by kernel_rfl
theorem F28.enter {n0 : Nat} {x0 : Value} {h : H} {Q : Value → H → Prop} (w : F28.p0 n0 [(0, x0)] [] h (KFin Tryd.prog [.tmp 2] Q)) : Cn Tryd.prog n0 (.func 28) [x0] h Q :=
  @fn_enter Tryd.prog n0 mixed 28 Tryd.f28 F28.c0 [x0] h Q Tryd.func28 F28.b F28.k0 F28.b2 90 F28.b3 [.tmp 2] F28.b4 (by simp) [(0, x0)] rfl (wback F28.d0 w)

/-! strings.HasPrefix -/
noncomputable def F41.ac : AC := (ann (bodyOf Tryd.f41) [[0, 1], [4]]).1
noncomputable def F41.c0 : AC := F41.ac
noncomputable def F41.p0 (n0 : Nat) : WP := wA Tryd.prog n0 8 none F41.c0
noncomputable def F41.t0 (n0 : Nat) (s0 prefix1 : Value) (ds : List Nat) (h : H) (K : KP) : Prop :=
  Cn Tryd.prog n0 (.func 50) [s0, prefix1] h fun t7 h1 =>
  K .ret [(4, t7)] ds h1
theorem F41.g0 {n0 : Nat} (s0 prefix1 : Value) {ds : List Nat} {h : H} {K : KP} : wA Tryd.prog n0 8 none F41.c0 [(0, s0), (1, prefix1)] ds h K = F41.t0 n0 s0 prefix1 ds h K := by kernel_rfl
theorem F41.s0 {n0 : Nat} : F41.p0 n0 = wA Tryd.prog n0 8 none F41.c0 := by kernel_rfl
theorem F41.e0 {n0 : Nat} {s0 prefix1 : Value} {ds : List Nat} {h : H} {K : KP} : F41.p0 n0 [(0, s0), (1, prefix1)] ds h K = F41.t0 n0 s0 prefix1 ds h K :=
  wchain (F41.s0) (F41.g0 s0 prefix1)
theorem F41.k0 : F41.c0.ok = true := by kernel_rfl
theorem F41.d0 {n0 : Nat} : F41.p0 n0 = wA Tryd.prog n0 8 none F41.c0 := by kernel_rfl
theorem F41.m0 (n0 : Nat) : MonoW (F41.p0 n0) := @mono_c Tryd.prog n0 8 none F41.c0 (F41.p0 n0) (F41.d0) F41.k0
theorem F41.b : Tryd.f41.body = some F41.c0.erase := by kernel_rfl
theorem F41.b2 : (Tryd.f41.name == "runtime.NumGoroutine") = false := by kernel_rfl
theorem F41.b3 : Tryd.f41.ntmps = 8 := by kernel_rfl
theorem F41.b4 : Tryd.f41.results.toList = [.tmp 4] := by kernel_rfl
theorem F41.enter {n0 : Nat} {x0 x1 : Value} {h : H} {Q : Value → H → Prop} (w : F41.p0 n0 [(0, x0), (1, x1)] [] h (KFin Tryd.prog [.tmp 4] Q)) : Cn Tryd.prog n0 (.func 41) [x0, x1] h Q :=
  @fn_enter Tryd.prog n0 mixed 41 Tryd.f41 F41.c0 [x0, x1] h Q Tryd.func41 F41.b F41.k0 F41.b2 8 F41.b3 [.tmp 4] F41.b4 (by simp) [(0, x0), (1, x1)] rfl (wback F41.d0 w)

/-! roster.rosterref01.within -/
noncomputable def F42.ac : AC := (ann (bodyOf Tryd.f42) [[0, 1, 2], [6]]).1
noncomputable def F42.c0 : AC := F42.ac
noncomputable def F42.p0 (n0 : Nat) : WP := wA Tryd.prog n0 15 none F42.c0
noncomputable def F42.t0 (n0 : Nat) (c0 a1 b2 : Value) (ds : List Nat) (h : H) (K : KP) : Prop :=
  Bnd (aBin Tryd.prog false .geq 5 c0 a1) fun t9 =>
  Gd t9
   (Bnd (aBin Tryd.prog false .leq 5 c0 b2) fun t13 =>
  K .ret [(6, t13)] ds h)
   (K .ret [(6, (.bool false))] ds h)
theorem F42.g0 {n0 : Nat} (c0 a1 b2 : Value) {ds : List Nat} {h : H} {K : KP} : wA Tryd.prog n0 15 none F42.c0 [(0, c0), (1, a1), (2, b2)] ds h K = F42.t0 n0 c0 a1 b2 ds h K := by kernel_rfl
theorem F42.s0 {n0 : Nat} : F42.p0 n0 = wA Tryd.prog n0 15 none F42.c0 := by kernel_rfl
theorem F42.e0 {n0 : Nat} {c0 a1 b2 : Value} {ds : List Nat} {h : H} {K : KP} : F42.p0 n0 [(0, c0), (1, a1), (2, b2)] ds h K = F42.t0 n0 c0 a1 b2 ds h K :=
  wchain (F42.s0) (F42.g0 c0 a1 b2)
theorem F42.k0 : F42.c0.ok = true := by kernel_rfl
theorem F42.d0 {n0 : Nat} : F42.p0 n0 = wA Tryd.prog n0 15 none F42.c0 := by kernel_rfl
theorem F42.m0 (n0 : Nat) : MonoW (F42.p0 n0) := @mono_c Tryd.prog n0 15 none F42.c0 (F42.p0 n0) (F42.d0) F42.k0
theorem F42.b : Tryd.f42.body = some F42.c0.erase := by kernel_rfl
theorem F42.b2 : (Tryd.f42.name == "runtime.NumGoroutine") = false := by kernel_rfl
theorem F42.b3 : Tryd.f42.ntmps = 15 := by kernel_rfl
theorem F42.b4 : Tryd.f42.results.toList = [.tmp 6] := by kernel_rfl
theorem F42.enter {n0 : Nat} {x0 x1 x2 : Value} {h : H} {Q : Value → H → Prop} (w : F42.p0 n0 [(0, x0), (1, x1), (2, x2)] [] h (KFin Tryd.prog [.tmp 6] Q)) : Cn Tryd.prog n0 (.func 42) [x0, x1, x2] h Q :=
  @fn_enter Tryd.prog n0 mixed 42 Tryd.f42 F42.c0 [x0, x1, x2] h Q Tryd.func42 F42.b F42.k0 F42.b2 15 F42.b3 [.tmp 6] F42.b4 (by simp) [(0, x0), (1, x1), (2, x2)] rfl (wback F42.d0 w)

/-! roster.rosterref01.tail -/
noncomputable def F43.ac : AC := (ann (bodyOf Tryd.f43) [[0, 1, 2], [], [0, 1, 2, 7], [], [0, 1, 2, 7], [0, 1, 2, 7], [0, 1, 2, 7, 10], [0, 1, 2, 7], [0, 1, 2, 7], [0, 1, 2, 7], [0, 1, 2, 7, 27], [0, 1, 2, 7], [6], [6]]).1
noncomputable def F43.c0 : AC := F43.ac
noncomputable def F43.c1 : AC := F43.ac.snd.fst.snd.fst.fst
noncomputable def F43.c2 : AC := F43.ac.snd.fst.snd.fst.fst.snd
noncomputable def F43.c3 : AC := F43.ac.snd.fst.snd.fst.fst.snd.fst.fst.snd.fst
noncomputable def F43.c4 : AC := F43.ac.snd.fst.snd.fst.fst.snd.snd
noncomputable def F43.c5 : AC := F43.ac.snd.snd
noncomputable def F43.p0 (n0 : Nat) : WP := wA Tryd.prog n0 28 none F43.c0
noncomputable def F43.p1 (n0 : Nat) : WP := wA Tryd.prog n0 28 none F43.c1
noncomputable def F43.p2 (n0 : Nat) : WP := wA Tryd.prog n0 28 none F43.c2
noncomputable def F43.p3 (n0 : Nat) : WP := wA Tryd.prog n0 28 none F43.c3
noncomputable def F43.p4 (n0 : Nat) : WP := wA Tryd.prog n0 28 none F43.c4
noncomputable def F43.p5 (n0 : Nat) : WP := wA Tryd.prog n0 28 none F43.c5
noncomputable def F43.t0 (n0 : Nat) (B1 : WP) (B5 : WP) (s0 at1 n2 : Value) (ds : List Nat) (h : H) (K : KP) : Prop :=
  Lp [0, 1, 2, 7] B1 [(0, s0), (1, at1), (2, n2), (7, (.int .i64 0))] ds h (KBlk [] 0 (KSeq [] B5 K))
theorem F43.g0 {n0 : Nat} (B1 : WP) (B5 : WP) (s0 at1 n2 : Value) {ds : List Nat} {h : H} {K : KP} : wA Tryd.prog n0 28 none (.seq [0, 1, 2] F43.c0.fst (.seq [] (.seq [0, 1, 2, 7] F43.c0.snd.fst.fst (.block [] 0 (.loop [0, 1, 2, 7] (.sub B1)))) (.sub B5))) [(0, s0), (1, at1), (2, n2)] ds h K = F43.t0 n0 B1 B5 s0 at1 n2 ds h K := by kernel_rfl
theorem F43.s0 {n0 : Nat} : F43.p0 n0 = wA Tryd.prog n0 28 none (.seq [0, 1, 2] F43.c0.fst (.seq [] (.seq [0, 1, 2, 7] F43.c0.snd.fst.fst (.block [] 0 (.loop [0, 1, 2, 7] (.sub (F43.p1 n0))))) (.sub (F43.p5 n0)))) := by kernel_rfl
theorem F43.e0 {n0 : Nat} {s0 at1 n2 : Value} {ds : List Nat} {h : H} {K : KP} : F43.p0 n0 [(0, s0), (1, at1), (2, n2)] ds h K = F43.t0 n0 (F43.p1 n0) (F43.p5 n0) s0 at1 n2 ds h K :=
  wchain (F43.s0) (F43.g0 (F43.p1 n0) (F43.p5 n0) s0 at1 n2)
theorem F43.k0 : F43.c0.ok = true := by kernel_rfl
theorem F43.d0 {n0 : Nat} : F43.p0 n0 = wA Tryd.prog n0 28 none F43.c0 := by kernel_rfl
theorem F43.m0 (n0 : Nat) : MonoW (F43.p0 n0) := @mono_c Tryd.prog n0 28 none F43.c0 (F43.p0 n0) (F43.d0) F43.k0
noncomputable def F43.t1 (n0 : Nat) (B2 : WP) (s0 at1 n2 i7 : Value) (ds : List Nat) (h : H) (K : KP) : Prop :=
  Bnd (aBin Tryd.prog false .lss 3 i7 n2) fun t10 =>
  Cnd t10
   (B2 [(0, s0), (1, at1), (2, n2), (7, i7)] ds h K)
   (K (.exit 0) [(0, s0), (1, at1), (2, n2), (7, i7)] ds h)
theorem F43.g1 {n0 : Nat} (B2 : WP) (s0 at1 n2 i7 : Value) {ds : List Nat} {h : H} {K : KP} : wA Tryd.prog n0 28 none (.seq [0, 1, 2, 7] F43.c1.fst (.sub B2)) [(0, s0), (1, at1), (2, n2), (7, i7)] ds h K = F43.t1 n0 B2 s0 at1 n2 i7 ds h K := by kernel_rfl
theorem F43.s1 {n0 : Nat} : F43.p1 n0 = wA Tryd.prog n0 28 none (.seq [0, 1, 2, 7] F43.c1.fst (.sub (F43.p2 n0))) := by kernel_rfl
theorem F43.e1 {n0 : Nat} {s0 at1 n2 i7 : Value} {ds : List Nat} {h : H} {K : KP} : F43.p1 n0 [(0, s0), (1, at1), (2, n2), (7, i7)] ds h K = F43.t1 n0 (F43.p2 n0) s0 at1 n2 i7 ds h K :=
  wchain (F43.s1) (F43.g1 (F43.p2 n0) s0 at1 n2 i7)
theorem F43.k1 : F43.c1.ok = true := by kernel_rfl
theorem F43.d1 {n0 : Nat} : F43.p1 n0 = wA Tryd.prog n0 28 none F43.c1 := by kernel_rfl
theorem F43.m1 (n0 : Nat) : MonoW (F43.p1 n0) := @mono_c Tryd.prog n0 28 none F43.c1 (F43.p1 n0) (F43.d1) F43.k1
noncomputable def F43.t2 (n0 : Nat) (B3 : WP) (B4 : WP) (s0 at1 n2 i7 : Value) (ds : List Nat) (h : H) (K : KP) : Prop :=
  Bnd (aBin Tryd.prog false .add 3 at1 i7) fun t15 =>
  Bnd2 (aBuiltin Tryd.prog .len #[9] [s0] h) fun t17 h1 =>
  Bnd (aBin Tryd.prog false .geq 3 t15 t17) fun t18 =>
  Gd t18
   (B3 [(0, s0), (1, at1), (2, n2), (7, i7)] ds h1 (KBlk [0, 1, 2, 7] 1 (KSeq [0, 1, 2, 7] B4 K)))
   (Bnd (aBin Tryd.prog false .add 3 at1 i7) fun t23 =>
  Bnd (aIndex Tryd.prog 9 s0 t23) fun t24 =>
  Cn Tryd.prog n0 (.func 42) [t24, (.int .u8 128), (.int .u8 191)] h1 fun t25 h2 =>
  Bnd (aUn .not t25) fun t26 =>
  Cnd t26
   (B3 [(0, s0), (1, at1), (2, n2), (7, i7)] ds h2 (KBlk [0, 1, 2, 7] 1 (KSeq [0, 1, 2, 7] B4 K)))
   (B4 [(0, s0), (1, at1), (2, n2), (7, i7)] ds h2 K))
theorem F43.g2 {n0 : Nat} (B3 : WP) (B4 : WP) (s0 at1 n2 i7 : Value) {ds : List Nat} {h : H} {K : KP} : wA Tryd.prog n0 28 none (.seq [0, 1, 2, 7] (.block [0, 1, 2, 7] 1 (.seq [0, 1, 2, 7, 27] F43.c2.fst.fst.fst (.cond [0, 1, 2, 7] (.tmp 27) (.sub B3) F43.c2.fst.fst.snd.snd))) (.sub B4)) [(0, s0), (1, at1), (2, n2), (7, i7)] ds h K = F43.t2 n0 B3 B4 s0 at1 n2 i7 ds h K := by kernel_rfl
theorem F43.s2 {n0 : Nat} : F43.p2 n0 = wA Tryd.prog n0 28 none (.seq [0, 1, 2, 7] (.block [0, 1, 2, 7] 1 (.seq [0, 1, 2, 7, 27] F43.c2.fst.fst.fst (.cond [0, 1, 2, 7] (.tmp 27) (.sub (F43.p3 n0)) F43.c2.fst.fst.snd.snd))) (.sub (F43.p4 n0))) := by kernel_rfl
theorem F43.e2 {n0 : Nat} {s0 at1 n2 i7 : Value} {ds : List Nat} {h : H} {K : KP} : F43.p2 n0 [(0, s0), (1, at1), (2, n2), (7, i7)] ds h K = F43.t2 n0 (F43.p3 n0) (F43.p4 n0) s0 at1 n2 i7 ds h K :=
  wchain (F43.s2) (F43.g2 (F43.p3 n0) (F43.p4 n0) s0 at1 n2 i7)
noncomputable def F43.t3 (n0 : Nat) (s0 at1 n2 i7 : Value) (ds : List Nat) (h : H) (K : KP) : Prop :=
  K .ret [(6, (.bool false))] ds h
theorem F43.g3 {n0 : Nat} (s0 at1 n2 i7 : Value) {ds : List Nat} {h : H} {K : KP} : wA Tryd.prog n0 28 none F43.c3 [(0, s0), (1, at1), (2, n2), (7, i7)] ds h K = F43.t3 n0 s0 at1 n2 i7 ds h K := by kernel_rfl
theorem F43.s3 {n0 : Nat} : F43.p3 n0 = wA Tryd.prog n0 28 none F43.c3 := by kernel_rfl
theorem F43.e3 {n0 : Nat} {s0 at1 n2 i7 : Value} {ds : List Nat} {h : H} {K : KP} : F43.p3 n0 [(0, s0), (1, at1), (2, n2), (7, i7)] ds h K = F43.t3 n0 s0 at1 n2 i7 ds h K :=
  wchain (F43.s3) (F43.g3 s0 at1 n2 i7)
noncomputable def F43.t4 (n0 : Nat) (s0 at1 n2 i7 : Value) (ds : List Nat) (h : H) (K : KP) : Prop :=
  Bnd (aBin Tryd.prog true .add 3 i7 (.int .i64 1)) fun t12 =>
  K .normal [(0, s0), (1, at1), (2, n2), (7, t12), (11, i7), (12, t12)] ds h
theorem F43.g4 {n0 : Nat} (s0 at1 n2 i7 : Value) {ds : List Nat} {h : H} {K : KP} : wA Tryd.prog n0 28 none F43.c4 [(0, s0), (1, at1), (2, n2), (7, i7)] ds h K = F43.t4 n0 s0 at1 n2 i7 ds h K := by kernel_rfl
theorem F43.s4 {n0 : Nat} : F43.p4 n0 = wA Tryd.prog n0 28 none F43.c4 := by kernel_rfl
theorem F43.e4 {n0 : Nat} {s0 at1 n2 i7 : Value} {ds : List Nat} {h : H} {K : KP} : F43.p4 n0 [(0, s0), (1, at1), (2, n2), (7, i7)] ds h K = F43.t4 n0 s0 at1 n2 i7 ds h K :=
  wchain (F43.s4) (F43.g4 s0 at1 n2 i7)
noncomputable def F43.t5 (n0 : Nat) (ds : List Nat) (h : H) (K : KP) : Prop :=
  K .ret [(6, (.bool true))] ds h
theorem F43.g5 {n0 : Nat} {ds : List Nat} {h : H} {K : KP} : wA Tryd.prog n0 28 none F43.c5 [] ds h K = F43.t5 n0  ds h K := by kernel_rfl
theorem F43.s5 {n0 : Nat} : F43.p5 n0 = wA Tryd.prog n0 28 none F43.c5 := by kernel_rfl
theorem F43.e5 {n0 : Nat} {ds : List Nat} {h : H} {K : KP} : F43.p5 n0 [] ds h K = F43.t5 n0  ds h K :=
  wchain (F43.s5) (F43.g5)
theorem F43.b : Tryd.f43.body = some F43.c0.erase := by kernel_rfl
theorem F43.b2 : (Tryd.f43.name == "runtime.NumGoroutine") = false := by kernel_rfl
theorem F43.b3 : Tryd.f43.ntmps = 28 := by kernel_rfl
theorem F43.b4 : Tryd.f43.results.toList = [.tmp 6] := by kernel_rfl
theorem F43.enter {n0 : Nat} {x0 x1 x2 : Value} {h : H} {Q : Value → H → Prop} (w : F43.p0 n0 [(0, x0), (1, x1), (2, x2)] [] h (KFin Tryd.prog [.tmp 6] Q)) : Cn Tryd.prog n0 (.func 43) [x0, x1, x2] h Q :=
  @fn_enter Tryd.prog n0 mixed 43 Tryd.f43 F43.c0 [x0, x1, x2] h Q Tryd.func43 F43.b F43.k0 F43.b2 28 F43.b3 [.tmp 6] F43.b4 (by simp) [(0, x0), (1, x1), (2, x2)] rfl (wback F43.d0 w)

/-! internal.stringslite.HasPrefix -/
noncomputable def F50.ac : AC := (ann (bodyOf Tryd.f50) [[0, 1], [4]]).1
noncomputable def F50.c0 : AC := F50.ac
noncomputable def F50.p0 (n0 : Nat) : WP := wA Tryd.prog n0 18 none F50.c0
noncomputable def F50.t0 (n0 : Nat) (s0 prefix1 : Value) (ds : List Nat) (h : H) (K : KP) : Prop :=
  Bnd2 (aBuiltin Tryd.prog .len #[9] [s0] h) fun t6 h1 =>
  Bnd2 (aBuiltin Tryd.prog .len #[9] [prefix1] h1) fun t8 h2 =>
  Bnd (aBin Tryd.prog false .geq 3 t6 t8) fun t9 =>
  Gd t9
   (Bnd2 (aBuiltin Tryd.prog .len #[9] [prefix1] h2) fun t13 h3 =>
  Bnd (aSlice Tryd.prog 9 s0 none (some t13) none h3) fun t14 =>
  Bnd (aBin Tryd.prog false .eql 9 t14 prefix1) fun t16 =>
  K .ret [(4, t16)] ds h3)
   (K .ret [(4, (.bool false))] ds h2)
theorem F50.g0 {n0 : Nat} (s0 prefix1 : Value) {ds : List Nat} {h : H} {K : KP} : wA Tryd.prog n0 18 none F50.c0 [(0, s0), (1, prefix1)] ds h K = F50.t0 n0 s0 prefix1 ds h K := by kernel_rfl
theorem F50.s0 {n0 : Nat} : F50.p0 n0 = wA Tryd.prog n0 18 none F50.c0 := by kernel_rfl
theorem F50.e0 {n0 : Nat} {s0 prefix1 : Value} {ds : List Nat} {h : H} {K : KP} : F50.p0 n0 [(0, s0), (1, prefix1)] ds h K = F50.t0 n0 s0 prefix1 ds h K :=
  wchain (F50.s0) (F50.g0 s0 prefix1)
theorem F50.k0 : F50.c0.ok = true := by kernel_rfl
theorem F50.d0 {n0 : Nat} : F50.p0 n0 = wA Tryd.prog n0 18 none F50.c0 := by kernel_rfl
theorem F50.m0 (n0 : Nat) : MonoW (F50.p0 n0) := @mono_c Tryd.prog n0 18 none F50.c0 (F50.p0 n0) (F50.d0) F50.k0
theorem F50.b : Tryd.f50.body = some F50.c0.erase := by kernel_rfl
theorem F50.b2 : (Tryd.f50.name == "runtime.NumGoroutine") = false := by kernel_rfl
theorem F50.b3 : Tryd.f50.ntmps = 18 := by kernel_rfl
theorem F50.b4 : Tryd.f50.results.toList = [.tmp 4] := by kernel_rfl
theorem F50.enter {n0 : Nat} {x0 x1 : Value} {h : H} {Q : Value → H → Prop} (w : F50.p0 n0 [(0, x0), (1, x1)] [] h (KFin Tryd.prog [.tmp 4] Q)) : Cn Tryd.prog n0 (.func 50) [x0, x1] h Q :=
  @fn_enter Tryd.prog n0 mixed 50 Tryd.f50 F50.c0 [x0, x1] h Q Tryd.func50 F50.b F50.k0 F50.b2 18 F50.b3 [.tmp 4] F50.b4 (by simp) [(0, x0), (1, x1)] rfl (wback F50.d0 w)

end Go.Proofs.YtcdnnpbpadhgeaaDoor
