/- The texts of Go functions of this seat, as the evaluator comes to them: each is what wA says of the code. No condition. -/
import Derived.Test.YtjdcdabbbmhffaaEvAc3
import Derived.Test.YtjdcdabbbmhffaaSeat
set_option linter.unusedVariables false
namespace Go.Proofs.Ytjdcdabbbmhffaa
open Go.Ev

/-! roster.rosterlaw04.IdlistAlgebra -/
noncomputable def F11.ac : AC := (ann (bodyOf Try.f11) [[0, 1, 2], [0, 1, 2, 7], [0, 1, 2, 7, 8], [0, 1, 2, 7, 8, 9], [0, 1, 2, 7, 8, 9, 10], [0, 1, 2, 7, 8, 9, 10, 11], [0, 1, 2, 7, 8, 9], [0, 1, 2, 7, 8, 9, 73], [0, 1, 2, 7, 8, 9], [6], [0, 1, 2, 8, 9], [0, 1, 2, 8, 9, 110], [0, 1, 2, 8, 9], [6], [0, 2], [0, 2, 123], [0, 2], [6], [0, 2, 12], [0, 2, 12, 13], [], [167], [], [6], [6]]).1
noncomputable def F11.c0 : AC := F11.ac
noncomputable def F11.c1 : AC := F11.ac.snd.snd.snd.snd.snd.snd.fst.snd.fst
noncomputable def F11.c2 : AC := F11.ac.snd.snd.snd.snd.snd.snd.snd
noncomputable def F11.c3 : AC := F11.ac.snd.snd.snd.snd.snd.snd.snd.fst.snd.fst
noncomputable def F11.c4 : AC := F11.ac.snd.snd.snd.snd.snd.snd.snd.snd
noncomputable def F11.c5 : AC := F11.ac.snd.snd.snd.snd.snd.snd.snd.snd.fst.snd.fst
noncomputable def F11.c6 : AC := F11.ac.snd.snd.snd.snd.snd.snd.snd.snd.snd
noncomputable def F11.c7 : AC := F11.ac.snd.snd.snd.snd.snd.snd.snd.snd.snd.snd.snd.fst.snd.fst
noncomputable def F11.c8 : AC := F11.ac.snd.snd.snd.snd.snd.snd.snd.snd.snd.snd.snd.snd
noncomputable def F11.p0 (n0 : Nat) : WP := wA Try.prog n0 169 none F11.c0
noncomputable def F11.p1 (n0 : Nat) : WP := wA Try.prog n0 169 none F11.c1
noncomputable def F11.p2 (n0 : Nat) : WP := wA Try.prog n0 169 none F11.c2
noncomputable def F11.p3 (n0 : Nat) : WP := wA Try.prog n0 169 none F11.c3
noncomputable def F11.p4 (n0 : Nat) : WP := wA Try.prog n0 169 none F11.c4
noncomputable def F11.p5 (n0 : Nat) : WP := wA Try.prog n0 169 none F11.c5
noncomputable def F11.p6 (n0 : Nat) : WP := wA Try.prog n0 169 none F11.c6
noncomputable def F11.p7 (n0 : Nat) : WP := wA Try.prog n0 169 none F11.c7
noncomputable def F11.p8 (n0 : Nat) : WP := wA Try.prog n0 169 none F11.c8
noncomputable def F11.t0 (n0 : Nat) (B1 : WP) (B2 : WP) (a0 b1 id2 : Value) (ds : List Nat) (h : H) (K : KP) : Prop :=
  Bnd2 (aBuildSlice Try.prog 42 2 [(0, a0), (1, b1)] h) fun t16 h1 =>
  Cn Try.prog n0 (.func 29) [t16] h1 fun t17 h2 =>
  Cn Try.prog n0 (.func 35) [a0, b1] h2 fun t20 h3 =>
  Cn Try.prog n0 (.func 36) [a0, b1] h3 fun t23 h4 =>
  Cn Try.prog n0 (.func 15) [a0, id2] h4 fun t26 h5 =>
  Cn Try.prog n0 (.func 15) [b1, id2] h5 fun t29 h6 =>
  Cn Try.prog n0 (.func 30) [t17] h6 fun t31 h7 =>
  Bnd (aUn .not t31) fun t32 =>
  Gd t32
   (B1 [(0, a0), (1, b1), (2, id2), (7, t17), (8, t20), (9, t23)] ds h7 (KSeq [0, 1, 2, 7, 8, 9] B2 K))
   (Cn Try.prog n0 (.func 30) [t20] h7 fun t35 h8 =>
  Bnd (aUn .not t35) fun t36 =>
  Gd t36
   (B1 [(0, a0), (1, b1), (2, id2), (7, t17), (8, t20), (9, t23)] ds h8 (KSeq [0, 1, 2, 7, 8, 9] B2 K))
   (Cn Try.prog n0 (.func 30) [t23] h8 fun t40 h9 =>
  Bnd (aUn .not t40) fun t41 =>
  Gd t41
   (B1 [(0, a0), (1, b1), (2, id2), (7, t17), (8, t20), (9, t23)] ds h9 (KSeq [0, 1, 2, 7, 8, 9] B2 K))
   (Cn Try.prog n0 (.func 15) [t17, id2] h9 fun t46 h10 =>
  Gd t26
   (Bnd (aBin Try.prog false .neq 4 t46 (.bool true)) fun t51 =>
  Gd t51
   (B1 [(0, a0), (1, b1), (2, id2), (7, t17), (8, t20), (9, t23)] ds h10 (KSeq [0, 1, 2, 7, 8, 9] B2 K))
   (Cn Try.prog n0 (.func 15) [t20, id2] h10 fun t56 h11 =>
  Gd t26
   (Bnd (aBin Try.prog false .neq 4 t56 t29) fun t61 =>
  Gd t61
   (B1 [(0, a0), (1, b1), (2, id2), (7, t17), (8, t20), (9, t23)] ds h11 (KSeq [0, 1, 2, 7, 8, 9] B2 K))
   (Cn Try.prog n0 (.func 15) [t23, id2] h11 fun t66 h12 =>
  Gd t26
   (Bnd (aUn .not t29) fun t70 =>
  Bnd (aBin Try.prog false .neq 4 t66 t70) fun t72 =>
  Cnd t72
   (B1 [(0, a0), (1, b1), (2, id2), (7, t17), (8, t20), (9, t23)] ds h12 (KSeq [0, 1, 2, 7, 8, 9] B2 K))
   (B2 [(0, a0), (1, b1), (2, id2), (7, t17), (8, t20), (9, t23)] ds h12 K))
   (Bnd (aBin Try.prog false .neq 4 t66 (.bool false)) fun t72 =>
  Cnd t72
   (B1 [(0, a0), (1, b1), (2, id2), (7, t17), (8, t20), (9, t23)] ds h12 (KSeq [0, 1, 2, 7, 8, 9] B2 K))
   (B2 [(0, a0), (1, b1), (2, id2), (7, t17), (8, t20), (9, t23)] ds h12 K))))
   (Bnd (aBin Try.prog false .neq 4 t56 (.bool false)) fun t61 =>
  Gd t61
   (B1 [(0, a0), (1, b1), (2, id2), (7, t17), (8, t20), (9, t23)] ds h11 (KSeq [0, 1, 2, 7, 8, 9] B2 K))
   (Cn Try.prog n0 (.func 15) [t23, id2] h11 fun t66 h12 =>
  Gd t26
   (Bnd (aUn .not t29) fun t70 =>
  Bnd (aBin Try.prog false .neq 4 t66 t70) fun t72 =>
  Cnd t72
   (B1 [(0, a0), (1, b1), (2, id2), (7, t17), (8, t20), (9, t23)] ds h12 (KSeq [0, 1, 2, 7, 8, 9] B2 K))
   (B2 [(0, a0), (1, b1), (2, id2), (7, t17), (8, t20), (9, t23)] ds h12 K))
   (Bnd (aBin Try.prog false .neq 4 t66 (.bool false)) fun t72 =>
  Cnd t72
   (B1 [(0, a0), (1, b1), (2, id2), (7, t17), (8, t20), (9, t23)] ds h12 (KSeq [0, 1, 2, 7, 8, 9] B2 K))
   (B2 [(0, a0), (1, b1), (2, id2), (7, t17), (8, t20), (9, t23)] ds h12 K))))))
   (Bnd (aBin Try.prog false .neq 4 t46 t29) fun t51 =>
  Gd t51
   (B1 [(0, a0), (1, b1), (2, id2), (7, t17), (8, t20), (9, t23)] ds h10 (KSeq [0, 1, 2, 7, 8, 9] B2 K))
   (Cn Try.prog n0 (.func 15) [t20, id2] h10 fun t56 h11 =>
  Gd t26
   (Bnd (aBin Try.prog false .neq 4 t56 t29) fun t61 =>
  Gd t61
   (B1 [(0, a0), (1, b1), (2, id2), (7, t17), (8, t20), (9, t23)] ds h11 (KSeq [0, 1, 2, 7, 8, 9] B2 K))
   (Cn Try.prog n0 (.func 15) [t23, id2] h11 fun t66 h12 =>
  Gd t26
   (Bnd (aUn .not t29) fun t70 =>
  Bnd (aBin Try.prog false .neq 4 t66 t70) fun t72 =>
  Cnd t72
   (B1 [(0, a0), (1, b1), (2, id2), (7, t17), (8, t20), (9, t23)] ds h12 (KSeq [0, 1, 2, 7, 8, 9] B2 K))
   (B2 [(0, a0), (1, b1), (2, id2), (7, t17), (8, t20), (9, t23)] ds h12 K))
   (Bnd (aBin Try.prog false .neq 4 t66 (.bool false)) fun t72 =>
  Cnd t72
   (B1 [(0, a0), (1, b1), (2, id2), (7, t17), (8, t20), (9, t23)] ds h12 (KSeq [0, 1, 2, 7, 8, 9] B2 K))
   (B2 [(0, a0), (1, b1), (2, id2), (7, t17), (8, t20), (9, t23)] ds h12 K))))
   (Bnd (aBin Try.prog false .neq 4 t56 (.bool false)) fun t61 =>
  Gd t61
   (B1 [(0, a0), (1, b1), (2, id2), (7, t17), (8, t20), (9, t23)] ds h11 (KSeq [0, 1, 2, 7, 8, 9] B2 K))
   (Cn Try.prog n0 (.func 15) [t23, id2] h11 fun t66 h12 =>
  Gd t26
   (Bnd (aUn .not t29) fun t70 =>
  Bnd (aBin Try.prog false .neq 4 t66 t70) fun t72 =>
  Cnd t72
   (B1 [(0, a0), (1, b1), (2, id2), (7, t17), (8, t20), (9, t23)] ds h12 (KSeq [0, 1, 2, 7, 8, 9] B2 K))
   (B2 [(0, a0), (1, b1), (2, id2), (7, t17), (8, t20), (9, t23)] ds h12 K))
   (Bnd (aBin Try.prog false .neq 4 t66 (.bool false)) fun t72 =>
  Cnd t72
   (B1 [(0, a0), (1, b1), (2, id2), (7, t17), (8, t20), (9, t23)] ds h12 (KSeq [0, 1, 2, 7, 8, 9] B2 K))
   (B2 [(0, a0), (1, b1), (2, id2), (7, t17), (8, t20), (9, t23)] ds h12 K)))))))))
theorem F11.g0 {n0 : Nat} (B1 : WP) (B2 : WP) (a0 b1 id2 : Value) {ds : List Nat} {h : H} {K : KP} : wA Try.prog n0 169 none (.seq [0, 1, 2] F11.c0.fst (.seq [0, 1, 2, 7] F11.c0.snd.fst (.seq [0, 1, 2, 7, 8] F11.c0.snd.snd.fst (.seq [0, 1, 2, 7, 8, 9] F11.c0.snd.snd.snd.fst (.seq [0, 1, 2, 7, 8, 9, 10] F11.c0.snd.snd.snd.snd.fst (.seq [0, 1, 2, 7, 8, 9, 10, 11] F11.c0.snd.snd.snd.snd.snd.fst (.seq [0, 1, 2, 7, 8, 9] (.seq [0, 1, 2, 7, 8, 9, 73] F11.c0.snd.snd.snd.snd.snd.snd.fst.fst (.cond [0, 1, 2, 7, 8, 9] (.tmp 73) (.sub B1) F11.c0.snd.snd.snd.snd.snd.snd.fst.snd.snd)) (.sub B2)))))))) [(0, a0), (1, b1), (2, id2)] ds h K = F11.t0 n0 B1 B2 a0 b1 id2 ds h K := by kernel_rfl
theorem F11.s0 {n0 : Nat} : F11.p0 n0 = wA Try.prog n0 169 none (.seq [0, 1, 2] F11.c0.fst (.seq [0, 1, 2, 7] F11.c0.snd.fst (.seq [0, 1, 2, 7, 8] F11.c0.snd.snd.fst (.seq [0, 1, 2, 7, 8, 9] F11.c0.snd.snd.snd.fst (.seq [0, 1, 2, 7, 8, 9, 10] F11.c0.snd.snd.snd.snd.fst (.seq [0, 1, 2, 7, 8, 9, 10, 11] F11.c0.snd.snd.snd.snd.snd.fst (.seq [0, 1, 2, 7, 8, 9] (.seq [0, 1, 2, 7, 8, 9, 73] F11.c0.snd.snd.snd.snd.snd.snd.fst.fst (.cond [0, 1, 2, 7, 8, 9] (.tmp 73) (.sub (F11.p1 n0)) F11.c0.snd.snd.snd.snd.snd.snd.fst.snd.snd)) (.sub (F11.p2 n0))))))))) := by kernel_rfl
theorem F11.e0 {n0 : Nat} {a0 b1 id2 : Value} {ds : List Nat} {h : H} {K : KP} : F11.p0 n0 [(0, a0), (1, b1), (2, id2)] ds h K = F11.t0 n0 (F11.p1 n0) (F11.p2 n0) a0 b1 id2 ds h K :=
  wchain (F11.s0) (F11.g0 (F11.p1 n0) (F11.p2 n0) a0 b1 id2)
theorem F11.k0 : F11.c0.ok = true := by kernel_rfl
theorem F11.d0 {n0 : Nat} : F11.p0 n0 = wA Try.prog n0 169 none F11.c0 := by kernel_rfl
theorem F11.m0 (n0 : Nat) : MonoW (F11.p0 n0) := @mono_c Try.prog n0 169 none F11.c0 (F11.p0 n0) (F11.d0) F11.k0
noncomputable def F11.t1 (n0 : Nat) (a0 b1 id2 u7 m8 l9 : Value) (ds : List Nat) (h : H) (K : KP) : Prop :=
  K .ret [(6, (.bool false))] ds h
theorem F11.g1 {n0 : Nat} (a0 b1 id2 u7 m8 l9 : Value) {ds : List Nat} {h : H} {K : KP} : wA Try.prog n0 169 none F11.c1 [(0, a0), (1, b1), (2, id2), (7, u7), (8, m8), (9, l9)] ds h K = F11.t1 n0 a0 b1 id2 u7 m8 l9 ds h K := by kernel_rfl
theorem F11.s1 {n0 : Nat} : F11.p1 n0 = wA Try.prog n0 169 none F11.c1 := by kernel_rfl
theorem F11.e1 {n0 : Nat} {a0 b1 id2 u7 m8 l9 : Value} {ds : List Nat} {h : H} {K : KP} : F11.p1 n0 [(0, a0), (1, b1), (2, id2), (7, u7), (8, m8), (9, l9)] ds h K = F11.t1 n0 a0 b1 id2 u7 m8 l9 ds h K :=
  wchain (F11.s1) (F11.g1 a0 b1 id2 u7 m8 l9)
noncomputable def F11.t2 (n0 : Nat) (B3 : WP) (B4 : WP) (a0 b1 id2 u7 m8 l9 : Value) (ds : List Nat) (h : H) (K : KP) : Prop :=
  Bnd2 (aBuildSlice Try.prog 42 2 [(0, b1), (1, a0)] h) fun t77 h1 =>
  Cn Try.prog n0 (.func 29) [t77] h1 fun t78 h2 =>
  Cn Try.prog n0 (.func 28) [u7, t78] h2 fun t79 h3 =>
  Bnd (aUn .not t79) fun t80 =>
  Gd t80
   (B3 [(0, a0), (1, b1), (2, id2), (8, m8), (9, l9)] ds h3 (KSeq [0, 1, 2, 8, 9] B4 K))
   (Bnd2 (aBuildSlice Try.prog 42 5 [(0, b1), (1, a0), (2, b1), (3, (.slice none 0 0)), (4, a0)] h3) fun t87 h4 =>
  Cn Try.prog n0 (.func 29) [t87] h4 fun t88 h5 =>
  Cn Try.prog n0 (.func 28) [u7, t88] h5 fun t89 h6 =>
  Bnd (aUn .not t89) fun t90 =>
  Gd t90
   (B3 [(0, a0), (1, b1), (2, id2), (8, m8), (9, l9)] ds h6 (KSeq [0, 1, 2, 8, 9] B4 K))
   (Cn Try.prog n0 (.func 35) [b1, a0] h6 fun t96 h7 =>
  Cn Try.prog n0 (.func 28) [m8, t96] h7 fun t97 h8 =>
  Bnd (aUn .not t97) fun t98 =>
  Gd t98
   (B3 [(0, a0), (1, b1), (2, id2), (8, m8), (9, l9)] ds h8 (KSeq [0, 1, 2, 8, 9] B4 K))
   (Bnd2 (aBuildSlice Try.prog 42 2 [(0, m8), (1, l9)] h8) fun t103 h9 =>
  Cn Try.prog n0 (.func 29) [t103] h9 fun t104 h10 =>
  Bnd2 (aBuildSlice Try.prog 42 1 [(0, a0)] h10) fun t106 h11 =>
  Cn Try.prog n0 (.func 29) [t106] h11 fun t107 h12 =>
  Cn Try.prog n0 (.func 28) [t104, t107] h12 fun t108 h13 =>
  Bnd (aUn .not t108) fun t109 =>
  Cnd t109
   (B3 [(0, a0), (1, b1), (2, id2), (8, m8), (9, l9)] ds h13 (KSeq [0, 1, 2, 8, 9] B4 K))
   (B4 [(0, a0), (1, b1), (2, id2), (8, m8), (9, l9)] ds h13 K))))
theorem F11.g2 {n0 : Nat} (B3 : WP) (B4 : WP) (a0 b1 id2 u7 m8 l9 : Value) {ds : List Nat} {h : H} {K : KP} : wA Try.prog n0 169 none (.seq [0, 1, 2, 8, 9] (.seq [0, 1, 2, 8, 9, 110] F11.c2.fst.fst (.cond [0, 1, 2, 8, 9] (.tmp 110) (.sub B3) F11.c2.fst.snd.snd)) (.sub B4)) [(0, a0), (1, b1), (2, id2), (7, u7), (8, m8), (9, l9)] ds h K = F11.t2 n0 B3 B4 a0 b1 id2 u7 m8 l9 ds h K := by kernel_rfl
theorem F11.s2 {n0 : Nat} : F11.p2 n0 = wA Try.prog n0 169 none (.seq [0, 1, 2, 8, 9] (.seq [0, 1, 2, 8, 9, 110] F11.c2.fst.fst (.cond [0, 1, 2, 8, 9] (.tmp 110) (.sub (F11.p3 n0)) F11.c2.fst.snd.snd)) (.sub (F11.p4 n0))) := by kernel_rfl
theorem F11.e2 {n0 : Nat} {a0 b1 id2 u7 m8 l9 : Value} {ds : List Nat} {h : H} {K : KP} : F11.p2 n0 [(0, a0), (1, b1), (2, id2), (7, u7), (8, m8), (9, l9)] ds h K = F11.t2 n0 (F11.p3 n0) (F11.p4 n0) a0 b1 id2 u7 m8 l9 ds h K :=
  wchain (F11.s2) (F11.g2 (F11.p3 n0) (F11.p4 n0) a0 b1 id2 u7 m8 l9)
noncomputable def F11.t3 (n0 : Nat) (a0 b1 id2 m8 l9 : Value) (ds : List Nat) (h : H) (K : KP) : Prop :=
  K .ret [(6, (.bool false))] ds h
theorem F11.g3 {n0 : Nat} (a0 b1 id2 m8 l9 : Value) {ds : List Nat} {h : H} {K : KP} : wA Try.prog n0 169 none F11.c3 [(0, a0), (1, b1), (2, id2), (8, m8), (9, l9)] ds h K = F11.t3 n0 a0 b1 id2 m8 l9 ds h K := by kernel_rfl
theorem F11.s3 {n0 : Nat} : F11.p3 n0 = wA Try.prog n0 169 none F11.c3 := by kernel_rfl
theorem F11.e3 {n0 : Nat} {a0 b1 id2 m8 l9 : Value} {ds : List Nat} {h : H} {K : KP} : F11.p3 n0 [(0, a0), (1, b1), (2, id2), (8, m8), (9, l9)] ds h K = F11.t3 n0 a0 b1 id2 m8 l9 ds h K :=
  wchain (F11.s3) (F11.g3 a0 b1 id2 m8 l9)
noncomputable def F11.t4 (n0 : Nat) (B5 : WP) (B6 : WP) (a0 b1 id2 m8 l9 : Value) (ds : List Nat) (h : H) (K : KP) : Prop :=
  Cn Try.prog n0 (.func 36) [a0, l9] h fun t113 h1 =>
  Cn Try.prog n0 (.func 28) [t113, m8] h1 fun t115 h2 =>
  Bnd (aUn .not t115) fun t116 =>
  Gd t116
   (B5 [(0, a0), (2, id2)] ds h2 (KSeq [0, 2] B6 K))
   (Cn Try.prog n0 (.func 35) [l9, b1] h2 fun t120 h3 =>
  Bnd2 (aBuiltin Try.prog .len #[22] [t120] h3) fun t121 h4 =>
  Bnd (aBin Try.prog true .neq 3 t121 (.int .i64 0)) fun t122 =>
  Cnd t122
   (B5 [(0, a0), (2, id2)] ds h4 (KSeq [0, 2] B6 K))
   (B6 [(0, a0), (2, id2)] ds h4 K))
theorem F11.g4 {n0 : Nat} (B5 : WP) (B6 : WP) (a0 b1 id2 m8 l9 : Value) {ds : List Nat} {h : H} {K : KP} : wA Try.prog n0 169 none (.seq [0, 2] (.seq [0, 2, 123] F11.c4.fst.fst (.cond [0, 2] (.tmp 123) (.sub B5) F11.c4.fst.snd.snd)) (.sub B6)) [(0, a0), (1, b1), (2, id2), (8, m8), (9, l9)] ds h K = F11.t4 n0 B5 B6 a0 b1 id2 m8 l9 ds h K := by kernel_rfl
theorem F11.s4 {n0 : Nat} : F11.p4 n0 = wA Try.prog n0 169 none (.seq [0, 2] (.seq [0, 2, 123] F11.c4.fst.fst (.cond [0, 2] (.tmp 123) (.sub (F11.p5 n0)) F11.c4.fst.snd.snd)) (.sub (F11.p6 n0))) := by kernel_rfl
theorem F11.e4 {n0 : Nat} {a0 b1 id2 m8 l9 : Value} {ds : List Nat} {h : H} {K : KP} : F11.p4 n0 [(0, a0), (1, b1), (2, id2), (8, m8), (9, l9)] ds h K = F11.t4 n0 (F11.p5 n0) (F11.p6 n0) a0 b1 id2 m8 l9 ds h K :=
  wchain (F11.s4) (F11.g4 (F11.p5 n0) (F11.p6 n0) a0 b1 id2 m8 l9)
noncomputable def F11.t5 (n0 : Nat) (a0 id2 : Value) (ds : List Nat) (h : H) (K : KP) : Prop :=
  K .ret [(6, (.bool false))] ds h
theorem F11.g5 {n0 : Nat} (a0 id2 : Value) {ds : List Nat} {h : H} {K : KP} : wA Try.prog n0 169 none F11.c5 [(0, a0), (2, id2)] ds h K = F11.t5 n0 a0 id2 ds h K := by kernel_rfl
theorem F11.s5 {n0 : Nat} : F11.p5 n0 = wA Try.prog n0 169 none F11.c5 := by kernel_rfl
theorem F11.e5 {n0 : Nat} {a0 id2 : Value} {ds : List Nat} {h : H} {K : KP} : F11.p5 n0 [(0, a0), (2, id2)] ds h K = F11.t5 n0 a0 id2 ds h K :=
  wchain (F11.s5) (F11.g5 a0 id2)
noncomputable def F11.t6 (n0 : Nat) (B7 : WP) (B8 : WP) (a0 id2 : Value) (ds : List Nat) (h : H) (K : KP) : Prop :=
  Cn Try.prog n0 (.func 38) [a0, id2] h fun t126 h1 =>
  Cn Try.prog n0 (.func 39) [a0, id2] h1 fun t129 h2 =>
  Cn Try.prog n0 (.func 30) [t126] h2 fun t131 h3 =>
  Bnd (aUn .not t131) fun t132 =>
  Gd t132
   (B7 [] ds h3 (KSeq [] B8 K))
   (Cn Try.prog n0 (.func 30) [t129] h3 fun t135 h4 =>
  Bnd (aUn .not t135) fun t136 =>
  Gd t136
   (B7 [] ds h4 (KSeq [] B8 K))
   (Cn Try.prog n0 (.func 15) [t126, id2] h4 fun t141 h5 =>
  Bnd (aUn .not t141) fun t142 =>
  Gd t142
   (B7 [] ds h5 (KSeq [] B8 K))
   (Cn Try.prog n0 (.func 15) [t129, id2] h5 fun t147 h6 =>
  Gd t147
   (B7 [] ds h6 (KSeq [] B8 K))
   (Bnd2 (aBuildSlice Try.prog 22 1 [(0, id2)] h6) fun t153 h7 =>
  Bnd2 (aBuildSlice Try.prog 42 2 [(0, a0), (1, t153)] h7) fun t154 h8 =>
  Cn Try.prog n0 (.func 29) [t154] h8 fun t155 h9 =>
  Cn Try.prog n0 (.func 28) [t126, t155] h9 fun t156 h10 =>
  Bnd (aUn .not t156) fun t157 =>
  Gd t157
   (B7 [] ds h10 (KSeq [] B8 K))
   (Bnd2 (aBuildSlice Try.prog 22 1 [(0, id2)] h10) fun t163 h11 =>
  Cn Try.prog n0 (.func 36) [a0, t163] h11 fun t164 h12 =>
  Cn Try.prog n0 (.func 28) [t129, t164] h12 fun t165 h13 =>
  Bnd (aUn .not t165) fun t166 =>
  Cnd t166
   (B7 [] ds h13 (KSeq [] B8 K))
   (B8 [] ds h13 K))))))
theorem F11.g6 {n0 : Nat} (B7 : WP) (B8 : WP) (a0 id2 : Value) {ds : List Nat} {h : H} {K : KP} : wA Try.prog n0 169 none (.seq [0, 2, 12] F11.c6.fst (.seq [0, 2, 12, 13] F11.c6.snd.fst (.seq [] (.seq [167] F11.c6.snd.snd.fst.fst (.cond [] (.tmp 167) (.sub B7) F11.c6.snd.snd.fst.snd.snd)) (.sub B8)))) [(0, a0), (2, id2)] ds h K = F11.t6 n0 B7 B8 a0 id2 ds h K := by kernel_rfl
theorem F11.s6 {n0 : Nat} : F11.p6 n0 = wA Try.prog n0 169 none (.seq [0, 2, 12] F11.c6.fst (.seq [0, 2, 12, 13] F11.c6.snd.fst (.seq [] (.seq [167] F11.c6.snd.snd.fst.fst (.cond [] (.tmp 167) (.sub (F11.p7 n0)) F11.c6.snd.snd.fst.snd.snd)) (.sub (F11.p8 n0))))) := by kernel_rfl
theorem F11.e6 {n0 : Nat} {a0 id2 : Value} {ds : List Nat} {h : H} {K : KP} : F11.p6 n0 [(0, a0), (2, id2)] ds h K = F11.t6 n0 (F11.p7 n0) (F11.p8 n0) a0 id2 ds h K :=
  wchain (F11.s6) (F11.g6 (F11.p7 n0) (F11.p8 n0) a0 id2)
noncomputable def F11.t7 (n0 : Nat) (ds : List Nat) (h : H) (K : KP) : Prop :=
  K .ret [(6, (.bool false))] ds h
theorem F11.g7 {n0 : Nat} {ds : List Nat} {h : H} {K : KP} : wA Try.prog n0 169 none F11.c7 [] ds h K = F11.t7 n0  ds h K := by kernel_rfl
theorem F11.s7 {n0 : Nat} : F11.p7 n0 = wA Try.prog n0 169 none F11.c7 := by kernel_rfl
theorem F11.e7 {n0 : Nat} {ds : List Nat} {h : H} {K : KP} : F11.p7 n0 [] ds h K = F11.t7 n0  ds h K :=
  wchain (F11.s7) (F11.g7)
noncomputable def F11.t8 (n0 : Nat) (ds : List Nat) (h : H) (K : KP) : Prop :=
  Cn Try.prog n0 (.func 18) [] h fun t168 h1 =>
  K .ret [(6, t168)] ds h1
theorem F11.g8 {n0 : Nat} {ds : List Nat} {h : H} {K : KP} : wA Try.prog n0 169 none F11.c8 [] ds h K = F11.t8 n0  ds h K := by kernel_rfl
theorem F11.s8 {n0 : Nat} : F11.p8 n0 = wA Try.prog n0 169 none F11.c8 := by kernel_rfl
theorem F11.e8 {n0 : Nat} {ds : List Nat} {h : H} {K : KP} : F11.p8 n0 [] ds h K = F11.t8 n0  ds h K :=
  wchain (F11.s8) (F11.g8)
theorem F11.b : Try.f11.body = some F11.c0.erase := by kernel_rfl
theorem F11.b2 : (Try.f11.name == "runtime.NumGoroutine") = false := by kernel_rfl
theorem F11.b3 : Try.f11.ntmps = 169 := by kernel_rfl
theorem F11.b4 : Try.f11.results.toList = [.tmp 6] := by kernel_rfl
theorem F11.enter {n0 : Nat} {x0 x1 x2 : Value} {h : H} {Q : Value → H → Prop} (w : F11.p0 n0 [(0, x0), (1, x1), (2, x2)] [] h (KFin Try.prog [.tmp 6] Q)) : Cn Try.prog n0 (.func 11) [x0, x1, x2] h Q :=
  @fn_enter Try.prog n0 mixed 11 Try.f11 F11.c0 [x0, x1, x2] h Q Try.func11 F11.b F11.k0 F11.b2 169 F11.b3 [.tmp 6] F11.b4 (by simp) [(0, x0), (1, x1), (2, x2)] rfl (wback F11.d0 w)

end Go.Proofs.Ytjdcdabbbmhffaa
