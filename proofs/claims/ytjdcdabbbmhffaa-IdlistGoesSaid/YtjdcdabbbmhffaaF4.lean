/- The texts of Go functions of this seat, as the evaluator comes to them: each is what wA says of the code. No condition. -/
import Derived.Test.YtjdcdabbbmhffaaEvAc3
import Derived.Test.YtjdcdabbbmhffaaSeat
set_option linter.unusedVariables false
namespace Go.Proofs.Ytjdcdabbbmhffaa
open Go.Ev

/-! roster.rosterlaw04.IdlistGoes -/
noncomputable def F4.ac : AC := (ann (bodyOf Try.f4) [[0, 1, 2, 6], [0, 1, 2, 6, 7], [0, 1, 2, 6, 7, 8], [0, 1, 2, 6, 7, 8], [0, 1, 2, 6, 7, 8, 29], [0, 1, 2, 6, 7, 8], [6], [0, 1, 2, 6, 8], [0, 1, 2, 6, 7, 8, 9], [0, 1, 2, 6, 8], [0, 1, 2, 6, 7, 8, 9], [0, 1, 2, 6, 7, 8, 9], [0, 1, 2, 6, 7, 8, 9, 33], [0, 1, 2, 6, 7, 8, 9], [0, 1, 2, 6, 7, 8, 9], [0, 1, 2, 6, 7, 8, 9], [2, 6, 8, 10], [6, 8, 10, 11], [6, 8, 10, 11, 12], [6, 8, 10, 11, 12, 13], [6, 8, 10, 11], [6, 8, 10, 11, 66], [6, 8, 10, 11], [6], [6, 8, 10, 11, 14], [6, 10, 14], [6, 8, 10, 11, 14, 67], [6, 10, 14], [6, 8, 10, 11, 14, 67], [6]]).1
noncomputable def F4.rAs0 : Code := F4.ac.snd.snd.snd.snd.snd.snd.snd.snd.snd.snd.snd.fst.snd.fst.rfAs
noncomputable def F4.rBd0 : Code := F4.ac.snd.snd.snd.snd.snd.snd.snd.snd.snd.snd.snd.fst.snd.fst.rfBd
noncomputable def F4.aAs0 : AC := (ann F4.rAs0 []).1
noncomputable def F4.aBd0 : AC := (ann F4.rBd0 [[6, 8, 10, 11, 14], [6, 8, 10, 11, 14], [6, 8, 10, 11, 14, 80], [6, 8, 10, 11, 14], [6], [6, 8, 10, 11, 14], [6, 8, 10, 11, 14, 83], [6, 8, 10, 11, 14], [6, 8, 10, 11, 14, 16], [6, 8, 10, 11, 14, 92], [6, 8, 10, 11, 14], [6]]).1
noncomputable def F4.c0 : AC := F4.ac
noncomputable def F4.c1 : AC := F4.ac.snd.snd.snd.fst.snd.fst
noncomputable def F4.c2 : AC := F4.ac.snd.snd.snd.snd
noncomputable def F4.c3 : AC := F4.ac.snd.snd.snd.snd.fst.snd.fst.fst
noncomputable def F4.c4 : AC := F4.ac.snd.snd.snd.snd.fst.snd.fst.fst.snd
noncomputable def F4.c5 : AC := F4.ac.snd.snd.snd.snd.fst.snd.fst.fst.snd.snd
noncomputable def F4.c6 : AC := F4.ac.snd.snd.snd.snd.snd
noncomputable def F4.c7 : AC := F4.ac.snd.snd.snd.snd.snd.snd.snd.snd.snd.fst.snd.fst
noncomputable def F4.c8 : AC := F4.ac.snd.snd.snd.snd.snd.snd.snd.snd.snd.snd
noncomputable def F4.c9 : AC := F4.ac.snd.snd.snd.snd.snd.snd.snd.snd.snd.snd.snd.snd
noncomputable def F4.p0 (n0 : Nat) : WP := wA Try.prog n0 102 none F4.c0
noncomputable def F4.p1 (n0 : Nat) : WP := wA Try.prog n0 102 none F4.c1
noncomputable def F4.p2 (n0 : Nat) : WP := wA Try.prog n0 102 none F4.c2
noncomputable def F4.p3 (n0 : Nat) : WP := wA Try.prog n0 102 none F4.c3
noncomputable def F4.p4 (n0 : Nat) : WP := wA Try.prog n0 102 none F4.c4
noncomputable def F4.p5 (n0 : Nat) : WP := wA Try.prog n0 102 none F4.c5
noncomputable def F4.p6 (n0 : Nat) : WP := wA Try.prog n0 102 none F4.c6
noncomputable def F4.p7 (n0 : Nat) : WP := wA Try.prog n0 102 none F4.c7
noncomputable def F4.p8 (n0 : Nat) : WP := wA Try.prog n0 102 none F4.c8
noncomputable def F4.p9 (n0 : Nat) : WP := wA Try.prog n0 102 none F4.c9
noncomputable def F4.t0 (n0 : Nat) (B1 : WP) (B2 : WP) (l0 id1 most2 : Value) (ds : List Nat) (h : H) (K : KP) : Prop :=
  Nw (enc 0 4) (zc Try.prog 4) h fun t6 h1 =>
  Cn Try.prog n0 (.func 13) [l0] h1 fun t18 h2 =>
  Cn Try.prog n0 (.func 19) [t18, id1] h2 fun t21 h3 =>
  Nw (enc 0 31) (zc Try.prog 31) h3 fun each8 h4 =>
  Bnd (aStore Try.prog 31 each8 t21 h4) fun h5 =>
  Bnd (aLoad Try.prog 31 each8 h5) fun t22 =>
  Bnd (aBin Try.prog true .eql 31 t22 (.nilFunc)) fun t23 =>
  Gd t23
   (B1 [(0, l0), (1, id1), (2, most2), (6, t6), (7, t18), (8, each8)] ds h5 (KSeq [0, 1, 2, 6, 7, 8] B2 K))
   (Cn Try.prog n0 (.func 17) [t18, l0] h5 fun t27 h6 =>
  Bnd (aUn .not t27) fun t28 =>
  Cnd t28
   (B1 [(0, l0), (1, id1), (2, most2), (6, t6), (7, t18), (8, each8)] ds h6 (KSeq [0, 1, 2, 6, 7, 8] B2 K))
   (B2 [(0, l0), (1, id1), (2, most2), (6, t6), (7, t18), (8, each8)] ds h6 K))
theorem F4.g0 {n0 : Nat} (B1 : WP) (B2 : WP) (l0 id1 most2 : Value) {ds : List Nat} {h : H} {K : KP} : wA Try.prog n0 102 none (.seq [0, 1, 2, 6] F4.c0.fst (.seq [0, 1, 2, 6, 7] F4.c0.snd.fst (.seq [0, 1, 2, 6, 7, 8] F4.c0.snd.snd.fst (.seq [0, 1, 2, 6, 7, 8] (.seq [0, 1, 2, 6, 7, 8, 29] F4.c0.snd.snd.snd.fst.fst (.cond [0, 1, 2, 6, 7, 8] (.tmp 29) (.sub B1) F4.c0.snd.snd.snd.fst.snd.snd)) (.sub B2))))) [(0, l0), (1, id1), (2, most2)] ds h K = F4.t0 n0 B1 B2 l0 id1 most2 ds h K := by kernel_rfl
theorem F4.s0 {n0 : Nat} : F4.p0 n0 = wA Try.prog n0 102 none (.seq [0, 1, 2, 6] F4.c0.fst (.seq [0, 1, 2, 6, 7] F4.c0.snd.fst (.seq [0, 1, 2, 6, 7, 8] F4.c0.snd.snd.fst (.seq [0, 1, 2, 6, 7, 8] (.seq [0, 1, 2, 6, 7, 8, 29] F4.c0.snd.snd.snd.fst.fst (.cond [0, 1, 2, 6, 7, 8] (.tmp 29) (.sub (F4.p1 n0)) F4.c0.snd.snd.snd.fst.snd.snd)) (.sub (F4.p2 n0)))))) := by kernel_rfl
theorem F4.e0 {n0 : Nat} {l0 id1 most2 : Value} {ds : List Nat} {h : H} {K : KP} : F4.p0 n0 [(0, l0), (1, id1), (2, most2)] ds h K = F4.t0 n0 (F4.p1 n0) (F4.p2 n0) l0 id1 most2 ds h K :=
  wchain (F4.s0) (F4.g0 (F4.p1 n0) (F4.p2 n0) l0 id1 most2)
theorem F4.k0 : F4.c0.ok = true := by kernel_rfl
theorem F4.d0 {n0 : Nat} : F4.p0 n0 = wA Try.prog n0 102 none F4.c0 := by kernel_rfl
theorem F4.m0 (n0 : Nat) : MonoW (F4.p0 n0) := @mono_c Try.prog n0 102 none F4.c0 (F4.p0 n0) (F4.d0) F4.k0
noncomputable def F4.t1 (n0 : Nat) (l0 id1 most2 t6 x7 each8 : Value) (ds : List Nat) (h : H) (K : KP) : Prop :=
  Bnd (aStore Try.prog 4 t6 (.bool false) h) fun h1 =>
  K .ret [(6, t6)] ds h1
theorem F4.g1 {n0 : Nat} (l0 id1 most2 t6 x7 each8 : Value) {ds : List Nat} {h : H} {K : KP} : wA Try.prog n0 102 none F4.c1 [(0, l0), (1, id1), (2, most2), (6, t6), (7, x7), (8, each8)] ds h K = F4.t1 n0 l0 id1 most2 t6 x7 each8 ds h K := by kernel_rfl
theorem F4.s1 {n0 : Nat} : F4.p1 n0 = wA Try.prog n0 102 none F4.c1 := by kernel_rfl
theorem F4.e1 {n0 : Nat} {l0 id1 most2 t6 x7 each8 : Value} {ds : List Nat} {h : H} {K : KP} : F4.p1 n0 [(0, l0), (1, id1), (2, most2), (6, t6), (7, x7), (8, each8)] ds h K = F4.t1 n0 l0 id1 most2 t6 x7 each8 ds h K :=
  wchain (F4.s1) (F4.g1 l0 id1 most2 t6 x7 each8)
noncomputable def F4.t2 (n0 : Nat) (B3 : WP) (B6 : WP) (l0 id1 most2 t6 x7 each8 : Value) (ds : List Nat) (h : H) (K : KP) : Prop :=
  Lp [0, 1, 2, 6, 7, 8, 9] B3 [(0, l0), (1, id1), (2, most2), (6, t6), (7, x7), (8, each8), (9, (.int .i64 0))] ds h (KBlk [0, 1, 2, 6, 8] 0 (KSeq [0, 1, 2, 6, 8] B6 K))
theorem F4.g2 {n0 : Nat} (B3 : WP) (B6 : WP) (l0 id1 most2 t6 x7 each8 : Value) {ds : List Nat} {h : H} {K : KP} : wA Try.prog n0 102 none (.seq [0, 1, 2, 6, 8] (.seq [0, 1, 2, 6, 7, 8, 9] F4.c2.fst.fst (.block [0, 1, 2, 6, 8] 0 (.loop [0, 1, 2, 6, 7, 8, 9] (.sub B3)))) (.sub B6)) [(0, l0), (1, id1), (2, most2), (6, t6), (7, x7), (8, each8)] ds h K = F4.t2 n0 B3 B6 l0 id1 most2 t6 x7 each8 ds h K := by kernel_rfl
theorem F4.s2 {n0 : Nat} : F4.p2 n0 = wA Try.prog n0 102 none (.seq [0, 1, 2, 6, 8] (.seq [0, 1, 2, 6, 7, 8, 9] F4.c2.fst.fst (.block [0, 1, 2, 6, 8] 0 (.loop [0, 1, 2, 6, 7, 8, 9] (.sub (F4.p3 n0))))) (.sub (F4.p6 n0))) := by kernel_rfl
theorem F4.e2 {n0 : Nat} {l0 id1 most2 t6 x7 each8 : Value} {ds : List Nat} {h : H} {K : KP} : F4.p2 n0 [(0, l0), (1, id1), (2, most2), (6, t6), (7, x7), (8, each8)] ds h K = F4.t2 n0 (F4.p3 n0) (F4.p6 n0) l0 id1 most2 t6 x7 each8 ds h K :=
  wchain (F4.s2) (F4.g2 (F4.p3 n0) (F4.p6 n0) l0 id1 most2 t6 x7 each8)
noncomputable def F4.t3 (n0 : Nat) (B4 : WP) (l0 id1 most2 t6 x7 each8 i9 : Value) (ds : List Nat) (h : H) (K : KP) : Prop :=
  Bnd2 (aBuiltin Try.prog .len #[22] [x7] h) fun t32 h1 =>
  Bnd (aBin Try.prog false .lss 3 i9 t32) fun t33 =>
  Cnd t33
   (B4 [(0, l0), (1, id1), (2, most2), (6, t6), (7, x7), (8, each8), (9, i9)] ds h1 K)
   (K (.exit 0) [(0, l0), (1, id1), (2, most2), (6, t6), (7, x7), (8, each8), (9, i9)] ds h1)
theorem F4.g3 {n0 : Nat} (B4 : WP) (l0 id1 most2 t6 x7 each8 i9 : Value) {ds : List Nat} {h : H} {K : KP} : wA Try.prog n0 102 none (.seq [0, 1, 2, 6, 7, 8, 9] F4.c3.fst (.sub B4)) [(0, l0), (1, id1), (2, most2), (6, t6), (7, x7), (8, each8), (9, i9)] ds h K = F4.t3 n0 B4 l0 id1 most2 t6 x7 each8 i9 ds h K := by kernel_rfl
theorem F4.s3 {n0 : Nat} : F4.p3 n0 = wA Try.prog n0 102 none (.seq [0, 1, 2, 6, 7, 8, 9] F4.c3.fst (.sub (F4.p4 n0))) := by kernel_rfl
theorem F4.e3 {n0 : Nat} {l0 id1 most2 t6 x7 each8 i9 : Value} {ds : List Nat} {h : H} {K : KP} : F4.p3 n0 [(0, l0), (1, id1), (2, most2), (6, t6), (7, x7), (8, each8), (9, i9)] ds h K = F4.t3 n0 (F4.p4 n0) l0 id1 most2 t6 x7 each8 i9 ds h K :=
  wchain (F4.s3) (F4.g3 (F4.p4 n0) l0 id1 most2 t6 x7 each8 i9)
theorem F4.k3 : F4.c3.ok = true := by kernel_rfl
theorem F4.d3 {n0 : Nat} : F4.p3 n0 = wA Try.prog n0 102 none F4.c3 := by kernel_rfl
theorem F4.m3 (n0 : Nat) : MonoW (F4.p3 n0) := @mono_c Try.prog n0 102 none F4.c3 (F4.p3 n0) (F4.d3) F4.k3
noncomputable def F4.t4 (n0 : Nat) (B5 : WP) (l0 id1 most2 t6 x7 each8 i9 : Value) (ds : List Nat) (h : H) (K : KP) : Prop :=
  Bnd (aIndexAddr Try.prog 22 x7 i9) fun t38 =>
  Bnd (aStore Try.prog 23 t38 (.int .u64 3) h) fun h1 =>
  B5 [(0, l0), (1, id1), (2, most2), (6, t6), (7, x7), (8, each8), (9, i9)] ds h1 K
theorem F4.g4 {n0 : Nat} (B5 : WP) (l0 id1 most2 t6 x7 each8 i9 : Value) {ds : List Nat} {h : H} {K : KP} : wA Try.prog n0 102 none (.seq [0, 1, 2, 6, 7, 8, 9] F4.c4.fst (.sub B5)) [(0, l0), (1, id1), (2, most2), (6, t6), (7, x7), (8, each8), (9, i9)] ds h K = F4.t4 n0 B5 l0 id1 most2 t6 x7 each8 i9 ds h K := by kernel_rfl
theorem F4.s4 {n0 : Nat} : F4.p4 n0 = wA Try.prog n0 102 none (.seq [0, 1, 2, 6, 7, 8, 9] F4.c4.fst (.sub (F4.p5 n0))) := by kernel_rfl
theorem F4.e4 {n0 : Nat} {l0 id1 most2 t6 x7 each8 i9 : Value} {ds : List Nat} {h : H} {K : KP} : F4.p4 n0 [(0, l0), (1, id1), (2, most2), (6, t6), (7, x7), (8, each8), (9, i9)] ds h K = F4.t4 n0 (F4.p5 n0) l0 id1 most2 t6 x7 each8 i9 ds h K :=
  wchain (F4.s4) (F4.g4 (F4.p5 n0) l0 id1 most2 t6 x7 each8 i9)
noncomputable def F4.t5 (n0 : Nat) (l0 id1 most2 t6 x7 each8 i9 : Value) (ds : List Nat) (h : H) (K : KP) : Prop :=
  Bnd (aBin Try.prog true .add 3 i9 (.int .i64 1)) fun t35 =>
  K .normal [(0, l0), (1, id1), (2, most2), (6, t6), (7, x7), (8, each8), (9, t35), (34, i9), (35, t35)] ds h
theorem F4.g5 {n0 : Nat} (l0 id1 most2 t6 x7 each8 i9 : Value) {ds : List Nat} {h : H} {K : KP} : wA Try.prog n0 102 none F4.c5 [(0, l0), (1, id1), (2, most2), (6, t6), (7, x7), (8, each8), (9, i9)] ds h K = F4.t5 n0 l0 id1 most2 t6 x7 each8 i9 ds h K := by kernel_rfl
theorem F4.s5 {n0 : Nat} : F4.p5 n0 = wA Try.prog n0 102 none F4.c5 := by kernel_rfl
theorem F4.e5 {n0 : Nat} {l0 id1 most2 t6 x7 each8 i9 : Value} {ds : List Nat} {h : H} {K : KP} : F4.p5 n0 [(0, l0), (1, id1), (2, most2), (6, t6), (7, x7), (8, each8), (9, i9)] ds h K = F4.t5 n0 l0 id1 most2 t6 x7 each8 i9 ds h K :=
  wchain (F4.s5) (F4.g5 l0 id1 most2 t6 x7 each8 i9)
noncomputable def F4.t6 (n0 : Nat) (B7 : WP) (B8 : WP) (l0 id1 most2 t6 each8 : Value) (ds : List Nat) (h : H) (K : KP) : Prop :=
  Cn Try.prog n0 (.func 20) [l0, id1] h fun t41 h1 =>
  Nw (enc 0 22) (zc Try.prog 22) h1 fun want10 h2 =>
  Bnd (aStore Try.prog 22 want10 t41 h2) fun h3 =>
  Bnd2 (aBuiltin Try.prog .max #[3, 3] [most2, (.int .i64 0)] h3) fun t43 h4 =>
  Bnd (aLoad Try.prog 22 want10 h4) fun t44 =>
  Bnd2 (aBuiltin Try.prog .len #[22] [t44] h4) fun t45 h5 =>
  Bnd2 (aBuiltin Try.prog .min #[3, 3] [t43, t45] h5) fun t46 h6 =>
  Nw (enc 0 3) (zc Try.prog 3) h6 fun n11 h7 =>
  Bnd (aStore Try.prog 3 n11 t46 h7) fun h8 =>
  Bnd (aLoad Try.prog 31 each8 h8) fun t47 =>
  Bnd (aLoad Try.prog 3 n11 h8) fun t48 =>
  Cn Try.prog n0 (.func 21) [t47, t48] h8 fun t49 h9 =>
  Bnd (aLoad Try.prog 31 each8 h9) fun t50 =>
  Bnd (aLoad Try.prog 22 want10 h9) fun t51 =>
  Bnd2 (aBuiltin Try.prog .len #[22] [t51] h9) fun t52 h10 =>
  Bnd (aBin Try.prog true .add 3 t52 (.int .i64 9)) fun t53 =>
  Cn Try.prog n0 (.func 21) [t50, t53] h10 fun t54 h11 =>
  Bnd (aLoad Try.prog 22 want10 h11) fun t56 =>
  Bnd (aLoad Try.prog 3 n11 h11) fun t57 =>
  Bnd (aSlice Try.prog 22 t56 none (some t57) none h11) fun t58 =>
  Cn Try.prog n0 (.func 22) [t49, t58] h11 fun t59 h12 =>
  Bnd (aUn .not t59) fun t60 =>
  Gd t60
   (B7 [(6, t6), (8, each8), (10, want10), (11, n11)] ds h12 (KSeq [6, 8, 10, 11] B8 K))
   (Bnd (aLoad Try.prog 22 want10 h12) fun t63 =>
  Cn Try.prog n0 (.func 22) [t54, t63] h12 fun t64 h13 =>
  Bnd (aUn .not t64) fun t65 =>
  Cnd t65
   (B7 [(6, t6), (8, each8), (10, want10), (11, n11)] ds h13 (KSeq [6, 8, 10, 11] B8 K))
   (B8 [(6, t6), (8, each8), (10, want10), (11, n11)] ds h13 K))
theorem F4.g6 {n0 : Nat} (B7 : WP) (B8 : WP) (l0 id1 most2 t6 each8 : Value) {ds : List Nat} {h : H} {K : KP} : wA Try.prog n0 102 none (.seq [2, 6, 8, 10] F4.c6.fst (.seq [6, 8, 10, 11] F4.c6.snd.fst (.seq [6, 8, 10, 11, 12] F4.c6.snd.snd.fst (.seq [6, 8, 10, 11, 12, 13] F4.c6.snd.snd.snd.fst (.seq [6, 8, 10, 11] (.seq [6, 8, 10, 11, 66] F4.c6.snd.snd.snd.snd.fst.fst (.cond [6, 8, 10, 11] (.tmp 66) (.sub B7) F4.c6.snd.snd.snd.snd.fst.snd.snd)) (.sub B8)))))) [(0, l0), (1, id1), (2, most2), (6, t6), (8, each8)] ds h K = F4.t6 n0 B7 B8 l0 id1 most2 t6 each8 ds h K := by kernel_rfl
theorem F4.s6 {n0 : Nat} : F4.p6 n0 = wA Try.prog n0 102 none (.seq [2, 6, 8, 10] F4.c6.fst (.seq [6, 8, 10, 11] F4.c6.snd.fst (.seq [6, 8, 10, 11, 12] F4.c6.snd.snd.fst (.seq [6, 8, 10, 11, 12, 13] F4.c6.snd.snd.snd.fst (.seq [6, 8, 10, 11] (.seq [6, 8, 10, 11, 66] F4.c6.snd.snd.snd.snd.fst.fst (.cond [6, 8, 10, 11] (.tmp 66) (.sub (F4.p7 n0)) F4.c6.snd.snd.snd.snd.fst.snd.snd)) (.sub (F4.p8 n0))))))) := by kernel_rfl
theorem F4.e6 {n0 : Nat} {l0 id1 most2 t6 each8 : Value} {ds : List Nat} {h : H} {K : KP} : F4.p6 n0 [(0, l0), (1, id1), (2, most2), (6, t6), (8, each8)] ds h K = F4.t6 n0 (F4.p7 n0) (F4.p8 n0) l0 id1 most2 t6 each8 ds h K :=
  wchain (F4.s6) (F4.g6 (F4.p7 n0) (F4.p8 n0) l0 id1 most2 t6 each8)
noncomputable def F4.t7 (n0 : Nat) (t6 each8 want10 n11 : Value) (ds : List Nat) (h : H) (K : KP) : Prop :=
  Bnd (aStore Try.prog 4 t6 (.bool false) h) fun h1 =>
  K .ret [(6, t6)] ds h1
theorem F4.g7 {n0 : Nat} (t6 each8 want10 n11 : Value) {ds : List Nat} {h : H} {K : KP} : wA Try.prog n0 102 none F4.c7 [(6, t6), (8, each8), (10, want10), (11, n11)] ds h K = F4.t7 n0 t6 each8 want10 n11 ds h K := by kernel_rfl
theorem F4.s7 {n0 : Nat} : F4.p7 n0 = wA Try.prog n0 102 none F4.c7 := by kernel_rfl
theorem F4.e7 {n0 : Nat} {t6 each8 want10 n11 : Value} {ds : List Nat} {h : H} {K : KP} : F4.p7 n0 [(6, t6), (8, each8), (10, want10), (11, n11)] ds h K = F4.t7 n0 t6 each8 want10 n11 ds h K :=
  wchain (F4.s7) (F4.g7 t6 each8 want10 n11)
noncomputable def F4.t8 (n0 : Nat) (B9 : WP) (t6 each8 want10 n11 : Value) (ds : List Nat) (h : H) (K : KP) : Prop :=
  Nw (enc 0 3) (zc Try.prog 3) h fun k14 h1 =>
  Bnd (aStore Try.prog 3 k14 (.int .i64 0) h1) fun h2 =>
  Bnd (aLoad Try.prog 31 each8 h2) fun t67 =>
  wRange Try.prog n0 none 102 t67 #[68] F4.rAs0 F4.rBd0 [(6, t6), (8, each8), (10, want10), (11, n11), (14, k14), (67, t67)] ds h2 (KBlk [6, 10, 14] 2 (KSeq [6, 10, 14] B9 K))
theorem F4.g8 {n0 : Nat} (B9 : WP) (t6 each8 want10 n11 : Value) {ds : List Nat} {h : H} {K : KP} : wA Try.prog n0 102 none (.seq [6, 8, 10, 11, 14] F4.c8.fst (.seq [6, 10, 14] F4.c8.snd.fst (.sub B9))) [(6, t6), (8, each8), (10, want10), (11, n11)] ds h K = F4.t8 n0 B9 t6 each8 want10 n11 ds h K := by kernel_rfl
theorem F4.s8 {n0 : Nat} : F4.p8 n0 = wA Try.prog n0 102 none (.seq [6, 8, 10, 11, 14] F4.c8.fst (.seq [6, 10, 14] F4.c8.snd.fst (.sub (F4.p9 n0)))) := by kernel_rfl
theorem F4.e8 {n0 : Nat} {t6 each8 want10 n11 : Value} {ds : List Nat} {h : H} {K : KP} : F4.p8 n0 [(6, t6), (8, each8), (10, want10), (11, n11)] ds h K = F4.t8 n0 (F4.p9 n0) t6 each8 want10 n11 ds h K :=
  wchain (F4.s8) (F4.g8 (F4.p9 n0) t6 each8 want10 n11)
noncomputable def F4.t9 (n0 : Nat) (t6 want10 k14 : Value) (ds : List Nat) (h : H) (K : KP) : Prop :=
  Bnd (aLoad Try.prog 3 k14 h) fun t95 =>
  Bnd (aLoad Try.prog 22 want10 h) fun t96 =>
  Bnd2 (aBuiltin Try.prog .len #[22] [t96] h) fun t97 h1 =>
  Bnd (aBin Try.prog false .eql 3 t95 t97) fun t98 =>
  Gd t98
   (Cn Try.prog n0 (.func 18) [] h1 fun t100 h2 =>
  Bnd (aStore Try.prog 4 t6 t100 h2) fun h3 =>
  K .ret [(6, t6)] ds h3)
   (Bnd (aStore Try.prog 4 t6 (.bool false) h1) fun h2 =>
  K .ret [(6, t6)] ds h2)
theorem F4.g9 {n0 : Nat} (t6 want10 k14 : Value) {ds : List Nat} {h : H} {K : KP} : wA Try.prog n0 102 none F4.c9 [(6, t6), (10, want10), (14, k14)] ds h K = F4.t9 n0 t6 want10 k14 ds h K := by kernel_rfl
theorem F4.s9 {n0 : Nat} : F4.p9 n0 = wA Try.prog n0 102 none F4.c9 := by kernel_rfl
theorem F4.e9 {n0 : Nat} {t6 want10 k14 : Value} {ds : List Nat} {h : H} {K : KP} : F4.p9 n0 [(6, t6), (10, want10), (14, k14)] ds h K = F4.t9 n0 t6 want10 k14 ds h K :=
  wchain (F4.s9) (F4.g9 t6 want10 k14)
noncomputable def F4.c10 : AC := F4.aAs0
noncomputable def F4.p10 (n0 : Nat) (l : Nat) : WP := wA Try.prog n0 102 (some l) F4.c10
noncomputable def F4.t10 (n0 : Nat) (l : Nat) (t6 each8 want10 n11 k14 t67 t68 : Value) (ds : List Nat) (h : H) (K : KP) : Prop :=
  K .normal [(6, t6), (8, each8), (10, want10), (11, n11), (14, k14), (67, t67), (68, t68), (15, t68)] ds h
theorem F4.g10 {n0 : Nat} {l : Nat} (t6 each8 want10 n11 k14 t67 t68 : Value) {ds : List Nat} {h : H} {K : KP} : wA Try.prog n0 102 (some l) F4.c10 [(6, t6), (8, each8), (10, want10), (11, n11), (14, k14), (67, t67), (68, t68)] ds h K = F4.t10 n0 l t6 each8 want10 n11 k14 t67 t68 ds h K := by kernel_rfl
theorem F4.s10 {n0 : Nat} (l : Nat) : F4.p10 n0 l = wA Try.prog n0 102 (some l) F4.c10 := by kernel_rfl
theorem F4.e10 {n0 : Nat} {l : Nat} {t6 each8 want10 n11 k14 t67 t68 : Value} {ds : List Nat} {h : H} {K : KP} : F4.p10 n0 l [(6, t6), (8, each8), (10, want10), (11, n11), (14, k14), (67, t67), (68, t68)] ds h K = F4.t10 n0 l t6 each8 want10 n11 k14 t67 t68 ds h K :=
  wchain (F4.s10 l) (F4.g10 t6 each8 want10 n11 k14 t67 t68)
theorem F4.k10 : F4.c10.ok = true := by kernel_rfl
theorem F4.d10 {n0 : Nat} (l : Nat) : F4.p10 n0 l = wA Try.prog n0 102 (some l) F4.c10 := by kernel_rfl
theorem F4.m10 (n0 : Nat) (l : Nat) : MonoW (F4.p10 n0 l) := @mono_c Try.prog n0 102 (some l) F4.c10 (F4.p10 n0 l) (F4.d10 l) F4.k10
noncomputable def F4.c11 : AC := F4.aBd0
noncomputable def F4.c12 : AC := F4.aBd0.fst.fst.snd.fst
noncomputable def F4.c13 : AC := F4.aBd0.fst.snd
noncomputable def F4.c14 : AC := F4.aBd0.fst.snd.fst.snd.fst
noncomputable def F4.c15 : AC := F4.aBd0.fst.snd.fst.snd.fst.snd.snd.fst
noncomputable def F4.c16 : AC := F4.aBd0.fst.snd.snd
noncomputable def F4.p11 (n0 : Nat) (l : Nat) : WP := wA Try.prog n0 102 (some l) F4.c11
noncomputable def F4.p12 (n0 : Nat) (l : Nat) : WP := wA Try.prog n0 102 (some l) F4.c12
noncomputable def F4.p13 (n0 : Nat) (l : Nat) : WP := wA Try.prog n0 102 (some l) F4.c13
noncomputable def F4.p14 (n0 : Nat) (l : Nat) : WP := wA Try.prog n0 102 (some l) F4.c14
noncomputable def F4.p15 (n0 : Nat) (l : Nat) : WP := wA Try.prog n0 102 (some l) F4.c15
noncomputable def F4.p16 (n0 : Nat) (l : Nat) : WP := wA Try.prog n0 102 (some l) F4.c16
noncomputable def F4.t11 (n0 : Nat) (l : Nat) (B12 : WP) (B13 : WP) (t6 each8 want10 n11 k14 got15 : Value) (ds : List Nat) (h : H) (K : KP) : Prop :=
  Bnd (aLoad Try.prog 3 k14 h) fun t69 =>
  Bnd (aLoad Try.prog 22 want10 h) fun t70 =>
  Bnd2 (aBuiltin Try.prog .len #[22] [t70] h) fun t71 h1 =>
  Bnd (aBin Try.prog false .geq 3 t69 t71) fun t72 =>
  Gd t72
   (B12 [(6, t6), (8, each8), (10, want10), (11, n11), (14, k14)] ds h1 (KSeq [6, 8, 10, 11, 14] B13 (KBlk [6, 8, 10, 11, 14] 3 K)))
   (Bnd (aLoad Try.prog 22 want10 h1) fun t75 =>
  Bnd (aLoad Try.prog 3 k14 h1) fun t76 =>
  Bnd (aIndexAddr Try.prog 22 t75 t76) fun t77 =>
  Bnd (aLoad Try.prog 23 t77 h1) fun t78 =>
  Bnd (aBin Try.prog false .neq 23 got15 t78) fun t79 =>
  Cnd t79
   (B12 [(6, t6), (8, each8), (10, want10), (11, n11), (14, k14)] ds h1 (KSeq [6, 8, 10, 11, 14] B13 (KBlk [6, 8, 10, 11, 14] 3 K)))
   (B13 [(6, t6), (8, each8), (10, want10), (11, n11), (14, k14)] ds h1 (KBlk [6, 8, 10, 11, 14] 3 K)))
theorem F4.g11 {n0 : Nat} {l : Nat} (B12 : WP) (B13 : WP) (t6 each8 want10 n11 k14 got15 : Value) {ds : List Nat} {h : H} {K : KP} : wA Try.prog n0 102 (some l) (.block [6, 8, 10, 11, 14] 3 (.seq [6, 8, 10, 11, 14] (.seq [6, 8, 10, 11, 14, 80] F4.c11.fst.fst.fst (.cond [6, 8, 10, 11, 14] (.tmp 80) (.sub B12) F4.c11.fst.fst.snd.snd)) (.sub B13))) [(6, t6), (8, each8), (10, want10), (11, n11), (14, k14), (15, got15)] ds h K = F4.t11 n0 l B12 B13 t6 each8 want10 n11 k14 got15 ds h K := by kernel_rfl
theorem F4.s11 {n0 : Nat} (l : Nat) : F4.p11 n0 l = wA Try.prog n0 102 (some l) (.block [6, 8, 10, 11, 14] 3 (.seq [6, 8, 10, 11, 14] (.seq [6, 8, 10, 11, 14, 80] F4.c11.fst.fst.fst (.cond [6, 8, 10, 11, 14] (.tmp 80) (.sub (F4.p12 n0 l)) F4.c11.fst.fst.snd.snd)) (.sub (F4.p13 n0 l)))) := by kernel_rfl
theorem F4.e11 {n0 : Nat} {l : Nat} {t6 each8 want10 n11 k14 got15 : Value} {ds : List Nat} {h : H} {K : KP} : F4.p11 n0 l [(6, t6), (8, each8), (10, want10), (11, n11), (14, k14), (15, got15)] ds h K = F4.t11 n0 l (F4.p12 n0 l) (F4.p13 n0 l) t6 each8 want10 n11 k14 got15 ds h K :=
  wchain (F4.s11 l) (F4.g11 (F4.p12 n0 l) (F4.p13 n0 l) t6 each8 want10 n11 k14 got15)
theorem F4.k11 : F4.c11.ok = true := by kernel_rfl
theorem F4.d11 {n0 : Nat} (l : Nat) : F4.p11 n0 l = wA Try.prog n0 102 (some l) F4.c11 := by kernel_rfl
theorem F4.m11 (n0 : Nat) (l : Nat) : MonoW (F4.p11 n0 l) := @mono_c Try.prog n0 102 (some l) F4.c11 (F4.p11 n0 l) (F4.d11 l) F4.k11
noncomputable def F4.t12 (n0 : Nat) (l : Nat) (t6 each8 want10 n11 k14 : Value) (ds : List Nat) (h : H) (K : KP) : Prop :=
  Bnd (aStore Try.prog 4 t6 (.bool false) h) fun h1 =>
  K .ret [(6, t6)] ds h1
theorem F4.g12 {n0 : Nat} {l : Nat} (t6 each8 want10 n11 k14 : Value) {ds : List Nat} {h : H} {K : KP} : wA Try.prog n0 102 (some l) F4.c12 [(6, t6), (8, each8), (10, want10), (11, n11), (14, k14)] ds h K = F4.t12 n0 l t6 each8 want10 n11 k14 ds h K := by kernel_rfl
theorem F4.s12 {n0 : Nat} (l : Nat) : F4.p12 n0 l = wA Try.prog n0 102 (some l) F4.c12 := by kernel_rfl
theorem F4.e12 {n0 : Nat} {l : Nat} {t6 each8 want10 n11 k14 : Value} {ds : List Nat} {h : H} {K : KP} : F4.p12 n0 l [(6, t6), (8, each8), (10, want10), (11, n11), (14, k14)] ds h K = F4.t12 n0 l t6 each8 want10 n11 k14 ds h K :=
  wchain (F4.s12 l) (F4.g12 t6 each8 want10 n11 k14)
noncomputable def F4.t13 (n0 : Nat) (l : Nat) (B14 : WP) (B16 : WP) (t6 each8 want10 n11 k14 : Value) (ds : List Nat) (h : H) (K : KP) : Prop :=
  Bnd (aLoad Try.prog 3 k14 h) fun t81 =>
  Bnd (aLoad Try.prog 3 n11 h) fun t82 =>
  Bnd (aBin Try.prog false .eql 3 t81 t82) fun t83 =>
  Cnd t83
   (B14 [(6, t6), (8, each8), (10, want10), (11, n11), (14, k14)] ds h (KSeq [6, 8, 10, 11, 14] B16 K))
   (B16 [(6, t6), (8, each8), (10, want10), (11, n11), (14, k14)] ds h K)
theorem F4.g13 {n0 : Nat} {l : Nat} (B14 : WP) (B16 : WP) (t6 each8 want10 n11 k14 : Value) {ds : List Nat} {h : H} {K : KP} : wA Try.prog n0 102 (some l) (.seq [6, 8, 10, 11, 14] (.seq [6, 8, 10, 11, 14, 83] F4.c13.fst.fst (.cond [6, 8, 10, 11, 14] (.tmp 83) (.sub B14) F4.c13.fst.snd.snd)) (.sub B16)) [(6, t6), (8, each8), (10, want10), (11, n11), (14, k14)] ds h K = F4.t13 n0 l B14 B16 t6 each8 want10 n11 k14 ds h K := by kernel_rfl
theorem F4.s13 {n0 : Nat} (l : Nat) : F4.p13 n0 l = wA Try.prog n0 102 (some l) (.seq [6, 8, 10, 11, 14] (.seq [6, 8, 10, 11, 14, 83] F4.c13.fst.fst (.cond [6, 8, 10, 11, 14] (.tmp 83) (.sub (F4.p14 n0 l)) F4.c13.fst.snd.snd)) (.sub (F4.p16 n0 l))) := by kernel_rfl
theorem F4.e13 {n0 : Nat} {l : Nat} {t6 each8 want10 n11 k14 : Value} {ds : List Nat} {h : H} {K : KP} : F4.p13 n0 l [(6, t6), (8, each8), (10, want10), (11, n11), (14, k14)] ds h K = F4.t13 n0 l (F4.p14 n0 l) (F4.p16 n0 l) t6 each8 want10 n11 k14 ds h K :=
  wchain (F4.s13 l) (F4.g13 (F4.p14 n0 l) (F4.p16 n0 l) t6 each8 want10 n11 k14)
noncomputable def F4.t14 (n0 : Nat) (l : Nat) (B15 : WP) (t6 each8 want10 n11 k14 : Value) (ds : List Nat) (h : H) (K : KP) : Prop :=
  Bnd (aLoad Try.prog 31 each8 h) fun t84 =>
  Bnd (aLoad Try.prog 22 want10 h) fun t85 =>
  Bnd2 (aBuiltin Try.prog .len #[22] [t85] h) fun t86 h1 =>
  Bnd (aBin Try.prog true .add 3 t86 (.int .i64 9)) fun t87 =>
  Cn Try.prog n0 (.func 21) [t84, t87] h1 fun t88 h2 =>
  Bnd (aLoad Try.prog 22 want10 h2) fun t90 =>
  Cn Try.prog n0 (.func 22) [t88, t90] h2 fun t91 h3 =>
  Bnd (aUn .not t91) fun t92 =>
  Cnd t92
   (B15 [(6, t6), (8, each8), (10, want10), (11, n11), (14, k14)] ds h3 K)
   (K .normal [(6, t6), (8, each8), (10, want10), (11, n11), (14, k14)] ds h3)
theorem F4.g14 {n0 : Nat} {l : Nat} (B15 : WP) (t6 each8 want10 n11 k14 : Value) {ds : List Nat} {h : H} {K : KP} : wA Try.prog n0 102 (some l) (.seq [6, 8, 10, 11, 14, 16] F4.c14.fst (.seq [6, 8, 10, 11, 14, 92] F4.c14.snd.fst (.cond [6, 8, 10, 11, 14] (.tmp 92) (.sub B15) F4.c14.snd.snd.snd))) [(6, t6), (8, each8), (10, want10), (11, n11), (14, k14)] ds h K = F4.t14 n0 l B15 t6 each8 want10 n11 k14 ds h K := by kernel_rfl
theorem F4.s14 {n0 : Nat} (l : Nat) : F4.p14 n0 l = wA Try.prog n0 102 (some l) (.seq [6, 8, 10, 11, 14, 16] F4.c14.fst (.seq [6, 8, 10, 11, 14, 92] F4.c14.snd.fst (.cond [6, 8, 10, 11, 14] (.tmp 92) (.sub (F4.p15 n0 l)) F4.c14.snd.snd.snd))) := by kernel_rfl
theorem F4.e14 {n0 : Nat} {l : Nat} {t6 each8 want10 n11 k14 : Value} {ds : List Nat} {h : H} {K : KP} : F4.p14 n0 l [(6, t6), (8, each8), (10, want10), (11, n11), (14, k14)] ds h K = F4.t14 n0 l (F4.p15 n0 l) t6 each8 want10 n11 k14 ds h K :=
  wchain (F4.s14 l) (F4.g14 (F4.p15 n0 l) t6 each8 want10 n11 k14)
noncomputable def F4.t15 (n0 : Nat) (l : Nat) (t6 each8 want10 n11 k14 : Value) (ds : List Nat) (h : H) (K : KP) : Prop :=
  Bnd (aStore Try.prog 4 t6 (.bool false) h) fun h1 =>
  K .ret [(6, t6)] ds h1
theorem F4.g15 {n0 : Nat} {l : Nat} (t6 each8 want10 n11 k14 : Value) {ds : List Nat} {h : H} {K : KP} : wA Try.prog n0 102 (some l) F4.c15 [(6, t6), (8, each8), (10, want10), (11, n11), (14, k14)] ds h K = F4.t15 n0 l t6 each8 want10 n11 k14 ds h K := by kernel_rfl
theorem F4.s15 {n0 : Nat} (l : Nat) : F4.p15 n0 l = wA Try.prog n0 102 (some l) F4.c15 := by kernel_rfl
theorem F4.e15 {n0 : Nat} {l : Nat} {t6 each8 want10 n11 k14 : Value} {ds : List Nat} {h : H} {K : KP} : F4.p15 n0 l [(6, t6), (8, each8), (10, want10), (11, n11), (14, k14)] ds h K = F4.t15 n0 l t6 each8 want10 n11 k14 ds h K :=
  wchain (F4.s15 l) (F4.g15 t6 each8 want10 n11 k14)
noncomputable def F4.t16 (n0 : Nat) (l : Nat) (t6 each8 want10 n11 k14 : Value) (ds : List Nat) (h : H) (K : KP) : Prop :=
  Bnd (aLoad Try.prog 3 k14 h) fun t93 =>
  Bnd (aBin Try.prog true .add 3 t93 (.int .i64 1)) fun t94 =>
  Bnd (aStore Try.prog 3 k14 t94 h) fun h1 =>
  K .normal [(6, t6), (8, each8), (10, want10), (11, n11), (14, k14), (93, t93), (94, t94)] ds h1
theorem F4.g16 {n0 : Nat} {l : Nat} (t6 each8 want10 n11 k14 : Value) {ds : List Nat} {h : H} {K : KP} : wA Try.prog n0 102 (some l) F4.c16 [(6, t6), (8, each8), (10, want10), (11, n11), (14, k14)] ds h K = F4.t16 n0 l t6 each8 want10 n11 k14 ds h K := by kernel_rfl
theorem F4.s16 {n0 : Nat} (l : Nat) : F4.p16 n0 l = wA Try.prog n0 102 (some l) F4.c16 := by kernel_rfl
theorem F4.e16 {n0 : Nat} {l : Nat} {t6 each8 want10 n11 k14 : Value} {ds : List Nat} {h : H} {K : KP} : F4.p16 n0 l [(6, t6), (8, each8), (10, want10), (11, n11), (14, k14)] ds h K = F4.t16 n0 l t6 each8 want10 n11 k14 ds h K :=
  wchain (F4.s16 l) (F4.g16 t6 each8 want10 n11 k14)
theorem F4.b : Try.f4.body = some F4.c0.erase := by kernel_rfl
theorem F4.b2 : (Try.f4.name == "runtime.NumGoroutine") = false := by kernel_rfl
theorem F4.b3 : Try.f4.ntmps = 102 := by kernel_rfl
theorem F4.b4 : Try.f4.results.toList = [.cell 6 4] := by kernel_rfl
theorem F4.enter {n0 : Nat} {x0 x1 x2 : Value} {h : H} {Q : Value → H → Prop} (w : F4.p0 n0 [(0, x0), (1, x1), (2, x2)] [] h (KFin Try.prog [.cell 6 4] Q)) : Cn Try.prog n0 (.func 4) [x0, x1, x2] h Q :=
  @fn_enter Try.prog n0 mixed 4 Try.f4 F4.c0 [x0, x1, x2] h Q Try.func4 F4.b F4.k0 F4.b2 102 F4.b3 [.cell 6 4] F4.b4 (by simp) [(0, x0), (1, x1), (2, x2)] rfl (wback F4.d0 w)

end Go.Proofs.Ytjdcdabbbmhffaa
