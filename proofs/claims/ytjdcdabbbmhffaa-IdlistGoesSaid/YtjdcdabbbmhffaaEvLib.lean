/- A part of the proof that what the evaluator of YtjdcdabbbmhffaaEvCore answers, the call answers in the model. No condition. -/
import Derived.Test.YtjdcdabbbmhffaaEvAc3
import Derived.IntWalk
set_option linter.unusedVariables false
set_option linter.unusedSimpArgs false
namespace Go.Ev
variable {P : Program} {n0 : Nat} {h h' : H}
theorem Nw_congr {e : Nat} {cs cs' : List Value} {K : Value → H → Prop} (x : cs = cs') : Nw e cs h K = Nw e cs' h K := by rw [x]
theorem Cn_congr {f : Fn} {args args' : List Value} {K : Value → H → Prop} (x : args = args') : Cn P n0 f args h K = Cn P n0 f args' h K := by rw [x]
theorem CallV_congr {v v' : Value} {xs : List Value} {K : Value → H → Prop} (x : v = v') : CallV P n0 v xs h K = CallV P n0 v' xs h K := by rw [x]
theorem NilC_congr {v v' : Value} {A : Prop} (x : v = v') : NilC v A = NilC v' A := by rw [x]
attribute [congr] Bnd_congr Bnd2_congr Cnd_congr Gd_congr Sm_congr Nw_congr Cn_congr CallV_congr NilC_congr
/-! whole numbers -/
theorem bAdd {c : Bool} {t : TypeId} {k : IntKind} {a b : Int} : aBin P c .add t (.int k a) (.int k b) = some (.int k (k.wrap (a + b))) := by simp [aBin, aInt]
theorem bSub {c : Bool} {t : TypeId} {k : IntKind} {a b : Int} : aBin P c .sub t (.int k a) (.int k b) = some (.int k (k.wrap (a - b))) := by simp [aBin, aInt]
theorem bMul {c : Bool} {t : TypeId} {k : IntKind} {a b : Int} : aBin P c .mul t (.int k a) (.int k b) = some (.int k (k.wrap (a * b))) := by simp [aBin, aInt]
theorem bQuo {c : Bool} {t : TypeId} {k : IntKind} {a b : Int} (hb : b ≠ 0) : aBin P c .quo t (.int k a) (.int k b) = some (.int k (k.wrap (a.tdiv b))) := by simp [aBin, aInt, hb]
theorem bRem {c : Bool} {t : TypeId} {k : IntKind} {a b : Int} (hb : b ≠ 0) : aBin P c .rem t (.int k a) (.int k b) = some (.int k (a.tmod b)) := by simp [aBin, aInt, hb]
def iAnd (k : IntKind) (a b : Int) : Int := k.wrap (BitVec.ofInt k.bits a &&& BitVec.ofInt k.bits b).toNat
def iOr (k : IntKind) (a b : Int) : Int := k.wrap (BitVec.ofInt k.bits a ||| BitVec.ofInt k.bits b).toNat
def iXor (k : IntKind) (a b : Int) : Int := k.wrap (BitVec.ofInt k.bits a ^^^ BitVec.ofInt k.bits b).toNat
def iAndNot (k : IntKind) (a b : Int) : Int := k.wrap (BitVec.ofInt k.bits a &&& ~~~ BitVec.ofInt k.bits b).toNat
def iShl (k : IntKind) (a b : Int) : Int := k.wrap (a * 2 ^ (min b.toNat k.bits))
def iShr (k : IntKind) (a b : Int) : Int := a.fdiv (2 ^ (min b.toNat k.bits))
theorem bAnd {c : Bool} {t : TypeId} {k : IntKind} {a b : Int} : aBin P c .and t (.int k a) (.int k b) = some (.int k (iAnd k a b)) := by simp [aBin, aInt, iAnd]
theorem bOr {c : Bool} {t : TypeId} {k : IntKind} {a b : Int} : aBin P c .or t (.int k a) (.int k b) = some (.int k (iOr k a b)) := by simp [aBin, aInt, iOr]
theorem bXor {c : Bool} {t : TypeId} {k : IntKind} {a b : Int} : aBin P c .xor t (.int k a) (.int k b) = some (.int k (iXor k a b)) := by simp [aBin, aInt, iXor]
theorem bAndNot {c : Bool} {t : TypeId} {k : IntKind} {a b : Int} : aBin P c .andNot t (.int k a) (.int k b) = some (.int k (iAndNot k a b)) := by simp [aBin, aInt, iAndNot]
theorem bShl {c : Bool} {t : TypeId} {k k' : IntKind} {a b : Int} (hb : 0 ≤ b) : aBin P c .shl t (.int k a) (.int k' b) = some (.int k (iShl k a b)) := by simp [aBin, aShift, iShl, show ¬ b < 0 from by omega]
theorem bShr {c : Bool} {t : TypeId} {k k' : IntKind} {a b : Int} (hb : 0 ≤ b) : aBin P c .shr t (.int k a) (.int k' b) = some (.int k (iShr k a b)) := by simp [aBin, aShift, iShr, show ¬ b < 0 from by omega]
theorem bEql {c : Bool} {t : TypeId} {k : IntKind} {a b : Int} : aBin P c .eql t (.int k a) (.int k b) = some (.bool (decide (a = b))) := by simp [aBin, aInt]
theorem bNeq {c : Bool} {t : TypeId} {k : IntKind} {a b : Int} : aBin P c .neq t (.int k a) (.int k b) = some (.bool (!decide (a = b))) := by simp [aBin, aInt]
theorem bLss {c : Bool} {t : TypeId} {k : IntKind} {a b : Int} : aBin P c .lss t (.int k a) (.int k b) = some (.bool (decide (a < b))) := by simp [aBin, aInt]
theorem bLeq {c : Bool} {t : TypeId} {k : IntKind} {a b : Int} : aBin P c .leq t (.int k a) (.int k b) = some (.bool (decide (a ≤ b))) := by simp [aBin, aInt]
theorem bGtr {c : Bool} {t : TypeId} {k : IntKind} {a b : Int} : aBin P c .gtr t (.int k a) (.int k b) = some (.bool (decide (b < a))) := by simp [aBin, aInt]
theorem bGeq {c : Bool} {t : TypeId} {k : IntKind} {a b : Int} : aBin P c .geq t (.int k a) (.int k b) = some (.bool (decide (b ≤ a))) := by simp [aBin, aInt]
theorem uNot {b : Bool} : aUn .not (.bool b) = some (.bool !b) := rfl
theorem uNeg {k : IntKind} {n : Int} : aUn .neg (.int k n) = some (.int k (k.wrap (0 - n))) := by simp [aUn]
theorem uXor {k : IntKind} {n : Int} : aUn .xor (.int k n) = some (.int k (iXor k (if k.signed then -1 else k.max) n)) := by simp [aUn, aInt, iXor]
/-! texts -/
theorem sAdd {c : Bool} {t : TypeId} {a b : ByteArray} (hl : a.size + b.size < 2 ^ 63) : aBin P c .add t (.string a) (.string b) = some (.string (a ++ b)) := by simp only [aBin, aStr]; rw [if_pos hl]
theorem sEql {c : Bool} {t : TypeId} {a b : ByteArray} : aBin P c .eql t (.string a) (.string b) = some (.bool (a.toList == b.toList)) := rfl
theorem sNeq {c : Bool} {t : TypeId} {a b : ByteArray} : aBin P c .neq t (.string a) (.string b) = some (.bool (!(a.toList == b.toList))) := rfl
/-! ways -/
theorem Cnd_dec {p : Prop} [Decidable p] {A B : Prop} : Cnd (.bool (decide p)) A B = if p then A else B := by
  by_cases hp : p <;> simp [Cnd, hp]
theorem Cnd_ndec {p : Prop} [Decidable p] {A B : Prop} : Cnd (.bool (!decide p)) A B = if p then B else A := by
  by_cases hp : p <;> simp [Cnd, hp]
theorem Gd_dec {p : Prop} [Decidable p] {A B : Prop} : Gd (.bool (decide p)) A B = if p then A else B := by
  by_cases hp : p <;> simp [Gd, hp]
theorem Gd_ndec {p : Prop} [Decidable p] {A B : Prop} : Gd (.bool (!decide p)) A B = if p then B else A := by
  by_cases hp : p <;> simp [Gd, hp]
theorem Cnd_true {A B : Prop} : Cnd (.bool true) A B = A := propext Iff.rfl
theorem Cnd_false {A B : Prop} : Cnd (.bool false) A B = B := propext Iff.rfl
theorem Gd_true {A B : Prop} : Gd (.bool true) A B = A := propext Iff.rfl
theorem Gd_false {A B : Prop} : Gd (.bool false) A B = B := propext Iff.rfl
theorem tup_at {vs : Array Value} {i : Nat} : tupAt (.tuple vs) i = vs[i]? := rfl
theorem nil_ptr {a : Addr} {A : Prop} : NilC (.pointer (some a)) A = A := propext Iff.rfl
theorem nil_fn {f : FuncId} {x y : Array Value} {A : Prop} : NilC (.func (.func f) x y) A = A := propext Iff.rfl
theorem nil_yl {f : Nat} {x y : Array Value} {A : Prop} : NilC (.func (.yield f) x y) A = A := propext Iff.rfl
theorem callV {f : Fn} {x y : Array Value} {xs : List Value} {K : Value → H → Prop} : CallV P n0 (.func f x y) xs h K = Cn P n0 f (x.toList ++ xs ++ y.toList) h K := propext Iff.rfl
/-! what stands behind -/
theorem kseq_n {L : List Nat} {B : WP} {K : KP} {fr : Fr} {ds : List Nat} : KSeq L B K .normal fr ds h = B (keep L fr) ds h K := propext Iff.rfl
theorem kseq_r {L : List Nat} {B : WP} {K : KP} {fr : Fr} {ds : List Nat} : KSeq L B K .ret fr ds h = K .ret fr ds h := propext Iff.rfl
theorem kseq_e {L : List Nat} {B : WP} {K : KP} {fr : Fr} {ds : List Nat} {i : Nat} : KSeq L B K (.exit i) fr ds h = K (.exit i) fr ds h := propext Iff.rfl
theorem kblk_n {L : List Nat} {id : Nat} {K : KP} {fr : Fr} {ds : List Nat} : KBlk L id K .normal fr ds h = K .normal (keep L fr) ds h := propext Iff.rfl
theorem kblk_r {L : List Nat} {id : Nat} {K : KP} {fr : Fr} {ds : List Nat} : KBlk L id K .ret fr ds h = K .ret fr ds h := propext Iff.rfl
theorem kblk_e {L : List Nat} {id : Nat} {K : KP} {fr : Fr} {ds : List Nat} : KBlk L id K (.exit id) fr ds h = K .normal (keep L fr) ds h := by simp [KBlk]
theorem kblk_o {L : List Nat} {id j : Nat} {K : KP} {fr : Fr} {ds : List Nat} (hj : (j == id) = false) : KBlk L id K (.exit j) fr ds h = K (.exit j) fr ds h := by simp [KBlk]; intro e; subst e; simp at hj
theorem klp_n {L : List Nat} {I : Fr → H → Prop} {K : KP} {fr : Fr} {ds ds' : List Nat} : KLp L I ds K .normal fr ds' h = (ds' = ds ∧ I (keep L fr) h) := propext Iff.rfl
theorem klp_r {L : List Nat} {I : Fr → H → Prop} {K : KP} {fr : Fr} {ds ds' : List Nat} : KLp L I ds K .ret fr ds' h = K .ret fr ds' h := propext Iff.rfl
theorem klp_e {L : List Nat} {I : Fr → H → Prop} {K : KP} {fr : Fr} {ds ds' : List Nat} {i : Nat} : KLp L I ds K (.exit i) fr ds' h = K (.exit i) fr ds' h := propext Iff.rfl
theorem kfin_n {rs : List ResultVar} {Q : Value → H → Prop} {fr : Fr} {ds : List Nat} : KFin P rs Q .normal fr ds h = Bnd (takeD ds h) fun h => Bnd (resL P fr h rs) fun l => Q (tup l) h := propext Iff.rfl
theorem kfin_r {rs : List ResultVar} {Q : Value → H → Prop} {fr : Fr} {ds : List Nat} : KFin P rs Q .ret fr ds h = Bnd (takeD ds h) fun h => Bnd (resL P fr h rs) fun l => Q (tup l) h := propext Iff.rfl
theorem takeD_nil : takeD [] h = some h := rfl
theorem resL_nil {fr : Fr} : resL P fr h [] = some [] := rfl
theorem resL_cons {fr : Fr} {r : ResultVar} {rs : List ResultVar} : resL P fr h (r :: rs) = (res1 P fr h r).bind fun v => (resL P fr h rs).map fun l => v :: l := rfl
theorem res1_tmp {fr : Fr} {t : Nat} : res1 P fr h (.tmp t) = get fr t := rfl
theorem res1_cell {fr : Fr} {t : Nat} {a : TypeId} : res1 P fr h (.cell t a) = (get fr t).bind fun v => aLoad P a v h := rfl
theorem get_cons {k t : Nat} {v : Value} {r : Fr} : get ((k, v) :: r) t = if k = t then some v else get r t := rfl
theorem keep_nil {fr : Fr} : keep [] fr = [] := rfl
def consO (t : Nat) (o : Option Value) (r : Fr) : Fr := match o with | some v => (t, v) :: r | none => r
theorem consO_some {t : Nat} {v : Value} {r : Fr} : consO t (some v) r = (t, v) :: r := rfl
theorem consO_none {t : Nat} {r : Fr} : consO t none r = r := rfl
theorem keep_cons {t : Nat} {L : List Nat} {fr : Fr} : keep (t :: L) fr = consO t (get fr t) (keep L fr) := by
  unfold keep; rw [List.filterMap_cons]; cases get fr t <;> rfl
theorem get_nil {t : Nat} : get [] t = none := rfl
theorem cells_agg {cs : Array Value} : (Value.agg cs).cells = cs := rfl
theorem cells_int {k : IntKind} {n : Int} : (Value.int k n).cells = #[.int k n] := rfl
theorem cells_bool {b : Bool} : (Value.bool b).cells = #[.bool b] := rfl
theorem cells_str {b : ByteArray} : (Value.string b).cells = #[.string b] := rfl
theorem cells_ptr {b : Option Addr} : (Value.pointer b).cells = #[.pointer b] := rfl
theorem cells_slice {b : Option Addr} {l c : Nat} : (Value.slice b l c).cells = #[.slice b l c] := rfl
theorem cells_func {f : Fn} {x y : Array Value} : (Value.func f x y).cells = #[.func f x y] := rfl
theorem nw_eq {e : Nat} {cs : List Value} {K : Value → H → Prop} : Nw e cs h K = K (.pointer (some ⟨h.length, 0, none⟩)) (h ++ [.cells true e cs]) := propext Iff.rfl

/-! blocks -/
theorem rd_cells {b o : Nat} {own : Bool} {e : Nat} {cs : List Value} (hb : h[b]? = some (.cells own e cs)) : rd h b o = cs[o]? := by unfold rd; rw [hb]
theorem rdN_blk {b : Nat} {own : Bool} {e : Nat} {cs : List Value} (hb : h[b]? = some (.cells own e cs)) : ∀ (n o : Nat), o + n ≤ cs.length → rdN h b o n = some ((cs.drop o).take n)
  | 0, o, _ => by simp [rdN]
  | n + 1, o, hn => by
    have ho : o < cs.length := by omega
    simp only [rdN, rd_cells hb, rdN_blk hb n (o + 1) (by omega), List.getElem?_eq_getElem ho]
    congr 1
    rw [List.drop_eq_getElem_cons ho, List.take_succ_cons]
theorem get_app {b : Nat} {ob : Ob} {t : H} (hb : h[b]? = some ob) : (h ++ t)[b]? = some ob := by
  rw [List.getElem?_append_left (lt_of_some hb)]; exact hb
theorem get_last {ob : Ob} : (h ++ [ob])[h.length]? = some ob := by simp
theorem set_ne {b j : Nat} {ob x : Ob} (hb : h[b]? = some ob) (hne : b ≠ j) : (h.set j x)[b]? = some ob := by
  rw [List.getElem?_set_ne (fun e => hne e.symm)]; exact hb
theorem set_same {b : Nat} {ob x : Ob} (hb : h[b]? = some ob) : (h.set b x)[b]? = some x := by
  rw [List.getElem?_set_self (lt_of_some hb)]
theorem wr_cells {b o e : Nat} {cs vs : List Value} (hb : h[b]? = some (.cells true e cs)) (hl : o + vs.length ≤ cs.length) (hv : vs.all oneC = true) : wr h b o vs = some (h.set b (.cells true e (over cs o vs))) := by
  unfold wr
  split
  · rename_i h1
    have hlt := lt_of_some hb
    have : over cs o [] = cs := by simp [over]
    rw [this]
    congr 1
    apply List.ext_getElem?
    intro j
    by_cases hj : b = j
    · subst hj; rw [List.getElem?_set_self hlt, hb]
    · rw [List.getElem?_set_ne hj]
  · rw [hb]; simp only; rw [if_pos ⟨hl, hv⟩]
theorem over_all {cs vs : List Value} (h : vs.length = cs.length) : over cs 0 vs = vs := by simp [over, h]
theorem over_one {cs : List Value} {o : Nat} {v : Value} (h : o < cs.length) : over cs o [v] = cs.set o v := by
  simp only [over, List.length_cons, List.length_nil, Nat.zero_add]
  rw [List.set_eq_take_append_cons_drop, if_pos h]; simp

/-! a slice that reads as cells -/
def Sl (h : H) (s : Nat) (v : Value) (cs : List Value) : Prop :=
  ∃ ad n c, v = .slice ad n c ∧ n ≤ c ∧ cs.length = n * s ∧ (ad = none → c = 0) ∧ (n = 0 ∨ ∃ b o own e cs0, ad = some ⟨b, o, none⟩ ∧ h[b]? = some (.cells own e cs0) ∧ eS e = s ∧ (cs0.drop o).take (n * s) = cs)
theorem Sl.app {s : Nat} {v : Value} {cs : List Value} (S : Sl h s v cs) (t : H) : Sl (h ++ t) s v cs := by
  obtain ⟨ad, n, c, h1, h2, h3, h5, h4⟩ := S
  refine ⟨ad, n, c, h1, h2, h3, h5, h4.imp id ?_⟩
  rintro ⟨b, o, own, e, cs0, a1, a2, a3⟩
  exact ⟨b, o, own, e, cs0, a1, get_app a2, a3⟩
theorem Sl.nil {s : Nat} : Sl h s (.slice none 0 0) [] := ⟨none, 0, 0, rfl, Nat.le_refl _, by simp, fun _ => rfl, .inl rfl⟩
theorem Sl.mk {s b n c o : Nat} {own : Bool} {e : Nat} {cs0 cs : List Value} (hb : h[b]? = some (.cells own e cs0)) (he : eS e = s) (hc : (cs0.drop o).take (n * s) = cs) (hl : cs.length = n * s) (hn : n ≤ c) : Sl h s (.slice (some ⟨b, o, none⟩) n c) cs :=
  ⟨_, n, c, rfl, hn, hl, (fun h => by cases h), .inr ⟨b, o, own, e, cs0, rfl, hb, he, hc⟩⟩
theorem Sl.len1 {v : Value} {cs : List Value} (S : Sl h 1 v cs) : ∃ ad c, v = .slice ad cs.length c ∧ cs.length ≤ c := by
  obtain ⟨ad, n, c, rfl, h2, h3, _⟩ := S
  have : n = cs.length := by omega
  subst this; exact ⟨ad, c, rfl, h2⟩
/-- the length -/
theorem Bnd_len1 {v : Value} {cs : List Value} {T : TypeId} {e : TypeId} (S : Sl h 1 v cs) (hT : P.underlying T = some (.slice e)) {h1 : H} {K : Value → H → Prop} (k : K (.int .i64 cs.length) h1) : Bnd2 (aBuiltin P .len #[T] [v] h1) K := by
  obtain ⟨ad, c, rfl, _⟩ := S.len1
  refine Bnd2_iff.2 ⟨_, _, ?_, k⟩
  simp [aBuiltin, hT, aLen]
/-- an element that is one cell -/
theorem Bnd_idx1 {v x : Value} {cs : List Value} {T E : TypeId} {kk : IntKind} {i : Int} (S : Sl h 1 v cs) (hT : P.underlying T = some (.slice E)) (hs : szOf P E = some 1) (hE : isAgg P E = some false) (hi : 0 ≤ i) (hx : cs[i.toNat]? = some x)
    {K : Value → Value → Prop} (k : ∀ p, K p x) : Bnd (aIndexAddr P T v (.int kk i)) fun p => Bnd (aLoad P E p h) fun y => K p y := by
  obtain ⟨ad, n, c, rfl, h2, h3, _, h4⟩ := S
  have hlt := lt_of_some hx
  rcases h4 with h4 | ⟨b, o, own, e, cs0, rfl, hb, he, hc⟩
  · omega
  · refine Bnd_i (a := .pointer (some ⟨b, o + i.toNat * 1, none⟩)) ?_ (Bnd_i (a := x) ?_ (k _))
    · simp only [aIndexAddr, hT, hs, Option.map_some]; rw [if_pos ⟨hi, by omega⟩]
    · simp only [aLoad, hE, rd_cells hb]
      subst hc
      rw [List.getElem?_take, List.getElem?_drop] at hx
      split at hx
      · simpa using hx
      · cases hx
/-- a part -/
theorem Bnd_sub1 {v : Value} {cs : List Value} {T E : TypeId} {kk kk' : IntKind} {lo hi : Option Int} {h1 : H} (S : Sl h1 1 v cs) (hT : P.underlying T = some (.slice E)) (hs : szOf P E = some 1)
    (hlo : 0 ≤ lo.getD 0) (hlh : lo.getD 0 ≤ hi.getD cs.length) (hhi : hi.getD cs.length ≤ cs.length)
    {K : Value → Prop} (k : ∀ w, Sl h1 1 w ((cs.drop (lo.getD 0).toNat).take ((hi.getD cs.length).toNat - (lo.getD 0).toNat)) → K w) : Bnd (aSlice P T v (lo.map (.int kk)) (hi.map (.int kk')) none h1) K := by
  obtain ⟨ad, n, c, rfl, h2, h3, h5, h4⟩ := S
  have hn : n = cs.length := by omega
  subst hn
  have e1 : bnd (hi.map (.int kk')) cs.length c = some (hi.getD cs.length).toNat := by
    cases hi with
    | none => simp [bnd]
    | some i => simp only [Option.getD_some] at hlh hhi ⊢; simp only [Option.map_some, bnd]; rw [if_pos (by omega)]
  have e2 : bnd (lo.map (.int kk)) 0 (hi.getD cs.length).toNat = some (lo.getD 0).toNat := by
    cases lo with
    | none => simp [bnd]
    | some i => simp only [Option.getD_some] at hlo hlh ⊢; simp only [Option.map_some, bnd]; rw [if_pos (by omega)]
  obtain ⟨a, ha⟩ : ∃ a, (lo.getD 0).toNat = a := ⟨_, rfl⟩
  obtain ⟨b, hb⟩ : ∃ b, (hi.getD cs.length).toNat = b := ⟨_, rfl⟩
  rw [ha] at e2; rw [hb] at e1 e2
  rw [ha, hb] at k
  have hab : a ≤ b := by omega
  have hbl : b ≤ cs.length := by omega
  have hlen : ((cs.drop a).take (b - a)).length = b - a := by simp; omega
  have hm : bnd none c c = some c := rfl
  simp only [aSlice, hT, hs, Option.bind_some, hm, e1, e2]
  rw [if_pos ⟨by omega, fun h => by cases h⟩]
  cases ad with
  | none =>
    have := h5 rfl
    refine k _ ⟨none, b - a, c - a, rfl, by omega, by omega, fun _ => by omega, .inl (by omega)⟩
  | some ad =>
    simp only
    by_cases ha0 : a = 0
    · subst ha0
      simp only [if_true]
      refine k _ ⟨some ad, b, c, rfl, by omega, by omega, (fun h => by cases h), ?_⟩
      rcases h4 with h4 | ⟨b', o, own, e, cs0, q1, q2, q3, q4⟩
      · left; omega
      · by_cases hb0 : b = 0
        · exact .inl hb0
        · right
          refine ⟨b', o, own, e, cs0, q1, q2, q3, ?_⟩
          conv => rhs; rw [← q4]
          rw [List.drop_zero, List.take_take, Nat.mul_one, Nat.mul_one]
          congr 1
          omega
    · rw [if_neg ha0]
      by_cases hca : c = a
      · rw [if_pos hca]
        refine k _ ⟨_, 0, 0, rfl, by omega, by omega, (fun h => by cases h), .inl rfl⟩
      · rw [if_neg hca]
        rcases h4 with h4 | ⟨b', o, own, e, cs0, q1, q2, q3, q4⟩
        · omega
        · cases q1
          rw [show eOf h1 b' = some 1 from by unfold eOf; rw [q2]; simp [q3]]
          simp only [if_true]
          refine k _ ⟨_, b - a, c - a, rfl, by omega, by omega, (fun h => by cases h), .inr ⟨b', o + a * 1, own, e, cs0, rfl, q2, q3, ?_⟩⟩
          conv => rhs; rw [← q4]
          rw [List.drop_take, List.take_take, List.drop_drop, Nat.mul_one, Nat.mul_one, Nat.mul_one]
          congr 1
          omega
end Go.Ev
namespace Go.Ev
variable {P : Program} {n0 : Nat} {h h' : H}
theorem cvt_int {S D : TypeId} {k K : IntKind} {n : Int} (h1 : (P.underlying S).isSome = true) (h2 : P.underlying D = some (.int K)) : cvt P S D (.int k n) h = some (.int K (K.wrap n), h) := by
  obtain ⟨d, hd⟩ := Option.isSome_iff_exists.1 h1
  simp only [cvt, aConvert, hd, h2]
  cases d <;> simp
theorem cvt_sb {S D E : TypeId} {s : ByteArray} (h1 : P.underlying S = some .string) (h2 : P.underlying D = some (.slice E)) (h3 : P.underlying E = some (.int .u8)) :
    cvt P S D (.string s) h = some (.slice (some ⟨h.length, 0, none⟩) s.size s.size, h ++ [.cells true (enc 1 E) (bytesOfStr s)]) := by
  simp only [cvt, aConvert, h1, h2, h3]
theorem ix_str {T : TypeId} {s : ByteArray} {k : IntKind} {i : Int} (h1 : P.underlying T = some .string) : aIndex P T (.string s) (.int k i) = if 0 ≤ i then (s[i.toNat]?).map fun b => .int .u8 b.toNat else none := by
  simp only [aIndex, h1]
  split <;> cases s[i.toNat]? <;> rfl
end Go.Ev
namespace Go.Ev
variable {P : Program} {n0 : Nat} {h h' : H}
theorem wr_last {e o : Nat} {cs vs : List Value} (hc : (decide (o + vs.length ≤ cs.length) && vs.all oneC) = true) : wr (h ++ [.cells true e cs]) h.length o vs = some (h ++ [.cells true e (over cs o vs)]) := by
  simp only [Bool.and_eq_true, decide_eq_true_eq] at hc
  rw [wr_cells (e := e) (cs := cs) (by simp) hc.1 hc.2]
  congr 1
  rw [List.set_append_right _ _ (Nat.le_refl _)]; simp
theorem rd_last {e o : Nat} {own : Bool} {cs : List Value} : rd (h ++ [.cells own e cs]) h.length o = cs[o]? := rd_cells (own := own) (e := e) (by simp)
theorem rdN_last {e o n : Nat} {own : Bool} {cs : List Value} (hc : decide (o + n ≤ cs.length) = true) : rdN (h ++ [.cells own e cs]) h.length o n = some ((cs.drop o).take n) := rdN_blk (own := own) (e := e) (by simp) _ _ (of_decide_eq_true hc)
theorem over_eq {cs vs : List Value} (h : decide (vs.length = cs.length) = true) : over cs 0 vs = vs := over_all (of_decide_eq_true h)
theorem over_def {cs : List Value} {o : Nat} {vs : List Value} : over cs o vs = cs.take o ++ vs ++ cs.drop (o + vs.length) := rfl
theorem tup1 {v : Value} : tup [v] = v := rfl
theorem tup2 {v u : Value} {l : List Value} : tup (v :: u :: l) = .tuple (v :: u :: l).toArray := rfl
end Go.Ev
/-! bits -/
namespace Go.Ev
theorem ofInt_nat (w n : Nat) : BitVec.ofInt w (n : Int) = BitVec.ofNat w n := by
  apply BitVec.eq_of_toNat_eq
  rw [BitVec.toNat_ofInt, BitVec.toNat_ofNat]
  have : ((n : Int) % ((2 ^ w : Nat) : Int)).toNat = n % 2 ^ w := by rw [← Int.natCast_emod]; exact Int.toNat_natCast _
  exact this
theorem iAnd_u8 {a b : Nat} (ha : a < 256) (hb : b < 256) : iAnd .u8 a b = ((a &&& b : Nat) : Int) := by
  have : a &&& b < 2 ^ 8 := Nat.and_lt_two_pow _ (by omega)
  unfold iAnd
  rw [ofInt_nat, ofInt_nat, BitVec.toNat_and, BitVec.toNat_ofNat, BitVec.toNat_ofNat]
  simp only [IntKind.bits]
  rw [Nat.mod_eq_of_lt (by omega), Nat.mod_eq_of_lt (by omega), IntWalk.u8_in _ (by omega)]
theorem iOr_u64 {a b : Nat} (ha : a < 2 ^ 64) (hb : b < 2 ^ 64) : iOr .u64 a b = ((a ||| b : Nat) : Int) := by
  have : a ||| b < 2 ^ 64 := Nat.or_lt_two_pow (by omega) (by omega)
  unfold iOr
  rw [ofInt_nat, ofInt_nat, BitVec.toNat_or, BitVec.toNat_ofNat, BitVec.toNat_ofNat]
  simp only [IntKind.bits]
  rw [Nat.mod_eq_of_lt (by omega), Nat.mod_eq_of_lt (by omega), IntWalk.u64_in _ (by omega)]
theorem or_shl {a b : Nat} {i : Nat} (hb : b < 2 ^ i) : (2 ^ i * a) ||| b = 2 ^ i * a + b := by
  rw [← Nat.two_pow_add_eq_or_of_lt hb]
theorem byte_all {p : Nat → Bool} (h : (List.range 256).all p = true) : ∀ n, n < 256 → p n = true := fun n hn => List.all_eq_true.1 h n (List.mem_range.2 hn)
theorem u8_lt (x : UInt8) : x.toNat < 256 := x.toNat_lt
end Go.Ev
namespace Go.Ev
def bv (x : UInt8) : Value := .int .u8 x.toNat
theorem Sl.lenB {h : H} {v : Value} {l : List UInt8} (S : Sl h 1 v (l.map bv)) : ∃ ad c, v = .slice ad l.length c ∧ l.length ≤ c := by
  obtain ⟨ad, c, h1, h2⟩ := S.len1
  rw [List.length_map] at h1 h2
  exact ⟨ad, c, h1, h2⟩
theorem getBv {l : List UInt8} {i : Nat} (hi : i < l.length) : (l.map bv)[i]? = some (.int .u8 (l.getD i 0).toNat) := by
  rw [List.getElem?_map, List.getElem?_eq_getElem hi]; simp [bv, List.getD_eq_getElem?_getD, List.getElem?_eq_getElem hi]
end Go.Ev
/-! older blocks -/
namespace Go.Ev
variable {P : Program} {n0 : Nat} {h h' : H}
def isCells (h : H) (j : Nat) : Bool := match h[j]? with | some (.cells ..) => true | _ => false
theorem isC_last {own : Bool} {e : Nat} {cs : List Value} : isCells (h ++ [.cells own e cs]) h.length = true := by unfold isCells; simp
theorem isC_app {j : Nat} {ob : Ob} (hj : isCells h j = true) : isCells (h ++ [ob]) j = true := by
  unfold isCells at hj ⊢
  split at hj
  · rename_i hx; rw [get_app hx]
  · cases hj
theorem isC_of {j : Nat} {own : Bool} {e : Nat} {cs : List Value} (hj : h[j]? = some (.cells own e cs)) : isCells h j = true := by unfold isCells; rw [hj]
theorem isC_iff {j : Nat} (hj : isCells h j = true) : ∃ own e cs, h[j]? = some (.cells own e cs) := by
  unfold isCells at hj
  split at hj
  · rename_i hx; exact ⟨_, _, _, hx⟩
  · cases hj
theorem rd_app {j o : Nat} {ob : Ob} (hj : isCells h j = true) : rd (h ++ [ob]) j o = rd h j o := by
  obtain ⟨own, e, cs, hx⟩ := isC_iff hj
  rw [rd_cells hx, rd_cells (get_app hx)]
theorem rdN_app {j : Nat} {ob : Ob} (hj : isCells h j = true) : ∀ (n o : Nat), rdN (h ++ [ob]) j o n = rdN h j o n
  | 0, _ => rfl
  | n + 1, o => by simp only [rdN, rd_app hj, rdN_app hj n]
theorem wr_app {j o : Nat} {vs : List Value} {ob : Ob} (hj : isCells h j = true) : wr (h ++ [ob]) j o vs = (wr h j o vs).map fun x => x ++ [ob] := by
  obtain ⟨own, e, cs, hx⟩ := isC_iff hj
  have hlt := lt_of_some hx
  cases vs with
  | nil => rfl
  | cons v r =>
    cases own with
    | false => simp only [wr, hx, get_app hx, Option.map_none]
    | true =>
      simp only [wr, hx, get_app hx]
      split
      · rw [Option.map_some, List.set_append_left _ _ hlt]
      · rfl
theorem over_set {cs : List Value} {o : Nat} {v : Value} (h : decide (o < cs.length) = true) : over cs o [v] = cs.set o v := over_one (of_decide_eq_true h)
/-- everything that was there is there -/
def Ext (h h' : H) : Prop := ∀ (b : Nat) (ob : Ob), h[b]? = some ob → h'[b]? = some ob
theorem Ext.refl (h : H) : Ext h h := fun _ _ e => e
theorem Ext.app (h t : H) : Ext h (h ++ t) := fun _ _ e => get_app e
theorem Ext.trans {a b c : H} (x : Ext a b) (y : Ext b c) : Ext a c := fun i ob e => y i ob (x i ob e)
theorem Sl.ext {s : Nat} {v : Value} {cs : List Value} (S : Sl h s v cs) (x : Ext h h') : Sl h' s v cs := by
  obtain ⟨ad, n, c, h1, h2, h3, h5, h4⟩ := S
  refine ⟨ad, n, c, h1, h2, h3, h5, h4.imp id ?_⟩
  rintro ⟨b, o, own, e, cs0, a1, a2, a3⟩
  exact ⟨b, o, own, e, cs0, a1, x _ _ a2, a3⟩
/-- an element that is one cell, read now and later -/
theorem Bnd_idx {v x : Value} {cs : List Value} {T E : TypeId} {kk : IntKind} {i : Int} (S : Sl h 1 v cs) (hT : P.underlying T = some (.slice E)) (hs : szOf P E = some 1) (hE : isAgg P E = some false) (hi : 0 ≤ i) (hx : cs[i.toNat]? = some x)
    {K : Value → Value → Prop} (k : ∀ p, (∀ h', Ext h h' → aLoad P E p h' = some x) → K p x) : Bnd (aIndexAddr P T v (.int kk i)) fun p => Bnd (aLoad P E p h) fun y => K p y := by
  obtain ⟨ad, n, c, rfl, h2, h3, _, h4⟩ := S
  have hlt := lt_of_some hx
  rcases h4 with h4 | ⟨b, o, own, e, cs0, rfl, hb, he, hc⟩
  · omega
  · have key : ∀ h', Ext h h' → aLoad P E (.pointer (some ⟨b, o + i.toNat * 1, none⟩)) h' = some x := by
      intro h' hx'
      simp only [aLoad, hE, rd_cells (hx' _ _ hb)]
      subst hc
      rw [List.getElem?_take, List.getElem?_drop] at hx
      split at hx
      · simpa using hx
      · cases hx
    refine Bnd_i (a := .pointer (some ⟨b, o + i.toNat * 1, none⟩)) ?_ (Bnd_i (a := x) (key _ (Ext.refl _)) (k _ key))
    simp only [aIndexAddr, hT, hs, Option.map_some]; rw [if_pos ⟨hi, by omega⟩]
theorem Sm_i {o : Option Value} {v : Value} {A : Prop} (e : o = some v) (a : A) : Sm o v A := ⟨e, a⟩
theorem sm_self {v : Value} {A : Prop} : Sm (some v) v A = A := by simp [Sm]
theorem sm_some {v u : Value} {A : Prop} : Sm (some v) u A = (v = u ∧ A) := by simp [Sm]
theorem min2 {t : Array TypeId} {k k' : IntKind} {a b : Int} : aBuiltin P .min t [.int k a, .int k' b] h = some (.int k (if b < a then b else a), h) := by
  simp [aBuiltin, fold2, aMin2]
theorem max2 {t : Array TypeId} {k k' : IntKind} {a b : Int} : aBuiltin P .max t [.int k a, .int k' b] h = some (.int k (if b > a then b else a), h) := by
  simp [aBuiltin, fold2, aMax2]
end Go.Ev
/-! made, appended -/
namespace Go.Ev
variable {P : Program} {n0 : Nat} {h h' : H}
theorem repl_one (z : Value) : ∀ n, repl n [z] = List.replicate n z
  | 0 => rfl
  | n + 1 => by simp [repl, repl_one z n, List.replicate_succ]
theorem mk1 {T E : TypeId} {k k' : IntKind} {l c : Int} {z : Value} {by' : Nat} (hT : elOf P T = some E) (hs : szOf P E = some 1) (hz : zeroOf P E = some z) (hb : bytesOf P E = some by') (hzl : z.cells.toList = [z]) (hzi : isLit z = true) (h1 : 0 ≤ l) (h2 : l ≤ c) (h3 : (by' : Int) * c ≤ 2 ^ 48) (h4 : c < 2 ^ 63) :
    aMakeSlice P T (.int k l) (.int k' c) h = some (.slice (some ⟨h.length, 0, none⟩) l.toNat c.toNat, h ++ [.cells true (enc 1 E) (List.replicate c.toNat z)]) := by
  simp only [aMakeSlice, hT, hs, hz, hb]
  have e1 : z.cells.size = 1 := by have := congrArg List.length hzl; simpa using this
  rw [if_pos ⟨by omega, h1, h2, by omega, h4, e1, by rw [hzl]; simp [hzi]⟩, hzl, repl_one]
theorem rdN_sl {s : Nat} {v : Value} {cs : List Value} (S : Sl h s v cs) : srcCells s v h = some (match v with | .slice _ n _ => n | _ => 0, cs) := by
  obtain ⟨ad, n, c, rfl, h2, h3, h5, h4⟩ := S
  rcases h4 with rfl | ⟨b, o, own, e, cs0, rfl, hb, he, hc⟩
  · have : cs = [] := by apply List.length_eq_zero_iff.1; omega
    subst this
    cases ad <;> simp [srcCells]
  · by_cases hn : n = 0
    · subst hn
      have : cs = [] := by apply List.length_eq_zero_iff.1; omega
      subst this; simp [srcCells]
    · simp only [srcCells]
      rw [if_neg hn]
      by_cases hs : n * s = 0
      · have : cs = [] := by apply List.length_eq_zero_iff.1; omega
        subst this
        simp [hs, rdN]
      · have hl : o + n * s ≤ cs0.length := by
          have := congrArg List.length hc
          rw [List.length_take, List.length_drop, h3] at this
          omega
        rw [rdN_blk hb _ _ hl, hc]; simp
theorem src1 {v : Value} {cs : List Value} (S : Sl h 1 v cs) : srcCells 1 v h = some (cs.length, cs) := by
  rw [rdN_sl S]
  obtain ⟨ad, c, rfl, _⟩ := S.len1; rfl
theorem set_id {b : Nat} {x : Ob} (hb : h[b]? = some x) : h.set b x = h := by
  apply List.ext_getElem?
  intro j
  by_cases hj : b = j
  · subst hj; rw [List.getElem?_set_self (lt_of_some hb), hb]
  · rw [List.getElem?_set_ne hj]
theorem over_nil {cs : List Value} {o : Nat} : over cs o [] = cs := by simp [over]
/-- cells laid on within the capacity -/
theorem app_in1 {T E b o len cap e : Nat} {cs new : List Value} {x : Value} {z : Value} {by' : Nat} (hT : elOf P T = some E) (hs : szOf P E = some 1) (hz : zeroOf P E = some z) (hb : bytesOf P E = some by') (hzl : z.cells.size = 1)
    (src : srcCells 1 x h = some (new.length, new)) (hB : h[b]? = some (.cells true e cs)) (he : eS e = 1) (hnew : new.all oneC = true) (hl : len + new.length ≤ cap) (ho : o + len ≤ cs.length) (h1 : (len + new.length + 1024) * by' ≤ 3 * 2 ^ 46) (h2 : len + new.length < 2 ^ 63) :
    aAppend P T (.slice (some ⟨b, o, none⟩) len cap) x h = some (.slice (some ⟨b, o, none⟩) (len + new.length) cap, h.set b (.cells true e (over cs (o + len) new))) := by
  simp only [aAppend, hT, hs, hb, hz, src, Option.bind_some]
  by_cases hn : new.length = 0
  · have : new = [] := List.length_eq_zero_iff.1 hn
    subst this
    simp only [List.length_nil, Nat.add_zero, if_true] at hl ⊢
    rw [if_pos hl, over_nil, set_id hB]
  · rw [if_neg hn, if_pos ⟨by omega, h1, h2, by omega, hzl, by omega⟩]
    simp only [Option.isSome_none, Bool.false_eq_true, if_false]
    rw [if_pos hl, show eOf h b = some 1 from by unfold eOf; rw [hB]; simp [he], if_pos rfl]
    unfold wrx
    cases new with
    | nil => simp at hn
    | cons v r =>
      simp only [hB, Nat.mul_one]
      rw [if_pos ⟨ho, hnew⟩]; rfl
/-- .. onto nothing -/
theorem app_nil {T E s : Nat} {new : List Value} {n : Nat} {x : Value} {z : Value} {by' : Nat} (hT : elOf P T = some E) (hs : szOf P E = some s) (hz : zeroOf P E = some z) (hb : bytesOf P E = some by') (hzl : z.cells.size = s) (hs1 : 0 < s) (hs2 : s < 1024)
    (src : srcCells s x h = some (n, new)) (hn : 0 < n) (h1 : (n + 1024) * by' ≤ 3 * 2 ^ 46) (h2 : n < 2 ^ 63) :
    aAppend P T (.slice none 0 0) x h = some (.slice (some ⟨h.length, 0, none⟩) n n, h ++ [.cells true (enc s E) new]) := by
  simp only [aAppend, hT, hs, hb, hz, src, Option.bind_some, Nat.zero_add]
  rw [if_neg (by omega), if_pos ⟨hs2, h1, h2, hs1, hzl, Nat.le_refl _⟩]
  simp
/-- .. onto a full one that begins at its block's begin -/
theorem app_full {T E s b len e : Nat} {cs new : List Value} {n : Nat} {x : Value} {z : Value} {by' : Nat} (hT : elOf P T = some E) (hs : szOf P E = some s) (hz : zeroOf P E = some z) (hb : bytesOf P E = some by') (hzl : z.cells.size = s) (hs1 : 0 < s) (hs2 : s < 1024)
    (src : srcCells s x h = some (n, new)) (hn : 0 < n) (hB : h[b]? = some (.cells true (enc s E) cs)) (hcs : cs.length = len * s) (hnew : new.all oneC = true) (h1 : (len + n + 1024) * by' ≤ 3 * 2 ^ 46) (h2 : len + n < 2 ^ 63) :
    aAppend P T (.slice (some ⟨b, 0, none⟩) len len) x h = some (.slice (some ⟨h.length, 0, none⟩) (len + n) (len + n), h.set b (.old (enc s E) cs h.length) ++ [.cells true (enc s E) (cs ++ new)]) := by
  simp only [aAppend, hT, hs, hb, hz, src, Option.bind_some]
  rw [if_neg (by omega), if_pos ⟨hs2, h1, h2, hs1, hzl, by omega⟩]
  simp only [Option.isSome_none, Bool.false_eq_true, if_false, if_true]
  rw [if_neg (by omega), hB]
  simp only
  have hes : eS (enc s E) = s := by unfold eS enc; omega
  rw [if_pos ⟨by omega, hes, hnew⟩, List.take_of_length_le (by omega)]
  simp
theorem sl_own {T E b o n c : Nat} {k : IntKind} {m : Int} {s : Nat} (hT : P.underlying T = some (.slice E)) (hs : szOf P E = some s) (h0 : 0 ≤ m) (h1 : m ≤ c) :
    aSlice P T (.slice (some ⟨b, o, none⟩) n c) none (some (.int k m)) none h = some (.slice (some ⟨b, o, none⟩) m.toNat c) := by
  simp only [aSlice, hT, hs, Option.bind_some, bnd]
  rw [if_pos ⟨h0, h1⟩]
  simp only [Option.bind_some]
  rw [if_pos ⟨by omega, fun h => by cases h⟩]
  rfl
theorem set_last {x y : Ob} : (h ++ [x]).set h.length y = h ++ [y] := by rw [List.set_append_right _ _ (Nat.le_refl _)]; simp
theorem set_app {x y : Ob} {j : Nat} (hj : isCells h j = true) : (h ++ [x]).set j y = h.set j y ++ [x] := by
  obtain ⟨own, e, cs, hx⟩ := isC_iff hj
  rw [List.set_append_left _ _ (lt_of_some hx)]
theorem bv_oneC (l : List UInt8) : (l.map bv).all oneC = true := by simp [List.all_eq_true, bv, oneC]
theorem eS_enc' {s t : Nat} (h : s < 1024) : eS (enc s t) = s := by unfold eS enc; omega
end Go.Ev
namespace Go.Ev
theorem Bnd2_i {α β : Type} {o : Option (α × β)} {a : α} {b : β} {K : α → β → Prop} (e : o = some (a, b)) (k : K a b) : Bnd2 o K := by subst e; exact k
end Go.Ev
/-! a new box, filled at once -/
namespace Go.Ev
variable {P : Program} {n0 : Nat} {h h' : H}
theorem NwSt {T e n : Nat} {cs : List Value} {v : Value} {K : Value → H → Prop} (hs : szOf P T = some n) (hcs : decide (cs.length = n) = true) (hv : (decide (v.cells.size = n) && v.cells.toList.all oneC) = true)
    (k : ∀ p h', Ext h h' → h'[p]? = some (.cells true e v.cells.toList) → K (.pointer (some ⟨p, 0, none⟩)) h') : Nw e cs h fun p h1 => Bnd (aStore P T p v h1) fun h2 => K p h2 := by
  simp only [Bool.and_eq_true, decide_eq_true_eq] at hv hcs
  have hl : v.cells.toList.length = n := by rw [Array.length_toList]; exact hv.1
  unfold Nw
  refine Bnd_i (a := h ++ [.cells true e v.cells.toList]) ?_ (k _ _ (Ext.app _ _) get_last)
  simp only [aStore, hs, Option.bind_some]
  rw [if_pos hv.1, wr_last (by simp only [Bool.and_eq_true, decide_eq_true_eq]; exact ⟨by omega, hv.2⟩), over_all (by omega)]
theorem rd_blk0 {b n : Nat} {own : Bool} {e : Nat} {cs : List Value} (hb : h[b]? = some (.cells own e cs)) (hl : decide (cs.length = n) = true) : rdN h b 0 n = some cs := by
  have := of_decide_eq_true hl
  rw [rdN_blk hb n 0 (by omega), List.drop_zero, List.take_of_length_le (by omega)]
end Go.Ev
