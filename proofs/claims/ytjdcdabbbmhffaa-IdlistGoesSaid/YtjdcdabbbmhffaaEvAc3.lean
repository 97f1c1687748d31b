/- A part of the proof that what the evaluator of YtjdcdabbbmhffaaEvCore answers, the call answers in the model. No condition. -/
import Derived.Test.YtjdcdabbbmhffaaEvAc2
set_option linter.unusedVariables false
set_option linter.unusedSimpArgs false
namespace Go.Ev
/-! words of the printed texts -/
def Bnd2 {α β : Type} (o : Option (α × β)) (K : α → β → Prop) : Prop := Bnd o fun r => K r.1 r.2
def Nw (e : Nat) (cs : List Value) (h : H) (K : Value → H → Prop) : Prop := K (.pointer (some ⟨h.length, 0, none⟩)) (h ++ [.cells true e cs])
def zc (P : Program) (t : TypeId) : List Value := match zeroOf P t with | some z => z.cells.toList | none => []
def clL (v : Value) : List Value := v.cells.toList
theorem Bnd2_some {α β : Type} {a : α} {b : β} {K : α → β → Prop} : Bnd2 (some (a, b)) K = K a b := propext Iff.rfl
theorem Bnd2_congr {α β : Type} {o o' : Option (α × β)} {K : α → β → Prop} (e : o = o') : Bnd2 o K = Bnd2 o' K := by rw [e]
theorem Bnd2_iff {α β : Type} {o : Option (α × β)} {K : α → β → Prop} : Bnd2 o K ↔ ∃ a b, o = some (a, b) ∧ K a b := by
  unfold Bnd2; rw [Bnd_iff]; exact ⟨fun ⟨r, e, k⟩ => ⟨r.1, r.2, e, k⟩, fun ⟨a, b, e, k⟩ => ⟨(a, b), e, k⟩⟩
theorem Sm_congr {o o' : Option Value} {v : Value} {A : Prop} (e : o = o') : Sm o v A = Sm o' v A := by rw [e]
theorem wchain {W W' : WP} {fr : Fr} {ds : List Nat} {h : H} {K : KP} {T : Prop} (s : W = W') (g : W' fr ds h K = T) : W fr ds h K = T := by subst s; exact g
theorem wback {W W' : WP} {fr : Fr} {ds : List Nat} {h : H} {K : KP} (s : W = W') (g : W fr ds h K) : W' fr ds h K := by subst s; exact g
theorem monoW_of {W W' : WP} (s : W = W') (g : MonoW W') : MonoW W := by subst s; exact g
theorem mono_c {P : Program} {n0 nt : Nat} {ro : Option Nat} {c : AC} {W : WP} (e : W = wA P n0 nt ro c) (h : c.ok = true) : MonoW W := by subst e; exact wA_mono c h
theorem fn_enter {P : Program} {n0 : Nat} (hm : P.follows .mixedOrders = true) {f : FuncId} {fn : Func} {a : AC} {args : List Value} {h : H} {Q : Value → H → Prop} (hf : P.funcs[f]? = some fn) (hb : fn.body = some a.erase) (hok : a.ok = true) (hn : (fn.name == "runtime.NumGoroutine") = false)
    {nt : Nat} (hnt : fn.ntmps = nt) {rs : List ResultVar} (hrs : fn.results.toList = rs) (hl : args.length ≤ nt) (fr : Fr) (hfr : argFr 0 args = fr) (w : wA P n0 nt none a fr [] h (KFin P rs Q)) : Cn P n0 (.func f) args h Q := by
  subst hnt; subst hrs; subst hfr; exact Cn_fn hm hf hb hok hn hl w
def bodyOf (fn : Func) : Code := match fn.body with | some c => c | none => .skip
def AC.rfAs : AC → Code | .rangeFunc _ _ _ a _ => a | _ => .skip
def AC.rfBd : AC → Code | .rangeFunc _ _ _ _ b => b | _ => .skip
end Go.Ev
