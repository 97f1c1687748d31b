/- What the evaluator answers, the call answers in the model (ev_callOk). -/
import Derived.Test.YtjdcdabbbmhffaaEvSound
import Derived.Laws.Externs
import Derived.Lib.MakeNoZero
set_option linter.unusedVariables false
set_option linter.unusedSimpArgs false
namespace Go.Ev
open Go.RowKit (Below)
variable {P : Program} {D : List Deferred} {rr : Option Nat} {n0 : Nat}

theorem takeD_sound {fn : Func} {tmps : Array Value} {R' : Ending → World → Prop} : ∀ (ds : List Nat) (D : List Deferred) (ρ : Rho) (h h' : H) (w : World), MarksR ρ ds D → takeD ds h = some h' → Rel n0 ρ h w →
    (∀ w', Rel n0 ρ h' w' → Below n0 w w' → LeavesIn (Wf none) 0 P fn tmps R' [] .returning w') → LeavesInM (Wf none) 0 P fn tmps R' D .returning w
  | [], [], ρ, h, h', w, _, e, R, k => by simp [takeD] at e; subst e; exact k w R (Below.refl _ _)
  | d :: ds, m :: D, ρ, h, h', w, M, e, R, k => by
    obtain ⟨⟨p, hp, rfl⟩, M⟩ := M
    simp only [takeD] at e
    split at e
    · rename_i hd
      obtain ⟨_, o, ho, hor⟩ := R.obj _ _ _ hp hd rfl
      cases hor
      obtain ⟨R2, B2⟩ := R.setLoop hp hd rfl (ob' := .dead) (o' := .deferred none) (.inr rfl) rfl (fun hx => by cases hx)
      refine ⟨by simp, .inl ⟨p.b, _, rfl, run_takeDeferred ho, ?_⟩⟩
      exact takeD_sound ds D ρ _ h' _ M e R2 fun w' r b => k w' r (B2.trans b)
    · cases e
  | [], _ :: _, _, _, _, _, M, _, _, _ => M.elim
  | _ :: _, [], _, _, _, _, M, _, _, _ => M.elim

theorem putL_sound {nt : Nat} : ∀ (ts : List Tmp) (vs vs' : List Value) (ρ : Rho) (fr fr' : Fr) (tmps : Array Value), putL nt ts vs fr = some fr' → VRs ρ vs vs' → FR ρ nt [] fr ⟨tmps, []⟩ →
    FR ρ nt [] fr' ⟨(ts.zip vs').foldl (fun tmps (t, a) => tmps.setIfInBounds t a) tmps, []⟩ ∧ vs.length = ts.length
  | [], [], [], ρ, fr, fr', tmps, e, k, F => by simp [putL] at e; subst e; exact ⟨F, rfl⟩
  | t :: ts, v :: vs, v' :: vs', ρ, fr, fr', tmps, e, k, F => by
    simp only [putL] at e
    split at e
    · rename_i ht
      have F' : FR ρ nt [] (put fr t v) ⟨tmps.setIfInBounds t v', []⟩ := F.put (d := some t) (v := v) (v' := v') (by simp [putO, ht]) k.1
      obtain ⟨a, b⟩ := putL_sound ts vs vs' ρ _ fr' _ e k.2 F'
      exact ⟨by simpa using a, by simp [b]⟩
    · cases e
  | [], _ :: _, _, _, _, _, _, e, _, _ => by simp [putL] at e
  | _ :: _, [], _, _, _, _, _, e, _, _ => by simp [putL] at e
  | _ :: _, _ :: _, [], _, _, _, _, _, k, _ => k.elim
  | [], [], _ :: _, _, _, _, _, _, k, _ => k.elim

theorem endK_sound {ρ ρ0 : Rho} {h : H} {w w0 : World} {l : Nat} {p : Pl} {jump : Option Code} {v : Value} {h' : H} (hl : Le ρ0 ρ) (R : Rel n0 ρ h w) (B : Below n0 w0 w) (hp : ρ[l]? = some p) (e : endK l h jump = some (v, h')) :
    ∃ v' w', (Instr.endRound p.b jump).run P w = .ok v' w' ∧ Res n0 ρ0 w0 v h' (.returned v') w' := by
  unfold endK at e
  split at e
  · rename_i fr nt ps as bd pe d hd
    cases e
    obtain ⟨r, hr, hor⟩ := loop_obj R hp hd
    cases hor with
    | loop a1 a2 a3 a4 a5 a6 a7 a8 a9 =>
      obtain ⟨R2, B2⟩ := R.setLoop hp (loopOf_some hd) rfl (ob' := .loop fr nt ps as bd (if jump.isNone then .ready else .done) jump d)
        (o' := .loop { r with state := if jump.isNone then .ready else .done, pending := jump }) (.inl rfl) rfl (fun _ => .loop rfl rfl a3 a4 a5 a6 a7 a8 a9)
      exact ⟨_, _, run_endRound jump hr, ρ, _, rfl, hl, .lit rfl, R2, B.trans B2⟩
  · cases e

theorem evExt_run {ρ : Rho} {h : H} {w : World} {f : FuncId} {fn : Func} (hf : P.funcs[f]? = some fn) (hb : fn.body = none) (R : Rel n0 ρ h w) {args args' : List Value} {v : Value} {h' : H} (e : evExt P fn args h = some (v, h')) (k : VRs ρ args args') :
    ∃ v' w', (callFunc f args'.toArray).run P w = .ok (.value v') w' ∧ After n0 ρ w v h' v' w' := by
  unfold evExt at e
  split at e
  rotate_left
  · cases e
  rename_i ho
  have go : ∀ {nm : String} {E : Array Value → Sem Value}, fn.name = nm → (nm == "runtime.NumGoroutine") = false → (Extern.allNextRows.lookup nm).isNone = true → (Extern.allNextRows.lookup "").isNone = true →
      (Extern.allGenericRows.lookup nm).isNone = true → ((Extern.allTypedRows.lookup nm).map (· fn.params fn.resultTypes) <|> Extern.allRows.lookup nm) = some E → ∀ {v' w'}, (E args'.toArray).run P w = .ok v' w' →
      (callFunc f args'.toArray).run P w = .ok (.value v') w' := by
    intro nm E h1 h2 h3 h3' h4 h5 v' w' hr
    have hn : Extern.findNext fn = none := by
      unfold Extern.findNext
      rw [h1, ho]
      simp only [Option.isNone_iff_eq_none] at h3 h3'
      simp [h3, h3']
    have hfind : Extern.find fn = some E := by
      unfold Extern.find
      rw [h1]
      simp only [Option.isNone_iff_eq_none] at h4
      change (((Extern.allGenericRows.lookup nm).map (· fn.targs fn.params fn.resultTypes) <|> (Extern.allTypedRows.lookup nm).map (· fn.params fn.resultTypes) <|> Extern.allRows.lookup nm) <|> _) = some E
      rw [show ((Extern.allGenericRows.lookup nm).map (· fn.targs fn.params fn.resultTypes) <|> (Extern.allTypedRows.lookup nm).map (· fn.params fn.resultTypes) <|> Extern.allRows.lookup nm) = some E from by rw [h4]; exact h5]
      rfl
    rw [run_callFunc_extern hf (by rw [h1]; exact h2) (by simp [hb]) hn hfind, hr]
    rfl
  have e0 : (Extern.allNextRows.lookup "").isNone = true := by kernel_rfl
  split at e
  · rename_i hname
    split at e
    · rename_i x
      cases e
      cases args' with
      | nil => exact k.elim
      | cons x' r => cases r with
        | cons _ _ => exact k.2.elim
        | nil =>
          exact ⟨x', w, go hname (by decide) (by kernel_rfl) e0 (by kernel_rfl) (E := Extern.AbiNoEscape.same) (by kernel_rfl) rfl, ρ, Le.refl _, k.1, R, Below.refl _ _⟩
    · cases e
  · split at e
    · rename_i hname
      split at e
      · rename_i s c
        simp only [force_eq, Option.some.injEq, Prod.mk.injEq] at e
        obtain ⟨rfl, rfl⟩ := e
        cases args' with
        | nil => exact k.elim
        | cons x' r => cases r with
          | nil => exact k.2.elim
          | cons y' r => cases r with
            | cons _ _ => exact k.2.2.elim
            | nil =>
              have hx := (VR.lit_iff rfl).1 k.1; subst hx
              have hy := (VR.lit_iff rfl).1 k.2.1; subst hy
              exact ⟨_, w, go hname (by decide) (by kernel_rfl) e0 (by kernel_rfl) (E := Extern.BytealgIndexByte.indexByte) (by kernel_rfl) (Lib.run_indexByteString s c w), ρ, Le.refl _, .lit rfl, R, Below.refl _ _⟩
      · cases e
    · split at e
      · rename_i hname
        split at e
        · rename_i s c
          simp only [force_eq, Option.some.injEq, Prod.mk.injEq] at e
          obtain ⟨rfl, rfl⟩ := e
          cases args' with
          | nil => exact k.elim
          | cons x' r => cases r with
            | nil => exact k.2.elim
            | cons y' r => cases r with
              | cons _ _ => exact k.2.2.elim
              | nil =>
                have hx := (VR.lit_iff rfl).1 k.1; subst hx
                have hy := (VR.lit_iff rfl).1 k.2.1; subst hy
                exact ⟨_, w, go hname (by decide) (by kernel_rfl) e0 (by kernel_rfl) (E := Extern.BytealgCompare.compare) (by kernel_rfl) (v' := .int .i64 (Extern.BytealgCompare.cmp s c)) (w' := w) rfl, ρ, Le.refl _, .lit rfl, R, Below.refl _ _⟩
        · cases e
      · split at e
        · rename_i hname
          split at e
          · rename_i n t hrt
            split at e
            · rename_i el hel
              split at e
              · rename_i hn
                cases e
                cases args' with
                | nil => exact k.elim
                | cons x' r => cases r with
                  | cons _ _ => exact k.2.elim
                  | nil =>
                    have hx := (VR.lit_iff rfl).1 k.1; subst hx
                    obtain ⟨cs, q1, q2, _⟩ := Lib.run_makeNoZero w fn.params t el (elOf_und hel) n.toNat (by omega)
                    have hcast : ((n.toNat : Nat) : Int) = n := by omega
                    rw [hcast] at q1
                    obtain ⟨ρ', g1, g2, g3, g4⟩ := new_block (fr := (0, 0)) (el := el) R (Q := ⟨(Pushed.drewAlloc w (.cells cs el)).size, (Pushed.drewAlloc w (.cells cs el)).old, (Pushed.drewAlloc w (.cells cs el)).new, rfl, rfl, rfl⟩) (w' := w.drew.drew.alloc (.cells cs el)) (enc 1 el) (cs := []) (c := cs) (fun j v ej => by simp at ej) (fun j _ => by simp) (fun _ => eT_enc.symm) (fun h0 => by rw [eS_enc (by omega)] at h0; omega)
                    rw [eS_enc (by omega)] at g2
                    refine ⟨_, _, go hname (by decide) (by kernel_rfl) e0 (by kernel_rfl) (E := Extern.BytealgMakeNoZero.makeNoZero fn.params fn.resultTypes) ?_ (by rw [hrt]; exact q1), ρ', g1, .slice g2 q2 (by simp), g3, g4⟩
                    kernel_rfl
              · cases e
            · cases e
          · cases e
        · cases e
/-- **THE EVALUATOR IS SOUND**: what it answers, the call answers. -/
theorem ev_callOk (hm : P.follows .mixedOrders = true) (hname : ∀ (f : FuncId) (fn : Func), P.funcs[f]? = some fn → fn.body.isSome = true → (fn.name == "runtime.NumGoroutine") = false) : ∀ n, CallOk P n0 (ev P n) := by
  intro n
  induction n with
  | zero => intro f args h v h' e; cases f <;> simp [ev] at e
  | succ n ih =>
    intro f args h v h' e
    cases f with
    | func f =>
      simp only [ev] at e
      split at e
      · rename_i fn hf
        split at e
        · rename_i c hb
          split at e
          · cases e
          · rename_i hnt
            refine .inl ⟨⟨fn, hf, by simp [hb], hname f fn hf (by simp [hb])⟩, ?_⟩
            intro ρ w args' R ka
            have hlen := ka.length
            refine callsIn_Wf.1 (callsIn_of_wp_marks (F := Wf none) (n := 0) hf hb trivial ?_)
            have F : FR ρ fn.ntmps [] (argFr 0 args) { tmps := args'.toArray ++ Array.replicate (fn.ntmps - args'.toArray.size) undef, defers := [] } := by
              refine ⟨by simp; omega, fun t u hu => ?_, rfl⟩
              rw [get_argFr, if_pos (Nat.zero_le _), Nat.sub_zero] at hu
              obtain ⟨u', h1, h2⟩ := ka.get t u hu
              exact ⟨u', by simp only; rw [Array.getElem?_append_left (by have := lt_of_some h1; simpa using this)]; simpa using h1, h2⟩
            refine wpIn_mono (evK_sound hm ih (ro := none) (rr := none) c ρ _ [] h _ w _ _ R F trivial trivial e) ?_
            rintro ex a1 w1 ⟨e', fr1, ds1, h1, he, hk, ρ1, l1, R1, F1, M1, B1⟩
            have fin : ((takeD ds1 h1).bind fun h => Option.map (fun l => match l with | [v] => (v, h) | l => (Value.tuple l.toArray, h)) (resL P fr1 h fn.results.toList)) = some (v, h') →
                LeavesInM (Wf none) 0 P fn a1.tmps (Res n0 ρ w v h') a1.defers .returning w1 := by
              intro hk
              simp only [Option.bind_eq_some_iff, Option.map_eq_some_iff] at hk
              obtain ⟨h2, ht, l, hl, hk⟩ := hk
              refine takeD_sound ds1 _ ρ1 h1 h2 w1 M1 ht R1 fun w2 R2 B2 => ?_
              obtain ⟨l', q1, q2⟩ := resL_run R2 F1 hl
              have hres : (results fn a1.tmps).run P w2 = .ok (if hh : l'.toArray.size = 1 then l'.toArray[0] else .tuple l'.toArray) w2 := by
                rw [results_eq, Array.mapM_eq_mapM_toList]
                simp only [Sem.run_bind, Sem.run_map, q1, Result.andThen_ok, Sem.run_pure]
              refine ⟨_, hres, ?_⟩
              split at hk
              · rename_i v0
                cases hk
                cases l' with
                | nil => exact q2.elim
                | cons v0' r => cases r with
                  | cons _ _ => exact q2.2.elim
                  | nil => exact ⟨ρ1, v0', rfl, l1, q2.1, R2, B1.trans B2⟩
              · rename_i hne
                cases hk
                have hsz : ¬ l'.toArray.size = 1 := by
                  intro hs
                  have h1 : l.length = 1 := by rw [q2.length]; simpa using hs
                  obtain ⟨x, rfl⟩ := List.length_eq_one_iff.1 h1
                  exact hne x rfl
                rw [dif_neg hsz]
                exact ⟨ρ1, _, rfl, l1, VR.tuple_iff.2 ⟨_, rfl, by simpa using q2⟩, R2, B1.trans B2⟩
            cases e' with
            | normal => cases ex <;> simp only [ExR] at he; exact fin hk
            | ret => cases ex <;> simp only [ExR] at he; exact fin hk
            | exit i => simp at hk
        · rename_i hb
          exact .inr ⟨⟨fn, hf, by simp [hb]⟩, fun ρ w args' R k => evExt_run hf hb R e k⟩
      · cases e
    | yield l =>
      simp only [ev] at e
      split at e
      · rename_i fr nt ps as bd st pe d hl
        simp only [Option.bind_eq_some_iff] at e
        obtain ⟨fr1, hput, e⟩ := e
        intro ρ w args' p R ka hp
        obtain ⟨r, hr, hor⟩ := loop_obj R hp hl
        cases hor with
        | loop a1 a2 a3 a4 a5 a6 a7 a8 a9 =>
          have F0 : FR ρ nt [] fr ⟨r.tmps, []⟩ := ⟨a6, a7, rfl⟩
          obtain ⟨F1, hlen⟩ := putL_sound _ _ _ ρ _ _ _ hput ka F0
          refine ⟨r.fn, _, r.assign, r.body, run_yield hr (by rw [a3]; simp only [List.size_toArray]; rw [← ka.length, hlen]; simp), fun rr => ?_⟩
          rw [a3, a4, a5]
          simp only at F1 e ⊢
          rw [show (ps.zip args'.toArray).foldl (fun tmps (x : Tmp × Value) => tmps.setIfInBounds x.1 x.2) r.tmps = (ps.toList.zip args').foldl (fun tmps (x : Tmp × Value) => tmps.setIfInBounds x.1 x.2) r.tmps from by
            rw [← Array.foldl_toList, Array.toList_zip]]
          refine roundIn_of_wpIn trivial ?_
          refine wpIn_mono (evK_sound hm ih (ro := some l) (rr := some p.b) as ρ fr1 [] h _ w _ _ R F1 trivial ⟨p, hp, rfl⟩ e) ?_
          rintro ex aa w1 ⟨e', fr2, ds2, h2, he, hk, ρ1, l1, R1, F2, M2, B1⟩
          cases e' with
          | normal =>
            cases ex <;> simp only [ExR] at he
            simp only [Option.bind_eq_some_iff] at hk
            obtain ⟨h3, hb, hk⟩ := hk
            unfold begK at hb
            split at hb
            · rename_i fr4 nt4 ps4 as4 bd4 pe4 d4 hl4
              cases hb
              have hp1 := l1 _ _ hp
              obtain ⟨r4, hr4, hor4⟩ := loop_obj R1 hp1 hl4
              cases hor4 with
              | loop b1 b2 b3 b4 b5 b6 b7 b8 b9 =>
                obtain ⟨R3, B3⟩ := R1.setLoop hp1 (loopOf_some hl4) rfl (ob' := .loop fr4 nt4 ps4 as4 bd4 .busy pe4 d4) (o' := .loop { r4 with state := .busy }) (.inl rfl) rfl
                  (fun _ => .loop rfl b2 b3 b4 b5 b6 b7 b8 b9)
                refine ⟨_, run_beginRound hr4 b1, ?_⟩
                refine wpIn_mono (evK_sound hm ih (ro := some l) (rr := some p.b) bd ρ1 fr2 ds2 _ _ _ _ _ R3 F2 M2 ⟨p, hp1, rfl⟩ hk) ?_
                rintro ex3 a3' w3 ⟨e3, fr3, ds3, h5, he3, hk3, ρ3, l3, R5, F3, M3, B5⟩
                have hB := (B1.trans B3).trans B5
                have hL := l1.trans l3
                have hp3 := l3 _ _ hp1
                cases e3 with
                | normal => cases ex3 <;> simp only [ExR] at he3; exact endK_sound hL R5 hB hp3 hk3
                | ret => cases ex3 <;> simp only [ExR] at he3; exact endK_sound hL R5 hB hp3 hk3
                | exit i => cases ex3 <;> simp only [ExR] at he3; subst he3; exact endK_sound hL R5 hB hp3 hk3
            · cases hb
          | ret => simp at hk
          | exit i => simp at hk
      · cases e
    | _ => simp [ev] at e

/-- .. of a function that has a body -/
theorem ev_calls (hm : P.follows .mixedOrders = true) (hname : ∀ (f : FuncId) (fn : Func), P.funcs[f]? = some fn → fn.body.isSome = true → (fn.name == "runtime.NumGoroutine") = false) {n : Nat} {f : FuncId} {args : List Value} {h : H} {v : Value} {h' : H}
    (e : ev P n (.func f) args h = some (v, h')) (hgo : isGo P f = true) (ρ : Rho) (w : World) (args' : List Value) (R : Rel n0 ρ h w) (k : VRs ρ args args') : Calls P f args'.toArray w (Res n0 ρ w v h') := by
  rcases ev_callOk (n0 := n0) hm hname n (.func f) args h v h' e with ⟨_, hc⟩ | ⟨⟨fn, g1, g2⟩, _⟩
  · exact hc ρ w args' R k
  · simp only [isGo, g1, Option.any_some] at hgo
    cases hb : fn.body <;> simp [hb] at g2 hgo
theorem Rel.nil (w : World) : Rel w.heap.size [] [] w :=
  ⟨rfl, Nat.le_refl _, by simp, by simp, by simp, by simp, by simp, by simp, by simp, by simp⟩
end Go.Ev
