/-
A function gone through from its middle on: behind a call that was walked by hand.
-/
import Derived.Test.YtnoelppkcbelcaaTy14
set_option linter.unusedVariables false
set_option linter.unusedSimpArgs false
namespace Go.Proofs.Ytnoelppkcbelcaa.Ty
open Go Go.RowKit

def analyzeFrom (Γ : Kit) (fn : Func) (H : Hint) (fuel : Nat) (c : Code) (S : St) : Option (List Out) :=
  match runCode Γ H fuel c S with
  | none => none
  | some R => match R.exits with
    | [] => outsAll Γ fn (mergeSt [] ((R.norm ++ R.rets).map (St.proj fn)))
    | _ => none
/-- What is left of a call: a value of one of the forms, old memory as it was. -/
def Leaves (CP : (Nat → Option KT) → List Value → Prop) (K0 : Nat → Option KT) (w0 : World) (outs : List Out) (e : Ending) (w' : World) : Prop :=
  ∃ v K', e = .returned v ∧ KInv CP K' w' ∧ Fr K0 none w0 K' w' ∧ ∃ o ∈ outs, hasAV (envK K') o.res v
theorem from_ok {P : Program} {CP : (Nat → Option KT) → List Value → Prop} (cpm : ∀ (K K' : Nat → Option KT), (∀ g k, K g = some k → K' g = some k) → ∀ vs, CP K vs → CP K' vs) {Γ : Kit} (hk : KitOK P CP Γ) (hmix : P.follows .mixedOrders = true)
    {fn : Func} {c : Code} {H : Hint} {fuel : Nat} {S : St} {lit : List Out} (hlp : ∀ i, H.lp i = none) (hc : covers (analyzeFrom Γ fn H fuel c S) lit = true) {K0 : Nat → Option KT} {w0 : World} {E : Env} {a : Act} {w : World} (hg : Good ⟨P, CP, cpm, K0, none, 0, w0, [], fun _ => 0, w0⟩ E S a w) :
    c.wp P (bodyPost P fn (Leaves CP K0 w0 lit)) a w := by
  cases hcase : analyzeFrom Γ fn H fuel c S with
  | none => rw [hcase] at hc; cases hc
  | some outs =>
    rw [hcase] at hc
    have h := hcase
    unfold analyzeFrom at h
    split at h
    · cases h
    · rename_i R hR
      split at h
      · rename_i hex
        refine wp_mono (runCode_ok (hX := rfl) (X := ⟨P, CP, cpm, K0, none, 0, w0, [], fun _ => 0, w0⟩) ⟨hk.tab, hk.T, hk.hd⟩ hmix (noLp hlp) hR hg) ?_
        intro e a' w' hr
        have fin : GoodL ⟨P, CP, cpm, K0, none, 0, w0, [], fun _ => 0, w0⟩ E (R.norm ++ R.rets) a' w' → a'.defers = [] ∧ ∃ v, (results fn a'.tmps).run P w' = .ok v w' ∧ Leaves CP K0 w0 lit (.returned v) w' := by
          rintro ⟨S, hS', E1, r1, hg1⟩
          have hgl : GoodL ⟨P, CP, cpm, K0, none, 0, w0, [], fun _ => 0, w0⟩ E (mergeSt [] ((R.norm ++ R.rets).map (St.proj fn))) a' w' := mergeSt_ok rfl (by
            show GoodL _ E ([] ++ (R.norm ++ R.rets).map (St.proj fn)) a' w'
            exact ⟨_, List.mem_map.2 ⟨S, hS', rfl⟩, E1, r1, hg1.proj fn⟩)
          obtain ⟨S2, hS2, E2, r2, hg2⟩ := hgl
          obtain ⟨o, ho, hoS⟩ := outsAll_mem h S2 hS2
          unfold outOf at hoS
          split at hoS
          · cases hoS
          · rename_i rs hrs
            cases hoS
            obtain ⟨us, h1, h2⟩ := resAll_ok hk.tab hg2 hrs
            refine ⟨hg2.defers, ?_⟩
            have strip : ∀ s v, hasSV E2 s v → hasSV (envK E2.K) (stripSV s) v := fun s v hh => stripSV_ok (E := E2) (E' := envK E2.K) (fun _ _ hk => hk) hh
            have hrun : (results fn a'.tmps).run P w' = .ok (if hh : us.toArray.size = 1 then us.toArray[0] else .tuple us.toArray) w' := by
              rw [results_eq]
              simp only [Array.mapM_eq_mapM_toList, Sem.run_bind, Sem.run_map]
              rw [show (fn.results.toList.mapM (resSem a'.tmps)).run P w' = .ok us w' from h1]
              rfl
            simp only [covers, List.all_eq_true, List.any_eq_true, Bool.and_eq_true] at hc
            obtain ⟨q, hq, hle, _⟩ := hc _ ho
            refine ⟨_, hrun, _, E2.K, rfl, hg2.kinv, hg2.fr, q, hq, leAV_ok (E := envK E2.K) (E' := envK E2.K) ⟨rfl, rfl, rfl, rfl, rfl⟩ hle ?_⟩
            cases rs with
            | nil => cases us with
              | nil => exact ⟨#[], rfl, trivial⟩
              | cons _ _ => exact h2.elim
            | cons r rs => cases us with
              | nil => exact h2.elim
              | cons u us => cases rs with
                | nil => cases us with
                  | nil =>
                    have h3 : hasAV E2 r u := h2.1
                    exact h3.map strip
                  | cons _ _ => exact h2.2.elim
                | cons r2 rs => cases us with
                  | nil => exact h2.2.elim
                  | cons u2 us =>
                    have h3 : hasAV E2 (.tup ((r :: r2 :: rs).map toV1)) (.tuple (u :: u2 :: us).toArray) := ⟨_, rfl, toV1s_ok h2⟩
                    have e4 : (if hh : (u :: u2 :: us).toArray.size = 1 then (u :: u2 :: us).toArray[0] else Value.tuple (u :: u2 :: us).toArray) = Value.tuple (u :: u2 :: us).toArray := dif_neg (by simp)
                    rw [e4]
                    exact h3.map strip
        cases e with
        | normal => exact fin (GoodL.mono (fun S hS => List.mem_append_left _ hS) hr)
        | ret => exact fin (GoodL.mono (fun S hS => List.mem_append_right _ hS) hr)
        | exit id =>
          have hr' : GoodL _ E (exitsOf id R.exits) a' w' := hr
          rw [hex] at hr'
          obtain ⟨S, hS, _⟩ := hr'
          simp [exitsOf] at hS
        | _ => exact hr.elim
      · cases h
theorem leaves_post {P : Program} {fn : Func} {R R' : Ending → World → Prop} (hR : ∀ e w', R e w' → R' e w') (e : Exit) (a : Act) (w : World) (h : bodyPost P fn R e a w) : bodyPost P fn R' e a w := by
  cases e with
  | normal => exact ⟨h.1, h.2.choose, h.2.choose_spec.1, hR _ _ h.2.choose_spec.2⟩
  | ret => exact ⟨h.1, h.2.choose, h.2.choose_spec.1, hR _ _ h.2.choose_spec.2⟩
  | panic c => exact ⟨h.1, hR _ _ h.2⟩
  | outgrown => exact hR _ _ h
  | exit id => exact h
  | goto l => exact h
/-- One slot holds a cursor; of the others nothing is known. -/
theorem start_good {P : Program} {CP : (Nat → Option KT) → List Value → Prop} (cpm : ∀ (K K' : Nat → Option KT), (∀ g k, K g = some k → K' g = some k) → ∀ vs, CP K vs → CP K' vs) {K0 : Nat → Option KT} {w : World} (hK : KInv CP K0 w) {tmps : Array Value} {c nt g : Nat} (hs : tmps.size = nt) (hc : tmps.getD c undef = .pointer (some ⟨g, 0, none⟩)) (hg : K0 g = some .cur) :
    Good ⟨P, CP, cpm, K0, none, 0, w, [], fun _ => 0, w⟩ (envK K0) ⟨[(c, .one (.cell .cur))], nt, [], [], 0⟩ ⟨tmps, []⟩ w := by
  refine ⟨rfl, hs, rfl, fun i => ?_, hK, ⟨rfl, rfl, rfl, Nat.le_refl _, fun _ _ _ _ => rfl, fun _ _ => rfl⟩, ⟨rfl, fun b t cs hb => ?_, fun b c hb => ?_, fun g0 hg0 => ?_⟩, fun x y hxy => ?_, fun b hb => ?_⟩
  · show hasAV _ (if c = i then _ else _) _
    split
    · rename_i e
      subst e
      show hasAV _ _ (tmps.getD c undef)
      rw [hc]
      exact ⟨g, rfl, hg⟩
    · trivial
  · simp at hb
  · simp at hb
  · cases hg0
  · simp at hxy
  · cases hb
end Go.Proofs.Ytnoelppkcbelcaa.Ty
