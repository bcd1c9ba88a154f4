/-
A function's contract, reckoned; contracts that lean on contracts.
-/
import Derived.Test.YtnoelppkcbelcaaTy12
set_option linter.unusedVariables false
set_option linter.unusedSimpArgs false
namespace Go.Proofs.Ytnoelppkcbelcaa.Ty
open Go Go.RowKit

def cleanSV : SV → SV
  | .ptr b o => .ptr b o
  | s => stripSV s
theorem cleanSV_ok {E : Env} {s : SV} {v : Value} (h : hasSV E s v) : hasSV { E with nx := 0 } (cleanSV s) v := by
  have h1 := stripSV_ok (E := E) (E' := { E with nx := 0 }) (fun _ _ hh => hh) h
  cases s with
  | ptr b o => exact h
  | _ => exact h1
def freshArgs : List AV → Nat → List AV × Nat
  | [], n => ([], n)
  | a :: as, n => match freshAV a n with
    | (a', n') => match freshArgs as n' with
      | (as', n'') => (a' :: as', n'')
theorem freshArgs_ok : ∀ {ss : List AV} {E : Env} {vs : List Value}, hasArgs E ss vs → ∃ E', Ren E E' ∧ E'.nx = (freshArgs ss E.nx).2 ∧ hasArgs E' (freshArgs ss E.nx).1 vs
  | [], E, [], h => ⟨E, Ren.refl E, rfl, trivial⟩
  | [], _, _ :: _, h => h.elim
  | _ :: _, _, [], h => h.elim
  | s :: ss, E, v :: vs, h => by
    obtain ⟨E1, r1, n1, h1⟩ := freshAV_ok h.1
    obtain ⟨E2, r2, n2, h2⟩ := freshArgs_ok (ss := ss) (h.2.ext r1.ext)
    rw [n1] at n2 h2
    exact ⟨E2, r1.trans r2, n2, h1.ext r2.ext, h2⟩
def typed : Option (TypeId × List SV) → TypeId
  | some (t, _) => t
  | none => 0
def numT : Nat → List AV → List (Nat × AV)
  | _, [] => []
  | i, a :: r => (i, a) :: numT (i + 1) r
theorem numT_get : ∀ (l : List AV) (k i : Nat), getT (numT k l) i = if k ≤ i then l.getD (i - k) .any else .any
  | [], k, i => by
    show AV.any = _
    split <;> rfl
  | a :: r, k, i => by
    rw [numT, getT]
    by_cases h : k = i
    · subst h
      rw [if_pos rfl, if_pos (Nat.le_refl _), Nat.sub_self]
      rfl
    · rw [if_neg h, numT_get r (k + 1) i]
      by_cases h2 : k ≤ i
      · rw [if_pos (by omega), if_pos h2, show i - k = (i - (k + 1)) + 1 by omega]
        rfl
      · rw [if_neg (by omega), if_neg h2]
def initSt (args : List AV) (blk : Option (TypeId × List SV)) (nt : Nat) : St := match freshArgs (args.map (mapAV cleanSV)) 0 with
  | (as, n) => match blk with
    | none => ⟨numT 0 as, as.length + (nt - as.length), [], [], n⟩
    | some (t, cs) => match freshL (cs.map cleanSV) n with
      | (cs', n') => ⟨numT 0 as, as.length + (nt - as.length), [(t, cs')], [], n'⟩
theorem init_ok {P : Program} {CP : (Nat → Option KT) → List Value → Prop} {cpm : ∀ (K K' : Nat → Option KT), (∀ g k, K g = some k → K' g = some k) → ∀ vs, CP K vs → CP K' vs} {E : Env} {w : World} {vs : Array Value} {args : List AV} {blk : Option (TypeId × List SV)} (nt : Nat)
    (hA : hasArgs E args vs.toList) (hK : KInv CP E.K w) (hB : BlkAt E w blk) :
    ∃ E', E'.K = E.K ∧ Good ⟨P, CP, cpm, E.K, passed (E.β 0) blk, typed blk, w, [], fun _ => 0, w⟩ E' (initSt args blk nt) { tmps := vs ++ Array.replicate (nt - vs.size) undef, defers := [] } w := by
  have hA0 : hasArgs { E with nx := 0 } (args.map (mapAV cleanSV)) vs.toList := hasArgs_map (fun s v h => cleanSV_ok h) hA
  obtain ⟨E1, r1, n1, hA1⟩ := freshArgs_ok hA0
  have tm : ∀ {E2 : Env}, Ext E1 E2 → ∀ i, hasAV E2 (getT (numT 0 (freshArgs (args.map (mapAV cleanSV)) 0).1) i) ((vs ++ Array.replicate (nt - vs.size) undef).getD i undef) := fun {E2} hx i => by
    have hl : (freshArgs (args.map (mapAV cleanSV)) 0).1.length = vs.toList.length := hA1.length
    rw [Array.length_toList] at hl
    by_cases hi : i < vs.size
    · have h1 := hA1.get i (by show i < (freshArgs (args.map (mapAV cleanSV)) 0).1.length; omega)
      have e1 : getT (numT 0 (freshArgs (args.map (mapAV cleanSV)) 0).1) i = (freshArgs (args.map (mapAV cleanSV)) 0).1.getD i .any := by
        rw [numT_get, if_pos (Nat.zero_le _), Nat.sub_zero]
      have e2 : (vs ++ Array.replicate (nt - vs.size) undef).getD i undef = vs.toList.getD i undef := by
        rw [Array.getD_eq_getD_getElem?, Array.getElem?_append_left hi, List.getD_eq_getElem?_getD, Array.getElem?_toList]
      rw [e1, e2]
      exact h1.ext hx
    · have e1 : getT (numT 0 (freshArgs (args.map (mapAV cleanSV)) 0).1) i = .any := by
        rw [numT_get, if_pos (Nat.zero_le _), Nat.sub_zero, List.getD_eq_getElem?_getD, List.getElem?_eq_none (by omega)]
        rfl
      rw [e1]
      trivial
  have len : (vs ++ Array.replicate (nt - vs.size) undef).size = (freshArgs (args.map (mapAV cleanSV)) 0).1.length + (nt - (freshArgs (args.map (mapAV cleanSV)) 0).1.length) := by
    have hl : (freshArgs (args.map (mapAV cleanSV)) 0).1.length = vs.toList.length := hA1.length
    rw [Array.length_toList] at hl
    simp only [Array.size_append, Array.size_replicate, hl]
  have K1 : E1.K = E.K := r1.K
  have fr : Fr E.K (passed (E.β 0) blk) w E.K w := ⟨rfl, rfl, rfl, Nat.le_refl _, fun _ _ _ _ => rfl, fun _ _ => rfl⟩
  cases blk with
  | none =>
    refine ⟨E1, K1, rfl, len, n1, tm (Ext.refl E1), by rw [K1]; exact hK, by rw [K1]; exact fr, ⟨?_, fun b t cs hb => ?_, fun b c hb => ?_, fun g0 hg0 => ?_⟩, fun x y hxy => ?_, fun b hb => (by cases hb)⟩
    · show E1.nb = 0
      rw [r1.nb]
      exact hB
    · simp [initSt] at hb
    · simp [initSt] at hb
    · cases hg0
    · simp [initSt] at hxy
  | some tc =>
    obtain ⟨t, cs⟩ := tc
    obtain ⟨b1, b2, us, b3, b4⟩ := hB
    have hL0 : hasL E1 (cs.map cleanSV) us.toList := (b4.map (fun s v h => cleanSV_ok h)).ext r1.ext
    obtain ⟨E2, r2, n2, hL2⟩ := freshL_ok hL0
    rw [n1] at n2 hL2
    have K2 : E2.K = E.K := r2.K.trans K1
    have e2b : E2.β 0 = E.β 0 := by rw [r2.β, r1.β]
    refine ⟨E2, K2, rfl, len, n2, tm r2.ext, by rw [K2]; exact hK, by rw [K2]; exact fr, ⟨?_, fun b t' cs' hb => ?_, fun b c hb hc _ => ?_, fun g0 hg0 => ?_⟩, fun x y hxy => ?_, fun b hb => (by cases hb)⟩
    · show E2.nb = 1
      rw [r2.nb, r1.nb]
      exact b1
    · cases b with
      | succ b => simp [initSt] at hb
      | zero =>
        have e3 : (t, (freshL (cs.map cleanSV) (freshArgs (args.map (mapAV cleanSV)) 0).2).1) = (t', cs') := by simpa [initSt] using hb
        cases e3
        rw [e2b, K2]
        exact ⟨b2, .inr rfl, us, b3, hL2⟩
    · have hb' : b < 1 := hb
      have hc' : c < 1 := hc
      omega
    · cases hg0
      exact ⟨e2b, _, by simp only [initSt]; rfl⟩
    · simp [initSt] at hxy

def resAV (Γ : Kit) (S : St) : ResultVar → Option AV
  | .tmp t => some (S.eval (.tmp t))
  | .cell a t => match Γ.tab t, S.eval (.tmp a) with
    | some d, .one (.cell (.ptr b off)) => match S.bl[b]? with
      | some (_, cs) =>
        if d.agg = true then (if off + d.size ≤ cs.length then some (.one (.agg ((cs.drop off).take d.size))) else none)
        else (cs[off]?).map fun s => .one (.cell s)
      | none => none
    | _, _ => none
def resAll (Γ : Kit) (S : St) : List ResultVar → Option (List AV)
  | [] => some []
  | r :: rs => match resAV Γ S r, resAll Γ S rs with
    | some a, some as => some (a :: as)
    | _, _ => none
def toV1 : AV → V1
  | .one v => v
  | _ => .cell .any
theorem toV1_ok {E : Env} {av : AV} {v : Value} (h : hasAV E av v) : hasV1 E (toV1 av) v := by
  cases av with
  | one v => exact h
  | any => trivial
  | tup vs => trivial
theorem toV1s_ok {E : Env} : ∀ {ss : List AV} {vs : List Value}, hasArgs E ss vs → hasL1 E (ss.map toV1) vs
  | [], [], _ => trivial
  | [], _ :: _, hv => hv.elim
  | _ :: _, [], hv => hv.elim
  | _ :: _, _ :: _, hv => ⟨toV1_ok hv.1, toV1s_ok hv.2⟩
def outOf (Γ : Kit) (fn : Func) (S : St) : Option Out := match resAll Γ S fn.results.toList with
  | none => none
  | some rs => some { res := mapAV stripSV (match rs with | [x] => x | _ => .tup (rs.map toV1)), blk := match S.bl with | (_, cs) :: _ => cs.map stripSV | [] => [] }
def outsAll (Γ : Kit) (fn : Func) : List St → Option (List Out)
  | [] => some []
  | S :: r => match outOf Γ fn S, outsAll Γ fn r with
    | some o, some os => some (o :: os)
    | _, _ => none
theorem outsAll_mem {Γ : Kit} {fn : Func} : ∀ {L : List St} {os : List Out}, outsAll Γ fn L = some os → ∀ S ∈ L, ∃ o ∈ os, outOf Γ fn S = some o
  | [], os, _, S, hS => by simp at hS
  | S0 :: r, os, h, S, hS => by
    unfold outsAll at h
    cases h1 : outOf Γ fn S0 with
    | none => rw [h1] at h; cases h
    | some o => cases h2 : outsAll Γ fn r with
      | none => rw [h1, h2] at h; cases h
      | some os' =>
        rw [h1, h2] at h
        cases h
        rcases List.mem_cons.1 hS with rfl | hS
        · exact ⟨o, List.mem_cons_self, h1⟩
        · obtain ⟨o', h3, h4⟩ := outsAll_mem h2 S hS
          exact ⟨o', List.mem_cons_of_mem _ h3, h4⟩
def resTmp : ResultVar → Nat
  | .tmp t => t
  | .cell a _ => a
def St.proj (fn : Func) (S : St) : St := S.only (fn.results.toList.map resTmp)
theorem Good.proj {X : Ctx} {E : Env} {S : St} {a : Act} {w : World} (h : Good X E S a w) (fn : Func) : Good X E (S.proj fn) a w := h.only _
def resSem (tmps : Array Value) : ResultVar → Sem Value
  | .tmp t => pure (tmps.getD t undef)
  | .cell x t => do loadVar t (← asAddr (tmps.getD x undef))
theorem results_eq (fn : Func) (tmps : Array Value) : results fn tmps = (do
    let vs ← fn.results.mapM (resSem tmps)
    pure (if h : vs.size = 1 then vs[0] else .tuple vs)) := by
  unfold results
  congr 2
theorem resAll_ok {X : Ctx} {Γ : Kit} (hT : TabOK X.P Γ.tab) {E : Env} {S : St} {a : Act} {w : World} (h : Good X E S a w) : ∀ {rs : List ResultVar} {as : List AV}, resAll Γ S rs = some as →
    ∃ us, (rs.mapM (resSem a.tmps)).run X.P w = .ok us w ∧ hasArgs E as us
  | [], as, hr => by
    cases hr
    exact ⟨[], by simp, trivial⟩
  | r :: rs, as, hr => by
    unfold resAll at hr
    cases h1 : resAV Γ S r with
    | none => rw [h1] at hr; cases hr
    | some av => cases h2 : resAll Γ S rs with
      | none => rw [h1, h2] at hr; cases hr
      | some as' =>
        rw [h1, h2] at hr
        cases hr
        obtain ⟨us, h3, h4⟩ := resAll_ok hT h h2
        have hone : ∃ v, (resSem a.tmps r).run X.P w = .ok v w ∧ hasAV E av v := by
          cases r with
          | tmp t =>
            cases h1
            exact ⟨_, rfl, h.tmps t⟩
          | cell x t =>
            simp only [resAV] at h1
            have hx := h.tmps x
            split at h1
            · rename_i d b off hd heq
              have heq' : getT S.tmps x = .one (.cell (.ptr b off)) := heq
              rw [heq'] at hx
              obtain ⟨hbl, hpv⟩ := hx
              split at h1
              · rename_i t' cs hb
                obtain ⟨b1, b2, vs, b3, b4⟩ := h.blks.at_ b t' cs hb
                have hsz : vs.size = cs.length := by rw [b4.length, Array.length_toList]
                split at h1
                · rename_i hag
                  split at h1
                  · rename_i hle
                    cases h1
                    have hlc := run_loadCells_at (P := X.P) b3 (show off + d.size ≤ vs.size by omega)
                    refine ⟨.agg ((vs.toList.drop off).take d.size).toArray, ?_, ⟨_, rfl, (b4.drop _).take _⟩⟩
                    simp [resSem, hpv, asAddr, loadVar, hT.isAgg hd, hag, hT.size hd, hlc]
                  · cases h1
                · rename_i hag
                  cases hc : cs[off]? with
                  | none => rw [hc] at h1; cases h1
                  | some s =>
                    rw [hc] at h1
                    cases h1
                    obtain ⟨v, hv1, hv2⟩ := b4.get hc
                    refine ⟨v, ?_, hv2⟩
                    have hl := run_load_at (P := X.P) b3 (show vs[off]? = some v by simpa using hv1)
                    simp only [resSem, hpv, asAddr, loadVar, Sem.run_bind, Sem.run_pure, Result.andThen_ok, hT.isAgg hd, hag]
                    simp only [Bool.false_eq_true, if_false, hl]
              · cases h1
            · cases h1
        obtain ⟨v, h5, h6⟩ := hone
        refine ⟨v :: us, ?_, h6, h4⟩
        rw [List.mapM_cons]
        simp only [Sem.run_bind, h5, Result.andThen_ok, h3, Sem.run_pure]
def analyze (Γ : Kit) (fn : Func) (H : Hint) (fuel : Nat) (args : List AV) (blk : Option (TypeId × List SV)) : Option (List Out) :=
  match fn.body with
  | none => none
  | some c => match runCode Γ H fuel c (initSt args blk fn.ntmps) with
    | none => none
    | some R => match R.exits with
      | [] => outsAll Γ fn (mergeSt [] ((R.norm ++ R.rets).map (St.proj fn)))
      | _ => none
theorem analyze_ok {P : Program} {CP : (Nat → Option KT) → List Value → Prop} (cpm : ∀ (K K' : Nat → Option KT), (∀ g k, K g = some k → K' g = some k) → ∀ vs, CP K vs → CP K' vs) {Γ : Kit} (hT : TabOK P Γ.tab) (hS : SoundT P CP Γ.T) (hH : [] = Γ.hd) (hmix : P.follows .mixedOrders = true)
    {f : FuncId} {fn : Func} (hf : P.funcs[f]? = some fn) (hent : ∀ vs w, (callFunc f vs).run P w = .ok (.enter f vs) w) {H : Hint} {fuel : Nat} {args : List AV} {blk : Option (TypeId × List SV)} {outs : List Out}
    (hlp : ∀ c, fn.body = some c → ∀ X : Ctx, X.P = P → X.CP = CP → X.hd = [] → LpOK X H c) (h : analyze Γ fn H fuel args blk = some outs) : CallOK P CP f args blk outs := by
  refine ⟨hent, fun E w vs hA hK hB => ?_⟩
  unfold analyze at h
  split at h
  · cases h
  · rename_i c hc
    split at h
    · cases h
    · rename_i R hR
      split at h
      · rename_i hex
        obtain ⟨E0, hK0, hg⟩ := init_ok (P := P) (cpm := cpm) fn.ntmps hA hK hB
        refine calls_of_wp hf hc (wp_mono (runCode_ok (hX := rfl) (X := ⟨P, CP, cpm, E.K, passed (E.β 0) blk, typed blk, w, [], fun _ => 0, w⟩) ⟨hT, hS, hH⟩ hmix (hlp c hc _ rfl rfl rfl) hR hg) ?_)
        intro e a' w' hr
        have fin : GoodL ⟨P, CP, cpm, E.K, passed (E.β 0) blk, typed blk, w, [], fun _ => 0, w⟩ E0 (R.norm ++ R.rets) a' w' → a'.defers = [] ∧ ∃ v, (results fn a'.tmps).run P w' = .ok v w' ∧ ∃ v' K', Ending.returned v = .returned v' ∧ KInv CP K' w' ∧ Fr E.K (passed (E.β 0) blk) w K' w' ∧ ∃ o ∈ outs, hasAV (envK K') o.res v' ∧ BlkOut K' (E.β 0) w' o blk ∧ LtOut o vs.toList v' := by
          rintro ⟨S, hS', E1, r1, hg1⟩
          have hgl : GoodL ⟨P, CP, cpm, E.K, passed (E.β 0) blk, typed blk, w, [], fun _ => 0, w⟩ E0 (mergeSt [] ((R.norm ++ R.rets).map (St.proj fn))) a' w' := mergeSt_ok rfl (by
            show GoodL _ E0 ([] ++ (R.norm ++ R.rets).map (St.proj fn)) a' w'
            exact ⟨_, List.mem_map.2 ⟨S, hS', rfl⟩, E1, r1, hg1.proj fn⟩)
          obtain ⟨S2, hS2, E2, r2, hg2⟩ := hgl
          obtain ⟨o, ho, hoS⟩ := outsAll_mem h S2 hS2
          unfold outOf at hoS
          split at hoS
          · cases hoS
          · rename_i rs hrs
            cases hoS
            obtain ⟨us, h1, h2⟩ := resAll_ok hT hg2 hrs
            refine ⟨hg2.defers, ?_⟩
            have strip : ∀ s v, hasSV E2 s v → hasSV (envK E2.K) (stripSV s) v := fun s v hh => stripSV_ok (E := E2) (E' := envK E2.K) (fun _ _ hk => hk) hh
            have hrun : (results fn a'.tmps).run P w' = .ok (if hh : us.toArray.size = 1 then us.toArray[0] else .tuple us.toArray) w' := by
              rw [results_eq]
              simp only [Array.mapM_eq_mapM_toList, Sem.run_bind, Sem.run_map]
              rw [show (fn.results.toList.mapM (resSem a'.tmps)).run P w' = .ok us w' from h1]
              rfl
            refine ⟨_, hrun, _, E2.K, rfl, hg2.kinv, hg2.fr, _, ho, ?_, ?_, LtOut.no rfl _ _⟩
            · cases rs with
              | nil => cases us with
                | nil => exact ⟨#[], rfl, trivial⟩
                | cons _ _ => exact h2.elim
              | cons r rs => cases us with
                | nil => exact h2.elim
                | cons u us => cases rs with
                  | nil => cases us with
                    | nil =>
                      have h3 : hasAV E2 r u := h2.1
                      exact h3.map strip
                    | cons _ _ => exact h2.2.elim
                  | cons r2 rs => cases us with
                    | nil => exact h2.2.elim
                    | cons u2 us =>
                      have h3 : hasAV E2 (.tup ((r :: r2 :: rs).map toV1)) (.tuple (u :: u2 :: us).toArray) := ⟨_, rfl, toV1s_ok h2⟩
                      have e4 : (if hh : (u :: u2 :: us).toArray.size = 1 then (u :: u2 :: us).toArray[0] else Value.tuple (u :: u2 :: us).toArray) = Value.tuple (u :: u2 :: us).toArray := dif_neg (by simp)
                      rw [e4]
                      exact h3.map strip
            · cases blk with
              | none => trivial
              | some tc =>
                obtain ⟨t, cs⟩ := tc
                obtain ⟨g1, cs1, g2⟩ := hg2.blks.first (E.β 0) rfl
                obtain ⟨_, _, us1, g3, g4⟩ := hg2.blks.at_ 0 _ _ g2
                rw [g1] at g3
                refine ⟨us1, g3, ?_⟩
                cases hbl : S2.bl with
                | nil => rw [hbl] at g2; cases g2
                | cons x r =>
                  rw [hbl] at g2
                  obtain rfl : x = (t, cs1) := by simpa [typed] using g2
                  exact g4.map strip
        cases e with
        | normal => exact fin (GoodL.mono (fun S hS => List.mem_append_left _ hS) hr)
        | ret => exact fin (GoodL.mono (fun S hS => List.mem_append_right _ hS) hr)
        | exit id =>
          have hr' : GoodL _ E0 (exitsOf id R.exits) a' w' := hr
          rw [hex] at hr'
          obtain ⟨S, hS, _⟩ := hr'
          simp [exitsOf] at hS
        | _ => exact hr.elim
      · cases h
end Go.Proofs.Ytnoelppkcbelcaa.Ty
