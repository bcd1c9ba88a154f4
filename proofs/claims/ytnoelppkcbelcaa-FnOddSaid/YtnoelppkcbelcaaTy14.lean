/-
Kits: functions reckoned anew at each call, functions whose answer is kept.
-/
import Derived.Test.YtnoelppkcbelcaaTy13
set_option linter.unusedVariables false
set_option linter.unusedSimpArgs false
namespace Go.Proofs.Ytnoelppkcbelcaa.Ty
open Go Go.RowKit

def leArgs : List AV → List AV → Bool
  | [], [] => true
  | a :: r, b :: s => leAV 0 0 a b && leArgs r s
  | _, _ => false
theorem leArgs_ok {E E' : Env} (c : Cut E E' 0 0) : ∀ {as bs : List AV} {vs : List Value}, leArgs as bs = true → hasArgs E as vs → hasArgs E' bs vs
  | [], [], [], _, _ => trivial
  | [], [], _ :: _, _, h => h.elim
  | [], _ :: _, _, h, _ => by simp [leArgs] at h
  | _ :: _, [], _, h, _ => by simp [leArgs] at h
  | _ :: _, _ :: _, [], _, h => h.elim
  | a :: r, b :: s, v :: vs, h, hv => by
    simp only [leArgs, Bool.and_eq_true] at h
    exact ⟨leAV_ok c h.1 hv.1, leArgs_ok c h.2 hv.2⟩
structure KitOK (P : Program) (CP : (Nat → Option KT) → List Value → Prop) (Γ : Kit) : Prop where
  tab : TabOK P Γ.tab
  T : SoundT P CP Γ.T
  hd : [] = Γ.hd
def Kit.inl (Γ : Kit) (f : Nat) (fn : Func) (H : Hint) (fuel : Nat) : Kit := { Γ with T := fun g args blk => if g = f then analyze Γ fn H fuel args blk else Γ.T g args blk }
def Kit.ent (Γ : Kit) (f : Nat) (A : List AV) (outs : List Out) : Kit := { Γ with T := fun g args blk => if g = f ∧ blk.isNone = true ∧ leArgs args A = true then some outs else Γ.T g args blk }
/-- A draw below a bound: the result lies below the argument. -/
def belowT (f : Nat) (T : Oracle) : Oracle := fun g args blk =>
  if g = f ∧ blk.isNone = true then
    match args with
    | [a, .one (.cell (.int k lo hi sy))] => if leArgs [a, .one (.cell (.int k lo hi sy))] [.one (.cell .cur), .one (.cell (.int .i64 1 hi none))] = true then some [{ res := .one (.cell (.int .i64 0 (hi - 1) none)), blk := [], lt := some 1 }] else T g args blk
    | _ => T g args blk
  else T g args blk
def Kit.below (Γ : Kit) (f : Nat) : Kit := { Γ with T := belowT f Γ.T }
def covers (os : Option (List Out)) (lit : List Out) : Bool := match os with
  | some os => os.all fun o => lit.any fun q => leAV 0 0 o.res q.res && q.lt.isNone
  | none => false
section
variable {P : Program} {CP : (Nat → Option KT) → List Value → Prop} {Γ : Kit}
theorem KitOK.inl (cpm : ∀ (K K' : Nat → Option KT), (∀ g k, K g = some k → K' g = some k) → ∀ vs, CP K vs → CP K' vs) (hmix : P.follows .mixedOrders = true) (h : KitOK P CP Γ)
    {f : Nat} {fn : Func} (hf : P.funcs[f]? = some fn) (hent : ∀ vs w, (callFunc f vs).run P w = .ok (.enter f vs) w) (H : Hint) (fuel : Nat) (hlp : ∀ i, H.lp i = none) : KitOK P CP (Γ.inl f fn H fuel) := by
  refine ⟨h.tab, fun g args blk outs hg => ?_, h.hd⟩
  simp only [Kit.inl] at hg
  split at hg
  · rename_i e
    subst e
    exact analyze_ok cpm h.tab h.T h.hd hmix hf hent (fun c hc X _ _ _ id S0 R hh => by rw [hlp id] at hh; cases hh) hg
  · exact h.T _ _ _ _ hg
theorem KitOK.ent (h : KitOK P CP Γ) {f : Nat} {A : List AV} {outs : List Out} (hc : CallOK P CP f A none outs) : KitOK P CP (Γ.ent f A outs) := by
  refine ⟨h.tab, fun g args blk os hg => ?_, h.hd⟩
  simp only [Kit.ent] at hg
  split at hg
  · rename_i e
    obtain ⟨rfl, hb, hle⟩ := e
    cases hg
    cases blk with
    | some x => cases hb
    | none =>
      refine ⟨hc.1, fun E w vs hA hK hB => ?_⟩
      exact hc.2 { E with nx := 0, nb := 0 } w vs (leArgs_ok (E := E) (E' := { E with nx := 0, nb := 0 }) ⟨rfl, rfl, rfl, rfl, rfl⟩ hle hA) hK rfl
  · exact h.T _ _ _ _ hg
theorem KitOK.below (h : KitOK P CP Γ) {f : Nat} (hc : ∀ hi, CallOK P CP f [.one (.cell .cur), .one (.cell (.int .i64 1 hi none))] none [⟨.one (.cell (.int .i64 0 (hi - 1) none)), [], some 1⟩]) : KitOK P CP (Γ.below f) := by
  refine ⟨h.tab, fun g args blk os hg => ?_, h.hd⟩
  simp only [Kit.below, belowT] at hg
  split at hg
  · rename_i e
    obtain ⟨rfl, hb⟩ := e
    split at hg
    · rename_i a k lo hi sy
      split at hg
      · rename_i hle
        cases hg
        cases blk with
        | some x => cases hb
        | none =>
          refine ⟨(hc hi).1, fun E w vs hA hK hB => ?_⟩
          exact (hc hi).2 { E with nx := 0, nb := 0 } w vs (leArgs_ok (E := E) (E' := { E with nx := 0, nb := 0 }) ⟨rfl, rfl, rfl, rfl, rfl⟩ hle hA) hK rfl
      · exact h.T _ _ _ _ hg
    · exact h.T _ _ _ _ hg
  · exact h.T _ _ _ _ hg
theorem covers_ok {f : Nat} {args : List AV} {outs lit : List Out} (hc : CallOK P CP f args none outs) (h : covers (some outs) lit = true) : CallOK P CP f args none lit := by
  refine ⟨hc.1, fun E w vs hA hK hB => (hc.2 E w vs hA hK hB).mono ?_⟩
  rintro e w' ⟨v, K', rfl, k1, k2, o, ho, k3, k4, k5⟩
  simp only [covers, List.all_eq_true, List.any_eq_true, Bool.and_eq_true] at h
  obtain ⟨q, hq, hle, hlt⟩ := h o ho
  exact ⟨v, K', rfl, k1, k2, q, hq, leAV_ok (E := envK K') (E' := envK K') ⟨rfl, rfl, rfl, rfl, rfl⟩ hle k3, trivial, LtOut.no (by simpa using hlt) _ _⟩
theorem KitOK.call (cpm : ∀ (K K' : Nat → Option KT), (∀ g k, K g = some k → K' g = some k) → ∀ vs, CP K vs → CP K' vs) (hmix : P.follows .mixedOrders = true) (h : KitOK P CP Γ)
    {f : Nat} {fn : Func} (hf : P.funcs[f]? = some fn) (hent : ∀ vs w, (callFunc f vs).run P w = .ok (.enter f vs) w) {H : Hint} {fuel : Nat} {args : List AV} {lit : List Out}
    (hlp : ∀ c, fn.body = some c → ∀ X : Ctx, X.P = P → X.CP = CP → X.hd = [] → LpOK X H c) (hc : covers (analyze Γ fn H fuel args none) lit = true) : CallOK P CP f args none lit := by
  cases ha : analyze Γ fn H fuel args none with
  | none => rw [ha] at hc; cases hc
  | some outs =>
    rw [ha] at hc
    exact covers_ok (analyze_ok cpm h.tab h.T h.hd hmix hf hent hlp ha) hc
end
/-- No loop was gone through elsewhere. -/
theorem noLp {H : Hint} (h : ∀ i, H.lp i = none) {X : Ctx} {c : Code} : LpOK X H c := fun id S0 R hh => by rw [h id] at hh; cases hh
/-- A contract out of those of the parts of what the arguments may be. -/
theorem split_ok {P : Program} {CP : (Nat → Option KT) → List Value → Prop} {f : FuncId} {args : List AV} {outs : List Out} (L : List (List AV)) (hne : ∃ A, A ∈ L) (hL : ∀ (E : Env) vs, hasArgs E args vs → ∃ A ∈ L, hasArgs E A vs) (hc : ∀ A ∈ L, CallOK P CP f A none outs) : CallOK P CP f args none outs := by
  obtain ⟨A0, h0⟩ := hne
  refine ⟨(hc A0 h0).1, fun E w vs hA hK hB => ?_⟩
  obtain ⟨A, hA1, hA2⟩ := hL E vs.toList hA
  exact (hc A hA1).2 E w vs hA2 hK hB
/-- A row in a struct of one cell, told by parts of its length. -/
def parts (c : List CT) : List (Nat × Nat) → List AV
  | [] => []
  | (a, b) :: r => .one (.agg [.slice c a b none]) :: parts c r
def covered : Nat → Nat → List (Nat × Nat) → Bool
  | lo, hi, [] => decide (hi < lo)
  | lo, hi, (a, b) :: r => decide (a ≤ lo) && covered (b + 1) hi r
theorem parts_ok {E : Env} {c : List CT} {v : Value} {a : Option Addr} {l k : Nat} (h5 : l ≤ k) (h6 : a = none → k = 0) (h7 : ∀ ad, a = some ad → ad.spot = none ∧ ∃ n, E.K ad.block = some (.row c n) ∧ ad.off % c.length = 0 ∧ ad.off + k * c.length ≤ n) (hv : v = .agg #[.slice a l k]) : ∀ (L : List (Nat × Nat)) (lo hi : Nat), lo ≤ l → l ≤ hi → covered lo hi L = true → ∃ A ∈ parts c L, hasAV E A v
  | [], lo, hi, h1, h2, h => by
    simp only [covered, decide_eq_true_eq] at h
    omega
  | (x, y) :: r, lo, hi, h1, h2, h => by
    simp only [covered, Bool.and_eq_true, decide_eq_true_eq] at h
    by_cases hy : l ≤ y
    · exact ⟨_, List.mem_cons_self, _, hv, ⟨a, l, k, rfl, by omega, hy, h5, fun s hs => (by cases hs), h6, h7⟩, trivial⟩
    · obtain ⟨A, hA, hA2⟩ := parts_ok h5 h6 h7 hv r (y + 1) hi (by omega) h2 h.2
      exact ⟨A, List.mem_cons_of_mem _ hA, hA2⟩
theorem parts_row {E : Env} {c : List CT} {lo hi : Nat} {v : Value} (h : hasAV E (.one (.agg [.slice c lo hi none])) v) {L : List (Nat × Nat)} (hc : covered lo hi L = true) : ∃ A ∈ parts c L, hasAV E A v := by
  obtain ⟨vs, rfl, h1⟩ := h
  obtain ⟨vs⟩ := vs
  match vs, h1 with
  | [], h1 => exact h1.elim
  | [v], h1 =>
    obtain ⟨⟨a, l, k, rfl, h2, h3, h4, _, h6, h7⟩, _⟩ := h1
    exact parts_ok h4 h6 h7 rfl L lo hi h2 h3 hc
  | _ :: _ :: _, h1 => exact h1.2.elim
theorem args_mid {E : Env} {B : AV} : ∀ {pre : List AV} {post : List AV} {vs : List Value}, hasArgs E (pre ++ B :: post) vs → ∃ v, hasAV E B v ∧ ∀ A, hasAV E A v → hasArgs E (pre ++ A :: post) vs
  | [], _, [], h => h.elim
  | [], _, v :: _, h => ⟨v, h.1, fun A hA => ⟨hA, h.2⟩⟩
  | _ :: _, _, [], h => h.elim
  | p :: pre, post, v :: vs, h => by
    obtain ⟨u, h1, h2⟩ := args_mid (pre := pre) h.2
    exact ⟨u, h1, fun A hA => ⟨h.1, h2 A hA⟩⟩
def AllC (P : Program) (CP : (Nat → Option KT) → List Value → Prop) (f : FuncId) (pre post : List AV) (outs : List Out) : List AV → Prop
  | [] => True
  | A :: r => CallOK P CP f (pre ++ A :: post) none outs ∧ AllC P CP f pre post outs r
theorem AllC.mem {P : Program} {CP : (Nat → Option KT) → List Value → Prop} {f : FuncId} {pre post : List AV} {outs : List Out} : ∀ {L : List AV}, AllC P CP f pre post outs L → ∀ A ∈ L, CallOK P CP f (pre ++ A :: post) none outs
  | [], _, _, h => by cases h
  | B :: r, h, A, hA => by
    rcases List.mem_cons.1 hA with rfl | hA
    · exact h.1
    · exact h.2.mem A hA
theorem any_ok {P : Program} {CP : (Nat → Option KT) → List Value → Prop} {f : FuncId} {outs : List Out} (pre post : List AV) (c : List CT) (lo hi : Nat) (x : Nat × Nat) (L : List (Nat × Nat)) (hc : covered lo hi (x :: L) = true) (h : AllC P CP f pre post outs (parts c (x :: L))) : CallOK P CP f (pre ++ .one (.agg [.slice c lo hi none]) :: post) none outs := by
  refine split_ok ((parts c (x :: L)).map fun A => pre ++ A :: post) ⟨_, List.mem_map.2 ⟨_, List.mem_cons_self, rfl⟩⟩ (fun E vs hA => ?_) (fun A hA => ?_)
  · obtain ⟨v, h1, h2⟩ := args_mid hA
    obtain ⟨A, hA1, hA2⟩ := parts_row h1 hc
    exact ⟨_, List.mem_map.2 ⟨A, hA1, rfl⟩, h2 A hA2⟩
  · obtain ⟨B, hB, rfl⟩ := List.mem_map.1 hA
    exact h.mem B hB
def lookT {α : Type} : List (Nat × α) → Nat → Option α
  | [], _ => none
  | (i, d) :: r, t => if i = t then some d else lookT r t
theorem lookT_mem {α : Type} : ∀ {l : List (Nat × α)} {t : Nat} {d : α}, lookT l t = some d → (t, d) ∈ l
  | [], _, _, h => by cases h
  | (i, d0) :: r, t, d, h => by
    rw [lookT] at h
    split at h
    · rename_i e
      cases h
      rw [e]
      exact List.mem_cons_self
    · exact List.mem_cons_of_mem _ (lookT_mem h)
/-- The table is that of the program's types. -/
def tabs (P : Program) : List Nat → List (Nat × TD)
  | [] => []
  | t :: r => match mkTD P t with
    | some d => (t, d) :: tabs P r
    | none => tabs P r
theorem tabs_mem {P : Program} : ∀ {l : List Nat} {t : Nat} {d : TD}, (t, d) ∈ tabs P l → mkTD P t = some d
  | [], _, _, h => by cases h
  | t0 :: r, t, d, h => by
    rw [tabs] at h
    split at h
    · rename_i d0 e
      rcases List.mem_cons.1 h with hh | hh
      · cases hh
        exact e
      · exact tabs_mem hh
    · exact tabs_mem h
theorem tabs_ok {P : Program} {l : List Nat} {T : List (Nat × TD)} (h : T = tabs P l) : TabOK P (lookT T) := ⟨fun t d ht => by
  have h1 := lookT_mem ht
  rw [h] at h1
  exact tabs_mem h1⟩
end Go.Proofs.Ytnoelppkcbelcaa.Ty
