/-
Code, loops, functions.
-/
import Derived.Test.YtnoelppkcbelcaaTy11
set_option linter.unusedVariables false
set_option linter.unusedSimpArgs false
namespace Go.Proofs.Ytnoelppkcbelcaa.Ty
open Go Go.RowKit

structure Res where
  norm : List St
  exits : List (Nat × St)
  rets : List St
def Res.none' : Res := ⟨[], [], []⟩
def Res.app (A B : Res) : Res := ⟨A.norm ++ B.norm, A.exits ++ B.exits, A.rets ++ B.rets⟩
def exitsOf (id : Nat) : List (Nat × St) → List St
  | [] => []
  | (j, S) :: r => if j = id then S :: exitsOf id r else exitsOf id r
def exitsNot (id : Nat) : List (Nat × St) → List (Nat × St)
  | [] => []
  | (j, S) :: r => if j = id then exitsNot id r else (j, S) :: exitsNot id r
theorem exitsOf_mem {id : Nat} {S : St} : ∀ {l : List (Nat × St)}, S ∈ exitsOf id l ↔ (id, S) ∈ l
  | [] => by simp [exitsOf]
  | (j, T) :: r => by
    unfold exitsOf
    split
    · rename_i h
      subst h
      rw [List.mem_cons, List.mem_cons, exitsOf_mem]
      simp
    · rename_i h
      rw [List.mem_cons, exitsOf_mem]
      constructor
      · exact .inr
      · rintro (h1 | h1)
        · cases h1; exact absurd rfl h
        · exact h1
theorem exitsNot_mem {id j : Nat} {S : St} (hj : j ≠ id) : ∀ {l : List (Nat × St)}, (j, S) ∈ l → (j, S) ∈ exitsNot id l
  | [], h => by simp at h
  | (i, T) :: r, h => by
    unfold exitsNot
    rcases List.mem_cons.1 h with h1 | h1
    · cases h1
      rw [if_neg hj]
      exact List.mem_cons_self
    · split
      · exact exitsNot_mem hj h1
      · exact List.mem_cons_of_mem _ (exitsNot_mem hj h1)
def bindRes (f : St → Option Res) : List St → Option Res
  | [] => some Res.none'
  | S :: r => match f S, bindRes f r with
    | some A, some B => some (A.app B)
    | _, _ => none
structure Res.Sub (A B : Res) : Prop where
  norm : ∀ S ∈ A.norm, S ∈ B.norm
  exits : ∀ x ∈ A.exits, x ∈ B.exits
  rets : ∀ S ∈ A.rets, S ∈ B.rets
theorem bindRes_mem {f : St → Option Res} : ∀ {L : List St} {R : Res}, bindRes f L = some R → ∀ S ∈ L, ∃ A, f S = some A ∧ A.Sub R
  | [], R, _, S, hS => by simp at hS
  | S0 :: r, R, h, S, hS => by
    unfold bindRes at h
    cases h1 : f S0 with
    | none => rw [h1] at h; cases h
    | some A => cases h2 : bindRes f r with
      | none => rw [h1, h2] at h; cases h
      | some B =>
        rw [h1, h2] at h
        cases h
        rcases List.mem_cons.1 hS with rfl | hS
        · exact ⟨A, h1, fun T hT => List.mem_append_left _ hT, fun T hT => List.mem_append_left _ hT, fun T hT => List.mem_append_left _ hT⟩
        · obtain ⟨C, h3, h4⟩ := bindRes_mem h2 S hS
          exact ⟨C, h3, fun T hT => List.mem_append_right _ (h4.norm T hT), fun T hT => List.mem_append_right _ (h4.exits T hT), fun T hT => List.mem_append_right _ (h4.rets T hT)⟩
/-- How a piece of code ends. -/
def GoodR (X : Ctx) (E : Env) (R : Res) : Exit → Act → World → Prop
  | .normal, a, w => GoodL X E R.norm a w
  | .exit id, a, w => GoodL X E (exitsOf id R.exits) a w
  | .ret, a, w => GoodL X E R.rets a w
  | _, _, _ => False
theorem GoodR.mono {X : Ctx} {E E' : Env} {A B : Res} (r : Rel E E') (h : A.Sub B) {e : Exit} {a : Act} {w : World} (hg : GoodR X E' A e a w) : GoodR X E B e a w := by
  cases e with
  | normal => exact (GoodL.mono h.norm hg).rel r
  | exit id => exact (GoodL.mono (fun S hS => exitsOf_mem.2 (h.exits _ (exitsOf_mem.1 hS))) hg).rel r
  | ret => exact (GoodL.mono h.rets hg).rel r
  | _ => exact hg.elim
/-- A loop, round after round. -/
def unroll (f : St → Option Res) : Nat → List St → Option Res
  | _, [] => some Res.none'
  | 0, _ :: _ => none
  | k + 1, S :: r => match bindRes f (S :: r) with
    | none => none
    | some R => match unroll f k (mergeSt [] R.norm) with
      | none => none
      | some R' => some ⟨[], R.exits ++ R'.exits, R.rets ++ R'.rets⟩
def clampSV (q : Nat) : SV → SV
  | .int k lo hi (some (s, d)) => if s < q then .int k lo hi (some (s, d)) else .int k lo hi none
  | .slice c lo hi (some s) => if s < q then .slice c lo hi (some s) else .slice c lo hi none
  | .bool t _ _ => .bool t [] []
  | s => s
/-- The state at a loop's head: the counter anywhere between its bounds. -/
def headOf (S : St) (t : Nat) (k : IntKind) (lo lim : Int) : St :=
  (S.map (clampSV S.nx)).setT t (.one (.cell (.int k lo lim none)))
def roundOf (H : St) (t : Nat) (k : IntKind) (lo lim : Int) : St :=
  { (H.setT t (.one (.cell (.int k lo lim (some (H.nx, 0)))))) with nx := H.nx + 1 }
def joinAll (S : St) : List St → St
  | [] => S
  | N :: r => joinAll (joinSt true S N) r
def counted (t : Nat) (k : IntKind) (c : Nat) (lim : Int) (N : St) : Bool := match getT N.tmps t with
  | .one (.cell (.int k' _ hi (some (s, d)))) => decide (k = k') && (decide (s = c) && (decide (1 ≤ d) && decide (hi ≤ lim)))
  | _ => false
def allB (p : St → Bool) : List St → Bool
  | [] => true
  | S :: r => p S && allB p r
def headOk (S H : St) (t : Nat) (k : IntKind) (lim : Int) (L : List St) : Bool :=
  leSt S H && ((match getT H.tmps t with | .one (.cell (.int k' _ hi none)) => decide (k = k') && decide (hi ≤ lim) | _ => false) && (decide (t < H.nt) && allB (fun N => leSt0 N H && counted t k H.nx lim N) L))
def countLoop (f : St → Option Res) (t : Nat) (k : IntKind) (lo lim : Int) (S : St) : Option Res :=
  match f (roundOf (headOf S t k lo lim) t k lo lim) with
  | none => none
  | some R1 =>
    let J := joinAll (headOf S t k lo lim) R1.norm
    let H := headOf { J with nx := S.nx } t k lo lim
    match f (roundOf H t k lo lim) with
    | none => none
    | some R2 =>
      match headOk S H t k lim R2.norm with
      | true => some ⟨[], R2.exits, R2.rets⟩
      | false => none
abbrev How := Nat → Option (Nat × IntKind × Int × Int)
/-- How a function is gone through. -/
structure Hint where
  how : How
  mg : Bool
  U : Nat
  keep : Option (List Nat)
  lp : Nat → Option (St × Res) := fun _ => none
def Hint.only (H : Hint) (S : St) : St := match H.keep with
  | some k => S.only k
  | none => S
theorem Good.hint {X : Ctx} {E : Env} {S : St} {a : Act} {w : World} (h : Good X E S a w) (H : Hint) : Good X E (H.only S) a w := by
  unfold Hint.only
  split
  · exact h.only _
  · exact h
def runCode (Γ : Kit) (H : Hint) : Nat → Code → St → Option Res
  | 0, _, _ => none
  | n + 1, c, S => match c with
    | .skip => some ⟨[S], [], []⟩
    | .region _ ops draw =>
      match (if draw then (if Region.noSelect ops then drawOps Γ ops (H.only S) else none) else seqOps Γ ops (List.range ops.size) [H.only S]) with
      | some L => some ⟨L, [], []⟩
      | none => none
    | .seq x y => match runCode Γ H n x S with
      | none => none
      | some A => match bindRes (runCode Γ H n y) A.norm with
        | none => none
        | some B => some ⟨B.norm, A.exits ++ B.exits, A.rets ++ B.rets⟩
    | .cond (.tmp t) x y => match S.eval (.tmp t) with
      | .one (.cell (.bool (some b) _ _)) => runCode Γ H n (if b then x else y) S
      | .one (.cell (.bool none ft ff)) =>
        let S1 := S.way t true ft
        let S0 := S.way t false ff
        match (if S1.bad then some Res.none' else runCode Γ H n x S1), (if S0.bad then some Res.none' else runCode Γ H n y S0) with
        | some A, some B => some ⟨if H.mg then mergeSt [] ((A.norm ++ B.norm).map H.only) else A.norm ++ B.norm, A.exits ++ B.exits, A.rets ++ B.rets⟩
        | _, _ => none
      | _ => none
    | .block id c => match (match c with
        | .loop d => match H.lp id with
          | some (S0, R0) => if leSt S S0 then some R0 else none
          | none => match H.how id with
            | some (t, k, lo, lim) => countLoop (runCode Γ H n d) t k lo lim S
            | none => runCode Γ H n c S
        | _ => runCode Γ H n c S) with
      | none => none
      | some A => some ⟨if H.mg then mergeSt [] ((A.norm ++ exitsOf id A.exits).map H.only) else A.norm ++ exitsOf id A.exits, exitsNot id A.exits, A.rets⟩
    | .loop d => unroll (runCode Γ H n d) H.U [S]
    | .exit id => some ⟨[], [(id, S)], []⟩
    | .ret => some ⟨[], [], [S]⟩
    | _ => none
/-- The bodies of the loops that stand in a block of that number. -/
def loopsAt (id : Nat) : Code → List Code
  | .seq x y => loopsAt id x ++ loopsAt id y
  | .cond _ x y => loopsAt id x ++ loopsAt id y
  | .block j (.loop d) => if j = id then d :: loopsAt id d else loopsAt id d
  | .block _ c => loopsAt id c
  | .loop d => loopsAt id d
  | _ => []
/-- A loop that was gone through elsewhere. -/
def LoopOK (X : Ctx) (d : Code) (S0 : St) (R : Res) : Prop := ∀ (E : Env) (a : Act) (w : World), Good X E S0 a w → (Code.loop d).wp X.P (GoodR X E R) a w
def LpOK (X : Ctx) (H : Hint) (c : Code) : Prop := ∀ id S0 R, H.lp id = some (S0, R) → ∀ d ∈ loopsAt id c, LoopOK X d S0 R
theorem least {p : Nat → Prop} (h : ∃ n, p n) : ∃ n, p n ∧ ∀ m, p m → n ≤ m := by
  obtain ⟨n, hn⟩ := h
  induction n using Nat.strongRecOn with
  | _ n ih =>
    by_cases hh : ∃ m, m < n ∧ p m
    · obtain ⟨m, h1, h2⟩ := hh
      exact ih m h1 h2
    · refine ⟨n, hn, fun m hm => ?_⟩
      rcases Nat.lt_or_ge m n with h1 | h1
      · exact absurd ⟨m, h1, hm⟩ hh
      · exact h1
theorem unroll_ok {X : Ctx} (hX : X.hd = []) {f : St → Option Res} {d : Code} (hf : ∀ S R, f S = some R → ∀ E a w, Good X E S a w → d.wp X.P (GoodR X E R) a w) {U : Nat} {L : List St} {R : Res} (h : unroll f U L = some R) {E : Env} {a : Act} {w : World} (hg : GoodL X E L a w) : (Code.loop d).wp X.P (GoodR X E R) a w := by
  let Lev : Nat → Act → World → Prop := fun j a w => ∃ M R', unroll f j M = some R' ∧ (∀ x ∈ R'.exits, x ∈ R.exits) ∧ (∀ x ∈ R'.rets, x ∈ R.rets) ∧ GoodL X E M a w
  classical
  refine wp_loop (I := fun a w => ∃ j, Lev j a w) (μ := fun a w => if hh : ∃ j, Lev j a w then Classical.choose (least hh) else 0) ⟨U, L, R, h, fun _ hx => hx, fun _ hx => hx, hg⟩ ?_
  intro a w hI
  have hspec := (Classical.choose_spec (least hI)).1
  have hmu : (if hh : ∃ j, Lev j a w then Classical.choose (least hh) else 0) = Classical.choose (least hI) := dif_pos hI
  simp only [hmu]
  generalize Classical.choose (least hI) = j at hspec
  obtain ⟨M, R', h1, h2, h3, S, hS, E', r, hg'⟩ := hspec
  cases M with
  | nil => simp at hS
  | cons S0 M =>
    cases j with
    | zero => simp [unroll] at h1
    | succ j =>
      unfold unroll at h1
      cases hb : bindRes f (S0 :: M) with
      | none => rw [hb] at h1; cases h1
      | some R1 =>
        rw [hb] at h1
        simp only at h1
        cases hu : unroll f j (mergeSt [] R1.norm) with
        | none => rw [hu] at h1; cases h1
        | some R2 =>
          rw [hu] at h1
          cases h1
          obtain ⟨A, hA, hsub⟩ := bindRes_mem hb S hS
          refine wp_mono (hf S A hA E' a w hg') ?_
          intro e a' w' hr
          have hr2 := GoodR.mono (X := X) r hsub hr
          cases e with
          | normal =>
            have hlev : Lev j a' w' := ⟨_, R2, hu, fun x hx => h2 x (List.mem_append_right _ hx), fun x hx => h3 x (List.mem_append_right _ hx), mergeSt_ok hX (show GoodL X E ([] ++ R1.norm) a' w' from hr2)⟩
            refine ⟨⟨j, hlev⟩, ?_⟩
            have hh : ∃ j, Lev j a' w' := ⟨j, hlev⟩
            simp only [dif_pos hh]
            exact Nat.lt_succ_of_le ((Classical.choose_spec (least hh)).2 j hlev)
          | exit id => exact GoodL.mono (fun S hS => exitsOf_mem.2 (h2 _ (List.mem_append_left _ (exitsOf_mem.1 hS)))) hr2
          | ret => exact GoodL.mono (fun S hS => h3 _ (List.mem_append_left _ hS)) hr2
          | _ => exact hr2.elim
theorem allB_mem {p : St → Bool} : ∀ {L : List St}, allB p L = true → ∀ S ∈ L, p S = true
  | [], _, S, hS => by simp at hS
  | S0 :: r, h, S, hS => by
    simp only [allB, Bool.and_eq_true] at h
    rcases List.mem_cons.1 hS with rfl | hS
    · exact h.1
    · exact allB_mem h.2 S hS
def cntOf (t : Nat) (a : Act) : Int := match a.tmps.getD t undef with
  | .int _ n => n
  | _ => 0
theorem countLoop_ok {X : Ctx} (hX : X.hd = []) {f : St → Option Res} {d : Code} (hf : ∀ S R, f S = some R → ∀ E a w, Good X E S a w → d.wp X.P (GoodR X E R) a w) {t : Nat} {k : IntKind} {lo lim : Int} {S : St} {R : Res} (h : countLoop f t k lo lim S = some R) {E : Env} {a : Act} {w : World} (hg : Good X E S a w) : (Code.loop d).wp X.P (GoodR X E R) a w := by
  unfold countLoop at h
  split at h
  · cases h
  · rename_i R1 hR1
    dsimp only at h
    split at h
    · cases h
    · rename_i R2 hR2
      split at h
      · rename_i hc
        cases h
        unfold headOk at hc
        generalize hH : headOf { joinAll (headOf S t k lo lim) R1.norm with nx := S.nx } t k lo lim = H at hR2 hc
        simp only [Bool.and_eq_true, decide_eq_true_eq] at hc
        obtain ⟨c1, c2, c3, c4⟩ := hc
        have hle := c1
        unfold leSt at hle
        simp only [Bool.and_eq_true, decide_eq_true_eq] at hle
        obtain ⟨hle0, hnx⟩ := hle
        -- the counter's cell at the head
        have hcell : ∃ lo' hi', getT H.tmps t = .one (.cell (.int k lo' hi' none)) ∧ hi' ≤ lim := by
          split at c2
          · rename_i k' lo' hi' heq
            simp only [Bool.and_eq_true, decide_eq_true_eq] at c2
            obtain ⟨rfl, h2⟩ := c2
            exact ⟨lo', hi', heq, h2⟩
          · cases c2
        have hHt : getT H.tmps t = .one (.cell (.int k lo lim none)) := by
          have hl : t < H.nt := c3
          subst hH
          exact getT_self hl _ _
        refine wp_loop (I := fun a w => ∃ E', Rel E E' ∧ Good X E' H a w) (μ := fun a w => (lim + 1 - cntOf t a).toNat) ⟨{ E with nx := H.nx, nb := H.bl.length }, ⟨by rw [hg.nx]; exact hnx, fun _ _ => rfl⟩, leSt0_ok hX hle0 hg⟩ ?_
        rintro a w ⟨E', r, hg'⟩
        have hv := hg'.tmps t
        rw [hHt] at hv
        obtain ⟨n, hn, n0, n1, _⟩ := hv
        -- the round's own name of the counter
        have hren := hg'.ren (Ren.bump E' n)
        have hb : (E'.bump n).nx = H.nx + 1 := by rw [← hg'.nx]; rfl
        have hround : Good X (E'.bump n) (roundOf H t k lo lim) a w := by
          have h9 := hren.sharpen (t := t) (av := .one (.cell (.int k lo lim (some (H.nx, 0))))) (by
            rw [hn]
            refine ⟨n, rfl, n0, n1, fun s dd hs => ?_⟩
            obtain ⟨rfl, rfl⟩ : H.nx = s ∧ 0 = dd := by simpa using hs
            exact ⟨by rw [hb]; exact Nat.lt_succ_self _, by simp [Env.bump, hg'.nx]⟩)
          rw [hb] at h9
          exact h9
        refine wp_mono (hf _ _ hR2 _ a w hround) ?_
        intro e a' w' hr
        have r2 : Rel E (E'.bump n) := r.trans (Ren.bump E' n).ext.rel
        cases e with
        | normal =>
          obtain ⟨N, hN, E3, r3, hg3⟩ := hr
          have hN2 := allB_mem c4 N hN
          simp only [Bool.and_eq_true] at hN2
          obtain ⟨hN3, hN4⟩ := hN2
          have hg4 := leSt0_ok hX hN3 hg3
          have h5 : Rel E { E3 with nx := H.nx, nb := H.bl.length } := by
            refine ⟨Nat.le_trans r.nx (by rw [hg'.nx]; exact Nat.le_refl _), fun s hs => ?_⟩
            have hs1 : s < E'.nx := Nat.lt_of_lt_of_le hs r.nx
            have hs2 : s < (E'.bump n).nx := Nat.lt_of_lt_of_le hs1 (Nat.le_succ _)
            show E3.σ s = _
            rw [r3.σ s hs2, r2.σ s hs]
          refine ⟨⟨_, h5, hg4⟩, ?_⟩
          unfold counted at hN4
          split at hN4
          · rename_i k' lo' hi' s dd heq
            simp only [Bool.and_eq_true, decide_eq_true_eq] at hN4
            obtain ⟨rfl, rfl, hd, hl⟩ := hN4
            have hv3 := hg3.tmps t
            rw [heq] at hv3
            obtain ⟨m, hm, m0, m1, m2⟩ := hv3
            obtain ⟨_, hm3⟩ := m2 H.nx dd rfl
            have e1 : E3.σ H.nx = n := by
              rw [r3.σ H.nx (by rw [hb]; exact Nat.lt_succ_self _)]
              simp [Env.bump, hg'.nx]
            have e2 : cntOf t a' = m := by unfold cntOf; rw [hm]
            have e3 : cntOf t a = n := by unfold cntOf; rw [hn]
            rw [e2, e3]
            omega
          · cases hN4
        | exit id => exact GoodL.rel r2 hr
        | ret => exact GoodL.rel r2 hr
        | _ => exact hr.elim
      · cases h
theorem runCode_ok {X : Ctx} (hX : X.hd = []) {Γ : Kit} (hE : Env2 X Γ) (hmix : X.P.follows .mixedOrders = true) {H : Hint} : ∀ {n : Nat} {c : Code} {S : St} {R : Res}, LpOK X H c → runCode Γ H n c S = some R → ∀ {E : Env} {a : Act} {w : World}, Good X E S a w → c.wp X.P (GoodR X E R) a w
  | 0, c, S, R, _, h, E, a, w, hg => by cases h
  | n + 1, c, S, R, hl, h, E, a, w, hg => by
    have mrg : ∀ {L : List St} {a' : Act} {w' : World}, GoodL X E L a' w' → GoodL X E (if H.mg then mergeSt [] (L.map H.only) else L) a' w' := fun hl => by
      split
      · refine mergeSt_ok hX ?_
        obtain ⟨S, hS, E', r, hg'⟩ := hl
        exact ⟨H.only S, List.mem_map.2 ⟨S, hS, rfl⟩, E', r, hg'.hint H⟩
      · exact hl
    unfold runCode at h
    cases c with
    | skip =>
      cases h
      exact wp_skip (GoodL.one (Rel.refl E) hg)
    | region id ops draw =>
      simp only at h
      split at h
      · rename_i L hL
        cases h
        cases draw with
        | false =>
          simp only [Bool.false_eq_true, if_false] at hL
          exact wp_region (seqOps_ok hE hL (fun a' w' hh => hh) (GoodL.one (Rel.refl E) (hg.hint H)))
        | true =>
          simp only [if_true] at hL
          split at hL
          · rename_i hs
            refine wp_region_any hmix ?_
            exact drawOps_ok hE hX hs (fun c a w hq => hq) hL (fun a' w' hh => hh) ((hg.hint H).draw _)
          · cases hL
      · cases h
    | seq x y =>
      simp only at h
      cases hx : runCode Γ H n x S with
      | none => rw [hx] at h; cases h
      | some A =>
        rw [hx] at h
        simp only at h
        cases hy : bindRes (runCode Γ H n y) A.norm with
        | none => rw [hy] at h; cases h
        | some B =>
          rw [hy] at h
          cases h
          refine wp_seq (wp_mono (runCode_ok hX hE hmix (fun i s r hh d hd => hl i s r hh d (List.mem_append_left _ hd)) hx hg) ?_)
          intro e a' w' hr
          cases e with
          | normal =>
            obtain ⟨S', hS', E', r, hg'⟩ := hr
            obtain ⟨C, hC, hsub⟩ := bindRes_mem hy S' hS'
            refine wp_mono (runCode_ok hX hE hmix (fun i s r hh d hd => hl i s r hh d (List.mem_append_right _ hd)) hC hg') fun e a'' w'' hr2 => ?_
            exact GoodR.mono (B := ⟨B.norm, A.exits ++ B.exits, A.rets ++ B.rets⟩) r ⟨hsub.norm, fun x hx => List.mem_append_right _ (hsub.exits x hx), fun x hx => List.mem_append_right _ (hsub.rets x hx)⟩ hr2
          | exit id => exact GoodL.mono (fun S hS => exitsOf_mem.2 (List.mem_append_left _ (exitsOf_mem.1 hS))) hr
          | ret => exact GoodL.mono (fun S hS => List.mem_append_left _ hS) hr
          | _ => exact hr.elim
    | cond o x y =>
      cases o with
      | tmp t =>
        simp only at h
        have hv := hg.tmps t
        split at h
        · rename_i b ft ff heq
          have heq' : getT S.tmps t = .one (.cell (.bool (some b) ft ff)) := heq
          rw [heq'] at hv
          obtain ⟨b', hb, h1, _⟩ := hv
          obtain rfl := h1 b rfl
          refine wp_cond (t := b') hb ?_
          cases b'
          · exact runCode_ok hX hE hmix (fun i s r hh d hd => hl i s r hh d (List.mem_append_right _ hd)) h hg
          · exact runCode_ok hX hE hmix (fun i s r hh d hd => hl i s r hh d (List.mem_append_left _ hd)) h hg
        · rename_i ft ff heq
          have heq' : getT S.tmps t = .one (.cell (.bool none ft ff)) := heq
          rw [heq'] at hv
          obtain ⟨b, hb, _, h2, h3⟩ := hv
          split at h
          · rename_i A B hA hB
            cases h
            refine wp_cond (t := b) hb ?_
            cases b with
            | true =>
              have hg1 : Good X E (S.way t true ft) a w := hg.way hb (h2 rfl)
              rw [hg1.not_bad] at hA
              simp only [Bool.false_eq_true, if_false] at hA
              simp only [if_true]
              refine wp_mono (runCode_ok hX hE hmix (fun i s r hh d hd => hl i s r hh d (List.mem_append_left _ hd)) hA hg1) fun e a' w' hr => ?_
              cases e with
              | normal => exact mrg (GoodL.mono (fun S hS => List.mem_append_left _ hS) hr)
              | exit id => exact GoodL.mono (fun S hS => exitsOf_mem.2 (List.mem_append_left _ (exitsOf_mem.1 hS))) hr
              | ret => exact GoodL.mono (fun S hS => List.mem_append_left _ hS) hr
              | _ => exact hr.elim
            | false =>
              have hg1 : Good X E (S.way t false ff) a w := hg.way hb (h3 rfl)
              rw [hg1.not_bad] at hB
              simp only [Bool.false_eq_true, if_false] at hB
              simp only [Bool.false_eq_true, if_false]
              refine wp_mono (runCode_ok hX hE hmix (fun i s r hh d hd => hl i s r hh d (List.mem_append_right _ hd)) hB hg1) fun e a' w' hr => ?_
              cases e with
              | normal => exact mrg (GoodL.mono (fun S hS => List.mem_append_right _ hS) hr)
              | exit id => exact GoodL.mono (fun S hS => exitsOf_mem.2 (List.mem_append_right _ (exitsOf_mem.1 hS))) hr
              | ret => exact GoodL.mono (fun S hS => List.mem_append_right _ hS) hr
              | _ => exact hr.elim
          · cases h
        · cases h
      | _ => cases h
    | block id c =>
      simp only at h
      split at h
      · cases h
      · rename_i A hA
        cases h
        have hbody : c.wp X.P (GoodR X E A) a w := by
          have hl' : LpOK X H c := fun i s r hh d hd => hl i s r hh d (by
            cases c with
            | loop d' =>
              simp only [loopsAt] at hd ⊢
              split
              · exact List.mem_cons_of_mem _ hd
              · exact hd
            | _ => exact hd)
          cases c with
          | loop d =>
            simp only at hA
            split at hA
            · rename_i S0 R0 hlp
              split at hA
              · rename_i hle
                cases hA
                obtain ⟨E', r, hg'⟩ := leSt_ok hX hle hg
                refine wp_mono (hl id S0 _ hlp d (by simp [loopsAt]) E' a w hg') fun e a' w' hr => ?_
                exact GoodR.mono r ⟨fun _ h => h, fun _ h => h, fun _ h => h⟩ hr
              · cases hA
            · split at hA
              · have hd : LpOK X H d := fun i s r hh d' hd' => hl' i s r hh d' hd'
                exact countLoop_ok hX (fun S R hS E a w hg => runCode_ok hX hE hmix hd hS hg) hA hg
              · exact runCode_ok hX hE hmix hl' hA hg
          | _ => exact runCode_ok hX hE hmix hl' hA hg
        refine wp_block (wp_mono hbody fun e a' w' hr => ?_)
        cases e with
        | normal => exact mrg (GoodL.mono (fun S hS => List.mem_append_left _ hS) hr)
        | exit id' =>
          show if id' = id then _ else _
          split
          · rename_i he
            subst he
            exact mrg (GoodL.mono (fun S hS => List.mem_append_right _ hS) hr)
          · rename_i he
            exact GoodL.mono (fun S hS => exitsOf_mem.2 (exitsNot_mem he (exitsOf_mem.1 hS))) hr
        | ret => exact hr
        | _ => exact hr.elim
    | loop d =>
      have hd : LpOK X H d := fun i s r hh d' hd' => hl i s r hh d' hd'
      exact unroll_ok hX (fun S R hS E a w hg => runCode_ok hX hE hmix hd hS hg) h (GoodL.one (Rel.refl E) hg)
    | exit id =>
      cases h
      refine wp_exit ?_
      show GoodL X E (exitsOf id [(id, S)]) a w
      rw [show exitsOf id [(id, S)] = [S] by simp [exitsOf]]
      exact GoodL.one (Rel.refl E) hg
    | ret =>
      cases h
      exact wp_ret (GoodL.one (Rel.refl E) hg)
    | _ => cases h
/-- One round, from one state at the loop's head to another. -/
def roundB (Γ : Kit) (H : Hint) (fuel : Nat) (d : Code) (S S' : St) (EX : List (Nat × St)) : Bool := match runCode Γ H fuel d S with
  | none => false
  | some R => allB (fun T => leSt T S') R.norm && (R.exits.all (fun x => EX.any fun y => decide (x.1 = y.1) && leSt x.2 y.2) && (match R.rets with | [] => true | _ => false))
/-- The last round: none behind it. -/
def lastB (Γ : Kit) (H : Hint) (fuel : Nat) (d : Code) (S : St) (EX : List (Nat × St)) : Bool := match runCode Γ H fuel d S with
  | none => false
  | some R => (match R.norm with | [] => true | _ => false) && (R.exits.all (fun x => EX.any fun y => decide (x.1 = y.1) && leSt x.2 y.2) && (match R.rets with | [] => true | _ => false))
theorem exits_le {X : Ctx} (hX : X.hd = []) {E E' : Env} (r : Rel E E') {a : Act} {w : World} {id : Nat} {xs EX : List (Nat × St)} (h : (xs.all fun x => EX.any fun y => decide (x.1 = y.1) && leSt x.2 y.2) = true) (hg : GoodL X E' (exitsOf id xs) a w) : GoodL X E (exitsOf id EX) a w := by
  obtain ⟨S, hS, E2, r2, hg2⟩ := hg
  have h1 := List.all_eq_true.1 h _ (exitsOf_mem.1 hS)
  obtain ⟨⟨j, T⟩, hT, h2⟩ := List.any_eq_true.1 h1
  simp only [Bool.and_eq_true, decide_eq_true_eq] at h2
  obtain ⟨rfl, h3⟩ := h2
  obtain ⟨E3, r3, hg3⟩ := leSt_ok hX h3 hg2
  exact ⟨T, exitsOf_mem.2 hT, E3, (r.trans r2).trans r3, hg3⟩
theorem heads_ok {X : Ctx} (hX : X.hd = []) {Γ : Kit} (hE : Env2 X Γ) (hmix : X.P.follows .mixedOrders = true) {H : Hint} {fuel : Nat} {d : Code} (hl : LpOK X H d) {hs : Nat → St} {n : Nat} {EX : List (Nat × St)}
    (hr : ∀ k, k < n → roundB Γ H fuel d (hs k) (hs (k + 1)) EX = true) (hn : lastB Γ H fuel d (hs n) EX = true) : LoopOK X d (hs 0) ⟨[], EX, []⟩ := by
  intro E a w hg
  let Lev : Nat → Act → World → Prop := fun j a w => ∃ k, k + j = n ∧ ∃ E', Rel E E' ∧ Good X E' (hs k) a w
  classical
  refine wp_loop (I := fun a w => ∃ j, Lev j a w) (μ := fun a w => if hh : ∃ j, Lev j a w then Classical.choose (least hh) else 0) ⟨n, 0, by omega, E, Rel.refl E, hg⟩ ?_
  intro a w hI
  have hspec := (Classical.choose_spec (least hI)).1
  have hmu : (if hh : ∃ j, Lev j a w then Classical.choose (least hh) else 0) = Classical.choose (least hI) := dif_pos hI
  simp only [hmu]
  generalize Classical.choose (least hI) = j at hspec
  obtain ⟨k, hk, E', r, hg'⟩ := hspec
  cases j with
  | zero =>
    obtain rfl : k = n := by omega
    unfold lastB at hn
    split at hn
    · cases hn
    · rename_i R hR
      simp only [Bool.and_eq_true] at hn
      obtain ⟨h1, h2, h3⟩ := hn
      refine wp_mono (runCode_ok hX hE hmix hl hR hg') fun e a' w' hr' => ?_
      cases e with
      | normal =>
        have : GoodL X E' R.norm a' w' := hr'
        obtain ⟨S, hS, _⟩ := this
        split at h1
        · rename_i e; rw [e] at hS; cases hS
        · cases h1
      | exit id => exact exits_le hX r h2 hr'
      | ret =>
        have : GoodL X E' R.rets a' w' := hr'
        obtain ⟨S, hS, _⟩ := this
        split at h3
        · rename_i e; rw [e] at hS; cases hS
        · cases h3
      | _ => exact hr'.elim
  | succ j =>
    have hb := hr k (by omega)
    unfold roundB at hb
    split at hb
    · cases hb
    · rename_i R hR
      simp only [Bool.and_eq_true] at hb
      obtain ⟨h1, h2, h3⟩ := hb
      refine wp_mono (runCode_ok hX hE hmix hl hR hg') fun e a' w' hr' => ?_
      cases e with
      | normal =>
        have : GoodL X E' R.norm a' w' := hr'
        obtain ⟨S, hS, E2, r2, hg2⟩ := this
        obtain ⟨E3, r3, hg3⟩ := leSt_ok hX (allB_mem h1 S hS) hg2
        have hlev : Lev j a' w' := ⟨k + 1, by omega, E3, (r.trans r2).trans r3, hg3⟩
        refine ⟨⟨j, hlev⟩, ?_⟩
        have hh : ∃ j, Lev j a' w' := ⟨j, hlev⟩
        simp only [dif_pos hh]
        exact Nat.lt_succ_of_le ((Classical.choose_spec (least hh)).2 j hlev)
      | exit id => exact exits_le hX r h2 hr'
      | ret =>
        have : GoodL X E' R.rets a' w' := hr'
        obtain ⟨S, hS, _⟩ := this
        split at h3
        · rename_i e; rw [e] at hS; cases hS
        · cases h3
      | _ => exact hr'.elim
end Go.Proofs.Ytnoelppkcbelcaa.Ty
