/-
The laws' helpers over rules.
-/
import Derived.Test.YthebdcoiibpfeaaMTx0
import Derived.Test.YthebdcoiibpfeaaMTx1
import Derived.Test.YthebdcoiibpfeaaMTx3
import Derived.Test.YthebdcoiibpfeaaMTx5
import Derived.Test.YthebdcoiibpfeaaBit
import Derived.Test.YthebdcoiibpfeaaLst
set_option linter.unusedSimpArgs false
set_option linter.unusedVariables false
namespace Go.Proofs.Ythebdcoiibpfeaa.MTH
open Go.RowKit Go.Proofs.Ythebdcoiibpfeaa.MT Go.Proofs.YthebdcoiibpfeaaW.PrintWords Go.Proofs.YthebdcoiibpfeaaW.PrintLast Go.Proofs.Ythebdcoiibpfeaa.Bit Go.Proofs.Ythebdcoiibpfeaa.Lst

def ruleOf (x : S76) : S74 := ⟨x.f0, x.f1, x.f2, x.f3, x.f4⟩
theorem szRuleS_yes (l : List S76) (left : Nat) (h : l.length ≤ left) (hb : left ≤ 1048576) : laws_szRuleS.f l left = some ((left - l.length : Nat) : Int) := by
  unfold laws_szRuleS.f
  have e : wrap64 ((left : Int) - l.length) = ((left - l.length : Nat) : Int) := by unfold wrap64; omega
  rw [e, if_neg (by omega)]
theorem szRuleS_no (l : List S76) (left : Nat) (h : left < l.length) (hb : left ≤ 1048576) (hl : l.length * 16 ≤ 140737488351232) : laws_szRuleS.f l left = some (-1) := by
  unfold laws_szRuleS.f
  rw [if_pos (by unfold wrap64; omega)]
theorem toRuleS_ev (l : List S76) (hl : l.length * 16 ≤ 140737488351232) : Ev (fun k => laws_toRuleS.f k l) (l.map ruleOf) := by
  have hb : (List.replicate l.length z74).length = l.length := by simp
  have h := ev_for (r := l.map ruleOf) l.length (fun k i => laws_toRuleS.l0 k l (run (fun j => ruleOf (rd_T76 l j)) (List.replicate l.length z74) i) i)
    (fun k => by
      simp only [laws_toRuleS.l0]
      rw [if_neg (by omega)]
      congr 1
      have hr := run_full (fun j => ruleOf (rd_T76 l j)) (List.replicate l.length z74)
      rw [hb] at hr
      rw [hr]
      have := map_range_getD l z76 ruleOf
      unfold rd_T76
      simp only [Int.toNat_natCast]
      exact this)
    (fun i hi k => by
      simp only [laws_toRuleS.l0, laws_toRule.f, Option.bind_some]
      rw [if_pos (by omega), if_pos (by omega), run_length _ _ (by omega), hb, if_pos (by omega), w1 (by omega), Int.toNat_natCast]
      rw [show (⟨(rd_T76 l i).f0, (rd_T76 l i).f1, (rd_T76 l i).f2, (rd_T76 l i).f3, (rd_T76 l i).f4⟩ : S74) = ruleOf (rd_T76 l i) from rfl]
      rw [run_set (fun j => ruleOf (rd_T76 l j)) _ (by omega)])
  rw [run_zero] at h
  refine Ev.congr (fun k => ?_) h
  unfold laws_toRuleS.f
  rw [if_pos (by omega), Int.toNat_natCast, if_pos (by omega)]
  rfl
theorem eqRule_self (x : S74) : laws_eqRule.f x.f0 x.f1 x.f2 x.f3 x.f4 x.f0 x.f1 x.f2 x.f3 x.f4 = some true := by
  unfold laws_eqRule.f
  simp
theorem eqRuleS_ev (l : List S74) (hl : l.length < 9223372036854775807) : Ev (fun k => laws_eqRuleS.f k l l) true := by
  have h := ev_for (r := true) l.length (fun k i => laws_eqRuleS.l0 k l l i)
    (fun k => by
      simp only [laws_eqRuleS.l0]
      rw [if_neg (by omega)])
    (fun i hi k => by
      simp only [laws_eqRuleS.l0, eqRule_self, Option.bind_some, if_true]
      rw [if_pos (by omega), if_pos (by omega), if_pos (by omega), w1 (by omega)])
  refine Ev.congr (fun k => ?_) h
  unfold laws_eqRuleS.f
  rw [if_pos rfl]
  rfl
theorem ruIn_map {l : List S76} (h : ∀ x ∈ l, Good76 x) : ∀ x ∈ l.map ruleOf, (0 ≤ x.f2 ∧ x.f2 < 256) ∧ (0 ≤ x.f3 ∧ x.f3 < 256) := by
  intro x hx
  obtain ⟨y, hy, rfl⟩ := List.mem_map.1 hx
  obtain ⟨_, _, h2, h3, _⟩ := h y hy
  exact ⟨wf_u8 h2, wf_u8 h3⟩
end Go.Proofs.Ythebdcoiibpfeaa.MTH
