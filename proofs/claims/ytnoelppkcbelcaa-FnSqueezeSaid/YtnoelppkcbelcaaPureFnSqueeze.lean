/-
FnSqueeze behind its draw: a capture comes back from its small form, which never has more bytes than its plain one.
-/
import Derived.Test.YtnoelppkcbelcaaMQx0
import Derived.Test.YtnoelppkcbelcaaMQx4
import Derived.Test.YtnoelppkcbelcaaMQx5
import Derived.Test.YtnoelppkcbelcaaQUnsqI
import Derived.Test.YtnoelppkcbelcaaQPackI
set_option linter.unusedSimpArgs false
set_option linter.unusedVariables false
namespace Go.Proofs.Ytnoelppkcbelcaa.Pure
open Go.RowKit Go.Proofs.Ytnoelppkcbelcaa.MQ Go.Proofs.Ytnoelppkcbelcaa.MQH Go.Proofs.YtnoelppkcbelcaaW.PrintWords Go.Proofs.YtnoelppkcbelcaaW.PrintLast Go.Proofs.Ytnoelppkcbelcaa.Bit Go.Proofs.Ytnoelppkcbelcaa.Lst
theorem sameCycs_ev (l : List S32) (hl : l.length < 9223372036854775807) : Ev (fun k => laws_sameCycs.f k l l) true := by
  have h := ev_for (r := true) l.length (fun k i => laws_sameCycs.l0 k l l i)
    (fun k => by
      simp only [laws_sameCycs.l0]
      rw [if_neg (by omega)])
    (fun i hi k => by
      simp only [laws_sameCycs.l0]
      rw [if_pos (by omega), if_pos (by omega), if_pos (by omega), if_neg (by simp), w1 (by omega)])
  refine Ev.congr (fun k => ?_) h
  unfold laws_sameCycs.f
  rw [if_pos rfl]
  rfl
theorem FnSqueeze (l : List S32) (hl : l.length ≤ 1201) (hg : ∀ x ∈ l, (Lit.int .u16 x.f0).wf = true ∧ (Lit.int .u8 x.f1).wf = true) : ∃ k, laws_FnSqueeze.f k l = some true := by
  refine Ev.rounds (g := fun k => laws_FnSqueeze.f k l) ?_
  have hc : ∀ x ∈ l, CyOk x := fun x hx => ⟨wf_u16 (hg x hx).1, wf_u8 (hg x hx).2⟩
  simp only [laws_FnSqueeze.f]
  by_cases hs : l.length ≤ 1200
  · have h1 := impl_squeeze_ev l hs hc
    have hlen := sqTo_len l l.length
    have hpk := pkTo_len l l.length
    have h2 := impl_back l hc hs
    rw [← sqTo_all] at h2
    have hG : Ev (fun k => impl_Gain.f k l) (((4 * l.length - (sqTo l l.length).length : Nat)) : Int) := by
      simp only [impl_Gain.f]
      refine Ev.bind (impl_pack_ev l hs hc) (Ev.bind h1 ?_)
      refine Ev.congr (fun k => ?_) (Ev.now _)
      congr 1
      unfold wrap64
      omega
    refine Ev.bind h1 ?_
    simp only [if_neg (show ¬ (l.length : Int) > 1200 by omega)]
    refine Ev.bind h2 ?_
    simp only [if_true]
    refine Ev.bind (sameCycs_ev l (by omega)) ?_
    simp only [if_true]
    refine Ev.bind hG ?_
    have e : (((4 * l.length - (sqTo l l.length).length : Nat)) : Int) = wrap64 (wrap64 (4 * (l.length : Int)) - ((sqTo l l.length).length : Int)) := by
      unfold wrap64
      omega
    simp only [if_pos e]
    refine Ev.bind hG ?_
    refine Ev.congr (fun k => ?_) (Ev.now true)
    rw [decide_eq_true (by omega)]
  · refine Ev.bind (impl_squeeze_long l (by omega)) ?_
    simp only [if_pos (show (l.length : Int) > 1200 by omega)]
    exact Ev.now true
end Go.Proofs.Ytnoelppkcbelcaa.Pure
