/-
What follows the capture in the draw of small forms returns, whatever the cursor holds: bytes.
-/
import Derived.Test.YtnoelppkcbelcaaSTy16
import Derived.Test.YtnoelppkcbelcaaSUnsqWhat
import Derived.Test.YtnoelppkcbelcaaMSx0
import Derived.Test.YtnoelppkcbelcaaMSx5
set_option linter.unusedSimpArgs false
set_option linter.unusedVariables false
namespace Go.Proofs.Ytnoelppkcbelcaa.MSC
open Go.RowKit Go.Proofs.Ytnoelppkcbelcaa.MS Go.Proofs.Ytnoelppkcbelcaa.MSH Go.Proofs.YtnoelppkcbelcaaW.PrintWords Go.Proofs.YtnoelppkcbelcaaW.PrintLast Go.Proofs.Ytnoelppkcbelcaa.Bit Go.Proofs.Ytnoelppkcbelcaa.Lst
def DrawUnsqueeze_out (r1 : List Int) : Prop := BIn r1
theorem mod_in (x : Int) : 0 ≤ x % 256 ∧ x % 256 < 256 := by omega
theorem DrawUnsqueeze_tot (f0 : List Int) (f1 f2 : Int) (l : List S32) (ha : At f0 f1) (hl : l.length ≤ 160) (hg : ∀ x ∈ l, (Lit.int .u16 x.f0).wf = true ∧ (Lit.int .u8 x.f1).wf = true) :
  ∃ k r1 r2 r3, spec_DrawUnsqueeze.f k f0 f1 f2 l = some (r1, r2, r3) ∧ DrawUnsqueeze_out r1 := by
 have hc : ∀ x ∈ l, CyOk x := fun x hx => ⟨wf_u16 (hg x hx).1, wf_u8 (hg x hx).2⟩
 have h1 := spec_squeeze_ev l (by omega) hc
 have hlen := (sqTo_len l l.length).2
 have hb : BIn (sqTo l l.length) := by
  rw [sqTo_all]
  exact sqFrom_in l zc hc
 generalize sqTo l l.length = b at h1 hlen hb
 suffices h : ∃ r : List Int × Int × Int, Ev (fun k => spec_DrawUnsqueeze.f k f0 f1 f2 l) r ∧ BIn r.1 by
  obtain ⟨⟨r1, r2, r3⟩, he, ho⟩ := h
  obtain ⟨k, hk⟩ := Ev.rounds he
  exact ⟨k, r1, r2, r3, hk, ho⟩
 obtain ⟨v, p, s, e, hv, hp⟩ := below_ok f0 f1 f2 6 ha (by decide)
 simp only [spec_DrawUnsqueeze.f]
 by_cases c0 : v = 0
 ·obtain ⟨v1, p1, s1, e1, hv1, _⟩ := below_ok f0 p s (wrap64 ((b.length : Int) + 1)) hp (by rw [w1 (by omega)]; omega)
  have hv2 : v1 ≤ (b.length : Int) := by
   have := hv1.2
   rw [w1 (by omega)] at this
   omega
  refine ⟨(b.take v1.toNat, p1, s1), Ev.bind h1 ?_, fun x hx => hb x (List.mem_of_mem_take hx)⟩
  simp only [e, Option.bind_some, if_pos c0, e1, if_pos hv1.1, if_pos hv2]
  exact Ev.now _
 ·by_cases c1 : v = 1
  ·by_cases c2 : (b.length : Int) > 0
   ·obtain ⟨v1, p1, s1, e1, hv1, hp1⟩ := below_ok f0 p s (b.length : Int) hp c2
    obtain ⟨v2, p2, s2, e2, hv2, _⟩ := below_ok f0 p1 s1 18 hp1 (by decide)
    refine ⟨(b.set v1.toNat (v2 % 256), p2, s2), Ev.bind h1 ?_, fun x hx => ?_⟩
    ·simp only [e, Option.bind_some, if_neg c0, if_pos c1, if_pos c2, e1, e2, if_pos hv1.1, if_pos hv1.2]
     exact Ev.now _
    ·rcases List.mem_or_eq_of_mem_set hx with h | h
     ·exact hb x h
     ·rw [h]
      exact mod_in v2
   ·refine ⟨(b, p, s), Ev.bind h1 ?_, hb⟩
    simp only [e, Option.bind_some, if_neg c0, if_pos c1, if_neg c2]
    exact Ev.now _
  ·by_cases c2 : v = 2
   ·obtain ⟨v1, p1, s1, e1, hv1, hp1⟩ := below_ok f0 p s 18 hp (by decide)
    refine ⟨(b ++ [v1 % 256, 1, 2], p1, s1), Ev.bind h1 ?_, fun x hx => ?_⟩
    ·simp only [e, Option.bind_some, if_neg c0, if_neg c1, if_pos c2, e1]
     rw [if_pos (by simp; omega)]
     exact Ev.now _
    ·rcases List.mem_append.1 hx with h | h
     ·exact hb x h
     ·simp at h
      rcases h with h | h | h <;> omega
   ·by_cases c3 : v = 3
    ·obtain ⟨v1, p1, s1, e1, hv1, hp1⟩ := below_ok f0 p s 3 hp (by decide)
     obtain ⟨n, hn⟩ : ∃ n : Nat, wrap64 (1199 + v1) = (n : Int) ∧ n ≤ 1201 := ⟨(1199 + v1).toNat, by rw [wrap_in (by omega) (by omega)]; omega, by omega⟩
     have hloop : Ev (fun k => spec_DrawUnsqueeze.l0 k [] (n : Int) 0 f0 p1 s1) (List.replicate n 10, p1, s1) := by
      have h := ev_for (r := (List.replicate n (10 : Int), p1, s1)) n (fun k i => spec_DrawUnsqueeze.l0 k (List.replicate i 10) (n : Int) (i : Int) f0 p1 s1)
       (fun k => by
        simp only [spec_DrawUnsqueeze.l0]
        rw [if_neg (by omega)])
       (fun i hi k => by
        simp only [spec_DrawUnsqueeze.l0]
        rw [if_pos (by omega), if_pos (by simp; omega), w1 (by omega), ← List.replicate_succ'])
      exact h
     refine ⟨(List.replicate n 10, p1, s1), Ev.bind h1 ?_, fun x hx => ?_⟩
     ·simp only [e, Option.bind_some, if_neg c0, if_neg c1, if_neg c2, if_pos c3, e1, hn.1]
      exact hloop
     ·rw [List.eq_of_mem_replicate hx]
      decide
    ·refine ⟨(b, p, s), Ev.bind h1 ?_, hb⟩
     simp only [e, Option.bind_some, if_neg c0, if_neg c1, if_neg c2, if_neg c3]
     exact Ev.now _
end Go.Proofs.Ytnoelppkcbelcaa.MSC
