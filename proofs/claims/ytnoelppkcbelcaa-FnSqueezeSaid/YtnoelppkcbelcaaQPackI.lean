/-
PackTrace: the program's bytes of cycles are the reference's.
-/
import Derived.Test.YtnoelppkcbelcaaMQx0
import Derived.Test.YtnoelppkcbelcaaMQx2
import Derived.Test.YtnoelppkcbelcaaMQx5
import Derived.Test.YtnoelppkcbelcaaQSqImp
set_option linter.unusedSimpArgs false
set_option linter.unusedVariables false
namespace Go.Proofs.Ytnoelppkcbelcaa.MQH
open Go.RowKit Go.Proofs.Ytnoelppkcbelcaa.MQ Go.Proofs.YtnoelppkcbelcaaW.PrintWords Go.Proofs.YtnoelppkcbelcaaW.PrintLast Go.Proofs.Ytnoelppkcbelcaa.Bit Go.Proofs.Ytnoelppkcbelcaa.Lst

def pk (c : Cy) : List Int := [c.f0 % 256, c.f0 / 256, c.f1, wb c.f2]
def pkTo (l : List Cy) : Nat → List Int
  | 0 => []
  | i + 1 => pkTo l i ++ pk (rd_T32 l i)
theorem pkTo_len (l : List Cy) : ∀ i, (pkTo l i).length = 4 * i
  | 0 => rfl
  | i + 1 => by
    have h1 := pkTo_len l i
    simp only [pkTo, List.length_append, pk, List.length_cons, List.length_nil]
    omega
theorem impl_bit_zero (b : Bool) : impl_bit.f b 0 = some (wb b) := by
  unfold impl_bit.f wb
  cases b
  · rfl
  · simp only [if_true]
    rw [if_pos (by omega)]
    congr 1
theorem impl_pack_ev (l : List Cy) (hl : l.length ≤ 1200) (hg : ∀ x ∈ l, CyOk x) : Ev (fun k => impl_PackTrace.f k l) (pkTo l l.length) := by
  have h := ev_for (r := pkTo l l.length) l.length (fun k i => impl_PackTrace.l0 k (pkTo l i) l l.length i)
    (fun k => by simp only [impl_PackTrace.l0]; rw [if_neg (by omega)])
    (fun i hi k => by
      have hlen := pkTo_len l i
      obtain ⟨⟨c1, c2⟩, c3, c4⟩ := rd_ok hg hi
      simp only [impl_PackTrace.l0, impl_bit_zero, Option.bind_some]
      rw [if_pos (by omega), if_pos (by omega), if_pos (by omega), w1 (by omega)]
      have e2 : (rd_T32 l i).f0 / 256 % 256 = (rd_T32 l i).f0 / 256 := by omega
      rw [e2, if_pos (by simp only [List.length_cons, List.length_nil]; omega)]
      rfl)
  refine Ev.congr (fun k => ?_) h
  unfold impl_PackTrace.f
  rw [if_neg (by omega)]
  rfl
end Go.Proofs.Ytnoelppkcbelcaa.MQH
