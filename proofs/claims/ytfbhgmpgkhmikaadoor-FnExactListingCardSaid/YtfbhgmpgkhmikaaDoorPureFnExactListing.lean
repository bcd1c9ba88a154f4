/-
The law FnExactListing as a statement on lists of bytes alone: the program's lines are the reference's, and its texts are its own.
-/
import Derived.Test.YtfbhgmpgkhmikaaDoorMLx5
import Derived.Test.YtfbhgmpgkhmikaaDoorMLx9
import Derived.Test.YtfbhgmpgkhmikaaDoorMLx10
import Derived.Test.YtfbhgmpgkhmikaaDoorLListSpec
import Derived.Test.YtfbhgmpgkhmikaaDoorLListImpl
import Derived.Test.YtfbhgmpgkhmikaaDoorLHarnStr
import Derived.Test.YtfbhgmpgkhmikaaDoorLHarnToByte
import Derived.Test.YtfbhgmpgkhmikaaDoorLHarnByteM
set_option linter.unusedSimpArgs false
namespace Go.Proofs.YtfbhgmpgkhmikaaDoor.Pure
open Go.RowKit Go.Proofs.YtfbhgmpgkhmikaaDoor.ML Go.Proofs.YtfbhgmpgkhmikaaDoorW.PrintWords Go.Proofs.YtfbhgmpgkhmikaaDoorW.PrintLast Go.Proofs.YtfbhgmpgkhmikaaDoor.MLS Go.Proofs.YtfbhgmpgkhmikaaDoor.MLT

def listed (l : List Int) (pc : Int) : List ByteArray := if l.length > 1024 then [] else listL l pc l.length 0
theorem spec_listed (l : List Int) (pc : Int) (hp : 0 ≤ pc ∧ pc < 65536) (hb : ∀ x ∈ l, 0 ≤ x ∧ x < 256) : Ev (fun k => spec_Listing.f k l pc) (listed l pc) := by
  unfold spec_Listing.f listed
  simp only [Option.bind_some]
  by_cases c : l.length > 1024
  · have c' : (l.length : Int) > 1024 := by omega
    simp only [c, c', if_true]
    exact Ev.now _
  · have c' : ¬ (l.length : Int) > 1024 := by omega
    simp only [c, c', if_false]
    exact spec_list l pc hp hb (by omega) l.length 0 [] (by omega) (by omega) (by simp)
theorem impl_listed (l : List Int) (pc : Int) (hp : 0 ≤ pc ∧ pc < 65536) (hb : ∀ x ∈ l, 0 ≤ x ∧ x < 256) : Ev (fun k => impl_Listing.f k l pc) (listed l pc) := by
  unfold impl_Listing.f listed
  by_cases c : l.length > 1024
  · have c' : (l.length : Int) > 1024 := by omega
    simp only [c, c', if_true]
    exact Ev.now _
  · have c' : ¬ (l.length : Int) > 1024 := by omega
    simp only [c, c', if_false]
    exact impl_list l pc hp hb (by omega) l.length 0 [] (by omega) (by omega) (by simp)
theorem listed_length (l : List Int) (pc : Int) : (listed l pc).length ≤ 1024 := by
  unfold listed
  split
  · simp
  · have := listL_length l pc l.length 0 (by omega)
    omega
theorem FnExactListing : laws_FnExactListing.Pure := by
  intro l0 a1 h0 h1 h2 h3
  refine Ev.rounds (g := fun k => laws_FnExactListing.f k l0 a1) ?_
  unfold laws_FnExactListing.f
  by_cases hb : (l0.length : Int) > 1048576
  · simp only [hb, if_true]
    exact Ev.now _
  · simp only [hb, if_false]
    have hx : ∀ x ∈ l0, 0 ≤ x ∧ x < 256 := fun x hx => Bit.wf_u8 (h2 x hx)
    have hp := Bit.wf_u16 h3
    have ht := MLH.toByteS_ev l0 (by omega)
    have hl := listed_length l0 a1
    have es := eqStringS_ev (listed l0 a1) (by omega)
    refine Ev.bind ht (Ev.bind (spec_listed l0 a1 hp hx) (Ev.bind ht (Ev.bind (impl_listed l0 a1 hp hx) (Ev.bind es ?_))))
    simp only [if_true]
    refine Ev.bind ht (Ev.bind (MLH.eqByteS_ev l0 (by omega)) ?_)
    simp only [if_true]
    refine Ev.bind (MLH.markByteS_ev l0 1 (by omega) (by omega)) ?_
    have g : ¬ (((1 + l0.length : Nat) : Int) < 0) := by omega
    simp only [g, if_false]
    refine Ev.bind es ?_
    refine Ev.step (f := fun k => _) (fun k => by simp only [laws_FnExactListing.j0, Bool.not_true, Bool.false_eq_true, if_false]; rfl) ?_
    have hm := markStringS_ev (listed l0 a1) (by omega)
    have hh := heldStringS_ev (listed l0 a1).length (by omega)
    have g2 : ¬ (((1 + (listed l0 a1).length : Nat) : Int) < 0) := by omega
    refine Ev.bind hm (Ev.bind hh ?_)
    simp only [g2, if_false, if_true]
    refine Ev.bind ht (Ev.bind (impl_listed l0 a1 hp hx) (Ev.bind es ?_))
    simp only [if_true]
    refine Ev.bind hh ?_
    simp only [g2, if_false, if_true]
    exact Ev.now _

end Go.Proofs.YtfbhgmpgkhmikaaDoor.Pure
