/-
Squeeze: the program's small form of cycles is the reference's.
-/
import Derived.Test.YtnoelppkcbelcaaMSx0
import Derived.Test.YtnoelppkcbelcaaMSx1
import Derived.Test.YtnoelppkcbelcaaMSx4
import Derived.Test.YtnoelppkcbelcaaBit
import Derived.Test.YtnoelppkcbelcaaLst
set_option linter.unusedSimpArgs false
set_option linter.unusedVariables false
namespace Go.Proofs.Ytnoelppkcbelcaa.MSH
open Go.RowKit Go.Proofs.Ytnoelppkcbelcaa.MS Go.Proofs.YtnoelppkcbelcaaW.PrintWords Go.Proofs.YtnoelppkcbelcaaW.PrintLast Go.Proofs.Ytnoelppkcbelcaa.Bit Go.Proofs.Ytnoelppkcbelcaa.Lst
abbrev Cy := S32
def CyOk (x : Cy) : Prop := (0 ≤ x.f0 ∧ x.f0 < 65536) ∧ (0 ≤ x.f1 ∧ x.f1 < 256)
def wb (b : Bool) : Int := if b then 1 else 0
def sq (a c : Cy) : List Int :=
 if c.f0 = (a.f0 + 1) % 65536 then (if c.f1 = a.f1 then [wb c.f2 + 10] else [wb c.f2 + 2, c.f1])
 else if c.f0 / 256 = a.f0 / 256 then (if c.f1 = a.f1 then [wb c.f2 + 12, c.f0 % 256] else [wb c.f2 + 4, c.f0 % 256, c.f1])
 else (if c.f1 = a.f1 then [wb c.f2 + 8, c.f0 % 256, c.f0 / 256] else [wb c.f2, c.f0 % 256, c.f0 / 256, c.f1])
theorem sq_len (a c : Cy) : 1 ≤ (sq a c).length ∧ (sq a c).length ≤ 4 := by
 unfold sq
 repeat' split
 all_goals simp
theorem u16_wrap (n : Int) : IntKind.u16.wrap n = n % 65536 := by simp [IntKind.wrap, IntKind.bits, IntKind.signed]
theorem wraps_u16 (n : Int) (h₀ : 0 ≤ n) (h₁ : n < 2 ^ 16) : IntKind.u16.wrap n = n := by rw [u16_wrap]; omega
theorem u16_and255 {x : Int} (h₀ : 0 ≤ x) (h₁ : x < 65536) : Go.bits .and .u16 x 255 = x % 256 := bits_mask .u16 16 (by decide) wraps_u16 8 (by decide) x h₀ h₁
theorem tdiv256 {a : Int} (ha : 0 ≤ a) : Int.tdiv a 256 = a / 256 := Int.tdiv_eq_ediv_of_nonneg ha
theorem spec_one (a c : Cy) (ha : CyOk a) (hc : CyOk c) (k : Nat) : spec_l16One.f (k + 1) a.f0 a.f1 a.f2 c.f0 c.f1 c.f2 = some (sq a c) := by
 obtain ⟨⟨a1, a2⟩, a3, a4⟩ := ha
 obtain ⟨⟨c1, c2⟩, c3, c4⟩ := hc
 unfold spec_l16One.f
 simp only [Option.bind_some, spec_l16One.j0, u16_wrap, u16_and255 c1 c2, tdiv256 a1, tdiv256 c1]
 have e1 : a.f0 / 256 % 65536 = a.f0 / 256 := by omega
 have e2 : c.f0 / 256 % 65536 = c.f0 / 256 := by omega
 have e3 : c.f0 % 256 % 256 = c.f0 % 256 := by omega
 have e4 : c.f0 / 256 % 256 = c.f0 / 256 := by omega
 rw [e1, e2, e3, e4]
 unfold sq wb
 cases hw : c.f2 <;> by_cases h1 : c.f0 = (a.f0 + 1) % 65536 <;> by_cases h2 : c.f1 = a.f1 <;> by_cases h3 : c.f0 / 256 = a.f0 / 256 <;> simp [h1, h2, h3]
theorem impl_one (a c : Cy) (ha : CyOk a) (hc : CyOk c) : impl_squeeze.f a.f0 a.f1 a.f2 c.f0 c.f1 c.f2 = some (sq a c) := by
 obtain ⟨⟨a1, a2⟩, a3, a4⟩ := ha
 obtain ⟨⟨c1, c2⟩, c3, c4⟩ := hc
 have e4 : c.f0 / 256 % 256 = c.f0 / 256 := by omega
 have b0 : impl_bit.f c.f2 0 = some (wb c.f2) := by
  unfold impl_bit.f wb
  cases c.f2
  ·rfl
  ·simp only [if_true]
   rw [if_pos (by omega)]
   congr 1
 unfold impl_squeeze.f
 simp only [b0, Option.bind_some, u16_wrap]
 rw [e4]
 have o1 : ∀ b : Bool, Go.bits .or .u8 (wb b) 2 = wb b + 2 := by decide
 have o2 : ∀ b : Bool, Go.bits .or .u8 (wb b) 4 = wb b + 4 := by decide
 have o3 : ∀ b : Bool, Go.bits .or .u8 (wb b) 8 = wb b + 8 := by decide
 have o4 : ∀ b : Bool, Go.bits .or .u8 (wb b + 2) 8 = wb b + 10 := by decide
 have o5 : ∀ b : Bool, Go.bits .or .u8 (wb b + 4) 8 = wb b + 12 := by decide
 simp only [o1, o2, o3, o4, o5]
 unfold sq
 by_cases h1 : c.f0 = (a.f0 + 1) % 65536 <;> by_cases h2 : c.f1 = a.f1 <;> by_cases h3 : c.f0 / 256 = a.f0 / 256 <;> simp [h1, h2, h3]
def zc : Cy := ⟨0, 0, false⟩
def lastOf (l : List Cy) : Nat → Cy
 | 0 => zc
 | i + 1 => rd_T32 l i
def sqTo (l : List Cy) : Nat → List Int
 | 0 => []
 | i + 1 => sqTo l i ++ sq (lastOf l i) (rd_T32 l i)
theorem sqTo_len (l : List Cy) : ∀ i, i ≤ (sqTo l i).length ∧ (sqTo l i).length ≤ 4 * i
 | 0 => ⟨Nat.le_refl _, Nat.le_refl _⟩
 | i + 1 => by
  have h1 := sqTo_len l i
  have h2 := sq_len (lastOf l i) (rd_T32 l i)
  simp only [sqTo, List.length_append]
  omega
theorem rd_ok {l : List Cy} (h : ∀ x ∈ l, CyOk x) {i : Nat} (hi : i < l.length) : CyOk (rd_T32 l i) := by
 unfold rd_T32
 rw [Int.toNat_natCast, List.getD_eq_getElem?_getD, List.getElem?_eq_getElem hi]
 exact h _ (List.getElem_mem hi)
theorem lastOf_ok {l : List Cy} (h : ∀ x ∈ l, CyOk x) : ∀ {i : Nat}, i ≤ l.length → CyOk (lastOf l i)
 | 0, _ => ⟨⟨by simp [lastOf, zc], by simp [lastOf, zc]⟩, by simp [lastOf, zc], by simp [lastOf, zc]⟩
 | i + 1, hi => rd_ok h (by omega)
theorem spec_squeeze_ev (l : List Cy) (hl : l.length ≤ 1200) (hg : ∀ x ∈ l, CyOk x) : Ev (fun k => spec_Squeeze.f k l) (sqTo l l.length) := by
 have h := ev_up (r := sqTo l l.length) l.length (fun k i => spec_Squeeze.l0 k l (sqTo l i) i (lastOf l i).f0 (lastOf l i).f1 (lastOf l i).f2)
  (Ev.step (fun k => by simp only [spec_Squeeze.l0]; rw [if_neg (by omega)]) (Ev.now _))
  (fun i hi h => by
   have hlen := sqTo_len l i
   have h2 := sq_len (lastOf l i) (rd_T32 l i)
   refine Ev.step (fun k => by simp only [spec_Squeeze.l0]; rw [if_pos (by omega), if_pos (by omega)]) ?_
   refine Ev.bind (a := sq (lastOf l i) (rd_T32 l i)) (Ev.step (fun k => spec_one _ _ (lastOf_ok hg (by omega)) (rd_ok hg hi) k) (Ev.now _)) ?_
   simp only [if_pos (show (sqTo l i).length + (sq (lastOf l i) (rd_T32 l i)).length < 140737488355328 by omega), w1 (show i < 9223372036854775807 by omega)]
   exact h) l.length 0 (by omega)
 refine Ev.congr (fun k => ?_) h
 unfold spec_Squeeze.f
 simp only [Option.bind_some]
 rw [if_neg (by omega)]
 rfl
theorem spec_squeeze_long (l : List Cy) (hl : 1200 < l.length) : Ev (fun k => spec_Squeeze.f k l) [] := by
 refine Ev.congr (fun k => ?_) (Ev.now _)
 unfold spec_Squeeze.f
 simp only [Option.bind_some]
 rw [if_pos (by omega)]
theorem impl_squeeze_ev (l : List Cy) (hl : l.length ≤ 1200) (hg : ∀ x ∈ l, CyOk x) : Ev (fun k => impl_Squeeze.f k l) (sqTo l l.length) := by
 have h := ev_for (r := sqTo l l.length) l.length (fun k i => impl_Squeeze.l0 k (sqTo l i) l l.length i (lastOf l i).f0 (lastOf l i).f1 (lastOf l i).f2)
  (fun k => by simp only [impl_Squeeze.l0]; rw [if_neg (by omega)])
  (fun i hi k => by
   have hlen := sqTo_len l i
   have h2 := sq_len (lastOf l i) (rd_T32 l i)
   simp only [impl_Squeeze.l0]
   rw [if_pos (by omega), if_pos (by omega), if_pos (by omega), impl_one _ _ (lastOf_ok hg (by omega)) (rd_ok hg hi)]
   simp only [Option.bind_some]
   rw [if_pos (by omega), w1 (by omega)]
   rfl)
 refine Ev.congr (fun k => ?_) h
 unfold impl_Squeeze.f
 rw [if_neg (by omega)]
 rfl
theorem impl_squeeze_long (l : List Cy) (hl : 1200 < l.length) : Ev (fun k => impl_Squeeze.f k l) [] := by
 refine Ev.congr (fun k => ?_) (Ev.now _)
 unfold impl_Squeeze.f
 rw [if_pos (by omega)]
theorem squeeze_same (l : List Cy) (hg : ∀ x ∈ l, CyOk x) : ∃ r, Ev (fun k => spec_Squeeze.f k l) r ∧ Ev (fun k => impl_Squeeze.f k l) r ∧ r.length ≤ 4800 := by
 by_cases h : l.length ≤ 1200
 ·exact ⟨_, spec_squeeze_ev l h hg, impl_squeeze_ev l h hg, by have := sqTo_len l l.length; omega⟩
 ·exact ⟨_, spec_squeeze_long l (by omega), impl_squeeze_long l (by omega), by simp⟩
end Go.Proofs.Ytnoelppkcbelcaa.MSH
