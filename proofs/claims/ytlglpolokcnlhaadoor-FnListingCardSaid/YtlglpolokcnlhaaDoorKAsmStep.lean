/-
Assemble over the program alone: a line's bytes.
-/
import Derived.Test.YtlglpolokcnlhaaDoorMKx5
import Derived.Test.YtlglpolokcnlhaaDoorKAsmLineI
import Derived.Test.YtlglpolokcnlhaaDoorKAsmBack
set_option linter.unusedSimpArgs false
set_option linter.unusedVariables false
namespace Go.Proofs.YtlglpolokcnlhaaDoor.MKL
open Go.RowKit Go.Proofs.YtlglpolokcnlhaaDoor.MK Go.Proofs.YtlglpolokcnlhaaDoor.MKV Go.Proofs.YtlglpolokcnlhaaDoor.MKH Go.Proofs.YtlglpolokcnlhaaDoor.MKO Go.Proofs.YtlglpolokcnlhaaDoor.MKS Go.Proofs.YtlglpolokcnlhaaDoorW.PrintWords Go.Proofs.YtlglpolokcnlhaaDoorW.PrintLast Go.Proofs.YtlglpolokcnlhaaDoor.Lst

abbrev P7 : List UInt8 := [46, 98, 121, 116, 101, 32, 36]
set_option maxRecDepth 100000 in
theorem dot_all : ∀ i : Fin 256, (nm i.val).data.toList.head? ≠ some 46 := by decide +kernel
theorem pre_iff (t : List UInt8) : Lib.hasPrefix t P7 = true ↔ t.take 7 = P7 := by
  unfold Lib.hasPrefix
  rw [List.isPrefixOf_iff_prefix, List.prefix_iff_eq_take]
  exact ⟨fun h => h.symm, fun h => h.symm⟩
theorem impl_line (l : List UInt8) (hl : l.length ≤ 1000000) (pc : Int) :
    (tx l = [] → Ev (fun k => impl_lineBytes.f k (BA l) pc) ([], true)) ∧
    (¬ tx l = [] → (tx l).take 7 = P7 → Ev (fun k => impl_lineBytes.f k (BA l) pc) ([rh (BA ((tx l).drop 7)) 2 % 256], decide (rh (BA ((tx l).drop 7)) 2 ≥ 0))) ∧
    (¬ tx l = [] → ¬ (tx l).take 7 = P7 → ∀ r, Ev (fun k => impl_ReadOp.f k (BA (tx l)) pc) r → Ev (fun k => impl_lineBytes.f k (BA l) pc) r) := by
  obtain ⟨r2, r3, h1, h2, h3⟩ := impl_text l hl
  have et : (BA (tx l)).toList = tx l := by rw [toList_data]
  have ed : (BA (tx l)).data.toList = tx l := by simp
  have ep : (⟨#[46, 98, 121, 116, 101, 32, 36]⟩ : ByteArray).data.toList = P7 := rfl
  unfold impl_lineBytes.f
  simp only [h1, Option.bind_some, h2, h3, et]
  refine ⟨fun h => ?_, fun h g => ?_, fun h g r e => ?_⟩
  · simp only [if_pos h]
    exact Ev.now _
  · have hc : strings_CutPrefix.f (BA (tx l)) (⟨#[46, 98, 121, 116, 101, 32, 36]⟩ : ByteArray) = some (BA ((tx l).drop 7), true) := by
      unfold strings_CutPrefix.f Giv.cutPrefixG
      rw [ed, ep]
      have hp := (pre_iff (tx l)).mpr g
      unfold Lib.trimPrefix
      rw [hp]
      rfl
    simp only [if_neg h, hc, Option.bind_some, if_true]
    refine Ev.bind (impl_rh _ 2 (by omega)) ?_
    exact Ev.now _
  · have hc : ∃ a, strings_CutPrefix.f (BA (tx l)) (⟨#[46, 98, 121, 116, 101, 32, 36]⟩ : ByteArray) = some (a, false) := by
      unfold strings_CutPrefix.f Giv.cutPrefixG
      rw [ed, ep]
      have hp : Lib.hasPrefix (tx l) P7 = false := by
        cases hh : Lib.hasPrefix (tx l) P7 with
        | false => rfl
        | true => exact absurd ((pre_iff (tx l)).mp hh) g
      rw [hp]
      exact ⟨_, rfl⟩
    obtain ⟨a, hc⟩ := hc
    simp only [if_neg h, hc, Option.bind_some, Bool.false_eq_true, if_false]
    refine Ev.bind e ?_
    exact Ev.now _
theorem rh_pos (s : ByteArray) (n : Nat) (h : rh s n ≥ 0) : s.size = n := by
  unfold rh at h
  by_cases c : s.size = n
  · exact c
  · rw [if_neg c] at h
    exact absurd h (by decide)
theorem wrap16_range (x : Int) : 0 ≤ IntKind.u16.wrap x ∧ IntKind.u16.wrap x < 65536 := by
  have e : IntKind.u16.wrap x = x % 65536 := by simp [IntKind.wrap, IntKind.bits, IntKind.signed]
  rw [e]
  omega
end Go.Proofs.YtlglpolokcnlhaaDoor.MKL
