/-
slices.Sort at []uint16: slices.Sort.
-/
import Derived.Test.YtnoelppkcbelcaaHSrtI
import Derived.IntWalk
import Derived.Test.YtnoelppkcbelcaaShelf

set_option linter.unusedVariables false
set_option linter.unusedSimpArgs false
namespace Go.Proofs.Ytnoelppkcbelcaa.Srt
open Go.RowKit Go.Lib Go.Proofs.YtnoelppkcbelcaaW.PrintWords Go.Proofs.YtnoelppkcbelcaaW.PrintLast Go.Proofs.YtnoelppkcbelcaaW.PrintMore Go.Proofs.Ytnoelppkcbelcaa.MH
set_option maxRecDepth 8000
set_option maxHeartbeats 4000000 in
theorem sort_calls (n g off cap : Nat) (d : Array Int) (w : World) (hn : d.size = n) (hH : Sort.Holds E w g off d) (hg : g < w.heap.size) (hsz : n < 4611686018427387904) :
    Calls Try.prog 74 #[.slice (some ⟨g, off, none⟩) n cap] w fun e w' => e = .returned (.tuple #[]) ∧ Aside0 (∃ d', Sort.PermIn 0 n d d' ∧ Sort.SortedIn Sort.ltInt 0 n d' ∧ At w g off d' w') := by
  have hl := Try.bits_Len (n : Int) w (by omega) (by omega)
  rw [Int.toNat_natCast, bitLen_eq _ (by omega)] at hl
  obtain ⟨m, hm, lm⟩ : ∃ m, m = Sort.bitsLen n ∧ m < 4611686018427387904 := ⟨_, rfl, Nat.lt_of_le_of_lt ((Sort.bitsLen_le_iff n 62).2 (by omega)) (by omega)⟩
  rw [← hm] at hl
  clear hm
  have hc := pdq_calls n g off cap hsz (n + 1) 0 n m d w (by omega) hn hH hg (Nat.zero_le _) (Nat.le_refl _) lm (.inl rfl)
  have hwn : IntKind.u64.wrap (n : Int) = (n : Int) := by rw [IntKind.wrap_u64]; omega
  clear hH
  go_enter Try.func74, Try.ntmps74
  go_wp2_with (first | (go_at_call 89; refine hl.mono ?_; rintro e w' ⟨rfl, rfl⟩) | (go_at_call 88; refine hc.mono ?_; rintro e w1 ⟨rfl, H1⟩))
  go_end0
  exact ⟨rfl, H1⟩
set_option maxHeartbeats 4000000 in
theorem insertion_nil (w : World) : Calls Try.prog 104 #[.slice none 0 0, .int .i64 0, .int .i64 0] w fun e w' => e = .returned (.tuple #[]) ∧ w' = w := by
  go_enter Try.func104, Try.ntmps104
  go_wp2
  go_loopg [6] 1 (fun kq v6 w' => v6 = .int .i64 1 ∧ w' = w)
  case atStart => exact ⟨rfl, rfl⟩
  case round =>
    obtain ⟨rfl, rfl⟩ := hrel
    go_wp2
    go_end0
    exact ⟨rfl, rfl⟩
set_option maxHeartbeats 4000000 in
theorem pdq_nil (m : Int) (w : World) : Calls Try.prog 88 #[.slice none 0 0, .int .i64 0, .int .i64 0, .int .i64 m] w fun e w' => e = .returned (.tuple #[]) ∧ w' = w := by
  have hc := insertion_nil w
  go_enter Try.func88, Try.ntmps88
  go_wp2
  go_loopg [1, 2, 3, 8, 9] 1 (fun kq s1 s2 s3 s8 s9 w' => s1 = .int .i64 0 ∧ s2 = .int .i64 0 ∧ s3 = .int .i64 m ∧ w' = w)
  case atStart => exact ⟨rfl, rfl, rfl, rfl⟩
  case round =>
    obtain ⟨rfl, rfl, rfl, rfl⟩ := hrel
    go_wp2_with (go_at_call 104; refine hc.mono ?_; rintro e w1 ⟨rfl, rfl⟩)
    (try simp only [Exit.inBlock, Exit.then]); refine bodyPost_ret (results_none rfl _ _ _) rfl ?_
    exact ⟨rfl, rfl⟩
set_option maxHeartbeats 4000000 in
theorem sort_nil (w : World) : Calls Try.prog 74 #[.slice none 0 0] w fun e w' => e = .returned (.tuple #[]) ∧ w' = w := by
  have hl := Try.bits_Len 0 w (by omega) (by omega)
  go_enter Try.func74, Try.ntmps74
  go_wp2_with (first | (go_at_call 89; refine hl.mono ?_; rintro e w' ⟨rfl, rfl⟩) | (go_at_call 88; refine (pdq_nil _ _).mono ?_; rintro e w1 ⟨rfl, rfl⟩))
  go_end0
  exact ⟨rfl, rfl⟩
end Go.Proofs.Ytnoelppkcbelcaa.Srt
