/-
slices.Sort at []uint16: reverseRangeOrdered, siftDownOrdered.
-/
import Derived.Test.YtnoelppkcbelcaaHSrtA
import Derived.IntWalk

set_option linter.unusedVariables false
set_option linter.unusedSimpArgs false
namespace Go.Proofs.Ytnoelppkcbelcaa.Srt
open Go.RowKit Go.Proofs.YtnoelppkcbelcaaW.PrintWords Go.Proofs.YtnoelppkcbelcaaW.PrintLast Go.Proofs.YtnoelppkcbelcaaW.PrintMore Go.Proofs.Ytnoelppkcbelcaa.MH
section
variable {α : Type} [Inhabited α]
theorem rev_go {i j : Nat} {d : Array α} (h : i < j) : Sort.reverseLoop i j d = Sort.reverseLoop (i + 1) (j - 1) (Sort.swp d i j) := by rw [Sort.reverseLoop, if_pos h]
theorem rev_end {i j : Nat} {d : Array α} (h : ¬ i < j) : Sort.reverseLoop i j d = d := by rw [Sort.reverseLoop, if_neg h]
end
set_option maxHeartbeats 4000000 in
theorem reverse_calls (g off cap a b : Nat) (d : Array Int) (w : World) (hH : Sort.Holds E w g off d) (hab : a < b) (hb : b ≤ d.size) (hsz : d.size < 4611686018427387904) :
    Calls Try.prog 108 #[.slice (some ⟨g, off, none⟩) d.size cap, .int .i64 a, .int .i64 b] w fun e w' => e = .returned (.tuple #[]) ∧ Rw w g off d (Sort.reverseRange d a b) w' := by
  have HH := Aside0.mk hH
  have HR := Aside0.mk (Rw.start hH)
  clear hH
  go_enter Try.func108, Try.ntmps108
  go_wp2
  go_loopg [6, 7] (b + 1) (fun kq v6 v7 w' => ∃ (i j : Nat) (dk : Array Int), v6 = .int .i64 (i : Int) ∧ v7 = .int .i64 (j : Int) ∧ Aside0 (a ≤ i ∧ i ≤ b ∧ j < b ∧ b + 1 ≤ kq + i ∧ Sort.reverseLoop i j dk = Sort.reverseRange d a b) ∧ Aside0 (Rw w g off d dk w'))
  case atStart => exact ⟨a, b - 1, d, rfl, (by congr 1; omega), ⟨by omega, by omega, by omega, by omega, rfl⟩, HR⟩
  case round =>
    clear HR
    obtain ⟨i, j, dk, rfl, rfl, HA, HR⟩ := hrel
    obtain ⟨hai, hib, hjb, hkq, hO⟩ := HA.out
    clear HA
    by_cases c : i < j
    · rw [rev_go c] at hO
      have HO := Aside0.mk hO
      clear hO
      cases gk with
      | zero => omega
      | succ k1 =>
        obtain ⟨G, hG⟩ : ∃ G : Nat → Int, ∀ t, G t = dk[t]! := ⟨fun t => dk[t]!, fun _ => rfl⟩
        have hcw : ∀ t, t < d.size → wr.cell? ⟨g, off + t, none⟩ = some (.int .u16 (G t)) := fun t ht => by rw [hG]; exact HR.out.cell HH.out t ht
        have hfw : ∀ t, t < d.size → wr.frozen? ⟨g, off + t, none⟩ = false := fun t ht => HR.out.froz HH.out t ht
        have hsw : ∀ x y, x < d.size → y < d.size → (wr.setCell ⟨g, off + x, none⟩ (.int .u16 (G y))).cell? ⟨g, off + y, none⟩ = some (.int .u16 (G y)) := fun x y hx hy => by rw [hG]; exact HR.out.swcell HH.out x y hx hy
        have HG := Aside0.mk hG
        clear hG
        go_wp2
        go_region
        all_goals go_wp2
        go_roundg k1
        case measure => omega
        case rel => exact ⟨i + 1, j - 1, Sort.swp dk i j, (by congr 1), (by congr 1; omega), ⟨by omega, by omega, by omega, by omega, HO.out⟩, ⟨by rw [HG.out, HG.out]; exact (HR.out.drewN _).swap i j (by omega) (by omega)⟩⟩
    · rw [rev_end c] at hO
      have HO := Aside0.mk hO
      clear hO
      go_wp2
      go_end0
      exact ⟨rfl, by rw [← HO.out]; exact HR.out⟩
section
variable {lt : Int → Int → Bool} {hi first r : Nat} {d : Array Int}
theorem sift_end (h : hi ≤ 2 * r + 1) : Sort.siftDown lt hi first r d = d := by rw [Sort.siftDown, dif_pos (show 2 * r + 1 ≥ hi from h)]
theorem sift_right (h : 2 * r + 1 + 1 < hi) (hl : lt d[first + (2 * r + 1)]! d[first + (2 * r + 1) + 1]! = true) :
    Sort.siftDown lt hi first r d = if lt d[first + r]! d[first + (2 * r + 2)]! = true then Sort.siftDown lt hi first (2 * r + 2) (Sort.swp d (first + r) (first + (2 * r + 2))) else d := by
  rw [Sort.siftDown, dif_neg (by omega), decide_eq_true h, hl]
  cases lt d[first + r]! d[first + (2 * r + 2)]! <;> simp [show 2 * r + 2 < hi from h]
theorem sift_left (h : 2 * r + 1 < hi) (hl : hi ≤ 2 * r + 1 + 1 ∨ lt d[first + (2 * r + 1)]! d[first + (2 * r + 1) + 1]! = false) :
    Sort.siftDown lt hi first r d = if lt d[first + r]! d[first + (2 * r + 1)]! = true then Sort.siftDown lt hi first (2 * r + 1) (Sort.swp d (first + r) (first + (2 * r + 1))) else d := by
  have hn : (decide (2 * r + 1 + 1 < hi) && lt d[first + (2 * r + 1)]! d[first + (2 * r + 1) + 1]!) = false := by
    rcases hl with h1 | h1
    · rw [decide_eq_false (by omega), Bool.false_and]
    · rw [h1, Bool.and_false]
  rw [Sort.siftDown, dif_neg (by omega), hn]
  cases lt d[first + r]! d[first + (2 * r + 1)]! <;> simp
end
set_option maxHeartbeats 8000000 in
theorem sift_calls (g off cap lo hi first : Nat) (d : Array Int) (w : World) (hH : Sort.Holds E w g off d) (hlo : lo ≤ hi) (hb : first + hi ≤ d.size) (hsz : d.size < 4611686018427387904) :
    Calls Try.prog 129 #[.slice (some ⟨g, off, none⟩) d.size cap, .int .i64 lo, .int .i64 hi, .int .i64 first] w fun e w' => e = .returned (.tuple #[]) ∧ Rw w g off d (Sort.siftDown Sort.ltInt hi first lo d) w' := by
  have HH := Aside0.mk hH
  have HR := Aside0.mk (Rw.start hH)
  clear hH
  go_enter Try.func129, Try.ntmps129
  go_wp2
  go_loopg [8] (hi + 1) (fun kq v8 w' => ∃ (r : Nat) (dk : Array Int), v8 = .int .i64 (r : Int) ∧ Aside0 (r ≤ hi ∧ hi + 1 ≤ kq + r ∧ Sort.siftDown Sort.ltInt hi first r dk = Sort.siftDown Sort.ltInt hi first lo d) ∧ Aside0 (Rw w g off d dk w'))
  case atStart => exact ⟨lo, d, rfl, ⟨by omega, by omega, rfl⟩, HR⟩
  case round =>
    clear HR
    obtain ⟨r, dk, rfl, HA, HR⟩ := hrel
    obtain ⟨hrh, hkq, hO⟩ := HA.out
    clear HA
    by_cases c1 : hi ≤ 2 * r + 1
    · rw [sift_end c1] at hO
      have HO := Aside0.mk hO
      clear hO
      go_wp2
      go_end0
      exact ⟨rfl, by rw [← HO.out]; exact HR.out⟩
    cases gk with
    | zero => omega
    | succ k1 =>
      obtain ⟨G, hG⟩ : ∃ G : Nat → Int, ∀ t, G t = dk[t]! := ⟨fun t => dk[t]!, fun _ => rfl⟩
      have hcw : ∀ t, t < d.size → wr.cell? ⟨g, off + t, none⟩ = some (.int .u16 (G t)) := fun t ht => by rw [hG]; exact HR.out.cell HH.out t ht
      have hfw : ∀ t, t < d.size → wr.frozen? ⟨g, off + t, none⟩ = false := fun t ht => HR.out.froz HH.out t ht
      have hsw : ∀ x y, x < d.size → y < d.size → (wr.setCell ⟨g, off + x, none⟩ (.int .u16 (G y))).cell? ⟨g, off + y, none⟩ = some (.int .u16 (G y)) := fun x y hx hy => by rw [hG]; exact HR.out.swcell HH.out x y hx hy
      have HG := Aside0.mk hG
      clear hG
      have c1' : 2 * r + 1 < hi := by omega
      obtain ⟨x1, hx1, lx1⟩ : ∃ x : Nat, x = first + (2 * r + 1) ∧ x < d.size := ⟨_, rfl, by omega⟩
      obtain ⟨x0, hx0, lx0⟩ : ∃ x : Nat, x = first + r ∧ x < d.size := ⟨_, rfl, by omega⟩
      obtain ⟨x2, hx2⟩ : ∃ x : Nat, x = first + (2 * r + 2) := ⟨_, rfl⟩
      have l01 : x0 < x1 := by omega
      have l02 : x0 < x2 := by omega
      have s1 : IntKind.i64.wrap ((first : Int) + (2 * (r : Int) + 1)) = (x1 : Int) := by rw [IntWalk.i64_in _ (by omega)]; omega
      have s0 : IntKind.i64.wrap ((first : Int) + (r : Int)) = (x0 : Int) := by rw [IntWalk.i64_in _ (by omega)]; omega
      by_cases c2 : 2 * r + 1 + 1 < hi
      · have c2d : decide (2 * (r : Int) + 1 + 1 < (hi : Int)) = true := decide_eq_true (by omega)
        have lx2 : x2 < d.size := by omega
        have s2 : IntKind.i64.wrap ((x1 : Int) + 1) = (x2 : Int) := by rw [IntWalk.i64_in _ (by omega)]; omega
        have s3 : IntKind.i64.wrap ((first : Int) + (2 * (r : Int) + 1 + 1)) = (x2 : Int) := by rw [IntWalk.i64_in _ (by omega)]; omega
        cases h1 : Sort.ltInt (G x1) (G x2) with
        | true =>
          rw [sift_right c2 (by rw [← HG.out, ← HG.out, ← hx1, show x1 + 1 = x2 by omega]; exact h1), ← HG.out, ← HG.out, ← hx2, ← hx0] at hO
          clear hx0 hx1 hx2
          have HO := Aside0.mk hO
          clear hO
          cases h2 : Sort.ltInt (G x0) (G x2) with
          | true =>
            have h := HO.out
            rw [h2, if_pos rfl] at h
            have HP := Aside0.mk h
            clear h HO
            go_wp2
            go_quiet (first | (go_at_call 110; (with_reducible refine (less_calls _ _ _).mono ?_); rintro e w' ⟨rfl, ⟨nd, rfl⟩⟩; (try first | exact ⟨rfl, _, World.drewN_drewN _ _ _⟩ | exact ⟨rfl, _, Eq.trans (World.drewN_drewN _ _ _) (congrArg (World.drewN _) (Nat.add_assoc _ _ _))⟩)))
            go_wp2
            go_quiet (first | (go_at_call 110; (with_reducible refine (less_calls _ _ _).mono ?_); rintro e w' ⟨rfl, ⟨nd, rfl⟩⟩; (try first | exact ⟨rfl, _, World.drewN_drewN _ _ _⟩ | exact ⟨rfl, _, Eq.trans (World.drewN_drewN _ _ _) (congrArg (World.drewN _) (Nat.add_assoc _ _ _))⟩)))
            go_wp2
            go_region
            all_goals go_wp2
            go_roundg k1
            case measure => omega
            case rel => exact ⟨2 * r + 2, Sort.swp dk x0 x2, (by congr 1), ⟨by omega, by omega, HP.out⟩, ⟨by rw [HG.out, HG.out]; exact (HR.out.drewN _).swap x0 x2 (by omega) (by omega)⟩⟩
          | false =>
            have h := HO.out
            rw [h2, if_neg (by decide)] at h
            have HP := Aside0.mk h
            clear h HO
            go_wp2
            go_quiet (first | (go_at_call 110; (with_reducible refine (less_calls _ _ _).mono ?_); rintro e w' ⟨rfl, ⟨nd, rfl⟩⟩; (try first | exact ⟨rfl, _, World.drewN_drewN _ _ _⟩ | exact ⟨rfl, _, Eq.trans (World.drewN_drewN _ _ _) (congrArg (World.drewN _) (Nat.add_assoc _ _ _))⟩)))
            go_wp2
            go_quiet (first | (go_at_call 110; (with_reducible refine (less_calls _ _ _).mono ?_); rintro e w' ⟨rfl, ⟨nd, rfl⟩⟩; (try first | exact ⟨rfl, _, World.drewN_drewN _ _ _⟩ | exact ⟨rfl, _, Eq.trans (World.drewN_drewN _ _ _) (congrArg (World.drewN _) (Nat.add_assoc _ _ _))⟩)))
            go_wp2
            (try simp only [Exit.inBlock, Exit.then]); refine bodyPost_ret (results_none rfl _ _ _) rfl ?_
            exact ⟨rfl, by rw [← HP.out]; exact (HR.out.drewN _).drewN _⟩
        | false =>
          rw [sift_left c1' (.inr (by rw [← HG.out, ← HG.out, ← hx1, show x1 + 1 = x2 by omega]; exact h1)), ← HG.out, ← HG.out, ← hx1, ← hx0] at hO
          clear hx0 hx1 hx2
          have HO := Aside0.mk hO
          clear hO
          cases h2 : Sort.ltInt (G x0) (G x1) with
          | true =>
            have h := HO.out
            rw [h2, if_pos rfl] at h
            have HP := Aside0.mk h
            clear h HO
            go_wp2
            go_quiet (first | (go_at_call 110; (with_reducible refine (less_calls _ _ _).mono ?_); rintro e w' ⟨rfl, ⟨nd, rfl⟩⟩; (try first | exact ⟨rfl, _, World.drewN_drewN _ _ _⟩ | exact ⟨rfl, _, Eq.trans (World.drewN_drewN _ _ _) (congrArg (World.drewN _) (Nat.add_assoc _ _ _))⟩)))
            go_wp2
            go_quiet (first | (go_at_call 110; (with_reducible refine (less_calls _ _ _).mono ?_); rintro e w' ⟨rfl, ⟨nd, rfl⟩⟩; (try first | exact ⟨rfl, _, World.drewN_drewN _ _ _⟩ | exact ⟨rfl, _, Eq.trans (World.drewN_drewN _ _ _) (congrArg (World.drewN _) (Nat.add_assoc _ _ _))⟩)))
            go_wp2
            go_region
            all_goals go_wp2
            go_roundg k1
            case measure => omega
            case rel => exact ⟨2 * r + 1, Sort.swp dk x0 x1, (by congr 1), ⟨by omega, by omega, HP.out⟩, ⟨by rw [HG.out, HG.out]; exact (HR.out.drewN _).swap x0 x1 (by omega) (by omega)⟩⟩
          | false =>
            have h := HO.out
            rw [h2, if_neg (by decide)] at h
            have HP := Aside0.mk h
            clear h HO
            go_wp2
            go_quiet (first | (go_at_call 110; (with_reducible refine (less_calls _ _ _).mono ?_); rintro e w' ⟨rfl, ⟨nd, rfl⟩⟩; (try first | exact ⟨rfl, _, World.drewN_drewN _ _ _⟩ | exact ⟨rfl, _, Eq.trans (World.drewN_drewN _ _ _) (congrArg (World.drewN _) (Nat.add_assoc _ _ _))⟩)))
            go_wp2
            go_quiet (first | (go_at_call 110; (with_reducible refine (less_calls _ _ _).mono ?_); rintro e w' ⟨rfl, ⟨nd, rfl⟩⟩; (try first | exact ⟨rfl, _, World.drewN_drewN _ _ _⟩ | exact ⟨rfl, _, Eq.trans (World.drewN_drewN _ _ _) (congrArg (World.drewN _) (Nat.add_assoc _ _ _))⟩)))
            go_wp2
            (try simp only [Exit.inBlock, Exit.then]); refine bodyPost_ret (results_none rfl _ _ _) rfl ?_
            exact ⟨rfl, by rw [← HP.out]; exact (HR.out.drewN _).drewN _⟩
      · have c2d : decide (2 * (r : Int) + 1 + 1 < (hi : Int)) = false := decide_eq_false (by omega)
        rw [sift_left c1' (.inl (by omega)), ← HG.out, ← HG.out, ← hx1, ← hx0] at hO
        clear hx0 hx1 hx2
        have HO := Aside0.mk hO
        clear hO
        cases h2 : Sort.ltInt (G x0) (G x1) with
        | true =>
          have h := HO.out
          rw [h2, if_pos rfl] at h
          have HP := Aside0.mk h
          clear h HO
          go_wp2
          go_quiet (first | (go_at_call 110; (with_reducible refine (less_calls _ _ _).mono ?_); rintro e w' ⟨rfl, ⟨nd, rfl⟩⟩; (try first | exact ⟨rfl, _, World.drewN_drewN _ _ _⟩ | exact ⟨rfl, _, Eq.trans (World.drewN_drewN _ _ _) (congrArg (World.drewN _) (Nat.add_assoc _ _ _))⟩)))
          go_wp2
          go_quiet (first | (go_at_call 110; (with_reducible refine (less_calls _ _ _).mono ?_); rintro e w' ⟨rfl, ⟨nd, rfl⟩⟩; (try first | exact ⟨rfl, _, World.drewN_drewN _ _ _⟩ | exact ⟨rfl, _, Eq.trans (World.drewN_drewN _ _ _) (congrArg (World.drewN _) (Nat.add_assoc _ _ _))⟩)))
          go_wp2
          go_region
          all_goals go_wp2
          go_roundg k1
          case measure => omega
          case rel => exact ⟨2 * r + 1, Sort.swp dk x0 x1, (by congr 1), ⟨by omega, by omega, HP.out⟩, ⟨by rw [HG.out, HG.out]; exact (HR.out.drewN _).swap x0 x1 (by omega) (by omega)⟩⟩
        | false =>
          have h := HO.out
          rw [h2, if_neg (by decide)] at h
          have HP := Aside0.mk h
          clear h HO
          go_wp2
          go_quiet (first | (go_at_call 110; (with_reducible refine (less_calls _ _ _).mono ?_); rintro e w' ⟨rfl, ⟨nd, rfl⟩⟩; (try first | exact ⟨rfl, _, World.drewN_drewN _ _ _⟩ | exact ⟨rfl, _, Eq.trans (World.drewN_drewN _ _ _) (congrArg (World.drewN _) (Nat.add_assoc _ _ _))⟩)))
          go_wp2
          go_quiet (first | (go_at_call 110; (with_reducible refine (less_calls _ _ _).mono ?_); rintro e w' ⟨rfl, ⟨nd, rfl⟩⟩; (try first | exact ⟨rfl, _, World.drewN_drewN _ _ _⟩ | exact ⟨rfl, _, Eq.trans (World.drewN_drewN _ _ _) (congrArg (World.drewN _) (Nat.add_assoc _ _ _))⟩)))
          go_wp2
          (try simp only [Exit.inBlock, Exit.then]); refine bodyPost_ret (results_none rfl _ _ _) rfl ?_
          exact ⟨rfl, by rw [← HP.out]; exact (HR.out.drewN _).drewN _⟩
end Go.Proofs.Ytnoelppkcbelcaa.Srt
