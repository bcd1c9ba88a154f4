/-
slices.Sort at []uint16: partitionEqualOrdered.
-/
import Derived.Test.YtnoelppkcbelcaaHSrtC
import Derived.IntWalk
import Derived.Sort.WalkC4
import Derived.Deep.Cut
import Derived.Deep.CutBlock

set_option linter.unusedVariables false
set_option linter.unusedSimpArgs false
namespace Go.Proofs.Ytnoelppkcbelcaa.Srt
open Go.RowKit Go.Proofs.YtnoelppkcbelcaaW.PrintWords Go.Proofs.YtnoelppkcbelcaaW.PrintLast Go.Proofs.YtnoelppkcbelcaaW.PrintMore Go.Proofs.Ytnoelppkcbelcaa.MH
set_option maxRecDepth 8000
set_option maxHeartbeats 16000000 in
theorem parteq_calls (g off cap a b pivot : Nat) (d : Array Int) (w : World) (hH : Sort.Holds E w g off d) (hap : a ≤ pivot) (hpb : pivot < b) (hb : b ≤ d.size) (hsz : d.size < 4611686018427387904) :
    Calls Try.prog 111 #[.slice (some ⟨g, off, none⟩) d.size cap, .int .i64 a, .int .i64 b, .int .i64 pivot] w fun e w' => e = .returned (.int .i64 ((Sort.partitionEqual Sort.ltInt d a b pivot).1 : Nat)) ∧ Rw w g off d (Sort.partitionEqual Sort.ltInt d a b pivot).2 w' := by
  have HH := Aside0.mk hH
  have HR := Aside0.mk (Rw.start hH)
  clear hH
  go_enter Try.func111, Try.ntmps111
  obtain ⟨G, hG⟩ : ∃ G : Nat → Int, ∀ t, G t = d[t]! := ⟨fun t => d[t]!, fun _ => rfl⟩
  have HG := Aside0.mk hG
  clear hG
  have hcw : ∀ t, t < d.size → w.cell? ⟨g, off + t, none⟩ = some (.int .u16 (G t)) := fun t ht => by rw [HG.out]; exact HR.out.cell HH.out t ht
  have hfw : ∀ t, t < d.size → w.frozen? ⟨g, off + t, none⟩ = false := fun t ht => HR.out.froz HH.out t ht
  have hsw : ∀ x y, x < d.size → y < d.size → (w.setCell ⟨g, off + x, none⟩ (.int .u16 (G y))).cell? ⟨g, off + y, none⟩ = some (.int .u16 (G y)) := fun x y hx hy => by rw [HG.out]; exact HR.out.swcell HH.out x y hx hy
  have hSW : Rw w g off d (Sort.swp d a pivot) (((w.setCell ⟨g, off + a, none⟩ (.int .u16 (G pivot))).setCell ⟨g, off + pivot, none⟩ (.int .u16 (G a))).drew) := by
    rw [HG.out, HG.out]
    exact (HR.out.swap a pivot (by omega) (by omega)).drew
  have HSW := Aside0.mk hSW
  clear hSW
  have la : a < d.size := by omega
  have lp : pivot < d.size := by omega
  go_wp2
  go_region
  go_wp2
  clear HR HG
  go_loopg [9, 10] (b + 1) (fun kq v9 v10 w' => ∃ (i j : Nat) (dk : Array Int), v9 = .int .i64 (i : Int) ∧ v10 = .int .i64 (j : Int) ∧ Aside0 (a < i ∧ i ≤ j + 1 ∧ j < b ∧ j + 2 ≤ kq + i ∧ dk.size = d.size ∧ Sort.partEqLoop Sort.ltInt a i j dk = Sort.partitionEqual Sort.ltInt d a b pivot) ∧ Aside0 (Rw w g off d dk w'))
  case atStart => exact ⟨a + 1, b - 1, Sort.swp d a pivot, (by congr 1), (by congr 1; omega), ⟨by omega, by omega, by omega, by omega, Sort.size_swp _ _ _, rfl⟩, HSW⟩
  case round =>
    clear HSW hcw hfw hsw
    obtain ⟨i, j, dk, rfl, rfl, HA, HR⟩ := hrel
    obtain ⟨hai, hij, hjb, hkq, hds, hO⟩ := HA.out
    clear HA
    have HO := Aside0.mk hO
    clear hO
    obtain ⟨G, hG⟩ : ∃ G : Nat → Int, ∀ t, G t = dk[t]! := ⟨fun t => dk[t]!, fun _ => rfl⟩
    have HG := Aside0.mk hG
    clear hG
    cases gk with
    | zero => omega
    | succ k1 =>
      go_upto_block 2 with (fail)
      go_cut [9, 83] from 29 (fun s s83 wc => s83 = undef ∧ ∃ t : Nat, s = .int .i64 (t : Int) ∧ Aside0 (i ≤ t ∧ t ≤ j + 1 ∧ t = Sort.scanUp (fun x => !Sort.ltInt dk[a]! x) dk j i) ∧ Aside0 (Rw w g off d dk wc))
      case first =>
        go_wp2
        go_loopg [9] (j + 2) (fun kj v w' => ∃ t : Nat, v = .int .i64 (t : Int) ∧ Aside0 (i ≤ t ∧ t ≤ j + 1 ∧ j + 2 ≤ kj + t ∧ Sort.scanUp (fun x => !Sort.ltInt dk[a]! x) dk j t = Sort.scanUp (fun x => !Sort.ltInt dk[a]! x) dk j i) ∧ Aside0 (Rw w g off d dk w'))
        case atStart => exact ⟨i, (by first | rfl | (congr 1; omega)), ⟨by omega, by omega, by omega, rfl⟩, HR⟩
        case round =>
          clear HR
          obtain ⟨t, rfl, HA, HR⟩ := hrel
          obtain ⟨hit, htj, hkj, hS⟩ := HA.out
          clear HA
          have hcw : ∀ t, t < d.size → wr.cell? ⟨g, off + t, none⟩ = some (.int .u16 (G t)) := fun t ht => by rw [HG.out]; exact HR.out.cell HH.out t ht
          have hfw : ∀ t, t < d.size → wr.frozen? ⟨g, off + t, none⟩ = false := fun t ht => HR.out.froz HH.out t ht
          have hsw : ∀ x y, x < d.size → y < d.size → (wr.setCell ⟨g, off + x, none⟩ (.int .u16 (G y))).cell? ⟨g, off + y, none⟩ = some (.int .u16 (G y)) := fun x y hx hy => by rw [HG.out]; exact HR.out.swcell HH.out x y hx hy
          by_cases c : t ≤ j
          · cases hl : Sort.ltInt (G a) (G t) with
            | true =>
              have HS := Aside0.mk (show t = Sort.scanUp (fun x => !Sort.ltInt dk[a]! x) dk j i by rw [← hS, scanUp_end _ _ _ _ (.inr (by simp [← HG.out, hl]))])
              clear hS
              go_wp2
              go_quiet (first | (go_at_call 110; (with_reducible refine (less_calls _ _ _).mono ?_); rintro e w' ⟨rfl, ⟨nd, rfl⟩⟩; (try first | exact ⟨rfl, _, World.drewN_drewN _ _ _⟩ | exact ⟨rfl, _, Eq.trans (World.drewN_drewN _ _ _) (congrArg (World.drewN _) (Nat.add_assoc _ _ _))⟩)))
              go_wp2
              go_meet
              case rel => exact ⟨rfl, t, rfl, ⟨by omega, by omega, HS.out⟩, ⟨HR.out.drewN _⟩⟩
            | false =>
              have HS := Aside0.mk (show Sort.scanUp (fun x => !Sort.ltInt dk[a]! x) dk j (t + 1) = Sort.scanUp (fun x => !Sort.ltInt dk[a]! x) dk j i by rw [← hS, scanUp_go _ _ _ _ c (by simp [← HG.out, hl])])
              clear hS
              cases gk with
              | zero => omega
              | succ k2 =>
                go_wp2
                go_quiet (first | (go_at_call 110; (with_reducible refine (less_calls _ _ _).mono ?_); rintro e w' ⟨rfl, ⟨nd, rfl⟩⟩; (try first | exact ⟨rfl, _, World.drewN_drewN _ _ _⟩ | exact ⟨rfl, _, Eq.trans (World.drewN_drewN _ _ _) (congrArg (World.drewN _) (Nat.add_assoc _ _ _))⟩)))
                go_wp2
                go_roundg k2
                case measure => omega
                case rel => exact ⟨t + 1, (by congr 1), ⟨by omega, by omega, by omega, HS.out⟩, ⟨HR.out.drewN _⟩⟩
          · have HS := Aside0.mk (show t = Sort.scanUp (fun x => !Sort.ltInt dk[a]! x) dk j i by rw [← hS, scanUp_end _ _ _ _ (.inl c)])
            clear hS
            go_wp2
            go_quiet (first | (go_at_call 110; (with_reducible refine (less_calls _ _ _).mono ?_); rintro e w' ⟨rfl, ⟨nd, rfl⟩⟩; (try first | exact ⟨rfl, _, World.drewN_drewN _ _ _⟩ | exact ⟨rfl, _, Eq.trans (World.drewN_drewN _ _ _) (congrArg (World.drewN _) (Nat.add_assoc _ _ _))⟩)))
            go_wp2
            go_meet
            case rel => exact ⟨rfl, t, rfl, ⟨by omega, by omega, HS.out⟩, ⟨HR.out.drewN _⟩⟩
      case rest =>
        clear HR
        obtain ⟨rfl, i2, rfl, HA, HR⟩ := hcut
        obtain ⟨hi2, hi2j, hs1⟩ := HA.out
        have HS1 := Aside0.mk hs1
        clear HA hs1
        obtain ⟨w1, hw1⟩ : ∃ w1 : World, w1 = wc := ⟨_, rfl⟩
        rw [← hw1] at HR ⊢
        clear hw1
        go_upto_block 4 with (fail)
        go_cut [10, 83] from 29 (fun s s83 wc => s83 = undef ∧ ∃ t : Nat, s = .int .i64 (t : Int) ∧ Aside0 (t ≤ j ∧ i2 ≤ t + 1 ∧ t = Sort.scanDown (fun x => Sort.ltInt dk[a]! x) dk i2 j) ∧ Aside0 (Rw w g off d dk wc))
        case first =>
          go_wp2
          go_loopg [10] (j + 1) (fun kj v w' => ∃ t : Nat, v = .int .i64 (t : Int) ∧ Aside0 (t ≤ j ∧ i2 ≤ t + 1 ∧ t + 1 ≤ kj ∧ Sort.scanDown (fun x => Sort.ltInt dk[a]! x) dk i2 t = Sort.scanDown (fun x => Sort.ltInt dk[a]! x) dk i2 j) ∧ Aside0 (Rw w g off d dk w'))
          case atStart => exact ⟨j, (by first | rfl | (congr 1; omega)), ⟨by omega, by omega, by omega, rfl⟩, HR⟩
          case round =>
            clear HR
            obtain ⟨t, rfl, HA, HR⟩ := hrel
            obtain ⟨htj, hit, hkj, hS⟩ := HA.out
            clear HA
            have hcw : ∀ t, t < d.size → wr.cell? ⟨g, off + t, none⟩ = some (.int .u16 (G t)) := fun t ht => by rw [HG.out]; exact HR.out.cell HH.out t ht
            have hfw : ∀ t, t < d.size → wr.frozen? ⟨g, off + t, none⟩ = false := fun t ht => HR.out.froz HH.out t ht
            have hsw : ∀ x y, x < d.size → y < d.size → (wr.setCell ⟨g, off + x, none⟩ (.int .u16 (G y))).cell? ⟨g, off + y, none⟩ = some (.int .u16 (G y)) := fun x y hx hy => by rw [HG.out]; exact HR.out.swcell HH.out x y hx hy
            by_cases c : i2 ≤ t
            · cases hl : Sort.ltInt (G a) (G t) with
              | false =>
                have HS := Aside0.mk (show t = Sort.scanDown (fun x => Sort.ltInt dk[a]! x) dk i2 j by rw [← hS, scanDown_end _ _ _ _ (.inr (by simp [← HG.out, hl]))])
                clear hS
                go_wp2
                go_quiet (first | (go_at_call 110; (with_reducible refine (less_calls _ _ _).mono ?_); rintro e w' ⟨rfl, ⟨nd, rfl⟩⟩; (try first | exact ⟨rfl, _, World.drewN_drewN _ _ _⟩ | exact ⟨rfl, _, Eq.trans (World.drewN_drewN _ _ _) (congrArg (World.drewN _) (Nat.add_assoc _ _ _))⟩)))
                go_wp2
                go_meet
                case rel => exact ⟨rfl, t, rfl, ⟨by omega, by omega, HS.out⟩, ⟨HR.out.drewN _⟩⟩
              | true =>
                have HS := Aside0.mk (show Sort.scanDown (fun x => Sort.ltInt dk[a]! x) dk i2 (t - 1) = Sort.scanDown (fun x => Sort.ltInt dk[a]! x) dk i2 j by rw [← hS, scanDown_go _ _ _ _ c (by omega) (by simp [← HG.out, hl])])
                clear hS
                cases gk with
                | zero => omega
                | succ k2 =>
                  go_wp2
                  go_quiet (first | (go_at_call 110; (with_reducible refine (less_calls _ _ _).mono ?_); rintro e w' ⟨rfl, ⟨nd, rfl⟩⟩; (try first | exact ⟨rfl, _, World.drewN_drewN _ _ _⟩ | exact ⟨rfl, _, Eq.trans (World.drewN_drewN _ _ _) (congrArg (World.drewN _) (Nat.add_assoc _ _ _))⟩)))
                  go_wp2
                  go_roundg k2
                  case measure => omega
                  case rel => exact ⟨t - 1, (by congr 1; omega), ⟨by omega, by omega, by omega, HS.out⟩, ⟨HR.out.drewN _⟩⟩
            · have HS := Aside0.mk (show t = Sort.scanDown (fun x => Sort.ltInt dk[a]! x) dk i2 j by rw [← hS, scanDown_end _ _ _ _ (.inl c)])
              clear hS
              go_wp2
              go_quiet (first | (go_at_call 110; (with_reducible refine (less_calls _ _ _).mono ?_); rintro e w' ⟨rfl, ⟨nd, rfl⟩⟩; (try first | exact ⟨rfl, _, World.drewN_drewN _ _ _⟩ | exact ⟨rfl, _, Eq.trans (World.drewN_drewN _ _ _) (congrArg (World.drewN _) (Nat.add_assoc _ _ _))⟩)))
              go_wp2
              go_meet
              case rel => exact ⟨rfl, t, rfl, ⟨by omega, by omega, HS.out⟩, ⟨HR.out.drewN _⟩⟩
        case rest =>
          clear HR
          obtain ⟨rfl, j2, rfl, HA, HR⟩ := hcut
          obtain ⟨hj2, hj2i, hs2⟩ := HA.out
          have HS2 := Aside0.mk hs2
          clear HA hs2
          obtain ⟨w2, hw2⟩ : ∃ w2 : World, w2 = wc := ⟨_, rfl⟩
          rw [← hw2] at HR ⊢
          clear hw2
          by_cases c : j2 < i2
          · have HE := Aside0.mk ((partEq_break Sort.ltInt a i j dk HS1.out HS2.out c).symm.trans HO.out)
            clear HO HS1 HS2
            go_wp2
            (try simp only [Exit.inBlock, Exit.then]); refine bodyPost_ret (results_tmp rfl _ _ _) rfl ?_
            exact ⟨by rw [← HE.out]; rfl, by rw [← HE.out]; exact HR.out⟩
          · have hlt : i2 < j2 := scans_lt Sort.ltInt a i j dk (by omega) HS1.out HS2.out (by omega)
            have HE := Aside0.mk ((partEq_go Sort.ltInt a i j dk HS1.out HS2.out (by omega)).symm.trans HO.out)
            clear HO HS1 HS2
            have hcw : ∀ t, t < d.size → w2.cell? ⟨g, off + t, none⟩ = some (.int .u16 (G t)) := fun t ht => by rw [HG.out]; exact HR.out.cell HH.out t ht
            have hfw : ∀ t, t < d.size → w2.frozen? ⟨g, off + t, none⟩ = false := fun t ht => HR.out.froz HH.out t ht
            have hsw : ∀ x y, x < d.size → y < d.size → (w2.setCell ⟨g, off + x, none⟩ (.int .u16 (G y))).cell? ⟨g, off + y, none⟩ = some (.int .u16 (G y)) := fun x y hx hy => by rw [HG.out]; exact HR.out.swcell HH.out x y hx hy
            have li : i2 < d.size := by omega
            have lj : j2 < d.size := by omega
            go_wp2
            go_region
            all_goals go_wp2
            go_roundg k1
            case measure => omega
            case rel => exact ⟨i2 + 1, j2 - 1, Sort.swp dk i2 j2, (by congr 1), (by congr 1; omega), ⟨by omega, by omega, by omega, by omega, by rw [Sort.size_swp]; exact hds, HE.out⟩, ⟨by rw [HG.out, HG.out]; exact (HR.out.swap i2 j2 (by omega) (by omega)).drew⟩⟩
end Go.Proofs.Ytnoelppkcbelcaa.Srt
