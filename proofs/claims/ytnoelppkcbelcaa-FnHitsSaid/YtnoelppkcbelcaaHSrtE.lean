/-
slices.Sort at []uint16: partitionOrdered.
-/
import Derived.Test.YtnoelppkcbelcaaHSrtD
import Derived.IntWalk
import Derived.Sort.WalkC4
import Derived.Deep.Cut
import Derived.Deep.CutBlock

set_option linter.unusedVariables false
set_option linter.unusedSimpArgs false
namespace Go.Proofs.Ytnoelppkcbelcaa.Srt
open Go.RowKit Go.Proofs.YtnoelppkcbelcaaW.PrintWords Go.Proofs.YtnoelppkcbelcaaW.PrintLast Go.Proofs.YtnoelppkcbelcaaW.PrintMore Go.Proofs.Ytnoelppkcbelcaa.MH
set_option maxRecDepth 8000
set_option maxHeartbeats 32000000 in
theorem part_calls (g off cap a b pivot : Nat) (d : Array Int) (w : World) (hH : Sort.Holds E w g off d) (hap : a ≤ pivot) (hpb : pivot < b) (hb : b ≤ d.size) (hsz : d.size < 4611686018427387904) :
    Calls Try.prog 112 #[.slice (some ⟨g, off, none⟩) d.size cap, .int .i64 a, .int .i64 b, .int .i64 pivot] w fun e w' => e = .returned (.tuple #[.int .i64 ((Sort.partition Sort.ltInt d a b pivot).1 : Nat), .bool (Sort.partition Sort.ltInt d a b pivot).2.1]) ∧ Rw w g off d (Sort.partition Sort.ltInt d a b pivot).2.2 w' := by
  have HH := Aside0.mk hH
  have HR := Aside0.mk (Rw.start hH)
  clear hH
  go_enter Try.func112, Try.ntmps112
  obtain ⟨G, hG⟩ : ∃ G : Nat → Int, ∀ t, G t = d[t]! := ⟨fun t => d[t]!, fun _ => rfl⟩
  have HG := Aside0.mk hG
  clear hG
  have hcw : ∀ t, t < d.size → w.cell? ⟨g, off + t, none⟩ = some (.int .u16 (G t)) := fun t ht => by rw [HG.out]; exact HR.out.cell HH.out t ht
  have hfw : ∀ t, t < d.size → w.frozen? ⟨g, off + t, none⟩ = false := fun t ht => HR.out.froz HH.out t ht
  have hsw : ∀ x y, x < d.size → y < d.size → (w.setCell ⟨g, off + x, none⟩ (.int .u16 (G y))).cell? ⟨g, off + y, none⟩ = some (.int .u16 (G y)) := fun x y hx hy => by rw [HG.out]; exact HR.out.swcell HH.out x y hx hy
  have hSW : Rw w g off d (Sort.swp d a pivot) (((w.setCell ⟨g, off + a, none⟩ (.int .u16 (G pivot))).setCell ⟨g, off + pivot, none⟩ (.int .u16 (G a))).drew) := by
    rw [HG.out, HG.out]
    exact (HR.out.swap a pivot (by omega) (by omega)).drew
  clear HR HG
  have la : a < d.size := by omega
  have lp : pivot < d.size := by omega
  obtain ⟨i, hi, hai⟩ : ∃ i, i = a + 1 ∧ a < i := ⟨_, rfl, by omega⟩
  obtain ⟨j, hj, hjb, hij⟩ : ∃ j, j = b - 1 ∧ j < b ∧ i ≤ j + 1 := ⟨_, rfl, by omega, by omega⟩
  have hiz : (a : Int) + 1 = (i : Int) := by omega
  have hjz : (b : Int) - 1 = (j : Int) := by omega
  obtain ⟨dk, hdk, hds⟩ : ∃ dk, dk = Sort.swp d a pivot ∧ dk.size = d.size := ⟨_, rfl, Sort.size_swp _ _ _⟩
  rw [← hdk] at hSW
  have HE := Aside0.mk (And.intro hi (And.intro hj hdk))
  clear hi hj hdk
  have HR := Aside0.mk hSW
  clear hSW
  go_upto_region 1 with (fail)
  go_region
  clear hcw hfw hsw
  generalize ((w.setCell ⟨g, off + a, none⟩ (.int .u16 (G pivot))).setCell ⟨g, off + pivot, none⟩ (.int .u16 (G a))).drew = wr at HR ⊢
  obtain ⟨G, hG⟩ : ∃ G : Nat → Int, ∀ t, G t = dk[t]! := ⟨fun t => dk[t]!, fun _ => rfl⟩
  have HG := Aside0.mk hG
  clear hG
  go_upto_block 0 with (fail)
  go_cut [10] from 30 (fun s wc => ∃ t : Nat, s = .int .i64 (t : Int) ∧ Aside0 (i ≤ t ∧ t ≤ j + 1 ∧ t = Sort.scanUp (fun x => Sort.ltInt x dk[a]!) dk j i) ∧ Aside0 (Rw w g off d dk wc))
  case first =>
    go_wp2
    go_loopg [10] (j + 2) (fun kj v w' => ∃ t : Nat, v = .int .i64 (t : Int) ∧ Aside0 (i ≤ t ∧ t ≤ j + 1 ∧ j + 2 ≤ kj + t ∧ Sort.scanUp (fun x => Sort.ltInt x dk[a]!) dk j t = Sort.scanUp (fun x => Sort.ltInt x dk[a]!) dk j i) ∧ Aside0 (Rw w g off d dk w'))
    case atStart => exact ⟨i, (by first | rfl | (congr 1; omega)), ⟨by omega, by omega, by omega, rfl⟩, HR⟩
    case round =>
      clear HR
      obtain ⟨t, rfl, HA, HR⟩ := hrel
      obtain ⟨hit, htj, hkj, hS⟩ := HA.out
      clear HA
      have hcw : ∀ t, t < d.size → wr.cell? ⟨g, off + t, none⟩ = some (.int .u16 (G t)) := fun t ht => by rw [HG.out]; exact HR.out.cell HH.out t ht
      have hfw : ∀ t, t < d.size → wr.frozen? ⟨g, off + t, none⟩ = false := fun t ht => HR.out.froz HH.out t ht
      have hsw : ∀ x y, x < d.size → y < d.size → (wr.setCell ⟨g, off + x, none⟩ (.int .u16 (G y))).cell? ⟨g, off + y, none⟩ = some (.int .u16 (G y)) := fun x y hx hy => by rw [HG.out]; exact HR.out.swcell HH.out x y hx hy
      by_cases c : t ≤ j
      · cases hl : Sort.ltInt (G t) (G a) with
        | false =>
          have HS := Aside0.mk (show t = Sort.scanUp (fun x => Sort.ltInt x dk[a]!) dk j i by rw [← hS, scanUp_end _ _ _ _ (.inr (by simp [← HG.out, hl]))])
          clear hS
          go_wp2
          go_quiet (first | (go_at_call 110; (with_reducible refine (less_calls _ _ _).mono ?_); rintro e w' ⟨rfl, ⟨nd, rfl⟩⟩; (try first | exact ⟨rfl, _, World.drewN_drewN _ _ _⟩ | exact ⟨rfl, _, Eq.trans (World.drewN_drewN _ _ _) (congrArg (World.drewN _) (Nat.add_assoc _ _ _))⟩)))
          go_wp2
          go_meet
          case rel => exact ⟨t, rfl, ⟨by omega, by omega, HS.out⟩, ⟨HR.out.drewN _⟩⟩
        | true =>
          have HS := Aside0.mk (show Sort.scanUp (fun x => Sort.ltInt x dk[a]!) dk j (t + 1) = Sort.scanUp (fun x => Sort.ltInt x dk[a]!) dk j i by rw [← hS, scanUp_go _ _ _ _ c (by simp [← HG.out, hl])])
          clear hS
          cases gk with
          | zero => omega
          | succ k2 =>
            go_wp2
            go_quiet (first | (go_at_call 110; (with_reducible refine (less_calls _ _ _).mono ?_); rintro e w' ⟨rfl, ⟨nd, rfl⟩⟩; (try first | exact ⟨rfl, _, World.drewN_drewN _ _ _⟩ | exact ⟨rfl, _, Eq.trans (World.drewN_drewN _ _ _) (congrArg (World.drewN _) (Nat.add_assoc _ _ _))⟩)))
            go_wp2
            go_roundg k2
            case measure => omega
            case rel => exact ⟨t + 1, (by congr 1), ⟨by omega, by omega, by omega, HS.out⟩, ⟨HR.out.drewN _⟩⟩
      · have HS := Aside0.mk (show t = Sort.scanUp (fun x => Sort.ltInt x dk[a]!) dk j i by rw [← hS, scanUp_end _ _ _ _ (.inl c)])
        clear hS
        go_wp2
        go_quiet (first | (go_at_call 110; (with_reducible refine (less_calls _ _ _).mono ?_); rintro e w' ⟨rfl, ⟨nd, rfl⟩⟩; (try first | exact ⟨rfl, _, World.drewN_drewN _ _ _⟩ | exact ⟨rfl, _, Eq.trans (World.drewN_drewN _ _ _) (congrArg (World.drewN _) (Nat.add_assoc _ _ _))⟩)))
        go_wp2
        go_meet
        case rel => exact ⟨t, rfl, ⟨by omega, by omega, HS.out⟩, ⟨HR.out.drewN _⟩⟩
  case rest =>
    clear HR
    obtain ⟨i2, rfl, HA, HR⟩ := hcut
    obtain ⟨hi2, hi2j, hs1⟩ := HA.out
    have HS1 := Aside0.mk hs1
    clear HA hs1
    obtain ⟨w1, hw1⟩ : ∃ w1 : World, w1 = wc := ⟨_, rfl⟩
    rw [← hw1] at HR ⊢
    clear hw1
    go_upto_block 2 with (fail)
    go_cut [11] from 30 (fun s wc => ∃ t : Nat, s = .int .i64 (t : Int) ∧ Aside0 (t ≤ j ∧ i2 ≤ t + 1 ∧ t = Sort.scanDown (fun x => !Sort.ltInt x dk[a]!) dk i2 j) ∧ Aside0 (Rw w g off d dk wc))
    case first =>
      go_wp2
      go_loopg [11] (j + 1) (fun kj v w' => ∃ t : Nat, v = .int .i64 (t : Int) ∧ Aside0 (t ≤ j ∧ i2 ≤ t + 1 ∧ t + 1 ≤ kj ∧ Sort.scanDown (fun x => !Sort.ltInt x dk[a]!) dk i2 t = Sort.scanDown (fun x => !Sort.ltInt x dk[a]!) dk i2 j) ∧ Aside0 (Rw w g off d dk w'))
      case atStart => exact ⟨j, (by first | rfl | (congr 1; omega)), ⟨by omega, by omega, by omega, rfl⟩, HR⟩
      case round =>
        clear HR
        obtain ⟨t, rfl, HA, HR⟩ := hrel
        obtain ⟨htj, hit, hkj, hS⟩ := HA.out
        clear HA
        have hcw : ∀ t, t < d.size → wr.cell? ⟨g, off + t, none⟩ = some (.int .u16 (G t)) := fun t ht => by rw [HG.out]; exact HR.out.cell HH.out t ht
        have hfw : ∀ t, t < d.size → wr.frozen? ⟨g, off + t, none⟩ = false := fun t ht => HR.out.froz HH.out t ht
        have hsw : ∀ x y, x < d.size → y < d.size → (wr.setCell ⟨g, off + x, none⟩ (.int .u16 (G y))).cell? ⟨g, off + y, none⟩ = some (.int .u16 (G y)) := fun x y hx hy => by rw [HG.out]; exact HR.out.swcell HH.out x y hx hy
        by_cases c : i2 ≤ t
        · cases hl : Sort.ltInt (G t) (G a) with
          | true =>
            have HS := Aside0.mk (show t = Sort.scanDown (fun x => !Sort.ltInt x dk[a]!) dk i2 j by rw [← hS, scanDown_end _ _ _ _ (.inr (by simp [← HG.out, hl]))])
            clear hS
            go_wp2
            go_quiet (first | (go_at_call 110; (with_reducible refine (less_calls _ _ _).mono ?_); rintro e w' ⟨rfl, ⟨nd, rfl⟩⟩; (try first | exact ⟨rfl, _, World.drewN_drewN _ _ _⟩ | exact ⟨rfl, _, Eq.trans (World.drewN_drewN _ _ _) (congrArg (World.drewN _) (Nat.add_assoc _ _ _))⟩)))
            go_wp2
            go_meet
            case rel => exact ⟨t, rfl, ⟨by omega, by omega, HS.out⟩, ⟨HR.out.drewN _⟩⟩
          | false =>
            have HS := Aside0.mk (show Sort.scanDown (fun x => !Sort.ltInt x dk[a]!) dk i2 (t - 1) = Sort.scanDown (fun x => !Sort.ltInt x dk[a]!) dk i2 j by rw [← hS, scanDown_go _ _ _ _ c (by omega) (by simp [← HG.out, hl])])
            clear hS
            cases gk with
            | zero => omega
            | succ k2 =>
              go_wp2
              go_quiet (first | (go_at_call 110; (with_reducible refine (less_calls _ _ _).mono ?_); rintro e w' ⟨rfl, ⟨nd, rfl⟩⟩; (try first | exact ⟨rfl, _, World.drewN_drewN _ _ _⟩ | exact ⟨rfl, _, Eq.trans (World.drewN_drewN _ _ _) (congrArg (World.drewN _) (Nat.add_assoc _ _ _))⟩)))
              go_wp2
              go_roundg k2
              case measure => omega
              case rel => exact ⟨t - 1, (by congr 1; omega), ⟨by omega, by omega, by omega, HS.out⟩, ⟨HR.out.drewN _⟩⟩
        · have HS := Aside0.mk (show t = Sort.scanDown (fun x => !Sort.ltInt x dk[a]!) dk i2 j by rw [← hS, scanDown_end _ _ _ _ (.inl c)])
          clear hS
          go_wp2
          go_quiet (first | (go_at_call 110; (with_reducible refine (less_calls _ _ _).mono ?_); rintro e w' ⟨rfl, ⟨nd, rfl⟩⟩; (try first | exact ⟨rfl, _, World.drewN_drewN _ _ _⟩ | exact ⟨rfl, _, Eq.trans (World.drewN_drewN _ _ _) (congrArg (World.drewN _) (Nat.add_assoc _ _ _))⟩)))
          go_wp2
          go_meet
          case rel => exact ⟨t, rfl, ⟨by omega, by omega, HS.out⟩, ⟨HR.out.drewN _⟩⟩
    case rest =>
      clear HR
      obtain ⟨j2, rfl, HA, HR⟩ := hcut
      obtain ⟨hj2, hj2i, hs2⟩ := HA.out
      have HS2 := Aside0.mk hs2
      clear HA hs2
      obtain ⟨w2, hw2⟩ : ∃ w2 : World, w2 = wc := ⟨_, rfl⟩
      rw [← hw2] at HR ⊢
      clear hw2
      by_cases c : j2 < i2
      · have HP := Aside0.mk (part_first_break Sort.ltInt d a b pivot HE.out.1 HE.out.2.1 HE.out.2.2 HS1.out HS2.out c)
        clear HE HS1 HS2
        have hcw : ∀ t, t < d.size → w2.cell? ⟨g, off + t, none⟩ = some (.int .u16 (G t)) := fun t ht => by rw [HG.out]; exact HR.out.cell HH.out t ht
        have hfw : ∀ t, t < d.size → w2.frozen? ⟨g, off + t, none⟩ = false := fun t ht => HR.out.froz HH.out t ht
        have hsw : ∀ x y, x < d.size → y < d.size → (w2.setCell ⟨g, off + x, none⟩ (.int .u16 (G y))).cell? ⟨g, off + y, none⟩ = some (.int .u16 (G y)) := fun x y hx hy => by rw [HG.out]; exact HR.out.swcell HH.out x y hx hy
        have lj : j2 < d.size := by omega
        go_wp2
        go_region
        all_goals go_wp2
        (try simp only [Exit.inBlock, Exit.then]); refine bodyPost_ret (results_tmp2 rfl _ _ _) rfl ?_
        exact ⟨by rw [HP.out]; rfl, by rw [HP.out, HG.out, HG.out]; exact (HR.out.swap j2 a (by omega) (by omega)).drew⟩
      have hlt : i2 < j2 := part_scans_lt Sort.ltInt a i j dk (by omega) HS1.out HS2.out (by omega)
      have HP := Aside0.mk (part_first_go Sort.ltInt d a b pivot HE.out.1 HE.out.2.1 HE.out.2.2 HS1.out HS2.out (by omega))
      clear HE HS1 HS2
      have hcw : ∀ t, t < d.size → w2.cell? ⟨g, off + t, none⟩ = some (.int .u16 (G t)) := fun t ht => by rw [HG.out]; exact HR.out.cell HH.out t ht
      have hfw : ∀ t, t < d.size → w2.frozen? ⟨g, off + t, none⟩ = false := fun t ht => HR.out.froz HH.out t ht
      have hsw : ∀ x y, x < d.size → y < d.size → (w2.setCell ⟨g, off + x, none⟩ (.int .u16 (G y))).cell? ⟨g, off + y, none⟩ = some (.int .u16 (G y)) := fun x y hx hy => by rw [HG.out]; exact HR.out.swcell HH.out x y hx hy
      have li : i2 < d.size := by omega
      have lj : j2 < d.size := by omega
      have hSW : Rw w g off d (Sort.swp dk i2 j2) (((w2.setCell ⟨g, off + i2, none⟩ (.int .u16 (G j2))).setCell ⟨g, off + j2, none⟩ (.int .u16 (G i2))).drew) := by
        rw [HG.out, HG.out]
        exact (HR.out.swap i2 j2 (by omega) (by omega)).drew
      clear HR
      have HR := Aside0.mk hSW
      clear hSW
      go_wp2
      go_region
      go_wp2
      clear hcw hfw hsw
      have hP := HP.out
      obtain ⟨T, hT⟩ : ∃ T, T = Sort.partLoop Sort.ltInt a (i2 + 1) (j2 - 1) (Sort.swp dk i2 j2) := ⟨_, rfl⟩
      rw [← hT] at hP
      have HL := Aside0.mk hP
      have HT := Aside0.mk hT
      clear HP hP hT
      go_loopg [10, 11] (b + 1) (fun kq v10 v11 w' => ∃ (i j : Nat) (dl : Array Int), v10 = .int .i64 (i : Int) ∧ v11 = .int .i64 (j : Int) ∧ Aside0 (a < i ∧ i ≤ j + 1 ∧ j < b ∧ j + 2 ≤ kq + i ∧ dl.size = d.size ∧ Sort.partLoop Sort.ltInt a i j dl = T) ∧ Aside0 (Rw w g off d dl w'))
      case atStart => exact ⟨i2 + 1, j2 - 1, Sort.swp dk i2 j2, (by congr 1), (by congr 1; omega), ⟨by omega, by omega, by omega, by omega, by rw [Sort.size_swp]; exact hds, HT.out.symm⟩, HR⟩
      case round =>
        clear HR
        clear HT HG
        obtain ⟨i, j, dl, rfl, rfl, HA, HR⟩ := hrel
        obtain ⟨hai, hij, hjb, hkq, hds, hO⟩ := HA.out
        have HO := Aside0.mk hO
        clear HA hO
        obtain ⟨dk, hdk⟩ : ∃ dk, dk = dl := ⟨_, rfl⟩
        rw [← hdk] at hds HR HO
        clear hdk
        obtain ⟨G, hG⟩ : ∃ G : Nat → Int, ∀ t, G t = dk[t]! := ⟨fun t => dk[t]!, fun _ => rfl⟩
        have HG := Aside0.mk hG
        clear hG
        cases gk with
        | zero => omega
        | succ k1 =>
            go_upto_block 6 with (fail)
            go_cut [10, 153, 154, 155, 156, 157, 158, 159, 160, 161, 162, 163, 164, 165, 166, 167] from 99 (fun s s153 s154 s155 s156 s157 s158 s159 s160 s161 s162 s163 s164 s165 s166 s167 wc => s153 = u153 ∧ s154 = u154 ∧ s155 = u155 ∧ s156 = u156 ∧ s157 = u157 ∧ s158 = u158 ∧ s159 = u159 ∧ s160 = u160 ∧ s161 = u161 ∧ s162 = u162 ∧ s163 = u163 ∧ s164 = u164 ∧ s165 = u165 ∧ s166 = u166 ∧ s167 = u167 ∧ ∃ t : Nat, s = .int .i64 (t : Int) ∧ Aside0 (i ≤ t ∧ t ≤ j + 1 ∧ t = Sort.scanUp (fun x => Sort.ltInt x dk[a]!) dk j i) ∧ Aside0 (Rw w g off d dk wc))
            case first =>
              go_wp2
              go_loopg [10] (j + 2) (fun kj v w' => ∃ t : Nat, v = .int .i64 (t : Int) ∧ Aside0 (i ≤ t ∧ t ≤ j + 1 ∧ j + 2 ≤ kj + t ∧ Sort.scanUp (fun x => Sort.ltInt x dk[a]!) dk j t = Sort.scanUp (fun x => Sort.ltInt x dk[a]!) dk j i) ∧ Aside0 (Rw w g off d dk w'))
              case atStart => exact ⟨i, (by first | rfl | (congr 1; omega)), ⟨by omega, by omega, by omega, rfl⟩, HR⟩
              case round =>
                clear HR
                obtain ⟨t, rfl, HA, HR⟩ := hrel
                obtain ⟨hit, htj, hkj, hS⟩ := HA.out
                clear HA
                have hcw : ∀ t, t < d.size → wr.cell? ⟨g, off + t, none⟩ = some (.int .u16 (G t)) := fun t ht => by rw [HG.out]; exact HR.out.cell HH.out t ht
                have hfw : ∀ t, t < d.size → wr.frozen? ⟨g, off + t, none⟩ = false := fun t ht => HR.out.froz HH.out t ht
                have hsw : ∀ x y, x < d.size → y < d.size → (wr.setCell ⟨g, off + x, none⟩ (.int .u16 (G y))).cell? ⟨g, off + y, none⟩ = some (.int .u16 (G y)) := fun x y hx hy => by rw [HG.out]; exact HR.out.swcell HH.out x y hx hy
                by_cases c : t ≤ j
                · cases hl : Sort.ltInt (G t) (G a) with
                  | false =>
                    have HS := Aside0.mk (show t = Sort.scanUp (fun x => Sort.ltInt x dk[a]!) dk j i by rw [← hS, scanUp_end _ _ _ _ (.inr (by simp [← HG.out, hl]))])
                    clear hS
                    go_wp2
                    go_quiet (first | (go_at_call 110; (with_reducible refine (less_calls _ _ _).mono ?_); rintro e w' ⟨rfl, ⟨nd, rfl⟩⟩; (try first | exact ⟨rfl, _, World.drewN_drewN _ _ _⟩ | exact ⟨rfl, _, Eq.trans (World.drewN_drewN _ _ _) (congrArg (World.drewN _) (Nat.add_assoc _ _ _))⟩)))
                    go_wp2
                    go_meet
                    case rel => exact ⟨rfl, rfl, rfl, rfl, rfl, rfl, rfl, rfl, rfl, rfl, rfl, rfl, rfl, rfl, rfl, t, rfl, ⟨by omega, by omega, HS.out⟩, ⟨HR.out.drewN _⟩⟩
                  | true =>
                    have HS := Aside0.mk (show Sort.scanUp (fun x => Sort.ltInt x dk[a]!) dk j (t + 1) = Sort.scanUp (fun x => Sort.ltInt x dk[a]!) dk j i by rw [← hS, scanUp_go _ _ _ _ c (by simp [← HG.out, hl])])
                    clear hS
                    cases gk with
                    | zero => omega
                    | succ k2 =>
                      go_wp2
                      go_quiet (first | (go_at_call 110; (with_reducible refine (less_calls _ _ _).mono ?_); rintro e w' ⟨rfl, ⟨nd, rfl⟩⟩; (try first | exact ⟨rfl, _, World.drewN_drewN _ _ _⟩ | exact ⟨rfl, _, Eq.trans (World.drewN_drewN _ _ _) (congrArg (World.drewN _) (Nat.add_assoc _ _ _))⟩)))
                      go_wp2
                      go_roundg k2
                      case measure => omega
                      case rel => exact ⟨t + 1, (by congr 1), ⟨by omega, by omega, by omega, HS.out⟩, ⟨HR.out.drewN _⟩⟩
                · have HS := Aside0.mk (show t = Sort.scanUp (fun x => Sort.ltInt x dk[a]!) dk j i by rw [← hS, scanUp_end _ _ _ _ (.inl c)])
                  clear hS
                  go_wp2
                  go_quiet (first | (go_at_call 110; (with_reducible refine (less_calls _ _ _).mono ?_); rintro e w' ⟨rfl, ⟨nd, rfl⟩⟩; (try first | exact ⟨rfl, _, World.drewN_drewN _ _ _⟩ | exact ⟨rfl, _, Eq.trans (World.drewN_drewN _ _ _) (congrArg (World.drewN _) (Nat.add_assoc _ _ _))⟩)))
                  go_wp2
                  go_meet
                  case rel => exact ⟨rfl, rfl, rfl, rfl, rfl, rfl, rfl, rfl, rfl, rfl, rfl, rfl, rfl, rfl, rfl, t, rfl, ⟨by omega, by omega, HS.out⟩, ⟨HR.out.drewN _⟩⟩
            case rest =>
              clear HR
              obtain ⟨rfl, rfl, rfl, rfl, rfl, rfl, rfl, rfl, rfl, rfl, rfl, rfl, rfl, rfl, rfl, i2, rfl, HA, HR⟩ := hcut
              obtain ⟨hi2, hi2j, hs1⟩ := HA.out
              have HS1 := Aside0.mk hs1
              clear HA hs1
              obtain ⟨w1, hw1⟩ : ∃ w1 : World, w1 = wc := ⟨_, rfl⟩
              rw [← hw1] at HR ⊢
              clear hw1
              go_upto_block 8 with (fail)
              go_cut [11, 153, 154, 155, 156, 157, 158, 159, 160, 161, 162, 163, 164, 165, 166, 167] from 99 (fun s s153 s154 s155 s156 s157 s158 s159 s160 s161 s162 s163 s164 s165 s166 s167 wc => s153 = u153 ∧ s154 = u154 ∧ s155 = u155 ∧ s156 = u156 ∧ s157 = u157 ∧ s158 = u158 ∧ s159 = u159 ∧ s160 = u160 ∧ s161 = u161 ∧ s162 = u162 ∧ s163 = u163 ∧ s164 = u164 ∧ s165 = u165 ∧ s166 = u166 ∧ s167 = u167 ∧ ∃ t : Nat, s = .int .i64 (t : Int) ∧ Aside0 (t ≤ j ∧ i2 ≤ t + 1 ∧ t = Sort.scanDown (fun x => !Sort.ltInt x dk[a]!) dk i2 j) ∧ Aside0 (Rw w g off d dk wc))
              case first =>
                go_wp2
                go_loopg [11] (j + 1) (fun kj v w' => ∃ t : Nat, v = .int .i64 (t : Int) ∧ Aside0 (t ≤ j ∧ i2 ≤ t + 1 ∧ t + 1 ≤ kj ∧ Sort.scanDown (fun x => !Sort.ltInt x dk[a]!) dk i2 t = Sort.scanDown (fun x => !Sort.ltInt x dk[a]!) dk i2 j) ∧ Aside0 (Rw w g off d dk w'))
                case atStart => exact ⟨j, (by first | rfl | (congr 1; omega)), ⟨by omega, by omega, by omega, rfl⟩, HR⟩
                case round =>
                  clear HR
                  obtain ⟨t, rfl, HA, HR⟩ := hrel
                  obtain ⟨htj, hit, hkj, hS⟩ := HA.out
                  clear HA
                  have hcw : ∀ t, t < d.size → wr.cell? ⟨g, off + t, none⟩ = some (.int .u16 (G t)) := fun t ht => by rw [HG.out]; exact HR.out.cell HH.out t ht
                  have hfw : ∀ t, t < d.size → wr.frozen? ⟨g, off + t, none⟩ = false := fun t ht => HR.out.froz HH.out t ht
                  have hsw : ∀ x y, x < d.size → y < d.size → (wr.setCell ⟨g, off + x, none⟩ (.int .u16 (G y))).cell? ⟨g, off + y, none⟩ = some (.int .u16 (G y)) := fun x y hx hy => by rw [HG.out]; exact HR.out.swcell HH.out x y hx hy
                  by_cases c : i2 ≤ t
                  · cases hl : Sort.ltInt (G t) (G a) with
                    | true =>
                      have HS := Aside0.mk (show t = Sort.scanDown (fun x => !Sort.ltInt x dk[a]!) dk i2 j by rw [← hS, scanDown_end _ _ _ _ (.inr (by simp [← HG.out, hl]))])
                      clear hS
                      go_wp2
                      go_quiet (first | (go_at_call 110; (with_reducible refine (less_calls _ _ _).mono ?_); rintro e w' ⟨rfl, ⟨nd, rfl⟩⟩; (try first | exact ⟨rfl, _, World.drewN_drewN _ _ _⟩ | exact ⟨rfl, _, Eq.trans (World.drewN_drewN _ _ _) (congrArg (World.drewN _) (Nat.add_assoc _ _ _))⟩)))
                      go_wp2
                      go_meet
                      case rel => exact ⟨rfl, rfl, rfl, rfl, rfl, rfl, rfl, rfl, rfl, rfl, rfl, rfl, rfl, rfl, rfl, t, rfl, ⟨by omega, by omega, HS.out⟩, ⟨HR.out.drewN _⟩⟩
                    | false =>
                      have HS := Aside0.mk (show Sort.scanDown (fun x => !Sort.ltInt x dk[a]!) dk i2 (t - 1) = Sort.scanDown (fun x => !Sort.ltInt x dk[a]!) dk i2 j by rw [← hS, scanDown_go _ _ _ _ c (by omega) (by simp [← HG.out, hl])])
                      clear hS
                      cases gk with
                      | zero => omega
                      | succ k2 =>
                        go_wp2
                        go_quiet (first | (go_at_call 110; (with_reducible refine (less_calls _ _ _).mono ?_); rintro e w' ⟨rfl, ⟨nd, rfl⟩⟩; (try first | exact ⟨rfl, _, World.drewN_drewN _ _ _⟩ | exact ⟨rfl, _, Eq.trans (World.drewN_drewN _ _ _) (congrArg (World.drewN _) (Nat.add_assoc _ _ _))⟩)))
                        go_wp2
                        go_roundg k2
                        case measure => omega
                        case rel => exact ⟨t - 1, (by congr 1; omega), ⟨by omega, by omega, by omega, HS.out⟩, ⟨HR.out.drewN _⟩⟩
                  · have HS := Aside0.mk (show t = Sort.scanDown (fun x => !Sort.ltInt x dk[a]!) dk i2 j by rw [← hS, scanDown_end _ _ _ _ (.inl c)])
                    clear hS
                    go_wp2
                    go_quiet (first | (go_at_call 110; (with_reducible refine (less_calls _ _ _).mono ?_); rintro e w' ⟨rfl, ⟨nd, rfl⟩⟩; (try first | exact ⟨rfl, _, World.drewN_drewN _ _ _⟩ | exact ⟨rfl, _, Eq.trans (World.drewN_drewN _ _ _) (congrArg (World.drewN _) (Nat.add_assoc _ _ _))⟩)))
                    go_wp2
                    go_meet
                    case rel => exact ⟨rfl, rfl, rfl, rfl, rfl, rfl, rfl, rfl, rfl, rfl, rfl, rfl, rfl, rfl, rfl, t, rfl, ⟨by omega, by omega, HS.out⟩, ⟨HR.out.drewN _⟩⟩
              case rest =>
                clear HR
                obtain ⟨rfl, rfl, rfl, rfl, rfl, rfl, rfl, rfl, rfl, rfl, rfl, rfl, rfl, rfl, rfl, j2, rfl, HA, HR⟩ := hcut
                obtain ⟨hj2, hj2i, hs2⟩ := HA.out
                have HS2 := Aside0.mk hs2
                clear HA hs2
                obtain ⟨w2, hw2⟩ : ∃ w2 : World, w2 = wc := ⟨_, rfl⟩
                rw [← hw2] at HR ⊢
                clear hw2
                by_cases c : j2 < i2
                · have HE := Aside0.mk (part_break Sort.ltInt a i j dk HS1.out HS2.out c)
                  have HQ := Aside0.mk (HO.out.symm.trans HE.out)
                  clear HE HS1 HS2 HO
                  have hcw : ∀ t, t < d.size → w2.cell? ⟨g, off + t, none⟩ = some (.int .u16 (G t)) := fun t ht => by rw [HG.out]; exact HR.out.cell HH.out t ht
                  have hfw : ∀ t, t < d.size → w2.frozen? ⟨g, off + t, none⟩ = false := fun t ht => HR.out.froz HH.out t ht
                  have hsw : ∀ x y, x < d.size → y < d.size → (w2.setCell ⟨g, off + x, none⟩ (.int .u16 (G y))).cell? ⟨g, off + y, none⟩ = some (.int .u16 (G y)) := fun x y hx hy => by rw [HG.out]; exact HR.out.swcell HH.out x y hx hy
                  have lj : j2 < d.size := by omega
                  go_wp2
                  go_region
                  all_goals go_wp2
                  (try simp only [Exit.inBlock, Exit.then]); refine bodyPost_ret (results_tmp2 rfl _ _ _) rfl ?_
                  exact ⟨by rw [HL.out, HQ.out]; rfl, by rw [HL.out, HQ.out, HG.out, HG.out]; exact (HR.out.swap j2 a (by omega) (by omega)).drew⟩
                · have hlt : i2 < j2 := part_scans_lt Sort.ltInt a i j dk (by omega) HS1.out HS2.out (by omega)
                  have HE := Aside0.mk (part_go Sort.ltInt a i j dk HS1.out HS2.out (by omega))
                  have HQ := Aside0.mk (HE.out.symm.trans HO.out)
                  clear HE HS1 HS2 HO
                  have hcw : ∀ t, t < d.size → w2.cell? ⟨g, off + t, none⟩ = some (.int .u16 (G t)) := fun t ht => by rw [HG.out]; exact HR.out.cell HH.out t ht
                  have hfw : ∀ t, t < d.size → w2.frozen? ⟨g, off + t, none⟩ = false := fun t ht => HR.out.froz HH.out t ht
                  have hsw : ∀ x y, x < d.size → y < d.size → (w2.setCell ⟨g, off + x, none⟩ (.int .u16 (G y))).cell? ⟨g, off + y, none⟩ = some (.int .u16 (G y)) := fun x y hx hy => by rw [HG.out]; exact HR.out.swcell HH.out x y hx hy
                  have li : i2 < d.size := by omega
                  have lj : j2 < d.size := by omega
                  go_wp2
                  go_region
                  all_goals go_wp2
                  go_roundg k1
                  case measure => omega
                  case rel => exact ⟨i2 + 1, j2 - 1, Sort.swp dk i2 j2, (by congr 1), (by congr 1; omega), ⟨by omega, by omega, by omega, by omega, by rw [Sort.size_swp]; exact hds, HQ.out⟩, ⟨by rw [HG.out, HG.out]; exact (HR.out.swap i2 j2 (by omega) (by omega)).drew⟩⟩
end Go.Proofs.Ytnoelppkcbelcaa.Srt
