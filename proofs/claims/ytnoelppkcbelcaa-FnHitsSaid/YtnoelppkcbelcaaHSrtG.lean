/-
slices.Sort at []uint16: partialInsertionSortOrdered.
-/
import Derived.Test.YtnoelppkcbelcaaHSrtA
import Derived.IntWalk
import Derived.Sort.WalkA6
import Derived.Deep.Cut
import Derived.Deep.CutBlock

set_option linter.unusedVariables false
set_option linter.unusedSimpArgs false
namespace Go.Proofs.Ytnoelppkcbelcaa.Srt
open Go.RowKit Go.Proofs.YtnoelppkcbelcaaW.PrintWords Go.Proofs.YtnoelppkcbelcaaW.PrintLast Go.Proofs.YtnoelppkcbelcaaW.PrintMore Go.Proofs.Ytnoelppkcbelcaa.MH
set_option maxRecDepth 8000
set_option maxHeartbeats 32000000 in
theorem partial_calls (g off cap a b : Nat) (d : Array Int) (w : World) (hH : Sort.Holds E w g off d) (hab : a < b) (hb : b ≤ d.size) (hsz : d.size < 4611686018427387904) :
    Calls Try.prog 109 #[.slice (some ⟨g, off, none⟩) d.size cap, .int .i64 a, .int .i64 b] w fun e w' => e = .returned (.bool (Sort.partialInsertionSort Sort.ltInt d a b).2) ∧ Rw w g off d (Sort.partialInsertionSort Sort.ltInt d a b).1 w' := by
  have HH := Aside0.mk hH
  have HR := Aside0.mk (Rw.start hH)
  clear hH
  obtain ⟨l, hl⟩ : ∃ l : Nat, (b : Int) - (a : Int) = (l : Int) := ⟨b - a, by omega⟩
  go_enter Try.func109, Try.ntmps109
  go_wp2
  go_loopg [7, 8] 6 (fun kq v7 v8 w' => ∃ (i z : Nat) (dk : Array Int), v7 = .int .i64 (i : Int) ∧ v8 = .int .i64 (z : Int) ∧ Aside0 (a < i ∧ i ≤ b ∧ z ≤ 5 ∧ 6 ≤ kq + z ∧ dk.size = d.size ∧ Sort.partialIns Sort.ltInt a b (5 - z) i dk = Sort.partialInsertionSort Sort.ltInt d a b) ∧ Aside0 (Rw w g off d dk w'))
  case atStart => exact ⟨a + 1, 0, d, (by congr 1), rfl, ⟨by omega, by omega, by omega, by omega, rfl, rfl⟩, HR⟩
  case round =>
    clear HR
    obtain ⟨i, z, dk, rfl, rfl, HA, HR⟩ := hrel
    obtain ⟨hai, hib, hz, hkq, hds, hO⟩ := HA.out
    clear HA
    have HO := Aside0.mk hO
    clear hO
    by_cases cz : z = 5
    · subst cz
      go_wp2
      (try simp only [Exit.inBlock, Exit.then]); refine bodyPost_ret (results_tmp rfl _ _ _) rfl ?_
      exact ⟨by rw [← HO.out]; rfl, by rw [← HO.out]; exact HR.out⟩
    cases gk with
    | zero => omega
    | succ k1 =>
      have hz5 : z < 5 := by omega
      clear cz
      obtain ⟨G, hG⟩ : ∃ G : Nat → Int, ∀ t, G t = dk[t]! := ⟨fun t => dk[t]!, fun _ => rfl⟩
      have HG := Aside0.mk hG
      clear hG
      go_upto_block 2 with (fail)
      go_cut [7] from 13 (fun s wc => ∃ t : Nat, s = .int .i64 (t : Int) ∧ Aside0 (a < t ∧ t ≤ b ∧ Sort.scanSorted Sort.ltInt dk b i = t) ∧ Aside0 (Rw w g off d dk wc))
      case first =>
        go_wp2
        go_loopg [7] (b + 1) (fun kj v w' => ∃ t : Nat, v = .int .i64 (t : Int) ∧ Aside0 (a < t ∧ t ≤ b ∧ b + 1 ≤ kj + t ∧ Sort.scanSorted Sort.ltInt dk b t = Sort.scanSorted Sort.ltInt dk b i) ∧ Aside0 (Rw w g off d dk w'))
        case atStart => exact ⟨i, rfl, ⟨by omega, by omega, by omega, rfl⟩, HR⟩
        case round =>
          clear HR
          obtain ⟨t, rfl, HA, HR⟩ := hrel
          obtain ⟨hat, htb, hkj, hS⟩ := HA.out
          clear HA
          have hcw : ∀ t, t < d.size → wr.cell? ⟨g, off + t, none⟩ = some (.int .u16 (G t)) := fun t ht => by rw [HG.out]; exact HR.out.cell HH.out t ht
          have hfw : ∀ t, t < d.size → wr.frozen? ⟨g, off + t, none⟩ = false := fun t ht => HR.out.froz HH.out t ht
          have hsw : ∀ x y, x < d.size → y < d.size → (wr.setCell ⟨g, off + x, none⟩ (.int .u16 (G y))).cell? ⟨g, off + y, none⟩ = some (.int .u16 (G y)) := fun x y hx hy => by rw [HG.out]; exact HR.out.swcell HH.out x y hx hy
          by_cases c : t < b
          · cases hc : Sort.ltInt (G t) (G (t - 1)) with
            | true =>
              have HS := Aside0.mk (show Sort.scanSorted Sort.ltInt dk b i = t by rw [← hS, scanSorted_stop _ _ _ _ (.inr (by rw [← HG.out, ← HG.out]; exact hc))])
              clear hS
              go_wp2
              go_quiet (first | (go_at_call 110; (with_reducible refine (less_calls _ _ _).mono ?_); rintro e w' ⟨rfl, ⟨nd, rfl⟩⟩; (try first | exact ⟨rfl, _, World.drewN_drewN _ _ _⟩ | exact ⟨rfl, _, Eq.trans (World.drewN_drewN _ _ _) (congrArg (World.drewN _) (Nat.add_assoc _ _ _))⟩)))
              go_wp2
              go_meet
              case rel => exact ⟨t, rfl, ⟨by omega, by omega, HS.out⟩, ⟨HR.out.drewN _⟩⟩
            | false =>
              have HS := Aside0.mk (show Sort.scanSorted Sort.ltInt dk b (t + 1) = Sort.scanSorted Sort.ltInt dk b i by rw [← hS, scanSorted_go _ _ _ _ c (by rw [← HG.out, ← HG.out]; exact hc)])
              clear hS
              cases gk with
              | zero => omega
              | succ k2 =>
                go_wp2
                go_quiet (first | (go_at_call 110; (with_reducible refine (less_calls _ _ _).mono ?_); rintro e w' ⟨rfl, ⟨nd, rfl⟩⟩; (try first | exact ⟨rfl, _, World.drewN_drewN _ _ _⟩ | exact ⟨rfl, _, Eq.trans (World.drewN_drewN _ _ _) (congrArg (World.drewN _) (Nat.add_assoc _ _ _))⟩)))
                go_wp2
                go_roundg k2
                case measure => omega
                case rel => exact ⟨t + 1, (by congr 1), ⟨by omega, by omega, by omega, HS.out⟩, ⟨HR.out.drewN _⟩⟩
          · have HS := Aside0.mk (show Sort.scanSorted Sort.ltInt dk b i = t by rw [← hS, scanSorted_stop _ _ _ _ (.inl c)])
            clear hS
            go_wp2
            go_quiet (first | (go_at_call 110; (with_reducible refine (less_calls _ _ _).mono ?_); rintro e w' ⟨rfl, ⟨nd, rfl⟩⟩; (try first | exact ⟨rfl, _, World.drewN_drewN _ _ _⟩ | exact ⟨rfl, _, Eq.trans (World.drewN_drewN _ _ _) (congrArg (World.drewN _) (Nat.add_assoc _ _ _))⟩)))
            go_wp2
            go_meet
            case rel => exact ⟨t, rfl, ⟨by omega, by omega, HS.out⟩, ⟨HR.out.drewN _⟩⟩
      case rest =>
        clear HR
        obtain ⟨t, rfl, HA, HR⟩ := hcut
        obtain ⟨hat, htb, hK⟩ := HA.out
        have HK := Aside0.mk hK
        clear HA hK
        obtain ⟨w1, hw1⟩ : ∃ w1 : World, w1 = wc := ⟨_, rfl⟩
        rw [← hw1] at HR ⊢
        clear hw1
        by_cases ctb : t = b
        · have HE := Aside0.mk ((pi_true Sort.ltInt a b z i dk hz5 (HK.out.trans ctb)).symm.trans HO.out)
          clear HO HK
          subst ctb
          go_wp2
          (try simp only [Exit.inBlock, Exit.then]); refine bodyPost_ret (results_tmp rfl _ _ _) rfl ?_
          exact ⟨by rw [← HE.out]; rfl, by rw [← HE.out]; exact HR.out⟩
        by_cases c50 : l < 50
        · have HE := Aside0.mk ((pi_short Sort.ltInt a b z i dk hz5 (by rw [HK.out]; exact ctb) (by omega)).symm.trans HO.out)
          clear HO HK
          go_wp2
          (try simp only [Exit.inBlock, Exit.then]); refine bodyPost_ret (results_tmp rfl _ _ _) rfl ?_
          exact ⟨by rw [← HE.out]; rfl, by rw [← HE.out]; exact HR.out⟩
        have HE := Aside0.mk ((pi_go Sort.ltInt a b z i t dk hz5 HK.out ctb (by omega)).symm.trans HO.out)
        clear HO HK
        obtain ⟨p, hp, lp, hpt⟩ : ∃ p : Nat, (t : Int) - 1 = (p : Int) ∧ p < d.size ∧ t = p + 1 := ⟨t - 1, by omega, by omega, by omega⟩
        have lt_ : t < d.size := by omega
        rw [show t - 1 = p by omega] at HE
        have HPT := Aside0.mk hpt
        have hpa : a ≤ p := by omega
        clear hpt
        have hcw : ∀ t, t < d.size → w1.cell? ⟨g, off + t, none⟩ = some (.int .u16 (G t)) := fun t ht => by rw [HG.out]; exact HR.out.cell HH.out t ht
        have hfw : ∀ t, t < d.size → w1.frozen? ⟨g, off + t, none⟩ = false := fun t ht => HR.out.froz HH.out t ht
        have hsw : ∀ x y, x < d.size → y < d.size → (w1.setCell ⟨g, off + x, none⟩ (.int .u16 (G y))).cell? ⟨g, off + y, none⟩ = some (.int .u16 (G y)) := fun x y hx hy => by rw [HG.out]; exact HR.out.swcell HH.out x y hx hy
        have hSW : Rw w g off d (Sort.swp dk t p) (((w1.setCell ⟨g, off + t, none⟩ (.int .u16 (G p))).setCell ⟨g, off + p, none⟩ (.int .u16 (G t))).drew) := by
          rw [HG.out, HG.out]
          exact (HR.out.swap t p (by omega) (by omega)).drew
        clear HR
        have HR := Aside0.mk hSW
        clear hSW
        go_upto_region 11 with (fail)
        go_region
        clear hcw hfw hsw
        generalize ((w1.setCell ⟨g, off + t, none⟩ (.int .u16 (G p))).setCell ⟨g, off + p, none⟩ (.int .u16 (G t))).drew = w2 at HR ⊢
        obtain ⟨d1, hd1, hs1⟩ : ∃ d1, d1 = Sort.swp dk t p ∧ d1.size = d.size := ⟨_, rfl, by rw [Sort.size_swp]; exact hds⟩
        rw [← hd1] at HR HE
        clear hd1 HG hds
        obtain ⟨r, hr⟩ : ∃ r : Nat, (t : Int) - (a : Int) = (r : Int) := ⟨t - a, by omega⟩
        obtain ⟨m, hm⟩ : ∃ m : Nat, (b : Int) - (t : Int) = (m : Int) := ⟨b - t, by omega⟩
        go_upto_if 61 with (fail)
        go_cut [] from 13 (fun wc => Aside0 (Rw w g off d (Sort.fixDown Sort.ltInt a t d1) wc))
        case first =>
          by_cases cr : 2 ≤ r
          · have HF := Aside0.mk (show Sort.fixDown Sort.ltInt a t d1 = Sort.shiftDown Sort.ltInt p d1 by
              have := HPT.out
              unfold Sort.fixDown
              rw [if_pos (by omega), show t - 1 = p by omega])
            go_wp2
            go_loopg [9] (p + 1) (fun kj v w' => ∃ (j : Nat) (dj : Array Int), v = .int .i64 (j : Int) ∧ Aside0 (j ≤ p ∧ j + 1 ≤ kj ∧ Sort.shiftDown Sort.ltInt j dj = Sort.shiftDown Sort.ltInt p d1) ∧ Aside0 (Rw w g off d dj w'))
            case atStart => exact ⟨p, d1, (by first | rfl | (congr 1)), ⟨by omega, by omega, rfl⟩, HR⟩
            case round =>
              clear HR
              obtain ⟨j, dj, rfl, HA, HR⟩ := hrel
              obtain ⟨hjp, hkj, hS⟩ := HA.out
              clear HA
              by_cases c0 : j = 0
              · subst c0
                have HS := Aside0.mk (show dj = Sort.shiftDown Sort.ltInt p d1 by rw [← hS, shiftDown_stop _ _ _ (.inl rfl)])
                clear hS
                go_wp2
                go_meet
                case rel => exact ⟨by rw [HF.out, ← HS.out]; exact HR.out⟩
              · skip
                obtain ⟨G, hG⟩ : ∃ G : Nat → Int, ∀ t, G t = dj[t]! := ⟨fun t => dj[t]!, fun _ => rfl⟩
                have HG := Aside0.mk hG
                clear hG
                have hcw : ∀ t, t < d.size → wr.cell? ⟨g, off + t, none⟩ = some (.int .u16 (G t)) := fun t ht => by rw [HG.out]; exact HR.out.cell HH.out t ht
                have hfw : ∀ t, t < d.size → wr.frozen? ⟨g, off + t, none⟩ = false := fun t ht => HR.out.froz HH.out t ht
                have hsw : ∀ x y, x < d.size → y < d.size → (wr.setCell ⟨g, off + x, none⟩ (.int .u16 (G y))).cell? ⟨g, off + y, none⟩ = some (.int .u16 (G y)) := fun x y hx hy => by rw [HG.out]; exact HR.out.swcell HH.out x y hx hy
                obtain ⟨y, hy, ly, hyj⟩ : ∃ y : Nat, (j : Int) - 1 = (y : Int) ∧ y < d.size ∧ j = y + 1 := ⟨j - 1, by omega, by omega, by omega⟩
                have lj : j < d.size := by omega
                have hj1 : 1 ≤ j := by omega
                have hwy : IntKind.i64.wrap ((j : Int) - 1) = (y : Int) := by rw [IntWalk.i64_in _ (by omega)]; omega
                cases hc : Sort.ltInt (G j) (G y) with
                | false =>
                  have HS := Aside0.mk (show dj = Sort.shiftDown Sort.ltInt p d1 by rw [← hS, shiftDown_stop _ _ _ (.inr (by rw [← HG.out, ← HG.out, show j - 1 = y by omega]; exact hc))])
                  clear hS hyj
                  go_wp2
                  go_quiet (first | (go_at_call 110; (with_reducible refine (less_calls _ _ _).mono ?_); rintro e w' ⟨rfl, ⟨nd, rfl⟩⟩; (try first | exact ⟨rfl, _, World.drewN_drewN _ _ _⟩ | exact ⟨rfl, _, Eq.trans (World.drewN_drewN _ _ _) (congrArg (World.drewN _) (Nat.add_assoc _ _ _))⟩)))
                  go_wp2
                  go_meet
                  case rel => exact ⟨by rw [HF.out, ← HS.out]; exact HR.out.drewN _⟩
                | true =>
                  have HS := Aside0.mk (show Sort.shiftDown Sort.ltInt y (Sort.swp dj j y) = Sort.shiftDown Sort.ltInt p d1 by rw [← hS, shiftDown_go _ _ _ hj1 (by rw [← HG.out, ← HG.out, show j - 1 = y by omega]; exact hc), show j - 1 = y by omega])
                  clear hS hyj
                  cases gk with
                  | zero => omega
                  | succ k2 =>
                    go_wp2
                    go_quiet (first | (go_at_call 110; (with_reducible refine (less_calls _ _ _).mono ?_); rintro e w' ⟨rfl, ⟨nd, rfl⟩⟩; (try first | exact ⟨rfl, _, World.drewN_drewN _ _ _⟩ | exact ⟨rfl, _, Eq.trans (World.drewN_drewN _ _ _) (congrArg (World.drewN _) (Nat.add_assoc _ _ _))⟩)))
                    go_wp2
                    go_region
                    all_goals go_wp2
                    go_roundg k2
                    case measure => omega
                    case rel => exact ⟨y, Sort.swp dj j y, (by congr 1), ⟨by omega, by omega, HS.out⟩, ⟨by rw [HG.out, HG.out]; exact (HR.out.drewN _).swap j y lj ly⟩⟩
          · have HF := Aside0.mk (show Sort.fixDown Sort.ltInt a t d1 = d1 by
              unfold Sort.fixDown
              rw [if_neg (by omega)])
            go_wp2
            go_meet
            case rel => exact ⟨by rw [HF.out]; exact HR.out⟩
        case rest =>
          clear HR
          have HR := hcut
          clear hcut
          obtain ⟨w3, hw3⟩ : ∃ w3 : World, w3 = wc := ⟨_, rfl⟩
          rw [← hw3] at HR ⊢
          clear hw3
          obtain ⟨d2, hd2, hs2⟩ : ∃ d2, d2 = Sort.fixDown Sort.ltInt a t d1 ∧ d2.size = d.size := ⟨_, rfl, HR.out.size⟩
          rw [← hd2] at HR HE
          clear hd2 hs1
          by_cases cm : 2 ≤ m
          · have HF := Aside0.mk (show Sort.fixUp Sort.ltInt b t d2 = Sort.shiftUp Sort.ltInt b (t + 1) d2 by
              unfold Sort.fixUp
              rw [if_pos (by omega)])
            go_wp2
            go_loopg [10] (b + 1) (fun kj v w' => ∃ (j : Nat) (dj : Array Int), v = .int .i64 (j : Int) ∧ Aside0 (t < j ∧ j ≤ b ∧ b + 1 ≤ kj + j ∧ Sort.shiftUp Sort.ltInt b j dj = Sort.shiftUp Sort.ltInt b (t + 1) d2) ∧ Aside0 (Rw w g off d dj w'))
            case atStart => exact ⟨t + 1, d2, (by first | rfl | (congr 1)), ⟨by omega, by omega, by omega, rfl⟩, HR⟩
            case round =>
              clear HR
              obtain ⟨j, dj, rfl, HA, HR⟩ := hrel
              obtain ⟨hjp, hjb, hkj, hS⟩ := HA.out
              clear HA
              by_cases c0 : j < b
              · skip
                obtain ⟨G, hG⟩ : ∃ G : Nat → Int, ∀ t, G t = dj[t]! := ⟨fun t => dj[t]!, fun _ => rfl⟩
                have HG := Aside0.mk hG
                clear hG
                have hcw : ∀ t, t < d.size → wr.cell? ⟨g, off + t, none⟩ = some (.int .u16 (G t)) := fun t ht => by rw [HG.out]; exact HR.out.cell HH.out t ht
                have hfw : ∀ t, t < d.size → wr.frozen? ⟨g, off + t, none⟩ = false := fun t ht => HR.out.froz HH.out t ht
                have hsw : ∀ x y, x < d.size → y < d.size → (wr.setCell ⟨g, off + x, none⟩ (.int .u16 (G y))).cell? ⟨g, off + y, none⟩ = some (.int .u16 (G y)) := fun x y hx hy => by rw [HG.out]; exact HR.out.swcell HH.out x y hx hy
                obtain ⟨y, hy, ly, hyj⟩ : ∃ y : Nat, (j : Int) - 1 = (y : Int) ∧ y < d.size ∧ j = y + 1 := ⟨j - 1, by omega, by omega, by omega⟩
                have lj : j < d.size := by omega
                have hwy : IntKind.i64.wrap ((j : Int) - 1) = (y : Int) := by rw [IntWalk.i64_in _ (by omega)]; omega
                cases hc : Sort.ltInt (G j) (G y) with
                | false =>
                  have HS := Aside0.mk (show dj = Sort.shiftUp Sort.ltInt b (t + 1) d2 by rw [← hS, shiftUp_stop _ _ _ _ (.inr (by rw [← HG.out, ← HG.out, show j - 1 = y by omega]; exact hc))])
                  clear hS hyj
                  go_wp2
                  go_quiet (first | (go_at_call 110; (with_reducible refine (less_calls _ _ _).mono ?_); rintro e w' ⟨rfl, ⟨nd, rfl⟩⟩; (try first | exact ⟨rfl, _, World.drewN_drewN _ _ _⟩ | exact ⟨rfl, _, Eq.trans (World.drewN_drewN _ _ _) (congrArg (World.drewN _) (Nat.add_assoc _ _ _))⟩)))
                  go_wp2
                  go_roundg k1
                  case measure => omega
                  case rel => exact ⟨t, z + 1, _, rfl, (by congr 1), ⟨by omega, by omega, by omega, by omega, HR.out.size, (by rw [HS.out, ← HF.out]; exact HE.out)⟩, ⟨(HR.out.drewN _)⟩⟩
                | true =>
                  have HS := Aside0.mk (show Sort.shiftUp Sort.ltInt b (j + 1) (Sort.swp dj j y) = Sort.shiftUp Sort.ltInt b (t + 1) d2 by rw [← hS, shiftUp_go _ _ _ _ c0 (by rw [← HG.out, ← HG.out, show j - 1 = y by omega]; exact hc), show j - 1 = y by omega])
                  clear hS hyj
                  cases gk with
                  | zero => omega
                  | succ k2 =>
                    go_wp2
                    go_quiet (first | (go_at_call 110; (with_reducible refine (less_calls _ _ _).mono ?_); rintro e w' ⟨rfl, ⟨nd, rfl⟩⟩; (try first | exact ⟨rfl, _, World.drewN_drewN _ _ _⟩ | exact ⟨rfl, _, Eq.trans (World.drewN_drewN _ _ _) (congrArg (World.drewN _) (Nat.add_assoc _ _ _))⟩)))
                    go_wp2
                    go_region
                    all_goals go_wp2
                    go_roundg k2
                    case measure => omega
                    case rel => exact ⟨j + 1, Sort.swp dj j y, (by congr 1), ⟨by omega, by omega, by omega, HS.out⟩, ⟨by rw [HG.out, HG.out]; exact (HR.out.drewN _).swap j y lj ly⟩⟩
              · have HS := Aside0.mk (show dj = Sort.shiftUp Sort.ltInt b (t + 1) d2 by rw [← hS, shiftUp_stop _ _ _ _ (.inl c0)])
                clear hS
                go_wp2
                go_roundg k1
                case measure => omega
                case rel => exact ⟨t, z + 1, _, rfl, (by congr 1), ⟨by omega, by omega, by omega, by omega, HR.out.size, (by rw [HS.out, ← HF.out]; exact HE.out)⟩, ⟨HR.out⟩⟩
          · have HF := Aside0.mk (show Sort.fixUp Sort.ltInt b t d2 = d2 by
              unfold Sort.fixUp
              rw [if_neg (by omega)])
            go_wp2
            go_roundg k1
            case measure => omega
            case rel => exact ⟨t, z + 1, _, rfl, (by congr 1), ⟨by omega, by omega, by omega, by omega, HR.out.size, (by rw [← HF.out]; exact HE.out)⟩, ⟨HR.out⟩⟩
end Go.Proofs.Ytnoelppkcbelcaa.Srt
