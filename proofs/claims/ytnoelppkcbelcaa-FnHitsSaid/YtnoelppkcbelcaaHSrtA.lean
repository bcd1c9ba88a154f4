/-
slices.Sort at []uint16: cmp.Less, insertionSortOrdered.
-/
import Derived.Test.YtnoelppkcbelcaaSrt
import Derived.Test.YtnoelppkcbelcaaMHx1
set_option linter.unusedVariables false
set_option linter.unusedSimpArgs false
namespace Go.Proofs.Ytnoelppkcbelcaa.Srt
open Go.RowKit Go.Proofs.YtnoelppkcbelcaaW.PrintWords Go.Proofs.YtnoelppkcbelcaaW.PrintLast Go.Proofs.YtnoelppkcbelcaaW.PrintMore Go.Proofs.Ytnoelppkcbelcaa.MH
theorem less_calls (x y : Int) (w : World) : Calls Try.prog 110 #[.int .u16 x, .int .u16 y] w fun e w' => e = .returned (.bool (Sort.ltInt x y)) ∧ Drawn0 w w' :=
  (cmp_Less_uint16.calls x y (Sort.ltInt x y) w (by unfold cmp_Less_uint16.f cmp_isNaN_uint16.f Sort.ltInt; simp)).mono fun e w' h => h
section
variable {lt : Int → Int → Bool}
theorem inner_go {a j : Nat} {d : Array Int} (hj : a < j) (hl : lt d[j]! d[j - 1]! = true) : Sort.insInner lt a j d = Sort.insInner lt a (j - 1) (Sort.swp d j (j - 1)) := by
  obtain ⟨p, rfl⟩ : ∃ p, j = p + 1 := ⟨j - 1, by omega⟩
  rw [Nat.add_sub_cancel] at hl ⊢
  rw [Sort.insInner]
  have h : (decide (p + 1 > a) && lt d[p + 1]! d[p]!) = true := by rw [hl, decide_eq_true (by omega)]; rfl
  rw [if_pos h]
theorem inner_less {a j : Nat} {d : Array Int} (hl : lt d[j]! d[j - 1]! = false) : Sort.insInner lt a j d = d := by
  cases j with
  | zero => rw [Sort.insInner]
  | succ p =>
    rw [Nat.add_sub_cancel] at hl
    rw [Sort.insInner, hl, Bool.and_false]
    rfl
theorem inner_end {a j : Nat} {d : Array Int} (hj : j ≤ a) : Sort.insInner lt a j d = d := by
  cases j with
  | zero => rw [Sort.insInner]
  | succ j =>
    rw [Sort.insInner]
    rw [decide_eq_false (by omega)]
    rfl
theorem outer_go {a b i : Nat} {d : Array Int} (h : i < b) : Sort.insOuter lt a b i d = Sort.insOuter lt a b (i + 1) (Sort.insInner lt a i d) := by rw [Sort.insOuter, if_pos h]
theorem outer_end {a b i : Nat} {d : Array Int} (h : ¬ i < b) : Sort.insOuter lt a b i d = d := by rw [Sort.insOuter, if_neg h]
end
set_option maxHeartbeats 4000000 in
theorem insertion_calls (g off cap a b : Nat) (d : Array Int) (w : World) (hH : Sort.Holds E w g off d) (hab : a ≤ b) (hb : b ≤ d.size) (hsz : d.size < 4611686018427387904) :
    Calls Try.prog 104 #[.slice (some ⟨g, off, none⟩) d.size cap, .int .i64 a, .int .i64 b] w fun e w' => e = .returned (.tuple #[]) ∧ Rw w g off d (Sort.insertionSort Sort.ltInt d a b) w' := by
  have HH := Aside0.mk hH
  have HR := Aside0.mk (Rw.start hH)
  clear hH
  have hw0 : wrap64 ((a : Int) + 1) = ((a + 1 : Nat) : Int) := by unfold wrap64; omega
  go_enter Try.func104, Try.ntmps104
  go_wp2
  go_loopg [6] (b + 2) (fun kq v6 w' => ∃ (i : Nat) (dk : Array Int), v6 = .int .i64 (i : Int) ∧ Aside0 (a < i ∧ i ≤ b + 1 ∧ b + 2 ≤ kq + i ∧ Sort.insOuter Sort.ltInt a b i dk = Sort.insertionSort Sort.ltInt d a b) ∧ Aside0 (Rw w g off d dk w'))
  case atStart => exact ⟨a + 1, d, (by first | rfl | (simp only [hw0]; done) | (simp [hw0]; done)), ⟨by omega, by omega, by omega, rfl⟩, HR⟩
  case round =>
    clear HR
    obtain ⟨i, dk, rfl, HA, HR⟩ := hrel
    obtain ⟨hai, hib, hkq, hO⟩ := HA.out
    clear HA
    by_cases c : i < b
    · have c0 : decide ((i : Int) < (b : Int)) = true := decide_eq_true (by omega)
      rw [outer_go c] at hO
      have HO := Aside0.mk hO
      clear hO
      cases gk with
      | zero => omega
      | succ k1 =>
        have hw1 : wrap64 ((i : Int) + 1) = ((i + 1 : Nat) : Int) := by unfold wrap64; omega
        obtain ⟨wo, hwo⟩ : ∃ wo : World, wo = wr := ⟨_, rfl⟩
        rw [← hwo] at HR ⊢
        clear hwo
        go_wp2
        go_loopg [7] (i + 1) (fun kj v7 w' => ∃ (j : Nat) (dj : Array Int), v7 = .int .i64 (j : Int) ∧ Aside0 (j ≤ i ∧ i + 1 ≤ kj + (i - j) ∧ Sort.insInner Sort.ltInt a j dj = Sort.insInner Sort.ltInt a i dk) ∧ Aside0 (Rw w g off d dj w'))
        case atStart => exact ⟨i, dk, rfl, ⟨by omega, by omega, rfl⟩, HR⟩
        case round =>
          clear HR
          obtain ⟨j, dj, rfl, HA, HR⟩ := hrel
          obtain ⟨hji, hkj, hI⟩ := HA.out
          clear HA
          obtain ⟨G, hG⟩ : ∃ G : Nat → Int, ∀ t, G t = dj[t]! := ⟨fun t => dj[t]!, fun _ => rfl⟩
          have hcw : ∀ t, t < d.size → wr.cell? ⟨g, off + t, none⟩ = some (.int .u16 (G t)) := fun t ht => by rw [hG]; exact HR.out.cell HH.out t ht
          have hfw : ∀ t, t < d.size → wr.frozen? ⟨g, off + t, none⟩ = false := fun t ht => HR.out.froz HH.out t ht
          have hsw : ∀ x y, x < d.size → y < d.size → (wr.setCell ⟨g, off + x, none⟩ (.int .u16 (G y))).cell? ⟨g, off + y, none⟩ = some (.int .u16 (G y)) := fun x y hx hy => by rw [hG]; exact HR.out.swcell HH.out x y hx hy
          have HG := Aside0.mk hG
          clear hG
          by_cases cj : a < j
          · cases gk with
            | zero => omega
            | succ k2 =>
              cases hl : Sort.ltInt (G j) (G (j - 1)) with
              | true =>
                have HI : Aside0 (Sort.insInner Sort.ltInt a (j - 1) (Sort.swp dj j (j - 1)) = Sort.insInner Sort.ltInt a i dk) := ⟨by rw [← hI, inner_go cj (by rw [← HG.out, ← HG.out]; exact hl)]⟩
                clear hI
                go_wp2
                go_quiet (first | (go_at_call 110; (with_reducible refine (less_calls _ _ _).mono ?_); rintro e w' ⟨rfl, ⟨nd, rfl⟩⟩; (try first | exact ⟨rfl, _, World.drewN_drewN _ _ _⟩ | exact ⟨rfl, _, Eq.trans (World.drewN_drewN _ _ _) (congrArg (World.drewN _) (Nat.add_assoc _ _ _))⟩)))
                go_wp2
                go_region
                all_goals go_wp2
                go_roundg k2
                case measure => omega
                case rel => exact ⟨j - 1, Sort.swp dj j (j - 1), by congr 1; omega, ⟨by omega, by omega, HI.out⟩, ⟨by rw [HG.out, HG.out]; first | exact (HR.out.drewN _).swap j (j - 1) (by omega) (by omega)⟩⟩
              | false =>
                have HI : Aside0 (dj = Sort.insInner Sort.ltInt a i dk) := ⟨by rw [← hI, inner_less (by rw [← HG.out, ← HG.out]; exact hl)]⟩
                clear hI
                go_wp2
                go_quiet (first | (go_at_call 110; (with_reducible refine (less_calls _ _ _).mono ?_); rintro e w' ⟨rfl, ⟨nd, rfl⟩⟩; (try first | exact ⟨rfl, _, World.drewN_drewN _ _ _⟩ | exact ⟨rfl, _, Eq.trans (World.drewN_drewN _ _ _) (congrArg (World.drewN _) (Nat.add_assoc _ _ _))⟩)))
                go_wp2
                go_roundg k1
                case measure => omega
                case rel => exact ⟨i + 1, dj, by first | (congr 1; omega) | rfl, ⟨by omega, by omega, by omega, by rw [HI.out]; exact HO.out⟩, ⟨HR.out.drewN _⟩⟩
          · have HI : Aside0 (dj = Sort.insInner Sort.ltInt a i dk) := ⟨by rw [← hI, inner_end (by omega)]⟩
            clear hI
            go_wp2
            go_quiet (first | (go_at_call 110; (with_reducible refine (less_calls _ _ _).mono ?_); rintro e w' ⟨rfl, ⟨nd, rfl⟩⟩; (try first | exact ⟨rfl, _, World.drewN_drewN _ _ _⟩ | exact ⟨rfl, _, Eq.trans (World.drewN_drewN _ _ _) (congrArg (World.drewN _) (Nat.add_assoc _ _ _))⟩)))
            go_wp2
            go_roundg k1
            case measure => omega
            case rel => exact ⟨i + 1, dj, by first | (congr 1; omega) | rfl, ⟨by omega, by omega, by omega, by rw [HI.out]; exact HO.out⟩, ⟨HR.out.drewN _⟩⟩
    · have c0 : decide ((i : Int) < (b : Int)) = false := decide_eq_false (by omega)
      rw [outer_end c] at hO
      have HO := Aside0.mk hO
      clear hO
      go_wp2
      go_end0
      exact ⟨rfl, by rw [← HO.out]; exact HR.out⟩
end Go.Proofs.Ytnoelppkcbelcaa.Srt
