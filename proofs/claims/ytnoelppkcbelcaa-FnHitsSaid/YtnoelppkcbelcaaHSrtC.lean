/-
slices.Sort at []uint16: heapSortOrdered.
-/
import Derived.Test.YtnoelppkcbelcaaHSrtB
import Derived.IntWalk

set_option linter.unusedVariables false
set_option linter.unusedSimpArgs false
namespace Go.Proofs.Ytnoelppkcbelcaa.Srt
open Go.RowKit Go.Proofs.YtnoelppkcbelcaaW.PrintWords Go.Proofs.YtnoelppkcbelcaaW.PrintLast Go.Proofs.YtnoelppkcbelcaaW.PrintMore Go.Proofs.Ytnoelppkcbelcaa.MH
theorem sift_call (n : Nat) (g off cap lo hi first : Nat) (d : Array Int) (w : World) (hn : d.size = n) (hH : Sort.Holds E w g off d) (hlo : lo ≤ hi) (hb : first + hi ≤ n) (hsz : n < 4611686018427387904) :
    Calls Try.prog 129 #[.slice (some ⟨g, off, none⟩) n cap, .int .i64 lo, .int .i64 hi, .int .i64 first] w fun e w' => e = .returned (.tuple #[]) ∧ Rw w g off d (Sort.siftDown Sort.ltInt hi first lo d) w' := by
  subst hn
  exact sift_calls g off cap lo hi first d w hH hlo hb hsz
theorem heapBuild_succ (lt : Int → Int → Bool) (hi first k : Nat) (d : Array Int) : Sort.heapBuild lt hi first (k + 1) d = Sort.heapBuild lt hi first k (Sort.siftDown lt hi first k d) := rfl
theorem heapPop_succ (lt : Int → Int → Bool) (first k : Nat) (d : Array Int) : Sort.heapPop lt first (k + 1) d = Sort.heapPop lt first k (Sort.siftDown lt k first 0 (Sort.swp d first (first + k))) := rfl
set_option maxHeartbeats 8000000 in
theorem heap_calls (g off cap a b : Nat) (d : Array Int) (w : World) (hH : Sort.Holds E w g off d) (hab : a < b) (hb : b ≤ d.size) (hsz : d.size < 4611686018427387904) :
    Calls Try.prog 105 #[.slice (some ⟨g, off, none⟩) d.size cap, .int .i64 a, .int .i64 b] w fun e w' => e = .returned (.tuple #[]) ∧ Rw w g off d (Sort.heapSort Sort.ltInt d a b) w' := by
  have HH := Aside0.mk hH
  have HR := Aside0.mk (Rw.start hH)
  clear hH
  obtain ⟨h, hh⟩ : ∃ h, h = b - a := ⟨_, rfl⟩
  have hz : (b : Int) - (a : Int) = (h : Int) := by omega
  have HS : Aside0 (Sort.heapPop Sort.ltInt a h (Sort.heapBuild Sort.ltInt h a ((h - 1) / 2 + 1) d) = Sort.heapSort Sort.ltInt d a b) := ⟨by rw [hh]; rfl⟩
  have hpos : 0 < h := by omega
  clear hh
  go_enter Try.func105, Try.ntmps105
  go_wp2
  go_loopg [9] (h + 1) (fun kq v9 w' => ∃ (k : Nat) (z : Int) (dk : Array Int), v9 = .int .i64 z ∧ Aside0 (z = (k : Int) - 1 ∧ k ≤ h ∧ k ≤ kq ∧ Sort.heapPop Sort.ltInt a h (Sort.heapBuild Sort.ltInt h a k dk) = Sort.heapSort Sort.ltInt d a b) ∧ Aside0 (Rw w g off d dk w'))
  case atStart => exact ⟨(h - 1) / 2 + 1, _, d, rfl, ⟨by omega, by omega, by omega, HS.out⟩, HR⟩
  case round =>
    clear HR HS
    obtain ⟨k, z, dk, rfl, HA, HR⟩ := hrel
    obtain ⟨hzk, hkh, hkq, hO⟩ := HA.out
    clear HA
    cases k with
    | zero =>
      have e : z = -1 := by omega
      subst e
      clear hzk
      have HS := Aside0.mk hO
      clear hO hkq
      obtain ⟨wo, hwo⟩ : ∃ wo : World, wo = wr := ⟨_, rfl⟩
      rw [← hwo] at HR ⊢
      clear hwo
      go_wp2
      go_loopg [10] (h + 1) (fun kq v10 w' => ∃ (k : Nat) (z : Int) (dj : Array Int), v10 = .int .i64 z ∧ Aside0 (z = (k : Int) - 1 ∧ k ≤ h ∧ k ≤ kq ∧ Sort.heapPop Sort.ltInt a k dj = Sort.heapSort Sort.ltInt d a b) ∧ Aside0 (Rw w g off d dj w'))
      case atStart => exact ⟨h, _, dk, rfl, ⟨by omega, by omega, by omega, HS.out⟩, HR⟩
      case round =>
        clear HR HS
        obtain ⟨k, z, dj, rfl, HA, HR⟩ := hrel
        obtain ⟨hzk, hkh, hkq, hO⟩ := HA.out
        clear HA
        cases k with
        | zero =>
          have e : z = -1 := by omega
          subst e
          clear hzk
          have HO := Aside0.mk hO
          clear hO
          go_wp2
          go_end0
          exact ⟨rfl, by rw [← HO.out]; exact HR.out⟩
        | succ q =>
          have e : z = (q : Int) := by omega
          subst e
          clear hzk
          cases gk with
          | zero => omega
          | succ k1 =>
            rw [heapPop_succ] at hO
            have HO := Aside0.mk hO
            clear hO
            obtain ⟨G, hG⟩ : ∃ G : Nat → Int, ∀ t, G t = dj[t]! := ⟨fun t => dj[t]!, fun _ => rfl⟩
            have hcw : ∀ t, t < d.size → wr.cell? ⟨g, off + t, none⟩ = some (.int .u16 (G t)) := fun t ht => by rw [hG]; exact HR.out.cell HH.out t ht
            have hfw : ∀ t, t < d.size → wr.frozen? ⟨g, off + t, none⟩ = false := fun t ht => HR.out.froz HH.out t ht
            have hsw : ∀ x y, x < d.size → y < d.size → (wr.setCell ⟨g, off + x, none⟩ (.int .u16 (G y))).cell? ⟨g, off + y, none⟩ = some (.int .u16 (G y)) := fun x y hx hy => by rw [hG]; exact HR.out.swcell HH.out x y hx hy
            have HG := Aside0.mk hG
            clear hG
            obtain ⟨x, hx, lx⟩ : ∃ x : Nat, x = a + q ∧ x < d.size := ⟨_, rfl, by omega⟩
            have s0 : IntKind.i64.wrap ((a : Int) + (q : Int)) = (x : Int) := by rw [IntWalk.i64_in _ (by omega)]; omega
            have la : a < d.size := by omega
            have HX := Aside0.mk hx
            clear hx
            have hSW : Rw w g off d (Sort.swp dj a x) (((wr.setCell ⟨g, off + a, none⟩ (.int .u16 (G x))).setCell ⟨g, off + x, none⟩ (.int .u16 (G a))).drew) := by
              rw [HG.out, HG.out]
              exact (HR.out.swap a x la lx).drew
            have hc := sift_call d.size g off cap 0 q a (Sort.swp dj a x) _ hSW.size (hSW.holds HH.out) (Nat.zero_le _) (by omega) hsz
            have HSW := Aside0.mk hSW
            clear hSW
            go_wp2
            go_region
            go_wp2_with (go_at_call 129; refine hc.mono ?_; rintro e w1 ⟨rfl, hw1⟩)
            go_roundg k1
            case measure => omega
            case rel => exact ⟨q, _, Sort.siftDown Sort.ltInt q a 0 (Sort.swp dj a x), rfl, ⟨by omega, by omega, by omega, by rw [HX.out]; exact HO.out⟩, ⟨HSW.out.then_ hw1⟩⟩
    | succ q =>
      have e : z = (q : Int) := by omega
      subst e
      clear hzk
      cases gk with
      | zero => omega
      | succ k1 =>
        rw [heapBuild_succ] at hO
        have HO := Aside0.mk hO
        clear hO
        have hc := sift_call d.size g off cap q h a dk wr HR.out.size (HR.out.holds HH.out) (by omega) (by omega) hsz
        go_wp2_with (go_at_call 129; refine hc.mono ?_; rintro e w1 ⟨rfl, hw1⟩)
        go_roundg k1
        case measure => omega
        case rel => exact ⟨q, _, Sort.siftDown Sort.ltInt h a q dk, rfl, ⟨by omega, by omega, by omega, HO.out⟩, ⟨HR.out.then_ hw1⟩⟩
end Go.Proofs.Ytnoelppkcbelcaa.Srt
