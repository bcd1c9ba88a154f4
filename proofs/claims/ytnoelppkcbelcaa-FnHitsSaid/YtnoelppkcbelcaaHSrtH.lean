/-
slices.Sort at []uint16: breakPatternsOrdered.
-/
import Derived.Test.YtnoelppkcbelcaaHSrtF
import Derived.IntWalk
import Derived.Sort.Walk13a
import Derived.Laws.Bits64
import Derived.Deep.RegionHeld
import Derived.Test.YtnoelppkcbelcaaSrtLay
import Derived.Deep.Cut
import Derived.Deep.CutBlock

set_option linter.unusedVariables false
set_option linter.unusedSimpArgs false
namespace Go.Proofs.Ytnoelppkcbelcaa.Srt
open Go.RowKit Go.Proofs.YtnoelppkcbelcaaW.PrintWords Go.Proofs.YtnoelppkcbelcaaW.PrintLast Go.Proofs.YtnoelppkcbelcaaW.PrintMore Go.Proofs.Ytnoelppkcbelcaa.MH
abbrev At (w : World) (g off : Nat) (d : Array Int) (W : World) : Prop := Sort.At E w g off d W
section
variable {w W W2 : World} {g h off : Nat} {d d0 dk : Array Int}
theorem Rw.at_ (H : Rw w g off d0 d W) : At w g off d W := by
  obtain ⟨_, m, rfl⟩ := H
  exact ⟨m, #[], (Sort.grow_empty _).symm⟩
theorem at_new (H : At w g off d W) (hh : w.heap.size ≤ h) (v : Value) : At w g off d (W.setCell ⟨h, 0, none⟩ v) := by
  obtain ⟨n, os, rfl⟩ := H
  rw [Sort.setCell_eq, Sort.mapBlock_grow_new _ _ _ _ (by rw [Sort.size_putRow]; exact hh)]
  exact ⟨n, _, rfl⟩
theorem at_alloc (H : At w g off d W) (o : Obj) : At w g off d (W.alloc o) := by
  obtain ⟨n, os, rfl⟩ := H
  rw [Sort.alloc_eq_grow, Sort.grow_grow]
  exact ⟨n, _, rfl⟩
theorem at_swap (h0 : Sort.Holds E w g off d0) (hg : g < w.heap.size) (hs : dk.size = d0.size) (H : At w g off dk W) (i j : Nat) (hi : i < d0.size) (hj : j < d0.size) :
    At w g off (Sort.swp dk i j) ((W.setCell ⟨g, off + i, none⟩ (.int .u16 dk[j]!)).setCell ⟨g, off + j, none⟩ (.int .u16 dk[i]!)) := by
  have hH := (H.holds h0 hs hg).1
  refine H.step hg (Sort.size_swp _ _ _) ⟨0, ?_⟩
  rw [Sort.ahead_zero, ← Sort.putRow_swp E W g off dk i j (by omega) (by omega), Sort.putRow_self E W g off dk hH]
end
theorem set_cell {w : World} {h : Nat} {u : Value} (hc : w.cell? ⟨h, 0, none⟩ = some u) (hf : w.frozen? ⟨h, 0, none⟩ = false) (v : Value) (k : Nat) : ((w.setCell ⟨h, 0, none⟩ v).drewN k).cell? ⟨h, 0, none⟩ = some v ∧ ((w.setCell ⟨h, 0, none⟩ v).drewN k).frozen? ⟨h, 0, none⟩ = false := by
  obtain ⟨c, e, fr, hb, hcc⟩ := Sort.cells_of_cell? hc
  have e1 : ((w.setCell ⟨h, 0, none⟩ v).drewN k).cell? ⟨h, 0, none⟩ = (w.setCell ⟨h, 0, none⟩ v).cell? ⟨h, 0, none⟩ := rfl
  have e2 : ((w.setCell ⟨h, 0, none⟩ v).drewN k).frozen? ⟨h, 0, none⟩ = (w.setCell ⟨h, 0, none⟩ v).frozen? ⟨h, 0, none⟩ := rfl
  rw [e1, e2, Sort.setCell_eq]
  refine ⟨?_, by rw [Sort.frozen?_mapBlock]; exact hf⟩
  rw [Sort.cell?_mapBlock w h 0 _ hb]
  have hs : 0 < c.size := by
    rcases Nat.lt_or_ge 0 c.size with h1 | h1
    · exact h1
    · rw [Array.getElem?_eq_none (by omega)] at hcc
      cases hcc
  simp [hs]
theorem far_cell {w : World} {h g p q : Nat} {u v z : Value} (hc : w.cell? ⟨h, 0, none⟩ = some u ∧ w.frozen? ⟨h, 0, none⟩ = false) (h1 : g ≠ h) (h2 : h ≠ g) : (((w.setCell ⟨g, p, none⟩ v).setCell ⟨g, q, none⟩ z).drew).cell? ⟨h, 0, none⟩ = some u ∧ (((w.setCell ⟨g, p, none⟩ v).setCell ⟨g, q, none⟩ z).drew).frozen? ⟨h, 0, none⟩ = false := by
  have e1 : (((w.setCell ⟨g, p, none⟩ v).setCell ⟨g, q, none⟩ z).drew).cell? ⟨h, 0, none⟩ = ((w.setCell ⟨g, p, none⟩ v).setCell ⟨g, q, none⟩ z).cell? ⟨h, 0, none⟩ := rfl
  have e2 : (((w.setCell ⟨g, p, none⟩ v).setCell ⟨g, q, none⟩ z).drew).frozen? ⟨h, 0, none⟩ = ((w.setCell ⟨g, p, none⟩ v).setCell ⟨g, q, none⟩ z).frozen? ⟨h, 0, none⟩ := rfl
  rw [e1, e2, World.cell?_setCell_far _ _ _ _ h1, World.cell?_setCell_far _ _ _ _ h1, Sort.setCell_eq, Sort.setCell_eq, Sort.frozen?_mapBlock, Sort.frozen?_mapBlock]
  exact hc
theorem bits_and_u64_nat (a b : Nat) (ha : a < 18446744073709551616) (hb : b < 18446744073709551616) : bits .and .u64 (a : Int) (b : Int) = ((a &&& b : Nat) : Int) := by
  have hx : a &&& b < 2 ^ 64 := Nat.lt_of_le_of_lt Nat.and_le_left (by omega)
  have h1 : (BitVec.ofInt 64 (a : Int)).toNat = a := by
    rw [BitVec.ofInt_natCast, BitVec.toNat_ofNat]; exact Nat.mod_eq_of_lt (by omega)
  have h2 : (BitVec.ofInt 64 (b : Int)).toNat = b := by
    rw [BitVec.ofInt_natCast, BitVec.toNat_ofNat]; exact Nat.mod_eq_of_lt (by omega)
  show IntKind.u64.wrap ((BitVec.ofInt 64 (a : Int) &&& BitVec.ofInt 64 (b : Int)).toNat : Int) = _
  rw [BitVec.toNat_and, h1, h2, IntKind.wrap_u64]
  omega
theorem new_cell (w : World) (v : Value) (T : TypeId) : (w.alloc (.cells #[v] T)).cell? ⟨w.heap.size, 0, none⟩ = some v ∧ (w.alloc (.cells #[v] T)).frozen? ⟨w.heap.size, 0, none⟩ = false := by
  have e : (w.alloc (Obj.cells #[v] T)).heap[w.heap.size]? = some (Obj.cells #[v] T) := by
    rw [Sort.alloc_eq_grow]
    show (w.heap ++ #[Obj.cells #[v] T])[w.heap.size]? = _
    simp
  constructor
  · simp only [World.cell?, e]
    rfl
  · simp only [World.frozen?, e]
    rfl
set_option maxRecDepth 8000
set_option maxHeartbeats 16000000 in
theorem break_calls (n : Nat) (g off cap a b : Nat) (d : Array Int) (w : World) (hn : d.size = n) (hH : Sort.Holds E w g off d) (hg : g < w.heap.size) (hab : a + 12 < b) (hb : b ≤ n) (hsz : n < 4611686018427387904) :
    Calls Try.prog 106 #[.slice (some ⟨g, off, none⟩) n cap, .int .i64 a, .int .i64 b] w fun e w' => e = .returned (.tuple #[]) ∧ Aside0 (∃ d', Sort.PermIn a b d d' ∧ At w g off d' w') := by
  subst hn
  have HA0 := Aside0.mk (Sort.At.refl hH)
  obtain ⟨l, hl⟩ : ∃ l : Nat, (b : Int) - (a : Int) = (l : Int) := ⟨b - a, by omega⟩
  obtain ⟨q, hq⟩ : ∃ q : Nat, (l : Int) / 4 = (q : Int) := ⟨l / 4, by omega⟩
  obtain ⟨M, hM, hM1, hM2⟩ : ∃ M : Nat, M = 1 <<< Sort.bitsLen l ∧ 1 ≤ M ∧ M ≤ 2 * l := ⟨_, rfl, by rw [Nat.one_shiftLeft]; exact Nat.one_le_two_pow, by rw [Nat.one_shiftLeft]; exact Sort.two_pow_bitsLen_le (by omega)⟩
  obtain ⟨s, hs⟩ : ∃ s : Nat, (a : Int) + (q : Int) * 2 = (s : Int) := ⟨a + q * 2, by omega⟩
  have h8 : 8 ≤ l := by omega
  have hsa : a + 2 ≤ s ∧ s + 3 < b := by omega
  have hwl : IntKind.u64.wrap (l : Int) = (l : Int) := by rw [IntKind.wrap_u64]; omega
  obtain ⟨s0, hs0⟩ : ∃ s0 : Nat, (s : Int) - 1 = (s0 : Int) := ⟨s - 1, by omega⟩
  obtain ⟨s1, hs1⟩ : ∃ s1 : Nat, (s : Int) + 1 = (s1 : Int) := ⟨s + 1, by omega⟩
  obtain ⟨m1, hm1⟩ : ∃ m1 : Nat, (M : Int) - 1 = (m1 : Int) := ⟨M - 1, by omega⟩
  have hpw : ∀ w, Calls Try.prog 130 #[.int .i64 (l : Int)] w fun e w' => e = .returned (.int .u64 (M : Int)) ∧ w' = w := fun w => by
    have := AnyF.nextPowerOfTwo Try.laysPow l (by omega) w
    rwa [← hM] at this
  clear hM
  have hnc := new_cell w (.int .u64 (l : Int)) 161
  have hat := at_alloc HA0.out (Obj.cells #[.int .u64 (l : Int)] 161)
  have hgh : g ≠ w.heap.size := by omega
  obtain ⟨h, hh⟩ : ∃ h, h = w.heap.size := ⟨_, rfl⟩
  obtain ⟨W, hW⟩ : ∃ W, W = w.alloc (Obj.cells #[.int .u64 (l : Int)] 161) := ⟨_, rfl⟩
  rw [← hW, ← hh] at hnc
  rw [← hW] at hat
  rw [← hh] at hgh
  have HA := Aside0.mk (And.intro hat hnc)
  have HZ := Aside0.mk (And.intro hh hW)
  clear hat hnc hh hW
  have HH := Aside0.mk hH
  clear hH
  go_enter Try.func106, Try.ntmps106
  go_upto_region 3 with (fail)
  rw [← HZ.out.2, ← HZ.out.1]
  go_wp2_with (go_at_call 130; refine (hpw _).mono ?_; rintro e w1 ⟨rfl, rfl⟩)
  go_loopg [9] 4 (fun kq v9 w' => ∃ (x X : Nat) (dk : Array Int), v9 = .int .i64 (x : Int) ∧ Aside0 (s0 ≤ x ∧ x ≤ s1 + 1 ∧ s1 + 2 ≤ kq + x ∧ X < 18446744073709551616 ∧ dk.size = d.size ∧ Sort.PermIn a b d dk) ∧ Aside0 (At w g off dk w' ∧ w'.cell? ⟨h, 0, none⟩ = some (.int .u64 (X : Int)) ∧ w'.frozen? ⟨h, 0, none⟩ = false))
  case atStart => exact ⟨s0, l, d, (by first | rfl | (congr 1; omega)), ⟨by omega, by omega, by omega, by omega, rfl, Sort.permIn_refl _ _ _⟩, HA⟩
  case round =>
    clear HA HA0
    obtain ⟨x, X, dk, rfl, HB, HA⟩ := hrel
    obtain ⟨hx0, hx1, hkq, hX, hds, hP⟩ := HB.out
    clear HB
    by_cases c : x ≤ s1
    · cases gk with
      | zero => omega
      | succ k1 =>
        have hnx : Calls Try.prog 131 #[.pointer (some ⟨h, 0, none⟩)] wr fun e w' => e = .returned (.int .u64 ((Sort.xorNextN X : Nat) : Int)) ∧ w' = (wr.setCell ⟨h, 0, none⟩ (.int .u64 ((Sort.xorNextN X : Nat) : Int))).drewN 3 := AnyF.xorshift_Next Try.laysNext h 0 X hX wr HA.out.2.1 HA.out.2.2
        obtain ⟨Y, hY, lY⟩ : ∃ Y, Y = Sort.xorNextN X ∧ Y < 18446744073709551616 := ⟨_, rfl, Sort.xorNextN_lt X hX⟩
        rw [← hY] at hnx
        clear hY
        obtain ⟨o, ho, lo⟩ : ∃ o : Nat, bits .and .u64 (Y : Int) (m1 : Int) = (o : Int) ∧ o < 2 * l := ⟨Y &&& m1, bits_and_u64_nat Y m1 lY (by omega), Nat.lt_of_le_of_lt Nat.and_le_right (by omega)⟩
        have hwm : IntKind.u64.wrap (m1 : Int) = (m1 : Int) := by rw [IntKind.wrap_u64]; omega
        have hPX := Aside0.mk hP
        clear hP
        go_upto_region 8 with (go_at_call 131; refine hnx.mono ?_; rintro e w1 ⟨rfl, rfl⟩)
        have hA2 : At w g off dk ((wr.setCell ⟨h, 0, none⟩ (.int .u64 (Y : Int))).drewN 3) := (at_new HA.out.1 (by have := HZ.out.1; omega) _).ahead 3
        have hc2 : (((wr.setCell ⟨h, 0, none⟩ (.int .u64 (Y : Int))).drewN 3).cell? ⟨h, 0, none⟩ = some (.int .u64 (Y : Int))) ∧ ((wr.setCell ⟨h, 0, none⟩ (.int .u64 (Y : Int))).drewN 3).frozen? ⟨h, 0, none⟩ = false := set_cell HA.out.2.1 HA.out.2.2 _ 3
        clear HA hnx
        generalize (wr.setCell ⟨h, 0, none⟩ (.int .u64 (Y : Int))).drewN 3 = W2 at hA2 hc2 ⊢
        have hW2 := (hA2.holds HH.out hds hg).1
        have HA := Aside0.mk (And.intro hA2 hc2)
        clear hA2 hc2
        obtain ⟨G, hG⟩ : ∃ G : Nat → Int, ∀ t, G t = dk[t]! := ⟨fun t => dk[t]!, fun _ => rfl⟩
        have hcw : ∀ t, t < d.size → W2.cell? ⟨g, off + t, none⟩ = some (.int .u16 (G t)) := fun t ht => by rw [hG]; exact (hW2 t (by omega)).1
        have hfw : ∀ t, t < d.size → W2.frozen? ⟨g, off + t, none⟩ = false := fun t ht => (hW2 t (by omega)).2
        have hsw : ∀ x y, x < d.size → y < d.size → (W2.setCell ⟨g, off + x, none⟩ (.int .u16 (G y))).cell? ⟨g, off + y, none⟩ = some (.int .u16 (G y)) := fun x y hx hy => by rw [hG]; exact (Rw.start hW2).swcell hW2 x y (by omega) (by omega)
        have HG := Aside0.mk hG
        have lx : x < d.size := by omega
        clear hG hW2
        by_cases co : l ≤ o
        · obtain ⟨p, hp⟩ : ∃ p : Nat, (o : Int) - (l : Int) = (p : Int) := ⟨o - l, by omega⟩
          obtain ⟨y, hy⟩ : ∃ y : Nat, (a : Int) + (p : Int) = (y : Int) := ⟨a + p, by omega⟩
          have lpy : y < b ∧ a ≤ y := by omega
          have ly : y < d.size := by omega
          have hwy : IntKind.i64.wrap ((a : Int) + (p : Int)) = (y : Int) := by rw [IntWalk.i64_in _ (by omega)]; omega
          go_wp2
          go_region
          all_goals go_wp2
          go_roundg k1
          case measure => omega
          case rel => exact ⟨x + 1, Y, Sort.swp dk x y, (by congr 1), ⟨by omega, by omega, by omega, lY, by rw [Sort.size_swp]; exact hds, Sort.permIn_trans _ _ _ _ _ hPX.out (Sort.swp_permIn _ _ _ _ _ (by omega) (by omega) (by omega) (by omega) (by omega))⟩, ⟨by rw [HG.out, HG.out]; exact (at_swap HH.out hg hds HA.out.1 x y lx ly).ahead 1, far_cell HA.out.2 hgh (Ne.symm hgh)⟩⟩
        · obtain ⟨y, hy⟩ : ∃ y : Nat, (a : Int) + (o : Int) = (y : Int) := ⟨a + o, by omega⟩
          have lpy : y < b ∧ a ≤ y := by omega
          have ly : y < d.size := by omega
          have hwy : IntKind.i64.wrap ((a : Int) + (o : Int)) = (y : Int) := by rw [IntWalk.i64_in _ (by omega)]; omega
          go_wp2
          go_region
          all_goals go_wp2
          go_roundg k1
          case measure => omega
          case rel => exact ⟨x + 1, Y, Sort.swp dk x y, (by congr 1), ⟨by omega, by omega, by omega, lY, by rw [Sort.size_swp]; exact hds, Sort.permIn_trans _ _ _ _ _ hPX.out (Sort.swp_permIn _ _ _ _ _ (by omega) (by omega) (by omega) (by omega) (by omega))⟩, ⟨by rw [HG.out, HG.out]; exact (at_swap HH.out hg hds HA.out.1 x y lx ly).ahead 1, far_cell HA.out.2 hgh (Ne.symm hgh)⟩⟩
    · go_wp2
      go_end0
      exact ⟨rfl, ⟨dk, hP, HA.out.1⟩⟩
end Go.Proofs.Ytnoelppkcbelcaa.Srt
