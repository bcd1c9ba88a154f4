/-
slices.Sort at []uint16: pdqsortOrdered.
-/
import Derived.Test.YtnoelppkcbelcaaHSrtH
import Derived.IntWalk
import Derived.Sort.AssemblyPlain
import Derived.Test.YtnoelppkcbelcaaHSrtE
import Derived.Test.YtnoelppkcbelcaaHSrtG
import Derived.Deep.Cut
import Derived.Deep.CutBlock

set_option linter.unusedVariables false
set_option linter.unusedSimpArgs false
namespace Go.Proofs.Ytnoelppkcbelcaa.Srt
open Go.RowKit Go.Proofs.YtnoelppkcbelcaaW.PrintWords Go.Proofs.YtnoelppkcbelcaaW.PrintLast Go.Proofs.YtnoelppkcbelcaaW.PrintMore Go.Proofs.Ytnoelppkcbelcaa.MH
section
variable {w W W2 : World} {g off : Nat} {d d' : Array Int}
theorem at_then (H : At w g off d W) (hg : g < w.heap.size) (hs : d'.size = d.size) (K : At W g off d' W2) : At w g off d' W2 := H.stepG hg hs K
end
theorem ins_call (n g off cap a b : Nat) (d : Array Int) (w : World) (hn : d.size = n) (hH : Sort.Holds E w g off d) (hab : a ≤ b) (hb : b ≤ n) (hsz : n < 4611686018427387904) :
    Calls Try.prog 104 #[.slice (some ⟨g, off, none⟩) n cap, .int .i64 a, .int .i64 b] w fun e w' => e = .returned (.tuple #[]) ∧ Aside0 (∃ d', Sort.PermIn a b d d' ∧ Sort.SortedIn Sort.ltInt a b d' ∧ At w g off d' w') := by
  subst hn
  refine (insertion_calls g off cap a b d w hH hab hb hsz).mono ?_
  rintro e w' ⟨rfl, h⟩
  obtain ⟨p, s⟩ := Sort.insertionSort_holds (lt := Sort.ltInt) Sort.swo_ltInt d a b hab hb
  exact ⟨rfl, ⟨_, p, s, h.at_⟩⟩
theorem heap_call (n g off cap a b : Nat) (d : Array Int) (w : World) (hn : d.size = n) (hH : Sort.Holds E w g off d) (hab : a < b) (hb : b ≤ n) (hsz : n < 4611686018427387904) :
    Calls Try.prog 105 #[.slice (some ⟨g, off, none⟩) n cap, .int .i64 a, .int .i64 b] w fun e w' => e = .returned (.tuple #[]) ∧ Aside0 (∃ d', Sort.PermIn a b d d' ∧ Sort.SortedIn Sort.ltInt a b d' ∧ At w g off d' w') := by
  subst hn
  refine (heap_calls g off cap a b d w hH hab hb hsz).mono ?_
  rintro e w' ⟨rfl, h⟩
  obtain ⟨p, s⟩ := Sort.heapSort_holds (lt := Sort.ltInt) Sort.swo_ltInt d a b (by omega) hb
  exact ⟨rfl, ⟨_, p, s, h.at_⟩⟩
theorem rev_call (n g off cap a b : Nat) (d : Array Int) (w : World) (hn : d.size = n) (hH : Sort.Holds E w g off d) (hab : a < b) (hb : b ≤ n) (hsz : n < 4611686018427387904) :
    Calls Try.prog 108 #[.slice (some ⟨g, off, none⟩) n cap, .int .i64 a, .int .i64 b] w fun e w' => e = .returned (.tuple #[]) ∧ Aside0 (∃ d', Sort.PermIn a b d d' ∧ At w g off d' w') := by
  subst hn
  refine (reverse_calls g off cap a b d w hH hab hb hsz).mono ?_
  rintro e w' ⟨rfl, h⟩
  exact ⟨rfl, ⟨_, Sort.reverseRange_holds d a b (by omega) hb, h.at_⟩⟩
theorem partial_call (n g off cap a b : Nat) (d : Array Int) (w : World) (hn : d.size = n) (hH : Sort.Holds E w g off d) (hab : a < b) (hb : b ≤ n) (hsz : n < 4611686018427387904) (hB : Sort.Below Sort.ltInt a b d) :
    Calls Try.prog 109 #[.slice (some ⟨g, off, none⟩) n cap, .int .i64 a, .int .i64 b] w fun e w' => ∃ r : Bool, e = .returned (.bool r) ∧ Aside0 (∃ d', Sort.PermIn a b d d' ∧ (r = true → Sort.SortedIn Sort.ltInt a b d') ∧ At w g off d' w') := by
  subst hn
  refine (partial_calls g off cap a b d w hH hab hb hsz).mono ?_
  rintro e w' ⟨rfl, h⟩
  obtain ⟨p, s⟩ := Sort.partialInsertionSort_holds (lt := Sort.ltInt) Sort.swo_ltInt d a b hab hb hB
  exact ⟨_, rfl, ⟨_, p, s, h.at_⟩⟩
theorem parteq_call (n g off cap a b pivot : Nat) (d : Array Int) (w : World) (hn : d.size = n) (hH : Sort.Holds E w g off d) (hap : a ≤ pivot) (hpb : pivot < b) (hb : b ≤ n) (hsz : n < 4611686018427387904) :
    Calls Try.prog 111 #[.slice (some ⟨g, off, none⟩) n cap, .int .i64 a, .int .i64 b, .int .i64 pivot] w fun e w' => ∃ mid : Nat, e = .returned (.int .i64 mid) ∧ Aside0 (∃ d', Sort.partitionEqual Sort.ltInt d a b pivot = (mid, d') ∧ At w g off d' w') := by
  subst hn
  refine (parteq_calls g off cap a b pivot d w hH hap hpb hb hsz).mono ?_
  rintro e w' ⟨rfl, h⟩
  exact ⟨_, rfl, ⟨_, rfl, h.at_⟩⟩
theorem part_call (n g off cap a b pivot : Nat) (d : Array Int) (w : World) (hn : d.size = n) (hH : Sort.Holds E w g off d) (hap : a ≤ pivot) (hpb : pivot < b) (hb : b ≤ n) (hsz : n < 4611686018427387904) :
    Calls Try.prog 112 #[.slice (some ⟨g, off, none⟩) n cap, .int .i64 a, .int .i64 b, .int .i64 pivot] w fun e w' => ∃ (mid : Nat) (ap : Bool), e = .returned (.tuple #[.int .i64 mid, .bool ap]) ∧ Aside0 (∃ d', Sort.partition Sort.ltInt d a b pivot = (mid, ap, d') ∧ At w g off d' w') := by
  subst hn
  refine (part_calls g off cap a b pivot d w hH hap hpb hb hsz).mono ?_
  rintro e w' ⟨rfl, h⟩
  exact ⟨_, _, rfl, ⟨_, rfl, h.at_⟩⟩
set_option maxRecDepth 8000
set_option maxHeartbeats 64000000 in
theorem pdq_calls (n g off cap : Nat) (hsz : n < 4611686018427387904) : ∀ (N a b limit : Nat) (d : Array Int) (w : World), b - a < N → d.size = n → Sort.Holds E w g off d → g < w.heap.size → a ≤ b → b ≤ n → limit < 4611686018427387904 → Sort.Below Sort.ltInt a b d →
    Calls Try.prog 88 #[.slice (some ⟨g, off, none⟩) n cap, .int .i64 a, .int .i64 b, .int .i64 limit] w fun e w' => e = .returned (.tuple #[]) ∧ Aside0 (∃ d', Sort.PermIn a b d d' ∧ Sort.SortedIn Sort.ltInt a b d' ∧ At w g off d' w') := by
  intro N
  induction N with
  | zero => intro a b limit d w h; exact absurd h (Nat.not_lt_zero _)
  | succ N ih =>
  intro a b limit d w hN hn hH hg hab hb hlim hBel
  have HH := Aside0.mk hH
  have HA := Aside0.mk (Sort.At.refl hH)
  have HB := Aside0.mk hBel
  have IH := Aside0.mk ih
  clear hH hBel ih
  go_enter Try.func88, Try.ntmps88
  go_wp2
  go_loopg [1, 2, 3, 8, 9] (b - a) (fun kq s1 s2 s3 s8 s9 w' => ∃ (x y lim : Nat) (wb wp : Bool) (dk : Array Int), s1 = .int .i64 (x : Int) ∧ s2 = .int .i64 (y : Int) ∧ s3 = .int .i64 (lim : Int) ∧ s8 = .bool wb ∧ s9 = .bool wp ∧
    Aside0 (x ≤ y ∧ y ≤ n ∧ y - x ≤ kq ∧ y - x ≤ b - a ∧ lim ≤ limit ∧ dk.size = n) ∧ Aside0 (Sort.Below Sort.ltInt x y dk ∧ ∀ R, Sort.PermIn x y dk R → Sort.SortedIn Sort.ltInt x y R → Sort.PermIn a b d R ∧ Sort.SortedIn Sort.ltInt a b R) ∧ Aside0 (At w g off dk w'))
  case atStart => exact ⟨a, b, limit, true, true, d, rfl, rfl, rfl, rfl, rfl, ⟨hab, hb, Nat.le_refl _, Nat.le_refl _, Nat.le_refl _, hn⟩, ⟨HB.out, fun R h1 h2 => ⟨h1, h2⟩⟩, HA⟩
  case round =>
    clear HA HB
    obtain ⟨x, y, lim, wb, wp, dk, rfl, rfl, rfl, rfl, rfl, HF, HQ, HA⟩ := hrel
    obtain ⟨hxy, hyn, hkq, hyx, hll, hds⟩ := HF.out
    clear HF
    obtain ⟨l, hl⟩ : ∃ l : Nat, (y : Int) - (x : Int) = (l : Int) := ⟨y - x, by omega⟩
    have hW := HA.out.holds HH.out (by rw [hds, hn]) hg
    by_cases h12 : l ≤ 12
    · have hc := ins_call n g off cap x y dk wr hds hW.1 hxy hyn hsz
      clear hW
      go_wp2_with (go_at_call 104; refine hc.mono ?_; rintro e w1 ⟨rfl, H1⟩)
      (try simp only [Exit.inBlock, Exit.then]); refine bodyPost_ret (results_none rfl _ _ _) rfl ?_
      obtain ⟨d', p, s, h⟩ := H1.out
      obtain ⟨q1, q2⟩ := HQ.out.2 d' p s
      exact ⟨rfl, ⟨d', q1, q2, at_then HA.out hg p.1 h⟩⟩
    by_cases hl0 : lim = 0
    · subst hl0
      have hc := heap_call n g off cap x y dk wr hds hW.1 (by omega) hyn hsz
      clear hW
      go_wp2_with (go_at_call 105; refine hc.mono ?_; rintro e w1 ⟨rfl, H1⟩)
      (try simp only [Exit.inBlock, Exit.then]); refine bodyPost_ret (results_none rfl _ _ _) rfl ?_
      obtain ⟨d', p, s, h⟩ := H1.out
      obtain ⟨q1, q2⟩ := HQ.out.2 d' p s
      exact ⟨rfl, ⟨d', q1, q2, at_then HA.out hg p.1 h⟩⟩
    cases gk with
    | zero => omega
    | succ k1 =>
    have hx12 : x + 12 < y := by omega
    go_upto_if 35 with (fail)
    go_cut [3] from 19 (fun s3 wc => ∃ (lim2 : Nat) (d1 : Array Int), s3 = .int .i64 (lim2 : Int) ∧ Aside0 (lim2 ≤ lim ∧ d1.size = n ∧ Sort.PermIn x y dk d1) ∧ Aside0 (At w g off d1 wc))
    case first =>
      cases wb with
      | true =>
        go_wp2
        go_meet
        case rel => exact ⟨lim, dk, rfl, ⟨by omega, hds, Sort.permIn_refl _ _ _⟩, HA⟩
      | false =>
        have hc := break_calls n g off cap x y dk wr hds hW.1 hW.2 hx12 hyn hsz
        clear hW
        obtain ⟨lim2, hlm⟩ : ∃ lim2 : Nat, (lim : Int) - 1 = (lim2 : Int) := ⟨lim - 1, by omega⟩
        go_wp2_with (go_at_call 106; refine hc.mono ?_; rintro e w1 ⟨rfl, H1⟩)
        go_meet
        case rel =>
          obtain ⟨d1, p, h⟩ := H1.out
          exact ⟨lim2, d1, (by first | rfl | (congr 1)), ⟨by omega, by rw [p.1]; exact hds, p⟩, ⟨at_then HA.out hg p.1 h⟩⟩
    case rest =>
    clear hW HA
    obtain ⟨lim2, d1, rfl, HF, HA⟩ := hcut
    obtain ⟨hl2, hs1, P1⟩ := HF.out
    have HP1 := Aside0.mk P1
    clear P1 HF
    obtain ⟨w1, hw1⟩ : ∃ w1 : World, w1 = wc := ⟨_, rfl⟩
    rw [← hw1] at HA ⊢
    clear hw1
    have hW := HA.out.holds HH.out (by rw [hs1, hn]) hg
    have hc := choose_calls n g off cap x y d1 w1 hs1 hW.1 hW.2 hx12 hyn hsz
    clear hW
    go_upto_if 50 with (go_at_call 107; refine hc.mono ?_; rintro e w2 ⟨p, hint, rfl, H2⟩)
    have HA2 : Aside0 (At w g off d1 w2) := ⟨HA.out.same HH.out (by rw [hs1, hn]) hg H2.out.2⟩
    obtain ⟨hxp, hpy⟩ := H2.out.1
    clear HA H2 hc
    go_cut [11, 12] from 19 (fun s11 s12 wc => ∃ (p : Nat) (hint : Int) (d2 : Array Int), s11 = .int .i64 (p : Int) ∧ s12 = .int .i64 hint ∧ Aside0 (x ≤ p ∧ p < y ∧ d2.size = n ∧ Sort.PermIn x y dk d2) ∧ Aside0 (At w g off d2 wc))
    case first =>
      by_cases c2 : hint = 2
      · subst c2
        have hW := HA2.out.holds HH.out (by rw [hs1, hn]) hg
        have hc := rev_call n g off cap x y d1 w2 hs1 hW.1 (by omega) hyn hsz
        clear hW
        go_wp2_with (go_at_call 108; refine hc.mono ?_; rintro e w3 ⟨rfl, H3⟩)
        go_meet
        case rel =>
          obtain ⟨d2, q, h⟩ := H3.out
          exact ⟨(y - 1) - (p - x), _, d2, (by congr 1; omega), rfl, ⟨by omega, by omega, by rw [q.1]; exact hs1, Sort.permIn_trans _ _ _ _ _ HP1.out q⟩, ⟨at_then HA2.out hg q.1 h⟩⟩
      · go_wp2
        go_meet
        case rel => exact ⟨p, hint, d1, rfl, rfl, ⟨hxp, hpy, hs1, HP1.out⟩, HA2⟩
    case rest =>
    clear HA2 HP1 hxp hpy hs1
    obtain ⟨p, hint, d2, rfl, rfl, HF, HA⟩ := hcut
    obtain ⟨hxp, hpy, hs2, P2⟩ := HF.out
    have HP2 := Aside0.mk P2
    clear P2 HF
    obtain ⟨w3, hw3⟩ : ∃ w3 : World, w3 = wc := ⟨_, rfl⟩
    rw [← hw3] at HA ⊢
    clear hw3
    go_upto_region 15 with (fail)
    go_cut [68] from 19 (fun s68 wc => ∃ v : Bool, s68 = .bool v ∧ wc = w3)
    case first =>
      by_cases c1 : hint = 1
      · cases wb <;> cases wp
        all_goals go_wp2
        all_goals go_meet
        all_goals (case rel => exact ⟨_, rfl, rfl⟩)
      · cases wb <;> cases wp
        all_goals go_wp2
        all_goals go_meet
        all_goals (case rel => exact ⟨_, rfl, rfl⟩)
    case rest =>
    obtain ⟨v, rfl, hwc⟩ := hcut
    rw [hwc]
    clear hwc
    have hB2 : Sort.Below Sort.ltInt x y d2 := Sort.Below.perm HQ.out.1 (by omega) HP2.out
    have hW := HA.out.holds HH.out (by rw [hs2, hn]) hg
    have hc := partial_call n g off cap x y d2 w3 hs2 hW.1 (by omega) hyn hsz hB2
    have HB2 := Aside0.mk hB2
    clear hW hB2
    go_upto_if 68 with (fail)
    go_cut [] from 19 (fun wc => ∃ d3 : Array Int, Aside0 (d3.size = n ∧ Sort.PermIn x y dk d3) ∧ Aside0 (At w g off d3 wc))
    case first =>
      cases v with
      | true =>
        go_upto_if 72 with (go_at_call 109; refine hc.mono ?_; rintro e w4 ⟨r, rfl, H4⟩)
        clear hc
        cases r with
        | true =>
          go_wp2
          (try simp only [Exit.inBlock, Exit.then]); refine bodyPost_ret (results_none rfl _ _ _) rfl ?_
          obtain ⟨d', q, s, h⟩ := H4.out
          obtain ⟨q1, q2⟩ := HQ.out.2 d' (Sort.permIn_trans _ _ _ _ _ HP2.out q) (s (by first | rfl | trivial))
          exact ⟨rfl, ⟨d', q1, q2, at_then HA.out hg q.1 h⟩⟩
        | false =>
          go_wp2
          go_meet
          case rel =>
            obtain ⟨d', q, s, h⟩ := H4.out
            exact ⟨d', ⟨by rw [q.1]; exact hs2, Sort.permIn_trans _ _ _ _ _ HP2.out q⟩, ⟨at_then HA.out hg q.1 h⟩⟩
      | false =>
        clear hc
        go_wp2
        go_meet
        case rel => exact ⟨d2, ⟨hs2, HP2.out⟩, HA⟩
    case rest =>
    clear HA HP2 hs2 HB2 hc
    obtain ⟨d3, HF, HA⟩ := hcut
    obtain ⟨hs3, P3⟩ := HF.out
    have HB3 : Aside0 (Sort.Below Sort.ltInt x y d3) := ⟨Sort.Below.perm HQ.out.1 (by omega) P3⟩
    have HP3 := Aside0.mk P3
    clear P3 HF
    obtain ⟨w4, hw4⟩ : ∃ w4 : World, w4 = wc := ⟨_, rfl⟩
    rw [← hw4] at HA ⊢
    clear hw4
    go_upto_region 17 with (fail)
    go_cut [87] from 19 (fun s87 wc => ∃ v : Bool, s87 = .bool v ∧ Aside0 (v = true → 0 < x ∧ Sort.ltInt d3[x - 1]! d3[p]! = false) ∧ Aside0 (At w g off d3 wc))
    case first =>
      have hW := (HA.out.holds HH.out (by rw [hs3, hn]) hg).1
      obtain ⟨G, hG⟩ : ∃ G : Nat → Int, ∀ t, G t = d3[t]! := ⟨fun t => d3[t]!, fun _ => rfl⟩
      have hcw : ∀ t, t < n → w4.cell? ⟨g, off + t, none⟩ = some (.int .u16 (G t)) := fun t ht => by rw [hG]; exact (hW t (by omega)).1
      have HG := Aside0.mk hG
      clear hG hW
      by_cases cx : 0 < x
      · obtain ⟨z, hz, lz, hzx⟩ : ∃ z : Nat, (x : Int) - 1 = (z : Int) ∧ z < n ∧ x = z + 1 := ⟨x - 1, by omega, by omega, by omega⟩
        have lp : p < n := by omega
        have hwz : IntKind.i64.wrap ((x : Int) - 1) = (z : Int) := by rw [IntWalk.i64_in _ (by omega)]; omega
        have HZ := Aside0.mk hzx
        clear hzx
        cases hl : Sort.ltInt (G z) (G p) with
        | true =>
          go_wp2
          go_quiet (first | (go_at_call 110; (with_reducible refine (less_calls _ _ _).mono ?_); rintro e w' ⟨rfl, ⟨nd, rfl⟩⟩; (try first | exact ⟨rfl, _, World.drewN_drewN _ _ _⟩ | exact ⟨rfl, _, Eq.trans (World.drewN_drewN _ _ _) (congrArg (World.drewN _) (Nat.add_assoc _ _ _))⟩)))
          go_wp2
          go_meet
          case rel => exact ⟨_, rfl, ⟨fun h => by cases h⟩, ⟨HA.out.ahead _⟩⟩
        | false =>
          go_wp2
          go_quiet (first | (go_at_call 110; (with_reducible refine (less_calls _ _ _).mono ?_); rintro e w' ⟨rfl, ⟨nd, rfl⟩⟩; (try first | exact ⟨rfl, _, World.drewN_drewN _ _ _⟩ | exact ⟨rfl, _, Eq.trans (World.drewN_drewN _ _ _) (congrArg (World.drewN _) (Nat.add_assoc _ _ _))⟩)))
          go_wp2
          go_meet
          case rel => exact ⟨_, rfl, ⟨fun _ => ⟨cx, by have := HZ.out; rw [← HG.out, ← HG.out, show x - 1 = z by omega]; exact hl⟩⟩, ⟨HA.out.ahead _⟩⟩
      · go_wp2
        go_quiet (first | (go_at_call 110; (with_reducible refine (less_calls _ _ _).mono ?_); rintro e w' ⟨rfl, ⟨nd, rfl⟩⟩; (try first | exact ⟨rfl, _, World.drewN_drewN _ _ _⟩ | exact ⟨rfl, _, Eq.trans (World.drewN_drewN _ _ _) (congrArg (World.drewN _) (Nat.add_assoc _ _ _))⟩)))
        go_wp2
        go_meet
        case rel => exact ⟨_, rfl, ⟨fun h => by cases h⟩, ⟨HA.out.ahead _⟩⟩
    case rest =>
    clear HA
    obtain ⟨v, rfl, HV, HA⟩ := hcut
    obtain ⟨w5, hw5⟩ : ∃ w5 : World, w5 = wc := ⟨_, rfl⟩
    rw [← hw5] at HA ⊢
    clear hw5
    have hW := HA.out.holds HH.out (by rw [hs3, hn]) hg
    cases v with
    | true =>
      obtain ⟨cx, hnl⟩ := HV.out rfl
      have hc := parteq_call n g off cap x y p d3 w5 hs3 hW.1 hxp hpy hyn hsz
      clear hW
      have HN := Aside0.mk hnl
      clear hnl
      go_wp2_with (go_at_call 111; refine hc.mono ?_; rintro e w6 ⟨mid, rfl, H6⟩)
      have HD : Aside0 (∃ d4 : Array Int, (x < mid ∧ mid ≤ y ∧ d4.size = n) ∧ (Sort.Below Sort.ltInt mid y d4 ∧ ∀ R, Sort.PermIn mid y d4 R → Sort.SortedIn Sort.ltInt mid y R → Sort.PermIn x y d3 R ∧ Sort.SortedIn Sort.ltInt x y R) ∧ At w g off d4 w6) := by
        obtain ⟨d4, hx, h⟩ := H6.out
        obtain ⟨r1, r2, r3, r4, r5⟩ := Sort.round_eq (lt := Sort.ltInt) Sort.swo_ltInt (Sort.partitionEqual_holds _) cx hxp hpy (by omega) HB3.out HN.out hx
        exact ⟨⟨d4, ⟨r1, r2, by omega⟩, ⟨r4, r5⟩, at_then HA.out hg r3 h⟩⟩
      obtain ⟨d4, ⟨r1, r2, r3⟩, HE, h4⟩ := HD.out
      go_roundg k1
      case measure => omega
      case rel => exact ⟨mid, y, lim2, wb, wp, d4, rfl, rfl, rfl, rfl, rfl, ⟨by omega, by omega, by omega, by omega, by omega, r3⟩, ⟨HE.1, fun R q1 q2 => HQ.out.2 R (Sort.permIn_trans _ _ _ _ _ HP3.out (HE.2 R q1 q2).1) (HE.2 R q1 q2).2⟩, ⟨h4⟩⟩
    | false =>
      have hc := part_call n g off cap x y p d3 w5 hs3 hW.1 hxp hpy hyn hsz
      clear hW
      go_upto_region 21 with (go_at_call 112; refine hc.mono ?_; rintro e w6 ⟨mid, ap, rfl, H6⟩)
      have HD : Aside0 (∃ d4 : Array Int, (x ≤ mid ∧ mid < y ∧ d4.size = n) ∧ (Sort.Below Sort.ltInt x mid d4 ∧ Sort.Below Sort.ltInt (mid + 1) y d4 ∧
          (∀ L, Sort.PermIn x mid d4 L → Sort.SortedIn Sort.ltInt x mid L → Sort.Below Sort.ltInt (mid + 1) y L ∧ ∀ R, Sort.PermIn (mid + 1) y L R → Sort.SortedIn Sort.ltInt (mid + 1) y R → Sort.PermIn x y d3 R ∧ Sort.SortedIn Sort.ltInt x y R) ∧
          (∀ L, Sort.PermIn (mid + 1) y d4 L → Sort.SortedIn Sort.ltInt (mid + 1) y L → Sort.Below Sort.ltInt x mid L ∧ ∀ R, Sort.PermIn x mid L R → Sort.SortedIn Sort.ltInt x mid R → Sort.PermIn x y d3 R ∧ Sort.SortedIn Sort.ltInt x y R)) ∧ At w g off d4 w6) := by
        obtain ⟨d4, hx, h⟩ := H6.out
        obtain ⟨r1, r2, r3, r4⟩ := Sort.round_part (lt := Sort.ltInt) Sort.swo_ltInt (Sort.partition_holds _) hxp hpy (by omega) HB3.out hx
        exact ⟨⟨d4, ⟨r1, r2, by omega⟩, r4, at_then HA.out hg r3 h⟩⟩
      obtain ⟨d4, ⟨r1, r2, r3⟩, HE, h4⟩ := HD.out
      have HE := Aside0.mk HE
      have HA4 := Aside0.mk h4
      clear HD H6 HA hc h4
      have hW := HA4.out.holds HH.out (by rw [r3, hn]) hg
      obtain ⟨lf, hlf⟩ : ∃ lf : Nat, (mid : Int) - (x : Int) = (lf : Int) := ⟨mid - x, by omega⟩
      obtain ⟨rt, hrt⟩ : ∃ rt : Nat, (y : Int) - (mid : Int) = (rt : Int) := ⟨y - mid, by omega⟩
      obtain ⟨q8, hq8⟩ : ∃ q8 : Nat, (l : Int) / 8 = (q8 : Int) := ⟨l / 8, by omega⟩
      obtain ⟨m1, hm1z, hm1⟩ : ∃ m1 : Nat, (mid : Int) + 1 = (m1 : Int) ∧ m1 = mid + 1 := ⟨mid + 1, by omega, rfl⟩
      by_cases clr : lf < rt
      · have hc := IH.out x mid lim2 d4 w6 (by omega) r3 hW.1 hW.2 r1 (by omega) (by omega) HE.out.1
        have HM := Aside0.mk hm1
        clear hW hm1
        go_wp2_with (go_at_call 88; refine hc.mono ?_; rintro e w7 ⟨rfl, H7⟩)
        go_roundg k1
        case measure => omega
        case rel =>
          obtain ⟨L, pL, sL, hL⟩ := H7.out
          obtain ⟨e1, e2⟩ := HE.out.2.2.1 L pL sL
          have := HM.out
          exact ⟨mid + 1, y, lim2, _, ap, L, (by congr 1; omega), rfl, rfl, rfl, rfl, ⟨by omega, by omega, by omega, by omega, by omega, by rw [pL.1]; exact r3⟩, ⟨e1, fun R q1 q2 => HQ.out.2 R (Sort.permIn_trans _ _ _ _ _ HP3.out (e2 R q1 q2).1) (e2 R q1 q2).2⟩, ⟨at_then HA4.out hg pL.1 hL⟩⟩
      · have hc := IH.out m1 y lim2 d4 w6 (by omega) r3 hW.1 hW.2 (by omega) (by omega) (by omega) (by rw [hm1]; exact HE.out.2.1)
        have HM := Aside0.mk hm1
        clear hW hm1
        go_wp2_with (go_at_call 88; refine hc.mono ?_; rintro e w7 ⟨rfl, H7⟩)
        go_roundg k1
        case measure => omega
        case rel =>
          obtain ⟨L, pL, sL, hL⟩ := H7.out
          have hm := HM.out
          rw [hm] at pL sL
          obtain ⟨e1, e2⟩ := HE.out.2.2.2 L pL sL
          exact ⟨x, mid, lim2, _, ap, L, rfl, rfl, rfl, rfl, rfl, ⟨by omega, by omega, by omega, by omega, by omega, by rw [pL.1]; exact r3⟩, ⟨e1, fun R q1 q2 => HQ.out.2 R (Sort.permIn_trans _ _ _ _ _ HP3.out (e2 R q1 q2).1) (e2 R q1 q2).2⟩, ⟨at_then HA4.out hg pL.1 hL⟩⟩
end Go.Proofs.Ytnoelppkcbelcaa.Srt
