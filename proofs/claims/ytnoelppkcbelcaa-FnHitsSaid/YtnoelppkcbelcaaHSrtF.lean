/-
slices.Sort at []uint16: order2Ordered, medianOrdered, medianAdjacentOrdered, choosePivotOrdered.
-/
import Derived.Test.YtnoelppkcbelcaaHSrtA
import Derived.IntWalk
import Derived.Sort.Grow
import Derived.Deep.Cut
import Derived.Deep.CutBlock

set_option linter.unusedVariables false
set_option linter.unusedSimpArgs false
namespace Go.Proofs.Ytnoelppkcbelcaa.Srt
open Go.RowKit Go.Proofs.YtnoelppkcbelcaaW.PrintWords Go.Proofs.YtnoelppkcbelcaaW.PrintLast Go.Proofs.YtnoelppkcbelcaaW.PrintMore Go.Proofs.Ytnoelppkcbelcaa.MH
abbrev Sh (w : World) (h : Nat) (s : Int) : Prop := Sort.Holds (Value.int .i64) w h 0 #[s]
/-- Behind w only the number at (h, 0) has turned, and draws. -/
def Sw (w : World) (h : Nat) (W : World) : Prop := ∃ m s, W = Sort.putRow (Value.int .i64) (Sort.ahead w m) h 0 #[s]
section
variable {w W W2 : World} {g h off : Nat} {s t : Int} {d : Array Int}
theorem Sw.start (H : Sh w h s) : Sw w h w := ⟨0, s, (Sort.putRow_self _ _ h 0 _ H).symm⟩
theorem Sw.drewN (H : Sw w h W) (q : Nat) : Sw w h (W.drewN q) := by
  obtain ⟨m, s, rfl⟩ := H
  refine ⟨m + q, s, ?_⟩
  have e : (Sort.putRow (Value.int .i64) (Sort.ahead w m) h 0 #[s]).drewN q = Sort.putRow (Value.int .i64) (Sort.ahead (Sort.ahead w m) q) h 0 #[s] := by
    rw [Sort.putRow_ahead, Sort.putRow_ahead, Sort.putRow_ahead]
    simp [World.drewN, Sort.ahead, Sort.putRow, Sort.mapBlock]
  rw [e, Sort.ahead_ahead]
theorem Sw.sh (h0 : Sh w h s) (H : Sw w h W) : ∃ t, Sh W h t := by
  obtain ⟨m, t, rfl⟩ := H
  exact ⟨t, Sort.holds_putRow _ _ h 0 #[s] #[t] (Sort.holds_ahead _ w m h 0 _ h0) rfl⟩
theorem Sh.cell (H : Sh w h s) : w.cell? ⟨h, 0, none⟩ = some (.int .i64 s) := by
  have := (H 0 (by simp)).1
  simpa using this
theorem Sh.froz (H : Sh w h s) : w.frozen? ⟨h, 0, none⟩ = false := by
  have := (H 0 (by simp)).2
  simpa using this
theorem Sw.set (h0 : Sh w h s) (H : Sw w h W) (u : Int) : Sw w h (W.setCell ⟨h, 0, none⟩ (.int .i64 u)) := by
  obtain ⟨m, t, rfl⟩ := H
  have := Sort.putRow_set (Value.int .i64) (Sort.ahead w m) h 0 #[t] 0 u (by simp)
  refine ⟨m, u, this.trans ?_⟩
  congr 1
theorem Sw.row (H : Sw w h W) (hg : g ≠ h) (hd : Sort.Holds E w g off d) : Sort.Holds E W g off d := by
  obtain ⟨m, t, rfl⟩ := H
  intro j hj
  rw [Sort.cell?_putRow_other _ _ _ _ _ _ (.inl hg), Sort.frozen?_putRow]
  exact hd j hj
theorem Sh.new : Sh (w.alloc (Obj.cells #[Value.int IntKind.i64 0] 3)) w.heap.size 0 := by
  intro j hj
  have e : j = 0 := by simp at hj; omega
  subst e
  have e : (w.alloc (Obj.cells #[Value.int IntKind.i64 0] 3)).heap[w.heap.size]? = some (Obj.cells #[Value.int IntKind.i64 0] 3) := by
    rw [Sort.alloc_eq_grow]
    show (w.heap ++ #[Obj.cells #[Value.int IntKind.i64 0] 3])[w.heap.size]? = _
    simp
  constructor
  · simp only [World.cell?, e]
    rfl
  · simp only [World.frozen?, e]
    rfl
theorem Sw.grown {o : Obj} (H : Sw (w.alloc o) w.heap.size W) : ∃ m os, W = Sort.grow (Sort.ahead w m) os := by
  obtain ⟨m, s, rfl⟩ := H
  rw [Sort.alloc_eq_grow, Sort.ahead_grow]
  obtain ⟨os, _, e⟩ := Sort.putRow_grow_new (Value.int .i64) (Sort.ahead w m) #[o] w.heap.size 0 #[s] (Nat.le_refl _)
  exact ⟨m, os, e⟩
theorem Sw.then_ (H : Sw w h W) (K : Sw W h W2) : Sw w h W2 := by
  obtain ⟨m, t, rfl⟩ := H
  obtain ⟨m2, t2, rfl⟩ := K
  exact ⟨m + m2, t2, Sort.putRow_ahead_putRow _ w m m2 h 0 #[t] #[t2] rfl⟩
end
set_option maxHeartbeats 4000000 in
theorem order2_calls (n : Nat) (g off cap a b h : Nat) (s : Int) (d : Array Int) (w : World) (hn : d.size = n) (hH : Sort.Holds E w g off d) (hs : Sh w h s) (ha : a < n) (hb : b < n) (hsz : n < 4611686018427387904) :
    Calls Try.prog 148 #[.slice (some ⟨g, off, none⟩) n cap, .int .i64 a, .int .i64 b, .pointer (some ⟨h, 0, none⟩)] w fun e w' => ∃ x y : Nat, e = .returned (.tuple #[.int .i64 x, .int .i64 y]) ∧ Aside0 (((x = a ∧ y = b) ∨ (x = b ∧ y = a)) ∧ Sw w h w') := by
  subst hn
  obtain ⟨G, hG⟩ : ∃ G : Nat → Int, ∀ t, G t = d[t]! := ⟨fun t => d[t]!, fun _ => rfl⟩
  have hcw : ∀ t, t < d.size → w.cell? ⟨g, off + t, none⟩ = some (.int .u16 (G t)) := fun t ht => by rw [hG]; exact (hH t ht).1
  have hfw : ∀ t, t < d.size → w.frozen? ⟨g, off + t, none⟩ = false := fun t ht => (hH t ht).2
  have hc := hs.cell
  have hf := hs.froz
  have HS := Aside0.mk hs
  clear hG hH hs
  go_enter Try.func148, Try.ntmps148
  go_wp2
  go_quiet (first | (go_at_call 110; (with_reducible refine (less_calls _ _ _).mono ?_); rintro e w' ⟨rfl, ⟨nd, rfl⟩⟩; (try first | exact ⟨rfl, _, World.drewN_drewN _ _ _⟩ | exact ⟨rfl, _, Eq.trans (World.drewN_drewN _ _ _) (congrArg (World.drewN _) (Nat.add_assoc _ _ _))⟩)))
  go_wp2
  all_goals ((try simp only [Exit.inBlock, Exit.then]); refine bodyPost_ret (results_tmp2 rfl _ _ _) rfl ?_)
  all_goals first
    | exact ⟨b, a, rfl, ⟨.inr ⟨rfl, rfl⟩, ((Sw.start HS.out).drewN _).set HS.out _⟩⟩
    | exact ⟨a, b, rfl, ⟨.inl ⟨rfl, rfl⟩, (Sw.start HS.out).drewN _⟩⟩
set_option maxHeartbeats 4000000 in
theorem median_calls (n : Nat) (g off cap a b c h : Nat) (s : Int) (d : Array Int) (w : World) (hn : d.size = n) (hH : Sort.Holds E w g off d) (hgh : g ≠ h) (hs : Sh w h s) (ha : a < n) (hb : b < n) (hc : c < n) (hsz : n < 4611686018427387904) :
    Calls Try.prog 133 #[.slice (some ⟨g, off, none⟩) n cap, .int .i64 a, .int .i64 b, .int .i64 c, .pointer (some ⟨h, 0, none⟩)] w fun e w' => ∃ x : Nat, e = .returned (.int .i64 x) ∧ Aside0 ((x = a ∨ x = b ∨ x = c) ∧ Sw w h w') := by
  have HH := Aside0.mk (And.intro hH hs)
  have o1 := order2_calls n g off cap a b h s d w hn hH hs ha hb hsz
  clear hs
  go_enter Try.func133, Try.ntmps133
  go_upto_region 2 with (go_at_call 148; refine o1.mono ?_; rintro e w1 ⟨x1, y1, rfl, H1⟩)
  obtain ⟨p1, q1⟩ := H1.out
  obtain ⟨s1, hs1⟩ := q1.sh HH.out.2
  have o2 := order2_calls n g off cap y1 c h s1 d w1 hn (q1.row hgh hH) hs1 (by omega) hc hsz
  have Q1 := Aside0.mk q1
  have S1 := Aside0.mk hs1
  clear q1 hs1 H1
  go_upto_region 3 with (go_at_call 148; refine o2.mono ?_; rintro e w2 ⟨x2, y2, rfl, H2⟩)
  obtain ⟨p2, q2⟩ := H2.out
  obtain ⟨s2, hs2⟩ := q2.sh S1.out
  have o3 := order2_calls n g off cap x1 x2 h s2 d w2 hn (q2.row hgh (Q1.out.row hgh hH)) hs2 (by omega) (by omega) hsz
  have Q2 := Aside0.mk (Q1.out.then_ q2)
  clear q2 hs2 H2
  go_wp2_with (go_at_call 148; refine o3.mono ?_; rintro e w3 ⟨x3, y3, rfl, H3⟩)
  (try simp only [Exit.inBlock, Exit.then]); refine bodyPost_ret (results_tmp rfl _ _ _) rfl ?_
  exact ⟨y3, rfl, ⟨by have := H3.out.1; omega, Q2.out.then_ H3.out.2⟩⟩
set_option maxHeartbeats 4000000 in
theorem adjacent_calls (n : Nat) (g off cap a h : Nat) (s : Int) (d : Array Int) (w : World) (hn : d.size = n) (hH : Sort.Holds E w g off d) (hgh : g ≠ h) (hs : Sh w h s) (h0 : 0 < a) (ha : a + 1 < n) (hsz : n < 4611686018427387904) :
    Calls Try.prog 132 #[.slice (some ⟨g, off, none⟩) n cap, .int .i64 a, .pointer (some ⟨h, 0, none⟩)] w fun e w' => ∃ x : Nat, e = .returned (.int .i64 x) ∧ Aside0 ((a ≤ x + 1 ∧ x ≤ a + 1) ∧ Sw w h w') := by
  obtain ⟨b, hb⟩ : ∃ b, b = a - 1 := ⟨_, rfl⟩
  obtain ⟨c, hc⟩ : ∃ c, c = a + 1 := ⟨_, rfl⟩
  have o1 := median_calls n g off cap b a c h s d w hn hH hgh hs (by omega) (by omega) (by omega) hsz
  have hbz : (a : Int) - 1 = (b : Int) := by omega
  have hcz : (a : Int) + 1 = (c : Int) := by omega
  have HB := Aside0.mk (And.intro hb hc)
  clear hb hc hs
  go_enter Try.func132, Try.ntmps132
  go_wp2_with (go_at_call 133; refine o1.mono ?_; rintro e w1 ⟨x1, rfl, H1⟩)
  (try simp only [Exit.inBlock, Exit.then]); refine bodyPost_ret (results_tmp rfl _ _ _) rfl ?_
  exact ⟨x1, rfl, ⟨by have := H1.out.1; have := HB.out; omega, H1.out.2⟩⟩
set_option maxHeartbeats 8000000 in
theorem choose_calls (n : Nat) (g off cap a b : Nat) (d : Array Int) (w : World) (hn : d.size = n) (hH : Sort.Holds E w g off d) (hg : g < w.heap.size) (hab : a + 12 < b) (hb : b ≤ n) (hsz : n < 4611686018427387904) :
    Calls Try.prog 107 #[.slice (some ⟨g, off, none⟩) n cap, .int .i64 a, .int .i64 b] w fun e w' => ∃ (p : Nat) (hint : Int), e = .returned (.tuple #[.int .i64 p, .int .i64 hint]) ∧ Aside0 ((a ≤ p ∧ p < b) ∧ ∃ m os, w' = Sort.grow (Sort.ahead w m) os) := by
  obtain ⟨l, hl⟩ : ∃ l : Nat, (b : Int) - (a : Int) = (l : Int) := ⟨b - a, by omega⟩
  obtain ⟨q, hq⟩ : ∃ q : Nat, (l : Int) / 4 = (q : Int) := ⟨l / 4, by omega⟩
  obtain ⟨i, hi⟩ : ∃ i : Nat, (a : Int) + (q : Int) = (i : Int) := ⟨a + q, by omega⟩
  obtain ⟨j, hj⟩ : ∃ j : Nat, (a : Int) + (q : Int) * 2 = (j : Int) := ⟨a + q * 2, by omega⟩
  obtain ⟨k, hk⟩ : ∃ k : Nat, (a : Int) + (q : Int) * 3 = (k : Int) := ⟨a + q * 3, by omega⟩
  have h8 : 8 ≤ l := by omega
  have hia : a < i ∧ i + 2 < b := by omega
  have hja : a < j ∧ j + 2 < b := by omega
  have hka : a < k ∧ k + 2 < b := by omega
  go_enter Try.func107, Try.ntmps107
  have hgh : g ≠ w.heap.size := by omega
  obtain ⟨s, S⟩ : ∃ s, Aside0 (Sh (w.alloc (Obj.cells #[Value.int IntKind.i64 0] 3)) w.heap.size s) := ⟨0, ⟨Sh.new⟩⟩
  have HH : Aside0 (Sort.Holds E (w.alloc (Obj.cells #[Value.int IntKind.i64 0] 3)) g off d) := ⟨by rw [Sort.alloc_eq_grow]; exact Sort.holds_grow E w _ g off d hg hH⟩
  have Q : Aside0 (Sw (w.alloc (Obj.cells #[Value.int IntKind.i64 0] 3)) w.heap.size (w.alloc (Obj.cells #[Value.int IntKind.i64 0] 3))) := ⟨Sw.start S.out⟩
  obtain ⟨h, hh⟩ : ∃ h, h = w.heap.size := ⟨_, rfl⟩
  obtain ⟨W0, hW0⟩ : ∃ W0, W0 = w.alloc (Obj.cells #[Value.int IntKind.i64 0] 3) := ⟨_, rfl⟩
  rw [← hh] at hgh S Q
  rw [← hW0] at S HH Q
  have HZ := Aside0.mk (And.intro hh hW0)
  clear hh hW0
  have hgr : ∀ V, Sw W0 h V → ∃ m os, V = Sort.grow (Sort.ahead w m) os := fun V hV => by
    obtain ⟨e1, e2⟩ := HZ.out
    rw [e1, e2] at hV
    exact hV.grown
  have HG := Aside0.mk hgr
  clear hgr hH
  obtain ⟨W, hW⟩ : ∃ W, W = W0 := ⟨_, rfl⟩
  rw [← hW] at S HH
  rw [show Sw W0 h W0 = Sw W0 h W by rw [hW]] at Q
  have HW := Aside0.mk hW
  clear hW
  by_cases c50 : 50 ≤ l
  · go_upto_region 8 with (fail)
    rw [← HZ.out.1, ← HZ.out.2, ← HW.out]
    clear HW HZ
    have o1 := adjacent_calls n g off cap i h s d W hn HH.out hgh S.out (by omega) (by omega) hsz
    go_upto_region 9 with (go_at_call 132; refine o1.mono ?_; rintro e W1 ⟨i1, rfl, HX⟩)
    obtain ⟨p1, qX⟩ := HX.out
    replace Q := Aside0.mk (Q.out.then_ qX)
    replace HH := Aside0.mk (qX.row hgh HH.out)
    obtain ⟨s1, ht⟩ := qX.sh S.out
    clear S o1
    have S := Aside0.mk ht
    clear ht HX qX
    have o2 := adjacent_calls n g off cap j h s1 d W1 hn HH.out hgh S.out (by omega) (by omega) hsz
    go_upto_region 10 with (go_at_call 132; refine o2.mono ?_; rintro e W2 ⟨j1, rfl, HX⟩)
    obtain ⟨p2, qX⟩ := HX.out
    replace Q := Aside0.mk (Q.out.then_ qX)
    replace HH := Aside0.mk (qX.row hgh HH.out)
    obtain ⟨s2, ht⟩ := qX.sh S.out
    clear S o2
    have S := Aside0.mk ht
    clear ht HX qX
    have o3 := adjacent_calls n g off cap k h s2 d W2 hn HH.out hgh S.out (by omega) (by omega) hsz
    go_upto_region 11 with (go_at_call 132; refine o3.mono ?_; rintro e W3 ⟨k1, rfl, HX⟩)
    obtain ⟨p3, qX⟩ := HX.out
    replace Q := Aside0.mk (Q.out.then_ qX)
    replace HH := Aside0.mk (qX.row hgh HH.out)
    obtain ⟨s3, ht⟩ := qX.sh S.out
    clear S o3
    have S := Aside0.mk ht
    clear ht HX qX
    have o := median_calls n g off cap i1 j1 k1 h s3 d W3 hn HH.out hgh S.out (by omega) (by omega) (by omega) hsz
    go_upto_region 12 with (go_at_call 133; refine o.mono ?_; rintro e W' ⟨x, rfl, HX⟩)
    obtain ⟨pX, qX⟩ := HX.out
    have QX := Aside0.mk (Q.out.then_ qX)
    obtain ⟨t, ht⟩ := qX.sh S.out
    have hc := ht.cell
    clear qX ht HX
    by_cases t0 : t = 0
    · subst t0
      go_wp2
      (try simp only [Exit.inBlock, Exit.then]); refine bodyPost_ret (results_tmp2 rfl _ _ _) rfl ?_
      exact ⟨x, _, rfl, ⟨by omega, HG.out _ QX.out⟩⟩
    · by_cases t12 : t = 12
      · subst t12
        go_wp2
        (try simp only [Exit.inBlock, Exit.then]); refine bodyPost_ret (results_tmp2 rfl _ _ _) rfl ?_
        exact ⟨x, _, rfl, ⟨by omega, HG.out _ QX.out⟩⟩
      · go_wp2
        (try simp only [Exit.inBlock, Exit.then]); refine bodyPost_ret (results_tmp2 rfl _ _ _) rfl ?_
        exact ⟨x, _, rfl, ⟨by omega, HG.out _ QX.out⟩⟩
  · go_upto_region 11 with (fail)
    rw [← HZ.out.1, ← HZ.out.2, ← HW.out]
    clear HW HZ
    have o := median_calls n g off cap i j k h s d W hn HH.out hgh S.out (by omega) (by omega) (by omega) hsz
    go_upto_region 12 with (go_at_call 133; refine o.mono ?_; rintro e W' ⟨x, rfl, HX⟩)
    obtain ⟨pX, qX⟩ := HX.out
    have QX := Aside0.mk (Q.out.then_ qX)
    obtain ⟨t, ht⟩ := qX.sh S.out
    have hc := ht.cell
    clear qX ht HX
    by_cases t0 : t = 0
    · subst t0
      go_wp2
      (try simp only [Exit.inBlock, Exit.then]); refine bodyPost_ret (results_tmp2 rfl _ _ _) rfl ?_
      exact ⟨x, _, rfl, ⟨by omega, HG.out _ QX.out⟩⟩
    · by_cases t12 : t = 12
      · subst t12
        go_wp2
        (try simp only [Exit.inBlock, Exit.then]); refine bodyPost_ret (results_tmp2 rfl _ _ _) rfl ?_
        exact ⟨x, _, rfl, ⟨by omega, HG.out _ QX.out⟩⟩
      · go_wp2
        (try simp only [Exit.inBlock, Exit.then]); refine bodyPost_ret (results_tmp2 rfl _ _ _) rfl ?_
        exact ⟨x, _, rfl, ⟨by omega, HG.out _ QX.out⟩⟩
end Go.Proofs.Ytnoelppkcbelcaa.Srt
