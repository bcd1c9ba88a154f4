/-
Depths: what the reference's depths are.
-/
import Derived.Test.YtnoelppkcbelcaaGreatDoorMDx0
import Derived.Test.YtnoelppkcbelcaaGreatDoorMDx5
import Derived.Test.YtnoelppkcbelcaaGreatDoorMDx6
import Derived.Test.YtnoelppkcbelcaaGreatDoorDDepthSame
set_option linter.unusedSimpArgs false
set_option linter.unusedVariables false
namespace Go.Proofs.YtnoelppkcbelcaaGreatDoor.MDS
open Go.RowKit Go.Proofs.YtnoelppkcbelcaaGreatDoor.MD Go.Proofs.YtnoelppkcbelcaaGreatDoorW.PrintWords Go.Proofs.YtnoelppkcbelcaaGreatDoorW.PrintLast Go.Proofs.YtnoelppkcbelcaaGreatDoor.Lst Go.Proofs.YtnoelppkcbelcaaGreatDoor.MDO

theorem spec_op (l : L) (hl : l.length ≤ 1048576) (i : Nat) (h : i < l.length) (b : Nat) (hb : b < 256) (e : (rd_T62 l (i : Int)).f1 = (b : Int)) : Ev (fun k => spec_l14Op.f k l (i : Int)) ((b : Int), !serveB l i && ((nm b).toList != [])) := by
  unfold spec_l14Op.f
  have g1 : 0 ≤ (i : Int) := by omega
  have g2 : (i : Int) < (l.length : Int) := by omega
  simp only [g1, g2, if_true, serve_spec l hl i h, Option.bind_some, e]
  by_cases c : serveB l i = true
  · simp only [c, if_true, Bool.not_true, Bool.false_and]
    exact Ev.now _
  · have c' : serveB l i = false := by simpa using c
    simp only [c', Bool.false_eq_true, if_false, Bool.not_false, Bool.true_and]
    refine Ev.bind (name_ev hb) ?_
    exact Ev.now _
theorem spec_dep (l : L) (s : List Int) (hl : l.length ≤ 1048576) (hs : s.length ≤ 1048576) (hb : Bytes l) (hin : ∀ j, j < s.length → inB l s j = true) : ∀ (d j : Nat) (x : Int) (acc : List Int), j + d = s.length → acc.length = j → -(j : Int) ≤ x → x ≤ (j : Int) →
    Ev (fun k => spec_Depths.l0 k l s acc x (j : Int)) (acc ++ depL l s d j x)
  | 0, j, x, acc, h, ha, x0, x1 => by
    refine Ev.step (f := fun _ => some acc) (fun k => ?_) (by simpa [depL] using Ev.now acc)
    simp only [spec_Depths.l0]
    rw [if_neg (by omega)]
  | d + 1, j, x, acc, h, ha, x0, x1 => by
    obtain ⟨e1, e2⟩ := in_nat (hin j (by omega))
    have hr := deep_range l (rd s (j : Int)).toNat
    have ih := spec_dep l s hl hs hb hin d (j + 1) (x + deep l (rd s (j : Int)).toNat) (acc ++ [x]) (by omega) (by simp [ha]) (by omega) (by omega)
    have e : acc ++ depL l s (d + 1) j x = (acc ++ [x]) ++ depL l s d (j + 1) (x + deep l (rd s (j : Int)).toNat) := by rw [depL]; simp
    rw [e]
    generalize hi : (rd s (j : Int)).toNat = i at *
    obtain ⟨b, hb1, hb2⟩ := hb i e2
    have g1 : (j : Int) < (s.length : Int) := by omega
    have g2 : acc.length < 17592186044416 := by omega
    have g3 : 0 ≤ (j : Int) := by omega
    have w := w1 (i := j) (by omega)
    have wa : Go.RowKit.wrap64 (x + 1) = x + 1 := wrap_in (by clear w; omega) (by clear w; omega)
    have wb : Go.RowKit.wrap64 (x - 1) = x - 1 := wrap_in (by clear w wa; omega) (by clear w wa; omega)
    refine Ev.step (f := fun k => (spec_l14Op.f k l (i : Int)).bind fun bt183 => ((spec_NameOf.f k bt183.1).bind fun t185 => ((spec_l14Serve.f l (i : Int)).bind fun t187 => (if t187 = true then (spec_Depths.j1 k l s (acc ++ [x]) x (j : Int) bt183.2 t185 true) else (if bt183.2 = true then (if t185.toList = ([74, 83, 82] : List UInt8) then (spec_Depths.j1 k l s (acc ++ [x]) x (j : Int) bt183.2 t185 true) else (spec_Depths.j1 k l s (acc ++ [x]) x (j : Int) bt183.2 t185 (t185.toList == ([66, 82, 75] : List UInt8)))) else (spec_Depths.j1 k l s (acc ++ [x]) x (j : Int) bt183.2 t185 false)))))) (fun k => ?_) (Ev.bind (spec_op l hl i e2 b hb1 hb2) (Ev.bind (name_ev hb1) ?_))
    · simp only [spec_Depths.l0, g1, g2, g3, if_true, Option.bind_some, e1]
    · simp only [serve_spec l hl i e2, Option.bind_some]
      have up : ∀ ok, deep l i = 1 → Ev (fun k => spec_Depths.j1 k l s (acc ++ [x]) x (j : Int) ok (nm b) true) (acc ++ [x] ++ depL l s d (j + 1) (x + deep l i)) := fun ok hd => by
        rw [hd] at ih ⊢
        refine Ev.step (fun k => ?_) ih
        simp only [spec_Depths.j1, if_true, wa, w]
      have hdeep : serveB l i = false → deep l i = deepN b := fun c => by
        unfold deep
        rw [if_neg (by rw [c]; simp), hb2, Int.toNat_natCast]
      by_cases c : serveB l i = true
      · simp only [c, if_true]
        exact up _ (by unfold deep; rw [if_pos c])
      · have c' : serveB l i = false := by simpa using c
        have hd := hdeep c'
        simp only [c', Bool.false_eq_true, if_false, Bool.not_false, Bool.true_and]
        by_cases n0 : (nm b).toList = []
        · have hz : deep l i = 0 := by rw [hd]; unfold deepN; rw [n0]; simp
          rw [hz] at ih ⊢
          rw [Int.add_zero] at ih ⊢
          simp only [n0, bne_self_eq_false, Bool.false_eq_true, if_false]
          refine Ev.step (fun k => ?_) ih
          simp only [spec_Depths.j1, Bool.false_eq_true, if_false, w]
        · have nb : ((nm b).toList != []) = true := bne_iff_ne.mpr n0
          simp only [nb, if_true]
          by_cases n1 : (nm b).toList = [74, 83, 82]
          · simp only [n1, if_true]
            exact up _ (by rw [hd]; unfold deepN; rw [if_pos n1])
          · simp only [n1, if_false]
            by_cases n2 : (nm b).toList = [66, 82, 75]
            · simp only [n2, beq_self_eq_true]
              exact up _ (by rw [hd]; unfold deepN; rw [if_neg n1, if_pos n2])
            · have b2 : ((nm b).toList == [66, 82, 75]) = false := beq_eq_false_iff_ne.mpr n2
              simp only [b2]
              by_cases n3 : (nm b).toList = [82, 84, 83]
              · have hz : deep l i = -1 := by rw [hd]; unfold deepN; rw [if_neg n1, if_neg n2, if_pos n3]
                rw [hz] at ih ⊢
                refine Ev.step (fun k => ?_) ih
                simp only [spec_Depths.j1, Bool.false_eq_true, if_false, if_true, n3, wb, w]
                rfl
              · by_cases n4 : (nm b).toList = [82, 84, 73]
                · have hz : deep l i = -1 := by rw [hd]; unfold deepN; rw [if_neg n1, if_neg n2, if_neg n3, if_pos n4]
                  rw [hz] at ih ⊢
                  refine Ev.step (fun k => ?_) ih
                  simp only [spec_Depths.j1, Bool.false_eq_true, if_false, if_true, n3, n4, wb, w]
                  rfl
                · have hz : deep l i = 0 := by rw [hd]; unfold deepN; rw [if_neg n1, if_neg n2, if_neg n3, if_neg n4]
                  rw [hz] at ih ⊢
                  rw [Int.add_zero] at ih ⊢
                  refine Ev.step (fun k => ?_) ih
                  simp only [spec_Depths.j1, Bool.false_eq_true, if_false, if_true, n3, n4, w]
end Go.Proofs.YtnoelppkcbelcaaGreatDoor.MDS
