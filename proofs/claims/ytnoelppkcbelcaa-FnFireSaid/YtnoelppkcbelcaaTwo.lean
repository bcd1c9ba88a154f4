/-
A region at whose end two stores into two different blocks may come up in either order: what follows is shown once.
-/
import Derived.Test.YtnoelppkcbelcaaWAll
set_option linter.unusedSimpArgs false
set_option linter.unusedVariables false
namespace Go.Proofs.Ytnoelppkcbelcaa.Two
open Go.RowKit Go.Proofs.YtnoelppkcbelcaaW.PrintWords Go.Proofs.YtnoelppkcbelcaaW.PrintLast

theorem modify_comm {α : Type} (a : Array α) (i j : Nat) (f g : α → α) (h : i ≠ j) : (a.modify i f).modify j g = (a.modify j g).modify i f := by
  apply Array.ext
  · simp
  · intro k h1 h2
    simp only [Array.getElem_modify]
    by_cases h3 : j = k
    · subst h3
      simp [h]
    · by_cases h4 : i = k
      · subst h4
        simp [h3]
      · simp [h3, h4]
theorem setCell_comm (w : World) (A B : Addr) (u v : Value) (h : A.block ≠ B.block) : (w.setCell A u).setCell B v = (w.setCell B v).setCell A u := by
  unfold World.setCell
  simp only
  rw [modify_comm _ _ _ _ _ h]

theorem far_ {w : World} {p a : Addr} {u : Value} {x : Option Value} (h : a.block ≠ p.block) (hx : w.cell? a = x) : (w.setCell p u).cell? a = x := (cell_far h u).trans hx
theorem bt_atN (s : ByteArray) (n : Nat) (i : Int) (e : i.toNat = n) : ∀ h : n < s.size, ((s[n]'h).toNat : Int) = bt s i := by
  subst e
  exact bt_at s i
theorem conv_same {P : Program} {ops : Array Oper} {Q : Exit → Act → World → Prop} {o : Oper} {rest : List Oper} {a : Act} {W : World} (hgd : o.guard = none) {src dst : TypeId} {x : Operand} (ho : o.op = .convert src dst x) {v : Value} (hx : a.eval x = v)
    (hrun : (convert src dst v).run P W = .ok v W) (h : wpList P ops Q rest (a.put o.dst v) W) : wpList P ops Q (o :: rest) a W := by
  have hr : (execOp a.eval o).run P W = .ok (.value v) W := by
    unfold execOp
    rw [ho]
    simp [hx, hrun]
  exact Kd.event_run hgd hr h
section
variable {P : Program} {md : Region.Mode} {ops : Array Oper} {Q : Exit → Act → World → Prop} {S : World → Prop}
theorem two_stores_ {i j : Nat} {oi oj : Oper} {fuel : Nat} {l : Array Bool} {a : Act} {w : World} (A B : Addr) (va vb : Value) (li lj lz : Array Bool) (hi : ops[i]? = some oi) (hj : ops[j]? = some oj) (hNi : oi.dst = none) (hNj : oj.dst = none)
    (hc : (Region.ready md ops l == [i, j] && l.setIfInBounds i true == li && l.setIfInBounds j true == lj) = true)
    (hci : (readyB md ops li lz j && (Region.ready md ops lz == [])) = true) (hcj : readyB md ops lj lz i = true)
    (hwi : Region.wanted oi (yielded ops a.tmps) = true) (hwj : Region.wanted oj (yielded ops a.tmps) = true)
    (hi1 : (execOp a.eval oi).run P w = .ok .skip (w.setCell A va)) (hj1 : (execOp a.eval oj).run P w = .ok .skip (w.setCell B vb))
    (hj2 : (execOp a.eval oj).run P (w.setCell A va) = .ok .skip ((w.setCell A va).setCell B vb)) (hi2 : (execOp a.eval oi).run P (w.setCell B vb) = .ok .skip ((w.setCell B vb).setCell A va))
    (hne : A.block ≠ B.block) (hS1 : S (w.setCell A va)) (hS2 : S (w.setCell B vb)) (hS3 : S ((w.setCell A va).setCell B vb))
    (h : Q .normal a ((w.setCell A va).setCell B vb)) : wpAnyLast P md ops Q S [] (fuel + 1 + 1) l a w := by
  have he := setCell_comm w A B va vb hne
  have hz : (Region.ready md ops lz == []) = true := by
    simp only [Bool.and_eq_true] at hci
    exact hci.2
  have hci1 : readyB md ops li lz j = true := by
    simp only [Bool.and_eq_true] at hci
    exact hci.1
  refine two_ (i := i) (j := j) (Ni := none) (Nj := none) li lj hi hj hNi hNj hc (by simp) (by simp) (fun K hK => ?_) (fun K hK => ?_)
  · refine skip_ hwi hNi hi1 (hK.out _ _ hS1 fun _ => ?_)
    refine one_ (i := j) (N := none) lz hj hNj hci1 (by simp) (fun K2 hK2 => ?_)
    exact skip_ hwj hNj hj2 (hK2.out _ _ hS3 fun _ => done_ hz h)
  · refine skip_ hwj hNj hj1 (hK.out _ _ hS2 fun _ => ?_)
    refine one_ (i := i) (N := none) lz hi hNi hcj (by simp) (fun K2 hK2 => ?_)
    exact skip_ hwi hNi hi2 (hK2.out _ _ (by rw [← he]; exact hS3) fun _ => done_ hz (by rw [← he]; exact h))
/-- The first of the two must come ahead of the second. -/
theorem seq_stores_ {i j : Nat} {oi oj : Oper} {fuel : Nat} {l : Array Bool} {a : Act} {w : World} (A B : Addr) (va vb : Value) (li lz : Array Bool) (hi : ops[i]? = some oi) (hj : ops[j]? = some oj) (hNi : oi.dst = none) (hNj : oj.dst = none)
    (hc : readyB md ops l li i = true)
    (hci : (readyB md ops li lz j && (Region.ready md ops lz == [])) = true)
    (hwi : Region.wanted oi (yielded ops a.tmps) = true) (hwj : Region.wanted oj (yielded ops a.tmps) = true)
    (hi1 : (execOp a.eval oi).run P w = .ok .skip (w.setCell A va))
    (hj2 : (execOp a.eval oj).run P (w.setCell A va) = .ok .skip ((w.setCell A va).setCell B vb))
    (hS1 : S (w.setCell A va)) (hS3 : S ((w.setCell A va).setCell B vb))
    (h : Q .normal a ((w.setCell A va).setCell B vb)) : wpAnyLast P md ops Q S [] (fuel + 1 + 1) l a w := by
  have hz : (Region.ready md ops lz == []) = true := by
    simp only [Bool.and_eq_true] at hci
    exact hci.2
  have hci1 : readyB md ops li lz j = true := by
    simp only [Bool.and_eq_true] at hci
    exact hci.1
  refine one_ (i := i) (N := none) li hi hNi hc (by simp) (fun K hK => ?_)
  refine skip_ hwi hNi hi1 (hK.out _ _ hS1 fun _ => ?_)
  refine one_ (i := j) (N := none) lz hj hNj hci1 (by simp) (fun K2 hK2 => ?_)
  exact skip_ hwj hNj hj2 (hK2.out _ _ hS3 fun _ => done_ hz h)
/-- A call of a function value that lies in a slot, in a plain region. -/
theorem gate_calleeT {rest : List Oper} {o : Oper} {a : Act} {W : World} {t : Tmp} {as : Array Operand} {ts : Array TypeId} (_ho : o.op = .call { callee := .value (.tmp t), args := as, argTypes := ts }) (h : wpList P ops Q (o :: rest) a W) : wpList P ops Q (o :: rest) a W := h
theorem goesT_ {rest : List Oper} {oi : Oper} {a : Act} {w : World} {t : Tmp} (N : Option Tmp) (hd : oi.dst = N) (hg : oi.guard = none) {f : FuncId} {fn : Func} {as : Array Operand} {ts : Array TypeId} (hf : P.funcs[f]? = some fn) (hname : (fn.name == "runtime.NumGoroutine") = false) (hb : fn.body.isSome = true) (args : Array Value)
    (hop : oi.op = .call { callee := .value (.tmp t), args := as, argTypes := ts }) (hargs : as.map a.eval = args) (hev : a.eval (.tmp t) = .func (.func f) #[] #[])
    (h : Calls P f args w fun e w' => ∃ v, e = .returned v ∧ wpList P ops Q rest (a.put N v) w') : wpList P ops Q (oi :: rest) a w := by
  refine wpList_plain hg fun K hK => ?_
  have he := enters_ hf hname hb args w
  have hrun : (execOp a.eval oi).run P w = .ok (.enter f args) w := by
    unfold execOp
    simp [hop, resolve, Deferred.ofValue, invoke, hev, hargs, he]
  unfold Oper.wp
  rw [hrun, Oper.upon_enter]
  refine h.mono fun e w'' hh => ?_
  obtain ⟨v, rfl, hk⟩ := hh
  subst hd
  exact hK _ _ hk
end
end Go.Proofs.Ytnoelppkcbelcaa.Two
