/- A region that draws its order, in which a call and a new variable stand side by side: either may come first. No program in sight. -/
import Derived.Test.YtdhngjjfoddnkaaGreatDoorGA

namespace Go.Proofs.YtdhngjjfoddnkaaGreatDoor
open Go Go.RowKit
set_option linter.unusedVariables false
set_option linter.unusedSimpArgs false
section
variable {P : Program} {ops : Array Oper} {Q : Exit → Act → World → Prop} {a : Act} {w W : World} {B : Nat}
theorem held_call_alloc {fuel : Nat} {listed : Array Bool} {oi oj : Oper} (i j : Nat) (f : FuncId) (args : Array Value) (v : Value) (ty : TypeId) (z : List Value) (hi : ops[i]? = some oi) (hj : ops[j]? = some oj) (hij : i ≠ j)
    (hr : Region.ready .any ops listed = [i, j]) (hri : Region.ready .any ops (listed.setIfInBounds i true) = [j]) (hrj : Region.ready .any ops (listed.setIfInBounds j true) = [i]) (hgi : oi.guard = none) (hgj : oj.guard = none)
    (he0 : ∀ w', (execOp a.eval oi).run P w' = .ok (.enter f args) w') (he1 : ∀ p w', (execOp (a.put oj.dst p).eval oi).run P w' = .ok (.enter f args) w')
    (hal : ∀ a' : Act, ∀ w', (execOp a'.eval oj).run P w' = .ok (.value (.pointer (some ⟨w'.heap.size, 0, none⟩))) (w'.alloc (.cells z.toArray ty)))
    (hc : ∀ w', Below B W w' → Calls P f args w' fun e w'' => e = .returned v ∧ Below w'.heap.size w' w'') (hB : B ≤ w.heap.size) (hS : Below B W w)
    (hcm : ∀ p, (a.put oi.dst v).put oj.dst p = (a.put oj.dst p).put oi.dst v)
    (h : ∀ b w', Below B W w' → B ≤ b → Blk w' b ty z → wpAnyH P .any ops Q (fun w' => Below B W w') fuel ((listed.setIfInBounds i true).setIfInBounds j true) ((a.put oi.dst v).put oj.dst (.pointer (some ⟨b, 0, none⟩))) w') :
    wpAnyH P .any ops Q (fun w' => Below B W w') (fuel + 1 + 1) listed a w := by
  have hwi : ∀ y, Region.wanted oi y = true := fun y => by simp [Region.wanted, hgi]
  have hwj : ∀ y, Region.wanted oj y = true := fun y => by simp [Region.wanted, hgj]
  refine wpAnyH_all hr (by simp) fun k hk => ?_
  simp only [List.mem_cons, List.not_mem_nil, or_false] at hk
  rcases hk with rfl | rfl
  · refine wpOp_step hi fun K' hK => ?_
    rw [if_pos (hwi _)]
    unfold Oper.wp
    rw [he0, Oper.upon_enter]
    refine (hc w hS).mono ?_
    rintro e w1 ⟨rfl, hb1⟩
    have hS1 := hS.trans (hb1.mono hB)
    have hz1 := hb1.size
    refine hK _ _ ⟨hS1, ?_⟩
    refine wpAnyH_all hri (by simp) fun k hk => ?_
    obtain rfl := List.mem_singleton.1 hk
    refine wpOp_step hj fun K2 hK2 => ?_
    rw [if_pos (hwj _)]
    unfold Oper.wp
    rw [hal, Oper.upon_value]
    have hS2 := hS1.alloc (show B ≤ w1.heap.size by omega) (.cells z.toArray ty)
    exact hK2 _ _ ⟨hS2, h _ _ hS2 (by omega) (Blk.new w1 ty z)⟩
  · refine wpOp_step hj fun K' hK => ?_
    rw [if_pos (hwj _)]
    unfold Oper.wp
    rw [hal, Oper.upon_value]
    have hS1 := hS.alloc hB (.cells z.toArray ty)
    refine hK _ _ ⟨hS1, ?_⟩
    refine wpAnyH_all hrj (by simp) fun k hk => ?_
    obtain rfl := List.mem_singleton.1 hk
    refine wpOp_step hi fun K2 hK2 => ?_
    rw [if_pos (hwi _)]
    unfold Oper.wp
    rw [he1, Oper.upon_enter]
    refine (hc _ hS1).mono ?_
    rintro e w2 ⟨rfl, hb2⟩
    have hS2 := hS1.trans (hb2.mono (by simp; omega))
    refine hK2 _ _ ⟨hS2, ?_⟩
    have := h _ _ hS2 hB ((Blk.new w ty z).next hb2)
    rw [hcm] at this
    rwa [Array.setIfInBounds_comm true true hij] at this
end
end Go.Proofs.YtdhngjjfoddnkaaGreatDoor
