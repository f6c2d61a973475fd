/- A region that draws its order, some of whose operations make memory of which their results tell: walked operation by operation. No program in sight. -/
import Derived.Test.YtjgflkoefimmoaaDoorBase
import Derived.OrdersHeld
import Derived.RegionTactic
namespace Go.Proofs.YtjgflkoefimmoaaDoor
open Go Go.RowKit
set_option linter.unusedVariables false
set_option linter.unusedSimpArgs false
section
variable {P : Program} {ops : Array Oper} {Q : Exit → Act → World → Prop} {a : Act} {w W : World} {B : Nat}
theorem held_begin {id : Nat} (B : Nat) (hm : P.follows .mixedOrders = true) (h : wpAnyH P .any ops Q (fun w' => Below B w w') ops.size (Array.replicate ops.size false) a w.drew) : (Code.region id ops true).wp P Q a w :=
  wp_region_held hm h
theorem held_take {fuel : Nat} {listed : Array Bool} {oi : Oper} (i : Nat) (v : Value) (hi : ops[i]? = some oi) (hs : Region.noSelect ops = true) (hf : Region.free .any ops listed i = true) (hr : (Region.ready .any ops listed).contains i = true)
    (hQ : ∀ c a w, Q (.panic c) (a.put oi.dst v) w → Q (.panic c) a w) (hw : Region.wanted oi (yielded ops a.tmps) = true) (hv : ∀ w', Below B W w' → (execOp a.eval oi).run P w' = .ok (.value v) w') (hS : Below B W w)
    (h : wpAnyH P .any ops Q (fun w' => Below B W w') fuel (listed.setIfInBounds i true) (a.put oi.dst v) w) : wpAnyH P .any ops Q (fun w' => Below B W w') (fuel + 1) listed a w :=
  wpAnyH_take hi hs hf hr hQ (.inl ⟨hw, hv⟩) hS h
theorem held_call {fuel : Nat} {listed : Array Bool} {oi : Oper} (i : Nat) (f : FuncId) (args : Array Value) (hi : ops[i]? = some oi) (hr : Region.ready .any ops listed = [i]) (hw : Region.wanted oi (yielded ops a.tmps) = true)
    (he : (execOp a.eval oi).run P w = .ok (.enter f args) w)
    (hc : Calls P f args w fun e w' => ∃ v, e = .returned v ∧ Below B W w' ∧ wpAnyH P .any ops Q (fun w' => Below B W w') fuel (listed.setIfInBounds i true) (a.put oi.dst v) w') : wpAnyH P .any ops Q (fun w' => Below B W w') (fuel + 1) listed a w := by
  refine wpAnyH_all hr (by simp) fun j hj => ?_
  obtain rfl := List.mem_singleton.1 hj
  refine wpOp_step hi fun K' hK => ?_
  rw [if_pos hw]
  unfold Oper.wp
  rw [he, Oper.upon_enter]
  refine hc.mono ?_
  rintro e w' ⟨v, rfl, h1, h2⟩
  exact hK _ _ ⟨h1, h2⟩
theorem held_val {fuel : Nat} {listed : Array Bool} {oi : Oper} (i : Nat) (v : Value) (w1 : World) (hi : ops[i]? = some oi) (hr : Region.ready .any ops listed = [i]) (hw : Region.wanted oi (yielded ops a.tmps) = true)
    (he : (execOp a.eval oi).run P w = .ok (.value v) w1) (hS : Below B W w1)
    (h : wpAnyH P .any ops Q (fun w' => Below B W w') fuel (listed.setIfInBounds i true) (a.put oi.dst v) w1) : wpAnyH P .any ops Q (fun w' => Below B W w') (fuel + 1) listed a w := by
  refine wpAnyH_all hr (by simp) fun j hj => ?_
  obtain rfl := List.mem_singleton.1 hj
  refine wpOp_step hi fun K' hK => ?_
  rw [if_pos hw]
  unfold Oper.wp
  rw [he, Oper.upon_value]
  exact hK _ _ ⟨hS, h⟩
theorem held_done {fuel : Nat} {listed : Array Bool} {S : World → Prop} (hr : Region.ready .any ops listed = []) (h : Q .normal a w) : wpAnyH P .any ops Q S fuel listed a w := wpAnyH_done hr h fuel

/-- 'append(xs, u)', u in the block that was made last. -/
theorem held_app1 {fuel : Nat} {listed : Array Bool} {oi : Oper} (i : Nat) (s x : Operand) (t : TypeId) (hi : ops[i]? = some oi) (hr : Region.ready .any ops listed = [i]) (hw : Region.wanted oi (yielded ops a.tmps) = true)
    (ho : oi.op = .call { callee := .builtin .append, args := #[s, x], argTypes := #[t, t] }) {e : TypeId} {z : Value} {bytes : Nat} (E : El P t e z 1 bytes)
    (w0 : World) (base : Nat) (v : Value) (n : Nat) (xs : List Value) (hs : a.eval s = v) (hown : w0.ownsRow base e 1 v n xs) (u : Value) (hx : a.eval x = .slice (some ⟨w0.heap.size, 0, none⟩) 1 1)
    (h1 : u.oneCell' = true) (hn : n + 1 ≤ maxLen) (hbytes : (n + 1) * bytes ≤ 140737488355328) (hbase : base ≤ w0.heap.size) (hB : B ≤ base) (hS : Below B W w0)
    (h : ∀ v' w', w'.ownsRow base e 1 v' (n + 1) (xs ++ [u]) → w0.grownBy w' v.ownBlock → Below B W w' → wpAnyH P .any ops Q (fun w' => Below B W w') fuel (listed.setIfInBounds i true) (a.put oi.dst v') w') :
    wpAnyH P .any ops Q (fun w' => Below B W w') (fuel + 1) listed a (w0.alloc (.cells #[u] e)) := by
  obtain ⟨ie, hie, hz, hsz, hby⟩ := info_parts E.info
  obtain ⟨v', w', hrun, r1, r2, _⟩ := run_append_own (P := P) (w0.alloc (.cells #[u] e)) base t oi.type e ie z 1 bytes E.under hie hz hsz hby E.cells (by omega) v n xs (hown.alloc _) ⟨w0.heap.size, 0, none⟩ 1 1 [u] rfl (cell_one_new _ _ _) (fun y hy => by simp at hy; subst hy; exact h1) hn hbytes (by simp; omega)
  have hg := grownBy_trans (World.grownBy_alloc w0 _ _) r2
  have hS' : Below B W w' := below_own hS hown hg hB (by omega)
  refine wpAnyH_all hr (by simp) fun j hj => ?_
  obtain rfl := List.mem_singleton.1 hj
  refine wpOp_step hi fun K' hK => ?_
  rw [if_pos hw]
  unfold Oper.wp
  simp [execOp, ho, resolve, invoke, builtin, hs, hx, hrun, Result.andThen]
  exact hK _ _ ⟨hS', h v' w' r1 hg hS'⟩
end
end Go.Proofs.YtjgflkoefimmoaaDoor
