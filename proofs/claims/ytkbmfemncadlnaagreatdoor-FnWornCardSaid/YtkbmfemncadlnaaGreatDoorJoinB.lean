/- Contracts: slices of rubbings are copied and compared; dots dark in many, by the program; JoinRubbings and SureDark, by both. -/
import Derived.Test.YtkbmfemncadlnaaGreatDoorJoinA
import Derived.Test.YtkbmfemncadlnaaGreatDoorGM
namespace Go.Proofs.YtkbmfemncadlnaaGreatDoor
open Go Go.RowKit
set_option linter.unusedVariables false
set_option linter.unusedSimpArgs false

theorem rangeAt_next {w w' : World} {g o : Nat} {cs : List Value} (h : w.rangeAt g o cs) (hb : Below w.heap.size w w') : w'.rangeAt g o cs := fun j v hv => by
  rw [hb.cell (World.block_lt_of_cell? w _ (h j v hv))]; exact h j v hv
theorem there_next {w w' : World} {g o n : Nat} (h : w.there g o n) (hb : Below w.heap.size w w') : w'.there g o n := fun j hj => by
  obtain ⟨h1, h2⟩ := h j hj
  obtain ⟨u, hu⟩ := Option.isSome_iff_exists.1 h1
  have hlt := World.block_lt_of_cell? w _ hu
  exact ⟨by rw [hb.cell hlt]; exact h1, by rw [World.frozen?_of_block (hb.block _ hlt)]; exact h2⟩
theorem there_own {w : World} {base : Nat} {e : TypeId} {g n c : Nat} {xs : List Value} (h : w.ownsRow base e 8 (.slice (some ⟨g, 0, none⟩) n c) n xs) : w.there g 0 (n * 8) := by
  obtain ⟨hl, h⟩ := h
  rcases h with ⟨h1, _⟩ | ⟨g', cap, cur, h1, hg, hh, hc, hm, hs, ht⟩
  · cases h1
  · cases h1
    intro j hj
    refine ⟨?_, frozen_of_row w g _ _ e hh⟩
    rw [cell_of_row w g _ _ _ _ hh, Array.getElem?_eq_getElem (by rw [hs]; omega)]; rfl

theorem infoRub : (Tryz.prog.info? 26).map (fun i => (i.zero, i.size, i.bytes)) = some (some (.agg (List.replicate 8 z16).toArray), 8, 16) := by kernel_rfl

structure Copy8Rel (g n : Nat) (rs : List (List Nat)) (w wr : World) (j : Nat) : Prop where
  there : wr.there g 0 (n * 8)
  done : ∀ i, i < j → wr.rangeAt g (i * 8) ((rdR rs i).map u16)
  below : Below w.heap.size w wr
def Copy8Out (w : World) (rs : List (List Nat)) (n : Nat) (e : Ending) (w' : World) : Prop :=
  ∃ g, e = .returned (.slice (some ⟨g, 0, none⟩) n n) ∧ w.heap.size ≤ g ∧ Sl8 w' (some ⟨g, 0, none⟩) rs ∧ Below w.heap.size w w'
theorem sl8_of {w : World} {g : Nat} {rs : List (List Nat)} (h : ∀ i, i < rs.length → w.rangeAt g (i * 8) ((rdR rs i).map u16)) : Sl8 w (some ⟨g, 0, none⟩) rs := by
  intro i r hr
  have hi : i < rs.length := (List.getElem?_eq_some_iff.1 hr).1
  have e : rdR rs i = r := by simp [rdR, List.getD, hr]
  refine ⟨_, rfl, fun j x hx => ?_⟩
  rw [Addr.add_mid, Addr.add_mid, Nat.zero_add]
  exact h i hi j (u16 x) (by rw [e, List.getElem?_map, hx]; rfl)

set_option maxRecDepth 100000 in
theorem run_index8 (p : Addr) (n c k : Nat) (hk : k < n) (w : World) : (Instr.indexAt 35 (.slice (some p) n c) (.int .i64 (k : Int))).run Tryz.prog w = .ok (.pointer (some (p.add (k * 8)))) w := by
  obtain ⟨i, hi⟩ : ∃ i, Tryz.prog.info? (Tryz.prog.elem 35) = some i := Option.isSome_iff_exists.1 (by kernel_rfl)
  rw [run_indexAt_slice w 35 p n c .i64 _ Tryz.underlying35, if_pos (by omega), run_sizeOf w hi, show Tryz.prog.cellsOf (Tryz.prog.elem 35) = 8 by kernel_rfl]
  simp
theorem exec_index8 {o : Oper} {a : Act} {w : World} (x y : Operand) (ho : o.op = .indexAddr 35 x y) (p : Addr) (n c k : Nat) (hx : a.eval x = .slice (some p) n c) (hy : a.eval y = .int .i64 (k : Int)) (hk : k < n) :
    (execOp a.eval o).run Tryz.prog w = .ok (.value (.pointer (some (p.add (k * 8))))) w := by
  unfold execOp
  simp only [ho, hx, hy, Sem.run_bind, Sem.run_pure, run_index8 p n c k hk w, Result.andThen_ok]

end Go.Proofs.YtkbmfemncadlnaaGreatDoor
