/- Contracts: a rubbing by value is copied; two are compared. -/
import Derived.Test.YtgmlhnmjeelajaaRubA

namespace Go.Proofs.Ytgmlhnmjeelajaa
open Go Go.RowKit
set_option linter.unusedVariables false
set_option linter.unusedSimpArgs false

/-- A rubbing's cells. -/
def R16 (r : List Nat) : Array Value := (r.map u16).toArray
theorem R16_size (r : List Nat) : (R16 r).size = r.length := by simp [R16]

theorem szRub : (Try.prog.info? 26).map (·.size) = some 8 := by kernel_rfl
theorem szArr8 : (Try.prog.info? 25).map (·.size) = some 8 := by kernel_rfl

theorem one_u16 (r : List Nat) : (R16 r).all (·.oneCell') = true := by
  rw [Array.all_eq_true_iff_forall_mem]
  intro v hv
  simp only [R16, List.mem_toArray, List.mem_map] at hv
  obtain ⟨n, _, rfl⟩ := hv
  rfl
def z16 : Value := .int .u16 0

structure ToRubRel (r : List Nat) (w wr : World) (k : Nat) : Prop where
  arg : Blk wr w.heap.size 25 (r.map u16)
  res : Blk wr (w.heap.size + 1) 26 (List.replicate 8 z16)
  out : Blk wr (w.heap.size + 1 + 1) 26 (filled (r.map u16) z16 k)
  below : Below w.heap.size w wr

theorem rub_at (r : List Nat) (hr : r.length = 8) (k : Nat) (hk : k < 8) (w : World) : (Instr.index 26 (.agg (R16 r)) (.int .i64 (k : Int))).run Try.prog w = .ok (.int .u16 ((rdN r k : Nat) : Int)) w :=
  run_index_arr (e := 24) (n := 8) Try.underlying26 (by kernel_rfl) (by kernel_rfl) (R16 r) .i64 k hk _ (by have := map_u16_at r k (by omega); simpa [R16] using this) w

/-! ### Two rubbings are compared -/
theorem ext8 {a b : List Nat} (ha : a.length = 8) (hb : b.length = 8) (h : ∀ j, j < 8 → rdN a j = rdN b j) : a = b := by
  apply List.ext_getElem (by omega)
  intro i h1 h2
  have := h i (by omega)
  simpa [rdN, List.getD, List.getElem?_eq_getElem h1, List.getElem?_eq_getElem h2] using this

structure EqRubRel (a b : List Nat) (w wr : World) (k : Nat) : Prop where
  one : Blk wr w.heap.size 26 (a.map u16)
  two : Blk wr (w.heap.size + 1) 26 (b.map u16)
  same : ∀ j, j < k → rdN a j = rdN b j
  below : Below w.heap.size w wr

end Go.Proofs.Ytgmlhnmjeelajaa
