/- Contracts: a rubbing by value is copied; two are compared. -/
import Derived.Test.YtkfjelbcaolepaaRubA
namespace Go.Proofs.Ytkfjelbcaolepaa
open Go Go.RowKit

/-- A rubbing's cells. -/
def R16 (r : List Nat) : Array Value := (r.map u16).toArray
theorem R16_size (r : List Nat) : (R16 r).size = r.length := by simp [R16]

theorem szRub : (Try.prog.info? 25).map (·.size) = some 8 := by kernel_rfl
theorem szArr8 : (Try.prog.info? 23).map (·.size) = some 8 := by kernel_rfl

theorem one_u16 (r : List Nat) : (R16 r).all (·.oneCell') = true := by
  rw [Array.all_eq_true_iff_forall_mem]
  intro v hv
  simp only [R16, List.mem_toArray, List.mem_map] at hv
  obtain ⟨n, _, rfl⟩ := hv
  rfl
def z16 : Value := .int .u16 0

structure ToRubRel (r : List Nat) (w wr : World) (k : Nat) : Prop where
  arg : Blk wr w.heap.size 23 (r.map u16)
  res : Blk wr (w.heap.size + 1) 25 (List.replicate 8 z16)
  out : Blk wr (w.heap.size + 1 + 1) 25 (filled (r.map u16) z16 k)
  below : Below w.heap.size w wr

set_option maxRecDepth 100000 in
theorem toRub_any (r : List Nat) (w : World) (hr : r.length = 8) :
    Calls Try.prog 18 #[.agg (R16 r)] w fun e w' => e = .returned (.agg (R16 r)) ∧ Below w.heap.size w w' := by
  go_enter Try.func18, Try.ntmps18
  go_wp2
  go_loopw [4] (fun i wr => ∃ k : Nat, k ≤ 8 ∧ i = .int .i64 k ∧ ToRubRel r w wr k) (fun i _ => 8 - (intOf i).toNat)
  case atStart =>
    refine ⟨0, by omega, rfl, ?_, ?_, ?_, ?_⟩
    · exact ((Blk.new w _ _).alloc _).alloc _
    · exact (Blk.at_new _ _ _ (by simp) _ _ rfl).alloc _
    · rw [filled_zero, List.length_map, hr]
      exact Blk.at_new _ _ _ (by simp) _ _ rfl
    · exact (((Below.refl _ _).alloc (Nat.le_refl _) _).alloc (by simp) _).alloc (by simp; omega) _
  case round =>
    obtain ⟨k, hk, rfl, h⟩ := hrel
    by_cases hlt : k < 8
    · have hc1 := h.arg.cell k _ (map_u16_at r k (by omega))
      have hc3 := h.out.cell k _ (filled_at _ _ k (by simp; omega))
      have hf3 := h.out.free k
      go_wp2
      go_roundw
      case rel =>
        refine ⟨k + 1, by omega, by go_num, h.arg.other _ _ (by simp; omega), h.res.other _ _ (by simp), ?_, h.below.setCell (by simp; omega) _⟩
        have := h.out.set k (.int .u16 ((rdN r k : Nat) : Int))
        rwa [filled_set _ _ _ _ (map_u16_at r k (by omega))] at this
      case measure => simp [intOf]; omega
    · obtain rfl : k = 8 := by omega
      have hout : Blk wr (w.heap.size + 1 + 1) 25 (r.map u16) := by
        have := h.out
        rwa [show 8 = (r.map u16).length by simp [hr], filled_all] at this
      go_wp2_with (first
        | (refine wpList_load_row rfl 25 _ rfl _ rfl 25 (R16 r) _ _ hout Try.underlying25 rfl (by rw [R16_size, hr]; exact szRub) ?_)
        | (refine wpList_store_row rfl 25 _ _ rfl _ (R16 r) rfl rfl 25 _ h.res (by rw [R16_size, hr]; exact szRub) (by rw [R16_size, hr]; rfl) (one_u16 r) ?_))
      exact bodyPost_ret (v := .agg (R16 r)) (results_cell_row rfl _ _ _ 25 (R16 r) _ _ rfl (h.res.setRow_same (r.map u16)) Try.underlying25 rfl (by rw [R16_size, hr]; exact szRub)) rfl ⟨rfl, below_setRow h.below _ _ (by omega)⟩

theorem rub_at (r : List Nat) (hr : r.length = 8) (k : Nat) (hk : k < 8) (w : World) : (Instr.index 25 (.agg (R16 r)) (.int .i64 (k : Int))).run Try.prog w = .ok (.int .u16 ((rdN r k : Nat) : Int)) w :=
  run_index_arr (e := 22) (n := 8) Try.underlying25 (by kernel_rfl) (by kernel_rfl) (R16 r) .i64 k hk _ (by have := map_u16_at r k (by omega); simpa [R16] using this) w

/-! ### Two rubbings are compared -/
theorem ext8 {a b : List Nat} (ha : a.length = 8) (hb : b.length = 8) (h : ∀ j, j < 8 → rdN a j = rdN b j) : a = b := by
  apply List.ext_getElem (by omega)
  intro i h1 h2
  have := h i (by omega)
  simpa [rdN, List.getD, List.getElem?_eq_getElem h1, List.getElem?_eq_getElem h2] using this

structure EqRubRel (a b : List Nat) (w wr : World) (k : Nat) : Prop where
  one : Blk wr w.heap.size 25 (a.map u16)
  two : Blk wr (w.heap.size + 1) 25 (b.map u16)
  same : ∀ j, j < k → rdN a j = rdN b j
  below : Below w.heap.size w wr

set_option maxRecDepth 100000 in
theorem eqRub_any (a b : List Nat) (w : World) (ha : a.length = 8) (hb : b.length = 8) :
    Calls Try.prog 22 #[.agg (R16 a), .agg (R16 b)] w fun e w' => e = .returned (.bool (decide (a = b))) ∧ Below w.heap.size w w' := by
  go_enter Try.func22, Try.ntmps22
  go_wp2
  go_loopw [5] (fun i wr => ∃ k : Nat, k ≤ 8 ∧ i = .int .i64 k ∧ EqRubRel a b w wr k) (fun i _ => 8 - (intOf i).toNat)
  case atStart =>
    refine ⟨0, by omega, rfl, ?_, ?_, fun j hj => by omega, ?_⟩
    · exact (Blk.new w _ _).alloc _
    · exact Blk.at_new _ _ _ (by simp) _ _ rfl
    · exact ((Below.refl _ _).alloc (Nat.le_refl _) _).alloc (by simp) _
  case round =>
    obtain ⟨k, hk, rfl, h⟩ := hrel
    by_cases hlt : k < 8
    · have hc1 := h.one.cell k _ (map_u16_at a k (by omega))
      have hc2 := h.two.cell k _ (map_u16_at b k (by omega))
      by_cases heq : rdN a k = rdN b k
      · have he : (((rdN a k : Nat) : Int) != ((rdN b k : Nat) : Int)) = false := by simp [heq]
        have HE := Lib.hid heq
        clear heq
        go_wp2
        go_quiet (fail)
        go_wp2
        go_roundw
        case rel =>
          refine ⟨k + 1, by omega, by go_num, h.one.drewN _, h.two.drewN _, fun j hj => ?_, below_drewN h.below _⟩
          rcases Nat.lt_succ_iff_lt_or_eq.1 hj with h1 | rfl
          · exact h.same j h1
          · exact HE.out
        case measure => simp [intOf]; omega
      · have he : (((rdN a k : Nat) : Int) != ((rdN b k : Nat) : Int)) = true := by simp; omega
        have HN := Lib.hid heq
        clear heq
        go_wp2
        go_quiet (fail)
        go_wp2
        go_ret
        refine ⟨ret_bool (Eq.symm (decide_eq_false fun e => HN.out (by rw [e]))), below_drewN h.below _⟩
    · obtain rfl : k = 8 := by omega
      go_wp2
      go_ret
      exact ⟨ret_bool (Eq.symm (decide_eq_true (ext8 ha hb h.same))), h.below⟩
end Go.Proofs.Ytkfjelbcaolepaa
