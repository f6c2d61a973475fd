/- Contracts: a face is measured and copied. -/
import Derived.Test.YtjgflkoefimmoaaDoorFcM
namespace Go.Proofs.YtjgflkoefimmoaaDoor
open Go Go.RowKit
set_option linter.unusedVariables false
set_option linter.unusedSimpArgs false

theorem szFace_any (f : Fc) (A : Option Addr) (n c : Nat) (left : Int) (w : World) (hf : FcT f) (hm : n ≤ maxLen) (hl : 0 ≤ left ∧ left ≤ 1048576) :
    Calls Tryd.prog 12 #[.agg (fcV f (.slice A n c)).toArray, .int .i64 left] w fun e w' => (∃ v : Int, e = .returned (.int .i64 v) ∧ v ≤ left ∧ (0 ≤ v → (n : Int) ≤ left)) ∧ Below w.heap.size w w' := by
  unfold maxLen at hm
  have hk := Blk.new w 26 (fcV f (.slice A n c))
  have hc := hk.cell 28 _ (fcV_pairs hf _)
  have hB := below_one w (.cells (fcV f (.slice A n c)).toArray 26)
  clear hk
  have hp : ∀ w : World, Calls Tryd.prog 38 #[.slice A n c, .int .i64 left] w fun e w' => (∃ v : Int, e = .returned (.int .i64 v) ∧ v ≤ left ∧ (0 ≤ v → (n : Int) ≤ left)) ∧ w = w' := by
    intro w
    by_cases h : left - (n : Int) < 0
    · go_enter Tryd.func38, Tryd.ntmps38
      go_wp2
      go_ret
      exact ⟨⟨-1, rfl, by omega, by omega⟩, rfl⟩
    · go_enter Tryd.func38, Tryd.ntmps38
      go_wp2
      go_ret
      exact ⟨⟨left - n, rfl, by omega, by omega⟩, rfl⟩
  have HP := Lib.hid hp
  clear hp
  go_enter Tryd.func12, Tryd.ntmps12
  go_wp2_with fail
  go_at_call 38
  refine (HP.out _).mono ?_
  rintro e w' ⟨⟨v, rfl, hv1, hv2⟩, rfl⟩
  have HV := Lib.hid hv2
  clear hv2
  by_cases hv : v < 0
  · go_wp2
    go_ret
    exact ⟨⟨-1, rfl, by omega, by omega⟩, hB⟩
  · go_wp2
    go_ret
    exact ⟨⟨v, rfl, by omega, HV.out⟩, hB⟩

set_option maxRecDepth 100000 in
theorem toPair_any (p : Pr) (w : World) :
    Calls Tryd.prog 77 #[.agg (prV p).toArray] w fun e w' => e = .returned (.agg (prV p).toArray) ∧ Below w.heap.size w w' := by
  obtain ⟨a, b, y⟩ := p
  have e : (prV ⟨a, b, y⟩).toArray = #[.int .u8 a, .int .u8 b, .int .i8 y] := rfl
  rw [e]
  go_enter Tryd.func77, Tryd.ntmps77
  go_wp2
  refine bodyPost_ret (v := .agg #[.int .u8 a, .int .u8 b, .int .i8 y]) (by simp [results, Tryd.results77, go_sem]) rfl ⟨rfl, ?_⟩
  repeat (first | exact below_three _ _ _ _ | (refine Below.setCell ?_ (by simp) _))

structure ToI8Rel (r : List Int) (w wr : World) (k : Nat) : Prop where
  arg : Blk wr w.heap.size 23 (r.map i8v)
  res : Blk wr (w.heap.size + 1) 23 (List.replicate 26 (.int .i8 0))
  out : Blk wr (w.heap.size + 1 + 1) 23 (filled (r.map i8v) (.int .i8 0) k)
  below : Below w.heap.size w wr
theorem map_i8_at (r : List Int) (i : Nat) (hi : i < r.length) : (r.map i8v)[i]? = some (.int .i8 (rdI r i)) := by
  simp [List.getElem?_map, List.getElem?_eq_getElem hi, i8v, rdI]

set_option maxRecDepth 100000 in
theorem toI8_any (r : List Int) (w : World) (hr : r.length = 26) :
    Calls Tryd.prog 43 #[.agg (r.map i8v).toArray] w fun e w' => e = .returned (.agg (r.map i8v).toArray) ∧ Below w.heap.size w w' := by
  have hsz : (r.map i8v).toArray.size = 26 := by simp [hr]
  go_enter Tryd.func43, Tryd.ntmps43
  go_wp2
  go_loopw [4] (fun i wr => ∃ k : Nat, k ≤ 26 ∧ i = .int .i64 k ∧ ToI8Rel r w wr k) (fun i _ => 26 - (intOf i).toNat)
  case atStart =>
    refine ⟨0, by omega, rfl, ?_, ?_, ?_, ?_⟩
    · exact ((Blk.new w _ _).alloc _).alloc _
    · exact (Blk.at_new _ _ _ (by simp) _ _ rfl).alloc _
    · rw [filled_zero, List.length_map, hr]
      exact Blk.at_new _ _ _ (by simp) _ _ rfl
    · exact (((Below.refl _ _).alloc (Nat.le_refl _) _).alloc (by simp) _).alloc (by simp; omega) _
  case round =>
    obtain ⟨k, hk, rfl, h⟩ := hrel
    by_cases hlt : k < 26
    · have hc1 := h.arg.cell k _ (map_i8_at r k (by omega))
      have hc3 := h.out.cell k _ (filled_at _ _ k (by simp; omega))
      have hf3 := h.out.free k
      go_wp2
      go_roundw
      case rel =>
        refine ⟨k + 1, by omega, by go_num, h.arg.other _ _ (by simp; omega), h.res.other _ _ (by simp), ?_, h.below.setCell (by simp; omega) _⟩
        have := h.out.set k (.int .i8 (rdI r k))
        rwa [filled_set _ _ _ _ (map_i8_at r k (by omega))] at this
      case measure => simp [intOf]; omega
    · obtain rfl : k = 26 := by omega
      have hout : Blk wr (w.heap.size + 1 + 1) 23 (r.map i8v) := by
        have := h.out
        rwa [show 26 = (r.map i8v).length by simp [hr], filled_all] at this
      go_wp2_with (first
        | (refine wpList_load_row rfl 23 _ rfl _ rfl 23 (r.map i8v).toArray _ _ hout Tryd.underlying23 rfl (by rw [hsz]; exact sz26) ?_)
        | (refine wpList_store_row rfl 23 _ _ rfl _ (r.map i8v).toArray rfl rfl 23 _ h.res (by rw [hsz]; exact sz26) (by rw [hsz]; rfl) (one_i8 r) ?_))
      exact bodyPost_ret (v := .agg (r.map i8v).toArray) (results_cell_row rfl _ _ _ 23 (r.map i8v).toArray _ _ rfl (h.res.setRow_same (r.map i8v)) Tryd.underlying23 rfl (by rw [hsz]; exact sz26)) rfl ⟨rfl, below_setRow h.below _ _ (by omega)⟩
end Go.Proofs.YtjgflkoefimmoaaDoor
