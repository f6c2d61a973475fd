/- Contracts: a rubbing wears once, and until few dots are left, by both. -/
import Derived.Test.YtkfjelbcaolepaaRubX
import Derived.Test.YtkfjelbcaolepaaBase2
namespace Go.Proofs.Ytkfjelbcaolepaa
open Go Go.RowKit

/-- What WearOnce returns: the rubbing, the code. -/
def wearOut (r : List Nat) (need : Int) : List Nat × Int := if inB 0 8 need then (wearR r need, 0) else (zR, 2)
theorem wearOut_yes {r : List Nat} {need : Int} (h : inB 0 8 need = true) : wearOut r need = (wearR r need, 0) := by simp [wearOut, h]
theorem wearOut_no {r : List Nat} {need : Int} (h : inB 0 8 need = false) : wearOut r need = (zR, 2) := by simp [wearOut, h]
theorem wearOut_length (r : List Nat) (need : Int) : (wearOut r need).1.length = 8 := by
  cases hm : inB 0 8 need
  · rw [wearOut_no hm]; exact zR_length
  · rw [wearOut_yes hm]; exact wearR_length r need
theorem l07Need_any (n : Int) (w : World) : Calls Try.prog 66 #[.int .i64 n] w fun e w' => e = .returned (.bool (inB 0 8 n)) ∧ w = w' := by
  go_enter Try.func66, Try.ntmps66
  go_wp2_with (go_at_call 72; refine (in_any _ _ _ _).mono ?_; rintro e w' ⟨rfl, rfl⟩)
  go_ret
  exact ⟨rfl, rfl⟩

set_option maxRecDepth 100000 in
theorem wearOnce_spec (r : List Nat) (need : Int) (w : World) (hr : r.length = 8) :
    Calls Try.prog 38 #[.agg (R16 r), .int .i64 need] w fun e w' => e = .returned (.tuple #[.agg (R16 (wearOut r need).1), .int .i64 (wearOut r need).2]) ∧ Below w.heap.size w w' := by
  cases hm : inB 0 8 need
  · have HO := Lib.hid (wearOut_no (r := r) hm)
    go_enter Try.func38, Try.ntmps38
    go_wp2_with (go_at_call 66; refine (l07Need_any _ _).mono ?_; rintro e w' ⟨rfl, rfl⟩)
    rw [HO.out]
    exact bodyPost_ret (v := .tuple #[.agg (R16 zR), .int .i64 2]) (results_row_tmp rfl _ _ _ 25 (R16 zR) _ _ _ rfl rfl (Blk.at_new _ _ (w.heap.size + 1) (by simp) 25 (zR.map Go.Proofs.Ytkfjelbcaolepaa.u16) rfl) Try.underlying25 rfl szRub) rfl ⟨rfl, below_two _ _ _⟩
  · have HO := Lib.hid (wearOut_yes (r := r) hm)
    have bx := inB_iff.1 hm
    have hl : (wearR r need).length = 8 := gridR_length _
    have hk : Blk ((w.alloc (.cells (R16 r) 25)).alloc (.cells (zR.map Go.Proofs.Ytkfjelbcaolepaa.u16).toArray 25)) w.heap.size 25 (r.map u16) := (Blk.new w _ _).alloc _
    have hz : Blk ((w.alloc (.cells (R16 r) 25)).alloc (.cells (zR.map Go.Proofs.Ytkfjelbcaolepaa.u16).toArray 25)) (w.heap.size + 1) 25 (zR.map u16) := Blk.at_new _ _ _ (by simp) _ _ rfl
    have hB := below_two w (.cells (R16 r) 25) (.cells (zR.map Go.Proofs.Ytkfjelbcaolepaa.u16).toArray 25)
    go_enter Try.func38, Try.ntmps38
    go_wp2_with (first
      | (go_at_call 66; refine (l07Need_any _ _).mono ?_; rintro e w' ⟨rfl, rfl⟩)
      | (go_at_call 67; refine (l07Wear_any _ r need _ hr hk.row).mono ?_; rintro e w1 ⟨rfl, hb⟩; have hz := hz.next hb; have hB := below_step hB hb; clear hb)
      | (refine wpList_store_row rfl 25 _ _ rfl _ (R16 (wearR r need)) rfl rfl 25 _ hz (by rw [R16_size, hl]; exact szRub) (by rw [R16_size, hl]; rfl) (one_u16 _) ?_))
    rw [HO.out]
    exact bodyPost_ret (v := .tuple #[.agg (R16 (wearR r need)), .int .i64 0]) (results_row_tmp rfl _ _ _ 25 (R16 (wearR r need)) _ _ _ rfl rfl (hz.setRow_same ((wearR r need).map Go.Proofs.Ytkfjelbcaolepaa.u16)) Try.underlying25 rfl (by rw [R16_size, hl]; exact szRub)) rfl ⟨rfl, below_setRow hB _ _ (by omega)⟩

set_option maxRecDepth 100000 in
theorem wearOnce_impl (r : List Nat) (need : Int) (w : World) (hr : r.length = 8) (hx : ∀ k, rdN r k < 65536) :
    Calls Try.prog 39 #[.agg (R16 r), .int .i64 need] w fun e w' => e = .returned (.tuple #[.agg (R16 (wearOut r need).1), .int .i64 (wearOut r need).2]) ∧ Below w.heap.size w w' := by
  cases hm : inB 0 8 need
  · have HO := Lib.hid (wearOut_no (r := r) hm)
    go_enter Try.func39, Try.ntmps39
    go_wp2_with (go_at_call 68; refine (within_any _ _ _ _).mono ?_; rintro e w' ⟨rfl, rfl⟩)
    rw [HO.out]
    exact bodyPost_ret (v := .tuple #[.agg (R16 zR), .int .i64 2]) (results_row_tmp rfl _ _ _ 25 (R16 zR) _ _ _ rfl rfl (Blk.at_new _ _ (w.heap.size + 1) (by simp) 25 (zR.map Go.Proofs.Ytkfjelbcaolepaa.u16) rfl) Try.underlying25 rfl szRub) rfl ⟨rfl, below_two _ _ _⟩
  · have HO := Lib.hid (wearOut_yes (r := r) hm)
    have bx := inB_iff.1 hm
    have hl : (wearR r need).length = 8 := gridR_length _
    have hk : Blk ((w.alloc (.cells (R16 r) 25)).alloc (.cells (zR.map Go.Proofs.Ytkfjelbcaolepaa.u16).toArray 25)) w.heap.size 25 (r.map u16) := (Blk.new w _ _).alloc _
    have hz : Blk ((w.alloc (.cells (R16 r) 25)).alloc (.cells (zR.map Go.Proofs.Ytkfjelbcaolepaa.u16).toArray 25)) (w.heap.size + 1) 25 (zR.map u16) := Blk.at_new _ _ _ (by simp) _ _ rfl
    have hB := below_two w (.cells (R16 r) 25) (.cells (zR.map Go.Proofs.Ytkfjelbcaolepaa.u16).toArray 25)
    go_enter Try.func39, Try.ntmps39
    go_wp2_with (first
      | (go_at_call 68; refine (within_any _ _ _ _).mono ?_; rintro e w' ⟨rfl, rfl⟩)
      | (refine wpList_load_row rfl 25 _ rfl _ rfl 25 (R16 r) _ _ hk Try.underlying25 rfl (by rw [R16_size, hr]; exact szRub) ?_)
      | (go_at_call 69; refine (worn_any r need _ hr hx bx).mono ?_; rintro e w1 ⟨rfl, hb⟩; have hz := hz.next hb; have hB := below_step hB hb; clear hb)
      | (refine wpList_store_row rfl 25 _ _ rfl _ (R16 (wearR r need)) rfl rfl 25 _ hz (by rw [R16_size, hl]; exact szRub) (by rw [R16_size, hl]; rfl) (one_u16 _) ?_))
    rw [HO.out]
    exact bodyPost_ret (v := .tuple #[.agg (R16 (wearR r need)), .int .i64 0]) (results_row_tmp rfl _ _ _ 25 (R16 (wearR r need)) _ _ _ rfl rfl (hz.setRow_same ((wearR r need).map Go.Proofs.Ytkfjelbcaolepaa.u16)) Try.underlying25 rfl (by rw [R16_size, hl]; exact szRub)) rfl ⟨rfl, below_setRow hB _ _ (by omega)⟩
end Go.Proofs.Ytkfjelbcaolepaa
