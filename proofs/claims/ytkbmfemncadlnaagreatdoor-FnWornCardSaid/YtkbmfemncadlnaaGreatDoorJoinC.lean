/- Contracts: dots dark in many, by the program; JoinRubbings and SureDark, by both. -/
import Derived.Test.YtkbmfemncadlnaaGreatDoorJoinB
import Derived.BigRegion
namespace Go.Proofs.YtkbmfemncadlnaaGreatDoor
open Go Go.RowKit
set_option linter.unusedVariables false
set_option linter.unusedSimpArgs false

set_option maxHeartbeats 2000000 in
set_option maxRecDepth 100000 in
theorem inMany_any (A : Option Addr) (c : Nat) (rs : List (List Nat)) (n : Nat) (need : Int) (w : World) (hr : Rubs rs n) (hn : n ≤ 1048576) (h0 : Sl8 w A rs) :
    Calls Tryz.prog 42 #[.slice A n c, .int .i64 need] w fun e w' => e = .returned (.agg (R16 (sureR rs n need))) ∧ Below w.heap.size w w' := by
  have HM := Lib.hid (show gridR (sureP rs n need) = sureR rs n need from rfl)
  have HR := Lib.hid hr
  have H := Lib.hid h0
  clear hr h0
  go_enter Tryz.func42, Tryz.ntmps42
  go_wp2
  go_loopw [12] (fun i wr => ∃ y : Nat, y ≤ 8 ∧ i = .int .i64 y ∧ GridRel (sureP rs n need) w wr y 0) (fun i _ => 8 - (intOf i).toNat)
  case atStart =>
    refine ⟨0, by omega, rfl, (Blk.at_new _ _ _ rfl _ _ rfl).alloc _, ?_, below_two _ _ _⟩
    rw [partR_start]
    exact Blk.at_new _ _ _ (by simp) _ _ rfl
  case round =>
    obtain ⟨y, hy, rfl, h⟩ := hrel
    by_cases hlt : y < 8
    · obtain ⟨wo, rfl⟩ : ∃ wo : World, wo = wr := ⟨_, rfl⟩
      have hd8 : decide ((y : Int) < 8) = true := by simp; omega
      go_wp2
      go_loopw [15] (fun i wr => ∃ k : Nat, k ≤ 16 ∧ i = .int .i64 k ∧ GridRel (sureP rs n need) w wr y k) (fun i _ => 16 - (intOf i).toNat)
      case atStart => exact ⟨0, by omega, rfl, h⟩
      case round =>
        obtain ⟨k, hk, rfl, h⟩ := hrel
        by_cases hlk : k < 16
        · obtain ⟨wp, rfl⟩ : ∃ wp : World, wp = wr := ⟨_, rfl⟩
          have hd16 : decide ((k : Int) < 16) = true := by simp; omega
          go_wp2
          go_loopw [8, 20] (fun m i wr => ∃ j : Nat, j ≤ n ∧ i = .int .i64 j ∧ m = .int .i64 (inN rs y k j) ∧ GridRel (sureP rs n need) w wr y k) (fun _ i _ => n - (intOf i).toNat)
          case atStart => exact ⟨0, by omega, rfl, rfl, h⟩
          case round =>
            obtain ⟨j, hj, rfl, rfl, h⟩ := hrel
            have hcl : inN rs y k j ≤ j := cnt_le _ _
            by_cases hlj : j < n
            · obtain ⟨a, rfl, hrow⟩ := (H.out.next h.below).some j (by rw [HR.out.len]; omega)
              have hlen := (HR.out.rub j hlj).1
              have hlt16 := (HR.out.rub j hlj).2 y
              have hbv := bit_and' (rdN (rdR rs j) y) k hlt16
              have hdk : dk (rdR rs j) k y = (rdN (rdR rs j) y).testBit k := dk_in (rdR rs j) k y hlk hlt
              have hix : ∀ w' : World, (Instr.indexAt 35 (.slice (some a) n c) (.int .i64 (j : Int))).run Tryz.prog w' = .ok (.pointer (some (a.add (j * 8)))) w' := fun w' => run_index8 a n c j hlj w'
              have hres := h.res
              have hout := h.out
              have hbel := h.below
              cases hq : (rdN (rdR rs j) y).testBit k
              · rw [hq] at hbv hdk
                have HC := Lib.hid (show inN rs y k (j + 1) = inN rs y k j from cnt_no (p := fun i => dk (rdR rs i) k y) hdk)
                clear hdk hq h
                go_wp2_with (first
                  | (refine wpList_load8 rfl 26 _ rfl _ rfl (rdR rs j) _ hrow Tryz.underlying26 rfl (by rw [hlen]; exact szRub) ?_)
                  | (refine wpList_store_new rfl 26 _ _ rfl (R16 (rdR rs j)) rfl rfl 26 _ (by rw [R16_size, hlen]; exact szRub) (by rw [R16_size, hlen]; rfl) (one_u16 _) ?_; have hcell : (wr.alloc (.cells (R16 (rdR rs j)) 26)).cell? ⟨wr.heap.size, y, none⟩ = some (.int .u16 ((rdN (rdR rs j) y : Nat) : Int)) := (Blk.new wr 26 ((rdR rs j).map Go.Proofs.YtkbmfemncadlnaaGreatDoor.u16)).cell y _ (map_u16_at (rdR rs j) y (by omega)); have hres := hres.alloc (.cells (R16 (rdR rs j)) 26); have hout := hout.alloc (.cells (R16 (rdR rs j)) 26); have hbel := step_alloc hbel (.cells (R16 (rdR rs j)) 26)))
                go_roundw
                case rel => exact ⟨j + 1, by omega, by go_num, by rw [HC.out], hres, hout, hbel⟩
                case measure => simp [intOf]; omega
              · rw [hq] at hbv hdk
                have HC := Lib.hid (show inN rs y k (j + 1) = inN rs y k j + 1 from cnt_yes (p := fun i => dk (rdR rs i) k y) hdk)
                clear hdk hq h
                go_wp2_with (first
                  | (refine wpList_load8 rfl 26 _ rfl _ rfl (rdR rs j) _ hrow Tryz.underlying26 rfl (by rw [hlen]; exact szRub) ?_)
                  | (refine wpList_store_new rfl 26 _ _ rfl (R16 (rdR rs j)) rfl rfl 26 _ (by rw [R16_size, hlen]; exact szRub) (by rw [R16_size, hlen]; rfl) (one_u16 _) ?_; have hcell : (wr.alloc (.cells (R16 (rdR rs j)) 26)).cell? ⟨wr.heap.size, y, none⟩ = some (.int .u16 ((rdN (rdR rs j) y : Nat) : Int)) := (Blk.new wr 26 ((rdR rs j).map Go.Proofs.YtkbmfemncadlnaaGreatDoor.u16)).cell y _ (map_u16_at (rdR rs j) y (by omega)); have hres := hres.alloc (.cells (R16 (rdR rs j)) 26); have hout := hout.alloc (.cells (R16 (rdR rs j)) 26); have hbel := step_alloc hbel (.cells (R16 (rdR rs j)) 26)))
                go_roundw
                case rel => exact ⟨j + 1, by omega, by go_num, by rw [HC.out]; go_num, hres, hout, hbel⟩
                case measure => simp [intOf]; omega
            · obtain rfl : j = n := by omega
              by_cases hge : need ≤ (inN rs y k j : Int)
              · have HP := Lib.hid (show sureP rs j need y k = true from decide_eq_true hge)
                have hc3 := h.out.cell y _ (map_u16_at _ y (by rw [partR_length]; omega))
                have hf3 := h.out.free y
                have hor := or16p (rdN (partR (sureP rs j need) y k) y) k (partR_lt _ y k hk y) hlk
                have hwp := wrap16p k hlk
                go_wp2
                go_region
                go_wp2
                go_roundw
                case rel =>
                  refine ⟨k + 1, by omega, by go_num, (h.res.other _ _ (by simp)).drew, ?_, (h.below.setCell (by simp) _).drew⟩
                  rw [← partR_yes hlt HP.out, List.map_set]
                  exact (h.out.set y _).drew
                case measure => simp [intOf]; omega
              · have HP := Lib.hid (show sureP rs j need y k = false from decide_eq_false hge)
                go_wp2
                go_roundw
                case rel => exact ⟨k + 1, by omega, by go_num, h.res, by rw [partR_no HP.out]; exact h.out, h.below⟩
                case measure => simp [intOf]; omega
        · obtain rfl : k = 16 := by omega
          go_wp2
          go_roundw
          case rel => exact ⟨y + 1, by omega, by go_num, h.res, by rw [← partR_row]; exact h.out, h.below⟩
          case measure => simp [intOf]; omega
    · obtain rfl : y = 8 := by omega
      have hout := h.out
      rw [partR_all, HM.out] at hout
      have hl : (sureR rs n need).length = 8 := gridR_length _
      go_wp2_with (first
        | (refine wpList_load_row rfl 26 _ rfl _ rfl 26 (R16 (sureR rs n need)) _ _ hout Tryz.underlying26 rfl (by rw [R16_size, hl]; exact szRub) ?_)
        | (refine wpList_store_row rfl 26 _ _ rfl _ (R16 (sureR rs n need)) rfl rfl 26 _ h.res (by rw [R16_size, hl]; exact szRub) (by rw [R16_size, hl]; rfl) (one_u16 _) ?_))
      exact bodyPost_ret (v := .agg (R16 (sureR rs n need))) (results_cell_row rfl _ _ _ 26 (R16 (sureR rs n need)) _ _ rfl (h.res.setRow_same ((sureR rs n need).map Go.Proofs.YtkbmfemncadlnaaGreatDoor.u16)) Tryz.underlying26 rfl (by rw [R16_size, hl]; exact szRub)) rfl ⟨rfl, below_setRow h.below _ _ (by omega)⟩

theorem size_any (A : Option Addr) (c n : Nat) (w : World) : Calls Tryz.prog 44 #[.slice A n c] w fun e w' => e = .returned (.int .i64 n) ∧ w = w' := by
  go_enter Tryz.func44, Tryz.ntmps44
  go_wp2
  go_ret
  exact ⟨rfl, rfl⟩

/-- What JoinRubbings returns. -/
def joinOut (rs : List (List Nat)) (n : Nat) : List Nat × Int := if 8 < n then (zR, 3) else if n = 0 then (zR, 6) else (sureR rs n 1, 0)
theorem joinOut_many {rs : List (List Nat)} {n : Nat} (h : 8 < n) : joinOut rs n = (zR, 3) := if_pos h
theorem joinOut_none {rs : List (List Nat)} {n : Nat} (h : n = 0) : joinOut rs n = (zR, 6) := by subst h; rfl
theorem joinOut_ok {rs : List (List Nat)} {n : Nat} (h : ¬ 8 < n) (h0 : ¬ n = 0) : joinOut rs n = (sureR rs n 1, 0) := by unfold joinOut; rw [if_neg h, if_neg h0]
theorem joinOut_length (rs : List (List Nat)) (n : Nat) : (joinOut rs n).1.length = 8 := by
  unfold joinOut
  split
  · exact zR_length
  · split
    · exact zR_length
    · exact sureR_length _ _ _
/-- What SureDark returns. -/
def sureOut (rs : List (List Nat)) (n : Nat) (need : Int) : List Nat × Int := if 8 < n then (zR, 3) else if inB 1 n need then (sureR rs n need, 0) else (zR, 2)
theorem sureOut_many {rs : List (List Nat)} {n : Nat} {need : Int} (h : 8 < n) : sureOut rs n need = (zR, 3) := if_pos h
theorem sureOut_no {rs : List (List Nat)} {n : Nat} {need : Int} (h : ¬ 8 < n) (h0 : inB 1 n need = false) : sureOut rs n need = (zR, 2) := by unfold sureOut; rw [if_neg h, h0]; rfl
theorem sureOut_ok {rs : List (List Nat)} {n : Nat} {need : Int} (h : ¬ 8 < n) (h0 : inB 1 n need = true) : sureOut rs n need = (sureR rs n need, 0) := by unfold sureOut; rw [if_neg h, h0]; rfl
theorem sureOut_length (rs : List (List Nat)) (n : Nat) (need : Int) : (sureOut rs n need).1.length = 8 := by
  unfold sureOut
  split
  · exact zR_length
  · split
    · exact sureR_length _ _ _
    · exact zR_length

set_option maxRecDepth 100000 in
theorem joinR_spec (A : Option Addr) (c : Nat) (rs : List (List Nat)) (n : Nat) (w : World) (hr : Rubs rs n) (hn : n ≤ 1048576) (h : Sl8 w A rs) :
    Calls Tryz.prog 15 #[.slice A n c] w fun e w' => e = .returned (.tuple #[.agg (R16 (joinOut rs n).1), .int .i64 (joinOut rs n).2]) ∧ Below w.heap.size w w' := by
  by_cases h8 : (n : Int) > 8
  · have HO := Lib.hid (joinOut_many (rs := rs) (show 8 < n by omega))
    go_enter Tryz.func15, Tryz.ntmps15
    go_wp2
    rw [HO.out]
    exact bodyPost_ret (v := .tuple #[.agg (R16 zR), .int .i64 3]) (results_row_tmp rfl _ _ _ 26 (R16 zR) _ _ _ rfl rfl (Blk.new w 26 (zR.map Go.Proofs.YtkbmfemncadlnaaGreatDoor.u16)) Tryz.underlying26 rfl szRub) rfl ⟨rfl, below_one _ _⟩
  · by_cases h0 : n = 0
    · have HO := Lib.hid (joinOut_none (rs := rs) h0)
      have hn0 : ((n : Int) == 0) = true := by simp; omega
      clear h0
      go_enter Tryz.func15, Tryz.ntmps15
      go_wp2
      rw [HO.out]
      exact bodyPost_ret (v := .tuple #[.agg (R16 zR), .int .i64 6]) (results_row_tmp rfl _ _ _ 26 (R16 zR) _ _ _ rfl rfl (Blk.new w 26 (zR.map Go.Proofs.YtkbmfemncadlnaaGreatDoor.u16)) Tryz.underlying26 rfl szRub) rfl ⟨rfl, below_one _ _⟩
    · have HO := Lib.hid (joinOut_ok (rs := rs) (show ¬ 8 < n by omega) h0)
      have hn0 : ((n : Int) == 0) = false := by simp; omega
      have hl : (sureR rs n 1).length = 8 := gridR_length _
      have hz : Blk (w.alloc (.cells (zR.map Go.Proofs.YtkbmfemncadlnaaGreatDoor.u16).toArray 26)) w.heap.size 26 (zR.map u16) := Blk.new w _ _
      have hB := below_one w (.cells (zR.map Go.Proofs.YtkbmfemncadlnaaGreatDoor.u16).toArray 26)
      have hs : Sl8 (w.alloc (.cells (zR.map Go.Proofs.YtkbmfemncadlnaaGreatDoor.u16).toArray 26)) A rs := h.next hB
      go_enter Tryz.func15, Tryz.ntmps15
      go_wp2_with (first
        | (go_at_call 43; refine (l07Sure_any A c rs n 1 _ hr (by omega) hs).mono ?_; rintro e w1 ⟨rfl, hb⟩; have hz := hz.next hb; have hB := below_step hB hb; clear hb)
        | (refine wpList_store_row rfl 26 _ _ rfl _ (R16 (sureR rs n 1)) rfl rfl 26 _ hz (by rw [R16_size, hl]; exact szRub) (by rw [R16_size, hl]; rfl) (one_u16 _) ?_))
      rw [HO.out]
      exact bodyPost_ret (v := .tuple #[.agg (R16 (sureR rs n 1)), .int .i64 0]) (results_row_tmp rfl _ _ _ 26 (R16 (sureR rs n 1)) _ _ _ rfl rfl (hz.setRow_same ((sureR rs n 1).map Go.Proofs.YtkbmfemncadlnaaGreatDoor.u16)) Tryz.underlying26 rfl (by rw [R16_size, hl]; exact szRub)) rfl ⟨rfl, below_setRow hB _ _ (Nat.le_refl _)⟩

set_option maxRecDepth 100000 in
theorem sure_spec (A : Option Addr) (c : Nat) (rs : List (List Nat)) (n : Nat) (need : Int) (w : World) (hr : Rubs rs n) (hn : n ≤ 1048576) (h : Sl8 w A rs) :
    Calls Tryz.prog 17 #[.slice A n c, .int .i64 need] w fun e w' => e = .returned (.tuple #[.agg (R16 (sureOut rs n need).1), .int .i64 (sureOut rs n need).2]) ∧ Below w.heap.size w w' := by
  by_cases h8 : (n : Int) > 8
  · have HO := Lib.hid (sureOut_many (rs := rs) (need := need) (show 8 < n by omega))
    go_enter Tryz.func17, Tryz.ntmps17
    go_wp2
    rw [HO.out]
    exact bodyPost_ret (v := .tuple #[.agg (R16 zR), .int .i64 3]) (results_row_tmp rfl _ _ _ 26 (R16 zR) _ _ _ rfl rfl (Blk.new w 26 (zR.map Go.Proofs.YtkbmfemncadlnaaGreatDoor.u16)) Tryz.underlying26 rfl szRub) rfl ⟨rfl, below_one _ _⟩
  · cases h0 : inB 1 n need
    · have HO := Lib.hid (sureOut_no (rs := rs) (show ¬ 8 < n by omega) h0)
      have H0 := Lib.hid h0
      go_enter Tryz.func17, Tryz.ntmps17
      go_wp2_with (first | (go_at_call 45; refine (in_any _ _ _ _).mono ?_; rintro e w' ⟨rfl, rfl⟩))
      rw [HO.out]
      exact bodyPost_ret (v := .tuple #[.agg (R16 zR), .int .i64 2]) (results_row_tmp rfl _ _ _ 26 (R16 zR) _ _ _ rfl rfl (Blk.new w 26 (zR.map Go.Proofs.YtkbmfemncadlnaaGreatDoor.u16)) Tryz.underlying26 rfl szRub) rfl ⟨rfl, below_one _ _⟩
    · have HO := Lib.hid (sureOut_ok (rs := rs) (show ¬ 8 < n by omega) h0)
      have hl : (sureR rs n need).length = 8 := gridR_length _
      have hz : Blk (w.alloc (.cells (zR.map Go.Proofs.YtkbmfemncadlnaaGreatDoor.u16).toArray 26)) w.heap.size 26 (zR.map u16) := Blk.new w _ _
      have hB := below_one w (.cells (zR.map Go.Proofs.YtkbmfemncadlnaaGreatDoor.u16).toArray 26)
      have hs : Sl8 (w.alloc (.cells (zR.map Go.Proofs.YtkbmfemncadlnaaGreatDoor.u16).toArray 26)) A rs := h.next hB
      go_enter Tryz.func17, Tryz.ntmps17
      go_wp2_with (first
        | (go_at_call 45; refine (in_any _ _ _ _).mono ?_; rintro e w' ⟨rfl, rfl⟩)
        | (go_at_call 43; refine (l07Sure_any A c rs n need _ hr (by omega) hs).mono ?_; rintro e w1 ⟨rfl, hb⟩; have hz := hz.next hb; have hB := below_step hB hb; clear hb)
        | (refine wpList_store_row rfl 26 _ _ rfl _ (R16 (sureR rs n need)) rfl rfl 26 _ hz (by rw [R16_size, hl]; exact szRub) (by rw [R16_size, hl]; rfl) (one_u16 _) ?_))
      rw [HO.out]
      exact bodyPost_ret (v := .tuple #[.agg (R16 (sureR rs n need)), .int .i64 0]) (results_row_tmp rfl _ _ _ 26 (R16 (sureR rs n need)) _ _ _ rfl rfl (hz.setRow_same ((sureR rs n need).map Go.Proofs.YtkbmfemncadlnaaGreatDoor.u16)) Tryz.underlying26 rfl (by rw [R16_size, hl]; exact szRub)) rfl ⟨rfl, below_setRow hB _ _ (Nat.le_refl _)⟩

set_option maxRecDepth 100000 in
theorem joinR_impl (A : Option Addr) (c : Nat) (rs : List (List Nat)) (n : Nat) (w : World) (hr : Rubs rs n) (hn : n ≤ 1048576) (h : Sl8 w A rs) :
    Calls Tryz.prog 14 #[.slice A n c] w fun e w' => e = .returned (.tuple #[.agg (R16 (joinOut rs n).1), .int .i64 (joinOut rs n).2]) ∧ Below w.heap.size w w' := by
  by_cases h8 : (n : Int) > 8
  · have HO := Lib.hid (joinOut_many (rs := rs) (show 8 < n by omega))
    go_enter Tryz.func14, Tryz.ntmps14
    go_wp2
    rw [HO.out]
    exact bodyPost_ret (v := .tuple #[.agg (R16 zR), .int .i64 3]) (results_row_tmp rfl _ _ _ 26 (R16 zR) _ _ _ rfl rfl (Blk.new w 26 (zR.map Go.Proofs.YtkbmfemncadlnaaGreatDoor.u16)) Tryz.underlying26 rfl szRub) rfl ⟨rfl, below_one _ _⟩
  · by_cases h0 : n = 0
    · have HO := Lib.hid (joinOut_none (rs := rs) h0)
      have hn0 : ((n : Int) == 0) = true := by simp; omega
      clear h0
      go_enter Tryz.func14, Tryz.ntmps14
      go_wp2
      rw [HO.out]
      exact bodyPost_ret (v := .tuple #[.agg (R16 zR), .int .i64 6]) (results_row_tmp rfl _ _ _ 26 (R16 zR) _ _ _ rfl rfl (Blk.new w 26 (zR.map Go.Proofs.YtkbmfemncadlnaaGreatDoor.u16)) Tryz.underlying26 rfl szRub) rfl ⟨rfl, below_one _ _⟩
    · have HO := Lib.hid (joinOut_ok (rs := rs) (show ¬ 8 < n by omega) h0)
      have hn0 : ((n : Int) == 0) = false := by simp; omega
      have hl : (sureR rs n 1).length = 8 := gridR_length _
      have hz : Blk (w.alloc (.cells (zR.map Go.Proofs.YtkbmfemncadlnaaGreatDoor.u16).toArray 26)) w.heap.size 26 (zR.map u16) := Blk.new w _ _
      have hB := below_one w (.cells (zR.map Go.Proofs.YtkbmfemncadlnaaGreatDoor.u16).toArray 26)
      have hs : Sl8 (w.alloc (.cells (zR.map Go.Proofs.YtkbmfemncadlnaaGreatDoor.u16).toArray 26)) A rs := h.next hB
      go_enter Tryz.func14, Tryz.ntmps14
      go_wp2_with (first
        | (go_at_call 42; refine (inMany_any A c rs n 1 _ hr (by omega) hs).mono ?_; rintro e w1 ⟨rfl, hb⟩; have hz := hz.next hb; have hB := below_step hB hb; clear hb)
        | (refine wpList_store_row rfl 26 _ _ rfl _ (R16 (sureR rs n 1)) rfl rfl 26 _ hz (by rw [R16_size, hl]; exact szRub) (by rw [R16_size, hl]; rfl) (one_u16 _) ?_))
      rw [HO.out]
      exact bodyPost_ret (v := .tuple #[.agg (R16 (sureR rs n 1)), .int .i64 0]) (results_row_tmp rfl _ _ _ 26 (R16 (sureR rs n 1)) _ _ _ rfl rfl (hz.setRow_same ((sureR rs n 1).map Go.Proofs.YtkbmfemncadlnaaGreatDoor.u16)) Tryz.underlying26 rfl (by rw [R16_size, hl]; exact szRub)) rfl ⟨rfl, below_setRow hB _ _ (Nat.le_refl _)⟩

set_option maxRecDepth 100000 in
theorem sure_impl (A : Option Addr) (c : Nat) (rs : List (List Nat)) (n : Nat) (need : Int) (w : World) (hr : Rubs rs n) (hn : n ≤ 1048576) (h : Sl8 w A rs) :
    Calls Tryz.prog 16 #[.slice A n c, .int .i64 need] w fun e w' => e = .returned (.tuple #[.agg (R16 (sureOut rs n need).1), .int .i64 (sureOut rs n need).2]) ∧ Below w.heap.size w w' := by
  by_cases h8 : (n : Int) > 8
  · have HO := Lib.hid (sureOut_many (rs := rs) (need := need) (show 8 < n by omega))
    go_enter Tryz.func16, Tryz.ntmps16
    go_wp2
    rw [HO.out]
    exact bodyPost_ret (v := .tuple #[.agg (R16 zR), .int .i64 3]) (results_row_tmp rfl _ _ _ 26 (R16 zR) _ _ _ rfl rfl (Blk.new w 26 (zR.map Go.Proofs.YtkbmfemncadlnaaGreatDoor.u16)) Tryz.underlying26 rfl szRub) rfl ⟨rfl, below_one _ _⟩
  · cases h0 : inB 1 n need
    · have HO := Lib.hid (sureOut_no (rs := rs) (show ¬ 8 < n by omega) h0)
      have H0 := Lib.hid h0
      go_enter Tryz.func16, Tryz.ntmps16
      go_wp2_with (first | (go_at_call 34; refine (within_any _ _ _ _).mono ?_; rintro e w' ⟨rfl, rfl⟩) | (go_at_call 44; refine (size_any _ _ _ _).mono ?_; rintro e w' ⟨rfl, rfl⟩))
      rw [HO.out]
      exact bodyPost_ret (v := .tuple #[.agg (R16 zR), .int .i64 2]) (results_row_tmp rfl _ _ _ 26 (R16 zR) _ _ _ rfl rfl (Blk.new w 26 (zR.map Go.Proofs.YtkbmfemncadlnaaGreatDoor.u16)) Tryz.underlying26 rfl szRub) rfl ⟨rfl, below_one _ _⟩
    · have HO := Lib.hid (sureOut_ok (rs := rs) (show ¬ 8 < n by omega) h0)
      have hl : (sureR rs n need).length = 8 := gridR_length _
      have hz : Blk (w.alloc (.cells (zR.map Go.Proofs.YtkbmfemncadlnaaGreatDoor.u16).toArray 26)) w.heap.size 26 (zR.map u16) := Blk.new w _ _
      have hB := below_one w (.cells (zR.map Go.Proofs.YtkbmfemncadlnaaGreatDoor.u16).toArray 26)
      have hs : Sl8 (w.alloc (.cells (zR.map Go.Proofs.YtkbmfemncadlnaaGreatDoor.u16).toArray 26)) A rs := h.next hB
      go_enter Tryz.func16, Tryz.ntmps16
      go_wp2_with (first
        | (go_at_call 34; refine (within_any _ _ _ _).mono ?_; rintro e w' ⟨rfl, rfl⟩) | (go_at_call 44; refine (size_any _ _ _ _).mono ?_; rintro e w' ⟨rfl, rfl⟩)
        | (go_at_call 42; refine (inMany_any A c rs n need _ hr (by omega) hs).mono ?_; rintro e w1 ⟨rfl, hb⟩; have hz := hz.next hb; have hB := below_step hB hb; clear hb)
        | (refine wpList_store_row rfl 26 _ _ rfl _ (R16 (sureR rs n need)) rfl rfl 26 _ hz (by rw [R16_size, hl]; exact szRub) (by rw [R16_size, hl]; rfl) (one_u16 _) ?_))
      rw [HO.out]
      exact bodyPost_ret (v := .tuple #[.agg (R16 (sureR rs n need)), .int .i64 0]) (results_row_tmp rfl _ _ _ 26 (R16 (sureR rs n need)) _ _ _ rfl rfl (hz.setRow_same ((sureR rs n need).map Go.Proofs.YtkbmfemncadlnaaGreatDoor.u16)) Tryz.underlying26 rfl (by rw [R16_size, hl]; exact szRub)) rfl ⟨rfl, below_setRow hB _ _ (Nat.le_refl _)⟩

end Go.Proofs.YtkbmfemncadlnaaGreatDoor
