/- Contracts: a rubbing's text is read, by the reference. -/
import Derived.Test.YtkfjelbcaolepaaReadQ
namespace Go.Proofs.Ytkfjelbcaolepaa
open Go Go.RowKit

/-- The dots that the lines tell. -/
def lineP (s : ByteArray) (y x : Nat) : Bool := rdB (rdS (linesF s) y) x == 35
/-- The first y lines, and k bytes of line y, are as they should be. -/
structure PfxOk (s : ByteArray) (y k : Nat) : Prop where
  size : ∀ j, j < y → (rdS (linesF s) j).size = 16
  dot : ∀ j, j < y → ∀ x, x < 16 → rdB (rdS (linesF s) j) x = 35 ∨ rdB (rdS (linesF s) j) x = 46
  row : ∀ x, x < k → rdB (rdS (linesF s) y) x = 35 ∨ rdB (rdS (linesF s) y) x = 46
theorem PfxOk.start (s : ByteArray) : PfxOk s 0 0 := ⟨fun j hj => by omega, fun j hj => by omega, fun x hx => by omega⟩
theorem PfxOk.dotOn {s : ByteArray} {y k : Nat} (h : PfxOk s y k) (hd : rdB (rdS (linesF s) y) k = 35 ∨ rdB (rdS (linesF s) y) k = 46) : PfxOk s y (k + 1) :=
  ⟨h.size, h.dot, fun x hx => by
    rcases Nat.lt_succ_iff_lt_or_eq.1 hx with h1 | rfl
    · exact h.row x h1
    · exact hd⟩
theorem PfxOk.rowOn {s : ByteArray} {y : Nat} (h : PfxOk s y 16) (hs : (rdS (linesF s) y).size = 16) : PfxOk s (y + 1) 0 :=
  ⟨fun j hj => by
    rcases Nat.lt_succ_iff_lt_or_eq.1 hj with h1 | rfl
    · exact h.size j h1
    · exact hs, fun j hj x hx => by
    rcases Nat.lt_succ_iff_lt_or_eq.1 hj with h1 | rfl
    · exact h.dot j h1 x hx
    · exact h.row x hx, fun x hx => by omega⟩
theorem pfx_all {s : ByteArray} (h9 : (linesF s).length = 9) (h0 : (rdS (linesF s) 8).size = 0) (h : PfxOk s 8 0) : readOut s = (readR s, 0) ∧ gridR (lineP s) = readR s := by
  obtain ⟨hg, hb⟩ := good_of_lines (s := s) ⟨h9, h0, h.size, h.dot⟩
  refine ⟨readOut_yes hg, ?_⟩
  unfold gridR readR
  refine List.map_congr_left fun y hy => ?_
  have hy := List.mem_range.1 hy
  refine eq_of_bits (bitsN_lt _ 16) (bitsN_lt _ 16) fun x hx => ?_
  rw [testBit_bitsN, testBit_bitsN]
  congr 1
  unfold lineP markP
  rw [hb y hy x hx, decide_eq_true (by rw [hg.size]; omega), Bool.true_and]

structure RdRel (s : ByteArray) (w w1 wr : World) (y k : Nat) : Prop where
  res : Blk wr w.heap.size 25 (zR'.map u16)
  out : Blk wr w1.heap.size 25 ((partR (lineP s) y k).map u16)
  low : Below w1.heap.size w1 wr
  pfx : PfxOk s y k

set_option maxHeartbeats 2000000 in
set_option maxRecDepth 100000 in
theorem readRub_spec (s : ByteArray) (w : World) (hs : s.size ≤ 1048576) :
    Calls Try.prog 31 #[.string s] w fun e w' => e = .returned (.tuple #[.agg (R16 (readOut s).1), .int .i64 (readOut s).2]) ∧ Below w.heap.size w w' := by
  have hz0 : Blk (w.alloc (.cells (zR'.map Go.Proofs.Ytkfjelbcaolepaa.u16).toArray 25)) w.heap.size 25 (zR'.map u16) := Blk.new w _ _
  have hB0 := below_one w (.cells (zR'.map Go.Proofs.Ytkfjelbcaolepaa.u16).toArray 25)
  go_enter Try.func31, Try.ntmps31
  go_wp2_with fail
  go_at_call 63
  refine (split_any s _ hs).mono ?_
  rintro e w1 ⟨v, rfl, ho, hb⟩
  obtain ⟨A, c, rfl, _, _, hsl⟩ := SlE_own ho
  have hz := hz0.next hb
  have hB := below_step hB0 hb
  clear hz0 hB0 hb ho
  by_cases h9 : (linesF s).length = 9
  · obtain ⟨a, rfl, hrow⟩ := hsl.some 8 (by omega)
    have hc8 := hrow.atS 8 (by omega)
    have hadd : a.add 8 = ⟨a.block, a.off + 8, none⟩ := rfl
    rw [hadd] at hc8
    clear hadd
    rw [h9]
    by_cases h0 : (rdS (linesF s) 8).size = 0
    · have he8 : rdS (linesF s) 8 = ⟨#[]⟩ := by
        have : (rdS (linesF s) 8).data = #[] := Array.eq_empty_of_size_eq_zero h0
        exact ByteArray.ext this
      have hne8 : ((rdS (linesF s) 8).toList == []) = true := by rw [he8, toList_data]; rfl
      have hne9 : ((rdS (linesF s) 8).toList != []) = false := by unfold bne; rw [hne8]; rfl
      have HROW := Lib.hid hrow
      have H9 := Lib.hid h9
      have H0 := Lib.hid h0
      clear hrow h9 h0 he8 hsl
      go_wp2
      go_loopw [6] (fun i wr => ∃ y : Nat, y ≤ 8 ∧ i = .int .i64 y ∧ RdRel s w w1 wr y 0) (fun i _ => 8 - (intOf i).toNat)
      case atStart =>
        refine ⟨0, by omega, rfl, hz.alloc _, ?_, below_one _ _, PfxOk.start s⟩
        rw [partR_start]
        exact Blk.at_new _ _ _ rfl _ _ rfl
      case round =>
        obtain ⟨y, hy, rfl, h⟩ := hrel
        by_cases hlt : y < 8
        · obtain ⟨wo, rfl⟩ : ∃ wo : World, wo = wr := ⟨_, rfl⟩
          have hd8 : decide ((y : Int) < 8) = true := by simp; omega
          have hcy := (HROW.out.next h.low).atS y (by rw [H9.out]; omega)
          by_cases h16 : (rdS (linesF s) y).size = 16
          · have hne : (((rdS (linesF s) y).size : Int) != 16) = false := by simp; omega
            have H16 := Lib.hid h16
            clear h16
            go_wp2
            clear hcy
            go_loopw [7] (fun i wr => ∃ k : Nat, k ≤ 16 ∧ i = .int .i64 k ∧ RdRel s w w1 wr y k) (fun i _ => 16 - (intOf i).toNat)
            case atStart => exact ⟨0, by omega, rfl, h⟩
            case round =>
              obtain ⟨k, hk, rfl, h⟩ := hrel
              by_cases hlk : k < 16
              · have hcy := (HROW.out.next h.low).atS y (by rw [H9.out]; omega)
                have hix := run_byte (rdS (linesF s) y) k (by rw [H16.out]; exact hlk)
                have hres := h.res
                have hlow := h.low
                by_cases h35 : rdB (rdS (linesF s) y) k = 35
                · have hb1 : (rdB (rdS (linesF s) y) k == 35) = true := by simpa using h35
                  have HP := Lib.hid (h.pfx.dotOn (.inl h35))
                  have HL := Lib.hid (show lineP s y k = true from hb1)
                  have hc3 := h.out.cell y _ (map_u16_at _ y (by rw [partR_length]; omega))
                  have hf3 := h.out.free y
                  have hor := or16p (rdN (partR (lineP s) y k) y) k (partR_lt _ y k hk y) hlk
                  have hwp := wrap16p k hlk
                  have hout := h.out
                  clear h35 h
                  go_wp2
                  go_roundw
                  case rel =>
                    refine ⟨k + 1, by omega, by go_num, hres.other _ _ (by simp; have := hz.lt; omega), ?_, hlow.setCell (Nat.le_refl _) _, HP.out⟩
                    rw [← partR_yes hlt HL.out, List.map_set]
                    exact hout.set y _
                  case measure => simp [intOf]; omega
                · have hb1 : (rdB (rdS (linesF s) y) k == 35) = false := by simpa using h35
                  by_cases h46 : rdB (rdS (linesF s) y) k = 46
                  · have hb2 : (rdB (rdS (linesF s) y) k == 46) = true := by simpa using h46
                    have HP := Lib.hid (h.pfx.dotOn (.inr h46))
                    have HL := Lib.hid (show lineP s y k = false from hb1)
                    have hout := h.out
                    clear h35 h46 h
                    go_wp2
                    go_roundw
                    case rel => exact ⟨k + 1, by omega, by go_num, hres, by rw [partR_no HL.out]; exact hout, hlow, HP.out⟩
                    case measure => simp [intOf]; omega
                  · have hb2 : (rdB (rdS (linesF s) y) k == 46) = false := by simpa using h46
                    have HO := Lib.hid (lines_bad (s := s) fun hl => by
                      rcases hl.dot y hlt k hlk with e | e
                      · exact h35 e
                      · exact h46 e)
                    have hbel := below_step hB h.low
                    clear h35 h46 h
                    go_wp2_with (refine wpList_store_row rfl 25 _ _ rfl _ (R16 zR') rfl rfl 25 _ hres (by kernel_rfl) (by rfl) (one_u16 _) ?_)
                    rw [HO.out]
                    exact bodyPost_ret (v := .tuple #[.agg (R16 zR'), .int .i64 5]) (results_row_tmp rfl _ _ _ 25 (R16 zR') _ _ _ rfl rfl (hres.setRow_same (zR'.map Go.Proofs.Ytkfjelbcaolepaa.u16)) Try.underlying25 rfl szRub) rfl ⟨rfl, below_setRow hbel _ _ (Nat.le_refl _)⟩
              · obtain rfl : k = 16 := by omega
                go_wp2
                go_roundw
                case rel => exact ⟨y + 1, by omega, by go_num, h.res, by rw [← partR_row]; exact h.out, h.low, h.pfx.rowOn H16.out⟩
                case measure => simp [intOf]; omega
          · have hne : (((rdS (linesF s) y).size : Int) != 16) = true := by simp; omega
            have HO := Lib.hid (lines_bad (s := s) fun hl => h16 (hl.size y hlt))
            have hres := h.res
            have hbel := below_step hB h.low
            clear h16 h
            go_wp2_with (refine wpList_store_row rfl 25 _ _ rfl _ (R16 zR') rfl rfl 25 _ hres (by kernel_rfl) (by rfl) (one_u16 _) ?_)
            rw [HO.out]
            exact bodyPost_ret (v := .tuple #[.agg (R16 zR'), .int .i64 5]) (results_row_tmp rfl _ _ _ 25 (R16 zR') _ _ _ rfl rfl (hres.setRow_same (zR'.map Go.Proofs.Ytkfjelbcaolepaa.u16)) Try.underlying25 rfl szRub) rfl ⟨rfl, below_setRow hbel _ _ (Nat.le_refl _)⟩
        · obtain rfl : y = 8 := by omega
          obtain ⟨ho1, ho2⟩ := pfx_all H9.out H0.out h.pfx
          have HO := Lib.hid ho1
          have hout := h.out
          rw [partR_all, ho2] at hout
          have hres := h.res
          have hbel := below_step hB h.low
          have hrl := readR_length s
          clear ho1 ho2 h
          go_wp2_with (first
            | (refine wpList_load_row rfl 25 _ rfl _ rfl 25 (R16 (readR s)) _ _ hout Try.underlying25 rfl (by rw [R16_size, hrl]; exact szRub) ?_)
            | (refine wpList_store_row rfl 25 _ _ rfl _ (R16 (readR s)) rfl rfl 25 _ hres (by rw [R16_size, hrl]; exact szRub) (by rw [R16_size, hrl]; rfl) (one_u16 _) ?_))
          rw [HO.out]
          exact bodyPost_ret (v := .tuple #[.agg (R16 (readR s)), .int .i64 0]) (results_row_tmp rfl _ _ _ 25 (R16 (readR s)) _ _ _ rfl rfl (hres.setRow_same ((readR s).map Go.Proofs.Ytkfjelbcaolepaa.u16)) Try.underlying25 rfl (by rw [R16_size, hrl]; exact szRub)) rfl ⟨rfl, below_setRow hbel _ _ (Nat.le_refl _)⟩
    · have HO := Lib.hid (lines_bad (s := s) fun hl => h0 hl.last)
      have hne8 : ((rdS (linesF s) 8).toList == []) = false := by
        cases hq : ((rdS (linesF s) 8).toList == [])
        · rfl
        · exfalso
          have h1 := eq_of_beq hq
          rw [toList_data] at h1
          apply h0
          show (rdS (linesF s) 8).data.size = 0
          rw [← Array.length_toList, h1]; rfl
      have hne9 : ((rdS (linesF s) 8).toList != []) = true := by unfold bne; rw [hne8]; rfl
      clear h0 hrow h9 hsl
      go_wp2_with (refine wpList_store_row rfl 25 _ _ rfl _ (R16 zR') rfl rfl 25 _ hz (by kernel_rfl) (by rfl) (one_u16 _) ?_)
      rw [HO.out]
      exact bodyPost_ret (v := .tuple #[.agg (R16 zR'), .int .i64 5]) (results_row_tmp rfl _ _ _ 25 (R16 zR') _ _ _ rfl rfl (hz.setRow_same (zR'.map Go.Proofs.Ytkfjelbcaolepaa.u16)) Try.underlying25 rfl szRub) rfl ⟨rfl, below_setRow hB _ _ (Nat.le_refl _)⟩
  · have HO := Lib.hid (lines_bad (s := s) fun hl => h9 hl.len)
    have hne : (((linesF s).length : Int) != 9) = true := by simp; omega
    clear h9 hsl
    go_wp2_with (refine wpList_store_row rfl 25 _ _ rfl _ (R16 zR') rfl rfl 25 _ hz (by kernel_rfl) (by rfl) (one_u16 _) ?_)
    rw [HO.out]
    exact bodyPost_ret (v := .tuple #[.agg (R16 zR'), .int .i64 5]) (results_row_tmp rfl _ _ _ 25 (R16 zR') _ _ _ rfl rfl (hz.setRow_same (zR'.map Go.Proofs.Ytkfjelbcaolepaa.u16)) Try.underlying25 rfl szRub) rfl ⟨rfl, below_setRow hB _ _ (Nat.le_refl _)⟩
end Go.Proofs.Ytkfjelbcaolepaa
