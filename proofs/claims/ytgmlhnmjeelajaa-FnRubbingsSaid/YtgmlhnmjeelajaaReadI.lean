/- Contracts: a rubbing's text is read, by the program. -/
import Derived.Test.YtgmlhnmjeelajaaReadP
import Derived.Test.YtgmlhnmjeelajaaRubG
import Derived.Test.YtgmlhnmjeelajaaGA
import Derived.BigRegion


namespace Go.Proofs.Ytgmlhnmjeelajaa
open Go Go.RowKit
set_option linter.unusedVariables false
set_option linter.unusedSimpArgs false

theorem run_byteI (s : ByteArray) (k : Nat) (hk : k < s.size) (w : World) : (Instr.index 9 (.string s) (.int .i64 (k : Int))).run Try.prog w = .ok (.int .u8 (rdB s k)) w := by
  rw [run_index_string w 9 s .i64 (k : Int) Try.underlying9, dif_pos (by omega)]
  congr 2
  unfold rdB
  have hk' : k < s.data.toList.length := by rw [Array.length_toList]; exact hk
  rw [List.getD, List.getElem?_eq_getElem hk']
  rfl

/-- What has been read after i bytes. -/
def markI (s : ByteArray) (i y x : Nat) : Bool := decide (17 * y + x < i) && (rdB s (17 * y + x) == 35)
def partI (s : ByteArray) (i : Nat) : List Nat := (List.range 8).map fun y => bitsN (markI s i y) 16
theorem partI_length (s : ByteArray) (i : Nat) : (partI s i).length = 8 := by simp [partI]
theorem rdN_partI (s : ByteArray) (i y : Nat) (hy : y < 8) : rdN (partI s i) y = bitsN (markI s i y) 16 := by
  simp [rdN, partI, List.getD, List.getElem?_map, List.getElem?_range hy]
theorem partI_lt (s : ByteArray) (i : Nat) : ∀ k, rdN (partI s i) k < 65536 := by
  intro k
  by_cases hk : k < 8
  · rw [rdN_partI s i k hk]; exact bitsN_lt _ 16
  · rw [rdN_past _ _ (by rw [partI_length]; omega)]; omega
theorem partI_start (s : ByteArray) : partI s 0 = List.replicate 8 0 := by
  refine ext8 (partI_length _ _) (by simp) fun y hy => ?_
  rw [rdN_partI s 0 y hy]
  have : rdN (List.replicate 8 0) y = 0 := by simp only [rdN, List.getD, List.getElem?_replicate]; split <;> rfl
  rw [this]
  exact eq_of_bits (k := 16) (bitsN_lt _ _) (by decide) fun x hx => by rw [testBit_bitsN]; simp [markI]
theorem partI_keep {s : ByteArray} {i : Nat} (h : (rdB s i == 35) = false ∨ i % 17 = 16) : partI s (i + 1) = partI s i := by
  unfold partI
  refine List.map_congr_left fun y _ => ?_
  refine eq_of_bits (k := 16) (bitsN_lt _ _) (bitsN_lt _ _) fun x hx => ?_
  rw [testBit_bitsN, testBit_bitsN]
  congr 1
  unfold markI
  by_cases e : 17 * y + x = i
  · rcases h with h | h
    · rw [e, h, Bool.and_false, Bool.and_false]
    · omega
  · by_cases h1 : 17 * y + x < i
    · rw [decide_eq_true h1, decide_eq_true (by omega)]
    · rw [decide_eq_false h1, decide_eq_false (by omega)]
theorem partI_take {s : ByteArray} {i : Nat} (hi : i < 136) (h : (rdB s i == 35) = true) (hx : i % 17 < 16) : (partI s i).set (i / 17) (rdN (partI s i) (i / 17) ||| 2 ^ (i % 17)) = partI s (i + 1) := by
  have hy : i / 17 < 8 := by omega
  refine ext8 (by simp [partI]) (partI_length _ _) fun j hj => ?_
  rw [rdN_set _ _ _ _ (by rw [partI_length]; exact hy), rdN_partI s i _ hy, rdN_partI s (i + 1) j hj, rdN_partI s i j hj]
  split
  · rename_i e
    subst e
    refine eq_of_bits (k := 16) (Nat.or_lt_two_pow (bitsN_lt _ _) (Nat.pow_lt_pow_right (by decide) hx)) (bitsN_lt _ _) fun x hxx => ?_
    rw [Nat.testBit_or, testBit_bitsN, testBit_bitsN, Nat.testBit_two_pow, decide_eq_true hxx, Bool.true_and, Bool.true_and]
    unfold markI
    by_cases e : x = i % 17
    · subst e
      rw [show 17 * (i / 17) + i % 17 = i from Nat.div_add_mod i 17, h]
      simp
    · have e1 : decide (i % 17 = x) = false := by simp; omega
      rw [e1, Bool.or_false]
      by_cases h1 : 17 * (i / 17) + x < i
      · rw [decide_eq_true h1, decide_eq_true (by omega)]
      · rw [decide_eq_false h1, decide_eq_false (by omega)]
  · rename_i e
    refine eq_of_bits (k := 16) (bitsN_lt _ _) (bitsN_lt _ _) fun x hxx => ?_
    rw [testBit_bitsN, testBit_bitsN]
    congr 1
    unfold markI
    have hne : 17 * j + x ≠ i := by omega
    by_cases h1 : 17 * j + x < i
    · rw [decide_eq_true h1, decide_eq_true (by omega)]
    · rw [decide_eq_false h1, decide_eq_false (by omega)]
theorem partI_all (s : ByteArray) (n : Nat) (h : n = s.size ∨ (n = 136 ∧ 136 ≤ s.size)) : partI s n = readR s := by
  unfold partI readR
  refine List.map_congr_left fun y hy => ?_
  have hy := List.mem_range.1 hy
  refine eq_of_bits (k := 16) (bitsN_lt _ _) (bitsN_lt _ _) fun x hxx => ?_
  rw [testBit_bitsN, testBit_bitsN]
  congr 1
  unfold markI markP
  rcases h with rfl | ⟨rfl, h⟩
  · rfl
  · rw [decide_eq_true (show 17 * y + x < 136 by omega), decide_eq_true (show 17 * y + x < s.size by omega)]

structure ReadRel (s : ByteArray) (w wr : World) (i : Nat) : Prop where
  res : Blk wr w.heap.size 26 (zR'.map u16)
  out : Blk wr (w.heap.size + 1) 26 ((partI s i).map u16)
  below : Below w.heap.size w wr

set_option maxHeartbeats 2000000 in
set_option maxRecDepth 100000 in
theorem readRub_impl (s : ByteArray) (w : World) (hs : s.size ≤ 1048576) :
    Calls Try.prog 8 #[.string s] w fun e w' => e = .returned (.tuple #[.agg (R16 (readOut s).1), .int .i64 (readOut s).2]) ∧ Below w.heap.size w w' := by
  by_cases hmin : (s.size : Int) ≤ 136
  · have HALL := Lib.hid (partI_all s s.size (.inl rfl))
    go_enter Try.func8, Try.ntmps8
    go_wp2
    go_loopw [11] (fun i wr => ∃ k : Nat, k ≤ s.size ∧ i = .int .i64 k ∧ ReadRel s w wr k) (fun i _ => s.size - (intOf i).toNat)
    case atStart =>
      refine ⟨0, by omega, rfl, (Blk.at_new _ _ _ rfl _ _ rfl).alloc _, ?_, below_two _ _ _⟩
      rw [partI_start]
      exact Blk.at_new _ _ _ (by simp) _ _ rfl
    case round =>
      obtain ⟨k, hk, rfl, h⟩ := hrel
      by_cases hlt : k < s.size
      · have hlt' : (k : Int) < (s.size : Int) := by omega
        have hix := run_byteI s k (by omega)
        have hrem : (k : Int).tmod 17 = ((k % 17 : Nat) : Int) := by rw [Int.tmod_eq_emod_of_nonneg (by omega)]; simp
        have hquo : (k : Int).tdiv 17 = ((k / 17 : Nat) : Int) := by rw [Int.tdiv_eq_ediv_of_nonneg (by omega)]; simp
        cases hb : (rdB s k == 35)
        · have HK := Lib.hid (partI_keep (.inl hb))
          go_wp2
          go_roundw
          case rel => exact ⟨k + 1, by omega, by go_num, h.res, by rw [HK.out]; exact h.out, h.below⟩
          case measure => simp [intOf]; omega
        · by_cases hx : k % 17 < 16
          · have hx' : ((k % 17 : Nat) : Int) < 16 := by omega
            have hy : k / 17 < 8 := by omega
            have HT := Lib.hid (partI_take (s := s) (by omega) hb hx)
            have hc3 := h.out.cell (k / 17) _ (map_u16_at _ (k / 17) (by rw [partI_length]; omega))
            have hf3 := h.out.free (k / 17)
            have hor := or16p (rdN (partI s k) (k / 17)) (k % 17) (partI_lt s k _) hx
            have hwp := wrap16p (k % 17) hx
            go_wp2
            go_region
            go_wp2
            go_roundw
            case rel =>
              refine ⟨k + 1, by omega, by go_num, (h.res.other _ _ (by simp)).drew, ?_, (h.below.setCell (by simp) _).drew⟩
              rw [← HT.out, List.map_set]
              exact (h.out.set _ _).drew
            case measure => simp [intOf]; omega
          · have hx' : ¬ ((k % 17 : Nat) : Int) < 16 := by omega
            have HK := Lib.hid (partI_keep (s := s) (i := k) (.inr (by omega)))
            go_wp2
            go_roundw
            case rel => exact ⟨k + 1, by omega, by go_num, h.res, by rw [HK.out]; exact h.out, h.below⟩
            case measure => simp [intOf]; omega
      · obtain rfl : k = s.size := by omega
        have hres := h.res
        have hout := h.out
        have hbel := h.below
        rw [HALL.out] at hout
        have hrl := readR_length s
        have hrx := readR_lt s
        clear h
        cases hq : okS s
        · have HO := Lib.hid (show readOut s = (zR', 5) by unfold readOut; rw [hq]; rfl)
          have hne : ((strI (rowsC (readR s) 8)).toList != s.toList) = true := by unfold okS at hq; unfold bne; rw [hq]; rfl
          have hnb : ((strI (rowsC (readR s) 8)).toList == s.toList) = false := by unfold okS at hq; exact hq
          clear hq
          go_wp2_with (first
            | (refine wpList_load_row rfl 26 _ rfl _ rfl 26 (R16 (readR s)) _ _ hout Try.underlying26 rfl (by rw [R16_size, hrl]; exact szRub) ?_)
            | (go_at_call 9; refine (text_impl (readR s) _ hrl hrx).mono ?_; rintro e w2 ⟨rfl, hb2⟩; have hres := hres.next hb2; have hout := hout.next hb2; have hbel := below_step hbel hb2; clear hb2)
            | (refine wpList_store_row rfl 26 _ _ rfl _ (R16 zR') rfl rfl 26 _ hres (by kernel_rfl) (by rfl) (one_u16 _) ?_))
          rw [HO.out]
          exact bodyPost_ret (v := .tuple #[.agg (R16 zR'), .int .i64 5]) (results_row_tmp rfl _ _ _ 26 (R16 zR') _ _ _ rfl rfl (hres.setRow_same (zR'.map Go.Proofs.Ytgmlhnmjeelajaa.u16)) Try.underlying26 rfl szRub) rfl ⟨rfl, below_setRow hbel _ _ (Nat.le_refl _)⟩
        · have HO := Lib.hid (show readOut s = (readR s, 0) by unfold readOut; rw [hq]; rfl)
          have hne : ((strI (rowsC (readR s) 8)).toList != s.toList) = false := by unfold okS at hq; unfold bne; rw [hq]; rfl
          have hnb : ((strI (rowsC (readR s) 8)).toList == s.toList) = true := by unfold okS at hq; exact hq
          clear hq
          go_wp2_with (first
            | (refine wpList_load_row rfl 26 _ rfl _ rfl 26 (R16 (readR s)) _ _ hout Try.underlying26 rfl (by rw [R16_size, hrl]; exact szRub) ?_)
            | (go_at_call 9; refine (text_impl (readR s) _ hrl hrx).mono ?_; rintro e w2 ⟨rfl, hb2⟩; have hres := hres.next hb2; have hout := hout.next hb2; have hbel := below_step hbel hb2; clear hb2)
            | (refine wpList_store_row rfl 26 _ _ rfl _ (R16 (readR s)) rfl rfl 26 _ hres (by rw [R16_size, hrl]; exact szRub) (by rw [R16_size, hrl]; rfl) (one_u16 _) ?_))
          rw [HO.out]
          exact bodyPost_ret (v := .tuple #[.agg (R16 (readR s)), .int .i64 0]) (results_row_tmp rfl _ _ _ 26 (R16 (readR s)) _ _ _ rfl rfl (hres.setRow_same ((readR s).map Go.Proofs.Ytgmlhnmjeelajaa.u16)) Try.underlying26 rfl (by rw [R16_size, hrl]; exact szRub)) rfl ⟨rfl, below_setRow hbel _ _ (Nat.le_refl _)⟩
  · have HALL := Lib.hid (partI_all s 136 (.inr ⟨rfl, by omega⟩))
    go_enter Try.func8, Try.ntmps8
    go_wp2
    go_loopw [11] (fun i wr => ∃ k : Nat, k ≤ 136 ∧ i = .int .i64 k ∧ ReadRel s w wr k) (fun i _ => 136 - (intOf i).toNat)
    case atStart =>
      refine ⟨0, by omega, rfl, (Blk.at_new _ _ _ rfl _ _ rfl).alloc _, ?_, below_two _ _ _⟩
      rw [partI_start]
      exact Blk.at_new _ _ _ (by simp) _ _ rfl
    case round =>
      obtain ⟨k, hk, rfl, h⟩ := hrel
      by_cases hlt : k < 136
      · have hlt' : (k : Int) < (136 : Int) := by omega
        have hix := run_byteI s k (by omega)
        have hrem : (k : Int).tmod 17 = ((k % 17 : Nat) : Int) := by rw [Int.tmod_eq_emod_of_nonneg (by omega)]; simp
        have hquo : (k : Int).tdiv 17 = ((k / 17 : Nat) : Int) := by rw [Int.tdiv_eq_ediv_of_nonneg (by omega)]; simp
        cases hb : (rdB s k == 35)
        · have HK := Lib.hid (partI_keep (.inl hb))
          go_wp2
          go_roundw
          case rel => exact ⟨k + 1, by omega, by go_num, h.res, by rw [HK.out]; exact h.out, h.below⟩
          case measure => simp [intOf]; omega
        · by_cases hx : k % 17 < 16
          · have hx' : ((k % 17 : Nat) : Int) < 16 := by omega
            have hy : k / 17 < 8 := by omega
            have HT := Lib.hid (partI_take (s := s) (by omega) hb hx)
            have hc3 := h.out.cell (k / 17) _ (map_u16_at _ (k / 17) (by rw [partI_length]; omega))
            have hf3 := h.out.free (k / 17)
            have hor := or16p (rdN (partI s k) (k / 17)) (k % 17) (partI_lt s k _) hx
            have hwp := wrap16p (k % 17) hx
            go_wp2
            go_region
            go_wp2
            go_roundw
            case rel =>
              refine ⟨k + 1, by omega, by go_num, (h.res.other _ _ (by simp)).drew, ?_, (h.below.setCell (by simp) _).drew⟩
              rw [← HT.out, List.map_set]
              exact (h.out.set _ _).drew
            case measure => simp [intOf]; omega
          · have hx' : ¬ ((k % 17 : Nat) : Int) < 16 := by omega
            have HK := Lib.hid (partI_keep (s := s) (i := k) (.inr (by omega)))
            go_wp2
            go_roundw
            case rel => exact ⟨k + 1, by omega, by go_num, h.res, by rw [HK.out]; exact h.out, h.below⟩
            case measure => simp [intOf]; omega
      · obtain rfl : k = 136 := by omega
        have hres := h.res
        have hout := h.out
        have hbel := h.below
        rw [HALL.out] at hout
        have hrl := readR_length s
        have hrx := readR_lt s
        clear h
        cases hq : okS s
        · have HO := Lib.hid (show readOut s = (zR', 5) by unfold readOut; rw [hq]; rfl)
          have hne : ((strI (rowsC (readR s) 8)).toList != s.toList) = true := by unfold okS at hq; unfold bne; rw [hq]; rfl
          have hnb : ((strI (rowsC (readR s) 8)).toList == s.toList) = false := by unfold okS at hq; exact hq
          clear hq
          go_wp2_with (first
            | (refine wpList_load_row rfl 26 _ rfl _ rfl 26 (R16 (readR s)) _ _ hout Try.underlying26 rfl (by rw [R16_size, hrl]; exact szRub) ?_)
            | (go_at_call 9; refine (text_impl (readR s) _ hrl hrx).mono ?_; rintro e w2 ⟨rfl, hb2⟩; have hres := hres.next hb2; have hout := hout.next hb2; have hbel := below_step hbel hb2; clear hb2)
            | (refine wpList_store_row rfl 26 _ _ rfl _ (R16 zR') rfl rfl 26 _ hres (by kernel_rfl) (by rfl) (one_u16 _) ?_))
          rw [HO.out]
          exact bodyPost_ret (v := .tuple #[.agg (R16 zR'), .int .i64 5]) (results_row_tmp rfl _ _ _ 26 (R16 zR') _ _ _ rfl rfl (hres.setRow_same (zR'.map Go.Proofs.Ytgmlhnmjeelajaa.u16)) Try.underlying26 rfl szRub) rfl ⟨rfl, below_setRow hbel _ _ (Nat.le_refl _)⟩
        · have HO := Lib.hid (show readOut s = (readR s, 0) by unfold readOut; rw [hq]; rfl)
          have hne : ((strI (rowsC (readR s) 8)).toList != s.toList) = false := by unfold okS at hq; unfold bne; rw [hq]; rfl
          have hnb : ((strI (rowsC (readR s) 8)).toList == s.toList) = true := by unfold okS at hq; exact hq
          clear hq
          go_wp2_with (first
            | (refine wpList_load_row rfl 26 _ rfl _ rfl 26 (R16 (readR s)) _ _ hout Try.underlying26 rfl (by rw [R16_size, hrl]; exact szRub) ?_)
            | (go_at_call 9; refine (text_impl (readR s) _ hrl hrx).mono ?_; rintro e w2 ⟨rfl, hb2⟩; have hres := hres.next hb2; have hout := hout.next hb2; have hbel := below_step hbel hb2; clear hb2)
            | (refine wpList_store_row rfl 26 _ _ rfl _ (R16 (readR s)) rfl rfl 26 _ hres (by rw [R16_size, hrl]; exact szRub) (by rw [R16_size, hrl]; rfl) (one_u16 _) ?_))
          rw [HO.out]
          exact bodyPost_ret (v := .tuple #[.agg (R16 (readR s)), .int .i64 0]) (results_row_tmp rfl _ _ _ 26 (R16 (readR s)) _ _ _ rfl rfl (hres.setRow_same ((readR s).map Go.Proofs.Ytgmlhnmjeelajaa.u16)) Try.underlying26 rfl (by rw [R16_size, hrl]; exact szRub)) rfl ⟨rfl, below_setRow hbel _ _ (Nat.le_refl _)⟩
end Go.Proofs.Ytgmlhnmjeelajaa
