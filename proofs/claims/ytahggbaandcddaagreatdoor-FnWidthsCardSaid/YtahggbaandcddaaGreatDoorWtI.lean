/- Contracts for FnWidths: the program's exported functions, at a valid face and a valid text. -/
import Derived.Test.YtahggbaandcddaaGreatDoorWtS
import Derived.Test.YtahggbaandcddaaGreatDoorGG
import Derived.Test.YtahggbaandcddaaGreatDoorShY
import Derived.BigRegion
import Derived.OwnWalk

namespace Go.Proofs.YtahggbaandcddaaGreatDoor
open Go Go.RowKit
set_option linter.unusedVariables false
set_option linter.unusedSimpArgs false

set_option maxHeartbeats 2000000 in
set_option maxRecDepth 100000 in
theorem lineWide_impl (f : Fc) (S : Value) (l : List UInt8) (w : World) (hmx : MaxW w) (hf : HasF w f S) (hV : validF f = true) (ht : vText l = true) :
    Calls Tryz.prog 7 #[.agg (fcV f S).toArray, .string ⟨l.toArray⟩] w fun e w' => e = .returned (.tuple #[.int .i64 (lineW f l), .int .i64 0]) ∧ Below w.heap.size w w' := by
  obtain ⟨hft, A, n, c, rfl, hn, hm, hsl⟩ := hf
  have hB := below_one w (.cells (fcV f (.slice A n c)).toArray 28)
  have hk := Blk.new w 28 (fcV f (.slice A n c))
  have hsz : (fcV f (.slice A n c)).toArray.size = 29 := by simp [fcV_length hft]
  have HZ := Lib.hid (show (Tryz.prog.info? 28).map (·.size) = some (fcV f (.slice A n c)).toArray.size by rw [hsz]; exact szFcI)
  have HF := Lib.hid hft
  have HVV := Lib.hid (validF_iff.1 hV)
  have HN := Lib.hid hn
  have HT := Lib.hid ht
  have HLS := Lib.hid (vText_ls ht)
  have HS := Lib.hid (hsl.next hB)
  have HM := Lib.hid (hmx.next hB)
  have h60 := size60 ht
  have HL60 := Lib.hid (show (⟨l.toArray⟩ : ByteArray).size ≤ 60 by have := vText_len60 ht; show l.toArray.size ≤ 60; simpa using this)
  have HC := Lib.hid (show askC f l true = 0 from by rw [askC_ok hV ht]; rfl)
  clear hft hn hsl hV ht hsz hmx
  go_enter Tryz.func7, Tryz.ntmps7
  go_wp2_with (first
    | (first | (refine wpList_load_row rfl 28 (.tmp 2) rfl _ rfl 28 (fcV f (.slice A n c)).toArray _ _ hk Tryz.underlying28 rfl HZ.out ?_) | (refine wpList_load_row rfl 28 (.tmp 3) rfl _ rfl 28 (fcV f (.slice A n c)).toArray _ _ hk Tryz.underlying28 rfl HZ.out ?_))
    | (go_at_call 31; refine (lineCode_any f A n c ⟨l.toArray⟩ _ HF.out HN.out (by omega) h60 HS.out HM.out).mono ?_; rintro e w1 ⟨he, hb1⟩; rw [bs_mk, HC.out] at he; subst he; have hk := hk.next hb1)
    | (go_at_call 32; refine (wide_impl f A n c ⟨l.toArray⟩ _ HF.out HVV.out HN.out (by omega) HLS.out HL60.out (HS.out.next hb1)).mono ?_; rintro e w2 ⟨he, hb2⟩; rw [bs_mk] at he; subst he))
  go_ret2
  exact ⟨rfl, below_step hB (below_step hb1 hb2)⟩
set_option maxHeartbeats 2000000 in
set_option maxRecDepth 100000 in
theorem plc_impl (f : Fc) (S : Value) (l : List UInt8) (w : World) (hf : HasF w f S) (hV : validF f = true) (ht : vText l = true) (hmx : MaxW w) :
    Calls Tryz.prog 9 #[.agg (fcV f S).toArray, .string ⟨l.toArray⟩] w (WtOut w (plcA f (words l) (words l).length) 0) := by
  rw [plcA_words f ht]
  obtain ⟨hft, A, n, c, rfl, hn, hm, hsl⟩ := hf
  have hB := below_one w (.cells (fcV f (.slice A n c)).toArray 28)
  have hk := Blk.new w 28 (fcV f (.slice A n c))
  have hsz : (fcV f (.slice A n c)).toArray.size = 29 := by simp [fcV_length hft]
  have HZ := Lib.hid (show (Tryz.prog.info? 28).map (·.size) = some (fcV f (.slice A n c)).toArray.size by rw [hsz]; exact szFcI)
  have HF := Lib.hid hft
  have HVV := Lib.hid (validF_iff.1 hV)
  have HN := Lib.hid hn
  have HT := Lib.hid ht
  have HLS := Lib.hid (vText_ls ht)
  have HS := Lib.hid (hsl.next hB)
  have HM := Lib.hid (hmx.next hB)
  have h60 := size60 ht
  have HL60 := Lib.hid (show (⟨l.toArray⟩ : ByteArray).size ≤ 60 by have := vText_len60 ht; show l.toArray.size ≤ 60; simpa using this)
  have HC := Lib.hid (show askC f l true = 0 from by rw [askC_ok hV ht]; rfl)
  clear hft hn hsl hV ht hsz hmx
  go_enter Tryz.func9, Tryz.ntmps9
  go_wp2_with (first
    | (first | (refine wpList_load_row rfl 28 (.tmp 2) rfl _ rfl 28 (fcV f (.slice A n c)).toArray _ _ hk Tryz.underlying28 rfl HZ.out ?_) | (refine wpList_load_row rfl 28 (.tmp 3) rfl _ rfl 28 (fcV f (.slice A n c)).toArray _ _ hk Tryz.underlying28 rfl HZ.out ?_))
    | (go_at_call 31; refine (lineCode_any f A n c ⟨l.toArray⟩ _ HF.out HN.out (by omega) h60 HS.out HM.out).mono ?_; rintro e w1 ⟨he, hb1⟩; rw [bs_mk, HC.out] at he; subst he; have hk := hk.next hb1)
    | (go_at_call 36; refine (places_any f A n c ⟨l.toArray⟩ _ HF.out HVV.out HN.out (by omega) HLS.out HL60.out (HS.out.next hb1)).mono ?_; rintro e w2 ⟨A2, c2, rfl, hb2, ho2⟩))
  go_ret2
  exact ⟨A2, c2, ⟨rfl, ho2.sl⟩, below_step hB (below_step hb1 hb2)⟩
set_option maxHeartbeats 2000000 in
set_option maxRecDepth 100000 in
theorem pairBy_impl (f : Fc) (S : Value) (x y : Int) (w : World) (hf : HasF w f S) (hV : validF f = true) (hx : isLet x = true) (hy : isLet y = true) :
    Calls Tryz.prog 13 #[.agg (fcV f S).toArray, .int .u8 x, .int .u8 y] w fun e w' => e = .returned (.tuple #[.int .i64 (byP f.pairs x y), .int .i64 0]) ∧ Below w.heap.size w w' := by
  obtain ⟨hft, A, n, c, rfl, hn, hm, hsl⟩ := hf
  have hB := below_one w (.cells (fcV f (.slice A n c)).toArray 28)
  have hk := Blk.new w 28 (fcV f (.slice A n c))
  have hsz : (fcV f (.slice A n c)).toArray.size = 29 := by simp [fcV_length hft]
  have HZ := Lib.hid (show (Tryz.prog.info? 28).map (·.size) = some (fcV f (.slice A n c)).toArray.size by rw [hsz]; exact szFcI)
  have HF := Lib.hid hft
  have HV := Lib.hid hV
  have HN := Lib.hid hn
  have HX := Lib.hid hx
  have HY := Lib.hid hy
  have HS := Lib.hid (hsl.next hB)
  clear hft hn hV hx hy hsl hsz
  go_enter Tryz.func13, Tryz.ntmps13
  go_wp2_with (first
    | (refine wpList_load_row rfl 28 (.tmp 3) rfl _ rfl 28 (fcV f (.slice A n c)).toArray _ _ hk Tryz.underlying28 rfl HZ.out ?_)
    | (go_at_call 40; refine (face_impl f A n c _ HF.out HN.out (by omega) HS.out).mono ?_; rintro e w1 ⟨he, hb1⟩; rw [HV.out] at he; subst he; have hk := hk.next hb1)
    | (go_at_call 41; refine (letter_impl x _).mono ?_; rintro e _ ⟨he, rfl⟩; rw [HX.out] at he; subst he)
    | (go_at_call 41; refine (letter_impl y _).mono ?_; rintro e _ ⟨he, rfl⟩; rw [HY.out] at he; subst he)
    | (go_at_call 42; refine (by_impl f A n c x y _ HF.out HN.out (by omega) (HS.out.next hb1)).mono ?_; rintro e w2 ⟨rfl, hb2⟩))
  go_ret2
  exact ⟨rfl, below_step hB (below_step hb1 hb2)⟩
set_option maxHeartbeats 2000000 in
set_option maxRecDepth 100000 in
theorem centre_impl (f : Fc) (S : Value) (l : List UInt8) (m : Int) (hm0 : 0 ≤ m ∧ m ≤ 4000) (w : World) (hf : HasF w f S) (hV : validF f = true) (ht : vText l = true) (hmx : MaxW w) :
    Calls Tryz.prog 21 #[.agg (fcV f S).toArray, .string ⟨l.toArray⟩, .int .i64 m] w fun e w' => e = .returned (.tuple #[.int .i64 (ctrW f l m).1, .int .i64 (ctrW f l m).2]) ∧ Below w.heap.size w w' := by
  obtain ⟨hft, A, n, c, rfl, hn, hm, hsl⟩ := hf
  have hB := below_one w (.cells (fcV f (.slice A n c)).toArray 28)
  have hk := Blk.new w 28 (fcV f (.slice A n c))
  have hsz : (fcV f (.slice A n c)).toArray.size = 29 := by simp [fcV_length hft]
  have HZ := Lib.hid (show (Tryz.prog.info? 28).map (·.size) = some (fcV f (.slice A n c)).toArray.size by rw [hsz]; exact szFcI)
  have HF := Lib.hid hft
  have HVV := Lib.hid (validF_iff.1 hV)
  have HN := Lib.hid hn
  have HT := Lib.hid ht
  have HLS := Lib.hid (vText_ls ht)
  have HS := Lib.hid (hsl.next hB)
  have HM := Lib.hid (hmx.next hB)
  have h60 := size60 ht
  have HL60 := Lib.hid (show (⟨l.toArray⟩ : ByteArray).size ≤ 60 by have := vText_len60 ht; show l.toArray.size ≤ 60; simpa using this)
  have hlr := lineW_range (validF_iff.1 hV) ht
  have hin : inB 0 4000 m = true := inB_iff.2 hm0
  have HIN := Lib.hid hin
  have HC := Lib.hid (show askC f l true = 0 from by rw [askC_ok hV ht]; rfl)
  have hsub : IntKind.i64.wrap (m - lineW f l) = m - lineW f l := IntWalk.i64_in _ (by omega)
  clear hft hn hsl hV ht hsz hmx
  clear hin
  by_cases hle : lineW f l ≤ m
  · rw [ctrW_ok hle]
    dsimp only
    have hdv := Int.tdiv_eq_ediv_of_nonneg (b := 2) (show 0 ≤ m - lineW f l by omega)
    have hdr : 0 ≤ (m - lineW f l) / 2 ∧ (m - lineW f l) / 2 ≤ 4000 := by omega
    have hwd : IntKind.i64.wrap ((m - lineW f l) / 2) = (m - lineW f l) / 2 := IntWalk.i64_in _ (by omega)
    go_enter Tryz.func21, Tryz.ntmps21
    go_wp2_with (first
      | (first | (refine wpList_load_row rfl 28 (.tmp 2) rfl _ rfl 28 (fcV f (.slice A n c)).toArray _ _ hk Tryz.underlying28 rfl HZ.out ?_) | (refine wpList_load_row rfl 28 (.tmp 3) rfl _ rfl 28 (fcV f (.slice A n c)).toArray _ _ hk Tryz.underlying28 rfl HZ.out ?_))
      | (go_at_call 52; refine (wideCode_any f A n c ⟨l.toArray⟩ m _ HF.out HN.out (by omega) h60 HS.out HM.out).mono ?_; rintro e w1 ⟨he, hb1⟩; rw [bs_mk, HIN.out, HC.out] at he; subst he; have hk := hk.next hb1)
      | (go_at_call 32; refine (wide_impl f A n c ⟨l.toArray⟩ _ HF.out HVV.out HN.out (by omega) HLS.out HL60.out (HS.out.next hb1)).mono ?_; rintro e w2 ⟨he, hb2⟩; rw [bs_mk] at he; subst he))
    go_ret2
    exact ⟨rfl, below_step hB (below_step hb1 hb2)⟩
  · rw [ctrW_no hle]
    dsimp only
    go_enter Tryz.func21, Tryz.ntmps21
    go_wp2_with (first
      | (first | (refine wpList_load_row rfl 28 (.tmp 2) rfl _ rfl 28 (fcV f (.slice A n c)).toArray _ _ hk Tryz.underlying28 rfl HZ.out ?_) | (refine wpList_load_row rfl 28 (.tmp 3) rfl _ rfl 28 (fcV f (.slice A n c)).toArray _ _ hk Tryz.underlying28 rfl HZ.out ?_))
      | (go_at_call 52; refine (wideCode_any f A n c ⟨l.toArray⟩ m _ HF.out HN.out (by omega) h60 HS.out HM.out).mono ?_; rintro e w1 ⟨he, hb1⟩; rw [bs_mk, HIN.out, HC.out] at he; subst he; have hk := hk.next hb1)
      | (go_at_call 32; refine (wide_impl f A n c ⟨l.toArray⟩ _ HF.out HVV.out HN.out (by omega) HLS.out HL60.out (HS.out.next hb1)).mono ?_; rintro e w2 ⟨he, hb2⟩; rw [bs_mk] at he; subst he))
    go_ret2
    exact ⟨rfl, below_step hB (below_step hb1 hb2)⟩
theorem bit_any (b : Bool) (w : World) : Calls Tryz.prog 55 #[.bool b] w fun e w' => e = .returned (.int .i64 (if b then 1 else 0)) ∧ Below w.heap.size w w' := by
  cases b
  · go_enter Tryz.func55, Tryz.ntmps55
    go_wp2
    go_ret
    exact ⟨rfl, Below.refl _ _⟩
  · go_enter Tryz.func55, Tryz.ntmps55
    go_wp2
    go_ret
    exact ⟨rfl, Below.refl _ _⟩
theorem spaces_any (l : List UInt8) (w : World) : Calls Tryz.prog 54 #[.string ⟨l.toArray⟩, .string ⟨#[32]⟩] w fun e w' => e = .returned (.int .i64 (((words l).length - 1 : Nat) : Int)) ∧ w = w' :=
  (Tryz.strings_Count_one ⟨l.toArray⟩ 32 w).mono fun e w' ⟨he, hw⟩ => ⟨he.trans (by rw [show Lib.countByte (⟨l.toArray⟩ : ByteArray).data.toList 32 = (words l).length - 1 from words_spaces l]), hw.symm⟩
attribute [local irreducible] wpAnyH in
set_option maxHeartbeats 2000000 in
set_option maxRecDepth 100000 in
theorem just_impl (f : Fc) (S : Value) (l : List UInt8) (m left : Int) (N : Nat) (w : World) (hf : HasF w f S) (hV : validF f = true) (ht : vText l = true) (hm0 : 0 ≤ m ∧ m ≤ 4000) (hle : m - lineW f l = left) (hl0 : 0 ≤ left) (hNw : (words l).length = N + 1) (hN0 : 0 < N) (hmx : MaxW w) :
    Calls Tryz.prog 23 #[.agg (fcV f S).toArray, .string ⟨l.toArray⟩, .int .i64 m] w (WtOut w (jusW f.space left N N) 0) := by
  obtain ⟨hft, A, n, c, rfl, hn, hm, hsl⟩ := hf
  have hB := below_one w (.cells (fcV f (.slice A n c)).toArray 28)
  have hk := Blk.new w 28 (fcV f (.slice A n c))
  have hsz : (fcV f (.slice A n c)).toArray.size = 29 := by simp [fcV_length hft]
  have HZ := Lib.hid (show (Tryz.prog.info? 28).map (·.size) = some (fcV f (.slice A n c)).toArray.size by rw [hsz]; exact szFcI)
  have HF := Lib.hid hft
  have HVV := Lib.hid (validF_iff.1 hV)
  have HN := Lib.hid hn
  have HT := Lib.hid ht
  have HLS := Lib.hid (vText_ls ht)
  have HS := Lib.hid (hsl.next hB)
  have HM := Lib.hid (hmx.next hB)
  have h60 := size60 ht
  have HL60 := Lib.hid (show (⟨l.toArray⟩ : ByteArray).size ≤ 60 by have := vText_len60 ht; show l.toArray.size ≤ 60; simpa using this)
  have hlr := lineW_range (validF_iff.1 hV) ht
  have hin : inB 0 4000 m = true := inB_iff.2 hm0
  have HIN := Lib.hid hin
  have HC := Lib.hid (show askC f l true = 0 from by rw [askC_ok hV ht]; rfl)
  have hsub : IntKind.i64.wrap (m - lineW f l) = left := by rw [← hle]; exact IntWalk.i64_in _ (by omega)
  have hmany := words_count ht
  have hl1 : left ≤ 4000 := by omega
  have hNm : N ≤ 60 := by omega
  have HCN := Lib.hid (show (words l).length - 1 = N by omega)
  have HSB := Lib.hid hsub
  have hsp := (validF_iff.1 hV).space
  have hN1 : (N : Int) ≠ 0 := by omega
  have hNb : ((N : Int) == 0) = false := by rw [beq_eq_false_iff_ne]; exact hN1
  clear hle hlr hmany hNw hsub
  clear hft hn hsl hV ht hsz hmx
  clear hin hm0
  go_enter Tryz.func23, Tryz.ntmps23
  go_wp2_with (first
    | (first | (refine wpList_load_row rfl 28 (.tmp 2) rfl _ rfl 28 (fcV f (.slice A n c)).toArray _ _ hk Tryz.underlying28 rfl HZ.out ?_) | (refine wpList_load_row rfl 28 (.tmp 3) rfl _ rfl 28 (fcV f (.slice A n c)).toArray _ _ hk Tryz.underlying28 rfl HZ.out ?_))
    | (go_at_call 52; refine (wideCode_any f A n c ⟨l.toArray⟩ m _ HF.out HN.out (by omega) h60 HS.out HM.out).mono ?_; rintro e w1 ⟨he, hb1⟩; rw [bs_mk, HIN.out, HC.out] at he; subst he; have hk := hk.next hb1)
    | (go_at_call 32; refine (wide_impl f A n c ⟨l.toArray⟩ _ HF.out HVV.out HN.out (by omega) HLS.out HL60.out (HS.out.next hb1)).mono ?_; rintro e w2 ⟨he, hb2⟩; rw [bs_mk] at he; subst he)
    | (refine wpList_is (.binOp .sub 2 (.tmp 20) (.tmp 23) 2) rfl rfl (.int .i64 left) (Eq.trans (show (execOp _ _).run _ _ = .ok (.value (.int .i64 (IntKind.i64.wrap (m - lineW f l)))) _ by kernel_rfl) (by rw [HSB.out])) ?_; simp only [Act.put, List.setIfInBounds_toArray, List.set_cons_succ, List.set_cons_zero])
    | (go_at_call 54; refine (spaces_any l _).mono ?_; rintro e _ ⟨he, rfl⟩; rw [HCN.out] at he; subst he))
  have HK := Lib.hid (hk.next hb2)
  have HB3 := Lib.hid (below_step hB (below_step hb1 hb2))
  clear hb1 hb2 hB hk HSB HS HM
  have hemp := own_empty w2 _ rfl w2.heap.size 2 (Nat.le_refl _) 1
  have hbe := below_one w2 (.cells #[] 2)
  obtain ⟨b0, hb0⟩ : ∃ b0, b0 = w.heap.size := ⟨_, rfl⟩
  rw [← hb0] at HK ⊢
  clear hb0
  have hjr := jus_range hl0 (show (0 : Int) < (N : Int) by omega)
  go_loopw [11, 35] (fun v i wr => ∃ k : Nat, k ≤ N ∧ i = .int .i64 k ∧ wr.ownsRow w2.heap.size 2 1 v (jusW f.space left N k).length ((jusW f.space left N k).map i64) ∧ Below w2.heap.size w2 wr) (fun _ i _ => N - (intOf i).toNat)
  case atStart => exact ⟨0, by omega, rfl, hemp, hbe⟩
  case round =>
    obtain ⟨k, hk, rfl, hown, hbel⟩ := hrel
    have hsz := hbel.size
    have hlen := jusW_length f.space left N k
    clear hemp hbe
    by_cases hlt : k < N
    · have hcv : IntKind.i64.wrap f.space = f.space := IntWalk.i64_in _ (by omega)
      have hdiv := tdiv_in hl0 (by omega) (show (0 : Int) < (N : Int) by omega)
      have HDIV := Lib.hid hdiv
      have HREM := Lib.hid (Int.tmod_eq_emod_of_nonneg (b := (N : Int)) hl0)
      have hadd : IntKind.i64.wrap (f.space + left / (N : Int)) = f.space + left / (N : Int) := IntWalk.i64_in _ (by omega)
      have HJ := Lib.hid (jusW_succ f.space left N k)
      obtain ⟨r, hr⟩ : ∃ r, r = left % (N : Int) := ⟨_, rfl⟩
      obtain ⟨q, hq⟩ : ∃ q, q = left / (N : Int) := ⟨_, rfl⟩
      rw [← hr] at HREM HJ hjr
      rw [← hq] at HDIV HJ hadd hjr
      clear hr hq hdiv
      obtain ⟨t, htt⟩ : ∃ t : Int, t = if decide ((k : Int) < r) then 1 else 0 := ⟨_, rfl⟩
      have hadd2 : IntKind.i64.wrap (f.space + q + t) = f.space + q + t := IntWalk.i64_in _ (by rw [htt]; split <;> omega)
      have HBT := Lib.hid (fun (W : World) => (show Calls Tryz.prog 55 #[.bool (decide ((k : Int) < r))] W (fun e w' => e = .returned (.int .i64 t) ∧ Below W.heap.size W w') by rw [htt]; exact bit_any _ W))
      have HJ2 := Lib.hid (show jusW f.space left N (k + 1) = jusW f.space left N k ++ [f.space + q + t] by rw [HJ.out, htt]; simp)
      clear htt HJ
      repeat ((with_reducible fail_if_success (show Code.wp _ (Code.region 11 _ _) _ _ _)); first | go_values | go_skip | go_guarded | go_step | go_upon)
      refine held_begin (w2.heap.size) (by kernel_rfl) ?_
      have hS := below_drewN (Below.refl (w2.heap.size) wr) 1
      refine held_take 0 (u11) rfl (by kernel_rfl) (by kernel_rfl) (by kernel_rfl) (fun _ _ _ h => h) (by kernel_rfl) (fun w' hw' => by kernel_rfl) hS ?_
      refine held_take 1 (.pointer (some ⟨b0, 26, none⟩)) rfl (by kernel_rfl) (by kernel_rfl) (by kernel_rfl) (fun _ _ _ h => h) (by kernel_rfl) (fun w' hw' => by kernel_rfl) hS ?_
      refine held_take 2 (.int .i8 f.space) rfl (by kernel_rfl) (by kernel_rfl) (by kernel_rfl) (fun _ _ _ h => h) (by kernel_rfl) (fun w' hw' => exec_load1 24 (.tmp 39) rfl ⟨b0, 26, none⟩ (by kernel_rfl) (.int .i8 f.space) ((HK.out.next (hbel.trans hw')).cell 26 _ (fcV_space HF.out _)) _ Tryz.underlying24 rfl) hS ?_
      refine held_take 3 (.int .i64 f.space) rfl (by kernel_rfl) (by kernel_rfl) (by kernel_rfl) (fun _ _ _ h => h) (by kernel_rfl) (fun w' hw' => Eq.trans (show (execOp _ _).run _ w' = .ok (.value (.int .i64 (IntKind.i64.wrap f.space))) w' by kernel_rfl) (by rw [hcv])) hS ?_
      refine held_take 4 (.int .i64 left) rfl (by kernel_rfl) (by kernel_rfl) (by kernel_rfl) (fun _ _ _ h => h) (by kernel_rfl) (fun w' hw' => by kernel_rfl) hS ?_
      refine held_take 5 (.int .i64 N) rfl (by kernel_rfl) (by kernel_rfl) (by kernel_rfl) (fun _ _ _ h => h) (by kernel_rfl) (fun w' hw' => by kernel_rfl) hS ?_
      refine held_take 6 (.int .i64 q) rfl (by kernel_rfl) (by kernel_rfl) (by kernel_rfl) (fun _ _ _ h => h) (by kernel_rfl) (fun w' hw' => exec_quo (.tmp 42) (.tmp 43) rfl left N (by kernel_rfl) (by kernel_rfl) hN1 HDIV.out) hS ?_
      refine held_take 7 (.int .i64 (f.space + q)) rfl (by kernel_rfl) (by kernel_rfl) (by kernel_rfl) (fun _ _ _ h => h) (by kernel_rfl) (fun w' hw' => Eq.trans (show (execOp _ _).run _ w' = .ok (.value (.int .i64 (IntKind.i64.wrap (f.space + q)))) w' by kernel_rfl) (by rw [hadd])) hS ?_
      refine held_take 8 (.int .i64 k) rfl (by kernel_rfl) (by kernel_rfl) (by kernel_rfl) (fun _ _ _ h => h) (by kernel_rfl) (fun w' hw' => by kernel_rfl) hS ?_
      refine held_take 9 (.int .i64 left) rfl (by kernel_rfl) (by kernel_rfl) (by kernel_rfl) (fun _ _ _ h => h) (by kernel_rfl) (fun w' hw' => by kernel_rfl) hS ?_
      refine held_take 10 (.int .i64 N) rfl (by kernel_rfl) (by kernel_rfl) (by kernel_rfl) (fun _ _ _ h => h) (by kernel_rfl) (fun w' hw' => by kernel_rfl) hS ?_
      refine held_take 11 (.int .i64 r) rfl (by kernel_rfl) (by kernel_rfl) (by kernel_rfl) (fun _ _ _ h => h) (by kernel_rfl) (fun w' hw' => exec_rem (.tmp 47) (.tmp 48) rfl left N (by kernel_rfl) (by kernel_rfl) hN1 HREM.out) hS ?_
      refine held_take 12 (.bool (decide ((k : Int) < r))) rfl (by kernel_rfl) (by kernel_rfl) (by kernel_rfl) (fun _ _ _ h => h) (by kernel_rfl) (fun w' hw' => by kernel_rfl) hS ?_
      refine held_call 13 55 #[.bool (decide ((k : Int) < r))] rfl (by kernel_rfl) (by kernel_rfl) (by kernel_rfl) ?_
      refine (HBT.out _).mono ?_
      rintro e w1 ⟨rfl, hb⟩
      have hS := hS.trans (hb.mono (by exact hsz))
      refine ⟨_, rfl, hS, ?_⟩
      have hown1 := own_next (show World.ownsRow (World.drewN wr 1) _ _ _ _ _ _ from hown) hb
      have hsz1 := hb.size
      have hszw : w2.heap.size ≤ w1.heap.size := Nat.le_trans hsz hsz1
      clear hb
      refine held_take 14 (.int .i64 (f.space + q + t)) rfl (by kernel_rfl) (by kernel_rfl) (by kernel_rfl) (fun _ _ _ h => h) (by kernel_rfl) (fun w' hw' => Eq.trans (show (execOp _ _).run _ w' = .ok (.value (.int .i64 (IntKind.i64.wrap (f.space + q + t)))) w' by kernel_rfl) (by rw [hadd2])) hS ?_
      refine held_val 15 (.slice (some ⟨w1.heap.size, 0, none⟩) 1 1) (w1.alloc (.cells #[.int .i64 (f.space + q + t)] 2)) rfl (by kernel_rfl) (by kernel_rfl) (by kernel_rfl) (hS.alloc hszw _) ?_
      refine held_app1 16 (.tmp 38) (.tmp 53) 33 rfl (by kernel_rfl) (by kernel_rfl) rfl elI w1 (w2.heap.size) u11 ((jusW f.space left N k).length) ((jusW f.space left N k).map i64) (by kernel_rfl) hown1 (.int .i64 (f.space + q + t)) (by kernel_rfl) rfl (by unfold maxLen; omega) (by omega) (hszw) (Nat.le_refl _) hS ?_
      intro v' w' ho' hg' hS'
      have hS := hS'
      refine held_take 17 (v') rfl (by kernel_rfl) (by kernel_rfl) (by kernel_rfl) (fun _ _ _ h => h) (by kernel_rfl) (fun w' hw' => by kernel_rfl) hS ?_
      refine held_done (by kernel_rfl) ?_
      simp only [Act.put, List.setIfInBounds_toArray, List.set_cons_succ, List.set_cons_zero]
      have hbel := hbel.trans hS
      clear hS hS' hg' hadd hcv hadd2 hown1 hsz1 hszw
      repeat (first | go_values | go_skip | go_guarded | go_step | go_upon)
      go_roundw
      case rel =>
        refine ⟨k + 1, by omega, by go_num, ?_, hbel⟩
        rw [HJ2.out, List.length_append, List.map_append]
        exact ho'
      case measure => simp [intOf]; omega
    · obtain rfl : k = N := by omega
      repeat (first | go_values | go_skip | go_guarded | go_step | go_upon)
      go_ret2
      obtain ⟨A9, c9, rfl, hl9, ho9⟩ := OwnS.of_own hown
      exact ⟨A9, c9, ⟨rfl, ho9.sl⟩, below_step HB3.out hbel⟩
set_option maxHeartbeats 2000000 in
set_option maxRecDepth 100000 in
theorem justN_impl (f : Fc) (S : Value) (l : List UInt8) (m : Int) (hm0 : 0 ≤ m ∧ m ≤ 4000) (hno : ¬ (lineW f l ≤ m ∧ 1 < (words l).length)) (w : World) (hf : HasF w f S) (hV : validF f = true) (ht : vText l = true) (hmx : MaxW w) :
    Calls Tryz.prog 23 #[.agg (fcV f S).toArray, .string ⟨l.toArray⟩, .int .i64 m] w (WtOut w [] 4) := by
  obtain ⟨hft, A, n, c, rfl, hn, hm, hsl⟩ := hf
  have hB := below_one w (.cells (fcV f (.slice A n c)).toArray 28)
  have hk := Blk.new w 28 (fcV f (.slice A n c))
  have hsz : (fcV f (.slice A n c)).toArray.size = 29 := by simp [fcV_length hft]
  have HZ := Lib.hid (show (Tryz.prog.info? 28).map (·.size) = some (fcV f (.slice A n c)).toArray.size by rw [hsz]; exact szFcI)
  have HF := Lib.hid hft
  have HVV := Lib.hid (validF_iff.1 hV)
  have HN := Lib.hid hn
  have HT := Lib.hid ht
  have HLS := Lib.hid (vText_ls ht)
  have HS := Lib.hid (hsl.next hB)
  have HM := Lib.hid (hmx.next hB)
  have h60 := size60 ht
  have HL60 := Lib.hid (show (⟨l.toArray⟩ : ByteArray).size ≤ 60 by have := vText_len60 ht; show l.toArray.size ≤ 60; simpa using this)
  have hlr := lineW_range (validF_iff.1 hV) ht
  have hin : inB 0 4000 m = true := inB_iff.2 hm0
  have HIN := Lib.hid hin
  have HC := Lib.hid (show askC f l true = 0 from by rw [askC_ok hV ht]; rfl)
  have hmany := words_count ht
  have hsub : IntKind.i64.wrap (m - lineW f l) = m - lineW f l := IntWalk.i64_in _ (by omega)
  clear hlr
  clear hft hn hsl hV ht hsz hmx
  clear hin hm0
  by_cases hle : m - lineW f l < 0
  · clear hno
    go_enter Tryz.func23, Tryz.ntmps23
    go_wp2_with (first
      | (first | (refine wpList_load_row rfl 28 (.tmp 2) rfl _ rfl 28 (fcV f (.slice A n c)).toArray _ _ hk Tryz.underlying28 rfl HZ.out ?_) | (refine wpList_load_row rfl 28 (.tmp 3) rfl _ rfl 28 (fcV f (.slice A n c)).toArray _ _ hk Tryz.underlying28 rfl HZ.out ?_))
      | (go_at_call 52; refine (wideCode_any f A n c ⟨l.toArray⟩ m _ HF.out HN.out (by omega) h60 HS.out HM.out).mono ?_; rintro e w1 ⟨he, hb1⟩; rw [bs_mk, HIN.out, HC.out] at he; subst he; have hk := hk.next hb1)
      | (go_at_call 32; refine (wide_impl f A n c ⟨l.toArray⟩ _ HF.out HVV.out HN.out (by omega) HLS.out HL60.out (HS.out.next hb1)).mono ?_; rintro e w2 ⟨he, hb2⟩; rw [bs_mk] at he; subst he)
      | (go_at_call 54; refine (spaces_any l _).mono ?_; rintro e _ ⟨rfl, rfl⟩))
    go_ret2
    exact ⟨_, _, ⟨rfl, SlE.nil⟩, below_step hB (below_step hb1 hb2)⟩
  · have HCN := Lib.hid (show (words l).length - 1 = 0 by omega)
    clear hno
    go_enter Tryz.func23, Tryz.ntmps23
    go_wp2_with (first
      | (first | (refine wpList_load_row rfl 28 (.tmp 2) rfl _ rfl 28 (fcV f (.slice A n c)).toArray _ _ hk Tryz.underlying28 rfl HZ.out ?_) | (refine wpList_load_row rfl 28 (.tmp 3) rfl _ rfl 28 (fcV f (.slice A n c)).toArray _ _ hk Tryz.underlying28 rfl HZ.out ?_))
      | (go_at_call 52; refine (wideCode_any f A n c ⟨l.toArray⟩ m _ HF.out HN.out (by omega) h60 HS.out HM.out).mono ?_; rintro e w1 ⟨he, hb1⟩; rw [bs_mk, HIN.out, HC.out] at he; subst he; have hk := hk.next hb1)
      | (go_at_call 32; refine (wide_impl f A n c ⟨l.toArray⟩ _ HF.out HVV.out HN.out (by omega) HLS.out HL60.out (HS.out.next hb1)).mono ?_; rintro e w2 ⟨he, hb2⟩; rw [bs_mk] at he; subst he)
      | (go_at_call 54; refine (spaces_any l _).mono ?_; rintro e _ ⟨he, rfl⟩; rw [HCN.out] at he; subst he))
    go_ret2
    exact ⟨_, _, ⟨rfl, SlE.nil⟩, below_step hB (below_step hb1 hb2)⟩
theorem inI_is {n lo hi : Int} (w : World) : Calls Tryz.prog 43 #[.int .i64 n, .int .i64 lo, .int .i64 hi] w fun e w' => e = .returned (.bool (inB lo hi n)) ∧ Below w.heap.size w w' :=
  (withinI_any n lo hi w).mono fun e w' ⟨he, hw⟩ => ⟨he, by rw [← hw]; exact Below.refl _ _⟩
attribute [local irreducible] wpQuiet in
set_option maxHeartbeats 2000000 in
set_option maxRecDepth 100000 in
theorem letterAt_impl (f : Fc) (S : Value) (l : List UInt8) (q : Int) (hq : 0 ≤ q ∧ q ≤ lineW f l - 1) (w : World) (hf : HasF w f S) (hV : validF f = true) (ht : vText l = true) (hmx : MaxW w) :
    Calls Tryz.prog 15 #[.agg (fcV f S).toArray, .string ⟨l.toArray⟩, .int .i64 q] w fun e w' => ∃ r cd, (e = .returned (.tuple #[.int .i64 r, .int .i64 cd]) ∧ LetR (plcA f (words l) (words l).length) (wdsA f (words l) (words l).length) q r cd) ∧ Below w.heap.size w w' := by
  obtain ⟨hft, A, n, c, rfl, hn, hm, hsl⟩ := hf
  have hB := below_one w (.cells (fcV f (.slice A n c)).toArray 28)
  have hk := Blk.new w 28 (fcV f (.slice A n c))
  have hsz : (fcV f (.slice A n c)).toArray.size = 29 := by simp [fcV_length hft]
  have HZ := Lib.hid (show (Tryz.prog.info? 28).map (·.size) = some (fcV f (.slice A n c)).toArray.size by rw [hsz]; exact szFcI)
  have HF := Lib.hid hft
  have HVV := Lib.hid (validF_iff.1 hV)
  have HN := Lib.hid hn
  have HT := Lib.hid ht
  have HLS := Lib.hid (vText_ls ht)
  have HS := Lib.hid (hsl.next hB)
  have HM := Lib.hid (hmx.next hB)
  have h60 := size60 ht
  have HL60 := Lib.hid (show (⟨l.toArray⟩ : ByteArray).size ≤ 60 by have := vText_len60 ht; show l.toArray.size ≤ 60; simpa using this)
  have HC := Lib.hid (show askC f l true = 0 from by rw [askC_ok hV ht]; rfl)
  have hlr := lineW_range (validF_iff.1 hV) ht
  have hin : inB 0 (lineW f l - 1) q = true := inB_iff.2 hq
  have HIN := Lib.hid hin
  have hsub : IntKind.i64.wrap (lineW f l - 1) = lineW f l - 1 := IntWalk.i64_in _ (by omega)
  have HPL := Lib.hid (plcA_len ht (f := f))
  have hp60 : (plcA f (words l) (words l).length).length ≤ 60 := by rw [plcA_lets f ht]; have := lets_length l; have := vText_len60 ht; omega
  have HRG := Lib.hid (fun i => plcA_rng (validF_iff.1 hV) ht (i := i))
  have HWL := Lib.hid (fun i hi => wdsA_let (f := f) ht (i := i) hi)
  have HLE := Lib.hid (plcA_lets f ht)
  have HLT := Lib.hid (lets_LL ht)
  have HPW := Lib.hid (plcA_words f ht)
  clear hin
  clear hft hn hsl hV ht hsz hmx
  go_enter Tryz.func15, Tryz.ntmps15
  go_wp2_with (first
    | (first | (refine wpList_load_row rfl 28 (.tmp 2) rfl _ rfl 28 (fcV f (.slice A n c)).toArray _ _ hk Tryz.underlying28 rfl HZ.out ?_) | (refine wpList_load_row rfl 28 (.tmp 3) rfl _ rfl 28 (fcV f (.slice A n c)).toArray _ _ hk Tryz.underlying28 rfl HZ.out ?_))
    | (go_at_call 31; refine (lineCode_any f A n c ⟨l.toArray⟩ _ HF.out HN.out (by omega) h60 HS.out HM.out).mono ?_; rintro e w1 ⟨he, hb1⟩; rw [bs_mk, HC.out] at he; subst he; have hk := hk.next hb1)
    | (go_at_call 36; refine (places_any f A n c ⟨l.toArray⟩ _ HF.out HVV.out HN.out (by omega) HLS.out HL60.out (HS.out.next hb1)).mono ?_; rw [bs_mk]; unfold PlOut; rw [← HPW.out]; rintro e w2 ⟨A2, c2, rfl, hb2, ho2⟩)
    | (go_at_call 43; refine (withinI_any _ _ _ _).mono ?_; rintro e _ ⟨he, rfl⟩; rw [HIN.out] at he; subst he))
  have HK := Lib.hid (hk.next hb2)
  have HB3 := Lib.hid (below_step hB (below_step hb1 hb2))
  have HP5 := Lib.hid ho2.sl
  have HM2 := Lib.hid ((HM.out.next hb1).next hb2)
  have HS2 := Lib.hid ((HS.out.next hb1).next hb2)
  clear hb1 hb2 hB hk ho2 HS HM HPW hsub
  obtain ⟨b0, hb0⟩ : ∃ b0, b0 = w.heap.size := ⟨_, rfl⟩
  rw [← hb0] at HK ⊢
  clear hb0
  obtain ⟨pl, hpl⟩ : ∃ pl, pl = plcA f (words l) (words l).length := ⟨_, rfl⟩
  obtain ⟨wd, hwd⟩ : ∃ wd, wd = wdsA f (words l) (words l).length := ⟨_, rfl⟩
  rw [← hpl, ← hwd] at HPL HRG
  rw [← hpl] at HP5 HLE hp60 ⊢
  have HPLE := Lib.hid hpl
  have HWDE := Lib.hid hwd
  rw [← hwd] at HWL
  have hlen := HPL.out
  have hlets := HLE.out
  clear hpl hwd HPL HLE
  go_loopw [32] (fun i wr => ∃ k : Nat, k ≤ pl.length ∧ i = .int .i64 k ∧ NoHit pl wd q k ∧ Below w2.heap.size w2 wr) (fun i _ => pl.length - (intOf i).toNat)
  case atStart => exact ⟨0, Nat.zero_le _, rfl, noHit_zero _ _ _, Below.refl _ _⟩
  case round =>
    obtain ⟨k, hk, rfl, hno, hbel⟩ := hrel
    have HNO := Lib.hid hno
    have HBL := Lib.hid hbel
    clear hno hbel
    by_cases hlt : k < pl.length
    · obtain ⟨a, rfl, ra⟩ := (HP5.out.next HBL.out).some k hlt
      have ca := ra.atI64 k hlt
      clear ra
      have hkl : k < (lets l).length := by omega
      have hkw : k < wd.length := by omega
      have hrg := HRG.out k hlt
      have HWK := Lib.hid (HWL.out k hkw)
      have HLK := Lib.hid (HLT.out k hkl)
      have e1 : IntKind.i64.wrap (rdI pl k + rdI wd k) = rdI pl k + rdI wd k := IntWalk.i64_in _ (by omega)
      have e2 : IntKind.i64.wrap (rdI pl k + rdI wd k - 1) = rdI pl k + rdI wd k - 1 := IntWalk.i64_in _ (by omega)
      have hks : k < (⟨(lets l).toArray⟩ : ByteArray).size := by show k < (lets l).toArray.size; simpa using hkl
      have HL2 := Lib.hid hlen
      clear hlen hrg hlets
      repeat ((with_reducible fail_if_success (show Code.wp _ (Code.region 10 _ _) _ _ _)); first | go_values | go_skip | go_guarded | go_step | go_upon)
      clear ca
      refine region_below (wr.heap.size) (by kernel_rfl) (by kernel_rfl) ?_
      refine below_run (by kernel_rfl) (.int .i64 q) (fun w' hw' => by kernel_rfl) ?_
      refine below_run (by kernel_rfl) (.int .i64 (rdI pl k)) (fun w' hw' => by kernel_rfl) ?_
      refine below_run (by kernel_rfl) (.int .i64 (rdI pl k)) (fun w' hw' => by kernel_rfl) ?_
      refine below_run (by kernel_rfl) (.agg (fcV f (.slice A n c)).toArray) (fun w' hw' => exec_load_row 28 (.tmp 3) rfl (b0) (by kernel_rfl) 28 (fcV f (.slice A n c)).toArray _ _ ((HK.out.next HBL.out).next hw') Tryz.underlying28 rfl (HZ.out)) ?_
      refine below_run (by kernel_rfl) (.string ⟨l.toArray⟩) (fun w' hw' => by kernel_rfl) ?_
      refine below_call (by kernel_rfl) 45 #[.string ⟨l.toArray⟩] (.string ⟨(lets l).toArray⟩) (fun w' => by kernel_rfl) (fun w' hw' => (letters_impl ⟨l.toArray⟩ w' h60 ((HM2.out.next HBL.out).next hw')).mono fun e w1 ⟨he, hb1⟩ => ⟨he, below_step hw' hb1⟩) ?_
      refine below_run (by kernel_rfl) (.int .i64 (k : Nat)) (fun w' hw' => by kernel_rfl) ?_
      refine below_run (by kernel_rfl) (.int .u8 (byt (lets l) k)) (fun w' hw' => exec_byte (.tmp 42) (.tmp 43) rfl ⟨(lets l).toArray⟩ (by kernel_rfl) k (by kernel_rfl) hks) ?_
      refine below_call (by kernel_rfl) 44 #[.agg (fcV f (.slice A n c)).toArray, .int .u8 (byt (lets l) k)] (.int .i64 (rdI f.wide (letN (lets l) k))) (fun w' => by kernel_rfl) (fun w' hw' => (letter_w f A n c (lets l) k w' HF.out HLK.out).mono fun e w1 ⟨he, hb1⟩ => ⟨he, below_step hw' hb1⟩) ?_
      refine below_run (by kernel_rfl) (.int .i64 (rdI pl k + rdI wd k)) (fun w' hw' => Eq.trans (show (execOp _ _).run _ w' = .ok (.value (.int .i64 (IntKind.i64.wrap (rdI pl k + rdI f.wide (letN (lets l) k))))) w' by kernel_rfl) (by rw [← HWK.out, e1])) ?_
      refine below_run (by kernel_rfl) (.int .i64 (rdI pl k + rdI wd k - 1)) (fun w' hw' => Eq.trans (show (execOp _ _).run _ w' = .ok (.value (.int .i64 (IntKind.i64.wrap (rdI pl k + rdI wd k - 1)))) w' by kernel_rfl) (by rw [e2])) ?_
      refine below_call (by kernel_rfl) 43 #[.int .i64 q, .int .i64 (rdI pl k), .int .i64 (rdI pl k + rdI wd k - 1)] (.bool (inB (rdI pl k) (rdI pl k + rdI wd k - 1) q)) (fun w' => by kernel_rfl) (fun w' hw' => (inI_is w').mono fun e w1 ⟨he, hb1⟩ => ⟨he, below_step hw' hb1⟩) ?_
      refine wpQuiet_nil ?_
      intro W6 hW6
      simp only [Act.put, List.setIfInBounds_toArray, List.set_cons_succ, List.set_cons_zero]
      have HBL := Lib.hid (below_step HBL.out hW6)
      clear hW6 e1 e2
      cases hhit : inB (rdI pl k) (rdI pl k + rdI wd k - 1) q
      · have HH := Lib.hid (inB_not.1 hhit)
        clear hhit
        repeat (first | go_values | go_skip | go_guarded | go_step | go_upon)
        go_roundw
        case rel => exact ⟨k + 1, hlt, by go_num, noHit_succ HNO.out HH.out, HBL.out⟩
        case measure => simp [intOf]; omega
      · have HH := Lib.hid (inB_iff.1 hhit)
        clear hhit
        repeat (first | go_values | go_skip | go_guarded | go_step | go_upon)
        go_ret2
        rw [← HPLE.out, ← HWDE.out]
        exact ⟨_, _, ⟨rfl, .inl ⟨rfl, k, hlt, rfl, HH.out, HNO.out⟩⟩, below_step HB3.out HBL.out⟩
    · obtain rfl : k = pl.length := by omega
      repeat (first | go_values | go_skip | go_guarded | go_step | go_upon)
      go_ret2
      rw [← HPLE.out, ← HWDE.out]
      exact ⟨_, _, ⟨rfl, .inr ⟨rfl, rfl, HNO.out⟩⟩, below_step HB3.out HBL.out⟩
end Go.Proofs.YtahggbaandcddaaGreatDoor
