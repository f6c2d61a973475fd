/- Contracts: the least width, by the program. -/
import Derived.Test.YtjgflkoefimmoaaDoorGbI
import Derived.Test.YtjgflkoefimmoaaDoorLeS
namespace Go.Proofs.YtjgflkoefimmoaaDoor
open Go Go.RowKit
set_option linter.unusedVariables false
set_option linter.unusedSimpArgs false

theorem stV_set {f : Fc} (hf : FcT f) (S W : Value) (m x : Int) : (stV f S W m).set 30 (.int .i64 x) = stV f S W x := by
  unfold stV
  rw [List.set_append_right _ _ (by rw [fcV_length hf]; omega), fcV_length hf]
  rfl
theorem mid_range {a b : Int} (h0 : 0 ≤ a) (h : a < b) : a ≤ Int.tdiv (a + b) 2 ∧ Int.tdiv (a + b) 2 < b := by
  rw [Int.tdiv_eq_ediv_of_nonneg (by omega)]
  omega

set_option maxHeartbeats 4000000 in
set_option maxRecDepth 100000 in
theorem least_impl (f : Fc) (A : Option Addr) (n c : Nat) (s : ByteArray) (m : Int) (w : World) (hf : FcT f) (hn : f.pairs.length = n) (hm : n ≤ 1048576) (hs : s.size ≤ 1048576) (h : SlP w A f.pairs) (hmx : MaxW w) (hsp : SpT w) :
    Calls Tryd.prog 26 #[.agg (fcV f (.slice A n c)).toArray, .string s, .int .i64 m] w (LeOut f (bs s) m w) := by
  have hB := below_one w (.cells (fcV f (.slice A n c)).toArray 33)
  have hk := Blk.new w 33 (fcV f (.slice A n c))
  have HS := Lib.hid (h.next hB)
  have HM := Lib.hid (hmx.next hB)
  have HP := Lib.hid (hsp.next hB)
  have HF := Lib.hid hf
  have HN := Lib.hid hn
  have hsz : (fcV f (.slice A n c)).toArray.size = 29 := by simp [fcV_length hf]
  have HZ := Lib.hid (show (Tryd.prog.info? 33).map (·.size) = some (fcV f (.slice A n c)).toArray.size by rw [hsz]; exact szFcI)
  have e0 : inB 0 4000 0 = true := by decide
  clear hn h hmx hsp hsz hf
  go_enter Tryd.func26, Tryd.ntmps26
  go_wp2_with (refine wpList_load_row rfl 33 (.tmp 3) rfl _ rfl 33 (fcV f (.slice A n c)).toArray _ _ hk Tryd.underlying33 rfl HZ.out ?_)
  go_at_call 64
  refine (setterOf_impl f A n c s 0 _ HF.out HN.out hm hs HS.out HM.out HP.out).mono ?_
  unfold StOut
  rw [e0]
  clear e0
  rintro e w1 ⟨hb, ⟨hne, rfl⟩ | ⟨h0, g, rfl, hg, hgb⟩⟩
  · have HC := Lib.hid (wideCode_same hne (inB 1 60 m))
    have hB := below_step hB hb
    clear hb hk
    generalize askC f (bs s) true = cd at *
    go_wp2_with (refine wpList_store_new rfl 77 _ _ rfl zSt.toArray rfl rfl 77 _ szStI rfl (one_st _ _ _ _ _ _ _ _) ?_)
    go_ret2
    exact ⟨0, cd, rfl, ⟨HC.out.symm, .inl ⟨hne, rfl⟩⟩, step_alloc hB _⟩
  · obtain ⟨hv, ht, _⟩ := askC_zero h0
    have HC := Lib.hid (wideCode_rest h0 (inB 1 60 m))
    have HVV := Lib.hid (validF_iff.1 hv)
    have HW := Lib.hid (ws_words ht)
    have HCL := Lib.hid (cut_len ht)
    have HLS := Lib.hid (vText_ls ht)
    have HLW := Lib.hid (lineW_words f (bs s))
    have h60 : s.size ≤ 60 := by have := (vText_iff.1 ht).2; rwa [bs_length] at this
    have hS1 := HS.out.next hb
    have hk1 := hk.next hb
    have hB := below_step hB hb
    clear hv ht hb h0 hk
    have hb1 := below_one w1 (.cells (stV f (.slice A n c) (wS g (words (bs s))) 0).toArray 77)
    have hx := Blk.new w1 77 (stV f (.slice A n c) (wS g (words (bs s))) 0)
    have hk2 := hk1.next hb1
    have HG2 := Lib.hid (hgb.next hb1)
    have HS2 := Lib.hid (hS1.next hb1)
    clear hk1
    cases hin : inB 1 60 m
    · rw [hin] at HC
      have HI := Lib.hid hin
      clear hin
      go_wp2_with (first
        | (refine wpList_store_new rfl 77 _ _ rfl (stV f (.slice A n c) (wS g (words (bs s))) 0).toArray rfl rfl 77 _ (stSz HF.out _ _ _) (stOld HF.out _ _ _) (one_st _ _ _ _ _ _ _ _) ?_)
        | (go_at_call 65; refine (withinI_any _ _ _ _).mono ?_; rintro e w2 ⟨he, rfl⟩; rw [HI.out] at he; subst he))
      go_ret2
      exact ⟨0, 2, rfl, ⟨by rw [HI.out]; exact HC.out.symm, .inl ⟨by decide, rfl⟩⟩, step_alloc hB _⟩
    · have hm1 := inB_iff.1 hin
      rw [hin] at HC
      have HI := Lib.hid hin
      clear hin
      go_wp2_with (first
        | (refine wpList_store_new rfl 77 _ _ rfl (stV f (.slice A n c) (wS g (words (bs s))) 0).toArray rfl rfl 77 _ (stSz HF.out _ _ _) (stOld HF.out _ _ _) (one_st _ _ _ _ _ _ _ _) ?_)
        | (go_at_call 65; refine (withinI_any _ _ _ _).mono ?_; rintro e w2 ⟨he, rfl⟩; rw [HI.out] at he; subst he)
        | (refine wpList_load_row rfl 33 (.tmp 3) rfl _ rfl 33 (fcV f (.slice A n c)).toArray _ _ hk2 Tryd.underlying33 rfl HZ.out ?_))
      go_at_call 56
      refine (wide_impl f A n c s _ HF.out HVV.out HN.out hm HLS.out h60 HS2.out).mono ?_
      rintro e w4 ⟨he, hb4⟩
      rw [HLW.out] at he
      subst he
      obtain ⟨b1, hb1e⟩ : ∃ b1, b1 = w1.heap.size := ⟨_, rfl⟩
      have hx := hx.next hb4
      have hwb : w1.heap.size ≤ (w1.alloc (.cells (stV f (.slice A n c) (wS g (words (bs s))) 0).toArray 77)).heap.size := hb1.size
      have hbel4 : Below w1.heap.size w1 w4 := hb1.trans (hb4.mono hwb)
      have HGW := Lib.hid hgb
      have HSW := Lib.hid hS1
      have hb1 : b1 < w4.heap.size := by rw [hb1e]; exact hx.lt
      rw [← hb1e] at hx hbel4 ⊢
      have HB := Lib.hid hB
      have hwb1 : w.heap.size ≤ b1 := by rw [hb1e]; exact hB.size
      have HB1 := Lib.hid hb1e
      clear hb1e hB hb4 hwb HG2 HS2 hk2 hgb hS1 HLW HM HP HS
      obtain ⟨ws, hW⟩ : ∃ ws, ws = words (bs s) := ⟨_, rfl⟩
      have HWS := Lib.hid hW
      rw [← hW] at HW HGW HCL hx ⊢
      clear hW
      have htop := lnW_range HVV.out HW.out 0 ws.length
      have hmany := HW.out.many
      have HTOP := Lib.hid (leOk_top HVV.out HW.out (show (1 : Int) ≤ m by omega))
      generalize lnW f ws 0 ws.length = top at *
      go_wp2
      go_loopw [10, 11] (fun lo hi wr => ∃ a b x : Int, 0 ≤ a ∧ a ≤ b ∧ b ≤ top ∧ lo = .int .i64 a ∧ hi = .int .i64 b ∧ NoLe f ws m a ∧ LeOk f ws m b ∧ Blk wr b1 77 (stV f (.slice A n c) (wS g ws) x) ∧ Below b1 w1 wr) (fun lo hi _ => (intOf hi - intOf lo).toNat)
      case atStart => exact ⟨0, top, 0, Int.le_refl _, htop.1, Int.le_refl _, rfl, rfl, fun j h0 h1 => by omega, HTOP.out, hx, hbel4⟩
      clear hx hbel4 hb1
      case round =>
        obtain ⟨a, b, x, ha, hab, hb, rfl, rfl, hno, hok, hx, hbel⟩ := hrel
        have HNO := Lib.hid hno
        have HOK := Lib.hid hok
        clear hno hok
        by_cases hlt : a < b
        · have hmid := mid_range ha hlt
          obtain ⟨mid, hmd⟩ : ∃ mid, mid = Int.tdiv (a + b) 2 := ⟨_, rfl⟩
          rw [← hmd] at hmid
          have HMD := Lib.hid hmd.symm
          clear hmd
          have c30 := hx.cell 30 _ (stV_wide HF.out _ _ _)
          have hfz := hx.free 30
          have HWM := Lib.hid (show IntKind.i64.wrap mid = mid from IntWalk.i64_in _ (by omega))
          have hx2 := hx.set 30 (.int .i64 mid)
          rw [stV_set HF.out] at hx2
          have hbel2 : Below b1 w1 (wr.setCell ⟨b1, 30, none⟩ (.int .i64 mid)) := hbel.setCell (by simp) _
          have hlt2 := hx2.lt
          clear hx hbel
          go_wp2_with (first
            | (refine wpList_is (.binOp .quo 2 (.tmp 36) (.const (.int .i64 2)) 2) rfl rfl (.int .i64 mid) (Eq.trans (show (execOp _ _).run _ _ = .ok (.value (.int .i64 (IntKind.i64.wrap (Int.tdiv (a + b) 2)))) _ by kernel_rfl) (by rw [HMD.out, HWM.out])) ?_; simp only [Act.put, List.setIfInBounds_toArray, List.set_cons_succ, List.set_cons_zero])
            | (refine wpList_load_row rfl 77 (.tmp 8) rfl _ rfl 77 (stV f (.slice A n c) (wS g ws) mid).toArray _ _ hx2 Tryd.underlying77 rfl (stSz HF.out _ _ _) ?_))
          go_at_call 66
          refine (greedy_impl f A n c g ws mid _ HF.out HVV.out HN.out hm (HSW.out.next (by rw [← HB1.out]; exact hbel2)) HW.out HCL.out (by omega) (HGW.out.next (by rw [← HB1.out]; exact hbel2))).mono ?_
          rintro e w3 ⟨A3, n3, c3, rfl, hb3, hyes, hno⟩
          have hx3 := hx2.next hb3
          have hbel3 := hbel2.trans (hb3.mono (Nat.le_of_lt hlt2))
          have c30 := hx3.cell 30 _ (stV_wide HF.out _ _ _)
          have HX3 := Lib.hid hx3
          clear hb3 hx2 hx3 hbel2 hlt2 hfz
          cases hfit : fits f ws mid
          · have HNX := Lib.hid (noLe_to HVV.out HW.out (r := mid) (n := m) (fun h => by have h1 := h.1; rw [hfit] at h1; exact absurd h1 (by decide)))
            clear hyes hno
            go_wp2
            go_roundw
            case rel => exact ⟨mid + 1, b, mid, by omega, by omega, hb, by go_num, rfl, HNX.out, HOK.out, HX3.out, hbel3⟩
            case measure => simp [intOf]; omega
          · obtain ⟨rfl, _⟩ := hyes hfit
            clear hyes hno
            by_cases hl : ((grd f ws mid ws.length).1.length : Int) < m
            · have HOK2 := Lib.hid (show LeOk f ws m mid from ⟨hfit, hl⟩)
              go_wp2_with (go_at_call 67; refine (size64_any _ _ _ _).mono ?_; rintro e w5 ⟨rfl, rfl⟩)
              go_roundw
              case rel => exact ⟨a, mid, mid, by omega, by omega, by omega, rfl, rfl, HNO.out, HOK2.out, HX3.out, hbel3⟩
              case measure => simp [intOf]; omega
            · have HNX := Lib.hid (noLe_to HVV.out HW.out (r := mid) (n := m) (fun h => hl h.2))
              go_wp2_with (go_at_call 67; refine (size64_any _ _ _ _).mono ?_; rintro e w5 ⟨rfl, rfl⟩)
              go_roundw
              case rel => exact ⟨mid + 1, b, mid, by omega, by omega, hb, by go_num, rfl, HNX.out, HOK.out, HX3.out, hbel3⟩
              case measure => simp [intOf]; omega
        · obtain rfl : a = b := by omega
          have hBw := HB.out.trans (hbel.mono hwb1)
          clear hx
          go_wp2
          go_ret2
          exact ⟨_, _, rfl, ⟨by rw [HI.out]; exact HC.out.symm, .inr ⟨rfl, by rw [← HWS.out]; exact ⟨ha, HOK.out, HNO.out⟩⟩⟩, hBw⟩
end Go.Proofs.YtjgflkoefimmoaaDoor
