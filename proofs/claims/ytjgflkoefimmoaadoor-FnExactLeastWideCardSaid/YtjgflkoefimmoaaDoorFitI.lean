/- Contracts: as many words as fit, by the program. -/
import Derived.Test.YtjgflkoefimmoaaDoorFitS
import Derived.Test.YtjgflkoefimmoaaDoorWidI
namespace Go.Proofs.YtjgflkoefimmoaaDoor
open Go Go.RowKit
set_option linter.unusedVariables false
set_option linter.unusedSimpArgs false

theorem line_ls {ws : List (List UInt8)} (h : Ws ws) : LS (joinW ws) := joinW_ls h.isw
/-- The words of a text that is short enough. -/
theorem cut_len {l : List UInt8} (h : vText l = true) (a b : Nat) : (joinW (cutW (words l) a b)).length ≤ 60 := Nat.le_trans (joinW_cut l a b) (vText_iff.1 h).2

attribute [local irreducible] wpQuiet in
set_option maxHeartbeats 2000000 in
set_option maxRecDepth 100000 in
theorem longest_impl (f : Fc) (A : Option Addr) (n c : Nat) (s : ByteArray) (m : Int) (w : World) (hf : FcT f) (hn : f.pairs.length = n) (hm : n ≤ 1048576) (hs : s.size ≤ 1048576) (h : SlP w A f.pairs) (hmx : MaxW w) (hsp : SpT w) :
    Calls Tryd.prog 24 #[.agg (fcV f (.slice A n c)).toArray, .string s, .int .i64 m] w (FitOut f (bs s) m w) := by
  have hB := below_one w (.cells (fcV f (.slice A n c)).toArray 33)
  have hk := Blk.new w 33 (fcV f (.slice A n c))
  have HS := Lib.hid (h.next hB)
  have HM := Lib.hid (hmx.next hB)
  have HP := Lib.hid (hsp.next hB)
  have HF := Lib.hid hf
  have HN := Lib.hid hn
  have hsz : (fcV f (.slice A n c)).toArray.size = 29 := by simp [fcV_length hf]
  have HZ := Lib.hid (show (Tryd.prog.info? 33).map (·.size) = some (fcV f (.slice A n c)).toArray.size by rw [hsz]; exact szFcI)
  clear hf hn h hmx hsp hsz
  obtain ⟨cd, hcd⟩ : ∃ cd, cd = askC f (bs s) (inB 0 4000 m) := ⟨_, rfl⟩
  have HC := Lib.hid hcd
  by_cases h0 : cd = 0
  · obtain ⟨hv, ht, hinn⟩ := askC_zero (hcd.symm.trans h0)
    clear hinn
    have HVV := Lib.hid (validF_iff.1 hv)
    have HW := Lib.hid (ws_words ht)
    have HCL := Lib.hid (cut_len ht)
    have HT := Lib.hid ht
    have hcnt := words_count ht
    subst h0
    clear hv ht hcd
    go_enter Tryd.func24, Tryd.ntmps24
    go_wp2_with (first
      | (refine wpList_load_row rfl 33 (.tmp 3) rfl _ rfl 33 (fcV f (.slice A n c)).toArray _ _ hk Tryd.underlying33 rfl HZ.out ?_)
      | (go_at_call 59; refine (wideCode_any f A n c s m _ HF.out HN.out hm hs HS.out HM.out).mono ?_; rintro e w1 ⟨he, hb⟩; rw [← HC.out] at he; subst he; have hb1 := hb; clear hb)
      | (go_at_call 55; refine (fields_impl s _ HT.out (HP.out.next hb1)).mono ?_; rintro e w2 ⟨rfl, rfl⟩))
    have HK2 := Lib.hid ((hk.next hb1).alloc (.cells (wsV (words (bs s))).toArray 9))
    have HWS := Lib.hid (Blk.new w1 9 (wsV (words (bs s))))
    have hB2 := (below_step hB hb1).trans ((below_one w1 (.cells (wsV (words (bs s))).toArray 9)).mono (below_step hB hb1).size)
    have HS2 := Lib.hid ((HS.out.next hb1).next (below_one w1 (.cells (wsV (words (bs s))).toArray 9)))
    clear hb1 hB HP HM HS hk HT
    obtain ⟨b0, hb0⟩ : ∃ b0, b0 = w.heap.size := ⟨_, rfl⟩
    rw [← hb0] at HK2 ⊢
    clear hb0
    obtain ⟨g, hg⟩ : ∃ g, g = w1.heap.size := ⟨_, rfl⟩
    rw [← hg] at HWS ⊢
    clear hg
    generalize w1.alloc (.cells (wsV (words (bs s))).toArray 9) = W2 at *
    obtain ⟨ws, hW⟩ : ∃ ws, ws = words (bs s) := ⟨_, rfl⟩
    have HWE := Lib.hid hW
    rw [← hW] at hcnt HW HWS HCL ⊢
    clear hW
    go_loopw [10] (fun i wr => ∃ k : Nat, k ≤ ws.length ∧ i = .int .i64 k ∧ AllFit f ws m k ∧ Below W2.heap.size W2 wr) (fun i _ => ws.length - (intOf i).toNat)
    case atStart => exact ⟨0, Nat.zero_le _, rfl, fun j hj => by omega, Below.refl _ _⟩
    case round =>
      obtain ⟨k, hk, rfl, hall, hbel⟩ := hrel
      have HALL := Lib.hid hall
      clear hall
      have hB3 := hB2.trans (hbel.mono hB2.size)
      by_cases hlt : k < ws.length
      · have HCUT := Lib.hid (HCL.out 0 (k + 1))
        have HW3 := Lib.hid (HWS.out.next hbel)
        have HK3 := Lib.hid (HK2.out.next hbel)
        have HS3 := Lib.hid (HS2.out.next hbel)
        have hlt2 : decide ((k : Int) < (ws.length : Int)) = true := decide_eq_true (by omega)
        have hadd : IntKind.i64.wrap ((k : Int) + 1) = ((k + 1 : Nat) : Int) := by rw [IntWalk.i64_in _ (by omega)]; omega
        go_wp2
        refine region_below (wr.heap.size) (by kernel_rfl) (by kernel_rfl) ?_
        refine below_run (by kernel_rfl) (.int .i64 k) (fun w' hw' => by kernel_rfl) ?_
        refine below_run (by kernel_rfl) (.slice (some ⟨g, 0, none⟩) ws.length ws.length) (fun w' hw' => by kernel_rfl) ?_
        refine below_run (by kernel_rfl) (.int .i64 ws.length) (fun w' hw' => by kernel_rfl) ?_
        refine below_run (by kernel_rfl) (.bool true) (fun w' hw' => Eq.trans (show (execOp _ _).run _ w' = .ok (.value (.bool (decide ((k : Int) < (ws.length : Int))))) w' by kernel_rfl) (by rw [hlt2])) ?_
        refine below_run (by kernel_rfl) (.bool true) (fun w' hw' => by kernel_rfl) ?_
        refine below_run (by kernel_rfl) (.agg (fcV f (.slice A n c)).toArray) (fun w' hw' => exec_load_row 33 (.tmp 3) rfl (b0) (by kernel_rfl) 33 (fcV f (.slice A n c)).toArray _ _ (HK3.out.next hw') Tryd.underlying33 rfl (HZ.out)) ?_
        refine below_run (by kernel_rfl) (.slice (some ⟨g, 0, none⟩) ws.length ws.length) (fun w' hw' => by kernel_rfl) ?_
        refine below_run (by kernel_rfl) (.int .i64 k) (fun w' hw' => by kernel_rfl) ?_
        refine below_run (by kernel_rfl) (.int .i64 ((k + 1 : Nat) : Int)) (fun w' hw' => Eq.trans (show (execOp _ _).run _ w' = .ok (.value (.int .i64 (IntKind.i64.wrap ((k : Int) + 1)))) w' by kernel_rfl) (by rw [hadd])) ?_
        refine below_run (by kernel_rfl) (.slice (some ⟨g, 0, none⟩) (k + 1) ws.length) (fun w' hw' => exec_slice0 (.tmp 26) (.tmp 28) rfl ⟨g, 0, none⟩ ws.length ws.length (k + 1) (by kernel_rfl) (by kernel_rfl) hlt (by omega)) ?_
        refine below_call (by kernel_rfl) 60 #[.slice (some ⟨g, 0, none⟩) (k + 1) ws.length, .string ⟨#[32]⟩] (.string ⟨(joinW (cutW ws 0 (k + 1))).toArray⟩) (fun w' => by kernel_rfl) (fun w' hw' => (join_impl g 0 (k + 1) ws.length ws w' hlt (by omega) hcnt (by have := HCUT.out; omega) (HW3.out.next hw')).mono fun e w1 ⟨he, hb1⟩ => ⟨he, below_step hw' hb1⟩) ?_
        refine below_call (by kernel_rfl) 56 #[.agg (fcV f (.slice A n c)).toArray, .string ⟨(joinW (cutW ws 0 (k + 1))).toArray⟩] (.int .i64 (lnW f ws 0 (k + 1))) (fun w' => by kernel_rfl) (fun w' hw' => (wide_impl f A n c ⟨(joinW (cutW ws 0 (k + 1))).toArray⟩ w' HF.out HVV.out HN.out hm (line_ls (HW.out.cut _ _)) HCUT.out (HS3.out.next hw')).mono fun e w1 ⟨he, hb1⟩ => ⟨he, below_step hw' hb1⟩) ?_
        refine below_run (by kernel_rfl) (.int .i64 m) (fun w' hw' => by kernel_rfl) ?_
        by_cases hle : lnW f ws 0 (k + 1) ≤ m
        · have HNX := Lib.hid (allFit_succ HALL.out hle)
          have hled : decide (lnW f ws 0 (k + 1) ≤ m) = true := decide_eq_true hle
          refine below_run (by kernel_rfl) (.bool true) (fun w' hw' => Eq.trans (show (execOp _ _).run _ w' = .ok (.value (.bool (decide (lnW f ws 0 (k + 1) ≤ m)))) w' by kernel_rfl) (by rw [hled])) ?_
          refine below_run (by kernel_rfl) (.bool true) (fun w' hw' => by kernel_rfl) ?_
          refine wpQuiet_nil ?_
          intro W3 hW3
          simp only [Act.put, List.setIfInBounds_toArray, List.set_cons_succ, List.set_cons_zero]
          have hbel := below_step hbel hW3
          clear hadd hW3 hlt2 hled
          go_wp2
          go_roundw
          case rel => exact ⟨k + 1, by omega, by go_num, HNX.out, hbel⟩
          case measure => simp [intOf]; omega
        · have hled : decide (lnW f ws 0 (k + 1) ≤ m) = false := decide_eq_false hle
          refine below_run (by kernel_rfl) (.bool false) (fun w' hw' => Eq.trans (show (execOp _ _).run _ w' = .ok (.value (.bool (decide (lnW f ws 0 (k + 1) ≤ m)))) w' by kernel_rfl) (by rw [hled])) ?_
          refine below_run (by kernel_rfl) (.bool false) (fun w' hw' => by kernel_rfl) ?_
          refine wpQuiet_nil ?_
          intro W3 hW3
          simp only [Act.put, List.setIfInBounds_toArray, List.set_cons_succ, List.set_cons_zero]
          have hbel := below_step hbel hW3
          have hB4 := hB2.trans (hbel.mono hB2.size)
          clear hadd hW3 hlt2 hled
          go_wp2
          go_ret2
          exact ⟨_, _, rfl, ⟨HC.out, .inr ⟨rfl, k, rfl, by rw [← HWE.out]; exact ⟨hk, HALL.out, fun _ => by omega⟩⟩⟩, hB4⟩
      · obtain rfl : k = ws.length := by omega
        have hlt2 : decide ((ws.length : Int) < (ws.length : Int)) = false := decide_eq_false (by omega)
        go_wp2
        refine region_below (wr.heap.size) (by kernel_rfl) (by kernel_rfl) ?_
        refine below_run (by kernel_rfl) (.int .i64 ws.length) (fun w' hw' => by kernel_rfl) ?_
        refine below_run (by kernel_rfl) (.slice (some ⟨g, 0, none⟩) ws.length ws.length) (fun w' hw' => by kernel_rfl) ?_
        refine below_run (by kernel_rfl) (.int .i64 ws.length) (fun w' hw' => by kernel_rfl) ?_
        refine below_run (by kernel_rfl) (.bool false) (fun w' hw' => Eq.trans (show (execOp _ _).run _ w' = .ok (.value (.bool (decide ((ws.length : Int) < (ws.length : Int))))) w' by kernel_rfl) (by rw [hlt2])) ?_
        refine below_run (by kernel_rfl) (.bool false) (fun w' hw' => by kernel_rfl) ?_
        refine BigFrame.wpQuiet_skip (by kernel_rfl) ?_
        refine BigFrame.wpQuiet_skip (by kernel_rfl) ?_
        refine BigFrame.wpQuiet_skip (by kernel_rfl) ?_
        refine BigFrame.wpQuiet_skip (by kernel_rfl) ?_
        refine BigFrame.wpQuiet_skip (by kernel_rfl) ?_
        refine BigFrame.wpQuiet_skip (by kernel_rfl) ?_
        refine BigFrame.wpQuiet_skip (by kernel_rfl) ?_
        refine BigFrame.wpQuiet_skip (by kernel_rfl) ?_
        refine BigFrame.wpQuiet_skip (by kernel_rfl) ?_
        refine below_run (by kernel_rfl) (.bool false) (fun w' hw' => by kernel_rfl) ?_
        refine wpQuiet_nil ?_
        intro W3 hW3
        simp only [Act.put, List.setIfInBounds_toArray, List.set_cons_succ, List.set_cons_zero]
        have hbel := below_step hbel hW3
        have hB4 := hB2.trans (hbel.mono hB2.size)
        clear hW3 hlt2
        go_wp2
        go_ret2
        exact ⟨_, _, rfl, ⟨HC.out, .inr ⟨rfl, _, rfl, by rw [← HWE.out]; exact ⟨Nat.le_refl _, HALL.out, fun h => by omega⟩⟩⟩, hB4⟩
  · clear hcd
    go_enter Tryd.func24, Tryd.ntmps24
    go_wp2_with (first
      | (refine wpList_load_row rfl 33 (.tmp 3) rfl _ rfl 33 (fcV f (.slice A n c)).toArray _ _ hk Tryd.underlying33 rfl HZ.out ?_)
      | (go_at_call 59; refine (wideCode_any f A n c s m _ HF.out HN.out hm hs HS.out HM.out).mono ?_; rintro e w1 ⟨he, hb⟩; rw [← HC.out] at he; subst he; have hB := below_step hB hb; clear hb))
    go_ret2
    exact ⟨_, _, rfl, ⟨HC.out, .inl ⟨h0, rfl⟩⟩, hB⟩
end Go.Proofs.YtjgflkoefimmoaaDoor
