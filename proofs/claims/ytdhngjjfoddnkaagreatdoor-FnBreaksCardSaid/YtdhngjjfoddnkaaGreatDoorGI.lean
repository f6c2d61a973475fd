/- The least width, plain: wider lines need no more breaks. No walk here. Contracts: the least width, by the reference. Contracts: the least width, by the program. -/
import Derived.Test.YtdhngjjfoddnkaaGreatDoorGH
namespace Go.Proofs.YtdhngjjfoddnkaaGreatDoor
open Go Go.RowKit
set_option linter.unusedVariables false
set_option linter.unusedSimpArgs false

theorem getD_cut {ws : List (List UInt8)} {a b k : Nat} (h : a + k < b) : (cutW ws a b).getD k [] = ws.getD (a + k) [] := by
  unfold cutW
  rw [List.getD, List.getD, List.getElem?_take_of_lt (by omega), List.getElem?_drop]
theorem sumW_cut (f : Fc) {ws : List (List UInt8)} {a b : Nat} (hb : b ≤ ws.length) {k : Nat} (hk : a + k ≤ b) : sumW f (cutW ws a b) k = sumW f ws (a + k) - sumW f ws a - (if a = 0 ∨ k = 0 then 0 else f.space) := by
  induction k with
  | zero => simp [sumW]
  | succ k ih =>
    rw [sumW, ih (by omega), getD_cut (by omega), ← Nat.add_assoc, sumW]
    by_cases ha : a = 0
    · subst ha
      simp [sumW]
    · by_cases hk0 : k = 0
      · subst hk0
        simp [ha]
        omega
      · have : ¬ (a + k = 0) := by omega
        simp [ha, hk0]
        omega
theorem lnW_sum {f : Fc} {ws : List (List UInt8)} (hw : Ws ws) {a b : Nat} (hab : a < b) (hb : b ≤ ws.length) : lnW f ws a b = sumW f ws b - sumW f ws a - (if a = 0 then 0 else f.space) := by
  unfold lnW
  rw [← sumW_join f _ (fun x hx => (hw.isw x (cutW_mem hx)).1), cutW_length hb, sumW_cut f hb (by omega)]
  have e : a + (b - a) = b := by omega
  have e2 : ¬ (b - a = 0) := by omega
  rw [e]
  simp [e2]
theorem sumW_le {f : Fc} (hf : FcV f) {ws : List (List UInt8)} (hw : Ws ws) {j k : Nat} (hjk : j ≤ k) (hk : k ≤ ws.length) : sumW f ws j ≤ sumW f ws k := by
  induction k with
  | zero => obtain rfl : j = 0 := by omega
            exact Int.le_refl _
  | succ k ih =>
    by_cases e : j = k + 1
    · subst e; exact Int.le_refl _
    · have h1 := ih (by omega) (by omega)
      have h2 := word_range hf (hw.isw _ (rdW_mem (show k < ws.length by omega))) (hw.len _ (rdW_mem (show k < ws.length by omega)))
      have h3 := hf.space
      unfold rdW at h2
      rw [sumW]
      split <;> omega
theorem lnW_mono {f : Fc} (hf : FcV f) {ws : List (List UInt8)} (hw : Ws ws) {a a' b' b : Nat} (ha : a ≤ a') (hab : a' < b') (hb' : b' ≤ b) (hb : b ≤ ws.length) : lnW f ws a' b' ≤ lnW f ws a b := by
  rw [lnW_sum hw hab (by omega), lnW_sum hw (by omega) hb]
  have h1 := sumW_le hf hw ha (by omega)
  have h2 := sumW_le hf hw hb' hb
  have h3 := hf.space
  by_cases e : a = 0
  · by_cases e' : a' = 0
    · simp [e, e'] at *; omega
    · simp [e, e'] at *; omega
  · have e' : ¬ a' = 0 := by omega
    simp [e, e']; omega
theorem fits_mono {f : Fc} {ws : List (List UInt8)} {m m' : Int} (hm : m ≤ m') (h : fits f ws m = true) : fits f ws m' = true :=
  fits_all fun j hj => Int.le_trans ((of_decide_eq_true h : FitsN f ws m ws.length) j hj) hm
/-- Wider lines: no more breaks; where as many, the open line begins no earlier. -/
theorem grd_mono {f : Fc} (hf : FcV f) {ws : List (List UInt8)} (hw : Ws ws) {m m' : Int} (hm : m ≤ m') {k : Nat} (hk : k ≤ ws.length) :
    (grd f ws m' k).1.length < (grd f ws m k).1.length ∨ ((grd f ws m' k).1.length = (grd f ws m k).1.length ∧ (grd f ws m k).2 ≤ (grd f ws m' k).2) := by
  induction k with
  | zero => exact .inr ⟨rfl, Nat.le_refl _⟩
  | succ k ih =>
    have h := ih (by omega)
    have r1 := grd_range f ws m k
    have r2 := grd_range f ws m' k
    by_cases c' : m' < lnW f ws (grd f ws m' k).2 (k + 1)
    · by_cases c : m < lnW f ws (grd f ws m k).2 (k + 1)
      · rw [grd_yes c', grd_yes c]
        simp only [List.length_append, List.length_singleton]
        omega
      · rw [grd_yes c', grd_no c]
        simp only [List.length_append, List.length_singleton]
        rcases h with h | ⟨h1, h2⟩
        · omega
        · have := lnW_mono hf hw h2 (show (grd f ws m' k).2 < k + 1 by omega) (Nat.le_refl (k + 1)) hk
          omega
    · by_cases c : m < lnW f ws (grd f ws m k).2 (k + 1)
      · rw [grd_no c', grd_yes c]
        simp only [List.length_append, List.length_singleton]
        omega
      · rw [grd_no c', grd_no c]
        exact h
/-- In such a width the words fit in so many lines. -/
def LeOk (f : Fc) (ws : List (List UInt8)) (n m : Int) : Prop := fits f ws m = true ∧ ((grd f ws m ws.length).1.length : Int) < n
theorem leOk_mono {f : Fc} (hf : FcV f) {ws : List (List UInt8)} (hw : Ws ws) {n m m' : Int} (hm : m ≤ m') (h : LeOk f ws n m) : LeOk f ws n m' := by
  refine ⟨fits_mono hm h.1, ?_⟩
  have h2 := h.2
  rcases grd_mono hf hw hm (Nat.le_refl ws.length) with h1 | ⟨h1, _⟩ <;> omega
theorem grd_top {f : Fc} (hf : FcV f) {ws : List (List UInt8)} (hw : Ws ws) {k : Nat} (hk : k ≤ ws.length) : grd f ws (lnW f ws 0 ws.length) k = ([], 0) := by
  induction k with
  | zero => rfl
  | succ k ih =>
    have h := ih (by omega)
    rw [grd_no, h]
    rw [h]
    have h1 : lnW f ws 0 (k + 1) ≤ lnW f ws 0 ws.length := lnW_mono hf hw (Nat.le_refl 0) (by omega) hk (Nat.le_refl _)
    show ¬ lnW f ws 0 ws.length < lnW f ws 0 (k + 1)
    omega
theorem leOk_top {f : Fc} (hf : FcV f) {ws : List (List UInt8)} (hw : Ws ws) {n : Int} (hn : 1 ≤ n) : LeOk f ws n (lnW f ws 0 ws.length) := by
  refine ⟨fits_all fun j hj => lnW_mono hf hw (Nat.zero_le j) (Nat.lt_succ_self j) hj (Nat.le_refl _), ?_⟩
  rw [grd_top hf hw (Nat.le_refl _)]
  simp; omega
def LeAt (f : Fc) (ws : List (List UInt8)) (n r : Int) : Prop := 0 ≤ r ∧ LeOk f ws n r ∧ ∀ j, 0 ≤ j → j < r → ¬ LeOk f ws n j
theorem LeAt.same {f : Fc} {ws : List (List UInt8)} {n r r' : Int} (h : LeAt f ws n r) (h' : LeAt f ws n r') : r = r' := by
  obtain ⟨a1, a2, a3⟩ := h
  obtain ⟨b1, b2, b3⟩ := h'
  rcases Int.lt_trichotomy r r' with hh | hh | hh
  · exact absurd a2 (b3 r a1 hh)
  · exact hh
  · exact absurd b2 (a3 r' b1 hh)
def LeR (f : Fc) (l : List UInt8) (n r c : Int) : Prop := c = askC f l (inB 1 60 n) ∧ ((¬ c = 0 ∧ r = 0) ∨ (c = 0 ∧ LeAt f (words l) n r))
theorem LeR.same {f : Fc} {l : List UInt8} {n r c r' c' : Int} (h : LeR f l n r c) (h' : LeR f l n r' c') : r' = r ∧ c' = c := by
  obtain ⟨a1, a2⟩ := h
  obtain ⟨b1, b2⟩ := h'
  refine ⟨?_, by rw [a1, b1]⟩
  rcases a2 with ⟨a2, a3⟩ | ⟨a2, a4⟩
  · rcases b2 with ⟨b2, b3⟩ | ⟨b2, b4⟩
    · omega
    · omega
  · rcases b2 with ⟨b2, b3⟩ | ⟨b2, b4⟩
    · omega
    · exact b4.same a4
def NoLe (f : Fc) (ws : List (List UInt8)) (n r : Int) : Prop := ∀ j, 0 ≤ j → j < r → ¬ LeOk f ws n j
theorem noLe_succ {f : Fc} {ws : List (List UInt8)} {n r : Int} (h : NoLe f ws n r) (hr : ¬ LeOk f ws n r) : NoLe f ws n (r + 1) := fun j h0 h1 => by
  by_cases e : j = r
  · subst e; exact hr
  · exact h j h0 (by omega)
theorem noLe_to {f : Fc} (hf : FcV f) {ws : List (List UInt8)} (hw : Ws ws) {n r : Int} (hr : ¬ LeOk f ws n r) : NoLe f ws n (r + 1) := fun j h0 h1 hh => hr (leOk_mono hf hw (by omega) hh)
theorem lineW_words (f : Fc) (l : List UInt8) : lineW f l = lnW f (words l) 0 (words l).length := by
  unfold lnW
  have : cutW (words l) 0 (words l).length = words l := by unfold cutW; simp
  rw [this, joinW_words]
end Go.Proofs.YtdhngjjfoddnkaaGreatDoor
namespace Go.Proofs.YtdhngjjfoddnkaaGreatDoor
open Go Go.RowKit
set_option linter.unusedVariables false
set_option linter.unusedSimpArgs false

/-- The least width, and a code. -/
def LeOut (f : Fc) (l : List UInt8) (n : Int) (w : World) (e : Ending) (w' : World) : Prop := ∃ r cd, e = .returned (.tuple #[.int .i64 r, .int .i64 cd]) ∧ LeR f l n r cd ∧ Below w.heap.size w w'

set_option maxHeartbeats 2000000 in
set_option maxRecDepth 100000 in
theorem least_spec (f : Fc) (A : Option Addr) (n c : Nat) (s : ByteArray) (m : Int) (w : World) (hf : FcT f) (hn : f.pairs.length = n) (hm : n ≤ 1048576) (hs : s.size ≤ 1048576) (h : SlP w A f.pairs) :
    Calls Tryz.prog 25 #[.agg (fcV f (.slice A n c)).toArray, .string s, .int .i64 m] w (LeOut f (bs s) m w) := by
  have hB := below_one w (.cells (fcV f (.slice A n c)).toArray 28)
  have hk := Blk.new w 28 (fcV f (.slice A n c))
  have hfa : FcAt (w.alloc (.cells (fcV f (.slice A n c)).toArray 28)) w.heap.size f n := ⟨A, c, hk, h.next hB⟩
  have HF := Lib.hid hf
  have HN := Lib.hid hn
  have HA := Lib.hid hfa
  clear hf hn h hfa hk
  obtain ⟨cd, hcd⟩ : ∃ cd, cd = askC f (bs s) (inB 1 60 m) := ⟨_, rfl⟩
  have HC := Lib.hid hcd
  by_cases h0 : cd = 0
  · obtain ⟨hv, ht, hinn⟩ := askC_zero (hcd.symm.trans h0)
    have hm1 := inB_iff.1 hinn
    clear hinn
    have HVV := Lib.hid (validF_iff.1 hv)
    have HW := Lib.hid (ws_words ht)
    have hcnt := words_count ht
    subst h0
    clear hv ht hcd
    go_enter Tryz.func25, Tryz.ntmps25
    go_wp2_with (first
      | (go_at_call 49; refine (inS_any _ _ _ _).mono ?_; rintro e w0 ⟨rfl, rfl⟩)
      | (go_at_call 48; refine (asked_spec f n w.heap.size s _ _ HF.out HN.out hm hs HA.out).mono ?_; rintro e w1 ⟨he, hb⟩; rw [← HC.out] at he; subst he; have hb1 := hb; clear hb)
      | (go_at_call 33; refine (words_spec s _ hs).mono ?_; rintro e w2 ⟨A1, c1, rfl, hc1, hb2, hsl, hA1⟩))
    have HA2 := Lib.hid ((HA.out.next hb1).next hb2)
    have hB2 := below_step (below_step hB hb1) hb2
    have HSL := Lib.hid hsl
    have HG := Lib.hid hA1
    clear hb1 hb2 hsl HA hB hA1
    obtain ⟨b0, hb0⟩ : ∃ b0, b0 = w.heap.size := ⟨_, rfl⟩
    rw [← hb0] at HA2 ⊢
    clear hb0
    obtain ⟨ws, hW⟩ : ∃ ws, ws = words (bs s) := ⟨_, rfl⟩
    have HWS := Lib.hid hW
    rw [← hW] at hcnt hc1 HW HSL HG ⊢
    clear hW
    have htop := lnW_range HVV.out HW.out 0 ws.length
    have HTOP := Lib.hid (leOk_top HVV.out HW.out (show (1 : Int) ≤ m by omega))
    generalize lnW f ws 0 ws.length = top at *
    go_loopw [10] (fun i wr => ∃ x : Int, 0 ≤ x ∧ x ≤ top ∧ i = .int .i64 x ∧ NoLe f ws m x ∧ Below w2.heap.size w2 wr) (fun i _ => (top - intOf i).toNat)
    case atStart => exact ⟨0, Int.le_refl _, htop.1, rfl, fun j h0 h1 => by omega, Below.refl _ _⟩
    case round =>
      obtain ⟨x, hx0, hx, rfl, hall, hbel⟩ := hrel
      have HALL := Lib.hid hall
      clear hall
      have HA3 := Lib.hid (HA2.out.next hbel)
      have HSL3 := Lib.hid (HSL.out.next hbel)
      cases hfit : fits f ws x
      · have HX := Lib.hid (noLe_succ HALL.out (fun h => by have h1 := h.1; rw [hfit] at h1; exact absurd h1 (by decide)))
        have hlt : x < top := by
          rcases Int.lt_or_eq_of_le hx with h | h
          · exact h
          · have h1 := HTOP.out.1
            rw [← h, hfit] at h1; cases h1
        have HFT := Lib.hid hfit
        clear hfit
        go_wp2_with (go_at_call 50; refine (fits_spec f n b0 A1 c1 ws x _ HF.out HVV.out HN.out hm HW.out HA3.out HSL3.out).mono ?_; rintro e w3 ⟨he, hb3⟩; rw [HFT.out] at he; subst he; have hbel := below_step hbel hb3; clear hb3)
        go_roundw
        case rel => exact ⟨x + 1, by omega, by omega, by go_num, HX.out, hbel⟩
        case measure => simp [intOf]; omega
      · have H1 := Lib.hid (grd_first hx0 hfit)
        have hgr := (grd_range f ws x ws.length).2
        by_cases hge : m ≤ ((grd f ws x ws.length).1.length : Int)
        · have HX := Lib.hid (noLe_succ HALL.out (fun h => by have := h.2; omega))
          have hlt : x < top := by
            rcases Int.lt_or_eq_of_le hx with h | h
            · exact h
            · have h1 := HTOP.out.2
              rw [← h] at h1; omega
          have HFT := Lib.hid hfit
          clear hfit
          go_wp2_with (first
            | (go_at_call 50; refine (fits_spec f n b0 A1 c1 ws x _ HF.out HVV.out HN.out hm HW.out HA3.out HSL3.out).mono ?_; rintro e w3 ⟨he, hb3⟩; rw [HFT.out] at he; subst he)
            | (go_at_call 32; refine (greedy_spec f n b0 A1 c1 ws x _ HF.out HVV.out HN.out hm HW.out (HA3.out.next hb3) (HSL3.out.next hb3) HG.out hc1 H1.out).mono ?_; rintro e w4 ⟨A4, c4, rfl, hb4, _⟩; have hbel := below_step (below_step hbel hb3) hb4; clear hb3 hb4))
          go_roundw
          case rel => exact ⟨x + 1, by omega, by omega, by go_num, HX.out, hbel⟩
          case measure => simp [intOf]; omega
        · have HX := Lib.hid (show LeAt f ws m x from ⟨hx0, ⟨hfit, by omega⟩, HALL.out⟩)
          have HFT := Lib.hid hfit
          clear hfit
          go_wp2_with (first
            | (go_at_call 50; refine (fits_spec f n b0 A1 c1 ws x _ HF.out HVV.out HN.out hm HW.out HA3.out HSL3.out).mono ?_; rintro e w3 ⟨he, hb3⟩; rw [HFT.out] at he; subst he)
            | (go_at_call 32; refine (greedy_spec f n b0 A1 c1 ws x _ HF.out HVV.out HN.out hm HW.out (HA3.out.next hb3) (HSL3.out.next hb3) HG.out hc1 H1.out).mono ?_; rintro e w4 ⟨A4, c4, rfl, hb4, _⟩; have hbel := below_step (below_step hbel hb3) hb4; clear hb3 hb4))
          go_ret2
          exact ⟨_, _, rfl, ⟨HC.out, .inr ⟨rfl, by rw [← HWS.out]; exact HX.out⟩⟩, hB2.trans (hbel.mono hB2.size)⟩
  · clear hcd
    go_enter Tryz.func25, Tryz.ntmps25
    go_wp2_with (first
      | (go_at_call 49; refine (inS_any _ _ _ _).mono ?_; rintro e w0 ⟨rfl, rfl⟩)
      | (go_at_call 48; refine (asked_spec f n w.heap.size s _ _ HF.out HN.out hm hs HA.out).mono ?_; rintro e w1 ⟨he, hb⟩; rw [← HC.out] at he; subst he; have hB := below_step hB hb; clear hb))
    go_ret2
    exact ⟨_, _, rfl, ⟨HC.out, .inl ⟨h0, rfl⟩⟩, hB⟩
end Go.Proofs.YtdhngjjfoddnkaaGreatDoor
namespace Go.Proofs.YtdhngjjfoddnkaaGreatDoor
open Go Go.RowKit
set_option linter.unusedVariables false
set_option linter.unusedSimpArgs false

theorem stV_set {f : Fc} (hf : FcT f) (S W : Value) (m x : Int) : (stV f S W m).set 30 (.int .i64 x) = stV f S W x := by
  unfold stV
  rw [List.set_append_right _ _ (by rw [fcV_length hf]; omega), fcV_length hf]
  rfl
theorem mid_range {a b : Int} (h0 : 0 ≤ a) (h : a < b) : a ≤ Int.tdiv (a + b) 2 ∧ Int.tdiv (a + b) 2 < b := by
  rw [Int.tdiv_eq_ediv_of_nonneg (by omega)]
  omega

set_option maxHeartbeats 4000000 in
set_option maxRecDepth 100000 in
theorem least_impl (f : Fc) (A : Option Addr) (n c : Nat) (s : ByteArray) (m : Int) (w : World) (hf : FcT f) (hn : f.pairs.length = n) (hm : n ≤ 1048576) (hs : s.size ≤ 1048576) (h : SlP w A f.pairs) (hmx : MaxW w) (hsp : SpT w) :
    Calls Tryz.prog 24 #[.agg (fcV f (.slice A n c)).toArray, .string s, .int .i64 m] w (LeOut f (bs s) m w) := by
  have hB := below_one w (.cells (fcV f (.slice A n c)).toArray 28)
  have hk := Blk.new w 28 (fcV f (.slice A n c))
  have HS := Lib.hid (h.next hB)
  have HM := Lib.hid (hmx.next hB)
  have HP := Lib.hid (hsp.next hB)
  have HF := Lib.hid hf
  have HN := Lib.hid hn
  have hsz : (fcV f (.slice A n c)).toArray.size = 29 := by simp [fcV_length hf]
  have HZ := Lib.hid (show (Tryz.prog.info? 28).map (·.size) = some (fcV f (.slice A n c)).toArray.size by rw [hsz]; exact szFcI)
  have e0 : inB 0 4000 0 = true := by decide
  clear hn h hmx hsp hsz hf
  go_enter Tryz.func24, Tryz.ntmps24
  go_wp2_with (refine wpList_load_row rfl 28 (.tmp 3) rfl _ rfl 28 (fcV f (.slice A n c)).toArray _ _ hk Tryz.underlying28 rfl HZ.out ?_)
  go_at_call 29
  refine (setterOf_impl f A n c s 0 _ HF.out HN.out hm hs HS.out HM.out HP.out).mono ?_
  unfold StOut
  rw [e0]
  clear e0
  rintro e w1 ⟨hb, ⟨hne, rfl⟩ | ⟨h0, g, rfl, hg, hgb⟩⟩
  · have HC := Lib.hid (wideCode_same hne (inB 1 60 m))
    have hB := below_step hB hb
    clear hb hk
    generalize askC f (bs s) true = cd at *
    go_wp2_with (refine wpList_store_new rfl 55 _ _ rfl zSt.toArray rfl rfl 55 _ szStI rfl (one_st _ _ _ _ _ _ _ _) ?_)
    go_ret2
    exact ⟨0, cd, rfl, ⟨HC.out.symm, .inl ⟨hne, rfl⟩⟩, step_alloc hB _⟩
  · obtain ⟨hv, ht, _⟩ := askC_zero h0
    have HC := Lib.hid (wideCode_rest h0 (inB 1 60 m))
    have HVV := Lib.hid (validF_iff.1 hv)
    have HW := Lib.hid (ws_words ht)
    have HCL := Lib.hid (cut_len ht)
    have HLS := Lib.hid (vText_ls ht)
    have HLW := Lib.hid (lineW_words f (bs s))
    have h60 : s.size ≤ 60 := by have := (vText_iff.1 ht).2; rwa [bs_length] at this
    have hS1 := HS.out.next hb
    have hk1 := hk.next hb
    have hB := below_step hB hb
    clear hv ht hb h0 hk
    have hb1 := below_one w1 (.cells (stV f (.slice A n c) (wS g (words (bs s))) 0).toArray 55)
    have hx := Blk.new w1 55 (stV f (.slice A n c) (wS g (words (bs s))) 0)
    have hk2 := hk1.next hb1
    have HG2 := Lib.hid (hgb.next hb1)
    have HS2 := Lib.hid (hS1.next hb1)
    clear hk1
    cases hin : inB 1 60 m
    · rw [hin] at HC
      have HI := Lib.hid hin
      clear hin
      go_wp2_with (first
        | (refine wpList_store_new rfl 55 _ _ rfl (stV f (.slice A n c) (wS g (words (bs s))) 0).toArray rfl rfl 55 _ (stSz HF.out _ _ _) (stOld HF.out _ _ _) (one_st _ _ _ _ _ _ _ _) ?_)
        | (go_at_call 47; refine (withinI_any _ _ _ _).mono ?_; rintro e w2 ⟨he, rfl⟩; rw [HI.out] at he; subst he))
      go_ret2
      exact ⟨0, 2, rfl, ⟨by rw [HI.out]; exact HC.out.symm, .inl ⟨by decide, rfl⟩⟩, step_alloc hB _⟩
    · have hm1 := inB_iff.1 hin
      rw [hin] at HC
      have HI := Lib.hid hin
      clear hin
      go_wp2_with (first
        | (refine wpList_store_new rfl 55 _ _ rfl (stV f (.slice A n c) (wS g (words (bs s))) 0).toArray rfl rfl 55 _ (stSz HF.out _ _ _) (stOld HF.out _ _ _) (one_st _ _ _ _ _ _ _ _) ?_)
        | (go_at_call 47; refine (withinI_any _ _ _ _).mono ?_; rintro e w2 ⟨he, rfl⟩; rw [HI.out] at he; subst he)
        | (refine wpList_load_row rfl 28 (.tmp 3) rfl _ rfl 28 (fcV f (.slice A n c)).toArray _ _ hk2 Tryz.underlying28 rfl HZ.out ?_))
      go_at_call 46
      refine (wide_impl f A n c s _ HF.out HVV.out HN.out hm HLS.out h60 HS2.out).mono ?_
      rintro e w4 ⟨he, hb4⟩
      rw [HLW.out] at he
      subst he
      obtain ⟨b1, hb1e⟩ : ∃ b1, b1 = w1.heap.size := ⟨_, rfl⟩
      have hx := hx.next hb4
      have hwb : w1.heap.size ≤ (w1.alloc (.cells (stV f (.slice A n c) (wS g (words (bs s))) 0).toArray 55)).heap.size := hb1.size
      have hbel4 : Below w1.heap.size w1 w4 := hb1.trans (hb4.mono hwb)
      have HGW := Lib.hid hgb
      have HSW := Lib.hid hS1
      have hb1 : b1 < w4.heap.size := by rw [hb1e]; exact hx.lt
      rw [← hb1e] at hx hbel4 ⊢
      have HB := Lib.hid hB
      have hwb1 : w.heap.size ≤ b1 := by rw [hb1e]; exact hB.size
      have HB1 := Lib.hid hb1e
      clear hb1e hB hb4 hwb HG2 HS2 hk2 hgb hS1 HLW HM HP HS
      obtain ⟨ws, hW⟩ : ∃ ws, ws = words (bs s) := ⟨_, rfl⟩
      have HWS := Lib.hid hW
      rw [← hW] at HW HGW HCL hx ⊢
      clear hW
      have htop := lnW_range HVV.out HW.out 0 ws.length
      have hmany := HW.out.many
      have HTOP := Lib.hid (leOk_top HVV.out HW.out (show (1 : Int) ≤ m by omega))
      generalize lnW f ws 0 ws.length = top at *
      go_wp2
      go_loopw [10, 11] (fun lo hi wr => ∃ a b x : Int, 0 ≤ a ∧ a ≤ b ∧ b ≤ top ∧ lo = .int .i64 a ∧ hi = .int .i64 b ∧ NoLe f ws m a ∧ LeOk f ws m b ∧ Blk wr b1 55 (stV f (.slice A n c) (wS g ws) x) ∧ Below b1 w1 wr) (fun lo hi _ => (intOf hi - intOf lo).toNat)
      case atStart => exact ⟨0, top, 0, Int.le_refl _, htop.1, Int.le_refl _, rfl, rfl, fun j h0 h1 => by omega, HTOP.out, hx, hbel4⟩
      clear hx hbel4 hb1
      case round =>
        obtain ⟨a, b, x, ha, hab, hb, rfl, rfl, hno, hok, hx, hbel⟩ := hrel
        have HNO := Lib.hid hno
        have HOK := Lib.hid hok
        clear hno hok
        by_cases hlt : a < b
        · have hmid := mid_range ha hlt
          obtain ⟨mid, hmd⟩ : ∃ mid, mid = Int.tdiv (a + b) 2 := ⟨_, rfl⟩
          rw [← hmd] at hmid
          have HMD := Lib.hid hmd.symm
          clear hmd
          have c30 := hx.cell 30 _ (stV_wide HF.out _ _ _)
          have hfz := hx.free 30
          have HWM := Lib.hid (show IntKind.i64.wrap mid = mid from IntWalk.i64_in _ (by omega))
          have hx2 := hx.set 30 (.int .i64 mid)
          rw [stV_set HF.out] at hx2
          have hbel2 : Below b1 w1 (wr.setCell ⟨b1, 30, none⟩ (.int .i64 mid)) := hbel.setCell (by simp) _
          have hlt2 := hx2.lt
          clear hx hbel
          go_wp2_with (first
            | (refine wpList_is (.binOp .quo 2 (.tmp 36) (.const (.int .i64 2)) 2) rfl rfl (.int .i64 mid) (Eq.trans (show (execOp _ _).run _ _ = .ok (.value (.int .i64 (IntKind.i64.wrap (Int.tdiv (a + b) 2)))) _ by kernel_rfl) (by rw [HMD.out, HWM.out])) ?_; simp only [Act.put, List.setIfInBounds_toArray, List.set_cons_succ, List.set_cons_zero])
            | (refine wpList_load_row rfl 55 (.tmp 8) rfl _ rfl 55 (stV f (.slice A n c) (wS g ws) mid).toArray _ _ hx2 Tryz.underlying55 rfl (stSz HF.out _ _ _) ?_))
          go_at_call 30
          refine (greedy_impl f A n c g ws mid _ HF.out HVV.out HN.out hm (HSW.out.next (by rw [← HB1.out]; exact hbel2)) HW.out HCL.out (by omega) (HGW.out.next (by rw [← HB1.out]; exact hbel2))).mono ?_
          rintro e w3 ⟨A3, n3, c3, rfl, hb3, hyes, hno⟩
          have hx3 := hx2.next hb3
          have hbel3 := hbel2.trans (hb3.mono (Nat.le_of_lt hlt2))
          have c30 := hx3.cell 30 _ (stV_wide HF.out _ _ _)
          have HX3 := Lib.hid hx3
          clear hb3 hx2 hx3 hbel2 hlt2 hfz
          cases hfit : fits f ws mid
          · have HNX := Lib.hid (noLe_to HVV.out HW.out (r := mid) (n := m) (fun h => by have h1 := h.1; rw [hfit] at h1; exact absurd h1 (by decide)))
            clear hyes hno
            go_wp2
            go_roundw
            case rel => exact ⟨mid + 1, b, mid, by omega, by omega, hb, by go_num, rfl, HNX.out, HOK.out, HX3.out, hbel3⟩
            case measure => simp [intOf]; omega
          · obtain ⟨rfl, _⟩ := hyes hfit
            clear hyes hno
            by_cases hl : ((grd f ws mid ws.length).1.length : Int) < m
            · have HOK2 := Lib.hid (show LeOk f ws m mid from ⟨hfit, hl⟩)
              go_wp2_with (go_at_call 37; refine (size64_any _ _ _ _).mono ?_; rintro e w5 ⟨rfl, rfl⟩)
              go_roundw
              case rel => exact ⟨a, mid, mid, by omega, by omega, by omega, rfl, rfl, HNO.out, HOK2.out, HX3.out, hbel3⟩
              case measure => simp [intOf]; omega
            · have HNX := Lib.hid (noLe_to HVV.out HW.out (r := mid) (n := m) (fun h => hl h.2))
              go_wp2_with (go_at_call 37; refine (size64_any _ _ _ _).mono ?_; rintro e w5 ⟨rfl, rfl⟩)
              go_roundw
              case rel => exact ⟨mid + 1, b, mid, by omega, by omega, hb, by go_num, rfl, HNX.out, HOK.out, HX3.out, hbel3⟩
              case measure => simp [intOf]; omega
        · obtain rfl : a = b := by omega
          have hBw := HB.out.trans (hbel.mono hwb1)
          clear hx
          go_wp2
          go_ret2
          exact ⟨_, _, rfl, ⟨by rw [HI.out]; exact HC.out.symm, .inr ⟨rfl, by rw [← HWS.out]; exact ⟨ha, HOK.out, HNO.out⟩⟩⟩, hBw⟩
end Go.Proofs.YtdhngjjfoddnkaaGreatDoor
