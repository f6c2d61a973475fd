/- The widest word, plain. No walk here. Contracts: the widest word, by the reference. Contracts: the widest word, by the program. Contracts: how wide a few words are as a line, by the reference. Contracts: as many words as fit, by the reference. Contracts: as many words as fit, by the program. -/
import Derived.Test.YtahggbaandcddaaGreatDoorGC
import Derived.Test.YtahggbaandcddaaGreatDoorGF
import Derived.OwnWalk
namespace Go.Proofs.YtahggbaandcddaaGreatDoor
open Go Go.RowKit
set_option linter.unusedVariables false
set_option linter.unusedSimpArgs false

/-- The widest of the first k words, and how wide it is; -1 before the first. -/
def bst (f : Fc) (ws : List (List UInt8)) : Nat → Int × Int
  | 0 => (-1, 0)
  | k + 1 => if (bst f ws k).2 < lineW f (rdW ws k) then ((k : Int), lineW f (rdW ws k)) else bst f ws k
theorem bst_yes {f : Fc} {ws : List (List UInt8)} {k : Nat} (h : (bst f ws k).2 < lineW f (rdW ws k)) : bst f ws (k + 1) = ((k : Int), lineW f (rdW ws k)) := by rw [bst, if_pos h]
theorem bst_no {f : Fc} {ws : List (List UInt8)} {k : Nat} (h : ¬ (bst f ws k).2 < lineW f (rdW ws k)) : bst f ws (k + 1) = bst f ws k := by rw [bst, if_neg h]
theorem word_range {f : Fc} (hf : FcV f) {l : List UInt8} (hl : IsW l) (h60 : l.length ≤ 60) : 1 ≤ lineW f l ∧ lineW f l ≤ 3600 := by
  have := atW_range hf hl.1.ls (Nat.le_refl l.length)
  have := hl.2
  unfold lineW; omega
theorem bst_range {f : Fc} (hf : FcV f) {ws : List (List UInt8)} (hw : ∀ x ∈ ws, IsW x) (h60 : ∀ x ∈ ws, x.length ≤ 60) {k : Nat} (hk : k ≤ ws.length) :
    (k = 0 ∧ bst f ws k = (-1, 0)) ∨ (0 < k ∧ 0 ≤ (bst f ws k).1 ∧ (bst f ws k).1 < (k : Int) ∧ 1 ≤ (bst f ws k).2 ∧ (bst f ws k).2 ≤ 3600) := by
  induction k with
  | zero => exact .inl ⟨rfl, rfl⟩
  | succ k ih =>
    right
    have hr := word_range hf (hw _ (rdW_mem (show k < ws.length by omega))) (h60 _ (rdW_mem (show k < ws.length by omega)))
    by_cases h : (bst f ws k).2 < lineW f (rdW ws k)
    · rw [bst_yes h]; simp; omega
    · rw [bst_no h]
      rcases ih (by omega) with ⟨rfl, e⟩ | ⟨h1, h2, h3, h4, h5⟩
      · rw [e] at h; simp at h; omega
      · push_cast; omega
/-- What WidestWord answers. -/
def widOut (f : Fc) (l : List UInt8) : Int × Int × Int :=
  if validF f && vText l then (if words l = [] then (0, 0, 6) else ((bst f (words l) (words l).length).1, (bst f (words l) (words l).length).2, 0)) else (0, 0, 1)
theorem widOut_no {f : Fc} {l : List UInt8} (h : ¬ (validF f = true ∧ vText l = true)) : widOut f l = (0, 0, 1) := by
  unfold widOut
  rw [if_neg]; simpa using h
theorem widOut_nil {f : Fc} {l : List UInt8} (h : validF f = true) (k : vText l = true) (hw : words l = []) : widOut f l = (0, 0, 6) := by unfold widOut; rw [h, k, hw]; rfl
theorem widOut_ok {f : Fc} {l : List UInt8} (h : validF f = true) (k : vText l = true) (hw : ¬ words l = []) : widOut f l = ((bst f (words l) (words l).length).1, (bst f (words l) (words l).length).2, 0) := by
  unfold widOut; rw [h, k, if_neg hw]; rfl
theorem word_len {l x : List UInt8} (ht : vText l = true) (hx : x ∈ words l) : x.length ≤ 60 := by
  have h60 := (vText_iff.1 ht).2
  have hj := joinW_words l
  obtain ⟨i, hi, rfl⟩ := List.getElem_of_mem hx
  have := joinW_take_length (ws := words l) i 1
  rw [hj] at this
  have e : (List.drop i (words l)).take 1 = [(words l)[i]] := by
    rw [List.drop_eq_getElem_cons hi]; rfl
  rw [e, joinW_one] at this
  omega
end Go.Proofs.YtahggbaandcddaaGreatDoor
namespace Go.Proofs.YtahggbaandcddaaGreatDoor
open Go Go.RowKit
set_option linter.unusedVariables false
set_option linter.unusedSimpArgs false

/-- Three numbers. -/
def tripV (p : Int × Int × Int) : Value := .tuple #[.int .i64 p.1, .int .i64 p.2.1, .int .i64 p.2.2]
theorem retT {p q : Int × Int × Int} (h : p = q) : Ending.returned (.tuple #[.int .i64 p.1, .int .i64 p.2.1, .int .i64 p.2.2]) = .returned (tripV q) := by rw [h]; rfl

set_option maxHeartbeats 2000000 in
set_option maxRecDepth 100000 in
theorem widest_spec (f : Fc) (A : Option Addr) (n c : Nat) (s : ByteArray) (w : World) (hf : FcT f) (hn : f.pairs.length = n) (hm : n ≤ 1048576) (hs : s.size ≤ 1048576) (h : SlP w A f.pairs) :
    Calls Tryz.prog 18 #[.agg (fcV f (.slice A n c)).toArray, .string s] w fun e w' => e = .returned (tripV (widOut f (bs s))) ∧ Below w.heap.size w w' := by
  have hB := below_one w (.cells (fcV f (.slice A n c)).toArray 28)
  have hk := Blk.new w 28 (fcV f (.slice A n c))
  have hfa : FcAt (w.alloc (.cells (fcV f (.slice A n c)).toArray 28)) w.heap.size f n := ⟨A, c, hk, h.next hB⟩
  have HF := Lib.hid hf
  have HN := Lib.hid hn
  have HA := Lib.hid hfa
  clear hf hn h hfa hk
  by_cases h0 : askC f (bs s) true = 0
  · obtain ⟨hv, ht, _⟩ := askC_zero h0
    have HVV := Lib.hid (validF_iff.1 hv)
    have HWD := Lib.hid (words_isW ht)
    have HWL := Lib.hid (fun x (hx : x ∈ words (bs s)) => word_len ht hx)
    have hcnt := words_count ht
    have HO := Lib.hid (widOut_ok hv ht)
    have HON := Lib.hid (widOut_nil hv ht)
    have H0 := Lib.hid h0
    clear hv ht h0
    go_enter Tryz.func18, Tryz.ntmps18
    go_wp2_with (first
      | (go_at_call 33; refine (asked_spec f n w.heap.size s true _ HF.out HN.out hm hs HA.out).mono ?_; rintro e w1 ⟨he, hb⟩; rw [H0.out] at he; subst he; have hb1 := hb; clear hb)
      | (go_at_call 35; refine (words_spec s _ hs).mono ?_; rintro e w2 ⟨A1, c1, rfl, _, hb2, hsl, _⟩))
    have HA2 := Lib.hid ((HA.out.next hb1).next hb2)
    have hB2 := below_step (below_step hB hb1) hb2
    have HSL := Lib.hid hsl
    clear hb1 hb2 hsl H0 HA hB
    have hw0 : w.heap.size ≤ w2.heap.size := hB2.size
    obtain ⟨b0, hb0⟩ : ∃ b0, b0 = w.heap.size := ⟨_, rfl⟩
    rw [← hb0] at HA2 ⊢
    clear hb0
    generalize hW : words (bs s) = ws at *
    go_loopw [8, 9, 11] (fun vb vm i wr => ∃ (k : Nat) (b m : Int), k ≤ ws.length ∧ i = .int .i64 k ∧ vb = .int .i64 b ∧ vm = .int .i64 m ∧ bst f ws k = (b, m) ∧ Below w2.heap.size w2 wr) (fun _ _ i _ => ws.length - (intOf i).toNat)
    case atStart => exact ⟨0, -1, 0, Nat.zero_le _, rfl, rfl, rfl, rfl, Below.refl _ _⟩
    case round =>
      obtain ⟨k, b, m, hk, rfl, rfl, rfl, hbst, hbel⟩ := hrel
      have hrg := bst_range HVV.out HWD.out HWL.out hk
      rw [hbst] at hrg
      have HBS := Lib.hid hbst
      clear hbst
      by_cases hlt : k < ws.length
      · have hwo := HWD.out _ (rdW_mem hlt)
        have hwl := HWL.out _ (rdW_mem hlt)
        have hlr := word_range HVV.out hwo hwl
        have HWO := Lib.hid hwo
        obtain ⟨a, rfl, hrow⟩ := (HSL.out.next hbel).some k hlt
        have hcell := hrow.atW k hlt
        have HA3 := Lib.hid (HA2.out.next hbel)
        clear hwo hrow
        by_cases hgt : m < lineW f (rdW ws k)
        · have HY := Lib.hid (bst_yes (f := f) (ws := ws) (k := k) (by rw [HBS.out]; exact hgt))
          rcases hrg with ⟨h1, e⟩ | ⟨h1, h2, h3, h4, h5⟩
          · obtain ⟨rfl, rfl⟩ := Prod.mk.inj e
            clear h1
            go_wp2_with (go_at_call 48; refine (wide_spec f n b0 ⟨(rdW ws k).toArray⟩ _ HF.out HVV.out HN.out hm HWO.out.1 hwl HA3.out).mono ?_; rintro e w3 ⟨he, hb3⟩; rw [bs_mk] at he; subst he; have hbel := below_step hbel hb3; clear hb3)
            go_roundw
            case rel => exact ⟨k + 1, _, _, by omega, by go_num, rfl, rfl, HY.out, hbel⟩
            case measure => simp [intOf]; omega
          · dsimp only at h2 h3 h4 h5
            go_wp2_with (go_at_call 48; refine (wide_spec f n b0 ⟨(rdW ws k).toArray⟩ _ HF.out HVV.out HN.out hm HWO.out.1 hwl HA3.out).mono ?_; rintro e w3 ⟨he, hb3⟩; rw [bs_mk] at he; subst he; have hbel := below_step hbel hb3; clear hb3)
            go_roundw
            case rel => exact ⟨k + 1, _, _, by omega, by go_num, rfl, rfl, HY.out, hbel⟩
            case measure => simp [intOf]; omega
        · have HY := Lib.hid (bst_no (f := f) (ws := ws) (k := k) (by rw [HBS.out]; exact hgt))
          rcases hrg with ⟨rfl, e⟩ | ⟨h1, h2, h3, h4, h5⟩
          · obtain ⟨rfl, rfl⟩ := Prod.mk.inj e
            omega
          · dsimp only at h2 h3 h4 h5
            go_wp2_with (go_at_call 48; refine (wide_spec f n b0 ⟨(rdW ws k).toArray⟩ _ HF.out HVV.out HN.out hm HWO.out.1 hwl HA3.out).mono ?_; rintro e w3 ⟨he, hb3⟩; rw [bs_mk] at he; subst he; have hbel := below_step hbel hb3; clear hb3)
            go_roundw
            case rel => exact ⟨k + 1, b, m, by omega, by go_num, rfl, rfl, by rw [HY.out, HBS.out], hbel⟩
            case measure => simp [intOf]; omega
      · obtain rfl : k = ws.length := by omega
        have hBw := hB2.trans (hbel.mono hB2.size)
        rcases hrg with ⟨h1, e⟩ | ⟨h1, h2, h3, h4, h5⟩
        · obtain ⟨rfl, rfl⟩ := Prod.mk.inj e
          have HX := Lib.hid (HON.out (List.eq_nil_of_length_eq_zero h1))
          go_wp2
          go_ret3
          exact ⟨retT (p := (0, 0, 6)) HX.out.symm, hBw⟩
        · dsimp only at h2 h3 h4 h5
          have HX := Lib.hid (HO.out (fun e => by rw [e] at h1; simp at h1))
          go_wp2
          go_ret3
          exact ⟨retT (p := (b, m, 0)) (by rw [HX.out, HBS.out]), hBw⟩
  · obtain ⟨h1, hno⟩ := askC_one h0
    have HO := Lib.hid (widOut_no hno)
    have H1 := Lib.hid h1
    clear h0 h1 hno
    go_enter Tryz.func18, Tryz.ntmps18
    go_wp2_with (go_at_call 33; refine (asked_spec f n w.heap.size s true _ HF.out HN.out hm hs HA.out).mono ?_; rintro e w1 ⟨he, hb⟩; rw [H1.out] at he; subst he; have hB := below_step hB hb; clear hb)
    go_ret3
    exact ⟨retT (p := (0, 0, 1)) HO.out.symm, hB⟩
end Go.Proofs.YtahggbaandcddaaGreatDoor
namespace Go.Proofs.YtahggbaandcddaaGreatDoor
open Go Go.RowKit
set_option linter.unusedVariables false
set_option linter.unusedSimpArgs false

theorem wsV_at {ws : List (List UInt8)} {k : Nat} (h : k < ws.length) : (wsV ws)[k]? = some (.string ⟨(rdW ws k).toArray⟩) := by
  unfold wsV rdW
  rw [List.getElem?_map, List.getD, List.getElem?_eq_getElem h]; rfl

set_option maxHeartbeats 2000000 in
set_option maxRecDepth 100000 in
theorem widest_impl (f : Fc) (A : Option Addr) (n c : Nat) (s : ByteArray) (w : World) (hf : FcT f) (hn : f.pairs.length = n) (hm : n ≤ 1048576) (hs : s.size ≤ 1048576) (h : SlP w A f.pairs) (hmx : MaxW w) (hsp : SpT w) :
    Calls Tryz.prog 17 #[.agg (fcV f (.slice A n c)).toArray, .string s] w fun e w' => e = .returned (tripV (widOut f (bs s))) ∧ Below w.heap.size w w' := by
  have hB := below_one w (.cells (fcV f (.slice A n c)).toArray 28)
  have hk := Blk.new w 28 (fcV f (.slice A n c))
  have HS := Lib.hid (h.next hB)
  have HM := Lib.hid (hmx.next hB)
  have HP := Lib.hid (hsp.next hB)
  have HF := Lib.hid hf
  have HN := Lib.hid hn
  have hsz : (fcV f (.slice A n c)).toArray.size = 29 := by simp [fcV_length hf]
  have HZ := Lib.hid (show (Tryz.prog.info? 28).map (·.size) = some (fcV f (.slice A n c)).toArray.size by rw [hsz]; exact szFcI)
  clear hf hn h hmx hsp hsz
  by_cases h0 : askC f (bs s) true = 0
  · obtain ⟨hv, ht, _⟩ := askC_zero h0
    have HVV := Lib.hid (validF_iff.1 hv)
    have HWD := Lib.hid (words_isW ht)
    have HWL := Lib.hid (fun x (hx : x ∈ words (bs s)) => word_len ht hx)
    have hcnt := words_count ht
    have HO := Lib.hid (widOut_ok hv ht)
    have HON := Lib.hid (widOut_nil hv ht)
    have HT := Lib.hid ht
    have H0 := Lib.hid h0
    clear hv ht h0
    go_enter Tryz.func17, Tryz.ntmps17
    go_wp2_with (first
      | (refine wpList_load_row rfl 28 (.tmp 2) rfl _ rfl 28 (fcV f (.slice A n c)).toArray _ _ hk Tryz.underlying28 rfl HZ.out ?_)
      | (go_at_call 31; refine (lineCode_any f A n c s _ HF.out HN.out hm hs HS.out HM.out).mono ?_; rintro e w1 ⟨he, hb⟩; rw [H0.out] at he; subst he; have hb1 := hb; clear hb)
      | (go_at_call 47; refine (fields_impl s _ HT.out (HP.out.next hb1)).mono ?_; rintro e w2 ⟨rfl, rfl⟩))
    have HK2 := Lib.hid ((hk.next hb1).alloc (.cells (wsV (words (bs s))).toArray 9))
    have HWS := Lib.hid (Blk.new w1 9 (wsV (words (bs s))))
    have hB2 := (below_step hB hb1).trans ((below_one w1 (.cells (wsV (words (bs s))).toArray 9)).mono (below_step hB hb1).size)
    have HS2 := Lib.hid ((HS.out.next hb1).next (below_one w1 (.cells (wsV (words (bs s))).toArray 9)))
    clear hb1 H0 hB HP HM HS hk HT
    obtain ⟨b0, hb0⟩ : ∃ b0, b0 = w.heap.size := ⟨_, rfl⟩
    rw [← hb0] at HK2 ⊢
    clear hb0
    obtain ⟨g, hg⟩ : ∃ g, g = w1.heap.size := ⟨_, rfl⟩
    rw [← hg] at HWS ⊢
    clear hg
    generalize w1.alloc (.cells (wsV (words (bs s))).toArray 9) = W2 at *
    generalize hW : words (bs s) = ws at *
    go_loopw [8, 9, 22] (fun vb vm i wr => ∃ (k : Nat) (b m : Int), k ≤ ws.length ∧ i = .int .i64 k ∧ vb = .int .i64 (if k = 0 then 0 else b) ∧ vm = .int .i64 m ∧ bst f ws k = (b, m) ∧ Below W2.heap.size W2 wr) (fun _ _ i _ => ws.length - (intOf i).toNat)
    case atStart => exact ⟨0, -1, 0, Nat.zero_le _, rfl, rfl, rfl, rfl, Below.refl _ _⟩
    case round =>
      obtain ⟨k, b, m, hk, rfl, rfl, rfl, hbst, hbel⟩ := hrel
      have hrg := bst_range HVV.out HWD.out HWL.out hk
      rw [hbst] at hrg
      have HBS := Lib.hid hbst
      clear hbst
      by_cases hlt : k < ws.length
      · have hwo := HWD.out _ (rdW_mem hlt)
        have hwl := HWL.out _ (rdW_mem hlt)
        have hlr := word_range HVV.out hwo hwl
        have HWO := Lib.hid hwo
        have HW3 := Lib.hid (HWS.out.next hbel)
        have hcell := HW3.out.cell k _ (wsV_at hlt)
        have hkf := HK2.out.next hbel
        have HS3 := Lib.hid (HS2.out.next hbel)
        clear hwo
        by_cases hgt : m < lineW f (rdW ws k)
        · have HY := Lib.hid (bst_yes (f := f) (ws := ws) (k := k) (by rw [HBS.out]; exact hgt))
          go_wp2_with (first
            | (refine wpList_load_row rfl 28 (.tmp 2) rfl _ rfl 28 (fcV f (.slice A n c)).toArray _ _ hkf Tryz.underlying28 rfl HZ.out ?_)
            | (go_at_call 32; refine (wide_impl f A n c ⟨(rdW ws k).toArray⟩ _ HF.out HVV.out HN.out hm HWO.out.1.ls hwl HS3.out).mono ?_; rintro e w3 ⟨he, hb3⟩; rw [bs_mk] at he; subst he; have hbel := below_step hbel hb3; clear hb3))
          go_roundw
          case rel => exact ⟨k + 1, _, _, by omega, by go_num, by rw [if_neg (by omega)], rfl, HY.out, hbel⟩
          case measure => simp [intOf]; omega
        · have HY := Lib.hid (bst_no (f := f) (ws := ws) (k := k) (by rw [HBS.out]; exact hgt))
          have hk0 : ¬ k = 0 := by
            rintro rfl
            rcases hrg with ⟨_, e⟩ | ⟨h1, _⟩
            · obtain ⟨rfl, rfl⟩ := Prod.mk.inj e
              omega
            · omega
          go_wp2_with (first
            | (refine wpList_load_row rfl 28 (.tmp 2) rfl _ rfl 28 (fcV f (.slice A n c)).toArray _ _ hkf Tryz.underlying28 rfl HZ.out ?_)
            | (go_at_call 32; refine (wide_impl f A n c ⟨(rdW ws k).toArray⟩ _ HF.out HVV.out HN.out hm HWO.out.1.ls hwl HS3.out).mono ?_; rintro e w3 ⟨he, hb3⟩; rw [bs_mk] at he; subst he; have hbel := below_step hbel hb3; clear hb3))
          go_roundw
          case rel => exact ⟨k + 1, b, m, by omega, by go_num, by first | rfl | simp [hk0], rfl, by rw [HY.out, HBS.out], hbel⟩
          case measure => simp [intOf]; omega
      · obtain rfl : k = ws.length := by omega
        have hBw := hB2.trans (hbel.mono hB2.size)
        rcases hrg with ⟨h1, e⟩ | ⟨h1, h2, h3, h4, h5⟩
        · obtain ⟨rfl, rfl⟩ := Prod.mk.inj e
          have HX := Lib.hid (HON.out (List.eq_nil_of_length_eq_zero h1))
          go_wp2
          go_ret3
          exact ⟨retT (p := (0, 0, 6)) HX.out.symm, hBw⟩
        · dsimp only at h2 h3 h4 h5
          have HX := Lib.hid (HO.out (fun e => by rw [e] at h1; simp at h1))
          have hne : ¬ m = 0 := by omega
          have hl0 : ¬ ws.length = 0 := by omega
          go_wp2
          go_ret3
          exact ⟨retT (p := (b, m, 0)) (by rw [HX.out, HBS.out]), hBw⟩
  · obtain ⟨h1, hno⟩ := askC_one h0
    have HO := Lib.hid (widOut_no hno)
    have H1 := Lib.hid h1
    clear h0 h1 hno
    go_enter Tryz.func17, Tryz.ntmps17
    go_wp2_with (first
      | (refine wpList_load_row rfl 28 (.tmp 2) rfl _ rfl 28 (fcV f (.slice A n c)).toArray _ _ hk Tryz.underlying28 rfl HZ.out ?_)
      | (go_at_call 31; refine (lineCode_any f A n c s _ HF.out HN.out hm hs HS.out HM.out).mono ?_; rintro e w1 ⟨he, hb⟩; rw [H1.out] at he; subst he; have hB := below_step hB hb; clear hb))
    go_ret3
    exact ⟨retT (p := (0, 0, 1)) HO.out.symm, hB⟩
end Go.Proofs.YtahggbaandcddaaGreatDoor
namespace Go.Proofs.YtahggbaandcddaaGreatDoor
open Go Go.RowKit
set_option linter.unusedVariables false
set_option linter.unusedSimpArgs false

theorem room_spec (m : Int) (w : World) : Calls Tryz.prog 53 #[.int .i64 m] w fun e w' => e = .returned (.bool (inB 0 4000 m)) ∧ w = w' := by
  go_enter Tryz.func53, Tryz.ntmps53
  go_wp2_with (go_at_call 46; refine (inS_any _ _ _ _).mono ?_; rintro e w' ⟨rfl, rfl⟩)
  go_ret
  exact ⟨rfl, rfl⟩

theorem FcAt.space {w : World} {b : Nat} {f : Fc} {n : Nat} (h : FcAt w b f n) (hf : FcT f) : w.cell? ⟨b, 26, none⟩ = some (.int .i8 f.space) := by
  obtain ⟨A, c, hk, _⟩ := h
  exact hk.cell 26 _ (fcV_space hf _)

/-- Words, each of them at most 60 long, 60 at most. -/
structure Ws (ws : List (List UInt8)) : Prop where
  isw : ∀ x ∈ ws, IsW x
  len : ∀ x ∈ ws, x.length ≤ 60
  many : ws.length ≤ 60
theorem ws_words {l : List UInt8} (h : vText l = true) : Ws (words l) := ⟨words_isW h, fun _ hx => word_len h hx, words_count h⟩
theorem Ws.cut {ws : List (List UInt8)} (h : Ws ws) (a b : Nat) : Ws (cutW ws a b) := ⟨fun x hx => h.isw x (cutW_mem hx), fun x hx => h.len x (cutW_mem hx), by
  have := h.many
  unfold cutW; simp; omega⟩
theorem sumW_range {f : Fc} (hf : FcV f) {ws : List (List UInt8)} (hw : Ws ws) {k : Nat} (hk : k ≤ ws.length) : 0 ≤ sumW f ws k ∧ sumW f ws k ≤ 3640 * (k : Int) := by
  induction k with
  | zero => simp [sumW]
  | succ k ih =>
    have h1 := ih (by omega)
    have h2 := word_range hf (hw.isw _ (rdW_mem (show k < ws.length by omega))) (hw.len _ (rdW_mem (show k < ws.length by omega)))
    have h3 := hf.space
    unfold rdW at h2
    rw [sumW]
    push_cast
    split <;> omega
theorem sumW_first (f : Fc) (ws : List (List UInt8)) : sumW f ws (0 + 1) = sumW f ws 0 + lineW f (rdW ws 0) := by
  rw [sumW]; simp [sumW, rdW]
theorem sumW_more (f : Fc) (ws : List (List UInt8)) {k : Nat} (h : 0 < k) : sumW f ws (k + 1) = sumW f ws k + lineW f (rdW ws k) + f.space := by
  rw [sumW, if_neg (by omega)]
  unfold rdW; omega
theorem sumW_at (f : Fc) (ws : List (List UInt8)) (k : Nat) (h : k = 0) : sumW f ws (k + 1) = sumW f ws k + lineW f (rdW ws k) := by subst h; exact sumW_first f ws

set_option maxHeartbeats 1000000 in
set_option maxRecDepth 100000 in
theorem line_spec (f : Fc) (n b0 : Nat) (A : Option Addr) (c : Nat) (ws : List (List UInt8)) (w : World) (hf : FcT f) (hV : FcV f) (hn : f.pairs.length = n) (hm : n ≤ 1048576) (hw : Ws ws) (h : FcAt w b0 f n) (hs : SlE sv w A ws) :
    Calls Tryz.prog 34 #[.pointer (some ⟨b0, 0, none⟩), .slice A ws.length c] w fun e w' => e = .returned (.int .i64 (lineW f (joinW ws))) ∧ Below w.heap.size w w' := by
  have HF := Lib.hid hf
  have HVV := Lib.hid hV
  have HN := Lib.hid hn
  have HA := Lib.hid h
  have HW := Lib.hid hw
  have HSL := Lib.hid hs
  have hcnt := hw.many
  have HJ := Lib.hid (sumW_join f ws (fun x hx => (hw.isw x hx).1))
  clear hf hV hn h hw hs
  go_enter Tryz.func34, Tryz.ntmps34
  go_wp2
  go_loopw [5, 6] (fun v i wr => ∃ k : Nat, k ≤ ws.length ∧ i = .int .i64 k ∧ v = .int .i64 (sumW f ws k) ∧ Below w.heap.size w wr) (fun _ i _ => ws.length - (intOf i).toNat)
  case atStart => exact ⟨0, by omega, rfl, rfl, Below.refl _ _⟩
  case round =>
    obtain ⟨k, hk, rfl, rfl, hbel⟩ := hrel
    by_cases hlt : k < ws.length
    · obtain ⟨a, rfl, hrow⟩ := (HSL.out.next hbel).some k hlt
      have hcell := hrow.atW k hlt
      have hwl := HW.out.len _ (rdW_mem hlt)
      have hsr := sumW_range HVV.out HW.out (Nat.le_of_lt hlt)
      have hlr := word_range HVV.out (HW.out.isw _ (rdW_mem hlt)) hwl
      have HA2 := Lib.hid (HA.out.next hbel)
      have bsp := HVV.out.space
      clear hrow
      by_cases hk0 : k = 0
      · have HY := Lib.hid (sumW_at f ws k hk0)
        have hz : ¬ (0 : Int) < (k : Int) := by omega
        clear hk0
        go_wp2_with (go_at_call 48; refine (wide_spec f n b0 ⟨(rdW ws k).toArray⟩ _ HF.out HVV.out HN.out hm (HW.out.isw _ (rdW_mem hlt)).1 hwl HA2.out).mono ?_; rintro e w3 ⟨he, hb3⟩; rw [bs_mk] at he; subst he; have hbel := below_step hbel hb3; clear hb3)
        go_roundw
        case rel => exact ⟨k + 1, by omega, by go_num, by rw [HY.out], hbel⟩
        case measure => simp [intOf]; omega
      · have HY := Lib.hid (sumW_more f ws (k := k) (by omega))
        have hz : (0 : Int) < (k : Int) := by omega
        clear hk0
        go_wp2_with (go_at_call 48; refine (wide_spec f n b0 ⟨(rdW ws k).toArray⟩ _ HF.out HVV.out HN.out hm (HW.out.isw _ (rdW_mem hlt)).1 hwl HA2.out).mono ?_; rintro e w3 ⟨he, hb3⟩; rw [bs_mk] at he; subst he; have hbel := below_step hbel hb3; have c26 := (HA2.out.next hb3).space HF.out; clear hb3)
        go_roundw
        case rel => exact ⟨k + 1, by omega, by go_num, by rw [HY.out], hbel⟩
        case measure => simp [intOf]; omega
    · obtain rfl : k = ws.length := by omega
      go_wp2
      go_ret
      exact ⟨retI HJ.out, hbel⟩

theorem line_specN (f : Fc) (n b0 : Nat) (A : Option Addr) (c : Nat) (ws : List (List UInt8)) (N : Nat) (w : World) (hf : FcT f) (hV : FcV f) (hn : f.pairs.length = n) (hm : n ≤ 1048576) (hw : Ws ws) (h : FcAt w b0 f n) (hs : SlE sv w A ws) (hN : ws.length = N) :
    Calls Tryz.prog 34 #[.pointer (some ⟨b0, 0, none⟩), .slice A N c] w fun e w' => e = .returned (.int .i64 (lineW f (joinW ws))) ∧ Below w.heap.size w w' := by
  subst hN
  exact line_spec f n b0 A c ws w hf hV hn hm hw h hs

/-! ### A slice of a slice of texts -/
theorem exec_slice0 {o : Oper} {a : Act} {w : World} (x hi : Operand) (ho : o.op = .slice 36 x none (some hi) none) (p : Addr) (n c h : Nat) (hx : a.eval x = .slice (some p) n c) (hh : a.eval hi = .int .i64 (h : Int)) (hc : h ≤ c) (hp : 0 < c) :
    (execOp a.eval o).run Tryz.prog w = .ok (.value (.slice (some p) h c)) w := by
  have hne : ¬ c = 0 := by omega
  have h0 : p.add 0 = p := by simp [Addr.add]
  have hz : (Tryz.prog.info? 9).map (·.size) = some 1 := by kernel_rfl
  cases hq : Tryz.prog.info? 9 with
  | none => rw [hq] at hz; cases hz
  | some i =>
    unfold execOp
    simp [ho, hx, hh, Instr.sliceAt, Instr.slice, Instr.sliceBounds, Instr.sliceBound, asIntOf, Sem.run_bind, run_underlying Tryz.underlying36, hc, hne, sizeOf, typeInfo, hq, h0]
theorem exec_slice2 {o : Oper} {a : Act} {w : World} (x lo hi : Operand) (ho : o.op = .slice 36 x (some lo) (some hi) none) (g n c l h : Nat) (hx : a.eval x = .slice (some ⟨g, 0, none⟩) n c) (hl : a.eval lo = .int .i64 (l : Int)) (hh : a.eval hi = .int .i64 (h : Int)) (hlh : l < h) (hc : h ≤ c) :
    (execOp a.eval o).run Tryz.prog w = .ok (.value (.slice (some ⟨g, l, none⟩) (h - l) (c - l))) w := by
  have hne : ¬ c = l := by omega
  have hle : l ≤ h := by omega
  have h0 : (⟨g, 0, none⟩ : Addr).add l = ⟨g, l, none⟩ := by rw [add_mid, Nat.zero_add]
  have hz : (Tryz.prog.info? 9).map (·.size) = some 1 := by kernel_rfl
  cases hq : Tryz.prog.info? 9 with
  | none => rw [hq] at hz; cases hz
  | some i =>
    have hi : i.size = 1 := by rw [hq] at hz; simpa using hz
    unfold execOp
    simp [ho, hx, hl, hh, Instr.sliceAt, Instr.slice, Instr.sliceBounds, Instr.sliceBound, asIntOf, Sem.run_bind, run_underlying Tryz.underlying36, hc, hle, hne, sizeOf, typeInfo, hq, hi, h0]

/-! ### Lines of the words from one up to another one -/
/-- How wide the words from a up to b are as a line. -/
def lnW (f : Fc) (ws : List (List UInt8)) (a b : Nat) : Int := lineW f (joinW (cutW ws a b))
theorem lnW_range {f : Fc} (hf : FcV f) {ws : List (List UInt8)} (hw : Ws ws) (a b : Nat) : 0 ≤ lnW f ws a b ∧ lnW f ws a b ≤ 218400 := by
  have hc := hw.cut a b
  have h1 := sumW_range hf hc (Nat.le_refl _)
  rw [sumW_join f _ (fun x hx => (hc.isw x hx).1)] at h1
  have := hc.many
  unfold lnW; omega
theorem slE_cut {w : World} {g o : Nat} {ws : List (List UInt8)} (h : SlE sv w (some ⟨g, o, none⟩) ws) (a b : Nat) : SlE sv w (some ⟨g, o + a, none⟩) (cutW ws a b) := by
  intro i x hx
  refine ⟨_, rfl, ?_⟩
  unfold cutW at hx
  rw [List.getElem?_take] at hx
  split at hx
  · rw [List.getElem?_drop] at hx
    obtain ⟨a', he, hc⟩ := h (a + i) x hx
    cases he
    rw [add_mid] at hc ⊢
    rw [show o + a + i = o + (a + i) from by omega]; exact hc
  · cases hx
theorem cutW_zero (ws : List (List UInt8)) (b : Nat) : cutW ws 0 b = ws.take b := by unfold cutW; simp

/-- As many of the first words as fit. -/
def FitAt (f : Fc) (ws : List (List UInt8)) (m : Int) (k : Nat) : Prop := k ≤ ws.length ∧ (∀ j, j < k → lnW f ws 0 (j + 1) ≤ m) ∧ (k < ws.length → m < lnW f ws 0 (k + 1))
theorem FitAt.same {f : Fc} {ws : List (List UInt8)} {m : Int} {k k' : Nat} (h : FitAt f ws m k) (h' : FitAt f ws m k') : k = k' := by
  obtain ⟨a1, a2, a3⟩ := h
  obtain ⟨b1, b2, b3⟩ := h'
  rcases Nat.lt_trichotomy k k' with hh | hh | hh
  · have := b2 k hh
    have := a3 (by omega)
    omega
  · exact hh
  · have := a2 k' hh
    have := b3 (by omega)
    omega
def FitR (f : Fc) (l : List UInt8) (m r c : Int) : Prop := c = askC f l (inB 0 4000 m) ∧ ((¬ c = 0 ∧ r = 0) ∨ (c = 0 ∧ ∃ k : Nat, r = (k : Int) ∧ FitAt f (words l) m k))
theorem FitR.same {f : Fc} {l : List UInt8} {m r c r' c' : Int} (h : FitR f l m r c) (h' : FitR f l m r' c') : r' = r ∧ c' = c := by
  obtain ⟨a1, a2⟩ := h
  obtain ⟨b1, b2⟩ := h'
  refine ⟨?_, by rw [a1, b1]⟩
  rcases a2 with ⟨a2, a3⟩ | ⟨a2, k, a3, a4⟩
  · rcases b2 with ⟨b2, b3⟩ | ⟨b2, k', b3, b4⟩
    · omega
    · omega
  · rcases b2 with ⟨b2, b3⟩ | ⟨b2, k', b3, b4⟩
    · omega
    · rw [a3, b3, a4.same b4]
def AllFit (f : Fc) (ws : List (List UInt8)) (m : Int) (k : Nat) : Prop := ∀ j, j < k → lnW f ws 0 (j + 1) ≤ m
theorem allFit_succ {f : Fc} {ws : List (List UInt8)} {m : Int} {k : Nat} (h : AllFit f ws m k) (hk : lnW f ws 0 (k + 1) ≤ m) : AllFit f ws m (k + 1) := fun j hj => by
  rcases Nat.lt_succ_iff_lt_or_eq.1 hj with h1 | rfl
  · exact h j h1
  · exact hk
end Go.Proofs.YtahggbaandcddaaGreatDoor
namespace Go.Proofs.YtahggbaandcddaaGreatDoor
open Go Go.RowKit
set_option linter.unusedVariables false
set_option linter.unusedSimpArgs false

/-- As many words as fit, and a code. -/
def FitOut (f : Fc) (l : List UInt8) (m : Int) (w : World) (e : Ending) (w' : World) : Prop := ∃ r cd, e = .returned (.tuple #[.int .i64 r, .int .i64 cd]) ∧ FitR f l m r cd ∧ Below w.heap.size w w'

set_option maxHeartbeats 2000000 in
set_option maxRecDepth 100000 in
theorem longest_spec (f : Fc) (A : Option Addr) (n c : Nat) (s : ByteArray) (m : Int) (w : World) (hf : FcT f) (hn : f.pairs.length = n) (hm : n ≤ 1048576) (hs : s.size ≤ 1048576) (h : SlP w A f.pairs) :
    Calls Tryz.prog 26 #[.agg (fcV f (.slice A n c)).toArray, .string s, .int .i64 m] w (FitOut f (bs s) m w) := by
  have hB := below_one w (.cells (fcV f (.slice A n c)).toArray 28)
  have hk := Blk.new w 28 (fcV f (.slice A n c))
  have hfa : FcAt (w.alloc (.cells (fcV f (.slice A n c)).toArray 28)) w.heap.size f n := ⟨A, c, hk, h.next hB⟩
  have HF := Lib.hid hf
  have HN := Lib.hid hn
  have HA := Lib.hid hfa
  clear hf hn h hfa hk
  obtain ⟨cd, hcd⟩ : ∃ cd, cd = askC f (bs s) (inB 0 4000 m) := ⟨_, rfl⟩
  have HC := Lib.hid hcd
  by_cases h0 : cd = 0
  · obtain ⟨hv, ht, hinn⟩ := askC_zero (hcd.symm.trans h0)
    clear hinn
    have HVV := Lib.hid (validF_iff.1 hv)
    have HW := Lib.hid (ws_words ht)
    have hcnt := words_count ht
    subst h0
    clear hv ht hcd
    go_enter Tryz.func26, Tryz.ntmps26
    go_wp2_with (first
      | (go_at_call 53; refine (room_spec _ _).mono ?_; rintro e w0 ⟨rfl, rfl⟩)
      | (go_at_call 33; refine (asked_spec f n w.heap.size s _ _ HF.out HN.out hm hs HA.out).mono ?_; rintro e w1 ⟨he, hb⟩; rw [← HC.out] at he; subst he; have hb1 := hb; clear hb)
      | (go_at_call 35; refine (words_spec s _ hs).mono ?_; rintro e w2 ⟨A1, c1, rfl, hc1, hb2, hsl, hA1⟩))
    have HA2 := Lib.hid ((HA.out.next hb1).next hb2)
    have hB2 := below_step (below_step hB hb1) hb2
    have HSL := Lib.hid hsl
    have HG := Lib.hid hA1
    clear hb1 hb2 hsl HA hB hA1
    obtain ⟨b0, hb0⟩ : ∃ b0, b0 = w.heap.size := ⟨_, rfl⟩
    rw [← hb0] at HA2 ⊢
    clear hb0
    obtain ⟨ws, hW⟩ : ∃ ws, ws = words (bs s) := ⟨_, rfl⟩
    have HWS := Lib.hid hW
    rw [← hW] at hcnt hc1 HW HSL HG ⊢
    clear hW
    go_loopw [10] (fun i wr => ∃ k : Nat, k ≤ ws.length ∧ i = .int .i64 k ∧ AllFit f ws m k ∧ Below w2.heap.size w2 wr) (fun i _ => ws.length - (intOf i).toNat)
    case atStart => exact ⟨0, Nat.zero_le _, rfl, fun j hj => by omega, Below.refl _ _⟩
    case round =>
      obtain ⟨k, hk, rfl, hall, hbel⟩ := hrel
      have HALL := Lib.hid hall
      clear hall
      by_cases hlt : k < ws.length
      · obtain ⟨g, rfl⟩ := HG.out (by omega)
        have hcut : (cutW ws 0 (k + 1)).length = k + 1 := cutW_length hlt
        have HCUT := Lib.hid hcut
        have HSC := Lib.hid (show SlE sv wr (some ⟨g, 0, none⟩) (cutW ws 0 (k + 1)) from slE_cut (HSL.out.next hbel) 0 (k + 1))
        have HA3 := Lib.hid (HA2.out.next hbel)
        have hadd : IntKind.i64.wrap ((k : Int) + 1) = ((k + 1 : Nat) : Int) := by rw [IntWalk.i64_in _ (by omega)]; omega
        clear hcut
        by_cases hle : lnW f ws 0 (k + 1) ≤ m
        · have HNX := Lib.hid (allFit_succ HALL.out hle)
          go_wp2_with (first
            | (go_at_call 34; refine (line_specN f n b0 _ _ (cutW ws 0 (k + 1)) (k + 1) _ HF.out HVV.out HN.out hm (HW.out.cut _ _) HA3.out HSC.out HCUT.out).mono ?_; rintro e w3 ⟨he, hb3⟩; change e = .returned (.int .i64 (lnW f ws 0 (k + 1))) at he; subst he; have hbel := below_step hbel hb3; clear hb3))
          go_roundw
          case rel => exact ⟨k + 1, by omega, by go_num, HNX.out, hbel⟩
          case measure => simp [intOf]; omega
        · go_wp2_with (go_at_call 34; refine (line_specN f n b0 _ _ (cutW ws 0 (k + 1)) (k + 1) _ HF.out HVV.out HN.out hm (HW.out.cut _ _) HA3.out HSC.out HCUT.out).mono ?_; rintro e w3 ⟨he, hb3⟩; change e = .returned (.int .i64 (lnW f ws 0 (k + 1))) at he; subst he; have hbel := below_step hbel hb3; clear hb3)
          go_ret2
          exact ⟨_, _, rfl, ⟨HC.out, .inr ⟨rfl, k, rfl, by rw [← HWS.out]; exact ⟨hk, HALL.out, fun _ => by omega⟩⟩⟩, hB2.trans (hbel.mono hB2.size)⟩
      · obtain rfl : k = ws.length := by omega
        go_wp2
        go_ret2
        exact ⟨_, _, rfl, ⟨HC.out, .inr ⟨rfl, _, rfl, by rw [← HWS.out]; exact ⟨Nat.le_refl _, HALL.out, fun h => by omega⟩⟩⟩, hB2.trans (hbel.mono hB2.size)⟩
  · clear hcd
    go_enter Tryz.func26, Tryz.ntmps26
    go_wp2_with (first
      | (go_at_call 53; refine (room_spec _ _).mono ?_; rintro e w0 ⟨rfl, rfl⟩)
      | (go_at_call 33; refine (asked_spec f n w.heap.size s _ _ HF.out HN.out hm hs HA.out).mono ?_; rintro e w1 ⟨he, hb⟩; rw [← HC.out] at he; subst he; have hB := below_step hB hb; clear hb))
    go_ret2
    exact ⟨_, _, rfl, ⟨HC.out, .inl ⟨h0, rfl⟩⟩, hB⟩
end Go.Proofs.YtahggbaandcddaaGreatDoor
namespace Go.Proofs.YtahggbaandcddaaGreatDoor
open Go Go.RowKit
set_option linter.unusedVariables false
set_option linter.unusedSimpArgs false

theorem line_ls {ws : List (List UInt8)} (h : Ws ws) : LS (joinW ws) := joinW_ls h.isw
/-- The words of a text that is short enough. -/
theorem cut_len {l : List UInt8} (h : vText l = true) (a b : Nat) : (joinW (cutW (words l) a b)).length ≤ 60 := Nat.le_trans (joinW_cut l a b) (vText_iff.1 h).2

attribute [local irreducible] wpQuiet in
set_option maxHeartbeats 2000000 in
set_option maxRecDepth 100000 in
theorem longest_impl (f : Fc) (A : Option Addr) (n c : Nat) (s : ByteArray) (m : Int) (w : World) (hf : FcT f) (hn : f.pairs.length = n) (hm : n ≤ 1048576) (hs : s.size ≤ 1048576) (h : SlP w A f.pairs) (hmx : MaxW w) (hsp : SpT w) :
    Calls Tryz.prog 25 #[.agg (fcV f (.slice A n c)).toArray, .string s, .int .i64 m] w (FitOut f (bs s) m w) := by
  have hB := below_one w (.cells (fcV f (.slice A n c)).toArray 28)
  have hk := Blk.new w 28 (fcV f (.slice A n c))
  have HS := Lib.hid (h.next hB)
  have HM := Lib.hid (hmx.next hB)
  have HP := Lib.hid (hsp.next hB)
  have HF := Lib.hid hf
  have HN := Lib.hid hn
  have hsz : (fcV f (.slice A n c)).toArray.size = 29 := by simp [fcV_length hf]
  have HZ := Lib.hid (show (Tryz.prog.info? 28).map (·.size) = some (fcV f (.slice A n c)).toArray.size by rw [hsz]; exact szFcI)
  clear hf hn h hmx hsp hsz
  obtain ⟨cd, hcd⟩ : ∃ cd, cd = askC f (bs s) (inB 0 4000 m) := ⟨_, rfl⟩
  have HC := Lib.hid hcd
  by_cases h0 : cd = 0
  · obtain ⟨hv, ht, hinn⟩ := askC_zero (hcd.symm.trans h0)
    clear hinn
    have HVV := Lib.hid (validF_iff.1 hv)
    have HW := Lib.hid (ws_words ht)
    have HCL := Lib.hid (cut_len ht)
    have HT := Lib.hid ht
    have hcnt := words_count ht
    subst h0
    clear hv ht hcd
    go_enter Tryz.func25, Tryz.ntmps25
    go_wp2_with (first
      | (refine wpList_load_row rfl 28 (.tmp 3) rfl _ rfl 28 (fcV f (.slice A n c)).toArray _ _ hk Tryz.underlying28 rfl HZ.out ?_)
      | (go_at_call 52; refine (wideCode_any f A n c s m _ HF.out HN.out hm hs HS.out HM.out).mono ?_; rintro e w1 ⟨he, hb⟩; rw [← HC.out] at he; subst he; have hb1 := hb; clear hb)
      | (go_at_call 47; refine (fields_impl s _ HT.out (HP.out.next hb1)).mono ?_; rintro e w2 ⟨rfl, rfl⟩))
    have HK2 := Lib.hid ((hk.next hb1).alloc (.cells (wsV (words (bs s))).toArray 9))
    have HWS := Lib.hid (Blk.new w1 9 (wsV (words (bs s))))
    have hB2 := (below_step hB hb1).trans ((below_one w1 (.cells (wsV (words (bs s))).toArray 9)).mono (below_step hB hb1).size)
    have HS2 := Lib.hid ((HS.out.next hb1).next (below_one w1 (.cells (wsV (words (bs s))).toArray 9)))
    clear hb1 hB HP HM HS hk HT
    obtain ⟨b0, hb0⟩ : ∃ b0, b0 = w.heap.size := ⟨_, rfl⟩
    rw [← hb0] at HK2 ⊢
    clear hb0
    obtain ⟨g, hg⟩ : ∃ g, g = w1.heap.size := ⟨_, rfl⟩
    rw [← hg] at HWS ⊢
    clear hg
    generalize w1.alloc (.cells (wsV (words (bs s))).toArray 9) = W2 at *
    obtain ⟨ws, hW⟩ : ∃ ws, ws = words (bs s) := ⟨_, rfl⟩
    have HWE := Lib.hid hW
    rw [← hW] at hcnt HW HWS HCL ⊢
    clear hW
    go_loopw [10] (fun i wr => ∃ k : Nat, k ≤ ws.length ∧ i = .int .i64 k ∧ AllFit f ws m k ∧ Below W2.heap.size W2 wr) (fun i _ => ws.length - (intOf i).toNat)
    case atStart => exact ⟨0, Nat.zero_le _, rfl, fun j hj => by omega, Below.refl _ _⟩
    case round =>
      obtain ⟨k, hk, rfl, hall, hbel⟩ := hrel
      have HALL := Lib.hid hall
      clear hall
      have hB3 := hB2.trans (hbel.mono hB2.size)
      by_cases hlt : k < ws.length
      · have HCUT := Lib.hid (HCL.out 0 (k + 1))
        have HW3 := Lib.hid (HWS.out.next hbel)
        have HK3 := Lib.hid (HK2.out.next hbel)
        have HS3 := Lib.hid (HS2.out.next hbel)
        have hlt2 : decide ((k : Int) < (ws.length : Int)) = true := decide_eq_true (by omega)
        have hadd : IntKind.i64.wrap ((k : Int) + 1) = ((k + 1 : Nat) : Int) := by rw [IntWalk.i64_in _ (by omega)]; omega
        go_wp2
        refine region_below (wr.heap.size) (by kernel_rfl) (by kernel_rfl) ?_
        refine below_run (by kernel_rfl) (.int .i64 k) (fun w' hw' => by kernel_rfl) ?_
        refine below_run (by kernel_rfl) (.slice (some ⟨g, 0, none⟩) ws.length ws.length) (fun w' hw' => by kernel_rfl) ?_
        refine below_run (by kernel_rfl) (.int .i64 ws.length) (fun w' hw' => by kernel_rfl) ?_
        refine below_run (by kernel_rfl) (.bool true) (fun w' hw' => Eq.trans (show (execOp _ _).run _ w' = .ok (.value (.bool (decide ((k : Int) < (ws.length : Int))))) w' by kernel_rfl) (by rw [hlt2])) ?_
        refine below_run (by kernel_rfl) (.bool true) (fun w' hw' => by kernel_rfl) ?_
        refine below_run (by kernel_rfl) (.agg (fcV f (.slice A n c)).toArray) (fun w' hw' => exec_load_row 28 (.tmp 3) rfl (b0) (by kernel_rfl) 28 (fcV f (.slice A n c)).toArray _ _ (HK3.out.next hw') Tryz.underlying28 rfl (HZ.out)) ?_
        refine below_run (by kernel_rfl) (.slice (some ⟨g, 0, none⟩) ws.length ws.length) (fun w' hw' => by kernel_rfl) ?_
        refine below_run (by kernel_rfl) (.int .i64 k) (fun w' hw' => by kernel_rfl) ?_
        refine below_run (by kernel_rfl) (.int .i64 ((k + 1 : Nat) : Int)) (fun w' hw' => Eq.trans (show (execOp _ _).run _ w' = .ok (.value (.int .i64 (IntKind.i64.wrap ((k : Int) + 1)))) w' by kernel_rfl) (by rw [hadd])) ?_
        refine below_run (by kernel_rfl) (.slice (some ⟨g, 0, none⟩) (k + 1) ws.length) (fun w' hw' => exec_slice0 (.tmp 26) (.tmp 28) rfl ⟨g, 0, none⟩ ws.length ws.length (k + 1) (by kernel_rfl) (by kernel_rfl) hlt (by omega)) ?_
        refine below_call (by kernel_rfl) 56 #[.slice (some ⟨g, 0, none⟩) (k + 1) ws.length, .string ⟨#[32]⟩] (.string ⟨(joinW (cutW ws 0 (k + 1))).toArray⟩) (fun w' => by kernel_rfl) (fun w' hw' => (join_impl g 0 (k + 1) ws.length ws w' hlt (by omega) hcnt (by have := HCUT.out; omega) (HW3.out.next hw')).mono fun e w1 ⟨he, hb1⟩ => ⟨he, below_step hw' hb1⟩) ?_
        refine below_call (by kernel_rfl) 32 #[.agg (fcV f (.slice A n c)).toArray, .string ⟨(joinW (cutW ws 0 (k + 1))).toArray⟩] (.int .i64 (lnW f ws 0 (k + 1))) (fun w' => by kernel_rfl) (fun w' hw' => (wide_impl f A n c ⟨(joinW (cutW ws 0 (k + 1))).toArray⟩ w' HF.out HVV.out HN.out hm (line_ls (HW.out.cut _ _)) HCUT.out (HS3.out.next hw')).mono fun e w1 ⟨he, hb1⟩ => ⟨he, below_step hw' hb1⟩) ?_
        refine below_run (by kernel_rfl) (.int .i64 m) (fun w' hw' => by kernel_rfl) ?_
        by_cases hle : lnW f ws 0 (k + 1) ≤ m
        · have HNX := Lib.hid (allFit_succ HALL.out hle)
          have hled : decide (lnW f ws 0 (k + 1) ≤ m) = true := decide_eq_true hle
          refine below_run (by kernel_rfl) (.bool true) (fun w' hw' => Eq.trans (show (execOp _ _).run _ w' = .ok (.value (.bool (decide (lnW f ws 0 (k + 1) ≤ m)))) w' by kernel_rfl) (by rw [hled])) ?_
          refine below_run (by kernel_rfl) (.bool true) (fun w' hw' => by kernel_rfl) ?_
          refine wpQuiet_nil ?_
          intro W3 hW3
          simp only [Act.put, List.setIfInBounds_toArray, List.set_cons_succ, List.set_cons_zero]
          have hbel := below_step hbel hW3
          clear hadd hW3 hlt2 hled
          go_wp2
          go_roundw
          case rel => exact ⟨k + 1, by omega, by go_num, HNX.out, hbel⟩
          case measure => simp [intOf]; omega
        · have hled : decide (lnW f ws 0 (k + 1) ≤ m) = false := decide_eq_false hle
          refine below_run (by kernel_rfl) (.bool false) (fun w' hw' => Eq.trans (show (execOp _ _).run _ w' = .ok (.value (.bool (decide (lnW f ws 0 (k + 1) ≤ m)))) w' by kernel_rfl) (by rw [hled])) ?_
          refine below_run (by kernel_rfl) (.bool false) (fun w' hw' => by kernel_rfl) ?_
          refine wpQuiet_nil ?_
          intro W3 hW3
          simp only [Act.put, List.setIfInBounds_toArray, List.set_cons_succ, List.set_cons_zero]
          have hbel := below_step hbel hW3
          have hB4 := hB2.trans (hbel.mono hB2.size)
          clear hadd hW3 hlt2 hled
          go_wp2
          go_ret2
          exact ⟨_, _, rfl, ⟨HC.out, .inr ⟨rfl, k, rfl, by rw [← HWE.out]; exact ⟨hk, HALL.out, fun _ => by omega⟩⟩⟩, hB4⟩
      · obtain rfl : k = ws.length := by omega
        have hlt2 : decide ((ws.length : Int) < (ws.length : Int)) = false := decide_eq_false (by omega)
        go_wp2
        refine region_below (wr.heap.size) (by kernel_rfl) (by kernel_rfl) ?_
        refine below_run (by kernel_rfl) (.int .i64 ws.length) (fun w' hw' => by kernel_rfl) ?_
        refine below_run (by kernel_rfl) (.slice (some ⟨g, 0, none⟩) ws.length ws.length) (fun w' hw' => by kernel_rfl) ?_
        refine below_run (by kernel_rfl) (.int .i64 ws.length) (fun w' hw' => by kernel_rfl) ?_
        refine below_run (by kernel_rfl) (.bool false) (fun w' hw' => Eq.trans (show (execOp _ _).run _ w' = .ok (.value (.bool (decide ((ws.length : Int) < (ws.length : Int))))) w' by kernel_rfl) (by rw [hlt2])) ?_
        refine below_run (by kernel_rfl) (.bool false) (fun w' hw' => by kernel_rfl) ?_
        refine BigFrame.wpQuiet_skip (by kernel_rfl) ?_
        refine BigFrame.wpQuiet_skip (by kernel_rfl) ?_
        refine BigFrame.wpQuiet_skip (by kernel_rfl) ?_
        refine BigFrame.wpQuiet_skip (by kernel_rfl) ?_
        refine BigFrame.wpQuiet_skip (by kernel_rfl) ?_
        refine BigFrame.wpQuiet_skip (by kernel_rfl) ?_
        refine BigFrame.wpQuiet_skip (by kernel_rfl) ?_
        refine BigFrame.wpQuiet_skip (by kernel_rfl) ?_
        refine BigFrame.wpQuiet_skip (by kernel_rfl) ?_
        refine below_run (by kernel_rfl) (.bool false) (fun w' hw' => by kernel_rfl) ?_
        refine wpQuiet_nil ?_
        intro W3 hW3
        simp only [Act.put, List.setIfInBounds_toArray, List.set_cons_succ, List.set_cons_zero]
        have hbel := below_step hbel hW3
        have hB4 := hB2.trans (hbel.mono hB2.size)
        clear hW3 hlt2
        go_wp2
        go_ret2
        exact ⟨_, _, rfl, ⟨HC.out, .inr ⟨rfl, _, rfl, by rw [← HWE.out]; exact ⟨Nat.le_refl _, HALL.out, fun h => by omega⟩⟩⟩, hB4⟩
  · clear hcd
    go_enter Tryz.func25, Tryz.ntmps25
    go_wp2_with (first
      | (refine wpList_load_row rfl 28 (.tmp 3) rfl _ rfl 28 (fcV f (.slice A n c)).toArray _ _ hk Tryz.underlying28 rfl HZ.out ?_)
      | (go_at_call 52; refine (wideCode_any f A n c s m _ HF.out HN.out hm hs HS.out HM.out).mono ?_; rintro e w1 ⟨he, hb⟩; rw [← HC.out] at he; subst he; have hB := below_step hB hb; clear hb))
    go_ret2
    exact ⟨_, _, rfl, ⟨HC.out, .inl ⟨h0, rfl⟩⟩, hB⟩
end Go.Proofs.YtahggbaandcddaaGreatDoor
