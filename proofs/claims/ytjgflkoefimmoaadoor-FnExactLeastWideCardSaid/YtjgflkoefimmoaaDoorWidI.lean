/- Contracts: the widest word, by the program. -/
import Derived.Test.YtjgflkoefimmoaaDoorWidS
import Derived.Test.YtjgflkoefimmoaaDoorEnvW
namespace Go.Proofs.YtjgflkoefimmoaaDoor
open Go Go.RowKit
set_option linter.unusedVariables false
set_option linter.unusedSimpArgs false

theorem wsV_at {ws : List (List UInt8)} {k : Nat} (h : k < ws.length) : (wsV ws)[k]? = some (.string ⟨(rdW ws k).toArray⟩) := by
  unfold wsV rdW
  rw [List.getElem?_map, List.getD, List.getElem?_eq_getElem h]; rfl

set_option maxHeartbeats 2000000 in
set_option maxRecDepth 100000 in
theorem widest_impl (f : Fc) (A : Option Addr) (n c : Nat) (s : ByteArray) (w : World) (hf : FcT f) (hn : f.pairs.length = n) (hm : n ≤ 1048576) (hs : s.size ≤ 1048576) (h : SlP w A f.pairs) (hmx : MaxW w) (hsp : SpT w) :
    Calls Tryd.prog 22 #[.agg (fcV f (.slice A n c)).toArray, .string s] w fun e w' => e = .returned (tripV (widOut f (bs s))) ∧ Below w.heap.size w w' := by
  have hB := below_one w (.cells (fcV f (.slice A n c)).toArray 33)
  have hk := Blk.new w 33 (fcV f (.slice A n c))
  have HS := Lib.hid (h.next hB)
  have HM := Lib.hid (hmx.next hB)
  have HP := Lib.hid (hsp.next hB)
  have HF := Lib.hid hf
  have HN := Lib.hid hn
  have hsz : (fcV f (.slice A n c)).toArray.size = 29 := by simp [fcV_length hf]
  have HZ := Lib.hid (show (Tryd.prog.info? 33).map (·.size) = some (fcV f (.slice A n c)).toArray.size by rw [hsz]; exact szFcI)
  clear hf hn h hmx hsp hsz
  by_cases h0 : askC f (bs s) true = 0
  · obtain ⟨hv, ht, _⟩ := askC_zero h0
    have HVV := Lib.hid (validF_iff.1 hv)
    have HWD := Lib.hid (words_isW ht)
    have HWL := Lib.hid (fun x (hx : x ∈ words (bs s)) => word_len ht hx)
    have hcnt := words_count ht
    have HO := Lib.hid (widOut_ok hv ht)
    have HON := Lib.hid (widOut_nil hv ht)
    have HT := Lib.hid ht
    have H0 := Lib.hid h0
    clear hv ht h0
    go_enter Tryd.func22, Tryd.ntmps22
    go_wp2_with (first
      | (refine wpList_load_row rfl 33 (.tmp 2) rfl _ rfl 33 (fcV f (.slice A n c)).toArray _ _ hk Tryd.underlying33 rfl HZ.out ?_)
      | (go_at_call 54; refine (lineCode_any f A n c s _ HF.out HN.out hm hs HS.out HM.out).mono ?_; rintro e w1 ⟨he, hb⟩; rw [H0.out] at he; subst he; have hb1 := hb; clear hb)
      | (go_at_call 55; refine (fields_impl s _ HT.out (HP.out.next hb1)).mono ?_; rintro e w2 ⟨rfl, rfl⟩))
    have HK2 := Lib.hid ((hk.next hb1).alloc (.cells (wsV (words (bs s))).toArray 9))
    have HWS := Lib.hid (Blk.new w1 9 (wsV (words (bs s))))
    have hB2 := (below_step hB hb1).trans ((below_one w1 (.cells (wsV (words (bs s))).toArray 9)).mono (below_step hB hb1).size)
    have HS2 := Lib.hid ((HS.out.next hb1).next (below_one w1 (.cells (wsV (words (bs s))).toArray 9)))
    clear hb1 H0 hB HP HM HS hk HT
    obtain ⟨b0, hb0⟩ : ∃ b0, b0 = w.heap.size := ⟨_, rfl⟩
    rw [← hb0] at HK2 ⊢
    clear hb0
    obtain ⟨g, hg⟩ : ∃ g, g = w1.heap.size := ⟨_, rfl⟩
    rw [← hg] at HWS ⊢
    clear hg
    generalize w1.alloc (.cells (wsV (words (bs s))).toArray 9) = W2 at *
    generalize hW : words (bs s) = ws at *
    go_loopw [8, 9, 22] (fun vb vm i wr => ∃ (k : Nat) (b m : Int), k ≤ ws.length ∧ i = .int .i64 k ∧ vb = .int .i64 (if k = 0 then 0 else b) ∧ vm = .int .i64 m ∧ bst f ws k = (b, m) ∧ Below W2.heap.size W2 wr) (fun _ _ i _ => ws.length - (intOf i).toNat)
    case atStart => exact ⟨0, -1, 0, Nat.zero_le _, rfl, rfl, rfl, rfl, Below.refl _ _⟩
    case round =>
      obtain ⟨k, b, m, hk, rfl, rfl, rfl, hbst, hbel⟩ := hrel
      have hrg := bst_range HVV.out HWD.out HWL.out hk
      rw [hbst] at hrg
      have HBS := Lib.hid hbst
      clear hbst
      by_cases hlt : k < ws.length
      · have hwo := HWD.out _ (rdW_mem hlt)
        have hwl := HWL.out _ (rdW_mem hlt)
        have hlr := word_range HVV.out hwo hwl
        have HWO := Lib.hid hwo
        have HW3 := Lib.hid (HWS.out.next hbel)
        have hcell := HW3.out.cell k _ (wsV_at hlt)
        have hkf := HK2.out.next hbel
        have HS3 := Lib.hid (HS2.out.next hbel)
        clear hwo
        by_cases hgt : m < lineW f (rdW ws k)
        · have HY := Lib.hid (bst_yes (f := f) (ws := ws) (k := k) (by rw [HBS.out]; exact hgt))
          go_wp2_with (first
            | (refine wpList_load_row rfl 33 (.tmp 2) rfl _ rfl 33 (fcV f (.slice A n c)).toArray _ _ hkf Tryd.underlying33 rfl HZ.out ?_)
            | (go_at_call 56; refine (wide_impl f A n c ⟨(rdW ws k).toArray⟩ _ HF.out HVV.out HN.out hm HWO.out.1.ls hwl HS3.out).mono ?_; rintro e w3 ⟨he, hb3⟩; rw [bs_mk] at he; subst he; have hbel := below_step hbel hb3; clear hb3))
          go_roundw
          case rel => exact ⟨k + 1, _, _, by omega, by go_num, by rw [if_neg (by omega)], rfl, HY.out, hbel⟩
          case measure => simp [intOf]; omega
        · have HY := Lib.hid (bst_no (f := f) (ws := ws) (k := k) (by rw [HBS.out]; exact hgt))
          have hk0 : ¬ k = 0 := by
            rintro rfl
            rcases hrg with ⟨_, e⟩ | ⟨h1, _⟩
            · obtain ⟨rfl, rfl⟩ := Prod.mk.inj e
              omega
            · omega
          go_wp2_with (first
            | (refine wpList_load_row rfl 33 (.tmp 2) rfl _ rfl 33 (fcV f (.slice A n c)).toArray _ _ hkf Tryd.underlying33 rfl HZ.out ?_)
            | (go_at_call 56; refine (wide_impl f A n c ⟨(rdW ws k).toArray⟩ _ HF.out HVV.out HN.out hm HWO.out.1.ls hwl HS3.out).mono ?_; rintro e w3 ⟨he, hb3⟩; rw [bs_mk] at he; subst he; have hbel := below_step hbel hb3; clear hb3))
          go_roundw
          case rel => exact ⟨k + 1, b, m, by omega, by go_num, by first | rfl | simp [hk0], rfl, by rw [HY.out, HBS.out], hbel⟩
          case measure => simp [intOf]; omega
      · obtain rfl : k = ws.length := by omega
        have hBw := hB2.trans (hbel.mono hB2.size)
        rcases hrg with ⟨h1, e⟩ | ⟨h1, h2, h3, h4, h5⟩
        · obtain ⟨rfl, rfl⟩ := Prod.mk.inj e
          have HX := Lib.hid (HON.out (List.eq_nil_of_length_eq_zero h1))
          go_wp2
          go_ret3
          exact ⟨retT (p := (0, 0, 6)) HX.out.symm, hBw⟩
        · dsimp only at h2 h3 h4 h5
          have HX := Lib.hid (HO.out (fun e => by rw [e] at h1; simp at h1))
          have hne : ¬ m = 0 := by omega
          have hl0 : ¬ ws.length = 0 := by omega
          go_wp2
          go_ret3
          exact ⟨retT (p := (b, m, 0)) (by rw [HX.out, HBS.out]), hBw⟩
  · obtain ⟨h1, hno⟩ := askC_one h0
    have HO := Lib.hid (widOut_no hno)
    have H1 := Lib.hid h1
    clear h0 h1 hno
    go_enter Tryd.func22, Tryd.ntmps22
    go_wp2_with (first
      | (refine wpList_load_row rfl 33 (.tmp 2) rfl _ rfl 33 (fcV f (.slice A n c)).toArray _ _ hk Tryd.underlying33 rfl HZ.out ?_)
      | (go_at_call 54; refine (lineCode_any f A n c s _ HF.out HN.out hm hs HS.out HM.out).mono ?_; rintro e w1 ⟨he, hb⟩; rw [H1.out] at he; subst he; have hB := below_step hB hb; clear hb))
    go_ret3
    exact ⟨retT (p := (0, 0, 1)) HO.out.symm, hB⟩
end Go.Proofs.YtjgflkoefimmoaaDoor
