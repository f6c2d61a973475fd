/- Contracts: greedy breaks of a setter, by the program. -/
import Derived.Test.YtjgflkoefimmoaaDoorStI
import Derived.Test.YtjgflkoefimmoaaDoorGrS
namespace Go.Proofs.YtjgflkoefimmoaaDoor
open Go Go.RowKit
set_option linter.unusedVariables false
set_option linter.unusedSimpArgs false

/-- Breaks, and whether all words fit. -/
def GrOut (f : Fc) (ws : List (List UInt8)) (m : Int) (w : World) (e : Ending) (w' : World) : Prop :=
  ∃ A n c, e = .returned (.tuple #[.slice A n c, .bool (fits f ws m)]) ∧ Below w.heap.size w w' ∧ (fits f ws m = true → n = (grd f ws m ws.length).1.length ∧ OwnS w' w.heap.size w'.heap.size A (grd f ws m ws.length).1) ∧ (fits f ws m = false → A = none ∧ n = 0)

set_option maxHeartbeats 2000000 in
set_option maxRecDepth 100000 in
theorem greedy_impl (f : Fc) (A : Option Addr) (n c g : Nat) (ws : List (List UInt8)) (m : Int) (w : World) (hf : FcT f) (hV : FcV f) (hn : f.pairs.length = n) (hm : n ≤ 1048576) (hs : SlP w A f.pairs) (hw : Ws ws) (hl : ∀ a b, (joinW (cutW ws a b)).length ≤ 60)
    (hmr : 0 ≤ m ∧ m ≤ 1000000) (h : Blk w g 9 (wsV ws)) :
    Calls Tryd.prog 66 #[.agg (stV f (.slice A n c) (wS g ws) m).toArray] w (GrOut f ws m w) := by
  have hB := below_one w (.cells (stV f (.slice A n c) (wS g ws) m).toArray 77)
  have hk := Blk.new w 77 (stV f (.slice A n c) (wS g ws) m)
  have c29 := (hk.alloc (.cells #[] 2)).cell 29 (.slice (some ⟨g, 0, none⟩) ws.length ws.length) (stV_words hf _ _ _)
  have HK := Lib.hid hk
  have HG := Lib.hid (h.next hB)
  have HS := Lib.hid (hs.next hB)
  have HW := Lib.hid hw
  have HL := Lib.hid hl
  have hmany := hw.many
  have HZ := Lib.hid (show (Tryd.prog.info? 77).map (·.size) = some (stV f (.slice A n c) (wS g ws) m).toArray.size by rw [List.size_toArray, stV_length hf]; exact szStI)
  clear h hs hw hk hl
  go_enter Tryd.func66, Tryd.ntmps66
  go_wp2
  clear c29
  have hs0 : (w.alloc (.cells (stV f (.slice A n c) (wS g ws) m).toArray 77)).heap.size = w.heap.size + 1 := by simp
  obtain ⟨b0, hb0⟩ : ∃ b0, b0 = w.heap.size := ⟨_, rfl⟩
  rw [← hb0] at HK hs0 ⊢
  clear hb0
  generalize w.alloc (.cells (stV f (.slice A n c) (wS g ws) m).toArray 77) = W0 at *
  go_loopw [4, 5, 11] (fun v b i wr => ∃ k : Nat, k ≤ ws.length ∧ i = .int .i64 k ∧ b = .int .i64 ((grd f ws m k).2 : Nat) ∧ FitsN f ws m k ∧ GrRel f ws m W0 wr v k) (fun _ _ i _ => ws.length - (intOf i).toNat)
  case atStart => exact ⟨0, by omega, rfl, rfl, fitsN_zero _ _ _, own_empty W0 (b0 + 1) (by omega) W0.heap.size _ (by omega) 1, below_one _ _⟩
  clear hs0
  case round =>
    obtain ⟨k, hk, rfl, rfl, hfit, h⟩ := hrel
    have HFT := Lib.hid hfit
    have hown := h.own
    have hbel := h.below
    clear h hfit
    have hsz := hbel.size
    have hgr := grd_range f ws m k
    by_cases hlt : k < ws.length
    · have hkr := HK.out.next hbel
      have HG1 := Lib.hid (HG.out.next hbel)
      have HS1 := Lib.hid (HS.out.next hbel)
      have hr1 := lnW_range hV HW.out k (k + 1)
      by_cases hbad : m - lnW f ws k (k + 1) < 0
      · have HX := Lib.hid (fits_bad (f := f) (m := m) hlt (by omega))
        clear hgr
        go_wp2_with (first
          | (refine wpList_load_row rfl 77 (.tmp 1) rfl _ rfl 77 (stV f (.slice A n c) (wS g ws) m).toArray _ _ hkr Tryd.underlying77 rfl HZ.out ?_)
          | (go_at_call 90; refine (room_impl f A n c g k (k + 1) ws m _ hf hV hn hm HS1.out (by omega) hlt HW.out (HL.out _ _) (by omega) HG1.out).mono ?_; rintro e w1 ⟨rfl, hb1⟩))
        go_ret2
        exact ⟨none, 0, 0, by rw [HX.out]; rfl, below_step (hB.trans (hbel.mono hB.size)) hb1, (fun h => by rw [HX.out] at h; exact absurd h (by decide)), fun _ => ⟨rfl, rfl⟩⟩
      · have HFN := Lib.hid (fitsN_succ HFT.out (by omega))
        have hr2 := lnW_range hV HW.out (grd f ws m k).2 (k + 1)
        by_cases hgt : m < lnW f ws (grd f ws m k).2 (k + 1)
        · have HX := Lib.hid (grd_yes hgt)
          generalize hfr : (grd f ws m k).2 = fr at *
          generalize hls : (grd f ws m k).1 = ls at *
          have hgt2 : m - lnW f ws fr (k + 1) < 0 := by omega
          go_wp2_with (refine wpList_load_row rfl 77 (.tmp 1) rfl _ rfl 77 (stV f (.slice A n c) (wS g ws) m).toArray _ _ hkr Tryd.underlying77 rfl HZ.out ?_)
          go_at_call 90
          refine (room_impl f A n c g k (k + 1) ws m _ hf hV hn hm HS1.out (by omega) hlt HW.out (HL.out _ _) (by omega) HG1.out).mono ?_
          rintro e w1 ⟨rfl, hb1⟩
          have hkr := hkr.next hb1
          have HG2 := Lib.hid (HG1.out.next hb1)
          have HS2 := Lib.hid (HS1.out.next hb1)
          have hown := own_next hown hb1
          have hbel := hbel.trans (hb1.mono hsz)
          have hsz := hbel.size
          clear hb1
          go_wp2_with (refine wpList_load_row rfl 77 (.tmp 1) rfl _ rfl 77 (stV f (.slice A n c) (wS g ws) m).toArray _ _ hkr Tryd.underlying77 rfl HZ.out ?_)
          go_at_call 90
          refine (room_impl f A n c g fr (k + 1) ws m _ hf hV hn hm HS2.out (by omega) hlt HW.out (HL.out _ _) (by omega) HG2.out).mono ?_
          rintro e w2 ⟨rfl, hb1⟩
          have hown := own_next hown hb1
          have hbel := hbel.trans (hb1.mono hsz)
          have hsz := hbel.size
          clear hb1
          go_wp2_with (at_builtin; refine wpList_app1 rfl (.tmp 26) (.tmp 28) _ rfl elI w2 W0.heap.size u4 ls.length _ rfl hown (.int .i64 (k : Int)) _ rfl rfl rfl (by unfold maxLen; omega) (by omega) hsz ?_; intro v' w' ho' hg')
          go_roundw
          case rel =>
            refine ⟨k + 1, by omega, by go_num, by rw [HX.out], HFN.out, ?_, below_own hbel hown hg' (Nat.le_refl _) hsz⟩
            rw [HX.out, List.length_append, List.map_append]
            exact ho'
          case measure => simp [intOf]; omega
        · have HX := Lib.hid (grd_no hgt)
          generalize hfr : (grd f ws m k).2 = fr at *
          generalize hls : (grd f ws m k).1 = ls at *
          have hgt2 : ¬ m - lnW f ws fr (k + 1) < 0 := by omega
          go_wp2_with (refine wpList_load_row rfl 77 (.tmp 1) rfl _ rfl 77 (stV f (.slice A n c) (wS g ws) m).toArray _ _ hkr Tryd.underlying77 rfl HZ.out ?_)
          go_at_call 90
          refine (room_impl f A n c g k (k + 1) ws m _ hf hV hn hm HS1.out (by omega) hlt HW.out (HL.out _ _) (by omega) HG1.out).mono ?_
          rintro e w1 ⟨rfl, hb1⟩
          have hkr := hkr.next hb1
          have HG2 := Lib.hid (HG1.out.next hb1)
          have HS2 := Lib.hid (HS1.out.next hb1)
          have hown := own_next hown hb1
          have hbel := hbel.trans (hb1.mono hsz)
          have hsz := hbel.size
          clear hb1
          go_wp2_with (refine wpList_load_row rfl 77 (.tmp 1) rfl _ rfl 77 (stV f (.slice A n c) (wS g ws) m).toArray _ _ hkr Tryd.underlying77 rfl HZ.out ?_)
          go_at_call 90
          refine (room_impl f A n c g fr (k + 1) ws m _ hf hV hn hm HS2.out (by omega) hlt HW.out (HL.out _ _) (by omega) HG2.out).mono ?_
          rintro e w2 ⟨rfl, hb1⟩
          have hown := own_next hown hb1
          have hbel := hbel.trans (hb1.mono hsz)
          clear hb1
          go_wp2
          go_roundw
          case rel => exact ⟨k + 1, by omega, by go_num, by rw [HX.out, hfr], HFN.out, by rw [HX.out, hls]; exact hown, hbel⟩
          case measure => simp [intOf]; omega
    · obtain rfl : k = ws.length := by omega
      have HX := Lib.hid (fits_all HFT.out)
      have hB3 := hB.trans (hbel.mono hB.size)
      go_wp2
      go_ret2
      obtain ⟨A', c', rfl, hl, ho⟩ := OwnS.of_own hown
      refine ⟨A', _, c', by rw [HX.out]; rfl, hB3, fun _ => ⟨rfl, fun hn => ?_⟩, (fun h => by rw [HX.out] at h; exact absurd h (by decide))⟩
      obtain ⟨g', cs, e, h1, h2, h3⟩ := ho hn
      exact ⟨g', cs, e, Nat.le_trans hB.size h1, h2, h3⟩
end Go.Proofs.YtjgflkoefimmoaaDoor
