/- Contracts: greedy breaks, by the reference. -/
import Derived.Test.YtjgflkoefimmoaaDoorGrP
import Derived.Test.YtjgflkoefimmoaaDoorFitS
namespace Go.Proofs.YtjgflkoefimmoaaDoor
open Go Go.RowKit
set_option linter.unusedVariables false
set_option linter.unusedSimpArgs false

set_option maxHeartbeats 1000000 in
set_option maxRecDepth 100000 in
theorem fits_spec (f : Fc) (n b0 : Nat) (A : Option Addr) (c : Nat) (ws : List (List UInt8)) (m : Int) (w : World) (hf : FcT f) (hV : FcV f) (hn : f.pairs.length = n) (hm : n ≤ 1048576) (hw : Ws ws) (h : FcAt w b0 f n) (hs : SlE sv w A ws) :
    Calls Tryd.prog 62 #[.pointer (some ⟨b0, 0, none⟩), .slice A ws.length c, .int .i64 m] w fun e w' => e = .returned (.bool (fits f ws m)) ∧ Below w.heap.size w w' := by
  have HF := Lib.hid hf
  have HVV := Lib.hid hV
  have HN := Lib.hid hn
  have HA := Lib.hid h
  have HW := Lib.hid hw
  have HSL := Lib.hid hs
  have hcnt := hw.many
  clear hf hV hn h hw hs
  go_enter Tryd.func62, Tryd.ntmps62
  go_wp2
  go_loopw [7] (fun i wr => ∃ k : Nat, k ≤ ws.length ∧ i = .int .i64 k ∧ FitsN f ws m k ∧ Below w.heap.size w wr) (fun i _ => ws.length - (intOf i).toNat)
  case atStart => exact ⟨0, by omega, rfl, fitsN_zero _ _ _, Below.refl _ _⟩
  case round =>
    obtain ⟨k, hk, rfl, hall, hbel⟩ := hrel
    have HALL := Lib.hid hall
    clear hall
    by_cases hlt : k < ws.length
    · obtain ⟨a, rfl, hrow⟩ := (HSL.out.next hbel).some k hlt
      have hcell := hrow.atW k hlt
      have hwl := HW.out.len _ (rdW_mem hlt)
      have HA2 := Lib.hid (HA.out.next hbel)
      have HL1 := Lib.hid (lnW_one (f := f) hlt)
      clear hrow
      by_cases hgt : m < lineW f (rdW ws k)
      · have HX := Lib.hid (fits_bad (f := f) (m := m) hlt (by rw [HL1.out]; omega))
        go_wp2_with (go_at_call 53; refine (wide_spec f n b0 ⟨(rdW ws k).toArray⟩ _ HF.out HVV.out HN.out hm (HW.out.isw _ (rdW_mem hlt)).1 hwl HA2.out).mono ?_; rintro e w3 ⟨he, hb3⟩; rw [bs_mk] at he; subst he; have hbel := below_step hbel hb3; clear hb3)
        go_ret
        exact ⟨retB HX.out.symm, hbel⟩
      · have HX := Lib.hid (fitsN_succ HALL.out (by rw [HL1.out]; omega))
        go_wp2_with (go_at_call 53; refine (wide_spec f n b0 ⟨(rdW ws k).toArray⟩ _ HF.out HVV.out HN.out hm (HW.out.isw _ (rdW_mem hlt)).1 hwl HA2.out).mono ?_; rintro e w3 ⟨he, hb3⟩; rw [bs_mk] at he; subst he; have hbel := below_step hbel hb3; clear hb3)
        go_roundw
        case rel => exact ⟨k + 1, by omega, by go_num, HX.out, hbel⟩
        case measure => simp [intOf]; omega
    · obtain rfl : k = ws.length := by omega
      have HX := Lib.hid (fits_all HALL.out)
      go_wp2
      go_ret
      exact ⟨retB HX.out.symm, hbel⟩

structure GrRel (f : Fc) (ws : List (List UInt8)) (m : Int) (W0 wr : World) (v : Value) (k : Nat) : Prop where
  own : wr.ownsRow W0.heap.size 2 1 v (grd f ws m k).1.length ((grd f ws m k).1.map i64)
  below : Below W0.heap.size W0 wr
/-- A list of numbers in memory of the call's own. -/
def NsOut (w : World) (xs : List Int) (e : Ending) (w' : World) : Prop := ∃ A c, e = .returned (.slice A xs.length c) ∧ Below w.heap.size w w' ∧ OwnS w' w.heap.size w'.heap.size A xs

set_option maxHeartbeats 2000000 in
set_option maxRecDepth 100000 in
theorem greedy_spec (f : Fc) (n b0 : Nat) (A : Option Addr) (c : Nat) (ws : List (List UInt8)) (m : Int) (w : World) (hf : FcT f) (hV : FcV f) (hn : f.pairs.length = n) (hm : n ≤ 1048576) (hw : Ws ws) (h : FcAt w b0 f n) (hs : SlE sv w A ws) (hA : 0 < ws.length → ∃ g, A = some ⟨g, 0, none⟩)
    (hc : ws.length ≤ c) (h1 : grd f ws m 1 = ([], 0)) :
    Calls Tryd.prog 63 #[.pointer (some ⟨b0, 0, none⟩), .slice A ws.length c, .int .i64 m] w (NsOut w (grd f ws m ws.length).1) := by
  have HF := Lib.hid hf
  have HVV := Lib.hid hV
  have HN := Lib.hid hn
  have HA := Lib.hid h
  have HW := Lib.hid hw
  have HSL := Lib.hid hs
  have HG := Lib.hid hA
  have H1 := Lib.hid h1
  have hcnt := hw.many
  clear hf hV hn h hw hs hA h1
  go_enter Tryd.func63, Tryd.ntmps63
  go_wp2
  go_loopw [7, 8, 9] (fun v b i wr => ∃ k : Nat, 1 ≤ k ∧ (k = 1 ∨ k ≤ ws.length) ∧ i = .int .i64 k ∧ b = .int .i64 ((grd f ws m k).2 : Nat) ∧ GrRel f ws m w wr v k) (fun _ _ i _ => ws.length - (intOf i).toNat)
  case atStart => exact ⟨1, by omega, .inl rfl, rfl, by rw [H1.out]; rfl, by rw [H1.out]; exact own_empty _ _ rfl _ _ (Nat.le_refl _) 1, below_one _ _⟩
  case round =>
    obtain ⟨k, hk1, hk, rfl, rfl, h⟩ := hrel
    have hown := h.own
    have hbel := h.below
    clear h
    have hsz := hbel.size
    have hgr := grd_range f ws m k
    by_cases hlt : k < ws.length
    · obtain ⟨g, rfl⟩ := HG.out (by omega)
      have HCUT := Lib.hid (show (cutW ws (grd f ws m k).2 (k + 1)).length = k + 1 - (grd f ws m k).2 from cutW_length hlt)
      have HSC := Lib.hid (slE_cut (HSL.out.next hbel) (grd f ws m k).2 (k + 1))
      have HA3 := Lib.hid (HA.out.next hbel)
      by_cases hgt : m < lnW f ws (grd f ws m k).2 (k + 1)
      · have HX := Lib.hid (grd_yes hgt)
        generalize hfr : (grd f ws m k).2 = fr at *
        generalize hls : (grd f ws m k).1 = ls at *
        go_wp2_with (first
          | (refine wpList_run rfl _ (exec_slice2 (.tmp 18) (.tmp 19) (.tmp 21) rfl g ws.length c fr (k + 1) rfl rfl rfl (by omega) (by omega)) ?_)
          | (go_at_call 58; refine (line_specN f n b0 _ _ (cutW ws fr (k + 1)) (k + 1 - fr) _ HF.out HVV.out HN.out hm (HW.out.cut _ _) HA3.out (by have := HSC.out; rwa [Nat.zero_add] at this) HCUT.out).mono ?_; rintro e w3 ⟨he, hb3⟩; change e = .returned (.int .i64 (lnW f ws fr (k + 1))) at he; subst he; have hown := own_next hown hb3; have hbel := below_step hbel hb3; have hsz := hbel.size; clear hb3)
          | (at_builtin; refine wpList_app1 rfl (.tmp 26) (.tmp 28) _ rfl elI w3 w.heap.size u7 ls.length _ rfl hown (.int .i64 (k : Int)) _ rfl rfl rfl (by unfold maxLen; omega) (by omega) hsz ?_; intro v' w' ho' hg'))
        go_roundw
        case rel =>
          refine ⟨k + 1, by omega, .inr (by omega), by go_num, by rw [HX.out], ?_, below_own hbel hown hg' (Nat.le_refl _) hsz⟩
          rw [HX.out, List.length_append, List.map_append]
          exact ho'
        case measure => simp [intOf]; omega
      · have HX := Lib.hid (grd_no hgt)
        generalize hfr : (grd f ws m k).2 = fr at *
        generalize hls : (grd f ws m k).1 = ls at *
        go_wp2_with (first
          | (refine wpList_run rfl _ (exec_slice2 (.tmp 18) (.tmp 19) (.tmp 21) rfl g ws.length c fr (k + 1) rfl rfl rfl (by omega) (by omega)) ?_)
          | (go_at_call 58; refine (line_specN f n b0 _ _ (cutW ws fr (k + 1)) (k + 1 - fr) _ HF.out HVV.out HN.out hm (HW.out.cut _ _) HA3.out (by have := HSC.out; rwa [Nat.zero_add] at this) HCUT.out).mono ?_; rintro e w3 ⟨he, hb3⟩; change e = .returned (.int .i64 (lnW f ws fr (k + 1))) at he; subst he; have hown := own_next hown hb3; have hbel := below_step hbel hb3; clear hb3))
        go_roundw
        case rel => exact ⟨k + 1, by omega, .inr (by omega), by go_num, by rw [HX.out, hfr], by rw [HX.out, hls]; exact hown, hbel⟩
        case measure => simp [intOf]; omega
    · have HE := Lib.hid (show (grd f ws m k).1 = (grd f ws m ws.length).1 by
        rcases hk with rfl | hk
        · by_cases h0 : ws.length = 0
          · rw [h0, H1.out]; rfl
          · rw [show ws.length = 1 by omega]
        · rw [show k = ws.length by omega])
      go_wp2
      go_ret
      obtain ⟨A', c', rfl, hl, ho⟩ := OwnS.of_own hown
      rw [HE.out] at ho hl ⊢
      exact ⟨A', c', rfl, hbel, ho⟩
end Go.Proofs.YtjgflkoefimmoaaDoor
