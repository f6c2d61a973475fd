/- Contract: pieces given to sheets from one on, by the program, over a closure's contract. -/
import Derived.Test.YtonnplaacebekaaDoorShE
import Derived.Test.YtonnplaacebekaaDoorShF
import Derived.BigRegion

namespace Go.Proofs.YtonnplaacebekaaDoor
open Go Go.RowKit Go.Shelf
set_option linter.unusedVariables false
set_option linter.unusedSimpArgs false

/-- What is asked of the closure that says where to begin. -/
def FromI (g : Nat) (fr : Nat → Nat) : Prop := ∀ (W : World) (m : Nat), m ≤ 1048576 → Calls Tryd.prog g #[.int .i64 m] W fun e w' => e = .returned (.int .i64 (fr m : Nat)) ∧ Below W.heap.size W w'

set_option maxHeartbeats 4000000 in
set_option maxRecDepth 100000 in
theorem sheetsWith_any (g : Nat) (eg : ∀ args w, (callFunc g args).run Tryd.prog w = .ok (.enter g args) w) (fr : Nat → Nat) (hfr : ∀ m, fr m ≤ m) (hF : FromI g fr) (sh : Sh) (A : Option Addr) (n c : Nat) (D : List Int) (lo hi : Nat) (w : World) (hsh : ShT sh) (hw : 1 ≤ sh.wide ∧ sh.wide ≤ 400) (hp : ∀ k, k < D.length → 1 ≤ rdI D k ∧ rdI D k ≤ sh.wide) (hn : D.length = n) (hm : n ≤ 60) (h : OwnS w lo hi A D) (hhi : hi ≤ w.heap.size) :
    Calls Tryd.prog 74 #[.agg (shV sh).toArray, .slice A n c, .func (.func g) #[] #[]] w (PwOut w (shs fr sh.wide D D.length).1 (shs fr sh.wide D D.length).2) := by
  have hB := below_one w (.cells (shV sh).toArray 38)
  have hb2 := below_two (w.alloc (.cells (shV sh).toArray 38)) (.cells #[] 2) (.cells #[] 2)
  have hsb := Blk.new w 38 (shV sh)
  have ho1 := (own_empty (w.alloc (.cells (shV sh).toArray 38)) (w.heap.size + 1) (by simp) (w.alloc (.cells (shV sh).toArray 38)).heap.size 2 (by simp) 1).alloc (.cells #[] 2)
  have ho2 := own_empty ((w.alloc (.cells (shV sh).toArray 38)).alloc (.cells #[] 2)) (w.heap.size + 1 + 1) (by simp) (w.alloc (.cells (shV sh).toArray 38)).heap.size 2 (by simp) 1
  have hfs : FsRel (w.alloc (.cells (shV sh).toArray 38)) (((w.alloc (.cells (shV sh).toArray 38)).alloc (.cells #[] 2)).alloc (.cells #[] 2)) lo hi (.slice (some ⟨w.heap.size + 1, 0, none⟩) 0 0) (.slice (some ⟨w.heap.size + 1 + 1, 0, none⟩) 0 0) A D [] [] :=
    ⟨ho1, ho2, ⟨_, _, rfl, rfl, by show w.heap.size + 1 ≠ w.heap.size + 1 + 1; omega, .inr (by show hi ≤ w.heap.size + 1; omega), .inr (by show hi ≤ w.heap.size + 1 + 1; omega)⟩, (h.next hB).next hb2, hb2, by simp; omega⟩
  have HB := Lib.hid hsb
  have HBB := Lib.hid hB
  have HFR := Lib.hid hF
  have HP := Lib.hid hp
  have HFM := Lib.hid hfr
  have hsz0 := hB.size
  subst hn
  clear hB hb2 hsb ho1 ho2 h hF hsh
  go_enter Tryd.func74, Tryd.ntmps74
  go_wp2
  generalize hW0 : w.alloc (.cells (shV sh).toArray 38) = W0 at *
  clear hW0
  go_loopw [8, 9, 18] (fun v u i wr => ∃ k : Nat, k ≤ D.length ∧ i = .int .i64 k ∧ FsRel W0 wr lo hi v u A D (shs fr sh.wide D k).1 (shs fr sh.wide D k).2) (fun _ _ i _ => D.length - (intOf i).toNat)
  case atStart => exact ⟨0, by omega, rfl, hfs⟩
  clear hfs
  case round =>
    obtain ⟨k, hk, rfl, h⟩ := hrel
    obtain ⟨r1, r2, r3⟩ := shs_range (fr := fr) HFM.out HP.out k hk
    obtain ⟨xs, hxs⟩ : ∃ xs, xs = (shs fr sh.wide D k).1 := ⟨_, rfl⟩
    obtain ⟨ys, hys⟩ : ∃ ys, ys = (shs fr sh.wide D k).2 := ⟨_, rfl⟩
    rw [← hxs, ← hys] at h
    rw [← hxs] at r1
    rw [← hys] at r2 r3
    have HX := Lib.hid hxs
    have HY := Lib.hid hys
    clear hxs hys
    obtain ⟨g2, cu, rfl, hcu⟩ := h.form
    by_cases hkD : k < D.length
    · obtain ⟨a, rfl, hrow⟩ := h.src.sl.some k hkD
      have hpk := HP.out k hkD
      have H := Lib.hid h
      have hszr := h.below.size
      have hf1 := HFM.out ys.length
      have hcell := hrow.atI64 k hkD
      have hcall := HFR.out wr ys.length (by omega)
      clear h hrow hfr
      go_wp2_with (go_at_fn g; refine hcall.mono ?_; rintro e w' ⟨rfl, hb'⟩)
      obtain ⟨f0, hf0⟩ : ∃ f0, f0 = fr ys.length := ⟨_, rfl⟩
      have HF0 := Lib.hid hf0
      rw [← hf0] at hf1 ⊢
      have hP : pickN ys (rdI D k) (ys.length - f0) f0 = pick f0 ys (rdI D k) := rfl
      have H := Lib.hid (H.out.next hb')
      clear hb' hcell hf0 hszr hcall
      rename World => wo
      go_loopw [12, 13] (fun kk j wi => ∃ m : Nat, f0 ≤ m ∧ m ≤ ys.length ∧ kk = .int .i64 ys.length ∧ j = .int .i64 m ∧ pickN ys (rdI D k) (ys.length - m) m = pick f0 ys (rdI D k) ∧ Below wo.heap.size wo wi) (fun _ j _ => ys.length - (intOf j).toNat)
      case atStart => exact ⟨f0, Nat.le_refl _, hf1, rfl, rfl, hP, Below.refl _ _⟩
      clear hP
      case round =>
        obtain ⟨m, hm1, hm2, rfl, rfl, hP, hwi⟩ := hrel
        have h3 := H.out.next hwi
        by_cases hlt : m < ys.length
        · have hcl := h3.cell m hlt
          have hfr : wr.frozen? ⟨g2, m, none⟩ = false := by obtain ⟨g', c', cs, e', _, hb⟩ := h3.at (by omega); cases e'; exact hb.free m
          have hr3 := r3 m hlt
          by_cases hle : rdI D k ≤ rdI ys m
          · have hPm : pick f0 ys (rdI D k) = m := by
              rw [← hP, show ys.length - m = (ys.length - (m + 1)) + 1 by omega, pickN_hit hle]
            have HPM := Lib.hid hPm
            have HST := Lib.hid (h3.set m (rdI ys m - rdI D k))
            have hsub : IntKind.i64.wrap (rdI ys m - rdI D k) = rdI ys m - rdI D k := IntWalk.i64_in _ (by omega)
            clear hP hPm h3
            go_wp2_with (at_builtin; refine wpList_app1B rfl (.tmp 58) (.tmp 60) _ rfl elI (wr.setCell ⟨g2, m, none⟩ (.int .i64 (rdI ys m - rdI D k))) W0.heap.size u8 xs.length _ rfl HST.out.out _ _ (by simp) rfl rfl (by unfold maxLen; omega) (by omega) HST.out.below.size ?_; intro v' w' ho' hg' hwh)
            go_roundw
            case rel =>
              refine ⟨k + 1, by omega, by go_num, ?_⟩
              have hput := HST.out.putO ho' hg' hwh
              rw [shs_old (i := m) (by rw [← HY.out, ← HF0.out]; exact HPM.out) (by rw [← HY.out]; omega), ← HX.out, ← HY.out]
              exact hput
            case measure => simp [intOf]; omega
          · have hP' : pickN ys (rdI D k) (ys.length - (m + 1)) (m + 1) = pick f0 ys (rdI D k) := by
              rw [← hP, show ys.length - m = (ys.length - (m + 1)) + 1 by omega, pickN_miss hle]
            clear hP h3
            go_wp2
            go_roundw
            case rel => exact ⟨m + 1, by omega, by omega, rfl, by go_num, hP', hwi⟩
            case measure => simp [intOf]; omega
        · obtain rfl : m = ys.length := by omega
          have hPm : pick f0 ys (rdI D k) = ys.length := by rw [← hP, Nat.sub_self]; rfl
          have HPM := Lib.hid hPm
          have hcw := (HB.out.next h3.below).cell 0 (.int .i16 sh.wide) rfl
          have hsz3 := h3.below.size
          have H3 := Lib.hid h3
          clear hP hPm h3
          have hsub : IntKind.i64.wrap (sh.wide - rdI D k) = sh.wide - rdI D k := IntWalk.i64_in _ (by omega)
          go_wp2_with (at_builtin; refine wpList_app1B rfl (.tmp 45) (.tmp 49) _ rfl elI wr W0.heap.size (.slice (some ⟨g2, 0, none⟩) ys.length cu) ys.length _ rfl H3.out.lef _ _ rfl rfl rfl (by unfold maxLen; omega) (by omega) hsz3 ?_; intro v' w' ho' hg' hwh; have h4 := H3.out.putL ho' hg' hwh; obtain ⟨g4, c4, rfl, hc4⟩ := h4.form; have hcl := h4.cell ys.length (by simp); rw [rdI_snoc] at hcl; have hfr : w'.frozen? ⟨g4, ys.length, none⟩ = false := by { obtain ⟨g', c', cs, e', _, hb⟩ := h4.at (by simp); cases e'; exact hb.free _ }; have H4 := Lib.hid (h4.set ys.length (sh.wide - rdI D k)); rw [List.length_append, List.length_singleton]; clear h4 ho' hg' hwh; go_wp2_with (at_builtin; refine wpList_app1B rfl (.tmp 58) (.tmp 60) _ rfl elI (w'.setCell ⟨g4, ys.length, none⟩ (.int .i64 (sh.wide - rdI D k))) W0.heap.size u8 xs.length _ rfl H4.out.out _ _ (by simp) rfl rfl (by unfold maxLen; omega) (by omega) H4.out.below.size ?_; intro v2 w2 ho2 hg2 hwh2))
          go_roundw
          case rel =>
            refine ⟨k + 1, by omega, by go_num, ?_⟩
            have hput := H4.out.putO ho2 hg2 hwh2
            rw [shs_new (by rw [← HY.out, ← HF0.out]; exact HPM.out), ← HX.out, ← HY.out]
            rw [set_snoc, List.length_append, List.length_singleton] at hput
            exact hput
          case measure => simp [intOf]; omega
    · obtain rfl : k = D.length := by omega
      have h1 := h.out
      have h2 := h.lef
      have hbel := h.below
      clear h
      go_wp2
      go_ret2
      obtain ⟨A', c', e1, hl1, o1⟩ := OwnS.of_own h1
      obtain ⟨B', d', e2, hl2, o2⟩ := OwnS.of_own h2
      rw [← HX.out, ← HY.out]
      exact ⟨A', c', B', d', by rw [e1, e2]; rfl, below_step HBB.out hbel, o1.low hsz0, o2.low hsz0⟩
end Go.Proofs.YtonnplaacebekaaDoor
