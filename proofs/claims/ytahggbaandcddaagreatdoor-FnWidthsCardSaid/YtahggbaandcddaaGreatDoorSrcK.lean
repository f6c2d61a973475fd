/- Contracts: texts that are drawn are valid. -/
import Derived.Test.YtahggbaandcddaaGreatDoorSrcI
import Derived.Test.YtahggbaandcddaaGreatDoorGF
import Derived.Test.YtahggbaandcddaaGreatDoorGP
import Derived.BigRegion


namespace Go.Proofs.YtahggbaandcddaaGreatDoor
open Go Go.RowKit
set_option linter.unusedVariables false
set_option linter.unusedSimpArgs false

theorem chOk_left {a w : List UInt8} {i : Nat} (hi : i < a.length) (h : chOk a i = true) : chOk (a ++ 32 :: w) i = true := by
  unfold chOk at h ⊢
  rw [byt_append_left hi]
  by_cases h32 : byt a i = 32
  · rw [if_pos h32] at h ⊢
    simp only [Bool.and_eq_true, decide_eq_true_iff] at h ⊢
    refine ⟨⟨h.1.1, by rw [List.length_append, List.length_cons]; omega⟩, ?_⟩
    rw [byt_append_left (by omega)]; exact h.2
  · rw [if_neg h32] at h ⊢; exact h
theorem vText_snoc {a w : List UInt8} (ha : vText a = true) (ha0 : a ≠ []) (hw : LL w) (hw0 : w ≠ []) (hl : (a ++ 32 :: w).length ≤ 60) : vText (a ++ 32 :: w) = true := by
  rw [vText_iff] at ha ⊢
  refine ⟨fun i hi => ?_, hl⟩
  have hal : 0 < a.length := List.length_pos_iff.2 ha0
  have hwl : 0 < w.length := List.length_pos_iff.2 hw0
  by_cases h1 : i < a.length
  · exact chOk_left h1 (ha.1 i h1)
  · by_cases h2 : i = a.length
    · subst h2
      have hb : byt (a ++ 32 :: w) a.length = 32 := by have := byt_append_right (a := a) (b := 32 :: w) (i := 0); rw [Nat.add_zero] at this; rw [this]; exact byt_head
      unfold chOk
      rw [if_pos hb]
      simp only [Bool.and_eq_true, decide_eq_true_iff]
      refine ⟨⟨by omega, by rw [List.length_append, List.length_cons]; omega⟩, ?_⟩
      rw [byt_append_left (by omega)]
      intro h32
      have := chOk_sp (ha.1 (a.length - 1) (by omega)) h32
      omega
    · obtain ⟨j, rfl⟩ : ∃ j, i = a.length + (j + 1) := ⟨i - a.length - 1, by omega⟩
      have hj : j < w.length := by rw [List.length_append, List.length_cons] at hi; omega
      have hb : byt (a ++ 32 :: w) (a.length + (j + 1)) = byt w j := by rw [byt_append_right, byt_cons]
      have hlet := hw j hj
      unfold chOk
      rw [hb, if_neg (fun e => by rw [e] at hlet; revert hlet; decide)]; exact hlet
/-- Words that are drawn. -/
def Wds (ws : List (List UInt8)) : Prop := ∀ x ∈ ws, LL x ∧ 1 ≤ x.length ∧ x.length ≤ 5
theorem joinW_wds : ∀ (n : Nat) (ws : List (List UInt8)), ws.length = n → n ≤ 8 → Wds ws → vText (joinW ws) = true ∧ (joinW ws).length ≤ 6 * n ∧ (0 < n → joinW ws ≠ [])
  | 0, ws, h, _, _ => by
    have : ws = [] := List.eq_nil_of_length_eq_zero h
    subst this
    exact ⟨by decide, by simp [joinW_nil], fun h => by omega⟩
  | n + 1, ws, h, hn, hw => by
    have hne : ws ≠ [] := fun e => by rw [e] at h; simp at h
    have e := List.dropLast_concat_getLast hne
    generalize hx : ws.getLast hne = x at e
    generalize hv : ws.dropLast = vs at e
    have hxm : x ∈ ws := by rw [← hx]; exact List.getLast_mem hne
    have hvl : vs.length = n := by rw [← hv, List.length_dropLast, h]; rfl
    obtain ⟨h1, h2, h3⟩ := joinW_wds n vs hvl (by omega) (fun y hy => hw y (by rw [← e]; exact List.mem_append_left _ hy))
    obtain ⟨x1, x2, x3⟩ := hw x hxm
    have hx0 : x ≠ [] := fun e => by rw [e] at x2; simp at x2
    rw [← e]
    by_cases hv0 : vs = []
    · subst hv0
      rw [List.nil_append, joinW_one]
      exact ⟨vText_iff.2 ⟨fun i hi => by
        have := x1 i hi
        unfold chOk
        rw [if_neg (fun e => by rw [e] at this; revert this; decide)]; exact this, by omega⟩, by omega, fun _ => hx0⟩
    · have hn0 : 0 < n := by rw [← hvl]; exact List.length_pos_iff.2 hv0
      rw [joinW_snoc hv0]
      have hlen : (joinW vs ++ 32 :: x).length ≤ 6 * (n + 1) := by rw [List.length_append, List.length_cons]; omega
      exact ⟨vText_snoc h1 (h3 hn0) x1 hx0 (by omega), hlen, fun _ e => by simp at e⟩
theorem grown_row {w wr w' : World} {b : Nat} {row : Option Nat} (h : w.grownBy wr (some b)) (h2 : wr.grownBy w' row) (hg : ∀ g, row = some g → w.heap.size ≤ g) : w.grownBy w' (some b) :=
  ⟨h2.os.trans h.os, h2.tape.trans h.tape, h2.output.trans h.output, Nat.le_trans h.size h2.size, fun i hi hne => (h2.block i (Nat.lt_of_lt_of_le hi h.size) (fun e => by have := hg i e.symm; omega)).trans (h.block i hi hne)⟩
theorem srcKeptRow {w w' : World} {b m : Nat} {row : Option Nat} (h : SrcAt w b m) (hg : w.grownBy w' row) (hr : ∀ g, row = some g → b < g) : SrcAt w' b m := by
  cases row with
  | none => exact h.next ⟨hg.os, hg.tape, hg.output, hg.size, fun k hk => hg.block k hk (by simp)⟩
  | some g => exact h.grown hg (hr g rfl)
/-- A text is drawn. -/
def DrawT (w : World) (b m : Nat) (e : Ending) (w' : World) : Prop := ∃ l : List UInt8, e = .returned (.string ⟨l.toArray⟩) ∧ vText l = true ∧ SrcAt w' b m ∧ w.grownBy w' (some b)
set_option maxHeartbeats 4000000 in
set_option maxRecDepth 100000 in
theorem said_any (b m : Nat) (w : World) (h : SrcAt w b m) (hm : m ≤ 50000) :
    Calls Tryz.prog 30 #[.pointer (some ⟨b, 0, none⟩)] w (DrawT w b (m + 300)) := by
  have H := Lib.hid h
  have hb := h.lt
  clear h
  go_enter Tryz.func30, Tryz.ntmps30
  repeat ((with_reducible fail_if_success (show wpList _ _ _ (⟨some 5, _, _, _, _, _⟩ :: _) _ _)); first | go_values | go_skip | go_guarded | go_step | go_upon)
  refine wpList_val (by kernel_rfl) (.slice (some ⟨w.heap.size, 0, none⟩) 0 0) (w.alloc (.cells #[] 9)) (by kernel_rfl) ?_
  have hown := own_empty w w.heap.size rfl w.heap.size 9 (Nat.le_refl _) 1
  have hb0 := below_one w (.cells #[] 9)
  have HS := Lib.hid (H.out.next hb0)
  have HG := Lib.hid (grown_below (row := some b) hb0)
  have HO := Lib.hid hown
  clear hown hb0
  repeat (first | go_values | go_skip | go_guarded | go_step | go_upon)
  generalize w.alloc (.cells #[] 9) = W0 at *
  go_at_call 58
  refine (pick_any b m 7 W0 HS.out (by omega) (by omega)).mono ?_
  rintro e w1 ⟨z, rfl, z_0, z_1, hs, hg⟩
  obtain ⟨Z, rfl⟩ := Int.eq_ofNat_of_zero_le z_0
  have HS1 := Lib.hid hs
  have HG1 := Lib.hid (grownBy_trans HG.out hg)
  have HO1 := Lib.hid (HO.out.kept hg (.inr (by intro e; have e2 : w.heap.size = b := Option.some.inj e; omega)))
  clear hs hg HS HG HO
  dsimp only
  repeat ((with_reducible fail_if_success (show Code.wp _ (Code.loop _) _ _ _)); first | go_values | go_skip | go_guarded | go_step | go_upon)
  go_loopw [3, 4] (fun v i wr => ∃ (k : Nat) (ws : List (List UInt8)), k ≤ 6 ∧ i = .int .i64 k ∧ ws.length + k ≤ 6 ∧ Wds ws ∧ SrcAt wr b (m + 2 + 30 * (6 - k)) ∧ w.grownBy wr (some b) ∧ wr.ownsRow w.heap.size 9 1 v ws.length (ws.map sv)) (fun _ i _ => (intOf i).toNat)
  case atStart => exact ⟨Z, [], by omega, rfl, by simp; omega, fun x hx => by simp at hx, HS1.out.le (by omega), HG1.out, HO1.out⟩
  clear HS1 HG1 HO1 z_0 z_1
  case round =>
    obtain ⟨k, ws, hk, rfl, hl, hws, hs, hg, ho⟩ := hrel
    have HS := Lib.hid hs
    have HG := Lib.hid hg
    have HO := Lib.hid ho
    have HW := Lib.hid hws
    have hwz := hg.size
    clear hs hg ho hws
    by_cases hlt : 0 < k
    · have hlti : (0 : Int) < (k : Int) := by omega
      repeat (first | go_values | go_skip | go_guarded | go_step | go_upon)
      go_at_call 61
      refine (spelt_any b _ _ HS.out (by omega)).mono ?_
      rintro e w2 ⟨l, rfl, hll, h1, h5, hs2, hg2⟩
      have HS2 := Lib.hid hs2
      have HG2 := Lib.hid (grownBy_trans HG.out hg2)
      have HO2 := Lib.hid (HO.out.kept hg2 (.inr (fun e => by have := (HO.out.lt b e).1; omega)))
      have HW2 := Lib.hid (show Wds (ws ++ [l]) from fun x hx => by
        rcases List.mem_append.1 hx with h | h
        · exact HW.out x h
        · obtain rfl := List.mem_singleton.1 h
          exact ⟨hll, h1, h5⟩)
      have hz2 : w.heap.size ≤ w2.heap.size := HG2.out.size
      clear hs2 hg2 hll HS HG HO HW
      dsimp only
      repeat ((with_reducible fail_if_success (show wpList _ _ _ (⟨some 15, _, _, _, _, _⟩ :: _) _ _)); first | go_values | go_skip | go_guarded | go_step | go_upon)
      refine wpList_val (by kernel_rfl) (.slice (some ⟨w2.heap.size, 0, none⟩) 1 1) (w2.alloc (.cells #[.string ⟨l.toArray⟩] 9)) (by kernel_rfl) ?_
      repeat ((with_reducible fail_if_success (show wpList _ _ _ (⟨some 16, _, _, _, _, _⟩ :: _) _ _)); first | go_values | go_skip | go_guarded | go_step | go_upon)
      refine wpList_app1 rfl (.tmp 12) (.tmp 15) 36 rfl elStr w2 w.heap.size u3 ws.length (ws.map sv) rfl HO2.out (.string ⟨l.toArray⟩) w2.heap.size rfl rfl rfl (by unfold maxLen; omega) (by omega) hz2 ?_
      intro v' w3 ho3 hg3
      have HS3 := Lib.hid (srcKeptRow HS2.out hg3 (fun g e => by have := (HO2.out.lt g e).1; omega))
      have HG3 := Lib.hid (grown_row HG2.out hg3 (fun g e => (HO2.out.lt g e).1))
      have HO3 := Lib.hid (show w3.ownsRow w.heap.size 9 1 v' (ws ++ [l]).length ((ws ++ [l]).map sv) by rw [List.length_append, List.map_append]; exact ho3)
      clear ho3 hg3 HS2 HG2 HO2
      repeat (first | go_values | go_skip | go_guarded | go_step | go_upon)
      go_roundw
      case rel => exact ⟨k - 1, ws ++ [l], by omega, by congr 1; omega, by simp; omega, HW2.out, HS3.out.le (by omega), HG3.out, HO3.out⟩
      case measure => simp [intOf]; omega
    · obtain rfl : k = 0 := by omega
      obtain ⟨A, c, rfl, hl2, _, hsl⟩ := SlE_own HO.out
      have HSL := Lib.hid hsl
      obtain ⟨hvt, _, _⟩ := joinW_wds ws.length ws rfl (by omega) HW.out
      have HVT := Lib.hid hvt
      clear hsl hl2 hvt
      repeat (first | go_values | go_skip | go_guarded | go_step | go_upon)
      go_at_call 57
      refine (joined_spec A ws.length c ws _ rfl (by omega) (fun x hx => by have := (HW.out x hx).2.2; omega) HSL.out).mono ?_
      rintro e w2 ⟨rfl, hb2⟩
      have HS2 := Lib.hid (HS.out.next hb2)
      have HG2 := Lib.hid (grownBy_trans HG.out (grown_below (row := some b) hb2))
      clear hb2
      dsimp only
      repeat (first | go_values | go_skip | go_guarded | go_step | go_upon)
      go_ret
      exact ⟨joinW ws, rfl, HVT.out, HS2.out.le (by omega), HG2.out⟩
end Go.Proofs.YtahggbaandcddaaGreatDoor
