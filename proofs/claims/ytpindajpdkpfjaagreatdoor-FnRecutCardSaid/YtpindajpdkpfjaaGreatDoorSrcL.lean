/- Contracts: prices that are drawn are valid; a face of the sixth card. -/
import Derived.Test.YtpindajpdkpfjaaGreatDoorSrcI
import Derived.Test.YtpindajpdkpfjaaGreatDoorGP
import Derived.BigRegion

namespace Go.Proofs.YtpindajpdkpfjaaGreatDoor
open Go Go.RowKit
set_option linter.unusedVariables false
set_option linter.unusedSimpArgs false

def pcB (g b : Int) : Pc := ⟨List.replicate 26 0, g, b, 0⟩
theorem i16_in {x : Int} (h : 0 ≤ x ∧ x ≤ 1000) : IntKind.i16.wrap x = x := IntWalk.i16_in _ (by omega)
theorem rdI_rep (n i : Nat) : rdI (List.replicate n 0) i = 0 := by
  unfold rdI
  rw [List.getD_eq_getElem?_getD, List.getElem?_replicate]
  split <;> rfl
theorem pcB_V {g b : Int} (h1 : 0 ≤ g ∧ g ≤ 1000) (h2 : 0 ≤ b ∧ b ≤ 1000) : PcV (pcB g b) :=
  ⟨fun i _ => by show 0 ≤ rdI (List.replicate 26 0) i ∧ rdI (List.replicate 26 0) i ≤ 1000; rw [rdI_rep]; omega, h1, h2, by show (0 : Int) ≤ 0 ∧ (0 : Int) ≤ 1000; omega⟩
/-- Prices in range, 26 letters. -/
structure PcG (p : Pc) : Prop where
  len : p.lett.length = 26
  ok : PcV p
theorem PcG.typ {p : Pc} (h : PcG p) : PcT p := ⟨h.len, fun i hi => by have := h.ok.lett i hi; omega, by have := h.ok.gold; omega, by have := h.ok.base; omega, by have := h.ok.fill; omega⟩
def setL (p : Pc) (k : Nat) (x : Int) : Pc := ⟨p.lett.set k x, p.gold, p.base, p.fill⟩
def setF (p : Pc) (x : Int) : Pc := ⟨p.lett, p.gold, p.base, x⟩
theorem PcG.setL {p : Pc} {k : Nat} {x : Int} (h : PcG p) (hx : 0 ≤ x ∧ x ≤ 1000) : PcG (setL p k x) := by
  refine ⟨by unfold Go.Proofs.YtpindajpdkpfjaaGreatDoor.setL; simp [h.len], fun i hi => ?_, h.ok.gold, h.ok.base, h.ok.fill⟩
  unfold Go.Proofs.YtpindajpdkpfjaaGreatDoor.setL rdI
  rw [List.getD_eq_getElem?_getD, List.getElem?_set]
  split
  · split <;> simp_all
  · have := h.ok.lett i hi
    unfold rdI at this
    rwa [List.getD_eq_getElem?_getD] at this
theorem PcG.setF {p : Pc} {x : Int} (h : PcG p) (hx : 0 ≤ x ∧ x ≤ 1000) : PcG (setF p x) := ⟨h.len, h.ok.lett, h.ok.gold, h.ok.base, hx⟩
theorem pcV_setL (p : Pc) (hp : PcG p) (k : Nat) (hk : k < 26) (x : Int) : (pcV p).set k (.int .i16 x) = pcV (setL p k x) := by
  unfold pcV setL
  rw [List.set_append_left _ _ (by simp [hp.len]; exact hk), List.map_set]; rfl
theorem pcV_setF (p : Pc) (hp : PcG p) (x : Int) : (pcV p).set 28 (.int .i16 x) = pcV (setF p x) := by
  unfold pcV setF
  rw [List.set_append_right _ _ (by simp [hp.len])]
  simp [hp.len]
/-- While the prices are drawn. -/
structure PdRel (w : World) (b m g : Nat) (p : Pc) (wr : World) : Prop where
  lo : w.heap.size < g
  blk : Blk wr g 33 (pcV p)
  res : Blk wr w.heap.size 33 (pcV (pcB 0 0))
  src : SrcAt wr b m
  grow : w.grownBy wr (some b)
  ok : PcG p
theorem PdRel.le {w wr : World} {b m m' g : Nat} {p : Pc} (h : PdRel w b m g p wr) (hm : m ≤ m') : PdRel w b m' g p wr := ⟨h.lo, h.blk, h.res, h.src.le hm, h.grow, h.ok⟩
theorem PdRel.step {w wr w' : World} {b m m' g : Nat} {p : Pc} (h : PdRel w b m g p wr) (hb : b < w.heap.size) (hs : SrcAt w' b m') (hg : wr.grownBy w' (some b)) : PdRel w b m' g p w' := by
  have := h.lo
  exact ⟨h.lo, h.blk.grown hg (by simp; omega), h.res.grown hg (by simp; omega), hs, grownBy_trans h.grow hg, h.ok⟩
theorem PdRel.lt {w wr : World} {b m g : Nat} {p : Pc} (h : PdRel w b m g p wr) (hb : b < w.heap.size) (k : Nat) (hk : k < 26) (x : Int) (hx : 0 ≤ x ∧ x ≤ 1000) : PdRel w b m g (setL p k x) (wr.setCell ⟨g, k, none⟩ (.int .i16 x)) := by
  have hg : wr.grownBy (wr.setCell ⟨g, k, none⟩ (.int .i16 x)) (some g) := grown_one
  have := h.lo
  have hk2 := h.blk.set k (.int .i16 x)
  rw [pcV_setL p h.ok k hk x] at hk2
  exact ⟨h.lo, hk2, h.res.grown hg (by simp; omega), h.src.grown hg (by omega), grown_over' h.grow hg (by omega), h.ok.setL hx⟩
theorem PdRel.fl {w wr : World} {b m g : Nat} {p : Pc} (h : PdRel w b m g p wr) (hb : b < w.heap.size) (x : Int) (hx : 0 ≤ x ∧ x ≤ 1000) : PdRel w b m g (setF p x) (wr.setCell ⟨g, 28, none⟩ (.int .i16 x)) := by
  have hg : wr.grownBy (wr.setCell ⟨g, 28, none⟩ (.int .i16 x)) (some g) := grown_one
  have := h.lo
  have hk2 := h.blk.set 28 (.int .i16 x)
  rw [pcV_setF p h.ok x] at hk2
  exact ⟨h.lo, hk2, h.res.grown hg (by simp; omega), h.src.grown hg (by omega), grown_over' h.grow hg (by omega), h.ok.setF hx⟩
/-- Ahead of the prices' own block. -/
structure PdSt (w : World) (b m : Nat) (wr : World) : Prop where
  res : Blk wr w.heap.size 33 (pcV (pcB 0 0))
  src : SrcAt wr b m
  grow : w.grownBy wr (some b)
theorem PdSt.start {w : World} {b m : Nat} (h : SrcAt w b m) : PdSt w b m (w.alloc (.cells (pcV (pcB 0 0)).toArray 33)) :=
  ⟨Blk.new w _ _, h.next (below_one _ _), grown_below (below_one _ _)⟩
theorem PdSt.step {w wr w' : World} {b m m' : Nat} (h : PdSt w b m wr) (hb : b < w.heap.size) (hs : SrcAt w' b m') (hg : wr.grownBy w' (some b)) : PdSt w b m' w' :=
  ⟨h.res.grown hg (by simp; omega), hs, grownBy_trans h.grow hg⟩
theorem PdSt.prices {w wr : World} {b m : Nat} {x y : Int} (h : PdSt w b m wr) (h1 : 0 ≤ x ∧ x ≤ 1000) (h2 : 0 ≤ y ∧ y ≤ 1000) : PdRel w b m wr.heap.size (pcB x y) (wr.alloc (.cells (pcV (pcB x y)).toArray 33)) :=
  ⟨h.res.lt, Blk.new _ _ _, h.res.alloc _, h.src.next (below_one _ _), grownBy_trans h.grow (grown_below (below_one _ _)), rfl, pcB_V h1 h2⟩
/-- Prices are drawn. -/
def DrawP (w : World) (b m : Nat) (e : Ending) (w' : World) : Prop := ∃ p, e = .returned (.agg (pcV p).toArray) ∧ PcG p ∧ SrcAt w' b m ∧ w.grownBy w' (some b)
set_option maxHeartbeats 4000000 in
set_option maxRecDepth 100000 in
theorem costsP_any (b m : Nat) (w : World) (h : SrcAt w b m) (hm : m ≤ 100000) :
    Calls Tryz.prog 22 #[.pointer (some ⟨b, 0, none⟩)] w (DrawP w b (m + 100)) := by
  have H := Lib.hid h
  have hb := h.lt
  clear h
  go_enter Tryz.func22, Tryz.ntmps22
  repeat (first | go_values | go_skip | go_guarded | go_step | go_upon)
  refine gen_calls (PdSt w b m) (PdSt.start H.out) ?_
  rintro W0 h0
  have R0 := Lib.hid h0
  clear h0
  repeat (first | go_values | go_skip | go_guarded | go_step | go_upon)
  go_at_call 24
  refine (pick_any b _ 4 _ R0.out.src (by omega) (by omega)).mono ?_
  rintro e w1 ⟨x, rfl, x_0, x_1, hs, hg⟩
  have R1 := Lib.hid (R0.out.step hb hs hg)
  clear hs hg
  dsimp only
  have e1 : IntKind.i16.wrap x = x := i16_in (by omega)
  repeat (first | go_values | go_skip | go_guarded | go_step | go_upon)
  go_at_call 24
  refine (pick_any b _ 40 _ R1.out.src (by omega) (by omega)).mono ?_
  rintro e w2 ⟨y, rfl, y_0, y_1, hs, hg⟩
  have R2 := Lib.hid (R1.out.step hb hs hg)
  clear hs hg
  dsimp only
  have e2 : IntKind.i16.wrap y = y := i16_in (by omega)
  repeat ((with_reducible fail_if_success (show wpList _ _ _ (⟨some 11, _, _, _, _, _⟩ :: _) _ _)); first | go_values | go_skip | go_guarded | go_step | go_upon)
  refine wpList_val (by kernel_rfl) (.agg (pcV (pcB x y)).toArray) w2 (by kernel_rfl) ?_
  have R3 := Lib.hid (R2.out.prices (x := x) (y := y) (by omega) (by omega))
  repeat ((with_reducible fail_if_success (show wpList _ _ _ (⟨none, .store 33 (.tmp 3) (.tmp 11), _, _, _, _⟩ :: _) _ _)); first | go_values | go_skip | go_guarded | go_step | go_upon)
  refine wpList_store_new rfl 33 (.tmp 3) (.tmp 11) rfl (pcV (pcB x y)).toArray rfl rfl 33 _ (by rw [List.size_toArray, pcV_length R3.out.ok.typ]; exact szPcI) rfl (one_pc _) ?_
  generalize w2.alloc (.cells (pcV (pcB x y)).toArray 33) = W3 at *
  generalize w2.heap.size = g3 at *
  clear R2 e1 e2
  repeat ((with_reducible fail_if_success (show Code.wp _ (Code.loop _) _ _ _)); first | go_values | go_skip | go_guarded | go_step | go_upon)
  go_loopw [4] (fun i wr => ∃ (k : Nat) (p : Pc), k ≤ 26 ∧ i = .int .i64 k ∧ PdRel w b (m + 10 + 2 * k) g3 p wr) (fun i _ => 26 - (intOf i).toNat)
  case atStart => exact ⟨0, _, by omega, rfl, R3.out.le (by omega)⟩
  clear R3
  case round =>
    obtain ⟨k, p, hk, rfl, hr⟩ := hrel
    have R := Lib.hid hr
    clear hr
    by_cases hlt : k < 26
    · skip
      repeat (first | go_values | go_skip | go_guarded | go_step | go_upon)
      go_at_call 24
      refine (pick_any b _ 30 _ R.out.src (by omega) (by omega)).mono ?_
      rintro e w6 ⟨z, rfl, z_0, z_1, hs, hg⟩
      have R6 := Lib.hid (R.out.step hb hs hg)
      clear hs hg
      dsimp only
      have e2 : IntKind.i16.wrap z = z := i16_in (by omega)
      have hcl := R6.out.blk.cell k _ (pcV_lett R6.out.ok.typ k hlt)
      have hfr := R6.out.blk.free k
      have HR7 := Lib.hid (R6.out.lt hb k hlt z (by omega))
      repeat (first | go_values | go_skip | go_guarded | go_step | go_upon)
      go_roundw
      case rel => exact ⟨k + 1, _, by omega, by go_num, HR7.out.le (by omega)⟩
      case measure => simp [intOf]; omega
    · obtain rfl : k = 26 := by omega
      repeat (first | go_values | go_skip | go_guarded | go_step | go_upon)
      go_at_call 24
      refine (pick_any b _ 10 _ R.out.src (by omega) (by omega)).mono ?_
      rintro e w6 ⟨z, rfl, z_0, z_1, hs, hg⟩
      have R6 := Lib.hid (R.out.step hb hs hg)
      clear hs hg
      dsimp only
      have e2 : IntKind.i16.wrap z = z := i16_in (by omega)
      have hcl := R6.out.blk.cell 28 _ (pcV_fill R6.out.ok.typ)
      have hfr := R6.out.blk.free 28
      have HR7 := Lib.hid (R6.out.fl hb z (by omega))
      have hlo := R6.out.lo
      repeat ((with_reducible fail_if_success (show wpList _ _ _ (⟨some 26, _, _, _, _, _⟩ :: _) _ _)); first | go_values | go_skip | go_guarded | go_step | go_upon)
      clear hcl hfr
      generalize w6.setCell ⟨g3, 28, none⟩ (.int .i16 z) = W7 at *
      generalize setF p z = p7 at *
      have hlen := pcV_length HR7.out.ok.typ
      refine wpList_load_row rfl 33 (.tmp 3) rfl _ rfl 33 (pcV p7).toArray _ _ HR7.out.blk Tryz.underlying33 rfl (by rw [List.size_toArray, hlen]; exact szPcI) ?_
      repeat ((with_reducible fail_if_success (show wpList _ _ _ (⟨none, .store 33 (.tmp 2) (.tmp 26), _, _, _, _⟩ :: _) _ _)); first | go_values | go_skip | go_guarded | go_step | go_upon)
      refine wpList_store_row rfl 33 (.tmp 2) (.tmp 26) rfl w.heap.size (pcV p7).toArray rfl rfl 33 _ HR7.out.res (by rw [List.size_toArray, hlen]; exact szPcI) (by rw [List.size_toArray, List.size_toArray, hlen]; rfl) (one_pc _) ?_
      repeat (first | go_values | go_skip | go_guarded | go_step | go_upon)
      have hgr : W7.grownBy (W7.setRow w.heap.size (pcV p7).toArray) (some w.heap.size) := setRow_grown' _ _ _
      exact bodyPost_ret (v := .agg (pcV p7).toArray) (results_cell_row rfl _ _ _ 33 (pcV p7).toArray _ _ rfl (HR7.out.res.setRow_same (pcV p7)) Tryz.underlying33 rfl (by rw [List.size_toArray, hlen]; exact szPcI)) rfl ⟨p7, rfl, HR7.out.ok, (HR7.out.src.grown hgr (by omega)).le (by omega), grown_over' HR7.out.grow hgr (by omega)⟩
set_option maxHeartbeats 1000000 in
set_option maxRecDepth 100000 in
theorem p6prices_any (A : Option Addr) (n c : Nat) (xs : List Int) (w : World) (hn : xs.length = n) (hl : n ≤ 4096) (hs : SlE u8 w A xs) (hy : Byt xs) :
    Calls Tryz.prog 6 #[.slice A n c] w fun e w' => ∃ p, e = .returned (.agg (pcV p).toArray) ∧ PcG p ∧ Below w.heap.size w w' := by
  have HA := Lib.hid hs
  have HY := Lib.hid hy
  have HN := Lib.hid hn
  clear hs hy hn
  go_enter Tryz.func6, Tryz.ntmps6
  have HB0 := Lib.hid (below_one w (.cells (pcV (pcB 0 0)).toArray 33))
  have HK0 := Lib.hid (Blk.new w 33 (pcV (pcB 0 0)))
  repeat (first | go_values | go_skip | go_guarded | go_step | go_upon)
  refine gen_calls (fun W => Blk W w.heap.size 33 (pcV (pcB 0 0)) ∧ Below w.heap.size w W) ⟨HK0.out, HB0.out⟩ ?_
  rintro W0 ⟨hk0, hB0⟩
  have HK := Lib.hid hk0
  have HB := Lib.hid hB0
  clear hk0 hB0 HK0 HB0
  repeat (first | go_values | go_skip | go_guarded | go_step | go_upon)
  go_at_call 21
  refine (from_any A n c xs _ HN.out (by omega) (HA.out.next HB.out) HY.out).mono ?_
  rintro e w1 ⟨b, rfl, hb0, hs1, hb1⟩
  have HS := Lib.hid hs1
  have HB1 := Lib.hid hb1
  have hbl := hs1.lt
  clear hs1 hb1
  dsimp only
  have HK1 := Lib.hid (HK.out.next HB1.out)
  have HB2 := Lib.hid (below_step HB.out HB1.out)
  have hlt := HK.out.lt
  repeat (first | go_values | go_skip | go_guarded | go_step | go_upon)
  go_at_call 22
  refine (costsP_any b 0 _ HS.out (by omega)).mono ?_
  rintro e w2 ⟨p, rfl, hp, hs2, hg⟩
  have HK2 := Lib.hid (HK1.out.grown hg (by simp; omega))
  have HB3 := Lib.hid (below_drawn HB2.out hg (by omega))
  have HP := Lib.hid hp
  have hlen := pcV_length hp.typ
  clear hp hs2 hg
  dsimp only
  repeat ((with_reducible fail_if_success (show wpList _ _ _ (⟨none, .store 33 (.tmp 2) (.tmp 5), _, _, _, _⟩ :: _) _ _)); first | go_values | go_skip | go_guarded | go_step | go_upon)
  refine wpList_store_row rfl 33 (.tmp 2) (.tmp 5) rfl w.heap.size (pcV p).toArray rfl rfl 33 _ HK2.out (by rw [List.size_toArray, hlen]; exact szPcI) (by rw [List.size_toArray, List.size_toArray, hlen]; rfl) (one_pc _) ?_
  repeat (first | go_values | go_skip | go_guarded | go_step | go_upon)
  exact bodyPost_ret (v := .agg (pcV p).toArray) (results_cell_row rfl _ _ _ 33 (pcV p).toArray _ _ rfl (HK2.out.setRow_same (pcV p)) Tryz.underlying33 rfl (by rw [List.size_toArray, hlen]; exact szPcI)) rfl ⟨p, rfl, HP.out, below_setRow HB3.out _ _ (Nat.le_refl _)⟩
set_option maxRecDepth 100000 in
theorem p6face_any (A : Option Addr) (n c : Nat) (xs : List Int) (w : World) (hn : xs.length = n) (hl : n ≤ 4096) (hs : SlE u8 w A xs) (hy : Byt xs) :
    Calls Tryz.prog 5 #[.slice A n c] w fun e w' => ∃ f S, e = .returned (.agg (fcV f S).toArray) ∧ validF f = true ∧ HasF w' f S ∧ Below w.heap.size w w' := by
  have HA := Lib.hid hs
  have HY := Lib.hid hy
  have HN := Lib.hid hn
  clear hs hy hn
  go_enter Tryz.func5, Tryz.ntmps5
  have hb0 := below_one w (.cells (fcV fc0 (.slice none 0 0)).toArray 28)
  have HB0 := Lib.hid hb0
  have HK0 := Lib.hid (Blk.new w 28 (fcV fc0 (.slice none 0 0)))
  clear hb0
  repeat (first | go_values | go_skip | go_guarded | go_step | go_upon)
  refine gen_calls (fun W => Blk W w.heap.size 28 (fcV fc0 (.slice none 0 0)) ∧ Below w.heap.size w W) ⟨HK0.out, HB0.out⟩ ?_
  rintro W0 ⟨hk0, hB0⟩
  have HK := Lib.hid hk0
  have HB := Lib.hid hB0
  clear hk0 hB0 HK0 HB0
  repeat (first | go_values | go_skip | go_guarded | go_step | go_upon)
  go_at_call 21
  refine (from_any A n c xs _ HN.out (by omega) (HA.out.next HB.out) HY.out).mono ?_
  rintro e w1 ⟨b, rfl, hb0, hs1, hb1⟩
  have HS := Lib.hid hs1
  have HB1 := Lib.hid hb1
  have hbl := hs1.lt
  clear hs1 hb1
  dsimp only
  have HK1 := Lib.hid (HK.out.next HB1.out)
  have HB2 := Lib.hid (below_step HB.out HB1.out)
  have hlt := HK.out.lt
  repeat (first | go_values | go_skip | go_guarded | go_step | go_upon)
  go_at_call 20
  refine (drawnF_any b 0 _ HS.out (by omega)).mono ?_
  rintro e w2 ⟨f, S, rfl, hv, hmem, hs2, hg⟩
  have HK2 := Lib.hid (HK1.out.grown hg (by simp; omega))
  have HB3 := Lib.hid (below_drawn HB2.out hg (by omega))
  have HM := Lib.hid hmem
  have hone : (fcV f S).toArray.all (·.oneCell') = true := by
    obtain ⟨_, A2, n2, c2, e2, _⟩ := hmem
    rw [e2]; exact one_fc _ _ _ _
  have hlen := fcV_length hmem.typ S
  have hw1 : w.heap.size < w1.heap.size := by have := HB1.out.size; omega
  clear hmem hs2 hg
  dsimp only
  repeat ((with_reducible fail_if_success (show wpList _ _ _ (⟨none, .store 28 (.tmp 2) (.tmp 5), _, _, _, _⟩ :: _) _ _)); first | go_values | go_skip | go_guarded | go_step | go_upon)
  refine wpList_store_row rfl 28 (.tmp 2) (.tmp 5) rfl w.heap.size (fcV f S).toArray rfl rfl 28 _ HK2.out (by rw [List.size_toArray, hlen]; exact szFcI) (by rw [List.size_toArray, List.size_toArray, hlen, fcV_length fc0_T]) hone ?_
  repeat (first | go_values | go_skip | go_guarded | go_step | go_upon)
  have hgr : w2.grownBy (w2.setRow w.heap.size (fcV f S).toArray) (some w.heap.size) := setRow_grown' _ _ _
  exact bodyPost_ret (v := .agg (fcV f S).toArray) (results_cell_row rfl _ _ _ 28 (fcV f S).toArray _ _ rfl (HK2.out.setRow_same (fcV f S)) Tryz.underlying28 rfl (by rw [List.size_toArray, hlen]; exact szFcI)) rfl ⟨f, S, rfl, hv, (HM.out.grown hgr (by omega)).has hv, below_setRow HB3.out _ _ (Nat.le_refl _)⟩
theorem f6big_any (A : Option Addr) (n c : Nat) (w : World) (hn : n ≤ 1048576) :
    Calls Tryz.prog 4 #[.slice A n c] w fun e w' => e = .returned (.bool (decide ((4096 : Int) < n))) ∧ w' = w := by
  go_enter Tryz.func4, Tryz.ntmps4
  repeat (first | go_values | go_skip | go_guarded | go_step | go_upon)
  go_ret
  exact ⟨rfl, rfl⟩
end Go.Proofs.YtpindajpdkpfjaaGreatDoor
