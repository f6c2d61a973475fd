/- Contracts: faces that are drawn are valid. -/
import Derived.Test.YtahggbaandcddaaGreatDoorSrcF
import Derived.BigRegion
namespace Go.Proofs.YtahggbaandcddaaGreatDoor
open Go Go.RowKit
set_option linter.unusedVariables false
set_option linter.unusedSimpArgs false

theorem SlP.grownS {w w' : World} {A : Option Addr} {ps : List Pr} {b : Nat} (h : SlP w A ps) (hg : w.grownBy w' (some b)) (hne : ∀ a, A = some a → a.block ≠ b) : SlP w' A ps := by
  intro j q hq
  obtain ⟨a, e, hr⟩ := h j q hq
  refine ⟨a, e, fun k x hx => ?_⟩
  have := hr k x hx
  have hab : ((a.add (j * 3)).add k).block = a.block := by rw [add_addr]; unfold Addr.add; split <;> rfl
  have hlt := World.block_lt_of_cell? w _ this
  rw [← this]
  unfold World.cell?
  rw [hg.block _ hlt (by intro e2; injection e2 with e2; exact hne a e (by rw [← hab]; exact e2))]
theorem FcD.grown {w w' : World} {c b : Nat} {f : Fc} {S : Value} (h : FcD w c f S) (hg : w.grownBy w' (some b)) (hb : b ≤ c) : FcD w' c f S := by
  obtain ⟨h1, A, n, k, e, h2, h3, h4, h5⟩ := h
  exact ⟨h1, A, n, k, e, h2, h3, h4.grownS hg (fun a e => by have := (h5 a e).1; omega), fun a e => ⟨(h5 a e).1, by have := (h5 a e).2; have := hg.size; omega⟩⟩
theorem FcD.le {w : World} {c b : Nat} {f : Fc} {S : Value} (h : FcD w c f S) (hb : b ≤ c) : FcD w b f S := by
  obtain ⟨h1, A, n, k, e, h2, h3, h4, h5⟩ := h
  exact ⟨h1, A, n, k, e, h2, h3, h4, fun a e => ⟨by have := (h5 a e).1; omega, (h5 a e).2⟩⟩
structure FdRel (w : World) (b m g : Nat) (f : Fc) (S : Value) (wr : World) : Prop where
  lo : w.heap.size < g
  blk : Blk wr g 28 (fcV f S)
  res : Blk wr w.heap.size 28 (fcV fc0 (.slice none 0 0))
  src : SrcAt wr b m
  grow : w.grownBy wr (some b)
  mem : FcD wr g f S
theorem FdRel.le {w wr : World} {b m m' g : Nat} {f : Fc} {S : Value} (h : FdRel w b m g f S wr) (hm : m ≤ m') : FdRel w b m' g f S wr := ⟨h.lo, h.blk, h.res, h.src.le hm, h.grow, h.mem⟩
theorem FdRel.step {w wr w' : World} {b m m' g : Nat} {f : Fc} {S : Value} (h : FdRel w b m g f S wr) (hb : b < w.heap.size) (hs : SrcAt w' b m') (hg : wr.grownBy w' (some b)) : FdRel w b m' g f S w' := by
  have := h.lo
  exact ⟨h.lo, h.blk.grown hg (by simp; omega), h.res.grown hg (by simp; omega), hs, grownBy_trans h.grow hg, h.mem.grown hg (by omega)⟩
theorem grown_over' {w wr w' : World} {b g : Nat} (h : w.grownBy wr (some b)) (h2 : wr.grownBy w' (some g)) (hg : w.heap.size ≤ g) : w.grownBy w' (some b) :=
  ⟨h2.os.trans h.os, h2.tape.trans h.tape, h2.output.trans h.output, Nat.le_trans h.size h2.size, fun i hi hne => (h2.block i (Nat.lt_of_lt_of_le hi h.size) (by simp; omega)).trans (h.block i hi hne)⟩
theorem setRow_grown' (w : World) (g : Nat) (cs : Array Value) : w.grownBy (w.setRow g cs) (some g) := ⟨rfl, rfl, rfl, by simp, fun i hi hne => Go.setRow_other w g i cs (by intro e; exact hne (by rw [e]))⟩
theorem FdRel.next {w wr w' : World} {b m g : Nat} {f : Fc} {S : Value} (h : FdRel w b m g f S wr) (hb : Below wr.heap.size wr w') : FdRel w b m g f S w' :=
  ⟨h.lo, h.blk.next hb, h.res.next hb, h.src.next hb, grownBy_trans h.grow (grown_below hb), h.mem.next hb⟩
/-- A store into a block of its own, behind the two, which holds no pairs. -/
theorem FdRel.other {w wr w' : World} {b m g q : Nat} {f : Fc} {S : Value} (h : FdRel w b m g f S wr) (hg : wr.grownBy w' (some q)) (hgs : g < q) (hb : b < w.heap.size) (hm : ∀ A n c, S = .slice A n c → ∀ a, A = some a → a.block ≠ q) : FdRel w b m g f S w' := by
  have := h.lo
  obtain ⟨h1, A, n, k, e, h2, h3, h4, h5⟩ := h.mem
  exact ⟨h.lo, h.blk.grown hg (by simp; omega), h.res.grown hg (by simp; omega), h.src.grown hg (by omega), grown_over' h.grow hg (by omega), ⟨h1, A, n, k, e, h2, h3, h4.grownS hg (hm A n k e), fun a e => ⟨(h5 a e).1, by have := (h5 a e).2; have := hg.size; omega⟩⟩⟩
def setW (f : Fc) (k : Nat) (x : Int) : Fc := ⟨f.wide.set k x, f.space, f.gap, f.pairs⟩
theorem setW_T {f : Fc} {k : Nat} {x : Int} (h : FcT f) (hx : -128 ≤ x ∧ x ≤ 127) : FcT (setW f k x) := by
  refine ⟨by unfold setW; simp [h.len], fun i hi => ?_, h.space, h.gap, h.pairs⟩
  unfold setW rdI
  rw [List.getD_eq_getElem?_getD, List.getElem?_set]
  split
  · split <;> simp_all
  · have := h.wide i hi
    unfold rdI at this
    rwa [List.getD_eq_getElem?_getD] at this
theorem fcV_setW (f : Fc) (hf : FcT f) (S : Value) (k : Nat) (hk : k < 26) (x : Int) : (fcV f S).set k (.int .i8 x) = fcV (setW f k x) S := by
  unfold fcV setW
  rw [List.set_append_left _ _ (by simp [hf.len]; exact hk), List.map_set]; rfl
theorem FdRel.wd {w wr : World} {b m g : Nat} {f : Fc} {S : Value} (h : FdRel w b m g f S wr) (hb : b < w.heap.size) (k : Nat) (hk : k < 26) (x : Int) (hx : -128 ≤ x ∧ x ≤ 127) : FdRel w b m g (setW f k x) S (wr.setCell ⟨g, k, none⟩ (.int .i8 x)) := by
  have hg : wr.grownBy (wr.setCell ⟨g, k, none⟩ (.int .i8 x)) (some g) := grown_one
  have := h.lo
  obtain ⟨h1, A, n, c, e, h2, h3, h4, h5⟩ := h.mem
  have hk2 := h.blk.set k (.int .i8 x)
  rw [fcV_setW f h1 S k hk x] at hk2
  exact ⟨h.lo, hk2, h.res.grown hg (by simp; omega), h.src.grown hg (by omega), grown_over' h.grow hg (by omega), ⟨setW_T h1 hx, A, n, c, e, h2, h3, h4.grownS hg (fun a e => by have := (h5 a e).1; omega), fun a e => ⟨(h5 a e).1, by have := (h5 a e).2; have := hg.size; omega⟩⟩⟩
theorem FdRel.row {w wr : World} {b m q : Nat} {f g : Fc} {S S' : Value} (h : FdRel w b m q f S wr) (hb : b < w.heap.size) (hm : FcD wr q g S') : FdRel w b m q g S' (wr.setRow q (fcV g S').toArray) := by
  have hg : wr.grownBy (wr.setRow q (fcV g S').toArray) (some q) := setRow_grown' _ _ _
  have := h.lo
  exact ⟨h.lo, h.blk.setRow_same _, h.res.grown hg (by simp; omega), h.src.grown hg (by omega), grown_over' h.grow hg (by omega), hm.grown hg (by omega)⟩
/-- The face that drawing begins with. -/
def fcB (sp gp : Int) : Fc := ⟨List.replicate 26 0, sp, gp, []⟩
theorem fcB_T {sp gp : Int} (h1 : -128 ≤ sp ∧ sp ≤ 127) (h2 : -128 ≤ gp ∧ gp ≤ 127) : FcT (fcB sp gp) := ⟨rfl, fc0_T.wide, h1, h2, fun i hi => by unfold fcB at hi; simp at hi⟩
/-- A face is drawn. -/
def DrawF (w : World) (b m : Nat) (e : Ending) (w' : World) : Prop := ∃ f S, e = .returned (.agg (fcV f S).toArray) ∧ validF f = true ∧ FcD w' w.heap.size f S ∧ SrcAt w' b m ∧ w.grownBy w' (some b)
/-- What holds while the widths are drawn. -/
structure WdOk (f : Fc) (k : Nat) (sp gp : Int) : Prop where
  sp : f.space = sp
  gp : f.gap = gp
  ps : f.pairs = []
  wd : ∀ i, i < k → 1 ≤ rdI f.wide i ∧ rdI f.wide i ≤ 40
theorem WdOk.set {f : Fc} {k : Nat} {sp gp x : Int} (h : WdOk f k sp gp) (hl : f.wide.length = 26) (hk : k < 26) (hx : 1 ≤ x ∧ x ≤ 40) : WdOk (setW f k x) (k + 1) sp gp := by
  refine ⟨h.sp, h.gp, h.ps, fun i hi => ?_⟩
  unfold setW rdI
  rw [List.getD_eq_getElem?_getD, List.getElem?_set]
  split
  · split <;> simp_all
  · have := h.wd i (by omega)
    unfold rdI at this
    rwa [List.getD_eq_getElem?_getD] at this
theorem WdOk.again {f : Fc} {k : Nat} {sp gp x y : Int} (h : WdOk f k sp gp) (hl : f.wide.length = 26) (hk : k < 26) (hx : 1 ≤ x ∧ x ≤ 40) : WdOk (setW (setW f k y) k x) (k + 1) sp gp := by
  have e : setW (setW f k y) k x = setW f k x := by unfold setW; simp
  rw [e]; exact h.set hl hk hx
theorem WdOk.valid {f : Fc} {sp gp : Int} (h : WdOk f 26 sp gp) (h1 : 1 ≤ sp ∧ sp ≤ 40) (h2 : 0 ≤ gp ∧ gp ≤ 10) : validF f = true :=
  validF_iff.2 ⟨h.wd, by rw [h.sp]; exact h1, by rw [h.gp]; exact h2, fun i hi => by rw [h.ps] at hi; simp at hi, by rw [h.ps]; simp⟩
theorem i8_in {x : Int} (h : -128 ≤ x ∧ x ≤ 127) : IntKind.i8.wrap x = x := IntWalk.i8_in _ (by omega)
theorem u8_in' {x : Int} (h : 0 ≤ x ∧ x ≤ 255) : IntKind.u8.wrap x = x := IntWalk.u8_in _ (by omega)

/-- Ahead of the face's own block. -/
structure FdSt (w : World) (b m : Nat) (wr : World) : Prop where
  res : Blk wr w.heap.size 28 (fcV fc0 (.slice none 0 0))
  src : SrcAt wr b m
  grow : w.grownBy wr (some b)
theorem FdSt.start {w : World} {b m : Nat} (h : SrcAt w b m) : FdSt w b m (w.alloc (.cells (fcV fc0 (.slice none 0 0)).toArray 28)) :=
  ⟨Blk.new w _ _, h.next (below_one _ _), grown_below (below_one _ _)⟩
theorem FdSt.step {w wr w' : World} {b m m' : Nat} (h : FdSt w b m wr) (hb : b < w.heap.size) (hs : SrcAt w' b m') (hg : wr.grownBy w' (some b)) : FdSt w b m' w' :=
  ⟨h.res.grown hg (by simp; omega), hs, grownBy_trans h.grow hg⟩
theorem FdSt.face {w wr : World} {b m : Nat} {sp gp : Int} (h : FdSt w b m wr) (h1 : -128 ≤ sp ∧ sp ≤ 127) (h2 : -128 ≤ gp ∧ gp ≤ 127) : FdRel w b m wr.heap.size (fcB sp gp) (.slice none 0 0) (wr.alloc (.cells (fcV (fcB sp gp) (.slice none 0 0)).toArray 28)) :=
  ⟨h.res.lt, Blk.new _ _ _, h.res.alloc _, h.src.next (below_one _ _), grownBy_trans h.grow (grown_below (below_one _ _)), fcB_T h1 h2, none, 0, 0, rfl, rfl, by omega, SlP.nil, fun a e => by cases e⟩

theorem isLet_in {n : Int} (h : 65 ≤ n ∧ n ≤ 90) : isLet n = true := by unfold isLet; exact inB_true h
set_option maxHeartbeats 4000000 in
set_option maxRecDepth 100000 in
theorem drawnF_any (b m : Nat) (w : World) (h : SrcAt w b m) (hm : m ≤ 100000) :
    Calls Tryz.prog 28 #[.pointer (some ⟨b, 0, none⟩)] w (DrawF w b (m + 200)) := by
  have H := Lib.hid h
  have hb := h.lt
  clear h
  go_enter Tryz.func28, Tryz.ntmps28
  repeat (first | go_values | go_skip | go_guarded | go_step | go_upon)
  refine gen_calls (FdSt w b m) (FdSt.start H.out) ?_
  rintro W0 h0
  have R0 := Lib.hid h0
  clear h0
  repeat (first | go_values | go_skip | go_guarded | go_step | go_upon)
  go_at_call 58
  refine (pick_any b _ 8 _ R0.out.src (by omega) (by omega)).mono ?_
  rintro e w1 ⟨x, rfl, x_0, x_1, hs, hg⟩
  have R1 := Lib.hid (R0.out.step hb hs hg)
  clear hs hg
  dsimp only
  have e1 : IntKind.i64.wrap (2 + x) = 2 + x := IntWalk.i64_in _ (by omega)
  have e2 : IntKind.i8.wrap (2 + x) = 2 + x := i8_in (by omega)
  repeat (first | go_values | go_skip | go_guarded | go_step | go_upon)
  go_at_call 58
  refine (pick_any b _ 4 _ R1.out.src (by omega) (by omega)).mono ?_
  rintro e w2 ⟨y, rfl, y_0, y_1, hs, hg⟩
  have R2 := Lib.hid (R1.out.step hb hs hg)
  clear hs hg
  dsimp only
  have e3 : IntKind.i8.wrap y = y := i8_in (by omega)
  repeat ((with_reducible fail_if_success (show wpList _ _ _ (⟨some 17, _, _, _, _, _⟩ :: _) _ _)); first | go_values | go_skip | go_guarded | go_step | go_upon)
  refine wpList_val (by kernel_rfl) (.agg (fcV (fcB (2 + x) y) (.slice none 0 0)).toArray) w2 (by kernel_rfl) ?_
  have R3 := Lib.hid (R2.out.face (sp := 2 + x) (gp := y) (by omega) (by omega))
  repeat ((with_reducible fail_if_success (show wpList _ _ _ (⟨none, .store 28 (.tmp 3) (.tmp 17), _, _, _, _⟩ :: _) _ _)); first | go_values | go_skip | go_guarded | go_step | go_upon)
  refine wpList_store_new rfl 28 (.tmp 3) (.tmp 17) rfl (fcV (fcB (2 + x) y) (.slice none 0 0)).toArray rfl rfl 28 _ (by rw [List.size_toArray, fcV_length (fcB_T (by omega) (by omega))]; exact szFcI) rfl (one_fc _ _ _ _) ?_
  generalize w2.alloc (.cells (fcV (fcB (2 + x) y) (.slice none 0 0)).toArray 28) = W3 at *
  generalize w2.heap.size = g3 at *
  clear R2 e1 e2 e3
  repeat (first | go_values | go_skip | go_guarded | go_step | go_upon)
  go_at_call 59
  refine (one_any b _ 3 _ R3.out.src (by omega) (by omega)).mono ?_
  rintro e w4 ⟨⟨be, rfl⟩, hs, hg⟩
  have R4 := Lib.hid (R3.out.step hb hs hg)
  clear hs hg R3
  dsimp only
  repeat ((with_reducible fail_if_success (show Code.wp _ (Code.loop _) _ _ _)); first | go_values | go_skip | go_guarded | go_step | go_upon)
  go_loopw [5] (fun i wr => ∃ (k : Nat) (f : Fc), k ≤ 26 ∧ i = .int .i64 k ∧ WdOk f k (2 + x) y ∧ FdRel w b (m + 6 + 2 * k) g3 f (.slice none 0 0) wr) (fun i _ => 26 - (intOf i).toNat)
  case atStart => exact ⟨0, _, by omega, rfl, ⟨rfl, rfl, rfl, fun i hi => by omega⟩, R4.out⟩
  clear R4
  case round =>
    obtain ⟨k, f, hk, rfl, hwd, hr⟩ := hrel
    have R := Lib.hid hr
    have HW := Lib.hid hwd
    clear hr hwd
    by_cases hlt : k < 26
    · have hcl := R.out.blk.cell k _ (fcV_wide R.out.mem.typ _ k hlt)
      have hfr := R.out.blk.free k
      have hlen := R.out.mem.typ.len
      have HR5 := Lib.hid (R.out.wd hb k hlt 10 (by omega))
      cases be
      · repeat ((with_reducible fail_if_success (show Code.wp _ (Code.region 8 _ _) _ _ _)); first | go_values | go_skip | go_guarded | go_step | go_upon)
        generalize wr.setCell ⟨g3, k, none⟩ (.int .i8 10) = W5 at *
        clear hcl hfr
        repeat (first | go_values | go_skip | go_guarded | go_step | go_upon)
        go_at_call 58
        refine (pick_any b _ 12 _ HR5.out.src (by omega) (by omega)).mono ?_
        rintro e w6 ⟨z, rfl, z_0, z_1, hs, hg⟩
        have R6 := Lib.hid (HR5.out.step hb hs hg)
        clear hs hg
        dsimp only
        have e1 : IntKind.i64.wrap (4 + z) = 4 + z := IntWalk.i64_in _ (by omega)
        have e2 : IntKind.i8.wrap (4 + z) = 4 + z := i8_in (by omega)
        have hcl := R6.out.blk.cell k _ (fcV_wide R6.out.mem.typ _ k hlt)
        have hfr := R6.out.blk.free k
        have HR7 := Lib.hid (R6.out.wd hb k hlt (4 + z) (by omega))
        repeat (first | go_values | go_skip | go_guarded | go_step | go_upon)
        go_roundw
        case rel => exact ⟨k + 1, _, by omega, by go_num, HW.out.again hlen hlt (by omega), HR7.out.le (by omega)⟩
        case measure => simp [intOf]; omega
      · skip
        repeat (first | go_values | go_skip | go_guarded | go_step | go_upon)
        go_roundw
        case rel => exact ⟨k + 1, _, by omega, by go_num, HW.out.set hlen hlt (by omega), HR5.out.le (by omega)⟩
        case measure => simp [intOf]; omega
    · obtain rfl : k = 26 := by omega
      have HVF := Lib.hid (HW.out.valid (by omega) (by omega))
      clear HW
      repeat (first | go_values | go_skip | go_guarded | go_step | go_upon)
      go_at_call 58
      refine (pick_any b _ 6 _ R.out.src (by omega) (by omega)).mono ?_
      rintro e w6 ⟨z, rfl, z_0, z_1, hs, hg⟩
      have R6 := Lib.hid (R.out.step hb hs hg)
      clear hs hg
      dsimp only
      obtain ⟨Z, rfl⟩ := Int.eq_ofNat_of_zero_le z_0
      repeat ((with_reducible fail_if_success (show Code.wp _ (Code.loop _) _ _ _)); first | go_values | go_skip | go_guarded | go_step | go_upon)
      go_loopw [6] (fun i wr => ∃ (k : Nat) (f : Fc) (S : Value), k ≤ 6 ∧ i = .int .i64 k ∧ validF f = true ∧ FdRel w b (m + 60 + 6 * (6 - k)) g3 f S wr) (fun i _ => (intOf i).toNat)
      case atStart => exact ⟨Z, f, _, by omega, rfl, HVF.out, R6.out.le (by omega)⟩
      clear R6 R HVF z_0 z_1
      case round =>
        obtain ⟨k, f, S, hk, rfl, hv, hr⟩ := hrel
        have R := Lib.hid hr
        have HVF := Lib.hid hv
        clear hr hv
        by_cases hlt : 0 < k
        · have hlti : (0 : Int) < (k : Int) := by omega
          repeat (first | go_values | go_skip | go_guarded | go_step | go_upon)
          go_at_call 58
          refine (pick_any b _ 5 _ R.out.src (by omega) (by omega)).mono ?_
          rintro e w7 ⟨p, rfl, p_0, p_1, hs, hg⟩
          have R7 := Lib.hid (R.out.step hb hs hg)
          clear hs hg
          dsimp only
          have e1 : IntKind.i64.wrap (65 + p) = 65 + p := IntWalk.i64_in _ (by omega)
          have e2 : IntKind.u8.wrap (65 + p) = 65 + p := u8_in' (by omega)
          repeat (first | go_values | go_skip | go_guarded | go_step | go_upon)
          go_at_call 58
          refine (pick_any b _ 5 _ R7.out.src (by omega) (by omega)).mono ?_
          rintro e w8 ⟨q, rfl, q_0, q_1, hs, hg⟩
          have R8 := Lib.hid (R7.out.step hb hs hg)
          clear hs hg
          dsimp only
          have e3 : IntKind.i64.wrap (65 + q) = 65 + q := IntWalk.i64_in _ (by omega)
          have e4 : IntKind.u8.wrap (65 + q) = 65 + q := u8_in' (by omega)
          repeat ((with_reducible fail_if_success (show wpList _ _ _ (⟨some 50, _, _, _, _, _⟩ :: _) _ _)); first | go_values | go_skip | go_guarded | go_step | go_upon)
          refine wpList_val (by kernel_rfl) (.agg (prV ⟨65 + p, 65 + q, 0⟩).toArray) w8 (by kernel_rfl) ?_
          have hb9 := below_one w8 (.cells (prV ⟨65 + p, 65 + q, 0⟩).toArray 78)
          have R9 := Lib.hid (R8.out.next hb9)
          have B9 := Lib.hid (Blk.new w8 78 (prV ⟨65 + p, 65 + q, 0⟩))
          have HNE := Lib.hid (show ∀ A n c, S = .slice A n c → ∀ a, A = some a → a.block ≠ w8.heap.size from fun A n c e a ea => by
            obtain ⟨_, A', n', c', e', _, _, _, h5⟩ := R8.out.mem
            rw [e'] at e
            injection e with e1
            subst e1
            have := (h5 a ea).2
            omega)
          have hg9 : g3 < w8.heap.size := R8.out.blk.lt
          repeat ((with_reducible fail_if_success (show wpList _ _ _ (⟨none, .store 78 (.tmp 7) (.tmp 50), _, _, _, _⟩ :: _) _ _)); first | go_values | go_skip | go_guarded | go_step | go_upon)
          refine wpList_store_new rfl 78 (.tmp 7) (.tmp 50) rfl (prV ⟨65 + p, 65 + q, 0⟩).toArray rfl rfl 78 _ szPrI rfl (one_pr _) ?_
          generalize w8.alloc (.cells (prV ⟨65 + p, 65 + q, 0⟩).toArray 78) = W9 at *
          generalize w8.heap.size = g9 at *
          clear R8 hb9 e1 e2 e3 e4
          have hlo := R9.out.lo
          repeat (first | go_values | go_skip | go_guarded | go_step | go_upon)
          go_at_call 58
          refine (pick_any b _ 7 _ R9.out.src (by omega) (by omega)).mono ?_
          rintro e w10 ⟨r, rfl, r_0, r_1, hs, hg⟩
          have R10 := Lib.hid (R9.out.step hb hs hg)
          have B10 := Lib.hid (B9.out.grown hg (by simp; omega))
          clear hs hg R9 B9
          dsimp only
          have e1 : IntKind.i64.wrap (r - 3) = r - 3 := IntWalk.i64_in _ (by omega)
          have e2 : IntKind.i8.wrap (r - 3) = r - 3 := i8_in (by omega)
          have c2 := B10.out.cell 2 _ rfl
          have f2 := B10.out.free 2
          have hg11 : w10.grownBy (w10.setCell ⟨g9, 2, none⟩ (.int .i8 (r - 3))) (some g9) := grown_one
          have R11 := Lib.hid (R10.out.other hg11 hg9 hb HNE.out)
          have B11 := Lib.hid (show Blk (w10.setCell ⟨g9, 2, none⟩ (.int .i8 (r - 3))) g9 78 (prV ⟨65 + p, 65 + q, r - 3⟩) from B10.out.set 2 (.int .i8 (r - 3)))
          clear hg11
          obtain ⟨hft, A, n, c, rfl, hn, hm', hsl, hbd⟩ := R11.out.mem
          have HFT := Lib.hid hft
          have HN := Lib.hid hn
          have HSL := Lib.hid hsl
          have HFW := Lib.hid (show f.pairs.length ≤ 12 from (validF_iff.1 HVF.out).few)
          clear hft hn hsl hbd hm'
          repeat ((with_reducible fail_if_success (show wpList _ _ _ (⟨some 57, _, _, _, _, _⟩ :: _) _ _)); first | go_values | go_skip | go_guarded | go_step | go_upon)
          clear c2 f2 e1 e2
          generalize w10.setCell ⟨g9, 2, none⟩ (.int .i8 (r - 3)) = W11 at *
          refine wpList_load_row rfl 28 (.tmp 3) rfl _ rfl 28 (fcV f (.slice A n c)).toArray _ _ R11.out.blk Tryz.underlying28 rfl (by rw [List.size_toArray, fcV_length HFT.out]; exact szFcI) ?_
          repeat ((with_reducible fail_if_success (show wpList _ _ _ (⟨some 58, _, _, _, _, _⟩ :: _) _ _)); first | go_values | go_skip | go_guarded | go_step | go_upon)
          refine wpList_load_row rfl 78 (.tmp 7) rfl _ rfl 78 (prV ⟨65 + p, 65 + q, r - 3⟩).toArray _ _ B11.out Tryz.underlying78 rfl szPrI ?_
          repeat (first | go_values | go_skip | go_guarded | go_step | go_upon)
          go_at_call 60
          refine (with_any f A n c ⟨65 + p, 65 + q, r - 3⟩ W11 HFT.out ⟨by constructor <;> simp <;> omega, by constructor <;> simp <;> omega, by constructor <;> simp <;> omega⟩ HVF.out (isLet_in (show 65 ≤ 65 + p ∧ 65 + p ≤ 90 by omega)) (isLet_in (show 65 ≤ 65 + q ∧ 65 + q ≤ 90 by omega)) HN.out (by have := HN.out; have := HFW.out; omega) HSL.out).mono ?_
          rintro e w12 ⟨f', S', code, rfl, hval, hmem, hbel⟩
          have hlt11 := R11.out.blk.lt
          have HVAL := Lib.hid hval
          have R12 := Lib.hid (R11.out.next hbel)
          have M12 := Lib.hid (hmem.le (show g3 ≤ W11.heap.size - 1 by omega))
          clear hval hmem hbel
          dsimp only
          have hb13 := below_one w12 (.cells (fcV f' S').toArray 28)
          have R13 := Lib.hid (R12.out.next hb13)
          have M13 := Lib.hid (M12.out.next hb13)
          have B13 := Lib.hid (Blk.new w12 28 (fcV f' S'))
          have hlen := fcV_length M12.out.typ S'
          have hone : (fcV f' S').toArray.all (·.oneCell') = true := by
            obtain ⟨_, A2, n2, c2, e2, _⟩ := M12.out
            rw [e2]; exact one_fc _ _ _ _
          repeat ((with_reducible fail_if_success (show wpList _ _ _ (⟨none, .store 28 (.tmp 8) (.tmp 60), _, _, _, _⟩ :: _) _ _)); first | go_values | go_skip | go_guarded | go_step | go_upon)
          refine wpList_store_new rfl 28 (.tmp 8) (.tmp 60) rfl (fcV f' S').toArray rfl rfl 28 _ (by rw [List.size_toArray, hlen]; exact szFcI) (by rw [show (fcV f' S').toArray.size = 29 by rw [List.size_toArray, hlen]]; rfl) hone ?_
          generalize w12.alloc (.cells (fcV f' S').toArray 28) = W13 at *
          generalize w12.heap.size = g13 at *
          clear hb13 R12 M12
          by_cases hc0 : code = 0
          · subst hc0
            have HV2 := Lib.hid (HVAL.out rfl)
            have R14 := Lib.hid (R13.out.row hb M13.out)
            repeat ((with_reducible fail_if_success (show wpList _ _ _ (⟨some 64, _, _, _, _, _⟩ :: _) _ _)); first | go_values | go_skip | go_guarded | go_step | go_upon)
            refine wpList_load_row rfl 28 (.tmp 8) rfl _ rfl 28 (fcV f' S').toArray _ _ B13.out Tryz.underlying28 rfl (by rw [List.size_toArray, hlen]; exact szFcI) ?_
            repeat ((with_reducible fail_if_success (show wpList _ _ _ (⟨none, .store 28 (.tmp 3) (.tmp 64), _, _, _, _⟩ :: _) _ _)); first | go_values | go_skip | go_guarded | go_step | go_upon)
            refine wpList_store_row rfl 28 (.tmp 3) (.tmp 64) rfl g3 (fcV f' S').toArray rfl rfl 28 _ R13.out.blk (by rw [List.size_toArray, hlen]; exact szFcI) (by rw [List.size_toArray, List.size_toArray, hlen, fcV_length HFT.out]) hone ?_
            repeat (first | go_values | go_skip | go_guarded | go_step | go_upon)
            refine ⟨?_, ?measure⟩
            apply Exists.intro
            (repeat apply Exists.intro)
            refine ⟨?rel, rfl⟩
            case rel => exact ⟨k - 1, _, _, by omega, by congr 1; omega, HV2.out, R14.out.le (by omega)⟩
            case measure => simp [intOf]; omega
          · have hcb : (code == 0) = false := by simpa using hc0
            repeat (first | go_values | go_skip | go_guarded | go_step | go_upon)
            refine ⟨?_, ?measure⟩
            apply Exists.intro
            (repeat apply Exists.intro)
            refine ⟨?rel, rfl⟩
            case rel => exact ⟨k - 1, _, _, by omega, by congr 1; omega, HVF.out, R13.out.le (by omega)⟩
            case measure => simp [intOf]; omega
        · obtain rfl : k = 0 := by omega
          have hlen := fcV_length R.out.mem.typ S
          have hone : (fcV f S).toArray.all (·.oneCell') = true := by
            obtain ⟨_, A2, n2, c2, e2, _⟩ := R.out.mem
            rw [e2]; exact one_fc _ _ _ _
          have hlo := R.out.lo
          repeat ((with_reducible fail_if_success (show wpList _ _ _ (⟨some 65, _, _, _, _, _⟩ :: _) _ _)); first | go_values | go_skip | go_guarded | go_step | go_upon)
          refine wpList_load_row rfl 28 (.tmp 3) rfl _ rfl 28 (fcV f S).toArray _ _ R.out.blk Tryz.underlying28 rfl (by rw [List.size_toArray, hlen]; exact szFcI) ?_
          repeat ((with_reducible fail_if_success (show wpList _ _ _ (⟨none, .store 28 (.tmp 2) (.tmp 65), _, _, _, _⟩ :: _) _ _)); first | go_values | go_skip | go_guarded | go_step | go_upon)
          refine wpList_store_row rfl 28 (.tmp 2) (.tmp 65) rfl w.heap.size (fcV f S).toArray rfl rfl 28 _ R.out.res (by rw [List.size_toArray, hlen]; exact szFcI) (by rw [List.size_toArray, List.size_toArray, hlen, fcV_length fc0_T]) hone ?_
          repeat (first | go_values | go_skip | go_guarded | go_step | go_upon)
          have hgr : wr.grownBy (wr.setRow w.heap.size (fcV f S).toArray) (some w.heap.size) := setRow_grown' _ _ _
          exact bodyPost_ret (v := .agg (fcV f S).toArray) (results_cell_row rfl _ _ _ 28 (fcV f S).toArray _ _ rfl (R.out.res.setRow_same (fcV f S)) Tryz.underlying28 rfl (by rw [List.size_toArray, hlen]; exact szFcI)) rfl ⟨f, S, rfl, HVF.out, (R.out.mem.grown hgr (by omega)).le (by omega), (R.out.src.grown hgr (by omega)).le (by omega), grown_over' R.out.grow hgr (by omega)⟩
end Go.Proofs.YtahggbaandcddaaGreatDoor
