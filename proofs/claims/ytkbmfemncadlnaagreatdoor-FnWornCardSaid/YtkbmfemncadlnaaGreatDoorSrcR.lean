/- Contracts: rubbings that are drawn. -/
import Derived.Test.YtkbmfemncadlnaaGreatDoorSrcA
import Derived.Test.YtkbmfemncadlnaaGreatDoorGL
import Derived.Test.YtkbmfemncadlnaaGreatDoorHelS
import Derived.BigRegion


namespace Go.Proofs.YtkbmfemncadlnaaGreatDoor
open Go Go.RowKit
set_option linter.unusedVariables false
set_option linter.unusedSimpArgs false

theorem u16_wrap (n : Int) : 0 ≤ IntKind.u16.wrap n ∧ IntKind.u16.wrap n ≤ 65535 := by
  have e : IntKind.u16.wrap n = n % 65536 := rfl
  rw [e]; omega
theorem bits_u16 (op : BinOp) (x y : Int) : ∃ v : Nat, bits op IntKind.u16 x y = (v : Int) ∧ v < 65536 := by
  have h : 0 ≤ bits op IntKind.u16 x y ∧ bits op IntKind.u16 x y ≤ 65535 := u16_wrap _
  exact ⟨(bits op IntKind.u16 x y).toNat, by omega, by omega⟩
/-- A rubbing. -/
structure RubV (r : List Nat) : Prop where
  len : r.length = 8
  lt : ∀ k, rdN r k < 65536
theorem RubV.zero : RubV (List.replicate 8 0) := ⟨rfl, fun k => by
  unfold rdN
  rw [List.getD_eq_getElem?_getD, List.getElem?_replicate]
  split <;> simp⟩
theorem RubV.set {r : List Nat} (h : RubV r) (i v : Nat) (hv : v < 65536) : RubV (r.set i v) := ⟨by rw [List.length_set]; exact h.len, fun k => by
  unfold rdN
  rw [List.getD_eq_getElem?_getD, List.getElem?_set]
  split
  · split <;> simp [hv]
  · have := h.lt k; unfold rdN at this; rw [List.getD_eq_getElem?_getD] at this; exact this⟩
/-- A rubbing is drawn. -/
def DrawR (w : World) (b m : Nat) (e : Ending) (w' : World) : Prop := ∃ r, e = .returned (.agg (R16 r)) ∧ RubV r ∧ SrcAt w' b m ∧ w.grownBy w' (some b)

structure DrwRel (w : World) (b m : Nat) (wr : World) : Prop where
  ex : ∃ r, RubV r ∧ Blk wr (w.heap.size + 1) 26 (r.map u16)
  res : Blk wr w.heap.size 26 ((List.replicate 8 0).map u16)
  src : SrcAt wr b m
  grow : w.grownBy wr (some b)
theorem DrwRel.le {w wr : World} {b m m' : Nat} (h : DrwRel w b m wr) (hm : m ≤ m') : DrwRel w b m' wr := ⟨h.ex, h.res, h.src.le hm, h.grow⟩
theorem DrwRel.step {w wr w' : World} {b m m' : Nat} (h : DrwRel w b m wr) (hb : b < w.heap.size) (hs : SrcAt w' b m') (hg : wr.grownBy w' (some b)) : DrwRel w b m' w' := by
  obtain ⟨r, h1, h2⟩ := h.ex
  exact ⟨⟨r, h1, h2.grown hg (by simp; omega)⟩, h.res.grown hg (by simp; omega), hs, grownBy_trans h.grow hg⟩
theorem grown_put {w wr : World} {b g o : Nat} {v : Value} (h : w.grownBy wr (some b)) (hg : w.heap.size ≤ g) : w.grownBy (wr.setCell ⟨g, o, none⟩ v) (some b) := by
  have h2 : wr.grownBy (wr.setCell ⟨g, o, none⟩ v) (some g) := grown_one
  exact ⟨h2.os.trans h.os, h2.tape.trans h.tape, h2.output.trans h.output, Nat.le_trans h.size h2.size, fun i hi hne => (h2.block i (Nat.lt_of_lt_of_le hi h.size) (by simp; omega)).trans (h.block i hi hne)⟩
theorem DrwRel.put {w wr : World} {b m : Nat} {r : List Nat} (h : DrwRel w b m wr) (hb : b < w.heap.size) (hr : RubV r) (hk : Blk wr (w.heap.size + 1) 26 (r.map u16)) (i v : Nat) (hv : v < 65536) : DrwRel w b m (wr.setCell ⟨w.heap.size + 1, i, none⟩ (.int .u16 (v : Int))) :=
  ⟨⟨r.set i v, hr.set i v hv, by rw [List.map_set]; exact hk.set i _⟩, h.res.other _ _ (by show w.heap.size ≠ w.heap.size + 1; omega), h.src.grown grown_one (by omega), grown_put h.grow (by omega)⟩
theorem setRow_grown (w : World) (g : Nat) (cs : Array Value) : w.grownBy (w.setRow g cs) (some g) := ⟨rfl, rfl, rfl, by simp, fun i hi hne => Go.setRow_other w g i cs (by intro e; exact hne (by rw [e]))⟩
theorem grown_over {w wr w' : World} {b g : Nat} (h : w.grownBy wr (some b)) (h2 : wr.grownBy w' (some g)) (hg : w.heap.size ≤ g) : w.grownBy w' (some b) :=
  ⟨h2.os.trans h.os, h2.tape.trans h.tape, h2.output.trans h.output, Nat.le_trans h.size h2.size, fun i hi hne => (h2.block i (Nat.lt_of_lt_of_le hi h.size) (by simp; omega)).trans (h.block i hi hne)⟩
theorem mod_cast16 (x : Nat) : ((x : Int) + 1) % 16 = (((x + 1) % 16 : Nat) : Int) := by omega
theorem mod_cast8 (x : Nat) : ((x : Int) + 1) % 8 = (((x + 1) % 8 : Nat) : Int) := by omega
set_option maxHeartbeats 1000000 in
set_option maxRecDepth 100000 in
theorem drawn_any (b m : Nat) (w : World) (h : SrcAt w b m) (hm : m ≤ 100000) :
    Calls Tryz.prog 32 #[.pointer (some ⟨b, 0, none⟩)] w (DrawR w b (m + 1000)) := by
  have H := Lib.hid h
  clear h
  go_enter Tryz.func32, Tryz.ntmps32
  have hz : ∀ w : World, (Obj.cells #[Value.int IntKind.u16 0, Value.int IntKind.u16 0, Value.int IntKind.u16 0, Value.int IntKind.u16 0, Value.int IntKind.u16 0, Value.int IntKind.u16 0, Value.int IntKind.u16 0, Value.int IntKind.u16 0] 26) = .cells ((List.replicate 8 0).map u16).toArray 26 := fun _ => rfl
  have hk2 := (Blk.new w 26 ((List.replicate 8 0).map u16)).alloc (.cells ((List.replicate 8 0).map u16).toArray 26)
  have hk3 := Blk.new (w.alloc (.cells ((List.replicate 8 0).map u16).toArray 26)) 26 ((List.replicate 8 0).map u16)
  rw [World.size_alloc] at hk3
  have hB := below_two w (.cells ((List.replicate 8 0).map u16).toArray 26) (.cells ((List.replicate 8 0).map u16).toArray 26)
  have HREL := Lib.hid (show DrwRel w b m ((w.alloc (Obj.cells #[Value.int IntKind.u16 0, Value.int IntKind.u16 0, Value.int IntKind.u16 0, Value.int IntKind.u16 0, Value.int IntKind.u16 0, Value.int IntKind.u16 0, Value.int IntKind.u16 0, Value.int IntKind.u16 0] 26)).alloc (Obj.cells #[Value.int IntKind.u16 0, Value.int IntKind.u16 0, Value.int IntKind.u16 0, Value.int IntKind.u16 0, Value.int IntKind.u16 0, Value.int IntKind.u16 0, Value.int IntKind.u16 0, Value.int IntKind.u16 0] 26)) from ⟨⟨_, RubV.zero, hk3⟩, hk2, H.out.next hB, grown_below hB⟩)
  clear hk2 hk3 hB hz
  go_wp2_with fail
  generalize ((w.alloc (Obj.cells #[Value.int IntKind.u16 0, Value.int IntKind.u16 0, Value.int IntKind.u16 0, Value.int IntKind.u16 0, Value.int IntKind.u16 0, Value.int IntKind.u16 0, Value.int IntKind.u16 0, Value.int IntKind.u16 0] 26)).alloc (Obj.cells #[Value.int IntKind.u16 0, Value.int IntKind.u16 0, Value.int IntKind.u16 0, Value.int IntKind.u16 0, Value.int IntKind.u16 0, Value.int IntKind.u16 0, Value.int IntKind.u16 0, Value.int IntKind.u16 0] 26)) = W0 at *
  go_at_call 46
  refine (pick_any b m 9 W0 HREL.out.src (by omega) (by omega)).mono ?_
  rintro e w1 ⟨k0, rfl, x0, x1, hs1, hg1⟩
  have hb1 := H.out.lt
  have HR1 := Lib.hid (HREL.out.step hb1 hs1 hg1)
  clear hs1 hg1
  go_wp2
  go_loopw [4] (fun i wr => ∃ k : Nat, k ≤ 8 ∧ i = .int .i64 (k : Int) ∧ DrwRel w b (m + 2 + 22 * (8 - k)) wr) (fun i _ => (intOf i).toNat)
  case atStart =>
    obtain ⟨k, rfl⟩ := Int.eq_ofNat_of_zero_le x0
    exact ⟨k, by omega, rfl, HR1.out.le (by omega)⟩
  clear HR1 HREL
  case round =>
    obtain ⟨k, hk, rfl, hr⟩ := hrel
    by_cases hlt : 0 < k
    · have hlti : (0 : Int) < (k : Int) := by omega
      have HR := Lib.hid hr
      clear hr
      go_wp2_with fail
      go_at_call 46
      refine (pick_any b _ 14 wr HR.out.src (by omega) (by omega)).mono ?_
      rintro e w2 ⟨x, rfl, px0, px1, hs2, hg2⟩
      have HR2 := Lib.hid (HR.out.step hb1 hs2 hg2)
      clear hs2 hg2 HR
      go_wp2_with fail
      go_at_call 46
      refine (pick_any b _ 7 w2 HR2.out.src (by omega) (by omega)).mono ?_
      rintro e w3 ⟨y, rfl, py0, py1, hs3, hg3⟩
      have HR3 := Lib.hid (HR2.out.step hb1 hs3 hg3)
      clear hs3 hg3 HR2
      go_wp2_with fail
      go_at_call 46
      refine (pick_any b _ 8 w3 HR3.out.src (by omega) (by omega)).mono ?_
      rintro e w4 ⟨n, rfl, pn0, pn1, hs4, hg4⟩
      have HR4 := Lib.hid (HR3.out.step hb1 hs4 hg4)
      clear hs4 hg4 HR3
      go_wp2
      go_loopw [5, 6, 7] (fun u v i wr => ∃ (X Y j : Nat), X ≤ 15 ∧ Y ≤ 7 ∧ j ≤ 8 ∧ u = .int .i64 (X : Int) ∧ v = .int .i64 (Y : Int) ∧ i = .int .i64 ((j : Int) - 1) ∧ DrwRel w b (m + 2 + 22 * (8 - k) + 2 + 2 + 2 + 2 * (8 - j)) wr) (fun _ _ i _ => (intOf i + 1).toNat)
      case atStart =>
        obtain ⟨X, rfl⟩ := Int.eq_ofNat_of_zero_le px0
        obtain ⟨Y, rfl⟩ := Int.eq_ofNat_of_zero_le py0
        obtain ⟨N, rfl⟩ := Int.eq_ofNat_of_zero_le pn0
        exact ⟨X, Y, N + 1, by omega, by omega, by omega, rfl, rfl, by congr 1; omega, HR4.out.le (by omega)⟩
      clear HR4
      case round =>
        obtain ⟨X, Y, j, hX, hY, hj, rfl, rfl, rfl, hr⟩ := hrel
        by_cases hlj : 0 < j
        · have hlji : (0 : Int) ≤ (j : Int) - 1 := by omega
          obtain ⟨r, hrv, hblk⟩ := hr.ex
          have hsub : IntKind.i64.wrap ((j : Int) - 1 - 1) = (j : Int) - 1 - 1 := IntWalk.i64_in _ (by omega)
          have hY8 : Y < 8 := by omega
          have hcl := hblk.cell Y _ (map_u16_at r Y (by rw [hrv.len]; exact hY8))
          have hfr := hblk.free Y
          have HR := Lib.hid hr
          have HBK := Lib.hid hblk
          have HRV := Lib.hid hrv
          clear hr hblk hrv
          go_wp2_with fail
          obtain ⟨V, hV, hV2⟩ := bits_u16 BinOp.or ((rdN r Y : Nat) : Int) (IntKind.u16.wrap (2 ^ X))
          rw [hV]
          have HR5 := Lib.hid (HR.out.put hb1 HRV.out HBK.out Y V hV2)
          clear hV hcl hfr
          generalize wr.setCell ⟨w.heap.size + 1, Y, none⟩ (Value.int IntKind.u16 (V : Int)) = W5 at *
          go_at_call 66
          refine (one_any b _ 2 W5 HR5.out.src (by omega) (by omega)).mono ?_
          rintro e w6 ⟨⟨bx, rfl⟩, hs6, hg6⟩
          have HR6 := Lib.hid (HR5.out.step hb1 hs6 hg6)
          clear hs6 hg6 HR5
          cases bx
          · go_wp2
            go_roundw
            case rel => exact ⟨X, (Y + 1) % 8, j - 1, hX, by omega, by omega, rfl, by rw [mod_cast8], by congr 1; omega, HR6.out.le (by omega)⟩
            case measure => simp [intOf]; omega
          · go_wp2
            go_roundw
            case rel => exact ⟨(X + 1) % 16, Y, j - 1, by omega, hY, by omega, by rw [mod_cast16], rfl, by congr 1; omega, HR6.out.le (by omega)⟩
            case measure => simp [intOf]; omega
        · obtain rfl : j = 0 := by omega
          have hsub : IntKind.i64.wrap ((k : Int) - 1) = (k : Int) - 1 := IntWalk.i64_in _ (by omega)
          have HR := Lib.hid hr
          clear hr
          go_wp2
          go_roundw
          case rel => exact ⟨k - 1, by omega, by congr 1; omega, HR.out.le (by omega)⟩
          case measure => simp [intOf]; omega
    · obtain rfl : k = 0 := by omega
      obtain ⟨r, hrv, hblk⟩ := hr.ex
      have HR := Lib.hid hr
      have HRV := Lib.hid hrv
      have hres := hr.res
      clear hr hrv
      have hl := HRV.out.len
      go_wp2_with (first
        | (refine wpList_load_row rfl 26 _ rfl _ rfl 26 (R16 r) _ _ hblk Tryz.underlying26 rfl (by rw [R16_size, hl]; exact szRub) ?_)
        | (refine wpList_store_row rfl 26 _ _ rfl _ (R16 r) rfl rfl 26 _ hres (by rw [R16_size, hl]; exact szRub) (by rw [R16_size, hl]; rfl) (one_u16 _) ?_))
      have hg : wr.grownBy (wr.setRow w.heap.size (R16 r)) (some w.heap.size) := setRow_grown _ _ _
      exact bodyPost_ret (v := .agg (R16 r)) (results_cell_row rfl _ _ _ 26 (R16 r) _ _ rfl (hres.setRow_same (r.map Go.Proofs.YtkbmfemncadlnaaGreatDoor.u16)) Tryz.underlying26 rfl (by rw [R16_size, hl]; exact szRub)) rfl
        ⟨r, rfl, HRV.out, (HR.out.src.le (by omega)).grown hg (by omega), grown_over HR.out.grow hg (Nat.le_refl _)⟩

theorem results_cell_cell {fn : Func} {p u : Tmp} {ty ty2 : TypeId} (h : fn.results = #[.cell p ty, .cell u ty2]) (tmps : Array Value) (P : Program) (w : World) :
    (results fn tmps).run P w = ((asAddr (tmps.getD p undef)).run P w).andThen fun a w₁ => ((loadVar ty a).run P w₁).andThen fun v w₂ => ((asAddr (tmps.getD u undef)).run P w₂).andThen fun b w₃ => ((loadVar ty2 b).run P w₃).andThen fun x w₄ => .ok (.tuple #[v, x]) w₄ := by
  simp only [results, h]
  simp [Sem.run_bind, Result.andThen]
theorem results_row_row {P : Program} {fn : Func} {p u : Tmp} {ty : TypeId} (h : fn.results = #[.cell p ty, .cell u ty]) (tmps : Array Value) (w : World) (g g2 : Nat) (t t2 : TypeId) (cs cs2 : Array Value) (fr fr2 : Nat × Nat) (d : TypeDesc)
    (hp : tmps.getD p undef = .pointer (some ⟨g, 0, none⟩)) (hq : tmps.getD u undef = .pointer (some ⟨g2, 0, none⟩)) (hg : w.heap[g]? = some (.cells cs t fr)) (hg2 : w.heap[g2]? = some (.cells cs2 t2 fr2)) (hu : P.underlying ty = some d) (hd : (match d with | .struct _ | .array _ _ => true | _ => false) = true) (hi : (P.info? ty).map (·.size) = some cs.size) (hi2 : (P.info? ty).map (·.size) = some cs2.size) :
    (results fn tmps).run P w = .ok (.tuple #[.agg cs, .agg cs2]) w := by
  rw [results_cell_cell h, hp, hq]
  simp [asAddr, run_loadVar_row w g t ty cs fr d hg hu hd hi, run_loadVar_row w g2 t2 ty cs2 fr2 d hg2 hu hd hi2, Result.andThen]

structure TwRel (w : World) (b m : Nat) (W : World) : Prop where
  res2 : Blk W w.heap.size 26 ((List.replicate 8 0).map u16)
  res3 : Blk W (w.heap.size + 1) 26 ((List.replicate 8 0).map u16)
  src : SrcAt W b m
  grow : w.grownBy W (some b)
theorem TwRel.size {w W : World} {b m : Nat} (h : TwRel w b m W) : w.heap.size + 2 ≤ W.heap.size := by have := h.res3.lt; omega
theorem TwRel.start (w : World) (b m : Nat) (h : SrcAt w b m) : TwRel w b m ((w.alloc (.cells ((List.replicate 8 0).map u16).toArray 26)).alloc (.cells ((List.replicate 8 0).map u16).toArray 26)) := by
  have hk2 := (Blk.new w 26 ((List.replicate 8 0).map u16)).alloc (.cells ((List.replicate 8 0).map u16).toArray 26)
  have hk3 := Blk.new (w.alloc (.cells ((List.replicate 8 0).map u16).toArray 26)) 26 ((List.replicate 8 0).map u16)
  rw [World.size_alloc] at hk3
  have hB := below_two w (.cells ((List.replicate 8 0).map u16).toArray 26) (.cells ((List.replicate 8 0).map u16).toArray 26)
  exact ⟨hk2, hk3, h.next hB, grown_below hB⟩
theorem TwRel.step {w W W' : World} {b m m' : Nat} (h : TwRel w b m W) (hb : b < w.heap.size) (hs : SrcAt W' b m') (hg : W.grownBy W' (some b)) : TwRel w b m' W' :=
  ⟨h.res2.grown hg (by simp; omega), h.res3.grown hg (by simp; omega), hs, grownBy_trans h.grow hg⟩
theorem TwRel.below {w W W' : World} {b m : Nat} (h : TwRel w b m W) (hb : Below W.heap.size W W') : TwRel w b m W' :=
  ⟨h.res2.next hb, h.res3.next hb, h.src.next hb, grownBy_trans h.grow (grown_below hb)⟩
theorem TwRel.le {w W : World} {b m m' : Nat} (h : TwRel w b m W) (hm : m ≤ m') : TwRel w b m' W := ⟨h.res2, h.res3, h.src.le hm, h.grow⟩
theorem TwRel.other {w W W' : World} {b m g : Nat} (h : TwRel w b m W) (hg : W.grownBy W' (some g)) (h2 : w.heap.size + 2 ≤ g) (hb : b < g) : TwRel w b m W' :=
  ⟨h.res2.grown hg (by simp; omega), h.res3.grown hg (by simp; omega), h.src.grown hg hb, grown_over h.grow hg (by omega)⟩
def DrawR2 (w : World) (b m : Nat) (e : Ending) (w' : World) : Prop := ∃ r s, e = .returned (.tuple #[.agg (R16 r), .agg (R16 s)]) ∧ RubV r ∧ RubV s ∧ SrcAt w' b m ∧ w.grownBy w' (some b)
theorem TwRel.done {w W : World} {b m : Nat} {ra rb : List Nat} (h : TwRel w b m W) (hb : b < w.heap.size) :
    Blk ((W.setRow w.heap.size (R16 ra)).setRow (w.heap.size + 1) (R16 rb)) w.heap.size 26 (ra.map u16) ∧ Blk ((W.setRow w.heap.size (R16 ra)).setRow (w.heap.size + 1) (R16 rb)) (w.heap.size + 1) 26 (rb.map u16) ∧
      SrcAt ((W.setRow w.heap.size (R16 ra)).setRow (w.heap.size + 1) (R16 rb)) b m ∧ w.grownBy ((W.setRow w.heap.size (R16 ra)).setRow (w.heap.size + 1) (R16 rb)) (some b) := by
  have g1 := setRow_grown W w.heap.size (R16 ra)
  have g2 := setRow_grown (W.setRow w.heap.size (R16 ra)) (w.heap.size + 1) (R16 rb)
  exact ⟨(h.res2.setRow_same (ra.map u16)).setRow_other _ (by omega), (h.res3.setRow_other _ (by omega)).setRow_same (rb.map u16), (h.src.grown g1 hb).grown g2 (by omega), grown_over (grown_over h.grow g1 (Nat.le_refl _)) g2 (by omega)⟩
/-- Two rubbings of zeros, at g and behind it. -/
structure Zer2 (w : World) (g : Nat) (W : World) : Prop where
  res2 : Blk W g 26 ((List.replicate 8 0).map u16)
  res3 : Blk W (g + 1) 26 ((List.replicate 8 0).map u16)
  below : Below w.heap.size w W
  base : w.heap.size ≤ g
theorem Zer2.size {w W : World} {g : Nat} (h : Zer2 w g W) : g + 2 ≤ W.heap.size := by have := h.res3.lt; omega
theorem zeros_two (w : World) : Zer2 w w.heap.size ((w.alloc (.cells ((List.replicate 8 0).map u16).toArray 26)).alloc (.cells ((List.replicate 8 0).map u16).toArray 26)) := by
  have hk2 := (Blk.new w 26 ((List.replicate 8 0).map u16)).alloc (.cells ((List.replicate 8 0).map u16).toArray 26)
  have hk3 := Blk.new (w.alloc (.cells ((List.replicate 8 0).map u16).toArray 26)) 26 ((List.replicate 8 0).map u16)
  rw [World.size_alloc] at hk3
  exact ⟨hk2, hk3, below_two _ _ _, Nat.le_refl _⟩
theorem Zer2.next {w W W' : World} {g : Nat} (h : Zer2 w g W) (hb : Below W.heap.size W W') : Zer2 w g W' := ⟨h.res2.next hb, h.res3.next hb, below_step h.below hb, h.base⟩
theorem below_grow {B b : Nat} {w0 w w' : World} (hb : Below B w0 w) (h : w.grownBy w' (some b)) (hq : B ≤ b) (hB : B ≤ w.heap.size) : Below B w0 w' :=
  hb.trans ⟨h.os, h.tape, h.output, h.size, fun k hk => h.block k (by omega) (by intro e; injection e with e; omega)⟩
theorem Zer2.grown {w W W' : World} {g b : Nat} (h : Zer2 w g W) (hg : W.grownBy W' (some b)) (hb : g + 2 ≤ b) : Zer2 w g W' :=
  ⟨h.res2.grown hg (by simp; omega), h.res3.grown hg (by simp; omega), below_grow h.below hg (by have := h.base; omega) h.below.size, h.base⟩
theorem Zer2.done {w W : World} {ra rb : List Nat} (h : Zer2 w w.heap.size W) :
    Blk ((W.setRow w.heap.size (R16 ra)).setRow (w.heap.size + 1) (R16 rb)) w.heap.size 26 (ra.map u16) ∧ Blk ((W.setRow w.heap.size (R16 ra)).setRow (w.heap.size + 1) (R16 rb)) (w.heap.size + 1) 26 (rb.map u16) ∧
      Below w.heap.size w ((W.setRow w.heap.size (R16 ra)).setRow (w.heap.size + 1) (R16 rb)) :=
  ⟨(h.res2.setRow_same (ra.map u16)).setRow_other _ (by omega), (h.res3.setRow_other _ (by omega)).setRow_same (rb.map u16), below_setRow (below_setRow h.below _ _ (Nat.le_refl _)) _ _ (by omega)⟩
end Go.Proofs.YtkbmfemncadlnaaGreatDoor
