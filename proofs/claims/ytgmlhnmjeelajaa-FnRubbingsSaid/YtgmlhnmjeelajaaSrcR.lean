/- Contracts: rubbings that are drawn. -/
import Derived.Test.YtgmlhnmjeelajaaSrcA
import Derived.Test.YtgmlhnmjeelajaaRubG
import Derived.Test.YtgmlhnmjeelajaaHelS
import Derived.BigRegion


namespace Go.Proofs.Ytgmlhnmjeelajaa
open Go Go.RowKit
set_option linter.unusedVariables false
set_option linter.unusedSimpArgs false

theorem u16_wrap (n : Int) : 0 ≤ IntKind.u16.wrap n ∧ IntKind.u16.wrap n ≤ 65535 := by
  have e : IntKind.u16.wrap n = n % 65536 := rfl
  rw [e]; omega
theorem bits_u16 (op : BinOp) (x y : Int) : ∃ v : Nat, bits op IntKind.u16 x y = (v : Int) ∧ v < 65536 := by
  have h : 0 ≤ bits op IntKind.u16 x y ∧ bits op IntKind.u16 x y ≤ 65535 := u16_wrap _
  exact ⟨(bits op IntKind.u16 x y).toNat, by omega, by omega⟩
/-- A rubbing. -/
structure RubV (r : List Nat) : Prop where
  len : r.length = 8
  lt : ∀ k, rdN r k < 65536
theorem RubV.zero : RubV (List.replicate 8 0) := ⟨rfl, fun k => by
  unfold rdN
  rw [List.getD_eq_getElem?_getD, List.getElem?_replicate]
  split <;> simp⟩
theorem RubV.set {r : List Nat} (h : RubV r) (i v : Nat) (hv : v < 65536) : RubV (r.set i v) := ⟨by rw [List.length_set]; exact h.len, fun k => by
  unfold rdN
  rw [List.getD_eq_getElem?_getD, List.getElem?_set]
  split
  · split <;> simp [hv]
  · have := h.lt k; unfold rdN at this; rw [List.getD_eq_getElem?_getD] at this; exact this⟩
/-- A rubbing is drawn. -/
def DrawR (w : World) (b m : Nat) (e : Ending) (w' : World) : Prop := ∃ r, e = .returned (.agg (R16 r)) ∧ RubV r ∧ SrcAt w' b m ∧ w.grownBy w' (some b)

structure DrwRel (w : World) (b m : Nat) (wr : World) : Prop where
  ex : ∃ r, RubV r ∧ Blk wr (w.heap.size + 1) 26 (r.map u16)
  res : Blk wr w.heap.size 26 ((List.replicate 8 0).map u16)
  src : SrcAt wr b m
  grow : w.grownBy wr (some b)
theorem DrwRel.le {w wr : World} {b m m' : Nat} (h : DrwRel w b m wr) (hm : m ≤ m') : DrwRel w b m' wr := ⟨h.ex, h.res, h.src.le hm, h.grow⟩
theorem DrwRel.step {w wr w' : World} {b m m' : Nat} (h : DrwRel w b m wr) (hb : b < w.heap.size) (hs : SrcAt w' b m') (hg : wr.grownBy w' (some b)) : DrwRel w b m' w' := by
  obtain ⟨r, h1, h2⟩ := h.ex
  exact ⟨⟨r, h1, h2.grown hg (by simp; omega)⟩, h.res.grown hg (by simp; omega), hs, grownBy_trans h.grow hg⟩
theorem grown_put {w wr : World} {b g o : Nat} {v : Value} (h : w.grownBy wr (some b)) (hg : w.heap.size ≤ g) : w.grownBy (wr.setCell ⟨g, o, none⟩ v) (some b) := by
  have h2 : wr.grownBy (wr.setCell ⟨g, o, none⟩ v) (some g) := grown_one
  exact ⟨h2.os.trans h.os, h2.tape.trans h.tape, h2.output.trans h.output, Nat.le_trans h.size h2.size, fun i hi hne => (h2.block i (Nat.lt_of_lt_of_le hi h.size) (by simp; omega)).trans (h.block i hi hne)⟩
theorem DrwRel.put {w wr : World} {b m : Nat} {r : List Nat} (h : DrwRel w b m wr) (hb : b < w.heap.size) (hr : RubV r) (hk : Blk wr (w.heap.size + 1) 26 (r.map u16)) (i v : Nat) (hv : v < 65536) : DrwRel w b m (wr.setCell ⟨w.heap.size + 1, i, none⟩ (.int .u16 (v : Int))) :=
  ⟨⟨r.set i v, hr.set i v hv, by rw [List.map_set]; exact hk.set i _⟩, h.res.other _ _ (by show w.heap.size ≠ w.heap.size + 1; omega), h.src.grown grown_one (by omega), grown_put h.grow (by omega)⟩
theorem setRow_grown (w : World) (g : Nat) (cs : Array Value) : w.grownBy (w.setRow g cs) (some g) := ⟨rfl, rfl, rfl, by simp, fun i hi hne => Go.setRow_other w g i cs (by intro e; exact hne (by rw [e]))⟩
theorem grown_over {w wr w' : World} {b g : Nat} (h : w.grownBy wr (some b)) (h2 : wr.grownBy w' (some g)) (hg : w.heap.size ≤ g) : w.grownBy w' (some b) :=
  ⟨h2.os.trans h.os, h2.tape.trans h.tape, h2.output.trans h.output, Nat.le_trans h.size h2.size, fun i hi hne => (h2.block i (Nat.lt_of_lt_of_le hi h.size) (by simp; omega)).trans (h.block i hi hne)⟩
theorem mod_cast16 (x : Nat) : ((x : Int) + 1) % 16 = (((x + 1) % 16 : Nat) : Int) := by omega
theorem mod_cast8 (x : Nat) : ((x : Int) + 1) % 8 = (((x + 1) % 8 : Nat) : Int) := by omega
set_option maxHeartbeats 1000000 in
set_option maxRecDepth 100000 in
theorem drawn_any (b m : Nat) (w : World) (h : SrcAt w b m) (hm : m ≤ 100000) :
    Calls Try.prog 37 #[.pointer (some ⟨b, 0, none⟩)] w (DrawR w b (m + 1000)) := by
  have H := Lib.hid h
  clear h
  go_enter Try.func37, Try.ntmps37
  have hz : ∀ w : World, (Obj.cells #[Value.int IntKind.u16 0, Value.int IntKind.u16 0, Value.int IntKind.u16 0, Value.int IntKind.u16 0, Value.int IntKind.u16 0, Value.int IntKind.u16 0, Value.int IntKind.u16 0, Value.int IntKind.u16 0] 26) = .cells ((List.replicate 8 0).map u16).toArray 26 := fun _ => rfl
  have hk2 := (Blk.new w 26 ((List.replicate 8 0).map u16)).alloc (.cells ((List.replicate 8 0).map u16).toArray 26)
  have hk3 := Blk.new (w.alloc (.cells ((List.replicate 8 0).map u16).toArray 26)) 26 ((List.replicate 8 0).map u16)
  rw [World.size_alloc] at hk3
  have hB := below_two w (.cells ((List.replicate 8 0).map u16).toArray 26) (.cells ((List.replicate 8 0).map u16).toArray 26)
  have HREL := Lib.hid (show DrwRel w b m ((w.alloc (Obj.cells #[Value.int IntKind.u16 0, Value.int IntKind.u16 0, Value.int IntKind.u16 0, Value.int IntKind.u16 0, Value.int IntKind.u16 0, Value.int IntKind.u16 0, Value.int IntKind.u16 0, Value.int IntKind.u16 0] 26)).alloc (Obj.cells #[Value.int IntKind.u16 0, Value.int IntKind.u16 0, Value.int IntKind.u16 0, Value.int IntKind.u16 0, Value.int IntKind.u16 0, Value.int IntKind.u16 0, Value.int IntKind.u16 0, Value.int IntKind.u16 0] 26)) from ⟨⟨_, RubV.zero, hk3⟩, hk2, H.out.next hB, grown_below hB⟩)
  clear hk2 hk3 hB hz
  go_wp2_with fail
  generalize ((w.alloc (Obj.cells #[Value.int IntKind.u16 0, Value.int IntKind.u16 0, Value.int IntKind.u16 0, Value.int IntKind.u16 0, Value.int IntKind.u16 0, Value.int IntKind.u16 0, Value.int IntKind.u16 0, Value.int IntKind.u16 0] 26)).alloc (Obj.cells #[Value.int IntKind.u16 0, Value.int IntKind.u16 0, Value.int IntKind.u16 0, Value.int IntKind.u16 0, Value.int IntKind.u16 0, Value.int IntKind.u16 0, Value.int IntKind.u16 0, Value.int IntKind.u16 0] 26)) = W0 at *
  go_at_call 39
  refine (pick_any b m 9 W0 HREL.out.src (by omega) (by omega)).mono ?_
  rintro e w1 ⟨k0, rfl, x0, x1, hs1, hg1⟩
  have hb1 := H.out.lt
  have HR1 := Lib.hid (HREL.out.step hb1 hs1 hg1)
  clear hs1 hg1
  go_wp2
  go_loopw [4] (fun i wr => ∃ k : Nat, k ≤ 8 ∧ i = .int .i64 (k : Int) ∧ DrwRel w b (m + 2 + 22 * (8 - k)) wr) (fun i _ => (intOf i).toNat)
  case atStart =>
    obtain ⟨k, rfl⟩ := Int.eq_ofNat_of_zero_le x0
    exact ⟨k, by omega, rfl, HR1.out.le (by omega)⟩
  clear HR1 HREL
  case round =>
    obtain ⟨k, hk, rfl, hr⟩ := hrel
    by_cases hlt : 0 < k
    · have hlti : (0 : Int) < (k : Int) := by omega
      have HR := Lib.hid hr
      clear hr
      go_wp2_with fail
      go_at_call 39
      refine (pick_any b _ 14 wr HR.out.src (by omega) (by omega)).mono ?_
      rintro e w2 ⟨x, rfl, px0, px1, hs2, hg2⟩
      have HR2 := Lib.hid (HR.out.step hb1 hs2 hg2)
      clear hs2 hg2 HR
      go_wp2_with fail
      go_at_call 39
      refine (pick_any b _ 7 w2 HR2.out.src (by omega) (by omega)).mono ?_
      rintro e w3 ⟨y, rfl, py0, py1, hs3, hg3⟩
      have HR3 := Lib.hid (HR2.out.step hb1 hs3 hg3)
      clear hs3 hg3 HR2
      go_wp2_with fail
      go_at_call 39
      refine (pick_any b _ 8 w3 HR3.out.src (by omega) (by omega)).mono ?_
      rintro e w4 ⟨n, rfl, pn0, pn1, hs4, hg4⟩
      have HR4 := Lib.hid (HR3.out.step hb1 hs4 hg4)
      clear hs4 hg4 HR3
      go_wp2
      go_loopw [5, 6, 7] (fun u v i wr => ∃ (X Y j : Nat), X ≤ 15 ∧ Y ≤ 7 ∧ j ≤ 8 ∧ u = .int .i64 (X : Int) ∧ v = .int .i64 (Y : Int) ∧ i = .int .i64 ((j : Int) - 1) ∧ DrwRel w b (m + 2 + 22 * (8 - k) + 2 + 2 + 2 + 2 * (8 - j)) wr) (fun _ _ i _ => (intOf i + 1).toNat)
      case atStart =>
        obtain ⟨X, rfl⟩ := Int.eq_ofNat_of_zero_le px0
        obtain ⟨Y, rfl⟩ := Int.eq_ofNat_of_zero_le py0
        obtain ⟨N, rfl⟩ := Int.eq_ofNat_of_zero_le pn0
        exact ⟨X, Y, N + 1, by omega, by omega, by omega, rfl, rfl, by congr 1; omega, HR4.out.le (by omega)⟩
      clear HR4
      case round =>
        obtain ⟨X, Y, j, hX, hY, hj, rfl, rfl, rfl, hr⟩ := hrel
        by_cases hlj : 0 < j
        · have hlji : (0 : Int) ≤ (j : Int) - 1 := by omega
          obtain ⟨r, hrv, hblk⟩ := hr.ex
          have hsub : IntKind.i64.wrap ((j : Int) - 1 - 1) = (j : Int) - 1 - 1 := IntWalk.i64_in _ (by omega)
          have hY8 : Y < 8 := by omega
          have hcl := hblk.cell Y _ (map_u16_at r Y (by rw [hrv.len]; exact hY8))
          have hfr := hblk.free Y
          have HR := Lib.hid hr
          have HBK := Lib.hid hblk
          have HRV := Lib.hid hrv
          clear hr hblk hrv
          go_wp2_with fail
          obtain ⟨V, hV, hV2⟩ := bits_u16 BinOp.or ((rdN r Y : Nat) : Int) (IntKind.u16.wrap (2 ^ X))
          rw [hV]
          have HR5 := Lib.hid (HR.out.put hb1 HRV.out HBK.out Y V hV2)
          clear hV hcl hfr
          generalize wr.setCell ⟨w.heap.size + 1, Y, none⟩ (Value.int IntKind.u16 (V : Int)) = W5 at *
          go_at_call 38
          refine (one_any b _ 2 W5 HR5.out.src (by omega) (by omega)).mono ?_
          rintro e w6 ⟨⟨bx, rfl⟩, hs6, hg6⟩
          have HR6 := Lib.hid (HR5.out.step hb1 hs6 hg6)
          clear hs6 hg6 HR5
          cases bx
          · go_wp2
            go_roundw
            case rel => exact ⟨X, (Y + 1) % 8, j - 1, hX, by omega, by omega, rfl, by rw [mod_cast8], by congr 1; omega, HR6.out.le (by omega)⟩
            case measure => simp [intOf]; omega
          · go_wp2
            go_roundw
            case rel => exact ⟨(X + 1) % 16, Y, j - 1, by omega, hY, by omega, by rw [mod_cast16], rfl, by congr 1; omega, HR6.out.le (by omega)⟩
            case measure => simp [intOf]; omega
        · obtain rfl : j = 0 := by omega
          have hsub : IntKind.i64.wrap ((k : Int) - 1) = (k : Int) - 1 := IntWalk.i64_in _ (by omega)
          have HR := Lib.hid hr
          clear hr
          go_wp2
          go_roundw
          case rel => exact ⟨k - 1, by omega, by congr 1; omega, HR.out.le (by omega)⟩
          case measure => simp [intOf]; omega
    · obtain rfl : k = 0 := by omega
      obtain ⟨r, hrv, hblk⟩ := hr.ex
      have HR := Lib.hid hr
      have HRV := Lib.hid hrv
      have hres := hr.res
      clear hr hrv
      have hl := HRV.out.len
      go_wp2_with (first
        | (refine wpList_load_row rfl 26 _ rfl _ rfl 26 (R16 r) _ _ hblk Try.underlying26 rfl (by rw [R16_size, hl]; exact szRub) ?_)
        | (refine wpList_store_row rfl 26 _ _ rfl _ (R16 r) rfl rfl 26 _ hres (by rw [R16_size, hl]; exact szRub) (by rw [R16_size, hl]; rfl) (one_u16 _) ?_))
      have hg : wr.grownBy (wr.setRow w.heap.size (R16 r)) (some w.heap.size) := setRow_grown _ _ _
      exact bodyPost_ret (v := .agg (R16 r)) (results_cell_row rfl _ _ _ 26 (R16 r) _ _ rfl (hres.setRow_same (r.map Go.Proofs.Ytgmlhnmjeelajaa.u16)) Try.underlying26 rfl (by rw [R16_size, hl]; exact szRub)) rfl
        ⟨r, rfl, HRV.out, (HR.out.src.le (by omega)).grown hg (by omega), grown_over HR.out.grow hg (Nat.le_refl _)⟩

theorem results_cell_cell {fn : Func} {p u : Tmp} {ty ty2 : TypeId} (h : fn.results = #[.cell p ty, .cell u ty2]) (tmps : Array Value) (P : Program) (w : World) :
    (results fn tmps).run P w = ((asAddr (tmps.getD p undef)).run P w).andThen fun a w₁ => ((loadVar ty a).run P w₁).andThen fun v w₂ => ((asAddr (tmps.getD u undef)).run P w₂).andThen fun b w₃ => ((loadVar ty2 b).run P w₃).andThen fun x w₄ => .ok (.tuple #[v, x]) w₄ := by
  simp only [results, h]
  simp [Sem.run_bind, Result.andThen]
theorem results_row_row {P : Program} {fn : Func} {p u : Tmp} {ty : TypeId} (h : fn.results = #[.cell p ty, .cell u ty]) (tmps : Array Value) (w : World) (g g2 : Nat) (t t2 : TypeId) (cs cs2 : Array Value) (fr fr2 : Nat × Nat) (d : TypeDesc)
    (hp : tmps.getD p undef = .pointer (some ⟨g, 0, none⟩)) (hq : tmps.getD u undef = .pointer (some ⟨g2, 0, none⟩)) (hg : w.heap[g]? = some (.cells cs t fr)) (hg2 : w.heap[g2]? = some (.cells cs2 t2 fr2)) (hu : P.underlying ty = some d) (hd : (match d with | .struct _ | .array _ _ => true | _ => false) = true) (hi : (P.info? ty).map (·.size) = some cs.size) (hi2 : (P.info? ty).map (·.size) = some cs2.size) :
    (results fn tmps).run P w = .ok (.tuple #[.agg cs, .agg cs2]) w := by
  rw [results_cell_cell h, hp, hq]
  simp [asAddr, run_loadVar_row w g t ty cs fr d hg hu hd hi, run_loadVar_row w g2 t2 ty cs2 fr2 d hg2 hu hd hi2, Result.andThen]

structure TwRel (w : World) (b m : Nat) (W : World) : Prop where
  res2 : Blk W w.heap.size 26 ((List.replicate 8 0).map u16)
  res3 : Blk W (w.heap.size + 1) 26 ((List.replicate 8 0).map u16)
  src : SrcAt W b m
  grow : w.grownBy W (some b)
theorem TwRel.size {w W : World} {b m : Nat} (h : TwRel w b m W) : w.heap.size + 2 ≤ W.heap.size := by have := h.res3.lt; omega
theorem TwRel.start (w : World) (b m : Nat) (h : SrcAt w b m) : TwRel w b m ((w.alloc (.cells ((List.replicate 8 0).map u16).toArray 26)).alloc (.cells ((List.replicate 8 0).map u16).toArray 26)) := by
  have hk2 := (Blk.new w 26 ((List.replicate 8 0).map u16)).alloc (.cells ((List.replicate 8 0).map u16).toArray 26)
  have hk3 := Blk.new (w.alloc (.cells ((List.replicate 8 0).map u16).toArray 26)) 26 ((List.replicate 8 0).map u16)
  rw [World.size_alloc] at hk3
  have hB := below_two w (.cells ((List.replicate 8 0).map u16).toArray 26) (.cells ((List.replicate 8 0).map u16).toArray 26)
  exact ⟨hk2, hk3, h.next hB, grown_below hB⟩
theorem TwRel.step {w W W' : World} {b m m' : Nat} (h : TwRel w b m W) (hb : b < w.heap.size) (hs : SrcAt W' b m') (hg : W.grownBy W' (some b)) : TwRel w b m' W' :=
  ⟨h.res2.grown hg (by simp; omega), h.res3.grown hg (by simp; omega), hs, grownBy_trans h.grow hg⟩
theorem TwRel.below {w W W' : World} {b m : Nat} (h : TwRel w b m W) (hb : Below W.heap.size W W') : TwRel w b m W' :=
  ⟨h.res2.next hb, h.res3.next hb, h.src.next hb, grownBy_trans h.grow (grown_below hb)⟩
theorem TwRel.le {w W : World} {b m m' : Nat} (h : TwRel w b m W) (hm : m ≤ m') : TwRel w b m' W := ⟨h.res2, h.res3, h.src.le hm, h.grow⟩
theorem TwRel.other {w W W' : World} {b m g : Nat} (h : TwRel w b m W) (hg : W.grownBy W' (some g)) (h2 : w.heap.size + 2 ≤ g) (hb : b < g) : TwRel w b m W' :=
  ⟨h.res2.grown hg (by simp; omega), h.res3.grown hg (by simp; omega), h.src.grown hg hb, grown_over h.grow hg (by omega)⟩
def DrawR2 (w : World) (b m : Nat) (e : Ending) (w' : World) : Prop := ∃ r s, e = .returned (.tuple #[.agg (R16 r), .agg (R16 s)]) ∧ RubV r ∧ RubV s ∧ SrcAt w' b m ∧ w.grownBy w' (some b)
theorem TwRel.done {w W : World} {b m : Nat} {ra rb : List Nat} (h : TwRel w b m W) (hb : b < w.heap.size) :
    Blk ((W.setRow w.heap.size (R16 ra)).setRow (w.heap.size + 1) (R16 rb)) w.heap.size 26 (ra.map u16) ∧ Blk ((W.setRow w.heap.size (R16 ra)).setRow (w.heap.size + 1) (R16 rb)) (w.heap.size + 1) 26 (rb.map u16) ∧
      SrcAt ((W.setRow w.heap.size (R16 ra)).setRow (w.heap.size + 1) (R16 rb)) b m ∧ w.grownBy ((W.setRow w.heap.size (R16 ra)).setRow (w.heap.size + 1) (R16 rb)) (some b) := by
  have g1 := setRow_grown W w.heap.size (R16 ra)
  have g2 := setRow_grown (W.setRow w.heap.size (R16 ra)) (w.heap.size + 1) (R16 rb)
  exact ⟨(h.res2.setRow_same (ra.map u16)).setRow_other _ (by omega), (h.res3.setRow_other _ (by omega)).setRow_same (rb.map u16), (h.src.grown g1 hb).grown g2 (by omega), grown_over (grown_over h.grow g1 (Nat.le_refl _)) g2 (by omega)⟩
set_option maxHeartbeats 1000000 in
set_option maxRecDepth 100000 in
theorem two_any (b m : Nat) (w : World) (h : SrcAt w b m) (hm : m ≤ 50000) :
    Calls Try.prog 24 #[.pointer (some ⟨b, 0, none⟩)] w (DrawR2 w b (m + 3000)) := by
  have H := Lib.hid h
  have hlt := h.lt
  clear h
  have hR0 := TwRel.start w b m H.out
  go_enter Try.func24, Try.ntmps24
  have HR0 := Lib.hid (show TwRel w b m ((w.alloc (Obj.cells #[Value.int IntKind.u16 0, Value.int IntKind.u16 0, Value.int IntKind.u16 0, Value.int IntKind.u16 0, Value.int IntKind.u16 0, Value.int IntKind.u16 0, Value.int IntKind.u16 0, Value.int IntKind.u16 0] 26)).alloc (Obj.cells #[Value.int IntKind.u16 0, Value.int IntKind.u16 0, Value.int IntKind.u16 0, Value.int IntKind.u16 0, Value.int IntKind.u16 0, Value.int IntKind.u16 0, Value.int IntKind.u16 0, Value.int IntKind.u16 0] 26)) from hR0)
  clear hR0
  go_wp2_with fail
  generalize (w.alloc (Obj.cells #[Value.int IntKind.u16 0, Value.int IntKind.u16 0, Value.int IntKind.u16 0, Value.int IntKind.u16 0, Value.int IntKind.u16 0, Value.int IntKind.u16 0, Value.int IntKind.u16 0, Value.int IntKind.u16 0] 26)).alloc (Obj.cells #[Value.int IntKind.u16 0, Value.int IntKind.u16 0, Value.int IntKind.u16 0, Value.int IntKind.u16 0, Value.int IntKind.u16 0, Value.int IntKind.u16 0, Value.int IntKind.u16 0, Value.int IntKind.u16 0] 26) = W0 at *
  go_at_call 37
  refine (drawn_any b m W0 HR0.out.src (by omega)).mono ?_
  rintro e w1 ⟨ra, rfl, hva, hs1, hg1⟩
  have HVA := Lib.hid hva
  have HR1 := Lib.hid ((HR0.out.step hlt hs1 hg1).below (below_one w1 (.cells (R16 ra) 26)))
  have hkA : Blk (w1.alloc (.cells (R16 ra) 26)) w1.heap.size 26 (ra.map Go.Proofs.Ytgmlhnmjeelajaa.u16) := Blk.new w1 26 (ra.map Go.Proofs.Ytgmlhnmjeelajaa.u16)
  have hgA : w.heap.size + 2 ≤ w1.heap.size := by have := HR0.out.size; have := hg1.size; omega
  have hla := hva.len
  clear hs1 hg1 hva
  go_wp2_with (refine wpList_store_new rfl 26 _ _ rfl (R16 ra) rfl rfl 26 _ (by rw [R16_size, hla]; exact szRub) (by rw [R16_size, hla]; rfl) (one_u16 _) ?_)
  have HKA := Lib.hid hkA
  clear hkA
  generalize hgE : w1.heap.size = gA at *
  have hbA : b < gA := by omega
  clear hgE
  generalize w1.alloc (.cells (R16 ra) 26) = W1 at *
  go_at_call 38
  refine (one_any b _ 3 W1 HR1.out.src (by omega) (by omega)).mono ?_
  rintro e w2 ⟨⟨bx, rfl⟩, hs2, hg2⟩
  have HR2 := Lib.hid (HR1.out.step hlt hs2 hg2)
  have HK2 := Lib.hid (HKA.out.grown hg2 (by simp; omega))
  clear hs2 hg2
  cases bx
  · go_wp2_with fail
    go_at_call 39
    refine (pick_any b _ 7 w2 HR2.out.src (by omega) (by omega)).mono ?_
    rintro e w3 ⟨dx, rfl, x0, x1, hs3, hg3⟩
    have HR3 := Lib.hid (HR2.out.step hlt hs3 hg3)
    have HK3 := Lib.hid (HK2.out.grown hg3 (by simp; omega))
    have hsx : IntKind.i64.wrap (dx - 3) = dx - 3 := IntWalk.i64_in _ (by omega)
    clear hs3 hg3 HR2 HK2
    go_wp2_with fail
    go_at_call 39
    refine (pick_any b _ 5 w3 HR3.out.src (by omega) (by omega)).mono ?_
    rintro e w4 ⟨dy, rfl, y0, y1, hs4, hg4⟩
    have HR4 := Lib.hid (HR3.out.step hlt hs4 hg4)
    have HK4 := Lib.hid (HK3.out.grown hg4 (by simp; omega))
    have hsy : IntKind.i64.wrap (dy - 2) = dy - 2 := IntWalk.i64_in _ (by omega)
    clear hs4 hg4 HR3 HK3
    go_wp2_with fail
    go_at_call 36
    refine (l07Move_any ⟨gA, 0, none⟩ ra (dx - 3) (dy - 2) w4 hla (Blk.row (enc := Go.Proofs.Ytgmlhnmjeelajaa.u16) HK4.out) (by omega) (by omega)).mono ?_
    rintro e w5 ⟨rfl, hb5⟩
    obtain ⟨rb, hrb⟩ : ∃ rb, rb = movR ra (dx - 3) (dy - 2) := ⟨_, rfl⟩
    have HVB := Lib.hid (show RubV rb by rw [hrb]; exact ⟨movR_length _ _ _, gridR_lt _⟩)
    have hlb := HVB.out.len
    rw [← hrb]
    clear hrb
    have HR5 := Lib.hid ((HR4.out.below hb5).below (below_one w5 (.cells (R16 rb) 26)))
    have HK5 := Lib.hid ((HK4.out.next hb5).next (below_one w5 (.cells (R16 rb) 26)))
    have hkB : Blk (w5.alloc (.cells (R16 rb) 26)) w5.heap.size 26 (rb.map Go.Proofs.Ytgmlhnmjeelajaa.u16) := Blk.new w5 26 (rb.map Go.Proofs.Ytgmlhnmjeelajaa.u16)
    have hgB : gA < w5.heap.size := by have := HK4.out.lt; have := hb5.size; omega
    clear hb5 HR4 HK4
    go_wp2_with (refine wpList_store_new rfl 26 _ _ rfl (R16 rb) rfl rfl 26 _ (by rw [R16_size, hlb]; exact szRub) (by rw [R16_size, hlb]; rfl) (one_u16 _) ?_)
    have HKB := Lib.hid hkB
    clear hkB
    generalize w5.heap.size = gB at *
    generalize w5.alloc (.cells (R16 rb) 26) = W5 at *
    go_at_call 39
    refine (pick_any b _ 8 W5 HR5.out.src (by omega) (by omega)).mono ?_
    rintro e w6 ⟨row, rfl, r0, r1, hs6, hg6⟩
    have HR6 := Lib.hid (HR5.out.step hlt hs6 hg6)
    have HK6 := Lib.hid (HK5.out.grown hg6 (by simp; omega))
    have HKB6 := Lib.hid (HKB.out.grown hg6 (by simp; omega))
    clear hs6 hg6 HR5 HK5 HKB
    go_wp2_with fail
    go_at_call 39
    refine (pick_any b _ 65536 w6 HR6.out.src (by omega) (by omega)).mono ?_
    rintro e w7 ⟨val, rfl, v0, v1, hs7, hg7⟩
    have HR7 := Lib.hid (HR6.out.step hlt hs7 hg7)
    have HK7 := Lib.hid (HK6.out.grown hg7 (by simp; omega))
    have hkB7 := HKB6.out.grown hg7 (by simp; omega)
    clear hs7 hg7 HR6 HK6 HKB6
    obtain ⟨Y, rfl⟩ := Int.eq_ofNat_of_zero_le r0
    obtain ⟨V, rfl⟩ := Int.eq_ofNat_of_zero_le v0
    have hY : Y < 8 := by omega
    have hcv : IntKind.u16.wrap (V : Int) = (V : Int) := IntWalk.u16_in _ (by omega)
    have hcl := hkB7.cell Y _ (map_u16_at rb Y (by rw [hlb]; exact hY))
    have hfr := hkB7.free Y
    have hg8 : w7.grownBy (w7.setCell ⟨gB, Y, none⟩ (.int .u16 (V : Int))) (some gB) := grown_one
    have HRB8 := Lib.hid (HVB.out.set Y V (by omega))
    have HKB8 := Lib.hid (show Blk (w7.setCell ⟨gB, Y, none⟩ (.int .u16 (V : Int))) gB 26 ((rb.set Y V).map Go.Proofs.Ytgmlhnmjeelajaa.u16) by rw [List.map_set]; exact hkB7.set Y _)
    have HR8 := Lib.hid (HR7.out.other hg8 (by have := HR7.out.size; have := HR0.out.size; omega) (by omega))
    have HK8 := Lib.hid (HK7.out.grown hg8 (by simp; omega))
    clear hg8 hkB7 HR7 HK7
    go_wp2_with fail
    generalize w7.setCell ⟨gB, Y, none⟩ (.int .u16 (V : Int)) = W8 at *
    generalize rb.set Y V = rc at *
    have hlc := HRB8.out.len
    have HR9 := Lib.hid (HR8.out.below (below_drewN (Below.refl W8.heap.size W8) 1))
    refine heldS_begin (S := fun w' => Blk w' gA 26 (ra.map Go.Proofs.Ytgmlhnmjeelajaa.u16) ∧ Blk w' gB 26 (rc.map Go.Proofs.Ytgmlhnmjeelajaa.u16)) (by kernel_rfl) ?_
    have hS : Blk W8.drew gA 26 (ra.map Go.Proofs.Ytgmlhnmjeelajaa.u16) ∧ Blk W8.drew gB 26 (rc.map Go.Proofs.Ytgmlhnmjeelajaa.u16) := ⟨HK8.out, HKB8.out⟩
    have hz9 := HR0.out.size
    refine heldS_take 0 (.agg (ra.map Go.Proofs.Ytgmlhnmjeelajaa.u16).toArray) rfl (by kernel_rfl) (by kernel_rfl) (by kernel_rfl) (fun _ _ _ h => h) (by kernel_rfl) (fun w' hw' => exec_load_row 26 (.tmp 4) rfl (gA) (by kernel_rfl) 26 (ra.map Go.Proofs.Ytgmlhnmjeelajaa.u16).toArray _ _ (hw'.1) Try.underlying26 rfl (by rw [List.size_toArray, List.length_map, hla]; exact szRub)) hS ?_
    refine heldS_take 1 (.agg (rc.map Go.Proofs.Ytgmlhnmjeelajaa.u16).toArray) rfl (by kernel_rfl) (by kernel_rfl) (by kernel_rfl) (fun _ _ _ h => h) (by kernel_rfl) (fun w' hw' => exec_load_row 26 (.tmp 7) rfl (gB) (by kernel_rfl) 26 (rc.map Go.Proofs.Ytgmlhnmjeelajaa.u16).toArray _ _ (hw'.2) Try.underlying26 rfl (by rw [List.size_toArray, List.length_map, hlc]; exact szRub)) hS ?_
    refine heldS_skip 2 (W8.drew.setRow w.heap.size (R16 ra)) rfl (by kernel_rfl) (by kernel_rfl) (exec_store_row 26 (.tmp 2) (.tmp 30) rfl w.heap.size (R16 ra) (by kernel_rfl) (by kernel_rfl) 26 _ HR9.out.res2 (by rw [R16_size, hla]; exact szRub) (by rw [R16_size, hla]; rfl) (one_u16 _)) ⟨hS.1.setRow_other _ (by omega), hS.2.setRow_other _ (by omega)⟩ ?_
    refine heldS_skip 3 ((W8.drew.setRow w.heap.size (R16 ra)).setRow (w.heap.size + 1) (R16 rc)) rfl (by kernel_rfl) (by kernel_rfl) (exec_store_row 26 (.tmp 3) (.tmp 31) rfl (w.heap.size + 1) (R16 rc) (by kernel_rfl) (by kernel_rfl) 26 _ (HR9.out.res3.setRow_other _ (by omega)) (by rw [R16_size, hlc]; exact szRub) (by rw [R16_size, hlc]; rfl) (one_u16 _)) ⟨(hS.1.setRow_other _ (by omega)).setRow_other _ (by omega), (hS.2.setRow_other _ (by omega)).setRow_other _ (by omega)⟩ ?_
    refine held_done (by kernel_rfl) ?_
    simp only [Act.put, List.setIfInBounds_toArray, List.set_cons_succ, List.set_cons_zero]
    obtain ⟨e1, e2, e3, e4⟩ := HR9.out.done (ra := ra) (rb := rc) hlt
    go_simp
    apply_assumption
    go_wp2
    exact bodyPost_ret (v := .tuple #[.agg (R16 ra), .agg (R16 rc)]) (results_row_row rfl _ _ w.heap.size (w.heap.size + 1) 26 26 (R16 ra) (R16 rc) _ _ _ rfl rfl e1 e2 Try.underlying26 rfl (by rw [R16_size, hla]; exact szRub) (by rw [R16_size, hlc]; exact szRub)) rfl ⟨ra, rc, rfl, HVA.out, HRB8.out, e3.le (by omega), e4⟩
  · go_wp2_with fail
    refine heldS_begin (S := fun w' => Blk w' gA 26 (ra.map Go.Proofs.Ytgmlhnmjeelajaa.u16)) (by kernel_rfl) ?_
    have hS : Blk w2.drew gA 26 (ra.map Go.Proofs.Ytgmlhnmjeelajaa.u16) := HK2.out
    refine heldS_take 0 (.agg (ra.map Go.Proofs.Ytgmlhnmjeelajaa.u16).toArray) rfl (by kernel_rfl) (by kernel_rfl) (by kernel_rfl) (fun _ _ _ h => h) (by kernel_rfl) (fun w' hw' => exec_load_row 26 (.tmp 4) rfl (gA) (by kernel_rfl) 26 (ra.map Go.Proofs.Ytgmlhnmjeelajaa.u16).toArray _ _ (hw') Try.underlying26 rfl (by rw [List.size_toArray, List.length_map, hla]; exact szRub)) hS ?_
    refine heldS_take 1 (.pointer (some ⟨b, 0, none⟩)) rfl (by kernel_rfl) (by kernel_rfl) (by kernel_rfl) (fun _ _ _ h => h) (by kernel_rfl) (fun w' hw' => by kernel_rfl) hS ?_
    refine heldS_call 2 37 #[.pointer (some ⟨b, 0, none⟩)] rfl (by kernel_rfl) (by kernel_rfl) (by kernel_rfl) ?_
    have HR3 := Lib.hid (HR2.out.below (below_drewN (Below.refl w2.heap.size w2) 1))
    refine (drawn_any b _ w2.drew (show SrcAt w2.drew b (m + 1000 + 2) from HR3.out.src) (by omega)).mono ?_
    rintro e w4 ⟨rb, rfl, hvb, hs4, hg4⟩
    have hS := hS.grown hg4 (by simp; omega)
    have HR4 := Lib.hid (HR3.out.step hlt hs4 hg4)
    have hlb := hvb.len
    refine ⟨_, rfl, hS, ?_⟩
    refine heldS_skip 3 (w4.setRow w.heap.size (ra.map Go.Proofs.Ytgmlhnmjeelajaa.u16).toArray) rfl (by kernel_rfl) (by kernel_rfl) (exec_store_row 26 (.tmp 2) (.tmp 12) rfl w.heap.size (ra.map Go.Proofs.Ytgmlhnmjeelajaa.u16).toArray (by kernel_rfl) (by kernel_rfl) 26 _ HR4.out.res2 (by rw [List.size_toArray, List.length_map, hla]; exact szRub) (by rw [List.size_toArray, List.size_toArray, List.length_map, List.length_map, hla]; rfl) (one_u16 _)) (hS.setRow_other _ (by have := HR0.out.size; omega)) ?_
    refine heldS_skip 4 ((w4.setRow w.heap.size (R16 ra)).setRow (w.heap.size + 1) (R16 rb)) rfl (by kernel_rfl) (by kernel_rfl) (exec_store_row 26 (.tmp 3) (.tmp 14) rfl (w.heap.size + 1) (R16 rb) (by kernel_rfl) (by kernel_rfl) 26 _ (HR4.out.res3.setRow_other _ (by omega)) (by rw [R16_size, hlb]; exact szRub) (by rw [R16_size, hlb]; rfl) (one_u16 _)) ((hS.setRow_other _ (by have := HR0.out.size; omega)).setRow_other _ (by have := HR0.out.size; omega)) ?_
    refine held_done (by kernel_rfl) ?_
    simp only [Act.put, List.setIfInBounds_toArray, List.set_cons_succ, List.set_cons_zero]
    obtain ⟨e1, e2, e3, e4⟩ := HR4.out.done (ra := ra) (rb := rb) hlt
    go_simp
    apply_assumption
    go_wp2
    exact bodyPost_ret (v := .tuple #[.agg (R16 ra), .agg (R16 rb)]) (results_row_row rfl _ _ w.heap.size (w.heap.size + 1) 26 26 (R16 ra) (R16 rb) _ _ _ rfl rfl e1 e2 Try.underlying26 rfl (by rw [R16_size, hla]; exact szRub) (by rw [R16_size, hlb]; exact szRub)) rfl ⟨ra, rb, rfl, HVA.out, hvb, e3.le (by omega), e4⟩

/-- Two rubbings of zeros, at g and behind it. -/
structure Zer2 (w : World) (g : Nat) (W : World) : Prop where
  res2 : Blk W g 26 ((List.replicate 8 0).map u16)
  res3 : Blk W (g + 1) 26 ((List.replicate 8 0).map u16)
  below : Below w.heap.size w W
  base : w.heap.size ≤ g
theorem Zer2.size {w W : World} {g : Nat} (h : Zer2 w g W) : g + 2 ≤ W.heap.size := by have := h.res3.lt; omega
theorem zeros_two (w : World) : Zer2 w w.heap.size ((w.alloc (.cells ((List.replicate 8 0).map u16).toArray 26)).alloc (.cells ((List.replicate 8 0).map u16).toArray 26)) := by
  have hk2 := (Blk.new w 26 ((List.replicate 8 0).map u16)).alloc (.cells ((List.replicate 8 0).map u16).toArray 26)
  have hk3 := Blk.new (w.alloc (.cells ((List.replicate 8 0).map u16).toArray 26)) 26 ((List.replicate 8 0).map u16)
  rw [World.size_alloc] at hk3
  exact ⟨hk2, hk3, below_two _ _ _, Nat.le_refl _⟩
theorem Zer2.next {w W W' : World} {g : Nat} (h : Zer2 w g W) (hb : Below W.heap.size W W') : Zer2 w g W' := ⟨h.res2.next hb, h.res3.next hb, below_step h.below hb, h.base⟩
theorem below_grow {B b : Nat} {w0 w w' : World} (hb : Below B w0 w) (h : w.grownBy w' (some b)) (hq : B ≤ b) (hB : B ≤ w.heap.size) : Below B w0 w' :=
  hb.trans ⟨h.os, h.tape, h.output, h.size, fun k hk => h.block k (by omega) (by intro e; injection e with e; omega)⟩
theorem Zer2.grown {w W W' : World} {g b : Nat} (h : Zer2 w g W) (hg : W.grownBy W' (some b)) (hb : g + 2 ≤ b) : Zer2 w g W' :=
  ⟨h.res2.grown hg (by simp; omega), h.res3.grown hg (by simp; omega), below_grow h.below hg (by have := h.base; omega) h.below.size, h.base⟩
theorem Zer2.done {w W : World} {ra rb : List Nat} (h : Zer2 w w.heap.size W) :
    Blk ((W.setRow w.heap.size (R16 ra)).setRow (w.heap.size + 1) (R16 rb)) w.heap.size 26 (ra.map u16) ∧ Blk ((W.setRow w.heap.size (R16 ra)).setRow (w.heap.size + 1) (R16 rb)) (w.heap.size + 1) 26 (rb.map u16) ∧
      Below w.heap.size w ((W.setRow w.heap.size (R16 ra)).setRow (w.heap.size + 1) (R16 rb)) :=
  ⟨(h.res2.setRow_same (ra.map u16)).setRow_other _ (by omega), (h.res3.setRow_other _ (by omega)).setRow_same (rb.map u16), below_setRow (below_setRow h.below _ _ (Nat.le_refl _)) _ _ (by omega)⟩
set_option maxHeartbeats 1000000 in
set_option maxRecDepth 100000 in
theorem like_any (A : Option Addr) (n c : Nat) (xs : List Int) (w : World) (hn : xs.length = n) (hl : n ≤ 3000) (hs : SlE u8 w A xs) (hy : Byt xs) :
    Calls Try.prog 5 #[.slice A n c] w fun e w' => ∃ r s, (e = .returned (.tuple #[.agg (R16 r), .agg (R16 s)]) ∧ RubV r ∧ RubV s) ∧ Below w.heap.size w w' := by
  have HS := Lib.hid hs
  have HY := Lib.hid hy
  have HN := Lib.hid hn
  clear hs hy hn
  go_enter Try.func5, Try.ntmps5
  have hR0 := zeros_two w
  have HR0 := Lib.hid (show Zer2 w w.heap.size ((w.alloc (Obj.cells #[Value.int IntKind.u16 0, Value.int IntKind.u16 0, Value.int IntKind.u16 0, Value.int IntKind.u16 0, Value.int IntKind.u16 0, Value.int IntKind.u16 0, Value.int IntKind.u16 0, Value.int IntKind.u16 0] 26)).alloc (Obj.cells #[Value.int IntKind.u16 0, Value.int IntKind.u16 0, Value.int IntKind.u16 0, Value.int IntKind.u16 0, Value.int IntKind.u16 0, Value.int IntKind.u16 0, Value.int IntKind.u16 0, Value.int IntKind.u16 0] 26)) from hR0)
  clear hR0
  go_wp2_with fail
  generalize (w.alloc (Obj.cells #[Value.int IntKind.u16 0, Value.int IntKind.u16 0, Value.int IntKind.u16 0, Value.int IntKind.u16 0, Value.int IntKind.u16 0, Value.int IntKind.u16 0, Value.int IntKind.u16 0, Value.int IntKind.u16 0] 26)).alloc (Obj.cells #[Value.int IntKind.u16 0, Value.int IntKind.u16 0, Value.int IntKind.u16 0, Value.int IntKind.u16 0, Value.int IntKind.u16 0, Value.int IntKind.u16 0, Value.int IntKind.u16 0, Value.int IntKind.u16 0] 26) = W0 at *
  have HB0 := Lib.hid HR0.out.below
  go_at_call 23
  refine (from_any A n c xs W0 HN.out (by omega) (HS.out.next HB0.out) HY.out).mono ?_
  rintro e w1 ⟨b, rfl, hb, hs1, hb1⟩
  have HR1 := Lib.hid (HR0.out.next hb1)
  have hbz : w.heap.size + 2 ≤ b := by have := HR0.out.size; omega
  have hs1b := hs1.lt
  clear hb1
  go_wp2_with fail
  go_at_call 24
  refine (two_any b 0 w1 hs1 (by omega)).mono ?_
  rintro e w2 ⟨ra, rb, rfl, hva, hvb, hs2, hg2⟩
  have HR2 := Lib.hid (HR1.out.grown hg2 hbz)
  have hz2 := HR2.out.size
  have hla := hva.len
  have hlb := hvb.len
  clear hs1 hs2 hg2
  have hq0 := zeros_two w2
  have HQ0 := Lib.hid (show Zer2 w2 w2.heap.size ((w2.alloc (Obj.cells #[Value.int IntKind.u16 0, Value.int IntKind.u16 0, Value.int IntKind.u16 0, Value.int IntKind.u16 0, Value.int IntKind.u16 0, Value.int IntKind.u16 0, Value.int IntKind.u16 0, Value.int IntKind.u16 0] 26)).alloc (Obj.cells #[Value.int IntKind.u16 0, Value.int IntKind.u16 0, Value.int IntKind.u16 0, Value.int IntKind.u16 0, Value.int IntKind.u16 0, Value.int IntKind.u16 0, Value.int IntKind.u16 0, Value.int IntKind.u16 0] 26)) from hq0)
  have HR3 := Lib.hid (HR2.out.next HQ0.out.below)
  clear hq0
  have hq2 := HQ0.out.res2
  have hq3 := HQ0.out.res3.setRow_other (g := w2.heap.size) (R16 ra) (by omega)
  obtain ⟨hq4, hq5, _⟩ := HQ0.out.done (ra := ra) (rb := rb)
  have HQ4 := Lib.hid hq4
  have HQ5 := Lib.hid hq5
  have HR4 := Lib.hid ((HR3.out.grown (setRow_grown _ w2.heap.size (R16 ra)) (by omega)).grown (setRow_grown _ (w2.heap.size + 1) (R16 rb)) (by omega))
  clear hq4 hq5
  go_wp2_with (first
    | (refine wpList_store_row rfl 26 (.tmp 5) (.tmp 12) rfl _ (R16 ra) rfl rfl 26 _ hq2 (by rw [R16_size, hla]; exact szRub) (by rw [R16_size, hla]; rfl) (one_u16 _) ?_)
    | (refine wpList_store_row rfl 26 (.tmp 6) (.tmp 13) rfl _ (R16 rb) rfl rfl 26 _ hq3 (by rw [R16_size, hlb]; exact szRub) (by rw [R16_size, hlb]; rfl) (one_u16 _) ?_))
  generalize (((w2.alloc (Obj.cells #[Value.int IntKind.u16 0, Value.int IntKind.u16 0, Value.int IntKind.u16 0, Value.int IntKind.u16 0, Value.int IntKind.u16 0, Value.int IntKind.u16 0, Value.int IntKind.u16 0, Value.int IntKind.u16 0] 26)).alloc (Obj.cells #[Value.int IntKind.u16 0, Value.int IntKind.u16 0, Value.int IntKind.u16 0, Value.int IntKind.u16 0, Value.int IntKind.u16 0, Value.int IntKind.u16 0, Value.int IntKind.u16 0, Value.int IntKind.u16 0] 26)).setRow w2.heap.size (R16 ra)).setRow (w2.heap.size + 1) (R16 rb) = W8 at *
  clear hq2 hq3
  have HR9 := Lib.hid (HR4.out.next (below_drewN (Below.refl W8.heap.size W8) 1))
  refine heldS_begin (S := fun w' => Blk w' w2.heap.size 26 (ra.map Go.Proofs.Ytgmlhnmjeelajaa.u16) ∧ Blk w' (w2.heap.size + 1) 26 (rb.map Go.Proofs.Ytgmlhnmjeelajaa.u16)) (by kernel_rfl) ?_
  have hS : Blk W8.drew w2.heap.size 26 (ra.map Go.Proofs.Ytgmlhnmjeelajaa.u16) ∧ Blk W8.drew (w2.heap.size + 1) 26 (rb.map Go.Proofs.Ytgmlhnmjeelajaa.u16) := ⟨HQ4.out, HQ5.out⟩
  refine heldS_take 0 (.agg (ra.map Go.Proofs.Ytgmlhnmjeelajaa.u16).toArray) rfl (by kernel_rfl) (by kernel_rfl) (by kernel_rfl) (fun _ _ _ h => h) (by kernel_rfl) (fun w' hw' => exec_load_row 26 (.tmp 5) rfl (w2.heap.size) (by kernel_rfl) 26 (ra.map Go.Proofs.Ytgmlhnmjeelajaa.u16).toArray _ _ (hw'.1) Try.underlying26 rfl (by rw [List.size_toArray, List.length_map, hla]; exact szRub)) hS ?_
  refine heldS_take 1 (.agg (rb.map Go.Proofs.Ytgmlhnmjeelajaa.u16).toArray) rfl (by kernel_rfl) (by kernel_rfl) (by kernel_rfl) (fun _ _ _ h => h) (by kernel_rfl) (fun w' hw' => exec_load_row 26 (.tmp 6) rfl ((w2.heap.size + 1)) (by kernel_rfl) 26 (rb.map Go.Proofs.Ytgmlhnmjeelajaa.u16).toArray _ _ (hw'.2) Try.underlying26 rfl (by rw [List.size_toArray, List.length_map, hlb]; exact szRub)) hS ?_
  refine heldS_skip 2 (W8.drew.setRow w.heap.size (R16 ra)) rfl (by kernel_rfl) (by kernel_rfl) (exec_store_row 26 (.tmp 2) (.tmp 14) rfl w.heap.size (R16 ra) (by kernel_rfl) (by kernel_rfl) 26 _ HR9.out.res2 (by rw [R16_size, hla]; exact szRub) (by rw [R16_size, hla]; rfl) (one_u16 _)) ⟨hS.1.setRow_other _ (by omega), hS.2.setRow_other _ (by omega)⟩ ?_
  refine heldS_skip 3 ((W8.drew.setRow w.heap.size (R16 ra)).setRow (w.heap.size + 1) (R16 rb)) rfl (by kernel_rfl) (by kernel_rfl) (exec_store_row 26 (.tmp 3) (.tmp 15) rfl (w.heap.size + 1) (R16 rb) (by kernel_rfl) (by kernel_rfl) 26 _ (HR9.out.res3.setRow_other _ (by omega)) (by rw [R16_size, hlb]; exact szRub) (by rw [R16_size, hlb]; rfl) (one_u16 _)) ⟨(hS.1.setRow_other _ (by omega)).setRow_other _ (by omega), (hS.2.setRow_other _ (by omega)).setRow_other _ (by omega)⟩ ?_
  refine held_done (by kernel_rfl) ?_
  simp only [Act.put, List.setIfInBounds_toArray, List.set_cons_succ, List.set_cons_zero]
  obtain ⟨e1, e2, e3⟩ := HR9.out.done (ra := ra) (rb := rb)
  go_simp
  apply_assumption
  go_wp2
  exact bodyPost_ret (v := .tuple #[.agg (R16 ra), .agg (R16 rb)]) (results_row_row rfl _ _ w.heap.size (w.heap.size + 1) 26 26 (R16 ra) (R16 rb) _ _ _ rfl rfl e1 e2 Try.underlying26 rfl (by rw [R16_size, hla]; exact szRub) (by rw [R16_size, hlb]; exact szRub)) rfl ⟨ra, rb, ⟨rfl, hva, hvb⟩, e3⟩
end Go.Proofs.Ytgmlhnmjeelajaa
