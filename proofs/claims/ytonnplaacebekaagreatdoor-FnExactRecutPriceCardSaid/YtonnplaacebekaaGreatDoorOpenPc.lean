/- Prices that came in are opened, and copied by the law. -/
import Derived.Test.YtonnplaacebekaaGreatDoorPcP
import Derived.Test.YtonnplaacebekaaGreatDoorGC
import Derived.Test.YtonnplaacebekaaGreatDoorGE

namespace Go.Proofs.YtonnplaacebekaaGreatDoor
open Go Go.RowKit Go.ChangeShapes Go.WideShapes Go.ChangeAt Go.Deep
set_option linter.unusedVariables false
set_option linter.unusedSimpArgs false

section
variable {H : Type} {enc : TypeId × Value → H} {P : Program} {w : World} {base : Nat} {spare : Nat → Bool} {held : Bool}
theorem trod_i16b {t : TypeId} {fuel : Nat} {cs : List Value} {x : DataW H × List MemPlace} (ht : P.underlying t = some (.int .i16)) (h : DataW.trod enc P w base spare held fuel t cs = some x) : ∃ n : Int, cs = [.int .i16 n] ∧ -32768 ≤ n ∧ n ≤ 32767 := by
  obtain ⟨n, hc, _, hw⟩ := DataW.trod_int ht h
  simp [Lit.wf, IntKind.min, IntKind.max, IntKind.bits, IntKind.signed] at hw
  exact ⟨n, hc, by omega, by omega⟩
theorem trod_i16s {t e : TypeId} {n fuel : Nat} {cs : List Value} {x : DataW H × List MemPlace} (ht : P.underlying t = some (.array n e)) (he : P.underlying e = some (.int .i16)) (hce : P.cellsOf e = 1) (hct : P.cellsOf t = n)
    (h : DataW.trod enc P w base spare held fuel t cs = some x) : ∃ xs : List Int, cs = xs.map i16v ∧ xs.length = n ∧ ∀ i, i < n → -32768 ≤ rdI xs i ∧ rdI xs i ≤ 32767 := by
  obtain ⟨ys, m, _, _, hl, hyl, hel⟩ := DataW.trod_array ht h
  have hl' : cs.length = n := by rw [← hct]; exact hl
  have hone : ∀ i, i < n → ∃ x : Int, cs[i]? = some (.int .i16 x) ∧ -32768 ≤ x ∧ x ≤ 32767 := by
    intro i hi
    have h1 := hel i hi
    rw [hce, Nat.mul_one] at h1
    have hcut : (cs.drop i).take 1 = [cs[i]'(by omega)] := by
      rw [List.drop_eq_getElem_cons (by omega)]; rfl
    rw [hcut, List.getElem?_eq_getElem (by omega)] at h1
    obtain ⟨x, hx, h2, h3⟩ := trod_i16b he h1
    refine ⟨x, ?_, h2, h3⟩
    rw [List.getElem?_eq_getElem (by omega)]
    simpa using hx
  obtain ⟨g, hg⟩ := choose_lt hone
  refine ⟨(List.range n).map g, ?_, by simp, fun i hi => ?_⟩
  · apply List.ext_getElem?
    intro i
    by_cases hi : i < n
    · rw [(hg i hi).1, List.getElem?_map, List.getElem?_map, List.getElem?_range hi]; rfl
    · rw [List.getElem?_eq_none (by omega), List.getElem?_eq_none (by simp; omega)]
  · have : rdI ((List.range n).map g) i = g i := by simp [rdI, List.getD, List.getElem?_map, List.getElem?_range hi]
    rw [this]
    exact (hg i hi).2
end
set_option maxRecDepth 100000 in
theorem open_prices {H : Type} {enc : TypeId × Value → H} {w : World} {base : Nat} {spare : Nat → Bool} {held : Bool} {r : Reach} {b0 : Nat} {v : Value} {d : DataW H} {p : List MemPlace}
    (hv : Value.okWide Tryz.prog w r b0 30 v) (h : DataW.Trod enc Tryz.prog w base spare held 30 v d p) :
    ∃ q : Pc, v = .agg (pcV q).toArray ∧ PcT q := by
  obtain ⟨cs, rfl, hsz⟩ := okWide_struct Tryz.underlying30 hv
  obtain ⟨l⟩ := cs
  obtain ⟨fuel, hf⟩ := h
  obtain ⟨xs, m, _, _, hcl, hlen, hg⟩ := DataW.trod_struct Tryz.underlying30 hf
  have hl : l.length = 29 := hcl
  have c26 : Tryz.prog.cellsOf 28 = 26 := by kernel_rfl
  have c8 : Tryz.prog.cellsOf 27 = 1 := by kernel_rfl
  have g0 := hg 0 _ rfl
  have g1 := hg 1 _ rfl
  have g2 := hg 2 _ rfl
  have g3 := hg 3 _ rfl
  have hx : xs.length = 4 := hlen
  match xs, hx with
  | [y0, y1, y2, y3], _ =>
  have g0 : DataW.trod enc Tryz.prog w base spare held m 28 (l.take 26) = some y0 := by simpa [c26, Value.cells] using g0
  have g1 : DataW.trod enc Tryz.prog w base spare held m 27 ((l.drop 26).take 1) = some y1 := by simpa [c8, Value.cells] using g1
  have g2 : DataW.trod enc Tryz.prog w base spare held m 27 ((l.drop 27).take 1) = some y2 := by simpa [c8, Value.cells] using g2
  have g3 : DataW.trod enc Tryz.prog w base spare held m 27 ((l.drop 28).take 1) = some y3 := by simpa [c8, Value.cells] using g3
  obtain ⟨ws, hw1, hw2, hw3⟩ := trod_i16s Tryz.underlying28 Tryz.underlying27 c8 c26 g0
  obtain ⟨a, ha1, ha2, ha3⟩ := trod_i16b Tryz.underlying27 g1
  obtain ⟨b, hb1, hb2, hb3⟩ := trod_i16b Tryz.underlying27 g2
  obtain ⟨c, hc1, hc2, hc3⟩ := trod_i16b Tryz.underlying27 g3
  have e1 : l = l.take 26 ++ ((l.drop 26).take 1 ++ ((l.drop 27).take 1 ++ (l.drop 28).take 1)) := by
    have a1 := List.take_append_drop 26 l
    have a2 : l.drop 26 = (l.drop 26).take 1 ++ l.drop 27 := by rw [← List.drop_drop (i := 1) (j := 26)]; exact (List.take_append_drop 1 _).symm
    have a3 : l.drop 27 = (l.drop 27).take 1 ++ l.drop 28 := by rw [← List.drop_drop (i := 1) (j := 27)]; exact (List.take_append_drop 1 _).symm
    have a4 : (l.drop 28).take 1 = l.drop 28 := List.take_of_length_le (by simp; omega)
    rw [a4, ← a3, ← a2, a1]
  refine ⟨⟨ws, a, b, c⟩, ?_, ⟨hw2, hw3, ⟨ha2, ha3⟩, ⟨hb2, hb3⟩, ⟨hc2, hc3⟩⟩⟩
  rw [e1, hw1, ha1, hb1, hc1]; rfl

/-! ### The law's copy -/
theorem sz26h : (Tryz.prog.info? 28).map (·.size) = some 26 := by kernel_rfl
theorem szPcL : (Tryz.prog.info? 30).map (·.size) = some 29 := by kernel_rfl
structure ToI16Rel (r : List Int) (w wr : World) (k : Nat) : Prop where
  arg : Blk wr w.heap.size 28 (r.map i16v)
  res : Blk wr (w.heap.size + 1) 28 (List.replicate 26 (.int .i16 0))
  out : Blk wr (w.heap.size + 1 + 1) 28 (filled (r.map i16v) (.int .i16 0) k)
  below : Below w.heap.size w wr
theorem map_i16_at (r : List Int) (i : Nat) (hi : i < r.length) : (r.map i16v)[i]? = some (.int .i16 (rdI r i)) := by
  simp [List.getElem?_map, List.getElem?_eq_getElem hi, i16v, rdI]
set_option maxRecDepth 100000 in
theorem toI16_any (r : List Int) (w : World) (hr : r.length = 26) :
    Calls Tryz.prog 28 #[.agg (r.map i16v).toArray] w fun e w' => e = .returned (.agg (r.map i16v).toArray) ∧ Below w.heap.size w w' := by
  have hsz : (r.map i16v).toArray.size = 26 := by simp [hr]
  go_enter Tryz.func28, Tryz.ntmps28
  go_wp2
  go_loopw [4] (fun i wr => ∃ k : Nat, k ≤ 26 ∧ i = .int .i64 k ∧ ToI16Rel r w wr k) (fun i _ => 26 - (intOf i).toNat)
  case atStart =>
    refine ⟨0, by omega, rfl, ?_, ?_, ?_, ?_⟩
    · exact ((Blk.new w _ _).alloc _).alloc _
    · exact (Blk.at_new _ _ _ (by simp) _ _ rfl).alloc _
    · rw [filled_zero, List.length_map, hr]
      exact Blk.at_new _ _ _ (by simp) _ _ rfl
    · exact (((Below.refl _ _).alloc (Nat.le_refl _) _).alloc (by simp) _).alloc (by simp; omega) _
  case round =>
    obtain ⟨k, hk, rfl, h⟩ := hrel
    by_cases hlt : k < 26
    · have hc1 := h.arg.cell k _ (map_i16_at r k (by omega))
      have hc3 := h.out.cell k _ (filled_at _ _ k (by simp; omega))
      have hf3 := h.out.free k
      go_wp2
      go_roundw
      case rel =>
        refine ⟨k + 1, by omega, by go_num, h.arg.other _ _ (by simp; omega), h.res.other _ _ (by simp), ?_, h.below.setCell (by simp; omega) _⟩
        have := h.out.set k (.int .i16 (rdI r k))
        rwa [filled_set _ _ _ _ (map_i16_at r k (by omega))] at this
      case measure => simp [intOf]; omega
    · obtain rfl : k = 26 := by omega
      have hout : Blk wr (w.heap.size + 1 + 1) 28 (r.map i16v) := by
        have := h.out
        rwa [show 26 = (r.map i16v).length by simp [hr], filled_all] at this
      go_wp2_with (first
        | (refine wpList_load_row rfl 28 _ rfl _ rfl 28 (r.map i16v).toArray _ _ hout Tryz.underlying28 rfl (by rw [hsz]; exact sz26h) ?_)
        | (refine wpList_store_row rfl 28 _ _ rfl _ (r.map i16v).toArray rfl rfl 28 _ h.res (by rw [hsz]; exact sz26h) (by rw [hsz]; rfl) (one_i16 r) ?_))
      exact bodyPost_ret (v := .agg (r.map i16v).toArray) (results_cell_row rfl _ _ _ 28 (r.map i16v).toArray _ _ rfl (h.res.setRow_same (r.map i16v)) Tryz.underlying28 rfl (by rw [hsz]; exact sz26h)) rfl ⟨rfl, below_setRow h.below _ _ (by omega)⟩

def zPc : List Value := List.replicate 29 (.int .i16 0)
theorem pc_build1 {p : Pc} (h : PcT p) : zPc.take 0 ++ p.lett.map i16v ++ zPc.drop (0 + (p.lett.map i16v).length) = p.lett.map i16v ++ [Value.int .i16 0, Value.int .i16 0, Value.int .i16 0] := by
  have : (p.lett.map i16v).length = 26 := by simp [h.len]
  rw [this]
  simp [zPc]
theorem pc_build2 {p : Pc} (h : PcT p) : (((p.lett.map i16v ++ [Value.int .i16 0, Value.int .i16 0, Value.int .i16 0]).set 26 (.int .i16 p.gold)).set 27 (.int .i16 p.base)).set 28 (.int .i16 p.fill) = pcV p := by
  have h1 : (p.lett.map i16v).length = 26 := by simp [h.len]
  unfold pcV
  rw [List.set_append_right _ _ (by omega), List.set_append_right _ _ (by omega), List.set_append_right _ _ (by omega), h1]
  rfl
theorem pcV_head {p : Pc} (h : PcT p) : ((pcV p).drop 0).take 26 = p.lett.map i16v := by
  unfold pcV; rw [List.drop_zero, List.take_left' (by simp [h.len])]
set_option maxHeartbeats 2000000 in
set_option maxRecDepth 100000 in
theorem toPrices_any (p : Pc) (w : World) (hp : PcT p) :
    Calls Tryz.prog 9 #[.agg (pcV p).toArray] w fun e w' => e = .returned (.agg (pcV p).toArray) ∧ Below w.heap.size w w' := by
  have k0 : Blk (((w.alloc (.cells (pcV p).toArray 30)).alloc (.cells zPc.toArray 38)).alloc (.cells zPc.toArray 38)) w.heap.size 30 (pcV p) := ((Blk.new w _ _).alloc _).alloc _
  have k1 : Blk (((w.alloc (.cells (pcV p).toArray 30)).alloc (.cells zPc.toArray 38)).alloc (.cells zPc.toArray 38)) (w.heap.size + 1) 38 zPc := (Blk.at_new _ _ _ (by simp) _ _ rfl).alloc _
  have k2 : Blk (((w.alloc (.cells (pcV p).toArray 30)).alloc (.cells zPc.toArray 38)).alloc (.cells zPc.toArray 38)) (w.heap.size + 1 + 1) 38 zPc := Blk.at_new _ _ _ (by simp) _ _ rfl
  have hB := below_three w (.cells (pcV p).toArray 30) (.cells zPc.toArray 38) (.cells zPc.toArray 38)
  have hsz : (pcV p).toArray.size = 29 := by simp [pcV_length hp]
  go_enter Tryz.func9, Tryz.ntmps9
  go_wp2_with (refine wpList_load_mid rfl 28 (.tmp 4) rfl w.heap.size 0 rfl (p.lett.map i16v) _ (by have := k0.range 0 26; rwa [pcV_head hp] at this) Tryz.underlying28 rfl (by rw [List.length_map, hp.len]; exact sz26h) ?_)
  go_at_call 28
  refine (toI16_any p.lett _ hp.len).mono ?_
  rintro e w1 ⟨rfl, hb⟩
  have k0 := k0.next hb
  have k1 := k1.next hb
  have k2 := k2.next hb
  have hB := below_step hB hb
  clear hb
  go_wp2_with (refine wpList_store_blk rfl 28 (.tmp 7) (.tmp 6) rfl (w.heap.size + 1 + 1) 0 rfl (p.lett.map i16v) rfl (by rw [List.length_map, hp.len]; exact sz26h) (one_i16 _) 38 zPc k2 (by rw [List.length_map, hp.len]; decide) _ (pc_build1 hp) ?_; intro w2 hs; have k0 := hs.other _ _ _ (by omega) k0; have k1 := hs.other _ _ _ (by omega) k1; have k2 := hs.blk; have hB := hs.below _ _ hB (by omega); clear hs; have c26 := k0.cell 26 _ (pcV_gold hp); have c27 := k0.cell 27 _ (pcV_base hp); have c28 := k0.cell 28 _ (pcV_fill hp); have d26 := k2.cell 26 (.int .i16 0) (by rw [List.getElem?_append_right (by simp [hp.len])]; simp [hp.len]); have d27 := k2.cell 27 (.int .i16 0) (by rw [List.getElem?_append_right (by simp [hp.len])]; simp [hp.len]); have d28 := k2.cell 28 (.int .i16 0) (by rw [List.getElem?_append_right (by simp [hp.len])]; simp [hp.len]); have f26 := k2.free 26; have f27 := k2.free 27; have f28 := k2.free 28; go_wp2_with (refine wpList_load_row rfl 38 (.tmp 3) rfl (w.heap.size + 1 + 1) rfl 38 (pcV p).toArray _ _ (by have k3 := ((k2.set 26 (.int .i16 p.gold)).set 27 (.int .i16 p.base)).set 28 (.int .i16 p.fill); rw [pc_build2 hp] at k3; exact k3) Tryz.underlying38 rfl (by rw [hsz]; exact szPcI) ?_; have k1 := ((k1.other ⟨w.heap.size + 1 + 1, 26, none⟩ (.int .i16 p.gold) (by simp)).other ⟨w.heap.size + 1 + 1, 27, none⟩ (.int .i16 p.base) (by simp)).other ⟨w.heap.size + 1 + 1, 28, none⟩ (.int .i16 p.fill) (by simp); have hB := ((hB.setCell (by simp; omega : w.heap.size ≤ (⟨w.heap.size + 1 + 1, 26, none⟩ : Addr).block) (.int .i16 p.gold)).setCell (by simp; omega : w.heap.size ≤ (⟨w.heap.size + 1 + 1, 27, none⟩ : Addr).block) (.int .i16 p.base)).setCell (by simp; omega : w.heap.size ≤ (⟨w.heap.size + 1 + 1, 28, none⟩ : Addr).block) (.int .i16 p.fill); go_wp2_with (refine wpList_store_row rfl 38 (.tmp 2) (.tmp 17) rfl _ (pcV p).toArray rfl rfl 38 _ k1 (by rw [hsz]; exact szPcI) (by rw [hsz]; rfl) (one_pc p) ?_)))
  exact bodyPost_ret (v := .agg (pcV p).toArray) (results_cell_row rfl _ _ _ 38 (pcV p).toArray _ _ rfl (k1.setRow_same (pcV p)) Tryz.underlying38 rfl (by rw [hsz]; exact szPcI)) rfl ⟨rfl, below_setRow hB _ _ (by omega)⟩
end Go.Proofs.YtonnplaacebekaaGreatDoor
