/- Contracts: a face is copied, whole: the law's own copy. -/
import Derived.Test.YtjgflkoefimmoaaDoorFcD
namespace Go.Proofs.YtjgflkoefimmoaaDoor
open Go Go.RowKit
set_option linter.unusedVariables false
set_option linter.unusedSimpArgs false

def zFc : List Value := List.replicate 28 (.int .i8 0) ++ [.slice none 0 0]
theorem fc_build1 {f : Fc} (h : FcT f) : zFc.take 0 ++ f.wide.map i8v ++ zFc.drop (0 + (f.wide.map i8v).length) = f.wide.map i8v ++ [Value.int .i8 0, Value.int .i8 0, Value.slice none 0 0] := by
  have : (f.wide.map i8v).length = 26 := by simp [h.len]
  rw [this]
  simp [zFc]
theorem fc_build2 {f : Fc} (h : FcT f) (S : Value) : (((f.wide.map i8v ++ [Value.int .i8 0, Value.int .i8 0, Value.slice none 0 0]).set 26 (.int .i8 f.space)).set 27 (.int .i8 f.gap)).set 28 S = fcV f S := by
  have h1 : (f.wide.map i8v).length = 26 := by simp [h.len]
  unfold fcV
  rw [List.set_append_right _ _ (by omega), List.set_append_right _ _ (by omega), List.set_append_right _ _ (by omega), h1]
  rfl
def ToFcOut (w : World) (f : Fc) (n : Nat) (e : Ending) (w' : World) : Prop :=
  ∃ g cs, e = .returned (.agg (fcV f (.slice (some ⟨g, 0, none⟩) n n)).toArray) ∧ w.heap.size ≤ g ∧ Blk w' g 96 (prVs f.pairs ++ cs) ∧ Below w.heap.size w w'

set_option maxHeartbeats 2000000 in
set_option maxRecDepth 100000 in
theorem toFace_any (f : Fc) (A : Option Addr) (n c : Nat) (w : World) (hf : FcT f) (hn : f.pairs.length = n) (hm : n ≤ 1048576) (h : SlP w A f.pairs) :
    Calls Tryd.prog 14 #[.agg (fcV f (.slice A n c)).toArray] w (ToFcOut w f n) := by
  have k0 : Blk (((w.alloc (.cells (fcV f (.slice A n c)).toArray 26)).alloc (.cells zFc.toArray 33)).alloc (.cells zFc.toArray 33)) w.heap.size 26 (fcV f (.slice A n c)) := ((Blk.new w _ _).alloc _).alloc _
  have k1 : Blk (((w.alloc (.cells (fcV f (.slice A n c)).toArray 26)).alloc (.cells zFc.toArray 33)).alloc (.cells zFc.toArray 33)) (w.heap.size + 1) 33 zFc := (Blk.at_new _ _ _ (by simp) _ _ rfl).alloc _
  have k2 : Blk (((w.alloc (.cells (fcV f (.slice A n c)).toArray 26)).alloc (.cells zFc.toArray 33)).alloc (.cells zFc.toArray 33)) (w.heap.size + 1 + 1) 33 zFc := Blk.at_new _ _ _ (by simp) _ _ rfl
  have hB := below_three w (.cells (fcV f (.slice A n c)).toArray 26) (.cells zFc.toArray 33) (.cells zFc.toArray 33)
  have H := Lib.hid h
  have HN := Lib.hid hn
  clear h hn
  go_enter Tryd.func14, Tryd.ntmps14
  go_wp2_with (first
    | (refine wpList_load_mid rfl 23 (.tmp 4) rfl w.heap.size 0 rfl (f.wide.map i8v) _ (by have := k0.range 0 26; rwa [fcV_head hf] at this) Tryd.underlying23 rfl (by rw [List.length_map, hf.len]; exact sz26) ?_))
  go_at_call 43
  refine (toI8_any f.wide _ hf.len).mono ?_
  rintro e w1 ⟨rfl, hb⟩
  have k0 := k0.next hb
  have k1 := k1.next hb
  have k2 := k2.next hb
  have hB := below_step hB hb
  clear hb
  go_wp2_with (refine wpList_store_blk rfl 23 (.tmp 7) (.tmp 6) rfl (w.heap.size + 1 + 1) 0 rfl (f.wide.map i8v) rfl (by rw [List.length_map, hf.len]; exact sz26) (one_i8 _) 33 zFc k2 (by rw [List.length_map, hf.len]; decide) _ (fc_build1 hf) ?_; intro w2 hs; have k0 := hs.other _ _ _ (by omega) k0; have k1 := hs.other _ _ _ (by omega) k1; have k2 := hs.blk; have hB := hs.below _ _ hB (by omega); clear hs; have c26 := k0.cell 26 _ (fcV_space hf _); have c27 := k0.cell 27 _ (fcV_gap hf _); have c28 := k0.cell 28 _ (fcV_pairs hf _); have d26 := k2.cell 26 (.int .i8 0) (by rw [List.getElem?_append_right (by simp [hf.len])]; simp [hf.len]); have d27 := k2.cell 27 (.int .i8 0) (by rw [List.getElem?_append_right (by simp [hf.len])]; simp [hf.len]); have f26 := k2.free 26; have f27 := k2.free 27)
  have k2 := (k2.set 26 (.int .i8 f.space)).set 27 (.int .i8 f.gap)
  have k1 := (k1.other ⟨w.heap.size + 1 + 1, 26, none⟩ (.int .i8 f.space) (by simp)).other ⟨w.heap.size + 1 + 1, 27, none⟩ (.int .i8 f.gap) (by simp)
  have hB := (hB.setCell (by simp; omega : w.heap.size ≤ (⟨w.heap.size + 1 + 1, 26, none⟩ : Addr).block) (.int .i8 f.space)).setCell (by simp; omega : w.heap.size ≤ (⟨w.heap.size + 1 + 1, 27, none⟩ : Addr).block) (.int .i8 f.gap)
  go_at_call 44
  refine (toPairS_any A c f.pairs n _ HN.out hm (H.out.next hB)).mono ?_
  rintro e w3 ⟨g, cs, rfl, hg, hgb, hb⟩
  have hne : g ≠ w.heap.size + 1 + 1 := by have := k2.lt; omega
  have hne1 : g ≠ w.heap.size + 1 := by have := k1.lt; omega
  have hgw : w.heap.size ≤ g := by have := k2.lt; omega
  have k2 := k2.next hb
  have k1 := k1.next hb
  have hB := below_step hB hb
  clear hb c26 c27 c28 d26 d27 f26 f27 k0
  have d28 := k2.cell 28 (.slice none 0 0) (by rw [List.getElem?_set, List.getElem?_set, List.getElem?_append_right (by simp [hf.len])]; simp [hf.len])
  have f28 := k2.free 28
  have k3 := k2.set 28 (.slice (some ⟨g, 0, none⟩) n n)
  rw [fc_build2 hf] at k3
  have k1 := k1.other ⟨w.heap.size + 1 + 1, 28, none⟩ (.slice (some ⟨g, 0, none⟩) n n) (by simp)
  have hgb := hgb.other ⟨w.heap.size + 1 + 1, 28, none⟩ (.slice (some ⟨g, 0, none⟩) n n) hne
  have hB := hB.setCell (by simp; omega : w.heap.size ≤ (⟨w.heap.size + 1 + 1, 28, none⟩ : Addr).block) (.slice (some ⟨g, 0, none⟩) n n)
  have hsz : (fcV f (.slice (some ⟨g, 0, none⟩) n n)).toArray.size = 29 := by simp [fcV_length hf]
  clear k2
  go_wp2_with (first
    | (refine wpList_load_row rfl 33 (.tmp 3) rfl _ rfl 33 (fcV f (.slice (some ⟨g, 0, none⟩) n n)).toArray _ _ k3 Tryd.underlying33 rfl (by rw [hsz]; exact szFcI) ?_)
    | (refine wpList_store_row rfl 33 (.tmp 2) (.tmp 18) rfl _ (fcV f (.slice (some ⟨g, 0, none⟩) n n)).toArray rfl rfl 33 _ k1 (by rw [hsz]; exact szFcI) (by rw [hsz]; rfl) (one_fc _ _ _ _) ?_))
  exact bodyPost_ret (v := .agg (fcV f (.slice (some ⟨g, 0, none⟩) n n)).toArray) (results_cell_row rfl _ _ _ 33 (fcV f (.slice (some ⟨g, 0, none⟩) n n)).toArray _ _ rfl (k1.setRow_same (fcV f (.slice (some ⟨g, 0, none⟩) n n))) Tryd.underlying33 rfl (by rw [hsz]; exact szFcI)) rfl ⟨g, cs, rfl, hgw, hgb.setRow_other _ hne1, below_setRow hB _ _ (by omega)⟩
end Go.Proofs.YtjgflkoefimmoaaDoor
