/- Contracts: a copy of a face is marked. -/
import Derived.Test.YtjgflkoefimmoaaDoorFcF
import Derived.Test.YtjgflkoefimmoaaDoorMark
namespace Go.Proofs.YtjgflkoefimmoaaDoor
open Go Go.RowKit
set_option linter.unusedVariables false
set_option linter.unusedSimpArgs false

theorem Blk.ex {w : World} {b : Nat} {t : TypeId} {vs : List Value} (h : Blk w b t vs) (i : Nat) (hi : i < vs.length) : ∃ v, w.cell? ⟨b, i, none⟩ = some v := ⟨_, h.cell i _ (List.getElem?_eq_getElem hi)⟩
structure MkRel (lo hi g L : Nat) (w wr : World) : Prop where
  blk : ∃ us, us.length = L ∧ Blk wr g 96 us
  wth : Within lo hi w wr
theorem Within.set {lo hi g : Nat} {w w' : World} (h : Within lo hi w w') (h1 : lo ≤ g) (h2 : g < hi) (i : Nat) (v : Value) : Within lo hi w (w'.setCell ⟨g, i, none⟩ v) :=
  ⟨h.os, h.tape, h.output, by simpa using h.size, fun k hk he => by rw [heap_setCell_other w' ⟨g, i, none⟩ k v (fun e => by simp at e; omega)]; exact h.block k hk he⟩

set_option maxHeartbeats 1000000 in
set_option maxRecDepth 100000 in
theorem markPairS_own (lo hi g c n : Nat) (us : List Value) (w : World) (hl : n * 3 ≤ us.length) (hm : n ≤ 1048576) (h1 : lo ≤ g) (h2 : g < hi) (hb : Blk w g 96 us) :
    Calls Tryd.prog 50 #[.slice (some ⟨g, 0, none⟩) n c, .int .i64 1] w fun e w' => (∃ k : Int, e = .returned (.int .i64 k) ∧ 0 ≤ k) ∧ Within lo hi w w' := by
  have h0 : MkRel lo hi g us.length w w := ⟨⟨us, rfl, hb⟩, Within.refl _ _ _⟩
  generalize hL : us.length = L at *
  clear hb hL
  go_enter Tryd.func50, Tryd.ntmps50
  go_wp2
  go_loopw [1, 5] (fun q i wr => ∃ (j : Nat) (k : Int), j ≤ n ∧ i = .int .i64 j ∧ q = .int .i64 k ∧ 0 ≤ k ∧ k ≤ 1 + 3 * (j : Int) ∧ MkRel lo hi g L w wr) (fun _ i _ => n - (intOf i).toNat)
  case atStart => exact ⟨0, 1, by omega, rfl, rfl, by omega, by omega, h0⟩
  case round =>
    clear h0
    obtain ⟨j, k, hj, rfl, rfl, hk0, hk1, h⟩ := hrel
    by_cases hlt : j < n
    · obtain ⟨us, hul, hblk⟩ := h.blk
      have hw := h.wth
      obtain ⟨v0, hc0⟩ := hblk.ex (j * 3) (by omega)
      obtain ⟨v1, hc1⟩ := hblk.ex (j * 3 + 1) (by omega)
      obtain ⟨v2, hc2⟩ := hblk.ex (j * 3 + 2) (by omega)
      have hf0 := hblk.free (j * 3)
      have hf1 := hblk.free (j * 3 + 1)
      have hf2 := hblk.free (j * 3 + 2)
      have HB := Lib.hid hblk
      have HL := Lib.hid hul
      clear h hblk hul
      go_wp2
      go_roundw
      case rel =>
        refine ⟨j + 1, k + 1 + 1 + 1, by omega, by go_num, rfl, by omega, by push_cast; omega, ⟨_, ?_, ((HB.out.set _ _).set _ _).set _ _⟩, ((hw.set h1 h2 _ _).set h1 h2 _ _).set h1 h2 _ _⟩
        simp [HL.out]
      case measure => simp [intOf]; omega
    · obtain rfl : j = n := by omega
      have hw := h.wth
      clear h
      go_wp2
      go_ret
      exact ⟨⟨k, rfl, hk0⟩, hw⟩

set_option maxHeartbeats 1000000 in
set_option maxRecDepth 100000 in
theorem markFace_own (lo hi g c n : Nat) (f : Fc) (cs : List Value) (w : World) (hf : FcT f) (hn : f.pairs.length = n) (hm : n ≤ 1048576) (h1 : lo ≤ g) (h2 : g < hi) (h3 : hi ≤ w.heap.size) (hb : Blk w g 96 (prVs f.pairs ++ cs)) :
    Calls Tryd.prog 18 #[.agg (fcV f (.slice (some ⟨g, 0, none⟩) n c)).toArray, .int .i64 1] w fun e w' => (∃ k : Int, e = .returned (.int .i64 k) ∧ 0 ≤ k) ∧ Within lo hi w w' := by
  have k0 : Blk (w.alloc (.cells (fcV f (.slice (some ⟨g, 0, none⟩) n c)).toArray 33)) w.heap.size 33 (fcV f (.slice (some ⟨g, 0, none⟩) n c)) := Blk.new w _ _
  have hw0 : Within lo hi w (w.alloc (.cells (fcV f (.slice (some ⟨g, 0, none⟩) n c)).toArray 33)) := ⟨rfl, rfl, rfl, by simp, fun k hk _ => Below.heap_alloc w _ k hk⟩
  have c28 := k0.cell 28 _ (fcV_pairs hf _)
  have hb' := hb.alloc (.cells (fcV f (.slice (some ⟨g, 0, none⟩) n c)).toArray 33)
  have hl : n * 3 ≤ (prVs f.pairs ++ cs).length := by rw [List.length_append, prVs_length, hn]; omega
  have HL := Lib.hid hl
  clear k0 hb hl hn
  go_enter Tryd.func18, Tryd.ntmps18
  go_wp2_with fail
  go_at_call 50
  refine (markPairS_own lo hi g c n _ _ HL.out hm h1 h2 hb').mono ?_
  rintro e w1 ⟨⟨k, rfl, hk⟩, hw⟩
  clear c28
  go_wp2
  go_ret
  exact ⟨⟨k, rfl, hk⟩, hw0.trans hw⟩
end Go.Proofs.YtjgflkoefimmoaaDoor
