/- Contracts: two faces are compared; a face's pairs are marked. -/
import Derived.Test.YtjgflkoefimmoaaDoorFcE
import Derived.BigRegion
namespace Go.Proofs.YtjgflkoefimmoaaDoor
open Go Go.RowKit
set_option linter.unusedVariables false
set_option linter.unusedSimpArgs false

structure EqI8Rel (r : List Int) (w wr : World) : Prop where
  one : Blk wr w.heap.size 23 (r.map i8v)
  two : Blk wr (w.heap.size + 1) 23 (r.map i8v)
  below : Below w.heap.size w wr
set_option maxRecDepth 100000 in
theorem eqI8_same (r : List Int) (w : World) (hr : r.length = 26) :
    Calls Tryd.prog 48 #[.agg (r.map i8v).toArray, .agg (r.map i8v).toArray] w fun e w' => e = .returned (.bool true) ∧ Below w.heap.size w w' := by
  go_enter Tryd.func48, Tryd.ntmps48
  go_wp2
  go_loopw [5] (fun i wr => ∃ k : Nat, k ≤ 26 ∧ i = .int .i64 k ∧ EqI8Rel r w wr) (fun i _ => 26 - (intOf i).toNat)
  case atStart =>
    refine ⟨0, by omega, rfl, ?_, ?_, ?_⟩
    · exact (Blk.new w _ _).alloc _
    · exact Blk.at_new _ _ _ (by simp) _ _ rfl
    · exact ((Below.refl _ _).alloc (Nat.le_refl _) _).alloc (by simp) _
  case round =>
    obtain ⟨k, hk, rfl, h⟩ := hrel
    by_cases hlt : k < 26
    · have hc1 := h.one.cell k _ (map_i8_at r k (by omega))
      have hc2 := h.two.cell k _ (map_i8_at r k (by omega))
      have he : (rdI r k != rdI r k) = false := by simp
      go_wp2
      go_quiet (fail)
      go_wp2
      go_roundw
      case rel => exact ⟨k + 1, by omega, by go_num, h.one.drewN _, h.two.drewN _, below_drewN h.below _⟩
      case measure => simp [intOf]; omega
    · obtain rfl : k = 26 := by omega
      go_wp2
      go_ret
      exact ⟨rfl, h.below⟩

set_option maxRecDepth 100000 in
theorem eqPair_same (p : Pr) (w : World) :
    Calls Tryd.prog 81 #[.agg (prV p).toArray, .agg (prV p).toArray] w fun e w' => e = .returned (.bool true) ∧ Below w.heap.size w w' := by
  obtain ⟨a, b, y⟩ := p
  have e : (prV ⟨a, b, y⟩).toArray = #[.int .u8 a, .int .u8 b, .int .i8 y] := rfl
  rw [e]
  have h1 : (a != a) = false := by simp
  have h2 : (b != b) = false := by simp
  have h3 : (y != y) = false := by simp
  go_enter Tryd.func81, Tryd.ntmps81
  go_wp2
  go_ret
  exact ⟨rfl, below_two _ _ _⟩

set_option maxHeartbeats 1000000 in
set_option maxRecDepth 100000 in
theorem eqPairS_same (A B : Option Addr) (c d : Nat) (ps : List Pr) (n : Nat) (w : World) (hn : ps.length = n) (hm : n ≤ 1048576) (h1 : SlP w A ps) (h2 : SlP w B ps) :
    Calls Tryd.prog 49 #[.slice A n c, .slice B n d] w fun e w' => e = .returned (.bool true) ∧ Below w.heap.size w w' := by
  have HN := Lib.hid hn
  have H1 := Lib.hid h1
  have H2 := Lib.hid h2
  have h0 : ((n : Int) != (n : Int)) = false := by simp
  clear hn h1 h2
  go_enter Tryd.func49, Tryd.ntmps49
  go_wp2
  go_loopw [5] (fun i wr => ∃ k : Nat, k ≤ n ∧ i = .int .i64 k ∧ Below w.heap.size w wr) (fun i _ => n - (intOf i).toNat)
  case atStart => exact ⟨0, by omega, rfl, Below.refl _ _⟩
  case round =>
    obtain ⟨k, hk, rfl, hbel⟩ := hrel
    by_cases hlt : k < n
    · obtain ⟨a, rfl, hr1⟩ := (H1.out.next hbel).get k (by rw [HN.out]; omega)
      obtain ⟨b, rfl, hr2⟩ := (H2.out.next hbel).get k (by rw [HN.out]; omega)
      go_wp2
      refine region_below (wr.heap.size) (by kernel_rfl) (by kernel_rfl) ?_
      refine below_run (by kernel_rfl) (.slice (some a) n c) (fun w' hw' => by kernel_rfl) ?_
      refine below_run (by kernel_rfl) (.int .i64 k) (fun w' hw' => by kernel_rfl) ?_
      refine below_run (by kernel_rfl) (.pointer (some (Addr.add a (k * 3)))) (fun w' hw' => exec_index 31 (.tmp 17) (.tmp 18) rfl a n c (by kernel_rfl) .i64 k (by kernel_rfl) hlt 96 Tryd.underlying31 3 szPrI) ?_
      refine below_run (by kernel_rfl) (.agg (prV (rdP ps k)).toArray) (fun w' hw' => exec_loadV 96 (.tmp 19) rfl (a.add (k * 3)) (by kernel_rfl) (prV (rdP ps k)) _ (hr1.next hw') Tryd.underlying96 rfl szPrI) ?_
      refine below_run (by kernel_rfl) (.slice (some b) n d) (fun w' hw' => by kernel_rfl) ?_
      refine below_run (by kernel_rfl) (.int .i64 k) (fun w' hw' => by kernel_rfl) ?_
      refine below_run (by kernel_rfl) (.pointer (some (Addr.add b (k * 3)))) (fun w' hw' => exec_index 31 (.tmp 21) (.tmp 22) rfl b n d (by kernel_rfl) .i64 k (by kernel_rfl) hlt 96 Tryd.underlying31 3 szPrI) ?_
      refine below_run (by kernel_rfl) (.agg (prV (rdP ps k)).toArray) (fun w' hw' => exec_loadV 96 (.tmp 23) rfl (b.add (k * 3)) (by kernel_rfl) (prV (rdP ps k)) _ (hr2.next hw') Tryd.underlying96 rfl szPrI) ?_
      refine below_call (by kernel_rfl) 81 #[.agg (prV (rdP ps k)).toArray, .agg (prV (rdP ps k)).toArray] (.bool true) (fun w' => by kernel_rfl) (fun w' hw' => (eqPair_same (rdP ps k) w').mono fun e w1 ⟨he, hb1⟩ => ⟨he, below_step hw' hb1⟩) ?_
      refine below_run (by kernel_rfl) (.bool false) (fun w' hw' => by kernel_rfl) ?_
      refine wpQuiet_nil ?_
      intro W1 hW1
      simp only [Act.put, List.setIfInBounds_toArray, List.set_cons_succ, List.set_cons_zero]
      have hbel := below_step hbel hW1
      clear hr1 hr2 hW1
      go_wp2
      go_roundw
      case rel => exact ⟨k + 1, by omega, by go_num, hbel⟩
      case measure => simp [intOf]; omega
    · obtain rfl : k = n := by omega
      go_wp2
      go_ret
      exact ⟨rfl, hbel⟩

set_option maxHeartbeats 1000000 in
set_option maxRecDepth 100000 in
theorem eqFace_same (f : Fc) (A B : Option Addr) (c d : Nat) (n : Nat) (w : World) (hf : FcT f) (hn : f.pairs.length = n) (hm : n ≤ 1048576) (h1 : SlP w A f.pairs) (h2 : SlP w B f.pairs) :
    Calls Tryd.prog 17 #[.agg (fcV f (.slice A n c)).toArray, .agg (fcV f (.slice B n d)).toArray] w fun e w' => e = .returned (.bool true) ∧ Below w.heap.size w w' := by
  have k0 : Blk ((w.alloc (.cells (fcV f (.slice A n c)).toArray 33)).alloc (.cells (fcV f (.slice B n d)).toArray 33)) w.heap.size 33 (fcV f (.slice A n c)) := (Blk.new w _ _).alloc _
  have k1 : Blk ((w.alloc (.cells (fcV f (.slice A n c)).toArray 33)).alloc (.cells (fcV f (.slice B n d)).toArray 33)) (w.heap.size + 1) 33 (fcV f (.slice B n d)) := Blk.at_new _ _ _ (by simp) _ _ rfl
  have hB := below_two w (.cells (fcV f (.slice A n c)).toArray 33) (.cells (fcV f (.slice B n d)).toArray 33)
  have H1 := Lib.hid h1
  have H2 := Lib.hid h2
  have HN := Lib.hid hn
  clear h1 h2 hn
  have e1 : (f.space != f.space) = false := by simp
  have e2 : (f.gap != f.gap) = false := by simp
  go_enter Tryd.func17, Tryd.ntmps17
  go_wp2_with (first
    | (refine wpList_load_mid rfl 23 (.tmp 5) rfl w.heap.size 0 rfl (f.wide.map i8v) _ (by have := k0.range 0 26; rwa [fcV_head hf] at this) Tryd.underlying23 rfl (by rw [List.length_map, hf.len]; exact sz26) ?_)
    | (refine wpList_load_mid rfl 23 (.tmp 7) rfl (w.heap.size + 1) 0 rfl (f.wide.map i8v) _ (by have := k1.range 0 26; rwa [fcV_head hf] at this) Tryd.underlying23 rfl (by rw [List.length_map, hf.len]; exact sz26) ?_))
  go_at_call 48
  refine (eqI8_same f.wide _ hf.len).mono ?_
  rintro e w1 ⟨rfl, hb⟩
  have k0 := k0.next hb
  have k1 := k1.next hb
  have hB := below_step hB hb
  have c26 := k0.cell 26 _ (fcV_space hf _)
  have c27 := k0.cell 27 _ (fcV_gap hf _)
  have c28 := k0.cell 28 _ (fcV_pairs hf _)
  have d26 := k1.cell 26 _ (fcV_space hf _)
  have d27 := k1.cell 27 _ (fcV_gap hf _)
  have d28 := k1.cell 28 _ (fcV_pairs hf _)
  clear hb k0 k1
  go_wp2_with fail
  go_at_call 49
  refine (eqPairS_same A B c d f.pairs n _ HN.out hm (H1.out.next hB) (H2.out.next hB)).mono ?_
  rintro e w2 ⟨rfl, hb⟩
  have hB := below_step hB hb
  clear hb c26 c27 c28 d26 d27 d28
  go_wp2
  go_ret
  exact ⟨rfl, hB⟩
end Go.Proofs.YtjgflkoefimmoaaDoor
