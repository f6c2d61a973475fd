/- Contracts: a face is copied, whole. -/
import Derived.Test.YtjgflkoefimmoaaDoorFcC
namespace Go.Proofs.YtjgflkoefimmoaaDoor
open Go Go.RowKit
set_option linter.unusedVariables false
set_option linter.unusedSimpArgs false

theorem infoPr : (Tryd.prog.info? 96).map (fun i => (i.zero, i.size, i.bytes)) = some (some (.agg #[.int .u8 0, .int .u8 0, .int .i8 0]), 3, 3) := by kernel_rfl

structure ToPrRel (ps : List Pr) (vs : List Value) (w wr : World) (j : Nat) : Prop where
  blk : Blk wr w.heap.size 96 (prVs (ps.take j) ++ vs.drop (j * 3))
  below : Below w.heap.size w wr
theorem toPr_set {ps : List Pr} {vs : List Value} {j : Nat} (hj : j < ps.length) (hv : ps.length * 3 ≤ vs.length) :
    (prVs (ps.take j) ++ vs.drop (j * 3)).take (j * 3) ++ (prV (rdP ps j)).toArray.toList ++ (prVs (ps.take j) ++ vs.drop (j * 3)).drop (j * 3 + (prV (rdP ps j)).toArray.toList.length) = prVs (ps.take (j + 1)) ++ vs.drop ((j + 1) * 3) := by
  have hl : (prVs (ps.take j)).length = j * 3 := by rw [prVs_length, List.length_take, Nat.min_eq_left (by omega)]
  rw [List.take_append_of_le_length (by omega), List.take_of_length_le (by omega)]
  rw [List.take_add_one, rdP_at hj, prVs_append]
  have e1 : (prV (rdP ps j)).toArray.toList = prVs [rdP ps j] := by simp [prVs]
  have e2 : (prVs [rdP ps j]).length = 3 := by rw [prVs_length]; rfl
  show _ = prVs (ps.take j) ++ prVs [rdP ps j] ++ vs.drop ((j + 1) * 3)
  rw [e1, e2, List.drop_append, hl, List.drop_of_length_le (by omega), List.nil_append, List.drop_drop]
  congr 2
  omega

set_option maxHeartbeats 1000000 in
set_option maxRecDepth 100000 in
theorem toPairS_any (A : Option Addr) (c : Nat) (ps : List Pr) (n : Nat) (w : World) (hn : ps.length = n) (hm : n ≤ 1048576) (h : SlP w A ps) :
    Calls Tryd.prog 44 #[.slice A n c] w fun e w' => ∃ g cs, e = .returned (.slice (some ⟨g, 0, none⟩) n n) ∧ w.heap.size ≤ g ∧ Blk w' g 96 (prVs ps ++ cs) ∧ Below w.heap.size w w' := by
  have HN := Lib.hid hn
  have H := Lib.hid h
  clear hn h
  obtain ⟨i, hi, hz, hsz, hby⟩ := info_parts infoPr
  go_enter Tryd.func44, Tryd.ntmps44
  go_wp2_with (refine wpList_make_full _ rfl (.tmp 6) (.tmp 6) _ rfl w.heap.size 96 i (.agg #[.int .u8 0, .int .u8 0, .int .i8 0]) 3 Tryd.underlying31 hi hz hsz .i64 .i64 (n : Int) (n : Int) n rfl rfl rfl rfl (by rw [hby]; omega) (by unfold maxLen; omega) (Nat.le_refl _) ?_; intro w1 ho hg)
  obtain ⟨hvl, cs, hb⟩ := ownB ho
  have hB : Below w.heap.size w w1 := ⟨hg.os, hg.tape, hg.output, hg.size, fun k hk => hg.block k hk (by simp)⟩
  generalize hv : (madeCells (Value.agg #[.int .u8 0, .int .u8 0, .int .i8 0]).cells (n * 3)).toList ++ cs = vs at *
  have hvn : n * 3 ≤ vs.length := by rw [← hv, List.length_append]; omega
  clear hv ho hvl hg
  go_loopw [4] (fun i wr => ∃ j : Nat, j ≤ n ∧ i = .int .i64 j ∧ ToPrRel ps vs w wr j) (fun i _ => n - (intOf i).toNat)
  case atStart => exact ⟨0, by omega, rfl, by simpa [prVs] using hb, hB⟩
  case round =>
    clear hb hB
    obtain ⟨j, hj, rfl, hr⟩ := hrel
    by_cases hlt : j < n
    · obtain ⟨a, rfl, hrow⟩ := (H.out.next hr.below).get j (by rw [HN.out]; omega)
      have hbk := hr.blk
      have hbel := hr.below
      have hl := prVs_length (ps.take j)
      rw [List.length_take, HN.out, Nat.min_eq_left (by omega)] at hl
      have HS := Lib.hid (toPr_set (ps := ps) (vs := vs) (j := j) (by rw [HN.out]; exact hlt) (by rw [HN.out]; exact hvn))
      have HLL := Lib.hid (show j * 3 + 3 ≤ (prVs (ps.take j) ++ vs.drop (j * 3)).length by rw [List.length_append, hl, List.length_drop]; omega)
      clear hr hl
      go_wp2_with (first
        | (refine wpList_loadV rfl 98 (.tmp 18) rfl (a.add (j * 3)) rfl (prV (rdP ps j)) _ hrow Tryd.underlying98 rfl szPrL ?_; clear hrow)
        | (go_at_call 77; refine (toPair_any _ _).mono ?_; rintro e w2 ⟨rfl, hb2⟩; have hbk := hbk.next hb2; have hbel := below_step hbel hb2; clear hb2)
        | (refine wpList_store_mid rfl 96 (.tmp 21) (.tmp 20) rfl w.heap.size (j * 3) (prV (rdP ps j)).toArray rfl rfl (hbk.there (j * 3) 3 HLL.out) szPrI (one_pr _) ?_))
      go_roundw
      case rel =>
        refine ⟨j + 1, by omega, by go_num, ?_, below_setCells _ _ _ hbel (Nat.le_refl _)⟩
        rw [← HS.out]
        exact Blk.setCells _ _ _ _ hbk HLL.out
      case measure => simp [intOf]; omega
    · obtain rfl : j = n := by omega
      have hbk := hr.blk
      have hbel := hr.below
      rw [List.take_of_length_le (by rw [HN.out]; omega)] at hbk
      clear hr
      go_wp2
      go_ret
      exact ⟨_, _, rfl, Nat.le_refl _, hbk, hbel⟩
end Go.Proofs.YtjgflkoefimmoaaDoor
