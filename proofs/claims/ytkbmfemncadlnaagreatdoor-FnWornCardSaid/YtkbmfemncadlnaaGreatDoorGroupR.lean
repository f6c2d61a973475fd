/- Contracts: a product of small numbers; slices.Repeat of one number . -/
import Derived.Test.YtkbmfemncadlnaaGreatDoorGN
import Derived.Deep.RegionLaw
import Derived.Laws.CopyOwn
import Derived.IntWalk

namespace Go.Proofs.YtkbmfemncadlnaaGreatDoor
open Go Go.RowKit
set_option linter.unusedVariables false
set_option linter.unusedSimpArgs false

set_option maxRecDepth 100000 in
theorem mul64_any (n : Nat) (hn : n ≤ 8) (w : World) : Calls Tryz.prog 96 #[.int .u64 1, .int .u64 (n : Int)] w fun e w' => e = .returned (.tuple #[.int .u64 0, .int .u64 (n : Int)]) ∧ w = w' := by
  have h : n = 0 ∨ n = 1 ∨ n = 2 ∨ n = 3 ∨ n = 4 ∨ n = 5 ∨ n = 6 ∨ n = 7 ∨ n = 8 := by omega
  rcases h with rfl | rfl | rfl | rfl | rfl | rfl | rfl | rfl | rfl
  all_goals
    go_enter Tryz.func96, Tryz.ntmps96
    go_wp2
    go_ret2
    exact ⟨rfl, rfl⟩
set_option maxRecDepth 100000 in
theorem mul_any (n : Nat) (hn : n ≤ 8) (w : World) : Calls Tryz.prog 85 #[.int .u64 1, .int .u64 (n : Int)] w fun e w' => e = .returned (.tuple #[.int .u64 0, .int .u64 (n : Int)]) ∧ w = w' := by
  go_enter Tryz.func85, Tryz.ntmps85
  go_wp2_with (go_at_call 96; refine (mul64_any n hn _).mono ?_; rintro e w' ⟨rfl, rfl⟩)
  go_ret2
  exact ⟨rfl, rfl⟩

/-- The first m cells are x. -/
def RepAt (x : Value) (vs : List Value) (L m : Nat) : Prop := vs.length = L ∧ vs.take m = List.replicate m x
theorem repAt_splice {x : Value} {vs : List Value} {L m q : Nat} (h : RepAt x vs L m) (hq : m + q ≤ L) : RepAt x (splice vs m (List.replicate q x)) L (m + q) := by
  obtain ⟨h1, h2⟩ := h
  unfold splice
  constructor
  · simp [h1]; omega
  · rw [h2, List.length_replicate, ← List.append_assoc, List.replicate_append_replicate, List.take_left' (by simp)]
theorem repAt_at {x : Value} {vs : List Value} {L m j : Nat} (h : RepAt x vs L m) (hj : j < m) : vs[j]? = some x := by
  have := List.getElem?_take_of_lt (l := vs) hj
  rw [← this, h.2]
  simp [hj]
theorem repAt_zero {x : Value} {vs : List Value} : RepAt x vs vs.length 0 := ⟨rfl, by simp⟩
theorem repAt_end {x : Int} {vs : List Value} {L n : Nat} (h : RepAt (i64 x) vs L n) : vs = (List.replicate n x).map i64 ++ vs.drop n := by
  have := List.take_append_drop n vs
  rw [h.2] at this
  rw [List.map_replicate]
  exact this.symm

theorem rep_made {w w1 : World} {n b : Nat} {x : Int} (ho : w1.ownsRow w.heap.size 2 1 (.slice (some ⟨w.heap.size, 0, none⟩) n n) n (madeCells (Value.int .i64 0).cells (n * 1)).toList) (hg : w.grownBy w1 none) (hb : w.cell? ⟨b, 0, none⟩ = some (.int .i64 x)) :
    ∃ vs, Blk w1 w.heap.size 2 vs ∧ n ≤ vs.length ∧ w1.cell? ⟨b, 0, none⟩ = some (.int .i64 x) ∧ Below w.heap.size w w1 := by
  have hB : Below w.heap.size w w1 := ⟨hg.os, hg.tape, hg.output, hg.size, fun k hk => hg.block k hk (by simp)⟩
  obtain ⟨_, hvl, cs, hbk⟩ := own_at ho
  refine ⟨_, hbk, ?_, ?_, hB⟩
  · rw [List.length_append]; omega
  · rw [hB.cell (World.block_lt_of_cell? w _ hb)]; exact hb
theorem rep_cells {w : World} {b n : Nat} {x : Value} (h : w.cell? ⟨b, 0, none⟩ = some x) : ∀ j v, (List.replicate (min n 1) x)[j]? = some v → w.cell? ((⟨b, 0, none⟩ : Addr).add j) = some v := by
  intro j v hv
  rw [List.getElem?_replicate] at hv
  split at hv
  · have : j = 0 := by omega
    subst this
    cases hv
    exact h
  · cases hv

theorem rep_src {wr : World} {g m q L : Nat} {x : Value} {us : List Value} (hbk : Blk wr g 2 us) (h : RepAt x us L m) (hq : q ≤ m) : ∀ j v, (List.replicate q x)[j]? = some v → wr.cell? ((⟨g, 0, none⟩ : Addr).add j) = some v := by
  intro j v hv
  rw [List.getElem?_replicate] at hv
  split at hv
  · cases hv
    have hadd : (⟨g, 0, none⟩ : Addr).add j = ⟨g, j, none⟩ := by unfold Addr.add; split <;> simp_all
    rw [hadd]
    exact hbk.cell j _ (repAt_at h (by omega))
  · cases hv

set_option maxHeartbeats 1000000 in
set_option maxRecDepth 100000 in
/-- slices.Repeat of one number. -/
theorem repeat_any (b n : Nat) (x : Int) (w : World) (hn : n ≤ 8) (hb : w.cell? ⟨b, 0, none⟩ = some (.int .i64 x)) :
    Calls Tryz.prog 64 #[.slice (some ⟨b, 0, none⟩) 1 1, .int .i64 n] w fun e w' => ∃ g cs, e = .returned (.slice (some ⟨g, 0, none⟩) n n) ∧ w.heap.size ≤ g ∧ Blk w' g 2 ((List.replicate n x).map i64 ++ cs) ∧ Below w.heap.size w w' := by
  obtain ⟨i, hi, hz, hsz, hby⟩ := info_parts elI64'.info
  have hc1 : (IntKind.u64.wrap (n : Int)) = (n : Int) := by simp [IntKind.wrap, IntKind.bits, IntKind.signed]; omega
  go_enter Tryz.func64, Tryz.ntmps64
  go_wp2_with (first
    | (go_at_call 85; refine (mul_any n hn _).mono ?_; rintro e w' ⟨rfl, rfl⟩)
    | (refine wpList_make_full _ rfl (.tmp 29) (.tmp 29) _ rfl w.heap.size 2 i (.int .i64 0) 1 Tryz.underlying47 hi hz hsz .i64 .i64 (n : Int) (n : Int) n rfl rfl rfl rfl (by rw [hby]; omega) (by unfold maxLen; omega) (Nat.le_refl _) ?_; intro w1 ho hg; have HF := Lib.hid (rep_made ho hg hb); obtain ⟨vs, hbk, hvn, hcx, hB⟩ := HF.out; clear HF ho hg)
    | (refine wpList_copy_splice rfl (.tmp 31) (.tmp 32) 47 47 rfl 2 Tryz.underlying47 (by kernel_rfl) (some ⟨w.heap.size, 0, none⟩) (some ⟨b, 0, none⟩) n n 1 1 rfl rfl w.heap.size 0 vs 2 hbk (List.replicate (min n 1) (.int .i64 x)) (by rw [List.length_replicate]; show _ = min _ _; omega) (fun _ => ⟨rfl, _, rfl, rep_cells hcx⟩) (by rw [List.length_replicate]; omega) (fun v hv => by rw [List.eq_of_mem_replicate hv]; rfl) w.heap.size w hB (Nat.le_refl _) ?_; intro w2 hg2 hb2))
  have hst : RepAt (.int .i64 x) (splice vs 0 (List.replicate (min n 1) (.int .i64 x))) vs.length (0 + min n 1) := repAt_splice (x := .int .i64 x) repAt_zero (by omega)
  rw [Nat.zero_add] at hst
  clear hbk hcx hB hc1
  go_loopw [8] (fun s wr => ∃ (m : Nat) (us : List Value), s = .int .i64 (m : Int) ∧ m ≤ n ∧ (0 < n → 0 < m) ∧ RepAt (.int .i64 x) us vs.length m ∧ Blk wr w.heap.size 2 us ∧ Below w.heap.size w wr) (fun s _ => n - (intOf s).toNat)
  case atStart => exact ⟨min n 1, _, rfl, by omega, by omega, hst, hg2.out, hb2⟩
  case round =>
    clear hst hg2 hb2 w1
    obtain ⟨m, us, rfl, hmn, hpos, hrep, hbk, hbel⟩ := hrel
    by_cases hlt : m < n
    · have hp := hpos (by omega)
      obtain ⟨q, hq⟩ : ∃ q, q = min m (n - m) := ⟨_, rfl⟩
      have HQ := Lib.hid (repAt_splice (x := .int .i64 x) (q := q) hrep (by omega))
      have HL := Lib.hid hrep.1
      have HE := Lib.hid hq
      have HA := Lib.hid (rep_src (q := q) hbk hrep (by omega))
      have hqm : q ≤ m := by omega
      have hqn : m + q ≤ n := by omega
      have hwr : IntKind.i64.wrap ((m : Int) + (q : Int)) = (m : Int) + (q : Int) := IntWalk.i64_in _ (by omega)
      have hbd : Below w.heap.size w wr.drew := below_drewN hbel 1
      have hq1 : 1 ≤ q := by omega
      have hnm : ¬ n = m := by omega
      clear hrep hpos hq
      go_wp2
      go_region_law (refine step_copy_splice rfl (.tmp 41) (.tmp 44) 47 47 rfl 2 Tryz.underlying47 (by kernel_rfl) (some ⟨w.heap.size, m, none⟩) (some ⟨w.heap.size, 0, none⟩) (n - m) (n - m) m n (by simp [Act.eval, Act.put]) (by simp [Act.eval, Act.put]) w.heap.size m us 2 hbk (List.replicate q (.int .i64 x)) (by rw [List.length_replicate]; show _ = min _ _; rw [HE.out]) (fun _ => ⟨rfl, _, rfl, HA.out⟩) (by rw [List.length_replicate, HL.out]; omega) (fun v hv => by rw [List.eq_of_mem_replicate hv]; rfl) w.heap.size w hbd (Nat.le_refl _) ?_; intro w2 hg2 hb2)
      simp only [List.getElem_toArray, List.getElem_cons_succ, List.getElem_cons_zero]
      go_simp
      go_wp2
      go_roundw
      case rel => exact ⟨m + q, _, by go_num, by omega, by omega, HQ.out, hg2.out, hb2⟩
      case measure => simp [intOf]; omega
    · obtain rfl : m = n := by omega
      go_wp2
      go_ret
      refine ⟨w.heap.size, us.drop m, rfl, Nat.le_refl _, ?_, hbel⟩
      rw [← repAt_end hrep]
      exact hbk
end Go.Proofs.YtkbmfemncadlnaaGreatDoor
