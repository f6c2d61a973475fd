/- Contracts: slices of rubbings are copied and compared; dots dark in many, by the program; JoinRubbings and SureDark, by both. -/
import Derived.Test.YtkfjelbcaolepaaJoinA
import Derived.Test.YtkfjelbcaolepaaRubX
namespace Go.Proofs.Ytkfjelbcaolepaa
open Go Go.RowKit

theorem rangeAt_next {w w' : World} {g o : Nat} {cs : List Value} (h : w.rangeAt g o cs) (hb : Below w.heap.size w w') : w'.rangeAt g o cs := fun j v hv => by
  rw [hb.cell (World.block_lt_of_cell? w _ (h j v hv))]; exact h j v hv
theorem there_next {w w' : World} {g o n : Nat} (h : w.there g o n) (hb : Below w.heap.size w w') : w'.there g o n := fun j hj => by
  obtain ⟨h1, h2⟩ := h j hj
  obtain ⟨u, hu⟩ := Option.isSome_iff_exists.1 h1
  have hlt := World.block_lt_of_cell? w _ hu
  exact ⟨by rw [hb.cell hlt]; exact h1, by rw [World.frozen?_of_block (hb.block _ hlt)]; exact h2⟩
theorem there_own {w : World} {base : Nat} {e : TypeId} {g n c : Nat} {xs : List Value} (h : w.ownsRow base e 8 (.slice (some ⟨g, 0, none⟩) n c) n xs) : w.there g 0 (n * 8) := by
  obtain ⟨hl, h⟩ := h
  rcases h with ⟨h1, _⟩ | ⟨g', cap, cur, h1, hg, hh, hc, hm, hs, ht⟩
  · cases h1
  · cases h1
    intro j hj
    refine ⟨?_, frozen_of_row w g _ _ e hh⟩
    rw [cell_of_row w g _ _ _ _ hh, Array.getElem?_eq_getElem (by rw [hs]; omega)]; rfl

theorem infoRub : (Try.prog.info? 25).map (fun i => (i.zero, i.size, i.bytes)) = some (some (.agg (List.replicate 8 z16).toArray), 8, 16) := by kernel_rfl

structure Copy8Rel (g n : Nat) (rs : List (List Nat)) (w wr : World) (j : Nat) : Prop where
  there : wr.there g 0 (n * 8)
  done : ∀ i, i < j → wr.rangeAt g (i * 8) ((rdR rs i).map u16)
  below : Below w.heap.size w wr
def Copy8Out (w : World) (rs : List (List Nat)) (n : Nat) (e : Ending) (w' : World) : Prop :=
  ∃ g, e = .returned (.slice (some ⟨g, 0, none⟩) n n) ∧ w.heap.size ≤ g ∧ Sl8 w' (some ⟨g, 0, none⟩) rs ∧ Below w.heap.size w w'
theorem sl8_of {w : World} {g : Nat} {rs : List (List Nat)} (h : ∀ i, i < rs.length → w.rangeAt g (i * 8) ((rdR rs i).map u16)) : Sl8 w (some ⟨g, 0, none⟩) rs := by
  intro i r hr
  have hi : i < rs.length := (List.getElem?_eq_some_iff.1 hr).1
  have e : rdR rs i = r := by simp [rdR, List.getD, hr]
  refine ⟨_, rfl, fun j x hx => ?_⟩
  rw [Addr.add_mid, Addr.add_mid, Nat.zero_add]
  exact h i hi j (u16 x) (by rw [e, List.getElem?_map, hx]; rfl)

set_option maxHeartbeats 1000000 in
set_option maxRecDepth 100000 in
theorem toRubbingS_any (A : Option Addr) (c : Nat) (rs : List (List Nat)) (n : Nat) (w : World) (hr : Rubs rs n) (hn : n ≤ 1048576) (h : Sl8 w A rs) :
    Calls Try.prog 42 #[.slice A n c] w (Copy8Out w rs n) := by
  have HR := Lib.hid hr
  have H := Lib.hid h
  clear hr h
  obtain ⟨i, hi, hz, hsz, hby⟩ := info_parts infoRub
  go_enter Try.func42, Try.ntmps42
  go_wp2_with (refine wpList_make_full _ rfl (.tmp 6) (.tmp 6) _ rfl w.heap.size 25 i _ 8 Try.underlying47 hi hz hsz .i64 .i64 (n : Int) (n : Int) n rfl rfl rfl rfl (by rw [hby]; omega) (by unfold maxLen; omega) (Nat.le_refl _) ?_; intro w1 ho hg)
  have hth := there_own ho
  have hB : Below w.heap.size w w1 := ⟨hg.os, hg.tape, hg.output, hg.size, fun k hk => hg.block k hk (by simp)⟩
  clear ho hg
  go_loopw [4] (fun i wr => ∃ j : Nat, j ≤ n ∧ i = .int .i64 j ∧ Copy8Rel w.heap.size n rs w wr j) (fun i _ => n - (intOf i).toNat)
  case atStart => exact ⟨0, by omega, rfl, hth, fun i hi => by omega, hB⟩
  case round =>
    obtain ⟨j, hj, rfl, hrl⟩ := hrel
    have hbel := hrl.below
    by_cases hlt : j < n
    · obtain ⟨a, rfl, hrow⟩ := (H.out.next hbel).some j (by rw [HR.out.len]; omega)
      have hlen := (HR.out.rub j hlt).1
      have hthr := hrl.there
      have HD := Lib.hid hrl.done
      clear hrl
      go_wp2_with (refine wpList_load8 rfl 23 _ rfl _ rfl (rdR rs j) _ hrow Try.underlying23 rfl (by rw [hlen]; exact szArr8) ?_)
      go_at_call 18
      refine (toRub_any (rdR rs j) _ hlen).mono ?_
      rintro e w2 ⟨rfl, hb2⟩
      have hthr := there_next hthr hb2
      have HD2 := Lib.hid (fun i hi => rangeAt_next (HD.out i hi) hb2)
      have hbel := below_step hbel hb2
      have ht8 : w2.there w.heap.size (j * 8) (R16 (rdR rs j)).size := fun q hq => by
        rw [R16_size, hlen] at hq
        have := hthr (j * 8 + q) (by omega)
        rw [Nat.zero_add] at this; exact this
      clear HD hb2 hrow
      go_wp2_with (refine wpList_store_mid rfl 25 _ _ rfl w.heap.size (j * 8) (R16 (rdR rs j)) rfl rfl ht8 (by rw [R16_size, hlen]; exact szRub) (one_u16 _) ?_)
      go_roundw
      case rel =>
        have el : (R16 (rdR rs j)).toList = (rdR rs j).map Go.Proofs.Ytkfjelbcaolepaa.u16 := by simp [R16]
        have hl8 : ((rdR rs j).map Go.Proofs.Ytkfjelbcaolepaa.u16).length = 8 := by simp [hlen]
        rw [el]
        refine ⟨j + 1, by omega, by go_num, World.there_setCells hthr _ _ _, fun i hi => ?_, below_setCells (Nat.le_refl _) _ _ _ hbel⟩
        by_cases e : i = j
        · subst e
          refine World.rangeAt_setCells_same _ _ _ _ ?_
          rw [hl8]; rw [R16_size, hlen] at ht8; exact ht8
        · refine World.rangeAt_setCells_apart (HD2.out i (by omega)) _ _ _ (.inr (.inl ?_))
          have := (HR.out.rub i (by omega)).1
          simp [this]; omega
      case measure => simp [intOf]; omega
    · obtain rfl : j = n := by omega
      have HS := Lib.hid (sl8_of (rs := rs) (fun i hi => hrl.done i (by rw [← HR.out.len]; exact hi)))
      clear hrl
      go_wp2
      go_ret
      exact ⟨w.heap.size, rfl, Nat.le_refl _, HS.out, hbel⟩

theorem run_index8 (p : Addr) (n c k : Nat) (hk : k < n) (w : World) : (Instr.indexAt 47 (.slice (some p) n c) (.int .i64 (k : Int))).run Try.prog w = .ok (.pointer (some (p.add (k * 8)))) w := by
  obtain ⟨i, hi⟩ : ∃ i, Try.prog.info? (Try.prog.elem 47) = some i := Option.isSome_iff_exists.1 (by kernel_rfl)
  rw [run_indexAt_slice w 47 p n c .i64 _ Try.underlying47, if_pos (by omega), run_sizeOf w hi, show Try.prog.cellsOf (Try.prog.elem 47) = 8 by kernel_rfl]
  simp
theorem exec_index8 {o : Oper} {a : Act} {w : World} (x y : Operand) (ho : o.op = .indexAddr 47 x y) (p : Addr) (n c k : Nat) (hx : a.eval x = .slice (some p) n c) (hy : a.eval y = .int .i64 (k : Int)) (hk : k < n) :
    (execOp a.eval o).run Try.prog w = .ok (.value (.pointer (some (p.add (k * 8))))) w := by
  unfold execOp
  simp only [ho, hx, hy, Sem.run_bind, Sem.run_pure, run_index8 p n c k hk w, Result.andThen_ok]

set_option maxHeartbeats 1000000 in
set_option maxRecDepth 100000 in
theorem eqRubbingS_same (A B : Option Addr) (c d : Nat) (rs : List (List Nat)) (n : Nat) (w : World) (hr : Rubs rs n) (hn : n ≤ 1048576) (ha : Sl8 w A rs) (hb : Sl8 w B rs) :
    Calls Try.prog 44 #[.slice A n c, .slice B n d] w fun e w' => e = .returned (.bool true) ∧ Below w.heap.size w w' := by
  have HR := Lib.hid hr
  have HA := Lib.hid ha
  have HB := Lib.hid hb
  have h0 : ((n : Int) != (n : Int)) = false := by simp
  clear hr ha hb
  go_enter Try.func44, Try.ntmps44
  go_wp2
  go_loopw [5] (fun i wr => ∃ k : Nat, k ≤ n ∧ i = .int .i64 k ∧ Below w.heap.size w wr) (fun i _ => n - (intOf i).toNat)
  case atStart => exact ⟨0, by omega, rfl, Below.refl _ w⟩
  case round =>
    obtain ⟨k, hk, rfl, hbel⟩ := hrel
    by_cases hlt : k < n
    · obtain ⟨a, rfl, hr1⟩ := (HA.out.next hbel).some k (by rw [HR.out.len]; omega)
      obtain ⟨b, rfl, hr2⟩ := (HB.out.next hbel).some k (by rw [HR.out.len]; omega)
      have hlen := (HR.out.rub k hlt).1
      go_wp2_with fail
      refine region_below (wr.heap.size) (by kernel_rfl) (by kernel_rfl) ?_
      refine below_run (by kernel_rfl) (.slice (some a) n c) (fun w' hw' => by kernel_rfl) ?_
      refine below_run (by kernel_rfl) (.int .i64 (k : Int)) (fun w' hw' => by kernel_rfl) ?_
      refine below_run (by kernel_rfl) (.pointer (some (a.add (k * 8)))) (fun w' hw' => exec_index8 (.tmp 17) (.tmp 18) rfl a n c k (by kernel_rfl) (by kernel_rfl) hlt) ?_
      refine below_run (by kernel_rfl) (.agg (R16 (rdR rs k))) (fun w' hw' => exec_load8 25 (.tmp 19) rfl (a.add (k * 8)) (by kernel_rfl) (rdR rs k) _ (hr1.next hw') Try.underlying25 rfl (by rw [hlen]; exact szRub)) ?_
      refine below_run (by kernel_rfl) (.slice (some b) n d) (fun w' hw' => by kernel_rfl) ?_
      refine below_run (by kernel_rfl) (.int .i64 (k : Int)) (fun w' hw' => by kernel_rfl) ?_
      refine below_run (by kernel_rfl) (.pointer (some (b.add (k * 8)))) (fun w' hw' => exec_index8 (.tmp 21) (.tmp 22) rfl b n d k (by kernel_rfl) (by kernel_rfl) hlt) ?_
      refine below_run (by kernel_rfl) (.agg (R16 (rdR rs k))) (fun w' hw' => exec_load8 25 (.tmp 23) rfl (b.add (k * 8)) (by kernel_rfl) (rdR rs k) _ (hr2.next hw') Try.underlying25 rfl (by rw [hlen]; exact szRub)) ?_
      refine below_call (by kernel_rfl) 22 #[.agg (R16 (rdR rs k)), .agg (R16 (rdR rs k))] (.bool true) (fun w' => by kernel_rfl) (fun w' hw' => (eqRub_any (rdR rs k) (rdR rs k) w' hlen hlen).mono fun e w1 ⟨he, hb1⟩ => ⟨by rw [he, decide_eq_true rfl], below_step hw' hb1⟩) ?_
      refine below_run (by kernel_rfl) (.bool false) (fun w' hw' => by kernel_rfl) ?_
      refine wpQuiet_nil ?_
      intro W1 hW1
      simp only [Act.put, List.setIfInBounds_toArray, List.set_cons_succ, List.set_cons_zero]
      have hbel := below_step hbel hW1
      go_wp2
      go_roundw
      case rel => exact ⟨k + 1, by omega, by go_num, hbel⟩
      case measure => simp [intOf]; omega
    · obtain rfl : k = n := by omega
      go_wp2
      go_ret
      exact ⟨rfl, hbel⟩
end Go.Proofs.Ytkfjelbcaolepaa
