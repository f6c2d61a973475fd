/- Contracts: a face is valid, by the program; the gap of a pair, by the program. -/
import Derived.Test.YtjgflkoefimmoaaDoorFcU
import Derived.Test.YtjgflkoefimmoaaDoorFcV
import Derived.Test.YtjgflkoefimmoaaDoorTxtI
namespace Go.Proofs.YtjgflkoefimmoaaDoor
open Go Go.RowKit
set_option linter.unusedVariables false
set_option linter.unusedSimpArgs false

theorem let_is (n : Int) (w : World) {v : Bool} (h : isLet n = v) : Calls Tryd.prog 97 #[.int .u8 n] w fun e w' => e = .returned (.bool v) ∧ Below w.heap.size w w' :=
  (letter_impl n w).mono fun e w' ⟨he, hw⟩ => ⟨he.trans (retB h), hw ▸ Below.refl _ _⟩
theorem within_is (n lo hi : Int) (w : World) {v : Bool} (h : inB lo hi n = v) : Calls Tryd.prog 65 #[.int .i64 n, .int .i64 lo, .int .i64 hi] w fun e w' => e = .returned (.bool v) ∧ Below w.heap.size w w' :=
  (withinI_any n lo hi w).mono fun e w' ⟨he, hw⟩ => ⟨he.trans (retB h), hw ▸ Below.refl _ _⟩
/-- The gap is as told: then the first k pairs are as they should be. -/
def Good (f : Fc) (k : Nat) : Prop := inB 0 10 f.gap = true → AllPr f k
theorem good_zero (f : Fc) : Good f 0 := fun _ => allPr_zero f
theorem good_succ {f : Fc} {k : Nat} (h : Good f k) (h1 : isLet (rdP f.pairs k).a = true) (h2 : isLet (rdP f.pairs k).b = true) (h3 : inB (-10) 10 (rdP f.pairs k).y = true) (h4 : ((rdP f.pairs k).y == 0) = false) (h5 : ¬ IntKind.i8.wrap (f.gap + (rdP f.pairs k).y) < 0)
    (h6 : k = 0 ∨ ahead (rdP f.pairs (k - 1)) (rdP f.pairs k) = true) : Good f (k + 1) := fun hg => by
  have b1 := inB_iff.1 hg
  have b2 := inB_iff.1 h3
  rw [IntWalk.i8_in _ (by omega)] at h5
  exact allPr_succ (h hg) (prAt_ok h1 h2 h3 h4 (by omega) h6)
theorem shape_ps {f : Fc} {k : Nat} (hk : k < f.pairs.length) (h3 : inB (-10) 10 (rdP f.pairs k).y = true) (h : IntKind.i8.wrap (f.gap + (rdP f.pairs k).y) < 0) : shapeF f = false := by
  cases hg : inB 0 10 f.gap
  · exact shape_gp hg
  · have b1 := inB_iff.1 hg
    have b2 := inB_iff.1 h3
    rw [IntWalk.i8_in _ (by omega)] at h
    exact shape_pr hk (prAt_s h)
theorem shape_fin {f : Fc} (h1 : AllWd f 26) (h2 : Good f f.pairs.length) : shapeF f = (inB 1 40 f.space && inB 0 10 f.gap) := by
  cases hg : inB 0 10 f.gap
  · rw [shape_gp hg]; simp
  · rw [shape_all h1 (h2 hg), hg]

attribute [local irreducible] wpQuiet in
set_option maxHeartbeats 4000000 in
set_option maxRecDepth 100000 in
theorem isFace_any (f : Fc) (A : Option Addr) (n c : Nat) (w : World) (hf : FcT f) (hn : f.pairs.length = n) (hm : n ≤ 1048576) (hs : SlP w A f.pairs) :
    Calls Tryd.prog 78 #[.agg (fcV f (.slice A n c)).toArray] w fun e w' => e = .returned (.bool (shapeF f)) ∧ Below w.heap.size w w' := by
  have hk := Blk.new w 33 (fcV f (.slice A n c))
  have hB := below_one w (.cells (fcV f (.slice A n c)).toArray 33)
  have HS := Lib.hid hs
  have HN := Lib.hid hn
  have HF := Lib.hid hf
  have tsp := hf.space
  have tgp := hf.gap
  have c28 := hk.cell 28 _ (fcV_pairs hf _)
  have HK := Lib.hid hk
  have hsz : (f.wide.map i8v).length = 26 := by rw [List.length_map, hf.len]
  clear hs hn hf hk
  go_enter Tryd.func78, Tryd.ntmps78
  go_wp2_with (refine wpList_load_mid rfl 23 (.tmp 7) rfl w.heap.size 0 rfl (f.wide.map i8v) _ (by have := HK.out.range 0 26; rwa [fcV_head HF.out] at this) Tryd.underlying23 rfl (by rw [hsz]; exact sz26) ?_)
  obtain ⟨b0, hb0⟩ : ∃ b0, b0 = w.heap.size := ⟨_, rfl⟩
  rw [← hb0] at HK c28 ⊢
  have hbw : w.heap.size ≤ b0 := by omega
  clear hb0 hsz
  generalize w.alloc (.cells (fcV f (.slice A n c)).toArray 33) = W0 at *
  go_loop [9] (fun i => ∃ k : Nat, k ≤ 26 ∧ i = .int .i64 k ∧ AllWd f k) (fun i => 26 - (intOf i).toNat)
  case atStart => exact ⟨0, by omega, rfl, allWd_zero _⟩
  case round =>
    obtain ⟨k, hk, rfl, hr⟩ := hrel
    have HR := Lib.hid hr
    clear hr
    by_cases hlt : k < 26
    · have hix := fun w' : World => run_index_arr (P := Tryd.prog) (t := 23) (e := 22) (n := 26) Tryd.underlying23 (by kernel_rfl) (by kernel_rfl) (f.wide.map i8v).toArray .i64 k hlt (.int .i8 (rdI f.wide k)) (by have := map_i8_at f.wide k (by rw [HF.out.len]; exact hlt); simpa using this) w'
      have tw := HF.out.wide k hlt
      cases hl : inB 1 40 (rdI f.wide k)
      · have HP := Lib.hid (shape_wd hlt hl)
        have HL := Lib.hid hl
        go_wp2_with (go_at_call 65; refine (withinI_any _ _ _ _).mono ?_; rintro e w' ⟨rfl, rfl⟩)
        go_ret
        exact ⟨retB HP.out.symm, hB⟩
      · have HP := Lib.hid (allWd_succ HR.out hl)
        have HL := Lib.hid hl
        go_wp2_with (go_at_call 65; refine (withinI_any _ _ _ _).mono ?_; rintro e w' ⟨rfl, rfl⟩)
        go_round
        case rel => exact ⟨k + 1, by omega, by go_num, HP.out⟩
        case measure => simp [intOf]; omega
    · obtain rfl : k = 26 := by omega
      go_wp2
      go_loopw [20] (fun i wr => ∃ k : Nat, k ≤ n ∧ i = .int .i64 k ∧ Good f k ∧ Below W0.heap.size W0 wr) (fun i _ => n - (intOf i).toNat)
      case atStart => exact ⟨0, by omega, rfl, good_zero _, Below.refl _ _⟩
      case round =>
        clear c28
        obtain ⟨k, hk, rfl, hr, hsh⟩ := hrel
        have HR2 := Lib.hid hr
        have HBA := Lib.hid hsh
        have hbel := below_step hB hsh
        have hK := HK.out.next hsh
        clear hr hsh
        by_cases hlt : k < n
        · obtain ⟨a, rfl, hrow⟩ := (HS.out.next hbel).get k (by rw [HN.out]; omega)
          have tp := HF.out.pairs k (by rw [HN.out]; omega)
          have ty := tp.y
          have ta := tp.a
          have tb := tp.b
          have HRow := Lib.hid hrow
          have HK2 := Lib.hid hK
          have hB2 := step_alloc hbel (.cells (prV (rdP f.pairs k)).toArray 96)
          clear tp hK
          go_wp2_with (first
            | (refine wpList_loadV rfl 96 (.tmp 23) rfl (a.add (k * 3)) rfl (prV (rdP f.pairs k)) _ hrow Tryd.underlying96 rfl szPrI ?_; clear hrow)
            | (refine wpList_store_new rfl 96 _ _ rfl (prV (rdP f.pairs k)).toArray rfl rfl 96 _ szPrI rfl (one_pr _) ?_))
          simp only [Act.put]
          have hp := Blk.new wr 96 (prV (rdP f.pairs k))
          have hK := HK2.out.alloc (.cells (prV (rdP f.pairs k)).toArray 96)
          have hs2 := HS.out.next hB2
          have hba := Below.trans (HBA.out) (below_one wr (.cells (prV (rdP f.pairs k)).toArray 96) |>.mono HBA.out.size)
          obtain ⟨g2, hg⟩ : ∃ g2, g2 = wr.heap.size := ⟨_, rfl⟩
          rw [← hg] at hp ⊢
          clear hg
          have hbel := hB2
          clear hB2 HRow
          generalize wr.alloc (.cells (prV (rdP f.pairs k)).toArray 96) = W1 at *
          have q0 := hp.cell 0 _ rfl
          have q1 := hp.cell 1 _ rfl
          have q2 := hp.cell 2 _ rfl
          have c27 := hK.cell 27 _ (fcV_gap HF.out _)
          have HP2 := Lib.hid hp
          have HK3 := Lib.hid hK
          have HS2 := Lib.hid hs2
          have HBA := Lib.hid hba
          clear hp hK hs2 hba
          cases e1 : isLet (rdP f.pairs k).a
          · have HP := Lib.hid (shape_pr (f := f) (k := k) (by rw [HN.out]; exact hlt) (prAt_a e1))
            go_quiet ((first | (go_at_call 97; refine (letter_impl _ _).mono ?_; rintro e w' ⟨rfl, rfl⟩; exact ⟨rfl, _, rfl⟩) | (go_at_call 65; refine (withinI_any _ _ _ _).mono ?_; rintro e w' ⟨rfl, rfl⟩; exact ⟨rfl, _, rfl⟩)))
            go_wp2
            go_ret
            exact ⟨retB HP.out.symm, below_drewN hbel _⟩
          · cases e2 : isLet (rdP f.pairs k).b
            · have HP := Lib.hid (shape_pr (f := f) (k := k) (by rw [HN.out]; exact hlt) (prAt_b e2))
              go_quiet ((first | (go_at_call 97; refine (letter_impl _ _).mono ?_; rintro e w' ⟨rfl, rfl⟩; exact ⟨rfl, _, rfl⟩) | (go_at_call 65; refine (withinI_any _ _ _ _).mono ?_; rintro e w' ⟨rfl, rfl⟩; exact ⟨rfl, _, rfl⟩)))
              go_wp2
              go_ret
              exact ⟨retB HP.out.symm, below_drewN hbel _⟩
            · cases e3 : inB (-10) 10 (rdP f.pairs k).y
              · have HP := Lib.hid (shape_pr (f := f) (k := k) (by rw [HN.out]; exact hlt) (prAt_y e3))
                go_quiet ((first | (go_at_call 97; refine (letter_impl _ _).mono ?_; rintro e w' ⟨rfl, rfl⟩; exact ⟨rfl, _, rfl⟩) | (go_at_call 65; refine (withinI_any _ _ _ _).mono ?_; rintro e w' ⟨rfl, rfl⟩; exact ⟨rfl, _, rfl⟩)))
                go_wp2
                go_ret
                exact ⟨retB HP.out.symm, below_drewN hbel _⟩
              · cases e4 : ((rdP f.pairs k).y == 0)
                · by_cases e5 : IntKind.i8.wrap (f.gap + (rdP f.pairs k).y) < 0
                  · have HP := Lib.hid (shape_ps (f := f) (k := k) (by rw [HN.out]; exact hlt) e3 e5)
                    go_quiet ((first | (go_at_call 97; refine (letter_impl _ _).mono ?_; rintro e w' ⟨rfl, rfl⟩; exact ⟨rfl, _, rfl⟩) | (go_at_call 65; refine (withinI_any _ _ _ _).mono ?_; rintro e w' ⟨rfl, rfl⟩; exact ⟨rfl, _, rfl⟩)))
                    go_wp2
                    go_ret
                    exact ⟨retB HP.out.symm, below_drewN hbel _⟩
                  · by_cases hk0 : k = 0
                    · have HP := Lib.hid (good_succ HR2.out e1 e2 e3 e4 e5 (.inl hk0))
                      have hk1 : decide (0 < k) = false := by simp; omega
                      clear hk0
                      go_quiet ((first | (go_at_call 97; refine (letter_impl _ _).mono ?_; rintro e w' ⟨rfl, rfl⟩; exact ⟨rfl, _, rfl⟩) | (go_at_call 65; refine (withinI_any _ _ _ _).mono ?_; rintro e w' ⟨rfl, rfl⟩; exact ⟨rfl, _, rfl⟩)))
                      go_wp2
                      go_roundw
                      case rel => exact ⟨k + 1, by omega, by go_num, HP.out, below_drewN HBA.out _⟩
                      case measure => simp [intOf]; omega
                    · have hk1 : decide ((0 : Int) < (k : Int)) = true := by simp; omega
                      have hk2 : k - 1 < n := by omega
                      have hsub : IntKind.i64.wrap ((k : Int) - 1) = ((k - 1 : Nat) : Int) := by rw [IntWalk.i64_in _ (by omega)]; omega
                      have hcv : IntKind.i64.wrap (rdP f.pairs k).y = (rdP f.pairs k).y := IntWalk.i64_in _ (by omega)
                      have e5b : decide (IntKind.i8.wrap (f.gap + (rdP f.pairs k).y) < 0) = false := decide_eq_false e5
                      have HR3 := Lib.hid (slp_at HS2.out (k - 1) (by rw [HN.out]; exact hk2))
                      have HR4 := Lib.hid (pr_row HP2.out)
                      have e6b := cmpP_ahead (rdP f.pairs (k - 1)) (rdP f.pairs k)
                      cases e6 : ahead (rdP f.pairs (k - 1)) (rdP f.pairs k)
                      · have HP := Lib.hid (shape_pr (f := f) (k := k) (by rw [HN.out]; exact hlt) (prAt_o hk0 e6))
                        rw [e6] at e6b
                        have e6b : decide (0 ≤ cmpP (rdP f.pairs (k - 1)) (rdP f.pairs k)) = true := e6b
                        clear hk0 q0 q1 q2 c27
                        refine region_below (W1.heap.size) (by kernel_rfl) (by kernel_rfl) ?_
                        refine below_run (by kernel_rfl) (.pointer (some ⟨g2, 0, none⟩)) (fun w' hw' => by kernel_rfl) ?_
                        refine below_run (by kernel_rfl) (.int .u8 (rdP f.pairs k).a) (fun w' hw' => exec_load1 5 (.tmp 25) rfl ⟨g2, 0, none⟩ (by kernel_rfl) (.int .u8 (rdP f.pairs k).a) ((HP2.out.next hw').cell 0 _ rfl) _ Tryd.underlying5 rfl) ?_
                        refine below_call (by kernel_rfl) 97 #[.int .u8 (rdP f.pairs k).a] (.bool true) (fun w' => by kernel_rfl) (fun w' hw' => (let_is _ w' e1).mono fun e w1 ⟨he, hb1⟩ => ⟨he, below_step hw' hb1⟩) ?_
                        refine below_run (by kernel_rfl) (.bool false) (fun w' hw' => by kernel_rfl) ?_
                        refine below_run (by kernel_rfl) (.bool false) (fun w' hw' => by kernel_rfl) ?_
                        refine below_run (by kernel_rfl) (.pointer (some ⟨g2, 1, none⟩)) (fun w' hw' => by kernel_rfl) ?_
                        refine below_run (by kernel_rfl) (.int .u8 (rdP f.pairs k).b) (fun w' hw' => exec_load1 5 (.tmp 30) rfl ⟨g2, 1, none⟩ (by kernel_rfl) (.int .u8 (rdP f.pairs k).b) ((HP2.out.next hw').cell 1 _ rfl) _ Tryd.underlying5 rfl) ?_
                        refine below_call (by kernel_rfl) 97 #[.int .u8 (rdP f.pairs k).b] (.bool true) (fun w' => by kernel_rfl) (fun w' hw' => (let_is _ w' e2).mono fun e w1 ⟨he, hb1⟩ => ⟨he, below_step hw' hb1⟩) ?_
                        refine below_run (by kernel_rfl) (.bool false) (fun w' hw' => by kernel_rfl) ?_
                        refine below_run (by kernel_rfl) (.bool false) (fun w' hw' => by kernel_rfl) ?_
                        refine below_run (by kernel_rfl) (.bool false) (fun w' hw' => by kernel_rfl) ?_
                        refine below_run (by kernel_rfl) (.pointer (some ⟨g2, 2, none⟩)) (fun w' hw' => by kernel_rfl) ?_
                        refine below_run (by kernel_rfl) (.int .i8 (rdP f.pairs k).y) (fun w' hw' => exec_load1 22 (.tmp 36) rfl ⟨g2, 2, none⟩ (by kernel_rfl) (.int .i8 (rdP f.pairs k).y) ((HP2.out.next hw').cell 2 _ rfl) _ Tryd.underlying22 rfl) ?_
                        refine below_run (by kernel_rfl) (.int .i64 (rdP f.pairs k).y) (fun w' hw' => Eq.trans (show (execOp _ _).run _ w' = .ok (.value (.int .i64 (IntKind.i64.wrap (rdP f.pairs k).y))) w' by kernel_rfl) (by rw [hcv])) ?_
                        refine below_call (by kernel_rfl) 65 #[.int .i64 (rdP f.pairs k).y, .int .i64 (-10), .int .i64 10] (.bool true) (fun w' => by kernel_rfl) (fun w' hw' => (within_is _ _ _ w' e3).mono fun e w1 ⟨he, hb1⟩ => ⟨he, below_step hw' hb1⟩) ?_
                        refine below_run (by kernel_rfl) (.bool false) (fun w' hw' => by kernel_rfl) ?_
                        refine below_run (by kernel_rfl) (.bool false) (fun w' hw' => by kernel_rfl) ?_
                        refine below_run (by kernel_rfl) (.bool false) (fun w' hw' => by kernel_rfl) ?_
                        refine below_run (by kernel_rfl) (.pointer (some ⟨g2, 2, none⟩)) (fun w' hw' => by kernel_rfl) ?_
                        refine below_run (by kernel_rfl) (.int .i8 (rdP f.pairs k).y) (fun w' hw' => exec_load1 22 (.tmp 43) rfl ⟨g2, 2, none⟩ (by kernel_rfl) (.int .i8 (rdP f.pairs k).y) ((HP2.out.next hw').cell 2 _ rfl) _ Tryd.underlying22 rfl) ?_
                        refine below_run (by kernel_rfl) (.bool false) (fun w' hw' => Eq.trans (show (execOp _ _).run _ w' = .ok (.value (.bool ((rdP f.pairs k).y == 0))) w' by kernel_rfl) (by rw [e4])) ?_
                        refine below_run (by kernel_rfl) (.bool false) (fun w' hw' => by kernel_rfl) ?_
                        refine below_run (by kernel_rfl) (.bool false) (fun w' hw' => by kernel_rfl) ?_
                        refine below_run (by kernel_rfl) (.pointer (some ⟨b0, 27, none⟩)) (fun w' hw' => by kernel_rfl) ?_
                        refine below_run (by kernel_rfl) (.int .i8 f.gap) (fun w' hw' => exec_load1 22 (.tmp 48) rfl ⟨b0, 27, none⟩ (by kernel_rfl) (.int .i8 f.gap) ((HK3.out.next hw').cell 27 _ (fcV_gap HF.out _)) _ Tryd.underlying22 rfl) ?_
                        refine below_run (by kernel_rfl) (.pointer (some ⟨g2, 2, none⟩)) (fun w' hw' => by kernel_rfl) ?_
                        refine below_run (by kernel_rfl) (.int .i8 (rdP f.pairs k).y) (fun w' hw' => exec_load1 22 (.tmp 50) rfl ⟨g2, 2, none⟩ (by kernel_rfl) (.int .i8 (rdP f.pairs k).y) ((HP2.out.next hw').cell 2 _ rfl) _ Tryd.underlying22 rfl) ?_
                        refine below_run (by kernel_rfl) (.int .i8 (IntKind.i8.wrap (f.gap + (rdP f.pairs k).y))) (fun w' hw' => by kernel_rfl) ?_
                        refine below_run (by kernel_rfl) (.bool false) (fun w' hw' => Eq.trans (show (execOp _ _).run _ w' = .ok (.value (.bool (decide (IntKind.i8.wrap (f.gap + (rdP f.pairs k).y) < 0)))) w' by kernel_rfl) (by rw [e5b])) ?_
                        refine below_run (by kernel_rfl) (.bool false) (fun w' hw' => by kernel_rfl) ?_
                        refine below_run (by kernel_rfl) (.bool false) (fun w' hw' => by kernel_rfl) ?_
                        refine below_run (by kernel_rfl) (.int .i64 k) (fun w' hw' => by kernel_rfl) ?_
                        refine below_run (by kernel_rfl) (.bool true) (fun w' hw' => Eq.trans (show (execOp _ _).run _ w' = .ok (.value (.bool (decide ((0 : Int) < (k : Int))))) w' by kernel_rfl) (by rw [hk1])) ?_
                        refine below_run (by kernel_rfl) (.bool true) (fun w' hw' => by kernel_rfl) ?_
                        refine below_run (by kernel_rfl) (.pointer (some ⟨b0, 28, none⟩)) (fun w' hw' => by kernel_rfl) ?_
                        refine below_run (by kernel_rfl) (.slice (some a) n c) (fun w' hw' => exec_load1 31 (.tmp 59) rfl ⟨b0, 28, none⟩ (by kernel_rfl) (.slice (some a) n c) ((HK3.out.next hw').cell 28 _ (fcV_pairs HF.out _)) _ Tryd.underlying31 rfl) ?_
                        refine below_run (by kernel_rfl) (.int .i64 k) (fun w' hw' => by kernel_rfl) ?_
                        refine below_run (by kernel_rfl) (.int .i64 ((k - 1 : Nat) : Int)) (fun w' hw' => Eq.trans (show (execOp _ _).run _ w' = .ok (.value (.int .i64 (IntKind.i64.wrap ((k : Int) - 1)))) w' by kernel_rfl) (by rw [hsub])) ?_
                        refine below_run (by kernel_rfl) (.pointer (some (Addr.add a ((k - 1) * 3)))) (fun w' hw' => exec_index 31 (.tmp 60) (.tmp 62) rfl a n c (by kernel_rfl) .i64 (k - 1) (by kernel_rfl) hk2 96 Tryd.underlying31 3 szPrI) ?_
                        refine below_run (by kernel_rfl) (.agg (prV (rdP f.pairs (k - 1))).toArray) (fun w' hw' => exec_loadV 96 (.tmp 63) rfl (a.add ((k - 1) * 3)) (by kernel_rfl) (prV (rdP f.pairs (k - 1))) _ (HR3.out.next hw') Tryd.underlying96 rfl szPrI) ?_
                        refine below_run (by kernel_rfl) (.agg (prV (rdP f.pairs k)).toArray) (fun w' hw' => exec_loadV 96 (.tmp 6) rfl ⟨g2, 0, none⟩ (by kernel_rfl) (prV (rdP f.pairs k)) _ (HR4.out.next hw') Tryd.underlying96 rfl szPrI) ?_
                        refine below_call (by kernel_rfl) 98 #[.agg (prV (rdP f.pairs (k - 1))).toArray, .agg (prV (rdP f.pairs k)).toArray] (.int .i64 (cmpP (rdP f.pairs (k - 1)) (rdP f.pairs k))) (fun w' => by kernel_rfl) (fun w' hw' => (compare_any _ _ w').mono fun e w1 ⟨he, hb1⟩ => ⟨he, below_step hw' hb1⟩) ?_
                        refine below_run (by kernel_rfl) (.bool true) (fun w' hw' => Eq.trans (show (execOp _ _).run _ w' = .ok (.value (.bool (decide (0 ≤ cmpP (rdP f.pairs (k - 1)) (rdP f.pairs k))))) w' by kernel_rfl) (by rw [e6b])) ?_
                        refine below_run (by kernel_rfl) (.bool true) (fun w' hw' => by kernel_rfl) ?_
                        refine below_run (by kernel_rfl) (.bool true) (fun w' hw' => by kernel_rfl) ?_
                        refine wpQuiet_nil ?_
                        intro W3 hW3
                        simp only [Act.put, List.setIfInBounds_toArray, List.set_cons_succ, List.set_cons_zero]
                        clear e1 e2 e3 e4 e5b e6 e6b hcv hsub hk1 e5
                        go_wp2
                        go_ret
                        exact ⟨retB HP.out.symm, below_step hbel hW3⟩
                      · have HP := Lib.hid (good_succ HR2.out e1 e2 e3 e4 e5 (.inr e6))
                        rw [e6] at e6b
                        have e6b : decide (0 ≤ cmpP (rdP f.pairs (k - 1)) (rdP f.pairs k)) = false := e6b
                        clear hk0 q0 q1 q2 c27
                        refine region_below (W1.heap.size) (by kernel_rfl) (by kernel_rfl) ?_
                        refine below_run (by kernel_rfl) (.pointer (some ⟨g2, 0, none⟩)) (fun w' hw' => by kernel_rfl) ?_
                        refine below_run (by kernel_rfl) (.int .u8 (rdP f.pairs k).a) (fun w' hw' => exec_load1 5 (.tmp 25) rfl ⟨g2, 0, none⟩ (by kernel_rfl) (.int .u8 (rdP f.pairs k).a) ((HP2.out.next hw').cell 0 _ rfl) _ Tryd.underlying5 rfl) ?_
                        refine below_call (by kernel_rfl) 97 #[.int .u8 (rdP f.pairs k).a] (.bool true) (fun w' => by kernel_rfl) (fun w' hw' => (let_is _ w' e1).mono fun e w1 ⟨he, hb1⟩ => ⟨he, below_step hw' hb1⟩) ?_
                        refine below_run (by kernel_rfl) (.bool false) (fun w' hw' => by kernel_rfl) ?_
                        refine below_run (by kernel_rfl) (.bool false) (fun w' hw' => by kernel_rfl) ?_
                        refine below_run (by kernel_rfl) (.pointer (some ⟨g2, 1, none⟩)) (fun w' hw' => by kernel_rfl) ?_
                        refine below_run (by kernel_rfl) (.int .u8 (rdP f.pairs k).b) (fun w' hw' => exec_load1 5 (.tmp 30) rfl ⟨g2, 1, none⟩ (by kernel_rfl) (.int .u8 (rdP f.pairs k).b) ((HP2.out.next hw').cell 1 _ rfl) _ Tryd.underlying5 rfl) ?_
                        refine below_call (by kernel_rfl) 97 #[.int .u8 (rdP f.pairs k).b] (.bool true) (fun w' => by kernel_rfl) (fun w' hw' => (let_is _ w' e2).mono fun e w1 ⟨he, hb1⟩ => ⟨he, below_step hw' hb1⟩) ?_
                        refine below_run (by kernel_rfl) (.bool false) (fun w' hw' => by kernel_rfl) ?_
                        refine below_run (by kernel_rfl) (.bool false) (fun w' hw' => by kernel_rfl) ?_
                        refine below_run (by kernel_rfl) (.bool false) (fun w' hw' => by kernel_rfl) ?_
                        refine below_run (by kernel_rfl) (.pointer (some ⟨g2, 2, none⟩)) (fun w' hw' => by kernel_rfl) ?_
                        refine below_run (by kernel_rfl) (.int .i8 (rdP f.pairs k).y) (fun w' hw' => exec_load1 22 (.tmp 36) rfl ⟨g2, 2, none⟩ (by kernel_rfl) (.int .i8 (rdP f.pairs k).y) ((HP2.out.next hw').cell 2 _ rfl) _ Tryd.underlying22 rfl) ?_
                        refine below_run (by kernel_rfl) (.int .i64 (rdP f.pairs k).y) (fun w' hw' => Eq.trans (show (execOp _ _).run _ w' = .ok (.value (.int .i64 (IntKind.i64.wrap (rdP f.pairs k).y))) w' by kernel_rfl) (by rw [hcv])) ?_
                        refine below_call (by kernel_rfl) 65 #[.int .i64 (rdP f.pairs k).y, .int .i64 (-10), .int .i64 10] (.bool true) (fun w' => by kernel_rfl) (fun w' hw' => (within_is _ _ _ w' e3).mono fun e w1 ⟨he, hb1⟩ => ⟨he, below_step hw' hb1⟩) ?_
                        refine below_run (by kernel_rfl) (.bool false) (fun w' hw' => by kernel_rfl) ?_
                        refine below_run (by kernel_rfl) (.bool false) (fun w' hw' => by kernel_rfl) ?_
                        refine below_run (by kernel_rfl) (.bool false) (fun w' hw' => by kernel_rfl) ?_
                        refine below_run (by kernel_rfl) (.pointer (some ⟨g2, 2, none⟩)) (fun w' hw' => by kernel_rfl) ?_
                        refine below_run (by kernel_rfl) (.int .i8 (rdP f.pairs k).y) (fun w' hw' => exec_load1 22 (.tmp 43) rfl ⟨g2, 2, none⟩ (by kernel_rfl) (.int .i8 (rdP f.pairs k).y) ((HP2.out.next hw').cell 2 _ rfl) _ Tryd.underlying22 rfl) ?_
                        refine below_run (by kernel_rfl) (.bool false) (fun w' hw' => Eq.trans (show (execOp _ _).run _ w' = .ok (.value (.bool ((rdP f.pairs k).y == 0))) w' by kernel_rfl) (by rw [e4])) ?_
                        refine below_run (by kernel_rfl) (.bool false) (fun w' hw' => by kernel_rfl) ?_
                        refine below_run (by kernel_rfl) (.bool false) (fun w' hw' => by kernel_rfl) ?_
                        refine below_run (by kernel_rfl) (.pointer (some ⟨b0, 27, none⟩)) (fun w' hw' => by kernel_rfl) ?_
                        refine below_run (by kernel_rfl) (.int .i8 f.gap) (fun w' hw' => exec_load1 22 (.tmp 48) rfl ⟨b0, 27, none⟩ (by kernel_rfl) (.int .i8 f.gap) ((HK3.out.next hw').cell 27 _ (fcV_gap HF.out _)) _ Tryd.underlying22 rfl) ?_
                        refine below_run (by kernel_rfl) (.pointer (some ⟨g2, 2, none⟩)) (fun w' hw' => by kernel_rfl) ?_
                        refine below_run (by kernel_rfl) (.int .i8 (rdP f.pairs k).y) (fun w' hw' => exec_load1 22 (.tmp 50) rfl ⟨g2, 2, none⟩ (by kernel_rfl) (.int .i8 (rdP f.pairs k).y) ((HP2.out.next hw').cell 2 _ rfl) _ Tryd.underlying22 rfl) ?_
                        refine below_run (by kernel_rfl) (.int .i8 (IntKind.i8.wrap (f.gap + (rdP f.pairs k).y))) (fun w' hw' => by kernel_rfl) ?_
                        refine below_run (by kernel_rfl) (.bool false) (fun w' hw' => Eq.trans (show (execOp _ _).run _ w' = .ok (.value (.bool (decide (IntKind.i8.wrap (f.gap + (rdP f.pairs k).y) < 0)))) w' by kernel_rfl) (by rw [e5b])) ?_
                        refine below_run (by kernel_rfl) (.bool false) (fun w' hw' => by kernel_rfl) ?_
                        refine below_run (by kernel_rfl) (.bool false) (fun w' hw' => by kernel_rfl) ?_
                        refine below_run (by kernel_rfl) (.int .i64 k) (fun w' hw' => by kernel_rfl) ?_
                        refine below_run (by kernel_rfl) (.bool true) (fun w' hw' => Eq.trans (show (execOp _ _).run _ w' = .ok (.value (.bool (decide ((0 : Int) < (k : Int))))) w' by kernel_rfl) (by rw [hk1])) ?_
                        refine below_run (by kernel_rfl) (.bool true) (fun w' hw' => by kernel_rfl) ?_
                        refine below_run (by kernel_rfl) (.pointer (some ⟨b0, 28, none⟩)) (fun w' hw' => by kernel_rfl) ?_
                        refine below_run (by kernel_rfl) (.slice (some a) n c) (fun w' hw' => exec_load1 31 (.tmp 59) rfl ⟨b0, 28, none⟩ (by kernel_rfl) (.slice (some a) n c) ((HK3.out.next hw').cell 28 _ (fcV_pairs HF.out _)) _ Tryd.underlying31 rfl) ?_
                        refine below_run (by kernel_rfl) (.int .i64 k) (fun w' hw' => by kernel_rfl) ?_
                        refine below_run (by kernel_rfl) (.int .i64 ((k - 1 : Nat) : Int)) (fun w' hw' => Eq.trans (show (execOp _ _).run _ w' = .ok (.value (.int .i64 (IntKind.i64.wrap ((k : Int) - 1)))) w' by kernel_rfl) (by rw [hsub])) ?_
                        refine below_run (by kernel_rfl) (.pointer (some (Addr.add a ((k - 1) * 3)))) (fun w' hw' => exec_index 31 (.tmp 60) (.tmp 62) rfl a n c (by kernel_rfl) .i64 (k - 1) (by kernel_rfl) hk2 96 Tryd.underlying31 3 szPrI) ?_
                        refine below_run (by kernel_rfl) (.agg (prV (rdP f.pairs (k - 1))).toArray) (fun w' hw' => exec_loadV 96 (.tmp 63) rfl (a.add ((k - 1) * 3)) (by kernel_rfl) (prV (rdP f.pairs (k - 1))) _ (HR3.out.next hw') Tryd.underlying96 rfl szPrI) ?_
                        refine below_run (by kernel_rfl) (.agg (prV (rdP f.pairs k)).toArray) (fun w' hw' => exec_loadV 96 (.tmp 6) rfl ⟨g2, 0, none⟩ (by kernel_rfl) (prV (rdP f.pairs k)) _ (HR4.out.next hw') Tryd.underlying96 rfl szPrI) ?_
                        refine below_call (by kernel_rfl) 98 #[.agg (prV (rdP f.pairs (k - 1))).toArray, .agg (prV (rdP f.pairs k)).toArray] (.int .i64 (cmpP (rdP f.pairs (k - 1)) (rdP f.pairs k))) (fun w' => by kernel_rfl) (fun w' hw' => (compare_any _ _ w').mono fun e w1 ⟨he, hb1⟩ => ⟨he, below_step hw' hb1⟩) ?_
                        refine below_run (by kernel_rfl) (.bool false) (fun w' hw' => Eq.trans (show (execOp _ _).run _ w' = .ok (.value (.bool (decide (0 ≤ cmpP (rdP f.pairs (k - 1)) (rdP f.pairs k))))) w' by kernel_rfl) (by rw [e6b])) ?_
                        refine below_run (by kernel_rfl) (.bool false) (fun w' hw' => by kernel_rfl) ?_
                        refine below_run (by kernel_rfl) (.bool false) (fun w' hw' => by kernel_rfl) ?_
                        refine wpQuiet_nil ?_
                        intro W3 hW3
                        simp only [Act.put, List.setIfInBounds_toArray, List.set_cons_succ, List.set_cons_zero]
                        clear e1 e2 e3 e4 e5b e6 e6b hcv hsub hk1 e5
                        go_wp2
                        go_roundw
                        case rel => exact ⟨k + 1, by omega, by go_num, HP.out, below_step HBA.out hW3⟩
                        case measure => simp [intOf]; omega
                · have HP := Lib.hid (shape_pr (f := f) (k := k) (by rw [HN.out]; exact hlt) (prAt_z e4))
                  go_quiet ((first | (go_at_call 97; refine (letter_impl _ _).mono ?_; rintro e w' ⟨rfl, rfl⟩; exact ⟨rfl, _, rfl⟩) | (go_at_call 65; refine (withinI_any _ _ _ _).mono ?_; rintro e w' ⟨rfl, rfl⟩; exact ⟨rfl, _, rfl⟩)))
                  go_wp2
                  go_ret
                  exact ⟨retB HP.out.symm, below_drewN hbel _⟩
        · obtain rfl : k = n := by omega
          have HP := Lib.hid (shape_fin HR.out (by rw [HN.out]; exact HR2.out))
          have c26 := hK.cell 26 _ (fcV_space HF.out _)
          have c27 := hK.cell 27 _ (fcV_gap HF.out _)
          cases hsp : inB 1 40 f.space
          · have HL := Lib.hid hsp
            go_wp2_with (go_at_call 65; refine (withinI_any _ _ _ _).mono ?_; rintro e w' ⟨rfl, rfl⟩)
            go_ret
            exact ⟨retB (by rw [HP.out, HL.out]; rfl), hbel⟩
          · have HL := Lib.hid hsp
            go_wp2_with (go_at_call 65; refine (withinI_any _ _ _ _).mono ?_; rintro e w' ⟨rfl, rfl⟩)
            go_ret
            exact ⟨retB (by rw [HP.out, HL.out]; rfl), hbel⟩
end Go.Proofs.YtjgflkoefimmoaaDoor
