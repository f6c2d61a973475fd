/- Contracts: a face is valid, by the reference. -/
import Derived.Test.YtjgflkoefimmoaaDoorFcS
import Derived.Test.YtjgflkoefimmoaaDoorBase2
import Derived.IntWalk
namespace Go.Proofs.YtjgflkoefimmoaaDoor
open Go Go.RowKit
set_option linter.unusedVariables false
set_option linter.unusedSimpArgs false

structure ShRel (w wr : World) : Prop where
  below : Below w.heap.size w wr
theorem prAt_a {f : Fc} {k : Nat} (h : isLet (rdP f.pairs k).a = false) : prAt f k = false := by unfold prAt prOk; rw [h]; rfl
theorem prAt_b {f : Fc} {k : Nat} (h : isLet (rdP f.pairs k).b = false) : prAt f k = false := by unfold prAt prOk; rw [h]; simp
theorem prAt_y {f : Fc} {k : Nat} (h : inB (-10) 10 (rdP f.pairs k).y = false) : prAt f k = false := by unfold prAt prOk; rw [h]; simp
theorem prAt_z {f : Fc} {k : Nat} (h : ((rdP f.pairs k).y == 0) = true) : prAt f k = false := by unfold prAt prOk; rw [h]; simp
theorem prAt_s {f : Fc} {k : Nat} (h : f.gap + (rdP f.pairs k).y < 0) : prAt f k = false := by
  unfold prAt prOk; rw [decide_eq_false (show ¬ 0 ≤ f.gap + (rdP f.pairs k).y by omega)]; simp
theorem prAt_o {f : Fc} {k : Nat} (h0 : k ≠ 0) (h : ahead (rdP f.pairs (k - 1)) (rdP f.pairs k) = false) : prAt f k = false := by unfold prAt; rw [h]; simp [h0]
theorem prAt_ok {f : Fc} {k : Nat} (h1 : isLet (rdP f.pairs k).a = true) (h2 : isLet (rdP f.pairs k).b = true) (h3 : inB (-10) 10 (rdP f.pairs k).y = true) (h4 : ((rdP f.pairs k).y == 0) = false) (h5 : 0 ≤ f.gap + (rdP f.pairs k).y)
    (h6 : k = 0 ∨ ahead (rdP f.pairs (k - 1)) (rdP f.pairs k) = true) : prAt f k = true := by
  unfold prAt prOk
  rw [h1, h2, h3, h4, decide_eq_true h5]
  rcases h6 with h | h <;> simp [h]

theorem shapeF_true {f : Fc} (h1 : inB 1 40 f.space = true) (h2 : inB 0 10 f.gap = true) (h3 : AllWd f 26) (h4 : AllPr f f.pairs.length) : shapeF f = true := by
  rw [shape_all h3 h4, h1, h2]; rfl
theorem ahead_is (p q : Pr) (w : World) {v : Bool} (h : ahead p q = v) : Calls Tryd.prog 96 #[.agg (prV p).toArray, .agg (prV q).toArray] w fun e w' => e = .returned (.bool v) ∧ Below w.heap.size w w' :=
  (ahead_spec p q w).mono fun e w' ⟨he, hb⟩ => ⟨he.trans (retB h), hb⟩
theorem slp_at {w : World} {a : Addr} {ps : List Pr} (h : SlP w (some a) ps) (i : Nat) (hi : i < ps.length) : RowV w (a.add (i * 3)) (prV (rdP ps i)) := by
  obtain ⟨a', e, h1⟩ := h.get i hi
  obtain rfl := Option.some.inj e
  exact h1
theorem pr_row {w : World} {g : Nat} {t : TypeId} {p : Pr} (h : Blk w g t (prV p)) : RowV w ⟨g, 0, none⟩ (prV p) := h.rowV 0 3

attribute [local irreducible] wpQuiet in
set_option maxHeartbeats 4000000 in
set_option maxRecDepth 100000 in
theorem shape_spec (f : Fc) (n b0 : Nat) (w : World) (hf : FcT f) (hn : f.pairs.length = n) (hm : n ≤ 1048576) (h : FcAt w b0 f n) :
    Calls Tryd.prog 75 #[.pointer (some ⟨b0, 0, none⟩)] w fun e w' => e = .returned (.bool (shapeF f)) ∧ Below w.heap.size w w' := by
  obtain ⟨A, c, hk, hs⟩ := h
  have HS := Lib.hid hs
  have HN := Lib.hid hn
  have HF := Lib.hid hf
  have HK := Lib.hid hk
  have tsp := hf.space
  have tgp := hf.gap
  clear hs hn hf hk
  go_enter Tryd.func75, Tryd.ntmps75
  go_wp2
  go_loop [3] (fun i => ∃ k : Nat, k ≤ 26 ∧ i = .int .i64 k ∧ AllWd f k) (fun i => 26 - (intOf i).toNat)
  case atStart => exact ⟨0, by omega, rfl, allWd_zero _⟩
  case round =>
    obtain ⟨k, hk, rfl, hr⟩ := hrel
    have HR := Lib.hid hr
    clear hr
    by_cases hlt : k < 26
    · have hc := HK.out.cell k _ (fcV_wide HF.out _ k hlt)
      have tw := HF.out.wide k hlt
      cases hl : inB 1 40 (rdI f.wide k)
      · have HP := Lib.hid (shape_wd hlt hl)
        have HL := Lib.hid hl
        go_wp2_with (go_at_call 61; refine (inS_any _ _ _ _).mono ?_; rintro e w' ⟨rfl, rfl⟩)
        go_ret
        exact ⟨retB HP.out.symm, Below.refl _ _⟩
      · have HP := Lib.hid (allWd_succ HR.out hl)
        have HL := Lib.hid hl
        go_wp2_with (go_at_call 61; refine (inS_any _ _ _ _).mono ?_; rintro e w' ⟨rfl, rfl⟩)
        go_round
        case rel => exact ⟨k + 1, by omega, by go_num, HP.out⟩
        case measure => simp [intOf]; omega
    · obtain rfl : k = 26 := by omega
      have c26 := HK.out.cell 26 _ (fcV_space HF.out _)
      have c27 := HK.out.cell 27 _ (fcV_gap HF.out _)
      have c28 := HK.out.cell 28 _ (fcV_pairs HF.out _)
      cases hsp : inB 1 40 f.space
      · have HP := Lib.hid (shape_sp hsp)
        go_wp2_with (go_at_call 61; refine (inS_any _ _ _ _).mono ?_; rintro e w' ⟨rfl, rfl⟩)
        go_ret
        exact ⟨retB HP.out.symm, Below.refl _ _⟩
      · cases hgp : inB 0 10 f.gap
        · have HP := Lib.hid (shape_gp hgp)
          go_wp2_with (go_at_call 61; refine (inS_any _ _ _ _).mono ?_; rintro e w' ⟨rfl, rfl⟩)
          go_ret
          exact ⟨retB HP.out.symm, Below.refl _ _⟩
        · have HSP := Lib.hid hsp
          have HGP := Lib.hid hgp
          have bg := inB_iff.1 hgp
          go_wp2_with (go_at_call 61; refine (inS_any _ _ _ _).mono ?_; rintro e w' ⟨rfl, rfl⟩)
          clear hsp hgp
          have HW := Lib.hid HR.out
          go_loopw [4] (fun i wr => ∃ k : Nat, k ≤ n ∧ i = .int .i64 k ∧ AllPr f k ∧ ShRel w wr) (fun i _ => n - (intOf i).toNat)
          case atStart => exact ⟨0, by omega, rfl, allPr_zero _, ⟨Below.refl _ _⟩⟩
          case round =>
            clear c26 c27 c28
            obtain ⟨k, hk, rfl, hr, hsh⟩ := hrel
            have HR2 := Lib.hid hr
            have hbel := hsh.below
            clear hr hsh
            have hK := HK.out.below hbel HK.out.lt
            have c27 := hK.cell 27 _ (fcV_gap HF.out _)
            have c28 := hK.cell 28 _ (fcV_pairs HF.out _)
            by_cases hlt : k < n
            · obtain ⟨a, rfl, hrow⟩ := (HS.out.next hbel).get k (by rw [HN.out]; omega)
              have tp := HF.out.pairs k (by rw [HN.out]; omega)
              have ty := tp.y
              have ta := tp.a
              have tb := tp.b
              have HRow := Lib.hid hrow
              have HK2 := Lib.hid hK
              have hB2 := step_alloc hbel (.cells (prV (rdP f.pairs k)).toArray 96)
              clear tp hK
              go_wp2_with (first
                | (refine wpList_loadV rfl 96 (.tmp 49) rfl (a.add (k * 3)) rfl (prV (rdP f.pairs k)) _ hrow Tryd.underlying96 rfl szPrI ?_; clear hrow)
                | (refine wpList_store_new rfl 96 _ _ rfl (prV (rdP f.pairs k)).toArray rfl rfl 96 _ szPrI rfl (one_pr _) ?_))
              simp only [Act.put]
              have hp := Blk.new wr 96 (prV (rdP f.pairs k))
              have c27 := (HK2.out.alloc (.cells (prV (rdP f.pairs k)).toArray 96)).cell 27 _ (fcV_gap HF.out _)
              have hK := HK2.out.alloc (.cells (prV (rdP f.pairs k)).toArray 96)
              have hs2 := HS.out.next hB2
              have hg2 : wr.heap.size < (wr.alloc (.cells (prV (rdP f.pairs k)).toArray 96)).heap.size := by simp
              obtain ⟨g2, hg⟩ : ∃ g2, g2 = wr.heap.size := ⟨_, rfl⟩
              rw [← hg] at hp hg2 ⊢
              clear hg c28
              have hbel := hB2
              clear hB2 HRow
              generalize wr.alloc (.cells (prV (rdP f.pairs k)).toArray 96) = W1 at *
              have q0 := hp.cell 0 _ rfl
              have q1 := hp.cell 1 _ rfl
              have q2 := hp.cell 2 _ rfl
              have HP2 := Lib.hid hp
              have HK3 := Lib.hid hK
              have HS2 := Lib.hid hs2
              clear hp hK hs2
              cases e1 : isLet (rdP f.pairs k).a
              · have HP := Lib.hid (shape_pr (f := f) (k := k) (by rw [HN.out]; exact hlt) (prAt_a e1))
                go_quiet ((first | (go_at_call 76; refine (letter_spec _ _).mono ?_; rintro e w' ⟨rfl, rfl⟩; exact ⟨rfl, _, rfl⟩) | (go_at_call 61; refine (inS_any _ _ _ _).mono ?_; rintro e w' ⟨rfl, rfl⟩; exact ⟨rfl, _, rfl⟩)))
                go_wp2
                go_ret
                exact ⟨retB HP.out.symm, below_drewN hbel _⟩
              · cases e2 : isLet (rdP f.pairs k).b
                · have HP := Lib.hid (shape_pr (f := f) (k := k) (by rw [HN.out]; exact hlt) (prAt_b e2))
                  go_quiet ((first | (go_at_call 76; refine (letter_spec _ _).mono ?_; rintro e w' ⟨rfl, rfl⟩; exact ⟨rfl, _, rfl⟩) | (go_at_call 61; refine (inS_any _ _ _ _).mono ?_; rintro e w' ⟨rfl, rfl⟩; exact ⟨rfl, _, rfl⟩)))
                  go_wp2
                  go_ret
                  exact ⟨retB HP.out.symm, below_drewN hbel _⟩
                · cases e3 : inB (-10) 10 (rdP f.pairs k).y
                  · have HP := Lib.hid (shape_pr (f := f) (k := k) (by rw [HN.out]; exact hlt) (prAt_y e3))
                    go_quiet ((first | (go_at_call 76; refine (letter_spec _ _).mono ?_; rintro e w' ⟨rfl, rfl⟩; exact ⟨rfl, _, rfl⟩) | (go_at_call 61; refine (inS_any _ _ _ _).mono ?_; rintro e w' ⟨rfl, rfl⟩; exact ⟨rfl, _, rfl⟩)))
                    go_wp2
                    go_ret
                    exact ⟨retB HP.out.symm, below_drewN hbel _⟩
                  · have by3 := inB_iff.1 e3
                    cases e4 : ((rdP f.pairs k).y == 0)
                    · have hw8 : IntKind.i8.wrap (f.gap + (rdP f.pairs k).y) = f.gap + (rdP f.pairs k).y := IntWalk.i8_in _ (by omega)
                      by_cases e5 : f.gap + (rdP f.pairs k).y < 0
                      · have HP := Lib.hid (shape_pr (f := f) (k := k) (by rw [HN.out]; exact hlt) (prAt_s e5))
                        go_quiet ((first | (go_at_call 76; refine (letter_spec _ _).mono ?_; rintro e w' ⟨rfl, rfl⟩; exact ⟨rfl, _, rfl⟩) | (go_at_call 61; refine (inS_any _ _ _ _).mono ?_; rintro e w' ⟨rfl, rfl⟩; exact ⟨rfl, _, rfl⟩)))
                        go_wp2
                        go_ret
                        exact ⟨retB HP.out.symm, below_drewN hbel _⟩
                      · have E5 := Lib.hid (show 0 ≤ f.gap + (rdP f.pairs k).y by omega)
                        have E1 := Lib.hid e1
                        have E2 := Lib.hid e2
                        have E3 := Lib.hid e3
                        have E4 := Lib.hid e4
                        go_quiet ((first | (go_at_call 76; refine (letter_spec _ _).mono ?_; rintro e w' ⟨rfl, rfl⟩; exact ⟨rfl, _, rfl⟩) | (go_at_call 61; refine (inS_any _ _ _ _).mono ?_; rintro e w' ⟨rfl, rfl⟩; exact ⟨rfl, _, rfl⟩)))
                        go_wp2
                        clear e1 e2 e3 e4 hw8 q0 q1 q2 c27
                        have hbel := below_drewN hbel nq
                        have HK4 := Lib.hid (HK3.out.drewN nq)
                        have HS4 := Lib.hid (HS2.out.drewN nq)
                        have HP4 := Lib.hid (HP2.out.drewN nq)
                        clear HK3 HS2 HP2
                        generalize hW2 : World.drewN W1 nq = W2 at *
                        clear hW2
                        by_cases hk0 : k = 0
                        · have HP := Lib.hid (allPr_succ HR2.out (prAt_ok E1.out E2.out E3.out E4.out E5.out (.inl hk0)))
                          have hk1 : decide (0 < k) = false := by simp; omega
                          clear hk0 e5
                          go_quiet (fail)
                          go_wp2
                          go_roundw
                          case rel => exact ⟨k + 1, by omega, by go_num, HP.out, ⟨below_drewN hbel _⟩⟩
                          case measure => simp [intOf]; omega
                        · have hk1 : decide ((0 : Int) < (k : Int)) = true := by simp; omega
                          have hk2 : k - 1 < n := by omega
                          have hsub : IntKind.i64.wrap ((k : Int) - 1) = ((k - 1 : Nat) : Int) := by rw [IntWalk.i64_in _ (by omega)]; omega
                          have HR3 := Lib.hid (slp_at HS4.out (k - 1) (by rw [HN.out]; exact hk2))
                          have HR4 := Lib.hid (pr_row HP4.out)
                          cases e6 : ahead (rdP f.pairs (k - 1)) (rdP f.pairs k)
                          · have HP := Lib.hid (shape_pr (f := f) (k := k) (by rw [HN.out]; exact hlt) (prAt_o hk0 e6))
                            clear hk0 e5
                            refine region_below (W2.heap.size) (by kernel_rfl) (by kernel_rfl) ?_
                            refine below_run (by kernel_rfl) (.int .i64 k) (fun w' hw' => by kernel_rfl) ?_
                            refine below_run (by kernel_rfl) (.bool true) (fun w' hw' => by rw [← hk1]; kernel_rfl) ?_
                            refine below_run (by kernel_rfl) (.bool true) (fun w' hw' => by kernel_rfl) ?_
                            refine below_run (by kernel_rfl) (.pointer (some ⟨b0, 0, none⟩)) (fun w' hw' => by kernel_rfl) ?_
                            refine below_run (by kernel_rfl) (.pointer (some ⟨b0, 0, none⟩)) (fun w' hw' => by kernel_rfl) ?_
                            refine below_run (by kernel_rfl) (.pointer (some ⟨b0, 28, none⟩)) (fun w' hw' => by kernel_rfl) ?_
                            refine below_run (by kernel_rfl) (.slice (some a) n c) (fun w' hw' => exec_load1 31 (.tmp 88) rfl ⟨b0, 28, none⟩ (by kernel_rfl) (.slice (some a) n c) ((HK4.out.next hw').cell 28 _ (fcV_pairs HF.out _)) _ Tryd.underlying31 rfl) ?_
                            refine below_run (by kernel_rfl) (.int .i64 k) (fun w' hw' => by kernel_rfl) ?_
                            refine below_run (by kernel_rfl) (.int .i64 ((k - 1 : Nat) : Int)) (fun w' hw' => by rw [← hsub]; kernel_rfl) ?_
                            refine below_run (by kernel_rfl) (.pointer (some (Addr.add a ((k - 1) * 3)))) (fun w' hw' => exec_index 31 (.tmp 89) (.tmp 91) rfl a n c (by kernel_rfl) .i64 (k - 1) (by kernel_rfl) hk2 96 Tryd.underlying31 3 szPrI) ?_
                            refine below_run (by kernel_rfl) (.agg (prV (rdP f.pairs (k - 1))).toArray) (fun w' hw' => exec_loadV 96 (.tmp 92) rfl (a.add ((k - 1) * 3)) (by kernel_rfl) (prV (rdP f.pairs (k - 1))) _ (HR3.out.next hw') Tryd.underlying96 rfl szPrI) ?_
                            refine below_run (by kernel_rfl) (.agg (prV (rdP f.pairs k)).toArray) (fun w' hw' => exec_loadV 96 (.tmp 5) rfl ⟨g2, 0, none⟩ (by kernel_rfl) (prV (rdP f.pairs k)) _ (HR4.out.next hw') Tryd.underlying96 rfl szPrI) ?_
                            refine below_call (by kernel_rfl) 96 #[.agg (prV (rdP f.pairs (k - 1))).toArray, .agg (prV (rdP f.pairs k)).toArray] (.bool false) (fun w' => by kernel_rfl) (fun w' hw' => (ahead_is _ _ w' e6).mono fun e w1 ⟨he, hb1⟩ => ⟨he, below_step hw' hb1⟩) ?_
                            refine below_run (by kernel_rfl) (.bool true) (fun w' hw' => by kernel_rfl) ?_
                            refine below_run (by kernel_rfl) (.bool true) (fun w' hw' => by kernel_rfl) ?_
                            refine wpQuiet_nil ?_
                            intro W3 hW3
                            simp only [Act.put, List.setIfInBounds_toArray, List.set_cons_succ, List.set_cons_zero]
                            go_wp2
                            go_ret
                            exact ⟨retB HP.out.symm, below_step hbel hW3⟩
                          · have HP := Lib.hid (allPr_succ HR2.out (prAt_ok E1.out E2.out E3.out E4.out E5.out (.inr e6)))
                            clear hk0 e5
                            refine region_below (W2.heap.size) (by kernel_rfl) (by kernel_rfl) ?_
                            refine below_run (by kernel_rfl) (.int .i64 k) (fun w' hw' => by kernel_rfl) ?_
                            refine below_run (by kernel_rfl) (.bool true) (fun w' hw' => by rw [← hk1]; kernel_rfl) ?_
                            refine below_run (by kernel_rfl) (.bool true) (fun w' hw' => by kernel_rfl) ?_
                            refine below_run (by kernel_rfl) (.pointer (some ⟨b0, 0, none⟩)) (fun w' hw' => by kernel_rfl) ?_
                            refine below_run (by kernel_rfl) (.pointer (some ⟨b0, 0, none⟩)) (fun w' hw' => by kernel_rfl) ?_
                            refine below_run (by kernel_rfl) (.pointer (some ⟨b0, 28, none⟩)) (fun w' hw' => by kernel_rfl) ?_
                            refine below_run (by kernel_rfl) (.slice (some a) n c) (fun w' hw' => exec_load1 31 (.tmp 88) rfl ⟨b0, 28, none⟩ (by kernel_rfl) (.slice (some a) n c) ((HK4.out.next hw').cell 28 _ (fcV_pairs HF.out _)) _ Tryd.underlying31 rfl) ?_
                            refine below_run (by kernel_rfl) (.int .i64 k) (fun w' hw' => by kernel_rfl) ?_
                            refine below_run (by kernel_rfl) (.int .i64 ((k - 1 : Nat) : Int)) (fun w' hw' => by rw [← hsub]; kernel_rfl) ?_
                            refine below_run (by kernel_rfl) (.pointer (some (Addr.add a ((k - 1) * 3)))) (fun w' hw' => exec_index 31 (.tmp 89) (.tmp 91) rfl a n c (by kernel_rfl) .i64 (k - 1) (by kernel_rfl) hk2 96 Tryd.underlying31 3 szPrI) ?_
                            refine below_run (by kernel_rfl) (.agg (prV (rdP f.pairs (k - 1))).toArray) (fun w' hw' => exec_loadV 96 (.tmp 92) rfl (a.add ((k - 1) * 3)) (by kernel_rfl) (prV (rdP f.pairs (k - 1))) _ (HR3.out.next hw') Tryd.underlying96 rfl szPrI) ?_
                            refine below_run (by kernel_rfl) (.agg (prV (rdP f.pairs k)).toArray) (fun w' hw' => exec_loadV 96 (.tmp 5) rfl ⟨g2, 0, none⟩ (by kernel_rfl) (prV (rdP f.pairs k)) _ (HR4.out.next hw') Tryd.underlying96 rfl szPrI) ?_
                            refine below_call (by kernel_rfl) 96 #[.agg (prV (rdP f.pairs (k - 1))).toArray, .agg (prV (rdP f.pairs k)).toArray] (.bool true) (fun w' => by kernel_rfl) (fun w' hw' => (ahead_is _ _ w' e6).mono fun e w1 ⟨he, hb1⟩ => ⟨he, below_step hw' hb1⟩) ?_
                            refine below_run (by kernel_rfl) (.bool false) (fun w' hw' => by kernel_rfl) ?_
                            refine below_run (by kernel_rfl) (.bool false) (fun w' hw' => by kernel_rfl) ?_
                            refine wpQuiet_nil ?_
                            intro W3 hW3
                            simp only [Act.put, List.setIfInBounds_toArray, List.set_cons_succ, List.set_cons_zero]
                            go_wp2
                            go_roundw
                            case rel => exact ⟨k + 1, by omega, by go_num, HP.out, ⟨below_step hbel hW3⟩⟩
                            case measure => simp [intOf]; omega
                    · have HP := Lib.hid (shape_pr (f := f) (k := k) (by rw [HN.out]; exact hlt) (prAt_z e4))
                      go_quiet ((first | (go_at_call 76; refine (letter_spec _ _).mono ?_; rintro e w' ⟨rfl, rfl⟩; exact ⟨rfl, _, rfl⟩) | (go_at_call 61; refine (inS_any _ _ _ _).mono ?_; rintro e w' ⟨rfl, rfl⟩; exact ⟨rfl, _, rfl⟩)))
                      go_wp2
                      go_ret
                      exact ⟨retB HP.out.symm, below_drewN hbel _⟩
            · obtain rfl : k = n := by omega
              have HP := Lib.hid (shapeF_true HSP.out HGP.out HW.out (by rw [HN.out]; exact HR2.out))
              go_wp2
              go_ret
              exact ⟨retB HP.out.symm, hbel⟩
end Go.Proofs.YtjgflkoefimmoaaDoor
