/- Contracts: faces, by the reference: the gap of a pair, what is valid. Contracts: a face is valid, by the reference. Contracts: pairs are compared, by the program. Contracts: a face is valid, by the program; the gap of a pair, by the program. Contracts: a face is valid, both sides; the gap of a pair, by the program. -/
import Derived.Test.YtnlnjpdnhdmndaaGreatDoorGC
import Derived.Test.YtnlnjpdnhdmndaaGreatDoorGB
import Derived.Test.YtnlnjpdnhdmndaaGreatDoorGA
import Derived.IntWalk
import Derived.StillTailTactics
import Derived.BigQuiet
namespace Go.Proofs.YtnlnjpdnhdmndaaGreatDoor
open Go Go.RowKit
set_option linter.unusedVariables false
set_option linter.unusedSimpArgs false

/-- A face at block b. -/
def FcAt (w : World) (b : Nat) (f : Fc) (n : Nat) : Prop := ∃ A c, Blk w b 35 (fcV f (.slice A n c)) ∧ SlP w A f.pairs
theorem FcAt.next {w w' : World} {b : Nat} {f : Fc} {n : Nat} (h : FcAt w b f n) (hb : Below w.heap.size w w') : FcAt w' b f n := by
  obtain ⟨A, c, h1, h2⟩ := h
  exact ⟨A, c, h1.next hb, h2.next hb⟩
theorem FcAt.drewN {w : World} {b : Nat} {f : Fc} {n : Nat} (h : FcAt w b f n) (q : Nat) : FcAt (w.drewN q) b f n := h
theorem FcAt.lt {w : World} {b : Nat} {f : Fc} {n : Nat} (h : FcAt w b f n) : b < w.heap.size := by
  obtain ⟨A, c, h1, h2⟩ := h
  exact h1.lt
theorem pr_walk {w : World} {a : Addr} {p : Pr} (h : RowV w a (prV p)) : w.cell? a = some (.int .u8 p.a) ∧ w.cell? ⟨a.block, a.off + 1, none⟩ = some (.int .u8 p.b) ∧ w.cell? ⟨a.block, a.off + 2, none⟩ = some (.int .i8 p.y) :=
  ⟨by have := h 0 _ rfl; simpa [Addr.add] using this, h 1 _ rfl, h 2 _ rfl⟩

def NoP (ps : List Pr) (a b : Int) (k : Nat) : Prop := ∀ i, i < k → isP (rdP ps i) a b = false
theorem noP_zero (ps : List Pr) (a b : Int) : NoP ps a b 0 := fun i hi => by omega
theorem noP_succ {ps : List Pr} {a b : Int} {k : Nat} (h : NoP ps a b k) (hk : isP (rdP ps k) a b = false) : NoP ps a b (k + 1) := fun j hj => by
  rcases Nat.lt_succ_iff_lt_or_eq.1 hj with h1 | rfl
  · exact h j h1
  · exact hk

set_option maxHeartbeats 1000000 in
set_option maxRecDepth 100000 in
theorem by_spec (f : Fc) (n b0 : Nat) (x y : Int) (w : World) (hf : FcT f) (hn : f.pairs.length = n) (hm : n ≤ 1048576) (h : FcAt w b0 f n) :
    Calls Tryz.prog 61 #[.pointer (some ⟨b0, 0, none⟩), .int .u8 x, .int .u8 y] w fun e w' => e = .returned (.int .i64 (byP f.pairs x y)) ∧ w = w' := by
  obtain ⟨A, c, hk, hs⟩ := h
  have c28 := hk.cell 28 _ (fcV_pairs hf _)
  have HS := Lib.hid hs
  have HN := Lib.hid hn
  have HF := Lib.hid hf.pairs
  clear hk hs hn hf
  go_enter Tryz.func61, Tryz.ntmps61
  go_wp2
  go_loop [7] (fun i => ∃ k : Nat, k ≤ n ∧ i = .int .i64 k ∧ NoP f.pairs x y k) (fun i => n - (intOf i).toNat)
  case atStart => exact ⟨0, by omega, rfl, noP_zero _ _ _⟩
  case round =>
    obtain ⟨k, hk, rfl, hr⟩ := hrel
    have HR := Lib.hid hr
    clear hr
    by_cases hlt : k < n
    · obtain ⟨a, rfl, hrow⟩ := HS.out.get k (by rw [HN.out]; omega)
      obtain ⟨p0, p1, p2⟩ := pr_walk hrow
      have ht := (HF.out k (by rw [HN.out]; omega)).y
      clear hrow
      cases e1 : ((rdP f.pairs k).a == x)
      · have HP := Lib.hid (noP_succ HR.out (show isP (rdP f.pairs k) x y = false by unfold isP; rw [e1]; rfl))
        go_wp2
        go_round
        case rel => exact ⟨k + 1, by omega, by go_num, HP.out⟩
        case measure => simp [intOf]; omega
      · cases e2 : ((rdP f.pairs k).b == y)
        · have HP := Lib.hid (noP_succ HR.out (show isP (rdP f.pairs k) x y = false by unfold isP; rw [e1, e2]; rfl))
          go_wp2
          go_round
          case rel => exact ⟨k + 1, by omega, by go_num, HP.out⟩
          case measure => simp [intOf]; omega
        · have HP := Lib.hid (byP_hit (ps := f.pairs) (a := x) (b := y) (k := k) (by rw [HN.out]; omega) HR.out (show isP (rdP f.pairs k) x y = true by unfold isP; rw [e1, e2]; rfl))
          go_wp2
          go_ret
          exact ⟨retI HP.out.symm, rfl⟩
    · obtain rfl : k = n := by omega
      have HP := Lib.hid (byP_none (ps := f.pairs) (a := x) (b := y) (by rw [HN.out]; exact HR.out))
      go_wp2
      go_ret
      exact ⟨retI HP.out.symm, rfl⟩

set_option maxRecDepth 100000 in
theorem ahead_spec (p q : Pr) (w : World) :
    Calls Tryz.prog 59 #[.agg (prV p).toArray, .agg (prV q).toArray] w fun e w' => e = .returned (.bool (ahead p q)) ∧ Below w.heap.size w w' := by
  obtain ⟨a, b, y⟩ := p
  obtain ⟨a', b', y'⟩ := q
  have e : (prV ⟨a, b, y⟩).toArray = #[.int .u8 a, .int .u8 b, .int .i8 y] := rfl
  have e' : (prV ⟨a', b', y'⟩).toArray = #[.int .u8 a', .int .u8 b', .int .i8 y'] := rfl
  have ea : ahead ⟨a, b, y⟩ ⟨a', b', y'⟩ = (decide (a < a') || (a == a' && decide (b < b'))) := rfl
  rw [e, e', ea]
  clear e e' ea
  by_cases h1 : a < a'
  · go_enter Tryz.func59, Tryz.ntmps59
    go_wp2
    go_ret
    exact ⟨retB (by simp [h1]), below_two _ _ _⟩
  · cases h2 : (a == a')
    · go_enter Tryz.func59, Tryz.ntmps59
      go_wp2
      go_ret
      exact ⟨retB (by simp [h1]), below_two _ _ _⟩
    · go_enter Tryz.func59, Tryz.ntmps59
      go_wp2
      go_ret
      exact ⟨retB (by simp; omega), below_two _ _ _⟩
end Go.Proofs.YtnlnjpdnhdmndaaGreatDoor
namespace Go.Proofs.YtnlnjpdnhdmndaaGreatDoor
open Go Go.RowKit
set_option linter.unusedVariables false
set_option linter.unusedSimpArgs false

structure ShRel (w wr : World) : Prop where
  below : Below w.heap.size w wr
theorem prAt_a {f : Fc} {k : Nat} (h : isLet (rdP f.pairs k).a = false) : prAt f k = false := by unfold prAt prOk; rw [h]; rfl
theorem prAt_b {f : Fc} {k : Nat} (h : isLet (rdP f.pairs k).b = false) : prAt f k = false := by unfold prAt prOk; rw [h]; simp
theorem prAt_y {f : Fc} {k : Nat} (h : inB (-10) 10 (rdP f.pairs k).y = false) : prAt f k = false := by unfold prAt prOk; rw [h]; simp
theorem prAt_z {f : Fc} {k : Nat} (h : ((rdP f.pairs k).y == 0) = true) : prAt f k = false := by unfold prAt prOk; rw [h]; simp
theorem prAt_s {f : Fc} {k : Nat} (h : f.gap + (rdP f.pairs k).y < 0) : prAt f k = false := by
  unfold prAt prOk; rw [decide_eq_false (show ¬ 0 ≤ f.gap + (rdP f.pairs k).y by omega)]; simp
theorem prAt_o {f : Fc} {k : Nat} (h0 : k ≠ 0) (h : ahead (rdP f.pairs (k - 1)) (rdP f.pairs k) = false) : prAt f k = false := by unfold prAt; rw [h]; simp [h0]
theorem prAt_ok {f : Fc} {k : Nat} (h1 : isLet (rdP f.pairs k).a = true) (h2 : isLet (rdP f.pairs k).b = true) (h3 : inB (-10) 10 (rdP f.pairs k).y = true) (h4 : ((rdP f.pairs k).y == 0) = false) (h5 : 0 ≤ f.gap + (rdP f.pairs k).y)
    (h6 : k = 0 ∨ ahead (rdP f.pairs (k - 1)) (rdP f.pairs k) = true) : prAt f k = true := by
  unfold prAt prOk
  rw [h1, h2, h3, h4, decide_eq_true h5]
  rcases h6 with h | h <;> simp [h]

theorem shapeF_true {f : Fc} (h1 : inB 1 40 f.space = true) (h2 : inB 0 10 f.gap = true) (h3 : AllWd f 26) (h4 : AllPr f f.pairs.length) : shapeF f = true := by
  rw [shape_all h3 h4, h1, h2]; rfl
theorem ahead_is (p q : Pr) (w : World) {v : Bool} (h : ahead p q = v) : Calls Tryz.prog 59 #[.agg (prV p).toArray, .agg (prV q).toArray] w fun e w' => e = .returned (.bool v) ∧ Below w.heap.size w w' :=
  (ahead_spec p q w).mono fun e w' ⟨he, hb⟩ => ⟨he.trans (retB h), hb⟩
theorem slp_at {w : World} {a : Addr} {ps : List Pr} (h : SlP w (some a) ps) (i : Nat) (hi : i < ps.length) : RowV w (a.add (i * 3)) (prV (rdP ps i)) := by
  obtain ⟨a', e, h1⟩ := h.get i hi
  obtain rfl := Option.some.inj e
  exact h1
theorem pr_row {w : World} {g : Nat} {t : TypeId} {p : Pr} (h : Blk w g t (prV p)) : RowV w ⟨g, 0, none⟩ (prV p) := h.rowV 0 3

attribute [local irreducible] wpQuiet in
set_option maxHeartbeats 4000000 in
set_option maxRecDepth 100000 in
theorem shape_spec (f : Fc) (n b0 : Nat) (w : World) (hf : FcT f) (hn : f.pairs.length = n) (hm : n ≤ 1048576) (h : FcAt w b0 f n) :
    Calls Tryz.prog 41 #[.pointer (some ⟨b0, 0, none⟩)] w fun e w' => e = .returned (.bool (shapeF f)) ∧ Below w.heap.size w w' := by
  obtain ⟨A, c, hk, hs⟩ := h
  have HS := Lib.hid hs
  have HN := Lib.hid hn
  have HF := Lib.hid hf
  have HK := Lib.hid hk
  have tsp := hf.space
  have tgp := hf.gap
  clear hs hn hf hk
  go_enter Tryz.func41, Tryz.ntmps41
  go_wp2
  go_loop [3] (fun i => ∃ k : Nat, k ≤ 26 ∧ i = .int .i64 k ∧ AllWd f k) (fun i => 26 - (intOf i).toNat)
  case atStart => exact ⟨0, by omega, rfl, allWd_zero _⟩
  case round =>
    obtain ⟨k, hk, rfl, hr⟩ := hrel
    have HR := Lib.hid hr
    clear hr
    by_cases hlt : k < 26
    · have hc := HK.out.cell k _ (fcV_wide HF.out _ k hlt)
      have tw := HF.out.wide k hlt
      cases hl : inB 1 40 (rdI f.wide k)
      · have HP := Lib.hid (shape_wd hlt hl)
        have HL := Lib.hid hl
        go_wp2_with (go_at_call 44; refine (inS_any _ _ _ _).mono ?_; rintro e w' ⟨rfl, rfl⟩)
        go_ret
        exact ⟨retB HP.out.symm, Below.refl _ _⟩
      · have HP := Lib.hid (allWd_succ HR.out hl)
        have HL := Lib.hid hl
        go_wp2_with (go_at_call 44; refine (inS_any _ _ _ _).mono ?_; rintro e w' ⟨rfl, rfl⟩)
        go_round
        case rel => exact ⟨k + 1, by omega, by go_num, HP.out⟩
        case measure => simp [intOf]; omega
    · obtain rfl : k = 26 := by omega
      have c26 := HK.out.cell 26 _ (fcV_space HF.out _)
      have c27 := HK.out.cell 27 _ (fcV_gap HF.out _)
      have c28 := HK.out.cell 28 _ (fcV_pairs HF.out _)
      cases hsp : inB 1 40 f.space
      · have HP := Lib.hid (shape_sp hsp)
        go_wp2_with (go_at_call 44; refine (inS_any _ _ _ _).mono ?_; rintro e w' ⟨rfl, rfl⟩)
        go_ret
        exact ⟨retB HP.out.symm, Below.refl _ _⟩
      · cases hgp : inB 0 10 f.gap
        · have HP := Lib.hid (shape_gp hgp)
          go_wp2_with (go_at_call 44; refine (inS_any _ _ _ _).mono ?_; rintro e w' ⟨rfl, rfl⟩)
          go_ret
          exact ⟨retB HP.out.symm, Below.refl _ _⟩
        · have HSP := Lib.hid hsp
          have HGP := Lib.hid hgp
          have bg := inB_iff.1 hgp
          go_wp2_with (go_at_call 44; refine (inS_any _ _ _ _).mono ?_; rintro e w' ⟨rfl, rfl⟩)
          clear hsp hgp
          have HW := Lib.hid HR.out
          go_loopw [4] (fun i wr => ∃ k : Nat, k ≤ n ∧ i = .int .i64 k ∧ AllPr f k ∧ ShRel w wr) (fun i _ => n - (intOf i).toNat)
          case atStart => exact ⟨0, by omega, rfl, allPr_zero _, ⟨Below.refl _ _⟩⟩
          case round =>
            clear c26 c27 c28
            obtain ⟨k, hk, rfl, hr, hsh⟩ := hrel
            have HR2 := Lib.hid hr
            have hbel := hsh.below
            clear hr hsh
            have hK := HK.out.below hbel HK.out.lt
            have c27 := hK.cell 27 _ (fcV_gap HF.out _)
            have c28 := hK.cell 28 _ (fcV_pairs HF.out _)
            by_cases hlt : k < n
            · obtain ⟨a, rfl, hrow⟩ := (HS.out.next hbel).get k (by rw [HN.out]; omega)
              have tp := HF.out.pairs k (by rw [HN.out]; omega)
              have ty := tp.y
              have ta := tp.a
              have tb := tp.b
              have HRow := Lib.hid hrow
              have HK2 := Lib.hid hK
              have hB2 := step_alloc hbel (.cells (prV (rdP f.pairs k)).toArray 84)
              clear tp hK
              go_wp2_with (first
                | (refine wpList_loadV rfl 84 (.tmp 49) rfl (a.add (k * 3)) rfl (prV (rdP f.pairs k)) _ hrow Tryz.underlying84 rfl szPrI ?_; clear hrow)
                | (refine wpList_store_new rfl 84 _ _ rfl (prV (rdP f.pairs k)).toArray rfl rfl 84 _ szPrI rfl (one_pr _) ?_))
              simp only [Act.put]
              have hp := Blk.new wr 84 (prV (rdP f.pairs k))
              have c27 := (HK2.out.alloc (.cells (prV (rdP f.pairs k)).toArray 84)).cell 27 _ (fcV_gap HF.out _)
              have hK := HK2.out.alloc (.cells (prV (rdP f.pairs k)).toArray 84)
              have hs2 := HS.out.next hB2
              have hg2 : wr.heap.size < (wr.alloc (.cells (prV (rdP f.pairs k)).toArray 84)).heap.size := by simp
              obtain ⟨g2, hg⟩ : ∃ g2, g2 = wr.heap.size := ⟨_, rfl⟩
              rw [← hg] at hp hg2 ⊢
              clear hg c28
              have hbel := hB2
              clear hB2 HRow
              generalize wr.alloc (.cells (prV (rdP f.pairs k)).toArray 84) = W1 at *
              have q0 := hp.cell 0 _ rfl
              have q1 := hp.cell 1 _ rfl
              have q2 := hp.cell 2 _ rfl
              have HP2 := Lib.hid hp
              have HK3 := Lib.hid hK
              have HS2 := Lib.hid hs2
              clear hp hK hs2
              cases e1 : isLet (rdP f.pairs k).a
              · have HP := Lib.hid (shape_pr (f := f) (k := k) (by rw [HN.out]; exact hlt) (prAt_a e1))
                go_quiet ((first | (go_at_call 58; refine (letter_spec _ _).mono ?_; rintro e w' ⟨rfl, rfl⟩; exact ⟨rfl, _, rfl⟩) | (go_at_call 44; refine (inS_any _ _ _ _).mono ?_; rintro e w' ⟨rfl, rfl⟩; exact ⟨rfl, _, rfl⟩)))
                go_wp2
                go_ret
                exact ⟨retB HP.out.symm, below_drewN hbel _⟩
              · cases e2 : isLet (rdP f.pairs k).b
                · have HP := Lib.hid (shape_pr (f := f) (k := k) (by rw [HN.out]; exact hlt) (prAt_b e2))
                  go_quiet ((first | (go_at_call 58; refine (letter_spec _ _).mono ?_; rintro e w' ⟨rfl, rfl⟩; exact ⟨rfl, _, rfl⟩) | (go_at_call 44; refine (inS_any _ _ _ _).mono ?_; rintro e w' ⟨rfl, rfl⟩; exact ⟨rfl, _, rfl⟩)))
                  go_wp2
                  go_ret
                  exact ⟨retB HP.out.symm, below_drewN hbel _⟩
                · cases e3 : inB (-10) 10 (rdP f.pairs k).y
                  · have HP := Lib.hid (shape_pr (f := f) (k := k) (by rw [HN.out]; exact hlt) (prAt_y e3))
                    go_quiet ((first | (go_at_call 58; refine (letter_spec _ _).mono ?_; rintro e w' ⟨rfl, rfl⟩; exact ⟨rfl, _, rfl⟩) | (go_at_call 44; refine (inS_any _ _ _ _).mono ?_; rintro e w' ⟨rfl, rfl⟩; exact ⟨rfl, _, rfl⟩)))
                    go_wp2
                    go_ret
                    exact ⟨retB HP.out.symm, below_drewN hbel _⟩
                  · have by3 := inB_iff.1 e3
                    cases e4 : ((rdP f.pairs k).y == 0)
                    · have hw8 : IntKind.i8.wrap (f.gap + (rdP f.pairs k).y) = f.gap + (rdP f.pairs k).y := IntWalk.i8_in _ (by omega)
                      by_cases e5 : f.gap + (rdP f.pairs k).y < 0
                      · have HP := Lib.hid (shape_pr (f := f) (k := k) (by rw [HN.out]; exact hlt) (prAt_s e5))
                        go_quiet ((first | (go_at_call 58; refine (letter_spec _ _).mono ?_; rintro e w' ⟨rfl, rfl⟩; exact ⟨rfl, _, rfl⟩) | (go_at_call 44; refine (inS_any _ _ _ _).mono ?_; rintro e w' ⟨rfl, rfl⟩; exact ⟨rfl, _, rfl⟩)))
                        go_wp2
                        go_ret
                        exact ⟨retB HP.out.symm, below_drewN hbel _⟩
                      · have E5 := Lib.hid (show 0 ≤ f.gap + (rdP f.pairs k).y by omega)
                        have E1 := Lib.hid e1
                        have E2 := Lib.hid e2
                        have E3 := Lib.hid e3
                        have E4 := Lib.hid e4
                        go_quiet ((first | (go_at_call 58; refine (letter_spec _ _).mono ?_; rintro e w' ⟨rfl, rfl⟩; exact ⟨rfl, _, rfl⟩) | (go_at_call 44; refine (inS_any _ _ _ _).mono ?_; rintro e w' ⟨rfl, rfl⟩; exact ⟨rfl, _, rfl⟩)))
                        go_wp2
                        clear e1 e2 e3 e4 hw8 q0 q1 q2 c27
                        have hbel := below_drewN hbel nq
                        have HK4 := Lib.hid (HK3.out.drewN nq)
                        have HS4 := Lib.hid (HS2.out.drewN nq)
                        have HP4 := Lib.hid (HP2.out.drewN nq)
                        clear HK3 HS2 HP2
                        generalize hW2 : World.drewN W1 nq = W2 at *
                        clear hW2
                        by_cases hk0 : k = 0
                        · have HP := Lib.hid (allPr_succ HR2.out (prAt_ok E1.out E2.out E3.out E4.out E5.out (.inl hk0)))
                          have hk1 : decide (0 < k) = false := by simp; omega
                          clear hk0 e5
                          go_quiet (fail)
                          go_wp2
                          go_roundw
                          case rel => exact ⟨k + 1, by omega, by go_num, HP.out, ⟨below_drewN hbel _⟩⟩
                          case measure => simp [intOf]; omega
                        · have hk1 : decide ((0 : Int) < (k : Int)) = true := by simp; omega
                          have hk2 : k - 1 < n := by omega
                          have hsub : IntKind.i64.wrap ((k : Int) - 1) = ((k - 1 : Nat) : Int) := by rw [IntWalk.i64_in _ (by omega)]; omega
                          have HR3 := Lib.hid (slp_at HS4.out (k - 1) (by rw [HN.out]; exact hk2))
                          have HR4 := Lib.hid (pr_row HP4.out)
                          cases e6 : ahead (rdP f.pairs (k - 1)) (rdP f.pairs k)
                          · have HP := Lib.hid (shape_pr (f := f) (k := k) (by rw [HN.out]; exact hlt) (prAt_o hk0 e6))
                            clear hk0 e5
                            refine region_below (W2.heap.size) (by kernel_rfl) (by kernel_rfl) ?_
                            refine below_run (by kernel_rfl) (.int .i64 k) (fun w' hw' => by kernel_rfl) ?_
                            refine below_run (by kernel_rfl) (.bool true) (fun w' hw' => by rw [← hk1]; kernel_rfl) ?_
                            refine below_run (by kernel_rfl) (.bool true) (fun w' hw' => by kernel_rfl) ?_
                            refine below_run (by kernel_rfl) (.pointer (some ⟨b0, 0, none⟩)) (fun w' hw' => by kernel_rfl) ?_
                            refine below_run (by kernel_rfl) (.pointer (some ⟨b0, 0, none⟩)) (fun w' hw' => by kernel_rfl) ?_
                            refine below_run (by kernel_rfl) (.pointer (some ⟨b0, 28, none⟩)) (fun w' hw' => by kernel_rfl) ?_
                            refine below_run (by kernel_rfl) (.slice (some a) n c) (fun w' hw' => exec_load1 33 (.tmp 88) rfl ⟨b0, 28, none⟩ (by kernel_rfl) (.slice (some a) n c) ((HK4.out.next hw').cell 28 _ (fcV_pairs HF.out _)) _ Tryz.underlying33 rfl) ?_
                            refine below_run (by kernel_rfl) (.int .i64 k) (fun w' hw' => by kernel_rfl) ?_
                            refine below_run (by kernel_rfl) (.int .i64 ((k - 1 : Nat) : Int)) (fun w' hw' => by rw [← hsub]; kernel_rfl) ?_
                            refine below_run (by kernel_rfl) (.pointer (some (Addr.add a ((k - 1) * 3)))) (fun w' hw' => exec_index 33 (.tmp 89) (.tmp 91) rfl a n c (by kernel_rfl) .i64 (k - 1) (by kernel_rfl) hk2 84 Tryz.underlying33 3 szPrI) ?_
                            refine below_run (by kernel_rfl) (.agg (prV (rdP f.pairs (k - 1))).toArray) (fun w' hw' => exec_loadV 84 (.tmp 92) rfl (a.add ((k - 1) * 3)) (by kernel_rfl) (prV (rdP f.pairs (k - 1))) _ (HR3.out.next hw') Tryz.underlying84 rfl szPrI) ?_
                            refine below_run (by kernel_rfl) (.agg (prV (rdP f.pairs k)).toArray) (fun w' hw' => exec_loadV 84 (.tmp 5) rfl ⟨g2, 0, none⟩ (by kernel_rfl) (prV (rdP f.pairs k)) _ (HR4.out.next hw') Tryz.underlying84 rfl szPrI) ?_
                            refine below_call (by kernel_rfl) 59 #[.agg (prV (rdP f.pairs (k - 1))).toArray, .agg (prV (rdP f.pairs k)).toArray] (.bool false) (fun w' => by kernel_rfl) (fun w' hw' => (ahead_is _ _ w' e6).mono fun e w1 ⟨he, hb1⟩ => ⟨he, below_step hw' hb1⟩) ?_
                            refine below_run (by kernel_rfl) (.bool true) (fun w' hw' => by kernel_rfl) ?_
                            refine below_run (by kernel_rfl) (.bool true) (fun w' hw' => by kernel_rfl) ?_
                            refine wpQuiet_nil ?_
                            intro W3 hW3
                            simp only [Act.put, List.setIfInBounds_toArray, List.set_cons_succ, List.set_cons_zero]
                            go_wp2
                            go_ret
                            exact ⟨retB HP.out.symm, below_step hbel hW3⟩
                          · have HP := Lib.hid (allPr_succ HR2.out (prAt_ok E1.out E2.out E3.out E4.out E5.out (.inr e6)))
                            clear hk0 e5
                            refine region_below (W2.heap.size) (by kernel_rfl) (by kernel_rfl) ?_
                            refine below_run (by kernel_rfl) (.int .i64 k) (fun w' hw' => by kernel_rfl) ?_
                            refine below_run (by kernel_rfl) (.bool true) (fun w' hw' => by rw [← hk1]; kernel_rfl) ?_
                            refine below_run (by kernel_rfl) (.bool true) (fun w' hw' => by kernel_rfl) ?_
                            refine below_run (by kernel_rfl) (.pointer (some ⟨b0, 0, none⟩)) (fun w' hw' => by kernel_rfl) ?_
                            refine below_run (by kernel_rfl) (.pointer (some ⟨b0, 0, none⟩)) (fun w' hw' => by kernel_rfl) ?_
                            refine below_run (by kernel_rfl) (.pointer (some ⟨b0, 28, none⟩)) (fun w' hw' => by kernel_rfl) ?_
                            refine below_run (by kernel_rfl) (.slice (some a) n c) (fun w' hw' => exec_load1 33 (.tmp 88) rfl ⟨b0, 28, none⟩ (by kernel_rfl) (.slice (some a) n c) ((HK4.out.next hw').cell 28 _ (fcV_pairs HF.out _)) _ Tryz.underlying33 rfl) ?_
                            refine below_run (by kernel_rfl) (.int .i64 k) (fun w' hw' => by kernel_rfl) ?_
                            refine below_run (by kernel_rfl) (.int .i64 ((k - 1 : Nat) : Int)) (fun w' hw' => by rw [← hsub]; kernel_rfl) ?_
                            refine below_run (by kernel_rfl) (.pointer (some (Addr.add a ((k - 1) * 3)))) (fun w' hw' => exec_index 33 (.tmp 89) (.tmp 91) rfl a n c (by kernel_rfl) .i64 (k - 1) (by kernel_rfl) hk2 84 Tryz.underlying33 3 szPrI) ?_
                            refine below_run (by kernel_rfl) (.agg (prV (rdP f.pairs (k - 1))).toArray) (fun w' hw' => exec_loadV 84 (.tmp 92) rfl (a.add ((k - 1) * 3)) (by kernel_rfl) (prV (rdP f.pairs (k - 1))) _ (HR3.out.next hw') Tryz.underlying84 rfl szPrI) ?_
                            refine below_run (by kernel_rfl) (.agg (prV (rdP f.pairs k)).toArray) (fun w' hw' => exec_loadV 84 (.tmp 5) rfl ⟨g2, 0, none⟩ (by kernel_rfl) (prV (rdP f.pairs k)) _ (HR4.out.next hw') Tryz.underlying84 rfl szPrI) ?_
                            refine below_call (by kernel_rfl) 59 #[.agg (prV (rdP f.pairs (k - 1))).toArray, .agg (prV (rdP f.pairs k)).toArray] (.bool true) (fun w' => by kernel_rfl) (fun w' hw' => (ahead_is _ _ w' e6).mono fun e w1 ⟨he, hb1⟩ => ⟨he, below_step hw' hb1⟩) ?_
                            refine below_run (by kernel_rfl) (.bool false) (fun w' hw' => by kernel_rfl) ?_
                            refine below_run (by kernel_rfl) (.bool false) (fun w' hw' => by kernel_rfl) ?_
                            refine wpQuiet_nil ?_
                            intro W3 hW3
                            simp only [Act.put, List.setIfInBounds_toArray, List.set_cons_succ, List.set_cons_zero]
                            go_wp2
                            go_roundw
                            case rel => exact ⟨k + 1, by omega, by go_num, HP.out, ⟨below_step hbel hW3⟩⟩
                            case measure => simp [intOf]; omega
                    · have HP := Lib.hid (shape_pr (f := f) (k := k) (by rw [HN.out]; exact hlt) (prAt_z e4))
                      go_quiet ((first | (go_at_call 58; refine (letter_spec _ _).mono ?_; rintro e w' ⟨rfl, rfl⟩; exact ⟨rfl, _, rfl⟩) | (go_at_call 44; refine (inS_any _ _ _ _).mono ?_; rintro e w' ⟨rfl, rfl⟩; exact ⟨rfl, _, rfl⟩)))
                      go_wp2
                      go_ret
                      exact ⟨retB HP.out.symm, below_drewN hbel _⟩
            · obtain rfl : k = n := by omega
              have HP := Lib.hid (shapeF_true HSP.out HGP.out HW.out (by rw [HN.out]; exact HR2.out))
              go_wp2
              go_ret
              exact ⟨retB HP.out.symm, hbel⟩
end Go.Proofs.YtnlnjpdnhdmndaaGreatDoor
namespace Go.Proofs.YtnlnjpdnhdmndaaGreatDoor
open Go Go.RowKit
set_option linter.unusedVariables false
set_option linter.unusedSimpArgs false

def cmpU (x y : Int) : Int := if x < y then -1 else if y < x then 1 else 0
def cmpP (p q : Pr) : Int := if (cmpU p.a q.a != 0) = true then cmpU p.a q.a else cmpU p.b q.b
theorem cmpP_ahead (p q : Pr) : decide (0 ≤ cmpP p q) = !ahead p q := by
  unfold cmpP cmpU ahead
  by_cases h1 : p.a < q.a
  · simp [h1]
  · by_cases h2 : q.a < p.a
    · have : ¬ p.a = q.a := by omega
      simp [h1, h2, this]
    · have e : p.a = q.a := by omega
      by_cases h3 : p.b < q.b
      · simp [e, h3]
      · by_cases h4 : q.b < p.b <;> simp [e, h3, h4]
theorem cmpP_range (p q : Pr) : -1 ≤ cmpP p q ∧ cmpP p q ≤ 1 := by
  unfold cmpP cmpU
  split <;> split <;> (try split) <;> omega
theorem cmpU_range (x y : Int) : -1 ≤ cmpU x y ∧ cmpU x y ≤ 1 := by unfold cmpU; split <;> (try split) <;> omega
theorem isNaN_any (x : Int) (w : World) : Calls Tryz.prog 112 #[.int .u8 x] w fun e w' => e = .returned (.bool false) ∧ w = w' := by
  have h : (x != x) = false := by simp
  go_enter Tryz.func112, Tryz.ntmps112
  go_wp2
  go_ret
  exact ⟨rfl, rfl⟩
theorem cmp_any (x y : Int) (w : World) : Calls Tryz.prog 106 #[.int .u8 x, .int .u8 y] w fun e w' => e = .returned (.int .i64 (cmpU x y)) ∧ w' = w := by
  by_cases h1 : x < y
  · have HE := Lib.hid (show cmpU x y = -1 by unfold cmpU; rw [if_pos h1])
    go_enter Tryz.func106, Tryz.ntmps106
    go_wp2_with (go_at_call 112; refine (isNaN_any _ _).mono ?_; rintro e w' ⟨rfl, rfl⟩)
    go_ret
    exact ⟨by rw [HE.out]; rfl, rfl⟩
  · by_cases h2 : y < x
    · have HE := Lib.hid (show cmpU x y = 1 by unfold cmpU; rw [if_neg h1, if_pos h2])
      go_enter Tryz.func106, Tryz.ntmps106
      go_wp2_with (go_at_call 112; refine (isNaN_any _ _).mono ?_; rintro e w' ⟨rfl, rfl⟩)
      go_ret
      exact ⟨by rw [HE.out]; rfl, rfl⟩
    · have HE := Lib.hid (show cmpU x y = 0 by unfold cmpU; rw [if_neg h1, if_neg h2])
      go_enter Tryz.func106, Tryz.ntmps106
      go_wp2_with (go_at_call 112; refine (isNaN_any _ _).mono ?_; rintro e w' ⟨rfl, rfl⟩)
      go_ret
      exact ⟨by rw [HE.out]; rfl, rfl⟩
def orN (c1 c2 : Int) : Int := if (c1 != 0) = true then c1 else c2
theorem or_any (b : Nat) (c1 c2 : Int) (w : World) (h1 : w.cell? ⟨b, 0, none⟩ = some (.int .i64 c1)) (h2 : w.cell? ⟨b, 1, none⟩ = some (.int .i64 c2)) :
    Calls Tryz.prog 105 #[.slice (some ⟨b, 0, none⟩) 2 2] w fun e w' => e = .returned (.int .i64 (orN c1 c2)) ∧ w = w' := by
  cases e1 : (c1 != 0)
  · cases e2 : (c2 != 0)
    · have HE := Lib.hid (show orN c1 c2 = 0 by unfold orN; rw [e1]; simpa using e2)
      have HC : ∀ k : Nat, k < 2 → ∃ c, w.cell? ⟨b, k, none⟩ = some (.int .i64 c) ∧ (c != 0) = false := by
        intro k hk
        have : k = 0 ∨ k = 1 := by omega
        rcases this with rfl | rfl
        · exact ⟨c1, h1, e1⟩
        · exact ⟨c2, h2, e2⟩
      have HC := Lib.hid HC
      clear h1 h2 e1 e2
      go_enter Tryz.func105, Tryz.ntmps105
      go_wp2
      go_loop [8] (fun i => ∃ k : Nat, k ≤ 2 ∧ i = .int .i64 k) (fun i => 2 - (intOf i).toNat)
      case atStart => exact ⟨0, by omega, rfl⟩
      case round =>
        obtain ⟨k, hk, rfl⟩ := hrel
        by_cases hlt : k < 2
        · obtain ⟨c, hc, he⟩ := HC.out k hlt
          go_wp2
          go_round
          case rel => exact ⟨k + 1, by omega, by go_num⟩
          case measure => simp [intOf]; omega
        · obtain rfl : k = 2 := by omega
          go_wp2
          go_ret
          exact ⟨by rw [HE.out]; rfl, rfl⟩
    · have HE := Lib.hid (show orN c1 c2 = c2 by unfold orN; rw [e1]; rfl)
      have H2 := Lib.hid h2
      have H1 := Lib.hid h1
      clear h1 h2
      go_enter Tryz.func105, Tryz.ntmps105
      go_wp2
      go_loop [8] (fun i => ∃ k : Nat, k ≤ 1 ∧ i = .int .i64 k) (fun i => 2 - (intOf i).toNat)
      case atStart => exact ⟨0, by omega, rfl⟩
      case round =>
        obtain ⟨k, hk, rfl⟩ := hrel
        by_cases hlt : k = 0
        · subst hlt
          have h1 := H1.out
          go_wp2
          go_round
          case rel => exact ⟨1, by omega, by go_num⟩
          case measure => simp [intOf]
        · obtain rfl : k = 1 := by omega
          have h2 := H2.out
          clear hlt
          go_wp2
          go_ret
          exact ⟨by rw [HE.out]; rfl, rfl⟩
  · have HE := Lib.hid (show orN c1 c2 = c1 by unfold orN; rw [e1]; rfl)
    go_enter Tryz.func105, Tryz.ntmps105
    go_wp2
    go_loop [8] (fun i => i = .int .i64 0) (fun i => 0)
    case atStart => rfl
    case round =>
      subst hrel
      go_wp2
      go_ret
      exact ⟨by rw [HE.out]; rfl, rfl⟩

set_option maxRecDepth 100000 in
theorem compare_any (p q : Pr) (w : World) :
    Calls Tryz.prog 96 #[.agg (prV p).toArray, .agg (prV q).toArray] w fun e w' => e = .returned (.int .i64 (cmpP p q)) ∧ Below w.heap.size w w' := by
  obtain ⟨a, b, y⟩ := p
  obtain ⟨a', b', y'⟩ := q
  have e : (prV ⟨a, b, y⟩).toArray = #[.int .u8 a, .int .u8 b, .int .i8 y] := rfl
  have e' : (prV ⟨a', b', y'⟩).toArray = #[.int .u8 a', .int .u8 b', .int .i8 y'] := rfl
  have ea : cmpP ⟨a, b, y⟩ ⟨a', b', y'⟩ = orN (cmpU a a') (cmpU b b') := rfl
  rw [e, e', ea]
  clear e e' ea
  have hB := below_two w (.cells #[.int .u8 a, .int .u8 b, .int .i8 y] 84) (.cells #[.int .u8 a', .int .u8 b', .int .i8 y'] 84)
  go_enter Tryz.func96, Tryz.ntmps96
  go_wp2
  have k0 : Blk ((w.alloc (.cells #[.int .u8 a, .int .u8 b, .int .i8 y] 84)).alloc (.cells #[.int .u8 a', .int .u8 b', .int .i8 y'] 84)) w.heap.size 84 [.int .u8 a, .int .u8 b, .int .i8 y] := (Blk.new w _ _).alloc _
  have k1 : Blk ((w.alloc (.cells #[.int .u8 a, .int .u8 b, .int .i8 y] 84)).alloc (.cells #[.int .u8 a', .int .u8 b', .int .i8 y'] 84)) (w.heap.size + 1) 84 [.int .u8 a', .int .u8 b', .int .i8 y'] := Blk.at_new _ _ _ (by simp) _ _ rfl
  generalize (w.alloc (.cells #[.int .u8 a, .int .u8 b, .int .i8 y] 84)).alloc (.cells #[.int .u8 a', .int .u8 b', .int .i8 y'] 84) = W at *
  have c0 := k0.cell 0 _ rfl
  have c1 := k0.cell 1 _ rfl
  have d0 := k1.cell 0 _ rfl
  have d1 := k1.cell 1 _ rfl
  clear k0 k1
  refine wp_region_still_tail 10 (by kernel_rfl) (by kernel_rfl) ?_
  change wpStill _ _ (World.drew W) _ _ _
  simp only [List.take_succ_cons, List.take_zero, List.drop_succ_cons, List.drop_zero]
  repeat (first
    | (refine wpStill_step (fun K hK => ?_); go_simp; refine hK _ ?_; clear hK K)
    | (refine wpStill_step (fun K hK => ?_); go_simp; refine ⟨_, cmp_any _ _ _, hK _ ?_⟩; clear hK K))
  refine wpStill_nil ?_
  change wpList _ _ _ _ _ (World.drew _)
  have hB := below_drewN hB 1
  go_wp2_with fail
  go_at_call 105
  refine (or_any W.heap.size (cmpU a a') (cmpU b b') _ (by simp) (by simp)).mono ?_
  rintro e w' ⟨rfl, rfl⟩
  go_wp2
  go_ret
  exact ⟨rfl, step_alloc hB _⟩
end Go.Proofs.YtnlnjpdnhdmndaaGreatDoor
namespace Go.Proofs.YtnlnjpdnhdmndaaGreatDoor
open Go Go.RowKit
set_option linter.unusedVariables false
set_option linter.unusedSimpArgs false

theorem let_is (n : Int) (w : World) {v : Bool} (h : isLet n = v) : Calls Tryz.prog 85 #[.int .u8 n] w fun e w' => e = .returned (.bool v) ∧ Below w.heap.size w w' :=
  (letter_impl n w).mono fun e w' ⟨he, hw⟩ => ⟨he.trans (retB h), hw ▸ Below.refl _ _⟩
theorem within_is (n lo hi : Int) (w : World) {v : Bool} (h : inB lo hi n = v) : Calls Tryz.prog 64 #[.int .i64 n, .int .i64 lo, .int .i64 hi] w fun e w' => e = .returned (.bool v) ∧ Below w.heap.size w w' :=
  (withinI_any n lo hi w).mono fun e w' ⟨he, hw⟩ => ⟨he.trans (retB h), hw ▸ Below.refl _ _⟩
/-- The gap is as told: then the first k pairs are as they should be. -/
def Good (f : Fc) (k : Nat) : Prop := inB 0 10 f.gap = true → AllPr f k
theorem good_zero (f : Fc) : Good f 0 := fun _ => allPr_zero f
theorem good_succ {f : Fc} {k : Nat} (h : Good f k) (h1 : isLet (rdP f.pairs k).a = true) (h2 : isLet (rdP f.pairs k).b = true) (h3 : inB (-10) 10 (rdP f.pairs k).y = true) (h4 : ((rdP f.pairs k).y == 0) = false) (h5 : ¬ IntKind.i8.wrap (f.gap + (rdP f.pairs k).y) < 0)
    (h6 : k = 0 ∨ ahead (rdP f.pairs (k - 1)) (rdP f.pairs k) = true) : Good f (k + 1) := fun hg => by
  have b1 := inB_iff.1 hg
  have b2 := inB_iff.1 h3
  rw [IntWalk.i8_in _ (by omega)] at h5
  exact allPr_succ (h hg) (prAt_ok h1 h2 h3 h4 (by omega) h6)
theorem shape_ps {f : Fc} {k : Nat} (hk : k < f.pairs.length) (h3 : inB (-10) 10 (rdP f.pairs k).y = true) (h : IntKind.i8.wrap (f.gap + (rdP f.pairs k).y) < 0) : shapeF f = false := by
  cases hg : inB 0 10 f.gap
  · exact shape_gp hg
  · have b1 := inB_iff.1 hg
    have b2 := inB_iff.1 h3
    rw [IntWalk.i8_in _ (by omega)] at h
    exact shape_pr hk (prAt_s h)
theorem shape_fin {f : Fc} (h1 : AllWd f 26) (h2 : Good f f.pairs.length) : shapeF f = (inB 1 40 f.space && inB 0 10 f.gap) := by
  cases hg : inB 0 10 f.gap
  · rw [shape_gp hg]; simp
  · rw [shape_all h1 (h2 hg), hg]

attribute [local irreducible] wpQuiet in
set_option maxHeartbeats 4000000 in
set_option maxRecDepth 100000 in
theorem isFace_any (f : Fc) (A : Option Addr) (n c : Nat) (w : World) (hf : FcT f) (hn : f.pairs.length = n) (hm : n ≤ 1048576) (hs : SlP w A f.pairs) :
    Calls Tryz.prog 82 #[.agg (fcV f (.slice A n c)).toArray] w fun e w' => e = .returned (.bool (shapeF f)) ∧ Below w.heap.size w w' := by
  have hk := Blk.new w 35 (fcV f (.slice A n c))
  have hB := below_one w (.cells (fcV f (.slice A n c)).toArray 35)
  have HS := Lib.hid hs
  have HN := Lib.hid hn
  have HF := Lib.hid hf
  have tsp := hf.space
  have tgp := hf.gap
  have c28 := hk.cell 28 _ (fcV_pairs hf _)
  have HK := Lib.hid hk
  have hsz : (f.wide.map i8v).length = 26 := by rw [List.length_map, hf.len]
  clear hs hn hf hk
  go_enter Tryz.func82, Tryz.ntmps82
  go_wp2_with (refine wpList_load_mid rfl 23 (.tmp 7) rfl w.heap.size 0 rfl (f.wide.map i8v) _ (by have := HK.out.range 0 26; rwa [fcV_head HF.out] at this) Tryz.underlying23 rfl (by rw [hsz]; exact sz26) ?_)
  obtain ⟨b0, hb0⟩ : ∃ b0, b0 = w.heap.size := ⟨_, rfl⟩
  rw [← hb0] at HK c28 ⊢
  have hbw : w.heap.size ≤ b0 := by omega
  clear hb0 hsz
  generalize w.alloc (.cells (fcV f (.slice A n c)).toArray 35) = W0 at *
  go_loop [9] (fun i => ∃ k : Nat, k ≤ 26 ∧ i = .int .i64 k ∧ AllWd f k) (fun i => 26 - (intOf i).toNat)
  case atStart => exact ⟨0, by omega, rfl, allWd_zero _⟩
  case round =>
    obtain ⟨k, hk, rfl, hr⟩ := hrel
    have HR := Lib.hid hr
    clear hr
    by_cases hlt : k < 26
    · have hix := fun w' : World => run_index_arr (P := Tryz.prog) (t := 23) (e := 22) (n := 26) Tryz.underlying23 (by kernel_rfl) (by kernel_rfl) (f.wide.map i8v).toArray .i64 k hlt (.int .i8 (rdI f.wide k)) (by have := map_i8_at f.wide k (by rw [HF.out.len]; exact hlt); simpa using this) w'
      have tw := HF.out.wide k hlt
      cases hl : inB 1 40 (rdI f.wide k)
      · have HP := Lib.hid (shape_wd hlt hl)
        have HL := Lib.hid hl
        go_wp2_with (go_at_call 64; refine (withinI_any _ _ _ _).mono ?_; rintro e w' ⟨rfl, rfl⟩)
        go_ret
        exact ⟨retB HP.out.symm, hB⟩
      · have HP := Lib.hid (allWd_succ HR.out hl)
        have HL := Lib.hid hl
        go_wp2_with (go_at_call 64; refine (withinI_any _ _ _ _).mono ?_; rintro e w' ⟨rfl, rfl⟩)
        go_round
        case rel => exact ⟨k + 1, by omega, by go_num, HP.out⟩
        case measure => simp [intOf]; omega
    · obtain rfl : k = 26 := by omega
      go_wp2
      go_loopw [20] (fun i wr => ∃ k : Nat, k ≤ n ∧ i = .int .i64 k ∧ Good f k ∧ Below W0.heap.size W0 wr) (fun i _ => n - (intOf i).toNat)
      case atStart => exact ⟨0, by omega, rfl, good_zero _, Below.refl _ _⟩
      case round =>
        clear c28
        obtain ⟨k, hk, rfl, hr, hsh⟩ := hrel
        have HR2 := Lib.hid hr
        have HBA := Lib.hid hsh
        have hbel := below_step hB hsh
        have hK := HK.out.next hsh
        clear hr hsh
        by_cases hlt : k < n
        · obtain ⟨a, rfl, hrow⟩ := (HS.out.next hbel).get k (by rw [HN.out]; omega)
          have tp := HF.out.pairs k (by rw [HN.out]; omega)
          have ty := tp.y
          have ta := tp.a
          have tb := tp.b
          have HRow := Lib.hid hrow
          have HK2 := Lib.hid hK
          have hB2 := step_alloc hbel (.cells (prV (rdP f.pairs k)).toArray 84)
          clear tp hK
          go_wp2_with (first
            | (refine wpList_loadV rfl 84 (.tmp 23) rfl (a.add (k * 3)) rfl (prV (rdP f.pairs k)) _ hrow Tryz.underlying84 rfl szPrI ?_; clear hrow)
            | (refine wpList_store_new rfl 84 _ _ rfl (prV (rdP f.pairs k)).toArray rfl rfl 84 _ szPrI rfl (one_pr _) ?_))
          simp only [Act.put]
          have hp := Blk.new wr 84 (prV (rdP f.pairs k))
          have hK := HK2.out.alloc (.cells (prV (rdP f.pairs k)).toArray 84)
          have hs2 := HS.out.next hB2
          have hba := Below.trans (HBA.out) (below_one wr (.cells (prV (rdP f.pairs k)).toArray 84) |>.mono HBA.out.size)
          obtain ⟨g2, hg⟩ : ∃ g2, g2 = wr.heap.size := ⟨_, rfl⟩
          rw [← hg] at hp ⊢
          clear hg
          have hbel := hB2
          clear hB2 HRow
          generalize wr.alloc (.cells (prV (rdP f.pairs k)).toArray 84) = W1 at *
          have q0 := hp.cell 0 _ rfl
          have q1 := hp.cell 1 _ rfl
          have q2 := hp.cell 2 _ rfl
          have c27 := hK.cell 27 _ (fcV_gap HF.out _)
          have HP2 := Lib.hid hp
          have HK3 := Lib.hid hK
          have HS2 := Lib.hid hs2
          have HBA := Lib.hid hba
          clear hp hK hs2 hba
          cases e1 : isLet (rdP f.pairs k).a
          · have HP := Lib.hid (shape_pr (f := f) (k := k) (by rw [HN.out]; exact hlt) (prAt_a e1))
            go_quiet ((first | (go_at_call 85; refine (letter_impl _ _).mono ?_; rintro e w' ⟨rfl, rfl⟩; exact ⟨rfl, _, rfl⟩) | (go_at_call 64; refine (withinI_any _ _ _ _).mono ?_; rintro e w' ⟨rfl, rfl⟩; exact ⟨rfl, _, rfl⟩)))
            go_wp2
            go_ret
            exact ⟨retB HP.out.symm, below_drewN hbel _⟩
          · cases e2 : isLet (rdP f.pairs k).b
            · have HP := Lib.hid (shape_pr (f := f) (k := k) (by rw [HN.out]; exact hlt) (prAt_b e2))
              go_quiet ((first | (go_at_call 85; refine (letter_impl _ _).mono ?_; rintro e w' ⟨rfl, rfl⟩; exact ⟨rfl, _, rfl⟩) | (go_at_call 64; refine (withinI_any _ _ _ _).mono ?_; rintro e w' ⟨rfl, rfl⟩; exact ⟨rfl, _, rfl⟩)))
              go_wp2
              go_ret
              exact ⟨retB HP.out.symm, below_drewN hbel _⟩
            · cases e3 : inB (-10) 10 (rdP f.pairs k).y
              · have HP := Lib.hid (shape_pr (f := f) (k := k) (by rw [HN.out]; exact hlt) (prAt_y e3))
                go_quiet ((first | (go_at_call 85; refine (letter_impl _ _).mono ?_; rintro e w' ⟨rfl, rfl⟩; exact ⟨rfl, _, rfl⟩) | (go_at_call 64; refine (withinI_any _ _ _ _).mono ?_; rintro e w' ⟨rfl, rfl⟩; exact ⟨rfl, _, rfl⟩)))
                go_wp2
                go_ret
                exact ⟨retB HP.out.symm, below_drewN hbel _⟩
              · cases e4 : ((rdP f.pairs k).y == 0)
                · by_cases e5 : IntKind.i8.wrap (f.gap + (rdP f.pairs k).y) < 0
                  · have HP := Lib.hid (shape_ps (f := f) (k := k) (by rw [HN.out]; exact hlt) e3 e5)
                    go_quiet ((first | (go_at_call 85; refine (letter_impl _ _).mono ?_; rintro e w' ⟨rfl, rfl⟩; exact ⟨rfl, _, rfl⟩) | (go_at_call 64; refine (withinI_any _ _ _ _).mono ?_; rintro e w' ⟨rfl, rfl⟩; exact ⟨rfl, _, rfl⟩)))
                    go_wp2
                    go_ret
                    exact ⟨retB HP.out.symm, below_drewN hbel _⟩
                  · by_cases hk0 : k = 0
                    · have HP := Lib.hid (good_succ HR2.out e1 e2 e3 e4 e5 (.inl hk0))
                      have hk1 : decide (0 < k) = false := by simp; omega
                      clear hk0
                      go_quiet ((first | (go_at_call 85; refine (letter_impl _ _).mono ?_; rintro e w' ⟨rfl, rfl⟩; exact ⟨rfl, _, rfl⟩) | (go_at_call 64; refine (withinI_any _ _ _ _).mono ?_; rintro e w' ⟨rfl, rfl⟩; exact ⟨rfl, _, rfl⟩)))
                      go_wp2
                      go_roundw
                      case rel => exact ⟨k + 1, by omega, by go_num, HP.out, below_drewN HBA.out _⟩
                      case measure => simp [intOf]; omega
                    · have hk1 : decide ((0 : Int) < (k : Int)) = true := by simp; omega
                      have hk2 : k - 1 < n := by omega
                      have hsub : IntKind.i64.wrap ((k : Int) - 1) = ((k - 1 : Nat) : Int) := by rw [IntWalk.i64_in _ (by omega)]; omega
                      have hcv : IntKind.i64.wrap (rdP f.pairs k).y = (rdP f.pairs k).y := IntWalk.i64_in _ (by omega)
                      have e5b : decide (IntKind.i8.wrap (f.gap + (rdP f.pairs k).y) < 0) = false := decide_eq_false e5
                      have HR3 := Lib.hid (slp_at HS2.out (k - 1) (by rw [HN.out]; exact hk2))
                      have HR4 := Lib.hid (pr_row HP2.out)
                      have e6b := cmpP_ahead (rdP f.pairs (k - 1)) (rdP f.pairs k)
                      cases e6 : ahead (rdP f.pairs (k - 1)) (rdP f.pairs k)
                      · have HP := Lib.hid (shape_pr (f := f) (k := k) (by rw [HN.out]; exact hlt) (prAt_o hk0 e6))
                        rw [e6] at e6b
                        have e6b : decide (0 ≤ cmpP (rdP f.pairs (k - 1)) (rdP f.pairs k)) = true := e6b
                        clear hk0 q0 q1 q2 c27
                        refine region_below (W1.heap.size) (by kernel_rfl) (by kernel_rfl) ?_
                        refine below_run (by kernel_rfl) (.pointer (some ⟨g2, 0, none⟩)) (fun w' hw' => by kernel_rfl) ?_
                        refine below_run (by kernel_rfl) (.int .u8 (rdP f.pairs k).a) (fun w' hw' => exec_load1 5 (.tmp 25) rfl ⟨g2, 0, none⟩ (by kernel_rfl) (.int .u8 (rdP f.pairs k).a) ((HP2.out.next hw').cell 0 _ rfl) _ Tryz.underlying5 rfl) ?_
                        refine below_call (by kernel_rfl) 85 #[.int .u8 (rdP f.pairs k).a] (.bool true) (fun w' => by kernel_rfl) (fun w' hw' => (let_is _ w' e1).mono fun e w1 ⟨he, hb1⟩ => ⟨he, below_step hw' hb1⟩) ?_
                        refine below_run (by kernel_rfl) (.bool false) (fun w' hw' => by kernel_rfl) ?_
                        refine below_run (by kernel_rfl) (.bool false) (fun w' hw' => by kernel_rfl) ?_
                        refine below_run (by kernel_rfl) (.pointer (some ⟨g2, 1, none⟩)) (fun w' hw' => by kernel_rfl) ?_
                        refine below_run (by kernel_rfl) (.int .u8 (rdP f.pairs k).b) (fun w' hw' => exec_load1 5 (.tmp 30) rfl ⟨g2, 1, none⟩ (by kernel_rfl) (.int .u8 (rdP f.pairs k).b) ((HP2.out.next hw').cell 1 _ rfl) _ Tryz.underlying5 rfl) ?_
                        refine below_call (by kernel_rfl) 85 #[.int .u8 (rdP f.pairs k).b] (.bool true) (fun w' => by kernel_rfl) (fun w' hw' => (let_is _ w' e2).mono fun e w1 ⟨he, hb1⟩ => ⟨he, below_step hw' hb1⟩) ?_
                        refine below_run (by kernel_rfl) (.bool false) (fun w' hw' => by kernel_rfl) ?_
                        refine below_run (by kernel_rfl) (.bool false) (fun w' hw' => by kernel_rfl) ?_
                        refine below_run (by kernel_rfl) (.bool false) (fun w' hw' => by kernel_rfl) ?_
                        refine below_run (by kernel_rfl) (.pointer (some ⟨g2, 2, none⟩)) (fun w' hw' => by kernel_rfl) ?_
                        refine below_run (by kernel_rfl) (.int .i8 (rdP f.pairs k).y) (fun w' hw' => exec_load1 22 (.tmp 36) rfl ⟨g2, 2, none⟩ (by kernel_rfl) (.int .i8 (rdP f.pairs k).y) ((HP2.out.next hw').cell 2 _ rfl) _ Tryz.underlying22 rfl) ?_
                        refine below_run (by kernel_rfl) (.int .i64 (rdP f.pairs k).y) (fun w' hw' => Eq.trans (show (execOp _ _).run _ w' = .ok (.value (.int .i64 (IntKind.i64.wrap (rdP f.pairs k).y))) w' by kernel_rfl) (by rw [hcv])) ?_
                        refine below_call (by kernel_rfl) 64 #[.int .i64 (rdP f.pairs k).y, .int .i64 (-10), .int .i64 10] (.bool true) (fun w' => by kernel_rfl) (fun w' hw' => (within_is _ _ _ w' e3).mono fun e w1 ⟨he, hb1⟩ => ⟨he, below_step hw' hb1⟩) ?_
                        refine below_run (by kernel_rfl) (.bool false) (fun w' hw' => by kernel_rfl) ?_
                        refine below_run (by kernel_rfl) (.bool false) (fun w' hw' => by kernel_rfl) ?_
                        refine below_run (by kernel_rfl) (.bool false) (fun w' hw' => by kernel_rfl) ?_
                        refine below_run (by kernel_rfl) (.pointer (some ⟨g2, 2, none⟩)) (fun w' hw' => by kernel_rfl) ?_
                        refine below_run (by kernel_rfl) (.int .i8 (rdP f.pairs k).y) (fun w' hw' => exec_load1 22 (.tmp 43) rfl ⟨g2, 2, none⟩ (by kernel_rfl) (.int .i8 (rdP f.pairs k).y) ((HP2.out.next hw').cell 2 _ rfl) _ Tryz.underlying22 rfl) ?_
                        refine below_run (by kernel_rfl) (.bool false) (fun w' hw' => Eq.trans (show (execOp _ _).run _ w' = .ok (.value (.bool ((rdP f.pairs k).y == 0))) w' by kernel_rfl) (by rw [e4])) ?_
                        refine below_run (by kernel_rfl) (.bool false) (fun w' hw' => by kernel_rfl) ?_
                        refine below_run (by kernel_rfl) (.bool false) (fun w' hw' => by kernel_rfl) ?_
                        refine below_run (by kernel_rfl) (.pointer (some ⟨b0, 27, none⟩)) (fun w' hw' => by kernel_rfl) ?_
                        refine below_run (by kernel_rfl) (.int .i8 f.gap) (fun w' hw' => exec_load1 22 (.tmp 48) rfl ⟨b0, 27, none⟩ (by kernel_rfl) (.int .i8 f.gap) ((HK3.out.next hw').cell 27 _ (fcV_gap HF.out _)) _ Tryz.underlying22 rfl) ?_
                        refine below_run (by kernel_rfl) (.pointer (some ⟨g2, 2, none⟩)) (fun w' hw' => by kernel_rfl) ?_
                        refine below_run (by kernel_rfl) (.int .i8 (rdP f.pairs k).y) (fun w' hw' => exec_load1 22 (.tmp 50) rfl ⟨g2, 2, none⟩ (by kernel_rfl) (.int .i8 (rdP f.pairs k).y) ((HP2.out.next hw').cell 2 _ rfl) _ Tryz.underlying22 rfl) ?_
                        refine below_run (by kernel_rfl) (.int .i8 (IntKind.i8.wrap (f.gap + (rdP f.pairs k).y))) (fun w' hw' => by kernel_rfl) ?_
                        refine below_run (by kernel_rfl) (.bool false) (fun w' hw' => Eq.trans (show (execOp _ _).run _ w' = .ok (.value (.bool (decide (IntKind.i8.wrap (f.gap + (rdP f.pairs k).y) < 0)))) w' by kernel_rfl) (by rw [e5b])) ?_
                        refine below_run (by kernel_rfl) (.bool false) (fun w' hw' => by kernel_rfl) ?_
                        refine below_run (by kernel_rfl) (.bool false) (fun w' hw' => by kernel_rfl) ?_
                        refine below_run (by kernel_rfl) (.int .i64 k) (fun w' hw' => by kernel_rfl) ?_
                        refine below_run (by kernel_rfl) (.bool true) (fun w' hw' => Eq.trans (show (execOp _ _).run _ w' = .ok (.value (.bool (decide ((0 : Int) < (k : Int))))) w' by kernel_rfl) (by rw [hk1])) ?_
                        refine below_run (by kernel_rfl) (.bool true) (fun w' hw' => by kernel_rfl) ?_
                        refine below_run (by kernel_rfl) (.pointer (some ⟨b0, 28, none⟩)) (fun w' hw' => by kernel_rfl) ?_
                        refine below_run (by kernel_rfl) (.slice (some a) n c) (fun w' hw' => exec_load1 33 (.tmp 59) rfl ⟨b0, 28, none⟩ (by kernel_rfl) (.slice (some a) n c) ((HK3.out.next hw').cell 28 _ (fcV_pairs HF.out _)) _ Tryz.underlying33 rfl) ?_
                        refine below_run (by kernel_rfl) (.int .i64 k) (fun w' hw' => by kernel_rfl) ?_
                        refine below_run (by kernel_rfl) (.int .i64 ((k - 1 : Nat) : Int)) (fun w' hw' => Eq.trans (show (execOp _ _).run _ w' = .ok (.value (.int .i64 (IntKind.i64.wrap ((k : Int) - 1)))) w' by kernel_rfl) (by rw [hsub])) ?_
                        refine below_run (by kernel_rfl) (.pointer (some (Addr.add a ((k - 1) * 3)))) (fun w' hw' => exec_index 33 (.tmp 60) (.tmp 62) rfl a n c (by kernel_rfl) .i64 (k - 1) (by kernel_rfl) hk2 84 Tryz.underlying33 3 szPrI) ?_
                        refine below_run (by kernel_rfl) (.agg (prV (rdP f.pairs (k - 1))).toArray) (fun w' hw' => exec_loadV 84 (.tmp 63) rfl (a.add ((k - 1) * 3)) (by kernel_rfl) (prV (rdP f.pairs (k - 1))) _ (HR3.out.next hw') Tryz.underlying84 rfl szPrI) ?_
                        refine below_run (by kernel_rfl) (.agg (prV (rdP f.pairs k)).toArray) (fun w' hw' => exec_loadV 84 (.tmp 6) rfl ⟨g2, 0, none⟩ (by kernel_rfl) (prV (rdP f.pairs k)) _ (HR4.out.next hw') Tryz.underlying84 rfl szPrI) ?_
                        refine below_call (by kernel_rfl) 96 #[.agg (prV (rdP f.pairs (k - 1))).toArray, .agg (prV (rdP f.pairs k)).toArray] (.int .i64 (cmpP (rdP f.pairs (k - 1)) (rdP f.pairs k))) (fun w' => by kernel_rfl) (fun w' hw' => (compare_any _ _ w').mono fun e w1 ⟨he, hb1⟩ => ⟨he, below_step hw' hb1⟩) ?_
                        refine below_run (by kernel_rfl) (.bool true) (fun w' hw' => Eq.trans (show (execOp _ _).run _ w' = .ok (.value (.bool (decide (0 ≤ cmpP (rdP f.pairs (k - 1)) (rdP f.pairs k))))) w' by kernel_rfl) (by rw [e6b])) ?_
                        refine below_run (by kernel_rfl) (.bool true) (fun w' hw' => by kernel_rfl) ?_
                        refine below_run (by kernel_rfl) (.bool true) (fun w' hw' => by kernel_rfl) ?_
                        refine wpQuiet_nil ?_
                        intro W3 hW3
                        simp only [Act.put, List.setIfInBounds_toArray, List.set_cons_succ, List.set_cons_zero]
                        clear e1 e2 e3 e4 e5b e6 e6b hcv hsub hk1 e5
                        go_wp2
                        go_ret
                        exact ⟨retB HP.out.symm, below_step hbel hW3⟩
                      · have HP := Lib.hid (good_succ HR2.out e1 e2 e3 e4 e5 (.inr e6))
                        rw [e6] at e6b
                        have e6b : decide (0 ≤ cmpP (rdP f.pairs (k - 1)) (rdP f.pairs k)) = false := e6b
                        clear hk0 q0 q1 q2 c27
                        refine region_below (W1.heap.size) (by kernel_rfl) (by kernel_rfl) ?_
                        refine below_run (by kernel_rfl) (.pointer (some ⟨g2, 0, none⟩)) (fun w' hw' => by kernel_rfl) ?_
                        refine below_run (by kernel_rfl) (.int .u8 (rdP f.pairs k).a) (fun w' hw' => exec_load1 5 (.tmp 25) rfl ⟨g2, 0, none⟩ (by kernel_rfl) (.int .u8 (rdP f.pairs k).a) ((HP2.out.next hw').cell 0 _ rfl) _ Tryz.underlying5 rfl) ?_
                        refine below_call (by kernel_rfl) 85 #[.int .u8 (rdP f.pairs k).a] (.bool true) (fun w' => by kernel_rfl) (fun w' hw' => (let_is _ w' e1).mono fun e w1 ⟨he, hb1⟩ => ⟨he, below_step hw' hb1⟩) ?_
                        refine below_run (by kernel_rfl) (.bool false) (fun w' hw' => by kernel_rfl) ?_
                        refine below_run (by kernel_rfl) (.bool false) (fun w' hw' => by kernel_rfl) ?_
                        refine below_run (by kernel_rfl) (.pointer (some ⟨g2, 1, none⟩)) (fun w' hw' => by kernel_rfl) ?_
                        refine below_run (by kernel_rfl) (.int .u8 (rdP f.pairs k).b) (fun w' hw' => exec_load1 5 (.tmp 30) rfl ⟨g2, 1, none⟩ (by kernel_rfl) (.int .u8 (rdP f.pairs k).b) ((HP2.out.next hw').cell 1 _ rfl) _ Tryz.underlying5 rfl) ?_
                        refine below_call (by kernel_rfl) 85 #[.int .u8 (rdP f.pairs k).b] (.bool true) (fun w' => by kernel_rfl) (fun w' hw' => (let_is _ w' e2).mono fun e w1 ⟨he, hb1⟩ => ⟨he, below_step hw' hb1⟩) ?_
                        refine below_run (by kernel_rfl) (.bool false) (fun w' hw' => by kernel_rfl) ?_
                        refine below_run (by kernel_rfl) (.bool false) (fun w' hw' => by kernel_rfl) ?_
                        refine below_run (by kernel_rfl) (.bool false) (fun w' hw' => by kernel_rfl) ?_
                        refine below_run (by kernel_rfl) (.pointer (some ⟨g2, 2, none⟩)) (fun w' hw' => by kernel_rfl) ?_
                        refine below_run (by kernel_rfl) (.int .i8 (rdP f.pairs k).y) (fun w' hw' => exec_load1 22 (.tmp 36) rfl ⟨g2, 2, none⟩ (by kernel_rfl) (.int .i8 (rdP f.pairs k).y) ((HP2.out.next hw').cell 2 _ rfl) _ Tryz.underlying22 rfl) ?_
                        refine below_run (by kernel_rfl) (.int .i64 (rdP f.pairs k).y) (fun w' hw' => Eq.trans (show (execOp _ _).run _ w' = .ok (.value (.int .i64 (IntKind.i64.wrap (rdP f.pairs k).y))) w' by kernel_rfl) (by rw [hcv])) ?_
                        refine below_call (by kernel_rfl) 64 #[.int .i64 (rdP f.pairs k).y, .int .i64 (-10), .int .i64 10] (.bool true) (fun w' => by kernel_rfl) (fun w' hw' => (within_is _ _ _ w' e3).mono fun e w1 ⟨he, hb1⟩ => ⟨he, below_step hw' hb1⟩) ?_
                        refine below_run (by kernel_rfl) (.bool false) (fun w' hw' => by kernel_rfl) ?_
                        refine below_run (by kernel_rfl) (.bool false) (fun w' hw' => by kernel_rfl) ?_
                        refine below_run (by kernel_rfl) (.bool false) (fun w' hw' => by kernel_rfl) ?_
                        refine below_run (by kernel_rfl) (.pointer (some ⟨g2, 2, none⟩)) (fun w' hw' => by kernel_rfl) ?_
                        refine below_run (by kernel_rfl) (.int .i8 (rdP f.pairs k).y) (fun w' hw' => exec_load1 22 (.tmp 43) rfl ⟨g2, 2, none⟩ (by kernel_rfl) (.int .i8 (rdP f.pairs k).y) ((HP2.out.next hw').cell 2 _ rfl) _ Tryz.underlying22 rfl) ?_
                        refine below_run (by kernel_rfl) (.bool false) (fun w' hw' => Eq.trans (show (execOp _ _).run _ w' = .ok (.value (.bool ((rdP f.pairs k).y == 0))) w' by kernel_rfl) (by rw [e4])) ?_
                        refine below_run (by kernel_rfl) (.bool false) (fun w' hw' => by kernel_rfl) ?_
                        refine below_run (by kernel_rfl) (.bool false) (fun w' hw' => by kernel_rfl) ?_
                        refine below_run (by kernel_rfl) (.pointer (some ⟨b0, 27, none⟩)) (fun w' hw' => by kernel_rfl) ?_
                        refine below_run (by kernel_rfl) (.int .i8 f.gap) (fun w' hw' => exec_load1 22 (.tmp 48) rfl ⟨b0, 27, none⟩ (by kernel_rfl) (.int .i8 f.gap) ((HK3.out.next hw').cell 27 _ (fcV_gap HF.out _)) _ Tryz.underlying22 rfl) ?_
                        refine below_run (by kernel_rfl) (.pointer (some ⟨g2, 2, none⟩)) (fun w' hw' => by kernel_rfl) ?_
                        refine below_run (by kernel_rfl) (.int .i8 (rdP f.pairs k).y) (fun w' hw' => exec_load1 22 (.tmp 50) rfl ⟨g2, 2, none⟩ (by kernel_rfl) (.int .i8 (rdP f.pairs k).y) ((HP2.out.next hw').cell 2 _ rfl) _ Tryz.underlying22 rfl) ?_
                        refine below_run (by kernel_rfl) (.int .i8 (IntKind.i8.wrap (f.gap + (rdP f.pairs k).y))) (fun w' hw' => by kernel_rfl) ?_
                        refine below_run (by kernel_rfl) (.bool false) (fun w' hw' => Eq.trans (show (execOp _ _).run _ w' = .ok (.value (.bool (decide (IntKind.i8.wrap (f.gap + (rdP f.pairs k).y) < 0)))) w' by kernel_rfl) (by rw [e5b])) ?_
                        refine below_run (by kernel_rfl) (.bool false) (fun w' hw' => by kernel_rfl) ?_
                        refine below_run (by kernel_rfl) (.bool false) (fun w' hw' => by kernel_rfl) ?_
                        refine below_run (by kernel_rfl) (.int .i64 k) (fun w' hw' => by kernel_rfl) ?_
                        refine below_run (by kernel_rfl) (.bool true) (fun w' hw' => Eq.trans (show (execOp _ _).run _ w' = .ok (.value (.bool (decide ((0 : Int) < (k : Int))))) w' by kernel_rfl) (by rw [hk1])) ?_
                        refine below_run (by kernel_rfl) (.bool true) (fun w' hw' => by kernel_rfl) ?_
                        refine below_run (by kernel_rfl) (.pointer (some ⟨b0, 28, none⟩)) (fun w' hw' => by kernel_rfl) ?_
                        refine below_run (by kernel_rfl) (.slice (some a) n c) (fun w' hw' => exec_load1 33 (.tmp 59) rfl ⟨b0, 28, none⟩ (by kernel_rfl) (.slice (some a) n c) ((HK3.out.next hw').cell 28 _ (fcV_pairs HF.out _)) _ Tryz.underlying33 rfl) ?_
                        refine below_run (by kernel_rfl) (.int .i64 k) (fun w' hw' => by kernel_rfl) ?_
                        refine below_run (by kernel_rfl) (.int .i64 ((k - 1 : Nat) : Int)) (fun w' hw' => Eq.trans (show (execOp _ _).run _ w' = .ok (.value (.int .i64 (IntKind.i64.wrap ((k : Int) - 1)))) w' by kernel_rfl) (by rw [hsub])) ?_
                        refine below_run (by kernel_rfl) (.pointer (some (Addr.add a ((k - 1) * 3)))) (fun w' hw' => exec_index 33 (.tmp 60) (.tmp 62) rfl a n c (by kernel_rfl) .i64 (k - 1) (by kernel_rfl) hk2 84 Tryz.underlying33 3 szPrI) ?_
                        refine below_run (by kernel_rfl) (.agg (prV (rdP f.pairs (k - 1))).toArray) (fun w' hw' => exec_loadV 84 (.tmp 63) rfl (a.add ((k - 1) * 3)) (by kernel_rfl) (prV (rdP f.pairs (k - 1))) _ (HR3.out.next hw') Tryz.underlying84 rfl szPrI) ?_
                        refine below_run (by kernel_rfl) (.agg (prV (rdP f.pairs k)).toArray) (fun w' hw' => exec_loadV 84 (.tmp 6) rfl ⟨g2, 0, none⟩ (by kernel_rfl) (prV (rdP f.pairs k)) _ (HR4.out.next hw') Tryz.underlying84 rfl szPrI) ?_
                        refine below_call (by kernel_rfl) 96 #[.agg (prV (rdP f.pairs (k - 1))).toArray, .agg (prV (rdP f.pairs k)).toArray] (.int .i64 (cmpP (rdP f.pairs (k - 1)) (rdP f.pairs k))) (fun w' => by kernel_rfl) (fun w' hw' => (compare_any _ _ w').mono fun e w1 ⟨he, hb1⟩ => ⟨he, below_step hw' hb1⟩) ?_
                        refine below_run (by kernel_rfl) (.bool false) (fun w' hw' => Eq.trans (show (execOp _ _).run _ w' = .ok (.value (.bool (decide (0 ≤ cmpP (rdP f.pairs (k - 1)) (rdP f.pairs k))))) w' by kernel_rfl) (by rw [e6b])) ?_
                        refine below_run (by kernel_rfl) (.bool false) (fun w' hw' => by kernel_rfl) ?_
                        refine below_run (by kernel_rfl) (.bool false) (fun w' hw' => by kernel_rfl) ?_
                        refine wpQuiet_nil ?_
                        intro W3 hW3
                        simp only [Act.put, List.setIfInBounds_toArray, List.set_cons_succ, List.set_cons_zero]
                        clear e1 e2 e3 e4 e5b e6 e6b hcv hsub hk1 e5
                        go_wp2
                        go_roundw
                        case rel => exact ⟨k + 1, by omega, by go_num, HP.out, below_step HBA.out hW3⟩
                        case measure => simp [intOf]; omega
                · have HP := Lib.hid (shape_pr (f := f) (k := k) (by rw [HN.out]; exact hlt) (prAt_z e4))
                  go_quiet ((first | (go_at_call 85; refine (letter_impl _ _).mono ?_; rintro e w' ⟨rfl, rfl⟩; exact ⟨rfl, _, rfl⟩) | (go_at_call 64; refine (withinI_any _ _ _ _).mono ?_; rintro e w' ⟨rfl, rfl⟩; exact ⟨rfl, _, rfl⟩)))
                  go_wp2
                  go_ret
                  exact ⟨retB HP.out.symm, below_drewN hbel _⟩
        · obtain rfl : k = n := by omega
          have HP := Lib.hid (shape_fin HR.out (by rw [HN.out]; exact HR2.out))
          have c26 := hK.cell 26 _ (fcV_space HF.out _)
          have c27 := hK.cell 27 _ (fcV_gap HF.out _)
          cases hsp : inB 1 40 f.space
          · have HL := Lib.hid hsp
            go_wp2_with (go_at_call 64; refine (withinI_any _ _ _ _).mono ?_; rintro e w' ⟨rfl, rfl⟩)
            go_ret
            exact ⟨retB (by rw [HP.out, HL.out]; rfl), hbel⟩
          · have HL := Lib.hid hsp
            go_wp2_with (go_at_call 64; refine (withinI_any _ _ _ _).mono ?_; rintro e w' ⟨rfl, rfl⟩)
            go_ret
            exact ⟨retB (by rw [HP.out, HL.out]; rfl), hbel⟩
end Go.Proofs.YtnlnjpdnhdmndaaGreatDoor
namespace Go.Proofs.YtnlnjpdnhdmndaaGreatDoor
open Go Go.RowKit
set_option linter.unusedVariables false
set_option linter.unusedSimpArgs false

theorem validF_many {f : Fc} {n : Nat} (hn : f.pairs.length = n) (h : ¬ (n : Int) ≤ 12) : validF f = false := by
  unfold validF; rw [decide_eq_false (by omega)]; rfl
theorem validF_few {f : Fc} {n : Nat} (hn : f.pairs.length = n) (h : (n : Int) ≤ 12) : validF f = shapeF f := by
  unfold validF; rw [decide_eq_true (by omega), Bool.true_and]
theorem validF_bad {f : Fc} (h : shapeF f = false) : validF f = false := by unfold validF; rw [h]; simp

theorem face_spec (f : Fc) (n b0 : Nat) (w : World) (hf : FcT f) (hn : f.pairs.length = n) (hm : n ≤ 1048576) (h : FcAt w b0 f n) :
    Calls Tryz.prog 19 #[.pointer (some ⟨b0, 0, none⟩)] w fun e w' => e = .returned (.bool (validF f)) ∧ Below w.heap.size w w' := by
  have H := Lib.hid h
  obtain ⟨A, c, hk, _⟩ := h
  have c28 := hk.cell 28 _ (fcV_pairs hf _)
  clear hk
  by_cases h12 : (n : Int) ≤ 12
  · have HV := Lib.hid (validF_few hn h12)
    have HN := Lib.hid hn
    clear hn
    go_enter Tryz.func19, Tryz.ntmps19
    go_wp2_with fail
    go_at_call 41
    refine (shape_spec f n b0 _ hf HN.out hm H.out).mono ?_
    rintro e w' ⟨rfl, hb⟩
    clear c28
    go_wp2
    go_ret
    exact ⟨retB HV.out.symm, hb⟩
  · have HV := Lib.hid (validF_many hn h12)
    clear hn
    go_enter Tryz.func19, Tryz.ntmps19
    go_wp2
    go_ret
    exact ⟨retB HV.out.symm, Below.refl _ _⟩

theorem face_impl (f : Fc) (A : Option Addr) (n c : Nat) (w : World) (hf : FcT f) (hn : f.pairs.length = n) (hm : n ≤ 1048576) (hs : SlP w A f.pairs) :
    Calls Tryz.prog 75 #[.agg (fcV f (.slice A n c)).toArray] w fun e w' => e = .returned (.bool (validF f)) ∧ Below w.heap.size w w' := by
  have hk := Blk.new w 35 (fcV f (.slice A n c))
  have hB := below_one w (.cells (fcV f (.slice A n c)).toArray 35)
  have HS := Lib.hid hs
  have HN := Lib.hid hn
  have HF := Lib.hid hf
  have HVM := Lib.hid (@validF_many f n hn)
  have HVF := Lib.hid (@validF_few f n hn)
  have hsz : (fcV f (.slice A n c)).toArray.size = 29 := by simp [fcV_length hf]
  clear hs hn hf
  go_enter Tryz.func75, Tryz.ntmps75
  go_wp2_with (refine wpList_load_row rfl 35 (.tmp 1) rfl _ rfl 35 (fcV f (.slice A n c)).toArray _ _ hk Tryz.underlying35 rfl (by rw [hsz]; exact szFcI) ?_)
  go_at_call 82
  refine (isFace_any f A n c _ HF.out HN.out hm (HS.out.next hB)).mono ?_
  rintro e w' ⟨rfl, hb⟩
  have hk := hk.next hb
  have hB := below_step hB hb
  have c28 := hk.cell 28 _ (fcV_pairs HF.out _)
  clear hb hk hsz
  cases hsh : shapeF f
  · have HV := Lib.hid (validF_bad hsh)
    go_wp2
    go_ret
    exact ⟨retB HV.out.symm, hB⟩
  · by_cases h12 : (n : Int) ≤ 12
    · have HV := Lib.hid (show validF f = true by rw [HVF.out h12, hsh])
      go_wp2
      go_ret
      exact ⟨retB HV.out.symm, hB⟩
    · have HV := Lib.hid (HVM.out (by omega))
      go_wp2
      go_ret
      exact ⟨retB (by rw [HV.out]; exact decide_eq_false (by omega)), hB⟩

set_option maxHeartbeats 1000000 in
set_option maxRecDepth 100000 in
theorem by_impl (f : Fc) (A : Option Addr) (n c : Nat) (x y : Int) (w : World) (hf : FcT f) (hn : f.pairs.length = n) (hm : n ≤ 1048576) (hs : SlP w A f.pairs) :
    Calls Tryz.prog 70 #[.agg (fcV f (.slice A n c)).toArray, .int .u8 x, .int .u8 y] w fun e w' => e = .returned (.int .i64 (byP f.pairs x y)) ∧ Below w.heap.size w w' := by
  have hk := Blk.new w 35 (fcV f (.slice A n c))
  have hB := below_one w (.cells (fcV f (.slice A n c)).toArray 35)
  have c28 := hk.cell 28 _ (fcV_pairs hf _)
  have HS := Lib.hid hs
  have HN := Lib.hid hn
  have HF := Lib.hid hf.pairs
  clear hs hn hf hk
  go_enter Tryz.func70, Tryz.ntmps70
  go_wp2
  go_loopw [12] (fun i wr => ∃ k : Nat, k ≤ n ∧ i = .int .i64 k ∧ NoP f.pairs x y k ∧ Below w.heap.size w wr) (fun i _ => n - (intOf i).toNat)
  case atStart => exact ⟨0, by omega, rfl, noP_zero _ _ _, hB⟩
  case round =>
    clear c28 hB
    obtain ⟨k, hk, rfl, hr, hbel⟩ := hrel
    have HR := Lib.hid hr
    clear hr
    by_cases hlt : k < n
    · obtain ⟨a, rfl, hrow⟩ := (HS.out.next hbel).get k (by rw [HN.out]; omega)
      have ht := (HF.out k (by rw [HN.out]; omega)).y
      have hB2 := step_alloc hbel (.cells (prV (rdP f.pairs k)).toArray 84)
      have hp := Blk.new wr 84 (prV (rdP f.pairs k))
      have q0 := hp.cell 0 _ rfl
      have q1 := hp.cell 1 _ rfl
      have q2 := hp.cell 2 _ rfl
      clear hp
      cases e1 : ((rdP f.pairs k).a == x)
      · have HP := Lib.hid (noP_succ HR.out (show isP (rdP f.pairs k) x y = false by unfold isP; rw [e1]; rfl))
        go_wp2_with (first
          | (refine wpList_loadV rfl 84 (.tmp 14) rfl (a.add (k * 3)) rfl (prV (rdP f.pairs k)) _ hrow Tryz.underlying84 rfl szPrI ?_; clear hrow)
          | (refine wpList_store_new rfl 84 _ _ rfl (prV (rdP f.pairs k)).toArray rfl rfl 84 _ szPrI rfl (one_pr _) ?_))
        go_roundw
        case rel => exact ⟨k + 1, by omega, by go_num, HP.out, hB2⟩
        case measure => simp [intOf]; omega
      · cases e2 : ((rdP f.pairs k).b == y)
        · have HP := Lib.hid (noP_succ HR.out (show isP (rdP f.pairs k) x y = false by unfold isP; rw [e1, e2]; rfl))
          go_wp2_with (first
            | (refine wpList_loadV rfl 84 (.tmp 14) rfl (a.add (k * 3)) rfl (prV (rdP f.pairs k)) _ hrow Tryz.underlying84 rfl szPrI ?_; clear hrow)
            | (refine wpList_store_new rfl 84 _ _ rfl (prV (rdP f.pairs k)).toArray rfl rfl 84 _ szPrI rfl (one_pr _) ?_))
          go_roundw
          case rel => exact ⟨k + 1, by omega, by go_num, HP.out, hB2⟩
          case measure => simp [intOf]; omega
        · have HP := Lib.hid (byP_hit (ps := f.pairs) (a := x) (b := y) (k := k) (by rw [HN.out]; omega) HR.out (show isP (rdP f.pairs k) x y = true by unfold isP; rw [e1, e2]; rfl))
          go_wp2_with (first
            | (refine wpList_loadV rfl 84 (.tmp 14) rfl (a.add (k * 3)) rfl (prV (rdP f.pairs k)) _ hrow Tryz.underlying84 rfl szPrI ?_; clear hrow)
            | (refine wpList_store_new rfl 84 _ _ rfl (prV (rdP f.pairs k)).toArray rfl rfl 84 _ szPrI rfl (one_pr _) ?_))
          go_ret
          exact ⟨retI HP.out.symm, hB2⟩
    · obtain rfl : k = n := by omega
      have HP := Lib.hid (byP_none (ps := f.pairs) (a := x) (b := y) (by rw [HN.out]; exact HR.out))
      go_wp2
      go_ret
      exact ⟨retI HP.out.symm, hbel⟩
end Go.Proofs.YtnlnjpdnhdmndaaGreatDoor
