/- Contracts: pairs are compared, by the program. -/
import Derived.Test.YtjgflkoefimmoaaDoorFcS
import Derived.StillTailTactics
import Derived.Test.YtjgflkoefimmoaaDoorBase2
namespace Go.Proofs.YtjgflkoefimmoaaDoor
open Go Go.RowKit
set_option linter.unusedVariables false
set_option linter.unusedSimpArgs false

def cmpU (x y : Int) : Int := if x < y then -1 else if y < x then 1 else 0
def cmpP (p q : Pr) : Int := if (cmpU p.a q.a != 0) = true then cmpU p.a q.a else cmpU p.b q.b
theorem cmpP_ahead (p q : Pr) : decide (0 ≤ cmpP p q) = !ahead p q := by
  unfold cmpP cmpU ahead
  by_cases h1 : p.a < q.a
  · simp [h1]
  · by_cases h2 : q.a < p.a
    · have : ¬ p.a = q.a := by omega
      simp [h1, h2, this]
    · have e : p.a = q.a := by omega
      by_cases h3 : p.b < q.b
      · simp [e, h3]
      · by_cases h4 : q.b < p.b <;> simp [e, h3, h4]
theorem cmpP_range (p q : Pr) : -1 ≤ cmpP p q ∧ cmpP p q ≤ 1 := by
  unfold cmpP cmpU
  split <;> split <;> (try split) <;> omega
theorem cmpU_range (x y : Int) : -1 ≤ cmpU x y ∧ cmpU x y ≤ 1 := by unfold cmpU; split <;> (try split) <;> omega
theorem isNaN_any (x : Int) (w : World) : Calls Tryd.prog 123 #[.int .u8 x] w fun e w' => e = .returned (.bool false) ∧ w = w' := by
  have h : (x != x) = false := by simp
  go_enter Tryd.func123, Tryd.ntmps123
  go_wp2
  go_ret
  exact ⟨rfl, rfl⟩
theorem cmp_any (x y : Int) (w : World) : Calls Tryd.prog 110 #[.int .u8 x, .int .u8 y] w fun e w' => e = .returned (.int .i64 (cmpU x y)) ∧ w' = w := by
  by_cases h1 : x < y
  · have HE := Lib.hid (show cmpU x y = -1 by unfold cmpU; rw [if_pos h1])
    go_enter Tryd.func110, Tryd.ntmps110
    go_wp2_with (go_at_call 123; refine (isNaN_any _ _).mono ?_; rintro e w' ⟨rfl, rfl⟩)
    go_ret
    exact ⟨by rw [HE.out]; rfl, rfl⟩
  · by_cases h2 : y < x
    · have HE := Lib.hid (show cmpU x y = 1 by unfold cmpU; rw [if_neg h1, if_pos h2])
      go_enter Tryd.func110, Tryd.ntmps110
      go_wp2_with (go_at_call 123; refine (isNaN_any _ _).mono ?_; rintro e w' ⟨rfl, rfl⟩)
      go_ret
      exact ⟨by rw [HE.out]; rfl, rfl⟩
    · have HE := Lib.hid (show cmpU x y = 0 by unfold cmpU; rw [if_neg h1, if_neg h2])
      go_enter Tryd.func110, Tryd.ntmps110
      go_wp2_with (go_at_call 123; refine (isNaN_any _ _).mono ?_; rintro e w' ⟨rfl, rfl⟩)
      go_ret
      exact ⟨by rw [HE.out]; rfl, rfl⟩
def orN (c1 c2 : Int) : Int := if (c1 != 0) = true then c1 else c2
theorem or_any (b : Nat) (c1 c2 : Int) (w : World) (h1 : w.cell? ⟨b, 0, none⟩ = some (.int .i64 c1)) (h2 : w.cell? ⟨b, 1, none⟩ = some (.int .i64 c2)) :
    Calls Tryd.prog 109 #[.slice (some ⟨b, 0, none⟩) 2 2] w fun e w' => e = .returned (.int .i64 (orN c1 c2)) ∧ w = w' := by
  cases e1 : (c1 != 0)
  · cases e2 : (c2 != 0)
    · have HE := Lib.hid (show orN c1 c2 = 0 by unfold orN; rw [e1]; simpa using e2)
      have HC : ∀ k : Nat, k < 2 → ∃ c, w.cell? ⟨b, k, none⟩ = some (.int .i64 c) ∧ (c != 0) = false := by
        intro k hk
        have : k = 0 ∨ k = 1 := by omega
        rcases this with rfl | rfl
        · exact ⟨c1, h1, e1⟩
        · exact ⟨c2, h2, e2⟩
      have HC := Lib.hid HC
      clear h1 h2 e1 e2
      go_enter Tryd.func109, Tryd.ntmps109
      go_wp2
      go_loop [8] (fun i => ∃ k : Nat, k ≤ 2 ∧ i = .int .i64 k) (fun i => 2 - (intOf i).toNat)
      case atStart => exact ⟨0, by omega, rfl⟩
      case round =>
        obtain ⟨k, hk, rfl⟩ := hrel
        by_cases hlt : k < 2
        · obtain ⟨c, hc, he⟩ := HC.out k hlt
          go_wp2
          go_round
          case rel => exact ⟨k + 1, by omega, by go_num⟩
          case measure => simp [intOf]; omega
        · obtain rfl : k = 2 := by omega
          go_wp2
          go_ret
          exact ⟨by rw [HE.out]; rfl, rfl⟩
    · have HE := Lib.hid (show orN c1 c2 = c2 by unfold orN; rw [e1]; rfl)
      have H2 := Lib.hid h2
      have H1 := Lib.hid h1
      clear h1 h2
      go_enter Tryd.func109, Tryd.ntmps109
      go_wp2
      go_loop [8] (fun i => ∃ k : Nat, k ≤ 1 ∧ i = .int .i64 k) (fun i => 2 - (intOf i).toNat)
      case atStart => exact ⟨0, by omega, rfl⟩
      case round =>
        obtain ⟨k, hk, rfl⟩ := hrel
        by_cases hlt : k = 0
        · subst hlt
          have h1 := H1.out
          go_wp2
          go_round
          case rel => exact ⟨1, by omega, by go_num⟩
          case measure => simp [intOf]
        · obtain rfl : k = 1 := by omega
          have h2 := H2.out
          clear hlt
          go_wp2
          go_ret
          exact ⟨by rw [HE.out]; rfl, rfl⟩
  · have HE := Lib.hid (show orN c1 c2 = c1 by unfold orN; rw [e1]; rfl)
    go_enter Tryd.func109, Tryd.ntmps109
    go_wp2
    go_loop [8] (fun i => i = .int .i64 0) (fun i => 0)
    case atStart => rfl
    case round =>
      subst hrel
      go_wp2
      go_ret
      exact ⟨by rw [HE.out]; rfl, rfl⟩

set_option maxRecDepth 100000 in
theorem compare_any (p q : Pr) (w : World) :
    Calls Tryd.prog 98 #[.agg (prV p).toArray, .agg (prV q).toArray] w fun e w' => e = .returned (.int .i64 (cmpP p q)) ∧ Below w.heap.size w w' := by
  obtain ⟨a, b, y⟩ := p
  obtain ⟨a', b', y'⟩ := q
  have e : (prV ⟨a, b, y⟩).toArray = #[.int .u8 a, .int .u8 b, .int .i8 y] := rfl
  have e' : (prV ⟨a', b', y'⟩).toArray = #[.int .u8 a', .int .u8 b', .int .i8 y'] := rfl
  have ea : cmpP ⟨a, b, y⟩ ⟨a', b', y'⟩ = orN (cmpU a a') (cmpU b b') := rfl
  rw [e, e', ea]
  clear e e' ea
  have hB := below_two w (.cells #[.int .u8 a, .int .u8 b, .int .i8 y] 96) (.cells #[.int .u8 a', .int .u8 b', .int .i8 y'] 96)
  go_enter Tryd.func98, Tryd.ntmps98
  go_wp2
  have k0 : Blk ((w.alloc (.cells #[.int .u8 a, .int .u8 b, .int .i8 y] 96)).alloc (.cells #[.int .u8 a', .int .u8 b', .int .i8 y'] 96)) w.heap.size 96 [.int .u8 a, .int .u8 b, .int .i8 y] := (Blk.new w _ _).alloc _
  have k1 : Blk ((w.alloc (.cells #[.int .u8 a, .int .u8 b, .int .i8 y] 96)).alloc (.cells #[.int .u8 a', .int .u8 b', .int .i8 y'] 96)) (w.heap.size + 1) 96 [.int .u8 a', .int .u8 b', .int .i8 y'] := Blk.at_new _ _ _ (by simp) _ _ rfl
  generalize (w.alloc (.cells #[.int .u8 a, .int .u8 b, .int .i8 y] 96)).alloc (.cells #[.int .u8 a', .int .u8 b', .int .i8 y'] 96) = W at *
  have c0 := k0.cell 0 _ rfl
  have c1 := k0.cell 1 _ rfl
  have d0 := k1.cell 0 _ rfl
  have d1 := k1.cell 1 _ rfl
  clear k0 k1
  refine wp_region_still_tail 10 (by kernel_rfl) (by kernel_rfl) ?_
  change wpStill _ _ (World.drew W) _ _ _
  simp only [List.take_succ_cons, List.take_zero, List.drop_succ_cons, List.drop_zero]
  repeat (first
    | (refine wpStill_step (fun K hK => ?_); go_simp; refine hK _ ?_; clear hK K)
    | (refine wpStill_step (fun K hK => ?_); go_simp; refine ⟨_, cmp_any _ _ _, hK _ ?_⟩; clear hK K))
  refine wpStill_nil ?_
  change wpList _ _ _ _ _ (World.drew _)
  have hB := below_drewN hB 1
  go_wp2_with fail
  go_at_call 109
  refine (or_any W.heap.size (cmpU a a') (cmpU b b') _ (by simp) (by simp)).mono ?_
  rintro e w' ⟨rfl, rfl⟩
  go_wp2
  go_ret
  exact ⟨rfl, step_alloc hB _⟩
end Go.Proofs.YtjgflkoefimmoaaDoor
