/- Contracts: the best move. -/
import Derived.Test.YtgmlhnmjeelajaaRubH
import Derived.Test.YtgmlhnmjeelajaaRubP
namespace Go.Proofs.Ytgmlhnmjeelajaa
open Go Go.RowKit
set_option linter.unusedVariables false
set_option linter.unusedSimpArgs false

/-- Move number i: its steps. -/
def mvx (i : Nat) : Int := ((i % 11 : Nat) : Int) - 5
def mvy (i : Nat) : Int := ((i / 11 : Nat) : Int) - 5
def mvFar (i : Nat) : Nat := (mvx i).natAbs + (mvy i).natAbs
def mvN (a b : List Nat) (i : Nat) : Nat := atN a b (mvx i) (mvy i)
def bestJ (a b : List Nat) (k : Nat) : Nat := bestI (mvN a b) mvFar k
def bestX (a b : List Nat) : Int := mvx (bestJ a b 121)
def bestY (a b : List Nat) : Int := mvy (bestJ a b 121)
def bestM (a b : List Nat) : Int := (mvN a b (bestJ a b 121) : Int)
theorem mvx_at (y x : Nat) (hx : x < 11) : mvx (11 * y + x) = (x : Int) - 5 := by unfold mvx; omega
theorem mvy_at (y x : Nat) (hx : x < 11) : mvy (11 * y + x) = (y : Int) - 5 := by unfold mvy; omega
theorem atN_le (a b : List Nat) (dx dy : Int) : atN a b dx dy ≤ 128 := by
  have := sumN_le (fun y => rowN (andR a (movR b dx dy)) y) 16 (fun i => rowN_le _ i) 8
  unfold atN countN; omega

/-- The program's four numbers after k moves. -/
structure BestSt (a b : List Nat) (k : Nat) (v7 v8 v9 v10 : Value) : Prop where
  x : v7 = .int .i64 (if k = 0 then 0 else mvx (bestJ a b k))
  y : v8 = .int .i64 (if k = 0 then 0 else mvy (bestJ a b k))
  m : v9 = .int .i64 (if k = 0 then -1 else (mvN a b (bestJ a b k) : Int))
  f : v10 = .int .i64 (if k = 0 then 0 else (mvFar (bestJ a b k) : Int))
structure BestRel (a b : List Nat) (w wr : World) : Prop where
  one : Blk wr w.heap.size 26 (a.map u16)
  two : Blk wr (w.heap.size + 1) 26 (b.map u16)
  below : Below w.heap.size w wr
theorem BestRel.next {a b : List Nat} {w wr w' : World} (h : BestRel a b w wr) (hb : Below wr.heap.size wr w') : BestRel a b w w' := ⟨h.one.next hb, h.two.next hb, below_step h.below hb⟩

theorem best_take {a b : List Nat} {k : Nat} (h : mvN a b k > mvN a b (bestJ a b k) ∨ (mvN a b k = mvN a b (bestJ a b k) ∧ mvFar k < mvFar (bestJ a b k))) : bestJ a b (k + 1) = k := by
  unfold bestJ at *; rw [bestI, if_pos h]
theorem best_keep {a b : List Nat} {k : Nat} (h : ¬ (mvN a b k > mvN a b (bestJ a b k) ∨ (mvN a b k = mvN a b (bestJ a b k) ∧ mvFar k < mvFar (bestJ a b k)))) : bestJ a b (k + 1) = bestJ a b k := by
  unfold bestJ at *; rw [bestI, if_neg h]
theorem best_zero {a b : List Nat} : bestJ a b 1 = 0 := by simp [bestJ, bestI]

theorem best_one {a b : List Nat} {k : Nat} (h : k = 0 ∨ mvN a b k > mvN a b (bestJ a b k) ∨ (mvN a b k = mvN a b (bestJ a b k) ∧ mvFar k < mvFar (bestJ a b k))) : bestJ a b (k + 1) = k := by
  rcases h with rfl | h
  · exact best_zero
  · exact best_take h
theorem st_take {a b : List Nat} {y x : Nat} (hx : x < 11) {M L : Int} (hM : (if 11 * y + x = 0 then (-1 : Int) else (mvN a b (bestJ a b (11 * y + x)) : Int)) = M) (hL : (if 11 * y + x = 0 then (0 : Int) else (mvFar (bestJ a b (11 * y + x)) : Int)) = L)
    (h : M < (mvN a b (11 * y + x) : Int) ∨ ((mvN a b (11 * y + x) : Int) = M ∧ (mvFar (11 * y + x) : Int) < L)) :
    BestSt a b (11 * y + (x + 1)) (.int .i64 ((x : Int) - 5)) (.int .i64 ((y : Int) - 5)) (.int .i64 (mvN a b (11 * y + x) : Int)) (.int .i64 (mvFar (11 * y + x) : Int)) := by
  have e : bestJ a b (11 * y + x + 1) = 11 * y + x := best_one (by
    by_cases h0 : 11 * y + x = 0
    · exact .inl h0
    · rw [if_neg h0] at hM hL; right; omega)
  rw [← Nat.add_assoc]
  exact ⟨by rw [if_neg (by omega), e, mvx_at y x hx], by rw [if_neg (by omega), e, mvy_at y x hx], by rw [if_neg (by omega), e], by rw [if_neg (by omega), e]⟩
theorem st_keep {a b : List Nat} {y x : Nat} {M L : Int} (hM : (if 11 * y + x = 0 then (-1 : Int) else (mvN a b (bestJ a b (11 * y + x)) : Int)) = M) (hL : (if 11 * y + x = 0 then (0 : Int) else (mvFar (bestJ a b (11 * y + x)) : Int)) = L)
    (h : ¬ (M < (mvN a b (11 * y + x) : Int) ∨ ((mvN a b (11 * y + x) : Int) = M ∧ (mvFar (11 * y + x) : Int) < L))) {v7 v8 v9 v10 : Value} (hs : BestSt a b (11 * y + x) v7 v8 v9 v10) : BestSt a b (11 * y + (x + 1)) v7 v8 v9 v10 := by
  have h0 : ¬ 11 * y + x = 0 := by intro h0; rw [if_pos h0] at hM; omega
  rw [if_neg h0] at hM hL
  have e : bestJ a b (11 * y + x + 1) = bestJ a b (11 * y + x) := best_keep (by omega)
  obtain ⟨h1, h2, h3, h4⟩ := hs
  rw [if_neg h0] at h1 h2 h3 h4
  rw [← Nat.add_assoc]
  exact ⟨by rw [if_neg (by omega), e]; exact h1, by rw [if_neg (by omega), e]; exact h2, by rw [if_neg (by omega), e]; exact h3, by rw [if_neg (by omega), e]; exact h4⟩

theorem neg_i64 {z : Int} (h : -100 ≤ z ∧ z ≤ 100) : IntKind.i64.wrap (0 - z) = -z := by rw [IntWalk.i64_in _ (by omega)]; omega
theorem max_abs (z : Int) : (if -z > z then -z else z) = (z.natAbs : Int) := by split <;> omega
theorem add_i64 {p q : Nat} (h : p + q ≤ 1000) : IntKind.i64.wrap ((p : Int) + (q : Int)) = ((p + q : Nat) : Int) := by rw [IntWalk.i64_in _ (by omega)]; omega

set_option maxHeartbeats 2000000 in
set_option maxRecDepth 100000 in
theorem bestMove_impl (a b : List Nat) (w : World) (ha : a.length = 8) (hb : b.length = 8) (xa : ∀ k, rdN a k < 65536) (xb : ∀ k, rdN b k < 65536) :
    Calls Try.prog 6 #[.agg (R16 a), .agg (R16 b)] w fun e w' => e = .returned (.tuple #[.int .i64 (bestX a b), .int .i64 (bestY a b), .int .i64 (bestM a b)]) ∧ Below w.heap.size w w' := by
  go_enter Try.func6, Try.ntmps6
  go_wp2
  go_loopw [7, 8, 9, 10, 11] (fun v7 v8 v9 v10 i wr => ∃ y : Nat, y ≤ 11 ∧ i = .int .i64 ((y : Int) - 5) ∧ BestSt a b (11 * y) v7 v8 v9 v10 ∧ BestRel a b w wr) (fun _ _ _ _ i _ => (11 - (intOf i + 5)).toNat)
  case atStart => exact ⟨0, by omega, rfl, ⟨rfl, rfl, rfl, rfl⟩, (Blk.new w _ _).alloc _, Blk.at_new _ _ _ (by simp) _ _ rfl, below_two _ _ _⟩
  case round =>
    obtain ⟨y, hy, rfl, hs, h⟩ := hrel
    by_cases hlt : y < 11
    · obtain ⟨wo, rfl⟩ : ∃ wo : World, wo = wr := ⟨_, rfl⟩
      have hd8 : decide ((y : Int) - 5 ≤ 5) = true := by simp; omega
      go_wp2
      go_loopw [7, 8, 9, 10, 12] (fun v7 v8 v9 v10 i wr => ∃ x : Nat, x ≤ 11 ∧ i = .int .i64 ((x : Int) - 5) ∧ BestSt a b (11 * y + x) v7 v8 v9 v10 ∧ BestRel a b w wr) (fun _ _ _ _ i _ => (11 - (intOf i + 5)).toNat)
      case atStart => exact ⟨0, by omega, rfl, hs, h⟩
      case round =>
        obtain ⟨x, hxx, rfl, hs, h⟩ := hrel
        by_cases hlx : x < 11
        · have hdx : decide ((x : Int) - 5 ≤ 5) = true := by simp; omega
          have hN := atN_le a b ((x : Int) - 5) ((y : Int) - 5)
          have e1 : IntKind.i64.wrap (0 - ((x : Int) - 5)) = -((x : Int) - 5) := neg_i64 (by omega)
          have e2 : (if -((x : Int) - 5) > (x : Int) - 5 then -((x : Int) - 5) else (x : Int) - 5) = ((((x : Int) - 5).natAbs : Nat) : Int) := max_abs _
          have e3 : IntKind.i64.wrap (0 - ((y : Int) - 5)) = -((y : Int) - 5) := neg_i64 (by omega)
          have e4 : (if -((y : Int) - 5) > (y : Int) - 5 then -((y : Int) - 5) else (y : Int) - 5) = ((((y : Int) - 5).natAbs : Nat) : Int) := max_abs _
          have e5 : IntKind.i64.wrap (((((x : Int) - 5).natAbs : Nat) : Int) + ((((y : Int) - 5).natAbs : Nat) : Int)) = (((((x : Int) - 5).natAbs) + (((y : Int) - 5).natAbs) : Nat) : Int) := add_i64 (by omega)
          have E1 := Lib.hid e1
          have E2 := Lib.hid e2
          have E3 := Lib.hid e3
          have E4 := Lib.hid e4
          have E5 := Lib.hid e5
          clear e1 e2 e3 e4 e5
          have HN := Lib.hid (show mvN a b (11 * y + x) = atN a b ((x : Int) - 5) ((y : Int) - 5) by unfold mvN; rw [mvx_at y x hlx, mvy_at y x hlx])
          have HF := Lib.hid (show mvFar (11 * y + x) = ((x : Int) - 5).natAbs + ((y : Int) - 5).natAbs by unfold mvFar; rw [mvx_at y x hlx, mvy_at y x hlx])
          have HS := Lib.hid hs
          obtain ⟨rfl, rfl, rfl, rfl⟩ := hs
          generalize hM : (if 11 * y + x = 0 then (-1 : Int) else (mvN a b (bestJ a b (11 * y + x)) : Int)) = M at *
          generalize hL : (if 11 * y + x = 0 then (0 : Int) else (mvFar (bestJ a b (11 * y + x)) : Int)) = L at *
          generalize (if 11 * y + x = 0 then (0 : Int) else mvx (bestJ a b (11 * y + x))) = X0 at *
          generalize (if 11 * y + x = 0 then (0 : Int) else mvy (bestJ a b (11 * y + x))) = Y0 at *
          have HM := Lib.hid hM
          have HL := Lib.hid hL
          clear hM hL
          go_wp2_with fail
          refine region_below (wr.heap.size) (by kernel_rfl) (by kernel_rfl) ?_
          refine below_run (by kernel_rfl) (.agg (R16 a)) (fun w' hw' => exec_load_row 26 (.tmp 2) rfl (w.heap.size) (by kernel_rfl) 26 (R16 a) _ _ (h.one.next hw') Try.underlying26 rfl (by rw [R16_size, ha]; kernel_rfl)) ?_
          refine below_run (by kernel_rfl) (.agg (R16 b)) (fun w' hw' => exec_load_row 26 (.tmp 3) rfl (w.heap.size + 1) (by kernel_rfl) 26 (R16 b) _ _ (h.two.next hw') Try.underlying26 rfl (by rw [R16_size, hb]; kernel_rfl)) ?_
          refine below_run (by kernel_rfl) (.int .i64 ((x : Int) - 5)) (fun w' hw' => by kernel_rfl) ?_
          refine below_run (by kernel_rfl) (.int .i64 ((y : Int) - 5)) (fun w' hw' => by kernel_rfl) ?_
          refine below_call (by kernel_rfl) 25 #[.agg (R16 b), .int .i64 ((x : Int) - 5), .int .i64 ((y : Int) - 5)] (.agg (R16 (movR b ((x : Int) - 5) ((y : Int) - 5)))) (fun w' => by kernel_rfl) (fun w' hw' => (moved_any b ((x : Int) - 5) ((y : Int) - 5) w' hb xb (by omega) (by omega)).mono fun e w1 ⟨he, hb1⟩ => ⟨he, below_step hw' hb1⟩) ?_
          refine below_call (by kernel_rfl) 15 #[.agg (R16 a), .agg (R16 (movR b ((x : Int) - 5) ((y : Int) - 5)))] (.int .i64 (atN a b ((x : Int) - 5) ((y : Int) - 5))) (fun w' => by kernel_rfl) (fun w' hw' => (match_impl a (movR b ((x : Int) - 5) ((y : Int) - 5)) w' ha (movR_length _ _ _) xa (rdN_movR_lt _ _ _)).mono fun e w1 ⟨he, hb1⟩ => ⟨he, below_step hw' hb1⟩) ?_
          refine below_run (by kernel_rfl) (.int .i64 ((x : Int) - 5)) (fun w' hw' => by kernel_rfl) ?_
          refine below_run (by kernel_rfl) (.int .i64 ((x : Int) - 5)) (fun w' hw' => by kernel_rfl) ?_
          refine below_run (by kernel_rfl) (.int .i64 (-((x : Int) - 5))) (fun w' hw' => by rw [← E1.out]; kernel_rfl) ?_
          refine below_run (by kernel_rfl) (.int .i64 ((((x : Int) - 5).natAbs : Nat) : Int)) (fun w' hw' => by rw [← E2.out]; kernel_rfl) ?_
          refine below_run (by kernel_rfl) (.int .i64 ((y : Int) - 5)) (fun w' hw' => by kernel_rfl) ?_
          refine below_run (by kernel_rfl) (.int .i64 ((y : Int) - 5)) (fun w' hw' => by kernel_rfl) ?_
          refine below_run (by kernel_rfl) (.int .i64 (-((y : Int) - 5))) (fun w' hw' => by rw [← E3.out]; kernel_rfl) ?_
          refine below_run (by kernel_rfl) (.int .i64 ((((y : Int) - 5).natAbs : Nat) : Int)) (fun w' hw' => by rw [← E4.out]; kernel_rfl) ?_
          refine below_run (by kernel_rfl) (.int .i64 (((((x : Int) - 5).natAbs) + (((y : Int) - 5).natAbs) : Nat) : Int)) (fun w' hw' => by rw [← E5.out]; kernel_rfl) ?_
          refine below_run (by kernel_rfl) (.int .i64 (atN a b ((x : Int) - 5) ((y : Int) - 5))) (fun w' hw' => by kernel_rfl) ?_
          refine below_run (by kernel_rfl) (.int .i64 (((((x : Int) - 5).natAbs) + (((y : Int) - 5).natAbs) : Nat) : Int)) (fun w' hw' => by kernel_rfl) ?_
          refine wpQuiet_nil ?_
          intro W1 hW1
          simp only [Act.put, List.setIfInBounds_toArray, List.set_cons_succ, List.set_cons_zero]
          have h := h.next hW1
          rw [← HN.out, ← HF.out]
          by_cases c1 : M < (mvN a b (11 * y + x) : Int)
          · go_wp2
            go_roundw
            case rel => exact ⟨x + 1, by omega, by go_num, st_take hlx HM.out HL.out (.inl c1), h⟩
            case measure => simp [intOf]; omega
          · cases c2 : ((mvN a b (11 * y + x) : Int) == M)
            · go_wp2
              go_roundw
              case rel => exact ⟨x + 1, by omega, by go_num, st_keep HM.out HL.out (by simp at c2; omega) HS.out, h⟩
              case measure => simp [intOf]; omega
            · by_cases c3 : (mvFar (11 * y + x) : Int) < L
              · go_wp2
                go_roundw
                case rel => exact ⟨x + 1, by omega, by go_num, st_take hlx HM.out HL.out (.inr ⟨by simpa using c2, c3⟩), h⟩
                case measure => simp [intOf]; omega
              · go_wp2
                go_roundw
                case rel => exact ⟨x + 1, by omega, by go_num, st_keep HM.out HL.out (by simp at c2; omega) HS.out, h⟩
                case measure => simp [intOf]; omega
        · obtain rfl : x = 11 := by omega
          go_wp2
          go_roundw
          case rel => exact ⟨y + 1, by omega, by go_num, by rw [Nat.mul_add]; exact hs, h⟩
          case measure => simp [intOf]; omega
    · obtain rfl : y = 11 := by omega
      have hbl := h.below
      obtain ⟨rfl, rfl, rfl, rfl⟩ := hs
      have HX := Lib.hid (show (if 11 * 11 = 0 then (0 : Int) else mvx (bestJ a b (11 * 11))) = bestX a b from rfl)
      have HY := Lib.hid (show (if 11 * 11 = 0 then (0 : Int) else mvy (bestJ a b (11 * 11))) = bestY a b from rfl)
      have HQ := Lib.hid (show (if 11 * 11 = 0 then (-1 : Int) else (mvN a b (bestJ a b (11 * 11)) : Int)) = bestM a b from rfl)
      rw [HX.out, HY.out, HQ.out]
      go_wp2
      go_ret3
      exact ⟨rfl, hbl⟩
end Go.Proofs.Ytgmlhnmjeelajaa
