/- Contracts: the best move, by the reference. -/
import Derived.Test.YtgmlhnmjeelajaaRubI

namespace Go.Proofs.Ytgmlhnmjeelajaa
open Go Go.RowKit
set_option linter.unusedVariables false
set_option linter.unusedSimpArgs false

theorem mvFar_le (i : Nat) (hi : i < 121) : mvFar i < 11 := by unfold mvFar mvx mvy; omega

/-- The reference's three numbers, at size s, before move i. -/
def SpecP (a b : List Nat) (s i : Nat) (X Y M : Int) : Prop :=
  ((∀ j, ¬ Seen mvFar 121 s i j) ∧ X = 0 ∧ Y = 0 ∧ M = -1) ∨ ∃ j, BestIn (mvN a b) mvFar (Seen mvFar 121 s i) j ∧ X = mvx j ∧ Y = mvy j ∧ M = (mvN a b j : Int)
theorem specP_start (a b : List Nat) : SpecP a b 0 0 0 0 (-1) := .inl ⟨fun j h => by unfold Seen at h; omega, rfl, rfl, rfl⟩
theorem specP_take {a b : List Nat} {s i : Nat} {X Y M : Int} (h : SpecP a b s i X Y M) (hi : i < 121) (hf : mvFar i = s) (hn : M < (mvN a b i : Int)) : SpecP a b s (i + 1) (mvx i) (mvy i) (mvN a b i : Int) := by
  rcases h with ⟨h0, _⟩ | ⟨j, hj, _, _, rfl⟩
  · exact .inr ⟨i, seen_first hi hf h0, rfl, rfl, rfl⟩
  · exact .inr ⟨i, (seen_best hi hf hj).1 (by omega), rfl, rfl, rfl⟩
theorem specP_keep {a b : List Nat} {s i : Nat} {X Y M : Int} (h : SpecP a b s i X Y M) (hi : i < 121) (hf : mvFar i = s) (hn : ¬ M < (mvN a b i : Int)) : SpecP a b s (i + 1) X Y M := by
  rcases h with ⟨h0, _, _, rfl⟩ | ⟨j, hj, hx, hy, rfl⟩
  · omega
  · exact .inr ⟨j, (seen_best hi hf hj).2 (by omega), hx, hy, rfl⟩
theorem specP_congr {a b : List Nat} {s i s' i' : Nat} {X Y M : Int} (h : SpecP a b s i X Y M) (hs : ∀ j, Seen mvFar 121 s i j ↔ Seen mvFar 121 s' i' j) : SpecP a b s' i' X Y M := by
  rcases h with ⟨h0, h1⟩ | ⟨j, hj, h1⟩
  · exact .inl ⟨fun j hj => h0 j ((hs j).2 hj), h1⟩
  · exact .inr ⟨j, hj.congr hs, h1⟩
theorem specP_skip {a b : List Nat} {s i : Nat} {X Y M : Int} (h : SpecP a b s i X Y M) (hf : mvFar i ≠ s) : SpecP a b s (i + 1) X Y M := specP_congr h (seen_skip hf)
theorem specP_next {a b : List Nat} {s : Nat} {X Y M : Int} (h : SpecP a b s 121 X Y M) : SpecP a b (s + 1) 0 X Y M := specP_congr h seen_next
theorem specP_end {a b : List Nat} {X Y M : Int} (h : SpecP a b 11 0 X Y M) : X = bestX a b ∧ Y = bestY a b ∧ M = bestM a b := by
  have hall := seen_all (far := mvFar) (m := 121) (s := 11) mvFar_le
  rcases h with ⟨h0, _⟩ | ⟨j, hj, hx, hy, hm⟩
  · exact absurd ((hall 0).2 (by omega)) (h0 0)
  · have e : j = bestJ a b 121 := (hj.congr hall).unique (bestI_best 120)
    subst e
    exact ⟨hx, hy, hm⟩

theorem l00Max_abs (z q : Int) (w : World) (hq : q = -z) : Calls Try.prog 26 #[.int .i64 z, .int .i64 q] w fun e w' => e = .returned (.int .i64 ((z.natAbs : Nat) : Int)) ∧ w = w' := by
  by_cases h : q < z
  · go_enter Try.func26, Try.ntmps26
    go_wp2
    go_ret
    exact ⟨ret_int (by omega), rfl⟩
  · go_enter Try.func26, Try.ntmps26
    go_wp2
    go_ret
    exact ⟨ret_int (by omega), rfl⟩

/-- A variable's three numbers. -/
structure SpecSt (a b : List Nat) (s i : Nat) (v7 v8 v9 : Value) : Prop where
  is : ∃ X Y M : Int, v7 = .int .i64 X ∧ v8 = .int .i64 Y ∧ v9 = .int .i64 M ∧ SpecP a b s i X Y M

set_option maxHeartbeats 2000000 in
set_option maxRecDepth 100000 in
theorem bestMove_spec (a b : List Nat) (w : World) (ha : a.length = 8) (hb : b.length = 8) (xa : ∀ k, rdN a k < 65536) :
    Calls Try.prog 7 #[.agg (R16 a), .agg (R16 b)] w fun e w' => e = .returned (.tuple #[.int .i64 (bestX a b), .int .i64 (bestY a b), .int .i64 (bestM a b)]) ∧ Below w.heap.size w w' := by
  go_enter Try.func7, Try.ntmps7
  go_wp2
  go_loopw [7, 8, 9, 10] (fun v7 v8 v9 i wr => ∃ s : Nat, s ≤ 11 ∧ i = .int .i64 s ∧ SpecSt a b s 0 v7 v8 v9 ∧ BestRel a b w wr) (fun _ _ _ i _ => (11 - intOf i).toNat)
  case atStart => exact ⟨0, by omega, rfl, ⟨_, _, _, rfl, rfl, rfl, specP_start a b⟩, (Blk.new w _ _).alloc _, Blk.at_new _ _ _ (by simp) _ _ rfl, below_two _ _ _⟩
  case round =>
    obtain ⟨s, hsm, rfl, hs, h⟩ := hrel
    by_cases hls : s < 11
    · obtain ⟨wo, rfl⟩ : ∃ wo : World, wo = wr := ⟨_, rfl⟩
      have hd7 : decide ((s : Int) ≤ 10) = true := by simp; omega
      go_wp2
      go_loopw [7, 8, 9, 11] (fun v7 v8 v9 i wr => ∃ y : Nat, y ≤ 11 ∧ i = .int .i64 ((y : Int) - 5) ∧ SpecSt a b s (11 * y) v7 v8 v9 ∧ BestRel a b w wr) (fun _ _ _ i _ => (11 - (intOf i + 5)).toNat)
      case atStart => exact ⟨0, by omega, rfl, hs, h⟩
      case round =>
        obtain ⟨y, hy, rfl, hs, h⟩ := hrel
        by_cases hlt : y < 11
        · obtain ⟨wp, rfl⟩ : ∃ wp : World, wp = wr := ⟨_, rfl⟩
          have hd8 : decide ((y : Int) - 5 ≤ 5) = true := by simp; omega
          go_wp2
          go_loopw [7, 8, 9, 12] (fun v7 v8 v9 i wr => ∃ x : Nat, x ≤ 11 ∧ i = .int .i64 ((x : Int) - 5) ∧ SpecSt a b s (11 * y + x) v7 v8 v9 ∧ BestRel a b w wr) (fun _ _ _ i _ => (11 - (intOf i + 5)).toNat)
          case atStart => exact ⟨0, by omega, rfl, hs, h⟩
          case round =>
            obtain ⟨x, hxx, rfl, hs, h⟩ := hrel
            by_cases hlx : x < 11
            · have hdx : decide ((x : Int) - 5 ≤ 5) = true := by simp; omega
              have HN := Lib.hid (show mvN a b (11 * y + x) = atN a b ((x : Int) - 5) ((y : Int) - 5) by unfold mvN; rw [mvx_at y x hlx, mvy_at y x hlx])
              have HF := Lib.hid (show mvFar (11 * y + x) = ((x : Int) - 5).natAbs + ((y : Int) - 5).natAbs by unfold mvFar; rw [mvx_at y x hlx, mvy_at y x hlx])
              have HX := Lib.hid (mvx_at y x hlx)
              have HY := Lib.hid (mvy_at y x hlx)
              obtain ⟨X, Y, M, rfl, rfl, rfl, hp⟩ := hs
              cases hf : ((((x : Int) - 5).natAbs : Int) + (((y : Int) - 5).natAbs : Int) != (s : Int))
              · have hfe : mvFar (11 * y + x) = s := by rw [HF.out]; simp at hf; omega
                have HP := Lib.hid hp
                clear hp
                by_cases c1 : M < (atN a b ((x : Int) - 5) ((y : Int) - 5) : Int)
                · have HK := Lib.hid (specP_take HP.out (by omega) hfe (by rw [HN.out]; exact c1))
                  rw [HN.out, HX.out, HY.out] at HK
                  clear HP hfe
                  go_wp2_with (first
                    | (go_at_call 26; refine (l00Max_abs _ _ _ (by first | rfl | omega | go_num)).mono ?_; rintro e w' ⟨rfl, rfl⟩)
                    | (go_at_call 27; refine (l07At_any _ _ a b _ _ _ ha hb xa h.one.row h.two.row (by omega) (by omega)).mono ?_; rintro e w1 ⟨rfl, hb1⟩; have h := h.next hb1; clear hb1))
                  go_roundw
                  case rel => exact ⟨x + 1, by omega, by go_num, ⟨_, _, _, rfl, rfl, rfl, HK.out⟩, h⟩
                  case measure => simp [intOf]; omega
                · have HK := Lib.hid (specP_keep HP.out (by omega) hfe (by rw [HN.out]; exact c1))
                  clear HP hfe
                  go_wp2_with (first
                    | (go_at_call 26; refine (l00Max_abs _ _ _ (by first | rfl | omega | go_num)).mono ?_; rintro e w' ⟨rfl, rfl⟩)
                    | (go_at_call 27; refine (l07At_any _ _ a b _ _ _ ha hb xa h.one.row h.two.row (by omega) (by omega)).mono ?_; rintro e w1 ⟨rfl, hb1⟩; have h := h.next hb1; clear hb1))
                  go_roundw
                  case rel => exact ⟨x + 1, by omega, by go_num, ⟨_, _, _, rfl, rfl, rfl, HK.out⟩, h⟩
                  case measure => simp [intOf]; omega
              · have HK := Lib.hid (specP_skip hp (show mvFar (11 * y + x) ≠ s by rw [HF.out]; simp at hf; omega))
                clear hp
                go_wp2_with (first
                  | (go_at_call 26; refine (l00Max_abs _ _ _ (by first | rfl | omega | go_num)).mono ?_; rintro e w' ⟨rfl, rfl⟩))
                go_roundw
                case rel => exact ⟨x + 1, by omega, by go_num, ⟨_, _, _, rfl, rfl, rfl, HK.out⟩, h⟩
                case measure => simp [intOf]; omega
            · obtain rfl : x = 11 := by omega
              go_wp2
              go_roundw
              case rel => exact ⟨y + 1, by omega, by go_num, by rw [Nat.mul_add]; exact hs, h⟩
              case measure => simp [intOf]; omega
        · obtain rfl : y = 11 := by omega
          obtain ⟨X, Y, M, h1, h2, h3, hp⟩ := hs
          go_wp2
          go_roundw
          case rel => exact ⟨s + 1, by omega, by go_num, ⟨X, Y, M, h1, h2, h3, specP_next hp⟩, h⟩
          case measure => simp [intOf]; omega
    · obtain rfl : s = 11 := by omega
      obtain ⟨X, Y, M, rfl, rfl, rfl, hp⟩ := hs
      obtain ⟨rfl, rfl, rfl⟩ := specP_end hp
      clear hp
      go_wp2
      go_ret3
      exact ⟨rfl, h.below⟩
end Go.Proofs.Ytgmlhnmjeelajaa
