/- Pieces given to sheets from one on, plain. No walk here. -/
import Derived.Test.YtdhngjjfoddnkaaGreatDoorShO

namespace Go.Proofs.YtdhngjjfoddnkaaGreatDoor
open Go Go.RowKit
set_option linter.unusedVariables false
set_option linter.unusedSimpArgs false

theorem pickN_hit {left : List Int} {n : Int} {d i : Nat} (h : n ≤ rdI left i) : pickN left n (d + 1) i = i := by rw [pickN, if_pos h]
theorem pickN_miss {left : List Int} {n : Int} {d i : Nat} (h : ¬ n ≤ rdI left i) : pickN left n (d + 1) i = pickN left n d (i + 1) := by rw [pickN, if_neg h]
theorem pick_range {left : List Int} {n : Int} {fr : Nat} (h : fr ≤ left.length) : fr ≤ pick fr left n ∧ pick fr left n ≤ left.length := by
  have := pickN_range left n (left.length - fr) fr
  unfold pick; omega
theorem pick_fit {left : List Int} {n : Int} {fr : Nat} (h : fr ≤ left.length) (k : pick fr left n < left.length) : n ≤ rdI left (pick fr left n) := by
  unfold pick at k ⊢
  exact pickN_fit left n _ _ (by omega)
theorem rdI_snoc (l : List Int) (x : Int) : rdI (l ++ [x]) l.length = x := by unfold rdI; simp
theorem rdI_left {l r : List Int} {i : Nat} (h : i < l.length) : rdI (l ++ r) i = rdI l i := by
  unfold rdI; rw [List.getD, List.getD, List.getElem?_append_left h]
theorem rdI_set {l : List Int} {i : Nat} (x : Int) (h : i < l.length) : rdI (l.set i x) i = x := by unfold rdI; simp [List.getD, h]
theorem rdI_set_ne {l : List Int} {i j : Nat} (x : Int) (h : i ≠ j) : rdI (l.set i x) j = rdI l j := by unfold rdI; rw [List.getD, List.getD, List.getElem?_set_ne h]
theorem set_snoc (l : List Int) (x y : Int) : (l ++ [x]).set l.length y = l ++ [y] := by
  rw [List.set_append_right _ _ (Nat.le_refl _)]; simp
theorem shs_new {fr : Nat → Nat} {w : Int} {ps : List Int} {k : Nat} (h : pick (fr (shs fr w ps k).2.length) (shs fr w ps k).2 (rdI ps k) = (shs fr w ps k).2.length) : shs fr w ps (k + 1) = ((shs fr w ps k).1 ++ [((shs fr w ps k).2.length : Int)], (shs fr w ps k).2 ++ [w - rdI ps k]) := by
  rw [shs]
  simp only [h, if_true]
  rw [rdI_snoc, set_snoc]
theorem shs_old {fr : Nat → Nat} {w : Int} {ps : List Int} {k i : Nat} (h : pick (fr (shs fr w ps k).2.length) (shs fr w ps k).2 (rdI ps k) = i) (hn : i ≠ (shs fr w ps k).2.length) : shs fr w ps (k + 1) = ((shs fr w ps k).1 ++ [(i : Int)], (shs fr w ps k).2.set i (rdI (shs fr w ps k).2 i - rdI ps k)) := by
  rw [shs]
  simp only [h, if_neg hn]
theorem shs_range {fr : Nat → Nat} (hfr : ∀ m, fr m ≤ m) {w : Int} {ps : List Int} (h : ∀ k, k < ps.length → 1 ≤ rdI ps k ∧ rdI ps k ≤ w) : ∀ k, k ≤ ps.length → (shs fr w ps k).1.length = k ∧ (shs fr w ps k).2.length ≤ k ∧ ∀ i, i < (shs fr w ps k).2.length → 0 ≤ rdI (shs fr w ps k).2 i ∧ rdI (shs fr w ps k).2 i ≤ w
  | 0, _ => ⟨rfl, Nat.le_refl _, fun i hi => absurd hi (Nat.not_lt_zero _)⟩
  | k + 1, hk => by
    obtain ⟨h1, h2, h3⟩ := shs_range hfr h k (by omega)
    have hp := h k (by omega)
    have hr := pick_range (n := rdI ps k) (hfr (shs fr w ps k).2.length)
    by_cases he : pick (fr (shs fr w ps k).2.length) (shs fr w ps k).2 (rdI ps k) = (shs fr w ps k).2.length
    · rw [shs_new he]
      refine ⟨by simp [h1], by simp; omega, fun i hi => ?_⟩
      simp only [List.length_append, List.length_singleton] at hi
      by_cases hi2 : i < (shs fr w ps k).2.length
      · rw [rdI_left hi2]; exact h3 i hi2
      · obtain rfl : i = (shs fr w ps k).2.length := by omega
        simp only
        rw [rdI_snoc]; omega
    · obtain ⟨j, hj⟩ : ∃ j, pick (fr (shs fr w ps k).2.length) (shs fr w ps k).2 (rdI ps k) = j := ⟨_, rfl⟩
      rw [shs_old hj (by rw [← hj]; exact he)]
      refine ⟨by simp [h1], by simp; omega, fun i hi => ?_⟩
      simp only [List.length_set] at hi
      have hf := pick_fit (n := rdI ps k) (hfr (shs fr w ps k).2.length) (by omega)
      rw [hj] at hf
      have := h3 j (by omega)
      simp only
      by_cases e : j = i
      · subst e; rw [rdI_set _ hi]; omega
      · rw [rdI_set_ne _ e]; exact h3 i hi
/-- What FirstSheets answers. -/
def firstR (f : Fc) (s : Sh) (l : List UInt8) : List Int × Int × Int :=
  if (cutR f s l 60).2 = 0 then ((shs (fun _ => 0) s.wide (cutR f s l 60).1 (cutR f s l 60).1.length).1, ((shs (fun _ => 0) s.wide (cutR f s l 60).1 (cutR f s l 60).1.length).2.length : Int), 0)
  else ([], 0, (cutR f s l 60).2)
/-- The first sheet from the last one on is the last one, or the next. -/
theorem shs_nxt {w : Int} {ps : List Int} (h : ∀ k, k < ps.length → 1 ≤ rdI ps k ∧ rdI ps k ≤ w) : ∀ k, k ≤ ps.length → (shs (fun m => m - 1) w ps k).1 = (nxt ps w k).1 ∧ ((shs (fun m => m - 1) w ps k).2.length : Int) = (nxt ps w k).2.1 + 1 ∧ ((shs (fun m => m - 1) w ps k).2.length = 0 → (nxt ps w k).2.2 = 0) ∧ (0 < (shs (fun m => m - 1) w ps k).2.length → rdI (shs (fun m => m - 1) w ps k).2 ((shs (fun m => m - 1) w ps k).2.length - 1) = (nxt ps w k).2.2)
  | 0, _ => ⟨rfl, rfl, fun _ => rfl, fun h => absurd h (Nat.lt_irrefl _)⟩
  | k + 1, hk => by
    obtain ⟨h1, h2, h3, h4⟩ := shs_nxt h k (by omega)
    have hp := h k (by omega)
    generalize hS : shs (fun m => m - 1) w ps k = S at *
    have hN : ∀ {P : Prop}, P → P := fun h => h
    by_cases h0 : S.2.length = 0
    · have he : pick (S.2.length - 1) S.2 (rdI ps k) = S.2.length := by
        unfold pick; rw [h0]; rfl
      have hx : (nxt ps w k).2.2 < rdI ps k := by rw [h3 h0]; omega
      have e := shs_new (fr := fun m => m - 1) (w := w) (ps := ps) (k := k) (by rw [hS]; exact he)
      rw [e, nxt_yes hx, hS]
      refine ⟨by rw [h1, h2], by simp only [List.length_append, List.length_singleton]; omega, fun hh => by simp at hh, fun _ => ?_⟩
      simp only [List.length_append, List.length_singleton, Nat.add_sub_cancel]
      rw [rdI_snoc]
    · have h4 := h4 (by omega)
      obtain ⟨m, hm⟩ : ∃ m, S.2.length = m + 1 := ⟨S.2.length - 1, by omega⟩
      have em : m + 1 - 1 = m := rfl
      rw [hm, em] at h4
      by_cases hx : (nxt ps w k).2.2 < rdI ps k
      · have he : pick (S.2.length - 1) S.2 (rdI ps k) = S.2.length := by
          unfold pick; rw [hm, em, show m + 1 - m = 0 + 1 by omega, pickN_miss (by omega)]; rfl
        have e := shs_new (fr := fun m => m - 1) (w := w) (ps := ps) (k := k) (by rw [hS]; exact he)
        rw [e, nxt_yes hx, hS]
        refine ⟨by rw [h1, h2], by simp only [List.length_append, List.length_singleton]; omega, fun hh => by simp at hh, fun _ => ?_⟩
        simp only [List.length_append, List.length_singleton, Nat.add_sub_cancel]
        rw [rdI_snoc]
      · have he : pick (S.2.length - 1) S.2 (rdI ps k) = m := by
          unfold pick; rw [hm, em, show m + 1 - m = 0 + 1 by omega, pickN_hit (by omega)]
        have e := shs_old (fr := fun m => m - 1) (w := w) (ps := ps) (k := k) (i := m) (by rw [hS]; exact he) (by rw [hS]; omega)
        rw [e, nxt_no hx, hS]
        have hmi : (m : Int) = (nxt ps w k).2.1 := by omega
        refine ⟨by rw [h1, hmi], by simp only [List.length_set]; exact h2, fun hh => by simp only [List.length_set] at hh; omega, fun _ => ?_⟩
        simp only [List.length_set]
        rw [hm, em, rdI_set _ (by omega), h4]
end Go.Proofs.YtdhngjjfoddnkaaGreatDoor
