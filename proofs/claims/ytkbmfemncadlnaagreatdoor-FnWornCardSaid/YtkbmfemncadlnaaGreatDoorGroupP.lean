/- The groups of hands, in plain lists: a group is what can be reached from its first hand; both orders of search end at it. No program in sight. -/
import Derived.Test.YtkbmfemncadlnaaGreatDoorGA

namespace Go.Proofs.YtkbmfemncadlnaaGreatDoor
set_option linter.unusedVariables false
set_option linter.unusedSimpArgs false

section
variable (near : Nat → Nat → Bool) (n : Nat)
/-- What can be reached from i through hands that have no group yet. -/
inductive Reach (out : List Int) (i : Nat) : Nat → Prop
  | start : Reach out i i
  | step {a b : Nat} : Reach out i a → b < n → near a b = true → rdI out b < 0 → Reach out i b
open Classical in
/-- The list once the group g of hand i has been made. -/
noncomputable def grp1 (out : List Int) (i : Nat) (g : Int) : List Int := (List.range n).map fun b => if Reach near n out i b ∧ b < n then g else rdI out b
theorem grp1_length (out : List Int) (i : Nat) (g : Int) : (grp1 near n out i g).length = n := by simp [grp1]
/-- The lists after the first i hands, and the number of groups. -/
noncomputable def grpAll : Nat → List Int × Nat
  | 0 => (List.replicate n (-1), 0)
  | i + 1 => if 0 ≤ rdI (grpAll i).1 i then grpAll i else (grp1 near n (grpAll i).1 i ((grpAll i).2 : Int), (grpAll i).2 + 1)
variable {near n}
theorem grpAll_skip {i : Nat} (h : 0 ≤ rdI (grpAll near n i).1 i) : grpAll near n (i + 1) = grpAll near n i := by rw [grpAll, if_pos h]
theorem grpAll_make {i : Nat} (h : ¬ 0 ≤ rdI (grpAll near n i).1 i) : grpAll near n (i + 1) = (grp1 near n (grpAll near n i).1 i ((grpAll near n i).2 : Int), (grpAll near n i).2 + 1) := by rw [grpAll, if_neg h]
theorem grpAll_length (i : Nat) : (grpAll near n i).1.length = n := by
  induction i with
  | zero => simp [grpAll]
  | succ i ih =>
    by_cases h : 0 ≤ rdI (grpAll near n i).1 i
    · rw [grpAll_skip h]; exact ih
    · rw [grpAll_make h]; exact grp1_length _ _ _ _ _
theorem rdI_grp1 (out : List Int) (i : Nat) (g : Int) (b : Nat) (hb : b < n) : (Reach near n out i b → rdI (grp1 near n out i g) b = g) ∧ (¬ Reach near n out i b → rdI (grp1 near n out i g) b = rdI out b) := by
  constructor
  · intro h
    simp only [rdI, grp1, List.getD, List.getElem?_map, List.getElem?_range hb, Option.map_some, Option.getD_some]
    rw [if_pos ⟨h, hb⟩]
  · intro h
    simp only [rdI, grp1, List.getD, List.getElem?_map, List.getElem?_range hb, Option.map_some, Option.getD_some]
    rw [if_neg fun hh => h hh.1]
/-- Every number of a group made so far is below the number of groups. -/
theorem grpAll_lt (i : Nat) (b : Nat) (hb : b < n) : rdI (grpAll near n i).1 b < ((grpAll near n i).2 : Int) := by
  induction i with
  | zero =>
    have : rdI (grpAll near n 0).1 b = -1 := by simp [grpAll, rdI, List.getD, List.getElem?_replicate, hb]
    rw [this]; simp [grpAll]
  | succ i ih =>
    by_cases h : 0 ≤ rdI (grpAll near n i).1 i
    · rw [grpAll_skip h]; exact ih
    · rw [grpAll_make h]
      have h2 := rdI_grp1 (near := near) (grpAll near n i).1 i ((grpAll near n i).2 : Int) b hb
      by_cases hr : Reach near n (grpAll near n i).1 i b
      · simp only [h2.1 hr]; omega
      · simp only [h2.2 hr]; omega

theorem grpAll_count (i : Nat) : (grpAll near n i).2 ≤ i := by
  induction i with
  | zero => exact Nat.le_refl _
  | succ i ih =>
    by_cases h : 0 ≤ rdI (grpAll near n i).1 i
    · rw [grpAll_skip h]; omega
    · rw [grpAll_make h]; simp only; omega

/-- While the group g of hand i is being made: what stands is as it was, or a hand that can be reached. -/
structure Making (near : Nat → Nat → Bool) (n : Nat) (out : List Int) (i : Nat) (g : Int) (cur : List Int) : Prop where
  len : cur.length = n
  first : rdI cur i = g
  each : ∀ b, b < n → rdI cur b = rdI out b ∨ (Reach near n out i b ∧ rdI cur b = g)
theorem rdI_set (l : List Int) (k : Nat) (v : Int) (y : Nat) (hk : k < l.length) : rdI (l.set k v) y = if y = k then v else rdI l y := by
  unfold rdI
  rw [List.getD, List.getElem?_set]
  by_cases h : k = y
  · subst h; simp [hk]
  · rw [if_neg h, if_neg (fun e => h e.symm)]; rfl
theorem Making.start {out : List Int} {i : Nat} {g : Int} (hl : out.length = n) (hi : i < n) : Making near n out i g (out.set i g) := by
  refine ⟨by simpa using hl, by rw [rdI_set _ _ _ _ (by omega), if_pos rfl], fun b hb => ?_⟩
  rw [rdI_set _ _ _ _ (by omega)]
  split
  · rename_i e; subst e; exact .inr ⟨.start, rfl⟩
  · exact .inl rfl
/-- One hand more, near to one that has the group. -/
theorem Making.add {out cur : List Int} {i : Nat} {g : Int} (h : Making near n out i g cur) (hg : ∀ b, b < n → rdI out b < g) (hg0 : 0 ≤ g) {a b : Nat} (ha : a < n) (hb : b < n) (hag : rdI cur a = g) (hbn : rdI cur b < 0) (hn : near a b = true) : Making near n out i g (cur.set b g) := by
  have hra : Reach near n out i a := by
    rcases h.each a ha with e | e
    · have := hg a ha; omega
    · exact e.1
  have hbo : rdI out b < 0 := by
    rcases h.each b hb with e | e
    · omega
    · omega
  have hl := h.len
  refine ⟨by simpa using h.len, ?_, fun c hc => ?_⟩
  · rw [rdI_set _ _ _ _ (by omega)]; split
    · rfl
    · exact h.first
  · rw [rdI_set _ _ _ _ (by omega)]
    split
    · rename_i e; subst e; exact .inr ⟨.step hra hb hn hbo, rfl⟩
    · exact h.each c hc
/-- It is done when no hand is left that is near to one that has the group. -/
theorem Making.done {out cur : List Int} {i : Nat} {g : Int} (h : Making near n out i g cur) (hi : i < n) (hg : ∀ b, b < n → rdI out b < g) (hg0 : 0 ≤ g) (hio : rdI out i < 0)
    (hc : ∀ a, a < n → rdI cur a = g → ∀ b, b < n → rdI cur b < 0 → near a b = false) : cur = grp1 near n out i g := by
  have hreach : ∀ b, Reach near n out i b → b < n ∧ rdI cur b = g := by
    intro b hb
    induction hb with
    | start => exact ⟨hi, h.first⟩
    | step hra hb hn hbo ih =>
      refine ⟨hb, ?_⟩
      rcases h.each _ hb with e | e
      · have := hc _ ih.1 ih.2 _ hb (by omega)
        rw [this] at hn; cases hn
      · exact e.2
  have hl := h.len
  apply List.ext_getElem?
  intro b
  by_cases hb : b < n
  · have h1 : rdI cur b = rdI (grp1 near n out i g) b := by
      have h2 := rdI_grp1 (near := near) out i g b hb
      by_cases hr : Reach near n out i b
      · rw [h2.1 hr]; exact (hreach b hr).2
      · rw [h2.2 hr]
        rcases h.each b hb with e | e
        · exact e
        · exact absurd e.1 hr
    have hl2 := grp1_length near n out i g
    rw [List.getElem?_eq_getElem (by omega), List.getElem?_eq_getElem (by omega)]
    simp only [rdI, List.getD, List.getElem?_eq_getElem (show b < cur.length by omega), List.getElem?_eq_getElem (show b < (grp1 near n out i g).length by omega), Option.getD_some] at h1
    rw [h1]
  · rw [List.getElem?_eq_none (by omega), List.getElem?_eq_none (by rw [grp1_length]; omega)]
end
end Go.Proofs.YtkbmfemncadlnaaGreatDoor
