/- The widest word, plain. No walk here. -/
import Derived.Test.YtjgflkoefimmoaaDoorFcP
import Derived.Test.YtjgflkoefimmoaaDoorWdW
namespace Go.Proofs.YtjgflkoefimmoaaDoor
open Go Go.RowKit
set_option linter.unusedVariables false
set_option linter.unusedSimpArgs false

/-- The widest of the first k words, and how wide it is; -1 before the first. -/
def bst (f : Fc) (ws : List (List UInt8)) : Nat → Int × Int
  | 0 => (-1, 0)
  | k + 1 => if (bst f ws k).2 < lineW f (rdW ws k) then ((k : Int), lineW f (rdW ws k)) else bst f ws k
theorem bst_yes {f : Fc} {ws : List (List UInt8)} {k : Nat} (h : (bst f ws k).2 < lineW f (rdW ws k)) : bst f ws (k + 1) = ((k : Int), lineW f (rdW ws k)) := by rw [bst, if_pos h]
theorem bst_no {f : Fc} {ws : List (List UInt8)} {k : Nat} (h : ¬ (bst f ws k).2 < lineW f (rdW ws k)) : bst f ws (k + 1) = bst f ws k := by rw [bst, if_neg h]
theorem word_range {f : Fc} (hf : FcV f) {l : List UInt8} (hl : IsW l) (h60 : l.length ≤ 60) : 1 ≤ lineW f l ∧ lineW f l ≤ 3600 := by
  have := atW_range hf hl.1.ls (Nat.le_refl l.length)
  have := hl.2
  unfold lineW; omega
theorem bst_range {f : Fc} (hf : FcV f) {ws : List (List UInt8)} (hw : ∀ x ∈ ws, IsW x) (h60 : ∀ x ∈ ws, x.length ≤ 60) {k : Nat} (hk : k ≤ ws.length) :
    (k = 0 ∧ bst f ws k = (-1, 0)) ∨ (0 < k ∧ 0 ≤ (bst f ws k).1 ∧ (bst f ws k).1 < (k : Int) ∧ 1 ≤ (bst f ws k).2 ∧ (bst f ws k).2 ≤ 3600) := by
  induction k with
  | zero => exact .inl ⟨rfl, rfl⟩
  | succ k ih =>
    right
    have hr := word_range hf (hw _ (rdW_mem (show k < ws.length by omega))) (h60 _ (rdW_mem (show k < ws.length by omega)))
    by_cases h : (bst f ws k).2 < lineW f (rdW ws k)
    · rw [bst_yes h]; simp; omega
    · rw [bst_no h]
      rcases ih (by omega) with ⟨rfl, e⟩ | ⟨h1, h2, h3, h4, h5⟩
      · rw [e] at h; simp at h; omega
      · push_cast; omega
/-- What WidestWord answers. -/
def widOut (f : Fc) (l : List UInt8) : Int × Int × Int :=
  if validF f && vText l then (if words l = [] then (0, 0, 6) else ((bst f (words l) (words l).length).1, (bst f (words l) (words l).length).2, 0)) else (0, 0, 1)
theorem widOut_no {f : Fc} {l : List UInt8} (h : ¬ (validF f = true ∧ vText l = true)) : widOut f l = (0, 0, 1) := by
  unfold widOut
  rw [if_neg]; simpa using h
theorem widOut_nil {f : Fc} {l : List UInt8} (h : validF f = true) (k : vText l = true) (hw : words l = []) : widOut f l = (0, 0, 6) := by unfold widOut; rw [h, k, hw]; rfl
theorem widOut_ok {f : Fc} {l : List UInt8} (h : validF f = true) (k : vText l = true) (hw : ¬ words l = []) : widOut f l = ((bst f (words l) (words l).length).1, (bst f (words l) (words l).length).2, 0) := by
  unfold widOut; rw [h, k, if_neg hw]; rfl
theorem word_len {l x : List UInt8} (ht : vText l = true) (hx : x ∈ words l) : x.length ≤ 60 := by
  have h60 := (vText_iff.1 ht).2
  have hj := joinW_words l
  obtain ⟨i, hi, rfl⟩ := List.getElem_of_mem hx
  have := joinW_take_length (ws := words l) i 1
  rw [hj] at this
  have e : (List.drop i (words l)).take 1 = [(words l)[i]] := by
    rw [List.drop_eq_getElem_cons hi]; rfl
  rw [e, joinW_one] at this
  omega
end Go.Proofs.YtjgflkoefimmoaaDoor
