/- Lines broken greedily, plain. No walk here. -/
import Derived.Test.YtjgflkoefimmoaaDoorLnS
namespace Go.Proofs.YtjgflkoefimmoaaDoor
open Go Go.RowKit
set_option linter.unusedVariables false
set_option linter.unusedSimpArgs false

/-- The breaks among the first k words, and where the open line begins. -/
def grd (f : Fc) (ws : List (List UInt8)) (m : Int) : Nat → List Int × Nat
  | 0 => ([], 0)
  | k + 1 => if m < lnW f ws (grd f ws m k).2 (k + 1) then ((grd f ws m k).1 ++ [(k : Int)], k) else grd f ws m k
theorem grd_yes {f : Fc} {ws : List (List UInt8)} {m : Int} {k : Nat} (h : m < lnW f ws (grd f ws m k).2 (k + 1)) : grd f ws m (k + 1) = ((grd f ws m k).1 ++ [(k : Int)], k) := by rw [grd, if_pos h]
theorem grd_no {f : Fc} {ws : List (List UInt8)} {m : Int} {k : Nat} (h : ¬ m < lnW f ws (grd f ws m k).2 (k + 1)) : grd f ws m (k + 1) = grd f ws m k := by rw [grd, if_neg h]
theorem grd_range (f : Fc) (ws : List (List UInt8)) (m : Int) (k : Nat) : (grd f ws m k).2 ≤ k ∧ (grd f ws m k).1.length ≤ k := by
  induction k with
  | zero => exact ⟨Nat.le_refl _, Nat.le_refl _⟩
  | succ k ih =>
    by_cases h : m < lnW f ws (grd f ws m k).2 (k + 1)
    · rw [grd_yes h]; simp; omega
    · rw [grd_no h]; omega
/-- Each word fits. -/
def FitsN (f : Fc) (ws : List (List UInt8)) (m : Int) (k : Nat) : Prop := ∀ j, j < k → lnW f ws j (j + 1) ≤ m
instance (f : Fc) (ws : List (List UInt8)) (m : Int) (k : Nat) : Decidable (FitsN f ws m k) := by unfold FitsN; infer_instance
def fits (f : Fc) (ws : List (List UInt8)) (m : Int) : Bool := decide (FitsN f ws m ws.length)
theorem fitsN_zero (f : Fc) (ws : List (List UInt8)) (m : Int) : FitsN f ws m 0 := fun j hj => by omega
theorem fitsN_succ {f : Fc} {ws : List (List UInt8)} {m : Int} {k : Nat} (h : FitsN f ws m k) (hk : lnW f ws k (k + 1) ≤ m) : FitsN f ws m (k + 1) := fun j hj => by
  rcases Nat.lt_succ_iff_lt_or_eq.1 hj with h1 | rfl
  · exact h j h1
  · exact hk
theorem fits_all {f : Fc} {ws : List (List UInt8)} {m : Int} (h : FitsN f ws m ws.length) : fits f ws m = true := decide_eq_true h
theorem fits_bad {f : Fc} {ws : List (List UInt8)} {m : Int} {k : Nat} (hk : k < ws.length) (h : ¬ lnW f ws k (k + 1) ≤ m) : fits f ws m = false := decide_eq_false fun hh => h (hh k hk)
theorem cutW_one {ws : List (List UInt8)} {k : Nat} (h : k < ws.length) : cutW ws k (k + 1) = [rdW ws k] := by
  unfold cutW rdW
  rw [List.drop_eq_getElem_cons h, Nat.add_sub_cancel_left, List.getD, List.getElem?_eq_getElem h]; rfl
theorem lnW_one {f : Fc} {ws : List (List UInt8)} {k : Nat} (h : k < ws.length) : lnW f ws k (k + 1) = lineW f (rdW ws k) := by
  unfold lnW; rw [cutW_one h, joinW_one]
/-- The first word fits, or there is none. -/
theorem grd_first {f : Fc} {ws : List (List UInt8)} {m : Int} (h0 : 0 ≤ m) (h : fits f ws m = true) : grd f ws m 1 = ([], 0) := by
  refine (grd_no (k := 0) ?_).trans rfl
  show ¬ m < lnW f ws 0 1
  have hh : FitsN f ws m ws.length := of_decide_eq_true h
  by_cases hl : 0 < ws.length
  · have h1 : lnW f ws 0 1 ≤ m := hh 0 hl
    omega
  · have e : ws = [] := List.eq_nil_of_length_eq_zero (by omega)
    subst e
    have : lnW f [] 0 1 = 0 := rfl
    omega
/-- What GreedyBreaks answers. -/
def brkOut (f : Fc) (l : List UInt8) (m : Int) : List Int × Int :=
  if askC f l (inB 0 4000 m) = 0 then (if fits f (words l) m then ((grd f (words l) m (words l).length).1, 0) else ([], 6)) else ([], askC f l (inB 0 4000 m))
theorem brkOut_no {f : Fc} {l : List UInt8} {m : Int} (h : ¬ askC f l (inB 0 4000 m) = 0) : brkOut f l m = ([], askC f l (inB 0 4000 m)) := by unfold brkOut; rw [if_neg h]
theorem brkOut_bad {f : Fc} {l : List UInt8} {m : Int} (h : askC f l (inB 0 4000 m) = 0) (k : fits f (words l) m = false) : brkOut f l m = ([], 6) := by unfold brkOut; rw [if_pos h, k]; rfl
theorem brkOut_ok {f : Fc} {l : List UInt8} {m : Int} (h : askC f l (inB 0 4000 m) = 0) (k : fits f (words l) m = true) : brkOut f l m = ((grd f (words l) m (words l).length).1, 0) := by unfold brkOut; rw [if_pos h, k]; rfl
theorem brkOut_len (f : Fc) (l : List UInt8) (m : Int) (ht : (words l).length ≤ 60 ∨ ¬ askC f l (inB 0 4000 m) = 0) : (brkOut f l m).1.length ≤ 60 := by
  by_cases h : askC f l (inB 0 4000 m) = 0
  · cases k : fits f (words l) m
    · rw [brkOut_bad h k]; exact Nat.zero_le _
    · rw [brkOut_ok h k]
      have := (grd_range f (words l) m (words l).length).2
      rcases ht with ht | ht
      · exact Nat.le_trans this ht
      · exact absurd h ht
  · rw [brkOut_no h]; exact Nat.zero_le _
theorem brkOut_many (f : Fc) (l : List UInt8) (m : Int) : (brkOut f l m).1.length ≤ 60 := by
  by_cases h : askC f l (inB 0 4000 m) = 0
  · exact brkOut_len f l m (.inl (words_count (askC_zero h).2.1))
  · exact brkOut_len f l m (.inr h)
end Go.Proofs.YtjgflkoefimmoaaDoor
