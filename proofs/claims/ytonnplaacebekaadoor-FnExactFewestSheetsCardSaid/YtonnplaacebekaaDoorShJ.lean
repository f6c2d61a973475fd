/- The fewest sheets: all ways to put pieces, plain. No walk here. -/
import Derived.Test.YtonnplaacebekaaDoorShA

namespace Go.Proofs.YtonnplaacebekaaDoor
open Go Go.RowKit
set_option linter.unusedVariables false
set_option linter.unusedSimpArgs false

/-- Sheets behind a piece that goes on sheet k. -/
def putS (w : Int) (lf : List Int) (k : Nat) (p : Int) : List Int := if k = lf.length then lf ++ [w - p] else lf.set k (rdI lf k - p)
def fitS (lf : List Int) (k : Nat) (p : Int) : Bool := k == lf.length || decide (p ≤ rdI lf k)
/-- All ways, the first sheets first, each with its number of sheets. -/
def lvs (w : Int) : List Int → List Int → List Int → List (List Int × Nat)
  | [], lf, path => [(path, lf.length)]
  | p :: ps, lf, path => (List.range (lf.length + 1)).flatMap fun k => if fitS lf k p = true then lvs w ps (putS w lf k p) (path ++ [(k : Int)]) else []
/-- The ways whose next sheet is less than k. -/
def lvk (w p : Int) (ps lf path : List Int) (k : Nat) : List (List Int × Nat) := (List.range k).flatMap fun k => if fitS lf k p = true then lvs w ps (putS w lf k p) (path ++ [(k : Int)]) else []
theorem lvs_cons (w p : Int) (ps lf path : List Int) : lvs w (p :: ps) lf path = lvk w p ps lf path (lf.length + 1) := rfl
theorem lvk_zero (w p : Int) (ps lf path : List Int) : lvk w p ps lf path 0 = [] := rfl
theorem lvk_yes {w p : Int} {ps lf path : List Int} {k : Nat} (h : fitS lf k p = true) : lvk w p ps lf path (k + 1) = lvk w p ps lf path k ++ lvs w ps (putS w lf k p) (path ++ [(k : Int)]) := by
  unfold lvk
  rw [List.range_succ, List.flatMap_append]
  simp [h]
theorem lvk_no {w p : Int} {ps lf path : List Int} {k : Nat} (h : fitS lf k p = false) : lvk w p ps lf path (k + 1) = lvk w p ps lf path k := by
  unfold lvk
  rw [List.range_succ, List.flatMap_append]
  simp [h]
theorem fitS_new (lf : List Int) (p : Int) : fitS lf lf.length p = true := by unfold fitS; simp
theorem fitS_old {lf : List Int} {k : Nat} {p : Int} (h : k < lf.length) : fitS lf k p = decide (p ≤ rdI lf k) := by
  unfold fitS
  rw [show (k == lf.length) = false by simp; omega]; rfl
theorem putS_new (w : Int) (lf : List Int) (p : Int) : putS w lf lf.length p = lf ++ [w - p] := by unfold putS; rw [if_pos rfl]
theorem putS_old {w : Int} {lf : List Int} {k : Nat} {p : Int} (h : k < lf.length) : putS w lf k p = lf.set k (rdI lf k - p) := by unfold putS; rw [if_neg (by omega)]
theorem putS_length (w : Int) (lf : List Int) (k : Nat) (p : Int) : (putS w lf k p).length = if k = lf.length then lf.length + 1 else lf.length := by
  unfold putS; split <;> simp
theorem putS_le (w : Int) (lf : List Int) (k : Nat) (p : Int) : lf.length ≤ (putS w lf k p).length ∧ (putS w lf k p).length ≤ lf.length + 1 := by
  rw [putS_length]; split <;> omega
/-- What is left of each sheet stays in its range. -/
theorem putS_range {w : Int} {lf : List Int} {k : Nat} {p : Int} (h : ∀ i, i < lf.length → 0 ≤ rdI lf i ∧ rdI lf i ≤ w) (hp : 1 ≤ p ∧ p ≤ w) (hk : k ≤ lf.length) (hf : fitS lf k p = true) : ∀ i, i < (putS w lf k p).length → 0 ≤ rdI (putS w lf k p) i ∧ rdI (putS w lf k p) i ≤ w := by
  intro i hi
  by_cases e : k = lf.length
  · subst e
    rw [putS_new] at hi ⊢
    rw [List.length_append, List.length_singleton] at hi
    by_cases e2 : i < lf.length
    · rw [rdI_left e2]; exact h i e2
    · obtain rfl : i = lf.length := by omega
      rw [rdI_snoc]; omega
  · have hlt : k < lf.length := by omega
    rw [putS_old hlt] at hi ⊢
    rw [List.length_set] at hi
    rw [fitS_old hlt] at hf
    have hf := of_decide_eq_true hf
    by_cases e2 : k = i
    · subst e2
      have := h k hlt
      rw [rdI_set _ hlt]; omega
    · rw [rdI_set_ne _ e2]; exact h i hi
theorem lvs_ge (w : Int) : ∀ (ps lf path : List Int) (x : List Int × Nat), x ∈ lvs w ps lf path → lf.length ≤ x.2 ∧ x.2 ≤ lf.length + ps.length
  | [], lf, path, x, h => by
    rw [lvs, List.mem_singleton] at h
    subst h; exact ⟨Nat.le_refl _, Nat.le_refl _⟩
  | p :: ps, lf, path, x, h => by
    rw [lvs, List.mem_flatMap] at h
    obtain ⟨k, hk, hx⟩ := h
    split at hx
    · have h1 := lvs_ge w ps _ _ x hx
      have h2 := putS_le w lf k p
      rw [List.length_cons]; omega
    · cases hx
theorem lvk_ge (w p : Int) (ps lf path : List Int) (k : Nat) (x : List Int × Nat) (h : x ∈ lvk w p ps lf path k) : lf.length ≤ x.2 := by
  unfold lvk at h
  rw [List.mem_flatMap] at h
  obtain ⟨k, hk, hx⟩ := h
  split at hx
  · have h1 := lvs_ge w ps _ _ x hx
    have h2 := putS_le w lf k p
    omega
  · cases hx
theorem lvs_some (w : Int) : ∀ (ps lf path : List Int), lvs w ps lf path ≠ []
  | [], lf, path => by rw [lvs]; exact List.cons_ne_nil _ _
  | p :: ps, lf, path => by
    rw [lvs_cons, lvk_yes (fitS_new lf p)]
    intro h
    exact lvs_some w ps _ _ (List.append_eq_nil_iff.1 h).2
/-- The reference's state: the best way, its number of sheets, whether there is one. -/
structure Sst where
  best : List Int
  least : Int
  found : Bool
def stp (st : Sst) (x : List Int × Nat) : Sst := if st.found = true ∧ st.least ≤ (x.2 : Int) then st else ⟨x.1, (x.2 : Int), true⟩
theorem stp_keep {st : Sst} {L : List (List Int × Nat)} (hf : st.found = true) (h : ∀ x ∈ L, st.least ≤ (x.2 : Int)) : L.foldl stp st = st := by
  induction L with
  | nil => rfl
  | cons x L ih =>
    rw [List.foldl_cons, show stp st x = st by unfold stp; rw [if_pos ⟨hf, h x (by simp)⟩]]
    exact ih fun y hy => h y (by simp [hy])
/-- The program's way: the first one with so many sheets at most. -/
def fndP (most : Nat) (L : List (List Int × Nat)) : Option (List Int × Nat) := L.find? fun x => decide (x.2 ≤ most)
theorem fndP_app (most : Nat) (L M : List (List Int × Nat)) : fndP most (L ++ M) = (fndP most L).or (fndP most M) := by unfold fndP; rw [List.find?_append]
theorem fndP_none {most : Nat} {L : List (List Int × Nat)} : fndP most L = none ↔ ∀ x ∈ L, most < x.2 := by
  unfold fndP
  rw [List.find?_eq_none]
  simp
theorem stp_high {most : Nat} : ∀ (L : List (List Int × Nat)) (st : Sst), (st.found = true → (most : Int) < st.least) → (∀ x ∈ L, most < x.2) → (L.foldl stp st).found = true → (most : Int) < (L.foldl stp st).least
  | [], st, h, _, hf => h hf
  | x :: L, st, h, hL, hf => by
    rw [List.foldl_cons] at hf ⊢
    refine stp_high L _ ?_ (fun y hy => hL y (by simp [hy])) hf
    unfold stp
    split
    · exact h
    · intro _
      have := hL x (by simp)
      simp only; omega
/-- The first way with the fewest sheets is the reference's. -/
theorem few_same {L : List (List Int × Nat)} {most : Nat} {x : List Int × Nat} (h : fndP most L = some x) (hb : ∀ m, m < most → fndP m L = none) : x.2 = most ∧ L.foldl stp ⟨[], 0, false⟩ = ⟨x.1, (most : Int), true⟩ := by
  unfold fndP at h
  obtain ⟨hx, pre, post, rfl, hpre⟩ := List.find?_eq_some_iff_append.1 h
  have hx := of_decide_eq_true hx
  have hlow : ∀ y ∈ pre ++ x :: post, most ≤ y.2 := by
    intro y hy
    by_cases e : most ≤ y.2
    · exact e
    · have := fndP_none.1 (hb y.2 (by omega)) y hy
      omega
  have e : x.2 = most := by have := hlow x (by simp); omega
  refine ⟨e, ?_⟩
  have hp2 : ∀ y ∈ pre, most < y.2 := by
    intro y hy
    have := hpre y hy
    simp at this
    exact this
  rw [List.foldl_append, List.foldl_cons]
  have h1 := stp_high (most := most) pre ⟨[], 0, false⟩ (fun h => by cases h) hp2
  generalize pre.foldl stp ⟨[], 0, false⟩ = st at *
  rw [show stp st x = ⟨x.1, (most : Int), true⟩ by
    unfold stp
    rw [if_neg (fun hh => by have := h1 hh.1; omega), e]]
  exact stp_keep rfl fun y hy => by
    have := hlow y (by simp [hy])
    simp only; omega
/-- There is a way with as many sheets as pieces at most. -/
theorem few_end (w : Int) (ps : List Int) : ∃ x, fndP ps.length (lvs w ps [] []) = some x := by
  cases h : fndP ps.length (lvs w ps [] []) with
  | some x => exact ⟨x, rfl⟩
  | none =>
    obtain ⟨x, hx⟩ := List.exists_mem_of_ne_nil _ (lvs_some w ps [] [])
    have h1 := fndP_none.1 h x hx
    have h2 := (lvs_ge w ps [] [] x hx).2
    rw [List.length_nil] at h2
    omega
/-- What FewestSheets answers. -/
def fewR (f : Fc) (s : Sh) (l : List UInt8) : List Int × Int × Int :=
  if (cutR f s l 9).2 = 0 then (((lvs s.wide (cutR f s l 9).1 [] []).foldl stp ⟨[], 0, false⟩).best, ((lvs s.wide (cutR f s l 9).1 [] []).foldl stp ⟨[], 0, false⟩).least, 0)
  else ([], 0, (cutR f s l 9).2)
end Go.Proofs.YtonnplaacebekaaDoor
