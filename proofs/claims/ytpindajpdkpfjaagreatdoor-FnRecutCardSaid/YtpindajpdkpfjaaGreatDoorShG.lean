/- What is left of sheets, plain. No walk here. -/
import Derived.Test.YtpindajpdkpfjaaGreatDoorShA

namespace Go.Proofs.YtpindajpdkpfjaaGreatDoor
open Go Go.RowKit
set_option linter.unusedVariables false
set_option linter.unusedSimpArgs false

/-- As many sheets as m at least. -/
def growI (o : List Int) (w : Int) (m : Nat) : List Int := o ++ List.replicate (m - o.length) w
theorem growI_length (o : List Int) (w : Int) (m : Nat) : (growI o w m).length = max o.length m := by unfold growI; simp; omega
theorem growI_done {o : List Int} {w : Int} {m : Nat} (h : m ≤ o.length) : growI o w m = o := by unfold growI; rw [show m - o.length = 0 by omega]; simp
theorem growI_snoc {o : List Int} {w : Int} {m : Nat} (h : o.length < m) : growI (o ++ [w]) w m = growI o w m := by
  unfold growI
  rw [List.append_assoc, List.length_append, List.length_singleton]
  congr 1
  rw [show m - o.length = (m - (o.length + 1)) + 1 by omega, List.replicate_succ]; rfl
theorem growI_grow (o : List Int) (w : Int) {m n : Nat} (h : m ≤ n) : growI (growI o w m) w n = growI o w n := by
  unfold growI
  rw [List.append_assoc, List.length_append, List.length_replicate]
  congr 1
  rw [List.replicate_append_replicate]
  congr 1
  omega
theorem growI_set (o : List Int) (w : Int) (n : Nat) {i : Nat} (x : Int) (h : i < o.length) : growI (o.set i x) w n = (growI o w n).set i x := by
  unfold growI
  rw [List.length_set, List.set_append_left _ _ h]
theorem rdI_grow {o : List Int} {w : Int} {n i : Nat} (h : i < o.length) : rdI (growI o w n) i = rdI o i := by unfold growI; exact rdI_left h
theorem rdI_grow_new {o : List Int} {w : Int} {n i : Nat} (h : o.length ≤ i) (hn : i < n) : rdI (growI o w n) i = w := by
  unfold growI rdI
  rw [List.getD, List.getElem?_append_right h, List.getElem?_replicate, if_pos (by omega)]; rfl
/-- What is left behind the first k pieces, by the reference. -/
def rstS (w : Int) (ps xs : List Int) : Nat → List Int
  | 0 => []
  | k + 1 => (growI (rstS w ps xs k) w ((rdI xs k).toNat + 1)).set (rdI xs k).toNat (rdI (growI (rstS w ps xs k) w ((rdI xs k).toNat + 1)) (rdI xs k).toNat - rdI ps k)
theorem rstS_succ (w : Int) (ps xs : List Int) (k : Nat) : rstS w ps xs (k + 1) = (growI (rstS w ps xs k) w ((rdI xs k).toNat + 1)).set (rdI xs k).toNat (rdI (growI (rstS w ps xs k) w ((rdI xs k).toNat + 1)) (rdI xs k).toNat - rdI ps k) := rfl
/-- Whether piece k goes. -/
def rstG (w : Int) (ps xs : List Int) (k : Nat) : Prop := inB 0 59 (rdI xs k) = true ∧ 0 ≤ rdI (rstS w ps xs (k + 1)) (rdI xs k).toNat
instance (w : Int) (ps xs : List Int) (k : Nat) : Decidable (rstG w ps xs k) := by unfold rstG; exact inferInstance
def rstOk (w : Int) (ps xs : List Int) : Prop := xs.length = ps.length ∧ ∀ k, k < xs.length → rstG w ps xs k
instance (w : Int) (ps xs : List Int) : Decidable (rstOk w ps xs) := by unfold rstOk; exact inferInstance
/-- The same from m sheets on, by the program. -/
def rstI (w : Int) (ps xs : List Int) (m : Nat) : Nat → List Int
  | 0 => List.replicate m w
  | k + 1 => (rstI w ps xs m k).set (rdI xs k).toNat (rdI (rstI w ps xs m k) (rdI xs k).toNat - rdI ps k)
theorem rstI_succ (w : Int) (ps xs : List Int) (m k : Nat) : rstI w ps xs m (k + 1) = (rstI w ps xs m k).set (rdI xs k).toNat (rdI (rstI w ps xs m k) (rdI xs k).toNat - rdI ps k) := rfl
theorem rstI_length (w : Int) (ps xs : List Int) (m : Nat) : ∀ k, (rstI w ps xs m k).length = m
  | 0 => by simp [rstI]
  | k + 1 => by rw [rstI_succ, List.length_set]; exact rstI_length w ps xs m k
theorem rstS_length (w : Int) (ps xs : List Int) (k : Nat) : (rstS w ps xs (k + 1)).length = max (rstS w ps xs k).length ((rdI xs k).toNat + 1) := by rw [rstS_succ, List.length_set, growI_length]
theorem rstS_le (w : Int) (ps xs : List Int) {m : Nat} (h : ∀ k, k < xs.length → (rdI xs k).toNat < m) : ∀ k, k ≤ xs.length → (rstS w ps xs k).length ≤ m
  | 0, _ => Nat.zero_le _
  | k + 1, hk => by
    have := rstS_le w ps xs h k (by omega)
    have := h k (by omega)
    rw [rstS_length]; omega
theorem rst_same (w : Int) (ps xs : List Int) {m : Nat} (h : ∀ k, k < xs.length → (rdI xs k).toNat < m) : ∀ k, k ≤ xs.length → rstI w ps xs m k = growI (rstS w ps xs k) w m
  | 0, _ => by unfold growI rstS rstI; simp
  | k + 1, hk => by
    have ih := rst_same w ps xs h k (by omega)
    have hx := h k (by omega)
    have hl := rstS_le w ps xs h k (by omega)
    have hg : growI (rstS w ps xs k) w m = growI (growI (rstS w ps xs k) w ((rdI xs k).toNat + 1)) w m := (growI_grow _ _ (by omega)).symm
    have hi : (rdI xs k).toNat < (growI (rstS w ps xs k) w ((rdI xs k).toNat + 1)).length := by rw [growI_length]; omega
    rw [rstI_succ, ih, rstS_succ, growI_set _ _ _ _ hi, hg, rdI_grow hi]
theorem rstI_down (w : Int) (ps xs : List Int) (m : Nat) (hp : ∀ k, k < ps.length → 0 ≤ rdI ps k) : ∀ (k i j : Nat), i ≤ k → k ≤ ps.length → rdI (rstI w ps xs m k) j ≤ rdI (rstI w ps xs m i) j
  | 0, i, j, hi, hk => by obtain rfl : i = 0 := by omega
                          exact Int.le_refl _
  | k + 1, i, j, hi, hk => by
    by_cases e : i = k + 1
    · subst e; exact Int.le_refl _
    · have ih := rstI_down w ps xs m hp k i j (by omega) (by omega)
      have := hp k (by omega)
      refine Int.le_trans ?_ ih
      rw [rstI_succ]
      by_cases e2 : (rdI xs k).toNat = j
      · by_cases hj : j < (rstI w ps xs m k).length
        · rw [e2, rdI_set _ hj]; omega
        · rw [List.set_eq_of_length_le (by omega)]; exact Int.le_refl _
      · rw [rdI_set_ne _ e2]; exact Int.le_refl _
/-- The program's check at the end is the reference's at each piece. -/
theorem rst_ok {w : Int} (hw : 0 ≤ w) {ps xs : List Int} (hp : ∀ k, k < ps.length → 0 ≤ rdI ps k) (hl : xs.length = ps.length) (hr : ∀ k, k < xs.length → inB 0 59 (rdI xs k) = true) {m : Nat} (h : ∀ k, k < xs.length → (rdI xs k).toNat < m) :
    rstOk w ps xs ↔ ∀ j, j < m → 0 ≤ rdI (rstI w ps xs m xs.length) j := by
  constructor
  · intro ⟨_, hk⟩ j hj
    have key : ∀ k, k ≤ xs.length → 0 ≤ rdI (rstI w ps xs m k) j := by
      intro k
      induction k with
      | zero => intro _; unfold rstI rdI; rw [List.getD, List.getElem?_replicate, if_pos hj]; exact hw
      | succ k ih =>
        intro hk'
        have hx := h k (by omega)
        by_cases e : (rdI xs k).toNat = j
        · have hg := (hk k (by omega)).2
          rw [rst_same w ps xs h _ hk']
          rw [e] at hg
          rw [rdI_grow (by rw [rstS_length]; omega)]
          exact hg
        · rw [rstI_succ, rdI_set_ne _ e]; exact ih (by omega)
    exact key _ (Nat.le_refl _)
  · intro hj
    refine ⟨hl, fun k hk => ⟨hr k hk, ?_⟩⟩
    have hx := h k hk
    have h1 := hj _ hx
    have h2 := rstI_down w ps xs m hp xs.length (k + 1) (rdI xs k).toNat (by omega) (by omega)
    rw [rst_same w ps xs h (k + 1) (by omega), rdI_grow (by rw [rstS_length]; omega)] at h2
    omega
/-- The greatest number decides how many sheets there are. -/
theorem rstS_all {w : Int} {ps xs : List Int} : ∀ k, k ≤ xs.length → ∀ i, i < k → (rdI xs i).toNat < (rstS w ps xs k).length
  | 0, _, i, hi => absurd hi (Nat.not_lt_zero _)
  | k + 1, hk, i, hi => by
    rw [rstS_length]
    by_cases e : i = k
    · subst e; omega
    · have := rstS_all (w := w) (ps := ps) (xs := xs) k (by omega) i (by omega); omega
theorem rst_end {w : Int} {ps xs : List Int} {m : Nat} (h : ∀ k, k < xs.length → (rdI xs k).toNat < m) (hm : m = 0 ∨ ∃ k, k < xs.length ∧ (rdI xs k).toNat + 1 = m) : rstI w ps xs m xs.length = rstS w ps xs xs.length := by
  rw [rst_same w ps xs h _ (Nat.le_refl _), growI_done]
  rcases hm with rfl | ⟨k, hk, rfl⟩
  · exact Nat.zero_le _
  · exact rstS_all _ (Nat.le_refl _) k hk
end Go.Proofs.YtpindajpdkpfjaaGreatDoor
