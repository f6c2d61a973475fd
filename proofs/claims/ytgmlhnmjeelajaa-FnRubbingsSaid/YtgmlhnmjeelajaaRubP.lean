/- The best move, in plain numbers: the first one, in the order of the program, of all that match best and are nearest. No program in sight. -/
import Derived.Test.YtgmlhnmjeelajaaGA

namespace Go.Proofs.Ytgmlhnmjeelajaa
set_option linter.unusedVariables false
set_option linter.unusedSimpArgs false

section
variable (n far : Nat → Nat)
/-- i is better than j: it matches better; or as well, and is nearer; or it is as near, and comes first. -/
def Ahead (i j : Nat) : Prop := n j < n i ∨ (n i = n j ∧ (far i < far j ∨ (far i = far j ∧ i < j)))
/-- b is the best one of those with P. -/
def BestIn (P : Nat → Prop) (b : Nat) : Prop := P b ∧ ∀ j, P j → j ≠ b → Ahead n far b j
variable {n far}
theorem BestIn.unique {P : Nat → Prop} {b c : Nat} (hb : BestIn n far P b) (hc : BestIn n far P c) : b = c := by
  by_cases h : b = c
  · exact h
  · have h1 := hb.2 c hc.1 (fun e => h e.symm)
    have h2 := hc.2 b hb.1 h
    unfold Ahead at h1 h2
    omega
theorem BestIn.congr {P Q : Nat → Prop} {b : Nat} (hb : BestIn n far P b) (h : ∀ j, P j ↔ Q j) : BestIn n far Q b := ⟨(h b).1 hb.1, fun j hj => hb.2 j ((h j).2 hj)⟩

variable (n far)
/-- The program's choice after k moves (k ≥ 1). -/
def bestI : Nat → Nat
  | 0 => 0
  | k + 1 => if n k > n (bestI k) ∨ (n k = n (bestI k) ∧ far k < far (bestI k)) then k else bestI k
variable {n far}
theorem bestI_best (k : Nat) : BestIn n far (· < k + 1) (bestI n far (k + 1)) := by
  induction k with
  | zero =>
    have : bestI n far 1 = 0 := by simp [bestI]
    rw [this]
    exact ⟨by omega, fun j hj hne => by omega⟩
  | succ k ih =>
    obtain ⟨ih1, ih2⟩ := ih
    rw [bestI]
    split
    · rename_i h
      refine ⟨by omega, fun j hj hne => ?_⟩
      by_cases e : j = bestI n far (k + 1)
      · subst e; unfold Ahead; omega
      · have := ih2 j (by omega) e
        unfold Ahead at this ⊢; omega
    · rename_i h
      refine ⟨by omega, fun j hj hne => ?_⟩
      by_cases e : j = k + 1
      · subst e; unfold Ahead; omega
      · exact ih2 j (by omega) hne

/-- What the reference has seen, at size s, before move i. -/
def Seen (far : Nat → Nat) (m s i j : Nat) : Prop := j < m ∧ (far j < s ∨ (far j = s ∧ j < i))
theorem seen_best {m s i b : Nat} (hi : i < m) (hf : far i = s) (hb : BestIn n far (Seen far m s i) b) :
    (n i > n b → BestIn n far (Seen far m s (i + 1)) i) ∧ (¬ n i > n b → BestIn n far (Seen far m s (i + 1)) b) := by
  obtain ⟨h1, h2⟩ := hb
  unfold Seen at h1 h2
  constructor
  · intro h
    refine ⟨⟨hi, .inr ⟨hf, by omega⟩⟩, fun j hj hne => ?_⟩
    unfold Seen at hj
    by_cases e : j = b
    · subst e; unfold Ahead; omega
    · have := h2 j ⟨hj.1, by omega⟩ e
      unfold Ahead at this ⊢; omega
  · intro h
    refine ⟨⟨h1.1, by omega⟩, fun j hj hne => ?_⟩
    unfold Seen at hj
    by_cases e : j = i
    · subst e; unfold Ahead; omega
    · exact h2 j ⟨hj.1, by omega⟩ hne
theorem seen_first {m s i : Nat} (hi : i < m) (hf : far i = s) (hn : ∀ j, ¬ Seen far m s i j) : BestIn n far (Seen far m s (i + 1)) i := by
  refine ⟨⟨hi, .inr ⟨hf, by omega⟩⟩, fun j hj hne => ?_⟩
  exfalso
  unfold Seen at hj hn
  exact hn j ⟨hj.1, by omega⟩
theorem seen_skip {m s i : Nat} (hf : far i ≠ s) (j : Nat) : Seen far m s i j ↔ Seen far m s (i + 1) j := by
  unfold Seen
  by_cases e : j = i
  · subst e; omega
  · omega
theorem seen_next {m s : Nat} (j : Nat) : Seen far m s m j ↔ Seen far m (s + 1) 0 j := by unfold Seen; omega
theorem seen_all {m s : Nat} (h : ∀ j, j < m → far j < s) (j : Nat) : Seen far m s 0 j ↔ j < m := by
  unfold Seen
  constructor
  · exact fun h => h.1
  · exact fun hj => ⟨hj, .inl (h j hj)⟩
end
end Go.Proofs.Ytgmlhnmjeelajaa
