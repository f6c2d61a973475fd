/- The letters of a text by ReplaceAll, plain. No walk here. -/
import Derived.Test.YtdhngjjfoddnkaaGreatDoorShP
import Derived.Lib.Replace
import Derived.Lib.SplitLaws

namespace Go.Proofs.YtdhngjjfoddnkaaGreatDoor
open Go Go.RowKit
set_option linter.unusedVariables false
set_option linter.unusedSimpArgs false

theorem replaceK_blank : ∀ (l : List UInt8) (k : Nat), l.count 32 ≤ k → Lib.replaceK [32] [] k l = lets l
  | [], 0, _ => rfl
  | [], k + 1, _ => by rw [Lib.replaceK, Lib.index_one]; rfl
  | b :: l, k, h => by
    by_cases hb : b = 32
    · subst hb
      rw [List.count_cons_self] at h
      obtain ⟨k', rfl⟩ : ∃ k', k = k' + 1 := ⟨k - 1, by omega⟩
      rw [Lib.replaceK_hit _ _ _ _ 0 (by rw [Lib.index_one]; simp [Lib.indexByte])]
      have := replaceK_blank l k' (by omega)
      simpa [lets] using this
    · rw [List.count_cons_of_ne hb] at h
      have ih := replaceK_blank l k h
      have e : lets (b :: l) = b :: lets l := by unfold lets; rw [List.filter_cons_of_pos (by simpa using hb)]
      rw [e, ← ih]
      cases k with
      | zero => rfl
      | succ k =>
        rw [Lib.replaceK, Lib.replaceK, Lib.index_one, Lib.index_one]
        have hge := Lib.indexByte_ge l 32
        have hx : Lib.indexByte (b :: l) 32 = if Lib.indexByte l 32 = -1 then -1 else Lib.indexByte l 32 + 1 := by
          simp [Lib.indexByte, hb]
        by_cases h1 : Lib.indexByte l 32 = -1
        · rw [hx, if_pos h1, h1]; rfl
        · have h2 : ¬ (Lib.indexByte l 32 == -1) = true := by simpa using h1
          have h3 : ¬ (Lib.indexByte l 32 + 1 == -1) = true := by simp; omega
          rw [hx, if_neg h1, if_neg h2, if_neg h3]
          obtain ⟨i, hi⟩ : ∃ i : Nat, Lib.indexByte l 32 = i := ⟨(Lib.indexByte l 32).toNat, by omega⟩
          rw [hi]
          have e1 : ((i : Int) + 1).toNat = i + 1 := by omega
          rw [e1]
          simp [Nat.add_right_comm]
theorem replace_lets (l : List UInt8) : Lib.replace l [32] [] (-1) = lets l := by
  unfold Lib.replace Lib.replaceNum
  rw [if_neg (by decide), if_pos (Or.inl (by decide))]
  exact replaceK_blank l _ (by rw [Lib.count_one]; exact Nat.le_refl _)
end Go.Proofs.YtdhngjjfoddnkaaGreatDoor
