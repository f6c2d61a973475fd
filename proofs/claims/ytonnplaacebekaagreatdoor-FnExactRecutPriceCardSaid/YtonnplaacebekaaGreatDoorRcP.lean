/- Shifts and what cutting again costs, plain. No walk here. -/
import Derived.Test.YtonnplaacebekaaGreatDoorPcW
import Derived.Test.YtonnplaacebekaaGreatDoorKpJ
namespace Go.Proofs.YtonnplaacebekaaGreatDoor
open Go Go.RowKit
set_option linter.unusedVariables false
set_option linter.unusedSimpArgs false

def bit1 (b : Bool) : Int := if b = true then 1 else 0
/-- How many of the first n are so. -/
def sumB (P : Nat → Bool) : Nat → Int
  | 0 => 0
  | n + 1 => sumB P n + bit1 (P n)
/-- How many pairs are so. -/
def sum2 (P : Nat → Nat → Bool) (m : Nat) : Nat → Int
  | 0 => 0
  | n + 1 => sum2 P m n + sumB (P n) m
theorem sum2_col (P : Nat → Nat → Bool) (m : Nat) : ∀ n, sum2 P (m + 1) n = sum2 P m n + sumB (fun i => P i m) n
  | 0 => rfl
  | n + 1 => by
    rw [sum2, sum2, sum2_col P m n, sumB, sumB]
    omega
theorem sum2_swap (P : Nat → Nat → Bool) (n : Nat) : ∀ m, sum2 P m n = sum2 (fun k i => P i k) n m
  | 0 => by
    have : ∀ n, sum2 P 0 n = 0 := by
      intro n
      induction n with
      | zero => rfl
      | succ n ih => rw [sum2, ih]; rfl
    rw [this]; rfl
  | m + 1 => by rw [sum2_col, sum2_swap P n m, sum2]
theorem sumB_range (P : Nat → Bool) : ∀ n, 0 ≤ sumB P n ∧ sumB P n ≤ n
  | 0 => ⟨Int.le_refl _, Int.le_refl _⟩
  | n + 1 => by
    have := sumB_range P n
    rw [sumB]
    unfold bit1
    split <;> omega
theorem sum2_range (P : Nat → Nat → Bool) (m : Nat) : ∀ n, 0 ≤ sum2 P m n ∧ sum2 P m n ≤ m * n
  | 0 => ⟨Int.le_refl _, by simp [sum2]⟩
  | n + 1 => by
    have h1 := sum2_range P m n
    have h2 := sumB_range (P n) m
    rw [sum2]
    have e : ((m : Int) * ((n + 1 : Nat) : Int)) = m * n + m := by push_cast; rw [Int.mul_add, Int.mul_one]
    omega
/-- Whether letter i of the old line and letter k of the new one are the same, and lie so far apart. -/
def ppB (x y : List UInt8) (a b : List Int) (s : Int) (i k : Nat) : Bool := byt x i == byt y k && rdI a i - rdI b k == s
theorem ppB_kb (x y : List UInt8) (a b : List Int) (s : Int) (k : Nat) : ∀ n, (∀ i j, i < j → j < n → rdI a i < rdI a j) → sumB (fun i => ppB x y a b s i k) n = bit1 (kbN x y a b s k n)
  | 0, _ => rfl
  | n + 1, h => by
    have ih := ppB_kb x y a b s k n (fun i j h1 h2 => h i j h1 (by omega))
    rw [sumB, ih, kbN]
    have e : ppB x y a b s n k = (byt x n == byt y k && rdI a n == rdI b k + s) := by
      unfold ppB
      congr 1
      rw [Bool.eq_iff_iff]
      simp only [beq_iff_eq]
      omega
    rw [e]
    cases h1 : (byt x n == byt y k && rdI a n == rdI b k + s)
    · simp [bit1]
    · have h2 : rdI a n = rdI b k + s := by
        rw [Bool.and_eq_true] at h1
        simpa using h1.2
      rw [kbN_none n (fun j hj => by have := h j n hj (by omega); omega)]
      simp [bit1]
theorem kpt_sum (x y : List UInt8) (a b : List Int) (s : Int) : ∀ m, ((kptN x y a b s m).length : Int) = sumB (fun k => kbN x y a b s k x.length) m
  | 0 => rfl
  | m + 1 => by
    rw [sumB, ← kpt_sum x y a b s m]
    cases h : kbN x y a b s m x.length
    · rw [kptN_no h]; simp [bit1]
    · rw [kptN_yes h]; simp [bit1]
/-- So many pairs, so many letters that are kept. -/
theorem pairs_kept {x y : List UInt8} {a b : List Int} (s : Int) (ha : ∀ i j, i < j → j < x.length → rdI a i < rdI a j) : sum2 (ppB x y a b s) y.length x.length = ((kptN x y a b s y.length).length : Int) := by
  rw [sum2_swap, kpt_sum]
  generalize y.length = m
  induction m with
  | zero => rfl
  | succ m ih => rw [sum2, sumB, ih, ppB_kb x y a b s m x.length ha]

/-- The shift with the most, of all up to t, by how many there are with each. -/
def bshA (st : Int × Int) (s n : Int) : Int × Int := if st.2 < n then (s, n) else st
def bsh (c : Int → Int) : Nat → Int × Int
  | 0 => (0, c 0)
  | t + 1 => bshA (bshA (bsh c t) ((t + 1 : Nat) : Int) (c ((t + 1 : Nat) : Int))) (-((t + 1 : Nat) : Int)) (c (-((t + 1 : Nat) : Int)))
theorem bshA_yes {st : Int × Int} {s n : Int} (h : st.2 < n) : bshA st s n = (s, n) := if_pos h
theorem bshA_no {st : Int × Int} {s n : Int} (h : ¬ st.2 < n) : bshA st s n = st := if_neg h
theorem bsh_at (c : Int → Int) : ∀ t, (bsh c t).2 = c (bsh c t).1 ∧ -(t : Int) ≤ (bsh c t).1 ∧ (bsh c t).1 ≤ t
  | 0 => ⟨rfl, by simp [bsh], by simp [bsh]⟩
  | t + 1 => by
    obtain ⟨h1, h2, h3⟩ := bsh_at c t
    have step : ∀ (st : Int × Int) (s : Int), st.2 = c st.1 → (bshA st s (c s)).2 = c (bshA st s (c s)).1 := by
      intro st s h
      unfold bshA
      split
      · rfl
      · exact h
    have rng : ∀ (st : Int × Int) (s n k : Int), -k ≤ st.1 ∧ st.1 ≤ k → -k ≤ s ∧ s ≤ k → -k ≤ (bshA st s n).1 ∧ (bshA st s n).1 ≤ k := by
      intro st s n k h1 h2
      unfold bshA
      split
      · exact h2
      · exact h1
    refine ⟨by rw [bsh]; exact step _ _ (step _ _ h1), ?_⟩
    rw [bsh]
    exact rng _ _ _ _ (rng _ _ _ _ (by push_cast; omega) (by push_cast; omega)) (by push_cast; omega)
def cntK (x y : List UInt8) (a b : List Int) (s : Int) : Int := ((kptN x y a b s y.length).length : Int)
theorem cntK_range (x y : List UInt8) (a b : List Int) (s : Int) : 0 ≤ cntK x y a b s ∧ cntK x y a b s ≤ y.length := by
  have := kptN_length x y a b s y.length
  unfold cntK; omega
/-- What cutting again costs, of the first k letters. -/
def rcS (f : Fc) (p : Pc) (x y : List UInt8) (a b : List Int) (s : Int) : Nat → Int
  | 0 => p.base + p.fill * ((x.length : Int) - cntK x y a b s)
  | k + 1 => if kbN x y a b s k x.length = true then rcS f p x y a b s k else rcS f p x y a b s k + letP f p (byt y k)
theorem rcS_yes {f : Fc} {p : Pc} {x y : List UInt8} {a b : List Int} {s : Int} {k : Nat} (h : kbN x y a b s k x.length = true) : rcS f p x y a b s (k + 1) = rcS f p x y a b s k := by rw [rcS, if_pos h]
theorem rcS_no {f : Fc} {p : Pc} {x y : List UInt8} {a b : List Int} {s : Int} {k : Nat} (h : kbN x y a b s k x.length = false) : rcS f p x y a b s (k + 1) = rcS f p x y a b s k + letP f p (byt y k) := by rw [rcS, if_neg (by rw [h]; simp)]
theorem kpt_mem (x y : List UInt8) (a b : List Int) (s : Int) : ∀ m k, k < m → (((k : Int) ∈ kptN x y a b s m) ↔ kbN x y a b s k x.length = true)
  | 0, k, h => absurd h (Nat.not_lt_zero _)
  | m + 1, k, h => by
    have out : ∀ m, ¬ ((m : Int) ∈ kptN x y a b s m) ∧ ∀ z ∈ kptN x y a b s m, 0 ≤ z ∧ z < m := by
      intro m
      induction m with
      | zero => exact ⟨by simp [kptN], by simp [kptN]⟩
      | succ m ih =>
        have hz : ∀ z ∈ kptN x y a b s (m + 1), 0 ≤ z ∧ z < ((m + 1 : Nat) : Int) := by
          intro z hz
          rw [kptN] at hz
          split at hz
          · rcases List.mem_append.1 hz with h1 | h1
            · have := ih.2 z h1; omega
            · obtain rfl := List.mem_singleton.1 h1; omega
          · have := ih.2 z hz; omega
        exact ⟨fun hh => by have := (hz _ hh).2; omega, hz⟩
    by_cases e : k = m
    · subst e
      cases hb : kbN x y a b s k x.length
      · rw [kptN_no hb]; simpa using (out k).1
      · rw [kptN_yes hb]; simp
    · have ih := kpt_mem x y a b s m k (by omega)
      cases hb : kbN x y a b s m x.length
      · rw [kptN_no hb]; exact ih
      · rw [kptN_yes hb, List.mem_append, List.mem_singleton]
        constructor
        · rintro (h1 | h1)
          · exact ih.1 h1
          · omega
        · exact fun h1 => .inl (ih.2 h1)
theorem rcS_range {f : Fc} {p : Pc} (hf : FcV f) (hp : PcV p) {x y : List UInt8} {a b : List Int} {s : Int} (hx : x.length ≤ 60) (hy : y.length ≤ 60) (hl : LL y) : ∀ k, k ≤ y.length → -60000 ≤ rcS f p x y a b s k ∧ rcS f p x y a b s k ≤ 61000 + 41000 * (k : Int)
  | 0, _ => by
    have h1 := cntK_range x y a b s
    have h2 := hp.base
    have h3 := hp.fill
    have h4 : p.fill * ((x.length : Int) - cntK x y a b s) ≤ 1000 * 60 := by
      rcases Int.le_total 0 ((x.length : Int) - cntK x y a b s) with h | h
      · calc p.fill * ((x.length : Int) - cntK x y a b s) ≤ 1000 * ((x.length : Int) - cntK x y a b s) := Int.mul_le_mul_of_nonneg_right h3.2 h
          _ ≤ 1000 * 60 := by omega
      · have := Int.mul_nonpos_of_nonneg_of_nonpos h3.1 h
        omega
    have h5 : -(1000 * 60) ≤ p.fill * ((x.length : Int) - cntK x y a b s) := by
      rcases Int.le_total 0 ((x.length : Int) - cntK x y a b s) with h | h
      · have := Int.mul_nonneg h3.1 h
        omega
      · have : p.fill * (cntK x y a b s - (x.length : Int)) ≤ 1000 * (cntK x y a b s - (x.length : Int)) := Int.mul_le_mul_of_nonneg_right h3.2 (by omega)
        have e : p.fill * ((x.length : Int) - cntK x y a b s) = -(p.fill * (cntK x y a b s - (x.length : Int))) := by rw [← Int.mul_neg]; congr 1; omega
        omega
    rw [rcS]; omega
  | k + 1, h => by
    have h1 := rcS_range hf hp hx hy hl (s := s) (a := a) (b := b) k (by omega)
    have h2 := letP_range hf hp (hl k (by omega))
    rw [rcS]
    split <;> omega
def rcC (f : Fc) (p : Pc) (o w : List UInt8) : Int := if validF f && pcOk p && vText o && vText w then 0 else 1
/-- What RecutPrice answers. -/
def rcR (f : Fc) (p : Pc) (o w : List UInt8) : Int × Int :=
  if rcC f p o w = 0 then (rcS f p (lets o) (lets w) (plW f o o.length) (plW f w w.length) (bsh (cntK (lets o) (lets w) (plW f o o.length) (plW f w w.length)) 400).1 (lets w).length, 0) else (0, 1)
theorem rcC_zero {f : Fc} {p : Pc} {o w : List UInt8} (h : rcC f p o w = 0) : validF f = true ∧ pcOk p = true ∧ vText o = true ∧ vText w = true := by
  unfold rcC at h
  split at h
  · rename_i hh
    simp only [Bool.and_eq_true] at hh
    exact ⟨hh.1.1.1, hh.1.1.2, hh.1.2, hh.2⟩
  · exact absurd h (by decide)
end Go.Proofs.YtonnplaacebekaaGreatDoor
