/- The most words that a budget buys, plain: sets by their bits, the best of them. No walk here. -/
import Derived.Test.YtonnplaacebekaaGreatDoorPcW
import Derived.Test.YtonnplaacebekaaGreatDoorKpM
import Derived.Test.YtonnplaacebekaaGreatDoorTabB

namespace Go.Proofs.YtonnplaacebekaaGreatDoor
open Go Go.RowKit
set_option linter.unusedVariables false
set_option linter.unusedSimpArgs false

/-- Whether i is in set s. -/
def bitS (s i : Nat) : Bool := (s >>> i) % 2 == 1
def ownS (s n : Nat) : List Int := idxN (bitS s) n
/-- What the words of a set cost, of the first k words. -/
def cstN (f : Fc) (p : Pc) (ws : List (List UInt8)) (s : Nat) : Nat → Int
  | 0 => p.base
  | k + 1 => if bitS s k = true then cstN f p ws s k + (prcW f p (rdW ws k) - p.base) else cstN f p ws s k
/-- What the first k words of a list of indices cost. -/
def cstO (f : Fc) (p : Pc) (ws : List (List UInt8)) (o : List Int) : Nat → Int
  | 0 => p.base
  | k + 1 => cstO f p ws o k + (prcW f p (rdW ws (rdI o k).toNat) - p.base)
theorem cstN_yes {f : Fc} {p : Pc} {ws : List (List UInt8)} {s k : Nat} (h : bitS s k = true) : cstN f p ws s (k + 1) = cstN f p ws s k + (prcW f p (rdW ws k) - p.base) := by rw [cstN, if_pos h]
theorem cstN_no {f : Fc} {p : Pc} {ws : List (List UInt8)} {s k : Nat} (h : bitS s k = false) : cstN f p ws s (k + 1) = cstN f p ws s k := by rw [cstN, if_neg (by rw [h]; simp)]
theorem cstO_left {f : Fc} {p : Pc} {ws : List (List UInt8)} {o r : List Int} : ∀ k, k ≤ o.length → cstO f p ws (o ++ r) k = cstO f p ws o k
  | 0, _ => rfl
  | k + 1, h => by rw [cstO, cstO, cstO_left k (by omega), rdI_left (by omega)]
theorem cstO_own (f : Fc) (p : Pc) (ws : List (List UInt8)) (s : Nat) : ∀ n, cstO f p ws (ownS s n) (ownS s n).length = cstN f p ws s n
  | 0 => rfl
  | n + 1 => by
    have ih := cstO_own f p ws s n
    unfold ownS at ih ⊢
    cases h : bitS s n
    · rw [idxN_no h, cstN_no h, ih]
    · rw [idxN_yes h, cstN_yes h, List.length_append, List.length_singleton, cstO, cstO_left _ (Nat.le_refl _), rdI_snoc, ih]
      simp
theorem ownS_range (s : Nat) : ∀ n i, i < (ownS s n).length → 0 ≤ rdI (ownS s n) i ∧ rdI (ownS s n) i < n
  | 0, i, h => absurd h (Nat.not_lt_zero _)
  | n + 1, i, h => by
    have ih := ownS_range s n
    unfold ownS at ih h ⊢
    cases hb : bitS s n
    · rw [idxN_no hb] at h ⊢
      have := ih i h; omega
    · rw [idxN_yes hb] at h ⊢
      simp only [List.length_append, List.length_singleton] at h
      by_cases hi : i < (idxN (bitS s) n).length
      · rw [rdI_left hi]; have := ih i hi; omega
      · obtain rfl : i = (idxN (bitS s) n).length := by omega
        rw [rdI_snoc]; omega
theorem base_le {f : Fc} {p : Pc} (hf : FcV f) (hp : PcV p) {l : List UInt8} (hl : LL l) : ∀ k, k ≤ l.length → p.base ≤ prcN f p l k
  | 0, _ => Int.le_refl _
  | k + 1, h => by
    have h1 := base_le hf hp hl k (by omega)
    have h2 := letP_range hf hp (hl k (by omega))
    rw [prcN]; omega
theorem word_cost {f : Fc} {p : Pc} (hf : FcV f) (hp : PcV p) {ws : List (List UInt8)} (hw : Ws ws) {k : Nat} (hk : k < ws.length) : 0 ≤ prcW f p (rdW ws k) - p.base ∧ prcW f p (rdW ws k) ≤ 2461000 ∧ 0 ≤ prcW f p (rdW ws k) := by
  have h1 := hw.isw _ (rdW_mem hk)
  have hls : LS (rdW ws k) := fun i hi => .inr (h1.1 i hi)
  have h2 := prcW_range hf hp hls (hw.len _ (rdW_mem hk))
  have h3 := base_le hf hp (lets_ll hls) _ (Nat.le_refl _)
  unfold prcW at h2 ⊢
  omega
theorem cstN_range {f : Fc} {p : Pc} (hf : FcV f) (hp : PcV p) {ws : List (List UInt8)} (hw : Ws ws) (s : Nat) : ∀ k, k ≤ ws.length → 0 ≤ cstN f p ws s k ∧ cstN f p ws s k ≤ 1000 + 2461000 * (k : Int)
  | 0, _ => by
    have := hp.base
    rw [cstN]; omega
  | k + 1, h => by
    have h1 := cstN_range hf hp hw s k (by omega)
    have h2 := word_cost hf hp hw (show k < ws.length by omega)
    have h3 := hp.base
    rw [cstN]
    split <;> omega
theorem cstO_range {f : Fc} {p : Pc} (hf : FcV f) (hp : PcV p) {ws : List (List UInt8)} (hw : Ws ws) {o : List Int} (ho : ∀ i, i < o.length → 0 ≤ rdI o i ∧ rdI o i < ws.length) : ∀ k, k ≤ o.length → 0 ≤ cstO f p ws o k ∧ cstO f p ws o k ≤ 1000 + 2461000 * (k : Int)
  | 0, _ => by
    have := hp.base
    rw [cstO]; omega
  | k + 1, h => by
    have h1 := cstO_range hf hp hw ho k (by omega)
    have h4 := ho k (by omega)
    have h2 := word_cost hf hp hw (show (rdI o k).toNat < ws.length by omega)
    have h3 := hp.base
    rw [cstO]
    omega

/-! ### The best set -/
structure Mw where
  best : List Int
  cost : Int
/-- Whether a set is better than the best one before it. -/
def mwB (m : Int) (st : Mw) (o : List Int) (c : Int) : Bool := decide (c ≤ m) && (decide (st.best.length < o.length) || (o.length == st.best.length && (decide (c < st.cost) || (c == st.cost && before o st.best))))
def stpM (m : Int) (st : Mw) (o : List Int) (c : Int) : Mw := if mwB m st o c = true then ⟨o, c⟩ else st
theorem stpM_yes {m : Int} {st : Mw} {o : List Int} {c : Int} (h : mwB m st o c = true) : stpM m st o c = ⟨o, c⟩ := if_pos h
theorem stpM_no {m : Int} {st : Mw} {o : List Int} {c : Int} (h : mwB m st o c = false) : stpM m st o c = st := if_neg (by rw [h]; simp)
def mst (f : Fc) (p : Pc) (ws : List (List UInt8)) (m : Int) : Nat → Mw
  | 0 => ⟨[], p.base⟩
  | t + 1 => stpM m (mst f p ws m t) (ownS (t + 1) ws.length) (cstN f p ws (t + 1) ws.length)
theorem mst_range {f : Fc} {p : Pc} (hf : FcV f) (hp : PcV p) {ws : List (List UInt8)} (hw : Ws ws) (h10 : ws.length ≤ 10) (m : Int) : ∀ t, (mst f p ws m t).best.length ≤ ws.length ∧ 0 ≤ (mst f p ws m t).cost ∧ (mst f p ws m t).cost ≤ 24611000
  | 0 => by
    have := hp.base
    exact ⟨Nat.zero_le _, by show 0 ≤ p.base; omega, by show p.base ≤ _; omega⟩
  | t + 1 => by
    have ih := mst_range hf hp hw h10 m t
    rw [mst]
    unfold stpM
    split
    · have h1 := idxN_length (bitS (t + 1)) ws.length
      have h2 := cstN_range hf hp hw (t + 1) _ (Nat.le_refl _)
      exact ⟨h1, h2.1, by show cstN f p ws (t + 1) ws.length ≤ _; omega⟩
    · exact ih
def mwC (f : Fc) (p : Pc) (l : List UInt8) (m : Int) : Int :=
  if pcC f p l (inB 0 1000000 m) = 0 then (if 10 < (words l).length then 3 else if m < p.base then 6 else 0) else pcC f p l (inB 0 1000000 m)
def mwR (f : Fc) (p : Pc) (l : List UInt8) (m : Int) : List Int × Int × Int :=
  if mwC f p l m = 0 then ((mst f p (words l) m (2 ^ (words l).length - 1)).best, (mst f p (words l) m (2 ^ (words l).length - 1)).cost, 0) else ([], 0, mwC f p l m)
theorem mwC_zero {f : Fc} {p : Pc} {l : List UInt8} {m : Int} (h : mwC f p l m = 0) : pcC f p l (inB 0 1000000 m) = 0 ∧ (words l).length ≤ 10 ∧ p.base ≤ m := by
  unfold mwC at h
  split at h
  · rename_i h0
    split at h
    · exact absurd h (by decide)
    · split at h
      · exact absurd h (by decide)
      · exact ⟨h0, by omega, by omega⟩
  · rename_i h0; exact absurd h h0
theorem mwR_len (f : Fc) (p : Pc) (l : List UInt8) (m : Int) : (mwR f p l m).1.length ≤ 1048576 := by
  unfold mwR
  split
  · rename_i h0
    obtain ⟨h1, h2, _⟩ := mwC_zero h0
    obtain ⟨hv, hp, ht, _⟩ := pcC_zero h1
    have := (mst_range (validF_iff.1 hv) (pcOk_iff.1 hp) (ws_words ht) h2 m (2 ^ (words l).length - 1)).1
    simp only; omega
  · exact Nat.zero_le _
/-- The reference's test is the program's. -/
theorem mwB_ref {m : Int} {st : Mw} {o : List Int} {c : Int} : mwB m st o c = if m < c ∨ o.length < st.best.length then false else (decide (st.best.length < o.length) || decide (c < st.cost) || (c == st.cost && before o st.best)) := by
  unfold mwB
  by_cases h1 : m < c
  · rw [if_pos (.inl h1), decide_eq_false (by omega)]; rfl
  · rw [decide_eq_true (by omega), Bool.true_and]
    by_cases h2 : o.length < st.best.length
    · rw [if_pos (.inr h2), decide_eq_false (by omega)]
      have : (o.length == st.best.length) = false := by simp; omega
      rw [this]; rfl
    · rw [if_neg (by omega)]
      by_cases h3 : st.best.length < o.length
      · rw [decide_eq_true h3]; simp
      · have : (o.length == st.best.length) = true := by simp; omega
        rw [this, decide_eq_false h3]; simp
end Go.Proofs.YtonnplaacebekaaGreatDoor
