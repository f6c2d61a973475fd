/- Shorts, plain: which are valid, the short of a word, words replaced, the fewest that make a line fit. -/
import Derived.Test.YtnlnjpdnhdmndaaGreatDoorSoM
import Derived.Test.YtnlnjpdnhdmndaaGreatDoorTabP
namespace Go.Proofs.YtnlnjpdnhdmndaaGreatDoor
open Go Go.RowKit
set_option linter.unusedVariables false
set_option linter.unusedSimpArgs false

theorem rdI_leftS {a b : List Int} {i : Nat} (h : i < a.length) : rdI (a ++ b) i = rdI a i := by
  unfold rdI; rw [List.getD, List.getD, List.getElem?_append_left h]
theorem rdI_rightS {a b : List Int} {i : Nat} : rdI (a ++ b) (a.length + i) = rdI b i := by
  unfold rdI; rw [List.getD, List.getD, List.getElem?_append_right (by omega)]
  congr 2; omega
def idxS (p : Nat → Bool) : Nat → List Int
  | 0 => []
  | k + 1 => if p k = true then idxS p k ++ [(k : Int)] else idxS p k
theorem idxS_yes {p : Nat → Bool} {k : Nat} (h : p k = true) : idxS p (k + 1) = idxS p k ++ [(k : Int)] := by rw [idxS, if_pos h]
theorem idxS_no {p : Nat → Bool} {k : Nat} (h : p k = false) : idxS p (k + 1) = idxS p k := by rw [idxS, if_neg (by rw [h]; simp)]
theorem idxS_length (p : Nat → Bool) : ∀ k, (idxS p k).length ≤ k
  | 0 => Nat.le_refl _
  | k + 1 => by
    have := idxS_length p k
    rw [idxS]
    split
    · rw [List.length_append, List.length_singleton]; omega
    · omega
/-! ### Texts in order -/
theorem less_tot : ∀ (x y : List UInt8), Op.bytesLess x y = !(Op.bytesLess y x || (y == x))
  | [], [] => rfl
  | [], b :: y => rfl
  | a :: x, [] => rfl
  | a :: x, b :: y => by
    have ih := less_tot x y
    have e1 : Op.bytesLess (a :: x) (b :: y) = (decide (a < b) || (a == b && Op.bytesLess x y)) := rfl
    have e2 : Op.bytesLess (b :: y) (a :: x) = (decide (b < a) || (b == a && Op.bytesLess y x)) := rfl
    rw [e1, e2, ih]
    rcases Nat.lt_trichotomy a.toNat b.toNat with h | h | h
    · have h1 : a < b := UInt8.lt_iff_toNat_lt.2 h
      have h2 : ¬ b < a := fun e => by have := UInt8.lt_iff_toNat_lt.1 e; omega
      have h3 : ¬ b = a := fun e => by rw [e] at h; omega
      simp [h1, h2, h3]
    · have h1 : a = b := UInt8.toNat_inj.1 h
      subst h1
      have h2 : ¬ a < a := fun e => by have := UInt8.lt_iff_toNat_lt.1 e; omega
      simp [h2]
    · have h1 : b < a := UInt8.lt_iff_toNat_lt.2 h
      have h2 : ¬ a < b := fun e => by have := UInt8.lt_iff_toNat_lt.1 e; omega
      have h3 : ¬ a = b := fun e => by rw [e] at h; omega
      simp [h1, h2, h3]

/-! ### Which shorts are valid -/
def srAt (ps : List Sr) (i : Nat) : Bool := isW (rdSr ps i).lo && isW (rdSr ps i).sh && decide ((rdSr ps i).lo.length ≤ 20) && decide ((rdSr ps i).sh.length < (rdSr ps i).lo.length) && (decide (i = 0) || Op.bytesLess (rdSr ps (i - 1)).lo (rdSr ps i).lo)
def SrN (ps : List Sr) (k : Nat) : Prop := ∀ i, i < k → srAt ps i = true
instance (ps : List Sr) (k : Nat) : Decidable (SrN ps k) := by unfold SrN; infer_instance
def srOk (ps : List Sr) : Bool := decide (SrN ps ps.length) && decide (ps.length ≤ 6)
theorem srN_zero (ps : List Sr) : SrN ps 0 := fun i hi => by omega
theorem srN_succ {ps : List Sr} {k : Nat} (h : SrN ps k) (hk : srAt ps k = true) : SrN ps (k + 1) := fun j hj => by
  rcases Nat.lt_succ_iff_lt_or_eq.1 hj with h1 | rfl
  · exact h j h1
  · exact hk
theorem srOk_bad {ps : List Sr} {k : Nat} (hk : k < ps.length) (h : srAt ps k = false) : srOk ps = false := by
  unfold srOk
  rw [decide_eq_false (fun hh : SrN ps ps.length => by rw [hh k hk] at h; cases h)]; rfl
theorem srOk_len {ps : List Sr} (h : SrN ps ps.length) : srOk ps = decide (ps.length ≤ 6) := by unfold srOk; rw [decide_eq_true h, Bool.true_and]
structure SrV (ps : List Sr) : Prop where
  at' : ∀ i, i < ps.length → IsW (rdSr ps i).lo ∧ IsW (rdSr ps i).sh ∧ (rdSr ps i).lo.length ≤ 20 ∧ (rdSr ps i).sh.length < (rdSr ps i).lo.length
  few : ps.length ≤ 6
theorem srOk_V {ps : List Sr} (h : srOk ps = true) : SrV ps := by
  unfold srOk at h
  rw [Bool.and_eq_true, decide_eq_true_iff, decide_eq_true_iff] at h
  refine ⟨fun i hi => ?_, h.2⟩
  have := h.1 i hi
  unfold srAt at this
  simp only [Bool.and_eq_true, decide_eq_true_iff, isW_iff] at this
  exact ⟨this.1.1.1.1, this.1.1.1.2, this.1.1.2, this.1.2⟩

/-! ### The short of a word -/
def ofS : List Sr → List UInt8 → Option (List UInt8)
  | [], _ => none
  | p :: ps, w => if p.lo = w then some p.sh else ofS ps w
theorem ofS_none {ps : List Sr} {w : List UInt8} (h : ∀ i, i < ps.length → (rdSr ps i).lo ≠ w) : ofS ps w = none := by
  induction ps with
  | nil => rfl
  | cons p ps ih =>
    rw [ofS, if_neg (show ¬ p.lo = w from h 0 (by simp))]
    exact ih fun i hi => h (i + 1) (by simp; omega)
theorem ofS_some {ps : List Sr} {w : List UInt8} {k : Nat} (hk : k < ps.length) (h : ∀ i, i < k → (rdSr ps i).lo ≠ w) (he : (rdSr ps k).lo = w) : ofS ps w = some (rdSr ps k).sh := by
  induction ps generalizing k with
  | nil => simp at hk
  | cons p ps ih =>
    rw [ofS]
    cases k with
    | zero => rw [if_pos (show p.lo = w from he)]; rfl
    | succ k =>
      rw [if_neg (show ¬ p.lo = w from h 0 (by omega))]
      exact ih (by simp at hk; omega) (fun i hi => h (i + 1) (by omega)) he
theorem ofS_isW {ps : List Sr} (hv : SrV ps) {w s : List UInt8} (h : ofS ps w = some s) : IsW s ∧ s.length < w.length ∧ w.length ≤ 20 := by
  have : ∀ (qs : List Sr), (∀ i, i < qs.length → IsW (rdSr qs i).sh ∧ (rdSr qs i).sh.length < (rdSr qs i).lo.length ∧ (rdSr qs i).lo.length ≤ 20) → ofS qs w = some s → IsW s ∧ s.length < w.length ∧ w.length ≤ 20 := by
    intro qs
    induction qs with
    | nil => intro _ h; cases h
    | cons q qs ih =>
      intro ha h
      rw [ofS] at h
      by_cases e : q.lo = w
      · rw [if_pos e] at h
        cases h
        have := ha 0 (by simp)
        rw [← e]; exact this
      · rw [if_neg e] at h
        exact ih (fun i hi => ha (i + 1) (by simp; omega)) h
  exact this ps (fun i hi => ⟨(hv.at' i hi).2.1, (hv.at' i hi).2.2.2, (hv.at' i hi).2.2.1⟩) h
/-- Whether a word has a short; the indices of all that have. -/
def hasS (ps : List Sr) (ws : List (List UInt8)) (i : Nat) : Bool := (ofS ps (rdW ws i)).isSome
def whichS (ps : List Sr) (ws : List (List UInt8)) : List Int := idxS (hasS ps ws) ws.length
theorem idxS_at (p : Nat → Bool) : ∀ (k j : Nat), j < (idxS p k).length → ∃ i, i < k ∧ p i = true ∧ rdI (idxS p k) j = (i : Int)
  | 0, j, h => by simp [idxS] at h
  | k + 1, j, h => by
    cases hk : p k
    · rw [idxS_no hk] at h ⊢
      obtain ⟨i, h1, h2, h3⟩ := idxS_at p k j h
      exact ⟨i, by omega, h2, h3⟩
    · rw [idxS_yes hk] at h ⊢
      rw [List.length_append, List.length_singleton] at h
      rcases Nat.lt_or_ge j (idxS p k).length with hj | hj
      · obtain ⟨i, h1, h2, h3⟩ := idxS_at p k j hj
        exact ⟨i, by omega, h2, by rw [rdI_leftS hj]; exact h3⟩
      · obtain rfl : j = (idxS p k).length := by omega
        refine ⟨k, by omega, hk, ?_⟩
        have := rdI_rightS (a := idxS p k) (b := [(k : Int)]) (i := 0)
        rw [Nat.add_zero] at this
        rw [this]; rfl

/-! ### Words of which some are replaced -/
def atS (ps : List Sr) (ws : List (List UInt8)) (at' : List Int) : Nat → List (List UInt8)
  | 0 => ws
  | k + 1 => (atS ps ws at' k).set (rdI at' k).toNat ((ofS ps (rdW ws (rdI at' k).toNat)).getD [])
theorem atS_length (ps : List Sr) (ws : List (List UInt8)) (at' : List Int) : ∀ k, (atS ps ws at' k).length = ws.length
  | 0 => rfl
  | k + 1 => by rw [atS, List.length_set, atS_length ps ws at' k]
/-- Indices of words that have shorts. -/
def AtV (ps : List Sr) (ws : List (List UInt8)) (at' : List Int) : Prop := ∀ j, j < at'.length → ∃ i, i < ws.length ∧ hasS ps ws i = true ∧ rdI at' j = (i : Int)
theorem rdW_set {ws : List (List UInt8)} {i j : Nat} {x : List UInt8} (hi : i < ws.length) : rdW (ws.set i x) j = if i = j then x else rdW ws j := by
  unfold rdW
  rw [List.getD, List.getElem?_set]
  by_cases h : i = j
  · rw [if_pos h, if_pos h, if_pos (by omega)]; rfl
  · rw [if_neg h, if_neg h]; rfl
theorem atS_words {ps : List Sr} (hv : SrV ps) {ws : List (List UInt8)} {at' : List Int} (hat : AtV ps ws at') : ∀ k, k ≤ at'.length → ∀ j, j < ws.length →
    rdW (atS ps ws at' k) j = rdW ws j ∨ (IsW (rdW (atS ps ws at' k) j) ∧ (rdW (atS ps ws at' k) j).length < (rdW ws j).length)
  | 0, _, j, _ => .inl rfl
  | k + 1, hk, j, hj => by
    obtain ⟨i, h1, h2, h3⟩ := hat k (by omega)
    have ih := atS_words hv hat k (by omega) j hj
    have e : (rdI at' k).toNat = i := by omega
    rw [atS, e, rdW_set (by rw [atS_length]; exact h1)]
    by_cases hij : i = j
    · rw [if_pos hij]
      subst hij
      unfold hasS at h2
      cases ho : ofS ps (rdW ws i) with
      | none => rw [ho] at h2; cases h2
      | some s =>
        have := ofS_isW hv ho
        exact .inr ⟨this.1, this.2.1⟩
    · rw [if_neg hij]; exact ih
theorem joinW_le : ∀ (vs ws : List (List UInt8)), vs.length = ws.length → (∀ j, j < ws.length → (rdW vs j).length ≤ (rdW ws j).length) → (joinW vs).length ≤ (joinW ws).length
  | [], [], _, _ => Nat.le_refl _
  | [], _ :: _, h, _ => by simp at h
  | _ :: _, [], h, _ => by simp at h
  | [v], [w], _, h => by
    rw [joinW_one, joinW_one]; exact h 0 (by simp)
  | [v], w :: w2 :: ws, h, _ => by simp at h
  | v :: v2 :: vs, [w], h, _ => by simp at h
  | v :: v2 :: vs, w :: w2 :: ws, h, ha => by
    have ih := joinW_le (v2 :: vs) (w2 :: ws) (by simpa using h) (fun j hj => ha (j + 1) (by simp at hj ⊢; omega))
    have h0 : v.length ≤ w.length := ha 0 (by simp)
    rw [joinW_cons2, joinW_cons2]
    simp only [List.length_append, List.length_cons]
    omega
theorem atS_ws {ps : List Sr} (hv : SrV ps) {ws : List (List UInt8)} (hw : Ws ws) (hj : (joinW ws).length ≤ 60) {at' : List Int} (hat : AtV ps ws at') {k : Nat} (hk : k ≤ at'.length) : Ws (atS ps ws at' k) ∧ (joinW (atS ps ws at' k)).length ≤ 60 := by
  have hl := atS_length ps ws at' k
  have ha := atS_words hv hat k hk
  refine ⟨⟨fun x hx => ?_, fun x hx => ?_, by rw [hl]; exact hw.many⟩, Nat.le_trans (joinW_le _ _ hl fun j hj => ?_) hj⟩
  · obtain ⟨j, hj, rfl⟩ := List.getElem_of_mem hx
    have e : (atS ps ws at' k)[j] = rdW (atS ps ws at' k) j := by unfold rdW; rw [List.getD, List.getElem?_eq_getElem hj]; rfl
    rw [e]
    rcases ha j (by omega) with h | h
    · rw [h]; exact hw.isw _ (rdW_mem (by omega))
    · exact h.1
  · obtain ⟨j, hj, rfl⟩ := List.getElem_of_mem hx
    have e : (atS ps ws at' k)[j] = rdW (atS ps ws at' k) j := by unfold rdW; rw [List.getD, List.getElem?_eq_getElem hj]; rfl
    rw [e]
    have := hw.len _ (rdW_mem (show j < ws.length by omega))
    rcases ha j (by omega) with h | h
    · rw [h]; exact this
    · omega
  · rcases ha j hj with h | h
    · rw [h]; exact Nat.le_refl _
    · omega

/-! ### The fewest shorts -/
/-- The indices that a number chooses. -/
def pickS (all : List Int) (s : Nat) : Nat → List Int
  | 0 => []
  | j + 1 => if s.testBit j then pickS all s j ++ [rdI all j] else pickS all s j
theorem pickS_len (all : List Int) (s : Nat) : ∀ j, (pickS all s j).length ≤ j
  | 0 => Nat.le_refl _
  | j + 1 => by
    have := pickS_len all s j
    rw [pickS]; split
    · rw [List.length_append, List.length_singleton]; omega
    · omega
theorem pickS_at {ps : List Sr} {ws : List (List UInt8)} {all : List Int} (ha : AtV ps ws all) (s : Nat) : ∀ j, j ≤ all.length → AtV ps ws (pickS all s j)
  | 0, _ => fun i hi => by simp [pickS] at hi
  | j + 1, hj => by
    have ih := pickS_at ha s j (by omega)
    rw [pickS]
    split
    · intro i hi
      rw [List.length_append, List.length_singleton] at hi
      rcases Nat.lt_or_ge i (pickS all s j).length with h | h
      · rw [rdI_leftS h]; exact ih i h
      · obtain rfl : i = (pickS all s j).length := by omega
        have := rdI_rightS (a := pickS all s j) (b := [rdI all j]) (i := 0)
        rw [Nat.add_zero] at this
        rw [this]
        exact ha j (by omega)
    · exact ih
def ownS' (ps : List Sr) (ws : List (List UInt8)) (s : Nat) : List Int := pickS (whichS ps ws) s (whichS ps ws).length
def lineS (f : Fc) (ps : List Sr) (ws : List (List UInt8)) (at' : List Int) : Int := lineW f (joinW (atS ps ws at' at'.length))
structure Fst where
  best : List Int
  found : Bool
def betS (own : List Int) (st : Fst) : Bool := !st.found || decide (own.length < st.best.length) || (decide (own.length = st.best.length) && before own st.best)
def fewS (f : Fc) (ps : List Sr) (ws : List (List UInt8)) (m : Int) : Nat → Fst
  | 0 => ⟨[], false⟩
  | s + 1 => if lineS f ps ws (ownS' ps ws s) ≤ m ∧ betS (ownS' ps ws s) (fewS f ps ws m s) = true then ⟨ownS' ps ws s, true⟩ else fewS f ps ws m s
theorem fewS_len (f : Fc) (ps : List Sr) (ws : List (List UInt8)) (m : Int) : ∀ s, (fewS f ps ws m s).best.length ≤ (whichS ps ws).length
  | 0 => Nat.zero_le _
  | s + 1 => by
    have := fewS_len f ps ws m s
    rw [fewS]; split
    · exact pickS_len _ _ _
    · exact this
theorem which_at (ps : List Sr) (ws : List (List UInt8)) : AtV ps ws (whichS ps ws) := fun j hj => idxS_at _ _ j hj
theorem ownS_at (ps : List Sr) (ws : List (List UInt8)) (s : Nat) : AtV ps ws (ownS' ps ws s) := pickS_at (which_at ps ws) s _ (Nat.le_refl _)
theorem which_len (ps : List Sr) (ws : List (List UInt8)) : (whichS ps ws).length ≤ ws.length := idxS_length _ _
/-- The code, and what FewestShorts answers. -/
def fsC (f : Fc) (l : List UInt8) (ps : List Sr) (m : Int) : Int := if validF f && vText l && srOk ps then (if inB 0 4000 m then (if 10 < (whichS ps (words l)).length then 3 else if (fewS f ps (words l) m (2 ^ (whichS ps (words l)).length)).found then 0 else 6) else 2) else 1
def fsR (f : Fc) (l : List UInt8) (ps : List Sr) (m : Int) : List Int := if fsC f l ps m = 0 then (fewS f ps (words l) m (2 ^ (whichS ps (words l)).length)).best else []
theorem fsR_len (f : Fc) (l : List UInt8) (ps : List Sr) (m : Int) : (fsR f l ps m).length ≤ 60 := by
  unfold fsR
  by_cases h : fsC f l ps m = 0
  · rw [if_pos h]
    have h1 := fewS_len f ps (words l) m (2 ^ (whichS ps (words l)).length)
    unfold fsC at h
    by_cases hv : (validF f && vText l && srOk ps) = true
    · rw [if_pos hv] at h
      by_cases hm : inB 0 4000 m = true
      · rw [if_pos hm] at h
        by_cases h10 : 10 < (whichS ps (words l)).length
        · rw [if_pos h10] at h; cases h
        · omega
      · rw [if_neg hm] at h; cases h
    · rw [if_neg hv] at h; cases h
  · rw [if_neg h]; exact Nat.zero_le _
end Go.Proofs.YtnlnjpdnhdmndaaGreatDoor
