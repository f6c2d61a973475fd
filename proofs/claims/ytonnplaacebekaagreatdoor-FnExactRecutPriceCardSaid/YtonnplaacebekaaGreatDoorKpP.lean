/- Letters that are kept, plain. No walk here. -/
import Derived.Test.YtonnplaacebekaaGreatDoorShL
import Derived.Test.YtonnplaacebekaaGreatDoorShA
namespace Go.Proofs.YtonnplaacebekaaGreatDoor
open Go Go.RowKit
set_option linter.unusedVariables false
set_option linter.unusedSimpArgs false

/-! ### Places, word by word and in one line -/
theorem plW_take {f : Fc} {a b : List UInt8} {k : Nat} (hk : k ≤ a.length) : plW f (a ++ b) k = plW f a k := by
  induction k with
  | zero => rfl
  | succ k ih =>
    rw [plW, plW, ih (by omega), atW_take (by omega), byt_append_left (by omega : k < a.length)]
    have : gapAt f (a ++ b) k = gapAt f a k := by
      unfold gapAt
      rw [byt_append_left (by omega : k < a.length)]
      by_cases h0 : k = 0
      · simp [h0]
      · rw [byt_append_left (by omega : k - 1 < a.length)]
    rw [this]
theorem byt_word (a w : List UInt8) (i : Nat) : byt (a ++ 32 :: w) (a.length + 1 + i) = byt w i := by
  have e1 : a ++ 32 :: w = (a ++ [32]) ++ w := by simp
  have := byt_append_right (a := a ++ [32]) (b := w) (i := i)
  rw [List.length_append, List.length_singleton, ← e1] at this
  exact this
theorem byt_blank (a w : List UInt8) : byt (a ++ 32 :: w) a.length = 32 := by
  have := byt_append_right (a := a) (b := 32 :: w) (i := 0)
  rw [Nat.add_zero] at this
  rw [this]; rfl
theorem gapAt_word {f : Fc} (a w : List UInt8) (k : Nat) : gapAt f (a ++ 32 :: w) (a.length + 1 + k) = gapAt f w k := by
  unfold gapAt
  by_cases h0 : k = 0
  · subst h0
    rw [Nat.add_zero, Nat.add_sub_cancel, byt_blank]
    simp
  · have e2 : a.length + 1 + k - 1 = a.length + 1 + (k - 1) := by omega
    rw [e2, byt_word, byt_word]
    have : ¬ (a.length + 1 + k = 0) := by omega
    simp [this, h0]
theorem let_ne {b : Int} (h : isLet b = true) : b ≠ 32 := by
  have := isLet_iff.1 h
  omega
theorem plW_word {f : Fc} {a w : List UInt8} (k : Nat) (hk : k ≤ w.length) (hw : LL w) : plW f (a ++ 32 :: w) (a.length + 1 + k) = plW f a a.length ++ plcW f w (lineW f a + f.space) k := by
  induction k with
  | zero =>
    show plW f (a ++ 32 :: w) (a.length + 1) = _
    rw [plW, if_pos (byt_blank a w), plW_take (Nat.le_refl _)]
    simp [plcW]
  | succ k ih =>
    rw [← Nat.add_assoc, plW, byt_word, if_neg (let_ne (hw k (by omega))), ih (by omega), plcW_succ, atW_word k (by omega) hw, gapAt_word, List.append_assoc, Int.add_assoc]
theorem plW_alone {f : Fc} {w : List UInt8} (k : Nat) (hk : k ≤ w.length) (hw : LL w) : plW f w k = plcW f w 0 k := by
  induction k with
  | zero => rfl
  | succ k ih => rw [plW, if_neg (let_ne (hw k (by omega))), ih (by omega), plcW_succ, Int.zero_add]
theorem plcA_take (f : Fc) (ws vs : List (List UInt8)) {n : Nat} (hn : n ≤ ws.length) : plcA f (ws ++ vs) n = plcA f ws n := by
  induction n with
  | zero => rfl
  | succ n ih =>
    have e : rdW (ws ++ vs) n = rdW ws n := by unfold rdW; simp [List.getD, List.getElem?_append_left (show n < ws.length by omega)]
    have e2 : baseW f (ws ++ vs) n = baseW f ws n := by unfold baseW; rw [sumW_take f ws vs (by omega)]
    rw [plcA, plcA, ih (by omega), e, e2]
theorem plcA_join (f : Fc) (ws : List (List UInt8)) (h : ∀ x ∈ ws, LL x) : plcA f ws ws.length = plW f (joinW ws) (joinW ws).length := by
  obtain ⟨n, hn⟩ : ∃ n, n = ws.length := ⟨_, rfl⟩
  induction n generalizing ws with
  | zero =>
    have : ws = [] := List.eq_nil_of_length_eq_zero hn.symm
    subst this; rfl
  | succ n ih =>
    have hne : ws ≠ [] := by intro e; subst e; simp at hn
    have e := List.dropLast_concat_getLast hne
    have hd : (ws.dropLast).length = n := by simp; omega
    have hall : ∀ x ∈ ws.dropLast, LL x := fun x hx => h x (List.dropLast_subset _ hx)
    have ih' := ih ws.dropLast hall hd.symm
    have hv : LL (ws.getLast hne) := h _ (List.getLast_mem hne)
    generalize ws.dropLast = us at *
    generalize ws.getLast hne = v at *
    subst hd
    have hg : rdW (us ++ [v]) us.length = v := by simp [rdW, List.getD]
    rw [← e, List.length_append, List.length_singleton, plcA, plcA_take f us [v] (Nat.le_refl _), ih', hg]
    unfold baseW
    by_cases h0 : us = []
    · subst h0
      rw [joinW_nil, List.nil_append, joinW_one, plW_alone _ (Nat.le_refl _) hv]
      simp [plW]
    · rw [joinW_snoc h0, if_neg (by intro e; exact h0 (List.eq_nil_of_length_eq_zero e)), sumW_take f us [v] (Nat.le_refl _), sumW_join f us hall]
      have e3 : (joinW us ++ 32 :: v).length = (joinW us).length + 1 + v.length := by simp; omega
      rw [e3, plW_word v.length (Nat.le_refl _) hv]
theorem plcA_words (f : Fc) {l : List UInt8} (h : vText l = true) : plcA f (words l) (words l).length = plW f l l.length := by
  rw [plcA_join f _ (fun x hx => (words_isW h x hx).1), joinW_words]
theorem lets_snoc (a : List UInt8) (b : UInt8) : lets (a ++ [b]) = if b = 32 then lets a else lets a ++ [b] := by
  rw [lets_append]
  by_cases hb : b = 32
  · subst hb; rw [if_pos rfl]; show lets a ++ [] = _; simp
  · rw [if_neg hb]
    unfold lets
    simp [hb]
theorem plW_lets (f : Fc) (l : List UInt8) (k : Nat) (hk : k ≤ l.length) : (plW f l k).length = (lets (l.take k)).length := by
  induction k with
  | zero => rfl
  | succ k ih =>
    have hk' : k < l.length := by omega
    rw [plW, List.take_succ_eq_append_getElem hk', lets_snoc, byt_get hk']
    by_cases hb : l[k] = 32
    · rw [if_pos (by rw [hb]; rfl), if_pos hb, ih (by omega)]
    · have : ¬ ((l[k]).toNat : Int) = 32 := fun e => hb (u8_eq (by rw [e]; rfl))
      rw [if_neg this, if_neg hb, List.length_append, List.length_append, ih (by omega)]; rfl
theorem plW_len (f : Fc) (l : List UInt8) : (plW f l l.length).length = (lets l).length := by
  have := plW_lets f l l.length (Nat.le_refl _)
  rwa [List.take_length] at this
theorem atW_mono {f : Fc} (hf : FcV f) {l : List UInt8} (hl : LS l) {j k : Nat} (hjk : j ≤ k) (hk : k ≤ l.length) : atW f l j ≤ atW f l k := by
  induction k with
  | zero => obtain rfl : j = 0 := by omega
            exact Int.le_refl _
  | succ k ih =>
    by_cases e : j = k + 1
    · subst e; exact Int.le_refl _
    · have h1 := ih (by omega) (by omega)
      have h2 := stepW_range hf hl (show k < l.length by omega)
      rw [atW]; omega
/-- Places are within the line, and rise strictly. -/
theorem plW_rise {f : Fc} (hf : FcV f) {l : List UInt8} (hl : LS l) : ∀ k, k ≤ l.length → (∀ i, i < (plW f l k).length → 0 ≤ rdI (plW f l k) i ∧ rdI (plW f l k) i < atW f l k) ∧ ∀ i j, i < j → j < (plW f l k).length → rdI (plW f l k) i < rdI (plW f l k) j
  | 0, _ => ⟨fun i hi => absurd hi (Nat.not_lt_zero _), fun i j _ hj => absurd hj (Nat.not_lt_zero _)⟩
  | k + 1, hk => by
    obtain ⟨h1, h2⟩ := plW_rise hf hl k (by omega)
    have hs := stepW_range hf hl (show k < l.length by omega)
    have ha := atW_range hf hl (show k ≤ l.length by omega)
    by_cases hb : byt l k = 32
    · rw [plW, if_pos hb, atW]
      exact ⟨fun i hi => by have := h1 i hi; omega, h2⟩
    · have hll : isLet (byt l k) = true := by
        rcases hl k (by omega) with e | e
        · exact absurd e hb
        · exact e
      have hw := letW_range hf hll
      have hst : stepW f l k = gapAt f l k + letW f (byt l k) := by unfold stepW; rw [if_neg hb]
      rw [plW, if_neg hb, atW]
      refine ⟨fun i hi => ?_, fun i j hij hj => ?_⟩
      · simp only [List.length_append, List.length_singleton] at hi
        by_cases hi2 : i < (plW f l k).length
        · rw [rdI_left hi2]; have := h1 i hi2; omega
        · obtain rfl : i = (plW f l k).length := by omega
          rw [rdI_snoc]; omega
      · simp only [List.length_append, List.length_singleton] at hj
        by_cases hj2 : j < (plW f l k).length
        · rw [rdI_left hj2, rdI_left (by omega)]; exact h2 i j hij hj2
        · obtain rfl : j = (plW f l k).length := by omega
          rw [rdI_snoc, rdI_left hij]; have := h1 i hij; omega
theorem plW_bound {f : Fc} (hf : FcV f) {l : List UInt8} (hl : LS l) (h60 : l.length ≤ 60) {i : Nat} (hi : i < (plW f l l.length).length) : 0 ≤ rdI (plW f l l.length) i ∧ rdI (plW f l l.length) i < 3600 := by
  have h := (plW_rise hf hl l.length (Nat.le_refl _)).1 i hi
  have ha := atW_range hf hl (Nat.le_refl l.length)
  omega

/-! ### Letters that are kept -/
/-- Whether one of the first i letters of the old line lies where letter k of the new one is to lie, and is the same. -/
def kbN (x y : List UInt8) (a b : List Int) (s : Int) (k : Nat) : Nat → Bool
  | 0 => false
  | i + 1 => kbN x y a b s k i || (byt x i == byt y k && rdI a i == rdI b k + s)
def kptN (x y : List UInt8) (a b : List Int) (s : Int) : Nat → List Int
  | 0 => []
  | k + 1 => if kbN x y a b s k x.length = true then kptN x y a b s k ++ [(k : Int)] else kptN x y a b s k
def kptR (f : Fc) (o w : List UInt8) (s : Int) : List Int := kptN (lets o) (lets w) (plW f o o.length) (plW f w w.length) s (lets w).length
theorem kptN_yes {x y : List UInt8} {a b : List Int} {s : Int} {k : Nat} (h : kbN x y a b s k x.length = true) : kptN x y a b s (k + 1) = kptN x y a b s k ++ [(k : Int)] := by rw [kptN, if_pos h]
theorem kptN_no {x y : List UInt8} {a b : List Int} {s : Int} {k : Nat} (h : kbN x y a b s k x.length = false) : kptN x y a b s (k + 1) = kptN x y a b s k := by rw [kptN, if_neg (by rw [h]; simp)]
theorem kptN_length (x y : List UInt8) (a b : List Int) (s : Int) : ∀ k, (kptN x y a b s k).length ≤ k
  | 0 => Nat.le_refl _
  | k + 1 => by
    have := kptN_length x y a b s k
    rw [kptN]
    split
    · rw [List.length_append, List.length_singleton]; omega
    · omega
/-- What the map holds at a place: the letter that lies there, 0 if there is none. -/
def lkN (x : List UInt8) (a : List Int) (q : Int) : Nat → Int
  | 0 => 0
  | i + 1 => if rdI a i = q then byt x i else lkN x a q i
theorem kbN_none {x y : List UInt8} {a b : List Int} {s : Int} {k : Nat} : ∀ m, (∀ j, j < m → rdI a j ≠ rdI b k + s) → kbN x y a b s k m = false
  | 0, _ => rfl
  | m + 1, h => by
    rw [kbN, kbN_none m (fun j hj => h j (by omega)), Bool.false_or, Bool.and_eq_false_iff]
    exact .inr (by simpa using h m (by omega))
theorem lkN_kb {x y : List UInt8} {a b : List Int} {s : Int} {k : Nat} (hy : byt y k ≠ 0) : ∀ m, (∀ i j, i < j → j < m → rdI a i < rdI a j) → (lkN x a (rdI b k + s) m == byt y k) = kbN x y a b s k m
  | 0, _ => by
    rw [lkN, kbN]
    simpa using fun e => hy e.symm
  | m + 1, h => by
    have ih := lkN_kb (x := x) (a := a) (b := b) (s := s) hy m (fun i j h1 h2 => h i j h1 (by omega))
    rw [lkN, kbN]
    by_cases e : rdI a m = rdI b k + s
    · rw [if_pos e, kbN_none m (fun j hj => by have := h j m hj (by omega); omega), e]
      simp
    · rw [if_neg e, ih]
      have : (rdI a m == rdI b k + s) = false := by simpa using e
      rw [this]; simp
/-- The code of a face and two lines. -/
def kepC (f : Fc) (o w : List UInt8) (fine : Bool) : Int := if validF f && vText o && vText w then (if fine then 0 else 2) else 1
def keptOut (f : Fc) (o w : List UInt8) (s : Int) : List Int × Int := if kepC f o w (inB (-400) 400 s) = 0 then (kptR f o w s, 0) else ([], kepC f o w (inB (-400) 400 s))
theorem kepC_zero {f : Fc} {o w : List UInt8} {b : Bool} (h : kepC f o w b = 0) : validF f = true ∧ vText o = true ∧ vText w = true ∧ b = true := by
  unfold kepC at h
  split at h
  · rename_i hh
    simp only [Bool.and_eq_true] at hh
    split at h
    · exact ⟨hh.1.1, hh.1.2, hh.2, by assumption⟩
    · exact absurd h (by decide)
  · exact absurd h (by decide)
theorem kepC_ok {f : Fc} {o w : List UInt8} {b : Bool} (h : validF f = true) (k : vText o = true) (j : vText w = true) : kepC f o w b = if b then 0 else 2 := by unfold kepC; rw [h, k, j]; rfl
theorem kepC_f {f : Fc} {o w : List UInt8} {b : Bool} (h : validF f = false) : kepC f o w b = 1 := by unfold kepC; rw [h]; rfl
theorem kepC_o {f : Fc} {o w : List UInt8} {b : Bool} (h : vText o = false) : kepC f o w b = 1 := by unfold kepC; rw [h]; simp
theorem kepC_w {f : Fc} {o w : List UInt8} {b : Bool} (h : vText w = false) : kepC f o w b = 1 := by unfold kepC; rw [h]; simp
theorem vText_len60 {l : List UInt8} (h : vText l = true) : l.length ≤ 60 := (vText_iff.1 h).2
theorem keptOut_len (f : Fc) (o w : List UInt8) (s : Int) : (keptOut f o w s).1.length ≤ 1048576 := by
  unfold keptOut
  split
  · rename_i hz
    have ht := (kepC_zero hz).2.2.1
    have h1 := lets_length w
    have h2 := kptN_length (lets o) (lets w) (plW f o o.length) (plW f w w.length) s (lets w).length
    have h3 := vText_len60 ht
    show (kptR f o w s).length ≤ _
    unfold kptR
    omega
  · exact Nat.zero_le _
end Go.Proofs.YtonnplaacebekaaGreatDoor
