/- Faces: what they are, what is valid, the gap of a pair, how wide a line is. No walk here. -/
import Derived.Test.YtjgflkoefimmoaaDoorTxtP
namespace Go.Proofs.YtjgflkoefimmoaaDoor
open Go Go.RowKit
set_option linter.unusedVariables false
set_option linter.unusedSimpArgs false

/-- A pair of letters, and by how much their gap is wider. -/
structure Pr where
  a : Int
  b : Int
  y : Int
/-- A face. -/
structure Fc where
  wide : List Int
  space : Int
  gap : Int
  pairs : List Pr
def rdP (ps : List Pr) (i : Nat) : Pr := ps.getD i ⟨0, 0, 0⟩
theorem rdP_at {ps : List Pr} {i : Nat} (h : i < ps.length) : ps[i]? = some (rdP ps i) := by
  simp [rdP, List.getD, List.getElem?_eq_getElem h]

structure PrT (p : Pr) : Prop where
  a : 0 ≤ p.a ∧ p.a ≤ 255
  b : 0 ≤ p.b ∧ p.b ≤ 255
  y : -128 ≤ p.y ∧ p.y ≤ 127
/-- All numbers are of their kinds. -/
structure FcT (f : Fc) : Prop where
  len : f.wide.length = 26
  wide : ∀ i, i < 26 → -128 ≤ rdI f.wide i ∧ rdI f.wide i ≤ 127
  space : -128 ≤ f.space ∧ f.space ≤ 127
  gap : -128 ≤ f.gap ∧ f.gap ≤ 127
  pairs : ∀ i, i < f.pairs.length → PrT (rdP f.pairs i)

/-- By how much the gap of a pair is wider. -/
def byP (ps : List Pr) (a b : Int) : Int := match ps.find? (fun p => p.a == a && p.b == b) with
  | some p => p.y
  | none => 0
def isP (p : Pr) (a b : Int) : Bool := p.a == a && p.b == b
theorem byP_none {ps : List Pr} {a b : Int} (h : ∀ i, i < ps.length → isP (rdP ps i) a b = false) : byP ps a b = 0 := by
  unfold byP
  have : ps.find? (fun p => p.a == a && p.b == b) = none := by
    rw [List.find?_eq_none]
    intro p hp
    obtain ⟨i, hi, rfl⟩ := List.getElem_of_mem hp
    have := h i hi
    have e : rdP ps i = ps[i] := by simp [rdP, List.getD, List.getElem?_eq_getElem hi]
    rw [e] at this
    unfold isP at this
    rw [this]; decide
  rw [this]
theorem byP_hit {ps : List Pr} {a b : Int} {k : Nat} (hk : k < ps.length) (h : ∀ i, i < k → isP (rdP ps i) a b = false) (hh : isP (rdP ps k) a b = true) : byP ps a b = (rdP ps k).y := by
  unfold byP
  have e : ∀ i (hi : i < ps.length), rdP ps i = ps[i] := fun i hi => by simp [rdP, List.getD, List.getElem?_eq_getElem hi]
  have : ps.find? (fun p => p.a == a && p.b == b) = some ps[k] := by
    rw [List.find?_eq_some_iff_getElem]
    refine ⟨by have := hh; rw [e k hk] at this; exact this, k, hk, rfl, fun j hj => ?_⟩
    have := h j hj
    rw [e j (by omega)] at this
    unfold isP at this
    rw [this]; rfl
  rw [this, ← e k hk]

/-- A pair comes ahead of another one. -/
def ahead (p q : Pr) : Bool := decide (p.a < q.a) || (p.a == q.a && decide (p.b < q.b))
/-- The pair is as it should be in a face with such a gap. -/
def prOk (g : Int) (p : Pr) : Bool := isLet p.a && isLet p.b && inB (-10) 10 p.y && !(p.y == 0) && decide (0 ≤ g + p.y)
def prAt (f : Fc) (i : Nat) : Bool := prOk f.gap (rdP f.pairs i) && (decide (i = 0) || ahead (rdP f.pairs (i - 1)) (rdP f.pairs i))
def AllPr (f : Fc) (k : Nat) : Prop := ∀ i, i < k → prAt f i = true
def AllWd (f : Fc) (k : Nat) : Prop := ∀ i, i < k → inB 1 40 (rdI f.wide i) = true
instance (f : Fc) (k : Nat) : Decidable (AllPr f k) := by unfold AllPr; infer_instance
instance (f : Fc) (k : Nat) : Decidable (AllWd f k) := by unfold AllWd; infer_instance
/-- Valid, but for the number of the pairs. -/
def shapeF (f : Fc) : Bool := decide (AllWd f 26) && inB 1 40 f.space && inB 0 10 f.gap && decide (AllPr f f.pairs.length)
def validF (f : Fc) : Bool := decide (f.pairs.length ≤ 12) && shapeF f
theorem allPr_zero (f : Fc) : AllPr f 0 := fun i hi => by omega
theorem allWd_zero (f : Fc) : AllWd f 0 := fun i hi => by omega
theorem allPr_succ {f : Fc} {k : Nat} (h : AllPr f k) (hk : prAt f k = true) : AllPr f (k + 1) := fun j hj => by
  rcases Nat.lt_succ_iff_lt_or_eq.1 hj with h1 | rfl
  · exact h j h1
  · exact hk
theorem allWd_succ {f : Fc} {k : Nat} (h : AllWd f k) (hk : inB 1 40 (rdI f.wide k) = true) : AllWd f (k + 1) := fun j hj => by
  rcases Nat.lt_succ_iff_lt_or_eq.1 hj with h1 | rfl
  · exact h j h1
  · exact hk
theorem shape_wd {f : Fc} {k : Nat} (hk : k < 26) (h : inB 1 40 (rdI f.wide k) = false) : shapeF f = false := by
  unfold shapeF
  rw [decide_eq_false (fun hh : AllWd f 26 => by rw [hh k hk] at h; cases h)]; rfl
theorem shape_sp {f : Fc} (h : inB 1 40 f.space = false) : shapeF f = false := by
  unfold shapeF; rw [h]; simp
theorem shape_gp {f : Fc} (h : inB 0 10 f.gap = false) : shapeF f = false := by
  unfold shapeF; rw [h]; simp
theorem shape_pr {f : Fc} {k : Nat} (hk : k < f.pairs.length) (h : prAt f k = false) : shapeF f = false := by
  unfold shapeF
  rw [decide_eq_false (fun hh : AllPr f f.pairs.length => by rw [hh k hk] at h; cases h)]; simp
theorem shape_all {f : Fc} (h1 : AllWd f 26) (h2 : AllPr f f.pairs.length) : shapeF f = (inB 1 40 f.space && inB 0 10 f.gap) := by
  unfold shapeF
  rw [decide_eq_true h1, decide_eq_true h2]; simp
/-- What a valid face is. -/
structure FcV (f : Fc) : Prop where
  wide : ∀ i, i < 26 → 1 ≤ rdI f.wide i ∧ rdI f.wide i ≤ 40
  space : 1 ≤ f.space ∧ f.space ≤ 40
  gap : 0 ≤ f.gap ∧ f.gap ≤ 10
  pairs : ∀ i, i < f.pairs.length → prAt f i = true
  few : f.pairs.length ≤ 12
theorem validF_iff {f : Fc} : validF f = true ↔ FcV f := by
  unfold validF shapeF
  simp only [Bool.and_eq_true, decide_eq_true_iff, inB_iff]
  constructor
  · rintro ⟨h1, ⟨⟨h2, h3⟩, h4⟩, h5⟩
    exact ⟨fun i hi => inB_iff.1 (h2 i hi), h3, h4, h5, h1⟩
  · rintro ⟨h2, h3, h4, h5, h1⟩
    exact ⟨h1, ⟨⟨fun i hi => inB_iff.2 (h2 i hi), h3⟩, h4⟩, h5⟩
theorem FcV.by {f : Fc} (h : FcV f) (a b : Int) : -10 ≤ byP f.pairs a b ∧ byP f.pairs a b ≤ 10 ∧ 0 ≤ f.gap + byP f.pairs a b := by
  unfold byP
  cases hq : f.pairs.find? (fun p => p.a == a && p.b == b) with
  | none => have := h.gap; simp; omega
  | some p =>
    have hm := List.mem_of_find?_eq_some hq
    obtain ⟨i, hi, rfl⟩ := List.getElem_of_mem hm
    have hp := h.pairs i hi
    have e : rdP f.pairs i = f.pairs[i] := by simp [rdP, List.getD, List.getElem?_eq_getElem hi]
    unfold prAt prOk at hp
    rw [e] at hp
    simp only [Bool.and_eq_true, decide_eq_true_iff, inB_iff] at hp
    exact ⟨hp.1.1.1.2.1, hp.1.1.1.2.2, hp.1.2⟩

/-! ### How wide a line is -/
/-- The gap ahead of a letter. -/
def gapAt (f : Fc) (l : List UInt8) (k : Nat) : Int := if k = 0 ∨ byt l (k - 1) = 32 then 0 else f.gap + byP f.pairs (byt l (k - 1)) (byt l k)
/-- The width of a letter. -/
def letW (f : Fc) (n : Int) : Int := rdI f.wide (n - 65).toNat
/-- What a byte adds. -/
def stepW (f : Fc) (l : List UInt8) (k : Nat) : Int := if byt l k = 32 then f.space else gapAt f l k + letW f (byt l k)
/-- How wide the first k bytes are. -/
def atW (f : Fc) (l : List UInt8) : Nat → Int
  | 0 => 0
  | k + 1 => atW f l k + stepW f l k
def lineW (f : Fc) (l : List UInt8) : Int := atW f l l.length
/-- Where the letters of the first k bytes are. -/
def plW (f : Fc) (l : List UInt8) : Nat → List Int
  | 0 => []
  | k + 1 => if byt l k = 32 then plW f l k else plW f l k ++ [atW f l k + gapAt f l k]
theorem stepW_range {f : Fc} (hf : FcV f) {l : List UInt8} (hl : LS l) {k : Nat} (hk : k < l.length) : 0 ≤ gapAt f l k ∧ gapAt f l k ≤ 20 ∧ 1 ≤ stepW f l k ∧ stepW f l k ≤ 60 := by
  have hb := hf.by (byt l (k - 1)) (byt l k)
  have hg := hf.gap
  have hgap : 0 ≤ gapAt f l k ∧ gapAt f l k ≤ 20 := by
    unfold gapAt
    split <;> omega
  refine ⟨hgap.1, hgap.2, ?_⟩
  unfold stepW
  split
  · have := hf.space; omega
  · rename_i h32
    rcases hl k hk with e | e
    · exact absurd e h32
    · have := isLet_iff.1 e
      have := hf.wide (byt l k - 65).toNat (by omega)
      unfold letW; omega
theorem letW_range {f : Fc} (hf : FcV f) {n : Int} (hn : isLet n = true) : 1 ≤ letW f n ∧ letW f n ≤ 40 := by
  have := isLet_iff.1 hn
  exact hf.wide (n - 65).toNat (by omega)
theorem atW_range {f : Fc} (hf : FcV f) {l : List UInt8} (hl : LS l) {k : Nat} (hk : k ≤ l.length) : (k : Int) ≤ atW f l k ∧ atW f l k ≤ 60 * (k : Int) := by
  induction k with
  | zero => simp [atW]
  | succ k ih =>
    have h1 := ih (by omega)
    have h2 := stepW_range hf hl (show k < l.length by omega)
    rw [atW]; push_cast; omega
theorem plW_length (f : Fc) (l : List UInt8) (k : Nat) : (plW f l k).length ≤ k := by
  induction k with
  | zero => exact Nat.le_refl _
  | succ k ih => rw [plW]; split <;> first | (simp; omega) | omega
theorem atW_take {f : Fc} {a b : List UInt8} {k : Nat} (hk : k ≤ a.length) : atW f (a ++ b) k = atW f a k := by
  induction k with
  | zero => rfl
  | succ k ih =>
    rw [atW, atW, ih (by omega)]
    congr 1
    unfold stepW gapAt
    rw [byt_append_left (by omega : k < a.length)]
    by_cases h0 : k = 0
    · simp [h0]
    · rw [byt_append_left (by omega : k - 1 < a.length)]
theorem atW_word {f : Fc} {a w : List UInt8} (k : Nat) (hk : k ≤ w.length) (hw : LL w) : atW f (a ++ 32 :: w) (a.length + 1 + k) = lineW f a + f.space + atW f w k := by
  have e1 : a ++ 32 :: w = (a ++ [32]) ++ w := by simp
  induction k with
  | zero =>
    show atW f (a ++ 32 :: w) a.length + stepW f (a ++ 32 :: w) a.length = _
    rw [atW_take (Nat.le_refl _)]
    have : stepW f (a ++ 32 :: w) a.length = f.space := by
      unfold stepW
      rw [if_pos]
      have := byt_append_right (a := a) (b := 32 :: w) (i := 0)
      rw [Nat.add_zero] at this
      rw [this]; rfl
    rw [this]
    simp [lineW, atW]
  | succ k ih =>
    rw [← Nat.add_assoc, atW, ih (by omega), atW, Int.add_assoc]
    congr 1
    have hb : ∀ i, byt (a ++ 32 :: w) (a.length + 1 + i) = byt w i := fun i => by
      have := byt_append_right (a := a ++ [32]) (b := w) (i := i)
      rw [List.length_append, List.length_singleton, ← e1] at this
      exact this
    have hn : byt w k ≠ 32 := by
      have := isLet_iff.1 (hw k (by omega))
      omega
    unfold stepW
    rw [hb, if_neg hn, if_neg hn]
    congr 1
    unfold gapAt
    by_cases h0 : k = 0
    · subst h0
      have := byt_append_right (a := a) (b := 32 :: w) (i := 0)
      rw [Nat.add_zero] at this
      rw [Nat.add_zero, Nat.add_sub_cancel, this]
      simp [byt_head]
    · have e2 : a.length + 1 + k - 1 = a.length + 1 + (k - 1) := by omega
      rw [e2, hb, hb]
      have : ¬ (a.length + 1 + k = 0) := by omega
      simp [this, h0]
/-- How wide the first n words are as a line. -/
def sumW (f : Fc) (ws : List (List UInt8)) : Nat → Int
  | 0 => 0
  | n + 1 => sumW f ws n + (if n = 0 then 0 else f.space) + lineW f (ws.getD n [])
theorem sumW_take (f : Fc) (ws vs : List (List UInt8)) {n : Nat} (hn : n ≤ ws.length) : sumW f (ws ++ vs) n = sumW f ws n := by
  induction n with
  | zero => rfl
  | succ n ih =>
    rw [sumW, sumW, ih (by omega)]
    congr 2
    simp [List.getD, List.getElem?_append_left (show n < ws.length by omega)]
theorem sumW_join (f : Fc) (ws : List (List UInt8)) (h : ∀ x ∈ ws, LL x) : sumW f ws ws.length = lineW f (joinW ws) := by
  obtain ⟨n, hn⟩ : ∃ n, n = ws.length := ⟨_, rfl⟩
  induction n generalizing ws with
  | zero =>
    have : ws = [] := List.eq_nil_of_length_eq_zero hn.symm
    subst this; rfl
  | succ n ih =>
    have hne : ws ≠ [] := by intro e; subst e; simp at hn
    have e := List.dropLast_concat_getLast hne
    have hd : (ws.dropLast).length = n := by simp; omega
    have ih' := ih ws.dropLast (fun x hx => h x (List.dropLast_subset _ hx)) hd.symm
    generalize ws.dropLast = us at *
    generalize hl : ws.getLast hne = v at *
    subst hd
    rw [← e, List.length_append, List.length_singleton, sumW, sumW_take f us [v] (Nat.le_refl _), ih']
    have hg : (us ++ [v]).getD us.length [] = v := by simp [List.getD]
    rw [hg]
    have hv : LL v := h v (by rw [← e]; simp)
    by_cases h0 : us = []
    · subst h0
      rw [joinW_nil, List.nil_append, joinW_one]
      simp [lineW, atW]
    · rw [joinW_snoc h0, if_neg (by intro e; exact h0 (List.eq_nil_of_length_eq_zero e))]
      have := atW_word (f := f) (a := joinW us) v.length (Nat.le_refl _) hv
      have e3 : (joinW us ++ 32 :: v).length = (joinW us).length + 1 + v.length := by simp; omega
      conv => rhs; unfold lineW
      rw [e3, this]
      rfl
end Go.Proofs.YtjgflkoefimmoaaDoor
