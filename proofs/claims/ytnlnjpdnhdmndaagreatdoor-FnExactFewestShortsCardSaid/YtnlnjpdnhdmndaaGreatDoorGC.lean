/- Faces: what they are, what is valid, the gap of a pair, how wide a line is. No walk here. Contracts: faces in memory: their size, a copy of them, pairs and letters' widths copied. Contracts: a face is measured and copied. Contracts: a face is copied, whole. Contracts: a face is copied, whole: the law's own copy. Contracts: two faces are compared; a face's pairs are marked. Contracts: a copy of a face is marked. -/
import Derived.Test.YtnlnjpdnhdmndaaGreatDoorGB
import Derived.Test.YtnlnjpdnhdmndaaGreatDoorProg
import Derived.Test.YtnlnjpdnhdmndaaGreatDoorGA
import Derived.OwnWalk
import Derived.Lib.LazyBuf
import Derived.Outline
import Derived.BigRegion
namespace Go.Proofs.YtnlnjpdnhdmndaaGreatDoor
open Go Go.RowKit
set_option linter.unusedVariables false
set_option linter.unusedSimpArgs false

/-- A pair of letters, and by how much their gap is wider. -/
structure Pr where
  a : Int
  b : Int
  y : Int
/-- A face. -/
structure Fc where
  wide : List Int
  space : Int
  gap : Int
  pairs : List Pr
def rdP (ps : List Pr) (i : Nat) : Pr := ps.getD i ⟨0, 0, 0⟩
theorem rdP_at {ps : List Pr} {i : Nat} (h : i < ps.length) : ps[i]? = some (rdP ps i) := by
  simp [rdP, List.getD, List.getElem?_eq_getElem h]

structure PrT (p : Pr) : Prop where
  a : 0 ≤ p.a ∧ p.a ≤ 255
  b : 0 ≤ p.b ∧ p.b ≤ 255
  y : -128 ≤ p.y ∧ p.y ≤ 127
/-- All numbers are of their kinds. -/
structure FcT (f : Fc) : Prop where
  len : f.wide.length = 26
  wide : ∀ i, i < 26 → -128 ≤ rdI f.wide i ∧ rdI f.wide i ≤ 127
  space : -128 ≤ f.space ∧ f.space ≤ 127
  gap : -128 ≤ f.gap ∧ f.gap ≤ 127
  pairs : ∀ i, i < f.pairs.length → PrT (rdP f.pairs i)

/-- By how much the gap of a pair is wider. -/
def byP (ps : List Pr) (a b : Int) : Int := match ps.find? (fun p => p.a == a && p.b == b) with
  | some p => p.y
  | none => 0
def isP (p : Pr) (a b : Int) : Bool := p.a == a && p.b == b
theorem byP_none {ps : List Pr} {a b : Int} (h : ∀ i, i < ps.length → isP (rdP ps i) a b = false) : byP ps a b = 0 := by
  unfold byP
  have : ps.find? (fun p => p.a == a && p.b == b) = none := by
    rw [List.find?_eq_none]
    intro p hp
    obtain ⟨i, hi, rfl⟩ := List.getElem_of_mem hp
    have := h i hi
    have e : rdP ps i = ps[i] := by simp [rdP, List.getD, List.getElem?_eq_getElem hi]
    rw [e] at this
    unfold isP at this
    rw [this]; decide
  rw [this]
theorem byP_hit {ps : List Pr} {a b : Int} {k : Nat} (hk : k < ps.length) (h : ∀ i, i < k → isP (rdP ps i) a b = false) (hh : isP (rdP ps k) a b = true) : byP ps a b = (rdP ps k).y := by
  unfold byP
  have e : ∀ i (hi : i < ps.length), rdP ps i = ps[i] := fun i hi => by simp [rdP, List.getD, List.getElem?_eq_getElem hi]
  have : ps.find? (fun p => p.a == a && p.b == b) = some ps[k] := by
    rw [List.find?_eq_some_iff_getElem]
    refine ⟨by have := hh; rw [e k hk] at this; exact this, k, hk, rfl, fun j hj => ?_⟩
    have := h j hj
    rw [e j (by omega)] at this
    unfold isP at this
    rw [this]; rfl
  rw [this, ← e k hk]

/-- A pair comes ahead of another one. -/
def ahead (p q : Pr) : Bool := decide (p.a < q.a) || (p.a == q.a && decide (p.b < q.b))
/-- The pair is as it should be in a face with such a gap. -/
def prOk (g : Int) (p : Pr) : Bool := isLet p.a && isLet p.b && inB (-10) 10 p.y && !(p.y == 0) && decide (0 ≤ g + p.y)
def prAt (f : Fc) (i : Nat) : Bool := prOk f.gap (rdP f.pairs i) && (decide (i = 0) || ahead (rdP f.pairs (i - 1)) (rdP f.pairs i))
def AllPr (f : Fc) (k : Nat) : Prop := ∀ i, i < k → prAt f i = true
def AllWd (f : Fc) (k : Nat) : Prop := ∀ i, i < k → inB 1 40 (rdI f.wide i) = true
instance (f : Fc) (k : Nat) : Decidable (AllPr f k) := by unfold AllPr; infer_instance
instance (f : Fc) (k : Nat) : Decidable (AllWd f k) := by unfold AllWd; infer_instance
/-- Valid, but for the number of the pairs. -/
def shapeF (f : Fc) : Bool := decide (AllWd f 26) && inB 1 40 f.space && inB 0 10 f.gap && decide (AllPr f f.pairs.length)
def validF (f : Fc) : Bool := decide (f.pairs.length ≤ 12) && shapeF f
theorem allPr_zero (f : Fc) : AllPr f 0 := fun i hi => by omega
theorem allWd_zero (f : Fc) : AllWd f 0 := fun i hi => by omega
theorem allPr_succ {f : Fc} {k : Nat} (h : AllPr f k) (hk : prAt f k = true) : AllPr f (k + 1) := fun j hj => by
  rcases Nat.lt_succ_iff_lt_or_eq.1 hj with h1 | rfl
  · exact h j h1
  · exact hk
theorem allWd_succ {f : Fc} {k : Nat} (h : AllWd f k) (hk : inB 1 40 (rdI f.wide k) = true) : AllWd f (k + 1) := fun j hj => by
  rcases Nat.lt_succ_iff_lt_or_eq.1 hj with h1 | rfl
  · exact h j h1
  · exact hk
theorem shape_wd {f : Fc} {k : Nat} (hk : k < 26) (h : inB 1 40 (rdI f.wide k) = false) : shapeF f = false := by
  unfold shapeF
  rw [decide_eq_false (fun hh : AllWd f 26 => by rw [hh k hk] at h; cases h)]; rfl
theorem shape_sp {f : Fc} (h : inB 1 40 f.space = false) : shapeF f = false := by
  unfold shapeF; rw [h]; simp
theorem shape_gp {f : Fc} (h : inB 0 10 f.gap = false) : shapeF f = false := by
  unfold shapeF; rw [h]; simp
theorem shape_pr {f : Fc} {k : Nat} (hk : k < f.pairs.length) (h : prAt f k = false) : shapeF f = false := by
  unfold shapeF
  rw [decide_eq_false (fun hh : AllPr f f.pairs.length => by rw [hh k hk] at h; cases h)]; simp
theorem shape_all {f : Fc} (h1 : AllWd f 26) (h2 : AllPr f f.pairs.length) : shapeF f = (inB 1 40 f.space && inB 0 10 f.gap) := by
  unfold shapeF
  rw [decide_eq_true h1, decide_eq_true h2]; simp
/-- What a valid face is. -/
structure FcV (f : Fc) : Prop where
  wide : ∀ i, i < 26 → 1 ≤ rdI f.wide i ∧ rdI f.wide i ≤ 40
  space : 1 ≤ f.space ∧ f.space ≤ 40
  gap : 0 ≤ f.gap ∧ f.gap ≤ 10
  pairs : ∀ i, i < f.pairs.length → prAt f i = true
  few : f.pairs.length ≤ 12
theorem validF_iff {f : Fc} : validF f = true ↔ FcV f := by
  unfold validF shapeF
  simp only [Bool.and_eq_true, decide_eq_true_iff, inB_iff]
  constructor
  · rintro ⟨h1, ⟨⟨h2, h3⟩, h4⟩, h5⟩
    exact ⟨fun i hi => inB_iff.1 (h2 i hi), h3, h4, h5, h1⟩
  · rintro ⟨h2, h3, h4, h5, h1⟩
    exact ⟨h1, ⟨⟨fun i hi => inB_iff.2 (h2 i hi), h3⟩, h4⟩, h5⟩
theorem FcV.by {f : Fc} (h : FcV f) (a b : Int) : -10 ≤ byP f.pairs a b ∧ byP f.pairs a b ≤ 10 ∧ 0 ≤ f.gap + byP f.pairs a b := by
  unfold byP
  cases hq : f.pairs.find? (fun p => p.a == a && p.b == b) with
  | none => have := h.gap; simp; omega
  | some p =>
    have hm := List.mem_of_find?_eq_some hq
    obtain ⟨i, hi, rfl⟩ := List.getElem_of_mem hm
    have hp := h.pairs i hi
    have e : rdP f.pairs i = f.pairs[i] := by simp [rdP, List.getD, List.getElem?_eq_getElem hi]
    unfold prAt prOk at hp
    rw [e] at hp
    simp only [Bool.and_eq_true, decide_eq_true_iff, inB_iff] at hp
    exact ⟨hp.1.1.1.2.1, hp.1.1.1.2.2, hp.1.2⟩

/-! ### How wide a line is -/
/-- The gap ahead of a letter. -/
def gapAt (f : Fc) (l : List UInt8) (k : Nat) : Int := if k = 0 ∨ byt l (k - 1) = 32 then 0 else f.gap + byP f.pairs (byt l (k - 1)) (byt l k)
/-- The width of a letter. -/
def letW (f : Fc) (n : Int) : Int := rdI f.wide (n - 65).toNat
/-- What a byte adds. -/
def stepW (f : Fc) (l : List UInt8) (k : Nat) : Int := if byt l k = 32 then f.space else gapAt f l k + letW f (byt l k)
/-- How wide the first k bytes are. -/
def atW (f : Fc) (l : List UInt8) : Nat → Int
  | 0 => 0
  | k + 1 => atW f l k + stepW f l k
def lineW (f : Fc) (l : List UInt8) : Int := atW f l l.length
/-- Where the letters of the first k bytes are. -/
def plW (f : Fc) (l : List UInt8) : Nat → List Int
  | 0 => []
  | k + 1 => if byt l k = 32 then plW f l k else plW f l k ++ [atW f l k + gapAt f l k]
theorem stepW_range {f : Fc} (hf : FcV f) {l : List UInt8} (hl : LS l) {k : Nat} (hk : k < l.length) : 0 ≤ gapAt f l k ∧ gapAt f l k ≤ 20 ∧ 1 ≤ stepW f l k ∧ stepW f l k ≤ 60 := by
  have hb := hf.by (byt l (k - 1)) (byt l k)
  have hg := hf.gap
  have hgap : 0 ≤ gapAt f l k ∧ gapAt f l k ≤ 20 := by
    unfold gapAt
    split <;> omega
  refine ⟨hgap.1, hgap.2, ?_⟩
  unfold stepW
  split
  · have := hf.space; omega
  · rename_i h32
    rcases hl k hk with e | e
    · exact absurd e h32
    · have := isLet_iff.1 e
      have := hf.wide (byt l k - 65).toNat (by omega)
      unfold letW; omega
theorem letW_range {f : Fc} (hf : FcV f) {n : Int} (hn : isLet n = true) : 1 ≤ letW f n ∧ letW f n ≤ 40 := by
  have := isLet_iff.1 hn
  exact hf.wide (n - 65).toNat (by omega)
theorem atW_range {f : Fc} (hf : FcV f) {l : List UInt8} (hl : LS l) {k : Nat} (hk : k ≤ l.length) : (k : Int) ≤ atW f l k ∧ atW f l k ≤ 60 * (k : Int) := by
  induction k with
  | zero => simp [atW]
  | succ k ih =>
    have h1 := ih (by omega)
    have h2 := stepW_range hf hl (show k < l.length by omega)
    rw [atW]; push_cast; omega
theorem plW_length (f : Fc) (l : List UInt8) (k : Nat) : (plW f l k).length ≤ k := by
  induction k with
  | zero => exact Nat.le_refl _
  | succ k ih => rw [plW]; split <;> first | (simp; omega) | omega
theorem atW_take {f : Fc} {a b : List UInt8} {k : Nat} (hk : k ≤ a.length) : atW f (a ++ b) k = atW f a k := by
  induction k with
  | zero => rfl
  | succ k ih =>
    rw [atW, atW, ih (by omega)]
    congr 1
    unfold stepW gapAt
    rw [byt_append_left (by omega : k < a.length)]
    by_cases h0 : k = 0
    · simp [h0]
    · rw [byt_append_left (by omega : k - 1 < a.length)]
theorem atW_word {f : Fc} {a w : List UInt8} (k : Nat) (hk : k ≤ w.length) (hw : LL w) : atW f (a ++ 32 :: w) (a.length + 1 + k) = lineW f a + f.space + atW f w k := by
  have e1 : a ++ 32 :: w = (a ++ [32]) ++ w := by simp
  induction k with
  | zero =>
    show atW f (a ++ 32 :: w) a.length + stepW f (a ++ 32 :: w) a.length = _
    rw [atW_take (Nat.le_refl _)]
    have : stepW f (a ++ 32 :: w) a.length = f.space := by
      unfold stepW
      rw [if_pos]
      have := byt_append_right (a := a) (b := 32 :: w) (i := 0)
      rw [Nat.add_zero] at this
      rw [this]; rfl
    rw [this]
    simp [lineW, atW]
  | succ k ih =>
    rw [← Nat.add_assoc, atW, ih (by omega), atW, Int.add_assoc]
    congr 1
    have hb : ∀ i, byt (a ++ 32 :: w) (a.length + 1 + i) = byt w i := fun i => by
      have := byt_append_right (a := a ++ [32]) (b := w) (i := i)
      rw [List.length_append, List.length_singleton, ← e1] at this
      exact this
    have hn : byt w k ≠ 32 := by
      have := isLet_iff.1 (hw k (by omega))
      omega
    unfold stepW
    rw [hb, if_neg hn, if_neg hn]
    congr 1
    unfold gapAt
    by_cases h0 : k = 0
    · subst h0
      have := byt_append_right (a := a) (b := 32 :: w) (i := 0)
      rw [Nat.add_zero] at this
      rw [Nat.add_zero, Nat.add_sub_cancel, this]
      simp [byt_head]
    · have e2 : a.length + 1 + k - 1 = a.length + 1 + (k - 1) := by omega
      rw [e2, hb, hb]
      have : ¬ (a.length + 1 + k = 0) := by omega
      simp [this, h0]
/-- How wide the first n words are as a line. -/
def sumW (f : Fc) (ws : List (List UInt8)) : Nat → Int
  | 0 => 0
  | n + 1 => sumW f ws n + (if n = 0 then 0 else f.space) + lineW f (ws.getD n [])
theorem sumW_take (f : Fc) (ws vs : List (List UInt8)) {n : Nat} (hn : n ≤ ws.length) : sumW f (ws ++ vs) n = sumW f ws n := by
  induction n with
  | zero => rfl
  | succ n ih =>
    rw [sumW, sumW, ih (by omega)]
    congr 2
    simp [List.getD, List.getElem?_append_left (show n < ws.length by omega)]
theorem sumW_join (f : Fc) (ws : List (List UInt8)) (h : ∀ x ∈ ws, LL x) : sumW f ws ws.length = lineW f (joinW ws) := by
  obtain ⟨n, hn⟩ : ∃ n, n = ws.length := ⟨_, rfl⟩
  induction n generalizing ws with
  | zero =>
    have : ws = [] := List.eq_nil_of_length_eq_zero hn.symm
    subst this; rfl
  | succ n ih =>
    have hne : ws ≠ [] := by intro e; subst e; simp at hn
    have e := List.dropLast_concat_getLast hne
    have hd : (ws.dropLast).length = n := by simp; omega
    have ih' := ih ws.dropLast (fun x hx => h x (List.dropLast_subset _ hx)) hd.symm
    generalize ws.dropLast = us at *
    generalize hl : ws.getLast hne = v at *
    subst hd
    rw [← e, List.length_append, List.length_singleton, sumW, sumW_take f us [v] (Nat.le_refl _), ih']
    have hg : (us ++ [v]).getD us.length [] = v := by simp [List.getD]
    rw [hg]
    have hv : LL v := h v (by rw [← e]; simp)
    by_cases h0 : us = []
    · subst h0
      rw [joinW_nil, List.nil_append, joinW_one]
      simp [lineW, atW]
    · rw [joinW_snoc h0, if_neg (by intro e; exact h0 (List.eq_nil_of_length_eq_zero e))]
      have := atW_word (f := f) (a := joinW us) v.length (Nat.le_refl _) hv
      have e3 : (joinW us ++ 32 :: v).length = (joinW us).length + 1 + v.length := by simp; omega
      conv => rhs; unfold lineW
      rw [e3, this]
      rfl
end Go.Proofs.YtnlnjpdnhdmndaaGreatDoor
namespace Go.Proofs.YtnlnjpdnhdmndaaGreatDoor
open Go Go.RowKit
set_option linter.unusedVariables false
set_option linter.unusedSimpArgs false

def prV (p : Pr) : List Value := [.int .u8 p.a, .int .u8 p.b, .int .i8 p.y]
def prVs (ps : List Pr) : List Value := ps.flatMap prV
theorem prVs_length (ps : List Pr) : (prVs ps).length = ps.length * 3 := by
  induction ps with
  | nil => rfl
  | cons p ps ih => simp only [prVs, List.flatMap_cons, List.length_append, List.length_cons] at ih ⊢; rw [ih]; simp [prV]; omega
theorem prVs_append (a b : List Pr) : prVs (a ++ b) = prVs a ++ prVs b := by simp [prVs]
theorem prVs_at {ps : List Pr} {i : Nat} {p : Pr} (h : ps[i]? = some p) : ((prVs ps).drop (i * 3)).take 3 = prV p := by
  induction ps generalizing i with
  | nil => simp at h
  | cons q ps ih =>
    have e : prVs (q :: ps) = prV q ++ prVs ps := by simp [prVs]
    cases i with
    | zero =>
      simp at h; subst h
      rw [e]; simp [prV]
    | succ i =>
      rw [e, Nat.succ_mul, Nat.add_comm]
      have : (prV q ++ prVs ps).drop (3 + i * 3) = (prVs ps).drop (i * 3) := by
        rw [← List.drop_drop]; simp [prV]
      rw [this]
      exact ih (by simpa using h)
/-- The slice at A has the pairs ps. -/
def SlP (w : World) (A : Option Addr) (ps : List Pr) : Prop := ∀ i p, ps[i]? = some p → ∃ a, A = some a ∧ RowV w (a.add (i * 3)) (prV p)
theorem SlP.nil {w : World} {A : Option Addr} : SlP w A [] := fun i p h => by simp at h
theorem SlP.next {w w' : World} {A : Option Addr} {ps : List Pr} (h : SlP w A ps) (hb : Below w.heap.size w w') : SlP w' A ps := by
  intro i p hp
  obtain ⟨a, e, h1⟩ := h i p hp
  exact ⟨a, e, h1.next hb⟩
theorem SlP.drewN {w : World} {A : Option Addr} {ps : List Pr} (h : SlP w A ps) (q : Nat) : SlP (w.drewN q) A ps := h
theorem SlP.get {w : World} {A : Option Addr} {ps : List Pr} (h : SlP w A ps) (i : Nat) (hi : i < ps.length) : ∃ a, A = some a ∧ RowV w (a.add (i * 3)) (prV (rdP ps i)) := h i _ (rdP_at hi)
theorem SlP.of_blk {w : World} {g : Nat} {t : TypeId} {ps : List Pr} {cs : List Value} (h : Blk w g t (prVs ps ++ cs)) : SlP w (some ⟨g, 0, none⟩) ps := by
  intro i p hp
  refine ⟨_, rfl, ?_⟩
  have hi : i < ps.length := (List.getElem?_eq_some_iff.1 hp).1
  have h1 := h.rowV (i * 3) 3
  rw [List.drop_append_of_le_length (by rw [prVs_length]; omega), List.take_append_of_le_length (by rw [List.length_drop, prVs_length]; omega), prVs_at hp] at h1
  rw [add_mid, Nat.zero_add]
  exact h1
theorem pr_cells {w : World} {a : Addr} {p : Pr} (h : RowV w a (prV p)) : w.cell? (a.add 0) = some (.int .u8 p.a) ∧ w.cell? (a.add 1) = some (.int .u8 p.b) ∧ w.cell? (a.add 2) = some (.int .i8 p.y) :=
  ⟨h 0 _ rfl, h 1 _ rfl, h 2 _ rfl⟩

def i8v (n : Int) : Value := .int .i8 n
/-- A face's cells, its pairs at S. -/
def fcV (f : Fc) (S : Value) : List Value := f.wide.map i8v ++ [.int .i8 f.space, .int .i8 f.gap, S]
theorem fcV_length {f : Fc} (h : FcT f) (S : Value) : (fcV f S).length = 29 := by simp [fcV, h.len]
theorem fcV_wide {f : Fc} (h : FcT f) (S : Value) (i : Nat) (hi : i < 26) : (fcV f S)[i]? = some (.int .i8 (rdI f.wide i)) := by
  unfold fcV
  rw [List.getElem?_append_left (by simp [h.len]; exact hi), List.getElem?_map, List.getElem?_eq_getElem (by rw [h.len]; exact hi)]
  simp [rdI, List.getD, List.getElem?_eq_getElem (show i < f.wide.length by rw [h.len]; exact hi), i8v]
theorem fcV_space {f : Fc} (h : FcT f) (S : Value) : (fcV f S)[26]? = some (.int .i8 f.space) := by
  unfold fcV; rw [List.getElem?_append_right (by simp [h.len])]; simp [h.len]
theorem fcV_gap {f : Fc} (h : FcT f) (S : Value) : (fcV f S)[27]? = some (.int .i8 f.gap) := by
  unfold fcV; rw [List.getElem?_append_right (by simp [h.len])]; simp [h.len]
theorem fcV_pairs {f : Fc} (h : FcT f) (S : Value) : (fcV f S)[28]? = some S := by
  unfold fcV; rw [List.getElem?_append_right (by simp [h.len])]; simp [h.len]
theorem fcV_head {f : Fc} (h : FcT f) (S : Value) : ((fcV f S).drop 0).take 26 = f.wide.map i8v := by
  unfold fcV; rw [List.drop_zero, List.take_left' (by simp [h.len])]
theorem one_i8 (xs : List Int) : (xs.map i8v).toArray.all (·.oneCell') = true := by
  rw [Array.all_eq_true_iff_forall_mem]
  intro v hv
  simp only [List.mem_toArray, List.mem_map] at hv
  obtain ⟨n, _, rfl⟩ := hv
  rfl
theorem one_fc (f : Fc) (A : Option Addr) (n c : Nat) : (fcV f (.slice A n c)).toArray.all (·.oneCell') = true := by
  rw [Array.all_eq_true_iff_forall_mem]
  intro v hv
  simp only [List.mem_toArray, fcV, List.mem_append, List.mem_map, List.mem_cons, List.not_mem_nil, or_false] at hv
  rcases hv with ⟨n, _, rfl⟩ | rfl | rfl | rfl <;> rfl
theorem one_pr (p : Pr) : (prV p).toArray.all (·.oneCell') = true := by simp [prV, Value.oneCell']
theorem sz26 : (Tryz.prog.info? 23).map (·.size) = some 26 := by kernel_rfl
theorem szFcI : (Tryz.prog.info? 35).map (·.size) = some 29 := by kernel_rfl
theorem szFcL : (Tryz.prog.info? 26).map (·.size) = some 29 := by kernel_rfl
theorem szPrI : (Tryz.prog.info? 84).map (·.size) = some 3 := by kernel_rfl
theorem szPrL : (Tryz.prog.info? 86).map (·.size) = some 3 := by kernel_rfl
end Go.Proofs.YtnlnjpdnhdmndaaGreatDoor
namespace Go.Proofs.YtnlnjpdnhdmndaaGreatDoor
open Go Go.RowKit
set_option linter.unusedVariables false
set_option linter.unusedSimpArgs false

theorem szFace_any (f : Fc) (A : Option Addr) (n c : Nat) (left : Int) (w : World) (hf : FcT f) (hm : n ≤ maxLen) (hl : 0 ≤ left ∧ left ≤ 1048576) :
    Calls Tryz.prog 4 #[.agg (fcV f (.slice A n c)).toArray, .int .i64 left] w fun e w' => (∃ v : Int, e = .returned (.int .i64 v) ∧ v ≤ left ∧ (0 ≤ v → (n : Int) ≤ left)) ∧ Below w.heap.size w w' := by
  unfold maxLen at hm
  have hk := Blk.new w 26 (fcV f (.slice A n c))
  have hc := hk.cell 28 _ (fcV_pairs hf _)
  have hB := below_one w (.cells (fcV f (.slice A n c)).toArray 26)
  clear hk
  have hp : ∀ w : World, Calls Tryz.prog 17 #[.slice A n c, .int .i64 left] w fun e w' => (∃ v : Int, e = .returned (.int .i64 v) ∧ v ≤ left ∧ (0 ≤ v → (n : Int) ≤ left)) ∧ w = w' := by
    intro w
    by_cases h : left - (n : Int) < 0
    · go_enter Tryz.func17, Tryz.ntmps17
      go_wp2
      go_ret
      exact ⟨⟨-1, rfl, by omega, by omega⟩, rfl⟩
    · go_enter Tryz.func17, Tryz.ntmps17
      go_wp2
      go_ret
      exact ⟨⟨left - n, rfl, by omega, by omega⟩, rfl⟩
  have HP := Lib.hid hp
  clear hp
  go_enter Tryz.func4, Tryz.ntmps4
  go_wp2_with fail
  go_at_call 17
  refine (HP.out _).mono ?_
  rintro e w' ⟨⟨v, rfl, hv1, hv2⟩, rfl⟩
  have HV := Lib.hid hv2
  clear hv2
  by_cases hv : v < 0
  · go_wp2
    go_ret
    exact ⟨⟨-1, rfl, by omega, by omega⟩, hB⟩
  · go_wp2
    go_ret
    exact ⟨⟨v, rfl, by omega, HV.out⟩, hB⟩

set_option maxRecDepth 100000 in
theorem toPair_any (p : Pr) (w : World) :
    Calls Tryz.prog 48 #[.agg (prV p).toArray] w fun e w' => e = .returned (.agg (prV p).toArray) ∧ Below w.heap.size w w' := by
  obtain ⟨a, b, y⟩ := p
  have e : (prV ⟨a, b, y⟩).toArray = #[.int .u8 a, .int .u8 b, .int .i8 y] := rfl
  rw [e]
  go_enter Tryz.func48, Tryz.ntmps48
  go_wp2
  refine bodyPost_ret (v := .agg #[.int .u8 a, .int .u8 b, .int .i8 y]) (by simp [results, Tryz.results48, go_sem]) rfl ⟨rfl, ?_⟩
  repeat (first | exact below_three _ _ _ _ | (refine Below.setCell ?_ (by simp) _))

structure ToI8Rel (r : List Int) (w wr : World) (k : Nat) : Prop where
  arg : Blk wr w.heap.size 23 (r.map i8v)
  res : Blk wr (w.heap.size + 1) 23 (List.replicate 26 (.int .i8 0))
  out : Blk wr (w.heap.size + 1 + 1) 23 (filled (r.map i8v) (.int .i8 0) k)
  below : Below w.heap.size w wr
theorem map_i8_at (r : List Int) (i : Nat) (hi : i < r.length) : (r.map i8v)[i]? = some (.int .i8 (rdI r i)) := by
  simp [List.getElem?_map, List.getElem?_eq_getElem hi, i8v, rdI]

set_option maxRecDepth 100000 in
theorem toI8_any (r : List Int) (w : World) (hr : r.length = 26) :
    Calls Tryz.prog 27 #[.agg (r.map i8v).toArray] w fun e w' => e = .returned (.agg (r.map i8v).toArray) ∧ Below w.heap.size w w' := by
  have hsz : (r.map i8v).toArray.size = 26 := by simp [hr]
  go_enter Tryz.func27, Tryz.ntmps27
  go_wp2
  go_loopw [4] (fun i wr => ∃ k : Nat, k ≤ 26 ∧ i = .int .i64 k ∧ ToI8Rel r w wr k) (fun i _ => 26 - (intOf i).toNat)
  case atStart =>
    refine ⟨0, by omega, rfl, ?_, ?_, ?_, ?_⟩
    · exact ((Blk.new w _ _).alloc _).alloc _
    · exact (Blk.at_new _ _ _ (by simp) _ _ rfl).alloc _
    · rw [filled_zero, List.length_map, hr]
      exact Blk.at_new _ _ _ (by simp) _ _ rfl
    · exact (((Below.refl _ _).alloc (Nat.le_refl _) _).alloc (by simp) _).alloc (by simp; omega) _
  case round =>
    obtain ⟨k, hk, rfl, h⟩ := hrel
    by_cases hlt : k < 26
    · have hc1 := h.arg.cell k _ (map_i8_at r k (by omega))
      have hc3 := h.out.cell k _ (filled_at _ _ k (by simp; omega))
      have hf3 := h.out.free k
      go_wp2
      go_roundw
      case rel =>
        refine ⟨k + 1, by omega, by go_num, h.arg.other _ _ (by simp; omega), h.res.other _ _ (by simp), ?_, h.below.setCell (by simp; omega) _⟩
        have := h.out.set k (.int .i8 (rdI r k))
        rwa [filled_set _ _ _ _ (map_i8_at r k (by omega))] at this
      case measure => simp [intOf]; omega
    · obtain rfl : k = 26 := by omega
      have hout : Blk wr (w.heap.size + 1 + 1) 23 (r.map i8v) := by
        have := h.out
        rwa [show 26 = (r.map i8v).length by simp [hr], filled_all] at this
      go_wp2_with (first
        | (refine wpList_load_row rfl 23 _ rfl _ rfl 23 (r.map i8v).toArray _ _ hout Tryz.underlying23 rfl (by rw [hsz]; exact sz26) ?_)
        | (refine wpList_store_row rfl 23 _ _ rfl _ (r.map i8v).toArray rfl rfl 23 _ h.res (by rw [hsz]; exact sz26) (by rw [hsz]; rfl) (one_i8 r) ?_))
      exact bodyPost_ret (v := .agg (r.map i8v).toArray) (results_cell_row rfl _ _ _ 23 (r.map i8v).toArray _ _ rfl (h.res.setRow_same (r.map i8v)) Tryz.underlying23 rfl (by rw [hsz]; exact sz26)) rfl ⟨rfl, below_setRow h.below _ _ (by omega)⟩
end Go.Proofs.YtnlnjpdnhdmndaaGreatDoor
namespace Go.Proofs.YtnlnjpdnhdmndaaGreatDoor
open Go Go.RowKit
set_option linter.unusedVariables false
set_option linter.unusedSimpArgs false

theorem infoPr : (Tryz.prog.info? 84).map (fun i => (i.zero, i.size, i.bytes)) = some (some (.agg #[.int .u8 0, .int .u8 0, .int .i8 0]), 3, 3) := by kernel_rfl

structure ToPrRel (ps : List Pr) (vs : List Value) (w wr : World) (j : Nat) : Prop where
  blk : Blk wr w.heap.size 84 (prVs (ps.take j) ++ vs.drop (j * 3))
  below : Below w.heap.size w wr
theorem toPr_set {ps : List Pr} {vs : List Value} {j : Nat} (hj : j < ps.length) (hv : ps.length * 3 ≤ vs.length) :
    (prVs (ps.take j) ++ vs.drop (j * 3)).take (j * 3) ++ (prV (rdP ps j)).toArray.toList ++ (prVs (ps.take j) ++ vs.drop (j * 3)).drop (j * 3 + (prV (rdP ps j)).toArray.toList.length) = prVs (ps.take (j + 1)) ++ vs.drop ((j + 1) * 3) := by
  have hl : (prVs (ps.take j)).length = j * 3 := by rw [prVs_length, List.length_take, Nat.min_eq_left (by omega)]
  rw [List.take_append_of_le_length (by omega), List.take_of_length_le (by omega)]
  rw [List.take_add_one, rdP_at hj, prVs_append]
  have e1 : (prV (rdP ps j)).toArray.toList = prVs [rdP ps j] := by simp [prVs]
  have e2 : (prVs [rdP ps j]).length = 3 := by rw [prVs_length]; rfl
  show _ = prVs (ps.take j) ++ prVs [rdP ps j] ++ vs.drop ((j + 1) * 3)
  rw [e1, e2, List.drop_append, hl, List.drop_of_length_le (by omega), List.nil_append, List.drop_drop]
  congr 2
  omega

set_option maxHeartbeats 1000000 in
set_option maxRecDepth 100000 in
theorem toPairS_any (A : Option Addr) (c : Nat) (ps : List Pr) (n : Nat) (w : World) (hn : ps.length = n) (hm : n ≤ 1048576) (h : SlP w A ps) :
    Calls Tryz.prog 28 #[.slice A n c] w fun e w' => ∃ g cs, e = .returned (.slice (some ⟨g, 0, none⟩) n n) ∧ w.heap.size ≤ g ∧ Blk w' g 84 (prVs ps ++ cs) ∧ Below w.heap.size w w' := by
  have HN := Lib.hid hn
  have H := Lib.hid h
  clear hn h
  obtain ⟨i, hi, hz, hsz, hby⟩ := info_parts infoPr
  go_enter Tryz.func28, Tryz.ntmps28
  go_wp2_with (refine wpList_make_full _ rfl (.tmp 6) (.tmp 6) _ rfl w.heap.size 84 i (.agg #[.int .u8 0, .int .u8 0, .int .i8 0]) 3 Tryz.underlying33 hi hz hsz .i64 .i64 (n : Int) (n : Int) n rfl rfl rfl rfl (by rw [hby]; omega) (by unfold maxLen; omega) (Nat.le_refl _) ?_; intro w1 ho hg)
  obtain ⟨hvl, cs, hb⟩ := ownB ho
  have hB : Below w.heap.size w w1 := ⟨hg.os, hg.tape, hg.output, hg.size, fun k hk => hg.block k hk (by simp)⟩
  generalize hv : (madeCells (Value.agg #[.int .u8 0, .int .u8 0, .int .i8 0]).cells (n * 3)).toList ++ cs = vs at *
  have hvn : n * 3 ≤ vs.length := by rw [← hv, List.length_append]; omega
  clear hv ho hvl hg
  go_loopw [4] (fun i wr => ∃ j : Nat, j ≤ n ∧ i = .int .i64 j ∧ ToPrRel ps vs w wr j) (fun i _ => n - (intOf i).toNat)
  case atStart => exact ⟨0, by omega, rfl, by simpa [prVs] using hb, hB⟩
  case round =>
    clear hb hB
    obtain ⟨j, hj, rfl, hr⟩ := hrel
    by_cases hlt : j < n
    · obtain ⟨a, rfl, hrow⟩ := (H.out.next hr.below).get j (by rw [HN.out]; omega)
      have hbk := hr.blk
      have hbel := hr.below
      have hl := prVs_length (ps.take j)
      rw [List.length_take, HN.out, Nat.min_eq_left (by omega)] at hl
      have HS := Lib.hid (toPr_set (ps := ps) (vs := vs) (j := j) (by rw [HN.out]; exact hlt) (by rw [HN.out]; exact hvn))
      have HLL := Lib.hid (show j * 3 + 3 ≤ (prVs (ps.take j) ++ vs.drop (j * 3)).length by rw [List.length_append, hl, List.length_drop]; omega)
      clear hr hl
      go_wp2_with (first
        | (refine wpList_loadV rfl 86 (.tmp 18) rfl (a.add (j * 3)) rfl (prV (rdP ps j)) _ hrow Tryz.underlying86 rfl szPrL ?_; clear hrow)
        | (go_at_call 48; refine (toPair_any _ _).mono ?_; rintro e w2 ⟨rfl, hb2⟩; have hbk := hbk.next hb2; have hbel := below_step hbel hb2; clear hb2)
        | (refine wpList_store_mid rfl 84 (.tmp 21) (.tmp 20) rfl w.heap.size (j * 3) (prV (rdP ps j)).toArray rfl rfl (hbk.there (j * 3) 3 HLL.out) szPrI (one_pr _) ?_))
      go_roundw
      case rel =>
        refine ⟨j + 1, by omega, by go_num, ?_, below_setCells _ _ _ hbel (Nat.le_refl _)⟩
        rw [← HS.out]
        exact Blk.setCells _ _ _ _ hbk HLL.out
      case measure => simp [intOf]; omega
    · obtain rfl : j = n := by omega
      have hbk := hr.blk
      have hbel := hr.below
      rw [List.take_of_length_le (by rw [HN.out]; omega)] at hbk
      clear hr
      go_wp2
      go_ret
      exact ⟨_, _, rfl, Nat.le_refl _, hbk, hbel⟩
end Go.Proofs.YtnlnjpdnhdmndaaGreatDoor
namespace Go.Proofs.YtnlnjpdnhdmndaaGreatDoor
open Go Go.RowKit
set_option linter.unusedVariables false
set_option linter.unusedSimpArgs false

def zFc : List Value := List.replicate 28 (.int .i8 0) ++ [.slice none 0 0]
theorem fc_build1 {f : Fc} (h : FcT f) : zFc.take 0 ++ f.wide.map i8v ++ zFc.drop (0 + (f.wide.map i8v).length) = f.wide.map i8v ++ [Value.int .i8 0, Value.int .i8 0, Value.slice none 0 0] := by
  have : (f.wide.map i8v).length = 26 := by simp [h.len]
  rw [this]
  simp [zFc]
theorem fc_build2 {f : Fc} (h : FcT f) (S : Value) : (((f.wide.map i8v ++ [Value.int .i8 0, Value.int .i8 0, Value.slice none 0 0]).set 26 (.int .i8 f.space)).set 27 (.int .i8 f.gap)).set 28 S = fcV f S := by
  have h1 : (f.wide.map i8v).length = 26 := by simp [h.len]
  unfold fcV
  rw [List.set_append_right _ _ (by omega), List.set_append_right _ _ (by omega), List.set_append_right _ _ (by omega), h1]
  rfl
def ToFcOut (w : World) (f : Fc) (n : Nat) (e : Ending) (w' : World) : Prop :=
  ∃ g cs, e = .returned (.agg (fcV f (.slice (some ⟨g, 0, none⟩) n n)).toArray) ∧ w.heap.size ≤ g ∧ Blk w' g 84 (prVs f.pairs ++ cs) ∧ Below w.heap.size w w'

set_option maxHeartbeats 2000000 in
set_option maxRecDepth 100000 in
theorem toFace_any (f : Fc) (A : Option Addr) (n c : Nat) (w : World) (hf : FcT f) (hn : f.pairs.length = n) (hm : n ≤ 1048576) (h : SlP w A f.pairs) :
    Calls Tryz.prog 7 #[.agg (fcV f (.slice A n c)).toArray] w (ToFcOut w f n) := by
  have k0 : Blk (((w.alloc (.cells (fcV f (.slice A n c)).toArray 26)).alloc (.cells zFc.toArray 35)).alloc (.cells zFc.toArray 35)) w.heap.size 26 (fcV f (.slice A n c)) := ((Blk.new w _ _).alloc _).alloc _
  have k1 : Blk (((w.alloc (.cells (fcV f (.slice A n c)).toArray 26)).alloc (.cells zFc.toArray 35)).alloc (.cells zFc.toArray 35)) (w.heap.size + 1) 35 zFc := (Blk.at_new _ _ _ (by simp) _ _ rfl).alloc _
  have k2 : Blk (((w.alloc (.cells (fcV f (.slice A n c)).toArray 26)).alloc (.cells zFc.toArray 35)).alloc (.cells zFc.toArray 35)) (w.heap.size + 1 + 1) 35 zFc := Blk.at_new _ _ _ (by simp) _ _ rfl
  have hB := below_three w (.cells (fcV f (.slice A n c)).toArray 26) (.cells zFc.toArray 35) (.cells zFc.toArray 35)
  have H := Lib.hid h
  have HN := Lib.hid hn
  clear h hn
  go_enter Tryz.func7, Tryz.ntmps7
  go_wp2_with (first
    | (refine wpList_load_mid rfl 23 (.tmp 4) rfl w.heap.size 0 rfl (f.wide.map i8v) _ (by have := k0.range 0 26; rwa [fcV_head hf] at this) Tryz.underlying23 rfl (by rw [List.length_map, hf.len]; exact sz26) ?_))
  go_at_call 27
  refine (toI8_any f.wide _ hf.len).mono ?_
  rintro e w1 ⟨rfl, hb⟩
  have k0 := k0.next hb
  have k1 := k1.next hb
  have k2 := k2.next hb
  have hB := below_step hB hb
  clear hb
  go_wp2_with (refine wpList_store_blk rfl 23 (.tmp 7) (.tmp 6) rfl (w.heap.size + 1 + 1) 0 rfl (f.wide.map i8v) rfl (by rw [List.length_map, hf.len]; exact sz26) (one_i8 _) 35 zFc k2 (by rw [List.length_map, hf.len]; decide) _ (fc_build1 hf) ?_; intro w2 hs; have k0 := hs.other _ _ _ (by omega) k0; have k1 := hs.other _ _ _ (by omega) k1; have k2 := hs.blk; have hB := hs.below _ _ hB (by omega); clear hs; have c26 := k0.cell 26 _ (fcV_space hf _); have c27 := k0.cell 27 _ (fcV_gap hf _); have c28 := k0.cell 28 _ (fcV_pairs hf _); have d26 := k2.cell 26 (.int .i8 0) (by rw [List.getElem?_append_right (by simp [hf.len])]; simp [hf.len]); have d27 := k2.cell 27 (.int .i8 0) (by rw [List.getElem?_append_right (by simp [hf.len])]; simp [hf.len]); have f26 := k2.free 26; have f27 := k2.free 27)
  have k2 := (k2.set 26 (.int .i8 f.space)).set 27 (.int .i8 f.gap)
  have k1 := (k1.other ⟨w.heap.size + 1 + 1, 26, none⟩ (.int .i8 f.space) (by simp)).other ⟨w.heap.size + 1 + 1, 27, none⟩ (.int .i8 f.gap) (by simp)
  have hB := (hB.setCell (by simp; omega : w.heap.size ≤ (⟨w.heap.size + 1 + 1, 26, none⟩ : Addr).block) (.int .i8 f.space)).setCell (by simp; omega : w.heap.size ≤ (⟨w.heap.size + 1 + 1, 27, none⟩ : Addr).block) (.int .i8 f.gap)
  go_at_call 28
  refine (toPairS_any A c f.pairs n _ HN.out hm (H.out.next hB)).mono ?_
  rintro e w3 ⟨g, cs, rfl, hg, hgb, hb⟩
  have hne : g ≠ w.heap.size + 1 + 1 := by have := k2.lt; omega
  have hne1 : g ≠ w.heap.size + 1 := by have := k1.lt; omega
  have hgw : w.heap.size ≤ g := by have := k2.lt; omega
  have k2 := k2.next hb
  have k1 := k1.next hb
  have hB := below_step hB hb
  clear hb c26 c27 c28 d26 d27 f26 f27 k0
  have d28 := k2.cell 28 (.slice none 0 0) (by rw [List.getElem?_set, List.getElem?_set, List.getElem?_append_right (by simp [hf.len])]; simp [hf.len])
  have f28 := k2.free 28
  have k3 := k2.set 28 (.slice (some ⟨g, 0, none⟩) n n)
  rw [fc_build2 hf] at k3
  have k1 := k1.other ⟨w.heap.size + 1 + 1, 28, none⟩ (.slice (some ⟨g, 0, none⟩) n n) (by simp)
  have hgb := hgb.other ⟨w.heap.size + 1 + 1, 28, none⟩ (.slice (some ⟨g, 0, none⟩) n n) hne
  have hB := hB.setCell (by simp; omega : w.heap.size ≤ (⟨w.heap.size + 1 + 1, 28, none⟩ : Addr).block) (.slice (some ⟨g, 0, none⟩) n n)
  have hsz : (fcV f (.slice (some ⟨g, 0, none⟩) n n)).toArray.size = 29 := by simp [fcV_length hf]
  clear k2
  go_wp2_with (first
    | (refine wpList_load_row rfl 35 (.tmp 3) rfl _ rfl 35 (fcV f (.slice (some ⟨g, 0, none⟩) n n)).toArray _ _ k3 Tryz.underlying35 rfl (by rw [hsz]; exact szFcI) ?_)
    | (refine wpList_store_row rfl 35 (.tmp 2) (.tmp 18) rfl _ (fcV f (.slice (some ⟨g, 0, none⟩) n n)).toArray rfl rfl 35 _ k1 (by rw [hsz]; exact szFcI) (by rw [hsz]; rfl) (one_fc _ _ _ _) ?_))
  exact bodyPost_ret (v := .agg (fcV f (.slice (some ⟨g, 0, none⟩) n n)).toArray) (results_cell_row rfl _ _ _ 35 (fcV f (.slice (some ⟨g, 0, none⟩) n n)).toArray _ _ rfl (k1.setRow_same (fcV f (.slice (some ⟨g, 0, none⟩) n n))) Tryz.underlying35 rfl (by rw [hsz]; exact szFcI)) rfl ⟨g, cs, rfl, hgw, hgb.setRow_other _ hne1, below_setRow hB _ _ (by omega)⟩
end Go.Proofs.YtnlnjpdnhdmndaaGreatDoor
namespace Go.Proofs.YtnlnjpdnhdmndaaGreatDoor
open Go Go.RowKit
set_option linter.unusedVariables false
set_option linter.unusedSimpArgs false

structure EqI8Rel (r : List Int) (w wr : World) : Prop where
  one : Blk wr w.heap.size 23 (r.map i8v)
  two : Blk wr (w.heap.size + 1) 23 (r.map i8v)
  below : Below w.heap.size w wr
set_option maxRecDepth 100000 in
theorem eqI8_same (r : List Int) (w : World) (hr : r.length = 26) :
    Calls Tryz.prog 36 #[.agg (r.map i8v).toArray, .agg (r.map i8v).toArray] w fun e w' => e = .returned (.bool true) ∧ Below w.heap.size w w' := by
  go_enter Tryz.func36, Tryz.ntmps36
  go_wp2
  go_loopw [5] (fun i wr => ∃ k : Nat, k ≤ 26 ∧ i = .int .i64 k ∧ EqI8Rel r w wr) (fun i _ => 26 - (intOf i).toNat)
  case atStart =>
    refine ⟨0, by omega, rfl, ?_, ?_, ?_⟩
    · exact (Blk.new w _ _).alloc _
    · exact Blk.at_new _ _ _ (by simp) _ _ rfl
    · exact ((Below.refl _ _).alloc (Nat.le_refl _) _).alloc (by simp) _
  case round =>
    obtain ⟨k, hk, rfl, h⟩ := hrel
    by_cases hlt : k < 26
    · have hc1 := h.one.cell k _ (map_i8_at r k (by omega))
      have hc2 := h.two.cell k _ (map_i8_at r k (by omega))
      have he : (rdI r k != rdI r k) = false := by simp
      go_wp2
      go_quiet (fail)
      go_wp2
      go_roundw
      case rel => exact ⟨k + 1, by omega, by go_num, h.one.drewN _, h.two.drewN _, below_drewN h.below _⟩
      case measure => simp [intOf]; omega
    · obtain rfl : k = 26 := by omega
      go_wp2
      go_ret
      exact ⟨rfl, h.below⟩

set_option maxRecDepth 100000 in
theorem eqPair_same (p : Pr) (w : World) :
    Calls Tryz.prog 57 #[.agg (prV p).toArray, .agg (prV p).toArray] w fun e w' => e = .returned (.bool true) ∧ Below w.heap.size w w' := by
  obtain ⟨a, b, y⟩ := p
  have e : (prV ⟨a, b, y⟩).toArray = #[.int .u8 a, .int .u8 b, .int .i8 y] := rfl
  rw [e]
  have h1 : (a != a) = false := by simp
  have h2 : (b != b) = false := by simp
  have h3 : (y != y) = false := by simp
  go_enter Tryz.func57, Tryz.ntmps57
  go_wp2
  go_ret
  exact ⟨rfl, below_two _ _ _⟩

set_option maxHeartbeats 1000000 in
set_option maxRecDepth 100000 in
theorem eqPairS_same (A B : Option Addr) (c d : Nat) (ps : List Pr) (n : Nat) (w : World) (hn : ps.length = n) (hm : n ≤ 1048576) (h1 : SlP w A ps) (h2 : SlP w B ps) :
    Calls Tryz.prog 37 #[.slice A n c, .slice B n d] w fun e w' => e = .returned (.bool true) ∧ Below w.heap.size w w' := by
  have HN := Lib.hid hn
  have H1 := Lib.hid h1
  have H2 := Lib.hid h2
  have h0 : ((n : Int) != (n : Int)) = false := by simp
  clear hn h1 h2
  go_enter Tryz.func37, Tryz.ntmps37
  go_wp2
  go_loopw [5] (fun i wr => ∃ k : Nat, k ≤ n ∧ i = .int .i64 k ∧ Below w.heap.size w wr) (fun i _ => n - (intOf i).toNat)
  case atStart => exact ⟨0, by omega, rfl, Below.refl _ _⟩
  case round =>
    obtain ⟨k, hk, rfl, hbel⟩ := hrel
    by_cases hlt : k < n
    · obtain ⟨a, rfl, hr1⟩ := (H1.out.next hbel).get k (by rw [HN.out]; omega)
      obtain ⟨b, rfl, hr2⟩ := (H2.out.next hbel).get k (by rw [HN.out]; omega)
      go_wp2
      refine region_below (wr.heap.size) (by kernel_rfl) (by kernel_rfl) ?_
      refine below_run (by kernel_rfl) (.slice (some a) n c) (fun w' hw' => by kernel_rfl) ?_
      refine below_run (by kernel_rfl) (.int .i64 k) (fun w' hw' => by kernel_rfl) ?_
      refine below_run (by kernel_rfl) (.pointer (some (Addr.add a (k * 3)))) (fun w' hw' => exec_index 33 (.tmp 17) (.tmp 18) rfl a n c (by kernel_rfl) .i64 k (by kernel_rfl) hlt 84 Tryz.underlying33 3 szPrI) ?_
      refine below_run (by kernel_rfl) (.agg (prV (rdP ps k)).toArray) (fun w' hw' => exec_loadV 84 (.tmp 19) rfl (a.add (k * 3)) (by kernel_rfl) (prV (rdP ps k)) _ (hr1.next hw') Tryz.underlying84 rfl szPrI) ?_
      refine below_run (by kernel_rfl) (.slice (some b) n d) (fun w' hw' => by kernel_rfl) ?_
      refine below_run (by kernel_rfl) (.int .i64 k) (fun w' hw' => by kernel_rfl) ?_
      refine below_run (by kernel_rfl) (.pointer (some (Addr.add b (k * 3)))) (fun w' hw' => exec_index 33 (.tmp 21) (.tmp 22) rfl b n d (by kernel_rfl) .i64 k (by kernel_rfl) hlt 84 Tryz.underlying33 3 szPrI) ?_
      refine below_run (by kernel_rfl) (.agg (prV (rdP ps k)).toArray) (fun w' hw' => exec_loadV 84 (.tmp 23) rfl (b.add (k * 3)) (by kernel_rfl) (prV (rdP ps k)) _ (hr2.next hw') Tryz.underlying84 rfl szPrI) ?_
      refine below_call (by kernel_rfl) 57 #[.agg (prV (rdP ps k)).toArray, .agg (prV (rdP ps k)).toArray] (.bool true) (fun w' => by kernel_rfl) (fun w' hw' => (eqPair_same (rdP ps k) w').mono fun e w1 ⟨he, hb1⟩ => ⟨he, below_step hw' hb1⟩) ?_
      refine below_run (by kernel_rfl) (.bool false) (fun w' hw' => by kernel_rfl) ?_
      refine wpQuiet_nil ?_
      intro W1 hW1
      simp only [Act.put, List.setIfInBounds_toArray, List.set_cons_succ, List.set_cons_zero]
      have hbel := below_step hbel hW1
      clear hr1 hr2 hW1
      go_wp2
      go_roundw
      case rel => exact ⟨k + 1, by omega, by go_num, hbel⟩
      case measure => simp [intOf]; omega
    · obtain rfl : k = n := by omega
      go_wp2
      go_ret
      exact ⟨rfl, hbel⟩

set_option maxHeartbeats 1000000 in
set_option maxRecDepth 100000 in
theorem eqFace_same (f : Fc) (A B : Option Addr) (c d : Nat) (n : Nat) (w : World) (hf : FcT f) (hn : f.pairs.length = n) (hm : n ≤ 1048576) (h1 : SlP w A f.pairs) (h2 : SlP w B f.pairs) :
    Calls Tryz.prog 11 #[.agg (fcV f (.slice A n c)).toArray, .agg (fcV f (.slice B n d)).toArray] w fun e w' => e = .returned (.bool true) ∧ Below w.heap.size w w' := by
  have k0 : Blk ((w.alloc (.cells (fcV f (.slice A n c)).toArray 35)).alloc (.cells (fcV f (.slice B n d)).toArray 35)) w.heap.size 35 (fcV f (.slice A n c)) := (Blk.new w _ _).alloc _
  have k1 : Blk ((w.alloc (.cells (fcV f (.slice A n c)).toArray 35)).alloc (.cells (fcV f (.slice B n d)).toArray 35)) (w.heap.size + 1) 35 (fcV f (.slice B n d)) := Blk.at_new _ _ _ (by simp) _ _ rfl
  have hB := below_two w (.cells (fcV f (.slice A n c)).toArray 35) (.cells (fcV f (.slice B n d)).toArray 35)
  have H1 := Lib.hid h1
  have H2 := Lib.hid h2
  have HN := Lib.hid hn
  clear h1 h2 hn
  have e1 : (f.space != f.space) = false := by simp
  have e2 : (f.gap != f.gap) = false := by simp
  go_enter Tryz.func11, Tryz.ntmps11
  go_wp2_with (first
    | (refine wpList_load_mid rfl 23 (.tmp 5) rfl w.heap.size 0 rfl (f.wide.map i8v) _ (by have := k0.range 0 26; rwa [fcV_head hf] at this) Tryz.underlying23 rfl (by rw [List.length_map, hf.len]; exact sz26) ?_)
    | (refine wpList_load_mid rfl 23 (.tmp 7) rfl (w.heap.size + 1) 0 rfl (f.wide.map i8v) _ (by have := k1.range 0 26; rwa [fcV_head hf] at this) Tryz.underlying23 rfl (by rw [List.length_map, hf.len]; exact sz26) ?_))
  go_at_call 36
  refine (eqI8_same f.wide _ hf.len).mono ?_
  rintro e w1 ⟨rfl, hb⟩
  have k0 := k0.next hb
  have k1 := k1.next hb
  have hB := below_step hB hb
  have c26 := k0.cell 26 _ (fcV_space hf _)
  have c27 := k0.cell 27 _ (fcV_gap hf _)
  have c28 := k0.cell 28 _ (fcV_pairs hf _)
  have d26 := k1.cell 26 _ (fcV_space hf _)
  have d27 := k1.cell 27 _ (fcV_gap hf _)
  have d28 := k1.cell 28 _ (fcV_pairs hf _)
  clear hb k0 k1
  go_wp2_with fail
  go_at_call 37
  refine (eqPairS_same A B c d f.pairs n _ HN.out hm (H1.out.next hB) (H2.out.next hB)).mono ?_
  rintro e w2 ⟨rfl, hb⟩
  have hB := below_step hB hb
  clear hb c26 c27 c28 d26 d27 d28
  go_wp2
  go_ret
  exact ⟨rfl, hB⟩
end Go.Proofs.YtnlnjpdnhdmndaaGreatDoor
namespace Go.Proofs.YtnlnjpdnhdmndaaGreatDoor
open Go Go.RowKit
set_option linter.unusedVariables false
set_option linter.unusedSimpArgs false

theorem Blk.ex {w : World} {b : Nat} {t : TypeId} {vs : List Value} (h : Blk w b t vs) (i : Nat) (hi : i < vs.length) : ∃ v, w.cell? ⟨b, i, none⟩ = some v := ⟨_, h.cell i _ (List.getElem?_eq_getElem hi)⟩
structure MkRel (lo hi g L : Nat) (w wr : World) : Prop where
  blk : ∃ us, us.length = L ∧ Blk wr g 84 us
  wth : Within lo hi w wr
theorem Within.set {lo hi g : Nat} {w w' : World} (h : Within lo hi w w') (h1 : lo ≤ g) (h2 : g < hi) (i : Nat) (v : Value) : Within lo hi w (w'.setCell ⟨g, i, none⟩ v) :=
  ⟨h.os, h.tape, h.output, by simpa using h.size, fun k hk he => by rw [heap_setCell_other w' ⟨g, i, none⟩ k v (fun e => by simp at e; omega)]; exact h.block k hk he⟩

set_option maxHeartbeats 1000000 in
set_option maxRecDepth 100000 in
theorem markPairS_own (lo hi g c n : Nat) (us : List Value) (w : World) (hl : n * 3 ≤ us.length) (hm : n ≤ 1048576) (h1 : lo ≤ g) (h2 : g < hi) (hb : Blk w g 84 us) :
    Calls Tryz.prog 39 #[.slice (some ⟨g, 0, none⟩) n c, .int .i64 1] w fun e w' => (∃ k : Int, e = .returned (.int .i64 k) ∧ 0 ≤ k ∧ k ≤ 4000000) ∧ Within lo hi w w' := by
  have h0 : MkRel lo hi g us.length w w := ⟨⟨us, rfl, hb⟩, Within.refl _ _ _⟩
  generalize hL : us.length = L at *
  clear hb hL
  go_enter Tryz.func39, Tryz.ntmps39
  go_wp2
  go_loopw [1, 5] (fun q i wr => ∃ (j : Nat) (k : Int), j ≤ n ∧ i = .int .i64 j ∧ q = .int .i64 k ∧ 0 ≤ k ∧ k ≤ 1 + 3 * (j : Int) ∧ MkRel lo hi g L w wr) (fun _ i _ => n - (intOf i).toNat)
  case atStart => exact ⟨0, 1, by omega, rfl, rfl, by omega, by omega, h0⟩
  case round =>
    clear h0
    obtain ⟨j, k, hj, rfl, rfl, hk0, hk1, h⟩ := hrel
    by_cases hlt : j < n
    · obtain ⟨us, hul, hblk⟩ := h.blk
      have hw := h.wth
      obtain ⟨v0, hc0⟩ := hblk.ex (j * 3) (by omega)
      obtain ⟨v1, hc1⟩ := hblk.ex (j * 3 + 1) (by omega)
      obtain ⟨v2, hc2⟩ := hblk.ex (j * 3 + 2) (by omega)
      have hf0 := hblk.free (j * 3)
      have hf1 := hblk.free (j * 3 + 1)
      have hf2 := hblk.free (j * 3 + 2)
      have HB := Lib.hid hblk
      have HL := Lib.hid hul
      clear h hblk hul
      go_wp2
      go_roundw
      case rel =>
        refine ⟨j + 1, k + 1 + 1 + 1, by omega, by go_num, rfl, by omega, by push_cast; omega, ⟨_, ?_, ((HB.out.set _ _).set _ _).set _ _⟩, ((hw.set h1 h2 _ _).set h1 h2 _ _).set h1 h2 _ _⟩
        simp [HL.out]
      case measure => simp [intOf]; omega
    · obtain rfl : j = n := by omega
      have hw := h.wth
      clear h
      go_wp2
      go_ret
      exact ⟨⟨k, rfl, hk0, by omega⟩, hw⟩

set_option maxHeartbeats 1000000 in
set_option maxRecDepth 100000 in
theorem markFace_own (lo hi g c n : Nat) (f : Fc) (cs : List Value) (w : World) (hf : FcT f) (hn : f.pairs.length = n) (hm : n ≤ 1048576) (h1 : lo ≤ g) (h2 : g < hi) (h3 : hi ≤ w.heap.size) (hb : Blk w g 84 (prVs f.pairs ++ cs)) :
    Calls Tryz.prog 13 #[.agg (fcV f (.slice (some ⟨g, 0, none⟩) n c)).toArray, .int .i64 1] w fun e w' => (∃ k : Int, e = .returned (.int .i64 k) ∧ 0 ≤ k ∧ k ≤ 4000000) ∧ Within lo hi w w' := by
  have k0 : Blk (w.alloc (.cells (fcV f (.slice (some ⟨g, 0, none⟩) n c)).toArray 35)) w.heap.size 35 (fcV f (.slice (some ⟨g, 0, none⟩) n c)) := Blk.new w _ _
  have hw0 : Within lo hi w (w.alloc (.cells (fcV f (.slice (some ⟨g, 0, none⟩) n c)).toArray 35)) := ⟨rfl, rfl, rfl, by simp, fun k hk _ => Below.heap_alloc w _ k hk⟩
  have c28 := k0.cell 28 _ (fcV_pairs hf _)
  have hb' := hb.alloc (.cells (fcV f (.slice (some ⟨g, 0, none⟩) n c)).toArray 35)
  have hl : n * 3 ≤ (prVs f.pairs ++ cs).length := by rw [List.length_append, prVs_length, hn]; omega
  have HL := Lib.hid hl
  clear k0 hb hl hn
  go_enter Tryz.func13, Tryz.ntmps13
  go_wp2_with fail
  go_at_call 39
  refine (markPairS_own lo hi g c n _ _ HL.out hm h1 h2 hb').mono ?_
  rintro e w1 ⟨⟨k, rfl, hk⟩, hw⟩
  clear c28
  go_wp2
  go_ret
  exact ⟨⟨k, rfl, hk⟩, hw0.trans hw⟩
end Go.Proofs.YtnlnjpdnhdmndaaGreatDoor
