/- Letters that are kept, plain. No walk here. Contracts: letters that are kept, by the reference. A map of numbers to bytes, as a function; indices that are accepted. Contract: whether a letter is kept, by the program's closure. Contract: the letters that are kept with a shift, by the program. Contracts: KeptAt, by the reference, by the program. -/
import Derived.Test.YtdhngjjfoddnkaaGreatDoorShL
import Derived.Test.YtdhngjjfoddnkaaGreatDoorShA
import Derived.Test.YtdhngjjfoddnkaaGreatDoorShM
import Derived.Test.YtdhngjjfoddnkaaGreatDoorGA
import Derived.BigRegion
import Derived.Test.YtdhngjjfoddnkaaGreatDoorShD
import Derived.Test.YtdhngjjfoddnkaaGreatDoorAppN
import Derived.Maps.OwnSet
import Derived.Maps.Views
import Derived.Carry
import Derived.Test.YtdhngjjfoddnkaaGreatDoorShY
import Derived.Test.YtdhngjjfoddnkaaGreatDoorGF
import Derived.Test.YtdhngjjfoddnkaaGreatDoorGJ
namespace Go.Proofs.YtdhngjjfoddnkaaGreatDoor
open Go Go.RowKit
set_option linter.unusedVariables false
set_option linter.unusedSimpArgs false

/-! ### Places, word by word and in one line -/
theorem plW_take {f : Fc} {a b : List UInt8} {k : Nat} (hk : k ≤ a.length) : plW f (a ++ b) k = plW f a k := by
  induction k with
  | zero => rfl
  | succ k ih =>
    rw [plW, plW, ih (by omega), atW_take (by omega), byt_append_left (by omega : k < a.length)]
    have : gapAt f (a ++ b) k = gapAt f a k := by
      unfold gapAt
      rw [byt_append_left (by omega : k < a.length)]
      by_cases h0 : k = 0
      · simp [h0]
      · rw [byt_append_left (by omega : k - 1 < a.length)]
    rw [this]
theorem byt_word (a w : List UInt8) (i : Nat) : byt (a ++ 32 :: w) (a.length + 1 + i) = byt w i := by
  have e1 : a ++ 32 :: w = (a ++ [32]) ++ w := by simp
  have := byt_append_right (a := a ++ [32]) (b := w) (i := i)
  rw [List.length_append, List.length_singleton, ← e1] at this
  exact this
theorem byt_blank (a w : List UInt8) : byt (a ++ 32 :: w) a.length = 32 := by
  have := byt_append_right (a := a) (b := 32 :: w) (i := 0)
  rw [Nat.add_zero] at this
  rw [this]; rfl
theorem gapAt_word {f : Fc} (a w : List UInt8) (k : Nat) : gapAt f (a ++ 32 :: w) (a.length + 1 + k) = gapAt f w k := by
  unfold gapAt
  by_cases h0 : k = 0
  · subst h0
    rw [Nat.add_zero, Nat.add_sub_cancel, byt_blank]
    simp
  · have e2 : a.length + 1 + k - 1 = a.length + 1 + (k - 1) := by omega
    rw [e2, byt_word, byt_word]
    have : ¬ (a.length + 1 + k = 0) := by omega
    simp [this, h0]
theorem let_ne {b : Int} (h : isLet b = true) : b ≠ 32 := by
  have := isLet_iff.1 h
  omega
theorem plW_word {f : Fc} {a w : List UInt8} (k : Nat) (hk : k ≤ w.length) (hw : LL w) : plW f (a ++ 32 :: w) (a.length + 1 + k) = plW f a a.length ++ plcW f w (lineW f a + f.space) k := by
  induction k with
  | zero =>
    show plW f (a ++ 32 :: w) (a.length + 1) = _
    rw [plW, if_pos (byt_blank a w), plW_take (Nat.le_refl _)]
    simp [plcW]
  | succ k ih =>
    rw [← Nat.add_assoc, plW, byt_word, if_neg (let_ne (hw k (by omega))), ih (by omega), plcW_succ, atW_word k (by omega) hw, gapAt_word, List.append_assoc, Int.add_assoc]
theorem plW_alone {f : Fc} {w : List UInt8} (k : Nat) (hk : k ≤ w.length) (hw : LL w) : plW f w k = plcW f w 0 k := by
  induction k with
  | zero => rfl
  | succ k ih => rw [plW, if_neg (let_ne (hw k (by omega))), ih (by omega), plcW_succ, Int.zero_add]
theorem plcA_take (f : Fc) (ws vs : List (List UInt8)) {n : Nat} (hn : n ≤ ws.length) : plcA f (ws ++ vs) n = plcA f ws n := by
  induction n with
  | zero => rfl
  | succ n ih =>
    have e : rdW (ws ++ vs) n = rdW ws n := by unfold rdW; simp [List.getD, List.getElem?_append_left (show n < ws.length by omega)]
    have e2 : baseW f (ws ++ vs) n = baseW f ws n := by unfold baseW; rw [sumW_take f ws vs (by omega)]
    rw [plcA, plcA, ih (by omega), e, e2]
theorem plcA_join (f : Fc) (ws : List (List UInt8)) (h : ∀ x ∈ ws, LL x) : plcA f ws ws.length = plW f (joinW ws) (joinW ws).length := by
  obtain ⟨n, hn⟩ : ∃ n, n = ws.length := ⟨_, rfl⟩
  induction n generalizing ws with
  | zero =>
    have : ws = [] := List.eq_nil_of_length_eq_zero hn.symm
    subst this; rfl
  | succ n ih =>
    have hne : ws ≠ [] := by intro e; subst e; simp at hn
    have e := List.dropLast_concat_getLast hne
    have hd : (ws.dropLast).length = n := by simp; omega
    have hall : ∀ x ∈ ws.dropLast, LL x := fun x hx => h x (List.dropLast_subset _ hx)
    have ih' := ih ws.dropLast hall hd.symm
    have hv : LL (ws.getLast hne) := h _ (List.getLast_mem hne)
    generalize ws.dropLast = us at *
    generalize ws.getLast hne = v at *
    subst hd
    have hg : rdW (us ++ [v]) us.length = v := by simp [rdW, List.getD]
    rw [← e, List.length_append, List.length_singleton, plcA, plcA_take f us [v] (Nat.le_refl _), ih', hg]
    unfold baseW
    by_cases h0 : us = []
    · subst h0
      rw [joinW_nil, List.nil_append, joinW_one, plW_alone _ (Nat.le_refl _) hv]
      simp [plW]
    · rw [joinW_snoc h0, if_neg (by intro e; exact h0 (List.eq_nil_of_length_eq_zero e)), sumW_take f us [v] (Nat.le_refl _), sumW_join f us hall]
      have e3 : (joinW us ++ 32 :: v).length = (joinW us).length + 1 + v.length := by simp; omega
      rw [e3, plW_word v.length (Nat.le_refl _) hv]
theorem plcA_words (f : Fc) {l : List UInt8} (h : vText l = true) : plcA f (words l) (words l).length = plW f l l.length := by
  rw [plcA_join f _ (fun x hx => (words_isW h x hx).1), joinW_words]
theorem lets_snoc (a : List UInt8) (b : UInt8) : lets (a ++ [b]) = if b = 32 then lets a else lets a ++ [b] := by
  rw [lets_append]
  by_cases hb : b = 32
  · subst hb; rw [if_pos rfl]; show lets a ++ [] = _; simp
  · rw [if_neg hb]
    unfold lets
    simp [hb]
theorem plW_lets (f : Fc) (l : List UInt8) (k : Nat) (hk : k ≤ l.length) : (plW f l k).length = (lets (l.take k)).length := by
  induction k with
  | zero => rfl
  | succ k ih =>
    have hk' : k < l.length := by omega
    rw [plW, List.take_succ_eq_append_getElem hk', lets_snoc, byt_get hk']
    by_cases hb : l[k] = 32
    · rw [if_pos (by rw [hb]; rfl), if_pos hb, ih (by omega)]
    · have : ¬ ((l[k]).toNat : Int) = 32 := fun e => hb (u8_eq (by rw [e]; rfl))
      rw [if_neg this, if_neg hb, List.length_append, List.length_append, ih (by omega)]; rfl
theorem plW_len (f : Fc) (l : List UInt8) : (plW f l l.length).length = (lets l).length := by
  have := plW_lets f l l.length (Nat.le_refl _)
  rwa [List.take_length] at this
theorem atW_mono {f : Fc} (hf : FcV f) {l : List UInt8} (hl : LS l) {j k : Nat} (hjk : j ≤ k) (hk : k ≤ l.length) : atW f l j ≤ atW f l k := by
  induction k with
  | zero => obtain rfl : j = 0 := by omega
            exact Int.le_refl _
  | succ k ih =>
    by_cases e : j = k + 1
    · subst e; exact Int.le_refl _
    · have h1 := ih (by omega) (by omega)
      have h2 := stepW_range hf hl (show k < l.length by omega)
      rw [atW]; omega
/-- Places are within the line, and rise strictly. -/
theorem plW_rise {f : Fc} (hf : FcV f) {l : List UInt8} (hl : LS l) : ∀ k, k ≤ l.length → (∀ i, i < (plW f l k).length → 0 ≤ rdI (plW f l k) i ∧ rdI (plW f l k) i < atW f l k) ∧ ∀ i j, i < j → j < (plW f l k).length → rdI (plW f l k) i < rdI (plW f l k) j
  | 0, _ => ⟨fun i hi => absurd hi (Nat.not_lt_zero _), fun i j _ hj => absurd hj (Nat.not_lt_zero _)⟩
  | k + 1, hk => by
    obtain ⟨h1, h2⟩ := plW_rise hf hl k (by omega)
    have hs := stepW_range hf hl (show k < l.length by omega)
    have ha := atW_range hf hl (show k ≤ l.length by omega)
    by_cases hb : byt l k = 32
    · rw [plW, if_pos hb, atW]
      exact ⟨fun i hi => by have := h1 i hi; omega, h2⟩
    · have hll : isLet (byt l k) = true := by
        rcases hl k (by omega) with e | e
        · exact absurd e hb
        · exact e
      have hw := letW_range hf hll
      have hst : stepW f l k = gapAt f l k + letW f (byt l k) := by unfold stepW; rw [if_neg hb]
      rw [plW, if_neg hb, atW]
      refine ⟨fun i hi => ?_, fun i j hij hj => ?_⟩
      · simp only [List.length_append, List.length_singleton] at hi
        by_cases hi2 : i < (plW f l k).length
        · rw [rdI_left hi2]; have := h1 i hi2; omega
        · obtain rfl : i = (plW f l k).length := by omega
          rw [rdI_snoc]; omega
      · simp only [List.length_append, List.length_singleton] at hj
        by_cases hj2 : j < (plW f l k).length
        · rw [rdI_left hj2, rdI_left (by omega)]; exact h2 i j hij hj2
        · obtain rfl : j = (plW f l k).length := by omega
          rw [rdI_snoc, rdI_left hij]; have := h1 i hij; omega
theorem plW_bound {f : Fc} (hf : FcV f) {l : List UInt8} (hl : LS l) (h60 : l.length ≤ 60) {i : Nat} (hi : i < (plW f l l.length).length) : 0 ≤ rdI (plW f l l.length) i ∧ rdI (plW f l l.length) i < 3600 := by
  have h := (plW_rise hf hl l.length (Nat.le_refl _)).1 i hi
  have ha := atW_range hf hl (Nat.le_refl l.length)
  omega

/-! ### Letters that are kept -/
/-- Whether one of the first i letters of the old line lies where letter k of the new one is to lie, and is the same. -/
def kbN (x y : List UInt8) (a b : List Int) (s : Int) (k : Nat) : Nat → Bool
  | 0 => false
  | i + 1 => kbN x y a b s k i || (byt x i == byt y k && rdI a i == rdI b k + s)
def kptN (x y : List UInt8) (a b : List Int) (s : Int) : Nat → List Int
  | 0 => []
  | k + 1 => if kbN x y a b s k x.length = true then kptN x y a b s k ++ [(k : Int)] else kptN x y a b s k
def kptR (f : Fc) (o w : List UInt8) (s : Int) : List Int := kptN (lets o) (lets w) (plW f o o.length) (plW f w w.length) s (lets w).length
theorem kptN_yes {x y : List UInt8} {a b : List Int} {s : Int} {k : Nat} (h : kbN x y a b s k x.length = true) : kptN x y a b s (k + 1) = kptN x y a b s k ++ [(k : Int)] := by rw [kptN, if_pos h]
theorem kptN_no {x y : List UInt8} {a b : List Int} {s : Int} {k : Nat} (h : kbN x y a b s k x.length = false) : kptN x y a b s (k + 1) = kptN x y a b s k := by rw [kptN, if_neg (by rw [h]; simp)]
theorem kptN_length (x y : List UInt8) (a b : List Int) (s : Int) : ∀ k, (kptN x y a b s k).length ≤ k
  | 0 => Nat.le_refl _
  | k + 1 => by
    have := kptN_length x y a b s k
    rw [kptN]
    split
    · rw [List.length_append, List.length_singleton]; omega
    · omega
/-- What the map holds at a place: the letter that lies there, 0 if there is none. -/
def lkN (x : List UInt8) (a : List Int) (q : Int) : Nat → Int
  | 0 => 0
  | i + 1 => if rdI a i = q then byt x i else lkN x a q i
theorem kbN_none {x y : List UInt8} {a b : List Int} {s : Int} {k : Nat} : ∀ m, (∀ j, j < m → rdI a j ≠ rdI b k + s) → kbN x y a b s k m = false
  | 0, _ => rfl
  | m + 1, h => by
    rw [kbN, kbN_none m (fun j hj => h j (by omega)), Bool.false_or, Bool.and_eq_false_iff]
    exact .inr (by simpa using h m (by omega))
theorem lkN_kb {x y : List UInt8} {a b : List Int} {s : Int} {k : Nat} (hy : byt y k ≠ 0) : ∀ m, (∀ i j, i < j → j < m → rdI a i < rdI a j) → (lkN x a (rdI b k + s) m == byt y k) = kbN x y a b s k m
  | 0, _ => by
    rw [lkN, kbN]
    simpa using fun e => hy e.symm
  | m + 1, h => by
    have ih := lkN_kb (x := x) (a := a) (b := b) (s := s) hy m (fun i j h1 h2 => h i j h1 (by omega))
    rw [lkN, kbN]
    by_cases e : rdI a m = rdI b k + s
    · rw [if_pos e, kbN_none m (fun j hj => by have := h j m hj (by omega); omega), e]
      simp
    · rw [if_neg e, ih]
      have : (rdI a m == rdI b k + s) = false := by simpa using e
      rw [this]; simp
/-- The code of a face and two lines. -/
def kepC (f : Fc) (o w : List UInt8) (fine : Bool) : Int := if validF f && vText o && vText w then (if fine then 0 else 2) else 1
def keptOut (f : Fc) (o w : List UInt8) (s : Int) : List Int × Int := if kepC f o w (inB (-400) 400 s) = 0 then (kptR f o w s, 0) else ([], kepC f o w (inB (-400) 400 s))
theorem kepC_zero {f : Fc} {o w : List UInt8} {b : Bool} (h : kepC f o w b = 0) : validF f = true ∧ vText o = true ∧ vText w = true ∧ b = true := by
  unfold kepC at h
  split at h
  · rename_i hh
    simp only [Bool.and_eq_true] at hh
    split at h
    · exact ⟨hh.1.1, hh.1.2, hh.2, by assumption⟩
    · exact absurd h (by decide)
  · exact absurd h (by decide)
theorem kepC_ok {f : Fc} {o w : List UInt8} {b : Bool} (h : validF f = true) (k : vText o = true) (j : vText w = true) : kepC f o w b = if b then 0 else 2 := by unfold kepC; rw [h, k, j]; rfl
theorem kepC_f {f : Fc} {o w : List UInt8} {b : Bool} (h : validF f = false) : kepC f o w b = 1 := by unfold kepC; rw [h]; rfl
theorem kepC_o {f : Fc} {o w : List UInt8} {b : Bool} (h : vText o = false) : kepC f o w b = 1 := by unfold kepC; rw [h]; simp
theorem kepC_w {f : Fc} {o w : List UInt8} {b : Bool} (h : vText w = false) : kepC f o w b = 1 := by unfold kepC; rw [h]; simp
theorem vText_len60 {l : List UInt8} (h : vText l = true) : l.length ≤ 60 := (vText_iff.1 h).2
theorem keptOut_len (f : Fc) (o w : List UInt8) (s : Int) : (keptOut f o w s).1.length ≤ 1048576 := by
  unfold keptOut
  split
  · rename_i hz
    have ht := (kepC_zero hz).2.2.1
    have h1 := lets_length w
    have h2 := kptN_length (lets o) (lets w) (plW f o o.length) (plW f w w.length) s (lets w).length
    have h3 := vText_len60 ht
    show (kptR f o w s).length ≤ _
    unfold kptR
    omega
  · exact Nat.zero_le _
end Go.Proofs.YtdhngjjfoddnkaaGreatDoor
namespace Go.Proofs.YtdhngjjfoddnkaaGreatDoor
open Go Go.RowKit
set_option linter.unusedVariables false
set_option linter.unusedSimpArgs false

/-- A row of a call's own, in a block from lo up to hi. -/
def OwnX {α : Type} (t : TypeId) (enc : α → Value) (w : World) (lo hi : Nat) (A : Option Addr) (xs : List α) : Prop := 0 < xs.length → ∃ g cs, A = some ⟨g, 0, none⟩ ∧ lo ≤ g ∧ g < hi ∧ Blk w g t (xs.map enc ++ cs)
section
variable {α : Type} {t : TypeId} {enc : α → Value} {w w' : World} {lo hi : Nat} {A : Option Addr} {xs : List α}
theorem OwnX.sl (h : OwnX t enc w lo hi A xs) : SlE enc w A xs := by
  intro i x hx
  have hi : i < xs.length := (List.getElem?_eq_some_iff.1 hx).1
  obtain ⟨g, cs, rfl, _, _, hb⟩ := h (by omega)
  exact SlE.of_row hb.head i x hx
theorem OwnX.next (h : OwnX t enc w lo hi A xs) (hb : Below w.heap.size w w') : OwnX t enc w' lo hi A xs := fun hn => by
  obtain ⟨g, cs, e, h1, h2, h3⟩ := h hn
  exact ⟨g, cs, e, h1, h2, h3.next hb⟩
theorem OwnX.grown {row : Option Nat} (h : OwnX t enc w lo hi A xs) (hg : w.grownBy w' row) (hr : ∀ b, row = some b → b < lo ∨ hi ≤ b) : OwnX t enc w' lo hi A xs := fun hn => by
  obtain ⟨g, cs, e, h1, h2, h3⟩ := h hn
  exact ⟨g, cs, e, h1, h2, h3.grown hg (fun e => by have := hr g e.symm; omega)⟩
theorem OwnX.of_own {v : Value} {n : Nat} (h : w.ownsRow lo t 1 v n (xs.map enc)) : ∃ A c, v = .slice A xs.length c ∧ xs.length = n ∧ OwnX t enc w lo w.heap.size A xs := by
  by_cases hn : 0 < n
  · obtain ⟨g, c, cs, rfl, hg, hb, hl⟩ := own_blk h hn
    rw [List.length_map] at hl
    exact ⟨_, c, by rw [hl], hl, fun _ => ⟨g, cs, rfl, hg, hb.lt, hb⟩⟩
  · obtain ⟨A, c, e, hl, _, _⟩ := SlE_own h
    exact ⟨A, c, e, hl, fun h => by omega⟩
end
/-- A row that grows beside all that is older than W1; its block was g0 when W1 stood. -/
structure GrO (W0 W1 wr : World) (e : TypeId) (g0 : Nat) (v : Value) (xs : List Value) : Prop where
  own : wr.ownsRow W0.heap.size e 1 v xs.length xs
  grow : W1.grownBy wr (some g0)
  loc : v.ownBlock = some g0 ∨ ∃ g, W1.heap.size ≤ g ∧ v.ownBlock = some g
  below : Below W0.heap.size W0 wr
theorem GrO.keep {α : Type} {W0 W1 wr : World} {e t : TypeId} {enc : α → Value} {g0 lo hi : Nat} {v : Value} {xs : List Value} {A : Option Addr} {ys : List α} (h : GrO W0 W1 wr e g0 v xs) (s : OwnX t enc W1 lo hi A ys) (hlo : g0 < lo) : SlE enc wr A ys :=
  (s.grown h.grow (fun b e => by cases e; exact .inl hlo)).sl
theorem GrO.put {W0 W1 wr w' : World} {e : TypeId} {g0 : Nat} {v v' : Value} {xs : List Value} {x : Value} (h : GrO W0 W1 wr e g0 v xs) (ho : w'.ownsRow W0.heap.size e 1 v' (xs.length + 1) (xs ++ [x])) (hg : wr.grownBy w' v.ownBlock) (hw : v'.ownBlock = v.ownBlock ∨ ∃ g, wr.heap.size ≤ g ∧ v'.ownBlock = some g) : GrO W0 W1 w' e g0 v' (xs ++ [x]) := by
  have hgr : W1.grownBy w' (some g0) :=
    ⟨hg.os.trans h.grow.os, hg.tape.trans h.grow.tape, hg.output.trans h.grow.output, Nat.le_trans h.grow.size hg.size, fun i hi hne => (hg.block i (Nat.lt_of_lt_of_le hi h.grow.size) (fun e => by
      rcases h.loc with e2 | ⟨g, hg2, e2⟩
      · exact hne (e.trans e2)
      · rw [e2] at e; cases e; omega)).trans (h.grow.block i hi hne)⟩
  refine ⟨by rw [List.length_append]; exact ho, hgr, ?_, below_own h.below h.own hg (Nat.le_refl _) h.below.size⟩
  rcases hw with e2 | ⟨g, hg2, e2⟩
  · rcases h.loc with e3 | ⟨g, hg3, e3⟩
    · exact .inl (e2.trans e3)
    · exact .inr ⟨g, hg3, e2.trans e3⟩
  · exact .inr ⟨g, Nat.le_trans h.grow.size hg2, e2⟩
theorem GrO.next {W0 W1 wr w' : World} {e : TypeId} {g0 : Nat} {v : Value} {xs : List Value} (h : GrO W0 W1 wr e g0 v xs) (hb : Below wr.heap.size wr w') : GrO W0 W1 w' e g0 v xs :=
  ⟨own_next h.own hb, ⟨hb.os.trans h.grow.os, hb.tape.trans h.grow.tape, hb.output.trans h.grow.output, Nat.le_trans h.grow.size hb.size, fun i hi hne => (hb.block i (Nat.lt_of_lt_of_le hi h.grow.size)).trans (h.grow.block i hi hne)⟩, h.loc, below_step h.below hb⟩

/-- A letter's value. -/
def bv (b : UInt8) : Value := .int .u8 (b.toNat : Int)
theorem elB : El Tryz.prog 22 5 (.int .u8 0) 1 1 := ⟨Tryz.underlying22, by kernel_rfl, rfl, by decide⟩
theorem RowE.atB {w : World} {a : Addr} {r : List UInt8} (h : RowE bv w a r) (i : Nat) (hi : i < r.length) : w.cell? (a.add i) = some (.int .u8 (byt r i)) := by
  have := h i (r[i]) (List.getElem?_eq_getElem hi)
  rw [byt_get hi]; exact this
def LtOut (w : World) (ls : List UInt8) (e : Ending) (w' : World) : Prop :=
  ∃ A c, e = .returned (.slice A ls.length c) ∧ Below w.heap.size w w' ∧ OwnX 5 bv w' w.heap.size w'.heap.size A ls
structure LtRel (l : List UInt8) (w wr : World) (v : Value) (k : Nat) : Prop where
  own : wr.ownsRow w.heap.size 5 1 v (lets (l.take k)).length ((lets (l.take k)).map bv)
  below : Below w.heap.size w wr
theorem letsT_sp {l : List UInt8} {k : Nat} (hk : k < l.length) (h : byt l k = 32) : lets (l.take (k + 1)) = lets (l.take k) := by
  rw [List.take_succ_eq_append_getElem hk, lets_snoc, if_pos]
  rw [byt_get hk] at h
  exact u8_eq (by rw [h]; rfl)
theorem letsT_let {l : List UInt8} {k : Nat} (hk : k < l.length) (h : byt l k ≠ 32) : lets (l.take (k + 1)) = lets (l.take k) ++ [l[k]] := by
  rw [List.take_succ_eq_append_getElem hk, lets_snoc, if_neg]
  intro e
  rw [byt_get hk, e] at h
  exact h rfl

end Go.Proofs.YtdhngjjfoddnkaaGreatDoor
namespace Go.Proofs.YtdhngjjfoddnkaaGreatDoor
open Go Go.RowKit Go.Shelf Go.Maps
set_option linter.unusedVariables false
set_option linter.unusedSimpArgs false

theorem law64 : Keyed Tryz.prog 2 := int_keyed Tryz.underlying2
theorem zeroU8 (w : World) : (zeroValue 5).run Tryz.prog w = .ok (.int .u8 0) w := by kernel_rfl
theorem wf64 {n : Int} (h : -9223372036854775808 ≤ n ∧ n ≤ 9223372036854775807) : (Lit.int .i64 n).wf = true := by
  have e1 : IntKind.min .i64 = -9223372036854775808 := by decide
  have e2 : IntKind.max .i64 = 9223372036854775807 := by decide
  show (decide (IntKind.min .i64 ≤ n) && decide (n ≤ IntKind.max .i64)) = true
  rw [e1, e2, decide_eq_true h.1, decide_eq_true h.2]; rfl
theorem wf8 {n : Int} (h : 0 ≤ n ∧ n ≤ 255) : (Lit.int .u8 n).wf = true := by
  have e1 : IntKind.min .u8 = 0 := by decide
  have e2 : IntKind.max .u8 = 255 := by decide
  show (decide (IntKind.min .u8 ≤ n) && decide (n ≤ IntKind.max .u8)) = true
  rw [e1, e2, decide_eq_true h.1, decide_eq_true h.2]; rfl
/-- Block b is a map of at most n entries; at q it reads g q. -/
def MapAt (w : World) (b n : Nat) (g : Int → Int) : Prop :=
  ∃ D : DataW Nat, w.ownsMap Tryz.prog 2 (plainElem Tryz.prog 5) b n D ∧ ∀ q : Int, D.atKey (.int .i64 q) (.lit (.int .u8 0)) = .lit (.int .u8 (g q))
theorem MapAt.made (w : World) : MapAt (w.alloc (.map #[] 0)) w.heap.size 0 (fun _ => 0) :=
  ⟨_, World.ownsMap_made w _ _ _, fun q => rfl⟩
theorem MapAt.grown {w w' : World} {b n : Nat} {g : Int → Int} {row : Option Nat} (h : MapAt w b n g) (hg : w.grownBy w' row) (hne : some b ≠ row) : MapAt w' b n g := by
  obtain ⟨D, h1, h2⟩ := h
  exact ⟨D, h1.kept hg hne, h2⟩
theorem grown_none {w w' : World} (h : Below w.heap.size w w') (row : Option Nat) : w.grownBy w' row := ⟨h.os, h.tape, h.output, h.size, fun i hi _ => h.block i hi⟩
theorem MapAt.next {w w' : World} {b n : Nat} {g : Int → Int} (h : MapAt w b n g) (hb : Below w.heap.size w w') : MapAt w' b n g := h.grown (grown_none hb none) (by simp)
theorem MapAt.lt {w : World} {b n : Nat} {g : Int → Int} (h : MapAt w b n g) : b < w.heap.size := by
  obtain ⟨D, h1, h2⟩ := h
  exact h1.lt
section
variable {P : Program} {a : Act}
theorem exec_mapUpdate {o : Oper} (t : TypeId) (m x v : Operand) (ho : o.op = .mapUpdate t m x v) (mv kv vv : Value) (hm : a.eval m = mv) (hx : a.eval x = kv) (hv : a.eval v = vv) (w w' : World) (hrun : (Instr.mapUpdate t mv kv vv).run P w = .ok () w') :
    (execOp a.eval o).run P w = .ok .skip w' := by
  unfold execOp
  simp [ho, hm, hx, hv, hrun, Result.andThen]
theorem exec_lookup {o : Oper} (t : TypeId) (m x : Operand) (ho : o.op = .lookup t m x false) (mv kv c : Value) (hm : a.eval m = mv) (hx : a.eval x = kv) (w : World) (hrun : (Instr.lookup t mv kv false).run P w = .ok c w) :
    (execOp a.eval o).run P w = .ok (.value c) w := by
  unfold execOp
  simp [ho, hm, hx, hrun, Result.andThen]
end

/-! ### Indices -/
/-- What is asked of a closure over the first n indices: it answers p, and leaves what lay in w. -/
def PredN (g : Nat) (lb : Array Value) (n : Nat) (p : Nat → Bool) (w : World) : Prop :=
  ∀ (W : World) (i : Nat), i < n → Below w.heap.size w W → Calls Tryz.prog g (#[.int .i64 i] ++ lb) W fun e w' => e = .returned (.bool (p i)) ∧ Below W.heap.size W w'
def idxN (p : Nat → Bool) : Nat → List Int
  | 0 => []
  | k + 1 => if p k = true then idxN p k ++ [(k : Int)] else idxN p k
theorem idxN_yes {p : Nat → Bool} {k : Nat} (h : p k = true) : idxN p (k + 1) = idxN p k ++ [(k : Int)] := by rw [idxN, if_pos h]
theorem idxN_no {p : Nat → Bool} {k : Nat} (h : p k = false) : idxN p (k + 1) = idxN p k := by rw [idxN, if_neg (by rw [h]; simp)]
theorem idxN_length (p : Nat → Bool) : ∀ k, (idxN p k).length ≤ k
  | 0 => Nat.le_refl _
  | k + 1 => by
    have := idxN_length p k
    rw [idxN]
    split
    · rw [List.length_append, List.length_singleton]; omega
    · omega
theorem idxN_congr {p q : Nat → Bool} : ∀ k, (∀ i, i < k → p i = q i) → idxN p k = idxN q k
  | 0, _ => rfl
  | k + 1, h => by rw [idxN, idxN, idxN_congr k (fun i hi => h i (by omega)), h k (by omega)]
theorem idxN_kept (x y : List UInt8) (a b : List Int) (s : Int) : ∀ k, idxN (fun i => kbN x y a b s i x.length) k = kptN x y a b s k
  | 0 => rfl
  | k + 1 => by rw [idxN, kptN, idxN_kept x y a b s k]

end Go.Proofs.YtdhngjjfoddnkaaGreatDoor
namespace Go.Proofs.YtdhngjjfoddnkaaGreatDoor
open Go Go.RowKit Go.Shelf
set_option linter.unusedVariables false
set_option linter.unusedSimpArgs false

/-- What the closure of 'kept' has captured: a map, a row, a number, a text. -/
structure KpW (W : World) (bS bD bM bV bo m : Nat) (g : Int → Int) (A : Option Addr) (c : Nat) (q : List Int) (d : Int) (s : ByteArray) : Prop where
  map : MapAt W bM m g
  var : W.cell? ⟨bV, 0, none⟩ = some (.map (some bM))
  own : W.cell? ⟨bo, 0, none⟩ = some (.slice A q.length c)
  row : SlE i64 W A q
  sh : W.cell? ⟨bD, 0, none⟩ = some (.int .i64 d)
  str : W.cell? ⟨bS, 0, none⟩ = some (.string s)
  mx : MaxW W
  lt : bS < W.heap.size ∧ bD < W.heap.size ∧ bV < W.heap.size ∧ bo < W.heap.size
theorem KpW.next {W W' : World} {bS bD bM bV bo m : Nat} {g : Int → Int} {A : Option Addr} {c : Nat} {q : List Int} {d : Int} {s : ByteArray} (h : KpW W bS bD bM bV bo m g A c q d s) (hb : Below W.heap.size W W') : KpW W' bS bD bM bV bo m g A c q d s := by
  obtain ⟨h1, h2, h3, h4⟩ := h.lt
  have h5 := hb.size
  exact ⟨h.map.next hb, by rw [hb.cell h3]; exact h.var, by rw [hb.cell h4]; exact h.own, h.row.next hb, by rw [hb.cell h2]; exact h.sh, by rw [hb.cell h1]; exact h.str, h.mx.next hb, by omega⟩

end Go.Proofs.YtdhngjjfoddnkaaGreatDoor
namespace Go.Proofs.YtdhngjjfoddnkaaGreatDoor
open Go Go.RowKit Go.Shelf
set_option linter.unusedVariables false
set_option linter.unusedSimpArgs false

theorem kptR_look {f : Fc} (hV : FcV f) {o s : List UInt8} (ho : vText o = true) (hs : vText s = true) (d : Int) :
    idxN (fun i => lkN (lets o) (plW f o o.length) (rdI (plW f s s.length) i + d) (plW f o o.length).length == byt (lets s) i) (plW f s s.length).length = kptR f o s d := by
  unfold kptR
  rw [plW_len f s, ← idxN_kept]
  refine idxN_congr _ fun i hi => ?_
  have hl := isLet_iff.1 (lets_ll (vText_ls hs) i hi)
  rw [plW_len f o]
  exact lkN_kb (by omega) _ (fun a b h1 h2 => (plW_rise hV (vText_ls ho) _ (Nat.le_refl _)).2 a b h1 (by rw [plW_len]; exact h2))
theorem below_grownK {B bq : Nat} {w0 w w' : World} (hb : Below B w0 w) (h : w.grownBy w' (some bq)) (hq : B ≤ bq) (hB : B ≤ w.heap.size) : Below B w0 w' :=
  hb.trans ⟨h.os, h.tape, h.output, by obtain ⟨_, _, _, hs, _⟩ := h; omega, fun k hk => h.block k (by omega) (by intro e; injection e with e; omega)⟩
theorem grown_cell {w w' : World} {row : Option Nat} {a : Addr} {v : Value} (hg : w.grownBy w' row) (h : w.cell? a = some v) (hlt : a.block < w.heap.size) (hne : some a.block ≠ row) : w'.cell? a = some v := by
  have hb := hg.block a.block hlt hne
  rw [← h]
  simp [World.cell?, hb]
theorem lkN_succ (x : List UInt8) (a : List Int) (k : Nat) : (fun q => if rdI a k = q then byt x k else lkN x a q k) = fun q => lkN x a q (k + 1) := rfl
theorem byt_u8 (l : List UInt8) (i : Nat) : 0 ≤ byt l i ∧ byt l i ≤ 255 := by
  unfold byt
  have := (l.getD i 0).toNat_lt
  omega

end Go.Proofs.YtdhngjjfoddnkaaGreatDoor
namespace Go.Proofs.YtdhngjjfoddnkaaGreatDoor
open Go Go.RowKit
set_option linter.unusedVariables false
set_option linter.unusedSimpArgs false

theorem inB_400 {d : Int} (h : inB (-400) 400 d = true) : -400 ≤ d ∧ d ≤ 400 := inB_iff.1 h
theorem kepC_true {f : Fc} {o w : List UInt8} (h : ¬ kepC f o w true = 0) (b : Bool) : kepC f o w b = kepC f o w true := by
  unfold kepC at h ⊢
  split
  · rename_i hh; rw [if_pos hh] at h; simp at h
  · rfl
end Go.Proofs.YtdhngjjfoddnkaaGreatDoor
