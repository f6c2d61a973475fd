/- Letters that are kept, plain. No walk here. Contracts: letters that are kept, by the reference. Contract: the letters that are kept with a shift, by the reference. A map of numbers to bytes, as a function; indices that are accepted. Contract: whether a letter is kept, by the program's closure. Contract: the letters that are kept with a shift, by the program. Contracts: KeptAt, by the reference, by the program. -/
import Derived.Test.YtpindajpdkpfjaaGreatDoorShL
import Derived.Test.YtpindajpdkpfjaaGreatDoorShA
import Derived.Test.YtpindajpdkpfjaaGreatDoorShM
import Derived.Test.YtpindajpdkpfjaaGreatDoorGA
import Derived.BigRegion
import Derived.Test.YtpindajpdkpfjaaGreatDoorShD
import Derived.Test.YtpindajpdkpfjaaGreatDoorAppN
import Derived.Maps.OwnSet
import Derived.Maps.Views
import Derived.Carry
import Derived.Test.YtpindajpdkpfjaaGreatDoorShY
import Derived.Test.YtpindajpdkpfjaaGreatDoorGF
import Derived.Test.YtpindajpdkpfjaaGreatDoorGJ
namespace Go.Proofs.YtpindajpdkpfjaaGreatDoor
open Go Go.RowKit
set_option linter.unusedVariables false
set_option linter.unusedSimpArgs false

/-! ### Places, word by word and in one line -/
theorem plW_take {f : Fc} {a b : List UInt8} {k : Nat} (hk : k ≤ a.length) : plW f (a ++ b) k = plW f a k := by
  induction k with
  | zero => rfl
  | succ k ih =>
    rw [plW, plW, ih (by omega), atW_take (by omega), byt_append_left (by omega : k < a.length)]
    have : gapAt f (a ++ b) k = gapAt f a k := by
      unfold gapAt
      rw [byt_append_left (by omega : k < a.length)]
      by_cases h0 : k = 0
      · simp [h0]
      · rw [byt_append_left (by omega : k - 1 < a.length)]
    rw [this]
theorem byt_word (a w : List UInt8) (i : Nat) : byt (a ++ 32 :: w) (a.length + 1 + i) = byt w i := by
  have e1 : a ++ 32 :: w = (a ++ [32]) ++ w := by simp
  have := byt_append_right (a := a ++ [32]) (b := w) (i := i)
  rw [List.length_append, List.length_singleton, ← e1] at this
  exact this
theorem byt_blank (a w : List UInt8) : byt (a ++ 32 :: w) a.length = 32 := by
  have := byt_append_right (a := a) (b := 32 :: w) (i := 0)
  rw [Nat.add_zero] at this
  rw [this]; rfl
theorem gapAt_word {f : Fc} (a w : List UInt8) (k : Nat) : gapAt f (a ++ 32 :: w) (a.length + 1 + k) = gapAt f w k := by
  unfold gapAt
  by_cases h0 : k = 0
  · subst h0
    rw [Nat.add_zero, Nat.add_sub_cancel, byt_blank]
    simp
  · have e2 : a.length + 1 + k - 1 = a.length + 1 + (k - 1) := by omega
    rw [e2, byt_word, byt_word]
    have : ¬ (a.length + 1 + k = 0) := by omega
    simp [this, h0]
theorem let_ne {b : Int} (h : isLet b = true) : b ≠ 32 := by
  have := isLet_iff.1 h
  omega
theorem plW_word {f : Fc} {a w : List UInt8} (k : Nat) (hk : k ≤ w.length) (hw : LL w) : plW f (a ++ 32 :: w) (a.length + 1 + k) = plW f a a.length ++ plcW f w (lineW f a + f.space) k := by
  induction k with
  | zero =>
    show plW f (a ++ 32 :: w) (a.length + 1) = _
    rw [plW, if_pos (byt_blank a w), plW_take (Nat.le_refl _)]
    simp [plcW]
  | succ k ih =>
    rw [← Nat.add_assoc, plW, byt_word, if_neg (let_ne (hw k (by omega))), ih (by omega), plcW_succ, atW_word k (by omega) hw, gapAt_word, List.append_assoc, Int.add_assoc]
theorem plW_alone {f : Fc} {w : List UInt8} (k : Nat) (hk : k ≤ w.length) (hw : LL w) : plW f w k = plcW f w 0 k := by
  induction k with
  | zero => rfl
  | succ k ih => rw [plW, if_neg (let_ne (hw k (by omega))), ih (by omega), plcW_succ, Int.zero_add]
theorem plcA_take (f : Fc) (ws vs : List (List UInt8)) {n : Nat} (hn : n ≤ ws.length) : plcA f (ws ++ vs) n = plcA f ws n := by
  induction n with
  | zero => rfl
  | succ n ih =>
    have e : rdW (ws ++ vs) n = rdW ws n := by unfold rdW; simp [List.getD, List.getElem?_append_left (show n < ws.length by omega)]
    have e2 : baseW f (ws ++ vs) n = baseW f ws n := by unfold baseW; rw [sumW_take f ws vs (by omega)]
    rw [plcA, plcA, ih (by omega), e, e2]
theorem plcA_join (f : Fc) (ws : List (List UInt8)) (h : ∀ x ∈ ws, LL x) : plcA f ws ws.length = plW f (joinW ws) (joinW ws).length := by
  obtain ⟨n, hn⟩ : ∃ n, n = ws.length := ⟨_, rfl⟩
  induction n generalizing ws with
  | zero =>
    have : ws = [] := List.eq_nil_of_length_eq_zero hn.symm
    subst this; rfl
  | succ n ih =>
    have hne : ws ≠ [] := by intro e; subst e; simp at hn
    have e := List.dropLast_concat_getLast hne
    have hd : (ws.dropLast).length = n := by simp; omega
    have hall : ∀ x ∈ ws.dropLast, LL x := fun x hx => h x (List.dropLast_subset _ hx)
    have ih' := ih ws.dropLast hall hd.symm
    have hv : LL (ws.getLast hne) := h _ (List.getLast_mem hne)
    generalize ws.dropLast = us at *
    generalize ws.getLast hne = v at *
    subst hd
    have hg : rdW (us ++ [v]) us.length = v := by simp [rdW, List.getD]
    rw [← e, List.length_append, List.length_singleton, plcA, plcA_take f us [v] (Nat.le_refl _), ih', hg]
    unfold baseW
    by_cases h0 : us = []
    · subst h0
      rw [joinW_nil, List.nil_append, joinW_one, plW_alone _ (Nat.le_refl _) hv]
      simp [plW]
    · rw [joinW_snoc h0, if_neg (by intro e; exact h0 (List.eq_nil_of_length_eq_zero e)), sumW_take f us [v] (Nat.le_refl _), sumW_join f us hall]
      have e3 : (joinW us ++ 32 :: v).length = (joinW us).length + 1 + v.length := by simp; omega
      rw [e3, plW_word v.length (Nat.le_refl _) hv]
theorem plcA_words (f : Fc) {l : List UInt8} (h : vText l = true) : plcA f (words l) (words l).length = plW f l l.length := by
  rw [plcA_join f _ (fun x hx => (words_isW h x hx).1), joinW_words]
theorem lets_snoc (a : List UInt8) (b : UInt8) : lets (a ++ [b]) = if b = 32 then lets a else lets a ++ [b] := by
  rw [lets_append]
  by_cases hb : b = 32
  · subst hb; rw [if_pos rfl]; show lets a ++ [] = _; simp
  · rw [if_neg hb]
    unfold lets
    simp [hb]
theorem plW_lets (f : Fc) (l : List UInt8) (k : Nat) (hk : k ≤ l.length) : (plW f l k).length = (lets (l.take k)).length := by
  induction k with
  | zero => rfl
  | succ k ih =>
    have hk' : k < l.length := by omega
    rw [plW, List.take_succ_eq_append_getElem hk', lets_snoc, byt_get hk']
    by_cases hb : l[k] = 32
    · rw [if_pos (by rw [hb]; rfl), if_pos hb, ih (by omega)]
    · have : ¬ ((l[k]).toNat : Int) = 32 := fun e => hb (u8_eq (by rw [e]; rfl))
      rw [if_neg this, if_neg hb, List.length_append, List.length_append, ih (by omega)]; rfl
theorem plW_len (f : Fc) (l : List UInt8) : (plW f l l.length).length = (lets l).length := by
  have := plW_lets f l l.length (Nat.le_refl _)
  rwa [List.take_length] at this
theorem atW_mono {f : Fc} (hf : FcV f) {l : List UInt8} (hl : LS l) {j k : Nat} (hjk : j ≤ k) (hk : k ≤ l.length) : atW f l j ≤ atW f l k := by
  induction k with
  | zero => obtain rfl : j = 0 := by omega
            exact Int.le_refl _
  | succ k ih =>
    by_cases e : j = k + 1
    · subst e; exact Int.le_refl _
    · have h1 := ih (by omega) (by omega)
      have h2 := stepW_range hf hl (show k < l.length by omega)
      rw [atW]; omega
/-- Places are within the line, and rise strictly. -/
theorem plW_rise {f : Fc} (hf : FcV f) {l : List UInt8} (hl : LS l) : ∀ k, k ≤ l.length → (∀ i, i < (plW f l k).length → 0 ≤ rdI (plW f l k) i ∧ rdI (plW f l k) i < atW f l k) ∧ ∀ i j, i < j → j < (plW f l k).length → rdI (plW f l k) i < rdI (plW f l k) j
  | 0, _ => ⟨fun i hi => absurd hi (Nat.not_lt_zero _), fun i j _ hj => absurd hj (Nat.not_lt_zero _)⟩
  | k + 1, hk => by
    obtain ⟨h1, h2⟩ := plW_rise hf hl k (by omega)
    have hs := stepW_range hf hl (show k < l.length by omega)
    have ha := atW_range hf hl (show k ≤ l.length by omega)
    by_cases hb : byt l k = 32
    · rw [plW, if_pos hb, atW]
      exact ⟨fun i hi => by have := h1 i hi; omega, h2⟩
    · have hll : isLet (byt l k) = true := by
        rcases hl k (by omega) with e | e
        · exact absurd e hb
        · exact e
      have hw := letW_range hf hll
      have hst : stepW f l k = gapAt f l k + letW f (byt l k) := by unfold stepW; rw [if_neg hb]
      rw [plW, if_neg hb, atW]
      refine ⟨fun i hi => ?_, fun i j hij hj => ?_⟩
      · simp only [List.length_append, List.length_singleton] at hi
        by_cases hi2 : i < (plW f l k).length
        · rw [rdI_left hi2]; have := h1 i hi2; omega
        · obtain rfl : i = (plW f l k).length := by omega
          rw [rdI_snoc]; omega
      · simp only [List.length_append, List.length_singleton] at hj
        by_cases hj2 : j < (plW f l k).length
        · rw [rdI_left hj2, rdI_left (by omega)]; exact h2 i j hij hj2
        · obtain rfl : j = (plW f l k).length := by omega
          rw [rdI_snoc, rdI_left hij]; have := h1 i hij; omega
theorem plW_bound {f : Fc} (hf : FcV f) {l : List UInt8} (hl : LS l) (h60 : l.length ≤ 60) {i : Nat} (hi : i < (plW f l l.length).length) : 0 ≤ rdI (plW f l l.length) i ∧ rdI (plW f l l.length) i < 3600 := by
  have h := (plW_rise hf hl l.length (Nat.le_refl _)).1 i hi
  have ha := atW_range hf hl (Nat.le_refl l.length)
  omega

/-! ### Letters that are kept -/
/-- Whether one of the first i letters of the old line lies where letter k of the new one is to lie, and is the same. -/
def kbN (x y : List UInt8) (a b : List Int) (s : Int) (k : Nat) : Nat → Bool
  | 0 => false
  | i + 1 => kbN x y a b s k i || (byt x i == byt y k && rdI a i == rdI b k + s)
def kptN (x y : List UInt8) (a b : List Int) (s : Int) : Nat → List Int
  | 0 => []
  | k + 1 => if kbN x y a b s k x.length = true then kptN x y a b s k ++ [(k : Int)] else kptN x y a b s k
def kptR (f : Fc) (o w : List UInt8) (s : Int) : List Int := kptN (lets o) (lets w) (plW f o o.length) (plW f w w.length) s (lets w).length
theorem kptN_yes {x y : List UInt8} {a b : List Int} {s : Int} {k : Nat} (h : kbN x y a b s k x.length = true) : kptN x y a b s (k + 1) = kptN x y a b s k ++ [(k : Int)] := by rw [kptN, if_pos h]
theorem kptN_no {x y : List UInt8} {a b : List Int} {s : Int} {k : Nat} (h : kbN x y a b s k x.length = false) : kptN x y a b s (k + 1) = kptN x y a b s k := by rw [kptN, if_neg (by rw [h]; simp)]
theorem kptN_length (x y : List UInt8) (a b : List Int) (s : Int) : ∀ k, (kptN x y a b s k).length ≤ k
  | 0 => Nat.le_refl _
  | k + 1 => by
    have := kptN_length x y a b s k
    rw [kptN]
    split
    · rw [List.length_append, List.length_singleton]; omega
    · omega
/-- What the map holds at a place: the letter that lies there, 0 if there is none. -/
def lkN (x : List UInt8) (a : List Int) (q : Int) : Nat → Int
  | 0 => 0
  | i + 1 => if rdI a i = q then byt x i else lkN x a q i
theorem kbN_none {x y : List UInt8} {a b : List Int} {s : Int} {k : Nat} : ∀ m, (∀ j, j < m → rdI a j ≠ rdI b k + s) → kbN x y a b s k m = false
  | 0, _ => rfl
  | m + 1, h => by
    rw [kbN, kbN_none m (fun j hj => h j (by omega)), Bool.false_or, Bool.and_eq_false_iff]
    exact .inr (by simpa using h m (by omega))
theorem lkN_kb {x y : List UInt8} {a b : List Int} {s : Int} {k : Nat} (hy : byt y k ≠ 0) : ∀ m, (∀ i j, i < j → j < m → rdI a i < rdI a j) → (lkN x a (rdI b k + s) m == byt y k) = kbN x y a b s k m
  | 0, _ => by
    rw [lkN, kbN]
    simpa using fun e => hy e.symm
  | m + 1, h => by
    have ih := lkN_kb (x := x) (a := a) (b := b) (s := s) hy m (fun i j h1 h2 => h i j h1 (by omega))
    rw [lkN, kbN]
    by_cases e : rdI a m = rdI b k + s
    · rw [if_pos e, kbN_none m (fun j hj => by have := h j m hj (by omega); omega), e]
      simp
    · rw [if_neg e, ih]
      have : (rdI a m == rdI b k + s) = false := by simpa using e
      rw [this]; simp
/-- The code of a face and two lines. -/
def kepC (f : Fc) (o w : List UInt8) (fine : Bool) : Int := if validF f && vText o && vText w then (if fine then 0 else 2) else 1
def keptOut (f : Fc) (o w : List UInt8) (s : Int) : List Int × Int := if kepC f o w (inB (-400) 400 s) = 0 then (kptR f o w s, 0) else ([], kepC f o w (inB (-400) 400 s))
theorem kepC_zero {f : Fc} {o w : List UInt8} {b : Bool} (h : kepC f o w b = 0) : validF f = true ∧ vText o = true ∧ vText w = true ∧ b = true := by
  unfold kepC at h
  split at h
  · rename_i hh
    simp only [Bool.and_eq_true] at hh
    split at h
    · exact ⟨hh.1.1, hh.1.2, hh.2, by assumption⟩
    · exact absurd h (by decide)
  · exact absurd h (by decide)
theorem kepC_ok {f : Fc} {o w : List UInt8} {b : Bool} (h : validF f = true) (k : vText o = true) (j : vText w = true) : kepC f o w b = if b then 0 else 2 := by unfold kepC; rw [h, k, j]; rfl
theorem kepC_f {f : Fc} {o w : List UInt8} {b : Bool} (h : validF f = false) : kepC f o w b = 1 := by unfold kepC; rw [h]; rfl
theorem kepC_o {f : Fc} {o w : List UInt8} {b : Bool} (h : vText o = false) : kepC f o w b = 1 := by unfold kepC; rw [h]; simp
theorem kepC_w {f : Fc} {o w : List UInt8} {b : Bool} (h : vText w = false) : kepC f o w b = 1 := by unfold kepC; rw [h]; simp
theorem vText_len60 {l : List UInt8} (h : vText l = true) : l.length ≤ 60 := (vText_iff.1 h).2
theorem keptOut_len (f : Fc) (o w : List UInt8) (s : Int) : (keptOut f o w s).1.length ≤ 1048576 := by
  unfold keptOut
  split
  · rename_i hz
    have ht := (kepC_zero hz).2.2.1
    have h1 := lets_length w
    have h2 := kptN_length (lets o) (lets w) (plW f o o.length) (plW f w w.length) s (lets w).length
    have h3 := vText_len60 ht
    show (kptR f o w s).length ≤ _
    unfold kptR
    omega
  · exact Nat.zero_le _
end Go.Proofs.YtpindajpdkpfjaaGreatDoor
namespace Go.Proofs.YtpindajpdkpfjaaGreatDoor
open Go Go.RowKit
set_option linter.unusedVariables false
set_option linter.unusedSimpArgs false

/-- A row of a call's own, in a block from lo up to hi. -/
def OwnX {α : Type} (t : TypeId) (enc : α → Value) (w : World) (lo hi : Nat) (A : Option Addr) (xs : List α) : Prop := 0 < xs.length → ∃ g cs, A = some ⟨g, 0, none⟩ ∧ lo ≤ g ∧ g < hi ∧ Blk w g t (xs.map enc ++ cs)
section
variable {α : Type} {t : TypeId} {enc : α → Value} {w w' : World} {lo hi : Nat} {A : Option Addr} {xs : List α}
theorem OwnX.sl (h : OwnX t enc w lo hi A xs) : SlE enc w A xs := by
  intro i x hx
  have hi : i < xs.length := (List.getElem?_eq_some_iff.1 hx).1
  obtain ⟨g, cs, rfl, _, _, hb⟩ := h (by omega)
  exact SlE.of_row hb.head i x hx
theorem OwnX.next (h : OwnX t enc w lo hi A xs) (hb : Below w.heap.size w w') : OwnX t enc w' lo hi A xs := fun hn => by
  obtain ⟨g, cs, e, h1, h2, h3⟩ := h hn
  exact ⟨g, cs, e, h1, h2, h3.next hb⟩
theorem OwnX.grown {row : Option Nat} (h : OwnX t enc w lo hi A xs) (hg : w.grownBy w' row) (hr : ∀ b, row = some b → b < lo ∨ hi ≤ b) : OwnX t enc w' lo hi A xs := fun hn => by
  obtain ⟨g, cs, e, h1, h2, h3⟩ := h hn
  exact ⟨g, cs, e, h1, h2, h3.grown hg (fun e => by have := hr g e.symm; omega)⟩
theorem OwnX.of_own {v : Value} {n : Nat} (h : w.ownsRow lo t 1 v n (xs.map enc)) : ∃ A c, v = .slice A xs.length c ∧ xs.length = n ∧ OwnX t enc w lo w.heap.size A xs := by
  by_cases hn : 0 < n
  · obtain ⟨g, c, cs, rfl, hg, hb, hl⟩ := own_blk h hn
    rw [List.length_map] at hl
    exact ⟨_, c, by rw [hl], hl, fun _ => ⟨g, cs, rfl, hg, hb.lt, hb⟩⟩
  · obtain ⟨A, c, e, hl, _, _⟩ := SlE_own h
    exact ⟨A, c, e, hl, fun h => by omega⟩
end
/-- A row that grows beside all that is older than W1; its block was g0 when W1 stood. -/
structure GrO (W0 W1 wr : World) (e : TypeId) (g0 : Nat) (v : Value) (xs : List Value) : Prop where
  own : wr.ownsRow W0.heap.size e 1 v xs.length xs
  grow : W1.grownBy wr (some g0)
  loc : v.ownBlock = some g0 ∨ ∃ g, W1.heap.size ≤ g ∧ v.ownBlock = some g
  below : Below W0.heap.size W0 wr
theorem GrO.keep {α : Type} {W0 W1 wr : World} {e t : TypeId} {enc : α → Value} {g0 lo hi : Nat} {v : Value} {xs : List Value} {A : Option Addr} {ys : List α} (h : GrO W0 W1 wr e g0 v xs) (s : OwnX t enc W1 lo hi A ys) (hlo : g0 < lo) : SlE enc wr A ys :=
  (s.grown h.grow (fun b e => by cases e; exact .inl hlo)).sl
theorem GrO.put {W0 W1 wr w' : World} {e : TypeId} {g0 : Nat} {v v' : Value} {xs : List Value} {x : Value} (h : GrO W0 W1 wr e g0 v xs) (ho : w'.ownsRow W0.heap.size e 1 v' (xs.length + 1) (xs ++ [x])) (hg : wr.grownBy w' v.ownBlock) (hw : v'.ownBlock = v.ownBlock ∨ ∃ g, wr.heap.size ≤ g ∧ v'.ownBlock = some g) : GrO W0 W1 w' e g0 v' (xs ++ [x]) := by
  have hgr : W1.grownBy w' (some g0) :=
    ⟨hg.os.trans h.grow.os, hg.tape.trans h.grow.tape, hg.output.trans h.grow.output, Nat.le_trans h.grow.size hg.size, fun i hi hne => (hg.block i (Nat.lt_of_lt_of_le hi h.grow.size) (fun e => by
      rcases h.loc with e2 | ⟨g, hg2, e2⟩
      · exact hne (e.trans e2)
      · rw [e2] at e; cases e; omega)).trans (h.grow.block i hi hne)⟩
  refine ⟨by rw [List.length_append]; exact ho, hgr, ?_, below_own h.below h.own hg (Nat.le_refl _) h.below.size⟩
  rcases hw with e2 | ⟨g, hg2, e2⟩
  · rcases h.loc with e3 | ⟨g, hg3, e3⟩
    · exact .inl (e2.trans e3)
    · exact .inr ⟨g, hg3, e2.trans e3⟩
  · exact .inr ⟨g, Nat.le_trans h.grow.size hg2, e2⟩
theorem GrO.next {W0 W1 wr w' : World} {e : TypeId} {g0 : Nat} {v : Value} {xs : List Value} (h : GrO W0 W1 wr e g0 v xs) (hb : Below wr.heap.size wr w') : GrO W0 W1 w' e g0 v xs :=
  ⟨own_next h.own hb, ⟨hb.os.trans h.grow.os, hb.tape.trans h.grow.tape, hb.output.trans h.grow.output, Nat.le_trans h.grow.size hb.size, fun i hi hne => (hb.block i (Nat.lt_of_lt_of_le hi h.grow.size)).trans (h.grow.block i hi hne)⟩, h.loc, below_step h.below hb⟩

/-- A letter's value. -/
def bv (b : UInt8) : Value := .int .u8 (b.toNat : Int)
theorem elB : El Tryz.prog 22 5 (.int .u8 0) 1 1 := ⟨Tryz.underlying22, by kernel_rfl, rfl, by decide⟩
theorem RowE.atB {w : World} {a : Addr} {r : List UInt8} (h : RowE bv w a r) (i : Nat) (hi : i < r.length) : w.cell? (a.add i) = some (.int .u8 (byt r i)) := by
  have := h i (r[i]) (List.getElem?_eq_getElem hi)
  rw [byt_get hi]; exact this
def LtOut (w : World) (ls : List UInt8) (e : Ending) (w' : World) : Prop :=
  ∃ A c, e = .returned (.slice A ls.length c) ∧ Below w.heap.size w w' ∧ OwnX 5 bv w' w.heap.size w'.heap.size A ls
structure LtRel (l : List UInt8) (w wr : World) (v : Value) (k : Nat) : Prop where
  own : wr.ownsRow w.heap.size 5 1 v (lets (l.take k)).length ((lets (l.take k)).map bv)
  below : Below w.heap.size w wr
theorem letsT_sp {l : List UInt8} {k : Nat} (hk : k < l.length) (h : byt l k = 32) : lets (l.take (k + 1)) = lets (l.take k) := by
  rw [List.take_succ_eq_append_getElem hk, lets_snoc, if_pos]
  rw [byt_get hk] at h
  exact u8_eq (by rw [h]; rfl)
theorem letsT_let {l : List UInt8} {k : Nat} (hk : k < l.length) (h : byt l k ≠ 32) : lets (l.take (k + 1)) = lets (l.take k) ++ [l[k]] := by
  rw [List.take_succ_eq_append_getElem hk, lets_snoc, if_neg]
  intro e
  rw [byt_get hk, e] at h
  exact h rfl

set_option maxRecDepth 100000 in
theorem letters_spec (s : ByteArray) (w : World) (hs : s.size ≤ 1048576) :
    Calls Tryz.prog 36 #[.string s] w (LtOut w (lets (bs s))) := by
  have HB := Lib.hid (bs_length s)
  go_enter Tryz.func36, Tryz.ntmps36
  go_wp2
  go_loopw [3, 4] (fun v i wr => ∃ k : Nat, k ≤ s.size ∧ i = .int .i64 k ∧ LtRel (bs s) w wr v k) (fun _ i _ => s.size - (intOf i).toNat)
  case atStart => exact ⟨0, by omega, rfl, own_empty _ _ rfl _ _ (Nat.le_refl _) 1, below_one _ _⟩
  case round =>
    obtain ⟨k, hk, rfl, h⟩ := hrel
    have hown := h.own
    have hbel := h.below
    have hsz := hbel.size
    have hlen : (lets ((bs s).take k)).length ≤ 1048576 := by
      have := lets_length ((bs s).take k)
      rw [List.length_take] at this; omega
    clear h
    by_cases hlt : k < s.size
    · have hix := run_byte s k hlt
      have hlb : k < (bs s).length := by rw [HB.out]; exact hlt
      cases hb : (byS s k == 32)
      · have hne : byt (bs s) k ≠ 32 := by simpa [byS] using hb
        have HP := Lib.hid (letsT_let hlb hne)
        have HE := Lib.hid (show Value.int .u8 (byS s k) = bv ((bs s)[k]) by unfold bv; rw [← byt_get hlb]; rfl)
        clear hne
        go_wp2_with (at_builtin; refine wpList_app1 rfl (.tmp 16) (.tmp 20) _ rfl elB wr w.heap.size u3 (lets ((bs s).take k)).length _ rfl hown (.int .u8 (byS s k)) _ rfl rfl rfl (by unfold maxLen; omega) (by omega) hsz ?_; intro v' w' ho' hg')
        go_roundw
        case rel =>
          refine ⟨k + 1, by omega, by go_num, ?_, below_own hbel hown hg' (Nat.le_refl _) hsz⟩
          rw [HP.out, List.length_append, List.map_append]
          rw [HE.out] at ho'
          exact ho'
        case measure => simp [intOf]; omega
      · have heq : byt (bs s) k = 32 := by simpa [byS] using hb
        have HP := Lib.hid (letsT_sp hlb heq)
        clear heq
        go_wp2
        go_roundw
        case rel => exact ⟨k + 1, by omega, by go_num, by rw [HP.out]; exact hown, hbel⟩
        case measure => simp [intOf]; omega
    · obtain rfl : k = s.size := by omega
      have HT := Lib.hid (show (bs s).take s.size = bs s by rw [← bs_length, List.take_length])
      go_wp2
      go_ret
      obtain ⟨A', c', rfl, hl, ho⟩ := OwnX.of_own hown
      rw [HT.out] at ho hl ⊢
      exact ⟨A', c', rfl, hbel, ho⟩

set_option maxRecDepth 100000 in
theorem shiftC_spec (f : Fc) (n b0 : Nat) (o s : ByteArray) (fine : Bool) (w : World) (hf : FcT f) (hn : f.pairs.length = n) (hm : n ≤ 1048576) (ho : o.size ≤ 1048576) (hs : s.size ≤ 1048576) (h : FcAt w b0 f n) :
    Calls Tryz.prog 27 #[.pointer (some ⟨b0, 0, none⟩), .string o, .string s, .bool fine] w fun e w' => e = .returned (.int .i64 (kepC f (bs o) (bs s) fine)) ∧ Below w.heap.size w w' := by
  have HF := Lib.hid hf
  have HN := Lib.hid hn
  have HA := Lib.hid h
  clear hf hn h
  cases hv : validF f
  · have HO := Lib.hid (kepC_f (o := bs o) (w := bs s) (b := fine) hv)
    have HV := Lib.hid hv
    clear hv
    go_enter Tryz.func27, Tryz.ntmps27
    go_wp2_with (go_at_call 55; refine (face_spec f n b0 _ HF.out HN.out hm HA.out).mono ?_; rintro e w1 ⟨he, hb⟩; rw [HV.out] at he; subst he)
    go_ret
    exact ⟨retI HO.out.symm, hb⟩
  · have HV := Lib.hid hv
    cases ht : vText (bs o)
    · have HO := Lib.hid (kepC_o (f := f) (w := bs s) (b := fine) ht)
      have HT := Lib.hid ht
      clear hv ht
      go_enter Tryz.func27, Tryz.ntmps27
      go_wp2_with (first
        | (go_at_call 55; refine (face_spec f n b0 _ HF.out HN.out hm HA.out).mono ?_; rintro e w1 ⟨he, hb⟩; rw [HV.out] at he; subst he)
        | (go_at_call 56; refine (text_spec o _ ho).mono ?_; rintro e w2 ⟨he, rfl⟩; rw [HT.out] at he; subst he))
      go_ret
      exact ⟨retI HO.out.symm, hb⟩
    · have HT := Lib.hid ht
      cases hu : vText (bs s)
      · have HO := Lib.hid (kepC_w (f := f) (o := bs o) (b := fine) hu)
        have HU := Lib.hid hu
        clear hv ht hu
        go_enter Tryz.func27, Tryz.ntmps27
        go_wp2_with (go_at_call 55; refine (face_spec f n b0 _ HF.out HN.out hm HA.out).mono ?_; rintro e w1 ⟨he, hb⟩; rw [HV.out] at he; subst he; go_wp2_with fail; go_at_call 56; refine (text_spec o _ ho).mono ?_; rintro e w2 ⟨he, rfl⟩; rw [HT.out] at he; subst he; go_wp2_with fail; go_at_call 56; refine (text_spec s _ hs).mono ?_; rintro e w2 ⟨he, rfl⟩; rw [HU.out] at he; subst he; go_wp2)
        go_ret
        exact ⟨retI HO.out.symm, hb⟩
      · have HO := Lib.hid (kepC_ok (b := fine) hv ht hu)
        have HU := Lib.hid hu
        clear hv ht hu
        cases fine
        all_goals
          go_enter Tryz.func27, Tryz.ntmps27
          go_wp2_with (go_at_call 55; refine (face_spec f n b0 _ HF.out HN.out hm HA.out).mono ?_; rintro e w1 ⟨he, hb⟩; rw [HV.out] at he; subst he; go_wp2_with fail; go_at_call 56; refine (text_spec o _ ho).mono ?_; rintro e w2 ⟨he, rfl⟩; rw [HT.out] at he; subst he; go_wp2_with fail; go_at_call 56; refine (text_spec s _ hs).mono ?_; rintro e w2 ⟨he, rfl⟩; rw [HU.out] at he; subst he; go_wp2)
          go_ret
          exact ⟨retI HO.out.symm, hb⟩
end Go.Proofs.YtpindajpdkpfjaaGreatDoor
namespace Go.Proofs.YtpindajpdkpfjaaGreatDoor
open Go Go.RowKit
set_option linter.unusedVariables false
set_option linter.unusedSimpArgs false

set_option maxHeartbeats 4000000 in
set_option maxRecDepth 100000 in
theorem kept_spec (f : Fc) (n b0 : Nat) (o s : ByteArray) (d : Int) (w : World) (hf : FcT f) (hV : FcV f) (hn : f.pairs.length = n) (hm : n ≤ 1048576) (hos : o.size ≤ 1048576) (hs : s.size ≤ 1048576) (ho : vText (bs o) = true) (ht : vText (bs s) = true) (hd : -400 ≤ d ∧ d ≤ 400) (h : FcAt w b0 f n) :
    Calls Tryz.prog 35 #[.pointer (some ⟨b0, 0, none⟩), .string o, .string s, .int .i64 d] w (NsOut w (kptR f (bs o) (bs s) d)) := by
  have HF := Lib.hid hf
  have HVV := Lib.hid hV
  have HN := Lib.hid hn
  have HW1 := Lib.hid (ws_words ho)
  have HW2 := Lib.hid (ws_words ht)
  have HP1 := Lib.hid (plcA_words f ho)
  have HP2 := Lib.hid (plcA_words f ht)
  have hown0 := own_empty w w.heap.size rfl w.heap.size 2 (Nat.le_refl _) 1
  have hB0 := below_one w (.cells #[] 2)
  have HA := Lib.hid (h.next hB0)
  have hz0 : (w.alloc (.cells #[] 2)).heap.size = w.heap.size + 1 := by simp
  have HR1 := Lib.hid (fun i hi => plW_bound hV (vText_ls ho) (vText_len60 ho) (i := i) hi)
  have HR2 := Lib.hid (fun i hi => plW_bound hV (vText_ls ht) (vText_len60 ht) (i := i) hi)
  have HL1 := Lib.hid (plW_len f (bs o))
  have HL2 := Lib.hid (plW_len f (bs s))
  have hx60 : (lets (bs o)).length ≤ 60 := Nat.le_trans (lets_length _) (vText_len60 ho)
  have hy60 : (lets (bs s)).length ≤ 60 := Nat.le_trans (lets_length _) (vText_len60 ht)
  obtain ⟨x, hx⟩ : ∃ x, x = lets (bs o) := ⟨_, rfl⟩
  obtain ⟨y, hy⟩ : ∃ y, y = lets (bs s) := ⟨_, rfl⟩
  obtain ⟨p, hp⟩ : ∃ p, p = plW f (bs o) (bs o).length := ⟨_, rfl⟩
  obtain ⟨q, hq⟩ : ∃ q, q = plW f (bs s) (bs s).length := ⟨_, rfl⟩
  have hR : kptR f (bs o) (bs s) d = kptN x y p q d y.length := by unfold kptR; rw [← hx, ← hy, ← hp, ← hq]
  rw [hR]
  have HPL0 := Lib.hid (show p.length = x.length by rw [hp, hx]; exact HL1.out)
  have HQL0 := Lib.hid (show q.length = y.length by rw [hq, hy]; exact HL2.out)
  have HPR0 := Lib.hid (show ∀ i, i < p.length → 0 ≤ rdI p i ∧ rdI p i < 3600 by rw [hp]; exact HR1.out)
  have HQR0 := Lib.hid (show ∀ i, i < q.length → 0 ≤ rdI q i ∧ rdI q i < 3600 by rw [hq]; exact HR2.out)
  rw [← hx] at hx60
  rw [← hy] at hy60
  have HX := Lib.hid hx
  have HY := Lib.hid hy
  have HPP := Lib.hid hp
  have HQQ := Lib.hid hq
  clear hf hV hn h ho ht hx hy hp hq hR
  go_enter Tryz.func35, Tryz.ntmps35
  go_wp2_with fail
  generalize w.alloc (.cells #[] 2) = w0 at *
  go_at_call 58
  refine (words_spec o _ hos).mono ?_
  rintro e w1 ⟨A1, c1, rfl, hc1, hb1, hsl1, hA1⟩
  go_wp2_with fail
  go_at_call 57
  refine (places_spec f n b0 A1 c1 (words (bs o)) w1 HF.out HVV.out HN.out hm HW1.out (HA.out.next hb1) hsl1).mono ?_
  rintro e w2 ⟨A2, c2, A2', c2', rfl, hb2, ho2, ho2'⟩
  rw [HP1.out] at ho2 ⊢
  have hB2 := below_step hb1 hb2
  have g1 := hb1.size
  have g2 := hb2.size
  clear hsl1 hA1 hc1 ho2' hb1 hb2
  go_wp2_with fail
  go_at_call 58
  refine (words_spec s _ hs).mono ?_
  rintro e w3 ⟨A3, c3, rfl, hc3, hb3, hsl3, hA3⟩
  have ho2 := ho2.next hb3
  have hB3 := below_step hB2 hb3
  go_wp2_with fail
  go_at_call 57
  refine (places_spec f n b0 A3 c3 (words (bs s)) w3 HF.out HVV.out HN.out hm HW2.out (HA.out.next hB3) hsl3).mono ?_
  rintro e w4 ⟨A4, c4, A4', c4', rfl, hb4, ho4, ho4'⟩
  rw [HP2.out] at ho4 ⊢
  have ho2 := ho2.next hb4
  have hB4 := below_step hB3 hb4
  have g3 := hb3.size
  have g4 := hb4.size
  clear hsl3 hA3 hc3 ho4' hb3 hb4 hB2 hB3
  go_wp2_with fail
  go_at_call 36
  refine (letters_spec o _ hos).mono ?_
  rintro e w5 ⟨A5, c5, rfl, hb5, ho5⟩
  have ho2 := ho2.next hb5
  have ho4 := ho4.next hb5
  have hB5 := below_step hB4 hb5
  have g5 := hb5.size
  clear hb5 hB4
  go_wp2_with fail
  go_at_call 36
  refine (letters_spec s _ hs).mono ?_
  rintro e w6 ⟨A6, c6, rfl, hb6, ho6⟩
  have ho2 := ho2.next hb6
  have ho4 := ho4.next hb6
  have ho5 := ho5.next hb6
  have hB6 := below_step hB5 hb6
  have g6 := hb6.size
  clear hb6 hB5
  have hown := own_next hown0 hB6
  have hBW := below_step hB0 hB6
  have hpl := HPL0.out
  have hql := HQL0.out
  have hpr := HPR0.out
  have hqr := HQR0.out
  rw [← HX.out] at ho5 ⊢
  rw [← HY.out] at ho6 ⊢
  rw [← HPP.out] at ho2 ⊢
  rw [← HQQ.out] at ho4 ⊢
  have hgr : GrO w w6 w6 2 w.heap.size (.slice (some ⟨w.heap.size, 0, none⟩) 0 0) [] := ⟨hown, grown_refl _ _, .inl rfl, hBW⟩
  have HO2 := Lib.hid (show OwnX 2 i64 w6 _ _ A2 p from ho2)
  have HO4 := Lib.hid (show OwnX 2 i64 w6 _ _ A4 q from ho4)
  have HO5 := Lib.hid ho5
  have HO6 := Lib.hid ho6
  have HPL := Lib.hid hpl
  have HQL := Lib.hid hql
  clear hown hBW hown0 hB0 ho2 ho4 ho5 ho6 hB6 hpl hql
  go_wp2
  have l1 : w.heap.size < w1.heap.size := by omega
  have l3 : w.heap.size < w3.heap.size := by omega
  have l4 : w.heap.size < w4.heap.size := by omega
  have l5 : w.heap.size < w5.heap.size := by omega
  clear g1 g2 g3 g4 g5 g6 hz0
  go_loopw [9, 16] (fun v i wr => ∃ k : Nat, k ≤ y.length ∧ i = .int .i64 k ∧ GrO w w6 wr 2 w.heap.size v ((kptN x y p q d k).map i64)) (fun _ i _ => y.length - (intOf i).toNat)
  case atStart => exact ⟨0, by omega, rfl, hgr⟩
  clear hgr
  case round =>
    obtain ⟨k, hk, rfl, h⟩ := hrel
    by_cases hlt : k < y.length
    · have s2 := h.keep HO2.out l1
      have s4 := h.keep HO4.out l3
      have s5 := h.keep HO5.out l4
      have s6 := h.keep HO6.out l5
      obtain ⟨a4, rfl, r4⟩ := s4.some k (by rw [HQL.out]; exact hlt)
      obtain ⟨a6, rfl, r6⟩ := s6.some k hlt
      have hqk := hqr k (by rw [HQL.out]; exact hlt)
      have hwr : IntKind.i64.wrap (rdI q k + d) = rdI q k + d := IntWalk.i64_in _ (by omega)
      have H := Lib.hid h
      have HS2 := Lib.hid s2
      have HS5 := Lib.hid s5
      have R4 := Lib.hid r4
      have R6 := Lib.hid r6
      clear h s2 s4 s5 s6 r4 r6
      go_wp2
      rename World => wo
      go_loopw [17, 18] (fun b j wi => ∃ m : Nat, m ≤ x.length ∧ j = .int .i64 m ∧ b = .bool (kbN x y p q d k m) ∧ Below wo.heap.size wo wi) (fun _ j _ => x.length - (intOf j).toNat)
      case atStart => exact ⟨0, Nat.zero_le _, rfl, rfl, Below.refl _ _⟩
      case round =>
        obtain ⟨m, hm2, rfl, rfl, hwi⟩ := hrel
        by_cases hlm : m < x.length
        · obtain ⟨a2, rfl, r2⟩ := (HS2.out.next hwi).some m (by rw [HPL.out]; exact hlm)
          obtain ⟨a5, rfl, r5⟩ := (HS5.out.next hwi).some m hlm
          have hc2 := r2.atI64 m (by rw [HPL.out]; exact hlm)
          have hc5 := r5.atB m hlm
          have hpm : m < p.length := by rw [HPL.out]; exact hlm
          have hqm : k < q.length := by rw [HQL.out]; exact hlt
          have hc4 : (World.cell? wr (a4.add k)) = some (.int .i64 (rdI q k)) := ((show SlE i64 wo (some a4) q from SlE.of_row R4.out).next hwi).some k hqm |> fun ⟨a, e, r⟩ => by cases e; exact r.atI64 k hqm
          have hc6 : (World.cell? wr (a6.add k)) = some (.int .u8 (byt y k)) := ((show SlE bv wo (some a6) y from SlE.of_row R6.out).next hwi).some k hlt |> fun ⟨a, e, r⟩ => by cases e; exact r.atB k hlt
          have hwi1 := below_drewN hwi 1
          clear r2 r5
          cases hkb : kbN x y p q d k m
          · cases hbq : (byt x m == byt y k)
            · have HV := Lib.hid (show kbN x y p q d k (m + 1) = false by rw [kbN, hkb, hbq]; rfl)
              clear hkb
              go_wp2
              go_region
              go_wp2
              go_roundw
              case rel => exact ⟨m + 1, by omega, by go_num, by rw [HV.out], hwi1⟩
              case measure => simp [intOf]; omega
            · have HV := Lib.hid (show kbN x y p q d k (m + 1) = (rdI p m == rdI q k + d) by rw [kbN, hkb, hbq]; rfl)
              clear hkb
              go_wp2
              go_region
              go_wp2
              go_roundw
              case rel => exact ⟨m + 1, by omega, by go_num, by rw [HV.out], hwi1⟩
              case measure => simp [intOf]; omega
          · have HV := Lib.hid (show kbN x y p q d k (m + 1) = true by rw [kbN, hkb]; rfl)
            clear hkb
            go_wp2
            go_region
            go_wp2
            go_roundw
            case rel => exact ⟨m + 1, by omega, by go_num, by rw [HV.out], hwi1⟩
            case measure => simp [intOf]; omega
        · obtain rfl : m = x.length := by omega
          have h2 := H.out.next hwi
          have hown := h2.own
          have hsz := h2.below.size
          have hkl := kptN_length x y p q d k
          have H2 := Lib.hid h2
          clear h2
          cases hkb : kbN x y p q d k x.length
          · have HV := Lib.hid (kptN_no hkb)
            clear hkb
            go_wp2
            go_roundw
            case rel => exact ⟨k + 1, by omega, by go_num, by rw [HV.out]; exact H2.out⟩
            case measure => simp [intOf]; omega
          · have HV := Lib.hid (kptN_yes hkb)
            clear hkb
            rw [List.length_map] at hown
            go_wp2_with (at_builtin; refine wpList_app1B rfl (.tmp 76) (.tmp 78) _ rfl elI wr w.heap.size u9 (kptN x y p q d k).length _ rfl hown (.int .i64 k) _ rfl rfl rfl (by unfold maxLen; omega) (by omega) hsz ?_; intro v' w' ho' hg' hwh)
            go_roundw
            case rel =>
              refine ⟨k + 1, by omega, by go_num, ?_⟩
              rw [HV.out, List.map_append]
              exact H2.out.put (by rw [List.length_map]; exact ho') hg' hwh
            case measure => simp [intOf]; omega
    · obtain rfl : k = y.length := by omega
      have hown := h.own
      have hbel := h.below
      clear h
      go_wp2
      go_ret
      obtain ⟨A', c', rfl, hl, ho⟩ := OwnS.of_own hown
      exact ⟨A', c', rfl, hbel, ho⟩
end Go.Proofs.YtpindajpdkpfjaaGreatDoor
namespace Go.Proofs.YtpindajpdkpfjaaGreatDoor
open Go Go.RowKit Go.Shelf Go.Maps
set_option linter.unusedVariables false
set_option linter.unusedSimpArgs false

theorem law64 : Keyed Tryz.prog 2 := int_keyed Tryz.underlying2
theorem zeroU8 (w : World) : (zeroValue 5).run Tryz.prog w = .ok (.int .u8 0) w := by kernel_rfl
theorem wf64 {n : Int} (h : -9223372036854775808 ≤ n ∧ n ≤ 9223372036854775807) : (Lit.int .i64 n).wf = true := by
  have e1 : IntKind.min .i64 = -9223372036854775808 := by decide
  have e2 : IntKind.max .i64 = 9223372036854775807 := by decide
  show (decide (IntKind.min .i64 ≤ n) && decide (n ≤ IntKind.max .i64)) = true
  rw [e1, e2, decide_eq_true h.1, decide_eq_true h.2]; rfl
theorem wf8 {n : Int} (h : 0 ≤ n ∧ n ≤ 255) : (Lit.int .u8 n).wf = true := by
  have e1 : IntKind.min .u8 = 0 := by decide
  have e2 : IntKind.max .u8 = 255 := by decide
  show (decide (IntKind.min .u8 ≤ n) && decide (n ≤ IntKind.max .u8)) = true
  rw [e1, e2, decide_eq_true h.1, decide_eq_true h.2]; rfl
/-- Block b is a map of at most n entries; at q it reads g q. -/
def MapAt (w : World) (b n : Nat) (g : Int → Int) : Prop :=
  ∃ D : DataW Nat, w.ownsMap Tryz.prog 2 (plainElem Tryz.prog 5) b n D ∧ ∀ q : Int, D.atKey (.int .i64 q) (.lit (.int .u8 0)) = .lit (.int .u8 (g q))
theorem MapAt.made (w : World) : MapAt (w.alloc (.map #[] 0)) w.heap.size 0 (fun _ => 0) :=
  ⟨_, World.ownsMap_made w _ _ _, fun q => rfl⟩
theorem MapAt.grown {w w' : World} {b n : Nat} {g : Int → Int} {row : Option Nat} (h : MapAt w b n g) (hg : w.grownBy w' row) (hne : some b ≠ row) : MapAt w' b n g := by
  obtain ⟨D, h1, h2⟩ := h
  exact ⟨D, h1.kept hg hne, h2⟩
theorem grown_none {w w' : World} (h : Below w.heap.size w w') (row : Option Nat) : w.grownBy w' row := ⟨h.os, h.tape, h.output, h.size, fun i hi _ => h.block i hi⟩
theorem MapAt.next {w w' : World} {b n : Nat} {g : Int → Int} (h : MapAt w b n g) (hb : Below w.heap.size w w') : MapAt w' b n g := h.grown (grown_none hb none) (by simp)
theorem MapAt.lt {w : World} {b n : Nat} {g : Int → Int} (h : MapAt w b n g) : b < w.heap.size := by
  obtain ⟨D, h1, h2⟩ := h
  exact h1.lt
theorem MapAt.put {w : World} {b n : Nat} {g : Int → Int} (h : MapAt w b n g) (hn : n < maxLen) (q v : Int) (hq : -9223372036854775808 ≤ q ∧ q ≤ 9223372036854775807) (hv : 0 ≤ v ∧ v ≤ 255) :
    ∃ w', (Instr.mapUpdate 93 (.map (some b)) (.int .i64 q) (.int .u8 v)).run Tryz.prog w = .ok () w' ∧ MapAt w' b (n + 1) (fun x => if q = x then v else g x) ∧ w.grownBy w' (some b) := by
  obtain ⟨D, h1, h2⟩ := h
  have hk : keyOf Tryz.prog 2 (.int .i64 q) = some (.int .i64 q) := keyOf_int_mk Tryz.underlying2 (wf64 hq)
  obtain ⟨w', hrun, hown, hg⟩ := h1.update law64 Tryz.underlying93 hn hk (plainElem_int Tryz.underlying5 (a := v) (wf8 hv))
  refine ⟨w', hrun, ⟨_, hown, fun x => ?_⟩, hg⟩
  show _ = DataW.lit (.int .u8 (if q = x then v else g x))
  by_cases e : q = x
  · subst e
    rw [if_pos rfl, atKey_put_same (k := .int .i64 q) h1.isMap trivial]
  · rw [if_neg e, atKey_put_other (by intro e2; cases e2; exact e rfl), h2 x]
theorem MapAt.look {w : World} {b n : Nat} {g : Int → Int} (h : MapAt w b n g) (q : Int) (hq : -9223372036854775808 ≤ q ∧ q ≤ 9223372036854775807) :
    (Instr.lookup 93 (.map (some b)) (.int .i64 q) false).run Tryz.prog w = .ok (.int .u8 (g q)) w := by
  obtain ⟨D, h1, h2⟩ := h
  have hk : keyOf Tryz.prog 2 (.int .i64 q) = some (.int .i64 q) := keyOf_int_mk Tryz.underlying2 (wf64 hq)
  obtain ⟨c, hrun, hat, _⟩ := h1.lookup_int law64 Tryz.underlying93 Tryz.underlying5 (zeroU8 w) hk
  rw [h2 q] at hat
  have e2 := (Lit.int.inj (DataW.lit.inj hat)).2
  rw [hrun, e2]
section
variable {P : Program} {a : Act}
theorem exec_mapUpdate {o : Oper} (t : TypeId) (m x v : Operand) (ho : o.op = .mapUpdate t m x v) (mv kv vv : Value) (hm : a.eval m = mv) (hx : a.eval x = kv) (hv : a.eval v = vv) (w w' : World) (hrun : (Instr.mapUpdate t mv kv vv).run P w = .ok () w') :
    (execOp a.eval o).run P w = .ok .skip w' := by
  unfold execOp
  simp [ho, hm, hx, hv, hrun, Result.andThen]
theorem exec_lookup {o : Oper} (t : TypeId) (m x : Operand) (ho : o.op = .lookup t m x false) (mv kv c : Value) (hm : a.eval m = mv) (hx : a.eval x = kv) (w : World) (hrun : (Instr.lookup t mv kv false).run P w = .ok c w) :
    (execOp a.eval o).run P w = .ok (.value c) w := by
  unfold execOp
  simp [ho, hm, hx, hrun, Result.andThen]
end

/-! ### Indices -/
/-- What is asked of a closure over the first n indices: it answers p, and leaves what lay in w. -/
def PredN (g : Nat) (lb : Array Value) (n : Nat) (p : Nat → Bool) (w : World) : Prop :=
  ∀ (W : World) (i : Nat), i < n → Below w.heap.size w W → Calls Tryz.prog g (#[.int .i64 i] ++ lb) W fun e w' => e = .returned (.bool (p i)) ∧ Below W.heap.size W w'
def idxN (p : Nat → Bool) : Nat → List Int
  | 0 => []
  | k + 1 => if p k = true then idxN p k ++ [(k : Int)] else idxN p k
theorem idxN_yes {p : Nat → Bool} {k : Nat} (h : p k = true) : idxN p (k + 1) = idxN p k ++ [(k : Int)] := by rw [idxN, if_pos h]
theorem idxN_no {p : Nat → Bool} {k : Nat} (h : p k = false) : idxN p (k + 1) = idxN p k := by rw [idxN, if_neg (by rw [h]; simp)]
theorem idxN_length (p : Nat → Bool) : ∀ k, (idxN p k).length ≤ k
  | 0 => Nat.le_refl _
  | k + 1 => by
    have := idxN_length p k
    rw [idxN]
    split
    · rw [List.length_append, List.length_singleton]; omega
    · omega
theorem idxN_congr {p q : Nat → Bool} : ∀ k, (∀ i, i < k → p i = q i) → idxN p k = idxN q k
  | 0, _ => rfl
  | k + 1, h => by rw [idxN, idxN, idxN_congr k (fun i hi => h i (by omega)), h k (by omega)]
theorem idxN_kept (x y : List UInt8) (a b : List Int) (s : Int) : ∀ k, idxN (fun i => kbN x y a b s i x.length) k = kptN x y a b s k
  | 0 => rfl
  | k + 1 => by rw [idxN, kptN, idxN_kept x y a b s k]

set_option maxHeartbeats 1000000 in
set_option maxRecDepth 100000 in
theorem indices_any (g : Nat) (lb : Array Value) (eg : ∀ args w, (callFunc g args).run Tryz.prog w = .ok (.enter g args) w) (p : Nat → Bool) (n : Nat) (w : World) (hm : n ≤ 1048576) (hp : PredN g lb n p w) :
    Calls Tryz.prog 62 #[.int .i64 n, .func (.func g) #[] lb] w (NsOut w (idxN p n)) := by
  have HP := Lib.hid hp
  clear hp
  go_enter Tryz.func62, Tryz.ntmps62
  go_wp2
  go_loopw [5, 9] (fun v i wr => ∃ k : Nat, k ≤ n ∧ i = .int .i64 k ∧ wr.ownsRow w.heap.size 2 1 v (idxN p k).length ((idxN p k).map i64) ∧ Below w.heap.size w wr) (fun _ i _ => n - (intOf i).toNat)
  case atStart => exact ⟨0, Nat.zero_le _, rfl, own_empty _ _ rfl _ _ (Nat.le_refl _) 1, below_one _ _⟩
  case round =>
    obtain ⟨k, hk, rfl, hown, hbel⟩ := hrel
    have hsz := hbel.size
    have hkl := idxN_length p k
    by_cases hlt : k < n
    · have hcall := HP.out wr k hlt hbel
      cases hq : p k
      · rw [hq] at hcall
        have HQ := Lib.hid (idxN_no hq)
        clear hq
        go_wp2_with (go_at_fn g; refine hcall.mono ?_; rintro e w' ⟨rfl, hb'⟩)
        have hown := own_next hown hb'
        have hbel := below_step hbel hb'
        clear hb'
        go_roundw
        case rel => exact ⟨k + 1, by omega, by go_num, by rw [HQ.out]; exact hown, hbel⟩
        case measure => simp [intOf]; omega
      · rw [hq] at hcall
        have HQ := Lib.hid (idxN_yes hq)
        clear hq
        go_wp2_with (first
          | (go_at_fn g; refine hcall.mono ?_; rintro e w' ⟨rfl, hb'⟩; have hown := own_next hown hb'; have hbel := below_step hbel hb'; have hsz := hbel.size; clear hb')
          | (at_builtin; refine wpList_app1 rfl (.tmp 15) (.tmp 17) _ rfl elI w' w.heap.size u5 (idxN p k).length _ rfl hown (.int .i64 k) _ rfl rfl rfl (by unfold maxLen; omega) (by omega) hsz ?_; intro v' w2 ho' hg'))
        go_roundw
        case rel =>
          refine ⟨k + 1, by omega, by go_num, ?_, below_own hbel hown hg' (Nat.le_refl _) hsz⟩
          rw [HQ.out, List.length_append, List.map_append]
          exact ho'
        case measure => simp [intOf]; omega
    · obtain rfl : k = n := by omega
      go_wp2
      go_ret
      obtain ⟨A', c', rfl, hl, ho⟩ := OwnS.of_own hown
      exact ⟨A', c', rfl, hbel, ho⟩
end Go.Proofs.YtpindajpdkpfjaaGreatDoor
namespace Go.Proofs.YtpindajpdkpfjaaGreatDoor
open Go Go.RowKit Go.Shelf
set_option linter.unusedVariables false
set_option linter.unusedSimpArgs false

/-- What the closure of 'kept' has captured: a map, a row, a number, a text. -/
structure KpW (W : World) (bS bD bM bV bo m : Nat) (g : Int → Int) (A : Option Addr) (c : Nat) (q : List Int) (d : Int) (s : ByteArray) : Prop where
  map : MapAt W bM m g
  var : W.cell? ⟨bV, 0, none⟩ = some (.map (some bM))
  own : W.cell? ⟨bo, 0, none⟩ = some (.slice A q.length c)
  row : SlE i64 W A q
  sh : W.cell? ⟨bD, 0, none⟩ = some (.int .i64 d)
  str : W.cell? ⟨bS, 0, none⟩ = some (.string s)
  mx : MaxW W
  lt : bS < W.heap.size ∧ bD < W.heap.size ∧ bV < W.heap.size ∧ bo < W.heap.size
theorem KpW.next {W W' : World} {bS bD bM bV bo m : Nat} {g : Int → Int} {A : Option Addr} {c : Nat} {q : List Int} {d : Int} {s : ByteArray} (h : KpW W bS bD bM bV bo m g A c q d s) (hb : Below W.heap.size W W') : KpW W' bS bD bM bV bo m g A c q d s := by
  obtain ⟨h1, h2, h3, h4⟩ := h.lt
  have h5 := hb.size
  exact ⟨h.map.next hb, by rw [hb.cell h3]; exact h.var, by rw [hb.cell h4]; exact h.own, h.row.next hb, by rw [hb.cell h2]; exact h.sh, by rw [hb.cell h1]; exact h.str, h.mx.next hb, by omega⟩

attribute [local irreducible] wpQuiet in
set_option maxHeartbeats 1000000 in
set_option maxRecDepth 100000 in
theorem kept1_any (W : World) (bS bD bM bV bo m : Nat) (g : Int → Int) (A : Option Addr) (c : Nat) (q : List Int) (d : Int) (s : ByteArray) (i : Nat) (h : KpW W bS bD bM bV bo m g A c q d s) (hi : i < q.length) (hq : 0 ≤ rdI q i ∧ rdI q i < 3600) (hd : -400 ≤ d ∧ d ≤ 400) (hl : (lets (bs s)).length = q.length) (hs : s.size ≤ 1048576) :
    Calls Tryz.prog 63 #[.int .i64 i, .pointer (some ⟨bV, 0, none⟩), .pointer (some ⟨bo, 0, none⟩), .pointer (some ⟨bD, 0, none⟩), .pointer (some ⟨bS, 0, none⟩)] W fun e w' => e = .returned (.bool (g (rdI q i + d) == byt (lets (bs s)) i)) ∧ Below W.heap.size W w' := by
  obtain ⟨a, rfl, hrow⟩ := h.row.some i hi
  have H := Lib.hid h
  have HR := Lib.hid (SlE.of_row hrow)
  have hadd : IntKind.i64.wrap (rdI q i + d) = rdI q i + d := IntWalk.i64_in _ (by omega)
  have hls : (⟨(lets (bs s)).toArray⟩ : ByteArray).size = q.length := hl
  have HLS := Lib.hid hls
  clear h hrow hls hl
  go_enter Tryz.func63, Tryz.ntmps63
  go_wp2
  refine region_below (W.heap.size) (by kernel_rfl) (by kernel_rfl) ?_
  refine below_run (by kernel_rfl) (.map (some bM)) (fun w' hw' => exec_load1 93 (.tmp 1) rfl ⟨bV, 0, none⟩ (by kernel_rfl) (.map (some bM)) ((H.out.next hw').var) _ Tryz.underlying93 rfl) ?_
  refine below_run (by kernel_rfl) (.slice (some a) q.length c) (fun w' hw' => exec_load1 41 (.tmp 2) rfl ⟨bo, 0, none⟩ (by kernel_rfl) (.slice (some a) q.length c) ((H.out.next hw').own) _ Tryz.underlying41 rfl) ?_
  refine below_run (by kernel_rfl) (.int .i64 i) (fun w' hw' => by kernel_rfl) ?_
  refine below_run (by kernel_rfl) (.pointer (some (Addr.add a (i * 1)))) (fun w' hw' => exec_index 41 (.tmp 8) (.tmp 9) rfl a q.length c (by kernel_rfl) .i64 i (by kernel_rfl) hi 2 Tryz.underlying41 1 szI64) ?_
  refine below_run (by kernel_rfl) (.int .i64 (rdI q i)) (fun w' hw' => exec_load1 2 (.tmp 10) rfl (a.add (i * 1)) (by kernel_rfl) (.int .i64 (rdI q i)) (by rw [Nat.mul_one]; exact (HR.out.next hw').some i hi |> fun ⟨a', e, r⟩ => by cases e; exact r.atI64 i hi) _ Tryz.underlying2 rfl) ?_
  refine below_run (by kernel_rfl) (.int .i64 d) (fun w' hw' => exec_load1 2 (.tmp 3) rfl ⟨bD, 0, none⟩ (by kernel_rfl) (.int .i64 d) ((H.out.next hw').sh) _ Tryz.underlying2 rfl) ?_
  refine below_run (by kernel_rfl) (.int .i64 (rdI q i + d)) (fun w' hw' => Eq.trans (show (execOp _ _).run _ w' = .ok (.value (.int .i64 (IntKind.i64.wrap (rdI q i + d)))) w' by kernel_rfl) (by rw [hadd])) ?_
  refine below_run (by kernel_rfl) (.int .u8 (g (rdI q i + d))) (fun w' hw' => exec_lookup 93 (.tmp 7) (.tmp 13) rfl _ _ _ (by kernel_rfl) (by kernel_rfl) w' ((H.out.next hw').map.look (rdI q i + d) (by omega))) ?_
  refine below_run (by kernel_rfl) (.string s) (fun w' hw' => exec_load1 9 (.tmp 4) rfl ⟨bS, 0, none⟩ (by kernel_rfl) (.string s) ((H.out.next hw').str) _ Tryz.underlying9 rfl) ?_
  refine below_call (by kernel_rfl) 31 #[.string s] (.string ⟨(lets (bs s)).toArray⟩) (fun w' => by kernel_rfl) (fun w' hw' => (letters_impl s w' hs (H.out.next hw').mx).mono fun e w1 ⟨he, hb1⟩ => ⟨he, below_step hw' hb1⟩) ?_
  refine below_run (by kernel_rfl) (.int .i64 i) (fun w' hw' => by kernel_rfl) ?_
  refine below_run (by kernel_rfl) (.int .u8 (byS ⟨(lets (bs s)).toArray⟩ i)) (fun w' hw' => exec_byte (.tmp 16) (.tmp 17) rfl ⟨(lets (bs s)).toArray⟩ (by kernel_rfl) i (by kernel_rfl) (by rw [HLS.out]; exact hi)) ?_
  refine below_run (by kernel_rfl) (.bool (g (rdI q i + d) == byt (lets (bs s)) i)) (fun w' hw' => by kernel_rfl) ?_
  refine below_run (by kernel_rfl) (.bool (g (rdI q i + d) == byt (lets (bs s)) i)) (fun w' hw' => by kernel_rfl) ?_
  refine wpQuiet_nil ?_
  intro W3 hW3
  simp only [Act.put, List.setIfInBounds_toArray, List.set_cons_succ, List.set_cons_zero]
  clear hadd
  go_wp2
  go_ret
  exact ⟨rfl, hW3⟩
end Go.Proofs.YtpindajpdkpfjaaGreatDoor
namespace Go.Proofs.YtpindajpdkpfjaaGreatDoor
open Go Go.RowKit Go.Shelf
set_option linter.unusedVariables false
set_option linter.unusedSimpArgs false

theorem kptR_look {f : Fc} (hV : FcV f) {o s : List UInt8} (ho : vText o = true) (hs : vText s = true) (d : Int) :
    idxN (fun i => lkN (lets o) (plW f o o.length) (rdI (plW f s s.length) i + d) (plW f o o.length).length == byt (lets s) i) (plW f s s.length).length = kptR f o s d := by
  unfold kptR
  rw [plW_len f s, ← idxN_kept]
  refine idxN_congr _ fun i hi => ?_
  have hl := isLet_iff.1 (lets_ll (vText_ls hs) i hi)
  rw [plW_len f o]
  exact lkN_kb (by omega) _ (fun a b h1 h2 => (plW_rise hV (vText_ls ho) _ (Nat.le_refl _)).2 a b h1 (by rw [plW_len]; exact h2))
theorem below_grownK {B bq : Nat} {w0 w w' : World} (hb : Below B w0 w) (h : w.grownBy w' (some bq)) (hq : B ≤ bq) (hB : B ≤ w.heap.size) : Below B w0 w' :=
  hb.trans ⟨h.os, h.tape, h.output, by obtain ⟨_, _, _, hs, _⟩ := h; omega, fun k hk => h.block k (by omega) (by intro e; injection e with e; omega)⟩
theorem grown_cell {w w' : World} {row : Option Nat} {a : Addr} {v : Value} (hg : w.grownBy w' row) (h : w.cell? a = some v) (hlt : a.block < w.heap.size) (hne : some a.block ≠ row) : w'.cell? a = some v := by
  have hb := hg.block a.block hlt hne
  rw [← h]
  simp [World.cell?, hb]
theorem lkN_succ (x : List UInt8) (a : List Int) (k : Nat) : (fun q => if rdI a k = q then byt x k else lkN x a q k) = fun q => lkN x a q (k + 1) := rfl
theorem byt_u8 (l : List UInt8) (i : Nat) : 0 ≤ byt l i ∧ byt l i ≤ 255 := by
  unfold byt
  have := (l.getD i 0).toNat_lt
  omega

attribute [local irreducible] wpAnyH in
set_option maxHeartbeats 4000000 in
set_option maxRecDepth 100000 in
theorem kept_impl (f : Fc) (A : Option Addr) (n c : Nat) (o s : ByteArray) (d : Int) (w : World) (hf : FcT f) (hV : FcV f) (hn : f.pairs.length = n) (hm : n ≤ 1048576) (hos : o.size ≤ 1048576) (hs : s.size ≤ 1048576) (ho : vText (bs o) = true) (ht : vText (bs s) = true) (hd : -400 ≤ d ∧ d ≤ 400) (h : SlP w A f.pairs) (hmx : MaxW w) :
    Calls Tryz.prog 30 #[.agg (fcV f (.slice A n c)).toArray, .string o, .string s, .int .i64 d] w (NsOut w (kptR f (bs o) (bs s) d)) := by
  have hmm := @run_makeMap Tryz.prog
  have hmf : ∀ (fn : Fn) (first cap : Array Value) (w : World), (Instr.makeFunc fn first cap).run Tryz.prog w = .ok (.func fn first cap) w := fun _ _ _ _ => rfl
  have HG := Lib.hid (show ∀ args w, (callFunc 63 args).run Tryz.prog w = .ok (.enter 63 args) w from enters_of Tryz.func63 (by kernel_rfl) rfl)
  obtain ⟨W0, hW0⟩ : ∃ W0, W0 = ((((w.alloc (.cells (fcV f (.slice A n c)).toArray 28)).alloc (.cells #[.string s] 9)).alloc (.cells #[.int .i64 d] 2)).alloc (.map #[] 0)).alloc (.cells #[.map (some (w.heap.size + 1 + 1 + 1))] 93) := ⟨_, rfl⟩
  have hB : Below w.heap.size w W0 := by rw [hW0]; exact ((((below_one w _).alloc (by simp) _).alloc (by simp; omega) _).alloc (by simp; omega) _).alloc (by simp; omega) _
  have hkF : Blk W0 w.heap.size 28 (fcV f (.slice A n c)) := by rw [hW0]; exact ((((Blk.new w _ _).alloc _).alloc _).alloc _).alloc _
  have hkS : Blk W0 (w.heap.size + 1) 9 [.string s] := by rw [hW0]; exact World.size_alloc w _ ▸ (((Blk.new (w.alloc (.cells (fcV f (.slice A n c)).toArray 28)) _ [.string s]).alloc _).alloc _).alloc _
  have hkD : Blk W0 (w.heap.size + 1 + 1) 2 [.int .i64 d] := by
    rw [hW0]
    have := (((Blk.new ((w.alloc (.cells (fcV f (.slice A n c)).toArray 28)).alloc (.cells #[.string s] 9)) 2 [.int .i64 d]).alloc (.map #[] 0)).alloc (.cells #[.map (some (w.heap.size + 1 + 1 + 1))] 93))
    rw [World.size_alloc, World.size_alloc] at this
    exact this
  have hkM : MapAt W0 (w.heap.size + 1 + 1 + 1) 0 (fun _ => 0) := by
    rw [hW0]
    have := (MapAt.made (((w.alloc (.cells (fcV f (.slice A n c)).toArray 28)).alloc (.cells #[.string s] 9)).alloc (.cells #[.int .i64 d] 2))).next (below_one _ (.cells #[.map (some (w.heap.size + 1 + 1 + 1))] 93))
    rw [World.size_alloc, World.size_alloc, World.size_alloc] at this
    exact this
  have hkV : Blk W0 (w.heap.size + 1 + 1 + 1 + 1) 93 [.map (some (w.heap.size + 1 + 1 + 1))] := by
    rw [hW0]
    have := Blk.new ((((w.alloc (.cells (fcV f (.slice A n c)).toArray 28)).alloc (.cells #[.string s] 9)).alloc (.cells #[.int .i64 d] 2)).alloc (.map #[] 0)) 93 [.map (some (w.heap.size + 1 + 1 + 1))]
    rw [World.size_alloc, World.size_alloc, World.size_alloc, World.size_alloc] at this
    exact this
  have hz0 : W0.heap.size = w.heap.size + 1 + 1 + 1 + 1 + 1 := by rw [hW0]; simp
  have hsz : (fcV f (.slice A n c)).toArray.size = 29 := by simp [fcV_length hf]
  have HZ := Lib.hid (show (Tryz.prog.info? 28).map (·.size) = some (fcV f (.slice A n c)).toArray.size by rw [hsz]; exact szFcI)
  have HF := Lib.hid hf
  have HVV := Lib.hid hV
  have HN := Lib.hid hn
  have HS := Lib.hid (h.next hB)
  have HSW := Lib.hid h
  have HMW := Lib.hid hmx
  have HM := Lib.hid (hmx.next hB)
  have HT1 := Lib.hid ho
  have HT2 := Lib.hid ht
  have HR := Lib.hid (kptR_look hV ho ht d)
  have HL1 := Lib.hid (plW_len f (bs o))
  have HL2 := Lib.hid (plW_len f (bs s))
  have HR1 := Lib.hid (fun i hi => plW_bound hV (vText_ls ho) (vText_len60 ho) (i := i) hi)
  have HR2 := Lib.hid (fun i hi => plW_bound hV (vText_ls ht) (vText_len60 ht) (i := i) hi)
  have hx60 : (lets (bs o)).length ≤ 60 := Nat.le_trans (lets_length _) (vText_len60 ho)
  have hy60 : (lets (bs s)).length ≤ 60 := Nat.le_trans (lets_length _) (vText_len60 ht)
  have ho60 : o.size ≤ 60 := by have := vText_len60 ho; rwa [bs_length] at this
  have hs60 : s.size ≤ 60 := by have := vText_len60 ht; rwa [bs_length] at this
  have HKD := Lib.hid hkD
  have HKS := Lib.hid hkS
  have HKM := Lib.hid hkM
  have HKV := Lib.hid hkV
  have HBB := Lib.hid hB
  have hlo : ∀ i, i < o.size → i < o.size := fun i h => h
  clear hf hV hn h hmx ho ht hsz hkD hkS hkM hkV hB hlo
  obtain ⟨x, hx⟩ : ∃ x, x = lets (bs o) := ⟨_, rfl⟩
  obtain ⟨y, hy⟩ : ∃ y, y = lets (bs s) := ⟨_, rfl⟩
  obtain ⟨p, hp⟩ : ∃ p, p = plW f (bs o) (bs o).length := ⟨_, rfl⟩
  obtain ⟨q, hq⟩ : ∃ q, q = plW f (bs s) (bs s).length := ⟨_, rfl⟩
  have hR := HR.out
  rw [← hx, ← hy, ← hp, ← hq] at hR
  rw [← hR]
  have HPL := Lib.hid (show p.length = x.length by rw [hp, hx]; exact HL1.out)
  have HQL := Lib.hid (show q.length = y.length by rw [hq, hy]; exact HL2.out)
  have HPR := Lib.hid (show ∀ i, i < p.length → 0 ≤ rdI p i ∧ rdI p i < 3600 by rw [hp]; exact HR1.out)
  have HQR := Lib.hid (show ∀ i, i < q.length → 0 ≤ rdI q i ∧ rdI q i < 3600 by rw [hq]; exact HR2.out)
  rw [← hx] at hx60
  rw [← hy] at hy60
  have hp60 : p.length ≤ 60 := by rw [HPL.out]; exact hx60
  have hq60 : q.length ≤ 60 := by rw [HQL.out]; exact hy60
  have HX := Lib.hid hx
  have HY := Lib.hid hy
  have HPP := Lib.hid hp
  have HQQ := Lib.hid hq
  clear hx hy hp hq hR HR HL1 HL2 HR1 HR2
  subst hW0
  go_enter Tryz.func30, Tryz.ntmps30
  go_wp2_with (refine wpList_load_row rfl 28 (.tmp 4) rfl _ rfl 28 (fcV f (.slice A n c)).toArray _ _ hkF Tryz.underlying28 rfl HZ.out ?_)
  have HKF := Lib.hid hkF
  clear hkF
  generalize ((((w.alloc (.cells (fcV f (.slice A n c)).toArray 28)).alloc (.cells #[.string s] 9)).alloc (.cells #[.int .i64 d] 2)).alloc (.map #[] 0)).alloc (.cells #[.map (some (w.heap.size + 1 + 1 + 1))] 93) = W0 at *
  go_at_call 43
  refine (places_any f A n c o W0 HF.out HVV.out HN.out hm (vText_ls HT1.out) ho60 HS.out).mono ?_
  rintro e w1 ⟨A1, c1, rfl, hb1, ho1⟩
  rw [← HPP.out] at ho1 ⊢
  have HO1 := Lib.hid ho1
  have HM1 := Lib.hid (HKM.out.next hb1)
  have g1 := hb1.size
  have HB1 := Lib.hid hb1
  clear ho1 hb1
  go_wp2
  go_loopw [25] (fun i wr => ∃ k : Nat, k ≤ p.length ∧ i = .int .i64 k ∧ MapAt wr (w.heap.size + 1 + 1 + 1) k (fun q => lkN x p q k) ∧ w1.grownBy wr (some (w.heap.size + 1 + 1 + 1))) (fun i _ => p.length - (intOf i).toNat)
  case atStart => exact ⟨0, by omega, rfl, HM1.out, grown_refl _ _⟩
  case round =>
    obtain ⟨k, hk, rfl, hmap, hg⟩ := hrel
    have hgs : w1.heap.size ≤ wr.heap.size := by obtain ⟨_, _, _, hgs, _⟩ := hg; exact hgs
    have HMX := Lib.hid (show MaxW wr from HMW.out.next (below_grownK (below_step HBB.out HB1.out) hg (by omega) (by have := HBB.out.size; omega)))
    have hVr := ((HKV.out.next HB1.out).grown hg (by first | (simp; done) | (simp; omega))).cell 0 _ rfl
    by_cases hlt : k < p.length
    · obtain ⟨a1, rfl, r1⟩ := (HO1.out.grown hg (fun b e => by cases e; exact .inl (by omega))).sl.some k hlt
      have hc1 := r1.atI64 k hlt
      have hpk := HPR.out k hlt
      have hkx : k < (⟨x.toArray⟩ : ByteArray).size := by show k < x.length; rw [← HPL.out]; exact hlt
      have hkl : k < maxLen := by unfold maxLen; have := HPL.out; omega
      clear r1
      go_wp2
      refine heldS_begin (S := fun w' => w'.cell? ⟨w.heap.size + 1 + 1 + 1 + 1, 0, none⟩ = some (.map (some (w.heap.size + 1 + 1 + 1)))) (by kernel_rfl) ?_
      have hS : (wr.drew).cell? ⟨w.heap.size + 1 + 1 + 1 + 1, 0, none⟩ = some (.map (some (w.heap.size + 1 + 1 + 1))) := hVr
      refine heldS_take 0 (.map (some (w.heap.size + 1 + 1 + 1))) rfl (by kernel_rfl) (by kernel_rfl) (by kernel_rfl) (fun _ _ _ h => h) (by kernel_rfl) (fun w' hw' => exec_load1 93 (.tmp 9) rfl ⟨w.heap.size + 1 + 1 + 1 + 1, 0, none⟩ (by kernel_rfl) (.map (some (w.heap.size + 1 + 1 + 1))) (hw') _ Tryz.underlying93 rfl) hS ?_
      refine heldS_take 1 (.int .i64 (rdI p k)) rfl (by kernel_rfl) (by kernel_rfl) (by kernel_rfl) (fun _ _ _ h => h) (by kernel_rfl) (fun w' hw' => by kernel_rfl) hS ?_
      refine heldS_take 2 (.string o) rfl (by kernel_rfl) (by kernel_rfl) (by kernel_rfl) (fun _ _ _ h => h) (by kernel_rfl) (fun w' hw' => by kernel_rfl) hS ?_
      refine heldS_take 4 (.int .i64 k) rfl (by kernel_rfl) (by kernel_rfl) (by kernel_rfl) (fun _ _ _ h => h) (by kernel_rfl) (fun w' hw' => by kernel_rfl) hS ?_
      refine heldS_call 3 31 #[.string o] rfl (by kernel_rfl) (by kernel_rfl) (by kernel_rfl) ?_
      refine (letters_impl o wr.drew hos (show MaxW wr.drew from HMX.out)).mono ?_
      rintro e w2 ⟨rfl, hb2⟩
      have hb2 := below_step (below_drewN (Below.refl wr.heap.size wr) 1) hb2
      rw [← HX.out]
      have hS := (hb2.cell (by show w.heap.size + 1 + 1 + 1 + 1 < wr.heap.size; omega)).trans hS
      refine ⟨_, rfl, hS, ?_⟩
      refine heldS_take 5 (.int .u8 (byS ⟨x.toArray⟩ k)) rfl (by kernel_rfl) (by kernel_rfl) (by kernel_rfl) (fun _ _ _ h => h) (by kernel_rfl) (fun w' hw' => exec_byte (.tmp 33) (.tmp 34) rfl ⟨x.toArray⟩ (by kernel_rfl) k (by kernel_rfl) hkx) hS ?_
      have hg2 : w1.grownBy w2 (some (w.heap.size + 1 + 1 + 1)) := grownBy_trans hg (grown_none hb2 _)
      obtain ⟨w3, hrun, hmap3, hg3⟩ := (hmap.next hb2).put hkl (rdI p k) (byt x k) (by omega) (byt_u8 x k)
      have hS3 : w3.cell? ⟨w.heap.size + 1 + 1 + 1 + 1, 0, none⟩ = some (.map (some (w.heap.size + 1 + 1 + 1))) := grown_cell hg3 hS (by have := hb2.size; show w.heap.size + 1 + 1 + 1 + 1 < _; have e : wr.drew.heap.size = wr.heap.size := rfl; omega) (by simp)
      refine heldS_skip 6 w3 rfl (by kernel_rfl) (by kernel_rfl) (exec_mapUpdate 93 (.tmp 30) (.tmp 31) (.tmp 35) rfl _ _ _ (by kernel_rfl) (by kernel_rfl) (by kernel_rfl) _ _ hrun) hS3 ?_
      refine held_done (by kernel_rfl) ?_
      simp only [Act.put, List.setIfInBounds_toArray, List.set_cons_succ, List.set_cons_zero]
      have hmap3 : MapAt w3 (w.heap.size + 1 + 1 + 1) (k + 1) (fun q => lkN x p q (k + 1)) := hmap3
      have hg3 := grownBy_trans hg2 hg3
      clear hS hS3 hg2 hrun hb2 hVr hmap hg
      go_wp2
      go_roundw
      case rel => exact ⟨k + 1, by omega, by go_num, hmap3, hg3⟩
      case measure => simp [intOf]; omega
    · obtain rfl : k = p.length := by omega
      have hkF2 := (HKF.out.next HB1.out).grown hg (by first | (simp; done) | (simp; omega))
      have hS2 := ((HKS.out.next HB1.out).grown hg (by first | (simp; done) | (simp; omega))).cell 0 _ rfl
      have hD2 := ((HKD.out.next HB1.out).grown hg (by first | (simp; done) | (simp; omega))).cell 0 _ rfl
      have HGG := Lib.hid hg
      have HMP := Lib.hid hmap
      have HVR := Lib.hid hVr
      clear hg hmap hVr
      go_wp2_with (refine wpList_load_row rfl 28 (.tmp 4) rfl _ rfl 28 (fcV f (.slice A n c)).toArray _ _ hkF2 Tryz.underlying28 rfl HZ.out ?_)
      have HS2 := Lib.hid hS2
      have HD2 := Lib.hid hD2
      have hBr := below_grownK (below_step HBB.out HB1.out) HGG.out (by omega) (by have := HBB.out.size; omega)
      have HBR := Lib.hid hBr
      go_at_call 43
      refine (places_any f A n c s wr HF.out HVV.out HN.out hm (vText_ls HT2.out) hs60 (HSW.out.next hBr)).mono ?_
      rintro e w4 ⟨A2, c2, rfl, hb4, ho4⟩
      rw [← HQQ.out] at ho4 ⊢
      have g4 := hb4.size
      have zA : (w4.alloc (.cells #[.slice A2 q.length c2] 41)).heap.size = w4.heap.size + 1 := by simp
      have hbA := below_one w4 (.cells #[.slice A2 q.length c2] 41)
      have hb5 := below_step hb4 hbA
      have hkp : KpW (w4.alloc (.cells #[.slice A2 q.length c2] 41)) (w.heap.size + 1) (w.heap.size + 1 + 1) (w.heap.size + 1 + 1 + 1) (w.heap.size + 1 + 1 + 1 + 1) w4.heap.size p.length (fun t => lkN x p t p.length) A2 c2 q d s :=
        ⟨HMP.out.next hb5, (hb5.cell (by show w.heap.size + 1 + 1 + 1 + 1 < _; omega)).trans HVR.out, (Blk.new w4 41 [.slice A2 q.length c2]).cell 0 _ rfl, ho4.sl.next hbA, (hb5.cell (by show w.heap.size + 1 + 1 < _; omega)).trans HD2.out, (hb5.cell (by show w.heap.size + 1 < _; omega)).trans HS2.out, (HMW.out.next hBr).next hb5, by omega⟩
      have HKP := Lib.hid hkp
      have hcO := hkp.own
      have HB5 := Lib.hid hb5
      clear hkp hb5 hbA hb4 ho4 hBr
      go_wp2_with fail
      go_at_call 62
      refine (indices_any 63 #[.pointer (some ⟨w.heap.size + 1 + 1 + 1 + 1, 0, none⟩), .pointer (some ⟨w4.heap.size, 0, none⟩), .pointer (some ⟨w.heap.size + 1 + 1, 0, none⟩), .pointer (some ⟨w.heap.size + 1, 0, none⟩)] HG.out (fun i => lkN x p (rdI q i + d) p.length == byt y i) q.length _ (by omega) (fun W i hi hb => ?_)).mono ?_
      · rw [HY.out]
        exact kept1_any W _ _ _ _ _ _ _ A2 c2 q d s i (HKP.out.next hb) hi (HQR.out i hi) hd (by rw [← HY.out]; exact HQL.out.symm) hs
      rintro e w5 ⟨A3, c3, rfl, hb6, ho6⟩
      have hfin := below_step (below_step HBR.out HB5.out) hb6
      have hfz := HBR.out.size
      go_wp2
      go_ret
      exact ⟨A3, c3, rfl, hfin, ho6.low (by omega)⟩
end Go.Proofs.YtpindajpdkpfjaaGreatDoor
namespace Go.Proofs.YtpindajpdkpfjaaGreatDoor
open Go Go.RowKit
set_option linter.unusedVariables false
set_option linter.unusedSimpArgs false

set_option maxHeartbeats 1000000 in
set_option maxRecDepth 100000 in
theorem shiftCode_any (f : Fc) (A : Option Addr) (n c : Nat) (o s : ByteArray) (w : World) (hf : FcT f) (hn : f.pairs.length = n) (hm : n ≤ 1048576) (hos : o.size ≤ 1048576) (hs : s.size ≤ 1048576) (h : SlP w A f.pairs) (hmx : MaxW w) :
    Calls Tryz.prog 25 #[.agg (fcV f (.slice A n c)).toArray, .string o, .string s] w fun e w' => e = .returned (.int .i64 (kepC f (bs o) (bs s) true)) ∧ Below w.heap.size w w' := by
  have hB := below_one w (.cells (fcV f (.slice A n c)).toArray 28)
  have hk := Blk.new w 28 (fcV f (.slice A n c))
  have hsl := h.next hB
  have hmx := hmx.next hB
  have HF := Lib.hid hf
  have HN := Lib.hid hn
  have HS := Lib.hid hsl
  have HM := Lib.hid hmx
  have hsz : (fcV f (.slice A n c)).toArray.size = 29 := by simp [fcV_length hf]
  have HZ := Lib.hid (show (Tryz.prog.info? 28).map (·.size) = some (fcV f (.slice A n c)).toArray.size by rw [hsz]; exact szFcI)
  clear hf hn h hmx hsl hsz
  cases hv : validF f
  · have HO := Lib.hid (kepC_f (o := bs o) (w := bs s) (b := true) hv)
    go_enter Tryz.func25, Tryz.ntmps25
    go_wp2_with (first
      | (refine wpList_load_row rfl 28 (.tmp 3) rfl _ rfl 28 (fcV f (.slice A n c)).toArray _ _ hk Tryz.underlying28 rfl HZ.out ?_)
      | (go_at_call 52; refine (face_impl f A n c _ HF.out HN.out hm HS.out).mono ?_; rintro e w1 ⟨rfl, hb⟩; have hB := below_step hB hb; clear hb)
      | (go_at_call 51; refine (unless_any _ _ _).mono ?_; rintro e w2 ⟨rfl, rfl⟩))
    go_ret
    exact ⟨retI HO.out.symm, hB⟩
  · cases ht : vText (bs o)
    · have HO := Lib.hid (kepC_o (f := f) (w := bs s) (b := true) ht)
      have HT := Lib.hid ht
      go_enter Tryz.func25, Tryz.ntmps25
      go_wp2_with (first
        | (refine wpList_load_row rfl 28 (.tmp 3) rfl _ rfl 28 (fcV f (.slice A n c)).toArray _ _ hk Tryz.underlying28 rfl HZ.out ?_)
        | (go_at_call 52; refine (face_impl f A n c _ HF.out HN.out hm HS.out).mono ?_; rintro e w1 ⟨rfl, hb⟩; have hB := below_step hB hb; have hmx := HM.out.next hb; clear hb)
        | (go_at_call 53; refine (text_impl o _ hos hmx).mono ?_; rintro e w2 ⟨rfl, q, rfl⟩; have hB := below_drewN hB q)
        | (go_at_call 51; refine (unless_any _ _ _).mono ?_; rintro e w2 ⟨rfl, rfl⟩))
      go_ret
      exact ⟨retI HO.out.symm, hB⟩
    · cases hu : vText (bs s)
      · have HO := Lib.hid (kepC_w (f := f) (o := bs o) (b := true) hu)
        go_enter Tryz.func25, Tryz.ntmps25
        go_wp2_with (first
          | (refine wpList_load_row rfl 28 (.tmp 3) rfl _ rfl 28 (fcV f (.slice A n c)).toArray _ _ hk Tryz.underlying28 rfl HZ.out ?_)
          | (go_at_call 52; refine (face_impl f A n c _ HF.out HN.out hm HS.out).mono ?_; rintro e w1 ⟨rfl, hb⟩; have hB0 := below_step hB hb; have hB := hB0; have hmx := HM.out.next hb; clear hb; go_wp2_with fail; go_at_call 53; refine (text_impl o _ hos hmx).mono ?_; rintro e w2 ⟨rfl, q, rfl⟩; have hB := below_drewN hB q; have hmx := hmx.next (below_drewN (Below.refl _ _) q); go_wp2_with fail; go_at_call 53; refine (text_impl s _ hs hmx).mono ?_; rintro e w2 ⟨rfl, q2, rfl⟩; have hB := below_drewN hB q2; go_wp2_with (go_at_call 51; refine (unless_any _ _ _).mono ?_; rintro e w2 ⟨rfl, rfl⟩)))
        go_ret
        exact ⟨retI HO.out.symm, below_drewN hB0 _⟩
      · have HO := Lib.hid (kepC_ok (b := true) hv ht hu)
        go_enter Tryz.func25, Tryz.ntmps25
        go_wp2_with (first
          | (refine wpList_load_row rfl 28 (.tmp 3) rfl _ rfl 28 (fcV f (.slice A n c)).toArray _ _ hk Tryz.underlying28 rfl HZ.out ?_)
          | (go_at_call 52; refine (face_impl f A n c _ HF.out HN.out hm HS.out).mono ?_; rintro e w1 ⟨rfl, hb⟩; have hB0 := below_step hB hb; have hB := hB0; have hmx := HM.out.next hb; clear hb; go_wp2_with fail; go_at_call 53; refine (text_impl o _ hos hmx).mono ?_; rintro e w2 ⟨rfl, q, rfl⟩; have hB := below_drewN hB q; have hmx := hmx.next (below_drewN (Below.refl _ _) q); go_wp2_with fail; go_at_call 53; refine (text_impl s _ hs hmx).mono ?_; rintro e w2 ⟨rfl, q2, rfl⟩; have hB := below_drewN hB q2; go_wp2_with (go_at_call 51; refine (unless_any _ _ _).mono ?_; rintro e w2 ⟨rfl, rfl⟩)))
        go_ret
        exact ⟨retI HO.out.symm, below_drewN hB0 _⟩

theorem inB_400 {d : Int} (h : inB (-400) 400 d = true) : -400 ≤ d ∧ d ≤ 400 := inB_iff.1 h
set_option maxHeartbeats 1000000 in
set_option maxRecDepth 100000 in
theorem keptAt_spec (f : Fc) (A : Option Addr) (n c : Nat) (o s : ByteArray) (d : Int) (w : World) (hf : FcT f) (hn : f.pairs.length = n) (hm : n ≤ 1048576) (hos : o.size ≤ 1048576) (hs : s.size ≤ 1048576) (h : SlP w A f.pairs) :
    Calls Tryz.prog 14 #[.agg (fcV f (.slice A n c)).toArray, .string o, .string s, .int .i64 d] w (LcOut w (keptOut f (bs o) (bs s) d)) := by
  have hB := below_one w (.cells (fcV f (.slice A n c)).toArray 28)
  have hfa : FcAt (w.alloc (.cells (fcV f (.slice A n c)).toArray 28)) w.heap.size f n := ⟨A, c, Blk.new w 28 (fcV f (.slice A n c)), h.next hB⟩
  have hz := hB.size
  have HF := Lib.hid hf
  have HN := Lib.hid hn
  have HA := Lib.hid hfa
  clear hf hn h hfa
  obtain ⟨fb, hfb⟩ : ∃ fb, fb = inB (-400) 400 d := ⟨_, rfl⟩
  obtain ⟨cd, hcd⟩ : ∃ cd, cd = kepC f (bs o) (bs s) fb := ⟨_, rfl⟩
  have HB := Lib.hid hfb
  have HC := Lib.hid hcd
  by_cases h0 : cd = 0
  · have hz0 := hcd.symm.trans h0
    obtain ⟨hv, ht, hu, hb⟩ := kepC_zero hz0
    have HV := Lib.hid (validF_iff.1 hv)
    have HT := Lib.hid ht
    have HU := Lib.hid hu
    have HD := Lib.hid (inB_400 (hfb.symm.trans hb))
    have HO := Lib.hid (show keptOut f (bs o) (bs s) d = (kptR f (bs o) (bs s) d, 0) by unfold keptOut; rw [← hfb, if_pos hz0])
    subst h0
    clear hv ht hu hb hcd hz0 hfb
    rw [HO.out]
    go_enter Tryz.func14, Tryz.ntmps14
    go_wp2_with (first
      | (go_at_call 40; refine (inS_any _ _ _ _).mono ?_; rintro e w1 ⟨he, rfl⟩; rw [← HB.out] at he; subst he)
      | (go_at_call 27; refine (shiftC_spec f n w.heap.size o s fb _ HF.out HN.out hm hos hs HA.out).mono ?_; rintro e w1 ⟨he, hb1⟩; rw [← HC.out] at he; subst he)
      | (go_at_call 35; refine (kept_spec f n w.heap.size o s d _ HF.out HV.out HN.out hm hos hs HT.out HU.out HD.out (HA.out.next hb1)).mono ?_; rintro e w2 ⟨A2, c2, rfl, hb2, ho2⟩))
    go_ret2
    have hz1 := hb1.size
    exact ⟨A2, c2, rfl, below_step hB (below_step hb1 hb2), ho2.low (by omega)⟩
  · have HO := Lib.hid (show keptOut f (bs o) (bs s) d = ([], kepC f (bs o) (bs s) fb) by unfold keptOut; rw [← hfb, if_neg (fun h => h0 (hcd.trans h))])
    rw [HO.out, ← HC.out]
    clear hcd hfb
    go_enter Tryz.func14, Tryz.ntmps14
    go_wp2_with (first
      | (go_at_call 40; refine (inS_any _ _ _ _).mono ?_; rintro e w1 ⟨he, rfl⟩; rw [← HB.out] at he; subst he)
      | (go_at_call 27; refine (shiftC_spec f n w.heap.size o s fb _ HF.out HN.out hm hos hs HA.out).mono ?_; rintro e w1 ⟨he, hb1⟩; rw [← HC.out] at he; subst he))
    go_ret2
    exact ⟨_, _, rfl, below_step hB (below_step hb1 (below_one _ _)), OwnS.nil⟩

theorem kepC_true {f : Fc} {o w : List UInt8} (h : ¬ kepC f o w true = 0) (b : Bool) : kepC f o w b = kepC f o w true := by
  unfold kepC at h ⊢
  split
  · rename_i hh; rw [if_pos hh] at h; simp at h
  · rfl
set_option maxHeartbeats 1000000 in
set_option maxRecDepth 100000 in
theorem keptAt_impl (f : Fc) (A : Option Addr) (n c : Nat) (o s : ByteArray) (d : Int) (w : World) (hf : FcT f) (hn : f.pairs.length = n) (hm : n ≤ 1048576) (hos : o.size ≤ 1048576) (hs : s.size ≤ 1048576) (h : SlP w A f.pairs) (hmx : MaxW w) :
    Calls Tryz.prog 13 #[.agg (fcV f (.slice A n c)).toArray, .string o, .string s, .int .i64 d] w (LcOut w (keptOut f (bs o) (bs s) d)) := by
  have hB := below_one w (.cells (fcV f (.slice A n c)).toArray 28)
  have hk := Blk.new w 28 (fcV f (.slice A n c))
  have hz := hB.size
  have hsz : (fcV f (.slice A n c)).toArray.size = 29 := by simp [fcV_length hf]
  have HZ := Lib.hid (show (Tryz.prog.info? 28).map (·.size) = some (fcV f (.slice A n c)).toArray.size by rw [hsz]; exact szFcI)
  have HF := Lib.hid hf
  have HN := Lib.hid hn
  have HS := Lib.hid (h.next hB)
  have HM := Lib.hid (hmx.next hB)
  clear hf hn h hmx hsz
  obtain ⟨cd, hcd⟩ : ∃ cd, cd = kepC f (bs o) (bs s) true := ⟨_, rfl⟩
  have HC := Lib.hid hcd
  by_cases h0 : cd = 0
  · have hz0 := hcd.symm.trans h0
    obtain ⟨hv, ht, hu, _⟩ := kepC_zero hz0
    have HV := Lib.hid (validF_iff.1 hv)
    have HT := Lib.hid ht
    have HU := Lib.hid hu
    subst h0
    cases hb : inB (-400) 400 d
    · have HB := Lib.hid hb
      have HO := Lib.hid (show keptOut f (bs o) (bs s) d = ([], 2) by unfold keptOut; rw [hb, kepC_ok hv ht hu]; rfl)
      clear hv ht hu hb hcd hz0
      rw [HO.out]
      go_enter Tryz.func13, Tryz.ntmps13
      go_wp2_with (first
        | (refine wpList_load_row rfl 28 (.tmp 4) rfl _ rfl 28 (fcV f (.slice A n c)).toArray _ _ hk Tryz.underlying28 rfl HZ.out ?_)
        | (go_at_call 25; refine (shiftCode_any f A n c o s _ HF.out HN.out hm hos hs HS.out HM.out).mono ?_; rintro e w1 ⟨he, hb1⟩; rw [← HC.out] at he; subst he)
        | (go_at_call 39; refine (withinI_any _ _ _ _).mono ?_; rintro e w2 ⟨he, rfl⟩; rw [HB.out] at he; subst he))
      go_ret2
      exact ⟨_, _, rfl, below_step hB hb1, OwnS.nil⟩
    · have HB := Lib.hid hb
      have HD := Lib.hid (inB_400 hb)
      have HO := Lib.hid (show keptOut f (bs o) (bs s) d = (kptR f (bs o) (bs s) d, 0) by unfold keptOut; rw [hb, if_pos hz0])
      clear hv ht hu hb hcd hz0
      rw [HO.out]
      go_enter Tryz.func13, Tryz.ntmps13
      go_wp2_with (first
        | (refine wpList_load_row rfl 28 (.tmp 4) rfl _ rfl 28 (fcV f (.slice A n c)).toArray _ _ hk Tryz.underlying28 rfl HZ.out ?_)
        | (go_at_call 25; refine (shiftCode_any f A n c o s _ HF.out HN.out hm hos hs HS.out HM.out).mono ?_; rintro e w1 ⟨he, hb1⟩; rw [← HC.out] at he; subst he; have hk := hk.next hb1)
        | (go_at_call 39; refine (withinI_any _ _ _ _).mono ?_; rintro e w2 ⟨he, rfl⟩; rw [HB.out] at he; subst he)
        | (go_at_call 30; refine (kept_impl f A n c o s d _ HF.out HV.out HN.out hm hos hs HT.out HU.out HD.out (HS.out.next hb1) (HM.out.next hb1)).mono ?_; rintro e w2 ⟨A2, c2, rfl, hb2, ho2⟩))
      go_ret2
      have hz1 := hb1.size
      exact ⟨A2, c2, rfl, below_step hB (below_step hb1 hb2), ho2.low (by omega)⟩
  · have HO := Lib.hid (show keptOut f (bs o) (bs s) d = ([], kepC f (bs o) (bs s) true) by
      have h1 : ¬ kepC f (bs o) (bs s) true = 0 := fun h => h0 (hcd.trans h)
      unfold keptOut
      rw [kepC_true h1, if_neg h1])
    rw [HO.out, ← HC.out]
    clear hcd
    go_enter Tryz.func13, Tryz.ntmps13
    go_wp2_with (first
      | (refine wpList_load_row rfl 28 (.tmp 4) rfl _ rfl 28 (fcV f (.slice A n c)).toArray _ _ hk Tryz.underlying28 rfl HZ.out ?_)
      | (go_at_call 25; refine (shiftCode_any f A n c o s _ HF.out HN.out hm hos hs HS.out HM.out).mono ?_; rintro e w1 ⟨he, hb1⟩; rw [← HC.out] at he; subst he))
    go_ret2
    exact ⟨_, _, rfl, below_step hB hb1, OwnS.nil⟩
end Go.Proofs.YtpindajpdkpfjaaGreatDoor
