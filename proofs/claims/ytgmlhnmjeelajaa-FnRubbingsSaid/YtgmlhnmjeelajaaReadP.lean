/- A rubbing's text is read: what is read, and when the text is one. No walk here. -/
import Derived.Test.YtgmlhnmjeelajaaRubT

namespace Go.Proofs.Ytgmlhnmjeelajaa
open Go Go.RowKit
set_option linter.unusedVariables false
set_option linter.unusedSimpArgs false

/-- A byte of a text, 0 behind its end. -/
def rdB (s : ByteArray) (i : Nat) : Int := ((s.data.toList.getD i 0).toNat : Int)
theorem rdB_range (s : ByteArray) (i : Nat) : 0 ≤ rdB s i ∧ rdB s i ≤ 255 := by
  unfold rdB
  have := (s.data.toList.getD i 0).toNat_lt
  omega
/-- What stands in the places of the dots. -/
def markP (s : ByteArray) (y x : Nat) : Bool := decide (17 * y + x < s.size) && (rdB s (17 * y + x) == 35)
def readR (s : ByteArray) : List Nat := (List.range 8).map fun y => bitsN (markP s y) 16
theorem readR_length (s : ByteArray) : (readR s).length = 8 := by simp [readR]
theorem rdN_readR (s : ByteArray) (y : Nat) (hy : y < 8) : rdN (readR s) y = bitsN (markP s y) 16 := by
  simp [rdN, readR, List.getD, List.getElem?_map, List.getElem?_range hy]
theorem readR_lt (s : ByteArray) : ∀ k, rdN (readR s) k < 65536 := by
  intro k
  by_cases hk : k < 8
  · rw [rdN_readR s k hk]; exact bitsN_lt _ 16
  · have : rdN (readR s) k = 0 := by unfold rdN; rw [List.getD, List.getElem?_eq_none (by rw [readR_length]; omega)]; rfl
    omega
theorem dk_readR (s : ByteArray) (y x : Nat) (hy : y < 8) (hx : x < 16) : dk (readR s) x y = markP s y x := by
  rw [dkT_in _ y x hy hx, rdN_readR s y hy, testBit_bitsN, decide_eq_true hx, Bool.true_and]

/-- A text of a rubbing: eight rows of sixteen dots, a newline behind each. -/
structure Good (s : ByteArray) : Prop where
  size : s.size = 136
  nl : ∀ y, y < 8 → rdB s (17 * y + 16) = 10
  dot : ∀ y, y < 8 → ∀ x, x < 16 → rdB s (17 * y + x) = 35 ∨ rdB s (17 * y + x) = 46

/-- The bytes of the rubbing's text, by their places. -/
theorem rowC_length (r : List Nat) (y k : Nat) : (rowC r y k).length = k := by simp [rowC]
theorem rowsC_at (r : List Nat) (n y x : Nat) (hy : y < n) (hx : x < 17) : (rowsC r n)[17 * y + x]? = some (if x < 16 then dotC (dk r x y) else 10) := by
  induction n with
  | zero => omega
  | succ n ih =>
    rw [rowsC]
    by_cases h : y < n
    · rw [List.append_assoc, List.getElem?_append_left (by rw [rowsC_length]; omega)]
      exact ih h
    · have e : y = n := by omega
      subst e
      rw [List.append_assoc, List.getElem?_append_right (by rw [rowsC_length]; omega), rowsC_length, Nat.add_sub_cancel_left]
      by_cases h16 : x < 16
      · rw [List.getElem?_append_left (by rw [rowC_length]; exact h16), if_pos h16]
        unfold rowC
        rw [List.getElem?_map, List.getElem?_range h16]; rfl
      · have : x = 16 := by omega
        subst this
        rw [List.getElem?_append_right (by rw [rowC_length]; omega), rowC_length, if_neg (by omega)]; rfl

/-- Is the text the one of the rubbing that was read. -/
def okS (s : ByteArray) : Bool := (strI (rowsC (readR s) 8)).toList == s.toList
theorem toList_data (s : ByteArray) : s.toList = s.data.toList := ByteArray.toList_eq s
theorem strI_list (l : List Int) : (strI l).data.toList = l.map fun n => UInt8.ofNat n.toNat := rfl
theorem okS_good {s : ByteArray} (h : okS s = true) : Good s := by
  unfold okS at h
  have h1 := eq_of_beq h
  rw [toList_data, toList_data, strI_list] at h1
  have hsz : s.size = 136 := by
    have := congrArg List.length h1
    rw [List.length_map, rowsC_length] at this
    show s.data.size = 136
    rw [← Array.length_toList]; omega
  have hat : ∀ y, y < 8 → ∀ x, x < 17 → rdB s (17 * y + x) = ((UInt8.ofNat (if x < 16 then dotC (dk (readR s) x y) else 10).toNat).toNat : Int) := by
    intro y hy x hx
    unfold rdB
    rw [← h1, List.getD, List.getElem?_map, rowsC_at _ 8 y x hy hx]; rfl
  refine ⟨hsz, fun y hy => ?_, fun y hy x hx => ?_⟩
  · rw [hat y hy 16 (by omega), if_neg (by omega)]; rfl
  · rw [hat y hy x (by omega), if_pos hx]
    cases dk (readR s) x y
    · right; rfl
    · left; rfl
theorem good_okS {s : ByteArray} (h : Good s) : okS s = true := by
  unfold okS
  rw [toList_data, toList_data, strI_list, beq_iff_eq]
  apply List.ext_getElem?
  intro i
  have hlen : s.data.toList.length = 136 := by rw [Array.length_toList]; exact h.size
  by_cases hi : i < 136
  · have e : i = 17 * (i / 17) + i % 17 := (Nat.div_add_mod i 17).symm
    have hy : i / 17 < 8 := by omega
    have hx : i % 17 < 17 := by omega
    rw [e, List.getElem?_map, rowsC_at _ 8 _ _ hy hx, ← e, List.getElem?_eq_getElem (by omega)]
    have hb : rdB s i = ((s.data.toList[i]'(by omega)).toNat : Int) := by
      unfold rdB; rw [List.getD, List.getElem?_eq_getElem (by omega)]; rfl
    simp only [Option.map_some]
    congr 1
    apply UInt8.toNat_inj.1
    by_cases h16 : i % 17 < 16
    · rw [if_pos h16, dk_readR s _ _ hy h16]
      unfold markP
      rw [← e, decide_eq_true (by rw [h.size]; exact hi), Bool.true_and]
      have hd := h.dot _ hy _ h16
      rw [← e] at hd
      rcases hd with hd | hd
      · rw [hd] at hb ⊢
        show (35 : Nat) = _
        omega
      · rw [hd] at hb ⊢
        show (46 : Nat) = _
        omega
    · have e16 : i % 17 = 16 := by omega
      have hn := h.nl _ hy
      rw [show 17 * (i / 17) + 16 = i by omega] at hn
      rw [if_neg h16]
      rw [hn] at hb
      show (10 : Nat) = _
      omega
  · rw [List.getElem?_eq_none (by rw [List.length_map, rowsC_length]; omega), List.getElem?_eq_none (by omega)]
/-- What ReadRubbing returns. -/
def zR' : List Nat := List.replicate 8 0
def readOut (s : ByteArray) : List Nat × Int := if okS s then (readR s, 0) else (zR', 5)
theorem readOut_yes {s : ByteArray} (h : Good s) : readOut s = (readR s, 0) := by unfold readOut; rw [good_okS h]; rfl
theorem readOut_no {s : ByteArray} (h : ¬ Good s) : readOut s = (zR', 5) := by
  unfold readOut
  cases hq : okS s
  · rfl
  · exact absurd (okS_good hq) h
theorem readOut_length (s : ByteArray) : (readOut s).1.length = 8 := by
  unfold readOut; split
  · exact readR_length s
  · rfl

/-! ### The lines of a text -/
def begF (s : ByteArray) : Nat → Nat
  | 0 => 0
  | i + 1 => if rdB s i == 10 then i + 1 else begF s i
def piecesF (s : ByteArray) : Nat → List ByteArray
  | 0 => []
  | i + 1 => if rdB s i == 10 then piecesF s i ++ [s.extract (begF s i) i] else piecesF s i
def linesF (s : ByteArray) : List ByteArray := piecesF s s.size ++ [s.extract (begF s s.size) s.size]
theorem begF_le (s : ByteArray) (i : Nat) : begF s i ≤ i := by
  induction i with
  | zero => exact Nat.le_refl _
  | succ i ih => rw [begF]; split <;> omega
theorem begF_yes {s : ByteArray} {i : Nat} (h : (rdB s i == 10) = true) : begF s (i + 1) = i + 1 := by rw [begF, if_pos h]
theorem begF_no {s : ByteArray} {i : Nat} (h : (rdB s i == 10) = false) : begF s (i + 1) = begF s i := by rw [begF, h]; rfl
theorem piecesF_yes {s : ByteArray} {i : Nat} (h : (rdB s i == 10) = true) : piecesF s (i + 1) = piecesF s i ++ [s.extract (begF s i) i] := by rw [piecesF, if_pos h]
theorem piecesF_no {s : ByteArray} {i : Nat} (h : (rdB s i == 10) = false) : piecesF s (i + 1) = piecesF s i := by rw [piecesF, h]; rfl
theorem piecesF_length (s : ByteArray) (i : Nat) : (piecesF s i).length ≤ i := by
  induction i with
  | zero => exact Nat.le_refl _
  | succ i ih =>
    rw [piecesF]
    split
    · rw [List.length_append, List.length_singleton]; omega
    · omega
theorem extract_size (s : ByteArray) (b e : Nat) (he : e ≤ s.size) : (s.extract b e).size = e - b := by
  rw [ByteArray.size_extract]; omega
theorem rdB_extract (s : ByteArray) (b e x : Nat) (he : e ≤ s.size) (hx : b + x < e) : rdB (s.extract b e) x = rdB s (b + x) := by
  unfold rdB
  congr 2
  rw [ByteArray.data_extract, List.getD, List.getD]
  congr 1
  simp only [Array.toList_extract]
  rw [List.extract_eq_take_drop, List.getElem?_take_of_lt (by omega), List.getElem?_drop]

/-- Where piece j begins. -/
def offs (ls : List ByteArray) (j : Nat) : Nat := sumN (fun i => (rdS ls i).size + 1) j
theorem rdS_left {ls ms : List ByteArray} {i : Nat} (h : i < ls.length) : rdS (ls ++ ms) i = rdS ls i := by
  simp [rdS, List.getD, List.getElem?_append_left h]
theorem rdS_last (ls : List ByteArray) (x : ByteArray) : rdS (ls ++ [x]) ls.length = x := by simp [rdS, List.getD]
theorem offs_left {ls ms : List ByteArray} {j : Nat} (h : j ≤ ls.length) : offs (ls ++ ms) j = offs ls j := sumN_congr fun i hi => by rw [rdS_left (by omega)]
/-- What the pieces are. -/
structure PiecesOk (s : ByteArray) (ls : List ByteArray) (b : Nat) : Prop where
  last : offs ls ls.length = b
  byte : ∀ j, j < ls.length → ∀ x, x < (rdS ls j).size → rdB (rdS ls j) x = rdB s (offs ls j + x)
  nl : ∀ j, j < ls.length → rdB s (offs ls j + (rdS ls j).size) = 10
theorem pieces_ok (s : ByteArray) (i : Nat) (hi : i ≤ s.size) : PiecesOk s (piecesF s i) (begF s i) := by
  induction i with
  | zero => exact ⟨rfl, fun j hj => by simp [piecesF] at hj, fun j hj => by simp [piecesF] at hj⟩
  | succ i ih =>
    obtain ⟨h1, h2, h3⟩ := ih (by omega)
    cases hb : rdB s i == 10
    · rw [piecesF_no hb, begF_no hb]; exact ⟨h1, h2, h3⟩
    · rw [piecesF_yes hb, begF_yes hb]
      have hbe := begF_le s i
      have hsz := extract_size s (begF s i) i (by omega)
      refine ⟨?_, fun j hj x hx => ?_, fun j hj => ?_⟩
      · rw [List.length_append, List.length_singleton, offs, sumN, rdS_last]
        have := offs_left (ms := [s.extract (begF s i) i]) (Nat.le_refl (piecesF s i).length)
        unfold offs at this h1
        rw [this, h1, hsz]; omega
      · by_cases hjl : j < (piecesF s i).length
        · rw [rdS_left hjl] at hx ⊢
          rw [offs_left (by omega)]
          exact h2 j hjl x hx
        · have e : j = (piecesF s i).length := by simp at hj; omega
          subst e
          rw [rdS_last] at hx ⊢
          rw [offs_left (Nat.le_refl _), h1]
          exact rdB_extract s _ i x (by omega) (by omega)
      · by_cases hjl : j < (piecesF s i).length
        · rw [rdS_left hjl, offs_left (by omega)]
          exact h3 j hjl
        · have e : j = (piecesF s i).length := by simp at hj; omega
          subst e
          rw [rdS_last, offs_left (Nat.le_refl _), h1, hsz, show begF s i + (i - begF s i) = i by omega]
          exact eq_of_beq hb

/-- What the reference asks of the lines. -/
structure LinesOk (ls : List ByteArray) : Prop where
  len : ls.length = 9
  last : (rdS ls 8).size = 0
  size : ∀ y, y < 8 → (rdS ls y).size = 16
  dot : ∀ y, y < 8 → ∀ x, x < 16 → rdB (rdS ls y) x = 35 ∨ rdB (rdS ls y) x = 46
theorem offs_17 {ls : List ByteArray} (h : ∀ y, y < 8 → (rdS ls y).size = 16) (y : Nat) (hy : y ≤ 8) : offs ls y = 17 * y := by
  induction y with
  | zero => rfl
  | succ y ih =>
    have := ih (by omega)
    unfold offs at *
    rw [sumN, this, h y (by omega)]; omega
theorem good_of_lines {s : ByteArray} (h : LinesOk (linesF s)) : Good s ∧ ∀ y, y < 8 → ∀ x, x < 16 → rdB (rdS (linesF s) y) x = rdB s (17 * y + x) := by
  have hp := pieces_ok s s.size (Nat.le_refl _)
  have hl8 : (piecesF s s.size).length = 8 := by have := h.len; unfold linesF at this; simp at this; omega
  have hrd : ∀ y, y < 8 → rdS (linesF s) y = rdS (piecesF s s.size) y := fun y hy => rdS_left (by omega)
  have hsz : ∀ y, y < 8 → (rdS (piecesF s s.size) y).size = 16 := fun y hy => by rw [← hrd y hy]; exact h.size y hy
  have hbe := hp.last
  rw [hl8, offs_17 hsz 8 (by omega)] at hbe
  have hlast := h.last
  have e8 : rdS (linesF s) 8 = s.extract (begF s s.size) s.size := by
    have := rdS_last (piecesF s s.size) (s.extract (begF s s.size) s.size)
    rw [hl8] at this; exact this
  rw [e8, extract_size s _ _ (Nat.le_refl _)] at hlast
  have hble := begF_le s s.size
  have hbyte : ∀ y, y < 8 → ∀ x, x < 16 → rdB (rdS (linesF s) y) x = rdB s (17 * y + x) := fun y hy x hx => by
    rw [hrd y hy, hp.byte y (by omega) x (by rw [hsz y hy]; exact hx), offs_17 hsz y (by omega)]
  refine ⟨⟨by omega, fun y hy => ?_, fun y hy x hx => ?_⟩, hbyte⟩
  · have := hp.nl y (by omega)
    rw [hsz y hy, offs_17 hsz y (by omega)] at this; exact this
  · rw [← hbyte y hy x hx]; exact h.dot y hy x hx

theorem good_pieces {s : ByteArray} (h : Good s) (k : Nat) (hk : k ≤ 8) : (piecesF s (17 * k)).length = k ∧ begF s (17 * k) = 17 * k ∧ ∀ y, y < k → (rdS (piecesF s (17 * k)) y).size = 16 ∧ ∀ x, x < 16 → rdB (rdS (piecesF s (17 * k)) y) x = rdB s (17 * y + x) := by
  induction k with
  | zero => exact ⟨rfl, rfl, fun y hy => by omega⟩
  | succ k ih =>
    obtain ⟨h1, h2, h3⟩ := ih (by omega)
    have hs := h.size
    have hin : ∀ x, x ≤ 16 → piecesF s (17 * k + x) = piecesF s (17 * k) ∧ begF s (17 * k + x) = 17 * k := by
      intro x hx
      induction x with
      | zero => exact ⟨rfl, h2⟩
      | succ x ihx =>
        obtain ⟨i1, i2⟩ := ihx (by omega)
        have hb : (rdB s (17 * k + x) == 10) = false := by
          rcases h.dot k (by omega) x (by omega) with e | e <;> rw [e] <;> rfl
        rw [← Nat.add_assoc, piecesF_no hb, begF_no hb]; exact ⟨i1, i2⟩
    obtain ⟨i1, i2⟩ := hin 16 (by omega)
    have hb : (rdB s (17 * k + 16) == 10) = true := by rw [h.nl k (by omega)]; rfl
    rw [show 17 * (k + 1) = 17 * k + 16 + 1 by omega, piecesF_yes hb, begF_yes hb, i1, i2]
    refine ⟨by simp [h1], by omega, fun y hy => ?_⟩
    by_cases hyk : y < k
    · rw [rdS_left (by omega)]; exact h3 y hyk
    · have e : y = k := by omega
      subst e
      have hl := rdS_last (piecesF s (17 * y)) (s.extract (17 * y) (17 * y + 16))
      rw [h1] at hl
      rw [hl]
      exact ⟨by rw [extract_size s _ _ (by omega)]; omega, fun x hx => rdB_extract s _ _ x (by omega) (by omega)⟩
theorem lines_of_good {s : ByteArray} (h : Good s) : LinesOk (linesF s) := by
  obtain ⟨h1, h2, h3⟩ := good_pieces h 8 (by omega)
  have hs := h.size
  have e8 := rdS_last (piecesF s s.size) (s.extract (begF s s.size) s.size)
  unfold linesF
  rw [hs] at e8 ⊢
  rw [show 136 = 17 * 8 from rfl] at e8 ⊢
  rw [h1, h2] at e8
  refine ⟨by simp [h1], by rw [h2, e8, extract_size s _ _ (by omega)], fun y hy => ?_, fun y hy x hx => ?_⟩
  · rw [rdS_left (by omega)]; exact (h3 y hy).1
  · rw [rdS_left (by omega), (h3 y hy).2 x hx]; exact h.dot y hy x hx
theorem lines_bad {s : ByteArray} (h : ¬ LinesOk (linesF s)) : readOut s = (zR', 5) := readOut_no fun hg => h (lines_of_good hg)
end Go.Proofs.Ytgmlhnmjeelajaa
