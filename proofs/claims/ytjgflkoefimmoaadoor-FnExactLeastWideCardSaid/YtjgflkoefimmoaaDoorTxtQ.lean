/- Texts: the program's way to say what is valid, and the reference's, are one. No walk here. -/
import Derived.Test.YtjgflkoefimmoaaDoorTxtP
namespace Go.Proofs.YtjgflkoefimmoaaDoor
open Go Go.RowKit
set_option linter.unusedVariables false
set_option linter.unusedSimpArgs false

theorem dropWhile_le {α : Type} (p : α → Bool) (l : List α) : (l.dropWhile p).length ≤ l.length := by
  induction l with
  | nil => simp
  | cons b r ih => rw [List.dropWhile_cons]; split <;> simp <;> omega
theorem dropWhile_same {α : Type} {p : α → Bool} {l : List α} (h : l.length ≤ (l.dropWhile p).length) : ∀ b r, l = b :: r → p b = false := by
  intro b r e
  subst e
  cases hp : p b
  · rfl
  · rw [List.dropWhile_cons, if_pos hp] at h
    have := dropWhile_le p r
    simp at h; omega
theorem trimB_same {l : List UInt8} {c : UInt8} (h : Lib.trimB l c = l) : (∀ b r, l = b :: r → b ≠ c) ∧ ∀ b r, l.reverse = b :: r → b ≠ c := by
  have hR : (Lib.trimRightB l c).length ≤ l.length := by
    unfold Lib.trimRightB; rw [List.length_reverse]
    have := dropWhile_le (· == c) l.reverse
    simpa using this
  have hL : (Lib.trimLeftB (Lib.trimRightB l c) c).length ≤ (Lib.trimRightB l c).length := dropWhile_le _ _
  have e : (Lib.trimLeftB (Lib.trimRightB l c) c).length = l.length := congrArg List.length h
  have h2 : ∀ b r, l.reverse = b :: r → b ≠ c := by
    intro b r hb hc
    have : l.reverse.length ≤ (l.reverse.dropWhile (· == c)).length := by
      have e2 : (Lib.trimRightB l c).length = (l.reverse.dropWhile (· == c)).length := by unfold Lib.trimRightB; rw [List.length_reverse]
      rw [List.length_reverse]; omega
    have := dropWhile_same this b r hb
    simp [hc] at this
  have hRs : Lib.trimRightB l c = l := by
    unfold Lib.trimRightB
    cases hq : l.reverse with
    | nil => simp at hq; subst hq; rfl
    | cons b r =>
      have := h2 b r hq
      rw [List.dropWhile_cons, if_neg (by simpa using this), ← hq, List.reverse_reverse]
  refine ⟨fun b r hb hc => ?_, h2⟩
  rw [hRs] at e
  have := dropWhile_same (p := (· == c)) (l := l) (by show l.length ≤ (Lib.trimLeftB l c).length; omega) b r hb
  simp [hc] at this
theorem byt_inj32 {b : UInt8} : (b.toNat : Int) = 32 ↔ b = 32 := ⟨fun h => u8_eq (by rw [h]; rfl), fun h => by rw [h]; rfl⟩
theorem trimB_iff {l : List UInt8} : Lib.trimB l 32 = l ↔ (0 < l.length → byt l 0 ≠ 32 ∧ byt l (l.length - 1) ≠ 32) := by
  constructor
  · intro h hl
    obtain ⟨h1, h2⟩ := trimB_same h
    constructor
    · cases l with
      | nil => simp at hl
      | cons b r => rw [byt_head]; intro e; exact h1 b r rfl (byt_inj32.1 e)
    · rw [byt_get (by omega)]
      intro e
      have hr : l.reverse = l[l.length - 1] :: l.reverse.drop 1 := by
        have h3 : 0 < l.reverse.length := by simpa using hl
        have := List.drop_eq_getElem_cons h3
        rw [List.drop_zero] at this
        rw [List.getElem_reverse] at this
        simpa using this
      exact h2 _ _ hr (byt_inj32.1 e)
  · intro h
    unfold Lib.trimB
    have e1 : Lib.trimRightB l 32 = l := by
      rw [Lib.trimRightB_take l 32 l.length (Nat.le_refl _) (fun j b hj hb => by rw [List.getElem?_eq_none hj] at hb; cases hb) (fun b hl hb => ?_), List.take_length]
      intro hc
      refine (h hl).2 ?_
      unfold byt
      rw [List.getD, hb, hc]; rfl
    rw [e1, Lib.trimLeftB_drop l 32 0 (Nat.zero_le _) (fun j b hj => by omega) (fun b hb => ?_), List.drop_zero]
    intro hc
    have hl : 0 < l.length := (List.getElem?_eq_some_iff.1 hb).1
    refine (h hl).1 ?_
    unfold byt
    rw [List.getD, hb, hc]; rfl

theorem occ2 {l : List UInt8} {i : Nat} : Lib.occAt l [32, 32] i = true ↔ i + 1 < l.length ∧ byt l i = 32 ∧ byt l (i + 1) = 32 := by
  unfold Lib.occAt
  constructor
  · intro h
    have hp := List.isPrefixOf_iff_prefix.1 h
    obtain ⟨t, ht⟩ := hp
    have hl : (l.drop i).length = 2 + t.length := by rw [← ht]; simp; omega
    rw [List.length_drop] at hl
    have h0 : byt (l.drop i) 0 = 32 := by rw [← ht]; rfl
    have h1 : byt (l.drop i) 1 = 32 := by rw [← ht]; rfl
    rw [byt_drop] at h0 h1
    exact ⟨by omega, h0, h1⟩
  · rintro ⟨h1, h2, h3⟩
    apply List.isPrefixOf_iff_prefix.2
    rw [byt_get (by omega)] at h2 h3
    rw [List.drop_eq_getElem_cons (by omega : i < l.length), List.drop_eq_getElem_cons h1, byt_inj32.1 h2, byt_inj32.1 h3]
    exact ⟨_, rfl⟩
theorem contains2 {l : List UInt8} : Lib.contains l [32, 32] = true ↔ ∃ i, i + 1 < l.length ∧ byt l i = 32 ∧ byt l (i + 1) = 32 := by
  unfold Lib.contains
  rcases Lib.index_spec l [32, 32] with ⟨h1, h2⟩ | ⟨i, h1, h2, h3, h4⟩
  · rw [h1]
    constructor
    · intro h; exact absurd (of_decide_eq_true h) (by decide)
    · rintro ⟨i, hi⟩
      have := h2 i (by omega)
      rw [occ2.2 hi] at this; cases this
  · rw [h1]
    exact ⟨fun _ => ⟨i, occ2.1 h3⟩, fun _ => decide_eq_true (by omega)⟩

/-- Letters and blanks, no two blanks side by side. -/
def spacedT (l : List UInt8) : Bool := decide (LS l) && !Lib.contains l [32, 32]
theorem allCh_iff {l : List UInt8} : AllCh l l.length ↔ spacedT l = true ∧ Lib.trimB l 32 = l := by
  unfold spacedT
  rw [Bool.and_eq_true, decide_eq_true_iff, Bool.not_eq_true', trimB_iff]
  constructor
  · intro h
    refine ⟨⟨fun i hi => ?_, ?_⟩, fun hl => ⟨fun e => ?_, fun e => ?_⟩⟩
    · by_cases e : byt l i = 32
      · exact .inl e
      · exact .inr (chOk_let (h i hi) e)
    · cases hc : Lib.contains l [32, 32]
      · rfl
      · obtain ⟨i, h1, h2, h3⟩ := contains2.1 hc
        exact absurd h2 (by have := (chOk_sp (h (i + 1) h1) h3).2.2; rwa [Nat.add_sub_cancel] at this)
    · exact absurd rfl (chOk_sp (h 0 hl) e).1
    · exact absurd (by omega) (chOk_sp (h (l.length - 1) (by omega)) e).2.1
  · rintro ⟨⟨h1, h2⟩, h3⟩ i hi
    unfold chOk
    by_cases e : byt l i = 32
    · rw [if_pos e]
      have ha : i ≠ 0 := by rintro rfl; exact (h3 hi).1 e
      have hb : i + 1 ≠ l.length := by intro hh; exact (h3 (by omega)).2 (by rw [← e]; congr 1; omega)
      have hc : byt l (i - 1) ≠ 32 := by
        intro hh
        have : Lib.contains l [32, 32] = true := contains2.2 ⟨i - 1, by omega, hh, by rw [← e]; congr 1; omega⟩
        rw [this] at h2; cases h2
      simp [ha, hb, hc]
    · rw [if_neg e]
      rcases h1 i hi with h | h
      · exact absurd h e
      · exact h
theorem vText_impl {l : List UInt8} : vText l = (decide (l.length ≤ 60) && spacedT l && decide (Lib.trimB l 32 = l)) := by
  rw [Bool.eq_iff_iff, vText_iff, allCh_iff]
  simp only [Bool.and_eq_true, decide_eq_true_iff]
  constructor
  · rintro ⟨⟨a, b⟩, c⟩; exact ⟨⟨c, a⟩, b⟩
  · rintro ⟨⟨c, a⟩, b⟩; exact ⟨⟨a, b⟩, c⟩

theorem indexB_iff {l : List UInt8} : decide (0 ≤ Lib.indexByte l 32) = true ↔ ∃ i, i < l.length ∧ byt l i = 32 := by
  rw [decide_eq_true_iff]
  have hge := Lib.indexByte_ge l 32
  constructor
  · intro h
    obtain ⟨h1, _⟩ := Lib.indexByte_some (l := l) (c := 32) (o := (Lib.indexByte l 32).toNat) (by omega)
    refine ⟨_, (List.getElem?_eq_some_iff.1 h1).1, ?_⟩
    unfold byt
    rw [List.getD, h1]; rfl
  · rintro ⟨i, hi, he⟩
    rcases Int.lt_or_le (Lib.indexByte l 32) 0 with h | h
    · have := Lib.indexByte_none (l := l) (c := 32) (by omega) i
      rw [byt_get hi] at he
      rw [List.getElem?_eq_getElem hi, byt_inj32.1 he] at this
      exact absurd rfl this
    · exact h
/-- A word, in a text. -/
theorem isW_text {l : List UInt8} (h : vText l = true) : isW l = (decide (l ≠ []) && !decide (0 ≤ Lib.indexByte l 32)) := by
  have hls := vText_ls h
  rw [Bool.eq_iff_iff, isW_iff, Bool.and_eq_true, decide_eq_true_iff, Bool.not_eq_true', ← Bool.not_eq_true, indexB_iff]
  unfold IsW
  constructor
  · rintro ⟨h1, h2⟩
    refine ⟨fun e => by subst e; simp at h2, ?_⟩
    rintro ⟨i, hi, he⟩
    have := isLet_iff.1 (h1 i hi)
    omega
  · rintro ⟨h1, h2⟩
    refine ⟨fun i hi => ?_, List.length_pos_iff.2 h1⟩
    rcases hls i hi with e | e
    · exact absurd ⟨i, hi, e⟩ h2
    · exact e
end Go.Proofs.YtjgflkoefimmoaaDoor
