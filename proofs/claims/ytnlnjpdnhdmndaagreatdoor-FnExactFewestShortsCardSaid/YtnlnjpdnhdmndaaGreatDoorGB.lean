/- Texts and words by their bytes: what is valid, how a text is split and joined. No walk here. Texts: the program's way to say what is valid, and the reference's, are one. No walk here. Contracts: texts and words, by the reference. Contracts: texts and words, by the program. What a row says of the library's variables when the call begins. Contracts: the laws' own loops over a slice of numbers: equal, mark, held. Results that a law marks: a row of numbers of a call's own; what a mark leaves as it was. Contracts: a slice of numbers is copied. -/
import Derived.Test.YtnlnjpdnhdmndaaGreatDoorGA
import Derived.Lib.FieldsLaws
import Derived.Lib.TrimByte
import Derived.Lib.IndexMore
import Derived.Lib.Join
import Derived.Test.YtnlnjpdnhdmndaaGreatDoorProg
import Derived.Outline
import Derived.Test.YtnlnjpdnhdmndaaGreatDoorShelf
import Derived.Shelf.Vars
import Derived.OwnWalk
namespace Go.Proofs.YtnlnjpdnhdmndaaGreatDoor
open Go Go.RowKit
set_option linter.unusedVariables false
set_option linter.unusedSimpArgs false

/-- A byte of a text, 0 behind its end. -/
def byt (l : List UInt8) (i : Nat) : Int := ((l.getD i 0).toNat : Int)
theorem byt_range (l : List UInt8) (i : Nat) : 0 ≤ byt l i ∧ byt l i ≤ 255 := by
  unfold byt
  have := (l.getD i 0).toNat_lt
  omega
theorem byt_get {l : List UInt8} {i : Nat} (h : i < l.length) : byt l i = ((l[i]).toNat : Int) := by
  unfold byt; rw [List.getD, List.getElem?_eq_getElem h]; rfl
theorem byt_out {l : List UInt8} {i : Nat} (h : l.length ≤ i) : byt l i = 0 := by
  unfold byt; rw [List.getD, List.getElem?_eq_none h]; rfl
theorem byt_append_left {a b : List UInt8} {i : Nat} (h : i < a.length) : byt (a ++ b) i = byt a i := by
  unfold byt; rw [List.getD, List.getD, List.getElem?_append_left h]
theorem byt_append_right {a b : List UInt8} {i : Nat} : byt (a ++ b) (a.length + i) = byt b i := by
  unfold byt; rw [List.getD, List.getD, List.getElem?_append_right (by omega), Nat.add_sub_cancel_left]
theorem byt_take {l : List UInt8} {i k : Nat} (h : i < k) : byt (l.take k) i = byt l i := by
  unfold byt; rw [List.getD, List.getD, List.getElem?_take_of_lt h]
theorem byt_drop {l : List UInt8} {i k : Nat} : byt (l.drop k) i = byt l (k + i) := by
  unfold byt; rw [List.getD, List.getD, List.getElem?_drop]
theorem byt_cons {b : UInt8} {l : List UInt8} {i : Nat} : byt (b :: l) (i + 1) = byt l i := by
  unfold byt; simp
theorem byt_head {b : UInt8} {l : List UInt8} : byt (b :: l) 0 = (b.toNat : Int) := by
  unfold byt; simp
theorem u8_eq {a b : UInt8} (h : (a.toNat : Int) = (b.toNat : Int)) : a = b := UInt8.toNat_inj.1 (by omega)

/-- A letter. -/
def isLet (n : Int) : Bool := inB 65 90 n
theorem isLet_iff {n : Int} : isLet n = true ↔ 65 ≤ n ∧ n ≤ 90 := inB_iff
theorem isLet_no {n : Int} : isLet n = false ↔ ¬ (65 ≤ n ∧ n ≤ 90) := inB_not

/-- The byte at i is as it should be in a text. -/
def chOk (l : List UInt8) (i : Nat) : Bool := if byt l i = 32 then decide (i ≠ 0) && decide (i + 1 ≠ l.length) && decide (byt l (i - 1) ≠ 32) else isLet (byt l i)
def AllCh (l : List UInt8) (k : Nat) : Prop := ∀ i, i < k → chOk l i = true
instance (l : List UInt8) (k : Nat) : Decidable (AllCh l k) := by unfold AllCh; infer_instance
/-- A valid text. -/
def vText (l : List UInt8) : Bool := decide (AllCh l l.length) && decide (l.length ≤ 60)
theorem vText_iff {l : List UInt8} : vText l = true ↔ AllCh l l.length ∧ l.length ≤ 60 := by unfold vText; simp
theorem allCh_zero (l : List UInt8) : AllCh l 0 := fun i hi => by omega
theorem allCh_succ {l : List UInt8} {k : Nat} (h : AllCh l k) (hk : chOk l k = true) : AllCh l (k + 1) := fun j hj => by
  rcases Nat.lt_succ_iff_lt_or_eq.1 hj with h1 | rfl
  · exact h j h1
  · exact hk
theorem vText_bad {l : List UInt8} {k : Nat} (hk : k < l.length) (h : chOk l k = false) : vText l = false := by
  cases hv : vText l
  · rfl
  · have := (vText_iff.1 hv).1 k hk
    rw [this] at h; cases h
theorem vText_len {l : List UInt8} (h : AllCh l l.length) : vText l = decide (l.length ≤ 60) := by unfold vText; rw [decide_eq_true h, Bool.true_and]
theorem chOk_sp {l : List UInt8} {i : Nat} (h : chOk l i = true) (h32 : byt l i = 32) : i ≠ 0 ∧ i + 1 ≠ l.length ∧ byt l (i - 1) ≠ 32 := by
  unfold chOk at h; rw [if_pos h32] at h; simpa [and_assoc] using h
theorem chOk_let {l : List UInt8} {i : Nat} (h : chOk l i = true) (h32 : byt l i ≠ 32) : isLet (byt l i) = true := by
  unfold chOk at h; rwa [if_neg h32] at h

/-- Letters and blanks alone. -/
def LS (l : List UInt8) : Prop := ∀ i, i < l.length → byt l i = 32 ∨ isLet (byt l i) = true
/-- Letters alone. -/
def LL (l : List UInt8) : Prop := ∀ i, i < l.length → isLet (byt l i) = true
instance (l : List UInt8) : Decidable (LS l) := by unfold LS; infer_instance
instance (l : List UInt8) : Decidable (LL l) := by unfold LL; infer_instance
theorem LL.ls {l : List UInt8} (h : LL l) : LS l := fun i hi => .inr (h i hi)
theorem vText_ls {l : List UInt8} (h : vText l = true) : LS l := fun i hi => by
  have h1 := (vText_iff.1 h).1 i hi
  by_cases e : byt l i = 32
  · exact .inl e
  · exact .inr (chOk_let h1 e)
theorem isSp_no {b : UInt8} (h : 65 ≤ b.toNat) : Lib.isSp b = false := by
  have e : ∀ c : UInt8, c.toNat < 65 → (b == c) = false := fun c hc => by
    rw [beq_eq_false_iff_ne]
    intro he
    rw [he] at h
    omega
  unfold Lib.isSp
  rw [e 9 (by decide), e 10 (by decide), e 11 (by decide), e 12 (by decide), e 13 (by decide), e 32 (by decide)]
  rfl
theorem ls_sp {l : List UInt8} (h : LS l) (b : UInt8) (hb : b ∈ l) : Lib.isSp b = decide ((b.toNat : Int) = 32) ∧ b.toNat < 128 := by
  obtain ⟨i, hi, rfl⟩ := List.getElem_of_mem hb
  have h1 := h i hi
  rw [byt_get hi] at h1
  rcases h1 with h1 | h1
  · have e : l[i] = 32 := u8_eq (by rw [h1]; rfl)
    rw [e]
    exact ⟨by decide, by decide⟩
  · have h2 := isLet_iff.1 h1
    exact ⟨by rw [decide_eq_false (by omega), isSp_no (by omega)], by omega⟩

/-! ### A text is split -/
def begF (c : Int) (l : List UInt8) : Nat → Nat
  | 0 => 0
  | i + 1 => if byt l i == c then i + 1 else begF c l i
def cutT (l : List UInt8) (a b : Nat) : List UInt8 := (l.drop a).take (b - a)
def piecesF (c : Int) (l : List UInt8) : Nat → List (List UInt8)
  | 0 => []
  | i + 1 => if byt l i == c then piecesF c l i ++ [cutT l (begF c l i) i] else piecesF c l i
def splitF (c : Int) (l : List UInt8) : List (List UInt8) := piecesF c l l.length ++ [cutT l (begF c l l.length) l.length]
theorem begF_le (c : Int) (l : List UInt8) (i : Nat) : begF c l i ≤ i := by
  induction i with
  | zero => exact Nat.le_refl _
  | succ i ih => rw [begF]; split <;> omega
theorem begF_yes {c : Int} {l : List UInt8} {i : Nat} (h : (byt l i == c) = true) : begF c l (i + 1) = i + 1 := by rw [begF, if_pos h]
theorem begF_no {c : Int} {l : List UInt8} {i : Nat} (h : (byt l i == c) = false) : begF c l (i + 1) = begF c l i := by rw [begF, if_neg (by rw [h]; decide)]
theorem piecesF_yes {c : Int} {l : List UInt8} {i : Nat} (h : (byt l i == c) = true) : piecesF c l (i + 1) = piecesF c l i ++ [cutT l (begF c l i) i] := by rw [piecesF, if_pos h]
theorem piecesF_no {c : Int} {l : List UInt8} {i : Nat} (h : (byt l i == c) = false) : piecesF c l (i + 1) = piecesF c l i := by rw [piecesF, if_neg (by rw [h]; decide)]
theorem piecesF_length (c : Int) (l : List UInt8) (i : Nat) : (piecesF c l i).length ≤ i := by
  induction i with
  | zero => exact Nat.le_refl _
  | succ i ih => rw [piecesF]; split <;> first | (simp; omega) | omega
theorem cutT_length {l : List UInt8} {a b : Nat} (h : b ≤ l.length) : (cutT l a b).length = b - a := by unfold cutT; simp; omega
theorem byt_cutT {l : List UInt8} {a b i : Nat} (h : i < b - a) : byt (cutT l a b) i = byt l (a + i) := by
  unfold cutT; rw [byt_take h, byt_drop]
theorem cutT_more {l : List UInt8} {a i : Nat} (ha : a ≤ i) (h : i < l.length) : cutT l a (i + 1) = cutT l a i ++ [l[i]] := Lib.piece_more ha (List.getElem?_eq_getElem h)
theorem cutT_same (l : List UInt8) (a : Nat) : cutT l a a = [] := by unfold cutT; simp

/-- The pieces, from the left. -/
def splitGo (c : Int) : List UInt8 → List UInt8 → List (List UInt8)
  | cur, [] => [cur]
  | cur, b :: r => if (b.toNat : Int) == c then cur :: splitGo c [] r else splitGo c (cur ++ [b]) r
theorem split_go (c : Int) (l : List UInt8) (k : Nat) (hk : k ≤ l.length) : piecesF c l k ++ splitGo c (cutT l (begF c l k) k) (l.drop k) = splitF c l := by
  obtain ⟨m, hm⟩ : ∃ m, m = l.length - k := ⟨_, rfl⟩
  induction m generalizing k with
  | zero =>
    have e : k = l.length := by omega
    subst e
    rw [List.drop_length, splitGo, splitF]
  | succ m ih =>
    have hlt : k < l.length := by omega
    rw [List.drop_eq_getElem_cons hlt, splitGo, ← byt_get hlt]
    have hb := begF_le c l k
    cases hc : (byt l k == c)
    · rw [if_neg (by decide), ← ih (k + 1) (by omega) (by omega), piecesF_no hc, begF_no hc, cutT_more hb hlt]
    · rw [if_pos rfl, ← ih (k + 1) (by omega) (by omega), piecesF_yes hc, begF_yes hc, cutT_same, List.append_assoc]
      rfl
theorem splitF_go (c : Int) (l : List UInt8) : splitF c l = splitGo c [] l := by
  have := split_go c l 0 (Nat.zero_le _)
  rw [← this]; rfl

/-- The words of a text. -/
def words (l : List UInt8) : List (List UInt8) := if l = [] then [] else splitF 32 l

/-- What follows is a text: no blank at its head (or an open word ahead of it), none at its end, no two side by side. -/
def goT : Bool → List UInt8 → Prop
  | o, [] => o = true
  | o, b :: r => if (b.toNat : Int) = 32 then o = true ∧ goT false r else isLet b.toNat = true ∧ goT true r
theorem fields_go {l cur : List UInt8} (h : goT (!cur.isEmpty) l) : Lib.fieldsGo cur l = splitGo 32 cur l := by
  induction l generalizing cur with
  | nil => cases cur <;> simp_all [Lib.fieldsGo, splitGo, goT]
  | cons b r ih =>
    rw [goT] at h
    by_cases h32 : (b.toNat : Int) = 32
    · rw [if_pos h32] at h
      have e : b = 32 := u8_eq (by rw [h32]; rfl)
      have hs : Lib.isSp b = true := by rw [e]; decide
      rw [splitGo, if_pos (by simpa using h32)]
      rw [Lib.fieldsGo_end cur b r hs (by intro hc; subst hc; simp at h)]
      rw [ih (cur := []) h.2]
    · rw [if_neg h32] at h
      have hl := isLet_iff.1 h.1
      have hs : Lib.isSp b = false := isSp_no (by omega)
      rw [splitGo, if_neg (by simpa using h32), Lib.fieldsGo_more cur b r hs]
      exact ih (cur := cur ++ [b]) (by cases cur <;> exact h.2)
theorem goT_drop {l : List UInt8} (h : AllCh l l.length) (k : Nat) (hk : k ≤ l.length) (o : Bool) (ho : o = true ↔ (0 < k ∧ byt l (k - 1) ≠ 32)) (hne : k = l.length → o = true) : goT o (l.drop k) := by
  obtain ⟨m, hm⟩ : ∃ m, m = l.length - k := ⟨_, rfl⟩
  induction m generalizing k o with
  | zero =>
    have e : k = l.length := by omega
    subst e
    rw [List.drop_length, goT]
    exact hne rfl
  | succ m ih =>
    have hlt : k < l.length := by omega
    have hc := h k hlt
    rw [List.drop_eq_getElem_cons hlt, goT, ← byt_get hlt]
    by_cases h32 : byt l k = 32
    · rw [if_pos h32]
      obtain ⟨h1, h2, h3⟩ := chOk_sp hc h32
      refine ⟨ho.2 ⟨by omega, h3⟩, ih (k + 1) (by omega) false ?_ (fun e => absurd e h2) (by omega)⟩
      rw [Nat.add_sub_cancel]
      simp [h32]
    · rw [if_neg h32]
      refine ⟨?_, ih (k + 1) (by omega) true ?_ (fun _ => rfl) (by omega)⟩
      · exact chOk_let hc h32
      · rw [Nat.add_sub_cancel]
        simp [h32]
theorem fields_words {l : List UInt8} (h : vText l = true) : Lib.fields l = words l := by
  unfold words
  by_cases hl : l = []
  · subst hl; rfl
  · rw [if_neg hl, splitF_go]
    refine fields_go (cur := []) ?_
    have := goT_drop (vText_iff.1 h).1 0 (Nat.zero_le _) false (by simp) (fun e => absurd (List.eq_nil_of_length_eq_zero e.symm) hl)
    simpa using this

/-- A word: letters, one at least. -/
def IsW (l : List UInt8) : Prop := LL l ∧ 0 < l.length
def isW (l : List UInt8) : Bool := decide (LL l) && decide (0 < l.length)
theorem isW_iff {l : List UInt8} : isW l = true ↔ IsW l := by unfold isW IsW; simp
theorem LL.snoc {l : List UInt8} {b : UInt8} (h : LL l) (hb : isLet b.toNat = true) : LL (l ++ [b]) := fun i hi => by
  by_cases e : i < l.length
  · rw [byt_append_left e]; exact h i e
  · have : i = l.length + 0 := by simp at hi; omega
    rw [this, byt_append_right, byt_head]; exact hb
theorem LL.nil : LL [] := fun i hi => by simp at hi
theorem goT_words {l cur : List UInt8} (h : goT (!cur.isEmpty) l) (hc : LL cur) : ∀ x ∈ splitGo 32 cur l, IsW x := by
  induction l generalizing cur with
  | nil =>
    rw [goT] at h
    intro x hx
    rw [splitGo] at hx
    obtain rfl := List.mem_singleton.1 hx
    refine ⟨hc, ?_⟩
    cases x <;> simp_all
  | cons b r ih =>
    rw [goT] at h
    by_cases h32 : (b.toNat : Int) = 32
    · rw [if_pos h32] at h
      rw [splitGo, if_pos (by simpa using h32)]
      intro x hx
      rcases List.mem_cons.1 hx with rfl | hx
      · refine ⟨hc, ?_⟩
        cases x <;> simp_all
      · exact ih (cur := []) h.2 LL.nil x hx
    · rw [if_neg h32] at h
      rw [splitGo, if_neg (by simpa using h32)]
      exact ih (cur := cur ++ [b]) (by cases cur <;> exact h.2) (hc.snoc h.1)
theorem words_isW {l : List UInt8} (h : vText l = true) : ∀ x ∈ words l, IsW x := by
  unfold words
  by_cases hl : l = []
  · rw [if_pos hl]; intro x hx; cases hx
  · rw [if_neg hl, splitF_go]
    refine goT_words (cur := []) ?_ LL.nil
    have := goT_drop (vText_iff.1 h).1 0 (Nat.zero_le _) false (by simp) (fun e => absurd (List.eq_nil_of_length_eq_zero e.symm) hl)
    simpa using this

/-- Words as a line. -/
def joinW (ws : List (List UInt8)) : List UInt8 := Lib.join ws [32]
theorem joinW_nil : joinW [] = [] := rfl
theorem joinW_one (w : List UInt8) : joinW [w] = w := Lib.join_one w _
theorem joinW_cons2 (w v : List UInt8) (ws : List (List UInt8)) : joinW (w :: v :: ws) = w ++ 32 :: joinW (v :: ws) := by
  unfold joinW
  rw [Lib.join_cons, Lib.join_cons]
  simp [Lib.joinTail]
theorem joinW_snoc {ws : List (List UInt8)} (h : ws ≠ []) (w : List UInt8) : joinW (ws ++ [w]) = joinW ws ++ 32 :: w := by
  cases ws with
  | nil => exact absurd rfl h
  | cons x r =>
    unfold joinW
    rw [List.cons_append, Lib.join_cons, Lib.join_cons]
    simp [Lib.joinTail]
theorem join_splitGo (cur l : List UInt8) : joinW (splitGo 32 cur l) = cur ++ l := by
  induction l generalizing cur with
  | nil => rw [splitGo, joinW_one, List.append_nil]
  | cons b r ih =>
    rw [splitGo]
    by_cases h : ((b.toNat : Int) == 32) = true
    · rw [if_pos h]
      have e : b = 32 := u8_eq (by rw [beq_iff_eq.1 h]; rfl)
      have hne : ∃ v vs, splitGo 32 [] r = v :: vs := by
        cases r with
        | nil => exact ⟨_, _, rfl⟩
        | cons b' r' =>
          cases hq : splitGo 32 [] (b' :: r') with
          | nil =>
            exfalso
            have : ∀ (l cur : List UInt8), splitGo 32 cur l ≠ [] := by
              intro l
              induction l with
              | nil => intro cur; simp [splitGo]
              | cons x y ih => intro cur; rw [splitGo]; split <;> simp [ih]
            exact this _ _ hq
          | cons v vs => exact ⟨v, vs, rfl⟩
      obtain ⟨v, vs, hv⟩ := hne
      have := ih []
      rw [hv] at this ⊢
      rw [joinW_cons2, this, e]; simp
    · rw [if_neg h, ih]; simp
theorem joinW_words (l : List UInt8) : joinW (words l) = l := by
  unfold words
  by_cases hl : l = []
  · rw [if_pos hl, hl]; rfl
  · rw [if_neg hl, splitF_go, join_splitGo]; rfl
theorem LS.append {a b : List UInt8} (h : LS a) (k : LS b) : LS (a ++ b) := fun i hi => by
  by_cases e : i < a.length
  · rw [byt_append_left e]; exact h i e
  · obtain ⟨j, rfl⟩ : ∃ j, i = a.length + j := ⟨i - a.length, by omega⟩
    rw [byt_append_right]; exact k j (by simp at hi; omega)
theorem LS.nil : LS [] := fun i hi => by simp at hi
theorem LS.one : LS [32] := fun i hi => by
  have : i = 0 := by simp at hi; omega
  subst this; left; rfl
theorem joinW_ls {ws : List (List UInt8)} (h : ∀ x ∈ ws, IsW x) : LS (joinW ws) := by
  induction ws with
  | nil => exact LS.nil
  | cons w ws ih =>
    cases ws with
    | nil => rw [joinW_one]; exact (h w (by simp)).1.ls
    | cons v vs =>
      rw [joinW_cons2]
      exact (h w (by simp)).1.ls.append (LS.one.append (ih (fun x hx => h x (List.mem_cons_of_mem _ hx))))
theorem joinW_take_length {ws : List (List UInt8)} (a b : Nat) : (joinW ((ws.drop a).take b)).length ≤ (joinW ws).length := by
  have hs : ∀ (us : List (List UInt8)) (n : Nat), (joinW (us.take n)).length ≤ (joinW us).length := by
    intro us n
    cases us with
    | nil => simp
    | cons x r =>
      cases n with
      | zero => simp [joinW_nil]
      | succ n =>
        rw [List.take_succ_cons]
        unfold joinW
        rw [Lib.join_cons, Lib.join_cons, List.length_append, List.length_append]
        have := Lib.joinTail_take_le [32] r n
        omega
  have hd : ∀ (us : List (List UInt8)) (n : Nat), (joinW (us.drop n)).length ≤ (joinW us).length := by
    intro us
    induction us with
    | nil => intro n; simp
    | cons x r ih =>
      intro n
      cases n with
      | zero => simp
      | succ n =>
        rw [List.drop_succ_cons]
        refine Nat.le_trans (ih n) ?_
        cases r with
        | nil => simp [joinW_nil]
        | cons y r => rw [joinW_cons2]; simp; omega
  exact Nat.le_trans (hs _ _) (hd _ _)
theorem words_count {l : List UInt8} (h : vText l = true) : (words l).length ≤ 60 := by
  have hl := (vText_iff.1 h).2
  have hw := words_isW h
  have hj := joinW_words l
  have : ∀ (ws : List (List UInt8)), (∀ x ∈ ws, IsW x) → ws.length ≤ (joinW ws).length := by
    intro ws
    induction ws with
    | nil => intro _; simp
    | cons w ws ih =>
      intro h
      have h1 := (h w (by simp)).2
      cases ws with
      | nil => rw [joinW_one]; simp; omega
      | cons v vs =>
        rw [joinW_cons2]
        have := ih (fun x hx => h x (List.mem_cons_of_mem _ hx))
        simp at this ⊢; omega
  have := this _ hw
  rw [hj] at this
  omega
end Go.Proofs.YtnlnjpdnhdmndaaGreatDoor
namespace Go.Proofs.YtnlnjpdnhdmndaaGreatDoor
open Go Go.RowKit
set_option linter.unusedVariables false
set_option linter.unusedSimpArgs false

theorem dropWhile_le {α : Type} (p : α → Bool) (l : List α) : (l.dropWhile p).length ≤ l.length := by
  induction l with
  | nil => simp
  | cons b r ih => rw [List.dropWhile_cons]; split <;> simp <;> omega
theorem dropWhile_same {α : Type} {p : α → Bool} {l : List α} (h : l.length ≤ (l.dropWhile p).length) : ∀ b r, l = b :: r → p b = false := by
  intro b r e
  subst e
  cases hp : p b
  · rfl
  · rw [List.dropWhile_cons, if_pos hp] at h
    have := dropWhile_le p r
    simp at h; omega
theorem trimB_same {l : List UInt8} {c : UInt8} (h : Lib.trimB l c = l) : (∀ b r, l = b :: r → b ≠ c) ∧ ∀ b r, l.reverse = b :: r → b ≠ c := by
  have hR : (Lib.trimRightB l c).length ≤ l.length := by
    unfold Lib.trimRightB; rw [List.length_reverse]
    have := dropWhile_le (· == c) l.reverse
    simpa using this
  have hL : (Lib.trimLeftB (Lib.trimRightB l c) c).length ≤ (Lib.trimRightB l c).length := dropWhile_le _ _
  have e : (Lib.trimLeftB (Lib.trimRightB l c) c).length = l.length := congrArg List.length h
  have h2 : ∀ b r, l.reverse = b :: r → b ≠ c := by
    intro b r hb hc
    have : l.reverse.length ≤ (l.reverse.dropWhile (· == c)).length := by
      have e2 : (Lib.trimRightB l c).length = (l.reverse.dropWhile (· == c)).length := by unfold Lib.trimRightB; rw [List.length_reverse]
      rw [List.length_reverse]; omega
    have := dropWhile_same this b r hb
    simp [hc] at this
  have hRs : Lib.trimRightB l c = l := by
    unfold Lib.trimRightB
    cases hq : l.reverse with
    | nil => simp at hq; subst hq; rfl
    | cons b r =>
      have := h2 b r hq
      rw [List.dropWhile_cons, if_neg (by simpa using this), ← hq, List.reverse_reverse]
  refine ⟨fun b r hb hc => ?_, h2⟩
  rw [hRs] at e
  have := dropWhile_same (p := (· == c)) (l := l) (by show l.length ≤ (Lib.trimLeftB l c).length; omega) b r hb
  simp [hc] at this
theorem byt_inj32 {b : UInt8} : (b.toNat : Int) = 32 ↔ b = 32 := ⟨fun h => u8_eq (by rw [h]; rfl), fun h => by rw [h]; rfl⟩
theorem trimB_iff {l : List UInt8} : Lib.trimB l 32 = l ↔ (0 < l.length → byt l 0 ≠ 32 ∧ byt l (l.length - 1) ≠ 32) := by
  constructor
  · intro h hl
    obtain ⟨h1, h2⟩ := trimB_same h
    constructor
    · cases l with
      | nil => simp at hl
      | cons b r => rw [byt_head]; intro e; exact h1 b r rfl (byt_inj32.1 e)
    · rw [byt_get (by omega)]
      intro e
      have hr : l.reverse = l[l.length - 1] :: l.reverse.drop 1 := by
        have h3 : 0 < l.reverse.length := by simpa using hl
        have := List.drop_eq_getElem_cons h3
        rw [List.drop_zero] at this
        rw [List.getElem_reverse] at this
        simpa using this
      exact h2 _ _ hr (byt_inj32.1 e)
  · intro h
    unfold Lib.trimB
    have e1 : Lib.trimRightB l 32 = l := by
      rw [Lib.trimRightB_take l 32 l.length (Nat.le_refl _) (fun j b hj hb => by rw [List.getElem?_eq_none hj] at hb; cases hb) (fun b hl hb => ?_), List.take_length]
      intro hc
      refine (h hl).2 ?_
      unfold byt
      rw [List.getD, hb, hc]; rfl
    rw [e1, Lib.trimLeftB_drop l 32 0 (Nat.zero_le _) (fun j b hj => by omega) (fun b hb => ?_), List.drop_zero]
    intro hc
    have hl : 0 < l.length := (List.getElem?_eq_some_iff.1 hb).1
    refine (h hl).1 ?_
    unfold byt
    rw [List.getD, hb, hc]; rfl

theorem occ2 {l : List UInt8} {i : Nat} : Lib.occAt l [32, 32] i = true ↔ i + 1 < l.length ∧ byt l i = 32 ∧ byt l (i + 1) = 32 := by
  unfold Lib.occAt
  constructor
  · intro h
    have hp := List.isPrefixOf_iff_prefix.1 h
    obtain ⟨t, ht⟩ := hp
    have hl : (l.drop i).length = 2 + t.length := by rw [← ht]; simp; omega
    rw [List.length_drop] at hl
    have h0 : byt (l.drop i) 0 = 32 := by rw [← ht]; rfl
    have h1 : byt (l.drop i) 1 = 32 := by rw [← ht]; rfl
    rw [byt_drop] at h0 h1
    exact ⟨by omega, h0, h1⟩
  · rintro ⟨h1, h2, h3⟩
    apply List.isPrefixOf_iff_prefix.2
    rw [byt_get (by omega)] at h2 h3
    rw [List.drop_eq_getElem_cons (by omega : i < l.length), List.drop_eq_getElem_cons h1, byt_inj32.1 h2, byt_inj32.1 h3]
    exact ⟨_, rfl⟩
theorem contains2 {l : List UInt8} : Lib.contains l [32, 32] = true ↔ ∃ i, i + 1 < l.length ∧ byt l i = 32 ∧ byt l (i + 1) = 32 := by
  unfold Lib.contains
  rcases Lib.index_spec l [32, 32] with ⟨h1, h2⟩ | ⟨i, h1, h2, h3, h4⟩
  · rw [h1]
    constructor
    · intro h; exact absurd (of_decide_eq_true h) (by decide)
    · rintro ⟨i, hi⟩
      have := h2 i (by omega)
      rw [occ2.2 hi] at this; cases this
  · rw [h1]
    exact ⟨fun _ => ⟨i, occ2.1 h3⟩, fun _ => decide_eq_true (by omega)⟩

/-- Letters and blanks, no two blanks side by side. -/
def spacedT (l : List UInt8) : Bool := decide (LS l) && !Lib.contains l [32, 32]
theorem allCh_iff {l : List UInt8} : AllCh l l.length ↔ spacedT l = true ∧ Lib.trimB l 32 = l := by
  unfold spacedT
  rw [Bool.and_eq_true, decide_eq_true_iff, Bool.not_eq_true', trimB_iff]
  constructor
  · intro h
    refine ⟨⟨fun i hi => ?_, ?_⟩, fun hl => ⟨fun e => ?_, fun e => ?_⟩⟩
    · by_cases e : byt l i = 32
      · exact .inl e
      · exact .inr (chOk_let (h i hi) e)
    · cases hc : Lib.contains l [32, 32]
      · rfl
      · obtain ⟨i, h1, h2, h3⟩ := contains2.1 hc
        exact absurd h2 (by have := (chOk_sp (h (i + 1) h1) h3).2.2; rwa [Nat.add_sub_cancel] at this)
    · exact absurd rfl (chOk_sp (h 0 hl) e).1
    · exact absurd (by omega) (chOk_sp (h (l.length - 1) (by omega)) e).2.1
  · rintro ⟨⟨h1, h2⟩, h3⟩ i hi
    unfold chOk
    by_cases e : byt l i = 32
    · rw [if_pos e]
      have ha : i ≠ 0 := by rintro rfl; exact (h3 hi).1 e
      have hb : i + 1 ≠ l.length := by intro hh; exact (h3 (by omega)).2 (by rw [← e]; congr 1; omega)
      have hc : byt l (i - 1) ≠ 32 := by
        intro hh
        have : Lib.contains l [32, 32] = true := contains2.2 ⟨i - 1, by omega, hh, by rw [← e]; congr 1; omega⟩
        rw [this] at h2; cases h2
      simp [ha, hb, hc]
    · rw [if_neg e]
      rcases h1 i hi with h | h
      · exact absurd h e
      · exact h
theorem vText_impl {l : List UInt8} : vText l = (decide (l.length ≤ 60) && spacedT l && decide (Lib.trimB l 32 = l)) := by
  rw [Bool.eq_iff_iff, vText_iff, allCh_iff]
  simp only [Bool.and_eq_true, decide_eq_true_iff]
  constructor
  · rintro ⟨⟨a, b⟩, c⟩; exact ⟨⟨c, a⟩, b⟩
  · rintro ⟨⟨c, a⟩, b⟩; exact ⟨⟨a, b⟩, c⟩

theorem indexB_iff {l : List UInt8} : decide (0 ≤ Lib.indexByte l 32) = true ↔ ∃ i, i < l.length ∧ byt l i = 32 := by
  rw [decide_eq_true_iff]
  have hge := Lib.indexByte_ge l 32
  constructor
  · intro h
    obtain ⟨h1, _⟩ := Lib.indexByte_some (l := l) (c := 32) (o := (Lib.indexByte l 32).toNat) (by omega)
    refine ⟨_, (List.getElem?_eq_some_iff.1 h1).1, ?_⟩
    unfold byt
    rw [List.getD, h1]; rfl
  · rintro ⟨i, hi, he⟩
    rcases Int.lt_or_le (Lib.indexByte l 32) 0 with h | h
    · have := Lib.indexByte_none (l := l) (c := 32) (by omega) i
      rw [byt_get hi] at he
      rw [List.getElem?_eq_getElem hi, byt_inj32.1 he] at this
      exact absurd rfl this
    · exact h
/-- A word, in a text. -/
theorem isW_text {l : List UInt8} (h : vText l = true) : isW l = (decide (l ≠ []) && !decide (0 ≤ Lib.indexByte l 32)) := by
  have hls := vText_ls h
  rw [Bool.eq_iff_iff, isW_iff, Bool.and_eq_true, decide_eq_true_iff, Bool.not_eq_true', ← Bool.not_eq_true, indexB_iff]
  unfold IsW
  constructor
  · rintro ⟨h1, h2⟩
    refine ⟨fun e => by subst e; simp at h2, ?_⟩
    rintro ⟨i, hi, he⟩
    have := isLet_iff.1 (h1 i hi)
    omega
  · rintro ⟨h1, h2⟩
    refine ⟨fun i hi => ?_, List.length_pos_iff.2 h1⟩
    rcases hls i hi with e | e
    · exact absurd ⟨i, hi, e⟩ h2
    · exact e
end Go.Proofs.YtnlnjpdnhdmndaaGreatDoor
namespace Go.Proofs.YtnlnjpdnhdmndaaGreatDoor
open Go Go.RowKit
set_option linter.unusedVariables false
set_option linter.unusedSimpArgs false

/-- The bytes of a text. -/
def bs (s : ByteArray) : List UInt8 := s.data.toList
theorem bs_length (s : ByteArray) : (bs s).length = s.size := by unfold bs; rw [Array.length_toList]; rfl
def byS (s : ByteArray) (k : Nat) : Int := byt (bs s) k
theorem byS_range (s : ByteArray) (k : Nat) : 0 ≤ byS s k ∧ byS s k ≤ 255 := byt_range _ _
theorem run_byte (s : ByteArray) (k : Nat) (hk : k < s.size) (w : World) : (Instr.index 9 (.string s) (.int .i64 (k : Int))).run Tryz.prog w = .ok (.int .u8 (byS s k)) w := by
  rw [run_index_string w 9 s .i64 (k : Int) Tryz.underlying9, dif_pos (by omega)]
  congr 2
  unfold byS
  rw [byt_get (by rw [bs_length]; exact hk)]
  rfl
theorem exec_byte {o : Oper} {a : Act} {w : World} (x i : Operand) (ho : o.op = .index 9 x i) (s : ByteArray) (hx : a.eval x = .string s) (k : Nat) (hi : a.eval i = .int .i64 (k : Int)) (hk : k < s.size) : (execOp a.eval o).run Tryz.prog w = .ok (.value (.int .u8 (byS s k))) w := by
  have := run_byte s k hk w
  unfold execOp
  simp only [ho, hx, hi, Sem.run_bind, this, Result.andThen_ok, Sem.run_pure]
theorem retB {a b : Bool} (h : a = b) : Ending.returned (.bool a) = .returned (.bool b) := by rw [h]
theorem retI {k : IntKind} {a b : Int} (h : a = b) : Ending.returned (.int k a) = .returned (.int k b) := by rw [h]

theorem inS_any (n lo hi : Int) (w : World) : Calls Tryz.prog 44 #[.int .i64 n, .int .i64 lo, .int .i64 hi] w fun e w' => e = .returned (.bool (inB lo hi n)) ∧ w = w' := by
  by_cases h1 : n ≥ lo
  · by_cases h2 : n ≤ hi
    · go_enter Tryz.func44, Tryz.ntmps44
      go_wp2
      go_ret
      exact ⟨retB (by unfold inB; simp; omega), rfl⟩
    · go_enter Tryz.func44, Tryz.ntmps44
      go_wp2
      go_ret
      exact ⟨retB (by unfold inB; simp; omega), rfl⟩
  · go_enter Tryz.func44, Tryz.ntmps44
    go_wp2
    go_ret
    exact ⟨retB (by unfold inB; simp; omega), rfl⟩
theorem letter_spec (n : Int) (w : World) : Calls Tryz.prog 58 #[.int .u8 n] w fun e w' => e = .returned (.bool (isLet n)) ∧ w = w' := by
  by_cases h1 : n ≥ 65
  · by_cases h2 : n ≤ 90
    · go_enter Tryz.func58, Tryz.ntmps58
      go_wp2
      go_ret
      exact ⟨retB (by unfold isLet inB; simp; omega), rfl⟩
    · go_enter Tryz.func58, Tryz.ntmps58
      go_wp2
      go_ret
      exact ⟨retB (by unfold isLet inB; simp; omega), rfl⟩
  · go_enter Tryz.func58, Tryz.ntmps58
    go_wp2
    go_ret
    exact ⟨retB (by unfold isLet inB; simp; omega), rfl⟩

theorem chOk_at {s : ByteArray} {k : Nat} (h : (byS s k == 32) = false) : chOk (bs s) k = isLet (byS s k) := by
  unfold chOk
  rw [if_neg (by simpa [byS] using h)]; rfl
theorem chOk_sp0 {s : ByteArray} (h : (byS s 0 == 32) = true) : chOk (bs s) 0 = false := by
  unfold chOk
  rw [if_pos (by simpa [byS] using h)]; simp
theorem chOk_spE {s : ByteArray} {k : Nat} (h : (byS s k == 32) = true) (hk : k + 1 = s.size) : chOk (bs s) k = false := by
  unfold chOk
  rw [if_pos (by simpa [byS] using h), bs_length]; simp [hk]
theorem chOk_spM {s : ByteArray} {k : Nat} (h : (byS s k == 32) = true) (h0 : k ≠ 0) (hk : ¬ k + 1 = s.size) : chOk (bs s) k = !(byS s (k - 1) == 32) := by
  unfold chOk
  rw [if_pos (by simpa [byS] using h), bs_length, decide_eq_true h0, decide_eq_true hk]
  rw [Bool.eq_iff_iff]; simp [byS]
theorem run_byteP (s : ByteArray) (k : Nat) (h0 : k ≠ 0) (hk : k < s.size) (w : World) : (Instr.index 9 (.string s) (.int .i64 ((k : Int) - 1))).run Tryz.prog w = .ok (.int .u8 (byS s (k - 1))) w := by
  have := run_byte s (k - 1) (by omega) w
  rw [show (((k - 1 : Nat) : Nat) : Int) = (k : Int) - 1 by omega] at this
  exact this

set_option maxRecDepth 100000 in
theorem text_spec (s : ByteArray) (w : World) (hs : s.size ≤ 1048576) :
    Calls Tryz.prog 42 #[.string s] w fun e w' => e = .returned (.bool (vText (bs s))) ∧ w = w' := by
  go_enter Tryz.func42, Tryz.ntmps42
  go_wp2
  go_loop [3] (fun i => ∃ k : Nat, k ≤ s.size ∧ i = .int .i64 k ∧ AllCh (bs s) k) (fun i => s.size - (intOf i).toNat)
  case atStart => exact ⟨0, by omega, rfl, allCh_zero _⟩
  case round =>
    obtain ⟨k, hk, rfl, hr⟩ := hrel
    have HR := Lib.hid hr
    clear hr
    by_cases hlt : k < s.size
    · have hlb : k < (bs s).length := by rw [bs_length]; exact hlt
      cases hb : (byS s k == 32)
      · have hix := run_byte s k hlt
        cases hl : isLet (byS s k)
        · have HF := Lib.hid (vText_bad hlb (by rw [chOk_at hb, hl]))
          have HL := Lib.hid hl
          go_wp2_with (go_at_call 58; refine (letter_spec _ _).mono ?_; rintro e w' ⟨rfl, rfl⟩)
          go_ret
          exact ⟨retB HF.out.symm, rfl⟩
        · have HN := Lib.hid (allCh_succ HR.out (by rw [chOk_at hb, hl]))
          have HL := Lib.hid hl
          go_wp2_with (go_at_call 58; refine (letter_spec _ _).mono ?_; rintro e w' ⟨rfl, rfl⟩)
          go_round
          case rel => exact ⟨k + 1, by omega, by go_num, HN.out⟩
          case measure => simp [intOf]; omega
      · have hix := run_byte s k hlt
        by_cases h0 : k = 0
        · have HF := Lib.hid (vText_bad hlb (by subst h0; exact chOk_sp0 hb))
          have hz : ((k : Int) == 0) = true := by simp; omega
          clear h0
          go_wp2
          go_ret
          exact ⟨retB HF.out.symm, rfl⟩
        · have hij := run_byteP s k h0 hlt
          have hz : ((k : Int) == 0) = false := by simp; omega
          by_cases he : k + 1 = s.size
          · have HF := Lib.hid (vText_bad hlb (chOk_spE hb he))
            have hze : ((k : Int) == (s.size : Int) - 1) = true := by simp; omega
            clear he
            go_wp2
            go_ret
            exact ⟨retB HF.out.symm, rfl⟩
          · have hze : ((k : Int) == (s.size : Int) - 1) = false := by simp; omega
            have hc := chOk_spM hb h0 he
            clear he
            cases hp : (byS s (k - 1) == 32)
            · have HN := Lib.hid (allCh_succ HR.out (by rw [hc, hp]; rfl))
              clear hc
              go_wp2
              go_round
              case rel => exact ⟨k + 1, by omega, by go_num, HN.out⟩
              case measure => simp [intOf]; omega
            · have HF := Lib.hid (vText_bad hlb (by rw [hc, hp]; rfl))
              clear hc
              go_wp2
              go_ret
              exact ⟨retB HF.out.symm, rfl⟩
    · obtain rfl : k = s.size := by omega
      have HF := Lib.hid (vText_len (l := bs s) (by rw [bs_length]; exact HR.out))
      go_wp2
      go_ret
      refine ⟨retB ?_, rfl⟩
      rw [HF.out, bs_length]
      simp
      omega

theorem isW_bad {l : List UInt8} {k : Nat} (hk : k < l.length) (h : isLet (byt l k) = false) : isW l = false := by
  cases hv : isW l
  · rfl
  · have := (isW_iff.1 hv).1 k hk
    rw [this] at h; cases h
def AllLet (l : List UInt8) (k : Nat) : Prop := ∀ i, i < k → isLet (byt l i) = true
theorem allLet_zero (l : List UInt8) : AllLet l 0 := fun i hi => by omega
theorem allLet_succ {l : List UInt8} {k : Nat} (h : AllLet l k) (hk : isLet (byt l k) = true) : AllLet l (k + 1) := fun j hj => by
  rcases Nat.lt_succ_iff_lt_or_eq.1 hj with h1 | rfl
  · exact h j h1
  · exact hk
theorem isW_all {l : List UInt8} (h : AllLet l l.length) : isW l = decide (0 < l.length) := by
  unfold isW
  rw [decide_eq_true (show LL l from h), Bool.true_and]

set_option maxRecDepth 100000 in
theorem word_spec (s : ByteArray) (w : World) (hs : s.size ≤ 1048576) :
    Calls Tryz.prog 60 #[.string s] w fun e w' => e = .returned (.bool (isW (bs s))) ∧ w = w' := by
  go_enter Tryz.func60, Tryz.ntmps60
  go_wp2
  go_loop [3] (fun i => ∃ k : Nat, k ≤ s.size ∧ i = .int .i64 k ∧ AllLet (bs s) k) (fun i => s.size - (intOf i).toNat)
  case atStart => exact ⟨0, by omega, rfl, allLet_zero _⟩
  case round =>
    obtain ⟨k, hk, rfl, hr⟩ := hrel
    have HR := Lib.hid hr
    clear hr
    by_cases hlt : k < s.size
    · have hlb : k < (bs s).length := by rw [bs_length]; exact hlt
      have hix := run_byte s k hlt
      cases hl : isLet (byS s k)
      · have HF := Lib.hid (isW_bad hlb hl)
        have HL := Lib.hid hl
        go_wp2_with (go_at_call 58; refine (letter_spec _ _).mono ?_; rintro e w' ⟨rfl, rfl⟩)
        go_ret
        exact ⟨retB HF.out.symm, rfl⟩
      · have HN := Lib.hid (allLet_succ HR.out hl)
        have HL := Lib.hid hl
        go_wp2_with (go_at_call 58; refine (letter_spec _ _).mono ?_; rintro e w' ⟨rfl, rfl⟩)
        go_round
        case rel => exact ⟨k + 1, by omega, by go_num, HN.out⟩
        case measure => simp [intOf]; omega
    · obtain rfl : k = s.size := by omega
      have HF := Lib.hid (isW_all (l := bs s) (by rw [bs_length]; exact HR.out))
      go_wp2
      go_ret
      refine ⟨retB ?_, rfl⟩
      rw [HF.out, bs_length]
end Go.Proofs.YtnlnjpdnhdmndaaGreatDoor
namespace Go.Proofs.YtnlnjpdnhdmndaaGreatDoor
open Go Go.RowKit
set_option linter.unusedVariables false
set_option linter.unusedSimpArgs false

/-- The library's variable that strings.Contains reads holds some number. -/
def MaxW (w : World) : Prop := ∃ m : Int, w.cell? ⟨2, 0, none⟩ = some (.int .i64 m)
theorem MaxW.next {w w' : World} (h : MaxW w) (hb : Below w.heap.size w w') : MaxW w' := by
  obtain ⟨m, hm⟩ := h
  exact ⟨m, by rw [hb.cell (World.block_lt_of_cell? w _ hm)]; exact hm⟩
theorem MaxW.drewN {w : World} (h : MaxW w) (q : Nat) : MaxW (w.drewN q) := h

theorem letter_impl (n : Int) (w : World) : Calls Tryz.prog 85 #[.int .u8 n] w fun e w' => e = .returned (.bool (isLet n)) ∧ w = w' := by
  by_cases h1 : n ≥ 65
  · by_cases h2 : n ≤ 90
    · go_enter Tryz.func85, Tryz.ntmps85
      go_wp2
      go_ret
      exact ⟨retB (by unfold isLet inB; simp; omega), rfl⟩
    · go_enter Tryz.func85, Tryz.ntmps85
      go_wp2
      go_ret
      exact ⟨retB (by unfold isLet inB; simp; omega), rfl⟩
  · go_enter Tryz.func85, Tryz.ntmps85
    go_wp2
    go_ret
    exact ⟨retB (by unfold isLet inB; simp; omega), rfl⟩
theorem withinI_any (n lo hi : Int) (w : World) : Calls Tryz.prog 64 #[.int .i64 n, .int .i64 lo, .int .i64 hi] w fun e w' => e = .returned (.bool (inB lo hi n)) ∧ w = w' := by
  by_cases h1 : lo ≤ n
  · by_cases h2 : n ≤ hi
    · go_enter Tryz.func64, Tryz.ntmps64
      go_wp2
      go_ret
      exact ⟨retB (by unfold inB; simp; omega), rfl⟩
    · go_enter Tryz.func64, Tryz.ntmps64
      go_wp2
      go_ret
      exact ⟨retB (by unfold inB; simp; omega), rfl⟩
  · go_enter Tryz.func64, Tryz.ntmps64
    go_wp2
    go_ret
    exact ⟨retB (by unfold inB; simp; omega), rfl⟩

def hasB (l sub : List UInt8) : Bool := Lib.contains l sub
theorem contains2_any (s : ByteArray) (w : World) (hs : s.size ≤ 1048576) (hm : MaxW w) :
    Calls Tryz.prog 68 #[.string s, .string ⟨#[32, 32]⟩] w fun e w' => e = .returned (.bool (hasB (bs s) [32, 32])) ∧ w = w' := by
  obtain ⟨m, hm⟩ := hm
  exact (Tryz.strings_Contains s ⟨#[32, 32]⟩ m w (by omega) hm).mono fun e w' ⟨he, hw⟩ => ⟨he, hw.symm⟩
def hasByte (l : List UInt8) : Bool := decide (0 ≤ Lib.indexByte l 32)
theorem contains1_any (s : ByteArray) (w : World) :
    Calls Tryz.prog 68 #[.string s, .string ⟨#[32]⟩] w fun e w' => e = .returned (.bool (hasByte (bs s))) ∧ w = w' :=
  (Tryz.strings_Contains_one s 32 w).mono fun e w' ⟨he, hw⟩ => ⟨he, hw.symm⟩
def trimS (s : ByteArray) : ByteArray := ⟨(Lib.trimB (bs s) 32).toArray⟩
theorem trim_any (s : ByteArray) (w : World) (hs : s.size ≤ 1048576) :
    Calls Tryz.prog 78 #[.string s, .string ⟨#[32]⟩] w fun e w' => e = .returned (.string (trimS s)) ∧ ∃ q, w' = w.drewN q :=
  (Tryz.strings_Trim_one s 32 (by decide) w (by omega)).mono fun e w' ⟨he, hw⟩ => ⟨he, by
    rcases hw with rfl | rfl
    · exact ⟨0, rfl⟩
    · exact ⟨1, rfl⟩⟩
theorem trimS_eq (s : ByteArray) : ((trimS s).toList == s.toList) = decide (Lib.trimB (bs s) 32 = bs s) := by
  rw [ByteArray.toList_eq, ByteArray.toList_eq, Bool.eq_iff_iff]
  rw [beq_iff_eq, decide_eq_true_iff]; simp [trimS, bs]

def AllLS (l : List UInt8) (k : Nat) : Prop := ∀ i, i < k → byt l i = 32 ∨ isLet (byt l i) = true
theorem allLS_zero (l : List UInt8) : AllLS l 0 := fun i hi => by omega
theorem allLS_succ {l : List UInt8} {k : Nat} (h : AllLS l k) (hk : byt l k = 32 ∨ isLet (byt l k) = true) : AllLS l (k + 1) := fun j hj => by
  rcases Nat.lt_succ_iff_lt_or_eq.1 hj with h1 | rfl
  · exact h j h1
  · exact hk
theorem spaced_bad {l : List UInt8} {k : Nat} (hk : k < l.length) (h1 : isLet (byt l k) = false) (h2 : byt l k ≠ 32) : spacedT l = false := by
  unfold spacedT
  rw [decide_eq_false, Bool.false_and]
  intro hls
  rcases hls k hk with h | h
  · exact h2 h
  · rw [h] at h1; cases h1
theorem spaced_all {l : List UInt8} (h : AllLS l l.length) : spacedT l = !hasB l [32, 32] := by
  unfold spacedT hasB
  rw [decide_eq_true (show LS l from h), Bool.true_and]

set_option maxRecDepth 100000 in
theorem spaced_any (s : ByteArray) (w : World) (hs : s.size ≤ 1048576) (hm : MaxW w) :
    Calls Tryz.prog 77 #[.string s] w fun e w' => e = .returned (.bool (spacedT (bs s))) ∧ w = w' := by
  have HM := Lib.hid hm
  clear hm
  go_enter Tryz.func77, Tryz.ntmps77
  go_wp2
  go_loop [6] (fun i => ∃ k : Nat, k ≤ s.size ∧ i = .int .i64 k ∧ AllLS (bs s) k) (fun i => s.size - (intOf i).toNat)
  case atStart => exact ⟨0, by omega, rfl, allLS_zero _⟩
  case round =>
    obtain ⟨k, hk, rfl, hr⟩ := hrel
    have HR := Lib.hid hr
    clear hr
    by_cases hlt : k < s.size
    · have hlb : k < (bs s).length := by rw [bs_length]; exact hlt
      have hix := run_byte s k hlt
      cases hl : isLet (byS s k)
      · have HL := Lib.hid hl
        cases hb : (byS s k != 32)
        · have HN := Lib.hid (allLS_succ HR.out (.inl (by simpa [byS] using hb)))
          go_wp2_with (go_at_call 85; refine (letter_impl _ _).mono ?_; rintro e w' ⟨rfl, rfl⟩)
          go_round
          case rel => exact ⟨k + 1, by omega, by go_num, HN.out⟩
          case measure => simp [intOf]; omega
        · have HF := Lib.hid (spaced_bad hlb hl (by simpa [byS] using hb))
          go_wp2_with (go_at_call 85; refine (letter_impl _ _).mono ?_; rintro e w' ⟨rfl, rfl⟩)
          go_ret
          exact ⟨retB HF.out.symm, rfl⟩
      · have HN := Lib.hid (allLS_succ HR.out (.inr hl))
        have HL := Lib.hid hl
        go_wp2_with (go_at_call 85; refine (letter_impl _ _).mono ?_; rintro e w' ⟨rfl, rfl⟩)
        go_round
        case rel => exact ⟨k + 1, by omega, by go_num, HN.out⟩
        case measure => simp [intOf]; omega
    · obtain rfl : k = s.size := by omega
      have HF := Lib.hid (spaced_all (l := bs s) (by rw [bs_length]; exact HR.out))
      go_wp2_with (go_at_call 68; refine (contains2_any s _ hs HM.out).mono ?_; rintro e w' ⟨rfl, rfl⟩)
      go_ret
      exact ⟨retB HF.out.symm, rfl⟩

theorem vText_long {s : ByteArray} (h : ¬ (s.size : Int) ≤ 60) : vText (bs s) = false := by
  rw [vText_impl, bs_length, decide_eq_false (by omega)]; rfl
theorem vText_uns {s : ByteArray} (h : spacedT (bs s) = false) : vText (bs s) = false := by
  rw [vText_impl, h]; simp
theorem vText_fin {s : ByteArray} (h1 : (s.size : Int) ≤ 60) (h : spacedT (bs s) = true) : vText (bs s) = ((trimS s).toList == s.toList) := by
  rw [vText_impl, h, trimS_eq, bs_length, decide_eq_true (by omega)]; rfl

set_option maxRecDepth 100000 in
theorem text_impl (s : ByteArray) (w : World) (hs : s.size ≤ 1048576) (hm : MaxW w) :
    Calls Tryz.prog 67 #[.string s] w fun e w' => e = .returned (.bool (vText (bs s))) ∧ ∃ q, w' = w.drewN q := by
  by_cases h60 : (s.size : Int) ≤ 60
  · cases hsp : spacedT (bs s)
    · have HF := Lib.hid (vText_uns hsp)
      go_enter Tryz.func67, Tryz.ntmps67
      go_wp2_with (go_at_call 77; refine (spaced_any s _ hs hm).mono ?_; rintro e w' ⟨rfl, rfl⟩)
      go_ret
      exact ⟨retB HF.out.symm, 0, rfl⟩
    · have HF := Lib.hid (vText_fin h60 hsp)
      go_enter Tryz.func67, Tryz.ntmps67
      go_wp2_with (first
        | (go_at_call 77; refine (spaced_any s _ hs hm).mono ?_; rintro e w' ⟨rfl, rfl⟩)
        | (go_at_call 78; refine (trim_any s _ hs).mono ?_; rintro e w' ⟨rfl, q, rfl⟩))
      go_ret
      exact ⟨retB HF.out.symm, q, rfl⟩
  · have HF := Lib.hid (vText_long h60)
    go_enter Tryz.func67, Tryz.ntmps67
    go_wp2
    go_ret
    exact ⟨retB HF.out.symm, 0, rfl⟩

/-- A word as the program has it. -/
def vWord (l : List UInt8) : Bool := vText l && isW l
theorem vWord_no {l : List UInt8} (h : vText l = false) : vWord l = false := by unfold vWord; rw [h]; rfl
theorem vWord_yes {l : List UInt8} (h : vText l = true) : vWord l = (decide (l ≠ []) && !hasByte l) := by
  unfold vWord; rw [h, isW_text h]; rfl
theorem toList_bs (s : ByteArray) : s.toList = bs s := ByteArray.toList_eq s

set_option maxRecDepth 100000 in
theorem word_impl (s : ByteArray) (w : World) (hs : s.size ≤ 1048576) (hm : MaxW w) :
    Calls Tryz.prog 51 #[.string s] w fun e w' => e = .returned (.bool (vWord (bs s))) ∧ ∃ q, w' = w.drewN q := by
  cases hv : vText (bs s)
  · have HF := Lib.hid (vWord_no hv)
    have HV := Lib.hid hv
    go_enter Tryz.func51, Tryz.ntmps51
    go_wp2_with (go_at_call 67; refine (text_impl s _ hs hm).mono ?_; rintro e w' ⟨rfl, q, rfl⟩)
    go_ret
    exact ⟨retB HF.out.symm, q, rfl⟩
  · have HF := Lib.hid (vWord_yes hv)
    by_cases he : s.toList = []
    · have HE := Lib.hid (show decide (bs s ≠ []) = false by rw [← toList_bs]; simp [he])
      have he2 : s.toList.isEmpty = true := by rw [he]; rfl
      go_enter Tryz.func51, Tryz.ntmps51
      go_wp2_with (go_at_call 67; refine (text_impl s _ hs hm).mono ?_; rintro e w' ⟨rfl, q, rfl⟩)
      go_ret
      exact ⟨retB (by rw [HF.out, HE.out]; rfl), q, rfl⟩
    · have HE := Lib.hid (show decide (bs s ≠ []) = true by rw [← toList_bs]; simp [he])
      have he2 : s.toList.isEmpty = false := by simp [he]
      go_enter Tryz.func51, Tryz.ntmps51
      go_wp2_with (first
        | (go_at_call 67; refine (text_impl s _ hs hm).mono ?_; rintro e w' ⟨rfl, q, rfl⟩)
        | (go_at_call 68; refine (contains1_any s _).mono ?_; rintro e w' ⟨rfl, rfl⟩))
      go_ret
      exact ⟨retB (by rw [HF.out, HE.out]; rfl), q, rfl⟩
end Go.Proofs.YtnlnjpdnhdmndaaGreatDoor
namespace Go.Proofs.YtnlnjpdnhdmndaaGreatDoor
open Go Go.RowKit
set_option linter.unusedVariables false
set_option linter.unusedSimpArgs false
theorem maxW_of {w : World} (h : w.ShapedOpen Tryz.prog) : MaxW w :=
  cell_of_shapedOpen_int (g := 2) (t := 3) (zero := #[.int .i64 0]) h (by decide +kernel) (by kernel_rfl) rfl (by kernel_rfl) (by kernel_rfl) Tryz.underlying3
end Go.Proofs.YtnlnjpdnhdmndaaGreatDoor
namespace Go.Proofs.YtnlnjpdnhdmndaaGreatDoor
open Go Go.RowKit
set_option linter.unusedVariables false
set_option linter.unusedSimpArgs false

theorem ret_bool' {a b : Bool} (h : a = b) : Ending.returned (.bool a) = .returned (.bool b) := by rw [h]
theorem ret_int' {k : IntKind} {a b : Int} (h : a = b) : Ending.returned (.int k a) = .returned (.int k b) := by rw [h]

/-- A row of numbers of the call's own: where it lies. -/
theorem own_blk {w : World} {base : Nat} {e : TypeId} {v : Value} {n : Nat} {xs : List Value} (h : w.ownsRow base e 1 v n xs) (hn : 0 < n) :
    ∃ g c cs, v = .slice (some ⟨g, 0, none⟩) n c ∧ base ≤ g ∧ Blk w g e (xs ++ cs) ∧ xs.length = n := by
  obtain ⟨hl, h⟩ := h
  rcases h with ⟨_, rfl⟩ | ⟨g, cap, cur, rfl, hg, hh, hc, hm, hs, ht⟩
  · omega
  · refine ⟨g, cap, cur.toList.drop n, rfl, hg, ?_, by omega⟩
    unfold Blk
    rw [← ht, Nat.mul_one, List.take_append_drop]
    simpa using hh

theorem Blk.head {α : Type} {enc : α → Value} {w : World} {b : Nat} {t : TypeId} {xs : List α} {cs : List Value} (h : Blk w b t (xs.map enc ++ cs)) : RowE enc w ⟨b, 0, none⟩ xs := by
  intro i x hx
  have hadd : (⟨b, 0, none⟩ : Addr).add i = ⟨b, i, none⟩ := by unfold Addr.add; split <;> simp_all
  rw [hadd]
  refine h.cell i _ ?_
  have hi : i < xs.length := (List.getElem?_eq_some_iff.1 hx).1
  rw [List.getElem?_append_left (by simpa using hi), List.getElem?_map, hx]; rfl

theorem grown_set {w w' : World} {g : Nat} (h : w.grownBy w' (some g)) (i : Nat) (v : Value) : w.grownBy (w'.setCell ⟨g, i, none⟩ v) (some g) :=
  ⟨h.os, h.tape, h.output, by simpa using h.size, fun k hk hne => by rw [heap_setCell_other w' ⟨g, i, none⟩ k v (fun e => hne (by rw [e]))]; exact h.block k hk hne⟩
theorem grown_refl (w : World) (r : Option Nat) : w.grownBy w r := ⟨rfl, rfl, rfl, Nat.le_refl _, fun _ _ _ => rfl⟩

structure EqRel (A B : Option Addr) (xs : List Int) (w wr : World) : Prop where
  one : SlE i64 wr A xs
  two : SlE i64 wr B xs
  drew : ∃ m, wr = w.drewN m

set_option maxRecDepth 100000 in
/-- Two slices of the same numbers are equal. -/
theorem eqInt64S_same (A B : Option Addr) (c d : Nat) (xs : List Int) (n : Nat) (w : World) (hn : xs.length = n) (hm : n ≤ maxLen) (ha : SlE i64 w A xs) (hb : SlE i64 w B xs) :
    Calls Tryz.prog 10 #[.slice A n c, .slice B n d] w fun e w' => e = .returned (.bool true) ∧ ∃ m, w' = w.drewN m := by
  have HN := Lib.hid hn
  clear hn
  unfold maxLen at hm
  have h0 : ((n : Int) != (n : Int)) = false := by simp
  go_enter Tryz.func10, Tryz.ntmps10
  go_wp2
  go_loopw [5] (fun i wr => ∃ k : Nat, k ≤ n ∧ i = .int .i64 k ∧ EqRel A B xs w wr) (fun i _ => n - (intOf i).toNat)
  case atStart => exact ⟨0, by omega, rfl, ha, hb, 0, rfl⟩
  case round =>
    obtain ⟨k, hk, rfl, h⟩ := hrel
    by_cases hlt : k < n
    · obtain ⟨a, rfl, hr1⟩ := h.one.some k (by rw [HN.out]; omega)
      obtain ⟨b, rfl, hr2⟩ := h.two.some k (by rw [HN.out]; omega)
      have hc1 := hr1.atI64 k (by rw [HN.out]; omega)
      have hc2 := hr2.atI64 k (by rw [HN.out]; omega)
      have he : (rdI xs k != rdI xs k) = false := by simp
      clear hr1 hr2 ha hb
      go_wp2
      go_quiet (fail)
      go_wp2
      go_roundw
      case rel =>
        obtain ⟨h1, h2, m, hw⟩ := h
        exact ⟨k + 1, by omega, by go_num, h1.same fun _ _ => rfl, h2.same fun _ _ => rfl, m + nq, by rw [hw, World.drewN_drewN]⟩
      case measure => simp [intOf]; omega
    · obtain rfl : k = n := by omega
      clear ha hb
      go_wp2
      go_ret
      exact ⟨rfl, h.drew⟩

/-- The row after its first j cells have been marked. -/
def markV (k : Int) (vs : List Value) (j : Nat) : List Value := (List.range j).map (fun (i : Nat) => i64 (k + (i : Int))) ++ vs.drop j
theorem markV_zero (k : Int) (vs : List Value) : markV k vs 0 = vs := by simp [markV]
theorem markV_set (k : Int) (vs : List Value) (j : Nat) (hj : j < vs.length) : (markV k vs j).set j (.int .i64 (k + (j : Int))) = markV k vs (j + 1) := by
  unfold markV
  rw [List.set_append_right _ _ (by simp), List.range_succ, List.map_append, List.length_map, List.length_range, Nat.sub_self, List.drop_eq_getElem_cons hj, List.set_cons_zero, List.append_assoc]
  rfl
theorem markV_at (k : Int) (vs : List Value) (j : Nat) (hj : j < vs.length) : (markV k vs j)[j]? = some vs[j] := by
  unfold markV
  rw [List.getElem?_append_right (by simp), List.drop_eq_getElem_cons hj]
  simp

/-- Numbers that count on from k. -/
def fromN (k : Int) (n : Nat) : List Int := (List.range n).map fun (i : Nat) => k + (i : Int)
theorem fromN_length (k : Int) (n : Nat) : (fromN k n).length = n := by simp [fromN]
theorem fromN_at (k : Int) (n i : Nat) (hi : i < n) : rdI (fromN k n) i = k + (i : Int) := by
  simp [rdI, fromN, List.getD, List.getElem?_map, List.getElem?_range hi]
theorem mark_row {w : World} {g : Nat} {t : TypeId} {k : Int} {vs : List Value} {n : Nat} (h : Blk w g t (markV k vs n)) : RowE i64 w ⟨g, 0, none⟩ (fromN k n) := by
  refine Blk.head (cs := vs.drop n) (t := t) ?_
  have e : (fromN k n).map i64 ++ vs.drop n = markV k vs n := by unfold fromN markV; rw [List.map_map]; rfl
  rw [e]; exact h

structure MarkRel (g : Nat) (t : TypeId) (k : Int) (vs : List Value) (w wr : World) (j : Nat) : Prop where
  blk : Blk wr g t (markV k vs j)
  grown : w.grownBy wr (some g)

set_option maxRecDepth 100000 in
theorem markInt64S_own (g c : Nat) (t : TypeId) (vs : List Value) (n : Nat) (k : Int) (w : World) (hn : n ≤ vs.length) (hm : n ≤ 1000000000) (hk : 0 ≤ k ∧ k ≤ 1125899906842624) (h : Blk w g t vs) :
    Calls Tryz.prog 15 #[.slice (some ⟨g, 0, none⟩) n c, .int .i64 k] w fun e w' => e = .returned (.int .i64 (k + n)) ∧ Blk w' g t (markV k vs n) ∧ w.grownBy w' (some g) := by
  go_enter Tryz.func15, Tryz.ntmps15
  go_wp2
  go_loopw [1, 5] (fun q i wr => ∃ j : Nat, j ≤ n ∧ i = .int .i64 j ∧ q = .int .i64 (k + (j : Int)) ∧ MarkRel g t k vs w wr j) (fun _ i _ => n - (intOf i).toNat)
  case atStart => exact ⟨0, by omega, rfl, by simp, by rw [markV_zero]; exact h, grown_refl _ _⟩
  case round =>
    obtain ⟨j, hj, rfl, rfl, hr⟩ := hrel
    by_cases hlt : j < n
    · have hcell := hr.blk.cell j _ (markV_at k vs j (by omega))
      have hfr := hr.blk.free j
      go_wp2
      go_roundw
      case rel =>
        refine ⟨j + 1, by omega, by go_num, by go_num, ?_, grown_set hr.grown _ _⟩
        rw [← markV_set k vs j (by omega)]
        exact hr.blk.set j _
      case measure => simp [intOf]; omega
    · obtain rfl : j = n := by omega
      go_wp2
      go_ret
      exact ⟨rfl, hr.blk, hr.grown⟩

set_option maxRecDepth 100000 in
theorem heldInt64S_same (A : Option Addr) (c : Nat) (n : Nat) (k : Int) (w : World) (hm : n ≤ 1000000000) (hk : 0 ≤ k ∧ k ≤ 1125899906842624) (h : SlE i64 w A (fromN k n)) :
    Calls Tryz.prog 16 #[.slice A n c, .int .i64 k] w fun e w' => e = .returned (.int .i64 (k + n)) ∧ w = w' := by
  go_enter Tryz.func16, Tryz.ntmps16
  go_wp2
  go_loop [1, 5] (fun q i => ∃ j : Nat, j ≤ n ∧ i = .int .i64 j ∧ q = .int .i64 (k + (j : Int))) (fun _ i => n - (intOf i).toNat)
  case atStart => exact ⟨0, by omega, rfl, by simp⟩
  case round =>
    obtain ⟨j, hj, rfl, rfl⟩ := hrel
    by_cases hlt : j < n
    · obtain ⟨a, rfl, hr⟩ := h.some j (by rw [fromN_length]; omega)
      have hcell := hr.atI64 j (by rw [fromN_length]; omega)
      rw [fromN_at k n j hlt] at hcell
      have he : ((k + (j : Int)) != (k + (j : Int))) = false := by simp
      clear hr h
      go_wp2
      go_round
      case rel => exact ⟨j + 1, by omega, by go_num, by go_num⟩
      case measure => simp [intOf]; omega
    · obtain rfl : j = n := by omega
      clear h
      go_wp2
      go_ret
      exact ⟨rfl, rfl⟩
end Go.Proofs.YtnlnjpdnhdmndaaGreatDoor
namespace Go.Proofs.YtnlnjpdnhdmndaaGreatDoor
open Go Go.RowKit
set_option linter.unusedVariables false
set_option linter.unusedSimpArgs false

/-- Nothing but blocks from lo up to hi has changed. -/
structure Within (lo hi : Nat) (w w' : World) : Prop where
  os : w'.os = w.os
  tape : w'.tape = w.tape
  output : w'.output = w.output
  size : w.heap.size ≤ w'.heap.size
  block : ∀ k, k < w.heap.size → (k < lo ∨ hi ≤ k) → w'.heap[k]? = w.heap[k]?
theorem Within.refl (lo hi : Nat) (w : World) : Within lo hi w w := ⟨rfl, rfl, rfl, Nat.le_refl _, fun _ _ _ => rfl⟩
theorem Within.trans {lo hi : Nat} {a b c : World} (h : Within lo hi a b) (k : Within lo hi b c) : Within lo hi a c :=
  ⟨k.os.trans h.os, k.tape.trans h.tape, k.output.trans h.output, Nat.le_trans h.size k.size, fun i hi he => (k.block i (Nat.lt_of_lt_of_le hi h.size) he).trans (h.block i hi he)⟩
theorem Within.of_grown {lo hi g : Nat} {w w' : World} (h : w.grownBy w' (some g)) (hl : lo ≤ g) (hh : g < hi) : Within lo hi w w' :=
  ⟨h.os, h.tape, h.output, h.size, fun k hk he => h.block k hk (by intro e; cases e; omega)⟩
theorem Within.below {lo hi B : Nat} {a w w' : World} (h : Within lo hi w w') (hb : Below B a w) (hB : B ≤ lo) (hs : B ≤ w.heap.size) : Below B a w' :=
  hb.trans ⟨h.os, h.tape, h.output, h.size, fun k hk => h.block k (by omega) (.inl (by omega))⟩
theorem Blk.within {lo hi : Nat} {w w' : World} {b : Nat} {t : TypeId} {vs : List Value} (h : Blk w b t vs) (hw : Within lo hi w w') (hd : b < lo ∨ hi ≤ b) : Blk w' b t vs := by
  unfold Blk; rw [hw.block b h.lt hd]; exact h

/-- A row of numbers of a call's own, in a block from lo up to hi (nowhere, if there are none). -/
def OwnS (w : World) (lo hi : Nat) (A : Option Addr) (xs : List Int) : Prop := 0 < xs.length → ∃ g cs, A = some ⟨g, 0, none⟩ ∧ lo ≤ g ∧ g < hi ∧ Blk w g 2 (xs.map i64 ++ cs)
theorem OwnS.sl {w : World} {lo hi : Nat} {A : Option Addr} {xs : List Int} (h : OwnS w lo hi A xs) : SlE i64 w A xs := by
  intro i x hx
  have hi : i < xs.length := (List.getElem?_eq_some_iff.1 hx).1
  obtain ⟨g, cs, rfl, _, _, hb⟩ := h (by omega)
  exact SlE.of_row hb.head i x hx
theorem OwnS.next {w w' : World} {lo hi : Nat} {A : Option Addr} {xs : List Int} (h : OwnS w lo hi A xs) (hb : Below w.heap.size w w') : OwnS w' lo hi A xs := fun hn => by
  obtain ⟨g, cs, e, h1, h2, h3⟩ := h hn
  exact ⟨g, cs, e, h1, h2, h3.next hb⟩
theorem OwnS.drewN {w : World} {lo hi : Nat} {A : Option Addr} {xs : List Int} (h : OwnS w lo hi A xs) (q : Nat) : OwnS (w.drewN q) lo hi A xs := h
theorem OwnS.within {w w' : World} {lo hi a b : Nat} {A : Option Addr} {xs : List Int} (h : OwnS w lo hi A xs) (hw : Within a b w w') (hd : hi ≤ a ∨ b ≤ lo) : OwnS w' lo hi A xs := fun hn => by
  obtain ⟨g, cs, e, h1, h2, h3⟩ := h hn
  exact ⟨g, cs, e, h1, h2, h3.within hw (by omega)⟩
theorem OwnS.nil {w : World} {lo hi : Nat} {A : Option Addr} : OwnS w lo hi A [] := fun h => by simp at h
theorem OwnS.of_blk {w : World} {lo hi g : Nat} {xs : List Int} {cs : List Value} (h : Blk w g 2 (xs.map i64 ++ cs)) (h1 : lo ≤ g) (h2 : g < hi) : OwnS w lo hi (some ⟨g, 0, none⟩) xs := fun _ => ⟨g, cs, rfl, h1, h2, h⟩
theorem OwnS.of_own {w : World} {lo : Nat} {v : Value} {n : Nat} {xs : List Int} (h : w.ownsRow lo 2 1 v n (xs.map i64)) : ∃ A c, v = .slice A xs.length c ∧ xs.length = n ∧ OwnS w lo w.heap.size A xs := by
  by_cases hn : 0 < n
  · obtain ⟨g, c, cs, rfl, hg, hb, hl⟩ := own_blk h hn
    rw [List.length_map] at hl
    exact ⟨_, c, by rw [hl], hl, fun _ => ⟨g, cs, rfl, hg, hb.lt, hb⟩⟩
  · obtain ⟨A, c, e, hl, _, _⟩ := SlE_own h
    have hx : xs = [] := List.eq_nil_of_length_eq_zero (by omega)
    exact ⟨A, c, e, hl, by rw [hx]; exact OwnS.nil⟩

theorem markInt64S_zero (A : Option Addr) (c : Nat) (k : Int) (w : World) :
    Calls Tryz.prog 15 #[.slice A 0 c, .int .i64 k] w fun e w' => e = .returned (.int .i64 k) ∧ w = w' := by
  go_enter Tryz.func15, Tryz.ntmps15
  go_wp2
  go_loop [1, 5] (fun q i => q = .int .i64 k ∧ i = .int .i64 0) (fun _ _ => 0)
  case atStart => exact ⟨rfl, rfl⟩
  case round =>
    obtain ⟨rfl, rfl⟩ := hrel
    go_wp2
    go_ret
    exact ⟨rfl, rfl⟩

/-- A result is marked: it holds the numbers from k on then; nothing else has changed. -/
theorem markInt64S_ownS (lo hi : Nat) (A : Option Addr) (c : Nat) (xs : List Int) (n : Nat) (k : Int) (w : World) (hn : xs.length = n) (hm : n ≤ 1000000000) (hk : 0 ≤ k ∧ k ≤ 1125899906842624) (h : OwnS w lo hi A xs) :
    Calls Tryz.prog 15 #[.slice A n c, .int .i64 k] w fun e w' => e = .returned (.int .i64 (k + n)) ∧ OwnS w' lo hi A (fromN k n) ∧ Within lo hi w w' := by
  by_cases h0 : n = 0
  · subst h0
    exact (markInt64S_zero A c k w).mono fun e w' ⟨he, hw⟩ => ⟨by rw [he]; simp, fun h => by rw [fromN_length] at h; omega, by rw [← hw]; exact Within.refl _ _ _⟩
  · obtain ⟨g, cs, rfl, hg1, hg2, hb⟩ := h (by omega)
    refine (markInt64S_own g c _ _ n k w (by simp; omega) hm hk hb).mono fun e w' ⟨he, h1, h2⟩ => ⟨he, fun _ => ⟨g, (xs.map i64 ++ cs).drop n, rfl, hg1, hg2, ?_⟩, Within.of_grown h2 hg1 hg2⟩
    have e1 : (fromN k n).map i64 ++ (xs.map i64 ++ cs).drop n = markV k (xs.map i64 ++ cs) n := by unfold fromN markV; rw [List.map_map]; rfl
    rw [e1]
    exact h1
end Go.Proofs.YtnlnjpdnhdmndaaGreatDoor
namespace Go.Proofs.YtnlnjpdnhdmndaaGreatDoor
open Go Go.RowKit
set_option linter.unusedVariables false
set_option linter.unusedSimpArgs false

/-- A row whose first j cells have been written. -/
def setV (us vs : List Value) (j : Nat) : List Value := us.take j ++ vs.drop j
theorem setV_zero (us vs : List Value) : setV us vs 0 = vs := by simp [setV]
theorem setV_set (us vs : List Value) (j : Nat) (u : Value) (hu : us[j]? = some u) (hj : j < vs.length) : (setV us vs j).set j u = setV us vs (j + 1) := by
  have hju : j < us.length := (List.getElem?_eq_some_iff.1 hu).1
  have hl : (us.take j).length = j := by simp; omega
  unfold setV
  rw [List.set_append_right _ _ (by omega), hl, Nat.sub_self, List.drop_eq_getElem_cons hj, List.set_cons_zero, List.take_add_one, hu]
  simp
theorem setV_at (us vs : List Value) (j : Nat) (hju : j ≤ us.length) (hj : j < vs.length) : (setV us vs j)[j]? = some vs[j] := by
  have hl : (us.take j).length = j := by simp; omega
  unfold setV
  rw [List.getElem?_append_right (by omega), hl, Nat.sub_self, List.drop_eq_getElem_cons hj]
  rfl
theorem own_at {w : World} {base : Nat} {e : TypeId} {g n c : Nat} {xs : List Value} (h : w.ownsRow base e 1 (.slice (some ⟨g, 0, none⟩) n c) n xs) : base ≤ g ∧ xs.length = n ∧ ∃ cs, Blk w g e (xs ++ cs) := by
  obtain ⟨hl, h⟩ := h
  rcases h with ⟨h1, _⟩ | ⟨g', cap, cur, h1, hg, hh, hc, hm, hs, ht⟩
  · cases h1
  · cases h1
    refine ⟨hg, by omega, cur.toList.drop n, ?_⟩
    unfold Blk
    rw [← ht, Nat.mul_one, List.take_append_drop]
    simpa using hh
theorem elI64' : El Tryz.prog 30 2 (.int .i64 0) 1 8 := ⟨Tryz.underlying30, by kernel_rfl, rfl, by decide⟩

/-- A row of numbers at a block of the call's own. -/
def CopyOut (w : World) (xs : List Int) (n : Nat) (e : Ending) (w' : World) : Prop :=
  ∃ g cs, e = .returned (.slice (some ⟨g, 0, none⟩) n n) ∧ w.heap.size ≤ g ∧ Blk w' g 2 (xs.map i64 ++ cs) ∧ Below w.heap.size w w'

structure CopyRel (g : Nat) (us vs : List Value) (w wr : World) (j : Nat) : Prop where
  blk : Blk wr g 2 (setV us vs j)
  below : Below w.heap.size w wr

end Go.Proofs.YtnlnjpdnhdmndaaGreatDoor
