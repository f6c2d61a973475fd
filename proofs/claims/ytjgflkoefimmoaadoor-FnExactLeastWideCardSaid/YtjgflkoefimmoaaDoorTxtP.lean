/- Texts and words by their bytes: what is valid, how a text is split and joined. No walk here. -/
import Derived.Test.YtjgflkoefimmoaaDoorBase
import Derived.Lib.FieldsLaws
import Derived.Lib.TrimByte
import Derived.Lib.IndexMore
import Derived.Lib.Join
namespace Go.Proofs.YtjgflkoefimmoaaDoor
open Go Go.RowKit
set_option linter.unusedVariables false
set_option linter.unusedSimpArgs false

/-- A byte of a text, 0 behind its end. -/
def byt (l : List UInt8) (i : Nat) : Int := ((l.getD i 0).toNat : Int)
theorem byt_range (l : List UInt8) (i : Nat) : 0 ≤ byt l i ∧ byt l i ≤ 255 := by
  unfold byt
  have := (l.getD i 0).toNat_lt
  omega
theorem byt_get {l : List UInt8} {i : Nat} (h : i < l.length) : byt l i = ((l[i]).toNat : Int) := by
  unfold byt; rw [List.getD, List.getElem?_eq_getElem h]; rfl
theorem byt_out {l : List UInt8} {i : Nat} (h : l.length ≤ i) : byt l i = 0 := by
  unfold byt; rw [List.getD, List.getElem?_eq_none h]; rfl
theorem byt_append_left {a b : List UInt8} {i : Nat} (h : i < a.length) : byt (a ++ b) i = byt a i := by
  unfold byt; rw [List.getD, List.getD, List.getElem?_append_left h]
theorem byt_append_right {a b : List UInt8} {i : Nat} : byt (a ++ b) (a.length + i) = byt b i := by
  unfold byt; rw [List.getD, List.getD, List.getElem?_append_right (by omega), Nat.add_sub_cancel_left]
theorem byt_take {l : List UInt8} {i k : Nat} (h : i < k) : byt (l.take k) i = byt l i := by
  unfold byt; rw [List.getD, List.getD, List.getElem?_take_of_lt h]
theorem byt_drop {l : List UInt8} {i k : Nat} : byt (l.drop k) i = byt l (k + i) := by
  unfold byt; rw [List.getD, List.getD, List.getElem?_drop]
theorem byt_cons {b : UInt8} {l : List UInt8} {i : Nat} : byt (b :: l) (i + 1) = byt l i := by
  unfold byt; simp
theorem byt_head {b : UInt8} {l : List UInt8} : byt (b :: l) 0 = (b.toNat : Int) := by
  unfold byt; simp
theorem u8_eq {a b : UInt8} (h : (a.toNat : Int) = (b.toNat : Int)) : a = b := UInt8.toNat_inj.1 (by omega)

/-- A letter. -/
def isLet (n : Int) : Bool := inB 65 90 n
theorem isLet_iff {n : Int} : isLet n = true ↔ 65 ≤ n ∧ n ≤ 90 := inB_iff
theorem isLet_no {n : Int} : isLet n = false ↔ ¬ (65 ≤ n ∧ n ≤ 90) := inB_not

/-- The byte at i is as it should be in a text. -/
def chOk (l : List UInt8) (i : Nat) : Bool := if byt l i = 32 then decide (i ≠ 0) && decide (i + 1 ≠ l.length) && decide (byt l (i - 1) ≠ 32) else isLet (byt l i)
def AllCh (l : List UInt8) (k : Nat) : Prop := ∀ i, i < k → chOk l i = true
instance (l : List UInt8) (k : Nat) : Decidable (AllCh l k) := by unfold AllCh; infer_instance
/-- A valid text. -/
def vText (l : List UInt8) : Bool := decide (AllCh l l.length) && decide (l.length ≤ 60)
theorem vText_iff {l : List UInt8} : vText l = true ↔ AllCh l l.length ∧ l.length ≤ 60 := by unfold vText; simp
theorem allCh_zero (l : List UInt8) : AllCh l 0 := fun i hi => by omega
theorem allCh_succ {l : List UInt8} {k : Nat} (h : AllCh l k) (hk : chOk l k = true) : AllCh l (k + 1) := fun j hj => by
  rcases Nat.lt_succ_iff_lt_or_eq.1 hj with h1 | rfl
  · exact h j h1
  · exact hk
theorem vText_bad {l : List UInt8} {k : Nat} (hk : k < l.length) (h : chOk l k = false) : vText l = false := by
  cases hv : vText l
  · rfl
  · have := (vText_iff.1 hv).1 k hk
    rw [this] at h; cases h
theorem vText_len {l : List UInt8} (h : AllCh l l.length) : vText l = decide (l.length ≤ 60) := by unfold vText; rw [decide_eq_true h, Bool.true_and]
theorem chOk_sp {l : List UInt8} {i : Nat} (h : chOk l i = true) (h32 : byt l i = 32) : i ≠ 0 ∧ i + 1 ≠ l.length ∧ byt l (i - 1) ≠ 32 := by
  unfold chOk at h; rw [if_pos h32] at h; simpa [and_assoc] using h
theorem chOk_let {l : List UInt8} {i : Nat} (h : chOk l i = true) (h32 : byt l i ≠ 32) : isLet (byt l i) = true := by
  unfold chOk at h; rwa [if_neg h32] at h

/-- Letters and blanks alone. -/
def LS (l : List UInt8) : Prop := ∀ i, i < l.length → byt l i = 32 ∨ isLet (byt l i) = true
/-- Letters alone. -/
def LL (l : List UInt8) : Prop := ∀ i, i < l.length → isLet (byt l i) = true
instance (l : List UInt8) : Decidable (LS l) := by unfold LS; infer_instance
instance (l : List UInt8) : Decidable (LL l) := by unfold LL; infer_instance
theorem LL.ls {l : List UInt8} (h : LL l) : LS l := fun i hi => .inr (h i hi)
theorem vText_ls {l : List UInt8} (h : vText l = true) : LS l := fun i hi => by
  have h1 := (vText_iff.1 h).1 i hi
  by_cases e : byt l i = 32
  · exact .inl e
  · exact .inr (chOk_let h1 e)
theorem isSp_no {b : UInt8} (h : 65 ≤ b.toNat) : Lib.isSp b = false := by
  have e : ∀ c : UInt8, c.toNat < 65 → (b == c) = false := fun c hc => by
    rw [beq_eq_false_iff_ne]
    intro he
    rw [he] at h
    omega
  unfold Lib.isSp
  rw [e 9 (by decide), e 10 (by decide), e 11 (by decide), e 12 (by decide), e 13 (by decide), e 32 (by decide)]
  rfl
theorem ls_sp {l : List UInt8} (h : LS l) (b : UInt8) (hb : b ∈ l) : Lib.isSp b = decide ((b.toNat : Int) = 32) ∧ b.toNat < 128 := by
  obtain ⟨i, hi, rfl⟩ := List.getElem_of_mem hb
  have h1 := h i hi
  rw [byt_get hi] at h1
  rcases h1 with h1 | h1
  · have e : l[i] = 32 := u8_eq (by rw [h1]; rfl)
    rw [e]
    exact ⟨by decide, by decide⟩
  · have h2 := isLet_iff.1 h1
    exact ⟨by rw [decide_eq_false (by omega), isSp_no (by omega)], by omega⟩

/-! ### A text is split -/
def begF (c : Int) (l : List UInt8) : Nat → Nat
  | 0 => 0
  | i + 1 => if byt l i == c then i + 1 else begF c l i
def cutT (l : List UInt8) (a b : Nat) : List UInt8 := (l.drop a).take (b - a)
def piecesF (c : Int) (l : List UInt8) : Nat → List (List UInt8)
  | 0 => []
  | i + 1 => if byt l i == c then piecesF c l i ++ [cutT l (begF c l i) i] else piecesF c l i
def splitF (c : Int) (l : List UInt8) : List (List UInt8) := piecesF c l l.length ++ [cutT l (begF c l l.length) l.length]
theorem begF_le (c : Int) (l : List UInt8) (i : Nat) : begF c l i ≤ i := by
  induction i with
  | zero => exact Nat.le_refl _
  | succ i ih => rw [begF]; split <;> omega
theorem begF_yes {c : Int} {l : List UInt8} {i : Nat} (h : (byt l i == c) = true) : begF c l (i + 1) = i + 1 := by rw [begF, if_pos h]
theorem begF_no {c : Int} {l : List UInt8} {i : Nat} (h : (byt l i == c) = false) : begF c l (i + 1) = begF c l i := by rw [begF, if_neg (by rw [h]; decide)]
theorem piecesF_yes {c : Int} {l : List UInt8} {i : Nat} (h : (byt l i == c) = true) : piecesF c l (i + 1) = piecesF c l i ++ [cutT l (begF c l i) i] := by rw [piecesF, if_pos h]
theorem piecesF_no {c : Int} {l : List UInt8} {i : Nat} (h : (byt l i == c) = false) : piecesF c l (i + 1) = piecesF c l i := by rw [piecesF, if_neg (by rw [h]; decide)]
theorem piecesF_length (c : Int) (l : List UInt8) (i : Nat) : (piecesF c l i).length ≤ i := by
  induction i with
  | zero => exact Nat.le_refl _
  | succ i ih => rw [piecesF]; split <;> first | (simp; omega) | omega
theorem cutT_length {l : List UInt8} {a b : Nat} (h : b ≤ l.length) : (cutT l a b).length = b - a := by unfold cutT; simp; omega
theorem byt_cutT {l : List UInt8} {a b i : Nat} (h : i < b - a) : byt (cutT l a b) i = byt l (a + i) := by
  unfold cutT; rw [byt_take h, byt_drop]
theorem cutT_more {l : List UInt8} {a i : Nat} (ha : a ≤ i) (h : i < l.length) : cutT l a (i + 1) = cutT l a i ++ [l[i]] := Lib.piece_more ha (List.getElem?_eq_getElem h)
theorem cutT_same (l : List UInt8) (a : Nat) : cutT l a a = [] := by unfold cutT; simp

/-- The pieces, from the left. -/
def splitGo (c : Int) : List UInt8 → List UInt8 → List (List UInt8)
  | cur, [] => [cur]
  | cur, b :: r => if (b.toNat : Int) == c then cur :: splitGo c [] r else splitGo c (cur ++ [b]) r
theorem split_go (c : Int) (l : List UInt8) (k : Nat) (hk : k ≤ l.length) : piecesF c l k ++ splitGo c (cutT l (begF c l k) k) (l.drop k) = splitF c l := by
  obtain ⟨m, hm⟩ : ∃ m, m = l.length - k := ⟨_, rfl⟩
  induction m generalizing k with
  | zero =>
    have e : k = l.length := by omega
    subst e
    rw [List.drop_length, splitGo, splitF]
  | succ m ih =>
    have hlt : k < l.length := by omega
    rw [List.drop_eq_getElem_cons hlt, splitGo, ← byt_get hlt]
    have hb := begF_le c l k
    cases hc : (byt l k == c)
    · rw [if_neg (by decide), ← ih (k + 1) (by omega) (by omega), piecesF_no hc, begF_no hc, cutT_more hb hlt]
    · rw [if_pos rfl, ← ih (k + 1) (by omega) (by omega), piecesF_yes hc, begF_yes hc, cutT_same, List.append_assoc]
      rfl
theorem splitF_go (c : Int) (l : List UInt8) : splitF c l = splitGo c [] l := by
  have := split_go c l 0 (Nat.zero_le _)
  rw [← this]; rfl

/-- The words of a text. -/
def words (l : List UInt8) : List (List UInt8) := if l = [] then [] else splitF 32 l

/-- What follows is a text: no blank at its head (or an open word ahead of it), none at its end, no two side by side. -/
def goT : Bool → List UInt8 → Prop
  | o, [] => o = true
  | o, b :: r => if (b.toNat : Int) = 32 then o = true ∧ goT false r else isLet b.toNat = true ∧ goT true r
theorem fields_go {l cur : List UInt8} (h : goT (!cur.isEmpty) l) : Lib.fieldsGo cur l = splitGo 32 cur l := by
  induction l generalizing cur with
  | nil => cases cur <;> simp_all [Lib.fieldsGo, splitGo, goT]
  | cons b r ih =>
    rw [goT] at h
    by_cases h32 : (b.toNat : Int) = 32
    · rw [if_pos h32] at h
      have e : b = 32 := u8_eq (by rw [h32]; rfl)
      have hs : Lib.isSp b = true := by rw [e]; decide
      rw [splitGo, if_pos (by simpa using h32)]
      rw [Lib.fieldsGo_end cur b r hs (by intro hc; subst hc; simp at h)]
      rw [ih (cur := []) h.2]
    · rw [if_neg h32] at h
      have hl := isLet_iff.1 h.1
      have hs : Lib.isSp b = false := isSp_no (by omega)
      rw [splitGo, if_neg (by simpa using h32), Lib.fieldsGo_more cur b r hs]
      exact ih (cur := cur ++ [b]) (by cases cur <;> exact h.2)
theorem goT_drop {l : List UInt8} (h : AllCh l l.length) (k : Nat) (hk : k ≤ l.length) (o : Bool) (ho : o = true ↔ (0 < k ∧ byt l (k - 1) ≠ 32)) (hne : k = l.length → o = true) : goT o (l.drop k) := by
  obtain ⟨m, hm⟩ : ∃ m, m = l.length - k := ⟨_, rfl⟩
  induction m generalizing k o with
  | zero =>
    have e : k = l.length := by omega
    subst e
    rw [List.drop_length, goT]
    exact hne rfl
  | succ m ih =>
    have hlt : k < l.length := by omega
    have hc := h k hlt
    rw [List.drop_eq_getElem_cons hlt, goT, ← byt_get hlt]
    by_cases h32 : byt l k = 32
    · rw [if_pos h32]
      obtain ⟨h1, h2, h3⟩ := chOk_sp hc h32
      refine ⟨ho.2 ⟨by omega, h3⟩, ih (k + 1) (by omega) false ?_ (fun e => absurd e h2) (by omega)⟩
      rw [Nat.add_sub_cancel]
      simp [h32]
    · rw [if_neg h32]
      refine ⟨?_, ih (k + 1) (by omega) true ?_ (fun _ => rfl) (by omega)⟩
      · exact chOk_let hc h32
      · rw [Nat.add_sub_cancel]
        simp [h32]
theorem fields_words {l : List UInt8} (h : vText l = true) : Lib.fields l = words l := by
  unfold words
  by_cases hl : l = []
  · subst hl; rfl
  · rw [if_neg hl, splitF_go]
    refine fields_go (cur := []) ?_
    have := goT_drop (vText_iff.1 h).1 0 (Nat.zero_le _) false (by simp) (fun e => absurd (List.eq_nil_of_length_eq_zero e.symm) hl)
    simpa using this

/-- A word: letters, one at least. -/
def IsW (l : List UInt8) : Prop := LL l ∧ 0 < l.length
def isW (l : List UInt8) : Bool := decide (LL l) && decide (0 < l.length)
theorem isW_iff {l : List UInt8} : isW l = true ↔ IsW l := by unfold isW IsW; simp
theorem LL.snoc {l : List UInt8} {b : UInt8} (h : LL l) (hb : isLet b.toNat = true) : LL (l ++ [b]) := fun i hi => by
  by_cases e : i < l.length
  · rw [byt_append_left e]; exact h i e
  · have : i = l.length + 0 := by simp at hi; omega
    rw [this, byt_append_right, byt_head]; exact hb
theorem LL.nil : LL [] := fun i hi => by simp at hi
theorem goT_words {l cur : List UInt8} (h : goT (!cur.isEmpty) l) (hc : LL cur) : ∀ x ∈ splitGo 32 cur l, IsW x := by
  induction l generalizing cur with
  | nil =>
    rw [goT] at h
    intro x hx
    rw [splitGo] at hx
    obtain rfl := List.mem_singleton.1 hx
    refine ⟨hc, ?_⟩
    cases x <;> simp_all
  | cons b r ih =>
    rw [goT] at h
    by_cases h32 : (b.toNat : Int) = 32
    · rw [if_pos h32] at h
      rw [splitGo, if_pos (by simpa using h32)]
      intro x hx
      rcases List.mem_cons.1 hx with rfl | hx
      · refine ⟨hc, ?_⟩
        cases x <;> simp_all
      · exact ih (cur := []) h.2 LL.nil x hx
    · rw [if_neg h32] at h
      rw [splitGo, if_neg (by simpa using h32)]
      exact ih (cur := cur ++ [b]) (by cases cur <;> exact h.2) (hc.snoc h.1)
theorem words_isW {l : List UInt8} (h : vText l = true) : ∀ x ∈ words l, IsW x := by
  unfold words
  by_cases hl : l = []
  · rw [if_pos hl]; intro x hx; cases hx
  · rw [if_neg hl, splitF_go]
    refine goT_words (cur := []) ?_ LL.nil
    have := goT_drop (vText_iff.1 h).1 0 (Nat.zero_le _) false (by simp) (fun e => absurd (List.eq_nil_of_length_eq_zero e.symm) hl)
    simpa using this

/-- Words as a line. -/
def joinW (ws : List (List UInt8)) : List UInt8 := Lib.join ws [32]
theorem joinW_nil : joinW [] = [] := rfl
theorem joinW_one (w : List UInt8) : joinW [w] = w := Lib.join_one w _
theorem joinW_cons2 (w v : List UInt8) (ws : List (List UInt8)) : joinW (w :: v :: ws) = w ++ 32 :: joinW (v :: ws) := by
  unfold joinW
  rw [Lib.join_cons, Lib.join_cons]
  simp [Lib.joinTail]
theorem joinW_snoc {ws : List (List UInt8)} (h : ws ≠ []) (w : List UInt8) : joinW (ws ++ [w]) = joinW ws ++ 32 :: w := by
  cases ws with
  | nil => exact absurd rfl h
  | cons x r =>
    unfold joinW
    rw [List.cons_append, Lib.join_cons, Lib.join_cons]
    simp [Lib.joinTail]
theorem join_splitGo (cur l : List UInt8) : joinW (splitGo 32 cur l) = cur ++ l := by
  induction l generalizing cur with
  | nil => rw [splitGo, joinW_one, List.append_nil]
  | cons b r ih =>
    rw [splitGo]
    by_cases h : ((b.toNat : Int) == 32) = true
    · rw [if_pos h]
      have e : b = 32 := u8_eq (by rw [beq_iff_eq.1 h]; rfl)
      have hne : ∃ v vs, splitGo 32 [] r = v :: vs := by
        cases r with
        | nil => exact ⟨_, _, rfl⟩
        | cons b' r' =>
          cases hq : splitGo 32 [] (b' :: r') with
          | nil =>
            exfalso
            have : ∀ (l cur : List UInt8), splitGo 32 cur l ≠ [] := by
              intro l
              induction l with
              | nil => intro cur; simp [splitGo]
              | cons x y ih => intro cur; rw [splitGo]; split <;> simp [ih]
            exact this _ _ hq
          | cons v vs => exact ⟨v, vs, rfl⟩
      obtain ⟨v, vs, hv⟩ := hne
      have := ih []
      rw [hv] at this ⊢
      rw [joinW_cons2, this, e]; simp
    · rw [if_neg h, ih]; simp
theorem joinW_words (l : List UInt8) : joinW (words l) = l := by
  unfold words
  by_cases hl : l = []
  · rw [if_pos hl, hl]; rfl
  · rw [if_neg hl, splitF_go, join_splitGo]; rfl
theorem LS.append {a b : List UInt8} (h : LS a) (k : LS b) : LS (a ++ b) := fun i hi => by
  by_cases e : i < a.length
  · rw [byt_append_left e]; exact h i e
  · obtain ⟨j, rfl⟩ : ∃ j, i = a.length + j := ⟨i - a.length, by omega⟩
    rw [byt_append_right]; exact k j (by simp at hi; omega)
theorem LS.nil : LS [] := fun i hi => by simp at hi
theorem LS.one : LS [32] := fun i hi => by
  have : i = 0 := by simp at hi; omega
  subst this; left; rfl
theorem joinW_ls {ws : List (List UInt8)} (h : ∀ x ∈ ws, IsW x) : LS (joinW ws) := by
  induction ws with
  | nil => exact LS.nil
  | cons w ws ih =>
    cases ws with
    | nil => rw [joinW_one]; exact (h w (by simp)).1.ls
    | cons v vs =>
      rw [joinW_cons2]
      exact (h w (by simp)).1.ls.append (LS.one.append (ih (fun x hx => h x (List.mem_cons_of_mem _ hx))))
theorem joinW_take_length {ws : List (List UInt8)} (a b : Nat) : (joinW ((ws.drop a).take b)).length ≤ (joinW ws).length := by
  have hs : ∀ (us : List (List UInt8)) (n : Nat), (joinW (us.take n)).length ≤ (joinW us).length := by
    intro us n
    cases us with
    | nil => simp
    | cons x r =>
      cases n with
      | zero => simp [joinW_nil]
      | succ n =>
        rw [List.take_succ_cons]
        unfold joinW
        rw [Lib.join_cons, Lib.join_cons, List.length_append, List.length_append]
        have := Lib.joinTail_take_le [32] r n
        omega
  have hd : ∀ (us : List (List UInt8)) (n : Nat), (joinW (us.drop n)).length ≤ (joinW us).length := by
    intro us
    induction us with
    | nil => intro n; simp
    | cons x r ih =>
      intro n
      cases n with
      | zero => simp
      | succ n =>
        rw [List.drop_succ_cons]
        refine Nat.le_trans (ih n) ?_
        cases r with
        | nil => simp [joinW_nil]
        | cons y r => rw [joinW_cons2]; simp; omega
  exact Nat.le_trans (hs _ _) (hd _ _)
theorem words_count {l : List UInt8} (h : vText l = true) : (words l).length ≤ 60 := by
  have hl := (vText_iff.1 h).2
  have hw := words_isW h
  have hj := joinW_words l
  have : ∀ (ws : List (List UInt8)), (∀ x ∈ ws, IsW x) → ws.length ≤ (joinW ws).length := by
    intro ws
    induction ws with
    | nil => intro _; simp
    | cons w ws ih =>
      intro h
      have h1 := (h w (by simp)).2
      cases ws with
      | nil => rw [joinW_one]; simp; omega
      | cons v vs =>
        rw [joinW_cons2]
        have := ih (fun x hx => h x (List.mem_cons_of_mem _ hx))
        simp at this ⊢; omega
  have := this _ hw
  rw [hj] at this
  omega
end Go.Proofs.YtjgflkoefimmoaaDoor
