/- The least width, plain: wider lines need no more breaks. No walk here. Contracts: the least width, by the reference. Contracts: the least width, by the program. -/
import Derived.Test.YtnlnjpdnhdmndaaGreatDoorGH
namespace Go.Proofs.YtnlnjpdnhdmndaaGreatDoor
open Go Go.RowKit
set_option linter.unusedVariables false
set_option linter.unusedSimpArgs false

theorem getD_cut {ws : List (List UInt8)} {a b k : Nat} (h : a + k < b) : (cutW ws a b).getD k [] = ws.getD (a + k) [] := by
  unfold cutW
  rw [List.getD, List.getD, List.getElem?_take_of_lt (by omega), List.getElem?_drop]
theorem sumW_cut (f : Fc) {ws : List (List UInt8)} {a b : Nat} (hb : b ≤ ws.length) {k : Nat} (hk : a + k ≤ b) : sumW f (cutW ws a b) k = sumW f ws (a + k) - sumW f ws a - (if a = 0 ∨ k = 0 then 0 else f.space) := by
  induction k with
  | zero => simp [sumW]
  | succ k ih =>
    rw [sumW, ih (by omega), getD_cut (by omega), ← Nat.add_assoc, sumW]
    by_cases ha : a = 0
    · subst ha
      simp [sumW]
    · by_cases hk0 : k = 0
      · subst hk0
        simp [ha]
        omega
      · have : ¬ (a + k = 0) := by omega
        simp [ha, hk0]
        omega
theorem lnW_sum {f : Fc} {ws : List (List UInt8)} (hw : Ws ws) {a b : Nat} (hab : a < b) (hb : b ≤ ws.length) : lnW f ws a b = sumW f ws b - sumW f ws a - (if a = 0 then 0 else f.space) := by
  unfold lnW
  rw [← sumW_join f _ (fun x hx => (hw.isw x (cutW_mem hx)).1), cutW_length hb, sumW_cut f hb (by omega)]
  have e : a + (b - a) = b := by omega
  have e2 : ¬ (b - a = 0) := by omega
  rw [e]
  simp [e2]
theorem sumW_le {f : Fc} (hf : FcV f) {ws : List (List UInt8)} (hw : Ws ws) {j k : Nat} (hjk : j ≤ k) (hk : k ≤ ws.length) : sumW f ws j ≤ sumW f ws k := by
  induction k with
  | zero => obtain rfl : j = 0 := by omega
            exact Int.le_refl _
  | succ k ih =>
    by_cases e : j = k + 1
    · subst e; exact Int.le_refl _
    · have h1 := ih (by omega) (by omega)
      have h2 := word_range hf (hw.isw _ (rdW_mem (show k < ws.length by omega))) (hw.len _ (rdW_mem (show k < ws.length by omega)))
      have h3 := hf.space
      unfold rdW at h2
      rw [sumW]
      split <;> omega
theorem lnW_mono {f : Fc} (hf : FcV f) {ws : List (List UInt8)} (hw : Ws ws) {a a' b' b : Nat} (ha : a ≤ a') (hab : a' < b') (hb' : b' ≤ b) (hb : b ≤ ws.length) : lnW f ws a' b' ≤ lnW f ws a b := by
  rw [lnW_sum hw hab (by omega), lnW_sum hw (by omega) hb]
  have h1 := sumW_le hf hw ha (by omega)
  have h2 := sumW_le hf hw hb' hb
  have h3 := hf.space
  by_cases e : a = 0
  · by_cases e' : a' = 0
    · simp [e, e'] at *; omega
    · simp [e, e'] at *; omega
  · have e' : ¬ a' = 0 := by omega
    simp [e, e']; omega
theorem fits_mono {f : Fc} {ws : List (List UInt8)} {m m' : Int} (hm : m ≤ m') (h : fits f ws m = true) : fits f ws m' = true :=
  fits_all fun j hj => Int.le_trans ((of_decide_eq_true h : FitsN f ws m ws.length) j hj) hm
/-- Wider lines: no more breaks; where as many, the open line begins no earlier. -/
theorem grd_mono {f : Fc} (hf : FcV f) {ws : List (List UInt8)} (hw : Ws ws) {m m' : Int} (hm : m ≤ m') {k : Nat} (hk : k ≤ ws.length) :
    (grd f ws m' k).1.length < (grd f ws m k).1.length ∨ ((grd f ws m' k).1.length = (grd f ws m k).1.length ∧ (grd f ws m k).2 ≤ (grd f ws m' k).2) := by
  induction k with
  | zero => exact .inr ⟨rfl, Nat.le_refl _⟩
  | succ k ih =>
    have h := ih (by omega)
    have r1 := grd_range f ws m k
    have r2 := grd_range f ws m' k
    by_cases c' : m' < lnW f ws (grd f ws m' k).2 (k + 1)
    · by_cases c : m < lnW f ws (grd f ws m k).2 (k + 1)
      · rw [grd_yes c', grd_yes c]
        simp only [List.length_append, List.length_singleton]
        omega
      · rw [grd_yes c', grd_no c]
        simp only [List.length_append, List.length_singleton]
        rcases h with h | ⟨h1, h2⟩
        · omega
        · have := lnW_mono hf hw h2 (show (grd f ws m' k).2 < k + 1 by omega) (Nat.le_refl (k + 1)) hk
          omega
    · by_cases c : m < lnW f ws (grd f ws m k).2 (k + 1)
      · rw [grd_no c', grd_yes c]
        simp only [List.length_append, List.length_singleton]
        omega
      · rw [grd_no c', grd_no c]
        exact h
/-- In such a width the words fit in so many lines. -/
def LeOk (f : Fc) (ws : List (List UInt8)) (n m : Int) : Prop := fits f ws m = true ∧ ((grd f ws m ws.length).1.length : Int) < n
theorem leOk_mono {f : Fc} (hf : FcV f) {ws : List (List UInt8)} (hw : Ws ws) {n m m' : Int} (hm : m ≤ m') (h : LeOk f ws n m) : LeOk f ws n m' := by
  refine ⟨fits_mono hm h.1, ?_⟩
  have h2 := h.2
  rcases grd_mono hf hw hm (Nat.le_refl ws.length) with h1 | ⟨h1, _⟩ <;> omega
theorem grd_top {f : Fc} (hf : FcV f) {ws : List (List UInt8)} (hw : Ws ws) {k : Nat} (hk : k ≤ ws.length) : grd f ws (lnW f ws 0 ws.length) k = ([], 0) := by
  induction k with
  | zero => rfl
  | succ k ih =>
    have h := ih (by omega)
    rw [grd_no, h]
    rw [h]
    have h1 : lnW f ws 0 (k + 1) ≤ lnW f ws 0 ws.length := lnW_mono hf hw (Nat.le_refl 0) (by omega) hk (Nat.le_refl _)
    show ¬ lnW f ws 0 ws.length < lnW f ws 0 (k + 1)
    omega
theorem leOk_top {f : Fc} (hf : FcV f) {ws : List (List UInt8)} (hw : Ws ws) {n : Int} (hn : 1 ≤ n) : LeOk f ws n (lnW f ws 0 ws.length) := by
  refine ⟨fits_all fun j hj => lnW_mono hf hw (Nat.zero_le j) (Nat.lt_succ_self j) hj (Nat.le_refl _), ?_⟩
  rw [grd_top hf hw (Nat.le_refl _)]
  simp; omega
def LeAt (f : Fc) (ws : List (List UInt8)) (n r : Int) : Prop := 0 ≤ r ∧ LeOk f ws n r ∧ ∀ j, 0 ≤ j → j < r → ¬ LeOk f ws n j
theorem LeAt.same {f : Fc} {ws : List (List UInt8)} {n r r' : Int} (h : LeAt f ws n r) (h' : LeAt f ws n r') : r = r' := by
  obtain ⟨a1, a2, a3⟩ := h
  obtain ⟨b1, b2, b3⟩ := h'
  rcases Int.lt_trichotomy r r' with hh | hh | hh
  · exact absurd a2 (b3 r a1 hh)
  · exact hh
  · exact absurd b2 (a3 r' b1 hh)
def LeR (f : Fc) (l : List UInt8) (n r c : Int) : Prop := c = askC f l (inB 1 60 n) ∧ ((¬ c = 0 ∧ r = 0) ∨ (c = 0 ∧ LeAt f (words l) n r))
theorem LeR.same {f : Fc} {l : List UInt8} {n r c r' c' : Int} (h : LeR f l n r c) (h' : LeR f l n r' c') : r' = r ∧ c' = c := by
  obtain ⟨a1, a2⟩ := h
  obtain ⟨b1, b2⟩ := h'
  refine ⟨?_, by rw [a1, b1]⟩
  rcases a2 with ⟨a2, a3⟩ | ⟨a2, a4⟩
  · rcases b2 with ⟨b2, b3⟩ | ⟨b2, b4⟩
    · omega
    · omega
  · rcases b2 with ⟨b2, b3⟩ | ⟨b2, b4⟩
    · omega
    · exact b4.same a4
def NoLe (f : Fc) (ws : List (List UInt8)) (n r : Int) : Prop := ∀ j, 0 ≤ j → j < r → ¬ LeOk f ws n j
theorem noLe_succ {f : Fc} {ws : List (List UInt8)} {n r : Int} (h : NoLe f ws n r) (hr : ¬ LeOk f ws n r) : NoLe f ws n (r + 1) := fun j h0 h1 => by
  by_cases e : j = r
  · subst e; exact hr
  · exact h j h0 (by omega)
theorem noLe_to {f : Fc} (hf : FcV f) {ws : List (List UInt8)} (hw : Ws ws) {n r : Int} (hr : ¬ LeOk f ws n r) : NoLe f ws n (r + 1) := fun j h0 h1 hh => hr (leOk_mono hf hw (by omega) hh)
theorem lineW_words (f : Fc) (l : List UInt8) : lineW f l = lnW f (words l) 0 (words l).length := by
  unfold lnW
  have : cutW (words l) 0 (words l).length = words l := by unfold cutW; simp
  rw [this, joinW_words]
end Go.Proofs.YtnlnjpdnhdmndaaGreatDoor
namespace Go.Proofs.YtnlnjpdnhdmndaaGreatDoor
open Go Go.RowKit
set_option linter.unusedVariables false
set_option linter.unusedSimpArgs false

/-- The least width, and a code. -/
def LeOut (f : Fc) (l : List UInt8) (n : Int) (w : World) (e : Ending) (w' : World) : Prop := ∃ r cd, e = .returned (.tuple #[.int .i64 r, .int .i64 cd]) ∧ LeR f l n r cd ∧ Below w.heap.size w w'

end Go.Proofs.YtnlnjpdnhdmndaaGreatDoor
namespace Go.Proofs.YtnlnjpdnhdmndaaGreatDoor
open Go Go.RowKit
set_option linter.unusedVariables false
set_option linter.unusedSimpArgs false

theorem stV_set {f : Fc} (hf : FcT f) (S W : Value) (m x : Int) : (stV f S W m).set 30 (.int .i64 x) = stV f S W x := by
  unfold stV
  rw [List.set_append_right _ _ (by rw [fcV_length hf]; omega), fcV_length hf]
  rfl
theorem mid_range {a b : Int} (h0 : 0 ≤ a) (h : a < b) : a ≤ Int.tdiv (a + b) 2 ∧ Int.tdiv (a + b) 2 < b := by
  rw [Int.tdiv_eq_ediv_of_nonneg (by omega)]
  omega

end Go.Proofs.YtnlnjpdnhdmndaaGreatDoor
