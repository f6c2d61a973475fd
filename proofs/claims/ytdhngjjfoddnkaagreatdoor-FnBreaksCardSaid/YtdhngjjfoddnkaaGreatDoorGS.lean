/- Plain facts for FnWidths: letters one by one, the letter at a place, the widest word, a line that is centred or justified, as many words as fit. Contracts for FnWidths: the reference's exported functions, at a valid face and a valid text. Contracts for FnWidths: the program's exported functions, at a valid face and a valid text. Contracts for FnWidths, in the law's own words. -/
import Derived.Test.YtdhngjjfoddnkaaGreatDoorGO
import Derived.Test.YtdhngjjfoddnkaaGreatDoorGG
import Derived.Test.YtdhngjjfoddnkaaGreatDoorGT
import Derived.Test.YtdhngjjfoddnkaaGreatDoorShM
import Derived.Test.YtdhngjjfoddnkaaGreatDoorShL
import Derived.Test.YtdhngjjfoddnkaaGreatDoorGP
import Derived.Test.YtdhngjjfoddnkaaGreatDoorWnC
import Derived.BigRegion
import Derived.OwnWalk
import Derived.Test.YtdhngjjfoddnkaaGreatDoorShY
namespace Go.Proofs.YtdhngjjfoddnkaaGreatDoor
open Go Go.RowKit
set_option linter.unusedVariables false
set_option linter.unusedSimpArgs false

/-! ### Letters one by one -/
/-- Where the letters end that stand ahead of letter k of word i. -/
def endW (f : Fc) (ws : List (List UInt8)) (i k : Nat) : Int := if k = 0 then sumW f ws i else baseW f ws i + atW f (rdW ws i) k
theorem rdI_leftW {a b : List Int} {i : Nat} (h : i < a.length) : rdI (a ++ b) i = rdI a i := by
  unfold rdI; rw [List.getD, List.getD, List.getElem?_append_left h]
theorem rdI_rightW {a b : List Int} {i : Nat} : rdI (a ++ b) (a.length + i) = rdI b i := by
  unfold rdI; rw [List.getD, List.getD, List.getElem?_append_right (by omega)]
  congr 2; omega
theorem plcA_more (f : Fc) (ws : List (List UInt8)) {i : Nat} : ∀ n, i ≤ n → ∃ r, plcA f ws n = plcA f ws i ++ r := by
  intro n
  induction n with
  | zero => 
    intro h
    obtain rfl : i = 0 := by omega
    exact ⟨[], by simp⟩
  | succ n ih =>
    intro h
    rcases Nat.lt_or_ge n i with h1 | h1
    · obtain rfl : i = n + 1 := by omega
      exact ⟨[], by simp⟩
    · obtain ⟨r, hr⟩ := ih h1
      exact ⟨r ++ plcW f (rdW ws n) (baseW f ws n) (rdW ws n).length, by rw [plcA, hr, List.append_assoc]⟩
theorem plcA_next (f : Fc) (ws : List (List UInt8)) (i : Nat) : (plcA f ws (i + 1)).length = (plcA f ws i).length + (rdW ws i).length := by
  rw [plcA, List.length_append, plcW_length]
theorem plcA_lt (f : Fc) (ws : List (List UInt8)) {i n k : Nat} (hi : i < n) (hk : k < (rdW ws i).length) : (plcA f ws i).length + k < (plcA f ws n).length := by
  obtain ⟨r, hr⟩ := plcA_more f ws n (show i + 1 ≤ n from hi)
  rw [hr, List.length_append, plcA_next]; omega
theorem plcA_at (f : Fc) (ws : List (List UInt8)) {i n k : Nat} (hi : i < n) (hk : k < (rdW ws i).length) : rdI (plcA f ws n) ((plcA f ws i).length + k) = baseW f ws i + (atW f (rdW ws i) k + gapAt f (rdW ws i) k) := by
  obtain ⟨r, hr⟩ := plcA_more f ws n (show i + 1 ≤ n from hi)
  rw [hr, rdI_leftW (by rw [plcA_next]; omega), plcA, rdI_rightW]
  unfold rdI plcW
  rw [List.getD, List.getElem?_map, List.getElem?_range hk]; rfl
/-- Letter k of word i stands the room ahead of it behind the end of what is ahead. -/
theorem plcA_first (f : Fc) (ws : List (List UInt8)) {i n : Nat} (hi : i < n) (hk : 0 < (rdW ws i).length) : rdI (plcA f ws n) ((plcA f ws i).length + 0) = endW f ws i 0 + (if i = 0 then 0 else f.space) := by
  rw [plcA_at f ws hi hk, gapAt_first]
  unfold endW baseW
  rw [if_pos rfl]
  by_cases h : i = 0
  · subst h; simp [sumW, atW]
  · rw [if_neg h, if_neg h]; simp [atW]
theorem plcA_later (f : Fc) (ws : List (List UInt8)) {i n k : Nat} (hi : i < n) (hk : k < (rdW ws i).length) (h0 : 0 < k) (hl : LL (rdW ws i)) : rdI (plcA f ws n) ((plcA f ws i).length + k) = endW f ws i k + (f.gap + byP f.pairs (byt (rdW ws i) (k - 1)) (byt (rdW ws i) k)) := by
  rw [plcA_at f ws hi hk, gapAt_more h0 (by have := isLet_iff.1 (hl (k - 1) (by omega)); omega)]
  unfold endW
  rw [if_neg (by omega)]; omega
theorem endW_next (f : Fc) (ws : List (List UInt8)) {i n k : Nat} (hi : i < n) (hk : k < (rdW ws i).length) (hl : LL (rdW ws i)) : endW f ws i (k + 1) = rdI (plcA f ws n) ((plcA f ws i).length + k) + rdI f.wide (letN (rdW ws i) k) := by
  rw [plcA_at f ws hi hk]
  unfold endW
  rw [if_neg (by omega), atW_let (by have := isLet_iff.1 (hl k hk); omega)]; omega
theorem endW_word (f : Fc) (ws : List (List UInt8)) {i : Nat} (hk : 0 < (rdW ws i).length) : endW f ws (i + 1) 0 = endW f ws i (rdW ws i).length := by
  unfold endW baseW
  rw [if_pos rfl, if_neg (by omega), sumW]
  unfold rdW lineW
  by_cases h : i = 0
  · subst h; simp [sumW]
  · rw [if_neg h, if_neg h]
theorem sumW_line (f : Fc) {l : List UInt8} (h : vText l = true) : sumW f (words l) (words l).length = lineW f l := by
  rw [sumW_join f _ (fun x hx => (words_isW h x hx).1), joinW_words]
theorem endW_all (f : Fc) {l : List UInt8} (h : vText l = true) : endW f (words l) (words l).length 0 = lineW f l := by
  unfold endW; rw [if_pos rfl, sumW_line f h]
theorem endW_range {f : Fc} (hf : FcV f) {ws : List (List UInt8)} (hw : Ws ws) {i k : Nat} (hi : i ≤ ws.length) (hk : k ≤ (rdW ws i).length) (hl : LL (rdW ws i)) (h60 : (rdW ws i).length ≤ 60) : 0 ≤ endW f ws i k ∧ endW f ws i k ≤ 300000 := by
  have h1 := sumW_range hf hw hi
  have h2 := hw.many
  have h3 := atW_range hf hl.ls hk
  have h4 := hf.space
  unfold endW baseW
  split
  · omega
  · split <;> omega

/-! ### The letter at a place -/
def HitA (pl wd : List Int) (q : Int) (i : Nat) : Prop := rdI pl i ≤ q ∧ q ≤ rdI pl i + rdI wd i - 1
def NoHit (pl wd : List Int) (q : Int) (k : Nat) : Prop := ∀ j, j < k → ¬ HitA pl wd q j
theorem noHit_zero (pl wd : List Int) (q : Int) : NoHit pl wd q 0 := fun j hj => by omega
theorem noHit_succ {pl wd : List Int} {q : Int} {k : Nat} (h : NoHit pl wd q k) (hk : ¬ HitA pl wd q k) : NoHit pl wd q (k + 1) := fun j hj => by
  rcases Nat.lt_succ_iff_lt_or_eq.1 hj with h1 | rfl
  · exact h j h1
  · exact hk
def LetR (pl wd : List Int) (q r c : Int) : Prop := (c = 0 ∧ ∃ i, i < pl.length ∧ r = (i : Int) ∧ HitA pl wd q i ∧ NoHit pl wd q i) ∨ (c = 6 ∧ r = 0 ∧ NoHit pl wd q pl.length)
theorem LetR.same {pl wd : List Int} {q r c r' c' : Int} (h : LetR pl wd q r c) (h' : LetR pl wd q r' c') : r' = r ∧ c' = c := by
  rcases h with ⟨a1, i, a2, a3, a4, a5⟩ | ⟨a1, a2, a3⟩
  · rcases h' with ⟨b1, j, b2, b3, b4, b5⟩ | ⟨b1, b2, b3⟩
    · rcases Nat.lt_trichotomy i j with hh | hh | hh
      · exact absurd a4 (b5 i hh)
      · subst hh; omega
      · exact absurd b4 (a5 j hh)
    · exact absurd a4 (b3 i a2)
  · rcases h' with ⟨b1, j, b2, b3, b4, b5⟩ | ⟨b1, b2, b3⟩
    · exact absurd b4 (a3 j b2)
    · omega

/-! ### The widest word -/
theorem bst_facts (f : Fc) (ws : List (List UInt8)) (h : ∀ k, k < ws.length → 1 ≤ lineW f (rdW ws k)) : ∀ k, k ≤ ws.length → (0 < k → 0 ≤ (bst f ws k).1) ∧ -1 ≤ (bst f ws k).1 ∧ (bst f ws k).1 < (k : Int) ∧ 0 ≤ (bst f ws k).2 ∧ ∀ j, j < k → lineW f (rdW ws j) ≤ (bst f ws k).2 ∧ (lineW f (rdW ws j) = (bst f ws k).2 → (bst f ws k).1 ≤ (j : Int)) ∧ ((j : Int) = (bst f ws k).1 → lineW f (rdW ws j) = (bst f ws k).2) := by
  intro k
  induction k with
  | zero => intro _; exact ⟨by omega, by simp [bst], by simp [bst], by simp [bst], fun j hj => by omega⟩
  | succ k ih =>
    intro hk
    obtain ⟨i0, i1, i2, i3, i4⟩ := ih (by omega)
    have h1 := h k (by omega)
    by_cases hl : (bst f ws k).2 < lineW f (rdW ws k)
    · rw [bst_yes hl]
      refine ⟨fun _ => by simp, by dsimp only; omega, by dsimp only; omega, by dsimp only; omega, fun j hj => ?_⟩
      rcases Nat.lt_succ_iff_lt_or_eq.1 hj with hj | rfl
      · obtain ⟨j1, j2, j3⟩ := i4 j hj
        exact ⟨by dsimp only; omega, by dsimp only; omega, by dsimp only; omega⟩
      · exact ⟨Int.le_refl _, fun _ => Int.le_refl _, fun _ => rfl⟩
    · rw [bst_no hl]
      have hk0 : 0 < k := by
        rcases Nat.eq_zero_or_pos k with e | e
        · subst e; simp [bst] at hl; omega
        · exact e
      refine ⟨fun _ => i0 hk0, i1, by omega, i3, fun j hj => ?_⟩
      rcases Nat.lt_succ_iff_lt_or_eq.1 hj with hj | rfl
      · exact i4 j hj
      · exact ⟨by omega, fun _ => by omega, fun _ => by omega⟩

/-! ### A line that is justified -/
/-- The first k spaces. -/
def jusW (sp left n : Int) (k : Nat) : List Int := (List.range k).map fun (j : Nat) => sp + left / n + (if (j : Int) < left % n then 1 else 0)
theorem jusW_succ (sp left n : Int) (k : Nat) : jusW sp left n (k + 1) = jusW sp left n k ++ [sp + left / n + (if (k : Int) < left % n then 1 else 0)] := by unfold jusW; rw [List.range_succ, List.map_append]; rfl
theorem jusW_length (sp left n : Int) (k : Nat) : (jusW sp left n k).length = k := by unfold jusW; simp
theorem jusW_at (sp left n : Int) {k j : Nat} (h : j < k) : rdI (jusW sp left n k) j = sp + left / n + (if (j : Int) < left % n then 1 else 0) := by
  unfold rdI jusW
  rw [List.getD, List.getElem?_map, List.getElem?_range h]; rfl
/-- What the first k spaces are wider than a space. -/
def jusS (left n : Int) : Nat → Int
  | 0 => 0
  | k + 1 => jusS left n k + (left / n + (if (k : Int) < left % n then 1 else 0))
theorem jusS_eq {left n : Int} (hl : 0 ≤ left) (hn : 0 < n) : ∀ k : Nat, jusS left n k = (k : Int) * (left / n) + (if (k : Int) ≤ left % n then (k : Int) else left % n) := by
  intro k
  have hr := Int.emod_nonneg left (show n ≠ 0 by omega)
  induction k with
  | zero => simp [jusS]; omega
  | succ k ih =>
    rw [jusS, ih]
    push_cast
    rw [Int.add_mul, Int.one_mul]
    split <;> split <;> split <;> omega
theorem jusS_all {left n : Int} (hl : 0 ≤ left) {k : Nat} (hk : 0 < k) (hn : n = (k : Int)) : jusS left n k = left := by
  rw [jusS_eq hl (by omega)]
  have h1 := Int.emod_lt_of_pos left (show 0 < n by omega)
  have h2 := Int.mul_ediv_add_emod left n
  rw [if_neg (by omega), ← hn]; omega
theorem jus_range {left n : Int} (hl : 0 ≤ left) (hn : 0 < n) : 0 ≤ left / n ∧ left / n ≤ left ∧ 0 ≤ left % n ∧ left % n < n := by
  refine ⟨Int.ediv_nonneg hl (by omega), Int.ediv_le_self _ hl, Int.emod_nonneg left (by omega), Int.emod_lt_of_pos left hn⟩
theorem jusS_range {left n : Int} (hl : 0 ≤ left) (hn : 0 < n) : ∀ k : Nat, 0 ≤ jusS left n k ∧ jusS left n k ≤ (left + 1) * k := by
  intro k
  have hr := jus_range hl hn
  induction k with
  | zero => simp [jusS]
  | succ k ih =>
    rw [jusS]; push_cast; rw [Int.mul_add, Int.mul_one]
    split <;> omega

/-! ### As many words as fit -/
theorem lnW_take (f : Fc) (ws : List (List UInt8)) (k : Nat) : lnW f ws 0 k = lineW f (joinW (ws.take k)) := by unfold lnW; rw [cutW_zero]
theorem lnW_sum0 {f : Fc} {ws : List (List UInt8)} (hw : Ws ws) {k : Nat} (hk : k ≤ ws.length) : lnW f ws 0 k = sumW f ws k := by
  rw [lnW_take, ← sumW_join f _ (fun x hx => (hw.isw x (List.mem_of_mem_take hx)).1)]
  have e : (ws.take k).length = k := by simp; omega
  conv => rhs; rw [← List.take_append_drop k ws]
  rw [e, sumW_take f _ _ (by omega)]
theorem sumW_mono {f : Fc} (hf : FcV f) {ws : List (List UInt8)} (hw : Ws ws) {j k : Nat} (hjk : j ≤ k) (hk : k ≤ ws.length) : sumW f ws j ≤ sumW f ws k := by
  induction k with
  | zero => obtain rfl : j = 0 := by omega
            exact Int.le_refl _
  | succ k ih =>
    rcases Nat.lt_or_ge k j with h | h
    · obtain rfl : j = k + 1 := by omega
      exact Int.le_refl _
    · have h1 := ih h (by omega)
      have h2 := word_range hf (hw.isw _ (rdW_mem (show k < ws.length by omega))) (hw.len _ (rdW_mem (show k < ws.length by omega)))
      have h3 := hf.space
      unfold rdW at h2
      rw [sumW]
      split <;> omega
/-- All words fit if the line fits. -/
theorem fitAt_all {f : Fc} (hf : FcV f) {ws : List (List UInt8)} (hw : Ws ws) {m : Int} (hm : 0 ≤ m) {k : Nat} (h : FitAt f ws m k) : k = ws.length ↔ sumW f ws ws.length ≤ m := by
  obtain ⟨h1, h2, h3⟩ := h
  constructor
  · intro e
    rcases Nat.eq_zero_or_pos k with e0 | e0
    · rw [← e, e0]; exact hm
    · have := h2 (k - 1) (by omega)
      rw [show k - 1 + 1 = k by omega, lnW_sum0 hw h1] at this
      rw [← e]; exact this
  · intro hle
    rcases Nat.lt_or_ge k ws.length with hlt | hge
    · have := h3 hlt
      rw [lnW_sum0 hw (by omega)] at this
      have := sumW_mono hf hw (show k + 1 ≤ ws.length by omega) (Nat.le_refl _)
      omega
    · omega
/-- The words that fit, as a line. -/
theorem fitAt_fits {f : Fc} {ws : List (List UInt8)} {m : Int} (hm : 0 ≤ m) {k : Nat} (h : FitAt f ws m k) : lineW f (joinW (ws.take k)) ≤ m := by
  rw [← lnW_take]
  rcases Nat.eq_zero_or_pos k with e0 | e0
  · subst e0; exact hm
  · have := h.2.1 (k - 1) (by omega)
    rwa [show k - 1 + 1 = k by omega] at this
theorem fitAt_over {f : Fc} {ws : List (List UInt8)} {m : Int} {k : Nat} (h : FitAt f ws m k) (hk : k < ws.length) : m < lineW f (joinW (ws.take (k + 1))) := by
  rw [← lnW_take]; exact h.2.2 hk
/-- Words make a text. -/
theorem vText_join : ∀ (n : Nat) (ws : List (List UInt8)), ws.length = n → (∀ x ∈ ws, IsW x) → (joinW ws).length ≤ 60 → vText (joinW ws) = true ∧ (0 < n → joinW ws ≠ [])
  | 0, ws, h, _, _ => by
    have : ws = [] := List.eq_nil_of_length_eq_zero h
    subst this
    exact ⟨by decide, fun h => by omega⟩
  | n + 1, ws, h, hw, h60 => by
    have hne : ws ≠ [] := fun e => by rw [e] at h; simp at h
    have e := List.dropLast_concat_getLast hne
    generalize hx : ws.getLast hne = x at e
    generalize hv : ws.dropLast = vs at e
    have hxm : x ∈ ws := by rw [← hx]; exact List.getLast_mem hne
    have hvl : vs.length = n := by rw [← hv, List.length_dropLast, h]; rfl
    obtain ⟨x1, x2⟩ := hw x hxm
    have hx0 : x ≠ [] := fun e => by rw [e] at x2; simp at x2
    rw [← e] at h60 ⊢
    by_cases hv0 : vs = []
    · subst hv0
      rw [List.nil_append, joinW_one] at h60 ⊢
      exact ⟨vText_iff.2 ⟨fun i hi => by
        have := x1 i hi
        unfold chOk
        rw [if_neg (fun e => by rw [e] at this; revert this; decide)]; exact this, h60⟩, fun _ => hx0⟩
    · have hn0 : 0 < n := by rw [← hvl]; exact List.length_pos_iff.2 hv0
      rw [joinW_snoc hv0] at h60 ⊢
      obtain ⟨h1, h3⟩ := vText_join n vs hvl (fun y hy => hw y (by rw [← e]; exact List.mem_append_left _ hy)) (by rw [List.length_append] at h60; omega)
      exact ⟨vText_snoc h1 (h3 hn0) x1 hx0 h60, fun _ e => by simp at e⟩
theorem join_take_len (ws : List (List UInt8)) (k : Nat) : (joinW (ws.take k)).length ≤ (joinW ws).length := by
  have := joinW_take_length (ws := ws) 0 k
  rwa [List.drop_zero] at this
theorem vText_take {l : List UInt8} (h : vText l = true) (k : Nat) : vText (joinW ((words l).take k)) = true :=
  (vText_join _ _ rfl (fun x hx => words_isW h x (List.mem_of_mem_take hx)) (by
    have := join_take_len (words l) k
    rw [joinW_words] at this
    have := (vText_iff.1 h).2
    omega)).1
theorem lineW_range {f : Fc} (hf : FcV f) {l : List UInt8} (h : vText l = true) : 0 ≤ lineW f l ∧ lineW f l ≤ 3600 := by
  have h1 := atW_range hf (vText_ls h) (Nat.le_refl l.length)
  have h2 := (vText_iff.1 h).2
  unfold lineW; omega
theorem words_none {l : List UInt8} : words l = [] ↔ l = [] := by
  constructor
  · intro h
    have := joinW_words l
    rw [h] at this; exact this.symm
  · intro h; subst h; rfl
theorem lineW_pos {f : Fc} (hf : FcV f) {l : List UInt8} (h : vText l = true) : 0 < lineW f l ↔ ¬ words l = [] := by
  rw [words_none]
  have h1 := atW_range hf (vText_ls h) (Nat.le_refl l.length)
  constructor
  · intro h e; subst e; simp [lineW, atW] at h
  · intro hne
    have : 0 < l.length := by
      rcases l with _ | ⟨a, l⟩
      · exact absurd rfl hne
      · simp
    unfold lineW; omega

/-! ### What the contracts answer -/
/-- A list of numbers and a code. -/
def WtOut (w : World) (xs : List Int) (code : Int) (e : Ending) (w' : World) : Prop := ∃ B d, (e = .returned (.tuple #[.slice B xs.length d, .int .i64 code]) ∧ SlE i64 w' B xs) ∧ Below w.heap.size w w'
def ctrW (f : Fc) (l : List UInt8) (m : Int) : Int × Int := if lineW f l ≤ m then ((m - lineW f l) / 2, 0) else (0, 4)
theorem ctrW_ok {f : Fc} {l : List UInt8} {m : Int} (h : lineW f l ≤ m) : ctrW f l m = ((m - lineW f l) / 2, 0) := if_pos h
theorem ctrW_no {f : Fc} {l : List UInt8} {m : Int} (h : ¬ lineW f l ≤ m) : ctrW f l m = (0, 4) := if_neg h
theorem size60 {l : List UInt8} (h : vText l = true) : (⟨l.toArray⟩ : ByteArray).size ≤ 1048576 := by
  have := vText_len60 h
  show l.toArray.size ≤ _
  simp; omega
theorem words_L (l : List UInt8) (w : World) (h : (⟨l.toArray⟩ : ByteArray).size ≤ 1048576) : Calls Tryz.prog 33 #[.string ⟨l.toArray⟩] w (WsOut w (words l)) := words_spec ⟨l.toArray⟩ w h
theorem plcA_len {f : Fc} {l : List UInt8} (h : vText l = true) : (plcA f (words l) (words l).length).length = (wdsA f (words l) (words l).length).length :=
  (plcA_length (fun x hx => word_len h hx) _ (Nat.le_refl _)).1
theorem wdsA_rng {f : Fc} (hf : FcV f) (ws : List (List UInt8)) (hw : ∀ x ∈ ws, LL x) : ∀ n, n ≤ ws.length → ∀ x ∈ wdsA f ws n, 1 ≤ x ∧ x ≤ 40 := by
  intro n
  induction n with
  | zero => intro _ x hx; simp [wdsA] at hx
  | succ n ih =>
    intro hn x hx
    rw [wdsA, List.mem_append] at hx
    rcases hx with hx | hx
    · exact ih (by omega) x hx
    · unfold wdsW at hx
      rw [List.mem_map] at hx
      obtain ⟨j, hj, rfl⟩ := hx
      exact letW_range hf (hw _ (rdW_mem (show n < ws.length by omega)) j (List.mem_range.1 hj))
theorem rdI_mem {xs : List Int} {i : Nat} (h : i < xs.length) : rdI xs i ∈ xs := by
  unfold rdI
  rw [List.getD, List.getElem?_eq_getElem h]
  exact List.getElem_mem h
theorem plcA_rng {f : Fc} (hf : FcV f) {l : List UInt8} (h : vText l = true) {i : Nat} (hi : i < (plcA f (words l) (words l).length).length) : (0 ≤ rdI (plcA f (words l) (words l).length) i ∧ rdI (plcA f (words l) (words l).length) i ≤ 3600) ∧ 1 ≤ rdI (wdsA f (words l) (words l).length) i ∧ rdI (wdsA f (words l) (words l).length) i ≤ 40 := by
  refine ⟨?_, wdsA_rng hf _ (fun x hx => (words_isW h x hx).1) _ (Nat.le_refl _) _ (rdI_mem (by rw [← plcA_len h]; exact hi))⟩
  rw [plcA_words f h] at hi ⊢
  have := plW_bound hf (vText_ls h) (vText_len60 h) hi
  omega
theorem splitGo_count : ∀ (l cur : List UInt8), (splitGo 32 cur l).length = l.count 32 + 1
  | [], cur => by simp [splitGo]
  | b :: l, cur => by
    rw [splitGo]
    by_cases hb : b = 32
    · subst hb
      simp [splitGo_count l []]
    · have : ¬ ((b.toNat : Int) == 32) = true := by
        rw [beq_iff_eq]; intro e; exact hb (u8_eq (by rw [e]; rfl))
      rw [if_neg this, splitGo_count l (cur ++ [b]), List.count_cons_of_ne (by simpa using hb)]
theorem words_spaces (l : List UInt8) : l.count 32 = (words l).length - 1 := by
  unfold words
  by_cases h : l = []
  · subst h; rfl
  · rw [if_neg h, splitF_go, splitGo_count]; omega
theorem tdiv_in {m n : Int} (h0 : 0 ≤ m) (h1 : m ≤ 9000) (hn : 0 < n) : IntKind.i64.wrap (Int.tdiv m n) = m / n := by
  rw [Int.tdiv_eq_ediv_of_nonneg h0]
  have := jus_range h0 hn
  exact IntWalk.i64_in _ (by omega)
theorem plcA_lets (f : Fc) {l : List UInt8} (h : vText l = true) : (plcA f (words l) (words l).length).length = (lets l).length := by
  rw [plcA_len h, wds_text f h, List.length_map]
theorem lets_LL {l : List UInt8} (h : vText l = true) : LL (lets l) := lets_ll (vText_ls h)
theorem wdsA_let {f : Fc} {l : List UInt8} (h : vText l = true) {i : Nat} (hi : i < (wdsA f (words l) (words l).length).length) : rdI (wdsA f (words l) (words l).length) i = rdI f.wide (letN (lets l) i) := by
  rw [wds_text f h] at hi ⊢
  rw [List.length_map] at hi
  unfold rdI letN
  rw [List.getD, List.getElem?_map, List.getElem?_eq_getElem hi, byt_get hi]
  rfl
end Go.Proofs.YtdhngjjfoddnkaaGreatDoor
namespace Go.Proofs.YtdhngjjfoddnkaaGreatDoor
open Go Go.RowKit
set_option linter.unusedVariables false
set_option linter.unusedSimpArgs false

/-- A division, and what is left of it, by a number that is not zero. -/
theorem exec_quo {o : Oper} {a : Act} {w : World} (x y : Operand) (ho : o.op = .binOp .quo 2 x y 2) (m n : Int) (hx : a.eval x = .int .i64 m) (hy : a.eval y = .int .i64 n) (h0 : n ≠ 0) {v : Int} (hv : IntKind.i64.wrap (Int.tdiv m n) = v) :
    (execOp a.eval o).run Tryz.prog w = .ok (.value (.int .i64 v)) w := by
  unfold execOp
  simp only [ho, hx, hy]
  go_simp
theorem exec_rem {o : Oper} {a : Act} {w : World} (x y : Operand) (ho : o.op = .binOp .rem 2 x y 2) (m n : Int) (hx : a.eval x = .int .i64 m) (hy : a.eval y = .int .i64 n) (h0 : n ≠ 0) {v : Int} (hv : Int.tmod m n = v) :
    (execOp a.eval o).run Tryz.prog w = .ok (.value (.int .i64 v)) w := by
  unfold execOp
  simp only [ho, hx, hy]
  go_simp
set_option maxHeartbeats 2000000 in
set_option maxRecDepth 100000 in
theorem wordsOf_spec (l : List UInt8) (w : World) (ht : vText l = true) :
    Calls Tryz.prog 16 #[.string ⟨l.toArray⟩] w fun e w' => ∃ A c, (e = .returned (.tuple #[.slice A (words l).length c, .int .i64 0]) ∧ SlE sv w' A (words l) ∧ (words l).length ≤ c ∧ (0 < (words l).length → ∃ g, A = some ⟨g, 0, none⟩)) ∧ Below w.heap.size w w' := by
  have HT := Lib.hid ht
  have h60 := size60 ht
  clear ht
  go_enter Tryz.func16, Tryz.ntmps16
  go_wp2_with (first
    | (go_at_call 38; refine (text_spec ⟨l.toArray⟩ _ h60).mono ?_; rintro e w1 ⟨he, rfl⟩; rw [bs_mk, HT.out] at he; subst he)
    | (go_at_call 33; refine (words_L l _ h60).mono ?_; rintro e w2 ⟨A2, c2, rfl, hc2, hb2, hs2, hg2⟩))
  go_ret2
  exact ⟨A2, c2, ⟨rfl, hs2, hc2, hg2⟩, hb2⟩
end Go.Proofs.YtdhngjjfoddnkaaGreatDoor
namespace Go.Proofs.YtdhngjjfoddnkaaGreatDoor
open Go Go.RowKit
set_option linter.unusedVariables false
set_option linter.unusedSimpArgs false

set_option maxHeartbeats 2000000 in
set_option maxRecDepth 100000 in
theorem lineWide_impl (f : Fc) (S : Value) (l : List UInt8) (w : World) (hmx : MaxW w) (hf : HasF w f S) (hV : validF f = true) (ht : vText l = true) :
    Calls Tryz.prog 23 #[.agg (fcV f S).toArray, .string ⟨l.toArray⟩] w fun e w' => e = .returned (.tuple #[.int .i64 (lineW f l), .int .i64 0]) ∧ Below w.heap.size w w' := by
  obtain ⟨hft, A, n, c, rfl, hn, hm, hsl⟩ := hf
  have hB := below_one w (.cells (fcV f (.slice A n c)).toArray 28)
  have hk := Blk.new w 28 (fcV f (.slice A n c))
  have hsz : (fcV f (.slice A n c)).toArray.size = 29 := by simp [fcV_length hft]
  have HZ := Lib.hid (show (Tryz.prog.info? 28).map (·.size) = some (fcV f (.slice A n c)).toArray.size by rw [hsz]; exact szFcI)
  have HF := Lib.hid hft
  have HVV := Lib.hid (validF_iff.1 hV)
  have HN := Lib.hid hn
  have HT := Lib.hid ht
  have HLS := Lib.hid (vText_ls ht)
  have HS := Lib.hid (hsl.next hB)
  have HM := Lib.hid (hmx.next hB)
  have h60 := size60 ht
  have HL60 := Lib.hid (show (⟨l.toArray⟩ : ByteArray).size ≤ 60 by have := vText_len60 ht; show l.toArray.size ≤ 60; simpa using this)
  have HC := Lib.hid (show askC f l true = 0 from by rw [askC_ok hV ht]; rfl)
  clear hft hn hsl hV ht hsz hmx
  go_enter Tryz.func23, Tryz.ntmps23
  go_wp2_with (first
    | (first | (refine wpList_load_row rfl 28 (.tmp 2) rfl _ rfl 28 (fcV f (.slice A n c)).toArray _ _ hk Tryz.underlying28 rfl HZ.out ?_) | (refine wpList_load_row rfl 28 (.tmp 3) rfl _ rfl 28 (fcV f (.slice A n c)).toArray _ _ hk Tryz.underlying28 rfl HZ.out ?_))
    | (go_at_call 45; refine (lineCode_any f A n c ⟨l.toArray⟩ _ HF.out HN.out (by omega) h60 HS.out HM.out).mono ?_; rintro e w1 ⟨he, hb1⟩; rw [bs_mk, HC.out] at he; subst he; have hk := hk.next hb1)
    | (go_at_call 46; refine (wide_impl f A n c ⟨l.toArray⟩ _ HF.out HVV.out HN.out (by omega) HLS.out HL60.out (HS.out.next hb1)).mono ?_; rintro e w2 ⟨he, hb2⟩; rw [bs_mk] at he; subst he))
  go_ret2
  exact ⟨rfl, below_step hB (below_step hb1 hb2)⟩
theorem inI_is {n lo hi : Int} (w : World) : Calls Tryz.prog 47 #[.int .i64 n, .int .i64 lo, .int .i64 hi] w fun e w' => e = .returned (.bool (inB lo hi n)) ∧ Below w.heap.size w w' :=
  (withinI_any n lo hi w).mono fun e w' ⟨he, hw⟩ => ⟨he, by rw [← hw]; exact Below.refl _ _⟩
end Go.Proofs.YtdhngjjfoddnkaaGreatDoor
namespace Go.Proofs.YtdhngjjfoddnkaaGreatDoor
open Go Go.RowKit
set_option linter.unusedVariables false
set_option linter.unusedSimpArgs false

/-- What JustifyLine answers. -/
def jusR (f : Fc) (l : List UInt8) (m : Int) : List Int × Int := if lineW f l ≤ m ∧ 1 < (words l).length then (jusW f.space (m - lineW f l) (((words l).length - 1 : Nat) : Int) ((words l).length - 1), 0) else ([], 4)
theorem fit_ok {f : Fc} {l : List UInt8} {m r cd : Int} (hV : validF f = true) (ht : vText l = true) (hm0 : 0 ≤ m ∧ m ≤ 4000) (h : FitR f l m r cd) : cd = 0 ∧ ∃ k : Nat, r = (k : Int) ∧ FitAt f (words l) m k := by
  obtain ⟨h1, h2⟩ := h
  have h0 : cd = 0 := by rw [h1, askC_ok hV ht, inB_iff.2 hm0]; rfl
  rcases h2 with ⟨h2, _⟩ | ⟨_, h2⟩
  · exact absurd h0 h2
  · exact ⟨h0, h2⟩
/-- The first words, as a slice. -/
theorem exec_sliceT {o : Oper} {a : Act} {w : World} (x hi : Operand) (ho : o.op = .slice 39 x none (some hi) none) (A : Option Addr) (n c h : Nat) (hx : a.eval x = .slice A n c) (hh : a.eval hi = .int .i64 (h : Int)) (hc : h ≤ c) :
    (execOp a.eval o).run Tryz.prog w = .ok (.value (.slice A h c)) w := by
  have hz : (Tryz.prog.info? 9).map (·.size) = some 1 := by kernel_rfl
  cases hq : Tryz.prog.info? 9 with
  | none => rw [hq] at hz; cases hz
  | some i =>
    have hid : A.map (·.add 0) = A := by
      cases A with
      | none => rfl
      | some p => simp [Addr.add]
    unfold execOp
    by_cases hne : c = 0
    · obtain rfl : h = 0 := by omega
      simp [ho, hx, hh, Instr.sliceAt, Instr.slice, Instr.sliceBounds, Instr.sliceBound, asIntOf, Sem.run_bind, run_underlying Tryz.underlying39, hc, hne, sizeOf, typeInfo, hq]
    · simp [ho, hx, hh, Instr.sliceAt, Instr.slice, Instr.sliceBounds, Instr.sliceBound, asIntOf, Sem.run_bind, run_underlying Tryz.underlying39, hc, hne, sizeOf, typeInfo, hq, hid]
theorem slE_take {w : World} {A : Option Addr} {ws : List (List UInt8)} (h : SlE sv w A ws) (k : Nat) : SlE sv w A (ws.take k) := by
  intro i x hx
  rw [List.getElem?_take] at hx
  split at hx
  · exact h i x hx
  · cases hx
theorem ws_take {ws : List (List UInt8)} (h : Ws ws) (k : Nat) : Ws (ws.take k) := ⟨fun x hx => h.isw x (List.mem_of_mem_take hx), fun x hx => h.len x (List.mem_of_mem_take hx), by
  have := h.many
  rw [List.length_take]; omega⟩
/-- The law's words about a face and a text, named. -/
structure WtO (f : Fc) (l : List UInt8) (ws : List (List UInt8)) (PL : List Int) (due : Int) : Prop where
  we : ws = words l
  pe : PL = plcA f ws ws.length
  de : due = lineW f l
  vF : FcV f
  tx : vText l = true
theorem WtO.ws {f l ws PL due} (h : WtO f l ws PL due) : Ws ws := by rw [h.we]; exact ws_words h.tx
theorem WtO.due_in {f l ws PL due} (h : WtO f l ws PL due) : 0 ≤ due ∧ due ≤ 3600 := by rw [h.de]; exact lineW_range h.vF h.tx
theorem WtO.pl60 {f l ws PL due} (h : WtO f l ws PL due) : PL.length ≤ 60 := by
  rw [h.pe, h.we, plcA_lets f h.tx]
  have := lets_length l
  have := vText_len60 h.tx
  omega
theorem WtO.word {f l ws PL due} (h : WtO f l ws PL due) {i : Nat} (hi : i < ws.length) : LL (rdW ws i) ∧ 1 ≤ (rdW ws i).length ∧ (rdW ws i).length ≤ 60 :=
  have hm := rdW_mem hi
  ⟨(h.ws.isw _ hm).1, (h.ws.isw _ hm).2, h.ws.len _ hm⟩
theorem WtO.ends {f l ws PL due} (h : WtO f l ws PL due) : endW f ws ws.length 0 = due ∧ (plcA f ws ws.length).length = PL.length := by
  refine ⟨?_, by rw [h.pe]⟩
  rw [h.de, h.we, endW_all f h.tx]
theorem WtO.sums {f l ws PL due} (h : WtO f l ws PL due) : sumW f ws ws.length = due := by rw [h.de, h.we, sumW_line f h.tx]
theorem WtO.none {f l ws PL due} (h : WtO f l ws PL due) : 0 < due ↔ ¬ ws = [] := by rw [h.de, h.we]; exact lineW_pos h.vF h.tx
theorem WtO.plr {f l ws PL due} (h : WtO f l ws PL due) {i : Nat} (hi : i < PL.length) : 0 ≤ rdI PL i ∧ rdI PL i ≤ 3600 := by
  have e : PL = plcA f (words l) (words l).length := by rw [h.pe, h.we]
  rw [e] at hi ⊢
  exact (plcA_rng h.vF h.tx hi).1
end Go.Proofs.YtdhngjjfoddnkaaGreatDoor
