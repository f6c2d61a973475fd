/- The law of what is worn, its plain part: hands, the nearest one, groups; a word's width is that of its letters and gaps. No walk here. -/
import Derived.Test.YtkbmfemncadlnaaGreatDoorGN
import Derived.Test.YtkbmfemncadlnaaGreatDoorGroupS
import Derived.Test.YtkbmfemncadlnaaGreatDoorGF
import Derived.Test.YtkbmfemncadlnaaGreatDoorSrcJ

namespace Go.Proofs.YtkbmfemncadlnaaGreatDoor
open Go Go.RowKit
set_option linter.unusedVariables false
set_option linter.unusedSimpArgs false

theorem stepN_comm (xs ys : List Int) (i : Nat) : stepN xs ys i = stepN ys xs i := by
  unfold stepN
  by_cases h : i < xs.length ∧ i < ys.length
  · rw [if_pos h, if_pos ⟨h.2, h.1⟩]; omega
  · rw [if_neg h, if_neg (fun hh => h ⟨hh.2, hh.1⟩)]
theorem apartN_comm (xs ys : List Int) : apartN xs ys = apartN ys xs := by
  unfold apartN
  rw [Nat.max_comm]
  exact sumN_congr fun i _ => stepN_comm xs ys i
theorem sumN_zero_iff {f : Nat → Nat} : ∀ {n : Nat}, sumN f n = 0 ↔ ∀ i, i < n → f i = 0
  | 0 => ⟨fun _ i hi => by omega, fun _ => rfl⟩
  | n + 1 => by
    rw [sumN]
    constructor
    · intro h i hi
      have h1 : sumN f n = 0 := by omega
      by_cases e : i = n
      · subst e; omega
      · exact sumN_zero_iff.1 h1 i (by omega)
    · intro h
      have := sumN_zero_iff.2 (fun i hi => h i (Nat.lt_succ_of_lt hi))
      have := h n (by omega)
      omega
theorem apartN_zero (xs ys : List Int) : apartN xs ys = 0 ↔ xs = ys := by
  unfold apartN
  rw [sumN_zero_iff]
  constructor
  · intro h
    have hl : xs.length = ys.length := by
      by_cases e : xs.length = ys.length
      · exact e
      · have hm : min xs.length ys.length < max xs.length ys.length := by omega
        have := h _ hm
        rw [stepN_one (by omega)] at this
        omega
    refine List.ext_getElem hl fun i h1 h2 => ?_
    have := h i (by omega)
    rw [stepN_both h1 h2] at this
    have e : rdI xs i = rdI ys i := by omega
    unfold rdI at e
    simpa [List.getD_eq_getElem?_getD, List.getElem?_eq_getElem h1, List.getElem?_eq_getElem h2] using e
  · rintro rfl i hi
    have hi' : i < xs.length := by omega
    rw [stepN_both hi' hi']; omega
theorem apart_same (xs ys : List Int) : decide (apartN xs ys = 0) = decide (xs = ys) := by
  rw [Bool.eq_iff_iff, decide_eq_true_iff, decide_eq_true_iff]; exact apartN_zero xs ys

/-! ### Hands that are drawn -/
theorem hsOk_at {hs : List (List Int)} (h : HsOk hs) {i : Nat} (hi : i < hs.length) : (rdL hs i).length ≤ 4 ∧ ∀ k, k < (rdL hs i).length → 0 ≤ rdI (rdL hs i) k ∧ rdI (rdL hs i) k ≤ 5 := by
  have e : rdL hs i = hs[i] := by simp [rdL, List.getD, List.getElem?_eq_getElem hi]
  rw [e]; exact h.each _ (List.getElem_mem hi)
theorem hsOk_gaps {hs : List (List Int)} (h : HsOk hs) {i : Nat} (hi : i < hs.length) : gapsOk (rdL hs i) = true := by
  obtain ⟨h1, h2⟩ := hsOk_at h hi
  unfold gapsOk
  exact decide_eq_true ⟨fun k hk => inB_true (by have := h2 k hk; omega), by omega⟩
theorem hsOk_small {hs : List (List Int)} (h : HsOk hs) : Small2 hs hs.length := ⟨by have := h.few; omega, fun i hi => by have := (hsOk_at h hi).1; omega⟩
theorem hsOk_code {hs : List (List Int)} (h : HsOk hs) : handsCode hs hs.length = 0 := code_few (fun j hj => hsOk_gaps h hj) (by have := h.few; omega)
theorem gapsW_len (f : Fc) (l : List UInt8) (k : Nat) : (gapsW f l k).length = k - 1 := by
  induction k with
  | zero => rfl
  | succ k ih =>
    rw [gapsW]
    split
    · subst_vars; rfl
    · rw [List.length_append, ih, List.length_singleton]; omega
theorem gapsW_at (f : Fc) (l : List UInt8) (n : Nat) : ∀ k, k + 1 < n → rdI (gapsW f l n) k = f.gap + byP f.pairs (byt l k) (byt l (k + 1)) := by
  induction n with
  | zero => intro k hk; omega
  | succ n ih =>
    intro k hk
    rw [gapsW, if_neg (by omega)]
    have hl := gapsW_len f l n
    unfold rdI at ih ⊢
    rw [List.getD_eq_getElem?_getD]
    by_cases e : k + 1 < n
    · rw [List.getElem?_append_left (by omega), ← List.getD_eq_getElem?_getD]; exact ih k e
    · rw [List.getElem?_append_right (by omega), show k - (gapsW f l n).length = 0 by omega]
      have : n - 1 = k := by omega
      rw [this, show n = k + 1 by omega]; rfl
theorem gapsW_ok {f : Fc} (hf : FcV f) (l : List UInt8) (h5 : l.length ≤ 30) : gapsOk (gapsW f l l.length) = true := by
  have hl := gapsW_len f l l.length
  unfold gapsOk
  refine decide_eq_true ⟨fun k hk => inB_true ?_, by omega⟩
  rw [gapsW_at f l l.length k (by omega)]
  have := hf.by (byt l k) (byt l (k + 1))
  have := hf.gap
  omega
/-- A word's width, letter by letter. -/
theorem atW_lett {f : Fc} {l : List UInt8} (hl : LL l) {k : Nat} (hk : k < l.length) : atW f l (k + 1) = atW f l k + rdI f.wide (letN l k) + (if 0 < k then rdI (gapsW f l l.length) (k - 1) else 0) := by
  have h32 : ∀ i, i < l.length → byt l i ≠ 32 := fun i hi e => by have := isLet_iff.1 (hl i hi); omega
  rw [atW_let (h32 k hk)]
  split
  · rename_i h0
    rw [gapAt_more h0 (h32 (k - 1) (by omega)), gapsW_at f l l.length (k - 1) (by omega), show k - 1 + 1 = k by omega]; omega
  · rename_i h0
    have : k = 0 := by omega
    subst this
    rw [gapAt_first]; omega

/-! ### The nearest hand -/
theorem nearI_best {hs : List (List Int)} {ys : List Int} : ∀ {n : Nat}, 0 < n → nearI hs ys n < n ∧ ∀ i, i < n → nearM hs ys n ≤ apartN (rdL hs i) ys ∧ (apartN (rdL hs i) ys = nearM hs ys n → nearI hs ys n ≤ i)
  | 0 => fun h => by omega
  | 1 => fun _ => ⟨by rw [nearI_one]; omega, fun i hi => by obtain rfl : i = 0 := (by omega); exact ⟨Nat.le_refl _, fun _ => Nat.le_refl _⟩⟩
  | n + 2 => fun _ => by
    obtain ⟨h1, h2⟩ := nearI_best (hs := hs) (ys := ys) (n := n + 1) (by omega)
    by_cases h : apartN (rdL hs (n + 1)) ys < nearM hs ys (n + 1)
    · have e := nearI_take (hs := hs) (ys := ys) (k := n + 1) (by omega) h
      have em : nearM hs ys (n + 2) = apartN (rdL hs (n + 1)) ys := by unfold nearM; rw [e]
      refine ⟨by rw [e]; omega, fun i hi => ?_⟩
      rw [em, e]
      by_cases hin : i = n + 1
      · subst hin; exact ⟨Nat.le_refl _, fun _ => Nat.le_refl _⟩
      · have := (h2 i (by omega)).1
        exact ⟨by omega, fun hh => by omega⟩
    · have e := nearI_keep (hs := hs) (ys := ys) (k := n + 1) (by omega) h
      have em : nearM hs ys (n + 2) = nearM hs ys (n + 1) := by unfold nearM; rw [e]
      refine ⟨by rw [e]; omega, fun i hi => ?_⟩
      rw [em, e]
      by_cases hin : i = n + 1
      · subst hin; exact ⟨by omega, fun _ => by omega⟩
      · exact h2 i (by omega)

/-! ### Groups -/
section
variable {near : Nat → Nat → Bool} {n : Nat}
/-- After i hands: groups are numbered as they come up; no hand of a group is near to one of another or of none; each hand of a group is its first, or near to another hand. -/
structure GrpInv (near : Nat → Nat → Bool) (n i : Nat) (out : List Int) (g : Nat) : Prop where
  lo : ∀ b, b < n → rdI out b = -1 ∨ (0 ≤ rdI out b ∧ rdI out b < (g : Int))
  done : ∀ b, b < i → b < n → 0 ≤ rdI out b
  apart : ∀ a b, a < n → b < n → 0 ≤ rdI out a → rdI out a ≠ rdI out b → near a b = false
  first : ∀ b, b < n → 0 ≤ rdI out b → (∀ j, j < b → rdI out j ≠ rdI out b) ∨ ∃ a, a < n ∧ a ≠ b ∧ near a b = true
  order : ∀ b, b < n → 0 ≤ rdI out b → ∀ q : Int, 0 ≤ q → q < rdI out b → ∃ j, j < b ∧ rdI out j = q
  all : ∀ q : Int, 0 ≤ q → q < (g : Int) → ∃ j, j < i ∧ rdI out j = q
theorem reach_lt {out : List Int} {i b : Nat} (h : Reach near n out i b) (hi : i < n) : b < n := by
  cases h with
  | start => exact hi
  | step _ hb _ _ => exact hb
theorem reach_neg {out : List Int} {i b : Nat} (h : Reach near n out i b) (hi : rdI out i < 0) : rdI out b < 0 := by
  cases h with
  | start => exact hi
  | step _ _ _ hb => exact hb
theorem reach_from {out : List Int} {i b : Nat} (hi : i < n) (h : Reach near n out i b) : b = i ∨ ∃ a, a < n ∧ a ≠ b ∧ near a b = true := by
  induction h with
  | start => exact .inl rfl
  | step hd hcn hn hneg ihd =>
    rename_i d c
    by_cases hdc : d = c
    · subst hdc; exact ihd
    · exact .inr ⟨d, reach_lt hd hi, hdc, hn⟩
theorem grpInv (hsym : ∀ a b, near a b = near b a) : ∀ i, i ≤ n → GrpInv near n i (grpAll near n i).1 (grpAll near n i).2
  | 0, _ => by
    have h0 : ∀ b, b < n → rdI (grpAll near n 0).1 b = -1 := fun b hb => by simp [grpAll, rdI, List.getD, List.getElem?_replicate, hb]
    exact ⟨fun b hb => .inl (h0 b hb), fun b hb => by omega, fun a b ha hb h => by have := h0 a ha; omega, fun b hb h => by have := h0 b hb; omega, fun b hb h => by have := h0 b hb; omega, fun q h1 h2 => by simp [grpAll] at h2; omega⟩
  | i + 1, hi => by
    have ih := grpInv hsym i (by omega)
    by_cases h : 0 ≤ rdI (grpAll near n i).1 i
    · rw [grpAll_skip h]
      exact ⟨ih.lo, fun b hb hbn => by
        by_cases e : b = i
        · subst e; exact h
        · exact ih.done b (by omega) hbn, ih.apart, ih.first, ih.order, fun q h1 h2 => by obtain ⟨j, hj, e⟩ := ih.all q h1 h2; exact ⟨j, by omega, e⟩⟩
    · rw [grpAll_make h]
      generalize ho : (grpAll near n i).1 = out at *
      generalize hg : (grpAll near n i).2 = g at *
      have hneg : rdI out i < 0 := by omega
      have hyes : ∀ b, Reach near n out i b → rdI (grp1 near n out i (g : Int)) b = (g : Int) := fun b hr => (rdI_grp1 out i g b (reach_lt hr (by omega))).1 hr
      have hno : ∀ b, b < n → ¬ Reach near n out i b → rdI (grp1 near n out i (g : Int)) b = rdI out b := fun b hb hr => (rdI_grp1 out i g b hb).2 hr
      have hpos : ∀ b, b < n → 0 ≤ rdI out b → ¬ Reach near n out i b := fun b hb h0 hr => by have := reach_neg hr hneg; omega
      have hii : Reach near n out i i := .start
      refine ⟨fun b hb => ?_, fun b hb hbn => ?_, fun a b ha hb h0 hne => ?_, fun b hb h0 => ?_, fun b hb h0 q hq hqb => ?_, fun q h1 h2 => ?_⟩
      · by_cases hr : Reach near n out i b
        · rw [hyes b hr]; exact .inr ⟨by omega, by show (g : Int) < ((g + 1 : Nat) : Int); omega⟩
        · rw [hno b hb hr]
          rcases ih.lo b hb with e | ⟨e1, e2⟩
          · exact .inl e
          · exact .inr ⟨e1, by show _ < ((g + 1 : Nat) : Int); omega⟩
      · by_cases e : b = i
        · subst e; rw [hyes b hii]; omega
        · have h1 := ih.done b (by omega) hbn
          rw [hno b hbn (hpos b hbn h1)]; exact h1
      · by_cases hra : Reach near n out i a
        · by_cases hrb : Reach near n out i b
          · rw [hyes a hra, hyes b hrb] at hne; exact absurd rfl hne
          · cases hnb : near a b
            · rfl
            · by_cases hbn : rdI out b < 0
              · exact absurd (Reach.step hra hb hnb hbn) hrb
              · have := ih.apart b a hb ha (by omega) (by have := reach_neg hra hneg; omega)
                rw [hsym b a, hnb] at this; cases this
        · rw [hno a ha hra] at h0 hne
          by_cases hrb : Reach near n out i b
          · exact ih.apart a b ha hb h0 (by have := reach_neg hrb hneg; omega)
          · rw [hno b hb hrb] at hne; exact ih.apart a b ha hb h0 hne
      · by_cases hr : Reach near n out i b
        · rw [hyes b hr]
          rcases reach_from (by omega) hr with e | e
          · subst e
            refine .inl fun j hj => ?_
            have h1 := ih.done j hj (by omega)
            rw [hno j (by omega) (hpos j (by omega) h1)]
            rcases ih.lo j (by omega) with e | ⟨e1, e2⟩ <;> omega
          · exact .inr e
        · rw [hno b hb hr] at h0 ⊢
          rcases ih.first b hb h0 with e | e
          · refine .inl fun j hj => ?_
            by_cases hrj : Reach near n out i j
            · rw [hyes j hrj]
              rcases ih.lo b hb with e | ⟨e1, e2⟩ <;> omega
            · rw [hno j (by omega) hrj]; exact e j hj
          · exact .inr e
      · by_cases hr : Reach near n out i b
        · rw [hyes b hr] at hqb
          have hbi : i ≤ b := by
            by_cases hh : i ≤ b
            · exact hh
            · have := ih.done b (by omega) hb
              have := reach_neg hr hneg
              omega
          obtain ⟨j, hj, e⟩ := ih.all q hq hqb
          exact ⟨j, by omega, by rw [hno j (by omega) (hpos j (by omega) (by omega))]; exact e⟩
        · rw [hno b hb hr] at h0 hqb
          obtain ⟨j, hj, e⟩ := ih.order b hb h0 q hq hqb
          exact ⟨j, hj, by rw [hno j (by omega) (hpos j (by omega) (by omega))]; exact e⟩
      · by_cases hqg : q = (g : Int)
        · subst hqg; exact ⟨i, by omega, hyes i hii⟩
        · obtain ⟨j, hj, e⟩ := ih.all q h1 (by have : ((g + 1 : Nat) : Int) = (g : Int) + 1 := by omega
                                               have h3 : q < ((g + 1 : Nat) : Int) := h2
                                               omega)
          exact ⟨j, by omega, by rw [hno j (by omega) (hpos j (by omega) (by omega))]; exact e⟩
/-- The greatest number of a group among the first i hands, and one. -/
def usedN (out : List Int) : Nat → Int
  | 0 => 0
  | i + 1 => max (usedN out i) (rdI out i + 1)
theorem usedN_ge {out : List Int} {i j : Nat} (h : j < i) : rdI out j + 1 ≤ usedN out i := by
  induction i with
  | zero => omega
  | succ i ih =>
    rw [usedN]
    by_cases e : j = i
    · subst e; omega
    · have := ih (by omega); omega
theorem usedN_pos (out : List Int) (i : Nat) : 0 ≤ usedN out i := by
  induction i with
  | zero => exact Int.le_refl _
  | succ i ih => rw [usedN]; omega
theorem usedN_le {out : List Int} {g : Int} {n : Nat} (h : ∀ b, b < n → rdI out b < g) (h0 : 0 ≤ g) : ∀ i, i ≤ n → usedN out i ≤ g
  | 0, _ => h0
  | i + 1, hi => by rw [usedN]; have := usedN_le h h0 i (by omega); have := h i (by omega); omega
/-- What the law asks of the groups. -/
theorem groups_say (hsym : ∀ a b, near a b = near b a) (i : Nat) (hi : i < n) :
    0 ≤ rdI (grpAll near n n).1 i ∧ rdI (grpAll near n n).1 i ≤ usedN (grpAll near n n).1 i ∧ (∀ k, k < n → rdI (grpAll near n n).1 i ≠ rdI (grpAll near n n).1 k → near i k = false) ∧
    ((rdI (grpAll near n n).1 i = usedN (grpAll near n n).1 (i + 1) - 1 ∧ ∀ j, j < i → rdI (grpAll near n n).1 j ≠ rdI (grpAll near n n).1 i) ∨ ∃ k, k < n ∧ k ≠ i ∧ near i k = true) := by
  have H := grpInv hsym n (Nat.le_refl n)
  generalize (grpAll near n n).1 = out at *
  generalize (grpAll near n n).2 = g at *
  have h0 := H.done i hi hi
  have hle : rdI out i ≤ usedN out i := by
    by_cases hz : rdI out i = 0
    · have := usedN_pos out i; omega
    · obtain ⟨j, hj, e⟩ := H.order i hi h0 (rdI out i - 1) (by omega) (by omega)
      have := usedN_ge (out := out) hj
      omega
  refine ⟨h0, hle, fun k hk hne => H.apart i k hi hk h0 hne, ?_⟩
  rcases H.first i hi h0 with h | ⟨a, ha, hne, hna⟩
  · refine .inl ⟨?_, h⟩
    rw [usedN]
    have hmax : usedN out i ≤ rdI out i := by
      have key : ∀ m, m ≤ i → usedN out m ≤ rdI out i := by
        intro m
        induction m with
        | zero => intro _; exact h0
        | succ m ih =>
          intro hm
          rw [usedN]
          have h1 := ih (by omega)
          have h2 : rdI out m < rdI out i := by
            by_cases hlt : rdI out m < rdI out i
            · exact hlt
            · exfalso
              have hm0 := H.done m (by omega) (by omega)
              by_cases he : rdI out m = rdI out i
              · exact h m (by omega) he
              · obtain ⟨j, hj, e⟩ := H.order m (by omega) hm0 (rdI out i) h0 (by omega)
                exact h j (by omega) e
          omega
      exact key i (Nat.le_refl i)
    omega
  · exact .inr ⟨a, ha, hne, by rw [hsym]; exact hna⟩
theorem nearB_sym (hs : List (List Int)) (limit : Int) (a b : Nat) : nearB hs limit a b = nearB hs limit b a := by unfold nearB; rw [apartN_comm]
end
end Go.Proofs.YtkbmfemncadlnaaGreatDoor
