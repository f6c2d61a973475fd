/- Plain facts for FnBreaks: all breaks by the bits of a number; which are right, how uneven, how many; none has fewer lines than the greedy ones. Plain facts for FnBreaks, about what the contracts answer. Contracts for FnBreaks, in the law's own words. Plain facts for FnBreaks' walk: shifts, what all answers are. -/
import Derived.Test.YtdhngjjfoddnkaaGreatDoorTabP
import Derived.Test.YtdhngjjfoddnkaaGreatDoorGJ
import Derived.Test.YtdhngjjfoddnkaaGreatDoorGS
import Derived.Test.YtdhngjjfoddnkaaGreatDoorTabC
import Derived.Test.YtdhngjjfoddnkaaGreatDoorGK
import Derived.Test.YtdhngjjfoddnkaaGreatDoorTabD
import Derived.Test.YtdhngjjfoddnkaaGreatDoorGI
import Derived.Test.YtdhngjjfoddnkaaGreatDoorBkE
import Derived.OwnWalk
import Derived.Test.YtdhngjjfoddnkaaGreatDoorWnC
import Derived.Test.YtdhngjjfoddnkaaGreatDoorGT
namespace Go.Proofs.YtdhngjjfoddnkaaGreatDoor
open Go Go.RowKit
set_option linter.unusedVariables false
set_option linter.unusedSimpArgs false

theorem rdI_zeroB (x : Int) (xs : List Int) : rdI (x :: xs) 0 = x := rfl
theorem rdI_consB (x : Int) (xs : List Int) (i : Nat) : rdI (x :: xs) (i + 1) = rdI xs i := rfl

/-! ### Breaks as a list, from a line's first word on -/
/-- The breaks rise, behind fr and ahead of N. -/
def upL (N : Nat) (fr : Nat) : List Int → Prop
  | [] => True
  | x :: xs => (fr : Int) < x ∧ x < (N : Int) ∧ upL N x.toNat xs
/-- All lines fit. -/
def okL (f : Fc) (ws : List (List UInt8)) (m : Int) (fr : Nat) : List Int → Bool
  | [] => decide (0 ≤ lf f ws m fr ws.length)
  | x :: xs => decide (0 ≤ lf f ws m fr x.toNat) && okL f ws m x.toNat xs
/-- How uneven they are. -/
def unL (f : Fc) (ws : List (List UInt8)) (m : Int) (fr : Nat) : List Int → Int
  | [] => 0
  | x :: xs => lf f ws m fr x.toNat * lf f ws m fr x.toNat + unL f ws m x.toNat xs
theorem upL_at {N : Nat} : ∀ (xs : List Int) (fr : Nat), upL N fr xs → ∀ i, i < xs.length → (fr : Int) < rdI xs i ∧ rdI xs i < (N : Int) ∧ (0 < i → rdI xs (i - 1) < rdI xs i)
  | [], fr, _, i, hi => by simp at hi
  | x :: xs, fr, h, i, hi => by
    obtain ⟨h1, h2, h3⟩ := h
    cases i with
    | zero => exact ⟨h1, h2, fun h => absurd h (by omega)⟩
    | succ j =>
      rw [List.length_cons] at hi
      obtain ⟨a1, a2, a3⟩ := upL_at xs x.toNat h3 j (by omega)
      rw [rdI_consB]
      refine ⟨by omega, a2, fun _ => ?_⟩
      rw [Nat.add_sub_cancel]
      cases j with
      | zero => rw [rdI_zeroB]; omega
      | succ j => rw [rdI_consB]; exact a3 (by omega)
theorem upL_told {N : Nat} {xs : List Int} (h : upL N 0 xs) : told N xs = true := told_all fun i hi => by
  obtain ⟨h1, h2, h3⟩ := upL_at xs 0 h i hi
  have hin : inB 1 ((N : Int) - 1) (rdI xs i) = true := inB_iff.2 (by omega)
  by_cases h0 : i = 0
  · exact brkAt_first hin h0
  · rw [brkAt_more hin h0]; exact decide_eq_true (h3 (by omega))
/-- Where line i begins. -/
def stA (fr : Nat) (xs : List Int) (i : Nat) : Nat := if i = 0 then fr else (rdI xs (i - 1)).toNat
theorem stA_bk (xs : List Int) (i : Nat) : stA 0 xs i = bkA xs i := rfl
theorem stA_cons (fr : Nat) (x : Int) (xs : List Int) (i : Nat) : stA fr (x :: xs) (i + 1) = stA x.toNat xs i := by
  unfold stA
  rw [if_neg (by omega), Nat.add_sub_cancel]
  cases i with
  | zero => rw [if_pos rfl, rdI_zeroB]
  | succ j => rw [if_neg (by omega), Nat.add_sub_cancel, rdI_consB]
theorem bkE_cons (N : Nat) (x : Int) (xs : List Int) (i : Nat) : bkE N (x :: xs) (i + 1) = bkE N xs i := by
  unfold bkE
  by_cases h : i < xs.length
  · rw [if_pos h, if_pos (by rw [List.length_cons]; omega), rdI_consB]
  · rw [if_neg h, if_neg (by rw [List.length_cons]; omega)]
theorem okL_iff (f : Fc) (ws : List (List UInt8)) (m : Int) : ∀ (xs : List Int) (fr : Nat), okL f ws m fr xs = true ↔ ∀ i, i < xs.length + 1 → 0 ≤ lf f ws m (stA fr xs i) (bkE ws.length xs i)
  | [], fr => by
    unfold okL
    rw [decide_eq_true_iff]
    exact ⟨fun h i hi => by
      obtain rfl : i = 0 := by simp at hi; omega
      exact h, fun h => h 0 (by simp)⟩
  | x :: xs, fr => by
    unfold okL
    rw [Bool.and_eq_true, decide_eq_true_iff, okL_iff f ws m xs x.toNat]
    constructor
    · rintro ⟨h1, h2⟩ i hi
      cases i with
      | zero => exact h1
      | succ j => rw [stA_cons, bkE_cons]; exact h2 j (by rw [List.length_cons] at hi; omega)
    · intro h
      refine ⟨h 0 (by omega), fun j hj => ?_⟩
      have := h (j + 1) (by rw [List.length_cons]; omega)
      rwa [stA_cons, bkE_cons] at this
theorem right_okL {f : Fc} {ws : List (List UInt8)} {m : Int} {xs : List Int} (h : upL ws.length 0 xs) : rightB f ws m xs = okL f ws m 0 xs := by
  unfold rightB
  rw [upL_told h, Bool.true_and]
  cases k : okL f ws m 0 xs
  · refine decide_eq_false fun hr => ?_
    have : okL f ws m 0 xs = true := (okL_iff f ws m xs 0).2 fun i hi => hr i hi
    rw [k] at this; cases this
  · exact decide_eq_true fun i hi => (okL_iff f ws m xs 0).1 k i hi
def sqF (g : Nat → Int) : Nat → Int
  | 0 => 0
  | k + 1 => sqF g k + g k * g k
theorem sqF_congr {g h : Nat → Int} : ∀ k, (∀ i, i < k → g i = h i) → sqF g k = sqF h k
  | 0, _ => rfl
  | k + 1, e => by rw [sqF, sqF, sqF_congr k (fun i hi => e i (by omega)), e k (by omega)]
theorem sqF_head (g : Nat → Int) : ∀ k, sqF g (k + 1) = g 0 * g 0 + sqF (fun i => g (i + 1)) k
  | 0 => by simp [sqF]
  | k + 1 => by rw [sqF, sqF_head g k, sqF, Int.add_assoc]
theorem unL_eq (f : Fc) (ws : List (List UInt8)) (m : Int) : ∀ (xs : List Int) (fr : Nat), unL f ws m fr xs = sqF (fun i => lf f ws m (stA fr xs i) (bkE ws.length xs i)) xs.length
  | [], fr => rfl
  | x :: xs, fr => by
    rw [unL, List.length_cons, sqF_head, unL_eq f ws m xs x.toNat]
    congr 1
    refine sqF_congr _ fun i hi => ?_
    rw [stA_cons, bkE_cons]

/-! ### The table -/
section
variable {f : Fc} {ws : List (List UInt8)} {m : Int}
theorem tab_keep (k : Nat) : ∀ j, k + 1 ≤ j → j ≤ ws.length → tabI f ws m j (ws.length - 1 - k) = tabI f ws m (k + 1) (ws.length - 1 - k) := by
  intro j
  induction j with
  | zero => intro h; omega
  | succ j ih =>
    intro h1 h2
    rcases Nat.lt_or_ge k j with h | h
    · rw [tabI, upd_other (by omega)]
      exact ih (by omega) (by omega)
    · obtain rfl : j = k := by omega
      rfl
theorem rowI_congr {T U : Nat → Tl} {fr : Nat} : ∀ j, (∀ i, i < j → T (fr + 1 + i) = U (fr + 1 + i)) → rowI f ws m T fr j = rowI f ws m U fr j
  | 0, _ => rfl
  | j + 1, e => by rw [rowI, rowI, rowI_congr j (fun i hi => e i (by omega))]; unfold stI; rw [e j (by omega)]
theorem tab_row {fr : Nat} (h : fr < ws.length) : tabI f ws m ws.length fr = rowI f ws m (tabI f ws m ws.length) fr (ws.length - 1 - fr) := by
  obtain ⟨k, hk⟩ : ∃ k, k = ws.length - 1 - fr := ⟨_, rfl⟩
  have hfr : fr = ws.length - 1 - k := by omega
  rw [← hk]
  have h1 := tab_keep (f := f) (ws := ws) (m := m) k ws.length (by omega) (Nat.le_refl _)
  rw [← hfr] at h1
  rw [h1, tabI, hfr, upd_same]
  refine rowI_congr k fun i hi => ?_
  have e : ws.length - 1 - k + 1 + i = ws.length - 1 - (k - 1 - i) := by omega
  rw [e, tab_keep (k - 1 - i) k (by omega) (by omega), tab_keep (k - 1 - i) ws.length (by omega) (Nat.le_refl _)]
theorem tab_c (hf : FcV f) (hw : Ws ws) (hm : m ≤ 4000) {i : Nat} (hi : i < ws.length) : 0 ≤ (tabI f ws m ws.length i).c :=
  fin2_c (tab2 hf hw hm ws.length (Nat.le_refl _) i (by omega) hi)

/-- What a row tells is right. -/
def GoodT (f : Fc) (ws : List (List UInt8)) (m : Int) (fr : Nat) (t : Tl) : Prop := ¬ t.c = 0 → okL f ws m fr t.b = true ∧ upL ws.length fr t.b ∧ unL f ws m fr t.b = t.u
theorem row_good {T : Nat → Tl} {fr : Nat} : ∀ j, (∀ i, i < j → fr + 1 + i < ws.length ∧ GoodT f ws m (fr + 1 + i) (T (fr + 1 + i))) → GoodT f ws m fr (rowI f ws m T fr j)
  | 0, _ => by
    intro hc
    rw [rowI] at hc ⊢
    dsimp only at hc ⊢
    refine ⟨decide_eq_true ?_, trivial, rfl⟩
    by_cases h : lf f ws m fr ws.length < 0
    · rw [if_pos h] at hc; exact absurd rfl hc
    · omega
  | j + 1, h => by
    have ih := row_good (T := T) (fr := fr) j (fun i hi => h i (by omega))
    obtain ⟨h1, h2⟩ := h j (by omega)
    rw [rowI]
    generalize rowI f ws m T fr j = cur at ih ⊢
    unfold stI
    by_cases c1 : lf f ws m fr (fr + 1 + j) < 0 ∨ (T (fr + 1 + j)).c = 0
    · rw [if_pos c1]; exact ih
    · rw [if_neg c1]
      by_cases c2 : cur.c = 0 ∨ lf f ws m fr (fr + 1 + j) * lf f ws m fr (fr + 1 + j) + (T (fr + 1 + j)).u < cur.u
      · rw [if_pos c2]
        intro _
        obtain ⟨g1, g2, g3⟩ := h2 (fun e => c1 (.inr e))
        dsimp only
        have e : ((fr + 1 + j : Nat) : Int).toNat = fr + 1 + j := by omega
        refine ⟨?_, ⟨by omega, by omega, by rw [e]; exact g2⟩, ?_⟩
        · rw [okL, e, g1, Bool.and_true]; exact decide_eq_true (by omega)
        · rw [unL, e, g3]
      · rw [if_neg c2]
        intro _
        exact ih (fun e => c2 (.inl e))
theorem tab_good : ∀ d fr, fr < ws.length → ws.length - fr = d → GoodT f ws m fr (tabI f ws m ws.length fr) := by
  intro d
  induction d using Nat.strongRecOn with
  | _ d ih =>
    intro fr h hd
    rw [tab_row h]
    exact row_good _ fun i hi => ⟨by omega, ih (ws.length - (fr + 1 + i)) (by omega) (fr + 1 + i) (by omega) rfl⟩
/-- A row tells a way that is at most as uneven. -/
def Dom (t : Tl) (v : Int) : Prop := 0 < t.c ∧ t.u ≤ v
theorem row_c {T : Nat → Tl} {fr : Nat} : ∀ j, (∀ i, i < j → 0 ≤ (T (fr + 1 + i)).c) → 0 ≤ (rowI f ws m T fr j).c
  | 0, _ => by rw [rowI]; dsimp only; split <;> omega
  | j + 1, h => by
    have ih := row_c (T := T) (fr := fr) j (fun i hi => h i (by omega))
    have h1 := h j (by omega)
    rw [rowI]; unfold stI
    split
    · exact ih
    · split <;> (dsimp only; omega)
theorem dom_step {T : Nat → Tl} {fr te : Nat} {cur : Tl} {v : Int} (hc : 0 ≤ (T te).c) (h : Dom cur v) : Dom (stI f ws m T fr cur te) v := by
  obtain ⟨h1, h2⟩ := h
  unfold stI
  split
  · exact ⟨h1, h2⟩
  · split
    · rename_i c
      rcases c with c | c
      · omega
      · exact ⟨by dsimp only; omega, by dsimp only; omega⟩
    · exact ⟨by dsimp only; omega, h2⟩
theorem dom_new {T : Nat → Tl} {fr te : Nat} {cur : Tl} {v : Int} (hl : 0 ≤ lf f ws m fr te) (h0 : 0 ≤ cur.c) (hT : Dom (T te) v) : Dom (stI f ws m T fr cur te) (lf f ws m fr te * lf f ws m fr te + v) := by
  obtain ⟨h1, h2⟩ := hT
  unfold stI
  rw [if_neg (by omega)]
  split
  · exact ⟨by dsimp only; omega, by dsimp only; omega⟩
  · rename_i c
    exact ⟨by dsimp only; omega, by dsimp only; omega⟩
theorem dom_row {T : Nat → Tl} {fr : Nat} {v : Int} {j : Nat} (h : Dom (rowI f ws m T fr j) v) : ∀ d, (∀ i, i < j + d → 0 ≤ (T (fr + 1 + i)).c) → Dom (rowI f ws m T fr (j + d)) v
  | 0, _ => h
  | d + 1, hc => by
    rw [← Nat.add_assoc, rowI]
    exact dom_step (hc (j + d) (by omega)) (dom_row h d fun i hi => hc i (by omega))
theorem tab_low (hf : FcV f) (hw : Ws ws) (hm : m ≤ 4000) : ∀ (xs : List Int) (fr : Nat), fr < ws.length → upL ws.length fr xs → okL f ws m fr xs = true → Dom (tabI f ws m ws.length fr) (unL f ws m fr xs)
  | [], fr, h, _, ho => by
    have hl : 0 ≤ lf f ws m fr ws.length := of_decide_eq_true ho
    rw [tab_row h]
    have h0 : Dom (rowI f ws m (tabI f ws m ws.length) fr 0) 0 := by
      rw [rowI]
      exact ⟨by dsimp only; rw [if_neg (by omega)]; decide, Int.le_refl _⟩
    have := dom_row h0 (ws.length - 1 - fr) (fun i hi => tab_c hf hw hm (by omega))
    rwa [Nat.zero_add] at this
  | x :: xs, fr, h, hu, ho => by
    obtain ⟨u1, u2, u3⟩ := hu
    rw [okL, Bool.and_eq_true, decide_eq_true_iff] at ho
    obtain ⟨o1, o2⟩ := ho
    have ih := tab_low hf hw hm xs x.toNat (by omega) u3 o2
    obtain ⟨j, hj⟩ : ∃ j, j = x.toNat - fr - 1 := ⟨_, rfl⟩
    have e : fr + 1 + j = x.toNat := by omega
    rw [tab_row h]
    have h1 : Dom (rowI f ws m (tabI f ws m ws.length) fr (j + 1)) (unL f ws m fr (x :: xs)) := by
      rw [rowI, unL, e]
      exact dom_new o1 (row_c j fun i hi => tab_c hf hw hm (by omega)) ih
    have := dom_row h1 (ws.length - 1 - fr - (j + 1)) (fun i hi => tab_c hf hw hm (by omega))
    rwa [show j + 1 + (ws.length - 1 - fr - (j + 1)) = ws.length - 1 - fr by omega] at this
end

/-! ### All breaks, by the bits of a number -/
def ownO (o s : Nat) : Nat → List Int
  | 0 => []
  | j + 1 => if s.testBit j then ownO o s j ++ [((o + j : Nat) : Int)] else ownO o s j
theorem ownO_head (o s : Nat) : ∀ j, ownO o s (j + 1) = (if s.testBit 0 then [(o : Int)] else []) ++ ownO (o + 1) (s / 2) j
  | 0 => by
    rw [ownO, ownO, ownO]
    by_cases h : s.testBit 0 = true
    · rw [if_pos h, if_pos h]; simp
    · rw [if_neg h, if_neg h]; simp
  | j + 1 => by
    rw [ownO, ownO_head o s j, ownO, Nat.testBit_succ]
    by_cases h : (s / 2).testBit j = true
    · rw [if_pos h, if_pos h, List.append_assoc, show o + (j + 1) = o + 1 + j by omega]
    · rw [if_neg h, if_neg h]
theorem ownO_length (o s : Nat) : ∀ j, (ownO o s j).length ≤ j
  | 0 => Nat.le_refl _
  | j + 1 => by
    have := ownO_length o s j
    rw [ownO]; split
    · rw [List.length_append, List.length_singleton]; omega
    · omega
def brkD (N : Nat) : Nat → Nat → List Int
  | 0, _ => []
  | d + 1, s => if s.testBit 0 then ((N - (d + 1) : Nat) : Int) :: brkD N d (s / 2) else brkD N d (s / 2)
theorem brkD_own {N : Nat} : ∀ d s, d ≤ N → brkD N d s = ownO (N - d) s d
  | 0, s, _ => rfl
  | d + 1, s, h => by
    rw [brkD, ownO_head, brkD_own d (s / 2) (by omega), show N - (d + 1) + 1 = N - d by omega]
    by_cases hb : s.testBit 0 = true
    · rw [if_pos hb, if_pos hb]; rfl
    · rw [if_neg hb, if_neg hb]; rfl
theorem upL_less {N fr fr' : Nat} {xs : List Int} (h : upL N fr xs) (hh : fr' ≤ fr) : upL N fr' xs := by
  cases xs with
  | nil => trivial
  | cons x xs => exact ⟨by have := h.1; omega, h.2⟩
theorem upL_brkD {N : Nat} : ∀ d s fr, d < N → fr < N - d → upL N fr (brkD N d s)
  | 0, s, fr, _, _ => trivial
  | d + 1, s, fr, h, hf => by
    rw [brkD]
    split
    · refine ⟨by omega, by omega, ?_⟩
      have e : ((N - (d + 1) : Nat) : Int).toNat = N - (d + 1) := by omega
      rw [e]
      exact upL_brkD d (s / 2) _ (by omega) (by omega)
    · exact upL_brkD d (s / 2) fr (by omega) (by omega)
/-- The breaks that the law draws by a number. -/
def ownN (N s : Nat) : List Int := ownO 1 s (N - 1)
theorem ownN_brk {N s : Nat} (h : 0 < N) : ownN N s = brkD N (N - 1) s := by
  rw [brkD_own _ _ (by omega), show N - (N - 1) = 1 by omega]; rfl
theorem ownN_up {N s : Nat} (h : 0 < N) : upL N 0 (ownN N s) := by
  rw [ownN_brk h]; exact upL_brkD _ _ _ (by omega) (by omega)
/-- How many of the first numbers give breaks that are right. -/
def cntD (f : Fc) (ws : List (List UInt8)) (m : Int) (d fr : Nat) : Nat → Int
  | 0 => 0
  | s + 1 => cntD f ws m d fr s + (if okL f ws m fr (brkD ws.length d s) then 1 else 0)
theorem cntD_range (f : Fc) (ws : List (List UInt8)) (m : Int) (d fr : Nat) : ∀ s : Nat, 0 ≤ cntD f ws m d fr s ∧ cntD f ws m d fr s ≤ s
  | 0 => by simp [cntD]
  | s + 1 => by
    have := cntD_range f ws m d fr s
    rw [cntD]; push_cast
    split <;> omega
theorem bit_even (n : Nat) : (2 * n).testBit 0 = false ∧ 2 * n / 2 = n := ⟨by rw [Nat.testBit_zero]; simp, by omega⟩
theorem bit_odd (n : Nat) : (2 * n + 1).testBit 0 = true ∧ (2 * n + 1) / 2 = n := ⟨by rw [Nat.testBit_zero]; simp; try omega, by omega⟩
theorem cnt_two (f : Fc) (ws : List (List UInt8)) (m : Int) (d fr : Nat) : ∀ n : Nat, cntD f ws m (d + 1) fr (2 * n) = cntD f ws m d fr n + (if 0 ≤ lf f ws m fr (ws.length - (d + 1)) then cntD f ws m d (ws.length - (d + 1)) n else 0)
  | 0 => by simp [cntD]
  | n + 1 => by
    have ih := cnt_two f ws m d fr n
    obtain ⟨a1, a2⟩ := bit_even n
    obtain ⟨b1, b2⟩ := bit_odd n
    have e : ((ws.length - (d + 1) : Nat) : Int).toNat = ws.length - (d + 1) := by omega
    rw [show 2 * (n + 1) = 2 * n + 1 + 1 by omega, cntD, cntD, ih, cntD, cntD]
    have e1 : okL f ws m fr (brkD ws.length (d + 1) (2 * n)) = okL f ws m fr (brkD ws.length d n) := by rw [brkD, a1, a2, if_neg (by decide)]
    have e2 : okL f ws m fr (brkD ws.length (d + 1) (2 * n + 1)) = (decide (0 ≤ lf f ws m fr (ws.length - (d + 1))) && okL f ws m (ws.length - (d + 1)) (brkD ws.length d n)) := by rw [brkD, b1, b2, if_pos rfl, okL, e]
    rw [e1, e2]
    by_cases h : 0 ≤ lf f ws m fr (ws.length - (d + 1))
    · rw [if_pos h, if_pos h, decide_eq_true h, Bool.true_and]; omega
    · rw [if_neg h, if_neg h, decide_eq_false h]; simp; try omega
def cntA (f : Fc) (ws : List (List UInt8)) (m : Int) (d fr : Nat) : Int := cntD f ws m d fr (2 ^ d)
theorem cntA_zero (f : Fc) (ws : List (List UInt8)) (m : Int) (fr : Nat) : cntA f ws m 0 fr = if 0 ≤ lf f ws m fr ws.length then 1 else 0 := by
  unfold cntA
  rw [Nat.pow_zero, cntD, cntD, brkD, okL]
  by_cases h : 0 ≤ lf f ws m fr ws.length
  · rw [if_pos h, decide_eq_true h]; simp
  · rw [if_neg h, decide_eq_false h]; simp
theorem cntA_succ (f : Fc) (ws : List (List UInt8)) (m : Int) (d fr : Nat) : cntA f ws m (d + 1) fr = cntA f ws m d fr + (if 0 ≤ lf f ws m fr (ws.length - (d + 1)) then cntA f ws m d (ws.length - (d + 1)) else 0) := by
  unfold cntA
  rw [Nat.pow_succ, Nat.mul_comm, cnt_two]
def sI (h : Nat → Int) : Nat → Int
  | 0 => 0
  | k + 1 => sI h k + h k
theorem sI_congr {g h : Nat → Int} : ∀ k, (∀ i, i < k → g i = h i) → sI g k = sI h k
  | 0, _ => rfl
  | k + 1, e => by rw [sI, sI, sI_congr k (fun i hi => e i (by omega)), e k (by omega)]
theorem sI_head (g : Nat → Int) : ∀ k, sI g (k + 1) = g 0 + sI (fun i => g (i + 1)) k
  | 0 => by simp [sI]
  | k + 1 => by rw [sI, sI_head g k, sI, Int.add_assoc]
theorem sI_rev : ∀ (k : Nat) (h : Nat → Int), sI h k = sI (fun e => h (k - 1 - e)) k
  | 0, _ => rfl
  | k + 1, h => by
    rw [sI_head (fun e => h (k + 1 - 1 - e)), sI, sI_rev k h]
    rw [Int.add_comm]
    congr 1
    refine sI_congr k fun i hi => ?_
    show h (k - 1 - i) = h (k + 1 - 1 - (i + 1))
    congr 1; omega
section
variable {f : Fc} {ws : List (List UInt8)} {m : Int}
theorem cntA_sum (fr : Nat) : ∀ d, cntA f ws m d fr = cntA f ws m 0 fr + sI (fun e => if 0 ≤ lf f ws m fr (ws.length - 1 - e) then cntA f ws m e (ws.length - 1 - e) else 0) d
  | 0 => by simp [sI]
  | d + 1 => by rw [cntA_succ, cntA_sum fr d, sI, Int.add_assoc, show ws.length - (d + 1) = ws.length - 1 - d by omega]
theorem row_sum {T : Nat → Tl} {fr : Nat} : ∀ j, (rowI f ws m T fr j).c = (if 0 ≤ lf f ws m fr ws.length then 1 else 0) + sI (fun i => if 0 ≤ lf f ws m fr (fr + 1 + i) then (T (fr + 1 + i)).c else 0) j
  | 0 => by
    rw [rowI, sI]; dsimp only
    by_cases h : 0 ≤ lf f ws m fr ws.length
    · rw [if_pos h, if_neg (by omega)]; rfl
    · rw [if_neg h, if_pos (by omega)]; rfl
  | j + 1 => by
    rw [rowI, sI, ← Int.add_assoc, ← row_sum j]
    unfold stI
    by_cases h : 0 ≤ lf f ws m fr (fr + 1 + j)
    · rw [if_pos h]
      by_cases hc : (T (fr + 1 + j)).c = 0
      · rw [if_pos (.inr hc), hc, Int.add_zero]
      · rw [if_neg (by omega)]
        split <;> rfl
    · rw [if_neg h, if_pos (.inl (by omega)), Int.add_zero]
theorem tab_cnt : ∀ d fr, fr < ws.length → ws.length - 1 - fr = d → (tabI f ws m ws.length fr).c = cntA f ws m d fr := by
  intro d
  induction d using Nat.strongRecOn with
  | _ d ih =>
    intro fr h hd
    rw [tab_row h, row_sum, cntA_sum fr d, cntA_zero, hd, sI_rev d]
    congr 1
    refine sI_congr d fun e he => ?_
    rw [show fr + 1 + (d - 1 - e) = ws.length - 1 - e by omega]
    by_cases hl : 0 ≤ lf f ws m fr (ws.length - 1 - e)
    · rw [if_pos hl, if_pos hl]
      exact ih e he _ (by omega) (by omega)
    · rw [if_neg hl, if_neg hl]
end

/-! ### The greedy breaks are the fewest -/
def cntB : List Int → Nat → Nat
  | [], _ => 0
  | x :: xs, k => if x < (k : Int) then 1 + cntB xs k else 0
def lastB (fr : Nat) : List Int → Nat → Nat
  | [], _ => fr
  | x :: xs, k => if x < (k : Int) then lastB x.toNat xs k else fr
theorem cntB_len : ∀ (xs : List Int) (k : Nat), cntB xs k ≤ xs.length
  | [], _ => Nat.le_refl _
  | x :: xs, k => by
    have := cntB_len xs k
    rw [cntB, List.length_cons]; split <;> omega
theorem low_first {N fr : Nat} {xs : List Int} (h : upL N fr xs) {k : Nat} (hk : k ≤ fr + 1) : cntB xs k = 0 ∧ lastB fr xs k = fr := by
  cases xs with
  | nil => exact ⟨rfl, rfl⟩
  | cons x xs =>
    have := h.1
    rw [cntB, lastB, if_neg (by omega), if_neg (by omega)]
    exact ⟨rfl, rfl⟩
theorem low_next {N : Nat} : ∀ (xs : List Int) (fr k : Nat), upL N fr xs → (cntB xs (k + 1) = cntB xs k + 1 ∧ lastB fr xs (k + 1) = k) ∨ (cntB xs (k + 1) = cntB xs k ∧ lastB fr xs (k + 1) = lastB fr xs k)
  | [], fr, k, _ => .inr ⟨rfl, rfl⟩
  | x :: xs, fr, k, h => by
    obtain ⟨h1, h2, h3⟩ := h
    rw [cntB, cntB, lastB, lastB]
    rcases Int.lt_trichotomy x (k : Int) with hx | hx | hx
    · rw [if_pos (by push_cast; omega), if_pos hx, if_pos (by push_cast; omega), if_pos hx]
      rcases low_next xs x.toNat k h3 with ⟨a, b⟩ | ⟨a, b⟩
      · exact .inl ⟨by omega, b⟩
      · exact .inr ⟨by omega, b⟩
    · rw [if_pos (by push_cast; omega), if_neg (by omega), if_pos (by push_cast; omega)]
      obtain ⟨a, b⟩ := low_first h3 (k := k + 1) (by omega)
      exact .inl ⟨by omega, by rw [b]; omega⟩
    · rw [if_neg (by push_cast; omega), if_neg (by omega), if_neg (by push_cast; omega), if_neg (by omega)]
      exact .inr ⟨rfl, rfl⟩
theorem low_fits {f : Fc} (hf : FcV f) {ws : List (List UInt8)} (hw : Ws ws) {m : Int} : ∀ (xs : List Int) (fr : Nat), upL ws.length fr xs → okL f ws m fr xs = true → ∀ k, fr < k → k ≤ ws.length → lastB fr xs k < k ∧ lnW f ws (lastB fr xs k) k ≤ m
  | [], fr, _, ho, k, h1, h2 => by
    have hl : 0 ≤ lf f ws m fr ws.length := of_decide_eq_true ho
    have := lnW_mono hf hw (Nat.le_refl fr) h1 h2 (Nat.le_refl _)
    unfold lf at hl
    exact ⟨h1, by show lnW f ws fr k ≤ m; omega⟩
  | x :: xs, fr, hu, ho, k, h1, h2 => by
    obtain ⟨u1, u2, u3⟩ := hu
    rw [okL, Bool.and_eq_true, decide_eq_true_iff] at ho
    obtain ⟨o1, o2⟩ := ho
    rw [lastB]
    by_cases hx : x < (k : Int)
    · rw [if_pos hx]
      exact low_fits hf hw xs x.toNat u3 o2 k (by omega) h2
    · rw [if_neg hx]
      have := lnW_mono hf hw (Nat.le_refl fr) h1 (show k ≤ x.toNat by omega) (by omega)
      unfold lf at o1
      exact ⟨h1, by omega⟩
theorem grd_least {f : Fc} (hf : FcV f) {ws : List (List UInt8)} (hw : Ws ws) {m : Int} {xs : List Int} (hu : upL ws.length 0 xs) (ho : okL f ws m 0 xs = true) : ∀ k, k ≤ ws.length →
    (grd f ws m k).1.length < cntB xs k ∨ ((grd f ws m k).1.length = cntB xs k ∧ lastB 0 xs k ≤ (grd f ws m k).2) := by
  intro k
  induction k with
  | zero =>
    intro _
    obtain ⟨a, b⟩ := low_first hu (k := 0) (by omega)
    exact .inr ⟨by rw [a]; rfl, by rw [b]; exact Nat.zero_le _⟩
  | succ k ih =>
    intro hk
    have h := ih (by omega)
    have r1 := grd_range f ws m k
    obtain ⟨l1, l2⟩ := low_fits hf hw xs 0 hu ho (k + 1) (by omega) hk
    by_cases c : m < lnW f ws (grd f ws m k).2 (k + 1)
    · rw [grd_yes c]
      simp only [List.length_append, List.length_singleton]
      rcases low_next xs 0 k hu with ⟨a, b⟩ | ⟨a, b⟩
      · rw [a, b]; omega
      · rw [a, b]
        rw [b] at l1 l2
        rcases h with h | ⟨e1, e2⟩
        · omega
        · have := lnW_mono hf hw e2 (show (grd f ws m k).2 < k + 1 by omega) (Nat.le_refl (k + 1)) hk
          omega
    · rw [grd_no c]
      rcases low_next xs 0 k hu with ⟨a, b⟩ | ⟨a, b⟩
      · rw [a]; omega
      · rw [a, b]; exact h
theorem grd_few {f : Fc} (hf : FcV f) {ws : List (List UInt8)} (hw : Ws ws) {m : Int} {xs : List Int} (hu : upL ws.length 0 xs) (ho : okL f ws m 0 xs = true) : (grd f ws m ws.length).1.length ≤ xs.length := by
  have h1 := grd_least hf hw hu ho ws.length (Nat.le_refl _)
  have h2 := cntB_len xs ws.length
  omega
theorem ok_fits {f : Fc} (hf : FcV f) {ws : List (List UInt8)} (hw : Ws ws) {m : Int} {xs : List Int} (hu : upL ws.length 0 xs) (ho : okL f ws m 0 xs = true) : fits f ws m = true := by
  refine fits_all fun j hj => ?_
  obtain ⟨l1, l2⟩ := low_fits hf hw xs 0 hu ho (j + 1) (by omega) hj
  have := lnW_mono hf hw (show lastB 0 xs (j + 1) ≤ j by omega) (show j < j + 1 by omega) (Nat.le_refl _) hj
  omega
end Go.Proofs.YtdhngjjfoddnkaaGreatDoor
namespace Go.Proofs.YtdhngjjfoddnkaaGreatDoor
open Go Go.RowKit
set_option linter.unusedVariables false
set_option linter.unusedSimpArgs false

theorem usq_sqF (l : List Int) : ∀ k, usq l k = sqF (rdI l) k
  | 0 => rfl
  | k + 1 => by rw [usq_succ, sqF, usq_sqF l k]
theorem usq_un (f : Fc) (ws : List (List UInt8)) (m : Int) (xs : List Int) : usq (lefts f ws m xs (xs.length + 1)) xs.length = unL f ws m 0 xs := by
  rw [usq_sqF, unL_eq]
  exact sqF_congr _ fun i hi => rdI_lefts (by omega)
section
variable {f : Fc} {ws : List (List UInt8)} {m : Int}
theorem br_right (hN : 0 < ws.length) (s : Nat) : rightB f ws m (ownN ws.length s) = okL f ws m 0 (ownN ws.length s) := right_okL (ownN_up hN)
theorem br_step (hN : 0 < ws.length) (s : Nat) : cntD f ws m (ws.length - 1) 0 (s + 1) = cntD f ws m (ws.length - 1) 0 s + (if rightB f ws m (ownN ws.length s) then 1 else 0) := by
  rw [cntD, br_right hN, ownN_brk hN]
theorem br_all (hN : 0 < ws.length) : cntD f ws m (ws.length - 1) 0 (2 ^ (ws.length - 1)) = (top f ws m).c := by
  rw [top_pos (by omega), tab_cnt (ws.length - 1) 0 hN (by omega)]; rfl
/-- Breaks that are right. -/
structure BrR (f : Fc) (ws : List (List UInt8)) (m : Int) (xs : List Int) (uneven : Int) : Prop where
  fit : fits f ws m = true
  low : (top f ws m).u ≤ uneven
  few : (grd f ws m ws.length).1.length ≤ xs.length
  same : xs = (top f ws m).b → uneven = (top f ws m).u
theorem br_good (hf : FcV f) (hw : Ws ws) (hm : m ≤ 4000) (hN : 0 < ws.length) (s : Nat) (h : rightB f ws m (ownN ws.length s) = true) : BrR f ws m (ownN ws.length s) (usq (lefts f ws m (ownN ws.length s) ((ownN ws.length s).length + 1)) (ownN ws.length s).length) := by
  have hu := ownN_up (N := ws.length) (s := s) hN
  rw [br_right hN] at h
  have hl := tab_low hf hw hm _ 0 hN hu h
  rw [usq_un]
  refine ⟨ok_fits hf hw hu h, by rw [top_pos (by omega)]; exact hl.2, grd_few hf hw hu h, fun e => ?_⟩
  have hg := tab_good (f := f) (m := m) _ 0 hN rfl (by have := hl.1; omega)
  rw [top_pos (by omega)] at e ⊢
  rw [e]; exact hg.2.2
end
/-- The least width. -/
theorem least_facts {f : Fc} (hf : FcV f) {ws : List (List UInt8)} (hw : Ws ws) {n r : Int} (hn : 1 ≤ n) (hb : lnW f ws 0 ws.length ≤ 3600) (h : LeAt f ws n r) : 0 ≤ r ∧ r ≤ 3600 ∧ (r = 0 ↔ ws = []) := by
  obtain ⟨h0, h1, h2⟩ := h
  refine ⟨h0, ?_, ?_⟩
  · rcases Int.lt_or_le (lnW f ws 0 ws.length) r with hh | hh
    · exact absurd (leOk_top hf hw hn) (h2 _ (lnW_range hf hw 0 ws.length).1 hh)
    · omega
  · constructor
    · intro e
      subst e
      cases ws with
      | nil => rfl
      | cons x xs =>
        have h3 := (of_decide_eq_true h1.1 : FitsN f (x :: xs) 0 (x :: xs).length) 0 (by simp)
        have h4 : lnW f (x :: xs) 0 (0 + 1) = lineW f x := by unfold lnW cutW; simp [joinW_one]
        have h5 := word_range hf (hw.isw x (by simp)) (hw.len x (by simp))
        omega
    · intro e
      subst e
      rcases Int.lt_or_le 0 r with hh | hh
      · exact absurd ⟨decide_eq_true (fun j hj => by simp at hj), by simp [grd]; omega⟩ (h2 0 (by omega) hh)
      · omega
end Go.Proofs.YtdhngjjfoddnkaaGreatDoor
namespace Go.Proofs.YtdhngjjfoddnkaaGreatDoor
open Go Go.RowKit
set_option linter.unusedVariables false
set_option linter.unusedSimpArgs false

theorem lo_wt {w w' : World} {xs : List Int} {c : Int} {e : Ending} (h : ListOut w xs c e w') : WtOut w xs c e w' := by
  obtain ⟨A, d, h1, h2, h3⟩ := h
  exact ⟨A, d, ⟨h1, h3.sl⟩, h2⟩
def BsOut (w : World) (xs : List Int) (u c : Int) (e : Ending) (w' : World) : Prop := ∃ B d, (e = .returned (.tuple #[.slice B xs.length d, .int .i64 u, .int .i64 c]) ∧ SlE i64 w' B xs) ∧ Below w.heap.size w w'
theorem bo_bs {w w' : World} {xs : List Int} {u c : Int} {e : Ending} (h : BstOut w xs u c e w') : BsOut w xs u c e w' := by
  obtain ⟨A, d, h1, h2, h3⟩ := h
  exact ⟨A, d, ⟨h1, h3.sl⟩, h2⟩
theorem ask0 {f : Fc} {l : List UInt8} {m : Int} (hV : validF f = true) (ht : vText l = true) (hm0 : 0 ≤ m ∧ m ≤ 4000) : askC f l (inB 0 4000 m) = 0 := by rw [askC_ok hV ht, inB_iff.2 hm0]; rfl
theorem greedy_implL (f : Fc) (S : Value) (l : List UInt8) (m : Int) (w : World) (hf : HasF w f S) (hV : validF f = true) (ht : vText l = true) (hm0 : 0 ≤ m ∧ m ≤ 4000) (hmx : MaxW w) (hsp : SpT w) :
    Calls Tryz.prog 8 #[.agg (fcV f S).toArray, .string ⟨l.toArray⟩, .int .i64 m] w (WtOut w (brkOut f l m).1 (brkOut f l m).2) := by
  obtain ⟨hft, A, n, c, rfl, hn, hm, hsl⟩ := hf
  have h := greedyB_impl f A n c ⟨l.toArray⟩ m w hft hn (by omega) (size60 ht) hsl hmx hsp
  rw [bs_mk] at h
  exact h.mono fun e w' hh => lo_wt hh
theorem best_implL (f : Fc) (S : Value) (l : List UInt8) (m : Int) (w : World) (hf : HasF w f S) (hV : validF f = true) (ht : vText l = true) (hm0 : 0 ≤ m ∧ m ≤ 4000) (hmx : MaxW w) (hsp : SpT w) :
    Calls Tryz.prog 10 #[.agg (fcV f S).toArray, .string ⟨l.toArray⟩, .int .i64 m] w (BsOut w (bstOut f l m).1 (bstOut f l m).2.1 (bstOut f l m).2.2) := by
  obtain ⟨hft, A, n, c, rfl, hn, hm, hsl⟩ := hf
  have h := best_impl f A n c ⟨l.toArray⟩ m w hft hn (by omega) (size60 ht) hsl hmx hsp
  rw [bs_mk] at h
  exact h.mono fun e w' hh => bo_bs hh
theorem count_implL (f : Fc) (S : Value) (l : List UInt8) (m : Int) (w : World) (hf : HasF w f S) (hV : validF f = true) (ht : vText l = true) (hm0 : 0 ≤ m ∧ m ≤ 4000) (hmx : MaxW w) (hsp : SpT w) :
    Calls Tryz.prog 12 #[.agg (fcV f S).toArray, .string ⟨l.toArray⟩, .int .i64 m] w fun e w' => e = .returned (.tuple #[.int .i64 (cntOut f l m).1, .int .i64 (cntOut f l m).2]) ∧ Below w.heap.size w w' := by
  obtain ⟨hft, A, n, c, rfl, hn, hm, hsl⟩ := hf
  have h := count_impl f A n c ⟨l.toArray⟩ m w hft hn (by omega) (size60 ht) hsl hmx hsp
  rw [bs_mk] at h
  exact h
theorem few_implL (f : Fc) (S : Value) (l : List UInt8) (m : Int) (w : World) (hf : HasF w f S) (hV : validF f = true) (ht : vText l = true) (hm0 : 0 ≤ m ∧ m ≤ 4000) (hmx : MaxW w) (hsp : SpT w) :
    Calls Tryz.prog 14 #[.agg (fcV f S).toArray, .string ⟨l.toArray⟩, .int .i64 m] w fun e w' => e = .returned (.tuple #[.int .i64 (fewOut f l m).1, .int .i64 (fewOut f l m).2]) ∧ Below w.heap.size w w' := by
  obtain ⟨hft, A, n, c, rfl, hn, hm, hsl⟩ := hf
  have h := fewest_impl f A n c ⟨l.toArray⟩ m w hft hn (by omega) (size60 ht) hsl hmx hsp
  rw [bs_mk] at h
  exact h
theorem greedy_specL (f : Fc) (S : Value) (l : List UInt8) (m : Int) (w : World) (hf : HasF w f S) (hV : validF f = true) (ht : vText l = true) (hm0 : 0 ≤ m ∧ m ≤ 4000) :
    Calls Tryz.prog 9 #[.agg (fcV f S).toArray, .string ⟨l.toArray⟩, .int .i64 m] w (WtOut w (brkOut f l m).1 (brkOut f l m).2) := by
  obtain ⟨hft, A, n, c, rfl, hn, hm, hsl⟩ := hf
  have h := greedyB_spec f A n c ⟨l.toArray⟩ m w hft hn (by omega) (size60 ht) hsl
  rw [bs_mk] at h
  exact h.mono fun e w' hh => lo_wt hh
theorem best_specL (f : Fc) (S : Value) (l : List UInt8) (m : Int) (w : World) (hf : HasF w f S) (hV : validF f = true) (ht : vText l = true) (hm0 : 0 ≤ m ∧ m ≤ 4000) :
    Calls Tryz.prog 11 #[.agg (fcV f S).toArray, .string ⟨l.toArray⟩, .int .i64 m] w (BsOut w (bstOut f l m).1 (bstOut f l m).2.1 (bstOut f l m).2.2) := by
  obtain ⟨hft, A, n, c, rfl, hn, hm, hsl⟩ := hf
  have h := best_spec f A n c ⟨l.toArray⟩ m w hft hn (by omega) (size60 ht) hsl
  rw [bs_mk] at h
  exact h.mono fun e w' hh => bo_bs hh
theorem count_specL (f : Fc) (S : Value) (l : List UInt8) (m : Int) (w : World) (hf : HasF w f S) (hV : validF f = true) (ht : vText l = true) (hm0 : 0 ≤ m ∧ m ≤ 4000) :
    Calls Tryz.prog 13 #[.agg (fcV f S).toArray, .string ⟨l.toArray⟩, .int .i64 m] w fun e w' => e = .returned (.tuple #[.int .i64 (cntOut f l m).1, .int .i64 (cntOut f l m).2]) ∧ Below w.heap.size w w' := by
  obtain ⟨hft, A, n, c, rfl, hn, hm, hsl⟩ := hf
  have h := count_spec f A n c ⟨l.toArray⟩ m w hft hn (by omega) (size60 ht) hsl
  rw [bs_mk] at h
  exact h
theorem few_specL (f : Fc) (S : Value) (l : List UInt8) (m : Int) (w : World) (hf : HasF w f S) (hV : validF f = true) (ht : vText l = true) (hm0 : 0 ≤ m ∧ m ≤ 4000) :
    Calls Tryz.prog 15 #[.agg (fcV f S).toArray, .string ⟨l.toArray⟩, .int .i64 m] w fun e w' => e = .returned (.tuple #[.int .i64 (fewOut f l m).1, .int .i64 (fewOut f l m).2]) ∧ Below w.heap.size w w' := by
  obtain ⟨hft, A, n, c, rfl, hn, hm, hsl⟩ := hf
  have h := fewest_spec f A n c ⟨l.toArray⟩ m w hft hn (by omega) (size60 ht) hsl
  rw [bs_mk] at h
  exact h
theorem check_implL (f : Fc) (S : Value) (l : List UInt8) (m : Int) (w : World) (hf : HasF w f S) (hV : validF f = true) (ht : vText l = true) (hm0 : 0 ≤ m ∧ m ≤ 4000) (hmx : MaxW w) (hsp : SpT w) (B : Option Addr) (d : Nat) (xs : List Int) (hk : xs.length ≤ 1048576) (hb : SlE i64 w B xs) :
    Calls Tryz.prog 18 #[.agg (fcV f S).toArray, .string ⟨l.toArray⟩, .int .i64 m, .slice B xs.length d] w fun e w' => e = .returned (.tuple #[.bool (rightB f (words l) m xs), .int .i64 0]) ∧ Below w.heap.size w w' := by
  obtain ⟨hft, A, n, c, rfl, hn, hm, hsl⟩ := hf
  have h := check_impl f A B n c d _ ⟨l.toArray⟩ m xs w hft hn (by omega) (size60 ht) rfl hk hsl hmx hsp hb
  exact h.mono fun e w' ⟨he, hw⟩ => ⟨he.trans (by rw [bs_mk, chkB_ok (ask0 hV ht hm0), ask0 hV ht hm0]), hw⟩
theorem check_specL (f : Fc) (S : Value) (l : List UInt8) (m : Int) (w : World) (hf : HasF w f S) (hV : validF f = true) (ht : vText l = true) (hm0 : 0 ≤ m ∧ m ≤ 4000) (B : Option Addr) (d : Nat) (xs : List Int) (hk : xs.length ≤ 1048576) (hb : SlE i64 w B xs) :
    Calls Tryz.prog 19 #[.agg (fcV f S).toArray, .string ⟨l.toArray⟩, .int .i64 m, .slice B xs.length d] w fun e w' => e = .returned (.tuple #[.bool (rightB f (words l) m xs), .int .i64 0]) ∧ Below w.heap.size w w' := by
  obtain ⟨hft, A, n, c, rfl, hn, hm, hsl⟩ := hf
  have h := check_spec f A B n c d _ ⟨l.toArray⟩ m xs w hft hn (by omega) (size60 ht) rfl hk hsl hb
  exact h.mono fun e w' ⟨he, hw⟩ => ⟨he.trans (by rw [bs_mk, chkB_ok (ask0 hV ht hm0), ask0 hV ht hm0]), hw⟩
theorem uneven_implL (f : Fc) (S : Value) (l : List UInt8) (m : Int) (w : World) (hf : HasF w f S) (hV : validF f = true) (ht : vText l = true) (hm0 : 0 ≤ m ∧ m ≤ 4000) (hmx : MaxW w) (hsp : SpT w) (B : Option Addr) (d : Nat) (xs : List Int) (hk : xs.length ≤ 1048576) (hb : SlE i64 w B xs) :
    Calls Tryz.prog 20 #[.agg (fcV f S).toArray, .string ⟨l.toArray⟩, .int .i64 m, .slice B xs.length d] w fun e w' => e = .returned (.tuple #[.int .i64 (unOut f l m xs).1, .int .i64 (unOut f l m xs).2]) ∧ Below w.heap.size w w' := by
  obtain ⟨hft, A, n, c, rfl, hn, hm, hsl⟩ := hf
  have h := uneven_impl f A B n c d _ ⟨l.toArray⟩ m xs w hft hn (by omega) (size60 ht) rfl hk hsl hmx hsp hb
  rw [bs_mk] at h
  exact h
theorem right_implL (f : Fc) (S : Value) (l : List UInt8) (m : Int) (w : World) (hf : HasF w f S) (hV : validF f = true) (ht : vText l = true) (hm0 : 0 ≤ m ∧ m ≤ 4000) (hmx : MaxW w) (hsp : SpT w) (B : Option Addr) (d : Nat) (xs : List Int) (hk : xs.length ≤ 1048576) (hb : SlE i64 w B xs) :
    Calls Tryz.prog 21 #[.agg (fcV f S).toArray, .string ⟨l.toArray⟩, .int .i64 m, .slice B xs.length d] w (WtOut w (rrOut f l m xs).1 (rrOut f l m xs).2) := by
  obtain ⟨hft, A, n, c, rfl, hn, hm, hsl⟩ := hf
  have h := right_impl f A B n c d _ ⟨l.toArray⟩ m xs w hft hn (by omega) (size60 ht) rfl hk hsl hmx hsp hb
  rw [bs_mk] at h
  exact h.mono fun e w' hh => lo_wt hh.out
theorem least_implL (f : Fc) (S : Value) (l : List UInt8) (k : Int) (w : World) (hf : HasF w f S) (hV : validF f = true) (ht : vText l = true) (hk0 : 1 ≤ k ∧ k ≤ 60) (hmx : MaxW w) (hsp : SpT w) :
    Calls Tryz.prog 24 #[.agg (fcV f S).toArray, .string ⟨l.toArray⟩, .int .i64 k] w fun e w' => ∃ r, (e = .returned (.tuple #[.int .i64 r, .int .i64 0]) ∧ LeAt f (words l) k r) ∧ Below w.heap.size w w' := by
  obtain ⟨hft, A, n, c, rfl, hn, hm, hsl⟩ := hf
  refine (least_impl f A n c ⟨l.toArray⟩ k w hft hn (by omega) (size60 ht) hsl hmx hsp).mono fun e w' ⟨r, cd, he, hr, hw⟩ => ?_
  rw [bs_mk] at hr
  obtain ⟨h1, h2⟩ := hr
  have h0 : cd = 0 := by rw [h1, askC_ok hV ht, inB_iff.2 hk0]; rfl
  subst h0
  rcases h2 with ⟨h2, _⟩ | ⟨_, h2⟩
  · exact absurd rfl h2
  · exact ⟨r, ⟨he, h2⟩, hw⟩
theorem least_specL (f : Fc) (S : Value) (l : List UInt8) (k : Int) (w : World) (hf : HasF w f S) (hV : validF f = true) (ht : vText l = true) (hk0 : 1 ≤ k ∧ k ≤ 60) :
    Calls Tryz.prog 25 #[.agg (fcV f S).toArray, .string ⟨l.toArray⟩, .int .i64 k] w fun e w' => ∃ r, (e = .returned (.tuple #[.int .i64 r, .int .i64 0]) ∧ LeAt f (words l) k r) ∧ Below w.heap.size w w' := by
  obtain ⟨hft, A, n, c, rfl, hn, hm, hsl⟩ := hf
  refine (least_spec f A n c ⟨l.toArray⟩ k w hft hn (by omega) (size60 ht) hsl).mono fun e w' ⟨r, cd, he, hr, hw⟩ => ?_
  rw [bs_mk] at hr
  obtain ⟨h1, h2⟩ := hr
  have h0 : cd = 0 := by rw [h1, askC_ok hV ht, inB_iff.2 hk0]; rfl
  subst h0
  rcases h2 with ⟨h2, _⟩ | ⟨_, h2⟩
  · exact absurd rfl h2
  · exact ⟨r, ⟨he, h2⟩, hw⟩
set_option maxHeartbeats 2000000 in
set_option maxRecDepth 100000 in
theorem wordsOf_impl (l : List UInt8) (w : World) (ht : vText l = true) (hmx : MaxW w) (hsp : SpT w) :
    Calls Tryz.prog 42 #[.string ⟨l.toArray⟩] w fun e w' => ∃ g, e = .returned (.tuple #[.slice (some ⟨g, 0, none⟩) (words l).length (words l).length, .int .i64 0]) ∧ Blk w' g 9 (wsV (words l)) ∧ Below w.heap.size w w' := by
  have HT := Lib.hid ht
  have HM := Lib.hid hmx
  have HP := Lib.hid hsp
  have h60 := size60 ht
  clear ht hmx hsp
  go_enter Tryz.func42, Tryz.ntmps42
  go_wp2_with (first
    | (go_at_call 66; refine (text_impl ⟨l.toArray⟩ _ h60 HM.out).mono ?_; rintro e w1 ⟨he, q, rfl⟩; rw [bs_mk, HT.out] at he; subst he; have hbq := below_drewN (Below.refl w.heap.size w) q)
    | (go_at_call 57; refine (fields_impl ⟨l.toArray⟩ _ HT.out (HP.out.next hbq)).mono ?_; rintro e w2 ⟨rfl, rfl⟩))
  go_ret2
  exact ⟨_, rfl, Blk.new (w.drewN q) 9 (wsV (words l)), hbq.trans ((below_one (w.drewN q) (.cells (wsV (words l)).toArray 9)).mono hbq.size)⟩
set_option maxHeartbeats 2000000 in
set_option maxRecDepth 100000 in
theorem linesOf_impl (l : List UInt8) (B : Option Addr) (d k : Nat) (xs : List Int) (w : World) (ht : vText l = true) (hx : xs.length = k) (hk : k ≤ 1048576) (htl : told (words l).length xs = true) (hb : SlE i64 w B xs) (hmx : MaxW w) (hsp : SpT w) :
    Calls Tryz.prog 22 #[.string ⟨l.toArray⟩, .slice B k d] w fun e w' => ∃ A c, (e = .returned (.tuple #[.slice A (k + 1) c, .int .i64 0]) ∧ SlE sv w' A (jnsL (words l) xs (k + 1))) ∧ Below w.heap.size w w' := by
  have HT := Lib.hid ht
  have HM := Lib.hid hmx
  have HP := Lib.hid hsp
  have HX := Lib.hid hx
  have HTL := Lib.hid htl
  have HB := Lib.hid hb
  have hcnt := words_count ht
  clear ht hmx hsp hx htl hb
  go_enter Tryz.func22, Tryz.ntmps22
  go_wp2_with (first
    | (go_at_call 42; refine (wordsOf_impl l _ HT.out HM.out HP.out).mono ?_; rintro e w1 ⟨g, rfl, hg, hb1⟩; have HG := Lib.hid hg; have HB1 := Lib.hid (HB.out.next hb1); clear hg)
    | (go_at_call 43; refine (told_impl (words l).length B d xs k _ hcnt HX.out hk HB1.out).mono ?_; rintro e _ ⟨he, rfl⟩; rw [HTL.out] at he; subst he)
    | (go_at_call 44; refine (lines_impl B g d (words l) xs k _ (ws_words HT.out) (cut_len HT.out) HX.out HTL.out HG.out HB1.out).mono ?_; rintro e w2 ⟨v, rfl, ho, hb2⟩))
  obtain ⟨A2, c2, rfl, hl2, -, hs2⟩ := SlE_own ho
  rw [jnsL_length] at *
  go_ret2
  exact ⟨A2, c2, ⟨rfl, hs2⟩, below_step hb1 hb2⟩
end Go.Proofs.YtdhngjjfoddnkaaGreatDoor
namespace Go.Proofs.YtdhngjjfoddnkaaGreatDoor
open Go Go.RowKit
set_option linter.unusedVariables false
set_option linter.unusedSimpArgs false

theorem pow60 {n : Nat} (h : n ≤ 60) : 1 ≤ 2 ^ n ∧ 2 ^ n ≤ 1152921504606846976 := by
  have h1 : 0 < 2 ^ n := Nat.pow_pos (by decide)
  have h2 : 2 ^ n ≤ 2 ^ 60 := Nat.pow_le_pow_right (by decide) h
  have h3 : (2 : Nat) ^ 60 = 1152921504606846976 := by decide
  omega
/-- '1 << n'. -/
theorem exec_shl {o : Oper} {a : Act} {w : World} (x y : Operand) (ho : o.op = .binOp .shl 2 x y 43) (n p : Nat) (hx : a.eval x = .int .i64 1) (hy : a.eval y = .int .u64 (n : Int)) (hn : n ≤ 60) (hp : p = 2 ^ n) :
    (execOp a.eval o).run Tryz.prog w = .ok (.value (.int .i64 (p : Int))) w := by
  have h1 := pow60 hn
  have hw : IntKind.i64.wrap (1 * 2 ^ (min (n : Int).toNat IntKind.i64.bits)) = (p : Int) := by
    have e : min (n : Int).toNat IntKind.i64.bits = n := by show min (n : Int).toNat 64 = n; omega
    have e2 : (1 : Int) * 2 ^ n = (p : Int) := by rw [hp]; push_cast; omega
    rw [e, e2]
    exact IntWalk.i64_in _ (by omega)
  have hneg : ¬ (n : Int) < 0 := by omega
  unfold execOp
  simp only [ho, hx, hy]
  go_simp
  have e : ((2 ^ n : Nat) : Int) = 2 ^ n := by push_cast; rfl
  rw [← e]
  exact IntWalk.i64_in _ (by omega)
/-- 's >> n'. -/
theorem exec_shr {o : Oper} {a : Act} {w : World} (x y : Operand) (ho : o.op = .binOp .shr 2 x y 43) (s n q : Nat) (hx : a.eval x = .int .i64 (s : Int)) (hy : a.eval y = .int .u64 (n : Int)) (hn : n ≤ 60) (hq : q = s / 2 ^ n) :
    (execOp a.eval o).run Tryz.prog w = .ok (.value (.int .i64 (q : Int))) w := by
  have hw : (s : Int).fdiv (2 ^ (min (n : Int).toNat IntKind.i64.bits)) = (q : Int) := by
    have e : min (n : Int).toNat IntKind.i64.bits = n := by show min (n : Int).toNat 64 = n; omega
    rw [e, Int.fdiv_eq_ediv_of_nonneg _ (by exact Int.le_of_lt (Int.pow_pos (by decide))), hq]
    push_cast; rfl
  have hneg : ¬ (n : Int) < 0 := by omega
  unfold execOp
  simp only [ho, hx, hy]
  go_simp
theorem bit_eq (s j : Nat) : (((s / 2 ^ j % 2 : Nat) : Int) == 1) = s.testBit j := by
  rw [Nat.testBit_eq_decide_div_mod_eq, Bool.eq_iff_iff, beq_iff_eq, decide_eq_true_iff]
  omega
/-- All that is answered about a face, a text and a width. -/
structure BrV (f : Fc) (ws : List (List UInt8)) (m : Int) (gl : List Int) (c1 : Int) (bl : List Int) (low many short : Int) : Prop where
  cs : (fits f ws m = true ∧ c1 = 0 ∧ gl = (grd f ws m ws.length).1 ∧ bl = (top f ws m).b ∧ low = (top f ws m).u ∧ short = (gl.length : Int) + 1) ∨ (fits f ws m = false ∧ c1 = 6 ∧ gl = [] ∧ bl = [] ∧ low = 0 ∧ short = 0)
  mn : many = (top f ws m).c
  vF : FcV f
  wW : Ws ws
theorem brv_mk {f : Fc} {l : List UInt8} {m : Int} (hV : validF f = true) (ht : vText l = true) (hm0 : 0 ≤ m ∧ m ≤ 4000) :
    BrV f (words l) m (brkOut f l m).1 (brkOut f l m).2 (bstOut f l m).1 (bstOut f l m).2.1 (cntOut f l m).1 (fewOut f l m).1 ∧ (bstOut f l m).2.2 = (brkOut f l m).2 ∧ (fewOut f l m).2 = (brkOut f l m).2 ∧ (cntOut f l m).2 = 0 := by
  have h0 := ask0 hV ht hm0
  have hf := brk_code f l m
  cases k : fits f (words l) m
  · have e1 := brkOut_bad h0 k
    have e2 : fndC f l m = 6 := fndC_bad h0 k
    have e3 := bstOut_no (f := f) (l := l) (m := m) (by rw [e2]; decide)
    have e4 := fewOut_no (f := f) (l := l) (m := m) (by rw [e1]; decide)
    refine ⟨⟨.inr ⟨k, by rw [e1], by rw [e1], by rw [e3], by rw [e3], by rw [e4]⟩, by rw [cntOut_ok h0], validF_iff.1 hV, ws_words ht⟩, by rw [e3, e2, e1], by rw [e4, e1], by rw [cntOut_ok h0]⟩
  · have e1 := brkOut_ok h0 k
    have e2 : fndC f l m = 0 := fndC_ok h0 k
    have e3 := bstOut_ok e2
    have e4 := fewOut_ok (f := f) (l := l) (m := m) (by rw [e1])
    refine ⟨⟨.inl ⟨k, by rw [e1], by rw [e1], by rw [e3], by rw [e3], by rw [e4]⟩, by rw [cntOut_ok h0], validF_iff.1 hV, ws_words ht⟩, by rw [e3, e1], by rw [e4, e1], by rw [cntOut_ok h0]⟩
section
variable {f : Fc} {ws : List (List UInt8)} {m : Int} {gl : List Int} {c1 : Int} {bl : List Int} {low many short : Int}
theorem BrV.code (h : BrV f ws m gl c1 bl low many short) : c1 = 0 ∨ c1 = 6 := by
  rcases h.cs with h | h
  · exact .inl h.2.1
  · exact .inr h.2.1
theorem BrV.none (h : BrV f ws m gl c1 bl low many short) (hm : m ≤ 4000) : many = 0 ↔ c1 = 6 := by
  have hf := top_fits h.vF h.wW hm
  rw [h.mn]
  rcases h.cs with ⟨a, b, _⟩ | ⟨a, b, _⟩
  · have := hf.1 a
    constructor
    · intro e; exact absurd e this
    · intro e; omega
  · constructor
    · intro _; exact b
    · intro _
      rcases Decidable.em ((top f ws m).c = 0) with e | e
      · exact e
      · have := hf.2 e; rw [a] at this; cases this
theorem BrV.lens (h : BrV f ws m gl c1 bl low many short) (hm : m ≤ 4000) : gl.length ≤ 60 ∧ bl.length ≤ 60 := by
  have h1 := (grd_range f ws m ws.length).2
  have h2 := h.wW.many
  have h3 := top_len h.vF h.wW hm
  rcases h.cs with ⟨_, _, e1, e2, _⟩ | ⟨_, _, e1, e2, _⟩
  · rw [e1, e2]; omega
  · rw [e1, e2]; simp
/-- Breaks of a number that are right: what the law asks of them. -/
theorem BrV.right (h : BrV f ws m gl c1 bl low many short) (hm : m ≤ 4000) (hN : 0 < ws.length) {s : Nat} {ow : List Int} (ho : ow = ownN ws.length s) (hr : rightB f ws m ow = true) :
    c1 = 0 ∧ low ≤ usq (lefts f ws m ow (ow.length + 1)) ow.length ∧ short - 1 ≤ (ow.length : Int) ∧ (ow = bl → usq (lefts f ws m ow (ow.length + 1)) ow.length = low) := by
  subst ho
  have hg := br_good h.vF h.wW hm hN s hr
  rcases h.cs with ⟨a, b, e1, e2, e3, e4⟩ | ⟨a, _⟩
  · refine ⟨b, by rw [e3]; exact hg.low, ?_, fun e => by rw [e3]; exact hg.same (by rw [e, e2])⟩
    have := hg.few
    rw [e4, e1]; omega
  · have := hg.fit; rw [a] at this; cases this
end
theorem few_at {f : Fc} {l : List UInt8} {r : Int} (hV : validF f = true) (ht : vText l = true) (hr : 0 ≤ r ∧ r ≤ 4000) : fewOut f l r = if fits f (words l) r then (((grd f (words l) r (words l).length).1.length : Int) + 1, 0) else (0, 6) := by
  have h0 := ask0 hV ht hr
  cases k : fits f (words l) r
  · have e1 := brkOut_bad h0 k
    rw [fewOut_no (by rw [e1]; decide), e1]; rfl
  · have e1 := brkOut_ok h0 k
    rw [fewOut_ok (by rw [e1]), e1]; rfl
/-- The lines of words. -/
theorem line_text {l : List UInt8} (ht : vText l = true) (a b : Nat) : vText (joinW (cutW (words l) a b)) = true :=
  (vText_join _ _ rfl (fun x hx => words_isW ht x (cutW_mem hx)) (cut_len ht a b)).1
theorem rdW_jns {ws : List (List UInt8)} {xs : List Int} {k i : Nat} (h : i < k) : rdW (jnsL ws xs k) i = jnL ws xs i := by
  unfold rdW
  rw [List.getD, jnsL_at h]; rfl
theorem ownN_len (N s : Nat) : (ownN N s).length ≤ N - 1 := ownO_length 1 s (N - 1)
end Go.Proofs.YtdhngjjfoddnkaaGreatDoor
