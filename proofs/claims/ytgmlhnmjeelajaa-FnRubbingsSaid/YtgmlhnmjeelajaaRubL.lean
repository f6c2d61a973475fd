/- What the law of rubbings asks of them, plain: texts that are read, mirrors, rows, best moves, moves there and back. No walk here. -/
import Derived.Test.YtgmlhnmjeelajaaRubJ
import Derived.Test.YtgmlhnmjeelajaaRubK
import Derived.Test.YtgmlhnmjeelajaaReadP

namespace Go.Proofs.Ytgmlhnmjeelajaa
open Go Go.RowKit
set_option linter.unusedVariables false
set_option linter.unusedSimpArgs false

/-! ### A text is read again -/
theorem readR_text (r : List Nat) (hr : r.length = 8) (hx : ∀ k, rdN r k < 65536) : readR (strI (rowsC r 8)) = r := by
  refine ext8 (readR_length _) hr fun y hy => ?_
  rw [rdN_readR _ y hy]
  refine eq_of_bits (k := 16) (bitsN_lt _ _) (hx y) fun x hxx => ?_
  rw [testBit_bitsN, decide_eq_true hxx, Bool.true_and]
  unfold markP
  have hsz : (strI (rowsC r 8)).size = 136 := by rw [strI_size, rowsC_length]
  rw [hsz, decide_eq_true (show 17 * y + x < 136 by omega), Bool.true_and]
  have hat := rowsC_at r 8 y x hy (by omega)
  rw [if_pos hxx] at hat
  have hb : rdB (strI (rowsC r 8)) (17 * y + x) = dotC (dk r x y) := by
    unfold rdB
    rw [strI_list, List.getD_eq_getElem?_getD, List.getElem?_map, hat]
    show (((UInt8.ofNat (dotC (dk r x y)).toNat).toNat : Nat) : Int) = _
    cases dk r x y <;> rfl
  rw [hb, dkT_in r y x hy hxx]
  cases (rdN r y).testBit x <;> rfl
theorem readOut_text (r : List Nat) (hr : r.length = 8) (hx : ∀ k, rdN r k < 65536) : readOut (strI (rowsC r 8)) = (r, 0) := by
  have e := readR_text r hr hx
  have h : okS (strI (rowsC r 8)) = true := by unfold okS; rw [e]; exact beq_self_eq_true _
  unfold readOut
  rw [if_pos h, e]

/-! ### Mirrors -/
theorem mirR_mirR (r : List Nat) (hr : r.length = 8) (hx : ∀ k, rdN r k < 65536) : mirR (mirR r) = r := by
  have h : mirR (mirR r) = gridR (fun y => (rdN r y).testBit) := by
    refine gridR_congr fun y x hy hxx => ?_
    unfold mirR
    rw [rdN_gridR _ y hy, testBit_bitsN, decide_eq_true (show 15 - x < 16 by omega), Bool.true_and]
    congr 1; omega
  rw [h, grid_of r hr hx]
theorem sumN_head (f : Nat → Nat) : ∀ n, sumN f (n + 1) = f 0 + sumN (fun i => f (i + 1)) n
  | 0 => by simp [sumN]
  | n + 1 => by rw [sumN, sumN_head f n, sumN]; omega
theorem sumN_rev (f : Nat → Nat) : ∀ n, sumN (fun i => f (n - 1 - i)) n = sumN f n
  | 0 => rfl
  | n + 1 => by
    rw [sumN_head, sumN]
    have h : sumN (fun i => f (n + 1 - 1 - (i + 1))) n = sumN (fun i => f (n - 1 - i)) n := sumN_congr fun i hi => by congr 1; omega
    rw [h, sumN_rev f n]
    show f n + _ = _
    omega
theorem countN_mirR (r : List Nat) : countN (mirR r) = countN r := by
  rw [countN_eq, countN_eq]
  refine sumN_congr fun y hy => ?_
  unfold cnt
  rw [← sumN_rev (fun x => if (rdN r y).testBit x then 1 else 0) 16]
  refine sumN_congr fun x hx => ?_
  unfold mirR
  rw [rdN_gridR _ y hy, testBit_bitsN, decide_eq_true hx, Bool.true_and]
theorem mirR_length (r : List Nat) : (mirR r).length = 8 := gridR_length _
theorem mirR_lt (r : List Nat) : ∀ k, rdN (mirR r) k < 65536 := gridR_lt _
theorem andR_self (r : List Nat) (hr : r.length = 8) : andR r r = r := ext8 (andR_length _ _) hr fun y hy => by rw [rdN_andR _ _ y hy, Nat.and_self]

/-! ### Rows -/
theorem sumN_zero {f : Nat → Nat} {n : Nat} (h : ∀ i, i < n → f i = 0) : sumN f n = 0 := by
  induction n with
  | zero => rfl
  | succ n ih => rw [sumN, ih (fun i hi => h i (by omega)), h n (by omega)]
theorem sumN_zero_all {f : Nat → Nat} : ∀ {n : Nat}, sumN f n = 0 → ∀ i, i < n → f i = 0
  | 0, _, i, hi => absurd hi (Nat.not_lt_zero _)
  | n + 1, h, i, hi => by
    rw [sumN] at h
    by_cases e : i = n
    · subst e; omega
    · exact sumN_zero_all (n := n) (by omega) i (by omega)
theorem rowN_zero (r : List Nat) (hx : ∀ k, rdN r k < 65536) (y : Nat) (hy : y < 8) : (((rowN r (y : Int) : Nat) : Int) == 0) = (((rdN r y : Nat) : Int) == 0) := by
  rw [rowN_bits r y hy, Bool.eq_iff_iff]
  simp only [beq_iff_eq, Int.natCast_eq_zero]
  constructor
  · intro h
    refine eq_of_bits (k := 16) (hx y) (by omega) fun x hxx => ?_
    have := sumN_zero_all h x hxx
    rw [Nat.zero_testBit]
    cases hb : (rdN r y).testBit x
    · rfl
    · rw [hb] at this; simp at this
  · intro h
    unfold cnt
    exact sumN_zero fun i hi => by rw [h]; simp

/-! ### Moves there and back -/
theorem sumN_mon2 {f g : Nat → Nat} {n : Nat} (h : ∀ i, i < n → f i ≤ g i) : sumN f n ≤ sumN g n := by
  induction n with
  | zero => exact Nat.le_refl _
  | succ n ih => rw [sumN, sumN]; have := ih (fun i hi => h i (by omega)); have := h n (by omega); omega
theorem sumN_tight {f g : Nat → Nat} : ∀ {n : Nat}, (∀ i, i < n → f i ≤ g i) → sumN f n = sumN g n → ∀ i, i < n → f i = g i
  | 0, _, _, i, hi => absurd hi (Nat.not_lt_zero _)
  | n + 1, h, e, i, hi => by
    have h1 := sumN_mon2 (n := n) (fun i hi => h i (by omega))
    have h2 := h n (by omega)
    rw [sumN, sumN] at e
    by_cases hin : i = n
    · subst hin; omega
    · exact sumN_tight (n := n) (fun i hi => h i (by omega)) (by omega) i (by omega)
theorem sumN_cat (f : Nat → Nat) (a : Nat) : ∀ b, sumN f (a + b) = sumN f a + sumN (fun i => f (a + i)) b
  | 0 => rfl
  | b + 1 => by rw [← Nat.add_assoc, sumN, sumN_cat f a b, sumN]; omega
/-- A sum that is shifted, of what lies within. -/
theorem sumN_shift (h : Int → Nat) (n : Nat) (d : Int) (hd : d.natAbs ≤ n) (hz : ∀ i : Int, ¬ (0 ≤ i ∧ i < n) → h i = 0) :
    sumN (fun i => h ((i : Int) - d)) n = sumN (fun i => if 0 ≤ (i : Int) + d ∧ (i : Int) + d < n then h i else 0) n := by
  by_cases hs : 0 ≤ d
  · obtain ⟨e, rfl⟩ := Int.eq_ofNat_of_zero_le hs
    have hn : n = e + (n - e) := by omega
    have h1 : sumN (fun i => h ((i : Int) - (e : Int))) n = sumN (fun i => h (i : Int)) (n - e) := by
      rw [hn, sumN_cat, sumN_zero (fun i hi => hz _ (by omega)), Nat.zero_add, show e + (n - e) - e = n - e by omega]
      exact sumN_congr fun i hi => by congr 1; omega
    have hn2 : n = (n - e) + e := by omega
    have h2 : sumN (fun i => if 0 ≤ (i : Int) + (e : Int) ∧ (i : Int) + (e : Int) < n then h i else 0) n = sumN (fun i => h (i : Int)) (n - e) := by
      have hz2 : sumN (fun i => (fun i : Nat => if 0 ≤ (i : Int) + (e : Int) ∧ (i : Int) + (e : Int) < n then h i else 0) ((n - e) + i)) e = 0 := sumN_zero fun i hi => by
        show (if 0 ≤ (((n - e) + i : Nat) : Int) + (e : Int) ∧ (((n - e) + i : Nat) : Int) + (e : Int) < n then _ else 0) = 0
        rw [if_neg (by omega)]
      have := sumN_cat (fun i : Nat => if 0 ≤ (i : Int) + (e : Int) ∧ (i : Int) + (e : Int) < n then h i else 0) (n - e) e
      rw [← hn2, hz2, Nat.add_zero] at this
      rw [this]
      exact sumN_congr fun i hi => by show (if 0 ≤ (i : Int) + (e : Int) ∧ (i : Int) + (e : Int) < n then h i else 0) = h i; rw [if_pos (by omega)]
    rw [h1, h2]
  · obtain ⟨e, he⟩ : ∃ e : Nat, d = -(e : Int) := ⟨d.natAbs, by omega⟩
    subst he
    have hen : e ≤ n := by omega
    have hn : n = (n - e) + e := by omega
    have hn2 : n = e + (n - e) := by omega
    have h1 : sumN (fun i => h ((i : Int) - -(e : Int))) n = sumN (fun i => h (((e + i : Nat) : Int))) (n - e) := by
      have hz2 : sumN (fun i => (fun i : Nat => h ((i : Int) - -(e : Int))) ((n - e) + i)) e = 0 := sumN_zero fun i hi => hz _ (by omega)
      have := sumN_cat (fun i : Nat => h ((i : Int) - -(e : Int))) (n - e) e
      rw [← hn, hz2, Nat.add_zero] at this
      rw [this]
      exact sumN_congr fun i hi => by show h ((i : Int) - -(e : Int)) = _; congr 1; omega
    have h2 : sumN (fun i => if 0 ≤ (i : Int) + -(e : Int) ∧ (i : Int) + -(e : Int) < n then h i else 0) n = sumN (fun i => h (((e + i : Nat) : Int))) (n - e) := by
      have hz2 : sumN (fun i : Nat => if 0 ≤ (i : Int) + -(e : Int) ∧ (i : Int) + -(e : Int) < n then h i else 0) e = 0 := sumN_zero fun i hi => if_neg (by omega)
      have := sumN_cat (fun i : Nat => if 0 ≤ (i : Int) + -(e : Int) ∧ (i : Int) + -(e : Int) < n then h i else 0) e (n - e)
      rw [← hn2, hz2, Nat.zero_add] at this
      rw [this]
      exact sumN_congr fun i hi => by
        show (if 0 ≤ (((e + i : Nat) : Int)) + -(e : Int) ∧ (((e + i : Nat) : Int)) + -(e : Int) < n then h _ else 0) = _
        rw [if_pos (by omega)]
    rw [h1, h2]
def dkN (r : List Nat) (x y : Int) : Nat := if dk r x y = true then 1 else 0
theorem dkN_out {r : List Nat} {x y : Int} (h : ¬ (0 ≤ x ∧ x ≤ 15 ∧ 0 ≤ y ∧ y ≤ 7)) : dkN r x y = 0 := by
  unfold dkN dk
  rw [decide_eq_false h]; rfl
theorem countN_dk (r : List Nat) : countN r = sumN (fun y => sumN (fun x => dkN r x y) 16) 8 := rfl
theorem dk_movR (r : List Nat) (dx dy : Int) (x y : Nat) (hx : x < 16) (hy : y < 8) : dk (movR r dx dy) x y = dk r ((x : Int) - dx) ((y : Int) - dy) := by
  rw [dkT_in _ y x hy hx]
  unfold movR
  rw [rdN_gridR _ y hy, testBit_bitsN, decide_eq_true hx, Bool.true_and]
theorem dk_movR_any (r : List Nat) (dx dy x y : Int) : dk (movR r dx dy) x y = (decide (0 ≤ x ∧ x ≤ 15 ∧ 0 ≤ y ∧ y ≤ 7) && dk r (x - dx) (y - dy)) := by
  by_cases h : 0 ≤ x ∧ x ≤ 15 ∧ 0 ≤ y ∧ y ≤ 7
  · obtain ⟨a, rfl⟩ := Int.eq_ofNat_of_zero_le h.1
    obtain ⟨b, rfl⟩ := Int.eq_ofNat_of_zero_le h.2.2.1
    rw [decide_eq_true h, Bool.true_and]
    exact dk_movR r dx dy a b (by omega) (by omega)
  · rw [decide_eq_false h, Bool.false_and]
    unfold dk
    rw [decide_eq_false h, Bool.false_and]
/-- Moved there and back: what fell out is gone. -/
theorem dk_back (r : List Nat) (dx dy x y : Int) (h : 0 ≤ x ∧ x ≤ 15 ∧ 0 ≤ y ∧ y ≤ 7) : dk (movR (movR r dx dy) (-dx) (-dy)) x y = (decide (0 ≤ x + dx ∧ x + dx ≤ 15 ∧ 0 ≤ y + dy ∧ y + dy ≤ 7) && dk r x y) := by
  rw [dk_movR_any, decide_eq_true h, Bool.true_and, dk_movR_any]
  have e1 : x - -dx = x + dx := by omega
  have e2 : y - -dy = y + dy := by omega
  rw [e1, e2]
  congr 2 <;> omega
theorem countN_back (r : List Nat) (dx dy : Int) (hx : -5 ≤ dx ∧ dx ≤ 5) (hy : -5 ≤ dy ∧ dy ≤ 5) : countN (movR r dx dy) = countN (movR (movR r dx dy) (-dx) (-dy)) := by
  rw [countN_dk, countN_dk]
  have h1 : sumN (fun y => sumN (fun x => dkN (movR r dx dy) x y) 16) 8 = sumN (fun y => (fun Y : Int => sumN (fun x => dkN r ((x : Int) - dx) Y) 16) ((y : Int) - dy)) 8 := by
    refine sumN_congr fun y hy => sumN_congr fun x hx => ?_
    unfold dkN
    rw [dk_movR r dx dy x y hx hy]
  rw [h1, sumN_shift (fun Y : Int => sumN (fun x => dkN r ((x : Int) - dx) Y) 16) 8 dy (by omega) (fun i hi => sumN_zero fun x hx => dkN_out (by omega))]
  refine sumN_congr fun y hy => ?_
  have h2 : sumN (fun x => dkN (movR (movR r dx dy) (-dx) (-dy)) x y) 16 = sumN (fun x => if 0 ≤ (y : Int) + dy ∧ (y : Int) + dy < 8 then (if 0 ≤ (x : Int) + dx ∧ (x : Int) + dx < 16 then dkN r x y else 0) else 0) 16 := by
    refine sumN_congr fun x hx => ?_
    unfold dkN
    rw [dk_back r dx dy x y (by omega)]
    by_cases a1 : 0 ≤ (y : Int) + dy ∧ (y : Int) + dy < 8
    · by_cases a2 : 0 ≤ (x : Int) + dx ∧ (x : Int) + dx < 16
      · rw [if_pos a1, if_pos a2, decide_eq_true (by omega), Bool.true_and]
      · rw [if_pos a1, if_neg a2, decide_eq_false (by omega)]; rfl
    · rw [if_neg a1, decide_eq_false (by omega)]; rfl
  rw [h2]
  by_cases a1 : 0 ≤ (y : Int) + dy ∧ (y : Int) + dy < 8
  · have e : ∀ x : Nat, (if 0 ≤ (y : Int) + dy ∧ (y : Int) + dy < 8 then (if 0 ≤ (x : Int) + dx ∧ (x : Int) + dx < 16 then dkN r x y else 0) else 0) = (if 0 ≤ (x : Int) + dx ∧ (x : Int) + dx < ((16 : Nat) : Int) then (fun X : Int => dkN r X y) x else 0) := fun x => by rw [if_pos a1]; rfl
    rw [if_pos (show 0 ≤ (y : Int) + dy ∧ (y : Int) + dy < ((8 : Nat) : Int) from a1), sumN_congr (fun x _ => e x)]
    exact sumN_shift (fun X : Int => dkN r X y) 16 dx (by omega) (fun i hi => dkN_out (by omega))
  · rw [if_neg (show ¬ (0 ≤ (y : Int) + dy ∧ (y : Int) + dy < ((8 : Nat) : Int)) from a1)]
    exact (sumN_zero fun x hx => if_neg a1).symm
theorem back_le (r : List Nat) (dx dy : Int) (x y : Nat) (hx : x < 16) (hy : y < 8) : dkN (movR (movR r dx dy) (-dx) (-dy)) x y ≤ dkN r x y := by
  unfold dkN
  rw [dk_back r dx dy x y (by omega)]
  cases dk r x y
  · rw [Bool.and_false]; simp
  · simp; split <;> simp
theorem worn_back (r : List Nat) (dx dy : Int) : wornB r (movR (movR r dx dy) (-dx) (-dy)) = true := by
  refine wornB_true fun j hj i hi h => ?_
  rw [← dkT_in _ j i hj hi, dk_back r dx dy i j (by omega), Bool.and_eq_true] at h
  rw [← dkT_in r j i hj hi]; exact h.2
theorem count_back_le (r : List Nat) (dx dy : Int) (hx : -5 ≤ dx ∧ dx ≤ 5) (hy : -5 ≤ dy ∧ dy ≤ 5) : countN (movR r dx dy) ≤ countN r := by
  rw [countN_back r dx dy hx hy, countN_dk, countN_dk]
  exact sumN_mon2 fun y hy => sumN_mon2 fun x hx => back_le r dx dy x y hx hy
theorem back_same (r : List Nat) (hr : r.length = 8) (hlt : ∀ k, rdN r k < 65536) (dx dy : Int) (hx : -5 ≤ dx ∧ dx ≤ 5) (hy : -5 ≤ dy ∧ dy ≤ 5) (h : countN (movR r dx dy) = countN r) : movR (movR r dx dy) (-dx) (-dy) = r := by
  rw [countN_back r dx dy hx hy, countN_dk, countN_dk] at h
  have h1 := sumN_tight (fun y hy => sumN_mon2 fun x hx => back_le r dx dy x y hx hy) h
  refine ext8 (movR_length _ _ _) hr fun y hy => ?_
  have h2 := sumN_tight (fun x hx => back_le r dx dy x y hx hy) (h1 y hy)
  refine eq_of_bits (k := 16) (gridR_lt _ y) (hlt y) fun x hxx => ?_
  have h3 := h2 x hxx
  rw [← dkT_in _ y x hy hxx, ← dkT_in r y x hy hxx]
  unfold dkN at h3
  revert h3
  cases dk (movR (movR r dx dy) (-dx) (-dy)) x y <;> cases dk r x y <;> simp

/-! ### No move matches better -/
theorem best_law (a b : List Nat) (x y : Int) (hx : -5 ≤ x ∧ x ≤ 5) (hy : -5 ≤ y ∧ y ≤ 5) :
    (atN a b x y : Int) ≤ bestM a b ∧ (x = bestX a b ∧ y = bestY a b → (atN a b x y : Int) = bestM a b) ∧
      ((atN a b x y : Int) = bestM a b → ¬ (x = bestX a b ∧ y = bestY a b) → (bestX a b).natAbs + (bestY a b).natAbs < x.natAbs + y.natAbs ∨ ((bestX a b).natAbs + (bestY a b).natAbs = x.natAbs + y.natAbs ∧ (bestY a b < y ∨ (bestY a b = y ∧ bestX a b < x)))) := by
  obtain ⟨p, hp⟩ : ∃ p : Nat, x = (p : Int) - 5 := ⟨(x + 5).toNat, by omega⟩
  obtain ⟨q, hq⟩ : ∃ q : Nat, y = (q : Int) - 5 := ⟨(y + 5).toNat, by omega⟩
  obtain ⟨j, hj⟩ : ∃ j, j = 11 * q + p := ⟨_, rfl⟩
  have hx' : mvx j = x := by unfold mvx; omega
  have hy' : mvy j = y := by unfold mvy; omega
  have hjl : j < 121 := by omega
  obtain ⟨h1, h2⟩ := bestI_best (n := mvN a b) (far := mvFar) 120
  obtain ⟨c, hc⟩ : ∃ c, c = bestI (mvN a b) mvFar (120 + 1) := ⟨_, rfl⟩
  rw [← hc] at h1 h2
  have eX : bestX a b = mvx c := by rw [hc]; rfl
  have eY : bestY a b = mvy c := by rw [hc]; rfl
  have eM : bestM a b = (mvN a b c : Int) := by rw [hc]; rfl
  have ej : atN a b x y = mvN a b j := by unfold mvN; rw [hx', hy']
  rw [eX, eY, eM, ej]
  have hm : ∀ i, i < 121 → mvx i = mvx c → mvy i = mvy c → i = c := by
    intro i hi e1 e2
    unfold mvx at e1
    unfold mvy at e2
    omega
  by_cases e : j = c
  · subst e
    refine ⟨Int.le_refl _, fun _ => rfl, fun _ hne => absurd ⟨hx'.symm, hy'.symm⟩ hne⟩
  · have ha := h2 j (by omega) e
    unfold Ahead at ha
    have hf : mvFar c = (mvx c).natAbs + (mvy c).natAbs := rfl
    have hfj : mvFar j = x.natAbs + y.natAbs := by unfold mvFar; rw [hx', hy']
    refine ⟨by omega, fun hh => absurd (hm j hjl (by omega) (by omega)) e, fun heq _ => ?_⟩
    have hn : mvN a b c = mvN a b j := by omega
    rw [hf, hfj] at ha
    have hcj : c < j → (mvy c < y ∨ (mvy c = y ∧ mvx c < x)) := by
      intro h
      rw [← hx', ← hy']
      unfold mvx mvy
      omega
    omega
end Go.Proofs.Ytgmlhnmjeelajaa
