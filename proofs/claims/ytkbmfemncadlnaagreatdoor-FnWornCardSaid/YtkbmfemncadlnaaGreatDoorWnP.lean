/- The law of what is worn, its plain part: rubbings that wear, are joined, and are sure. No walk here. -/
import Derived.Test.YtkbmfemncadlnaaGreatDoorGM
import Derived.Test.YtkbmfemncadlnaaGreatDoorJoinC
namespace Go.Proofs.YtkbmfemncadlnaaGreatDoor
open Go Go.RowKit
set_option linter.unusedVariables false
set_option linter.unusedSimpArgs false

theorem wornB_iff {a b : List Nat} : wornB a b = true ↔ ∀ y x, y < 8 → x < 16 → (rdN b y).testBit x = true → (rdN a y).testBit x = true := by
  unfold wornB
  rw [List.all_eq_true]
  constructor
  · intro h y x hy hx hb
    have h1 := h y (List.mem_range.2 hy)
    rw [List.all_eq_true] at h1
    have h2 := h1 x (List.mem_range.2 hx)
    rw [hb] at h2
    simpa using h2
  · intro h y hy
    rw [List.all_eq_true]
    intro x hx
    cases hb : (rdN b y).testBit x
    · rfl
    · rw [h y x (List.mem_range.1 hy) (List.mem_range.1 hx) hb]; rfl
theorem bit_gridR (p : Nat → Nat → Bool) (y x : Nat) (hy : y < 8) (hx : x < 16) : (rdN (gridR p) y).testBit x = p y x := by
  unfold gridR rdN
  rw [List.getD_eq_getElem?_getD, List.getElem?_map, List.getElem?_range hy]
  simp only [Option.map_some, Option.getD_some]
  rw [testBit_bitsN]
  simp [hx]
/-- Rubbings with the same dots. -/
theorem rub_ext {a b : List Nat} (ha : a.length = 8) (hb : b.length = 8) (xa : ∀ k, rdN a k < 65536) (xb : ∀ k, rdN b k < 65536) (h : ∀ y x, y < 8 → x < 16 → (rdN a y).testBit x = (rdN b y).testBit x) : a = b :=
  ext8 ha hb fun y hy => eq_of_bits (k := 16) (xa y) (xb y) fun x hx => h y x hy hx
theorem worn_wear (r : List Nat) (need : Int) : wornB r (wearR r need) = true := by
  rw [wornB_iff]
  intro y x hy hx h
  unfold wearR at h
  rw [bit_gridR _ y x hy hx] at h
  unfold stays at h
  rw [Bool.and_eq_true, dk_in r x y hx hy] at h
  exact h.1
theorem cnt_pos {p : Nat → Bool} {n t : Nat} (ht : t < n) (h : p t = true) : 1 ≤ cnt p n := by
  induction n with
  | zero => omega
  | succ n ih =>
    by_cases e : t = n
    · subst e; rw [cnt_yes h]; omega
    · have := ih (by omega)
      cases hp : p n
      · rw [cnt_no hp]; exact this
      · rw [cnt_yes hp]; omega
theorem wear_zero (r : List Nat) (hr : r.length = 8) (hx : ∀ k, rdN r k < 65536) : wearR r 0 = r := by
  refine rub_ext (wearR_length r 0) hr (gridR_lt _) hx fun y x hy hx => ?_
  unfold wearR
  rw [bit_gridR _ y x hy hx]
  unfold stays
  rw [dk_in r x y hx hy]
  cases hb : (rdN r y).testBit x
  · rfl
  · have h4 : nbK r y x 4 = true := by
      have := nbK_at r y x 1 1 (by omega)
      rw [show 3 * 1 + 1 = 4 by rfl] at this
      rw [this]
      have e1 : ((x : Int) + (((1 : Nat) : Int) - 1)) = (x : Int) := by omega
      have e2 : ((y : Int) + (((1 : Nat) : Int) - 1)) = (y : Int) := by omega
      rw [e1, e2, dk_in r x y hx hy]; exact hb
    have : 1 ≤ nbN r y x := cnt_pos (p := nbK r y x) (n := 9) (t := 4) (by omega) h4
    simp; omega
/-- The k-th of the rubbings that wear. -/
def itW (r : List Nat) (need : Int) : Nat → List Nat
  | 0 => r
  | k + 1 => wearR (itW r need k) need
theorem itW_len {r : List Nat} {need : Int} (hr : r.length = 8) (k : Nat) : (itW r need k).length = 8 := by
  cases k with
  | zero => exact hr
  | succ k => exact wearR_length _ _
theorem itW_lt {r : List Nat} {need : Int} (hx : ∀ k, rdN r k < 65536) (k : Nat) : ∀ j, rdN (itW r need k) j < 65536 := by
  cases k with
  | zero => exact hx
  | succ k => exact gridR_lt _
theorem itW_succ (r : List Nat) (need : Int) (k : Nat) : itW r need (k + 1) = itW (wearR r need) need k := by
  induction k with
  | zero => rfl
  | succ k ih => rw [itW, ih]; rfl
/-- What WearUntil says: a number of rounds, or none. -/
theorem wuL_says (need bound : Int) : ∀ (m : Nat) (r : List Nat) (n : Nat), r.length = 8 → (∀ k, rdN r k < 65536) →
    (wuL need bound m r n = (0, 6)) ∨ ∃ k : Nat, k ≤ m ∧ wuL need bound m r n = (((n + k : Nat) : Int), 0) ∧ (countN (itW r need k) : Int) ≤ bound ∧ ∀ j, j < k → ¬ (countN (itW r need j) : Int) ≤ bound ∧ countN (wearR (itW r need j) need) < countN (itW r need j) := by
  intro m
  induction m with
  | zero => intro r n _ _; exact .inl rfl
  | succ m ih =>
    intro r n hr hx
    rw [wuL]
    split
    · rename_i h; exact .inr ⟨0, by omega, rfl, h, fun j hj => by omega⟩
    · rename_i h
      split
      · exact .inl rfl
      · rename_i h2
        have hless := (wear_less r need hr hx).resolve_right h2
        rcases ih (wearR r need) (n + 1) (wearR_length _ _) (gridR_lt _) with e | ⟨k, hk, e, h3, h4⟩
        · exact .inl e
        · refine .inr ⟨k + 1, by omega, ?_, by rw [itW_succ]; exact h3, fun j hj => ?_⟩
          · rw [e]; congr 1; omega
          · cases j with
            | zero => exact ⟨h, hless⟩
            | succ j => rw [itW_succ]; exact h4 j (by omega)
theorem wu_says {r : List Nat} {need bound : Int} (hr : r.length = 8) (hx : ∀ k, rdN r k < 65536) (hn : inB 0 8 need = true) (hb : 0 ≤ bound) :
    (wuOut r need bound = (0, 6)) ∨ ∃ k : Nat, k ≤ 129 ∧ wuOut r need bound = (((k : Nat) : Int), 0) ∧ (countN (itW r need k) : Int) ≤ bound ∧ ∀ j, j < k → ¬ (countN (itW r need j) : Int) ≤ bound ∧ countN (wearR (itW r need j) need) < countN (itW r need j) := by
  rw [wuOut_yes hn hb]
  rcases wuL_says need bound 129 r 0 hr hx with e | ⟨k, hk, e, h⟩
  · exact .inl e
  · exact .inr ⟨k, hk, by rw [e, Nat.zero_add], h⟩

/-! ### Three rubbings -/
theorem inN3 (a b c : List Nat) (y x : Nat) (hy : y < 8) (hx : x < 16) : inN [a, b, c] y x 3 = (if (rdN a y).testBit x then 1 else 0) + (if (rdN b y).testBit x then 1 else 0) + (if (rdN c y).testBit x then 1 else 0) := by
  unfold inN cnt
  rw [sumN, sumN, sumN, sumN]
  have e : ∀ (r : List Nat), dk r x y = (rdN r y).testBit x := fun r => dk_in r x y hx hy
  simp [rdR, e]
theorem bit_sure3 (a b c : List Nat) (need : Int) (y x : Nat) (hy : y < 8) (hx : x < 16) : (rdN (sureR [a, b, c] 3 need) y).testBit x = decide (need ≤ ((inN [a, b, c] y x 3 : Nat) : Int)) := by
  unfold sureR
  rw [bit_gridR _ y x hy hx]; rfl
theorem sure_or (a b c : List Nat) (hb : ∀ k, rdN a k < 65536) (hb2 : ∀ k, rdN b k < 65536) (hc : ∀ k, rdN c k < 65536) (y : Nat) (hy : y < 8) : rdN (sureR [a, b, c] 3 1) y = rdN a y ||| rdN b y ||| rdN c y := by
  refine eq_of_bits (k := 16) (gridR_lt _ y) ?_ fun x hx => ?_
  · exact Nat.or_lt_two_pow (Nat.or_lt_two_pow (hb y) (hb2 y)) (hc y)
  · rw [bit_sure3 a b c 1 y x hy hx, inN3 a b c y x hy hx, Nat.testBit_or, Nat.testBit_or]
    cases (rdN a y).testBit x <;> cases (rdN b y).testBit x <;> cases (rdN c y).testBit x <;> rfl
theorem sure_and (a b c : List Nat) (hb : ∀ k, rdN a k < 65536) (y : Nat) (hy : y < 8) : rdN (sureR [a, b, c] 3 3) y = rdN a y &&& rdN b y &&& rdN c y := by
  refine eq_of_bits (k := 16) (gridR_lt _ y) ?_ fun x hx => ?_
  · have h1 : rdN a y &&& rdN b y &&& rdN c y ≤ rdN a y := Nat.le_trans Nat.and_le_left Nat.and_le_left
    have := hb y
    omega
  · rw [bit_sure3 a b c 3 y x hy hx, inN3 a b c y x hy hx, Nat.testBit_and, Nat.testBit_and]
    cases (rdN a y).testBit x <;> cases (rdN b y).testBit x <;> cases (rdN c y).testBit x <;> rfl
theorem sure_mono (a b c : List Nat) (m n : Int) (h : m ≤ n) : wornB (sureR [a, b, c] 3 m) (sureR [a, b, c] 3 n) = true := by
  rw [wornB_iff]
  intro y x hy hx hb
  rw [bit_sure3 a b c n y x hy hx] at hb
  rw [bit_sure3 a b c m y x hy hx]
  have := of_decide_eq_true hb
  exact decide_eq_true (by omega)
theorem joined_same (a b c : List Nat) (ha : a.length = 8) (xa : ∀ k, rdN a k < 65536) (hc : wornB a c = true) : wornB a b = decide (sureR [a, b, c] 3 1 = a) := by
  rw [Bool.eq_iff_iff, decide_eq_true_iff, wornB_iff]
  rw [wornB_iff] at hc
  constructor
  · intro h
    refine rub_ext (sureR_length _ _ _) ha (gridR_lt _) xa fun y x hy hx => ?_
    rw [bit_sure3 a b c 1 y x hy hx, inN3 a b c y x hy hx]
    have h1 := h y x hy hx
    have h2 := hc y x hy hx
    cases e1 : (rdN a y).testBit x <;> cases e2 : (rdN b y).testBit x <;> cases e3 : (rdN c y).testBit x <;> simp_all
  · intro h y x hy hx hb
    have e := bit_sure3 a b c 1 y x hy hx
    rw [h, inN3 a b c y x hy hx, hb] at e
    rw [e]
    simp; omega
end Go.Proofs.YtkbmfemncadlnaaGreatDoor
