/- Contracts: a rubbing wears until few dots are left, by the reference and by the program. -/
import Derived.Test.YtgmlhnmjeelajaaRubY
import Derived.ChangeKeysEq
namespace Go.Proofs.Ytgmlhnmjeelajaa
open Go Go.RowKit
set_option linter.unusedVariables false
set_option linter.unusedSimpArgs false

/-! ### Two rubbings compared by '==' -/
theorem eqItems_R16 (a b : List Nat) (ha : a.length = 8) (hb : b.length = 8) (w : World) : ∀ is : List Nat, (∀ i ∈ is, i < 8) →
    (Op.eqItems 9999 24 1 (R16 a) (R16 b) is).run Try.prog w = .ok (is.all fun i => rdN a i == rdN b i) w
  | [], _ => by simp [Op.eqItems, Sem.run_pure]
  | i :: is, h => by
    have hi : i < 8 := h i (by simp)
    have hp : ∀ l : List Nat, l.length = 8 → (part 24 (R16 l) (i * 1)).run Try.prog w = .ok (.int .u16 (rdN l i)) w := fun l hl => by
      have h1 : (R16 l)[i]? = some (.int .u16 (rdN l i)) := by unfold R16; rw [List.getElem?_toArray]; exact map_u16_at l i (by omega)
      rw [Nat.mul_one]
      exact run_part_plain w (by kernel_rfl) h1
    have he : (Op.equalIn 9999 24 (.int .u16 (rdN a i)) (.int .u16 (rdN b i))).run Try.prog w = .ok (rdN a i == rdN b i) w := by
      rw [show 9999 = 9998 + 1 from rfl, run_equalIn_int w 9998 24 .u16 .u16 _ _ Try.underlying24]
      congr 1
      rw [Bool.eq_iff_iff, beq_iff_eq, beq_iff_eq]; omega
    simp only [Op.eqItems, Sem.run_bind, hp a ha, hp b hb, he, Result.andThen_ok, List.all_cons]
    cases hq : (rdN a i == rdN b i)
    · simp [Sem.run_pure]
    · simp only [Bool.not_true, Bool.false_eq_true, if_false, Bool.true_and]
      exact eqItems_R16 a b ha hb w is fun j hj => h j (by simp [hj])
theorem equal_R16 (a b : List Nat) (ha : a.length = 8) (hb : b.length = 8) (w : World) :
    (Op.equalIn 10000 26 (.agg (R16 a)) (.agg (R16 b))).run Try.prog w = .ok (decide (a = b)) w := by
  obtain ⟨i, hi⟩ : ∃ i, Try.prog.info? 24 = some i := Option.isSome_iff_exists.1 (by kernel_rfl)
  have hc : Try.prog.cellsOf 24 = 1 := by kernel_rfl
  rw [show 10000 = 9999 + 1 from rfl, run_equalIn_array w 9999 (R16 a) (R16 b) Try.underlying26 hi, hc, eqItems_R16 a b ha hb w _ (fun i hi => List.mem_range.1 hi)]
  congr 1
  rw [Bool.eq_iff_iff, decide_eq_true_iff, List.all_eq_true]
  constructor
  · intro h
    exact ext8 ha hb fun y hy => eq_of_beq (h y (List.mem_range.2 hy))
  · intro h i _; subst h; simp

/-! ### A rubbing that wears loses dots, or stays -/
theorem upto_succ {P : Nat → Prop} {k : Nat} (h1 : ∀ x, x < k → P x) (h2 : P k) : ∀ x, x < k + 1 → P x := fun x hx => by
  rcases Nat.lt_succ_iff_lt_or_eq.1 hx with h | rfl
  · exact h1 x h
  · exact h2
theorem cnt_imp {p q : Nat → Bool} {k : Nat} (h : ∀ x, x < k → p x = true → q x = true) : cnt p k ≤ cnt q k ∧ (cnt p k = cnt q k → ∀ x, x < k → p x = q x) := by
  induction k with
  | zero => exact ⟨Nat.le_refl _, fun _ x hx => by omega⟩
  | succ k ih =>
    obtain ⟨i1, i2⟩ := ih fun x hx => h x (by omega)
    have hk := h k (by omega)
    cases hp : p k
    · rw [cnt_no hp]
      cases hq : q k
      · rw [cnt_no hq]
        exact ⟨i1, fun e => upto_succ (i2 e) (by rw [hp, hq])⟩
      · rw [cnt_yes hq]
        exact ⟨by omega, fun e => by omega⟩
    · rw [cnt_yes hp, cnt_yes (hk hp)]
      exact ⟨by omega, fun e => upto_succ (i2 (by omega)) (by rw [hp, hk hp])⟩
theorem sumN_imp {f g : Nat → Nat} {k : Nat} (h : ∀ y, y < k → f y ≤ g y) : sumN f k ≤ sumN g k ∧ (sumN f k = sumN g k → ∀ y, y < k → f y = g y) := by
  induction k with
  | zero => exact ⟨Nat.le_refl _, fun _ x hx => by omega⟩
  | succ k ih =>
    obtain ⟨i1, i2⟩ := ih fun x hx => h x (by omega)
    have hk := h k (by omega)
    rw [sumN, sumN]
    exact ⟨by omega, fun e => upto_succ (i2 (by omega)) (by omega)⟩
theorem dk_wear (r : List Nat) (need : Int) (y x : Nat) (hy : y < 8) (hx : x < 16) : dk (wearR r need) x y = stays r need y x := by
  rw [dk_in _ x y hx hy, wearR, rdN_gridR _ y hy, testBit_bitsN, decide_eq_true hx, Bool.true_and]
theorem wear_less (r : List Nat) (need : Int) (hr : r.length = 8) (hx : ∀ k, rdN r k < 65536) : countN (wearR r need) < countN r ∨ wearR r need = r := by
  have hrow : ∀ y : Nat, y < 8 → cnt (fun x : Nat => dk (wearR r need) x y) 16 ≤ cnt (fun x : Nat => dk r x y) 16 ∧ (cnt (fun x : Nat => dk (wearR r need) x y) 16 = cnt (fun x : Nat => dk r x y) 16 → ∀ x : Nat, x < 16 → dk (wearR r need) x y = dk r x y) := fun y hy =>
    cnt_imp (p := fun x : Nat => dk (wearR r need) x y) (q := fun x : Nat => dk r x y) fun x hxx h => by
      have h' : dk (wearR r need) x y = true := h
      rw [dk_wear r need y x hy hxx] at h'
      unfold stays at h'
      exact (Bool.and_eq_true_iff.1 h').1
  have hall := sumN_imp (f := fun y : Nat => rowN (wearR r need) y) (g := fun y : Nat => rowN r y) (k := 8) fun y hy => (hrow y hy).1
  by_cases e : countN (wearR r need) = countN r
  · right
    have hd := hall.2 e
    have : gridR (stays r need) = gridR (fun y => (rdN r y).testBit) := gridR_congr fun y x hy hxx => by
      rw [← dk_wear r need y x hy hxx, ← dk_in r x y hxx hy]
      exact (hrow y hy).2 (hd y hy) x hxx
    rw [wearR, this, grid_of r hr hx]
  · left
    have := hall.1
    unfold countN at *
    omega
theorem countN_le (r : List Nat) : countN r ≤ 128 := by
  have := sumN_le (fun y => rowN r y) 16 (fun i => rowN_le r i) 8
  unfold countN; omega

/-- What is returned from round n on, in m rounds or fewer. -/
def wuL (need bound : Int) : Nat → List Nat → Nat → Int × Int
  | 0, _, _ => (0, 6)
  | m + 1, r, n => if (countN r : Int) ≤ bound then ((n : Int), 0) else if wearR r need = r then (0, 6) else wuL need bound m (wearR r need) (n + 1)
/-- What WearUntil returns. -/
def wuOut (r : List Nat) (need bound : Int) : Int × Int := if inB 0 8 need && decide (0 ≤ bound) then wuL need bound 129 r 0 else (0, 2)
theorem wuOut_yes {r : List Nat} {need bound : Int} (h1 : inB 0 8 need = true) (h2 : 0 ≤ bound) : wuOut r need bound = wuL need bound 129 r 0 := by simp [wuOut, h1, h2]
theorem wuOut_no {r : List Nat} {need bound : Int} (h : inB 0 8 need = false) : wuOut r need bound = (0, 2) := by simp [wuOut, h]
theorem wuOut_neg {r : List Nat} {need bound : Int} (h : ¬ 0 ≤ bound) : wuOut r need bound = (0, 2) := by simp [wuOut, h]

/-- Where the walk stands after k rounds. -/
structure WuSt (r : List Nat) (need bound : Int) (l : List Nat) (k : Nat) : Prop where
  len : l.length = 8
  lt : ∀ j, rdN l j < 65536
  few : countN l + k ≤ 128
  same : wuL need bound (129 - k) l k = wuL need bound 129 r 0
theorem WuSt.start {r : List Nat} {need bound : Int} (hr : r.length = 8) (hx : ∀ j, rdN r j < 65536) : WuSt r need bound r 0 := ⟨hr, hx, countN_le r, rfl⟩
theorem WuSt.few_left {r : List Nat} {need bound : Int} {l : List Nat} {k : Nat} (h : WuSt r need bound l k) (hc : (countN l : Int) ≤ bound) : wuL need bound 129 r 0 = ((k : Int), 0) := by
  have := h.few
  rw [← h.same, show 129 - k = (128 - k) + 1 by omega, wuL, if_pos hc]
theorem WuSt.stands {r : List Nat} {need bound : Int} {l : List Nat} {k : Nat} (h : WuSt r need bound l k) (hc : ¬ (countN l : Int) ≤ bound) (he : wearR l need = l) : wuL need bound 129 r 0 = (0, 6) := by
  have := h.few
  rw [← h.same, show 129 - k = (128 - k) + 1 by omega, wuL, if_neg hc, if_pos he]
theorem WuSt.next {r : List Nat} {need bound : Int} {l : List Nat} {k : Nat} (h : WuSt r need bound l k) (hc : ¬ (countN l : Int) ≤ bound) (he : ¬ wearR l need = l) : WuSt r need bound (wearR l need) (k + 1) := by
  have hf := h.few
  have hl := (wear_less l need h.len h.lt).resolve_right he
  refine ⟨wearR_length l need, gridR_lt _, by omega, ?_⟩
  rw [← h.same, show 129 - k = (129 - (k + 1)) + 1 by omega, wuL, if_neg hc, if_neg he]

structure WuRel (r : List Nat) (need bound : Int) (w wr : World) (k : Nat) (l : List Nat) : Prop where
  arg : Blk wr w.heap.size 26 (l.map u16)
  st : WuSt r need bound l k
  below : Below w.heap.size w wr

end Go.Proofs.Ytgmlhnmjeelajaa
