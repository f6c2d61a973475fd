/- Contracts: the matching of two rubbings; may be worn; mirrored. -/
import Derived.Test.YtgmlhnmjeelajaaRubD
import Derived.StillTailTactics
namespace Go.Proofs.Ytgmlhnmjeelajaa
open Go Go.RowKit
set_option linter.unusedVariables false
set_option linter.unusedSimpArgs false

/-- The dots that are dark in both. -/
def andR (a b : List Nat) : List Nat := (List.range 8).map fun y => rdN a y &&& rdN b y
theorem andR_length (a b : List Nat) : (andR a b).length = 8 := by simp [andR]
theorem rdN_andR (a b : List Nat) (y : Nat) (hy : y < 8) : rdN (andR a b) y = rdN a y &&& rdN b y := by
  simp [rdN, andR, List.getD, List.getElem?_map, List.getElem?_range hy]
theorem rdN_past (l : List Nat) (k : Nat) (hk : l.length ≤ k) : rdN l k = 0 := by simp [rdN, List.getD, List.getElem?_eq_none hk]
theorem andR_lt (a b : List Nat) (ha : ∀ k, rdN a k < 65536) : ∀ k, rdN (andR a b) k < 65536 := by
  intro k
  by_cases hk : k < 8
  · rw [rdN_andR a b k hk]
    exact Nat.lt_of_le_of_lt Nat.and_le_left (ha k)
  · rw [rdN_past _ _ (by rw [andR_length]; omega)]; omega
theorem set_andR (a b : List Nat) (k : Nat) (ha : a.length = 8) (hk : k < 8) (l : List Nat) (hl : l.length = 8) (h1 : ∀ y, y < k → rdN l y = rdN a y &&& rdN b y) (h2 : ∀ y, k ≤ y → rdN l y = rdN a y) :
    (∀ y, y < k + 1 → rdN (l.set k (rdN a k &&& rdN b k)) y = rdN a y &&& rdN b y) ∧ ∀ y, k + 1 ≤ y → rdN (l.set k (rdN a k &&& rdN b k)) y = rdN a y := by
  have e : ∀ y, rdN (l.set k (rdN a k &&& rdN b k)) y = if y = k then rdN a k &&& rdN b k else rdN l y := by
    intro y
    unfold rdN
    rw [List.getD, List.getElem?_set]
    by_cases h : k = y
    · subst h; simp [show k < l.length by omega]
    · rw [if_neg h, if_neg (fun e => h e.symm)]; rfl
  refine ⟨fun y hy => ?_, fun y hy => ?_⟩
  · rw [e]
    split
    · subst_vars; rfl
    · exact h1 y (by omega)
  · rw [e, if_neg (by omega)]; exact h2 y (by omega)

structure MatchRel (a b : List Nat) (w wr : World) (k : Nat) : Prop where
  one : ∃ l : List Nat, Blk wr w.heap.size 26 (l.map u16) ∧ l.length = 8 ∧ (∀ y, y < k → rdN l y = rdN a y &&& rdN b y) ∧ ∀ y, k ≤ y → rdN l y = rdN a y
  two : Blk wr (w.heap.size + 1) 26 (b.map u16)
  below : Below w.heap.size w wr

theorem and16 (x y : Nat) (hx : x < 65536) (hy : y < 65536) : bits .and .u16 (x : Int) (y : Int) = ((x &&& y : Nat) : Int) := u16_and_nat x y hx hy

set_option maxRecDepth 100000 in
theorem match_impl (a b : List Nat) (w : World) (ha : a.length = 8) (hb : b.length = 8) (xa : ∀ k, rdN a k < 65536) (xb : ∀ k, rdN b k < 65536) :
    Calls Try.prog 15 #[.agg (R16 a), .agg (R16 b)] w fun e w' => e = .returned (.int .i64 (countN (andR a b))) ∧ Below w.heap.size w w' := by
  go_enter Try.func15, Try.ntmps15
  go_wp2
  go_loopw [6] (fun i wr => ∃ k : Nat, k ≤ 8 ∧ i = .int .i64 k ∧ MatchRel a b w wr k) (fun i _ => 8 - (intOf i).toNat)
  case atStart =>
    refine ⟨0, by omega, rfl, ⟨a, ?_, ha, fun y hy => by omega, fun y _ => rfl⟩, ?_, below_two _ _ _⟩
    · exact (Blk.new w _ _).alloc _
    · exact Blk.at_new _ _ _ (by simp) _ _ rfl
  case round =>
    obtain ⟨k, hk, rfl, h⟩ := hrel
    obtain ⟨l, hB1, hl, h1, h2⟩ := h.one
    by_cases hlt : k < 8
    · have hc1 := hB1.cell k _ (map_u16_at l k (by omega))
      have hc2 := h.two.cell k _ (map_u16_at b k (by omega))
      have hf1 := hB1.free k
      have hand := and16 (rdN l k) (rdN b k) (by rw [h2 k (Nat.le_refl _)]; exact xa k) (xb k)
      go_wp2
      go_still_tail 8, (by kernel_rfl)
      go_wp2
      go_roundw
      case rel =>
        obtain ⟨g1, g2⟩ := set_andR a b k ha hlt l hl h1 h2
        refine ⟨k + 1, by omega, by go_num, ⟨l.set k (rdN a k &&& rdN b k), ?_, by simp [hl], g1, g2⟩, (h.two.other _ _ (by simp)).drew, (h.below.setCell (Nat.le_refl _) _).drew⟩
        rw [List.map_set, ← h2 k (Nat.le_refl _)]
        try rw [hand]
        exact (hB1.set k _).drew
      case measure => simp [intOf]; omega
    · obtain rfl : k = 8 := by omega
      have hl' : l = andR a b := ext8 hl (andR_length a b) fun y hy => by rw [rdN_andR a b y hy]; exact h1 y hy
      subst hl'
      have hB := h.below
      go_wp2_with (first
        | (refine wpList_load_row rfl 26 _ rfl _ rfl 26 (R16 (andR a b)) _ _ hB1 Try.underlying26 rfl (by rw [R16_size, hl]; exact szRub) ?_)
        | (go_at_call 11; refine (count_impl (andR a b) _ hl (andR_lt a b xa)).mono ?_; rintro e w1 ⟨rfl, hb1⟩; have hB := below_step hB hb1; clear hb1))
      go_ret
      exact ⟨rfl, hB⟩

/-! ### The reference's -/
structure Match2Rel (a b : List Nat) (w wr : World) (k : Nat) : Prop where
  out : ∃ l : List Nat, Blk wr w.heap.size 26 (l.map u16) ∧ l.length = 8 ∧ ∀ y, y < k → rdN l y = rdN a y &&& rdN b y
  below : Below w.heap.size w wr

theorem set_out {l : List Nat} {k : Nat} {f : Nat → Nat} (hl : l.length = 8) (hk : k < 8) (h1 : ∀ y, y < k → rdN l y = f y) : ∀ y, y < k + 1 → rdN (l.set k (f k)) y = f y := by
  intro y hy
  unfold rdN
  rw [List.getD, List.getElem?_set]
  by_cases h : k = y
  · subst h; simp [show k < l.length by omega]
  · rw [if_neg h]; exact h1 y (by omega)

set_option maxRecDepth 100000 in
theorem l07Match_any (pa pb : Addr) (a b : List Nat) (w : World) (ha : a.length = 8) (hb : b.length = 8) (xa : ∀ k, rdN a k < 65536) (xb : ∀ k, rdN b k < 65536) (ra : RowE u16 w pa a) (rb : RowE u16 w pb b) :
    Calls Try.prog 33 #[.pointer (some pa), .pointer (some pb)] w fun e w' => e = .returned (.int .i64 (countN (andR a b))) ∧ Below w.heap.size w w' := by
  go_enter Try.func33, Try.ntmps33
  go_wp2
  go_loopw [6] (fun i wr => ∃ k : Nat, k ≤ 8 ∧ i = .int .i64 k ∧ Match2Rel a b w wr k) (fun i _ => 8 - (intOf i).toNat)
  case atStart => exact ⟨0, by omega, rfl, ⟨List.replicate 8 0, Blk.at_new _ _ _ rfl _ _ rfl, rfl, fun y hy => by omega⟩, below_one _ _⟩
  case round =>
    obtain ⟨k, hk, rfl, h⟩ := hrel
    obtain ⟨l, hB1, hl, h1⟩ := h.out
    by_cases hlt : k < 8
    · have hc1 := hB1.cell k _ (map_u16_at l k (by omega))
      have hca := (ra.next h.below).at16 k (by omega)
      have hcb := (rb.next h.below).at16 k (by omega)
      have hf1 := hB1.free k
      have hand := and16 (rdN a k) (rdN b k) (xa k) (xb k)
      go_wp2
      go_still_tail 13, (by kernel_rfl)
      go_wp2
      go_roundw
      case rel =>
        refine ⟨k + 1, by omega, by go_num, ⟨l.set k (rdN a k &&& rdN b k), ?_, by simp [hl], set_out hl hlt h1⟩, (h.below.setCell (Nat.le_refl _) _).drew⟩
        rw [List.map_set]
        try rw [hand]
        exact (hB1.set k _).drew
      case measure => simp [intOf]; omega
    · obtain rfl : k = 8 := by omega
      have hl' : l = andR a b := ext8 hl (andR_length a b) fun y hy => by rw [rdN_andR a b y hy]; exact h1 y hy
      subst hl'
      have hB := h.below
      go_wp2_with (go_at_call 32; refine (count_any _ (andR a b) _ hl hB1.row).mono ?_; rintro e w1 ⟨rfl, rfl⟩)
      go_ret
      exact ⟨rfl, hB⟩

set_option maxRecDepth 100000 in
theorem match_spec (a b : List Nat) (w : World) (ha : a.length = 8) (hb : b.length = 8) (xa : ∀ k, rdN a k < 65536) (xb : ∀ k, rdN b k < 65536) :
    Calls Try.prog 16 #[.agg (R16 a), .agg (R16 b)] w fun e w' => e = .returned (.int .i64 (countN (andR a b))) ∧ Below w.heap.size w w' := by
  have ra : RowE u16 ((w.alloc (.cells (R16 a) 26)).alloc (.cells (R16 b) 26)) ⟨w.heap.size, 0, none⟩ a := ((Blk.new w _ _).alloc _).row
  have rb : RowE u16 ((w.alloc (.cells (R16 a) 26)).alloc (.cells (R16 b) 26)) ⟨w.heap.size + 1, 0, none⟩ b := (Blk.at_new _ _ _ (by simp) _ _ rfl).row
  have hB := below_two w (.cells (R16 a) 26) (.cells (R16 b) 26)
  go_enter Try.func16, Try.ntmps16
  go_wp2_with (go_at_call 33; refine (l07Match_any _ _ a b _ ha hb xa xb ra rb).mono ?_; rintro e w1 ⟨rfl, hb1⟩; have hB := below_step hB hb1; clear hb1)
  go_ret
  exact ⟨rfl, hB⟩

/-! ### May be worn -/
/-- What is dark now is dark in the old one. -/
def wornB (a b : List Nat) : Bool := (List.range 8).all fun y => (List.range 16).all fun x => !(rdN b y).testBit x || (rdN a y).testBit x

theorem all_succ (P : Nat → Prop) (k : Nat) : (∀ x, x < k + 1 → P x) ↔ (∀ x, x < k → P x) ∧ P k :=
  ⟨fun h => ⟨fun x hx => h x (by omega), h k (by omega)⟩, fun ⟨h1, h2⟩ x hx => by
    rcases Nat.lt_succ_iff_lt_or_eq.1 hx with h | rfl
    · exact h1 x h
    · exact h2⟩
theorem cnt_mono (p q : Nat → Bool) (h : ∀ x, p x = true → q x = true) (k : Nat) : cnt p k ≤ cnt q k ∧ (cnt p k = cnt q k ↔ ∀ x, x < k → q x = true → p x = true) := by
  induction k with
  | zero => exact ⟨Nat.le_refl _, fun _ x hx => by omega, fun _ => rfl⟩
  | succ k ih =>
    have hc : ∀ r : Nat → Bool, cnt r (k + 1) = cnt r k + (if r k then 1 else 0) := fun r => rfl
    obtain ⟨ih1, ih2⟩ := ih
    rw [hc p, hc q, all_succ, ← ih2]
    have hk := h k
    cases hp : p k <;> cases hq : q k <;> simp [hp, hq] at hk ⊢ <;> omega
theorem sumN_mono (f g : Nat → Nat) (h : ∀ y, f y ≤ g y) (k : Nat) : sumN f k ≤ sumN g k ∧ (sumN f k = sumN g k ↔ ∀ y, y < k → f y = g y) := by
  induction k with
  | zero => exact ⟨Nat.le_refl _, fun _ x hx => by omega, fun _ => rfl⟩
  | succ k ih =>
    have := h k
    rw [sumN, sumN]
    refine ⟨by omega, fun e y hy => ?_, fun e => by rw [ih.2.2 fun y hy => e y (by omega), e k (by omega)]⟩
    rcases Nat.lt_succ_iff_lt_or_eq.1 hy with h1 | rfl
    · exact ih.2.1 (by omega) y h1
    · omega
theorem countN_eq (r : List Nat) : countN r = sumN (fun y => cnt (rdN r y).testBit 16) 8 := sumN_congr fun i hi => rowN_bits r i hi
theorem worn_iff (a b : List Nat) : (decide (countN (andR a b) = countN b)) = wornB a b := by
  rw [countN_eq, countN_eq]
  have e : sumN (fun y => cnt (rdN (andR a b) y).testBit 16) 8 = sumN (fun y => cnt (rdN a y &&& rdN b y).testBit 16) 8 := sumN_congr fun i hi => by rw [rdN_andR a b i hi]
  rw [e]
  have hm : ∀ y, cnt (rdN a y &&& rdN b y).testBit 16 ≤ cnt (rdN b y).testBit 16 ∧ (cnt (rdN a y &&& rdN b y).testBit 16 = cnt (rdN b y).testBit 16 ↔ ∀ x, x < 16 → (rdN b y).testBit x = true → (rdN a y &&& rdN b y).testBit x = true) :=
    fun y => cnt_mono _ _ (fun x hx => by rw [Nat.testBit_and, Bool.and_eq_true] at hx; exact hx.2) 16
  have h2 := (sumN_mono (fun y => cnt (rdN a y &&& rdN b y).testBit 16) (fun y => cnt (rdN b y).testBit 16) (fun y => (hm y).1) 8).2
  rw [Bool.eq_iff_iff, decide_eq_true_eq, h2]
  unfold wornB
  simp only [List.all_eq_true, List.mem_range, Bool.or_eq_true, Bool.not_eq_true']
  constructor
  · intro h y hy x hx
    have h3 := (hm y).2.1 (h y hy) x hx
    cases hb : (rdN b y).testBit x
    · exact .inl rfl
    · have := h3 hb
      rw [Nat.testBit_and, Bool.and_eq_true] at this
      exact .inr this.1
  · intro h y hy
    refine (hm y).2.2 fun x hx hb => ?_
    rw [Nat.testBit_and, hb, Bool.and_true]
    rcases h y hy x hx with h4 | h4
    · rw [hb] at h4; cases h4
    · exact h4

theorem beq_dec (a b : Nat) : ((a : Int) == (b : Int)) = decide (a = b) := by
  rw [Bool.eq_iff_iff, beq_iff_eq, decide_eq_true_eq]; omega

set_option maxHeartbeats 1000000 in
set_option maxRecDepth 100000 in
theorem worn_impl (a b : List Nat) (w : World) (ha : a.length = 8) (hb : b.length = 8) (xa : ∀ k, rdN a k < 65536) (xb : ∀ k, rdN b k < 65536) :
    Calls Try.prog 22 #[.agg (R16 a), .agg (R16 b)] w fun e w' => e = .returned (.bool (wornB a b)) ∧ Below w.heap.size w w' := by
  have HW := Lib.hid (worn_iff a b)
  have h1 : Blk ((w.alloc (.cells (R16 a) 26)).alloc (.cells (R16 b) 26)) w.heap.size 26 (a.map u16) := (Blk.new w _ _).alloc _
  have h2 : Blk ((w.alloc (.cells (R16 a) 26)).alloc (.cells (R16 b) 26)) (w.heap.size + 1) 26 (b.map u16) := Blk.at_new _ _ _ (by simp) _ _ rfl
  have hB := below_two w (.cells (R16 a) 26) (.cells (R16 b) 26)
  go_enter Try.func22, Try.ntmps22
  go_wp2
  generalize (w.alloc (.cells (R16 a) 26)).alloc (.cells (R16 b) 26) = W at *
  refine region_below W.heap.size (by kernel_rfl) (by kernel_rfl) ?_
  refine below_run (by kernel_rfl) (.agg (R16 a)) (fun w' hw' => exec_load_row 26 (.tmp 2) rfl w.heap.size (by kernel_rfl) 26 (R16 a) _ _ (h1.next hw') Try.underlying26 rfl (by rw [R16_size, ha]; exact szRub)) ?_
  refine below_run (by kernel_rfl) (.agg (R16 b)) (fun w' hw' => exec_load_row 26 (.tmp 3) rfl (w.heap.size + 1) (by kernel_rfl) 26 (R16 b) _ _ (h2.next hw') Try.underlying26 rfl (by rw [R16_size, hb]; exact szRub)) ?_
  refine below_call (by kernel_rfl) 15 #[.agg (R16 a), .agg (R16 b)] (.int .i64 (countN (andR a b))) (fun w' => by kernel_rfl) (fun w' hw' => (match_impl a b w' ha hb xa xb).mono fun e w1 ⟨he, hb1⟩ => ⟨he, below_step hw' hb1⟩) ?_
  refine below_run (by kernel_rfl) (.agg (R16 b)) (fun w' hw' => exec_load_row 26 (.tmp 3) rfl (w.heap.size + 1) (by kernel_rfl) 26 (R16 b) _ _ (h2.next hw') Try.underlying26 rfl (by rw [R16_size, hb]; exact szRub)) ?_
  refine below_call (by kernel_rfl) 11 #[.agg (R16 b)] (.int .i64 (countN b)) (fun w' => by kernel_rfl) (fun w' hw' => (count_impl b w' hb xb).mono fun e w1 ⟨he, hb1⟩ => ⟨he, below_step hw' hb1⟩) ?_
  refine below_run (by kernel_rfl) (.bool ((countN (andR a b) : Int) == (countN b : Int))) (fun w' hw' => by kernel_rfl) ?_
  refine below_run (by kernel_rfl) (.bool ((countN (andR a b) : Int) == (countN b : Int))) (fun w' hw' => by kernel_rfl) ?_
  refine wpQuiet_nil ?_
  intro W' hW'
  simp only [Act.put, List.setIfInBounds_toArray, List.set_cons_succ, List.set_cons_zero]
  go_wp2
  go_ret
  exact ⟨ret_bool ((beq_dec _ _).trans HW.out), below_step hB hW'⟩

theorem andNot16 (x y : Nat) (hx : x < 65536) (hy : y < 65536) : bits .andNot .u16 (x : Int) (y : Int) = ((x &&& (65535 - y) : Nat) : Int) := by
  have := u16_andNot (x : Int) (y : Int) (by omega) (by omega) (by omega) (by omega)
  rw [this]
  simp
theorem testBit_inv (y x : Nat) (hy : y < 65536) (hx : x < 16) : (65535 - y).testBit x = !y.testBit x := by
  have h : 65535 - y = 2 ^ 16 - (y + 1) := by omega
  rw [h, Nat.testBit_two_pow_sub_succ (by omega)]
  simp [hx]
theorem andNot_zero (x y : Nat) (hx : x < 65536) (hy : y < 65536) : (x &&& (65535 - y) = 0) ↔ ∀ i, i < 16 → x.testBit i = true → y.testBit i = true := by
  constructor
  · intro h i hi hxi
    have h1 : (x &&& (65535 - y)).testBit i = false := by rw [h]; simp
    rw [Nat.testBit_and, hxi, testBit_inv y i hy hi, Bool.true_and] at h1
    simpa using h1
  · intro h
    refine eq_of_bits (k := 16) (Nat.and_lt_two_pow _ (by omega)) (by omega) fun i hi => ?_
    rw [Nat.testBit_and, testBit_inv y i hy hi]
    cases hxi : x.testBit i
    · simp
    · rw [h i hi hxi]; simp

structure WornRel (a b : List Nat) (w wr : World) (k : Nat) : Prop where
  one : Blk wr w.heap.size 26 (a.map u16)
  two : Blk wr (w.heap.size + 1) 26 (b.map u16)
  same : ∀ j, j < k → ∀ i, i < 16 → (rdN b j).testBit i = true → (rdN a j).testBit i = true
  below : Below w.heap.size w wr

theorem wornB_true {a b : List Nat} (h : ∀ j, j < 8 → ∀ i, i < 16 → (rdN b j).testBit i = true → (rdN a j).testBit i = true) : wornB a b = true := by
  unfold wornB
  simp only [List.all_eq_true, List.mem_range, Bool.or_eq_true, Bool.not_eq_true']
  intro y hy x hx
  cases hb : (rdN b y).testBit x
  · exact .inl rfl
  · exact .inr (h y hy x hx hb)
theorem wornB_false {a b : List Nat} (j : Nat) (hj : j < 8) (h : ¬ ∀ i, i < 16 → (rdN b j).testBit i = true → (rdN a j).testBit i = true) : wornB a b = false := by
  rw [Bool.eq_false_iff]
  intro h1
  unfold wornB at h1
  simp only [List.all_eq_true, List.mem_range, Bool.or_eq_true, Bool.not_eq_true'] at h1
  refine h fun i hi hb => ?_
  rcases h1 j hj i hi with h2 | h2
  · rw [hb] at h2; cases h2
  · exact h2

end Go.Proofs.Ytgmlhnmjeelajaa
