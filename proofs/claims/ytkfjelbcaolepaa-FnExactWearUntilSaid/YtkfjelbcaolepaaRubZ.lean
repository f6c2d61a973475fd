/- Contracts: a rubbing wears until few dots are left, by the reference and by the program. -/
import Derived.Test.YtkfjelbcaolepaaRubY
import Derived.ChangeKeysEq
namespace Go.Proofs.Ytkfjelbcaolepaa
open Go Go.RowKit

/-! ### Two rubbings compared by '==' -/
theorem eqItems_R16 (a b : List Nat) (ha : a.length = 8) (hb : b.length = 8) (w : World) : ∀ is : List Nat, (∀ i ∈ is, i < 8) →
    (Op.eqItems 9999 22 1 (R16 a) (R16 b) is).run Try.prog w = .ok (is.all fun i => rdN a i == rdN b i) w
  | [], _ => by simp [Op.eqItems, Sem.run_pure]
  | i :: is, h => by
    have hi : i < 8 := h i (by simp)
    have hp : ∀ l : List Nat, l.length = 8 → (part 22 (R16 l) (i * 1)).run Try.prog w = .ok (.int .u16 (rdN l i)) w := fun l hl => by
      have h1 : (R16 l)[i]? = some (.int .u16 (rdN l i)) := by unfold R16; rw [List.getElem?_toArray]; exact map_u16_at l i (by omega)
      rw [Nat.mul_one]
      exact run_part_plain w (by kernel_rfl) h1
    have he : (Op.equalIn 9999 22 (.int .u16 (rdN a i)) (.int .u16 (rdN b i))).run Try.prog w = .ok (rdN a i == rdN b i) w := by
      rw [show 9999 = 9998 + 1 from rfl, run_equalIn_int w 9998 22 .u16 .u16 _ _ Try.underlying22]
      congr 1
      rw [Bool.eq_iff_iff, beq_iff_eq, beq_iff_eq]; omega
    simp only [Op.eqItems, Sem.run_bind, hp a ha, hp b hb, he, Result.andThen_ok, List.all_cons]
    cases hq : (rdN a i == rdN b i)
    · simp [Sem.run_pure]
    · simp only [Bool.not_true, Bool.false_eq_true, if_false, Bool.true_and]
      exact eqItems_R16 a b ha hb w is fun j hj => h j (by simp [hj])
theorem equal_R16 (a b : List Nat) (ha : a.length = 8) (hb : b.length = 8) (w : World) :
    (Op.equalIn 10000 25 (.agg (R16 a)) (.agg (R16 b))).run Try.prog w = .ok (decide (a = b)) w := by
  obtain ⟨i, hi⟩ : ∃ i, Try.prog.info? 22 = some i := Option.isSome_iff_exists.1 (by kernel_rfl)
  have hc : Try.prog.cellsOf 22 = 1 := by kernel_rfl
  rw [show 10000 = 9999 + 1 from rfl, run_equalIn_array w 9999 (R16 a) (R16 b) Try.underlying25 hi, hc, eqItems_R16 a b ha hb w _ (fun i hi => List.mem_range.1 hi)]
  congr 1
  rw [Bool.eq_iff_iff, decide_eq_true_iff, List.all_eq_true]
  constructor
  · intro h
    exact ext8 ha hb fun y hy => eq_of_beq (h y (List.mem_range.2 hy))
  · intro h i _; subst h; simp

/-! ### A rubbing that wears loses dots, or stays -/
theorem upto_succ {P : Nat → Prop} {k : Nat} (h1 : ∀ x, x < k → P x) (h2 : P k) : ∀ x, x < k + 1 → P x := fun x hx => by
  rcases Nat.lt_succ_iff_lt_or_eq.1 hx with h | rfl
  · exact h1 x h
  · exact h2
theorem cnt_imp {p q : Nat → Bool} {k : Nat} (h : ∀ x, x < k → p x = true → q x = true) : cnt p k ≤ cnt q k ∧ (cnt p k = cnt q k → ∀ x, x < k → p x = q x) := by
  induction k with
  | zero => exact ⟨Nat.le_refl _, fun _ x hx => by omega⟩
  | succ k ih =>
    obtain ⟨i1, i2⟩ := ih fun x hx => h x (by omega)
    have hk := h k (by omega)
    cases hp : p k
    · rw [cnt_no hp]
      cases hq : q k
      · rw [cnt_no hq]
        exact ⟨i1, fun e => upto_succ (i2 e) (by rw [hp, hq])⟩
      · rw [cnt_yes hq]
        exact ⟨by omega, fun e => by omega⟩
    · rw [cnt_yes hp, cnt_yes (hk hp)]
      exact ⟨by omega, fun e => upto_succ (i2 (by omega)) (by rw [hp, hk hp])⟩
theorem sumN_imp {f g : Nat → Nat} {k : Nat} (h : ∀ y, y < k → f y ≤ g y) : sumN f k ≤ sumN g k ∧ (sumN f k = sumN g k → ∀ y, y < k → f y = g y) := by
  induction k with
  | zero => exact ⟨Nat.le_refl _, fun _ x hx => by omega⟩
  | succ k ih =>
    obtain ⟨i1, i2⟩ := ih fun x hx => h x (by omega)
    have hk := h k (by omega)
    rw [sumN, sumN]
    exact ⟨by omega, fun e => upto_succ (i2 (by omega)) (by omega)⟩
theorem dk_wear (r : List Nat) (need : Int) (y x : Nat) (hy : y < 8) (hx : x < 16) : dk (wearR r need) x y = stays r need y x := by
  rw [dk_in _ x y hx hy, wearR, rdN_gridR _ y hy, testBit_bitsN, decide_eq_true hx, Bool.true_and]
theorem wear_less (r : List Nat) (need : Int) (hr : r.length = 8) (hx : ∀ k, rdN r k < 65536) : countN (wearR r need) < countN r ∨ wearR r need = r := by
  have hrow : ∀ y : Nat, y < 8 → cnt (fun x : Nat => dk (wearR r need) x y) 16 ≤ cnt (fun x : Nat => dk r x y) 16 ∧ (cnt (fun x : Nat => dk (wearR r need) x y) 16 = cnt (fun x : Nat => dk r x y) 16 → ∀ x : Nat, x < 16 → dk (wearR r need) x y = dk r x y) := fun y hy =>
    cnt_imp (p := fun x : Nat => dk (wearR r need) x y) (q := fun x : Nat => dk r x y) fun x hxx h => by
      have h' : dk (wearR r need) x y = true := h
      rw [dk_wear r need y x hy hxx] at h'
      unfold stays at h'
      exact (Bool.and_eq_true_iff.1 h').1
  have hall := sumN_imp (f := fun y : Nat => rowN (wearR r need) y) (g := fun y : Nat => rowN r y) (k := 8) fun y hy => (hrow y hy).1
  by_cases e : countN (wearR r need) = countN r
  · right
    have hd := hall.2 e
    have : gridR (stays r need) = gridR (fun y => (rdN r y).testBit) := gridR_congr fun y x hy hxx => by
      rw [← dk_wear r need y x hy hxx, ← dk_in r x y hxx hy]
      exact (hrow y hy).2 (hd y hy) x hxx
    rw [wearR, this, grid_of r hr hx]
  · left
    have := hall.1
    unfold countN at *
    omega
theorem countN_le (r : List Nat) : countN r ≤ 128 := by
  have := sumN_le (fun y => rowN r y) 16 (fun i => rowN_le r i) 8
  unfold countN; omega

/-- What is returned from round n on, in m rounds or fewer. -/
def wuL (need bound : Int) : Nat → List Nat → Nat → Int × Int
  | 0, _, _ => (0, 6)
  | m + 1, r, n => if (countN r : Int) ≤ bound then ((n : Int), 0) else if wearR r need = r then (0, 6) else wuL need bound m (wearR r need) (n + 1)
/-- What WearUntil returns. -/
def wuOut (r : List Nat) (need bound : Int) : Int × Int := if inB 0 8 need && decide (0 ≤ bound) then wuL need bound 129 r 0 else (0, 2)
theorem wuOut_yes {r : List Nat} {need bound : Int} (h1 : inB 0 8 need = true) (h2 : 0 ≤ bound) : wuOut r need bound = wuL need bound 129 r 0 := by simp [wuOut, h1, h2]
theorem wuOut_no {r : List Nat} {need bound : Int} (h : inB 0 8 need = false) : wuOut r need bound = (0, 2) := by simp [wuOut, h]
theorem wuOut_neg {r : List Nat} {need bound : Int} (h : ¬ 0 ≤ bound) : wuOut r need bound = (0, 2) := by simp [wuOut, h]

/-- Where the walk stands after k rounds. -/
structure WuSt (r : List Nat) (need bound : Int) (l : List Nat) (k : Nat) : Prop where
  len : l.length = 8
  lt : ∀ j, rdN l j < 65536
  few : countN l + k ≤ 128
  same : wuL need bound (129 - k) l k = wuL need bound 129 r 0
theorem WuSt.start {r : List Nat} {need bound : Int} (hr : r.length = 8) (hx : ∀ j, rdN r j < 65536) : WuSt r need bound r 0 := ⟨hr, hx, countN_le r, rfl⟩
theorem WuSt.few_left {r : List Nat} {need bound : Int} {l : List Nat} {k : Nat} (h : WuSt r need bound l k) (hc : (countN l : Int) ≤ bound) : wuL need bound 129 r 0 = ((k : Int), 0) := by
  have := h.few
  rw [← h.same, show 129 - k = (128 - k) + 1 by omega, wuL, if_pos hc]
theorem WuSt.stands {r : List Nat} {need bound : Int} {l : List Nat} {k : Nat} (h : WuSt r need bound l k) (hc : ¬ (countN l : Int) ≤ bound) (he : wearR l need = l) : wuL need bound 129 r 0 = (0, 6) := by
  have := h.few
  rw [← h.same, show 129 - k = (128 - k) + 1 by omega, wuL, if_neg hc, if_pos he]
theorem WuSt.next {r : List Nat} {need bound : Int} {l : List Nat} {k : Nat} (h : WuSt r need bound l k) (hc : ¬ (countN l : Int) ≤ bound) (he : ¬ wearR l need = l) : WuSt r need bound (wearR l need) (k + 1) := by
  have hf := h.few
  have hl := (wear_less l need h.len h.lt).resolve_right he
  refine ⟨wearR_length l need, gridR_lt _, by omega, ?_⟩
  rw [← h.same, show 129 - k = (129 - (k + 1)) + 1 by omega, wuL, if_neg hc, if_neg he]

structure WuRel (r : List Nat) (need bound : Int) (w wr : World) (k : Nat) (l : List Nat) : Prop where
  arg : Blk wr w.heap.size 25 (l.map u16)
  st : WuSt r need bound l k
  below : Below w.heap.size w wr

set_option maxHeartbeats 1000000 in
set_option maxRecDepth 100000 in
theorem wearUntil_spec (r : List Nat) (need bound : Int) (w : World) (hr : r.length = 8) (hx : ∀ k, rdN r k < 65536) :
    Calls Try.prog 51 #[.agg (R16 r), .int .i64 need, .int .i64 bound] w fun e w' => e = .returned (.tuple #[.int .i64 (wuOut r need bound).1, .int .i64 (wuOut r need bound).2]) ∧ Below w.heap.size w w' := by
  have hB := below_one w (.cells (R16 r) 25)
  cases hn : inB 0 8 need
  · have HO := Lib.hid (wuOut_no (r := r) (bound := bound) hn)
    have HN := Lib.hid hn
    go_enter Try.func51, Try.ntmps51
    go_wp2_with (go_at_call 66; refine (l07Need_any _ _).mono ?_; rintro e w' ⟨rfl, rfl⟩)
    rw [HO.out]
    go_ret2
    exact ⟨rfl, hB⟩
  · by_cases hb : bound < 0
    · have HO := Lib.hid (wuOut_neg (r := r) (need := need) (show ¬ 0 ≤ bound by omega))
      go_enter Try.func51, Try.ntmps51
      go_wp2_with (go_at_call 66; refine (l07Need_any _ _).mono ?_; rintro e w' ⟨rfl, rfl⟩)
      rw [HO.out]
      go_ret2
      exact ⟨rfl, hB⟩
    · have HO := Lib.hid (wuOut_yes (r := r) hn (show 0 ≤ bound by omega))
      rw [HO.out]
      clear HO
      go_enter Try.func51, Try.ntmps51
      go_wp2_with (go_at_call 66; refine (l07Need_any _ _).mono ?_; rintro e w' ⟨rfl, rfl⟩)
      clear hn
      go_loopw [8] (fun i wr => ∃ (k : Nat) (l : List Nat), i = .int .i64 k ∧ WuRel r need bound w wr k l) (fun i _ => (129 - intOf i).toNat)
      case atStart => exact ⟨0, r, rfl, Blk.new w _ _, WuSt.start hr hx, hB⟩
      case round =>
        obtain ⟨k, l, rfl, h⟩ := hrel
        have hfew := h.st.few
        have hlen := h.st.len
        have hrow := h.arg.row
        have harg := h.arg
        have hbel := h.below
        have hnew := h.arg
        by_cases hc : (countN l : Int) ≤ bound
        · have HR := Lib.hid (h.st.few_left hc)
          go_wp2_with (go_at_call 56; refine (count_any _ l _ hlen hrow).mono ?_; rintro e w1 ⟨rfl, rfl⟩)
          rw [HR.out]
          go_ret2
          exact ⟨rfl, h.below⟩
        · have hwl := wearR_length l need
          have heq : ∀ w' : World, (Op.equalIn 10000 25 (.agg (R16 (wearR l need))) (.agg (R16 l))).run Try.prog w' = .ok (decide (wearR l need = l)) w' := fun w' => equal_R16 (wearR l need) l hwl hlen w'
          have hkey : Try.prog.eqGuardType Try.prog.depth 25 = false := by kernel_rfl
          by_cases he : wearR l need = l
          · have HR := Lib.hid (h.st.stands hc he)
            have hde := decide_eq_true he
            have HE := Lib.hid he
            clear he
            rw [hde] at heq
            go_wp2_with (first
              | (go_at_call 56; refine (count_any _ l _ hlen hrow).mono ?_; rintro e w1 ⟨rfl, rfl⟩)
              | (go_at_call 67; refine (l07Wear_any _ l need _ hlen hrow).mono ?_; rintro e w1 ⟨rfl, hb1⟩; have harg := harg.next hb1; have hbel := below_step hbel hb1; clear hb1)
              | (refine wpList_store_new rfl 25 _ _ rfl (R16 (wearR l need)) rfl rfl 25 _ (by rw [R16_size, hwl]; exact szRub) (by rw [R16_size, hwl]; rfl) (one_u16 _) ?_; have harg := harg.alloc (.cells (R16 (wearR l need)) 25); have hnew := Blk.new w1 25 ((wearR l need).map Go.Proofs.Ytkfjelbcaolepaa.u16); have hbel := step_alloc hbel (.cells (R16 (wearR l need)) 25))
              | (refine wpList_load_row rfl 25 _ rfl _ rfl 25 (R16 (wearR l need)) _ _ hnew Try.underlying25 rfl (by rw [R16_size, hwl]; exact szRub) ?_)
              | (refine wpList_load_row rfl 25 _ rfl _ rfl 25 (R16 l) _ _ harg Try.underlying25 rfl (by rw [R16_size, hlen]; exact szRub) ?_)
              | (refine wpList_store_row rfl 25 _ _ rfl _ (R16 (wearR l need)) rfl rfl 25 _ harg (by rw [R16_size, hwl]; exact szRub) (by show (R16 l).size = _; rw [R16_size, R16_size, hwl, hlen]) (one_u16 _) ?_))
            rw [HR.out]
            go_ret2
            exact ⟨rfl, hbel⟩
          · have HN := Lib.hid (h.st.next hc he)
            have hde := decide_eq_false he
            clear he
            rw [hde] at heq
            go_wp2_with (first
              | (go_at_call 56; refine (count_any _ l _ hlen hrow).mono ?_; rintro e w1 ⟨rfl, rfl⟩)
              | (go_at_call 67; refine (l07Wear_any _ l need _ hlen hrow).mono ?_; rintro e w1 ⟨rfl, hb1⟩; have harg := harg.next hb1; have hbel := below_step hbel hb1; clear hb1)
              | (refine wpList_store_new rfl 25 _ _ rfl (R16 (wearR l need)) rfl rfl 25 _ (by rw [R16_size, hwl]; exact szRub) (by rw [R16_size, hwl]; rfl) (one_u16 _) ?_; have harg := harg.alloc (.cells (R16 (wearR l need)) 25); have hnew := Blk.new w1 25 ((wearR l need).map Go.Proofs.Ytkfjelbcaolepaa.u16); have hbel := step_alloc hbel (.cells (R16 (wearR l need)) 25))
              | (refine wpList_load_row rfl 25 _ rfl _ rfl 25 (R16 (wearR l need)) _ _ hnew Try.underlying25 rfl (by rw [R16_size, hwl]; exact szRub) ?_)
              | (refine wpList_load_row rfl 25 _ rfl _ rfl 25 (R16 l) _ _ harg Try.underlying25 rfl (by rw [R16_size, hlen]; exact szRub) ?_)
              | (refine wpList_store_row rfl 25 _ _ rfl _ (R16 (wearR l need)) rfl rfl 25 _ harg (by rw [R16_size, hwl]; exact szRub) (by show (R16 l).size = _; rw [R16_size, R16_size, hwl, hlen]) (one_u16 _) ?_))
            go_roundw
            case rel => exact ⟨k + 1, wearR l need, by go_num, harg.setRow_same ((wearR l need).map Go.Proofs.Ytkfjelbcaolepaa.u16), HN.out, below_setRow hbel _ _ (Nat.le_refl _)⟩
            case measure => simp [intOf]; omega
set_option maxHeartbeats 1000000 in
set_option maxRecDepth 100000 in
theorem wearUntil_impl (r : List Nat) (need bound : Int) (w : World) (hr : r.length = 8) (hx : ∀ k, rdN r k < 65536) :
    Calls Try.prog 52 #[.agg (R16 r), .int .i64 need, .int .i64 bound] w fun e w' => e = .returned (.tuple #[.int .i64 (wuOut r need bound).1, .int .i64 (wuOut r need bound).2]) ∧ Below w.heap.size w w' := by
  have hB := below_one w (.cells (R16 r) 25)
  cases hn : inB 0 8 need
  · have HO := Lib.hid (wuOut_no (r := r) (bound := bound) hn)
    have HN := Lib.hid hn
    go_enter Try.func52, Try.ntmps52
    go_wp2_with (go_at_call 68; refine (within_any _ _ _ _).mono ?_; rintro e w' ⟨rfl, rfl⟩)
    rw [HO.out]
    go_ret2
    exact ⟨rfl, hB⟩
  · by_cases hb : bound < 0
    · have HO := Lib.hid (wuOut_neg (r := r) (need := need) (show ¬ 0 ≤ bound by omega))
      go_enter Try.func52, Try.ntmps52
      go_wp2_with (go_at_call 68; refine (within_any _ _ _ _).mono ?_; rintro e w' ⟨rfl, rfl⟩)
      rw [HO.out]
      go_ret2
      exact ⟨rfl, hB⟩
    · have HO := Lib.hid (wuOut_yes (r := r) hn (show 0 ≤ bound by omega))
      rw [HO.out]
      clear HO
      go_enter Try.func52, Try.ntmps52
      go_wp2_with (go_at_call 68; refine (within_any _ _ _ _).mono ?_; rintro e w' ⟨rfl, rfl⟩)
      have hn08 := inB_iff.1 hn
      clear hn
      go_loopw [8] (fun i wr => ∃ (k : Nat) (l : List Nat), i = .int .i64 k ∧ WuRel r need bound w wr k l) (fun i _ => (129 - intOf i).toNat)
      case atStart => exact ⟨0, r, rfl, Blk.new w _ _, WuSt.start hr hx, hB⟩
      case round =>
        obtain ⟨k, l, rfl, h⟩ := hrel
        have hfew := h.st.few
        have hlen := h.st.len
        have hlt := h.st.lt
        have hrow := h.arg.row
        have harg := h.arg
        have hbel := h.below
        have hnew := h.arg
        by_cases hc : (countN l : Int) ≤ bound
        · have HR := Lib.hid (h.st.few_left hc)
          go_wp2_with (first | (refine wpList_load_row rfl 25 _ rfl _ rfl 25 (R16 l) _ _ harg Try.underlying25 rfl (by rw [R16_size, hlen]; exact szRub) ?_) | (go_at_call 26; refine (count_impl l _ hlen hlt).mono ?_; rintro e w1 ⟨rfl, hb1⟩; have harg := harg.next hb1; have hbel := below_step hbel hb1; clear hb1))
          rw [HR.out]
          go_ret2
          exact ⟨rfl, hbel⟩
        · have hwl := wearR_length l need
          have heq : ∀ w' : World, (Op.equalIn 10000 25 (.agg (R16 (wearR l need))) (.agg (R16 l))).run Try.prog w' = .ok (decide (wearR l need = l)) w' := fun w' => equal_R16 (wearR l need) l hwl hlen w'
          have hkey : Try.prog.eqGuardType Try.prog.depth 25 = false := by kernel_rfl
          by_cases he : wearR l need = l
          · have HR := Lib.hid (h.st.stands hc he)
            have hde := decide_eq_true he
            have HE := Lib.hid he
            clear he
            rw [hde] at heq
            go_wp2_with (first
              | (go_at_call 26; refine (count_impl l _ hlen hlt).mono ?_; rintro e w1 ⟨rfl, hb1⟩; have harg := harg.next hb1; have hbel := below_step hbel hb1; clear hb1)
              | (go_at_call 69; refine (worn_any l need _ hlen hlt hn08).mono ?_; rintro e w1 ⟨rfl, hb1⟩; have harg := harg.next hb1; have hbel := below_step hbel hb1; clear hb1)
              | (refine wpList_store_new rfl 25 _ _ rfl (R16 (wearR l need)) rfl rfl 25 _ (by rw [R16_size, hwl]; exact szRub) (by rw [R16_size, hwl]; rfl) (one_u16 _) ?_; have harg := harg.alloc (.cells (R16 (wearR l need)) 25); have hnew := Blk.new w1 25 ((wearR l need).map Go.Proofs.Ytkfjelbcaolepaa.u16); have hbel := step_alloc hbel (.cells (R16 (wearR l need)) 25))
              | (refine wpList_load_row rfl 25 _ rfl _ rfl 25 (R16 (wearR l need)) _ _ hnew Try.underlying25 rfl (by rw [R16_size, hwl]; exact szRub) ?_)
              | (refine wpList_load_row rfl 25 _ rfl _ rfl 25 (R16 l) _ _ harg Try.underlying25 rfl (by rw [R16_size, hlen]; exact szRub) ?_)
              | (refine wpList_store_row rfl 25 _ _ rfl _ (R16 (wearR l need)) rfl rfl 25 _ harg (by rw [R16_size, hwl]; exact szRub) (by show (R16 l).size = _; rw [R16_size, R16_size, hwl, hlen]) (one_u16 _) ?_))
            rw [HR.out]
            go_ret2
            exact ⟨rfl, hbel⟩
          · have HN := Lib.hid (h.st.next hc he)
            have hde := decide_eq_false he
            clear he
            rw [hde] at heq
            go_wp2_with (first
              | (go_at_call 26; refine (count_impl l _ hlen hlt).mono ?_; rintro e w1 ⟨rfl, hb1⟩; have harg := harg.next hb1; have hbel := below_step hbel hb1; clear hb1)
              | (go_at_call 69; refine (worn_any l need _ hlen hlt hn08).mono ?_; rintro e w1 ⟨rfl, hb1⟩; have harg := harg.next hb1; have hbel := below_step hbel hb1; clear hb1)
              | (refine wpList_store_new rfl 25 _ _ rfl (R16 (wearR l need)) rfl rfl 25 _ (by rw [R16_size, hwl]; exact szRub) (by rw [R16_size, hwl]; rfl) (one_u16 _) ?_; have harg := harg.alloc (.cells (R16 (wearR l need)) 25); have hnew := Blk.new w1 25 ((wearR l need).map Go.Proofs.Ytkfjelbcaolepaa.u16); have hbel := step_alloc hbel (.cells (R16 (wearR l need)) 25))
              | (refine wpList_load_row rfl 25 _ rfl _ rfl 25 (R16 (wearR l need)) _ _ hnew Try.underlying25 rfl (by rw [R16_size, hwl]; exact szRub) ?_)
              | (refine wpList_load_row rfl 25 _ rfl _ rfl 25 (R16 l) _ _ harg Try.underlying25 rfl (by rw [R16_size, hlen]; exact szRub) ?_)
              | (refine wpList_store_row rfl 25 _ _ rfl _ (R16 (wearR l need)) rfl rfl 25 _ harg (by rw [R16_size, hwl]; exact szRub) (by show (R16 l).size = _; rw [R16_size, R16_size, hwl, hlen]) (one_u16 _) ?_))
            go_roundw
            case rel => exact ⟨k + 1, wearR l need, by go_num, harg.setRow_same ((wearR l need).map Go.Proofs.Ytkfjelbcaolepaa.u16), HN.out, below_setRow hbel _ _ (Nat.le_refl _)⟩
            case measure => simp [intOf]; omega
end Go.Proofs.Ytkfjelbcaolepaa
