/- Contracts: a rubbing's text, by the program and by the reference. -/
import Derived.Test.YtgmlhnmjeelajaaRubE
import Derived.Test.YtgmlhnmjeelajaaGB
import Derived.Laws.BytesArg
import Derived.Laws.Concat


namespace Go.Proofs.Ytgmlhnmjeelajaa
open Go Go.RowKit
set_option linter.unusedVariables false
set_option linter.unusedSimpArgs false

theorem elU8 : El Try.prog 22 5 (.int .u8 0) 1 1 := ⟨Try.underlying22, by kernel_rfl, rfl, by decide⟩

/-- A dot's byte. -/
def dotC (b : Bool) : Int := if b then 35 else 46
/-- Row y's first k dots. -/
def rowC (r : List Nat) (y k : Nat) : List Int := (List.range k).map fun (x : Nat) => dotC (dk r x y)
/-- The first y rows. -/
def rowsC (r : List Nat) : Nat → List Int
  | 0 => []
  | y + 1 => rowsC r y ++ rowC r y 16 ++ [10]
def txtC (r : List Nat) (y k : Nat) : List Int := rowsC r y ++ rowC r y k
theorem txtC_zero (r : List Nat) (y : Nat) : txtC r y 0 = rowsC r y := by simp [txtC, rowC]
theorem txtC_dot (r : List Nat) (y k : Nat) : txtC r y (k + 1) = txtC r y k ++ [dotC (dk r k y)] := by simp [txtC, rowC, List.range_succ]
theorem txtC_row (r : List Nat) (y : Nat) : txtC r (y + 1) 0 = txtC r y 16 ++ [10] := by rw [txtC_zero]; rfl
theorem rowsC_length (r : List Nat) (y : Nat) : (rowsC r y).length = 17 * y := by
  induction y with
  | zero => rfl
  | succ y ih => simp [rowsC, ih, rowC]; omega
theorem txtC_length (r : List Nat) (y k : Nat) : (txtC r y k).length = 17 * y + k := by simp [txtC, rowsC_length, rowC]

/-- The numbers as a string. -/
def strI (l : List Int) : ByteArray := strOfNums l
theorem strI_size (l : List Int) : (strI l).size = l.length := strOfNums_size l
theorem strI_app (l : List Int) (c : Int) (b : UInt8) (hb : UInt8.ofNat c.toNat = b) : strI l ++ ⟨#[b]⟩ = strI (l ++ [c]) := by
  unfold strI strOfNums
  rw [ByteArray.mk_append_mk]
  simp [hb]
theorem str_add (l : List Int) (c : Int) (b : UInt8) (hb : UInt8.ofNat c.toNat = b) (hl : l.length ≤ 1000) (w : World) : (Op.stringOp .add (strI l) ⟨#[b]⟩).run Try.prog w = .ok (.string (strI (l ++ [c]))) w := by
  rw [run_string_add_sum w _ _ (by rw [strI_size]; simp [ByteArray.size]; omega), strI_app l c b hb]

structure TextRel (r : List Nat) (w wr : World) (v : Value) (y k : Nat) : Prop where
  own : wr.ownsRow (w.heap.size + 1) 5 1 v (17 * y + k) ((txtC r y k).map u8)
  below : Below w.heap.size w wr
  size : w.heap.size + 1 ≤ wr.heap.size

theorem bit_and (n k : Nat) (hn : n < 65536) : bits .and .u16 ((n : Int) / 2 ^ k) 1 = if n.testBit k then 1 else 0 := by
  have e1 : ((n : Int) / 2 ^ k) = ((n / 2 ^ k : Nat) : Int) := by simp
  have h := u16_and_nat (n / 2 ^ k) 1 (Nat.lt_of_le_of_lt (Nat.div_le_self _ _) hn) (by omega)
  rw [e1, show (1 : Int) = ((1 : Nat) : Int) from rfl, h, Nat.testBit_eq_decide_div_mod_eq, Nat.and_one_is_mod]
  have := Nat.mod_two_eq_zero_or_one (n / 2 ^ k)
  rcases this with h | h <;> simp [h]
theorem dkT_in (r : List Nat) (y k : Nat) (hy : y < 8) (hk : k < 16) : dk r k y = (rdN r y).testBit k := by
  unfold dk
  have h : 0 ≤ (k : Int) ∧ (k : Int) ≤ 15 ∧ 0 ≤ (y : Int) ∧ (y : Int) ≤ 7 := by omega
  simp only [h, and_self, decide_true, Bool.true_and, Int.toNat_natCast]

set_option maxRecDepth 100000 in
theorem text_impl (r : List Nat) (w : World) (hr : r.length = 8) (hx : ∀ k, rdN r k < 65536) :
    Calls Try.prog 9 #[.agg (R16 r)] w fun e w' => e = .returned (.string (strI (rowsC r 8))) ∧ Below w.heap.size w w' := by
  have hnew : ∀ o, Blk ((w.alloc (.cells (R16 r) 26)).alloc o) w.heap.size 26 (r.map u16) := fun o => (Blk.new w _ _).alloc o
  go_enter Try.func9, Try.ntmps9
  go_wp2_with (refine wpList_load_row rfl 26 _ rfl _ rfl 26 (R16 r) _ _ (hnew _) Try.underlying26 rfl (by rw [R16_size, hr]; exact szRub) ?_)
  go_loopw [3, 9] (fun v i wr => ∃ y : Nat, y ≤ 8 ∧ i = .int .i64 y ∧ TextRel r w wr v y 0) (fun _ i _ => 8 - (intOf i).toNat)
  case atStart =>
    exact ⟨0, by omega, rfl, own_empty _ _ (by rw [World.size_alloc]) _ _ (Nat.le_refl _) 1, ((Below.refl _ w).alloc (Nat.le_refl _) _).alloc (by rw [World.size_alloc]; omega) _, by simp⟩
  case round =>
    obtain ⟨y, hy, rfl, h⟩ := hrel
    by_cases hlt : y < 8
    · have hix := rub_at r hr y hlt
      have hd8 : decide ((y : Int) < 8) = true := by simp; omega
      obtain ⟨wo, rfl⟩ : ∃ wo : World, wo = wr := ⟨_, rfl⟩
      go_wp2
      go_loopw [3, 12] (fun v i wr => ∃ k : Nat, k ≤ 16 ∧ i = .int .i64 k ∧ TextRel r w wr v y k) (fun _ i _ => 16 - (intOf i).toNat)
      case atStart => exact ⟨0, by omega, rfl, h⟩
      case round =>
        obtain ⟨k, hk, rfl, h⟩ := hrel
        by_cases hlk : k < 16
        · have hlen : 17 * y + k ≤ 1000 := by omega
          have hown := h.own
          have hsz := h.size
          have hbel := h.below
          cases hd : (rdN r y).testBit k
          · have hbv := bit_and (rdN r y) k (hx y)
            rw [hd] at hbv
            have HT := Lib.hid (show txtC r y k ++ [46] = txtC r y (k + 1) by rw [txtC_dot, dkT_in r y k hlt hlk, hd]; rfl)
            clear hd h
            go_wp2_with (at_builtin; refine wpList_app1 rfl (.tmp 15) (.tmp 21) _ rfl elU8 wr _ u3 (17 * y + k) _ rfl hown (.int .u8 46) _ rfl rfl rfl (by unfold maxLen; omega) (by omega) (by omega) ?_; intro v' w' ho' hg')
            go_roundw
            case rel =>
              refine ⟨k + 1, by omega, by go_num, ?_, below_own hbel hown hg' (by omega) (by omega), Nat.le_trans hsz hg'.size⟩
              rw [← HT.out, List.map_append]
              exact ho'
            case measure => simp [intOf]; omega
          · have hbv := bit_and (rdN r y) k (hx y)
            rw [hd] at hbv
            have HT := Lib.hid (show txtC r y k ++ [35] = txtC r y (k + 1) by rw [txtC_dot, dkT_in r y k hlt hlk, hd]; rfl)
            clear hd h
            go_wp2_with (at_builtin; refine wpList_app1 rfl (.tmp 15) (.tmp 21) _ rfl elU8 wr _ u3 (17 * y + k) _ rfl hown (.int .u8 35) _ rfl rfl rfl (by unfold maxLen; omega) (by omega) (by omega) ?_; intro v' w' ho' hg')
            go_roundw
            case rel =>
              refine ⟨k + 1, by omega, by go_num, ?_, below_own hbel hown hg' (by omega) (by omega), Nat.le_trans hsz hg'.size⟩
              rw [← HT.out, List.map_append]
              exact ho'
            case measure => simp [intOf]; omega
        · obtain rfl : k = 16 := by omega
          have hown := h.own
          have hsz := h.size
          have hbel := h.below
          have HT := Lib.hid (txtC_row r y)
          go_wp2_with (at_builtin; refine wpList_app1 rfl (.tmp 24) (.tmp 25) _ rfl elU8 wr _ u3 (17 * y + 16) _ rfl hown (.int .u8 10) _ rfl rfl rfl (by unfold maxLen; omega) (by omega) (by omega) ?_; intro v' w' ho' hg')
          go_roundw
          case rel =>
            refine ⟨y + 1, by omega, by go_num, ?_, below_own hbel hown hg' (by omega) (by omega), Nat.le_trans hsz hg'.size⟩
            rw [HT.out, List.map_append]
            exact ho'
          case measure => simp [intOf]; omega
    · obtain rfl : y = 8 := by omega
      have hown : wr.ownsRow (w.heap.size + 1) 5 1 u3 136 ((rowsC r 8).map Go.Proofs.Ytgmlhnmjeelajaa.u8) := by have := h.own; rw [txtC_zero] at this; exact this
      obtain ⟨g, c, cs, rfl, hg, hb, hl⟩ := own_blk hown (by omega)
      have hrow := hb.head
      have hbel := h.below
      have hconv := run_convert_bytes_arg (P := Try.prog) wr 22 5 Try.underlying22 Try.underlying5 g 0 136 c (rowsC r 8) (rowsC_length r 8) (fun i hi => by
        have := hrow.at 0 i (by rw [rowsC_length]; omega)
        have hadd : (⟨g, 0, none⟩ : Addr).add i = ⟨g, 0 + i, none⟩ := by unfold Addr.add; split <;> simp_all
        rw [hadd] at this; exact this) 9 Try.underlying9
      have HC := Lib.hid (show strOfNums (rowsC r 8) = strI (rowsC r 8) from rfl)
      rw [HC.out] at hconv
      clear hown hb hrow
      go_wp2
      go_ret
      exact ⟨rfl, hbel⟩
end Go.Proofs.Ytgmlhnmjeelajaa
