/- Contracts: texts and words, by the reference. -/
import Derived.Test.YtjgflkoefimmoaaDoorProg
import Derived.Test.YtjgflkoefimmoaaDoorTxtQ
import Derived.Outline
namespace Go.Proofs.YtjgflkoefimmoaaDoor
open Go Go.RowKit
set_option linter.unusedVariables false
set_option linter.unusedSimpArgs false

/-- The bytes of a text. -/
def bs (s : ByteArray) : List UInt8 := s.data.toList
theorem bs_length (s : ByteArray) : (bs s).length = s.size := by unfold bs; rw [Array.length_toList]; rfl
def byS (s : ByteArray) (k : Nat) : Int := byt (bs s) k
theorem byS_range (s : ByteArray) (k : Nat) : 0 ≤ byS s k ∧ byS s k ≤ 255 := byt_range _ _
theorem run_byte (s : ByteArray) (k : Nat) (hk : k < s.size) (w : World) : (Instr.index 9 (.string s) (.int .i64 (k : Int))).run Tryd.prog w = .ok (.int .u8 (byS s k)) w := by
  rw [run_index_string w 9 s .i64 (k : Int) Tryd.underlying9, dif_pos (by omega)]
  congr 2
  unfold byS
  rw [byt_get (by rw [bs_length]; exact hk)]
  rfl
theorem exec_byte {o : Oper} {a : Act} {w : World} (x i : Operand) (ho : o.op = .index 9 x i) (s : ByteArray) (hx : a.eval x = .string s) (k : Nat) (hi : a.eval i = .int .i64 (k : Int)) (hk : k < s.size) : (execOp a.eval o).run Tryd.prog w = .ok (.value (.int .u8 (byS s k))) w := by
  have := run_byte s k hk w
  unfold execOp
  simp only [ho, hx, hi, Sem.run_bind, this, Result.andThen_ok, Sem.run_pure]
theorem retB {a b : Bool} (h : a = b) : Ending.returned (.bool a) = .returned (.bool b) := by rw [h]
theorem retI {k : IntKind} {a b : Int} (h : a = b) : Ending.returned (.int k a) = .returned (.int k b) := by rw [h]

theorem inS_any (n lo hi : Int) (w : World) : Calls Tryd.prog 61 #[.int .i64 n, .int .i64 lo, .int .i64 hi] w fun e w' => e = .returned (.bool (inB lo hi n)) ∧ w = w' := by
  by_cases h1 : n ≥ lo
  · by_cases h2 : n ≤ hi
    · go_enter Tryd.func61, Tryd.ntmps61
      go_wp2
      go_ret
      exact ⟨retB (by unfold inB; simp; omega), rfl⟩
    · go_enter Tryd.func61, Tryd.ntmps61
      go_wp2
      go_ret
      exact ⟨retB (by unfold inB; simp; omega), rfl⟩
  · go_enter Tryd.func61, Tryd.ntmps61
    go_wp2
    go_ret
    exact ⟨retB (by unfold inB; simp; omega), rfl⟩
theorem letter_spec (n : Int) (w : World) : Calls Tryd.prog 76 #[.int .u8 n] w fun e w' => e = .returned (.bool (isLet n)) ∧ w = w' := by
  by_cases h1 : n ≥ 65
  · by_cases h2 : n ≤ 90
    · go_enter Tryd.func76, Tryd.ntmps76
      go_wp2
      go_ret
      exact ⟨retB (by unfold isLet inB; simp; omega), rfl⟩
    · go_enter Tryd.func76, Tryd.ntmps76
      go_wp2
      go_ret
      exact ⟨retB (by unfold isLet inB; simp; omega), rfl⟩
  · go_enter Tryd.func76, Tryd.ntmps76
    go_wp2
    go_ret
    exact ⟨retB (by unfold isLet inB; simp; omega), rfl⟩

theorem chOk_at {s : ByteArray} {k : Nat} (h : (byS s k == 32) = false) : chOk (bs s) k = isLet (byS s k) := by
  unfold chOk
  rw [if_neg (by simpa [byS] using h)]; rfl
theorem chOk_sp0 {s : ByteArray} (h : (byS s 0 == 32) = true) : chOk (bs s) 0 = false := by
  unfold chOk
  rw [if_pos (by simpa [byS] using h)]; simp
theorem chOk_spE {s : ByteArray} {k : Nat} (h : (byS s k == 32) = true) (hk : k + 1 = s.size) : chOk (bs s) k = false := by
  unfold chOk
  rw [if_pos (by simpa [byS] using h), bs_length]; simp [hk]
theorem chOk_spM {s : ByteArray} {k : Nat} (h : (byS s k == 32) = true) (h0 : k ≠ 0) (hk : ¬ k + 1 = s.size) : chOk (bs s) k = !(byS s (k - 1) == 32) := by
  unfold chOk
  rw [if_pos (by simpa [byS] using h), bs_length, decide_eq_true h0, decide_eq_true hk]
  rw [Bool.eq_iff_iff]; simp [byS]
theorem run_byteP (s : ByteArray) (k : Nat) (h0 : k ≠ 0) (hk : k < s.size) (w : World) : (Instr.index 9 (.string s) (.int .i64 ((k : Int) - 1))).run Tryd.prog w = .ok (.int .u8 (byS s (k - 1))) w := by
  have := run_byte s (k - 1) (by omega) w
  rw [show (((k - 1 : Nat) : Nat) : Int) = (k : Int) - 1 by omega] at this
  exact this

set_option maxRecDepth 100000 in
theorem text_spec (s : ByteArray) (w : World) (hs : s.size ≤ 1048576) :
    Calls Tryd.prog 40 #[.string s] w fun e w' => e = .returned (.bool (vText (bs s))) ∧ w = w' := by
  go_enter Tryd.func40, Tryd.ntmps40
  go_wp2
  go_loop [3] (fun i => ∃ k : Nat, k ≤ s.size ∧ i = .int .i64 k ∧ AllCh (bs s) k) (fun i => s.size - (intOf i).toNat)
  case atStart => exact ⟨0, by omega, rfl, allCh_zero _⟩
  case round =>
    obtain ⟨k, hk, rfl, hr⟩ := hrel
    have HR := Lib.hid hr
    clear hr
    by_cases hlt : k < s.size
    · have hlb : k < (bs s).length := by rw [bs_length]; exact hlt
      cases hb : (byS s k == 32)
      · have hix := run_byte s k hlt
        cases hl : isLet (byS s k)
        · have HF := Lib.hid (vText_bad hlb (by rw [chOk_at hb, hl]))
          have HL := Lib.hid hl
          go_wp2_with (go_at_call 76; refine (letter_spec _ _).mono ?_; rintro e w' ⟨rfl, rfl⟩)
          go_ret
          exact ⟨retB HF.out.symm, rfl⟩
        · have HN := Lib.hid (allCh_succ HR.out (by rw [chOk_at hb, hl]))
          have HL := Lib.hid hl
          go_wp2_with (go_at_call 76; refine (letter_spec _ _).mono ?_; rintro e w' ⟨rfl, rfl⟩)
          go_round
          case rel => exact ⟨k + 1, by omega, by go_num, HN.out⟩
          case measure => simp [intOf]; omega
      · have hix := run_byte s k hlt
        by_cases h0 : k = 0
        · have HF := Lib.hid (vText_bad hlb (by subst h0; exact chOk_sp0 hb))
          have hz : ((k : Int) == 0) = true := by simp; omega
          clear h0
          go_wp2
          go_ret
          exact ⟨retB HF.out.symm, rfl⟩
        · have hij := run_byteP s k h0 hlt
          have hz : ((k : Int) == 0) = false := by simp; omega
          by_cases he : k + 1 = s.size
          · have HF := Lib.hid (vText_bad hlb (chOk_spE hb he))
            have hze : ((k : Int) == (s.size : Int) - 1) = true := by simp; omega
            clear he
            go_wp2
            go_ret
            exact ⟨retB HF.out.symm, rfl⟩
          · have hze : ((k : Int) == (s.size : Int) - 1) = false := by simp; omega
            have hc := chOk_spM hb h0 he
            clear he
            cases hp : (byS s (k - 1) == 32)
            · have HN := Lib.hid (allCh_succ HR.out (by rw [hc, hp]; rfl))
              clear hc
              go_wp2
              go_round
              case rel => exact ⟨k + 1, by omega, by go_num, HN.out⟩
              case measure => simp [intOf]; omega
            · have HF := Lib.hid (vText_bad hlb (by rw [hc, hp]; rfl))
              clear hc
              go_wp2
              go_ret
              exact ⟨retB HF.out.symm, rfl⟩
    · obtain rfl : k = s.size := by omega
      have HF := Lib.hid (vText_len (l := bs s) (by rw [bs_length]; exact HR.out))
      go_wp2
      go_ret
      refine ⟨retB ?_, rfl⟩
      rw [HF.out, bs_length]
      simp
      omega

theorem isW_bad {l : List UInt8} {k : Nat} (hk : k < l.length) (h : isLet (byt l k) = false) : isW l = false := by
  cases hv : isW l
  · rfl
  · have := (isW_iff.1 hv).1 k hk
    rw [this] at h; cases h
def AllLet (l : List UInt8) (k : Nat) : Prop := ∀ i, i < k → isLet (byt l i) = true
theorem allLet_zero (l : List UInt8) : AllLet l 0 := fun i hi => by omega
theorem allLet_succ {l : List UInt8} {k : Nat} (h : AllLet l k) (hk : isLet (byt l k) = true) : AllLet l (k + 1) := fun j hj => by
  rcases Nat.lt_succ_iff_lt_or_eq.1 hj with h1 | rfl
  · exact h j h1
  · exact hk
theorem isW_all {l : List UInt8} (h : AllLet l l.length) : isW l = decide (0 < l.length) := by
  unfold isW
  rw [decide_eq_true (show LL l from h), Bool.true_and]

set_option maxRecDepth 100000 in
theorem word_spec (s : ByteArray) (w : World) (hs : s.size ≤ 1048576) :
    Calls Tryd.prog 41 #[.string s] w fun e w' => e = .returned (.bool (isW (bs s))) ∧ w = w' := by
  go_enter Tryd.func41, Tryd.ntmps41
  go_wp2
  go_loop [3] (fun i => ∃ k : Nat, k ≤ s.size ∧ i = .int .i64 k ∧ AllLet (bs s) k) (fun i => s.size - (intOf i).toNat)
  case atStart => exact ⟨0, by omega, rfl, allLet_zero _⟩
  case round =>
    obtain ⟨k, hk, rfl, hr⟩ := hrel
    have HR := Lib.hid hr
    clear hr
    by_cases hlt : k < s.size
    · have hlb : k < (bs s).length := by rw [bs_length]; exact hlt
      have hix := run_byte s k hlt
      cases hl : isLet (byS s k)
      · have HF := Lib.hid (isW_bad hlb hl)
        have HL := Lib.hid hl
        go_wp2_with (go_at_call 76; refine (letter_spec _ _).mono ?_; rintro e w' ⟨rfl, rfl⟩)
        go_ret
        exact ⟨retB HF.out.symm, rfl⟩
      · have HN := Lib.hid (allLet_succ HR.out hl)
        have HL := Lib.hid hl
        go_wp2_with (go_at_call 76; refine (letter_spec _ _).mono ?_; rintro e w' ⟨rfl, rfl⟩)
        go_round
        case rel => exact ⟨k + 1, by omega, by go_num, HN.out⟩
        case measure => simp [intOf]; omega
    · obtain rfl : k = s.size := by omega
      have HF := Lib.hid (isW_all (l := bs s) (by rw [bs_length]; exact HR.out))
      go_wp2
      go_ret
      refine ⟨retB ?_, rfl⟩
      rw [HF.out, bs_length]
end Go.Proofs.YtjgflkoefimmoaaDoor
