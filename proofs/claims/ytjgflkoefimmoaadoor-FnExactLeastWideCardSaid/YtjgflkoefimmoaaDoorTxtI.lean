/- Contracts: texts and words, by the program. -/
import Derived.Test.YtjgflkoefimmoaaDoorTxtS
import Derived.Test.YtjgflkoefimmoaaDoorShelf
namespace Go.Proofs.YtjgflkoefimmoaaDoor
open Go Go.RowKit
set_option linter.unusedVariables false
set_option linter.unusedSimpArgs false

/-- The library's variable that strings.Contains reads holds some number. -/
def MaxW (w : World) : Prop := ∃ m : Int, w.cell? ⟨2, 0, none⟩ = some (.int .i64 m)
theorem MaxW.next {w w' : World} (h : MaxW w) (hb : Below w.heap.size w w') : MaxW w' := by
  obtain ⟨m, hm⟩ := h
  exact ⟨m, by rw [hb.cell (World.block_lt_of_cell? w _ hm)]; exact hm⟩
theorem MaxW.drewN {w : World} (h : MaxW w) (q : Nat) : MaxW (w.drewN q) := h

theorem letter_impl (n : Int) (w : World) : Calls Tryd.prog 97 #[.int .u8 n] w fun e w' => e = .returned (.bool (isLet n)) ∧ w = w' := by
  by_cases h1 : n ≥ 65
  · by_cases h2 : n ≤ 90
    · go_enter Tryd.func97, Tryd.ntmps97
      go_wp2
      go_ret
      exact ⟨retB (by unfold isLet inB; simp; omega), rfl⟩
    · go_enter Tryd.func97, Tryd.ntmps97
      go_wp2
      go_ret
      exact ⟨retB (by unfold isLet inB; simp; omega), rfl⟩
  · go_enter Tryd.func97, Tryd.ntmps97
    go_wp2
    go_ret
    exact ⟨retB (by unfold isLet inB; simp; omega), rfl⟩
theorem withinI_any (n lo hi : Int) (w : World) : Calls Tryd.prog 65 #[.int .i64 n, .int .i64 lo, .int .i64 hi] w fun e w' => e = .returned (.bool (inB lo hi n)) ∧ w = w' := by
  by_cases h1 : lo ≤ n
  · by_cases h2 : n ≤ hi
    · go_enter Tryd.func65, Tryd.ntmps65
      go_wp2
      go_ret
      exact ⟨retB (by unfold inB; simp; omega), rfl⟩
    · go_enter Tryd.func65, Tryd.ntmps65
      go_wp2
      go_ret
      exact ⟨retB (by unfold inB; simp; omega), rfl⟩
  · go_enter Tryd.func65, Tryd.ntmps65
    go_wp2
    go_ret
    exact ⟨retB (by unfold inB; simp; omega), rfl⟩

def hasB (l sub : List UInt8) : Bool := Lib.contains l sub
theorem contains2_any (s : ByteArray) (w : World) (hs : s.size ≤ 1048576) (hm : MaxW w) :
    Calls Tryd.prog 80 #[.string s, .string ⟨#[32, 32]⟩] w fun e w' => e = .returned (.bool (hasB (bs s) [32, 32])) ∧ w = w' := by
  obtain ⟨m, hm⟩ := hm
  exact (Tryd.strings_Contains s ⟨#[32, 32]⟩ m w (by omega) hm).mono fun e w' ⟨he, hw⟩ => ⟨he, hw.symm⟩
def hasByte (l : List UInt8) : Bool := decide (0 ≤ Lib.indexByte l 32)
theorem contains1_any (s : ByteArray) (w : World) :
    Calls Tryd.prog 80 #[.string s, .string ⟨#[32]⟩] w fun e w' => e = .returned (.bool (hasByte (bs s))) ∧ w = w' :=
  (Tryd.strings_Contains_one s 32 w).mono fun e w' ⟨he, hw⟩ => ⟨he, hw.symm⟩
def trimS (s : ByteArray) : ByteArray := ⟨(Lib.trimB (bs s) 32).toArray⟩
theorem trim_any (s : ByteArray) (w : World) (hs : s.size ≤ 1048576) :
    Calls Tryd.prog 100 #[.string s, .string ⟨#[32]⟩] w fun e w' => e = .returned (.string (trimS s)) ∧ ∃ q, w' = w.drewN q :=
  (Tryd.strings_Trim_one s 32 (by decide) w (by omega)).mono fun e w' ⟨he, hw⟩ => ⟨he, by
    rcases hw with rfl | rfl
    · exact ⟨0, rfl⟩
    · exact ⟨1, rfl⟩⟩
theorem trimS_eq (s : ByteArray) : ((trimS s).toList == s.toList) = decide (Lib.trimB (bs s) 32 = bs s) := by
  rw [ByteArray.toList_eq, ByteArray.toList_eq, Bool.eq_iff_iff]
  rw [beq_iff_eq, decide_eq_true_iff]; simp [trimS, bs]

def AllLS (l : List UInt8) (k : Nat) : Prop := ∀ i, i < k → byt l i = 32 ∨ isLet (byt l i) = true
theorem allLS_zero (l : List UInt8) : AllLS l 0 := fun i hi => by omega
theorem allLS_succ {l : List UInt8} {k : Nat} (h : AllLS l k) (hk : byt l k = 32 ∨ isLet (byt l k) = true) : AllLS l (k + 1) := fun j hj => by
  rcases Nat.lt_succ_iff_lt_or_eq.1 hj with h1 | rfl
  · exact h j h1
  · exact hk
theorem spaced_bad {l : List UInt8} {k : Nat} (hk : k < l.length) (h1 : isLet (byt l k) = false) (h2 : byt l k ≠ 32) : spacedT l = false := by
  unfold spacedT
  rw [decide_eq_false, Bool.false_and]
  intro hls
  rcases hls k hk with h | h
  · exact h2 h
  · rw [h] at h1; cases h1
theorem spaced_all {l : List UInt8} (h : AllLS l l.length) : spacedT l = !hasB l [32, 32] := by
  unfold spacedT hasB
  rw [decide_eq_true (show LS l from h), Bool.true_and]

set_option maxRecDepth 100000 in
theorem spaced_any (s : ByteArray) (w : World) (hs : s.size ≤ 1048576) (hm : MaxW w) :
    Calls Tryd.prog 99 #[.string s] w fun e w' => e = .returned (.bool (spacedT (bs s))) ∧ w = w' := by
  have HM := Lib.hid hm
  clear hm
  go_enter Tryd.func99, Tryd.ntmps99
  go_wp2
  go_loop [6] (fun i => ∃ k : Nat, k ≤ s.size ∧ i = .int .i64 k ∧ AllLS (bs s) k) (fun i => s.size - (intOf i).toNat)
  case atStart => exact ⟨0, by omega, rfl, allLS_zero _⟩
  case round =>
    obtain ⟨k, hk, rfl, hr⟩ := hrel
    have HR := Lib.hid hr
    clear hr
    by_cases hlt : k < s.size
    · have hlb : k < (bs s).length := by rw [bs_length]; exact hlt
      have hix := run_byte s k hlt
      cases hl : isLet (byS s k)
      · have HL := Lib.hid hl
        cases hb : (byS s k != 32)
        · have HN := Lib.hid (allLS_succ HR.out (.inl (by simpa [byS] using hb)))
          go_wp2_with (go_at_call 97; refine (letter_impl _ _).mono ?_; rintro e w' ⟨rfl, rfl⟩)
          go_round
          case rel => exact ⟨k + 1, by omega, by go_num, HN.out⟩
          case measure => simp [intOf]; omega
        · have HF := Lib.hid (spaced_bad hlb hl (by simpa [byS] using hb))
          go_wp2_with (go_at_call 97; refine (letter_impl _ _).mono ?_; rintro e w' ⟨rfl, rfl⟩)
          go_ret
          exact ⟨retB HF.out.symm, rfl⟩
      · have HN := Lib.hid (allLS_succ HR.out (.inr hl))
        have HL := Lib.hid hl
        go_wp2_with (go_at_call 97; refine (letter_impl _ _).mono ?_; rintro e w' ⟨rfl, rfl⟩)
        go_round
        case rel => exact ⟨k + 1, by omega, by go_num, HN.out⟩
        case measure => simp [intOf]; omega
    · obtain rfl : k = s.size := by omega
      have HF := Lib.hid (spaced_all (l := bs s) (by rw [bs_length]; exact HR.out))
      go_wp2_with (go_at_call 80; refine (contains2_any s _ hs HM.out).mono ?_; rintro e w' ⟨rfl, rfl⟩)
      go_ret
      exact ⟨retB HF.out.symm, rfl⟩

theorem vText_long {s : ByteArray} (h : ¬ (s.size : Int) ≤ 60) : vText (bs s) = false := by
  rw [vText_impl, bs_length, decide_eq_false (by omega)]; rfl
theorem vText_uns {s : ByteArray} (h : spacedT (bs s) = false) : vText (bs s) = false := by
  rw [vText_impl, h]; simp
theorem vText_fin {s : ByteArray} (h1 : (s.size : Int) ≤ 60) (h : spacedT (bs s) = true) : vText (bs s) = ((trimS s).toList == s.toList) := by
  rw [vText_impl, h, trimS_eq, bs_length, decide_eq_true (by omega)]; rfl

set_option maxRecDepth 100000 in
theorem text_impl (s : ByteArray) (w : World) (hs : s.size ≤ 1048576) (hm : MaxW w) :
    Calls Tryd.prog 79 #[.string s] w fun e w' => e = .returned (.bool (vText (bs s))) ∧ ∃ q, w' = w.drewN q := by
  by_cases h60 : (s.size : Int) ≤ 60
  · cases hsp : spacedT (bs s)
    · have HF := Lib.hid (vText_uns hsp)
      go_enter Tryd.func79, Tryd.ntmps79
      go_wp2_with (go_at_call 99; refine (spaced_any s _ hs hm).mono ?_; rintro e w' ⟨rfl, rfl⟩)
      go_ret
      exact ⟨retB HF.out.symm, 0, rfl⟩
    · have HF := Lib.hid (vText_fin h60 hsp)
      go_enter Tryd.func79, Tryd.ntmps79
      go_wp2_with (first
        | (go_at_call 99; refine (spaced_any s _ hs hm).mono ?_; rintro e w' ⟨rfl, rfl⟩)
        | (go_at_call 100; refine (trim_any s _ hs).mono ?_; rintro e w' ⟨rfl, q, rfl⟩))
      go_ret
      exact ⟨retB HF.out.symm, q, rfl⟩
  · have HF := Lib.hid (vText_long h60)
    go_enter Tryd.func79, Tryd.ntmps79
    go_wp2
    go_ret
    exact ⟨retB HF.out.symm, 0, rfl⟩

/-- A word as the program has it. -/
def vWord (l : List UInt8) : Bool := vText l && isW l
theorem vWord_no {l : List UInt8} (h : vText l = false) : vWord l = false := by unfold vWord; rw [h]; rfl
theorem vWord_yes {l : List UInt8} (h : vText l = true) : vWord l = (decide (l ≠ []) && !hasByte l) := by
  unfold vWord; rw [h, isW_text h]; rfl
theorem toList_bs (s : ByteArray) : s.toList = bs s := ByteArray.toList_eq s

set_option maxRecDepth 100000 in
theorem word_impl (s : ByteArray) (w : World) (hs : s.size ≤ 1048576) (hm : MaxW w) :
    Calls Tryd.prog 46 #[.string s] w fun e w' => e = .returned (.bool (vWord (bs s))) ∧ ∃ q, w' = w.drewN q := by
  cases hv : vText (bs s)
  · have HF := Lib.hid (vWord_no hv)
    have HV := Lib.hid hv
    go_enter Tryd.func46, Tryd.ntmps46
    go_wp2_with (go_at_call 79; refine (text_impl s _ hs hm).mono ?_; rintro e w' ⟨rfl, q, rfl⟩)
    go_ret
    exact ⟨retB HF.out.symm, q, rfl⟩
  · have HF := Lib.hid (vWord_yes hv)
    by_cases he : s.toList = []
    · have HE := Lib.hid (show decide (bs s ≠ []) = false by rw [← toList_bs]; simp [he])
      have he2 : s.toList.isEmpty = true := by rw [he]; rfl
      go_enter Tryd.func46, Tryd.ntmps46
      go_wp2_with (go_at_call 79; refine (text_impl s _ hs hm).mono ?_; rintro e w' ⟨rfl, q, rfl⟩)
      go_ret
      exact ⟨retB (by rw [HF.out, HE.out]; rfl), q, rfl⟩
    · have HE := Lib.hid (show decide (bs s ≠ []) = true by rw [← toList_bs]; simp [he])
      have he2 : s.toList.isEmpty = false := by simp [he]
      go_enter Tryd.func46, Tryd.ntmps46
      go_wp2_with (first
        | (go_at_call 79; refine (text_impl s _ hs hm).mono ?_; rintro e w' ⟨rfl, q, rfl⟩)
        | (go_at_call 80; refine (contains1_any s _).mono ?_; rintro e w' ⟨rfl, rfl⟩))
      go_ret
      exact ⟨retB (by rw [HF.out, HE.out]; rfl), q, rfl⟩
end Go.Proofs.YtjgflkoefimmoaaDoor
