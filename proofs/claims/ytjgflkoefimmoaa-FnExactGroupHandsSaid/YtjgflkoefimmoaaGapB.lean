/- Contracts: a slice of numbers is copied; how far apart two lists of gaps are. -/
import Derived.Test.YtjgflkoefimmoaaGapA
import Derived.OwnWalk
namespace Go.Proofs.Ytjgflkoefimmoaa
open Go Go.RowKit

/-- A row whose first j cells have been written. -/
def setV (us vs : List Value) (j : Nat) : List Value := us.take j ++ vs.drop j
theorem setV_zero (us vs : List Value) : setV us vs 0 = vs := by simp [setV]
theorem setV_set (us vs : List Value) (j : Nat) (u : Value) (hu : us[j]? = some u) (hj : j < vs.length) : (setV us vs j).set j u = setV us vs (j + 1) := by
  have hju : j < us.length := (List.getElem?_eq_some_iff.1 hu).1
  have hl : (us.take j).length = j := by simp; omega
  unfold setV
  rw [List.set_append_right _ _ (by omega), hl, Nat.sub_self, List.drop_eq_getElem_cons hj, List.set_cons_zero, List.take_add_one, hu]
  simp
theorem setV_at (us vs : List Value) (j : Nat) (hju : j ≤ us.length) (hj : j < vs.length) : (setV us vs j)[j]? = some vs[j] := by
  have hl : (us.take j).length = j := by simp; omega
  unfold setV
  rw [List.getElem?_append_right (by omega), hl, Nat.sub_self, List.drop_eq_getElem_cons hj]
  rfl
theorem own_at {w : World} {base : Nat} {e : TypeId} {g n c : Nat} {xs : List Value} (h : w.ownsRow base e 1 (.slice (some ⟨g, 0, none⟩) n c) n xs) : base ≤ g ∧ xs.length = n ∧ ∃ cs, Blk w g e (xs ++ cs) := by
  obtain ⟨hl, h⟩ := h
  rcases h with ⟨h1, _⟩ | ⟨g', cap, cur, h1, hg, hh, hc, hm, hs, ht⟩
  · cases h1
  · cases h1
    refine ⟨hg, by omega, cur.toList.drop n, ?_⟩
    unfold Blk
    rw [← ht, Nat.mul_one, List.take_append_drop]
    simpa using hh
theorem elI64' : El Try.prog 22 2 (.int .i64 0) 1 8 := ⟨Try.underlying22, by kernel_rfl, rfl, by decide⟩

/-- A row of numbers at a block of the call's own. -/
def CopyOut (w : World) (xs : List Int) (n : Nat) (e : Ending) (w' : World) : Prop :=
  ∃ g cs, e = .returned (.slice (some ⟨g, 0, none⟩) n n) ∧ w.heap.size ≤ g ∧ Blk w' g 2 (xs.map i64 ++ cs) ∧ Below w.heap.size w w'

structure CopyRel (g : Nat) (us vs : List Value) (w wr : World) (j : Nat) : Prop where
  blk : Blk wr g 2 (setV us vs j)
  below : Below w.heap.size w wr

set_option maxRecDepth 100000 in
theorem toInt64S_any (A : Option Addr) (c : Nat) (xs : List Int) (n : Nat) (w : World) (hn : xs.length = n) (hm : n ≤ 1000000000) (h : SlE i64 w A xs) :
    Calls Try.prog 7 #[.slice A n c] w (CopyOut w xs n) := by
  have HN := Lib.hid hn
  have H := Lib.hid h
  clear hn
  obtain ⟨i, hi, hz, hsz, hby⟩ := info_parts elI64'.info
  go_enter Try.func7, Try.ntmps7
  go_wp2_with (refine wpList_make_full _ rfl (.tmp 6) (.tmp 6) _ rfl w.heap.size 2 i (.int .i64 0) 1 Try.underlying22 hi hz hsz .i64 .i64 (n : Int) (n : Int) n rfl rfl rfl rfl (by rw [hby]; omega) (by unfold maxLen; omega) (Nat.le_refl _) ?_; intro w1 ho hg)
  obtain ⟨_, hvl, cs, hb⟩ := own_at ho
  have hB : Below w.heap.size w w1 := ⟨hg.os, hg.tape, hg.output, hg.size, fun k hk => hg.block k hk (by simp)⟩
  generalize hv : (madeCells (Value.int IntKind.i64 0).cells (n * 1)).toList ++ cs = vs at *
  have hvn : n ≤ vs.length := by rw [← hv, List.length_append]; omega
  clear hv ho hvl h hg
  go_loopw [4] (fun i wr => ∃ j : Nat, j ≤ n ∧ i = .int .i64 j ∧ CopyRel w.heap.size (xs.map Go.Proofs.Ytjgflkoefimmoaa.i64) vs w wr j) (fun i _ => n - (intOf i).toNat)
  case atStart => exact ⟨0, by omega, rfl, ⟨by rw [setV_zero]; exact hb, hB⟩⟩
  case round =>
    obtain ⟨j, hj, rfl, hr⟩ := hrel
    have hs := H.out.next hr.below
    by_cases hlt : j < n
    · have hjl : j < xs.length := by rw [HN.out]; omega
      obtain ⟨a, rfl, hrow⟩ := hs.some j hjl
      have hc1 := hrow.atI64 j hjl
      have hc2 := hr.blk.cell j _ (setV_at _ vs j (by simp; omega) (by omega))
      have hf2 := hr.blk.free j
      clear hs
      go_wp2
      go_roundw
      case rel =>
        refine ⟨j + 1, by omega, by go_num, ?_, hr.below.setCell (by simp) _⟩
        · rw [← setV_set _ vs j (.int .i64 (rdI xs j)) (by rw [List.getElem?_map, List.getElem?_eq_getElem hjl]; simp [rdI, List.getD, List.getElem?_eq_getElem hjl, Go.Proofs.Ytjgflkoefimmoaa.i64]) (by omega)]
          exact hr.blk.set j _
      case measure => simp [intOf]; omega
    · obtain rfl : j = n := by omega
      have hbk := hr.blk
      have hbl := hr.below
      clear hs hr
      go_wp2
      go_ret
      refine ⟨w.heap.size, vs.drop j, rfl, Nat.le_refl _, ?_, hbl⟩
      have e1 : (xs.map Go.Proofs.Ytjgflkoefimmoaa.i64).take j = xs.map Go.Proofs.Ytjgflkoefimmoaa.i64 := List.take_of_length_le (by simp; rw [HN.out]; exact Nat.le_refl _)
      unfold setV at hbk
      rw [e1] at hbk
      exact hbk

/-- How far apart two lists are at one place. -/
def stepN (xs ys : List Int) (i : Nat) : Nat := if i < xs.length ∧ i < ys.length then (rdI xs i - rdI ys i).natAbs else 10
theorem stepN_both {xs ys : List Int} {i : Nat} (h1 : i < xs.length) (h2 : i < ys.length) : stepN xs ys i = (rdI xs i - rdI ys i).natAbs := if_pos ⟨h1, h2⟩
theorem stepN_one {xs ys : List Int} {i : Nat} (h : ¬ (i < xs.length ∧ i < ys.length)) : stepN xs ys i = 10 := if_neg h
/-- How far apart two lists are. -/
def apartN (xs ys : List Int) : Nat := sumN (stepN xs ys) (max xs.length ys.length)
theorem apart_sum (xs ys : List Int) (k : Nat) : sumN (stepN xs ys) (min xs.length ys.length + k) = sumN (stepN xs ys) (min xs.length ys.length) + 10 * k := by
  induction k with
  | zero => rfl
  | succ k ih => rw [← Nat.add_assoc, sumN, ih, stepN_one (by omega)]; omega
theorem apartN_min (xs ys : List Int) : apartN xs ys = sumN (stepN xs ys) (min xs.length ys.length) + 10 * (max xs.length ys.length - min xs.length ys.length) := by
  unfold apartN
  rw [← apart_sum xs ys (max xs.length ys.length - min xs.length ys.length)]
  congr 1
  omega
/-- A list of gaps. -/
structure Gaps (xs : List Int) (n : Nat) : Prop where
  len : xs.length = n
  small : n ≤ 30
  range : ∀ k, k < n → -100 ≤ rdI xs k ∧ rdI xs k ≤ 100
theorem gaps_of {xs : List Int} {n : Nat} (hn : xs.length = n) (h : gapsOk xs = true) : Gaps xs n := by
  subst hn; exact ⟨rfl, (gapsOk_iff h).1, (gapsOk_iff h).2⟩
theorem stepN_le {xs ys : List Int} {n m : Nat} (hx : Gaps xs n) (hy : Gaps ys m) (i : Nat) : stepN xs ys i ≤ 200 := by
  unfold stepN
  split
  · have h1 := hx.range i (by have := hx.len; omega); have h2 := hy.range i (by have := hy.len; omega); omega
  · omega
theorem apartN_le {xs ys : List Int} {n m : Nat} (hx : Gaps xs n) (hy : Gaps ys m) (k : Nat) : sumN (stepN xs ys) k ≤ 200 * k := sumN_le _ 200 (stepN_le hx hy) k

set_option maxHeartbeats 1000000 in
set_option maxRecDepth 100000 in
theorem l07Apart_any (A B : Option Addr) (c d : Nat) (xs ys : List Int) (n m : Nat) (w : World) (hx : Gaps xs n) (hy : Gaps ys m) (ha : SlE i64 w A xs) (hb : SlE i64 w B ys) :
    Calls Try.prog 21 #[.slice A n c, .slice B m d] w fun e w' => e = .returned (.int .i64 (apartN xs ys)) ∧ ∃ q, w' = w.drewN q := by
  have HX := Lib.hid hx
  have HY := Lib.hid hy
  have HA := Lib.hid ha
  have HB := Lib.hid hb
  have hn30 := hx.small
  have hm30 := hy.small
  have HNX := Lib.hid hx.len
  have HNY := Lib.hid hy.len
  clear hx hy ha hb
  go_enter Try.func21, Try.ntmps21
  go_wp2
  go_loopw [5, 6] (fun s i wr => ∃ k : Nat, k ≤ max n m ∧ i = .int .i64 k ∧ s = .int .i64 (sumN (stepN xs ys) k) ∧ ∃ q, wr = w.drewN q) (fun _ i _ => max n m - (intOf i).toNat)
  case atStart => exact ⟨0, by omega, rfl, rfl, 0, rfl⟩
  case round =>
    obtain ⟨k, hk, rfl, rfl, q, rfl⟩ := hrel
    have hle := apartN_le HX.out HY.out k
    by_cases h1 : k < n
    · have h1' : (k : Int) < (n : Int) := by omega
      by_cases h2 : k < m
      · have h2' : (k : Int) < (m : Int) := by omega
        obtain ⟨a, rfl, hra⟩ := HA.out.some k (by rw [HNX.out]; omega)
        obtain ⟨b, rfl, hrb⟩ := HB.out.some k (by rw [HNY.out]; omega)
        have hc1 := hra.atI64 k (by rw [HNX.out]; omega)
        have hc2 := hrb.atI64 k (by rw [HNY.out]; omega)
        have b1 := HX.out.range k h1
        have b2 := HY.out.range k h2
        have HS := Lib.hid (stepN_both (xs := xs) (ys := ys) (i := k) (by rw [HNX.out]; omega) (by rw [HNY.out]; omega))
        clear hra hrb
        go_wp2
        go_quiet ((go_at_call 29; refine (l00Max_dif _ _ _ (by omega)).mono ?_; rintro e w' ⟨rfl, rfl⟩; exact ⟨rfl, _, rfl⟩))
        go_wp2
        go_roundw
        case rel => exact ⟨k + 1, by omega, by go_num, by rw [sumN, HS.out]; go_num, _, rfl⟩
        case measure => simp [intOf]; omega
      · have h2' : ¬ (k : Int) < (m : Int) := by omega
        have HS := Lib.hid (stepN_one (xs := xs) (ys := ys) (i := k) (by rw [HNX.out, HNY.out]; omega))
        go_wp2
        go_roundw
        case rel => exact ⟨k + 1, by omega, by go_num, by rw [sumN, HS.out]; go_num, _, rfl⟩
        case measure => simp [intOf]; omega
    · have h1' : ¬ (k : Int) < (n : Int) := by omega
      by_cases h2 : k < m
      · have h2' : (k : Int) < (m : Int) := by omega
        have HS := Lib.hid (stepN_one (xs := xs) (ys := ys) (i := k) (by rw [HNX.out, HNY.out]; omega))
        go_wp2
        go_roundw
        case rel => exact ⟨k + 1, by omega, by go_num, by rw [sumN, HS.out]; go_num, _, rfl⟩
        case measure => simp [intOf]; omega
      · have h2' : ¬ (k : Int) < (m : Int) := by omega
        have HK := Lib.hid (show apartN xs ys = sumN (stepN xs ys) k by unfold apartN; rw [HNX.out, HNY.out, show max n m = k by omega])
        go_wp2
        go_ret
        exact ⟨by rw [HK.out]; rfl, _, rfl⟩
end Go.Proofs.Ytjgflkoefimmoaa
