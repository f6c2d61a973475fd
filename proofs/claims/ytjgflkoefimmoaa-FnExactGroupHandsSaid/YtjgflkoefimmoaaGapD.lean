/- Contracts: GapsApart, by the program and by the reference. -/
import Derived.Test.YtjgflkoefimmoaaGapC
namespace Go.Proofs.Ytjgflkoefimmoaa
open Go Go.RowKit

/-- What GapsApart returns. -/
def gapsOut (xs ys : List Int) : Int × Int := if gapsOk xs && gapsOk ys then ((apartN xs ys : Int), 0) else (0, 1)
theorem gapsOut_yes {xs ys : List Int} (h1 : gapsOk xs = true) (h2 : gapsOk ys = true) : gapsOut xs ys = ((apartN xs ys : Int), 0) := by simp [gapsOut, h1, h2]
theorem gapsOut_no1 {xs ys : List Int} (h1 : gapsOk xs = false) : gapsOut xs ys = (0, 1) := by simp [gapsOut, h1]
theorem gapsOut_no2 {xs ys : List Int} (h1 : gapsOk xs = true) (h2 : gapsOk ys = false) : gapsOut xs ys = (0, 1) := by simp [gapsOut, h1, h2]

set_option maxRecDepth 100000 in
theorem gapsApart_spec (A B : Option Addr) (c d : Nat) (xs ys : List Int) (n m : Nat) (w : World) (hn : xs.length = n) (hm : ys.length = m) (sn : n ≤ 1000000000) (sm : m ≤ 1000000000) (ha : SlE i64 w A xs) (hb : SlE i64 w B ys) :
    Calls Try.prog 6 #[.slice A n c, .slice B m d] w fun e w' => e = .returned (.tuple #[.int .i64 (gapsOut xs ys).1, .int .i64 (gapsOut xs ys).2]) ∧ ∃ q, w' = w.drewN q := by
  cases h1 : gapsOk xs
  · have HO := Lib.hid (gapsOut_no1 (ys := ys) h1)
    have H1 := Lib.hid h1
    go_enter Try.func6, Try.ntmps6
    go_wp2_with (go_at_call 20; refine (l07Gaps_any A c xs n _ hn sn ha).mono ?_; rintro e w' ⟨rfl, rfl⟩)
    rw [HO.out]
    go_ret2
    exact ⟨rfl, 0, rfl⟩
  · cases h2 : gapsOk ys
    · have HO := Lib.hid (gapsOut_no2 h1 h2)
      go_enter Try.func6, Try.ntmps6
      go_wp2_with fail
      go_at_call 20
      refine (l07Gaps_any A c xs n _ hn sn ha).mono ?_
      rintro e w' ⟨rfl, rfl⟩
      go_wp2_with fail
      go_at_call 20
      refine (l07Gaps_any B d ys m _ hm sm hb).mono ?_
      rintro e w' ⟨rfl, rfl⟩
      go_wp2_with fail
      rw [HO.out]
      go_ret2
      exact ⟨rfl, 0, rfl⟩
    · have HO := Lib.hid (gapsOut_yes h1 h2)
      have gx := gaps_of hn h1
      have gy := gaps_of hm h2
      go_enter Try.func6, Try.ntmps6
      go_wp2_with fail
      go_at_call 20
      refine (l07Gaps_any A c xs n _ hn sn ha).mono ?_
      rintro e w' ⟨rfl, rfl⟩
      go_wp2_with fail
      go_at_call 20
      refine (l07Gaps_any B d ys m _ hm sm hb).mono ?_
      rintro e w' ⟨rfl, rfl⟩
      go_wp2_with fail
      go_at_call 21
      refine (l07Apart_any A B c d xs ys n m _ gx gy ha hb).mono ?_
      rintro e w' ⟨rfl, q, rfl⟩
      go_wp2_with fail
      rw [HO.out]
      go_ret2
      exact ⟨rfl, _, rfl⟩

set_option maxRecDepth 100000 in
theorem gapsApart_impl (A B : Option Addr) (c d : Nat) (xs ys : List Int) (n m : Nat) (w : World) (hn : xs.length = n) (hm : ys.length = m) (sn : n ≤ 1000000000) (sm : m ≤ 1000000000) (ha : SlE i64 w A xs) (hb : SlE i64 w B ys) :
    Calls Try.prog 8 #[.slice A n c, .slice B m d] w fun e w' => e = .returned (.tuple #[.int .i64 (gapsOut xs ys).1, .int .i64 (gapsOut xs ys).2]) ∧ ∃ q, w' = w.drewN q := by
  cases h1 : gapsOk xs
  · have HO := Lib.hid (gapsOut_no1 (ys := ys) h1)
    have H1 := Lib.hid h1
    go_enter Try.func8, Try.ntmps8
    go_wp2_with (go_at_call 22; refine (areGaps_any A c xs n _ hn sn ha).mono ?_; rintro e w' ⟨rfl, rfl⟩)
    rw [HO.out]
    go_ret2
    exact ⟨rfl, 0, rfl⟩
  · cases h2 : gapsOk ys
    · have HO := Lib.hid (gapsOut_no2 h1 h2)
      go_enter Try.func8, Try.ntmps8
      go_wp2_with fail
      go_at_call 22
      refine (areGaps_any A c xs n _ hn sn ha).mono ?_
      rintro e w' ⟨rfl, rfl⟩
      go_wp2_with fail
      go_at_call 22
      refine (areGaps_any B d ys m _ hm sm hb).mono ?_
      rintro e w' ⟨rfl, rfl⟩
      go_wp2_with fail
      rw [HO.out]
      go_ret2
      exact ⟨rfl, 0, rfl⟩
    · have HO := Lib.hid (gapsOut_yes h1 h2)
      have gx := gaps_of hn h1
      have gy := gaps_of hm h2
      go_enter Try.func8, Try.ntmps8
      go_wp2_with fail
      go_at_call 22
      refine (areGaps_any A c xs n _ hn sn ha).mono ?_
      rintro e w' ⟨rfl, rfl⟩
      go_wp2_with fail
      go_at_call 22
      refine (areGaps_any B d ys m _ hm sm hb).mono ?_
      rintro e w' ⟨rfl, rfl⟩
      go_wp2_with fail
      go_at_call 23
      refine (apart_impl A B c d xs ys n m _ gx gy ha hb).mono ?_
      rintro e w' ⟨rfl, q, rfl⟩
      go_wp2_with fail
      rw [HO.out]
      go_ret2
      exact ⟨rfl, _, rfl⟩
end Go.Proofs.Ytjgflkoefimmoaa
