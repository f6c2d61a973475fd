/- Contracts: the nearest hand. -/
import Derived.Test.YtjgflkoefimmoaaHandB
namespace Go.Proofs.Ytjgflkoefimmoaa
open Go Go.RowKit

theorem add_zero_addr (a : Addr) : a.add 0 = a := by unfold Addr.add; split <;> simp_all
/-- The first hand, of the first k, that is nearest. -/
def nearI (hs : List (List Int)) (ys : List Int) : Nat → Nat
  | 0 => 0
  | k + 1 => if k = 0 then 0 else if apartN (rdL hs k) ys < apartN (rdL hs (nearI hs ys k)) ys then k else nearI hs ys k
def nearM (hs : List (List Int)) (ys : List Int) (k : Nat) : Nat := apartN (rdL hs (nearI hs ys k)) ys
theorem nearI_one (hs : List (List Int)) (ys : List Int) : nearI hs ys 1 = 0 := rfl
theorem nearI_take {hs : List (List Int)} {ys : List Int} {k : Nat} (hk : k ≠ 0) (h : apartN (rdL hs k) ys < nearM hs ys k) : nearI hs ys (k + 1) = k := by
  unfold nearM at h; rw [nearI, if_neg hk, if_pos h]
theorem nearI_keep {hs : List (List Int)} {ys : List Int} {k : Nat} (hk : k ≠ 0) (h : ¬ apartN (rdL hs k) ys < nearM hs ys k) : nearI hs ys (k + 1) = nearI hs ys k := by
  unfold nearM at h; rw [nearI, if_neg hk, if_neg h]
theorem nearI_lt (hs : List (List Int)) (ys : List Int) (k : Nat) : nearI hs ys k < k + 1 := by
  induction k with
  | zero => simp [nearI]
  | succ k ih =>
    rw [nearI]
    split
    · omega
    · split <;> omega

/-- What NearestHand returns. -/
def nearOut (hs : List (List Int)) (ys : List Int) (n : Nat) : Int × Int × Int :=
  if gapsOk ys then (if handsCode hs n = 0 then (if n = 0 then (0, 0, 6) else ((nearI hs ys n : Int), (nearM hs ys n : Int), 0)) else (0, 0, handsCode hs n)) else (0, 0, 1)
theorem nearOut_bad {hs : List (List Int)} {ys : List Int} {n : Nat} (h : gapsOk ys = false) : nearOut hs ys n = (0, 0, 1) := by simp [nearOut, h]
theorem nearOut_code {hs : List (List Int)} {ys : List Int} {n : Nat} (h : gapsOk ys = true) (hc : ¬ handsCode hs n = 0) : nearOut hs ys n = (0, 0, handsCode hs n) := by simp [nearOut, h, hc]
theorem nearOut_none {hs : List (List Int)} {ys : List Int} {n : Nat} (h : gapsOk ys = true) (h0 : n = 0) : nearOut hs ys n = (0, 0, 6) := by
  have : handsCode hs n = 0 := code_few (fun j hj => by omega) (by omega)
  subst h0
  simp [nearOut, h, this]
theorem nearOut_ok {hs : List (List Int)} {ys : List Int} {n : Nat} (h : gapsOk ys = true) (hc : handsCode hs n = 0) (h0 : ¬ n = 0) : nearOut hs ys n = ((nearI hs ys n : Int), (nearM hs ys n : Int), 0) := by simp [nearOut, h, hc, h0]

set_option maxHeartbeats 1000000 in
set_option maxRecDepth 100000 in
theorem nearest_spec (A B : Option Addr) (c d : Nat) (hs : List (List Int)) (ys : List Int) (n m : Nat) (w : World) (hn : hs.length = n) (hm : Small2 hs n) (h : Sl2 w A hs) (hy : ys.length = m) (sm : m ≤ 1000000000) (hb : SlE i64 w B ys) :
    Calls Try.prog 11 #[.slice A n c, .slice B m d] w fun e w' => e = .returned (.tuple #[.int .i64 (nearOut hs ys n).1, .int .i64 (nearOut hs ys n).2.1, .int .i64 (nearOut hs ys n).2.2]) ∧ ∃ q, w' = w.drewN q := by
  have hm1 := hm.1
  cases hg : gapsOk ys
  · have HO := Lib.hid (nearOut_bad (hs := hs) (n := n) hg)
    have HG := Lib.hid hg
    go_enter Try.func11, Try.ntmps11
    go_wp2_with fail
    go_at_call 20
    refine (l07Gaps_any B d ys m _ hy sm hb).mono ?_
    rintro e w' ⟨rfl, rfl⟩
    go_wp2_with fail
    rw [HO.out]
    go_ret3
    exact ⟨rfl, 0, rfl⟩
  · have HG := Lib.hid hg
    by_cases hc : handsCode hs n = 0
    · obtain ⟨hall, h8⟩ := code_zero hc
      by_cases h0 : n = 0
      · have HO := Lib.hid (nearOut_none (hs := hs) hg h0)
        have hn0 : ((n : Int) == 0) = true := by simp; omega
        clear h0
        go_enter Try.func11, Try.ntmps11
        go_wp2_with fail
        go_at_call 20
        refine (l07Gaps_any B d ys m _ hy sm hb).mono ?_
        rintro e w' ⟨rfl, rfl⟩
        go_wp2_with fail
        go_at_call 25
        refine (l07Hands_any A c hs n _ hn hm h).mono ?_
        rintro e w' ⟨rfl, rfl⟩
        go_wp2_with fail
        rw [HO.out]
        go_ret3
        exact ⟨rfl, 0, rfl⟩
      · have HO := Lib.hid (nearOut_ok hg hc h0)
        have hn0 : ((n : Int) == 0) = false := by simp; omega
        have gy := gaps_of hy hg
        have HH := Lib.hid h
        have HB := Lib.hid hb
        have HN := Lib.hid hn
        have HALL := Lib.hid hall
        rw [HO.out]
        clear HO
        obtain ⟨a0, B0, d0, rfl, hc0, hs0⟩ := HH.out.some 0 (by rw [HN.out]; omega)
        rw [add_zero_addr] at hc0
        have hp1 : 0 < n := by omega
        have hp2 : (0 : Int) < (n : Int) := by omega
        have hix : ∀ w' : World, (Instr.indexAt 27 (.slice (some a0) n c) (.int .i64 0)).run Try.prog w' = .ok (.pointer (some a0)) w' := fun w' => by
          rw [run_indexAt_slice w' 27 a0 n c .i64 0 Try.underlying27]
          obtain ⟨i, hi⟩ : ∃ i, Try.prog.info? (Try.prog.elem 27) = some i := Option.isSome_iff_exists.1 (by kernel_rfl)
          rw [if_pos (by omega), run_sizeOf w' hi]
          simp [add_zero_addr]
        have g0 := gaps_of rfl (HALL.out 0 (by omega))
        go_enter Try.func11, Try.ntmps11
        go_wp2_with fail
        go_at_call 20
        refine (l07Gaps_any B d ys m _ hy sm hb).mono ?_
        rintro e w' ⟨rfl, rfl⟩
        go_wp2_with fail
        go_at_call 25
        refine (l07Hands_any (some a0) c hs n _ hn hm h).mono ?_
        rintro e w' ⟨rfl, rfl⟩
        go_wp2_with fail
        go_at_call 21
        refine (l07Apart_any B0 B d0 d _ ys _ m _ g0 gy hs0 HB.out).mono ?_
        rintro e w' ⟨rfl, q0, rfl⟩
        clear hc0 hs0 g0
        go_wp2_with fail
        go_loopw [8, 9, 10] (fun b v i wr => ∃ k : Nat, 1 ≤ k ∧ k ≤ n ∧ i = .int .i64 k ∧ b = .int .i64 (nearI hs ys k) ∧ v = .int .i64 (nearM hs ys k) ∧ ∃ q, wr = w.drewN q) (fun _ _ i _ => n - (intOf i).toNat)
        case atStart => exact ⟨1, by omega, by omega, rfl, rfl, rfl, q0, rfl⟩
        case round =>
          obtain ⟨k, hk1, hk, rfl, rfl, rfl, q, rfl⟩ := hrel
          have hlt2 := nearI_lt hs ys k
          by_cases hlt : k < n
          · obtain ⟨a1, B1, d1, ea, hc1, hs1⟩ := HH.out.some k (by rw [HN.out]; omega)
            obtain rfl := Option.some.inj ea
            have g1 := gaps_of rfl (HALL.out k hlt)
            have hc1' : (w.drewN q).cell? (a0.add k) = some (.slice B1 (rdL hs k).length d1) := hc1
            clear hc1
            have s1 : SlE Go.Proofs.Ytjgflkoefimmoaa.i64 (w.drewN q) B1 (rdL hs k) := hs1
            have sB : SlE Go.Proofs.Ytjgflkoefimmoaa.i64 (w.drewN q) B ys := HB.out
            clear hs1
            by_cases hle : (apartN (rdL hs k) ys : Int) < (nearM hs ys k : Int)
            · have HT := Lib.hid (nearI_take (by omega) (by omega : apartN (rdL hs k) ys < nearM hs ys k))
              have HM := Lib.hid (show nearM hs ys (k + 1) = apartN (rdL hs k) ys by unfold nearM; rw [HT.out])
              go_wp2_with fail
              go_at_call 21
              refine (l07Apart_any B1 B d1 d _ ys _ m _ g1 gy s1 sB).mono ?_
              rintro e w' ⟨rfl, q1, rfl⟩
              go_wp2_with fail
              go_roundw
              case rel => exact ⟨k + 1, by omega, by omega, by go_num, by rw [HT.out], by rw [HM.out], _, rfl⟩
              case measure => simp [intOf]; omega
            · have HT := Lib.hid (nearI_keep (by omega) (by omega : ¬ apartN (rdL hs k) ys < nearM hs ys k))
              have HM := Lib.hid (show nearM hs ys (k + 1) = nearM hs ys k by unfold nearM; rw [HT.out])
              go_wp2_with fail
              go_at_call 21
              refine (l07Apart_any B1 B d1 d _ ys _ m _ g1 gy s1 sB).mono ?_
              rintro e w' ⟨rfl, q1, rfl⟩
              go_wp2_with fail
              go_roundw
              case rel => exact ⟨k + 1, by omega, by omega, by go_num, by rw [HT.out], by rw [HM.out], _, rfl⟩
              case measure => simp [intOf]; omega
          · obtain rfl : k = n := by omega
            go_wp2_with fail
            go_ret3
            exact ⟨rfl, _, rfl⟩
    · have HO := Lib.hid (nearOut_code (hs := hs) hg hc)
      have hcb : (handsCode hs n != 0) = true := by simpa using hc
      go_enter Try.func11, Try.ntmps11
      go_wp2_with fail
      go_at_call 20
      refine (l07Gaps_any B d ys m _ hy sm hb).mono ?_
      rintro e w' ⟨rfl, rfl⟩
      go_wp2_with fail
      go_at_call 25
      refine (l07Hands_any A c hs n _ hn hm h).mono ?_
      rintro e w' ⟨rfl, rfl⟩
      go_wp2_with fail
      rw [HO.out]
      go_ret3
      exact ⟨rfl, 0, rfl⟩

set_option maxHeartbeats 1000000 in
set_option maxRecDepth 100000 in
theorem nearest_impl (A B : Option Addr) (c d : Nat) (hs : List (List Int)) (ys : List Int) (n m : Nat) (w : World) (hn : hs.length = n) (hm : Small2 hs n) (h : Sl2 w A hs) (hy : ys.length = m) (sm : m ≤ 1000000000) (hb : SlE i64 w B ys) :
    Calls Try.prog 13 #[.slice A n c, .slice B m d] w fun e w' => e = .returned (.tuple #[.int .i64 (nearOut hs ys n).1, .int .i64 (nearOut hs ys n).2.1, .int .i64 (nearOut hs ys n).2.2]) ∧ ∃ q, w' = w.drewN q := by
  have hm1 := hm.1
  cases hg : gapsOk ys
  · have HO := Lib.hid (nearOut_bad (hs := hs) (n := n) hg)
    have HG := Lib.hid hg
    by_cases hc1 : handsCode hs n = 1
    · have hcb : (handsCode hs n == 1) = true := by simpa using hc1
      go_enter Try.func13, Try.ntmps13
      go_wp2_with fail
      go_at_call 26
      refine (handCode_any A c hs n _ hn hm h).mono ?_
      rintro e w' ⟨rfl, rfl⟩
      go_wp2_with fail
      rw [HO.out]
      go_ret3
      exact ⟨rfl, 0, rfl⟩
    · have hcb : (handsCode hs n == 1) = false := by simpa using hc1
      go_enter Try.func13, Try.ntmps13
      go_wp2_with fail
      go_at_call 26
      refine (handCode_any A c hs n _ hn hm h).mono ?_
      rintro e w' ⟨rfl, rfl⟩
      go_wp2_with fail
      go_at_call 22
      refine (areGaps_any B d ys m _ hy sm hb).mono ?_
      rintro e w' ⟨rfl, rfl⟩
      go_wp2_with fail
      rw [HO.out]
      go_ret3
      exact ⟨rfl, 0, rfl⟩
  · have HG := Lib.hid hg
    by_cases hc : handsCode hs n = 0
    · obtain ⟨hall, h8⟩ := code_zero hc
      by_cases h0 : n = 0
      · have HO := Lib.hid (nearOut_none (hs := hs) hg h0)
        have hn0 : ((n : Int) == 0) = true := by simp; omega
        clear h0
        go_enter Try.func13, Try.ntmps13
        go_wp2_with fail
        go_at_call 26
        refine (handCode_any A c hs n _ hn hm h).mono ?_
        rintro e w' ⟨rfl, rfl⟩
        go_wp2_with fail
        go_at_call 22
        refine (areGaps_any B d ys m _ hy sm hb).mono ?_
        rintro e w' ⟨rfl, rfl⟩
        go_wp2_with fail
        rw [HO.out]
        go_ret3
        exact ⟨rfl, 0, rfl⟩
      · have HO := Lib.hid (nearOut_ok hg hc h0)
        have hn0 : ((n : Int) == 0) = false := by simp; omega
        have gy := gaps_of hy hg
        have HH := Lib.hid h
        have HB := Lib.hid hb
        have HN := Lib.hid hn
        have HALL := Lib.hid hall
        rw [HO.out]
        clear HO
        go_enter Try.func13, Try.ntmps13
        go_wp2_with fail
        go_at_call 26
        refine (handCode_any A c hs n _ hn hm h).mono ?_
        rintro e w' ⟨rfl, rfl⟩
        go_wp2_with fail
        go_at_call 22
        refine (areGaps_any B d ys m _ hy sm hb).mono ?_
        rintro e w' ⟨rfl, rfl⟩
        go_wp2_with fail
        go_loopw [8, 9, 33] (fun b v i wr => ∃ k : Nat, k ≤ n ∧ i = .int .i64 k ∧ b = .int .i64 (nearI hs ys k) ∧ v = .int .i64 (if k = 0 then -1 else (nearM hs ys k : Int)) ∧ ∃ q, wr = w.drewN q) (fun _ _ i _ => n - (intOf i).toNat)
        case atStart => exact ⟨0, by omega, rfl, rfl, rfl, 0, rfl⟩
        case round =>
          obtain ⟨k, hk, rfl, rfl, rfl, q, rfl⟩ := hrel
          have hlt2 := nearI_lt hs ys k
          by_cases hlt : k < n
          · obtain ⟨a0, B1, d1, rfl, hc1, hs1⟩ := HH.out.some k (by rw [HN.out]; omega)
            have g1 := gaps_of rfl (HALL.out k hlt)
            have hc1' : (w.drewN q).cell? (a0.add k) = some (.slice B1 (rdL hs k).length d1) := hc1
            clear hc1
            have s1 : SlE Go.Proofs.Ytjgflkoefimmoaa.i64 (w.drewN q) B1 (rdL hs k) := hs1
            have sB : SlE Go.Proofs.Ytjgflkoefimmoaa.i64 (w.drewN q) B ys := HB.out
            clear hs1
            by_cases hk0 : k = 0
            · subst hk0
              have HT := Lib.hid (nearI_one hs ys)
              have HM := Lib.hid (show nearM hs ys (0 + 1) = apartN (rdL hs 0) ys from rfl)
              rw [add_zero_addr] at hc1'
              simp only [if_true]
              go_wp2_with fail
              go_at_call 23
              refine (apart_impl B1 B d1 d _ ys _ m _ g1 gy s1 sB).mono ?_
              rintro e w' ⟨rfl, q1, rfl⟩
              go_wp2_with fail
              go_roundw
              case rel => exact ⟨0 + 1, by omega, by go_num, by rw [HT.out]; rfl, by rw [HM.out]; rfl, _, rfl⟩
              case measure => simp [intOf]; omega
            · rw [if_neg hk0]
              have hm0 : ¬ (nearM hs ys k : Int) < 0 := by omega
              by_cases hle : (apartN (rdL hs k) ys : Int) < (nearM hs ys k : Int)
              · have HT := Lib.hid (nearI_take hk0 (by omega : apartN (rdL hs k) ys < nearM hs ys k))
                have HM := Lib.hid (show nearM hs ys (k + 1) = apartN (rdL hs k) ys by unfold nearM; rw [HT.out])
                go_wp2_with fail
                go_at_call 23
                refine (apart_impl B1 B d1 d _ ys _ m _ g1 gy s1 sB).mono ?_
                rintro e w' ⟨rfl, q1, rfl⟩
                go_wp2_with fail
                go_roundw
                case rel => exact ⟨k + 1, by omega, by go_num, by rw [HT.out], by rw [if_neg (by omega), HM.out], _, rfl⟩
                case measure => simp [intOf]; omega
              · have HT := Lib.hid (nearI_keep hk0 (by omega : ¬ apartN (rdL hs k) ys < nearM hs ys k))
                have HM := Lib.hid (show nearM hs ys (k + 1) = nearM hs ys k by unfold nearM; rw [HT.out])
                go_wp2_with fail
                go_at_call 23
                refine (apart_impl B1 B d1 d _ ys _ m _ g1 gy s1 sB).mono ?_
                rintro e w' ⟨rfl, q1, rfl⟩
                go_wp2_with fail
                go_roundw
                case rel => exact ⟨k + 1, by omega, by go_num, by rw [HT.out], by rw [if_neg (by omega), HM.out], _, rfl⟩
                case measure => simp [intOf]; omega
          · obtain rfl : k = n := by omega
            rw [if_neg h0]
            go_wp2_with fail
            go_ret3
            exact ⟨rfl, _, rfl⟩
    · have HO := Lib.hid (nearOut_code (hs := hs) hg hc)
      have hcb : (handsCode hs n != 0) = true := by simpa using hc
      by_cases hc1 : handsCode hs n = 1
      · have hcb1 : (handsCode hs n == 1) = true := by simpa using hc1
        rw [hc1] at HO
        go_enter Try.func13, Try.ntmps13
        go_wp2_with fail
        go_at_call 26
        refine (handCode_any A c hs n _ hn hm h).mono ?_
        rintro e w' ⟨rfl, rfl⟩
        go_wp2_with fail
        rw [HO.out]
        go_ret3
        exact ⟨rfl, 0, rfl⟩
      · have hcb1 : (handsCode hs n == 1) = false := by simpa using hc1
        go_enter Try.func13, Try.ntmps13
        go_wp2_with fail
        go_at_call 26
        refine (handCode_any A c hs n _ hn hm h).mono ?_
        rintro e w' ⟨rfl, rfl⟩
        go_wp2_with fail
        go_at_call 22
        refine (areGaps_any B d ys m _ hy sm hb).mono ?_
        rintro e w' ⟨rfl, rfl⟩
        go_wp2_with fail
        rw [HO.out]
        go_ret3
        exact ⟨rfl, 0, rfl⟩
end Go.Proofs.Ytjgflkoefimmoaa
