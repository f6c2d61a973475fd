/- Contracts: the width of a word; two lists are compared; a list has a number. -/
import Derived.Test.YtkbmfemncadlnaaGreatDoorSrcI
import Derived.Test.YtkbmfemncadlnaaGreatDoorGF
import Derived.Test.YtkbmfemncadlnaaGreatDoorGD
import Derived.BigRegion

namespace Go.Proofs.YtkbmfemncadlnaaGreatDoor
open Go Go.RowKit
set_option linter.unusedVariables false
set_option linter.unusedSimpArgs false

theorem vText_LL {l : List UInt8} (h : LL l) (h60 : l.length ≤ 60) : vText l = true := vText_iff.2 ⟨fun i hi => by
  have := h i hi
  unfold chOk
  rw [if_neg (fun e => by rw [e] at this; revert this; decide)]
  exact this, h60⟩
theorem vWord_LL {l : List UInt8} (h : LL l) (h1 : 1 ≤ l.length) (h60 : l.length ≤ 60) : vWord l = true := by
  unfold vWord
  rw [vText_LL h h60, isW_iff.2 ⟨h, by omega⟩]; rfl

set_option maxHeartbeats 1000000 in
set_option maxRecDepth 100000 in
theorem wordWide_impl (f : Fc) (S : Value) (l : List UInt8) (w : World) (hf : HasF w f S) (hv : validF f = true) (hl : LL l) (h1 : 1 ≤ l.length) (h60 : l.length ≤ 60) (hmx : MaxW w) :
    Calls Tryz.prog 26 #[.agg (fcV f S).toArray, .string ⟨l.toArray⟩] w fun e w' => e = .returned (.tuple #[.int .i64 (lineW f l), .int .i64 0]) ∧ Below w.heap.size w w' := by
  obtain ⟨hft, A, n, c, rfl, hn, hm, hsl⟩ := hf
  have HF := Lib.hid hft
  have HN := Lib.hid hn
  have HV := Lib.hid hv
  have HVW := Lib.hid (vWord_LL hl h1 h60)
  have HL := Lib.hid hl
  have hb1 := below_one w (.cells (fcV f (.slice A n c)).toArray 44)
  have HB := Lib.hid hb1
  have HK := Lib.hid (Blk.new w 44 (fcV f (.slice A n c)))
  have HS := Lib.hid (hsl.next hb1)
  have HM := Lib.hid (hmx.next hb1)
  clear hft hn hv hl hb1 hsl hmx
  go_enter Tryz.func26, Tryz.ntmps26
  repeat ((with_reducible fail_if_success (show wpList _ _ _ (⟨some 6, _, _, _, _, _⟩ :: _) _ _)); first | go_values | go_skip | go_guarded | go_step | go_upon)
  generalize w.alloc (.cells (fcV f (.slice A n c)).toArray 44) = W0 at *
  refine wpList_load_row rfl 44 (.tmp 2) rfl _ rfl 44 (fcV f (.slice A n c)).toArray _ _ HK.out Tryz.underlying44 rfl (by rw [List.size_toArray, fcV_length HF.out]; exact szFcI) ?_
  repeat (first | go_values | go_skip | go_guarded | go_step | go_upon)
  go_at_call 49
  refine (face_impl f A n c W0 HF.out HN.out (by omega) HS.out).mono ?_
  rintro e w1 ⟨he, hb1⟩
  rw [HV.out] at he
  subst he
  have HK1 := Lib.hid (HK.out.next hb1)
  have HS1 := Lib.hid (HS.out.next hb1)
  have HM1 := Lib.hid (HM.out.next hb1)
  have HB1 := Lib.hid (below_step HB.out hb1)
  clear hb1 HK HS HM HB
  dsimp only
  repeat (first | go_values | go_skip | go_guarded | go_step | go_upon)
  go_at_call 50
  refine (word_impl ⟨l.toArray⟩ w1 (by simp [ByteArray.size]; omega) HM1.out).mono ?_
  rintro e w2 ⟨he, q, hq⟩
  rw [bs_mk, HVW.out] at he
  subst he
  have hb2 : Below w1.heap.size w1 w2 := by rw [hq]; exact below_drewN (Below.refl _ _) q
  have HK2 := Lib.hid (HK1.out.next hb2)
  have HS2 := Lib.hid (HS1.out.next hb2)
  have HB2 := Lib.hid (below_step HB1.out hb2)
  clear hb2 hq HK1 HS1 HM1 HB1
  dsimp only
  repeat ((with_reducible fail_if_success (show wpList _ _ _ (⟨some 14, _, _, _, _, _⟩ :: _) _ _)); first | go_values | go_skip | go_guarded | go_step | go_upon)
  refine wpList_load_row rfl 44 (.tmp 2) rfl _ rfl 44 (fcV f (.slice A n c)).toArray _ _ HK2.out Tryz.underlying44 rfl (by rw [List.size_toArray, fcV_length HF.out]; exact szFcI) ?_
  repeat (first | go_values | go_skip | go_guarded | go_step | go_upon)
  go_at_call 63
  refine (wide_impl f A n c ⟨l.toArray⟩ w2 HF.out (validF_iff.1 HV.out) HN.out (by omega) (by rw [bs_mk]; exact HL.out.ls) (by simp [ByteArray.size]; omega) HS2.out).mono ?_
  rintro e w3 ⟨he, hb3⟩
  rw [bs_mk] at he
  subst he
  have HB3 := Lib.hid (below_step HB2.out hb3)
  clear hb3
  dsimp only
  repeat (first | go_values | go_skip | go_guarded | go_step | go_upon)
  go_ret2
  exact ⟨rfl, HB3.out⟩

theorem szI64c : (Tryz.prog.info? 2).map (·.size) = some 1 := by kernel_rfl
theorem list_eq_of {xs ys : List Int} (hl : xs.length = ys.length) (h : ∀ i, i < xs.length → rdI xs i = rdI ys i) : xs = ys := by
  refine List.ext_getElem hl fun i h1 h2 => ?_
  have := h i h1
  unfold rdI at this
  simpa [List.getD_eq_getElem?_getD, List.getElem?_eq_getElem h1, List.getElem?_eq_getElem h2] using this
attribute [local irreducible] wpQuiet in
set_option maxHeartbeats 1000000 in
set_option maxRecDepth 100000 in
theorem l00Same_any (A B : Option Addr) (c d : Nat) (xs ys : List Int) (n m : Nat) (w : World) (hx : xs.length = n) (hy : ys.length = m) (hn : n ≤ 1048576) (hm : m ≤ 1048576) (ha : SlE i64 w A xs) (hb : SlE i64 w B ys) :
    Calls Tryz.prog 62 #[.slice A n c, .slice B m d] w fun e w' => e = .returned (.bool (decide (xs = ys))) ∧ Below w.heap.size w w' := by
  have HA := Lib.hid ha
  have HB := Lib.hid hb
  have HX := Lib.hid hx
  have HY := Lib.hid hy
  clear ha hb hx hy
  by_cases hnm : n = m
  · subst hnm
    go_enter Tryz.func62, Tryz.ntmps62
    repeat ((with_reducible fail_if_success (show Code.wp _ (Code.loop _) _ _ _)); first | go_values | go_skip | go_guarded | go_step | go_upon)
    go_loopw [5] (fun i wr => ∃ k : Nat, k ≤ n ∧ i = .int .i64 k ∧ (∀ j, j < k → rdI xs j = rdI ys j) ∧ Below w.heap.size w wr) (fun i _ => n - (intOf i).toNat)
    case atStart => exact ⟨0, by omega, rfl, fun j hj => by omega, Below.refl _ _⟩
    case round =>
      obtain ⟨k, hk, rfl, hs, hbel⟩ := hrel
      have HS := Lib.hid hs
      have HBL := Lib.hid hbel
      clear hs hbel
      by_cases hlt : k < n
      · obtain ⟨a, rfl, ra⟩ := (HA.out.next HBL.out).some k (by rw [HX.out]; exact hlt)
        obtain ⟨b, rfl, rb⟩ := (HB.out.next HBL.out).some k (by rw [HY.out]; exact hlt)
        have RA := Lib.hid ra
        have RB := Lib.hid rb
        clear ra rb
        cases he : (rdI xs k != rdI ys k)
        all_goals
          repeat ((with_reducible fail_if_success (show Code.wp _ (Code.region 6 _ _) _ _ _)); first | go_values | go_skip | go_guarded | go_step | go_upon)
        · skip
          refine region_below (wr.heap.size) (by kernel_rfl) (by kernel_rfl) ?_
          refine below_run (by kernel_rfl) (.slice (some a) n c) (fun w' hw' => by kernel_rfl) ?_
          refine below_run (by kernel_rfl) (.int .i64 k) (fun w' hw' => by kernel_rfl) ?_
          refine below_run (by kernel_rfl) (.pointer (some (Addr.add a (k * 1)))) (fun w' hw' => exec_index 47 (.tmp 17) (.tmp 18) rfl a n c (by kernel_rfl) .i64 k (by kernel_rfl) hlt 2 Tryz.underlying47 1 szI64c) ?_
          refine below_run (by kernel_rfl) (.int .i64 (rdI xs k)) (fun w' hw' => exec_load1 2 (.tmp 19) rfl (a.add (k * 1)) (by kernel_rfl) (.int .i64 (rdI xs k)) (by rw [Nat.mul_one]; exact (RA.out.next hw').atI64 k (by rw [HX.out]; exact hlt)) _ Tryz.underlying2 rfl) ?_
          refine below_run (by kernel_rfl) (.slice (some b) n d) (fun w' hw' => by kernel_rfl) ?_
          refine below_run (by kernel_rfl) (.int .i64 k) (fun w' hw' => by kernel_rfl) ?_
          refine below_run (by kernel_rfl) (.pointer (some (Addr.add b (k * 1)))) (fun w' hw' => exec_index 47 (.tmp 21) (.tmp 22) rfl b n d (by kernel_rfl) .i64 k (by kernel_rfl) hlt 2 Tryz.underlying47 1 szI64c) ?_
          refine below_run (by kernel_rfl) (.int .i64 (rdI ys k)) (fun w' hw' => exec_load1 2 (.tmp 23) rfl (b.add (k * 1)) (by kernel_rfl) (.int .i64 (rdI ys k)) (by rw [Nat.mul_one]; exact (RB.out.next hw').atI64 k (by rw [HY.out]; exact hlt)) _ Tryz.underlying2 rfl) ?_
          refine below_run (by kernel_rfl) (.bool false) (fun w' hw' => Eq.trans (show (execOp _ _).run _ w' = .ok (.value (.bool (rdI xs k != rdI ys k))) w' by kernel_rfl) (by rw [he])) ?_
          refine wpQuiet_nil ?_
          intro W2 hW2
          simp only [Act.put, List.setIfInBounds_toArray, List.set_cons_succ, List.set_cons_zero]
          repeat (first | go_values | go_skip | go_guarded | go_step | go_upon)
          go_roundw
          case rel => exact ⟨k + 1, by omega, by go_num, fun j hj => by
            by_cases e : j = k
            · subst e; simpa using he
            · exact HS.out j (by omega), below_step HBL.out hW2⟩
          case measure => simp [intOf]; omega
        · skip
          refine region_below (wr.heap.size) (by kernel_rfl) (by kernel_rfl) ?_
          refine below_run (by kernel_rfl) (.slice (some a) n c) (fun w' hw' => by kernel_rfl) ?_
          refine below_run (by kernel_rfl) (.int .i64 k) (fun w' hw' => by kernel_rfl) ?_
          refine below_run (by kernel_rfl) (.pointer (some (Addr.add a (k * 1)))) (fun w' hw' => exec_index 47 (.tmp 17) (.tmp 18) rfl a n c (by kernel_rfl) .i64 k (by kernel_rfl) hlt 2 Tryz.underlying47 1 szI64c) ?_
          refine below_run (by kernel_rfl) (.int .i64 (rdI xs k)) (fun w' hw' => exec_load1 2 (.tmp 19) rfl (a.add (k * 1)) (by kernel_rfl) (.int .i64 (rdI xs k)) (by rw [Nat.mul_one]; exact (RA.out.next hw').atI64 k (by rw [HX.out]; exact hlt)) _ Tryz.underlying2 rfl) ?_
          refine below_run (by kernel_rfl) (.slice (some b) n d) (fun w' hw' => by kernel_rfl) ?_
          refine below_run (by kernel_rfl) (.int .i64 k) (fun w' hw' => by kernel_rfl) ?_
          refine below_run (by kernel_rfl) (.pointer (some (Addr.add b (k * 1)))) (fun w' hw' => exec_index 47 (.tmp 21) (.tmp 22) rfl b n d (by kernel_rfl) .i64 k (by kernel_rfl) hlt 2 Tryz.underlying47 1 szI64c) ?_
          refine below_run (by kernel_rfl) (.int .i64 (rdI ys k)) (fun w' hw' => exec_load1 2 (.tmp 23) rfl (b.add (k * 1)) (by kernel_rfl) (.int .i64 (rdI ys k)) (by rw [Nat.mul_one]; exact (RB.out.next hw').atI64 k (by rw [HY.out]; exact hlt)) _ Tryz.underlying2 rfl) ?_
          refine below_run (by kernel_rfl) (.bool true) (fun w' hw' => Eq.trans (show (execOp _ _).run _ w' = .ok (.value (.bool (rdI xs k != rdI ys k))) w' by kernel_rfl) (by rw [he])) ?_
          refine wpQuiet_nil ?_
          intro W2 hW2
          simp only [Act.put, List.setIfInBounds_toArray, List.set_cons_succ, List.set_cons_zero]
          repeat (first | go_values | go_skip | go_guarded | go_step | go_upon)
          go_ret
          have hne : ¬ xs = ys := fun e => by rw [e] at he; simp at he
          exact ⟨by rw [decide_eq_false hne]; rfl, below_step HBL.out hW2⟩
      · obtain rfl : k = n := by omega
        have he : xs = ys := list_eq_of (by rw [HX.out, HY.out]) (by rw [HX.out]; exact HS.out)
        repeat (first | go_values | go_skip | go_guarded | go_step | go_upon)
        go_ret
        exact ⟨by rw [decide_eq_true he]; rfl, HBL.out⟩
  · have hni : ((n : Int) != (m : Int)) = true := by simp; omega
    have hne : ¬ xs = ys := fun e => hnm (by rw [← HX.out, ← HY.out, e])
    go_enter Tryz.func62, Tryz.ntmps62
    repeat (first | go_values | go_skip | go_guarded | go_step | go_upon)
    go_ret
    exact ⟨by rw [decide_eq_false hne]; rfl, Below.refl _ _⟩
set_option maxRecDepth 100000 in
theorem same_any (A B : Option Addr) (c d : Nat) (xs ys : List Int) (n m : Nat) (w : World) (hx : xs.length = n) (hy : ys.length = m) (hn : n ≤ 1048576) (hm : m ≤ 1048576) (ha : SlE i64 w A xs) (hb : SlE i64 w B ys) :
    Calls Tryz.prog 25 #[.slice A n c, .slice B m d] w fun e w' => e = .returned (.bool (decide (xs = ys))) ∧ Below w.heap.size w w' := by
  go_enter Tryz.func25, Tryz.ntmps25
  repeat (first | go_values | go_skip | go_guarded | go_step | go_upon)
  go_at_call 62
  refine (l00Same_any A B c d xs ys n m w hx hy hn hm ha hb).mono ?_
  rintro e w1 ⟨rfl, hb1⟩
  have HB := Lib.hid hb1
  clear hb1 ha hb hx hy
  dsimp only
  repeat (first | go_values | go_skip | go_guarded | go_step | go_upon)
  go_ret
  exact ⟨rfl, HB.out⟩
set_option maxHeartbeats 1000000 in
set_option maxRecDepth 100000 in
theorem l00Has_any (A : Option Addr) (n c : Nat) (xs : List Int) (x : Int) (w : World) (hn : xs.length = n) (hm : n ≤ 1048576) (h : SlE i64 w A xs) :
    Calls Tryz.prog 65 #[.slice A n c, .int .i64 x] w fun e w' => e = .returned (.bool (decide (∃ j, j < n ∧ rdI xs j = x))) ∧ Below w.heap.size w w' := by
  have HA := Lib.hid h
  have HN := Lib.hid hn
  clear h hn
  go_enter Tryz.func65, Tryz.ntmps65
  repeat ((with_reducible fail_if_success (show Code.wp _ (Code.loop _) _ _ _)); first | go_values | go_skip | go_guarded | go_step | go_upon)
  go_loopw [5] (fun i wr => ∃ k : Nat, k ≤ n ∧ i = .int .i64 k ∧ (∀ j, j < k → rdI xs j ≠ x) ∧ Below w.heap.size w wr) (fun i _ => n - (intOf i).toNat)
  case atStart => exact ⟨0, by omega, rfl, fun j hj => by omega, Below.refl _ _⟩
  case round =>
    obtain ⟨k, hk, rfl, hs, hbel⟩ := hrel
    have HS := Lib.hid hs
    have HB := Lib.hid hbel
    clear hs hbel
    by_cases hlt : k < n
    · obtain ⟨a, rfl, ra⟩ := (HA.out.next HB.out).some k (by rw [HN.out]; exact hlt)
      have ca := ra.atI64 k (by rw [HN.out]; exact hlt)
      clear ra
      cases he : (rdI xs k == x)
      · skip
        repeat (first | go_values | go_skip | go_guarded | go_step | go_upon)
        go_roundw
        case rel => exact ⟨k + 1, by omega, by go_num, fun j hj => by
          by_cases e : j = k
          · subst e; simpa using he
          · exact HS.out j (by omega), HB.out⟩
        case measure => simp [intOf]; omega
      · skip
        repeat (first | go_values | go_skip | go_guarded | go_step | go_upon)
        go_ret
        exact ⟨by rw [decide_eq_true ⟨k, hlt, by simpa using he⟩]; rfl, HB.out⟩
    · obtain rfl : k = n := by omega
      repeat (first | go_values | go_skip | go_guarded | go_step | go_upon)
      go_ret
      exact ⟨by rw [decide_eq_false (fun ⟨j, hj, e⟩ => HS.out j hj e)]; rfl, HB.out⟩
set_option maxRecDepth 100000 in
theorem has_any (A : Option Addr) (n c : Nat) (xs : List Int) (x : Int) (w : World) (hn : xs.length = n) (hm : n ≤ 1048576) (h : SlE i64 w A xs) :
    Calls Tryz.prog 30 #[.slice A n c, .int .i64 x] w fun e w' => e = .returned (.bool (decide (∃ j, j < n ∧ rdI xs j = x))) ∧ Below w.heap.size w w' := by
  go_enter Tryz.func30, Tryz.ntmps30
  repeat (first | go_values | go_skip | go_guarded | go_step | go_upon)
  go_at_call 65
  refine (l00Has_any A n c xs x w hn hm h).mono ?_
  rintro e w1 ⟨rfl, hb1⟩
  have HB := Lib.hid hb1
  clear hb1 h hn
  dsimp only
  repeat (first | go_values | go_skip | go_guarded | go_step | go_upon)
  go_ret
  exact ⟨rfl, HB.out⟩
end Go.Proofs.YtkbmfemncadlnaaGreatDoor
