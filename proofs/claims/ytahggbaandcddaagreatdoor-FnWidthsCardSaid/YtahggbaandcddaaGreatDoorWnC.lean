/- Contracts: the width of a word; two lists are compared; a list has a number. -/
import Derived.Test.YtahggbaandcddaaGreatDoorSrcI
import Derived.Test.YtahggbaandcddaaGreatDoorSmL
import Derived.Test.YtahggbaandcddaaGreatDoorGF
import Derived.Test.YtahggbaandcddaaGreatDoorGD
import Derived.BigRegion


namespace Go.Proofs.YtahggbaandcddaaGreatDoor
open Go Go.RowKit
set_option linter.unusedVariables false
set_option linter.unusedSimpArgs false

theorem vText_LL {l : List UInt8} (h : LL l) (h60 : l.length ≤ 60) : vText l = true := vText_iff.2 ⟨fun i hi => by
  have := h i hi
  unfold chOk
  rw [if_neg (fun e => by rw [e] at this; revert this; decide)]
  exact this, h60⟩
theorem vWord_LL {l : List UInt8} (h : LL l) (h1 : 1 ≤ l.length) (h60 : l.length ≤ 60) : vWord l = true := by
  unfold vWord
  rw [vText_LL h h60, isW_iff.2 ⟨h, by omega⟩]; rfl

set_option maxHeartbeats 1000000 in
set_option maxRecDepth 100000 in
theorem wordWide_impl (f : Fc) (S : Value) (l : List UInt8) (w : World) (hf : HasF w f S) (hv : validF f = true) (hl : LL l) (h1 : 1 ≤ l.length) (h60 : l.length ≤ 60) (hmx : MaxW w) :
    Calls Tryz.prog 19 #[.agg (fcV f S).toArray, .string ⟨l.toArray⟩] w fun e w' => e = .returned (.tuple #[.int .i64 (lineW f l), .int .i64 0]) ∧ Below w.heap.size w w' := by
  obtain ⟨hft, A, n, c, rfl, hn, hm, hsl⟩ := hf
  have HF := Lib.hid hft
  have HN := Lib.hid hn
  have HV := Lib.hid hv
  have HVW := Lib.hid (vWord_LL hl h1 h60)
  have HL := Lib.hid hl
  have hb1 := below_one w (.cells (fcV f (.slice A n c)).toArray 28)
  have HB := Lib.hid hb1
  have HK := Lib.hid (Blk.new w 28 (fcV f (.slice A n c)))
  have HS := Lib.hid (hsl.next hb1)
  have HM := Lib.hid (hmx.next hb1)
  clear hft hn hv hl hb1 hsl hmx
  go_enter Tryz.func19, Tryz.ntmps19
  repeat ((with_reducible fail_if_success (show wpList _ _ _ (⟨some 6, _, _, _, _, _⟩ :: _) _ _)); first | go_values | go_skip | go_guarded | go_step | go_upon)
  generalize w.alloc (.cells (fcV f (.slice A n c)).toArray 28) = W0 at *
  refine wpList_load_row rfl 28 (.tmp 2) rfl _ rfl 28 (fcV f (.slice A n c)).toArray _ _ HK.out Tryz.underlying28 rfl (by rw [List.size_toArray, fcV_length HF.out]; exact szFcI) ?_
  repeat (first | go_values | go_skip | go_guarded | go_step | go_upon)
  go_at_call 40
  refine (face_impl f A n c W0 HF.out HN.out (by omega) HS.out).mono ?_
  rintro e w1 ⟨he, hb1⟩
  rw [HV.out] at he
  subst he
  have HK1 := Lib.hid (HK.out.next hb1)
  have HS1 := Lib.hid (HS.out.next hb1)
  have HM1 := Lib.hid (HM.out.next hb1)
  have HB1 := Lib.hid (below_step HB.out hb1)
  clear hb1 HK HS HM HB
  dsimp only
  repeat (first | go_values | go_skip | go_guarded | go_step | go_upon)
  go_at_call 49
  refine (word_impl ⟨l.toArray⟩ w1 (by simp [ByteArray.size]; omega) HM1.out).mono ?_
  rintro e w2 ⟨he, q, hq⟩
  rw [bs_mk, HVW.out] at he
  subst he
  have hb2 : Below w1.heap.size w1 w2 := by rw [hq]; exact below_drewN (Below.refl _ _) q
  have HK2 := Lib.hid (HK1.out.next hb2)
  have HS2 := Lib.hid (HS1.out.next hb2)
  have HB2 := Lib.hid (below_step HB1.out hb2)
  clear hb2 hq HK1 HS1 HM1 HB1
  dsimp only
  repeat ((with_reducible fail_if_success (show wpList _ _ _ (⟨some 14, _, _, _, _, _⟩ :: _) _ _)); first | go_values | go_skip | go_guarded | go_step | go_upon)
  refine wpList_load_row rfl 28 (.tmp 2) rfl _ rfl 28 (fcV f (.slice A n c)).toArray _ _ HK2.out Tryz.underlying28 rfl (by rw [List.size_toArray, fcV_length HF.out]; exact szFcI) ?_
  repeat (first | go_values | go_skip | go_guarded | go_step | go_upon)
  go_at_call 32
  refine (wide_impl f A n c ⟨l.toArray⟩ w2 HF.out (validF_iff.1 HV.out) HN.out (by omega) (by rw [bs_mk]; exact HL.out.ls) (by simp [ByteArray.size]; omega) HS2.out).mono ?_
  rintro e w3 ⟨he, hb3⟩
  rw [bs_mk] at he
  subst he
  have HB3 := Lib.hid (below_step HB2.out hb3)
  clear hb3
  dsimp only
  repeat (first | go_values | go_skip | go_guarded | go_step | go_upon)
  go_ret2
  exact ⟨rfl, HB3.out⟩

set_option maxRecDepth 100000 in
theorem same_any (A B : Option Addr) (c d : Nat) (xs ys : List Int) (n m : Nat) (w : World) (hx : xs.length = n) (hy : ys.length = m) (hn : n ≤ 1048576) (hm : m ≤ 1048576) (ha : SlE i64 w A xs) (hb : SlE i64 w B ys) :
    Calls Tryz.prog 12 #[.slice A n c, .slice B m d] w fun e w' => e = .returned (.bool (decide (xs = ys))) ∧ Below w.heap.size w w' := by
  go_enter Tryz.func12, Tryz.ntmps12
  repeat (first | go_values | go_skip | go_guarded | go_step | go_upon)
  go_at_call 39
  refine (l00Same_any A B c d xs ys n m w hx hy hn hm ha hb).mono ?_
  rintro e w1 ⟨rfl, hb1⟩
  have HB := Lib.hid hb1
  clear hb1 ha hb hx hy
  dsimp only
  repeat (first | go_values | go_skip | go_guarded | go_step | go_upon)
  go_ret
  exact ⟨rfl, HB.out⟩
end Go.Proofs.YtahggbaandcddaaGreatDoor
