/- Contracts for FnWidths: the reference's exported functions, at a valid face and a valid text. -/
import Derived.Test.YtahggbaandcddaaGreatDoorWtP
import Derived.Test.YtahggbaandcddaaGreatDoorShL
import Derived.Test.YtahggbaandcddaaGreatDoorGP
import Derived.Test.YtahggbaandcddaaGreatDoorWnC
import Derived.BigRegion
import Derived.OwnWalk


namespace Go.Proofs.YtahggbaandcddaaGreatDoor
open Go Go.RowKit
set_option linter.unusedVariables false
set_option linter.unusedSimpArgs false

/-- A division, and what is left of it, by a number that is not zero. -/
theorem exec_quo {o : Oper} {a : Act} {w : World} (x y : Operand) (ho : o.op = .binOp .quo 2 x y 2) (m n : Int) (hx : a.eval x = .int .i64 m) (hy : a.eval y = .int .i64 n) (h0 : n ≠ 0) {v : Int} (hv : IntKind.i64.wrap (Int.tdiv m n) = v) :
    (execOp a.eval o).run Tryz.prog w = .ok (.value (.int .i64 v)) w := by
  unfold execOp
  simp only [ho, hx, hy]
  go_simp
theorem exec_rem {o : Oper} {a : Act} {w : World} (x y : Operand) (ho : o.op = .binOp .rem 2 x y 2) (m n : Int) (hx : a.eval x = .int .i64 m) (hy : a.eval y = .int .i64 n) (h0 : n ≠ 0) {v : Int} (hv : Int.tmod m n = v) :
    (execOp a.eval o).run Tryz.prog w = .ok (.value (.int .i64 v)) w := by
  unfold execOp
  simp only [ho, hx, hy]
  go_simp
set_option maxHeartbeats 2000000 in
set_option maxRecDepth 100000 in
theorem lineWide_spec (f : Fc) (S : Value) (l : List UInt8)  (w : World) (hf : HasF w f S) (hV : validF f = true) (ht : vText l = true) :
    Calls Tryz.prog 8 #[.agg (fcV f S).toArray, .string ⟨l.toArray⟩] w fun e w' => e = .returned (.tuple #[.int .i64 (lineW f l), .int .i64 0]) ∧ Below w.heap.size w w' := by
  obtain ⟨hft, A, n, c, rfl, hn, hm, hsl⟩ := hf
  have hB := below_one w (.cells (fcV f (.slice A n c)).toArray 28)
  have hfa : FcAt (w.alloc (.cells (fcV f (.slice A n c)).toArray 28)) w.heap.size f n := ⟨A, c, Blk.new w 28 (fcV f (.slice A n c)), hsl.next hB⟩
  have HF := Lib.hid hft
  have HVV := Lib.hid (validF_iff.1 hV)
  have HN := Lib.hid hn
  have HT := Lib.hid ht
  have HA := Lib.hid hfa
  have h60 := size60 ht
  have HC := Lib.hid (show askC f l true = 0 from by rw [askC_ok hV ht]; rfl)
  clear hft hn hsl hV ht hfa
  go_enter Tryz.func8, Tryz.ntmps8
  go_wp2_with (first
    | (go_at_call 33; refine (asked_spec f n w.heap.size ⟨l.toArray⟩ true _ HF.out HN.out (by omega) h60 HA.out).mono ?_; rintro e w1 ⟨he, hb1⟩; rw [bs_mk, HC.out] at he; subst he)
    | (go_at_call 35; refine (words_L l _ h60).mono ?_; rintro e w2 ⟨A2, c2, rfl, -, hb2, hs2, -⟩)
    | (go_at_call 34; refine (line_spec f n w.heap.size A2 c2 (words l) _ HF.out HVV.out HN.out (by omega) (ws_words HT.out) ((HA.out.next hb1).next hb2) hs2).mono ?_; rintro e w3 ⟨he, hb3⟩; rw [joinW_words] at he; subst he))
  go_ret2
  exact ⟨rfl, below_step hB (below_step (below_step hb1 hb2) hb3)⟩
set_option maxHeartbeats 2000000 in
set_option maxRecDepth 100000 in
theorem wordsOf_spec (l : List UInt8) (w : World) (ht : vText l = true) :
    Calls Tryz.prog 11 #[.string ⟨l.toArray⟩] w fun e w' => ∃ A c, (e = .returned (.tuple #[.slice A (words l).length c, .int .i64 0]) ∧ SlE sv w' A (words l) ∧ (words l).length ≤ c ∧ (0 < (words l).length → ∃ g, A = some ⟨g, 0, none⟩)) ∧ Below w.heap.size w w' := by
  have HT := Lib.hid ht
  have h60 := size60 ht
  clear ht
  go_enter Tryz.func11, Tryz.ntmps11
  go_wp2_with (first
    | (go_at_call 38; refine (text_spec ⟨l.toArray⟩ _ h60).mono ?_; rintro e w1 ⟨he, rfl⟩; rw [bs_mk, HT.out] at he; subst he)
    | (go_at_call 35; refine (words_L l _ h60).mono ?_; rintro e w2 ⟨A2, c2, rfl, hc2, hb2, hs2, hg2⟩))
  go_ret2
  exact ⟨A2, c2, ⟨rfl, hs2, hc2, hg2⟩, hb2⟩
set_option maxHeartbeats 2000000 in
set_option maxRecDepth 100000 in
theorem plc_spec (f : Fc) (S : Value) (l : List UInt8)  (w : World) (hf : HasF w f S) (hV : validF f = true) (ht : vText l = true) :
    Calls Tryz.prog 10 #[.agg (fcV f S).toArray, .string ⟨l.toArray⟩] w (WtOut w (plcA f (words l) (words l).length) 0) := by
  obtain ⟨hft, A, n, c, rfl, hn, hm, hsl⟩ := hf
  have hB := below_one w (.cells (fcV f (.slice A n c)).toArray 28)
  have hfa : FcAt (w.alloc (.cells (fcV f (.slice A n c)).toArray 28)) w.heap.size f n := ⟨A, c, Blk.new w 28 (fcV f (.slice A n c)), hsl.next hB⟩
  have HF := Lib.hid hft
  have HVV := Lib.hid (validF_iff.1 hV)
  have HN := Lib.hid hn
  have HT := Lib.hid ht
  have HA := Lib.hid hfa
  have h60 := size60 ht
  have HC := Lib.hid (show askC f l true = 0 from by rw [askC_ok hV ht]; rfl)
  clear hft hn hsl hV ht hfa
  go_enter Tryz.func10, Tryz.ntmps10
  go_wp2_with (first
    | (go_at_call 33; refine (asked_spec f n w.heap.size ⟨l.toArray⟩ true _ HF.out HN.out (by omega) h60 HA.out).mono ?_; rintro e w1 ⟨he, hb1⟩; rw [bs_mk, HC.out] at he; subst he)
    | (go_at_call 35; refine (words_L l _ h60).mono ?_; rintro e w2 ⟨A2, c2, rfl, -, hb2, hs2, -⟩)
    | (go_at_call 37; refine (places_spec f n w.heap.size A2 c2 (words l) _ HF.out HVV.out HN.out (by omega) (ws_words HT.out) ((HA.out.next hb1).next hb2) hs2).mono ?_; rintro e w3 ⟨A3, c3, B3, d3, rfl, hb3, ho3, -⟩))
  go_ret2
  exact ⟨A3, c3, ⟨rfl, ho3.sl⟩, below_step hB (below_step (below_step hb1 hb2) hb3)⟩
set_option maxHeartbeats 2000000 in
set_option maxRecDepth 100000 in
theorem wordW_spec (f : Fc) (S : Value) (l : List UInt8) (hl : LL l) (h1 : 1 ≤ l.length) (w : World) (hf : HasF w f S) (hV : validF f = true) (ht : vText l = true) :
    Calls Tryz.prog 20 #[.agg (fcV f S).toArray, .string ⟨l.toArray⟩] w fun e w' => e = .returned (.tuple #[.int .i64 (lineW f l), .int .i64 0]) ∧ Below w.heap.size w w' := by
  obtain ⟨hft, A, n, c, rfl, hn, hm, hsl⟩ := hf
  have hB := below_one w (.cells (fcV f (.slice A n c)).toArray 28)
  have hfa : FcAt (w.alloc (.cells (fcV f (.slice A n c)).toArray 28)) w.heap.size f n := ⟨A, c, Blk.new w 28 (fcV f (.slice A n c)), hsl.next hB⟩
  have HF := Lib.hid hft
  have HVV := Lib.hid (validF_iff.1 hV)
  have HN := Lib.hid hn
  have HT := Lib.hid ht
  have HA := Lib.hid hfa
  have h60 := size60 ht
  have HC := Lib.hid (show isW l = true from isW_iff.2 ⟨hl, h1⟩)
  have HV := Lib.hid hV
  have HL := Lib.hid hl
  have HL60 := Lib.hid (show (⟨l.toArray⟩ : ByteArray).size ≤ 60 by have := vText_len60 ht; show l.toArray.size ≤ 60; simpa using this)
  clear hl
  clear hft hn hsl hV ht hfa
  go_enter Tryz.func20, Tryz.ntmps20
  go_wp2_with (first
    | (go_at_call 50; refine (face_spec f n w.heap.size _ HF.out HN.out (by omega) HA.out).mono ?_; rintro e w1 ⟨he, hb1⟩; rw [HV.out] at he; subst he)
    | (go_at_call 38; refine (text_spec ⟨l.toArray⟩ _ h60).mono ?_; rintro e w2 ⟨he, rfl⟩; rw [bs_mk, HT.out] at he; subst he)
    | (go_at_call 51; refine (word_spec ⟨l.toArray⟩ _ h60).mono ?_; rintro e w2 ⟨he, rfl⟩; rw [bs_mk, HC.out] at he; subst he)
    | (go_at_call 48; refine (wide_spec f n w.heap.size ⟨l.toArray⟩ _ HF.out HVV.out HN.out (by omega) HL.out HL60.out (HA.out.next hb1)).mono ?_; rintro e w3 ⟨rfl, hb3⟩))
  go_ret2
  exact ⟨rfl, below_step hB (below_step hb1 hb3)⟩
attribute [local irreducible] wpQuiet in
set_option maxHeartbeats 2000000 in
set_option maxRecDepth 100000 in
theorem letterAt_spec (f : Fc) (S : Value) (l : List UInt8) (q : Int) (hq : 0 ≤ q ∧ q ≤ lineW f l - 1) (w : World) (hf : HasF w f S) (hV : validF f = true) (ht : vText l = true) :
    Calls Tryz.prog 16 #[.agg (fcV f S).toArray, .string ⟨l.toArray⟩, .int .i64 q] w fun e w' => ∃ r cd, (e = .returned (.tuple #[.int .i64 r, .int .i64 cd]) ∧ LetR (plcA f (words l) (words l).length) (wdsA f (words l) (words l).length) q r cd) ∧ Below w.heap.size w w' := by
  obtain ⟨hft, A, n, c, rfl, hn, hm, hsl⟩ := hf
  have hB := below_one w (.cells (fcV f (.slice A n c)).toArray 28)
  have hfa : FcAt (w.alloc (.cells (fcV f (.slice A n c)).toArray 28)) w.heap.size f n := ⟨A, c, Blk.new w 28 (fcV f (.slice A n c)), hsl.next hB⟩
  have HF := Lib.hid hft
  have HVV := Lib.hid (validF_iff.1 hV)
  have HN := Lib.hid hn
  have HT := Lib.hid ht
  have HA := Lib.hid hfa
  have h60 := size60 ht
  have HC := Lib.hid (show askC f l true = 0 from by rw [askC_ok hV ht]; rfl)
  have hlr := lineW_range (validF_iff.1 hV) ht
  have hin : inB 0 (lineW f l - 1) q = true := inB_iff.2 hq
  have HIN := Lib.hid hin
  have hsub : IntKind.i64.wrap (lineW f l - 1) = lineW f l - 1 := IntWalk.i64_in _ (by omega)
  have HPL := Lib.hid (plcA_len ht (f := f))
  have hp60 : (plcA f (words l) (words l).length).length ≤ 60 := by rw [plcA_lets f ht]; have := lets_length l; have := vText_len60 ht; omega
  have HRG := Lib.hid (fun i => plcA_rng (validF_iff.1 hV) ht (i := i))
  clear hin
  clear hft hn hsl hV ht hfa
  go_enter Tryz.func16, Tryz.ntmps16
  go_wp2_with (first
    | (go_at_call 33; refine (asked_spec f n w.heap.size ⟨l.toArray⟩ true _ HF.out HN.out (by omega) h60 HA.out).mono ?_; rintro e w1 ⟨he, hb1⟩; rw [bs_mk, HC.out] at he; subst he)
    | (go_at_call 35; have hA3 := HA3; clear hA3; refine (words_L l _ h60).mono ?_; rintro e w4 ⟨A4, c4, rfl, -, hb4, hs4, -⟩; have HA4 := Lib.hid (HA3.out.next hb4); have HB4 := Lib.hid (below_step HB3.out hb4))
    | (go_at_call 35; refine (words_L l _ h60).mono ?_; rintro e w2 ⟨A2, c2, rfl, -, hb2, hs2, -⟩)
    | (go_at_call 34; refine (line_spec f n w.heap.size A2 c2 (words l) _ HF.out HVV.out HN.out (by omega) (ws_words HT.out) ((HA.out.next hb1).next hb2) hs2).mono ?_; rintro e w3 ⟨he, hb3⟩; rw [joinW_words] at he; subst he; have HA3 := Lib.hid (((HA.out.next hb1).next hb2).next hb3); have HB3 := Lib.hid (below_step hB (below_step (below_step hb1 hb2) hb3)); clear hb1 hb2 hb3 hs2)
    | (go_at_call 46; refine (inS_any _ _ _ _).mono ?_; rintro e _ ⟨he, rfl⟩; rw [HIN.out] at he; subst he)
    | (go_at_call 37; refine (places_spec f n w.heap.size A4 c4 (words l) _ HF.out HVV.out HN.out (by omega) (ws_words HT.out) HA4.out hs4).mono ?_; rintro e w5 ⟨A5, c5, B5, d5, rfl, hb5, ho5, hw5⟩; have HB5 := Lib.hid (below_step HB4.out hb5); have HP5 := Lib.hid ho5.sl; have HW5 := Lib.hid hw5.sl; clear ho5 hw5 hb4 hs4 hb5))
  obtain ⟨pl, hpl⟩ : ∃ pl, pl = plcA f (words l) (words l).length := ⟨_, rfl⟩
  obtain ⟨wd, hwd⟩ : ∃ wd, wd = wdsA f (words l) (words l).length := ⟨_, rfl⟩
  rw [← hpl, ← hwd] at HPL HRG ⊢
  rw [← hpl] at HP5 hp60
  have HPLE := Lib.hid hpl
  have HWDE := Lib.hid hwd
  rw [← hwd] at HW5
  have hlen := HPL.out
  clear hpl hwd HPL hsub
  go_loopw [11] (fun i wr => ∃ k : Nat, k ≤ pl.length ∧ i = .int .i64 k ∧ NoHit pl wd q k ∧ Below w5.heap.size w5 wr) (fun i _ => pl.length - (intOf i).toNat)
  case atStart => exact ⟨0, Nat.zero_le _, rfl, noHit_zero _ _ _, Below.refl _ _⟩
  case round =>
    obtain ⟨k, hk, rfl, hno, hbel⟩ := hrel
    have HNO := Lib.hid hno
    have HBL := Lib.hid hbel
    clear hno hbel
    by_cases hlt : k < pl.length
    · have hlt2 : k < wd.length := by omega
      obtain ⟨a, rfl, ra⟩ := (HP5.out.next HBL.out).some k hlt
      obtain ⟨b, rfl, rb⟩ := (HW5.out.next HBL.out).some k hlt2
      have RA := Lib.hid ra
      have RB := Lib.hid rb
      clear ra rb
      have hrg := HRG.out k hlt
      have e1 : IntKind.i64.wrap (rdI pl k + rdI wd k) = rdI pl k + rdI wd k := IntWalk.i64_in _ (by omega)
      have e2 : IntKind.i64.wrap (rdI pl k + rdI wd k - 1) = rdI pl k + rdI wd k - 1 := IntWalk.i64_in _ (by omega)
      have HL2 := Lib.hid hlen
      clear hlen hrg
      repeat ((with_reducible fail_if_success (show Code.wp _ (Code.region 10 _ _) _ _ _)); first | go_values | go_skip | go_guarded | go_step | go_upon)
      refine region_below (wr.heap.size) (by kernel_rfl) (by kernel_rfl) ?_
      refine below_run (by kernel_rfl) (.int .i64 q) (fun w' hw' => by kernel_rfl) ?_
      refine below_run (by kernel_rfl) (.slice (some a) pl.length c5) (fun w' hw' => by kernel_rfl) ?_
      refine below_run (by kernel_rfl) (.int .i64 k) (fun w' hw' => by kernel_rfl) ?_
      refine below_run (by kernel_rfl) (.pointer (some (Addr.add a (k * 1)))) (fun w' hw' => exec_index 33 (.tmp 41) (.tmp 42) rfl a pl.length c5 (by kernel_rfl) .i64 k (by kernel_rfl) hlt 2 Tryz.underlying33 1 szI64c) ?_
      refine below_run (by kernel_rfl) (.int .i64 (rdI pl k)) (fun w' hw' => exec_load1 2 (.tmp 43) rfl (a.add (k * 1)) (by kernel_rfl) (.int .i64 (rdI pl k)) (by rw [Nat.mul_one]; exact (RA.out.next hw').atI64 k hlt) _ Tryz.underlying2 rfl) ?_
      refine below_run (by kernel_rfl) (.slice (some a) pl.length c5) (fun w' hw' => by kernel_rfl) ?_
      refine below_run (by kernel_rfl) (.int .i64 k) (fun w' hw' => by kernel_rfl) ?_
      refine below_run (by kernel_rfl) (.pointer (some (Addr.add a (k * 1)))) (fun w' hw' => exec_index 33 (.tmp 45) (.tmp 46) rfl a pl.length c5 (by kernel_rfl) .i64 k (by kernel_rfl) hlt 2 Tryz.underlying33 1 szI64c) ?_
      refine below_run (by kernel_rfl) (.int .i64 (rdI pl k)) (fun w' hw' => exec_load1 2 (.tmp 47) rfl (a.add (k * 1)) (by kernel_rfl) (.int .i64 (rdI pl k)) (by rw [Nat.mul_one]; exact (RA.out.next hw').atI64 k hlt) _ Tryz.underlying2 rfl) ?_
      refine below_run (by kernel_rfl) (.slice (some b) wd.length d5) (fun w' hw' => by kernel_rfl) ?_
      refine below_run (by kernel_rfl) (.int .i64 k) (fun w' hw' => by kernel_rfl) ?_
      refine below_run (by kernel_rfl) (.pointer (some (Addr.add b (k * 1)))) (fun w' hw' => exec_index 33 (.tmp 49) (.tmp 50) rfl b wd.length d5 (by kernel_rfl) .i64 k (by kernel_rfl) hlt2 2 Tryz.underlying33 1 szI64c) ?_
      refine below_run (by kernel_rfl) (.int .i64 (rdI wd k)) (fun w' hw' => exec_load1 2 (.tmp 51) rfl (b.add (k * 1)) (by kernel_rfl) (.int .i64 (rdI wd k)) (by rw [Nat.mul_one]; exact (RB.out.next hw').atI64 k hlt2) _ Tryz.underlying2 rfl) ?_
      refine below_run (by kernel_rfl) (.int .i64 (rdI pl k + rdI wd k)) (fun w' hw' => Eq.trans (show (execOp _ _).run _ w' = .ok (.value (.int .i64 (IntKind.i64.wrap (rdI pl k + rdI wd k)))) w' by kernel_rfl) (by rw [e1])) ?_
      refine below_run (by kernel_rfl) (.int .i64 (rdI pl k + rdI wd k - 1)) (fun w' hw' => Eq.trans (show (execOp _ _).run _ w' = .ok (.value (.int .i64 (IntKind.i64.wrap (rdI pl k + rdI wd k - 1)))) w' by kernel_rfl) (by rw [e2])) ?_
      refine below_call (by kernel_rfl) 46 #[.int .i64 q, .int .i64 (rdI pl k), .int .i64 (rdI pl k + rdI wd k - 1)] (.bool (inB (rdI pl k) (rdI pl k + rdI wd k - 1) q)) (fun w' => by kernel_rfl) (fun w' hw' => (inS_is w' rfl).mono fun e w1 ⟨he, hb1⟩ => ⟨he, below_step hw' hb1⟩) ?_
      refine wpQuiet_nil ?_
      intro W6 hW6
      simp only [Act.put, List.setIfInBounds_toArray, List.set_cons_succ, List.set_cons_zero]
      have HBL := Lib.hid (below_step HBL.out hW6)
      clear hW6 e1 e2
      cases hhit : inB (rdI pl k) (rdI pl k + rdI wd k - 1) q
      · have HH := Lib.hid (inB_not.1 hhit)
        clear hhit
        repeat (first | go_values | go_skip | go_guarded | go_step | go_upon)
        go_roundw
        case rel => exact ⟨k + 1, hlt, by go_num, noHit_succ HNO.out HH.out, HBL.out⟩
        case measure => simp [intOf]; omega
      · have HH := Lib.hid (inB_iff.1 hhit)
        clear hhit
        repeat (first | go_values | go_skip | go_guarded | go_step | go_upon)
        go_ret2
        rw [← HPLE.out, ← HWDE.out]
        exact ⟨_, _, ⟨rfl, .inl ⟨rfl, k, hlt, rfl, HH.out, HNO.out⟩⟩, below_step HB5.out HBL.out⟩
    · obtain rfl : k = pl.length := by omega
      repeat (first | go_values | go_skip | go_guarded | go_step | go_upon)
      go_ret2
      rw [← HPLE.out, ← HWDE.out]
      exact ⟨_, _, ⟨rfl, .inr ⟨rfl, rfl, HNO.out⟩⟩, below_step HB5.out HBL.out⟩
set_option maxHeartbeats 2000000 in
set_option maxRecDepth 100000 in
theorem centre_spec (f : Fc) (S : Value) (l : List UInt8) (m : Int) (hm0 : 0 ≤ m ∧ m ≤ 4000) (w : World) (hf : HasF w f S) (hV : validF f = true) (ht : vText l = true) :
    Calls Tryz.prog 22 #[.agg (fcV f S).toArray, .string ⟨l.toArray⟩, .int .i64 m] w fun e w' => e = .returned (.tuple #[.int .i64 (ctrW f l m).1, .int .i64 (ctrW f l m).2]) ∧ Below w.heap.size w w' := by
  obtain ⟨hft, A, n, c, rfl, hn, hm, hsl⟩ := hf
  have hB := below_one w (.cells (fcV f (.slice A n c)).toArray 28)
  have hfa : FcAt (w.alloc (.cells (fcV f (.slice A n c)).toArray 28)) w.heap.size f n := ⟨A, c, Blk.new w 28 (fcV f (.slice A n c)), hsl.next hB⟩
  have HF := Lib.hid hft
  have HVV := Lib.hid (validF_iff.1 hV)
  have HN := Lib.hid hn
  have HT := Lib.hid ht
  have HA := Lib.hid hfa
  have h60 := size60 ht
  have hlr := lineW_range (validF_iff.1 hV) ht
  have hin : inB 0 4000 m = true := inB_iff.2 hm0
  have HIN := Lib.hid hin
  have HC := Lib.hid (show askC f l true = 0 from by rw [askC_ok hV ht]; rfl)
  have hsub : IntKind.i64.wrap (m - lineW f l) = m - lineW f l := IntWalk.i64_in _ (by omega)
  clear hft hn hsl hV ht hfa
  clear hin
  by_cases hle : lineW f l ≤ m
  · rw [ctrW_ok hle]
    dsimp only
    have hdv := Int.tdiv_eq_ediv_of_nonneg (b := 2) (show 0 ≤ m - lineW f l by omega)
    have hdr : 0 ≤ (m - lineW f l) / 2 ∧ (m - lineW f l) / 2 ≤ 4000 := by omega
    have hwd : IntKind.i64.wrap ((m - lineW f l) / 2) = (m - lineW f l) / 2 := IntWalk.i64_in _ (by omega)
    go_enter Tryz.func22, Tryz.ntmps22
    go_wp2_with (first
      | (go_at_call 53; refine (room_spec m _).mono ?_; rintro e _ ⟨he, rfl⟩; rw [HIN.out] at he; subst he)
      | (go_at_call 33; refine (asked_spec f n w.heap.size ⟨l.toArray⟩ true _ HF.out HN.out (by omega) h60 HA.out).mono ?_; rintro e w1 ⟨he, hb1⟩; rw [bs_mk, HC.out] at he; subst he)
      | (go_at_call 35; refine (words_L l _ h60).mono ?_; rintro e w2 ⟨A2, c2, rfl, -, hb2, hs2, -⟩)
      | (go_at_call 34; refine (line_spec f n w.heap.size A2 c2 (words l) _ HF.out HVV.out HN.out (by omega) (ws_words HT.out) ((HA.out.next hb1).next hb2) hs2).mono ?_; rintro e w3 ⟨he, hb3⟩; rw [joinW_words] at he; subst he))
    go_ret2
    exact ⟨rfl, below_step hB (below_step (below_step hb1 hb2) hb3)⟩
  · rw [ctrW_no hle]
    dsimp only
    go_enter Tryz.func22, Tryz.ntmps22
    go_wp2_with (first
      | (go_at_call 53; refine (room_spec m _).mono ?_; rintro e _ ⟨he, rfl⟩; rw [HIN.out] at he; subst he)
      | (go_at_call 33; refine (asked_spec f n w.heap.size ⟨l.toArray⟩ true _ HF.out HN.out (by omega) h60 HA.out).mono ?_; rintro e w1 ⟨he, hb1⟩; rw [bs_mk, HC.out] at he; subst he)
      | (go_at_call 35; refine (words_L l _ h60).mono ?_; rintro e w2 ⟨A2, c2, rfl, -, hb2, hs2, -⟩)
      | (go_at_call 34; refine (line_spec f n w.heap.size A2 c2 (words l) _ HF.out HVV.out HN.out (by omega) (ws_words HT.out) ((HA.out.next hb1).next hb2) hs2).mono ?_; rintro e w3 ⟨he, hb3⟩; rw [joinW_words] at he; subst he))
    go_ret2
    exact ⟨rfl, below_step hB (below_step (below_step hb1 hb2) hb3)⟩
attribute [local irreducible] wpQuiet in
set_option maxHeartbeats 2000000 in
set_option maxRecDepth 100000 in
theorem just_spec (f : Fc) (S : Value) (l : List UInt8) (m left : Int) (N : Nat) (w : World) (hf : HasF w f S) (hV : validF f = true) (ht : vText l = true) (hm0 : 0 ≤ m ∧ m ≤ 4000) (hle : m - lineW f l = left) (hl0 : 0 ≤ left) (hNw : (words l).length = N + 1) (hN0 : 0 < N) :
    Calls Tryz.prog 24 #[.agg (fcV f S).toArray, .string ⟨l.toArray⟩, .int .i64 m] w (WtOut w (jusW f.space left N N) 0) := by
  obtain ⟨hft, A, n, c, rfl, hn, hm, hsl⟩ := hf
  have hB := below_one w (.cells (fcV f (.slice A n c)).toArray 28)
  have hfa : FcAt (w.alloc (.cells (fcV f (.slice A n c)).toArray 28)) w.heap.size f n := ⟨A, c, Blk.new w 28 (fcV f (.slice A n c)), hsl.next hB⟩
  have HF := Lib.hid hft
  have HVV := Lib.hid (validF_iff.1 hV)
  have HN := Lib.hid hn
  have HT := Lib.hid ht
  have HA := Lib.hid hfa
  have h60 := size60 ht
  have hlr := lineW_range (validF_iff.1 hV) ht
  have hin : inB 0 4000 m = true := inB_iff.2 hm0
  have HIN := Lib.hid hin
  have HC := Lib.hid (show askC f l true = 0 from by rw [askC_ok hV ht]; rfl)
  have hsub : IntKind.i64.wrap (m - lineW f l) = left := by rw [← hle]; exact IntWalk.i64_in _ (by omega)
  have hmany := words_count ht
  have hl1 : left ≤ 4000 := by omega
  have hNm : N ≤ 60 := by omega
  have hsubN : IntKind.i64.wrap (((words l).length : Int) - 1) = (N : Int) := by rw [hNw, IntWalk.i64_in _ (by omega)]; omega
  have HSB := Lib.hid hsub
  have HSN := Lib.hid hsubN
  have hsp := (validF_iff.1 hV).space
  clear hle hlr hmany hNw hsub hsubN
  clear hft hn hsl hV ht hfa
  clear hin hm0
  go_enter Tryz.func24, Tryz.ntmps24
  go_wp2_with (first
    | (go_at_call 53; refine (room_spec m _).mono ?_; rintro e _ ⟨he, rfl⟩; rw [HIN.out] at he; subst he)
    | (go_at_call 33; refine (asked_spec f n w.heap.size ⟨l.toArray⟩ true _ HF.out HN.out (by omega) h60 HA.out).mono ?_; rintro e w1 ⟨he, hb1⟩; rw [bs_mk, HC.out] at he; subst he)
    | (go_at_call 35; refine (words_L l _ h60).mono ?_; rintro e w2 ⟨A2, c2, rfl, -, hb2, hs2, -⟩)
    | (go_at_call 34; refine (line_spec f n w.heap.size A2 c2 (words l) _ HF.out HVV.out HN.out (by omega) (ws_words HT.out) ((HA.out.next hb1).next hb2) hs2).mono ?_; rintro e w3 ⟨he, hb3⟩; rw [joinW_words] at he; subst he)
    | (refine wpList_is (.binOp .sub 2 (.tmp 25) (.tmp 27) 2) rfl rfl (.int .i64 left) (Eq.trans (show (execOp _ _).run _ _ = .ok (.value (.int .i64 (IntKind.i64.wrap (m - lineW f l)))) _ by kernel_rfl) (by rw [HSB.out])) ?_; simp only [Act.put, List.setIfInBounds_toArray, List.set_cons_succ, List.set_cons_zero])
    | (refine wpList_is (.binOp .sub 2 (.tmp 30) (.const (.int .i64 1)) 2) rfl rfl (.int .i64 N) (Eq.trans (show (execOp _ _).run _ _ = .ok (.value (.int .i64 (IntKind.i64.wrap (((words l).length : Int) - 1)))) _ by kernel_rfl) (by rw [HSN.out])) ?_; simp only [Act.put, List.setIfInBounds_toArray, List.set_cons_succ, List.set_cons_zero]))
  have HA3 := Lib.hid (((HA.out.next hb1).next hb2).next hb3)
  have HB3 := Lib.hid (below_step hB (below_step (below_step hb1 hb2) hb3))
  clear hb1 hb2 hb3 hs2 hB HA HSB HSN
  have hemp := own_empty w3 _ rfl w3.heap.size 2 (Nat.le_refl _) 1
  have hbe := below_one w3 (.cells #[] 2)
  have hjr := jus_range hl0 (show (0 : Int) < (N : Int) by omega)
  have hN1 : (N : Int) ≠ 0 := by omega
  go_loopw [12, 13] (fun v i wr => ∃ k : Nat, k ≤ N ∧ i = .int .i64 k ∧ wr.ownsRow w3.heap.size 2 1 v (jusW f.space left N k).length ((jusW f.space left N k).map i64) ∧ Below w3.heap.size w3 wr) (fun _ i _ => N - (intOf i).toNat)
  case atStart => exact ⟨0, by omega, rfl, hemp, hbe⟩
  case round =>
    obtain ⟨k, hk, rfl, hown, hbel⟩ := hrel
    obtain ⟨A0, c0, hkf, -⟩ := HA3.out.next hbel
    have HKB := Lib.hid hkf
    clear hkf
    have HOW := Lib.hid hown
    have HBL := Lib.hid hbel
    have hsz := hbel.size
    have hlen := jusW_length f.space left N k
    clear hown hbel hemp hbe
    by_cases hlt : k < N
    · have hcv : IntKind.i64.wrap f.space = f.space := IntWalk.i64_in _ (by omega)
      have hdiv := tdiv_in hl0 (by omega) (show (0 : Int) < (N : Int) by omega)
      have HDIV := Lib.hid hdiv
      have HREM := Lib.hid (Int.tmod_eq_emod_of_nonneg (b := (N : Int)) hl0)
      have hadd : IntKind.i64.wrap (f.space + left / (N : Int)) = f.space + left / (N : Int) := IntWalk.i64_in _ (by omega)
      have hadd1 : IntKind.i64.wrap (f.space + left / (N : Int) + 1) = f.space + left / (N : Int) + 1 := IntWalk.i64_in _ (by omega)
      have HJ := Lib.hid (jusW_succ f.space left N k)
      obtain ⟨r, hr⟩ : ∃ r, r = left % (N : Int) := ⟨_, rfl⟩
      obtain ⟨q, hq⟩ : ∃ q, q = left / (N : Int) := ⟨_, rfl⟩
      rw [← hr] at HREM HJ hjr
      rw [← hq] at HDIV HJ hadd hadd1 hjr
      clear hr hq hdiv
      repeat ((with_reducible fail_if_success (show Code.wp _ (Code.region 13 _ _) _ _ _)); first | go_values | go_skip | go_guarded | go_step | go_upon)
      refine region_below (wr.heap.size) (by kernel_rfl) (by kernel_rfl) ?_
      refine below_run (by kernel_rfl) (.pointer (some ⟨w.heap.size, 26, none⟩)) (fun w' hw' => by kernel_rfl) ?_
      refine below_run (by kernel_rfl) (.int .i8 f.space) (fun w' hw' => exec_load1 24 (.tmp 45) rfl ⟨w.heap.size, 26, none⟩ (by kernel_rfl) (.int .i8 f.space) ((HKB.out.next hw').cell 26 _ (fcV_space HF.out _)) _ Tryz.underlying24 rfl) ?_
      refine below_run (by kernel_rfl) (.int .i64 f.space) (fun w' hw' => Eq.trans (show (execOp _ _).run _ w' = .ok (.value (.int .i64 (IntKind.i64.wrap f.space))) w' by kernel_rfl) (by rw [hcv])) ?_
      refine below_run (by kernel_rfl) (.int .i64 left) (fun w' hw' => by kernel_rfl) ?_
      refine below_run (by kernel_rfl) (.int .i64 N) (fun w' hw' => by kernel_rfl) ?_
      refine below_run (by kernel_rfl) (.int .i64 q) (fun w' hw' => exec_quo (.tmp 48) (.tmp 49) rfl left N (by kernel_rfl) (by kernel_rfl) hN1 HDIV.out) ?_
      refine below_run (by kernel_rfl) (.int .i64 (f.space + q)) (fun w' hw' => Eq.trans (show (execOp _ _).run _ w' = .ok (.value (.int .i64 (IntKind.i64.wrap (f.space + q)))) w' by kernel_rfl) (by rw [hadd])) ?_
      refine below_run (by kernel_rfl) (.int .i64 (f.space + q)) (fun w' hw' => by kernel_rfl) ?_
      refine wpQuiet_nil ?_
      intro W1 hW1
      simp only [Act.put, List.setIfInBounds_toArray, List.set_cons_succ, List.set_cons_zero]
      have HOW := Lib.hid (own_next HOW.out hW1)
      have HBL := Lib.hid (below_step HBL.out hW1)
      have hsz := HBL.out.size
      clear hW1 hcv hadd
      repeat ((with_reducible fail_if_success (show wpList _ _ _ (⟨some 55, _, _, _, _, _⟩ :: _) _ _)); first | go_values | go_skip | go_guarded | go_step | go_upon)
      refine wpList_val (by kernel_rfl) (.int .i64 r) _ (exec_rem (.tmp 53) (.tmp 54) rfl left N (by kernel_rfl) (by kernel_rfl) hN1 HREM.out) ?_
      simp only [Act.put, List.setIfInBounds_toArray, List.set_cons_succ, List.set_cons_zero]
      by_cases hkr : (k : Int) < r
      · have HJ2 := Lib.hid (show jusW f.space left N (k + 1) = jusW f.space left N k ++ [f.space + q + 1] by rw [HJ.out, if_pos hkr])
        clear HJ
        repeat ((with_reducible fail_if_success (show wpList _ _ _ (⟨some 62, _, _, _, _, _⟩ :: _) _ _)); first | go_values | go_skip | go_guarded | go_step | go_upon)
        refine wpList_app1 rfl (.tmp 59) (.tmp 61) _ rfl elI W1 w3.heap.size u12 (jusW f.space left N k).length _ rfl HOW.out (.int .i64 (f.space + q + 1)) _ rfl rfl rfl (by unfold maxLen; omega) (by omega) hsz ?_
        intro v' w' ho' hg'
        simp only [Act.put, List.setIfInBounds_toArray, List.set_cons_succ, List.set_cons_zero]
        have HB9 := Lib.hid (below_own HBL.out HOW.out hg' (Nat.le_refl _) hsz)
        clear hg'
        repeat (first | go_values | go_skip | go_guarded | go_step | go_upon)
        go_roundw
        case rel =>
          refine ⟨k + 1, by omega, by go_num, ?_, HB9.out⟩
          rw [HJ2.out, List.length_append, List.map_append]
          exact ho'
        case measure => simp [intOf]; omega
      · have HJ2 := Lib.hid (show jusW f.space left N (k + 1) = jusW f.space left N k ++ [f.space + q] by rw [HJ.out, if_neg hkr, Int.add_zero])
        clear HJ
        repeat ((with_reducible fail_if_success (show wpList _ _ _ (⟨some 62, _, _, _, _, _⟩ :: _) _ _)); first | go_values | go_skip | go_guarded | go_step | go_upon)
        refine wpList_app1 rfl (.tmp 59) (.tmp 61) _ rfl elI W1 w3.heap.size u12 (jusW f.space left N k).length _ rfl HOW.out (.int .i64 (f.space + q)) _ rfl rfl rfl (by unfold maxLen; omega) (by omega) hsz ?_
        intro v' w' ho' hg'
        simp only [Act.put, List.setIfInBounds_toArray, List.set_cons_succ, List.set_cons_zero]
        have HB9 := Lib.hid (below_own HBL.out HOW.out hg' (Nat.le_refl _) hsz)
        clear hg'
        repeat (first | go_values | go_skip | go_guarded | go_step | go_upon)
        go_roundw
        case rel =>
          refine ⟨k + 1, by omega, by go_num, ?_, HB9.out⟩
          rw [HJ2.out, List.length_append, List.map_append]
          exact ho'
        case measure => simp [intOf]; omega
    · obtain rfl : k = N := by omega
      repeat (first | go_values | go_skip | go_guarded | go_step | go_upon)
      go_ret2
      obtain ⟨A9, c9, rfl, hl9, ho9⟩ := OwnS.of_own HOW.out
      exact ⟨A9, c9, ⟨rfl, ho9.sl⟩, below_step HB3.out HBL.out⟩
set_option maxHeartbeats 2000000 in
set_option maxRecDepth 100000 in
theorem justN_spec (f : Fc) (S : Value) (l : List UInt8) (m : Int) (hm0 : 0 ≤ m ∧ m ≤ 4000) (hno : ¬ (lineW f l ≤ m ∧ 1 < (words l).length)) (w : World) (hf : HasF w f S) (hV : validF f = true) (ht : vText l = true) :
    Calls Tryz.prog 24 #[.agg (fcV f S).toArray, .string ⟨l.toArray⟩, .int .i64 m] w (WtOut w [] 4) := by
  obtain ⟨hft, A, n, c, rfl, hn, hm, hsl⟩ := hf
  have hB := below_one w (.cells (fcV f (.slice A n c)).toArray 28)
  have hfa : FcAt (w.alloc (.cells (fcV f (.slice A n c)).toArray 28)) w.heap.size f n := ⟨A, c, Blk.new w 28 (fcV f (.slice A n c)), hsl.next hB⟩
  have HF := Lib.hid hft
  have HVV := Lib.hid (validF_iff.1 hV)
  have HN := Lib.hid hn
  have HT := Lib.hid ht
  have HA := Lib.hid hfa
  have h60 := size60 ht
  have hlr := lineW_range (validF_iff.1 hV) ht
  have hin : inB 0 4000 m = true := inB_iff.2 hm0
  have HIN := Lib.hid hin
  have HC := Lib.hid (show askC f l true = 0 from by rw [askC_ok hV ht]; rfl)
  have hmany := words_count ht
  have hsub : IntKind.i64.wrap (m - lineW f l) = m - lineW f l := IntWalk.i64_in _ (by omega)
  have hsubN : IntKind.i64.wrap (((words l).length : Int) - 1) = ((words l).length : Int) - 1 := IntWalk.i64_in _ (by omega)
  clear hlr
  clear hft hn hsl hV ht hfa
  clear hin hm0
  by_cases hle : m - lineW f l < 0
  · clear hno
    go_enter Tryz.func24, Tryz.ntmps24
    go_wp2_with (first
      | (go_at_call 53; refine (room_spec m _).mono ?_; rintro e _ ⟨he, rfl⟩; rw [HIN.out] at he; subst he)
      | (go_at_call 33; refine (asked_spec f n w.heap.size ⟨l.toArray⟩ true _ HF.out HN.out (by omega) h60 HA.out).mono ?_; rintro e w1 ⟨he, hb1⟩; rw [bs_mk, HC.out] at he; subst he)
      | (go_at_call 35; refine (words_L l _ h60).mono ?_; rintro e w2 ⟨A2, c2, rfl, -, hb2, hs2, -⟩)
      | (go_at_call 34; refine (line_spec f n w.heap.size A2 c2 (words l) _ HF.out HVV.out HN.out (by omega) (ws_words HT.out) ((HA.out.next hb1).next hb2) hs2).mono ?_; rintro e w3 ⟨he, hb3⟩; rw [joinW_words] at he; subst he))
    go_ret2
    exact ⟨_, _, ⟨rfl, SlE.nil⟩, (below_step hB (below_step (below_step hb1 hb2) hb3)).trans ((below_one w3 (.cells #[] 2)).mono (below_step hB (below_step (below_step hb1 hb2) hb3)).size)⟩
  · have hx : ((words l).length : Int) - 1 < 1 := by omega
    clear hno
    go_enter Tryz.func24, Tryz.ntmps24
    go_wp2_with (first
      | (go_at_call 53; refine (room_spec m _).mono ?_; rintro e _ ⟨he, rfl⟩; rw [HIN.out] at he; subst he)
      | (go_at_call 33; refine (asked_spec f n w.heap.size ⟨l.toArray⟩ true _ HF.out HN.out (by omega) h60 HA.out).mono ?_; rintro e w1 ⟨he, hb1⟩; rw [bs_mk, HC.out] at he; subst he)
      | (go_at_call 35; refine (words_L l _ h60).mono ?_; rintro e w2 ⟨A2, c2, rfl, -, hb2, hs2, -⟩)
      | (go_at_call 34; refine (line_spec f n w.heap.size A2 c2 (words l) _ HF.out HVV.out HN.out (by omega) (ws_words HT.out) ((HA.out.next hb1).next hb2) hs2).mono ?_; rintro e w3 ⟨he, hb3⟩; rw [joinW_words] at he; subst he))
    go_ret2
    exact ⟨_, _, ⟨rfl, SlE.nil⟩, (below_step hB (below_step (below_step hb1 hb2) hb3)).trans ((below_one w3 (.cells #[] 2)).mono (below_step hB (below_step (below_step hb1 hb2) hb3)).size)⟩
set_option maxHeartbeats 2000000 in
set_option maxRecDepth 100000 in
theorem joinWords_spec (A : Option Addr) (n c : Nat) (ws : List (List UInt8)) (w : World) (hn : ws.length = n) (hw : Ws ws) (hv : vText (joinW ws) = true) (hs : SlE sv w A ws) :
    Calls Tryz.prog 27 #[.slice A n c] w fun e w' => e = .returned (.tuple #[.string ⟨(joinW ws).toArray⟩, .int .i64 0]) ∧ Below w.heap.size w w' := by
  have HS := Lib.hid hs
  have HW := Lib.hid hw
  have HV := Lib.hid hv
  have HN := Lib.hid hn
  have hmany := hw.many
  have hn60 : n ≤ 60 := by omega
  have h60 := size60 hv
  clear hs hw hv hn hmany
  go_enter Tryz.func27, Tryz.ntmps27
  repeat ((with_reducible fail_if_success (show Code.wp _ (Code.loop _) _ _ _)); first | go_values | go_skip | go_guarded | go_step | go_upon)
  go_loopw [4] (fun i wr => ∃ k : Nat, k ≤ n ∧ i = .int .i64 k ∧ Below w.heap.size w wr) (fun i _ => n - (intOf i).toNat)
  case atStart => exact ⟨0, by omega, rfl, Below.refl _ _⟩
  case round =>
    obtain ⟨k, hk, rfl, hbel⟩ := hrel
    by_cases hlt : k < n
    · have hlt2 : k < ws.length := by rw [HN.out]; exact hlt
      obtain ⟨a, rfl, ra⟩ := (HS.out.next hbel).some k hlt2
      have ca := ra.atW k hlt2
      have HC := Lib.hid (show isW (bs ⟨(rdW ws k).toArray⟩) = true from isW_iff.2 (HW.out.isw _ (rdW_mem hlt2)))
      have hsz : (⟨(rdW ws k).toArray⟩ : ByteArray).size ≤ 1048576 := by have := HW.out.len _ (rdW_mem hlt2); show (rdW ws k).toArray.size ≤ _; simp; omega
      clear ra hlt2
      go_wp2_with (go_at_call 51; refine (word_spec ⟨(rdW ws k).toArray⟩ _ hsz).mono ?_; rintro e _ ⟨he, rfl⟩; rw [HC.out] at he; subst he)
      go_roundw
      case rel => exact ⟨k + 1, by omega, by go_num, hbel⟩
      case measure => simp [intOf]; omega
    · obtain rfl : k = n := by omega
      go_wp2_with (first
        | (go_at_call 57; refine (joined_spec A k c ws _ HN.out hn60 HW.out.len (HS.out.next hbel)).mono ?_; rintro e w1 ⟨rfl, hb1⟩)
        | (go_at_call 38; refine (text_spec ⟨(joinW ws).toArray⟩ _ h60).mono ?_; rintro e _ ⟨he, rfl⟩; rw [bs_mk, HV.out] at he; subst he))
      go_ret2
      exact ⟨rfl, below_step hbel hb1⟩
end Go.Proofs.YtahggbaandcddaaGreatDoor
