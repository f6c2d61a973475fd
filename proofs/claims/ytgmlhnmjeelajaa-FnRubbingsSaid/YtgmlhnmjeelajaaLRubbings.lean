/- The law of rubbings answers true for all two slices of bytes, which stay as they were. No condition. -/
import Derived.Test.YtgmlhnmjeelajaaRows
import Derived.Test.YtgmlhnmjeelajaaGE
import Derived.Test.YtgmlhnmjeelajaaRubV
import Derived.Test.YtgmlhnmjeelajaaGA
import Derived.Test.YtgmlhnmjeelajaaSrcR
import Derived.Test.YtgmlhnmjeelajaaRubL
import Derived.Test.YtgmlhnmjeelajaaRubN
import Derived.Test.YtgmlhnmjeelajaaRubT
import Derived.Test.YtgmlhnmjeelajaaReadI
import Derived.Test.YtgmlhnmjeelajaaRubK
import Derived.Test.YtgmlhnmjeelajaaOpenB



namespace Go.Proofs.Ytgmlhnmjeelajaa.lawRubbings
open Go Go.RowKit Go.ChangeShapes Go.WideShapes Go.ChangeAt Go.Proofs.Ytgmlhnmjeelajaa
open Go.ChangeMaps (open_string shut_string)
set_option linter.unusedVariables false
set_option linter.unusedSimpArgs false

theorem bestX_range (a b : List Nat) : -5 ≤ bestX a b ∧ bestX a b ≤ 5 := by unfold bestX mvx; omega
theorem bestY_range (a b : List Nat) : -5 ≤ bestY a b ∧ bestY a b ≤ 5 := by
  have h := (bestI_best (n := mvN a b) (far := mvFar) 120).1
  have e : bestJ a b 121 = bestI (mvN a b) mvFar (120 + 1) := rfl
  have h2 : bestJ a b 121 < 121 := by rw [e]; exact h
  unfold bestY mvy
  omega
theorem exec_indexA {P : Program} {o : Oper} {a : Act} {w : World} (t : TypeId) (s x : Operand) (ho : o.op = .indexAddr t s x) (p : Addr) (hs : a.eval s = .pointer (some p)) (k : IntKind) (i : Nat) (hx : a.eval x = .int k (i : Int)) (n : Nat) (hi : i < n)
    (e : TypeId) (hu : P.underlying t = some (.array n e)) (z : Nat) (hz : (P.info? e).map (·.size) = some z) : (execOp a.eval o).run P w = .ok (.value (.pointer (some (p.add (i * z))))) w := by
  cases hq : P.info? e with
  | none => simp [hq] at hz
  | some ie =>
    have hsz : ie.size = z := by simpa [hq] using hz
    unfold execOp
    simp [ho, hs, hx, Instr.indexAt, Instr.sureAddr, asIntOf, Sem.run_bind, run_underlying hu, hi, sizeOf, typeInfo, hq, hsz]
theorem rows_at (r : List Nat) (crs : List Value) (k : Nat) (hk : k < 8) : ((rowsL r).map i64 ++ crs)[k]? = some (.int .i64 ((rowN r (k : Int) : Nat) : Int)) := by
  have hl : (rowsL r).length = 8 := by simp [rowsL, listN]
  rw [List.getElem?_append_left (by rw [List.length_map, hl]; exact hk), List.getElem?_map]
  unfold rowsL listN
  rw [List.getElem?_map, List.getElem?_range hk]
  rfl
theorem add_mid0 (b o n : Nat) : Addr.add ⟨b, o, none⟩ n = ⟨b, o + n, none⟩ := by unfold Addr.add; split <;> simp_all
theorem szI64 : (Try.prog.info? 2).map (·.size) = some 1 := by kernel_rfl
theorem szU16 : (Try.prog.info? 24).map (·.size) = some 1 := by kernel_rfl

attribute [local irreducible] wpQuiet in
set_option maxHeartbeats 4000000 in
set_option maxRecDepth 100000 in
theorem walk (Aa : Option Addr) (ca : Nat) (a : List Int) (na : Nat) (Ab : Option Addr) (cb : Nat) (b : List Int) (nb : Nat) (w : World) (ha : a.length = na) (ma : na ≤ maxLen) (sa : SlE u8 w Aa a) (ya : Byt a) (hb : b.length = nb) (mb : nb ≤ maxLen) (sb : SlE u8 w Ab b) (yb : Byt b) :
    Calls Try.prog 3 #[.slice Aa na ca, .slice Ab nb cb] w fun e w' => e = .returned (.bool true) ∧ Below w.heap.size w w' := by
  have HSA := Lib.hid sa
  have HYA := Lib.hid ya
  have HNA := Lib.hid ha
  have HSB := Lib.hid sb
  have HYB := Lib.hid yb
  have HNB := Lib.hid hb
  clear sa ya ha sb yb hb
  go_enter Try.func3, Try.ntmps3
  go_wp2_with fail
  go_at_call 4
  refine (long_any _ Aa Ab na nb ca cb w rfl ma mb).mono ?_
  rintro e w1 ⟨rfl | ⟨rfl, hna, hnb⟩, rfl⟩
  · go_wp2
    go_ret
    exact ⟨rfl, Below.refl _ _⟩
  · go_wp2_with fail
    go_at_call 5
    refine (like_any Aa na ca a w HNA.out hna HSA.out HYA.out).mono ?_
    rintro e w2 ⟨ra, rb, ⟨rfl, hva, hvb⟩, hb2⟩
    have HVA := Lib.hid hva
    have HVB := Lib.hid hvb
    have hla := hva.len
    have hlb := hvb.len
    have HB2 := Lib.hid hb2
    clear hva hvb hb2
    obtain ⟨X, hX⟩ : ∃ X, X = bestX ra rb := ⟨_, rfl⟩
    obtain ⟨Y, hY⟩ : ∃ Y, Y = bestY ra rb := ⟨_, rfl⟩
    obtain ⟨T, hT⟩ : ∃ T, T = bestM ra rb := ⟨_, rfl⟩
    obtain ⟨K, hK⟩ : ∃ K : Int, K = ((countN ra : Nat) : Int) := ⟨_, rfl⟩
    obtain ⟨M0, hM0⟩ : ∃ M : Int, M = ((countN (andR ra rb) : Nat) : Int) := ⟨_, rfl⟩
    have HX := Lib.hid hX
    have HY := Lib.hid hY
    have HT := Lib.hid hT
    have HK := Lib.hid hK
    have HM0 := Lib.hid hM0
    clear hX hY hT hK hM0
    have HRO := Lib.hid (readOut_text ra HVA.out.len HVA.out.lt)
    have HTS := Lib.hid (show (strI (rowsC ra 8)).size ≤ 1048576 by rw [strI_size, rowsC_length]; decide)
    have hq0 := zeros_two w2
    have HQ0 := Lib.hid (show Zer2 w2 w2.heap.size ((w2.alloc (Obj.cells #[Value.int IntKind.u16 0, Value.int IntKind.u16 0, Value.int IntKind.u16 0, Value.int IntKind.u16 0, Value.int IntKind.u16 0, Value.int IntKind.u16 0, Value.int IntKind.u16 0, Value.int IntKind.u16 0] 26)).alloc (Obj.cells #[Value.int IntKind.u16 0, Value.int IntKind.u16 0, Value.int IntKind.u16 0, Value.int IntKind.u16 0, Value.int IntKind.u16 0, Value.int IntKind.u16 0, Value.int IntKind.u16 0, Value.int IntKind.u16 0] 26)) from hq0)
    have hq2 := HQ0.out.res2
    have hq3 := HQ0.out.res3.setRow_other (g := w2.heap.size) (R16 ra) (by omega)
    obtain ⟨hq4, hq5, hq6⟩ := HQ0.out.done (ra := ra) (rb := rb)
    have HQ4 := Lib.hid hq4
    have HQ5 := Lib.hid hq5
    have HQ6 := Lib.hid hq6
    clear hq0 hq4 hq5 hq6
    go_wp2_with (first
      | (refine wpList_store_row rfl 26 (.tmp 5) (.tmp 44) rfl _ (R16 ra) rfl rfl 26 _ hq2 (by rw [R16_size, hla]; exact szRub) (by rw [R16_size, hla]; rfl) (one_u16 _) ?_)
      | (refine wpList_store_row rfl 26 (.tmp 6) (.tmp 45) rfl _ (R16 rb) rfl rfl 26 _ hq3 (by rw [R16_size, hlb]; exact szRub) (by rw [R16_size, hlb]; rfl) (one_u16 _) ?_; clear hq2 hq3; have hk5 := HQ4.out; have hk6 := HQ5.out; have hB := below_step HB2.out HQ6.out)
      | (refine wpList_load_row rfl 26 (.tmp 5) rfl _ rfl 26 (R16 ra) _ _ hk5 Try.underlying26 rfl (by rw [R16_size, hla]; exact szRub) ?_)
      | (refine wpList_load_row rfl 26 (.tmp 6) rfl _ rfl 26 (R16 rb) _ _ hk6 Try.underlying26 rfl (by rw [R16_size, hlb]; exact szRub) ?_)
      | (go_at_call 6; refine (bestMove_impl ra rb _ HVA.out.len HVB.out.len HVA.out.lt HVB.out.lt).mono ?_; rintro e w3 ⟨rfl, hb3⟩; rw [← HX.out, ← HY.out, ← HT.out]; replace hk5 := hk5.next hb3; replace hk6 := hk6.next hb3; replace hB := below_step hB hb3; clear hb3)
      | (go_at_call 7; refine (bestMove_spec ra rb _ HVA.out.len HVB.out.len HVA.out.lt).mono ?_; rintro e w4 ⟨rfl, hb3⟩; rw [← HX.out, ← HY.out, ← HT.out]; replace hk5 := hk5.next hb3; replace hk6 := hk6.next hb3; replace hB := below_step hB hb3; clear hb3)
      | (go_at_call 9; refine (text_impl ra _ HVA.out.len HVA.out.lt).mono ?_; rintro e w5 ⟨rfl, hb3⟩; replace hk5 := hk5.next hb3; replace hk6 := hk6.next hb3; replace hB := below_step hB hb3; clear hb3)
      | (go_at_call 8; refine (readRub_impl _ _ HTS.out).mono ?_; rintro e w6 ⟨rfl, hb3⟩; rw [HRO.out]; replace hk5 := hk5.next hb3; replace hk6 := hk6.next hb3; replace hB := below_step hB hb3; clear hb3)
      | (refine wpList_store_new rfl 26 (.tmp 13) (.tmp 64) rfl (R16 ra) rfl rfl 26 _ (by rw [R16_size, hla]; exact szRub) (by rw [R16_size, hla]; rfl) (one_u16 _) ?_; have hb3 := below_one w6 (.cells (R16 ra) 26); have hk13 : Blk (w6.alloc (.cells (R16 ra) 26)) w6.heap.size 26 (ra.map Go.Proofs.Ytgmlhnmjeelajaa.u16) := Blk.new w6 26 (ra.map Go.Proofs.Ytgmlhnmjeelajaa.u16); replace hk5 := hk5.next hb3; replace hk6 := hk6.next hb3; replace hB := below_step hB hb3; clear hb3)
      | (go_at_call 10; refine (mirror_impl ra _ HVA.out.len HVA.out.lt).mono ?_; rintro e w7 ⟨rfl, hb3⟩; replace hk13 := hk13.next hb3; replace hk5 := hk5.next hb3; replace hk6 := hk6.next hb3; replace hB := below_step hB hb3; clear hb3)
      | (refine wpList_store_new rfl 26 (.tmp 15) (.tmp 67) rfl (R16 (mirR ra)) rfl rfl 26 _ (by rw [R16_size, mirR_length]; exact szRub) (by rw [R16_size, mirR_length]; rfl) (one_u16 _) ?_; have hb3 := below_one w7 (.cells (R16 (mirR ra)) 26); have hk15 : Blk (w7.alloc (.cells (R16 (mirR ra)) 26)) w7.heap.size 26 ((mirR ra).map Go.Proofs.Ytgmlhnmjeelajaa.u16) := Blk.new w7 26 ((mirR ra).map Go.Proofs.Ytgmlhnmjeelajaa.u16); replace hk13 := hk13.next hb3; replace hk5 := hk5.next hb3; replace hk6 := hk6.next hb3; replace hB := below_step hB hb3; clear hb3)
      | (go_at_call 11; refine (count_impl ra _ HVA.out.len HVA.out.lt).mono ?_; rintro e w8 ⟨rfl, hb3⟩; rw [← HK.out]; replace hk15 := hk15.next hb3; replace hk13 := hk13.next hb3; replace hk5 := hk5.next hb3; replace hk6 := hk6.next hb3; replace hB := below_step hB hb3; clear hb3)
      | (go_at_call 12; refine (darkRows_impl_own ra _ HVA.out.len HVA.out.lt).mono ?_; rintro e w9 ⟨gr, cr, crs, rfl, hgr, hrow, hb3⟩; replace hk15 := hk15.next hb3; replace hk13 := hk13.next hb3; replace hk5 := hk5.next hb3; replace hk6 := hk6.next hb3; replace hB := below_step hB hb3; clear hb3))
    have HK5 := Lib.hid hk5
    have HK6 := Lib.hid hk6
    have HK13 := Lib.hid hk13
    have HK15 := Lib.hid hk15
    have HROW0 := Lib.hid hrow
    have HBB := Lib.hid hB
    have hl13 := hla
    have HMM := Lib.hid (fun w' => (show Calls Try.prog 10 #[.agg ((mirR ra).map Go.Proofs.Ytgmlhnmjeelajaa.u16).toArray] w' (fun e w1 => e = .returned (.agg (ra.map Go.Proofs.Ytgmlhnmjeelajaa.u16).toArray) ∧ Below w'.heap.size w' w1) from (mirror_impl (mirR ra) w' (mirR_length ra) (mirR_lt ra)).mono fun e w1 ⟨he, hb⟩ => ⟨by rw [he, mirR_mirR ra HVA.out.len HVA.out.lt]; rfl, hb⟩))
    have HCK := Lib.hid (fun w' => (show Calls Try.prog 11 #[.agg ((mirR ra).map Go.Proofs.Ytgmlhnmjeelajaa.u16).toArray] w' (fun e w1 => e = .returned (.int .i64 K) ∧ Below w'.heap.size w' w1) from (count_impl (mirR ra) w' (mirR_length ra) (mirR_lt ra)).mono fun e w1 ⟨he, hb⟩ => ⟨by rw [he, countN_mirR, ← HK.out], hb⟩))
    have HSK := Lib.hid (fun w' => (show Calls Try.prog 14 #[.agg (ra.map Go.Proofs.Ytgmlhnmjeelajaa.u16).toArray] w' (fun e w1 => e = .returned (.int .i64 K) ∧ Below w'.heap.size w' w1) from (count_spec ra w' HVA.out.len).mono fun e w1 ⟨he, hb⟩ => ⟨by rw [he, ← HK.out], hb⟩))
    have HM1 := Lib.hid (fun w' => (show Calls Try.prog 15 #[.agg (ra.map Go.Proofs.Ytgmlhnmjeelajaa.u16).toArray, .agg (rb.map Go.Proofs.Ytgmlhnmjeelajaa.u16).toArray] w' (fun e w1 => e = .returned (.int .i64 M0) ∧ Below w'.heap.size w' w1) from (match_impl ra rb w' HVA.out.len HVB.out.len HVA.out.lt HVB.out.lt).mono fun e w1 ⟨he, hb⟩ => ⟨by rw [he, ← HM0.out], hb⟩))
    have HM2 := Lib.hid (fun w' => (show Calls Try.prog 16 #[.agg (ra.map Go.Proofs.Ytgmlhnmjeelajaa.u16).toArray, .agg (rb.map Go.Proofs.Ytgmlhnmjeelajaa.u16).toArray] w' (fun e w1 => e = .returned (.int .i64 M0) ∧ Below w'.heap.size w' w1) from (match_spec ra rb w' HVA.out.len HVB.out.len HVA.out.lt HVB.out.lt).mono fun e w1 ⟨he, hb⟩ => ⟨by rw [he, ← HM0.out], hb⟩))
    have HMA := Lib.hid (fun w' => (show Calls Try.prog 15 #[.agg (ra.map Go.Proofs.Ytgmlhnmjeelajaa.u16).toArray, .agg (ra.map Go.Proofs.Ytgmlhnmjeelajaa.u16).toArray] w' (fun e w1 => e = .returned (.int .i64 K) ∧ Below w'.heap.size w' w1) from (match_impl ra ra w' HVA.out.len HVA.out.len HVA.out.lt HVA.out.lt).mono fun e w1 ⟨he, hb⟩ => ⟨by rw [he, andR_self ra HVA.out.len, ← HK.out], hb⟩))
    clear hk5 hk6 hk13 hk15 hrow hB HQ0 HQ4 HQ5 HQ6 HB2 HSA HYA HNA HRO HTS
    generalize w6.heap.size = g13 at *
    generalize w7.heap.size = g15 at *
    refine region_below (w9.heap.size) (by kernel_rfl) (by kernel_rfl) ?_
    refine below_run (by kernel_rfl) (.int .i64 X) (fun w' hw' => by kernel_rfl) ?_
    refine below_run (by kernel_rfl) (.int .i64 X) (fun w' hw' => by kernel_rfl) ?_
    refine below_run (by kernel_rfl) (.bool false) (fun w' hw' => Eq.trans (show (execOp _ _).run _ w' = .ok (.value (.bool ((X) != (X)))) w' by kernel_rfl) (by rw [bne_self_eq_false (X)])) ?_
    refine below_run (by kernel_rfl) (.bool false) (fun w' hw' => by kernel_rfl) ?_
    refine below_run (by kernel_rfl) (.int .i64 Y) (fun w' hw' => by kernel_rfl) ?_
    refine below_run (by kernel_rfl) (.int .i64 Y) (fun w' hw' => by kernel_rfl) ?_
    refine below_run (by kernel_rfl) (.bool false) (fun w' hw' => Eq.trans (show (execOp _ _).run _ w' = .ok (.value (.bool ((Y) != (Y)))) w' by kernel_rfl) (by rw [bne_self_eq_false (Y)])) ?_
    refine below_run (by kernel_rfl) (.bool false) (fun w' hw' => by kernel_rfl) ?_
    refine below_run (by kernel_rfl) (.bool false) (fun w' hw' => by kernel_rfl) ?_
    refine below_run (by kernel_rfl) (.int .i64 T) (fun w' hw' => by kernel_rfl) ?_
    refine below_run (by kernel_rfl) (.int .i64 T) (fun w' hw' => by kernel_rfl) ?_
    refine below_run (by kernel_rfl) (.bool false) (fun w' hw' => Eq.trans (show (execOp _ _).run _ w' = .ok (.value (.bool ((T) != (T)))) w' by kernel_rfl) (by rw [bne_self_eq_false (T)])) ?_
    refine below_run (by kernel_rfl) (.bool false) (fun w' hw' => by kernel_rfl) ?_
    refine below_run (by kernel_rfl) (.bool false) (fun w' hw' => by kernel_rfl) ?_
    refine below_run (by kernel_rfl) (.int .i64 0) (fun w' hw' => by kernel_rfl) ?_
    refine below_run (by kernel_rfl) (.bool false) (fun w' hw' => by kernel_rfl) ?_
    refine below_run (by kernel_rfl) (.bool false) (fun w' hw' => by kernel_rfl) ?_
    refine below_run (by kernel_rfl) (.bool false) (fun w' hw' => by kernel_rfl) ?_
    refine below_run (by kernel_rfl) (.agg (ra.map Go.Proofs.Ytgmlhnmjeelajaa.u16).toArray) (fun w' hw' => exec_load_row 26 (.tmp 13) rfl (g13) (by kernel_rfl) 26 (ra.map Go.Proofs.Ytgmlhnmjeelajaa.u16).toArray _ _ (HK13.out.next hw') Try.underlying26 rfl (by rw [List.size_toArray, List.length_map, hla]; exact szRub)) ?_
    refine below_run (by kernel_rfl) (.agg (ra.map Go.Proofs.Ytgmlhnmjeelajaa.u16).toArray) (fun w' hw' => exec_load_row 26 (.tmp 5) rfl (w2.heap.size) (by kernel_rfl) 26 (ra.map Go.Proofs.Ytgmlhnmjeelajaa.u16).toArray _ _ (HK5.out.next hw') Try.underlying26 rfl (by rw [List.size_toArray, List.length_map, hla]; exact szRub)) ?_
    refine below_run (by kernel_rfl) (.bool false) (fun w' hw' => exec_neq_rub (.tmp 90) (.tmp 91) rfl ra HVA.out.len (by kernel_rfl) (by kernel_rfl)) ?_
    refine below_run (by kernel_rfl) (.bool false) (fun w' hw' => by kernel_rfl) ?_
    refine below_run (by kernel_rfl) (.bool false) (fun w' hw' => by kernel_rfl) ?_
    refine below_run (by kernel_rfl) (.agg ((mirR ra).map Go.Proofs.Ytgmlhnmjeelajaa.u16).toArray) (fun w' hw' => exec_load_row 26 (.tmp 15) rfl (g15) (by kernel_rfl) 26 ((mirR ra).map Go.Proofs.Ytgmlhnmjeelajaa.u16).toArray _ _ (HK15.out.next hw') Try.underlying26 rfl (by rw [List.size_toArray, List.length_map, mirR_length ra]; exact szRub)) ?_
    refine below_run (by kernel_rfl) (.agg (ra.map Go.Proofs.Ytgmlhnmjeelajaa.u16).toArray) (fun w' hw' => exec_load_row 26 (.tmp 5) rfl (w2.heap.size) (by kernel_rfl) 26 (ra.map Go.Proofs.Ytgmlhnmjeelajaa.u16).toArray _ _ (HK5.out.next hw') Try.underlying26 rfl (by rw [List.size_toArray, List.length_map, hla]; exact szRub)) ?_
    refine below_call (by kernel_rfl) 13 #[.agg (ra.map Go.Proofs.Ytgmlhnmjeelajaa.u16).toArray] (.agg ((mirR ra).map Go.Proofs.Ytgmlhnmjeelajaa.u16).toArray) (fun w' => by kernel_rfl) (fun w' hw' => (mirror_spec ra w' HVA.out.len).mono fun e w1 ⟨he, hb1⟩ => ⟨he, below_step hw' hb1⟩) ?_
    refine below_run (by kernel_rfl) (.bool false) (fun w' hw' => exec_neq_rub (.tmp 95) (.tmp 97) rfl (mirR ra) (mirR_length ra) (by kernel_rfl) (by kernel_rfl)) ?_
    refine below_run (by kernel_rfl) (.bool false) (fun w' hw' => by kernel_rfl) ?_
    refine below_run (by kernel_rfl) (.bool false) (fun w' hw' => by kernel_rfl) ?_
    refine below_run (by kernel_rfl) (.agg (ra.map Go.Proofs.Ytgmlhnmjeelajaa.u16).toArray) (fun w' hw' => exec_load_row 26 (.tmp 5) rfl (w2.heap.size) (by kernel_rfl) 26 (ra.map Go.Proofs.Ytgmlhnmjeelajaa.u16).toArray _ _ (HK5.out.next hw') Try.underlying26 rfl (by rw [List.size_toArray, List.length_map, hla]; exact szRub)) ?_
    refine below_call (by kernel_rfl) 13 #[.agg (ra.map Go.Proofs.Ytgmlhnmjeelajaa.u16).toArray] (.agg ((mirR ra).map Go.Proofs.Ytgmlhnmjeelajaa.u16).toArray) (fun w' => by kernel_rfl) (fun w' hw' => (mirror_spec ra w' HVA.out.len).mono fun e w1 ⟨he, hb1⟩ => ⟨he, below_step hw' hb1⟩) ?_
    refine below_call (by kernel_rfl) 10 #[.agg ((mirR ra).map Go.Proofs.Ytgmlhnmjeelajaa.u16).toArray] (.agg (ra.map Go.Proofs.Ytgmlhnmjeelajaa.u16).toArray) (fun w' => by kernel_rfl) (fun w' hw' => (HMM.out w').mono fun e w1 ⟨he, hb1⟩ => ⟨he, below_step hw' hb1⟩) ?_
    refine below_run (by kernel_rfl) (.agg (ra.map Go.Proofs.Ytgmlhnmjeelajaa.u16).toArray) (fun w' hw' => exec_load_row 26 (.tmp 5) rfl (w2.heap.size) (by kernel_rfl) 26 (ra.map Go.Proofs.Ytgmlhnmjeelajaa.u16).toArray _ _ (HK5.out.next hw') Try.underlying26 rfl (by rw [List.size_toArray, List.length_map, hla]; exact szRub)) ?_
    refine below_run (by kernel_rfl) (.bool false) (fun w' hw' => exec_neq_rub (.tmp 103) (.tmp 104) rfl ra HVA.out.len (by kernel_rfl) (by kernel_rfl)) ?_
    refine below_run (by kernel_rfl) (.bool false) (fun w' hw' => by kernel_rfl) ?_
    refine below_run (by kernel_rfl) (.bool false) (fun w' hw' => by kernel_rfl) ?_
    refine below_run (by kernel_rfl) (.agg ((mirR ra).map Go.Proofs.Ytgmlhnmjeelajaa.u16).toArray) (fun w' hw' => exec_load_row 26 (.tmp 15) rfl (g15) (by kernel_rfl) 26 ((mirR ra).map Go.Proofs.Ytgmlhnmjeelajaa.u16).toArray _ _ (HK15.out.next hw') Try.underlying26 rfl (by rw [List.size_toArray, List.length_map, mirR_length ra]; exact szRub)) ?_
    refine below_call (by kernel_rfl) 11 #[.agg ((mirR ra).map Go.Proofs.Ytgmlhnmjeelajaa.u16).toArray] (.int .i64 K) (fun w' => by kernel_rfl) (fun w' hw' => (HCK.out w').mono fun e w1 ⟨he, hb1⟩ => ⟨he, below_step hw' hb1⟩) ?_
    refine below_run (by kernel_rfl) (.int .i64 K) (fun w' hw' => by kernel_rfl) ?_
    refine below_run (by kernel_rfl) (.bool false) (fun w' hw' => Eq.trans (show (execOp _ _).run _ w' = .ok (.value (.bool ((K) != (K)))) w' by kernel_rfl) (by rw [bne_self_eq_false (K)])) ?_
    refine below_run (by kernel_rfl) (.bool false) (fun w' hw' => by kernel_rfl) ?_
    refine below_run (by kernel_rfl) (.bool false) (fun w' hw' => by kernel_rfl) ?_
    refine below_run (by kernel_rfl) (.int .i64 K) (fun w' hw' => by kernel_rfl) ?_
    refine below_run (by kernel_rfl) (.agg (ra.map Go.Proofs.Ytgmlhnmjeelajaa.u16).toArray) (fun w' hw' => exec_load_row 26 (.tmp 5) rfl (w2.heap.size) (by kernel_rfl) 26 (ra.map Go.Proofs.Ytgmlhnmjeelajaa.u16).toArray _ _ (HK5.out.next hw') Try.underlying26 rfl (by rw [List.size_toArray, List.length_map, hla]; exact szRub)) ?_
    refine below_call (by kernel_rfl) 14 #[.agg (ra.map Go.Proofs.Ytgmlhnmjeelajaa.u16).toArray] (.int .i64 K) (fun w' => by kernel_rfl) (fun w' hw' => (HSK.out w').mono fun e w1 ⟨he, hb1⟩ => ⟨he, below_step hw' hb1⟩) ?_
    refine below_run (by kernel_rfl) (.bool false) (fun w' hw' => Eq.trans (show (execOp _ _).run _ w' = .ok (.value (.bool ((K) != (K)))) w' by kernel_rfl) (by rw [bne_self_eq_false (K)])) ?_
    refine below_run (by kernel_rfl) (.bool false) (fun w' hw' => by kernel_rfl) ?_
    refine below_run (by kernel_rfl) (.bool false) (fun w' hw' => by kernel_rfl) ?_
    refine below_run (by kernel_rfl) (.slice (some ⟨gr, 0, none⟩) 8 cr) (fun w' hw' => by kernel_rfl) ?_
    refine below_run (by kernel_rfl) (.int .i64 8) (fun w' hw' => by kernel_rfl) ?_
    refine below_run (by kernel_rfl) (.bool false) (fun w' hw' => by kernel_rfl) ?_
    refine below_run (by kernel_rfl) (.bool false) (fun w' hw' => by kernel_rfl) ?_
    refine wpQuiet_nil ?_
    intro wa hwa
    simp only [Act.put, List.setIfInBounds_toArray, List.set_cons_succ, List.set_cons_zero]
    have HK5 := Lib.hid (HK5.out.next hwa)
    have HK6 := Lib.hid (HK6.out.next hwa)
    have HROW := Lib.hid (HROW0.out.next hwa)
    have HBB := Lib.hid (below_step HBB.out hwa)
    have hszw := HBB.out.size
    clear hwa HK13 HK15 HROW0 hgr HMM HCK HSK
    go_wp2
    go_loopw [18, 19] (fun u i wr => ∃ k : Nat, k ≤ 8 ∧ i = .int .i64 (k : Int) ∧ u = .int .i64 ((sumN (fun y => rowN ra (y : Int)) k : Nat) : Int) ∧ Below wa.heap.size wa wr) (fun _ i _ => 8 - (intOf i).toNat)
    case atStart => exact ⟨0, by omega, rfl, rfl, Below.refl _ _⟩
    case round =>
      obtain ⟨k, hk, rfl, rfl, hbel⟩ := hrel
      by_cases hlt : k < 8
      · have hlti : (k : Int) < 8 := by omega
        have hr16 := rowN_le ra (k : Int)
        have hs16 := sumN_le (fun y => rowN ra (y : Int)) 16 (fun i => rowN_le ra (i : Int)) k
        have HS := Lib.hid (show ((sumN (fun y => rowN ra (y : Int)) (k + 1) : Nat) : Int) = ((sumN (fun y => rowN ra (y : Int)) k : Nat) : Int) + ((rowN ra (k : Int) : Nat) : Int) by rw [sumN]; push_cast; rfl)
        have hsum : IntKind.i64.wrap (((sumN (fun y => rowN ra (y : Int)) k : Nat) : Int) + ((rowN ra (k : Int) : Nat) : Int)) = ((sumN (fun y => rowN ra (y : Int)) k : Nat) : Int) + ((rowN ra (k : Int) : Nat) : Int) := IntWalk.i64_in _ (by omega)
        have hcl := (HROW.out.next hbel).cell k _ (rows_at ra crs k hlt)
        have hneg : decide (((rowN ra (k : Int) : Nat) : Int) < 0) = false := decide_eq_false (by omega)
        have hbig : decide (((rowN ra (k : Int) : Nat) : Int) > 16) = false := decide_eq_false (by omega)
        have hzero : ((((rowN ra (k : Int) : Nat) : Int) == 0) != (((rdN ra k : Nat) : Int) == 0)) = false := by rw [rowN_zero ra HVA.out.lt k hlt]; exact bne_self_eq_false _
        have HBL := Lib.hid hbel
        have HROW := Lib.hid (HROW.out.next hbel)
        go_wp2
        refine region_below (wr.heap.size) (by kernel_rfl) (by kernel_rfl) ?_
        refine below_run (by kernel_rfl) (.slice (some ⟨gr, 0, none⟩) 8 cr) (fun w' hw' => by kernel_rfl) ?_
        refine below_run (by kernel_rfl) (.int .i64 (k : Nat)) (fun w' hw' => by kernel_rfl) ?_
        refine below_run (by kernel_rfl) (.pointer (some (Addr.add ⟨gr, 0, none⟩ (k * 1)))) (fun w' hw' => exec_index 36 (.tmp 134) (.tmp 135) rfl ⟨gr, 0, none⟩ 8 cr (by kernel_rfl) .i64 k (by kernel_rfl) hlt 2 Try.underlying36 1 szI64) ?_
        refine below_run (by kernel_rfl) (.int .i64 ((rowN ra (k : Int) : Nat) : Int)) (fun w' hw' => exec_load1 2 (.tmp 136) rfl (Addr.add ⟨gr, 0, none⟩ (k * 1)) (by kernel_rfl) (.int .i64 ((rowN ra (k : Int) : Nat) : Int)) (by rw [Nat.mul_one, add_mid0, Nat.zero_add]; exact (HROW.out.next hw').cell k _ (rows_at ra crs k hlt)) _ Try.underlying2 rfl) ?_
        refine below_run (by kernel_rfl) (.bool false) (fun w' hw' => Eq.trans (show (execOp _ _).run _ w' = .ok (.value (.bool (decide (((rowN ra (k : Int) : Nat) : Int) < 0)))) w' by kernel_rfl) (by rw [hneg])) ?_
        refine below_run (by kernel_rfl) (.bool false) (fun w' hw' => by kernel_rfl) ?_
        refine below_run (by kernel_rfl) (.slice (some ⟨gr, 0, none⟩) 8 cr) (fun w' hw' => by kernel_rfl) ?_
        refine below_run (by kernel_rfl) (.int .i64 (k : Nat)) (fun w' hw' => by kernel_rfl) ?_
        refine below_run (by kernel_rfl) (.pointer (some (Addr.add ⟨gr, 0, none⟩ (k * 1)))) (fun w' hw' => exec_index 36 (.tmp 140) (.tmp 141) rfl ⟨gr, 0, none⟩ 8 cr (by kernel_rfl) .i64 k (by kernel_rfl) hlt 2 Try.underlying36 1 szI64) ?_
        refine below_run (by kernel_rfl) (.int .i64 ((rowN ra (k : Int) : Nat) : Int)) (fun w' hw' => exec_load1 2 (.tmp 142) rfl (Addr.add ⟨gr, 0, none⟩ (k * 1)) (by kernel_rfl) (.int .i64 ((rowN ra (k : Int) : Nat) : Int)) (by rw [Nat.mul_one, add_mid0, Nat.zero_add]; exact (HROW.out.next hw').cell k _ (rows_at ra crs k hlt)) _ Try.underlying2 rfl) ?_
        refine below_run (by kernel_rfl) (.bool false) (fun w' hw' => Eq.trans (show (execOp _ _).run _ w' = .ok (.value (.bool (decide (((rowN ra (k : Int) : Nat) : Int) > 16)))) w' by kernel_rfl) (by rw [hbig])) ?_
        refine below_run (by kernel_rfl) (.bool false) (fun w' hw' => by kernel_rfl) ?_
        refine below_run (by kernel_rfl) (.bool false) (fun w' hw' => by kernel_rfl) ?_
        refine below_run (by kernel_rfl) (.slice (some ⟨gr, 0, none⟩) 8 cr) (fun w' hw' => by kernel_rfl) ?_
        refine below_run (by kernel_rfl) (.int .i64 (k : Nat)) (fun w' hw' => by kernel_rfl) ?_
        refine below_run (by kernel_rfl) (.pointer (some (Addr.add ⟨gr, 0, none⟩ (k * 1)))) (fun w' hw' => exec_index 36 (.tmp 147) (.tmp 148) rfl ⟨gr, 0, none⟩ 8 cr (by kernel_rfl) .i64 k (by kernel_rfl) hlt 2 Try.underlying36 1 szI64) ?_
        refine below_run (by kernel_rfl) (.int .i64 ((rowN ra (k : Int) : Nat) : Int)) (fun w' hw' => exec_load1 2 (.tmp 149) rfl (Addr.add ⟨gr, 0, none⟩ (k * 1)) (by kernel_rfl) (.int .i64 ((rowN ra (k : Int) : Nat) : Int)) (by rw [Nat.mul_one, add_mid0, Nat.zero_add]; exact (HROW.out.next hw').cell k _ (rows_at ra crs k hlt)) _ Try.underlying2 rfl) ?_
        refine below_run (by kernel_rfl) (.bool (((rowN ra (k : Int) : Nat) : Int) == 0)) (fun w' hw' => by kernel_rfl) ?_
        refine below_run (by kernel_rfl) (.int .i64 (k : Nat)) (fun w' hw' => by kernel_rfl) ?_
        refine below_run (by kernel_rfl) (.pointer (some (Addr.add ⟨w2.heap.size, 0, none⟩ (k * 1)))) (fun w' hw' => exec_indexA 26 (.tmp 5) (.tmp 152) rfl ⟨w2.heap.size, 0, none⟩ (by kernel_rfl) .i64 k (by kernel_rfl) 8 hlt 24 Try.underlying26 1 szU16) ?_
        refine below_run (by kernel_rfl) (.int .u16 ((rdN ra k : Nat) : Int)) (fun w' hw' => exec_load1 24 (.tmp 153) rfl (Addr.add ⟨w2.heap.size, 0, none⟩ (k * 1)) (by kernel_rfl) (.int .u16 ((rdN ra k : Nat) : Int)) (by rw [Nat.mul_one, add_mid0, Nat.zero_add]; exact (HK5.out.next (below_step hbel hw')).cell k _ (map_u16_at ra k (by rw [hla]; exact hlt))) _ Try.underlying24 rfl) ?_
        refine below_run (by kernel_rfl) (.bool (((rdN ra k : Nat) : Int) == 0)) (fun w' hw' => by kernel_rfl) ?_
        refine below_run (by kernel_rfl) (.bool false) (fun w' hw' => Eq.trans (show (execOp _ _).run _ w' = .ok (.value (.bool ((((rowN ra (k : Int) : Nat) : Int) == 0) != (((rdN ra k : Nat) : Int) == 0)))) w' by kernel_rfl) (by rw [hzero])) ?_
        refine below_run (by kernel_rfl) (.bool false) (fun w' hw' => by kernel_rfl) ?_
        refine wpQuiet_nil ?_
        intro W3 hW3
        simp only [Act.put, List.setIfInBounds_toArray, List.set_cons_succ, List.set_cons_zero]
        have hbel := below_step hbel hW3
        clear hneg hbig hzero hcl hsum hW3
        go_wp2
        go_roundw
        case rel => exact ⟨k + 1, by omega, by go_num, by rw [HS.out], hbel⟩
        case measure => simp [intOf]; omega
      · obtain rfl : k = 8 := by omega
        rw [show ((sumN (fun y => rowN ra (y : Int)) 8 : Nat) : Int) = K from HK.out.symm]
        have HK5 := Lib.hid (HK5.out.next hbel)
        have HK6 := Lib.hid (HK6.out.next hbel)
        have HBB := Lib.hid (below_step HBB.out hbel)
        clear hbel
        go_wp2
        generalize wr = wz at *
        refine region_below (wz.heap.size) (by kernel_rfl) (by kernel_rfl) ?_
        refine below_run (by kernel_rfl) (.int .i64 K) (fun w' hw' => by kernel_rfl) ?_
        refine below_run (by kernel_rfl) (.int .i64 K) (fun w' hw' => by kernel_rfl) ?_
        refine below_run (by kernel_rfl) (.bool false) (fun w' hw' => Eq.trans (show (execOp _ _).run _ w' = .ok (.value (.bool ((K) != (K)))) w' by kernel_rfl) (by rw [bne_self_eq_false (K)])) ?_
        refine below_run (by kernel_rfl) (.bool false) (fun w' hw' => by kernel_rfl) ?_
        refine below_run (by kernel_rfl) (.agg (ra.map Go.Proofs.Ytgmlhnmjeelajaa.u16).toArray) (fun w' hw' => exec_load_row 26 (.tmp 5) rfl (w2.heap.size) (by kernel_rfl) 26 (ra.map Go.Proofs.Ytgmlhnmjeelajaa.u16).toArray _ _ (HK5.out.next hw') Try.underlying26 rfl (by rw [List.size_toArray, List.length_map, hla]; exact szRub)) ?_
        refine below_run (by kernel_rfl) (.agg (rb.map Go.Proofs.Ytgmlhnmjeelajaa.u16).toArray) (fun w' hw' => exec_load_row 26 (.tmp 6) rfl ((w2.heap.size + 1)) (by kernel_rfl) 26 (rb.map Go.Proofs.Ytgmlhnmjeelajaa.u16).toArray _ _ (HK6.out.next hw') Try.underlying26 rfl (by rw [List.size_toArray, List.length_map, hlb]; exact szRub)) ?_
        refine below_call (by kernel_rfl) 15 #[.agg (ra.map Go.Proofs.Ytgmlhnmjeelajaa.u16).toArray, .agg (rb.map Go.Proofs.Ytgmlhnmjeelajaa.u16).toArray] (.int .i64 M0) (fun w' => by kernel_rfl) (fun w' hw' => (HM1.out w').mono fun e w1 ⟨he, hb1⟩ => ⟨he, below_step hw' hb1⟩) ?_
        refine below_run (by kernel_rfl) (.agg (ra.map Go.Proofs.Ytgmlhnmjeelajaa.u16).toArray) (fun w' hw' => exec_load_row 26 (.tmp 5) rfl (w2.heap.size) (by kernel_rfl) 26 (ra.map Go.Proofs.Ytgmlhnmjeelajaa.u16).toArray _ _ (HK5.out.next hw') Try.underlying26 rfl (by rw [List.size_toArray, List.length_map, hla]; exact szRub)) ?_
        refine below_run (by kernel_rfl) (.agg (rb.map Go.Proofs.Ytgmlhnmjeelajaa.u16).toArray) (fun w' hw' => exec_load_row 26 (.tmp 6) rfl ((w2.heap.size + 1)) (by kernel_rfl) 26 (rb.map Go.Proofs.Ytgmlhnmjeelajaa.u16).toArray _ _ (HK6.out.next hw') Try.underlying26 rfl (by rw [List.size_toArray, List.length_map, hlb]; exact szRub)) ?_
        refine below_call (by kernel_rfl) 16 #[.agg (ra.map Go.Proofs.Ytgmlhnmjeelajaa.u16).toArray, .agg (rb.map Go.Proofs.Ytgmlhnmjeelajaa.u16).toArray] (.int .i64 M0) (fun w' => by kernel_rfl) (fun w' hw' => (HM2.out w').mono fun e w1 ⟨he, hb1⟩ => ⟨he, below_step hw' hb1⟩) ?_
        refine below_run (by kernel_rfl) (.bool false) (fun w' hw' => Eq.trans (show (execOp _ _).run _ w' = .ok (.value (.bool ((M0) != (M0)))) w' by kernel_rfl) (by rw [bne_self_eq_false (M0)])) ?_
        refine below_run (by kernel_rfl) (.bool false) (fun w' hw' => by kernel_rfl) ?_
        refine below_run (by kernel_rfl) (.bool false) (fun w' hw' => by kernel_rfl) ?_
        refine below_run (by kernel_rfl) (.agg (ra.map Go.Proofs.Ytgmlhnmjeelajaa.u16).toArray) (fun w' hw' => exec_load_row 26 (.tmp 5) rfl (w2.heap.size) (by kernel_rfl) 26 (ra.map Go.Proofs.Ytgmlhnmjeelajaa.u16).toArray _ _ (HK5.out.next hw') Try.underlying26 rfl (by rw [List.size_toArray, List.length_map, hla]; exact szRub)) ?_
        refine below_run (by kernel_rfl) (.agg (ra.map Go.Proofs.Ytgmlhnmjeelajaa.u16).toArray) (fun w' hw' => exec_load_row 26 (.tmp 5) rfl (w2.heap.size) (by kernel_rfl) 26 (ra.map Go.Proofs.Ytgmlhnmjeelajaa.u16).toArray _ _ (HK5.out.next hw') Try.underlying26 rfl (by rw [List.size_toArray, List.length_map, hla]; exact szRub)) ?_
        refine below_call (by kernel_rfl) 15 #[.agg (ra.map Go.Proofs.Ytgmlhnmjeelajaa.u16).toArray, .agg (ra.map Go.Proofs.Ytgmlhnmjeelajaa.u16).toArray] (.int .i64 K) (fun w' => by kernel_rfl) (fun w' hw' => (HMA.out w').mono fun e w1 ⟨he, hb1⟩ => ⟨he, below_step hw' hb1⟩) ?_
        refine below_run (by kernel_rfl) (.int .i64 K) (fun w' hw' => by kernel_rfl) ?_
        refine below_run (by kernel_rfl) (.bool false) (fun w' hw' => Eq.trans (show (execOp _ _).run _ w' = .ok (.value (.bool ((K) != (K)))) w' by kernel_rfl) (by rw [bne_self_eq_false (K)])) ?_
        refine below_run (by kernel_rfl) (.bool false) (fun w' hw' => by kernel_rfl) ?_
        refine wpQuiet_nil ?_
        intro wy hwy
        simp only [Act.put, List.setIfInBounds_toArray, List.set_cons_succ, List.set_cons_zero]
        have HK5 := Lib.hid (HK5.out.next hwy)
        have HK6 := Lib.hid (HK6.out.next hwy)
        have HBB := Lib.hid (below_step HBB.out hwy)
        clear hwy HM1 HM2 HMA HROW
        have HBX := Lib.hid (fun (x y : Int) (hx : -5 ≤ x ∧ x ≤ 5) (hy : -5 ≤ y ∧ y ≤ 5) => (show (atN ra rb x y : Int) ≤ T ∧ (x = X ∧ y = Y → (atN ra rb x y : Int) = T) ∧ ((atN ra rb x y : Int) = T → ¬ (x = X ∧ y = Y) → X.natAbs + Y.natAbs < x.natAbs + y.natAbs ∨ (X.natAbs + Y.natAbs = x.natAbs + y.natAbs ∧ (Y < y ∨ (Y = y ∧ X < x)))) by rw [HX.out, HY.out, HT.out]; exact best_law ra rb x y hx hy))
        have hXr : -5 ≤ X ∧ X ≤ 5 := by rw [HX.out]; exact bestX_range ra rb
        have hYr : -5 ≤ Y ∧ Y ≤ 5 := by rw [HY.out]; exact bestY_range ra rb
        have hTr : 0 ≤ T ∧ T ≤ 128 := by rw [HT.out]; unfold bestM mvN; have := atN_le ra rb (mvx (bestJ ra rb 121)) (mvy (bestJ ra rb 121)); omega
        have e1 : IntKind.i64.wrap (0 - X) = -X := neg_i64 (by omega)
        have e2 : (if -X > X then -X else X) = (X.natAbs : Int) := max_abs _
        have e3 : IntKind.i64.wrap (0 - Y) = -Y := neg_i64 (by omega)
        have e4 : (if -Y > Y then -Y else Y) = (Y.natAbs : Int) := max_abs _
        have e5 : IntKind.i64.wrap ((X.natAbs : Int) + (Y.natAbs : Int)) = ((X.natAbs + Y.natAbs : Nat) : Int) := add_i64 (by omega)
        go_wp2
        clear e1 e2 e3 e4 e5
        go_loopw [21] (fun i wr => ∃ y : Int, -5 ≤ y ∧ y ≤ 6 ∧ i = .int .i64 y ∧ Below wy.heap.size wy wr) (fun i _ => (6 - intOf i).toNat)
        case atStart => exact ⟨-5, by omega, by omega, rfl, Below.refl _ _⟩
        case round =>
          obtain ⟨y, hy1, hy2, rfl, hbo⟩ := hrel
          by_cases hly : y ≤ 5
          · go_wp2
            generalize wr = wv at *
            go_loopw [22] (fun i wr => ∃ x : Int, -5 ≤ x ∧ x ≤ 6 ∧ i = .int .i64 x ∧ Below wv.heap.size wv wr) (fun i _ => (6 - intOf i).toNat)
            case atStart => exact ⟨-5, by omega, by omega, rfl, Below.refl _ _⟩
            case round =>
              obtain ⟨x, hx1, hx2, rfl, hbi⟩ := hrel
              by_cases hlx : x ≤ 5
              · obtain ⟨b1, b2, b3⟩ := HBX.out x y ⟨hx1, hlx⟩ ⟨hy1, hly⟩
                have hk5 := (HK5.out.next hbo).next hbi
                have hk6 := (HK6.out.next hbo).next hbi
                have HMO := Lib.hid (show matchOut ra rb x y = ((atN ra rb x y : Int), 0) by unfold matchOut mayMove; rw [inB_true ⟨hx1, hlx⟩, inB_true ⟨hy1, hly⟩]; rfl)
                have HBI := Lib.hid hbi
                have HBO := Lib.hid hbo
                clear hbi
                generalize hN : (atN ra rb x y : Int) = N at *
                clear hN
                have c1 : ¬ T < N := by omega
                by_cases c2 : N = T
                · have c2b : (N == T) = true := by simpa using c2
                  have c2n : (N != T) = false := by simpa using c2
                  by_cases c3 : x = X ∧ y = Y
                  · obtain ⟨c4, c5⟩ := c3
                    have HN := Lib.hid c2
                    clear b1 b2 b3 c2
                    subst c4 c5
                    have e1 : IntKind.i64.wrap (0 - x) = -x := neg_i64 (by omega)
                    have e2 : (if -x > x then -x else x) = (x.natAbs : Int) := max_abs _
                    have e3 : IntKind.i64.wrap (0 - y) = -y := neg_i64 (by omega)
                    have e4 : (if -y > y then -y else y) = (y.natAbs : Int) := max_abs _
                    have e5 : IntKind.i64.wrap ((x.natAbs : Int) + (y.natAbs : Int)) = ((x.natAbs + y.natAbs : Nat) : Int) := add_i64 (by omega)
                    repeat ((with_reducible fail_if_success (show wpList _ _ _ (⟨some 195, _, _, _, _, _⟩ :: _) _ _)); first | go_values | go_skip | go_guarded | go_step | go_upon)
                    refine wpList_load_row rfl 26 (.tmp 5) rfl _ rfl 26 (R16 ra) _ _ hk5 Try.underlying26 rfl (by rw [R16_size, hla]; exact szRub) ?_
                    repeat ((with_reducible fail_if_success (show wpList _ _ _ (⟨some 196, _, _, _, _, _⟩ :: _) _ _)); first | go_values | go_skip | go_guarded | go_step | go_upon)
                    refine wpList_load_row rfl 26 (.tmp 6) rfl _ rfl 26 (R16 rb) _ _ hk6 Try.underlying26 rfl (by rw [R16_size, hlb]; exact szRub) ?_
                    repeat (first | go_values | go_skip | go_guarded | go_step | go_upon)
                    go_at_call 17
                    refine (matchAt_spec ra rb _ _ _ HVA.out.len HVB.out.len HVA.out.lt).mono ?_
                    rintro e wm ⟨rfl, hb3⟩
                    rw [HMO.out]
                    clear hk5 hk6
                    dsimp only
                    repeat (first | go_values | go_skip | go_guarded | go_step | go_upon)
                    clear e1 e2 e3 e4 e5
                    refine ⟨?_, ?measure⟩
                    apply Exists.intro
                    (repeat apply Exists.intro)
                    refine ⟨?rel, rfl⟩
                    case rel => exact ⟨x + 1, by omega, by omega, rfl, below_step HBI.out hb3⟩
                    case measure => simp [intOf]; omega
                  · have b4 := b3 c2 c3
                    clear b1 b2 b3 c2
                    have c6 : ¬ ((x.natAbs : Int) + (y.natAbs : Int) < (X.natAbs : Int) + (Y.natAbs : Int)) := by omega
                    by_cases c7 : (X.natAbs : Int) + (Y.natAbs : Int) < (x.natAbs : Int) + (y.natAbs : Int)
                    · have c8 : ((x.natAbs : Int) + (y.natAbs : Int) == (X.natAbs : Int) + (Y.natAbs : Int)) = false := by simp; omega
                      by_cases c9 : x = X
                      · have c9b : (x == X) = true := by simpa using c9
                        have c10 : (y == Y) = false := by simp; exact fun h => c3 ⟨c9, h⟩
                        clear c3 b4 c9 c7
                        have e1 : IntKind.i64.wrap (0 - x) = -x := neg_i64 (by omega)
                        have e2 : (if -x > x then -x else x) = (x.natAbs : Int) := max_abs _
                        have e3 : IntKind.i64.wrap (0 - y) = -y := neg_i64 (by omega)
                        have e4 : (if -y > y then -y else y) = (y.natAbs : Int) := max_abs _
                        have e5 : IntKind.i64.wrap ((x.natAbs : Int) + (y.natAbs : Int)) = ((x.natAbs + y.natAbs : Nat) : Int) := add_i64 (by omega)
                        repeat ((with_reducible fail_if_success (show wpList _ _ _ (⟨some 195, _, _, _, _, _⟩ :: _) _ _)); first | go_values | go_skip | go_guarded | go_step | go_upon)
                        refine wpList_load_row rfl 26 (.tmp 5) rfl _ rfl 26 (R16 ra) _ _ hk5 Try.underlying26 rfl (by rw [R16_size, hla]; exact szRub) ?_
                        repeat ((with_reducible fail_if_success (show wpList _ _ _ (⟨some 196, _, _, _, _, _⟩ :: _) _ _)); first | go_values | go_skip | go_guarded | go_step | go_upon)
                        refine wpList_load_row rfl 26 (.tmp 6) rfl _ rfl 26 (R16 rb) _ _ hk6 Try.underlying26 rfl (by rw [R16_size, hlb]; exact szRub) ?_
                        repeat (first | go_values | go_skip | go_guarded | go_step | go_upon)
                        go_at_call 17
                        refine (matchAt_spec ra rb _ _ _ HVA.out.len HVB.out.len HVA.out.lt).mono ?_
                        rintro e wm ⟨rfl, hb3⟩
                        rw [HMO.out]
                        clear hk5 hk6
                        dsimp only
                        repeat (first | go_values | go_skip | go_guarded | go_step | go_upon)
                        clear e1 e2 e3 e4 e5
                        refine ⟨?_, ?measure⟩
                        apply Exists.intro
                        (repeat apply Exists.intro)
                        refine ⟨?rel, rfl⟩
                        case rel => exact ⟨x + 1, by omega, by omega, rfl, below_step HBI.out hb3⟩
                        case measure => simp [intOf]; omega
                      · have c9b : (x == X) = false := by simpa using c9
                        clear c3 b4 c9 c7
                        have e1 : IntKind.i64.wrap (0 - x) = -x := neg_i64 (by omega)
                        have e2 : (if -x > x then -x else x) = (x.natAbs : Int) := max_abs _
                        have e3 : IntKind.i64.wrap (0 - y) = -y := neg_i64 (by omega)
                        have e4 : (if -y > y then -y else y) = (y.natAbs : Int) := max_abs _
                        have e5 : IntKind.i64.wrap ((x.natAbs : Int) + (y.natAbs : Int)) = ((x.natAbs + y.natAbs : Nat) : Int) := add_i64 (by omega)
                        repeat ((with_reducible fail_if_success (show wpList _ _ _ (⟨some 195, _, _, _, _, _⟩ :: _) _ _)); first | go_values | go_skip | go_guarded | go_step | go_upon)
                        refine wpList_load_row rfl 26 (.tmp 5) rfl _ rfl 26 (R16 ra) _ _ hk5 Try.underlying26 rfl (by rw [R16_size, hla]; exact szRub) ?_
                        repeat ((with_reducible fail_if_success (show wpList _ _ _ (⟨some 196, _, _, _, _, _⟩ :: _) _ _)); first | go_values | go_skip | go_guarded | go_step | go_upon)
                        refine wpList_load_row rfl 26 (.tmp 6) rfl _ rfl 26 (R16 rb) _ _ hk6 Try.underlying26 rfl (by rw [R16_size, hlb]; exact szRub) ?_
                        repeat (first | go_values | go_skip | go_guarded | go_step | go_upon)
                        go_at_call 17
                        refine (matchAt_spec ra rb _ _ _ HVA.out.len HVB.out.len HVA.out.lt).mono ?_
                        rintro e wm ⟨rfl, hb3⟩
                        rw [HMO.out]
                        clear hk5 hk6
                        dsimp only
                        repeat (first | go_values | go_skip | go_guarded | go_step | go_upon)
                        clear e1 e2 e3 e4 e5
                        refine ⟨?_, ?measure⟩
                        apply Exists.intro
                        (repeat apply Exists.intro)
                        refine ⟨?rel, rfl⟩
                        case rel => exact ⟨x + 1, by omega, by omega, rfl, below_step HBI.out hb3⟩
                        case measure => simp [intOf]; omega
                    · have c8 : ((x.natAbs : Int) + (y.natAbs : Int) == (X.natAbs : Int) + (Y.natAbs : Int)) = true := by simp; omega
                      have b5 : Y < y ∨ (Y = y ∧ X < x) := by omega
                      clear b4 c7
                      rcases b5 with b5 | ⟨b5, b6⟩
                      · have c11 : ¬ y < Y := by omega
                        have c12 : (y == Y) = false := by simp; omega
                        by_cases c9 : x = X
                        · have c9b : (x == X) = true := by simpa using c9
                          clear c3 b5 c9
                          have e1 : IntKind.i64.wrap (0 - x) = -x := neg_i64 (by omega)
                          have e2 : (if -x > x then -x else x) = (x.natAbs : Int) := max_abs _
                          have e3 : IntKind.i64.wrap (0 - y) = -y := neg_i64 (by omega)
                          have e4 : (if -y > y then -y else y) = (y.natAbs : Int) := max_abs _
                          have e5 : IntKind.i64.wrap ((x.natAbs : Int) + (y.natAbs : Int)) = ((x.natAbs + y.natAbs : Nat) : Int) := add_i64 (by omega)
                          repeat ((with_reducible fail_if_success (show wpList _ _ _ (⟨some 195, _, _, _, _, _⟩ :: _) _ _)); first | go_values | go_skip | go_guarded | go_step | go_upon)
                          refine wpList_load_row rfl 26 (.tmp 5) rfl _ rfl 26 (R16 ra) _ _ hk5 Try.underlying26 rfl (by rw [R16_size, hla]; exact szRub) ?_
                          repeat ((with_reducible fail_if_success (show wpList _ _ _ (⟨some 196, _, _, _, _, _⟩ :: _) _ _)); first | go_values | go_skip | go_guarded | go_step | go_upon)
                          refine wpList_load_row rfl 26 (.tmp 6) rfl _ rfl 26 (R16 rb) _ _ hk6 Try.underlying26 rfl (by rw [R16_size, hlb]; exact szRub) ?_
                          repeat (first | go_values | go_skip | go_guarded | go_step | go_upon)
                          go_at_call 17
                          refine (matchAt_spec ra rb _ _ _ HVA.out.len HVB.out.len HVA.out.lt).mono ?_
                          rintro e wm ⟨rfl, hb3⟩
                          rw [HMO.out]
                          clear hk5 hk6
                          dsimp only
                          repeat (first | go_values | go_skip | go_guarded | go_step | go_upon)
                          clear e1 e2 e3 e4 e5
                          refine ⟨?_, ?measure⟩
                          apply Exists.intro
                          (repeat apply Exists.intro)
                          refine ⟨?rel, rfl⟩
                          case rel => exact ⟨x + 1, by omega, by omega, rfl, below_step HBI.out hb3⟩
                          case measure => simp [intOf]; omega
                        · have c9b : (x == X) = false := by simpa using c9
                          clear c3 b5 c9
                          have e1 : IntKind.i64.wrap (0 - x) = -x := neg_i64 (by omega)
                          have e2 : (if -x > x then -x else x) = (x.natAbs : Int) := max_abs _
                          have e3 : IntKind.i64.wrap (0 - y) = -y := neg_i64 (by omega)
                          have e4 : (if -y > y then -y else y) = (y.natAbs : Int) := max_abs _
                          have e5 : IntKind.i64.wrap ((x.natAbs : Int) + (y.natAbs : Int)) = ((x.natAbs + y.natAbs : Nat) : Int) := add_i64 (by omega)
                          repeat ((with_reducible fail_if_success (show wpList _ _ _ (⟨some 195, _, _, _, _, _⟩ :: _) _ _)); first | go_values | go_skip | go_guarded | go_step | go_upon)
                          refine wpList_load_row rfl 26 (.tmp 5) rfl _ rfl 26 (R16 ra) _ _ hk5 Try.underlying26 rfl (by rw [R16_size, hla]; exact szRub) ?_
                          repeat ((with_reducible fail_if_success (show wpList _ _ _ (⟨some 196, _, _, _, _, _⟩ :: _) _ _)); first | go_values | go_skip | go_guarded | go_step | go_upon)
                          refine wpList_load_row rfl 26 (.tmp 6) rfl _ rfl 26 (R16 rb) _ _ hk6 Try.underlying26 rfl (by rw [R16_size, hlb]; exact szRub) ?_
                          repeat (first | go_values | go_skip | go_guarded | go_step | go_upon)
                          go_at_call 17
                          refine (matchAt_spec ra rb _ _ _ HVA.out.len HVB.out.len HVA.out.lt).mono ?_
                          rintro e wm ⟨rfl, hb3⟩
                          rw [HMO.out]
                          clear hk5 hk6
                          dsimp only
                          repeat (first | go_values | go_skip | go_guarded | go_step | go_upon)
                          clear e1 e2 e3 e4 e5
                          refine ⟨?_, ?measure⟩
                          apply Exists.intro
                          (repeat apply Exists.intro)
                          refine ⟨?rel, rfl⟩
                          case rel => exact ⟨x + 1, by omega, by omega, rfl, below_step HBI.out hb3⟩
                          case measure => simp [intOf]; omega
                      · have c11 : ¬ y < Y := by omega
                        have c12 : (y == Y) = true := by simp; omega
                        have c13 : ¬ x < X := by omega
                        have c9b : (x == X) = false := by simp; omega
                        clear c3 b5 b6
                        have e1 : IntKind.i64.wrap (0 - x) = -x := neg_i64 (by omega)
                        have e2 : (if -x > x then -x else x) = (x.natAbs : Int) := max_abs _
                        have e3 : IntKind.i64.wrap (0 - y) = -y := neg_i64 (by omega)
                        have e4 : (if -y > y then -y else y) = (y.natAbs : Int) := max_abs _
                        have e5 : IntKind.i64.wrap ((x.natAbs : Int) + (y.natAbs : Int)) = ((x.natAbs + y.natAbs : Nat) : Int) := add_i64 (by omega)
                        repeat ((with_reducible fail_if_success (show wpList _ _ _ (⟨some 195, _, _, _, _, _⟩ :: _) _ _)); first | go_values | go_skip | go_guarded | go_step | go_upon)
                        refine wpList_load_row rfl 26 (.tmp 5) rfl _ rfl 26 (R16 ra) _ _ hk5 Try.underlying26 rfl (by rw [R16_size, hla]; exact szRub) ?_
                        repeat ((with_reducible fail_if_success (show wpList _ _ _ (⟨some 196, _, _, _, _, _⟩ :: _) _ _)); first | go_values | go_skip | go_guarded | go_step | go_upon)
                        refine wpList_load_row rfl 26 (.tmp 6) rfl _ rfl 26 (R16 rb) _ _ hk6 Try.underlying26 rfl (by rw [R16_size, hlb]; exact szRub) ?_
                        repeat (first | go_values | go_skip | go_guarded | go_step | go_upon)
                        go_at_call 17
                        refine (matchAt_spec ra rb _ _ _ HVA.out.len HVB.out.len HVA.out.lt).mono ?_
                        rintro e wm ⟨rfl, hb3⟩
                        rw [HMO.out]
                        clear hk5 hk6
                        dsimp only
                        repeat (first | go_values | go_skip | go_guarded | go_step | go_upon)
                        clear e1 e2 e3 e4 e5
                        refine ⟨?_, ?measure⟩
                        apply Exists.intro
                        (repeat apply Exists.intro)
                        refine ⟨?rel, rfl⟩
                        case rel => exact ⟨x + 1, by omega, by omega, rfl, below_step HBI.out hb3⟩
                        case measure => simp [intOf]; omega
                · have c2b : (N == T) = false := by simpa using c2
                  by_cases c9 : x = X
                  · have c9b : (x == X) = true := by simpa using c9
                    have c10 : (y == Y) = false := by simp; exact fun h => c2 (b2 ⟨c9, h⟩)
                    clear b1 b2 b3 c2 c9
                    have e1 : IntKind.i64.wrap (0 - x) = -x := neg_i64 (by omega)
                    have e2 : (if -x > x then -x else x) = (x.natAbs : Int) := max_abs _
                    have e3 : IntKind.i64.wrap (0 - y) = -y := neg_i64 (by omega)
                    have e4 : (if -y > y then -y else y) = (y.natAbs : Int) := max_abs _
                    have e5 : IntKind.i64.wrap ((x.natAbs : Int) + (y.natAbs : Int)) = ((x.natAbs + y.natAbs : Nat) : Int) := add_i64 (by omega)
                    repeat ((with_reducible fail_if_success (show wpList _ _ _ (⟨some 195, _, _, _, _, _⟩ :: _) _ _)); first | go_values | go_skip | go_guarded | go_step | go_upon)
                    refine wpList_load_row rfl 26 (.tmp 5) rfl _ rfl 26 (R16 ra) _ _ hk5 Try.underlying26 rfl (by rw [R16_size, hla]; exact szRub) ?_
                    repeat ((with_reducible fail_if_success (show wpList _ _ _ (⟨some 196, _, _, _, _, _⟩ :: _) _ _)); first | go_values | go_skip | go_guarded | go_step | go_upon)
                    refine wpList_load_row rfl 26 (.tmp 6) rfl _ rfl 26 (R16 rb) _ _ hk6 Try.underlying26 rfl (by rw [R16_size, hlb]; exact szRub) ?_
                    repeat (first | go_values | go_skip | go_guarded | go_step | go_upon)
                    go_at_call 17
                    refine (matchAt_spec ra rb _ _ _ HVA.out.len HVB.out.len HVA.out.lt).mono ?_
                    rintro e wm ⟨rfl, hb3⟩
                    rw [HMO.out]
                    clear hk5 hk6
                    dsimp only
                    repeat (first | go_values | go_skip | go_guarded | go_step | go_upon)
                    clear e1 e2 e3 e4 e5
                    refine ⟨?_, ?measure⟩
                    apply Exists.intro
                    (repeat apply Exists.intro)
                    refine ⟨?rel, rfl⟩
                    case rel => exact ⟨x + 1, by omega, by omega, rfl, below_step HBI.out hb3⟩
                    case measure => simp [intOf]; omega
                  · have c9b : (x == X) = false := by simpa using c9
                    clear b1 b2 b3 c2 c9
                    have e1 : IntKind.i64.wrap (0 - x) = -x := neg_i64 (by omega)
                    have e2 : (if -x > x then -x else x) = (x.natAbs : Int) := max_abs _
                    have e3 : IntKind.i64.wrap (0 - y) = -y := neg_i64 (by omega)
                    have e4 : (if -y > y then -y else y) = (y.natAbs : Int) := max_abs _
                    have e5 : IntKind.i64.wrap ((x.natAbs : Int) + (y.natAbs : Int)) = ((x.natAbs + y.natAbs : Nat) : Int) := add_i64 (by omega)
                    repeat ((with_reducible fail_if_success (show wpList _ _ _ (⟨some 195, _, _, _, _, _⟩ :: _) _ _)); first | go_values | go_skip | go_guarded | go_step | go_upon)
                    refine wpList_load_row rfl 26 (.tmp 5) rfl _ rfl 26 (R16 ra) _ _ hk5 Try.underlying26 rfl (by rw [R16_size, hla]; exact szRub) ?_
                    repeat ((with_reducible fail_if_success (show wpList _ _ _ (⟨some 196, _, _, _, _, _⟩ :: _) _ _)); first | go_values | go_skip | go_guarded | go_step | go_upon)
                    refine wpList_load_row rfl 26 (.tmp 6) rfl _ rfl 26 (R16 rb) _ _ hk6 Try.underlying26 rfl (by rw [R16_size, hlb]; exact szRub) ?_
                    repeat (first | go_values | go_skip | go_guarded | go_step | go_upon)
                    go_at_call 17
                    refine (matchAt_spec ra rb _ _ _ HVA.out.len HVB.out.len HVA.out.lt).mono ?_
                    rintro e wm ⟨rfl, hb3⟩
                    rw [HMO.out]
                    clear hk5 hk6
                    dsimp only
                    repeat (first | go_values | go_skip | go_guarded | go_step | go_upon)
                    clear e1 e2 e3 e4 e5
                    refine ⟨?_, ?measure⟩
                    apply Exists.intro
                    (repeat apply Exists.intro)
                    refine ⟨?rel, rfl⟩
                    case rel => exact ⟨x + 1, by omega, by omega, rfl, below_step HBI.out hb3⟩
                    case measure => simp [intOf]; omega
              · obtain rfl : x = 6 := by omega
                have hbo2 := below_step hbo hbi
                repeat (first | go_values | go_skip | go_guarded | go_step | go_upon)
                go_roundw
                case rel => exact ⟨y + 1, by omega, by omega, rfl, hbo2⟩
                case measure => simp [intOf]; omega
          · obtain rfl : y = 6 := by omega
            have HK5 := Lib.hid (HK5.out.next hbo)
            have HK6 := Lib.hid (HK6.out.next hbo)
            have HBB := Lib.hid (below_step HBB.out hbo)
            clear hbo
            have HSB2 := Lib.hid (HSB.out.next HBB.out)
            clear HBX hXr hYr hTr HSB hszw
            repeat ((with_reducible fail_if_success (show wpList _ _ _ (⟨some 263, _, _, _, _, _⟩ :: _) _ _)); (with_reducible fail_if_success (show Code.wp _ (Code.seq (Code.region 32 _ _) _) _ _ _)); first | go_values | go_skip | go_guarded | go_step | go_upon)
            exact tail w wr Ab nb cb b HNB mb HSB2 HYB ra rb HVA HVB _ _ HK5 HK6 HBB K HK _ _ _ _ _ _ _ _ _ _ _ _ _ _ _ _ _ _ _ _ _ _ _ _ _ _ _ _ _ _ _ _ _ _ _ _ _ _ _ _ _ _ _ _ _ _ _ _ _ _ _ _ _ _ _ _ _ _ _ _ _ _ _ _ _ _ _ _ _ _ _ _ _ _ _ _ _ _ _ _ _ _ _ _ _ _ _ _ _ _ _ _ _ _ _ _ _ _ _ _ _ _ _ _ _ _ _ _ _ _ _ _ _ _ _ _ _ _ _ _ _ _ _ _ _ _ _ _ _ _ _ _ _ _ _ _ _ _ _ _ _ _ _ _ _ _ _ _ _ _ _ _ _ _ _ _ _ _ _ _ _ _ _ _ _ _ _ _ _ _ _ _ _ _ _ _ _ _ _ _ _ _ _ _ _ _ _ _ _ _ _ _ _ _ _ _ _ _ _ _ _ _ _ _ _ _ _ _ _ _ _ _ _ _ _ _ _ _ _ _ _ _ _ _ _ _ _ _ _ _ _ _ _ _ _ _ _ _ _ _ _ _ _ _ _ _ _ _ _ _ _ _ _ _ _ _ _ _ _ _ _ _ _ _ _ _ _ _ _ _ _ _ _ _ _ _ _ _ _ _ _ _ _ _ _ _ _ _ _ _ _ _ _ _ _ _ _ _ _ _ _ _ _ _ _ _ _ _ _ _ _ _ _ _ _ _ _ _ _ _ _ _ _ _ _ _ _ _ _ _ _ _ _ _ _ _ _ _ _ _ _ _ _ _ _ _ _ _ _ _ _ _ _ _ _

theorem own : ownKnob Try.prog.godebug = none := by kernel_rfl
theorem laidOut : laidOutB Try.prog = true := by kernel_rfl
set_option maxRecDepth 100000 in
theorem lifted (os : Os) (started : os.Started) (H : Type) (enc : TypeId × Value → H) :
    ReturnsInHanded {} Try.checked os 3 .any (Rows.fnRubbingsSpec.pre6 enc Try.prog Try.f3 Rows.fnRubbingsRow.domain false) (Rows.fnRubbingsSpec.post enc Try.prog Try.f3 false true false false) := by
  refine returnsInHanded_of_change (C := Try.checked) own started (by kernel_rfl) Try.func3
    (ChangeSpec.witness6 (enc := enc) (C := Try.checked) false ⟨#[], #[.slice none 0 0, .slice none 0 0], []⟩ 8 (by kernel_rfl) (by kernel_rfl) (by kernel_rfl) (by kernel_rfl)) ?_
  intro W base args ds gs before hval0 hW hcnd _
  have hval : ∀ (j : Nat) t v, Try.f3.params[j]? = some t → args[j]? = some v → Value.okWide Try.prog W .any base t v := hval0
  have hW' := hW
  obtain ⟨p, q, hA0, hV, rfl, hfz, hnd⟩ := hW
  have hA : DataW.TrodAll enc Try.prog W 0 (fun _ => true) true Try.f3.params.toList args.toList ds p := hA0
  rw [Try.params3] at hA hval
  obtain ⟨v0, vs0, d0, ds0, p0, q0, hargs, rfl, rfl, h0, r0⟩ := trodAll_cons hA
  obtain ⟨v1, vs1, d1, ds1, p1, q1, rfl, rfl, rfl, h1, r1⟩ := trodAll_cons r0
  obtain ⟨rfl, rfl, rfl⟩ := trodAll_nil r1
  obtain rfl : args = #[v0, v1] := by cases args; simp_all
  obtain ⟨rfl, rfl⟩ := trodVars_none hV
  have k0 := h0
  have lt0 : ∀ x ∈ p0, x.block < W.heap.size := by obtain ⟨m, hm⟩ := k0; exact DataW.trod_lt m _ _ _ hm
  have k1 := h1
  have lt1 : ∀ x ∈ p1, x.block < W.heap.size := by obtain ⟨m, hm⟩ := k1; exact DataW.trod_lt m _ _ _ hm
  obtain ⟨Aa, ca, a, na, rfl, ha, ma, sa, ya⟩ := open_u8s Try.underlying22 Try.underlying5 (by kernel_rfl) (hval 0 22 v0 rfl rfl) h0
  obtain ⟨Ab, cb, b, nb, rfl, hb, mb, sb, yb⟩ := open_u8s Try.underlying22 Try.underlying5 (by kernel_rfl) (hval 1 22 v1 rfl rfl) h1
  clear hA0 hval0
  refine (walk Aa ca a na Ab cb b nb W ha ma sa ya hb mb sb yb).mono fun e W' ⟨he, bel⟩ => ?_
  subst he
  exact ⟨_, rfl, _, _, _, [], _, [], hW', trodAll_mk1 (shut_bool Try.underlying4 _), (trodAll_cons_mk (Below.trod laidOut (by kernel_rfl) (of_decide_eq_true (by kernel_rfl)) k0 bel lt0) (trodAll_cons_mk (Below.trod laidOut (by kernel_rfl) (of_decide_eq_true (by kernel_rfl)) k1 bel lt1) trodAll_mk0)), by first | rfl | simp, bel.frame _, fun h => by cases h⟩

theorem over : Rows.fnRubbingsRow.holds Try.pinned (OpenSpec.ofChange Rows.fnRubbingsSpec) :=
  OpenClaim.holds_of_wide 3 Try.f3 rfl rfl rfl rfl rfl rfl rfl ⟨rfl, rfl, rfl, rfl, rfl⟩ rfl rfl rfl rfl rfl (by kernel_rfl) Try.func3 (by kernel_rfl)
    (of_decide_eq_true (by kernel_rfl)) (by unfold Func.isWrapper; first | (rw [if_pos (by decide +kernel)]; kernel_rfl) | (rw [if_neg (by decide +kernel)]; exact ⟨rfl, rfl⟩))
    (fun os started H enc _ => lifted os started H enc)

theorem proved : Rows.FnRubbingsSaid := over
#print axioms proved
end Go.Proofs.Ytgmlhnmjeelajaa.lawRubbings
