/- Contracts: a face is valid, both sides; the gap of a pair, by the program. -/
import Derived.Test.YtjgflkoefimmoaaDoorFcI
import Derived.BigQuiet
namespace Go.Proofs.YtjgflkoefimmoaaDoor
open Go Go.RowKit
set_option linter.unusedVariables false
set_option linter.unusedSimpArgs false

theorem validF_many {f : Fc} {n : Nat} (hn : f.pairs.length = n) (h : ¬ (n : Int) ≤ 12) : validF f = false := by
  unfold validF; rw [decide_eq_false (by omega)]; rfl
theorem validF_few {f : Fc} {n : Nat} (hn : f.pairs.length = n) (h : (n : Int) ≤ 12) : validF f = shapeF f := by
  unfold validF; rw [decide_eq_true (by omega), Bool.true_and]
theorem validF_bad {f : Fc} (h : shapeF f = false) : validF f = false := by unfold validF; rw [h]; simp

theorem face_spec (f : Fc) (n b0 : Nat) (w : World) (hf : FcT f) (hn : f.pairs.length = n) (hm : n ≤ 1048576) (h : FcAt w b0 f n) :
    Calls Tryd.prog 39 #[.pointer (some ⟨b0, 0, none⟩)] w fun e w' => e = .returned (.bool (validF f)) ∧ Below w.heap.size w w' := by
  have H := Lib.hid h
  obtain ⟨A, c, hk, _⟩ := h
  have c28 := hk.cell 28 _ (fcV_pairs hf _)
  clear hk
  by_cases h12 : (n : Int) ≤ 12
  · have HV := Lib.hid (validF_few hn h12)
    have HN := Lib.hid hn
    clear hn
    go_enter Tryd.func39, Tryd.ntmps39
    go_wp2_with fail
    go_at_call 75
    refine (shape_spec f n b0 _ hf HN.out hm H.out).mono ?_
    rintro e w' ⟨rfl, hb⟩
    clear c28
    go_wp2
    go_ret
    exact ⟨retB HV.out.symm, hb⟩
  · have HV := Lib.hid (validF_many hn h12)
    clear hn
    go_enter Tryd.func39, Tryd.ntmps39
    go_wp2
    go_ret
    exact ⟨retB HV.out.symm, Below.refl _ _⟩

theorem face_impl (f : Fc) (A : Option Addr) (n c : Nat) (w : World) (hf : FcT f) (hn : f.pairs.length = n) (hm : n ≤ 1048576) (hs : SlP w A f.pairs) :
    Calls Tryd.prog 45 #[.agg (fcV f (.slice A n c)).toArray] w fun e w' => e = .returned (.bool (validF f)) ∧ Below w.heap.size w w' := by
  have hk := Blk.new w 33 (fcV f (.slice A n c))
  have hB := below_one w (.cells (fcV f (.slice A n c)).toArray 33)
  have HS := Lib.hid hs
  have HN := Lib.hid hn
  have HF := Lib.hid hf
  have HVM := Lib.hid (@validF_many f n hn)
  have HVF := Lib.hid (@validF_few f n hn)
  have hsz : (fcV f (.slice A n c)).toArray.size = 29 := by simp [fcV_length hf]
  clear hs hn hf
  go_enter Tryd.func45, Tryd.ntmps45
  go_wp2_with (refine wpList_load_row rfl 33 (.tmp 1) rfl _ rfl 33 (fcV f (.slice A n c)).toArray _ _ hk Tryd.underlying33 rfl (by rw [hsz]; exact szFcI) ?_)
  go_at_call 78
  refine (isFace_any f A n c _ HF.out HN.out hm (HS.out.next hB)).mono ?_
  rintro e w' ⟨rfl, hb⟩
  have hk := hk.next hb
  have hB := below_step hB hb
  have c28 := hk.cell 28 _ (fcV_pairs HF.out _)
  clear hb hk hsz
  cases hsh : shapeF f
  · have HV := Lib.hid (validF_bad hsh)
    go_wp2
    go_ret
    exact ⟨retB HV.out.symm, hB⟩
  · by_cases h12 : (n : Int) ≤ 12
    · have HV := Lib.hid (show validF f = true by rw [HVF.out h12, hsh])
      go_wp2
      go_ret
      exact ⟨retB HV.out.symm, hB⟩
    · have HV := Lib.hid (HVM.out (by omega))
      go_wp2
      go_ret
      exact ⟨retB (by rw [HV.out]; exact decide_eq_false (by omega)), hB⟩

set_option maxHeartbeats 1000000 in
set_option maxRecDepth 100000 in
theorem by_impl (f : Fc) (A : Option Addr) (n c : Nat) (x y : Int) (w : World) (hf : FcT f) (hn : f.pairs.length = n) (hm : n ≤ 1048576) (hs : SlP w A f.pairs) :
    Calls Tryd.prog 47 #[.agg (fcV f (.slice A n c)).toArray, .int .u8 x, .int .u8 y] w fun e w' => e = .returned (.int .i64 (byP f.pairs x y)) ∧ Below w.heap.size w w' := by
  have hk := Blk.new w 33 (fcV f (.slice A n c))
  have hB := below_one w (.cells (fcV f (.slice A n c)).toArray 33)
  have c28 := hk.cell 28 _ (fcV_pairs hf _)
  have HS := Lib.hid hs
  have HN := Lib.hid hn
  have HF := Lib.hid hf.pairs
  clear hs hn hf hk
  go_enter Tryd.func47, Tryd.ntmps47
  go_wp2
  go_loopw [12] (fun i wr => ∃ k : Nat, k ≤ n ∧ i = .int .i64 k ∧ NoP f.pairs x y k ∧ Below w.heap.size w wr) (fun i _ => n - (intOf i).toNat)
  case atStart => exact ⟨0, by omega, rfl, noP_zero _ _ _, hB⟩
  case round =>
    clear c28 hB
    obtain ⟨k, hk, rfl, hr, hbel⟩ := hrel
    have HR := Lib.hid hr
    clear hr
    by_cases hlt : k < n
    · obtain ⟨a, rfl, hrow⟩ := (HS.out.next hbel).get k (by rw [HN.out]; omega)
      have ht := (HF.out k (by rw [HN.out]; omega)).y
      have hB2 := step_alloc hbel (.cells (prV (rdP f.pairs k)).toArray 96)
      have hp := Blk.new wr 96 (prV (rdP f.pairs k))
      have q0 := hp.cell 0 _ rfl
      have q1 := hp.cell 1 _ rfl
      have q2 := hp.cell 2 _ rfl
      clear hp
      cases e1 : ((rdP f.pairs k).a == x)
      · have HP := Lib.hid (noP_succ HR.out (show isP (rdP f.pairs k) x y = false by unfold isP; rw [e1]; rfl))
        go_wp2_with (first
          | (refine wpList_loadV rfl 96 (.tmp 14) rfl (a.add (k * 3)) rfl (prV (rdP f.pairs k)) _ hrow Tryd.underlying96 rfl szPrI ?_; clear hrow)
          | (refine wpList_store_new rfl 96 _ _ rfl (prV (rdP f.pairs k)).toArray rfl rfl 96 _ szPrI rfl (one_pr _) ?_))
        go_roundw
        case rel => exact ⟨k + 1, by omega, by go_num, HP.out, hB2⟩
        case measure => simp [intOf]; omega
      · cases e2 : ((rdP f.pairs k).b == y)
        · have HP := Lib.hid (noP_succ HR.out (show isP (rdP f.pairs k) x y = false by unfold isP; rw [e1, e2]; rfl))
          go_wp2_with (first
            | (refine wpList_loadV rfl 96 (.tmp 14) rfl (a.add (k * 3)) rfl (prV (rdP f.pairs k)) _ hrow Tryd.underlying96 rfl szPrI ?_; clear hrow)
            | (refine wpList_store_new rfl 96 _ _ rfl (prV (rdP f.pairs k)).toArray rfl rfl 96 _ szPrI rfl (one_pr _) ?_))
          go_roundw
          case rel => exact ⟨k + 1, by omega, by go_num, HP.out, hB2⟩
          case measure => simp [intOf]; omega
        · have HP := Lib.hid (byP_hit (ps := f.pairs) (a := x) (b := y) (k := k) (by rw [HN.out]; omega) HR.out (show isP (rdP f.pairs k) x y = true by unfold isP; rw [e1, e2]; rfl))
          go_wp2_with (first
            | (refine wpList_loadV rfl 96 (.tmp 14) rfl (a.add (k * 3)) rfl (prV (rdP f.pairs k)) _ hrow Tryd.underlying96 rfl szPrI ?_; clear hrow)
            | (refine wpList_store_new rfl 96 _ _ rfl (prV (rdP f.pairs k)).toArray rfl rfl 96 _ szPrI rfl (one_pr _) ?_))
          go_ret
          exact ⟨retI HP.out.symm, hB2⟩
    · obtain rfl : k = n := by omega
      have HP := Lib.hid (byP_none (ps := f.pairs) (a := x) (b := y) (by rw [HN.out]; exact HR.out))
      go_wp2
      go_ret
      exact ⟨retI HP.out.symm, hbel⟩
end Go.Proofs.YtjgflkoefimmoaaDoor
