/- Contract: the most words that a budget buys, by the reference. -/
import Derived.Test.YtonnplaacebekaaGreatDoorMwP
import Derived.BigRegion
namespace Go.Proofs.YtonnplaacebekaaGreatDoor
open Go Go.RowKit Go.Shelf
set_option linter.unusedVariables false
set_option linter.unusedSimpArgs false

theorem bits_and1 (n : Nat) (h : n < 9223372036854775808) : bits BinOp.and IntKind.i64 (n : Int) 1 = ((n % 2 : Nat) : Int) := by
  have e : (BitVec.ofInt 64 (n : Int) &&& BitVec.ofInt 64 1).toNat = n % 2 := by
    have h1 : (BitVec.ofInt 64 (n : Int)) = BitVec.ofNat 64 n := by simp
    have h2 : (BitVec.ofInt 64 (1 : Int)) = 1#64 := by decide
    rw [h1, h2, BitVec.toNat_and, BitVec.toNat_ofNat, BitVec.toNat_ofNat, Nat.mod_eq_of_lt (by omega : n < 2 ^ 64)]
    exact Nat.and_one_is_mod n
  show IntKind.i64.wrap ((BitVec.ofInt 64 (n : Int) &&& BitVec.ofInt 64 1).toNat : Int) = _
  rw [e]
  exact IntWalk.i64_in _ (by omega)
theorem bitS_and (s i : Nat) (h : s < 1048576) : (bits BinOp.and IntKind.i64 ((s : Int) / 2 ^ i) 1 == 1) = bitS s i := by
  have e : ((s : Int) / 2 ^ i) = ((s >>> i : Nat) : Int) := by
    rw [Nat.shiftRight_eq_div_pow]
    push_cast
    rfl
  have hl : s >>> i ≤ s := by rw [Nat.shiftRight_eq_div_pow]; exact Nat.div_le_self _ _
  rw [e, bits_and1 _ (by omega)]
  unfold bitS
  rw [Bool.eq_iff_iff]
  simp only [beq_iff_eq]
  omega
theorem pow10 {n : Nat} (h : n ≤ 10) : 1 ≤ 2 ^ n ∧ 2 ^ n ≤ 1024 := by
  have := Nat.pow_le_pow_right (n := 2) (by decide) h
  exact ⟨Nat.one_le_two_pow, this⟩
theorem pow10i {n : Nat} (h : n ≤ 10) : (1 : Int) ≤ 2 ^ n ∧ (2 : Int) ^ n ≤ 1024 := by
  have := pow10 h
  have e : ((2 ^ n : Nat) : Int) = 2 ^ n := by push_cast; rfl
  omega

theorem OwnS.upto {w w' : World} {lo : Nat} {A : Option Addr} {xs : List Int} (h : OwnS w lo w.heap.size A xs) (hb : Below w.heap.size w w') : OwnS w' lo w'.heap.size A xs := fun hn => by
  obtain ⟨g, cs, e, h1, h2, h3⟩ := h hn
  have := hb.size
  exact ⟨g, cs, e, h1, by omega, h3.next hb⟩
theorem mwB_1 {m : Int} {st : Mw} {o : List Int} {c : Int} (h : m < c) : mwB m st o c = false := by rw [mwB_ref, if_pos (.inl h)]
theorem mwB_2 {m : Int} {st : Mw} {o : List Int} {c : Int} (h : o.length < st.best.length) : mwB m st o c = false := by rw [mwB_ref, if_pos (.inr h)]
theorem mwB_3 {m : Int} {st : Mw} {o : List Int} {c : Int} (h1 : ¬ m < c) (h : st.best.length < o.length) : mwB m st o c = true := by rw [mwB_ref, if_neg (by omega), decide_eq_true h]; rfl
theorem mwB_4 {m : Int} {st : Mw} {o : List Int} {c : Int} (h1 : ¬ m < c) (h : o.length = st.best.length) (h2 : c < st.cost) : mwB m st o c = true := by rw [mwB_ref, if_neg (by omega), decide_eq_true h2]; simp
theorem mwB_5 {m : Int} {st : Mw} {o : List Int} {c : Int} (h1 : ¬ m < c) (h : o.length = st.best.length) (h2 : c = st.cost) : mwB m st o c = before o st.best := by
  rw [mwB_ref, if_neg (by omega), decide_eq_false (show ¬ st.best.length < o.length by omega), decide_eq_false (show ¬ c < st.cost by omega), h2]; simp
theorem mwB_6 {m : Int} {st : Mw} {o : List Int} {c : Int} (h1 : ¬ m < c) (h : o.length = st.best.length) (h2 : ¬ c < st.cost) (h3 : c ≠ st.cost) : mwB m st o c = false := by
  rw [mwB_ref, if_neg (by omega), decide_eq_false (show ¬ st.best.length < o.length by omega), decide_eq_false h2]; simp [h3]

attribute [local irreducible] wpQuiet in
set_option maxHeartbeats 2000000 in
set_option maxRecDepth 100000 in
theorem before6_spec (A B : Option Addr) (n c m d : Nat) (xs ys : List Int) (w : World) (hn : xs.length = n) (hm : ys.length = m) (hnb : n ≤ 1048576) (hmb : m ≤ 1048576) (ha : SlE i64 w A xs) (hb : SlE i64 w B ys) :
    Calls Tryz.prog 36 #[.slice A n c, .slice B m d] w fun e w' => e = .returned (.bool (before xs ys)) ∧ Below w.heap.size w w' := by
  have HA := Lib.hid ha
  have HB := Lib.hid hb
  have HN := Lib.hid hn
  have HM := Lib.hid hm
  clear ha hb hn hm
  go_enter Tryz.func36, Tryz.ntmps36
  go_wp2
  go_loopw [5] (fun i wr => ∃ k : Nat, k ≤ n ∧ k ≤ m ∧ i = .int .i64 k ∧ SameN xs ys k ∧ Below w.heap.size w wr) (fun i _ => n - (intOf i).toNat)
  case atStart => exact ⟨0, by omega, by omega, rfl, fun j hj => by omega, Below.refl _ _⟩
  case round =>
    obtain ⟨k, hk, hk2, rfl, hs, hbel⟩ := hrel
    have HS := Lib.hid hs
    clear hs
    by_cases h1 : k < n
    · by_cases h2 : k < m
      · obtain ⟨a, rfl, hra⟩ := (HA.out.next hbel).some k (by rw [HN.out]; exact h1)
        obtain ⟨b, rfl, hrb⟩ := (HB.out.next hbel).some k (by rw [HM.out]; exact h2)
        have HRA := Lib.hid hra
        have HRB := Lib.hid hrb
        clear hra hrb
        by_cases he : rdI xs k = rdI ys k
        · have HX := Lib.hid (show SameN xs ys (k + 1) from fun j hj => by
            rcases Nat.lt_succ_iff_lt_or_eq.1 hj with h | rfl
            · exact HS.out j h
            · exact he)
          have HNE := Lib.hid (show (rdI xs k != rdI ys k) = false by rw [he]; simp)
          clear he
          go_wp2
          refine region_below (wr.heap.size) (by kernel_rfl) (by kernel_rfl) ?_
          refine below_run (by kernel_rfl) (.slice (some a) n c) (fun w' hw' => by kernel_rfl) ?_
          refine below_run (by kernel_rfl) (.int .i64 k) (fun w' hw' => by kernel_rfl) ?_
          refine below_run (by kernel_rfl) (.pointer (some (Addr.add a (k * 1)))) (fun w' hw' => exec_index 42 (.tmp 18) (.tmp 19) rfl a n c (by kernel_rfl) .i64 k (by kernel_rfl) h1 2 Tryz.underlying42 1 szI64) ?_
          refine below_run (by kernel_rfl) (.int .i64 (rdI xs k)) (fun w' hw' => exec_load1 2 (.tmp 20) rfl (a.add (k * 1)) (by kernel_rfl) (.int .i64 (rdI xs k)) (by rw [Nat.mul_one]; exact (HRA.out.next hw').atI64 k (by rw [HN.out]; exact h1)) _ Tryz.underlying2 rfl) ?_
          refine below_run (by kernel_rfl) (.slice (some b) m d) (fun w' hw' => by kernel_rfl) ?_
          refine below_run (by kernel_rfl) (.int .i64 k) (fun w' hw' => by kernel_rfl) ?_
          refine below_run (by kernel_rfl) (.pointer (some (Addr.add b (k * 1)))) (fun w' hw' => exec_index 42 (.tmp 22) (.tmp 23) rfl b m d (by kernel_rfl) .i64 k (by kernel_rfl) h2 2 Tryz.underlying42 1 szI64) ?_
          refine below_run (by kernel_rfl) (.int .i64 (rdI ys k)) (fun w' hw' => exec_load1 2 (.tmp 24) rfl (b.add (k * 1)) (by kernel_rfl) (.int .i64 (rdI ys k)) (by rw [Nat.mul_one]; exact (HRB.out.next hw').atI64 k (by rw [HM.out]; exact h2)) _ Tryz.underlying2 rfl) ?_
          refine below_run (by kernel_rfl) (.bool false) (fun w' hw' => Eq.trans (show (execOp _ _).run _ w' = .ok (.value (.bool (rdI xs k != rdI ys k))) w' by kernel_rfl) (by rw [HNE.out])) ?_
          refine wpQuiet_nil ?_
          intro W1 hW1
          simp only [Act.put, List.setIfInBounds_toArray, List.set_cons_succ, List.set_cons_zero]
          have hbel1 := hbel.trans (hW1.mono hbel.size)
          clear hW1
          go_wp2
          go_roundw
          case rel => exact ⟨k + 1, by omega, by omega, by go_num, HX.out, hbel1⟩
          case measure => simp [intOf]; omega
        · have HX := Lib.hid (before_ne xs ys k (by rw [HN.out]; exact h1) (by rw [HM.out]; exact h2) HS.out he)
          have HNE := Lib.hid (show (rdI xs k != rdI ys k) = true by simpa using he)
          clear he
          go_wp2
          refine region_below (wr.heap.size) (by kernel_rfl) (by kernel_rfl) ?_
          refine below_run (by kernel_rfl) (.slice (some a) n c) (fun w' hw' => by kernel_rfl) ?_
          refine below_run (by kernel_rfl) (.int .i64 k) (fun w' hw' => by kernel_rfl) ?_
          refine below_run (by kernel_rfl) (.pointer (some (Addr.add a (k * 1)))) (fun w' hw' => exec_index 42 (.tmp 18) (.tmp 19) rfl a n c (by kernel_rfl) .i64 k (by kernel_rfl) h1 2 Tryz.underlying42 1 szI64) ?_
          refine below_run (by kernel_rfl) (.int .i64 (rdI xs k)) (fun w' hw' => exec_load1 2 (.tmp 20) rfl (a.add (k * 1)) (by kernel_rfl) (.int .i64 (rdI xs k)) (by rw [Nat.mul_one]; exact (HRA.out.next hw').atI64 k (by rw [HN.out]; exact h1)) _ Tryz.underlying2 rfl) ?_
          refine below_run (by kernel_rfl) (.slice (some b) m d) (fun w' hw' => by kernel_rfl) ?_
          refine below_run (by kernel_rfl) (.int .i64 k) (fun w' hw' => by kernel_rfl) ?_
          refine below_run (by kernel_rfl) (.pointer (some (Addr.add b (k * 1)))) (fun w' hw' => exec_index 42 (.tmp 22) (.tmp 23) rfl b m d (by kernel_rfl) .i64 k (by kernel_rfl) h2 2 Tryz.underlying42 1 szI64) ?_
          refine below_run (by kernel_rfl) (.int .i64 (rdI ys k)) (fun w' hw' => exec_load1 2 (.tmp 24) rfl (b.add (k * 1)) (by kernel_rfl) (.int .i64 (rdI ys k)) (by rw [Nat.mul_one]; exact (HRB.out.next hw').atI64 k (by rw [HM.out]; exact h2)) _ Tryz.underlying2 rfl) ?_
          refine below_run (by kernel_rfl) (.bool true) (fun w' hw' => Eq.trans (show (execOp _ _).run _ w' = .ok (.value (.bool (rdI xs k != rdI ys k))) w' by kernel_rfl) (by rw [HNE.out])) ?_
          refine wpQuiet_nil ?_
          intro W1 hW1
          simp only [Act.put, List.setIfInBounds_toArray, List.set_cons_succ, List.set_cons_zero]
          have hbel1 := hbel.trans (hW1.mono hbel.size)
          have HRA := Lib.hid (HRA.out.next hW1)
          have HRB := Lib.hid (HRB.out.next hW1)
          clear hW1
          go_wp2
          refine region_below (W1.heap.size) (by kernel_rfl) (by kernel_rfl) ?_
          refine below_run (by kernel_rfl) (.slice (some a) n c) (fun w' hw' => by kernel_rfl) ?_
          refine below_run (by kernel_rfl) (.int .i64 k) (fun w' hw' => by kernel_rfl) ?_
          refine below_run (by kernel_rfl) (.pointer (some (Addr.add a (k * 1)))) (fun w' hw' => exec_index 42 (.tmp 27) (.tmp 28) rfl a n c (by kernel_rfl) .i64 k (by kernel_rfl) h1 2 Tryz.underlying42 1 szI64) ?_
          refine below_run (by kernel_rfl) (.int .i64 (rdI xs k)) (fun w' hw' => exec_load1 2 (.tmp 29) rfl (a.add (k * 1)) (by kernel_rfl) (.int .i64 (rdI xs k)) (by rw [Nat.mul_one]; exact (HRA.out.next hw').atI64 k (by rw [HN.out]; exact h1)) _ Tryz.underlying2 rfl) ?_
          refine below_run (by kernel_rfl) (.slice (some b) m d) (fun w' hw' => by kernel_rfl) ?_
          refine below_run (by kernel_rfl) (.int .i64 k) (fun w' hw' => by kernel_rfl) ?_
          refine below_run (by kernel_rfl) (.pointer (some (Addr.add b (k * 1)))) (fun w' hw' => exec_index 42 (.tmp 31) (.tmp 32) rfl b m d (by kernel_rfl) .i64 k (by kernel_rfl) h2 2 Tryz.underlying42 1 szI64) ?_
          refine below_run (by kernel_rfl) (.int .i64 (rdI ys k)) (fun w' hw' => exec_load1 2 (.tmp 33) rfl (b.add (k * 1)) (by kernel_rfl) (.int .i64 (rdI ys k)) (by rw [Nat.mul_one]; exact (HRB.out.next hw').atI64 k (by rw [HM.out]; exact h2)) _ Tryz.underlying2 rfl) ?_
          refine below_run (by kernel_rfl) (.bool (decide (rdI xs k < rdI ys k))) (fun w' hw' => by kernel_rfl) ?_
          refine below_run (by kernel_rfl) (.bool (decide (rdI xs k < rdI ys k))) (fun w' hw' => by kernel_rfl) ?_
          refine wpQuiet_nil ?_
          intro W2 hW2
          simp only [Act.put, List.setIfInBounds_toArray, List.set_cons_succ, List.set_cons_zero]
          have hbel2 := hbel1.trans (hW2.mono hbel1.size)
          clear hW2
          go_wp2
          go_ret
          exact ⟨retB HX.out.symm, hbel2⟩
      · have HX := Lib.hid (before_end xs ys (fun j h3 h4 => HS.out j (by rw [HM.out] at h4; omega)))
        rw [HN.out, HM.out] at HX
        go_wp2
        go_ret
        exact ⟨retB HX.out.symm, hbel⟩
    · have HX := Lib.hid (before_end xs ys (fun j h3 h4 => HS.out j (by rw [HN.out] at h3; omega)))
      rw [HN.out, HM.out] at HX
      go_wp2
      go_ret
      exact ⟨retB HX.out.symm, hbel⟩

attribute [local irreducible] wpQuiet in
set_option maxHeartbeats 4000000 in
set_option maxRecDepth 100000 in
theorem mostWords_spec (f : Fc) (A : Option Addr) (n c : Nat) (p : Pc) (s : ByteArray) (m : Int) (w : World) (hf : FcT f) (hn : f.pairs.length = n) (hm : n ≤ 1048576) (hs : s.size ≤ 1048576) (hp : PcT p) (h : SlP w A f.pairs) :
    Calls Tryz.prog 12 #[.agg (fcV f (.slice A n c)).toArray, .agg (pcV p).toArray, .string s, .int .i64 m] w (ShOut w (mwR f p (bs s) m)) := by
  have hB := below_two w (.cells (fcV f (.slice A n c)).toArray 36) (.cells (pcV p).toArray 38)
  have hk := (Blk.new w 36 (fcV f (.slice A n c))).alloc (.cells (pcV p).toArray 38)
  have hfa : FcAt ((w.alloc (.cells (fcV f (.slice A n c)).toArray 36)).alloc (.cells (pcV p).toArray 38)) w.heap.size f n := ⟨A, c, hk, h.next hB⟩
  have hpb := Blk.new (w.alloc (.cells (fcV f (.slice A n c)).toArray 36)) 38 (pcV p)
  rw [World.size_alloc] at hpb
  have tb := hp.base
  have HF := Lib.hid hf
  have HN := Lib.hid hn
  have HA := Lib.hid hfa
  have HP := Lib.hid hp
  have HB := Lib.hid hpb
  have HBB := Lib.hid hB
  clear hf hn h hfa hk hp hpb hB
  obtain ⟨fb, hfb⟩ : ∃ fb, fb = inB 0 1000000 m := ⟨_, rfl⟩
  have HFB := Lib.hid hfb
  obtain ⟨cd, hcd⟩ : ∃ cd, cd = pcC f p (bs s) fb := ⟨_, rfl⟩
  have HC := Lib.hid hcd
  obtain ⟨ws, hW⟩ : ∃ ws, ws = words (bs s) := ⟨_, rfl⟩
  have HWS := Lib.hid hW
  by_cases h0 : cd = 0
  · have hz := hcd.symm.trans h0
    obtain ⟨hv, hpo, ht, hinn⟩ := pcC_zero hz
    have HVV := Lib.hid (validF_iff.1 hv)
    have HPV := Lib.hid (pcOk_iff.1 hpo)
    have HW := Lib.hid (show Ws ws by rw [hW]; exact ws_words ht)
    have hcnt : ws.length ≤ 60 := by rw [hW]; exact words_count ht
    by_cases h10 : 10 < ws.length
    · have HO := Lib.hid (show mwR f p (bs s) m = ([], 0, 3) by
        have e : mwC f p (bs s) m = 3 := by unfold mwC; rw [← hfb, if_pos hz, ← hW, if_pos h10]
        unfold mwR; rw [e]; rfl)
      subst h0
      clear hv ht hcd hinn hpo hz hfb hW
      rw [HO.out]
      go_enter Tryz.func12, Tryz.ntmps12
      go_wp2_with (first
        | (go_at_call 22; refine (budget_spec _ _).mono ?_; rintro e w0 ⟨he, rfl⟩; rw [← HFB.out] at he; subst he)
        | (go_at_call 21; refine (pcTold_spec f n w.heap.size (w.heap.size + 1) p s fb _ HF.out HN.out hm hs HP.out HA.out HB.out).mono ?_; rintro e w1 ⟨he, hb⟩; rw [← HC.out] at he; subst he; have hb1 := hb; clear hb)
        | (go_at_call 23; refine (words_spec s _ hs).mono ?_; rintro e w2 ⟨A1, c1, rfl, hc1, hb2, hsl, hA1⟩; rw [← HWS.out] at hc1 hsl hA1 ⊢; have c27 := ((HB.out.next hb1).next hb2).cell 27 _ (pcV_base HP.out); have c27b := (((HB.out.next hb1).next hb2).alloc (.cells #[] 2)).cell 27 _ (pcV_base HP.out)))
      go_ret3
      exact ⟨_, _, rfl, below_step (below_step HBB.out hb1) (below_step hb2 (below_one _ _)), OwnS.nil⟩
    · by_cases hbm : m < p.base
      · have HO := Lib.hid (show mwR f p (bs s) m = ([], 0, 6) by
          have e : mwC f p (bs s) m = 6 := by unfold mwC; rw [← hfb, if_pos hz, ← hW, if_neg h10, if_pos hbm]
          unfold mwR; rw [e]; rfl)
        subst h0
        clear hv ht hcd hinn hpo hz hfb hW
        rw [HO.out]
        go_enter Tryz.func12, Tryz.ntmps12
        go_wp2_with (first
          | (go_at_call 22; refine (budget_spec _ _).mono ?_; rintro e w0 ⟨he, rfl⟩; rw [← HFB.out] at he; subst he)
          | (go_at_call 21; refine (pcTold_spec f n w.heap.size (w.heap.size + 1) p s fb _ HF.out HN.out hm hs HP.out HA.out HB.out).mono ?_; rintro e w1 ⟨he, hb⟩; rw [← HC.out] at he; subst he; have hb1 := hb; clear hb)
          | (go_at_call 23; refine (words_spec s _ hs).mono ?_; rintro e w2 ⟨A1, c1, rfl, hc1, hb2, hsl, hA1⟩; rw [← HWS.out] at hc1 hsl hA1 ⊢; have c27 := ((HB.out.next hb1).next hb2).cell 27 _ (pcV_base HP.out); have c27b := (((HB.out.next hb1).next hb2).alloc (.cells #[] 2)).cell 27 _ (pcV_base HP.out)))
        go_ret3
        exact ⟨_, _, rfl, below_step (below_step HBB.out hb1) (below_step hb2 (below_one _ _)), OwnS.nil⟩
      · have HO := Lib.hid (show mwR f p (bs s) m = ((mst f p ws m (2 ^ ws.length - 1)).best, (mst f p ws m (2 ^ ws.length - 1)).cost, 0) by
          have e : mwC f p (bs s) m = 0 := by unfold mwC; rw [← hfb, if_pos hz, ← hW, if_neg h10, if_neg hbm]
          unfold mwR; rw [if_pos e, ← hW])
        have hpi := pow10i (show ws.length ≤ 10 by omega)
        have HPW := Lib.hid (show ((2 ^ ws.length : Nat) : Int) = 2 ^ ws.length by push_cast; rfl)
        subst h0
        clear hv ht hcd hinn hpo hz hfb hW
        rw [HO.out]
        go_enter Tryz.func12, Tryz.ntmps12
        go_wp2_with (first
          | (go_at_call 22; refine (budget_spec _ _).mono ?_; rintro e w0 ⟨he, rfl⟩; rw [← HFB.out] at he; subst he)
          | (go_at_call 21; refine (pcTold_spec f n w.heap.size (w.heap.size + 1) p s fb _ HF.out HN.out hm hs HP.out HA.out HB.out).mono ?_; rintro e w1 ⟨he, hb⟩; rw [← HC.out] at he; subst he; have hb1 := hb; clear hb)
          | (go_at_call 23; refine (words_spec s _ hs).mono ?_; rintro e w2 ⟨A1, c1, rfl, hc1, hb2, hsl, hA1⟩; rw [← HWS.out] at hc1 hsl hA1 ⊢; have c27 := ((HB.out.next hb1).next hb2).cell 27 _ (pcV_base HP.out); have c27b := (((HB.out.next hb1).next hb2).alloc (.cells #[] 2)).cell 27 _ (pcV_base HP.out)))
        have hB2 := below_step (below_step HBB.out hb1) hb2
        have HA2 := Lib.hid ((HA.out.next hb1).next hb2)
        have HB2 := Lib.hid ((HB.out.next hb1).next hb2)
        have HSL := Lib.hid hsl
        have HG := Lib.hid hA1
        clear hsl hA1 hb1 hc1
        clear c27 c27b
        go_loopw [13, 14, 15] (fun v u i wr => ∃ t T : Nat, T = t + 1 ∧ T ≤ 2 ^ ws.length ∧ i = .int .i64 (T : Int) ∧ u = .int .i64 (mst f p ws m t).cost ∧ (∃ Ab cb, v = .slice Ab (mst f p ws m t).best.length cb ∧ OwnS wr w2.heap.size wr.heap.size Ab (mst f p ws m t).best) ∧ Below w2.heap.size w2 wr) (fun _ _ i _ => 2 ^ ws.length - (intOf i).toNat)
        case atStart => exact ⟨0, 1, rfl, (pow10 (show ws.length ≤ 10 by omega)).1, rfl, rfl, ⟨_, _, rfl, OwnS.nil⟩, below_one _ _⟩
        case round =>
          obtain ⟨t, T, hT, ht, rfl, rfl, ⟨Ab, cb, rfl, hbest⟩, hbel⟩ := hrel
          have HT := Lib.hid hT
          clear hT
          have hbw := below_step hB2 hbel
          have c27 := (HB2.out.next hbel).cell 27 _ (pcV_base HP.out)
          have c27b := ((HB2.out.next hbel).alloc (.cells #[] 2)).cell 27 _ (pcV_base HP.out)
          have hpn := pow10 (show ws.length ≤ 10 by omega)
          have hsh : ((T : Int) < 2 ^ ws.length) ↔ T < 2 ^ ws.length := by have := HPW.out; omega
          by_cases hlt : T < 2 ^ ws.length
          · have hlti := hsh.2 hlt
            clear hsh
            have hrng := mst_range HVV.out HPV.out HW.out (show ws.length ≤ 10 by omega) m t
            have hgr0 : GrO wr (wr.alloc (.cells #[] 2)) (wr.alloc (.cells #[] 2)) 2 wr.heap.size (.slice (some ⟨wr.heap.size, 0, none⟩) 0 0) [] := ⟨own_empty _ _ rfl _ _ (Nat.le_refl _) 1, grown_refl _ _, .inl rfl, below_one _ _⟩
            have HBE := Lib.hid (hbest.next (below_one wr (.cells #[] 2)))
            have hzo := hbel.size
            clear hbest
            go_wp2
            rename World => wo
            clear c27 c27b
            go_loopw [16, 17, 18] (fun v u j wi => ∃ k : Nat, k ≤ ws.length ∧ j = .int .i64 k ∧ u = .int .i64 (cstN f p ws T k) ∧ GrO wo (wo.alloc (.cells #[] 2)) wi 2 wo.heap.size v ((idxN (bitS T) k).map i64)) (fun _ _ j _ => ws.length - (intOf j).toNat)
            case atStart => exact ⟨0, Nat.zero_le _, rfl, rfl, hgr0⟩
            clear hgr0
            case round =>
              obtain ⟨k, hk, rfl, rfl, h⟩ := hrel
              have hkl := idxN_length (bitS T) k
              have hcr := cstN_range HVV.out HPV.out HW.out T k hk
              have hbi := below_step hbel h.below
              by_cases hlk : k < ws.length
              · obtain ⟨a, rfl, hrow⟩ := (HSL.out.next hbi).some k hlk
                have hbit := bitS_and T k (by omega)
                cases hb : bitS T k
                · rw [hb] at hbit
                  have HI := Lib.hid (idxN_no hb)
                  have HCS := Lib.hid (cstN_no (f := f) (p := p) (ws := ws) hb)
                  clear hb hrow
                  go_wp2
                  go_roundw
                  case rel => exact ⟨k + 1, by omega, by go_num, by rw [HCS.out], by rw [HI.out]; exact h⟩
                  case measure => simp [intOf]; omega
                · rw [hb] at hbit
                  have HI := Lib.hid (idxN_yes hb)
                  obtain ⟨pr, hpr⟩ : ∃ pr, pr = prcW f p (rdW ws k) := ⟨_, rfl⟩
                  have HCS := Lib.hid (show cstN f p ws T (k + 1) = cstN f p ws T k + (pr - p.base) by rw [cstN_yes hb, hpr])
                  have hwc := word_cost HVV.out HPV.out HW.out hlk
                  rw [← hpr] at hwc
                  have hbr := HPV.out.base
                  have HPR := Lib.hid hpr
                  have HRW := Lib.hid (SlE.of_row hrow)
                  have H := Lib.hid h
                  have hown := h.own
                  have hszw := h.below.size
                  rw [List.length_map] at hown
                  have hcb : IntKind.i64.wrap p.base = p.base := IntWalk.i64_in _ (by omega)
                  have hs1 : IntKind.i64.wrap (pr - p.base) = pr - p.base := IntWalk.i64_in _ (by omega)
                  have hs2 : IntKind.i64.wrap (cstN f p ws T k + (pr - p.base)) = cstN f p ws T k + (pr - p.base) := IntWalk.i64_in _ (by omega)
                  have hls : LS (bs ⟨(rdW ws k).toArray⟩) := fun i hi => .inr ((HW.out.isw _ (rdW_mem hlk)).1 i hi)
                  have hl60 : (⟨(rdW ws k).toArray⟩ : ByteArray).size ≤ 60 := HW.out.len _ (rdW_mem hlk)
                  have HLS := Lib.hid hls
                  have HL60 := Lib.hid hl60
                  clear hb hrow hpr h hls hl60
                  go_wp2_with (at_builtin; refine wpList_app1B rfl (.tmp 73) (.tmp 75) _ rfl elI wr wo.heap.size u16 (idxN (bitS T) k).length _ rfl hown (.int .i64 k) _ rfl rfl rfl (by unfold maxLen; omega) (by omega) hszw ?_; intro v' w' ho' hg' hwh)
                  have hput := H.out.put (by rw [List.length_map]; exact ho') hg' hwh
                  have HPU := Lib.hid hput
                  have hb2' := below_step hbel hput.below
                  have HB3 := Lib.hid (HB2.out.next hb2')
                  have HA3 := Lib.hid (HA2.out.next hb2')
                  have HR3 := Lib.hid (HSL.out.next hb2')
                  have HCO := Lib.hid (fun (w3 : World) (hw3 : Below w'.heap.size w' w3) => (show Calls Tryz.prog 24 #[.pointer (some ⟨w.heap.size, 0, none⟩), .pointer (some ⟨w.heap.size + 1, 0, none⟩), .string ⟨(rdW ws k).toArray⟩] w3 (fun e w1 => e = .returned (.int .i64 pr) ∧ Below w3.heap.size w3 w1) from HPR.out ▸ cost_spec f p n w.heap.size (w.heap.size + 1) ⟨(rdW ws k).toArray⟩ w3 HF.out HP.out HVV.out HPV.out HLS.out HL60.out (HA3.out.next hw3) (HB3.out.next hw3)))
                  clear hput hb2' ho' hg' hwh hown
                  refine region_below (w'.heap.size) (by kernel_rfl) (by kernel_rfl) ?_
                  refine below_run (by kernel_rfl) (.int .i64 (cstN f p ws T k)) (fun w' hw' => by kernel_rfl) ?_
                  refine below_run (by kernel_rfl) (.slice (some a) ws.length c1) (fun w' hw' => by kernel_rfl) ?_
                  refine below_run (by kernel_rfl) (.int .i64 k) (fun w' hw' => by kernel_rfl) ?_
                  refine below_run (by kernel_rfl) (.pointer (some (Addr.add a (k * 1)))) (fun w' hw' => exec_index 55 (.tmp 78) (.tmp 79) rfl a ws.length c1 (by kernel_rfl) .i64 k (by kernel_rfl) hlk 9 Tryz.underlying55 1 szStr) ?_
                  refine below_run (by kernel_rfl) (.string ⟨(rdW ws k).toArray⟩) (fun w' hw' => exec_load1 9 (.tmp 80) rfl (a.add (k * 1)) (by kernel_rfl) (.string ⟨(rdW ws k).toArray⟩) (by rw [Nat.mul_one]; exact (HR3.out.next hw').some k hlk |> fun ⟨a', e, r⟩ => by cases e; exact r.atW k hlk) _ Tryz.underlying9 rfl) ?_
                  refine below_call (by kernel_rfl) 24 #[.pointer (some ⟨w.heap.size, 0, none⟩), .pointer (some ⟨w.heap.size + 1, 0, none⟩), .string ⟨(rdW ws k).toArray⟩] (.int .i64 pr) (fun w' => by kernel_rfl) (fun w' hw' => (HCO.out w' hw').mono fun e w1 ⟨he, hb1⟩ => ⟨he, below_step hw' hb1⟩) ?_
                  refine below_run (by kernel_rfl) (.pointer (some ⟨w.heap.size + 1, 27, none⟩)) (fun w' hw' => by kernel_rfl) ?_
                  refine below_run (by kernel_rfl) (.int .i16 p.base) (fun w' hw' => exec_load1 27 (.tmp 83) rfl ⟨w.heap.size + 1, 27, none⟩ (by kernel_rfl) (.int .i16 p.base) ((HB3.out.next hw').cell 27 _ (pcV_base HP.out)) _ Tryz.underlying27 rfl) ?_
                  refine below_run (by kernel_rfl) (.int .i64 p.base) (fun w' hw' => Eq.trans (show (execOp _ _).run _ w' = .ok (.value (.int .i64 (IntKind.i64.wrap p.base))) w' by kernel_rfl) (by rw [hcb])) ?_
                  refine below_run (by kernel_rfl) (.int .i64 (pr - p.base)) (fun w' hw' => Eq.trans (show (execOp _ _).run _ w' = .ok (.value (.int .i64 (IntKind.i64.wrap (pr - p.base)))) w' by kernel_rfl) (by rw [hs1])) ?_
                  refine below_run (by kernel_rfl) (.int .i64 (cstN f p ws T k + (pr - p.base))) (fun w' hw' => Eq.trans (show (execOp _ _).run _ w' = .ok (.value (.int .i64 (IntKind.i64.wrap (cstN f p ws T k + (pr - p.base))))) w' by kernel_rfl) (by rw [hs2])) ?_
                  refine below_run (by kernel_rfl) (.int .i64 (cstN f p ws T k + (pr - p.base))) (fun w' hw' => by kernel_rfl) ?_
                  refine wpQuiet_nil ?_
                  intro W3 hW3
                  simp only [Act.put, List.setIfInBounds_toArray, List.set_cons_succ, List.set_cons_zero]
                  have hp3 := HPU.out.next hW3
                  clear hcb hs1 hs2 hW3
                  go_wp2
                  go_roundw
                  case rel => exact ⟨k + 1, by omega, by go_num, by rw [HCS.out], by rw [HI.out, List.map_append]; exact hp3⟩
                  case measure => simp [intOf]; omega
              · obtain rfl : k = ws.length := by omega
                have hown := h.own
                rw [List.length_map] at hown
                obtain ⟨A3, c3, rfl, hl3, ho3⟩ := OwnS.of_own hown
                have hbe3 := HBE.out.grown h.grow (fun b e => by cases e; exact .inr (Nat.le_refl _))
                have HNX := Lib.hid (show mst f p ws m T = stpM m (mst f p ws m t) (idxN (bitS T) ws.length) (cstN f p ws T ws.length) by rw [HT.out]; rfl)
                have hsz3 := h.below.size
                have hol : (idxN (bitS T) ws.length).length ≤ 60 := by omega
                have hbl : (mst f p ws m t).best.length ≤ 60 := by omega
                clear h hown HBE
                generalize mst f p ws m t = st at *
                generalize idxN (bitS T) ws.length = o at *
                generalize cstN f p ws T ws.length = cc at *
                obtain ⟨best, cost⟩ := st
                simp only at hbe3 hbl hrng
                have ho3s := ho3.sl
                have hbs := hbe3.sl
                have HO3 := Lib.hid (ho3.low (show w2.heap.size ≤ wo.heap.size by omega))
                have HB3 := Lib.hid (show OwnS wr w2.heap.size wr.heap.size Ab best from fun hn => by
                  obtain ⟨g, cs, e, h1, h2, h3⟩ := hbe3 hn
                  exact ⟨g, cs, e, h1, by omega, h3⟩)
                have HO3S := Lib.hid ho3s
                have HBS := Lib.hid hbs
                clear ho3 hbe3 ho3s hbs
                by_cases g1 : m < cc
                · have HN1 := Lib.hid (HNX.out.trans (stpM_no (mwB_1 g1)))
                  go_wp2
                  go_roundw
                  case rel => exact ⟨T, T + 1, rfl, by omega, by go_num, by rw [HN1.out], ⟨Ab, cb, by rw [HN1.out], by rw [HN1.out]; exact HB3.out⟩, hbi⟩
                  case measure => simp [intOf]; omega
                · by_cases g2 : o.length < best.length
                  · have HN1 := Lib.hid (HNX.out.trans (stpM_no (mwB_2 g2)))
                    go_wp2
                    go_roundw
                    case rel => exact ⟨T, T + 1, rfl, by omega, by go_num, by rw [HN1.out], ⟨Ab, cb, by rw [HN1.out], by rw [HN1.out]; exact HB3.out⟩, hbi⟩
                    case measure => simp [intOf]; omega
                  · by_cases g3 : best.length < o.length
                    · have HN1 := Lib.hid (HNX.out.trans (stpM_yes (mwB_3 g1 g3)))
                      go_wp2
                      go_roundw
                      case rel => exact ⟨T, T + 1, rfl, by omega, by go_num, by rw [HN1.out], ⟨A3, c3, by rw [HN1.out], by rw [HN1.out]; exact HO3.out⟩, hbi⟩
                      case measure => simp [intOf]; omega
                    · have G4 := Lib.hid (show o.length = best.length by omega)
                      by_cases g5 : cc < cost
                      · have HN1 := Lib.hid (HNX.out.trans (stpM_yes (mwB_4 g1 G4.out g5)))
                        go_wp2
                        go_roundw
                        case rel => exact ⟨T, T + 1, rfl, by omega, by go_num, by rw [HN1.out], ⟨A3, c3, by rw [HN1.out], by rw [HN1.out]; exact HO3.out⟩, hbi⟩
                        case measure => simp [intOf]; omega
                      · by_cases g6 : cc = cost
                        · have hB5 := mwB_5 (m := m) (st := ⟨best, cost⟩) g1 G4.out g6
                          have g6b : (cc == cost) = true := by simpa using g6
                          clear g6
                          cases hbf : before o best
                          · have HN1 := Lib.hid (HNX.out.trans (stpM_no (hB5.trans hbf)))
                            have HBF := Lib.hid hbf
                            clear hbf hB5
                            go_wp2_with (go_at_call 36; refine (before6_spec A3 Ab _ c3 _ cb o best _ rfl rfl (by omega) (by omega) HO3S.out HBS.out).mono ?_; rintro e w4 ⟨rfl, hb4⟩; rw [HBF.out])
                            have hbi := below_step hbi hb4
                            go_roundw
                            case rel => exact ⟨T, T + 1, rfl, by omega, by go_num, by rw [HN1.out], ⟨Ab, cb, by rw [HN1.out], by rw [HN1.out]; exact OwnS.upto HB3.out hb4⟩, hbi⟩
                            case measure => simp [intOf]; omega
                          · have HN1 := Lib.hid (HNX.out.trans (stpM_yes (hB5.trans hbf)))
                            have HBF := Lib.hid hbf
                            clear hbf hB5
                            go_wp2_with (go_at_call 36; refine (before6_spec A3 Ab _ c3 _ cb o best _ rfl rfl (by omega) (by omega) HO3S.out HBS.out).mono ?_; rintro e w4 ⟨rfl, hb4⟩; rw [HBF.out])
                            have hbi := below_step hbi hb4
                            go_roundw
                            case rel => exact ⟨T, T + 1, rfl, by omega, by go_num, by rw [HN1.out], ⟨A3, c3, by rw [HN1.out], by rw [HN1.out]; exact OwnS.upto HO3.out hb4⟩, hbi⟩
                            case measure => simp [intOf]; omega
                        · have HN1 := Lib.hid (HNX.out.trans (stpM_no (mwB_6 g1 G4.out g5 g6)))
                          have g6b : (cc == cost) = false := by simpa using g6
                          go_wp2
                          go_roundw
                          case rel => exact ⟨T, T + 1, rfl, by omega, by go_num, by rw [HN1.out], ⟨Ab, cb, by rw [HN1.out], by rw [HN1.out]; exact HB3.out⟩, hbi⟩
                          case measure => simp [intOf]; omega
          · have hnl : ¬ ((T : Int) < 2 ^ ws.length) := fun h => hlt (hsh.1 h)
            have hTT := HT.out
            have HTE := Lib.hid (show 2 ^ ws.length - 1 = t by omega)
            clear hsh hTT
            go_wp2
            go_ret3
            rw [HTE.out]
            exact ⟨Ab, cb, rfl, hbw, hbest.low (by have := hB2.size; omega)⟩
  · have HO := Lib.hid (show mwR f p (bs s) m = ([], 0, cd) by
      have e : mwC f p (bs s) m = cd := by unfold mwC; rw [← hfb, ← hcd, if_neg h0]
      unfold mwR; rw [e, if_neg h0])
    clear hcd hfb hW
    rw [HO.out]
    go_enter Tryz.func12, Tryz.ntmps12
    go_wp2_with (first
      | (go_at_call 22; refine (budget_spec _ _).mono ?_; rintro e w0 ⟨he, rfl⟩; rw [← HFB.out] at he; subst he)
      | (go_at_call 21; refine (pcTold_spec f n w.heap.size (w.heap.size + 1) p s fb _ HF.out HN.out hm hs HP.out HA.out HB.out).mono ?_; rintro e w1 ⟨he, hb⟩; rw [← HC.out] at he; subst he; have hb1 := hb; clear hb)
      | (go_at_call 23; refine (words_spec s _ hs).mono ?_; rintro e w2 ⟨A1, c1, rfl, hc1, hb2, hsl, hA1⟩; rw [← HWS.out] at hc1 hsl hA1 ⊢; have c27 := ((HB.out.next hb1).next hb2).cell 27 _ (pcV_base HP.out); have c27b := (((HB.out.next hb1).next hb2).alloc (.cells #[] 2)).cell 27 _ (pcV_base HP.out)))
    go_ret3
    exact ⟨_, _, rfl, below_step (below_step HBB.out hb1) (below_step hb2 (below_one _ _)), OwnS.nil⟩
end Go.Proofs.YtonnplaacebekaaGreatDoor
