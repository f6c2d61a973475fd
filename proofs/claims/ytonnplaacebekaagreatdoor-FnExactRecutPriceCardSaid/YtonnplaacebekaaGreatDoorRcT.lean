/- Contracts: a number among numbers; what cutting again costs, by the reference. -/
import Derived.Test.YtonnplaacebekaaGreatDoorRcS

namespace Go.Proofs.YtonnplaacebekaaGreatDoor
open Go Go.RowKit
set_option linter.unusedVariables false
set_option linter.unusedSimpArgs false

/-- Whether one of the first k is the number. -/
def hasN (xs : List Int) (x : Int) : Nat → Bool
  | 0 => false
  | k + 1 => hasN xs x k || rdI xs k == x
theorem hasN_mem (xs : List Int) (x : Int) : hasN xs x xs.length = decide (x ∈ xs) := by
  have h : ∀ k, k ≤ xs.length → (hasN xs x k = true ↔ ∃ i, i < k ∧ rdI xs i = x) := by
    intro k
    induction k with
    | zero => intro _; simp [hasN]
    | succ k ih =>
      intro hk
      rw [hasN, Bool.or_eq_true, ih (by omega), beq_iff_eq]
      constructor
      · rintro (⟨i, hi, e⟩ | e)
        · exact ⟨i, by omega, e⟩
        · exact ⟨k, by omega, e⟩
      · rintro ⟨i, hi, e⟩
        by_cases h : i = k
        · subst h; exact .inr e
        · exact .inl ⟨i, by omega, e⟩
  have h2 := h _ (Nat.le_refl _)
  rw [Bool.eq_iff_iff, h2, decide_eq_true_iff]
  constructor
  · rintro ⟨i, hi, e⟩
    rw [← e]
    unfold rdI
    rw [List.getD_eq_getElem?_getD, List.getElem?_eq_getElem hi]
    exact List.getElem_mem hi
  · intro hm
    obtain ⟨i, hi, e⟩ := List.mem_iff_getElem.1 hm
    refine ⟨i, hi, ?_⟩
    unfold rdI
    rw [List.getD_eq_getElem?_getD, List.getElem?_eq_getElem hi]
    exact e
theorem hasN_hit {xs : List Int} {x : Int} {k : Nat} (hk : k < xs.length) (h : rdI xs k = x) : decide (x ∈ xs) = true := by
  rw [← hasN_mem]
  have : ∀ m, k < m → hasN xs x m = true := by
    intro m
    induction m with
    | zero => intro h; omega
    | succ m ih =>
      intro hm
      rw [hasN]
      by_cases e : k = m
      · subst e; rw [h]; simp
      · rw [ih (by omega)]; rfl
  exact this _ hk

set_option maxHeartbeats 1000000 in
set_option maxRecDepth 100000 in
theorem has_spec (A : Option Addr) (n c : Nat) (xs : List Int) (x : Int) (w : World) (hn : xs.length = n) (hm : n ≤ 1048576) (h : SlE i64 w A xs) :
    Calls Tryz.prog 46 #[.slice A n c, .int .i64 x] w fun e w' => e = .returned (.bool (decide (x ∈ xs))) ∧ Below w.heap.size w w' := by
  have HA := Lib.hid h
  subst hn
  clear h
  go_enter Tryz.func46, Tryz.ntmps46
  go_wp2
  go_loopw [5] (fun i wr => ∃ k : Nat, k ≤ xs.length ∧ i = .int .i64 k ∧ hasN xs x k = false ∧ Below w.heap.size w wr) (fun i _ => xs.length - (intOf i).toNat)
  case atStart => exact ⟨0, by omega, rfl, rfl, Below.refl _ _⟩
  case round =>
    obtain ⟨k, hk, rfl, hh, hbel⟩ := hrel
    have HH := Lib.hid hh
    clear hh
    by_cases hlt : k < xs.length
    · obtain ⟨a, rfl, ra⟩ := (HA.out.next hbel).some k hlt
      have ca := ra.atI64 k hlt
      cases he : (rdI xs k == x)
      · have HN := Lib.hid (show hasN xs x (k + 1) = false by rw [hasN, HH.out, he]; rfl)
        clear ra
        go_wp2
        go_roundw
        case rel => exact ⟨k + 1, by omega, by go_num, HN.out, hbel⟩
        case measure => simp [intOf]; omega
      · have HN := Lib.hid (hasN_hit hlt (by simpa using he))
        clear ra
        go_wp2
        go_ret
        exact ⟨retB HN.out.symm, hbel⟩
    · obtain rfl : k = xs.length := by omega
      have HN := Lib.hid ((hasN_mem xs x).symm.trans HH.out)
      go_wp2
      go_ret
      exact ⟨retB HN.out.symm, hbel⟩

attribute [local irreducible] wpAnyH in
set_option maxHeartbeats 4000000 in
set_option maxRecDepth 100000 in
theorem recut_spec (f : Fc) (A : Option Addr) (n c : Nat) (p : Pc) (o s : ByteArray) (w : World) (hf : FcT f) (hn : f.pairs.length = n) (hm : n ≤ 1048576) (hos : o.size ≤ 1048576) (hs : s.size ≤ 1048576) (hp : PcT p) (h : SlP w A f.pairs) :
    Calls Tryz.prog 18 #[.agg (fcV f (.slice A n c)).toArray, .agg (pcV p).toArray, .string o, .string s] w fun e w' => e = .returned (.tuple #[.int .i64 (rcR f p (bs o) (bs s)).1, .int .i64 (rcR f p (bs o) (bs s)).2]) ∧ Below w.heap.size w w' := by
  have hB := below_two w (.cells (fcV f (.slice A n c)).toArray 36) (.cells (pcV p).toArray 38)
  have hk := (Blk.new w 36 (fcV f (.slice A n c))).alloc (.cells (pcV p).toArray 38)
  have hfa : FcAt ((w.alloc (.cells (fcV f (.slice A n c)).toArray 36)).alloc (.cells (pcV p).toArray 38)) w.heap.size f n := ⟨A, c, hk, h.next hB⟩
  have hpb := Blk.new (w.alloc (.cells (fcV f (.slice A n c)).toArray 36)) 38 (pcV p)
  rw [World.size_alloc] at hpb
  have HF := Lib.hid hf
  have HN := Lib.hid hn
  have HA := Lib.hid hfa
  have HP := Lib.hid hp
  have HB := Lib.hid hpb
  have HBB := Lib.hid hB
  have tb := hp.base
  clear hf hn h hfa hk hp hpb hB
  cases hpo : pcOk p
  · have HO := Lib.hid (show rcR f p (bs o) (bs s) = (0, 1) by unfold rcR rcC; rw [hpo]; simp)
    have HPO := Lib.hid hpo
    clear hpo
    rw [HO.out]
    go_enter Tryz.func18, Tryz.ntmps18
    go_wp2_with (go_at_call 41; refine (prices_spec p (w.heap.size + 1) _ HP.out HB.out).mono ?_; rintro e w1 ⟨he, rfl⟩; rw [HPO.out] at he; subst he)
    go_ret2
    exact ⟨rfl, HBB.out⟩
  · have HPO := Lib.hid hpo
    obtain ⟨cd, hcd⟩ : ∃ cd, cd = kepC f (bs o) (bs s) true := ⟨_, rfl⟩
    have HC := Lib.hid hcd
    by_cases h0 : cd = 0
    · have hz0 := hcd.symm.trans h0
      obtain ⟨hv, ht, hu, _⟩ := kepC_zero hz0
      have HV := Lib.hid (validF_iff.1 hv)
      have HPV := Lib.hid (pcOk_iff.1 hpo)
      have HT := Lib.hid ht
      have HU := Lib.hid hu
      obtain ⟨r, hr⟩ : ∃ r, r = bsh (cntK (lets (bs o)) (lets (bs s)) (plW f (bs o) (bs o).length) (plW f (bs s) (bs s).length)) 400 := ⟨_, rfl⟩
      have HR := Lib.hid hr
      have HD := Lib.hid (show -400 ≤ r.1 ∧ r.1 ≤ 400 by rw [hr]; exact (bsh_at _ 400).2)
      have HO := Lib.hid (show rcR f p (bs o) (bs s) = (rcS f p (lets (bs o)) (lets (bs s)) (plW f (bs o) (bs o).length) (plW f (bs s) (bs s).length) r.1 (lets (bs s)).length, 0) by
        unfold rcR
        rw [if_pos (show rcC f p (bs o) (bs s) = 0 by unfold rcC; rw [hv, hpo, ht, hu]; rfl), ← hr])
      have hx60 : (lets (bs o)).length ≤ 60 := Nat.le_trans (lets_length _) (vText_len60 ht)
      have hy60 : (lets (bs s)).length ≤ 60 := Nat.le_trans (lets_length _) (vText_len60 hu)
      have HLL := Lib.hid (lets_ll (vText_ls hu))
      subst h0
      have HK := Lib.hid (show ∀ d, kptR f (bs o) (bs s) d = kptN (lets (bs o)) (lets (bs s)) (plW f (bs o) (bs o).length) (plW f (bs s) (bs s).length) d (lets (bs s)).length from fun _ => rfl)
      clear hpo hv ht hu hcd hz0 hr
      rw [HO.out]
      clear HO
      obtain ⟨x, hx⟩ : ∃ x, x = lets (bs o) := ⟨_, rfl⟩
      obtain ⟨y, hy⟩ : ∃ y, y = lets (bs s) := ⟨_, rfl⟩
      obtain ⟨pa, hpa⟩ : ∃ pa, pa = plW f (bs o) (bs o).length := ⟨_, rfl⟩
      obtain ⟨qa, hqa⟩ : ∃ qa, qa = plW f (bs s) (bs s).length := ⟨_, rfl⟩
      have hKK := HK.out
      have hLL := HLL.out
      rw [← hx, ← hy, ← hpa, ← hqa] at hKK ⊢
      rw [← hx] at hx60
      rw [← hy] at hy60 hLL
      have HKK := Lib.hid hKK
      have HLY := Lib.hid hLL
      have HX := Lib.hid hx
      have HY := Lib.hid hy
      clear hx hy hpa hqa hKK hLL HK HLL
      obtain ⟨d, ds⟩ := r
      simp only at HD ⊢
      obtain ⟨K, hK⟩ : ∃ K, K = kptN x y pa qa d y.length := ⟨_, rfl⟩
      have HKE := Lib.hid hK
      have hKl : K.length ≤ 60 := by have := kptN_length x y pa qa d y.length; rw [hK]; omega
      have HKM := Lib.hid (show ∀ k, k < y.length → decide ((k : Int) ∈ K) = kbN x y pa qa d k x.length by
        intro k hk
        have := kpt_mem x y pa qa d y.length k hk
        rw [← hK] at this
        rw [Bool.eq_iff_iff, decide_eq_true_iff]; exact this)
      have HRG := Lib.hid (fun k hk => rcS_range (f := f) (p := p) HV.out HPV.out (x := x) (y := y) (a := pa) (b := qa) (s := d) hx60 hy60 HLY.out k hk)
      have HR0 := Lib.hid (show p.base + p.fill * ((x.length : Int) - (K.length : Int)) = rcS f p x y pa qa d 0 by rw [hK]; rfl)
      have hb1 := HPV.out.base
      have hb2 := HPV.out.fill
      have HML := Lib.hid (show -61000 ≤ p.fill * ((x.length : Int) - (K.length : Int)) ∧ p.fill * ((x.length : Int) - (K.length : Int)) ≤ 61000 by
        have h1 := HRG.out 0 (Nat.zero_le _)
        have h2 := HR0.out
        omega)
      clear hK hb1 hb2
      go_enter Tryz.func18, Tryz.ntmps18
      go_wp2_with (first
        | (go_at_call 41; refine (prices_spec p (w.heap.size + 1) _ HP.out HB.out).mono ?_; rintro e w1 ⟨he, rfl⟩; rw [HPO.out] at he; subst he)
        | (go_at_call 42; refine (shiftC_spec f n w.heap.size o s true _ HF.out HN.out hm hos hs HA.out).mono ?_; rintro e w1 ⟨he, hb1⟩; rw [← HC.out] at he; subst he)
        | (go_at_call 43; refine (shift_spec f n w.heap.size o s _ HF.out HV.out HN.out hm hos hs HT.out HU.out (HA.out.next hb1) (d, ds) HR.out).mono ?_; rintro e w2 ⟨rfl, hb2⟩)
        | (go_at_call 44; refine (kept_spec f n w.heap.size o s d _ HF.out HV.out HN.out hm hos hs HT.out HU.out HD.out ((HA.out.next hb1).next hb2)).mono ?_; rintro e w3 ⟨A3, c3, rfl, hb3, ho3⟩; rw [HKK.out, ← HKE.out] at ho3 ⊢)
        | (go_at_call 45; refine (letters_spec s _ hs).mono ?_; rintro e w4 ⟨A4, c4, rfl, hb4, ho4⟩; rw [← HY.out] at ho4 ⊢))
      have hB3 := below_step (below_step hb1 hb2) hb3
      have hB4 := below_step hB3 hb4
      have HB4 := Lib.hid (HB.out.next hB4)
      have HA4 := Lib.hid (HA.out.next hB4)
      have HO3 := Lib.hid (ho3.next hb4)
      have HO4 := Lib.hid ho4
      have HBW := Lib.hid (below_step HBB.out hB4)
      have tf := HP.out.fill
      have hcb : IntKind.i64.wrap p.base = p.base := IntWalk.i64_in _ (by omega)
      have hcf : IntKind.i64.wrap p.fill = p.fill := IntWalk.i64_in _ (by omega)
      have hs1 : IntKind.i64.wrap ((x.length : Int) - (K.length : Int)) = (x.length : Int) - (K.length : Int) := IntWalk.i64_in _ (by omega)
      have hm1 := HML.out
      have hs2 : IntKind.i64.wrap (p.fill * ((x.length : Int) - (K.length : Int))) = p.fill * ((x.length : Int) - (K.length : Int)) := IntWalk.i64_in _ (by omega)
      have hs3 : IntKind.i64.wrap (p.base + p.fill * ((x.length : Int) - (K.length : Int))) = rcS f p x y pa qa d 0 := by rw [← HR0.out]; exact IntWalk.i64_in _ (by omega)
      clear hb1 hb2 hb3 hb4 ho3 ho4 hB3 hB4 hm1
      refine held_begin (w4.heap.size) (by kernel_rfl) ?_
      have hS := below_drewN (Below.refl (w4.heap.size) w4) 1
      refine held_take 0 (.pointer (some ⟨w.heap.size + 1, 27, none⟩)) rfl (by kernel_rfl) (by kernel_rfl) (by kernel_rfl) (fun _ _ _ h => h) (by kernel_rfl) (fun w' hw' => by kernel_rfl) hS ?_
      refine held_take 1 (.int .i16 p.base) rfl (by kernel_rfl) (by kernel_rfl) (by kernel_rfl) (fun _ _ _ h => h) (by kernel_rfl) (fun w' hw' => exec_load1 27 (.tmp 37) rfl ⟨w.heap.size + 1, 27, none⟩ (by kernel_rfl) (.int .i16 p.base) ((HB4.out.next hw').cell 27 _ (pcV_base HP.out)) _ Tryz.underlying27 rfl) hS ?_
      refine held_take 2 (.int .i64 p.base) rfl (by kernel_rfl) (by kernel_rfl) (by kernel_rfl) (fun _ _ _ h => h) (by kernel_rfl) (fun w' hw' => Eq.trans (show (execOp _ _).run _ w' = .ok (.value (.int .i64 (IntKind.i64.wrap p.base))) w' by kernel_rfl) (by rw [hcb])) hS ?_
      refine held_take 3 (.pointer (some ⟨w.heap.size + 1, 28, none⟩)) rfl (by kernel_rfl) (by kernel_rfl) (by kernel_rfl) (fun _ _ _ h => h) (by kernel_rfl) (fun w' hw' => by kernel_rfl) hS ?_
      refine held_take 4 (.int .i16 p.fill) rfl (by kernel_rfl) (by kernel_rfl) (by kernel_rfl) (fun _ _ _ h => h) (by kernel_rfl) (fun w' hw' => exec_load1 27 (.tmp 40) rfl ⟨w.heap.size + 1, 28, none⟩ (by kernel_rfl) (.int .i16 p.fill) ((HB4.out.next hw').cell 28 _ (pcV_fill HP.out)) _ Tryz.underlying27 rfl) hS ?_
      refine held_take 5 (.int .i64 p.fill) rfl (by kernel_rfl) (by kernel_rfl) (by kernel_rfl) (fun _ _ _ h => h) (by kernel_rfl) (fun w' hw' => Eq.trans (show (execOp _ _).run _ w' = .ok (.value (.int .i64 (IntKind.i64.wrap p.fill))) w' by kernel_rfl) (by rw [hcf])) hS ?_
      refine held_take 6 (.string o) rfl (by kernel_rfl) (by kernel_rfl) (by kernel_rfl) (fun _ _ _ h => h) (by kernel_rfl) (fun w' hw' => by kernel_rfl) hS ?_
      refine held_take 9 (.slice A3 K.length c3) rfl (by kernel_rfl) (by kernel_rfl) (by kernel_rfl) (fun _ _ _ h => h) (by kernel_rfl) (fun w' hw' => by kernel_rfl) hS ?_
      refine held_take 10 (.int .i64 K.length) rfl (by kernel_rfl) (by kernel_rfl) (by kernel_rfl) (fun _ _ _ h => h) (by kernel_rfl) (fun w' hw' => by kernel_rfl) hS ?_
      refine held_call 7 45 #[.string o] rfl (by kernel_rfl) (by kernel_rfl) (by kernel_rfl) ?_
      refine (letters_spec o _ hos).mono ?_
      rintro e w1 ⟨A5, c5, rfl, hb5, ho5⟩
      have hS := below_step hS hb5
      refine ⟨_, rfl, hS, ?_⟩
      rw [← HX.out]
      refine held_take 8 (.int .i64 x.length) rfl (by kernel_rfl) (by kernel_rfl) (by kernel_rfl) (fun _ _ _ h => h) (by kernel_rfl) (fun w' hw' => by kernel_rfl) hS ?_
      refine held_take 11 (.int .i64 ((x.length : Int) - (K.length : Int))) rfl (by kernel_rfl) (by kernel_rfl) (by kernel_rfl) (fun _ _ _ h => h) (by kernel_rfl) (fun w' hw' => Eq.trans (show (execOp _ _).run _ w' = .ok (.value (.int .i64 (IntKind.i64.wrap ((x.length : Int) - (K.length : Int))))) w' by kernel_rfl) (by rw [hs1])) hS ?_
      refine held_take 12 (.int .i64 (p.fill * ((x.length : Int) - (K.length : Int)))) rfl (by kernel_rfl) (by kernel_rfl) (by kernel_rfl) (fun _ _ _ h => h) (by kernel_rfl) (fun w' hw' => Eq.trans (show (execOp _ _).run _ w' = .ok (.value (.int .i64 (IntKind.i64.wrap (p.fill * ((x.length : Int) - (K.length : Int)))))) w' by kernel_rfl) (by rw [hs2])) hS ?_
      refine held_take 13 (.int .i64 (rcS f p x y pa qa d 0)) rfl (by kernel_rfl) (by kernel_rfl) (by kernel_rfl) (fun _ _ _ h => h) (by kernel_rfl) (fun w' hw' => Eq.trans (show (execOp _ _).run _ w' = .ok (.value (.int .i64 (IntKind.i64.wrap (p.base + p.fill * ((x.length : Int) - (K.length : Int)))))) w' by kernel_rfl) (by rw [hs3])) hS ?_
      refine held_take 14 (.int .i64 (rcS f p x y pa qa d 0)) rfl (by kernel_rfl) (by kernel_rfl) (by kernel_rfl) (fun _ _ _ h => h) (by kernel_rfl) (fun w' hw' => by kernel_rfl) hS ?_
      refine held_done (by kernel_rfl) ?_
      simp only [Act.put, List.setIfInBounds_toArray, List.set_cons_succ, List.set_cons_zero]
      have HS := Lib.hid hS
      clear hb5 ho5 hS hcb hcf hs1 hs2 hs3
      go_simp
      apply_assumption
      go_wp2
      rename World => wz
      go_loopw [15, 16] (fun u j wi => ∃ k : Nat, k ≤ y.length ∧ j = .int .i64 (k : Int) ∧ u = .int .i64 (rcS f p x y pa qa d k) ∧ Below w4.heap.size w4 wi) (fun _ j _ => y.length - (intOf j).toNat)
      case atStart => exact ⟨0, by omega, rfl, rfl, HS.out⟩
      case round =>
        obtain ⟨k, hk, rfl, rfl, hbi⟩ := hrel
        by_cases hlt : k < y.length
        · obtain ⟨a4, rfl, r4⟩ := (HO4.out.next hbi).sl.some k hlt
          have c4b := r4.atB k hlt
          have HMK := Lib.hid (HKM.out k hlt)
          have hr0 := HRG.out k hk
          have hr1 := HRG.out (k + 1) hlt
          have hlr := letP_range HV.out HPV.out (HLY.out k hlt)
          clear r4
          cases hkb : kbN x y pa qa d k x.length
          · have HN2 := Lib.hid (rcS_no (f := f) (p := p) hkb)
            rw [hkb] at HMK
            clear hkb
            go_wp2_with fail
            go_at_call 46
            refine (has_spec A3 _ c3 K k _ rfl (by omega) (HO3.out.next hbi).sl).mono ?_
            rintro e w6 ⟨rfl, hb6⟩
            rw [HMK.out]
            obtain ⟨a', e', r6⟩ := ((HO4.out.next hbi).next hb6).sl.some k hlt
            cases e'
            have c4b := r6.atB k hlt
            clear r6
            go_wp2_with fail
            go_at_call 47
            refine (costL_spec f p n w.heap.size (w.heap.size + 1) (byt y k) _ HF.out HP.out HV.out HPV.out (HLY.out k hlt) ((HA4.out.next hbi).next hb6) ((HB4.out.next hbi).next hb6)).mono ?_
            rintro e w7 ⟨rfl, hb7⟩
            go_wp2
            go_roundw
            case rel => exact ⟨k + 1, by omega, by go_num, by rw [HN2.out], below_step (below_step hbi hb6) hb7⟩
            case measure => simp [intOf]; omega
          · have HN2 := Lib.hid (rcS_yes (f := f) (p := p) hkb)
            rw [hkb] at HMK
            clear hkb
            go_wp2_with (go_at_call 46; refine (has_spec A3 _ c3 K k _ rfl (by omega) (HO3.out.next hbi).sl).mono ?_; rintro e w6 ⟨rfl, hb6⟩; rw [HMK.out])
            go_roundw
            case rel => exact ⟨k + 1, by omega, by go_num, by rw [HN2.out], below_step hbi hb6⟩
            case measure => simp [intOf]; omega
        · obtain rfl : k = y.length := by omega
          have HFI := Lib.hid (below_step HBW.out hbi)
          go_wp2
          go_ret2
          exact ⟨rfl, HFI.out⟩
    · have HO := Lib.hid (show rcR f p (bs o) (bs s) = (0, cd) by
        have e1 : cd = 1 := by
          have := hcd
          unfold kepC at this
          split at this
          · rename_i hh; simp at this; omega
          · exact this
        have e2 : rcC f p (bs o) (bs s) = 1 := by
          unfold rcC
          split
          · rename_i hh
            simp only [Bool.and_eq_true] at hh
            exfalso
            exact h0 (hcd.trans (kepC_ok (b := true) hh.1.1.1 hh.1.2 hh.2))
          · rfl
        unfold rcR; rw [if_neg (by rw [e2]; decide), e1])
      have HPO := Lib.hid hpo
      clear hpo hcd
      rw [HO.out]
      go_enter Tryz.func18, Tryz.ntmps18
      go_wp2_with (first
        | (go_at_call 41; refine (prices_spec p (w.heap.size + 1) _ HP.out HB.out).mono ?_; rintro e w1 ⟨he, rfl⟩; rw [HPO.out] at he; subst he)
        | (go_at_call 42; refine (shiftC_spec f n w.heap.size o s true _ HF.out HN.out hm hos hs HA.out).mono ?_; rintro e w1 ⟨he, hb1⟩; rw [← HC.out] at he; subst he))
      go_ret2
      exact ⟨rfl, below_step HBB.out hb1⟩
end Go.Proofs.YtonnplaacebekaaGreatDoor
