/- Contract: the most words that a budget buys, by the program. -/
import Derived.Test.YtonnplaacebekaaGreatDoorMwS
import Derived.Test.YtonnplaacebekaaGreatDoorCmpL
import Derived.Test.YtonnplaacebekaaGreatDoorFldA
import Derived.BigRegion


namespace Go.Proofs.YtonnplaacebekaaGreatDoor
open Go Go.RowKit Go.Shelf
set_option linter.unusedVariables false
set_option linter.unusedSimpArgs false

def mwT (m : Int) (st : Mw) (o : List Int) (c : Int) : Bool := decide (c ≤ m) && (decide (st.cost < 0) || (decide (st.best.length < o.length) || (o.length == st.best.length && (decide (c < st.cost) || (c == st.cost && before o st.best)))))
def mstI (f : Fc) (p : Pc) (ws : List (List UInt8)) (m : Int) : Nat → Mw
  | 0 => ⟨[], -1⟩
  | t + 1 => mst f p ws m t
theorem bitS_zero (i : Nat) : bitS 0 i = false := by unfold bitS; simp
theorem ownS_zero : ∀ n, ownS 0 n = []
  | 0 => rfl
  | n + 1 => by
    have ih := ownS_zero n
    unfold ownS at ih ⊢
    rw [idxN_no (bitS_zero n), ih]
theorem cstN_zero (f : Fc) (p : Pc) (ws : List (List UInt8)) : ∀ n, cstN f p ws 0 n = p.base
  | 0 => rfl
  | n + 1 => by rw [cstN_no (bitS_zero n), cstN_zero f p ws n]
theorem mwT_B {m : Int} {st : Mw} {o : List Int} {c : Int} (h : 0 ≤ st.cost) : mwT m st o c = mwB m st o c := by
  unfold mwT mwB
  rw [decide_eq_false (show ¬ st.cost < 0 by omega), Bool.false_or]
theorem mwT_1 {m : Int} {st : Mw} {o : List Int} {c : Int} (h : ¬ c ≤ m) : mwT m st o c = false := by unfold mwT; rw [decide_eq_false h]; rfl
theorem mwT_2 {m : Int} {st : Mw} {o : List Int} {c : Int} (h : c ≤ m) (h2 : st.cost < 0) : mwT m st o c = true := by unfold mwT; rw [decide_eq_true h, decide_eq_true h2]; rfl
theorem mstI_step {f : Fc} {p : Pc} (hf : FcV f) (hp : PcV p) {ws : List (List UInt8)} (hw : Ws ws) (h10 : ws.length ≤ 10) {m : Int} (hb : p.base ≤ m) (t : Nat) :
    mstI f p ws m (t + 1) = if mwT m (mstI f p ws m t) (ownS t ws.length) (cstN f p ws t ws.length) = true then ⟨ownS t ws.length, cstN f p ws t ws.length⟩ else mstI f p ws m t := by
  cases t with
  | zero =>
    have e : mwT m (mstI f p ws m 0) (ownS 0 ws.length) (cstN f p ws 0 ws.length) = true := by
      unfold mwT
      rw [cstN_zero, decide_eq_true hb]
      rfl
    rw [if_pos e, ownS_zero, cstN_zero]
    rfl
  | succ t =>
    have h := (mst_range hf hp hw h10 m t).2.1
    show mst f p ws m (t + 1) = _
    rw [mwT_B (show 0 ≤ (mstI f p ws m (t + 1)).cost from h), mst]
    rfl
theorem mstI_range {f : Fc} {p : Pc} (hf : FcV f) (hp : PcV p) {ws : List (List UInt8)} (hw : Ws ws) (h10 : ws.length ≤ 10) (m : Int) : ∀ t, (mstI f p ws m t).best.length ≤ ws.length ∧ -1 ≤ (mstI f p ws m t).cost ∧ (mstI f p ws m t).cost ≤ 24611000
  | 0 => ⟨Nat.zero_le _, by show (-1 : Int) ≤ -1; omega, by show (-1 : Int) ≤ _; omega⟩
  | t + 1 => by have := mst_range hf hp hw h10 m t; exact ⟨this.1, by have := this.2.1; show -1 ≤ (mst f p ws m t).cost; omega, this.2.2⟩

set_option maxRecDepth 100000 in
theorem mw1_any (W : World) (b t i : Nat) (h : W.cell? ⟨b, 0, none⟩ = some (.int .i64 t)) (ht : t < 1048576) (hi : i < 60) :
    Calls Tryz.prog 38 #[.int .i64 i, .pointer (some ⟨b, 0, none⟩)] W fun e w' => e = .returned (.bool (bitS t i)) ∧ Below W.heap.size W w' := by
  have hbit := bitS_and t i ht
  cases hb : bitS t i
  · rw [hb] at hbit
    clear hb
    go_enter Tryz.func38, Tryz.ntmps38
    go_wp2
    go_ret
    exact ⟨rfl, Below.refl _ _⟩
  · rw [hb] at hbit
    clear hb
    go_enter Tryz.func38, Tryz.ntmps38
    go_wp2
    go_ret
    exact ⟨rfl, Below.refl _ _⟩

attribute [local irreducible] wpQuiet in
set_option maxHeartbeats 4000000 in
set_option maxRecDepth 100000 in
theorem mostWords_impl (f : Fc) (A : Option Addr) (n c : Nat) (p : Pc) (s : ByteArray) (m : Int) (w : World) (hf : FcT f) (hn : f.pairs.length = n) (hm : n ≤ 1048576) (hs : s.size ≤ 1048576) (hp : PcT p) (h : SlP w A f.pairs) (hmx : MaxW w) (hsp : SpT w) (hwh : WhT w) :
    Calls Tryz.prog 13 #[.agg (fcV f (.slice A n c)).toArray, .agg (pcV p).toArray, .string s, .int .i64 m] w (ShOut w (mwR f p (bs s) m)) := by
  have hmf : ∀ (fn : Fn) (first cap : Array Value) (w : World), (Instr.makeFunc fn first cap).run Tryz.prog w = .ok (.func fn first cap) w := fun _ _ _ _ => rfl
  have HG := Lib.hid (show ∀ args w, (callFunc 38 args).run Tryz.prog w = .ok (.enter 38 args) w from enters_of Tryz.func38 (by kernel_rfl) rfl)
  have hB := below_two w (.cells (fcV f (.slice A n c)).toArray 36) (.cells (pcV p).toArray 38)
  have hb0 := below_one ((w.alloc (.cells (fcV f (.slice A n c)).toArray 36)).alloc (.cells (pcV p).toArray 38)) (.cells #[.string s] 9)
  have hk1 := ((Blk.new w 36 (fcV f (.slice A n c))).alloc (.cells (pcV p).toArray 38))
  have hk2 := Blk.new (w.alloc (.cells (fcV f (.slice A n c)).toArray 36)) 38 (pcV p)
  have hsl0 : SlE sv (((w.alloc (.cells (fcV f (.slice A n c)).toArray 36)).alloc (.cells (pcV p).toArray 38)).alloc (.cells #[.string s] 9)) (some ⟨((w.alloc (.cells (fcV f (.slice A n c)).toArray 36)).alloc (.cells (pcV p).toArray 38)).heap.size, 0, none⟩) [bs s] := SlE.of_row (Blk.row (enc := sv) (Blk.new ((w.alloc (.cells (fcV f (.slice A n c)).toArray 36)).alloc (.cells (pcV p).toArray 38)) 9 [sv (bs s)]))
  rw [World.size_alloc] at hk2
  rw [World.size_alloc, World.size_alloc] at hsl0
  have tb := hp.base
  have hsz : (fcV f (.slice A n c)).toArray.size = 29 := by simp [fcV_length hf]
  have HZ := Lib.hid (show (Tryz.prog.info? 36).map (·.size) = some (fcV f (.slice A n c)).toArray.size by rw [hsz]; exact szFcI)
  have HZ2 := Lib.hid (show (Tryz.prog.info? 38).map (·.size) = some (pcV p).toArray.size by rw [List.size_toArray, pcV_length hp]; exact szPcI)
  have hB1 := below_step hB hb0
  have HS := Lib.hid (h.next hB1)
  have HM := Lib.hid (hmx.next hB1)
  have HPS := Lib.hid (hsp.next hB1)
  have HWH := Lib.hid (hwh.next hB1)
  have HF := Lib.hid hf
  have HN := Lib.hid hn
  have HP := Lib.hid hp
  have HK1 := Lib.hid (hk1.next hb0)
  have HK2 := Lib.hid (hk2.next hb0)
  have HSL0 := Lib.hid hsl0
  have HBB := Lib.hid hB1
  have HLS := Lib.hid (show ∀ x ∈ [bs s], x.length ≤ 1048576 by intro x hx; obtain rfl := List.mem_singleton.1 hx; rw [bs_length]; exact hs)
  clear hf hn h hp hmx hsp hwh hsz hsl0 hB hB1 hb0
  obtain ⟨cd, hcd⟩ : ∃ cd, cd = pcC f p (bs s) true := ⟨_, rfl⟩
  have HC := Lib.hid hcd
  by_cases h0 : cd = 0
  · have hz := hcd.symm.trans h0
    obtain ⟨hv, hpo, ht, _⟩ := pcC_zero hz
    have HVV := Lib.hid (validF_iff.1 hv)
    have HPV := Lib.hid (pcOk_iff.1 hpo)
    have HT := Lib.hid ht
    obtain ⟨ws, hW⟩ : ∃ ws, ws = words (bs s) := ⟨_, rfl⟩
    have HWE := Lib.hid hW
    have HW := Lib.hid (show Ws ws by rw [hW]; exact ws_words ht)
    have hcnt : ws.length ≤ 60 := by rw [hW]; exact words_count ht
    have HOK := Lib.hid (fun b => pcC_ok (b := b) hv hpo ht)
    subst h0
    clear hv ht hcd hpo hz hW
    cases hin : inB 0 1000000 m
    · have HI := Lib.hid hin
      have HO := Lib.hid (show mwR f p (bs s) m = ([], 0, 2) by
        have e : mwC f p (bs s) m = 2 := by unfold mwC; rw [hin, HOK.out]; rfl
        unfold mwR; rw [e]; rfl)
      clear hin
      rw [HO.out]
      go_enter Tryz.func13, Tryz.ntmps13
      go_wp2_with (first
        | (refine wpList_load_row rfl 36 (.tmp 4) rfl _ rfl 36 (fcV f (.slice A n c)).toArray _ _ hk1 Tryz.underlying36 rfl HZ.out ?_)
        | (refine wpList_load_row rfl 38 (.tmp 5) rfl _ rfl 38 (pcV p).toArray _ _ hk2 Tryz.underlying38 rfl HZ2.out ?_)
        | (go_at_call 29; refine (priceCode_any f p A _ n c 1 1 [bs s] _ HF.out HP.out HN.out hm rfl (by omega) HLS.out HS.out HSL0.out HM.out).mono ?_; rintro e w1 ⟨he, hb1⟩; rw [pccN_one, ← HC.out] at he; subst he; clear hk1 hk2; have hk1 : True := trivial)
        | (go_at_call 30; refine (withinI_any _ _ _ _).mono ?_; rintro e w3 ⟨he, rfl⟩; rw [HI.out] at he; subst he)
        | (go_at_call 31; refine (fields_impl s _ HT.out (HPS.out.next hb1)).mono ?_; rintro e w2 ⟨rfl, rfl⟩; rw [← HWE.out]))
      go_ret3
      exact ⟨_, _, rfl, below_step (below_step HBB.out hb1) (below_one _ _), OwnS.nil⟩
    · have HI := Lib.hid hin
      by_cases h10 : 10 < ws.length
      · have HO := Lib.hid (show mwR f p (bs s) m = ([], 0, 3) by
          have e : mwC f p (bs s) m = 3 := by unfold mwC; rw [hin, HOK.out, if_pos rfl, if_pos rfl, ← HWE.out, if_pos h10]
          unfold mwR; rw [e]; rfl)
        clear hin
        rw [HO.out]
        go_enter Tryz.func13, Tryz.ntmps13
        go_wp2_with (first
          | (refine wpList_load_row rfl 36 (.tmp 4) rfl _ rfl 36 (fcV f (.slice A n c)).toArray _ _ hk1 Tryz.underlying36 rfl HZ.out ?_)
          | (refine wpList_load_row rfl 38 (.tmp 5) rfl _ rfl 38 (pcV p).toArray _ _ hk2 Tryz.underlying38 rfl HZ2.out ?_)
          | (go_at_call 29; refine (priceCode_any f p A _ n c 1 1 [bs s] _ HF.out HP.out HN.out hm rfl (by omega) HLS.out HS.out HSL0.out HM.out).mono ?_; rintro e w1 ⟨he, hb1⟩; rw [pccN_one, ← HC.out] at he; subst he; clear hk1 hk2; have hk1 : True := trivial)
          | (go_at_call 30; refine (withinI_any _ _ _ _).mono ?_; rintro e w3 ⟨he, rfl⟩; rw [HI.out] at he; subst he)
          | (go_at_call 31; refine (fields_impl s _ HT.out (HPS.out.next hb1)).mono ?_; rintro e w2 ⟨rfl, rfl⟩; rw [← HWE.out]))
        go_ret3
        exact ⟨_, _, rfl, below_step (below_step HBB.out hb1) (below_one _ _), OwnS.nil⟩
      · by_cases hbm : m < p.base
        · have HO := Lib.hid (show mwR f p (bs s) m = ([], 0, 6) by
            have e : mwC f p (bs s) m = 6 := by unfold mwC; rw [hin, HOK.out, if_pos rfl, if_pos rfl, ← HWE.out, if_neg h10, if_pos hbm]
            unfold mwR; rw [e]; rfl)
          clear hin
          rw [HO.out]
          go_enter Tryz.func13, Tryz.ntmps13
          go_wp2_with (first
            | (refine wpList_load_row rfl 36 (.tmp 4) rfl _ rfl 36 (fcV f (.slice A n c)).toArray _ _ hk1 Tryz.underlying36 rfl HZ.out ?_)
            | (refine wpList_load_row rfl 38 (.tmp 5) rfl _ rfl 38 (pcV p).toArray _ _ hk2 Tryz.underlying38 rfl HZ2.out ?_)
            | (go_at_call 29; refine (priceCode_any f p A _ n c 1 1 [bs s] _ HF.out HP.out HN.out hm rfl (by omega) HLS.out HS.out HSL0.out HM.out).mono ?_; rintro e w1 ⟨he, hb1⟩; rw [pccN_one, ← HC.out] at he; subst he; clear hk1 hk2; have hk1 : True := trivial)
            | (go_at_call 30; refine (withinI_any _ _ _ _).mono ?_; rintro e w3 ⟨he, rfl⟩; rw [HI.out] at he; subst he)
            | (go_at_call 31; refine (fields_impl s _ HT.out (HPS.out.next hb1)).mono ?_; rintro e w2 ⟨rfl, rfl⟩; rw [← HWE.out]; have c27 := ((HK2.out.next hb1).alloc (.cells (wsV ws).toArray 9)).cell 27 _ (pcV_base HP.out)))
          go_ret3
          exact ⟨_, _, rfl, below_step (below_step HBB.out hb1) (below_one _ _), OwnS.nil⟩
        · have HO := Lib.hid (show mwR f p (bs s) m = ((mstI f p ws m (2 ^ ws.length)).best, (mstI f p ws m (2 ^ ws.length)).cost, 0) by
            have e : mwC f p (bs s) m = 0 := by unfold mwC; rw [hin, HOK.out, if_pos rfl, if_pos rfl, ← HWE.out, if_neg h10, if_neg hbm]
            have e2 : 2 ^ ws.length = (2 ^ ws.length - 1) + 1 := by have := (pow10 (show ws.length ≤ 10 by omega)).1; omega
            unfold mwR; rw [if_pos e, ← HWE.out, e2]; rfl)
          have HST := Lib.hid (mstI_step HVV.out HPV.out HW.out (show ws.length ≤ 10 by omega) (show p.base ≤ m by omega))
          have hpi := pow10i (show ws.length ≤ 10 by omega)
          have HPW := Lib.hid (show ((2 ^ ws.length : Nat) : Int) = 2 ^ ws.length by push_cast; rfl)
          clear hin
          rw [HO.out]
          go_enter Tryz.func13, Tryz.ntmps13
          go_wp2_with (first
            | (refine wpList_load_row rfl 36 (.tmp 4) rfl _ rfl 36 (fcV f (.slice A n c)).toArray _ _ hk1 Tryz.underlying36 rfl HZ.out ?_)
            | (refine wpList_load_row rfl 38 (.tmp 5) rfl _ rfl 38 (pcV p).toArray _ _ hk2 Tryz.underlying38 rfl HZ2.out ?_)
            | (go_at_call 29; refine (priceCode_any f p A _ n c 1 1 [bs s] _ HF.out HP.out HN.out hm rfl (by omega) HLS.out HS.out HSL0.out HM.out).mono ?_; rintro e w1 ⟨he, hb1⟩; rw [pccN_one, ← HC.out] at he; subst he; clear hk1 hk2; have hk1 : True := trivial)
            | (go_at_call 30; refine (withinI_any _ _ _ _).mono ?_; rintro e w3 ⟨he, rfl⟩; rw [HI.out] at he; subst he)
            | (go_at_call 31; refine (fields_impl s _ HT.out (HPS.out.next hb1)).mono ?_; rintro e w2 ⟨rfl, rfl⟩; rw [← HWE.out]; have c27 := ((HK2.out.next hb1).alloc (.cells (wsV ws).toArray 9)).cell 27 _ (pcV_base HP.out)))
          have HK1b := Lib.hid ((HK1.out.next hb1).alloc (.cells (wsV ws).toArray 9))
          have HK2b := Lib.hid ((HK2.out.next hb1).alloc (.cells (wsV ws).toArray 9))
          have HWS := Lib.hid (Blk.new w1 9 (wsV ws))
          have HMb := Lib.hid ((HM.out.next hb1).next (below_one w1 (.cells (wsV ws).toArray 9)))
          have hB2 := below_step (below_step HBB.out hb1) (below_one w1 (.cells (wsV ws).toArray 9))
          clear hb1 HPS HT hk1 c27
          obtain ⟨g, hg⟩ : ∃ g, g = w1.heap.size := ⟨_, rfl⟩
          rw [← hg] at HWS ⊢
          clear hg
          generalize w1.alloc (.cells (wsV ws).toArray 9) = W2 at *
          go_loopw [13, 14, 50] (fun v u i wr => ∃ t : Nat, t ≤ 2 ^ ws.length ∧ i = .int .i64 t ∧ u = .int .i64 (mstI f p ws m t).cost ∧ (∃ Ab cb, v = .slice Ab (mstI f p ws m t).best.length cb ∧ OwnS wr w.heap.size wr.heap.size Ab (mstI f p ws m t).best) ∧ Below W2.heap.size W2 wr) (fun _ _ i _ => 2 ^ ws.length - (intOf i).toNat)
          case atStart => exact ⟨0, Nat.zero_le _, rfl, rfl, ⟨_, _, rfl, OwnS.nil⟩, Below.refl _ _⟩
          case round =>
            obtain ⟨t, ht, rfl, rfl, ⟨Ab, cb, rfl, hbest⟩, hbel⟩ := hrel
            have hsh : ((t : Int) < 2 ^ ws.length) ↔ t < 2 ^ ws.length := by have := HPW.out; omega
            have hpn := pow10 (show ws.length ≤ 10 by omega)
            have hrng := mstI_range HVV.out HPV.out HW.out (show ws.length ≤ 10 by omega) m t
            have hstp := HST.out t
            obtain ⟨st, hst⟩ : ∃ st, st = mstI f p ws m t := ⟨_, rfl⟩
            rw [← hst] at hbest hrng hstp ⊢
            obtain ⟨best, cost⟩ := st
            have HSE := Lib.hid hst
            clear hst
            simp only at hbest hrng hstp
            have HSTP := Lib.hid hstp
            clear hstp
            by_cases hlt : t < 2 ^ ws.length
            · have hlti := hsh.2 hlt
              clear hsh
              have hb3 := below_one wr (.cells #[.int .i64 t] 3)
              have hcs : (wr.alloc (.cells #[.int .i64 t] 3)).cell? ⟨wr.heap.size, 0, none⟩ = some (.int .i64 t) := (Blk.new wr 3 [.int .i64 t]).cell 0 _ rfl
              have HCS := Lib.hid hcs
              clear hcs
              have hbel3 := below_step hbel hb3
              have HBE := Lib.hid hbest
              clear hbest
              go_wp2_with fail
              go_at_call 37
              refine (indices_any 38 #[.pointer (some ⟨wr.heap.size, 0, none⟩)] HG.out (bitS t) ws.length _ (by omega) (fun W i hi hb => mw1_any W wr.heap.size t i ((hb.cell (by simp)).trans HCS.out) (by omega) (by omega))).mono ?_
              rintro e w5 ⟨A3, c3, rfl, hb6, ho6⟩
              have hbel5 := below_step hbel3 hb6
              have hbw5 := below_step hB2 hbel5
              have hz3 := hb3.size
              have hol := idxN_length (bitS t) ws.length
              have HOR := Lib.hid (ownS_range t ws.length)
              have HOC := Lib.hid (cstO_own f p ws t ws.length)
              have HCR := Lib.hid (cstN_range HVV.out HPV.out HW.out t _ (Nat.le_refl _))
              have hzz := hbel3.size
              have hz6 := hb6.size
              have hz2 := hB2.size
              have HO3 := Lib.hid (show OwnS w5 w.heap.size w5.heap.size A3 (ownS t ws.length) from ho6.low (by omega))
              have HBE3 := Lib.hid (show OwnS w5 w.heap.size w5.heap.size Ab best from ((HBE.out.upto hb3).upto hb6))
              have HK15 := Lib.hid (HK1b.out.next hbel5)
              have HK25 := Lib.hid (HK2b.out.next hbel5)
              have HWS5 := Lib.hid (HWS.out.next hbel5)
              have HM5 := Lib.hid (HMb.out.next hbel5)
              have c27 := HK25.out.cell 27 _ (pcV_base HP.out)
              have HSTE := HSTP.out
              rw [show (idxN (bitS t) ws.length) = ownS t ws.length from rfl] at hol ⊢
              generalize ownS t ws.length = o at *
              have HST5 := Lib.hid HSTE
              clear HSTE hb6 ho6 hb3
              go_wp2
              clear c27
              go_loopw [17, 62] (fun u j wi => ∃ k : Nat, k ≤ o.length ∧ j = .int .i64 k ∧ u = .int .i64 (cstO f p ws o k) ∧ Below w5.heap.size w5 wi) (fun _ j _ => o.length - (intOf j).toNat)
              case atStart => exact ⟨0, by omega, rfl, rfl, Below.refl _ _⟩
              case round =>
                obtain ⟨k, hk, rfl, rfl, hbi⟩ := hrel
                by_cases hlk : k < o.length
                · obtain ⟨ao, rfl, ro⟩ := (HO3.out.next hbi).sl.some k hlk
                  have ko := ro.atI64 k hlk
                  obtain ⟨or0, or1⟩ := HOR.out k hlk
                  obtain ⟨q, hq⟩ : ∃ q : Nat, rdI o k = q := ⟨(rdI o k).toNat, by omega⟩
                  have HQ := Lib.hid hq
                  rw [hq] at ko or0 or1
                  have hqn : q < ws.length := by omega
                  obtain ⟨pr, hpr⟩ : ∃ pr, pr = prcW f p (rdW ws q) := ⟨_, rfl⟩
                  have HPR := Lib.hid hpr
                  have HCS2 := Lib.hid (show cstO f p ws o (k + 1) = cstO f p ws o k + (pr - p.base) by rw [cstO, HQ.out, Int.toNat_natCast, hpr])
                  have hwc := word_cost HVV.out HPV.out HW.out hqn
                  rw [← hpr] at hwc
                  have hor := cstO_range HVV.out HPV.out HW.out HOR.out k hk
                  have hcb : IntKind.i64.wrap p.base = p.base := IntWalk.i64_in _ (by omega)
                  have hs1 : IntKind.i64.wrap (pr - p.base) = pr - p.base := IntWalk.i64_in _ (by omega)
                  have hs2 : IntKind.i64.wrap (cstO f p ws o k + (pr - p.base)) = cstO f p ws o k + (pr - p.base) := IntWalk.i64_in _ (by omega)
                  have hls : LS (bs ⟨(rdW ws q).toArray⟩) := fun i hi => .inr ((HW.out.isw _ (rdW_mem hqn)).1 i hi)
                  have hl60 : (⟨(rdW ws q).toArray⟩ : ByteArray).size ≤ 60 := HW.out.len _ (rdW_mem hqn)
                  have HK16 := Lib.hid (HK15.out.next hbi)
                  have HK26 := Lib.hid (HK25.out.next hbi)
                  have HWS6 := Lib.hid (HWS5.out.next hbi)
                  have HM6 := Lib.hid (HM5.out.next hbi)
                  have HCO := Lib.hid (fun (w' : World) (hw' : Below wr.heap.size wr w') => (show Calls Tryz.prog 32 #[.agg (pcV p).toArray, .agg (fcV f (.slice A n c)).toArray, .string ⟨(rdW ws q).toArray⟩] w' (fun e w1 => e = .returned (.int .i64 pr) ∧ Below w'.heap.size w' w1) from HPR.out ▸ cost_impl f p A n c ⟨(rdW ws q).toArray⟩ w' HF.out HP.out HVV.out HPV.out hls hl60 (HM6.out.next hw')))
                  clear ro hq hpr hls hl60
                  go_wp2
                  refine region_below (wr.heap.size) (by kernel_rfl) (by kernel_rfl) ?_
                  refine below_run (by kernel_rfl) (.int .i64 (cstO f p ws o k)) (fun w' hw' => by kernel_rfl) ?_
                  refine below_run (by kernel_rfl) (.agg (pcV p).toArray) (fun w' hw' => exec_load_row 38 (.tmp 5) rfl (w.heap.size + 1) (by kernel_rfl) 38 (pcV p).toArray _ _ (HK26.out.next hw') Tryz.underlying38 rfl (HZ2.out)) ?_
                  refine below_run (by kernel_rfl) (.agg (fcV f (.slice A n c)).toArray) (fun w' hw' => exec_load_row 36 (.tmp 4) rfl (w.heap.size) (by kernel_rfl) 36 (fcV f (.slice A n c)).toArray _ _ (HK16.out.next hw') Tryz.underlying36 rfl (HZ.out)) ?_
                  refine below_run (by kernel_rfl) (.slice (some ⟨g, 0, none⟩) ws.length ws.length) (fun w' hw' => by kernel_rfl) ?_
                  refine below_run (by kernel_rfl) (.int .i64 q) (fun w' hw' => by kernel_rfl) ?_
                  refine below_run (by kernel_rfl) (.pointer (some (Addr.add ⟨g, 0, none⟩ (q * 1)))) (fun w' hw' => exec_index 55 (.tmp 69) (.tmp 70) rfl ⟨g, 0, none⟩ ws.length ws.length (by kernel_rfl) .i64 q (by kernel_rfl) hqn 9 Tryz.underlying55 1 szStr) ?_
                  refine below_run (by kernel_rfl) (.string ⟨(rdW ws q).toArray⟩) (fun w' hw' => exec_load1 9 (.tmp 71) rfl (Addr.add ⟨g, 0, none⟩ (q * 1)) (by kernel_rfl) (.string ⟨(rdW ws q).toArray⟩) (by rw [Nat.mul_one]; exact (Blk.row (enc := sv) (HWS6.out.next hw')).atW q hqn) _ Tryz.underlying9 rfl) ?_
                  refine below_call (by kernel_rfl) 32 #[.agg (pcV p).toArray, .agg (fcV f (.slice A n c)).toArray, .string ⟨(rdW ws q).toArray⟩] (.int .i64 pr) (fun w' => by kernel_rfl) (fun w' hw' => (HCO.out w' hw').mono fun e w1 ⟨he, hb1⟩ => ⟨he, below_step hw' hb1⟩) ?_
                  refine below_run (by kernel_rfl) (.pointer (some ⟨w.heap.size + 1, 27, none⟩)) (fun w' hw' => by kernel_rfl) ?_
                  refine below_run (by kernel_rfl) (.int .i16 p.base) (fun w' hw' => exec_load1 27 (.tmp 74) rfl ⟨w.heap.size + 1, 27, none⟩ (by kernel_rfl) (.int .i16 p.base) ((HK26.out.next hw').cell 27 _ (pcV_base HP.out)) _ Tryz.underlying27 rfl) ?_
                  refine below_run (by kernel_rfl) (.int .i64 p.base) (fun w' hw' => Eq.trans (show (execOp _ _).run _ w' = .ok (.value (.int .i64 (IntKind.i64.wrap p.base))) w' by kernel_rfl) (by rw [hcb])) ?_
                  refine below_run (by kernel_rfl) (.int .i64 (pr - p.base)) (fun w' hw' => Eq.trans (show (execOp _ _).run _ w' = .ok (.value (.int .i64 (IntKind.i64.wrap (pr - p.base)))) w' by kernel_rfl) (by rw [hs1])) ?_
                  refine below_run (by kernel_rfl) (.int .i64 (cstO f p ws o k + (pr - p.base))) (fun w' hw' => Eq.trans (show (execOp _ _).run _ w' = .ok (.value (.int .i64 (IntKind.i64.wrap (cstO f p ws o k + (pr - p.base))))) w' by kernel_rfl) (by rw [hs2])) ?_
                  refine below_run (by kernel_rfl) (.int .i64 (cstO f p ws o k + (pr - p.base))) (fun w' hw' => by kernel_rfl) ?_
                  refine wpQuiet_nil ?_
                  intro W3 hW3
                  simp only [Act.put, List.setIfInBounds_toArray, List.set_cons_succ, List.set_cons_zero]
                  have hbi := below_step hbi hW3
                  clear hcb hs1 hs2 hW3 ko
                  go_wp2
                  go_roundw
                  case rel => exact ⟨k + 1, by omega, by go_num, by rw [HCS2.out], hbi⟩
                  case measure => simp [intOf]; omega
                · obtain rfl : k = o.length := by omega
                  rw [HOC.out]
                  have hbf := below_step hbel5 hbi
                  have HB3 := Lib.hid (HBE3.out.upto hbi)
                  have HO4 := Lib.hid (HO3.out.upto hbi)
                  have hO4s := HO4.out.sl
                  have hB3s := HB3.out.sl
                  have HS1 := Lib.hid hO4s
                  have HS2 := Lib.hid hB3s
                  have hcr := HCR.out
                  have hbl60 : best.length ≤ 60 := by omega
                  generalize cstN f p ws t ws.length = cc at *
                  have HS3 := Lib.hid (show mstI f p ws m (t + 1) = if mwT m ⟨best, cost⟩ o cc = true then ⟨o, cc⟩ else ⟨best, cost⟩ from HST5.out)
                  clear hO4s hB3s
                  by_cases g1 : cc ≤ m
                  · by_cases g2 : cost < 0
                    · have HN := Lib.hid (show mstI f p ws m (t + 1) = ⟨o, cc⟩ by rw [HS3.out, if_pos (mwT_2 g1 g2)])
                      go_wp2
                      go_roundw
                      case rel => exact ⟨t + 1, by omega, by go_num, by rw [HN.out], ⟨A3, c3, by rw [HN.out], by rw [HN.out]; exact HO4.out⟩, hbf⟩
                      case measure => simp [intOf]; omega
                    · have HMB := Lib.hid (mwT_B (m := m) (st := ⟨best, cost⟩) (o := o) (c := cc) (show 0 ≤ cost by omega))
                      have g1n : ¬ m < cc := by omega
                      by_cases g3 : best.length < o.length
                      · have HN := Lib.hid (show mstI f p ws m (t + 1) = ⟨o, cc⟩ by rw [HS3.out, if_pos (HMB.out.trans (mwB_3 g1n g3))])
                        go_wp2
                        go_roundw
                        case rel => exact ⟨t + 1, by omega, by go_num, by rw [HN.out], ⟨A3, c3, by rw [HN.out], by rw [HN.out]; exact HO4.out⟩, hbf⟩
                        case measure => simp [intOf]; omega
                      · by_cases g4 : o.length = best.length
                        · have g4b : ((o.length : Int) == (best.length : Int)) = true := by rw [g4]; simp
                          have G4 := Lib.hid g4
                          clear g4
                          by_cases g5 : cc < cost
                          · have HN := Lib.hid (show mstI f p ws m (t + 1) = ⟨o, cc⟩ by rw [HS3.out, if_pos (HMB.out.trans (mwB_4 g1n G4.out g5))])
                            go_wp2
                            go_roundw
                            case rel => exact ⟨t + 1, by omega, by go_num, by rw [HN.out], ⟨A3, c3, by rw [HN.out], by rw [HN.out]; exact HO4.out⟩, hbf⟩
                            case measure => simp [intOf]; omega
                          · by_cases g6 : cc = cost
                            · have g6b : (cc == cost) = true := by simpa using g6
                              have HB5 := Lib.hid (mwB_5 (m := m) (st := ⟨best, cost⟩) g1n G4.out g6)
                              clear g6
                              have hbf7 := hbf
                              clear hbf
                              cases hbf : before o best
                              · have HN := Lib.hid (show mstI f p ws m (t + 1) = ⟨best, cost⟩ by rw [HS3.out, if_neg (by rw [HMB.out.trans (HB5.out.trans hbf)]; simp)])
                                have HBF := Lib.hid hbf
                                clear hbf
                                go_wp2_with (go_at_call 39; refine (compareL_any A3 Ab _ c3 _ cb o best _ rfl rfl (by omega) (by omega) HS1.out HS2.out).mono ?_; rintro e w7 ⟨⟨v, rfl, hv⟩, hb7⟩; rw [HBF.out] at hv; have hv := of_decide_eq_false hv)
                                have hbf := below_step hbf7 hb7
                                go_roundw
                                case rel => exact ⟨t + 1, by omega, by go_num, by rw [HN.out], ⟨Ab, cb, by rw [HN.out], by rw [HN.out]; exact OwnS.upto HB3.out hb7⟩, hbf⟩
                                case measure => simp [intOf]; omega
                              · have HN := Lib.hid (show mstI f p ws m (t + 1) = ⟨o, cc⟩ by rw [HS3.out, if_pos (HMB.out.trans (HB5.out.trans hbf))])
                                have HBF := Lib.hid hbf
                                clear hbf
                                go_wp2_with (go_at_call 39; refine (compareL_any A3 Ab _ c3 _ cb o best _ rfl rfl (by omega) (by omega) HS1.out HS2.out).mono ?_; rintro e w7 ⟨⟨v, rfl, hv⟩, hb7⟩; rw [HBF.out] at hv; have hv := of_decide_eq_true hv)
                                have hbf := below_step hbf7 hb7
                                go_roundw
                                case rel => exact ⟨t + 1, by omega, by go_num, by rw [HN.out], ⟨A3, c3, by rw [HN.out], by rw [HN.out]; exact OwnS.upto HO4.out hb7⟩, hbf⟩
                                case measure => simp [intOf]; omega
                            · have g6b : (cc == cost) = false := by simpa using g6
                              have HN := Lib.hid (show mstI f p ws m (t + 1) = ⟨best, cost⟩ by rw [HS3.out, if_neg (by rw [HMB.out.trans (mwB_6 g1n G4.out g5 g6)]; simp)])
                              go_wp2
                              go_roundw
                              case rel => exact ⟨t + 1, by omega, by go_num, by rw [HN.out], ⟨Ab, cb, by rw [HN.out], by rw [HN.out]; exact HB3.out⟩, hbf⟩
                              case measure => simp [intOf]; omega
                        · have g4b : ((o.length : Int) == (best.length : Int)) = false := by simp; omega
                          have HN := Lib.hid (show mstI f p ws m (t + 1) = ⟨best, cost⟩ by rw [HS3.out, if_neg (by rw [HMB.out.trans (mwB_2 (st := ⟨best, cost⟩) (show o.length < best.length by omega))]; simp)])
                          go_wp2
                          go_roundw
                          case rel => exact ⟨t + 1, by omega, by go_num, by rw [HN.out], ⟨Ab, cb, by rw [HN.out], by rw [HN.out]; exact HB3.out⟩, hbf⟩
                          case measure => simp [intOf]; omega
                  · have HN := Lib.hid (show mstI f p ws m (t + 1) = ⟨best, cost⟩ by rw [HS3.out, if_neg (by rw [mwT_1 g1]; simp)])
                    go_wp2
                    go_roundw
                    case rel => exact ⟨t + 1, by omega, by go_num, by rw [HN.out], ⟨Ab, cb, by rw [HN.out], by rw [HN.out]; exact HB3.out⟩, hbf⟩
                    case measure => simp [intOf]; omega
            · have hte : t = 2 ^ ws.length := by omega
              have hnl : ¬ ((t : Int) < 2 ^ ws.length) := fun h => hlt (hsh.1 h)
              have HE := Lib.hid (show mstI f p ws m (2 ^ ws.length) = ⟨best, cost⟩ by rw [← hte]; exact HSE.out.symm)
              have hB4 := hB2.trans (hbel.mono hB2.size)
              have HBE := Lib.hid hbest
              clear hsh hte hbest
              go_wp2
              go_ret3
              rw [HE.out]
              exact ⟨Ab, cb, rfl, hB4, HBE.out⟩
  · have HO := Lib.hid (show mwR f p (bs s) m = ([], 0, cd) by
      have h1 : ¬ pcC f p (bs s) true = 0 := fun h => h0 (hcd.trans h)
      have e : mwC f p (bs s) m = cd := by unfold mwC; rw [pcC_true h1, if_neg (by decide), hcd, pcC_true h1]
      unfold mwR
      rw [e, if_neg h0])
    clear hcd
    have HI := Lib.hid (rfl : inB 0 1000000 m = inB 0 1000000 m)
    rw [HO.out]
    go_enter Tryz.func13, Tryz.ntmps13
    go_wp2_with (first
      | (refine wpList_load_row rfl 36 (.tmp 4) rfl _ rfl 36 (fcV f (.slice A n c)).toArray _ _ hk1 Tryz.underlying36 rfl HZ.out ?_)
      | (refine wpList_load_row rfl 38 (.tmp 5) rfl _ rfl 38 (pcV p).toArray _ _ hk2 Tryz.underlying38 rfl HZ2.out ?_)
      | (go_at_call 29; refine (priceCode_any f p A _ n c 1 1 [bs s] _ HF.out HP.out HN.out hm rfl (by omega) HLS.out HS.out HSL0.out HM.out).mono ?_; rintro e w1 ⟨he, hb1⟩; rw [pccN_one, ← HC.out] at he; subst he; clear hk1 hk2; have hk1 : True := trivial)
      | (go_at_call 30; refine (withinI_any _ _ _ _).mono ?_; rintro e w3 ⟨he, rfl⟩; rw [HI.out] at he; subst he)
      | (go_at_call 31; refine (fields_any s _ hs (HPS.out.next hb1) (HWH.out.next hb1)).mono ?_; rintro e w2 ⟨⟨A2, n2, rfl⟩, hb2⟩))
    go_ret3
    exact ⟨_, _, rfl, below_step (below_step HBB.out hb1) hb2, OwnS.nil⟩
end Go.Proofs.YtonnplaacebekaaGreatDoor
