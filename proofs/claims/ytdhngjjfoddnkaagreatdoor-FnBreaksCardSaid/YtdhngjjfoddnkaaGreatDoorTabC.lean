/- Contracts: in how many ways words are broken, and how best, by the program and the reference. -/
import Derived.Test.YtdhngjjfoddnkaaGreatDoorTabS
import Derived.Test.YtdhngjjfoddnkaaGreatDoorTabI
import Derived.Test.YtdhngjjfoddnkaaGreatDoorGH


namespace Go.Proofs.YtdhngjjfoddnkaaGreatDoor
open Go Go.RowKit
set_option linter.unusedVariables false
set_option linter.unusedSimpArgs false

/-- The first entry. -/
def top (f : Fc) (ws : List (List UInt8)) (m : Int) : Tl := if ws.length = 0 then ⟨0, [], 1⟩ else tabI f ws m ws.length 0
theorem top_zero {f : Fc} {ws : List (List UInt8)} {m : Int} (h : ws.length = 0) : top f ws m = ⟨0, [], 1⟩ := if_pos h
theorem top_pos {f : Fc} {ws : List (List UInt8)} {m : Int} (h : ¬ ws.length = 0) : top f ws m = tabI f ws m ws.length 0 := if_neg h
theorem top_c {f : Fc} (hf : FcV f) {ws : List (List UInt8)} (hw : Ws ws) {m : Int} (hm : m ≤ 4000) (h : ¬ ws.length = 0) : (tabS f ws m ws.length 0).c = (top f ws m).c := by
  rw [top_pos h]
  rcases tab2 hf hw hm ws.length (Nat.le_refl _) 0 (by omega) (by omega) with ⟨h1, h2⟩ | ⟨_, _, _, _, _, h2⟩
  · rw [h1, h2]; rfl
  · rw [h2]
theorem top_fits {f : Fc} (hf : FcV f) {ws : List (List UInt8)} (hw : Ws ws) {m : Int} (hm : m ≤ 4000) : fits f ws m = true ↔ ¬ (top f ws m).c = 0 := by
  by_cases h : ws.length = 0
  · rw [top_zero h]
    exact ⟨fun _ => by decide, fun _ => decide_eq_true fun j hj => by omega⟩
  · rw [top_pos h]
    exact way_iff hf hw hm (by omega)
theorem top_same {f : Fc} (hf : FcV f) {ws : List (List UInt8)} (hw : Ws ws) {m : Int} (hm : m ≤ 4000) (h : ¬ ws.length = 0) (hfit : fits f ws m = true) : tabS f ws m ws.length 0 = top f ws m := by
  have hc := (top_fits hf hw hm).1 hfit
  rw [top_pos h] at hc ⊢
  rcases tab2 hf hw hm ws.length (Nat.le_refl _) 0 (by omega) (by omega) with ⟨h1, h2⟩ | ⟨_, _, _, _, _, h2⟩
  · rw [h2] at hc; exact absurd rfl hc
  · exact h2.symm
theorem top_len {f : Fc} (hf : FcV f) {ws : List (List UInt8)} (hw : Ws ws) {m : Int} (hm : m ≤ 4000) : (top f ws m).b.length ≤ 60 := by
  by_cases h : ws.length = 0
  · rw [top_zero h]; exact Nat.zero_le _
  · rw [top_pos h]
    exact (fin2_bdI (tab2 hf hw hm ws.length (Nat.le_refl _) 0 (by omega) (by omega)) hw.many).len
/-- In how many ways, and a code. -/
def cntOut (f : Fc) (l : List UInt8) (m : Int) : Int × Int := if askC f l (inB 0 4000 m) = 0 then ((top f (words l) m).c, 0) else (0, askC f l (inB 0 4000 m))
theorem cntOut_no {f : Fc} {l : List UInt8} {m : Int} (h : ¬ askC f l (inB 0 4000 m) = 0) : cntOut f l m = (0, askC f l (inB 0 4000 m)) := by unfold cntOut; rw [if_neg h]
theorem cntOut_ok {f : Fc} {l : List UInt8} {m : Int} (h : askC f l (inB 0 4000 m) = 0) : cntOut f l m = ((top f (words l) m).c, 0) := by unfold cntOut; rw [if_pos h]
/-- The best breaks, how uneven they are, and a code. -/
def bstOut (f : Fc) (l : List UInt8) (m : Int) : List Int × Int × Int := if fndC f l m = 0 then ((top f (words l) m).b, (top f (words l) m).u, 0) else ([], 0, fndC f l m)
theorem bstOut_no {f : Fc} {l : List UInt8} {m : Int} (h : ¬ fndC f l m = 0) : bstOut f l m = ([], 0, fndC f l m) := by unfold bstOut; rw [if_neg h]
theorem bstOut_ok {f : Fc} {l : List UInt8} {m : Int} (h : fndC f l m = 0) : bstOut f l m = ((top f (words l) m).b, (top f (words l) m).u, 0) := by unfold bstOut; rw [if_pos h]
theorem bstOut_len (f : Fc) (l : List UInt8) (m : Int) : (bstOut f l m).1.length ≤ 60 := by
  by_cases h : fndC f l m = 0
  · obtain ⟨hv, ht, _, hm1, _⟩ := fndC_zero h
    rw [bstOut_ok h]
    exact top_len (validF_iff.1 hv) (ws_words ht) hm1
  · rw [bstOut_no h]; exact Nat.zero_le _
def BstOut (w : World) (xs : List Int) (u cd : Int) (e : Ending) (w' : World) : Prop :=
  ∃ A c, e = .returned (.tuple #[.slice A xs.length c, .int .i64 u, .int .i64 cd]) ∧ Below w.heap.size w w' ∧ OwnS w' w.heap.size w'.heap.size A xs
theorem retQ {p q : Int × Int} (h : p = q) : Ending.returned (.tuple #[.int .i64 p.1, .int .i64 p.2]) = .returned (.tuple #[.int .i64 q.1, .int .i64 q.2]) := by rw [h]

set_option maxHeartbeats 2000000 in
set_option maxRecDepth 100000 in
theorem count_spec (f : Fc) (A : Option Addr) (n c : Nat) (s : ByteArray) (m : Int) (w : World) (hf : FcT f) (hn : f.pairs.length = n) (hm : n ≤ 1048576) (hs : s.size ≤ 1048576) (h : SlP w A f.pairs) :
    Calls Tryz.prog 13 #[.agg (fcV f (.slice A n c)).toArray, .string s, .int .i64 m] w fun e w' => e = .returned (.tuple #[.int .i64 (cntOut f (bs s) m).1, .int .i64 (cntOut f (bs s) m).2]) ∧ Below w.heap.size w w' := by
  have hB := below_one w (.cells (fcV f (.slice A n c)).toArray 28)
  have hkf := Blk.new w 28 (fcV f (.slice A n c))
  have hfa : FcAt (w.alloc (.cells (fcV f (.slice A n c)).toArray 28)) w.heap.size f n := ⟨A, c, hkf, h.next hB⟩
  have HF := Lib.hid hf
  have HN := Lib.hid hn
  have HA := Lib.hid hfa
  clear hf hn h hfa hkf
  obtain ⟨cd, hcd⟩ : ∃ cd, cd = askC f (bs s) (inB 0 4000 m) := ⟨_, rfl⟩
  have HC := Lib.hid hcd
  by_cases h0 : cd = 0
  · obtain ⟨hv, ht, hinn⟩ := askC_zero (hcd.symm.trans h0)
    have hmr := inB_iff.1 hinn
    clear hinn
    have HVV := Lib.hid (validF_iff.1 hv)
    have HW := Lib.hid (ws_words ht)
    subst h0
    have HO := Lib.hid (cntOut_ok hcd.symm)
    clear hv ht hcd
    by_cases hz : (words (bs s)).length = 0
    · have hz' : (((words (bs s)).length : Int) == 0) = true := by rw [hz]; rfl
      have HT := Lib.hid (top_zero (f := f) (m := m) hz)
      clear hz
      go_enter Tryz.func13, Tryz.ntmps13
      go_wp2_with fail
      go_at_call 36
      refine (room2_spec f n w.heap.size s m _ HF.out HN.out hm hs HA.out).mono ?_
      rintro e w1 ⟨he, hb1⟩
      rw [← HC.out] at he
      subst he
      go_wp2_with fail
      go_at_call 33
      refine (words_spec s _ hs).mono ?_
      rintro e w2 ⟨A1, c1, rfl, hc1, hb2, hsl, hA1⟩
      clear hsl hA1 hc1
      go_wp2
      go_ret2
      exact ⟨by rw [HO.out, HT.out]; rfl, below_step (below_step hB hb1) hb2⟩
    · have hz' : (((words (bs s)).length : Int) == 0) = false := by simpa using hz
      have HT := Lib.hid (top_c HVV.out HW.out hmr.2 hz)
      clear hz
      go_enter Tryz.func13, Tryz.ntmps13
      go_wp2_with fail
      go_at_call 36
      refine (room2_spec f n w.heap.size s m _ HF.out HN.out hm hs HA.out).mono ?_
      rintro e w1 ⟨he, hb1⟩
      rw [← HC.out] at he
      subst he
      go_wp2_with fail
      go_at_call 33
      refine (words_spec s _ hs).mono ?_
      rintro e w2 ⟨A1, c1, rfl, hc1, hb2, hsl, hA1⟩
      have HSL := Lib.hid hsl
      have HA1 := Lib.hid hA1
      clear hsl hA1
      go_wp2_with fail
      go_at_call 35
      refine (tails_spec f n w.heap.size A1 c1 (words (bs s)) m _ HF.out HVV.out HN.out hm HW.out hmr ((HA.out.next hb1).next hb2) HSL.out HA1.out hc1).mono ?_
      rintro e w3 ⟨g, rfl, hg, htab, hb3⟩
      obtain ⟨vs, hvs, hvl, hent⟩ := htab
      obtain ⟨Az, cz, _, _, ez, _⟩ := hent 0 (Nat.zero_le _)
      have kz := hvs.cell _ _ ez
      rw [Nat.zero_mul, Nat.zero_add] at kz
      clear hvs hent ez
      go_wp2
      go_ret2
      exact ⟨by rw [HO.out, HT.out]; rfl, below_step (below_step (below_step hB hb1) hb2) hb3⟩
  · have HO := Lib.hid (cntOut_no (f := f) (l := bs s) (m := m) (by rw [← hcd]; exact h0))
    clear hcd
    go_enter Tryz.func13, Tryz.ntmps13
    go_wp2_with (go_at_call 36; refine (room2_spec f n w.heap.size s m _ HF.out HN.out hm hs HA.out).mono ?_; rintro e w1 ⟨he, hb⟩; rw [← HC.out] at he; subst he; have hB := below_step hB hb; clear hb)
    go_ret2
    exact ⟨retQ (p := (0, cd)) (by rw [HO.out, ← HC.out]), hB⟩

set_option maxHeartbeats 2000000 in
set_option maxRecDepth 100000 in
theorem count_impl (f : Fc) (A : Option Addr) (n c : Nat) (s : ByteArray) (m : Int) (w : World) (hf : FcT f) (hn : f.pairs.length = n) (hm : n ≤ 1048576) (hs : s.size ≤ 1048576) (h : SlP w A f.pairs) (hmx : MaxW w) (hsp : SpT w) :
    Calls Tryz.prog 12 #[.agg (fcV f (.slice A n c)).toArray, .string s, .int .i64 m] w fun e w' => e = .returned (.tuple #[.int .i64 (cntOut f (bs s) m).1, .int .i64 (cntOut f (bs s) m).2]) ∧ Below w.heap.size w w' := by
  have hB := below_one w (.cells (fcV f (.slice A n c)).toArray 28)
  have hk := Blk.new w 28 (fcV f (.slice A n c))
  have HS := Lib.hid (h.next hB)
  have HM := Lib.hid (hmx.next hB)
  have HP := Lib.hid (hsp.next hB)
  have HF := Lib.hid hf
  have HN := Lib.hid hn
  have hsz : (fcV f (.slice A n c)).toArray.size = 29 := by simp [fcV_length hf]
  have HZ := Lib.hid (show (Tryz.prog.info? 28).map (·.size) = some (fcV f (.slice A n c)).toArray.size by rw [hsz]; exact szFcI)
  clear hn h hmx hsp hsz hf
  go_enter Tryz.func12, Tryz.ntmps12
  go_wp2_with (refine wpList_load_row rfl 28 (.tmp 3) rfl _ rfl 28 (fcV f (.slice A n c)).toArray _ _ hk Tryz.underlying28 rfl HZ.out ?_)
  go_at_call 29
  refine (setterOf_impl f A n c s m _ HF.out HN.out hm hs HS.out HM.out HP.out).mono ?_
  rintro e w1 ⟨hb, ⟨hne, rfl⟩ | ⟨h0, g, rfl, hg, hgb⟩⟩
  · have HO := Lib.hid (cntOut_no hne)
    have hB := below_step hB hb
    clear hb hk
    obtain ⟨cd, hcd⟩ : ∃ cd, cd = askC f (bs s) (inB 0 4000 m) := ⟨_, rfl⟩
    have HC := Lib.hid hcd
    rw [← hcd] at hne ⊢
    clear hcd
    go_wp2_with (refine wpList_store_new rfl 55 _ _ rfl zSt.toArray rfl rfl 55 _ szStI rfl (one_st _ _ _ _ _ _ _ _) ?_)
    go_ret2
    exact ⟨retQ (p := (0, cd)) (by rw [HO.out, ← HC.out]), step_alloc hB _⟩
  · obtain ⟨hv, ht, hin⟩ := askC_zero h0
    have HVV := Lib.hid (validF_iff.1 hv)
    have HW := Lib.hid (ws_words ht)
    have HCL := Lib.hid (cut_len ht)
    have hmr := inB_iff.1 hin
    have HO := Lib.hid (cntOut_ok h0)
    have hS1 := HS.out.next hb
    have hB := below_step hB hb
    clear hv ht hin hb h0 hk
    have hx := Blk.new w1 55 (stV f (.slice A n c) (wS g (words (bs s))) m)
    have hb := below_one w1 (.cells (stV f (.slice A n c) (wS g (words (bs s))) m).toArray 55)
    have hB2 := below_step hB hb
    have HG2 := Lib.hid (hgb.next hb)
    have HS2 := Lib.hid (hS1.next hb)
    clear hb hgb hS1
    go_wp2_with (first
      | (refine wpList_store_new rfl 55 _ _ rfl (stV f (.slice A n c) (wS g (words (bs s))) m).toArray rfl rfl 55 _ (stSz HF.out _ _ _) (stOld HF.out _ _ _) (one_st _ _ _ _ _ _ _ _) ?_)
      | (refine wpList_load_row rfl 55 (.tmp 8) rfl _ rfl 55 (stV f (.slice A n c) (wS g (words (bs s))) m).toArray _ _ hx Tryz.underlying55 rfl (stSz HF.out _ _ _) ?_))
    generalize w1.alloc (.cells (stV f (.slice A n c) (wS g (words (bs s))) m).toArray 55) = W2 at *
    go_at_call 34
    refine (settings_impl f A n c g (words (bs s)) m _ HF.out HVV.out HN.out hm HS2.out HW.out HCL.out hmr HG2.out).mono ?_
    rintro e w3 ⟨t, A3, c3, he, hbk, hb3, ht0, ht1⟩
    change e = .returned (.agg #[.int .i64 t.u, .slice A3 t.b.length c3, .int .i64 t.c]) at he
    subst he
    have HT := Lib.hid (show top f (words (bs s)) m = t by
      by_cases hz : (words (bs s)).length = 0
      · rw [top_zero hz, ht0 hz]
      · rw [top_pos hz, ht1 (by omega)])
    have hB3 := below_step hB2 hb3
    clear hx hbk ht0 ht1
    go_wp2_with (refine wpList_is (.field 65 (.tmp 21) 2) rfl rfl (.int .i64 t.c) (by kernel_rfl) ?_; simp only [Act.put, List.setIfInBounds_toArray, List.set_cons_succ, List.set_cons_zero])
    go_ret2
    exact ⟨by rw [HO.out, HT.out]; rfl, hB3⟩
end Go.Proofs.YtdhngjjfoddnkaaGreatDoor
