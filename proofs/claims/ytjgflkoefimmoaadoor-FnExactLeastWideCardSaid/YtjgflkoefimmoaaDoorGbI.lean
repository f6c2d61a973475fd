/- Contracts: greedy breaks and how many lines at least, by the program; how many lines at least, by the reference. -/
import Derived.Test.YtjgflkoefimmoaaDoorStO
import Derived.Test.YtjgflkoefimmoaaDoorGbS
namespace Go.Proofs.YtjgflkoefimmoaaDoor
open Go Go.RowKit
set_option linter.unusedVariables false
set_option linter.unusedSimpArgs false

theorem stSz {f : Fc} (hf : FcT f) (S W : Value) (m : Int) : (Tryd.prog.info? 77).map (·.size) = some (stV f S W m).toArray.size := by rw [List.size_toArray, stV_length hf]; exact szStI
theorem stOld {f : Fc} (hf : FcT f) (S W : Value) (m : Int) : (31 : Nat) = (stV f S W m).toArray.size := by rw [List.size_toArray, stV_length hf]
theorem ownS_lo {w : World} {lo lo' hi : Nat} {A : Option Addr} {xs : List Int} (h : OwnS w lo' hi A xs) (hl : lo ≤ lo') : OwnS w lo hi A xs := fun hn => by
  obtain ⟨g, cs, e, h1, h2, h3⟩ := h hn
  exact ⟨g, cs, e, Nat.le_trans hl h1, h2, h3⟩

set_option maxHeartbeats 2000000 in
set_option maxRecDepth 100000 in
theorem greedyB_impl (f : Fc) (A : Option Addr) (n c : Nat) (s : ByteArray) (m : Int) (w : World) (hf : FcT f) (hn : f.pairs.length = n) (hm : n ≤ 1048576) (hs : s.size ≤ 1048576) (h : SlP w A f.pairs) (hmx : MaxW w) (hsp : SpT w) :
    Calls Tryd.prog 32 #[.agg (fcV f (.slice A n c)).toArray, .string s, .int .i64 m] w (ListOut w (brkOut f (bs s) m).1 (brkOut f (bs s) m).2) := by
  have hB := below_one w (.cells (fcV f (.slice A n c)).toArray 33)
  have hk := Blk.new w 33 (fcV f (.slice A n c))
  have HS := Lib.hid (h.next hB)
  have HM := Lib.hid (hmx.next hB)
  have HP := Lib.hid (hsp.next hB)
  have HF := Lib.hid hf
  have HN := Lib.hid hn
  have hsz : (fcV f (.slice A n c)).toArray.size = 29 := by simp [fcV_length hf]
  have HZ := Lib.hid (show (Tryd.prog.info? 33).map (·.size) = some (fcV f (.slice A n c)).toArray.size by rw [hsz]; exact szFcI)
  clear hn h hmx hsp hsz hf
  go_enter Tryd.func32, Tryd.ntmps32
  go_wp2_with (refine wpList_load_row rfl 33 (.tmp 3) rfl _ rfl 33 (fcV f (.slice A n c)).toArray _ _ hk Tryd.underlying33 rfl HZ.out ?_)
  go_at_call 64
  refine (setterOf_impl f A n c s m _ HF.out HN.out hm hs HS.out HM.out HP.out).mono ?_
  rintro e w1 ⟨hb, ⟨hne, rfl⟩ | ⟨h0, g, rfl, hg, hgb⟩⟩
  · have HO := Lib.hid (brkOut_no hne)
    have hB := below_step hB hb
    clear hb hk
    generalize askC f (bs s) (inB 0 4000 m) = cd at *
    go_wp2_with (refine wpList_store_new rfl 77 _ _ rfl zSt.toArray rfl rfl 77 _ szStI rfl (one_st _ _ _ _ _ _ _ _) ?_)
    go_ret2
    refine ⟨none, 0, by rw [HO.out]; rfl, step_alloc hB _, by rw [HO.out]; exact OwnS.nil⟩
  · obtain ⟨hv, ht, hin⟩ := askC_zero h0
    have HVV := Lib.hid (validF_iff.1 hv)
    have HW := Lib.hid (ws_words ht)
    have HCL := Lib.hid (cut_len ht)
    have hmr := inB_iff.1 hin
    have H0 := Lib.hid h0
    have hS1 := HS.out.next hb
    have hB := below_step hB hb
    clear hv ht hin hb h0 hk
    have hx := Blk.new w1 77 (stV f (.slice A n c) (wS g (words (bs s))) m)
    have hb := below_one w1 (.cells (stV f (.slice A n c) (wS g (words (bs s))) m).toArray 77)
    have hB2 := below_step hB hb
    have HG2 := Lib.hid (hgb.next hb)
    have HS2 := Lib.hid (hS1.next hb)
    clear hb hgb hS1
    go_wp2_with (first
      | (refine wpList_store_new rfl 77 _ _ rfl (stV f (.slice A n c) (wS g (words (bs s))) m).toArray rfl rfl 77 _ (stSz HF.out _ _ _) (stOld HF.out _ _ _) (one_st _ _ _ _ _ _ _ _) ?_)
      | (refine wpList_load_row rfl 77 (.tmp 8) rfl _ rfl 77 (stV f (.slice A n c) (wS g (words (bs s))) m).toArray _ _ hx Tryd.underlying77 rfl (stSz HF.out _ _ _) ?_))
    generalize w1.alloc (.cells (stV f (.slice A n c) (wS g (words (bs s))) m).toArray 77) = W2 at *
    go_at_call 66
    refine (greedy_impl f A n c g (words (bs s)) m _ HF.out HVV.out HN.out hm HS2.out HW.out HCL.out (by omega) HG2.out).mono ?_
    rintro e w3 ⟨A3, n3, c3, rfl, hb3, hyes, hno⟩
    have hB3 := below_step hB2 hb3
    have hz := hB2.size
    cases hfit : fits f (words (bs s)) m
    · have HO := Lib.hid (brkOut_bad H0.out hfit)
      clear hyes hno hx
      go_wp2
      go_ret2
      refine ⟨none, 0, by rw [HO.out]; rfl, hB3, by rw [HO.out]; exact OwnS.nil⟩
    · obtain ⟨rfl, ho⟩ := hyes hfit
      have HO := Lib.hid (brkOut_ok H0.out hfit)
      have HOW := Lib.hid (ownS_lo ho hz)
      clear hyes hno hx ho
      go_wp2
      go_ret2
      refine ⟨A3, c3, by rw [HO.out]; rfl, hB3, by rw [HO.out]; exact HOW.out⟩

/-- How many lines at least, and a code. -/
def fewOut (f : Fc) (l : List UInt8) (m : Int) : Int × Int := if (brkOut f l m).2 = 0 then (((brkOut f l m).1.length : Int) + 1, 0) else (0, (brkOut f l m).2)
theorem fewOut_no {f : Fc} {l : List UInt8} {m : Int} (h : ¬ (brkOut f l m).2 = 0) : fewOut f l m = (0, (brkOut f l m).2) := by unfold fewOut; rw [if_neg h]
theorem fewOut_ok {f : Fc} {l : List UInt8} {m : Int} (h : (brkOut f l m).2 = 0) : fewOut f l m = (((brkOut f l m).1.length : Int) + 1, 0) := by unfold fewOut; rw [if_pos h]
theorem retP {p q : Int × Int} (h : p = q) : Ending.returned (.tuple #[.int .i64 p.1, .int .i64 p.2]) = .returned (.tuple #[.int .i64 q.1, .int .i64 q.2]) := by rw [h]
theorem size64_any (A : Option Addr) (c n : Nat) (w : World) : Calls Tryd.prog 67 #[.slice A n c] w fun e w' => e = .returned (.int .i64 n) ∧ w = w' := by
  go_enter Tryd.func67, Tryd.ntmps67
  go_wp2
  go_ret
  exact ⟨rfl, rfl⟩

set_option maxHeartbeats 1000000 in
set_option maxRecDepth 100000 in
theorem fewest_impl (f : Fc) (A : Option Addr) (n c : Nat) (s : ByteArray) (m : Int) (w : World) (hf : FcT f) (hn : f.pairs.length = n) (hm : n ≤ 1048576) (hs : s.size ≤ 1048576) (h : SlP w A f.pairs) (hmx : MaxW w) (hsp : SpT w) :
    Calls Tryd.prog 28 #[.agg (fcV f (.slice A n c)).toArray, .string s, .int .i64 m] w fun e w' => e = .returned (.tuple #[.int .i64 (fewOut f (bs s) m).1, .int .i64 (fewOut f (bs s) m).2]) ∧ Below w.heap.size w w' := by
  have hB := below_one w (.cells (fcV f (.slice A n c)).toArray 33)
  have hk := Blk.new w 33 (fcV f (.slice A n c))
  have HS := Lib.hid (h.next hB)
  have HM := Lib.hid (hmx.next hB)
  have HP := Lib.hid (hsp.next hB)
  have hlen := brkOut_many f (bs s) m
  have hsz : (fcV f (.slice A n c)).toArray.size = 29 := by simp [fcV_length hf]
  have HZ := Lib.hid (show (Tryd.prog.info? 33).map (·.size) = some (fcV f (.slice A n c)).toArray.size by rw [hsz]; exact szFcI)
  clear h hmx hsp hsz
  go_enter Tryd.func28, Tryd.ntmps28
  go_wp2_with (refine wpList_load_row rfl 33 (.tmp 3) rfl _ rfl 33 (fcV f (.slice A n c)).toArray _ _ hk Tryd.underlying33 rfl HZ.out ?_)
  go_at_call 32
  refine (greedyB_impl f A n c s m _ hf hn hm hs HS.out HM.out HP.out).mono ?_
  rintro e w1 ⟨A1, c1, rfl, hb, _⟩
  have hB := below_step hB hb
  clear hb hk
  obtain ⟨xs, hxs⟩ : ∃ xs, xs = (brkOut f (bs s) m).1 := ⟨_, rfl⟩
  obtain ⟨cd, hcd⟩ : ∃ cd, cd = (brkOut f (bs s) m).2 := ⟨_, rfl⟩
  rw [← hxs] at hlen ⊢
  rw [← hcd]
  by_cases h0 : cd = 0
  · have HO := Lib.hid (fewOut_ok (f := f) (l := bs s) (m := m) (by rw [← hcd]; exact h0))
    have HX := Lib.hid hxs
    subst h0
    clear hcd hxs
    go_wp2_with (go_at_call 67; refine (size64_any _ _ _ _).mono ?_; rintro e w2 ⟨rfl, rfl⟩)
    go_ret2
    exact ⟨retP (p := ((xs.length : Int) + 1, 0)) (by rw [HO.out, HX.out]), hB⟩
  · have HO := Lib.hid (fewOut_no (f := f) (l := bs s) (m := m) (by rw [← hcd]; exact h0))
    have HC := Lib.hid hcd
    clear hcd hxs
    go_wp2
    go_ret2
    exact ⟨retP (p := (0, cd)) (by rw [HO.out, HC.out]), hB⟩

set_option maxHeartbeats 1000000 in
set_option maxRecDepth 100000 in
theorem fewest_spec (f : Fc) (A : Option Addr) (n c : Nat) (s : ByteArray) (m : Int) (w : World) (hf : FcT f) (hn : f.pairs.length = n) (hm : n ≤ 1048576) (hs : s.size ≤ 1048576) (h : SlP w A f.pairs) :
    Calls Tryd.prog 27 #[.agg (fcV f (.slice A n c)).toArray, .string s, .int .i64 m] w fun e w' => e = .returned (.tuple #[.int .i64 (fewOut f (bs s) m).1, .int .i64 (fewOut f (bs s) m).2]) ∧ Below w.heap.size w w' := by
  have hB := below_one w (.cells (fcV f (.slice A n c)).toArray 33)
  have hk := Blk.new w 33 (fcV f (.slice A n c))
  have hfa : FcAt (w.alloc (.cells (fcV f (.slice A n c)).toArray 33)) w.heap.size f n := ⟨A, c, hk, h.next hB⟩
  have HF := Lib.hid hf
  have HN := Lib.hid hn
  have HA := Lib.hid hfa
  have HBC := Lib.hid (brk_code f (bs s) m)
  have hlen := brkOut_many f (bs s) m
  clear hf hn h hfa hk
  obtain ⟨cd, hcd⟩ : ∃ cd, cd = fndC f (bs s) m := ⟨_, rfl⟩
  have HC := Lib.hid hcd
  by_cases h0 : cd = 0
  · obtain ⟨hv, ht, hm0, hm1, hfit⟩ := fndC_zero (hcd.symm.trans h0)
    have HVV := Lib.hid (validF_iff.1 hv)
    have HW := Lib.hid (ws_words ht)
    have hok := brkOut_ok (f := f) (l := bs s) (m := m) (by rw [askC_ok hv ht, inB_true ⟨hm0, hm1⟩]; rfl) hfit
    rw [hok] at hlen
    have HO := Lib.hid (fewOut_ok (f := f) (l := bs s) (m := m) (by rw [hok]))
    have HOK := Lib.hid hok
    have H1 := Lib.hid (grd_first hm0 hfit)
    subst h0
    clear hv ht hcd hfit hok
    dsimp only at hlen
    go_enter Tryd.func27, Tryd.ntmps27
    go_wp2_with (first
      | (go_at_call 68; refine (found_spec f n w.heap.size s m _ HF.out HN.out hm hs HA.out).mono ?_; rintro e w1 ⟨he, hb⟩; rw [← HC.out] at he; subst he; have hb1 := hb; clear hb)
      | (go_at_call 52; refine (words_spec s _ hs).mono ?_; rintro e w2 ⟨A1, c1, rfl, hc1, hb2, hsl, hA1⟩)
      | (go_at_call 63; refine (greedy_spec f n w.heap.size A1 c1 (words (bs s)) m _ HF.out HVV.out HN.out hm HW.out ((HA.out.next hb1).next hb2) hsl hA1 hc1 H1.out).mono ?_; rintro e w3 ⟨A3, c3, rfl, hb3, ho3⟩))
    go_ret2
    exact ⟨retP (p := (((grd f (words (bs s)) m (words (bs s)).length).1.length : Int) + 1, 0)) (by rw [HO.out, HOK.out]), below_step (below_step (below_step hB hb1) hb2) hb3⟩
  · have HO := Lib.hid (fewOut_no (f := f) (l := bs s) (m := m) (by rw [HBC.out, ← hcd]; exact h0))
    clear hcd
    go_enter Tryd.func27, Tryd.ntmps27
    go_wp2_with (go_at_call 68; refine (found_spec f n w.heap.size s m _ HF.out HN.out hm hs HA.out).mono ?_; rintro e w1 ⟨he, hb⟩; rw [← HC.out] at he; subst he; have hB := below_step hB hb; clear hb)
    go_ret2
    exact ⟨retP (p := (0, cd)) (by rw [HO.out, HBC.out, ← HC.out]), hB⟩
end Go.Proofs.YtjgflkoefimmoaaDoor
