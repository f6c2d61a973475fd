/- Lines broken greedily, plain. No walk here. Contracts: greedy breaks, by the reference. Contracts: greedy breaks and how many lines at least, by the reference. Contracts: lines of a setter, and what is left in them, by the program. Contracts: greedy breaks of a setter, by the program. Contracts: a setter is made, by the program. Contracts: greedy breaks and how many lines at least, by the program; how many lines at least, by the reference. -/
import Derived.Test.YtdhngjjfoddnkaaGreatDoorGG
import Derived.Test.YtdhngjjfoddnkaaGreatDoorGC
import Derived.Test.YtdhngjjfoddnkaaGreatDoorHelS
namespace Go.Proofs.YtdhngjjfoddnkaaGreatDoor
open Go Go.RowKit
set_option linter.unusedVariables false
set_option linter.unusedSimpArgs false

/-- The breaks among the first k words, and where the open line begins. -/
def grd (f : Fc) (ws : List (List UInt8)) (m : Int) : Nat → List Int × Nat
  | 0 => ([], 0)
  | k + 1 => if m < lnW f ws (grd f ws m k).2 (k + 1) then ((grd f ws m k).1 ++ [(k : Int)], k) else grd f ws m k
theorem grd_yes {f : Fc} {ws : List (List UInt8)} {m : Int} {k : Nat} (h : m < lnW f ws (grd f ws m k).2 (k + 1)) : grd f ws m (k + 1) = ((grd f ws m k).1 ++ [(k : Int)], k) := by rw [grd, if_pos h]
theorem grd_no {f : Fc} {ws : List (List UInt8)} {m : Int} {k : Nat} (h : ¬ m < lnW f ws (grd f ws m k).2 (k + 1)) : grd f ws m (k + 1) = grd f ws m k := by rw [grd, if_neg h]
theorem grd_range (f : Fc) (ws : List (List UInt8)) (m : Int) (k : Nat) : (grd f ws m k).2 ≤ k ∧ (grd f ws m k).1.length ≤ k := by
  induction k with
  | zero => exact ⟨Nat.le_refl _, Nat.le_refl _⟩
  | succ k ih =>
    by_cases h : m < lnW f ws (grd f ws m k).2 (k + 1)
    · rw [grd_yes h]; simp; omega
    · rw [grd_no h]; omega
/-- Each word fits. -/
def FitsN (f : Fc) (ws : List (List UInt8)) (m : Int) (k : Nat) : Prop := ∀ j, j < k → lnW f ws j (j + 1) ≤ m
instance (f : Fc) (ws : List (List UInt8)) (m : Int) (k : Nat) : Decidable (FitsN f ws m k) := by unfold FitsN; infer_instance
def fits (f : Fc) (ws : List (List UInt8)) (m : Int) : Bool := decide (FitsN f ws m ws.length)
theorem fitsN_zero (f : Fc) (ws : List (List UInt8)) (m : Int) : FitsN f ws m 0 := fun j hj => by omega
theorem fitsN_succ {f : Fc} {ws : List (List UInt8)} {m : Int} {k : Nat} (h : FitsN f ws m k) (hk : lnW f ws k (k + 1) ≤ m) : FitsN f ws m (k + 1) := fun j hj => by
  rcases Nat.lt_succ_iff_lt_or_eq.1 hj with h1 | rfl
  · exact h j h1
  · exact hk
theorem fits_all {f : Fc} {ws : List (List UInt8)} {m : Int} (h : FitsN f ws m ws.length) : fits f ws m = true := decide_eq_true h
theorem fits_bad {f : Fc} {ws : List (List UInt8)} {m : Int} {k : Nat} (hk : k < ws.length) (h : ¬ lnW f ws k (k + 1) ≤ m) : fits f ws m = false := decide_eq_false fun hh => h (hh k hk)
theorem cutW_one {ws : List (List UInt8)} {k : Nat} (h : k < ws.length) : cutW ws k (k + 1) = [rdW ws k] := by
  unfold cutW rdW
  rw [List.drop_eq_getElem_cons h, Nat.add_sub_cancel_left, List.getD, List.getElem?_eq_getElem h]; rfl
theorem lnW_one {f : Fc} {ws : List (List UInt8)} {k : Nat} (h : k < ws.length) : lnW f ws k (k + 1) = lineW f (rdW ws k) := by
  unfold lnW; rw [cutW_one h, joinW_one]
/-- The first word fits, or there is none. -/
theorem grd_first {f : Fc} {ws : List (List UInt8)} {m : Int} (h0 : 0 ≤ m) (h : fits f ws m = true) : grd f ws m 1 = ([], 0) := by
  refine (grd_no (k := 0) ?_).trans rfl
  show ¬ m < lnW f ws 0 1
  have hh : FitsN f ws m ws.length := of_decide_eq_true h
  by_cases hl : 0 < ws.length
  · have h1 : lnW f ws 0 1 ≤ m := hh 0 hl
    omega
  · have e : ws = [] := List.eq_nil_of_length_eq_zero (by omega)
    subst e
    have : lnW f [] 0 1 = 0 := rfl
    omega
/-- What GreedyBreaks answers. -/
def brkOut (f : Fc) (l : List UInt8) (m : Int) : List Int × Int :=
  if askC f l (inB 0 4000 m) = 0 then (if fits f (words l) m then ((grd f (words l) m (words l).length).1, 0) else ([], 6)) else ([], askC f l (inB 0 4000 m))
theorem brkOut_no {f : Fc} {l : List UInt8} {m : Int} (h : ¬ askC f l (inB 0 4000 m) = 0) : brkOut f l m = ([], askC f l (inB 0 4000 m)) := by unfold brkOut; rw [if_neg h]
theorem brkOut_bad {f : Fc} {l : List UInt8} {m : Int} (h : askC f l (inB 0 4000 m) = 0) (k : fits f (words l) m = false) : brkOut f l m = ([], 6) := by unfold brkOut; rw [if_pos h, k]; rfl
theorem brkOut_ok {f : Fc} {l : List UInt8} {m : Int} (h : askC f l (inB 0 4000 m) = 0) (k : fits f (words l) m = true) : brkOut f l m = ((grd f (words l) m (words l).length).1, 0) := by unfold brkOut; rw [if_pos h, k]; rfl
theorem brkOut_len (f : Fc) (l : List UInt8) (m : Int) (ht : (words l).length ≤ 60 ∨ ¬ askC f l (inB 0 4000 m) = 0) : (brkOut f l m).1.length ≤ 60 := by
  by_cases h : askC f l (inB 0 4000 m) = 0
  · cases k : fits f (words l) m
    · rw [brkOut_bad h k]; exact Nat.zero_le _
    · rw [brkOut_ok h k]
      have := (grd_range f (words l) m (words l).length).2
      rcases ht with ht | ht
      · exact Nat.le_trans this ht
      · exact absurd h ht
  · rw [brkOut_no h]; exact Nat.zero_le _
theorem brkOut_many (f : Fc) (l : List UInt8) (m : Int) : (brkOut f l m).1.length ≤ 60 := by
  by_cases h : askC f l (inB 0 4000 m) = 0
  · exact brkOut_len f l m (.inl (words_count (askC_zero h).2.1))
  · exact brkOut_len f l m (.inr h)
end Go.Proofs.YtdhngjjfoddnkaaGreatDoor
namespace Go.Proofs.YtdhngjjfoddnkaaGreatDoor
open Go Go.RowKit
set_option linter.unusedVariables false
set_option linter.unusedSimpArgs false

set_option maxHeartbeats 1000000 in
set_option maxRecDepth 100000 in
theorem fits_spec (f : Fc) (n b0 : Nat) (A : Option Addr) (c : Nat) (ws : List (List UInt8)) (m : Int) (w : World) (hf : FcT f) (hV : FcV f) (hn : f.pairs.length = n) (hm : n ≤ 1048576) (hw : Ws ws) (h : FcAt w b0 f n) (hs : SlE sv w A ws) :
    Calls Tryz.prog 50 #[.pointer (some ⟨b0, 0, none⟩), .slice A ws.length c, .int .i64 m] w fun e w' => e = .returned (.bool (fits f ws m)) ∧ Below w.heap.size w w' := by
  have HF := Lib.hid hf
  have HVV := Lib.hid hV
  have HN := Lib.hid hn
  have HA := Lib.hid h
  have HW := Lib.hid hw
  have HSL := Lib.hid hs
  have hcnt := hw.many
  clear hf hV hn h hw hs
  go_enter Tryz.func50, Tryz.ntmps50
  go_wp2
  go_loopw [7] (fun i wr => ∃ k : Nat, k ≤ ws.length ∧ i = .int .i64 k ∧ FitsN f ws m k ∧ Below w.heap.size w wr) (fun i _ => ws.length - (intOf i).toNat)
  case atStart => exact ⟨0, by omega, rfl, fitsN_zero _ _ _, Below.refl _ _⟩
  case round =>
    obtain ⟨k, hk, rfl, hall, hbel⟩ := hrel
    have HALL := Lib.hid hall
    clear hall
    by_cases hlt : k < ws.length
    · obtain ⟨a, rfl, hrow⟩ := (HSL.out.next hbel).some k hlt
      have hcell := hrow.atW k hlt
      have hwl := HW.out.len _ (rdW_mem hlt)
      have HA2 := Lib.hid (HA.out.next hbel)
      have HL1 := Lib.hid (lnW_one (f := f) hlt)
      clear hrow
      by_cases hgt : m < lineW f (rdW ws k)
      · have HX := Lib.hid (fits_bad (f := f) (m := m) hlt (by rw [HL1.out]; omega))
        go_wp2_with (go_at_call 74; refine (wide_spec f n b0 ⟨(rdW ws k).toArray⟩ _ HF.out HVV.out HN.out hm (HW.out.isw _ (rdW_mem hlt)).1 hwl HA2.out).mono ?_; rintro e w3 ⟨he, hb3⟩; rw [bs_mk] at he; subst he; have hbel := below_step hbel hb3; clear hb3)
        go_ret
        exact ⟨retB HX.out.symm, hbel⟩
      · have HX := Lib.hid (fitsN_succ HALL.out (by rw [HL1.out]; omega))
        go_wp2_with (go_at_call 74; refine (wide_spec f n b0 ⟨(rdW ws k).toArray⟩ _ HF.out HVV.out HN.out hm (HW.out.isw _ (rdW_mem hlt)).1 hwl HA2.out).mono ?_; rintro e w3 ⟨he, hb3⟩; rw [bs_mk] at he; subst he; have hbel := below_step hbel hb3; clear hb3)
        go_roundw
        case rel => exact ⟨k + 1, by omega, by go_num, HX.out, hbel⟩
        case measure => simp [intOf]; omega
    · obtain rfl : k = ws.length := by omega
      have HX := Lib.hid (fits_all HALL.out)
      go_wp2
      go_ret
      exact ⟨retB HX.out.symm, hbel⟩

structure GrRel (f : Fc) (ws : List (List UInt8)) (m : Int) (W0 wr : World) (v : Value) (k : Nat) : Prop where
  own : wr.ownsRow W0.heap.size 2 1 v (grd f ws m k).1.length ((grd f ws m k).1.map i64)
  below : Below W0.heap.size W0 wr
/-- A list of numbers in memory of the call's own. -/
def NsOut (w : World) (xs : List Int) (e : Ending) (w' : World) : Prop := ∃ A c, e = .returned (.slice A xs.length c) ∧ Below w.heap.size w w' ∧ OwnS w' w.heap.size w'.heap.size A xs

set_option maxHeartbeats 2000000 in
set_option maxRecDepth 100000 in
theorem greedy_spec (f : Fc) (n b0 : Nat) (A : Option Addr) (c : Nat) (ws : List (List UInt8)) (m : Int) (w : World) (hf : FcT f) (hV : FcV f) (hn : f.pairs.length = n) (hm : n ≤ 1048576) (hw : Ws ws) (h : FcAt w b0 f n) (hs : SlE sv w A ws) (hA : 0 < ws.length → ∃ g, A = some ⟨g, 0, none⟩)
    (hc : ws.length ≤ c) (h1 : grd f ws m 1 = ([], 0)) :
    Calls Tryz.prog 32 #[.pointer (some ⟨b0, 0, none⟩), .slice A ws.length c, .int .i64 m] w (NsOut w (grd f ws m ws.length).1) := by
  have HF := Lib.hid hf
  have HVV := Lib.hid hV
  have HN := Lib.hid hn
  have HA := Lib.hid h
  have HW := Lib.hid hw
  have HSL := Lib.hid hs
  have HG := Lib.hid hA
  have H1 := Lib.hid h1
  have hcnt := hw.many
  clear hf hV hn h hw hs hA h1
  go_enter Tryz.func32, Tryz.ntmps32
  go_wp2
  go_loopw [7, 8, 9] (fun v b i wr => ∃ k : Nat, 1 ≤ k ∧ (k = 1 ∨ k ≤ ws.length) ∧ i = .int .i64 k ∧ b = .int .i64 ((grd f ws m k).2 : Nat) ∧ GrRel f ws m w wr v k) (fun _ _ i _ => ws.length - (intOf i).toNat)
  case atStart => exact ⟨1, by omega, .inl rfl, rfl, by rw [H1.out]; rfl, by rw [H1.out]; exact own_empty _ _ rfl _ _ (Nat.le_refl _) 1, below_one _ _⟩
  case round =>
    obtain ⟨k, hk1, hk, rfl, rfl, h⟩ := hrel
    have hown := h.own
    have hbel := h.below
    clear h
    have hsz := hbel.size
    have hgr := grd_range f ws m k
    by_cases hlt : k < ws.length
    · obtain ⟨g, rfl⟩ := HG.out (by omega)
      have HCUT := Lib.hid (show (cutW ws (grd f ws m k).2 (k + 1)).length = k + 1 - (grd f ws m k).2 from cutW_length hlt)
      have HSC := Lib.hid (slE_cut (HSL.out.next hbel) (grd f ws m k).2 (k + 1))
      have HA3 := Lib.hid (HA.out.next hbel)
      by_cases hgt : m < lnW f ws (grd f ws m k).2 (k + 1)
      · have HX := Lib.hid (grd_yes hgt)
        generalize hfr : (grd f ws m k).2 = fr at *
        generalize hls : (grd f ws m k).1 = ls at *
        go_wp2_with (first
          | (refine wpList_run rfl _ (exec_slice2 (.tmp 18) (.tmp 19) (.tmp 21) rfl g ws.length c fr (k + 1) rfl rfl rfl (by omega) (by omega)) ?_)
          | (go_at_call 59; refine (line_specN f n b0 _ _ (cutW ws fr (k + 1)) (k + 1 - fr) _ HF.out HVV.out HN.out hm (HW.out.cut _ _) HA3.out (by have := HSC.out; rwa [Nat.zero_add] at this) HCUT.out).mono ?_; rintro e w3 ⟨he, hb3⟩; change e = .returned (.int .i64 (lnW f ws fr (k + 1))) at he; subst he; have hown := own_next hown hb3; have hbel := below_step hbel hb3; have hsz := hbel.size; clear hb3)
          | (at_builtin; refine wpList_app1 rfl (.tmp 26) (.tmp 28) _ rfl elI w3 w.heap.size u7 ls.length _ rfl hown (.int .i64 (k : Int)) _ rfl rfl rfl (by unfold maxLen; omega) (by omega) hsz ?_; intro v' w' ho' hg'))
        go_roundw
        case rel =>
          refine ⟨k + 1, by omega, .inr (by omega), by go_num, by rw [HX.out], ?_, below_own hbel hown hg' (Nat.le_refl _) hsz⟩
          rw [HX.out, List.length_append, List.map_append]
          exact ho'
        case measure => simp [intOf]; omega
      · have HX := Lib.hid (grd_no hgt)
        generalize hfr : (grd f ws m k).2 = fr at *
        generalize hls : (grd f ws m k).1 = ls at *
        go_wp2_with (first
          | (refine wpList_run rfl _ (exec_slice2 (.tmp 18) (.tmp 19) (.tmp 21) rfl g ws.length c fr (k + 1) rfl rfl rfl (by omega) (by omega)) ?_)
          | (go_at_call 59; refine (line_specN f n b0 _ _ (cutW ws fr (k + 1)) (k + 1 - fr) _ HF.out HVV.out HN.out hm (HW.out.cut _ _) HA3.out (by have := HSC.out; rwa [Nat.zero_add] at this) HCUT.out).mono ?_; rintro e w3 ⟨he, hb3⟩; change e = .returned (.int .i64 (lnW f ws fr (k + 1))) at he; subst he; have hown := own_next hown hb3; have hbel := below_step hbel hb3; clear hb3))
        go_roundw
        case rel => exact ⟨k + 1, by omega, .inr (by omega), by go_num, by rw [HX.out, hfr], by rw [HX.out, hls]; exact hown, hbel⟩
        case measure => simp [intOf]; omega
    · have HE := Lib.hid (show (grd f ws m k).1 = (grd f ws m ws.length).1 by
        rcases hk with rfl | hk
        · by_cases h0 : ws.length = 0
          · rw [h0, H1.out]; rfl
          · rw [show ws.length = 1 by omega]
        · rw [show k = ws.length by omega])
      go_wp2
      go_ret
      obtain ⟨A', c', rfl, hl, ho⟩ := OwnS.of_own hown
      rw [HE.out] at ho hl ⊢
      exact ⟨A', c', rfl, hbel, ho⟩
end Go.Proofs.YtdhngjjfoddnkaaGreatDoor
namespace Go.Proofs.YtdhngjjfoddnkaaGreatDoor
open Go Go.RowKit
set_option linter.unusedVariables false
set_option linter.unusedSimpArgs false

theorem room2_spec (f : Fc) (n b0 : Nat) (s : ByteArray) (m : Int) (w : World) (hf : FcT f) (hn : f.pairs.length = n) (hm : n ≤ 1048576) (hs : s.size ≤ 1048576) (h : FcAt w b0 f n) :
    Calls Tryz.prog 36 #[.pointer (some ⟨b0, 0, none⟩), .string s, .int .i64 m] w fun e w' => e = .returned (.int .i64 (askC f (bs s) (inB 0 4000 m))) ∧ Below w.heap.size w w' := by
  go_enter Tryz.func36, Tryz.ntmps36
  go_wp2_with (first
    | (go_at_call 62; refine (room_spec _ _).mono ?_; rintro e w0 ⟨rfl, rfl⟩)
    | (go_at_call 48; refine (asked_spec f n b0 s _ _ hf hn hm hs h).mono ?_; rintro e w1 ⟨rfl, hb⟩))
  go_ret
  exact ⟨rfl, hb⟩

/-- The code of a face, a text and a width in which each word has to fit. -/
def fndC (f : Fc) (l : List UInt8) (m : Int) : Int := if askC f l (inB 0 4000 m) = 0 then (if fits f (words l) m then 0 else 6) else askC f l (inB 0 4000 m)
theorem fndC_no {f : Fc} {l : List UInt8} {m : Int} (h : ¬ askC f l (inB 0 4000 m) = 0) : fndC f l m = askC f l (inB 0 4000 m) := by unfold fndC; rw [if_neg h]
theorem fndC_bad {f : Fc} {l : List UInt8} {m : Int} (h : askC f l (inB 0 4000 m) = 0) (k : fits f (words l) m = false) : fndC f l m = 6 := by unfold fndC; rw [if_pos h, k]; rfl
theorem fndC_ok {f : Fc} {l : List UInt8} {m : Int} (h : askC f l (inB 0 4000 m) = 0) (k : fits f (words l) m = true) : fndC f l m = 0 := by unfold fndC; rw [if_pos h, k]; rfl
theorem brk_code (f : Fc) (l : List UInt8) (m : Int) : (brkOut f l m).2 = fndC f l m := by
  by_cases h : askC f l (inB 0 4000 m) = 0
  · cases k : fits f (words l) m
    · rw [brkOut_bad h k, fndC_bad h k]
    · rw [brkOut_ok h k, fndC_ok h k]
  · rw [brkOut_no h, fndC_no h]
theorem fndC_zero {f : Fc} {l : List UInt8} {m : Int} (h : fndC f l m = 0) : validF f = true ∧ vText l = true ∧ 0 ≤ m ∧ m ≤ 4000 ∧ fits f (words l) m = true := by
  unfold fndC at h
  split at h
  · rename_i h0
    split at h
    · rename_i h1
      obtain ⟨a, b, c⟩ := askC_zero h0
      have := inB_iff.1 c
      exact ⟨a, b, this.1, this.2, h1⟩
    · omega
  · rename_i h0; exact absurd h h0

set_option maxHeartbeats 1000000 in
set_option maxRecDepth 100000 in
theorem found_spec (f : Fc) (n b0 : Nat) (s : ByteArray) (m : Int) (w : World) (hf : FcT f) (hn : f.pairs.length = n) (hm : n ≤ 1048576) (hs : s.size ≤ 1048576) (h : FcAt w b0 f n) :
    Calls Tryz.prog 31 #[.pointer (some ⟨b0, 0, none⟩), .string s, .int .i64 m] w fun e w' => e = .returned (.int .i64 (fndC f (bs s) m)) ∧ Below w.heap.size w w' := by
  have HF := Lib.hid hf
  have HN := Lib.hid hn
  have HA := Lib.hid h
  clear hf hn h
  obtain ⟨cd, hcd⟩ : ∃ cd, cd = askC f (bs s) (inB 0 4000 m) := ⟨_, rfl⟩
  have HC := Lib.hid hcd
  by_cases h0 : cd = 0
  · obtain ⟨hv, ht, hinn⟩ := askC_zero (hcd.symm.trans h0)
    clear hinn
    have HVV := Lib.hid (validF_iff.1 hv)
    have HW := Lib.hid (ws_words ht)
    subst h0
    clear hv ht hcd
    cases hfit : fits f (words (bs s)) m
    · have HO := Lib.hid (fndC_bad HC.out.symm hfit)
      have HFT := Lib.hid hfit
      clear hfit
      go_enter Tryz.func31, Tryz.ntmps31
      go_wp2_with (first
        | (go_at_call 36; refine (room2_spec f n b0 s m _ HF.out HN.out hm hs HA.out).mono ?_; rintro e w1 ⟨he, hb⟩; rw [← HC.out] at he; subst he; have hb1 := hb; clear hb)
        | (go_at_call 33; refine (words_spec s _ hs).mono ?_; rintro e w2 ⟨A1, c1, rfl, hc1, hb2, hsl, _⟩)
        | (go_at_call 50; refine (fits_spec f n b0 A1 c1 (words (bs s)) m _ HF.out HVV.out HN.out hm HW.out ((HA.out.next hb1).next hb2) hsl).mono ?_; rintro e w3 ⟨he, hb3⟩; rw [HFT.out] at he; subst he))
      go_ret
      exact ⟨retI HO.out.symm, below_step (below_step hb1 hb2) hb3⟩
    · have HO := Lib.hid (fndC_ok HC.out.symm hfit)
      have HFT := Lib.hid hfit
      clear hfit
      go_enter Tryz.func31, Tryz.ntmps31
      go_wp2_with (first
        | (go_at_call 36; refine (room2_spec f n b0 s m _ HF.out HN.out hm hs HA.out).mono ?_; rintro e w1 ⟨he, hb⟩; rw [← HC.out] at he; subst he; have hb1 := hb; clear hb)
        | (go_at_call 33; refine (words_spec s _ hs).mono ?_; rintro e w2 ⟨A1, c1, rfl, hc1, hb2, hsl, _⟩)
        | (go_at_call 50; refine (fits_spec f n b0 A1 c1 (words (bs s)) m _ HF.out HVV.out HN.out hm HW.out ((HA.out.next hb1).next hb2) hsl).mono ?_; rintro e w3 ⟨he, hb3⟩; rw [HFT.out] at he; subst he))
      go_ret
      exact ⟨retI HO.out.symm, below_step (below_step hb1 hb2) hb3⟩
  · have HO := Lib.hid (fndC_no (f := f) (l := bs s) (m := m) (by rw [← hcd]; exact h0))
    clear hcd
    go_enter Tryz.func31, Tryz.ntmps31
    go_wp2_with (go_at_call 36; refine (room2_spec f n b0 s m _ HF.out HN.out hm hs HA.out).mono ?_; rintro e w1 ⟨he, hb⟩; rw [← HC.out] at he; subst he; have hb1 := hb; clear hb)
    go_ret
    exact ⟨retI (by rw [HO.out, HC.out]), hb1⟩

set_option maxHeartbeats 1000000 in
set_option maxRecDepth 100000 in
theorem greedyB_spec (f : Fc) (A : Option Addr) (n c : Nat) (s : ByteArray) (m : Int) (w : World) (hf : FcT f) (hn : f.pairs.length = n) (hm : n ≤ 1048576) (hs : s.size ≤ 1048576) (h : SlP w A f.pairs) :
    Calls Tryz.prog 9 #[.agg (fcV f (.slice A n c)).toArray, .string s, .int .i64 m] w (ListOut w (brkOut f (bs s) m).1 (brkOut f (bs s) m).2) := by
  have hB := below_one w (.cells (fcV f (.slice A n c)).toArray 28)
  have hk := Blk.new w 28 (fcV f (.slice A n c))
  have hfa : FcAt (w.alloc (.cells (fcV f (.slice A n c)).toArray 28)) w.heap.size f n := ⟨A, c, hk, h.next hB⟩
  have HF := Lib.hid hf
  have HN := Lib.hid hn
  have HA := Lib.hid hfa
  have HBC := Lib.hid (brk_code f (bs s) m)
  clear hf hn h hfa hk
  obtain ⟨cd, hcd⟩ : ∃ cd, cd = fndC f (bs s) m := ⟨_, rfl⟩
  have HC := Lib.hid hcd
  by_cases h0 : cd = 0
  · obtain ⟨hv, ht, hm0, hm1, hfit⟩ := fndC_zero (hcd.symm.trans h0)
    have HVV := Lib.hid (validF_iff.1 hv)
    have HW := Lib.hid (ws_words ht)
    have hcnt := words_count ht
    have HO := Lib.hid (brkOut_ok (f := f) (l := bs s) (m := m) (by rw [askC_ok hv ht, inB_true ⟨hm0, hm1⟩]; rfl) hfit)
    have H1 := Lib.hid (grd_first hm0 hfit)
    subst h0
    clear hv ht hcd hfit
    go_enter Tryz.func9, Tryz.ntmps9
    go_wp2_with (first
      | (go_at_call 31; refine (found_spec f n w.heap.size s m _ HF.out HN.out hm hs HA.out).mono ?_; rintro e w1 ⟨he, hb⟩; rw [← HC.out] at he; subst he; have hb1 := hb; clear hb)
      | (go_at_call 33; refine (words_spec s _ hs).mono ?_; rintro e w2 ⟨A1, c1, rfl, hc1, hb2, hsl, hA1⟩)
      | (go_at_call 32; refine (greedy_spec f n w.heap.size A1 c1 (words (bs s)) m _ HF.out HVV.out HN.out hm HW.out ((HA.out.next hb1).next hb2) hsl hA1 hc1 H1.out).mono ?_; rintro e w3 ⟨A3, c3, rfl, hb3, ho3⟩))
    go_ret2
    have hb12 := below_step (below_step hB hb1) hb2
    refine ⟨A3, c3, by rw [HO.out]; rfl, below_step hb12 hb3, ?_⟩
    rw [HO.out]
    exact fun hn => by
      obtain ⟨g, cs, e, h1, h2, h3⟩ := ho3 hn
      exact ⟨g, cs, e, Nat.le_trans hb12.size h1, h2, h3⟩
  · have HL := Lib.hid (show (brkOut f (bs s) m).1 = [] by
      by_cases h : askC f (bs s) (inB 0 4000 m) = 0
      · cases k : fits f (words (bs s)) m
        · rw [brkOut_bad h k]
        · exact absurd (hcd.trans (fndC_ok h k)) h0
      · rw [brkOut_no h])
    clear hcd
    go_enter Tryz.func9, Tryz.ntmps9
    go_wp2_with (go_at_call 31; refine (found_spec f n w.heap.size s m _ HF.out HN.out hm hs HA.out).mono ?_; rintro e w1 ⟨he, hb⟩; rw [← HC.out] at he; subst he; have hB := below_step hB hb; clear hb)
    go_ret2
    refine ⟨some ⟨w1.heap.size, 0, none⟩, 0, ?_, step_alloc hB _, ?_⟩
    · rw [HL.out, HBC.out, ← HC.out]; rfl
    · rw [HL.out]; exact OwnS.nil
end Go.Proofs.YtdhngjjfoddnkaaGreatDoor
namespace Go.Proofs.YtdhngjjfoddnkaaGreatDoor
open Go Go.RowKit
set_option linter.unusedVariables false
set_option linter.unusedSimpArgs false

/-- The cells of a setter: face, words, width. -/
def stV (f : Fc) (S W : Value) (m : Int) : List Value := fcV f S ++ [W, .int .i64 m]
theorem stV_length {f : Fc} (h : FcT f) (S W : Value) (m : Int) : (stV f S W m).length = 31 := by simp [stV, fcV_length h]
theorem stV_words {f : Fc} (h : FcT f) (S W : Value) (m : Int) : (stV f S W m)[29]? = some W := by
  unfold stV; rw [List.getElem?_append_right (by rw [fcV_length h]; omega), fcV_length h]; rfl
theorem stV_wide {f : Fc} (h : FcT f) (S W : Value) (m : Int) : (stV f S W m)[30]? = some (.int .i64 m) := by
  unfold stV; rw [List.getElem?_append_right (by rw [fcV_length h]; omega), fcV_length h]; rfl
theorem stV_face {f : Fc} (h : FcT f) (S W : Value) (m : Int) : ((stV f S W m).drop 0).take 29 = fcV f S := by
  unfold stV; rw [List.drop_zero, ← fcV_length h S, List.take_left]
theorem szStI : (Tryz.prog.info? 55).map (·.size) = some 31 := by kernel_rfl
/-- A row of words in a block. -/
def wS (g : Nat) (ws : List (List UInt8)) : Value := .slice (some ⟨g, 0, none⟩) ws.length ws.length

set_option maxRecDepth 100000 in
theorem line_impl (f : Fc) (S : Value) (g a b : Nat) (ws : List (List UInt8)) (m : Int) (w : World) (hf : FcT f) (hab : a < b) (hb : b ≤ ws.length) (hws : ws.length ≤ 60) (hl : (joinW (cutW ws a b)).length ≤ 1048576) (h : Blk w g 9 (wsV ws)) :
    Calls Tryz.prog 80 #[.agg (stV f S (wS g ws) m).toArray, .int .i64 (a : Int), .int .i64 (b : Int)] w fun e w' => e = .returned (.string ⟨(joinW (cutW ws a b)).toArray⟩) ∧ Below w.heap.size w w' := by
  have hB := below_one w (.cells (stV f S (wS g ws) m).toArray 55)
  have c29 := (Blk.new w 55 (stV f S (wS g ws) m)).cell 29 (.slice (some ⟨g, 0, none⟩) ws.length ws.length) (stV_words hf _ _ _)
  have HG := Lib.hid (h.next hB)
  clear h
  go_enter Tryz.func80, Tryz.ntmps80
  go_wp2_with (first
    | (refine wpList_run rfl _ (exec_slice2 (.tmp 8) (.tmp 9) (.tmp 10) rfl g ws.length ws.length a b rfl rfl rfl hab hb) ?_)
    | (go_at_call 69; refine (join_impl g a b (ws.length - a) ws _ hb (by omega) hws hl HG.out).mono ?_; rintro e w1 ⟨rfl, hb1⟩))
  go_ret
  exact ⟨rfl, below_step hB hb1⟩

attribute [local irreducible] wpQuiet in
set_option maxHeartbeats 1000000 in
set_option maxRecDepth 100000 in
theorem room_impl (f : Fc) (A : Option Addr) (n c : Nat) (g a b : Nat) (ws : List (List UInt8)) (m : Int) (w : World) (hf : FcT f) (hV : FcV f) (hn : f.pairs.length = n) (hm : n ≤ 1048576) (hs : SlP w A f.pairs) (hab : a < b) (hb : b ≤ ws.length) (hw : Ws ws) (hl : (joinW (cutW ws a b)).length ≤ 60)
    (hmr : -4000 ≤ m ∧ m ≤ 1000000) (h : Blk w g 9 (wsV ws)) :
    Calls Tryz.prog 58 #[.agg (stV f (.slice A n c) (wS g ws) m).toArray, .int .i64 (a : Int), .int .i64 (b : Int)] w fun e w' => e = .returned (.int .i64 (m - lnW f ws a b)) ∧ Below w.heap.size w w' := by
  have hB := below_one w (.cells (stV f (.slice A n c) (wS g ws) m).toArray 55)
  have HK := Lib.hid (Blk.new w 55 (stV f (.slice A n c) (wS g ws) m))
  have HG := Lib.hid (h.next hB)
  have HS := Lib.hid (hs.next hB)
  have HW := Lib.hid hw
  have hmany := hw.many
  have hrg := lnW_range hV hw a b
  have hsub : IntKind.i64.wrap (m - lnW f ws a b) = m - lnW f ws a b := IntWalk.i64_in _ (by omega)
  have HZ := Lib.hid (show (Tryz.prog.info? 55).map (·.size) = some (stV f (.slice A n c) (wS g ws) m).toArray.size by rw [List.size_toArray, stV_length hf]; exact szStI)
  have HF29 := Lib.hid (show (Tryz.prog.info? 28).map (·.size) = some (fcV f (.slice A n c)).length by rw [fcV_length hf]; exact szFcI)
  clear h hs hw
  go_enter Tryz.func58, Tryz.ntmps58
  go_wp2
  obtain ⟨b0, hb0⟩ : ∃ b0, b0 = w.heap.size := ⟨_, rfl⟩
  rw [← hb0] at HK ⊢
  clear hb0
  generalize w.alloc (.cells (stV f (.slice A n c) (wS g ws) m).toArray 55) = W0 at *
  refine region_below (W0.heap.size) (by kernel_rfl) (by kernel_rfl) ?_
  refine below_run (by kernel_rfl) (.pointer (some ⟨b0, 30, none⟩)) (fun w' hw' => by kernel_rfl) ?_
  refine below_run (by kernel_rfl) (.int .i64 m) (fun w' hw' => exec_load1 2 (.tmp 7) rfl ⟨b0, 30, none⟩ (by kernel_rfl) (.int .i64 m) ((HK.out.next hw').cell 30 _ (stV_wide hf _ _ _)) _ Tryz.underlying2 rfl) ?_
  refine below_run (by kernel_rfl) (.pointer (some ⟨b0, 0, none⟩)) (fun w' hw' => by kernel_rfl) ?_
  refine below_run (by kernel_rfl) (.agg (fcV f (.slice A n c)).toArray) (fun w' hw' => exec_loadV 28 (.tmp 9) rfl ⟨b0, 0, none⟩ (by kernel_rfl) (fcV f (.slice A n c)) _ ((by have := (HK.out.next hw').rowV 0 29; rwa [stV_face hf] at this)) Tryz.underlying28 rfl HF29.out) ?_
  refine below_run (by kernel_rfl) (.agg (stV f (.slice A n c) (wS g ws) m).toArray) (fun w' hw' => exec_load_row 55 (.tmp 3) rfl (b0) (by kernel_rfl) 55 (stV f (.slice A n c) (wS g ws) m).toArray _ _ (HK.out.next hw') Tryz.underlying55 rfl (HZ.out)) ?_
  refine below_run (by kernel_rfl) (.int .i64 (a : Int)) (fun w' hw' => by kernel_rfl) ?_
  refine below_run (by kernel_rfl) (.int .i64 (b : Int)) (fun w' hw' => by kernel_rfl) ?_
  refine below_call (by kernel_rfl) 80 #[.agg (stV f (.slice A n c) (wS g ws) m).toArray, .int .i64 (a : Int), .int .i64 (b : Int)] (.string ⟨(joinW (cutW ws a b)).toArray⟩) (fun w' => by kernel_rfl) (fun w' hw' => (line_impl f _ g a b ws m w' hf hab hb hmany (by omega) (HG.out.next hw')).mono fun e w1 ⟨he, hb1⟩ => ⟨he, below_step hw' hb1⟩) ?_
  refine below_call (by kernel_rfl) 46 #[.agg (fcV f (.slice A n c)).toArray, .string ⟨(joinW (cutW ws a b)).toArray⟩] (.int .i64 (lnW f ws a b)) (fun w' => by kernel_rfl) (fun w' hw' => (wide_impl f A n c ⟨(joinW (cutW ws a b)).toArray⟩ w' hf hV hn hm (line_ls (HW.out.cut _ _)) hl (HS.out.next hw')).mono fun e w1 ⟨he, hb1⟩ => ⟨he, below_step hw' hb1⟩) ?_
  refine below_run (by kernel_rfl) (.int .i64 (m - lnW f ws a b)) (fun w' hw' => Eq.trans (show (execOp _ _).run _ w' = .ok (.value (.int .i64 (IntKind.i64.wrap (m - lnW f ws a b)))) w' by kernel_rfl) (by rw [hsub])) ?_
  refine below_run (by kernel_rfl) (.int .i64 (m - lnW f ws a b)) (fun w' hw' => by kernel_rfl) ?_
  refine wpQuiet_nil ?_
  intro W3 hW3
  simp only [Act.put, List.setIfInBounds_toArray, List.set_cons_succ, List.set_cons_zero]
  have hB3 := hB.trans (hW3.mono hB.size)
  clear hsub
  go_wp2
  go_ret
  exact ⟨rfl, hB3⟩
end Go.Proofs.YtdhngjjfoddnkaaGreatDoor
namespace Go.Proofs.YtdhngjjfoddnkaaGreatDoor
open Go Go.RowKit
set_option linter.unusedVariables false
set_option linter.unusedSimpArgs false

/-- Breaks, and whether all words fit. -/
def GrOut (f : Fc) (ws : List (List UInt8)) (m : Int) (w : World) (e : Ending) (w' : World) : Prop :=
  ∃ A n c, e = .returned (.tuple #[.slice A n c, .bool (fits f ws m)]) ∧ Below w.heap.size w w' ∧ (fits f ws m = true → n = (grd f ws m ws.length).1.length ∧ OwnS w' w.heap.size w'.heap.size A (grd f ws m ws.length).1) ∧ (fits f ws m = false → A = none ∧ n = 0)

set_option maxHeartbeats 2000000 in
set_option maxRecDepth 100000 in
theorem greedy_impl (f : Fc) (A : Option Addr) (n c g : Nat) (ws : List (List UInt8)) (m : Int) (w : World) (hf : FcT f) (hV : FcV f) (hn : f.pairs.length = n) (hm : n ≤ 1048576) (hs : SlP w A f.pairs) (hw : Ws ws) (hl : ∀ a b, (joinW (cutW ws a b)).length ≤ 60)
    (hmr : 0 ≤ m ∧ m ≤ 1000000) (h : Blk w g 9 (wsV ws)) :
    Calls Tryz.prog 30 #[.agg (stV f (.slice A n c) (wS g ws) m).toArray] w (GrOut f ws m w) := by
  have hB := below_one w (.cells (stV f (.slice A n c) (wS g ws) m).toArray 55)
  have hk := Blk.new w 55 (stV f (.slice A n c) (wS g ws) m)
  have c29 := (hk.alloc (.cells #[] 2)).cell 29 (.slice (some ⟨g, 0, none⟩) ws.length ws.length) (stV_words hf _ _ _)
  have HK := Lib.hid hk
  have HG := Lib.hid (h.next hB)
  have HS := Lib.hid (hs.next hB)
  have HW := Lib.hid hw
  have HL := Lib.hid hl
  have hmany := hw.many
  have HZ := Lib.hid (show (Tryz.prog.info? 55).map (·.size) = some (stV f (.slice A n c) (wS g ws) m).toArray.size by rw [List.size_toArray, stV_length hf]; exact szStI)
  clear h hs hw hk hl
  go_enter Tryz.func30, Tryz.ntmps30
  go_wp2
  clear c29
  have hs0 : (w.alloc (.cells (stV f (.slice A n c) (wS g ws) m).toArray 55)).heap.size = w.heap.size + 1 := by simp
  obtain ⟨b0, hb0⟩ : ∃ b0, b0 = w.heap.size := ⟨_, rfl⟩
  rw [← hb0] at HK hs0 ⊢
  clear hb0
  generalize w.alloc (.cells (stV f (.slice A n c) (wS g ws) m).toArray 55) = W0 at *
  go_loopw [4, 5, 11] (fun v b i wr => ∃ k : Nat, k ≤ ws.length ∧ i = .int .i64 k ∧ b = .int .i64 ((grd f ws m k).2 : Nat) ∧ FitsN f ws m k ∧ GrRel f ws m W0 wr v k) (fun _ _ i _ => ws.length - (intOf i).toNat)
  case atStart => exact ⟨0, by omega, rfl, rfl, fitsN_zero _ _ _, own_empty W0 (b0 + 1) (by omega) W0.heap.size _ (by omega) 1, below_one _ _⟩
  clear hs0
  case round =>
    obtain ⟨k, hk, rfl, rfl, hfit, h⟩ := hrel
    have HFT := Lib.hid hfit
    have hown := h.own
    have hbel := h.below
    clear h hfit
    have hsz := hbel.size
    have hgr := grd_range f ws m k
    by_cases hlt : k < ws.length
    · have hkr := HK.out.next hbel
      have HG1 := Lib.hid (HG.out.next hbel)
      have HS1 := Lib.hid (HS.out.next hbel)
      have hr1 := lnW_range hV HW.out k (k + 1)
      by_cases hbad : m - lnW f ws k (k + 1) < 0
      · have HX := Lib.hid (fits_bad (f := f) (m := m) hlt (by omega))
        clear hgr
        go_wp2_with (first
          | (refine wpList_load_row rfl 55 (.tmp 1) rfl _ rfl 55 (stV f (.slice A n c) (wS g ws) m).toArray _ _ hkr Tryz.underlying55 rfl HZ.out ?_)
          | (go_at_call 58; refine (room_impl f A n c g k (k + 1) ws m _ hf hV hn hm HS1.out (by omega) hlt HW.out (HL.out _ _) (by omega) HG1.out).mono ?_; rintro e w1 ⟨rfl, hb1⟩))
        go_ret2
        exact ⟨none, 0, 0, by rw [HX.out]; rfl, below_step (hB.trans (hbel.mono hB.size)) hb1, (fun h => by rw [HX.out] at h; exact absurd h (by decide)), fun _ => ⟨rfl, rfl⟩⟩
      · have HFN := Lib.hid (fitsN_succ HFT.out (by omega))
        have hr2 := lnW_range hV HW.out (grd f ws m k).2 (k + 1)
        by_cases hgt : m < lnW f ws (grd f ws m k).2 (k + 1)
        · have HX := Lib.hid (grd_yes hgt)
          generalize hfr : (grd f ws m k).2 = fr at *
          generalize hls : (grd f ws m k).1 = ls at *
          have hgt2 : m - lnW f ws fr (k + 1) < 0 := by omega
          go_wp2_with (refine wpList_load_row rfl 55 (.tmp 1) rfl _ rfl 55 (stV f (.slice A n c) (wS g ws) m).toArray _ _ hkr Tryz.underlying55 rfl HZ.out ?_)
          go_at_call 58
          refine (room_impl f A n c g k (k + 1) ws m _ hf hV hn hm HS1.out (by omega) hlt HW.out (HL.out _ _) (by omega) HG1.out).mono ?_
          rintro e w1 ⟨rfl, hb1⟩
          have hkr := hkr.next hb1
          have HG2 := Lib.hid (HG1.out.next hb1)
          have HS2 := Lib.hid (HS1.out.next hb1)
          have hown := own_next hown hb1
          have hbel := hbel.trans (hb1.mono hsz)
          have hsz := hbel.size
          clear hb1
          go_wp2_with (refine wpList_load_row rfl 55 (.tmp 1) rfl _ rfl 55 (stV f (.slice A n c) (wS g ws) m).toArray _ _ hkr Tryz.underlying55 rfl HZ.out ?_)
          go_at_call 58
          refine (room_impl f A n c g fr (k + 1) ws m _ hf hV hn hm HS2.out (by omega) hlt HW.out (HL.out _ _) (by omega) HG2.out).mono ?_
          rintro e w2 ⟨rfl, hb1⟩
          have hown := own_next hown hb1
          have hbel := hbel.trans (hb1.mono hsz)
          have hsz := hbel.size
          clear hb1
          go_wp2_with (at_builtin; refine wpList_app1 rfl (.tmp 26) (.tmp 28) _ rfl elI w2 W0.heap.size u4 ls.length _ rfl hown (.int .i64 (k : Int)) _ rfl rfl rfl (by unfold maxLen; omega) (by omega) hsz ?_; intro v' w' ho' hg')
          go_roundw
          case rel =>
            refine ⟨k + 1, by omega, by go_num, by rw [HX.out], HFN.out, ?_, below_own hbel hown hg' (Nat.le_refl _) hsz⟩
            rw [HX.out, List.length_append, List.map_append]
            exact ho'
          case measure => simp [intOf]; omega
        · have HX := Lib.hid (grd_no hgt)
          generalize hfr : (grd f ws m k).2 = fr at *
          generalize hls : (grd f ws m k).1 = ls at *
          have hgt2 : ¬ m - lnW f ws fr (k + 1) < 0 := by omega
          go_wp2_with (refine wpList_load_row rfl 55 (.tmp 1) rfl _ rfl 55 (stV f (.slice A n c) (wS g ws) m).toArray _ _ hkr Tryz.underlying55 rfl HZ.out ?_)
          go_at_call 58
          refine (room_impl f A n c g k (k + 1) ws m _ hf hV hn hm HS1.out (by omega) hlt HW.out (HL.out _ _) (by omega) HG1.out).mono ?_
          rintro e w1 ⟨rfl, hb1⟩
          have hkr := hkr.next hb1
          have HG2 := Lib.hid (HG1.out.next hb1)
          have HS2 := Lib.hid (HS1.out.next hb1)
          have hown := own_next hown hb1
          have hbel := hbel.trans (hb1.mono hsz)
          have hsz := hbel.size
          clear hb1
          go_wp2_with (refine wpList_load_row rfl 55 (.tmp 1) rfl _ rfl 55 (stV f (.slice A n c) (wS g ws) m).toArray _ _ hkr Tryz.underlying55 rfl HZ.out ?_)
          go_at_call 58
          refine (room_impl f A n c g fr (k + 1) ws m _ hf hV hn hm HS2.out (by omega) hlt HW.out (HL.out _ _) (by omega) HG2.out).mono ?_
          rintro e w2 ⟨rfl, hb1⟩
          have hown := own_next hown hb1
          have hbel := hbel.trans (hb1.mono hsz)
          clear hb1
          go_wp2
          go_roundw
          case rel => exact ⟨k + 1, by omega, by go_num, by rw [HX.out, hfr], HFN.out, by rw [HX.out, hls]; exact hown, hbel⟩
          case measure => simp [intOf]; omega
    · obtain rfl : k = ws.length := by omega
      have HX := Lib.hid (fits_all HFT.out)
      have hB3 := hB.trans (hbel.mono hB.size)
      go_wp2
      go_ret2
      obtain ⟨A', c', rfl, hl, ho⟩ := OwnS.of_own hown
      refine ⟨A', _, c', by rw [HX.out]; rfl, hB3, fun _ => ⟨rfl, fun hn => ?_⟩, (fun h => by rw [HX.out] at h; exact absurd h (by decide))⟩
      obtain ⟨g', cs, e, h1, h2, h3⟩ := ho hn
      exact ⟨g', cs, e, Nat.le_trans hB.size h1, h2, h3⟩
end Go.Proofs.YtdhngjjfoddnkaaGreatDoor
namespace Go.Proofs.YtdhngjjfoddnkaaGreatDoor
open Go Go.RowKit
set_option linter.unusedVariables false
set_option linter.unusedSimpArgs false

theorem list26 (l : List Int) (h : l.length = 26) : ∃ a b c d e f g h i j k m n o p q r s t u v w x y z z2, l = [a, b, c, d, e, f, g, h, i, j, k, m, n, o, p, q, r, s, t, u, v, w, x, y, z, z2] := by
  match l, h with
  | [a, b, c, d, e, f, g, h, i, j, k, m, n, o, p, q, r, s, t, u, v, w, x, y, z, z2], _ => exact ⟨_, _, _, _, _, _, _, _, _, _, _, _, _, _, _, _, _, _, _, _, _, _, _, _, _, _, rfl⟩
theorem built_setter {f : Fc} (hf : FcT f) (A : Option Addr) (n c : Nat) (W : Option Addr) (i j : Nat) (m : Int) : Tryz.prog.built 55 [(0, .agg (fcV f (.slice A n c)).toArray), (1, .slice W i j), (2, .int .i64 m)] = some (stV f (.slice A n c) (.slice W i j) m).toArray := by
  obtain ⟨wide, sp, gp, ps⟩ := f
  obtain ⟨a1, a2, a3, a4, a5, a6, a7, a8, a9, a10, a11, a12, a13, a14, a15, a16, a17, a18, a19, a20, a21, a22, a23, a24, a25, a26, rfl⟩ := list26 wide hf.len
  kernel_rfl
/-- No face. -/
def zF : Fc := ⟨List.replicate 26 0, 0, 0, []⟩
def zSt : List Value := stV zF (.slice none 0 0) (.slice none 0 0) 0
theorem one_st (f : Fc) (A : Option Addr) (n c : Nat) (W : Option Addr) (i j : Nat) (m : Int) : (stV f (.slice A n c) (.slice W i j) m).toArray.all (·.oneCell') = true := by
  have h := one_fc f A n c
  rw [List.all_toArray] at h ⊢
  unfold stV
  rw [List.all_append, h]
  rfl

/-- A setter of a text, or a code. -/
def StOut (f : Fc) (A : Option Addr) (n c : Nat) (l : List UInt8) (m : Int) (w : World) (e : Ending) (w' : World) : Prop :=
  Below w.heap.size w w' ∧ ((¬ askC f l (inB 0 4000 m) = 0 ∧ e = .returned (.tuple #[.agg zSt.toArray, .int .i64 (askC f l (inB 0 4000 m))])) ∨
    (askC f l (inB 0 4000 m) = 0 ∧ ∃ g, e = .returned (.tuple #[.agg (stV f (.slice A n c) (wS g (words l)) m).toArray, .int .i64 0]) ∧ w.heap.size ≤ g ∧ Blk w' g 9 (wsV (words l))))

attribute [local irreducible] wpAnyH in
set_option maxHeartbeats 2000000 in
set_option maxRecDepth 100000 in
theorem setterOf_impl (f : Fc) (A : Option Addr) (n c : Nat) (s : ByteArray) (m : Int) (w : World) (hf : FcT f) (hn : f.pairs.length = n) (hm : n ≤ 1048576) (hs : s.size ≤ 1048576) (h : SlP w A f.pairs) (hmx : MaxW w) (hsp : SpT w) :
    Calls Tryz.prog 29 #[.agg (fcV f (.slice A n c)).toArray, .string s, .int .i64 m] w (StOut f A n c (bs s) m w) := by
  have hB := below_two w (.cells (fcV f (.slice A n c)).toArray 28) (.cells zSt.toArray 55)
  have hk := (Blk.new w 28 (fcV f (.slice A n c))).alloc (.cells zSt.toArray 55)
  have hz : Blk ((w.alloc (.cells (fcV f (.slice A n c)).toArray 28)).alloc (.cells zSt.toArray 55)) (w.heap.size + 1) 55 zSt := Blk.at_new _ _ _ (by simp) _ _ rfl
  have HS := Lib.hid (h.next hB)
  have HM := Lib.hid (hmx.next hB)
  have HP := Lib.hid (hsp.next hB)
  have HF := Lib.hid hf
  have HN := Lib.hid hn
  have hsz : (fcV f (.slice A n c)).toArray.size = 29 := by simp [fcV_length hf]
  have HZ := Lib.hid (show (Tryz.prog.info? 28).map (·.size) = some (fcV f (.slice A n c)).toArray.size by rw [hsz]; exact szFcI)
  clear hn h hmx hsp hsz hf
  obtain ⟨cd, hcd⟩ : ∃ cd, cd = askC f (bs s) (inB 0 4000 m) := ⟨_, rfl⟩
  have HC := Lib.hid hcd
  by_cases h0 : cd = 0
  · obtain ⟨hv, ht, hinn⟩ := askC_zero (hcd.symm.trans h0)
    clear hinn
    have HT := Lib.hid ht
    subst h0
    clear hv ht hcd
    go_enter Tryz.func29, Tryz.ntmps29
    go_wp2_with (first
      | (refine wpList_load_row rfl 28 (.tmp 3) rfl _ rfl 28 (fcV f (.slice A n c)).toArray _ _ hk Tryz.underlying28 rfl HZ.out ?_)
      | (go_at_call 56; refine (wideCode_any f A n c s m _ HF.out HN.out hm hs HS.out HM.out).mono ?_; rintro e w1 ⟨he, hb⟩; rw [← HC.out] at he; subst he; have hb1 := hb; clear hb))
    have hk1 := hk.next hb1
    have hz1 := hz.next hb1
    have HP1 := Lib.hid (HP.out.next hb1)
    have hB1 := below_step hB hb1
    have hw2 : w.heap.size + 1 < w1.heap.size := hz1.lt
    clear hk hz HP HS HM hb1
    refine held_begin (w.heap.size + 1) (by kernel_rfl) ?_
    have hS := below_drewN (Below.refl (w.heap.size + 1) w1) 1
    refine held_take 0 (.agg (fcV f (.slice A n c)).toArray) rfl (by kernel_rfl) (by kernel_rfl) (by kernel_rfl) (fun _ _ _ h => h) (by kernel_rfl) (fun w' hw' => exec_load_row 28 (.tmp 3) rfl (w.heap.size) (by kernel_rfl) 28 (fcV f (.slice A n c)).toArray _ _ (hk1.below hw' (Nat.lt_succ_self _)) Tryz.underlying28 rfl (HZ.out)) hS ?_
    refine held_take 1 (.string s) rfl (by kernel_rfl) (by kernel_rfl) (by kernel_rfl) (fun _ _ _ h => h) (by kernel_rfl) (fun w' hw' => by kernel_rfl) hS ?_
    refine held_take 3 (.int .i64 m) rfl (by kernel_rfl) (by kernel_rfl) (by kernel_rfl) (fun _ _ _ h => h) (by kernel_rfl) (fun w' hw' => by kernel_rfl) hS ?_
    refine held_call 2 57 #[.string s] rfl (by kernel_rfl) (by kernel_rfl) (by kernel_rfl) ?_
    refine (fields_impl s (w1.drewN 1) HT.out HP1.out).mono ?_
    rintro e w1 ⟨rfl, rfl⟩
    have hS := hS.alloc (by show w.heap.size + 1 ≤ w1.heap.size; omega) (.cells (wsV (words (bs s))).toArray 9)
    refine ⟨_, rfl, hS, ?_⟩
    have hz2 := (hz1.drewN 1).alloc (.cells (wsV (words (bs s))).toArray 9)
    have hg2 := Blk.new (w1.drewN 1) 9 (wsV (words (bs s)))
    generalize (w1.drewN 1).alloc (.cells (wsV (words (bs s))).toArray 9) = W2 at *
    refine held_take 4 (.agg (stV f (.slice A n c) (wS w1.heap.size (words (bs s))) m).toArray) rfl (by kernel_rfl) (by kernel_rfl) (by kernel_rfl) (fun _ _ _ h => h) (by kernel_rfl) (fun w' hw' => exec_build 55 _ rfl _ ((show _ = Tryz.prog.built 55 [(0, .agg (fcV f (.slice A n c)).toArray), (1, wS w1.heap.size (words (bs s))), (2, .int .i64 m)] by kernel_rfl).trans (built_setter HF.out _ _ _ _ _ _ _))) hS ?_
    refine held_skip 5 (W2.setRow (w.heap.size + 1) (stV f (.slice A n c) (wS w1.heap.size (words (bs s))) m).toArray) rfl (by kernel_rfl) (by kernel_rfl) (exec_store_row 55 (.tmp 6) (.tmp 21) rfl (w.heap.size + 1) _ (by kernel_rfl) (by kernel_rfl) 55 zSt.toArray hz2 (by rw [List.size_toArray, stV_length HF.out]; exact szStI) (by rw [List.size_toArray, List.size_toArray, stV_length HF.out]; rfl) (one_st _ _ _ _ _ _ _ _)) (below_setRow hS _ _ (Nat.le_refl _)) ?_
    have hS3 := below_setRow hS (w.heap.size + 1) (stV f (.slice A n c) (wS w1.heap.size (words (bs s))) m).toArray (Nat.le_refl _)
    have hS := hS3
    refine held_take 6 (.int .i64 0) rfl (by kernel_rfl) (by kernel_rfl) (by kernel_rfl) (fun _ _ _ h => h) (by kernel_rfl) (fun w' hw' => by kernel_rfl) hS ?_
    refine held_done (by kernel_rfl) ?_
    simp only [Act.put, List.setIfInBounds_toArray, List.set_cons_succ, List.set_cons_zero]
    simp only [List.getElem_toArray, List.getElem_cons_succ, List.getElem_cons_zero, Act.put, List.setIfInBounds_toArray, List.set_cons_succ, List.set_cons_zero]
    go_wp2_with fail
    exact bodyPost_ret (v := .tuple #[.agg (stV f (.slice A n c) (wS w1.heap.size (words (bs s))) m).toArray, .int .i64 0]) (results_row_tmp rfl _ _ _ 55 (stV f (.slice A n c) (wS w1.heap.size (words (bs s))) m).toArray _ _ _ rfl rfl (hz2.setRow_same _) Tryz.underlying55 rfl (by rw [List.size_toArray, stV_length HF.out]; exact szStI)) rfl
      ⟨hB1.trans (hS3.mono (by omega)), .inr ⟨HC.out.symm, w1.heap.size, rfl, by omega, hg2.setRow_other _ (by show w1.heap.size ≠ _; omega)⟩⟩
  · clear hcd
    go_enter Tryz.func29, Tryz.ntmps29
    go_wp2_with (first
      | (refine wpList_load_row rfl 28 (.tmp 3) rfl _ rfl 28 (fcV f (.slice A n c)).toArray _ _ hk Tryz.underlying28 rfl HZ.out ?_)
      | (go_at_call 56; refine (wideCode_any f A n c s m _ HF.out HN.out hm hs HS.out HM.out).mono ?_; rintro e w1 ⟨he, hb⟩; rw [← HC.out] at he; subst he; have hz1 := hz.next hb; have hB1 := below_step hB hb; clear hb)
      | (refine wpList_store_row rfl 55 (.tmp 6) (.tmp 15) rfl _ zSt.toArray rfl rfl 55 _ hz1 szStI rfl (one_st _ _ _ _ _ _ _ _) ?_))
    exact bodyPost_ret (v := .tuple #[.agg zSt.toArray, .int .i64 cd]) (results_row_tmp rfl _ _ _ 55 zSt.toArray _ _ _ rfl rfl (hz1.setRow_same zSt) Tryz.underlying55 rfl szStI) rfl ⟨below_setRow hB1 _ _ (by omega), .inl ⟨by rw [← HC.out]; exact h0, by rw [← HC.out]⟩⟩
end Go.Proofs.YtdhngjjfoddnkaaGreatDoor
namespace Go.Proofs.YtdhngjjfoddnkaaGreatDoor
open Go Go.RowKit
set_option linter.unusedVariables false
set_option linter.unusedSimpArgs false

theorem stSz {f : Fc} (hf : FcT f) (S W : Value) (m : Int) : (Tryz.prog.info? 55).map (·.size) = some (stV f S W m).toArray.size := by rw [List.size_toArray, stV_length hf]; exact szStI
theorem stOld {f : Fc} (hf : FcT f) (S W : Value) (m : Int) : (31 : Nat) = (stV f S W m).toArray.size := by rw [List.size_toArray, stV_length hf]
theorem ownS_lo {w : World} {lo lo' hi : Nat} {A : Option Addr} {xs : List Int} (h : OwnS w lo' hi A xs) (hl : lo ≤ lo') : OwnS w lo hi A xs := fun hn => by
  obtain ⟨g, cs, e, h1, h2, h3⟩ := h hn
  exact ⟨g, cs, e, Nat.le_trans hl h1, h2, h3⟩

set_option maxHeartbeats 2000000 in
set_option maxRecDepth 100000 in
theorem greedyB_impl (f : Fc) (A : Option Addr) (n c : Nat) (s : ByteArray) (m : Int) (w : World) (hf : FcT f) (hn : f.pairs.length = n) (hm : n ≤ 1048576) (hs : s.size ≤ 1048576) (h : SlP w A f.pairs) (hmx : MaxW w) (hsp : SpT w) :
    Calls Tryz.prog 8 #[.agg (fcV f (.slice A n c)).toArray, .string s, .int .i64 m] w (ListOut w (brkOut f (bs s) m).1 (brkOut f (bs s) m).2) := by
  have hB := below_one w (.cells (fcV f (.slice A n c)).toArray 28)
  have hk := Blk.new w 28 (fcV f (.slice A n c))
  have HS := Lib.hid (h.next hB)
  have HM := Lib.hid (hmx.next hB)
  have HP := Lib.hid (hsp.next hB)
  have HF := Lib.hid hf
  have HN := Lib.hid hn
  have hsz : (fcV f (.slice A n c)).toArray.size = 29 := by simp [fcV_length hf]
  have HZ := Lib.hid (show (Tryz.prog.info? 28).map (·.size) = some (fcV f (.slice A n c)).toArray.size by rw [hsz]; exact szFcI)
  clear hn h hmx hsp hsz hf
  go_enter Tryz.func8, Tryz.ntmps8
  go_wp2_with (refine wpList_load_row rfl 28 (.tmp 3) rfl _ rfl 28 (fcV f (.slice A n c)).toArray _ _ hk Tryz.underlying28 rfl HZ.out ?_)
  go_at_call 29
  refine (setterOf_impl f A n c s m _ HF.out HN.out hm hs HS.out HM.out HP.out).mono ?_
  rintro e w1 ⟨hb, ⟨hne, rfl⟩ | ⟨h0, g, rfl, hg, hgb⟩⟩
  · have HO := Lib.hid (brkOut_no hne)
    have hB := below_step hB hb
    clear hb hk
    generalize askC f (bs s) (inB 0 4000 m) = cd at *
    go_wp2_with (refine wpList_store_new rfl 55 _ _ rfl zSt.toArray rfl rfl 55 _ szStI rfl (one_st _ _ _ _ _ _ _ _) ?_)
    go_ret2
    refine ⟨none, 0, by rw [HO.out]; rfl, step_alloc hB _, by rw [HO.out]; exact OwnS.nil⟩
  · obtain ⟨hv, ht, hin⟩ := askC_zero h0
    have HVV := Lib.hid (validF_iff.1 hv)
    have HW := Lib.hid (ws_words ht)
    have HCL := Lib.hid (cut_len ht)
    have hmr := inB_iff.1 hin
    have H0 := Lib.hid h0
    have hS1 := HS.out.next hb
    have hB := below_step hB hb
    clear hv ht hin hb h0 hk
    have hx := Blk.new w1 55 (stV f (.slice A n c) (wS g (words (bs s))) m)
    have hb := below_one w1 (.cells (stV f (.slice A n c) (wS g (words (bs s))) m).toArray 55)
    have hB2 := below_step hB hb
    have HG2 := Lib.hid (hgb.next hb)
    have HS2 := Lib.hid (hS1.next hb)
    clear hb hgb hS1
    go_wp2_with (first
      | (refine wpList_store_new rfl 55 _ _ rfl (stV f (.slice A n c) (wS g (words (bs s))) m).toArray rfl rfl 55 _ (stSz HF.out _ _ _) (stOld HF.out _ _ _) (one_st _ _ _ _ _ _ _ _) ?_)
      | (refine wpList_load_row rfl 55 (.tmp 8) rfl _ rfl 55 (stV f (.slice A n c) (wS g (words (bs s))) m).toArray _ _ hx Tryz.underlying55 rfl (stSz HF.out _ _ _) ?_))
    generalize w1.alloc (.cells (stV f (.slice A n c) (wS g (words (bs s))) m).toArray 55) = W2 at *
    go_at_call 30
    refine (greedy_impl f A n c g (words (bs s)) m _ HF.out HVV.out HN.out hm HS2.out HW.out HCL.out (by omega) HG2.out).mono ?_
    rintro e w3 ⟨A3, n3, c3, rfl, hb3, hyes, hno⟩
    have hB3 := below_step hB2 hb3
    have hz := hB2.size
    cases hfit : fits f (words (bs s)) m
    · have HO := Lib.hid (brkOut_bad H0.out hfit)
      clear hyes hno hx
      go_wp2
      go_ret2
      refine ⟨none, 0, by rw [HO.out]; rfl, hB3, by rw [HO.out]; exact OwnS.nil⟩
    · obtain ⟨rfl, ho⟩ := hyes hfit
      have HO := Lib.hid (brkOut_ok H0.out hfit)
      have HOW := Lib.hid (ownS_lo ho hz)
      clear hyes hno hx ho
      go_wp2
      go_ret2
      refine ⟨A3, c3, by rw [HO.out]; rfl, hB3, by rw [HO.out]; exact HOW.out⟩

/-- How many lines at least, and a code. -/
def fewOut (f : Fc) (l : List UInt8) (m : Int) : Int × Int := if (brkOut f l m).2 = 0 then (((brkOut f l m).1.length : Int) + 1, 0) else (0, (brkOut f l m).2)
theorem fewOut_no {f : Fc} {l : List UInt8} {m : Int} (h : ¬ (brkOut f l m).2 = 0) : fewOut f l m = (0, (brkOut f l m).2) := by unfold fewOut; rw [if_neg h]
theorem fewOut_ok {f : Fc} {l : List UInt8} {m : Int} (h : (brkOut f l m).2 = 0) : fewOut f l m = (((brkOut f l m).1.length : Int) + 1, 0) := by unfold fewOut; rw [if_pos h]
theorem retP {p q : Int × Int} (h : p = q) : Ending.returned (.tuple #[.int .i64 p.1, .int .i64 p.2]) = .returned (.tuple #[.int .i64 q.1, .int .i64 q.2]) := by rw [h]
theorem size64_any (A : Option Addr) (c n : Nat) (w : World) : Calls Tryz.prog 37 #[.slice A n c] w fun e w' => e = .returned (.int .i64 n) ∧ w = w' := by
  go_enter Tryz.func37, Tryz.ntmps37
  go_wp2
  go_ret
  exact ⟨rfl, rfl⟩

set_option maxHeartbeats 1000000 in
set_option maxRecDepth 100000 in
theorem fewest_impl (f : Fc) (A : Option Addr) (n c : Nat) (s : ByteArray) (m : Int) (w : World) (hf : FcT f) (hn : f.pairs.length = n) (hm : n ≤ 1048576) (hs : s.size ≤ 1048576) (h : SlP w A f.pairs) (hmx : MaxW w) (hsp : SpT w) :
    Calls Tryz.prog 14 #[.agg (fcV f (.slice A n c)).toArray, .string s, .int .i64 m] w fun e w' => e = .returned (.tuple #[.int .i64 (fewOut f (bs s) m).1, .int .i64 (fewOut f (bs s) m).2]) ∧ Below w.heap.size w w' := by
  have hB := below_one w (.cells (fcV f (.slice A n c)).toArray 28)
  have hk := Blk.new w 28 (fcV f (.slice A n c))
  have HS := Lib.hid (h.next hB)
  have HM := Lib.hid (hmx.next hB)
  have HP := Lib.hid (hsp.next hB)
  have hlen := brkOut_many f (bs s) m
  have hsz : (fcV f (.slice A n c)).toArray.size = 29 := by simp [fcV_length hf]
  have HZ := Lib.hid (show (Tryz.prog.info? 28).map (·.size) = some (fcV f (.slice A n c)).toArray.size by rw [hsz]; exact szFcI)
  clear h hmx hsp hsz
  go_enter Tryz.func14, Tryz.ntmps14
  go_wp2_with (refine wpList_load_row rfl 28 (.tmp 3) rfl _ rfl 28 (fcV f (.slice A n c)).toArray _ _ hk Tryz.underlying28 rfl HZ.out ?_)
  go_at_call 8
  refine (greedyB_impl f A n c s m _ hf hn hm hs HS.out HM.out HP.out).mono ?_
  rintro e w1 ⟨A1, c1, rfl, hb, _⟩
  have hB := below_step hB hb
  clear hb hk
  obtain ⟨xs, hxs⟩ : ∃ xs, xs = (brkOut f (bs s) m).1 := ⟨_, rfl⟩
  obtain ⟨cd, hcd⟩ : ∃ cd, cd = (brkOut f (bs s) m).2 := ⟨_, rfl⟩
  rw [← hxs] at hlen ⊢
  rw [← hcd]
  by_cases h0 : cd = 0
  · have HO := Lib.hid (fewOut_ok (f := f) (l := bs s) (m := m) (by rw [← hcd]; exact h0))
    have HX := Lib.hid hxs
    subst h0
    clear hcd hxs
    go_wp2_with (go_at_call 37; refine (size64_any _ _ _ _).mono ?_; rintro e w2 ⟨rfl, rfl⟩)
    go_ret2
    exact ⟨retP (p := ((xs.length : Int) + 1, 0)) (by rw [HO.out, HX.out]), hB⟩
  · have HO := Lib.hid (fewOut_no (f := f) (l := bs s) (m := m) (by rw [← hcd]; exact h0))
    have HC := Lib.hid hcd
    clear hcd hxs
    go_wp2
    go_ret2
    exact ⟨retP (p := (0, cd)) (by rw [HO.out, HC.out]), hB⟩

set_option maxHeartbeats 1000000 in
set_option maxRecDepth 100000 in
theorem fewest_spec (f : Fc) (A : Option Addr) (n c : Nat) (s : ByteArray) (m : Int) (w : World) (hf : FcT f) (hn : f.pairs.length = n) (hm : n ≤ 1048576) (hs : s.size ≤ 1048576) (h : SlP w A f.pairs) :
    Calls Tryz.prog 15 #[.agg (fcV f (.slice A n c)).toArray, .string s, .int .i64 m] w fun e w' => e = .returned (.tuple #[.int .i64 (fewOut f (bs s) m).1, .int .i64 (fewOut f (bs s) m).2]) ∧ Below w.heap.size w w' := by
  have hB := below_one w (.cells (fcV f (.slice A n c)).toArray 28)
  have hk := Blk.new w 28 (fcV f (.slice A n c))
  have hfa : FcAt (w.alloc (.cells (fcV f (.slice A n c)).toArray 28)) w.heap.size f n := ⟨A, c, hk, h.next hB⟩
  have HF := Lib.hid hf
  have HN := Lib.hid hn
  have HA := Lib.hid hfa
  have HBC := Lib.hid (brk_code f (bs s) m)
  have hlen := brkOut_many f (bs s) m
  clear hf hn h hfa hk
  obtain ⟨cd, hcd⟩ : ∃ cd, cd = fndC f (bs s) m := ⟨_, rfl⟩
  have HC := Lib.hid hcd
  by_cases h0 : cd = 0
  · obtain ⟨hv, ht, hm0, hm1, hfit⟩ := fndC_zero (hcd.symm.trans h0)
    have HVV := Lib.hid (validF_iff.1 hv)
    have HW := Lib.hid (ws_words ht)
    have hok := brkOut_ok (f := f) (l := bs s) (m := m) (by rw [askC_ok hv ht, inB_true ⟨hm0, hm1⟩]; rfl) hfit
    rw [hok] at hlen
    have HO := Lib.hid (fewOut_ok (f := f) (l := bs s) (m := m) (by rw [hok]))
    have HOK := Lib.hid hok
    have H1 := Lib.hid (grd_first hm0 hfit)
    subst h0
    clear hv ht hcd hfit hok
    dsimp only at hlen
    go_enter Tryz.func15, Tryz.ntmps15
    go_wp2_with (first
      | (go_at_call 31; refine (found_spec f n w.heap.size s m _ HF.out HN.out hm hs HA.out).mono ?_; rintro e w1 ⟨he, hb⟩; rw [← HC.out] at he; subst he; have hb1 := hb; clear hb)
      | (go_at_call 33; refine (words_spec s _ hs).mono ?_; rintro e w2 ⟨A1, c1, rfl, hc1, hb2, hsl, hA1⟩)
      | (go_at_call 32; refine (greedy_spec f n w.heap.size A1 c1 (words (bs s)) m _ HF.out HVV.out HN.out hm HW.out ((HA.out.next hb1).next hb2) hsl hA1 hc1 H1.out).mono ?_; rintro e w3 ⟨A3, c3, rfl, hb3, ho3⟩))
    go_ret2
    exact ⟨retP (p := (((grd f (words (bs s)) m (words (bs s)).length).1.length : Int) + 1, 0)) (by rw [HO.out, HOK.out]), below_step (below_step (below_step hB hb1) hb2) hb3⟩
  · have HO := Lib.hid (fewOut_no (f := f) (l := bs s) (m := m) (by rw [HBC.out, ← hcd]; exact h0))
    clear hcd
    go_enter Tryz.func15, Tryz.ntmps15
    go_wp2_with (go_at_call 31; refine (found_spec f n w.heap.size s m _ HF.out HN.out hm hs HA.out).mono ?_; rintro e w1 ⟨he, hb⟩; rw [← HC.out] at he; subst he; have hB := below_step hB hb; clear hb)
    go_ret2
    exact ⟨retP (p := (0, cd)) (by rw [HO.out, HBC.out, ← HC.out]), hB⟩
end Go.Proofs.YtdhngjjfoddnkaaGreatDoor
