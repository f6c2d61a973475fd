/- Contracts: sheets for all letters of a text, by the program: to the last sheet or the next, to the first with room. -/
import Derived.Test.YtonnplaacebekaaDoorShT
import Derived.Test.YtonnplaacebekaaDoorGH
namespace Go.Proofs.YtonnplaacebekaaDoor
open Go Go.RowKit Go.Shelf
set_option linter.unusedVariables false
set_option linter.unusedSimpArgs false

def shsR (fr : Nat → Nat) (f : Fc) (s : Sh) (l : List UInt8) : List Int × Int × Int :=
  if (cutR f s l 60).2 = 0 then ((shs fr s.wide (cutR f s l 60).1 (cutR f s l 60).1.length).1, ((shs fr s.wide (cutR f s l 60).1 (cutR f s l 60).1.length).2.length : Int), 0)
  else ([], 0, (cutR f s l 60).2)
theorem firstR_shs (f : Fc) (s : Sh) (l : List UInt8) : firstR f s l = shsR (fun _ => 0) f s l := rfl
theorem nextR_shs (f : Fc) (s : Sh) (l : List UInt8) : nextR f s l = shsR (fun m => m - 1) f s l := by
  unfold nextR shsR
  by_cases h : (cutR f s l 60).2 = 0
  · rw [if_pos h, if_pos h]
    obtain ⟨_, hp, _⟩ := cutR_zero h
    obtain ⟨e1, e2, _, _⟩ := shs_nxt hp _ (Nat.le_refl _)
    rw [e1, e2]
  · rw [if_neg h, if_neg h]
theorem pcs_long {f : Fc} {s : Sh} {l : List UInt8} (h : vText l = true) : ¬ (60 : Int) < ((pcs f s.over (lets l)).length : Int) := by
  rw [pcs_length]
  have := lets_length l
  have := (vText_iff.1 h).2
  omega
theorem shsR_bad {fr : Nat → Nat} {f : Fc} {s : Sh} {l : List UInt8} (h : ¬ shC f s l = 0) : shsR fr f s l = ([], 0, shC f s l) := by
  unfold shsR
  rw [cutR_bad h, if_neg h]
theorem shsR_wide {fr : Nat → Nat} {f : Fc} {s : Sh} {l : List UInt8} (h : shC f s l = 0) (hw : ((pcs f s.over (lets l)).any fun x => decide (s.wide < x)) = true) : shsR fr f s l = ([], 0, 6) := by
  have ht := (shC_zero h).2.2
  rw [List.any_eq_true] at hw
  obtain ⟨x, hx, hlt⟩ := hw
  obtain ⟨j, hj, e⟩ := List.getElem_of_mem hx
  have hlt := of_decide_eq_true hlt
  have e2 : rdI (pcs f s.over (lets l)) j = x := by unfold rdI; rw [List.getD, List.getElem?_eq_getElem hj, e]; rfl
  unfold shsR
  rw [cutR_wide h (pcs_long ht) hj (by omega)]
  rfl
theorem shsR_ok {fr : Nat → Nat} {f : Fc} {s : Sh} {l : List UInt8} (h : shC f s l = 0) (hw : ((pcs f s.over (lets l)).any fun x => decide (s.wide < x)) = false) :
    shsR fr f s l = ((shs fr s.wide (pcs f s.over (lets l)) (pcs f s.over (lets l)).length).1, ((shs fr s.wide (pcs f s.over (lets l)) (pcs f s.over (lets l)).length).2.length : Int), 0) ∧ (∀ j, j < (pcs f s.over (lets l)).length → 1 ≤ rdI (pcs f s.over (lets l)) j ∧ rdI (pcs f s.over (lets l)) j ≤ s.wide) ∧ (pcs f s.over (lets l)).length ≤ 60 ∧ 1 ≤ s.wide ∧ s.wide ≤ 400 := by
  obtain ⟨hv, hk, ht⟩ := shC_zero h
  have h1 := any_rdI.1 hw
  have h2 : ∀ j, j < (pcs f s.over (lets l)).length → rdI (pcs f s.over (lets l)) j ≤ s.wide := fun j hj => by
    have := of_decide_eq_false (h1 j hj); omega
  have hl := pcs_long (f := f) (s := s) ht
  obtain ⟨k1, k2⟩ := shOk_iff.1 hk
  refine ⟨?_, fun j hj => ⟨(pcs_range (validF_iff.1 hv) k2 (lets_ll (vText_ls ht)) (by rwa [pcs_length] at hj)).1, h2 j hj⟩, by omega, k1⟩
  unfold shsR
  rw [cutR_ok h hl h2, if_pos rfl]

set_option maxHeartbeats 2000000 in
set_option maxRecDepth 100000 in
theorem sheets_impl (g : Nat) (eg : ∀ args w, (callFunc g args).run Tryd.prog w = .ok (.enter g args) w) (fr : Nat → Nat) (hfr : ∀ m, fr m ≤ m) (hF : FromI g fr) (f : Fc) (A : Option Addr) (n c : Nat) (sh : Sh) (s : ByteArray) (w : World) (hf : FcT f) (hn : f.pairs.length = n) (hm : n ≤ 1048576) (hs : s.size ≤ 1048576) (hsh : ShT sh) (h : SlP w A f.pairs) (hmx : MaxW w) :
    Calls Tryd.prog 44 #[.agg (fcV f (.slice A n c)).toArray, .agg (shV sh).toArray, .string s, .func (.func g) #[] #[]] w (ShOut w (shsR fr f sh (bs s))) := by
  have hB := below_two w (.cells (fcV f (.slice A n c)).toArray 36) (.cells (shV sh).toArray 38)
  have hb1 := below_one (w.alloc (.cells (fcV f (.slice A n c)).toArray 36)) (.cells (shV sh).toArray 38)
  have hkf := (Blk.new w 36 (fcV f (.slice A n c))).next hb1
  have hsb := Blk.new (w.alloc (.cells (fcV f (.slice A n c)).toArray 36)) 38 (shV sh)
  rw [World.size_alloc] at hsb
  have hsl := h.next hB
  have hmx := hmx.next hB
  have HF := Lib.hid hf
  have HN := Lib.hid hn
  have HS := Lib.hid hsl
  have HM := Lib.hid hmx
  have HSH := Lib.hid hsh
  have HKF := Lib.hid hkf
  have HSB := Lib.hid hsb
  have hsz : (fcV f (.slice A n c)).toArray.size = 29 := by simp [fcV_length hf]
  have HZ := Lib.hid (show (Tryd.prog.info? 36).map (·.size) = some (fcV f (.slice A n c)).toArray.size by rw [hsz]; exact szFcI)
  have HZ2 := Lib.hid (show (Tryd.prog.info? 38).map (·.size) = some (shV sh).toArray.size from szSh)
  clear hf hn h hmx hsl hsz hsb hb1 hsh
  obtain ⟨cd, hcd⟩ : ∃ cd, cd = shC f sh (bs s) := ⟨_, rfl⟩
  have HC := Lib.hid hcd
  have c0 := HSB.out.cell 0 (.int .i16 sh.wide) rfl
  have c1 := HSB.out.cell 1 (.int .i8 sh.over) rfl
  by_cases h0 : cd = 0
  · have hz := hcd.symm.trans h0
    obtain ⟨hv, hk, ht⟩ := shC_zero hz
    have HVV := Lib.hid (validF_iff.1 hv)
    have HK := Lib.hid hk
    have HT := Lib.hid ht
    have HZZ := Lib.hid hz
    subst h0
    clear hv hk ht hcd hz
    obtain ⟨D, hD⟩ : ∃ D, D = pcs f sh.over (lets (bs s)) := ⟨_, rfl⟩
    have HDD := Lib.hid hD
    have hDl : D.length ≤ 1048576 := by
      have := lets_length (bs s)
      rw [bs_length] at this
      rw [hD, pcs_length]; omega
    clear hD
    cases hany : D.any fun x => decide (sh.wide < x)
    · have HO := Lib.hid (shsR_ok (fr := fr) HZZ.out (by rw [← HDD.out]; exact hany))
      rw [HO.out.1, ← HDD.out]
      have HANY := Lib.hid hany
      have HEG := Lib.hid eg
      have HFR := Lib.hid hfr
      have HFF := Lib.hid hF
      clear hany eg hfr hF
      go_enter Tryd.func44, Tryd.ntmps44
      go_wp2_with (first
        | (refine wpList_load_row rfl 36 (.tmp 4) rfl _ rfl 36 (fcV f (.slice A n c)).toArray _ _ hkf Tryd.underlying36 rfl HZ.out ?_)
        | (go_at_call 53; refine (sheetCode_any f A n c sh s _ HF.out HN.out hm hs HSH.out HS.out HM.out).mono ?_; rintro e w1 ⟨he, hb⟩; rw [← HC.out] at he; subst he; have hbel := hb; have hkf := HKF.out.next hbel; have hsb1 := HSB.out.next hbel; have c0 := hsb1.cell 0 (.int .i16 sh.wide) rfl; have c1 := hsb1.cell 1 (.int .i8 sh.over) rfl; clear hb hsb1)
        | (go_at_call 55; refine (pieces_impl f A n c sh s _ HF.out HVV.out hs HT.out HK.out (HM.out.next hbel)).mono ?_; rw [← HDD.out]; rintro e w2 ⟨A2, c2, rfl, hb, ho⟩; have hbel := below_step hbel hb; have hsb1 := HSB.out.next hbel; have c0 := hsb1.cell 0 (.int .i16 sh.wide) rfl; have c1 := hsb1.cell 1 (.int .i8 sh.over) rfl; clear hb hsb1)
        | (go_at_call 57; refine (possible_any sh A2 D.length c2 D _ HSH.out rfl hDl ho.sl).mono ?_; rintro e w3 ⟨rfl, hb⟩; have hbel := below_step hbel hb; have ho := ho.next hb; have hhi := hb.size; have hsb1 := HSB.out.next hbel; have c0 := hsb1.cell 0 (.int .i16 sh.wide) rfl; have c1 := hsb1.cell 1 (.int .i8 sh.over) rfl; rw [HANY.out]; clear hb hsb1)
        | (go_at_call 74; refine (sheetsWith_any g HEG.out fr HFR.out HFF.out sh A2 D.length c2 D _ _ w3 HSH.out HO.out.2.2.2 (by rw [HDD.out]; exact HO.out.2.1) rfl (by rw [HDD.out]; exact HO.out.2.2.1) ho hhi).mono ?_; rintro e w4 ⟨A4, c4, B4, d4, rfl, hb, o1, o2⟩; have hbel4 := below_step hbel hb; have hz4 := hbel.size; clear hb)
        | (go_at_call 75; refine (size64_any _ _ _ _).mono ?_; rintro e w5 ⟨rfl, rfl⟩))
      go_ret3
      exact ⟨_, _, rfl, below_step hB hbel4, o1.low (Nat.le_trans hB.size hz4)⟩
    · have HO := Lib.hid (shsR_wide (fr := fr) HZZ.out (by rw [← HDD.out]; exact hany))
      rw [HO.out]
      have HANY := Lib.hid hany
      clear hany
      go_enter Tryd.func44, Tryd.ntmps44
      go_wp2_with (first
        | (refine wpList_load_row rfl 36 (.tmp 4) rfl _ rfl 36 (fcV f (.slice A n c)).toArray _ _ hkf Tryd.underlying36 rfl HZ.out ?_)
        | (go_at_call 53; refine (sheetCode_any f A n c sh s _ HF.out HN.out hm hs HSH.out HS.out HM.out).mono ?_; rintro e w1 ⟨he, hb⟩; rw [← HC.out] at he; subst he; have hbel := hb; have hkf := HKF.out.next hbel; have hsb1 := HSB.out.next hbel; have c0 := hsb1.cell 0 (.int .i16 sh.wide) rfl; have c1 := hsb1.cell 1 (.int .i8 sh.over) rfl; clear hb hsb1)
        | (go_at_call 55; refine (pieces_impl f A n c sh s _ HF.out HVV.out hs HT.out HK.out (HM.out.next hbel)).mono ?_; rw [← HDD.out]; rintro e w2 ⟨A2, c2, rfl, hb, ho⟩; have hbel := below_step hbel hb; have hsb1 := HSB.out.next hbel; have c0 := hsb1.cell 0 (.int .i16 sh.wide) rfl; have c1 := hsb1.cell 1 (.int .i8 sh.over) rfl; clear hb hsb1)
        | (go_at_call 57; refine (possible_any sh A2 D.length c2 D _ HSH.out rfl hDl ho.sl).mono ?_; rintro e w3 ⟨rfl, hb⟩; have hbel := below_step hbel hb; rw [HANY.out]; clear hb))
      go_ret3
      exact ⟨_, _, rfl, below_step hB hbel, OwnS.nil⟩
  · have HO := Lib.hid (shsR_bad (fr := fr) (fun h => h0 (hcd.trans h)))
    rw [HO.out, ← HC.out]
    clear hcd
    go_enter Tryd.func44, Tryd.ntmps44
    go_wp2_with (first
      | (refine wpList_load_row rfl 36 (.tmp 4) rfl _ rfl 36 (fcV f (.slice A n c)).toArray _ _ hkf Tryd.underlying36 rfl HZ.out ?_)
      | (go_at_call 53; refine (sheetCode_any f A n c sh s _ HF.out HN.out hm hs HSH.out HS.out HM.out).mono ?_; rintro e w1 ⟨he, hb⟩; rw [← HC.out] at he; subst he; have hbel := hb; clear hb))
    go_ret3
    exact ⟨_, _, rfl, below_step hB hbel, OwnS.nil⟩

set_option maxRecDepth 100000 in
theorem nextFrom : FromI 45 (fun m => m - 1) := fun W m hm => by
  go_enter Tryd.func45, Tryd.ntmps45
  go_wp2
  go_ret
  exact ⟨retI (by omega), Below.refl _ _⟩
set_option maxRecDepth 100000 in
theorem firstFrom : FromI 49 (fun _ => 0) := fun W m hm => by
  go_enter Tryd.func49, Tryd.ntmps49
  go_wp2
  go_ret
  exact ⟨rfl, Below.refl _ _⟩
set_option maxHeartbeats 1000000 in
set_option maxRecDepth 100000 in
theorem next_impl (f : Fc) (A : Option Addr) (n c : Nat) (sh : Sh) (s : ByteArray) (w : World) (hf : FcT f) (hn : f.pairs.length = n) (hm : n ≤ 1048576) (hs : s.size ≤ 1048576) (hsh : ShT sh) (h : SlP w A f.pairs) (hmx : MaxW w) :
    Calls Tryd.prog 14 #[.agg (fcV f (.slice A n c)).toArray, .agg (shV sh).toArray, .string s] w (ShOut w (nextR f sh (bs s))) := by
  have eg : ∀ args w, (callFunc 45 args).run Tryd.prog w = .ok (.enter 45 args) w := enters_of Tryd.func45 (by kernel_rfl) rfl
  have HEG := Lib.hid eg
  clear eg
  have hB := below_two w (.cells (fcV f (.slice A n c)).toArray 36) (.cells (shV sh).toArray 38)
  have hb1 := below_one (w.alloc (.cells (fcV f (.slice A n c)).toArray 36)) (.cells (shV sh).toArray 38)
  have hkf := (Blk.new w 36 (fcV f (.slice A n c))).next hb1
  have hsb := Blk.new (w.alloc (.cells (fcV f (.slice A n c)).toArray 36)) 38 (shV sh)
  rw [World.size_alloc] at hsb
  have hsl := h.next hB
  have hmx := hmx.next hB
  have HF := Lib.hid hf
  have HN := Lib.hid hn
  have HS := Lib.hid hsl
  have HM := Lib.hid hmx
  have HSH := Lib.hid hsh
  have HKF := Lib.hid hkf
  have HSB := Lib.hid hsb
  have hsz : (fcV f (.slice A n c)).toArray.size = 29 := by simp [fcV_length hf]
  have HZ := Lib.hid (show (Tryd.prog.info? 36).map (·.size) = some (fcV f (.slice A n c)).toArray.size by rw [hsz]; exact szFcI)
  have HZ2 := Lib.hid (show (Tryd.prog.info? 38).map (·.size) = some (shV sh).toArray.size from szSh)
  clear hf hn h hmx hsl hsz hsb hb1 hsh
  have c0 := HSB.out.cell 0 (.int .i16 sh.wide) rfl
  have c1 := HSB.out.cell 1 (.int .i8 sh.over) rfl
  rw [nextR_shs]
  go_enter Tryd.func14, Tryd.ntmps14
  go_wp2_with (first
    | (refine wpList_load_row rfl 36 (.tmp 3) rfl _ rfl 36 (fcV f (.slice A n c)).toArray _ _ hkf Tryd.underlying36 rfl HZ.out ?_)
    | (go_at_call 44; refine (sheets_impl _ HEG.out _ (fun m => by omega) nextFrom f A n c sh s _ HF.out HN.out hm hs HSH.out HS.out HM.out).mono ?_; rintro e w1 ⟨A1, c1, rfl, hb, ho⟩))
  go_ret3
  exact ⟨_, _, rfl, below_step hB hb, ho.low hB.size⟩
set_option maxHeartbeats 1000000 in
set_option maxRecDepth 100000 in
theorem first_impl (f : Fc) (A : Option Addr) (n c : Nat) (sh : Sh) (s : ByteArray) (w : World) (hf : FcT f) (hn : f.pairs.length = n) (hm : n ≤ 1048576) (hs : s.size ≤ 1048576) (hsh : ShT sh) (h : SlP w A f.pairs) (hmx : MaxW w) :
    Calls Tryd.prog 21 #[.agg (fcV f (.slice A n c)).toArray, .agg (shV sh).toArray, .string s] w (ShOut w (firstR f sh (bs s))) := by
  have eg : ∀ args w, (callFunc 49 args).run Tryd.prog w = .ok (.enter 49 args) w := enters_of Tryd.func49 (by kernel_rfl) rfl
  have HEG := Lib.hid eg
  clear eg
  have hB := below_two w (.cells (fcV f (.slice A n c)).toArray 36) (.cells (shV sh).toArray 38)
  have hb1 := below_one (w.alloc (.cells (fcV f (.slice A n c)).toArray 36)) (.cells (shV sh).toArray 38)
  have hkf := (Blk.new w 36 (fcV f (.slice A n c))).next hb1
  have hsb := Blk.new (w.alloc (.cells (fcV f (.slice A n c)).toArray 36)) 38 (shV sh)
  rw [World.size_alloc] at hsb
  have hsl := h.next hB
  have hmx := hmx.next hB
  have HF := Lib.hid hf
  have HN := Lib.hid hn
  have HS := Lib.hid hsl
  have HM := Lib.hid hmx
  have HSH := Lib.hid hsh
  have HKF := Lib.hid hkf
  have HSB := Lib.hid hsb
  have hsz : (fcV f (.slice A n c)).toArray.size = 29 := by simp [fcV_length hf]
  have HZ := Lib.hid (show (Tryd.prog.info? 36).map (·.size) = some (fcV f (.slice A n c)).toArray.size by rw [hsz]; exact szFcI)
  have HZ2 := Lib.hid (show (Tryd.prog.info? 38).map (·.size) = some (shV sh).toArray.size from szSh)
  clear hf hn h hmx hsl hsz hsb hb1 hsh
  have c0 := HSB.out.cell 0 (.int .i16 sh.wide) rfl
  have c1 := HSB.out.cell 1 (.int .i8 sh.over) rfl
  rw [firstR_shs]
  go_enter Tryd.func21, Tryd.ntmps21
  go_wp2_with (first
    | (refine wpList_load_row rfl 36 (.tmp 3) rfl _ rfl 36 (fcV f (.slice A n c)).toArray _ _ hkf Tryd.underlying36 rfl HZ.out ?_)
    | (go_at_call 44; refine (sheets_impl _ HEG.out _ (fun m => by omega) firstFrom f A n c sh s _ HF.out HN.out hm hs HSH.out HS.out HM.out).mono ?_; rintro e w1 ⟨A1, c1, rfl, hb, ho⟩))
  go_ret3
  exact ⟨_, _, rfl, below_step hB hb, ho.low hB.size⟩
end Go.Proofs.YtonnplaacebekaaDoor
