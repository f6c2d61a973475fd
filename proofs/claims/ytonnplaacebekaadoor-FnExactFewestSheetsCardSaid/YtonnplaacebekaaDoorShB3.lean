/- Contracts: the fewest sheets, by the reference, by the program. -/
import Derived.Test.YtonnplaacebekaaDoorShK
import Derived.Test.YtonnplaacebekaaDoorShB2
import Derived.Test.YtonnplaacebekaaDoorShU
import Derived.Test.YtonnplaacebekaaDoorShQ


namespace Go.Proofs.YtonnplaacebekaaDoor
open Go Go.RowKit Go.Shelf
set_option linter.unusedVariables false
set_option linter.unusedSimpArgs false

theorem onto_spec (ps : List Int) (hps : ps.length ≤ 9) (Ap : Option Addr) (cp : Nat) (sh : Sh) (hsh : ShT sh) (hw : 1 ≤ sh.wide ∧ sh.wide ≤ 400) (hp : ∀ k, k < ps.length → 1 ≤ rdI ps k ∧ rdI ps k ≤ sh.wide) (most lo : Nat) (hmost : most ≤ 9) : ∀ rest, OnSpec ps Ap cp sh most lo rest
  | [] => onto_nil ps hps Ap cp sh most lo hmost
  | p :: rest => onto_cons ps hps Ap cp sh hsh hw hp most lo hmost p rest (onto_spec ps hps Ap cp sh hsh hw hp most lo hmost rest)
theorem below_grown {B bq : Nat} {w0 w w' : World} (hb : Below B w0 w) (h : w.grownBy w' (some bq)) (hq : B ≤ bq) (hB : B ≤ w.heap.size) : Below B w0 w' :=
  hb.trans ⟨h.os, h.tape, h.output, by obtain ⟨_, _, _, hs, _⟩ := h; omega, fun k hk => h.block k (by omega) (by intro e; injection e with e; omega)⟩
theorem fewR_len (f : Fc) (s : Sh) (l : List UInt8) : (fewR f s l).1.length ≤ 1048576 := by
  unfold fewR
  split
  · rename_i h
    obtain ⟨_, _, hl⟩ := cutR_zero h
    have key : ∀ (ps lf path : List Int) (x : List Int × Nat), x ∈ lvs s.wide ps lf path → x.1.length = path.length + ps.length := by
      intro ps
      induction ps with
      | nil => intro lf path x hx; rw [lvs, List.mem_singleton] at hx; subst hx; simp
      | cons p ps ih =>
        intro lf path x hx
        rw [lvs, List.mem_flatMap] at hx
        obtain ⟨k, _, hx⟩ := hx
        split at hx
        · have := ih _ _ x hx
          rw [List.length_append, List.length_singleton] at this
          rw [List.length_cons]; omega
        · cases hx
    have key2 : ∀ (L : List (List Int × Nat)) (st : Sst), st.best.length ≤ 9 → (∀ x ∈ L, x.1.length ≤ 9) → (L.foldl stp st).best.length ≤ 9 := by
      intro L
      induction L with
      | nil => intro st h1 _; exact h1
      | cons x L ih =>
        intro st h1 h2
        rw [List.foldl_cons]
        refine ih _ ?_ (fun y hy => h2 y (by simp [hy]))
        unfold stp
        split
        · exact h1
        · exact h2 x (by simp)
    have := key2 (lvs s.wide (cutR f s l 9).1 [] []) ⟨[], 0, false⟩ (Nat.zero_le _) (fun x hx => by
      have := key _ _ _ x hx
      rw [List.length_nil] at this
      omega)
    simp only; omega
  · exact Nat.zero_le _

attribute [local irreducible] wpAnyH in
set_option maxHeartbeats 4000000 in
set_option maxRecDepth 100000 in
theorem few_spec (f : Fc) (A : Option Addr) (n c : Nat) (sh : Sh) (s : ByteArray) (w : World) (hf : FcT f) (hn : f.pairs.length = n) (hm : n ≤ 1048576) (hs : s.size ≤ 1048576) (hsh : ShT sh) (h : SlP w A f.pairs) :
    Calls Tryd.prog 27 #[.agg (fcV f (.slice A n c)).toArray, .agg (shV sh).toArray, .string s] w (ShOut w (fewR f sh (bs s))) := by
  have hB := below_two w (.cells (fcV f (.slice A n c)).toArray 36) (.cells (shV sh).toArray 38)
  have hk := Blk.new w 36 (fcV f (.slice A n c))
  have hb1 := below_one (w.alloc (.cells (fcV f (.slice A n c)).toArray 36)) (.cells (shV sh).toArray 38)
  have hsb := Blk.new (w.alloc (.cells (fcV f (.slice A n c)).toArray 36)) 38 (shV sh)
  have hfa : FcAt ((w.alloc (.cells (fcV f (.slice A n c)).toArray 36)).alloc (.cells (shV sh).toArray 38)) w.heap.size f n := ⟨A, c, hk.next hb1, h.next hB⟩
  rw [World.size_alloc] at hsb
  have HF := Lib.hid hf
  have HN := Lib.hid hn
  have HA := Lib.hid hfa
  have HB := Lib.hid hsb
  have HS := Lib.hid hsh
  have HBB := Lib.hid hB
  have hwr := hsh.wide
  have hsz0 := hB.size
  clear hf hn h hfa hk hb1 hsb hsh hB
  by_cases h0 : (cutR f sh (bs s) 9).2 = 0
  · obtain ⟨hw, hp, hl⟩ := cutR_zero h0
    have HO := Lib.hid (show fewR f sh (bs s) = (((lvs sh.wide (cutR f sh (bs s) 9).1 [] []).foldl stp ⟨[], 0, false⟩).best, ((lvs sh.wide (cutR f sh (bs s) 9).1 [] []).foldl stp ⟨[], 0, false⟩).least, 0) by unfold fewR; rw [if_pos h0])
    rw [HO.out]
    clear HO
    have HZ := Lib.hid h0
    clear h0
    generalize hD : (cutR f sh (bs s) 9).1 = D at *
    have HDD := Lib.hid hD
    have HP := Lib.hid hp
    have hcv : IntKind.i64.wrap sh.wide = sh.wide := IntWalk.i64_in _ (by omega)
    clear hD
    go_enter Tryd.func27, Tryd.ntmps27
    go_wp2_with (go_at_call 41; refine (cut_spec f n w.heap.size (w.heap.size + 1) sh s 9 _ HF.out HN.out hm hs HS.out HA.out HB.out).mono ?_; rintro e w1 ⟨A1, c1, rfl, hb1, ho⟩; rw [HZ.out, HDD.out]; rw [HDD.out] at ho; have hcw := (HB.out.next hb1).cell 0 (.int .i16 sh.wide) rfl)
    have hz1 := hb1.size
    have hBQ : Below w1.heap.size w1 ((w1.alloc (.cells (srV A1 D.length c1 sh.wide none 0 ⟨[], 0, false⟩).toArray 83)).alloc (.cells #[] 2)) := below_two w1 _ _
    have hkq : Blk ((w1.alloc (.cells (srV A1 D.length c1 sh.wide none 0 ⟨[], 0, false⟩).toArray 83)).alloc (.cells #[] 2)) w1.heap.size 83 (srV A1 D.length c1 sh.wide none 0 ⟨[], 0, false⟩) := (Blk.new w1 _ _).alloc _
    have hcall := from_spec D (by omega) A1 c1 sh.wide hw HP.out w1.heap.size (w1.heap.size + 1) _ w1.heap.size (Nat.lt_succ_self _) (.inr (Nat.le_refl _)) D [] (List.replicate 9 0) 0 [] ⟨w1.heap.size + 1, 0, none⟩ 0 ⟨[], 0, false⟩ _ rfl rfl (Nat.zero_le _) rfl (fun i hi => absurd hi (Nat.not_lt_zero _)) ⟨none, 0, hkq, OwnS.nil⟩ (by simp) (ho.next hBQ) SlE.nil (by show w1.heap.size + 1 ≠ w1.heap.size; omega) (by simp)
    have hBw := below_step (below_step HBB.out hb1) hBQ
    have hsQ : ((w1.alloc (.cells (srV A1 D.length c1 sh.wide none 0 ⟨[], 0, false⟩).toArray 83)).alloc (.cells #[] 2)).heap.size = w1.heap.size + 1 + 1 := by simp
    clear hkq hBQ ho hcw
    refine hcall.mono ?_
    rintro e w7 ⟨⟨v7, rfl⟩, hg7, Ab, cb, hblk7, ho7⟩
    obtain ⟨F, hF⟩ : ∃ F, F = (lvs sh.wide D [] []).foldl stp ⟨[], 0, false⟩ := ⟨_, rfl⟩
    have hblk8 : Blk w7 w1.heap.size 83 (srV A1 D.length c1 sh.wide Ab cb F) := by rw [hF]; exact hblk7
    have ho8 : OwnS w7 (w1.heap.size + 1) w7.heap.size Ab F.best := by rw [hF]; exact ho7
    have HFE := Lib.hid hF
    clear hblk7 ho7 hF
    have c2 := hblk8.cell 2 (.slice Ab F.best.length cb) rfl
    have c3 := hblk8.cell 3 (.int .i64 F.least) rfl
    have hB7 := below_grown hBw hg7 (by omega) (by omega)
    clear hg7 hblk8 hcall hBw
    go_wp2
    go_region
    go_wp2
    go_ret3
    rw [← HFE.out]
    exact ⟨Ab, cb, rfl, below_drewN hB7 1, (ho8.low (by omega) : OwnS w7 w.heap.size w7.heap.size Ab F.best)⟩
  · have HO := Lib.hid (show fewR f sh (bs s) = ([], 0, (cutR f sh (bs s) 9).2) by unfold fewR; rw [if_neg h0])
    rw [HO.out]
    clear HO
    obtain ⟨cd, hcd⟩ : ∃ cd, cd = (cutR f sh (bs s) 9).2 := ⟨_, rfl⟩
    have HCD := Lib.hid hcd
    rw [← hcd] at h0 ⊢
    clear hcd
    go_enter Tryd.func27, Tryd.ntmps27
    go_wp2_with (go_at_call 41; refine (cut_spec f n w.heap.size (w.heap.size + 1) sh s 9 _ HF.out HN.out hm hs HS.out HA.out HB.out).mono ?_; rintro e w1 ⟨A1, c1, rfl, hb1, ho⟩; rw [← HCD.out])
    go_ret3
    exact ⟨_, _, rfl, (below_step HBB.out hb1).alloc (below_step HBB.out hb1).size _, OwnS.nil⟩

/-- The program's answer, at the first number of sheets that is enough. -/
theorem fewR_bad {f : Fc} {s : Sh} {l : List UInt8} (h : ¬ (cutR f s l 9).2 = 0) : fewR f s l = ([], 0, (cutR f s l 9).2) := by unfold fewR; rw [if_neg h]
theorem fewR_ok {f : Fc} {s : Sh} {l : List UInt8} {D : List Int} {most : Nat} {x : List Int × Nat} (hc : cutR f s l 9 = (D, 0)) (h : fndP most (lvs s.wide D [] []) = some x) (hb : ∀ m, m < most → fndP m (lvs s.wide D [] []) = none) : fewR f s l = (x.1, (most : Int), 0) := by
  unfold fewR
  rw [hc, if_pos rfl, (few_same h hb).2]
set_option maxHeartbeats 4000000 in
set_option maxRecDepth 100000 in
theorem few_impl (f : Fc) (A : Option Addr) (n c : Nat) (sh : Sh) (s : ByteArray) (w : World) (hf : FcT f) (hn : f.pairs.length = n) (hm : n ≤ 1048576) (hs : s.size ≤ 1048576) (hsh : ShT sh) (h : SlP w A f.pairs) (hmx : MaxW w) :
    Calls Tryd.prog 28 #[.agg (fcV f (.slice A n c)).toArray, .agg (shV sh).toArray, .string s] w (ShOut w (fewR f sh (bs s))) := by
  have hB := below_two w (.cells (fcV f (.slice A n c)).toArray 36) (.cells (shV sh).toArray 38)
  have hb1 := below_one (w.alloc (.cells (fcV f (.slice A n c)).toArray 36)) (.cells (shV sh).toArray 38)
  have hkf := (Blk.new w 36 (fcV f (.slice A n c))).next hb1
  have hsb := Blk.new (w.alloc (.cells (fcV f (.slice A n c)).toArray 36)) 38 (shV sh)
  rw [World.size_alloc] at hsb
  have hsl := h.next hB
  have hmx := hmx.next hB
  have HF := Lib.hid hf
  have HN := Lib.hid hn
  have HS := Lib.hid hsl
  have HM := Lib.hid hmx
  have HSH := Lib.hid hsh
  have HKF := Lib.hid hkf
  have HSB := Lib.hid hsb
  have hsz : (fcV f (.slice A n c)).toArray.size = 29 := by simp [fcV_length hf]
  have HZ := Lib.hid (show (Tryd.prog.info? 36).map (·.size) = some (fcV f (.slice A n c)).toArray.size by rw [hsz]; exact szFcI)
  have c0 := hsb.cell 0 (.int .i16 sh.wide) rfl
  have c1 := hsb.cell 1 (.int .i8 sh.over) rfl
  have hBs := hB.size
  clear hf hn h hmx hsl hsz hsb hb1 hsh
  obtain ⟨cd, hcd⟩ : ∃ cd, cd = shC f sh (bs s) := ⟨_, rfl⟩
  have HC := Lib.hid hcd
  by_cases h0 : cd = 0
  · have hz := hcd.symm.trans h0
    obtain ⟨hv, hk, ht⟩ := shC_zero hz
    have HVV := Lib.hid (validF_iff.1 hv)
    have HK := Lib.hid hk
    have HT := Lib.hid ht
    have HZZ := Lib.hid hz
    have hwide := (shOk_iff.1 hk).1
    subst h0
    clear hv hk ht hcd hz
    obtain ⟨D, hD⟩ : ∃ D, D = pcs f sh.over (lets (bs s)) := ⟨_, rfl⟩
    have HDD := Lib.hid hD
    have hDl : D.length ≤ 1048576 := by
      have := lets_length (bs s)
      rw [bs_length] at this
      rw [hD, pcs_length]; omega
    clear hD
    by_cases hlong : (9 : Int) < (D.length : Int)
    · have HO := Lib.hid (show fewR f sh (bs s) = ([], 0, 3) by
        have e := cutR_long (most := 9) HZZ.out (by rw [← HDD.out]; exact hlong)
        have := fewR_bad (f := f) (s := sh) (l := bs s) (by rw [e]; decide)
        rw [e] at this; exact this)
      rw [HO.out]
      go_enter Tryd.func28, Tryd.ntmps28
      go_wp2_with (first
        | (refine wpList_load_row rfl 36 (.tmp 3) rfl _ rfl 36 (fcV f (.slice A n c)).toArray _ _ hkf Tryd.underlying36 rfl HZ.out ?_)
        | (go_at_call 53; refine (sheetCode_any f A n c sh s _ HF.out HN.out hm hs HSH.out HS.out HM.out).mono ?_; rintro e w1 ⟨he, hb⟩; rw [← HC.out] at he; subst he; have hbel := hb; have hkf := HKF.out.next hbel; have hsb1 := HSB.out.next hbel; have c0 := hsb1.cell 0 (.int .i16 sh.wide) rfl; have c1 := hsb1.cell 1 (.int .i8 sh.over) rfl; clear hb hsb1)
        | (go_at_call 55; refine (pieces_impl f A n c sh s _ HF.out HVV.out hs HT.out HK.out (HM.out.next hbel)).mono ?_; rw [← HDD.out]; rintro e w2 ⟨A2, c2, rfl, hb, ho⟩; have hbel := below_step hbel hb))
      go_ret3
      exact ⟨_, _, rfl, below_step hB hbel, OwnS.nil⟩
    · cases hany : D.any fun x => decide (sh.wide < x)
      · have hall := any_rdI.1 hany
        have h2 : ∀ j, j < D.length → rdI D j ≤ sh.wide := fun j hj => by have := of_decide_eq_false (hall j hj); omega
        have HCUT := Lib.hid (show cutR f sh (bs s) 9 = (D, 0) by
          have := cutR_ok (most := 9) HZZ.out (by rw [← HDD.out]; exact hlong) (by rw [← HDD.out]; exact h2)
          rw [← HDD.out] at this; exact this)
        have HP := Lib.hid (show ∀ k, k < D.length → 1 ≤ rdI D k ∧ rdI D k ≤ sh.wide from fun k hk => ⟨by
          have := (pcs_range HVV.out (shOk_iff.1 HK.out).2 (lets_ll (vText_ls HT.out)) (k := k) (by rw [HDD.out, pcs_length] at hk; exact hk)).1
          rw [← HDD.out] at this; exact this, h2 k hk⟩)
        have hD9 : D.length ≤ 9 := by omega
        have HANY := Lib.hid hany
        clear hany hall h2
        go_enter Tryd.func28, Tryd.ntmps28
        go_wp2_with (first
          | (refine wpList_load_row rfl 36 (.tmp 3) rfl _ rfl 36 (fcV f (.slice A n c)).toArray _ _ hkf Tryd.underlying36 rfl HZ.out ?_)
          | (go_at_call 53; refine (sheetCode_any f A n c sh s _ HF.out HN.out hm hs HSH.out HS.out HM.out).mono ?_; rintro e w1 ⟨he, hb⟩; rw [← HC.out] at he; subst he; have hbel := hb; have hkf := HKF.out.next hbel; have hsb1 := HSB.out.next hbel; have c0 := hsb1.cell 0 (.int .i16 sh.wide) rfl; have c1 := hsb1.cell 1 (.int .i8 sh.over) rfl; clear hb hsb1)
          | (go_at_call 55; refine (pieces_impl f A n c sh s _ HF.out HVV.out hs HT.out HK.out (HM.out.next hbel)).mono ?_; rw [← HDD.out]; rintro e w2 ⟨A2, c2, rfl, hb, ho⟩; have hbel := below_step hbel hb; have hsb1 := HSB.out.next hbel; have c0 := hsb1.cell 0 (.int .i16 sh.wide) rfl; have c1 := hsb1.cell 1 (.int .i8 sh.over) rfl; clear hb hsb1)
          | (go_at_call 57; refine (possible_any sh A2 D.length c2 D _ HSH.out rfl hDl ho.sl).mono ?_; rintro e w3 ⟨rfl, hb⟩; have hbel := below_step hbel hb; have ho := ho.next hb; rw [HANY.out]; clear hb c0 c1))
        have hz3 := hbel.size
        have HB3 := Lib.hid hbel
        have HSB3 := Lib.hid (HSB.out.next hbel)
        have HO3 := Lib.hid ho.sl
        clear hbel ho hkf
        go_loopw [11] (fun i wr => ∃ m : Nat, m ≤ D.length ∧ i = .int .i64 m ∧ (∀ m', m' < m → fndP m' (lvs sh.wide D [] []) = none) ∧ Below w3.heap.size w3 wr) (fun i _ => D.length - (intOf i).toNat)
        case atStart => exact ⟨0, Nat.zero_le _, rfl, fun m' h => absurd h (Nat.not_lt_zero _), Below.refl _ _⟩
        case round =>
          obtain ⟨m, hmD, rfl, hall, hbel⟩ := hrel
          have HALL := Lib.hid hall
          have hszr := hbel.size
          have hsb1 := HSB3.out.next hbel
          have c0 := hsb1.cell 0 (.int .i16 sh.wide) rfl
          have c1 := hsb1.cell 1 (.int .i8 sh.over) rfl
          have hcall := onto_spec D hD9 A2 c2 sh HSH.out hwide HP.out m w.heap.size (by omega) D [] [] [] none none 0 0 wr rfl rfl (Nat.zero_le _) (Nat.zero_le _) (fun i hi => absurd hi (Nat.not_lt_zero _)) (by omega) OwnS.nil (HO3.out.next hbel) SlE.nil
          clear hall hsb1
          go_wp2_with fail
          refine hcall.mono ?_
          rintro e w5 ⟨hb5, hno, hyes⟩
          clear hcall c0 c1
          cases hr : fndP m (lvs sh.wide D [] [])
          · obtain rfl := hno hr
            have HR := Lib.hid hr
            have hmlt : m < D.length := by
              by_cases e : m = D.length
              · obtain ⟨x, hx⟩ := few_end sh.wide D
                rw [← e, HR.out] at hx
                cases hx
              · omega
            clear hno hyes hr
            go_wp2
            go_roundw
            case rel =>
              refine ⟨m + 1, by omega, by go_num, fun m' hm' => ?_, below_step hbel hb5⟩
              by_cases e : m' = m
              · subst e; exact HR.out
              · exact HALL.out m' (by omega)
            case measure => simp [intOf]; omega
          · rename_i x
            obtain ⟨A5, c5, rfl, o5⟩ := hyes x hr
            have HO := Lib.hid (fewR_ok HCUT.out hr HALL.out)
            clear hno hyes hr
            go_wp2
            go_ret3
            rw [HO.out]
            exact ⟨A5, c5, rfl, below_step hB (below_step HB3.out (below_step hbel hb5)), o5⟩
      · have HO := Lib.hid (show fewR f sh (bs s) = ([], 0, 6) by
          rw [List.any_eq_true] at hany
          obtain ⟨x, hx, hlt⟩ := hany
          obtain ⟨j, hj, e⟩ := List.getElem_of_mem hx
          have hlt := of_decide_eq_true hlt
          have e2 : rdI D j = x := by unfold rdI; rw [List.getD, List.getElem?_eq_getElem hj, e]; rfl
          have e := cutR_wide (most := 9) (j := j) HZZ.out (by rw [← HDD.out]; exact hlong) (by rw [← HDD.out]; exact hj) (by rw [← HDD.out]; omega)
          have := fewR_bad (f := f) (s := sh) (l := bs s) (by rw [e]; decide)
          rw [e] at this; exact this)
        rw [HO.out]
        have HANY := Lib.hid hany
        clear hany
        go_enter Tryd.func28, Tryd.ntmps28
        go_wp2_with (first
          | (refine wpList_load_row rfl 36 (.tmp 3) rfl _ rfl 36 (fcV f (.slice A n c)).toArray _ _ hkf Tryd.underlying36 rfl HZ.out ?_)
          | (go_at_call 53; refine (sheetCode_any f A n c sh s _ HF.out HN.out hm hs HSH.out HS.out HM.out).mono ?_; rintro e w1 ⟨he, hb⟩; rw [← HC.out] at he; subst he; have hbel := hb; have hkf := HKF.out.next hbel; have hsb1 := HSB.out.next hbel; have c0 := hsb1.cell 0 (.int .i16 sh.wide) rfl; have c1 := hsb1.cell 1 (.int .i8 sh.over) rfl; clear hb hsb1)
          | (go_at_call 55; refine (pieces_impl f A n c sh s _ HF.out HVV.out hs HT.out HK.out (HM.out.next hbel)).mono ?_; rw [← HDD.out]; rintro e w2 ⟨A2, c2, rfl, hb, ho⟩; have hbel := below_step hbel hb; have hsb1 := HSB.out.next hbel; have c0 := hsb1.cell 0 (.int .i16 sh.wide) rfl; have c1 := hsb1.cell 1 (.int .i8 sh.over) rfl; clear hb hsb1)
          | (go_at_call 57; refine (possible_any sh A2 D.length c2 D _ HSH.out rfl hDl ho.sl).mono ?_; rintro e w3 ⟨rfl, hb⟩; have hbel := below_step hbel hb; rw [HANY.out]; clear hb))
        go_ret3
        exact ⟨_, _, rfl, below_step hB hbel, OwnS.nil⟩
  · have HO := Lib.hid (show fewR f sh (bs s) = ([], 0, shC f sh (bs s)) by
      have hne : ¬ shC f sh (bs s) = 0 := fun h => h0 (hcd.trans h)
      have e := cutR_bad (most := 9) hne
      have := fewR_bad (f := f) (s := sh) (l := bs s) (by rw [e]; exact hne)
      rw [e] at this; exact this)
    rw [HO.out, ← HC.out]
    clear hcd
    go_enter Tryd.func28, Tryd.ntmps28
    go_wp2_with (first
      | (refine wpList_load_row rfl 36 (.tmp 3) rfl _ rfl 36 (fcV f (.slice A n c)).toArray _ _ hkf Tryd.underlying36 rfl HZ.out ?_)
      | (go_at_call 53; refine (sheetCode_any f A n c sh s _ HF.out HN.out hm hs HSH.out HS.out HM.out).mono ?_; rintro e w1 ⟨he, hb⟩; rw [← HC.out] at he; subst he; have hbel := hb; clear hb))
    go_ret3
    exact ⟨_, _, rfl, below_step hB hbel, OwnS.nil⟩
end Go.Proofs.YtonnplaacebekaaDoor
