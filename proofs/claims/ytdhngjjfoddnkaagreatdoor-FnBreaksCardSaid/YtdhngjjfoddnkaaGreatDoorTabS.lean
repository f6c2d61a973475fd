/- Contracts: how the words are broken best, by the reference. -/
import Derived.Test.YtdhngjjfoddnkaaGreatDoorTabB
import Derived.Test.YtdhngjjfoddnkaaGreatDoorGJ
namespace Go.Proofs.YtdhngjjfoddnkaaGreatDoor
open Go Go.RowKit
set_option linter.unusedVariables false
set_option linter.unusedSimpArgs false

theorem infoTl : (Tryz.prog.info? 68).map (fun i => (i.zero, i.size, i.bytes)) = some (some (.agg #[.int .i64 0, .slice none 0 0, .int .i64 0]), 3, 40) := by kernel_rfl
theorem szTl : (Tryz.prog.info? 68).map (·.size) = some 3 := by kernel_rfl
theorem one_isi (x y : Int) (A : Option Addr) (n c : Nat) : ([Value.int .i64 x, .slice A n c, .int .i64 y] : List Value).toArray.all (·.oneCell') = true := by simp [Value.oneCell']
structure TsRel (f : Fc) (ws : List (List UInt8)) (m : Int) (w wr : World) (k : Nat) : Prop where
  tab : TabAt wr w.heap.size 68 w.heap.size ws.length (tabS f ws m k)
  below : Below w.heap.size w wr
structure InRel (f : Fc) (ws : List (List UInt8)) (m : Int) (w wr : World) (b1 k j : Nat) : Prop where
  tab : TabAt wr w.heap.size 68 w.heap.size ws.length (tabS f ws m k)
  best : ∃ A c, Blk wr b1 68 (tlV (rowS f ws m (tabS f ws m k) (ws.length - 1 - k) j) A c) ∧ BrkAt wr w.heap.size (rowS f ws m (tabS f ws m k) (ws.length - 1 - k) j) A c
  below : Below w.heap.size w wr
/-- What is handed back. -/
def TsOut (f : Fc) (ws : List (List UInt8)) (m : Int) (w : World) (e : Ending) (w' : World) : Prop :=
  ∃ g, e = .returned (.slice (some ⟨g, 0, none⟩) (ws.length + 1) (ws.length + 1)) ∧ w.heap.size ≤ g ∧ TabAt w' w.heap.size 68 g ws.length (tabS f ws m ws.length) ∧ Below w.heap.size w w'

theorem mixS_take {s o : Tl} (h : s.u < 0 ∨ o.u < s.u ∨ (o.u = s.u ∧ before o.b s.b = true)) : mixS s o = ⟨o.u, o.b, o.c + s.c⟩ := if_pos h
theorem mixS_keep {s o : Tl} (h : ¬ (s.u < 0 ∨ o.u < s.u ∨ (o.u = s.u ∧ before o.b s.b = true))) : mixS s o = ⟨s.u, s.b, o.c + s.c⟩ := if_neg h
set_option maxHeartbeats 4000000 in
set_option maxRecDepth 100000 in
theorem tails_spec (f : Fc) (p b0 : Nat) (A : Option Addr) (c : Nat) (ws : List (List UInt8)) (m : Int) (w : World) (hf : FcT f) (hV : FcV f) (hp : f.pairs.length = p) (hm : p ≤ 1048576) (hw : Ws ws) (hmr : 0 ≤ m ∧ m ≤ 4000) (h : FcAt w b0 f p) (hs : SlE sv w A ws)
    (hA : 0 < ws.length → ∃ g, A = some ⟨g, 0, none⟩) (hc : ws.length ≤ c) :
    Calls Tryz.prog 35 #[.pointer (some ⟨b0, 0, none⟩), .slice A ws.length c, .int .i64 m] w (TsOut f ws m w) := by
  have HF := Lib.hid hf
  have HVV := Lib.hid hV
  have HPP := Lib.hid hp
  have HA := Lib.hid h
  have HW := Lib.hid hw
  have HSL := Lib.hid hs
  have HG := Lib.hid hA
  have hcnt := hw.many
  clear hf hV hp h hw hs hA
  obtain ⟨i, hi, hz, hsz, hby⟩ := info_parts infoTl
  go_enter Tryz.func35, Tryz.ntmps35
  go_wp2_with (refine wpList_make_full _ rfl (.tmp 17) (.tmp 17) _ rfl w.heap.size 68 i (.agg #[.int .i64 0, .slice none 0 0, .int .i64 0]) 3 Tryz.underlying69 hi hz hsz .i64 .i64 ((ws.length + 1 : Nat) : Int) ((ws.length + 1 : Nat) : Int) (ws.length + 1) (by go_num) (by go_num) rfl rfl (by rw [hby]; omega) (by unfold maxLen; omega) (Nat.le_refl _) ?_; intro w1 ho hg)
  obtain ⟨hvl, cs, hb⟩ := ownB ho
  have hB : Below w.heap.size w w1 := ⟨hg.os, hg.tape, hg.output, hg.size, fun k hk => hg.block k hk (by simp)⟩
  have htab := TabAt.made (lo := w.heap.size) hb
  clear ho hg hvl hb hi hz hsz hby
  go_loopw [9] (fun i wr => ∃ k : Nat, k ≤ ws.length ∧ i = .int .i64 ((ws.length : Int) - 1 - k) ∧ TsRel f ws m w wr k) (fun i _ => (intOf i + 1).toNat)
  case atStart => exact ⟨0, by omega, by go_num, htab, hB⟩
  clear htab hB
  case round =>
    obtain ⟨k, hk, rfl, h⟩ := hrel
    by_cases hlt : k < ws.length
    · have htab := h.tab
      have hbel := h.below
      have hsz := hbel.size
      obtain ⟨fr, hfr⟩ : ∃ fr, fr = ws.length - 1 - k := ⟨_, rfl⟩
      have hfi : (ws.length : Int) - 1 - (k : Int) = (fr : Int) := by omega
      rw [hfi]
      have HFR := Lib.hid hfr
      have hfn : fr + 1 + k = ws.length := by omega
      clear h hfr hfi
      go_wp2_with (first
        | (refine wpList_run rfl _ (exec_build 68 _ rfl #[.int .i64 (-1), .slice none 0 0, .int .i64 0] (by kernel_rfl)) ?_)
        | (refine wpList_store_new rfl 68 _ _ rfl #[.int .i64 (-1), .slice none 0 0, .int .i64 0] rfl rfl 68 _ szTl rfl rfl ?_))
      have hb1 := below_one wr (.cells #[.int .i64 (-1), .slice none 0 0, .int .i64 0] 68)
      have hbest : Blk (wr.alloc (.cells #[.int .i64 (-1), .slice none 0 0, .int .i64 0] 68)) wr.heap.size 68 (tlV ⟨-1, [], 0⟩ none 0) := Blk.new wr 68 [.int .i64 (-1), .slice none 0 0, .int .i64 0]
      have htab1 := htab.next hb1
      have hbel1 := below_step hbel hb1
      have hb0 : w.heap.size ≤ wr.heap.size := hsz
      have hgb1 : w.heap.size < wr.heap.size := by obtain ⟨vs, hb, _⟩ := htab; exact hb.lt
      generalize wr.alloc (.cells #[.int .i64 (-1), .slice none 0 0, .int .i64 0] 68) = W1 at *
      clear hb1 htab hbel hsz
      obtain ⟨b1, hb1⟩ : ∃ b1, b1 = wr.heap.size := ⟨_, rfl⟩
      rw [← hb1] at hbest hb0 hgb1 ⊢
      clear hb1
      go_loopw [11] (fun i wi => ∃ j : Nat, j ≤ k + 1 ∧ i = .int .i64 ((fr + 1 + j : Nat) : Int) ∧ InRel f ws m w wi b1 k j) (fun i _ => ws.length + 1 - (intOf i).toNat)
      case atStart => exact ⟨0, by omega, by go_num, htab1, ⟨none, 0, hbest, BrkAt.nil _ _ _ _⟩, hbel1⟩
      clear hbest htab1 hbel1
      case round =>
        obtain ⟨j, hj, rfl, h⟩ := hrel
        obtain ⟨te, hte⟩ : ∃ te, te = fr + 1 + j := ⟨_, rfl⟩
        rw [← hte]
        obtain ⟨R, hR⟩ : ∃ R, R = rowS f ws m (tabS f ws m k) fr j := ⟨_, rfl⟩
        obtain ⟨Ab, cb, hbst, hbk⟩ := h.best
        have htab := h.tab
        have hbel := h.below
        rw [← HFR.out, ← hR] at hbst hbk
        clear h
        have HR := Lib.hid hR
        have hsz := hbel.size
        by_cases hjk : j < k + 1
        · have hp := (part2 HVV.out HW.out hmr.2 hlt (j := j) (by omega)).1
          rw [← HFR.out, ← hR] at hp
          have hbd := partS_bd hp hcnt
          have HP := Lib.hid hp
          have HX := Lib.hid (show rowS f ws m (tabS f ws m k) fr (j + 1) = stS f ws m (tabS f ws m k) fr R te by rw [rowS, ← hR, ← hte])
          have HBD := Lib.hid hbd
          clear hp hbd hR
          obtain ⟨ga, rfl⟩ := HG.out (by omega)
          have hte1 : fr < te := by omega
          have hte2 : te ≤ ws.length := by omega
          have hrg := lnW_range HVV.out HW.out fr te
          have HSC := Lib.hid (show SlE sv wr (some ⟨ga, fr, none⟩) (cutW ws fr te) from by have := slE_cut (HSL.out.next hbel) fr te; rwa [Nat.zero_add] at this)
          have HCL := Lib.hid (cutW_length (ws := ws) (a := fr) (b := te) hte2)
          have HA3 := Lib.hid (HA.out.next hbel)
          have HTE := Lib.hid hte
          clear hte
          by_cases hneg : m - lnW f ws fr te < 0
          · have HFIN := Lib.hid (show rowS f ws m (tabS f ws m k) fr (k + 1) = R by
              have := rowS_stop HVV.out HW.out (T := tabS f ws m k) (m := m) (fr := fr) (j := j) (by rw [← HTE.out]; exact hneg) (k + 1 - j) (by omega)
              rw [show j + (k + 1 - j) = k + 1 by omega] at this
              rw [this, ← HR.out])
            go_wp2_with (first
              | (refine wpList_run rfl _ (exec_slice2 (.tmp 35) (.tmp 36) (.tmp 37) rfl ga ws.length c fr te rfl rfl rfl hte1 (by omega)) ?_)
              | (go_at_call 59; refine (line_specN f p b0 _ _ (cutW ws fr te) (te - fr) _ HF.out HVV.out HPP.out hm (HW.out.cut _ _) HA3.out HSC.out HCL.out).mono ?_; rintro e w3 ⟨he, hb3⟩; change e = .returned (.int .i64 (lnW f ws fr te)) at he; subst he; have htab3 := htab.next hb3; have hbst3 := hbst.next hb3; have hbk3 := hbk.keep (KeepI.of_below hb3); have hbel3 := below_step hbel hb3; obtain ⟨vs, hvs, hvl, hent⟩ := htab3; have hrow := hbst3.rowV 0 3; clear hb3)
              | (refine wpList_loadV rfl 68 (.tmp 10) rfl ⟨b1, 0, none⟩ rfl (tlV R Ab cb) _ hrow Tryz.underlying68 rfl szTl ?_)
              | (refine wpList_store_blk rfl 68 (.tmp 116) (.tmp 115) rfl w.heap.size (fr * 3) rfl (tlV R Ab cb) rfl szTl (one_tl _ _ _) 68 vs hvs (by rw [tlV_length]; omega) _ rfl ?_; intro w4 hst))
            go_roundw
            case rel =>
              have htab4 := TabAt.put hvs hvl hent (i := fr) (by omega) hbk3 (by decide) hst
              rw [← HFIN.out, HFR.out] at htab4
              exact ⟨k + 1, by omega, by first | go_num | (congr 1; omega), htab4, hst.below _ _ hbel3 (Nat.le_refl _)⟩
            case measure => simp [intOf] <;> omega
          · have hsq := lf_sq HVV.out HW.out hmr.2 hneg
            unfold lf at hsq
            have hq : ∀ w3 : World, b1 < w3.heap.size → w.heap.size < b1 → w3.heap.size + 1 ≠ w.heap.size := fun w3 h1 h2 => by omega
            go_wp2_with (refine wpList_run rfl _ (exec_slice2 (.tmp 35) (.tmp 36) (.tmp 37) rfl ga ws.length c fr te rfl rfl rfl hte1 (by omega)) ?_)
            go_at_call 59
            refine (line_specN f p b0 _ _ (cutW ws fr te) (te - fr) _ HF.out HVV.out HPP.out hm (HW.out.cut _ _) HA3.out HSC.out HCL.out).mono ?_
            rintro e w3 ⟨he, hb3⟩
            change e = .returned (.int .i64 (lnW f ws fr te)) at he
            subst he
            have hb4 := below_two w3 (.cells #[] 2) (.cells #[.int .i64 0, .slice (some ⟨w3.heap.size, 0, none⟩) 0 0, .int .i64 1] 68)
            have hO : Blk ((w3.alloc (.cells #[] 2)).alloc (.cells #[.int .i64 0, .slice (some ⟨w3.heap.size, 0, none⟩) 0 0, .int .i64 1] 68)) (w3.heap.size + 1) 68 [.int .i64 0, .slice (some ⟨w3.heap.size, 0, none⟩) 0 0, .int .i64 1] := Blk.at_new _ _ _ (by simp) _ _ rfl
            have hbst3 := hbst.next hb3
            have htab3 := htab.next hb3
            have hbk3 := hbk.keep (KeepI.of_below hb3)
            have hbel3 := below_step hbel hb3
            have hneB : b1 ≠ w3.heap.size + 1 := by have := hbst3.lt; omega
            have hneT : w.heap.size ≠ w3.heap.size + 1 := by have := hbst3.lt; omega
            have htab := (htab.next hb3).next hb4
            have hbk := hbk.keep ((KeepI.of_below hb3).trans (KeepI.of_below hb4))
            have hbel := below_step (below_step hbel hb3) hb4
            have hbst := hbst3.next hb4
            have hleO : w.heap.size ≤ w3.heap.size + 1 := by have := hbst3.lt; omega
            clear hb3 hb4 hq HSC HCL HA3
            by_cases hN : te < ws.length
            · obtain ⟨τ, hτ⟩ : ∃ τ, τ = tabS f ws m k te := ⟨_, rfl⟩
              have hfin := tab2 HVV.out HW.out hmr.2 k (by omega) te (by omega) hN
              rw [← hτ] at hfin
              have hbt := fin2_bd hfin hcnt
              have HTB := Lib.hid hbt
              have HTT := Lib.hid hτ
              obtain ⟨vs, hvs, hvl, hent⟩ := htab3
              obtain ⟨At, ct, e0, e1, e2, hbk0⟩ := hent te (by omega)
              rw [← hτ] at e0 e1 e2 hbk0
              have hb4 := below_two w3 (.cells #[] 2) (.cells #[.int .i64 0, .slice (some ⟨w3.heap.size, 0, none⟩) 0 0, .int .i64 1] 68)
              have c0 := (hvs.next hb4).cell _ _ e0
              have t0 := HTB.out.u0
              have t1 := HTB.out.u1
              have t2 := HTB.out.c0
              have t3 := HTB.out.c1
              clear hb4 hτ hfin hbt
              by_cases hu : τ.u < 0
              · have HX2 := Lib.hid (show rowS f ws m (tabS f ws m k) fr (j + 1) = R by rw [HX.out, stS, if_neg (show ¬ lf f ws m fr te < 0 by unfold lf; omega), if_pos hN, ← HTT.out, if_pos hu])
                clear hent hvs
                go_wp2_with (refine wpList_run rfl _ (exec_build 68 _ rfl #[.int .i64 0, .slice (some ⟨w3.heap.size, 0, none⟩) 0 0, .int .i64 1] (by kernel_rfl)) ?_)
                go_roundw
                case rel =>
                  refine ⟨j + 1, by omega, by rw [show fr + 1 + (j + 1) = te + 1 by have := HTE.out; omega]; go_num, htab, ⟨Ab, cb, ?_, ?_⟩, hbel⟩
                  · rw [← HFR.out, HX2.out]; exact hbst
                  · rw [← HFR.out, HX2.out]; exact hbk
                case measure => simp [intOf]; omega
              · obtain ⟨ol, hol⟩ : ∃ ol, ol = ((te : Int) :: τ.b) := ⟨_, rfl⟩
                have HX2 := Lib.hid (show rowS f ws m (tabS f ws m k) fr (j + 1) = mixS R ⟨((m - lnW f ws fr te) * (m - lnW f ws fr te) + τ.u), ol, τ.c⟩ by rw [HX.out, stS, if_neg (show ¬ lf f ws m fr te < 0 by unfold lf; omega), if_pos hN, ← HTT.out, if_neg hu, hol, HTT.out]; rfl)
                have hb4 := below_two w3 (.cells #[] 2) (.cells #[.int .i64 ((m - lnW f ws fr te) * (m - lnW f ws fr te) + τ.u), .slice (some ⟨w3.heap.size, 0, none⟩) 0 0, .int .i64 1] 68)
                have hO4 : Blk ((w3.alloc (.cells #[] 2)).alloc (.cells #[.int .i64 ((m - lnW f ws fr te) * (m - lnW f ws fr te) + τ.u), .slice (some ⟨w3.heap.size, 0, none⟩) 0 0, .int .i64 1] 68)) (w3.heap.size + 1) 68 [.int .i64 ((m - lnW f ws fr te) * (m - lnW f ws fr te) + τ.u), .slice (some ⟨w3.heap.size, 0, none⟩) 0 0, .int .i64 1] := Blk.at_new _ _ _ (by simp) _ _ rfl
                have hbst4 := hbst3.next hb4
                have hbk4 := hbk3.keep (KeepI.of_below hb4)
                have hbel4 := below_step hbel3 hb4
                have hvs4 := hvs.next hb4
                have hb5 := below_one ((w3.alloc (.cells #[] 2)).alloc (.cells #[.int .i64 ((m - lnW f ws fr te) * (m - lnW f ws fr te) + τ.u), .slice (some ⟨w3.heap.size, 0, none⟩) 0 0, .int .i64 1] 68)) (.cells #[.int .i64 te] 2)
                have c1 := (hvs4.next hb5).cell _ _ e1
                have hsl4 := (hbk0.keep (KeepI.of_below hb4)).1.sl
                have hnA := hbk0.2.2
                have hmx : τ.b.length ≤ 1048576 := by have := HTB.out.len; omega
                have htab4 : TabAt ((w3.alloc (.cells #[] 2)).alloc (.cells #[.int .i64 ((m - lnW f ws fr te) * (m - lnW f ws fr te) + τ.u), .slice (some ⟨w3.heap.size, 0, none⟩) 0 0, .int .i64 1] 68)) w.heap.size 68 w.heap.size ws.length (tabS f ws m k) := ⟨vs, hvs4, hvl, fun i hi => (hent i hi).keep (KeepI.of_below hb4)⟩
                have hz4 : ((w3.alloc (.cells #[] 2)).alloc (.cells #[.int .i64 ((m - lnW f ws fr te) * (m - lnW f ws fr te) + τ.u), .slice (some ⟨w3.heap.size, 0, none⟩) 0 0, .int .i64 1] 68)).heap.size = w3.heap.size + 1 + 1 := by simp
                have HOL := Lib.hid hol
                have HZ4 := Lib.hid hz4
                have HMX := Lib.hid hmx
                have HNA := Lib.hid hnA
                have hle4 : w.heap.size ≤ ((w3.alloc (.cells #[] 2)).alloc (.cells #[.int .i64 ((m - lnW f ws fr te) * (m - lnW f ws fr te) + τ.u), .slice (some ⟨w3.heap.size, 0, none⟩) 0 0, .int .i64 1] 68)).heap.size := hbel4.size
                clear hb4 hb5 hol hent hvs hO hbst hbk hbel htab hbst3 hbk3 hbel3 hz4 hnA hmx
                go_wp2_with (first
                  | (refine wpList_run rfl _ (exec_build 68 _ rfl #[.int .i64 0, .slice (some ⟨w3.heap.size, 0, none⟩) 0 0, .int .i64 1] (by kernel_rfl)) ?_)
                  | (
                     at_builtin
                     refine wpList_cons1 rfl (.tmp 65) (.tmp 70) rfl ((w3.alloc (.cells #[] 2)).alloc (.cells #[.int .i64 ((m - lnW f ws fr te) * (m - lnW f ws fr te) + τ.u), .slice (some ⟨w3.heap.size, 0, none⟩) 0 0, .int .i64 1] 68)) _ (by rw [HZ4.out]) te At τ.b.length ct τ.b rfl rfl rfl HNA.out hsl4 HMX.out ?_
                     intro v6 w6 ho6 hb6
                     have HX := HX2
                     have hmap : (i64 (te : Int) :: τ.b.map i64) = (⟨((m - lnW f ws fr te) * (m - lnW f ws fr te) + τ.u), ol, τ.c⟩ : Tl).b.map i64 := by
                       show _ = ol.map i64
                       rw [HOL.out]
                       rfl
                     have ho7 := ho6
                     rw [hmap] at ho7
                     clear hmap
                     obtain ⟨A6, c6, hv6, hbo⟩ := BrkAt.of_own ho7
                     have hbo := hbo.lo hle4
                     have hv6 : v6 = .slice A6 ol.length c6 := hv6
                     subst hv6
                     have hO6 := hO4.next hb6
                     have hbst6 := hbst4.next hb6
                     have hbk6 := hbk4.keep (KeepI.of_below hb6)
                     have htab6 := htab4.next hb6
                     have hbel6 := below_step hbel4 hb6
                     have hvs6 := hvs4.next hb6
                     clear c0 c1 ho6 ho7 hb6 hO4 hbst4 hbk4 htab4 hbel4 hvs4 hsl4 hbk0
                     go_wp2_with (
                     refine wpList_store_at rfl 32 (.tmp 72) (.tmp 71) rfl (w3.heap.size + 1) 1 rfl (.slice A6 ol.length c6) rfl rfl szSlI 68 _ hO6 (show 1 < 3 by decide) [.int .i64 ((m - lnW f ws fr te) * (m - lnW f ws fr te) + τ.u), .slice A6 ol.length c6, .int .i64 1] rfl ?_
                     intro w7 hs7
                     have htab7 := htab6.other hs7 hO6 (by decide) hneT
                     have hbst7 := hs7.other _ _ _ hneB hbst6
                     have hvs7 := hs7.other _ _ _ hneT hvs6
                     have hbk7 := hbk6.keep (KeepI.of_stored hs7 hO6 (by decide))
                     have hbo7 := hbo.keep (KeepI.of_stored hs7 hO6 (by decide))
                     have hbel7 := hs7.below _ _ hbel6 hleO
                     have hO7 := hs7.blk
                     clear hs7 hO6 htab6 hbst6 hbk6 hbel6 hvs6 hbo
                     have c2 := hvs7.cell _ _ e2
                     clear hvs7
                     go_wp2_with (
                     refine wpList_store_at rfl 2 (.tmp 78) (.tmp 77) rfl (w3.heap.size + 1) 2 rfl (.int .i64 τ.c) rfl rfl szI64 68 _ hO7 (show 2 < 3 by decide) [.int .i64 ((m - lnW f ws fr te) * (m - lnW f ws fr te) + τ.u), .slice A6 ol.length c6, .int .i64 τ.c] rfl ?_
                     intro wz hsz
                     have htab := htab7.other hsz hO7 (by decide) hneT
                     have hbst := hsz.other _ _ _ hneB hbst7
                     have hbk := hbk7.keep (KeepI.of_stored hsz hO7 (by decide))
                     have hbo := hbo7.keep (KeepI.of_stored hsz hO7 (by decide))
                     have hbel := hsz.below _ _ hbel7 hleO
                     have hO := hsz.blk
                     clear hsz hO7 htab7 hbst7 hbk7 hbel7 hbo7 c2
                     have hu1 := HBD.out.u0
                     have hu2 := HBD.out.c0
                     have hu3 := HBD.out.c1
                     have o0 := hO.cell 0 (.int .i64 ((m - lnW f ws fr te) * (m - lnW f ws fr te) + τ.u)) rfl
                     have o1 := hO.cell 1 (.slice A6 ol.length c6) rfl
                     have o2 := hO.cell 2 (.int .i64 τ.c) rfl
                     have r0 := hbst.cell 0 (.int .i64 R.u) rfl
                     have r1 := hbst.cell 1 (.slice Ab R.b.length cb) rfl
                     have r2 := hbst.cell 2 (.int .i64 R.c) rfl
                     by_cases hRu : R.u < 0
                     · skip
                       have HMX := Lib.hid (mixS_take (s := R) (o := ⟨((m - lnW f ws fr te) * (m - lnW f ws fr te) + τ.u), ol, τ.c⟩) (.inl hRu))
                       go_wp2_with (first
                         | (refine wpList_run rfl _ (exec_build 68 _ rfl #[.int .i64 0, .slice (some ⟨w3.heap.size, 0, none⟩) 0 0, .int .i64 1] (by kernel_rfl)) ?_)
                         | (
                            refine wpList_store_at rfl 2 (.tmp 84) (.tmp 83) rfl (w3.heap.size + 1) 2 rfl (.int .i64 (τ.c + R.c)) rfl rfl szI64 68 _ hO (show 2 < 3 by decide) [.int .i64 ((m - lnW f ws fr te) * (m - lnW f ws fr te) + τ.u), .slice A6 ol.length c6, .int .i64 (τ.c + R.c)] rfl ?_
                            intro w8 hs8
                            have htab8 := htab.other hs8 hO (by decide) hneT
                            have hbst8 := hs8.other _ _ _ hneB hbst
                            have hbk8 := hbk.keep (KeepI.of_stored hs8 hO (by decide))
                            have hbo8 := hbo.keep (KeepI.of_stored hs8 hO (by decide))
                            have hbel8 := hs8.below _ _ hbel hleO
                            have hO8 := hs8.blk
                            have HO1 := Lib.hid hO
                            clear o0 o1 o2 r0 r1 r2 hs8 hO htab hbst hbk hbo hbel
                            have o0 := hO8.cell 0 (.int .i64 ((m - lnW f ws fr te) * (m - lnW f ws fr te) + τ.u)) rfl
                            have o1 := hO8.cell 1 (.slice A6 ol.length c6) rfl
                            have o2 := hO8.cell 2 (.int .i64 (τ.c + R.c)) rfl
                            have r0 := hbst8.cell 0 (.int .i64 R.u) rfl
                            have r1 := hbst8.cell 1 (.slice Ab R.b.length cb) rfl
                            have r2 := hbst8.cell 2 (.int .i64 R.c) rfl
                            have f0 := hbst8.free 0
                            have f1 := hbst8.free 1
                            have f2 := hbst8.free 2
                            go_wp2_with fail
                            go_roundw
                            case rel =>
                              have hs9 := stored3 hbst8 rfl (.int .i64 ((m - lnW f ws fr te) * (m - lnW f ws fr te) + τ.u)) (.slice A6 ol.length c6) (.int .i64 (τ.c + R.c))
                              have htab9 := htab8.other hs9 hbst8 (by decide) (Nat.ne_of_lt hgb1)
                              have hbst9 := hs9.blk
                              have hbk9 := (hbo8).keep (KeepI.of_stored hs9 hbst8 (by decide))
                              have hbel9 := hs9.below _ _ hbel8 hb0
                              refine ⟨j + 1, by omega, by rw [show fr + 1 + (j + 1) = te + 1 by have := HTE.out; omega]; go_num, htab9, ⟨A6, c6, ?_, ?_⟩, hbel9⟩
                              · rw [← HFR.out, HX.out, HMX.out]; exact hbst9
                              · rw [← HFR.out, HX.out, HMX.out]; exact hbk9
                            case measure => simp [intOf]; omega
                            ))
                     · have hbf : before ol R.b = false := by
                         rcases HP.out with h | ⟨_, _, _, _, _, x, r, h6, h7⟩
                         · rw [h] at hRu; exact absurd (by decide) hRu
                         · rw [HOL.out, h6]; exact before_late (by have := HTE.out; push_cast at *; omega)
                       have HBF := Lib.hid hbf
                       have HOB := Lib.hid (show ol.length ≤ 1048576 by rw [HOL.out, List.length_cons]; have := HTB.out.len; omega)
                       clear hbf
                       by_cases hR2 : ((m - lnW f ws fr te) * (m - lnW f ws fr te) + τ.u) < R.u
                       · skip
                         have HMX := Lib.hid (mixS_take (s := R) (o := ⟨((m - lnW f ws fr te) * (m - lnW f ws fr te) + τ.u), ol, τ.c⟩) (.inr (.inl hR2)))
                         go_wp2_with (first
                           | (refine wpList_run rfl _ (exec_build 68 _ rfl #[.int .i64 0, .slice (some ⟨w3.heap.size, 0, none⟩) 0 0, .int .i64 1] (by kernel_rfl)) ?_)
                           | (
                              refine wpList_store_at rfl 2 (.tmp 84) (.tmp 83) rfl (w3.heap.size + 1) 2 rfl (.int .i64 (τ.c + R.c)) rfl rfl szI64 68 _ hO (show 2 < 3 by decide) [.int .i64 ((m - lnW f ws fr te) * (m - lnW f ws fr te) + τ.u), .slice A6 ol.length c6, .int .i64 (τ.c + R.c)] rfl ?_
                              intro w8 hs8
                              have htab8 := htab.other hs8 hO (by decide) hneT
                              have hbst8 := hs8.other _ _ _ hneB hbst
                              have hbk8 := hbk.keep (KeepI.of_stored hs8 hO (by decide))
                              have hbo8 := hbo.keep (KeepI.of_stored hs8 hO (by decide))
                              have hbel8 := hs8.below _ _ hbel hleO
                              have hO8 := hs8.blk
                              have HO1 := Lib.hid hO
                              clear o0 o1 o2 r0 r1 r2 hs8 hO htab hbst hbk hbo hbel
                              have o0 := hO8.cell 0 (.int .i64 ((m - lnW f ws fr te) * (m - lnW f ws fr te) + τ.u)) rfl
                              have o1 := hO8.cell 1 (.slice A6 ol.length c6) rfl
                              have o2 := hO8.cell 2 (.int .i64 (τ.c + R.c)) rfl
                              have r0 := hbst8.cell 0 (.int .i64 R.u) rfl
                              have r1 := hbst8.cell 1 (.slice Ab R.b.length cb) rfl
                              have r2 := hbst8.cell 2 (.int .i64 R.c) rfl
                              have f0 := hbst8.free 0
                              have f1 := hbst8.free 1
                              have f2 := hbst8.free 2
                              go_wp2_with fail
                              go_roundw
                              case rel =>
                                have hs9 := stored3 hbst8 rfl (.int .i64 ((m - lnW f ws fr te) * (m - lnW f ws fr te) + τ.u)) (.slice A6 ol.length c6) (.int .i64 (τ.c + R.c))
                                have htab9 := htab8.other hs9 hbst8 (by decide) (Nat.ne_of_lt hgb1)
                                have hbst9 := hs9.blk
                                have hbk9 := (hbo8).keep (KeepI.of_stored hs9 hbst8 (by decide))
                                have hbel9 := hs9.below _ _ hbel8 hb0
                                refine ⟨j + 1, by omega, by rw [show fr + 1 + (j + 1) = te + 1 by have := HTE.out; omega]; go_num, htab9, ⟨A6, c6, ?_, ?_⟩, hbel9⟩
                                · rw [← HFR.out, HX.out, HMX.out]; exact hbst9
                                · rw [← HFR.out, HX.out, HMX.out]; exact hbk9
                              case measure => simp [intOf]; omega
                              ))
                       · have hk : ¬ (R.u < 0 ∨ ((m - lnW f ws fr te) * (m - lnW f ws fr te) + τ.u) < R.u ∨ (((m - lnW f ws fr te) * (m - lnW f ws fr te) + τ.u) = R.u ∧ before ol R.b = true)) := by
                           rintro (h | h | ⟨_, h⟩)
                           · exact hRu h
                           · exact hR2 h
                           · rw [HBF.out] at h; cases h
                         have HK := Lib.hid hk
                         clear hk
                         by_cases hR3 : ((m - lnW f ws fr te) * (m - lnW f ws fr te) + τ.u) = R.u
                         · have hq1 : (((m - lnW f ws fr te) * (m - lnW f ws fr te) + τ.u) == R.u) = true := by rw [hR3]; simp
                           clear hR3
                           have HMX := Lib.hid (mixS_keep (s := R) (o := ⟨((m - lnW f ws fr te) * (m - lnW f ws fr te) + τ.u), ol, τ.c⟩) HK.out)
                           go_wp2_with (first
                             | (refine wpList_run rfl _ (exec_build 68 _ rfl #[.int .i64 0, .slice (some ⟨w3.heap.size, 0, none⟩) 0 0, .int .i64 1] (by kernel_rfl)) ?_)
                             | (
                                refine wpList_store_at rfl 2 (.tmp 84) (.tmp 83) rfl (w3.heap.size + 1) 2 rfl (.int .i64 (τ.c + R.c)) rfl rfl szI64 68 _ hO (show 2 < 3 by decide) [.int .i64 ((m - lnW f ws fr te) * (m - lnW f ws fr te) + τ.u), .slice A6 ol.length c6, .int .i64 (τ.c + R.c)] rfl ?_
                                intro w8 hs8
                                have htab8 := htab.other hs8 hO (by decide) hneT
                                have hbst8 := hs8.other _ _ _ hneB hbst
                                have hbk8 := hbk.keep (KeepI.of_stored hs8 hO (by decide))
                                have hbo8 := hbo.keep (KeepI.of_stored hs8 hO (by decide))
                                have hbel8 := hs8.below _ _ hbel hleO
                                have hO8 := hs8.blk
                                have HO1 := Lib.hid hO
                                clear o0 o1 o2 r0 r1 r2 hs8 hO htab hbst hbk hbo hbel
                                have o0 := hO8.cell 0 (.int .i64 ((m - lnW f ws fr te) * (m - lnW f ws fr te) + τ.u)) rfl
                                have o1 := hO8.cell 1 (.slice A6 ol.length c6) rfl
                                have o2 := hO8.cell 2 (.int .i64 (τ.c + R.c)) rfl
                                have r0 := hbst8.cell 0 (.int .i64 R.u) rfl
                                have r1 := hbst8.cell 1 (.slice Ab R.b.length cb) rfl
                                have r2 := hbst8.cell 2 (.int .i64 R.c) rfl
                                have f0 := hbst8.free 0
                                have f1 := hbst8.free 1
                                have f2 := hbst8.free 2
                                go_wp2_with (
                                     go_at_call 61
                                     refine (before_spec A6 Ab ol.length c6 R.b.length cb ol R.b _ rfl rfl HOB.out (by have := HBD.out.len; omega) hbo8.1.sl hbk8.1.sl).mono ?_
                                     rintro e w10 ⟨he, hb10⟩
                                     rw [HBF.out] at he
                                     subst he
                                     have htab8 := htab8.next hb10
                                     have hbst8 := hbst8.next hb10
                                     have hbk8 := hbk8.keep (KeepI.of_below hb10)
                                     have hbo8 := hbo8.keep (KeepI.of_below hb10)
                                     have hbel8 := below_step hbel8 hb10
                                     have hO8 := hO8.next hb10
                                     clear hb10 o0 o1 o2 r0 r1 r2 f0 f1 f2
                                     have o0 := hO8.cell 0 (.int .i64 ((m - lnW f ws fr te) * (m - lnW f ws fr te) + τ.u)) rfl
                                     have o1 := hO8.cell 1 (.slice A6 ol.length c6) rfl
                                     have o2 := hO8.cell 2 (.int .i64 (τ.c + R.c)) rfl
                                     have r0 := hbst8.cell 0 (.int .i64 R.u) rfl
                                     have r1 := hbst8.cell 1 (.slice Ab R.b.length cb) rfl
                                     have r2 := hbst8.cell 2 (.int .i64 R.c) rfl
                                     have f0 := hbst8.free 0
                                     have f1 := hbst8.free 1
                                     have f2 := hbst8.free 2)
                                go_roundw
                                case rel =>
                                  have hs9 := stored_cell hbst8 2 (.int .i64 (τ.c + R.c))
                                  have htab9 := htab8.other hs9 hbst8 (by decide) (Nat.ne_of_lt hgb1)
                                  have hbst9 := hs9.blk
                                  have hbk9 := (hbk8).keep (KeepI.of_stored hs9 hbst8 (by decide))
                                  have hbel9 := hs9.below _ _ hbel8 hb0
                                  refine ⟨j + 1, by omega, by rw [show fr + 1 + (j + 1) = te + 1 by have := HTE.out; omega]; go_num, htab9, ⟨Ab, cb, ?_, ?_⟩, hbel9⟩
                                  · rw [← HFR.out, HX.out, HMX.out]; exact hbst9
                                  · rw [← HFR.out, HX.out, HMX.out]; exact hbk9
                                case measure => simp [intOf]; omega
                                ))
                         · have hq1 : (((m - lnW f ws fr te) * (m - lnW f ws fr te) + τ.u) == R.u) = false := by simpa using hR3
                           clear hR3
                           have HMX := Lib.hid (mixS_keep (s := R) (o := ⟨((m - lnW f ws fr te) * (m - lnW f ws fr te) + τ.u), ol, τ.c⟩) HK.out)
                           go_wp2_with (first
                             | (refine wpList_run rfl _ (exec_build 68 _ rfl #[.int .i64 0, .slice (some ⟨w3.heap.size, 0, none⟩) 0 0, .int .i64 1] (by kernel_rfl)) ?_)
                             | (
                                refine wpList_store_at rfl 2 (.tmp 84) (.tmp 83) rfl (w3.heap.size + 1) 2 rfl (.int .i64 (τ.c + R.c)) rfl rfl szI64 68 _ hO (show 2 < 3 by decide) [.int .i64 ((m - lnW f ws fr te) * (m - lnW f ws fr te) + τ.u), .slice A6 ol.length c6, .int .i64 (τ.c + R.c)] rfl ?_
                                intro w8 hs8
                                have htab8 := htab.other hs8 hO (by decide) hneT
                                have hbst8 := hs8.other _ _ _ hneB hbst
                                have hbk8 := hbk.keep (KeepI.of_stored hs8 hO (by decide))
                                have hbo8 := hbo.keep (KeepI.of_stored hs8 hO (by decide))
                                have hbel8 := hs8.below _ _ hbel hleO
                                have hO8 := hs8.blk
                                have HO1 := Lib.hid hO
                                clear o0 o1 o2 r0 r1 r2 hs8 hO htab hbst hbk hbo hbel
                                have o0 := hO8.cell 0 (.int .i64 ((m - lnW f ws fr te) * (m - lnW f ws fr te) + τ.u)) rfl
                                have o1 := hO8.cell 1 (.slice A6 ol.length c6) rfl
                                have o2 := hO8.cell 2 (.int .i64 (τ.c + R.c)) rfl
                                have r0 := hbst8.cell 0 (.int .i64 R.u) rfl
                                have r1 := hbst8.cell 1 (.slice Ab R.b.length cb) rfl
                                have r2 := hbst8.cell 2 (.int .i64 R.c) rfl
                                have f0 := hbst8.free 0
                                have f1 := hbst8.free 1
                                have f2 := hbst8.free 2
                                go_wp2_with fail
                                go_roundw
                                case rel =>
                                  have hs9 := stored_cell hbst8 2 (.int .i64 (τ.c + R.c))
                                  have htab9 := htab8.other hs9 hbst8 (by decide) (Nat.ne_of_lt hgb1)
                                  have hbst9 := hs9.blk
                                  have hbk9 := (hbk8).keep (KeepI.of_stored hs9 hbst8 (by decide))
                                  have hbel9 := hs9.below _ _ hbel8 hb0
                                  refine ⟨j + 1, by omega, by rw [show fr + 1 + (j + 1) = te + 1 by have := HTE.out; omega]; go_num, htab9, ⟨Ab, cb, ?_, ?_⟩, hbel9⟩
                                  · rw [← HFR.out, HX.out, HMX.out]; exact hbst9
                                  · rw [← HFR.out, HX.out, HMX.out]; exact hbk9
                                case measure => simp [intOf]; omega
                                ))
                     ))))
            · have HX := Lib.hid (show rowS f ws m (tabS f ws m k) fr (j + 1) = mixS R ⟨0, [], 1⟩ by rw [HX.out, stS, if_neg (show ¬ lf f ws m fr te < 0 by unfold lf; omega), if_neg hN])
              have hbo := BrkAt.lit ((w3.alloc (.cells #[] 2)).alloc (.cells #[.int .i64 0, .slice (some ⟨w3.heap.size, 0, none⟩) 0 0, .int .i64 1] 68)) w.heap.size 0 1 w3.heap.size 0
              have hu1 := HBD.out.u0
              have hu2 := HBD.out.c0
              have hu3 := HBD.out.c1
              have o0 := hO.cell 0 (.int .i64 0) rfl
              have o1 := hO.cell 1 (.slice (some ⟨w3.heap.size, 0, none⟩) 0 0) rfl
              have o2 := hO.cell 2 (.int .i64 1) rfl
              have r0 := hbst.cell 0 (.int .i64 R.u) rfl
              have r1 := hbst.cell 1 (.slice Ab R.b.length cb) rfl
              have r2 := hbst.cell 2 (.int .i64 R.c) rfl
              by_cases hRu : R.u < 0
              · skip
                have HMX := Lib.hid (mixS_take (s := R) (o := ⟨0, [], 1⟩) (.inl hRu))
                go_wp2_with (first
                  | (refine wpList_run rfl _ (exec_build 68 _ rfl #[.int .i64 0, .slice (some ⟨w3.heap.size, 0, none⟩) 0 0, .int .i64 1] (by kernel_rfl)) ?_)
                  | (
                     refine wpList_store_at rfl 2 (.tmp 84) (.tmp 83) rfl (w3.heap.size + 1) 2 rfl (.int .i64 (1 + R.c)) rfl rfl szI64 68 _ hO (show 2 < 3 by decide) [.int .i64 0, .slice (some ⟨w3.heap.size, 0, none⟩) 0 0, .int .i64 (1 + R.c)] rfl ?_
                     intro w8 hs8
                     have htab8 := htab.other hs8 hO (by decide) hneT
                     have hbst8 := hs8.other _ _ _ hneB hbst
                     have hbk8 := hbk.keep (KeepI.of_stored hs8 hO (by decide))
                     have hbo8 := hbo.keep (KeepI.of_stored hs8 hO (by decide))
                     have hbel8 := hs8.below _ _ hbel hleO
                     have hO8 := hs8.blk
                     have HO1 := Lib.hid hO
                     clear o0 o1 o2 r0 r1 r2 hs8 hO htab hbst hbk hbo hbel
                     have o0 := hO8.cell 0 (.int .i64 0) rfl
                     have o1 := hO8.cell 1 (.slice (some ⟨w3.heap.size, 0, none⟩) 0 0) rfl
                     have o2 := hO8.cell 2 (.int .i64 (1 + R.c)) rfl
                     have r0 := hbst8.cell 0 (.int .i64 R.u) rfl
                     have r1 := hbst8.cell 1 (.slice Ab R.b.length cb) rfl
                     have r2 := hbst8.cell 2 (.int .i64 R.c) rfl
                     have f0 := hbst8.free 0
                     have f1 := hbst8.free 1
                     have f2 := hbst8.free 2
                     go_wp2_with fail
                     go_roundw
                     case rel =>
                       have hs9 := stored3 hbst8 rfl (.int .i64 0) (.slice (some ⟨w3.heap.size, 0, none⟩) 0 0) (.int .i64 (1 + R.c))
                       have htab9 := htab8.other hs9 hbst8 (by decide) (Nat.ne_of_lt hgb1)
                       have hbst9 := hs9.blk
                       have hbk9 := (hbo8).keep (KeepI.of_stored hs9 hbst8 (by decide))
                       have hbel9 := hs9.below _ _ hbel8 hb0
                       refine ⟨j + 1, by omega, by rw [show fr + 1 + (j + 1) = te + 1 by have := HTE.out; omega]; go_num, htab9, ⟨(some ⟨w3.heap.size, 0, none⟩), 0, ?_, ?_⟩, hbel9⟩
                       · rw [← HFR.out, HX.out, HMX.out]; exact hbst9
                       · rw [← HFR.out, HX.out, HMX.out]; exact hbk9
                     case measure => simp [intOf]; omega
                     ))
              · by_cases hR2 : (0 : Int) < R.u
                · skip
                  have HMX := Lib.hid (mixS_take (s := R) (o := ⟨0, [], 1⟩) (.inr (.inl hR2)))
                  go_wp2_with (first
                    | (refine wpList_run rfl _ (exec_build 68 _ rfl #[.int .i64 0, .slice (some ⟨w3.heap.size, 0, none⟩) 0 0, .int .i64 1] (by kernel_rfl)) ?_)
                    | (
                       refine wpList_store_at rfl 2 (.tmp 84) (.tmp 83) rfl (w3.heap.size + 1) 2 rfl (.int .i64 (1 + R.c)) rfl rfl szI64 68 _ hO (show 2 < 3 by decide) [.int .i64 0, .slice (some ⟨w3.heap.size, 0, none⟩) 0 0, .int .i64 (1 + R.c)] rfl ?_
                       intro w8 hs8
                       have htab8 := htab.other hs8 hO (by decide) hneT
                       have hbst8 := hs8.other _ _ _ hneB hbst
                       have hbk8 := hbk.keep (KeepI.of_stored hs8 hO (by decide))
                       have hbo8 := hbo.keep (KeepI.of_stored hs8 hO (by decide))
                       have hbel8 := hs8.below _ _ hbel hleO
                       have hO8 := hs8.blk
                       have HO1 := Lib.hid hO
                       clear o0 o1 o2 r0 r1 r2 hs8 hO htab hbst hbk hbo hbel
                       have o0 := hO8.cell 0 (.int .i64 0) rfl
                       have o1 := hO8.cell 1 (.slice (some ⟨w3.heap.size, 0, none⟩) 0 0) rfl
                       have o2 := hO8.cell 2 (.int .i64 (1 + R.c)) rfl
                       have r0 := hbst8.cell 0 (.int .i64 R.u) rfl
                       have r1 := hbst8.cell 1 (.slice Ab R.b.length cb) rfl
                       have r2 := hbst8.cell 2 (.int .i64 R.c) rfl
                       have f0 := hbst8.free 0
                       have f1 := hbst8.free 1
                       have f2 := hbst8.free 2
                       go_wp2_with fail
                       go_roundw
                       case rel =>
                         have hs9 := stored3 hbst8 rfl (.int .i64 0) (.slice (some ⟨w3.heap.size, 0, none⟩) 0 0) (.int .i64 (1 + R.c))
                         have htab9 := htab8.other hs9 hbst8 (by decide) (Nat.ne_of_lt hgb1)
                         have hbst9 := hs9.blk
                         have hbk9 := (hbo8).keep (KeepI.of_stored hs9 hbst8 (by decide))
                         have hbel9 := hs9.below _ _ hbel8 hb0
                         refine ⟨j + 1, by omega, by rw [show fr + 1 + (j + 1) = te + 1 by have := HTE.out; omega]; go_num, htab9, ⟨(some ⟨w3.heap.size, 0, none⟩), 0, ?_, ?_⟩, hbel9⟩
                         · rw [← HFR.out, HX.out, HMX.out]; exact hbst9
                         · rw [← HFR.out, HX.out, HMX.out]; exact hbk9
                       case measure => simp [intOf]; omega
                       ))
                · have hq1 : ((0 : Int) == R.u) = true := by simp; omega
                  have hbf : before [] R.b = true := by
                    rcases HP.out with h | ⟨_, _, _, _, _, x, r, h6, _⟩
                    · rw [h] at hRu; exact absurd (by decide) hRu
                    · rw [h6]; rfl
                  have HBF := Lib.hid hbf
                  clear hbf
                  have HMX := Lib.hid (mixS_take (s := R) (o := ⟨0, [], 1⟩) (.inr (.inr ⟨by simpa using hq1, HBF.out⟩)))
                  go_wp2_with (first
                    | (refine wpList_run rfl _ (exec_build 68 _ rfl #[.int .i64 0, .slice (some ⟨w3.heap.size, 0, none⟩) 0 0, .int .i64 1] (by kernel_rfl)) ?_)
                    | (
                       refine wpList_store_at rfl 2 (.tmp 84) (.tmp 83) rfl (w3.heap.size + 1) 2 rfl (.int .i64 (1 + R.c)) rfl rfl szI64 68 _ hO (show 2 < 3 by decide) [.int .i64 0, .slice (some ⟨w3.heap.size, 0, none⟩) 0 0, .int .i64 (1 + R.c)] rfl ?_
                       intro w8 hs8
                       have htab8 := htab.other hs8 hO (by decide) hneT
                       have hbst8 := hs8.other _ _ _ hneB hbst
                       have hbk8 := hbk.keep (KeepI.of_stored hs8 hO (by decide))
                       have hbo8 := hbo.keep (KeepI.of_stored hs8 hO (by decide))
                       have hbel8 := hs8.below _ _ hbel hleO
                       have hO8 := hs8.blk
                       have HO1 := Lib.hid hO
                       clear o0 o1 o2 r0 r1 r2 hs8 hO htab hbst hbk hbo hbel
                       have o0 := hO8.cell 0 (.int .i64 0) rfl
                       have o1 := hO8.cell 1 (.slice (some ⟨w3.heap.size, 0, none⟩) 0 0) rfl
                       have o2 := hO8.cell 2 (.int .i64 (1 + R.c)) rfl
                       have r0 := hbst8.cell 0 (.int .i64 R.u) rfl
                       have r1 := hbst8.cell 1 (.slice Ab R.b.length cb) rfl
                       have r2 := hbst8.cell 2 (.int .i64 R.c) rfl
                       have f0 := hbst8.free 0
                       have f1 := hbst8.free 1
                       have f2 := hbst8.free 2
                       go_wp2_with (
                            go_at_call 61
                            refine (before_spec (some ⟨w3.heap.size, 0, none⟩) Ab 0 0 R.b.length cb ([] : List Int) R.b _ rfl rfl (by omega) (by have := HBD.out.len; omega) hbo8.1.sl hbk8.1.sl).mono ?_
                            rintro e w10 ⟨he, hb10⟩
                            rw [HBF.out] at he
                            subst he
                            have htab8 := htab8.next hb10
                            have hbst8 := hbst8.next hb10
                            have hbk8 := hbk8.keep (KeepI.of_below hb10)
                            have hbo8 := hbo8.keep (KeepI.of_below hb10)
                            have hbel8 := below_step hbel8 hb10
                            have hO8 := hO8.next hb10
                            clear hb10 o0 o1 o2 r0 r1 r2 f0 f1 f2
                            have o0 := hO8.cell 0 (.int .i64 0) rfl
                            have o1 := hO8.cell 1 (.slice (some ⟨w3.heap.size, 0, none⟩) 0 0) rfl
                            have o2 := hO8.cell 2 (.int .i64 (1 + R.c)) rfl
                            have r0 := hbst8.cell 0 (.int .i64 R.u) rfl
                            have r1 := hbst8.cell 1 (.slice Ab R.b.length cb) rfl
                            have r2 := hbst8.cell 2 (.int .i64 R.c) rfl
                            have f0 := hbst8.free 0
                            have f1 := hbst8.free 1
                            have f2 := hbst8.free 2)
                       go_roundw
                       case rel =>
                         have hs9 := stored3 hbst8 rfl (.int .i64 0) (.slice (some ⟨w3.heap.size, 0, none⟩) 0 0) (.int .i64 (1 + R.c))
                         have htab9 := htab8.other hs9 hbst8 (by decide) (Nat.ne_of_lt hgb1)
                         have hbst9 := hs9.blk
                         have hbk9 := (hbo8).keep (KeepI.of_stored hs9 hbst8 (by decide))
                         have hbel9 := hs9.below _ _ hbel8 hb0
                         refine ⟨j + 1, by omega, by rw [show fr + 1 + (j + 1) = te + 1 by have := HTE.out; omega]; go_num, htab9, ⟨(some ⟨w3.heap.size, 0, none⟩), 0, ?_, ?_⟩, hbel9⟩
                         · rw [← HFR.out, HX.out, HMX.out]; exact hbst9
                         · rw [← HFR.out, HX.out, HMX.out]; exact hbk9
                       case measure => simp [intOf]; omega
                       ))
        · obtain rfl : j = k + 1 := by omega
          have htab3 := htab
          have hbst3 := hbst
          have hbk3 := hbk
          have hbel3 := hbel
          have HFIN := Lib.hid hR.symm
          clear htab hbst hbk hbel hR
          have hte : ¬ te ≤ ws.length := by omega
          obtain ⟨vs, hvs, hvl, hent⟩ := htab3
          have hrow := hbst3.rowV 0 3
          go_wp2_with (first
            | (refine wpList_loadV rfl 68 (.tmp 10) rfl ⟨b1, 0, none⟩ rfl (tlV R Ab cb) _ hrow Tryz.underlying68 rfl szTl ?_)
            | (refine wpList_store_blk rfl 68 (.tmp 116) (.tmp 115) rfl w.heap.size (fr * 3) rfl (tlV R Ab cb) rfl szTl (one_tl _ _ _) 68 vs hvs (by rw [tlV_length]; omega) _ rfl ?_; intro w4 hst))
          go_roundw
          case rel =>
            have htab4 := TabAt.put hvs hvl hent (i := fr) (by omega) hbk3 (by decide) hst
            rw [← HFIN.out, HFR.out] at htab4
            exact ⟨k + 1, by omega, by first | go_num | (congr 1; omega), htab4, hst.below _ _ hbel3 (Nat.le_refl _)⟩
          case measure => simp [intOf] <;> omega
    · obtain rfl : k = ws.length := by omega
      have htab := h.tab
      have hbel := h.below
      clear h
      have hneg : (ws.length : Int) - 1 - (ws.length : Int) < 0 := by omega
      go_wp2
      go_ret
      exact ⟨_, rfl, Nat.le_refl _, htab, hbel⟩
end Go.Proofs.YtdhngjjfoddnkaaGreatDoor
