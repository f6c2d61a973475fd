/- Contract: pieces put on so many sheets, by the program. -/
import Derived.Test.YtonnplaacebekaaDoorShJ
import Derived.Test.YtonnplaacebekaaDoorShI
import Derived.Test.YtonnplaacebekaaDoorGK
import Derived.Test.YtonnplaacebekaaDoorAppN
import Derived.BigRegion

namespace Go.Proofs.YtonnplaacebekaaDoor
open Go Go.RowKit
set_option linter.unusedVariables false
set_option linter.unusedSimpArgs false

/-- What is handed back: a way, or none. -/
def OnOut (w : World) (lo : Nat) (r : Option (List Int × Nat)) (e : Ending) (w' : World) : Prop :=
  Below w.heap.size w w' ∧ (r = none → e = .returned (.tuple #[.slice none 0 0, .bool false])) ∧ ∀ x, r = some x → ∃ A c, e = .returned (.tuple #[.slice A x.1.length c, .bool true]) ∧ OwnS w' lo w'.heap.size A x.1
def OnSpec (ps : List Int) (Ap : Option Addr) (cp : Nat) (sh : Sh) (most lo : Nat) (rest : List Int) : Prop :=
  ∀ (pre path lf : List Int) (Al Af : Option Addr) (cl cf : Nat) (w : World), ps = pre ++ rest → path.length = pre.length → lf.length ≤ most → lf.length ≤ pre.length → (∀ i, i < lf.length → 0 ≤ rdI lf i ∧ rdI lf i ≤ sh.wide) → lo ≤ w.heap.size →
    OwnS w lo w.heap.size Al path → SlE i64 w Ap ps → SlE i64 w Af lf →
    Calls Tryd.prog 58 #[.agg (shV sh).toArray, .slice Ap ps.length cp, .int .i64 most, .slice Al path.length cl, .slice Af lf.length cf] w (OnOut w lo (fndP most (lvs sh.wide rest lf path)))
theorem OwnS.more {w w' : World} {lo : Nat} {A : Option Addr} {xs : List Int} (h : OwnS w lo w.heap.size A xs) (hb : Below w.heap.size w w') : OwnS w' lo w'.heap.size A xs := fun hn => by
  obtain ⟨g, cs, e, a1, a2, a3⟩ := h.next hb hn
  exact ⟨g, cs, e, a1, a3.lt, a3⟩

set_option maxHeartbeats 4000000 in
set_option maxRecDepth 100000 in
theorem onto_nil (ps : List Int) (hps : ps.length ≤ 9) (Ap : Option Addr) (cp : Nat) (sh : Sh) (most lo : Nat) (hmost : most ≤ 9) : OnSpec ps Ap cp sh most lo [] := by
  intro pre path lf Al Af cl cf w hpr hpl hlm hlp hlr hlo hop hsp hsl
  have hB := below_one w (.cells (shV sh).toArray 38)
  rw [List.append_nil] at hpr
  subst hpr
  have HO := Lib.hid (show fndP most (lvs sh.wide [] lf path) = some (path, lf.length) by
    rw [lvs]; unfold fndP; rw [List.find?_cons_of_pos]; exact decide_eq_true hlm)
  rw [HO.out]
  have HOP := Lib.hid hop
  clear hop hsp hsl
  have hpe : ((path.length : Int) == (ps.length : Int)) = true := by simp; omega
  rw [hpl]
  go_enter Tryd.func58, Tryd.ntmps58
  go_wp2
  go_ret2
  refine ⟨hB, fun h => (by cases h), fun x hx => ?_⟩
  obtain rfl := Option.some.inj hx
  exact ⟨Al, cl, by rw [hpl]; rfl, HOP.out.more hB⟩

theorem lvk_more {w p : Int} {ps lf path : List Int} {k : Nat} : ∀ m, k ≤ m → ∃ R, lvk w p ps lf path m = lvk w p ps lf path k ++ R
  | 0, h => ⟨[], by obtain rfl : k = 0 := by omega
                    simp⟩
  | m + 1, h => by
    by_cases e : k = m + 1
    · subst e; exact ⟨[], by simp⟩
    · obtain ⟨R, hR⟩ := lvk_more (w := w) (p := p) (ps := ps) (lf := lf) (path := path) (k := k) m (by omega)
      cases hf : fitS lf m p
      · exact ⟨R, by rw [lvk_no hf, hR]⟩
      · exact ⟨R ++ lvs w ps (putS w lf m p) (path ++ [(m : Int)]), by rw [lvk_yes hf, hR, List.append_assoc]⟩
set_option maxHeartbeats 8000000 in
set_option maxRecDepth 100000 in
theorem onto_cons (ps : List Int) (hps : ps.length ≤ 9) (Ap : Option Addr) (cp : Nat) (sh : Sh) (hsh : ShT sh) (hw : 1 ≤ sh.wide ∧ sh.wide ≤ 400) (hp : ∀ k, k < ps.length → 1 ≤ rdI ps k ∧ rdI ps k ≤ sh.wide) (most lo : Nat) (hmost : most ≤ 9) (p : Int) (rest : List Int) (ih : OnSpec ps Ap cp sh most lo rest) : OnSpec ps Ap cp sh most lo (p :: rest) := by
  intro pre path lf Al Af cl cf w hpr hpl hlm hlp hlr hlo hop hsp hsl
  have hB0 := below_one w (.cells (shV sh).toArray 38)
  have hpm : path.length < ps.length := by rw [hpr, hpl, List.length_append, List.length_cons]; omega
  have hpe : rdI ps path.length = p := by rw [hpr, hpl]; unfold rdI; simp
  have hpp := hp path.length hpm
  rw [hpe] at hpp
  have hpl20 : path.length ≤ 1048576 := by omega
  have hwr := hsh.wide
  obtain ⟨a, ea, hrow⟩ := (hsp.next hB0).some path.length hpm
  subst ea
  have hc0 := hrow.atI64 path.length hpm
  rw [hpe] at hc0
  have HSB := Lib.hid (Blk.new w 38 (shV sh))
  have HOP := Lib.hid (hop.more hB0)
  have HSP := Lib.hid (hsp.next hB0)
  have HSL := Lib.hid (hsl.next hB0)
  have HPR := Lib.hid hpr
  have HPL := Lib.hid hpl
  have HLR := Lib.hid hlr
  have HIH := Lib.hid ih
  obtain ⟨M, hM⟩ : ∃ M, M = min (lf.length + 1) most := ⟨_, rfl⟩
  have hMi : min ((lf.length : Int) + 1) (most : Int) = (M : Int) := by omega
  have hpbe : ((path.length : Int) == (ps.length : Int)) = false := by simp; omega
  have hpmi : ¬ ((path.length : Int) = (ps.length : Int)) := by omega
  clear hrow hop hsp hsl hpr hlr ih hsh hpl
  go_enter Tryd.func58, Tryd.ntmps58
  go_wp2
  clear hc0
  generalize w.alloc (.cells (shV sh).toArray 38) = W1 at *
  have hB0s := hB0.size
  go_loopw [33] (fun i wr => ∃ k : Nat, k ≤ M ∧ i = .int .i64 k ∧ fndP most (lvk sh.wide p rest lf path k) = none ∧ Below W1.heap.size W1 wr) (fun i _ => M - (intOf i).toNat)
  case atStart => exact ⟨0, Nat.zero_le _, rfl, rfl, Below.refl _ _⟩
  case round =>
    obtain ⟨k, hk, rfl, hno, hbel⟩ := hrel
    have HNO := Lib.hid hno
    have hBw := hbel
    clear hno
    by_cases hlt : k < M
    · have HSLr := Lib.hid (HSL.out.next hbel)
      have hszr := hbel.size
      by_cases hkl : k < lf.length
      · have hlrk := HLR.out k hkl
        by_cases hle : p ≤ rdI lf k
        · have hfit : fitS lf k p = true := by rw [fitS_old hkl]; exact decide_eq_true hle
          have hput : putS sh.wide lf k p = lf.set k (rdI lf k - p) := putS_old hkl
          have hl2 : (lf.set k (rdI lf k - p)).length = lf.length := List.length_set ..
          have hsub : IntKind.i64.wrap (rdI lf k - p) = rdI lf k - p := IntWalk.i64_in _ (by omega)
          have hlr2 : ∀ i, i < (lf.set k (rdI lf k - p)).length → 0 ≤ rdI (lf.set k (rdI lf k - p)) i ∧ rdI (lf.set k (rdI lf k - p)) i ≤ sh.wide := fun i hi => by
            rw [hl2] at hi
            by_cases e : k = i
            · subst e; rw [rdI_set _ hi]; omega
            · rw [rdI_set_ne _ e]; exact HLR.out i hi
          go_wp2_with (go_at_call 95; refine (clone_any Af cf lf lf.length _ rfl (by omega) HSLr.out).mono ?_; rintro e w1 ⟨v1, rfl, own1, hb1⟩; obtain ⟨g1, c1', cs1, rfl, hg1, hbk1, hl1⟩ := own_blk own1 (by omega); have hcl := blk_row_cell hbk1 (X := k) (by omega); have hfr := hbk1.free k)
          have hb2 : Below wr.heap.size wr (w1.setCell ⟨g1, k, none⟩ (.int .i64 (rdI lf k - p))) := hb1.setCell hg1 _
          have hbk2 := blk_row_set (v := rdI lf k - p) hbk1 hkl
          generalize w1.setCell ⟨g1, k, none⟩ (.int .i64 (rdI lf k - p)) = W2 at hb2 hbk2 ⊢
          clear hcl hfr hbk1 own1 hb1 hsub
          have hz2 := hb2.size
          have HNX := Lib.hid (hbk2)
          have HPT2 := Lib.hid (HOP.out.sl.next (below_step hBw hb2))
          have HSP2 := Lib.hid (HSP.out.next (below_step hBw hb2))
          have HSB2 := Lib.hid (HSB.out.next (below_step hBw hb2))
          refine held_begin (W2.heap.size) (by kernel_rfl) ?_
          have hS := below_drewN (Below.refl (W2.heap.size) W2) 1
          refine held_take 0 (.agg (shV sh).toArray) rfl (by kernel_rfl) (by kernel_rfl) (by kernel_rfl) (fun _ _ _ h => h) (by kernel_rfl) (fun w' hw' => exec_load_row 38 (.tmp 5) rfl (w.heap.size) (by kernel_rfl) 38 (shV sh).toArray _ _ (HSB2.out.next hw') Tryd.underlying38 rfl (szSh)) hS ?_
          refine held_take 1 (.slice (some a) ps.length cp) rfl (by kernel_rfl) (by kernel_rfl) (by kernel_rfl) (fun _ _ _ h => h) (by kernel_rfl) (fun w' hw' => by kernel_rfl) hS ?_
          refine held_take 2 (.int .i64 most) rfl (by kernel_rfl) (by kernel_rfl) (by kernel_rfl) (fun _ _ _ h => h) (by kernel_rfl) (fun w' hw' => by kernel_rfl) hS ?_
          refine held_take 3 (.slice Al path.length cl) rfl (by kernel_rfl) (by kernel_rfl) (by kernel_rfl) (fun _ _ _ h => h) (by kernel_rfl) (fun w' hw' => by kernel_rfl) hS ?_
          refine held_take 5 (.int .i64 k) rfl (by kernel_rfl) (by kernel_rfl) (by kernel_rfl) (fun _ _ _ h => h) (by kernel_rfl) (fun w' hw' => by kernel_rfl) hS ?_
          refine held_take 8 (.slice (some ⟨g1, 0, none⟩) lf.length c1') rfl (by kernel_rfl) (by kernel_rfl) (by kernel_rfl) (fun _ _ _ h => h) (by kernel_rfl) (fun w' hw' => by kernel_rfl) hS ?_
          refine held_clone_app 4 6 7 rfl rfl rfl (by decide) (by kernel_rfl) (by kernel_rfl) (by kernel_rfl) (by kernel_rfl) rfl rfl rfl 95 #[.slice Al path.length cl] (fun w' => by kernel_rfl) (fun p w' => by kernel_rfl) (.tmp 66) (.tmp 68) 31 rfl elI (.int .i64 k) rfl (fun w' => by kernel_rfl) (fun p w' => by kernel_rfl) (fun p q => by kernel_rfl) (fun p q => by kernel_rfl) (fun p q => by kernel_rfl) path.length (path.map i64) (fun w' hw' => (clone_any Al cl path path.length w' rfl hpl20 (HPT2.out.next hw')).mono fun e w'' ⟨v, h1, h2, h3⟩ => ⟨v, h1, h2, h3⟩) (by unfold maxLen; omega) (by omega) (Nat.le_refl _) hS ?_
          intro q1 q2 v4 w4 hS own4
          obtain ⟨g4, c4, cs4, rfl, hg40, hbk4, hl4⟩ := own_blk own4 (by omega)
          have hz4 := hS.size
          have e4 : (path.map i64 ++ [Value.int .i64 (k : Int)]) = (path ++ [(k : Int)]).map i64 := by simp [i64]
          rw [e4] at hbk4
          have hcall := HIH.out (pre ++ [p]) (path ++ [(k : Int)]) (lf.set k (rdI lf k - p)) (some ⟨g4, 0, none⟩) (some ⟨g1, 0, none⟩) c4 c1' w4 (by rw [HPR.out]; simp) (by simp; exact HPL.out) (by rw [hl2]; omega) (by rw [hl2, List.length_append, List.length_singleton]; omega) hlr2 (by omega) (OwnS.of_blk hbk4 (by omega) hbk4.lt) (HSP2.out.next hS) (SlE.of_row (HNX.out.next hS).head)
          rw [List.length_append, List.length_singleton, hl2] at hcall
          refine held_call 9 58 #[.agg (shV sh).toArray, .slice (some a) ps.length cp, .int .i64 most, .slice (some ⟨g4, 0, none⟩) (path.length + 1) c4, .slice (some ⟨g1, 0, none⟩) lf.length c1'] rfl (by kernel_rfl) (by kernel_rfl) (by kernel_rfl) ?_
          refine hcall.mono ?_
          rintro e w5 ⟨hb5, hno, hyes⟩
          have hb25 := below_step hb2 (below_step hS hb5)
          have hbw5 := below_step hBw hb25
          cases hr : fndP most (lvs sh.wide rest (lf.set k (rdI lf k - p)) (path ++ [(k : Int)]))
          · obtain rfl := hno hr
            have HNE := Lib.hid (show fndP most (lvk sh.wide p rest lf path (k + 1)) = none by rw [lvk_yes hfit, fndP_app, HNO.out, hput, hr]; rfl)
            refine ⟨_, rfl, below_step hS hb5, ?_⟩
            have hS := below_step hS hb5
            refine held_take 10 (.tuple #[.slice none 0 0, .bool false]) rfl (by kernel_rfl) (by kernel_rfl) (by kernel_rfl) (fun _ _ _ h => h) (by kernel_rfl) (fun w' hw' => by kernel_rfl) hS ?_
            refine held_take 11 (.slice none 0 0) rfl (by kernel_rfl) (by kernel_rfl) (by kernel_rfl) (fun _ _ _ h => h) (by kernel_rfl) (fun w' hw' => by kernel_rfl) hS ?_
            refine held_take 12 (.bool false) rfl (by kernel_rfl) (by kernel_rfl) (by kernel_rfl) (fun _ _ _ h => h) (by kernel_rfl) (fun w' hw' => by kernel_rfl) hS ?_
            refine held_take 13 (.slice none 0 0) rfl (by kernel_rfl) (by kernel_rfl) (by kernel_rfl) (fun _ _ _ h => h) (by kernel_rfl) (fun w' hw' => by kernel_rfl) hS ?_
            refine held_take 14 (.bool false) rfl (by kernel_rfl) (by kernel_rfl) (by kernel_rfl) (fun _ _ _ h => h) (by kernel_rfl) (fun w' hw' => by kernel_rfl) hS ?_
            refine held_done (by kernel_rfl) ?_
            simp only [Act.put, List.setIfInBounds_toArray, List.set_cons_succ, List.set_cons_zero]
            clear hno hyes hcall hr hput hb25 hS hbk4 own4 hb5 e4
            go_wp2
            go_roundw
            case rel => exact ⟨k + 1, by omega, by go_num, HNE.out, hbw5⟩
            case measure => simp [intOf]; omega
          · rename_i x
            obtain ⟨A5, c5, rfl, o5⟩ := hyes x hr
            have HYE := Lib.hid (show fndP most (lvk sh.wide p rest lf path (k + 1)) = some x by rw [lvk_yes hfit, fndP_app, HNO.out, hput, hr]; rfl)
            have HALL := Lib.hid (show fndP most (lvs sh.wide (p :: rest) lf path) = some x by
              obtain ⟨R, hR⟩ := lvk_more (w := sh.wide) (p := p) (ps := rest) (lf := lf) (path := path) (k := k + 1) (lf.length + 1) (by omega)
              rw [lvs_cons, hR, fndP_app, HYE.out]; rfl)
            refine ⟨_, rfl, below_step hS hb5, ?_⟩
            have hS := below_step hS hb5
            refine held_take 10 (.tuple #[.slice A5 x.1.length c5, .bool true]) rfl (by kernel_rfl) (by kernel_rfl) (by kernel_rfl) (fun _ _ _ h => h) (by kernel_rfl) (fun w' hw' => by kernel_rfl) hS ?_
            refine held_take 11 (.slice A5 x.1.length c5) rfl (by kernel_rfl) (by kernel_rfl) (by kernel_rfl) (fun _ _ _ h => h) (by kernel_rfl) (fun w' hw' => by kernel_rfl) hS ?_
            refine held_take 12 (.bool true) rfl (by kernel_rfl) (by kernel_rfl) (by kernel_rfl) (fun _ _ _ h => h) (by kernel_rfl) (fun w' hw' => by kernel_rfl) hS ?_
            refine held_take 13 (.slice A5 x.1.length c5) rfl (by kernel_rfl) (by kernel_rfl) (by kernel_rfl) (fun _ _ _ h => h) (by kernel_rfl) (fun w' hw' => by kernel_rfl) hS ?_
            refine held_take 14 (.bool true) rfl (by kernel_rfl) (by kernel_rfl) (by kernel_rfl) (fun _ _ _ h => h) (by kernel_rfl) (fun w' hw' => by kernel_rfl) hS ?_
            refine held_done (by kernel_rfl) ?_
            simp only [Act.put, List.setIfInBounds_toArray, List.set_cons_succ, List.set_cons_zero]
            clear hno hyes hcall hr hput hb25 hS hbk4 own4 hb5 e4
            go_wp2
            go_ret2
            refine ⟨below_step hB0 hbw5, fun h => (by rw [HALL.out] at h; cases h), fun y hy => ?_⟩
            rw [HALL.out] at hy
            obtain rfl := Option.some.inj hy
            exact ⟨A5, c5, rfl, o5⟩
        · have HNE := Lib.hid (show fndP most (lvk sh.wide p rest lf path (k + 1)) = none by
            rw [lvk_no (by rw [fitS_old hkl]; exact decide_eq_false hle)]; exact HNO.out)
          go_wp2_with (go_at_call 95; refine (clone_any Af cf lf lf.length _ rfl (by omega) HSLr.out).mono ?_; rintro e w1 ⟨v1, rfl, own1, hb1⟩; obtain ⟨g1, c1', cs1, rfl, hg1, hbk1, hl1⟩ := own_blk own1 (by omega); have hcl := blk_row_cell hbk1 (X := k) (by omega))
          go_roundw
          case rel => exact ⟨k + 1, by omega, by go_num, HNE.out, below_step hBw hb1⟩
          case measure => simp [intOf]; omega
      · obtain rfl : k = lf.length := by omega
        have hfit : fitS lf lf.length p = true := fitS_new lf p
        have hput : putS sh.wide lf lf.length p = (lf ++ [sh.wide]).set lf.length (sh.wide - p) := by rw [putS_new, set_snoc]
        have hl2 : ((lf ++ [sh.wide]).set lf.length (sh.wide - p)).length = lf.length + 1 := by simp
        have hsub : IntKind.i64.wrap (sh.wide - p) = sh.wide - p := IntWalk.i64_in _ (by omega)
        have hcv : IntKind.i64.wrap sh.wide = sh.wide := IntWalk.i64_in _ (by omega)
        have hlr2 : ∀ i, i < ((lf ++ [sh.wide]).set lf.length (sh.wide - p)).length → 0 ≤ rdI ((lf ++ [sh.wide]).set lf.length (sh.wide - p)) i ∧ rdI ((lf ++ [sh.wide]).set lf.length (sh.wide - p)) i ≤ sh.wide := fun i hi => by
          rw [hl2] at hi
          rw [set_snoc]
          by_cases e : i < lf.length
          · rw [rdI_left e]; exact HLR.out i e
          · obtain rfl : i = lf.length := by omega
            rw [rdI_snoc]; omega
        go_wp2_with (first
          | (go_at_call 95; refine (clone_any Af cf lf lf.length _ rfl (by omega) HSLr.out).mono ?_; rintro e w1 ⟨v1, rfl, own1, hb1⟩; have hz1 := hb1.size; have c0 := (HSB.out.next (below_step hBw hb1)).cell 0 (.int .i16 sh.wide) rfl)
          | (at_builtin; refine wpList_app1B rfl (.tmp 42) (.tmp 46) _ rfl elI w1 wr.heap.size v1 lf.length _ rfl own1 _ _ rfl rfl rfl (by unfold maxLen; omega) (by omega) hz1 ?_; intro v2 w2 ho2 hg2 hwh2; have hb12 := below_own hb1 own1 hg2 (Nat.le_refl _) hz1; obtain ⟨g1, c1', cs1, rfl, hg1, hbk1, hl1⟩ := own_blk ho2 (by omega); have e2 : (lf.map i64 ++ [Value.int .i64 sh.wide]) = (lf ++ [sh.wide]).map i64 := (by simp [i64]); rw [e2] at hbk1; have hcl : w2.cell? ⟨g1, lf.length, none⟩ = some (.int .i64 sh.wide) := (by { have := blk_row_cell hbk1 (X := lf.length) (by simp); rwa [rdI_snoc] at this }); have hfr := hbk1.free lf.length))
        have hb2 : Below wr.heap.size wr (w2.setCell ⟨g1, lf.length, none⟩ (.int .i64 (sh.wide - p))) := hb12.setCell hg1 _
        have hbk2 := blk_row_set (v := sh.wide - p) (X := lf.length) hbk1 (by simp)
        generalize w2.setCell ⟨g1, lf.length, none⟩ (.int .i64 (sh.wide - p)) = W2 at hb2 hbk2 ⊢
        clear hcl hfr hbk1 own1 hb1 hsub hcv c0 ho2 hg2 hwh2 e2
        have hz2 := hb2.size
        have HNX := Lib.hid (hbk2)
        have HPT2 := Lib.hid (HOP.out.sl.next (below_step hBw hb2))
        have HSP2 := Lib.hid (HSP.out.next (below_step hBw hb2))
        have HSB2 := Lib.hid (HSB.out.next (below_step hBw hb2))
        refine held_begin (W2.heap.size) (by kernel_rfl) ?_
        have hS := below_drewN (Below.refl (W2.heap.size) W2) 1
        refine held_take 0 (.agg (shV sh).toArray) rfl (by kernel_rfl) (by kernel_rfl) (by kernel_rfl) (fun _ _ _ h => h) (by kernel_rfl) (fun w' hw' => exec_load_row 38 (.tmp 5) rfl (w.heap.size) (by kernel_rfl) 38 (shV sh).toArray _ _ (HSB2.out.next hw') Tryd.underlying38 rfl (szSh)) hS ?_
        refine held_take 1 (.slice (some a) ps.length cp) rfl (by kernel_rfl) (by kernel_rfl) (by kernel_rfl) (fun _ _ _ h => h) (by kernel_rfl) (fun w' hw' => by kernel_rfl) hS ?_
        refine held_take 2 (.int .i64 most) rfl (by kernel_rfl) (by kernel_rfl) (by kernel_rfl) (fun _ _ _ h => h) (by kernel_rfl) (fun w' hw' => by kernel_rfl) hS ?_
        refine held_take 3 (.slice Al path.length cl) rfl (by kernel_rfl) (by kernel_rfl) (by kernel_rfl) (fun _ _ _ h => h) (by kernel_rfl) (fun w' hw' => by kernel_rfl) hS ?_
        refine held_take 5 (.int .i64 lf.length) rfl (by kernel_rfl) (by kernel_rfl) (by kernel_rfl) (fun _ _ _ h => h) (by kernel_rfl) (fun w' hw' => by kernel_rfl) hS ?_
        refine held_take 8 (.slice (some ⟨g1, 0, none⟩) (lf.length + 1) c1') rfl (by kernel_rfl) (by kernel_rfl) (by kernel_rfl) (fun _ _ _ h => h) (by kernel_rfl) (fun w' hw' => by kernel_rfl) hS ?_
        refine held_clone_app 4 6 7 rfl rfl rfl (by decide) (by kernel_rfl) (by kernel_rfl) (by kernel_rfl) (by kernel_rfl) rfl rfl rfl 95 #[.slice Al path.length cl] (fun w' => by kernel_rfl) (fun p w' => by kernel_rfl) (.tmp 66) (.tmp 68) 31 rfl elI (.int .i64 lf.length) rfl (fun w' => by kernel_rfl) (fun p w' => by kernel_rfl) (fun p q => by kernel_rfl) (fun p q => by kernel_rfl) (fun p q => by kernel_rfl) path.length (path.map i64) (fun w' hw' => (clone_any Al cl path path.length w' rfl hpl20 (HPT2.out.next hw')).mono fun e w'' ⟨v, h1, h2, h3⟩ => ⟨v, h1, h2, h3⟩) (by unfold maxLen; omega) (by omega) (Nat.le_refl _) hS ?_
        intro q1 q2 v4 w4 hS own4
        obtain ⟨g4, c4, cs4, rfl, hg40, hbk4, hl4⟩ := own_blk own4 (by omega)
        have hz4 := hS.size
        have e4 : (path.map i64 ++ [Value.int .i64 (lf.length : Int)]) = (path ++ [(lf.length : Int)]).map i64 := by simp [i64]
        rw [e4] at hbk4
        have hcall := HIH.out (pre ++ [p]) (path ++ [(lf.length : Int)]) ((lf ++ [sh.wide]).set lf.length (sh.wide - p)) (some ⟨g4, 0, none⟩) (some ⟨g1, 0, none⟩) c4 c1' w4 (by rw [HPR.out]; simp) (by simp; exact HPL.out) (by rw [hl2]; omega) (by rw [hl2, List.length_append, List.length_singleton]; omega) hlr2 (by omega) (OwnS.of_blk hbk4 (by omega) hbk4.lt) (HSP2.out.next hS) (SlE.of_row (HNX.out.next hS).head)
        rw [List.length_append, List.length_singleton, hl2] at hcall
        refine held_call 9 58 #[.agg (shV sh).toArray, .slice (some a) ps.length cp, .int .i64 most, .slice (some ⟨g4, 0, none⟩) (path.length + 1) c4, .slice (some ⟨g1, 0, none⟩) (lf.length + 1) c1'] rfl (by kernel_rfl) (by kernel_rfl) (by kernel_rfl) ?_
        refine hcall.mono ?_
        rintro e w5 ⟨hb5, hno, hyes⟩
        have hb25 := below_step hb2 (below_step hS hb5)
        have hbw5 := below_step hBw hb25
        cases hr : fndP most (lvs sh.wide rest ((lf ++ [sh.wide]).set lf.length (sh.wide - p)) (path ++ [(lf.length : Int)]))
        · obtain rfl := hno hr
          have HNE := Lib.hid (show fndP most (lvk sh.wide p rest lf path (lf.length + 1)) = none by rw [lvk_yes hfit, fndP_app, HNO.out, hput, hr]; rfl)
          refine ⟨_, rfl, below_step hS hb5, ?_⟩
          have hS := below_step hS hb5
          refine held_take 10 (.tuple #[.slice none 0 0, .bool false]) rfl (by kernel_rfl) (by kernel_rfl) (by kernel_rfl) (fun _ _ _ h => h) (by kernel_rfl) (fun w' hw' => by kernel_rfl) hS ?_
          refine held_take 11 (.slice none 0 0) rfl (by kernel_rfl) (by kernel_rfl) (by kernel_rfl) (fun _ _ _ h => h) (by kernel_rfl) (fun w' hw' => by kernel_rfl) hS ?_
          refine held_take 12 (.bool false) rfl (by kernel_rfl) (by kernel_rfl) (by kernel_rfl) (fun _ _ _ h => h) (by kernel_rfl) (fun w' hw' => by kernel_rfl) hS ?_
          refine held_take 13 (.slice none 0 0) rfl (by kernel_rfl) (by kernel_rfl) (by kernel_rfl) (fun _ _ _ h => h) (by kernel_rfl) (fun w' hw' => by kernel_rfl) hS ?_
          refine held_take 14 (.bool false) rfl (by kernel_rfl) (by kernel_rfl) (by kernel_rfl) (fun _ _ _ h => h) (by kernel_rfl) (fun w' hw' => by kernel_rfl) hS ?_
          refine held_done (by kernel_rfl) ?_
          simp only [Act.put, List.setIfInBounds_toArray, List.set_cons_succ, List.set_cons_zero]
          clear hno hyes hcall hr hput hb25 hS hbk4 own4 hb5 e4
          go_wp2
          go_roundw
          case rel => exact ⟨lf.length + 1, by omega, by go_num, HNE.out, hbw5⟩
          case measure => simp [intOf]; omega
        · rename_i x
          obtain ⟨A5, c5, rfl, o5⟩ := hyes x hr
          have HYE := Lib.hid (show fndP most (lvk sh.wide p rest lf path (lf.length + 1)) = some x by rw [lvk_yes hfit, fndP_app, HNO.out, hput, hr]; rfl)
          have HALL := Lib.hid (show fndP most (lvs sh.wide (p :: rest) lf path) = some x by
            obtain ⟨R, hR⟩ := lvk_more (w := sh.wide) (p := p) (ps := rest) (lf := lf) (path := path) (k := lf.length + 1) (lf.length + 1) (by omega)
            rw [lvs_cons, hR, fndP_app, HYE.out]; rfl)
          refine ⟨_, rfl, below_step hS hb5, ?_⟩
          have hS := below_step hS hb5
          refine held_take 10 (.tuple #[.slice A5 x.1.length c5, .bool true]) rfl (by kernel_rfl) (by kernel_rfl) (by kernel_rfl) (fun _ _ _ h => h) (by kernel_rfl) (fun w' hw' => by kernel_rfl) hS ?_
          refine held_take 11 (.slice A5 x.1.length c5) rfl (by kernel_rfl) (by kernel_rfl) (by kernel_rfl) (fun _ _ _ h => h) (by kernel_rfl) (fun w' hw' => by kernel_rfl) hS ?_
          refine held_take 12 (.bool true) rfl (by kernel_rfl) (by kernel_rfl) (by kernel_rfl) (fun _ _ _ h => h) (by kernel_rfl) (fun w' hw' => by kernel_rfl) hS ?_
          refine held_take 13 (.slice A5 x.1.length c5) rfl (by kernel_rfl) (by kernel_rfl) (by kernel_rfl) (fun _ _ _ h => h) (by kernel_rfl) (fun w' hw' => by kernel_rfl) hS ?_
          refine held_take 14 (.bool true) rfl (by kernel_rfl) (by kernel_rfl) (by kernel_rfl) (fun _ _ _ h => h) (by kernel_rfl) (fun w' hw' => by kernel_rfl) hS ?_
          refine held_done (by kernel_rfl) ?_
          simp only [Act.put, List.setIfInBounds_toArray, List.set_cons_succ, List.set_cons_zero]
          clear hno hyes hcall hr hput hb25 hS hbk4 own4 hb5 e4
          go_wp2
          go_ret2
          refine ⟨below_step hB0 hbw5, fun h => (by rw [HALL.out] at h; cases h), fun y hy => ?_⟩
          rw [HALL.out] at hy
          obtain rfl := Option.some.inj hy
          exact ⟨A5, c5, rfl, o5⟩
    · obtain rfl : k = M := by omega
      have HALL := Lib.hid (show fndP most (lvs sh.wide (p :: rest) lf path) = none by
        rw [lvs_cons]
        by_cases hm1 : lf.length + 1 ≤ most
        · rw [show lf.length + 1 = k by omega]; exact HNO.out
        · have e : k = lf.length := by omega
          rw [e] at HNO
          rw [lvk_yes (fitS_new lf p), fndP_app, HNO.out]
          show fndP most _ = none
          rw [fndP_none]
          intro x hx
          have := (lvs_ge sh.wide rest _ _ x hx).1
          rw [putS_length, if_pos rfl] at this
          omega)
      go_wp2
      go_ret2
      exact ⟨below_step hB0 hbel, fun _ => rfl, fun x hx => (by rw [HALL.out] at hx; cases hx)⟩
end Go.Proofs.YtonnplaacebekaaDoor
