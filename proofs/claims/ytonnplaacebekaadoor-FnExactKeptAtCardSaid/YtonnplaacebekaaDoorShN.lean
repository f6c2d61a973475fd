/- Contracts: the code and the pieces of a cut, by the reference. -/
import Derived.Test.YtonnplaacebekaaDoorShM

namespace Go.Proofs.YtonnplaacebekaaDoor
open Go Go.RowKit
set_option linter.unusedVariables false
set_option linter.unusedSimpArgs false

/-- The pieces and the code of a cut. -/
def cutR (f : Fc) (s : Sh) (l : List UInt8) (most : Int) : List Int × Int :=
  if shC f s l = 0 then
    if most < ((pcs f s.over (lets l)).length : Int) then ([], 3)
    else if ∀ k, k < (pcs f s.over (lets l)).length → rdI (pcs f s.over (lets l)) k ≤ s.wide then (pcs f s.over (lets l), 0) else ([], 6)
  else ([], shC f s l)
theorem cutR_bad {f : Fc} {s : Sh} {l : List UInt8} {most : Int} (h : ¬ shC f s l = 0) : cutR f s l most = ([], shC f s l) := by unfold cutR; rw [if_neg h]
theorem cutR_long {f : Fc} {s : Sh} {l : List UInt8} {most : Int} (h : shC f s l = 0) (k : most < ((pcs f s.over (lets l)).length : Int)) : cutR f s l most = ([], 3) := by unfold cutR; rw [if_pos h, if_pos k]
theorem cutR_wide {f : Fc} {s : Sh} {l : List UInt8} {most : Int} (h : shC f s l = 0) (k : ¬ most < ((pcs f s.over (lets l)).length : Int)) {j : Nat} (hj : j < (pcs f s.over (lets l)).length) (hw : s.wide < rdI (pcs f s.over (lets l)) j) : cutR f s l most = ([], 6) := by
  unfold cutR
  rw [if_pos h, if_neg k, if_neg (fun hh => by have := hh j hj; omega)]
theorem cutR_ok {f : Fc} {s : Sh} {l : List UInt8} {most : Int} (h : shC f s l = 0) (k : ¬ most < ((pcs f s.over (lets l)).length : Int)) (hw : ∀ j, j < (pcs f s.over (lets l)).length → rdI (pcs f s.over (lets l)) j ≤ s.wide) : cutR f s l most = (pcs f s.over (lets l), 0) := by
  unfold cutR
  rw [if_pos h, if_neg k, if_pos hw]
def LcOut (w : World) (r : List Int × Int) (e : Ending) (w' : World) : Prop :=
  ∃ A c, e = .returned (.tuple #[.slice A r.1.length c, .int .i64 r.2]) ∧ Below w.heap.size w w' ∧ OwnS w' w.heap.size w'.heap.size A r.1

attribute [local irreducible] wpQuiet in
set_option maxHeartbeats 2000000 in
set_option maxRecDepth 100000 in
theorem cut_spec (f : Fc) (n b0 b : Nat) (sh : Sh) (s : ByteArray) (most : Int) (w : World) (hf : FcT f) (hn : f.pairs.length = n) (hm : n ≤ 1048576) (hs : s.size ≤ 1048576) (hsh : ShT sh) (h : FcAt w b0 f n) (hb : Blk w b 38 (shV sh)) :
    Calls Tryd.prog 41 #[.pointer (some ⟨b0, 0, none⟩), .pointer (some ⟨b, 0, none⟩), .string s, .int .i64 most] w (LcOut w (cutR f sh (bs s) most)) := by
  have HF := Lib.hid hf
  have HN := Lib.hid hn
  have HA := Lib.hid h
  have HB := Lib.hid hb
  have HS := Lib.hid hsh
  have hwr := hsh.wide
  clear hf hn h hb hsh
  obtain ⟨cd, hcd⟩ : ∃ cd, cd = shC f sh (bs s) := ⟨_, rfl⟩
  have HC := Lib.hid hcd
  by_cases h0 : cd = 0
  · have hz := hcd.symm.trans h0
    obtain ⟨hv, hk, ht⟩ := shC_zero hz
    have HVV := Lib.hid (validF_iff.1 hv)
    have HK := Lib.hid hk
    have HT := Lib.hid ht
    have HZ := Lib.hid hz
    subst h0
    clear hv hk ht hcd hz
    obtain ⟨D, hD⟩ : ∃ D, D = pcs f sh.over (lets (bs s)) := ⟨_, rfl⟩
    have HDD := Lib.hid hD
    have hDl : D.length ≤ 1048576 := by
      have := lets_length (bs s)
      rw [bs_length] at this
      rw [hD, pcs_length]; omega
    by_cases hlong : most < (D.length : Int)
    · have HO := Lib.hid (cutR_long HZ.out (by rw [← hD]; exact hlong))
      rw [HO.out]
      clear hD
      go_enter Tryd.func41, Tryd.ntmps41
      go_wp2_with (first
        | (go_at_call 50; refine (shAsked_spec f n b0 b sh s _ HF.out HN.out hm hs HS.out HA.out HB.out).mono ?_; rintro e w1 ⟨he, hb⟩; rw [← HC.out] at he; subst he; have hb1 := hb; clear hb)
        | (go_at_call 52; refine (pieces_spec f n b0 b sh s w1 HF.out HVV.out HN.out hm hs HT.out HK.out (HA.out.next hb1) (HB.out.next hb1)).mono ?_; rw [← HDD.out]; rintro e w2 ⟨A1, c1, rfl, hb2, ho⟩))
      go_ret2
      exact ⟨_, _, rfl, (below_step hb1 hb2).alloc (below_step hb1 hb2).size _, OwnS.nil⟩
    · have HNL := Lib.hid hlong
      clear hD
      go_enter Tryd.func41, Tryd.ntmps41
      go_wp2_with (first
        | (go_at_call 50; refine (shAsked_spec f n b0 b sh s _ HF.out HN.out hm hs HS.out HA.out HB.out).mono ?_; rintro e w1 ⟨he, hb⟩; rw [← HC.out] at he; subst he; have hb1 := hb; clear hb)
        | (go_at_call 52; refine (pieces_spec f n b0 b sh s w1 HF.out HVV.out HN.out hm hs HT.out HK.out (HA.out.next hb1) (HB.out.next hb1)).mono ?_; rw [← HDD.out]; rintro e w2 ⟨A1, c1, rfl, hb2, ho⟩))
      have hB0 := below_step hb1 hb2
      have HBEL := Lib.hid hB0
      have HB2 := Lib.hid (HB.out.next hB0)
      have HO1 := Lib.hid (ho.low hb1.size)
      clear hb1 hb2 ho hB0
      go_loopw [12] (fun i wr => ∃ k : Nat, k ≤ D.length ∧ i = .int .i64 k ∧ (∀ j, j < k → rdI D j ≤ sh.wide) ∧ Below w2.heap.size w2 wr) (fun i _ => D.length - (intOf i).toNat)
      case atStart => exact ⟨0, by omega, rfl, fun j hj => by omega, Below.refl _ _⟩
      case round =>
        obtain ⟨k, hk, rfl, hall, hbel⟩ := hrel
        have HALL := Lib.hid hall
        clear hall
        by_cases hlt : k < D.length
        · obtain ⟨a, rfl, hrow⟩ := (HO1.out.next hbel).sl.some k hlt
          have HROW := Lib.hid hrow
          have hcv : IntKind.i64.wrap sh.wide = sh.wide := IntWalk.i64_in _ (by omega)
          clear hrow
          go_wp2
          refine region_below (wr.heap.size) (by kernel_rfl) (by kernel_rfl) ?_
          refine below_run (by kernel_rfl) (.slice (some a) D.length c1) (fun w' hw' => by kernel_rfl) ?_
          refine below_run (by kernel_rfl) (.int .i64 k) (fun w' hw' => by kernel_rfl) ?_
          refine below_run (by kernel_rfl) (.pointer (some (Addr.add a (k * 1)))) (fun w' hw' => exec_index 31 (.tmp 36) (.tmp 37) rfl a D.length c1 (by kernel_rfl) .i64 k (by kernel_rfl) hlt 2 Tryd.underlying31 1 (by kernel_rfl)) ?_
          refine below_run (by kernel_rfl) (.int .i64 (rdI D k)) (fun w' hw' => exec_load1 2 (.tmp 38) rfl (a.add (k * 1)) (by kernel_rfl) (.int .i64 (rdI D k)) (by rw [Nat.mul_one]; exact rowI_cell (HO1.out.next (hbel.trans (hw'.mono hbel.size))).sl k hlt) _ Tryd.underlying2 rfl) ?_
          refine below_run (by kernel_rfl) (.pointer (some ⟨b, 0, none⟩)) (fun w' hw' => by kernel_rfl) ?_
          refine below_run (by kernel_rfl) (.pointer (some ⟨b, 0, none⟩)) (fun w' hw' => by kernel_rfl) ?_
          refine below_run (by kernel_rfl) (.pointer (some ⟨b, 0, none⟩)) (fun w' hw' => by kernel_rfl) ?_
          refine below_run (by kernel_rfl) (.int .i16 sh.wide) (fun w' hw' => exec_load1 27 (.tmp 42) rfl ⟨b, 0, none⟩ (by kernel_rfl) (.int .i16 sh.wide) (((HB2.out.next hbel).next hw').cell 0 (.int .i16 sh.wide) rfl) _ Tryd.underlying27 rfl) ?_
          refine below_run (by kernel_rfl) (.int .i64 sh.wide) (fun w' hw' => Eq.trans (show (execOp _ _).run _ w' = .ok (.value (.int .i64 (IntKind.i64.wrap sh.wide))) w' by kernel_rfl) (by rw [hcv])) ?_
          refine below_run (by kernel_rfl) (.bool (decide (sh.wide < rdI D k))) (fun w' hw' => by kernel_rfl) ?_
          refine wpQuiet_nil ?_
          intro W2 hW2
          simp only [Act.put, List.setIfInBounds_toArray, List.set_cons_succ, List.set_cons_zero]
          have hbel := below_step hbel hW2
          clear hW2
          by_cases hw : sh.wide < rdI D k
          · have HO := Lib.hid (cutR_wide (most := most) (j := k) HZ.out (by rw [← HDD.out]; have := HNL.out; omega) (by rw [← HDD.out]; exact hlt) (by rw [← HDD.out]; exact hw))
            go_wp2
            go_ret2
            rw [HO.out]
            exact ⟨_, _, rfl, (below_step HBEL.out hbel).alloc (below_step HBEL.out hbel).size _, OwnS.nil⟩
          · go_wp2
            go_roundw
            case rel =>
              refine ⟨k + 1, by omega, by go_num, fun j hj => ?_, hbel⟩
              by_cases e : j = k
              · subst e; omega
              · exact HALL.out j (by omega)
            case measure => simp [intOf]; omega
        · obtain rfl : k = D.length := by omega
          have HO := Lib.hid (cutR_ok (most := most) HZ.out (by rw [← HDD.out]; have := HNL.out; omega) (by rw [← HDD.out]; exact HALL.out))
          go_wp2
          go_ret2
          rw [HO.out, ← HDD.out]
          exact ⟨A1, c1, rfl, below_step HBEL.out hbel, fun hn => by obtain ⟨g, cs, e, h1, h2, h3⟩ := (HO1.out.next hbel) hn; exact ⟨g, cs, e, h1, by have := hbel.size; omega, h3⟩⟩
  · have HO := Lib.hid (cutR_bad (most := most) (fun h => h0 (hcd.trans h)))
    rw [HO.out, ← HC.out]
    clear hcd
    go_enter Tryd.func41, Tryd.ntmps41
    go_wp2_with (go_at_call 50; refine (shAsked_spec f n b0 b sh s _ HF.out HN.out hm hs HS.out HA.out HB.out).mono ?_; rintro e w1 ⟨he, hb⟩; rw [← HC.out] at he; subst he; have hb1 := hb; clear hb)
    go_ret2
    exact ⟨_, _, rfl, hb1.alloc hb1.size _, OwnS.nil⟩
end Go.Proofs.YtonnplaacebekaaDoor
