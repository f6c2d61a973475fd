/- Contracts: the gaps of a word, by the program. -/
import Derived.Test.YtjgflkoefimmoaaDoorGapsS
namespace Go.Proofs.YtjgflkoefimmoaaDoor
open Go Go.RowKit
set_option linter.unusedVariables false
set_option linter.unusedSimpArgs false

theorem vWord_split {l : List UInt8} (h : vWord l = true) : vText l = true ∧ isW l = true := by unfold vWord at h; simpa using h
theorem gapsOut_vw {f : Fc} {l : List UInt8} (h : vWord l = false) : gapsOut f l = ([], 1) := by
  unfold vWord at h
  unfold gapsOut
  rw [h]; simp

theorem own_next {w w' : World} {base : Nat} {e : TypeId} {z : Nat} {v : Value} {n : Nat} {xs : List Value} (h : w.ownsRow base e z v n xs) (hb : Below w.heap.size w w') : w'.ownsRow base e z v n xs :=
  h.kept (row := none) ⟨hb.os, hb.tape, hb.output, hb.size, fun k hk _ => hb.block k hk⟩ (by cases v.ownBlock <;> simp)

attribute [local irreducible] wpAnyH in
set_option maxHeartbeats 2000000 in
set_option maxRecDepth 100000 in
theorem gaps_impl (f : Fc) (A : Option Addr) (n c : Nat) (s : ByteArray) (w : World) (hf : FcT f) (hn : f.pairs.length = n) (hm : n ≤ 1048576) (hs : s.size ≤ 1048576) (h : SlP w A f.pairs) (hmx : MaxW w) :
    Calls Tryd.prog 15 #[.agg (fcV f (.slice A n c)).toArray, .string s] w (ListOut w (gapsOut f (bs s)).1 (gapsOut f (bs s)).2) := by
  have hB := below_one w (.cells (fcV f (.slice A n c)).toArray 33)
  have hk := Blk.new w 33 (fcV f (.slice A n c))
  have hsl := h.next hB
  have hmx := hmx.next hB
  have HF := Lib.hid hf
  have HN := Lib.hid hn
  have HS := Lib.hid hsl
  have HM := Lib.hid hmx
  have hsz : (fcV f (.slice A n c)).toArray.size = 29 := by simp [fcV_length hf]
  have HZ := Lib.hid (show (Tryd.prog.info? 33).map (·.size) = some (fcV f (.slice A n c)).toArray.size by rw [hsz]; exact szFcI)
  clear hf hn h hmx hsl hsz
  cases hv : validF f
  · have HO := Lib.hid (gapsOut_f (l := bs s) hv)
    rw [HO.out]
    go_enter Tryd.func15, Tryd.ntmps15
    go_wp2_with (first
      | (refine wpList_load_row rfl 33 (.tmp 2) rfl _ rfl 33 (fcV f (.slice A n c)).toArray _ _ hk Tryd.underlying33 rfl HZ.out ?_)
      | (go_at_call 45; refine (face_impl f A n c _ HF.out HN.out hm HS.out).mono ?_; rintro e w1 ⟨rfl, hb⟩; have hB := below_step hB hb; clear hb))
    go_ret2
    exact ⟨_, _, rfl, hB, OwnS.nil⟩
  · cases hw : vWord (bs s)
    · have HO := Lib.hid (gapsOut_vw (f := f) hw)
      rw [HO.out]
      go_enter Tryd.func15, Tryd.ntmps15
      go_wp2_with (first
        | (refine wpList_load_row rfl 33 (.tmp 2) rfl _ rfl 33 (fcV f (.slice A n c)).toArray _ _ hk Tryd.underlying33 rfl HZ.out ?_)
        | (go_at_call 45; refine (face_impl f A n c _ HF.out HN.out hm HS.out).mono ?_; rintro e w1 ⟨rfl, hb⟩; have hB := below_step hB hb; have hmx := HM.out.next hb; clear hb)
        | (go_at_call 46; refine (word_impl s _ hs hmx).mono ?_; rintro e w2 ⟨rfl, q, rfl⟩; have hB := below_drewN hB q))
      go_ret2
      exact ⟨_, _, rfl, hB, OwnS.nil⟩
    · obtain ⟨ht, hw2⟩ := vWord_split hw
      have HO := Lib.hid (gapsOut_ok hv ht hw2)
      rw [HO.out]
      clear HO
      have h60 : s.size ≤ 60 := by have := (vText_iff.1 ht).2; rwa [bs_length] at this
      have hpos : 1 ≤ s.size := by have := (isW_iff.1 hw2).2; rwa [bs_length] at this
      have HVV := Lib.hid (validF_iff.1 hv)
      have bg := (validF_iff.1 hv).gap
      clear ht hw2
      go_enter Tryd.func15, Tryd.ntmps15
      go_wp2_with (first
        | (refine wpList_load_row rfl 33 (.tmp 2) rfl _ rfl 33 (fcV f (.slice A n c)).toArray _ _ hk Tryd.underlying33 rfl HZ.out ?_)
        | (go_at_call 45; refine (face_impl f A n c _ HF.out HN.out hm HS.out).mono ?_; rintro e w1 ⟨rfl, hb⟩; have hW := hb; have hmx := HM.out.next hb; clear hb)
        | (go_at_call 46; refine (word_impl s _ hs hmx).mono ?_; rintro e w2 ⟨rfl, q, rfl⟩; have hW := below_drewN hW q))
      have HK := Lib.hid hk
      clear hk hmx HM hw
      obtain ⟨b0, hb0⟩ : ∃ b0, b0 = w.heap.size := ⟨_, rfl⟩
      rw [← hb0] at HK ⊢
      clear hb0
      generalize w.alloc (.cells (fcV f (.slice A n c)).toArray 33) = W0 at *
      have hsz1 := hW.size
      go_loopw [6, 7] (fun v i wr => ∃ k : Nat, 1 ≤ k ∧ k ≤ s.size ∧ i = .int .i64 k ∧ GapRel f (bs s) W0 wr v k) (fun _ i _ => s.size - (intOf i).toNat)
      case atStart => exact ⟨1, by omega, hpos, rfl, by rw [gapsW_one]; exact own_empty _ _ rfl _ _ hsz1 1, step_alloc hW _⟩
      case round =>
        clear hsz1 hW
        obtain ⟨k, hk1, hk, rfl, h⟩ := hrel
        have hown := h.own
        have hbel := h.below
        clear h
        have hsz := hbel.size
        by_cases hlt : k < s.size
        · have hb2 := HVV.out.by (byS s (k - 1)) (byS s k)
          have hsub : IntKind.i64.wrap ((k : Int) - 1) = ((k - 1 : Nat) : Int) := by rw [IntWalk.i64_in _ (by omega)]; omega
          have hcv : IntKind.i64.wrap f.gap = f.gap := IntWalk.i64_in _ (by omega)
          have hadd : IntKind.i64.wrap (f.gap + byP f.pairs (byS s (k - 1)) (byS s k)) = f.gap + byP f.pairs (byS s (k - 1)) (byS s k) := IntWalk.i64_in _ (by omega)
          have HG := Lib.hid (gapsW_succ (f := f) (l := bs s) (k := k) (by omega))
          have hgl := gapsW_length f (bs s) k
          go_wp2
          refine held_begin (W0.heap.size) (by kernel_rfl) ?_
          have hS := below_drewN (Below.refl (W0.heap.size) wr) 1
          refine held_take 0 (u6) rfl (by kernel_rfl) (by kernel_rfl) (by kernel_rfl) (fun _ _ _ h => h) (by kernel_rfl) (fun w' hw' => by kernel_rfl) hS ?_
          refine held_take 1 (.pointer (some ⟨b0, 27, none⟩)) rfl (by kernel_rfl) (by kernel_rfl) (by kernel_rfl) (fun _ _ _ h => h) (by kernel_rfl) (fun w' hw' => by kernel_rfl) hS ?_
          refine held_take 2 (.int .i8 f.gap) rfl (by kernel_rfl) (by kernel_rfl) (by kernel_rfl) (fun _ _ _ h => h) (by kernel_rfl) (fun w' hw' => exec_load1 22 (.tmp 24) rfl ⟨b0, 27, none⟩ (by kernel_rfl) (.int .i8 f.gap) ((HK.out.next (hbel.trans hw')).cell 27 _ (fcV_gap HF.out _)) _ Tryd.underlying22 rfl) hS ?_
          refine held_take 3 (.int .i64 f.gap) rfl (by kernel_rfl) (by kernel_rfl) (by kernel_rfl) (fun _ _ _ h => h) (by kernel_rfl) (fun w' hw' => Eq.trans (show (execOp _ _).run _ w' = .ok (.value (.int .i64 (IntKind.i64.wrap f.gap))) w' by kernel_rfl) (by rw [hcv])) hS ?_
          refine held_take 4 (.agg (fcV f (.slice A n c)).toArray) rfl (by kernel_rfl) (by kernel_rfl) (by kernel_rfl) (fun _ _ _ h => h) (by kernel_rfl) (fun w' hw' => exec_load_row 33 (.tmp 2) rfl (b0) (by kernel_rfl) 33 (fcV f (.slice A n c)).toArray _ _ (HK.out.next (hbel.trans hw')) Tryd.underlying33 rfl (HZ.out)) hS ?_
          refine held_take 5 (.string s) rfl (by kernel_rfl) (by kernel_rfl) (by kernel_rfl) (fun _ _ _ h => h) (by kernel_rfl) (fun w' hw' => by kernel_rfl) hS ?_
          refine held_take 6 (.int .i64 k) rfl (by kernel_rfl) (by kernel_rfl) (by kernel_rfl) (fun _ _ _ h => h) (by kernel_rfl) (fun w' hw' => by kernel_rfl) hS ?_
          refine held_take 7 (.int .i64 ((k - 1 : Nat) : Int)) rfl (by kernel_rfl) (by kernel_rfl) (by kernel_rfl) (fun _ _ _ h => h) (by kernel_rfl) (fun w' hw' => Eq.trans (show (execOp _ _).run _ w' = .ok (.value (.int .i64 (IntKind.i64.wrap ((k : Int) - 1)))) w' by kernel_rfl) (by rw [hsub])) hS ?_
          refine held_take 8 (.int .u8 (byS s (k - 1))) rfl (by kernel_rfl) (by kernel_rfl) (by kernel_rfl) (fun _ _ _ h => h) (by kernel_rfl) (fun w' hw' => exec_byte (.tmp 28) (.tmp 30) rfl s (by kernel_rfl) (k - 1) (by kernel_rfl) (by omega)) hS ?_
          refine held_take 9 (.string s) rfl (by kernel_rfl) (by kernel_rfl) (by kernel_rfl) (fun _ _ _ h => h) (by kernel_rfl) (fun w' hw' => by kernel_rfl) hS ?_
          refine held_take 10 (.int .i64 k) rfl (by kernel_rfl) (by kernel_rfl) (by kernel_rfl) (fun _ _ _ h => h) (by kernel_rfl) (fun w' hw' => by kernel_rfl) hS ?_
          refine held_take 11 (.int .u8 (byS s k)) rfl (by kernel_rfl) (by kernel_rfl) (by kernel_rfl) (fun _ _ _ h => h) (by kernel_rfl) (fun w' hw' => exec_byte (.tmp 32) (.tmp 33) rfl s (by kernel_rfl) k (by kernel_rfl) hlt) hS ?_
          refine held_call 12 47 #[.agg (fcV f (.slice A n c)).toArray, .int .u8 (byS s (k - 1)), .int .u8 (byS s k)] rfl (by kernel_rfl) (by kernel_rfl) (by kernel_rfl) ?_
          refine (by_impl f A n c _ _ _ HF.out HN.out hm (HS.out.next (hbel.trans hS))).mono ?_
          rintro e w1 ⟨rfl, hb⟩
          have hS := hS.trans (hb.mono (by exact hsz))
          refine ⟨_, rfl, hS, ?_⟩
          have hown1 := own_next (show World.ownsRow (World.drewN wr 1) _ _ _ _ _ _ from hown) hb
          have hsz1 := hb.size
          have hszw : W0.heap.size ≤ w1.heap.size := Nat.le_trans hsz hsz1
          clear hb
          refine held_take 13 (.int .i64 (f.gap + byP f.pairs (byS s (k - 1)) (byS s k))) rfl (by kernel_rfl) (by kernel_rfl) (by kernel_rfl) (fun _ _ _ h => h) (by kernel_rfl) (fun w' hw' => Eq.trans (show (execOp _ _).run _ w' = .ok (.value (.int .i64 (IntKind.i64.wrap (f.gap + byP f.pairs (byS s (k - 1)) (byS s k))))) w' by kernel_rfl) (by rw [hadd])) hS ?_
          refine held_val 14 (.slice (some ⟨w1.heap.size, 0, none⟩) 1 1) (w1.alloc (.cells #[.int .i64 (f.gap + byP f.pairs (byS s (k - 1)) (byS s k))] 2)) rfl (by kernel_rfl) (by kernel_rfl) (by kernel_rfl) (hS.alloc hszw _) ?_
          refine held_app1 15 (.tmp 23) (.tmp 37) 28 rfl (by kernel_rfl) (by kernel_rfl) rfl elI w1 (W0.heap.size) u6 ((gapsW f (bs s) k).length) ((gapsW f (bs s) k).map i64) (by kernel_rfl) hown1 (.int .i64 (f.gap + byP f.pairs (byS s (k - 1)) (byS s k))) (by kernel_rfl) rfl (by unfold maxLen; omega) (by omega) (hszw) (Nat.le_refl _) hS ?_
          intro v' w' ho' hg' hS'
          have hS := hS'
          refine held_take 16 (v') rfl (by kernel_rfl) (by kernel_rfl) (by kernel_rfl) (fun _ _ _ h => h) (by kernel_rfl) (fun w' hw' => by kernel_rfl) hS ?_
          refine held_done (by kernel_rfl) ?_
          simp only [Act.put, List.setIfInBounds_toArray, List.set_cons_succ, List.set_cons_zero]
          have hbel := hbel.trans hS
          clear hS hS' hg' hadd hcv hsub hown1 hsz1 hszw
          go_wp2
          go_roundw
          case rel =>
            refine ⟨k + 1, by omega, by omega, by go_num, ?_, hbel⟩
            rw [HG.out, List.length_append, List.map_append]
            exact ho'
          case measure => simp [intOf]; omega
        · obtain rfl : k = s.size := by omega
          rw [← bs_length] at hown
          go_wp2
          go_ret2
          exact listOut_own hown (hB.trans (hbel.mono hB.size)) hB.size
end Go.Proofs.YtjgflkoefimmoaaDoor
