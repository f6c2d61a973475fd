/- Contracts: the gaps of a word, by the reference. -/
import Derived.Test.YtjgflkoefimmoaaDoorFcJ
import Derived.Test.YtjgflkoefimmoaaDoorGapsP
import Derived.Test.YtjgflkoefimmoaaDoorMark
import Derived.Test.YtjgflkoefimmoaaDoorHeld
namespace Go.Proofs.YtjgflkoefimmoaaDoor
open Go Go.RowKit
set_option linter.unusedVariables false
set_option linter.unusedSimpArgs false

theorem elI : El Tryd.prog 28 2 (.int .i64 0) 1 8 := ⟨Tryd.underlying28, by kernel_rfl, rfl, by decide⟩
/-- A list of numbers in memory of the call's own, and a code. -/
def ListOut (w : World) (xs : List Int) (code : Int) (e : Ending) (w' : World) : Prop :=
  ∃ A c, e = .returned (.tuple #[.slice A xs.length c, .int .i64 code]) ∧ Below w.heap.size w w' ∧ OwnS w' w.heap.size w'.heap.size A xs
structure GapRel (f : Fc) (l : List UInt8) (W0 wr : World) (v : Value) (k : Nat) : Prop where
  own : wr.ownsRow W0.heap.size 2 1 v (gapsW f l k).length ((gapsW f l k).map i64)
  below : Below W0.heap.size W0 wr
theorem listOut_own {w w' : World} {base : Nat} {v : Value} {n : Nat} {xs : List Int} {code : Int} (hw : w'.ownsRow base 2 1 v n (xs.map i64)) (hb : Below w.heap.size w w') (hB : w.heap.size ≤ base) :
    ListOut w xs code (.returned (.tuple #[v, .int .i64 code])) w' := by
  obtain ⟨A, c, rfl, hl, ho⟩ := OwnS.of_own hw
  refine ⟨A, c, rfl, hb, fun hn => ?_⟩
  obtain ⟨g, cs, e, h1, h2, h3⟩ := ho hn
  exact ⟨g, cs, e, by omega, h2, h3⟩

attribute [local irreducible] wpAnyH in
set_option maxHeartbeats 2000000 in
set_option maxRecDepth 100000 in
theorem gaps_spec (f : Fc) (A : Option Addr) (n c : Nat) (s : ByteArray) (w : World) (hf : FcT f) (hn : f.pairs.length = n) (hm : n ≤ 1048576) (hs : s.size ≤ 1048576) (h : SlP w A f.pairs) :
    Calls Tryd.prog 13 #[.agg (fcV f (.slice A n c)).toArray, .string s] w (ListOut w (gapsOut f (bs s)).1 (gapsOut f (bs s)).2) := by
  have hB := below_one w (.cells (fcV f (.slice A n c)).toArray 33)
  have hk := Blk.new w 33 (fcV f (.slice A n c))
  have HK := Lib.hid hk
  have hfa : FcAt (w.alloc (.cells (fcV f (.slice A n c)).toArray 33)) w.heap.size f n := ⟨A, c, hk, h.next hB⟩
  have HF := Lib.hid hf
  have HN := Lib.hid hn
  have HA := Lib.hid hfa
  clear hf hn h hfa hk
  cases hv : validF f
  · have HO := Lib.hid (gapsOut_f (l := bs s) hv)
    rw [HO.out]
    go_enter Tryd.func13, Tryd.ntmps13
    go_wp2_with (go_at_call 39; refine (face_spec f n w.heap.size _ HF.out HN.out hm HA.out).mono ?_; rintro e w1 ⟨rfl, hb⟩; have hB := below_step hB hb; clear hb)
    go_ret2
    exact ⟨_, _, rfl, step_alloc hB _, OwnS.nil⟩
  · cases ht : vText (bs s)
    · have HO := Lib.hid (gapsOut_t (f := f) ht)
      rw [HO.out]
      go_enter Tryd.func13, Tryd.ntmps13
      go_wp2_with (first
        | (go_at_call 39; refine (face_spec f n w.heap.size _ HF.out HN.out hm HA.out).mono ?_; rintro e w1 ⟨rfl, hb⟩; have hB := below_step hB hb; clear hb)
        | (go_at_call 40; refine (text_spec s _ hs).mono ?_; rintro e w2 ⟨rfl, rfl⟩))
      go_ret2
      exact ⟨_, _, rfl, step_alloc hB _, OwnS.nil⟩
    · cases hw : isW (bs s)
      · have HO := Lib.hid (gapsOut_w (f := f) hw)
        rw [HO.out]
        go_enter Tryd.func13, Tryd.ntmps13
        go_wp2_with (first
          | (go_at_call 39; refine (face_spec f n w.heap.size _ HF.out HN.out hm HA.out).mono ?_; rintro e w1 ⟨rfl, hb⟩; have hB := below_step hB hb; clear hb)
          | (go_at_call 40; refine (text_spec s _ hs).mono ?_; rintro e w2 ⟨rfl, rfl⟩)
          | (go_at_call 41; refine (word_spec s _ hs).mono ?_; rintro e w2 ⟨rfl, rfl⟩))
        go_ret2
        exact ⟨_, _, rfl, step_alloc hB _, OwnS.nil⟩
      · have HO := Lib.hid (gapsOut_ok hv ht hw)
        rw [HO.out]
        clear HO
        have h60 : s.size ≤ 60 := by have := (vText_iff.1 ht).2; rwa [bs_length] at this
        have hpos : 1 ≤ s.size := by have := (isW_iff.1 hw).2; rwa [bs_length] at this
        have HVV := Lib.hid (validF_iff.1 hv)
        have bg := (validF_iff.1 hv).gap
        go_enter Tryd.func13, Tryd.ntmps13
        go_wp2_with (first
          | (go_at_call 39; refine (face_spec f n w.heap.size _ HF.out HN.out hm HA.out).mono ?_; rintro e w1 ⟨rfl, hb⟩; have hW := hb; clear hb)
          | (go_at_call 40; refine (text_spec s _ hs).mono ?_; rintro e w2 ⟨rfl, rfl⟩)
          | (go_at_call 41; refine (word_spec s _ hs).mono ?_; rintro e w2 ⟨rfl, rfl⟩))
        obtain ⟨b0, hb0⟩ : ∃ b0, b0 = w.heap.size := ⟨_, rfl⟩
        rw [← hb0] at HK HA ⊢
        clear hb0
        generalize w.alloc (.cells (fcV f (.slice A n c)).toArray 33) = W0 at *
        have hsz1 := hW.size
        go_loopw [6, 7] (fun v i wr => ∃ k : Nat, 1 ≤ k ∧ k ≤ s.size ∧ i = .int .i64 k ∧ GapRel f (bs s) W0 wr v k) (fun _ i _ => s.size - (intOf i).toNat)
        case atStart => exact ⟨1, by omega, hpos, rfl, by rw [gapsW_one]; exact own_empty _ _ rfl _ _ hsz1 1, step_alloc hW _⟩
        case round =>
          clear hsz1 hW
          obtain ⟨k, hk1, hk, rfl, h⟩ := hrel
          have hown := h.own
          have hbel := h.below
          clear h
          have hsz := hbel.size
          by_cases hlt : k < s.size
          · have hb2 := HVV.out.by (byS s (k - 1)) (byS s k)
            have hsub : IntKind.i64.wrap ((k : Int) - 1) = ((k - 1 : Nat) : Int) := by rw [IntWalk.i64_in _ (by omega)]; omega
            have hcv : IntKind.i64.wrap f.gap = f.gap := IntWalk.i64_in _ (by omega)
            have hadd : IntKind.i64.wrap (f.gap + byP f.pairs (byS s (k - 1)) (byS s k)) = f.gap + byP f.pairs (byS s (k - 1)) (byS s k) := IntWalk.i64_in _ (by omega)
            have HG := Lib.hid (gapsW_succ (f := f) (l := bs s) (k := k) (by omega))
            have hgl := gapsW_length f (bs s) k
            go_wp2
            refine held_begin (W0.heap.size) (by kernel_rfl) ?_
            have hS := below_drewN (Below.refl (W0.heap.size) wr) 1
            refine held_take 0 (u6) rfl (by kernel_rfl) (by kernel_rfl) (by kernel_rfl) (fun _ _ _ h => h) (by kernel_rfl) (fun w' hw' => by kernel_rfl) hS ?_
            refine held_take 1 (.pointer (some ⟨b0, 27, none⟩)) rfl (by kernel_rfl) (by kernel_rfl) (by kernel_rfl) (fun _ _ _ h => h) (by kernel_rfl) (fun w' hw' => by kernel_rfl) hS ?_
            refine held_take 2 (.int .i8 f.gap) rfl (by kernel_rfl) (by kernel_rfl) (by kernel_rfl) (fun _ _ _ h => h) (by kernel_rfl) (fun w' hw' => exec_load1 22 (.tmp 29) rfl ⟨b0, 27, none⟩ (by kernel_rfl) (.int .i8 f.gap) ((HK.out.next (hbel.trans hw')).cell 27 _ (fcV_gap HF.out _)) _ Tryd.underlying22 rfl) hS ?_
            refine held_take 3 (.int .i64 f.gap) rfl (by kernel_rfl) (by kernel_rfl) (by kernel_rfl) (fun _ _ _ h => h) (by kernel_rfl) (fun w' hw' => Eq.trans (show (execOp _ _).run _ w' = .ok (.value (.int .i64 (IntKind.i64.wrap f.gap))) w' by kernel_rfl) (by rw [hcv])) hS ?_
            refine held_take 4 (.string s) rfl (by kernel_rfl) (by kernel_rfl) (by kernel_rfl) (fun _ _ _ h => h) (by kernel_rfl) (fun w' hw' => by kernel_rfl) hS ?_
            refine held_take 5 (.int .i64 k) rfl (by kernel_rfl) (by kernel_rfl) (by kernel_rfl) (fun _ _ _ h => h) (by kernel_rfl) (fun w' hw' => by kernel_rfl) hS ?_
            refine held_take 6 (.int .i64 ((k - 1 : Nat) : Int)) rfl (by kernel_rfl) (by kernel_rfl) (by kernel_rfl) (fun _ _ _ h => h) (by kernel_rfl) (fun w' hw' => Eq.trans (show (execOp _ _).run _ w' = .ok (.value (.int .i64 (IntKind.i64.wrap ((k : Int) - 1)))) w' by kernel_rfl) (by rw [hsub])) hS ?_
            refine held_take 7 (.int .u8 (byS s (k - 1))) rfl (by kernel_rfl) (by kernel_rfl) (by kernel_rfl) (fun _ _ _ h => h) (by kernel_rfl) (fun w' hw' => exec_byte (.tmp 32) (.tmp 34) rfl s (by kernel_rfl) (k - 1) (by kernel_rfl) (by omega)) hS ?_
            refine held_take 8 (.string s) rfl (by kernel_rfl) (by kernel_rfl) (by kernel_rfl) (fun _ _ _ h => h) (by kernel_rfl) (fun w' hw' => by kernel_rfl) hS ?_
            refine held_take 9 (.int .i64 k) rfl (by kernel_rfl) (by kernel_rfl) (by kernel_rfl) (fun _ _ _ h => h) (by kernel_rfl) (fun w' hw' => by kernel_rfl) hS ?_
            refine held_take 10 (.int .u8 (byS s k)) rfl (by kernel_rfl) (by kernel_rfl) (by kernel_rfl) (fun _ _ _ h => h) (by kernel_rfl) (fun w' hw' => exec_byte (.tmp 36) (.tmp 37) rfl s (by kernel_rfl) k (by kernel_rfl) hlt) hS ?_
            refine held_call 11 42 #[.pointer (some ⟨b0, 0, none⟩), .int .u8 (byS s (k - 1)), .int .u8 (byS s k)] rfl (by kernel_rfl) (by kernel_rfl) (by kernel_rfl) ?_
            refine (by_spec f n b0 _ _ _ HF.out HN.out hm (HA.out.next (hbel.trans hS))).mono ?_
            rintro e w1 ⟨rfl, rfl⟩
            refine ⟨_, rfl, hS, ?_⟩
            refine held_take 12 (.int .i64 (f.gap + byP f.pairs (byS s (k - 1)) (byS s k))) rfl (by kernel_rfl) (by kernel_rfl) (by kernel_rfl) (fun _ _ _ h => h) (by kernel_rfl) (fun w' hw' => Eq.trans (show (execOp _ _).run _ w' = .ok (.value (.int .i64 (IntKind.i64.wrap (f.gap + byP f.pairs (byS s (k - 1)) (byS s k))))) w' by kernel_rfl) (by rw [hadd])) hS ?_
            refine held_val 13 (.slice (some ⟨wr.drew.heap.size, 0, none⟩) 1 1) (wr.drew.alloc (.cells #[.int .i64 (f.gap + byP f.pairs (byS s (k - 1)) (byS s k))] 2)) rfl (by kernel_rfl) (by kernel_rfl) (by kernel_rfl) (hS.alloc (by exact hsz) _) ?_
            refine held_app1 14 (.tmp 28) (.tmp 41) 28 rfl (by kernel_rfl) (by kernel_rfl) rfl elI wr.drew (W0.heap.size) u6 ((gapsW f (bs s) k).length) ((gapsW f (bs s) k).map i64) (by kernel_rfl) hown (.int .i64 (f.gap + byP f.pairs (byS s (k - 1)) (byS s k))) (by kernel_rfl) rfl (by unfold maxLen; omega) (by omega) (hsz) (Nat.le_refl _) hS ?_
            intro v' w' ho' hg' hS'
            have hS := hS'
            refine held_take 15 (v') rfl (by kernel_rfl) (by kernel_rfl) (by kernel_rfl) (fun _ _ _ h => h) (by kernel_rfl) (fun w' hw' => by kernel_rfl) hS ?_
            refine held_done (by kernel_rfl) ?_
            simp only [Act.put, List.setIfInBounds_toArray, List.set_cons_succ, List.set_cons_zero]
            have hbel := hbel.trans hS
            clear hS hS' hg' hadd hcv hsub
            go_wp2
            go_roundw
            case rel =>
              refine ⟨k + 1, by omega, by omega, by go_num, ?_, hbel⟩
              rw [HG.out, List.length_append, List.map_append]
              exact ho'
            case measure => simp [intOf]; omega
          · obtain rfl : k = s.size := by omega
            rw [← bs_length] at hown
            go_wp2
            go_ret2
            exact listOut_own hown (hB.trans (hbel.mono hB.size)) hB.size
end Go.Proofs.YtjgflkoefimmoaaDoor
