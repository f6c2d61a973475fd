/- Contract: pieces given to the last sheet or the next, by the reference. -/
import Derived.Test.YtonnplaacebekaaDoorShO

namespace Go.Proofs.YtonnplaacebekaaDoor
open Go Go.RowKit
set_option linter.unusedVariables false
set_option linter.unusedSimpArgs false

def ShOut (w : World) (r : List Int × Int × Int) (e : Ending) (w' : World) : Prop :=
  ∃ A c, e = .returned (.tuple #[.slice A r.1.length c, .int .i64 r.2.1, .int .i64 r.2.2]) ∧ Below w.heap.size w w' ∧ OwnS w' w.heap.size w'.heap.size A r.1

structure NxRel (W0 w1 wr : World) (v : Value) (A : Option Addr) (D xs : List Int) : Prop where
  own : wr.ownsRow W0.heap.size 2 1 v xs.length (xs.map i64)
  blk : ∃ b, v.ownBlock = some b ∧ (b = W0.heap.size ∨ w1.heap.size ≤ b)
  src : OwnS wr (W0.heap.size + 1) w1.heap.size A D
  below : Below W0.heap.size W0 wr
  size : w1.heap.size ≤ wr.heap.size
theorem NxRel.put {W0 w1 wr w' : World} {v v' : Value} {A : Option Addr} {D xs : List Int} {x : Int} (h : NxRel W0 w1 wr v A D xs) (ho : w'.ownsRow W0.heap.size 2 1 v' (xs.length + 1) (xs.map i64 ++ [.int .i64 x])) (hg : wr.grownBy w' v.ownBlock) (hw : v'.ownBlock = v.ownBlock ∨ ∃ g, wr.heap.size ≤ g ∧ v'.ownBlock = some g) : NxRel W0 w1 w' v' A D (xs ++ [x]) := by
  obtain ⟨b, hb, hb2⟩ := h.blk
  have hs := h.size
  have hgs : wr.heap.size ≤ w'.heap.size := by obtain ⟨_, _, _, hgs, _⟩ := hg; exact hgs
  refine ⟨by rw [List.length_append, List.map_append]; exact ho, ?_, fun hn => ?_, below_own h.below h.own hg (Nat.le_refl _) h.below.size, Nat.le_trans hs hgs⟩
  · rcases hw with e | ⟨g, hg2, e⟩
    · exact ⟨b, by rw [e]; exact hb, hb2⟩
    · exact ⟨g, e, by omega⟩
  · obtain ⟨g, cs, e, h1, h2, h3⟩ := h.src hn
    exact ⟨g, cs, e, h1, h2, h3.grown hg (by rw [hb]; intro e; cases e; omega)⟩

set_option maxHeartbeats 2000000 in
set_option maxRecDepth 100000 in
theorem next_spec (f : Fc) (A : Option Addr) (n c : Nat) (sh : Sh) (s : ByteArray) (w : World) (hf : FcT f) (hn : f.pairs.length = n) (hm : n ≤ 1048576) (hs : s.size ≤ 1048576) (hsh : ShT sh) (h : SlP w A f.pairs) :
    Calls Tryd.prog 11 #[.agg (fcV f (.slice A n c)).toArray, .agg (shV sh).toArray, .string s] w (ShOut w (nextR f sh (bs s))) := by
  have hB := below_two w (.cells (fcV f (.slice A n c)).toArray 36) (.cells (shV sh).toArray 38)
  have hk := Blk.new w 36 (fcV f (.slice A n c))
  have hb1 := below_one (w.alloc (.cells (fcV f (.slice A n c)).toArray 36)) (.cells (shV sh).toArray 38)
  have hsb := Blk.new (w.alloc (.cells (fcV f (.slice A n c)).toArray 36)) 38 (shV sh)
  have hfa : FcAt ((w.alloc (.cells (fcV f (.slice A n c)).toArray 36)).alloc (.cells (shV sh).toArray 38)) w.heap.size f n := ⟨A, c, hk.next hb1, h.next hB⟩
  rw [World.size_alloc] at hsb
  have HF := Lib.hid hf
  have HN := Lib.hid hn
  have HA := Lib.hid hfa
  have HB := Lib.hid hsb
  have HS := Lib.hid hsh
  have HBB := Lib.hid hB
  have hwr := hsh.wide
  have hsz0 := hB.size
  clear hf hn h hfa hk hb1 hsb hsh hB
  by_cases h0 : (cutR f sh (bs s) 60).2 = 0
  · obtain ⟨hw, hp, hl⟩ := cutR_zero h0
    have HO := Lib.hid (show nextR f sh (bs s) = ((nxt (cutR f sh (bs s) 60).1 sh.wide (cutR f sh (bs s) 60).1.length).1, (nxt (cutR f sh (bs s) 60).1 sh.wide (cutR f sh (bs s) 60).1.length).2.1 + 1, 0) by unfold nextR; rw [if_pos h0])
    rw [HO.out]
    clear HO
    have HZ := Lib.hid h0
    clear h0
    generalize hD : (cutR f sh (bs s) 60).1 = D at *
    have HDD := Lib.hid hD
    clear hD
    go_enter Tryd.func11, Tryd.ntmps11
    go_wp2_with (go_at_call 41; refine (cut_spec f n w.heap.size (w.heap.size + 1) sh s 60 _ HF.out HN.out hm hs HS.out (HA.out.next (below_one _ _)) (HB.out.next (below_one _ _))).mono ?_; rintro e w1 ⟨A1, c1, rfl, hb1, ho⟩; rw [HZ.out, HDD.out]; rw [HDD.out] at ho)
    have hnx : NxRel ((w.alloc (.cells (fcV f (.slice A n c)).toArray 36)).alloc (.cells (shV sh).toArray 38)) w1 w1 (.slice (some ⟨w.heap.size + 1 + 1, 0, none⟩) 0 0) A1 D [] := ⟨own_next (own_empty _ _ (by simp) _ _ (by simp) 1) hb1, ⟨_, rfl, .inl (by simp)⟩, by simpa using ho, below_step (below_one _ _) hb1, Nat.le_refl _⟩
    clear hb1 ho
    generalize hW0 : (w.alloc (.cells (fcV f (.slice A n c)).toArray 36)).alloc (.cells (shV sh).toArray 38) = W0 at *
    go_loopw [9, 12, 13, 14] (fun v a l i wr => ∃ k : Nat, k ≤ D.length ∧ i = .int .i64 k ∧ a = .int .i64 (nxt D sh.wide k).2.1 ∧ l = .int .i64 (nxt D sh.wide k).2.2 ∧ NxRel W0 w1 wr v A1 D (nxt D sh.wide k).1) (fun _ _ _ i _ => D.length - (intOf i).toNat)
    case atStart => exact ⟨0, by omega, rfl, rfl, rfl, hnx⟩
    clear hnx
    case round =>
      obtain ⟨k, hk, rfl, rfl, rfl, h⟩ := hrel
      obtain ⟨r1, r2, r3, r4, r5⟩ := nxt_range hp k hk
      by_cases hlt : k < D.length
      · obtain ⟨a, rfl, hrow⟩ := h.src.sl.some k hlt
        have hcell := hrow.atI64 k hlt
        have hpk := hp k hlt
        have hcw := (HB.out.next h.below).cell 0 (.int .i16 sh.wide) rfl
        have H := Lib.hid h
        have hszr := h.below.size
        clear h hrow
        by_cases hx : (nxt D sh.wide k).2.2 < rdI D k
        · have HX := Lib.hid (nxt_yes hx)
          go_wp2_with (at_builtin; refine wpList_app1B rfl (.tmp 48) (.tmp 50) _ rfl elI wr W0.heap.size u9 (nxt D sh.wide k).1.length _ rfl H.out.own _ _ rfl rfl rfl (by unfold maxLen; omega) (by omega) hszr ?_; intro v' w' ho' hg' hwh)
          go_roundw
          case rel =>
            refine ⟨k + 1, by omega, by go_num, by rw [nxt_yes hx], by rw [nxt_yes hx], ?_⟩
            rw [nxt_yes hx]
            refine H.out.put ?_ hg' hwh
            have e1 : wrap64 ((nxt D sh.wide k).2.1 + 1) = (nxt D sh.wide k).2.1 + 1 := by rw [← IntWalk.i64_left]; exact IntWalk.i64_in _ (by omega)
            first
              | exact ho'
              | (rw [e1] at ho'; exact ho')
              | (rw [IntWalk.i64_left, e1] at ho'; exact ho')
          case measure => simp [intOf]; omega
        · go_wp2_with (at_builtin; refine wpList_app1B rfl (.tmp 48) (.tmp 50) _ rfl elI wr W0.heap.size u9 (nxt D sh.wide k).1.length _ rfl H.out.own _ _ rfl rfl rfl (by unfold maxLen; omega) (by omega) hszr ?_; intro v' w' ho' hg' hwh)
          go_roundw
          case rel =>
            refine ⟨k + 1, by omega, by go_num, by rw [nxt_no hx], by rw [nxt_no hx], ?_⟩
            rw [nxt_no hx]
            exact H.out.put ho' hg' hwh
          case measure => simp [intOf]; omega
      · obtain rfl : k = D.length := by omega
        have hown := h.own
        have hbel := h.below
        clear h
        go_wp2
        go_ret3
        obtain ⟨A', c', rfl, hl, ho⟩ := OwnS.of_own hown
        have hsz1 := HBB.out.size
        exact ⟨A', c', rfl, below_step HBB.out hbel, ho.low hsz1⟩
  · have HO := Lib.hid (show nextR f sh (bs s) = ([], 0, (cutR f sh (bs s) 60).2) by unfold nextR; rw [if_neg h0])
    rw [HO.out]
    clear HO
    obtain ⟨cd, hcd⟩ : ∃ cd, cd = (cutR f sh (bs s) 60).2 := ⟨_, rfl⟩
    have HCD := Lib.hid hcd
    rw [← hcd] at h0 ⊢
    clear hcd
    go_enter Tryd.func11, Tryd.ntmps11
    go_wp2_with (go_at_call 41; refine (cut_spec f n w.heap.size (w.heap.size + 1) sh s 60 _ HF.out HN.out hm hs HS.out (HA.out.next (below_one _ _)) (HB.out.next (below_one _ _))).mono ?_; rintro e w1 ⟨A1, c1, rfl, hb1, ho⟩; rw [← HCD.out])
    go_ret3
    exact ⟨_, _, rfl, below_step (below_step HBB.out (below_one _ _)) hb1, OwnS.nil⟩
end Go.Proofs.YtonnplaacebekaaDoor
