/- Contracts: hands in groups, by the program. -/
import Derived.Test.YtkbmfemncadlnaaGreatDoorGroupQ
import Derived.Test.YtkbmfemncadlnaaGreatDoorGroupB
import Derived.Test.YtkbmfemncadlnaaGreatDoorGN
import Derived.Test.YtkbmfemncadlnaaGreatDoorGroupR


namespace Go.Proofs.YtkbmfemncadlnaaGreatDoor
open Go Go.RowKit
set_option linter.unusedVariables false
set_option linter.unusedSimpArgs false

/-- A slice's length. -/
def lenV : Value → Nat
  | .slice _ m _ => m
  | _ => 0

set_option maxHeartbeats 4000000 in
set_option maxRecDepth 100000 in
theorem group_impl (A : Option Addr) (c : Nat) (hs : List (List Int)) (n : Nat) (limit : Int) (w : World) (hn : hs.length = n) (hm : Small2 hs n) (h : Sl2 w A hs) :
    Calls Tryz.prog 27 #[.slice A n c, .int .i64 limit] w (GOut w (groupOut hs n limit).1 (groupOut hs n limit).2) := by
  by_cases hc : handsCode hs n = 0
  · by_cases hl : limit < 0
    · have HO := Lib.hid (groupOut_neg hc hl)
      rw [HO.out]
      go_enter Tryz.func27, Tryz.ntmps27
      go_wp2_with (go_at_call 56; refine (handCode_any A c hs n _ hn hm h).mono ?_; rintro e w' ⟨rfl, rfl⟩)
      go_ret2
      exact ⟨_, _, rfl, Below.refl _ w, fun h => by simp at h⟩
    · have HO := Lib.hid (groupOut_ok hc hl)
      rw [HO.out]
      clear HO
      obtain ⟨hall, h8⟩ := code_zero hc
      have HN := Lib.hid hn
      have HH := Lib.hid h
      have HALL := Lib.hid hall
      go_enter Tryz.func27, Tryz.ntmps27
      go_wp2_with (go_at_call 56; refine (handCode_any A c hs n _ hn hm h).mono ?_; rintro e w' ⟨rfl, rfl⟩)
      go_at_call 64
      refine (repeat_any w.heap.size n (-1) _ h8 (by simp)).mono ?_
      rintro e w2 ⟨g0, cs, rfl, hg0, hb0, hB⟩
      have hB1 : Below w.heap.size w w2 := below_step (below_one w _) hB
      have hg1 : w.heap.size ≤ g0 := by simp at hg0; omega
      have hstart : GrpRel w w2 g0 cs (grpAll (nearB hs limit) n 0).1 n := ⟨hb0, grpAll_length 0, hB1⟩
      clear hB hB1 hb0 hg0 hn hm h hall
      go_wp2
      go_loopw [8, 26] (fun q i wr => ∃ k : Nat, k ≤ n ∧ i = .int .i64 k ∧ q = .int .i64 (grpAll (nearB hs limit) n k).2 ∧ GrpRel w wr g0 cs (grpAll (nearB hs limit) n k).1 n) (fun _ i _ => n - (intOf i).toNat)
      case atStart => exact ⟨0, by omega, rfl, rfl, hstart⟩
      case round =>
        obtain ⟨k, hk, rfl, rfl, hg⟩ := hrel
        by_cases hlk : k < n
        · have hlen := hg.len
          have hck := hg.blk.cell k _ (cur_at (by omega))
          have hfk := hg.blk.free k
          by_cases hs0 : 0 ≤ rdI (grpAll (nearB hs limit) n k).1 k
          · have HS := Lib.hid (grpAll_skip hs0)
            go_wp2
            go_roundw
            case rel => exact ⟨k + 1, by omega, by go_num, by rw [HS.out], by rw [HS.out]; exact hg⟩
            case measure => simp [intOf]; omega
          · have HM := Lib.hid (grpAll_make hs0)
            have HLT := Lib.hid (fun b (hb : b < n) => grpAll_lt (near := nearB hs limit) k b hb)
            have hgn : (grpAll (nearB hs limit) n k).2 ≤ n := by have := grpAll_count (near := nearB hs limit) (n := n) k; omega
            generalize (grpAll (nearB hs limit) n k).1 = out at *
            generalize (grpAll (nearB hs limit) n k).2 = gN at *
            have hg2 := hg.set hg1 k gN hlk
            have hgl := hg.blk.lt
            have hbf := Bfs.start (near := nearB hs limit) hlen hlk HLT.out
            have hng : negs (out.set k (gN : Int)) n ≤ n := cnt_le _ _
            go_wp2
            go_loopw [10] (fun v wr => ∃ (cur : List Int) (qs : List Nat), Queue wr (g0 + 1) v qs ∧ GrpRel w wr g0 cs cur n ∧ Bfs (nearB hs limit) n out k (gN : Int) cur qs ∧ negs cur n + qs.length ≤ n + 1) (fun v wr => 2 * negW wr g0 n + lenV v)
            case atStart =>
              refine ⟨out.set k gN, [k], ?_, ⟨hg2.blk.alloc _, hg2.len, hg2.below.alloc hg2.below.size _⟩, hbf, by simp only [List.length_singleton]; omega⟩
              exact ⟨⟨wr.heap.size, 0, 1, [.int .i64 (k : Int)], rfl, by omega, Blk.at_new _ _ _ (by simp) _ _ rfl, by simp, by simp, by unfold maxLen; omega, fun j x hx => by cases j <;> simp_all⟩⟩
            case round =>
              obtain ⟨cur, qs, hQ, hG, hBf, hbd⟩ := hrel
              cases qs with
              | nil =>
                obtain ⟨b, off, cap, vs, rfl, _⟩ := hQ.is
                have hdone := hBf.done hlk HLT.out (by omega) (by omega)
                simp only [List.length_nil]
                go_wp2
                go_roundw
                case rel => exact ⟨k + 1, by omega, by go_num, by rw [HM.out]; go_num, by rw [HM.out, ← hdone]; exact hG⟩
                case measure => simp [intOf]; omega
              | cons q qs =>
                obtain ⟨b, off, cap, vs, rfl, _⟩ := hQ.is
                have hneg0 := negW_eq hG.len hG.blk
                have HQ := Lib.hid hQ
                clear hQ
                simp only [List.length_cons]
                go_wp2
                go_loopw [10, 47] (fun v kk wr => ∃ (cur' : List Int) (qs2 : List Nat) (x : Nat), x ≤ n ∧ kk = .int .i64 x ∧ Queue wr (g0 + 1) v (q :: qs2) ∧ GrpRel w wr g0 cs cur' n ∧ BfsIn (nearB hs limit) n out k (gN : Int) cur' q qs2 x ∧ negs cur' n + qs2.length ≤ negs cur n + qs.length ∧ 2 * negs cur' n + qs2.length ≤ 2 * negs cur n + qs.length) (fun _ kk _ => n - (intOf kk).toNat)
                case atStart => exact ⟨cur, qs, 0, by omega, rfl, HQ.out, hG, BfsIn.start hBf, by omega, by omega⟩
                case round =>
                  clear hG hBf HQ
                  obtain ⟨cur', qs2, x, hx, rfl, hQ, hG, hIn, hb1, hb2⟩ := hrel
                  obtain ⟨b', off', cap', vs', rfl, hbb, hvs, hcp, hle, hml, hv⟩ := hQ.is
                  simp only [List.length_cons] at hbd hle
                  by_cases hlx : x < n
                  · have hq0 := hv 0 q rfl
                    have hqc := hvs.cell off' _ (by simpa using hq0)
                    have hcx := hG.blk.cell x _ (cur_at (by rw [hG.len]; omega))
                    have hfx := hG.blk.free x
                    obtain ⟨hqn, hqg⟩ := hIn.bfs.inq q (by simp)
                    obtain ⟨a0, B2, d2, rfl, hh2, hs2⟩ := (HH.out.next hG.below).some x (by rw [HN.out]; omega)
                    obtain ⟨a1, B1, d1, ea, hh1, hs1⟩ := (HH.out.next hG.below).some q (by rw [HN.out]; omega)
                    obtain rfl := Option.some.inj ea
                    have gq := gaps_of rfl (HALL.out q hqn)
                    have gx := gaps_of rfl (HALL.out x hlx)
                    have HG := Lib.hid hG
                    have HI := Lib.hid hIn
                    have HQ := Lib.hid hQ
                    clear hG hIn hQ hv hvs hbb hqg ea hq0
                    simp only [List.length_cons]
                    cases e2 : decide (rdI cur' x < 0)
                    · have HS := Lib.hid (HI.out.skip (fun h2 => by rw [decide_eq_true h2] at e2; cases e2))
                      go_wp2
                      go_roundw
                      case rel => exact ⟨cur', qs2, x + 1, by omega, by go_num, HQ.out, HG.out, HS.out, hb1, hb2⟩
                      case measure => simp [intOf]; omega
                    · cases e3 : decide ((apartN (rdL hs q) (rdL hs x) : Int) ≤ limit)
                      · have HS := Lib.hid (HI.out.skip (fun _ => e3))
                        go_wp2_with (go_at_call 58; refine (apart_impl B1 B2 d1 d2 (rdL hs q) (rdL hs x) _ _ _ gq gx (hs1.same fun _ _ => rfl) (hs2.same fun _ _ => rfl)).mono ?_; rintro e w' ⟨rfl, q2, rfl⟩)
                        go_roundw
                        case rel => exact ⟨cur', qs2, x + 1, by omega, by go_num, HQ.out.drewN _, HG.out.drewN _, HS.out, hb1, hb2⟩
                        case measure => simp [intOf]; omega
                      · have HS := Lib.hid (HI.out.add HLT.out (by omega) hlx (of_decide_eq_true e2) e3)
                        have hng2 := negs_set (v := (gN : Int)) HG.out.len hlx (of_decide_eq_true e2) (by omega)
                        have hgl2 := HG.out.blk.lt
                        go_wp2_with (first
                          | (go_at_call 58; refine (apart_impl B1 B2 d1 d2 (rdL hs q) (rdL hs x) _ _ _ gq gx (hs1.same fun _ _ => rfl) (hs2.same fun _ _ => rfl)).mono ?_; rintro e w' ⟨rfl, q2, rfl⟩)
                          | (at_builtin; refine wpList_qapp rfl (.tmp 73) (.tmp 75) rfl ((wr.drewN q2).setCell ⟨g0, x, none⟩ (.int .i64 (gN : Int))) (g0 + 1) (.slice (some ⟨b', off', none⟩) (q :: qs2).length cap') (q :: qs2) rfl ((HQ.out.drewN q2).other ⟨g0, x, none⟩ _ (Nat.lt_succ_self g0)) x (by show Value.slice (some ⟨wr.heap.size, 0, none⟩) 1 1 = Value.slice (some ⟨((wr.drewN q2).setCell ⟨g0, x, none⟩ (.int .i64 (gN : Int))).heap.size, 0, none⟩) 1 1; simp) (by simp only [List.length_cons]; omega) (by simp; omega) ?_; intro v' w' hQ' hbq))
                        go_roundw
                        case rel =>
                          have hG2 := (HG.out.drewN q2).set hg1 x gN hlx
                          exact ⟨cur'.set x gN, qs2 ++ [x], x + 1, by omega, by go_num, hQ', ⟨hG2.blk.below hbq (by omega), hG2.len, hG2.below.trans (hbq.mono (by omega))⟩, HS.out, by simp; omega, by simp; omega⟩
                        case measure => simp [intOf]; omega
                  · obtain rfl : x = n := by omega
                    have hneg1 := negW_eq hG.len hG.blk
                    have HV := Lib.hid hv
                    clear hv hQ
                    simp only [List.length_cons]
                    go_wp2
                    go_roundw
                    case rel =>
                      by_cases hcap : cap' = 1
                      · refine ⟨cur', qs2, ⟨⟨b', off', 0, vs', by simp [hcap], hbb, hvs, by omega, by omega, by omega, fun j y hy => ?_⟩⟩, hG, hIn.done, by omega⟩
                        have := (List.getElem?_eq_some_iff.1 hy).1
                        omega
                      · refine ⟨cur', qs2, ⟨⟨b', off' + 1, cap' - 1, vs', by simp [hcap], hbb, hvs, by omega, by omega, by omega, fun j y hy => ?_⟩⟩, hG, hIn.done, by omega⟩
                        rw [show off' + 1 + j = off' + (j + 1) by omega]
                        exact HV.out (j + 1) y (by simpa using hy)
                    case measure =>
                      rw [hneg0, hneg1]
                      simp [lenV]
                      omega
        · obtain rfl : k = n := by omega
          have hlen := hg.len
          have hbel := hg.below
          have hblk := hg.blk
          go_wp2
          go_ret2
          exact ⟨_, _, by rw [hlen]; rfl, hbel, fun _ => ⟨_, _, rfl, hg1, hblk⟩⟩
  · have HO := Lib.hid (groupOut_code (limit := limit) hc)
    have hcb : (handsCode hs n != 0) = true := by simpa using hc
    rw [HO.out]
    go_enter Tryz.func27, Tryz.ntmps27
    go_wp2_with (go_at_call 56; refine (handCode_any A c hs n _ hn hm h).mono ?_; rintro e w' ⟨rfl, rfl⟩)
    go_ret2
    exact ⟨_, _, rfl, Below.refl _ w, fun h => by simp at h⟩
end Go.Proofs.YtkbmfemncadlnaaGreatDoor
