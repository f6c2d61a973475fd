/- Contracts: hands in groups, by the reference (under way). -/
import Derived.Test.YtkbmfemncadlnaaGreatDoorGroupS

namespace Go.Proofs.YtkbmfemncadlnaaGreatDoor
open Go Go.RowKit
set_option linter.unusedVariables false
set_option linter.unusedSimpArgs false

/-- The list of groups in memory, and the hands unharmed below. -/
structure GrpRel (w wr : World) (g : Nat) (cs : List Value) (cur : List Int) (n : Nat) : Prop where
  blk : Blk wr g 2 (cur.map i64 ++ cs)
  len : cur.length = n
  below : Below w.heap.size w wr
theorem GrpRel.set {w wr : World} {g : Nat} {cs : List Value} {cur : List Int} {n : Nat} (h : GrpRel w wr g cs cur n) (hg : w.heap.size ≤ g) (b : Nat) (v : Int) (hb : b < n) : GrpRel w (wr.setCell ⟨g, b, none⟩ (.int .i64 v)) g cs (cur.set b v) n :=
  ⟨by rw [← cur_set (by rw [h.len]; exact hb)]; exact h.blk.set b _, by simpa using h.len, h.below.setCell hg _⟩
theorem GrpRel.drewN {w wr : World} {g : Nat} {cs : List Value} {cur : List Int} {n : Nat} (h : GrpRel w wr g cs cur n) (q : Nat) : GrpRel w (wr.drewN q) g cs cur n := ⟨h.blk.drewN q, h.len, below_drewN h.below q⟩

/-- Pairs that have been looked at, in a pass: none of them changes anything. -/
def Quiet (near : Nat → Nat → Bool) (cur : List Int) (g : Int) (n a b : Nat) : Prop :=
  ∀ x y, y < n → (x < a ∨ (x = a ∧ y < b)) → rdI cur x = g → rdI cur y < 0 → near x y = false
/-- Within a pass that began with cur0. -/
structure Pass (near : Nat → Nat → Bool) (out : List Int) (i n : Nat) (g : Int) (k : Nat) (c : Bool) (cur : List Int) (a b : Nat) : Prop where
  making : Making near n out i g cur
  still : c = false → negs cur n = k ∧ Quiet near cur g n a b
  less : c = true → negs cur n < k

theorem Pass.start {near : Nat → Nat → Bool} {out cur : List Int} {i n : Nat} {g : Int} (h : Making near n out i g cur) : Pass near out i n g (negs cur n) false cur 0 0 :=
  ⟨h, fun _ => ⟨rfl, fun x y _ hxy => by omega⟩, fun h => by cases h⟩
theorem Pass.skip {near : Nat → Nat → Bool} {out cur : List Int} {i n k a b : Nat} {g : Int} {c : Bool} (h : Pass near out i n g k c cur a b) (hp : rdI cur a = g → rdI cur b < 0 → near a b = false) : Pass near out i n g k c cur a (b + 1) :=
  ⟨h.making, fun hc => ⟨(h.still hc).1, fun x y hy hxy => by
    by_cases e : x = a ∧ y = b
    · obtain ⟨rfl, rfl⟩ := e; exact hp
    · exact (h.still hc).2 x y hy (by omega)⟩, h.less⟩
theorem Pass.row {near : Nat → Nat → Bool} {out cur : List Int} {i n k a : Nat} {g : Int} {c : Bool} (h : Pass near out i n g k c cur a n) : Pass near out i n g k c cur (a + 1) 0 :=
  ⟨h.making, fun hc => ⟨(h.still hc).1, fun x y hy hxy => (h.still hc).2 x y hy (by omega)⟩, h.less⟩
theorem Pass.change {near : Nat → Nat → Bool} {out cur : List Int} {i n k a b : Nat} {g : Int} {c : Bool} (h : Pass near out i n g k c cur a b) (hg : ∀ b, b < n → rdI out b < g) (hg0 : 0 ≤ g) (ha : a < n) (hb : b < n) (hag : rdI cur a = g) (hbn : rdI cur b < 0) (hn : near a b = true) : Pass near out i n g k true (cur.set b g) a (b + 1) :=
  ⟨h.making.add hg hg0 ha hb hag hbn hn, (by intro h; cases h), fun _ => by
    have h1 := negs_set (v := g) h.making.len hb hbn hg0
    cases hc : c
    · have := (h.still hc).1; omega
    · have := h.less hc; omega⟩
/-- The loop's measure: hands without a group, and whether there was a change. -/
def meas (v : Value) (w : World) (g n : Nat) : Nat := 2 * negW w g n + (match v with | .bool true => 1 | _ => 0)

set_option maxHeartbeats 4000000 in
set_option maxRecDepth 100000 in
theorem group_specC (A : Option Addr) (c : Nat) (hs : List (List Int)) (n : Nat) (limit : Int) (w : World) (hn : hs.length = n) (hm : Small2 hs n) (h : Sl2 w A hs) :
    Calls Tryz.prog 28 #[.slice A n c, .int .i64 limit] w (GOutC w (groupOut hs n limit).1 (groupOut hs n limit).2) := by
  by_cases hc : handsCode hs n = 0
  · by_cases hl : limit < 0
    · have HO := Lib.hid (groupOut_neg hc hl)
      rw [HO.out]
      go_enter Tryz.func28, Tryz.ntmps28
      go_wp2_with (go_at_call 60; refine (l07Hands_any A c hs n _ hn hm h).mono ?_; rintro e w' ⟨rfl, rfl⟩)
      go_ret2
      exact ⟨_, _, rfl, below_one _ _, fun h => (by simp at h), by simp⟩
    · have HO := Lib.hid (groupOut_ok hc hl)
      rw [HO.out]
      clear HO
      obtain ⟨hall, h8⟩ := code_zero hc
      have HN := Lib.hid hn
      have HH := Lib.hid h
      have HALL := Lib.hid hall
      obtain ⟨i, hi, hz, hsz, hby⟩ := info_parts elI64'.info
      go_enter Tryz.func28, Tryz.ntmps28
      go_wp2_with (first
        | (go_at_call 60; refine (l07Hands_any A c hs n _ hn hm h).mono ?_; rintro e w' ⟨rfl, rfl⟩)
        | (refine wpList_make_full _ rfl (.tmp 27) (.tmp 27) _ rfl w.heap.size 2 i (.int .i64 0) 1 Tryz.underlying47 hi hz hsz .i64 .i64 (n : Int) (n : Int) n rfl rfl rfl rfl (by rw [hby]; omega) (by unfold maxLen; omega) (Nat.le_refl _) ?_; intro w1 ho hg))
      obtain ⟨_, hvl, cs, hb⟩ := own_at ho
      have hB : Below w.heap.size w w1 := ⟨hg.os, hg.tape, hg.output, hg.size, fun k hk => hg.block k hk (by simp)⟩
      generalize hv : (madeCells (Value.int IntKind.i64 0).cells (n * 1)).toList ++ cs = vs at *
      have hvn : n ≤ vs.length := by rw [← hv, List.length_append]; omega
      clear hv ho hvl hg hn hm h hall
      go_loopw [8] (fun i wr => ∃ j : Nat, j ≤ n ∧ i = .int .i64 j ∧ CopyRel w.heap.size ((List.replicate n (-1)).map Go.Proofs.YtkbmfemncadlnaaGreatDoor.i64) vs w wr j) (fun i _ => n - (intOf i).toNat)
      case atStart => exact ⟨0, by omega, rfl, ⟨by rw [setV_zero]; exact hb, hB⟩⟩
      case round =>
        obtain ⟨j, hj, rfl, hr⟩ := hrel
        by_cases hlt : j < n
        · have hc2 := hr.blk.cell j _ (setV_at _ vs j (by simp; omega) (by omega))
          have hf2 := hr.blk.free j
          go_wp2
          go_roundw
          case rel =>
            refine ⟨j + 1, by omega, by go_num, ?_, hr.below.setCell (by simp) _⟩
            rw [← setV_set _ vs j (.int .i64 (-1)) (by rw [List.getElem?_map, List.getElem?_replicate, if_pos hlt]; rfl) (by omega)]
            exact hr.blk.set j _
          case measure => simp [intOf]; omega
        · obtain rfl : j = n := by omega
          have hstart : GrpRel w wr w.heap.size (vs.drop j) (grpAll (nearB hs limit) j 0).1 j := by
            refine ⟨?_, grpAll_length 0, hr.below⟩
            have e1 : ((List.replicate j (-1 : Int)).map Go.Proofs.YtkbmfemncadlnaaGreatDoor.i64).take j = (List.replicate j (-1 : Int)).map Go.Proofs.YtkbmfemncadlnaaGreatDoor.i64 := List.take_of_length_le (by simp)
            have := hr.blk
            unfold setV at this
            rw [e1] at this
            exact this
          clear hr
          go_wp2
          go_loopw [9, 10] (fun q i wr => ∃ k : Nat, k ≤ j ∧ i = .int .i64 k ∧ q = .int .i64 (grpAll (nearB hs limit) j k).2 ∧ GrpRel w wr w.heap.size (vs.drop j) (grpAll (nearB hs limit) j k).1 j) (fun _ i _ => j - (intOf i).toNat)
          case atStart => exact ⟨0, by omega, rfl, rfl, hstart⟩
          case round =>
            obtain ⟨k, hk, rfl, rfl, hg⟩ := hrel
            by_cases hlk : k < j
            · have hlen := hg.len
              have hck := hg.blk.cell k _ (cur_at (by omega))
              have hfk := hg.blk.free k
              by_cases hs0 : 0 ≤ rdI (grpAll (nearB hs limit) j k).1 k
              · have HS := Lib.hid (grpAll_skip hs0)
                go_wp2
                go_roundw
                case rel => exact ⟨k + 1, by omega, by go_num, by rw [HS.out], by rw [HS.out]; exact hg⟩
                case measure => simp [intOf]; omega
              · have HM := Lib.hid (grpAll_make hs0)
                have HLT := Lib.hid (fun b (hb : b < j) => grpAll_lt (near := nearB hs limit) k b hb)
                have hgn : (grpAll (nearB hs limit) j k).2 ≤ j := by have := grpAll_count (near := nearB hs limit) (n := j) k; omega
                generalize (grpAll (nearB hs limit) j k).1 = out at *
                generalize (grpAll (nearB hs limit) j k).2 = gN at *
                have HS0 := Lib.hid hs0
                go_wp2
                go_loopw [11] (fun v wr => ∃ (c : Bool) (cur : List Int), v = .bool c ∧ GrpRel w wr w.heap.size (vs.drop j) cur j ∧ Making (nearB hs limit) j out k (gN : Int) cur ∧ (c = false → ∀ a, a < j → rdI cur a = gN → ∀ b, b < j → rdI cur b < 0 → nearB hs limit a b = false)) (fun v wr => meas v wr w.heap.size j)
                case atStart => exact ⟨true, out.set k gN, rfl, hg.set (Nat.le_refl _) k gN hlk, Making.start hlen hlk, fun h => by cases h⟩
                case round =>
                  obtain ⟨c', cur, rfl, hG, hM, hC⟩ := hrel
                  cases c'
                  · have hdone := hM.done hlk HLT.out (by omega) (by omega) (hC rfl)
                    go_wp2
                    go_roundw
                    case rel => exact ⟨k + 1, by omega, by go_num, by rw [HM.out]; go_num, by rw [HM.out, ← hdone]; exact hG⟩
                    case measure => simp [intOf]; omega
                  · have hneg0 := negW_eq hG.len hG.blk
                    go_wp2
                    go_loopw [11, 12] (fun v a wr => ∃ (c : Bool) (x : Nat) (cur' : List Int), v = .bool c ∧ x ≤ j ∧ a = .int .i64 x ∧ GrpRel w wr w.heap.size (vs.drop j) cur' j ∧ Pass (nearB hs limit) out k j (gN : Int) (negs cur j) c cur' x 0) (fun _ a _ => j - (intOf a).toNat)
                    case atStart => exact ⟨false, 0, cur, rfl, by omega, rfl, hG, Pass.start hM⟩
                    case round =>
                      obtain ⟨c1, x, cur', rfl, hx, rfl, hG1, hP⟩ := hrel
                      by_cases hlx : x < j
                      · obtain ⟨wo, rfl⟩ : ∃ wo : World, wo = wr := ⟨_, rfl⟩
                        have hdx : decide ((x : Int) < (j : Int)) = true := by simp; omega
                        go_wp2
                        go_loopw [11, 13] (fun v b wr => ∃ (c : Bool) (y : Nat) (cur' : List Int), v = .bool c ∧ y ≤ j ∧ b = .int .i64 y ∧ GrpRel w wr w.heap.size (vs.drop j) cur' j ∧ Pass (nearB hs limit) out k j (gN : Int) (negs cur j) c cur' x y) (fun _ b _ => j - (intOf b).toNat)
                        case atStart => exact ⟨c1, 0, cur', rfl, by omega, rfl, hG1, hP⟩
                        case round =>
                          clear hG1 hP
                          obtain ⟨c2, y, cur2, rfl, hy, rfl, hG2, hP2⟩ := hrel
                          by_cases hly : y < j
                          · have hcx := hG2.blk.cell x _ (cur_at (by rw [hG2.len]; omega))
                            have hcy := hG2.blk.cell y _ (cur_at (by rw [hG2.len]; omega))
                            have hfy := hG2.blk.free y
                            have HG2 := Lib.hid hG2
                            have HP2 := Lib.hid hP2
                            cases e1 : (rdI cur2 x == (gN : Int))
                            · have HS := Lib.hid (hP2.skip (fun h1 => by rw [h1] at e1; simp at e1))
                              clear hG2 hP2
                              go_wp2
                              go_quiet (fail)
                              go_wp2
                              go_roundw
                              case rel => exact ⟨c2, y + 1, cur2, rfl, by omega, by go_num, HG2.out.drewN _, HS.out⟩
                              case measure => simp [intOf]; omega
                            · cases e2 : decide (rdI cur2 y < 0)
                              · have HS := Lib.hid (hP2.skip (fun _ h2 => by rw [decide_eq_true h2] at e2; cases e2))
                                clear hG2 hP2
                                go_wp2
                                go_quiet (fail)
                                go_wp2
                                go_roundw
                                case rel => exact ⟨c2, y + 1, cur2, rfl, by omega, by go_num, HG2.out.drewN _, HS.out⟩
                                case measure => simp [intOf]; omega
                              · obtain ⟨a0, Bx, dx, rfl, hhx, hsx⟩ := (HH.out.next hG2.below).some x (by rw [HN.out]; omega)
                                obtain ⟨a1, By, dy, ea, hhy, hsy⟩ := (HH.out.next hG2.below).some y (by rw [HN.out]; omega)
                                obtain rfl := Option.some.inj ea
                                have gx := gaps_of rfl (HALL.out x hlx)
                                have gy := gaps_of rfl (HALL.out y hly)
                                have HAP := fun q' : Nat => l07Apart_any Bx By dx dy (rdL hs x) (rdL hs y) _ _ (wr.drewN q') gx gy (hsx.same fun _ _ => rfl) (hsy.same fun _ _ => rfl)
                                clear hsx hsy gx gy ea
                                cases e3 : decide ((apartN (rdL hs x) (rdL hs y) : Int) ≤ limit)
                                · have HS := Lib.hid (hP2.skip (fun _ _ => e3))
                                  clear hG2 hP2
                                  go_wp2
                                  go_quiet ((go_at_call 61; refine (HAP _).mono ?_; rintro e w' ⟨rfl, q2, rfl⟩; exact ⟨rfl, _, World.drewN_drewN _ _ _⟩))
                                  clear HAP
                                  go_wp2
                                  go_roundw
                                  case rel => exact ⟨c2, y + 1, cur2, rfl, by omega, by go_num, HG2.out.drewN _, HS.out⟩
                                  case measure => simp [intOf]; omega
                                · have HS := Lib.hid (hP2.change HLT.out (by omega) hlx hly (eq_of_beq e1) (of_decide_eq_true e2) e3)
                                  clear hG2 hP2
                                  go_wp2
                                  go_quiet ((go_at_call 61; refine (HAP _).mono ?_; rintro e w' ⟨rfl, q2, rfl⟩; exact ⟨rfl, _, World.drewN_drewN _ _ _⟩))
                                  clear HAP
                                  go_wp2
                                  go_roundw
                                  case rel => exact ⟨true, y + 1, cur2.set y gN, rfl, by omega, by go_num, (HG2.out.drewN _).set (Nat.le_refl _) y gN hly, HS.out⟩
                                  case measure => simp [intOf]; omega
                          · obtain rfl : y = j := by omega
                            go_wp2
                            go_roundw
                            case rel => exact ⟨c2, x + 1, cur2, rfl, by omega, by go_num, hG2, hP2.row⟩
                            case measure => simp [intOf]; omega
                      · obtain rfl : x = j := by omega
                        have hneg1 := negW_eq hG1.len hG1.blk
                        go_wp2
                        go_roundw
                        case rel => exact ⟨c1, cur', rfl, hG1, hP.making, fun h a ha h1 b hb h2 => (hP.still h).2 a b hb (.inl ha) h1 h2⟩
                        case measure =>
                          unfold meas
                          simp only []
                          rw [hneg0, hneg1]
                          cases c1
                          · have := (hP.still rfl).1; simp only []; omega
                          · have := hP.less rfl; simp only []; omega
            · obtain rfl : k = j := by omega
              have hlen := hg.len
              go_wp2
              go_ret2
              exact ⟨_, _, by rw [hlen]; rfl, hg.below, fun _ => ⟨_, _, rfl, Nat.le_refl _, hg.blk⟩, by rw [hlen]; omega⟩
  · have HO := Lib.hid (groupOut_code (limit := limit) hc)
    have hcb : (handsCode hs n != 0) = true := by simpa using hc
    have hcb2 : (handsCode hs n == 0) = false := by simpa using hc
    rw [HO.out]
    go_enter Tryz.func28, Tryz.ntmps28
    go_wp2_with (go_at_call 60; refine (l07Hands_any A c hs n _ hn hm h).mono ?_; rintro e w' ⟨rfl, rfl⟩)
    go_ret2
    exact ⟨_, _, rfl, below_one _ _, fun h => (by simp at h), by simp⟩
theorem group_spec (A : Option Addr) (c : Nat) (hs : List (List Int)) (n : Nat) (limit : Int) (w : World) (hn : hs.length = n) (hm : Small2 hs n) (h : Sl2 w A hs) :
    Calls Tryz.prog 28 #[.slice A n c, .int .i64 limit] w (GOut w (groupOut hs n limit).1 (groupOut hs n limit).2) := (group_specC A c hs n limit w hn hm h).mono fun e w' hh => hh.out
end Go.Proofs.YtkbmfemncadlnaaGreatDoor
