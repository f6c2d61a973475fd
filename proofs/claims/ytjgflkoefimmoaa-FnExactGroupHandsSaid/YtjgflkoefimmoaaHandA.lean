/- Contracts: slices of slices of numbers: their size, a copy of them, two of them compared. -/
import Derived.Test.YtjgflkoefimmoaaGapB
import Derived.BigRegion
namespace Go.Proofs.Ytjgflkoefimmoaa
open Go Go.RowKit

def rdL (r : List (List Int)) (i : Nat) : List Int := r.getD i []
/-- The slice at A has the slices hs as its elements. -/
def Sl2 (w : World) (A : Option Addr) (hs : List (List Int)) : Prop := ∀ i x, hs[i]? = some x → ∃ a B c, A = some a ∧ w.cell? (a.add i) = some (.slice B x.length c) ∧ SlE i64 w B x
theorem Sl2.nil {w : World} {A : Option Addr} : Sl2 w A [] := fun i x h => by simp at h
theorem Sl2.next {w w' : World} {A : Option Addr} {hs : List (List Int)} (h : Sl2 w A hs) (hb : Below w.heap.size w w') : Sl2 w' A hs := by
  intro i x hx
  obtain ⟨a, B, c, e, h1, h2⟩ := h i x hx
  exact ⟨a, B, c, e, by rw [hb.cell (World.block_lt_of_cell? w _ h1)]; exact h1, h2.next hb⟩
theorem Sl2.drewN {w : World} {A : Option Addr} {hs : List (List Int)} (h : Sl2 w A hs) (q : Nat) : Sl2 (w.drewN q) A hs := h
theorem Sl2.some {w : World} {A : Option Addr} {hs : List (List Int)} (h : Sl2 w A hs) (i : Nat) (hi : i < hs.length) : ∃ a B c, A = some a ∧ w.cell? (a.add i) = some (.slice B (rdL hs i).length c) ∧ SlE i64 w B (rdL hs i) := by
  have := h i (rdL hs i) (by simp [rdL, List.getD, List.getElem?_eq_getElem hi])
  exact this
/-- The first k are short. -/
def AllShort (hs : List (List Int)) (k : Nat) : Prop := ∀ i, i < k → (rdL hs i).length ≤ 1048576
/-- All of it is small. -/
def Small2 (hs : List (List Int)) (n : Nat) : Prop := n ≤ 1048576 ∧ ∀ i, i < n → (rdL hs i).length ≤ 1048576

theorem szInt64S_any (A : Option Addr) (c n : Nat) (left : Int) (w : World) (hm : n ≤ maxLen) (hl : 0 ≤ left ∧ left ≤ 1048576) :
    Calls Try.prog 24 #[.slice A n c, .int .i64 left] w fun e w' => (∃ v : Int, e = .returned (.int .i64 v) ∧ v ≤ left ∧ -1 ≤ v ∧ (0 ≤ v → (n : Int) ≤ left)) ∧ w = w' := by
  unfold maxLen at hm
  by_cases h : left - (n : Int) < 0
  · go_enter Try.func24, Try.ntmps24
    go_wp2
    go_ret
    exact ⟨⟨-1, rfl, by omega, by omega, by omega⟩, rfl⟩
  · go_enter Try.func24, Try.ntmps24
    go_wp2
    go_ret
    exact ⟨⟨left - n, rfl, by omega, by omega, by omega⟩, rfl⟩

set_option maxRecDepth 100000 in
theorem szInt64SS_any (A : Option Addr) (c n : Nat) (hs : List (List Int)) (w : World) (hn : hs.length = n) (hm : n ≤ maxLen) (hi : ∀ i, i < n → (rdL hs i).length ≤ maxLen) (h : Sl2 w A hs) :
    Calls Try.prog 10 #[.slice A n c, .int .i64 1048576] w fun e w' => (∃ v : Int, e = .returned (.int .i64 v) ∧ (0 ≤ v → Small2 hs n)) ∧ w = w' := by
  have HN := Lib.hid hn
  have H := Lib.hid h
  have HI := Lib.hid hi
  clear hn h hi
  unfold maxLen at hm
  by_cases h0 : (1048576 : Int) - (n : Int) < 0
  · go_enter Try.func10, Try.ntmps10
    go_wp2
    go_ret
    exact ⟨⟨-1, rfl, by omega⟩, rfl⟩
  · go_enter Try.func10, Try.ntmps10
    go_wp2
    go_loop [1, 5] (fun v i => ∃ (k : Nat) (l : Int), k ≤ n ∧ i = .int .i64 k ∧ v = .int .i64 l ∧ 0 ≤ l ∧ l ≤ 1048576 ∧ AllShort hs k) (fun _ i => n - (intOf i).toNat)
    case atStart => exact ⟨0, 1048576 - n, by omega, rfl, rfl, by omega, by omega, fun j hj => by omega⟩
    case round =>
      obtain ⟨k, l, hk, rfl, rfl, hl0, hl1, hr⟩ := hrel
      by_cases hlt : k < n
      · obtain ⟨a, B, d, rfl, hcell, hsl⟩ := H.out.some k (by rw [HN.out]; omega)
        have hml := HI.out k hlt
        clear hsl
        go_wp2_with fail
        go_at_call 24
        refine (szInt64S_any B d (rdL hs k).length l _ hml ⟨hl0, hl1⟩).mono ?_
        rintro e w' ⟨⟨v, rfl, hv1, hv2, hv3⟩, rfl⟩
        by_cases hv : v < 0
        · go_wp2
          go_ret
          exact ⟨⟨-1, rfl, by omega⟩, rfl⟩
        · have hv4 := hv3 (by omega)
          clear hv3
          go_wp2
          go_round
          case rel => exact ⟨k + 1, v, by omega, by go_num, rfl, by omega, by omega, fun j hj => by
            rcases Nat.lt_succ_iff_lt_or_eq.1 hj with h1 | rfl
            · exact hr j h1
            · omega⟩
          case measure => simp [intOf]; omega
      · obtain rfl : k = n := by omega
        go_wp2
        go_ret
        exact ⟨⟨l, rfl, fun _ => ⟨by omega, hr⟩⟩, rfl⟩

theorem elS64 : El Try.prog 27 22 (.slice none 0 0) 1 24 := ⟨Try.underlying27, by kernel_rfl, rfl, by decide⟩

/-- A row of slices, each of the call's own; none of them lies in block g. -/
def Hdrs (w : World) (g : Nat) (hs : List (List Int)) (us : List Value) : Prop :=
  ∀ i u, us[i]? = some u → ∃ B c, u = .slice B (rdL hs i).length c ∧ SlE i64 w B (rdL hs i) ∧ ∀ b, B = some b → b.block ≠ g
theorem Hdrs.nil {w : World} {g : Nat} {hs : List (List Int)} : Hdrs w g hs [] := fun i u h => by simp at h
theorem Hdrs.next {w w' : World} {g : Nat} {hs : List (List Int)} {us : List Value} (h : Hdrs w g hs us) (hb : Below w.heap.size w w') : Hdrs w' g hs us := by
  intro i u hu
  obtain ⟨B, c, e, h1, h2⟩ := h i u hu
  exact ⟨B, c, e, h1.next hb, h2⟩
theorem Hdrs.set {w : World} {g : Nat} {hs : List (List Int)} {us : List Value} (h : Hdrs w g hs us) (i : Nat) (v : Value) : Hdrs (w.setCell ⟨g, i, none⟩ v) g hs us := by
  intro j u hu
  obtain ⟨B, c, e, h1, h2⟩ := h j u hu
  refine ⟨B, c, e, fun k x hk => ?_, h2⟩
  obtain ⟨b, rfl, hc⟩ := h1 k x hk
  have hblk : (b.add k).block = b.block := by unfold Addr.add; split <;> rfl
  exact ⟨b, rfl, by rw [World.cell?_of_block (heap_setCell_other w ⟨g, i, none⟩ (b.add k).block v (by rw [hblk]; exact h2 b rfl))]; exact hc⟩
theorem Hdrs.push {w : World} {g : Nat} {hs : List (List Int)} {us : List Value} (h : Hdrs w g hs us) {B : Option Addr} {c : Nat} (hB : SlE i64 w B (rdL hs us.length)) (hg : ∀ b, B = some b → b.block ≠ g) : Hdrs w g hs (us ++ [.slice B (rdL hs us.length).length c]) := by
  intro i u hu
  by_cases hi : i < us.length
  · rw [List.getElem?_append_left hi] at hu; exact h i u hu
  · rw [List.getElem?_append_right (by omega)] at hu
    have e : i = us.length := by
      have := (List.getElem?_eq_some_iff.1 hu).1
      simp at this; omega
    subst e
    simp at hu
    exact ⟨B, c, hu.symm, hB, hg⟩

structure Copy2Rel (g : Nat) (hs : List (List Int)) (vs : List Value) (w wr : World) (j : Nat) : Prop where
  row : ∃ us : List Value, us.length = j ∧ Blk wr g 22 (us ++ vs.drop j) ∧ Hdrs wr g hs us
  below : Below w.heap.size w wr

/-- A copy: a row of slices at a block of the call's own. -/
def Copy2Out (w : World) (hs : List (List Int)) (n : Nat) (e : Ending) (w' : World) : Prop :=
  ∃ g, e = .returned (.slice (some ⟨g, 0, none⟩) n n) ∧ w.heap.size ≤ g ∧ Sl2 w' (some ⟨g, 0, none⟩) hs ∧ Below w.heap.size w w'
theorem sl2_of {w : World} {g : Nat} {t : TypeId} {hs : List (List Int)} {us cs : List Value} (hl : us.length = hs.length) (h : Blk w g t (us ++ cs)) (hd : Hdrs w g hs us) : Sl2 w (some ⟨g, 0, none⟩) hs := by
  intro i x hx
  have hi : i < hs.length := (List.getElem?_eq_some_iff.1 hx).1
  have hr : rdL hs i = x := by simp [rdL, List.getD, hx]
  obtain ⟨B, c, e, h1, _⟩ := hd i us[i] (List.getElem?_eq_getElem (by omega))
  have hadd : (⟨g, 0, none⟩ : Addr).add i = ⟨g, i, none⟩ := by unfold Addr.add; split <;> simp_all
  rw [hr] at e h1
  refine ⟨⟨g, 0, none⟩, B, c, rfl, ?_, h1⟩
  rw [hadd]
  refine h.cell i _ ?_
  rw [List.getElem?_append_left (by omega), List.getElem?_eq_getElem (by omega), e]

set_option maxRecDepth 100000 in
theorem toInt64SS_any (A : Option Addr) (c : Nat) (hs : List (List Int)) (n : Nat) (w : World) (hn : hs.length = n) (hm : Small2 hs n) (h : Sl2 w A hs) :
    Calls Try.prog 12 #[.slice A n c] w (Copy2Out w hs n) := by
  have HN := Lib.hid hn
  have H := Lib.hid h
  have hm1 := hm.1
  have HM := Lib.hid hm.2
  clear hn h hm
  obtain ⟨i, hi, hz, hsz, hby⟩ := info_parts elS64.info
  go_enter Try.func12, Try.ntmps12
  go_wp2_with (refine wpList_make_full _ rfl (.tmp 6) (.tmp 6) _ rfl w.heap.size 22 i (.slice none 0 0) 1 Try.underlying27 hi hz hsz .i64 .i64 (n : Int) (n : Int) n rfl rfl rfl rfl (by rw [hby]; omega) (by unfold maxLen; omega) (Nat.le_refl _) ?_; intro w1 ho hg)
  obtain ⟨_, hvl, cs, hb⟩ := own_at ho
  have hB : Below w.heap.size w w1 := ⟨hg.os, hg.tape, hg.output, hg.size, fun k hk => hg.block k hk (by simp)⟩
  generalize hv : (madeCells (Value.slice none 0 0).cells (n * 1)).toList ++ cs = vs at *
  have hvn : n ≤ vs.length := by rw [← hv, List.length_append]; omega
  clear hv ho hvl hg
  go_loopw [4] (fun i wr => ∃ j : Nat, j ≤ n ∧ i = .int .i64 j ∧ Copy2Rel w.heap.size hs vs w wr j) (fun i _ => n - (intOf i).toNat)
  case atStart => exact ⟨0, by omega, rfl, ⟨[], rfl, hb, Hdrs.nil⟩, hB⟩
  case round =>
    obtain ⟨j, hj, rfl, hr⟩ := hrel
    obtain ⟨us, hul, hbk, hhd⟩ := hr.row
    have hbel := hr.below
    have hgsz := hbk.lt
    by_cases hlt : j < n
    · obtain ⟨a, B, d, rfl, hcell, hsl⟩ := (H.out.next hbel).some j (by rw [HN.out]; omega)
      have hsm := HM.out j hlt
      go_wp2_with fail
      go_at_call 7
      refine (toInt64S_any B d (rdL hs j) _ _ rfl (by omega) hsl).mono ?_
      rintro e w2 ⟨g2, cs2, rfl, hg2, hbk2, hb2⟩
      have hbk := hbk.next hb2
      have hhd := hhd.next hb2
      have hbel := below_step hbel hb2
      have hvd : (us ++ vs.drop j)[j]? = some (vs[j]'(by omega)) := by
        rw [List.getElem?_append_right (by omega), hul, Nat.sub_self, List.drop_eq_getElem_cons (by omega)]; rfl
      have hc2 := hbk.cell j _ hvd
      have hf2 := hbk.free j
      have hg2' : g2 ≠ w.heap.size := by omega
      have HSL : SlE Go.Proofs.Ytjgflkoefimmoaa.i64 w2 (some ⟨g2, 0, none⟩) (rdL hs us.length) := by rw [hul]; exact SlE.of_row hbk2.head
      have HP := Lib.hid (hhd.push (c := (rdL hs j).length) HSL (fun b hb => by cases hb; exact hg2'))
      clear hb2 hcell hsl
      go_wp2
      go_roundw
      case rel =>
        refine ⟨j + 1, by omega, by go_num, ⟨us ++ [.slice (some ⟨g2, 0, none⟩) (rdL hs j).length (rdL hs j).length], by simp [hul], ?_, ?_⟩, hbel.setCell (by simp) _⟩
        · have e1 : us ++ [Value.slice (some ⟨g2, 0, none⟩) (rdL hs j).length (rdL hs j).length] ++ vs.drop (j + 1) = (us ++ vs.drop j).set j (Value.slice (some ⟨g2, 0, none⟩) (rdL hs j).length (rdL hs j).length) := by
            rw [List.set_append_right _ _ (by omega), hul, Nat.sub_self, List.drop_eq_getElem_cons (by omega : j < vs.length), List.set_cons_zero, List.append_assoc]; rfl
          rw [e1]
          exact hbk.set j _
        · have := HP.out
          rw [hul] at this
          exact this.set j _
      case measure => simp [intOf]; omega
    · obtain rfl : j = n := by omega
      have HS := Lib.hid (sl2_of (by rw [hul, HN.out]) hbk hhd)
      clear hbk hhd
      go_wp2
      go_ret
      exact ⟨w.heap.size, rfl, Nat.le_refl _, HS.out, hbel⟩

set_option maxRecDepth 100000 in
theorem eqInt64SS_same (A B : Option Addr) (c d : Nat) (hs : List (List Int)) (n : Nat) (w : World) (hn : hs.length = n) (hm : Small2 hs n) (ha : Sl2 w A hs) (hb : Sl2 w B hs) :
    Calls Try.prog 14 #[.slice A n c, .slice B n d] w fun e w' => e = .returned (.bool true) ∧ ∃ q, w' = w.drewN q := by
  have HN := Lib.hid hn
  have HA := Lib.hid ha
  have HB := Lib.hid hb
  have hm1 := hm.1
  have HM := Lib.hid hm.2
  have h0 : ((n : Int) != (n : Int)) = false := by simp
  clear hn ha hb hm
  go_enter Try.func14, Try.ntmps14
  go_wp2
  go_loopw [5] (fun i wr => ∃ k : Nat, k ≤ n ∧ i = .int .i64 k ∧ ∃ q, wr = w.drewN q) (fun i _ => n - (intOf i).toNat)
  case atStart => exact ⟨0, by omega, rfl, 0, rfl⟩
  case round =>
    obtain ⟨k, hk, rfl, q, hq⟩ := hrel
    have HQ := Lib.hid hq
    by_cases hlt : k < n
    · obtain ⟨a, B1, d1, rfl, hc1, hs1⟩ := HA.out.some k (by rw [HN.out]; omega)
      obtain ⟨b, B2, d2, rfl, hc2, hs2⟩ := HB.out.some k (by rw [HN.out]; omega)
      have hc1 : wr.cell? (a.add k) = some (.slice B1 (rdL hs k).length d1) := by rw [hq]; exact hc1
      have hc2 : wr.cell? (b.add k) = some (.slice B2 (rdL hs k).length d2) := by rw [hq]; exact hc2
      have hsm := HM.out k hlt
      have HC := fun q' : Nat => eqInt64S_same B1 B2 d1 d2 (rdL hs k) (rdL hs k).length (wr.drewN q') rfl (by unfold maxLen; omega) (hs1.same fun _ _ => by rw [hq]; rfl) (hs2.same fun _ _ => by rw [hq]; rfl)
      clear hs1 hs2 hq
      go_wp2
      go_quiet ((go_at_call 9; refine (HC _).mono ?_; rintro e w' ⟨rfl, q2, rfl⟩; exact ⟨rfl, _, World.drewN_drewN _ _ _⟩))
      clear HC
      go_wp2
      go_roundw
      case rel => exact ⟨k + 1, by omega, by go_num, q + nq, by rw [HQ.out, World.drewN_drewN]⟩
      case measure => simp [intOf]; omega
    · obtain rfl : k = n := by omega
      go_wp2
      go_ret
      exact ⟨rfl, q, rfl⟩
end Go.Proofs.Ytjgflkoefimmoaa
