/- Contracts: a copy of slices of numbers that is marked. -/
import Derived.Test.YtjgflkoefimmoaaMark
import Derived.Test.YtjgflkoefimmoaaHandA
namespace Go.Proofs.Ytjgflkoefimmoaa
open Go Go.RowKit

/-- A row of headers at block g, whose rows lie in blocks of their own from lo up to hi. -/
def Rows2 (w : World) (lo hi g : Nat) (hs : List (List Int)) (us : List Value) : Prop :=
  ∀ i u, us[i]? = some u → ∃ b vs, u = .slice (some ⟨b, 0, none⟩) (rdL hs i).length (rdL hs i).length ∧ (rdL hs i).length ≤ vs.length ∧ lo ≤ b ∧ b < hi ∧ b ≠ g ∧ Blk w b 2 vs
theorem Rows2.nil {w : World} {lo hi g : Nat} {hs : List (List Int)} : Rows2 w lo hi g hs [] := fun i u h => by simp at h
theorem Rows2.next {w w' : World} {lo hi g : Nat} {hs : List (List Int)} {us : List Value} (h : Rows2 w lo hi g hs us) (hb : Below w.heap.size w w') : Rows2 w' lo hi g hs us := by
  intro i u hu
  obtain ⟨b, vs, e, h1, h2, h3, h4, h5⟩ := h i u hu
  exact ⟨b, vs, e, h1, h2, h3, h4, h5.next hb⟩
theorem Rows2.wide {w : World} {lo hi hi' g : Nat} {hs : List (List Int)} {us : List Value} (h : Rows2 w lo hi g hs us) (hh : hi ≤ hi') : Rows2 w lo hi' g hs us := by
  intro i u hu
  obtain ⟨b, vs, e, h1, h2, h3, h4, h5⟩ := h i u hu
  exact ⟨b, vs, e, h1, h2, by omega, h4, h5⟩
theorem Rows2.drewN {w : World} {lo hi g : Nat} {hs : List (List Int)} {us : List Value} (h : Rows2 w lo hi g hs us) (q : Nat) : Rows2 (w.drewN q) lo hi g hs us := h
theorem Rows2.set {w : World} {lo hi g : Nat} {hs : List (List Int)} {us : List Value} (h : Rows2 w lo hi g hs us) (i : Nat) (v : Value) : Rows2 (w.setCell ⟨g, i, none⟩ v) lo hi g hs us := by
  intro j u hu
  obtain ⟨b, vs, e, h1, h2, h3, h4, h5⟩ := h j u hu
  exact ⟨b, vs, e, h1, h2, h3, h4, h5.other _ _ h4⟩
theorem Rows2.push {w : World} {lo hi g : Nat} {hs : List (List Int)} {us : List Value} (h : Rows2 w lo hi g hs us) {b : Nat} {vs : List Value} (h1 : (rdL hs us.length).length ≤ vs.length) (h2 : lo ≤ b) (h3 : b < hi) (h4 : b ≠ g) (h5 : Blk w b 2 vs) :
    Rows2 w lo hi g hs (us ++ [.slice (some ⟨b, 0, none⟩) (rdL hs us.length).length (rdL hs us.length).length]) := by
  intro i u hu
  by_cases hi : i < us.length
  · rw [List.getElem?_append_left hi] at hu; exact h i u hu
  · rw [List.getElem?_append_right (by omega)] at hu
    have e : i = us.length := by
      have := (List.getElem?_eq_some_iff.1 hu).1
      simp at this; omega
    subst e
    simp at hu
    exact ⟨b, vs, hu.symm, h1, h2, h3, h4, h5⟩
/-- A row is marked: the others are rows still. -/
theorem Rows2.mark {w w' : World} {lo hi g b : Nat} {hs : List (List Int)} {us : List Value} (h : Rows2 w lo hi g hs us) (hg : w.grownBy w' (some b)) (hb : ∃ vs, Blk w b 2 vs ∧ ∃ vs', Blk w' b 2 vs' ∧ vs.length = vs'.length) : Rows2 w' lo hi g hs us := by
  intro i u hu
  obtain ⟨b', vs, e, h1, h2, h3, h4, h5⟩ := h i u hu
  by_cases hbb : b' = b
  · subst hbb
    obtain ⟨vs0, hv0, vs', hv', hl⟩ := hb
    have : vs0 = vs := by
      unfold Blk at hv0 h5
      rw [hv0] at h5
      simpa using h5
    subst this
    exact ⟨b', vs', e, by omega, h2, h3, h4, hv'⟩
  · exact ⟨b', vs, e, h1, h2, h3, h4, h5.grown hg (by simpa using hbb)⟩

structure Copy3Rel (g : Nat) (hs : List (List Int)) (vs : List Value) (w wr : World) (j : Nat) : Prop where
  row : ∃ us : List Value, us.length = j ∧ Blk wr g 22 (us ++ vs.drop j) ∧ Hdrs wr g hs us ∧ Rows2 wr w.heap.size wr.heap.size g hs us
  below : Below w.heap.size w wr

/-- A copy: a row of slices at a block of the call's own, its rows in blocks of their own. -/
def Copy3Out (w : World) (hs : List (List Int)) (n : Nat) (e : Ending) (w' : World) : Prop :=
  ∃ g us cs, e = .returned (.slice (some ⟨g, 0, none⟩) n n) ∧ w.heap.size ≤ g ∧ us.length = n ∧ Blk w' g 22 (us ++ cs) ∧ Rows2 w' w.heap.size w'.heap.size g hs us ∧ Sl2 w' (some ⟨g, 0, none⟩) hs ∧ Below w.heap.size w w'

set_option maxRecDepth 100000 in
theorem toInt64SS_own (A : Option Addr) (c : Nat) (hs : List (List Int)) (n : Nat) (w : World) (hn : hs.length = n) (hm : Small2 hs n) (h : Sl2 w A hs) :
    Calls Try.prog 12 #[.slice A n c] w (Copy3Out w hs n) := by
  have HN := Lib.hid hn
  have H := Lib.hid h
  have hm1 := hm.1
  have HM := Lib.hid hm.2
  clear hn h hm
  obtain ⟨i, hi, hz, hsz, hby⟩ := info_parts elS64.info
  go_enter Try.func12, Try.ntmps12
  go_wp2_with (refine wpList_make_full _ rfl (.tmp 6) (.tmp 6) _ rfl w.heap.size 22 i (.slice none 0 0) 1 Try.underlying27 hi hz hsz .i64 .i64 (n : Int) (n : Int) n rfl rfl rfl rfl (by rw [hby]; omega) (by unfold maxLen; omega) (Nat.le_refl _) ?_; intro w1 ho hg)
  obtain ⟨_, hvl, cs, hb⟩ := own_at ho
  have hB : Below w.heap.size w w1 := ⟨hg.os, hg.tape, hg.output, hg.size, fun k hk => hg.block k hk (by simp)⟩
  generalize hv : (madeCells (Value.slice none 0 0).cells (n * 1)).toList ++ cs = vs at *
  have hvn : n ≤ vs.length := by rw [← hv, List.length_append]; omega
  clear hv ho hvl hg
  go_loopw [4] (fun i wr => ∃ j : Nat, j ≤ n ∧ i = .int .i64 j ∧ Copy3Rel w.heap.size hs vs w wr j) (fun i _ => n - (intOf i).toNat)
  case atStart => exact ⟨0, by omega, rfl, ⟨[], rfl, hb, Hdrs.nil, Rows2.nil⟩, hB⟩
  case round =>
    obtain ⟨j, hj, rfl, hr⟩ := hrel
    obtain ⟨us, hul, hbk, hhd, hrows⟩ := hr.row
    have hbel := hr.below
    have hgsz := hbk.lt
    by_cases hlt : j < n
    · obtain ⟨a, B, d, rfl, hcell, hsl⟩ := (H.out.next hbel).some j (by rw [HN.out]; omega)
      have hsm := HM.out j hlt
      go_wp2_with fail
      go_at_call 7
      refine (toInt64S_any B d (rdL hs j) _ _ rfl (by omega) hsl).mono ?_
      rintro e w2 ⟨g2, cs2, rfl, hg2, hbk2, hb2⟩
      have hbk := hbk.next hb2
      have hhd := hhd.next hb2
      have hrows := (hrows.next hb2).wide hb2.size
      have hsz2 := hbk2.lt
      have hbel := below_step hbel hb2
      have hvd : (us ++ vs.drop j)[j]? = some (vs[j]'(by omega)) := by
        rw [List.getElem?_append_right (by omega), hul, Nat.sub_self, List.drop_eq_getElem_cons (by omega)]; rfl
      have hc2 := hbk.cell j _ hvd
      have hf2 := hbk.free j
      have hg2' : g2 ≠ w.heap.size := by omega
      have HSL : SlE Go.Proofs.Ytjgflkoefimmoaa.i64 w2 (some ⟨g2, 0, none⟩) (rdL hs us.length) := by rw [hul]; exact SlE.of_row hbk2.head
      have HP := Lib.hid (hhd.push (c := (rdL hs j).length) HSL (fun b hb => by cases hb; exact hg2'))
      have HR := Lib.hid (hrows.push (b := g2) (vs := (rdL hs j).map Go.Proofs.Ytjgflkoefimmoaa.i64 ++ cs2) (by rw [hul]; simp) (by omega) hsz2 hg2' hbk2)
      clear hb2 hcell hsl
      go_wp2
      go_roundw
      case rel =>
        refine ⟨j + 1, by omega, by go_num, ⟨us ++ [.slice (some ⟨g2, 0, none⟩) (rdL hs j).length (rdL hs j).length], by simp [hul], ?_, ?_, ?_⟩, hbel.setCell (by simp) _⟩
        · have e1 : us ++ [Value.slice (some ⟨g2, 0, none⟩) (rdL hs j).length (rdL hs j).length] ++ vs.drop (j + 1) = (us ++ vs.drop j).set j (Value.slice (some ⟨g2, 0, none⟩) (rdL hs j).length (rdL hs j).length) := by
            rw [List.set_append_right _ _ (by omega), hul, Nat.sub_self, List.drop_eq_getElem_cons (by omega : j < vs.length), List.set_cons_zero, List.append_assoc]; rfl
          rw [e1]
          exact hbk.set j _
        · have := HP.out
          rw [hul] at this
          exact this.set j _
        · have := HR.out
          rw [hul] at this
          simp only [World.size_setCell]
          exact this.set j _
      case measure => simp [intOf]; omega
    · obtain rfl : j = n := by omega
      have HS := Lib.hid (sl2_of (by rw [hul, HN.out]) hbk hhd)
      have HR := Lib.hid hrows
      have HBK := Lib.hid hbk
      clear hbk hhd hrows
      go_wp2
      go_ret
      exact ⟨w.heap.size, us, vs.drop j, rfl, Nat.le_refl _, hul, HBK.out, HR.out, HS.out, hbel⟩

structure Mark2Rel (lo hi g : Nat) (hs : List (List Int)) (us cs : List Value) (w wr : World) : Prop where
  blk : Blk wr g 22 (us ++ cs)
  rows : Rows2 wr lo hi g hs us
  wth : Within lo hi w wr

set_option maxRecDepth 100000 in
theorem markInt64SS_own (lo hi g : Nat) (c : Nat) (hs : List (List Int)) (us cs : List Value) (n : Nat) (w : World) (hu : us.length = n) (hm : Small2 hs n) (hb : Blk w g 22 (us ++ cs)) (hr : Rows2 w lo hi g hs us) :
    Calls Try.prog 17 #[.slice (some ⟨g, 0, none⟩) n c, .int .i64 1] w fun e w' => (∃ k : Int, e = .returned (.int .i64 k) ∧ 0 ≤ k) ∧ Within lo hi w w' := by
  have HU := Lib.hid hu
  have hm1 := hm.1
  have HM := Lib.hid hm.2
  have h0 : Mark2Rel lo hi g hs us cs w w := ⟨hb, hr, Within.refl _ _ _⟩
  clear hu hm hb hr
  go_enter Try.func17, Try.ntmps17
  go_wp2
  go_loopw [1, 5] (fun q i wr => ∃ (j : Nat) (k : Int), j ≤ n ∧ i = .int .i64 j ∧ q = .int .i64 k ∧ 0 ≤ k ∧ k ≤ 1 + 1048576 * (j : Int) ∧ Mark2Rel lo hi g hs us cs w wr) (fun _ i _ => n - (intOf i).toNat)
  case atStart => exact ⟨0, 1, by omega, rfl, rfl, by omega, by omega, h0⟩
  case round =>
    clear h0
    obtain ⟨j, k, hj, rfl, rfl, hk0, hk1, h⟩ := hrel
    by_cases hlt : j < n
    · have huj : us[j]? = some (us[j]'(by rw [HU.out]; exact hlt)) := List.getElem?_eq_getElem _
      obtain ⟨b, vs, hue, hlen, hb1, hb2, hb3, hbk⟩ := h.rows j _ huj
      have hcell := h.blk.cell j (us[j]'(by rw [HU.out]; exact hlt)) (by rw [List.getElem?_append_left (by rw [HU.out]; exact hlt)]; exact huj)
      rw [hue] at hcell
      have hsm := HM.out j hlt
      have H := Lib.hid h
      clear h huj hue
      go_wp2_with fail
      go_at_call 18
      refine (markInt64S_own b _ _ vs (rdL hs j).length k _ hlen (by omega) (by omega) hbk).mono ?_
      rintro e w2 ⟨rfl, hbk2, hg⟩
      have HNX : Mark2Rel lo hi g hs us cs w w2 := ⟨H.out.blk.grown hg (by simpa using fun e => hb3 e.symm), H.out.rows.mark hg ⟨_, hbk, _, hbk2, by simp [markV]; omega⟩, H.out.wth.trans (Within.of_grown hg hb1 hb2)⟩
      clear hg hbk hbk2 hcell
      go_wp2
      go_roundw
      case rel => exact ⟨j + 1, k + (rdL hs j).length, by omega, by go_num, rfl, by omega, by push_cast; omega, HNX⟩
      case measure => simp [intOf]; omega
    · obtain rfl : j = n := by omega
      have hw := h.wth
      clear h
      go_wp2
      go_ret
      exact ⟨⟨k, rfl, hk0⟩, hw⟩
end Go.Proofs.Ytjgflkoefimmoaa
