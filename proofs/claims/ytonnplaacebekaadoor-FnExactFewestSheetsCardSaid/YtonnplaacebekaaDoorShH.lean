/- Contract: what is left of each sheet, by the reference. -/
import Derived.Test.YtonnplaacebekaaDoorShG
import Derived.Test.YtonnplaacebekaaDoorShB
import Derived.BigRegion

namespace Go.Proofs.YtonnplaacebekaaDoor
open Go Go.RowKit
set_option linter.unusedVariables false
set_option linter.unusedSimpArgs false

/-- A row of the call's own that grows. -/
structure RsRel (w wr : World) (v : Value) (ys : List Int) : Prop where
  own : wr.ownsRow w.heap.size 2 1 v ys.length (ys.map i64)
  blk : ∃ b, v.ownBlock = some b
  below : Below w.heap.size w wr
theorem RsRel.form {w wr : World} {v : Value} {ys : List Int} (h : RsRel w wr v ys) : ∃ g c, v = .slice (some ⟨g, 0, none⟩) ys.length c ∧ ys.length ≤ c := by
  obtain ⟨b, hb⟩ := h.blk
  obtain ⟨_, h1 | h1⟩ := h.own
  · rw [h1.1] at hb; cases hb
  · obtain ⟨g, cap, cur, e, _, _, hc, _⟩ := h1
    exact ⟨g, cap, e, hc⟩
theorem RsRel.next {w wr w' : World} {v : Value} {ys : List Int} (h : RsRel w wr v ys) (hb : Below wr.heap.size wr w') : RsRel w w' v ys := ⟨own_next h.own hb, h.blk, below_step h.below hb⟩
theorem RsRel.drew {w wr : World} {v : Value} {ys : List Int} (h : RsRel w wr v ys) : RsRel w wr.drew v ys := h.next (below_drewN (Below.refl _ _) 1)
theorem RsRel.put {w wr w' : World} {v v' : Value} {ys : List Int} {x : Int} (h : RsRel w wr v ys) (ho : w'.ownsRow w.heap.size 2 1 v' (ys.length + 1) (ys.map i64 ++ [.int .i64 x])) (hg : wr.grownBy w' v.ownBlock) (hw : v'.ownBlock = v.ownBlock ∨ ∃ g, wr.heap.size ≤ g ∧ v'.ownBlock = some g) : RsRel w w' v' (ys ++ [x]) := by
  obtain ⟨b, hb⟩ := h.blk
  refine ⟨by rw [List.length_append, List.map_append]; exact ho, ?_, below_own h.below h.own hg (Nat.le_refl _) h.below.size⟩
  rcases hw with e | ⟨g, _, e⟩
  · exact ⟨b, by rw [e]; exact hb⟩
  · exact ⟨g, e⟩
theorem RsRel.at {w wr : World} {v : Value} {ys : List Int} (h : RsRel w wr v ys) (hn : 0 < ys.length) : ∃ g c cs, v = .slice (some ⟨g, 0, none⟩) ys.length c ∧ w.heap.size ≤ g ∧ Blk wr g 2 (ys.map i64 ++ cs) := by
  obtain ⟨g, c, cs, e, hg, hb, _⟩ := own_blk h.own hn
  exact ⟨g, c, cs, e, hg, hb⟩
theorem RsRel.set {w wr : World} {g c : Nat} {ys : List Int} (h : RsRel w wr (.slice (some ⟨g, 0, none⟩) ys.length c) ys) (i : Nat) (x : Int) : RsRel w (wr.setCell ⟨g, i, none⟩ (.int .i64 x)) (.slice (some ⟨g, 0, none⟩) ys.length c) (ys.set i x) := by
  have hg : wr.grownBy (wr.setCell ⟨g, i, none⟩ (.int .i64 x)) (some g) := grown_set (grown_refl _ _) i _
  refine ⟨?_, h.blk, below_own h.below h.own hg (Nat.le_refl _) h.below.size⟩
  rw [List.length_set, List.map_set]
  exact own_set h.own i _
theorem RsRel.cell {w wr : World} {g c : Nat} {ys : List Int} (h : RsRel w wr (.slice (some ⟨g, 0, none⟩) ys.length c) ys) (i : Nat) (hi : i < ys.length) : wr.cell? ⟨g, i, none⟩ = some (.int .i64 (rdI ys i)) := by
  obtain ⟨g', c', cs, e, _, hb⟩ := h.at (by omega)
  cases e
  refine hb.cell i _ ?_
  rw [List.getElem?_append_left (by simpa using hi), List.getElem?_map, List.getElem?_eq_getElem hi]
  unfold rdI
  rw [List.getD, List.getElem?_eq_getElem hi]; rfl
theorem RsRel.free {w wr : World} {g c : Nat} {ys : List Int} (h : RsRel w wr (.slice (some ⟨g, 0, none⟩) ys.length c) ys) (i : Nat) (hi : i < ys.length) : wr.frozen? ⟨g, i, none⟩ = false := by
  obtain ⟨g', c', cs, e, _, hb⟩ := h.at (by omega)
  cases e
  exact hb.free i
def lenV : Value → Nat
  | .slice _ n _ => n
  | _ => 0
theorem rstS_range {w : Int} {ps xs : List Int} (hw : 0 ≤ w) (hp : ∀ k, k < ps.length → 0 ≤ rdI ps k) : ∀ k, k ≤ ps.length → (∀ j, j < k → rstG w ps xs j) → (rstS w ps xs k).length ≤ 60 ∧ ∀ i, i < (rstS w ps xs k).length → 0 ≤ rdI (rstS w ps xs k) i ∧ rdI (rstS w ps xs k) i ≤ w
  | 0, _, _ => ⟨Nat.zero_le _, fun i hi => absurd hi (Nat.not_lt_zero _)⟩
  | k + 1, hk, h => by
    obtain ⟨h1, h2⟩ := rstS_range hw hp k (by omega) (fun j hj => h j (by omega))
    obtain ⟨g1, g2⟩ := h k (by omega)
    have hpk := hp k (by omega)
    obtain ⟨b1, b2⟩ := inB_iff.1 g1
    refine ⟨by rw [rstS_length]; omega, fun i hi => ?_⟩
    have hgr : ∀ i, i < (growI (rstS w ps xs k) w ((rdI xs k).toNat + 1)).length → 0 ≤ rdI (growI (rstS w ps xs k) w ((rdI xs k).toNat + 1)) i ∧ rdI (growI (rstS w ps xs k) w ((rdI xs k).toNat + 1)) i ≤ w := by
      intro i hi
      rw [growI_length] at hi
      by_cases e : i < (rstS w ps xs k).length
      · rw [rdI_grow e]; exact h2 i e
      · rw [rdI_grow_new (by omega) (by omega)]; exact ⟨hw, Int.le_refl _⟩
    rw [rstS_succ] at hi g2 ⊢
    rw [List.length_set] at hi
    by_cases e : (rdI xs k).toNat = i
    · subst e
      have := hgr _ hi
      rw [rdI_set _ hi] at g2 ⊢
      omega
    · rw [rdI_set_ne _ e]; exact hgr i hi

theorem growI_range {w : Int} {o : List Int} (hw : 0 ≤ w) (h : ∀ i, i < o.length → 0 ≤ rdI o i ∧ rdI o i ≤ w) (m : Nat) : ∀ i, i < (growI o w m).length → 0 ≤ rdI (growI o w m) i ∧ rdI (growI o w m) i ≤ w := by
  intro i hi
  rw [growI_length] at hi
  by_cases e : i < o.length
  · rw [rdI_grow e]; exact h i e
  · rw [rdI_grow_new (by omega) (by omega)]; exact ⟨hw, Int.le_refl _⟩
def RsOut (w : World) (wd : Int) (ps xs : List Int) (e : Ending) (w' : World) : Prop :=
  ∃ A c ys, e = .returned (.tuple #[.slice A ys.length c, .bool (decide (rstOk wd ps xs))]) ∧ Below w.heap.size w w' ∧ OwnS w' w.heap.size w'.heap.size A ys ∧ (rstOk wd ps xs → ys = rstS wd ps xs xs.length)
theorem RsOut.bad {w w' : World} {wd : Int} {ps xs ys : List Int} {A : Option Addr} {c : Nat} (h : ¬ rstOk wd ps xs) (hb : Below w.heap.size w w') (ho : OwnS w' w.heap.size w'.heap.size A ys) : RsOut w wd ps xs (.returned (.tuple #[.slice A ys.length c, .bool false])) w' :=
  ⟨A, c, ys, by rw [decide_eq_false h], hb, ho, fun h2 => absurd h2 h⟩

set_option maxHeartbeats 4000000 in
set_option maxRecDepth 100000 in
theorem rests_spec (A B : Option Addr) (n c m d : Nat) (ps xs : List Int) (wd : Int) (w : World) (hn : ps.length = n) (hnb : n ≤ 60) (hm : xs.length = m) (hmb : m ≤ 1048576) (hw : 0 ≤ wd ∧ wd ≤ 400) (hp : ∀ k, k < ps.length → 0 ≤ rdI ps k ∧ rdI ps k ≤ 50) (ha : SlE i64 w A ps) (hb : SlE i64 w B xs) :
    Calls Tryd.prog 51 #[.slice A n c, .slice B m d, .int .i64 wd] w (RsOut w wd ps xs) := by
  have HA := Lib.hid ha
  have HB := Lib.hid hb
  have HP := Lib.hid hp
  have HN := Lib.hid hn
  have HM := Lib.hid hm
  have hrel0 : RsRel w (w.alloc (.cells #[] 2)) (.slice (some ⟨w.heap.size, 0, none⟩) 0 0) [] := ⟨own_empty _ _ rfl _ _ (Nat.le_refl _) 1, ⟨_, rfl⟩, below_one _ _⟩
  clear ha hb hp hn hm
  by_cases hnm : n = m
  · go_enter Tryd.func51, Tryd.ntmps51
    go_wp2
    go_loopw [8, 9] (fun v i wr => ∃ k : Nat, k ≤ m ∧ i = .int .i64 k ∧ (∀ j, j < k → rstG wd ps xs j) ∧ RsRel w wr v (rstS wd ps xs k)) (fun _ i _ => m - (intOf i).toNat)
    case atStart => exact ⟨0, Nat.zero_le _, rfl, fun j hj => absurd hj (Nat.not_lt_zero _), hrel0⟩
    clear hrel0
    case round =>
      obtain ⟨k, hk, rfl, hall, h⟩ := hrel
      obtain ⟨r1, r2⟩ := rstS_range hw.1 (fun k hk => (HP.out k hk).1) k (by have := HN.out; omega) hall
      obtain ⟨ys, hys⟩ : ∃ ys, ys = rstS wd ps xs k := ⟨_, rfl⟩
      rw [← hys] at h r1 r2
      have HY := Lib.hid hys
      have HALL := Lib.hid hall
      clear hys hall
      obtain ⟨g, cu, rfl, hcu⟩ := h.form
      by_cases hlt : k < m
      · obtain ⟨a, rfl, hrow⟩ := (HA.out.next h.below).some k (by have := HN.out; omega)
        obtain ⟨b, rfl, hrow2⟩ := (HB.out.next h.below).some k (by have := HM.out; omega)
        have hpk := HP.out k (by have := HN.out; omega)
        have hcx := hrow2.atI64 k (by have := HM.out; omega)
        have H := Lib.hid h
        clear hrow hrow2
        cases hin : inB 0 59 (rdI xs k)
        · have HBAD := Lib.hid (show ¬ rstOk wd ps xs from fun hh => by have := (hh.2 k (by have := HM.out; omega)).1; rw [hin] at this; cases this)
          have HIN := Lib.hid hin
          clear hin h
          go_wp2_with (go_at_call 60; refine (inS_any _ _ _ _).mono ?_; rintro e w1 ⟨he, rfl⟩; rw [HIN.out] at he; subst he)
          go_ret2
          obtain ⟨A', c', e1, hl1, o1⟩ := OwnS.of_own H.out.own
          cases e1
          exact RsOut.bad HBAD.out H.out.below o1
        · obtain ⟨b1, b2⟩ := inB_iff.1 hin
          obtain ⟨X, hX⟩ : ∃ X : Nat, rdI xs k = X := ⟨(rdI xs k).toNat, by omega⟩
          have HX := Lib.hid hX
          rw [hX] at hcx b1 b2 hin
          have HIN := Lib.hid hin
          clear hin h hX
          go_wp2_with (go_at_call 60; refine (inS_any _ _ _ _).mono ?_; rintro e w1 ⟨he, rfl⟩; rw [HIN.out] at he; subst he)
          rename World => wo
          have hsz0 := H.out.below.size
          clear hcx
          go_loopw [8] (fun v wi => ∃ zs : List Int, growI zs wd (X + 1) = growI ys wd (X + 1) ∧ zs.length ≤ 60 ∧ RsRel w wi v zs) (fun v _ => 61 - lenV v)
          case atStart => exact ⟨ys, rfl, r1, H.out⟩
          case round =>
            obtain ⟨zs, hzg, hz60, h⟩ := hrel
            obtain ⟨g3, c3, rfl, hc3⟩ := h.form
            have hcx := rowI_cell (HB.out.next h.below) k (by have := HM.out; omega)
            rw [HX.out] at hcx
            have hszr := h.below.size
            by_cases hle : zs.length ≤ X
            · have H3 := Lib.hid h
              clear h
              go_wp2_with (at_builtin; refine wpList_app1B rfl (.tmp 37) (.tmp 39) _ rfl elI wr w.heap.size (.slice (some ⟨g3, 0, none⟩) zs.length c3) zs.length _ rfl H3.out.own _ _ rfl rfl rfl (by unfold maxLen; omega) (by omega) hszr ?_; intro v' w' ho' hg' hwh; have hput := H3.out.put ho' hg' hwh; obtain ⟨g5, c5, rfl, _⟩ := hput.form)
              go_roundw
              case rel => exact ⟨zs ++ [wd], by rw [growI_snoc (by omega)]; exact hzg, by simp; omega, by have h5 := hput; rw [List.length_append, List.length_singleton] at h5; exact h5⟩
              case measure => simp [lenV]; omega
            · have hz : zs = growI ys wd (X + 1) := by rw [← hzg, growI_done (by omega)]
              have hzr := growI_range hw.1 r2 (X + 1) X (by rw [growI_length]; omega)
              rw [← hz] at hzr
              have HZ := Lib.hid hz
              have hcp := rowI_cell (HA.out.next h.below) k (by have := HN.out; omega)
              have hcl := h.cell X (by omega)
              have hfr := h.free X (by omega)
              have hsub : IntKind.i64.wrap (rdI zs X - rdI ps k) = rdI zs X - rdI ps k := IntWalk.i64_in _ (by omega)
              have HST := Lib.hid (h.set X (rdI zs X - rdI ps k)).drew
              have HNX := Lib.hid (show rstS wd ps xs (k + 1) = zs.set X (rdI zs X - rdI ps k) by rw [rstS_succ, HX.out, Int.toNat_natCast, ← HY.out, ← HZ.out])
              clear hz hzg h
              go_wp2
              go_region
              generalize World.drew (wr.setCell ⟨g3, X, none⟩ (.int .i64 (rdI zs X - rdI ps k))) = W4 at HST ⊢
              have hcx4 := rowI_cell (HB.out.next HST.out.below) k (by have := HM.out; omega)
              rw [HX.out] at hcx4
              have hlz : (zs.set X (rdI zs X - rdI ps k)).length = zs.length := List.length_set ..
              obtain ⟨g6, c6, e6, _⟩ := HST.out.form
              have hcl4 : W4.cell? ⟨g3, X, none⟩ = some (.int .i64 (rdI zs X - rdI ps k)) := by
                have eg : g3 = g6 := by
                  injection e6 with e7 _ _
                  cases e7; rfl
                have h6 := HST.out
                rw [e6] at h6
                have := h6.cell X (by omega)
                rw [rdI_set _ (by omega)] at this
                rw [eg]
                exact this
              clear e6 hcx hcp hcl hfr hsub
              by_cases hneg : rdI zs X - rdI ps k < 0
              · have HBAD := Lib.hid (show ¬ rstOk wd ps xs from fun hh => by
                  have h2 := (hh.2 k (by have := HM.out; omega)).2
                  rw [HNX.out, HX.out, Int.toNat_natCast, rdI_set _ (by omega)] at h2
                  omega)
                go_wp2
                go_ret2
                obtain ⟨A', c', e1, hl1, o1⟩ := OwnS.of_own HST.out.own
                rw [e1]
                exact RsOut.bad HBAD.out HST.out.below o1
              · have HG := Lib.hid (show rstG wd ps xs k from ⟨by rw [HX.out]; exact HIN.out, by rw [HNX.out, HX.out, Int.toNat_natCast, rdI_set _ (by omega)]; omega⟩)
                go_wp2
                go_roundw
                case rel =>
                  refine ⟨_, _, _, _, ⟨k + 1, by omega, by go_num, fun j hj => ?_, by rw [HNX.out]; exact HST.out⟩, rfl, rfl, rfl, rfl⟩
                  by_cases e : j = k
                  · subst e; exact HG.out
                  · exact HALL.out j (by omega)
                case measure => simp [intOf]; omega
      · obtain rfl : k = m := by omega
        have HOK := Lib.hid (show rstOk wd ps xs from ⟨by rw [HM.out, HN.out, hnm], fun j hj => HALL.out j (by have := HM.out; omega)⟩)
        go_wp2
        go_ret2
        obtain ⟨A', c', e1, hl1, o1⟩ := OwnS.of_own h.own
        cases e1
        exact ⟨_, _, _, by rw [decide_eq_true HOK.out]; rfl, h.below, o1, fun _ => by rw [HY.out, HM.out]⟩
  · have HBAD := Lib.hid (show ¬ rstOk wd ps xs from fun hh => hnm (by rw [← HN.out, ← HM.out, hh.1]))
    go_enter Tryd.func51, Tryd.ntmps51
    go_wp2
    go_ret2
    exact RsOut.bad (ys := []) HBAD.out (below_one _ _) OwnS.nil
end Go.Proofs.YtonnplaacebekaaDoor
