/- Contract: what is left of each sheet, by the reference. -/
import Derived.Test.YtpindajpdkpfjaaGreatDoorShG
import Derived.Test.YtpindajpdkpfjaaGreatDoorShB
import Derived.BigRegion

namespace Go.Proofs.YtpindajpdkpfjaaGreatDoor
open Go Go.RowKit
set_option linter.unusedVariables false
set_option linter.unusedSimpArgs false

/-- A row of the call's own that grows. -/
structure RsRel (w wr : World) (v : Value) (ys : List Int) : Prop where
  own : wr.ownsRow w.heap.size 2 1 v ys.length (ys.map i64)
  blk : ∃ b, v.ownBlock = some b
  below : Below w.heap.size w wr
theorem RsRel.form {w wr : World} {v : Value} {ys : List Int} (h : RsRel w wr v ys) : ∃ g c, v = .slice (some ⟨g, 0, none⟩) ys.length c ∧ ys.length ≤ c := by
  obtain ⟨b, hb⟩ := h.blk
  obtain ⟨_, h1 | h1⟩ := h.own
  · rw [h1.1] at hb; cases hb
  · obtain ⟨g, cap, cur, e, _, _, hc, _⟩ := h1
    exact ⟨g, cap, e, hc⟩
theorem RsRel.next {w wr w' : World} {v : Value} {ys : List Int} (h : RsRel w wr v ys) (hb : Below wr.heap.size wr w') : RsRel w w' v ys := ⟨own_next h.own hb, h.blk, below_step h.below hb⟩
theorem RsRel.drew {w wr : World} {v : Value} {ys : List Int} (h : RsRel w wr v ys) : RsRel w wr.drew v ys := h.next (below_drewN (Below.refl _ _) 1)
theorem RsRel.put {w wr w' : World} {v v' : Value} {ys : List Int} {x : Int} (h : RsRel w wr v ys) (ho : w'.ownsRow w.heap.size 2 1 v' (ys.length + 1) (ys.map i64 ++ [.int .i64 x])) (hg : wr.grownBy w' v.ownBlock) (hw : v'.ownBlock = v.ownBlock ∨ ∃ g, wr.heap.size ≤ g ∧ v'.ownBlock = some g) : RsRel w w' v' (ys ++ [x]) := by
  obtain ⟨b, hb⟩ := h.blk
  refine ⟨by rw [List.length_append, List.map_append]; exact ho, ?_, below_own h.below h.own hg (Nat.le_refl _) h.below.size⟩
  rcases hw with e | ⟨g, _, e⟩
  · exact ⟨b, by rw [e]; exact hb⟩
  · exact ⟨g, e⟩
theorem RsRel.at {w wr : World} {v : Value} {ys : List Int} (h : RsRel w wr v ys) (hn : 0 < ys.length) : ∃ g c cs, v = .slice (some ⟨g, 0, none⟩) ys.length c ∧ w.heap.size ≤ g ∧ Blk wr g 2 (ys.map i64 ++ cs) := by
  obtain ⟨g, c, cs, e, hg, hb, _⟩ := own_blk h.own hn
  exact ⟨g, c, cs, e, hg, hb⟩
theorem RsRel.set {w wr : World} {g c : Nat} {ys : List Int} (h : RsRel w wr (.slice (some ⟨g, 0, none⟩) ys.length c) ys) (i : Nat) (x : Int) : RsRel w (wr.setCell ⟨g, i, none⟩ (.int .i64 x)) (.slice (some ⟨g, 0, none⟩) ys.length c) (ys.set i x) := by
  have hg : wr.grownBy (wr.setCell ⟨g, i, none⟩ (.int .i64 x)) (some g) := grown_set (grown_refl _ _) i _
  refine ⟨?_, h.blk, below_own h.below h.own hg (Nat.le_refl _) h.below.size⟩
  rw [List.length_set, List.map_set]
  exact own_set h.own i _
theorem RsRel.cell {w wr : World} {g c : Nat} {ys : List Int} (h : RsRel w wr (.slice (some ⟨g, 0, none⟩) ys.length c) ys) (i : Nat) (hi : i < ys.length) : wr.cell? ⟨g, i, none⟩ = some (.int .i64 (rdI ys i)) := by
  obtain ⟨g', c', cs, e, _, hb⟩ := h.at (by omega)
  cases e
  refine hb.cell i _ ?_
  rw [List.getElem?_append_left (by simpa using hi), List.getElem?_map, List.getElem?_eq_getElem hi]
  unfold rdI
  rw [List.getD, List.getElem?_eq_getElem hi]; rfl
theorem RsRel.free {w wr : World} {g c : Nat} {ys : List Int} (h : RsRel w wr (.slice (some ⟨g, 0, none⟩) ys.length c) ys) (i : Nat) (hi : i < ys.length) : wr.frozen? ⟨g, i, none⟩ = false := by
  obtain ⟨g', c', cs, e, _, hb⟩ := h.at (by omega)
  cases e
  exact hb.free i
def lenV : Value → Nat
  | .slice _ n _ => n
  | _ => 0
theorem rstS_range {w : Int} {ps xs : List Int} (hw : 0 ≤ w) (hp : ∀ k, k < ps.length → 0 ≤ rdI ps k) : ∀ k, k ≤ ps.length → (∀ j, j < k → rstG w ps xs j) → (rstS w ps xs k).length ≤ 60 ∧ ∀ i, i < (rstS w ps xs k).length → 0 ≤ rdI (rstS w ps xs k) i ∧ rdI (rstS w ps xs k) i ≤ w
  | 0, _, _ => ⟨Nat.zero_le _, fun i hi => absurd hi (Nat.not_lt_zero _)⟩
  | k + 1, hk, h => by
    obtain ⟨h1, h2⟩ := rstS_range hw hp k (by omega) (fun j hj => h j (by omega))
    obtain ⟨g1, g2⟩ := h k (by omega)
    have hpk := hp k (by omega)
    obtain ⟨b1, b2⟩ := inB_iff.1 g1
    refine ⟨by rw [rstS_length]; omega, fun i hi => ?_⟩
    have hgr : ∀ i, i < (growI (rstS w ps xs k) w ((rdI xs k).toNat + 1)).length → 0 ≤ rdI (growI (rstS w ps xs k) w ((rdI xs k).toNat + 1)) i ∧ rdI (growI (rstS w ps xs k) w ((rdI xs k).toNat + 1)) i ≤ w := by
      intro i hi
      rw [growI_length] at hi
      by_cases e : i < (rstS w ps xs k).length
      · rw [rdI_grow e]; exact h2 i e
      · rw [rdI_grow_new (by omega) (by omega)]; exact ⟨hw, Int.le_refl _⟩
    rw [rstS_succ] at hi g2 ⊢
    rw [List.length_set] at hi
    by_cases e : (rdI xs k).toNat = i
    · subst e
      have := hgr _ hi
      rw [rdI_set _ hi] at g2 ⊢
      omega
    · rw [rdI_set_ne _ e]; exact hgr i hi

theorem growI_range {w : Int} {o : List Int} (hw : 0 ≤ w) (h : ∀ i, i < o.length → 0 ≤ rdI o i ∧ rdI o i ≤ w) (m : Nat) : ∀ i, i < (growI o w m).length → 0 ≤ rdI (growI o w m) i ∧ rdI (growI o w m) i ≤ w := by
  intro i hi
  rw [growI_length] at hi
  by_cases e : i < o.length
  · rw [rdI_grow e]; exact h i e
  · rw [rdI_grow_new (by omega) (by omega)]; exact ⟨hw, Int.le_refl _⟩
def RsOut (w : World) (wd : Int) (ps xs : List Int) (e : Ending) (w' : World) : Prop :=
  ∃ A c ys, e = .returned (.tuple #[.slice A ys.length c, .bool (decide (rstOk wd ps xs))]) ∧ Below w.heap.size w w' ∧ OwnS w' w.heap.size w'.heap.size A ys ∧ (rstOk wd ps xs → ys = rstS wd ps xs xs.length)
theorem RsOut.bad {w w' : World} {wd : Int} {ps xs ys : List Int} {A : Option Addr} {c : Nat} (h : ¬ rstOk wd ps xs) (hb : Below w.heap.size w w') (ho : OwnS w' w.heap.size w'.heap.size A ys) : RsOut w wd ps xs (.returned (.tuple #[.slice A ys.length c, .bool false])) w' :=
  ⟨A, c, ys, by rw [decide_eq_false h], hb, ho, fun h2 => absurd h2 h⟩

end Go.Proofs.YtpindajpdkpfjaaGreatDoor
