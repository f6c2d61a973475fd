/- Two rows that grow beside a source: sheets of pieces, and what is left of them. -/
import Derived.Test.YtdhngjjfoddnkaaGreatDoorShA
import Derived.Test.YtdhngjjfoddnkaaGreatDoorShQ
namespace Go.Proofs.YtdhngjjfoddnkaaGreatDoor
open Go Go.RowKit
set_option linter.unusedVariables false
set_option linter.unusedSimpArgs false

theorem own_set {w : World} {base g n c : Nat} {e : TypeId} {xs : List Value} (h : w.ownsRow base e 1 (.slice (some ⟨g, 0, none⟩) n c) n xs) (i : Nat) (x : Value) : (w.setCell ⟨g, i, none⟩ x).ownsRow base e 1 (.slice (some ⟨g, 0, none⟩) n c) n (xs.set i x) := by
  obtain ⟨hl, h⟩ := h
  rcases h with ⟨h1, _⟩ | ⟨g', cap, cur, h1, hg, hh, hc, hm, hs, ht⟩
  · cases h1
  · cases h1
    refine ⟨by rw [List.length_set]; exact hl, .inr ⟨_, _, cur.setIfInBounds i x, rfl, hg, ?_, hc, hm, by simpa using hs, ?_⟩⟩
    · rw [heap_setCell_same w _ i _ e x hh]
    · rw [Array.toList_setIfInBounds, ← ht, List.take_set]
structure FsRel (W0 wr : World) (s1 s2 : Nat) (v u : Value) (A : Option Addr) (D xs ys : List Int) : Prop where
  out : wr.ownsRow W0.heap.size 2 1 v xs.length (xs.map i64)
  lef : wr.ownsRow W0.heap.size 2 1 u ys.length (ys.map i64)
  blk : ∃ a b, v.ownBlock = some a ∧ u.ownBlock = some b ∧ a ≠ b ∧ (a < s1 ∨ s2 ≤ a) ∧ (b < s1 ∨ s2 ≤ b)
  src : OwnS wr s1 s2 A D
  below : Below W0.heap.size W0 wr
  size : s2 ≤ wr.heap.size
theorem OwnS.grown {w w' : World} {lo hi : Nat} {A : Option Addr} {xs : List Int} {row : Option Nat} (h : OwnS w lo hi A xs) (hg : w.grownBy w' row) (hr : ∀ b, row = some b → b < lo ∨ hi ≤ b) : OwnS w' lo hi A xs := fun hn => by
  obtain ⟨g, cs, e, h1, h2, h3⟩ := h hn
  exact ⟨g, cs, e, h1, h2, h3.grown hg (fun e => by have := hr g e.symm; omega)⟩
theorem FsRel.putO {W0 wr w' : World} {s1 s2 : Nat} {v v' u : Value} {A : Option Addr} {D xs ys : List Int} {x : Int} (h : FsRel W0 wr s1 s2 v u A D xs ys) (ho : w'.ownsRow W0.heap.size 2 1 v' (xs.length + 1) (xs.map i64 ++ [.int .i64 x])) (hg : wr.grownBy w' v.ownBlock) (hw : v'.ownBlock = v.ownBlock ∨ ∃ g, wr.heap.size ≤ g ∧ v'.ownBlock = some g) : FsRel W0 w' s1 s2 v' u A D (xs ++ [x]) ys := by
  obtain ⟨a, b, ha, hb, hne, h1, h2⟩ := h.blk
  have hs := h.size
  have hgs : wr.heap.size ≤ w'.heap.size := by obtain ⟨_, _, _, hgs, _⟩ := hg; exact hgs
  refine ⟨by rw [List.length_append, List.map_append]; exact ho, h.lef.kept hg (.inr (by rw [ha, hb]; intro e; cases e; exact hne rfl)), ?_, h.src.grown hg (fun c hc => by rw [ha] at hc; cases hc; exact h1), below_own h.below h.out hg (Nat.le_refl _) h.below.size, Nat.le_trans hs hgs⟩
  rcases hw with e | ⟨g, hg2, e⟩
  · exact ⟨a, b, by rw [e]; exact ha, hb, hne, h1, h2⟩
  · have := (h.lef.lt b hb).2
    exact ⟨g, b, e, hb, by omega, .inr (by omega), h2⟩
theorem FsRel.putL {W0 wr w' : World} {s1 s2 : Nat} {v u u' : Value} {A : Option Addr} {D xs ys : List Int} {x : Int} (h : FsRel W0 wr s1 s2 v u A D xs ys) (ho : w'.ownsRow W0.heap.size 2 1 u' (ys.length + 1) (ys.map i64 ++ [.int .i64 x])) (hg : wr.grownBy w' u.ownBlock) (hw : u'.ownBlock = u.ownBlock ∨ ∃ g, wr.heap.size ≤ g ∧ u'.ownBlock = some g) : FsRel W0 w' s1 s2 v u' A D xs (ys ++ [x]) := by
  obtain ⟨a, b, ha, hb, hne, h1, h2⟩ := h.blk
  have hs := h.size
  have hgs : wr.heap.size ≤ w'.heap.size := by obtain ⟨_, _, _, hgs, _⟩ := hg; exact hgs
  refine ⟨h.out.kept hg (.inr (by rw [ha, hb]; intro e; cases e; exact hne rfl)), by rw [List.length_append, List.map_append]; exact ho, ?_, h.src.grown hg (fun c hc => by rw [hb] at hc; cases hc; exact h2), below_own h.below h.lef hg (Nat.le_refl _) h.below.size, Nat.le_trans hs hgs⟩
  rcases hw with e | ⟨g, hg2, e⟩
  · exact ⟨a, b, ha, by rw [e]; exact hb, hne, h1, h2⟩
  · have := (h.out.lt a ha).2
    exact ⟨a, g, ha, e, by omega, h1, .inr (by omega)⟩
theorem FsRel.form {W0 wr : World} {s1 s2 : Nat} {v u : Value} {A : Option Addr} {D xs ys : List Int} (h : FsRel W0 wr s1 s2 v u A D xs ys) : ∃ g c, u = .slice (some ⟨g, 0, none⟩) ys.length c ∧ ys.length ≤ c := by
  obtain ⟨a, b, _, hb, _⟩ := h.blk
  obtain ⟨_, h1 | h1⟩ := h.lef
  · rw [h1.1] at hb; cases hb
  · obtain ⟨g, cap, cur, e, _, _, hc, _⟩ := h1
    exact ⟨g, cap, e, hc⟩
/-- The row of what is left: its block, and a store. -/
theorem FsRel.at {W0 wr : World} {s1 s2 : Nat} {v u : Value} {A : Option Addr} {D xs ys : List Int} (h : FsRel W0 wr s1 s2 v u A D xs ys) (hn : 0 < ys.length) : ∃ g c cs, u = .slice (some ⟨g, 0, none⟩) ys.length c ∧ W0.heap.size ≤ g ∧ Blk wr g 2 (ys.map i64 ++ cs) := by
  obtain ⟨g, c, cs, e, hg, hb, _⟩ := own_blk h.lef hn
  exact ⟨g, c, cs, e, hg, hb⟩
theorem FsRel.set {W0 wr : World} {s1 s2 g c : Nat} {v : Value} {A : Option Addr} {D xs ys : List Int} (h : FsRel W0 wr s1 s2 v (.slice (some ⟨g, 0, none⟩) ys.length c) A D xs ys) (i : Nat) (x : Int) : FsRel W0 (wr.setCell ⟨g, i, none⟩ (.int .i64 x)) s1 s2 v (.slice (some ⟨g, 0, none⟩) ys.length c) A D xs (ys.set i x) := by
  obtain ⟨a, b, ha, hb, hne, h1, h2⟩ := h.blk
  cases hb
  have hg : wr.grownBy (wr.setCell ⟨g, i, none⟩ (.int .i64 x)) (some g) := grown_set (grown_refl _ _) i _
  have hgs : wr.heap.size ≤ (wr.setCell ⟨g, i, none⟩ (.int .i64 x)).heap.size := by obtain ⟨_, _, _, hgs, _⟩ := hg; exact hgs
  refine ⟨h.out.kept hg (.inr (by rw [ha]; intro e; cases e; exact hne rfl)), ?_, ⟨a, g, ha, rfl, hne, h1, h2⟩, h.src.grown hg (fun c hc => by cases hc; exact h2), below_own h.below h.lef hg (Nat.le_refl _) h.below.size, Nat.le_trans h.size hgs⟩
  rw [List.length_set, List.map_set]
  exact own_set h.lef i _
theorem FsRel.cell {W0 wr : World} {s1 s2 g c : Nat} {v : Value} {A : Option Addr} {D xs ys : List Int} (h : FsRel W0 wr s1 s2 v (.slice (some ⟨g, 0, none⟩) ys.length c) A D xs ys) (i : Nat) (hi : i < ys.length) : wr.cell? ⟨g, i, none⟩ = some (.int .i64 (rdI ys i)) := by
  obtain ⟨g', c', cs, e, _, hb⟩ := h.at (by omega)
  cases e
  refine hb.cell i _ ?_
  rw [List.getElem?_append_left (by simpa using hi), List.getElem?_map, List.getElem?_eq_getElem hi]
  unfold rdI
  rw [List.getD, List.getElem?_eq_getElem hi]; rfl
theorem FsRel.next {W0 wr w' : World} {s1 s2 : Nat} {v u : Value} {A : Option Addr} {D xs ys : List Int} (h : FsRel W0 wr s1 s2 v u A D xs ys) (hb : Below wr.heap.size wr w') : FsRel W0 w' s1 s2 v u A D xs ys :=
  ⟨own_next h.out hb, own_next h.lef hb, h.blk, h.src.next hb, below_step h.below hb, Nat.le_trans h.size hb.size⟩
theorem FsRel.drew {W0 wr : World} {s1 s2 : Nat} {v u : Value} {A : Option Addr} {D xs ys : List Int} (h : FsRel W0 wr s1 s2 v u A D xs ys) : FsRel W0 wr.drew s1 s2 v u A D xs ys := h.next (below_drewN (Below.refl _ _) 1)
end Go.Proofs.YtdhngjjfoddnkaaGreatDoor
