/- Results that a law marks: a row of numbers of a call's own; what a mark leaves as it was. -/
import Derived.Test.YtjgflkoefimmoaaDoorInt
namespace Go.Proofs.YtjgflkoefimmoaaDoor
open Go Go.RowKit
set_option linter.unusedVariables false
set_option linter.unusedSimpArgs false

/-- Nothing but blocks from lo up to hi has changed. -/
structure Within (lo hi : Nat) (w w' : World) : Prop where
  os : w'.os = w.os
  tape : w'.tape = w.tape
  output : w'.output = w.output
  size : w.heap.size ≤ w'.heap.size
  block : ∀ k, k < w.heap.size → (k < lo ∨ hi ≤ k) → w'.heap[k]? = w.heap[k]?
theorem Within.refl (lo hi : Nat) (w : World) : Within lo hi w w := ⟨rfl, rfl, rfl, Nat.le_refl _, fun _ _ _ => rfl⟩
theorem Within.trans {lo hi : Nat} {a b c : World} (h : Within lo hi a b) (k : Within lo hi b c) : Within lo hi a c :=
  ⟨k.os.trans h.os, k.tape.trans h.tape, k.output.trans h.output, Nat.le_trans h.size k.size, fun i hi he => (k.block i (Nat.lt_of_lt_of_le hi h.size) he).trans (h.block i hi he)⟩
theorem Within.of_grown {lo hi g : Nat} {w w' : World} (h : w.grownBy w' (some g)) (hl : lo ≤ g) (hh : g < hi) : Within lo hi w w' :=
  ⟨h.os, h.tape, h.output, h.size, fun k hk he => h.block k hk (by intro e; cases e; omega)⟩
theorem Within.below {lo hi B : Nat} {a w w' : World} (h : Within lo hi w w') (hb : Below B a w) (hB : B ≤ lo) (hs : B ≤ w.heap.size) : Below B a w' :=
  hb.trans ⟨h.os, h.tape, h.output, h.size, fun k hk => h.block k (by omega) (.inl (by omega))⟩
theorem Blk.within {lo hi : Nat} {w w' : World} {b : Nat} {t : TypeId} {vs : List Value} (h : Blk w b t vs) (hw : Within lo hi w w') (hd : b < lo ∨ hi ≤ b) : Blk w' b t vs := by
  unfold Blk; rw [hw.block b h.lt hd]; exact h

/-- A row of numbers of a call's own, in a block from lo up to hi (nowhere, if there are none). -/
def OwnS (w : World) (lo hi : Nat) (A : Option Addr) (xs : List Int) : Prop := 0 < xs.length → ∃ g cs, A = some ⟨g, 0, none⟩ ∧ lo ≤ g ∧ g < hi ∧ Blk w g 2 (xs.map i64 ++ cs)
theorem OwnS.sl {w : World} {lo hi : Nat} {A : Option Addr} {xs : List Int} (h : OwnS w lo hi A xs) : SlE i64 w A xs := by
  intro i x hx
  have hi : i < xs.length := (List.getElem?_eq_some_iff.1 hx).1
  obtain ⟨g, cs, rfl, _, _, hb⟩ := h (by omega)
  exact SlE.of_row hb.head i x hx
theorem OwnS.next {w w' : World} {lo hi : Nat} {A : Option Addr} {xs : List Int} (h : OwnS w lo hi A xs) (hb : Below w.heap.size w w') : OwnS w' lo hi A xs := fun hn => by
  obtain ⟨g, cs, e, h1, h2, h3⟩ := h hn
  exact ⟨g, cs, e, h1, h2, h3.next hb⟩
theorem OwnS.drewN {w : World} {lo hi : Nat} {A : Option Addr} {xs : List Int} (h : OwnS w lo hi A xs) (q : Nat) : OwnS (w.drewN q) lo hi A xs := h
theorem OwnS.within {w w' : World} {lo hi a b : Nat} {A : Option Addr} {xs : List Int} (h : OwnS w lo hi A xs) (hw : Within a b w w') (hd : hi ≤ a ∨ b ≤ lo) : OwnS w' lo hi A xs := fun hn => by
  obtain ⟨g, cs, e, h1, h2, h3⟩ := h hn
  exact ⟨g, cs, e, h1, h2, h3.within hw (by omega)⟩
theorem OwnS.nil {w : World} {lo hi : Nat} {A : Option Addr} : OwnS w lo hi A [] := fun h => by simp at h
theorem OwnS.of_blk {w : World} {lo hi g : Nat} {xs : List Int} {cs : List Value} (h : Blk w g 2 (xs.map i64 ++ cs)) (h1 : lo ≤ g) (h2 : g < hi) : OwnS w lo hi (some ⟨g, 0, none⟩) xs := fun _ => ⟨g, cs, rfl, h1, h2, h⟩
theorem OwnS.of_own {w : World} {lo : Nat} {v : Value} {n : Nat} {xs : List Int} (h : w.ownsRow lo 2 1 v n (xs.map i64)) : ∃ A c, v = .slice A xs.length c ∧ xs.length = n ∧ OwnS w lo w.heap.size A xs := by
  by_cases hn : 0 < n
  · obtain ⟨g, c, cs, rfl, hg, hb, hl⟩ := own_blk h hn
    rw [List.length_map] at hl
    exact ⟨_, c, by rw [hl], hl, fun _ => ⟨g, cs, rfl, hg, hb.lt, hb⟩⟩
  · obtain ⟨A, c, e, hl, _, _⟩ := SlE_own h
    have hx : xs = [] := List.eq_nil_of_length_eq_zero (by omega)
    exact ⟨A, c, e, hl, by rw [hx]; exact OwnS.nil⟩

theorem markInt64S_zero (A : Option Addr) (c : Nat) (k : Int) (w : World) :
    Calls Tryd.prog 19 #[.slice A 0 c, .int .i64 k] w fun e w' => e = .returned (.int .i64 k) ∧ w = w' := by
  go_enter Tryd.func19, Tryd.ntmps19
  go_wp2
  go_loop [1, 5] (fun q i => q = .int .i64 k ∧ i = .int .i64 0) (fun _ _ => 0)
  case atStart => exact ⟨rfl, rfl⟩
  case round =>
    obtain ⟨rfl, rfl⟩ := hrel
    go_wp2
    go_ret
    exact ⟨rfl, rfl⟩

/-- A result is marked: it holds the numbers from k on then; nothing else has changed. -/
theorem markInt64S_ownS (lo hi : Nat) (A : Option Addr) (c : Nat) (xs : List Int) (n : Nat) (k : Int) (w : World) (hn : xs.length = n) (hm : n ≤ 1000000000) (hk : 0 ≤ k ∧ k ≤ 1125899906842624) (h : OwnS w lo hi A xs) :
    Calls Tryd.prog 19 #[.slice A n c, .int .i64 k] w fun e w' => e = .returned (.int .i64 (k + n)) ∧ OwnS w' lo hi A (fromN k n) ∧ Within lo hi w w' := by
  by_cases h0 : n = 0
  · subst h0
    exact (markInt64S_zero A c k w).mono fun e w' ⟨he, hw⟩ => ⟨by rw [he]; simp, fun h => by rw [fromN_length] at h; omega, by rw [← hw]; exact Within.refl _ _ _⟩
  · obtain ⟨g, cs, rfl, hg1, hg2, hb⟩ := h (by omega)
    refine (markInt64S_own g c _ _ n k w (by simp; omega) hm hk hb).mono fun e w' ⟨he, h1, h2⟩ => ⟨he, fun _ => ⟨g, (xs.map i64 ++ cs).drop n, rfl, hg1, hg2, ?_⟩, Within.of_grown h2 hg1 hg2⟩
    have e1 : (fromN k n).map i64 ++ (xs.map i64 ++ cs).drop n = markV k (xs.map i64 ++ cs) n := by unfold fromN markV; rw [List.map_map]; rfl
    rw [e1]
    exact h1
end Go.Proofs.YtjgflkoefimmoaaDoor
