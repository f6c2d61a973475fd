/- Contracts: where letters lie and how wide they are, by the reference. -/
import Derived.Test.YtdhngjjfoddnkaaGreatDoorShS
import Derived.Test.YtdhngjjfoddnkaaGreatDoorGG
import Derived.Test.YtdhngjjfoddnkaaGreatDoorGA
import Derived.Test.YtdhngjjfoddnkaaGreatDoorGJ


namespace Go.Proofs.YtdhngjjfoddnkaaGreatDoor
open Go Go.RowKit
set_option linter.unusedVariables false
set_option linter.unusedSimpArgs false

/-- Where word i begins. -/
def baseW (f : Fc) (ws : List (List UInt8)) (i : Nat) : Int := if i = 0 then 0 else sumW f ws i + f.space
def plcW (f : Fc) (w : List UInt8) (base : Int) (k : Nat) : List Int := (List.range k).map fun j => base + (atW f w j + gapAt f w j)
def wdsW (f : Fc) (w : List UInt8) (k : Nat) : List Int := (List.range k).map fun j => letW f (byt w j)
def plcA (f : Fc) (ws : List (List UInt8)) : Nat → List Int
  | 0 => []
  | i + 1 => plcA f ws i ++ plcW f (rdW ws i) (baseW f ws i) (rdW ws i).length
def wdsA (f : Fc) (ws : List (List UInt8)) : Nat → List Int
  | 0 => []
  | i + 1 => wdsA f ws i ++ wdsW f (rdW ws i) (rdW ws i).length
theorem plcW_succ (f : Fc) (w : List UInt8) (base : Int) (k : Nat) : plcW f w base (k + 1) = plcW f w base k ++ [base + (atW f w k + gapAt f w k)] := by unfold plcW; rw [List.range_succ, List.map_append]; rfl
theorem wdsW_succ (f : Fc) (w : List UInt8) (k : Nat) : wdsW f w (k + 1) = wdsW f w k ++ [letW f (byt w k)] := by unfold wdsW; rw [List.range_succ, List.map_append]; rfl
theorem plcW_length (f : Fc) (w : List UInt8) (base : Int) (k : Nat) : (plcW f w base k).length = k := by unfold plcW; simp
theorem wdsW_length (f : Fc) (w : List UInt8) (k : Nat) : (wdsW f w k).length = k := by unfold wdsW; simp
theorem plcA_length {f : Fc} {ws : List (List UInt8)} (h : ∀ x ∈ ws, x.length ≤ 60) : ∀ i, i ≤ ws.length → (plcA f ws i).length = (wdsA f ws i).length ∧ (wdsA f ws i).length ≤ 60 * i := by
  intro i
  induction i with
  | zero => intro _; exact ⟨rfl, Nat.zero_le _⟩
  | succ i ih =>
    intro hi
    have h1 := ih (by omega)
    have h2 := h _ (rdW_mem (show i < ws.length by omega))
    rw [plcA, wdsA, List.length_append, List.length_append, plcW_length, wdsW_length]
    omega
/-- All widths are those of the letters. -/
theorem wdsW_map (f : Fc) (w : List UInt8) : wdsW f w w.length = w.map fun b => letW f (b.toNat : Int) := by
  apply List.ext_getElem?
  intro i
  unfold wdsW
  rw [List.getElem?_map, List.getElem?_map]
  by_cases h : i < w.length
  · rw [List.getElem?_range h, List.getElem?_eq_getElem h]
    show some (letW f (byt w i)) = some _
    rw [byt_get h]
  · rw [List.getElem?_eq_none (by simp; omega), List.getElem?_eq_none (by omega)]; rfl
theorem wdsA_map (f : Fc) (ws : List (List UInt8)) : ∀ i, i ≤ ws.length → wdsA f ws i = ((ws.take i).flatten).map fun b => letW f (b.toNat : Int) := by
  intro i
  induction i with
  | zero => intro _; rfl
  | succ i ih =>
    intro hi
    have hi' : i < ws.length := by omega
    rw [wdsA, ih (by omega), wdsW_map, List.take_succ_eq_append_getElem hi', List.flatten_append, List.map_append]
    congr 1
    unfold rdW
    rw [List.getD, List.getElem?_eq_getElem hi']
    simp
theorem wdsA_all (f : Fc) {ws : List (List UInt8)} (h : ∀ x ∈ ws, LL x) : wdsA f ws ws.length = (lets (joinW ws)).map fun b => letW f (b.toNat : Int) := by
  rw [wdsA_map f ws _ (Nat.le_refl _), List.take_length, lets_join h]

theorem sumW_next (f : Fc) (ws : List (List UInt8)) (i : Nat) : sumW f ws (i + 1) = baseW f ws i + lineW f (rdW ws i) := by
  unfold baseW rdW
  rw [sumW]
  by_cases h : i = 0
  · subst h; rw [if_pos rfl, if_pos rfl]; rfl
  · rw [if_neg h, if_neg h]
/-- Places and widths, each in a row of the call's own. -/
structure PwRel (W0 wr : World) (v u : Value) (ps ds : List Int) (n : Nat) : Prop where
  ps : wr.ownsRow W0.heap.size 2 1 v n (ps.map i64)
  ds : wr.ownsRow W0.heap.size 2 1 u n (ds.map i64)
  ne : ∃ a b, v.ownBlock = some a ∧ u.ownBlock = some b ∧ a ≠ b
  below : Below W0.heap.size W0 wr
def PwOut (w : World) (ps ds : List Int) (e : Ending) (w' : World) : Prop :=
  ∃ A c B d, e = .returned (.tuple #[.slice A ps.length c, .slice B ds.length d]) ∧ Below w.heap.size w w' ∧ OwnS w' w.heap.size w'.heap.size A ps ∧ OwnS w' w.heap.size w'.heap.size B ds

theorem szStr : (Tryz.prog.info? 9).map (·.size) = some 1 := by kernel_rfl
theorem PwRel.next {W0 wr w' : World} {v u : Value} {ps ds : List Int} {n : Nat} (h : PwRel W0 wr v u ps ds n) (hb : Below wr.heap.size wr w') : PwRel W0 w' v u ps ds n := ⟨own_next h.ps hb, own_next h.ds hb, h.ne, below_step h.below hb⟩
/-- One place more. -/
theorem PwRel.putP {W0 wr w' : World} {v v' u : Value} {ps ds : List Int} {n : Nat} {x : Int} (h : PwRel W0 wr v u ps ds n) (ho : w'.ownsRow W0.heap.size 2 1 v' (n + 1) (ps.map i64 ++ [.int .i64 x])) (hg : wr.grownBy w' v.ownBlock) (hw : v'.ownBlock = v.ownBlock ∨ ∃ g, wr.heap.size ≤ g ∧ v'.ownBlock = some g) :
    w'.ownsRow W0.heap.size 2 1 v' (n + 1) ((ps ++ [x]).map i64) ∧ w'.ownsRow W0.heap.size 2 1 u n (ds.map i64) ∧ (∃ a b, v'.ownBlock = some a ∧ u.ownBlock = some b ∧ a ≠ b) ∧ Below W0.heap.size W0 w' := by
  obtain ⟨a, b, ha, hb, hne⟩ := h.ne
  refine ⟨by rw [List.map_append]; exact ho, h.ds.kept hg (.inr (by rw [ha, hb]; intro e; cases e; exact hne rfl)), ?_, below_own h.below h.ps hg (Nat.le_refl _) h.below.size⟩
  rcases hw with e | ⟨g, hg2, e⟩
  · exact ⟨a, b, by rw [e]; exact ha, hb, hne⟩
  · have := (h.ds.lt b hb).2
    exact ⟨g, b, e, hb, by omega⟩
/-- One width more. -/
theorem PwRel.putD {W0 wr w' : World} {v u u' : Value} {ps ds : List Int} {n m : Nat} {x : Int} (h1 : wr.ownsRow W0.heap.size 2 1 v m (ps.map i64)) (h2 : wr.ownsRow W0.heap.size 2 1 u n (ds.map i64)) (h3 : ∃ a b, v.ownBlock = some a ∧ u.ownBlock = some b ∧ a ≠ b) (h4 : Below W0.heap.size W0 wr)
    (ho : w'.ownsRow W0.heap.size 2 1 u' (n + 1) (ds.map i64 ++ [.int .i64 x])) (hg : wr.grownBy w' u.ownBlock) (hw : u'.ownBlock = u.ownBlock ∨ ∃ g, wr.heap.size ≤ g ∧ u'.ownBlock = some g) (hm : m = n + 1) : PwRel W0 w' v u' ps (ds ++ [x]) (n + 1) := by
  subst hm
  obtain ⟨a, b, ha, hb, hne⟩ := h3
  refine ⟨h1.kept hg (.inr (by rw [ha, hb]; intro e; cases e; exact hne rfl)), by rw [List.map_append]; exact ho, ?_, below_own h4 h2 hg (Nat.le_refl _) h4.size⟩
  rcases hw with e | ⟨g, hg2, e⟩
  · exact ⟨a, b, ha, by rw [e]; exact hb, hne⟩
  · have := (h1.lt a ha).2
    exact ⟨a, g, ha, e, by omega⟩

end Go.Proofs.YtdhngjjfoddnkaaGreatDoor
