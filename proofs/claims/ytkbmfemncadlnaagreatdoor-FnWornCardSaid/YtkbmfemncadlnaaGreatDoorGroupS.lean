/- Contracts: hands in groups, by the reference (under way). -/
import Derived.Test.YtkbmfemncadlnaaGreatDoorGN
import Derived.Test.YtkbmfemncadlnaaGreatDoorGroupP
namespace Go.Proofs.YtkbmfemncadlnaaGreatDoor
open Go Go.RowKit
set_option linter.unusedVariables false
set_option linter.unusedSimpArgs false

def nearB (hs : List (List Int)) (limit : Int) (a b : Nat) : Bool := decide ((apartN (rdL hs a) (rdL hs b) : Int) ≤ limit)
/-- What GroupHands returns. -/
noncomputable def groupOut (hs : List (List Int)) (n : Nat) (limit : Int) : List Int × Int :=
  if handsCode hs n = 0 then (if limit < 0 then ([], 2) else ((grpAll (nearB hs limit) n n).1, 0)) else ([], handsCode hs n)
theorem groupOut_code {hs : List (List Int)} {n : Nat} {limit : Int} (h : ¬ handsCode hs n = 0) : groupOut hs n limit = ([], handsCode hs n) := if_neg h
theorem groupOut_neg {hs : List (List Int)} {n : Nat} {limit : Int} (h : handsCode hs n = 0) (hl : limit < 0) : groupOut hs n limit = ([], 2) := by unfold groupOut; rw [if_pos h, if_pos hl]
theorem groupOut_ok {hs : List (List Int)} {n : Nat} {limit : Int} (h : handsCode hs n = 0) (hl : ¬ limit < 0) : groupOut hs n limit = ((grpAll (nearB hs limit) n n).1, 0) := by unfold groupOut; rw [if_pos h, if_neg hl]

/-- A list of numbers in memory of the call's own, and a code. -/
def GOut (w : World) (xs : List Int) (code : Int) (e : Ending) (w' : World) : Prop :=
  ∃ A c, e = .returned (.tuple #[.slice A xs.length c, .int .i64 code]) ∧ Below w.heap.size w w' ∧ (0 < xs.length → ∃ g cs, A = some ⟨g, 0, none⟩ ∧ w.heap.size ≤ g ∧ Blk w' g 2 (xs.map i64 ++ cs))

/-- .. of at least that capacity. -/
def GOutC (w : World) (xs : List Int) (code : Int) (e : Ending) (w' : World) : Prop :=
  ∃ A c, e = .returned (.tuple #[.slice A xs.length c, .int .i64 code]) ∧ Below w.heap.size w w' ∧ (0 < xs.length → ∃ g cs, A = some ⟨g, 0, none⟩ ∧ w.heap.size ≤ g ∧ Blk w' g 2 (xs.map i64 ++ cs)) ∧ xs.length ≤ c
theorem GOutC.out {w w' : World} {xs : List Int} {code : Int} {e : Ending} (h : GOutC w xs code e w') : GOut w xs code e w' := by
  obtain ⟨A, c, h1, h2, h3, _⟩ := h
  exact ⟨A, c, h1, h2, h3⟩
theorem cur_at {cur : List Int} {cs : List Value} {b : Nat} (hb : b < cur.length) : (cur.map i64 ++ cs)[b]? = some (.int .i64 (rdI cur b)) := by
  rw [List.getElem?_append_left (by simpa using hb), List.getElem?_map, List.getElem?_eq_getElem hb]
  simp [rdI, List.getD, List.getElem?_eq_getElem hb, i64]
theorem cur_set {cur : List Int} {cs : List Value} {b : Nat} {v : Int} (hb : b < cur.length) : (cur.map i64 ++ cs).set b (.int .i64 v) = (cur.set b v).map i64 ++ cs := by
  rw [List.set_append_left _ _ (by simpa using hb), List.map_set]; rfl

/-- How many hands have no group. -/
def negs (cur : List Int) (n : Nat) : Nat := cnt (fun b => decide (rdI cur b < 0)) n
/-- The same, read from memory: for the measure of a loop. -/
def negW (w : World) (g n : Nat) : Nat := cnt (fun b => match w.cell? ⟨g, b, none⟩ with | some (.int _ v) => decide (v < 0) | _ => false) n
theorem negW_eq {w : World} {g n : Nat} {t : TypeId} {cur : List Int} {cs : List Value} (hl : cur.length = n) (h : Blk w g t (cur.map i64 ++ cs)) : negW w g n = negs cur n := by
  unfold negW negs
  refine cnt_congr fun b hb => ?_
  rw [h.cell b _ (cur_at (by omega))]
theorem cntS (p : Nat → Bool) (k : Nat) : cnt p (k + 1) = cnt p k + (if p k then 1 else 0) := rfl
theorem negs_set {cur : List Int} {n b : Nat} {v : Int} (hl : cur.length = n) (hb : b < n) (hn : rdI cur b < 0) (hv : 0 ≤ v) : negs (cur.set b v) n < negs cur n := by
  subst hl
  unfold negs
  have key : ∀ k, k ≤ cur.length → cnt (fun x => decide (rdI (cur.set b v) x < 0)) k + (if b < k then 1 else 0) = cnt (fun x => decide (rdI cur x < 0)) k := by
    intro k hk
    induction k with
    | zero => simp [cnt, sumN]
    | succ k ih =>
      have := ih (by omega)
      rw [cntS, cntS]
      simp only [rdI_set _ _ _ k hb] at this ⊢
      by_cases e : k = b
      · subst e
        rw [if_pos rfl, decide_eq_false (by omega : ¬ v < 0), decide_eq_true hn, if_pos (by omega : k < k + 1)]
        rw [if_neg (by omega : ¬ k < k)] at this
        simp only [Bool.false_eq_true, if_false, if_true]
        omega
      · rw [if_neg e]
        by_cases h1 : b < k
        · rw [if_pos h1] at this; rw [if_pos (show b < k + 1 by omega)]; omega
        · rw [if_neg h1] at this; rw [if_neg (show ¬ b < k + 1 by omega)]; omega
  have := key cur.length (Nat.le_refl _)
  rw [if_pos hb] at this
  omega
end Go.Proofs.YtkbmfemncadlnaaGreatDoor
