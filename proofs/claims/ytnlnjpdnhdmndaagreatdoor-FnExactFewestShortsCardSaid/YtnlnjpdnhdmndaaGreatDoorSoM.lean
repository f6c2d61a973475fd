/- Shorts in memory: a slice of pairs of texts. -/
import Derived.Test.YtnlnjpdnhdmndaaGreatDoorGC
import Derived.Test.YtnlnjpdnhdmndaaGreatDoorGF
namespace Go.Proofs.YtnlnjpdnhdmndaaGreatDoor
open Go Go.RowKit
set_option linter.unusedVariables false
set_option linter.unusedSimpArgs false

/-- A word and its short. -/
structure Sr where
  lo : List UInt8
  sh : List UInt8
deriving DecidableEq
instance : Inhabited Sr := ⟨⟨[], []⟩⟩
def rdSr (ps : List Sr) (i : Nat) : Sr := ps.getD i ⟨[], []⟩
theorem rdSr_at {ps : List Sr} {i : Nat} (h : i < ps.length) : ps[i]? = some (rdSr ps i) := by
  unfold rdSr
  rw [List.getD, List.getElem?_eq_getElem h]; rfl
def srV (p : Sr) : List Value := [sv p.lo, sv p.sh]
def srVs (ps : List Sr) : List Value := ps.flatMap srV
theorem srVs_length (ps : List Sr) : (srVs ps).length = ps.length * 2 := by
  induction ps with
  | nil => rfl
  | cons p ps ih => simp only [srVs, List.flatMap_cons, List.length_append, List.length_cons] at ih ⊢; rw [ih]; simp [srV]; omega
theorem srVs_append (a b : List Sr) : srVs (a ++ b) = srVs a ++ srVs b := by simp [srVs]
theorem srVs_at {ps : List Sr} {i : Nat} {p : Sr} (h : ps[i]? = some p) : ((srVs ps).drop (i * 2)).take 2 = srV p := by
  induction ps generalizing i with
  | nil => simp at h
  | cons q ps ih =>
    have e : srVs (q :: ps) = srV q ++ srVs ps := by simp [srVs]
    cases i with
    | zero =>
      simp at h; subst h
      rw [e]; simp [srV]
    | succ i =>
      rw [e, Nat.succ_mul, Nat.add_comm]
      have : (srV q ++ srVs ps).drop (2 + i * 2) = (srVs ps).drop (i * 2) := by
        rw [← List.drop_drop]; simp [srV]
      rw [this]
      exact ih (by simpa using h)
/-- The slice at A has the shorts ps. -/
def SlR (w : World) (A : Option Addr) (ps : List Sr) : Prop := ∀ i p, ps[i]? = some p → ∃ a, A = some a ∧ RowV w (a.add (i * 2)) (srV p)
theorem SlR.nil {w : World} {A : Option Addr} : SlR w A [] := fun i p h => by simp at h
theorem SlR.next {w w' : World} {A : Option Addr} {ps : List Sr} (h : SlR w A ps) (hb : Below w.heap.size w w') : SlR w' A ps := by
  intro i p hp
  obtain ⟨a, e, h1⟩ := h i p hp
  exact ⟨a, e, h1.next hb⟩
theorem SlR.drewN {w : World} {A : Option Addr} {ps : List Sr} (h : SlR w A ps) (q : Nat) : SlR (w.drewN q) A ps := h
theorem SlR.get {w : World} {A : Option Addr} {ps : List Sr} (h : SlR w A ps) (i : Nat) (hi : i < ps.length) : ∃ a, A = some a ∧ RowV w (a.add (i * 2)) (srV (rdSr ps i)) := h i _ (rdSr_at hi)
theorem SlR.of_blk {w : World} {g : Nat} {t : TypeId} {ps : List Sr} {cs : List Value} (h : Blk w g t (srVs ps ++ cs)) : SlR w (some ⟨g, 0, none⟩) ps := by
  intro i p hp
  refine ⟨_, rfl, ?_⟩
  have hi : i < ps.length := (List.getElem?_eq_some_iff.1 hp).1
  have h1 := h.rowV (i * 2) 2
  rw [List.drop_append_of_le_length (by rw [srVs_length]; omega), List.take_append_of_le_length (by rw [List.length_drop, srVs_length]; omega), srVs_at hp] at h1
  rw [add_mid, Nat.zero_add]
  exact h1
theorem sr_cells {w : World} {a : Addr} {p : Sr} (h : RowV w a (srV p)) : w.cell? (a.add 0) = some (sv p.lo) ∧ w.cell? (a.add 1) = some (sv p.sh) := ⟨h 0 _ rfl, h 1 _ rfl⟩
theorem one_sr (p : Sr) : (srV p).toArray.all (·.oneCell') = true := by simp [srV, sv, Value.oneCell']
theorem szSrI : (Tryz.prog.info? 62).map (·.size) = some 2 := by kernel_rfl
end Go.Proofs.YtnlnjpdnhdmndaaGreatDoor
