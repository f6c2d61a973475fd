/- Contracts: faces in memory: their size, a copy of them, pairs and letters' widths copied. -/
import Derived.Test.YtjgflkoefimmoaaDoorProg
import Derived.Test.YtjgflkoefimmoaaDoorFcP
import Derived.Test.YtjgflkoefimmoaaDoorReg
import Derived.OwnWalk
import Derived.Lib.LazyBuf
import Derived.Outline
namespace Go.Proofs.YtjgflkoefimmoaaDoor
open Go Go.RowKit
set_option linter.unusedVariables false
set_option linter.unusedSimpArgs false

def prV (p : Pr) : List Value := [.int .u8 p.a, .int .u8 p.b, .int .i8 p.y]
def prVs (ps : List Pr) : List Value := ps.flatMap prV
theorem prVs_length (ps : List Pr) : (prVs ps).length = ps.length * 3 := by
  induction ps with
  | nil => rfl
  | cons p ps ih => simp only [prVs, List.flatMap_cons, List.length_append, List.length_cons] at ih ⊢; rw [ih]; simp [prV]; omega
theorem prVs_append (a b : List Pr) : prVs (a ++ b) = prVs a ++ prVs b := by simp [prVs]
theorem prVs_at {ps : List Pr} {i : Nat} {p : Pr} (h : ps[i]? = some p) : ((prVs ps).drop (i * 3)).take 3 = prV p := by
  induction ps generalizing i with
  | nil => simp at h
  | cons q ps ih =>
    have e : prVs (q :: ps) = prV q ++ prVs ps := by simp [prVs]
    cases i with
    | zero =>
      simp at h; subst h
      rw [e]; simp [prV]
    | succ i =>
      rw [e, Nat.succ_mul, Nat.add_comm]
      have : (prV q ++ prVs ps).drop (3 + i * 3) = (prVs ps).drop (i * 3) := by
        rw [← List.drop_drop]; simp [prV]
      rw [this]
      exact ih (by simpa using h)
/-- The slice at A has the pairs ps. -/
def SlP (w : World) (A : Option Addr) (ps : List Pr) : Prop := ∀ i p, ps[i]? = some p → ∃ a, A = some a ∧ RowV w (a.add (i * 3)) (prV p)
theorem SlP.nil {w : World} {A : Option Addr} : SlP w A [] := fun i p h => by simp at h
theorem SlP.next {w w' : World} {A : Option Addr} {ps : List Pr} (h : SlP w A ps) (hb : Below w.heap.size w w') : SlP w' A ps := by
  intro i p hp
  obtain ⟨a, e, h1⟩ := h i p hp
  exact ⟨a, e, h1.next hb⟩
theorem SlP.drewN {w : World} {A : Option Addr} {ps : List Pr} (h : SlP w A ps) (q : Nat) : SlP (w.drewN q) A ps := h
theorem SlP.get {w : World} {A : Option Addr} {ps : List Pr} (h : SlP w A ps) (i : Nat) (hi : i < ps.length) : ∃ a, A = some a ∧ RowV w (a.add (i * 3)) (prV (rdP ps i)) := h i _ (rdP_at hi)
theorem SlP.of_blk {w : World} {g : Nat} {t : TypeId} {ps : List Pr} {cs : List Value} (h : Blk w g t (prVs ps ++ cs)) : SlP w (some ⟨g, 0, none⟩) ps := by
  intro i p hp
  refine ⟨_, rfl, ?_⟩
  have hi : i < ps.length := (List.getElem?_eq_some_iff.1 hp).1
  have h1 := h.rowV (i * 3) 3
  rw [List.drop_append_of_le_length (by rw [prVs_length]; omega), List.take_append_of_le_length (by rw [List.length_drop, prVs_length]; omega), prVs_at hp] at h1
  rw [add_mid, Nat.zero_add]
  exact h1
theorem pr_cells {w : World} {a : Addr} {p : Pr} (h : RowV w a (prV p)) : w.cell? (a.add 0) = some (.int .u8 p.a) ∧ w.cell? (a.add 1) = some (.int .u8 p.b) ∧ w.cell? (a.add 2) = some (.int .i8 p.y) :=
  ⟨h 0 _ rfl, h 1 _ rfl, h 2 _ rfl⟩

def i8v (n : Int) : Value := .int .i8 n
/-- A face's cells, its pairs at S. -/
def fcV (f : Fc) (S : Value) : List Value := f.wide.map i8v ++ [.int .i8 f.space, .int .i8 f.gap, S]
theorem fcV_length {f : Fc} (h : FcT f) (S : Value) : (fcV f S).length = 29 := by simp [fcV, h.len]
theorem fcV_wide {f : Fc} (h : FcT f) (S : Value) (i : Nat) (hi : i < 26) : (fcV f S)[i]? = some (.int .i8 (rdI f.wide i)) := by
  unfold fcV
  rw [List.getElem?_append_left (by simp [h.len]; exact hi), List.getElem?_map, List.getElem?_eq_getElem (by rw [h.len]; exact hi)]
  simp [rdI, List.getD, List.getElem?_eq_getElem (show i < f.wide.length by rw [h.len]; exact hi), i8v]
theorem fcV_space {f : Fc} (h : FcT f) (S : Value) : (fcV f S)[26]? = some (.int .i8 f.space) := by
  unfold fcV; rw [List.getElem?_append_right (by simp [h.len])]; simp [h.len]
theorem fcV_gap {f : Fc} (h : FcT f) (S : Value) : (fcV f S)[27]? = some (.int .i8 f.gap) := by
  unfold fcV; rw [List.getElem?_append_right (by simp [h.len])]; simp [h.len]
theorem fcV_pairs {f : Fc} (h : FcT f) (S : Value) : (fcV f S)[28]? = some S := by
  unfold fcV; rw [List.getElem?_append_right (by simp [h.len])]; simp [h.len]
theorem fcV_head {f : Fc} (h : FcT f) (S : Value) : ((fcV f S).drop 0).take 26 = f.wide.map i8v := by
  unfold fcV; rw [List.drop_zero, List.take_left' (by simp [h.len])]
theorem one_i8 (xs : List Int) : (xs.map i8v).toArray.all (·.oneCell') = true := by
  rw [Array.all_eq_true_iff_forall_mem]
  intro v hv
  simp only [List.mem_toArray, List.mem_map] at hv
  obtain ⟨n, _, rfl⟩ := hv
  rfl
theorem one_fc (f : Fc) (A : Option Addr) (n c : Nat) : (fcV f (.slice A n c)).toArray.all (·.oneCell') = true := by
  rw [Array.all_eq_true_iff_forall_mem]
  intro v hv
  simp only [List.mem_toArray, fcV, List.mem_append, List.mem_map, List.mem_cons, List.not_mem_nil, or_false] at hv
  rcases hv with ⟨n, _, rfl⟩ | rfl | rfl | rfl <;> rfl
theorem one_pr (p : Pr) : (prV p).toArray.all (·.oneCell') = true := by simp [prV, Value.oneCell']
theorem sz26 : (Tryd.prog.info? 23).map (·.size) = some 26 := by kernel_rfl
theorem szFcI : (Tryd.prog.info? 33).map (·.size) = some 29 := by kernel_rfl
theorem szFcL : (Tryd.prog.info? 26).map (·.size) = some 29 := by kernel_rfl
theorem szPrI : (Tryd.prog.info? 96).map (·.size) = some 3 := by kernel_rfl
theorem szPrL : (Tryd.prog.info? 98).map (·.size) = some 3 := by kernel_rfl
end Go.Proofs.YtjgflkoefimmoaaDoor
