/- Prices, plain: what is valid, what letters and texts cost. No walk here. -/
import Derived.Test.YtonnplaacebekaaGreatDoorShP
import Derived.Test.YtonnplaacebekaaGreatDoorShA
import Derived.Test.YtonnplaacebekaaGreatDoorGC

namespace Go.Proofs.YtonnplaacebekaaGreatDoor
open Go Go.RowKit
set_option linter.unusedVariables false
set_option linter.unusedSimpArgs false

structure Pc where
  lett : List Int
  gold : Int
  base : Int
  fill : Int
/-- Prices of Go's. -/
structure PcT (p : Pc) : Prop where
  len : p.lett.length = 26
  lett : ∀ i, i < 26 → -32768 ≤ rdI p.lett i ∧ rdI p.lett i ≤ 32767
  gold : -32768 ≤ p.gold ∧ p.gold ≤ 32767
  base : -32768 ≤ p.base ∧ p.base ≤ 32767
  fill : -32768 ≤ p.fill ∧ p.fill ≤ 32767
def AllLt (p : Pc) (k : Nat) : Prop := ∀ i, i < k → inB 0 1000 (rdI p.lett i) = true
instance (p : Pc) (k : Nat) : Decidable (AllLt p k) := by unfold AllLt; infer_instance
def pcOk (p : Pc) : Bool := decide (AllLt p 26) && inB 0 1000 p.gold && inB 0 1000 p.base && inB 0 1000 p.fill
structure PcV (p : Pc) : Prop where
  lett : ∀ i, i < 26 → 0 ≤ rdI p.lett i ∧ rdI p.lett i ≤ 1000
  gold : 0 ≤ p.gold ∧ p.gold ≤ 1000
  base : 0 ≤ p.base ∧ p.base ≤ 1000
  fill : 0 ≤ p.fill ∧ p.fill ≤ 1000
theorem pcOk_iff {p : Pc} : pcOk p = true ↔ PcV p := by
  unfold pcOk
  simp only [Bool.and_eq_true, decide_eq_true_iff, inB_iff]
  constructor
  · rintro ⟨⟨⟨h1, h2⟩, h3⟩, h4⟩
    exact ⟨fun i hi => inB_iff.1 (h1 i hi), h2, h3, h4⟩
  · rintro ⟨h1, h2, h3, h4⟩
    exact ⟨⟨⟨fun i hi => inB_iff.2 (h1 i hi), h2⟩, h3⟩, h4⟩
theorem allLt_zero (p : Pc) : AllLt p 0 := fun i hi => by omega
theorem allLt_succ {p : Pc} {k : Nat} (h : AllLt p k) (hk : inB 0 1000 (rdI p.lett k) = true) : AllLt p (k + 1) := fun j hj => by
  rcases Nat.lt_succ_iff_lt_or_eq.1 hj with h1 | rfl
  · exact h j h1
  · exact hk
theorem pc_lt {p : Pc} {k : Nat} (hk : k < 26) (h : inB 0 1000 (rdI p.lett k) = false) : pcOk p = false := by
  unfold pcOk
  rw [decide_eq_false (fun hh : AllLt p 26 => by rw [hh k hk] at h; cases h)]; rfl
theorem pc_all {p : Pc} (h : AllLt p 26) : pcOk p = (inB 0 1000 p.gold && inB 0 1000 p.base && inB 0 1000 p.fill) := by
  unfold pcOk; rw [decide_eq_true h]; rfl
/-- What a letter costs, what so many letters of a list cost with the base. -/
def letP (f : Fc) (p : Pc) (n : Int) : Int := rdI p.lett (n - 65).toNat + p.gold * letW f n
def prcN (f : Fc) (p : Pc) (l : List UInt8) : Nat → Int
  | 0 => p.base
  | k + 1 => prcN f p l k + letP f p (byt l k)
def prcW (f : Fc) (p : Pc) (l : List UInt8) : Int := prcN f p (lets l) (lets l).length
theorem mul_range {a b : Int} (ha : 0 ≤ a ∧ a ≤ 1000) (hb : 1 ≤ b ∧ b ≤ 40) : 0 ≤ a * b ∧ a * b ≤ 40000 := by
  refine ⟨Int.mul_nonneg ha.1 (by omega), ?_⟩
  calc a * b ≤ 1000 * b := Int.mul_le_mul_of_nonneg_right ha.2 (by omega)
    _ ≤ 40000 := by omega
theorem letP_range {f : Fc} {p : Pc} (hf : FcV f) (hp : PcV p) {n : Int} (hn : isLet n = true) : 0 ≤ letP f p n ∧ letP f p n ≤ 41000 ∧ 0 ≤ p.gold * letW f n ∧ p.gold * letW f n ≤ 40000 := by
  have h1 := isLet_iff.1 hn
  have h2 := letW_range hf hn
  have h3 := hp.lett (n - 65).toNat (by omega)
  have h4 := mul_range hp.gold h2
  unfold letP
  omega
theorem prcN_range {f : Fc} {p : Pc} (hf : FcV f) (hp : PcV p) {l : List UInt8} (hl : LL l) : ∀ k, k ≤ l.length → 0 ≤ prcN f p l k ∧ prcN f p l k ≤ 1000 + 41000 * (k : Int)
  | 0, _ => by
    have := hp.base
    rw [prcN]; omega
  | k + 1, hk => by
    have h1 := prcN_range hf hp hl k (by omega)
    have h2 := letP_range hf hp (hl k (by omega))
    rw [prcN]; push_cast; omega
theorem prcW_range {f : Fc} {p : Pc} (hf : FcV f) (hp : PcV p) {l : List UInt8} (hl : LS l) (h60 : l.length ≤ 60) : 0 ≤ prcW f p l ∧ prcW f p l ≤ 2461000 := by
  have h1 := prcN_range hf hp (lets_ll hl) _ (Nat.le_refl _)
  have h2 := lets_length l
  unfold prcW
  omega
/-- The code of a face, prices and a text, and whether a number is as told. -/
def pcC (f : Fc) (p : Pc) (l : List UInt8) (fine : Bool) : Int := if validF f && pcOk p && vText l then (if fine then 0 else 2) else 1
theorem pcC_f {f : Fc} {p : Pc} {l : List UInt8} {b : Bool} (h : validF f = false) : pcC f p l b = 1 := by unfold pcC; rw [h]; rfl
theorem pcC_p {f : Fc} {p : Pc} {l : List UInt8} {b : Bool} (h : pcOk p = false) : pcC f p l b = 1 := by unfold pcC; rw [h]; simp
theorem pcC_t {f : Fc} {p : Pc} {l : List UInt8} {b : Bool} (h : vText l = false) : pcC f p l b = 1 := by unfold pcC; rw [h]; simp
theorem pcC_ok {f : Fc} {p : Pc} {l : List UInt8} {b : Bool} (h : validF f = true) (k : pcOk p = true) (t : vText l = true) : pcC f p l b = if b then 0 else 2 := by unfold pcC; rw [h, k, t]; rfl
theorem pcC_zero {f : Fc} {p : Pc} {l : List UInt8} {b : Bool} (h : pcC f p l b = 0) : validF f = true ∧ pcOk p = true ∧ vText l = true ∧ b = true := by
  unfold pcC at h
  split at h
  · rename_i hh
    simp only [Bool.and_eq_true] at hh
    split at h
    · exact ⟨hh.1.1, hh.1.2, hh.2, by assumption⟩
    · exact absurd h (by decide)
  · exact absurd h (by decide)
theorem pcC_true {f : Fc} {p : Pc} {l : List UInt8} (h : ¬ pcC f p l true = 0) (b : Bool) : pcC f p l b = 1 := by
  unfold pcC at h ⊢
  split
  · rename_i hh; rw [if_pos hh] at h; simp at h
  · rfl

/-! ### In memory -/
def i16v (n : Int) : Value := .int .i16 n
def pcV (p : Pc) : List Value := p.lett.map i16v ++ [.int .i16 p.gold, .int .i16 p.base, .int .i16 p.fill]
theorem pcV_length {p : Pc} (h : PcT p) : (pcV p).length = 29 := by simp [pcV, h.len]
theorem pcV_lett {p : Pc} (h : PcT p) (i : Nat) (hi : i < 26) : (pcV p)[i]? = some (.int .i16 (rdI p.lett i)) := by
  unfold pcV
  rw [List.getElem?_append_left (by simp [h.len]; exact hi), List.getElem?_map, List.getElem?_eq_getElem (by rw [h.len]; exact hi)]
  simp [rdI, List.getD, List.getElem?_eq_getElem (show i < p.lett.length by rw [h.len]; exact hi), i16v]
theorem pcV_gold {p : Pc} (h : PcT p) : (pcV p)[26]? = some (.int .i16 p.gold) := by
  unfold pcV; rw [List.getElem?_append_right (by simp [h.len])]; simp [h.len]
theorem pcV_base {p : Pc} (h : PcT p) : (pcV p)[27]? = some (.int .i16 p.base) := by
  unfold pcV; rw [List.getElem?_append_right (by simp [h.len])]; simp [h.len]
theorem pcV_fill {p : Pc} (h : PcT p) : (pcV p)[28]? = some (.int .i16 p.fill) := by
  unfold pcV; rw [List.getElem?_append_right (by simp [h.len])]; simp [h.len]
theorem szPcI : (Tryz.prog.info? 38).map (·.size) = some 29 := by kernel_rfl
theorem one_i16 (xs : List Int) : (xs.map i16v).toArray.all (·.oneCell') = true := by
  rw [Array.all_eq_true_iff_forall_mem]
  intro v hv
  simp only [List.mem_toArray, List.mem_map] at hv
  obtain ⟨n, _, rfl⟩ := hv
  rfl
theorem one_pc (p : Pc) : (pcV p).toArray.all (·.oneCell') = true := by
  rw [Array.all_eq_true_iff_forall_mem]
  intro v hv
  simp only [List.mem_toArray, pcV, List.mem_append, List.mem_map, List.mem_cons, List.not_mem_nil, or_false] at hv
  rcases hv with ⟨n, _, rfl⟩ | rfl | rfl | rfl <;> rfl
end Go.Proofs.YtonnplaacebekaaGreatDoor
