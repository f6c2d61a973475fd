/- Breaks of words into lines, plain; contracts: breaks are as told, both sides. Contracts: breaks are as told, by the reference. Lines between breaks, and what is left in each, plain. No walk here. Contracts: the lines between breaks, by the reference. Contracts: what is left in the lines between breaks, by the reference. Contracts: breaks are right, by the reference. -/
import Derived.Test.YtnlnjpdnhdmndaaGreatDoorGH
import Derived.Test.YtnlnjpdnhdmndaaGreatDoorGI
import Derived.Test.YtnlnjpdnhdmndaaGreatDoorGA
namespace Go.Proofs.YtnlnjpdnhdmndaaGreatDoor
open Go Go.RowKit
set_option linter.unusedVariables false
set_option linter.unusedSimpArgs false

/-- The break at i is as it should be. -/
def brkAt (N : Nat) (xs : List Int) (i : Nat) : Bool := inB 1 ((N : Int) - 1) (rdI xs i) && (decide (i = 0) || decide (rdI xs (i - 1) < rdI xs i))
def BrkN (N : Nat) (xs : List Int) (k : Nat) : Prop := ∀ i, i < k → brkAt N xs i = true
instance (N : Nat) (xs : List Int) (k : Nat) : Decidable (BrkN N xs k) := by unfold BrkN; infer_instance
def told (N : Nat) (xs : List Int) : Bool := decide (BrkN N xs xs.length)
theorem brkN_zero (N : Nat) (xs : List Int) : BrkN N xs 0 := fun i hi => by omega
theorem brkN_succ {N : Nat} {xs : List Int} {k : Nat} (h : BrkN N xs k) (hk : brkAt N xs k = true) : BrkN N xs (k + 1) := fun j hj => by
  rcases Nat.lt_succ_iff_lt_or_eq.1 hj with h1 | rfl
  · exact h j h1
  · exact hk
theorem told_all {N : Nat} {xs : List Int} (h : BrkN N xs xs.length) : told N xs = true := decide_eq_true h
theorem told_bad {N : Nat} {xs : List Int} {k : Nat} (hk : k < xs.length) (h : brkAt N xs k = false) : told N xs = false := decide_eq_false fun hh => by rw [hh k hk] at h; cases h
theorem brkAt_out {N : Nat} {xs : List Int} {k : Nat} (h : inB 1 ((N : Int) - 1) (rdI xs k) = false) : brkAt N xs k = false := by unfold brkAt; rw [h]; rfl
theorem brkAt_first {N : Nat} {xs : List Int} {k : Nat} (h : inB 1 ((N : Int) - 1) (rdI xs k) = true) (h0 : k = 0) : brkAt N xs k = true := by unfold brkAt; rw [h]; simp [h0]
theorem brkAt_more {N : Nat} {xs : List Int} {k : Nat} (h : inB 1 ((N : Int) - 1) (rdI xs k) = true) (h0 : ¬ k = 0) : brkAt N xs k = decide (rdI xs (k - 1) < rdI xs k) := by unfold brkAt; rw [h]; simp [h0]

end Go.Proofs.YtnlnjpdnhdmndaaGreatDoor
namespace Go.Proofs.YtnlnjpdnhdmndaaGreatDoor
open Go Go.RowKit
set_option linter.unusedVariables false
set_option linter.unusedSimpArgs false

theorem inS_is {n lo hi : Int} {b : Bool} (w : World) (h : inB lo hi n = b) : Calls Tryz.prog 44 #[.int .i64 n, .int .i64 lo, .int .i64 hi] w fun e w' => e = .returned (.bool b) ∧ Below w.heap.size w w' :=
  (inS_any n lo hi w).mono fun e w' ⟨he, hw⟩ => ⟨by rw [he, h], by rw [← hw]; exact Below.refl _ _⟩
theorem szI64 : (Tryz.prog.info? 2).map (·.size) = some 1 := by kernel_rfl

end Go.Proofs.YtnlnjpdnhdmndaaGreatDoor
namespace Go.Proofs.YtnlnjpdnhdmndaaGreatDoor
open Go Go.RowKit
set_option linter.unusedVariables false
set_option linter.unusedSimpArgs false

/-- Where line i begins and ends. -/
def bkA (xs : List Int) (i : Nat) : Nat := if i = 0 then 0 else (rdI xs (i - 1)).toNat
def bkE (N : Nat) (xs : List Int) (i : Nat) : Nat := if i < xs.length then (rdI xs i).toNat else N
theorem bkA_next {N : Nat} {xs : List Int} {i : Nat} (h : i < xs.length) : bkA xs (i + 1) = bkE N xs i := by unfold bkA bkE; rw [if_neg (by omega), if_pos h, Nat.add_sub_cancel]
theorem bkA_zero (xs : List Int) : bkA xs 0 = 0 := rfl
theorem bkE_last {N : Nat} {xs : List Int} : bkE N xs xs.length = N := by unfold bkE; rw [if_neg (by omega)]
theorem bk_in {N : Nat} {xs : List Int} (h : told N xs = true) {i : Nat} (hi : i < xs.length) : 1 ≤ rdI xs i ∧ rdI xs i ≤ (N : Int) - 1 ∧ (0 < i → rdI xs (i - 1) < rdI xs i) := by
  have h1 := (of_decide_eq_true h : BrkN N xs xs.length) i hi
  unfold brkAt at h1
  simp only [Bool.and_eq_true, Bool.or_eq_true, decide_eq_true_iff] at h1
  have h2 := inB_iff.1 h1.1
  exact ⟨h2.1, h2.2, fun h0 => by rcases h1.2 with h3 | h3 <;> omega⟩
/-- Each line of right breaks holds a word (but where there is no word at all). -/
theorem bk_range {N : Nat} {xs : List Int} (h : told N xs = true) {i : Nat} (hi : i ≤ xs.length) : bkE N xs i ≤ N ∧ (0 < N → bkA xs i < bkE N xs i) ∧ (N = 0 → bkA xs i = 0) := by
  have hA : bkA xs i = 0 ∨ (0 < i ∧ (bkA xs i : Int) = rdI xs (i - 1) ∧ rdI xs (i - 1) ≤ (N : Int) - 1 ∧ 1 ≤ rdI xs (i - 1)) := by
    unfold bkA
    by_cases h0 : i = 0
    · left; rw [if_pos h0]
    · right
      have := bk_in h (show i - 1 < xs.length by omega)
      rw [if_neg h0]
      omega
  unfold bkE
  by_cases hl : i < xs.length
  · have := bk_in h hl
    rw [if_pos hl]
    rcases hA with hA | ⟨h1, h2, h3, h4⟩
    · omega
    · have := this.2.2 h1
      omega
  · rw [if_neg hl]
    rcases hA with hA | ⟨h1, h2, h3, h4⟩
    · omega
    · omega
/-- What is left in line i. -/
def leftAt (f : Fc) (ws : List (List UInt8)) (m : Int) (xs : List Int) (i : Nat) : Int := m - lnW f ws (bkA xs i) (bkE ws.length xs i)
def lefts (f : Fc) (ws : List (List UInt8)) (m : Int) (xs : List Int) (k : Nat) : List Int := (List.range k).map (leftAt f ws m xs)
theorem lefts_zero (f : Fc) (ws : List (List UInt8)) (m : Int) (xs : List Int) : lefts f ws m xs 0 = [] := rfl
theorem lefts_succ (f : Fc) (ws : List (List UInt8)) (m : Int) (xs : List Int) (k : Nat) : lefts f ws m xs (k + 1) = lefts f ws m xs k ++ [leftAt f ws m xs k] := by unfold lefts; rw [List.range_succ, List.map_append]; rfl
theorem lefts_length (f : Fc) (ws : List (List UInt8)) (m : Int) (xs : List Int) (k : Nat) : (lefts f ws m xs k).length = k := by unfold lefts; simp
def RightN (f : Fc) (ws : List (List UInt8)) (m : Int) (xs : List Int) (k : Nat) : Prop := ∀ i, i < k → 0 ≤ leftAt f ws m xs i
instance (f : Fc) (ws : List (List UInt8)) (m : Int) (xs : List Int) (k : Nat) : Decidable (RightN f ws m xs k) := by unfold RightN; infer_instance
/-- The breaks are right. -/
def rightB (f : Fc) (ws : List (List UInt8)) (m : Int) (xs : List Int) : Bool := told ws.length xs && decide (RightN f ws m xs (xs.length + 1))
theorem rightN_zero (f : Fc) (ws : List (List UInt8)) (m : Int) (xs : List Int) : RightN f ws m xs 0 := fun i hi => by omega
theorem rightN_succ {f : Fc} {ws : List (List UInt8)} {m : Int} {xs : List Int} {k : Nat} (h : RightN f ws m xs k) (hk : 0 ≤ leftAt f ws m xs k) : RightN f ws m xs (k + 1) := fun j hj => by
  rcases Nat.lt_succ_iff_lt_or_eq.1 hj with h1 | rfl
  · exact h j h1
  · exact hk
theorem rightB_told {f : Fc} {ws : List (List UInt8)} {m : Int} {xs : List Int} (h : told ws.length xs = false) : rightB f ws m xs = false := by unfold rightB; rw [h]; rfl
theorem rightB_all {f : Fc} {ws : List (List UInt8)} {m : Int} {xs : List Int} (h : told ws.length xs = true) (k : RightN f ws m xs (xs.length + 1)) : rightB f ws m xs = true := by unfold rightB; rw [h, decide_eq_true k]; rfl
theorem rightB_bad {f : Fc} {ws : List (List UInt8)} {m : Int} {xs : List Int} {k : Nat} (hk : k < xs.length + 1) (h : leftAt f ws m xs k < 0) : rightB f ws m xs = false := by
  unfold rightB
  rw [decide_eq_false (fun hh : RightN f ws m xs (xs.length + 1) => by have := hh k hk; omega), Bool.and_false]
theorem rightN_dec {f : Fc} {ws : List (List UInt8)} {m : Int} {xs : List Int} {k : Nat} : decide (RightN f ws m xs (k + 1)) = (decide (RightN f ws m xs k) && decide (0 ≤ leftAt f ws m xs k)) := by
  rw [Bool.eq_iff_iff, Bool.and_eq_true, decide_eq_true_iff, decide_eq_true_iff, decide_eq_true_iff]
  exact ⟨fun h => ⟨fun i hi => h i (by omega), h k (by omega)⟩, fun h => rightN_succ h.1 h.2⟩
/-- Breaks that are told are fewer than the words. -/
theorem told_few {N : Nat} {xs : List Int} (h : told N xs = true) : xs.length ≤ N := by
  have hr : ∀ k, k < xs.length → (k : Int) + 1 ≤ rdI xs k := by
    intro k
    induction k with
    | zero => intro hk; have := bk_in h hk; omega
    | succ k ih =>
      intro hk
      have h1 := ih (by omega)
      have h2 := (bk_in h hk).2.2 (by omega)
      rw [Nat.add_sub_cancel] at h2
      push_cast
      omega
  by_cases h0 : xs.length = 0
  · omega
  · have h1 := hr (xs.length - 1) (by omega)
    have h2 := bk_in h (show xs.length - 1 < xs.length by omega)
    omega
end Go.Proofs.YtnlnjpdnhdmndaaGreatDoor
namespace Go.Proofs.YtnlnjpdnhdmndaaGreatDoor
open Go Go.RowKit
set_option linter.unusedVariables false
set_option linter.unusedSimpArgs false

theorem exec_sliceG {o : Oper} {a : Act} {w : World} (x lo hi : Operand) (ho : o.op = .slice 54 x (some lo) (some hi) none) (A : Option Addr) (n c l h : Nat) (hx : a.eval x = .slice A n c) (hl : a.eval lo = .int .i64 (l : Int)) (hh : a.eval hi = .int .i64 (h : Int)) (hlh : l ≤ h) (hc : h ≤ c) (hlc : l < c) :
    (execOp a.eval o).run Tryz.prog w = .ok (.value (.slice (A.map (·.add l)) (h - l) (c - l))) w := by
  have hne : ¬ c = l := by omega
  have hz : (Tryz.prog.info? 9).map (·.size) = some 1 := by kernel_rfl
  cases hq : Tryz.prog.info? 9 with
  | none => rw [hq] at hz; cases hz
  | some i =>
    have hi : i.size = 1 := by rw [hq] at hz; simpa using hz
    unfold execOp
    simp [ho, hx, hl, hh, Instr.sliceAt, Instr.slice, Instr.sliceBounds, Instr.sliceBound, asIntOf, Sem.run_bind, run_underlying Tryz.underlying54, hc, hlh, hne, sizeOf, typeInfo, hq, hi]
theorem exec_sliceL {o : Oper} {a : Act} {w : World} (x lo : Operand) (ho : o.op = .slice 54 x (some lo) none none) (A : Option Addr) (n c l : Nat) (hx : a.eval x = .slice A n c) (hl : a.eval lo = .int .i64 (l : Int)) (hlh : l ≤ n) (hc : n ≤ c) (hlc : l < c ∨ l = 0) :
    (execOp a.eval o).run Tryz.prog w = .ok (.value (.slice (A.map (·.add l)) (n - l) (c - l))) w := by
  have hz : (Tryz.prog.info? 9).map (·.size) = some 1 := by kernel_rfl
  cases hq : Tryz.prog.info? 9 with
  | none => rw [hq] at hz; cases hz
  | some i =>
    have hi : i.size = 1 := by rw [hq] at hz; simpa using hz
    have hid : l = 0 → A.map (·.add l) = A := fun e => by
      subst e
      cases A with
      | none => rfl
      | some p => simp [Addr.add]
    unfold execOp
    by_cases hne : c = l
    · have e0 : l = 0 := by omega
      rw [hid e0]
      simp [ho, hx, hl, Instr.sliceAt, Instr.slice, Instr.sliceBounds, Instr.sliceBound, asIntOf, Sem.run_bind, run_underlying Tryz.underlying54, hc, hlh, hne, sizeOf, typeInfo, hq, hi]
    · simp [ho, hx, hl, Instr.sliceAt, Instr.slice, Instr.sliceBounds, Instr.sliceBound, asIntOf, Sem.run_bind, run_underlying Tryz.underlying54, hc, hlh, hne, sizeOf, typeInfo, hq, hi]
/-- Line i as a slice. -/
def lnV (A : Option Addr) (c N : Nat) (xs : List Int) (i : Nat) : Value := .slice (A.map (·.add (bkA xs i))) (bkE N xs i - bkA xs i) (c - bkA xs i)
def lnsV (A : Option Addr) (c N : Nat) (xs : List Int) (k : Nat) : List Value := (List.range k).map (lnV A c N xs)
theorem lnsV_succ (A : Option Addr) (c N : Nat) (xs : List Int) (k : Nat) : lnsV A c N xs (k + 1) = lnsV A c N xs k ++ [lnV A c N xs k] := by unfold lnsV; rw [List.range_succ, List.map_append]; rfl
theorem lnsV_length (A : Option Addr) (c N : Nat) (xs : List Int) (k : Nat) : (lnsV A c N xs k).length = k := by unfold lnsV; simp
structure LnRel (A : Option Addr) (c N : Nat) (xs : List Int) (w wr : World) (v : Value) (k : Nat) : Prop where
  own : wr.ownsRow w.heap.size 54 1 v k (lnsV A c N xs k)
  below : Below w.heap.size w wr

end Go.Proofs.YtnlnjpdnhdmndaaGreatDoor
namespace Go.Proofs.YtnlnjpdnhdmndaaGreatDoor
open Go Go.RowKit
set_option linter.unusedVariables false
set_option linter.unusedSimpArgs false

theorem slE_line {w : World} {A : Option Addr} {ws : List (List UInt8)} (h : SlE sv w A ws) (hA : 0 < ws.length → ∃ g, A = some ⟨g, 0, none⟩) (a b : Nat) : SlE sv w (A.map (·.add a)) (cutW ws a b) := by
  by_cases h0 : 0 < ws.length
  · obtain ⟨g, rfl⟩ := hA h0
    have := slE_cut h a b
    rw [Nat.zero_add] at this
    rw [Option.map_some, add_mid, Nat.zero_add]
    exact this
  · have e : ws = [] := List.eq_nil_of_length_eq_zero (by omega)
    subst e
    have : cutW [] a b = [] := by unfold cutW; simp
    rw [this]
    exact SlE.nil
theorem lnsV_at {A : Option Addr} {c N k : Nat} {xs : List Int} {i : Nat} (h : i < k) : (lnsV A c N xs k)[i]? = some (lnV A c N xs i) := by
  unfold lnsV
  rw [List.getElem?_map, List.getElem?_range h]; rfl
/-- What is left, and whether all is right. -/
def LfOut (f : Fc) (ws : List (List UInt8)) (m : Int) (xs : List Int) (w : World) (e : Ending) (w' : World) : Prop :=
  ∃ A n c, e = .returned (.tuple #[.slice A n c, .bool (rightB f ws m xs)]) ∧ Below w.heap.size w w' ∧ (rightB f ws m xs = true → n = xs.length + 1 ∧ OwnS w' w.heap.size w'.heap.size A (lefts f ws m xs (xs.length + 1)))
structure LfRel (f : Fc) (ws : List (List UInt8)) (m : Int) (xs : List Int) (w0 wr : World) (v : Value) (k : Nat) : Prop where
  own : wr.ownsRow w0.heap.size 2 1 v k ((lefts f ws m xs k).map i64)
  below : Below w0.heap.size w0 wr

end Go.Proofs.YtnlnjpdnhdmndaaGreatDoor
namespace Go.Proofs.YtnlnjpdnhdmndaaGreatDoor
open Go Go.RowKit
set_option linter.unusedVariables false
set_option linter.unusedSimpArgs false

/-- Whether breaks are right, and a code. -/
def chkB (f : Fc) (l : List UInt8) (m : Int) (xs : List Int) : Bool := decide (askC f l (inB 0 4000 m) = 0) && rightB f (words l) m xs
theorem chkB_no {f : Fc} {l : List UInt8} {m : Int} {xs : List Int} (h : ¬ askC f l (inB 0 4000 m) = 0) : chkB f l m xs = false := by unfold chkB; rw [decide_eq_false h]; rfl
theorem chkB_ok {f : Fc} {l : List UInt8} {m : Int} {xs : List Int} (h : askC f l (inB 0 4000 m) = 0) : chkB f l m xs = rightB f (words l) m xs := by unfold chkB; rw [decide_eq_true h]; rfl
/-- A Bool and a code. -/
def ChkOut (f : Fc) (l : List UInt8) (m : Int) (xs : List Int) (w : World) (e : Ending) (w' : World) : Prop :=
  e = .returned (.tuple #[.bool (chkB f l m xs), .int .i64 (askC f l (inB 0 4000 m))]) ∧ Below w.heap.size w w'

end Go.Proofs.YtnlnjpdnhdmndaaGreatDoor
