/- Contracts: a list of numbers is copied, by the library's slices.Clone. Contracts: the lines between breaks, by the program. Contracts: the lines between breaks, by the program. Contracts: what is left in the lines between breaks, by the program. Contracts: CheckBreaks, RightRoom, by the program and the reference. Contracts: how uneven breaks are, by the program and the reference. -/
import Derived.Test.YtonnplaacebekaaDoorGJ
import Derived.Test.YtonnplaacebekaaDoorGH
namespace Go.Proofs.YtonnplaacebekaaDoor
open Go Go.RowKit
set_option linter.unusedVariables false
set_option linter.unusedSimpArgs false

set_option maxRecDepth 100000 in
theorem clone_any (A : Option Addr) (c : Nat) (xs : List Int) (n : Nat) (w : World) (hn : xs.length = n) (hm : n ≤ 1048576) (h : SlE i64 w A xs) :
    Calls Tryd.prog 95 #[.slice A n c] w fun e w' => ∃ v, e = .returned v ∧ w'.ownsRow w.heap.size 2 1 v n (xs.map i64) ∧ Below w.heap.size w w' := by
  cases A with
  | none =>
    have hx : xs = [] := by
      cases xs with
      | nil => rfl
      | cons x r => obtain ⟨a, e, _⟩ := h 0 x rfl; cases e
    subst hx
    obtain rfl : n = 0 := hn.symm
    go_enter Tryd.func95, Tryd.ntmps95
    go_wp2_with (refine wpList_is (.binOp .eql 31 (.tmp 3) (.const (.slice none 0 0)) 31) rfl rfl (.bool true) (by kernel_rfl) ?_; simp only [Act.put, List.setIfInBounds_toArray, List.set_cons_succ, List.set_cons_zero])
    go_ret
    exact ⟨_, rfl, ⟨rfl, .inl ⟨rfl, rfl⟩⟩, Below.refl _ _⟩
  | some p =>
    obtain ⟨i, hi, hz, hsz, hby⟩ := info_parts elI.info
    have hB := below_one w (.cells #[] 2)
    have HS := Lib.hid (h.next hB)
    have hown := own_empty w w.heap.size rfl w.heap.size 2 (Nat.le_refl _) 1
    have HI := Lib.hid hi
    have HZ := Lib.hid hz
    have HSZ := Lib.hid hsz
    have HBY := Lib.hid hby
    clear h hi hz hsz hby
    go_enter Tryd.func95, Tryd.ntmps95
    go_wp2_with (first
      | (refine wpList_is (.binOp .eql 31 (.tmp 3) (.const (.slice none 0 0)) 31) rfl rfl (.bool false) (by kernel_rfl) ?_; simp only [Act.put, List.setIfInBounds_toArray, List.set_cons_succ, List.set_cons_zero])
      | (at_builtin; refine wpList_append_own _ rfl (.tmp 5) (.tmp 6) 31 rfl w.heap.size 2 i (.int .i64 0) 1 8 elI.under HI.out HZ.out HSZ.out HBY.out elI.cells (by omega) (.slice (some ⟨w.heap.size, 0, none⟩) 0 0) 0 [] rfl hown p n c (xs.map i64) rfl (by rw [List.length_map, hn, Nat.mul_one]) (fun j u hu => by
      rw [List.getElem?_map] at hu
      cases hq : xs[j]? with
      | none => rw [hq] at hu; cases hu
      | some x =>
        rw [hq] at hu
        cases hu
        obtain ⟨a, e, hc⟩ := HS.out j x hq
        cases e
        exact hc) (fun u hu => by obtain ⟨x, _, rfl⟩ := List.mem_map.1 hu; rfl) (by unfold maxLen; omega) (by omega) (by simp) ?_; intro v' w' ho' hg' _))
    go_ret
    refine ⟨v', rfl, ?_, below_own hB hown hg' (Nat.le_refl _) (by simp)⟩
    simpa using ho'
end Go.Proofs.YtonnplaacebekaaDoor
namespace Go.Proofs.YtonnplaacebekaaDoor
open Go Go.RowKit
set_option linter.unusedVariables false
set_option linter.unusedSimpArgs false

theorem exec_sliceH {o : Oper} {a : Act} {w : World} (x lo hi : Operand) (ho : o.op = .slice 53 x (some lo) (some hi) none) (g n c l h : Nat) (hx : a.eval x = .slice (some ⟨g, 0, none⟩) n c) (hl : a.eval lo = .int .i64 (l : Int)) (hh : a.eval hi = .int .i64 (h : Int)) (hlh : l ≤ h) (hc : h ≤ c) (hlc : l < c ∨ l = 0) :
    (execOp a.eval o).run Tryd.prog w = .ok (.value (.slice (some ⟨g, l, none⟩) (h - l) (c - l))) w := by
  by_cases hne : c = l
  · have e0 : l = 0 := by omega
    subst e0
    have h0 : h = 0 := by omega
    subst h0
    have hz : (Tryd.prog.info? 9).map (·.size) = some 1 := by kernel_rfl
    cases hq : Tryd.prog.info? 9 with
    | none => rw [hq] at hz; cases hz
    | some i =>
      unfold execOp
      simp [ho, hx, hl, hh, Instr.sliceAt, Instr.slice, Instr.sliceBounds, Instr.sliceBound, asIntOf, Sem.run_bind, run_underlying Tryd.underlying53, hne, sizeOf, typeInfo, hq]
  · have := exec_sliceG (w := w) x lo hi ho (some ⟨g, 0, none⟩) n c l h hx hl hh hlh hc (by omega)
    rw [Option.map_some, add_mid, Nat.zero_add] at this
    exact this
/-- Line i as a text. -/
def jnL (ws : List (List UInt8)) (xs : List Int) (i : Nat) : List UInt8 := joinW (cutW ws (bkA xs i) (bkE ws.length xs i))
def jnsL (ws : List (List UInt8)) (xs : List Int) (k : Nat) : List (List UInt8) := (List.range k).map (jnL ws xs)
theorem jnsL_succ (ws : List (List UInt8)) (xs : List Int) (k : Nat) : jnsL ws xs (k + 1) = jnsL ws xs k ++ [jnL ws xs k] := by unfold jnsL; rw [List.range_succ, List.map_append]; rfl
theorem jnsL_length (ws : List (List UInt8)) (xs : List Int) (k : Nat) : (jnsL ws xs k).length = k := by unfold jnsL; simp
theorem jnsL_at {ws : List (List UInt8)} {xs : List Int} {k i : Nat} (h : i < k) : (jnsL ws xs k)[i]? = some (jnL ws xs i) := by
  unfold jnsL
  rw [List.getElem?_map, List.getElem?_range h]; rfl
end Go.Proofs.YtonnplaacebekaaDoor
namespace Go.Proofs.YtonnplaacebekaaDoor
open Go Go.RowKit
set_option linter.unusedVariables false
set_option linter.unusedSimpArgs false

structure JnRel (ws : List (List UInt8)) (xs : List Int) (w0 wr : World) (v : Value) (k : Nat) : Prop where
  own : wr.ownsRow w0.heap.size 9 1 v k ((jnsL ws xs k).map sv)
  below : Below w0.heap.size w0 wr
end Go.Proofs.YtonnplaacebekaaDoor
namespace Go.Proofs.YtonnplaacebekaaDoor
open Go Go.RowKit
set_option linter.unusedVariables false
set_option linter.unusedSimpArgs false

/-- As 'OwnS.of_own', and the capacity. -/
theorem OwnS.of_ownC {w : World} {lo : Nat} {v : Value} {n : Nat} {xs : List Int} (h : w.ownsRow lo 2 1 v n (xs.map i64)) : ∃ A c, v = .slice A xs.length c ∧ xs.length = n ∧ OwnS w lo w.heap.size A xs ∧ xs.length ≤ c := by
  obtain ⟨A, c, e, hl, ho⟩ := OwnS.of_own h
  obtain ⟨A', c', e', hl', hc, _⟩ := SlE_own h
  rw [e] at e'
  cases e'
  exact ⟨A, c, e, hl, ho, by omega⟩
/-- A list of numbers in memory of the call's own, and a code. -/
def ListOutC (w : World) (xs : List Int) (code : Int) (e : Ending) (w' : World) : Prop :=
  ∃ A c, e = .returned (.tuple #[.slice A xs.length c, .int .i64 code]) ∧ Below w.heap.size w w' ∧ OwnS w' w.heap.size w'.heap.size A xs ∧ xs.length ≤ c
theorem ListOutC.out {w : World} {xs : List Int} {code : Int} {e : Ending} {w' : World} (h : ListOutC w xs code e w') : ListOut w xs code e w' := by
  obtain ⟨A, c, h1, h2, h3, _⟩ := h
  exact ⟨A, c, h1, h2, h3⟩
/-- What is left, and whether all is right, by the program (all lines, even where one is too wide). -/
def RmOut (f : Fc) (ws : List (List UInt8)) (m : Int) (xs : List Int) (w : World) (e : Ending) (w' : World) : Prop :=
  ∃ A n c, e = .returned (.tuple #[.slice A n c, .bool (rightB f ws m xs)]) ∧ Below w.heap.size w w' ∧ n ≤ c ∧ (rightB f ws m xs = true → n = xs.length + 1 ∧ OwnS w' w.heap.size w'.heap.size A (lefts f ws m xs (xs.length + 1)))
structure RmRel (f : Fc) (ws : List (List UInt8)) (m : Int) (xs : List Int) (B : Nat) (w0 wr : World) (v : Value) (k : Nat) : Prop where
  own : wr.ownsRow B 2 1 v k ((lefts f ws m xs k).map i64)
  below : Below B w0 wr

end Go.Proofs.YtonnplaacebekaaDoor
namespace Go.Proofs.YtonnplaacebekaaDoor
open Go Go.RowKit
set_option linter.unusedVariables false
set_option linter.unusedSimpArgs false

/-- What is left in each line, and a code. -/
def rrOut (f : Fc) (l : List UInt8) (m : Int) (xs : List Int) : List Int × Int :=
  if askC f l (inB 0 4000 m) = 0 then (if rightB f (words l) m xs then (lefts f (words l) m xs (xs.length + 1), 0) else ([], 4)) else ([], askC f l (inB 0 4000 m))
theorem rrOut_no {f : Fc} {l : List UInt8} {m : Int} {xs : List Int} (h : ¬ askC f l (inB 0 4000 m) = 0) : rrOut f l m xs = ([], askC f l (inB 0 4000 m)) := by unfold rrOut; rw [if_neg h]
theorem rrOut_bad {f : Fc} {l : List UInt8} {m : Int} {xs : List Int} (h : askC f l (inB 0 4000 m) = 0) (k : rightB f (words l) m xs = false) : rrOut f l m xs = ([], 4) := by unfold rrOut; rw [if_pos h, k]; rfl
theorem rrOut_ok {f : Fc} {l : List UInt8} {m : Int} {xs : List Int} (h : askC f l (inB 0 4000 m) = 0) (k : rightB f (words l) m xs = true) : rrOut f l m xs = (lefts f (words l) m xs (xs.length + 1), 0) := by unfold rrOut; rw [if_pos h, k]; rfl

end Go.Proofs.YtonnplaacebekaaDoor
namespace Go.Proofs.YtonnplaacebekaaDoor
open Go Go.RowKit
set_option linter.unusedVariables false
set_option linter.unusedSimpArgs false

/-- The sum of the first squares. -/
def usq (l : List Int) : Nat → Int
  | 0 => 0
  | k + 1 => usq l k + rdI l k * rdI l k
theorem usq_succ (l : List Int) (k : Nat) : usq l (k + 1) = usq l k + rdI l k * rdI l k := rfl
theorem sq_range {x : Int} (h0 : 0 ≤ x) (h1 : x ≤ 4000) : 0 ≤ x * x ∧ x * x ≤ 16000000 := by
  refine ⟨Int.mul_nonneg h0 h0, ?_⟩
  have := Int.mul_le_mul h1 h1 h0 (by decide)
  omega
theorem usq_range {l : List Int} {n : Nat} (h : ∀ i, i < n → 0 ≤ rdI l i ∧ rdI l i ≤ 4000) : ∀ k, k ≤ n → 0 ≤ usq l k ∧ usq l k ≤ 16000000 * k := by
  intro k
  induction k with
  | zero => intro _; exact ⟨Int.le_refl 0, by show (0 : Int) ≤ _; omega⟩
  | succ k ih =>
    intro hk
    have h1 := ih (by omega)
    have h2 := sq_range (h k (by omega)).1 (h k (by omega)).2
    rw [usq_succ]
    push_cast
    omega
theorem rdI_lefts {f : Fc} {ws : List (List UInt8)} {m : Int} {xs : List Int} {k i : Nat} (h : i < k) : rdI (lefts f ws m xs k) i = leftAt f ws m xs i := by
  unfold rdI lefts
  rw [List.getD, List.getElem?_map, List.getElem?_range h]; rfl
theorem lefts_range {f : Fc} (hf : FcV f) {ws : List (List UInt8)} (hw : Ws ws) {m : Int} (hm : m ≤ 4000) {xs : List Int} (h : rightB f ws m xs = true) : ∀ i, i < xs.length + 1 → 0 ≤ rdI (lefts f ws m xs (xs.length + 1)) i ∧ rdI (lefts f ws m xs (xs.length + 1)) i ≤ 4000 := by
  intro i hi
  rw [rdI_lefts hi]
  unfold rightB at h
  rw [Bool.and_eq_true, decide_eq_true_iff] at h
  have h1 := h.2 i hi
  have h2 := (lnW_range hf hw (bkA xs i) (bkE ws.length xs i)).1
  refine ⟨h1, ?_⟩
  unfold leftAt
  omega
theorem right_told {f : Fc} {ws : List (List UInt8)} {m : Int} {xs : List Int} (h : rightB f ws m xs = true) : xs.length ≤ ws.length := by
  unfold rightB at h
  rw [Bool.and_eq_true] at h
  exact told_few h.1
/-- How uneven breaks are, and a code. -/
def unOut (f : Fc) (l : List UInt8) (m : Int) (xs : List Int) : Int × Int :=
  if (rrOut f l m xs).2 = 0 then (usq (rrOut f l m xs).1 xs.length, 0) else (0, (rrOut f l m xs).2)
theorem unOut_no {f : Fc} {l : List UInt8} {m : Int} {xs : List Int} (h : ¬ (rrOut f l m xs).2 = 0) : unOut f l m xs = (0, (rrOut f l m xs).2) := by unfold unOut; rw [if_neg h]
theorem unOut_ok {f : Fc} {l : List UInt8} {m : Int} {xs : List Int} (h : askC f l (inB 0 4000 m) = 0) (k : rightB f (words l) m xs = true) : unOut f l m xs = (usq (lefts f (words l) m xs (xs.length + 1)) xs.length, 0) := by unfold unOut; rw [rrOut_ok h k]; rfl
theorem rrOut_zero {f : Fc} {l : List UInt8} {m : Int} {xs : List Int} (h : (rrOut f l m xs).2 = 0) : askC f l (inB 0 4000 m) = 0 ∧ rightB f (words l) m xs = true := by
  by_cases h0 : askC f l (inB 0 4000 m) = 0
  · cases k : rightB f (words l) m xs
    · rw [rrOut_bad h0 k] at h; exact absurd h (by decide)
    · exact ⟨h0, rfl⟩
  · rw [rrOut_no h0] at h; exact absurd h h0
theorem exec_slice64 {o : Oper} {a : Act} {w : World} (x hi : Operand) (ho : o.op = .slice 31 x none (some hi) none) (p : Addr) (n c h : Nat) (hx : a.eval x = .slice (some p) n c) (hh : a.eval hi = .int .i64 (h : Int)) (hc : h ≤ c) (hp : 0 < c) :
    (execOp a.eval o).run Tryd.prog w = .ok (.value (.slice (some p) h c)) w := by
  have hne : ¬ c = 0 := by omega
  have h0 : p.add 0 = p := by simp [Addr.add]
  have hz : (Tryd.prog.info? 2).map (·.size) = some 1 := by kernel_rfl
  cases hq : Tryd.prog.info? 2 with
  | none => rw [hq] at hz; cases hz
  | some i =>
    unfold execOp
    simp [ho, hx, hh, Instr.sliceAt, Instr.slice, Instr.sliceBounds, Instr.sliceBound, asIntOf, Sem.run_bind, run_underlying Tryd.underlying31, hc, hne, sizeOf, typeInfo, hq, h0]

end Go.Proofs.YtonnplaacebekaaDoor
