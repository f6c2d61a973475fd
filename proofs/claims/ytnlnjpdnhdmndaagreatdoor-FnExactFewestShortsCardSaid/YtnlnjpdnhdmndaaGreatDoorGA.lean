/- Small words that the seat's texts use: rows of cells that read as a list, sums and counts over the first numbers. No program in sight. More small words: a whole row stored into the block that was made last. Words on memory: values of several cells in rows and blocks; steps of a region that draws its order. No program in sight. A region that draws its order, some of whose operations make memory of which their results tell: walked operation by operation. No program in sight. An append of one element, and where the row lies after it. No program in sight. -/
import Derived.WalkKit
import Derived.WalkSpells
import Derived.WalkLawsBesides
import Derived.Lib.Hide
import Derived.Deep.Draws
import Derived.Laws.Tables
import Derived.Deep.OwnRows
import Derived.ChangeKeysEq
import Derived.BigQuiet
import Derived.Deep.QuietTactic
import Derived.Deep.WholeRow
import Derived.Laws.ResultCell
import Derived.Deep.MidRow
import Derived.OrdersHeld
import Derived.RegionTactic
import Derived.Maps.AppendAt
namespace Go.Proofs.YtnlnjpdnhdmndaaGreatDoor
open Go Go.RowKit
set_option linter.unusedVariables false
set_option linter.unusedSimpArgs false

/-- From address a on lie the elements of xs, a cell each. -/
def RowE {α : Type} (enc : α → Value) (w : World) (a : Addr) (xs : List α) : Prop := ∀ i x, xs[i]? = some x → w.cell? (a.add i) = some (enc x)

def u16 (n : Nat) : Value := .int .u16 (n : Int)

theorem RowE.at {α : Type} {enc : α → Value} {w : World} {a : Addr} {xs : List α} (h : RowE enc w a xs) (d : α) (i : Nat) (hi : i < xs.length) : w.cell? (a.add i) = some (enc (xs.getD i d)) :=
  h i _ (by simp [List.getD, List.getElem?_eq_getElem hi])

/-- An element of a list, 0 behind its end (behind a name that simp does not open). -/
def rdN (r : List Nat) (i : Nat) : Nat := r.getD i 0
def rdI (r : List Int) (i : Nat) : Int := r.getD i 0
def rdS (r : List ByteArray) (i : Nat) : ByteArray := r.getD i ByteArray.empty
theorem RowE.at16 {w : World} {a : Addr} {r : List Nat} (h : RowE u16 w a r) (i : Nat) (hi : i < r.length) : w.cell? (a.add i) = some (.int .u16 ((rdN r i : Nat) : Int)) := h.at 0 i hi
theorem map_u16_at (r : List Nat) (i : Nat) (hi : i < r.length) : (r.map u16)[i]? = some (.int .u16 ((rdN r i : Nat) : Int)) := by
  simp [List.getElem?_map, List.getElem?_eq_getElem hi, u16, rdN]

theorem RowE.below {α : Type} {enc : α → Value} {w w' : World} {a : Addr} {xs : List α} {B : Nat} (h : RowE enc w a xs) (hb : Below B w w') (ha : a.block < B) : RowE enc w' a xs := by
  intro i x hx
  have hblk : (a.add i).block = a.block := by unfold Addr.add; split <;> rfl
  rw [hb.cell (p := a.add i) (by rw [hblk]; exact ha)]
  exact h i x hx

/-- A block whose cells are the list's. -/
theorem RowE.of_block {α : Type} {enc : α → Value} {w : World} {b : Nat} {xs : List α} {t : TypeId} {fr : Nat × Nat} {cs : Array Value} (hg : w.heap[b]? = some (.cells cs t fr)) (hcs : cs.toList = xs.map enc) : RowE enc w ⟨b, 0, none⟩ xs := by
  intro i x hx
  have hadd : (⟨b, 0, none⟩ : Addr).add i = ⟨b, i, none⟩ := by unfold Addr.add; split <;> simp_all
  rw [hadd, cell_of_row w b i cs t fr hg]
  have : cs.toList[i]? = some (enc x) := by rw [hcs, List.getElem?_map, hx]; rfl
  simpa using this

theorem RowE.nil {α : Type} {enc : α → Value} {w : World} {a : Addr} : RowE enc w a [] := fun i x h => by simp at h

/-- The sum of f over 0 .. k - 1. -/
def sumN (f : Nat → Nat) : Nat → Nat
  | 0 => 0
  | k + 1 => sumN f k + f k

/-- How many of 0 .. k - 1 there are with p. -/
def cnt (p : Nat → Bool) (k : Nat) : Nat := sumN (fun x => if p x then 1 else 0) k

theorem sumN_le (f : Nat → Nat) (m : Nat) (h : ∀ i, f i ≤ m) (k : Nat) : sumN f k ≤ m * k := by
  induction k with
  | zero => exact Nat.le_refl _
  | succ k ih => have := h k; rw [sumN, Nat.mul_succ]; omega
theorem cnt_le (p : Nat → Bool) (k : Nat) : cnt p k ≤ k := by
  have := sumN_le (fun x => if p x then 1 else 0) 1 (fun i => by split <;> omega) k
  unfold cnt; omega
theorem cnt_yes {p : Nat → Bool} {k : Nat} (h : p k = true) : cnt p (k + 1) = cnt p k + 1 := by simp [cnt, sumN, h]
theorem cnt_no {p : Nat → Bool} {k : Nat} (h : p k = false) : cnt p (k + 1) = cnt p k := by simp [cnt, sumN, h]
theorem sumN_congr {f g : Nat → Nat} {k : Nat} (h : ∀ i, i < k → f i = g i) : sumN f k = sumN g k := by
  induction k with
  | zero => rfl
  | succ k ih => rw [sumN, sumN, ih (fun i hi => h i (by omega)), h k (by omega)]
theorem cnt_congr {p q : Nat → Bool} {k : Nat} (h : ∀ i, i < k → p i = q i) : cnt p k = cnt q k := sumN_congr fun i hi => by rw [h i hi]

/-- The number whose bits below k are those with p. -/
def bitsN (p : Nat → Bool) : Nat → Nat
  | 0 => 0
  | k + 1 => bitsN p k ||| (if p k then 2 ^ k else 0)
theorem testBit_bitsN (p : Nat → Bool) (k x : Nat) : (bitsN p k).testBit x = (decide (x < k) && p x) := by
  induction k with
  | zero => simp [bitsN]
  | succ k ih =>
    rw [bitsN, Nat.testBit_or, ih]
    by_cases hx : x = k
    · subst hx
      cases p x <;> simp
    · have : (if p k then 2 ^ k else 0 : Nat).testBit x = false := by
        split
        · rw [Nat.testBit_two_pow]; simp; omega
        · simp
      rw [this, Bool.or_false]
      have e : decide (x < k + 1) = decide (x < k) := by simp; omega
      rw [e]
theorem bitsN_lt (p : Nat → Bool) (k : Nat) : bitsN p k < 2 ^ k := by
  induction k with
  | zero => simp [bitsN]
  | succ k ih =>
    rw [bitsN]
    refine Nat.or_lt_two_pow (by rw [Nat.pow_succ]; omega) ?_
    split
    · rw [Nat.pow_succ]; have := Nat.two_pow_pos k; omega
    · exact Nat.two_pow_pos _
theorem bitsN_yes {p : Nat → Bool} {k : Nat} (h : p k = true) : bitsN p (k + 1) = bitsN p k ||| 2 ^ k := by simp [bitsN, h]
theorem bitsN_no {p : Nat → Bool} {k : Nat} (h : p k = false) : bitsN p (k + 1) = bitsN p k := by simp [bitsN, h]
/-- Two numbers below 2 ^ k with the same bits below k. -/
theorem eq_of_bits {a b k : Nat} (ha : a < 2 ^ k) (hb : b < 2 ^ k) (h : ∀ x, x < k → a.testBit x = b.testBit x) : a = b := by
  apply Nat.eq_of_testBit_eq
  intro x
  by_cases hx : x < k
  · exact h x hx
  · rw [Nat.testBit_lt_two_pow (Nat.lt_of_lt_of_le ha (Nat.pow_le_pow_right (by decide) (by omega))), Nat.testBit_lt_two_pow (Nat.lt_of_lt_of_le hb (Nat.pow_le_pow_right (by decide) (by omega)))]


/-- n lies in lo .. hi. -/
def inB (lo hi n : Int) : Bool := decide (lo ≤ n ∧ n ≤ hi)
theorem inB_true {lo hi n : Int} (h : lo ≤ n ∧ n ≤ hi) : inB lo hi n = true := decide_eq_true h
theorem inB_false {lo hi n : Int} (h : ¬ (lo ≤ n ∧ n ≤ hi)) : inB lo hi n = false := decide_eq_false h
theorem inB_iff {lo hi n : Int} : inB lo hi n = true ↔ lo ≤ n ∧ n ≤ hi := decide_eq_true_iff
theorem inB_not {lo hi n : Int} : inB lo hi n = false ↔ ¬ (lo ≤ n ∧ n ≤ hi) := decide_eq_false_iff_not

/-! ### A block known whole -/
/-- Block b is a row of the cells vs, of type t; none of them is frozen. -/
def Blk (w : World) (b : Nat) (t : TypeId) (vs : List Value) : Prop := w.heap[b]? = some (.cells vs.toArray t (0, 0))

theorem Blk.lt {w : World} {b : Nat} {t : TypeId} {vs : List Value} (h : Blk w b t vs) : b < w.heap.size := (Array.getElem?_eq_some_iff.1 h).1
theorem Blk.cell {w : World} {b : Nat} {t : TypeId} {vs : List Value} (h : Blk w b t vs) (i : Nat) (v : Value) (hv : vs[i]? = some v) : w.cell? ⟨b, i, none⟩ = some v := by
  rw [cell_of_row w b i _ t _ h]; simpa using hv
theorem Blk.free {w : World} {b : Nat} {t : TypeId} {vs : List Value} (h : Blk w b t vs) (i : Nat) : w.frozen? ⟨b, i, none⟩ = false := frozen_of_row w b i _ t h
theorem Blk.set {w : World} {b : Nat} {t : TypeId} {vs : List Value} (h : Blk w b t vs) (i : Nat) (v : Value) : Blk (w.setCell ⟨b, i, none⟩ v) b t (vs.set i v) := by
  unfold Blk; rw [heap_setCell_same w b i _ t v h]; simp
theorem Blk.other {w : World} {b : Nat} {t : TypeId} {vs : List Value} (h : Blk w b t vs) (a : Addr) (v : Value) (hne : b ≠ a.block) : Blk (w.setCell a v) b t vs := by
  unfold Blk; rw [heap_setCell_other w a b v hne]; exact h
theorem Blk.below {w w' : World} {b : Nat} {t : TypeId} {vs : List Value} {B : Nat} (h : Blk w b t vs) (hb : Below B w w') (hlt : b < B) : Blk w' b t vs := by
  unfold Blk; rw [hb.block b hlt]; exact h
theorem Blk.next {w w' : World} {b : Nat} {t : TypeId} {vs : List Value} (h : Blk w b t vs) (hb : Below w.heap.size w w') : Blk w' b t vs := h.below hb h.lt
theorem Blk.alloc {w : World} {b : Nat} {t : TypeId} {vs : List Value} (h : Blk w b t vs) (o : Obj) : Blk (w.alloc o) b t vs := by
  unfold Blk; rw [Below.heap_alloc w o b h.lt]; exact h
theorem Blk.drew {w : World} {b : Nat} {t : TypeId} {vs : List Value} (h : Blk w b t vs) : Blk w.drew b t vs := h
theorem Blk.drewN {w : World} {b : Nat} {t : TypeId} {vs : List Value} (h : Blk w b t vs) (n : Nat) : Blk (w.drewN n) b t vs := h
theorem Blk.new (w : World) (t : TypeId) (vs : List Value) : Blk (w.alloc (.cells vs.toArray t)) w.heap.size t vs := by show (w.heap.push _)[w.heap.size]? = _; simp
theorem Blk.at_new (w : World) (o : Obj) (n : Nat) (hn : n = w.heap.size) (t : TypeId) (vs : List Value) (ho : o = .cells vs.toArray t (0, 0)) : Blk (w.alloc o) n t vs := by
  subst hn ho; exact Blk.new w t vs
theorem Blk.setRow_same {w : World} {b : Nat} {t : TypeId} {vs : List Value} (h : Blk w b t vs) (us : List Value) : Blk (w.setRow b us.toArray) b t us := setRow_heap w b _ _ t _ h
theorem Blk.setRow_other {w : World} {b g : Nat} {t : TypeId} {vs : List Value} (h : Blk w b t vs) (cs : Array Value) (hne : b ≠ g) : Blk (w.setRow g cs) b t vs := by
  unfold Blk; rw [Go.setRow_other w g b cs hne]; exact h
theorem Blk.row {α : Type} {enc : α → Value} {w : World} {b : Nat} {t : TypeId} {xs : List α} (h : Blk w b t (xs.map enc)) : RowE enc w ⟨b, 0, none⟩ xs := RowE.of_block h (by simp)
theorem below_setRow {B : Nat} {a w : World} (h : Below B a w) (g : Nat) (cs : Array Value) (hg : B ≤ g) : Below B a (w.setRow g cs) :=
  h.trans ⟨rfl, rfl, rfl, by simp, fun k hk => Go.setRow_other w g k cs (by omega)⟩
theorem below_drewN {B : Nat} {a w : World} (h : Below B a w) (n : Nat) : Below B a (w.drewN n) := ⟨h.os, h.tape, h.output, h.size, h.block⟩


/-- A row of zeros that is filled from its head on: one element more. -/
def filled (xs : List Value) (z : Value) (k : Nat) : List Value := xs.take k ++ List.replicate (xs.length - k) z
theorem filled_length (xs : List Value) (z : Value) (k : Nat) (hk : k ≤ xs.length) : (filled xs z k).length = xs.length := by simp [filled]; omega
theorem filled_zero (xs : List Value) (z : Value) : filled xs z 0 = List.replicate xs.length z := by simp [filled]
theorem filled_all (xs : List Value) (z : Value) : filled xs z xs.length = xs := by simp [filled]
theorem filled_at (xs : List Value) (z : Value) (k : Nat) (hk : k < xs.length) : (filled xs z k)[k]? = some z := by
  unfold filled
  rw [List.getElem?_append_right (by simp; omega), List.length_take, Nat.min_eq_left (by omega), Nat.sub_self, List.getElem?_replicate, if_pos (by omega)]
theorem filled_set (xs : List Value) (z : Value) (k : Nat) (v : Value) (hv : xs[k]? = some v) : (filled xs z k).set k v = filled xs z (k + 1) := by
  have hk : k < xs.length := (List.getElem?_eq_some_iff.1 hv).1
  apply List.ext_getElem?
  intro i
  rw [List.getElem?_set, filled_length xs z k (by omega)]
  unfold filled
  by_cases h1 : k = i
  · subst h1
    rw [if_pos rfl, if_pos hk, List.getElem?_append_left (by simp; omega), List.getElem?_take_of_lt (by omega), hv]
  · rw [if_neg h1]
    by_cases h2 : i < k
    · rw [List.getElem?_append_left (by simp; omega), List.getElem?_append_left (by simp; omega), List.getElem?_take_of_lt h2, List.getElem?_take_of_lt (by omega)]
    · rw [List.getElem?_append_right (by simp; omega), List.getElem?_append_right (by simp; omega)]
      simp only [List.length_take, List.getElem?_replicate]
      rw [Nat.min_eq_left (by omega), Nat.min_eq_left (by omega)]
      by_cases h3 : i < xs.length
      · rw [if_pos (by omega), if_pos (by omega)]
      · rw [if_neg (by omega), if_neg (by omega)]


theorem below_step {a w w' : World} (h : Below a.heap.size a w) (hb : Below w.heap.size w w') : Below a.heap.size a w' := h.trans (hb.mono h.size)
theorem below_one (w : World) (o : Obj) : Below w.heap.size w (w.alloc o) := (Below.refl _ w).alloc (Nat.le_refl _) o
theorem below_two (w : World) (o o' : Obj) : Below w.heap.size w ((w.alloc o).alloc o') := (below_one w o).alloc (by rw [World.size_alloc]; omega) o'
theorem below_three (w : World) (o o' o2 : Obj) : Below w.heap.size w (((w.alloc o).alloc o').alloc o2) := (below_two w o o').alloc (by rw [World.size_alloc, World.size_alloc]; omega) o2

/-! ### Slices -/
/-- The slice at A (nil, or an address) has the elements xs, a cell each. -/
def SlE {α : Type} (enc : α → Value) (w : World) (A : Option Addr) (xs : List α) : Prop := ∀ i x, xs[i]? = some x → ∃ a, A = some a ∧ w.cell? (a.add i) = some (enc x)
def i64 (n : Int) : Value := .int .i64 n
def u8 (n : Int) : Value := .int .u8 n

theorem SlE.nil {α : Type} {enc : α → Value} {w : World} {A : Option Addr} : SlE enc w A [] := fun i x h => by simp at h
theorem SlE.of_row {α : Type} {enc : α → Value} {w : World} {a : Addr} {xs : List α} (h : RowE enc w a xs) : SlE enc w (some a) xs := fun i x hx => ⟨a, rfl, h i x hx⟩
theorem SlE.some {α : Type} {enc : α → Value} {w : World} {A : Option Addr} {xs : List α} (h : SlE enc w A xs) (i : Nat) (hi : i < xs.length) : ∃ a, A = some a ∧ RowE enc w a xs := by
  obtain ⟨a, rfl, _⟩ := h i _ (List.getElem?_eq_getElem hi)
  refine ⟨a, rfl, fun j x hx => ?_⟩
  obtain ⟨a', e, hc⟩ := h j x hx
  obtain rfl := Option.some.inj e
  exact hc
theorem RowE.atI {k : IntKind} {w : World} {a : Addr} {r : List Int} (h : RowE (Value.int k) w a r) (i : Nat) (hi : i < r.length) : w.cell? (a.add i) = some (.int k (rdI r i)) := h.at 0 i hi
theorem RowE.atI64 {w : World} {a : Addr} {r : List Int} (h : RowE i64 w a r) (i : Nat) (hi : i < r.length) : w.cell? (a.add i) = some (.int .i64 (rdI r i)) := h.at 0 i hi
theorem RowE.atS {w : World} {a : Addr} {r : List ByteArray} (h : RowE Value.string w a r) (i : Nat) (hi : i < r.length) : w.cell? (a.add i) = some (.string (rdS r i)) := h.at ByteArray.empty i hi
theorem SlE.same {α : Type} {enc : α → Value} {w w' : World} {A : Option Addr} {xs : List α} (h : SlE enc w A xs) (hs : ∀ x : Addr, x.block < w.heap.size → w'.cell? x = w.cell? x) : SlE enc w' A xs := by
  intro i x hx
  obtain ⟨a, e, hc⟩ := h i x hx
  exact ⟨a, e, by rw [hs _ (World.block_lt_of_cell? w _ hc)]; exact hc⟩
theorem SlE.next {α : Type} {enc : α → Value} {w w' : World} {A : Option Addr} {xs : List α} (h : SlE enc w A xs) (hb : Below w.heap.size w w') : SlE enc w' A xs := h.same fun _ hx => hb.cell hx
theorem RowE.next {α : Type} {enc : α → Value} {w w' : World} {a : Addr} {xs : List α} (h : RowE enc w a xs) (hb : Below w.heap.size w w') : RowE enc w' a xs := by
  intro i x hx
  have hc := h i x hx
  rw [hb.cell (World.block_lt_of_cell? w _ hc)]; exact hc

theorem SlE_own {α : Type} {enc : α → Value} {w : World} {base : Nat} {e : TypeId} {v : Value} {n : Nat} {xs : List α} (h : w.ownsRow base e 1 v n (xs.map enc)) :
    ∃ A c, v = .slice A xs.length c ∧ xs.length = n ∧ n ≤ c ∧ SlE enc w A xs := by
  obtain ⟨hl, h⟩ := h
  simp only [List.length_map, Nat.mul_one] at hl
  rcases h with ⟨rfl, rfl⟩ | ⟨g, cap, cur, rfl, hg, hh, hc, hm, hs, ht⟩
  · have hx : xs = [] := List.eq_nil_of_length_eq_zero hl
    subst hx
    exact ⟨none, 0, rfl, rfl, Nat.le_refl _, SlE.nil⟩
  · refine ⟨some ⟨g, 0, none⟩, cap, by rw [hl], hl, hc, SlE.of_row ?_⟩
    intro i x hx
    have hadd : (⟨g, 0, none⟩ : Addr).add i = ⟨g, i, none⟩ := by unfold Addr.add; split <;> simp_all
    rw [hadd, cell_of_row w g i _ _ _ hh]
    have h1 : (xs.map enc)[i]? = some (enc x) := by rw [List.getElem?_map, hx]; rfl
    rw [← ht, List.getElem?_take] at h1
    split at h1
    · simpa using h1
    · cases h1

/-- What the laws on append ask of the element's type. -/
structure El (P : Program) (t e : TypeId) (z : Value) (size bytes : Nat) : Prop where
  under : P.underlying t = some (.slice e)
  info : (P.info? e).map (fun i => (i.zero, i.size, i.bytes)) = some (some z, size, bytes)
  cells : z.cells.size = size
  pos : 0 < size

theorem grownBy_trans {a b c : World} {row : Option Nat} (h : a.grownBy b row) (k : b.grownBy c row) : a.grownBy c row :=
  ⟨k.os.trans h.os, k.tape.trans h.tape, k.output.trans h.output, Nat.le_trans h.size k.size, fun i hi hne => (k.block i (Nat.lt_of_lt_of_le hi h.size) hne).trans (h.block i hi hne)⟩
theorem Blk.grown {w w' : World} {b : Nat} {t : TypeId} {vs : List Value} {row : Option Nat} (h : Blk w b t vs) (hg : w.grownBy w' row) (hne : some b ≠ row) : Blk w' b t vs := by
  unfold Blk; rw [hg.block b h.lt hne]; exact h
theorem own_ne {w : World} {base : Nat} {e : TypeId} {size : Nat} {v : Value} {n : Nat} {xs : List Value} (h : w.ownsRow base e size v n xs) {b : Nat} (hb : b < base) : some b ≠ v.ownBlock := by
  intro e'
  have := (h.lt b e'.symm).1
  omega
theorem below_own {B : Nat} {a w w' : World} {base : Nat} {e : TypeId} {size : Nat} {v : Value} {n : Nat} {xs : List Value} (h : Below B a w) (ho : w.ownsRow base e size v n xs) (hg : w.grownBy w' v.ownBlock) (hB : B ≤ base) (hs : B ≤ w.heap.size) : Below B a w' :=
  h.grown hg hs fun k hk => by have := (ho.lt k hk).1; omega

/-- '[]T{}': an empty row of the call's own. -/
theorem own_empty (w : World) (b : Nat) (hb : b = w.heap.size) (base : Nat) (e : TypeId) (hbase : base ≤ b) (size : Nat) : (w.alloc (.cells #[] e)).ownsRow base e size (.slice (some ⟨b, 0, none⟩) 0 0) 0 [] := by
  subst hb
  exact World.ownsRow_lit w #[] 0 hbase (Nat.zero_le _) (by simp)

/-- 'append(xs, u)', u in the block that was made last. -/
theorem wpList_app1 {P : Program} {ops : Array Oper} {rest : List Oper} {o : Oper} {a : Act} {Q : Exit → Act → World → Prop} (hgd : o.guard = none) (s x : Operand) (t : TypeId)
    (ho : o.op = .call { callee := .builtin .append, args := #[s, x], argTypes := #[t, t] }) {e : TypeId} {z : Value} {bytes : Nat} (E : El P t e z 1 bytes)
    (W : World) (base : Nat) (v : Value) (n : Nat) (xs : List Value) (hs : a.eval s = v) (hown : W.ownsRow base e 1 v n xs) (u : Value) (b : Nat) (hb : b = W.heap.size) (hx : a.eval x = .slice (some ⟨b, 0, none⟩) 1 1)
    (h1 : u.oneCell' = true) (hn : n + 1 ≤ maxLen) (hbytes : (n + 1) * bytes ≤ 140737488355328) (hbase : base ≤ W.heap.size)
    (h : ∀ v' w', w'.ownsRow base e 1 v' (n + 1) (xs ++ [u]) → W.grownBy w' v.ownBlock → wpList P ops Q rest (a.put o.dst v') w') : wpList P ops Q (o :: rest) a (W.alloc (.cells #[u] e)) := by
  subst hb
  obtain ⟨i, hi, hz, hsz, hby⟩ := info_parts E.info
  refine wpList_append_own _ hgd s x t ho base e i z 1 bytes E.under hi hz hsz hby E.cells (by omega) v n xs hs (hown.alloc _) ⟨W.heap.size, 0, none⟩ 1 1 [u] hx rfl (cell_one_new _ _ _) (fun y hy => by simp at hy; subst hy; exact h1) hn hbytes (by simp; omega) ?_
  intro v' w' ho' hg' _
  exact h v' w' ho' (grownBy_trans (World.grownBy_alloc _ _ _) hg')

/-- An element of an array by value. -/
theorem run_index_arr {P : Program} {t e : TypeId} {n : Nat} (ht : P.underlying t = some (.array n e)) (he : P.plainKey e = true) (hs : (P.info? e).map (·.size) = some 1) (cs : Array Value) (k : IntKind) (i : Nat) (hi : i < n) (v : Value) (hv : cs[i]? = some v)
    (w : World) : (Instr.index t (.agg cs) (.int k (i : Int))).run P w = .ok v w := by
  cases hq : P.info? e with
  | none => simp [hq] at hs
  | some ie =>
    have h1 : ie.size = 1 := by simpa [hq] using hs
    simp [Instr.index, asIntOf, run_underlying ht, hi, sizeOf, typeInfo, hq, h1, run_part_plain w he hv]


/-! ### A region that draws its order, whose callees make memory of their own: walked once, in every world that keeps what lay below B -/
section
variable {P : Program} {ops : Array Oper} {C : World → Prop} {Q : Act → Prop} {a : Act} {o : Oper} {rest : List Oper}
theorem region_below {id : Nat} {Q : Exit → Act → World → Prop} {w : World} {l : List Oper} (B : Nat) (hm : P.follows .mixedOrders = true) (hB : Region.lexB .any l.toArray = true)
    (h : wpQuiet P l.toArray (fun w' => Below B w w') (fun a' => ∀ w', Below B w w' → Q .normal a' w') l a) : (Code.region id l.toArray true).wp P Q a w :=
  wp_region_quiet (C := fun w' => Below B w w') hm hB ⟨rfl, rfl, rfl, Nat.le_refl _, fun _ _ => rfl⟩ (by simpa using h)
theorem below_run (hw : Region.wanted o (yielded ops a.tmps) = true) (v : Value) (h : ∀ w, C w → (execOp a.eval o).run P w = .ok (.value v) w) (hk : wpQuiet P ops C Q rest (a.put o.dst v)) : wpQuiet P ops C Q (o :: rest) a :=
  BigFrame.wpQuiet_want hw fun K hK => ⟨v, fun w hC => by unfold Oper.quietAt; rw [h w hC]; exact ⟨rfl, rfl⟩, hK _ hk⟩
theorem below_call (hw : Region.wanted o (yielded ops a.tmps) = true) (f : FuncId) (args : Array Value) (v : Value) (hr : ∀ w, (execOp a.eval o).run P w = .ok (.enter f args) w)
    (h : ∀ w, C w → Calls P f args w fun e w' => e = .returned v ∧ C w') (hk : wpQuiet P ops C Q rest (a.put o.dst v)) : wpQuiet P ops C Q (o :: rest) a :=
  BigFrame.wpQuiet_want hw fun K hK => ⟨v, fun w hC => by unfold Oper.quietAt; rw [hr w]; exact ⟨rfl, h w hC⟩, hK _ hk⟩
end

theorem exec_load_row {P : Program} {o : Oper} {a : Act} {w : World} (ty : TypeId) (x : Operand) (ho : o.op = .load ty x) (g : Nat) (hx : a.eval x = .pointer (some ⟨g, 0, none⟩)) (t : TypeId) (cs : Array Value) (fr : Nat × Nat) (d : TypeDesc) (hg : w.heap[g]? = some (.cells cs t fr))
    (hu : P.underlying ty = some d) (hd : (match d with | .struct _ | .array _ _ => true | _ => false) = true) (hi : (P.info? ty).map (·.size) = some cs.size) : (execOp a.eval o).run P w = .ok (.value (.agg cs)) w := by
  unfold execOp
  simp only [ho, hx, Instr.loadAt, Instr.sureAddr, Sem.run_bind, Sem.run_pure, Result.andThen_ok, run_loadVar_row w g t ty cs fr d hg hu hd hi]

end Go.Proofs.YtnlnjpdnhdmndaaGreatDoor
namespace Go.Proofs.YtnlnjpdnhdmndaaGreatDoor
open Go Go.RowKit
set_option linter.unusedVariables false
set_option linter.unusedSimpArgs false

theorem below_alloc {B : Nat} {a w : World} (h : Below B a w) (hB : B ≤ w.heap.size) (o : Obj) : Below B a (w.alloc o) := h.alloc hB o
theorem step_alloc {a w : World} (h : Below a.heap.size a w) (o : Obj) : Below a.heap.size a (w.alloc o) := h.alloc h.size o

/-- 'var x T = value': the block that was made last takes a whole row. -/
theorem wpList_store_new {P : Program} {ops : Array Oper} {rest : List Oper} {o : Oper} {a : Act} {w : World} {Q : Exit → Act → World → Prop} (hgd : o.guard = none) (ty : TypeId) (x y : Operand) (ho : o.op = .store ty x y)
    (cells : Array Value) (hx : a.eval x = .pointer (some ⟨w.heap.size, 0, none⟩)) (hy : a.eval y = .agg cells)
    (t : TypeId) (old : Array Value) (hi : (P.info? ty).map (·.size) = some cells.size) (hold : old.size = cells.size) (h1 : cells.all (·.oneCell') = true)
    (h : wpList P ops Q rest (a.put o.dst undef) (w.alloc (.cells cells t))) : wpList P ops Q (o :: rest) a (w.alloc (.cells old t)) :=
  wpList_store_row hgd ty x y ho w.heap.size cells hx hy t old (heap_alloc_last w _) hi hold h1 (by rw [World.setRow_alloc_new]; exact h)

/-- Two results: a row that lies in memory, and a slot. -/
theorem results_row_tmp {P : Program} {fn : Func} {p u : Tmp} {ty : TypeId} (h : fn.results = #[.cell p ty, .tmp u]) (tmps : Array Value) (w : World) (g : Nat) (t : TypeId) (cs : Array Value) (fr : Nat × Nat) (d : TypeDesc) (v : Value)
    (hp : tmps.getD p undef = .pointer (some ⟨g, 0, none⟩)) (hv : tmps.getD u undef = v) (hg : w.heap[g]? = some (.cells cs t fr)) (hu : P.underlying ty = some d) (hd : (match d with | .struct _ | .array _ _ => true | _ => false) = true) (hi : (P.info? ty).map (·.size) = some cs.size) :
    (results fn tmps).run P w = .ok (.tuple #[.agg cs, v]) w := by
  rw [results_cell_tmp h, hp, hv]
  simp [asAddr, run_loadVar_row w g t ty cs fr d hg hu hd hi, Result.andThen]
end Go.Proofs.YtnlnjpdnhdmndaaGreatDoor
namespace Go.Proofs.YtnlnjpdnhdmndaaGreatDoor
open Go Go.RowKit
set_option linter.unusedVariables false
set_option linter.unusedSimpArgs false

/-- From address a on lie these cells. -/
def RowV (w : World) (a : Addr) (vs : List Value) : Prop := ∀ i v, vs[i]? = some v → w.cell? (a.add i) = some v
theorem RowV.next {w w' : World} {a : Addr} {vs : List Value} (h : RowV w a vs) (hb : Below w.heap.size w w') : RowV w' a vs := by
  intro i v hv
  have hc := h i v hv
  rw [hb.cell (World.block_lt_of_cell? w _ hc)]; exact hc
theorem RowV.drewN {w : World} {a : Addr} {vs : List Value} (h : RowV w a vs) (q : Nat) : RowV (w.drewN q) a vs := h
theorem add_mid (b o j : Nat) : (⟨b, o, none⟩ : Addr).add j = ⟨b, o + j, none⟩ := by unfold Addr.add; split <;> simp_all
theorem add_addr (a : Addr) (i j : Nat) : (a.add i).add j = a.add (i + j) := by
  unfold Addr.add
  by_cases hi : i = 0 <;> by_cases hj : j = 0 <;> simp [hi, hj, Nat.add_assoc]

theorem Blk.rowV {w : World} {b : Nat} {t : TypeId} {vs : List Value} (h : Blk w b t vs) (o n : Nat) : RowV w ⟨b, o, none⟩ ((vs.drop o).take n) := by
  intro i v hv
  rw [add_mid]
  refine h.cell _ _ ?_
  rw [List.getElem?_take] at hv
  split at hv
  · rwa [List.getElem?_drop] at hv
  · cases hv
theorem Blk.range {w : World} {b : Nat} {t : TypeId} {vs : List Value} (h : Blk w b t vs) (o n : Nat) : w.rangeAt b o ((vs.drop o).take n) := fun i v hv => by
  have := h.rowV o n i v hv
  rwa [add_mid] at this
theorem Blk.range_of {w : World} {b : Nat} {t : TypeId} {vs : List Value} (h : Blk w b t vs) (o : Nat) (us : List Value) (hu : us <+: vs.drop o) : w.rangeAt b o us := fun i v hv => by
  obtain ⟨r, hr⟩ := hu
  have hi : i < us.length := (List.getElem?_eq_some_iff.1 hv).1
  refine h.cell _ _ ?_
  rw [← List.getElem?_drop, ← hr, List.getElem?_append_left hi]; exact hv
theorem Blk.there {w : World} {b : Nat} {t : TypeId} {vs : List Value} (h : Blk w b t vs) (o n : Nat) (hn : o + n ≤ vs.length) : w.there b o n := fun j hj => by
  refine ⟨?_, h.free _⟩
  rw [h.cell (o + j) vs[o + j] (List.getElem?_eq_getElem (by omega))]; rfl
theorem Blk.setCells {b : Nat} {t : TypeId} : ∀ (cs : List Value) (w : World) (vs : List Value) (o : Nat), Blk w b t vs → o + cs.length ≤ vs.length → Blk (w.setCells b o cs) b t (vs.take o ++ cs ++ vs.drop (o + cs.length))
  | [], w, vs, o, h, _ => by simpa [World.setCells] using h
  | c :: cs, w, vs, o, h, hl => by
    simp only [List.length_cons] at hl
    have h1 := Blk.setCells cs _ _ (o + 1) (h.set o c) (by simp; omega)
    have e : (vs.set o c).take (o + 1) ++ cs ++ (vs.set o c).drop (o + 1 + cs.length) = vs.take o ++ (c :: cs) ++ vs.drop (o + (c :: cs).length) := by
      apply List.ext_getElem?
      intro i
      simp only [List.getElem?_append, List.length_append, List.length_take, List.length_cons, List.length_set, List.getElem?_take, List.getElem?_drop, List.getElem?_set, List.getElem?_cons]
      have e1 : min (o + 1) vs.length = o + 1 := by omega
      have e2 : min o vs.length = o := by omega
      rw [e1, e2]
      by_cases a1 : i < o
      · have : i < o + 1 := by omega
        have a3 : i < o + 1 + cs.length := by omega
        have a4 : i < o + (cs.length + 1) := by omega
        simp [a1, this, a3, a4]; omega
      · by_cases a2 : i = o
        · subst a2
          have : i < vs.length := by omega
          simp [this]
          omega
        · by_cases a3 : i < o + 1 + cs.length
          · have b1 : ¬ i < o + 1 := by omega
            have b2 : i < o + (cs.length + 1) := by omega
            have b3 : i - o ≠ 0 := by omega
            simp [a1, b1, a3, b2, b3]; congr 1
          · have b1 : ¬ i < o + 1 := by omega
            have b2 : ¬ i < o + (cs.length + 1) := by omega
            simp [a1, b1, a3, b2]
            have b4 : ¬ o = o + 1 + cs.length + (i - (o + 1 + cs.length)) := by omega
            simp [b4]; congr 1; omega
    rw [e] at h1
    exact h1
theorem Blk.setCells_other {b g : Nat} {t : TypeId} : ∀ (cs : List Value) (w : World) (vs : List Value) (o : Nat), Blk w b t vs → b ≠ g → Blk (w.setCells g o cs) b t vs
  | [], w, vs, o, h, _ => h
  | c :: cs, w, vs, o, h, hne => Blk.setCells_other cs _ vs (o + 1) (h.other ⟨g, o, none⟩ c hne) hne
theorem below_setCells {B g : Nat} {a : World} : ∀ (cs : List Value) (w : World) (o : Nat), Below B a w → B ≤ g → Below B a (w.setCells g o cs)
  | [], w, o, h, _ => h
  | c :: cs, w, o, h, hg => below_setCells cs _ (o + 1) (h.setCell (by simpa using hg) c) hg

/-- A value of several cells is read. -/
theorem run_loadV {P : Program} (w : World) (ty : TypeId) (a : Addr) (vs : List Value) (d : TypeDesc) (h : RowV w a vs) (hu : P.underlying ty = some d) (hd : d.isRow = true) (hi : (P.info? ty).map (·.size) = some vs.length) :
    (loadVar ty a).run P w = .ok (.agg vs.toArray) w := by
  have hl : (loadCells a vs.length).run P w = .ok vs.toArray w := run_loadCells_list (P := P) w a vs h
  cases hq : P.info? ty with
  | none => simp [hq] at hi
  | some i =>
    have hs : i.size = vs.length := by simpa [hq] using hi
    have hagg : (isAgg ty).run P w = .ok true w := by
      unfold isAgg
      rw [Sem.run_bind, run_underlying hu w]
      cases d <;> simp_all
    simp [loadVar, Sem.run_bind, hagg, sizeOf, typeInfo, hq, hs, hl]
theorem wpList_loadV {P : Program} {ops : Array Oper} {rest : List Oper} {o : Oper} {a : Act} {w : World} {Q : Exit → Act → World → Prop} (hgd : o.guard = none) (ty : TypeId) (x : Operand) (ho : o.op = .load ty x)
    (p : Addr) (hx : a.eval x = .pointer (some p)) (vs : List Value) (d : TypeDesc) (hr : RowV w p vs) (hu : P.underlying ty = some d) (hd : d.isRow = true) (hi : (P.info? ty).map (·.size) = some vs.length)
    (h : wpList P ops Q rest (a.put o.dst (.agg vs.toArray)) w) : wpList P ops Q (o :: rest) a w :=
  wpList_plain hgd fun K hK => by
    unfold Oper.wp execOp
    simp only [ho, hx, Instr.loadAt, Instr.sureAddr, Sem.run_bind, Sem.run_pure, Result.andThen_ok, run_loadV w ty p vs d hr hu hd hi]
    exact hK _ _ h
theorem exec_loadV {P : Program} {o : Oper} {a : Act} {w : World} (ty : TypeId) (x : Operand) (ho : o.op = .load ty x) (p : Addr) (hx : a.eval x = .pointer (some p)) (vs : List Value) (d : TypeDesc) (hr : RowV w p vs)
    (hu : P.underlying ty = some d) (hd : d.isRow = true) (hi : (P.info? ty).map (·.size) = some vs.length) : (execOp a.eval o).run P w = .ok (.value (.agg vs.toArray)) w := by
  unfold execOp
  simp only [ho, hx, Instr.loadAt, Instr.sureAddr, Sem.run_bind, Sem.run_pure, Result.andThen_ok, run_loadV w ty p vs d hr hu hd hi]
/-- One cell is read. -/
theorem exec_load1 {P : Program} {o : Oper} {a : Act} {w : World} (ty : TypeId) (x : Operand) (ho : o.op = .load ty x) (p : Addr) (hx : a.eval x = .pointer (some p)) (v : Value) (hv : w.cell? p = some v) (d : TypeDesc)
    (hu : P.underlying ty = some d) (hd : d.isRow = false) : (execOp a.eval o).run P w = .ok (.value v) w := by
  have hagg : (isAgg ty).run P w = .ok false w := by
    unfold isAgg
    rw [Sem.run_bind, run_underlying hu w]
    cases d <;> simp_all
  unfold execOp
  simp [ho, hx, Instr.loadAt, Instr.sureAddr, Sem.run_bind, Sem.run_pure, Result.andThen_ok, loadVar, hagg, run_load, hv]
/-- The address of an element. -/
theorem exec_index {P : Program} {o : Oper} {a : Act} {w : World} (t : TypeId) (s x : Operand) (ho : o.op = .indexAddr t s x) (p : Addr) (n c : Nat) (hs : a.eval s = .slice (some p) n c) (k : IntKind) (i : Nat) (hx : a.eval x = .int k (i : Int)) (hi : i < n)
    (e : TypeId) (hu : P.underlying t = some (.slice e)) (z : Nat) (hz : (P.info? e).map (·.size) = some z) : (execOp a.eval o).run P w = .ok (.value (.pointer (some (p.add (i * z))))) w := by
  cases hq : P.info? e with
  | none => simp [hq] at hz
  | some ie =>
    have hsz : ie.size = z := by simpa [hq] using hz
    unfold execOp
    simp [ho, hs, hx, Instr.indexAt, asIntOf, Sem.run_bind, run_underlying hu, hi, sizeOf, typeInfo, hq, hsz]

/-- A row of the call's own, at its block. -/
theorem ownB {w : World} {base : Nat} {e : TypeId} {z g n c : Nat} {xs : List Value} (h : w.ownsRow base e z (.slice (some ⟨g, 0, none⟩) n c) n xs) : xs.length = n * z ∧ ∃ cs, Blk w g e (xs ++ cs) := by
  obtain ⟨hl, h⟩ := h
  refine ⟨hl, ?_⟩
  rcases h with ⟨h1, h2⟩ | ⟨g', cap, cur, h1, hg, hh, hc, hm, hs, ht⟩
  · cases h1
  · cases h1
    refine ⟨cur.toList.drop (n * z), ?_⟩
    unfold Blk
    rw [← ht, List.take_append_drop]
    simpa using hh

/-- What a store into block b has done: the block holds us now; nothing else has changed. -/
structure Stored (b : Nat) (t : TypeId) (us : List Value) (w w' : World) : Prop where
  blk : Blk w' b t us
  other : ∀ (b' : Nat) (t' : TypeId) (vs' : List Value), b' ≠ b → Blk w b' t' vs' → Blk w' b' t' vs'
  below : ∀ (B : Nat) (a : World), Below B a w → B ≤ b → Below B a w'
theorem wpList_store_blk {P : Program} {ops : Array Oper} {rest : List Oper} {o : Oper} {a : Act} {w : World} {Q : Exit → Act → World → Prop} (hgd : o.guard = none) (ty : TypeId) (x y : Operand) (ho : o.op = .store ty x y)
    (b off : Nat) (hx : a.eval x = .pointer (some ⟨b, off, none⟩)) (cs : List Value) (hy : a.eval y = .agg cs.toArray) (hi : (P.info? ty).map (·.size) = some cs.length) (h1 : cs.toArray.all (·.oneCell') = true)
    (t : TypeId) (vs : List Value) (hb : Blk w b t vs) (hfit : off + cs.length ≤ vs.length) (us : List Value) (hu : vs.take off ++ cs ++ vs.drop (off + cs.length) = us)
    (h : ∀ w', Stored b t us w w' → wpList P ops Q rest (a.put o.dst undef) w') : wpList P ops Q (o :: rest) a w := by
  refine wpList_store_mid hgd ty x y ho b off cs.toArray hx hy (by simpa using hb.there off cs.length hfit) (by simpa using hi) h1 (h _ ⟨?_, ?_, ?_⟩)
  · have := Blk.setCells cs _ _ off hb hfit
    rw [hu] at this
    simpa using this
  · intro b' t' vs' hne hb'
    exact Blk.setCells_other _ _ _ _ hb' hne
  · intro B a hb' hB
    exact below_setCells _ _ _ hb' hB
theorem stored_cell {w : World} {b : Nat} {t : TypeId} {vs : List Value} (h : Blk w b t vs) (i : Nat) (v : Value) : Stored b t (vs.set i v) w (w.setCell ⟨b, i, none⟩ v) :=
  ⟨h.set i v, fun b' t' vs' hne hb' => hb'.other _ _ hne, fun B a hb' hB => hb'.setCell (by simpa using hB) v⟩
end Go.Proofs.YtnlnjpdnhdmndaaGreatDoor
namespace Go.Proofs.YtnlnjpdnhdmndaaGreatDoor
open Go Go.RowKit
set_option linter.unusedVariables false
set_option linter.unusedSimpArgs false
section
variable {P : Program} {ops : Array Oper} {Q : Exit → Act → World → Prop} {a : Act} {w W : World} {B : Nat}
theorem held_begin {id : Nat} (B : Nat) (hm : P.follows .mixedOrders = true) (h : wpAnyH P .any ops Q (fun w' => Below B w w') ops.size (Array.replicate ops.size false) a w.drew) : (Code.region id ops true).wp P Q a w :=
  wp_region_held hm h
theorem held_take {fuel : Nat} {listed : Array Bool} {oi : Oper} (i : Nat) (v : Value) (hi : ops[i]? = some oi) (hs : Region.noSelect ops = true) (hf : Region.free .any ops listed i = true) (hr : (Region.ready .any ops listed).contains i = true)
    (hQ : ∀ c a w, Q (.panic c) (a.put oi.dst v) w → Q (.panic c) a w) (hw : Region.wanted oi (yielded ops a.tmps) = true) (hv : ∀ w', Below B W w' → (execOp a.eval oi).run P w' = .ok (.value v) w') (hS : Below B W w)
    (h : wpAnyH P .any ops Q (fun w' => Below B W w') fuel (listed.setIfInBounds i true) (a.put oi.dst v) w) : wpAnyH P .any ops Q (fun w' => Below B W w') (fuel + 1) listed a w :=
  wpAnyH_take hi hs hf hr hQ (.inl ⟨hw, hv⟩) hS h
theorem held_call {fuel : Nat} {listed : Array Bool} {oi : Oper} (i : Nat) (f : FuncId) (args : Array Value) (hi : ops[i]? = some oi) (hr : Region.ready .any ops listed = [i]) (hw : Region.wanted oi (yielded ops a.tmps) = true)
    (he : (execOp a.eval oi).run P w = .ok (.enter f args) w)
    (hc : Calls P f args w fun e w' => ∃ v, e = .returned v ∧ Below B W w' ∧ wpAnyH P .any ops Q (fun w' => Below B W w') fuel (listed.setIfInBounds i true) (a.put oi.dst v) w') : wpAnyH P .any ops Q (fun w' => Below B W w') (fuel + 1) listed a w := by
  refine wpAnyH_all hr (by simp) fun j hj => ?_
  obtain rfl := List.mem_singleton.1 hj
  refine wpOp_step hi fun K' hK => ?_
  rw [if_pos hw]
  unfold Oper.wp
  rw [he, Oper.upon_enter]
  refine hc.mono ?_
  rintro e w' ⟨v, rfl, h1, h2⟩
  exact hK _ _ ⟨h1, h2⟩
theorem held_val {fuel : Nat} {listed : Array Bool} {oi : Oper} (i : Nat) (v : Value) (w1 : World) (hi : ops[i]? = some oi) (hr : Region.ready .any ops listed = [i]) (hw : Region.wanted oi (yielded ops a.tmps) = true)
    (he : (execOp a.eval oi).run P w = .ok (.value v) w1) (hS : Below B W w1)
    (h : wpAnyH P .any ops Q (fun w' => Below B W w') fuel (listed.setIfInBounds i true) (a.put oi.dst v) w1) : wpAnyH P .any ops Q (fun w' => Below B W w') (fuel + 1) listed a w := by
  refine wpAnyH_all hr (by simp) fun j hj => ?_
  obtain rfl := List.mem_singleton.1 hj
  refine wpOp_step hi fun K' hK => ?_
  rw [if_pos hw]
  unfold Oper.wp
  rw [he, Oper.upon_value]
  exact hK _ _ ⟨hS, h⟩
theorem held_done {fuel : Nat} {listed : Array Bool} {S : World → Prop} (hr : Region.ready .any ops listed = []) (h : Q .normal a w) : wpAnyH P .any ops Q S fuel listed a w := wpAnyH_done hr h fuel

/-- 'append(xs, u)', u in the block that was made last. -/
theorem held_app1 {fuel : Nat} {listed : Array Bool} {oi : Oper} (i : Nat) (s x : Operand) (t : TypeId) (hi : ops[i]? = some oi) (hr : Region.ready .any ops listed = [i]) (hw : Region.wanted oi (yielded ops a.tmps) = true)
    (ho : oi.op = .call { callee := .builtin .append, args := #[s, x], argTypes := #[t, t] }) {e : TypeId} {z : Value} {bytes : Nat} (E : El P t e z 1 bytes)
    (w0 : World) (base : Nat) (v : Value) (n : Nat) (xs : List Value) (hs : a.eval s = v) (hown : w0.ownsRow base e 1 v n xs) (u : Value) (hx : a.eval x = .slice (some ⟨w0.heap.size, 0, none⟩) 1 1)
    (h1 : u.oneCell' = true) (hn : n + 1 ≤ maxLen) (hbytes : (n + 1) * bytes ≤ 140737488355328) (hbase : base ≤ w0.heap.size) (hB : B ≤ base) (hS : Below B W w0)
    (h : ∀ v' w', w'.ownsRow base e 1 v' (n + 1) (xs ++ [u]) → w0.grownBy w' v.ownBlock → Below B W w' → wpAnyH P .any ops Q (fun w' => Below B W w') fuel (listed.setIfInBounds i true) (a.put oi.dst v') w') :
    wpAnyH P .any ops Q (fun w' => Below B W w') (fuel + 1) listed a (w0.alloc (.cells #[u] e)) := by
  obtain ⟨ie, hie, hz, hsz, hby⟩ := info_parts E.info
  obtain ⟨v', w', hrun, r1, r2, _⟩ := run_append_own (P := P) (w0.alloc (.cells #[u] e)) base t oi.type e ie z 1 bytes E.under hie hz hsz hby E.cells (by omega) v n xs (hown.alloc _) ⟨w0.heap.size, 0, none⟩ 1 1 [u] rfl (cell_one_new _ _ _) (fun y hy => by simp at hy; subst hy; exact h1) hn hbytes (by simp; omega)
  have hg := grownBy_trans (World.grownBy_alloc w0 _ _) r2
  have hS' : Below B W w' := below_own hS hown hg hB (by omega)
  refine wpAnyH_all hr (by simp) fun j hj => ?_
  obtain rfl := List.mem_singleton.1 hj
  refine wpOp_step hi fun K' hK => ?_
  rw [if_pos hw]
  unfold Oper.wp
  simp [execOp, ho, resolve, invoke, builtin, hs, hx, hrun, Result.andThen]
  exact hK _ _ ⟨hS', h v' w' r1 hg hS'⟩
end
end Go.Proofs.YtnlnjpdnhdmndaaGreatDoor
namespace Go.Proofs.YtnlnjpdnhdmndaaGreatDoor
open Go Go.RowKit
set_option linter.unusedVariables false
set_option linter.unusedSimpArgs false
theorem wpList_app1B {P : Program} {ops : Array Oper} {rest : List Oper} {o : Oper} {a : Act} {Q : Exit → Act → World → Prop} (hgd : o.guard = none) (s x : Operand) (t : TypeId)
    (ho : o.op = .call { callee := .builtin .append, args := #[s, x], argTypes := #[t, t] }) {e : TypeId} {z : Value} {bytes : Nat} (E : El P t e z 1 bytes)
    (W : World) (base : Nat) (v : Value) (n : Nat) (xs : List Value) (hs : a.eval s = v) (hown : W.ownsRow base e 1 v n xs) (u : Value) (b : Nat) (hb : b = W.heap.size) (hx : a.eval x = .slice (some ⟨b, 0, none⟩) 1 1)
    (h1 : u.oneCell' = true) (hn : n + 1 ≤ maxLen) (hbytes : (n + 1) * bytes ≤ 140737488355328) (hbase : base ≤ W.heap.size)
    (h : ∀ v' w', w'.ownsRow base e 1 v' (n + 1) (xs ++ [u]) → W.grownBy w' v.ownBlock → (v'.ownBlock = v.ownBlock ∨ ∃ g, W.heap.size ≤ g ∧ v'.ownBlock = some g) → wpList P ops Q rest (a.put o.dst v') w') : wpList P ops Q (o :: rest) a (W.alloc (.cells #[u] e)) := by
  subst hb
  obtain ⟨i, hi, hz, hsz, hby⟩ := info_parts E.info
  obtain ⟨v', w', hrun, r1, r2, _, r4⟩ := run_append_own_at (P := P) (w := W.alloc (.cells #[u] e)) base t o.type e i z 1 bytes E.under hi hz hsz hby E.cells (by omega) v n xs (hown.alloc _) ⟨W.heap.size, 0, none⟩ 1 1 [u] rfl (cell_one_new _ _ _) (fun y hy => by simp at hy; subst hy; exact h1) hn hbytes (by simp; omega)
  refine wpList_plain hgd fun K hK => ?_
  unfold Oper.wp
  simp [execOp, ho, resolve, invoke, builtin, hs, hx, hrun, Result.andThen]
  exact hK _ _ (h v' w' r1 (grownBy_trans (World.grownBy_alloc _ _ _) r2) (r4.imp id fun e => ⟨_, by simp, e⟩))
end Go.Proofs.YtnlnjpdnhdmndaaGreatDoor
