/- Letters of a text, their pieces, and how pieces are given to sheets, plain. No walk here. -/
import Derived.Test.YtdhngjjfoddnkaaGreatDoorGC
import Derived.Test.YtdhngjjfoddnkaaGreatDoorGF
namespace Go.Proofs.YtdhngjjfoddnkaaGreatDoor
open Go Go.RowKit
set_option linter.unusedVariables false
set_option linter.unusedSimpArgs false

/-- The letters of a text. -/
def lets (l : List UInt8) : List UInt8 := l.filter fun b => !(b == 32)
/-- The pieces of all letters. -/
def pcs (f : Fc) (o : Int) (ls : List UInt8) : List Int := ls.map fun b => letW f (b.toNat : Int) + 2 * o
theorem pcs_length (f : Fc) (o : Int) (ls : List UInt8) : (pcs f o ls).length = ls.length := by unfold pcs; simp
theorem rdI_pcs (f : Fc) (o : Int) (ls : List UInt8) {k : Nat} (h : k < ls.length) : rdI (pcs f o ls) k = letW f (byt ls k) + 2 * o := by
  unfold rdI pcs
  rw [List.getD, List.getElem?_map, List.getElem?_eq_getElem h, byt_get h]; rfl
theorem lets_length (l : List UInt8) : (lets l).length ≤ l.length := List.length_filter_le _ _
theorem mem_lets {l : List UInt8} {b : UInt8} (h : b ∈ lets l) : b ∈ l ∧ b ≠ 32 := by
  unfold lets at h
  rw [List.mem_filter] at h
  exact ⟨h.1, fun e => by rw [e] at h; exact absurd h.2 (by decide)⟩
theorem lets_ll {l : List UInt8} (h : LS l) : LL (lets l) := fun i hi => by
  obtain ⟨hm, hne⟩ := mem_lets (List.getElem_mem hi)
  obtain ⟨j, hj, e⟩ := List.getElem_of_mem hm
  rw [byt_get hi, ← e]
  rcases h j hj with h1 | h1
  · rw [byt_get hj] at h1
    exact absurd (e.symm.trans (u8_eq (by rw [h1]; rfl))) hne
  · rwa [byt_get hj] at h1
theorem pcs_range {f : Fc} (hf : FcV f) {o : Int} (ho : 0 ≤ o ∧ o ≤ 5) {ls : List UInt8} (hl : LL ls) {k : Nat} (h : k < ls.length) : 1 ≤ rdI (pcs f o ls) k ∧ rdI (pcs f o ls) k ≤ 50 := by
  rw [rdI_pcs f o ls h]
  have := letW_range hf (hl k h)
  omega
/-- The letters of joined words are those of the words. -/
theorem lets_append (a b : List UInt8) : lets (a ++ b) = lets a ++ lets b := List.filter_append _ _
theorem lets_word {w : List UInt8} (h : LL w) : lets w = w := by
  unfold lets
  rw [List.filter_eq_self]
  intro b hb
  obtain ⟨i, hi, e⟩ := List.getElem_of_mem hb
  have h1 := isLet_iff.1 (h i hi)
  rw [byt_get hi, e] at h1
  have : b ≠ 32 := fun hh => by rw [hh] at h1; exact absurd h1 (by decide)
  simpa using this
theorem lets_join : ∀ {ws : List (List UInt8)}, (∀ x ∈ ws, LL x) → lets (joinW ws) = ws.flatten
  | [], _ => rfl
  | [w], h => by rw [joinW_one, lets_word (h w (by simp))]; simp
  | w :: v :: ws, h => by
    rw [joinW_cons2, lets_append, lets_word (h w (by simp))]
    have e : lets (32 :: joinW (v :: ws)) = lets (joinW (v :: ws)) := rfl
    rw [e, lets_join (fun x hx => h x (by simp at hx ⊢; exact .inr hx))]
    simp

/-! ### Sheets -/
structure Sh where
  wide : Int
  over : Int
def shOk (s : Sh) : Bool := inB 1 400 s.wide && inB 0 5 s.over
/-- The code of a face, a sheet and a text. -/
def shC (f : Fc) (s : Sh) (l : List UInt8) : Int := if validF f && shOk s && vText l then 0 else 1
/-- The first sheet from fr on with room for n, or the next one. -/
def pickN (left : List Int) (n : Int) : Nat → Nat → Nat
  | 0, i => i
  | d + 1, i => if n ≤ rdI left i then i else pickN left n d (i + 1)
def pick (fr : Nat) (left : List Int) (n : Int) : Nat := pickN left n (left.length - fr) fr
theorem pickN_range (left : List Int) (n : Int) : ∀ d i, i ≤ pickN left n d i ∧ pickN left n d i ≤ i + d
  | 0, i => ⟨Nat.le_refl _, Nat.le_refl _⟩
  | d + 1, i => by
    rw [pickN]
    split
    · omega
    · have := pickN_range left n d (i + 1); omega
theorem pickN_fit (left : List Int) (n : Int) : ∀ d i, pickN left n d i < i + d → n ≤ rdI left (pickN left n d i)
  | 0, i, h => by rw [pickN] at h; omega
  | d + 1, i, h => by
    rw [pickN] at h ⊢
    split
    · assumption
    · rename_i hh; rw [if_neg hh] at h; exact pickN_fit left n d (i + 1) (by omega)
/-- Which sheet each of the first k pieces has, and what is left of each sheet. -/
def shs (fr : Nat → Nat) (w : Int) (ps : List Int) : Nat → List Int × List Int
  | 0 => ([], [])
  | k + 1 =>
    let o := (shs fr w ps k).1
    let lf := (shs fr w ps k).2
    let i := pick (fr lf.length) lf (rdI ps k)
    let lf2 := if i = lf.length then lf ++ [w] else lf
    (o ++ [(i : Int)], lf2.set i (rdI lf2 i - rdI ps k))
end Go.Proofs.YtdhngjjfoddnkaaGreatDoor
