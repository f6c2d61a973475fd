/- Contracts, as the law of what is worn asks them. -/
import Derived.Test.YtkbmfemncadlnaaGreatDoorWnQ
import Derived.Test.YtkbmfemncadlnaaGreatDoorWnC
import Derived.Test.YtkbmfemncadlnaaGreatDoorWnB
import Derived.Test.YtkbmfemncadlnaaGreatDoorWnP
import Derived.Test.YtkbmfemncadlnaaGreatDoorGroupT
import Derived.Test.YtkbmfemncadlnaaGreatDoorGroupI
import Derived.Test.YtkbmfemncadlnaaGreatDoorGN
import Derived.Test.YtkbmfemncadlnaaGreatDoorGF


namespace Go.Proofs.YtkbmfemncadlnaaGreatDoor
open Go Go.RowKit
set_option linter.unusedVariables false
set_option linter.unusedSimpArgs false

theorem drew_below {w w' : World} (h : ∃ q, w' = w.drewN q) : Below w.heap.size w w' := by
  obtain ⟨q, rfl⟩ := h
  exact below_drewN (Below.refl _ _) q
/-- A list of numbers and a code are handed back. -/
def LOut (w : World) (xs : List Int) (code : Int) (e : Ending) (w' : World) : Prop := ∃ B d, (e = .returned (.tuple #[.slice B xs.length d, .int .i64 code]) ∧ SlE i64 w' B xs) ∧ Below w.heap.size w w'
/-- .. of at least that capacity. -/
def LOutC (w : World) (xs : List Int) (code : Int) (e : Ending) (w' : World) : Prop := ∃ B d, (e = .returned (.tuple #[.slice B xs.length d, .int .i64 code]) ∧ SlE i64 w' B xs ∧ xs.length ≤ d) ∧ Below w.heap.size w w'
theorem gout_l {w w' : World} {xs : List Int} {code : Int} {e : Ending} (h : GOut w xs code e w') : LOut w xs code e w' := by
  obtain ⟨A, c, h1, h2, h3⟩ := h
  refine ⟨A, c, ⟨h1, ?_⟩, h2⟩
  by_cases h0 : 0 < xs.length
  · obtain ⟨g, cs, rfl, _, hb⟩ := h3 h0
    intro i x hx
    refine ⟨_, rfl, ?_⟩
    have hadd : (⟨g, 0, none⟩ : Addr).add i = ⟨g, i, none⟩ := by unfold Addr.add; split <;> simp_all
    rw [hadd]
    refine hb.cell i _ ?_
    have hi := (List.getElem?_eq_some_iff.1 hx).1
    rw [List.getElem?_append_left (by simpa using hi), List.getElem?_map, hx]; rfl
  · have : xs = [] := List.eq_nil_of_length_eq_zero (by omega)
    subst this
    exact SlE.nil
theorem group_implL (A : Option Addr) (c : Nat) (hs : List (List Int)) (limit : Int) (w : World) (h : HsOk hs) (hl : 0 ≤ limit) (hsl : Sl2 w A hs) :
    Calls Tryz.prog 27 #[.slice A hs.length c, .int .i64 limit] w (LOut w (grpAll (nearB hs limit) hs.length hs.length).1 0) := by
  refine (group_impl A c hs hs.length limit w rfl (hsOk_small h) hsl).mono fun e w' hh => ?_
  rw [groupOut_ok (hsOk_code h) (by omega)] at hh
  exact gout_l hh
theorem group_specL (A : Option Addr) (c : Nat) (hs : List (List Int)) (limit : Int) (w : World) (h : HsOk hs) (hl : 0 ≤ limit) (hsl : Sl2 w A hs) :
    Calls Tryz.prog 28 #[.slice A hs.length c, .int .i64 limit] w (LOutC w (grpAll (nearB hs limit) hs.length hs.length).1 0) := by
  refine (group_specC A c hs hs.length limit w rfl (hsOk_small h) hsl).mono fun e w' hh => ?_
  rw [groupOut_ok (hsOk_code h) (by omega)] at hh
  obtain ⟨B, d, h1, h2, h3, h4⟩ := hh
  obtain ⟨B', d', ⟨h5, h6⟩, h7⟩ := gout_l ⟨B, d, h1, h2, h3⟩
  rw [h1] at h5
  injection h5 with h5
  injection h5 with h5
  have h8 : B = B' := by simp at h5; exact h5.1
  exact ⟨B, d, ⟨h1, by rw [h8]; exact h6, h4⟩, h2⟩
theorem apart_implL (A B : Option Addr) (c d : Nat) (xs ys : List Int) (w : World) (hx : gapsOk xs = true) (hy : gapsOk ys = true) (ha : SlE i64 w A xs) (hb : SlE i64 w B ys) :
    Calls Tryz.prog 29 #[.slice A xs.length c, .slice B ys.length d] w fun e w' => e = .returned (.tuple #[.int .i64 (apartN xs ys : Nat), .int .i64 0]) ∧ Below w.heap.size w w' := by
  have h1 := (gapsOk_iff hx).1
  have h2 := (gapsOk_iff hy).1
  refine (gapsApart_impl A B c d xs ys _ _ w rfl rfl (by omega) (by omega) ha hb).mono fun e w' hh => ?_
  rw [apOut_yes hx hy] at hh
  exact ⟨hh.1, drew_below hh.2⟩
theorem apart_specL (A B : Option Addr) (c d : Nat) (xs ys : List Int) (w : World) (hx : gapsOk xs = true) (hy : gapsOk ys = true) (ha : SlE i64 w A xs) (hb : SlE i64 w B ys) :
    Calls Tryz.prog 31 #[.slice A xs.length c, .slice B ys.length d] w fun e w' => e = .returned (.tuple #[.int .i64 (apartN xs ys : Nat), .int .i64 0]) ∧ Below w.heap.size w w' := by
  have h1 := (gapsOk_iff hx).1
  have h2 := (gapsOk_iff hy).1
  refine (gapsApart_spec A B c d xs ys _ _ w rfl rfl (by omega) (by omega) ha hb).mono fun e w' hh => ?_
  rw [apOut_yes hx hy] at hh
  exact ⟨hh.1, drew_below hh.2⟩
/-- What the nearest hand is. -/
def nrI (hs : List (List Int)) (ys : List Int) : Int := if hs.length = 0 then 0 else (nearI hs ys hs.length : Int)
def nrM (hs : List (List Int)) (ys : List Int) : Int := if hs.length = 0 then 0 else (nearM hs ys hs.length : Int)
def nrC (hs : List (List Int)) : Int := if hs.length = 0 then 6 else 0
theorem near_out {hs : List (List Int)} {ys : List Int} (h : HsOk hs) (hy : gapsOk ys = true) : nearOut hs ys hs.length = (nrI hs ys, nrM hs ys, nrC hs) := by
  unfold nrI nrM nrC
  by_cases h0 : hs.length = 0
  · rw [nearOut_none hy h0, if_pos h0, if_pos h0, if_pos h0]
  · rw [nearOut_ok hy (hsOk_code h) h0, if_neg h0, if_neg h0, if_neg h0]
theorem nearest_implL (A B : Option Addr) (c d : Nat) (hs : List (List Int)) (ys : List Int) (w : World) (h : HsOk hs) (hy : gapsOk ys = true) (ha : Sl2 w A hs) (hb : SlE i64 w B ys) :
    Calls Tryz.prog 23 #[.slice A hs.length c, .slice B ys.length d] w fun e w' => e = .returned (.tuple #[.int .i64 (nrI hs ys), .int .i64 (nrM hs ys), .int .i64 (nrC hs)]) ∧ Below w.heap.size w w' := by
  have h2 := (gapsOk_iff hy).1
  refine (nearest_impl A B c d hs ys _ _ w rfl (hsOk_small h) ha rfl (by omega) hb).mono fun e w' hh => ?_
  rw [near_out h hy] at hh
  exact ⟨hh.1, drew_below hh.2⟩
theorem nearest_specL (A B : Option Addr) (c d : Nat) (hs : List (List Int)) (ys : List Int) (w : World) (h : HsOk hs) (hy : gapsOk ys = true) (ha : Sl2 w A hs) (hb : SlE i64 w B ys) :
    Calls Tryz.prog 24 #[.slice A hs.length c, .slice B ys.length d] w fun e w' => e = .returned (.tuple #[.int .i64 (nrI hs ys), .int .i64 (nrM hs ys), .int .i64 (nrC hs)]) ∧ Below w.heap.size w w' := by
  have h2 := (gapsOk_iff hy).1
  refine (nearest_spec A B c d hs ys _ _ w rfl (hsOk_small h) ha rfl (by omega) hb).mono fun e w' hh => ?_
  rw [near_out h hy] at hh
  exact ⟨hh.1, drew_below hh.2⟩
theorem nr_say {hs : List (List Int)} {ys : List Int} {i : Nat} (hi : i < hs.length) : nrM hs ys ≤ ((apartN (rdL hs i) ys : Nat) : Int) ∧ (((apartN (rdL hs i) ys : Nat) : Int) = nrM hs ys → nrI hs ys ≤ (i : Int)) ∧ ((i : Int) = nrI hs ys → ((apartN (rdL hs i) ys : Nat) : Int) = nrM hs ys) := by
  have h0 : ¬ hs.length = 0 := by omega
  obtain ⟨h1, h2⟩ := nearI_best (hs := hs) (ys := ys) (n := hs.length) (by omega)
  have := h2 i hi
  unfold nrM nrI
  rw [if_neg h0, if_neg h0]
  refine ⟨by omega, fun h => by omega, fun h => ?_⟩
  have e : i = nearI hs ys hs.length := by omega
  rw [e]; rfl
theorem list_l {w w' : World} {xs : List Int} {code : Int} {e : Ending} (h : ListOut w xs code e w') : LOut w xs code e w' := by
  obtain ⟨A, c, h1, h2, h3⟩ := h
  exact ⟨A, c, ⟨h1, h3.sl⟩, h2⟩
theorem gaps_implL (f : Fc) (S : Value) (l : List UInt8) (w : World) (hf : HasF w f S) (hv : validF f = true) (hl : LL l) (h1 : 1 ≤ l.length) (h60 : l.length ≤ 60) (hmx : MaxW w) :
    Calls Tryz.prog 21 #[.agg (fcV f S).toArray, .string ⟨l.toArray⟩] w (LOut w (gapsW f l l.length) 0) := by
  obtain ⟨hft, A, n, c, rfl, hn, hm, hsl⟩ := hf
  refine (gaps_impl f A n c ⟨l.toArray⟩ w hft hn (by omega) (by simp [ByteArray.size]; omega) hsl hmx).mono fun e w' hh => ?_
  rw [bs_mk, gapsOut_ok hv (vText_LL hl h60) (isW_iff.2 ⟨hl, by omega⟩)] at hh
  exact list_l hh
theorem gaps_specL (f : Fc) (S : Value) (l : List UInt8) (w : World) (hf : HasF w f S) (hv : validF f = true) (hl : LL l) (h1 : 1 ≤ l.length) (h60 : l.length ≤ 60) :
    Calls Tryz.prog 22 #[.agg (fcV f S).toArray, .string ⟨l.toArray⟩] w (LOut w (gapsW f l l.length) 0) := by
  obtain ⟨hft, A, n, c, rfl, hn, hm, hsl⟩ := hf
  refine (gaps_spec f A n c ⟨l.toArray⟩ w hft hn (by omega) (by simp [ByteArray.size]; omega) hsl).mono fun e w' hh => ?_
  rw [bs_mk, gapsOut_ok hv (vText_LL hl h60) (isW_iff.2 ⟨hl, by omega⟩)] at hh
  exact list_l hh
theorem exec_slice0I {o : Oper} {a : Act} {w : World} (x hi : Operand) (ho : o.op = .slice 47 x none (some hi) none) (p : Addr) (n c h : Nat) (hx : a.eval x = .slice (some p) n c) (hh : a.eval hi = .int .i64 (h : Int)) (hc : h ≤ c) (hp : 0 < c) :
    (execOp a.eval o).run Tryz.prog w = .ok (.value (.slice (some p) h c)) w := by
  have hne : ¬ c = 0 := by omega
  have h0 : p.add 0 = p := by simp [Addr.add]
  have hz : (Tryz.prog.info? 2).map (·.size) = some 1 := by kernel_rfl
  cases hq : Tryz.prog.info? 2 with
  | none => rw [hq] at hz; cases hz
  | some i =>
    unfold execOp
    simp [ho, hx, hh, Instr.sliceAt, Instr.slice, Instr.sliceBounds, Instr.sliceBound, asIntOf, Sem.run_bind, run_underlying Tryz.underlying47, hc, hne, sizeOf, typeInfo, hq, h0]
theorem szSl64 : (Tryz.prog.info? 47).map (·.size) = some 1 := by kernel_rfl
/-- The first k of a list. -/
theorem slE_take {α : Type} {enc : α → Value} {w : World} {A : Option Addr} {xs : List α} (h : SlE enc w A xs) (k : Nat) : SlE enc w A (xs.take k) := fun i x hx => by
  rw [List.getElem?_take] at hx
  split at hx
  · exact h i x hx
  · cases hx
/-- A hand is its group's first one, or it is near to one of the first j. -/
def nbB (nb0 : Bool) (hs : List (List Int)) (limit : Int) (k j : Nat) : Bool := nb0 || decide (∃ q, q < j ∧ q ≠ k ∧ nearB hs limit k q = true)
theorem nbB_zero (nb0 : Bool) (hs : List (List Int)) (limit : Int) (k : Nat) : nbB nb0 hs limit k 0 = nb0 := by
  unfold nbB
  rw [decide_eq_false (fun ⟨q, h, _⟩ => by omega), Bool.or_false]
theorem nbB_yes {nb0 : Bool} {hs : List (List Int)} {limit : Int} {k j : Nat} (h : nbB nb0 hs limit k j = true) : nbB nb0 hs limit k (j + 1) = true := by
  unfold nbB at h ⊢
  cases nb0
  · rw [Bool.false_or, decide_eq_true_iff] at h ⊢
    obtain ⟨q, h1, h2⟩ := h
    exact ⟨q, by omega, h2⟩
  · rfl
theorem nbB_hit {nb0 : Bool} {hs : List (List Int)} {limit : Int} {k j : Nat} (hne : j ≠ k) (h : nearB hs limit k j = true) : nbB nb0 hs limit k (j + 1) = true := by
  unfold nbB
  rw [decide_eq_true ⟨j, by omega, hne, h⟩, Bool.or_true]
theorem nbB_no {nb0 : Bool} {hs : List (List Int)} {limit : Int} {k j : Nat} (h : nbB nb0 hs limit k j = false) (hn : j = k ∨ nearB hs limit k j = false) : nbB nb0 hs limit k (j + 1) = false := by
  unfold nbB at h ⊢
  rw [Bool.or_eq_false_iff] at h ⊢
  refine ⟨h.1, ?_⟩
  have h2 := of_decide_eq_false h.2
  refine decide_eq_false fun ⟨q, h3, h4, h5⟩ => ?_
  by_cases e : q = j
  · subst e
    rcases hn with hn | hn
    · exact h4 hn
    · rw [hn] at h5; cases h5
  · exact h2 ⟨q, by omega, h4, h5⟩
theorem usedN_few {P : List Int} {n : Nat} (h : ∀ i, i < n → rdI P i ≤ usedN P i) : ∀ k, k ≤ n → usedN P k ≤ (k : Int)
  | 0, _ => Int.le_refl _
  | k + 1, hk => by
    have h1 := usedN_few h k (by omega)
    have h2 := h k (by omega)
    rw [usedN]
    omega
/-- Whether a hand is the first of its group. -/
def nbF (P : List Int) (k : Nat) : Bool := decide (k = 0) || (decide (rdI P k = usedN P (k + 1) - 1) && !decide (∃ j, j < k ∧ rdI P j = rdI P k))
theorem nb_end {P : List Int} {hs : List (List Int)} {limit : Int} {k : Nat} (h : (rdI P k = usedN P (k + 1) - 1 ∧ ∀ j, j < k → rdI P j ≠ rdI P k) ∨ ∃ q, q < hs.length ∧ q ≠ k ∧ nearB hs limit k q = true) : nbB (nbF P k) hs limit k hs.length = true := by
  unfold nbB
  rcases h with ⟨h1, h2⟩ | ⟨q, h1, h2, h3⟩
  · have : nbF P k = true := by
      unfold nbF
      have hne : ¬ ∃ j, j < k ∧ rdI P j = rdI P k := fun ⟨j, hj, e⟩ => h2 j hj e
      rw [decide_eq_true h1, decide_eq_false hne]; simp
    rw [this]; rfl
  · rw [decide_eq_true ⟨q, h1, h2, h3⟩, Bool.or_true]
/-- A cell holds a value. -/
def CellIs (w : World) (a : Addr) (v : Value) : Prop := w.cell? a = some v
theorem CellIs.next {w w' : World} {a : Addr} {v : Value} (h : CellIs w a v) (hb : Below w.heap.size w w') : CellIs w' a v := by
  unfold CellIs at h ⊢
  rw [hb.cell (World.block_lt_of_cell? w _ h)]; exact h
theorem has_take (A : Option Addr) (c k : Nat) (P : List Int) (x : Int) (w : World) (hk : k ≤ P.length) (hm : k ≤ 1048576) (h : SlE i64 w A P) :
    Calls Tryz.prog 30 #[.slice A k c, .int .i64 x] w fun e w' => e = .returned (.bool (decide (∃ j, j < k ∧ rdI P j = x))) ∧ Below w.heap.size w w' := by
  have hr : ∀ j, j < k → rdI (P.take k) j = rdI P j := fun j hj => by unfold rdI; rw [List.getD_eq_getElem?_getD, List.getElem?_take_of_lt hj, ← List.getD_eq_getElem?_getD]
  refine (has_any A k c (P.take k) x w (by simp; omega) hm (slE_take h k)).mono fun e w' hh => ⟨?_, hh.2⟩
  rw [hh.1]
  congr 2
  rw [Bool.eq_iff_iff, decide_eq_true_iff, decide_eq_true_iff]
  exact ⟨fun ⟨j, h1, h2⟩ => ⟨j, h1, by rw [← hr j h1]; exact h2⟩, fun ⟨j, h1, h2⟩ => ⟨j, h1, by rw [hr j h1]; exact h2⟩⟩
end Go.Proofs.YtkbmfemncadlnaaGreatDoor
