/- Contracts: slices.IndexFunc and slices.ContainsFunc at numbers, over a closure's contract. -/
import Derived.Test.YtonnplaacebekaaDoorShB
import Derived.Shelf.Abstract
namespace Go.Proofs.YtonnplaacebekaaDoor
open Go Go.RowKit Go.Shelf
set_option linter.unusedVariables false
set_option linter.unusedSimpArgs false

/-- What is asked of a closure over numbers: it answers p, and leaves what lay in w. -/
def PredI (g : Nat) (lb : Array Value) (p : Int → Bool) (w : World) : Prop :=
  ∀ (W : World) (x : Int), Below w.heap.size w W → Calls Tryd.prog g (#[.int .i64 x] ++ lb) W fun e w' => e = .returned (.bool (p x)) ∧ Below W.heap.size W w'
/-- The first number that is so, or -1. -/
def idxI (p : Int → Bool) (xs : List Int) : Int := if xs.findIdx p < xs.length then (xs.findIdx p : Int) else -1
theorem idxI_hit {p : Int → Bool} {xs : List Int} {k : Nat} (hk : k < xs.length) (h : p (rdI xs k) = true) (hb : ∀ j, j < k → p (rdI xs j) = false) : idxI p xs = k := by
  have e : xs.findIdx p = k := by
    rw [List.findIdx_eq hk]
    refine ⟨?_, fun j hj => ?_⟩
    · rw [rdI, List.getD, List.getElem?_eq_getElem hk] at h; exact h
    · have := hb j hj
      rw [rdI, List.getD, List.getElem?_eq_getElem (by omega)] at this; exact this
  unfold idxI
  rw [e, if_pos hk]
theorem idxI_none {p : Int → Bool} {xs : List Int} (hb : ∀ j, j < xs.length → p (rdI xs j) = false) : idxI p xs = -1 := by
  unfold idxI
  rw [if_neg]
  intro h
  have h1 := List.findIdx_getElem (w := h)
  have h2 := hb _ h
  rw [rdI, List.getD, List.getElem?_eq_getElem h] at h2
  simp only [Option.getD_some] at h2
  rw [h1] at h2
  cases h2
theorem idxI_any (p : Int → Bool) (xs : List Int) : decide (0 ≤ idxI p xs) = xs.any p := by
  unfold idxI
  cases h : xs.any p
  · rw [if_neg]
    · rfl
    · intro h1
      have := List.findIdx_getElem (w := h1)
      rw [List.any_eq_false] at h
      exact h _ (List.getElem_mem h1) this
  · rw [List.any_eq_true] at h
    obtain ⟨x, hx, hp⟩ := h
    rw [if_pos (List.findIdx_lt_length_of_exists ⟨x, hx, hp⟩)]
    exact decide_eq_true (by omega)
theorem any_rdI {p : Int → Bool} {xs : List Int} : xs.any p = false ↔ ∀ k, k < xs.length → p (rdI xs k) = false := by
  rw [List.any_eq_false]
  constructor
  · intro h k hk
    have := h _ (List.getElem_mem hk)
    rw [rdI, List.getD, List.getElem?_eq_getElem hk]
    simpa using this
  · intro h x hx
    obtain ⟨k, hk, rfl⟩ := List.getElem_of_mem hx
    have := h k hk
    rw [rdI, List.getD, List.getElem?_eq_getElem hk] at this
    simpa using this
theorem idxI_range (p : Int → Bool) (xs : List Int) : -1 ≤ idxI p xs ∧ idxI p xs ≤ xs.length := by
  unfold idxI
  split <;> omega

set_option maxHeartbeats 1000000 in
set_option maxRecDepth 100000 in
theorem indexF_any (g : Nat) (lb : Array Value) (eg : ∀ args w, (callFunc g args).run Tryd.prog w = .ok (.enter g args) w) (p : Int → Bool) (A : Option Addr) (n c : Nat) (xs : List Int) (w : World) (hn : xs.length = n) (hm : n ≤ 1048576) (hs : SlE i64 w A xs) (hp : PredI g lb p w) :
    Calls Tryd.prog 113 #[.slice A n c, .func (.func g) #[] lb] w fun e w' => e = .returned (.int .i64 (idxI p xs)) ∧ Below w.heap.size w w' := by
  have HN := Lib.hid hn
  have HS := Lib.hid hs
  have HP := Lib.hid hp
  clear hn hs hp
  go_enter Tryd.func113, Tryd.ntmps113
  go_wp2
  go_loopw [5, 8] (fun _ i wr => ∃ k : Nat, k ≤ n ∧ i = .int .i64 k ∧ (∀ j, j < k → p (rdI xs j) = false) ∧ Below w.heap.size w wr) (fun _ i _ => n - (intOf i).toNat)
  case atStart => exact ⟨0, Nat.zero_le _, rfl, fun j hj => absurd hj (Nat.not_lt_zero _), Below.refl _ _⟩
  case round =>
    obtain ⟨k, hk, rfl, hall, hbel⟩ := hrel
    have HALL := Lib.hid hall
    clear hall
    by_cases hlt : k < n
    · obtain ⟨a, rfl, hrow⟩ := (HS.out.next hbel).some k (by rw [HN.out]; exact hlt)
      have hcell := hrow.atI64 k (by rw [HN.out]; exact hlt)
      have hcall := HP.out wr (rdI xs k) hbel
      clear hrow
      cases hq : p (rdI xs k)
      · rw [hq] at hcall
        have HQ := Lib.hid hq
        clear hq
        go_wp2_with (go_at_fn g; refine hcall.mono ?_; rintro e w' ⟨rfl, hb'⟩)
        have hbel := below_step hbel hb'
        clear hb'
        go_roundw
        case rel =>
          refine ⟨k + 1, by omega, by go_num, fun j hj => ?_, hbel⟩
          by_cases e : j = k
          · subst e; exact HQ.out
          · exact HALL.out j (by omega)
        case measure => simp [intOf]; omega
      · rw [hq] at hcall
        have HQ := Lib.hid hq
        clear hq
        go_wp2_with (go_at_fn g; refine hcall.mono ?_; rintro e w' ⟨rfl, hb'⟩)
        go_ret
        exact ⟨retI (idxI_hit (by rw [HN.out]; exact hlt) HQ.out HALL.out).symm, below_step hbel hb'⟩
    · obtain rfl : k = n := by omega
      go_wp2
      go_ret
      exact ⟨retI (idxI_none (fun j hj => HALL.out j (by have := HN.out; omega))).symm, hbel⟩

set_option maxRecDepth 100000 in
theorem containsF_any (g : Nat) (lb : Array Value) (eg : ∀ args w, (callFunc g args).run Tryd.prog w = .ok (.enter g args) w) (p : Int → Bool) (A : Option Addr) (n c : Nat) (xs : List Int) (w : World) (hn : xs.length = n) (hm : n ≤ 1048576) (hs : SlE i64 w A xs) (hp : PredI g lb p w) :
    Calls Tryd.prog 86 #[.slice A n c, .func (.func g) #[] lb] w fun e w' => e = .returned (.bool (xs.any p)) ∧ Below w.heap.size w w' := by
  have HA := Lib.hid (idxI_any p xs)
  have HN := Lib.hid hn
  have HS := Lib.hid hs
  have HP := Lib.hid hp
  clear hn hs hp
  go_enter Tryd.func86, Tryd.ntmps86
  go_wp2_with (go_at_call 113; refine (indexF_any g lb eg p A n c xs _ HN.out hm HS.out HP.out).mono ?_; rintro e w1 ⟨rfl, hb⟩)
  go_ret
  exact ⟨retB HA.out, hb⟩
end Go.Proofs.YtonnplaacebekaaDoor
