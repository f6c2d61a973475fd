/- Contracts: which of two lists of numbers comes first, by the reference. -/
import Derived.Test.YtonnplaacebekaaGreatDoorTabM
import Derived.Test.YtonnplaacebekaaGreatDoorGJ
namespace Go.Proofs.YtonnplaacebekaaGreatDoor
open Go Go.RowKit
set_option linter.unusedVariables false
set_option linter.unusedSimpArgs false

structure TlBd (t : Tl) : Prop where
  u0 : -1 ≤ t.u
  u1 : t.u ≤ 960000000
  c0 : 0 ≤ t.c
  c1 : t.c ≤ 1152921504606846976
  len : t.b.length ≤ 60
theorem pow_bd {n : Nat} (h : n ≤ 60) : (2 : Int) ^ n ≤ 1152921504606846976 := by
  have := Nat.pow_le_pow_right (n := 2) (by decide) h
  have e : (2 : Nat) ^ 60 = 1152921504606846976 := by decide
  rw [e] at this
  have h2 : ((2 ^ n : Nat) : Int) ≤ ((1152921504606846976 : Nat) : Int) := Int.ofNat_le.2 this
  rw [Int.natCast_pow] at h2
  exact h2
theorem partS_bd {N fr j : Nat} {s : Tl} (h : PartS N fr j s) (hN : N ≤ 60) : TlBd s := by
  rcases h with rfl | ⟨h1, h2, h3, h4, h5, _⟩
  · exact ⟨by decide, by decide, by decide, by decide, by decide⟩
  · have := pow_bd (n := N - 1 - fr) (by omega)
    have := Int.pow_pos (n := 2) (m := N - 1 - fr - j) (by decide)
    exact ⟨by omega, by omega, by omega, by omega, by omega⟩
theorem fin2_bd {N i : Nat} {s t : Tl} (h : Fin2 N i s t) (hN : N ≤ 60) : TlBd s := by
  rcases h with ⟨rfl, _⟩ | ⟨h1, h2, h3, h4, h5, _⟩
  · exact ⟨by decide, by decide, by decide, by decide, by decide⟩
  · have := pow_bd (n := N - 1 - i) (by omega)
    exact ⟨by omega, by omega, by omega, by omega, by omega⟩
theorem z0_bd : TlBd z0 := ⟨by decide, by decide, by decide, by decide, by decide⟩

theorem szSlI : (Tryz.prog.info? 42).map (·.size) = some 1 := by kernel_rfl
theorem rdI_cons (x : Int) (xs : List Int) (i : Nat) : rdI (x :: xs) (i + 1) = rdI xs i := rfl
theorem before_ne : ∀ (xs ys : List Int) (i : Nat), i < xs.length → i < ys.length → (∀ j, j < i → rdI xs j = rdI ys j) → rdI xs i ≠ rdI ys i → before xs ys = decide (rdI xs i < rdI ys i)
  | [], _, _, h, _, _, _ => by simp at h
  | _ :: _, [], _, _, h, _, _ => by simp at h
  | x :: xs, y :: ys, 0, _, _, _, hn => by
    rw [before, if_neg (show ¬ x = y from hn)]; rfl
  | x :: xs, y :: ys, i + 1, h1, h2, he, hn => by
    rw [before, if_pos (show x = y from he 0 (by omega))]
    exact before_ne xs ys i (by simpa using h1) (by simpa using h2) (fun j hj => by have := he (j + 1) (by omega); rwa [rdI_cons, rdI_cons] at this) (by rwa [rdI_cons, rdI_cons] at hn)
theorem before_end : ∀ (xs ys : List Int), (∀ j, j < xs.length → j < ys.length → rdI xs j = rdI ys j) → before xs ys = decide (xs.length < ys.length)
  | [], [], _ => rfl
  | [], y :: ys, _ => by rw [before]; simp
  | x :: xs, [], _ => by rw [before]; simp
  | x :: xs, y :: ys, h => by
    rw [before, if_pos (show x = y from h 0 (by simp) (by simp)), before_end xs ys (fun j h1 h2 => by have := h (j + 1) (by simpa using h1) (by simpa using h2); rwa [rdI_cons, rdI_cons] at this)]
    simp

def SameN (xs ys : List Int) (k : Nat) : Prop := ∀ j, j < k → rdI xs j = rdI ys j
end Go.Proofs.YtonnplaacebekaaGreatDoor
