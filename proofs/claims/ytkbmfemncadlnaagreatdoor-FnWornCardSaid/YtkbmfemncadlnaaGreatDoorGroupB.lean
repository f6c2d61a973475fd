/- The groups of hands by a queue, in plain lists. No program in sight. -/
import Derived.Test.YtkbmfemncadlnaaGreatDoorGroupP

namespace Go.Proofs.YtkbmfemncadlnaaGreatDoor
set_option linter.unusedVariables false
set_option linter.unusedSimpArgs false

section
variable {near : Nat → Nat → Bool} {n : Nat}
/-- While hand i's group is made by a queue qs: whoever has the group waits in the queue, or is near to no hand that has none. -/
structure Bfs (near : Nat → Nat → Bool) (n : Nat) (out : List Int) (i : Nat) (g : Int) (cur : List Int) (qs : List Nat) : Prop where
  making : Making near n out i g cur
  inq : ∀ q, q ∈ qs → q < n ∧ rdI cur q = g
  closed : ∀ a, a < n → rdI cur a = g → a ∈ qs ∨ ∀ b, b < n → rdI cur b < 0 → near a b = false
theorem Bfs.start {out : List Int} {i : Nat} {g : Int} (hl : out.length = n) (hi : i < n) (hg : ∀ b, b < n → rdI out b < g) : Bfs near n out i g (out.set i g) [i] := by
  refine ⟨Making.start hl hi, fun q hq => ?_, fun a ha h1 => ?_⟩
  · obtain rfl := List.mem_singleton.1 hq
    exact ⟨hi, (Making.start (near := near) hl hi).first⟩
  · left
    rw [rdI_set _ _ _ _ (by omega)] at h1
    by_cases e : a = i
    · simp [e]
    · rw [if_neg e] at h1
      have := hg a ha; omega
/-- Within the round of the queue's head q, the first k hands looked at. -/
structure BfsIn (near : Nat → Nat → Bool) (n : Nat) (out : List Int) (i : Nat) (g : Int) (cur : List Int) (q : Nat) (qs : List Nat) (k : Nat) : Prop where
  bfs : Bfs near n out i g cur (q :: qs)
  seen : ∀ b, b < k → rdI cur b < 0 → near q b = false
theorem BfsIn.start {out cur : List Int} {i q : Nat} {g : Int} {qs : List Nat} (h : Bfs near n out i g cur (q :: qs)) : BfsIn near n out i g cur q qs 0 := ⟨h, fun b hb => by omega⟩
theorem BfsIn.skip {out cur : List Int} {i q k : Nat} {g : Int} {qs : List Nat} (h : BfsIn near n out i g cur q qs k) (hk : rdI cur k < 0 → near q k = false) : BfsIn near n out i g cur q qs (k + 1) :=
  ⟨h.bfs, fun b hb => by
    rcases Nat.lt_succ_iff_lt_or_eq.1 hb with h1 | rfl
    · exact h.seen b h1
    · exact hk⟩
theorem BfsIn.add {out cur : List Int} {i q k : Nat} {g : Int} {qs : List Nat} (h : BfsIn near n out i g cur q qs k) (hg : ∀ b, b < n → rdI out b < g) (hg0 : 0 ≤ g) (hk : k < n) (hn : rdI cur k < 0) (hnear : near q k = true) : BfsIn near n out i g (cur.set k g) q (qs ++ [k]) (k + 1) := by
  obtain ⟨hq1, hq2⟩ := h.bfs.inq q (by simp)
  have hm := h.bfs.making.add hg hg0 hq1 hk hq2 hn hnear
  have hl := h.bfs.making.len
  have hset : ∀ b, rdI (cur.set k g) b = if b = k then g else rdI cur b := fun b => rdI_set _ _ _ _ (by omega)
  refine ⟨⟨hm, fun x hx => ?_, fun a ha h1 => ?_⟩, fun b hb hb0 => ?_⟩
  · have hx' : x ∈ q :: qs ∨ x = k := by
      simp at hx; rcases hx with e | e | e
      · left; simp [e]
      · left; simp [e]
      · right; exact e
    rw [hset]
    rcases hx' with e | rfl
    · have := h.bfs.inq x e
      by_cases e2 : x = k
      · exact ⟨this.1, by rw [if_pos e2]⟩
      · exact ⟨this.1, by rw [if_neg e2]; exact this.2⟩
    · exact ⟨hk, by rw [if_pos rfl]⟩
  · rw [hset] at h1
    by_cases e : a = k
    · left; simp [e]
    · rw [if_neg e] at h1
      rcases h.bfs.closed a ha h1 with e2 | e2
      · left; simp at e2 ⊢; rcases e2 with e3 | e3
        · exact .inl e3
        · exact .inr (.inl e3)
      · right
        intro b hb hb0
        rw [hset] at hb0
        by_cases e3 : b = k
        · rw [if_pos e3] at hb0; omega
        · rw [if_neg e3] at hb0; exact e2 b hb hb0
  · rw [hset] at hb0
    by_cases e3 : b = k
    · rw [if_pos e3] at hb0; omega
    · rw [if_neg e3] at hb0
      exact h.seen b (by omega) hb0
theorem BfsIn.done {out cur : List Int} {i q : Nat} {g : Int} {qs : List Nat} (h : BfsIn near n out i g cur q qs n) : Bfs near n out i g cur qs :=
  ⟨h.bfs.making, fun x hx => h.bfs.inq x (by simp [hx]), fun a ha h1 => by
    rcases h.bfs.closed a ha h1 with e | e
    · rcases List.mem_cons.1 e with e2 | e2
      · right; rw [e2]; exact h.seen
      · exact .inl e2
    · exact .inr e⟩
theorem Bfs.done {out cur : List Int} {i : Nat} {g : Int} (h : Bfs near n out i g cur []) (hi : i < n) (hg : ∀ b, b < n → rdI out b < g) (hg0 : 0 ≤ g) (hio : rdI out i < 0) : cur = grp1 near n out i g :=
  h.making.done hi hg hg0 hio fun a ha h1 b hb hb0 => by
    rcases h.closed a ha h1 with e | e
    · simp at e
    · exact e b hb hb0
end
end Go.Proofs.YtkbmfemncadlnaaGreatDoor
