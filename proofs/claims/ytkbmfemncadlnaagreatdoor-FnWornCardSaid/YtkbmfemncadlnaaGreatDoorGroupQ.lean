/- A queue of numbers in memory of the call's own: taken at its head, appended at its tail. -/
import Derived.Test.YtkbmfemncadlnaaGreatDoorGroupT
import Derived.ArgAppend
import Derived.Laws.IdiomCopy
import Derived.Lib.LazyBuf


namespace Go.Proofs.YtkbmfemncadlnaaGreatDoor
open Go Go.RowKit
set_option linter.unusedVariables false
set_option linter.unusedSimpArgs false

theorem elInts : El Tryz.prog 86 3 (.int .i64 0) 1 8 := ⟨Tryz.underlying86, by kernel_rfl, rfl, by decide⟩

/-- The slice v holds the numbers qs; it lies in a block from base on; its spare may be written. -/
structure Queue (w : World) (base : Nat) (v : Value) (qs : List Nat) : Prop where
  is : ∃ b off cap vs, v = .slice (some ⟨b, off, none⟩) qs.length cap ∧ base ≤ b ∧ Blk w b 3 vs ∧ off + cap ≤ vs.length ∧ qs.length ≤ cap ∧ cap ≤ maxLen ∧ ∀ j x, qs[j]? = some x → vs[off + j]? = some (.int .i64 ((x : Nat) : Int))
theorem Queue.next {w w' : World} {base : Nat} {v : Value} {qs : List Nat} (h : Queue w base v qs) (hb : Below w.heap.size w w') : Queue w' base v qs := by
  obtain ⟨b, off, cap, vs, h1, h2, h3, h4⟩ := h.is
  exact ⟨b, off, cap, vs, h1, h2, h3.next hb, h4⟩
theorem Queue.other {w : World} {base : Nat} {v : Value} {qs : List Nat} (h : Queue w base v qs) (a : Addr) (x : Value) (ha : a.block < base) : Queue (w.setCell a x) base v qs := by
  obtain ⟨b, off, cap, vs, h1, h2, h3, h4⟩ := h.is
  exact ⟨b, off, cap, vs, h1, h2, h3.other a x (by omega), h4⟩
theorem Queue.drewN {w : World} {base : Nat} {v : Value} {qs : List Nat} (h : Queue w base v qs) (q : Nat) : Queue (w.drewN q) base v qs := h.next ⟨rfl, rfl, rfl, Nat.le_refl _, fun _ _ => rfl⟩
theorem queue_own {w : World} {base : Nat} {v : Value} {n : Nat} {qs : List Nat} (hq : 0 < qs.length) (hn : qs.length = n) (h : w.ownsRow base 3 1 v n (qs.map fun x => Value.int .i64 ((x : Nat) : Int))) : Queue w base v qs := by
  obtain ⟨hl, h⟩ := h
  rcases h with ⟨_, rfl⟩ | ⟨g, cap, cur, rfl, hg, hh, hc, hm, hs, ht⟩
  · omega
  · refine ⟨g, 0, cap, cur.toList, by rw [hn], hg, by unfold Blk; simpa using hh, by rw [Array.length_toList, hs]; omega, by omega, hm, fun j x hx => ?_⟩
    have h1 : (qs.map fun x => Value.int .i64 ((x : Nat) : Int))[j]? = some (.int .i64 ((x : Nat) : Int)) := by rw [List.getElem?_map, hx]; rfl
    rw [← ht, List.getElem?_take] at h1
    split at h1
    · rw [Nat.zero_add]; exact h1
    · cases h1

/-- 'list = append(list, k)'. -/
theorem wpList_qapp {ops : Array Oper} {rest : List Oper} {o : Oper} {a : Act} {Q : Exit → Act → World → Prop} (hgd : o.guard = none) (s x : Operand)
    (ho : o.op = .call { callee := .builtin .append, args := #[s, x], argTypes := #[86, 86] })
    (W : World) (base : Nat) (v : Value) (qs : List Nat) (hs : a.eval s = v) (hq : Queue W base v qs) (k : Nat) (hx : a.eval x = .slice (some ⟨W.heap.size, 0, none⟩) 1 1) (hn : qs.length ≤ 1000000) (hbase : base ≤ W.heap.size)
    (h : ∀ v' w', Queue w' base v' (qs ++ [k]) → Below base W w' → wpList Tryz.prog ops Q rest (a.put o.dst v') w') : wpList Tryz.prog ops Q (o :: rest) a (W.alloc (.cells #[.int .i64 (k : Int)] 3)) := by
  obtain ⟨b, off, cap, vs, rfl, hb, hk, hcap, hle, hml, hv⟩ := hq.is
  obtain ⟨i, hi, hz, hsz, hby⟩ := info_parts elInts.info
  have hk' := hk.alloc (.cells #[.int .i64 (k : Int)] 3)
  have hlt := hk.lt
  refine wpList_append_arg _ hgd s x _ ho 3 i (.int .i64 0) 1 8 Tryz.underlying86 hi hz hsz hby rfl (by omega) b off qs.length cap (qs.map fun x => Value.int .i64 ((x : Nat) : Int)) hs (by simp) (fun j u hu => ?_) ⟨W.heap.size, 0, none⟩ 1 1 [.int .i64 (k : Int)] hx rfl (cell_one_new _ _ _) (fun y hy => by simp at hy; subst hy; rfl) (fun hr j hj => ?_) (by unfold maxLen; omega) (by omega) (fun hr => ?_) (fun hr v' w' ho' hg' => ?_)
  · rw [List.getElem?_map] at hu
    obtain ⟨y, hy, rfl⟩ := Option.map_eq_some_iff.1 hu
    exact hk'.cell (off + j) _ (hv j y hy)
  · simp at hj
    subst hj
    have hi : off + qs.length < vs.length := by omega
    rw [Nat.mul_one, Nat.add_zero]
    exact ⟨by rw [hk'.cell _ _ (List.getElem?_eq_getElem hi)]; rfl, hk'.free _⟩
  · rw [Nat.mul_one]
    refine h _ _ ⟨b, off, cap, vs.set (off + qs.length) (.int .i64 (k : Int)), by simp, hb, ?_, by simpa using hcap, by simp; omega, hml, fun j x hx => ?_⟩ ?_
    · exact hk'.set _ _
    · rw [List.getElem?_set]
      by_cases e : j = qs.length
      · subst e
        rw [if_pos rfl, if_pos (by omega)]
        simp at hx
        rw [hx]
      · rw [if_neg (by omega)]
        have hj : j < qs.length := by
          have := (List.getElem?_eq_some_iff.1 hx).1
          simp at this; omega
        rw [List.getElem?_append_left hj] at hx
        exact hv j x hx
    · exact ((Below.refl base W).alloc hbase _).setCell hb _
  · have hsz1 : base ≤ (W.alloc (.cells #[.int .i64 (k : Int)] 3)).heap.size := by rw [World.size_alloc]; omega
    refine h _ _ (queue_own (base := base) (n := qs.length + 1) (by simp) (by simp) ?_) ?_
    · rw [List.map_append]
      obtain ⟨ho1, ho2⟩ := ho'
      refine ⟨by simp, ?_⟩
      rcases ho2 with ⟨e1, e2⟩ | ⟨g, cap2, cur, e1, e2, e3⟩
      · exact .inl ⟨e1, e2⟩
      · exact .inr ⟨g, cap2, cur, e1, by omega, e3⟩
    · exact ((Below.refl base W).alloc hbase _).trans ⟨hg'.os, hg'.tape, hg'.output, hg'.size, fun q hq => hg'.block q (by omega) (by simp)⟩
end Go.Proofs.YtkbmfemncadlnaaGreatDoor
