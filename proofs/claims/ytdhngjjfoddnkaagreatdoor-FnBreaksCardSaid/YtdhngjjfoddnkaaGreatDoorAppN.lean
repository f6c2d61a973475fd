/- Appends of whole rows; a row and one element more in a region that draws its order. No program in sight. -/
import Derived.Test.YtdhngjjfoddnkaaGreatDoorGA
import Derived.Test.YtdhngjjfoddnkaaGreatDoorHelS
import Derived.Maps.AppendAt

namespace Go.Proofs.YtdhngjjfoddnkaaGreatDoor
open Go Go.RowKit
set_option linter.unusedVariables false
set_option linter.unusedSimpArgs false

theorem wpList_appN {P : Program} {ops : Array Oper} {rest : List Oper} {o : Oper} {a : Act} {Q : Exit → Act → World → Prop} (hgd : o.guard = none) (s x : Operand) (t : TypeId)
    (ho : o.op = .call { callee := .builtin .append, args := #[s, x], argTypes := #[t, t] }) {e : TypeId} {z : Value} {bytes : Nat} (E : El P t e z 1 bytes)
    (W : World) (base : Nat) (v : Value) (n : Nat) (xs : List Value) (hs : a.eval s = v) (hown : W.ownsRow base e 1 v n xs) (a0 : Addr) (m c : Nat) (news : List Value) (hx : a.eval x = .slice (some a0) m c) (hl : news.length = m)
    (hnews : ∀ j u, news[j]? = some u → W.cell? (a0.add j) = some u) (h1 : ∀ u ∈ news, u.oneCell' = true) (hn : n + m ≤ maxLen) (hbytes : (n + m) * bytes ≤ 140737488355328) (hbase : base ≤ W.heap.size)
    (h : ∀ v' w', w'.ownsRow base e 1 v' (n + m) (xs ++ news) → W.grownBy w' v.ownBlock → (v'.ownBlock = v.ownBlock ∨ ∃ g, W.heap.size ≤ g ∧ v'.ownBlock = some g) → wpList P ops Q rest (a.put o.dst v') w') : wpList P ops Q (o :: rest) a W := by
  obtain ⟨i, hi, hz, hsz, hby⟩ := info_parts E.info
  obtain ⟨v', w', hrun, r1, r2, _, r4⟩ := run_append_own_at (P := P) (w := W) base t o.type e i z 1 bytes E.under hi hz hsz hby E.cells (by omega) v n xs hown a0 m c news (by omega) hnews h1 hn hbytes hbase
  refine wpList_plain hgd fun K hK => ?_
  unfold Oper.wp
  simp [execOp, ho, resolve, invoke, builtin, hs, hx, hrun, Result.andThen]
  exact hK _ _ (h v' w' r1 r2 (r4.imp id fun e => ⟨_, Nat.le_refl _, e⟩))
section
variable {P : Program} {ops : Array Oper} {Q : Exit → Act → World → Prop} {a : Act} {w W : World} {B : Nat}
theorem wpOp_append {i : Nat} {o : Oper} (hi : ops[i]? = some o) (hgd : o.guard = none) (s x : Operand) (t : TypeId) (ho : o.op = .call { callee := .builtin .append, args := #[s, x], argTypes := #[t, t] }) {e : TypeId} {z : Value} {bytes : Nat} (E : El P t e z 1 bytes)
    (base : Nat) (v : Value) (n : Nat) (xs : List Value) (hs : a.eval s = v) (hown : w.ownsRow base e 1 v n xs) (a0 : Addr) (m c : Nat) (news : List Value) (hx : a.eval x = .slice (some a0) m c) (hl : news.length = m)
    (hnews : ∀ j u, news[j]? = some u → w.cell? (a0.add j) = some u) (h1 : ∀ u ∈ news, u.oneCell' = true) (hn : n + m ≤ maxLen) (hbytes : (n + m) * bytes ≤ 140737488355328) (hbase : base ≤ w.heap.size) {K : Act → World → Prop}
    (h : ∀ v' w', w'.ownsRow base e 1 v' (n + m) (xs ++ news) → w.grownBy w' v.ownBlock → K (a.put o.dst v') w') : wpOp P ops Q i K a w := by
  obtain ⟨ie, hie, hz, hsz, hby⟩ := info_parts E.info
  obtain ⟨v', w', hrun, r1, r2, _, _⟩ := run_append_own_at (P := P) (w := w) base t o.type e ie z 1 bytes E.under hie hz hsz hby E.cells (by omega) v n xs hown a0 m c news (by omega) hnews h1 hn hbytes hbase
  refine wpOp_step hi fun K' hK => ?_
  rw [if_pos (by simp [Region.wanted, hgd])]
  unfold Oper.wp
  simp [execOp, ho, resolve, invoke, builtin, hs, hx, hrun, Result.andThen]
  exact hK _ _ (h v' w' r1 r2)
theorem wpOp_val {i : Nat} {o : Oper} (hi : ops[i]? = some o) (hgd : o.guard = none) (v : Value) (w1 : World) (he : (execOp a.eval o).run P w = .ok (.value v) w1) {K : Act → World → Prop} (h : K (a.put o.dst v) w1) : wpOp P ops Q i K a w := by
  refine wpOp_step hi fun K' hK => ?_
  rw [if_pos (by simp [Region.wanted, hgd])]
  unfold Oper.wp
  rw [he, Oper.upon_value]
  exact hK _ _ h

/-- 'append(append([]T{}, path...), u)' whose parts come up in any order. -/
theorem heldS_path {S T : World → Prop} {fuel : Nat} {listed : Array Bool} {o1 o3 o5 o6 : Oper} (i1 i3 i5 i6 : Nat) (h1 : ops[i1]? = some o1) (h3 : ops[i3]? = some o3) (h5 : ops[i5]? = some o5) (h6 : ops[i6]? = some o6) (n15 : i1 ≠ i5) (n35 : i3 ≠ i5)
    (r0 : Region.ready .any ops listed = [i1, i5]) (rA : Region.ready .any ops (listed.setIfInBounds i1 true) = [i3, i5]) (rA1 : Region.ready .any ops ((listed.setIfInBounds i1 true).setIfInBounds i3 true) = [i5])
    (rA2 : Region.ready .any ops ((listed.setIfInBounds i1 true).setIfInBounds i5 true) = [i3]) (rB : Region.ready .any ops (listed.setIfInBounds i5 true) = [i1]) (r6 : Region.ready .any ops (((listed.setIfInBounds i1 true).setIfInBounds i3 true).setIfInBounds i5 true) = [i6])
    (g1 : o1.guard = none) (g3 : o3.guard = none) (g5 : o5.guard = none) (g6 : o6.guard = none) (s3 x3 s6 x6 : Operand) (t : TypeId)
    (ho3 : o3.op = .call { callee := .builtin .append, args := #[s3, x3], argTypes := #[t, t] }) (ho6 : o6.op = .call { callee := .builtin .append, args := #[s6, x6], argTypes := #[t, t] }) {e : TypeId} {z : Value} {bytes : Nat} (E : El P t e z 1 bytes)
    (u : Value) (hu : u.oneCell' = true)
    (e1 : ∀ w', (execOp a.eval o1).run P w' = .ok (.value (.slice (some ⟨w'.heap.size, 0, none⟩) 0 0)) (w'.alloc (.cells #[] e)))
    (e1' : ∀ p w', (execOp (a.put o5.dst p).eval o1).run P w' = .ok (.value (.slice (some ⟨w'.heap.size, 0, none⟩) 0 0)) (w'.alloc (.cells #[] e)))
    (e5 : ∀ w', (execOp a.eval o5).run P w' = .ok (.value (.slice (some ⟨w'.heap.size, 0, none⟩) 1 1)) (w'.alloc (.cells #[u] e)))
    (e51 : ∀ p w', (execOp (a.put o1.dst p).eval o5).run P w' = .ok (.value (.slice (some ⟨w'.heap.size, 0, none⟩) 1 1)) (w'.alloc (.cells #[u] e)))
    (e53 : ∀ p q w', (execOp ((a.put o1.dst p).put o3.dst q).eval o5).run P w' = .ok (.value (.slice (some ⟨w'.heap.size, 0, none⟩) 1 1)) (w'.alloc (.cells #[u] e)))
    (a0 : Addr) (m c : Nat) (news : List Value) (hl : news.length = m) (hnews : ∀ w', T w' → ∀ j v, news[j]? = some v → w'.cell? (a0.add j) = some v) (hone : ∀ v ∈ news, v.oneCell' = true)
    (v3s : ∀ p, (a.put o1.dst p).eval s3 = p) (v3x : ∀ p, (a.put o1.dst p).eval x3 = .slice (some a0) m c) (v3s' : ∀ p r, ((a.put o1.dst p).put o5.dst r).eval s3 = p) (v3x' : ∀ p r, ((a.put o1.dst p).put o5.dst r).eval x3 = .slice (some a0) m c)
    (v6s : ∀ p q r, (((a.put o1.dst p).put o3.dst q).put o5.dst r).eval s6 = q) (v6x : ∀ p q r, (((a.put o1.dst p).put o3.dst q).put o5.dst r).eval x6 = r)
    (c51 : ∀ p r, (a.put o5.dst r).put o1.dst p = (a.put o1.dst p).put o5.dst r) (c35 : ∀ p q r, ((a.put o1.dst p).put o5.dst r).put o3.dst q = ((a.put o1.dst p).put o3.dst q).put o5.dst r)
    (hm : m + 1 ≤ maxLen) (hbytes : (m + 1) * bytes ≤ 140737488355328) (hTS : ∀ w', T w' → S w') (hSz : ∀ w', T w' → B ≤ w'.heap.size) (hSa : ∀ w' o, T w' → T (w'.alloc o)) (hSg : ∀ (w1 w2 : World) (v : Value) (n : Nat) (xs : List Value), T w1 → w1.ownsRow B e 1 v n xs → w1.grownBy w2 v.ownBlock → T w2) (hS : T w)
    (h : ∀ p q r v' w', T w' → w'.ownsRow B e 1 v' (m + 1) (news ++ [u]) → wpAnyH P .any ops Q S fuel ((((listed.setIfInBounds i1 true).setIfInBounds i3 true).setIfInBounds i5 true).setIfInBounds i6 true) ((((a.put o1.dst p).put o3.dst q).put o5.dst r).put o6.dst v') w') :
    wpAnyH P .any ops Q S (fuel + 1 + 1 + 1 + 1) listed a w := by
  have hB := hSz _ hS
  -- the last append
  have last : ∀ (p q : Value) (b5 : Nat) (w2 : World), T w2 → w2.ownsRow B e 1 q m news → w2.cell? ⟨b5, 0, none⟩ = some u → B ≤ w2.heap.size →
      wpAnyH P .any ops Q S (fuel + 1) (((listed.setIfInBounds i1 true).setIfInBounds i3 true).setIfInBounds i5 true) (((a.put o1.dst p).put o3.dst q).put o5.dst (.slice (some ⟨b5, 0, none⟩) 1 1)) w2 := by
    intro p q b5 w2 hS2 hown hc5 hB2
    refine wpAnyH_all r6 (by simp) fun k hk => ?_
    obtain rfl := List.mem_singleton.1 hk
    refine wpOp_append h6 g6 s6 x6 t ho6 E B q m news (v6s _ _ _) hown ⟨b5, 0, none⟩ 1 1 [u] (v6x _ _ _) rfl (fun j v hj => ?_) (fun v hv => by simp at hv; subst hv; exact hu) hm hbytes hB2 fun v' w' ho hg => ?_
    · cases j with
      | zero => simp at hj; subst hj; simpa [Addr.add] using hc5
      | succ j => simp at hj
    · have hS' := hSg _ _ _ _ _ hS2 hown hg
      exact ⟨hTS _ hS', h _ _ _ v' w' hS' ho⟩
  have cellN : ∀ (w2 : World), (w2.alloc (.cells #[u] e)).cell? ⟨w2.heap.size, 0, none⟩ = some u := fun w2 => (Blk.new w2 e [u]).cell 0 u rfl
  have news0 : ([] : List Value) ++ news = news := rfl
  refine wpAnyH_all r0 (by simp) fun k hk => ?_
  simp only [List.mem_cons, List.not_mem_nil, or_false] at hk
  rcases hk with rfl | rfl
  · refine wpOp_val h1 g1 _ _ (e1 w) ?_
    have hS1 := hSa _ (.cells #[] e) hS
    have own1 := own_empty w w.heap.size rfl B e hB 1
    have hz1 : B ≤ (w.alloc (.cells #[] e)).heap.size := by simp; omega
    refine ⟨hTS _ hS1, ?_⟩
    generalize w.alloc (.cells #[] e) = W1 at *
    refine wpAnyH_all rA (by simp) fun k hk => ?_
    simp only [List.mem_cons, List.not_mem_nil, or_false] at hk
    rcases hk with rfl | rfl
    · refine wpOp_append h3 g3 s3 x3 t ho3 E B _ 0 [] (v3s _) own1 a0 m c news (v3x _) hl (hnews _ hS1) hone (by omega) (Nat.le_trans (Nat.mul_le_mul_right _ (by omega)) hbytes) hz1 fun q w2 ho hg => ?_
      rw [Nat.zero_add, news0] at ho
      have hS2 := hSg _ _ _ _ _ hS1 own1 hg
      have hz2 : B ≤ w2.heap.size := by obtain ⟨_, _, _, hgs, _⟩ := hg; omega
      refine ⟨hTS _ hS2, ?_⟩
      refine wpAnyH_all rA1 (by simp) fun k hk => ?_
      obtain rfl := List.mem_singleton.1 hk
      refine wpOp_val h5 g5 _ _ (e53 _ _ w2) ?_
      have hS3 := hSa _ (.cells #[u] e) hS2
      exact ⟨hTS _ hS3, last _ _ _ _ hS3 (ho.alloc _) (cellN w2) (by simp; omega)⟩
    · refine wpOp_val h5 g5 _ _ (e51 _ W1) ?_
      have hS2 := hSa _ (.cells #[u] e) hS1
      have own2 := own1.alloc (.cells #[u] e)
      have hb5 := Blk.new W1 e [u]
      have hlt : w.heap.size < W1.heap.size := (own1.lt w.heap.size rfl).2
      have hz2 : B ≤ (W1.alloc (.cells #[u] e)).heap.size := by simp; omega
      refine ⟨hTS _ hS2, ?_⟩
      refine wpAnyH_all rA2 (by simp) fun k hk => ?_
      obtain rfl := List.mem_singleton.1 hk
      refine wpOp_append h3 g3 s3 x3 t ho3 E B _ 0 [] (v3s' _ _) own2 a0 m c news (v3x' _ _) hl (hnews _ hS2) hone (by omega) (Nat.le_trans (Nat.mul_le_mul_right _ (by omega)) hbytes) hz2 fun q w2 ho hg => ?_
      rw [Nat.zero_add, news0] at ho
      have hS3 := hSg _ _ _ _ _ hS2 own2 hg
      have hz3 : B ≤ w2.heap.size := by obtain ⟨_, _, _, hgs, _⟩ := hg; omega
      refine ⟨hTS _ hS3, ?_⟩
      rw [c35, Array.setIfInBounds_comm true true n35.symm]
      exact last _ _ _ _ hS3 ho ((hb5.grown hg (by show some W1.heap.size ≠ some w.heap.size; intro e'; injection e' with e'; omega)).cell 0 u rfl) hz3
  · refine wpOp_val h5 g5 _ _ (e5 w) ?_
    have hS1 := hSa _ (.cells #[u] e) hS
    have hb5 := Blk.new w e [u]
    have hz1 : B ≤ (w.alloc (.cells #[u] e)).heap.size := by simp; omega
    have hsz1 : (w.alloc (.cells #[u] e)).heap.size = w.heap.size + 1 := by simp
    refine ⟨hTS _ hS1, ?_⟩
    generalize w.alloc (.cells #[u] e) = W1 at *
    refine wpAnyH_all rB (by simp) fun k hk => ?_
    obtain rfl := List.mem_singleton.1 hk
    refine wpOp_val h1 g1 _ _ (e1' _ W1) ?_
    have hS2 := hSa _ (.cells #[] e) hS1
    have own2 := own_empty W1 W1.heap.size rfl B e hz1 1
    have hb5' := hb5.alloc (.cells #[] e)
    have hz2 : B ≤ (W1.alloc (.cells #[] e)).heap.size := by simp; omega
    refine ⟨hTS _ hS2, ?_⟩
    rw [c51, ← Array.setIfInBounds_comm true true n15]
    refine wpAnyH_all rA2 (by simp) fun k hk => ?_
    obtain rfl := List.mem_singleton.1 hk
    refine wpOp_append h3 g3 s3 x3 t ho3 E B _ 0 [] (v3s' _ _) own2 a0 m c news (v3x' _ _) hl (hnews _ hS2) hone (by omega) (Nat.le_trans (Nat.mul_le_mul_right _ (by omega)) hbytes) hz2 fun q w2 ho hg => ?_
    rw [Nat.zero_add, news0] at ho
    have hS3 := hSg _ _ _ _ _ hS2 own2 hg
    have hz3 : B ≤ w2.heap.size := by obtain ⟨_, _, _, hgs, _⟩ := hg; omega
    refine ⟨hTS _ hS3, ?_⟩
    rw [c35, Array.setIfInBounds_comm true true n35.symm]
    exact last _ _ _ _ hS3 ho ((hb5'.grown hg (by show some w.heap.size ≠ some W1.heap.size; intro e'; injection e' with e'; omega)).cell 0 u rfl) hz3
theorem own_mono {w : World} {base base' : Nat} {e : TypeId} {size : Nat} {v : Value} {n : Nat} {xs : List Value} (h : w.ownsRow base e size v n xs) (hb : base' ≤ base) : w.ownsRow base' e size v n xs := by
  obtain ⟨h1, h2⟩ := h
  refine ⟨h1, h2.imp id ?_⟩
  rintro ⟨g, cap, cur, a, b, c⟩
  exact ⟨g, cap, cur, a, by omega, c⟩
/-- 'append(clone(row), u)': the call and the new slice side by side, then the append. -/
theorem held_clone_app {fuel : Nat} {listed : Array Bool} {oi oj ok : Oper} (i j k : Nat) (hi : ops[i]? = some oi) (hj : ops[j]? = some oj) (hk : ops[k]? = some ok) (hij : i ≠ j)
    (r0 : Region.ready .any ops listed = [i, j]) (rI : Region.ready .any ops (listed.setIfInBounds i true) = [j]) (rJ : Region.ready .any ops (listed.setIfInBounds j true) = [i]) (rK : Region.ready .any ops ((listed.setIfInBounds i true).setIfInBounds j true) = [k])
    (gi : oi.guard = none) (gj : oj.guard = none) (gk : ok.guard = none) (f : FuncId) (args : Array Value)
    (he0 : ∀ w', (execOp a.eval oi).run P w' = .ok (.enter f args) w') (he1 : ∀ p w', (execOp (a.put oj.dst p).eval oi).run P w' = .ok (.enter f args) w')
    (s x : Operand) (t : TypeId) (ho : ok.op = .call { callee := .builtin .append, args := #[s, x], argTypes := #[t, t] }) {e : TypeId} {z : Value} {bytes : Nat} (E : El P t e z 1 bytes) (u : Value) (hu : u.oneCell' = true)
    (ej0 : ∀ w', (execOp a.eval oj).run P w' = .ok (.value (.slice (some ⟨w'.heap.size, 0, none⟩) 1 1)) (w'.alloc (.cells #[u] e)))
    (ej1 : ∀ p w', (execOp (a.put oi.dst p).eval oj).run P w' = .ok (.value (.slice (some ⟨w'.heap.size, 0, none⟩) 1 1)) (w'.alloc (.cells #[u] e)))
    (evs : ∀ p q, ((a.put oi.dst p).put oj.dst q).eval s = p) (evx : ∀ p q, ((a.put oi.dst p).put oj.dst q).eval x = q) (cm : ∀ p q, (a.put oj.dst q).put oi.dst p = (a.put oi.dst p).put oj.dst q)
    (n : Nat) (xs : List Value) (hc : ∀ w', Below B W w' → Calls P f args w' fun e' w'' => ∃ v, e' = .returned v ∧ w''.ownsRow w'.heap.size e 1 v n xs ∧ Below w'.heap.size w' w'')
    (hn : n + 1 ≤ maxLen) (hbytes : (n + 1) * bytes ≤ 140737488355328) (hB : B ≤ w.heap.size) (hS : Below B W w)
    (h : ∀ p q v' w', Below B W w' → w'.ownsRow B e 1 v' (n + 1) (xs ++ [u]) → wpAnyH P .any ops Q (fun w' => Below B W w') fuel (((listed.setIfInBounds i true).setIfInBounds j true).setIfInBounds k true) (((a.put oi.dst p).put oj.dst q).put ok.dst v') w') :
    wpAnyH P .any ops Q (fun w' => Below B W w') (fuel + 1 + 1 + 1) listed a w := by
  have last : ∀ (p : Value) (b5 : Nat) (w2 : World), Below B W w2 → w2.ownsRow B e 1 p n xs → w2.cell? ⟨b5, 0, none⟩ = some u → B ≤ w2.heap.size →
      wpAnyH P .any ops Q (fun w' => Below B W w') (fuel + 1) ((listed.setIfInBounds i true).setIfInBounds j true) ((a.put oi.dst p).put oj.dst (.slice (some ⟨b5, 0, none⟩) 1 1)) w2 := by
    intro p b5 w2 hS2 hown hc5 hB2
    refine wpAnyH_all rK (by simp) fun q hq => ?_
    obtain rfl := List.mem_singleton.1 hq
    refine wpOp_append hk gk s x t ho E B p n xs (evs _ _) hown ⟨b5, 0, none⟩ 1 1 [u] (evx _ _) rfl (fun j v hj => ?_) (fun v hv => by simp at hv; subst hv; exact hu) hn hbytes hB2 fun v' w' ho' hg => ?_
    · cases j with
      | zero => simp at hj; subst hj; simpa [Addr.add] using hc5
      | succ j => simp at hj
    · have hS' := below_own hS2 hown hg (Nat.le_refl _) hB2
      exact ⟨hS', h _ _ v' w' hS' ho'⟩
  have hwi : ∀ y, Region.wanted oi y = true := fun y => by simp [Region.wanted, gi]
  refine wpAnyH_all r0 (by simp) fun q hq => ?_
  simp only [List.mem_cons, List.not_mem_nil, or_false] at hq
  rcases hq with rfl | rfl
  · refine wpOp_step hi fun K' hK => ?_
    rw [if_pos (hwi _)]
    unfold Oper.wp
    rw [he0, Oper.upon_enter]
    refine (hc w hS).mono ?_
    rintro e' w1 ⟨v, rfl, own, hb1⟩
    have hS1 := hS.trans (hb1.mono hB)
    have hz1 := hb1.size
    refine hK _ _ ⟨hS1, ?_⟩
    refine wpAnyH_all rI (by simp) fun q hq => ?_
    obtain rfl := List.mem_singleton.1 hq
    refine wpOp_val hj gj _ _ (ej1 _ w1) ?_
    have hS2 := hS1.alloc (show B ≤ w1.heap.size by omega) (.cells #[u] e)
    exact ⟨hS2, last _ _ _ hS2 ((own_mono own hB).alloc _) ((Blk.new w1 e [u]).cell 0 u rfl) (by simp; omega)⟩
  · refine wpOp_val hj gj _ _ (ej0 w) ?_
    have hS1 := hS.alloc hB (.cells #[u] e)
    have hb5 := Blk.new w e [u]
    have hz1 : B ≤ (w.alloc (.cells #[u] e)).heap.size := by simp; omega
    refine ⟨hS1, ?_⟩
    refine wpAnyH_all rJ (by simp) fun q hq => ?_
    obtain rfl := List.mem_singleton.1 hq
    refine wpOp_step hi fun K' hK => ?_
    rw [if_pos (hwi _)]
    unfold Oper.wp
    rw [he1, Oper.upon_enter]
    refine (hc _ hS1).mono ?_
    rintro e' w1 ⟨v, rfl, own, hb1⟩
    have hS2 := hS1.trans (hb1.mono hz1)
    have hz2 := hb1.size
    refine hK _ _ ⟨hS2, ?_⟩
    rw [cm, ← Array.setIfInBounds_comm true true hij]
    exact last _ _ _ hS2 (own_mono own hz1) ((hb5.next hb1).cell 0 u rfl) (by omega)
end
end Go.Proofs.YtdhngjjfoddnkaaGreatDoor
