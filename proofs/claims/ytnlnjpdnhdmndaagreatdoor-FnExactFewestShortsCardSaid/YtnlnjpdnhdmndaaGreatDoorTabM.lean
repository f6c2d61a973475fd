/- How the words are broken best, in memory: a row of entries, each of a number, a slice of numbers and a number. No walk here. -/
import Derived.Test.YtnlnjpdnhdmndaaGreatDoorTabP
import Derived.Test.YtnlnjpdnhdmndaaGreatDoorGH
import Derived.Laws.AppendOwnNone

namespace Go.Proofs.YtnlnjpdnhdmndaaGreatDoor
open Go Go.RowKit
set_option linter.unusedVariables false
set_option linter.unusedSimpArgs false

/-- No row of numbers has changed. -/
structure KeepI (w w' : World) : Prop where
  size : w.heap.size ≤ w'.heap.size
  blk : ∀ b vs, Blk w b 2 vs → Blk w' b 2 vs
theorem KeepI.refl (w : World) : KeepI w w := ⟨Nat.le_refl _, fun _ _ h => h⟩
theorem KeepI.trans {a b c : World} (h : KeepI a b) (k : KeepI b c) : KeepI a c := ⟨Nat.le_trans h.size k.size, fun x vs hx => k.blk x vs (h.blk x vs hx)⟩
theorem KeepI.of_below {w w' : World} (h : Below w.heap.size w w') : KeepI w w' := ⟨h.size, fun b vs hb => hb.next h⟩
theorem KeepI.of_stored {w w' : World} {b : Nat} {t : TypeId} {vs us : List Value} (h : Stored b t us w w') (hb : Blk w b t vs) (ht : t ≠ 2) : KeepI w w' :=
  ⟨(h.below 0 w (Below.refl _ _) (Nat.zero_le _)).size, fun b' vs' hb' => h.other b' _ vs' (fun e => by
    subst e
    unfold Blk at hb hb'
    rw [hb] at hb'
    injection hb' with e
    injection e with _ e2 _
    exact ht e2) hb'⟩
theorem OwnS.keep {w w' : World} {lo hi hi' : Nat} {A : Option Addr} {xs : List Int} (h : OwnS w lo hi A xs) (k : KeepI w w') (hh : hi ≤ hi') : OwnS w' lo hi' A xs := fun hn => by
  obtain ⟨g, cs, e, h1, h2, h3⟩ := h hn
  exact ⟨g, cs, e, h1, by omega, k.blk _ _ h3⟩
theorem blk_ne {w : World} {b b' : Nat} {t t' : TypeId} {vs vs' : List Value} (h : Blk w b t vs) (h' : Blk w b' t' vs') (ht : t ≠ t') : b ≠ b' := fun e => by
  subst e
  unfold Blk at h h'
  rw [h] at h'
  injection h' with e
  injection e with _ e2 _
  exact ht e2

/-- The cells of an entry. -/
def tlV (t : Tl) (A : Option Addr) (c : Nat) : List Value := [.int .i64 t.u, .slice A t.b.length c, .int .i64 t.c]
theorem tlV_length (t : Tl) (A : Option Addr) (c : Nat) : (tlV t A c).length = 3 := rfl
theorem one_tl (t : Tl) (A : Option Addr) (c : Nat) : (tlV t A c).toArray.all (·.oneCell') = true := by simp [tlV, Value.oneCell']
/-- The breaks of an entry are in memory of the call's own. -/
def BrkAt (w : World) (lo : Nat) (t : Tl) (A : Option Addr) (c : Nat) : Prop := OwnS w lo w.heap.size A t.b ∧ t.b.length ≤ c ∧ (A = none → c = 0)
theorem BrkAt.nil (w : World) (lo : Nat) (u n : Int) : BrkAt w lo ⟨u, [], n⟩ none 0 := ⟨OwnS.nil, Nat.le_refl _, fun _ => rfl⟩
theorem BrkAt.lit (w : World) (lo : Nat) (u n : Int) (g c : Nat) : BrkAt w lo ⟨u, [], n⟩ (some ⟨g, 0, none⟩) c := ⟨OwnS.nil, Nat.zero_le _, fun h => by cases h⟩
theorem BrkAt.of_own {w : World} {lo : Nat} {v : Value} {n : Nat} {t : Tl} (h : w.ownsRow lo 2 1 v n (t.b.map i64)) : ∃ A c, v = .slice A t.b.length c ∧ BrkAt w lo t A c := by
  obtain ⟨A, c, e, hl, ho⟩ := OwnS.of_own h
  obtain ⟨A', c', e', hl', hc, _⟩ := SlE_own h
  rw [e] at e'
  cases e'
  refine ⟨A, c, e, ho, by omega, fun hA => ?_⟩
  subst hA
  rcases h.2 with ⟨h1, _⟩ | ⟨g, cap, cur, h1, _⟩
  · rw [e] at h1; injection h1
  · rw [e] at h1; injection h1 with h1; cases h1
theorem BrkAt.keep {w w' : World} {lo : Nat} {t : Tl} {A : Option Addr} {c : Nat} (h : BrkAt w lo t A c) (k : KeepI w w') : BrkAt w' lo t A c := ⟨h.1.keep k k.size, h.2⟩
theorem BrkAt.lo {w : World} {lo lo' : Nat} {t : Tl} {A : Option Addr} {c : Nat} (h : BrkAt w lo' t A c) (hl : lo ≤ lo') : BrkAt w lo t A c := ⟨ownS_lo h.1 hl, h.2⟩
/-- Entry i of a row. -/
def EntAt (w : World) (lo : Nat) (vs : List Value) (i : Nat) (t : Tl) : Prop :=
  ∃ A c, vs[i * 3]? = some (.int .i64 t.u) ∧ vs[i * 3 + 1]? = some (.slice A t.b.length c) ∧ vs[i * 3 + 2]? = some (.int .i64 t.c) ∧ BrkAt w lo t A c
theorem EntAt.keep {w w' : World} {lo : Nat} {vs : List Value} {i : Nat} {t : Tl} (h : EntAt w lo vs i t) (k : KeepI w w') : EntAt w' lo vs i t := by
  obtain ⟨A, c, h1, h2, h3, h4⟩ := h
  exact ⟨A, c, h1, h2, h3, h4.keep k⟩
theorem EntAt.same {w : World} {lo : Nat} {vs us : List Value} {i : Nat} {t : Tl} (h : EntAt w lo vs i t) (k : ∀ j, i * 3 ≤ j → j < i * 3 + 3 → us[j]? = vs[j]?) : EntAt w lo us i t := by
  obtain ⟨A, c, h1, h2, h3, h4⟩ := h
  exact ⟨A, c, by rw [k _ (by omega) (by omega)]; exact h1, by rw [k _ (by omega) (by omega)]; exact h2, by rw [k _ (by omega) (by omega)]; exact h3, h4⟩
/-- Block g holds the entries 0 .. N. -/
def TabAt (w : World) (lo : Nat) (ty : TypeId) (g N : Nat) (T : Nat → Tl) : Prop := ∃ vs, Blk w g ty vs ∧ 3 * (N + 1) ≤ vs.length ∧ ∀ i, i ≤ N → EntAt w lo vs i (T i)
theorem TabAt.next {w w' : World} {lo : Nat} {ty : TypeId} {g N : Nat} {T : Nat → Tl} (h : TabAt w lo ty g N T) (hb : Below w.heap.size w w') : TabAt w' lo ty g N T := by
  obtain ⟨vs, h1, h2, h3⟩ := h
  exact ⟨vs, h1.next hb, h2, fun i hi => (h3 i hi).keep (KeepI.of_below hb)⟩
theorem TabAt.other {w w' : World} {lo : Nat} {ty t : TypeId} {g N b : Nat} {T : Nat → Tl} {vs us : List Value} (h : TabAt w lo ty g N T) (hs : Stored b t us w w') (hb : Blk w b t vs) (ht : t ≠ 2) (hne : g ≠ b) : TabAt w' lo ty g N T := by
  obtain ⟨xs, h1, h2, h3⟩ := h
  exact ⟨xs, hs.other _ _ _ hne h1, h2, fun i hi => (h3 i hi).keep (KeepI.of_stored hs hb ht)⟩
theorem set3 {vs : List Value} {o : Nat} {a b c : Value} (h : o + 3 ≤ vs.length) : (vs.take o ++ [a, b, c] ++ vs.drop (o + 3)).length = vs.length ∧ (vs.take o ++ [a, b, c] ++ vs.drop (o + 3))[o]? = some a ∧ (vs.take o ++ [a, b, c] ++ vs.drop (o + 3))[o + 1]? = some b ∧ (vs.take o ++ [a, b, c] ++ vs.drop (o + 3))[o + 2]? = some c ∧
    ∀ j, (j < o ∨ o + 3 ≤ j) → (vs.take o ++ [a, b, c] ++ vs.drop (o + 3))[j]? = vs[j]? := by
  have hl : (vs.take o).length = o := by rw [List.length_take]; omega
  have hl2 : (vs.take o ++ [a, b, c]).length = o + 3 := by rw [List.length_append, hl]; rfl
  refine ⟨by rw [List.length_append, hl2, List.length_drop]; omega, ?_, ?_, ?_, fun j hj => ?_⟩
  · rw [List.getElem?_append_left (by omega), List.getElem?_append_right (by omega), hl, Nat.sub_self]; rfl
  · rw [List.getElem?_append_left (by omega), List.getElem?_append_right (by omega), hl, Nat.add_sub_cancel_left]; rfl
  · rw [List.getElem?_append_left (by omega), List.getElem?_append_right (by omega), hl, Nat.add_sub_cancel_left]; rfl
  · rcases hj with hj | hj
    · rw [List.getElem?_append_left (by omega), List.getElem?_append_left (by omega), List.getElem?_take_of_lt hj]
    · rw [List.getElem?_append_right (by omega), hl2, List.getElem?_drop]
      congr 1
      omega
/-- An entry is laid. -/
theorem TabAt.put {w w' : World} {lo : Nat} {ty : TypeId} {g N : Nat} {T : Nat → Tl} {vs : List Value} {i : Nat} {t : Tl} {A : Option Addr} {c : Nat} (hg : Blk w g ty vs) (hl : 3 * (N + 1) ≤ vs.length) (hT : ∀ i, i ≤ N → EntAt w lo vs i (T i)) (hi : i ≤ N) (hb : BrkAt w lo t A c) (ht : ty ≠ 2)
    (hs : Stored g ty (vs.take (i * 3) ++ tlV t A c ++ vs.drop (i * 3 + (tlV t A c).length)) w w') : TabAt w' lo ty g N (upd T i t) := by
  have k := KeepI.of_stored hs hg ht
  obtain ⟨q1, q2, q3, q4, q5⟩ := set3 (vs := vs) (o := i * 3) (a := .int .i64 t.u) (b := .slice A t.b.length c) (c := .int .i64 t.c) (by omega)
  refine ⟨_, hs.blk, by show _ ≤ (vs.take (i * 3) ++ [Value.int .i64 t.u, .slice A t.b.length c, .int .i64 t.c] ++ vs.drop (i * 3 + 3)).length; rw [q1]; exact hl, fun j hj => ?_⟩
  by_cases e : j = i
  · subst e
    rw [upd_same]
    exact ⟨A, c, q2, q3, q4, hb.keep k⟩
  · rw [upd_other e]
    exact ((hT j hj).keep k).same fun p h1 h2 => q5 p (by omega)
theorem TabAt.set {w w' : World} {lo : Nat} {ty : TypeId} {g N : Nat} {T : Nat → Tl} {vs : List Value} {i p : Nat} {t : Tl} {v : Value} (hg : Blk w g ty vs) (hl : 3 * (N + 1) ≤ vs.length) (hT : ∀ i, i ≤ N → EntAt w lo vs i (T i)) (hi : i ≤ N) (ht : ty ≠ 2) (h1 : i * 3 ≤ p) (h2 : p < i * 3 + 3)
    (hs : Stored g ty (vs.set p v) w w') (he : KeepI w w' → EntAt w' lo (vs.set p v) i t) : TabAt w' lo ty g N (upd T i t) := by
  have k := KeepI.of_stored hs hg ht
  refine ⟨_, hs.blk, by rw [List.length_set]; exact hl, fun j hj => ?_⟩
  by_cases e : j = i
  · subst e
    rw [upd_same]
    exact he k
  · rw [upd_other e]
    exact ((hT j hj).keep k).same fun q h3 h4 => by rw [List.getElem?_set_ne (by omega)]
theorem upd_upd (T : Nat → Tl) (i : Nat) (s t : Tl) : upd (upd T i s) i t = upd T i t := by
  funext j
  unfold upd
  split <;> rfl
theorem upd_self (T : Nat → Tl) (i : Nat) : upd T i (T i) = T := by
  funext j
  unfold upd
  split
  · rename_i h; rw [h]
  · rfl
/-- A row of zero entries. -/
theorem TabAt.made {w : World} {lo : Nat} {ty : TypeId} {g N : Nat} {cs : List Value} (h : Blk w g ty ((madeCells (Value.agg #[.int .i64 0, .slice none 0 0, .int .i64 0]).cells ((N + 1) * 3)).toList ++ cs)) : TabAt w lo ty g N (fun _ => z0) := by
  refine ⟨_, h, by rw [List.length_append]; simp [madeCells]; omega, fun i hi => ?_⟩
  have hat : ∀ k, k < 3 → ((madeCells (Value.agg #[.int .i64 0, .slice none 0 0, .int .i64 0]).cells ((N + 1) * 3)).toList ++ cs)[i * 3 + k]? = [Value.int .i64 0, .slice none 0 0, .int .i64 0][k]? := by
    intro k hk
    rw [List.getElem?_append_left (by simp [madeCells]; omega)]
    unfold madeCells
    rw [Array.getElem?_toList, Array.getElem?_map, Array.getElem?_range, if_pos (by omega)]
    have e : (i * 3 + k) % 3 = k := by omega
    show some ((#[Value.int .i64 0, .slice none 0 0, .int .i64 0] : Array Value)[(i * 3 + k) % 3]!) = _
    rw [e]
    match k, hk with
    | 0, _ => rfl
    | 1, _ => rfl
    | 2, _ => rfl
  exact ⟨none, 0, hat 0 (by omega), hat 1 (by omega), hat 2 (by omega), BrkAt.nil _ _ _ _⟩

/-! ### A store of one cell -/
theorem run_store_at {P : Program} (w : World) (ty : TypeId) (b o : Nat) (v : Value) (h1 : v.oneCell' = true) (hi : (P.info? ty).map (·.size) = some 1) (ht : w.there b o 1) : (Instr.storeAt ty (.pointer (some ⟨b, o, none⟩)) v).run P w = .ok () (w.setCells b o [v]) := by
  have hc : v.cells = #[v] := by cases v <;> first | rfl | (simp [Value.oneCell'] at h1)
  have := run_storeCells_cells (P := P) b o [v] 0 w (fun j hj => by simpa using (ht j (by simpa using hj)).1) (fun j hj => by simpa using (ht j (by simpa using hj)).2) (fun u hu => by simp at hu; subst hu; exact h1)
  cases hq : P.info? ty with
  | none => simp [hq] at hi
  | some i =>
    have hs : i.size = 1 := by simpa [hq] using hi
    simp only [Nat.add_zero] at this
    simp [Instr.storeAt, Instr.sureAddr, storeVar, sizeOf, typeInfo, hq, hc, hs, this]
theorem exec_store_at {P : Program} {o : Oper} {a : Act} {w : World} (ty : TypeId) (x y : Operand) (ho : o.op = .store ty x y) (b off : Nat) (hx : a.eval x = .pointer (some ⟨b, off, none⟩)) (v : Value) (hy : a.eval y = v) (h1 : v.oneCell' = true) (hi : (P.info? ty).map (·.size) = some 1) (ht : w.there b off 1) :
    (execOp a.eval o).run P w = .ok .skip (w.setCells b off [v]) := by
  unfold execOp
  simp only [ho, hx, hy, run_store_at w ty b off v h1 hi ht, Sem.run_bind, Sem.run_pure, Result.andThen_ok]
theorem stored_at {w : World} {b : Nat} {t : TypeId} {vs : List Value} (h : Blk w b t vs) (off : Nat) (v : Value) (hl : off < vs.length) : Stored b t (vs.set off v) w (w.setCells b off [v]) := stored_cell h off v
theorem stored3 {w : World} {b : Nat} {t : TypeId} {vs : List Value} (h : Blk w b t vs) (hl : vs.length = 3) (x y z : Value) : Stored b t [x, y, z] w (((w.setCell ⟨b, 0, none⟩ x).setCell ⟨b, 1, none⟩ y).setCell ⟨b, 2, none⟩ z) :=
  ⟨by
    have k := Blk.setCells [x, y, z] w vs 0 h (by simp; omega)
    have e : vs.take 0 ++ [x, y, z] ++ vs.drop (0 + [x, y, z].length) = [x, y, z] := by rw [List.drop_of_length_le (by simp; omega)]; simp
    rw [e] at k
    exact k, fun b' t' vs' hne hb' => Blk.setCells_other [x, y, z] w vs' 0 hb' hne, fun B a hb' hB => below_setCells [x, y, z] w 0 hb' hB⟩
/-- What has become of memory. -/
theorem wpList_store_at {P : Program} {ops : Array Oper} {rest : List Oper} {o : Oper} {a : Act} {w : World} {Q : Exit → Act → World → Prop} (hgd : o.guard = none) (ty : TypeId) (x y : Operand) (ho : o.op = .store ty x y)
    (b off : Nat) (hx : a.eval x = .pointer (some ⟨b, off, none⟩)) (v : Value) (hy : a.eval y = v) (h1 : v.oneCell' = true) (hi : (P.info? ty).map (·.size) = some 1) (t : TypeId) (vs : List Value) (hb : Blk w b t vs) (hl : off < vs.length) (us : List Value) (hu : vs.set off v = us)
    (h : ∀ w', Stored b t us w w' → wpList P ops Q rest (a.put o.dst undef) w') : wpList P ops Q (o :: rest) a w :=
  wpList_plain hgd fun K hK => by
    unfold Oper.wp
    rw [exec_store_at ty x y ho b off hx v hy h1 hi (hb.there off 1 (by omega)), Oper.upon_skip]
    refine hK _ _ (h _ ?_)
    rw [← hu]
    exact stored_at hb off v hl

/-- 'append([]int64{u}, xs...)'. -/
theorem wpList_cons1 {ops : Array Oper} {rest : List Oper} {o : Oper} {a : Act} {Q : Exit → Act → World → Prop} (hgd : o.guard = none) (s x : Operand)
    (ho : o.op = .call { callee := .builtin .append, args := #[s, x], argTypes := #[30, 30] }) (W : World) (b : Nat) (hb : b = W.heap.size) (u : Int) (A : Option Addr) (n c : Nat) (xs : List Int) (hn : xs.length = n) (hs : a.eval s = .slice (some ⟨b, 0, none⟩) 1 1)
    (hx : a.eval x = .slice A n c) (hA : A = none → c = 0) (hsl : SlE i64 W A xs) (hm : n ≤ 1048576)
    (h : ∀ v' w', w'.ownsRow W.heap.size 2 1 v' (1 + n) (i64 u :: xs.map i64) → Below W.heap.size W w' → wpList Tryz.prog ops Q rest (a.put o.dst v') w') :
    wpList Tryz.prog ops Q (o :: rest) a (W.alloc (.cells #[.int .i64 u] 2)) := by
  subst hb
  obtain ⟨i, hi, hz, hsz, hby⟩ := info_parts elI.info
  have hown : (W.alloc (.cells #[.int .i64 u] 2)).ownsRow W.heap.size 2 1 (.slice (some ⟨W.heap.size, 0, none⟩) 1 1) 1 [.int .i64 u] := World.ownsRow_lit W #[.int .i64 u] 1 (Nat.le_refl _) (by decide) rfl
  have hb1 := below_one W (.cells #[.int .i64 u] 2)
  cases A with
  | none =>
    have hx0 : xs = [] := by
      cases xs with
      | nil => rfl
      | cons y r => obtain ⟨p, e, _⟩ := hsl 0 y rfl; cases e
    subst hx0
    obtain rfl : n = 0 := hn.symm
    rw [hA rfl] at hx
    exact wpList_append_own_none hgd s x 30 ho W.heap.size 2 i 1 elI.under hi _ 1 _ hs hown hx (h _ _ hown hb1)
  | some p =>
    have hsl2 := hsl.next hb1
    refine wpList_append_own _ hgd s x 30 ho W.heap.size 2 i (.int .i64 0) 1 8 elI.under hi hz hsz hby elI.cells (by omega) _ 1 _ hs hown p n c (xs.map i64) hx (by rw [List.length_map, hn, Nat.mul_one]) (fun j u hu => by
      rw [List.getElem?_map] at hu
      cases hq : xs[j]? with
      | none => rw [hq] at hu; cases hu
      | some y =>
        rw [hq] at hu
        cases hu
        obtain ⟨q, e, hc⟩ := hsl2 j y hq
        cases e
        exact hc) (fun u hu => by obtain ⟨y, _, rfl⟩ := List.mem_map.1 hu; rfl) (by unfold maxLen; omega) (by omega) (by simp) ?_
    intro v' w' ho' hg' _
    exact h v' w' ho' (below_own hb1 hown hg' (Nat.le_refl _) (by simp))
end Go.Proofs.YtnlnjpdnhdmndaaGreatDoor
