/- Words on memory: values of several cells in rows and blocks; steps of a region that draws its order. No program in sight. -/
import Derived.Test.YtjgflkoefimmoaaDoorBase
import Derived.Deep.MidRow
import Derived.Laws.ResultCell
import Derived.Deep.WholeRow
namespace Go.Proofs.YtjgflkoefimmoaaDoor
open Go Go.RowKit
set_option linter.unusedVariables false
set_option linter.unusedSimpArgs false

/-- From address a on lie these cells. -/
def RowV (w : World) (a : Addr) (vs : List Value) : Prop := ∀ i v, vs[i]? = some v → w.cell? (a.add i) = some v
theorem RowV.next {w w' : World} {a : Addr} {vs : List Value} (h : RowV w a vs) (hb : Below w.heap.size w w') : RowV w' a vs := by
  intro i v hv
  have hc := h i v hv
  rw [hb.cell (World.block_lt_of_cell? w _ hc)]; exact hc
theorem RowV.drewN {w : World} {a : Addr} {vs : List Value} (h : RowV w a vs) (q : Nat) : RowV (w.drewN q) a vs := h
theorem add_mid (b o j : Nat) : (⟨b, o, none⟩ : Addr).add j = ⟨b, o + j, none⟩ := by unfold Addr.add; split <;> simp_all
theorem add_addr (a : Addr) (i j : Nat) : (a.add i).add j = a.add (i + j) := by
  unfold Addr.add
  by_cases hi : i = 0 <;> by_cases hj : j = 0 <;> simp [hi, hj, Nat.add_assoc]

theorem Blk.rowV {w : World} {b : Nat} {t : TypeId} {vs : List Value} (h : Blk w b t vs) (o n : Nat) : RowV w ⟨b, o, none⟩ ((vs.drop o).take n) := by
  intro i v hv
  rw [add_mid]
  refine h.cell _ _ ?_
  rw [List.getElem?_take] at hv
  split at hv
  · rwa [List.getElem?_drop] at hv
  · cases hv
theorem Blk.range {w : World} {b : Nat} {t : TypeId} {vs : List Value} (h : Blk w b t vs) (o n : Nat) : w.rangeAt b o ((vs.drop o).take n) := fun i v hv => by
  have := h.rowV o n i v hv
  rwa [add_mid] at this
theorem Blk.range_of {w : World} {b : Nat} {t : TypeId} {vs : List Value} (h : Blk w b t vs) (o : Nat) (us : List Value) (hu : us <+: vs.drop o) : w.rangeAt b o us := fun i v hv => by
  obtain ⟨r, hr⟩ := hu
  have hi : i < us.length := (List.getElem?_eq_some_iff.1 hv).1
  refine h.cell _ _ ?_
  rw [← List.getElem?_drop, ← hr, List.getElem?_append_left hi]; exact hv
theorem Blk.there {w : World} {b : Nat} {t : TypeId} {vs : List Value} (h : Blk w b t vs) (o n : Nat) (hn : o + n ≤ vs.length) : w.there b o n := fun j hj => by
  refine ⟨?_, h.free _⟩
  rw [h.cell (o + j) vs[o + j] (List.getElem?_eq_getElem (by omega))]; rfl
theorem Blk.setCells {b : Nat} {t : TypeId} : ∀ (cs : List Value) (w : World) (vs : List Value) (o : Nat), Blk w b t vs → o + cs.length ≤ vs.length → Blk (w.setCells b o cs) b t (vs.take o ++ cs ++ vs.drop (o + cs.length))
  | [], w, vs, o, h, _ => by simpa [World.setCells] using h
  | c :: cs, w, vs, o, h, hl => by
    simp only [List.length_cons] at hl
    have h1 := Blk.setCells cs _ _ (o + 1) (h.set o c) (by simp; omega)
    have e : (vs.set o c).take (o + 1) ++ cs ++ (vs.set o c).drop (o + 1 + cs.length) = vs.take o ++ (c :: cs) ++ vs.drop (o + (c :: cs).length) := by
      apply List.ext_getElem?
      intro i
      simp only [List.getElem?_append, List.length_append, List.length_take, List.length_cons, List.length_set, List.getElem?_take, List.getElem?_drop, List.getElem?_set, List.getElem?_cons]
      have e1 : min (o + 1) vs.length = o + 1 := by omega
      have e2 : min o vs.length = o := by omega
      rw [e1, e2]
      by_cases a1 : i < o
      · have : i < o + 1 := by omega
        have a3 : i < o + 1 + cs.length := by omega
        have a4 : i < o + (cs.length + 1) := by omega
        simp [a1, this, a3, a4]; omega
      · by_cases a2 : i = o
        · subst a2
          have : i < vs.length := by omega
          simp [this]
          omega
        · by_cases a3 : i < o + 1 + cs.length
          · have b1 : ¬ i < o + 1 := by omega
            have b2 : i < o + (cs.length + 1) := by omega
            have b3 : i - o ≠ 0 := by omega
            simp [a1, b1, a3, b2, b3]; congr 1
          · have b1 : ¬ i < o + 1 := by omega
            have b2 : ¬ i < o + (cs.length + 1) := by omega
            simp [a1, b1, a3, b2]
            have b4 : ¬ o = o + 1 + cs.length + (i - (o + 1 + cs.length)) := by omega
            simp [b4]; congr 1; omega
    rw [e] at h1
    exact h1
theorem Blk.setCells_other {b g : Nat} {t : TypeId} : ∀ (cs : List Value) (w : World) (vs : List Value) (o : Nat), Blk w b t vs → b ≠ g → Blk (w.setCells g o cs) b t vs
  | [], w, vs, o, h, _ => h
  | c :: cs, w, vs, o, h, hne => Blk.setCells_other cs _ vs (o + 1) (h.other ⟨g, o, none⟩ c hne) hne
theorem below_setCells {B g : Nat} {a : World} : ∀ (cs : List Value) (w : World) (o : Nat), Below B a w → B ≤ g → Below B a (w.setCells g o cs)
  | [], w, o, h, _ => h
  | c :: cs, w, o, h, hg => below_setCells cs _ (o + 1) (h.setCell (by simpa using hg) c) hg

/-- A value of several cells is read. -/
theorem run_loadV {P : Program} (w : World) (ty : TypeId) (a : Addr) (vs : List Value) (d : TypeDesc) (h : RowV w a vs) (hu : P.underlying ty = some d) (hd : d.isRow = true) (hi : (P.info? ty).map (·.size) = some vs.length) :
    (loadVar ty a).run P w = .ok (.agg vs.toArray) w := by
  have hl : (loadCells a vs.length).run P w = .ok vs.toArray w := run_loadCells_list (P := P) w a vs h
  cases hq : P.info? ty with
  | none => simp [hq] at hi
  | some i =>
    have hs : i.size = vs.length := by simpa [hq] using hi
    have hagg : (isAgg ty).run P w = .ok true w := by
      unfold isAgg
      rw [Sem.run_bind, run_underlying hu w]
      cases d <;> simp_all
    simp [loadVar, Sem.run_bind, hagg, sizeOf, typeInfo, hq, hs, hl]
theorem wpList_loadV {P : Program} {ops : Array Oper} {rest : List Oper} {o : Oper} {a : Act} {w : World} {Q : Exit → Act → World → Prop} (hgd : o.guard = none) (ty : TypeId) (x : Operand) (ho : o.op = .load ty x)
    (p : Addr) (hx : a.eval x = .pointer (some p)) (vs : List Value) (d : TypeDesc) (hr : RowV w p vs) (hu : P.underlying ty = some d) (hd : d.isRow = true) (hi : (P.info? ty).map (·.size) = some vs.length)
    (h : wpList P ops Q rest (a.put o.dst (.agg vs.toArray)) w) : wpList P ops Q (o :: rest) a w :=
  wpList_plain hgd fun K hK => by
    unfold Oper.wp execOp
    simp only [ho, hx, Instr.loadAt, Instr.sureAddr, Sem.run_bind, Sem.run_pure, Result.andThen_ok, run_loadV w ty p vs d hr hu hd hi]
    exact hK _ _ h
theorem exec_loadV {P : Program} {o : Oper} {a : Act} {w : World} (ty : TypeId) (x : Operand) (ho : o.op = .load ty x) (p : Addr) (hx : a.eval x = .pointer (some p)) (vs : List Value) (d : TypeDesc) (hr : RowV w p vs)
    (hu : P.underlying ty = some d) (hd : d.isRow = true) (hi : (P.info? ty).map (·.size) = some vs.length) : (execOp a.eval o).run P w = .ok (.value (.agg vs.toArray)) w := by
  unfold execOp
  simp only [ho, hx, Instr.loadAt, Instr.sureAddr, Sem.run_bind, Sem.run_pure, Result.andThen_ok, run_loadV w ty p vs d hr hu hd hi]
/-- One cell is read. -/
theorem exec_load1 {P : Program} {o : Oper} {a : Act} {w : World} (ty : TypeId) (x : Operand) (ho : o.op = .load ty x) (p : Addr) (hx : a.eval x = .pointer (some p)) (v : Value) (hv : w.cell? p = some v) (d : TypeDesc)
    (hu : P.underlying ty = some d) (hd : d.isRow = false) : (execOp a.eval o).run P w = .ok (.value v) w := by
  have hagg : (isAgg ty).run P w = .ok false w := by
    unfold isAgg
    rw [Sem.run_bind, run_underlying hu w]
    cases d <;> simp_all
  unfold execOp
  simp [ho, hx, Instr.loadAt, Instr.sureAddr, Sem.run_bind, Sem.run_pure, Result.andThen_ok, loadVar, hagg, run_load, hv]
/-- The address of an element. -/
theorem exec_index {P : Program} {o : Oper} {a : Act} {w : World} (t : TypeId) (s x : Operand) (ho : o.op = .indexAddr t s x) (p : Addr) (n c : Nat) (hs : a.eval s = .slice (some p) n c) (k : IntKind) (i : Nat) (hx : a.eval x = .int k (i : Int)) (hi : i < n)
    (e : TypeId) (hu : P.underlying t = some (.slice e)) (z : Nat) (hz : (P.info? e).map (·.size) = some z) : (execOp a.eval o).run P w = .ok (.value (.pointer (some (p.add (i * z))))) w := by
  cases hq : P.info? e with
  | none => simp [hq] at hz
  | some ie =>
    have hsz : ie.size = z := by simpa [hq] using hz
    unfold execOp
    simp [ho, hs, hx, Instr.indexAt, asIntOf, Sem.run_bind, run_underlying hu, hi, sizeOf, typeInfo, hq, hsz]

/-- A row of the call's own, at its block. -/
theorem ownB {w : World} {base : Nat} {e : TypeId} {z g n c : Nat} {xs : List Value} (h : w.ownsRow base e z (.slice (some ⟨g, 0, none⟩) n c) n xs) : xs.length = n * z ∧ ∃ cs, Blk w g e (xs ++ cs) := by
  obtain ⟨hl, h⟩ := h
  refine ⟨hl, ?_⟩
  rcases h with ⟨h1, h2⟩ | ⟨g', cap, cur, h1, hg, hh, hc, hm, hs, ht⟩
  · cases h1
  · cases h1
    refine ⟨cur.toList.drop (n * z), ?_⟩
    unfold Blk
    rw [← ht, List.take_append_drop]
    simpa using hh

/-- What a store into block b has done: the block holds us now; nothing else has changed. -/
structure Stored (b : Nat) (t : TypeId) (us : List Value) (w w' : World) : Prop where
  blk : Blk w' b t us
  other : ∀ (b' : Nat) (t' : TypeId) (vs' : List Value), b' ≠ b → Blk w b' t' vs' → Blk w' b' t' vs'
  below : ∀ (B : Nat) (a : World), Below B a w → B ≤ b → Below B a w'
theorem wpList_store_blk {P : Program} {ops : Array Oper} {rest : List Oper} {o : Oper} {a : Act} {w : World} {Q : Exit → Act → World → Prop} (hgd : o.guard = none) (ty : TypeId) (x y : Operand) (ho : o.op = .store ty x y)
    (b off : Nat) (hx : a.eval x = .pointer (some ⟨b, off, none⟩)) (cs : List Value) (hy : a.eval y = .agg cs.toArray) (hi : (P.info? ty).map (·.size) = some cs.length) (h1 : cs.toArray.all (·.oneCell') = true)
    (t : TypeId) (vs : List Value) (hb : Blk w b t vs) (hfit : off + cs.length ≤ vs.length) (us : List Value) (hu : vs.take off ++ cs ++ vs.drop (off + cs.length) = us)
    (h : ∀ w', Stored b t us w w' → wpList P ops Q rest (a.put o.dst undef) w') : wpList P ops Q (o :: rest) a w := by
  refine wpList_store_mid hgd ty x y ho b off cs.toArray hx hy (by simpa using hb.there off cs.length hfit) (by simpa using hi) h1 (h _ ⟨?_, ?_, ?_⟩)
  · have := Blk.setCells cs _ _ off hb hfit
    rw [hu] at this
    simpa using this
  · intro b' t' vs' hne hb'
    exact Blk.setCells_other _ _ _ _ hb' hne
  · intro B a hb' hB
    exact below_setCells _ _ _ hb' hB
theorem stored_cell {w : World} {b : Nat} {t : TypeId} {vs : List Value} (h : Blk w b t vs) (i : Nat) (v : Value) : Stored b t (vs.set i v) w (w.setCell ⟨b, i, none⟩ v) :=
  ⟨h.set i v, fun b' t' vs' hne hb' => hb'.other _ _ hne, fun B a hb' hB => hb'.setCell (by simpa using hB) v⟩
end Go.Proofs.YtjgflkoefimmoaaDoor
