/- Arguments of a law are opened: a face by value. Arguments of a law are opened: integers in arrays; and a law's post is closed. Arguments of a law are opened: slices of numbers. -/
import Derived.Test.YtnlnjpdnhdmndaaGreatDoorGC
import Derived.Deep.Slices
import Derived.Deep.Fields
import Derived.ChangeSame
import Derived.ProofKit
import Derived.OpenShut
import Derived.ShutString
import Derived.ChangeOld
import Derived.Test.YtnlnjpdnhdmndaaGreatDoorGA
import Derived.ChangeSlices
namespace Go.Proofs.YtnlnjpdnhdmndaaGreatDoor
open Go Go.RowKit Go.ChangeShapes Go.WideShapes Go.ChangeAt Go.Deep
set_option linter.unusedVariables false
set_option linter.unusedSimpArgs false
section
variable {H : Type} {enc : TypeId × Value → H} {P : Program} {w : World} {base : Nat} {spare : Nat → Bool} {held : Bool}
theorem open_slice_fields {t e : TypeId} {fs : Array Field} {fuel : Nat} {cs : List Value} {x : DataW H × List MemPlace} (ht : P.underlying t = some (.slice e)) (he : P.underlying e = some (.struct fs))
    (hone : oneCellFields P fs = true) (hC : P.cellsOf e = fs.size) (h : DataW.trod enc P w base spare held fuel t cs = some x) :
    (cs = [.slice none 0 0] ∧ x = (.nil, [])) ∨
    ∃ (a : Addr) (len cap m : Nat) (D : Nat → DataW H) (Pl : Nat → List MemPlace), cs = [.slice (some a) len cap] ∧ base ≤ a.block ∧ len ≤ cap ∧ cap ≤ maxLen ∧ m = (if spare a.block then cap else len) ∧
      x = (.slice ((List.range len).map D) ((List.range (m - len)).map fun j => D (len + j)), MemPlace.row a (m * fs.size) ++ (List.range m).flatMap Pl) ∧
      ∀ i, i < m → ∃ (ys : List (DataW H × List MemPlace)) (n : Nat), D i = .agg (ys.map (·.1)) ∧ Pl i = ys.flatMap (·.2) ∧ ys.length = fs.size ∧
        ∀ (j : Nat) (f : Field), fs[j]? = some f → ∃ (v : Value) (y : DataW H × List MemPlace), w.cell? (a.add (i * fs.size + j)) = some v ∧ ys[j]? = some y ∧ DataW.trod enc P w base spare held n f.type [v] = some y := by
  rcases open_slice ht h with h0 | ⟨a, len, cap, m, n, D, Pl, hcs, hb, hl, hm, hmm, hx, hi⟩
  · exact .inl h0
  · refine .inr ⟨a, len, cap, m, D, Pl, hcs, hb, hl, hm, hmm, by rw [hC] at hx; exact hx, fun i him => ?_⟩
    obtain ⟨cs', hc, ht'⟩ := hi i him
    rw [hC] at hc
    obtain ⟨ys, n', hn', hy, hlen, hyl, hf⟩ := DataW.trod_struct he ht'
    obtain ⟨_, hcl, hat⟩ := World.cells?_some hc
    simp only [Prod.mk.injEq] at hy
    refine ⟨ys, n', hy.1, hy.2, hyl, fun j f hj => ?_⟩
    obtain ⟨ho, hk⟩ := hone_of hone j f hj
    have hjl : j < fs.size := (Array.getElem?_eq_some_iff.1 hj).1
    have hcell := hat j hjl
    have hv : cs'[j]? = some (cs'[j]'(by omega)) := List.getElem?_eq_getElem (by omega)
    have h1 := hf j f hj
    rw [ho, hk] at h1
    have hone' : (cs'.drop j).take 1 = [cs'[j]'(by omega)] := by
      rw [List.drop_eq_getElem_cons (by omega)]
      rfl
    rw [hone'] at h1
    have hys : ys[j]? = some (ys[j]'(by omega)) := List.getElem?_eq_getElem (by omega)
    refine ⟨_, _, ?_, hys, h1.trans hys⟩
    rw [← Go.Deep.add_add, hcell, hv]

theorem trod_i8 {t : TypeId} {fuel : Nat} {cs : List Value} {x : DataW H × List MemPlace} (ht : P.underlying t = some (.int .i8)) (h : DataW.trod enc P w base spare held fuel t cs = some x) : ∃ n : Int, cs = [.int .i8 n] ∧ -128 ≤ n ∧ n ≤ 127 := by
  obtain ⟨n, hc, _, hw⟩ := DataW.trod_int ht h
  simp [Lit.wf, IntKind.min, IntKind.max, IntKind.bits, IntKind.signed] at hw
  exact ⟨n, hc, by omega, by omega⟩
theorem trod_u8 {t : TypeId} {fuel : Nat} {cs : List Value} {x : DataW H × List MemPlace} (ht : P.underlying t = some (.int .u8)) (h : DataW.trod enc P w base spare held fuel t cs = some x) : ∃ n : Int, cs = [.int .u8 n] ∧ 0 ≤ n ∧ n ≤ 255 := by
  obtain ⟨n, hc, _, hw⟩ := DataW.trod_int ht h
  simp [Lit.wf, IntKind.min, IntKind.max, IntKind.bits, IntKind.signed] at hw
  exact ⟨n, hc, by omega, by omega⟩
/-- An array of small integers. -/
theorem trod_i8s {t e : TypeId} {n fuel : Nat} {cs : List Value} {x : DataW H × List MemPlace} (ht : P.underlying t = some (.array n e)) (he : P.underlying e = some (.int .i8)) (hce : P.cellsOf e = 1) (hct : P.cellsOf t = n)
    (h : DataW.trod enc P w base spare held fuel t cs = some x) : ∃ xs : List Int, cs = xs.map i8v ∧ xs.length = n ∧ ∀ i, i < n → -128 ≤ rdI xs i ∧ rdI xs i ≤ 127 := by
  obtain ⟨ys, m, _, _, hl, hyl, hel⟩ := DataW.trod_array ht h
  have hl' : cs.length = n := by rw [← hct]; exact hl
  have hone : ∀ i, i < n → ∃ x : Int, cs[i]? = some (.int .i8 x) ∧ -128 ≤ x ∧ x ≤ 127 := by
    intro i hi
    have h1 := hel i hi
    rw [hce, Nat.mul_one] at h1
    have hcut : (cs.drop i).take 1 = [cs[i]'(by omega)] := by
      rw [List.drop_eq_getElem_cons (by omega)]; rfl
    rw [hcut, List.getElem?_eq_getElem (by omega)] at h1
    obtain ⟨x, hx, h2, h3⟩ := trod_i8 he h1
    refine ⟨x, ?_, h2, h3⟩
    rw [List.getElem?_eq_getElem (by omega)]
    simpa using hx
  obtain ⟨g, hg⟩ := choose_lt hone
  refine ⟨(List.range n).map g, ?_, by simp, fun i hi => ?_⟩
  · apply List.ext_getElem?
    intro i
    by_cases hi : i < n
    · rw [(hg i hi).1, List.getElem?_map, List.getElem?_map, List.getElem?_range hi]; rfl
    · rw [List.getElem?_eq_none (by omega), List.getElem?_eq_none (by simp; omega)]
  · have : rdI ((List.range n).map g) i = g i := by simp [rdI, List.getD, List.getElem?_map, List.getElem?_range hi]
    rw [this]
    exact (hg i hi).2
end
instance : Inhabited Pr := ⟨⟨0, 0, 0⟩⟩

set_option maxRecDepth 100000 in
/-- A face that came in. -/
theorem open_face {H : Type} {enc : TypeId × Value → H} {w : World} {base : Nat} {spare : Nat → Bool} {held : Bool} {r : Reach} {b0 : Nat} {v : Value} {d : DataW H} {p : List MemPlace}
    (hv : Value.okWide Tryz.prog w r b0 26 v) (h : DataW.Trod enc Tryz.prog w base spare held 26 v d p) :
    ∃ (f : Fc) (A : Option Addr) (c n : Nat), v = .agg (fcV f (.slice A n c)).toArray ∧ FcT f ∧ f.pairs.length = n ∧ n ≤ maxLen ∧ SlP w A f.pairs := by
  obtain ⟨cs, rfl, hsz⟩ := okWide_struct Tryz.underlying26 hv
  obtain ⟨l⟩ := cs
  obtain ⟨fuel, hf⟩ := h
  obtain ⟨xs, m, _, _, hcl, hlen, hg⟩ := DataW.trod_struct Tryz.underlying26 hf
  have hl : l.length = 29 := hcl
  have c26 : Tryz.prog.cellsOf 23 = 26 := by kernel_rfl
  have c8 : Tryz.prog.cellsOf 22 = 1 := by kernel_rfl
  have cS : Tryz.prog.cellsOf 24 = 1 := by kernel_rfl
  have g0 := hg 0 _ rfl
  have g1 := hg 1 _ rfl
  have g2 := hg 2 _ rfl
  have g3 := hg 3 _ rfl
  have hx : xs.length = 4 := hlen
  match xs, hx with
  | [y0, y1, y2, y3], _ =>
  have g0 : DataW.trod enc Tryz.prog w base spare held m 23 (l.take 26) = some y0 := by simpa [c26, Value.cells] using g0
  have g1 : DataW.trod enc Tryz.prog w base spare held m 22 ((l.drop 26).take 1) = some y1 := by simpa [c8, Value.cells] using g1
  have g2 : DataW.trod enc Tryz.prog w base spare held m 22 ((l.drop 27).take 1) = some y2 := by simpa [c8, Value.cells] using g2
  have g3 : DataW.trod enc Tryz.prog w base spare held m 24 ((l.drop 28).take 1) = some y3 := by simpa [cS, Value.cells] using g3
  obtain ⟨ws, hw1, hw2, hw3⟩ := trod_i8s Tryz.underlying23 Tryz.underlying22 c8 c26 g0
  obtain ⟨sp, hs1, hs2, hs3⟩ := trod_i8 Tryz.underlying22 g1
  obtain ⟨gp, hp1, hp2, hp3⟩ := trod_i8 Tryz.underlying22 g2
  have hL : ∀ S : Value, (l.drop 28).take 1 = [S] → l = ws.map i8v ++ [Value.int .i8 sp, Value.int .i8 gp, S] := by
    intro S hS
    have e1 : l = l.take 26 ++ ((l.drop 26).take 1 ++ ((l.drop 27).take 1 ++ (l.drop 28).take 1)) := by
      have a1 := List.take_append_drop 26 l
      have a2 : l.drop 26 = (l.drop 26).take 1 ++ l.drop 27 := by rw [← List.drop_drop (i := 1) (j := 26)]; exact (List.take_append_drop 1 _).symm
      have a3 : l.drop 27 = (l.drop 27).take 1 ++ l.drop 28 := by rw [← List.drop_drop (i := 1) (j := 27)]; exact (List.take_append_drop 1 _).symm
      have a4 : (l.drop 28).take 1 = l.drop 28 := List.take_of_length_le (by simp; omega)
      rw [a4, ← a3, ← a2, a1]
    rw [e1, hw1, hs1, hp1, hS]; rfl
  rcases open_slice_fields Tryz.underlying24 Tryz.underlying86 (by kernel_rfl) (by kernel_rfl) g3 with ⟨hcs, _⟩ | ⟨a, len, cap, k, D, Pl, hcs, _, hle, hmx, hk, _, hel⟩
  · refine ⟨⟨ws, sp, gp, []⟩, none, 0, 0, ?_, ⟨hw2, hw3, ⟨hs2, hs3⟩, ⟨hp2, hp3⟩, fun i hi => by simp at hi⟩, rfl, Nat.zero_le _, SlP.nil⟩
    rw [hL _ hcs]; rfl
  · have hlk : len ≤ k := by rw [hk]; split <;> omega
    have hone : ∀ i, i < len → ∃ q : Pr, PrT q ∧ RowV w (a.add (i * 3)) (prV q) := by
      intro i hi
      obtain ⟨ys, m', _, _, _, hfs⟩ := hel i (by omega)
      obtain ⟨v0, z0, hc0, _, ht0⟩ := hfs 0 _ rfl
      obtain ⟨v1, z1, hc1, _, ht1⟩ := hfs 1 _ rfl
      obtain ⟨v2, z2, hc2, _, ht2⟩ := hfs 2 _ rfl
      obtain ⟨q0, e0, r0, r0'⟩ := trod_u8 Tryz.underlying5 ht0
      obtain ⟨q1, e1, r1, r1'⟩ := trod_u8 Tryz.underlying5 ht1
      obtain ⟨q2, e2, r2, r2'⟩ := trod_i8 Tryz.underlying22 ht2
      simp only [List.cons.injEq, and_true] at e0 e1 e2
      subst e0 e1 e2
      refine ⟨⟨q0, q1, q2⟩, ⟨⟨r0, r0'⟩, ⟨r1, r1'⟩, ⟨r2, r2'⟩⟩, fun j u hu => ?_⟩
      rw [add_addr]
      have hj : j = 0 ∨ j = 1 ∨ j = 2 := by
        have := (List.getElem?_eq_some_iff.1 hu).1
        simp [prV] at this; omega
      rcases hj with rfl | rfl | rfl
      · simp [prV] at hu; subst hu; exact hc0
      · simp [prV] at hu; subst hu; exact hc1
      · simp [prV] at hu; subst hu; exact hc2
    obtain ⟨g, hg⟩ := choose_lt hone
    have hrd : ∀ i, i < len → rdP ((List.range len).map g) i = g i := fun i hi => by simp [rdP, List.getD, List.getElem?_map, List.getElem?_range hi]
    refine ⟨⟨ws, sp, gp, (List.range len).map g⟩, some a, cap, len, ?_, ⟨hw2, hw3, ⟨hs2, hs3⟩, ⟨hp2, hp3⟩, fun i hi => ?_⟩, by simp, by omega, fun i q hq => ?_⟩
    · rw [hL _ hcs]; rfl
    · have hi : i < len := by simpa using hi
      show PrT (rdP ((List.range len).map g) i)
      rw [hrd i hi]; exact (hg i hi).1
    · have hi : i < len := by have := (List.getElem?_eq_some_iff.1 hq).1; simpa using this
      have hq : ((List.range len).map g)[i]? = some q := hq
      rw [List.getElem?_map, List.getElem?_range hi] at hq
      obtain rfl : g i = q := by simpa using hq
      exact ⟨a, rfl, (hg i hi).2⟩
end Go.Proofs.YtnlnjpdnhdmndaaGreatDoor
namespace Go.Proofs.YtnlnjpdnhdmndaaGreatDoor
open Go Go.RowKit Go.ChangeShapes Go.WideShapes Go.ChangeAt
set_option linter.unusedVariables false
set_option linter.unusedSimpArgs false
section
variable {H : Type} {enc : TypeId × Value → H} {P : Program} {w : World} {base : Nat} {spare : Nat → Bool} {held : Bool}

theorem okWide_array {r : Reach} {b0 : Nat} {t e : TypeId} {n : Nat} {v : Value} (ht : P.underlying t = some (.array n e)) (h : Value.okWide P w r b0 t v) : ∃ cs, v = .agg cs ∧ cs.size = P.cellsOf t := by
  simp only [Value.okWide, ht] at h
  obtain ⟨cs, h1, h2, _⟩ := h
  exact ⟨cs, h1, h2⟩

/-- An array of integers by value: its numbers, each of its kind. -/
theorem open_arr {r : Reach} {b0 : Nat} {t e : TypeId} {n : Nat} {k : IntKind} {v : Value} {d : DataW H} {p : List MemPlace} (ht : P.underlying t = some (.array n e)) (he : P.underlying e = some (.int k)) (hce : P.cellsOf e = 1) (hct : P.cellsOf t = n)
    (hv : Value.okWide P w r b0 t v) (h : DataW.Trod enc P w base spare held t v d p) :
    ∃ xs : List Int, v = .agg (xs.map (Value.int k)).toArray ∧ xs.length = n ∧ ∀ x ∈ xs, (Lit.int k x).wf = true := by
  obtain ⟨cs, rfl, hsz⟩ := okWide_array ht hv
  obtain ⟨l⟩ := cs
  obtain ⟨fuel, hf⟩ := h
  obtain ⟨ys, m, _, _, hl, hyl, hel⟩ := DataW.trod_array ht hf
  have hl' : l.length = n := by rw [← hct]; simpa [Value.cells] using hl
  have hone : ∀ i, i < n → ∃ x : Int, l[i]? = some (.int k x) ∧ (Lit.int k x).wf = true := by
    intro i hi
    have h1 := hel i hi
    rw [hce, Nat.mul_one] at h1
    have hcut : (l.drop i).take 1 = [l[i]'(by omega)] := by
      rw [List.drop_eq_getElem_cons (by omega)]; rfl
    have h2 : DataW.trod enc P w base spare held m e [l[i]'(by omega)] = ys[i]? := by
      rw [← hcut]; exact h1
    rw [List.getElem?_eq_getElem (by omega)] at h2
    obtain ⟨x, hx, _, hw⟩ := DataW.trod_int he h2
    refine ⟨x, ?_, hw⟩
    rw [List.getElem?_eq_getElem (by omega)]
    simpa using hx
  let g : Value → Int := fun | .int _ x => x | _ => 0
  refine ⟨l.map g, ?_, by simpa using hl', ?_⟩
  · congr 2
    apply List.ext_getElem?
    intro i
    simp only [List.getElem?_map, Option.map_map]
    by_cases hi : i < n
    · obtain ⟨x, hx, _⟩ := hone i hi
      rw [hx]; rfl
    · rw [List.getElem?_eq_none (by omega)]; rfl
  · intro x hx
    obtain ⟨u, hu, rfl⟩ := List.mem_map.1 hx
    obtain ⟨i, hi, rfl⟩ := List.getElem_of_mem hu
    obtain ⟨x, hx', hw⟩ := hone i (by omega)
    rw [List.getElem?_eq_getElem hi] at hx'
    rw [Option.some.inj hx']
    exact hw
end

/-- A rubbing that came in: eight numbers of sixteen bits. -/
theorem open_rub {H : Type} {enc : TypeId × Value → H} {P : Program} {w : World} {base : Nat} {spare : Nat → Bool} {held : Bool} {r : Reach} {b0 : Nat} {t e : TypeId} {v : Value} {d : DataW H} {p : List MemPlace}
    (ht : P.underlying t = some (.array 8 e)) (he : P.underlying e = some (.int .u16)) (hce : P.cellsOf e = 1) (hct : P.cellsOf t = 8) (hv : Value.okWide P w r b0 t v) (h : DataW.Trod enc P w base spare held t v d p) :
    ∃ r : List Nat, v = .agg (r.map u16).toArray ∧ r.length = 8 ∧ ∀ k, rdN r k < 65536 := by
  obtain ⟨xs, rfl, hl, hw⟩ := open_arr ht he hce hct hv h
  have hb : ∀ x ∈ xs, 0 ≤ x ∧ x < 65536 := by
    intro x hx
    have := hw x hx
    simp [Lit.wf, IntKind.min, IntKind.max, IntKind.bits, IntKind.signed] at this
    omega
  refine ⟨xs.map Int.toNat, ?_, by simpa using hl, ?_⟩
  · congr 2
    rw [List.map_map]
    refine List.map_congr_left fun x hx => ?_
    have := hb x hx
    show Value.int .u16 x = Value.int .u16 ((x.toNat : Nat) : Int)
    rw [Int.toNat_of_nonneg this.1]
  · intro k
    unfold rdN
    rw [List.getD, List.getElem?_map]
    cases hq : xs[k]? with
    | none => simp
    | some x =>
      have := hb x (List.mem_of_getElem? hq)
      simp; omega
end Go.Proofs.YtnlnjpdnhdmndaaGreatDoor
namespace Go.Proofs.YtnlnjpdnhdmndaaGreatDoor
open Go Go.RowKit Go.ChangeShapes Go.WideShapes Go.ChangeAt
set_option linter.unusedVariables false
set_option linter.unusedSimpArgs false
/-- A slice of numbers that came in. -/
theorem open_i64s {H : Type} {enc : TypeId × Value → H} {P : Program} {w : World} {base : Nat} {spare : Nat → Bool} {held : Bool} {r : Reach} {b0 : Nat} {t e : TypeId} {v : Value} {d : DataW H} {p : List MemPlace}
    (ht : P.underlying t = some (.slice e)) (he : P.underlying e = some (.int .i64)) (hce : P.cellsOf e = 1) (hv : Value.okWide P w r b0 t v) (h : DataW.Trod enc P w base spare held t v d p) :
    ∃ (A : Option Addr) (c : Nat) (xs : List Int) (n : Nat), v = .slice A n c ∧ xs.length = n ∧ n ≤ maxLen ∧ SlE i64 w A xs := by
  obtain ⟨a0, len, cap, rfl⟩ := okWide_slice ht hv
  obtain ⟨fuel, hf⟩ := h
  rcases open_ints ht he hce hf with ⟨hcs, _⟩ | ⟨a, len', cap', zs, hcs, _, hl, hm, hz, _, hcell, _⟩
  · simp only [Value.cells] at hcs
    cases hcs
    exact ⟨none, 0, [], 0, rfl, rfl, Nat.zero_le _, SlE.nil⟩
  · simp only [Value.cells] at hcs
    cases hcs
    have hlz : len ≤ zs.length := by rw [hz]; split <;> omega
    refine ⟨some a, cap, zs.take len, len, rfl, by simp; omega, by omega, fun i x hx => ⟨a, rfl, ?_⟩⟩
    rw [List.getElem?_take] at hx
    split at hx
    · have hi : i < zs.length := (List.getElem?_eq_some_iff.1 hx).1
      have := hcell i hi
      rw [this]
      simp [List.getD, hx, i64]
    · cases hx
end Go.Proofs.YtnlnjpdnhdmndaaGreatDoor
