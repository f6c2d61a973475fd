/- Shifts and what cutting again costs, plain. No walk here. Contract: the best shift, by the reference. Contracts: a number among numbers; what cutting again costs, by the reference. Contracts: the best shift, what cutting again costs, by the program. -/
import Derived.Test.YtpindajpdkpfjaaGreatDoorGP
import Derived.Test.YtpindajpdkpfjaaGreatDoorGO
import Derived.Test.YtpindajpdkpfjaaGreatDoorShH
import Derived.Laws.OwnMore
import Derived.BigRegion
namespace Go.Proofs.YtpindajpdkpfjaaGreatDoor
open Go Go.RowKit
set_option linter.unusedVariables false
set_option linter.unusedSimpArgs false

def bit1 (b : Bool) : Int := if b = true then 1 else 0
/-- How many of the first n are so. -/
def sumB (P : Nat → Bool) : Nat → Int
  | 0 => 0
  | n + 1 => sumB P n + bit1 (P n)
/-- How many pairs are so. -/
def sum2 (P : Nat → Nat → Bool) (m : Nat) : Nat → Int
  | 0 => 0
  | n + 1 => sum2 P m n + sumB (P n) m
theorem sum2_col (P : Nat → Nat → Bool) (m : Nat) : ∀ n, sum2 P (m + 1) n = sum2 P m n + sumB (fun i => P i m) n
  | 0 => rfl
  | n + 1 => by
    rw [sum2, sum2, sum2_col P m n, sumB, sumB]
    omega
theorem sum2_swap (P : Nat → Nat → Bool) (n : Nat) : ∀ m, sum2 P m n = sum2 (fun k i => P i k) n m
  | 0 => by
    have : ∀ n, sum2 P 0 n = 0 := by
      intro n
      induction n with
      | zero => rfl
      | succ n ih => rw [sum2, ih]; rfl
    rw [this]; rfl
  | m + 1 => by rw [sum2_col, sum2_swap P n m, sum2]
theorem sumB_range (P : Nat → Bool) : ∀ n, 0 ≤ sumB P n ∧ sumB P n ≤ n
  | 0 => ⟨Int.le_refl _, Int.le_refl _⟩
  | n + 1 => by
    have := sumB_range P n
    rw [sumB]
    unfold bit1
    split <;> omega
theorem sum2_range (P : Nat → Nat → Bool) (m : Nat) : ∀ n, 0 ≤ sum2 P m n ∧ sum2 P m n ≤ m * n
  | 0 => ⟨Int.le_refl _, by simp [sum2]⟩
  | n + 1 => by
    have h1 := sum2_range P m n
    have h2 := sumB_range (P n) m
    rw [sum2]
    have e : ((m : Int) * ((n + 1 : Nat) : Int)) = m * n + m := by push_cast; rw [Int.mul_add, Int.mul_one]
    omega
/-- Whether letter i of the old line and letter k of the new one are the same, and lie so far apart. -/
def ppB (x y : List UInt8) (a b : List Int) (s : Int) (i k : Nat) : Bool := byt x i == byt y k && rdI a i - rdI b k == s
theorem ppB_kb (x y : List UInt8) (a b : List Int) (s : Int) (k : Nat) : ∀ n, (∀ i j, i < j → j < n → rdI a i < rdI a j) → sumB (fun i => ppB x y a b s i k) n = bit1 (kbN x y a b s k n)
  | 0, _ => rfl
  | n + 1, h => by
    have ih := ppB_kb x y a b s k n (fun i j h1 h2 => h i j h1 (by omega))
    rw [sumB, ih, kbN]
    have e : ppB x y a b s n k = (byt x n == byt y k && rdI a n == rdI b k + s) := by
      unfold ppB
      congr 1
      rw [Bool.eq_iff_iff]
      simp only [beq_iff_eq]
      omega
    rw [e]
    cases h1 : (byt x n == byt y k && rdI a n == rdI b k + s)
    · simp [bit1]
    · have h2 : rdI a n = rdI b k + s := by
        rw [Bool.and_eq_true] at h1
        simpa using h1.2
      rw [kbN_none n (fun j hj => by have := h j n hj (by omega); omega)]
      simp [bit1]
theorem kpt_sum (x y : List UInt8) (a b : List Int) (s : Int) : ∀ m, ((kptN x y a b s m).length : Int) = sumB (fun k => kbN x y a b s k x.length) m
  | 0 => rfl
  | m + 1 => by
    rw [sumB, ← kpt_sum x y a b s m]
    cases h : kbN x y a b s m x.length
    · rw [kptN_no h]; simp [bit1]
    · rw [kptN_yes h]; simp [bit1]
/-- So many pairs, so many letters that are kept. -/
theorem pairs_kept {x y : List UInt8} {a b : List Int} (s : Int) (ha : ∀ i j, i < j → j < x.length → rdI a i < rdI a j) : sum2 (ppB x y a b s) y.length x.length = ((kptN x y a b s y.length).length : Int) := by
  rw [sum2_swap, kpt_sum]
  generalize y.length = m
  induction m with
  | zero => rfl
  | succ m ih => rw [sum2, sumB, ih, ppB_kb x y a b s m x.length ha]

/-- The shift with the most, of all up to t, by how many there are with each. -/
def bshA (st : Int × Int) (s n : Int) : Int × Int := if st.2 < n then (s, n) else st
def bsh (c : Int → Int) : Nat → Int × Int
  | 0 => (0, c 0)
  | t + 1 => bshA (bshA (bsh c t) ((t + 1 : Nat) : Int) (c ((t + 1 : Nat) : Int))) (-((t + 1 : Nat) : Int)) (c (-((t + 1 : Nat) : Int)))
theorem bshA_yes {st : Int × Int} {s n : Int} (h : st.2 < n) : bshA st s n = (s, n) := if_pos h
theorem bshA_no {st : Int × Int} {s n : Int} (h : ¬ st.2 < n) : bshA st s n = st := if_neg h
theorem bsh_at (c : Int → Int) : ∀ t, (bsh c t).2 = c (bsh c t).1 ∧ -(t : Int) ≤ (bsh c t).1 ∧ (bsh c t).1 ≤ t
  | 0 => ⟨rfl, by simp [bsh], by simp [bsh]⟩
  | t + 1 => by
    obtain ⟨h1, h2, h3⟩ := bsh_at c t
    have step : ∀ (st : Int × Int) (s : Int), st.2 = c st.1 → (bshA st s (c s)).2 = c (bshA st s (c s)).1 := by
      intro st s h
      unfold bshA
      split
      · rfl
      · exact h
    have rng : ∀ (st : Int × Int) (s n k : Int), -k ≤ st.1 ∧ st.1 ≤ k → -k ≤ s ∧ s ≤ k → -k ≤ (bshA st s n).1 ∧ (bshA st s n).1 ≤ k := by
      intro st s n k h1 h2
      unfold bshA
      split
      · exact h2
      · exact h1
    refine ⟨by rw [bsh]; exact step _ _ (step _ _ h1), ?_⟩
    rw [bsh]
    exact rng _ _ _ _ (rng _ _ _ _ (by push_cast; omega) (by push_cast; omega)) (by push_cast; omega)
def cntK (x y : List UInt8) (a b : List Int) (s : Int) : Int := ((kptN x y a b s y.length).length : Int)
theorem cntK_range (x y : List UInt8) (a b : List Int) (s : Int) : 0 ≤ cntK x y a b s ∧ cntK x y a b s ≤ y.length := by
  have := kptN_length x y a b s y.length
  unfold cntK; omega
/-- What cutting again costs, of the first k letters. -/
def rcS (f : Fc) (p : Pc) (x y : List UInt8) (a b : List Int) (s : Int) : Nat → Int
  | 0 => p.base + p.fill * ((x.length : Int) - cntK x y a b s)
  | k + 1 => if kbN x y a b s k x.length = true then rcS f p x y a b s k else rcS f p x y a b s k + letP f p (byt y k)
theorem rcS_yes {f : Fc} {p : Pc} {x y : List UInt8} {a b : List Int} {s : Int} {k : Nat} (h : kbN x y a b s k x.length = true) : rcS f p x y a b s (k + 1) = rcS f p x y a b s k := by rw [rcS, if_pos h]
theorem rcS_no {f : Fc} {p : Pc} {x y : List UInt8} {a b : List Int} {s : Int} {k : Nat} (h : kbN x y a b s k x.length = false) : rcS f p x y a b s (k + 1) = rcS f p x y a b s k + letP f p (byt y k) := by rw [rcS, if_neg (by rw [h]; simp)]
theorem kpt_mem (x y : List UInt8) (a b : List Int) (s : Int) : ∀ m k, k < m → (((k : Int) ∈ kptN x y a b s m) ↔ kbN x y a b s k x.length = true)
  | 0, k, h => absurd h (Nat.not_lt_zero _)
  | m + 1, k, h => by
    have out : ∀ m, ¬ ((m : Int) ∈ kptN x y a b s m) ∧ ∀ z ∈ kptN x y a b s m, 0 ≤ z ∧ z < m := by
      intro m
      induction m with
      | zero => exact ⟨by simp [kptN], by simp [kptN]⟩
      | succ m ih =>
        have hz : ∀ z ∈ kptN x y a b s (m + 1), 0 ≤ z ∧ z < ((m + 1 : Nat) : Int) := by
          intro z hz
          rw [kptN] at hz
          split at hz
          · rcases List.mem_append.1 hz with h1 | h1
            · have := ih.2 z h1; omega
            · obtain rfl := List.mem_singleton.1 h1; omega
          · have := ih.2 z hz; omega
        exact ⟨fun hh => by have := (hz _ hh).2; omega, hz⟩
    by_cases e : k = m
    · subst e
      cases hb : kbN x y a b s k x.length
      · rw [kptN_no hb]; simpa using (out k).1
      · rw [kptN_yes hb]; simp
    · have ih := kpt_mem x y a b s m k (by omega)
      cases hb : kbN x y a b s m x.length
      · rw [kptN_no hb]; exact ih
      · rw [kptN_yes hb, List.mem_append, List.mem_singleton]
        constructor
        · rintro (h1 | h1)
          · exact ih.1 h1
          · omega
        · exact fun h1 => .inl (ih.2 h1)
theorem rcS_range {f : Fc} {p : Pc} (hf : FcV f) (hp : PcV p) {x y : List UInt8} {a b : List Int} {s : Int} (hx : x.length ≤ 60) (hy : y.length ≤ 60) (hl : LL y) : ∀ k, k ≤ y.length → -60000 ≤ rcS f p x y a b s k ∧ rcS f p x y a b s k ≤ 61000 + 41000 * (k : Int)
  | 0, _ => by
    have h1 := cntK_range x y a b s
    have h2 := hp.base
    have h3 := hp.fill
    have h4 : p.fill * ((x.length : Int) - cntK x y a b s) ≤ 1000 * 60 := by
      rcases Int.le_total 0 ((x.length : Int) - cntK x y a b s) with h | h
      · calc p.fill * ((x.length : Int) - cntK x y a b s) ≤ 1000 * ((x.length : Int) - cntK x y a b s) := Int.mul_le_mul_of_nonneg_right h3.2 h
          _ ≤ 1000 * 60 := by omega
      · have := Int.mul_nonpos_of_nonneg_of_nonpos h3.1 h
        omega
    have h5 : -(1000 * 60) ≤ p.fill * ((x.length : Int) - cntK x y a b s) := by
      rcases Int.le_total 0 ((x.length : Int) - cntK x y a b s) with h | h
      · have := Int.mul_nonneg h3.1 h
        omega
      · have : p.fill * (cntK x y a b s - (x.length : Int)) ≤ 1000 * (cntK x y a b s - (x.length : Int)) := Int.mul_le_mul_of_nonneg_right h3.2 (by omega)
        have e : p.fill * ((x.length : Int) - cntK x y a b s) = -(p.fill * (cntK x y a b s - (x.length : Int))) := by rw [← Int.mul_neg]; congr 1; omega
        omega
    rw [rcS]; omega
  | k + 1, h => by
    have h1 := rcS_range hf hp hx hy hl (s := s) (a := a) (b := b) k (by omega)
    have h2 := letP_range hf hp (hl k (by omega))
    rw [rcS]
    split <;> omega
def rcC (f : Fc) (p : Pc) (o w : List UInt8) : Int := if validF f && pcOk p && vText o && vText w then 0 else 1
/-- What RecutPrice answers. -/
def rcR (f : Fc) (p : Pc) (o w : List UInt8) : Int × Int :=
  if rcC f p o w = 0 then (rcS f p (lets o) (lets w) (plW f o o.length) (plW f w w.length) (bsh (cntK (lets o) (lets w) (plW f o o.length) (plW f w w.length)) 400).1 (lets w).length, 0) else (0, 1)
theorem rcC_zero {f : Fc} {p : Pc} {o w : List UInt8} (h : rcC f p o w = 0) : validF f = true ∧ pcOk p = true ∧ vText o = true ∧ vText w = true := by
  unfold rcC at h
  split at h
  · rename_i hh
    simp only [Bool.and_eq_true] at hh
    exact ⟨hh.1.1.1, hh.1.1.2, hh.1.2, hh.2⟩
  · exact absurd h (by decide)
end Go.Proofs.YtpindajpdkpfjaaGreatDoor
namespace Go.Proofs.YtpindajpdkpfjaaGreatDoor
open Go Go.RowKit
set_option linter.unusedVariables false
set_option linter.unusedSimpArgs false

/-- How many pairs lie so far apart: of the first i letters with all, and of letter i with the first k. -/
def cnA (x y : List UInt8) (a b : List Int) (d : Int) (i k : Nat) : Int := sum2 (ppB x y a b d) y.length i + sumB (ppB x y a b d i) k
theorem cnA_row (x y : List UInt8) (a b : List Int) (d : Int) (i : Nat) : cnA x y a b d (i + 1) 0 = cnA x y a b d i y.length := by
  unfold cnA
  rw [sum2]; simp [sumB]
theorem cnA_same {x y : List UInt8} {a b : List Int} {d : Int} {i k : Nat} (h : ppB x y a b d i k = false) : cnA x y a b d i (k + 1) = cnA x y a b d i k := by
  unfold cnA
  rw [sumB, h]; simp [bit1]
theorem cnA_more {x y : List UInt8} {a b : List Int} {d : Int} {i k : Nat} (h : ppB x y a b d i k = true) : cnA x y a b d i (k + 1) = cnA x y a b d i k + 1 := by
  unfold cnA
  rw [sumB, h]; simp [bit1]; omega
theorem cnA_range (x y : List UInt8) (a b : List Int) (d : Int) (i k : Nat) : 0 ≤ cnA x y a b d i k ∧ cnA x y a b d i k ≤ y.length * i + k := by
  have h1 := sum2_range (ppB x y a b d) y.length i
  have h2 := sumB_range (ppB x y a b d i) k
  unfold cnA
  omega
/-- The row of counts. -/
def CnT (x y : List UInt8) (a b : List Int) (i k : Nat) (cs : List Int) : Prop := cs.length = 801 ∧ ∀ q : Nat, q < 801 → rdI cs q = cnA x y a b ((q : Int) - 400) i k
theorem CnT.zero (x y : List UInt8) (a b : List Int) : CnT x y a b 0 0 (List.replicate 801 0) := by
  refine ⟨List.length_replicate .., fun q hq => ?_⟩
  unfold rdI
  rw [List.getD, List.getElem?_replicate, if_pos hq]
  rfl
theorem CnT.row {x y : List UInt8} {a b : List Int} {i : Nat} {cs : List Int} (h : CnT x y a b i y.length cs) : CnT x y a b (i + 1) 0 cs := ⟨h.1, fun q hq => by rw [h.2 q hq, cnA_row]⟩
theorem CnT.same {x y : List UInt8} {a b : List Int} {i k : Nat} {cs : List Int} (h : CnT x y a b i k cs) (hn : (byt x i == byt y k) = false ∨ ¬ (-400 ≤ rdI a i - rdI b k ∧ rdI a i - rdI b k ≤ 400)) : CnT x y a b i (k + 1) cs := by
  refine ⟨h.1, fun q hq => ?_⟩
  rw [h.2 q hq, cnA_same]
  unfold ppB
  rcases hn with hn | hn
  · rw [hn]; rfl
  · have : (rdI a i - rdI b k == (q : Int) - 400) = false := by simp; omega
    rw [this, Bool.and_false]
theorem CnT.more {x y : List UInt8} {a b : List Int} {i k D : Nat} {cs : List Int} (h : CnT x y a b i k cs) (hb : (byt x i == byt y k) = true) (hD : ((D : Nat) : Int) = rdI a i - rdI b k + 400) (hl : D < 801) : CnT x y a b i (k + 1) (cs.set D (rdI cs D + 1)) := by
  refine ⟨by rw [List.length_set]; exact h.1, fun q hq => ?_⟩
  by_cases e : q = D
  · subst e
    rw [rdI_set _ (by rw [h.1]; exact hl), h.2 q hq, cnA_more]
    unfold ppB
    rw [hb, Bool.true_and]
    simp; omega
  · have e1 : rdI (cs.set D (rdI cs D + 1)) q = rdI cs q := by
      unfold rdI
      simp only [List.getD_eq_getElem?_getD]
      rw [List.getElem?_set_ne (fun h => e h.symm)]
    rw [e1, h.2 q hq, cnA_same]
    unfold ppB
    have : (rdI a i - rdI b k == (q : Int) - 400) = false := by simp; omega
    rw [this, Bool.and_false]
theorem CnT.done {x y : List UInt8} {a b : List Int} {cs : List Int} (h : CnT x y a b x.length 0 cs) (ha : ∀ i j, i < j → j < x.length → rdI a i < rdI a j) (q : Nat) (hq : q < 801) : rdI cs q = cntK x y a b ((q : Int) - 400) := by
  rw [h.2 q hq]
  unfold cnA cntK
  rw [pairs_kept _ ha, sumB, Int.add_zero]
theorem map_i64_at (l : List Int) (i : Nat) (hi : i < l.length) : (l.map i64)[i]? = some (.int .i64 (rdI l i)) := by
  simp [List.getElem?_map, List.getElem?_eq_getElem hi, i64, rdI]

theorem inS_at {n lo hi : Int} {b : Bool} (h : inB lo hi n = b) (w : World) : Calls Tryz.prog 40 #[.int .i64 n, .int .i64 lo, .int .i64 hi] w fun e w' => e = .returned (.bool b) ∧ Below w.heap.size w w' :=
  (inS_any _ _ _ _).mono fun e w' ⟨he, hw⟩ => ⟨by rw [he, h], by rw [← hw]; exact Below.refl _ _⟩
theorem szU8 : (Tryz.prog.info? 5).map (·.size) = some 1 := by kernel_rfl

attribute [local irreducible] wpQuiet in
set_option maxHeartbeats 4000000 in
set_option maxRecDepth 100000 in
theorem shift_spec (f : Fc) (n b0 : Nat) (o s : ByteArray) (w : World) (hf : FcT f) (hV : FcV f) (hn : f.pairs.length = n) (hm : n ≤ 1048576) (hos : o.size ≤ 1048576) (hs : s.size ≤ 1048576) (ho : vText (bs o) = true) (ht : vText (bs s) = true) (h : FcAt w b0 f n) (r : Int × Int)
    (hr : r = bsh (cntK (lets (bs o)) (lets (bs s)) (plW f (bs o) (bs o).length) (plW f (bs s) (bs s).length)) 400) :
    Calls Tryz.prog 28 #[.pointer (some ⟨b0, 0, none⟩), .string o, .string s] w fun e w' => e = .returned (.tuple #[.int .i64 r.1, .int .i64 r.2]) ∧ Below w.heap.size w w' := by
  have HF := Lib.hid hf
  have HVV := Lib.hid hV
  have HN := Lib.hid hn
  have HW1 := Lib.hid (ws_words ho)
  have HW2 := Lib.hid (ws_words ht)
  have HP1 := Lib.hid (plcA_words f ho)
  have HP2 := Lib.hid (plcA_words f ht)
  obtain ⟨Z, hZ⟩ : ∃ Z, Z = List.replicate 801 (0 : Int) := ⟨_, rfl⟩
  have HZZ := Lib.hid hZ
  have hk0 := Blk.new w 2 (Z.map i64)
  have hB0 := below_one w (.cells (Z.map i64).toArray 2)
  have HA := Lib.hid (h.next hB0)
  have HMD := Lib.hid (show madeCells #[Value.int .i64 0] 801 = (Z.map i64).toArray by
    have := toList_madeCells_one (.int .i64 0) 801
    rw [hZ, List.map_replicate]
    apply Array.toList_inj.1
    rw [this]
    simp [i64])
  have HR1 := Lib.hid (fun i hi => plW_bound hV (vText_ls ho) (vText_len60 ho) (i := i) hi)
  have HR2 := Lib.hid (fun i hi => plW_bound hV (vText_ls ht) (vText_len60 ht) (i := i) hi)
  have HRI := Lib.hid ((plW_rise hV (vText_ls ho) _ (Nat.le_refl _)).2)
  have HL1 := Lib.hid (plW_len f (bs o))
  have HL2 := Lib.hid (plW_len f (bs s))
  have hx60 : (lets (bs o)).length ≤ 60 := Nat.le_trans (lets_length _) (vText_len60 ho)
  have hy60 : (lets (bs s)).length ≤ 60 := Nat.le_trans (lets_length _) (vText_len60 ht)
  obtain ⟨x, hx⟩ : ∃ x, x = lets (bs o) := ⟨_, rfl⟩
  obtain ⟨y, hy⟩ : ∃ y, y = lets (bs s) := ⟨_, rfl⟩
  obtain ⟨p, hp⟩ : ∃ p, p = plW f (bs o) (bs o).length := ⟨_, rfl⟩
  obtain ⟨q, hq⟩ : ∃ q, q = plW f (bs s) (bs s).length := ⟨_, rfl⟩
  rw [← hx, ← hy, ← hp, ← hq] at hr
  have HRR := Lib.hid hr
  have HPL := Lib.hid (show p.length = x.length by rw [hp, hx]; exact HL1.out)
  have HQL := Lib.hid (show q.length = y.length by rw [hq, hy]; exact HL2.out)
  have HPR := Lib.hid (show ∀ i, i < p.length → 0 ≤ rdI p i ∧ rdI p i < 3600 by rw [hp]; exact HR1.out)
  have HQR := Lib.hid (show ∀ i, i < q.length → 0 ≤ rdI q i ∧ rdI q i < 3600 by rw [hq]; exact HR2.out)
  have HRS := Lib.hid (show ∀ i j, i < j → j < x.length → rdI p i < rdI p j by rw [← HPL.out, hp]; exact HRI.out)
  rw [← hx] at hx60
  rw [← hy] at hy60
  have HX := Lib.hid hx
  have HY := Lib.hid hy
  have HPP := Lib.hid hp
  have HQQ := Lib.hid hq
  have hz0 : (w.alloc (.cells (Z.map i64).toArray 2)).heap.size = w.heap.size + 1 := by simp
  clear hZ hf hV hn h ho ht hx hy hp hq HR1 HR2 HRI HL1 HL2 hr
  have hmk : (Instr.makeSlice 41 (.int .i64 801) (.int .i64 801)).run Tryz.prog w = .ok (.slice (some ⟨w.heap.size, 0, none⟩) 801 801) (w.alloc (.cells (Z.map i64).toArray 2)) := by
    rw [← HMD.out]; kernel_rfl
  go_enter Tryz.func28, Tryz.ntmps28
  go_wp2_with fail
  have HK0 := Lib.hid hk0
  clear hk0 hmk
  generalize w.alloc (.cells (Z.map i64).toArray 2) = w0 at *
  go_at_call 58
  refine (words_spec o _ hos).mono ?_
  rintro e w1 ⟨A1, c1, rfl, hc1, hb1, hsl1, hA1⟩
  go_wp2_with fail
  go_at_call 57
  refine (places_spec f n b0 A1 c1 (words (bs o)) w1 HF.out HVV.out HN.out hm HW1.out (HA.out.next hb1) hsl1).mono ?_
  rintro e w2 ⟨A2, c2, A2', c2', rfl, hb2, ho2, ho2'⟩
  rw [HP1.out] at ho2 ⊢
  have hB2 := below_step hb1 hb2
  have g1 := hb1.size
  have g2 := hb2.size
  clear hsl1 hA1 hc1 ho2' hb1 hb2
  go_wp2_with fail
  go_at_call 58
  refine (words_spec s _ hs).mono ?_
  rintro e w3 ⟨A3, c3, rfl, hc3, hb3, hsl3, hA3⟩
  have ho2 := ho2.next hb3
  have hB3 := below_step hB2 hb3
  go_wp2_with fail
  go_at_call 57
  refine (places_spec f n b0 A3 c3 (words (bs s)) w3 HF.out HVV.out HN.out hm HW2.out (HA.out.next hB3) hsl3).mono ?_
  rintro e w4 ⟨A4, c4, A4', c4', rfl, hb4, ho4, ho4'⟩
  rw [HP2.out] at ho4 ⊢
  have ho2 := ho2.next hb4
  have hB4 := below_step hB3 hb4
  have g3 := hb3.size
  have g4 := hb4.size
  clear hsl3 hA3 hc3 ho4' hb3 hb4 hB2 hB3
  go_wp2_with fail
  go_at_call 36
  refine (letters_spec o _ hos).mono ?_
  rintro e w5 ⟨A5, c5, rfl, hb5, ho5⟩
  have ho2 := ho2.next hb5
  have ho4 := ho4.next hb5
  have hB5 := below_step hB4 hb5
  have g5 := hb5.size
  clear hb5 hB4
  go_wp2_with fail
  go_at_call 36
  refine (letters_spec s _ hs).mono ?_
  rintro e w6 ⟨A6, c6, rfl, hb6, ho6⟩
  have ho2 := ho2.next hb6
  have ho4 := ho4.next hb6
  have ho5 := ho5.next hb6
  have hB6 := below_step hB5 hb6
  have g6 := hb6.size
  clear hb6 hB5
  have hBW := below_step hB0 hB6
  have HBW := Lib.hid hBW
  rw [← HX.out] at ho5 ⊢
  rw [← HY.out] at ho6 ⊢
  rw [← HPP.out] at ho2 ⊢
  rw [← HQQ.out] at ho4 ⊢
  have HO2 := Lib.hid (show OwnX 2 i64 w6 _ _ A2 p from ho2)
  have HO4 := Lib.hid (show OwnX 2 i64 w6 _ _ A4 q from ho4)
  have HO5 := Lib.hid ho5
  have HO6 := Lib.hid ho6
  have HK6 := Lib.hid (HK0.out.next hB6)
  have hpl := HPL.out
  have hql := HQL.out
  clear hBW hB0 ho2 ho4 ho5 ho6 hB6 hpl hql
  go_wp2
  have l1 : w.heap.size < w1.heap.size := by omega
  have l3 : w.heap.size < w3.heap.size := by omega
  have l4 : w.heap.size < w4.heap.size := by omega
  have l5 : w.heap.size < w5.heap.size := by omega
  have l6 : w.heap.size < w6.heap.size := by omega
  clear g1 g2 g3 g4 g5 g6 hz0
  go_loopw [15] (fun i wr => ∃ (k : Nat) (cs : List Int), k ≤ x.length ∧ i = .int .i64 k ∧ CnT x y p q k 0 cs ∧ Blk wr w.heap.size 2 (cs.map i64) ∧ w6.grownBy wr (some w.heap.size)) (fun i _ => x.length - (intOf i).toNat)
  case atStart => exact ⟨0, Z, by omega, rfl, by rw [HZZ.out]; exact CnT.zero _ _ _ _, HK6.out, grown_refl _ _⟩
  case round =>
    obtain ⟨i, cs, hi, rfl, hct, hblk, hgr⟩ := hrel
    by_cases hlt : i < x.length
    · have HCT := Lib.hid hct
      have HBK := Lib.hid hblk
      have HGR := Lib.hid hgr
      clear hct hblk hgr
      go_wp2
      go_loopw [16] (fun j wi => ∃ (k : Nat) (ds : List Int), k ≤ y.length ∧ j = .int .i64 k ∧ CnT x y p q i k ds ∧ Blk wi w.heap.size 2 (ds.map i64) ∧ w6.grownBy wi (some w.heap.size)) (fun j _ => y.length - (intOf j).toNat)
      case atStart => exact ⟨0, cs, by omega, rfl, HCT.out, HBK.out, HGR.out⟩
      case round =>
        obtain ⟨k, ds, hk, rfl, hct, hblk, hgr⟩ := hrel
        by_cases hlk : k < y.length
        · obtain ⟨a2, rfl, r2⟩ := (HO2.out.grown hgr (fun b e => by cases e; exact .inl (by omega))).sl.some i (by rw [HPL.out]; exact hlt)
          obtain ⟨a4, rfl, r4⟩ := (HO4.out.grown hgr (fun b e => by cases e; exact .inl (by omega))).sl.some k (by rw [HQL.out]; exact hlk)
          obtain ⟨a5, rfl, r5⟩ := (HO5.out.grown hgr (fun b e => by cases e; exact .inl (by omega))).sl.some i hlt
          obtain ⟨a6, rfl, r6⟩ := (HO6.out.grown hgr (fun b e => by cases e; exact .inl (by omega))).sl.some k hlk
          have k2 := r2.atI64 i (by rw [HPL.out]; exact hlt)
          have k4 := r4.atI64 k (by rw [HQL.out]; exact hlk)
          have hpi := HPR.out i (by rw [HPL.out]; exact hlt)
          have hqk := HQR.out k (by rw [HQL.out]; exact hlk)
          have hpl : i < p.length := by rw [HPL.out]; exact hlt
          have hql : k < q.length := by rw [HQL.out]; exact hlk
          have hsub : IntKind.i64.wrap (rdI p i - rdI q k) = rdI p i - rdI q k := IntWalk.i64_in _ (by omega)
          have hd : Below wr.heap.size wr wr.drew := below_drewN (Below.refl wr.heap.size wr) 1
          have HCT := Lib.hid hct
          have HBK := Lib.hid (hblk.next hd)
          have HGR := Lib.hid (grownBy_trans hgr (grown_none hd _))
          have R5 := Lib.hid (r5.next hd)
          have R6 := Lib.hid (r6.next hd)
          clear hct hblk hgr r2 r4 r5 r6 hd
          go_wp2
          go_region
          generalize World.drew wr = wd at *
          clear k2 k4 hsub
          cases hbe : (byt x i == byt y k)
          · have HX2 := Lib.hid (HCT.out.same (.inl hbe))
            have HBE := Lib.hid hbe
            clear hbe
            go_wp2
            refine region_below (wd.heap.size) (by kernel_rfl) (by kernel_rfl) ?_
            refine below_run (by kernel_rfl) (.slice (some a5) x.length c5) (fun w' hw' => by kernel_rfl) ?_
            refine below_run (by kernel_rfl) (.int .i64 i) (fun w' hw' => by kernel_rfl) ?_
            refine below_run (by kernel_rfl) (.pointer (some (Addr.add a5 (i * 1)))) (fun w' hw' => exec_index 22 (.tmp 63) (.tmp 64) rfl a5 x.length c5 (by kernel_rfl) .i64 i (by kernel_rfl) hlt 5 Tryz.underlying22 1 szU8) ?_
            refine below_run (by kernel_rfl) (.int .u8 (byt x i)) (fun w' hw' => exec_load1 5 (.tmp 65) rfl (a5.add (i * 1)) (by kernel_rfl) (.int .u8 (byt x i)) (by rw [Nat.mul_one]; exact (R5.out.next hw').atB i hlt) _ Tryz.underlying5 rfl) ?_
            refine below_run (by kernel_rfl) (.slice (some a6) y.length c6) (fun w' hw' => by kernel_rfl) ?_
            refine below_run (by kernel_rfl) (.int .i64 k) (fun w' hw' => by kernel_rfl) ?_
            refine below_run (by kernel_rfl) (.pointer (some (Addr.add a6 (k * 1)))) (fun w' hw' => exec_index 22 (.tmp 67) (.tmp 68) rfl a6 y.length c6 (by kernel_rfl) .i64 k (by kernel_rfl) hlk 5 Tryz.underlying22 1 szU8) ?_
            refine below_run (by kernel_rfl) (.int .u8 (byt y k)) (fun w' hw' => exec_load1 5 (.tmp 69) rfl (a6.add (k * 1)) (by kernel_rfl) (.int .u8 (byt y k)) (by rw [Nat.mul_one]; exact (R6.out.next hw').atB k hlk) _ Tryz.underlying5 rfl) ?_
            refine below_run (by kernel_rfl) (.bool false) (fun w' hw' => Eq.trans (show (execOp _ _).run _ w' = .ok (.value (.bool (byt x i == byt y k))) w' by kernel_rfl) (by rw [HBE.out])) ?_
            refine below_run (by kernel_rfl) (.bool false) (fun w' hw' => by kernel_rfl) ?_
            refine BigFrame.wpQuiet_skip (by kernel_rfl) ?_
            refine BigFrame.wpQuiet_skip (by kernel_rfl) ?_
            refine below_run (by kernel_rfl) (.bool false) (fun w' hw' => by kernel_rfl) ?_
            refine wpQuiet_nil ?_
            intro W3 hW3
            simp only [Act.put, List.setIfInBounds_toArray, List.set_cons_succ, List.set_cons_zero]
            go_wp2
            go_roundw
            case rel => exact ⟨k + 1, ds, by omega, by go_num, HX2.out, HBK.out.next hW3, grownBy_trans HGR.out (grown_none hW3 _)⟩
            case measure => simp [intOf]; omega
          · have HBE := Lib.hid hbe
            cases hin : inB (-400) 400 (rdI p i - rdI q k)
            · have HX2 := Lib.hid (HCT.out.same (.inr (by have := inB_not.1 hin; exact this)))
              have HIN := Lib.hid hin
              clear hbe hin
              go_wp2
              refine region_below (wd.heap.size) (by kernel_rfl) (by kernel_rfl) ?_
              refine below_run (by kernel_rfl) (.slice (some a5) x.length c5) (fun w' hw' => by kernel_rfl) ?_
              refine below_run (by kernel_rfl) (.int .i64 i) (fun w' hw' => by kernel_rfl) ?_
              refine below_run (by kernel_rfl) (.pointer (some (Addr.add a5 (i * 1)))) (fun w' hw' => exec_index 22 (.tmp 63) (.tmp 64) rfl a5 x.length c5 (by kernel_rfl) .i64 i (by kernel_rfl) hlt 5 Tryz.underlying22 1 szU8) ?_
              refine below_run (by kernel_rfl) (.int .u8 (byt x i)) (fun w' hw' => exec_load1 5 (.tmp 65) rfl (a5.add (i * 1)) (by kernel_rfl) (.int .u8 (byt x i)) (by rw [Nat.mul_one]; exact (R5.out.next hw').atB i hlt) _ Tryz.underlying5 rfl) ?_
              refine below_run (by kernel_rfl) (.slice (some a6) y.length c6) (fun w' hw' => by kernel_rfl) ?_
              refine below_run (by kernel_rfl) (.int .i64 k) (fun w' hw' => by kernel_rfl) ?_
              refine below_run (by kernel_rfl) (.pointer (some (Addr.add a6 (k * 1)))) (fun w' hw' => exec_index 22 (.tmp 67) (.tmp 68) rfl a6 y.length c6 (by kernel_rfl) .i64 k (by kernel_rfl) hlk 5 Tryz.underlying22 1 szU8) ?_
              refine below_run (by kernel_rfl) (.int .u8 (byt y k)) (fun w' hw' => exec_load1 5 (.tmp 69) rfl (a6.add (k * 1)) (by kernel_rfl) (.int .u8 (byt y k)) (by rw [Nat.mul_one]; exact (R6.out.next hw').atB k hlk) _ Tryz.underlying5 rfl) ?_
              refine below_run (by kernel_rfl) (.bool true) (fun w' hw' => Eq.trans (show (execOp _ _).run _ w' = .ok (.value (.bool (byt x i == byt y k))) w' by kernel_rfl) (by rw [HBE.out])) ?_
              refine below_run (by kernel_rfl) (.bool true) (fun w' hw' => by kernel_rfl) ?_
              refine below_run (by kernel_rfl) (.int .i64 (rdI p i - rdI q k)) (fun w' hw' => by kernel_rfl) ?_
              refine below_call (by kernel_rfl) 40 #[.int .i64 (rdI p i - rdI q k), .int .i64 (-400), .int .i64 400] (.bool false) (fun w' => by kernel_rfl) (fun w' hw' => (inS_at HIN.out w').mono fun e w1 ⟨he, hb1⟩ => ⟨he, below_step hw' hb1⟩) ?_
              refine below_run (by kernel_rfl) (.bool false) (fun w' hw' => by kernel_rfl) ?_
              refine wpQuiet_nil ?_
              intro W3 hW3
              simp only [Act.put, List.setIfInBounds_toArray, List.set_cons_succ, List.set_cons_zero]
              go_wp2
              go_roundw
              case rel => exact ⟨k + 1, ds, by omega, by go_num, HX2.out, HBK.out.next hW3, grownBy_trans HGR.out (grown_none hW3 _)⟩
              case measure => simp [intOf]; omega
            · obtain ⟨i1, i2⟩ := inB_iff.1 hin
              obtain ⟨D, hD⟩ : ∃ D : Nat, ((D : Nat) : Int) = rdI p i - rdI q k + 400 := ⟨(rdI p i - rdI q k + 400).toNat, by omega⟩
              have hDl : D < 801 := by omega
              have HX2 := Lib.hid (HCT.out.more hbe hD hDl)
              have HIN := Lib.hid hin
              have hadd : IntKind.i64.wrap (rdI p i - rdI q k + 400) = (D : Int) := by rw [hD]; exact IntWalk.i64_in _ (by omega)
              clear hbe hin i1 i2 hD
              go_wp2
              refine region_below (wd.heap.size) (by kernel_rfl) (by kernel_rfl) ?_
              refine below_run (by kernel_rfl) (.slice (some a5) x.length c5) (fun w' hw' => by kernel_rfl) ?_
              refine below_run (by kernel_rfl) (.int .i64 i) (fun w' hw' => by kernel_rfl) ?_
              refine below_run (by kernel_rfl) (.pointer (some (Addr.add a5 (i * 1)))) (fun w' hw' => exec_index 22 (.tmp 63) (.tmp 64) rfl a5 x.length c5 (by kernel_rfl) .i64 i (by kernel_rfl) hlt 5 Tryz.underlying22 1 szU8) ?_
              refine below_run (by kernel_rfl) (.int .u8 (byt x i)) (fun w' hw' => exec_load1 5 (.tmp 65) rfl (a5.add (i * 1)) (by kernel_rfl) (.int .u8 (byt x i)) (by rw [Nat.mul_one]; exact (R5.out.next hw').atB i hlt) _ Tryz.underlying5 rfl) ?_
              refine below_run (by kernel_rfl) (.slice (some a6) y.length c6) (fun w' hw' => by kernel_rfl) ?_
              refine below_run (by kernel_rfl) (.int .i64 k) (fun w' hw' => by kernel_rfl) ?_
              refine below_run (by kernel_rfl) (.pointer (some (Addr.add a6 (k * 1)))) (fun w' hw' => exec_index 22 (.tmp 67) (.tmp 68) rfl a6 y.length c6 (by kernel_rfl) .i64 k (by kernel_rfl) hlk 5 Tryz.underlying22 1 szU8) ?_
              refine below_run (by kernel_rfl) (.int .u8 (byt y k)) (fun w' hw' => exec_load1 5 (.tmp 69) rfl (a6.add (k * 1)) (by kernel_rfl) (.int .u8 (byt y k)) (by rw [Nat.mul_one]; exact (R6.out.next hw').atB k hlk) _ Tryz.underlying5 rfl) ?_
              refine below_run (by kernel_rfl) (.bool true) (fun w' hw' => Eq.trans (show (execOp _ _).run _ w' = .ok (.value (.bool (byt x i == byt y k))) w' by kernel_rfl) (by rw [HBE.out])) ?_
              refine below_run (by kernel_rfl) (.bool true) (fun w' hw' => by kernel_rfl) ?_
              refine below_run (by kernel_rfl) (.int .i64 (rdI p i - rdI q k)) (fun w' hw' => by kernel_rfl) ?_
              refine below_call (by kernel_rfl) 40 #[.int .i64 (rdI p i - rdI q k), .int .i64 (-400), .int .i64 400] (.bool true) (fun w' => by kernel_rfl) (fun w' hw' => (inS_at HIN.out w').mono fun e w1 ⟨he, hb1⟩ => ⟨he, below_step hw' hb1⟩) ?_
              refine below_run (by kernel_rfl) (.bool true) (fun w' hw' => by kernel_rfl) ?_
              refine wpQuiet_nil ?_
              intro W3 hW3
              simp only [Act.put, List.setIfInBounds_toArray, List.set_cons_succ, List.set_cons_zero]
              have hb3 := HBK.out.next hW3
              have hlen := HCT.out.1
              have hcr := cnA_range x y p q ((D : Int) - 400) i k
              rw [← HCT.out.2 D hDl] at hcr
              have hyi : (y.length : Int) * i ≤ 60 * 60 := by
                have h1 : (y.length : Int) * i ≤ 60 * i := Int.mul_le_mul_of_nonneg_right (by omega) (by omega)
                omega
              have hcl := hb3.cell D _ (map_i64_at ds D (by omega))
              have hfr := hb3.free D
              have hst : IntKind.i64.wrap (rdI ds D + 1) = rdI ds D + 1 := IntWalk.i64_in _ (by omega)
              have HB4 := Lib.hid (show Blk (W3.setCell ⟨w.heap.size, D, none⟩ (.int .i64 (rdI ds D + 1))) w.heap.size 2 ((ds.set D (rdI ds D + 1)).map i64) by rw [List.map_set]; exact hb3.set D _)
              have HG4 := Lib.hid (grownBy_trans (grownBy_trans HGR.out (grown_none hW3 _)) (grown_set (grown_refl W3 (some w.heap.size)) D (.int .i64 (rdI ds D + 1))))
              clear hb3 hcr hyi hW3
              go_wp2
              go_roundw
              case rel => exact ⟨k + 1, _, by omega, by go_num, HX2.out, HB4.out, HG4.out⟩
              case measure => simp [intOf]; omega
        · obtain rfl : k = y.length := by omega
          go_wp2
          go_roundw
          case rel => exact ⟨i + 1, ds, by omega, by go_num, hct.row, hblk, hgr⟩
          case measure => simp [intOf]; omega
    · obtain rfl : i = x.length := by omega
      have HDN := Lib.hid (fun q hq => hct.done HRS.out q hq)
      have hlen := hct.1
      have hc4 := hblk.cell 400 _ (map_i64_at cs 400 (by omega))
      have HB := Lib.hid hblk
      have HG := Lib.hid hgr
      clear hct hblk hgr
      have HBF := Lib.hid (below_grownK HBW.out HG.out (Nat.le_refl _) (by omega))
      obtain ⟨cf, hcf⟩ : ∃ cf, cf = cntK x y p q := ⟨_, rfl⟩
      have HD2 := Lib.hid (show ∀ q, q < 801 → rdI cs q = cf ((q : Int) - 400) by rw [hcf]; exact HDN.out)
      have HR2 := Lib.hid (show r = bsh cf 400 by rw [hcf]; exact HRR.out)
      have HC0 := Lib.hid (show bsh cf 0 = (0, rdI cs 400) by rw [HD2.out 400 (by omega)]; rfl)
      clear hcf HDN HRR
      go_wp2
      clear hc4
      generalize wr = wz at *
      go_loopw [18, 19, 20] (fun b m j wi => ∃ t T : Nat, T = t + 1 ∧ T ≤ 401 ∧ j = .int .i64 (T : Int) ∧ b = .int .i64 (bsh cf t).1 ∧ m = .int .i64 (bsh cf t).2 ∧ Below wz.heap.size wz wi) (fun _ _ j _ => 401 - (intOf j).toNat)
      case atStart => exact ⟨0, 1, rfl, by omega, rfl, by rw [HC0.out], by rw [HC0.out], Below.refl _ _⟩
      case round =>
        obtain ⟨t, T, hT, ht, rfl, rfl, rfl, hbi⟩ := hrel
        have HT := Lib.hid hT
        clear hT
        by_cases hlt : T ≤ 400
        · have hti : (T : Int) ≤ 400 := by omega
          have k1 := (HB.out.next hbi).cell (400 + T) _ (map_i64_at cs (400 + T) (by omega))
          have k2 := (HB.out.next hbi).cell (400 - T) _ (map_i64_at cs (400 - T) (by omega))
          have hadd : IntKind.i64.wrap (400 + (T : Int)) = ((400 + T : Nat) : Int) := by rw [IntWalk.i64_in _ (by omega)]; push_cast; rfl
          have hsub : IntKind.i64.wrap (400 - (T : Int)) = ((400 - T : Nat) : Int) := by rw [IntWalk.i64_in _ (by omega)]; omega
          have hneg : IntKind.i64.wrap (-(T : Int)) = -(T : Int) := IntWalk.i64_in _ (by omega)
          have hl1 : 400 + T < 801 := by omega
          have hl2 : 400 - T < 801 := by omega
          have HNX := Lib.hid (show bsh cf T = bshA (bshA (bsh cf t) T (rdI cs (400 + T))) (-(T : Int)) (rdI cs (400 - T)) by
            rw [HD2.out _ hl1, HD2.out _ hl2, show (((400 + T : Nat) : Int) - 400) = (T : Int) by omega, show (((400 - T : Nat) : Int) - 400) = -(T : Int) by omega, HT.out]; rfl)
          generalize bsh cf t = st at *
          obtain ⟨sb, sm⟩ := st
          generalize rdI cs (400 + T) = n1 at *
          generalize rdI cs (400 - T) = n2 at *
          by_cases h1 : sm < n1
          · by_cases h2 : n1 < n2
            · have HN := Lib.hid (show bsh cf T = (-(T : Int), n2) by rw [HNX.out, bshA_yes (st := (sb, sm)) h1, bshA_yes (st := ((T : Int), n1)) h2])
              go_wp2
              go_roundw
              case rel => exact ⟨T, T + 1, rfl, by omega, by go_num, by rw [HN.out], by rw [HN.out], hbi⟩
              case measure => simp [intOf]; omega
            · have HN := Lib.hid (show bsh cf T = ((T : Int), n1) by rw [HNX.out, bshA_yes (st := (sb, sm)) h1, bshA_no (st := ((T : Int), n1)) h2])
              go_wp2
              go_roundw
              case rel => exact ⟨T, T + 1, rfl, by omega, by go_num, by rw [HN.out], by rw [HN.out], hbi⟩
              case measure => simp [intOf]; omega
          · by_cases h2 : sm < n2
            · have HN := Lib.hid (show bsh cf T = (-(T : Int), n2) by rw [HNX.out, bshA_no (st := (sb, sm)) h1, bshA_yes (st := (sb, sm)) h2])
              go_wp2
              go_roundw
              case rel => exact ⟨T, T + 1, rfl, by omega, by go_num, by rw [HN.out], by rw [HN.out], hbi⟩
              case measure => simp [intOf]; omega
            · have HN := Lib.hid (show bsh cf T = (sb, sm) by rw [HNX.out, bshA_no (st := (sb, sm)) h1, bshA_no (st := (sb, sm)) h2])
              go_wp2
              go_roundw
              case rel => exact ⟨T, T + 1, rfl, by omega, by go_num, by rw [HN.out], by rw [HN.out], hbi⟩
              case measure => simp [intOf]; omega
        · have htt : t = 400 := by have := HT.out; omega
          subst htt
          have HFI := Lib.hid (below_step HBF.out hbi)
          go_wp2
          go_ret2
          exact ⟨by rw [HR2.out]; rfl, HFI.out⟩
end Go.Proofs.YtpindajpdkpfjaaGreatDoor
namespace Go.Proofs.YtpindajpdkpfjaaGreatDoor
open Go Go.RowKit
set_option linter.unusedVariables false
set_option linter.unusedSimpArgs false

/-- Whether one of the first k is the number. -/
def hasN (xs : List Int) (x : Int) : Nat → Bool
  | 0 => false
  | k + 1 => hasN xs x k || rdI xs k == x
theorem hasN_mem (xs : List Int) (x : Int) : hasN xs x xs.length = decide (x ∈ xs) := by
  have h : ∀ k, k ≤ xs.length → (hasN xs x k = true ↔ ∃ i, i < k ∧ rdI xs i = x) := by
    intro k
    induction k with
    | zero => intro _; simp [hasN]
    | succ k ih =>
      intro hk
      rw [hasN, Bool.or_eq_true, ih (by omega), beq_iff_eq]
      constructor
      · rintro (⟨i, hi, e⟩ | e)
        · exact ⟨i, by omega, e⟩
        · exact ⟨k, by omega, e⟩
      · rintro ⟨i, hi, e⟩
        by_cases h : i = k
        · subst h; exact .inr e
        · exact .inl ⟨i, by omega, e⟩
  have h2 := h _ (Nat.le_refl _)
  rw [Bool.eq_iff_iff, h2, decide_eq_true_iff]
  constructor
  · rintro ⟨i, hi, e⟩
    rw [← e]
    unfold rdI
    rw [List.getD_eq_getElem?_getD, List.getElem?_eq_getElem hi]
    exact List.getElem_mem hi
  · intro hm
    obtain ⟨i, hi, e⟩ := List.mem_iff_getElem.1 hm
    refine ⟨i, hi, ?_⟩
    unfold rdI
    rw [List.getD_eq_getElem?_getD, List.getElem?_eq_getElem hi]
    exact e
theorem hasN_hit {xs : List Int} {x : Int} {k : Nat} (hk : k < xs.length) (h : rdI xs k = x) : decide (x ∈ xs) = true := by
  rw [← hasN_mem]
  have : ∀ m, k < m → hasN xs x m = true := by
    intro m
    induction m with
    | zero => intro h; omega
    | succ m ih =>
      intro hm
      rw [hasN]
      by_cases e : k = m
      · subst e; rw [h]; simp
      · rw [ih (by omega)]; rfl
  exact this _ hk

set_option maxHeartbeats 1000000 in
set_option maxRecDepth 100000 in
theorem has_spec (A : Option Addr) (n c : Nat) (xs : List Int) (x : Int) (w : World) (hn : xs.length = n) (hm : n ≤ 1048576) (h : SlE i64 w A xs) :
    Calls Tryz.prog 37 #[.slice A n c, .int .i64 x] w fun e w' => e = .returned (.bool (decide (x ∈ xs))) ∧ Below w.heap.size w w' := by
  have HA := Lib.hid h
  subst hn
  clear h
  go_enter Tryz.func37, Tryz.ntmps37
  go_wp2
  go_loopw [5] (fun i wr => ∃ k : Nat, k ≤ xs.length ∧ i = .int .i64 k ∧ hasN xs x k = false ∧ Below w.heap.size w wr) (fun i _ => xs.length - (intOf i).toNat)
  case atStart => exact ⟨0, by omega, rfl, rfl, Below.refl _ _⟩
  case round =>
    obtain ⟨k, hk, rfl, hh, hbel⟩ := hrel
    have HH := Lib.hid hh
    clear hh
    by_cases hlt : k < xs.length
    · obtain ⟨a, rfl, ra⟩ := (HA.out.next hbel).some k hlt
      have ca := ra.atI64 k hlt
      cases he : (rdI xs k == x)
      · have HN := Lib.hid (show hasN xs x (k + 1) = false by rw [hasN, HH.out, he]; rfl)
        clear ra
        go_wp2
        go_roundw
        case rel => exact ⟨k + 1, by omega, by go_num, HN.out, hbel⟩
        case measure => simp [intOf]; omega
      · have HN := Lib.hid (hasN_hit hlt (by simpa using he))
        clear ra
        go_wp2
        go_ret
        exact ⟨retB HN.out.symm, hbel⟩
    · obtain rfl : k = xs.length := by omega
      have HN := Lib.hid ((hasN_mem xs x).symm.trans HH.out)
      go_wp2
      go_ret
      exact ⟨retB HN.out.symm, hbel⟩

attribute [local irreducible] wpAnyH in
set_option maxHeartbeats 4000000 in
set_option maxRecDepth 100000 in
theorem recut_spec (f : Fc) (A : Option Addr) (n c : Nat) (p : Pc) (o s : ByteArray) (w : World) (hf : FcT f) (hn : f.pairs.length = n) (hm : n ≤ 1048576) (hos : o.size ≤ 1048576) (hs : s.size ≤ 1048576) (hp : PcT p) (h : SlP w A f.pairs) :
    Calls Tryz.prog 12 #[.agg (fcV f (.slice A n c)).toArray, .agg (pcV p).toArray, .string o, .string s] w fun e w' => e = .returned (.tuple #[.int .i64 (rcR f p (bs o) (bs s)).1, .int .i64 (rcR f p (bs o) (bs s)).2]) ∧ Below w.heap.size w w' := by
  have hB := below_two w (.cells (fcV f (.slice A n c)).toArray 28) (.cells (pcV p).toArray 33)
  have hk := (Blk.new w 28 (fcV f (.slice A n c))).alloc (.cells (pcV p).toArray 33)
  have hfa : FcAt ((w.alloc (.cells (fcV f (.slice A n c)).toArray 28)).alloc (.cells (pcV p).toArray 33)) w.heap.size f n := ⟨A, c, hk, h.next hB⟩
  have hpb := Blk.new (w.alloc (.cells (fcV f (.slice A n c)).toArray 28)) 33 (pcV p)
  rw [World.size_alloc] at hpb
  have HF := Lib.hid hf
  have HN := Lib.hid hn
  have HA := Lib.hid hfa
  have HP := Lib.hid hp
  have HB := Lib.hid hpb
  have HBB := Lib.hid hB
  have tb := hp.base
  clear hf hn h hfa hk hp hpb hB
  cases hpo : pcOk p
  · have HO := Lib.hid (show rcR f p (bs o) (bs s) = (0, 1) by unfold rcR rcC; rw [hpo]; simp)
    have HPO := Lib.hid hpo
    clear hpo
    rw [HO.out]
    go_enter Tryz.func12, Tryz.ntmps12
    go_wp2_with (go_at_call 34; refine (prices_spec p (w.heap.size + 1) _ HP.out HB.out).mono ?_; rintro e w1 ⟨he, rfl⟩; rw [HPO.out] at he; subst he)
    go_ret2
    exact ⟨rfl, HBB.out⟩
  · have HPO := Lib.hid hpo
    obtain ⟨cd, hcd⟩ : ∃ cd, cd = kepC f (bs o) (bs s) true := ⟨_, rfl⟩
    have HC := Lib.hid hcd
    by_cases h0 : cd = 0
    · have hz0 := hcd.symm.trans h0
      obtain ⟨hv, ht, hu, _⟩ := kepC_zero hz0
      have HV := Lib.hid (validF_iff.1 hv)
      have HPV := Lib.hid (pcOk_iff.1 hpo)
      have HT := Lib.hid ht
      have HU := Lib.hid hu
      obtain ⟨r, hr⟩ : ∃ r, r = bsh (cntK (lets (bs o)) (lets (bs s)) (plW f (bs o) (bs o).length) (plW f (bs s) (bs s).length)) 400 := ⟨_, rfl⟩
      have HR := Lib.hid hr
      have HD := Lib.hid (show -400 ≤ r.1 ∧ r.1 ≤ 400 by rw [hr]; exact (bsh_at _ 400).2)
      have HO := Lib.hid (show rcR f p (bs o) (bs s) = (rcS f p (lets (bs o)) (lets (bs s)) (plW f (bs o) (bs o).length) (plW f (bs s) (bs s).length) r.1 (lets (bs s)).length, 0) by
        unfold rcR
        rw [if_pos (show rcC f p (bs o) (bs s) = 0 by unfold rcC; rw [hv, hpo, ht, hu]; rfl), ← hr])
      have hx60 : (lets (bs o)).length ≤ 60 := Nat.le_trans (lets_length _) (vText_len60 ht)
      have hy60 : (lets (bs s)).length ≤ 60 := Nat.le_trans (lets_length _) (vText_len60 hu)
      have HLL := Lib.hid (lets_ll (vText_ls hu))
      subst h0
      have HK := Lib.hid (show ∀ d, kptR f (bs o) (bs s) d = kptN (lets (bs o)) (lets (bs s)) (plW f (bs o) (bs o).length) (plW f (bs s) (bs s).length) d (lets (bs s)).length from fun _ => rfl)
      clear hpo hv ht hu hcd hz0 hr
      rw [HO.out]
      clear HO
      obtain ⟨x, hx⟩ : ∃ x, x = lets (bs o) := ⟨_, rfl⟩
      obtain ⟨y, hy⟩ : ∃ y, y = lets (bs s) := ⟨_, rfl⟩
      obtain ⟨pa, hpa⟩ : ∃ pa, pa = plW f (bs o) (bs o).length := ⟨_, rfl⟩
      obtain ⟨qa, hqa⟩ : ∃ qa, qa = plW f (bs s) (bs s).length := ⟨_, rfl⟩
      have hKK := HK.out
      have hLL := HLL.out
      rw [← hx, ← hy, ← hpa, ← hqa] at hKK ⊢
      rw [← hx] at hx60
      rw [← hy] at hy60 hLL
      have HKK := Lib.hid hKK
      have HLY := Lib.hid hLL
      have HX := Lib.hid hx
      have HY := Lib.hid hy
      clear hx hy hpa hqa hKK hLL HK HLL
      obtain ⟨d, ds⟩ := r
      simp only at HD ⊢
      obtain ⟨K, hK⟩ : ∃ K, K = kptN x y pa qa d y.length := ⟨_, rfl⟩
      have HKE := Lib.hid hK
      have hKl : K.length ≤ 60 := by have := kptN_length x y pa qa d y.length; rw [hK]; omega
      have HKM := Lib.hid (show ∀ k, k < y.length → decide ((k : Int) ∈ K) = kbN x y pa qa d k x.length by
        intro k hk
        have := kpt_mem x y pa qa d y.length k hk
        rw [← hK] at this
        rw [Bool.eq_iff_iff, decide_eq_true_iff]; exact this)
      have HRG := Lib.hid (fun k hk => rcS_range (f := f) (p := p) HV.out HPV.out (x := x) (y := y) (a := pa) (b := qa) (s := d) hx60 hy60 HLY.out k hk)
      have HR0 := Lib.hid (show p.base + p.fill * ((x.length : Int) - (K.length : Int)) = rcS f p x y pa qa d 0 by rw [hK]; rfl)
      have hb1 := HPV.out.base
      have hb2 := HPV.out.fill
      have HML := Lib.hid (show -61000 ≤ p.fill * ((x.length : Int) - (K.length : Int)) ∧ p.fill * ((x.length : Int) - (K.length : Int)) ≤ 61000 by
        have h1 := HRG.out 0 (Nat.zero_le _)
        have h2 := HR0.out
        omega)
      clear hK hb1 hb2
      go_enter Tryz.func12, Tryz.ntmps12
      go_wp2_with (first
        | (go_at_call 34; refine (prices_spec p (w.heap.size + 1) _ HP.out HB.out).mono ?_; rintro e w1 ⟨he, rfl⟩; rw [HPO.out] at he; subst he)
        | (go_at_call 27; refine (shiftC_spec f n w.heap.size o s true _ HF.out HN.out hm hos hs HA.out).mono ?_; rintro e w1 ⟨he, hb1⟩; rw [← HC.out] at he; subst he)
        | (go_at_call 28; refine (shift_spec f n w.heap.size o s _ HF.out HV.out HN.out hm hos hs HT.out HU.out (HA.out.next hb1) (d, ds) HR.out).mono ?_; rintro e w2 ⟨rfl, hb2⟩)
        | (go_at_call 35; refine (kept_spec f n w.heap.size o s d _ HF.out HV.out HN.out hm hos hs HT.out HU.out HD.out ((HA.out.next hb1).next hb2)).mono ?_; rintro e w3 ⟨A3, c3, rfl, hb3, ho3⟩; rw [HKK.out, ← HKE.out] at ho3 ⊢)
        | (go_at_call 36; refine (letters_spec s _ hs).mono ?_; rintro e w4 ⟨A4, c4, rfl, hb4, ho4⟩; rw [← HY.out] at ho4 ⊢))
      have hB3 := below_step (below_step hb1 hb2) hb3
      have hB4 := below_step hB3 hb4
      have HB4 := Lib.hid (HB.out.next hB4)
      have HA4 := Lib.hid (HA.out.next hB4)
      have HO3 := Lib.hid (ho3.next hb4)
      have HO4 := Lib.hid ho4
      have HBW := Lib.hid (below_step HBB.out hB4)
      have tf := HP.out.fill
      have hcb : IntKind.i64.wrap p.base = p.base := IntWalk.i64_in _ (by omega)
      have hcf : IntKind.i64.wrap p.fill = p.fill := IntWalk.i64_in _ (by omega)
      have hs1 : IntKind.i64.wrap ((x.length : Int) - (K.length : Int)) = (x.length : Int) - (K.length : Int) := IntWalk.i64_in _ (by omega)
      have hm1 := HML.out
      have hs2 : IntKind.i64.wrap (p.fill * ((x.length : Int) - (K.length : Int))) = p.fill * ((x.length : Int) - (K.length : Int)) := IntWalk.i64_in _ (by omega)
      have hs3 : IntKind.i64.wrap (p.base + p.fill * ((x.length : Int) - (K.length : Int))) = rcS f p x y pa qa d 0 := by rw [← HR0.out]; exact IntWalk.i64_in _ (by omega)
      clear hb1 hb2 hb3 hb4 ho3 ho4 hB3 hB4 hm1
      refine held_begin (w4.heap.size) (by kernel_rfl) ?_
      have hS := below_drewN (Below.refl (w4.heap.size) w4) 1
      refine held_take 0 (.pointer (some ⟨w.heap.size + 1, 27, none⟩)) rfl (by kernel_rfl) (by kernel_rfl) (by kernel_rfl) (fun _ _ _ h => h) (by kernel_rfl) (fun w' hw' => by kernel_rfl) hS ?_
      refine held_take 1 (.int .i16 p.base) rfl (by kernel_rfl) (by kernel_rfl) (by kernel_rfl) (fun _ _ _ h => h) (by kernel_rfl) (fun w' hw' => exec_load1 30 (.tmp 37) rfl ⟨w.heap.size + 1, 27, none⟩ (by kernel_rfl) (.int .i16 p.base) ((HB4.out.next hw').cell 27 _ (pcV_base HP.out)) _ Tryz.underlying30 rfl) hS ?_
      refine held_take 2 (.int .i64 p.base) rfl (by kernel_rfl) (by kernel_rfl) (by kernel_rfl) (fun _ _ _ h => h) (by kernel_rfl) (fun w' hw' => Eq.trans (show (execOp _ _).run _ w' = .ok (.value (.int .i64 (IntKind.i64.wrap p.base))) w' by kernel_rfl) (by rw [hcb])) hS ?_
      refine held_take 3 (.pointer (some ⟨w.heap.size + 1, 28, none⟩)) rfl (by kernel_rfl) (by kernel_rfl) (by kernel_rfl) (fun _ _ _ h => h) (by kernel_rfl) (fun w' hw' => by kernel_rfl) hS ?_
      refine held_take 4 (.int .i16 p.fill) rfl (by kernel_rfl) (by kernel_rfl) (by kernel_rfl) (fun _ _ _ h => h) (by kernel_rfl) (fun w' hw' => exec_load1 30 (.tmp 40) rfl ⟨w.heap.size + 1, 28, none⟩ (by kernel_rfl) (.int .i16 p.fill) ((HB4.out.next hw').cell 28 _ (pcV_fill HP.out)) _ Tryz.underlying30 rfl) hS ?_
      refine held_take 5 (.int .i64 p.fill) rfl (by kernel_rfl) (by kernel_rfl) (by kernel_rfl) (fun _ _ _ h => h) (by kernel_rfl) (fun w' hw' => Eq.trans (show (execOp _ _).run _ w' = .ok (.value (.int .i64 (IntKind.i64.wrap p.fill))) w' by kernel_rfl) (by rw [hcf])) hS ?_
      refine held_take 6 (.string o) rfl (by kernel_rfl) (by kernel_rfl) (by kernel_rfl) (fun _ _ _ h => h) (by kernel_rfl) (fun w' hw' => by kernel_rfl) hS ?_
      refine held_take 9 (.slice A3 K.length c3) rfl (by kernel_rfl) (by kernel_rfl) (by kernel_rfl) (fun _ _ _ h => h) (by kernel_rfl) (fun w' hw' => by kernel_rfl) hS ?_
      refine held_take 10 (.int .i64 K.length) rfl (by kernel_rfl) (by kernel_rfl) (by kernel_rfl) (fun _ _ _ h => h) (by kernel_rfl) (fun w' hw' => by kernel_rfl) hS ?_
      refine held_call 7 36 #[.string o] rfl (by kernel_rfl) (by kernel_rfl) (by kernel_rfl) ?_
      refine (letters_spec o _ hos).mono ?_
      rintro e w1 ⟨A5, c5, rfl, hb5, ho5⟩
      have hS := below_step hS hb5
      refine ⟨_, rfl, hS, ?_⟩
      rw [← HX.out]
      refine held_take 8 (.int .i64 x.length) rfl (by kernel_rfl) (by kernel_rfl) (by kernel_rfl) (fun _ _ _ h => h) (by kernel_rfl) (fun w' hw' => by kernel_rfl) hS ?_
      refine held_take 11 (.int .i64 ((x.length : Int) - (K.length : Int))) rfl (by kernel_rfl) (by kernel_rfl) (by kernel_rfl) (fun _ _ _ h => h) (by kernel_rfl) (fun w' hw' => Eq.trans (show (execOp _ _).run _ w' = .ok (.value (.int .i64 (IntKind.i64.wrap ((x.length : Int) - (K.length : Int))))) w' by kernel_rfl) (by rw [hs1])) hS ?_
      refine held_take 12 (.int .i64 (p.fill * ((x.length : Int) - (K.length : Int)))) rfl (by kernel_rfl) (by kernel_rfl) (by kernel_rfl) (fun _ _ _ h => h) (by kernel_rfl) (fun w' hw' => Eq.trans (show (execOp _ _).run _ w' = .ok (.value (.int .i64 (IntKind.i64.wrap (p.fill * ((x.length : Int) - (K.length : Int)))))) w' by kernel_rfl) (by rw [hs2])) hS ?_
      refine held_take 13 (.int .i64 (rcS f p x y pa qa d 0)) rfl (by kernel_rfl) (by kernel_rfl) (by kernel_rfl) (fun _ _ _ h => h) (by kernel_rfl) (fun w' hw' => Eq.trans (show (execOp _ _).run _ w' = .ok (.value (.int .i64 (IntKind.i64.wrap (p.base + p.fill * ((x.length : Int) - (K.length : Int)))))) w' by kernel_rfl) (by rw [hs3])) hS ?_
      refine held_take 14 (.int .i64 (rcS f p x y pa qa d 0)) rfl (by kernel_rfl) (by kernel_rfl) (by kernel_rfl) (fun _ _ _ h => h) (by kernel_rfl) (fun w' hw' => by kernel_rfl) hS ?_
      refine held_done (by kernel_rfl) ?_
      simp only [Act.put, List.setIfInBounds_toArray, List.set_cons_succ, List.set_cons_zero]
      have HS := Lib.hid hS
      clear hb5 ho5 hS hcb hcf hs1 hs2 hs3
      go_simp
      apply_assumption
      go_wp2
      rename World => wz
      go_loopw [15, 16] (fun u j wi => ∃ k : Nat, k ≤ y.length ∧ j = .int .i64 (k : Int) ∧ u = .int .i64 (rcS f p x y pa qa d k) ∧ Below w4.heap.size w4 wi) (fun _ j _ => y.length - (intOf j).toNat)
      case atStart => exact ⟨0, by omega, rfl, rfl, HS.out⟩
      case round =>
        obtain ⟨k, hk, rfl, rfl, hbi⟩ := hrel
        by_cases hlt : k < y.length
        · obtain ⟨a4, rfl, r4⟩ := (HO4.out.next hbi).sl.some k hlt
          have c4b := r4.atB k hlt
          have HMK := Lib.hid (HKM.out k hlt)
          have hr0 := HRG.out k hk
          have hr1 := HRG.out (k + 1) hlt
          have hlr := letP_range HV.out HPV.out (HLY.out k hlt)
          clear r4
          cases hkb : kbN x y pa qa d k x.length
          · have HN2 := Lib.hid (rcS_no (f := f) (p := p) hkb)
            rw [hkb] at HMK
            clear hkb
            go_wp2_with fail
            go_at_call 37
            refine (has_spec A3 _ c3 K k _ rfl (by omega) (HO3.out.next hbi).sl).mono ?_
            rintro e w6 ⟨rfl, hb6⟩
            rw [HMK.out]
            obtain ⟨a', e', r6⟩ := ((HO4.out.next hbi).next hb6).sl.some k hlt
            cases e'
            have c4b := r6.atB k hlt
            clear r6
            go_wp2_with fail
            go_at_call 38
            refine (costL_spec f p n w.heap.size (w.heap.size + 1) (byt y k) _ HF.out HP.out HV.out HPV.out (HLY.out k hlt) ((HA4.out.next hbi).next hb6) ((HB4.out.next hbi).next hb6)).mono ?_
            rintro e w7 ⟨rfl, hb7⟩
            go_wp2
            go_roundw
            case rel => exact ⟨k + 1, by omega, by go_num, by rw [HN2.out], below_step (below_step hbi hb6) hb7⟩
            case measure => simp [intOf]; omega
          · have HN2 := Lib.hid (rcS_yes (f := f) (p := p) hkb)
            rw [hkb] at HMK
            clear hkb
            go_wp2_with (go_at_call 37; refine (has_spec A3 _ c3 K k _ rfl (by omega) (HO3.out.next hbi).sl).mono ?_; rintro e w6 ⟨rfl, hb6⟩; rw [HMK.out])
            go_roundw
            case rel => exact ⟨k + 1, by omega, by go_num, by rw [HN2.out], below_step hbi hb6⟩
            case measure => simp [intOf]; omega
        · obtain rfl : k = y.length := by omega
          have HFI := Lib.hid (below_step HBW.out hbi)
          go_wp2
          go_ret2
          exact ⟨rfl, HFI.out⟩
    · have HO := Lib.hid (show rcR f p (bs o) (bs s) = (0, cd) by
        have e1 : cd = 1 := by
          have := hcd
          unfold kepC at this
          split at this
          · rename_i hh; simp at this; omega
          · exact this
        have e2 : rcC f p (bs o) (bs s) = 1 := by
          unfold rcC
          split
          · rename_i hh
            simp only [Bool.and_eq_true] at hh
            exfalso
            exact h0 (hcd.trans (kepC_ok (b := true) hh.1.1.1 hh.1.2 hh.2))
          · rfl
        unfold rcR; rw [if_neg (by rw [e2]; decide), e1])
      have HPO := Lib.hid hpo
      clear hpo hcd
      rw [HO.out]
      go_enter Tryz.func12, Tryz.ntmps12
      go_wp2_with (first
        | (go_at_call 34; refine (prices_spec p (w.heap.size + 1) _ HP.out HB.out).mono ?_; rintro e w1 ⟨he, rfl⟩; rw [HPO.out] at he; subst he)
        | (go_at_call 27; refine (shiftC_spec f n w.heap.size o s true _ HF.out HN.out hm hos hs HA.out).mono ?_; rintro e w1 ⟨he, hb1⟩; rw [← HC.out] at he; subst he))
      go_ret2
      exact ⟨rfl, below_step HBB.out hb1⟩
end Go.Proofs.YtpindajpdkpfjaaGreatDoor
namespace Go.Proofs.YtpindajpdkpfjaaGreatDoor
open Go Go.RowKit
set_option linter.unusedVariables false
set_option linter.unusedSimpArgs false

set_option maxHeartbeats 1000000 in
set_option maxRecDepth 100000 in
theorem index64_any (A : Option Addr) (n c : Nat) (xs : List Int) (x : Int) (w : World) (hn : xs.length = n) (hm : n ≤ 1048576) (h : SlE i64 w A xs) :
    Calls Tryz.prog 65 #[.slice A n c, .int .i64 x] w fun e w' => (∃ v, e = .returned (.int .i64 v) ∧ decide (v ≥ 0) = decide (x ∈ xs)) ∧ Below w.heap.size w w' := by
  have HA := Lib.hid h
  subst hn
  clear h
  go_enter Tryz.func65, Tryz.ntmps65
  go_wp2
  go_loopw [8] (fun i wr => ∃ k : Nat, k ≤ xs.length ∧ i = .int .i64 k ∧ hasN xs x k = false ∧ Below w.heap.size w wr) (fun i _ => xs.length - (intOf i).toNat)
  case atStart => exact ⟨0, by omega, rfl, rfl, Below.refl _ _⟩
  case round =>
    obtain ⟨k, hk, rfl, hh, hbel⟩ := hrel
    have HH := Lib.hid hh
    clear hh
    by_cases hlt : k < xs.length
    · obtain ⟨a, rfl, ra⟩ := (HA.out.next hbel).some k hlt
      have ca := ra.atI64 k hlt
      cases he : (x == rdI xs k)
      · have HN := Lib.hid (show hasN xs x (k + 1) = false by
          rw [hasN, HH.out]
          simp only [Bool.false_or]
          rw [beq_eq_false_iff_ne] at he ⊢
          exact fun h => he h.symm)
        clear ra
        go_wp2
        go_roundw
        case rel => exact ⟨k + 1, by omega, by go_num, HN.out, hbel⟩
        case measure => simp [intOf]; omega
      · have HN := Lib.hid (hasN_hit hlt (show rdI xs k = x by have := beq_iff_eq.1 he; exact this.symm))
        clear ra
        go_wp2
        go_ret
        exact ⟨⟨_, rfl, by rw [HN.out]; exact decide_eq_true (Int.natCast_nonneg k)⟩, hbel⟩
    · obtain rfl : k = xs.length := by omega
      have HN := Lib.hid ((hasN_mem xs x).symm.trans HH.out)
      go_wp2
      go_ret
      exact ⟨⟨_, rfl, by rw [HN.out]; rfl⟩, hbel⟩
set_option maxRecDepth 100000 in
theorem contains64_any (A : Option Addr) (n c : Nat) (xs : List Int) (x : Int) (w : World) (hn : xs.length = n) (hm : n ≤ 1048576) (h : SlE i64 w A xs) :
    Calls Tryz.prog 32 #[.slice A n c, .int .i64 x] w fun e w' => e = .returned (.bool (decide (x ∈ xs))) ∧ Below w.heap.size w w' := by
  have HA := Lib.hid h
  have HN := Lib.hid hn
  clear h hn
  go_enter Tryz.func32, Tryz.ntmps32
  go_wp2_with (go_at_call 65; refine (index64_any A n c xs x _ HN.out hm HA.out).mono ?_; rintro e w1 ⟨⟨v, rfl, hv⟩, hb⟩)
  go_ret
  exact ⟨by first | rfl | exact retB hv, hb⟩

/-- The best shift ahead of the size t. -/
def bshI (c : Int → Int) : Nat → Int × Int
  | 0 => (0, -1)
  | t + 1 => bsh c t
theorem bshI_step (c : Int → Int) (h : 0 ≤ c 0) : ∀ t : Nat, bshI c (t + 1) = bshA (bshA (bshI c t) (t : Int) (c (t : Int))) (-(t : Int)) (c (-(t : Int)))
  | 0 => by
    show (0, c 0) = bshA (bshA (0, -1) 0 (c 0)) (-0) (c (-0))
    rw [bshA_yes (st := (0, -1)) (show (-1 : Int) < c 0 by omega), bshA_no (st := (0, c 0)) (show ¬ c 0 < c (-0) by simp)]
  | t + 1 => rfl
/-- Within one size: ahead of shift k of its two. -/
def shk (c : Int → Int) (st : Int × Int) (s : Int) : Nat → Int × Int
  | 0 => st
  | 1 => bshA st s (c s)
  | _ => bshA (bshA st s (c s)) (-s) (c (-s))
theorem shk_next (c : Int → Int) (st : Int × Int) (s : Int) (k : Nat) (hk : k < 2) (v : Int) (hv : v = if k = 0 then s else -s) : shk c st s (k + 1) = bshA (shk c st s k) v (c v) := by
  subst hv
  match k, hk with
  | 0, _ => rfl
  | 1, _ => rfl

set_option maxHeartbeats 2000000 in
set_option maxRecDepth 100000 in
theorem bestShift_impl (f : Fc) (A : Option Addr) (n c : Nat) (o s : ByteArray) (w : World) (hf : FcT f) (hV : FcV f) (hn : f.pairs.length = n) (hm : n ≤ 1048576) (hos : o.size ≤ 1048576) (hs : s.size ≤ 1048576) (ho : vText (bs o) = true) (ht : vText (bs s) = true) (h : SlP w A f.pairs) (hmx : MaxW w) (r : Int × Int)
    (hr : r = bsh (cntK (lets (bs o)) (lets (bs s)) (plW f (bs o) (bs o).length) (plW f (bs s) (bs s).length)) 400) :
    Calls Tryz.prog 26 #[.agg (fcV f (.slice A n c)).toArray, .string o, .string s] w fun e w' => e = .returned (.tuple #[.int .i64 r.1, .int .i64 r.2]) ∧ Below w.heap.size w w' := by
  have hB := below_one w (.cells (fcV f (.slice A n c)).toArray 28)
  have hk := Blk.new w 28 (fcV f (.slice A n c))
  have hsz : (fcV f (.slice A n c)).toArray.size = 29 := by simp [fcV_length hf]
  have HZ := Lib.hid (show (Tryz.prog.info? 28).map (·.size) = some (fcV f (.slice A n c)).toArray.size by rw [hsz]; exact szFcI)
  obtain ⟨cf, hcf⟩ : ∃ cf, cf = cntK (lets (bs o)) (lets (bs s)) (plW f (bs o) (bs o).length) (plW f (bs s) (bs s).length) := ⟨_, rfl⟩
  rw [← hcf] at hr
  have HC := Lib.hid (show ∀ d, ((kptR f (bs o) (bs s) d).length : Int) = cf d by intro d; rw [hcf]; rfl)
  have HCR := Lib.hid (show ∀ d, 0 ≤ cf d by intro d; rw [hcf]; exact (cntK_range _ _ _ _ d).1)
  have HCR2 := Lib.hid (show ∀ d, cf d ≤ 60 by
    intro d
    have h1 := (cntK_range (lets (bs o)) (lets (bs s)) (plW f (bs o) (bs o).length) (plW f (bs s) (bs s).length) d).2
    have h2 : (lets (bs s)).length ≤ 60 := Nat.le_trans (lets_length _) (vText_len60 ht)
    rw [hcf]; omega)
  have HST := Lib.hid (bshI_step cf (HCR.out 0))
  have HR := Lib.hid (show bshI cf 401 = r by rw [hr]; rfl)
  have HF := Lib.hid hf
  have HV := Lib.hid hV
  have HN := Lib.hid hn
  have HS := Lib.hid (h.next hB)
  have HM := Lib.hid (hmx.next hB)
  have HK := Lib.hid hk
  have HBB := Lib.hid hB
  have HT := Lib.hid ho
  have HU := Lib.hid ht
  clear hf hV hn h hmx hk hB ho ht hr hcf hsz
  go_enter Tryz.func26, Tryz.ntmps26
  go_wp2
  generalize w.alloc (.cells (fcV f (.slice A n c)).toArray 28) = W0 at *
  go_loopw [8, 9, 14] (fun b m j wi => ∃ t : Nat, t ≤ 401 ∧ j = .int .i64 (t : Int) ∧ b = .int .i64 (bshI cf t).1 ∧ m = .int .i64 (bshI cf t).2 ∧ Below W0.heap.size W0 wi) (fun _ _ j _ => 401 - (intOf j).toNat)
  case atStart => exact ⟨0, by omega, rfl, rfl, rfl, Below.refl _ _⟩
  case round =>
    obtain ⟨t, ht, rfl, rfl, rfl, hbi⟩ := hrel
    by_cases hlt : t < 401
    · have hti : (t : Int) < 401 := by omega
      have hneg : IntKind.i64.wrap (-(t : Int)) = -(t : Int) := IntWalk.i64_in _ (by omega)
      have HNX := Lib.hid (HST.out t)
      generalize bshI cf t = st at *
      have hb2 := below_one wr (.cells #[.int .i64 (t : Int), .int .i64 (-(t : Int))] 2)
      have HL := Lib.hid (show SlE i64 (wr.alloc (.cells #[.int .i64 (t : Int), .int .i64 (-(t : Int))] 2)) (some ⟨wr.heap.size, 0, none⟩) [(t : Int), -(t : Int)] from SlE.of_row (Blk.row (enc := i64) (Blk.new wr 2 [i64 t, i64 (-(t : Int))])))
      have hbi2 := below_step hbi hb2
      have HBI := Lib.hid hbi2
      clear hbi hb2 hbi2
      go_wp2
      generalize wr.alloc (.cells #[.int .i64 (t : Int), .int .i64 (-(t : Int))] 2) = W2 at *
      generalize wr.heap.size = g at *
      go_loopw [8, 9, 22] (fun b m j wi => ∃ k : Nat, k ≤ 2 ∧ j = .int .i64 (k : Int) ∧ b = .int .i64 (shk cf st t k).1 ∧ m = .int .i64 (shk cf st t k).2 ∧ Below W2.heap.size W2 wi) (fun _ _ j _ => 2 - (intOf j).toNat)
      case atStart => exact ⟨0, by omega, rfl, rfl, rfl, Below.refl _ _⟩
      case round =>
        obtain ⟨k, hk, rfl, rfl, rfl, hbj⟩ := hrel
        by_cases hlk : k < 2
        · have hki : (k : Int) < 2 := by omega
          obtain ⟨a', e', r⟩ := (HL.out.next hbj).some k (show k < 2 from hlk)
          cases e'
          obtain ⟨v, hv⟩ : ∃ v, v = (if k = 0 then (t : Int) else -(t : Int)) := ⟨_, rfl⟩
          have kc := r.atI64 k (show k < 2 from hlk)
          rw [show rdI [(t : Int), -(t : Int)] k = v by rw [hv]; match k, hlk with | 0, _ => rfl | 1, _ => rfl, add_mid, Nat.zero_add] at kc
          have hvr : -400 ≤ v ∧ v ≤ 400 := by rw [hv]; split <;> omega
          have HK2 := Lib.hid (shk_next cf st t k hlk v hv)
          have hkr := (HK.out.next HBI.out).next hbj
          have hb3 := below_step HBI.out hbj
          generalize shk cf st t k = sk at *
          obtain ⟨sb, sm⟩ := sk
          have hc1 := HCR.out v
          have hc2 := HCR2.out v
          clear hv r
          by_cases h1 : sm < cf v
          · have HN2 := Lib.hid (HK2.out.trans (bshA_yes (st := (sb, sm)) h1))
            go_wp2_with (first
              | (refine wpList_load_row rfl 28 (.tmp 3) rfl _ rfl 28 (fcV f (.slice A n c)).toArray _ _ hkr Tryz.underlying28 rfl HZ.out ?_)
              | (go_at_call 30; refine (kept_impl f A n c o s v _ HF.out HV.out HN.out hm hos hs HT.out HU.out hvr (HS.out.next hb3) (HM.out.next hb3)).mono ?_; rintro e w5 ⟨A5, c5, rfl, hb5, ho5⟩)
              | (go_at_call 54; refine (size64_any _ _ _ _).mono ?_; rintro e w6 ⟨rfl, rfl⟩; rw [HC.out]))
            go_roundw
            case rel => exact ⟨k + 1, by omega, by go_num, by rw [HN2.out], by rw [HN2.out], below_step hbj hb5⟩
            case measure => simp [intOf]; omega
          · have HN2 := Lib.hid (HK2.out.trans (bshA_no (st := (sb, sm)) h1))
            go_wp2_with (first
              | (refine wpList_load_row rfl 28 (.tmp 3) rfl _ rfl 28 (fcV f (.slice A n c)).toArray _ _ hkr Tryz.underlying28 rfl HZ.out ?_)
              | (go_at_call 30; refine (kept_impl f A n c o s v _ HF.out HV.out HN.out hm hos hs HT.out HU.out hvr (HS.out.next hb3) (HM.out.next hb3)).mono ?_; rintro e w5 ⟨A5, c5, rfl, hb5, ho5⟩)
              | (go_at_call 54; refine (size64_any _ _ _ _).mono ?_; rintro e w6 ⟨rfl, rfl⟩; rw [HC.out]))
            go_roundw
            case rel => exact ⟨k + 1, by omega, by go_num, by rw [HN2.out], by rw [HN2.out], below_step hbj hb5⟩
            case measure => simp [intOf]; omega
        · obtain rfl : k = 2 := by omega
          have hb3 := below_step HBI.out hbj
          have HN2 := Lib.hid (show bshI cf (t + 1) = shk cf st t 2 from HNX.out)
          go_wp2
          go_roundw
          case rel => exact ⟨t + 1, by omega, by go_num, by rw [HN2.out], by rw [HN2.out], hb3⟩
          case measure => simp [intOf]; omega
    · obtain rfl : t = 401 := by omega
      have HFI := Lib.hid (below_step HBB.out hbi)
      rw [HR.out]
      go_wp2
      go_ret2
      exact ⟨rfl, HFI.out⟩

theorem pccN_two (f : Fc) (p : Pc) (a b : List UInt8) : pccN f p [a, b] = rcC f p a b := by
  unfold pccN rcC badT
  simp only [List.any_cons, List.any_nil, Bool.or_false, Bool.not_or, Bool.not_not, Bool.and_assoc]
attribute [local irreducible] wpQuiet in
set_option maxHeartbeats 4000000 in
set_option maxRecDepth 100000 in
theorem recut_impl (f : Fc) (A : Option Addr) (n c : Nat) (p : Pc) (o s : ByteArray) (w : World) (hf : FcT f) (hn : f.pairs.length = n) (hm : n ≤ 1048576) (hos : o.size ≤ 1048576) (hs : s.size ≤ 1048576) (hp : PcT p) (h : SlP w A f.pairs) (hmx : MaxW w) :
    Calls Tryz.prog 11 #[.agg (fcV f (.slice A n c)).toArray, .agg (pcV p).toArray, .string o, .string s] w fun e w' => e = .returned (.tuple #[.int .i64 (rcR f p (bs o) (bs s)).1, .int .i64 (rcR f p (bs o) (bs s)).2]) ∧ Below w.heap.size w w' := by
  have hB := below_two w (.cells (fcV f (.slice A n c)).toArray 28) (.cells (pcV p).toArray 33)
  have hb0 := below_one ((w.alloc (.cells (fcV f (.slice A n c)).toArray 28)).alloc (.cells (pcV p).toArray 33)) (.cells #[.string o, .string s] 9)
  have hk1 := ((Blk.new w 28 (fcV f (.slice A n c))).alloc (.cells (pcV p).toArray 33))
  have hk2 := Blk.new (w.alloc (.cells (fcV f (.slice A n c)).toArray 28)) 33 (pcV p)
  have hsl0 : SlE sv (((w.alloc (.cells (fcV f (.slice A n c)).toArray 28)).alloc (.cells (pcV p).toArray 33)).alloc (.cells #[.string o, .string s] 9)) (some ⟨((w.alloc (.cells (fcV f (.slice A n c)).toArray 28)).alloc (.cells (pcV p).toArray 33)).heap.size, 0, none⟩) [bs o, bs s] := SlE.of_row (Blk.row (enc := sv) (Blk.new ((w.alloc (.cells (fcV f (.slice A n c)).toArray 28)).alloc (.cells (pcV p).toArray 33)) 9 [sv (bs o), sv (bs s)]))
  rw [World.size_alloc] at hk2
  rw [World.size_alloc, World.size_alloc] at hsl0
  have tb := hp.base
  have tf := hp.fill
  have hsz : (fcV f (.slice A n c)).toArray.size = 29 := by simp [fcV_length hf]
  have HZ := Lib.hid (show (Tryz.prog.info? 28).map (·.size) = some (fcV f (.slice A n c)).toArray.size by rw [hsz]; exact szFcI)
  have HZ2 := Lib.hid (show (Tryz.prog.info? 33).map (·.size) = some (pcV p).toArray.size by rw [List.size_toArray, pcV_length hp]; exact szPcI)
  have hB1 := below_step hB hb0
  have HS := Lib.hid (h.next hB1)
  have HM := Lib.hid (hmx.next hB1)
  have HF := Lib.hid hf
  have HN := Lib.hid hn
  have HP := Lib.hid hp
  have HK1 := Lib.hid (hk1.next hb0)
  have HK2 := Lib.hid (hk2.next hb0)
  have HSL0 := Lib.hid hsl0
  have HBB := Lib.hid hB1
  have HLS := Lib.hid (show ∀ x ∈ [bs o, bs s], x.length ≤ 1048576 by
    intro x hx
    rcases List.mem_cons.1 hx with rfl | hx
    · rw [bs_length]; exact hos
    · obtain rfl := List.mem_singleton.1 hx; rw [bs_length]; exact hs)
  clear hf hn h hp hmx hsz hsl0 hB hB1 hb0
  obtain ⟨cd, hcd⟩ : ∃ cd, cd = rcC f p (bs o) (bs s) := ⟨_, rfl⟩
  have HC := Lib.hid hcd
  by_cases h0 : cd = 0
  · have hz := hcd.symm.trans h0
    obtain ⟨hv, hpo, ht, hu⟩ := rcC_zero hz
    have HV := Lib.hid (validF_iff.1 hv)
    have HPV := Lib.hid (pcOk_iff.1 hpo)
    have HT := Lib.hid ht
    have HU := Lib.hid hu
    obtain ⟨r, hr⟩ : ∃ r, r = bsh (cntK (lets (bs o)) (lets (bs s)) (plW f (bs o) (bs o).length) (plW f (bs s) (bs s).length)) 400 := ⟨_, rfl⟩
    have HR := Lib.hid hr
    have HD := Lib.hid (show (-400 ≤ r.1 ∧ r.1 ≤ 400) ∧ r.2 = cntK (lets (bs o)) (lets (bs s)) (plW f (bs o) (bs o).length) (plW f (bs s) (bs s).length) r.1 by rw [hr]; exact ⟨(bsh_at _ 400).2, (bsh_at _ 400).1⟩)
    have HO := Lib.hid (show rcR f p (bs o) (bs s) = (rcS f p (lets (bs o)) (lets (bs s)) (plW f (bs o) (bs o).length) (plW f (bs s) (bs s).length) r.1 (lets (bs s)).length, 0) by
      unfold rcR
      rw [if_pos hz, ← hr])
    have hx60 : (lets (bs o)).length ≤ 60 := Nat.le_trans (lets_length _) (vText_len60 ht)
    have hy60 : (lets (bs s)).length ≤ 60 := Nat.le_trans (lets_length _) (vText_len60 hu)
    have HLL := Lib.hid (lets_ll (vText_ls hu))
    have HK := Lib.hid (show ∀ d, kptR f (bs o) (bs s) d = kptN (lets (bs o)) (lets (bs s)) (plW f (bs o) (bs o).length) (plW f (bs s) (bs s).length) d (lets (bs s)).length from fun _ => rfl)
    subst h0
    clear hpo hv ht hu hcd hz hr
    rw [HO.out]
    clear HO
    obtain ⟨x, hx⟩ : ∃ x, x = lets (bs o) := ⟨_, rfl⟩
    obtain ⟨y, hy⟩ : ∃ y, y = lets (bs s) := ⟨_, rfl⟩
    obtain ⟨pa, hpa⟩ : ∃ pa, pa = plW f (bs o) (bs o).length := ⟨_, rfl⟩
    obtain ⟨qa, hqa⟩ : ∃ qa, qa = plW f (bs s) (bs s).length := ⟨_, rfl⟩
    have hKK := HK.out
    have hLL := HLL.out
    have hDD := HD.out
    rw [← hx, ← hy, ← hpa, ← hqa] at hKK hDD ⊢
    rw [← hx] at hx60
    rw [← hy] at hy60 hLL
    have HKK := Lib.hid hKK
    have HLY := Lib.hid hLL
    have HX := Lib.hid hx
    have HY := Lib.hid hy
    have kc := fun (w : World) => Lib.run_convert_string_bytes (P := Tryz.prog) w 9 22 5 ⟨y.toArray⟩ Tryz.underlying9 Tryz.underlying22 Tryz.underlying5
    clear hx hy hpa hqa hKK hLL HK HLL HD
    obtain ⟨d, ds⟩ := r
    simp only at hDD ⊢
    obtain ⟨hd, hds⟩ := hDD
    have HD := Lib.hid hd
    clear hd
    obtain ⟨K, hK⟩ : ∃ K, K = kptN x y pa qa d y.length := ⟨_, rfl⟩
    have HKE := Lib.hid hK
    have hKl : K.length ≤ 60 := by have := kptN_length x y pa qa d y.length; rw [hK]; omega
    have hdK : ds = (K.length : Int) := by rw [hds, hK]; rfl
    clear hds
    subst hdK
    have HKM := Lib.hid (show ∀ k, k < y.length → decide ((k : Int) ∈ K) = kbN x y pa qa d k x.length by
      intro k hk
      have := kpt_mem x y pa qa d y.length k hk
      rw [← hK] at this
      rw [Bool.eq_iff_iff, decide_eq_true_iff]; exact this)
    have HRG := Lib.hid (fun k hk => rcS_range (f := f) (p := p) HV.out HPV.out (x := x) (y := y) (a := pa) (b := qa) (s := d) hx60 hy60 HLY.out k hk)
    have HR0 := Lib.hid (show p.base + p.fill * ((x.length : Int) - (K.length : Int)) = rcS f p x y pa qa d 0 by rw [hK]; rfl)
    have hb1 := HPV.out.base
    have hb2 := HPV.out.fill
    have HML := Lib.hid (show -61000 ≤ p.fill * ((x.length : Int) - (K.length : Int)) ∧ p.fill * ((x.length : Int) - (K.length : Int)) ≤ 61000 by
      have h1 := HRG.out 0 (Nat.zero_le _)
      have h2 := HR0.out
      omega)
    clear hK hb1 hb2
    go_enter Tryz.func11, Tryz.ntmps11
    go_wp2_with (first
      | (refine wpList_load_row rfl 28 (.tmp 4) rfl _ rfl 28 (fcV f (.slice A n c)).toArray _ _ hk1 Tryz.underlying28 rfl HZ.out ?_)
      | (refine wpList_load_row rfl 33 (.tmp 5) rfl _ rfl 33 (pcV p).toArray _ _ hk2 Tryz.underlying33 rfl HZ2.out ?_)
      | (go_at_call 29; refine (priceCode_any f p A _ n c 2 2 [bs o, bs s] _ HF.out HP.out HN.out hm rfl (by omega) HLS.out HS.out HSL0.out HM.out).mono ?_; rintro e w1 ⟨he, hb1⟩; rw [pccN_two, ← HC.out] at he; subst he; have hk1 := HK1.out.next hb1)
      | (go_at_call 26; refine (bestShift_impl f A n c o s _ HF.out HV.out HN.out hm hos hs HT.out HU.out (HS.out.next hb1) (HM.out.next hb1) (d, (K.length : Int)) HR.out).mono ?_; rintro e w2 ⟨rfl, hb2⟩; have hk1 := (HK1.out.next hb1).next hb2) | (go_at_call 30; refine (kept_impl f A n c o s d _ HF.out HV.out HN.out hm hos hs HT.out HU.out HD.out ((HS.out.next hb1).next hb2) ((HM.out.next hb1).next hb2)).mono ?_; rintro e w3 ⟨A3, c3, rfl, hb3, ho3⟩; rw [HKK.out, ← HKE.out] at ho3 ⊢))
    have hB3 := below_step (below_step hb1 hb2) hb3
    have HK13 := Lib.hid (HK1.out.next hB3)
    have HK23 := Lib.hid (HK2.out.next hB3)
    have HM3 := Lib.hid (HM.out.next hB3)
    have HO3 := Lib.hid ho3
    have HBW := Lib.hid (below_step HBB.out hB3)
    have hcb : IntKind.i64.wrap p.base = p.base := IntWalk.i64_in _ (by omega)
    have hcf : IntKind.i64.wrap p.fill = p.fill := IntWalk.i64_in _ (by omega)
    have hs1 : IntKind.i64.wrap ((x.length : Int) - (K.length : Int)) = (x.length : Int) - (K.length : Int) := IntWalk.i64_in _ (by omega)
    have hm1 := HML.out
    have hs2 : IntKind.i64.wrap (p.fill * ((x.length : Int) - (K.length : Int))) = p.fill * ((x.length : Int) - (K.length : Int)) := IntWalk.i64_in _ (by omega)
    have hs3 : IntKind.i64.wrap (p.base + p.fill * ((x.length : Int) - (K.length : Int))) = rcS f p x y pa qa d 0 := by rw [← HR0.out]; exact IntWalk.i64_in _ (by omega)
    have hxs : ((⟨x.toArray⟩ : ByteArray).size : Int) = x.length := by show ((x.toArray.size : Nat) : Int) = _; simp
    have HLO := Lib.hid (fun (w' : World) (hw' : Below w3.heap.size w3 w') => (show Calls Tryz.prog 31 #[.string o] w' (fun e w1 => e = .returned (.string ⟨x.toArray⟩) ∧ Below w'.heap.size w' w1) from HX.out ▸ letters_impl o w' hos (HM3.out.next hw')))
    clear hb1 hb2 hb3 ho3 hB3 hm1 hk1 hk2
    refine region_below (w3.heap.size) (by kernel_rfl) (by kernel_rfl) ?_
    refine below_run (by kernel_rfl) (.pointer (some ⟨w.heap.size + 1, 27, none⟩)) (fun w' hw' => by kernel_rfl) ?_
    refine below_run (by kernel_rfl) (.int .i16 p.base) (fun w' hw' => exec_load1 30 (.tmp 38) rfl ⟨w.heap.size + 1, 27, none⟩ (by kernel_rfl) (.int .i16 p.base) ((HK23.out.next hw').cell 27 _ (pcV_base HP.out)) _ Tryz.underlying30 rfl) ?_
    refine below_run (by kernel_rfl) (.int .i64 p.base) (fun w' hw' => Eq.trans (show (execOp _ _).run _ w' = .ok (.value (.int .i64 (IntKind.i64.wrap p.base))) w' by kernel_rfl) (by rw [hcb])) ?_
    refine below_run (by kernel_rfl) (.pointer (some ⟨w.heap.size + 1, 28, none⟩)) (fun w' hw' => by kernel_rfl) ?_
    refine below_run (by kernel_rfl) (.int .i16 p.fill) (fun w' hw' => exec_load1 30 (.tmp 41) rfl ⟨w.heap.size + 1, 28, none⟩ (by kernel_rfl) (.int .i16 p.fill) ((HK23.out.next hw').cell 28 _ (pcV_fill HP.out)) _ Tryz.underlying30 rfl) ?_
    refine below_run (by kernel_rfl) (.int .i64 p.fill) (fun w' hw' => Eq.trans (show (execOp _ _).run _ w' = .ok (.value (.int .i64 (IntKind.i64.wrap p.fill))) w' by kernel_rfl) (by rw [hcf])) ?_
    refine below_run (by kernel_rfl) (.string o) (fun w' hw' => by kernel_rfl) ?_
    refine below_call (by kernel_rfl) 31 #[.string o] (.string ⟨x.toArray⟩) (fun w' => by kernel_rfl) (fun w' hw' => (HLO.out w' hw').mono fun e w1 ⟨he, hb1⟩ => ⟨he, below_step hw' hb1⟩) ?_
    refine below_run (by kernel_rfl) (.int .i64 x.length) (fun w' hw' => Eq.trans (show (execOp _ _).run _ w' = .ok (.value (.int .i64 ((⟨x.toArray⟩ : ByteArray).size : Nat))) w' by kernel_rfl) (by rw [hxs])) ?_
    refine below_run (by kernel_rfl) (.int .i64 K.length) (fun w' hw' => by kernel_rfl) ?_
    refine below_run (by kernel_rfl) (.int .i64 ((x.length : Int) - (K.length : Int))) (fun w' hw' => Eq.trans (show (execOp _ _).run _ w' = .ok (.value (.int .i64 (IntKind.i64.wrap ((x.length : Int) - (K.length : Int))))) w' by kernel_rfl) (by rw [hs1])) ?_
    refine below_run (by kernel_rfl) (.int .i64 (p.fill * ((x.length : Int) - (K.length : Int)))) (fun w' hw' => Eq.trans (show (execOp _ _).run _ w' = .ok (.value (.int .i64 (IntKind.i64.wrap (p.fill * ((x.length : Int) - (K.length : Int)))))) w' by kernel_rfl) (by rw [hs2])) ?_
    refine below_run (by kernel_rfl) (.int .i64 (rcS f p x y pa qa d 0)) (fun w' hw' => Eq.trans (show (execOp _ _).run _ w' = .ok (.value (.int .i64 (IntKind.i64.wrap (p.base + p.fill * ((x.length : Int) - (K.length : Int)))))) w' by kernel_rfl) (by rw [hs3])) ?_
    refine below_run (by kernel_rfl) (.int .i64 (rcS f p x y pa qa d 0)) (fun w' hw' => by kernel_rfl) ?_
    refine wpQuiet_nil ?_
    intro W4 hW4
    simp only [Act.put, List.setIfInBounds_toArray, List.set_cons_succ, List.set_cons_zero]
    have HK14 := Lib.hid (HK13.out.next hW4)
    have HK24 := Lib.hid (HK23.out.next hW4)
    have HM4 := Lib.hid (HM3.out.next hW4)
    have HO4 := Lib.hid (HO3.out.next hW4)
    have HB4 := Lib.hid (below_step HBW.out hW4)
    clear hW4 hcb hcf hs1 hs2 hs3 hxs
    go_wp2_with (go_at_call 31; refine (letters_impl s _ hs HM4.out).mono ?_; rw [← HY.out]; rintro e w5 ⟨rfl, hb⟩)
    have hs2 : (⟨y.toArray⟩ : ByteArray).size = y.length := by show y.toArray.size = _; simp
    have hb2 := Lib.bytesWorld_below w5 5 ⟨y.toArray⟩
    have hcb : ∀ k, k < y.length → (Lib.bytesWorld w5 5 ⟨y.toArray⟩).cell? ⟨w5.heap.size, k, none⟩ = some (.int .u8 (byt y k)) := fun k hk => by
      rw [Lib.bytesWorld_cell w5 _ _ k (by rw [hs2]; exact hk)]
      rfl
    have hsz2 := Lib.bytesWorld_size w5 5 ⟨y.toArray⟩
    have hbw := below_step hb hb2
    have hzb : w5.heap.size < (Lib.bytesWorld w5 5 ⟨y.toArray⟩).heap.size := by rw [hsz2]; omega
    generalize Lib.bytesWorld w5 5 ⟨y.toArray⟩ = W6 at *
    generalize grownCap w5 y.length 0 5 = cg
    have HCB := Lib.hid hcb
    have HK16 := Lib.hid (HK14.out.next hbw)
    have HK26 := Lib.hid (HK24.out.next hbw)
    have HO6 := Lib.hid (HO4.out.next hbw)
    have HB6 := Lib.hid (below_step HB4.out hbw)
    clear kc hs2 hb2 hsz2 hcb hb hbw
    generalize w5.heap.size = g1 at *
    go_loopw [14, 55] (fun u i wr => ∃ k : Nat, k ≤ y.length ∧ i = .int .i64 (k : Int) ∧ u = .int .i64 (rcS f p x y pa qa d k) ∧ Below W6.heap.size W6 wr) (fun _ i _ => y.length - (intOf i).toNat)
    case atStart => exact ⟨0, Nat.zero_le _, rfl, rfl, Below.refl _ _⟩
    case round =>
      obtain ⟨k, hk, rfl, rfl, hbel⟩ := hrel
      by_cases hlt : k < y.length
      · have hcell := (hbel.cell (p := ⟨g1, k, none⟩) hzb).trans (HCB.out k hlt)
        have HMK := Lib.hid (HKM.out k hlt)
        have hr0 := HRG.out k hk
        have hr1 := HRG.out (k + 1) hlt
        have hlr := letP_range HV.out HPV.out (HLY.out k hlt)
        cases hkb : kbN x y pa qa d k x.length
        · have HN2 := Lib.hid (rcS_no (f := f) (p := p) hkb)
          rw [hkb] at HMK
          clear hkb
          go_wp2_with fail
          go_at_call 32
          refine (contains64_any A3 _ c3 K k _ rfl (by omega) (HO6.out.next hbel).sl).mono ?_
          rintro e w6 ⟨rfl, hb6⟩
          rw [HMK.out]
          have hbel6 := below_step hbel hb6
          have hk1 := HK16.out.next hbel6
          have hk2 := HK26.out.next hbel6
          go_wp2_with (first
            | (refine wpList_load_row rfl 33 (.tmp 5) rfl _ rfl 33 (pcV p).toArray _ _ hk2 Tryz.underlying33 rfl HZ2.out ?_)
            | (refine wpList_load_row rfl 28 (.tmp 4) rfl _ rfl 28 (fcV f (.slice A n c)).toArray _ _ hk1 Tryz.underlying28 rfl HZ.out ?_)
            | (go_at_call 33; refine (costL_impl f p A n c y k _ HF.out HP.out HV.out HPV.out (HLY.out k hlt)).mono ?_; rintro e w7 ⟨rfl, hb7⟩))
          go_roundw
          case rel => exact ⟨k + 1, by omega, by go_num, by rw [HN2.out], below_step hbel6 hb7⟩
          case measure => simp [intOf]; omega
        · have HN2 := Lib.hid (rcS_yes (f := f) (p := p) hkb)
          rw [hkb] at HMK
          clear hkb
          go_wp2_with (go_at_call 32; refine (contains64_any A3 _ c3 K k _ rfl (by omega) (HO6.out.next hbel).sl).mono ?_; rintro e w6 ⟨rfl, hb6⟩; rw [HMK.out])
          go_roundw
          case rel => exact ⟨k + 1, by omega, by go_num, by rw [HN2.out], below_step hbel hb6⟩
          case measure => simp [intOf]; omega
      · obtain rfl : k = y.length := by omega
        have HFI := Lib.hid (below_step HB6.out hbel)
        go_wp2
        go_ret2
        exact ⟨rfl, HFI.out⟩
  · have HO := Lib.hid (show rcR f p (bs o) (bs s) = (0, cd) by
      have e1 : cd = 1 := by
        have := hcd
        unfold rcC at this
        split at this
        · exact absurd this h0
        · exact this
      unfold rcR; rw [if_neg (by rw [← hcd]; exact h0), e1])
    clear hcd
    rw [HO.out]
    go_enter Tryz.func11, Tryz.ntmps11
    go_wp2_with (first
      | (refine wpList_load_row rfl 28 (.tmp 4) rfl _ rfl 28 (fcV f (.slice A n c)).toArray _ _ hk1 Tryz.underlying28 rfl HZ.out ?_)
      | (refine wpList_load_row rfl 33 (.tmp 5) rfl _ rfl 33 (pcV p).toArray _ _ hk2 Tryz.underlying33 rfl HZ2.out ?_)
      | (go_at_call 29; refine (priceCode_any f p A _ n c 2 2 [bs o, bs s] _ HF.out HP.out HN.out hm rfl (by omega) HLS.out HS.out HSL0.out HM.out).mono ?_; rintro e w1 ⟨he, hb1⟩; rw [pccN_two, ← HC.out] at he; subst he; have hk1 := HK1.out.next hb1)
      | fail)
    go_ret2
    exact ⟨rfl, below_step HBB.out hb1⟩
end Go.Proofs.YtpindajpdkpfjaaGreatDoor
