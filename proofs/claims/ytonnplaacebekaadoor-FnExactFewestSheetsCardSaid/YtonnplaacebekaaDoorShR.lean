/- Contracts: slices.Repeat of one number, slices.Max. -/
import Derived.Test.YtonnplaacebekaaDoorShH
import Derived.Test.YtonnplaacebekaaDoorGA
import Derived.Test.YtonnplaacebekaaDoorMul
import Derived.Deep.RegionLaw
import Derived.Laws.CopyOwn
import Derived.IntWalk


namespace Go.Proofs.YtonnplaacebekaaDoor
open Go Go.RowKit
set_option linter.unusedVariables false
set_option linter.unusedSimpArgs false

/-- The first m cells are x. -/
def RepAt (x : Value) (vs : List Value) (L m : Nat) : Prop := vs.length = L ∧ vs.take m = List.replicate m x
theorem repAt_splice {x : Value} {vs : List Value} {L m q : Nat} (h : RepAt x vs L m) (hq : m + q ≤ L) : RepAt x (splice vs m (List.replicate q x)) L (m + q) := by
  obtain ⟨h1, h2⟩ := h
  unfold splice
  constructor
  · simp [h1]; omega
  · rw [h2, List.length_replicate, ← List.append_assoc, List.replicate_append_replicate, List.take_left' (by simp)]
theorem repAt_at {x : Value} {vs : List Value} {L m j : Nat} (h : RepAt x vs L m) (hj : j < m) : vs[j]? = some x := by
  have := List.getElem?_take_of_lt (l := vs) hj
  rw [← this, h.2]
  simp [hj]
theorem repAt_zero {x : Value} {vs : List Value} : RepAt x vs vs.length 0 := ⟨rfl, by simp⟩
theorem repAt_end {x : Int} {vs : List Value} {L n : Nat} (h : RepAt (i64 x) vs L n) : vs = (List.replicate n x).map i64 ++ vs.drop n := by
  have := List.take_append_drop n vs
  rw [h.2] at this
  rw [List.map_replicate]
  exact this.symm

theorem rep_made {w w1 : World} {n b : Nat} {x : Int} (ho : w1.ownsRow w.heap.size 2 1 (.slice (some ⟨w.heap.size, 0, none⟩) n n) n (madeCells (Value.int .i64 0).cells (n * 1)).toList) (hg : w.grownBy w1 none) (hb : w.cell? ⟨b, 0, none⟩ = some (.int .i64 x)) :
    ∃ vs, Blk w1 w.heap.size 2 vs ∧ n ≤ vs.length ∧ w1.cell? ⟨b, 0, none⟩ = some (.int .i64 x) ∧ Below w.heap.size w w1 := by
  have hB : Below w.heap.size w w1 := ⟨hg.os, hg.tape, hg.output, hg.size, fun k hk => hg.block k hk (by simp)⟩
  obtain ⟨_, hvl, cs, hbk⟩ := own_at ho
  refine ⟨_, hbk, ?_, ?_, hB⟩
  · rw [List.length_append]; omega
  · rw [hB.cell (World.block_lt_of_cell? w _ hb)]; exact hb
theorem rep_cells {w : World} {b n : Nat} {x : Value} (h : w.cell? ⟨b, 0, none⟩ = some x) : ∀ j v, (List.replicate (min n 1) x)[j]? = some v → w.cell? ((⟨b, 0, none⟩ : Addr).add j) = some v := by
  intro j v hv
  rw [List.getElem?_replicate] at hv
  split at hv
  · have : j = 0 := by omega
    subst this
    cases hv
    exact h
  · cases hv

theorem rep_src {wr : World} {g m q L : Nat} {x : Value} {us : List Value} (hbk : Blk wr g 2 us) (h : RepAt x us L m) (hq : q ≤ m) : ∀ j v, (List.replicate q x)[j]? = some v → wr.cell? ((⟨g, 0, none⟩ : Addr).add j) = some v := by
  intro j v hv
  rw [List.getElem?_replicate] at hv
  split at hv
  · cases hv
    have hadd : (⟨g, 0, none⟩ : Addr).add j = ⟨g, j, none⟩ := by unfold Addr.add; split <;> simp_all
    rw [hadd]
    exact hbk.cell j _ (repAt_at h (by omega))
  · cases hv

set_option maxHeartbeats 1000000 in
set_option maxRecDepth 100000 in
/-- slices.Repeat of one number. -/
theorem repeat_any (b n : Nat) (x : Int) (w : World) (hn : n ≤ 60) (hb : w.cell? ⟨b, 0, none⟩ = some (.int .i64 x)) :
    Calls Tryd.prog 88 #[.slice (some ⟨b, 0, none⟩) 1 1, .int .i64 n] w fun e w' => ∃ g cs, e = .returned (.slice (some ⟨g, 0, none⟩) n n) ∧ w.heap.size ≤ g ∧ Blk w' g 2 ((List.replicate n x).map i64 ++ cs) ∧ Below w.heap.size w w' := by
  obtain ⟨i, hi, hz, hsz, hby⟩ := info_parts elI.info
  have hc1 : (IntKind.u64.wrap (n : Int)) = (n : Int) := by simp [IntKind.wrap, IntKind.bits, IntKind.signed]; omega
  go_enter Tryd.func88, Tryd.ntmps88
  go_wp2_with (first
    | (go_at_call 114; refine (mul_any n hn _).mono ?_; rintro e w' ⟨rfl, rfl⟩)
    | (refine wpList_make_full _ rfl (.tmp 29) (.tmp 29) _ rfl w.heap.size 2 i (.int .i64 0) 1 Tryd.underlying31 hi hz hsz .i64 .i64 (n : Int) (n : Int) n rfl rfl rfl rfl (by rw [hby]; omega) (by unfold maxLen; omega) (Nat.le_refl _) ?_; intro w1 ho hg; have HF := Lib.hid (rep_made ho hg hb); obtain ⟨vs, hbk, hvn, hcx, hB⟩ := HF.out; clear HF ho hg)
    | (refine wpList_copy_splice rfl (.tmp 31) (.tmp 32) 31 31 rfl 2 Tryd.underlying31 (by kernel_rfl) (some ⟨w.heap.size, 0, none⟩) (some ⟨b, 0, none⟩) n n 1 1 rfl rfl w.heap.size 0 vs 2 hbk (List.replicate (min n 1) (.int .i64 x)) (by rw [List.length_replicate]; show _ = min _ _; omega) (fun _ => ⟨rfl, _, rfl, rep_cells hcx⟩) (by rw [List.length_replicate]; omega) (fun v hv => by rw [List.eq_of_mem_replicate hv]; rfl) w.heap.size w hB (Nat.le_refl _) ?_; intro w2 hg2 hb2))
  have hst : RepAt (.int .i64 x) (splice vs 0 (List.replicate (min n 1) (.int .i64 x))) vs.length (0 + min n 1) := repAt_splice (x := .int .i64 x) repAt_zero (by omega)
  rw [Nat.zero_add] at hst
  clear hbk hcx hB hc1
  go_loopw [8] (fun s wr => ∃ (m : Nat) (us : List Value), s = .int .i64 (m : Int) ∧ m ≤ n ∧ (0 < n → 0 < m) ∧ RepAt (.int .i64 x) us vs.length m ∧ Blk wr w.heap.size 2 us ∧ Below w.heap.size w wr) (fun s _ => n - (intOf s).toNat)
  case atStart => exact ⟨min n 1, _, rfl, by omega, by omega, hst, hg2.out, hb2⟩
  case round =>
    clear hst hg2 hb2 w1
    obtain ⟨m, us, rfl, hmn, hpos, hrep, hbk, hbel⟩ := hrel
    by_cases hlt : m < n
    · have hp := hpos (by omega)
      obtain ⟨q, hq⟩ : ∃ q, q = min m (n - m) := ⟨_, rfl⟩
      have HQ := Lib.hid (repAt_splice (x := .int .i64 x) (q := q) hrep (by omega))
      have HL := Lib.hid hrep.1
      have HE := Lib.hid hq
      have HA := Lib.hid (rep_src (q := q) hbk hrep (by omega))
      have hqm : q ≤ m := by omega
      have hqn : m + q ≤ n := by omega
      have hwr : IntKind.i64.wrap ((m : Int) + (q : Int)) = (m : Int) + (q : Int) := IntWalk.i64_in _ (by omega)
      have hbd : Below w.heap.size w wr.drew := below_drewN hbel 1
      have hq1 : 1 ≤ q := by omega
      have hnm : ¬ n = m := by omega
      clear hrep hpos hq
      go_wp2
      go_region_law (refine step_copy_splice rfl (.tmp 41) (.tmp 44) 31 31 rfl 2 Tryd.underlying31 (by kernel_rfl) (some ⟨w.heap.size, m, none⟩) (some ⟨w.heap.size, 0, none⟩) (n - m) (n - m) m n (by simp [Act.eval, Act.put]) (by simp [Act.eval, Act.put]) w.heap.size m us 2 hbk (List.replicate q (.int .i64 x)) (by rw [List.length_replicate]; show _ = min _ _; rw [HE.out]) (fun _ => ⟨rfl, _, rfl, HA.out⟩) (by rw [List.length_replicate, HL.out]; omega) (fun v hv => by rw [List.eq_of_mem_replicate hv]; rfl) w.heap.size w hbd (Nat.le_refl _) ?_; intro w2 hg2 hb2)
      simp only [List.getElem_toArray, List.getElem_cons_succ, List.getElem_cons_zero]
      go_simp
      go_wp2
      go_roundw
      case rel => exact ⟨m + q, _, by go_num, by omega, by omega, HQ.out, hg2.out, hb2⟩
      case measure => simp [intOf]; omega
    · obtain rfl : m = n := by omega
      go_wp2
      go_ret
      refine ⟨w.heap.size, us.drop m, rfl, Nat.le_refl _, ?_, hbel⟩
      rw [← repAt_end hrep]
      exact hbk

/-- The greatest of the first k numbers. -/
def mxI (xs : List Int) : Nat → Int
  | 0 => rdI xs 0
  | k + 1 => max (mxI xs k) (rdI xs k)
theorem mxI_le (xs : List Int) : ∀ k i, i < k → rdI xs i ≤ mxI xs k
  | 0, i, h => absurd h (Nat.not_lt_zero _)
  | k + 1, i, h => by
    rw [mxI]
    by_cases e : i = k
    · subst e; omega
    · have := mxI_le xs k i (by omega); omega
theorem mxI_mem (xs : List Int) : ∀ k, 0 < k → ∃ i, i < k ∧ rdI xs i = mxI xs k
  | 1, _ => ⟨0, by omega, by rw [mxI, mxI]; omega⟩
  | k + 2, _ => by
    obtain ⟨i, hi, e⟩ := mxI_mem xs (k + 1) (by omega)
    rw [mxI]
    by_cases h : mxI xs (k + 1) ≤ rdI xs (k + 1)
    · exact ⟨k + 1, by omega, by omega⟩
    · exact ⟨i, by omega, by omega⟩
set_option maxHeartbeats 1000000 in
set_option maxRecDepth 100000 in
theorem max_any (A : Option Addr) (n c : Nat) (xs : List Int) (w : World) (hn : xs.length = n) (h0 : 0 < n) (hm : n ≤ 1048576) (hs : SlE i64 w A xs) :
    Calls Tryd.prog 89 #[.slice A n c] w fun e w' => e = .returned (.int .i64 (mxI xs n)) ∧ Below w.heap.size w w' := by
  have HN := Lib.hid hn
  have HS := Lib.hid hs
  obtain ⟨a, rfl, hrow⟩ := hs.some 0 (by omega)
  have hcell : w.cell? a = some (.int .i64 (rdI xs 0)) := by
    have e : a.add 0 = a := by unfold Addr.add; split <;> simp_all
    have := hrow.atI64 0 (by omega)
    rwa [e] at this
  have hn1 : ¬ (n : Int) < 1 := by omega
  clear hn hs hrow
  go_enter Tryd.func89, Tryd.ntmps89
  go_wp2
  have h1 : mxI xs 1 = rdI xs 0 := by rw [mxI, mxI]; omega
  go_loopw [3, 4] (fun m i wr => ∃ k : Nat, k ≤ n ∧ 1 ≤ k ∧ i = .int .i64 k ∧ m = .int .i64 (mxI xs k) ∧ Below w.heap.size w wr) (fun _ i _ => n - (intOf i).toNat)
  case atStart => exact ⟨1, by omega, by omega, rfl, by rw [h1], Below.refl _ _⟩
  clear hcell h1
  case round =>
    obtain ⟨k, hk, hk1, rfl, rfl, hbel⟩ := hrel
    by_cases hlt : k < n
    · obtain ⟨a', ea, hrow⟩ := (HS.out.next hbel).some k (by rw [HN.out]; exact hlt)
      cases ea
      have hcell := hrow.atI64 k (by rw [HN.out]; exact hlt)
      have HX := Lib.hid (show mxI xs (k + 1) = max (mxI xs k) (rdI xs k) from rfl)
      clear hrow
      go_wp2
      go_roundw
      case rel => exact ⟨k + 1, by omega, by omega, by go_num, by rw [HX.out], hbel⟩
      case measure => simp [intOf]; omega
    · obtain rfl : k = n := by omega
      go_wp2
      go_ret
      exact ⟨rfl, hbel⟩

section
variable {P : Program} {ops : Array Oper} {Q : Exit → Act → World → Prop} {a : Act} {w W : World} {B : Nat}
/-- A new slice of one element and a call side by side, a value that leans on the call: any of the orders. -/
theorem held_slice_call {fuel : Nat} {listed : Array Bool} {oi oj ok : Oper} (j i k : Nat) (f : FuncId) (args : Array Value) (v u : Value) (ty : TypeId) (z : List Value) (hj : ops[j]? = some oj) (hi : ops[i]? = some oi) (hk : ops[k]? = some ok) (hij : i ≠ j) (hjk : j ≠ k)
    (hr : Region.ready .any ops listed = [j, i]) (hrj : Region.ready .any ops (listed.setIfInBounds j true) = [i])
    (hs : Region.noSelect ops = true) (hfk : Region.free .any ops (listed.setIfInBounds i true) k = true) (hrk : (Region.ready .any ops (listed.setIfInBounds i true)).contains k = true)
    (hfk2 : Region.free .any ops ((listed.setIfInBounds i true).setIfInBounds j true) k = true) (hrk2 : (Region.ready .any ops ((listed.setIfInBounds i true).setIfInBounds j true)).contains k = true)
    (hrjk : Region.ready .any ops ((listed.setIfInBounds i true).setIfInBounds k true) = [j])
    (hQ : ∀ c a w, Q (.panic c) (a.put ok.dst u) w → Q (.panic c) a w) (hgi : oi.guard = none) (hgj : oj.guard = none) (hgk : ok.guard = none)
    (he0 : ∀ w', (execOp a.eval oi).run P w' = .ok (.enter f args) w') (he1 : ∀ p w', (execOp (a.put oj.dst p).eval oi).run P w' = .ok (.enter f args) w')
    (hal0 : ∀ w', (execOp a.eval oj).run P w' = .ok (.value (.slice (some ⟨w'.heap.size, 0, none⟩) 1 1)) (w'.alloc (.cells z.toArray ty)))
    (hal1 : ∀ w', (execOp ((a.put oi.dst v).put ok.dst u).eval oj).run P w' = .ok (.value (.slice (some ⟨w'.heap.size, 0, none⟩) 1 1)) (w'.alloc (.cells z.toArray ty)))
    (hv1 : ∀ w', Below B W w' → (execOp (a.put oi.dst v).eval ok).run P w' = .ok (.value u) w') (hv2 : ∀ p w', Below B W w' → (execOp ((a.put oi.dst v).put oj.dst p).eval ok).run P w' = .ok (.value u) w')
    (hc : ∀ w', Below B W w' → Calls P f args w' fun e w'' => e = .returned v ∧ Below w'.heap.size w' w'') (hB : B ≤ w.heap.size) (hS : Below B W w)
    (hcm : ∀ p, (a.put oi.dst v).put oj.dst p = (a.put oj.dst p).put oi.dst v) (hcm2 : ∀ p, ((a.put oi.dst v).put ok.dst u).put oj.dst p = ((a.put oi.dst v).put oj.dst p).put ok.dst u)
    (h : ∀ b w', Below B W w' → B ≤ b → Blk w' b ty z → wpAnyH P .any ops Q (fun w' => Below B W w') fuel (((listed.setIfInBounds i true).setIfInBounds j true).setIfInBounds k true) (((a.put oi.dst v).put oj.dst (.slice (some ⟨b, 0, none⟩) 1 1)).put ok.dst u) w') :
    wpAnyH P .any ops Q (fun w' => Below B W w') (fuel + 1 + 1 + 1) listed a w := by
  have hwi : ∀ y, Region.wanted oi y = true := fun y => by simp [Region.wanted, hgi]
  have hwj : ∀ y, Region.wanted oj y = true := fun y => by simp [Region.wanted, hgj]
  have hwk : ∀ y, Region.wanted ok y = true := fun y => by simp [Region.wanted, hgk]
  refine wpAnyH_all hr (by simp) fun q hq => ?_
  simp only [List.mem_cons, List.not_mem_nil, or_false] at hq
  rcases hq with rfl | rfl
  · refine wpOp_step hj fun K' hK => ?_
    rw [if_pos (hwj _)]
    unfold Oper.wp
    rw [hal0, Oper.upon_value]
    have hS1 := hS.alloc hB (.cells z.toArray ty)
    refine hK _ _ ⟨hS1, ?_⟩
    refine wpAnyH_all hrj (by simp) fun q hq => ?_
    obtain rfl := List.mem_singleton.1 hq
    refine wpOp_step hi fun K2 hK2 => ?_
    rw [if_pos (hwi _)]
    unfold Oper.wp
    rw [he1, Oper.upon_enter]
    refine (hc _ hS1).mono ?_
    rintro e w2 ⟨rfl, hb2⟩
    have hS2 := hS1.trans (hb2.mono (by simp; omega))
    refine hK2 _ _ ⟨hS2, ?_⟩
    rw [← hcm, Array.setIfInBounds_comm true true hij.symm]
    exact held_take k u hk hs hfk2 hrk2 hQ (hwk _) (hv2 _) hS2 (h _ _ hS2 hB ((Blk.new w ty z).next hb2))
  · refine wpOp_step hi fun K' hK => ?_
    rw [if_pos (hwi _)]
    unfold Oper.wp
    rw [he0, Oper.upon_enter]
    refine (hc w hS).mono ?_
    rintro e w1 ⟨rfl, hb1⟩
    have hS1 := hS.trans (hb1.mono hB)
    have hz1 := hb1.size
    refine hK _ _ ⟨hS1, ?_⟩
    refine held_take k u hk hs hfk hrk hQ (hwk _) hv1 hS1 ?_
    refine wpAnyH_all hrjk (by simp) fun q hq => ?_
    obtain rfl := List.mem_singleton.1 hq
    refine wpOp_step hj fun K2 hK2 => ?_
    rw [if_pos (hwj _)]
    unfold Oper.wp
    rw [hal1, Oper.upon_value]
    have hS2 := hS1.alloc (show B ≤ w1.heap.size by omega) (.cells z.toArray ty)
    refine hK2 _ _ ⟨hS2, ?_⟩
    rw [hcm2, ← Array.setIfInBounds_comm true true hjk]
    exact h _ _ hS2 (by omega) (Blk.new w1 ty z)
end
end Go.Proofs.YtonnplaacebekaaDoor
