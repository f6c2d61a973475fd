/- Prices, plain: what is valid, what letters and texts cost. No walk here. Contracts: what letters and texts cost, words joined, by the reference. Contracts: prices, by the program: what is valid, over closures on small numbers and on texts. Contracts: prices, by the program: what is valid, what letters and texts cost. Contracts: as many words as a budget buys, by the reference, by the program. -/
import Derived.Test.YtdhngjjfoddnkaaGreatDoorShP
import Derived.Test.YtdhngjjfoddnkaaGreatDoorShA
import Derived.Test.YtdhngjjfoddnkaaGreatDoorGC
import Derived.Test.YtdhngjjfoddnkaaGreatDoorGO
import Derived.Test.YtdhngjjfoddnkaaGreatDoorAppN
import Derived.Test.YtdhngjjfoddnkaaGreatDoorShY
import Derived.Shelf.Abstract
import Derived.Lib.ConvBytes
import Derived.Lib.AtoiErrMem
import Derived.Test.YtdhngjjfoddnkaaGreatDoorGG
namespace Go.Proofs.YtdhngjjfoddnkaaGreatDoor
open Go Go.RowKit
set_option linter.unusedVariables false
set_option linter.unusedSimpArgs false

structure Pc where
  lett : List Int
  gold : Int
  base : Int
  fill : Int
/-- Prices of Go's. -/
structure PcT (p : Pc) : Prop where
  len : p.lett.length = 26
  lett : ∀ i, i < 26 → -32768 ≤ rdI p.lett i ∧ rdI p.lett i ≤ 32767
  gold : -32768 ≤ p.gold ∧ p.gold ≤ 32767
  base : -32768 ≤ p.base ∧ p.base ≤ 32767
  fill : -32768 ≤ p.fill ∧ p.fill ≤ 32767
def AllLt (p : Pc) (k : Nat) : Prop := ∀ i, i < k → inB 0 1000 (rdI p.lett i) = true
instance (p : Pc) (k : Nat) : Decidable (AllLt p k) := by unfold AllLt; infer_instance
def pcOk (p : Pc) : Bool := decide (AllLt p 26) && inB 0 1000 p.gold && inB 0 1000 p.base && inB 0 1000 p.fill
structure PcV (p : Pc) : Prop where
  lett : ∀ i, i < 26 → 0 ≤ rdI p.lett i ∧ rdI p.lett i ≤ 1000
  gold : 0 ≤ p.gold ∧ p.gold ≤ 1000
  base : 0 ≤ p.base ∧ p.base ≤ 1000
  fill : 0 ≤ p.fill ∧ p.fill ≤ 1000
theorem pcOk_iff {p : Pc} : pcOk p = true ↔ PcV p := by
  unfold pcOk
  simp only [Bool.and_eq_true, decide_eq_true_iff, inB_iff]
  constructor
  · rintro ⟨⟨⟨h1, h2⟩, h3⟩, h4⟩
    exact ⟨fun i hi => inB_iff.1 (h1 i hi), h2, h3, h4⟩
  · rintro ⟨h1, h2, h3, h4⟩
    exact ⟨⟨⟨fun i hi => inB_iff.2 (h1 i hi), h2⟩, h3⟩, h4⟩
theorem allLt_zero (p : Pc) : AllLt p 0 := fun i hi => by omega
theorem allLt_succ {p : Pc} {k : Nat} (h : AllLt p k) (hk : inB 0 1000 (rdI p.lett k) = true) : AllLt p (k + 1) := fun j hj => by
  rcases Nat.lt_succ_iff_lt_or_eq.1 hj with h1 | rfl
  · exact h j h1
  · exact hk
theorem pc_lt {p : Pc} {k : Nat} (hk : k < 26) (h : inB 0 1000 (rdI p.lett k) = false) : pcOk p = false := by
  unfold pcOk
  rw [decide_eq_false (fun hh : AllLt p 26 => by rw [hh k hk] at h; cases h)]; rfl
theorem pc_all {p : Pc} (h : AllLt p 26) : pcOk p = (inB 0 1000 p.gold && inB 0 1000 p.base && inB 0 1000 p.fill) := by
  unfold pcOk; rw [decide_eq_true h]; rfl
/-- What a letter costs, what so many letters of a list cost with the base. -/
def letP (f : Fc) (p : Pc) (n : Int) : Int := rdI p.lett (n - 65).toNat + p.gold * letW f n
def prcN (f : Fc) (p : Pc) (l : List UInt8) : Nat → Int
  | 0 => p.base
  | k + 1 => prcN f p l k + letP f p (byt l k)
def prcW (f : Fc) (p : Pc) (l : List UInt8) : Int := prcN f p (lets l) (lets l).length
theorem mul_range {a b : Int} (ha : 0 ≤ a ∧ a ≤ 1000) (hb : 1 ≤ b ∧ b ≤ 40) : 0 ≤ a * b ∧ a * b ≤ 40000 := by
  refine ⟨Int.mul_nonneg ha.1 (by omega), ?_⟩
  calc a * b ≤ 1000 * b := Int.mul_le_mul_of_nonneg_right ha.2 (by omega)
    _ ≤ 40000 := by omega
theorem letP_range {f : Fc} {p : Pc} (hf : FcV f) (hp : PcV p) {n : Int} (hn : isLet n = true) : 0 ≤ letP f p n ∧ letP f p n ≤ 41000 ∧ 0 ≤ p.gold * letW f n ∧ p.gold * letW f n ≤ 40000 := by
  have h1 := isLet_iff.1 hn
  have h2 := letW_range hf hn
  have h3 := hp.lett (n - 65).toNat (by omega)
  have h4 := mul_range hp.gold h2
  unfold letP
  omega
theorem prcN_range {f : Fc} {p : Pc} (hf : FcV f) (hp : PcV p) {l : List UInt8} (hl : LL l) : ∀ k, k ≤ l.length → 0 ≤ prcN f p l k ∧ prcN f p l k ≤ 1000 + 41000 * (k : Int)
  | 0, _ => by
    have := hp.base
    rw [prcN]; omega
  | k + 1, hk => by
    have h1 := prcN_range hf hp hl k (by omega)
    have h2 := letP_range hf hp (hl k (by omega))
    rw [prcN]; push_cast; omega
theorem prcW_range {f : Fc} {p : Pc} (hf : FcV f) (hp : PcV p) {l : List UInt8} (hl : LS l) (h60 : l.length ≤ 60) : 0 ≤ prcW f p l ∧ prcW f p l ≤ 2461000 := by
  have h1 := prcN_range hf hp (lets_ll hl) _ (Nat.le_refl _)
  have h2 := lets_length l
  unfold prcW
  omega
/-- The code of a face, prices and a text, and whether a number is as told. -/
def pcC (f : Fc) (p : Pc) (l : List UInt8) (fine : Bool) : Int := if validF f && pcOk p && vText l then (if fine then 0 else 2) else 1
theorem pcC_f {f : Fc} {p : Pc} {l : List UInt8} {b : Bool} (h : validF f = false) : pcC f p l b = 1 := by unfold pcC; rw [h]; rfl
theorem pcC_p {f : Fc} {p : Pc} {l : List UInt8} {b : Bool} (h : pcOk p = false) : pcC f p l b = 1 := by unfold pcC; rw [h]; simp
theorem pcC_t {f : Fc} {p : Pc} {l : List UInt8} {b : Bool} (h : vText l = false) : pcC f p l b = 1 := by unfold pcC; rw [h]; simp
theorem pcC_ok {f : Fc} {p : Pc} {l : List UInt8} {b : Bool} (h : validF f = true) (k : pcOk p = true) (t : vText l = true) : pcC f p l b = if b then 0 else 2 := by unfold pcC; rw [h, k, t]; rfl
theorem pcC_zero {f : Fc} {p : Pc} {l : List UInt8} {b : Bool} (h : pcC f p l b = 0) : validF f = true ∧ pcOk p = true ∧ vText l = true ∧ b = true := by
  unfold pcC at h
  split at h
  · rename_i hh
    simp only [Bool.and_eq_true] at hh
    split at h
    · exact ⟨hh.1.1, hh.1.2, hh.2, by assumption⟩
    · exact absurd h (by decide)
  · exact absurd h (by decide)
theorem pcC_true {f : Fc} {p : Pc} {l : List UInt8} (h : ¬ pcC f p l true = 0) (b : Bool) : pcC f p l b = 1 := by
  unfold pcC at h ⊢
  split
  · rename_i hh; rw [if_pos hh] at h; simp at h
  · rfl

/-! ### In memory -/
def i16v (n : Int) : Value := .int .i16 n
def pcV (p : Pc) : List Value := p.lett.map i16v ++ [.int .i16 p.gold, .int .i16 p.base, .int .i16 p.fill]
theorem pcV_length {p : Pc} (h : PcT p) : (pcV p).length = 29 := by simp [pcV, h.len]
theorem pcV_lett {p : Pc} (h : PcT p) (i : Nat) (hi : i < 26) : (pcV p)[i]? = some (.int .i16 (rdI p.lett i)) := by
  unfold pcV
  rw [List.getElem?_append_left (by simp [h.len]; exact hi), List.getElem?_map, List.getElem?_eq_getElem (by rw [h.len]; exact hi)]
  simp [rdI, List.getD, List.getElem?_eq_getElem (show i < p.lett.length by rw [h.len]; exact hi), i16v]
theorem pcV_gold {p : Pc} (h : PcT p) : (pcV p)[26]? = some (.int .i16 p.gold) := by
  unfold pcV; rw [List.getElem?_append_right (by simp [h.len])]; simp [h.len]
theorem pcV_base {p : Pc} (h : PcT p) : (pcV p)[27]? = some (.int .i16 p.base) := by
  unfold pcV; rw [List.getElem?_append_right (by simp [h.len])]; simp [h.len]
theorem pcV_fill {p : Pc} (h : PcT p) : (pcV p)[28]? = some (.int .i16 p.fill) := by
  unfold pcV; rw [List.getElem?_append_right (by simp [h.len])]; simp [h.len]
theorem one_i16 (xs : List Int) : (xs.map i16v).toArray.all (·.oneCell') = true := by
  rw [Array.all_eq_true_iff_forall_mem]
  intro v hv
  simp only [List.mem_toArray, List.mem_map] at hv
  obtain ⟨n, _, rfl⟩ := hv
  rfl
theorem one_pc (p : Pc) : (pcV p).toArray.all (·.oneCell') = true := by
  rw [Array.all_eq_true_iff_forall_mem]
  intro v hv
  simp only [List.mem_toArray, pcV, List.mem_append, List.mem_map, List.mem_cons, List.not_mem_nil, or_false] at hv
  rcases hv with ⟨n, _, rfl⟩ | rfl | rfl | rfl <;> rfl
end Go.Proofs.YtdhngjjfoddnkaaGreatDoor
namespace Go.Proofs.YtdhngjjfoddnkaaGreatDoor
open Go Go.RowKit
set_option linter.unusedVariables false
set_option linter.unusedSimpArgs false

theorem szI8 : (Tryz.prog.info? 24).map (·.size) = some 1 := by kernel_rfl

theorem str_cat (a b : List UInt8) (hl : a.length + b.length ≤ 100000) (w : World) : (Op.stringOp .add (⟨a.toArray⟩ : ByteArray) ⟨b.toArray⟩).run Tryz.prog w = .ok (.string ⟨(a ++ b).toArray⟩) w := by
  rw [run_string_add_sum w _ _ (by simp [ByteArray.size]; omega), ByteArray.mk_append_mk]
theorem joinW_take {ws : List (List UInt8)} {k : Nat} (hk : k < ws.length) : joinW (ws.take (k + 1)) = if k = 0 then joinW (ws.take k) ++ rdW ws k else joinW (ws.take k) ++ [32] ++ rdW ws k := by
  have e : ws.take (k + 1) = ws.take k ++ [rdW ws k] := by
    rw [List.take_succ_eq_append_getElem hk]
    unfold rdW
    rw [List.getD, List.getElem?_eq_getElem hk]; rfl
  rw [e]
  by_cases h0 : k = 0
  · subst h0
    rw [if_pos rfl, List.take_zero, List.nil_append, joinW_one, joinW_nil, List.nil_append]
  · rw [if_neg h0, joinW_snoc (by intro e2; have h3 := List.length_take (l := ws) (i := k); rw [e2, List.length_nil] at h3; omega)]
    simp
set_option maxHeartbeats 1000000 in
set_option maxRecDepth 100000 in
theorem joined_spec (A : Option Addr) (n c : Nat) (ws : List (List UInt8)) (w : World) (hn : ws.length = n) (hm : n ≤ 60) (h60 : ∀ x ∈ ws, x.length ≤ 60) (hs : SlE sv w A ws) :
    Calls Tryz.prog 55 #[.slice A n c] w fun e w' => e = .returned (.string ⟨(joinW ws).toArray⟩) ∧ Below w.heap.size w w' := by
  have hlen : ∀ k, k ≤ ws.length → (joinW (ws.take k)).length ≤ 61 * k := by
    intro k
    induction k with
    | zero => intro _; simp [joinW_nil]
    | succ k ih =>
      intro hk
      have h1 := ih (by omega)
      have h2 := h60 _ (rdW_mem (show k < ws.length by omega))
      rw [joinW_take (by omega)]
      split
      · rw [List.length_append]; omega
      · rw [List.length_append, List.length_append, List.length_singleton]; omega
  have HLEN := Lib.hid hlen
  have HN := Lib.hid hn
  have H60 := Lib.hid h60
  have HS := Lib.hid hs
  clear hlen hn h60 hs
  go_enter Tryz.func55, Tryz.ntmps55
  go_wp2
  go_loopw [3, 4] (fun u i wr => ∃ k : Nat, k ≤ n ∧ i = .int .i64 k ∧ u = .string ⟨(joinW (ws.take k)).toArray⟩ ∧ Below w.heap.size w wr) (fun _ i _ => n - (intOf i).toNat)
  case atStart => exact ⟨0, Nat.zero_le _, rfl, rfl, Below.refl _ _⟩
  case round =>
    obtain ⟨k, hk, rfl, rfl, hbel⟩ := hrel
    by_cases hlt : k < n
    · have hlw : k < ws.length := by rw [HN.out]; exact hlt
      obtain ⟨a, rfl, hrow⟩ := (HS.out.next hbel).some k hlw
      have hc := hrow.atW k hlw
      have hl1 := HLEN.out k (by omega)
      have hl2 := H60.out _ (rdW_mem hlw)
      clear hrow
      obtain ⟨J, hJ⟩ : ∃ J, J = joinW (ws.take k) := ⟨_, rfl⟩
      rw [← hJ] at hl1 ⊢
      have HJ := Lib.hid hJ
      clear hJ
      by_cases h0 : k = 0
      · have HT := Lib.hid (show joinW (ws.take (k + 1)) = J ++ rdW ws k by rw [joinW_take hlw, if_pos h0, HJ.out])
        have hcat := str_cat J (rdW ws k) (by omega)
        subst h0
        have hc : wr.cell? a = some (.string ⟨(rdW ws 0).toArray⟩) := by simpa [Addr.add] using hc
        go_wp2
        go_roundw
        case rel => exact ⟨0 + 1, by omega, by go_num, by rw [HT.out], hbel⟩
        case measure => simp [intOf]; omega
      · have HT := Lib.hid (show joinW (ws.take (k + 1)) = J ++ [32] ++ rdW ws k by rw [joinW_take hlw, if_neg h0, HJ.out])
        have hcat1 := str_cat J [32] (by simp; omega)
        have hcat2 := str_cat (J ++ [32]) (rdW ws k) (by simp; omega)
        have hpos : 0 < k := by omega
        go_wp2
        go_roundw
        case rel => exact ⟨k + 1, by omega, by go_num, by rw [HT.out, List.append_assoc]; rfl, hbel⟩
        case measure => simp [intOf]; omega
    · obtain rfl : k = n := by omega
      have HT := Lib.hid (show ws.take k = ws by rw [← HN.out, List.take_length])
      go_wp2
      go_ret
      rw [HT.out]
      exact ⟨rfl, hbel⟩
end Go.Proofs.YtdhngjjfoddnkaaGreatDoor
namespace Go.Proofs.YtdhngjjfoddnkaaGreatDoor
open Go Go.RowKit Go.Shelf
set_option linter.unusedVariables false
set_option linter.unusedSimpArgs false

section
variable {P : Program} {ops : Array Oper} {Q : Exit → Act → World → Prop} {a : Act} {w W : World} {B : Nat}
/-- 'append(clone(row), us...)': the call and the new slice side by side, then the append. -/
theorem held_clone_appN {fuel : Nat} {listed : Array Bool} {oi oj ok : Oper} (i j k : Nat) (hi : ops[i]? = some oi) (hj : ops[j]? = some oj) (hk : ops[k]? = some ok) (hij : i ≠ j)
    (r0 : Region.ready .any ops listed = [i, j]) (rI : Region.ready .any ops (listed.setIfInBounds i true) = [j]) (rJ : Region.ready .any ops (listed.setIfInBounds j true) = [i]) (rK : Region.ready .any ops ((listed.setIfInBounds i true).setIfInBounds j true) = [k])
    (gi : oi.guard = none) (gj : oj.guard = none) (gk : ok.guard = none) (f : FuncId) (args : Array Value)
    (he0 : ∀ w', (execOp a.eval oi).run P w' = .ok (.enter f args) w') (he1 : ∀ p w', (execOp (a.put oj.dst p).eval oi).run P w' = .ok (.enter f args) w')
    (s x : Operand) (t : TypeId) (ho : ok.op = .call { callee := .builtin .append, args := #[s, x], argTypes := #[t, t] }) {e : TypeId} {z : Value} {bytes : Nat} (E : El P t e z 1 bytes) (us : List Value) (m : Nat) (hm : us.length = m) (hm0 : 0 < m) (hu : ∀ u ∈ us, u.oneCell' = true)
    (ej0 : ∀ w', (execOp a.eval oj).run P w' = .ok (.value (.slice (some ⟨w'.heap.size, 0, none⟩) m m)) (w'.alloc (.cells us.toArray e)))
    (ej1 : ∀ p w', (execOp (a.put oi.dst p).eval oj).run P w' = .ok (.value (.slice (some ⟨w'.heap.size, 0, none⟩) m m)) (w'.alloc (.cells us.toArray e)))
    (evs : ∀ p q, ((a.put oi.dst p).put oj.dst q).eval s = p) (evx : ∀ p q, ((a.put oi.dst p).put oj.dst q).eval x = q) (cm : ∀ p q, (a.put oj.dst q).put oi.dst p = (a.put oi.dst p).put oj.dst q)
    (n : Nat) (xs : List Value) (hc : ∀ w', Below B W w' → Calls P f args w' fun e' w'' => ∃ v, e' = .returned v ∧ w''.ownsRow w'.heap.size e 1 v n xs ∧ Below w'.heap.size w' w'')
    (hn : n + m ≤ maxLen) (hbytes : (n + m) * bytes ≤ 140737488355328) (hB : B ≤ w.heap.size) (hS : Below B W w)
    (h : ∀ p q v' w', Below B W w' → w'.ownsRow B e 1 v' (n + m) (xs ++ us) → wpAnyH P .any ops Q (fun w' => Below B W w') fuel (((listed.setIfInBounds i true).setIfInBounds j true).setIfInBounds k true) (((a.put oi.dst p).put oj.dst q).put ok.dst v') w') :
    wpAnyH P .any ops Q (fun w' => Below B W w') (fuel + 1 + 1 + 1) listed a w := by
  have last : ∀ (p : Value) (b5 : Nat) (w2 : World), Below B W w2 → w2.ownsRow B e 1 p n xs → Blk w2 b5 e us → B ≤ w2.heap.size →
      wpAnyH P .any ops Q (fun w' => Below B W w') (fuel + 1) ((listed.setIfInBounds i true).setIfInBounds j true) ((a.put oi.dst p).put oj.dst (.slice (some ⟨b5, 0, none⟩) m m)) w2 := by
    intro p b5 w2 hS2 hown hc5 hB2
    refine wpAnyH_all rK (by simp) fun q hq => ?_
    obtain rfl := List.mem_singleton.1 hq
    refine wpOp_append hk gk s x t ho E B p n xs (evs _ _) hown ⟨b5, 0, none⟩ m m us (evx _ _) hm (fun j v hj => ?_) hu hn hbytes hB2 fun v' w' ho' hg => ?_
    · rw [add_mid, Nat.zero_add]
      exact hc5.cell j v hj
    · have hS' := below_own hS2 hown hg (Nat.le_refl _) hB2
      exact ⟨hS', h _ _ v' w' hS' ho'⟩
  have hwi : ∀ y, Region.wanted oi y = true := fun y => by simp [Region.wanted, gi]
  refine wpAnyH_all r0 (by simp) fun q hq => ?_
  simp only [List.mem_cons, List.not_mem_nil, or_false] at hq
  rcases hq with rfl | rfl
  · refine wpOp_step hi fun K' hK => ?_
    rw [if_pos (hwi _)]
    unfold Oper.wp
    rw [he0, Oper.upon_enter]
    refine (hc w hS).mono ?_
    rintro e' w1 ⟨v, rfl, own, hb1⟩
    have hS1 := hS.trans (hb1.mono hB)
    have hz1 := hb1.size
    refine hK _ _ ⟨hS1, ?_⟩
    refine wpAnyH_all rI (by simp) fun q hq => ?_
    obtain rfl := List.mem_singleton.1 hq
    refine wpOp_val hj gj _ _ (ej1 _ w1) ?_
    have hS2 := hS1.alloc (show B ≤ w1.heap.size by omega) (.cells us.toArray e)
    exact ⟨hS2, last _ _ _ hS2 ((own_mono own hB).alloc _) (Blk.new w1 e us) (by simp; omega)⟩
  · refine wpOp_val hj gj _ _ (ej0 w) ?_
    have hS1 := hS.alloc hB (.cells us.toArray e)
    have hb5 := Blk.new w e us
    have hz1 : B ≤ (w.alloc (.cells us.toArray e)).heap.size := by simp; omega
    refine ⟨hS1, ?_⟩
    refine wpAnyH_all rJ (by simp) fun q hq => ?_
    obtain rfl := List.mem_singleton.1 hq
    refine wpOp_step hi fun K' hK => ?_
    rw [if_pos (hwi _)]
    unfold Oper.wp
    rw [he1, Oper.upon_enter]
    refine (hc _ hS1).mono ?_
    rintro e' w1 ⟨v, rfl, own, hb1⟩
    have hS2 := hS1.trans (hb1.mono hz1)
    have hz2 := hb1.size
    refine hK _ _ ⟨hS2, ?_⟩
    rw [cm, ← Array.setIfInBounds_comm true true hij]
    exact last _ _ _ hS2 (own_mono own hz1) (hb5.next hb1) (by omega)
end

/-- What is asked of a closure over a list's elements: it answers p, and leaves what lay in w. -/
def PredX {α : Type} (enc : α → Value) (g : Nat) (lb : Array Value) (p : α → Bool) (xs : List α) (w : World) : Prop :=
  ∀ (W : World) (x : α), x ∈ xs → Below w.heap.size w W → Calls Tryz.prog g (#[enc x] ++ lb) W fun e w' => e = .returned (.bool (p x)) ∧ Below W.heap.size W w'
def idxX {α : Type} (p : α → Bool) (xs : List α) : Int := if xs.findIdx p < xs.length then (xs.findIdx p : Int) else -1
theorem idxX_hit {α : Type} {p : α → Bool} {xs : List α} {k : Nat} (hk : k < xs.length) (h : p xs[k] = true) (hb : ∀ j x, j < k → xs[j]? = some x → p x = false) : idxX p xs = k := by
  have e : xs.findIdx p = k := by
    rw [List.findIdx_eq hk]
    exact ⟨h, fun j hj => hb j _ hj (List.getElem?_eq_getElem (by omega))⟩
  unfold idxX
  rw [e, if_pos hk]
theorem idxX_none {α : Type} {p : α → Bool} {xs : List α} (hb : ∀ (j : Nat) (x : α), xs[j]? = some x → p x = false) : idxX p xs = -1 := by
  unfold idxX
  rw [if_neg]
  intro h
  have h1 := List.findIdx_getElem (w := h)
  have h2 := hb _ _ (List.getElem?_eq_getElem h)
  rw [h1] at h2
  cases h2
theorem idxX_any {α : Type} (p : α → Bool) (xs : List α) : decide (0 ≤ idxX p xs) = xs.any p := by
  unfold idxX
  cases h : xs.any p
  · rw [if_neg]
    · rfl
    · intro h1
      have := List.findIdx_getElem (w := h1)
      rw [List.any_eq_false] at h
      exact h _ (List.getElem_mem h1) this
  · rw [List.any_eq_true] at h
    obtain ⟨x, hx, hp⟩ := h
    rw [if_pos (List.findIdx_lt_length_of_exists ⟨x, hx, hp⟩)]
    exact decide_eq_true (by omega)
theorem idxX_range {α : Type} (p : α → Bool) (xs : List α) : -1 ≤ idxX p xs ∧ idxX p xs ≤ xs.length := by
  unfold idxX
  split <;> omega

/-- All numbers of prices. -/
def pcL (p : Pc) : List Int := p.lett ++ [p.gold, p.base, p.fill]
theorem pcL_length {p : Pc} (h : PcT p) : (pcL p).length = 29 := by simp [pcL, h.len]
theorem pcL_any (p : Pc) (h : PcT p) : (!((pcL p).any fun n => !inB 0 1000 n)) = pcOk p := by
  have h1 : decide (AllLt p 26) = !(p.lett.any fun n => !inB 0 1000 n) := by
    by_cases ha : AllLt p 26
    · rw [decide_eq_true ha]
      have : (p.lett.any fun n => !inB 0 1000 n) = false := by
        rw [List.any_eq_false]
        intro x hx
        obtain ⟨k, hk, rfl⟩ := List.getElem_of_mem hx
        have := ha k (by rw [h.len] at hk; exact hk)
        rw [rdI, List.getD, List.getElem?_eq_getElem hk] at this
        simp only [Option.getD_some] at this
        rw [this]; simp
      rw [this]; rfl
    · rw [decide_eq_false ha]
      have : (p.lett.any fun n => !inB 0 1000 n) = true := by
        apply Classical.byContradiction
        intro hc
        apply ha
        intro i hi
        rw [Bool.not_eq_true, List.any_eq_false] at hc
        have hil : i < p.lett.length := by rw [h.len]; exact hi
        have := hc _ (List.getElem_mem hil)
        rw [rdI, List.getD, List.getElem?_eq_getElem hil]
        simpa using this
      rw [this]; rfl
  unfold pcOk pcL
  rw [h1, List.any_append]
  simp [Bool.and_assoc]
theorem pcL_mem {p : Pc} (h : PcT p) : ∀ x ∈ pcL p, -32768 ≤ x ∧ x ≤ 32767 := by
  intro x hx
  unfold pcL at hx
  rcases List.mem_append.1 hx with h1 | h1
  · obtain ⟨k, hk, rfl⟩ := List.getElem_of_mem h1
    have := h.lett k (by rw [h.len] at hk; exact hk)
    rw [rdI, List.getD, List.getElem?_eq_getElem hk] at this
    exact this
  · simp only [List.mem_cons, List.not_mem_nil, or_false] at h1
    rcases h1 with rfl | rfl | rfl
    · exact h.gold
    · exact h.base
    · exact h.fill
end Go.Proofs.YtdhngjjfoddnkaaGreatDoor
namespace Go.Proofs.YtdhngjjfoddnkaaGreatDoor
open Go Go.RowKit Go.Shelf
set_option linter.unusedVariables false
set_option linter.unusedSimpArgs false

theorem wpList_load_rowG {P : Program} {ops : Array Oper} {rest : List Oper} {o : Oper} {a : Act} {w : World} {Q : Exit → Act → World → Prop} (hw : Region.wanted o (yielded ops a.tmps) = true) (ty : TypeId) (x : Operand) (ho : o.op = .load ty x)
    (g : Nat) (hx : a.eval x = .pointer (some ⟨g, 0, none⟩)) (t : TypeId) (cs : Array Value) (fr : Nat × Nat) (d : TypeDesc) (hg : w.heap[g]? = some (.cells cs t fr))
    (hu : P.underlying ty = some d) (hd : (match d with | .struct _ | .array _ _ => true | _ => false) = true) (hi : (P.info? ty).map (·.size) = some cs.size)
    (h : wpList P ops Q rest (a.put o.dst (.agg cs)) w) : wpList P ops Q (o :: rest) a w :=
  wpList_step fun _ hK => by
    rw [if_pos hw]
    exact wp_load_row ty x ho g hx t cs fr d hg hu hd hi (hK _ _ h)
/-- Whether one of some texts is none that is valid. -/
def badT (xs : List (List UInt8)) : Bool := xs.any fun x => !vText x
/-- The code of a face, prices and texts. -/
def pccN (f : Fc) (p : Pc) (xs : List (List UInt8)) : Int := if validF f && pcOk p && !badT xs then 0 else 1
theorem pccN_one (f : Fc) (p : Pc) (l : List UInt8) : pccN f p [l] = pcC f p l true := by
  unfold pccN pcC badT
  simp
theorem pccN_f {f : Fc} {p : Pc} {xs : List (List UInt8)} (h : validF f = false) : pccN f p xs = 1 := by unfold pccN; rw [h]; rfl
theorem pccN_p {f : Fc} {p : Pc} {xs : List (List UInt8)} (h : pcOk p = false) : pccN f p xs = 1 := by unfold pccN; rw [h]; simp
theorem pccN_t {f : Fc} {p : Pc} {xs : List (List UInt8)} (h : validF f = true) (k : pcOk p = true) : pccN f p xs = if !badT xs then 0 else 1 := by unfold pccN; rw [h, k]; rfl

end Go.Proofs.YtdhngjjfoddnkaaGreatDoor
namespace Go.Proofs.YtdhngjjfoddnkaaGreatDoor
open Go Go.RowKit Go.Shelf
set_option linter.unusedVariables false
set_option linter.unusedSimpArgs false

/-- The first number from k on, of d more, that is not so. -/
def lead (P : Nat → Bool) : Nat → Nat → Nat
  | 0, k => k
  | d + 1, k => if P k = true then lead P d (k + 1) else k
theorem lead_yes {P : Nat → Bool} {n k : Nat} (hk : k < n) (h : P k = true) : lead P (n - k) k = lead P (n - (k + 1)) (k + 1) := by
  rw [show n - k = (n - (k + 1)) + 1 by omega, lead, if_pos h]
theorem lead_no {P : Nat → Bool} {n k : Nat} (hk : k < n) (h : P k = false) : lead P (n - k) k = k := by
  rw [show n - k = (n - (k + 1)) + 1 by omega, lead, if_neg (by rw [h]; simp)]
def buyP (f : Fc) (p : Pc) (ws : List (List UInt8)) (m : Int) (k : Nat) : Bool := decide (prcW f p (joinW (cutW ws 0 (k + 1))) ≤ m)
def wfR (f : Fc) (p : Pc) (l : List UInt8) (m : Int) : Int × Int :=
  if pcC f p l (inB 0 1000000 m) = 0 then (if m < p.base then (0, 6) else (((lead (buyP f p (words l) m) ((words l).length - 0) 0 : Nat) : Int), 0)) else (0, pcC f p l (inB 0 1000000 m))

end Go.Proofs.YtdhngjjfoddnkaaGreatDoor
