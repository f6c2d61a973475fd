/- A map of numbers to bytes, as a function; indices that are accepted. -/
import Derived.Test.YtonnplaacebekaaGreatDoorKpS
import Derived.Test.YtonnplaacebekaaGreatDoorShD
import Derived.Test.YtonnplaacebekaaGreatDoorAppN
import Derived.Maps.OwnSet
import Derived.Maps.Views
import Derived.Carry


namespace Go.Proofs.YtonnplaacebekaaGreatDoor
open Go Go.RowKit Go.Shelf Go.Maps
set_option linter.unusedVariables false
set_option linter.unusedSimpArgs false

theorem law64 : Keyed Tryz.prog 2 := int_keyed Tryz.underlying2
theorem zeroU8 (w : World) : (zeroValue 5).run Tryz.prog w = .ok (.int .u8 0) w := by kernel_rfl
theorem wf64 {n : Int} (h : -9223372036854775808 ≤ n ∧ n ≤ 9223372036854775807) : (Lit.int .i64 n).wf = true := by
  have e1 : IntKind.min .i64 = -9223372036854775808 := by decide
  have e2 : IntKind.max .i64 = 9223372036854775807 := by decide
  show (decide (IntKind.min .i64 ≤ n) && decide (n ≤ IntKind.max .i64)) = true
  rw [e1, e2, decide_eq_true h.1, decide_eq_true h.2]; rfl
theorem wf8 {n : Int} (h : 0 ≤ n ∧ n ≤ 255) : (Lit.int .u8 n).wf = true := by
  have e1 : IntKind.min .u8 = 0 := by decide
  have e2 : IntKind.max .u8 = 255 := by decide
  show (decide (IntKind.min .u8 ≤ n) && decide (n ≤ IntKind.max .u8)) = true
  rw [e1, e2, decide_eq_true h.1, decide_eq_true h.2]; rfl
/-- Block b is a map of at most n entries; at q it reads g q. -/
def MapAt (w : World) (b n : Nat) (g : Int → Int) : Prop :=
  ∃ D : DataW Nat, w.ownsMap Tryz.prog 2 (plainElem Tryz.prog 5) b n D ∧ ∀ q : Int, D.atKey (.int .i64 q) (.lit (.int .u8 0)) = .lit (.int .u8 (g q))
theorem MapAt.made (w : World) : MapAt (w.alloc (.map #[] 0)) w.heap.size 0 (fun _ => 0) :=
  ⟨_, World.ownsMap_made w _ _ _, fun q => rfl⟩
theorem MapAt.grown {w w' : World} {b n : Nat} {g : Int → Int} {row : Option Nat} (h : MapAt w b n g) (hg : w.grownBy w' row) (hne : some b ≠ row) : MapAt w' b n g := by
  obtain ⟨D, h1, h2⟩ := h
  exact ⟨D, h1.kept hg hne, h2⟩
theorem grown_none {w w' : World} (h : Below w.heap.size w w') (row : Option Nat) : w.grownBy w' row := ⟨h.os, h.tape, h.output, h.size, fun i hi _ => h.block i hi⟩
theorem MapAt.next {w w' : World} {b n : Nat} {g : Int → Int} (h : MapAt w b n g) (hb : Below w.heap.size w w') : MapAt w' b n g := h.grown (grown_none hb none) (by simp)
theorem MapAt.lt {w : World} {b n : Nat} {g : Int → Int} (h : MapAt w b n g) : b < w.heap.size := by
  obtain ⟨D, h1, h2⟩ := h
  exact h1.lt
theorem MapAt.put {w : World} {b n : Nat} {g : Int → Int} (h : MapAt w b n g) (hn : n < maxLen) (q v : Int) (hq : -9223372036854775808 ≤ q ∧ q ≤ 9223372036854775807) (hv : 0 ≤ v ∧ v ≤ 255) :
    ∃ w', (Instr.mapUpdate 113 (.map (some b)) (.int .i64 q) (.int .u8 v)).run Tryz.prog w = .ok () w' ∧ MapAt w' b (n + 1) (fun x => if q = x then v else g x) ∧ w.grownBy w' (some b) := by
  obtain ⟨D, h1, h2⟩ := h
  have hk : keyOf Tryz.prog 2 (.int .i64 q) = some (.int .i64 q) := keyOf_int_mk Tryz.underlying2 (wf64 hq)
  obtain ⟨w', hrun, hown, hg⟩ := h1.update law64 Tryz.underlying113 hn hk (plainElem_int Tryz.underlying5 (a := v) (wf8 hv))
  refine ⟨w', hrun, ⟨_, hown, fun x => ?_⟩, hg⟩
  show _ = DataW.lit (.int .u8 (if q = x then v else g x))
  by_cases e : q = x
  · subst e
    rw [if_pos rfl, atKey_put_same (k := .int .i64 q) h1.isMap trivial]
  · rw [if_neg e, atKey_put_other (by intro e2; cases e2; exact e rfl), h2 x]
theorem MapAt.look {w : World} {b n : Nat} {g : Int → Int} (h : MapAt w b n g) (q : Int) (hq : -9223372036854775808 ≤ q ∧ q ≤ 9223372036854775807) :
    (Instr.lookup 113 (.map (some b)) (.int .i64 q) false).run Tryz.prog w = .ok (.int .u8 (g q)) w := by
  obtain ⟨D, h1, h2⟩ := h
  have hk : keyOf Tryz.prog 2 (.int .i64 q) = some (.int .i64 q) := keyOf_int_mk Tryz.underlying2 (wf64 hq)
  obtain ⟨c, hrun, hat, _⟩ := h1.lookup_int law64 Tryz.underlying113 Tryz.underlying5 (zeroU8 w) hk
  rw [h2 q] at hat
  have e2 := (Lit.int.inj (DataW.lit.inj hat)).2
  rw [hrun, e2]
section
variable {P : Program} {a : Act}
theorem exec_mapUpdate {o : Oper} (t : TypeId) (m x v : Operand) (ho : o.op = .mapUpdate t m x v) (mv kv vv : Value) (hm : a.eval m = mv) (hx : a.eval x = kv) (hv : a.eval v = vv) (w w' : World) (hrun : (Instr.mapUpdate t mv kv vv).run P w = .ok () w') :
    (execOp a.eval o).run P w = .ok .skip w' := by
  unfold execOp
  simp [ho, hm, hx, hv, hrun, Result.andThen]
theorem exec_lookup {o : Oper} (t : TypeId) (m x : Operand) (ho : o.op = .lookup t m x false) (mv kv c : Value) (hm : a.eval m = mv) (hx : a.eval x = kv) (w : World) (hrun : (Instr.lookup t mv kv false).run P w = .ok c w) :
    (execOp a.eval o).run P w = .ok (.value c) w := by
  unfold execOp
  simp [ho, hm, hx, hrun, Result.andThen]
end

/-! ### Indices -/
/-- What is asked of a closure over the first n indices: it answers p, and leaves what lay in w. -/
def PredN (g : Nat) (lb : Array Value) (n : Nat) (p : Nat → Bool) (w : World) : Prop :=
  ∀ (W : World) (i : Nat), i < n → Below w.heap.size w W → Calls Tryz.prog g (#[.int .i64 i] ++ lb) W fun e w' => e = .returned (.bool (p i)) ∧ Below W.heap.size W w'
def idxN (p : Nat → Bool) : Nat → List Int
  | 0 => []
  | k + 1 => if p k = true then idxN p k ++ [(k : Int)] else idxN p k
theorem idxN_yes {p : Nat → Bool} {k : Nat} (h : p k = true) : idxN p (k + 1) = idxN p k ++ [(k : Int)] := by rw [idxN, if_pos h]
theorem idxN_no {p : Nat → Bool} {k : Nat} (h : p k = false) : idxN p (k + 1) = idxN p k := by rw [idxN, if_neg (by rw [h]; simp)]
theorem idxN_length (p : Nat → Bool) : ∀ k, (idxN p k).length ≤ k
  | 0 => Nat.le_refl _
  | k + 1 => by
    have := idxN_length p k
    rw [idxN]
    split
    · rw [List.length_append, List.length_singleton]; omega
    · omega
theorem idxN_congr {p q : Nat → Bool} : ∀ k, (∀ i, i < k → p i = q i) → idxN p k = idxN q k
  | 0, _ => rfl
  | k + 1, h => by rw [idxN, idxN, idxN_congr k (fun i hi => h i (by omega)), h k (by omega)]
theorem idxN_kept (x y : List UInt8) (a b : List Int) (s : Int) : ∀ k, idxN (fun i => kbN x y a b s i x.length) k = kptN x y a b s k
  | 0 => rfl
  | k + 1 => by rw [idxN, kptN, idxN_kept x y a b s k]

set_option maxHeartbeats 1000000 in
set_option maxRecDepth 100000 in
theorem indices_any (g : Nat) (lb : Array Value) (eg : ∀ args w, (callFunc g args).run Tryz.prog w = .ok (.enter g args) w) (p : Nat → Bool) (n : Nat) (w : World) (hm : n ≤ 1048576) (hp : PredN g lb n p w) :
    Calls Tryz.prog 37 #[.int .i64 n, .func (.func g) #[] lb] w (NsOut w (idxN p n)) := by
  have HP := Lib.hid hp
  clear hp
  go_enter Tryz.func37, Tryz.ntmps37
  go_wp2
  go_loopw [5, 9] (fun v i wr => ∃ k : Nat, k ≤ n ∧ i = .int .i64 k ∧ wr.ownsRow w.heap.size 2 1 v (idxN p k).length ((idxN p k).map i64) ∧ Below w.heap.size w wr) (fun _ i _ => n - (intOf i).toNat)
  case atStart => exact ⟨0, Nat.zero_le _, rfl, own_empty _ _ rfl _ _ (Nat.le_refl _) 1, below_one _ _⟩
  case round =>
    obtain ⟨k, hk, rfl, hown, hbel⟩ := hrel
    have hsz := hbel.size
    have hkl := idxN_length p k
    by_cases hlt : k < n
    · have hcall := HP.out wr k hlt hbel
      cases hq : p k
      · rw [hq] at hcall
        have HQ := Lib.hid (idxN_no hq)
        clear hq
        go_wp2_with (go_at_fn g; refine hcall.mono ?_; rintro e w' ⟨rfl, hb'⟩)
        have hown := own_next hown hb'
        have hbel := below_step hbel hb'
        clear hb'
        go_roundw
        case rel => exact ⟨k + 1, by omega, by go_num, by rw [HQ.out]; exact hown, hbel⟩
        case measure => simp [intOf]; omega
      · rw [hq] at hcall
        have HQ := Lib.hid (idxN_yes hq)
        clear hq
        go_wp2_with (first
          | (go_at_fn g; refine hcall.mono ?_; rintro e w' ⟨rfl, hb'⟩; have hown := own_next hown hb'; have hbel := below_step hbel hb'; have hsz := hbel.size; clear hb')
          | (at_builtin; refine wpList_app1 rfl (.tmp 15) (.tmp 17) _ rfl elI w' w.heap.size u5 (idxN p k).length _ rfl hown (.int .i64 k) _ rfl rfl rfl (by unfold maxLen; omega) (by omega) hsz ?_; intro v' w2 ho' hg'))
        go_roundw
        case rel =>
          refine ⟨k + 1, by omega, by go_num, ?_, below_own hbel hown hg' (Nat.le_refl _) hsz⟩
          rw [HQ.out, List.length_append, List.map_append]
          exact ho'
        case measure => simp [intOf]; omega
    · obtain rfl : k = n := by omega
      go_wp2
      go_ret
      obtain ⟨A', c', rfl, hl, ho⟩ := OwnS.of_own hown
      exact ⟨A', c', rfl, hbel, ho⟩
end Go.Proofs.YtonnplaacebekaaGreatDoor
