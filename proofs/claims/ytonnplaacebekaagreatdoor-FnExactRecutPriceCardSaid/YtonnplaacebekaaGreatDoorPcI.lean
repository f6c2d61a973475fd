/- Contracts: prices, by the program: what is valid, over closures on small numbers and on texts. -/
import Derived.Test.YtonnplaacebekaaGreatDoorPcT
import Derived.Test.YtonnplaacebekaaGreatDoorAppN
import Derived.Test.YtonnplaacebekaaGreatDoorShY
import Derived.Shelf.Abstract


namespace Go.Proofs.YtonnplaacebekaaGreatDoor
open Go Go.RowKit Go.Shelf
set_option linter.unusedVariables false
set_option linter.unusedSimpArgs false

section
variable {P : Program} {ops : Array Oper} {Q : Exit → Act → World → Prop} {a : Act} {w W : World} {B : Nat}
/-- 'append(clone(row), us...)': the call and the new slice side by side, then the append. -/
theorem held_clone_appN {fuel : Nat} {listed : Array Bool} {oi oj ok : Oper} (i j k : Nat) (hi : ops[i]? = some oi) (hj : ops[j]? = some oj) (hk : ops[k]? = some ok) (hij : i ≠ j)
    (r0 : Region.ready .any ops listed = [i, j]) (rI : Region.ready .any ops (listed.setIfInBounds i true) = [j]) (rJ : Region.ready .any ops (listed.setIfInBounds j true) = [i]) (rK : Region.ready .any ops ((listed.setIfInBounds i true).setIfInBounds j true) = [k])
    (gi : oi.guard = none) (gj : oj.guard = none) (gk : ok.guard = none) (f : FuncId) (args : Array Value)
    (he0 : ∀ w', (execOp a.eval oi).run P w' = .ok (.enter f args) w') (he1 : ∀ p w', (execOp (a.put oj.dst p).eval oi).run P w' = .ok (.enter f args) w')
    (s x : Operand) (t : TypeId) (ho : ok.op = .call { callee := .builtin .append, args := #[s, x], argTypes := #[t, t] }) {e : TypeId} {z : Value} {bytes : Nat} (E : El P t e z 1 bytes) (us : List Value) (m : Nat) (hm : us.length = m) (hm0 : 0 < m) (hu : ∀ u ∈ us, u.oneCell' = true)
    (ej0 : ∀ w', (execOp a.eval oj).run P w' = .ok (.value (.slice (some ⟨w'.heap.size, 0, none⟩) m m)) (w'.alloc (.cells us.toArray e)))
    (ej1 : ∀ p w', (execOp (a.put oi.dst p).eval oj).run P w' = .ok (.value (.slice (some ⟨w'.heap.size, 0, none⟩) m m)) (w'.alloc (.cells us.toArray e)))
    (evs : ∀ p q, ((a.put oi.dst p).put oj.dst q).eval s = p) (evx : ∀ p q, ((a.put oi.dst p).put oj.dst q).eval x = q) (cm : ∀ p q, (a.put oj.dst q).put oi.dst p = (a.put oi.dst p).put oj.dst q)
    (n : Nat) (xs : List Value) (hc : ∀ w', Below B W w' → Calls P f args w' fun e' w'' => ∃ v, e' = .returned v ∧ w''.ownsRow w'.heap.size e 1 v n xs ∧ Below w'.heap.size w' w'')
    (hn : n + m ≤ maxLen) (hbytes : (n + m) * bytes ≤ 140737488355328) (hB : B ≤ w.heap.size) (hS : Below B W w)
    (h : ∀ p q v' w', Below B W w' → w'.ownsRow B e 1 v' (n + m) (xs ++ us) → wpAnyH P .any ops Q (fun w' => Below B W w') fuel (((listed.setIfInBounds i true).setIfInBounds j true).setIfInBounds k true) (((a.put oi.dst p).put oj.dst q).put ok.dst v') w') :
    wpAnyH P .any ops Q (fun w' => Below B W w') (fuel + 1 + 1 + 1) listed a w := by
  have last : ∀ (p : Value) (b5 : Nat) (w2 : World), Below B W w2 → w2.ownsRow B e 1 p n xs → Blk w2 b5 e us → B ≤ w2.heap.size →
      wpAnyH P .any ops Q (fun w' => Below B W w') (fuel + 1) ((listed.setIfInBounds i true).setIfInBounds j true) ((a.put oi.dst p).put oj.dst (.slice (some ⟨b5, 0, none⟩) m m)) w2 := by
    intro p b5 w2 hS2 hown hc5 hB2
    refine wpAnyH_all rK (by simp) fun q hq => ?_
    obtain rfl := List.mem_singleton.1 hq
    refine wpOp_append hk gk s x t ho E B p n xs (evs _ _) hown ⟨b5, 0, none⟩ m m us (evx _ _) hm (fun j v hj => ?_) hu hn hbytes hB2 fun v' w' ho' hg => ?_
    · rw [add_mid, Nat.zero_add]
      exact hc5.cell j v hj
    · have hS' := below_own hS2 hown hg (Nat.le_refl _) hB2
      exact ⟨hS', h _ _ v' w' hS' ho'⟩
  have hwi : ∀ y, Region.wanted oi y = true := fun y => by simp [Region.wanted, gi]
  refine wpAnyH_all r0 (by simp) fun q hq => ?_
  simp only [List.mem_cons, List.not_mem_nil, or_false] at hq
  rcases hq with rfl | rfl
  · refine wpOp_step hi fun K' hK => ?_
    rw [if_pos (hwi _)]
    unfold Oper.wp
    rw [he0, Oper.upon_enter]
    refine (hc w hS).mono ?_
    rintro e' w1 ⟨v, rfl, own, hb1⟩
    have hS1 := hS.trans (hb1.mono hB)
    have hz1 := hb1.size
    refine hK _ _ ⟨hS1, ?_⟩
    refine wpAnyH_all rI (by simp) fun q hq => ?_
    obtain rfl := List.mem_singleton.1 hq
    refine wpOp_val hj gj _ _ (ej1 _ w1) ?_
    have hS2 := hS1.alloc (show B ≤ w1.heap.size by omega) (.cells us.toArray e)
    exact ⟨hS2, last _ _ _ hS2 ((own_mono own hB).alloc _) (Blk.new w1 e us) (by simp; omega)⟩
  · refine wpOp_val hj gj _ _ (ej0 w) ?_
    have hS1 := hS.alloc hB (.cells us.toArray e)
    have hb5 := Blk.new w e us
    have hz1 : B ≤ (w.alloc (.cells us.toArray e)).heap.size := by simp; omega
    refine ⟨hS1, ?_⟩
    refine wpAnyH_all rJ (by simp) fun q hq => ?_
    obtain rfl := List.mem_singleton.1 hq
    refine wpOp_step hi fun K' hK => ?_
    rw [if_pos (hwi _)]
    unfold Oper.wp
    rw [he1, Oper.upon_enter]
    refine (hc _ hS1).mono ?_
    rintro e' w1 ⟨v, rfl, own, hb1⟩
    have hS2 := hS1.trans (hb1.mono hz1)
    have hz2 := hb1.size
    refine hK _ _ ⟨hS2, ?_⟩
    rw [cm, ← Array.setIfInBounds_comm true true hij]
    exact last _ _ _ hS2 (own_mono own hz1) (hb5.next hb1) (by omega)
end

/-- What is asked of a closure over a list's elements: it answers p, and leaves what lay in w. -/
def PredX {α : Type} (enc : α → Value) (g : Nat) (lb : Array Value) (p : α → Bool) (xs : List α) (w : World) : Prop :=
  ∀ (W : World) (x : α), x ∈ xs → Below w.heap.size w W → Calls Tryz.prog g (#[enc x] ++ lb) W fun e w' => e = .returned (.bool (p x)) ∧ Below W.heap.size W w'
def idxX {α : Type} (p : α → Bool) (xs : List α) : Int := if xs.findIdx p < xs.length then (xs.findIdx p : Int) else -1
theorem idxX_hit {α : Type} {p : α → Bool} {xs : List α} {k : Nat} (hk : k < xs.length) (h : p xs[k] = true) (hb : ∀ j x, j < k → xs[j]? = some x → p x = false) : idxX p xs = k := by
  have e : xs.findIdx p = k := by
    rw [List.findIdx_eq hk]
    exact ⟨h, fun j hj => hb j _ hj (List.getElem?_eq_getElem (by omega))⟩
  unfold idxX
  rw [e, if_pos hk]
theorem idxX_none {α : Type} {p : α → Bool} {xs : List α} (hb : ∀ (j : Nat) (x : α), xs[j]? = some x → p x = false) : idxX p xs = -1 := by
  unfold idxX
  rw [if_neg]
  intro h
  have h1 := List.findIdx_getElem (w := h)
  have h2 := hb _ _ (List.getElem?_eq_getElem h)
  rw [h1] at h2
  cases h2
theorem idxX_any {α : Type} (p : α → Bool) (xs : List α) : decide (0 ≤ idxX p xs) = xs.any p := by
  unfold idxX
  cases h : xs.any p
  · rw [if_neg]
    · rfl
    · intro h1
      have := List.findIdx_getElem (w := h1)
      rw [List.any_eq_false] at h
      exact h _ (List.getElem_mem h1) this
  · rw [List.any_eq_true] at h
    obtain ⟨x, hx, hp⟩ := h
    rw [if_pos (List.findIdx_lt_length_of_exists ⟨x, hx, hp⟩)]
    exact decide_eq_true (by omega)
theorem idxX_range {α : Type} (p : α → Bool) (xs : List α) : -1 ≤ idxX p xs ∧ idxX p xs ≤ xs.length := by
  unfold idxX
  split <;> omega

set_option maxHeartbeats 1000000 in
set_option maxRecDepth 100000 in
theorem indexH_any (g : Nat) (lb : Array Value) (eg : ∀ args w, (callFunc g args).run Tryz.prog w = .ok (.enter g args) w) (p : Int → Bool) (A : Option Addr) (n c : Nat) (xs : List (Int)) (w : World) (hn : xs.length = n) (hm : n ≤ 1048576) (hs : SlE i16v w A xs) (hp : PredX i16v g lb p xs w) :
    Calls Tryz.prog 97 #[.slice A n c, .func (.func g) #[] lb] w fun e w' => e = .returned (.int .i64 (idxX p xs)) ∧ Below w.heap.size w w' := by
  have HN := Lib.hid hn
  have HS := Lib.hid hs
  have HP := Lib.hid hp
  clear hn hs hp
  go_enter Tryz.func97, Tryz.ntmps97
  go_wp2
  go_loopw [5, 8] (fun _ i wr => ∃ k : Nat, k ≤ n ∧ i = .int .i64 k ∧ (∀ j x, j < k → xs[j]? = some x → p x = false) ∧ Below w.heap.size w wr) (fun _ i _ => n - (intOf i).toNat)
  case atStart => exact ⟨0, Nat.zero_le _, rfl, fun j x hj _ => absurd hj (Nat.not_lt_zero _), Below.refl _ _⟩
  case round =>
    obtain ⟨k, hk, rfl, hall, hbel⟩ := hrel
    have HALL := Lib.hid hall
    clear hall
    by_cases hlt : k < n
    · have hkx : k < xs.length := by rw [HN.out]; exact hlt
      obtain ⟨x, hx⟩ : ∃ x, x = xs[k] := ⟨_, rfl⟩
      have HX := Lib.hid (show xs[k]? = some x by rw [hx]; exact List.getElem?_eq_getElem hkx)
      have HXE := Lib.hid hx
      clear hx
      obtain ⟨a, rfl, hcell⟩ := (HS.out.next hbel) k x HX.out
      have hcall := HP.out wr x (by rw [HXE.out]; exact List.getElem_mem hkx) hbel
      cases hq : p x
      · rw [hq] at hcall
        have HQ := Lib.hid hq
        clear hq
        go_wp2_with (go_at_fn g; refine hcall.mono ?_; rintro e w' ⟨rfl, hb'⟩)
        have hbel := below_step hbel hb'
        clear hb'
        go_roundw
        case rel =>
          refine ⟨k + 1, by omega, by go_num, fun j y hj hy => ?_, hbel⟩
          by_cases e : j = k
          · subst e; rw [HX.out] at hy; cases hy; exact HQ.out
          · exact HALL.out j y (by omega) hy
        case measure => simp [intOf]; omega
      · rw [hq] at hcall
        have HQ := Lib.hid hq
        clear hq
        go_wp2_with (go_at_fn g; refine hcall.mono ?_; rintro e w' ⟨rfl, hb'⟩)
        go_ret
        exact ⟨retI (idxX_hit hkx (by rw [← HXE.out]; exact HQ.out) HALL.out).symm, below_step hbel hb'⟩
    · obtain rfl : k = n := by omega
      go_wp2
      go_ret
      exact ⟨retI (idxX_none (fun j x hx => HALL.out j x (by have := HN.out; have := (List.getElem?_eq_some_iff.1 hx).1; omega) hx)).symm, hbel⟩

set_option maxRecDepth 100000 in
theorem containsH_any (g : Nat) (lb : Array Value) (eg : ∀ args w, (callFunc g args).run Tryz.prog w = .ok (.enter g args) w) (p : Int → Bool) (A : Option Addr) (n c : Nat) (xs : List (Int)) (w : World) (hn : xs.length = n) (hm : n ≤ 1048576) (hs : SlE i16v w A xs) (hp : PredX i16v g lb p xs w) :
    Calls Tryz.prog 81 #[.slice A n c, .func (.func g) #[] lb] w fun e w' => e = .returned (.bool (xs.any p)) ∧ Below w.heap.size w w' := by
  have HA := Lib.hid (idxX_any p xs)
  have HN := Lib.hid hn
  have HS := Lib.hid hs
  have HP := Lib.hid hp
  clear hn hs hp
  go_enter Tryz.func81, Tryz.ntmps81
  go_wp2_with (go_at_call 97; refine (indexH_any g lb eg p A n c xs _ HN.out hm HS.out HP.out).mono ?_; rintro e w1 ⟨rfl, hb⟩)
  go_ret
  exact ⟨retB HA.out, hb⟩

set_option maxHeartbeats 1000000 in
set_option maxRecDepth 100000 in
theorem indexTx_any (g : Nat) (lb : Array Value) (eg : ∀ args w, (callFunc g args).run Tryz.prog w = .ok (.enter g args) w) (p : List UInt8 → Bool) (A : Option Addr) (n c : Nat) (xs : List (List UInt8)) (w : World) (hn : xs.length = n) (hm : n ≤ 1048576) (hs : SlE sv w A xs) (hp : PredX sv g lb p xs w) :
    Calls Tryz.prog 84 #[.slice A n c, .func (.func g) #[] lb] w fun e w' => e = .returned (.int .i64 (idxX p xs)) ∧ Below w.heap.size w w' := by
  have HN := Lib.hid hn
  have HS := Lib.hid hs
  have HP := Lib.hid hp
  clear hn hs hp
  go_enter Tryz.func84, Tryz.ntmps84
  go_wp2
  go_loopw [5, 8] (fun _ i wr => ∃ k : Nat, k ≤ n ∧ i = .int .i64 k ∧ (∀ j x, j < k → xs[j]? = some x → p x = false) ∧ Below w.heap.size w wr) (fun _ i _ => n - (intOf i).toNat)
  case atStart => exact ⟨0, Nat.zero_le _, rfl, fun j x hj _ => absurd hj (Nat.not_lt_zero _), Below.refl _ _⟩
  case round =>
    obtain ⟨k, hk, rfl, hall, hbel⟩ := hrel
    have HALL := Lib.hid hall
    clear hall
    by_cases hlt : k < n
    · have hkx : k < xs.length := by rw [HN.out]; exact hlt
      obtain ⟨x, hx⟩ : ∃ x, x = xs[k] := ⟨_, rfl⟩
      have HX := Lib.hid (show xs[k]? = some x by rw [hx]; exact List.getElem?_eq_getElem hkx)
      have HXE := Lib.hid hx
      clear hx
      obtain ⟨a, rfl, hcell⟩ := (HS.out.next hbel) k x HX.out
      have hcall := HP.out wr x (by rw [HXE.out]; exact List.getElem_mem hkx) hbel
      cases hq : p x
      · rw [hq] at hcall
        have HQ := Lib.hid hq
        clear hq
        go_wp2_with (go_at_fn g; refine hcall.mono ?_; rintro e w' ⟨rfl, hb'⟩)
        have hbel := below_step hbel hb'
        clear hb'
        go_roundw
        case rel =>
          refine ⟨k + 1, by omega, by go_num, fun j y hj hy => ?_, hbel⟩
          by_cases e : j = k
          · subst e; rw [HX.out] at hy; cases hy; exact HQ.out
          · exact HALL.out j y (by omega) hy
        case measure => simp [intOf]; omega
      · rw [hq] at hcall
        have HQ := Lib.hid hq
        clear hq
        go_wp2_with (go_at_fn g; refine hcall.mono ?_; rintro e w' ⟨rfl, hb'⟩)
        go_ret
        exact ⟨retI (idxX_hit hkx (by rw [← HXE.out]; exact HQ.out) HALL.out).symm, below_step hbel hb'⟩
    · obtain rfl : k = n := by omega
      go_wp2
      go_ret
      exact ⟨retI (idxX_none (fun j x hx => HALL.out j x (by have := HN.out; have := (List.getElem?_eq_some_iff.1 hx).1; omega) hx)).symm, hbel⟩

set_option maxRecDepth 100000 in
theorem containsTx_any (g : Nat) (lb : Array Value) (eg : ∀ args w, (callFunc g args).run Tryz.prog w = .ok (.enter g args) w) (p : List UInt8 → Bool) (A : Option Addr) (n c : Nat) (xs : List (List UInt8)) (w : World) (hn : xs.length = n) (hm : n ≤ 1048576) (hs : SlE sv w A xs) (hp : PredX sv g lb p xs w) :
    Calls Tryz.prog 61 #[.slice A n c, .func (.func g) #[] lb] w fun e w' => e = .returned (.bool (xs.any p)) ∧ Below w.heap.size w w' := by
  have HA := Lib.hid (idxX_any p xs)
  have HN := Lib.hid hn
  have HS := Lib.hid hs
  have HP := Lib.hid hp
  clear hn hs hp
  go_enter Tryz.func61, Tryz.ntmps61
  go_wp2_with (go_at_call 84; refine (indexTx_any g lb eg p A n c xs _ HN.out hm HS.out HP.out).mono ?_; rintro e w1 ⟨rfl, hb⟩)
  go_ret
  exact ⟨retB HA.out, hb⟩
theorem elJ : El Tryz.prog 122 27 (.int .i16 0) 1 2 := ⟨Tryz.underlying122, by kernel_rfl, rfl, by decide⟩
set_option maxRecDepth 100000 in
theorem clone16_any (p : Addr) (c : Nat) (xs : List Int) (n : Nat) (w : World) (hn : xs.length = n) (hm : n ≤ 1048576) (h : SlE i16v w (some p) xs) :
    Calls Tryz.prog 98 #[.slice (some p) n c] w fun e w' => ∃ v, e = .returned v ∧ w'.ownsRow w.heap.size 27 1 v n (xs.map i16v) ∧ Below w.heap.size w w' := by
  obtain ⟨i, hi, hz, hsz, hby⟩ := info_parts elJ.info
  have hB := below_one w (.cells #[] 27)
  have HS := Lib.hid (h.next hB)
  have hown := own_empty w w.heap.size rfl w.heap.size 27 (Nat.le_refl _) 1
  have HI := Lib.hid hi
  have HZ := Lib.hid hz
  have HSZ := Lib.hid hsz
  have HBY := Lib.hid hby
  clear h hi hz hsz hby
  go_enter Tryz.func98, Tryz.ntmps98
  go_wp2_with (first
    | (refine wpList_is (.binOp .eql 122 (.tmp 3) (.const (.slice none 0 0)) 122) rfl rfl (.bool false) (by kernel_rfl) ?_; simp only [Act.put, List.setIfInBounds_toArray, List.set_cons_succ, List.set_cons_zero])
    | (at_builtin; refine wpList_append_own _ rfl (.tmp 5) (.tmp 6) 122 rfl w.heap.size 27 i (.int .i16 0) 1 2 elJ.under HI.out HZ.out HSZ.out HBY.out elJ.cells (by omega) (.slice (some ⟨w.heap.size, 0, none⟩) 0 0) 0 [] rfl hown p n c (xs.map i16v) rfl (by rw [List.length_map, hn, Nat.mul_one]) (fun j u hu => by
    rw [List.getElem?_map] at hu
    cases hq : xs[j]? with
    | none => rw [hq] at hu; cases hu
    | some x =>
      rw [hq] at hu
      cases hu
      obtain ⟨a, e, hc⟩ := HS.out j x hq
      cases e
      exact hc) (fun u hu => by obtain ⟨x, _, rfl⟩ := List.mem_map.1 hu; rfl) (by unfold maxLen; omega) (by omega) (by simp) ?_; intro v' w' ho' hg' _))
  go_ret
  refine ⟨v', rfl, ?_, below_own hB hown hg' (Nat.le_refl _) (by simp)⟩
  simpa using ho'

/-- All numbers of prices. -/
def pcL (p : Pc) : List Int := p.lett ++ [p.gold, p.base, p.fill]
theorem pcL_length {p : Pc} (h : PcT p) : (pcL p).length = 29 := by simp [pcL, h.len]
theorem pcL_any (p : Pc) (h : PcT p) : (!((pcL p).any fun n => !inB 0 1000 n)) = pcOk p := by
  have h1 : decide (AllLt p 26) = !(p.lett.any fun n => !inB 0 1000 n) := by
    by_cases ha : AllLt p 26
    · rw [decide_eq_true ha]
      have : (p.lett.any fun n => !inB 0 1000 n) = false := by
        rw [List.any_eq_false]
        intro x hx
        obtain ⟨k, hk, rfl⟩ := List.getElem_of_mem hx
        have := ha k (by rw [h.len] at hk; exact hk)
        rw [rdI, List.getD, List.getElem?_eq_getElem hk] at this
        simp only [Option.getD_some] at this
        rw [this]; simp
      rw [this]; rfl
    · rw [decide_eq_false ha]
      have : (p.lett.any fun n => !inB 0 1000 n) = true := by
        apply Classical.byContradiction
        intro hc
        apply ha
        intro i hi
        rw [Bool.not_eq_true, List.any_eq_false] at hc
        have hil : i < p.lett.length := by rw [h.len]; exact hi
        have := hc _ (List.getElem_mem hil)
        rw [rdI, List.getD, List.getElem?_eq_getElem hil]
        simpa using this
      rw [this]; rfl
  unfold pcOk pcL
  rw [h1, List.any_append]
  simp [Bool.and_assoc]
theorem pcL_mem {p : Pc} (h : PcT p) : ∀ x ∈ pcL p, -32768 ≤ x ∧ x ≤ 32767 := by
  intro x hx
  unfold pcL at hx
  rcases List.mem_append.1 hx with h1 | h1
  · obtain ⟨k, hk, rfl⟩ := List.getElem_of_mem h1
    have := h.lett k (by rw [h.len] at hk; exact hk)
    rw [rdI, List.getD, List.getElem?_eq_getElem hk] at this
    exact this
  · simp only [List.mem_cons, List.not_mem_nil, or_false] at h1
    rcases h1 with rfl | rfl | rfl
    · exact h.gold
    · exact h.base
    · exact h.fill
theorem exec_sliceA {o : Oper} {a : Act} {w : World} (x : Operand) (ho : o.op = .slice 28 x none none none) (b : Nat) (hx : a.eval x = .pointer (some ⟨b, 0, none⟩)) :
    (execOp a.eval o).run Tryz.prog w = .ok (.value (.slice (some ⟨b, 0, none⟩) 26 26)) w := by
  unfold execOp
  simp only [ho, hx]
  kernel_rfl
attribute [local irreducible] wpAnyH in
set_option maxHeartbeats 1000000 in
set_option maxRecDepth 100000 in
theorem all_any (p : Pc) (w : World) (hp : PcT p) :
    Calls Tryz.prog 82 #[.agg (pcV p).toArray] w fun e w' => ∃ v, e = .returned v ∧ w'.ownsRow w.heap.size 27 1 v 29 ((pcL p).map i16v) ∧ Below w.heap.size w w' := by
  have hB := below_one w (.cells (pcV p).toArray 38)
  have hk := Blk.new w 38 (pcV p)
  have hz := hB.size
  have HK := Lib.hid hk
  have HP := Lib.hid hp
  have hz1 : (w.alloc (.cells (pcV p).toArray 38)).heap.size = w.heap.size + 1 := by simp
  have HR := Lib.hid (show SlE i16v (w.alloc (.cells (pcV p).toArray 38)) (some ⟨w.heap.size, 0, none⟩) p.lett from fun i x hx => ⟨_, rfl, by
    have hi : i < 26 := by rw [← hp.len]; exact (List.getElem?_eq_some_iff.1 hx).1
    have h1 := hk.cell i _ (pcV_lett hp i hi)
    have h2 : rdI p.lett i = x := by unfold rdI; rw [List.getD, hx]; rfl
    rw [h2] at h1
    rw [add_mid, Nat.zero_add]
    exact h1⟩)
  clear hk hp
  go_enter Tryz.func82, Tryz.ntmps82
  go_wp2
  generalize hW : w.alloc (.cells (pcV p).toArray 38) = W0 at *
  clear hW
  refine held_begin (W0.heap.size) (by kernel_rfl) ?_
  have hS := below_drewN (Below.refl (W0.heap.size) W0) 1
  refine held_take 0 (.pointer (some ⟨w.heap.size, 0, none⟩)) rfl (by kernel_rfl) (by kernel_rfl) (by kernel_rfl) (fun _ _ _ h => h) (by kernel_rfl) (fun w' hw' => by kernel_rfl) hS ?_
  refine held_take 1 (.slice (some ⟨w.heap.size, 0, none⟩) 26 26) rfl (by kernel_rfl) (by kernel_rfl) (by kernel_rfl) (fun _ _ _ h => h) (by kernel_rfl) (fun w' hw' => exec_sliceA (.tmp 3) rfl w.heap.size (by kernel_rfl)) hS ?_
  refine held_take 3 (.pointer (some ⟨w.heap.size, 26, none⟩)) rfl (by kernel_rfl) (by kernel_rfl) (by kernel_rfl) (fun _ _ _ h => h) (by kernel_rfl) (fun w' hw' => by kernel_rfl) hS ?_
  refine held_take 4 (.int .i16 p.gold) rfl (by kernel_rfl) (by kernel_rfl) (by kernel_rfl) (fun _ _ _ h => h) (by kernel_rfl) (fun w' hw' => exec_load1 27 (.tmp 6) rfl ⟨w.heap.size, 26, none⟩ (by kernel_rfl) (.int .i16 p.gold) ((HK.out.next hw').cell 26 _ (pcV_gold HP.out)) _ Tryz.underlying27 rfl) hS ?_
  refine held_take 5 (.pointer (some ⟨w.heap.size, 27, none⟩)) rfl (by kernel_rfl) (by kernel_rfl) (by kernel_rfl) (fun _ _ _ h => h) (by kernel_rfl) (fun w' hw' => by kernel_rfl) hS ?_
  refine held_take 6 (.int .i16 p.base) rfl (by kernel_rfl) (by kernel_rfl) (by kernel_rfl) (fun _ _ _ h => h) (by kernel_rfl) (fun w' hw' => exec_load1 27 (.tmp 8) rfl ⟨w.heap.size, 27, none⟩ (by kernel_rfl) (.int .i16 p.base) ((HK.out.next hw').cell 27 _ (pcV_base HP.out)) _ Tryz.underlying27 rfl) hS ?_
  refine held_take 7 (.pointer (some ⟨w.heap.size, 28, none⟩)) rfl (by kernel_rfl) (by kernel_rfl) (by kernel_rfl) (fun _ _ _ h => h) (by kernel_rfl) (fun w' hw' => by kernel_rfl) hS ?_
  refine held_take 8 (.int .i16 p.fill) rfl (by kernel_rfl) (by kernel_rfl) (by kernel_rfl) (fun _ _ _ h => h) (by kernel_rfl) (fun w' hw' => exec_load1 27 (.tmp 10) rfl ⟨w.heap.size, 28, none⟩ (by kernel_rfl) (.int .i16 p.fill) ((HK.out.next hw').cell 28 _ (pcV_fill HP.out)) _ Tryz.underlying27 rfl) hS ?_
  refine held_clone_appN 2 9 10 rfl rfl rfl (by decide) (by kernel_rfl) (by kernel_rfl) (by kernel_rfl) (by kernel_rfl) rfl rfl rfl 98 #[.slice (some ⟨w.heap.size, 0, none⟩) 26 26] (fun w' => by kernel_rfl) (fun p w' => by kernel_rfl) (.tmp 5) (.tmp 12) 122 rfl elJ [.int .i16 p.gold, .int .i16 p.base, .int .i16 p.fill] 3 rfl (by omega) (fun u hu => by simp only [List.mem_cons, List.not_mem_nil, or_false] at hu; rcases hu with rfl | rfl | rfl <;> rfl) (fun w' => by kernel_rfl) (fun p w' => by kernel_rfl) (fun p q => by kernel_rfl) (fun p q => by kernel_rfl) (fun p q => by kernel_rfl) 26 (p.lett.map i16v) (fun w' hw' => (clone16_any ⟨w.heap.size, 0, none⟩ 26 p.lett 26 w' HP.out.len (by omega) (HR.out.next hw')).mono fun e w'' ⟨v, h1, h2, h3⟩ => ⟨v, h1, h2, h3⟩) (by unfold maxLen; omega) (by omega) (Nat.le_refl _) hS ?_
  intro q1 q2 v4 w4 hS own4
  refine held_take 11 (v4) rfl (by kernel_rfl) (by kernel_rfl) (by kernel_rfl) (fun _ _ _ h => h) (by kernel_rfl) (fun w' hw' => by kernel_rfl) hS ?_
  refine held_done (by kernel_rfl) ?_
  simp only [Act.put, List.setIfInBounds_toArray, List.set_cons_succ, List.set_cons_zero]
  simp only [List.getElem_toArray, List.getElem_cons_succ, List.getElem_cons_zero, Act.put, List.setIfInBounds_toArray, List.set_cons_succ, List.set_cons_zero]
  have hbel := below_step hB hS
  clear hS
  go_wp2
  go_ret
  refine ⟨v4, rfl, ?_, hbel⟩
  have e : (pcL p).map i16v = p.lett.map i16v ++ [.int .i16 p.gold, .int .i16 p.base, .int .i16 p.fill] := by simp [pcL, i16v]
  rw [e]
  exact own_mono own4 (by omega)
end Go.Proofs.YtonnplaacebekaaGreatDoor
