/- Contracts: words of which some are replaced by their shorts. -/
import Derived.Test.YtnlnjpdnhdmndaaGreatDoorSoS
import Derived.Test.YtnlnjpdnhdmndaaGreatDoorGH
import Derived.Maps.AppendAt

namespace Go.Proofs.YtnlnjpdnhdmndaaGreatDoor
open Go Go.RowKit
set_option linter.unusedVariables false
set_option linter.unusedSimpArgs false

theorem wpList_appS {P : Program} {ops : Array Oper} {rest : List Oper} {o : Oper} {a : Act} {Q : Exit → Act → World → Prop} (hgd : o.guard = none) (s x : Operand) (t : TypeId)
    (ho : o.op = .call { callee := .builtin .append, args := #[s, x], argTypes := #[t, t] }) {e : TypeId} {z : Value} {bytes : Nat} (E : El P t e z 1 bytes)
    (W : World) (base : Nat) (v : Value) (n : Nat) (xs : List Value) (hs : a.eval s = v) (hown : W.ownsRow base e 1 v n xs) (a0 : Addr) (m c : Nat) (news : List Value) (hx : a.eval x = .slice (some a0) m c) (hl : news.length = m)
    (hnews : ∀ j u, news[j]? = some u → W.cell? (a0.add j) = some u) (h1 : ∀ u ∈ news, u.oneCell' = true) (hn : n + m ≤ maxLen) (hbytes : (n + m) * bytes ≤ 140737488355328) (hbase : base ≤ W.heap.size)
    (h : ∀ v' w', w'.ownsRow base e 1 v' (n + m) (xs ++ news) → W.grownBy w' v.ownBlock → (v'.ownBlock = v.ownBlock ∨ ∃ g, W.heap.size ≤ g ∧ v'.ownBlock = some g) → wpList P ops Q rest (a.put o.dst v') w') : wpList P ops Q (o :: rest) a W := by
  obtain ⟨i, hi, hz, hsz, hby⟩ := info_parts E.info
  obtain ⟨v', w', hrun, r1, r2, _, r4⟩ := run_append_own_at (P := P) (w := W) base t o.type e i z 1 bytes E.under hi hz hsz hby E.cells (by omega) v n xs hown a0 m c news (by omega) hnews h1 hn hbytes hbase
  refine wpList_plain hgd fun K hK => ?_
  unfold Oper.wp
  simp [execOp, ho, resolve, invoke, builtin, hs, hx, hrun, Result.andThen]
  exact hK _ _ (h v' w' r1 r2 (r4.imp id fun e => ⟨_, Nat.le_refl _, e⟩))
set_option maxRecDepth 100000 in
theorem cloneS_any (A : Option Addr) (c : Nat) (xs : List (List UInt8)) (n : Nat) (w : World) (hn : xs.length = n) (hm : n ≤ 1048576) (h : SlE sv w A xs) :
    Calls Tryz.prog 55 #[.slice A n c] w fun e w' => ∃ v, e = .returned v ∧ w'.ownsRow w.heap.size 9 1 v n (xs.map sv) ∧ Below w.heap.size w w' := by
  cases A with
  | none =>
    have hx : xs = [] := by
      cases xs with
      | nil => rfl
      | cons x r => obtain ⟨a, e, _⟩ := h 0 x rfl; cases e
    subst hx
    obtain rfl : n = 0 := hn.symm
    go_enter Tryz.func55, Tryz.ntmps55
    go_wp2_with (refine wpList_is (.binOp .eql 54 (.tmp 3) (.const (.slice none 0 0)) 54) rfl rfl (.bool true) (by kernel_rfl) ?_; simp only [Act.put, List.setIfInBounds_toArray, List.set_cons_succ, List.set_cons_zero])
    go_ret
    exact ⟨_, rfl, ⟨rfl, .inl ⟨rfl, rfl⟩⟩, Below.refl _ _⟩
  | some p =>
    obtain ⟨i, hi, hz, hsz, hby⟩ := info_parts elStr.info
    have hB := below_one w (.cells #[] 9)
    have HS := Lib.hid (h.next hB)
    have hown := own_empty w w.heap.size rfl w.heap.size 9 (Nat.le_refl _) 1
    have HI := Lib.hid hi
    have HZ := Lib.hid hz
    have HSZ := Lib.hid hsz
    have HBY := Lib.hid hby
    clear h hi hz hsz hby
    go_enter Tryz.func55, Tryz.ntmps55
    go_wp2_with (first
      | (refine wpList_is (.binOp .eql 54 (.tmp 3) (.const (.slice none 0 0)) 54) rfl rfl (.bool false) (by kernel_rfl) ?_; simp only [Act.put, List.setIfInBounds_toArray, List.set_cons_succ, List.set_cons_zero])
      | (at_builtin; refine wpList_append_own _ rfl (.tmp 5) (.tmp 6) 54 rfl w.heap.size 9 i (.string ⟨#[]⟩) 1 16 elStr.under HI.out HZ.out HSZ.out HBY.out elStr.cells (by omega) (.slice (some ⟨w.heap.size, 0, none⟩) 0 0) 0 [] rfl hown p n c (xs.map sv) rfl (by rw [List.length_map, hn, Nat.mul_one]) (fun j u hu => by
      rw [List.getElem?_map] at hu
      cases hq : xs[j]? with
      | none => rw [hq] at hu; cases hu
      | some x =>
        rw [hq] at hu
        cases hu
        obtain ⟨a, e, hc⟩ := HS.out j x hq
        cases e
        exact hc) (fun u hu => by obtain ⟨x, _, rfl⟩ := List.mem_map.1 hu; rfl) (by unfold maxLen; omega) (by omega) (by simp) ?_; intro v' w' ho' hg' _))
    go_ret
    refine ⟨v', rfl, ?_, below_own hB hown hg' (Nat.le_refl _) (by simp)⟩
    simpa using ho'
theorem map_set_sv (ws : List (List UInt8)) (cs : List Value) (i : Nat) (x : List UInt8) (hi : i < ws.length) : (ws.map sv ++ cs).set i (.string ⟨x.toArray⟩) = (ws.set i x).map sv ++ cs := by
  rw [List.set_append_left _ _ (by rw [List.length_map]; exact hi), List.map_set]; rfl
theorem blk_setS {w : World} {g i : Nat} {ws : List (List UInt8)} {cs : List Value} {x : List UInt8} (h : Blk w g 9 (ws.map sv ++ cs)) (hi : i < ws.length) : Blk (w.setCell ⟨g, i, none⟩ (.string ⟨x.toArray⟩)) g 9 ((ws.set i x).map sv ++ cs) := by
  rw [← map_set_sv ws cs i x hi]; exact h.set i _
theorem slE_blkS {w : World} {g : Nat} {ws : List (List UInt8)} {cs : List Value} (h : Blk w g 9 (ws.map sv ++ cs)) : SlE sv w (some ⟨g, 0, none⟩) ws := by
  intro i x hx
  refine ⟨_, rfl, ?_⟩
  have hi : i < ws.length := (List.getElem?_eq_some_iff.1 hx).1
  rw [add_mid, Nat.zero_add]
  refine h.cell i _ ?_
  rw [List.getElem?_append_left (by rw [List.length_map]; exact hi), List.getElem?_map, hx]; rfl
theorem slE_news {w : World} {a : Addr} {ws : List (List UInt8)} (h : SlE sv w (some a) ws) : ∀ j u, (ws.map sv)[j]? = some u → w.cell? (a.add j) = some u := fun j u hu => by
  rw [List.getElem?_map] at hu
  cases hq : ws[j]? with
  | none => rw [hq] at hu; cases hu
  | some x =>
    rw [hq] at hu
    cases hu
    obtain ⟨a', e, hc⟩ := h j x hq
    cases e
    exact hc
theorem one_svs (ws : List (List UInt8)) : ∀ u ∈ ws.map sv, u.oneCell' = true := fun u hu => by obtain ⟨x, _, rfl⟩ := List.mem_map.1 hu; rfl
set_option maxHeartbeats 2000000 in
set_option maxRecDepth 100000 in
theorem at_spec (A C : Option Addr) (b0 : Addr) (c d e : Nat) (ps : List Sr) (ws : List (List UInt8)) (at' : List Int) (n m q : Nat) (w : World) (hn : ps.length = n) (hnm : n ≤ 1048576) (h : SlR w A ps) (hw : ws.length = m) (hm : m ≤ 60) (hs : SlE sv w (some b0) ws) (hq : at'.length = q) (hqm : q ≤ 60) (ha : SlE i64 w C at') (hat : AtV ps ws at') :
    Calls Tryz.prog 25 #[.slice (some b0) m d, .slice A n c, .slice C q e] w fun e' w' => ∃ A' c', e' = .returned (.slice A' m c') ∧ SlE sv w' A' (atS ps ws at' at'.length) ∧ Below w.heap.size w w' := by
  have hB := below_one w (.cells #[] 9)
  have hown := own_empty w w.heap.size rfl w.heap.size 9 (Nat.le_refl _) 1
  have HN := Lib.hid hn
  have H := Lib.hid h
  have HW := Lib.hid hw
  have HS := Lib.hid hs
  have HQ := Lib.hid hq
  have HC := Lib.hid ha
  have HAT := Lib.hid hat
  have HBB := Lib.hid hB
  have hz0 := hB.size
  clear hn h hw hs hq ha hat hB
  go_enter Tryz.func25, Tryz.ntmps25
  repeat ((with_reducible fail_if_success (show wpList _ _ _ (⟨some 13, _, _, _, _, _⟩ :: _) _ _)); first | go_values | go_skip | go_guarded | go_step | go_upon)
  refine wpList_appS rfl (.tmp 11) (.tmp 12) 54 rfl elStr _ w.heap.size _ 0 [] rfl hown b0 m d (ws.map sv) rfl (by rw [List.length_map, HW.out]) (slE_news (HS.out.next HBB.out)) (one_svs ws) (by unfold maxLen; omega) (by omega) (by simp) ?_
  intro v' w1 ho' hg' _
  simp only [Act.put, List.setIfInBounds_toArray, List.set_cons_succ, List.set_cons_zero]
  rw [Nat.zero_add, List.nil_append] at ho'
  have HB1 := Lib.hid (below_own HBB.out hown hg' (Nat.le_refl _) hz0)
  have HE := Lib.hid (below_own (Below.refl w.heap.size _) hown hg' (Nat.le_refl _) hz0)
  clear hown hg'
  by_cases hm0 : 0 < m
  · obtain ⟨g, c', cs, rfl, hg, hbk, hbl⟩ := own_blk ho' hm0
    have HBK := Lib.hid hbk
    clear hbk hbl ho'
    repeat ((with_reducible fail_if_success (show Code.wp _ (Code.loop _) _ _ _)); first | go_values | go_skip | go_guarded | go_step | go_upon)
    go_loopw [8] (fun i wr => ∃ k : Nat, k ≤ q ∧ i = .int .i64 k ∧ Blk wr g 9 ((atS ps ws at' k).map sv ++ cs) ∧ Below w.heap.size w wr) (fun i _ => q - (intOf i).toNat)
    case atStart => exact ⟨0, by omega, rfl, HBK.out, HB1.out⟩
    case round =>
      clear HBK HB1
      obtain ⟨k, hk, rfl, hbk, hbel⟩ := hrel
      have HBK := Lib.hid hbk
      have HBL := Lib.hid hbel
      clear hbk hbel
      by_cases hlt : k < q
      · obtain ⟨i, hi, hhas, hik⟩ := HAT.out k (by rw [HQ.out]; exact hlt)
        obtain ⟨pc, rfl, rc⟩ := (HC.out.next HBL.out).some k (by rw [HQ.out]; exact hlt)
        have cc : wr.cell? (pc.add k) = some (.int .i64 (i : Int)) := by rw [← hik]; exact rc.atI64 k (by rw [HQ.out]; exact hlt)
        obtain ⟨bb, ebb, rb⟩ := (HS.out.next HBL.out).some i hi
        obtain rfl : b0 = bb := by injection ebb
        have cw : wr.cell? (b0.add i) = some (.string ⟨(rdW ws i).toArray⟩) := rb.atW i hi
        have him : i < m := by rw [← HW.out]; exact hi
        obtain ⟨sh, hsh⟩ : ∃ sh, sh = (ofS ps (rdW ws i)).getD [] := ⟨_, rfl⟩
        have HAS := Lib.hid (show atS ps ws at' (k + 1) = (atS ps ws at' k).set i sh by rw [atS, hik, Int.toNat_natCast, hsh])
        have HCL := Lib.hid (show Calls Tryz.prog 46 #[.slice A n c, .string ⟨(rdW ws i).toArray⟩] wr (fun e w' => e = .returned (.tuple #[.string ⟨sh.toArray⟩, .bool true]) ∧ wr = w') by
          have := of_spec A c ps n (rdW ws i) wr HN.out hnm (H.out.next HBL.out)
          rw [← hsh, show (ofS ps (rdW ws i)).isSome = true from hhas] at this
          exact this)
        clear rc rb ebb hik hhas hsh
        repeat (first | go_values | go_skip | go_guarded | go_step | go_upon)
        go_at_call 46
        refine HCL.out.mono ?_
        rintro e _ ⟨rfl, rfl⟩
        obtain ⟨v0, hc0⟩ := HBK.out.ex i (by rw [List.length_append, List.length_map, atS_length, HW.out]; omega)
        have hf0 := HBK.out.free i
        clear HCL
        dsimp only
        repeat (first | go_values | go_skip | go_guarded | go_step | go_upon)
        go_roundw
        case rel => exact ⟨k + 1, hlt, by go_num, by rw [HAS.out]; exact blk_setS HBK.out (by rw [atS_length]; exact hi), HBL.out.setCell (by simp; omega) _⟩
        case measure => simp [intOf]; omega
      · obtain rfl : k = q := by omega
        repeat (first | go_values | go_skip | go_guarded | go_step | go_upon)
        go_ret
        exact ⟨_, _, rfl, by rw [HQ.out]; exact slE_blkS HBK.out, HBL.out⟩
  · obtain rfl : m = 0 := by omega
    obtain rfl : q = 0 := by
      rcases Nat.eq_zero_or_pos q with e | e
      · exact e
      · obtain ⟨i, hi, _⟩ := HAT.out 0 (by rw [HQ.out]; exact e)
        rw [HW.out] at hi; omega
    obtain ⟨A', c', rfl, hl', _, hs'⟩ := SlE_own ho'
    have HS2 := Lib.hid hs'
    clear ho' hs'
    rw [HW.out]
    repeat ((with_reducible fail_if_success (show Code.wp _ (Code.loop _) _ _ _)); first | go_values | go_skip | go_guarded | go_step | go_upon)
    go_loopw [8] (fun i wr => i = .int .i64 0 ∧ w1 = wr) (fun i _ => 0)
    case atStart => exact ⟨rfl, rfl⟩
    case round =>
      obtain ⟨rfl, rfl⟩ := hrel
      repeat (first | go_values | go_skip | go_guarded | go_step | go_upon)
      go_ret
      exact ⟨_, _, rfl, by rw [HQ.out]; exact HS2.out, HB1.out⟩
end Go.Proofs.YtnlnjpdnhdmndaaGreatDoor
