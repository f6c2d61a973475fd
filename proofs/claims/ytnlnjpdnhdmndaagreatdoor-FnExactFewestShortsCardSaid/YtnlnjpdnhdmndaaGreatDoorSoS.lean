/- Contracts: whether shorts are valid, the short of a word, which words have one. -/
import Derived.Test.YtnlnjpdnhdmndaaGreatDoorSoP
import Derived.Test.YtnlnjpdnhdmndaaGreatDoorSoF
import Derived.Test.YtnlnjpdnhdmndaaGreatDoorGF
import Derived.BigRegion
import Derived.OwnWalk

namespace Go.Proofs.YtnlnjpdnhdmndaaGreatDoor
open Go Go.RowKit
set_option linter.unusedVariables false
set_option linter.unusedSimpArgs false

theorem szL {l : List UInt8} {m : Nat} (h : l.length ≤ m) : (⟨l.toArray⟩ : ByteArray).size ≤ m := by show l.toArray.size ≤ m; simpa using h
theorem one_srA (p : Sr) : (srV p).toArray.size = 2 := rfl
theorem exec_str_eqS {op : Oper} {a : Act} {w : World} (x y : Operand) (ho : op.op = .binOp .eql 9 x y 9) (l m : List UInt8) (hx : a.eval x = .string ⟨l.toArray⟩) (hy : a.eval y = .string ⟨m.toArray⟩) {b : Bool} (hb : decide (l = m) = b) :
    (execOp a.eval op).run Tryz.prog w = .ok (.value (.bool b)) w := by
  unfold execOp
  simp only [ho, hx, hy]
  go_simp
  rw [← hb, Bool.eq_iff_iff, decide_eq_true_iff, beq_iff_eq]
/-- An element's two texts. -/
theorem sr_row {w : World} {a : Addr} {p : Sr} (h : RowV w a (srV p)) : w.cell? (a.add 0) = some (.string ⟨p.lo.toArray⟩) ∧ w.cell? (a.add 1) = some (.string ⟨p.sh.toArray⟩) := sr_cells h
set_option maxHeartbeats 2000000 in
set_option maxRecDepth 100000 in
theorem of_spec (A : Option Addr) (c : Nat) (ps : List Sr) (n : Nat) (x : List UInt8) (w : World) (hn : ps.length = n) (hm : n ≤ 1048576) (h : SlR w A ps) :
    Calls Tryz.prog 46 #[.slice A n c, .string ⟨x.toArray⟩] w fun e w' => e = .returned (.tuple #[.string ⟨((ofS ps x).getD []).toArray⟩, .bool (ofS ps x).isSome]) ∧ w = w' := by
  have HN := Lib.hid hn
  have H := Lib.hid h
  clear hn h
  go_enter Tryz.func46, Tryz.ntmps46
  repeat ((with_reducible fail_if_success (show Code.wp _ (Code.loop _) _ _ _)); first | go_values | go_skip | go_guarded | go_step | go_upon)
  go_loopw [6] (fun i wr => ∃ k : Nat, k ≤ n ∧ i = .int .i64 k ∧ (∀ j, j < k → (rdSr ps j).lo ≠ x) ∧ w = wr) (fun i _ => n - (intOf i).toNat)
  case atStart => exact ⟨0, by omega, rfl, fun j hj => by omega, rfl⟩
  case round =>
    obtain ⟨k, hk, rfl, hno, rfl⟩ := hrel
    have HNO := Lib.hid hno
    clear hno
    by_cases hlt : k < n
    · obtain ⟨a, rfl, hrow⟩ := H.out.get k (by rw [HN.out]; exact hlt)
      obtain ⟨c0, c1⟩ := sr_row hrow
      have c0 : w.cell? (a.add (k * 2)) = some (.string ⟨(rdSr ps k).lo.toArray⟩) := c0
      have c1 : w.cell? ({ block := (a.add (k * 2)).block, off := (a.add (k * 2)).off + 1 } : Addr) = some (.string ⟨(rdSr ps k).sh.toArray⟩) := c1
      clear hrow
      by_cases he : (rdSr ps k).lo = x
      · have HO := Lib.hid (ofS_some (by rw [HN.out]; exact hlt) HNO.out he)
        have HE := Lib.hid he
        clear he
        repeat ((with_reducible fail_if_success (show wpList _ _ _ (⟨some 19, _, _, _, _, _⟩ :: _) _ _)); first | go_values | go_skip | go_guarded | go_step | go_upon)
        refine wpList_val (by kernel_rfl) (.bool true) _ (exec_str_eqS (.tmp 17) (.tmp 18) rfl (rdSr ps k).lo x (by kernel_rfl) (by kernel_rfl) (decide_eq_true HE.out)) ?_
        repeat (first | go_values | go_skip | go_guarded | go_step | go_upon)
        go_ret2
        exact ⟨by rw [HO.out]; rfl, rfl⟩
      · have HE := Lib.hid he
        clear he
        repeat ((with_reducible fail_if_success (show wpList _ _ _ (⟨some 19, _, _, _, _, _⟩ :: _) _ _)); first | go_values | go_skip | go_guarded | go_step | go_upon)
        refine wpList_val (by kernel_rfl) (.bool false) _ (exec_str_eqS (.tmp 17) (.tmp 18) rfl (rdSr ps k).lo x (by kernel_rfl) (by kernel_rfl) (decide_eq_false HE.out)) ?_
        repeat (first | go_values | go_skip | go_guarded | go_step | go_upon)
        go_roundw
        case rel => exact ⟨k + 1, hlt, by go_num, fun j hj => by
          rcases Nat.lt_succ_iff_lt_or_eq.1 hj with h1 | rfl
          · exact HNO.out j h1
          · exact HE.out, trivial⟩
        case measure => simp [intOf]; omega
    · obtain rfl : k = n := by omega
      have HO := Lib.hid (ofS_none (ps := ps) (w := x) (fun j hj => HNO.out j (by rw [HN.out] at hj; exact hj)))
      repeat (first | go_values | go_skip | go_guarded | go_step | go_upon)
      go_ret2
      exact ⟨by rw [HO.out]; rfl, rfl⟩
set_option maxHeartbeats 2000000 in
set_option maxRecDepth 100000 in
theorem of_impl (A : Option Addr) (c : Nat) (ps : List Sr) (n : Nat) (x : List UInt8) (w : World) (hn : ps.length = n) (hm : n ≤ 1048576) (h : SlR w A ps) :
    Calls Tryz.prog 52 #[.slice A n c, .string ⟨x.toArray⟩] w fun e w' => e = .returned (.tuple #[.string ⟨((ofS ps x).getD []).toArray⟩, .bool (ofS ps x).isSome]) ∧ Below w.heap.size w w' := by
  have HN := Lib.hid hn
  have H := Lib.hid h
  clear hn h
  go_enter Tryz.func52, Tryz.ntmps52
  repeat ((with_reducible fail_if_success (show Code.wp _ (Code.loop _) _ _ _)); first | go_values | go_skip | go_guarded | go_step | go_upon)
  go_loopw [10] (fun i wr => ∃ k : Nat, k ≤ n ∧ i = .int .i64 k ∧ (∀ j, j < k → (rdSr ps j).lo ≠ x) ∧ Below w.heap.size w wr) (fun i _ => n - (intOf i).toNat)
  case atStart => exact ⟨0, by omega, rfl, fun j hj => by omega, Below.refl _ _⟩
  case round =>
    obtain ⟨k, hk, rfl, hno, hbel⟩ := hrel
    have HNO := Lib.hid hno
    clear hno
    by_cases hlt : k < n
    · obtain ⟨a, rfl, hrow⟩ := (H.out.next hbel).get k (by rw [HN.out]; exact hlt)
      have HB1 := Lib.hid (below_step hbel (below_one wr (.cells (srV (rdSr ps k)).toArray 62)))
      have hk2 := Blk.new wr 62 (srV (rdSr ps k))
      have c0 : (wr.alloc (.cells (srV (rdSr ps k)).toArray 62)).cell? ⟨wr.heap.size, 0, none⟩ = some (.string ⟨(rdSr ps k).lo.toArray⟩) := hk2.cell 0 _ rfl
      have c1 : (wr.alloc (.cells (srV (rdSr ps k)).toArray 62)).cell? ⟨wr.heap.size, 1, none⟩ = some (.string ⟨(rdSr ps k).sh.toArray⟩) := hk2.cell 1 _ rfl
      clear hbel hk2
      repeat ((with_reducible fail_if_success (show wpList _ _ _ (⟨some 13, _, _, _, _, _⟩ :: _) _ _)); first | go_values | go_skip | go_guarded | go_step | go_upon)
      refine wpList_loadV rfl 62 (.tmp 12) rfl (a.add (k * 2)) rfl (srV (rdSr ps k)) _ hrow Tryz.underlying62 rfl szSrI ?_
      clear hrow
      repeat ((with_reducible fail_if_success (show wpList _ _ _ (⟨none, .store 62 (.tmp 7) (.tmp 13), _, _, _, _⟩ :: _) _ _)); first | go_values | go_skip | go_guarded | go_step | go_upon)
      refine wpList_store_new rfl 62 (.tmp 7) (.tmp 13) rfl (srV (rdSr ps k)).toArray rfl rfl 62 _ szSrI rfl (one_sr _) ?_
      generalize wr.alloc (.cells (srV (rdSr ps k)).toArray 62) = W1 at *
      by_cases he : (rdSr ps k).lo = x
      · have HO := Lib.hid (ofS_some (by rw [HN.out]; exact hlt) HNO.out he)
        have HE := Lib.hid he
        clear he
        repeat ((with_reducible fail_if_success (show wpList _ _ _ (⟨some 17, _, _, _, _, _⟩ :: _) _ _)); first | go_values | go_skip | go_guarded | go_step | go_upon)
        refine wpList_val (by kernel_rfl) (.bool true) _ (exec_str_eqS (.tmp 15) (.tmp 16) rfl (rdSr ps k).lo x (by kernel_rfl) (by kernel_rfl) (decide_eq_true HE.out)) ?_
        repeat (first | go_values | go_skip | go_guarded | go_step | go_upon)
        go_ret2
        exact ⟨by rw [HO.out]; rfl, HB1.out⟩
      · have HE := Lib.hid he
        clear he
        repeat ((with_reducible fail_if_success (show wpList _ _ _ (⟨some 17, _, _, _, _, _⟩ :: _) _ _)); first | go_values | go_skip | go_guarded | go_step | go_upon)
        refine wpList_val (by kernel_rfl) (.bool false) _ (exec_str_eqS (.tmp 15) (.tmp 16) rfl (rdSr ps k).lo x (by kernel_rfl) (by kernel_rfl) (decide_eq_false HE.out)) ?_
        repeat (first | go_values | go_skip | go_guarded | go_step | go_upon)
        go_roundw
        case rel => exact ⟨k + 1, hlt, by go_num, fun j hj => by
          rcases Nat.lt_succ_iff_lt_or_eq.1 hj with h1 | rfl
          · exact HNO.out j h1
          · exact HE.out, HB1.out⟩
        case measure => simp [intOf]; omega
    · obtain rfl : k = n := by omega
      have HO := Lib.hid (ofS_none (ps := ps) (w := x) (fun j hj => HNO.out j (by rw [HN.out] at hj; exact hj)))
      repeat (first | go_values | go_skip | go_guarded | go_step | go_upon)
      go_ret2
      exact ⟨by rw [HO.out]; rfl, hbel⟩
set_option maxHeartbeats 2000000 in
set_option maxRecDepth 100000 in
theorem which_spec (A B : Option Addr) (c d : Nat) (ps : List Sr) (ws : List (List UInt8)) (n m : Nat) (w : World) (hn : ps.length = n) (hnm : n ≤ 1048576) (h : SlR w A ps) (hw : ws.length = m) (hm : m ≤ 1048576) (hs : SlE sv w B ws) :
    Calls Tryz.prog 23 #[.slice B m d, .slice A n c] w fun e w' => ∃ v, e = .returned v ∧ w'.ownsRow w.heap.size 2 1 v (whichS ps ws).length ((whichS ps ws).map i64) ∧ Below w.heap.size w w' := by
  have HN := Lib.hid hn
  have H := Lib.hid h
  have HW := Lib.hid hw
  have HS := Lib.hid hs
  clear hn h hw hs
  go_enter Tryz.func23, Tryz.ntmps23
  repeat ((with_reducible fail_if_success (show Code.wp _ (Code.loop _) _ _ _)); first | go_values | go_skip | go_guarded | go_step | go_upon)
  have hown := own_empty w _ rfl w.heap.size 2 (Nat.le_refl _) 1
  have hb0 := below_one w (.cells #[] 2)
  go_loopw [5, 6] (fun v i wr => ∃ k : Nat, k ≤ m ∧ i = .int .i64 k ∧ wr.ownsRow w.heap.size 2 1 v (idxS (hasS ps ws) k).length ((idxS (hasS ps ws) k).map i64) ∧ Below w.heap.size w wr) (fun _ i _ => m - (intOf i).toNat)
  case atStart => exact ⟨0, by omega, rfl, hown, hb0⟩
  case round =>
    obtain ⟨k, hk, rfl, hown2, hbel⟩ := hrel
    have hil := idxS_length (hasS ps ws) k
    clear hown hb0
    by_cases hlt : k < m
    · obtain ⟨b, rfl, rb⟩ := (HS.out.next hbel).some k (by rw [HW.out]; exact hlt)
      have cb := rb.atW k (by rw [HW.out]; exact hlt)
      clear rb
      have HA := Lib.hid (H.out.next hbel)
      have HOW := Lib.hid hown2
      have HBL := Lib.hid hbel
      have hsz := hbel.size
      clear hown2 hbel
      obtain ⟨sh, hsh⟩ : ∃ sh, sh = (ofS ps (rdW ws k)).getD [] := ⟨_, rfl⟩
      obtain ⟨hb, hhb⟩ : ∃ hb, hb = (ofS ps (rdW ws k)).isSome := ⟨_, rfl⟩
      have HH := Lib.hid (show hasS ps ws k = hb from hhb.symm)
      have HC := Lib.hid (fun (W : World) (g : SlR W A ps) => (show Calls Tryz.prog 46 #[.slice A n c, .string ⟨(rdW ws k).toArray⟩] W (fun e w' => e = .returned (.tuple #[.string ⟨sh.toArray⟩, .bool hb]) ∧ Below W.heap.size W w') by rw [hsh, hhb]; exact (of_spec A c ps n (rdW ws k) W HN.out hnm g).mono fun e w' ⟨he, hw'⟩ => ⟨he, by rw [← hw']; exact Below.refl _ _⟩))
      clear hsh hhb
      repeat (first | go_values | go_skip | go_guarded | go_step | go_upon)
      go_at_call 46
      refine (HC.out _ HA.out).mono ?_
      rintro e w1 ⟨rfl, hb1⟩
      have HOW := Lib.hid (own_next HOW.out hb1)
      have HBL := Lib.hid (below_step HBL.out hb1)
      have hsz := HBL.out.size
      clear hb1 cb HC
      dsimp only
      cases hb
      · have HI := Lib.hid (idxS_no HH.out)
        repeat (first | go_values | go_skip | go_guarded | go_step | go_upon)
        go_roundw
        case rel => exact ⟨k + 1, by omega, by go_num, by rw [HI.out]; exact HOW.out, HBL.out⟩
        case measure => simp [intOf]; omega
      · have HI := Lib.hid (idxS_yes HH.out)
        repeat ((with_reducible fail_if_success (show wpList _ _ _ (⟨some 29, _, _, _, _, _⟩ :: _) _ _)); first | go_values | go_skip | go_guarded | go_step | go_upon)
        refine wpList_app1 rfl (.tmp 26) (.tmp 28) _ rfl elI w1 w.heap.size u5 (idxS (hasS ps ws) k).length _ rfl HOW.out (.int .i64 (k : Int)) _ rfl rfl rfl (by unfold maxLen; omega) (by omega) hsz ?_
        intro v' w' ho' hg'
        simp only [Act.put, List.setIfInBounds_toArray, List.set_cons_succ, List.set_cons_zero]
        have HB9 := Lib.hid (below_own HBL.out HOW.out hg' (Nat.le_refl _) hsz)
        clear hg'
        repeat (first | go_values | go_skip | go_guarded | go_step | go_upon)
        go_roundw
        case rel =>
          refine ⟨k + 1, by omega, by go_num, ?_, HB9.out⟩
          rw [HI.out, List.length_append, List.map_append]
          exact ho'
        case measure => simp [intOf]; omega
    · obtain rfl : k = m := by omega
      have HE := Lib.hid (show whichS ps ws = idxS (hasS ps ws) k by unfold whichS; rw [HW.out])
      repeat (first | go_values | go_skip | go_guarded | go_step | go_upon)
      go_ret
      exact ⟨_, rfl, by rw [HE.out]; exact hown2, hbel⟩
set_option maxHeartbeats 2000000 in
set_option maxRecDepth 100000 in
theorem which_impl (A B : Option Addr) (c d : Nat) (ps : List Sr) (ws : List (List UInt8)) (n m : Nat) (w : World) (hn : ps.length = n) (hnm : n ≤ 1048576) (h : SlR w A ps) (hw : ws.length = m) (hm : m ≤ 1048576) (hs : SlE sv w B ws) :
    Calls Tryz.prog 32 #[.slice B m d, .slice A n c] w fun e w' => ∃ v, e = .returned v ∧ w'.ownsRow w.heap.size 2 1 v (whichS ps ws).length ((whichS ps ws).map i64) ∧ Below w.heap.size w w' := by
  have HN := Lib.hid hn
  have H := Lib.hid h
  have HW := Lib.hid hw
  have HS := Lib.hid hs
  clear hn h hw hs
  go_enter Tryz.func32, Tryz.ntmps32
  repeat ((with_reducible fail_if_success (show Code.wp _ (Code.loop _) _ _ _)); first | go_values | go_skip | go_guarded | go_step | go_upon)
  have hown := own_empty w _ rfl w.heap.size 2 (Nat.le_refl _) 1
  have hb0 := below_one w (.cells #[] 2)
  go_loopw [5, 13] (fun v i wr => ∃ k : Nat, k ≤ m ∧ i = .int .i64 k ∧ wr.ownsRow w.heap.size 2 1 v (idxS (hasS ps ws) k).length ((idxS (hasS ps ws) k).map i64) ∧ Below w.heap.size w wr) (fun _ i _ => m - (intOf i).toNat)
  case atStart => exact ⟨0, by omega, rfl, hown, hb0⟩
  case round =>
    obtain ⟨k, hk, rfl, hown2, hbel⟩ := hrel
    have hil := idxS_length (hasS ps ws) k
    clear hown hb0
    by_cases hlt : k < m
    · obtain ⟨b, rfl, rb⟩ := (HS.out.next hbel).some k (by rw [HW.out]; exact hlt)
      have cb := rb.atW k (by rw [HW.out]; exact hlt)
      clear rb
      have HA := Lib.hid (H.out.next hbel)
      have HOW := Lib.hid hown2
      have HBL := Lib.hid hbel
      have hsz := hbel.size
      clear hown2 hbel
      obtain ⟨sh, hsh⟩ : ∃ sh, sh = (ofS ps (rdW ws k)).getD [] := ⟨_, rfl⟩
      obtain ⟨hb, hhb⟩ : ∃ hb, hb = (ofS ps (rdW ws k)).isSome := ⟨_, rfl⟩
      have HH := Lib.hid (show hasS ps ws k = hb from hhb.symm)
      have HC := Lib.hid (fun (W : World) (g : SlR W A ps) => (show Calls Tryz.prog 52 #[.slice A n c, .string ⟨(rdW ws k).toArray⟩] W (fun e w' => e = .returned (.tuple #[.string ⟨sh.toArray⟩, .bool hb]) ∧ Below W.heap.size W w') by rw [hsh, hhb]; exact (of_impl A c ps n (rdW ws k) W HN.out hnm g).mono fun e w' ⟨he, hw'⟩ => ⟨he, hw'⟩))
      clear hsh hhb
      repeat (first | go_values | go_skip | go_guarded | go_step | go_upon)
      go_at_call 52
      refine (HC.out _ HA.out).mono ?_
      rintro e w1 ⟨rfl, hb1⟩
      have HOW := Lib.hid (own_next HOW.out hb1)
      have HBL := Lib.hid (below_step HBL.out hb1)
      have hsz := HBL.out.size
      clear hb1 cb HC
      dsimp only
      cases hb
      · have HI := Lib.hid (idxS_no HH.out)
        repeat (first | go_values | go_skip | go_guarded | go_step | go_upon)
        go_roundw
        case rel => exact ⟨k + 1, by omega, by go_num, by rw [HI.out]; exact HOW.out, HBL.out⟩
        case measure => simp [intOf]; omega
      · have HI := Lib.hid (idxS_yes HH.out)
        repeat ((with_reducible fail_if_success (show wpList _ _ _ (⟨some 28, _, _, _, _, _⟩ :: _) _ _)); first | go_values | go_skip | go_guarded | go_step | go_upon)
        refine wpList_app1 rfl (.tmp 25) (.tmp 27) _ rfl elI w1 w.heap.size u5 (idxS (hasS ps ws) k).length _ rfl HOW.out (.int .i64 (k : Int)) _ rfl rfl rfl (by unfold maxLen; omega) (by omega) hsz ?_
        intro v' w' ho' hg'
        simp only [Act.put, List.setIfInBounds_toArray, List.set_cons_succ, List.set_cons_zero]
        have HB9 := Lib.hid (below_own HBL.out HOW.out hg' (Nat.le_refl _) hsz)
        clear hg'
        repeat (first | go_values | go_skip | go_guarded | go_step | go_upon)
        go_roundw
        case rel =>
          refine ⟨k + 1, by omega, by go_num, ?_, HB9.out⟩
          rw [HI.out, List.length_append, List.map_append]
          exact ho'
        case measure => simp [intOf]; omega
    · obtain rfl : k = m := by omega
      have HE := Lib.hid (show whichS ps ws = idxS (hasS ps ws) k by unfold whichS; rw [HW.out])
      repeat (first | go_values | go_skip | go_guarded | go_step | go_upon)
      go_ret
      exact ⟨_, rfl, by rw [HE.out]; exact hown2, hbel⟩
end Go.Proofs.YtnlnjpdnhdmndaaGreatDoor
