/- Contracts: a list of numbers is copied, by the library's slices.Clone. Contracts: the lines between breaks, by the program. Contracts: the lines between breaks, by the program. Contracts: what is left in the lines between breaks, by the program. Contracts: CheckBreaks, RightRoom, by the program and the reference. Contracts: how uneven breaks are, by the program and the reference. -/
import Derived.Test.YtdhngjjfoddnkaaGreatDoorGJ
import Derived.Test.YtdhngjjfoddnkaaGreatDoorGH
namespace Go.Proofs.YtdhngjjfoddnkaaGreatDoor
open Go Go.RowKit
set_option linter.unusedVariables false
set_option linter.unusedSimpArgs false

set_option maxRecDepth 100000 in
theorem clone_any (A : Option Addr) (c : Nat) (xs : List Int) (n : Nat) (w : World) (hn : xs.length = n) (hm : n ≤ 1048576) (h : SlE i64 w A xs) :
    Calls Tryz.prog 67 #[.slice A n c] w fun e w' => ∃ v, e = .returned v ∧ w'.ownsRow w.heap.size 2 1 v n (xs.map i64) ∧ Below w.heap.size w w' := by
  cases A with
  | none =>
    have hx : xs = [] := by
      cases xs with
      | nil => rfl
      | cons x r => obtain ⟨a, e, _⟩ := h 0 x rfl; cases e
    subst hx
    obtain rfl : n = 0 := hn.symm
    go_enter Tryz.func67, Tryz.ntmps67
    go_wp2_with (refine wpList_is (.binOp .eql 32 (.tmp 3) (.const (.slice none 0 0)) 32) rfl rfl (.bool true) (by kernel_rfl) ?_; simp only [Act.put, List.setIfInBounds_toArray, List.set_cons_succ, List.set_cons_zero])
    go_ret
    exact ⟨_, rfl, ⟨rfl, .inl ⟨rfl, rfl⟩⟩, Below.refl _ _⟩
  | some p =>
    obtain ⟨i, hi, hz, hsz, hby⟩ := info_parts elI.info
    have hB := below_one w (.cells #[] 2)
    have HS := Lib.hid (h.next hB)
    have hown := own_empty w w.heap.size rfl w.heap.size 2 (Nat.le_refl _) 1
    have HI := Lib.hid hi
    have HZ := Lib.hid hz
    have HSZ := Lib.hid hsz
    have HBY := Lib.hid hby
    clear h hi hz hsz hby
    go_enter Tryz.func67, Tryz.ntmps67
    go_wp2_with (first
      | (refine wpList_is (.binOp .eql 32 (.tmp 3) (.const (.slice none 0 0)) 32) rfl rfl (.bool false) (by kernel_rfl) ?_; simp only [Act.put, List.setIfInBounds_toArray, List.set_cons_succ, List.set_cons_zero])
      | (at_builtin; refine wpList_append_own _ rfl (.tmp 5) (.tmp 6) 32 rfl w.heap.size 2 i (.int .i64 0) 1 8 elI.under HI.out HZ.out HSZ.out HBY.out elI.cells (by omega) (.slice (some ⟨w.heap.size, 0, none⟩) 0 0) 0 [] rfl hown p n c (xs.map i64) rfl (by rw [List.length_map, hn, Nat.mul_one]) (fun j u hu => by
      rw [List.getElem?_map] at hu
      cases hq : xs[j]? with
      | none => rw [hq] at hu; cases hu
      | some x =>
        rw [hq] at hu
        cases hu
        obtain ⟨a, e, hc⟩ := HS.out j x hq
        cases e
        exact hc) (fun u hu => by obtain ⟨x, _, rfl⟩ := List.mem_map.1 hu; rfl) (by unfold maxLen; omega) (by omega) (by simp) ?_; intro v' w' ho' hg' _))
    go_ret
    refine ⟨v', rfl, ?_, below_own hB hown hg' (Nat.le_refl _) (by simp)⟩
    simpa using ho'
end Go.Proofs.YtdhngjjfoddnkaaGreatDoor
namespace Go.Proofs.YtdhngjjfoddnkaaGreatDoor
open Go Go.RowKit
set_option linter.unusedVariables false
set_option linter.unusedSimpArgs false

theorem exec_sliceH {o : Oper} {a : Act} {w : World} (x lo hi : Operand) (ho : o.op = .slice 39 x (some lo) (some hi) none) (g n c l h : Nat) (hx : a.eval x = .slice (some ⟨g, 0, none⟩) n c) (hl : a.eval lo = .int .i64 (l : Int)) (hh : a.eval hi = .int .i64 (h : Int)) (hlh : l ≤ h) (hc : h ≤ c) (hlc : l < c ∨ l = 0) :
    (execOp a.eval o).run Tryz.prog w = .ok (.value (.slice (some ⟨g, l, none⟩) (h - l) (c - l))) w := by
  by_cases hne : c = l
  · have e0 : l = 0 := by omega
    subst e0
    have h0 : h = 0 := by omega
    subst h0
    have hz : (Tryz.prog.info? 9).map (·.size) = some 1 := by kernel_rfl
    cases hq : Tryz.prog.info? 9 with
    | none => rw [hq] at hz; cases hz
    | some i =>
      unfold execOp
      simp [ho, hx, hl, hh, Instr.sliceAt, Instr.slice, Instr.sliceBounds, Instr.sliceBound, asIntOf, Sem.run_bind, run_underlying Tryz.underlying39, hne, sizeOf, typeInfo, hq]
  · have := exec_sliceG (w := w) x lo hi ho (some ⟨g, 0, none⟩) n c l h hx hl hh hlh hc (by omega)
    rw [Option.map_some, add_mid, Nat.zero_add] at this
    exact this
theorem sizeS_any (A : Option Addr) (c n : Nat) (w : World) : Calls Tryz.prog 68 #[.slice A n c] w fun e w' => e = .returned (.int .i64 n) ∧ w = w' := by
  go_enter Tryz.func68, Tryz.ntmps68
  go_wp2
  go_ret
  exact ⟨rfl, rfl⟩
/-- Line i as a text. -/
def jnL (ws : List (List UInt8)) (xs : List Int) (i : Nat) : List UInt8 := joinW (cutW ws (bkA xs i) (bkE ws.length xs i))
def jnsL (ws : List (List UInt8)) (xs : List Int) (k : Nat) : List (List UInt8) := (List.range k).map (jnL ws xs)
theorem jnsL_succ (ws : List (List UInt8)) (xs : List Int) (k : Nat) : jnsL ws xs (k + 1) = jnsL ws xs k ++ [jnL ws xs k] := by unfold jnsL; rw [List.range_succ, List.map_append]; rfl
theorem jnsL_length (ws : List (List UInt8)) (xs : List Int) (k : Nat) : (jnsL ws xs k).length = k := by unfold jnsL; simp
theorem jnsL_at {ws : List (List UInt8)} {xs : List Int} {k i : Nat} (h : i < k) : (jnsL ws xs k)[i]? = some (jnL ws xs i) := by
  unfold jnsL
  rw [List.getElem?_map, List.getElem?_range h]; rfl
end Go.Proofs.YtdhngjjfoddnkaaGreatDoor
namespace Go.Proofs.YtdhngjjfoddnkaaGreatDoor
open Go Go.RowKit
set_option linter.unusedVariables false
set_option linter.unusedSimpArgs false

structure JnRel (ws : List (List UInt8)) (xs : List Int) (w0 wr : World) (v : Value) (k : Nat) : Prop where
  own : wr.ownsRow w0.heap.size 9 1 v k ((jnsL ws xs k).map sv)
  below : Below w0.heap.size w0 wr
set_option maxHeartbeats 2000000 in
set_option maxRecDepth 100000 in
theorem lines_impl (B : Option Addr) (g d : Nat) (ws : List (List UInt8)) (xs : List Int) (n : Nat) (w : World) (hw : Ws ws) (hl : ∀ a b, (joinW (cutW ws a b)).length ≤ 60) (hn : xs.length = n) (ht : told ws.length xs = true) (hg : Blk w g 9 (wsV ws)) (h : SlE i64 w B xs) :
    Calls Tryz.prog 44 #[.slice (some ⟨g, 0, none⟩) ws.length ws.length, .slice B n d] w fun e w' => ∃ v, e = .returned v ∧ w'.ownsRow w.heap.size 9 1 v (n + 1) ((jnsL ws xs (n + 1)).map sv) ∧ Below w.heap.size w w' := by
  have hfew := told_few ht
  rw [hn] at hfew
  have hcnt := hw.many
  have hB := below_one w (.cells #[] 9)
  have HXS := Lib.hid (h.next hB)
  have HG := Lib.hid (hg.next hB)
  have HG0 := Lib.hid hg
  have HN := Lib.hid hn
  have HT := Lib.hid ht
  have HL := Lib.hid hl
  have hown0 := own_empty w w.heap.size rfl w.heap.size 9 (Nat.le_refl _) 1
  clear h hg hn ht hw hl
  go_enter Tryz.func44, Tryz.ntmps44
  go_wp2_with fail
  go_at_call 67
  refine (clone_any B d xs n _ HN.out (by omega) HXS.out).mono ?_
  rintro e w1 ⟨v1, rfl, ho1, hb1⟩
  have hz1 := hb1.size
  go_wp2_with (first
    | (go_at_call 68; refine (sizeS_any _ _ _ _).mono ?_; rintro e w2 ⟨rfl, rfl⟩)
    | (at_builtin; refine wpList_app1 rfl (.tmp 11) (.tmp 14) _ rfl elI w1 _ v1 n _ rfl ho1 (.int .i64 (ws.length : Nat)) _ rfl rfl rfl (by unfold maxLen; omega) (by omega) hz1 ?_; intro v2 w3 ho2 hg2; obtain ⟨g3, c3, cs3, rfl, hg3, hblk3, _⟩ := own_blk ho2 (by omega)))
  have hb3 := below_own hb1 ho1 hg2 (Nat.le_refl _) hz1
  have hown3 := own_next hown0 hb3
  have hbel3 := below_step hB hb3
  have hw1 : w.heap.size < (w.alloc (.cells #[] 9)).heap.size := by simp
  have hne0 : some g3 ≠ some w.heap.size := by intro e; cases e; omega
  clear hb3 ho1 ho2 hg2 hown0 hz1 hb1
  go_wp2
  go_loopw [5, 6, 17] (fun v fr i wr => ∃ k : Nat, k ≤ n + 1 ∧ i = .int .i64 k ∧ fr = .int .i64 (if k ≤ n then ((bkA xs k : Nat) : Int) else (ws.length : Int)) ∧ some g3 ≠ v.ownBlock ∧ Blk wr g3 2 (xs.map i64 ++ [.int .i64 (ws.length : Nat)] ++ cs3) ∧ JnRel ws xs w wr v k) (fun _ _ i _ => n + 1 - (intOf i).toNat)
  case atStart => exact ⟨0, by omega, rfl, rfl, hne0, hblk3, hown3, hbel3⟩
  clear hne0 hblk3 hown3 hbel3
  case round =>
    obtain ⟨k, hk, rfl, rfl, hne, hblk, h⟩ := hrel
    have HNE := Lib.hid hne
    have hown := h.own
    have hbel := h.below
    clear h hne
    have hsz := hbel.size
    by_cases hlt : k < n + 1
    · have hb := bk_range HT.out (i := k) (by rw [HN.out]; omega)
      have hkn : k ≤ n := by omega
      rw [if_pos hkn]
      have hval : (xs.map i64 ++ [Value.int .i64 (ws.length : Nat)] ++ cs3)[k]? = some (.int .i64 ((bkE ws.length xs k : Nat) : Int)) := by
        by_cases h1 : k < n
        · have hx := bk_in HT.out (i := k) (by rw [HN.out]; exact h1)
          have he : bkE ws.length xs k = (rdI xs k).toNat := by unfold bkE; rw [if_pos (by rw [HN.out]; exact h1)]
          rw [List.append_assoc, List.getElem?_append_left (by rw [List.length_map, HN.out]; exact h1), List.getElem?_map, he, Int.toNat_of_nonneg (by omega)]
          unfold rdI
          rw [List.getD, List.getElem?_eq_getElem (by rw [HN.out]; exact h1)]
          rfl
        · obtain rfl : k = n := by omega
          have he : bkE ws.length xs k = ws.length := by have := bkE_last (N := ws.length) (xs := xs); rwa [HN.out] at this
          rw [he, List.append_assoc, List.getElem?_append_right (by rw [List.length_map, HN.out]; exact Nat.le_refl _), List.length_map, HN.out, Nat.sub_self]
          rfl
      have hcell := hblk.cell k _ hval
      have HBL := Lib.hid hblk
      have HX := Lib.hid (jnsL_succ ws xs k)
      have HJ := Lib.hid (show jnL ws xs k = joinW (cutW ws (bkA xs k) (bkE ws.length xs k)) from rfl)
      have HFR := Lib.hid (show (if k + 1 ≤ n then ((bkA xs (k + 1) : Nat) : Int) else (ws.length : Int)) = ((bkE ws.length xs k : Nat) : Int) by
        by_cases h1 : k + 1 ≤ n
        · rw [if_pos h1, bkA_next (N := ws.length) (by rw [HN.out]; omega)]
        · rw [if_neg h1]
          have := bkE_last (N := ws.length) (xs := xs)
          rw [HN.out] at this
          rw [show k = n by omega, this])
      have HG1 := Lib.hid (HG0.out.next hbel)
      have HLL := Lib.hid (HL.out (bkA xs k) (bkE ws.length xs k))
      clear hblk hval
      generalize bkA xs k = fr at *
      generalize bkE ws.length xs k = te at *
      have h1 : fr ≤ te := by omega
      have h2 : fr < ws.length ∨ fr = 0 := by omega
      have h3 : te ≤ ws.length := hb.1
      clear hb
      go_wp2_with (first
        | (refine wpList_run rfl _ (exec_sliceH (.tmp 22) (.tmp 23) (.tmp 24) rfl g ws.length ws.length fr te rfl rfl rfl h1 h3 h2) ?_)
        | (go_at_call 69; refine (join_impl g fr te (ws.length - fr) ws _ h3 (by omega) hcnt (by have := HLL.out; omega) HG1.out).mono ?_; rintro e w5 ⟨rfl, hb5⟩; have hown5 := own_next hown hb5; have hbel5 := below_step hbel hb5; have hsz5 := hbel5.size; have HBL5 := Lib.hid (HBL.out.next hb5); clear hb5)
        | (at_builtin; refine wpList_app1B rfl (.tmp 21) (.tmp 27) _ rfl elStr w5 w.heap.size u5 k _ rfl hown5 (.string ⟨(joinW (cutW ws fr te)).toArray⟩) _ rfl rfl rfl (by unfold maxLen; omega) (by omega) hsz5 ?_; intro v' w' ho' hg' hwh))
      go_roundw
      case rel =>
        refine ⟨k + 1, by omega, by go_num, by rw [HFR.out], ?_, HBL5.out.grown hg' HNE.out, ?_, below_own hbel5 hown5 hg' (Nat.le_refl _) hsz5⟩
        · rcases hwh with e | ⟨g', hg4, e⟩
          · rw [e]; exact HNE.out
          · rw [e]
            intro e2
            cases e2
            have := HBL5.out.lt
            omega
        · rw [HX.out, HJ.out, List.map_append]
          exact ho'
      case measure => simp [intOf]; omega
    · obtain rfl : k = n + 1 := by omega
      clear hblk
      go_wp2
      go_ret
      exact ⟨_, rfl, hown, hbel⟩
end Go.Proofs.YtdhngjjfoddnkaaGreatDoor
namespace Go.Proofs.YtdhngjjfoddnkaaGreatDoor
open Go Go.RowKit
set_option linter.unusedVariables false
set_option linter.unusedSimpArgs false

/-- As 'OwnS.of_own', and the capacity. -/
theorem OwnS.of_ownC {w : World} {lo : Nat} {v : Value} {n : Nat} {xs : List Int} (h : w.ownsRow lo 2 1 v n (xs.map i64)) : ∃ A c, v = .slice A xs.length c ∧ xs.length = n ∧ OwnS w lo w.heap.size A xs ∧ xs.length ≤ c := by
  obtain ⟨A, c, e, hl, ho⟩ := OwnS.of_own h
  obtain ⟨A', c', e', hl', hc, _⟩ := SlE_own h
  rw [e] at e'
  cases e'
  exact ⟨A, c, e, hl, ho, by omega⟩
/-- A list of numbers in memory of the call's own, and a code. -/
def ListOutC (w : World) (xs : List Int) (code : Int) (e : Ending) (w' : World) : Prop :=
  ∃ A c, e = .returned (.tuple #[.slice A xs.length c, .int .i64 code]) ∧ Below w.heap.size w w' ∧ OwnS w' w.heap.size w'.heap.size A xs ∧ xs.length ≤ c
theorem ListOutC.out {w : World} {xs : List Int} {code : Int} {e : Ending} {w' : World} (h : ListOutC w xs code e w') : ListOut w xs code e w' := by
  obtain ⟨A, c, h1, h2, h3, _⟩ := h
  exact ⟨A, c, h1, h2, h3⟩
/-- What is left, and whether all is right, by the program (all lines, even where one is too wide). -/
def RmOut (f : Fc) (ws : List (List UInt8)) (m : Int) (xs : List Int) (w : World) (e : Ending) (w' : World) : Prop :=
  ∃ A n c, e = .returned (.tuple #[.slice A n c, .bool (rightB f ws m xs)]) ∧ Below w.heap.size w w' ∧ n ≤ c ∧ (rightB f ws m xs = true → n = xs.length + 1 ∧ OwnS w' w.heap.size w'.heap.size A (lefts f ws m xs (xs.length + 1)))
structure RmRel (f : Fc) (ws : List (List UInt8)) (m : Int) (xs : List Int) (B : Nat) (w0 wr : World) (v : Value) (k : Nat) : Prop where
  own : wr.ownsRow B 2 1 v k ((lefts f ws m xs k).map i64)
  below : Below B w0 wr

set_option maxHeartbeats 2000000 in
set_option maxRecDepth 100000 in
theorem rooms_impl (f : Fc) (A B : Option Addr) (p c g d : Nat) (ws : List (List UInt8)) (m : Int) (xs : List Int) (n : Nat) (w : World) (hf : FcT f) (hV : FcV f) (hp : f.pairs.length = p) (hm : p ≤ 1048576) (hs : SlP w A f.pairs) (hw : Ws ws) (hl : ∀ a b, (joinW (cutW ws a b)).length ≤ 60)
    (hmr : 0 ≤ m ∧ m ≤ 1000000) (h : Blk w g 9 (wsV ws)) (hn : xs.length = n) (hnm : n ≤ 1048576) (hb : SlE i64 w B xs) :
    Calls Tryz.prog 40 #[.agg (stV f (.slice A p c) (wS g ws) m).toArray, .slice B n d] w (RmOut f ws m xs w) := by
  have hB := below_one w (.cells (stV f (.slice A p c) (wS g ws) m).toArray 55)
  have hk := Blk.new w 55 (stV f (.slice A p c) (wS g ws) m)
  have c29 := hk.cell 29 (.slice (some ⟨g, 0, none⟩) ws.length ws.length) (stV_words hf _ _ _)
  have HXS := Lib.hid (hb.next hB)
  have HN := Lib.hid hn
  have hmany := hw.many
  cases ht : told ws.length xs
  · have HX := Lib.hid (rightB_told (f := f) (m := m) ht)
    have HT := Lib.hid ht
    clear ht hk hs h hb hn
    go_enter Tryz.func40, Tryz.ntmps40
    go_wp2_with (go_at_call 43; refine (told_impl ws.length B d xs n _ hmany HN.out hnm HXS.out).mono ?_; rintro e w1 ⟨he, rfl⟩; rw [HT.out] at he; subst he)
    go_ret2
    exact ⟨none, 0, 0, by rw [HX.out]; rfl, hB, Nat.le_refl 0, (fun h => by rw [HX.out] at h; exact absurd h (by decide))⟩
  · have HT := Lib.hid ht
    have hfew := told_few ht
    rw [hn] at hfew
    have HK := Lib.hid hk
    have HS := Lib.hid (hs.next hB)
    have HG := Lib.hid (h.next hB)
    have HW := Lib.hid hw
    have HL := Lib.hid hl
    have c29b := (hk.alloc (.cells #[] 2)).cell 29 (.slice (some ⟨g, 0, none⟩) ws.length ws.length) (stV_words hf _ _ _)
    clear ht hs h hb hn hk hw hl
    go_enter Tryz.func40, Tryz.ntmps40
    go_wp2_with (go_at_call 43; refine (told_impl ws.length B d xs n _ hmany HN.out hnm HXS.out).mono ?_; rintro e w1 ⟨he, rfl⟩; rw [HT.out] at he; subst he)
    have hB2 := below_one (w.alloc (.cells (stV f (.slice A p c) (wS g ws) m).toArray 55)) (.cells #[] 2)
    have hown0 := own_empty (w.alloc (.cells (stV f (.slice A p c) (wS g ws) m).toArray 55)) (w.heap.size + 1) (by simp) (w.heap.size + 1) 2 (by omega) 1
    refine (lines_impl B g d ws xs n _ HW.out HL.out HN.out HT.out (HG.out.next hB2) (HXS.out.next hB2)).mono ?_
    rintro e w2 ⟨v2, rfl, ho2, hb2⟩
    have hsz0 : (w.alloc (.cells (stV f (.slice A p c) (wS g ws) m).toArray 55)).heap.size = w.heap.size + 1 := by simp
    have hbw2 := below_step hB2 hb2
    have hown2 := own_next hown0 hb2
    have hz2 := hb2.size
    simp only [World.size_alloc] at hz2
    have hw1 : w.heap.size + 1 < ((w.alloc (.cells (stV f (.slice A p c) (wS g ws) m).toArray 55)).alloc (.cells #[] 2)).heap.size := by simp
    obtain ⟨g2, cap2, cs2, rfl, hg2, hblk, _⟩ := own_blk ho2 (by omega)
    have hne0 : some g2 ≠ some (w.heap.size + 1) := by intro e; cases e; omega
    rw [hsz0] at hbw2
    clear ho2 hb2 hown0 c29b hw1 hz2 hB2 hsz0
    go_wp2
    go_loopw [6, 7, 23] (fun v r i wr => ∃ k : Nat, k ≤ n + 1 ∧ i = .int .i64 k ∧ r = .bool (decide (RightN f ws m xs k)) ∧ some g2 ≠ v.ownBlock ∧ Blk wr g2 9 ((jnsL ws xs (n + 1)).map sv ++ cs2) ∧ RmRel f ws m xs (w.heap.size + 1) (w.alloc (.cells (stV f (.slice A p c) (wS g ws) m).toArray 55)) wr v k) (fun _ _ i _ => n + 1 - (intOf i).toNat)
    case atStart => exact ⟨0, by omega, rfl, by rw [decide_eq_true (rightN_zero f ws m xs)], hne0, hblk, hown2, hbw2⟩
    clear hne0 hblk hown2 hbw2
    case round =>
      obtain ⟨k, hk, rfl, rfl, hne, hblk, h⟩ := hrel
      have HNE := Lib.hid hne
      have hown := h.own
      have hbel := h.below
      clear h hne
      have hsz := hbel.size
      rw [World.size_alloc] at hsz
      by_cases hlt : k < n + 1
      · have hb := bk_range HT.out (i := k) (by rw [HN.out]; omega)
        have hrg := lnW_range hV HW.out (bkA xs k) (bkE ws.length xs k)
        have HLA := Lib.hid (show leftAt f ws m xs k = m - lnW f ws (bkA xs k) (bkE ws.length xs k) from rfl)
        have HX := Lib.hid (lefts_succ f ws m xs k)
        have HD := Lib.hid (rightN_dec (f := f) (ws := ws) (m := m) (xs := xs) (k := k))
        have hcell := hblk.cell k (sv (joinW (cutW ws (bkA xs k) (bkE ws.length xs k)))) (by
          rw [List.getElem?_append_left (by rw [List.length_map, jnsL_length]; exact hlt), List.getElem?_map, jnsL_at hlt]; rfl)
        have hbelW : Below (w.alloc (.cells (stV f (.slice A p c) (wS g ws) m).toArray 55)).heap.size (w.alloc (.cells (stV f (.slice A p c) (wS g ws) m).toArray 55)) wr := by rw [World.size_alloc]; exact hbel
        have HBL := Lib.hid hblk
        have HS3 := Lib.hid (HS.out.next hbelW)
        have HK3 := Lib.hid (HK.out.next hbelW)
        have HLL := Lib.hid (HL.out (bkA xs k) (bkE ws.length xs k))
        have HLS := Lib.hid (line_ls (HW.out.cut (bkA xs k) (bkE ws.length xs k)))
        have HF29 := Lib.hid (show (Tryz.prog.info? 28).map (·.size) = some (fcV f (.slice A p c)).length by rw [fcV_length hf]; exact szFcI)
        clear hblk hb hbelW
        have HLN := Lib.hid (show lineW f (joinW (cutW ws (bkA xs k) (bkE ws.length xs k))) = lnW f ws (bkA xs k) (bkE ws.length xs k) from rfl)
        generalize bkA xs k = fr at *
        generalize bkE ws.length xs k = te at *
        have hsub : IntKind.i64.wrap (m - lnW f ws fr te) = m - lnW f ws fr te := IntWalk.i64_in _ (by omega)
        have HSUB := Lib.hid hsub
        clear hsub
        obtain ⟨d0, hd0⟩ : ∃ d0, d0 = decide (RightN f ws m xs k) := ⟨_, rfl⟩
        have HD0 := Lib.hid hd0
        rw [← hd0]
        clear hd0
        go_wp2
        refine region_below (wr.heap.size) (by kernel_rfl) (by kernel_rfl) ?_
        refine below_run (by kernel_rfl) (.pointer (some ⟨w.heap.size, 30, none⟩)) (fun w' hw' => by kernel_rfl) ?_
        refine below_run (by kernel_rfl) (.int .i64 m) (fun w' hw' => exec_load1 2 (.tmp 27) rfl ⟨w.heap.size, 30, none⟩ (by kernel_rfl) (.int .i64 m) ((HK3.out.next hw').cell 30 _ (stV_wide hf _ _ _)) _ Tryz.underlying2 rfl) ?_
        refine below_run (by kernel_rfl) (.pointer (some ⟨w.heap.size, 0, none⟩)) (fun w' hw' => by kernel_rfl) ?_
        refine below_run (by kernel_rfl) (.agg (fcV f (.slice A p c)).toArray) (fun w' hw' => exec_loadV 28 (.tmp 29) rfl ⟨w.heap.size, 0, none⟩ (by kernel_rfl) (fcV f (.slice A p c)) _ ((by have := (HK3.out.next hw').rowV 0 29; rwa [stV_face hf] at this)) Tryz.underlying28 rfl HF29.out) ?_
        refine below_run (by kernel_rfl) (sv (joinW (cutW ws fr te))) (fun w' hw' => by kernel_rfl) ?_
        refine below_call (by kernel_rfl) 46 #[.agg (fcV f (.slice A p c)).toArray, .string ⟨(joinW (cutW ws fr te)).toArray⟩] (.int .i64 (lnW f ws fr te)) (fun w' => by kernel_rfl) (fun w' hw' => (wide_impl f A p c ⟨(joinW (cutW ws fr te)).toArray⟩ w' hf hV hp hm HLS.out HLL.out (HS3.out.next hw')).mono fun e w1 ⟨he, hb1⟩ => ⟨he, below_step hw' hb1⟩) ?_
        refine below_run (by kernel_rfl) (.int .i64 (m - lnW f ws fr te)) (fun w' hw' => Eq.trans (show (execOp _ _).run _ w' = .ok (.value (.int .i64 (IntKind.i64.wrap (m - lnW f ws fr te)))) w' by kernel_rfl) (by rw [HSUB.out])) ?_
        refine below_run (by kernel_rfl) (.int .i64 (m - lnW f ws fr te)) (fun w' hw' => by kernel_rfl) ?_
        refine wpQuiet_nil ?_
        intro W3 hW3
        simp only [Act.put, List.setIfInBounds_toArray, List.set_cons_succ, List.set_cons_zero]
        have hown3 := own_next hown hW3
        have hbel3 := hbel.trans (hW3.mono (by omega))
        have hsz3 : w.heap.size + 1 ≤ W3.heap.size := by have := hW3.size; omega
        have HBL3 := Lib.hid (HBL.out.next hW3)
        clear hW3 hcell
        have hge : decide (m - lnW f ws fr te ≥ 0) = decide (0 ≤ m - lnW f ws fr te) := rfl
        cases d0 <;> by_cases hneg : 0 ≤ m - lnW f ws fr te
        all_goals
          go_wp2_with (at_builtin; refine wpList_app1B rfl (.tmp 39) (.tmp 41) _ rfl elI W3 (w.heap.size + 1) u6 k _ rfl hown3 (.int .i64 (m - lnW f ws fr te)) _ rfl rfl rfl (by unfold maxLen; omega) (by omega) hsz3 ?_; intro v' w' ho' hg' hwh)
          go_roundw
          case rel =>
            refine ⟨k + 1, by omega, by go_num, by rw [HD.out, ← HD0.out, HLA.out]; simp [hneg], ?_, HBL3.out.grown hg' HNE.out, ?_, below_own hbel3 hown3 hg' (Nat.le_refl _) hsz3⟩
            · rcases hwh with e | ⟨g', hg3, e⟩
              · rw [e]; exact HNE.out
              · rw [e]
                intro e2
                cases e2
                have := HBL3.out.lt
                omega
            · rw [HX.out, HLA.out, List.map_append]
              exact ho'
          case measure => simp [intOf]; omega
      · obtain rfl : k = n + 1 := by omega
        have hr : rightB f ws m xs = decide (RightN f ws m xs (n + 1)) := by unfold rightB; rw [HT.out, Bool.true_and, HN.out]
        have HR := Lib.hid hr
        clear hblk hr
        generalize decide (RightN f ws m xs (n + 1)) = dd at *
        go_wp2
        go_ret2
        obtain ⟨A', c', rfl, hl, ho, hcap⟩ := OwnS.of_ownC hown
        refine ⟨A', _, c', by rw [HR.out]; rfl, hB.trans (hbel.mono (by omega)), hcap, fun _ => ⟨by rw [hl, HN.out], ?_⟩⟩
        rw [HN.out]
        exact ownS_lo ho (by omega)
end Go.Proofs.YtdhngjjfoddnkaaGreatDoor
namespace Go.Proofs.YtdhngjjfoddnkaaGreatDoor
open Go Go.RowKit
set_option linter.unusedVariables false
set_option linter.unusedSimpArgs false

/-- What is left in each line, and a code. -/
def rrOut (f : Fc) (l : List UInt8) (m : Int) (xs : List Int) : List Int × Int :=
  if askC f l (inB 0 4000 m) = 0 then (if rightB f (words l) m xs then (lefts f (words l) m xs (xs.length + 1), 0) else ([], 4)) else ([], askC f l (inB 0 4000 m))
theorem rrOut_no {f : Fc} {l : List UInt8} {m : Int} {xs : List Int} (h : ¬ askC f l (inB 0 4000 m) = 0) : rrOut f l m xs = ([], askC f l (inB 0 4000 m)) := by unfold rrOut; rw [if_neg h]
theorem rrOut_bad {f : Fc} {l : List UInt8} {m : Int} {xs : List Int} (h : askC f l (inB 0 4000 m) = 0) (k : rightB f (words l) m xs = false) : rrOut f l m xs = ([], 4) := by unfold rrOut; rw [if_pos h, k]; rfl
theorem rrOut_ok {f : Fc} {l : List UInt8} {m : Int} {xs : List Int} (h : askC f l (inB 0 4000 m) = 0) (k : rightB f (words l) m xs = true) : rrOut f l m xs = (lefts f (words l) m xs (xs.length + 1), 0) := by unfold rrOut; rw [if_pos h, k]; rfl

set_option maxHeartbeats 2000000 in
set_option maxRecDepth 100000 in
theorem check_impl (f : Fc) (A B : Option Addr) (n c d k : Nat) (s : ByteArray) (m : Int) (xs : List Int) (w : World) (hf : FcT f) (hn : f.pairs.length = n) (hm : n ≤ 1048576) (hs : s.size ≤ 1048576) (hk : xs.length = k) (hkm : k ≤ 1048576) (h : SlP w A f.pairs) (hmx : MaxW w) (hsp : SpT w) (hb : SlE i64 w B xs) :
    Calls Tryz.prog 18 #[.agg (fcV f (.slice A n c)).toArray, .string s, .int .i64 m, .slice B k d] w (ChkOut f (bs s) m xs w) := by
  have hB := below_one w (.cells (fcV f (.slice A n c)).toArray 28)
  have hk1 := Blk.new w 28 (fcV f (.slice A n c))
  have HS := Lib.hid (h.next hB)
  have HM := Lib.hid (hmx.next hB)
  have HP := Lib.hid (hsp.next hB)
  have HXS := Lib.hid (hb.next hB)
  have HK := Lib.hid hk
  have HF := Lib.hid hf
  have HN := Lib.hid hn
  have hsz : (fcV f (.slice A n c)).toArray.size = 29 := by simp [fcV_length hf]
  have HZ := Lib.hid (show (Tryz.prog.info? 28).map (·.size) = some (fcV f (.slice A n c)).toArray.size by rw [hsz]; exact szFcI)
  clear hn h hmx hsp hsz hf hk hb
  go_enter Tryz.func18, Tryz.ntmps18
  go_wp2_with (refine wpList_load_row rfl 28 (.tmp 4) rfl _ rfl 28 (fcV f (.slice A n c)).toArray _ _ hk1 Tryz.underlying28 rfl HZ.out ?_)
  go_at_call 29
  refine (setterOf_impl f A n c s m _ HF.out HN.out hm hs HS.out HM.out HP.out).mono ?_
  rintro e w1 ⟨hb, ⟨hne, rfl⟩ | ⟨h0, g, rfl, hg, hgb⟩⟩
  · have HO := Lib.hid (chkB_no (xs := xs) hne)
    have hB := below_step hB hb
    clear hb hk1
    obtain ⟨cd, hcd⟩ : ∃ cd, cd = askC f (bs s) (inB 0 4000 m) := ⟨_, rfl⟩
    have HC := Lib.hid hcd
    rw [← hcd] at hne ⊢
    clear hcd
    go_wp2_with (refine wpList_store_new rfl 55 _ _ rfl zSt.toArray rfl rfl 55 _ szStI rfl (one_st _ _ _ _ _ _ _ _) ?_)
    go_ret2
    exact ⟨by rw [HO.out, ← HC.out]; rfl, step_alloc hB _⟩
  · obtain ⟨hv, ht, hin⟩ := askC_zero h0
    have HVV := Lib.hid (validF_iff.1 hv)
    have HW := Lib.hid (ws_words ht)
    have HCL := Lib.hid (cut_len ht)
    have hmr := inB_iff.1 hin
    have H0 := Lib.hid h0
    have HO := Lib.hid (chkB_ok (xs := xs) h0)
    have hS1 := HS.out.next hb
    have hX1 := HXS.out.next hb
    have hB := below_step hB hb
    clear hv ht hin hb h0 hk1
    have hx := Blk.new w1 55 (stV f (.slice A n c) (wS g (words (bs s))) m)
    have hb := below_one w1 (.cells (stV f (.slice A n c) (wS g (words (bs s))) m).toArray 55)
    have hB2 := below_step hB hb
    have HG2 := Lib.hid (hgb.next hb)
    have HS2 := Lib.hid (hS1.next hb)
    have HX2 := Lib.hid (hX1.next hb)
    clear hb hgb hS1 hX1
    go_wp2_with (first
      | (refine wpList_store_new rfl 55 _ _ rfl (stV f (.slice A n c) (wS g (words (bs s))) m).toArray rfl rfl 55 _ (stSz HF.out _ _ _) (stOld HF.out _ _ _) (one_st _ _ _ _ _ _ _ _) ?_)
      | (refine wpList_load_row rfl 55 (.tmp 10) rfl _ rfl 55 (stV f (.slice A n c) (wS g (words (bs s))) m).toArray _ _ hx Tryz.underlying55 rfl (stSz HF.out _ _ _) ?_))
    generalize w1.alloc (.cells (stV f (.slice A n c) (wS g (words (bs s))) m).toArray 55) = W2 at *
    go_at_call 40
    refine (rooms_impl f A B n c g d (words (bs s)) m xs k _ HF.out HVV.out HN.out hm HS2.out HW.out HCL.out (by omega) HG2.out HK.out hkm HX2.out).mono ?_
    rintro e w3 ⟨A3, n3, c3, rfl, hb3, _, hyes⟩
    have hB3 := below_step hB2 hb3
    clear hyes hx
    go_wp2
    go_ret2
    exact ⟨by rw [HO.out, H0.out]; rfl, hB3⟩

set_option maxHeartbeats 2000000 in
set_option maxRecDepth 100000 in
theorem right_impl (f : Fc) (A B : Option Addr) (n c d k : Nat) (s : ByteArray) (m : Int) (xs : List Int) (w : World) (hf : FcT f) (hn : f.pairs.length = n) (hm : n ≤ 1048576) (hs : s.size ≤ 1048576) (hk : xs.length = k) (hkm : k ≤ 1048576) (h : SlP w A f.pairs) (hmx : MaxW w) (hsp : SpT w) (hb : SlE i64 w B xs) :
    Calls Tryz.prog 21 #[.agg (fcV f (.slice A n c)).toArray, .string s, .int .i64 m, .slice B k d] w (ListOutC w (rrOut f (bs s) m xs).1 (rrOut f (bs s) m xs).2) := by
  have hB := below_one w (.cells (fcV f (.slice A n c)).toArray 28)
  have hk1 := Blk.new w 28 (fcV f (.slice A n c))
  have HS := Lib.hid (h.next hB)
  have HM := Lib.hid (hmx.next hB)
  have HP := Lib.hid (hsp.next hB)
  have HXS := Lib.hid (hb.next hB)
  have HK := Lib.hid hk
  have HF := Lib.hid hf
  have HN := Lib.hid hn
  have hsz : (fcV f (.slice A n c)).toArray.size = 29 := by simp [fcV_length hf]
  have HZ := Lib.hid (show (Tryz.prog.info? 28).map (·.size) = some (fcV f (.slice A n c)).toArray.size by rw [hsz]; exact szFcI)
  clear hn h hmx hsp hsz hf hk hb
  go_enter Tryz.func21, Tryz.ntmps21
  go_wp2_with (refine wpList_load_row rfl 28 (.tmp 4) rfl _ rfl 28 (fcV f (.slice A n c)).toArray _ _ hk1 Tryz.underlying28 rfl HZ.out ?_)
  go_at_call 29
  refine (setterOf_impl f A n c s m _ HF.out HN.out hm hs HS.out HM.out HP.out).mono ?_
  rintro e w1 ⟨hb, ⟨hne, rfl⟩ | ⟨h0, g, rfl, hg, hgb⟩⟩
  · have HO := Lib.hid (rrOut_no (xs := xs) hne)
    have hB := below_step hB hb
    clear hb hk1
    generalize askC f (bs s) (inB 0 4000 m) = cd at *
    go_wp2_with (refine wpList_store_new rfl 55 _ _ rfl zSt.toArray rfl rfl 55 _ szStI rfl (one_st _ _ _ _ _ _ _ _) ?_)
    go_ret2
    exact ⟨none, 0, by rw [HO.out]; rfl, step_alloc hB _, by rw [HO.out]; exact OwnS.nil, by rw [HO.out]; exact Nat.zero_le _⟩
  · obtain ⟨hv, ht, hin⟩ := askC_zero h0
    have HVV := Lib.hid (validF_iff.1 hv)
    have HW := Lib.hid (ws_words ht)
    have HCL := Lib.hid (cut_len ht)
    have hmr := inB_iff.1 hin
    have H0 := Lib.hid h0
    have hS1 := HS.out.next hb
    have hX1 := HXS.out.next hb
    have hB := below_step hB hb
    clear hv ht hin hb h0 hk1
    have hx := Blk.new w1 55 (stV f (.slice A n c) (wS g (words (bs s))) m)
    have hb := below_one w1 (.cells (stV f (.slice A n c) (wS g (words (bs s))) m).toArray 55)
    have hB2 := below_step hB hb
    have HG2 := Lib.hid (hgb.next hb)
    have HS2 := Lib.hid (hS1.next hb)
    have HX2 := Lib.hid (hX1.next hb)
    clear hb hgb hS1 hX1
    go_wp2_with (first
      | (refine wpList_store_new rfl 55 _ _ rfl (stV f (.slice A n c) (wS g (words (bs s))) m).toArray rfl rfl 55 _ (stSz HF.out _ _ _) (stOld HF.out _ _ _) (one_st _ _ _ _ _ _ _ _) ?_)
      | (refine wpList_load_row rfl 55 (.tmp 10) rfl _ rfl 55 (stV f (.slice A n c) (wS g (words (bs s))) m).toArray _ _ hx Tryz.underlying55 rfl (stSz HF.out _ _ _) ?_))
    generalize w1.alloc (.cells (stV f (.slice A n c) (wS g (words (bs s))) m).toArray 55) = W2 at *
    go_at_call 40
    refine (rooms_impl f A B n c g d (words (bs s)) m xs k _ HF.out HVV.out HN.out hm HS2.out HW.out HCL.out (by omega) HG2.out HK.out hkm HX2.out).mono ?_
    rintro e w3 ⟨A3, n3, c3, rfl, hb3, hcap, hyes⟩
    have hB3 := below_step hB2 hb3
    have hz := hB2.size
    cases hfit : rightB f (words (bs s)) m xs
    · have HO := Lib.hid (rrOut_bad H0.out hfit)
      clear hyes hx
      go_wp2
      go_ret2
      exact ⟨none, 0, by rw [HO.out]; rfl, hB3, by rw [HO.out]; exact OwnS.nil, by rw [HO.out]; exact Nat.zero_le _⟩
    · obtain ⟨rfl, ho⟩ := hyes hfit
      have HO := Lib.hid (rrOut_ok H0.out hfit)
      have HOW := Lib.hid (ownS_lo ho hz)
      clear hyes hx ho
      go_wp2
      go_ret2
      exact ⟨A3, c3, by rw [HO.out, lefts_length]; rfl, hB3, by rw [HO.out]; exact HOW.out, by rw [HO.out, lefts_length]; exact hcap⟩

end Go.Proofs.YtdhngjjfoddnkaaGreatDoor
namespace Go.Proofs.YtdhngjjfoddnkaaGreatDoor
open Go Go.RowKit
set_option linter.unusedVariables false
set_option linter.unusedSimpArgs false

/-- The sum of the first squares. -/
def usq (l : List Int) : Nat → Int
  | 0 => 0
  | k + 1 => usq l k + rdI l k * rdI l k
theorem usq_succ (l : List Int) (k : Nat) : usq l (k + 1) = usq l k + rdI l k * rdI l k := rfl
theorem sq_range {x : Int} (h0 : 0 ≤ x) (h1 : x ≤ 4000) : 0 ≤ x * x ∧ x * x ≤ 16000000 := by
  refine ⟨Int.mul_nonneg h0 h0, ?_⟩
  have := Int.mul_le_mul h1 h1 h0 (by decide)
  omega
theorem usq_range {l : List Int} {n : Nat} (h : ∀ i, i < n → 0 ≤ rdI l i ∧ rdI l i ≤ 4000) : ∀ k, k ≤ n → 0 ≤ usq l k ∧ usq l k ≤ 16000000 * k := by
  intro k
  induction k with
  | zero => intro _; exact ⟨Int.le_refl 0, by show (0 : Int) ≤ _; omega⟩
  | succ k ih =>
    intro hk
    have h1 := ih (by omega)
    have h2 := sq_range (h k (by omega)).1 (h k (by omega)).2
    rw [usq_succ]
    push_cast
    omega
theorem rdI_lefts {f : Fc} {ws : List (List UInt8)} {m : Int} {xs : List Int} {k i : Nat} (h : i < k) : rdI (lefts f ws m xs k) i = leftAt f ws m xs i := by
  unfold rdI lefts
  rw [List.getD, List.getElem?_map, List.getElem?_range h]; rfl
theorem lefts_range {f : Fc} (hf : FcV f) {ws : List (List UInt8)} (hw : Ws ws) {m : Int} (hm : m ≤ 4000) {xs : List Int} (h : rightB f ws m xs = true) : ∀ i, i < xs.length + 1 → 0 ≤ rdI (lefts f ws m xs (xs.length + 1)) i ∧ rdI (lefts f ws m xs (xs.length + 1)) i ≤ 4000 := by
  intro i hi
  rw [rdI_lefts hi]
  unfold rightB at h
  rw [Bool.and_eq_true, decide_eq_true_iff] at h
  have h1 := h.2 i hi
  have h2 := (lnW_range hf hw (bkA xs i) (bkE ws.length xs i)).1
  refine ⟨h1, ?_⟩
  unfold leftAt
  omega
theorem right_told {f : Fc} {ws : List (List UInt8)} {m : Int} {xs : List Int} (h : rightB f ws m xs = true) : xs.length ≤ ws.length := by
  unfold rightB at h
  rw [Bool.and_eq_true] at h
  exact told_few h.1
/-- How uneven breaks are, and a code. -/
def unOut (f : Fc) (l : List UInt8) (m : Int) (xs : List Int) : Int × Int :=
  if (rrOut f l m xs).2 = 0 then (usq (rrOut f l m xs).1 xs.length, 0) else (0, (rrOut f l m xs).2)
theorem unOut_no {f : Fc} {l : List UInt8} {m : Int} {xs : List Int} (h : ¬ (rrOut f l m xs).2 = 0) : unOut f l m xs = (0, (rrOut f l m xs).2) := by unfold unOut; rw [if_neg h]
theorem unOut_ok {f : Fc} {l : List UInt8} {m : Int} {xs : List Int} (h : askC f l (inB 0 4000 m) = 0) (k : rightB f (words l) m xs = true) : unOut f l m xs = (usq (lefts f (words l) m xs (xs.length + 1)) xs.length, 0) := by unfold unOut; rw [rrOut_ok h k]; rfl
theorem rrOut_zero {f : Fc} {l : List UInt8} {m : Int} {xs : List Int} (h : (rrOut f l m xs).2 = 0) : askC f l (inB 0 4000 m) = 0 ∧ rightB f (words l) m xs = true := by
  by_cases h0 : askC f l (inB 0 4000 m) = 0
  · cases k : rightB f (words l) m xs
    · rw [rrOut_bad h0 k] at h; exact absurd h (by decide)
    · exact ⟨h0, rfl⟩
  · rw [rrOut_no h0] at h; exact absurd h h0
theorem exec_slice64 {o : Oper} {a : Act} {w : World} (x hi : Operand) (ho : o.op = .slice 32 x none (some hi) none) (p : Addr) (n c h : Nat) (hx : a.eval x = .slice (some p) n c) (hh : a.eval hi = .int .i64 (h : Int)) (hc : h ≤ c) (hp : 0 < c) :
    (execOp a.eval o).run Tryz.prog w = .ok (.value (.slice (some p) h c)) w := by
  have hne : ¬ c = 0 := by omega
  have h0 : p.add 0 = p := by simp [Addr.add]
  have hz : (Tryz.prog.info? 2).map (·.size) = some 1 := by kernel_rfl
  cases hq : Tryz.prog.info? 2 with
  | none => rw [hq] at hz; cases hz
  | some i =>
    unfold execOp
    simp [ho, hx, hh, Instr.sliceAt, Instr.slice, Instr.sliceBounds, Instr.sliceBound, asIntOf, Sem.run_bind, run_underlying Tryz.underlying32, hc, hne, sizeOf, typeInfo, hq, h0]

set_option maxHeartbeats 2000000 in
set_option maxRecDepth 100000 in
theorem uneven_impl (f : Fc) (A B : Option Addr) (n c d k : Nat) (s : ByteArray) (m : Int) (xs : List Int) (w : World) (hf : FcT f) (hn : f.pairs.length = n) (hm : n ≤ 1048576) (hs : s.size ≤ 1048576) (hk : xs.length = k) (hkm : k ≤ 1048576) (h : SlP w A f.pairs) (hmx : MaxW w) (hsp : SpT w) (hb : SlE i64 w B xs) :
    Calls Tryz.prog 20 #[.agg (fcV f (.slice A n c)).toArray, .string s, .int .i64 m, .slice B k d] w fun e w' => e = .returned (.tuple #[.int .i64 (unOut f (bs s) m xs).1, .int .i64 (unOut f (bs s) m xs).2]) ∧ Below w.heap.size w w' := by
  have hB := below_one w (.cells (fcV f (.slice A n c)).toArray 28)
  have hk1 := Blk.new w 28 (fcV f (.slice A n c))
  have HS := Lib.hid (h.next hB)
  have HM := Lib.hid (hmx.next hB)
  have HP := Lib.hid (hsp.next hB)
  have HXS := Lib.hid (hb.next hB)
  have HK := Lib.hid hk
  have HF := Lib.hid hf
  have HN := Lib.hid hn
  have hsz : (fcV f (.slice A n c)).toArray.size = 29 := by simp [fcV_length hf]
  have HZ := Lib.hid (show (Tryz.prog.info? 28).map (·.size) = some (fcV f (.slice A n c)).toArray.size by rw [hsz]; exact szFcI)
  clear hn h hmx hsp hsz hf hk hb
  go_enter Tryz.func20, Tryz.ntmps20
  go_wp2_with (refine wpList_load_row rfl 28 (.tmp 4) rfl _ rfl 28 (fcV f (.slice A n c)).toArray _ _ hk1 Tryz.underlying28 rfl HZ.out ?_)
  go_at_call 21
  refine (right_impl f A B n c d k s m xs _ HF.out HN.out hm hs HK.out hkm HS.out HM.out HP.out HXS.out).mono ?_
  rintro e w1 ⟨A1, c1, rfl, hb, ho1, hcap⟩
  have hB := below_step hB hb
  clear hb hk1
  obtain ⟨cd, hcd⟩ : ∃ cd, cd = (rrOut f (bs s) m xs).2 := ⟨_, rfl⟩
  have HC := Lib.hid hcd
  rw [← hcd]
  by_cases h0 : cd = 0
  · obtain ⟨h1, h2⟩ := rrOut_zero (hcd.symm.trans h0)
    subst h0
    obtain ⟨hv, ht, hinn⟩ := askC_zero h1
    have hmr := inB_iff.1 hinn
    have hrg := lefts_range (validF_iff.1 hv) (ws_words ht) hmr.2 h2
    have hus := usq_range hrg
    have hfew := right_told h2
    have hcnt := (ws_words ht).many
    have HO := Lib.hid (unOut_ok h1 h2)
    rw [rrOut_ok h1 h2] at ho1 hcap ⊢
    clear hcd hv ht hinn h1 h2
    have hlen := lefts_length f (words (bs s)) m xs (xs.length + 1)
    rw [HK.out] at hrg hus hfew hlen ho1 hcap HO ⊢
    generalize lefts f (words (bs s)) m xs (k + 1) = L at *
    rw [show (L, (0 : Int)).1 = L from rfl] at ho1 hcap ⊢
    rw [hlen] at hcap ⊢
    obtain ⟨g, cs, rfl, hg, _, hblk⟩ := ho1 (by omega)
    have HL := Lib.hid hlen
    have HR := Lib.hid hrg
    have HU := Lib.hid hus
    have HBL := Lib.hid hblk
    clear hrg hus hlen ho1 hblk
    have hsum : IntKind.i64.wrap (((k + 1 : Nat) : Int) - 1) = (k : Int) := by rw [IntWalk.i64_in _ (by omega)]; omega
    go_wp2_with (refine wpList_run rfl _ (exec_slice64 (.tmp 26) (.tmp 29) rfl ⟨g, 0, none⟩ (k + 1) c1 k rfl (by go_num) (by omega) (by omega)) ?_)
    clear hsum
    go_loopw [12, 32] (fun t i wr => ∃ j : Nat, j ≤ k ∧ i = .int .i64 j ∧ t = .int .i64 (usq L j) ∧ Below w1.heap.size w1 wr) (fun _ i _ => k - (intOf i).toNat)
    case atStart => exact ⟨0, Nat.zero_le _, rfl, rfl, Below.refl _ _⟩
    case round =>
      obtain ⟨j, hj, rfl, rfl, hbr⟩ := hrel
      by_cases hlt : j < k
      · have hcell := ((HBL.out.next hbr).head (xs := L)).atI64 j (by rw [HL.out]; omega)
        rw [add_mid, Nat.zero_add] at hcell
        have h1 := HR.out j (by omega)
        have h2 := HU.out j (by omega)
        have h3 := sq_range h1.1 h1.2
        have HX := Lib.hid (usq_succ L j)
        go_wp2
        go_roundw
        case rel => exact ⟨j + 1, by omega, by go_num, by rw [HX.out], hbr⟩
        case measure => simp [intOf]; omega
      · obtain rfl : j = k := by omega
        go_wp2
        go_ret2
        exact ⟨by rw [HO.out]; rfl, below_step hB hbr⟩
  · have HO := Lib.hid (unOut_no (f := f) (l := bs s) (m := m) (xs := xs) (by rw [← hcd]; exact h0))
    clear hcd ho1 hcap
    generalize (rrOut f (bs s) m xs).1 = L at *
    go_wp2
    go_ret2
    exact ⟨by rw [HO.out, ← HC.out]; rfl, hB⟩

end Go.Proofs.YtdhngjjfoddnkaaGreatDoor
