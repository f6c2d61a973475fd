/- Contract: the best shift, by the reference. -/
import Derived.Test.YtonnplaacebekaaGreatDoorRcP
import Derived.Test.YtonnplaacebekaaGreatDoorKpT
import Derived.Test.YtonnplaacebekaaGreatDoorShH
import Derived.Test.YtonnplaacebekaaGreatDoorPcT
import Derived.Laws.OwnMore
import Derived.BigRegion


namespace Go.Proofs.YtonnplaacebekaaGreatDoor
open Go Go.RowKit
set_option linter.unusedVariables false
set_option linter.unusedSimpArgs false

/-- How many pairs lie so far apart: of the first i letters with all, and of letter i with the first k. -/
def cnA (x y : List UInt8) (a b : List Int) (d : Int) (i k : Nat) : Int := sum2 (ppB x y a b d) y.length i + sumB (ppB x y a b d i) k
theorem cnA_row (x y : List UInt8) (a b : List Int) (d : Int) (i : Nat) : cnA x y a b d (i + 1) 0 = cnA x y a b d i y.length := by
  unfold cnA
  rw [sum2]; simp [sumB]
theorem cnA_same {x y : List UInt8} {a b : List Int} {d : Int} {i k : Nat} (h : ppB x y a b d i k = false) : cnA x y a b d i (k + 1) = cnA x y a b d i k := by
  unfold cnA
  rw [sumB, h]; simp [bit1]
theorem cnA_more {x y : List UInt8} {a b : List Int} {d : Int} {i k : Nat} (h : ppB x y a b d i k = true) : cnA x y a b d i (k + 1) = cnA x y a b d i k + 1 := by
  unfold cnA
  rw [sumB, h]; simp [bit1]; omega
theorem cnA_range (x y : List UInt8) (a b : List Int) (d : Int) (i k : Nat) : 0 ≤ cnA x y a b d i k ∧ cnA x y a b d i k ≤ y.length * i + k := by
  have h1 := sum2_range (ppB x y a b d) y.length i
  have h2 := sumB_range (ppB x y a b d i) k
  unfold cnA
  omega
/-- The row of counts. -/
def CnT (x y : List UInt8) (a b : List Int) (i k : Nat) (cs : List Int) : Prop := cs.length = 801 ∧ ∀ q : Nat, q < 801 → rdI cs q = cnA x y a b ((q : Int) - 400) i k
theorem CnT.zero (x y : List UInt8) (a b : List Int) : CnT x y a b 0 0 (List.replicate 801 0) := by
  refine ⟨List.length_replicate .., fun q hq => ?_⟩
  unfold rdI
  rw [List.getD, List.getElem?_replicate, if_pos hq]
  rfl
theorem CnT.row {x y : List UInt8} {a b : List Int} {i : Nat} {cs : List Int} (h : CnT x y a b i y.length cs) : CnT x y a b (i + 1) 0 cs := ⟨h.1, fun q hq => by rw [h.2 q hq, cnA_row]⟩
theorem CnT.same {x y : List UInt8} {a b : List Int} {i k : Nat} {cs : List Int} (h : CnT x y a b i k cs) (hn : (byt x i == byt y k) = false ∨ ¬ (-400 ≤ rdI a i - rdI b k ∧ rdI a i - rdI b k ≤ 400)) : CnT x y a b i (k + 1) cs := by
  refine ⟨h.1, fun q hq => ?_⟩
  rw [h.2 q hq, cnA_same]
  unfold ppB
  rcases hn with hn | hn
  · rw [hn]; rfl
  · have : (rdI a i - rdI b k == (q : Int) - 400) = false := by simp; omega
    rw [this, Bool.and_false]
theorem CnT.more {x y : List UInt8} {a b : List Int} {i k D : Nat} {cs : List Int} (h : CnT x y a b i k cs) (hb : (byt x i == byt y k) = true) (hD : ((D : Nat) : Int) = rdI a i - rdI b k + 400) (hl : D < 801) : CnT x y a b i (k + 1) (cs.set D (rdI cs D + 1)) := by
  refine ⟨by rw [List.length_set]; exact h.1, fun q hq => ?_⟩
  by_cases e : q = D
  · subst e
    rw [rdI_set _ (by rw [h.1]; exact hl), h.2 q hq, cnA_more]
    unfold ppB
    rw [hb, Bool.true_and]
    simp; omega
  · have e1 : rdI (cs.set D (rdI cs D + 1)) q = rdI cs q := by
      unfold rdI
      simp only [List.getD_eq_getElem?_getD]
      rw [List.getElem?_set_ne (fun h => e h.symm)]
    rw [e1, h.2 q hq, cnA_same]
    unfold ppB
    have : (rdI a i - rdI b k == (q : Int) - 400) = false := by simp; omega
    rw [this, Bool.and_false]
theorem CnT.done {x y : List UInt8} {a b : List Int} {cs : List Int} (h : CnT x y a b x.length 0 cs) (ha : ∀ i j, i < j → j < x.length → rdI a i < rdI a j) (q : Nat) (hq : q < 801) : rdI cs q = cntK x y a b ((q : Int) - 400) := by
  rw [h.2 q hq]
  unfold cnA cntK
  rw [pairs_kept _ ha, sumB, Int.add_zero]
theorem map_i64_at (l : List Int) (i : Nat) (hi : i < l.length) : (l.map i64)[i]? = some (.int .i64 (rdI l i)) := by
  simp [List.getElem?_map, List.getElem?_eq_getElem hi, i64, rdI]

theorem inS_at {n lo hi : Int} {b : Bool} (h : inB lo hi n = b) (w : World) : Calls Tryz.prog 55 #[.int .i64 n, .int .i64 lo, .int .i64 hi] w fun e w' => e = .returned (.bool b) ∧ Below w.heap.size w w' :=
  (inS_any _ _ _ _).mono fun e w' ⟨he, hw⟩ => ⟨by rw [he, h], by rw [← hw]; exact Below.refl _ _⟩
theorem szU8 : (Tryz.prog.info? 5).map (·.size) = some 1 := by kernel_rfl

attribute [local irreducible] wpQuiet in
set_option maxHeartbeats 4000000 in
set_option maxRecDepth 100000 in
theorem shift_spec (f : Fc) (n b0 : Nat) (o s : ByteArray) (w : World) (hf : FcT f) (hV : FcV f) (hn : f.pairs.length = n) (hm : n ≤ 1048576) (hos : o.size ≤ 1048576) (hs : s.size ≤ 1048576) (ho : vText (bs o) = true) (ht : vText (bs s) = true) (h : FcAt w b0 f n) (r : Int × Int)
    (hr : r = bsh (cntK (lets (bs o)) (lets (bs s)) (plW f (bs o) (bs o).length) (plW f (bs s) (bs s).length)) 400) :
    Calls Tryz.prog 43 #[.pointer (some ⟨b0, 0, none⟩), .string o, .string s] w fun e w' => e = .returned (.tuple #[.int .i64 r.1, .int .i64 r.2]) ∧ Below w.heap.size w w' := by
  have HF := Lib.hid hf
  have HVV := Lib.hid hV
  have HN := Lib.hid hn
  have HW1 := Lib.hid (ws_words ho)
  have HW2 := Lib.hid (ws_words ht)
  have HP1 := Lib.hid (plcA_words f ho)
  have HP2 := Lib.hid (plcA_words f ht)
  obtain ⟨Z, hZ⟩ : ∃ Z, Z = List.replicate 801 (0 : Int) := ⟨_, rfl⟩
  have HZZ := Lib.hid hZ
  have hk0 := Blk.new w 2 (Z.map i64)
  have hB0 := below_one w (.cells (Z.map i64).toArray 2)
  have HA := Lib.hid (h.next hB0)
  have HMD := Lib.hid (show madeCells #[Value.int .i64 0] 801 = (Z.map i64).toArray by
    have := toList_madeCells_one (.int .i64 0) 801
    rw [hZ, List.map_replicate]
    apply Array.toList_inj.1
    rw [this]
    simp [i64])
  have HR1 := Lib.hid (fun i hi => plW_bound hV (vText_ls ho) (vText_len60 ho) (i := i) hi)
  have HR2 := Lib.hid (fun i hi => plW_bound hV (vText_ls ht) (vText_len60 ht) (i := i) hi)
  have HRI := Lib.hid ((plW_rise hV (vText_ls ho) _ (Nat.le_refl _)).2)
  have HL1 := Lib.hid (plW_len f (bs o))
  have HL2 := Lib.hid (plW_len f (bs s))
  have hx60 : (lets (bs o)).length ≤ 60 := Nat.le_trans (lets_length _) (vText_len60 ho)
  have hy60 : (lets (bs s)).length ≤ 60 := Nat.le_trans (lets_length _) (vText_len60 ht)
  obtain ⟨x, hx⟩ : ∃ x, x = lets (bs o) := ⟨_, rfl⟩
  obtain ⟨y, hy⟩ : ∃ y, y = lets (bs s) := ⟨_, rfl⟩
  obtain ⟨p, hp⟩ : ∃ p, p = plW f (bs o) (bs o).length := ⟨_, rfl⟩
  obtain ⟨q, hq⟩ : ∃ q, q = plW f (bs s) (bs s).length := ⟨_, rfl⟩
  rw [← hx, ← hy, ← hp, ← hq] at hr
  have HRR := Lib.hid hr
  have HPL := Lib.hid (show p.length = x.length by rw [hp, hx]; exact HL1.out)
  have HQL := Lib.hid (show q.length = y.length by rw [hq, hy]; exact HL2.out)
  have HPR := Lib.hid (show ∀ i, i < p.length → 0 ≤ rdI p i ∧ rdI p i < 3600 by rw [hp]; exact HR1.out)
  have HQR := Lib.hid (show ∀ i, i < q.length → 0 ≤ rdI q i ∧ rdI q i < 3600 by rw [hq]; exact HR2.out)
  have HRS := Lib.hid (show ∀ i j, i < j → j < x.length → rdI p i < rdI p j by rw [← HPL.out, hp]; exact HRI.out)
  rw [← hx] at hx60
  rw [← hy] at hy60
  have HX := Lib.hid hx
  have HY := Lib.hid hy
  have HPP := Lib.hid hp
  have HQQ := Lib.hid hq
  have hz0 : (w.alloc (.cells (Z.map i64).toArray 2)).heap.size = w.heap.size + 1 := by simp
  clear hZ hf hV hn h ho ht hx hy hp hq HR1 HR2 HRI HL1 HL2 hr
  have hmk : (Instr.makeSlice 42 (.int .i64 801) (.int .i64 801)).run Tryz.prog w = .ok (.slice (some ⟨w.heap.size, 0, none⟩) 801 801) (w.alloc (.cells (Z.map i64).toArray 2)) := by
    rw [← HMD.out]; kernel_rfl
  go_enter Tryz.func43, Tryz.ntmps43
  go_wp2_with fail
  have HK0 := Lib.hid hk0
  clear hk0 hmk
  generalize w.alloc (.cells (Z.map i64).toArray 2) = w0 at *
  go_at_call 23
  refine (words_spec o _ hos).mono ?_
  rintro e w1 ⟨A1, c1, rfl, hc1, hb1, hsl1, hA1⟩
  go_wp2_with fail
  go_at_call 71
  refine (places_spec f n b0 A1 c1 (words (bs o)) w1 HF.out HVV.out HN.out hm HW1.out (HA.out.next hb1) hsl1).mono ?_
  rintro e w2 ⟨A2, c2, A2', c2', rfl, hb2, ho2, ho2'⟩
  rw [HP1.out] at ho2 ⊢
  have hB2 := below_step hb1 hb2
  have g1 := hb1.size
  have g2 := hb2.size
  clear hsl1 hA1 hc1 ho2' hb1 hb2
  go_wp2_with fail
  go_at_call 23
  refine (words_spec s _ hs).mono ?_
  rintro e w3 ⟨A3, c3, rfl, hc3, hb3, hsl3, hA3⟩
  have ho2 := ho2.next hb3
  have hB3 := below_step hB2 hb3
  go_wp2_with fail
  go_at_call 71
  refine (places_spec f n b0 A3 c3 (words (bs s)) w3 HF.out HVV.out HN.out hm HW2.out (HA.out.next hB3) hsl3).mono ?_
  rintro e w4 ⟨A4, c4, A4', c4', rfl, hb4, ho4, ho4'⟩
  rw [HP2.out] at ho4 ⊢
  have ho2 := ho2.next hb4
  have hB4 := below_step hB3 hb4
  have g3 := hb3.size
  have g4 := hb4.size
  clear hsl3 hA3 hc3 ho4' hb3 hb4 hB2 hB3
  go_wp2_with fail
  go_at_call 45
  refine (letters_spec o _ hos).mono ?_
  rintro e w5 ⟨A5, c5, rfl, hb5, ho5⟩
  have ho2 := ho2.next hb5
  have ho4 := ho4.next hb5
  have hB5 := below_step hB4 hb5
  have g5 := hb5.size
  clear hb5 hB4
  go_wp2_with fail
  go_at_call 45
  refine (letters_spec s _ hs).mono ?_
  rintro e w6 ⟨A6, c6, rfl, hb6, ho6⟩
  have ho2 := ho2.next hb6
  have ho4 := ho4.next hb6
  have ho5 := ho5.next hb6
  have hB6 := below_step hB5 hb6
  have g6 := hb6.size
  clear hb6 hB5
  have hBW := below_step hB0 hB6
  have HBW := Lib.hid hBW
  rw [← HX.out] at ho5 ⊢
  rw [← HY.out] at ho6 ⊢
  rw [← HPP.out] at ho2 ⊢
  rw [← HQQ.out] at ho4 ⊢
  have HO2 := Lib.hid (show OwnX 2 i64 w6 _ _ A2 p from ho2)
  have HO4 := Lib.hid (show OwnX 2 i64 w6 _ _ A4 q from ho4)
  have HO5 := Lib.hid ho5
  have HO6 := Lib.hid ho6
  have HK6 := Lib.hid (HK0.out.next hB6)
  have hpl := HPL.out
  have hql := HQL.out
  clear hBW hB0 ho2 ho4 ho5 ho6 hB6 hpl hql
  go_wp2
  have l1 : w.heap.size < w1.heap.size := by omega
  have l3 : w.heap.size < w3.heap.size := by omega
  have l4 : w.heap.size < w4.heap.size := by omega
  have l5 : w.heap.size < w5.heap.size := by omega
  have l6 : w.heap.size < w6.heap.size := by omega
  clear g1 g2 g3 g4 g5 g6 hz0
  go_loopw [15] (fun i wr => ∃ (k : Nat) (cs : List Int), k ≤ x.length ∧ i = .int .i64 k ∧ CnT x y p q k 0 cs ∧ Blk wr w.heap.size 2 (cs.map i64) ∧ w6.grownBy wr (some w.heap.size)) (fun i _ => x.length - (intOf i).toNat)
  case atStart => exact ⟨0, Z, by omega, rfl, by rw [HZZ.out]; exact CnT.zero _ _ _ _, HK6.out, grown_refl _ _⟩
  case round =>
    obtain ⟨i, cs, hi, rfl, hct, hblk, hgr⟩ := hrel
    by_cases hlt : i < x.length
    · have HCT := Lib.hid hct
      have HBK := Lib.hid hblk
      have HGR := Lib.hid hgr
      clear hct hblk hgr
      go_wp2
      go_loopw [16] (fun j wi => ∃ (k : Nat) (ds : List Int), k ≤ y.length ∧ j = .int .i64 k ∧ CnT x y p q i k ds ∧ Blk wi w.heap.size 2 (ds.map i64) ∧ w6.grownBy wi (some w.heap.size)) (fun j _ => y.length - (intOf j).toNat)
      case atStart => exact ⟨0, cs, by omega, rfl, HCT.out, HBK.out, HGR.out⟩
      case round =>
        obtain ⟨k, ds, hk, rfl, hct, hblk, hgr⟩ := hrel
        by_cases hlk : k < y.length
        · obtain ⟨a2, rfl, r2⟩ := (HO2.out.grown hgr (fun b e => by cases e; exact .inl (by omega))).sl.some i (by rw [HPL.out]; exact hlt)
          obtain ⟨a4, rfl, r4⟩ := (HO4.out.grown hgr (fun b e => by cases e; exact .inl (by omega))).sl.some k (by rw [HQL.out]; exact hlk)
          obtain ⟨a5, rfl, r5⟩ := (HO5.out.grown hgr (fun b e => by cases e; exact .inl (by omega))).sl.some i hlt
          obtain ⟨a6, rfl, r6⟩ := (HO6.out.grown hgr (fun b e => by cases e; exact .inl (by omega))).sl.some k hlk
          have k2 := r2.atI64 i (by rw [HPL.out]; exact hlt)
          have k4 := r4.atI64 k (by rw [HQL.out]; exact hlk)
          have hpi := HPR.out i (by rw [HPL.out]; exact hlt)
          have hqk := HQR.out k (by rw [HQL.out]; exact hlk)
          have hpl : i < p.length := by rw [HPL.out]; exact hlt
          have hql : k < q.length := by rw [HQL.out]; exact hlk
          have hsub : IntKind.i64.wrap (rdI p i - rdI q k) = rdI p i - rdI q k := IntWalk.i64_in _ (by omega)
          have hd : Below wr.heap.size wr wr.drew := below_drewN (Below.refl wr.heap.size wr) 1
          have HCT := Lib.hid hct
          have HBK := Lib.hid (hblk.next hd)
          have HGR := Lib.hid (grownBy_trans hgr (grown_none hd _))
          have R5 := Lib.hid (r5.next hd)
          have R6 := Lib.hid (r6.next hd)
          clear hct hblk hgr r2 r4 r5 r6 hd
          go_wp2
          go_region
          generalize World.drew wr = wd at *
          clear k2 k4 hsub
          cases hbe : (byt x i == byt y k)
          · have HX2 := Lib.hid (HCT.out.same (.inl hbe))
            have HBE := Lib.hid hbe
            clear hbe
            go_wp2
            refine region_below (wd.heap.size) (by kernel_rfl) (by kernel_rfl) ?_
            refine below_run (by kernel_rfl) (.slice (some a5) x.length c5) (fun w' hw' => by kernel_rfl) ?_
            refine below_run (by kernel_rfl) (.int .i64 i) (fun w' hw' => by kernel_rfl) ?_
            refine below_run (by kernel_rfl) (.pointer (some (Addr.add a5 (i * 1)))) (fun w' hw' => exec_index 77 (.tmp 63) (.tmp 64) rfl a5 x.length c5 (by kernel_rfl) .i64 i (by kernel_rfl) hlt 5 Tryz.underlying77 1 szU8) ?_
            refine below_run (by kernel_rfl) (.int .u8 (byt x i)) (fun w' hw' => exec_load1 5 (.tmp 65) rfl (a5.add (i * 1)) (by kernel_rfl) (.int .u8 (byt x i)) (by rw [Nat.mul_one]; exact (R5.out.next hw').atB i hlt) _ Tryz.underlying5 rfl) ?_
            refine below_run (by kernel_rfl) (.slice (some a6) y.length c6) (fun w' hw' => by kernel_rfl) ?_
            refine below_run (by kernel_rfl) (.int .i64 k) (fun w' hw' => by kernel_rfl) ?_
            refine below_run (by kernel_rfl) (.pointer (some (Addr.add a6 (k * 1)))) (fun w' hw' => exec_index 77 (.tmp 67) (.tmp 68) rfl a6 y.length c6 (by kernel_rfl) .i64 k (by kernel_rfl) hlk 5 Tryz.underlying77 1 szU8) ?_
            refine below_run (by kernel_rfl) (.int .u8 (byt y k)) (fun w' hw' => exec_load1 5 (.tmp 69) rfl (a6.add (k * 1)) (by kernel_rfl) (.int .u8 (byt y k)) (by rw [Nat.mul_one]; exact (R6.out.next hw').atB k hlk) _ Tryz.underlying5 rfl) ?_
            refine below_run (by kernel_rfl) (.bool false) (fun w' hw' => Eq.trans (show (execOp _ _).run _ w' = .ok (.value (.bool (byt x i == byt y k))) w' by kernel_rfl) (by rw [HBE.out])) ?_
            refine below_run (by kernel_rfl) (.bool false) (fun w' hw' => by kernel_rfl) ?_
            refine BigFrame.wpQuiet_skip (by kernel_rfl) ?_
            refine BigFrame.wpQuiet_skip (by kernel_rfl) ?_
            refine below_run (by kernel_rfl) (.bool false) (fun w' hw' => by kernel_rfl) ?_
            refine wpQuiet_nil ?_
            intro W3 hW3
            simp only [Act.put, List.setIfInBounds_toArray, List.set_cons_succ, List.set_cons_zero]
            go_wp2
            go_roundw
            case rel => exact ⟨k + 1, ds, by omega, by go_num, HX2.out, HBK.out.next hW3, grownBy_trans HGR.out (grown_none hW3 _)⟩
            case measure => simp [intOf]; omega
          · have HBE := Lib.hid hbe
            cases hin : inB (-400) 400 (rdI p i - rdI q k)
            · have HX2 := Lib.hid (HCT.out.same (.inr (by have := inB_not.1 hin; exact this)))
              have HIN := Lib.hid hin
              clear hbe hin
              go_wp2
              refine region_below (wd.heap.size) (by kernel_rfl) (by kernel_rfl) ?_
              refine below_run (by kernel_rfl) (.slice (some a5) x.length c5) (fun w' hw' => by kernel_rfl) ?_
              refine below_run (by kernel_rfl) (.int .i64 i) (fun w' hw' => by kernel_rfl) ?_
              refine below_run (by kernel_rfl) (.pointer (some (Addr.add a5 (i * 1)))) (fun w' hw' => exec_index 77 (.tmp 63) (.tmp 64) rfl a5 x.length c5 (by kernel_rfl) .i64 i (by kernel_rfl) hlt 5 Tryz.underlying77 1 szU8) ?_
              refine below_run (by kernel_rfl) (.int .u8 (byt x i)) (fun w' hw' => exec_load1 5 (.tmp 65) rfl (a5.add (i * 1)) (by kernel_rfl) (.int .u8 (byt x i)) (by rw [Nat.mul_one]; exact (R5.out.next hw').atB i hlt) _ Tryz.underlying5 rfl) ?_
              refine below_run (by kernel_rfl) (.slice (some a6) y.length c6) (fun w' hw' => by kernel_rfl) ?_
              refine below_run (by kernel_rfl) (.int .i64 k) (fun w' hw' => by kernel_rfl) ?_
              refine below_run (by kernel_rfl) (.pointer (some (Addr.add a6 (k * 1)))) (fun w' hw' => exec_index 77 (.tmp 67) (.tmp 68) rfl a6 y.length c6 (by kernel_rfl) .i64 k (by kernel_rfl) hlk 5 Tryz.underlying77 1 szU8) ?_
              refine below_run (by kernel_rfl) (.int .u8 (byt y k)) (fun w' hw' => exec_load1 5 (.tmp 69) rfl (a6.add (k * 1)) (by kernel_rfl) (.int .u8 (byt y k)) (by rw [Nat.mul_one]; exact (R6.out.next hw').atB k hlk) _ Tryz.underlying5 rfl) ?_
              refine below_run (by kernel_rfl) (.bool true) (fun w' hw' => Eq.trans (show (execOp _ _).run _ w' = .ok (.value (.bool (byt x i == byt y k))) w' by kernel_rfl) (by rw [HBE.out])) ?_
              refine below_run (by kernel_rfl) (.bool true) (fun w' hw' => by kernel_rfl) ?_
              refine below_run (by kernel_rfl) (.int .i64 (rdI p i - rdI q k)) (fun w' hw' => by kernel_rfl) ?_
              refine below_call (by kernel_rfl) 55 #[.int .i64 (rdI p i - rdI q k), .int .i64 (-400), .int .i64 400] (.bool false) (fun w' => by kernel_rfl) (fun w' hw' => (inS_at HIN.out w').mono fun e w1 ⟨he, hb1⟩ => ⟨he, below_step hw' hb1⟩) ?_
              refine below_run (by kernel_rfl) (.bool false) (fun w' hw' => by kernel_rfl) ?_
              refine wpQuiet_nil ?_
              intro W3 hW3
              simp only [Act.put, List.setIfInBounds_toArray, List.set_cons_succ, List.set_cons_zero]
              go_wp2
              go_roundw
              case rel => exact ⟨k + 1, ds, by omega, by go_num, HX2.out, HBK.out.next hW3, grownBy_trans HGR.out (grown_none hW3 _)⟩
              case measure => simp [intOf]; omega
            · obtain ⟨i1, i2⟩ := inB_iff.1 hin
              obtain ⟨D, hD⟩ : ∃ D : Nat, ((D : Nat) : Int) = rdI p i - rdI q k + 400 := ⟨(rdI p i - rdI q k + 400).toNat, by omega⟩
              have hDl : D < 801 := by omega
              have HX2 := Lib.hid (HCT.out.more hbe hD hDl)
              have HIN := Lib.hid hin
              have hadd : IntKind.i64.wrap (rdI p i - rdI q k + 400) = (D : Int) := by rw [hD]; exact IntWalk.i64_in _ (by omega)
              clear hbe hin i1 i2 hD
              go_wp2
              refine region_below (wd.heap.size) (by kernel_rfl) (by kernel_rfl) ?_
              refine below_run (by kernel_rfl) (.slice (some a5) x.length c5) (fun w' hw' => by kernel_rfl) ?_
              refine below_run (by kernel_rfl) (.int .i64 i) (fun w' hw' => by kernel_rfl) ?_
              refine below_run (by kernel_rfl) (.pointer (some (Addr.add a5 (i * 1)))) (fun w' hw' => exec_index 77 (.tmp 63) (.tmp 64) rfl a5 x.length c5 (by kernel_rfl) .i64 i (by kernel_rfl) hlt 5 Tryz.underlying77 1 szU8) ?_
              refine below_run (by kernel_rfl) (.int .u8 (byt x i)) (fun w' hw' => exec_load1 5 (.tmp 65) rfl (a5.add (i * 1)) (by kernel_rfl) (.int .u8 (byt x i)) (by rw [Nat.mul_one]; exact (R5.out.next hw').atB i hlt) _ Tryz.underlying5 rfl) ?_
              refine below_run (by kernel_rfl) (.slice (some a6) y.length c6) (fun w' hw' => by kernel_rfl) ?_
              refine below_run (by kernel_rfl) (.int .i64 k) (fun w' hw' => by kernel_rfl) ?_
              refine below_run (by kernel_rfl) (.pointer (some (Addr.add a6 (k * 1)))) (fun w' hw' => exec_index 77 (.tmp 67) (.tmp 68) rfl a6 y.length c6 (by kernel_rfl) .i64 k (by kernel_rfl) hlk 5 Tryz.underlying77 1 szU8) ?_
              refine below_run (by kernel_rfl) (.int .u8 (byt y k)) (fun w' hw' => exec_load1 5 (.tmp 69) rfl (a6.add (k * 1)) (by kernel_rfl) (.int .u8 (byt y k)) (by rw [Nat.mul_one]; exact (R6.out.next hw').atB k hlk) _ Tryz.underlying5 rfl) ?_
              refine below_run (by kernel_rfl) (.bool true) (fun w' hw' => Eq.trans (show (execOp _ _).run _ w' = .ok (.value (.bool (byt x i == byt y k))) w' by kernel_rfl) (by rw [HBE.out])) ?_
              refine below_run (by kernel_rfl) (.bool true) (fun w' hw' => by kernel_rfl) ?_
              refine below_run (by kernel_rfl) (.int .i64 (rdI p i - rdI q k)) (fun w' hw' => by kernel_rfl) ?_
              refine below_call (by kernel_rfl) 55 #[.int .i64 (rdI p i - rdI q k), .int .i64 (-400), .int .i64 400] (.bool true) (fun w' => by kernel_rfl) (fun w' hw' => (inS_at HIN.out w').mono fun e w1 ⟨he, hb1⟩ => ⟨he, below_step hw' hb1⟩) ?_
              refine below_run (by kernel_rfl) (.bool true) (fun w' hw' => by kernel_rfl) ?_
              refine wpQuiet_nil ?_
              intro W3 hW3
              simp only [Act.put, List.setIfInBounds_toArray, List.set_cons_succ, List.set_cons_zero]
              have hb3 := HBK.out.next hW3
              have hlen := HCT.out.1
              have hcr := cnA_range x y p q ((D : Int) - 400) i k
              rw [← HCT.out.2 D hDl] at hcr
              have hyi : (y.length : Int) * i ≤ 60 * 60 := by
                have h1 : (y.length : Int) * i ≤ 60 * i := Int.mul_le_mul_of_nonneg_right (by omega) (by omega)
                omega
              have hcl := hb3.cell D _ (map_i64_at ds D (by omega))
              have hfr := hb3.free D
              have hst : IntKind.i64.wrap (rdI ds D + 1) = rdI ds D + 1 := IntWalk.i64_in _ (by omega)
              have HB4 := Lib.hid (show Blk (W3.setCell ⟨w.heap.size, D, none⟩ (.int .i64 (rdI ds D + 1))) w.heap.size 2 ((ds.set D (rdI ds D + 1)).map i64) by rw [List.map_set]; exact hb3.set D _)
              have HG4 := Lib.hid (grownBy_trans (grownBy_trans HGR.out (grown_none hW3 _)) (grown_set (grown_refl W3 (some w.heap.size)) D (.int .i64 (rdI ds D + 1))))
              clear hb3 hcr hyi hW3
              go_wp2
              go_roundw
              case rel => exact ⟨k + 1, _, by omega, by go_num, HX2.out, HB4.out, HG4.out⟩
              case measure => simp [intOf]; omega
        · obtain rfl : k = y.length := by omega
          go_wp2
          go_roundw
          case rel => exact ⟨i + 1, ds, by omega, by go_num, hct.row, hblk, hgr⟩
          case measure => simp [intOf]; omega
    · obtain rfl : i = x.length := by omega
      have HDN := Lib.hid (fun q hq => hct.done HRS.out q hq)
      have hlen := hct.1
      have hc4 := hblk.cell 400 _ (map_i64_at cs 400 (by omega))
      have HB := Lib.hid hblk
      have HG := Lib.hid hgr
      clear hct hblk hgr
      have HBF := Lib.hid (below_grownK HBW.out HG.out (Nat.le_refl _) (by omega))
      obtain ⟨cf, hcf⟩ : ∃ cf, cf = cntK x y p q := ⟨_, rfl⟩
      have HD2 := Lib.hid (show ∀ q, q < 801 → rdI cs q = cf ((q : Int) - 400) by rw [hcf]; exact HDN.out)
      have HR2 := Lib.hid (show r = bsh cf 400 by rw [hcf]; exact HRR.out)
      have HC0 := Lib.hid (show bsh cf 0 = (0, rdI cs 400) by rw [HD2.out 400 (by omega)]; rfl)
      clear hcf HDN HRR
      go_wp2
      clear hc4
      generalize wr = wz at *
      go_loopw [18, 19, 20] (fun b m j wi => ∃ t T : Nat, T = t + 1 ∧ T ≤ 401 ∧ j = .int .i64 (T : Int) ∧ b = .int .i64 (bsh cf t).1 ∧ m = .int .i64 (bsh cf t).2 ∧ Below wz.heap.size wz wi) (fun _ _ j _ => 401 - (intOf j).toNat)
      case atStart => exact ⟨0, 1, rfl, by omega, rfl, by rw [HC0.out], by rw [HC0.out], Below.refl _ _⟩
      case round =>
        obtain ⟨t, T, hT, ht, rfl, rfl, rfl, hbi⟩ := hrel
        have HT := Lib.hid hT
        clear hT
        by_cases hlt : T ≤ 400
        · have hti : (T : Int) ≤ 400 := by omega
          have k1 := (HB.out.next hbi).cell (400 + T) _ (map_i64_at cs (400 + T) (by omega))
          have k2 := (HB.out.next hbi).cell (400 - T) _ (map_i64_at cs (400 - T) (by omega))
          have hadd : IntKind.i64.wrap (400 + (T : Int)) = ((400 + T : Nat) : Int) := by rw [IntWalk.i64_in _ (by omega)]; push_cast; rfl
          have hsub : IntKind.i64.wrap (400 - (T : Int)) = ((400 - T : Nat) : Int) := by rw [IntWalk.i64_in _ (by omega)]; omega
          have hneg : IntKind.i64.wrap (-(T : Int)) = -(T : Int) := IntWalk.i64_in _ (by omega)
          have hl1 : 400 + T < 801 := by omega
          have hl2 : 400 - T < 801 := by omega
          have HNX := Lib.hid (show bsh cf T = bshA (bshA (bsh cf t) T (rdI cs (400 + T))) (-(T : Int)) (rdI cs (400 - T)) by
            rw [HD2.out _ hl1, HD2.out _ hl2, show (((400 + T : Nat) : Int) - 400) = (T : Int) by omega, show (((400 - T : Nat) : Int) - 400) = -(T : Int) by omega, HT.out]; rfl)
          generalize bsh cf t = st at *
          obtain ⟨sb, sm⟩ := st
          generalize rdI cs (400 + T) = n1 at *
          generalize rdI cs (400 - T) = n2 at *
          by_cases h1 : sm < n1
          · by_cases h2 : n1 < n2
            · have HN := Lib.hid (show bsh cf T = (-(T : Int), n2) by rw [HNX.out, bshA_yes (st := (sb, sm)) h1, bshA_yes (st := ((T : Int), n1)) h2])
              go_wp2
              go_roundw
              case rel => exact ⟨T, T + 1, rfl, by omega, by go_num, by rw [HN.out], by rw [HN.out], hbi⟩
              case measure => simp [intOf]; omega
            · have HN := Lib.hid (show bsh cf T = ((T : Int), n1) by rw [HNX.out, bshA_yes (st := (sb, sm)) h1, bshA_no (st := ((T : Int), n1)) h2])
              go_wp2
              go_roundw
              case rel => exact ⟨T, T + 1, rfl, by omega, by go_num, by rw [HN.out], by rw [HN.out], hbi⟩
              case measure => simp [intOf]; omega
          · by_cases h2 : sm < n2
            · have HN := Lib.hid (show bsh cf T = (-(T : Int), n2) by rw [HNX.out, bshA_no (st := (sb, sm)) h1, bshA_yes (st := (sb, sm)) h2])
              go_wp2
              go_roundw
              case rel => exact ⟨T, T + 1, rfl, by omega, by go_num, by rw [HN.out], by rw [HN.out], hbi⟩
              case measure => simp [intOf]; omega
            · have HN := Lib.hid (show bsh cf T = (sb, sm) by rw [HNX.out, bshA_no (st := (sb, sm)) h1, bshA_no (st := (sb, sm)) h2])
              go_wp2
              go_roundw
              case rel => exact ⟨T, T + 1, rfl, by omega, by go_num, by rw [HN.out], by rw [HN.out], hbi⟩
              case measure => simp [intOf]; omega
        · have htt : t = 400 := by have := HT.out; omega
          subst htt
          have HFI := Lib.hid (below_step HBF.out hbi)
          go_wp2
          go_ret2
          exact ⟨by rw [HR2.out]; rfl, HFI.out⟩
end Go.Proofs.YtonnplaacebekaaGreatDoor
