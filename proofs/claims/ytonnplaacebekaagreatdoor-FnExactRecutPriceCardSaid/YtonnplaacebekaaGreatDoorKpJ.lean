/- Contract: the letters that are kept with a shift, by the program. -/
import Derived.Test.YtonnplaacebekaaGreatDoorKpI

namespace Go.Proofs.YtonnplaacebekaaGreatDoor
open Go Go.RowKit Go.Shelf
set_option linter.unusedVariables false
set_option linter.unusedSimpArgs false

theorem heldS_skip {P : Program} {ops : Array Oper} {Q : Exit → Act → World → Prop} {a : Act} {w : World} {S : World → Prop} {fuel : Nat} {listed : Array Bool} {oi : Oper} (i : Nat) (w1 : World) (hi : ops[i]? = some oi) (hr : Region.ready .any ops listed = [i]) (hw : Region.wanted oi (yielded ops a.tmps) = true)
    (he : (execOp a.eval oi).run P w = .ok .skip w1) (hS : S w1)
    (h : wpAnyH P .any ops Q S fuel (listed.setIfInBounds i true) (a.put oi.dst undef) w1) : wpAnyH P .any ops Q S (fuel + 1) listed a w := by
  refine wpAnyH_all hr (by simp) fun j hj => ?_
  obtain rfl := List.mem_singleton.1 hj
  refine wpOp_step hi fun K' hK => ?_
  rw [if_pos hw]
  unfold Oper.wp
  rw [he, Oper.upon_skip]
  exact hK _ _ ⟨hS, h⟩
theorem kptR_look {f : Fc} (hV : FcV f) {o s : List UInt8} (ho : vText o = true) (hs : vText s = true) (d : Int) :
    idxN (fun i => lkN (lets o) (plW f o o.length) (rdI (plW f s s.length) i + d) (plW f o o.length).length == byt (lets s) i) (plW f s s.length).length = kptR f o s d := by
  unfold kptR
  rw [plW_len f s, ← idxN_kept]
  refine idxN_congr _ fun i hi => ?_
  have hl := isLet_iff.1 (lets_ll (vText_ls hs) i hi)
  rw [plW_len f o]
  exact lkN_kb (by omega) _ (fun a b h1 h2 => (plW_rise hV (vText_ls ho) _ (Nat.le_refl _)).2 a b h1 (by rw [plW_len]; exact h2))
theorem below_grownK {B bq : Nat} {w0 w w' : World} (hb : Below B w0 w) (h : w.grownBy w' (some bq)) (hq : B ≤ bq) (hB : B ≤ w.heap.size) : Below B w0 w' :=
  hb.trans ⟨h.os, h.tape, h.output, by obtain ⟨_, _, _, hs, _⟩ := h; omega, fun k hk => h.block k (by omega) (by intro e; injection e with e; omega)⟩
theorem grown_cell {w w' : World} {row : Option Nat} {a : Addr} {v : Value} (hg : w.grownBy w' row) (h : w.cell? a = some v) (hlt : a.block < w.heap.size) (hne : some a.block ≠ row) : w'.cell? a = some v := by
  have hb := hg.block a.block hlt hne
  rw [← h]
  simp [World.cell?, hb]
theorem lkN_succ (x : List UInt8) (a : List Int) (k : Nat) : (fun q => if rdI a k = q then byt x k else lkN x a q k) = fun q => lkN x a q (k + 1) := rfl
theorem byt_u8 (l : List UInt8) (i : Nat) : 0 ≤ byt l i ∧ byt l i ≤ 255 := by
  unfold byt
  have := (l.getD i 0).toNat_lt
  omega

attribute [local irreducible] wpAnyH in
set_option maxHeartbeats 4000000 in
set_option maxRecDepth 100000 in
theorem kept_impl (f : Fc) (A : Option Addr) (n c : Nat) (o s : ByteArray) (d : Int) (w : World) (hf : FcT f) (hV : FcV f) (hn : f.pairs.length = n) (hm : n ≤ 1048576) (hos : o.size ≤ 1048576) (hs : s.size ≤ 1048576) (ho : vText (bs o) = true) (ht : vText (bs s) = true) (hd : -400 ≤ d ∧ d ≤ 400) (h : SlP w A f.pairs) (hmx : MaxW w) :
    Calls Tryz.prog 49 #[.agg (fcV f (.slice A n c)).toArray, .string o, .string s, .int .i64 d] w (NsOut w (kptR f (bs o) (bs s) d)) := by
  have hmm := @run_makeMap Tryz.prog
  have hmf : ∀ (fn : Fn) (first cap : Array Value) (w : World), (Instr.makeFunc fn first cap).run Tryz.prog w = .ok (.func fn first cap) w := fun _ _ _ _ => rfl
  have HG := Lib.hid (show ∀ args w, (callFunc 74 args).run Tryz.prog w = .ok (.enter 74 args) w from enters_of Tryz.func74 (by kernel_rfl) rfl)
  obtain ⟨W0, hW0⟩ : ∃ W0, W0 = ((((w.alloc (.cells (fcV f (.slice A n c)).toArray 36)).alloc (.cells #[.string s] 9)).alloc (.cells #[.int .i64 d] 2)).alloc (.map #[] 0)).alloc (.cells #[.map (some (w.heap.size + 1 + 1 + 1))] 113) := ⟨_, rfl⟩
  have hB : Below w.heap.size w W0 := by rw [hW0]; exact ((((below_one w _).alloc (by simp) _).alloc (by simp; omega) _).alloc (by simp; omega) _).alloc (by simp; omega) _
  have hkF : Blk W0 w.heap.size 36 (fcV f (.slice A n c)) := by rw [hW0]; exact ((((Blk.new w _ _).alloc _).alloc _).alloc _).alloc _
  have hkS : Blk W0 (w.heap.size + 1) 9 [.string s] := by rw [hW0]; exact World.size_alloc w _ ▸ (((Blk.new (w.alloc (.cells (fcV f (.slice A n c)).toArray 36)) _ [.string s]).alloc _).alloc _).alloc _
  have hkD : Blk W0 (w.heap.size + 1 + 1) 2 [.int .i64 d] := by
    rw [hW0]
    have := (((Blk.new ((w.alloc (.cells (fcV f (.slice A n c)).toArray 36)).alloc (.cells #[.string s] 9)) 2 [.int .i64 d]).alloc (.map #[] 0)).alloc (.cells #[.map (some (w.heap.size + 1 + 1 + 1))] 113))
    rw [World.size_alloc, World.size_alloc] at this
    exact this
  have hkM : MapAt W0 (w.heap.size + 1 + 1 + 1) 0 (fun _ => 0) := by
    rw [hW0]
    have := (MapAt.made (((w.alloc (.cells (fcV f (.slice A n c)).toArray 36)).alloc (.cells #[.string s] 9)).alloc (.cells #[.int .i64 d] 2))).next (below_one _ (.cells #[.map (some (w.heap.size + 1 + 1 + 1))] 113))
    rw [World.size_alloc, World.size_alloc, World.size_alloc] at this
    exact this
  have hkV : Blk W0 (w.heap.size + 1 + 1 + 1 + 1) 113 [.map (some (w.heap.size + 1 + 1 + 1))] := by
    rw [hW0]
    have := Blk.new ((((w.alloc (.cells (fcV f (.slice A n c)).toArray 36)).alloc (.cells #[.string s] 9)).alloc (.cells #[.int .i64 d] 2)).alloc (.map #[] 0)) 113 [.map (some (w.heap.size + 1 + 1 + 1))]
    rw [World.size_alloc, World.size_alloc, World.size_alloc, World.size_alloc] at this
    exact this
  have hz0 : W0.heap.size = w.heap.size + 1 + 1 + 1 + 1 + 1 := by rw [hW0]; simp
  have hsz : (fcV f (.slice A n c)).toArray.size = 29 := by simp [fcV_length hf]
  have HZ := Lib.hid (show (Tryz.prog.info? 36).map (·.size) = some (fcV f (.slice A n c)).toArray.size by rw [hsz]; exact szFcI)
  have HF := Lib.hid hf
  have HVV := Lib.hid hV
  have HN := Lib.hid hn
  have HS := Lib.hid (h.next hB)
  have HSW := Lib.hid h
  have HMW := Lib.hid hmx
  have HM := Lib.hid (hmx.next hB)
  have HT1 := Lib.hid ho
  have HT2 := Lib.hid ht
  have HR := Lib.hid (kptR_look hV ho ht d)
  have HL1 := Lib.hid (plW_len f (bs o))
  have HL2 := Lib.hid (plW_len f (bs s))
  have HR1 := Lib.hid (fun i hi => plW_bound hV (vText_ls ho) (vText_len60 ho) (i := i) hi)
  have HR2 := Lib.hid (fun i hi => plW_bound hV (vText_ls ht) (vText_len60 ht) (i := i) hi)
  have hx60 : (lets (bs o)).length ≤ 60 := Nat.le_trans (lets_length _) (vText_len60 ho)
  have hy60 : (lets (bs s)).length ≤ 60 := Nat.le_trans (lets_length _) (vText_len60 ht)
  have ho60 : o.size ≤ 60 := by have := vText_len60 ho; rwa [bs_length] at this
  have hs60 : s.size ≤ 60 := by have := vText_len60 ht; rwa [bs_length] at this
  have HKD := Lib.hid hkD
  have HKS := Lib.hid hkS
  have HKM := Lib.hid hkM
  have HKV := Lib.hid hkV
  have HBB := Lib.hid hB
  have hlo : ∀ i, i < o.size → i < o.size := fun i h => h
  clear hf hV hn h hmx ho ht hsz hkD hkS hkM hkV hB hlo
  obtain ⟨x, hx⟩ : ∃ x, x = lets (bs o) := ⟨_, rfl⟩
  obtain ⟨y, hy⟩ : ∃ y, y = lets (bs s) := ⟨_, rfl⟩
  obtain ⟨p, hp⟩ : ∃ p, p = plW f (bs o) (bs o).length := ⟨_, rfl⟩
  obtain ⟨q, hq⟩ : ∃ q, q = plW f (bs s) (bs s).length := ⟨_, rfl⟩
  have hR := HR.out
  rw [← hx, ← hy, ← hp, ← hq] at hR
  rw [← hR]
  have HPL := Lib.hid (show p.length = x.length by rw [hp, hx]; exact HL1.out)
  have HQL := Lib.hid (show q.length = y.length by rw [hq, hy]; exact HL2.out)
  have HPR := Lib.hid (show ∀ i, i < p.length → 0 ≤ rdI p i ∧ rdI p i < 3600 by rw [hp]; exact HR1.out)
  have HQR := Lib.hid (show ∀ i, i < q.length → 0 ≤ rdI q i ∧ rdI q i < 3600 by rw [hq]; exact HR2.out)
  rw [← hx] at hx60
  rw [← hy] at hy60
  have hp60 : p.length ≤ 60 := by rw [HPL.out]; exact hx60
  have hq60 : q.length ≤ 60 := by rw [HQL.out]; exact hy60
  have HX := Lib.hid hx
  have HY := Lib.hid hy
  have HPP := Lib.hid hp
  have HQQ := Lib.hid hq
  clear hx hy hp hq hR HR HL1 HL2 HR1 HR2
  subst hW0
  go_enter Tryz.func49, Tryz.ntmps49
  go_wp2_with (refine wpList_load_row rfl 36 (.tmp 4) rfl _ rfl 36 (fcV f (.slice A n c)).toArray _ _ hkF Tryz.underlying36 rfl HZ.out ?_)
  have HKF := Lib.hid hkF
  clear hkF
  generalize ((((w.alloc (.cells (fcV f (.slice A n c)).toArray 36)).alloc (.cells #[.string s] 9)).alloc (.cells #[.int .i64 d] 2)).alloc (.map #[] 0)).alloc (.cells #[.map (some (w.heap.size + 1 + 1 + 1))] 113) = W0 at *
  go_at_call 73
  refine (places_any f A n c o W0 HF.out HVV.out HN.out hm (vText_ls HT1.out) ho60 HS.out).mono ?_
  rintro e w1 ⟨A1, c1, rfl, hb1, ho1⟩
  rw [← HPP.out] at ho1 ⊢
  have HO1 := Lib.hid ho1
  have HM1 := Lib.hid (HKM.out.next hb1)
  have g1 := hb1.size
  have HB1 := Lib.hid hb1
  clear ho1 hb1
  go_wp2
  go_loopw [25] (fun i wr => ∃ k : Nat, k ≤ p.length ∧ i = .int .i64 k ∧ MapAt wr (w.heap.size + 1 + 1 + 1) k (fun q => lkN x p q k) ∧ w1.grownBy wr (some (w.heap.size + 1 + 1 + 1))) (fun i _ => p.length - (intOf i).toNat)
  case atStart => exact ⟨0, by omega, rfl, HM1.out, grown_refl _ _⟩
  case round =>
    obtain ⟨k, hk, rfl, hmap, hg⟩ := hrel
    have hgs : w1.heap.size ≤ wr.heap.size := by obtain ⟨_, _, _, hgs, _⟩ := hg; exact hgs
    have HMX := Lib.hid (show MaxW wr from HMW.out.next (below_grownK (below_step HBB.out HB1.out) hg (by omega) (by have := HBB.out.size; omega)))
    have hVr := ((HKV.out.next HB1.out).grown hg (by first | (simp; done) | (simp; omega))).cell 0 _ rfl
    by_cases hlt : k < p.length
    · obtain ⟨a1, rfl, r1⟩ := (HO1.out.grown hg (fun b e => by cases e; exact .inl (by omega))).sl.some k hlt
      have hc1 := r1.atI64 k hlt
      have hpk := HPR.out k hlt
      have hkx : k < (⟨x.toArray⟩ : ByteArray).size := by show k < x.length; rw [← HPL.out]; exact hlt
      have hkl : k < maxLen := by unfold maxLen; have := HPL.out; omega
      clear r1
      go_wp2
      refine heldS_begin (S := fun w' => w'.cell? ⟨w.heap.size + 1 + 1 + 1 + 1, 0, none⟩ = some (.map (some (w.heap.size + 1 + 1 + 1)))) (by kernel_rfl) ?_
      have hS : (wr.drew).cell? ⟨w.heap.size + 1 + 1 + 1 + 1, 0, none⟩ = some (.map (some (w.heap.size + 1 + 1 + 1))) := hVr
      refine heldS_take 0 (.map (some (w.heap.size + 1 + 1 + 1))) rfl (by kernel_rfl) (by kernel_rfl) (by kernel_rfl) (fun _ _ _ h => h) (by kernel_rfl) (fun w' hw' => exec_load1 113 (.tmp 9) rfl ⟨w.heap.size + 1 + 1 + 1 + 1, 0, none⟩ (by kernel_rfl) (.map (some (w.heap.size + 1 + 1 + 1))) (hw') _ Tryz.underlying113 rfl) hS ?_
      refine heldS_take 1 (.int .i64 (rdI p k)) rfl (by kernel_rfl) (by kernel_rfl) (by kernel_rfl) (fun _ _ _ h => h) (by kernel_rfl) (fun w' hw' => by kernel_rfl) hS ?_
      refine heldS_take 2 (.string o) rfl (by kernel_rfl) (by kernel_rfl) (by kernel_rfl) (fun _ _ _ h => h) (by kernel_rfl) (fun w' hw' => by kernel_rfl) hS ?_
      refine heldS_take 4 (.int .i64 k) rfl (by kernel_rfl) (by kernel_rfl) (by kernel_rfl) (fun _ _ _ h => h) (by kernel_rfl) (fun w' hw' => by kernel_rfl) hS ?_
      refine heldS_call 3 50 #[.string o] rfl (by kernel_rfl) (by kernel_rfl) (by kernel_rfl) ?_
      refine (letters_impl o wr.drew hos (show MaxW wr.drew from HMX.out)).mono ?_
      rintro e w2 ⟨rfl, hb2⟩
      have hb2 := below_step (below_drewN (Below.refl wr.heap.size wr) 1) hb2
      rw [← HX.out]
      have hS := (hb2.cell (by show w.heap.size + 1 + 1 + 1 + 1 < wr.heap.size; omega)).trans hS
      refine ⟨_, rfl, hS, ?_⟩
      refine heldS_take 5 (.int .u8 (byS ⟨x.toArray⟩ k)) rfl (by kernel_rfl) (by kernel_rfl) (by kernel_rfl) (fun _ _ _ h => h) (by kernel_rfl) (fun w' hw' => exec_byte (.tmp 33) (.tmp 34) rfl ⟨x.toArray⟩ (by kernel_rfl) k (by kernel_rfl) hkx) hS ?_
      have hg2 : w1.grownBy w2 (some (w.heap.size + 1 + 1 + 1)) := grownBy_trans hg (grown_none hb2 _)
      obtain ⟨w3, hrun, hmap3, hg3⟩ := (hmap.next hb2).put hkl (rdI p k) (byt x k) (by omega) (byt_u8 x k)
      have hS3 : w3.cell? ⟨w.heap.size + 1 + 1 + 1 + 1, 0, none⟩ = some (.map (some (w.heap.size + 1 + 1 + 1))) := grown_cell hg3 hS (by have := hb2.size; show w.heap.size + 1 + 1 + 1 + 1 < _; have e : wr.drew.heap.size = wr.heap.size := rfl; omega) (by simp)
      refine heldS_skip 6 w3 rfl (by kernel_rfl) (by kernel_rfl) (exec_mapUpdate 113 (.tmp 30) (.tmp 31) (.tmp 35) rfl _ _ _ (by kernel_rfl) (by kernel_rfl) (by kernel_rfl) _ _ hrun) hS3 ?_
      refine held_done (by kernel_rfl) ?_
      simp only [Act.put, List.setIfInBounds_toArray, List.set_cons_succ, List.set_cons_zero]
      have hmap3 : MapAt w3 (w.heap.size + 1 + 1 + 1) (k + 1) (fun q => lkN x p q (k + 1)) := hmap3
      have hg3 := grownBy_trans hg2 hg3
      clear hS hS3 hg2 hrun hb2 hVr hmap hg
      go_wp2
      go_roundw
      case rel => exact ⟨k + 1, by omega, by go_num, hmap3, hg3⟩
      case measure => simp [intOf]; omega
    · obtain rfl : k = p.length := by omega
      have hkF2 := (HKF.out.next HB1.out).grown hg (by first | (simp; done) | (simp; omega))
      have hS2 := ((HKS.out.next HB1.out).grown hg (by first | (simp; done) | (simp; omega))).cell 0 _ rfl
      have hD2 := ((HKD.out.next HB1.out).grown hg (by first | (simp; done) | (simp; omega))).cell 0 _ rfl
      have HGG := Lib.hid hg
      have HMP := Lib.hid hmap
      have HVR := Lib.hid hVr
      clear hg hmap hVr
      go_wp2_with (refine wpList_load_row rfl 36 (.tmp 4) rfl _ rfl 36 (fcV f (.slice A n c)).toArray _ _ hkF2 Tryz.underlying36 rfl HZ.out ?_)
      have HS2 := Lib.hid hS2
      have HD2 := Lib.hid hD2
      have hBr := below_grownK (below_step HBB.out HB1.out) HGG.out (by omega) (by have := HBB.out.size; omega)
      have HBR := Lib.hid hBr
      go_at_call 73
      refine (places_any f A n c s wr HF.out HVV.out HN.out hm (vText_ls HT2.out) hs60 (HSW.out.next hBr)).mono ?_
      rintro e w4 ⟨A2, c2, rfl, hb4, ho4⟩
      rw [← HQQ.out] at ho4 ⊢
      have g4 := hb4.size
      have zA : (w4.alloc (.cells #[.slice A2 q.length c2] 42)).heap.size = w4.heap.size + 1 := by simp
      have hbA := below_one w4 (.cells #[.slice A2 q.length c2] 42)
      have hb5 := below_step hb4 hbA
      have hkp : KpW (w4.alloc (.cells #[.slice A2 q.length c2] 42)) (w.heap.size + 1) (w.heap.size + 1 + 1) (w.heap.size + 1 + 1 + 1) (w.heap.size + 1 + 1 + 1 + 1) w4.heap.size p.length (fun t => lkN x p t p.length) A2 c2 q d s :=
        ⟨HMP.out.next hb5, (hb5.cell (by show w.heap.size + 1 + 1 + 1 + 1 < _; omega)).trans HVR.out, (Blk.new w4 42 [.slice A2 q.length c2]).cell 0 _ rfl, ho4.sl.next hbA, (hb5.cell (by show w.heap.size + 1 + 1 < _; omega)).trans HD2.out, (hb5.cell (by show w.heap.size + 1 < _; omega)).trans HS2.out, (HMW.out.next hBr).next hb5, by omega⟩
      have HKP := Lib.hid hkp
      have hcO := hkp.own
      have HB5 := Lib.hid hb5
      clear hkp hb5 hbA hb4 ho4 hBr
      go_wp2_with fail
      go_at_call 37
      refine (indices_any 74 #[.pointer (some ⟨w.heap.size + 1 + 1 + 1 + 1, 0, none⟩), .pointer (some ⟨w4.heap.size, 0, none⟩), .pointer (some ⟨w.heap.size + 1 + 1, 0, none⟩), .pointer (some ⟨w.heap.size + 1, 0, none⟩)] HG.out (fun i => lkN x p (rdI q i + d) p.length == byt y i) q.length _ (by omega) (fun W i hi hb => ?_)).mono ?_
      · rw [HY.out]
        exact kept1_any W _ _ _ _ _ _ _ A2 c2 q d s i (HKP.out.next hb) hi (HQR.out i hi) hd (by rw [← HY.out]; exact HQL.out.symm) hs
      rintro e w5 ⟨A3, c3, rfl, hb6, ho6⟩
      have hfin := below_step (below_step HBR.out HB5.out) hb6
      have hfz := HBR.out.size
      go_wp2
      go_ret
      exact ⟨A3, c3, rfl, hfin, ho6.low (by omega)⟩
end Go.Proofs.YtonnplaacebekaaGreatDoor
