/- Contract: the pieces of a text, by the program. -/
import Derived.Test.YtonnplaacebekaaDoorShY
import Derived.Test.YtonnplaacebekaaDoorShM
import Derived.Test.YtonnplaacebekaaDoorGA
import Derived.Lib.ConvBytes
import Derived.Lib.AtoiErrMem


namespace Go.Proofs.YtonnplaacebekaaDoor
open Go Go.RowKit
set_option linter.unusedVariables false
set_option linter.unusedSimpArgs false

/-- A row that grows beside a block g that stays. -/
structure PcRel (W0 W2 wr : World) (g : Nat) (v : Value) (xs : List Int) : Prop where
  own : wr.ownsRow W0.heap.size 2 1 v xs.length (xs.map i64)
  blk : ∃ b, v.ownBlock = some b ∧ b ≠ g
  src : wr.heap[g]? = W2.heap[g]?
  below : Below W0.heap.size W0 wr
  size : g < wr.heap.size
theorem PcRel.next {W0 W2 wr w' : World} {g : Nat} {v : Value} {xs : List Int} (h : PcRel W0 W2 wr g v xs) (hb : Below wr.heap.size wr w') : PcRel W0 W2 w' g v xs :=
  ⟨own_next h.own hb, h.blk, (hb.block g h.size).trans h.src, below_step h.below hb, Nat.lt_of_lt_of_le h.size hb.size⟩
theorem PcRel.put {W0 W2 wr w' : World} {g : Nat} {v v' : Value} {xs : List Int} {x : Int} (h : PcRel W0 W2 wr g v xs) (hW : ∃ cs fr, W2.heap[g]? = some (.cells cs 5 fr)) (ho : w'.ownsRow W0.heap.size 2 1 v' (xs.length + 1) (xs.map i64 ++ [.int .i64 x])) (hg : wr.grownBy w' v.ownBlock) : PcRel W0 W2 w' g v' (xs ++ [x]) := by
  obtain ⟨b, hb, hne⟩ := h.blk
  have hs := h.size
  have hgs : wr.heap.size ≤ w'.heap.size := by obtain ⟨_, _, _, hgs, _⟩ := hg; exact hgs
  have hsrc := (hg.block g hs (by rw [hb]; intro e; cases e; exact hne rfl)).trans h.src
  refine ⟨by rw [List.length_append, List.map_append]; exact ho, ?_, hsrc, below_own h.below h.own hg (Nat.le_refl _) h.below.size, by omega⟩
  obtain ⟨g', c, cs, e, _, hbl, _⟩ := own_blk ho (Nat.succ_pos _)
  refine ⟨g', by rw [e]; rfl, fun e2 => ?_⟩
  subst e2
  obtain ⟨cs2, fr, h2⟩ := hW
  rw [h2] at hsrc
  unfold Blk at hbl
  rw [hsrc] at hbl
  injection hbl with h3
  injection h3 with _ h4 _
  exact absurd h4 (by decide)
theorem PcRel.cell {W0 W2 wr : World} {g : Nat} {v : Value} {xs : List Int} (h : PcRel W0 W2 wr g v xs) (k : Nat) : wr.cell? ⟨g, k, none⟩ = W2.cell? ⟨g, k, none⟩ := by
  have := h.src
  simp [World.cell?, this]

attribute [local irreducible] wpAnyH in
set_option maxHeartbeats 2000000 in
set_option maxRecDepth 100000 in
theorem pieces_impl (f : Fc) (A : Option Addr) (n c : Nat) (sh : Sh) (s : ByteArray) (w : World) (hf : FcT f) (hV : FcV f) (hs : s.size ≤ 1048576) (ht : vText (bs s) = true) (hk : shOk sh = true) (hmx : MaxW w) :
    Calls Tryd.prog 55 #[.agg (shV sh).toArray, .agg (fcV f (.slice A n c)).toArray, .string s] w (NsOut w (pcs f sh.over (lets (bs s)))) := by
  have kc := fun (w : World) => Lib.run_convert_string_bytes (P := Tryd.prog) w 9 123 5 ⟨(lets (bs s)).toArray⟩ Tryd.underlying9 Tryd.underlying123 Tryd.underlying5
  have hB := below_two w (.cells (shV sh).toArray 38) (.cells (fcV f (.slice A n c)).toArray 36)
  have hb1 := below_one (w.alloc (.cells (shV sh).toArray 38)) (.cells (fcV f (.slice A n c)).toArray 36)
  have hsb := (Blk.new w 38 (shV sh)).next hb1
  have hfb := Blk.new (w.alloc (.cells (shV sh).toArray 38)) 36 (fcV f (.slice A n c))
  rw [World.size_alloc] at hfb
  have HSB := Lib.hid hsb
  have HFB := Lib.hid hfb
  have HBB := Lib.hid hB
  have HM := Lib.hid (hmx.next (below_step hB (below_one _ (.cells #[] 2))))
  have HF := Lib.hid hf
  have HV := Lib.hid hV
  have HLL := Lib.hid (lets_ll (vText_ls ht))
  have hov := (shOk_iff.1 hk).2
  have hsz : (fcV f (.slice A n c)).toArray.size = 29 := by simp [fcV_length hf]
  have HZ := Lib.hid (show (Tryd.prog.info? 36).map (·.size) = some (fcV f (.slice A n c)).toArray.size by rw [hsz]; exact szFcI)
  have hown0 := own_empty ((w.alloc (.cells (shV sh).toArray 38)).alloc (.cells (fcV f (.slice A n c)).toArray 36)) (w.heap.size + 1 + 1) (by simp) ((w.alloc (.cells (shV sh).toArray 38)).alloc (.cells (fcV f (.slice A n c)).toArray 36)).heap.size 2 (by simp) 1
  obtain ⟨l, hl⟩ : ∃ l, l = lets (bs s) := ⟨_, rfl⟩
  have hll : l.length ≤ 1048576 := by
    have := lets_length (bs s)
    rw [bs_length] at this
    rw [hl]; omega
  have hval : ∀ k, k < l.length → rdI (pcs f sh.over l) k = rdI f.wide (letN l k) + 2 * sh.over ∧ 1 ≤ rdI f.wide (letN l k) ∧ rdI f.wide (letN l k) ≤ 40 := by
    intro k hk
    have := letW_range HV.out (HLL.out k (by rw [← hl]; exact hk))
    rw [← hl] at this
    exact ⟨rdI_pcs f _ _ hk, this⟩
  have HLL2 := Lib.hid (show LL l by rw [hl]; exact HLL.out)
  rw [← hl] at kc ⊢
  have HL := Lib.hid hl
  clear hf hV hmx hsb hfb hb1 hB hk ht hsz HLL hl
  go_enter Tryd.func55, Tryd.ntmps55
  go_wp2_with (go_at_call 91; refine (letters_impl s _ hs HM.out).mono ?_; rw [← HL.out]; rintro e w1 ⟨rfl, hb⟩)
  have hs2 : (⟨l.toArray⟩ : ByteArray).size = l.length := by show l.toArray.size = _; simp
  have hb2 := Lib.bytesWorld_below w1 5 ⟨l.toArray⟩
  have hsz2 := Lib.bytesWorld_size w1 5 ⟨l.toArray⟩
  have hcb : ∀ k, k < l.length → (Lib.bytesWorld w1 5 ⟨l.toArray⟩).cell? ⟨w1.heap.size, k, none⟩ = some (.int .u8 (byt l k)) := fun k hk => by
    rw [Lib.bytesWorld_cell w1 _ _ k (by rw [hs2]; exact hk)]
    rfl
  have hrel0 : PcRel ((w.alloc (.cells (shV sh).toArray 38)).alloc (.cells (fcV f (.slice A n c)).toArray 36)) (Lib.bytesWorld w1 5 ⟨l.toArray⟩) (Lib.bytesWorld w1 5 ⟨l.toArray⟩) w1.heap.size (.slice (some ⟨w.heap.size + 1 + 1, 0, none⟩) 0 0) [] := by
    have hz1 := hb.size
    rw [World.size_alloc, World.size_alloc, World.size_alloc] at hz1
    exact ⟨own_next (own_next hown0 hb) hb2, ⟨_, rfl, by show w.heap.size + 1 + 1 ≠ _; omega⟩, rfl, below_step (below_step (below_one _ _) hb) hb2, by rw [hsz2]; omega⟩
  have HW2 := Lib.hid (show ∃ cs fr, (Lib.bytesWorld w1 5 ⟨l.toArray⟩).heap[w1.heap.size]? = some (.cells cs 5 fr) from ⟨_, _, Lib.bytesWorld_at_new w1 5 ⟨l.toArray⟩⟩)
  generalize Lib.bytesWorld w1 5 ⟨l.toArray⟩ = W2 at *
  generalize grownCap w1 l.length 0 5 = cg
  have HCB := Lib.hid hcb
  clear kc hs2 hb2 hsz2 hcb hb hown0
  generalize w1.heap.size = g1 at *
  obtain ⟨D, hD⟩ : ∃ D, D = pcs f sh.over l := ⟨_, rfl⟩
  have hDl : D.length = l.length := by rw [hD, pcs_length]
  rw [← hD] at hval
  have HDD := Lib.hid hD
  clear hD
  have hlo : w.heap.size + 1 + 1 ≤ ((w.alloc (.cells (shV sh).toArray 38)).alloc (.cells (fcV f (.slice A n c)).toArray 36)).heap.size := by simp
  generalize hW0 : (w.alloc (.cells (shV sh).toArray 38)).alloc (.cells (fcV f (.slice A n c)).toArray 36) = W0 at *
  clear hW0
  go_loopw [7, 15] (fun v i wr => ∃ k : Nat, k ≤ l.length ∧ i = .int .i64 k ∧ PcRel W0 W2 wr g1 v (D.take k)) (fun _ i _ => l.length - (intOf i).toNat)
  case atStart => exact ⟨0, Nat.zero_le _, rfl, hrel0⟩
  clear hrel0
  case round =>
    obtain ⟨k, hk, rfl, h⟩ := hrel
    have hkl : (D.take k).length = k := by rw [List.length_take]; omega
    by_cases hlt : k < l.length
    · have hcell := (h.cell k).trans (HCB.out k hlt)
      have hkf := HFB.out.next h.below
      have HLT := Lib.hid (HLL2.out k hlt)
      obtain ⟨hv, hr⟩ := hval k hlt
      have H := Lib.hid h
      clear h
      have hmul : IntKind.i64.wrap (2 * sh.over) = 2 * sh.over := IntWalk.i64_in _ (by omega)
      have hcv : IntKind.i64.wrap sh.over = sh.over := IntWalk.i64_in _ (by omega)
      have hadd : IntKind.i64.wrap (rdI f.wide (letN l k) + 2 * sh.over) = rdI D k := by rw [IntWalk.i64_in _ (by omega)]; omega
      have HKF := Lib.hid hkf
      have HKS := Lib.hid (HSB.out.next H.out.below)
      have hsz0 := H.out.below.size
      clear hkf hval
      go_wp2
      refine held_begin (W0.heap.size) (by kernel_rfl) ?_
      have hS := below_drewN (Below.refl (W0.heap.size) wr) 1
      refine held_take 0 (u7) rfl (by kernel_rfl) (by kernel_rfl) (by kernel_rfl) (fun _ _ _ h => h) (by kernel_rfl) (fun w' hw' => by kernel_rfl) hS ?_
      refine held_take 1 (.agg (fcV f (.slice A n c)).toArray) rfl (by kernel_rfl) (by kernel_rfl) (by kernel_rfl) (fun _ _ _ h => h) (by kernel_rfl) (fun w' hw' => exec_load_row 36 (.tmp 4) rfl (w.heap.size + 1) (by kernel_rfl) 36 (fcV f (.slice A n c)).toArray _ _ (HKF.out.below hw' (by omega)) Tryd.underlying36 rfl (HZ.out)) hS ?_
      refine held_take 2 (.int .u8 (byt l k)) rfl (by kernel_rfl) (by kernel_rfl) (by kernel_rfl) (fun _ _ _ h => h) (by kernel_rfl) (fun w' hw' => by kernel_rfl) hS ?_
      refine held_take 4 (.pointer (some ⟨w.heap.size, 1, none⟩)) rfl (by kernel_rfl) (by kernel_rfl) (by kernel_rfl) (fun _ _ _ h => h) (by kernel_rfl) (fun w' hw' => by kernel_rfl) hS ?_
      refine held_take 5 (.int .i8 sh.over) rfl (by kernel_rfl) (by kernel_rfl) (by kernel_rfl) (fun _ _ _ h => h) (by kernel_rfl) (fun w' hw' => exec_load1 22 (.tmp 23) rfl ⟨w.heap.size, 1, none⟩ (by kernel_rfl) (.int .i8 sh.over) ((HKS.out.below hw' (by omega)).cell 1 (.int .i8 sh.over) rfl) _ Tryd.underlying22 rfl) hS ?_
      refine held_take 6 (.int .i64 sh.over) rfl (by kernel_rfl) (by kernel_rfl) (by kernel_rfl) (fun _ _ _ h => h) (by kernel_rfl) (fun w' hw' => Eq.trans (show (execOp _ _).run _ w' = .ok (.value (.int .i64 (IntKind.i64.wrap sh.over))) w' by kernel_rfl) (by rw [hcv])) hS ?_
      refine held_take 7 (.int .i64 (2 * sh.over)) rfl (by kernel_rfl) (by kernel_rfl) (by kernel_rfl) (fun _ _ _ h => h) (by kernel_rfl) (fun w' hw' => Eq.trans (show (execOp _ _).run _ w' = .ok (.value (.int .i64 (IntKind.i64.wrap (2 * sh.over)))) w' by kernel_rfl) (by rw [hmul])) hS ?_
      refine held_call 3 92 #[.agg (fcV f (.slice A n c)).toArray, .int .u8 (byt l k)] rfl (by kernel_rfl) (by kernel_rfl) (by kernel_rfl) ?_
      refine (letter_w f A n c l k _ HF.out HLT.out).mono ?_
      rintro e w1 ⟨rfl, hb⟩
      have hS := hS.trans (hb.mono (by exact hsz0))
      refine ⟨_, rfl, hS, ?_⟩
      have H3 := Lib.hid ((H.out.next (below_drewN (Below.refl _ wr) 1)).next hb)
      have hsz3 := H3.out.below.size
      clear hb
      refine held_take 8 (.int .i64 (rdI D k)) rfl (by kernel_rfl) (by kernel_rfl) (by kernel_rfl) (fun _ _ _ h => h) (by kernel_rfl) (fun w' hw' => Eq.trans (show (execOp _ _).run _ w' = .ok (.value (.int .i64 (IntKind.i64.wrap (rdI f.wide (letN l k) + 2 * sh.over)))) w' by kernel_rfl) (by rw [hadd])) hS ?_
      refine held_val 9 (.slice (some ⟨w1.heap.size, 0, none⟩) 1 1) (w1.alloc (.cells #[.int .i64 (rdI D k)] 2)) rfl (by kernel_rfl) (by kernel_rfl) (by kernel_rfl) (hS.alloc (by exact hsz3) _) ?_
      refine held_app1 10 (.tmp 19) (.tmp 28) 31 rfl (by kernel_rfl) (by kernel_rfl) rfl elI w1 (W0.heap.size) u7 ((D.take k).length) ((D.take k).map i64) (by kernel_rfl) H3.out.own (.int .i64 (rdI D k)) (by kernel_rfl) rfl (by unfold maxLen; omega) (by omega) (hsz3) (Nat.le_refl _) hS ?_
      intro v' w' ho' hg' hS'
      have hS := hS'
      refine held_take 11 (v') rfl (by kernel_rfl) (by kernel_rfl) (by kernel_rfl) (fun _ _ _ h => h) (by kernel_rfl) (fun w' hw' => by kernel_rfl) hS ?_
      refine held_done (by kernel_rfl) ?_
      simp only [Act.put, List.setIfInBounds_toArray, List.set_cons_succ, List.set_cons_zero]
      have hput := Lib.hid (H3.out.put HW2.out ho' hg')
      clear hS hS' hg' ho' hadd hcv hmul
      go_wp2
      go_roundw
      case rel =>
        refine ⟨k + 1, by omega, by go_num, ?_⟩
        rw [take_snocI (l := D) (k := k) (by omega)]
        exact hput.out
      case measure => simp [intOf]; omega
    · obtain rfl : k = l.length := by omega
      have HT := Lib.hid (show D.take l.length = D by rw [← hDl, List.take_length])
      have hown := h.own
      have hbel := h.below
      clear h
      go_wp2
      go_ret
      obtain ⟨A', c', rfl, hl, ho⟩ := OwnS.of_own hown
      rw [HT.out] at ho hl ⊢
      rw [← HDD.out]
      exact ⟨A', c', rfl, below_step HBB.out hbel, ho.low HBB.out.size⟩
end Go.Proofs.YtonnplaacebekaaDoor
