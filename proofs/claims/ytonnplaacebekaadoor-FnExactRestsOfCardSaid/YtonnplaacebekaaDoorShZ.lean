/- Contracts: sheets that are told, checked, and what is left of them: by the reference, by the program. -/
import Derived.Test.YtonnplaacebekaaDoorShI
import Derived.Test.YtonnplaacebekaaDoorShU
import Derived.Test.YtonnplaacebekaaDoorShC

namespace Go.Proofs.YtonnplaacebekaaDoor
open Go Go.RowKit Go.Shelf
set_option linter.unusedVariables false
set_option linter.unusedSimpArgs false

/-- What CheckSheets and RestsOf answer. -/
def chkR (f : Fc) (s : Sh) (l : List UInt8) (xs : List Int) : Bool × Int :=
  if shC f s l = 0 then (decide (rstOk s.wide (pcs f s.over (lets l)) xs), 0) else (false, shC f s l)
def rstR (f : Fc) (s : Sh) (l : List UInt8) (xs : List Int) : List Int × Int :=
  if shC f s l = 0 then (if rstOk s.wide (pcs f s.over (lets l)) xs then (rstS s.wide (pcs f s.over (lets l)) xs xs.length, 0) else ([], 4)) else ([], shC f s l)
theorem rstR_len (f : Fc) (s : Sh) (l : List UInt8) (xs : List Int) : (rstR f s l xs).1.length ≤ 1048576 := by
  unfold rstR
  split
  · rename_i hz
    obtain ⟨hv, hk, ht⟩ := shC_zero hz
    obtain ⟨k1, k2⟩ := shOk_iff.1 hk
    split
    · rename_i hok
      have := (rstS_range (w := s.wide) (by omega) (fun k hk => (pcs_range (validF_iff.1 hv) k2 (lets_ll (vText_ls ht)) (by rwa [pcs_length] at hk)).1 |> fun h => by omega) xs.length (by rw [hok.1]; exact Nat.le_refl _) hok.2).1
      simp only; omega
    · exact Nat.zero_le _
  · exact Nat.zero_le _
theorem pcs_facts {f : Fc} {s : Sh} {l : List UInt8} (h : shC f s l = 0) : (pcs f s.over (lets l)).length ≤ 60 ∧ (0 ≤ s.wide ∧ s.wide ≤ 400) ∧ ∀ k, k < (pcs f s.over (lets l)).length → 0 ≤ rdI (pcs f s.over (lets l)) k ∧ rdI (pcs f s.over (lets l)) k ≤ 50 := by
  obtain ⟨hv, hk, ht⟩ := shC_zero h
  obtain ⟨k1, k2⟩ := shOk_iff.1 hk
  have hl := pcs_long (f := f) (s := s) ht
  exact ⟨by omega, ⟨by omega, k1.2⟩, fun k hk => by
    have := pcs_range (validF_iff.1 hv) k2 (lets_ll (vText_ls ht)) (show k < (lets l).length by rwa [pcs_length] at hk)
    omega⟩

theorem RsOut.yes {w w' : World} {wd : Int} {ps xs : List Int} {e : Ending} (h : RsOut w wd ps xs e w') (hok : rstOk wd ps xs) : ∃ A c, e = .returned (.tuple #[.slice A (rstS wd ps xs xs.length).length c, .bool true]) ∧ Below w.heap.size w w' ∧ OwnS w' w.heap.size w'.heap.size A (rstS wd ps xs xs.length) := by
  obtain ⟨A, c, ys, he, hb, ho, hy⟩ := h
  rw [hy hok, decide_eq_true hok] at he
  rw [hy hok] at ho
  exact ⟨A, c, he, hb, ho⟩
theorem RsOut.no {w w' : World} {wd : Int} {ps xs : List Int} {e : Ending} (h : RsOut w wd ps xs e w') (hok : ¬ rstOk wd ps xs) : ∃ A c, ∃ ys : List Int, e = .returned (.tuple #[.slice A ys.length c, .bool false]) ∧ Below w.heap.size w w' := by
  obtain ⟨A, c, ys, he, hb, ho, hy⟩ := h
  rw [decide_eq_false hok] at he
  exact ⟨A, c, ys, he, hb⟩

attribute [local irreducible] wpAnyH in
set_option maxHeartbeats 2000000 in
set_option maxRecDepth 100000 in
theorem checkSh_spec (f : Fc) (A Ax : Option Addr) (n c nx cx : Nat) (sh : Sh) (s : ByteArray) (xs : List Int) (w : World) (hf : FcT f) (hn : f.pairs.length = n) (hm : n ≤ 1048576) (hs : s.size ≤ 1048576) (hsh : ShT sh) (hxn : xs.length = nx) (hx20 : nx ≤ 1048576) (h : SlP w A f.pairs) (hx : SlE i64 w Ax xs) :
    Calls Tryd.prog 22 #[.agg (fcV f (.slice A n c)).toArray, .agg (shV sh).toArray, .string s, .slice Ax nx cx] w fun e w' => e = .returned (.tuple #[.bool (chkR f sh (bs s) xs).1, .int .i64 (chkR f sh (bs s) xs).2]) ∧ Below w.heap.size w w' := by
  have hB := below_two w (.cells (fcV f (.slice A n c)).toArray 36) (.cells (shV sh).toArray 38)
  have hk := Blk.new w 36 (fcV f (.slice A n c))
  have hb1 := below_one (w.alloc (.cells (fcV f (.slice A n c)).toArray 36)) (.cells (shV sh).toArray 38)
  have hsb := Blk.new (w.alloc (.cells (fcV f (.slice A n c)).toArray 36)) 38 (shV sh)
  have hfa : FcAt ((w.alloc (.cells (fcV f (.slice A n c)).toArray 36)).alloc (.cells (shV sh).toArray 38)) w.heap.size f n := ⟨A, c, hk.next hb1, h.next hB⟩
  rw [World.size_alloc] at hsb
  have HX := Lib.hid (hx.next hB)
  have HXN := Lib.hid hxn
  have HF := Lib.hid hf
  have HN := Lib.hid hn
  have HA := Lib.hid hfa
  have HB := Lib.hid hsb
  have HS := Lib.hid hsh
  have hwr := hsh.wide
  have hcv : IntKind.i64.wrap sh.wide = sh.wide := IntWalk.i64_in _ (by omega)
  clear hf hn h hfa hk hb1 hsb hsh hx hxn
  obtain ⟨cd, hcd⟩ : ∃ cd, cd = shC f sh (bs s) := ⟨_, rfl⟩
  have HC := Lib.hid hcd
  by_cases h0 : cd = 0
  · skip
    have hz := hcd.symm.trans h0
    obtain ⟨hv, hk, ht⟩ := shC_zero hz
    have HFACT := Lib.hid (pcs_facts hz)
    have HVV := Lib.hid (validF_iff.1 hv)
    have HK := Lib.hid hk
    have HT := Lib.hid ht
    have HZ0 := Lib.hid hz
    subst h0
    clear hv hk ht hcd hz
    have HO := Lib.hid (show chkR f sh (bs s) xs = (decide (rstOk sh.wide (pcs f sh.over (lets (bs s))) xs), 0) by unfold chkR; rw [if_pos HZ0.out])
    rw [HO.out]
    go_enter Tryd.func22, Tryd.ntmps22
    go_wp2_with (go_at_call 50; refine (shAsked_spec f n w.heap.size (w.heap.size + 1) sh s _ HF.out HN.out hm hs HS.out HA.out HB.out).mono ?_; rintro e w1 ⟨he, hb⟩; rw [← HC.out] at he; subst he; have hb1 := hb; clear hb)
    refine held_begin (w1.heap.size) (by kernel_rfl) ?_
    have hS := below_drewN (Below.refl (w1.heap.size) w1) 1
    refine held_take 0 (.string s) rfl (by kernel_rfl) (by kernel_rfl) (by kernel_rfl) (fun _ _ _ h => h) (by kernel_rfl) (fun w' hw' => by kernel_rfl) hS ?_
    refine held_take 2 (.slice Ax nx cx) rfl (by kernel_rfl) (by kernel_rfl) (by kernel_rfl) (fun _ _ _ h => h) (by kernel_rfl) (fun w' hw' => by kernel_rfl) hS ?_
    refine held_take 3 (.pointer (some ⟨w.heap.size + 1, 0, none⟩)) rfl (by kernel_rfl) (by kernel_rfl) (by kernel_rfl) (fun _ _ _ h => h) (by kernel_rfl) (fun w' hw' => by kernel_rfl) hS ?_
    refine held_take 4 (.int .i16 sh.wide) rfl (by kernel_rfl) (by kernel_rfl) (by kernel_rfl) (fun _ _ _ h => h) (by kernel_rfl) (fun w' hw' => exec_load1 27 (.tmp 22) rfl ⟨w.heap.size + 1, 0, none⟩ (by kernel_rfl) (.int .i16 sh.wide) (((HB.out.next hb1).next hw').cell 0 (.int .i16 sh.wide) rfl) _ Tryd.underlying27 rfl) hS ?_
    refine held_take 5 (.int .i64 sh.wide) rfl (by kernel_rfl) (by kernel_rfl) (by kernel_rfl) (fun _ _ _ h => h) (by kernel_rfl) (fun w' hw' => Eq.trans (show (execOp _ _).run _ w' = .ok (.value (.int .i64 (IntKind.i64.wrap sh.wide))) w' by kernel_rfl) (by rw [hcv])) hS ?_
    refine held_call 1 52 #[.pointer (some ⟨w.heap.size, 0, none⟩), .pointer (some ⟨w.heap.size + 1, 0, none⟩), .string s] rfl (by kernel_rfl) (by kernel_rfl) (by kernel_rfl) ?_
    refine (pieces_spec f n w.heap.size (w.heap.size + 1) sh s _ HF.out HVV.out HN.out hm hs HT.out HK.out (HA.out.next (below_step hb1 hS)) (HB.out.next (below_step hb1 hS))).mono ?_
    rintro e w1 ⟨A2, c2, rfl, hb, ho⟩
    have hS := below_step hS hb
    refine ⟨_, rfl, hS, ?_⟩
    have y1 := hS.size
    clear hb
    refine held_call 6 51 #[.slice A2 (pcs f sh.over (lets (bs s))).length c2, .slice Ax nx cx, .int .i64 sh.wide] rfl (by kernel_rfl) (by kernel_rfl) (by kernel_rfl) ?_
    refine ((rests_spec A2 Ax _ c2 nx cx (pcs f sh.over (lets (bs s))) xs sh.wide _ rfl HFACT.out.1 HXN.out hx20 HFACT.out.2.1 HFACT.out.2.2 ho.sl (HX.out.next (below_step hb1 hS))).mono fun e w' h => h).mono ?_
    rintro e w1 ⟨A3, c3, ys, rfl, hb, ho3, hys⟩
    have hS := below_step hS hb
    refine ⟨_, rfl, hS, ?_⟩
    refine held_take 7 (.tuple #[.slice A3 (ys).length c3, .bool (decide (rstOk sh.wide (pcs f sh.over (lets (bs s))) xs))]) rfl (by kernel_rfl) (by kernel_rfl) (by kernel_rfl) (fun _ _ _ h => h) (by kernel_rfl) (fun w' hw' => by kernel_rfl) hS ?_
    refine held_take 8 (.slice A3 (ys).length c3) rfl (by kernel_rfl) (by kernel_rfl) (by kernel_rfl) (fun _ _ _ h => h) (by kernel_rfl) (fun w' hw' => by kernel_rfl) hS ?_
    refine held_take 9 (.bool (decide (rstOk sh.wide (pcs f sh.over (lets (bs s))) xs))) rfl (by kernel_rfl) (by kernel_rfl) (by kernel_rfl) (fun _ _ _ h => h) (by kernel_rfl) (fun w' hw' => by kernel_rfl) hS ?_
    refine held_take 10 (.slice A3 (ys).length c3) rfl (by kernel_rfl) (by kernel_rfl) (by kernel_rfl) (fun _ _ _ h => h) (by kernel_rfl) (fun w' hw' => by kernel_rfl) hS ?_
    refine held_take 11 (.bool (decide (rstOk sh.wide (pcs f sh.over (lets (bs s))) xs))) rfl (by kernel_rfl) (by kernel_rfl) (by kernel_rfl) (fun _ _ _ h => h) (by kernel_rfl) (fun w' hw' => by kernel_rfl) hS ?_
    refine held_done (by kernel_rfl) ?_
    simp only [Act.put, List.setIfInBounds_toArray, List.set_cons_succ, List.set_cons_zero]
    have hbel := below_step hb1 hS
    have y0 := hb1.size
    have yB := hB.size
    clear hb hS hb1 ho hcv
    go_wp2
    go_ret2
    exact ⟨rfl, below_step hB hbel⟩
  · have HO := Lib.hid (show chkR f sh (bs s) xs = (false, shC f sh (bs s)) by unfold chkR; rw [if_neg (fun h => h0 (hcd.trans h))])
    rw [HO.out, ← HC.out]
    clear hcd hcv
    go_enter Tryd.func22, Tryd.ntmps22
    go_wp2_with (go_at_call 50; refine (shAsked_spec f n w.heap.size (w.heap.size + 1) sh s _ HF.out HN.out hm hs HS.out HA.out HB.out).mono ?_; rintro e w1 ⟨he, hb⟩; rw [← HC.out] at he; subst he; have hb1 := hb; clear hb)
    go_ret2
    exact ⟨rfl, below_step hB hb1⟩

attribute [local irreducible] wpAnyH in
set_option maxHeartbeats 2000000 in
set_option maxRecDepth 100000 in
theorem restsOf_spec (f : Fc) (A Ax : Option Addr) (n c nx cx : Nat) (sh : Sh) (s : ByteArray) (xs : List Int) (w : World) (hf : FcT f) (hn : f.pairs.length = n) (hm : n ≤ 1048576) (hs : s.size ≤ 1048576) (hsh : ShT sh) (hxn : xs.length = nx) (hx20 : nx ≤ 1048576) (h : SlP w A f.pairs) (hx : SlE i64 w Ax xs) :
    Calls Tryd.prog 25 #[.agg (fcV f (.slice A n c)).toArray, .agg (shV sh).toArray, .string s, .slice Ax nx cx] w (LcOut w (rstR f sh (bs s) xs)) := by
  have hB := below_two w (.cells (fcV f (.slice A n c)).toArray 36) (.cells (shV sh).toArray 38)
  have hk := Blk.new w 36 (fcV f (.slice A n c))
  have hb1 := below_one (w.alloc (.cells (fcV f (.slice A n c)).toArray 36)) (.cells (shV sh).toArray 38)
  have hsb := Blk.new (w.alloc (.cells (fcV f (.slice A n c)).toArray 36)) 38 (shV sh)
  have hfa : FcAt ((w.alloc (.cells (fcV f (.slice A n c)).toArray 36)).alloc (.cells (shV sh).toArray 38)) w.heap.size f n := ⟨A, c, hk.next hb1, h.next hB⟩
  rw [World.size_alloc] at hsb
  have HX := Lib.hid (hx.next hB)
  have HXN := Lib.hid hxn
  have HF := Lib.hid hf
  have HN := Lib.hid hn
  have HA := Lib.hid hfa
  have HB := Lib.hid hsb
  have HS := Lib.hid hsh
  have hwr := hsh.wide
  have hcv : IntKind.i64.wrap sh.wide = sh.wide := IntWalk.i64_in _ (by omega)
  clear hf hn h hfa hk hb1 hsb hsh hx hxn
  obtain ⟨cd, hcd⟩ : ∃ cd, cd = shC f sh (bs s) := ⟨_, rfl⟩
  have HC := Lib.hid hcd
  by_cases h0 : cd = 0
  · skip
    have hz := hcd.symm.trans h0
    obtain ⟨hv, hk, ht⟩ := shC_zero hz
    have HFACT := Lib.hid (pcs_facts hz)
    have HVV := Lib.hid (validF_iff.1 hv)
    have HK := Lib.hid hk
    have HT := Lib.hid ht
    have HZ0 := Lib.hid hz
    subst h0
    clear hv hk ht hcd hz
    by_cases hok : rstOk sh.wide (pcs f sh.over (lets (bs s))) xs
    · have HO := Lib.hid (show rstR f sh (bs s) xs = (rstS sh.wide (pcs f sh.over (lets (bs s))) xs xs.length, 0) by unfold rstR; rw [if_pos HZ0.out, if_pos hok])
      have HOK := Lib.hid hok
      clear hok
      rw [HO.out]
      go_enter Tryd.func25, Tryd.ntmps25
      go_wp2_with (go_at_call 50; refine (shAsked_spec f n w.heap.size (w.heap.size + 1) sh s _ HF.out HN.out hm hs HS.out HA.out HB.out).mono ?_; rintro e w1 ⟨he, hb⟩; rw [← HC.out] at he; subst he; have hb1 := hb; clear hb)
      refine held_begin (w1.heap.size) (by kernel_rfl) ?_
      have hS := below_drewN (Below.refl (w1.heap.size) w1) 1
      refine held_take 0 (.string s) rfl (by kernel_rfl) (by kernel_rfl) (by kernel_rfl) (fun _ _ _ h => h) (by kernel_rfl) (fun w' hw' => by kernel_rfl) hS ?_
      refine held_take 2 (.slice Ax nx cx) rfl (by kernel_rfl) (by kernel_rfl) (by kernel_rfl) (fun _ _ _ h => h) (by kernel_rfl) (fun w' hw' => by kernel_rfl) hS ?_
      refine held_take 3 (.pointer (some ⟨w.heap.size + 1, 0, none⟩)) rfl (by kernel_rfl) (by kernel_rfl) (by kernel_rfl) (fun _ _ _ h => h) (by kernel_rfl) (fun w' hw' => by kernel_rfl) hS ?_
      refine held_take 4 (.int .i16 sh.wide) rfl (by kernel_rfl) (by kernel_rfl) (by kernel_rfl) (fun _ _ _ h => h) (by kernel_rfl) (fun w' hw' => exec_load1 27 (.tmp 23) rfl ⟨w.heap.size + 1, 0, none⟩ (by kernel_rfl) (.int .i16 sh.wide) (((HB.out.next hb1).next hw').cell 0 (.int .i16 sh.wide) rfl) _ Tryd.underlying27 rfl) hS ?_
      refine held_take 5 (.int .i64 sh.wide) rfl (by kernel_rfl) (by kernel_rfl) (by kernel_rfl) (fun _ _ _ h => h) (by kernel_rfl) (fun w' hw' => Eq.trans (show (execOp _ _).run _ w' = .ok (.value (.int .i64 (IntKind.i64.wrap sh.wide))) w' by kernel_rfl) (by rw [hcv])) hS ?_
      refine held_call 1 52 #[.pointer (some ⟨w.heap.size, 0, none⟩), .pointer (some ⟨w.heap.size + 1, 0, none⟩), .string s] rfl (by kernel_rfl) (by kernel_rfl) (by kernel_rfl) ?_
      refine (pieces_spec f n w.heap.size (w.heap.size + 1) sh s _ HF.out HVV.out HN.out hm hs HT.out HK.out (HA.out.next (below_step hb1 hS)) (HB.out.next (below_step hb1 hS))).mono ?_
      rintro e w1 ⟨A2, c2, rfl, hb, ho⟩
      have hS := below_step hS hb
      refine ⟨_, rfl, hS, ?_⟩
      have y1 := hS.size
      clear hb
      refine held_call 6 51 #[.slice A2 (pcs f sh.over (lets (bs s))).length c2, .slice Ax nx cx, .int .i64 sh.wide] rfl (by kernel_rfl) (by kernel_rfl) (by kernel_rfl) ?_
      refine ((rests_spec A2 Ax _ c2 nx cx (pcs f sh.over (lets (bs s))) xs sh.wide _ rfl HFACT.out.1 HXN.out hx20 HFACT.out.2.1 HFACT.out.2.2 ho.sl (HX.out.next (below_step hb1 hS))).mono fun e w' h => h.yes HOK.out).mono ?_
      rintro e w1 ⟨A3, c3, rfl, hb, ho3⟩
      have hS := below_step hS hb
      refine ⟨_, rfl, hS, ?_⟩
      refine held_take 7 (.tuple #[.slice A3 ((rstS sh.wide (pcs f sh.over (lets (bs s))) xs xs.length)).length c3, .bool true]) rfl (by kernel_rfl) (by kernel_rfl) (by kernel_rfl) (fun _ _ _ h => h) (by kernel_rfl) (fun w' hw' => by kernel_rfl) hS ?_
      refine held_take 8 (.slice A3 ((rstS sh.wide (pcs f sh.over (lets (bs s))) xs xs.length)).length c3) rfl (by kernel_rfl) (by kernel_rfl) (by kernel_rfl) (fun _ _ _ h => h) (by kernel_rfl) (fun w' hw' => by kernel_rfl) hS ?_
      refine held_take 9 (.bool true) rfl (by kernel_rfl) (by kernel_rfl) (by kernel_rfl) (fun _ _ _ h => h) (by kernel_rfl) (fun w' hw' => by kernel_rfl) hS ?_
      refine held_take 10 (.slice A3 ((rstS sh.wide (pcs f sh.over (lets (bs s))) xs xs.length)).length c3) rfl (by kernel_rfl) (by kernel_rfl) (by kernel_rfl) (fun _ _ _ h => h) (by kernel_rfl) (fun w' hw' => by kernel_rfl) hS ?_
      refine held_take 11 (.bool true) rfl (by kernel_rfl) (by kernel_rfl) (by kernel_rfl) (fun _ _ _ h => h) (by kernel_rfl) (fun w' hw' => by kernel_rfl) hS ?_
      refine held_done (by kernel_rfl) ?_
      simp only [Act.put, List.setIfInBounds_toArray, List.set_cons_succ, List.set_cons_zero]
      have hbel := below_step hb1 hS
      have y0 := hb1.size
      have yB := hB.size
      clear hb hS hb1 ho hcv
      go_wp2
      go_ret2
      exact ⟨A3, c3, rfl, below_step hB hbel, ho3.low (by omega)⟩
    · have HO := Lib.hid (show rstR f sh (bs s) xs = ([], 4) by unfold rstR; rw [if_pos HZ0.out, if_neg hok])
      have HOK := Lib.hid hok
      clear hok
      rw [HO.out]
      go_enter Tryd.func25, Tryd.ntmps25
      go_wp2_with (go_at_call 50; refine (shAsked_spec f n w.heap.size (w.heap.size + 1) sh s _ HF.out HN.out hm hs HS.out HA.out HB.out).mono ?_; rintro e w1 ⟨he, hb⟩; rw [← HC.out] at he; subst he; have hb1 := hb; clear hb)
      refine held_begin (w1.heap.size) (by kernel_rfl) ?_
      have hS := below_drewN (Below.refl (w1.heap.size) w1) 1
      refine held_take 0 (.string s) rfl (by kernel_rfl) (by kernel_rfl) (by kernel_rfl) (fun _ _ _ h => h) (by kernel_rfl) (fun w' hw' => by kernel_rfl) hS ?_
      refine held_take 2 (.slice Ax nx cx) rfl (by kernel_rfl) (by kernel_rfl) (by kernel_rfl) (fun _ _ _ h => h) (by kernel_rfl) (fun w' hw' => by kernel_rfl) hS ?_
      refine held_take 3 (.pointer (some ⟨w.heap.size + 1, 0, none⟩)) rfl (by kernel_rfl) (by kernel_rfl) (by kernel_rfl) (fun _ _ _ h => h) (by kernel_rfl) (fun w' hw' => by kernel_rfl) hS ?_
      refine held_take 4 (.int .i16 sh.wide) rfl (by kernel_rfl) (by kernel_rfl) (by kernel_rfl) (fun _ _ _ h => h) (by kernel_rfl) (fun w' hw' => exec_load1 27 (.tmp 23) rfl ⟨w.heap.size + 1, 0, none⟩ (by kernel_rfl) (.int .i16 sh.wide) (((HB.out.next hb1).next hw').cell 0 (.int .i16 sh.wide) rfl) _ Tryd.underlying27 rfl) hS ?_
      refine held_take 5 (.int .i64 sh.wide) rfl (by kernel_rfl) (by kernel_rfl) (by kernel_rfl) (fun _ _ _ h => h) (by kernel_rfl) (fun w' hw' => Eq.trans (show (execOp _ _).run _ w' = .ok (.value (.int .i64 (IntKind.i64.wrap sh.wide))) w' by kernel_rfl) (by rw [hcv])) hS ?_
      refine held_call 1 52 #[.pointer (some ⟨w.heap.size, 0, none⟩), .pointer (some ⟨w.heap.size + 1, 0, none⟩), .string s] rfl (by kernel_rfl) (by kernel_rfl) (by kernel_rfl) ?_
      refine (pieces_spec f n w.heap.size (w.heap.size + 1) sh s _ HF.out HVV.out HN.out hm hs HT.out HK.out (HA.out.next (below_step hb1 hS)) (HB.out.next (below_step hb1 hS))).mono ?_
      rintro e w1 ⟨A2, c2, rfl, hb, ho⟩
      have hS := below_step hS hb
      refine ⟨_, rfl, hS, ?_⟩
      have y1 := hS.size
      clear hb
      refine held_call 6 51 #[.slice A2 (pcs f sh.over (lets (bs s))).length c2, .slice Ax nx cx, .int .i64 sh.wide] rfl (by kernel_rfl) (by kernel_rfl) (by kernel_rfl) ?_
      refine ((rests_spec A2 Ax _ c2 nx cx (pcs f sh.over (lets (bs s))) xs sh.wide _ rfl HFACT.out.1 HXN.out hx20 HFACT.out.2.1 HFACT.out.2.2 ho.sl (HX.out.next (below_step hb1 hS))).mono fun e w' h => h.no HOK.out).mono ?_
      rintro e w1 ⟨A3, c3, ys, rfl, hb⟩
      have hS := below_step hS hb
      refine ⟨_, rfl, hS, ?_⟩
      refine held_take 7 (.tuple #[.slice A3 (ys).length c3, .bool false]) rfl (by kernel_rfl) (by kernel_rfl) (by kernel_rfl) (fun _ _ _ h => h) (by kernel_rfl) (fun w' hw' => by kernel_rfl) hS ?_
      refine held_take 8 (.slice A3 (ys).length c3) rfl (by kernel_rfl) (by kernel_rfl) (by kernel_rfl) (fun _ _ _ h => h) (by kernel_rfl) (fun w' hw' => by kernel_rfl) hS ?_
      refine held_take 9 (.bool false) rfl (by kernel_rfl) (by kernel_rfl) (by kernel_rfl) (fun _ _ _ h => h) (by kernel_rfl) (fun w' hw' => by kernel_rfl) hS ?_
      refine held_take 10 (.slice A3 (ys).length c3) rfl (by kernel_rfl) (by kernel_rfl) (by kernel_rfl) (fun _ _ _ h => h) (by kernel_rfl) (fun w' hw' => by kernel_rfl) hS ?_
      refine held_take 11 (.bool false) rfl (by kernel_rfl) (by kernel_rfl) (by kernel_rfl) (fun _ _ _ h => h) (by kernel_rfl) (fun w' hw' => by kernel_rfl) hS ?_
      refine held_done (by kernel_rfl) ?_
      simp only [Act.put, List.setIfInBounds_toArray, List.set_cons_succ, List.set_cons_zero]
      have hbel := below_step hb1 hS
      have y0 := hb1.size
      have yB := hB.size
      clear hb hS hb1 ho hcv
      go_wp2
      go_ret2
      exact ⟨_, _, rfl, (below_step hB hbel).alloc (below_step hB hbel).size _, OwnS.nil⟩
  · have HO := Lib.hid (show rstR f sh (bs s) xs = ([], shC f sh (bs s)) by unfold rstR; rw [if_neg (fun h => h0 (hcd.trans h))])
    rw [HO.out, ← HC.out]
    clear hcd hcv
    go_enter Tryd.func25, Tryd.ntmps25
    go_wp2_with (go_at_call 50; refine (shAsked_spec f n w.heap.size (w.heap.size + 1) sh s _ HF.out HN.out hm hs HS.out HA.out HB.out).mono ?_; rintro e w1 ⟨he, hb⟩; rw [← HC.out] at he; subst he; have hb1 := hb; clear hb)
    go_ret2
    exact ⟨_, _, rfl, (below_step hB hb1).alloc (below_step hB hb1).size _, OwnS.nil⟩

attribute [local irreducible] wpAnyH in
set_option maxHeartbeats 2000000 in
set_option maxRecDepth 100000 in
theorem checkSh_impl (f : Fc) (A Ax : Option Addr) (n c nx cx : Nat) (sh : Sh) (s : ByteArray) (xs : List Int) (w : World) (hf : FcT f) (hn : f.pairs.length = n) (hm : n ≤ 1048576) (hs : s.size ≤ 1048576) (hsh : ShT sh) (hxn : xs.length = nx) (hx20 : nx ≤ 1048576) (h : SlP w A f.pairs) (hmx : MaxW w) (hx : SlE i64 w Ax xs) :
    Calls Tryd.prog 24 #[.agg (fcV f (.slice A n c)).toArray, .agg (shV sh).toArray, .string s, .slice Ax nx cx] w fun e w' => e = .returned (.tuple #[.bool (chkR f sh (bs s) xs).1, .int .i64 (chkR f sh (bs s) xs).2]) ∧ Below w.heap.size w w' := by
  have hB := below_two w (.cells (fcV f (.slice A n c)).toArray 36) (.cells (shV sh).toArray 38)
  have hb1 := below_one (w.alloc (.cells (fcV f (.slice A n c)).toArray 36)) (.cells (shV sh).toArray 38)
  have hkf := (Blk.new w 36 (fcV f (.slice A n c))).next hb1
  have hsb := Blk.new (w.alloc (.cells (fcV f (.slice A n c)).toArray 36)) 38 (shV sh)
  rw [World.size_alloc] at hsb
  have hsl := h.next hB
  have hmx := hmx.next hB
  have HX := Lib.hid (hx.next hB)
  have HXN := Lib.hid hxn
  have HF := Lib.hid hf
  have HN := Lib.hid hn
  have HS := Lib.hid hsl
  have HM := Lib.hid hmx
  have HSH := Lib.hid hsh
  have HKF := Lib.hid hkf
  have HSB := Lib.hid hsb
  have hsz : (fcV f (.slice A n c)).toArray.size = 29 := by simp [fcV_length hf]
  have HZ := Lib.hid (show (Tryd.prog.info? 36).map (·.size) = some (fcV f (.slice A n c)).toArray.size by rw [hsz]; exact szFcI)
  have HZ2 := Lib.hid (show (Tryd.prog.info? 38).map (·.size) = some (shV sh).toArray.size from szSh)
  have c0 := hsb.cell 0 (.int .i16 sh.wide) rfl
  have c1 := hsb.cell 1 (.int .i8 sh.over) rfl
  clear hf hn h hmx hsl hsz hsb hb1 hsh hx hxn
  obtain ⟨cd, hcd⟩ : ∃ cd, cd = shC f sh (bs s) := ⟨_, rfl⟩
  have HC := Lib.hid hcd
  by_cases h0 : cd = 0
  · skip
    have hz := hcd.symm.trans h0
    obtain ⟨hv, hk, ht⟩ := shC_zero hz
    have HFACT := Lib.hid (pcs_facts hz)
    have HVV := Lib.hid (validF_iff.1 hv)
    have HK := Lib.hid hk
    have HT := Lib.hid ht
    have HZ0 := Lib.hid hz
    subst h0
    clear hv hk ht hcd hz
    have HO := Lib.hid (show chkR f sh (bs s) xs = (decide (rstOk sh.wide (pcs f sh.over (lets (bs s))) xs), 0) by unfold chkR; rw [if_pos HZ0.out])
    rw [HO.out]
    go_enter Tryd.func24, Tryd.ntmps24
    go_wp2_with (first
      | (refine wpList_load_row rfl 36 (.tmp 4) rfl _ rfl 36 (fcV f (.slice A n c)).toArray _ _ hkf Tryd.underlying36 rfl HZ.out ?_)
      | (go_at_call 53; refine (sheetCode_any f A n c sh s _ HF.out HN.out hm hs HSH.out HS.out HM.out).mono ?_; rintro e w1 ⟨he, hb⟩; rw [← HC.out] at he; subst he; have hb1 := hb; clear hb c0 c1; have hkf : True := trivial))
    refine held_begin (w1.heap.size) (by kernel_rfl) ?_
    have hS := below_drewN (Below.refl (w1.heap.size) w1) 1
    refine held_take 0 (.agg (shV sh).toArray) rfl (by kernel_rfl) (by kernel_rfl) (by kernel_rfl) (fun _ _ _ h => h) (by kernel_rfl) (fun w' hw' => exec_load_row 38 (.tmp 5) rfl (w.heap.size + 1) (by kernel_rfl) 38 (shV sh).toArray _ _ ((HSB.out.next hb1).next hw') Tryd.underlying38 rfl (HZ2.out)) hS ?_
    refine held_take 1 (.agg (shV sh).toArray) rfl (by kernel_rfl) (by kernel_rfl) (by kernel_rfl) (fun _ _ _ h => h) (by kernel_rfl) (fun w' hw' => exec_load_row 38 (.tmp 5) rfl (w.heap.size + 1) (by kernel_rfl) 38 (shV sh).toArray _ _ ((HSB.out.next hb1).next hw') Tryd.underlying38 rfl (HZ2.out)) hS ?_
    refine held_take 2 (.agg (fcV f (.slice A n c)).toArray) rfl (by kernel_rfl) (by kernel_rfl) (by kernel_rfl) (fun _ _ _ h => h) (by kernel_rfl) (fun w' hw' => exec_load_row 36 (.tmp 4) rfl (w.heap.size) (by kernel_rfl) 36 (fcV f (.slice A n c)).toArray _ _ ((HKF.out.next hb1).next hw') Tryd.underlying36 rfl (HZ.out)) hS ?_
    refine held_take 3 (.string s) rfl (by kernel_rfl) (by kernel_rfl) (by kernel_rfl) (fun _ _ _ h => h) (by kernel_rfl) (fun w' hw' => by kernel_rfl) hS ?_
    refine held_take 5 (.slice Ax nx cx) rfl (by kernel_rfl) (by kernel_rfl) (by kernel_rfl) (fun _ _ _ h => h) (by kernel_rfl) (fun w' hw' => by kernel_rfl) hS ?_
    refine held_call 4 55 #[.agg (shV sh).toArray, .agg (fcV f (.slice A n c)).toArray, .string s] rfl (by kernel_rfl) (by kernel_rfl) (by kernel_rfl) ?_
    refine (pieces_impl f A n c sh s _ HF.out HVV.out hs HT.out HK.out (HM.out.next (below_step hb1 hS))).mono ?_
    rintro e w1 ⟨A2, c2, rfl, hb, ho⟩
    have hS := below_step hS hb
    refine ⟨_, rfl, hS, ?_⟩
    have y1 := hS.size
    clear hb
    refine held_call 6 54 #[.agg (shV sh).toArray, .slice A2 (pcs f sh.over (lets (bs s))).length c2, .slice Ax nx cx] rfl (by kernel_rfl) (by kernel_rfl) (by kernel_rfl) ?_
    refine ((rests_impl A2 Ax _ c2 nx cx (pcs f sh.over (lets (bs s))) xs sh _ HSH.out rfl HFACT.out.1 HXN.out hx20 HFACT.out.2.1 HFACT.out.2.2 ho.sl (HX.out.next (below_step hb1 hS))).mono fun e w' h => h).mono ?_
    rintro e w1 ⟨A3, c3, ys, rfl, hb, ho3, hys⟩
    have hS := below_step hS hb
    refine ⟨_, rfl, hS, ?_⟩
    refine held_take 7 (.tuple #[.slice A3 (ys).length c3, .bool (decide (rstOk sh.wide (pcs f sh.over (lets (bs s))) xs))]) rfl (by kernel_rfl) (by kernel_rfl) (by kernel_rfl) (fun _ _ _ h => h) (by kernel_rfl) (fun w' hw' => by kernel_rfl) hS ?_
    refine held_take 8 (.slice A3 (ys).length c3) rfl (by kernel_rfl) (by kernel_rfl) (by kernel_rfl) (fun _ _ _ h => h) (by kernel_rfl) (fun w' hw' => by kernel_rfl) hS ?_
    refine held_take 9 (.bool (decide (rstOk sh.wide (pcs f sh.over (lets (bs s))) xs))) rfl (by kernel_rfl) (by kernel_rfl) (by kernel_rfl) (fun _ _ _ h => h) (by kernel_rfl) (fun w' hw' => by kernel_rfl) hS ?_
    refine held_take 10 (.slice A3 (ys).length c3) rfl (by kernel_rfl) (by kernel_rfl) (by kernel_rfl) (fun _ _ _ h => h) (by kernel_rfl) (fun w' hw' => by kernel_rfl) hS ?_
    refine held_take 11 (.bool (decide (rstOk sh.wide (pcs f sh.over (lets (bs s))) xs))) rfl (by kernel_rfl) (by kernel_rfl) (by kernel_rfl) (fun _ _ _ h => h) (by kernel_rfl) (fun w' hw' => by kernel_rfl) hS ?_
    refine held_done (by kernel_rfl) ?_
    simp only [Act.put, List.setIfInBounds_toArray, List.set_cons_succ, List.set_cons_zero]
    have hbel := below_step hb1 hS
    have y0 := hb1.size
    have yB := hB.size
    clear hb hS hb1 ho
    go_wp2
    go_ret2
    exact ⟨rfl, below_step hB hbel⟩
  · have HO := Lib.hid (show chkR f sh (bs s) xs = (false, shC f sh (bs s)) by unfold chkR; rw [if_neg (fun h => h0 (hcd.trans h))])
    rw [HO.out, ← HC.out]
    clear hcd
    go_enter Tryd.func24, Tryd.ntmps24
    go_wp2_with (first
      | (refine wpList_load_row rfl 36 (.tmp 4) rfl _ rfl 36 (fcV f (.slice A n c)).toArray _ _ hkf Tryd.underlying36 rfl HZ.out ?_)
      | (go_at_call 53; refine (sheetCode_any f A n c sh s _ HF.out HN.out hm hs HSH.out HS.out HM.out).mono ?_; rintro e w1 ⟨he, hb⟩; rw [← HC.out] at he; subst he; have hb1 := hb; clear hb c0 c1; have hkf : True := trivial))
    go_ret2
    exact ⟨rfl, below_step hB hb1⟩

attribute [local irreducible] wpAnyH in
set_option maxHeartbeats 2000000 in
set_option maxRecDepth 100000 in
theorem restsOf_impl (f : Fc) (A Ax : Option Addr) (n c nx cx : Nat) (sh : Sh) (s : ByteArray) (xs : List Int) (w : World) (hf : FcT f) (hn : f.pairs.length = n) (hm : n ≤ 1048576) (hs : s.size ≤ 1048576) (hsh : ShT sh) (hxn : xs.length = nx) (hx20 : nx ≤ 1048576) (h : SlP w A f.pairs) (hmx : MaxW w) (hx : SlE i64 w Ax xs) :
    Calls Tryd.prog 26 #[.agg (fcV f (.slice A n c)).toArray, .agg (shV sh).toArray, .string s, .slice Ax nx cx] w (LcOut w (rstR f sh (bs s) xs)) := by
  have hB := below_two w (.cells (fcV f (.slice A n c)).toArray 36) (.cells (shV sh).toArray 38)
  have hb1 := below_one (w.alloc (.cells (fcV f (.slice A n c)).toArray 36)) (.cells (shV sh).toArray 38)
  have hkf := (Blk.new w 36 (fcV f (.slice A n c))).next hb1
  have hsb := Blk.new (w.alloc (.cells (fcV f (.slice A n c)).toArray 36)) 38 (shV sh)
  rw [World.size_alloc] at hsb
  have hsl := h.next hB
  have hmx := hmx.next hB
  have HX := Lib.hid (hx.next hB)
  have HXN := Lib.hid hxn
  have HF := Lib.hid hf
  have HN := Lib.hid hn
  have HS := Lib.hid hsl
  have HM := Lib.hid hmx
  have HSH := Lib.hid hsh
  have HKF := Lib.hid hkf
  have HSB := Lib.hid hsb
  have hsz : (fcV f (.slice A n c)).toArray.size = 29 := by simp [fcV_length hf]
  have HZ := Lib.hid (show (Tryd.prog.info? 36).map (·.size) = some (fcV f (.slice A n c)).toArray.size by rw [hsz]; exact szFcI)
  have HZ2 := Lib.hid (show (Tryd.prog.info? 38).map (·.size) = some (shV sh).toArray.size from szSh)
  have c0 := hsb.cell 0 (.int .i16 sh.wide) rfl
  have c1 := hsb.cell 1 (.int .i8 sh.over) rfl
  clear hf hn h hmx hsl hsz hsb hb1 hsh hx hxn
  obtain ⟨cd, hcd⟩ : ∃ cd, cd = shC f sh (bs s) := ⟨_, rfl⟩
  have HC := Lib.hid hcd
  by_cases h0 : cd = 0
  · skip
    have hz := hcd.symm.trans h0
    obtain ⟨hv, hk, ht⟩ := shC_zero hz
    have HFACT := Lib.hid (pcs_facts hz)
    have HVV := Lib.hid (validF_iff.1 hv)
    have HK := Lib.hid hk
    have HT := Lib.hid ht
    have HZ0 := Lib.hid hz
    subst h0
    clear hv hk ht hcd hz
    by_cases hok : rstOk sh.wide (pcs f sh.over (lets (bs s))) xs
    · have HO := Lib.hid (show rstR f sh (bs s) xs = (rstS sh.wide (pcs f sh.over (lets (bs s))) xs xs.length, 0) by unfold rstR; rw [if_pos HZ0.out, if_pos hok])
      have HOK := Lib.hid hok
      clear hok
      rw [HO.out]
      go_enter Tryd.func26, Tryd.ntmps26
      go_wp2_with (first
        | (refine wpList_load_row rfl 36 (.tmp 4) rfl _ rfl 36 (fcV f (.slice A n c)).toArray _ _ hkf Tryd.underlying36 rfl HZ.out ?_)
        | (go_at_call 53; refine (sheetCode_any f A n c sh s _ HF.out HN.out hm hs HSH.out HS.out HM.out).mono ?_; rintro e w1 ⟨he, hb⟩; rw [← HC.out] at he; subst he; have hb1 := hb; clear hb c0 c1; have hkf : True := trivial))
      refine held_begin (w1.heap.size) (by kernel_rfl) ?_
      have hS := below_drewN (Below.refl (w1.heap.size) w1) 1
      refine held_take 0 (.agg (shV sh).toArray) rfl (by kernel_rfl) (by kernel_rfl) (by kernel_rfl) (fun _ _ _ h => h) (by kernel_rfl) (fun w' hw' => exec_load_row 38 (.tmp 5) rfl (w.heap.size + 1) (by kernel_rfl) 38 (shV sh).toArray _ _ ((HSB.out.next hb1).next hw') Tryd.underlying38 rfl (HZ2.out)) hS ?_
      refine held_take 1 (.agg (shV sh).toArray) rfl (by kernel_rfl) (by kernel_rfl) (by kernel_rfl) (fun _ _ _ h => h) (by kernel_rfl) (fun w' hw' => exec_load_row 38 (.tmp 5) rfl (w.heap.size + 1) (by kernel_rfl) 38 (shV sh).toArray _ _ ((HSB.out.next hb1).next hw') Tryd.underlying38 rfl (HZ2.out)) hS ?_
      refine held_take 2 (.agg (fcV f (.slice A n c)).toArray) rfl (by kernel_rfl) (by kernel_rfl) (by kernel_rfl) (fun _ _ _ h => h) (by kernel_rfl) (fun w' hw' => exec_load_row 36 (.tmp 4) rfl (w.heap.size) (by kernel_rfl) 36 (fcV f (.slice A n c)).toArray _ _ ((HKF.out.next hb1).next hw') Tryd.underlying36 rfl (HZ.out)) hS ?_
      refine held_take 3 (.string s) rfl (by kernel_rfl) (by kernel_rfl) (by kernel_rfl) (fun _ _ _ h => h) (by kernel_rfl) (fun w' hw' => by kernel_rfl) hS ?_
      refine held_take 5 (.slice Ax nx cx) rfl (by kernel_rfl) (by kernel_rfl) (by kernel_rfl) (fun _ _ _ h => h) (by kernel_rfl) (fun w' hw' => by kernel_rfl) hS ?_
      refine held_call 4 55 #[.agg (shV sh).toArray, .agg (fcV f (.slice A n c)).toArray, .string s] rfl (by kernel_rfl) (by kernel_rfl) (by kernel_rfl) ?_
      refine (pieces_impl f A n c sh s _ HF.out HVV.out hs HT.out HK.out (HM.out.next (below_step hb1 hS))).mono ?_
      rintro e w1 ⟨A2, c2, rfl, hb, ho⟩
      have hS := below_step hS hb
      refine ⟨_, rfl, hS, ?_⟩
      have y1 := hS.size
      clear hb
      refine held_call 6 54 #[.agg (shV sh).toArray, .slice A2 (pcs f sh.over (lets (bs s))).length c2, .slice Ax nx cx] rfl (by kernel_rfl) (by kernel_rfl) (by kernel_rfl) ?_
      refine ((rests_impl A2 Ax _ c2 nx cx (pcs f sh.over (lets (bs s))) xs sh _ HSH.out rfl HFACT.out.1 HXN.out hx20 HFACT.out.2.1 HFACT.out.2.2 ho.sl (HX.out.next (below_step hb1 hS))).mono fun e w' h => h.yes HOK.out).mono ?_
      rintro e w1 ⟨A3, c3, rfl, hb, ho3⟩
      have hS := below_step hS hb
      refine ⟨_, rfl, hS, ?_⟩
      refine held_take 7 (.tuple #[.slice A3 ((rstS sh.wide (pcs f sh.over (lets (bs s))) xs xs.length)).length c3, .bool true]) rfl (by kernel_rfl) (by kernel_rfl) (by kernel_rfl) (fun _ _ _ h => h) (by kernel_rfl) (fun w' hw' => by kernel_rfl) hS ?_
      refine held_take 8 (.slice A3 ((rstS sh.wide (pcs f sh.over (lets (bs s))) xs xs.length)).length c3) rfl (by kernel_rfl) (by kernel_rfl) (by kernel_rfl) (fun _ _ _ h => h) (by kernel_rfl) (fun w' hw' => by kernel_rfl) hS ?_
      refine held_take 9 (.bool true) rfl (by kernel_rfl) (by kernel_rfl) (by kernel_rfl) (fun _ _ _ h => h) (by kernel_rfl) (fun w' hw' => by kernel_rfl) hS ?_
      refine held_take 10 (.slice A3 ((rstS sh.wide (pcs f sh.over (lets (bs s))) xs xs.length)).length c3) rfl (by kernel_rfl) (by kernel_rfl) (by kernel_rfl) (fun _ _ _ h => h) (by kernel_rfl) (fun w' hw' => by kernel_rfl) hS ?_
      refine held_take 11 (.bool true) rfl (by kernel_rfl) (by kernel_rfl) (by kernel_rfl) (fun _ _ _ h => h) (by kernel_rfl) (fun w' hw' => by kernel_rfl) hS ?_
      refine held_done (by kernel_rfl) ?_
      simp only [Act.put, List.setIfInBounds_toArray, List.set_cons_succ, List.set_cons_zero]
      have hbel := below_step hb1 hS
      have y0 := hb1.size
      have yB := hB.size
      clear hb hS hb1 ho
      go_wp2
      go_ret2
      exact ⟨A3, c3, rfl, below_step hB hbel, ho3.low (by omega)⟩
    · have HO := Lib.hid (show rstR f sh (bs s) xs = ([], 4) by unfold rstR; rw [if_pos HZ0.out, if_neg hok])
      have HOK := Lib.hid hok
      clear hok
      rw [HO.out]
      go_enter Tryd.func26, Tryd.ntmps26
      go_wp2_with (first
        | (refine wpList_load_row rfl 36 (.tmp 4) rfl _ rfl 36 (fcV f (.slice A n c)).toArray _ _ hkf Tryd.underlying36 rfl HZ.out ?_)
        | (go_at_call 53; refine (sheetCode_any f A n c sh s _ HF.out HN.out hm hs HSH.out HS.out HM.out).mono ?_; rintro e w1 ⟨he, hb⟩; rw [← HC.out] at he; subst he; have hb1 := hb; clear hb c0 c1; have hkf : True := trivial))
      refine held_begin (w1.heap.size) (by kernel_rfl) ?_
      have hS := below_drewN (Below.refl (w1.heap.size) w1) 1
      refine held_take 0 (.agg (shV sh).toArray) rfl (by kernel_rfl) (by kernel_rfl) (by kernel_rfl) (fun _ _ _ h => h) (by kernel_rfl) (fun w' hw' => exec_load_row 38 (.tmp 5) rfl (w.heap.size + 1) (by kernel_rfl) 38 (shV sh).toArray _ _ ((HSB.out.next hb1).next hw') Tryd.underlying38 rfl (HZ2.out)) hS ?_
      refine held_take 1 (.agg (shV sh).toArray) rfl (by kernel_rfl) (by kernel_rfl) (by kernel_rfl) (fun _ _ _ h => h) (by kernel_rfl) (fun w' hw' => exec_load_row 38 (.tmp 5) rfl (w.heap.size + 1) (by kernel_rfl) 38 (shV sh).toArray _ _ ((HSB.out.next hb1).next hw') Tryd.underlying38 rfl (HZ2.out)) hS ?_
      refine held_take 2 (.agg (fcV f (.slice A n c)).toArray) rfl (by kernel_rfl) (by kernel_rfl) (by kernel_rfl) (fun _ _ _ h => h) (by kernel_rfl) (fun w' hw' => exec_load_row 36 (.tmp 4) rfl (w.heap.size) (by kernel_rfl) 36 (fcV f (.slice A n c)).toArray _ _ ((HKF.out.next hb1).next hw') Tryd.underlying36 rfl (HZ.out)) hS ?_
      refine held_take 3 (.string s) rfl (by kernel_rfl) (by kernel_rfl) (by kernel_rfl) (fun _ _ _ h => h) (by kernel_rfl) (fun w' hw' => by kernel_rfl) hS ?_
      refine held_take 5 (.slice Ax nx cx) rfl (by kernel_rfl) (by kernel_rfl) (by kernel_rfl) (fun _ _ _ h => h) (by kernel_rfl) (fun w' hw' => by kernel_rfl) hS ?_
      refine held_call 4 55 #[.agg (shV sh).toArray, .agg (fcV f (.slice A n c)).toArray, .string s] rfl (by kernel_rfl) (by kernel_rfl) (by kernel_rfl) ?_
      refine (pieces_impl f A n c sh s _ HF.out HVV.out hs HT.out HK.out (HM.out.next (below_step hb1 hS))).mono ?_
      rintro e w1 ⟨A2, c2, rfl, hb, ho⟩
      have hS := below_step hS hb
      refine ⟨_, rfl, hS, ?_⟩
      have y1 := hS.size
      clear hb
      refine held_call 6 54 #[.agg (shV sh).toArray, .slice A2 (pcs f sh.over (lets (bs s))).length c2, .slice Ax nx cx] rfl (by kernel_rfl) (by kernel_rfl) (by kernel_rfl) ?_
      refine ((rests_impl A2 Ax _ c2 nx cx (pcs f sh.over (lets (bs s))) xs sh _ HSH.out rfl HFACT.out.1 HXN.out hx20 HFACT.out.2.1 HFACT.out.2.2 ho.sl (HX.out.next (below_step hb1 hS))).mono fun e w' h => h.no HOK.out).mono ?_
      rintro e w1 ⟨A3, c3, ys, rfl, hb⟩
      have hS := below_step hS hb
      refine ⟨_, rfl, hS, ?_⟩
      refine held_take 7 (.tuple #[.slice A3 (ys).length c3, .bool false]) rfl (by kernel_rfl) (by kernel_rfl) (by kernel_rfl) (fun _ _ _ h => h) (by kernel_rfl) (fun w' hw' => by kernel_rfl) hS ?_
      refine held_take 8 (.slice A3 (ys).length c3) rfl (by kernel_rfl) (by kernel_rfl) (by kernel_rfl) (fun _ _ _ h => h) (by kernel_rfl) (fun w' hw' => by kernel_rfl) hS ?_
      refine held_take 9 (.bool false) rfl (by kernel_rfl) (by kernel_rfl) (by kernel_rfl) (fun _ _ _ h => h) (by kernel_rfl) (fun w' hw' => by kernel_rfl) hS ?_
      refine held_take 10 (.slice A3 (ys).length c3) rfl (by kernel_rfl) (by kernel_rfl) (by kernel_rfl) (fun _ _ _ h => h) (by kernel_rfl) (fun w' hw' => by kernel_rfl) hS ?_
      refine held_take 11 (.bool false) rfl (by kernel_rfl) (by kernel_rfl) (by kernel_rfl) (fun _ _ _ h => h) (by kernel_rfl) (fun w' hw' => by kernel_rfl) hS ?_
      refine held_done (by kernel_rfl) ?_
      simp only [Act.put, List.setIfInBounds_toArray, List.set_cons_succ, List.set_cons_zero]
      have hbel := below_step hb1 hS
      have y0 := hb1.size
      have yB := hB.size
      clear hb hS hb1 ho
      go_wp2
      go_ret2
      exact ⟨_, _, rfl, below_step hB hbel, OwnS.nil⟩
  · have HO := Lib.hid (show rstR f sh (bs s) xs = ([], shC f sh (bs s)) by unfold rstR; rw [if_neg (fun h => h0 (hcd.trans h))])
    rw [HO.out, ← HC.out]
    clear hcd
    go_enter Tryd.func26, Tryd.ntmps26
    go_wp2_with (first
      | (refine wpList_load_row rfl 36 (.tmp 4) rfl _ rfl 36 (fcV f (.slice A n c)).toArray _ _ hkf Tryd.underlying36 rfl HZ.out ?_)
      | (go_at_call 53; refine (sheetCode_any f A n c sh s _ HF.out HN.out hm hs HSH.out HS.out HM.out).mono ?_; rintro e w1 ⟨he, hb⟩; rw [← HC.out] at he; subst he; have hb1 := hb; clear hb c0 c1; have hkf : True := trivial))
    go_ret2
    exact ⟨_, _, rfl, below_step hB hb1, OwnS.nil⟩
end Go.Proofs.YtonnplaacebekaaDoor
