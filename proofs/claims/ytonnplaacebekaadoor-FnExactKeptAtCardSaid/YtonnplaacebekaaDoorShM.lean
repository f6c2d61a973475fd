/- Contracts: pieces, by the reference. -/
import Derived.Test.YtonnplaacebekaaDoorShL
import Derived.Test.YtonnplaacebekaaDoorGG
import Derived.Test.YtonnplaacebekaaDoorGH
import Derived.Test.YtonnplaacebekaaDoorGA


namespace Go.Proofs.YtonnplaacebekaaDoor
open Go Go.RowKit
set_option linter.unusedVariables false
set_option linter.unusedSimpArgs false

theorem take_snocI {l : List Int} {k : Nat} (h : k < l.length) : l.take (k + 1) = l.take k ++ [rdI l k] := by
  rw [List.take_add_one, List.getElem?_eq_getElem h]
  unfold rdI
  rw [List.getD, List.getElem?_eq_getElem h]
  rfl
theorem OwnS.low {w : World} {lo lo' hi : Nat} {A : Option Addr} {xs : List Int} (h : OwnS w lo hi A xs) (hl : lo' ≤ lo) : OwnS w lo' hi A xs := fun hn => by
  obtain ⟨g, cs, e, h1, h2, h3⟩ := h hn
  exact ⟨g, cs, e, by omega, h2, h3⟩
theorem rowI_cell {w : World} {a : Addr} {xs : List Int} (h : SlE i64 w (some a) xs) (k : Nat) (hk : k < xs.length) : w.cell? (a.add k) = some (.int .i64 (rdI xs k)) := by
  obtain ⟨a', e, hr⟩ := h.some k hk
  obtain rfl := Option.some.inj e
  exact hr.atI64 k hk
theorem shOk_iff {s : Sh} : shOk s = true ↔ (1 ≤ s.wide ∧ s.wide ≤ 400) ∧ 0 ≤ s.over ∧ s.over ≤ 5 := by
  unfold shOk inB
  simp
theorem wds_text (f : Fc) {l : List UInt8} (h : vText l = true) : wdsA f (words l) (words l).length = (lets l).map fun b => letW f (b.toNat : Int) := by
  rw [wdsA_all f (fun x hx => (words_isW h x hx).1), joinW_words]

attribute [local irreducible] wpAnyH in
set_option maxHeartbeats 2000000 in
set_option maxRecDepth 100000 in
theorem pieces_spec (f : Fc) (n b0 b : Nat) (sh : Sh) (s : ByteArray) (w : World) (hf : FcT f) (hV : FcV f) (hn : f.pairs.length = n) (hm : n ≤ 1048576) (hs : s.size ≤ 1048576) (ht : vText (bs s) = true) (hk : shOk sh = true) (h : FcAt w b0 f n) (hb : Blk w b 38 (shV sh)) :
    Calls Tryd.prog 52 #[.pointer (some ⟨b0, 0, none⟩), .pointer (some ⟨b, 0, none⟩), .string s] w (NsOut w (pcs f sh.over (lets (bs s)))) := by
  have HF := Lib.hid hf
  have HVV := Lib.hid hV
  have HN := Lib.hid hn
  have HA := Lib.hid h
  have HB := Lib.hid hb
  have HW := Lib.hid (ws_words ht)
  have HD := Lib.hid (wds_text f ht)
  have hov := (shOk_iff.1 hk).2
  have HLL := Lib.hid (lets_ll (vText_ls ht))
  clear hf hV hn h hb hk ht
  go_enter Tryd.func52, Tryd.ntmps52
  go_wp2_with (first
    | (go_at_call 81; refine (words_spec s _ hs).mono ?_; rintro e w1 ⟨A1, c1, rfl, hc1, hb1, hsl, hA1⟩)
    | (go_at_call 80; refine (places_spec f n b0 A1 c1 (words (bs s)) w1 HF.out HVV.out HN.out hm HW.out (HA.out.next hb1) hsl).mono ?_; rintro e w2 ⟨A2, c2, A3, c3, rfl, hb2, ho2, ho3⟩))
  obtain ⟨D, hD⟩ : ∃ D, D = pcs f sh.over (lets (bs s)) := ⟨_, rfl⟩
  obtain ⟨E, hE⟩ : ∃ E, E = wdsA f (words (bs s)) (words (bs s)).length := ⟨_, rfl⟩
  have HDD := Lib.hid hD
  rw [← hE] at ho3 ⊢
  have hDl : D.length ≤ 1048576 := by
    have := lets_length (bs s)
    rw [bs_length] at this
    rw [hD, pcs_length]; omega
  have hlen : D.length = E.length := by rw [hD, hE, HD.out, pcs_length, List.length_map]
  have hval : ∀ k, k < E.length → rdI D k = rdI E k + 2 * sh.over ∧ 0 ≤ rdI E k ∧ rdI E k ≤ 50 := by
    intro k hk
    have hk' : k < (lets (bs s)).length := by rw [hE, HD.out, List.length_map] at hk; exact hk
    have e1 : rdI D k = letW f (byt (lets (bs s)) k) + 2 * sh.over := by rw [hD]; exact rdI_pcs f _ _ hk'
    have e2 : rdI E k = letW f (byt (lets (bs s)) k) := by
      rw [hE, HD.out]; unfold rdI
      rw [List.getD, List.getElem?_map, List.getElem?_eq_getElem hk', byt_get hk']; rfl
    have := letW_range HVV.out (HLL.out k hk')
    omega
  have hB0 := below_step hb1 hb2
  have HO3 := Lib.hid ho3
  have HB2 := Lib.hid (HB.out.next hB0)
  have HBEL := Lib.hid hB0
  have hWs := hB0.size
  clear hb1 hb2 ho2 ho3 hsl hA1 hc1 hD hE
  go_loopw [9, 10] (fun v i wr => ∃ k : Nat, k ≤ E.length ∧ i = .int .i64 k ∧ wr.ownsRow w2.heap.size 2 1 v (D.take k).length ((D.take k).map i64) ∧ Below w2.heap.size w2 wr) (fun _ i _ => E.length - (intOf i).toNat)
  case atStart => exact ⟨0, by omega, rfl, own_empty _ _ rfl _ _ (Nat.le_refl _) 1, below_one _ _⟩
  case round =>
    obtain ⟨k, hk, rfl, hown, hbel⟩ := hrel
    have hsz := hbel.size
    by_cases hlt : k < E.length
    · obtain ⟨a, rfl, hrow⟩ := (HO3.out.next hbel).sl.some k hlt
      have hcell := hrow.atI64 k hlt
      have hcov := (HB2.out.next hbel).cell 1 (.int .i8 sh.over) rfl
      have hv := hval k hlt
      have hkl : (D.take k).length = k := by rw [List.length_take]; omega
      have hTS := Lib.hid (take_snocI (l := D) (k := k) (by omega))
      have hcv : IntKind.i64.wrap sh.over = sh.over := IntWalk.i64_in _ (by omega)
      have hmul : IntKind.i64.wrap (2 * sh.over) = 2 * sh.over := IntWalk.i64_in _ (by omega)
      have hadd : IntKind.i64.wrap (rdI E k + 2 * sh.over) = rdI D k := by rw [IntWalk.i64_in _ (by omega)]; omega
      have HROW := Lib.hid hrow
      clear hrow
      go_wp2
      refine held_begin (w2.heap.size) (by kernel_rfl) ?_
      have hS := below_drewN (Below.refl (w2.heap.size) wr) 1
      refine held_take 0 (u9) rfl (by kernel_rfl) (by kernel_rfl) (by kernel_rfl) (fun _ _ _ h => h) (by kernel_rfl) (fun w' hw' => by kernel_rfl) hS ?_
      refine held_take 1 (.slice (some a) E.length c3) rfl (by kernel_rfl) (by kernel_rfl) (by kernel_rfl) (fun _ _ _ h => h) (by kernel_rfl) (fun w' hw' => by kernel_rfl) hS ?_
      refine held_take 2 (.int .i64 k) rfl (by kernel_rfl) (by kernel_rfl) (by kernel_rfl) (fun _ _ _ h => h) (by kernel_rfl) (fun w' hw' => by kernel_rfl) hS ?_
      refine held_take 3 (.pointer (some (Addr.add a (k * 1)))) rfl (by kernel_rfl) (by kernel_rfl) (by kernel_rfl) (fun _ _ _ h => h) (by kernel_rfl) (fun w' hw' => exec_index 31 (.tmp 26) (.tmp 27) rfl a E.length c3 (by kernel_rfl) .i64 k (by kernel_rfl) hlt 2 Tryd.underlying31 1 (by kernel_rfl)) hS ?_
      refine held_take 4 (.int .i64 (rdI E k)) rfl (by kernel_rfl) (by kernel_rfl) (by kernel_rfl) (fun _ _ _ h => h) (by kernel_rfl) (fun w' hw' => exec_load1 2 (.tmp 28) rfl (a.add (k * 1)) (by kernel_rfl) (.int .i64 (rdI E k)) (by rw [Nat.mul_one]; exact rowI_cell (HO3.out.next (hbel.trans hw')).sl k hlt) _ Tryd.underlying2 rfl) hS ?_
      refine held_take 5 (.pointer (some ⟨b, 0, none⟩)) rfl (by kernel_rfl) (by kernel_rfl) (by kernel_rfl) (fun _ _ _ h => h) (by kernel_rfl) (fun w' hw' => by kernel_rfl) hS ?_
      refine held_take 6 (.pointer (some ⟨b, 0, none⟩)) rfl (by kernel_rfl) (by kernel_rfl) (by kernel_rfl) (fun _ _ _ h => h) (by kernel_rfl) (fun w' hw' => by kernel_rfl) hS ?_
      refine held_take 7 (.pointer (some ⟨b, 1, none⟩)) rfl (by kernel_rfl) (by kernel_rfl) (by kernel_rfl) (fun _ _ _ h => h) (by kernel_rfl) (fun w' hw' => by kernel_rfl) hS ?_
      refine held_take 8 (.int .i8 sh.over) rfl (by kernel_rfl) (by kernel_rfl) (by kernel_rfl) (fun _ _ _ h => h) (by kernel_rfl) (fun w' hw' => exec_load1 22 (.tmp 32) rfl ⟨b, 1, none⟩ (by kernel_rfl) (.int .i8 sh.over) ((HB2.out.next (hbel.trans hw')).cell 1 (.int .i8 sh.over) rfl) _ Tryd.underlying22 rfl) hS ?_
      refine held_take 9 (.int .i64 sh.over) rfl (by kernel_rfl) (by kernel_rfl) (by kernel_rfl) (fun _ _ _ h => h) (by kernel_rfl) (fun w' hw' => Eq.trans (show (execOp _ _).run _ w' = .ok (.value (.int .i64 (IntKind.i64.wrap sh.over))) w' by kernel_rfl) (by rw [hcv])) hS ?_
      refine held_take 10 (.int .i64 (2 * sh.over)) rfl (by kernel_rfl) (by kernel_rfl) (by kernel_rfl) (fun _ _ _ h => h) (by kernel_rfl) (fun w' hw' => Eq.trans (show (execOp _ _).run _ w' = .ok (.value (.int .i64 (IntKind.i64.wrap (2 * sh.over)))) w' by kernel_rfl) (by rw [hmul])) hS ?_
      refine held_take 11 (.int .i64 (rdI D k)) rfl (by kernel_rfl) (by kernel_rfl) (by kernel_rfl) (fun _ _ _ h => h) (by kernel_rfl) (fun w' hw' => Eq.trans (show (execOp _ _).run _ w' = .ok (.value (.int .i64 (IntKind.i64.wrap (rdI E k + 2 * sh.over)))) w' by kernel_rfl) (by rw [hadd])) hS ?_
      refine held_val 12 (.slice (some ⟨wr.drew.heap.size, 0, none⟩) 1 1) (wr.drew.alloc (.cells #[.int .i64 (rdI D k)] 2)) rfl (by kernel_rfl) (by kernel_rfl) (by kernel_rfl) (hS.alloc (by exact hsz) _) ?_
      refine held_app1 13 (.tmp 25) (.tmp 37) 31 rfl (by kernel_rfl) (by kernel_rfl) rfl elI wr.drew (w2.heap.size) u9 ((D.take k).length) ((D.take k).map i64) (by kernel_rfl) hown (.int .i64 (rdI D k)) (by kernel_rfl) rfl (by unfold maxLen; omega) (by omega) (hsz) (Nat.le_refl _) hS ?_
      intro v' w' ho' hg' hS'
      have hS := hS'
      refine held_take 14 (v') rfl (by kernel_rfl) (by kernel_rfl) (by kernel_rfl) (fun _ _ _ h => h) (by kernel_rfl) (fun w' hw' => by kernel_rfl) hS ?_
      refine held_done (by kernel_rfl) ?_
      simp only [Act.put, List.setIfInBounds_toArray, List.set_cons_succ, List.set_cons_zero]
      have hbel := hbel.trans hS
      clear hS hS' hg' hadd hcv hmul
      go_wp2
      go_roundw
      case rel =>
        refine ⟨k + 1, by omega, by go_num, ?_, hbel⟩
        rw [take_snocI (l := D) (k := k) (by omega), List.length_append, List.map_append]
        exact ho'
      case measure => simp [intOf]; omega
    · obtain rfl : k = E.length := by omega
      have HT := Lib.hid (show D.take E.length = D by rw [← hlen, List.take_length])
      go_wp2
      go_ret
      obtain ⟨A', c', rfl, hl, ho⟩ := OwnS.of_own hown
      rw [HT.out] at ho hl ⊢
      rw [← HDD.out]
      exact ⟨A', c', rfl, below_step HBEL.out hbel, ho.low hWs⟩
end Go.Proofs.YtonnplaacebekaaDoor
