/- Contract: the letters that are kept with a shift, by the reference. -/
import Derived.Test.YtonnplaacebekaaGreatDoorKpS

namespace Go.Proofs.YtonnplaacebekaaGreatDoor
open Go Go.RowKit
set_option linter.unusedVariables false
set_option linter.unusedSimpArgs false

set_option maxHeartbeats 4000000 in
set_option maxRecDepth 100000 in
theorem kept_spec (f : Fc) (n b0 : Nat) (o s : ByteArray) (d : Int) (w : World) (hf : FcT f) (hV : FcV f) (hn : f.pairs.length = n) (hm : n ≤ 1048576) (hos : o.size ≤ 1048576) (hs : s.size ≤ 1048576) (ho : vText (bs o) = true) (ht : vText (bs s) = true) (hd : -400 ≤ d ∧ d ≤ 400) (h : FcAt w b0 f n) :
    Calls Tryz.prog 44 #[.pointer (some ⟨b0, 0, none⟩), .string o, .string s, .int .i64 d] w (NsOut w (kptR f (bs o) (bs s) d)) := by
  have HF := Lib.hid hf
  have HVV := Lib.hid hV
  have HN := Lib.hid hn
  have HW1 := Lib.hid (ws_words ho)
  have HW2 := Lib.hid (ws_words ht)
  have HP1 := Lib.hid (plcA_words f ho)
  have HP2 := Lib.hid (plcA_words f ht)
  have hown0 := own_empty w w.heap.size rfl w.heap.size 2 (Nat.le_refl _) 1
  have hB0 := below_one w (.cells #[] 2)
  have HA := Lib.hid (h.next hB0)
  have hz0 : (w.alloc (.cells #[] 2)).heap.size = w.heap.size + 1 := by simp
  have HR1 := Lib.hid (fun i hi => plW_bound hV (vText_ls ho) (vText_len60 ho) (i := i) hi)
  have HR2 := Lib.hid (fun i hi => plW_bound hV (vText_ls ht) (vText_len60 ht) (i := i) hi)
  have HL1 := Lib.hid (plW_len f (bs o))
  have HL2 := Lib.hid (plW_len f (bs s))
  have hx60 : (lets (bs o)).length ≤ 60 := Nat.le_trans (lets_length _) (vText_len60 ho)
  have hy60 : (lets (bs s)).length ≤ 60 := Nat.le_trans (lets_length _) (vText_len60 ht)
  obtain ⟨x, hx⟩ : ∃ x, x = lets (bs o) := ⟨_, rfl⟩
  obtain ⟨y, hy⟩ : ∃ y, y = lets (bs s) := ⟨_, rfl⟩
  obtain ⟨p, hp⟩ : ∃ p, p = plW f (bs o) (bs o).length := ⟨_, rfl⟩
  obtain ⟨q, hq⟩ : ∃ q, q = plW f (bs s) (bs s).length := ⟨_, rfl⟩
  have hR : kptR f (bs o) (bs s) d = kptN x y p q d y.length := by unfold kptR; rw [← hx, ← hy, ← hp, ← hq]
  rw [hR]
  have HPL0 := Lib.hid (show p.length = x.length by rw [hp, hx]; exact HL1.out)
  have HQL0 := Lib.hid (show q.length = y.length by rw [hq, hy]; exact HL2.out)
  have HPR0 := Lib.hid (show ∀ i, i < p.length → 0 ≤ rdI p i ∧ rdI p i < 3600 by rw [hp]; exact HR1.out)
  have HQR0 := Lib.hid (show ∀ i, i < q.length → 0 ≤ rdI q i ∧ rdI q i < 3600 by rw [hq]; exact HR2.out)
  rw [← hx] at hx60
  rw [← hy] at hy60
  have HX := Lib.hid hx
  have HY := Lib.hid hy
  have HPP := Lib.hid hp
  have HQQ := Lib.hid hq
  clear hf hV hn h ho ht hx hy hp hq hR
  go_enter Tryz.func44, Tryz.ntmps44
  go_wp2_with fail
  generalize w.alloc (.cells #[] 2) = w0 at *
  go_at_call 23
  refine (words_spec o _ hos).mono ?_
  rintro e w1 ⟨A1, c1, rfl, hc1, hb1, hsl1, hA1⟩
  go_wp2_with fail
  go_at_call 71
  refine (places_spec f n b0 A1 c1 (words (bs o)) w1 HF.out HVV.out HN.out hm HW1.out (HA.out.next hb1) hsl1).mono ?_
  rintro e w2 ⟨A2, c2, A2', c2', rfl, hb2, ho2, ho2'⟩
  rw [HP1.out] at ho2 ⊢
  have hB2 := below_step hb1 hb2
  have g1 := hb1.size
  have g2 := hb2.size
  clear hsl1 hA1 hc1 ho2' hb1 hb2
  go_wp2_with fail
  go_at_call 23
  refine (words_spec s _ hs).mono ?_
  rintro e w3 ⟨A3, c3, rfl, hc3, hb3, hsl3, hA3⟩
  have ho2 := ho2.next hb3
  have hB3 := below_step hB2 hb3
  go_wp2_with fail
  go_at_call 71
  refine (places_spec f n b0 A3 c3 (words (bs s)) w3 HF.out HVV.out HN.out hm HW2.out (HA.out.next hB3) hsl3).mono ?_
  rintro e w4 ⟨A4, c4, A4', c4', rfl, hb4, ho4, ho4'⟩
  rw [HP2.out] at ho4 ⊢
  have ho2 := ho2.next hb4
  have hB4 := below_step hB3 hb4
  have g3 := hb3.size
  have g4 := hb4.size
  clear hsl3 hA3 hc3 ho4' hb3 hb4 hB2 hB3
  go_wp2_with fail
  go_at_call 45
  refine (letters_spec o _ hos).mono ?_
  rintro e w5 ⟨A5, c5, rfl, hb5, ho5⟩
  have ho2 := ho2.next hb5
  have ho4 := ho4.next hb5
  have hB5 := below_step hB4 hb5
  have g5 := hb5.size
  clear hb5 hB4
  go_wp2_with fail
  go_at_call 45
  refine (letters_spec s _ hs).mono ?_
  rintro e w6 ⟨A6, c6, rfl, hb6, ho6⟩
  have ho2 := ho2.next hb6
  have ho4 := ho4.next hb6
  have ho5 := ho5.next hb6
  have hB6 := below_step hB5 hb6
  have g6 := hb6.size
  clear hb6 hB5
  have hown := own_next hown0 hB6
  have hBW := below_step hB0 hB6
  have hpl := HPL0.out
  have hql := HQL0.out
  have hpr := HPR0.out
  have hqr := HQR0.out
  rw [← HX.out] at ho5 ⊢
  rw [← HY.out] at ho6 ⊢
  rw [← HPP.out] at ho2 ⊢
  rw [← HQQ.out] at ho4 ⊢
  have hgr : GrO w w6 w6 2 w.heap.size (.slice (some ⟨w.heap.size, 0, none⟩) 0 0) [] := ⟨hown, grown_refl _ _, .inl rfl, hBW⟩
  have HO2 := Lib.hid (show OwnX 2 i64 w6 _ _ A2 p from ho2)
  have HO4 := Lib.hid (show OwnX 2 i64 w6 _ _ A4 q from ho4)
  have HO5 := Lib.hid ho5
  have HO6 := Lib.hid ho6
  have HPL := Lib.hid hpl
  have HQL := Lib.hid hql
  clear hown hBW hown0 hB0 ho2 ho4 ho5 ho6 hB6 hpl hql
  go_wp2
  have l1 : w.heap.size < w1.heap.size := by omega
  have l3 : w.heap.size < w3.heap.size := by omega
  have l4 : w.heap.size < w4.heap.size := by omega
  have l5 : w.heap.size < w5.heap.size := by omega
  clear g1 g2 g3 g4 g5 g6 hz0
  go_loopw [9, 16] (fun v i wr => ∃ k : Nat, k ≤ y.length ∧ i = .int .i64 k ∧ GrO w w6 wr 2 w.heap.size v ((kptN x y p q d k).map i64)) (fun _ i _ => y.length - (intOf i).toNat)
  case atStart => exact ⟨0, by omega, rfl, hgr⟩
  clear hgr
  case round =>
    obtain ⟨k, hk, rfl, h⟩ := hrel
    by_cases hlt : k < y.length
    · have s2 := h.keep HO2.out l1
      have s4 := h.keep HO4.out l3
      have s5 := h.keep HO5.out l4
      have s6 := h.keep HO6.out l5
      obtain ⟨a4, rfl, r4⟩ := s4.some k (by rw [HQL.out]; exact hlt)
      obtain ⟨a6, rfl, r6⟩ := s6.some k hlt
      have hqk := hqr k (by rw [HQL.out]; exact hlt)
      have hwr : IntKind.i64.wrap (rdI q k + d) = rdI q k + d := IntWalk.i64_in _ (by omega)
      have H := Lib.hid h
      have HS2 := Lib.hid s2
      have HS5 := Lib.hid s5
      have R4 := Lib.hid r4
      have R6 := Lib.hid r6
      clear h s2 s4 s5 s6 r4 r6
      go_wp2
      rename World => wo
      go_loopw [17, 18] (fun b j wi => ∃ m : Nat, m ≤ x.length ∧ j = .int .i64 m ∧ b = .bool (kbN x y p q d k m) ∧ Below wo.heap.size wo wi) (fun _ j _ => x.length - (intOf j).toNat)
      case atStart => exact ⟨0, Nat.zero_le _, rfl, rfl, Below.refl _ _⟩
      case round =>
        obtain ⟨m, hm2, rfl, rfl, hwi⟩ := hrel
        by_cases hlm : m < x.length
        · obtain ⟨a2, rfl, r2⟩ := (HS2.out.next hwi).some m (by rw [HPL.out]; exact hlm)
          obtain ⟨a5, rfl, r5⟩ := (HS5.out.next hwi).some m hlm
          have hc2 := r2.atI64 m (by rw [HPL.out]; exact hlm)
          have hc5 := r5.atB m hlm
          have hpm : m < p.length := by rw [HPL.out]; exact hlm
          have hqm : k < q.length := by rw [HQL.out]; exact hlt
          have hc4 : (World.cell? wr (a4.add k)) = some (.int .i64 (rdI q k)) := ((show SlE i64 wo (some a4) q from SlE.of_row R4.out).next hwi).some k hqm |> fun ⟨a, e, r⟩ => by cases e; exact r.atI64 k hqm
          have hc6 : (World.cell? wr (a6.add k)) = some (.int .u8 (byt y k)) := ((show SlE bv wo (some a6) y from SlE.of_row R6.out).next hwi).some k hlt |> fun ⟨a, e, r⟩ => by cases e; exact r.atB k hlt
          have hwi1 := below_drewN hwi 1
          clear r2 r5
          cases hkb : kbN x y p q d k m
          · cases hbq : (byt x m == byt y k)
            · have HV := Lib.hid (show kbN x y p q d k (m + 1) = false by rw [kbN, hkb, hbq]; rfl)
              clear hkb
              go_wp2
              go_region
              go_wp2
              go_roundw
              case rel => exact ⟨m + 1, by omega, by go_num, by rw [HV.out], hwi1⟩
              case measure => simp [intOf]; omega
            · have HV := Lib.hid (show kbN x y p q d k (m + 1) = (rdI p m == rdI q k + d) by rw [kbN, hkb, hbq]; rfl)
              clear hkb
              go_wp2
              go_region
              go_wp2
              go_roundw
              case rel => exact ⟨m + 1, by omega, by go_num, by rw [HV.out], hwi1⟩
              case measure => simp [intOf]; omega
          · have HV := Lib.hid (show kbN x y p q d k (m + 1) = true by rw [kbN, hkb]; rfl)
            clear hkb
            go_wp2
            go_region
            go_wp2
            go_roundw
            case rel => exact ⟨m + 1, by omega, by go_num, by rw [HV.out], hwi1⟩
            case measure => simp [intOf]; omega
        · obtain rfl : m = x.length := by omega
          have h2 := H.out.next hwi
          have hown := h2.own
          have hsz := h2.below.size
          have hkl := kptN_length x y p q d k
          have H2 := Lib.hid h2
          clear h2
          cases hkb : kbN x y p q d k x.length
          · have HV := Lib.hid (kptN_no hkb)
            clear hkb
            go_wp2
            go_roundw
            case rel => exact ⟨k + 1, by omega, by go_num, by rw [HV.out]; exact H2.out⟩
            case measure => simp [intOf]; omega
          · have HV := Lib.hid (kptN_yes hkb)
            clear hkb
            rw [List.length_map] at hown
            go_wp2_with (at_builtin; refine wpList_app1B rfl (.tmp 76) (.tmp 78) _ rfl elI wr w.heap.size u9 (kptN x y p q d k).length _ rfl hown (.int .i64 k) _ rfl rfl rfl (by unfold maxLen; omega) (by omega) hsz ?_; intro v' w' ho' hg' hwh)
            go_roundw
            case rel =>
              refine ⟨k + 1, by omega, by go_num, ?_⟩
              rw [HV.out, List.map_append]
              exact H2.out.put (by rw [List.length_map]; exact ho') hg' hwh
            case measure => simp [intOf]; omega
    · obtain rfl : k = y.length := by omega
      have hown := h.own
      have hbel := h.below
      clear h
      go_wp2
      go_ret
      obtain ⟨A', c', rfl, hl, ho⟩ := OwnS.of_own hown
      exact ⟨A', c', rfl, hbel, ho⟩
end Go.Proofs.YtonnplaacebekaaGreatDoor
