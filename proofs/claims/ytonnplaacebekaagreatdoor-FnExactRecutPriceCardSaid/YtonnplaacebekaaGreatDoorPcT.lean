/- Contracts: what letters and texts cost, words joined, by the reference. -/
import Derived.Test.YtonnplaacebekaaGreatDoorPcS

namespace Go.Proofs.YtonnplaacebekaaGreatDoor
open Go Go.RowKit
set_option linter.unusedVariables false
set_option linter.unusedSimpArgs false

theorem szI16 : (Tryz.prog.info? 27).map (·.size) = some 1 := by kernel_rfl
theorem szI8 : (Tryz.prog.info? 22).map (·.size) = some 1 := by kernel_rfl

attribute [local irreducible] wpQuiet in
set_option maxHeartbeats 1000000 in
set_option maxRecDepth 100000 in
theorem costL_spec (f : Fc) (p : Pc) (n b0 b : Nat) (x : Int) (w : World) (hf : FcT f) (hp : PcT p) (hV : FcV f) (hP : PcV p) (hx : isLet x = true) (h : FcAt w b0 f n) (hb : Blk w b 38 (pcV p)) :
    Calls Tryz.prog 47 #[.pointer (some ⟨b0, 0, none⟩), .pointer (some ⟨b, 0, none⟩), .int .u8 x] w fun e w' => e = .returned (.int .i64 (letP f p x)) ∧ Below w.heap.size w w' := by
  obtain ⟨A, c, hk, hs⟩ := h
  have hr := letP_range hV hP hx
  have hlt := isLet_iff.1 hx
  obtain ⟨k, hk0⟩ : ∃ k, k = (x - 65).toNat := ⟨_, rfl⟩
  have hN : k < 26 := by omega
  have hsub : IntKind.u8.wrap (x - 65) = ((k : Nat) : Int) := by rw [IntWalk.u8_in _ (by omega)]; omega
  have h1 := hp.lett k hN
  have h2 := hf.wide k hN
  have h3 := hp.gold
  have hc1 : IntKind.i64.wrap (rdI p.lett k) = rdI p.lett k := IntWalk.i64_in _ (by omega)
  have hc2 : IntKind.i64.wrap p.gold = p.gold := IntWalk.i64_in _ (by omega)
  have hc3 : IntKind.i64.wrap (rdI f.wide k) = rdI f.wide k := IntWalk.i64_in _ (by omega)
  have hE : letP f p x = rdI p.lett k + p.gold * rdI f.wide k := by unfold letP letW; rw [← hk0]
  have hW : letW f x = rdI f.wide k := by unfold letW; rw [← hk0]
  rw [hW, hE] at hr
  rw [hE]
  have hmul : IntKind.i64.wrap (p.gold * rdI f.wide k) = p.gold * rdI f.wide k := IntWalk.i64_in _ (by omega)
  have hadd : IntKind.i64.wrap (rdI p.lett k + p.gold * rdI f.wide k) = rdI p.lett k + p.gold * rdI f.wide k := IntWalk.i64_in _ (by omega)
  have HK := Lib.hid hk
  have HB := Lib.hid hb
  have HF := Lib.hid hf
  have HP := Lib.hid hp
  clear hk hb hf hp hE hW hk0 h1 h2 h3 hr hV hP hs
  go_enter Tryz.func47, Tryz.ntmps47
  go_wp2
  refine region_below (w.heap.size) (by kernel_rfl) (by kernel_rfl) ?_
  refine below_run (by kernel_rfl) (.pointer (some ⟨b, 0, none⟩)) (fun w' hw' => by kernel_rfl) ?_
  refine below_run (by kernel_rfl) (.int .u8 x) (fun w' hw' => by kernel_rfl) ?_
  refine below_run (by kernel_rfl) (.int .u8 (k : Nat)) (fun w' hw' => Eq.trans (show (execOp _ _).run _ w' = .ok (.value (.int .u8 (IntKind.u8.wrap (x - 65)))) w' by kernel_rfl) (by rw [hsub])) ?_
  refine below_run (by kernel_rfl) (.pointer (some ⟨b, 0, none⟩)) (fun w' hw' => by kernel_rfl) ?_
  refine below_run (by kernel_rfl) (.pointer (some ⟨b, 0, none⟩)) (fun w' hw' => by kernel_rfl) ?_
  refine below_run (by kernel_rfl) (.pointer (some (Addr.add ⟨b, 0, none⟩ (k * 1)))) (fun w' hw' => exec_indexA 28 (.tmp 11) (.tmp 9) rfl ⟨b, 0, none⟩ (by kernel_rfl) .u8 k (by kernel_rfl) 26 hN 27 Tryz.underlying28 1 szI16) ?_
  refine below_run (by kernel_rfl) (.int .i16 (rdI p.lett k)) (fun w' hw' => exec_load1 27 (.tmp 12) rfl (Addr.add ⟨b, 0, none⟩ (k * 1)) (by kernel_rfl) (.int .i16 (rdI p.lett k)) (by rw [add_mid, Nat.mul_one, Nat.zero_add]; exact (HB.out.next hw').cell k _ (pcV_lett HP.out k hN)) _ Tryz.underlying27 rfl) ?_
  refine below_run (by kernel_rfl) (.int .i64 (rdI p.lett k)) (fun w' hw' => Eq.trans (show (execOp _ _).run _ w' = .ok (.value (.int .i64 (IntKind.i64.wrap (rdI p.lett k)))) w' by kernel_rfl) (by rw [hc1])) ?_
  refine below_run (by kernel_rfl) (.pointer (some ⟨b, 0, none⟩)) (fun w' hw' => by kernel_rfl) ?_
  refine below_run (by kernel_rfl) (.pointer (some ⟨b, 0, none⟩)) (fun w' hw' => by kernel_rfl) ?_
  refine below_run (by kernel_rfl) (.pointer (some ⟨b, 26, none⟩)) (fun w' hw' => by kernel_rfl) ?_
  refine below_run (by kernel_rfl) (.int .i16 p.gold) (fun w' hw' => exec_load1 27 (.tmp 17) rfl ⟨b, 26, none⟩ (by kernel_rfl) (.int .i16 p.gold) ((HB.out.next hw').cell 26 _ (pcV_gold HP.out)) _ Tryz.underlying27 rfl) ?_
  refine below_run (by kernel_rfl) (.int .i64 p.gold) (fun w' hw' => Eq.trans (show (execOp _ _).run _ w' = .ok (.value (.int .i64 (IntKind.i64.wrap p.gold))) w' by kernel_rfl) (by rw [hc2])) ?_
  refine below_run (by kernel_rfl) (.pointer (some ⟨b0, 0, none⟩)) (fun w' hw' => by kernel_rfl) ?_
  refine below_run (by kernel_rfl) (.int .u8 x) (fun w' hw' => by kernel_rfl) ?_
  refine below_run (by kernel_rfl) (.int .u8 (k : Nat)) (fun w' hw' => Eq.trans (show (execOp _ _).run _ w' = .ok (.value (.int .u8 (IntKind.u8.wrap (x - 65)))) w' by kernel_rfl) (by rw [hsub])) ?_
  refine below_run (by kernel_rfl) (.pointer (some ⟨b0, 0, none⟩)) (fun w' hw' => by kernel_rfl) ?_
  refine below_run (by kernel_rfl) (.pointer (some ⟨b0, 0, none⟩)) (fun w' hw' => by kernel_rfl) ?_
  refine below_run (by kernel_rfl) (.pointer (some (Addr.add ⟨b0, 0, none⟩ (k * 1)))) (fun w' hw' => exec_indexA 23 (.tmp 24) (.tmp 22) rfl ⟨b0, 0, none⟩ (by kernel_rfl) .u8 k (by kernel_rfl) 26 hN 22 Tryz.underlying23 1 szI8) ?_
  refine below_run (by kernel_rfl) (.int .i8 (rdI f.wide k)) (fun w' hw' => exec_load1 22 (.tmp 25) rfl (Addr.add ⟨b0, 0, none⟩ (k * 1)) (by kernel_rfl) (.int .i8 (rdI f.wide k)) (by rw [add_mid, Nat.mul_one, Nat.zero_add]; exact (HK.out.next hw').cell k _ (fcV_wide HF.out _ k hN)) _ Tryz.underlying22 rfl) ?_
  refine below_run (by kernel_rfl) (.int .i64 (rdI f.wide k)) (fun w' hw' => Eq.trans (show (execOp _ _).run _ w' = .ok (.value (.int .i64 (IntKind.i64.wrap (rdI f.wide k)))) w' by kernel_rfl) (by rw [hc3])) ?_
  refine below_run (by kernel_rfl) (.int .i64 (p.gold * rdI f.wide k)) (fun w' hw' => Eq.trans (show (execOp _ _).run _ w' = .ok (.value (.int .i64 (IntKind.i64.wrap (p.gold * rdI f.wide k)))) w' by kernel_rfl) (by rw [hmul])) ?_
  refine below_run (by kernel_rfl) (.int .i64 (rdI p.lett k + p.gold * rdI f.wide k)) (fun w' hw' => Eq.trans (show (execOp _ _).run _ w' = .ok (.value (.int .i64 (IntKind.i64.wrap (rdI p.lett k + p.gold * rdI f.wide k)))) w' by kernel_rfl) (by rw [hadd])) ?_
  refine below_run (by kernel_rfl) (.int .i64 (rdI p.lett k + p.gold * rdI f.wide k)) (fun w' hw' => by kernel_rfl) ?_
  refine wpQuiet_nil ?_
  intro W3 hW3
  simp only [Act.put, List.setIfInBounds_toArray, List.set_cons_succ, List.set_cons_zero]
  clear hsub hc1 hc2 hc3 hmul hadd
  go_wp2
  go_ret
  exact ⟨rfl, hW3⟩

set_option maxHeartbeats 1000000 in
set_option maxRecDepth 100000 in
theorem cost_spec (f : Fc) (p : Pc) (n b0 b : Nat) (s : ByteArray) (w : World) (hf : FcT f) (hp : PcT p) (hV : FcV f) (hP : PcV p) (hl : LS (bs s)) (hs : s.size ≤ 60) (h : FcAt w b0 f n) (hb : Blk w b 38 (pcV p)) :
    Calls Tryz.prog 24 #[.pointer (some ⟨b0, 0, none⟩), .pointer (some ⟨b, 0, none⟩), .string s] w fun e w' => e = .returned (.int .i64 (prcW f p (bs s))) ∧ Below w.heap.size w w' := by
  have c27 := hb.cell 27 _ (pcV_base hp)
  have t2 := hp.base
  obtain ⟨l, hl0⟩ : ∃ l, l = lets (bs s) := ⟨_, rfl⟩
  have HL := Lib.hid hl0
  have HE := Lib.hid (show prcW f p (bs s) = prcN f p l l.length by unfold prcW; rw [← hl0])
  have HLL := Lib.hid (show LL l by rw [hl0]; exact lets_ll hl)
  have hll : l.length ≤ 60 := by
    have := lets_length (bs s)
    rw [bs_length] at this
    rw [hl0]; omega
  have HF := Lib.hid hf
  have HP := Lib.hid hp
  have HVF := Lib.hid hV
  have HVP := Lib.hid hP
  have HA := Lib.hid h
  have HB := Lib.hid hb
  clear hf hp hV hP h hb hl hl0
  rw [HE.out]
  go_enter Tryz.func24, Tryz.ntmps24
  go_wp2_with (go_at_call 45; refine (letters_spec s _ (by omega)).mono ?_; rintro e w1 ⟨A1, c1, rfl, hb1, ho1⟩; rw [← HL.out] at ho1 ⊢)
  have HO := Lib.hid ho1
  clear ho1
  go_loopw [7, 9] (fun u i wr => ∃ k : Nat, k ≤ l.length ∧ i = .int .i64 k ∧ u = .int .i64 (prcN f p l k) ∧ Below w1.heap.size w1 wr) (fun _ i _ => l.length - (intOf i).toNat)
  case atStart => exact ⟨0, Nat.zero_le _, rfl, rfl, Below.refl _ _⟩
  case round =>
    clear c27
    obtain ⟨k, hk, rfl, rfl, hbel⟩ := hrel
    have hbw := below_step hb1 hbel
    by_cases hlt : k < l.length
    · obtain ⟨a, rfl, hrow⟩ := (HO.out.next hbel).sl.some k hlt
      have hc := hrow.atB k hlt
      have hn1 := prcN_range HVF.out HVP.out HLL.out k hk
      have hn2 := letP_range HVF.out HVP.out (HLL.out k hlt)
      have HN := Lib.hid (show prcN f p l k + letP f p (byt l k) = prcN f p l (k + 1) from rfl)
      clear hrow
      go_wp2_with (go_at_call 47; refine (costL_spec f p n b0 b (byt l k) _ HF.out HP.out HVF.out HVP.out (HLL.out k hlt) (HA.out.next hbw) (HB.out.next hbw)).mono ?_; rintro e w2 ⟨rfl, hb2⟩; have hbel := below_step hbel hb2; clear hb2)
      go_roundw
      case rel => exact ⟨k + 1, by omega, by go_num, by rw [← HN.out], hbel⟩
      case measure => simp [intOf]; omega
    · obtain rfl : k = l.length := by omega
      go_wp2
      go_ret
      exact ⟨rfl, hbw⟩

theorem str_cat (a b : List UInt8) (hl : a.length + b.length ≤ 100000) (w : World) : (Op.stringOp .add (⟨a.toArray⟩ : ByteArray) ⟨b.toArray⟩).run Tryz.prog w = .ok (.string ⟨(a ++ b).toArray⟩) w := by
  rw [run_string_add_sum w _ _ (by simp [ByteArray.size]; omega), ByteArray.mk_append_mk]
theorem joinW_take {ws : List (List UInt8)} {k : Nat} (hk : k < ws.length) : joinW (ws.take (k + 1)) = if k = 0 then joinW (ws.take k) ++ rdW ws k else joinW (ws.take k) ++ [32] ++ rdW ws k := by
  have e : ws.take (k + 1) = ws.take k ++ [rdW ws k] := by
    rw [List.take_succ_eq_append_getElem hk]
    unfold rdW
    rw [List.getD, List.getElem?_eq_getElem hk]; rfl
  rw [e]
  by_cases h0 : k = 0
  · subst h0
    rw [if_pos rfl, List.take_zero, List.nil_append, joinW_one, joinW_nil, List.nil_append]
  · rw [if_neg h0, joinW_snoc (by intro e2; have h3 := List.length_take (l := ws) (i := k); rw [e2, List.length_nil] at h3; omega)]
    simp
set_option maxHeartbeats 1000000 in
set_option maxRecDepth 100000 in
theorem joined_spec (A : Option Addr) (n c : Nat) (ws : List (List UInt8)) (w : World) (hn : ws.length = n) (hm : n ≤ 60) (h60 : ∀ x ∈ ws, x.length ≤ 60) (hs : SlE sv w A ws) :
    Calls Tryz.prog 25 #[.slice A n c] w fun e w' => e = .returned (.string ⟨(joinW ws).toArray⟩) ∧ Below w.heap.size w w' := by
  have hlen : ∀ k, k ≤ ws.length → (joinW (ws.take k)).length ≤ 61 * k := by
    intro k
    induction k with
    | zero => intro _; simp [joinW_nil]
    | succ k ih =>
      intro hk
      have h1 := ih (by omega)
      have h2 := h60 _ (rdW_mem (show k < ws.length by omega))
      rw [joinW_take (by omega)]
      split
      · rw [List.length_append]; omega
      · rw [List.length_append, List.length_append, List.length_singleton]; omega
  have HLEN := Lib.hid hlen
  have HN := Lib.hid hn
  have H60 := Lib.hid h60
  have HS := Lib.hid hs
  clear hlen hn h60 hs
  go_enter Tryz.func25, Tryz.ntmps25
  go_wp2
  go_loopw [3, 4] (fun u i wr => ∃ k : Nat, k ≤ n ∧ i = .int .i64 k ∧ u = .string ⟨(joinW (ws.take k)).toArray⟩ ∧ Below w.heap.size w wr) (fun _ i _ => n - (intOf i).toNat)
  case atStart => exact ⟨0, Nat.zero_le _, rfl, rfl, Below.refl _ _⟩
  case round =>
    obtain ⟨k, hk, rfl, rfl, hbel⟩ := hrel
    by_cases hlt : k < n
    · have hlw : k < ws.length := by rw [HN.out]; exact hlt
      obtain ⟨a, rfl, hrow⟩ := (HS.out.next hbel).some k hlw
      have hc := hrow.atW k hlw
      have hl1 := HLEN.out k (by omega)
      have hl2 := H60.out _ (rdW_mem hlw)
      clear hrow
      obtain ⟨J, hJ⟩ : ∃ J, J = joinW (ws.take k) := ⟨_, rfl⟩
      rw [← hJ] at hl1 ⊢
      have HJ := Lib.hid hJ
      clear hJ
      by_cases h0 : k = 0
      · have HT := Lib.hid (show joinW (ws.take (k + 1)) = J ++ rdW ws k by rw [joinW_take hlw, if_pos h0, HJ.out])
        have hcat := str_cat J (rdW ws k) (by omega)
        subst h0
        have hc : wr.cell? a = some (.string ⟨(rdW ws 0).toArray⟩) := by simpa [Addr.add] using hc
        go_wp2
        go_roundw
        case rel => exact ⟨0 + 1, by omega, by go_num, by rw [HT.out], hbel⟩
        case measure => simp [intOf]; omega
      · have HT := Lib.hid (show joinW (ws.take (k + 1)) = J ++ [32] ++ rdW ws k by rw [joinW_take hlw, if_neg h0, HJ.out])
        have hcat1 := str_cat J [32] (by simp; omega)
        have hcat2 := str_cat (J ++ [32]) (rdW ws k) (by simp; omega)
        have hpos : 0 < k := by omega
        go_wp2
        go_roundw
        case rel => exact ⟨k + 1, by omega, by go_num, by rw [HT.out, List.append_assoc]; rfl, hbel⟩
        case measure => simp [intOf]; omega
    · obtain rfl : k = n := by omega
      have HT := Lib.hid (show ws.take k = ws by rw [← HN.out, List.take_length])
      go_wp2
      go_ret
      rw [HT.out]
      exact ⟨rfl, hbel⟩
end Go.Proofs.YtonnplaacebekaaGreatDoor
