/- Contracts: prices, by the program: what is valid, what letters and texts cost. -/
import Derived.Test.YtonnplaacebekaaGreatDoorPcI
import Derived.Lib.ConvBytes
import Derived.Lib.AtoiErrMem

namespace Go.Proofs.YtonnplaacebekaaGreatDoor
open Go Go.RowKit Go.Shelf
set_option linter.unusedVariables false
set_option linter.unusedSimpArgs false

theorem wpList_load_rowG {P : Program} {ops : Array Oper} {rest : List Oper} {o : Oper} {a : Act} {w : World} {Q : Exit → Act → World → Prop} (hw : Region.wanted o (yielded ops a.tmps) = true) (ty : TypeId) (x : Operand) (ho : o.op = .load ty x)
    (g : Nat) (hx : a.eval x = .pointer (some ⟨g, 0, none⟩)) (t : TypeId) (cs : Array Value) (fr : Nat × Nat) (d : TypeDesc) (hg : w.heap[g]? = some (.cells cs t fr))
    (hu : P.underlying ty = some d) (hd : (match d with | .struct _ | .array _ _ => true | _ => false) = true) (hi : (P.info? ty).map (·.size) = some cs.size)
    (h : wpList P ops Q rest (a.put o.dst (.agg cs)) w) : wpList P ops Q (o :: rest) a w :=
  wpList_step fun _ hK => by
    rw [if_pos hw]
    exact wp_load_row ty x ho g hx t cs fr d hg hu hd hi (hK _ _ h)
set_option maxRecDepth 100000 in
theorem range_pred (p : Pc) (w : World) (hp : PcT p) : PredX i16v 83 #[] (fun n => !inB 0 1000 n) (pcL p) w := fun W x hx hb => by
  have hr := pcL_mem hp x hx
  have hcv : IntKind.i64.wrap x = x := IntWalk.i64_in _ (by omega)
  clear hp
  show Calls Tryz.prog 83 #[.int .i16 x] W _
  go_enter Tryz.func83, Tryz.ntmps83
  go_wp2_with (go_at_call 30; refine (withinI_any _ _ _ _).mono ?_; rintro e w2 ⟨rfl, rfl⟩)
  go_ret
  exact ⟨rfl, Below.refl _ _⟩

set_option maxHeartbeats 1000000 in
set_option maxRecDepth 100000 in
theorem validPrices_any (p : Pc) (w : World) (hp : PcT p) :
    Calls Tryz.prog 60 #[.agg (pcV p).toArray] w fun e w' => e = .returned (.bool (pcOk p)) ∧ Below w.heap.size w w' := by
  have HG := Lib.hid (show ∀ args w, (callFunc 83 args).run Tryz.prog w = .ok (.enter 83 args) w from enters_of Tryz.func83 (by kernel_rfl) rfl)
  have hB := below_one w (.cells (pcV p).toArray 38)
  have hk := Blk.new w 38 (pcV p)
  have HZ := Lib.hid (show (Tryz.prog.info? 38).map (·.size) = some (pcV p).toArray.size by rw [List.size_toArray, pcV_length hp]; exact szPcI)
  have HP := Lib.hid hp
  have HL := Lib.hid (pcL_length hp)
  have HA := Lib.hid (pcL_any p hp)
  clear hp
  go_enter Tryz.func60, Tryz.ntmps60
  go_wp2_with (first
    | (refine wpList_load_row rfl 38 (.tmp 1) rfl _ rfl 38 (pcV p).toArray _ _ hk Tryz.underlying38 rfl HZ.out ?_)
    | (go_at_call 82; refine (all_any p _ HP.out).mono ?_; rintro e w1 ⟨v, rfl, ho, hb1⟩; obtain ⟨A1, c1, rfl, hl1, hx1⟩ := OwnX.of_own ho; have HX1 := Lib.hid hx1; clear ho hx1 hl1)
    | (go_at_call 81; refine (containsH_any 83 #[] HG.out (fun n => !inB 0 1000 n) A1 _ c1 (pcL p) _ rfl (by rw [HL.out]; omega) HX1.out.sl (range_pred p _ HP.out)).mono ?_; rintro e w2 ⟨rfl, hb2⟩))
  go_ret
  exact ⟨retB HA.out, below_step hB (below_step hb1 hb2)⟩

set_option maxRecDepth 100000 in
theorem texts_pred (xs : List (List UInt8)) (w : World) (hx : ∀ x ∈ xs, x.length ≤ 1048576) (hmx : MaxW w) : PredX sv 62 #[] (fun x => !vText x) xs w := fun W x hxm hb => by
  have hl : (⟨x.toArray⟩ : ByteArray).size ≤ 1048576 := hx x hxm
  have HM := Lib.hid (hmx.next hb)
  clear hx hmx
  show Calls Tryz.prog 62 #[.string ⟨x.toArray⟩] W _
  go_enter Tryz.func62, Tryz.ntmps62
  go_wp2_with (go_at_call 63; refine (text_impl ⟨x.toArray⟩ _ hl HM.out).mono ?_; rintro e w2 ⟨rfl, q, rfl⟩)
  go_ret
  exact ⟨rfl, below_drewN (Below.refl _ _) q⟩

/-- Whether one of some texts is none that is valid. -/
def badT (xs : List (List UInt8)) : Bool := xs.any fun x => !vText x
/-- The code of a face, prices and texts. -/
def pccN (f : Fc) (p : Pc) (xs : List (List UInt8)) : Int := if validF f && pcOk p && !badT xs then 0 else 1
theorem pccN_one (f : Fc) (p : Pc) (l : List UInt8) : pccN f p [l] = pcC f p l true := by
  unfold pccN pcC badT
  simp
theorem pccN_f {f : Fc} {p : Pc} {xs : List (List UInt8)} (h : validF f = false) : pccN f p xs = 1 := by unfold pccN; rw [h]; rfl
theorem pccN_p {f : Fc} {p : Pc} {xs : List (List UInt8)} (h : pcOk p = false) : pccN f p xs = 1 := by unfold pccN; rw [h]; simp
theorem pccN_t {f : Fc} {p : Pc} {xs : List (List UInt8)} (h : validF f = true) (k : pcOk p = true) : pccN f p xs = if !badT xs then 0 else 1 := by unfold pccN; rw [h, k]; rfl

set_option maxHeartbeats 1000000 in
set_option maxRecDepth 100000 in
theorem priceCode_any (f : Fc) (p : Pc) (A Ax : Option Addr) (n c nx cx : Nat) (xs : List (List UInt8)) (w : World) (hf : FcT f) (hp : PcT p) (hn : f.pairs.length = n) (hm : n ≤ 1048576) (hxn : xs.length = nx) (hx20 : nx ≤ 1048576) (hl : ∀ x ∈ xs, x.length ≤ 1048576) (h : SlP w A f.pairs) (hx : SlE sv w Ax xs) (hmx : MaxW w) :
    Calls Tryz.prog 29 #[.agg (fcV f (.slice A n c)).toArray, .agg (pcV p).toArray, .slice Ax nx cx] w fun e w' => e = .returned (.int .i64 (pccN f p xs)) ∧ Below w.heap.size w w' := by
  have HG := Lib.hid (show ∀ args w, (callFunc 62 args).run Tryz.prog w = .ok (.enter 62 args) w from enters_of Tryz.func62 (by kernel_rfl) rfl)
  have hB := below_two w (.cells (fcV f (.slice A n c)).toArray 36) (.cells (pcV p).toArray 38)
  have hk1 := (Blk.new w 36 (fcV f (.slice A n c))).alloc (.cells (pcV p).toArray 38)
  have hk2 := Blk.new (w.alloc (.cells (fcV f (.slice A n c)).toArray 36)) 38 (pcV p)
  rw [World.size_alloc] at hk2
  have HS := Lib.hid (h.next hB)
  have HM := Lib.hid (hmx.next hB)
  have HX := Lib.hid (hx.next hB)
  have HF := Lib.hid hf
  have HP := Lib.hid hp
  have HN := Lib.hid hn
  have HXN := Lib.hid hxn
  have HLX := Lib.hid hl
  have hsz : (fcV f (.slice A n c)).toArray.size = 29 := by simp [fcV_length hf]
  have HZ := Lib.hid (show (Tryz.prog.info? 36).map (·.size) = some (fcV f (.slice A n c)).toArray.size by rw [hsz]; exact szFcI)
  have HZ2 := Lib.hid (show (Tryz.prog.info? 38).map (·.size) = some (pcV p).toArray.size by rw [List.size_toArray, pcV_length hp]; exact szPcI)
  clear hf hp hn h hmx hsz hx hxn hl
  cases hv : validF f
  · have HO := Lib.hid (pccN_f (p := p) (xs := xs) hv)
    go_enter Tryz.func29, Tryz.ntmps29
    go_wp2_with (first
      | (refine wpList_load_row rfl 36 (.tmp 3) rfl _ rfl 36 (fcV f (.slice A n c)).toArray _ _ hk1 Tryz.underlying36 rfl HZ.out ?_)
      | (go_at_call 59; refine (face_impl f A n c _ HF.out HN.out hm HS.out).mono ?_; rintro e w1 ⟨rfl, hb⟩; have hB := below_step hB hb; clear hb)
      | (go_at_call 58; refine (unless_any _ _ _).mono ?_; rintro e w2 ⟨rfl, rfl⟩))
    go_ret
    exact ⟨retI HO.out.symm, hB⟩
  · have HV := Lib.hid hv
    cases hk : pcOk p
    · have HO := Lib.hid (pccN_p (f := f) (xs := xs) hk)
      have HKK := Lib.hid hk
      clear hv hk
      go_enter Tryz.func29, Tryz.ntmps29
      go_wp2_with (refine wpList_load_row rfl 36 (.tmp 3) rfl _ rfl 36 (fcV f (.slice A n c)).toArray _ _ hk1 Tryz.underlying36 rfl HZ.out ?_; go_wp2_with fail; go_at_call 59; refine (face_impl f A n c _ HF.out HN.out hm HS.out).mono ?_; rintro e w1 ⟨he, hb⟩; rw [HV.out] at he; subst he; have hB := below_step hB hb; have hk2 := hk2.next hb; clear hb; go_wp2_with (first
        | (refine wpList_load_rowG (by kernel_rfl) 38 (.tmp 4) rfl _ rfl 38 (pcV p).toArray _ _ hk2 Tryz.underlying38 rfl HZ2.out ?_)
        | (go_at_call 60; refine (validPrices_any p _ HP.out).mono ?_; rintro e w2 ⟨he, hb⟩; rw [HKK.out] at he; subst he; have hB := below_step hB hb; clear hb)
        | (go_at_call 58; refine (unless_any _ _ _).mono ?_; rintro e w2 ⟨rfl, rfl⟩)))
      go_ret
      exact ⟨retI HO.out.symm, hB⟩
    · have HKK := Lib.hid hk
      have HO := Lib.hid (pccN_t (xs := xs) hv hk)
      clear hv hk
      cases hbt : badT xs
      all_goals
        have HBT := Lib.hid hbt
        clear hbt
        go_enter Tryz.func29, Tryz.ntmps29
        go_wp2_with (refine wpList_load_row rfl 36 (.tmp 3) rfl _ rfl 36 (fcV f (.slice A n c)).toArray _ _ hk1 Tryz.underlying36 rfl HZ.out ?_; go_wp2_with fail; go_at_call 59; refine (face_impl f A n c _ HF.out HN.out hm HS.out).mono ?_; rintro e w1 ⟨he, hb⟩; rw [HV.out] at he; subst he; have hB := below_step hB hb; have hk2 := hk2.next hb; have HX1 := Lib.hid (HX.out.next hb); have HM1 := Lib.hid (HM.out.next hb); clear hb; go_wp2_with (first
          | (refine wpList_load_rowG (by kernel_rfl) 38 (.tmp 4) rfl _ rfl 38 (pcV p).toArray _ _ hk2 Tryz.underlying38 rfl HZ2.out ?_)
          | (go_at_call 60; refine (validPrices_any p _ HP.out).mono ?_; rintro e w2 ⟨he, hb⟩; rw [HKK.out] at he; subst he; have hB := below_step hB hb; have HX2 := Lib.hid (HX1.out.next hb); have HM2 := Lib.hid (HM1.out.next hb); clear hb)
          | (go_at_call 61; refine (containsTx_any 62 #[] HG.out (fun x => !vText x) Ax nx cx xs _ HXN.out hx20 HX2.out (texts_pred xs _ HLX.out HM2.out)).mono ?_; rintro e w3 ⟨he, hb⟩; change e = .returned (.bool (badT xs)) at he; rw [HBT.out] at he; subst he; have hB := below_step hB hb; clear hb)
          | (go_at_call 58; refine (unless_any _ _ _).mono ?_; rintro e w4 ⟨rfl, rfl⟩)))
        go_ret
        exact ⟨retI (by rw [HO.out, HBT.out]; rfl), hB⟩

attribute [local irreducible] wpQuiet in
set_option maxHeartbeats 1000000 in
set_option maxRecDepth 100000 in
theorem costL_impl (f : Fc) (p : Pc) (A : Option Addr) (n c : Nat) (l : List UInt8) (k : Nat) (w : World) (hf : FcT f) (hp : PcT p) (hV : FcV f) (hP : PcV p) (hl : isLet (byt l k) = true) :
    Calls Tryz.prog 52 #[.agg (pcV p).toArray, .agg (fcV f (.slice A n c)).toArray, .int .u8 (byt l k)] w fun e w' => e = .returned (.int .i64 (letP f p (byt l k))) ∧ Below w.heap.size w w' := by
  have hB := below_two w (.cells (pcV p).toArray 38) (.cells (fcV f (.slice A n c)).toArray 36)
  have hk2 := (Blk.new w 38 (pcV p)).alloc (.cells (fcV f (.slice A n c)).toArray 36)
  have hk1 := Blk.new (w.alloc (.cells (pcV p).toArray 38)) 36 (fcV f (.slice A n c))
  rw [World.size_alloc] at hk1
  have hsz : (fcV f (.slice A n c)).toArray.size = 29 := by simp [fcV_length hf]
  have HZ := Lib.hid (show (Tryz.prog.info? 36).map (·.size) = some (fcV f (.slice A n c)).toArray.size by rw [hsz]; exact szFcI)
  have hr := letP_range hV hP hl
  have hlt := isLet_iff.1 hl
  have hN : letN l k < 26 := by unfold letN; omega
  have hsub : IntKind.u8.wrap (byt l k - 65) = ((letN l k : Nat) : Int) := by rw [IntWalk.u8_in _ (by omega)]; unfold letN; omega
  have h1 := hp.lett (letN l k) hN
  have h2 := hf.wide (letN l k) hN
  have h3 := hp.gold
  have hc1 : IntKind.i64.wrap (rdI p.lett (letN l k)) = rdI p.lett (letN l k) := IntWalk.i64_in _ (by omega)
  have hc2 : IntKind.i64.wrap p.gold = p.gold := IntWalk.i64_in _ (by omega)
  have hE : letP f p (byt l k) = rdI p.lett (letN l k) + p.gold * rdI f.wide (letN l k) := rfl
  have hW : letW f (byt l k) = rdI f.wide (letN l k) := rfl
  rw [hW, hE] at hr
  rw [hE]
  have hmul : IntKind.i64.wrap (p.gold * rdI f.wide (letN l k)) = p.gold * rdI f.wide (letN l k) := IntWalk.i64_in _ (by omega)
  have hadd : IntKind.i64.wrap (rdI p.lett (letN l k) + p.gold * rdI f.wide (letN l k)) = rdI p.lett (letN l k) + p.gold * rdI f.wide (letN l k) := IntWalk.i64_in _ (by omega)
  have HK1 := Lib.hid hk1
  have HK2 := Lib.hid hk2
  have HF := Lib.hid hf
  have HP := Lib.hid hp
  have HL := Lib.hid hl
  clear hk1 hk2 hf hp hE hW h1 h2 h3 hr hV hP hsz hl
  go_enter Tryz.func52, Tryz.ntmps52
  go_wp2
  generalize hW0 : (w.alloc (.cells (pcV p).toArray 38)).alloc (.cells (fcV f (.slice A n c)).toArray 36) = W0 at *
  clear hW0
  refine region_below (W0.heap.size) (by kernel_rfl) (by kernel_rfl) ?_
  refine below_run (by kernel_rfl) (.int .u8 (byt l k)) (fun w' hw' => by kernel_rfl) ?_
  refine below_run (by kernel_rfl) (.int .u8 (letN l k : Nat)) (fun w' hw' => Eq.trans (show (execOp _ _).run _ w' = .ok (.value (.int .u8 (IntKind.u8.wrap (byt l k - 65)))) w' by kernel_rfl) (by rw [hsub])) ?_
  refine below_run (by kernel_rfl) (.pointer (some ⟨w.heap.size, 0, none⟩)) (fun w' hw' => by kernel_rfl) ?_
  refine below_run (by kernel_rfl) (.pointer (some (Addr.add ⟨w.heap.size, 0, none⟩ ((letN l k) * 1)))) (fun w' hw' => exec_indexA 28 (.tmp 9) (.tmp 8) rfl ⟨w.heap.size, 0, none⟩ (by kernel_rfl) .u8 (letN l k) (by kernel_rfl) 26 hN 27 Tryz.underlying28 1 szI16) ?_
  refine below_run (by kernel_rfl) (.int .i16 (rdI p.lett (letN l k))) (fun w' hw' => exec_load1 27 (.tmp 10) rfl (Addr.add ⟨w.heap.size, 0, none⟩ (letN l k * 1)) (by kernel_rfl) (.int .i16 (rdI p.lett (letN l k))) (by rw [add_mid, Nat.mul_one, Nat.zero_add]; exact (HK2.out.next hw').cell (letN l k) _ (pcV_lett HP.out (letN l k) hN)) _ Tryz.underlying27 rfl) ?_
  refine below_run (by kernel_rfl) (.int .i64 (rdI p.lett (letN l k))) (fun w' hw' => Eq.trans (show (execOp _ _).run _ w' = .ok (.value (.int .i64 (IntKind.i64.wrap (rdI p.lett (letN l k))))) w' by kernel_rfl) (by rw [hc1])) ?_
  refine below_run (by kernel_rfl) (.pointer (some ⟨w.heap.size, 26, none⟩)) (fun w' hw' => by kernel_rfl) ?_
  refine below_run (by kernel_rfl) (.int .i16 p.gold) (fun w' hw' => exec_load1 27 (.tmp 13) rfl ⟨w.heap.size, 26, none⟩ (by kernel_rfl) (.int .i16 p.gold) ((HK2.out.next hw').cell 26 _ (pcV_gold HP.out)) _ Tryz.underlying27 rfl) ?_
  refine below_run (by kernel_rfl) (.int .i64 p.gold) (fun w' hw' => Eq.trans (show (execOp _ _).run _ w' = .ok (.value (.int .i64 (IntKind.i64.wrap p.gold))) w' by kernel_rfl) (by rw [hc2])) ?_
  refine below_run (by kernel_rfl) (.agg (fcV f (.slice A n c)).toArray) (fun w' hw' => exec_load_row 36 (.tmp 4) rfl (w.heap.size + 1) (by kernel_rfl) 36 (fcV f (.slice A n c)).toArray _ _ (HK1.out.next hw') Tryz.underlying36 rfl (HZ.out)) ?_
  refine below_run (by kernel_rfl) (.int .u8 (byt l k)) (fun w' hw' => by kernel_rfl) ?_
  refine below_call (by kernel_rfl) 77 #[.agg (fcV f (.slice A n c)).toArray, .int .u8 (byt l k)] (.int .i64 (rdI f.wide (letN l k))) (fun w' => by kernel_rfl) (fun w' hw' => (letter_w f A n c l k w' HF.out HL.out).mono fun e w1 ⟨he, hb1⟩ => ⟨he, below_step hw' hb1⟩) ?_
  refine below_run (by kernel_rfl) (.int .i64 (p.gold * rdI f.wide (letN l k))) (fun w' hw' => Eq.trans (show (execOp _ _).run _ w' = .ok (.value (.int .i64 (IntKind.i64.wrap (p.gold * rdI f.wide (letN l k))))) w' by kernel_rfl) (by rw [hmul])) ?_
  refine below_run (by kernel_rfl) (.int .i64 (rdI p.lett (letN l k) + p.gold * rdI f.wide (letN l k))) (fun w' hw' => Eq.trans (show (execOp _ _).run _ w' = .ok (.value (.int .i64 (IntKind.i64.wrap (rdI p.lett (letN l k) + p.gold * rdI f.wide (letN l k))))) w' by kernel_rfl) (by rw [hadd])) ?_
  refine below_run (by kernel_rfl) (.int .i64 (rdI p.lett (letN l k) + p.gold * rdI f.wide (letN l k))) (fun w' hw' => by kernel_rfl) ?_
  refine wpQuiet_nil ?_
  intro W3 hW3
  simp only [Act.put, List.setIfInBounds_toArray, List.set_cons_succ, List.set_cons_zero]
  have hbel := below_step hB hW3
  clear hsub hc1 hc2 hmul hadd hW3
  go_wp2
  go_ret
  exact ⟨rfl, hbel⟩

set_option maxHeartbeats 1000000 in
set_option maxRecDepth 100000 in
theorem cost_impl (f : Fc) (p : Pc) (A : Option Addr) (n c : Nat) (s : ByteArray) (w : World) (hf : FcT f) (hp : PcT p) (hV : FcV f) (hP : PcV p) (hls : LS (bs s)) (hs : s.size ≤ 60) (hmx : MaxW w) :
    Calls Tryz.prog 32 #[.agg (pcV p).toArray, .agg (fcV f (.slice A n c)).toArray, .string s] w fun e w' => e = .returned (.int .i64 (prcW f p (bs s))) ∧ Below w.heap.size w w' := by
  have kc := fun (w : World) => Lib.run_convert_string_bytes (P := Tryz.prog) w 9 77 5 ⟨(lets (bs s)).toArray⟩ Tryz.underlying9 Tryz.underlying77 Tryz.underlying5
  have hB := below_two w (.cells (pcV p).toArray 38) (.cells (fcV f (.slice A n c)).toArray 36)
  have hk2 := (Blk.new w 38 (pcV p)).alloc (.cells (fcV f (.slice A n c)).toArray 36)
  have hk1 := Blk.new (w.alloc (.cells (pcV p).toArray 38)) 36 (fcV f (.slice A n c))
  rw [World.size_alloc] at hk1
  have hsz : (fcV f (.slice A n c)).toArray.size = 29 := by simp [fcV_length hf]
  have HZ := Lib.hid (show (Tryz.prog.info? 36).map (·.size) = some (fcV f (.slice A n c)).toArray.size by rw [hsz]; exact szFcI)
  have HZ2 := Lib.hid (show (Tryz.prog.info? 38).map (·.size) = some (pcV p).toArray.size by rw [List.size_toArray, pcV_length hp]; exact szPcI)
  have c27 := hk2.cell 27 _ (pcV_base hp)
  have t2 := hp.base
  obtain ⟨l, hl0⟩ : ∃ l, l = lets (bs s) := ⟨_, rfl⟩
  have HL := Lib.hid hl0
  have HE := Lib.hid (show prcW f p (bs s) = prcN f p l l.length by unfold prcW; rw [← hl0])
  have HLL := Lib.hid (show LL l by rw [hl0]; exact lets_ll hls)
  have hll : l.length ≤ 60 := by
    have := lets_length (bs s)
    rw [bs_length] at this
    rw [hl0]; omega
  have HF := Lib.hid hf
  have HP := Lib.hid hp
  have HVF := Lib.hid hV
  have HVP := Lib.hid hP
  have HK1 := Lib.hid hk1
  have HK2 := Lib.hid hk2
  have HM := Lib.hid (hmx.next hB)
  rw [← hl0] at kc
  clear hf hp hV hP hk1 hk2 hls hl0 hsz hmx
  rw [HE.out]
  go_enter Tryz.func32, Tryz.ntmps32
  go_wp2_with (go_at_call 50; refine (letters_impl s _ (by omega) HM.out).mono ?_; rw [← HL.out]; rintro e w1 ⟨rfl, hb⟩)
  have hs2 : (⟨l.toArray⟩ : ByteArray).size = l.length := by show l.toArray.size = _; simp
  have hb2 := Lib.bytesWorld_below w1 5 ⟨l.toArray⟩
  have hcb : ∀ k, k < l.length → (Lib.bytesWorld w1 5 ⟨l.toArray⟩).cell? ⟨w1.heap.size, k, none⟩ = some (.int .u8 (byt l k)) := fun k hk => by
    rw [Lib.bytesWorld_cell w1 _ _ k (by rw [hs2]; exact hk)]
    rfl
  have hsz2 := Lib.bytesWorld_size w1 5 ⟨l.toArray⟩
  have hbw := below_step hb hb2
  have hzb : w1.heap.size < (Lib.bytesWorld w1 5 ⟨l.toArray⟩).heap.size := by rw [hsz2]; omega
  generalize Lib.bytesWorld w1 5 ⟨l.toArray⟩ = W2 at *
  generalize grownCap w1 l.length 0 5 = cg
  have HCB := Lib.hid hcb
  clear kc hs2 hb2 hsz2 hcb hb c27
  generalize w1.heap.size = g1 at *
  go_loopw [7, 17] (fun u i wr => ∃ k : Nat, k ≤ l.length ∧ i = .int .i64 k ∧ u = .int .i64 (prcN f p l k) ∧ Below W2.heap.size W2 wr) (fun _ i _ => l.length - (intOf i).toNat)
  case atStart => exact ⟨0, Nat.zero_le _, rfl, rfl, Below.refl _ _⟩
  case round =>
    obtain ⟨k, hk, rfl, rfl, hbel⟩ := hrel
    have hbr := below_step hbw hbel
    by_cases hlt : k < l.length
    · have hcell := (hbel.cell (p := ⟨g1, k, none⟩) hzb).trans (HCB.out k hlt)
      have hk2 := HK2.out.next hbr
      have hk1 := HK1.out.next hbr
      have hn1 := prcN_range HVF.out HVP.out HLL.out k hk
      have hn2 := letP_range HVF.out HVP.out (HLL.out k hlt)
      have HN := Lib.hid (show prcN f p l k + letP f p (byt l k) = prcN f p l (k + 1) from rfl)
      go_wp2_with (first
        | (refine wpList_load_row rfl 38 (.tmp 3) rfl _ rfl 38 (pcV p).toArray _ _ hk2 Tryz.underlying38 rfl HZ2.out ?_)
        | (refine wpList_load_row rfl 36 (.tmp 4) rfl _ rfl 36 (fcV f (.slice A n c)).toArray _ _ hk1 Tryz.underlying36 rfl HZ.out ?_)
        | (go_at_call 52; refine (costL_impl f p A n c l k _ HF.out HP.out HVF.out HVP.out (HLL.out k hlt)).mono ?_; rintro e w2 ⟨rfl, hb2⟩; have hbel := below_step hbel hb2; clear hb2))
      go_roundw
      case rel => exact ⟨k + 1, by omega, by go_num, by rw [← HN.out], hbel⟩
      case measure => simp [intOf]; omega
    · obtain rfl : k = l.length := by omega
      go_wp2
      go_ret
      exact ⟨rfl, below_step hB hbr⟩
end Go.Proofs.YtonnplaacebekaaGreatDoor
