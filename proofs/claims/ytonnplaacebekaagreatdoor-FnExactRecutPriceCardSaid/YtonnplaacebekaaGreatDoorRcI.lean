/- Contracts: the best shift, what cutting again costs, by the program. -/
import Derived.Test.YtonnplaacebekaaGreatDoorRcT
import Derived.Test.YtonnplaacebekaaGreatDoorKpK
namespace Go.Proofs.YtonnplaacebekaaGreatDoor
open Go Go.RowKit
set_option linter.unusedVariables false
set_option linter.unusedSimpArgs false

set_option maxHeartbeats 1000000 in
set_option maxRecDepth 100000 in
theorem index64_any (A : Option Addr) (n c : Nat) (xs : List Int) (x : Int) (w : World) (hn : xs.length = n) (hm : n ≤ 1048576) (h : SlE i64 w A xs) :
    Calls Tryz.prog 76 #[.slice A n c, .int .i64 x] w fun e w' => (∃ v, e = .returned (.int .i64 v) ∧ decide (v ≥ 0) = decide (x ∈ xs)) ∧ Below w.heap.size w w' := by
  have HA := Lib.hid h
  subst hn
  clear h
  go_enter Tryz.func76, Tryz.ntmps76
  go_wp2
  go_loopw [8] (fun i wr => ∃ k : Nat, k ≤ xs.length ∧ i = .int .i64 k ∧ hasN xs x k = false ∧ Below w.heap.size w wr) (fun i _ => xs.length - (intOf i).toNat)
  case atStart => exact ⟨0, by omega, rfl, rfl, Below.refl _ _⟩
  case round =>
    obtain ⟨k, hk, rfl, hh, hbel⟩ := hrel
    have HH := Lib.hid hh
    clear hh
    by_cases hlt : k < xs.length
    · obtain ⟨a, rfl, ra⟩ := (HA.out.next hbel).some k hlt
      have ca := ra.atI64 k hlt
      cases he : (x == rdI xs k)
      · have HN := Lib.hid (show hasN xs x (k + 1) = false by
          rw [hasN, HH.out]
          simp only [Bool.false_or]
          rw [beq_eq_false_iff_ne] at he ⊢
          exact fun h => he h.symm)
        clear ra
        go_wp2
        go_roundw
        case rel => exact ⟨k + 1, by omega, by go_num, HN.out, hbel⟩
        case measure => simp [intOf]; omega
      · have HN := Lib.hid (hasN_hit hlt (show rdI xs k = x by have := beq_iff_eq.1 he; exact this.symm))
        clear ra
        go_wp2
        go_ret
        exact ⟨⟨_, rfl, by rw [HN.out]; exact decide_eq_true (Int.natCast_nonneg k)⟩, hbel⟩
    · obtain rfl : k = xs.length := by omega
      have HN := Lib.hid ((hasN_mem xs x).symm.trans HH.out)
      go_wp2
      go_ret
      exact ⟨⟨_, rfl, by rw [HN.out]; rfl⟩, hbel⟩
set_option maxRecDepth 100000 in
theorem contains64_any (A : Option Addr) (n c : Nat) (xs : List Int) (x : Int) (w : World) (hn : xs.length = n) (hm : n ≤ 1048576) (h : SlE i64 w A xs) :
    Calls Tryz.prog 51 #[.slice A n c, .int .i64 x] w fun e w' => e = .returned (.bool (decide (x ∈ xs))) ∧ Below w.heap.size w w' := by
  have HA := Lib.hid h
  have HN := Lib.hid hn
  clear h hn
  go_enter Tryz.func51, Tryz.ntmps51
  go_wp2_with (go_at_call 76; refine (index64_any A n c xs x _ HN.out hm HA.out).mono ?_; rintro e w1 ⟨⟨v, rfl, hv⟩, hb⟩)
  go_ret
  exact ⟨by first | rfl | exact retB hv, hb⟩

/-- The best shift ahead of the size t. -/
def bshI (c : Int → Int) : Nat → Int × Int
  | 0 => (0, -1)
  | t + 1 => bsh c t
theorem bshI_step (c : Int → Int) (h : 0 ≤ c 0) : ∀ t : Nat, bshI c (t + 1) = bshA (bshA (bshI c t) (t : Int) (c (t : Int))) (-(t : Int)) (c (-(t : Int)))
  | 0 => by
    show (0, c 0) = bshA (bshA (0, -1) 0 (c 0)) (-0) (c (-0))
    rw [bshA_yes (st := (0, -1)) (show (-1 : Int) < c 0 by omega), bshA_no (st := (0, c 0)) (show ¬ c 0 < c (-0) by simp)]
  | t + 1 => rfl
/-- Within one size: ahead of shift k of its two. -/
def shk (c : Int → Int) (st : Int × Int) (s : Int) : Nat → Int × Int
  | 0 => st
  | 1 => bshA st s (c s)
  | _ => bshA (bshA st s (c s)) (-s) (c (-s))
theorem shk_next (c : Int → Int) (st : Int × Int) (s : Int) (k : Nat) (hk : k < 2) (v : Int) (hv : v = if k = 0 then s else -s) : shk c st s (k + 1) = bshA (shk c st s k) v (c v) := by
  subst hv
  match k, hk with
  | 0, _ => rfl
  | 1, _ => rfl

set_option maxHeartbeats 2000000 in
set_option maxRecDepth 100000 in
theorem bestShift_impl (f : Fc) (A : Option Addr) (n c : Nat) (o s : ByteArray) (w : World) (hf : FcT f) (hV : FcV f) (hn : f.pairs.length = n) (hm : n ≤ 1048576) (hos : o.size ≤ 1048576) (hs : s.size ≤ 1048576) (ho : vText (bs o) = true) (ht : vText (bs s) = true) (h : SlP w A f.pairs) (hmx : MaxW w) (r : Int × Int)
    (hr : r = bsh (cntK (lets (bs o)) (lets (bs s)) (plW f (bs o) (bs o).length) (plW f (bs s) (bs s).length)) 400) :
    Calls Tryz.prog 48 #[.agg (fcV f (.slice A n c)).toArray, .string o, .string s] w fun e w' => e = .returned (.tuple #[.int .i64 r.1, .int .i64 r.2]) ∧ Below w.heap.size w w' := by
  have hB := below_one w (.cells (fcV f (.slice A n c)).toArray 36)
  have hk := Blk.new w 36 (fcV f (.slice A n c))
  have hsz : (fcV f (.slice A n c)).toArray.size = 29 := by simp [fcV_length hf]
  have HZ := Lib.hid (show (Tryz.prog.info? 36).map (·.size) = some (fcV f (.slice A n c)).toArray.size by rw [hsz]; exact szFcI)
  obtain ⟨cf, hcf⟩ : ∃ cf, cf = cntK (lets (bs o)) (lets (bs s)) (plW f (bs o) (bs o).length) (plW f (bs s) (bs s).length) := ⟨_, rfl⟩
  rw [← hcf] at hr
  have HC := Lib.hid (show ∀ d, ((kptR f (bs o) (bs s) d).length : Int) = cf d by intro d; rw [hcf]; rfl)
  have HCR := Lib.hid (show ∀ d, 0 ≤ cf d by intro d; rw [hcf]; exact (cntK_range _ _ _ _ d).1)
  have HCR2 := Lib.hid (show ∀ d, cf d ≤ 60 by
    intro d
    have h1 := (cntK_range (lets (bs o)) (lets (bs s)) (plW f (bs o) (bs o).length) (plW f (bs s) (bs s).length) d).2
    have h2 : (lets (bs s)).length ≤ 60 := Nat.le_trans (lets_length _) (vText_len60 ht)
    rw [hcf]; omega)
  have HST := Lib.hid (bshI_step cf (HCR.out 0))
  have HR := Lib.hid (show bshI cf 401 = r by rw [hr]; rfl)
  have HF := Lib.hid hf
  have HV := Lib.hid hV
  have HN := Lib.hid hn
  have HS := Lib.hid (h.next hB)
  have HM := Lib.hid (hmx.next hB)
  have HK := Lib.hid hk
  have HBB := Lib.hid hB
  have HT := Lib.hid ho
  have HU := Lib.hid ht
  clear hf hV hn h hmx hk hB ho ht hr hcf hsz
  go_enter Tryz.func48, Tryz.ntmps48
  go_wp2
  generalize w.alloc (.cells (fcV f (.slice A n c)).toArray 36) = W0 at *
  go_loopw [8, 9, 14] (fun b m j wi => ∃ t : Nat, t ≤ 401 ∧ j = .int .i64 (t : Int) ∧ b = .int .i64 (bshI cf t).1 ∧ m = .int .i64 (bshI cf t).2 ∧ Below W0.heap.size W0 wi) (fun _ _ j _ => 401 - (intOf j).toNat)
  case atStart => exact ⟨0, by omega, rfl, rfl, rfl, Below.refl _ _⟩
  case round =>
    obtain ⟨t, ht, rfl, rfl, rfl, hbi⟩ := hrel
    by_cases hlt : t < 401
    · have hti : (t : Int) < 401 := by omega
      have hneg : IntKind.i64.wrap (-(t : Int)) = -(t : Int) := IntWalk.i64_in _ (by omega)
      have HNX := Lib.hid (HST.out t)
      generalize bshI cf t = st at *
      have hb2 := below_one wr (.cells #[.int .i64 (t : Int), .int .i64 (-(t : Int))] 2)
      have HL := Lib.hid (show SlE i64 (wr.alloc (.cells #[.int .i64 (t : Int), .int .i64 (-(t : Int))] 2)) (some ⟨wr.heap.size, 0, none⟩) [(t : Int), -(t : Int)] from SlE.of_row (Blk.row (enc := i64) (Blk.new wr 2 [i64 t, i64 (-(t : Int))])))
      have hbi2 := below_step hbi hb2
      have HBI := Lib.hid hbi2
      clear hbi hb2 hbi2
      go_wp2
      generalize wr.alloc (.cells #[.int .i64 (t : Int), .int .i64 (-(t : Int))] 2) = W2 at *
      generalize wr.heap.size = g at *
      go_loopw [8, 9, 22] (fun b m j wi => ∃ k : Nat, k ≤ 2 ∧ j = .int .i64 (k : Int) ∧ b = .int .i64 (shk cf st t k).1 ∧ m = .int .i64 (shk cf st t k).2 ∧ Below W2.heap.size W2 wi) (fun _ _ j _ => 2 - (intOf j).toNat)
      case atStart => exact ⟨0, by omega, rfl, rfl, rfl, Below.refl _ _⟩
      case round =>
        obtain ⟨k, hk, rfl, rfl, rfl, hbj⟩ := hrel
        by_cases hlk : k < 2
        · have hki : (k : Int) < 2 := by omega
          obtain ⟨a', e', r⟩ := (HL.out.next hbj).some k (show k < 2 from hlk)
          cases e'
          obtain ⟨v, hv⟩ : ∃ v, v = (if k = 0 then (t : Int) else -(t : Int)) := ⟨_, rfl⟩
          have kc := r.atI64 k (show k < 2 from hlk)
          rw [show rdI [(t : Int), -(t : Int)] k = v by rw [hv]; match k, hlk with | 0, _ => rfl | 1, _ => rfl, add_mid, Nat.zero_add] at kc
          have hvr : -400 ≤ v ∧ v ≤ 400 := by rw [hv]; split <;> omega
          have HK2 := Lib.hid (shk_next cf st t k hlk v hv)
          have hkr := (HK.out.next HBI.out).next hbj
          have hb3 := below_step HBI.out hbj
          generalize shk cf st t k = sk at *
          obtain ⟨sb, sm⟩ := sk
          have hc1 := HCR.out v
          have hc2 := HCR2.out v
          clear hv r
          by_cases h1 : sm < cf v
          · have HN2 := Lib.hid (HK2.out.trans (bshA_yes (st := (sb, sm)) h1))
            go_wp2_with (first
              | (refine wpList_load_row rfl 36 (.tmp 3) rfl _ rfl 36 (fcV f (.slice A n c)).toArray _ _ hkr Tryz.underlying36 rfl HZ.out ?_)
              | (go_at_call 49; refine (kept_impl f A n c o s v _ HF.out HV.out HN.out hm hos hs HT.out HU.out hvr (HS.out.next hb3) (HM.out.next hb3)).mono ?_; rintro e w5 ⟨A5, c5, rfl, hb5, ho5⟩)
              | (go_at_call 72; refine (size64_any _ _ _ _).mono ?_; rintro e w6 ⟨rfl, rfl⟩; rw [HC.out]))
            go_roundw
            case rel => exact ⟨k + 1, by omega, by go_num, by rw [HN2.out], by rw [HN2.out], below_step hbj hb5⟩
            case measure => simp [intOf]; omega
          · have HN2 := Lib.hid (HK2.out.trans (bshA_no (st := (sb, sm)) h1))
            go_wp2_with (first
              | (refine wpList_load_row rfl 36 (.tmp 3) rfl _ rfl 36 (fcV f (.slice A n c)).toArray _ _ hkr Tryz.underlying36 rfl HZ.out ?_)
              | (go_at_call 49; refine (kept_impl f A n c o s v _ HF.out HV.out HN.out hm hos hs HT.out HU.out hvr (HS.out.next hb3) (HM.out.next hb3)).mono ?_; rintro e w5 ⟨A5, c5, rfl, hb5, ho5⟩)
              | (go_at_call 72; refine (size64_any _ _ _ _).mono ?_; rintro e w6 ⟨rfl, rfl⟩; rw [HC.out]))
            go_roundw
            case rel => exact ⟨k + 1, by omega, by go_num, by rw [HN2.out], by rw [HN2.out], below_step hbj hb5⟩
            case measure => simp [intOf]; omega
        · obtain rfl : k = 2 := by omega
          have hb3 := below_step HBI.out hbj
          have HN2 := Lib.hid (show bshI cf (t + 1) = shk cf st t 2 from HNX.out)
          go_wp2
          go_roundw
          case rel => exact ⟨t + 1, by omega, by go_num, by rw [HN2.out], by rw [HN2.out], hb3⟩
          case measure => simp [intOf]; omega
    · obtain rfl : t = 401 := by omega
      have HFI := Lib.hid (below_step HBB.out hbi)
      rw [HR.out]
      go_wp2
      go_ret2
      exact ⟨rfl, HFI.out⟩

theorem pccN_two (f : Fc) (p : Pc) (a b : List UInt8) : pccN f p [a, b] = rcC f p a b := by
  unfold pccN rcC badT
  simp only [List.any_cons, List.any_nil, Bool.or_false, Bool.not_or, Bool.not_not, Bool.and_assoc]
attribute [local irreducible] wpQuiet in
set_option maxHeartbeats 4000000 in
set_option maxRecDepth 100000 in
theorem recut_impl (f : Fc) (A : Option Addr) (n c : Nat) (p : Pc) (o s : ByteArray) (w : World) (hf : FcT f) (hn : f.pairs.length = n) (hm : n ≤ 1048576) (hos : o.size ≤ 1048576) (hs : s.size ≤ 1048576) (hp : PcT p) (h : SlP w A f.pairs) (hmx : MaxW w) :
    Calls Tryz.prog 19 #[.agg (fcV f (.slice A n c)).toArray, .agg (pcV p).toArray, .string o, .string s] w fun e w' => e = .returned (.tuple #[.int .i64 (rcR f p (bs o) (bs s)).1, .int .i64 (rcR f p (bs o) (bs s)).2]) ∧ Below w.heap.size w w' := by
  have hB := below_two w (.cells (fcV f (.slice A n c)).toArray 36) (.cells (pcV p).toArray 38)
  have hb0 := below_one ((w.alloc (.cells (fcV f (.slice A n c)).toArray 36)).alloc (.cells (pcV p).toArray 38)) (.cells #[.string o, .string s] 9)
  have hk1 := ((Blk.new w 36 (fcV f (.slice A n c))).alloc (.cells (pcV p).toArray 38))
  have hk2 := Blk.new (w.alloc (.cells (fcV f (.slice A n c)).toArray 36)) 38 (pcV p)
  have hsl0 : SlE sv (((w.alloc (.cells (fcV f (.slice A n c)).toArray 36)).alloc (.cells (pcV p).toArray 38)).alloc (.cells #[.string o, .string s] 9)) (some ⟨((w.alloc (.cells (fcV f (.slice A n c)).toArray 36)).alloc (.cells (pcV p).toArray 38)).heap.size, 0, none⟩) [bs o, bs s] := SlE.of_row (Blk.row (enc := sv) (Blk.new ((w.alloc (.cells (fcV f (.slice A n c)).toArray 36)).alloc (.cells (pcV p).toArray 38)) 9 [sv (bs o), sv (bs s)]))
  rw [World.size_alloc] at hk2
  rw [World.size_alloc, World.size_alloc] at hsl0
  have tb := hp.base
  have tf := hp.fill
  have hsz : (fcV f (.slice A n c)).toArray.size = 29 := by simp [fcV_length hf]
  have HZ := Lib.hid (show (Tryz.prog.info? 36).map (·.size) = some (fcV f (.slice A n c)).toArray.size by rw [hsz]; exact szFcI)
  have HZ2 := Lib.hid (show (Tryz.prog.info? 38).map (·.size) = some (pcV p).toArray.size by rw [List.size_toArray, pcV_length hp]; exact szPcI)
  have hB1 := below_step hB hb0
  have HS := Lib.hid (h.next hB1)
  have HM := Lib.hid (hmx.next hB1)
  have HF := Lib.hid hf
  have HN := Lib.hid hn
  have HP := Lib.hid hp
  have HK1 := Lib.hid (hk1.next hb0)
  have HK2 := Lib.hid (hk2.next hb0)
  have HSL0 := Lib.hid hsl0
  have HBB := Lib.hid hB1
  have HLS := Lib.hid (show ∀ x ∈ [bs o, bs s], x.length ≤ 1048576 by
    intro x hx
    rcases List.mem_cons.1 hx with rfl | hx
    · rw [bs_length]; exact hos
    · obtain rfl := List.mem_singleton.1 hx; rw [bs_length]; exact hs)
  clear hf hn h hp hmx hsz hsl0 hB hB1 hb0
  obtain ⟨cd, hcd⟩ : ∃ cd, cd = rcC f p (bs o) (bs s) := ⟨_, rfl⟩
  have HC := Lib.hid hcd
  by_cases h0 : cd = 0
  · have hz := hcd.symm.trans h0
    obtain ⟨hv, hpo, ht, hu⟩ := rcC_zero hz
    have HV := Lib.hid (validF_iff.1 hv)
    have HPV := Lib.hid (pcOk_iff.1 hpo)
    have HT := Lib.hid ht
    have HU := Lib.hid hu
    obtain ⟨r, hr⟩ : ∃ r, r = bsh (cntK (lets (bs o)) (lets (bs s)) (plW f (bs o) (bs o).length) (plW f (bs s) (bs s).length)) 400 := ⟨_, rfl⟩
    have HR := Lib.hid hr
    have HD := Lib.hid (show (-400 ≤ r.1 ∧ r.1 ≤ 400) ∧ r.2 = cntK (lets (bs o)) (lets (bs s)) (plW f (bs o) (bs o).length) (plW f (bs s) (bs s).length) r.1 by rw [hr]; exact ⟨(bsh_at _ 400).2, (bsh_at _ 400).1⟩)
    have HO := Lib.hid (show rcR f p (bs o) (bs s) = (rcS f p (lets (bs o)) (lets (bs s)) (plW f (bs o) (bs o).length) (plW f (bs s) (bs s).length) r.1 (lets (bs s)).length, 0) by
      unfold rcR
      rw [if_pos hz, ← hr])
    have hx60 : (lets (bs o)).length ≤ 60 := Nat.le_trans (lets_length _) (vText_len60 ht)
    have hy60 : (lets (bs s)).length ≤ 60 := Nat.le_trans (lets_length _) (vText_len60 hu)
    have HLL := Lib.hid (lets_ll (vText_ls hu))
    have HK := Lib.hid (show ∀ d, kptR f (bs o) (bs s) d = kptN (lets (bs o)) (lets (bs s)) (plW f (bs o) (bs o).length) (plW f (bs s) (bs s).length) d (lets (bs s)).length from fun _ => rfl)
    subst h0
    clear hpo hv ht hu hcd hz hr
    rw [HO.out]
    clear HO
    obtain ⟨x, hx⟩ : ∃ x, x = lets (bs o) := ⟨_, rfl⟩
    obtain ⟨y, hy⟩ : ∃ y, y = lets (bs s) := ⟨_, rfl⟩
    obtain ⟨pa, hpa⟩ : ∃ pa, pa = plW f (bs o) (bs o).length := ⟨_, rfl⟩
    obtain ⟨qa, hqa⟩ : ∃ qa, qa = plW f (bs s) (bs s).length := ⟨_, rfl⟩
    have hKK := HK.out
    have hLL := HLL.out
    have hDD := HD.out
    rw [← hx, ← hy, ← hpa, ← hqa] at hKK hDD ⊢
    rw [← hx] at hx60
    rw [← hy] at hy60 hLL
    have HKK := Lib.hid hKK
    have HLY := Lib.hid hLL
    have HX := Lib.hid hx
    have HY := Lib.hid hy
    have kc := fun (w : World) => Lib.run_convert_string_bytes (P := Tryz.prog) w 9 77 5 ⟨y.toArray⟩ Tryz.underlying9 Tryz.underlying77 Tryz.underlying5
    clear hx hy hpa hqa hKK hLL HK HLL HD
    obtain ⟨d, ds⟩ := r
    simp only at hDD ⊢
    obtain ⟨hd, hds⟩ := hDD
    have HD := Lib.hid hd
    clear hd
    obtain ⟨K, hK⟩ : ∃ K, K = kptN x y pa qa d y.length := ⟨_, rfl⟩
    have HKE := Lib.hid hK
    have hKl : K.length ≤ 60 := by have := kptN_length x y pa qa d y.length; rw [hK]; omega
    have hdK : ds = (K.length : Int) := by rw [hds, hK]; rfl
    clear hds
    subst hdK
    have HKM := Lib.hid (show ∀ k, k < y.length → decide ((k : Int) ∈ K) = kbN x y pa qa d k x.length by
      intro k hk
      have := kpt_mem x y pa qa d y.length k hk
      rw [← hK] at this
      rw [Bool.eq_iff_iff, decide_eq_true_iff]; exact this)
    have HRG := Lib.hid (fun k hk => rcS_range (f := f) (p := p) HV.out HPV.out (x := x) (y := y) (a := pa) (b := qa) (s := d) hx60 hy60 HLY.out k hk)
    have HR0 := Lib.hid (show p.base + p.fill * ((x.length : Int) - (K.length : Int)) = rcS f p x y pa qa d 0 by rw [hK]; rfl)
    have hb1 := HPV.out.base
    have hb2 := HPV.out.fill
    have HML := Lib.hid (show -61000 ≤ p.fill * ((x.length : Int) - (K.length : Int)) ∧ p.fill * ((x.length : Int) - (K.length : Int)) ≤ 61000 by
      have h1 := HRG.out 0 (Nat.zero_le _)
      have h2 := HR0.out
      omega)
    clear hK hb1 hb2
    go_enter Tryz.func19, Tryz.ntmps19
    go_wp2_with (first
      | (refine wpList_load_row rfl 36 (.tmp 4) rfl _ rfl 36 (fcV f (.slice A n c)).toArray _ _ hk1 Tryz.underlying36 rfl HZ.out ?_)
      | (refine wpList_load_row rfl 38 (.tmp 5) rfl _ rfl 38 (pcV p).toArray _ _ hk2 Tryz.underlying38 rfl HZ2.out ?_)
      | (go_at_call 29; refine (priceCode_any f p A _ n c 2 2 [bs o, bs s] _ HF.out HP.out HN.out hm rfl (by omega) HLS.out HS.out HSL0.out HM.out).mono ?_; rintro e w1 ⟨he, hb1⟩; rw [pccN_two, ← HC.out] at he; subst he; have hk1 := HK1.out.next hb1)
      | (go_at_call 48; refine (bestShift_impl f A n c o s _ HF.out HV.out HN.out hm hos hs HT.out HU.out (HS.out.next hb1) (HM.out.next hb1) (d, (K.length : Int)) HR.out).mono ?_; rintro e w2 ⟨rfl, hb2⟩; have hk1 := (HK1.out.next hb1).next hb2) | (go_at_call 49; refine (kept_impl f A n c o s d _ HF.out HV.out HN.out hm hos hs HT.out HU.out HD.out ((HS.out.next hb1).next hb2) ((HM.out.next hb1).next hb2)).mono ?_; rintro e w3 ⟨A3, c3, rfl, hb3, ho3⟩; rw [HKK.out, ← HKE.out] at ho3 ⊢))
    have hB3 := below_step (below_step hb1 hb2) hb3
    have HK13 := Lib.hid (HK1.out.next hB3)
    have HK23 := Lib.hid (HK2.out.next hB3)
    have HM3 := Lib.hid (HM.out.next hB3)
    have HO3 := Lib.hid ho3
    have HBW := Lib.hid (below_step HBB.out hB3)
    have hcb : IntKind.i64.wrap p.base = p.base := IntWalk.i64_in _ (by omega)
    have hcf : IntKind.i64.wrap p.fill = p.fill := IntWalk.i64_in _ (by omega)
    have hs1 : IntKind.i64.wrap ((x.length : Int) - (K.length : Int)) = (x.length : Int) - (K.length : Int) := IntWalk.i64_in _ (by omega)
    have hm1 := HML.out
    have hs2 : IntKind.i64.wrap (p.fill * ((x.length : Int) - (K.length : Int))) = p.fill * ((x.length : Int) - (K.length : Int)) := IntWalk.i64_in _ (by omega)
    have hs3 : IntKind.i64.wrap (p.base + p.fill * ((x.length : Int) - (K.length : Int))) = rcS f p x y pa qa d 0 := by rw [← HR0.out]; exact IntWalk.i64_in _ (by omega)
    have hxs : ((⟨x.toArray⟩ : ByteArray).size : Int) = x.length := by show ((x.toArray.size : Nat) : Int) = _; simp
    have HLO := Lib.hid (fun (w' : World) (hw' : Below w3.heap.size w3 w') => (show Calls Tryz.prog 50 #[.string o] w' (fun e w1 => e = .returned (.string ⟨x.toArray⟩) ∧ Below w'.heap.size w' w1) from HX.out ▸ letters_impl o w' hos (HM3.out.next hw')))
    clear hb1 hb2 hb3 ho3 hB3 hm1 hk1 hk2
    refine region_below (w3.heap.size) (by kernel_rfl) (by kernel_rfl) ?_
    refine below_run (by kernel_rfl) (.pointer (some ⟨w.heap.size + 1, 27, none⟩)) (fun w' hw' => by kernel_rfl) ?_
    refine below_run (by kernel_rfl) (.int .i16 p.base) (fun w' hw' => exec_load1 27 (.tmp 38) rfl ⟨w.heap.size + 1, 27, none⟩ (by kernel_rfl) (.int .i16 p.base) ((HK23.out.next hw').cell 27 _ (pcV_base HP.out)) _ Tryz.underlying27 rfl) ?_
    refine below_run (by kernel_rfl) (.int .i64 p.base) (fun w' hw' => Eq.trans (show (execOp _ _).run _ w' = .ok (.value (.int .i64 (IntKind.i64.wrap p.base))) w' by kernel_rfl) (by rw [hcb])) ?_
    refine below_run (by kernel_rfl) (.pointer (some ⟨w.heap.size + 1, 28, none⟩)) (fun w' hw' => by kernel_rfl) ?_
    refine below_run (by kernel_rfl) (.int .i16 p.fill) (fun w' hw' => exec_load1 27 (.tmp 41) rfl ⟨w.heap.size + 1, 28, none⟩ (by kernel_rfl) (.int .i16 p.fill) ((HK23.out.next hw').cell 28 _ (pcV_fill HP.out)) _ Tryz.underlying27 rfl) ?_
    refine below_run (by kernel_rfl) (.int .i64 p.fill) (fun w' hw' => Eq.trans (show (execOp _ _).run _ w' = .ok (.value (.int .i64 (IntKind.i64.wrap p.fill))) w' by kernel_rfl) (by rw [hcf])) ?_
    refine below_run (by kernel_rfl) (.string o) (fun w' hw' => by kernel_rfl) ?_
    refine below_call (by kernel_rfl) 50 #[.string o] (.string ⟨x.toArray⟩) (fun w' => by kernel_rfl) (fun w' hw' => (HLO.out w' hw').mono fun e w1 ⟨he, hb1⟩ => ⟨he, below_step hw' hb1⟩) ?_
    refine below_run (by kernel_rfl) (.int .i64 x.length) (fun w' hw' => Eq.trans (show (execOp _ _).run _ w' = .ok (.value (.int .i64 ((⟨x.toArray⟩ : ByteArray).size : Nat))) w' by kernel_rfl) (by rw [hxs])) ?_
    refine below_run (by kernel_rfl) (.int .i64 K.length) (fun w' hw' => by kernel_rfl) ?_
    refine below_run (by kernel_rfl) (.int .i64 ((x.length : Int) - (K.length : Int))) (fun w' hw' => Eq.trans (show (execOp _ _).run _ w' = .ok (.value (.int .i64 (IntKind.i64.wrap ((x.length : Int) - (K.length : Int))))) w' by kernel_rfl) (by rw [hs1])) ?_
    refine below_run (by kernel_rfl) (.int .i64 (p.fill * ((x.length : Int) - (K.length : Int)))) (fun w' hw' => Eq.trans (show (execOp _ _).run _ w' = .ok (.value (.int .i64 (IntKind.i64.wrap (p.fill * ((x.length : Int) - (K.length : Int)))))) w' by kernel_rfl) (by rw [hs2])) ?_
    refine below_run (by kernel_rfl) (.int .i64 (rcS f p x y pa qa d 0)) (fun w' hw' => Eq.trans (show (execOp _ _).run _ w' = .ok (.value (.int .i64 (IntKind.i64.wrap (p.base + p.fill * ((x.length : Int) - (K.length : Int)))))) w' by kernel_rfl) (by rw [hs3])) ?_
    refine below_run (by kernel_rfl) (.int .i64 (rcS f p x y pa qa d 0)) (fun w' hw' => by kernel_rfl) ?_
    refine wpQuiet_nil ?_
    intro W4 hW4
    simp only [Act.put, List.setIfInBounds_toArray, List.set_cons_succ, List.set_cons_zero]
    have HK14 := Lib.hid (HK13.out.next hW4)
    have HK24 := Lib.hid (HK23.out.next hW4)
    have HM4 := Lib.hid (HM3.out.next hW4)
    have HO4 := Lib.hid (HO3.out.next hW4)
    have HB4 := Lib.hid (below_step HBW.out hW4)
    clear hW4 hcb hcf hs1 hs2 hs3 hxs
    go_wp2_with (go_at_call 50; refine (letters_impl s _ hs HM4.out).mono ?_; rw [← HY.out]; rintro e w5 ⟨rfl, hb⟩)
    have hs2 : (⟨y.toArray⟩ : ByteArray).size = y.length := by show y.toArray.size = _; simp
    have hb2 := Lib.bytesWorld_below w5 5 ⟨y.toArray⟩
    have hcb : ∀ k, k < y.length → (Lib.bytesWorld w5 5 ⟨y.toArray⟩).cell? ⟨w5.heap.size, k, none⟩ = some (.int .u8 (byt y k)) := fun k hk => by
      rw [Lib.bytesWorld_cell w5 _ _ k (by rw [hs2]; exact hk)]
      rfl
    have hsz2 := Lib.bytesWorld_size w5 5 ⟨y.toArray⟩
    have hbw := below_step hb hb2
    have hzb : w5.heap.size < (Lib.bytesWorld w5 5 ⟨y.toArray⟩).heap.size := by rw [hsz2]; omega
    generalize Lib.bytesWorld w5 5 ⟨y.toArray⟩ = W6 at *
    generalize grownCap w5 y.length 0 5 = cg
    have HCB := Lib.hid hcb
    have HK16 := Lib.hid (HK14.out.next hbw)
    have HK26 := Lib.hid (HK24.out.next hbw)
    have HO6 := Lib.hid (HO4.out.next hbw)
    have HB6 := Lib.hid (below_step HB4.out hbw)
    clear kc hs2 hb2 hsz2 hcb hb hbw
    generalize w5.heap.size = g1 at *
    go_loopw [14, 55] (fun u i wr => ∃ k : Nat, k ≤ y.length ∧ i = .int .i64 (k : Int) ∧ u = .int .i64 (rcS f p x y pa qa d k) ∧ Below W6.heap.size W6 wr) (fun _ i _ => y.length - (intOf i).toNat)
    case atStart => exact ⟨0, Nat.zero_le _, rfl, rfl, Below.refl _ _⟩
    case round =>
      obtain ⟨k, hk, rfl, rfl, hbel⟩ := hrel
      by_cases hlt : k < y.length
      · have hcell := (hbel.cell (p := ⟨g1, k, none⟩) hzb).trans (HCB.out k hlt)
        have HMK := Lib.hid (HKM.out k hlt)
        have hr0 := HRG.out k hk
        have hr1 := HRG.out (k + 1) hlt
        have hlr := letP_range HV.out HPV.out (HLY.out k hlt)
        cases hkb : kbN x y pa qa d k x.length
        · have HN2 := Lib.hid (rcS_no (f := f) (p := p) hkb)
          rw [hkb] at HMK
          clear hkb
          go_wp2_with fail
          go_at_call 51
          refine (contains64_any A3 _ c3 K k _ rfl (by omega) (HO6.out.next hbel).sl).mono ?_
          rintro e w6 ⟨rfl, hb6⟩
          rw [HMK.out]
          have hbel6 := below_step hbel hb6
          have hk1 := HK16.out.next hbel6
          have hk2 := HK26.out.next hbel6
          go_wp2_with (first
            | (refine wpList_load_row rfl 38 (.tmp 5) rfl _ rfl 38 (pcV p).toArray _ _ hk2 Tryz.underlying38 rfl HZ2.out ?_)
            | (refine wpList_load_row rfl 36 (.tmp 4) rfl _ rfl 36 (fcV f (.slice A n c)).toArray _ _ hk1 Tryz.underlying36 rfl HZ.out ?_)
            | (go_at_call 52; refine (costL_impl f p A n c y k _ HF.out HP.out HV.out HPV.out (HLY.out k hlt)).mono ?_; rintro e w7 ⟨rfl, hb7⟩))
          go_roundw
          case rel => exact ⟨k + 1, by omega, by go_num, by rw [HN2.out], below_step hbel6 hb7⟩
          case measure => simp [intOf]; omega
        · have HN2 := Lib.hid (rcS_yes (f := f) (p := p) hkb)
          rw [hkb] at HMK
          clear hkb
          go_wp2_with (go_at_call 51; refine (contains64_any A3 _ c3 K k _ rfl (by omega) (HO6.out.next hbel).sl).mono ?_; rintro e w6 ⟨rfl, hb6⟩; rw [HMK.out])
          go_roundw
          case rel => exact ⟨k + 1, by omega, by go_num, by rw [HN2.out], below_step hbel hb6⟩
          case measure => simp [intOf]; omega
      · obtain rfl : k = y.length := by omega
        have HFI := Lib.hid (below_step HB6.out hbel)
        go_wp2
        go_ret2
        exact ⟨rfl, HFI.out⟩
  · have HO := Lib.hid (show rcR f p (bs o) (bs s) = (0, cd) by
      have e1 : cd = 1 := by
        have := hcd
        unfold rcC at this
        split at this
        · exact absurd this h0
        · exact this
      unfold rcR; rw [if_neg (by rw [← hcd]; exact h0), e1])
    clear hcd
    rw [HO.out]
    go_enter Tryz.func19, Tryz.ntmps19
    go_wp2_with (first
      | (refine wpList_load_row rfl 36 (.tmp 4) rfl _ rfl 36 (fcV f (.slice A n c)).toArray _ _ hk1 Tryz.underlying36 rfl HZ.out ?_)
      | (refine wpList_load_row rfl 38 (.tmp 5) rfl _ rfl 38 (pcV p).toArray _ _ hk2 Tryz.underlying38 rfl HZ2.out ?_)
      | (go_at_call 29; refine (priceCode_any f p A _ n c 2 2 [bs o, bs s] _ HF.out HP.out HN.out hm rfl (by omega) HLS.out HS.out HSL0.out HM.out).mono ?_; rintro e w1 ⟨he, hb1⟩; rw [pccN_two, ← HC.out] at he; subst he; have hk1 := HK1.out.next hb1)
      | fail)
    go_ret2
    exact ⟨rfl, below_step HBB.out hb1⟩
end Go.Proofs.YtonnplaacebekaaGreatDoor
