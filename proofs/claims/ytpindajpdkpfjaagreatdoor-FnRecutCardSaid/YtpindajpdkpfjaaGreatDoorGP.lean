/- Prices, plain: what is valid, what letters and texts cost. No walk here. Contracts: prices, by the reference. Contracts: what letters and texts cost, words joined, by the reference. Contracts: prices, by the program: what is valid, over closures on small numbers and on texts. Contracts: prices, by the program: what is valid, what letters and texts cost. Contracts: as many words as a budget buys, by the reference, by the program. -/
import Derived.Test.YtpindajpdkpfjaaGreatDoorShP
import Derived.Test.YtpindajpdkpfjaaGreatDoorShA
import Derived.Test.YtpindajpdkpfjaaGreatDoorGC
import Derived.Test.YtpindajpdkpfjaaGreatDoorGO
import Derived.Test.YtpindajpdkpfjaaGreatDoorAppN
import Derived.Test.YtpindajpdkpfjaaGreatDoorShY
import Derived.Shelf.Abstract
import Derived.Lib.ConvBytes
import Derived.Lib.AtoiErrMem
import Derived.Test.YtpindajpdkpfjaaGreatDoorGG
namespace Go.Proofs.YtpindajpdkpfjaaGreatDoor
open Go Go.RowKit
set_option linter.unusedVariables false
set_option linter.unusedSimpArgs false

structure Pc where
  lett : List Int
  gold : Int
  base : Int
  fill : Int
/-- Prices of Go's. -/
structure PcT (p : Pc) : Prop where
  len : p.lett.length = 26
  lett : ∀ i, i < 26 → -32768 ≤ rdI p.lett i ∧ rdI p.lett i ≤ 32767
  gold : -32768 ≤ p.gold ∧ p.gold ≤ 32767
  base : -32768 ≤ p.base ∧ p.base ≤ 32767
  fill : -32768 ≤ p.fill ∧ p.fill ≤ 32767
def AllLt (p : Pc) (k : Nat) : Prop := ∀ i, i < k → inB 0 1000 (rdI p.lett i) = true
instance (p : Pc) (k : Nat) : Decidable (AllLt p k) := by unfold AllLt; infer_instance
def pcOk (p : Pc) : Bool := decide (AllLt p 26) && inB 0 1000 p.gold && inB 0 1000 p.base && inB 0 1000 p.fill
structure PcV (p : Pc) : Prop where
  lett : ∀ i, i < 26 → 0 ≤ rdI p.lett i ∧ rdI p.lett i ≤ 1000
  gold : 0 ≤ p.gold ∧ p.gold ≤ 1000
  base : 0 ≤ p.base ∧ p.base ≤ 1000
  fill : 0 ≤ p.fill ∧ p.fill ≤ 1000
theorem pcOk_iff {p : Pc} : pcOk p = true ↔ PcV p := by
  unfold pcOk
  simp only [Bool.and_eq_true, decide_eq_true_iff, inB_iff]
  constructor
  · rintro ⟨⟨⟨h1, h2⟩, h3⟩, h4⟩
    exact ⟨fun i hi => inB_iff.1 (h1 i hi), h2, h3, h4⟩
  · rintro ⟨h1, h2, h3, h4⟩
    exact ⟨⟨⟨fun i hi => inB_iff.2 (h1 i hi), h2⟩, h3⟩, h4⟩
theorem allLt_zero (p : Pc) : AllLt p 0 := fun i hi => by omega
theorem allLt_succ {p : Pc} {k : Nat} (h : AllLt p k) (hk : inB 0 1000 (rdI p.lett k) = true) : AllLt p (k + 1) := fun j hj => by
  rcases Nat.lt_succ_iff_lt_or_eq.1 hj with h1 | rfl
  · exact h j h1
  · exact hk
theorem pc_lt {p : Pc} {k : Nat} (hk : k < 26) (h : inB 0 1000 (rdI p.lett k) = false) : pcOk p = false := by
  unfold pcOk
  rw [decide_eq_false (fun hh : AllLt p 26 => by rw [hh k hk] at h; cases h)]; rfl
theorem pc_all {p : Pc} (h : AllLt p 26) : pcOk p = (inB 0 1000 p.gold && inB 0 1000 p.base && inB 0 1000 p.fill) := by
  unfold pcOk; rw [decide_eq_true h]; rfl
/-- What a letter costs, what so many letters of a list cost with the base. -/
def letP (f : Fc) (p : Pc) (n : Int) : Int := rdI p.lett (n - 65).toNat + p.gold * letW f n
def prcN (f : Fc) (p : Pc) (l : List UInt8) : Nat → Int
  | 0 => p.base
  | k + 1 => prcN f p l k + letP f p (byt l k)
def prcW (f : Fc) (p : Pc) (l : List UInt8) : Int := prcN f p (lets l) (lets l).length
theorem mul_range {a b : Int} (ha : 0 ≤ a ∧ a ≤ 1000) (hb : 1 ≤ b ∧ b ≤ 40) : 0 ≤ a * b ∧ a * b ≤ 40000 := by
  refine ⟨Int.mul_nonneg ha.1 (by omega), ?_⟩
  calc a * b ≤ 1000 * b := Int.mul_le_mul_of_nonneg_right ha.2 (by omega)
    _ ≤ 40000 := by omega
theorem letP_range {f : Fc} {p : Pc} (hf : FcV f) (hp : PcV p) {n : Int} (hn : isLet n = true) : 0 ≤ letP f p n ∧ letP f p n ≤ 41000 ∧ 0 ≤ p.gold * letW f n ∧ p.gold * letW f n ≤ 40000 := by
  have h1 := isLet_iff.1 hn
  have h2 := letW_range hf hn
  have h3 := hp.lett (n - 65).toNat (by omega)
  have h4 := mul_range hp.gold h2
  unfold letP
  omega
theorem prcN_range {f : Fc} {p : Pc} (hf : FcV f) (hp : PcV p) {l : List UInt8} (hl : LL l) : ∀ k, k ≤ l.length → 0 ≤ prcN f p l k ∧ prcN f p l k ≤ 1000 + 41000 * (k : Int)
  | 0, _ => by
    have := hp.base
    rw [prcN]; omega
  | k + 1, hk => by
    have h1 := prcN_range hf hp hl k (by omega)
    have h2 := letP_range hf hp (hl k (by omega))
    rw [prcN]; push_cast; omega
theorem prcW_range {f : Fc} {p : Pc} (hf : FcV f) (hp : PcV p) {l : List UInt8} (hl : LS l) (h60 : l.length ≤ 60) : 0 ≤ prcW f p l ∧ prcW f p l ≤ 2461000 := by
  have h1 := prcN_range hf hp (lets_ll hl) _ (Nat.le_refl _)
  have h2 := lets_length l
  unfold prcW
  omega
/-- The code of a face, prices and a text, and whether a number is as told. -/
def pcC (f : Fc) (p : Pc) (l : List UInt8) (fine : Bool) : Int := if validF f && pcOk p && vText l then (if fine then 0 else 2) else 1
theorem pcC_f {f : Fc} {p : Pc} {l : List UInt8} {b : Bool} (h : validF f = false) : pcC f p l b = 1 := by unfold pcC; rw [h]; rfl
theorem pcC_p {f : Fc} {p : Pc} {l : List UInt8} {b : Bool} (h : pcOk p = false) : pcC f p l b = 1 := by unfold pcC; rw [h]; simp
theorem pcC_t {f : Fc} {p : Pc} {l : List UInt8} {b : Bool} (h : vText l = false) : pcC f p l b = 1 := by unfold pcC; rw [h]; simp
theorem pcC_ok {f : Fc} {p : Pc} {l : List UInt8} {b : Bool} (h : validF f = true) (k : pcOk p = true) (t : vText l = true) : pcC f p l b = if b then 0 else 2 := by unfold pcC; rw [h, k, t]; rfl
theorem pcC_zero {f : Fc} {p : Pc} {l : List UInt8} {b : Bool} (h : pcC f p l b = 0) : validF f = true ∧ pcOk p = true ∧ vText l = true ∧ b = true := by
  unfold pcC at h
  split at h
  · rename_i hh
    simp only [Bool.and_eq_true] at hh
    split at h
    · exact ⟨hh.1.1, hh.1.2, hh.2, by assumption⟩
    · exact absurd h (by decide)
  · exact absurd h (by decide)
theorem pcC_true {f : Fc} {p : Pc} {l : List UInt8} (h : ¬ pcC f p l true = 0) (b : Bool) : pcC f p l b = 1 := by
  unfold pcC at h ⊢
  split
  · rename_i hh; rw [if_pos hh] at h; simp at h
  · rfl

/-! ### In memory -/
def i16v (n : Int) : Value := .int .i16 n
def pcV (p : Pc) : List Value := p.lett.map i16v ++ [.int .i16 p.gold, .int .i16 p.base, .int .i16 p.fill]
theorem pcV_length {p : Pc} (h : PcT p) : (pcV p).length = 29 := by simp [pcV, h.len]
theorem pcV_lett {p : Pc} (h : PcT p) (i : Nat) (hi : i < 26) : (pcV p)[i]? = some (.int .i16 (rdI p.lett i)) := by
  unfold pcV
  rw [List.getElem?_append_left (by simp [h.len]; exact hi), List.getElem?_map, List.getElem?_eq_getElem (by rw [h.len]; exact hi)]
  simp [rdI, List.getD, List.getElem?_eq_getElem (show i < p.lett.length by rw [h.len]; exact hi), i16v]
theorem pcV_gold {p : Pc} (h : PcT p) : (pcV p)[26]? = some (.int .i16 p.gold) := by
  unfold pcV; rw [List.getElem?_append_right (by simp [h.len])]; simp [h.len]
theorem pcV_base {p : Pc} (h : PcT p) : (pcV p)[27]? = some (.int .i16 p.base) := by
  unfold pcV; rw [List.getElem?_append_right (by simp [h.len])]; simp [h.len]
theorem pcV_fill {p : Pc} (h : PcT p) : (pcV p)[28]? = some (.int .i16 p.fill) := by
  unfold pcV; rw [List.getElem?_append_right (by simp [h.len])]; simp [h.len]
theorem szPcI : (Tryz.prog.info? 33).map (·.size) = some 29 := by kernel_rfl
theorem one_i16 (xs : List Int) : (xs.map i16v).toArray.all (·.oneCell') = true := by
  rw [Array.all_eq_true_iff_forall_mem]
  intro v hv
  simp only [List.mem_toArray, List.mem_map] at hv
  obtain ⟨n, _, rfl⟩ := hv
  rfl
theorem one_pc (p : Pc) : (pcV p).toArray.all (·.oneCell') = true := by
  rw [Array.all_eq_true_iff_forall_mem]
  intro v hv
  simp only [List.mem_toArray, pcV, List.mem_append, List.mem_map, List.mem_cons, List.not_mem_nil, or_false] at hv
  rcases hv with ⟨n, _, rfl⟩ | rfl | rfl | rfl <;> rfl
end Go.Proofs.YtpindajpdkpfjaaGreatDoor
namespace Go.Proofs.YtpindajpdkpfjaaGreatDoor
open Go Go.RowKit
set_option linter.unusedVariables false
set_option linter.unusedSimpArgs false

set_option maxRecDepth 100000 in
theorem prices_spec (p : Pc) (b : Nat) (w : World) (hp : PcT p) (h : Blk w b 33 (pcV p)) :
    Calls Tryz.prog 34 #[.pointer (some ⟨b, 0, none⟩)] w fun e w' => e = .returned (.bool (pcOk p)) ∧ w = w' := by
  have HP := Lib.hid hp
  have HK := Lib.hid h
  have c26 := h.cell 26 _ (pcV_gold hp)
  have c27 := h.cell 27 _ (pcV_base hp)
  have c28 := h.cell 28 _ (pcV_fill hp)
  have t1 := hp.gold
  have t2 := hp.base
  have t3 := hp.fill
  clear hp h
  go_enter Tryz.func34, Tryz.ntmps34
  go_wp2
  go_loop [3] (fun i => ∃ k : Nat, k ≤ 26 ∧ i = .int .i64 k ∧ AllLt p k) (fun i => 26 - (intOf i).toNat)
  case atStart => exact ⟨0, by omega, rfl, allLt_zero _⟩
  case round =>
    obtain ⟨k, hk, rfl, hr⟩ := hrel
    have HR := Lib.hid hr
    clear hr
    by_cases hlt : k < 26
    · have hc := HK.out.cell k _ (pcV_lett HP.out k hlt)
      have tw := HP.out.lett k hlt
      cases hl : inB 0 1000 (rdI p.lett k)
      · have HQ := Lib.hid (pc_lt hlt hl)
        have HL := Lib.hid hl
        go_wp2_with (go_at_call 40; refine (inS_any _ _ _ _).mono ?_; rintro e w' ⟨rfl, rfl⟩)
        go_ret
        exact ⟨retB HQ.out.symm, rfl⟩
      · have HQ := Lib.hid (allLt_succ HR.out hl)
        have HL := Lib.hid hl
        go_wp2_with (go_at_call 40; refine (inS_any _ _ _ _).mono ?_; rintro e w' ⟨rfl, rfl⟩)
        go_round
        case rel => exact ⟨k + 1, by omega, by go_num, HQ.out⟩
        case measure => simp [intOf]; omega
    · obtain rfl : k = 26 := by omega
      have HA := Lib.hid (pc_all HR.out)
      cases hg : inB 0 1000 p.gold
      · have HQ := Lib.hid (show pcOk p = false by rw [HA.out, hg]; rfl)
        go_wp2_with (go_at_call 40; refine (inS_any _ _ _ _).mono ?_; rintro e w' ⟨rfl, rfl⟩)
        go_ret
        exact ⟨retB HQ.out.symm, rfl⟩
      · cases hb : inB 0 1000 p.base
        · have HQ := Lib.hid (show pcOk p = false by rw [HA.out, hg, hb]; rfl)
          go_wp2_with (go_at_call 40; refine (inS_any _ _ _ _).mono ?_; rintro e w' ⟨rfl, rfl⟩)
          go_ret
          exact ⟨retB HQ.out.symm, rfl⟩
        · have HQ := Lib.hid (show pcOk p = inB 0 1000 p.fill by rw [HA.out, hg, hb]; rfl)
          go_wp2_with (go_at_call 40; refine (inS_any _ _ _ _).mono ?_; rintro e w' ⟨rfl, rfl⟩)
          go_ret
          exact ⟨retB HQ.out.symm, rfl⟩

end Go.Proofs.YtpindajpdkpfjaaGreatDoor
namespace Go.Proofs.YtpindajpdkpfjaaGreatDoor
open Go Go.RowKit
set_option linter.unusedVariables false
set_option linter.unusedSimpArgs false

theorem szI16 : (Tryz.prog.info? 30).map (·.size) = some 1 := by kernel_rfl
theorem szI8 : (Tryz.prog.info? 24).map (·.size) = some 1 := by kernel_rfl

attribute [local irreducible] wpQuiet in
set_option maxHeartbeats 1000000 in
set_option maxRecDepth 100000 in
theorem costL_spec (f : Fc) (p : Pc) (n b0 b : Nat) (x : Int) (w : World) (hf : FcT f) (hp : PcT p) (hV : FcV f) (hP : PcV p) (hx : isLet x = true) (h : FcAt w b0 f n) (hb : Blk w b 33 (pcV p)) :
    Calls Tryz.prog 38 #[.pointer (some ⟨b0, 0, none⟩), .pointer (some ⟨b, 0, none⟩), .int .u8 x] w fun e w' => e = .returned (.int .i64 (letP f p x)) ∧ Below w.heap.size w w' := by
  obtain ⟨A, c, hk, hs⟩ := h
  have hr := letP_range hV hP hx
  have hlt := isLet_iff.1 hx
  obtain ⟨k, hk0⟩ : ∃ k, k = (x - 65).toNat := ⟨_, rfl⟩
  have hN : k < 26 := by omega
  have hsub : IntKind.u8.wrap (x - 65) = ((k : Nat) : Int) := by rw [IntWalk.u8_in _ (by omega)]; omega
  have h1 := hp.lett k hN
  have h2 := hf.wide k hN
  have h3 := hp.gold
  have hc1 : IntKind.i64.wrap (rdI p.lett k) = rdI p.lett k := IntWalk.i64_in _ (by omega)
  have hc2 : IntKind.i64.wrap p.gold = p.gold := IntWalk.i64_in _ (by omega)
  have hc3 : IntKind.i64.wrap (rdI f.wide k) = rdI f.wide k := IntWalk.i64_in _ (by omega)
  have hE : letP f p x = rdI p.lett k + p.gold * rdI f.wide k := by unfold letP letW; rw [← hk0]
  have hW : letW f x = rdI f.wide k := by unfold letW; rw [← hk0]
  rw [hW, hE] at hr
  rw [hE]
  have hmul : IntKind.i64.wrap (p.gold * rdI f.wide k) = p.gold * rdI f.wide k := IntWalk.i64_in _ (by omega)
  have hadd : IntKind.i64.wrap (rdI p.lett k + p.gold * rdI f.wide k) = rdI p.lett k + p.gold * rdI f.wide k := IntWalk.i64_in _ (by omega)
  have HK := Lib.hid hk
  have HB := Lib.hid hb
  have HF := Lib.hid hf
  have HP := Lib.hid hp
  clear hk hb hf hp hE hW hk0 h1 h2 h3 hr hV hP hs
  go_enter Tryz.func38, Tryz.ntmps38
  go_wp2
  refine region_below (w.heap.size) (by kernel_rfl) (by kernel_rfl) ?_
  refine below_run (by kernel_rfl) (.pointer (some ⟨b, 0, none⟩)) (fun w' hw' => by kernel_rfl) ?_
  refine below_run (by kernel_rfl) (.int .u8 x) (fun w' hw' => by kernel_rfl) ?_
  refine below_run (by kernel_rfl) (.int .u8 (k : Nat)) (fun w' hw' => Eq.trans (show (execOp _ _).run _ w' = .ok (.value (.int .u8 (IntKind.u8.wrap (x - 65)))) w' by kernel_rfl) (by rw [hsub])) ?_
  refine below_run (by kernel_rfl) (.pointer (some ⟨b, 0, none⟩)) (fun w' hw' => by kernel_rfl) ?_
  refine below_run (by kernel_rfl) (.pointer (some ⟨b, 0, none⟩)) (fun w' hw' => by kernel_rfl) ?_
  refine below_run (by kernel_rfl) (.pointer (some (Addr.add ⟨b, 0, none⟩ (k * 1)))) (fun w' hw' => exec_indexA 31 (.tmp 11) (.tmp 9) rfl ⟨b, 0, none⟩ (by kernel_rfl) .u8 k (by kernel_rfl) 26 hN 30 Tryz.underlying31 1 szI16) ?_
  refine below_run (by kernel_rfl) (.int .i16 (rdI p.lett k)) (fun w' hw' => exec_load1 30 (.tmp 12) rfl (Addr.add ⟨b, 0, none⟩ (k * 1)) (by kernel_rfl) (.int .i16 (rdI p.lett k)) (by rw [add_mid, Nat.mul_one, Nat.zero_add]; exact (HB.out.next hw').cell k _ (pcV_lett HP.out k hN)) _ Tryz.underlying30 rfl) ?_
  refine below_run (by kernel_rfl) (.int .i64 (rdI p.lett k)) (fun w' hw' => Eq.trans (show (execOp _ _).run _ w' = .ok (.value (.int .i64 (IntKind.i64.wrap (rdI p.lett k)))) w' by kernel_rfl) (by rw [hc1])) ?_
  refine below_run (by kernel_rfl) (.pointer (some ⟨b, 0, none⟩)) (fun w' hw' => by kernel_rfl) ?_
  refine below_run (by kernel_rfl) (.pointer (some ⟨b, 0, none⟩)) (fun w' hw' => by kernel_rfl) ?_
  refine below_run (by kernel_rfl) (.pointer (some ⟨b, 26, none⟩)) (fun w' hw' => by kernel_rfl) ?_
  refine below_run (by kernel_rfl) (.int .i16 p.gold) (fun w' hw' => exec_load1 30 (.tmp 17) rfl ⟨b, 26, none⟩ (by kernel_rfl) (.int .i16 p.gold) ((HB.out.next hw').cell 26 _ (pcV_gold HP.out)) _ Tryz.underlying30 rfl) ?_
  refine below_run (by kernel_rfl) (.int .i64 p.gold) (fun w' hw' => Eq.trans (show (execOp _ _).run _ w' = .ok (.value (.int .i64 (IntKind.i64.wrap p.gold))) w' by kernel_rfl) (by rw [hc2])) ?_
  refine below_run (by kernel_rfl) (.pointer (some ⟨b0, 0, none⟩)) (fun w' hw' => by kernel_rfl) ?_
  refine below_run (by kernel_rfl) (.int .u8 x) (fun w' hw' => by kernel_rfl) ?_
  refine below_run (by kernel_rfl) (.int .u8 (k : Nat)) (fun w' hw' => Eq.trans (show (execOp _ _).run _ w' = .ok (.value (.int .u8 (IntKind.u8.wrap (x - 65)))) w' by kernel_rfl) (by rw [hsub])) ?_
  refine below_run (by kernel_rfl) (.pointer (some ⟨b0, 0, none⟩)) (fun w' hw' => by kernel_rfl) ?_
  refine below_run (by kernel_rfl) (.pointer (some ⟨b0, 0, none⟩)) (fun w' hw' => by kernel_rfl) ?_
  refine below_run (by kernel_rfl) (.pointer (some (Addr.add ⟨b0, 0, none⟩ (k * 1)))) (fun w' hw' => exec_indexA 25 (.tmp 24) (.tmp 22) rfl ⟨b0, 0, none⟩ (by kernel_rfl) .u8 k (by kernel_rfl) 26 hN 24 Tryz.underlying25 1 szI8) ?_
  refine below_run (by kernel_rfl) (.int .i8 (rdI f.wide k)) (fun w' hw' => exec_load1 24 (.tmp 25) rfl (Addr.add ⟨b0, 0, none⟩ (k * 1)) (by kernel_rfl) (.int .i8 (rdI f.wide k)) (by rw [add_mid, Nat.mul_one, Nat.zero_add]; exact (HK.out.next hw').cell k _ (fcV_wide HF.out _ k hN)) _ Tryz.underlying24 rfl) ?_
  refine below_run (by kernel_rfl) (.int .i64 (rdI f.wide k)) (fun w' hw' => Eq.trans (show (execOp _ _).run _ w' = .ok (.value (.int .i64 (IntKind.i64.wrap (rdI f.wide k)))) w' by kernel_rfl) (by rw [hc3])) ?_
  refine below_run (by kernel_rfl) (.int .i64 (p.gold * rdI f.wide k)) (fun w' hw' => Eq.trans (show (execOp _ _).run _ w' = .ok (.value (.int .i64 (IntKind.i64.wrap (p.gold * rdI f.wide k)))) w' by kernel_rfl) (by rw [hmul])) ?_
  refine below_run (by kernel_rfl) (.int .i64 (rdI p.lett k + p.gold * rdI f.wide k)) (fun w' hw' => Eq.trans (show (execOp _ _).run _ w' = .ok (.value (.int .i64 (IntKind.i64.wrap (rdI p.lett k + p.gold * rdI f.wide k)))) w' by kernel_rfl) (by rw [hadd])) ?_
  refine below_run (by kernel_rfl) (.int .i64 (rdI p.lett k + p.gold * rdI f.wide k)) (fun w' hw' => by kernel_rfl) ?_
  refine wpQuiet_nil ?_
  intro W3 hW3
  simp only [Act.put, List.setIfInBounds_toArray, List.set_cons_succ, List.set_cons_zero]
  clear hsub hc1 hc2 hc3 hmul hadd
  go_wp2
  go_ret
  exact ⟨rfl, hW3⟩

theorem str_cat (a b : List UInt8) (hl : a.length + b.length ≤ 100000) (w : World) : (Op.stringOp .add (⟨a.toArray⟩ : ByteArray) ⟨b.toArray⟩).run Tryz.prog w = .ok (.string ⟨(a ++ b).toArray⟩) w := by
  rw [run_string_add_sum w _ _ (by simp [ByteArray.size]; omega), ByteArray.mk_append_mk]
theorem joinW_take {ws : List (List UInt8)} {k : Nat} (hk : k < ws.length) : joinW (ws.take (k + 1)) = if k = 0 then joinW (ws.take k) ++ rdW ws k else joinW (ws.take k) ++ [32] ++ rdW ws k := by
  have e : ws.take (k + 1) = ws.take k ++ [rdW ws k] := by
    rw [List.take_succ_eq_append_getElem hk]
    unfold rdW
    rw [List.getD, List.getElem?_eq_getElem hk]; rfl
  rw [e]
  by_cases h0 : k = 0
  · subst h0
    rw [if_pos rfl, List.take_zero, List.nil_append, joinW_one, joinW_nil, List.nil_append]
  · rw [if_neg h0, joinW_snoc (by intro e2; have h3 := List.length_take (l := ws) (i := k); rw [e2, List.length_nil] at h3; omega)]
    simp
set_option maxHeartbeats 1000000 in
set_option maxRecDepth 100000 in
theorem joined_spec (A : Option Addr) (n c : Nat) (ws : List (List UInt8)) (w : World) (hn : ws.length = n) (hm : n ≤ 60) (h60 : ∀ x ∈ ws, x.length ≤ 60) (hs : SlE sv w A ws) :
    Calls Tryz.prog 49 #[.slice A n c] w fun e w' => e = .returned (.string ⟨(joinW ws).toArray⟩) ∧ Below w.heap.size w w' := by
  have hlen : ∀ k, k ≤ ws.length → (joinW (ws.take k)).length ≤ 61 * k := by
    intro k
    induction k with
    | zero => intro _; simp [joinW_nil]
    | succ k ih =>
      intro hk
      have h1 := ih (by omega)
      have h2 := h60 _ (rdW_mem (show k < ws.length by omega))
      rw [joinW_take (by omega)]
      split
      · rw [List.length_append]; omega
      · rw [List.length_append, List.length_append, List.length_singleton]; omega
  have HLEN := Lib.hid hlen
  have HN := Lib.hid hn
  have H60 := Lib.hid h60
  have HS := Lib.hid hs
  clear hlen hn h60 hs
  go_enter Tryz.func49, Tryz.ntmps49
  go_wp2
  go_loopw [3, 4] (fun u i wr => ∃ k : Nat, k ≤ n ∧ i = .int .i64 k ∧ u = .string ⟨(joinW (ws.take k)).toArray⟩ ∧ Below w.heap.size w wr) (fun _ i _ => n - (intOf i).toNat)
  case atStart => exact ⟨0, Nat.zero_le _, rfl, rfl, Below.refl _ _⟩
  case round =>
    obtain ⟨k, hk, rfl, rfl, hbel⟩ := hrel
    by_cases hlt : k < n
    · have hlw : k < ws.length := by rw [HN.out]; exact hlt
      obtain ⟨a, rfl, hrow⟩ := (HS.out.next hbel).some k hlw
      have hc := hrow.atW k hlw
      have hl1 := HLEN.out k (by omega)
      have hl2 := H60.out _ (rdW_mem hlw)
      clear hrow
      obtain ⟨J, hJ⟩ : ∃ J, J = joinW (ws.take k) := ⟨_, rfl⟩
      rw [← hJ] at hl1 ⊢
      have HJ := Lib.hid hJ
      clear hJ
      by_cases h0 : k = 0
      · have HT := Lib.hid (show joinW (ws.take (k + 1)) = J ++ rdW ws k by rw [joinW_take hlw, if_pos h0, HJ.out])
        have hcat := str_cat J (rdW ws k) (by omega)
        subst h0
        have hc : wr.cell? a = some (.string ⟨(rdW ws 0).toArray⟩) := by simpa [Addr.add] using hc
        go_wp2
        go_roundw
        case rel => exact ⟨0 + 1, by omega, by go_num, by rw [HT.out], hbel⟩
        case measure => simp [intOf]; omega
      · have HT := Lib.hid (show joinW (ws.take (k + 1)) = J ++ [32] ++ rdW ws k by rw [joinW_take hlw, if_neg h0, HJ.out])
        have hcat1 := str_cat J [32] (by simp; omega)
        have hcat2 := str_cat (J ++ [32]) (rdW ws k) (by simp; omega)
        have hpos : 0 < k := by omega
        go_wp2
        go_roundw
        case rel => exact ⟨k + 1, by omega, by go_num, by rw [HT.out, List.append_assoc]; rfl, hbel⟩
        case measure => simp [intOf]; omega
    · obtain rfl : k = n := by omega
      have HT := Lib.hid (show ws.take k = ws by rw [← HN.out, List.take_length])
      go_wp2
      go_ret
      rw [HT.out]
      exact ⟨rfl, hbel⟩
end Go.Proofs.YtpindajpdkpfjaaGreatDoor
namespace Go.Proofs.YtpindajpdkpfjaaGreatDoor
open Go Go.RowKit Go.Shelf
set_option linter.unusedVariables false
set_option linter.unusedSimpArgs false

section
variable {P : Program} {ops : Array Oper} {Q : Exit → Act → World → Prop} {a : Act} {w W : World} {B : Nat}
/-- 'append(clone(row), us...)': the call and the new slice side by side, then the append. -/
theorem held_clone_appN {fuel : Nat} {listed : Array Bool} {oi oj ok : Oper} (i j k : Nat) (hi : ops[i]? = some oi) (hj : ops[j]? = some oj) (hk : ops[k]? = some ok) (hij : i ≠ j)
    (r0 : Region.ready .any ops listed = [i, j]) (rI : Region.ready .any ops (listed.setIfInBounds i true) = [j]) (rJ : Region.ready .any ops (listed.setIfInBounds j true) = [i]) (rK : Region.ready .any ops ((listed.setIfInBounds i true).setIfInBounds j true) = [k])
    (gi : oi.guard = none) (gj : oj.guard = none) (gk : ok.guard = none) (f : FuncId) (args : Array Value)
    (he0 : ∀ w', (execOp a.eval oi).run P w' = .ok (.enter f args) w') (he1 : ∀ p w', (execOp (a.put oj.dst p).eval oi).run P w' = .ok (.enter f args) w')
    (s x : Operand) (t : TypeId) (ho : ok.op = .call { callee := .builtin .append, args := #[s, x], argTypes := #[t, t] }) {e : TypeId} {z : Value} {bytes : Nat} (E : El P t e z 1 bytes) (us : List Value) (m : Nat) (hm : us.length = m) (hm0 : 0 < m) (hu : ∀ u ∈ us, u.oneCell' = true)
    (ej0 : ∀ w', (execOp a.eval oj).run P w' = .ok (.value (.slice (some ⟨w'.heap.size, 0, none⟩) m m)) (w'.alloc (.cells us.toArray e)))
    (ej1 : ∀ p w', (execOp (a.put oi.dst p).eval oj).run P w' = .ok (.value (.slice (some ⟨w'.heap.size, 0, none⟩) m m)) (w'.alloc (.cells us.toArray e)))
    (evs : ∀ p q, ((a.put oi.dst p).put oj.dst q).eval s = p) (evx : ∀ p q, ((a.put oi.dst p).put oj.dst q).eval x = q) (cm : ∀ p q, (a.put oj.dst q).put oi.dst p = (a.put oi.dst p).put oj.dst q)
    (n : Nat) (xs : List Value) (hc : ∀ w', Below B W w' → Calls P f args w' fun e' w'' => ∃ v, e' = .returned v ∧ w''.ownsRow w'.heap.size e 1 v n xs ∧ Below w'.heap.size w' w'')
    (hn : n + m ≤ maxLen) (hbytes : (n + m) * bytes ≤ 140737488355328) (hB : B ≤ w.heap.size) (hS : Below B W w)
    (h : ∀ p q v' w', Below B W w' → w'.ownsRow B e 1 v' (n + m) (xs ++ us) → wpAnyH P .any ops Q (fun w' => Below B W w') fuel (((listed.setIfInBounds i true).setIfInBounds j true).setIfInBounds k true) (((a.put oi.dst p).put oj.dst q).put ok.dst v') w') :
    wpAnyH P .any ops Q (fun w' => Below B W w') (fuel + 1 + 1 + 1) listed a w := by
  have last : ∀ (p : Value) (b5 : Nat) (w2 : World), Below B W w2 → w2.ownsRow B e 1 p n xs → Blk w2 b5 e us → B ≤ w2.heap.size →
      wpAnyH P .any ops Q (fun w' => Below B W w') (fuel + 1) ((listed.setIfInBounds i true).setIfInBounds j true) ((a.put oi.dst p).put oj.dst (.slice (some ⟨b5, 0, none⟩) m m)) w2 := by
    intro p b5 w2 hS2 hown hc5 hB2
    refine wpAnyH_all rK (by simp) fun q hq => ?_
    obtain rfl := List.mem_singleton.1 hq
    refine wpOp_append hk gk s x t ho E B p n xs (evs _ _) hown ⟨b5, 0, none⟩ m m us (evx _ _) hm (fun j v hj => ?_) hu hn hbytes hB2 fun v' w' ho' hg => ?_
    · rw [add_mid, Nat.zero_add]
      exact hc5.cell j v hj
    · have hS' := below_own hS2 hown hg (Nat.le_refl _) hB2
      exact ⟨hS', h _ _ v' w' hS' ho'⟩
  have hwi : ∀ y, Region.wanted oi y = true := fun y => by simp [Region.wanted, gi]
  refine wpAnyH_all r0 (by simp) fun q hq => ?_
  simp only [List.mem_cons, List.not_mem_nil, or_false] at hq
  rcases hq with rfl | rfl
  · refine wpOp_step hi fun K' hK => ?_
    rw [if_pos (hwi _)]
    unfold Oper.wp
    rw [he0, Oper.upon_enter]
    refine (hc w hS).mono ?_
    rintro e' w1 ⟨v, rfl, own, hb1⟩
    have hS1 := hS.trans (hb1.mono hB)
    have hz1 := hb1.size
    refine hK _ _ ⟨hS1, ?_⟩
    refine wpAnyH_all rI (by simp) fun q hq => ?_
    obtain rfl := List.mem_singleton.1 hq
    refine wpOp_val hj gj _ _ (ej1 _ w1) ?_
    have hS2 := hS1.alloc (show B ≤ w1.heap.size by omega) (.cells us.toArray e)
    exact ⟨hS2, last _ _ _ hS2 ((own_mono own hB).alloc _) (Blk.new w1 e us) (by simp; omega)⟩
  · refine wpOp_val hj gj _ _ (ej0 w) ?_
    have hS1 := hS.alloc hB (.cells us.toArray e)
    have hb5 := Blk.new w e us
    have hz1 : B ≤ (w.alloc (.cells us.toArray e)).heap.size := by simp; omega
    refine ⟨hS1, ?_⟩
    refine wpAnyH_all rJ (by simp) fun q hq => ?_
    obtain rfl := List.mem_singleton.1 hq
    refine wpOp_step hi fun K' hK => ?_
    rw [if_pos (hwi _)]
    unfold Oper.wp
    rw [he1, Oper.upon_enter]
    refine (hc _ hS1).mono ?_
    rintro e' w1 ⟨v, rfl, own, hb1⟩
    have hS2 := hS1.trans (hb1.mono hz1)
    have hz2 := hb1.size
    refine hK _ _ ⟨hS2, ?_⟩
    rw [cm, ← Array.setIfInBounds_comm true true hij]
    exact last _ _ _ hS2 (own_mono own hz1) (hb5.next hb1) (by omega)
end

/-- What is asked of a closure over a list's elements: it answers p, and leaves what lay in w. -/
def PredX {α : Type} (enc : α → Value) (g : Nat) (lb : Array Value) (p : α → Bool) (xs : List α) (w : World) : Prop :=
  ∀ (W : World) (x : α), x ∈ xs → Below w.heap.size w W → Calls Tryz.prog g (#[enc x] ++ lb) W fun e w' => e = .returned (.bool (p x)) ∧ Below W.heap.size W w'
def idxX {α : Type} (p : α → Bool) (xs : List α) : Int := if xs.findIdx p < xs.length then (xs.findIdx p : Int) else -1
theorem idxX_hit {α : Type} {p : α → Bool} {xs : List α} {k : Nat} (hk : k < xs.length) (h : p xs[k] = true) (hb : ∀ j x, j < k → xs[j]? = some x → p x = false) : idxX p xs = k := by
  have e : xs.findIdx p = k := by
    rw [List.findIdx_eq hk]
    exact ⟨h, fun j hj => hb j _ hj (List.getElem?_eq_getElem (by omega))⟩
  unfold idxX
  rw [e, if_pos hk]
theorem idxX_none {α : Type} {p : α → Bool} {xs : List α} (hb : ∀ (j : Nat) (x : α), xs[j]? = some x → p x = false) : idxX p xs = -1 := by
  unfold idxX
  rw [if_neg]
  intro h
  have h1 := List.findIdx_getElem (w := h)
  have h2 := hb _ _ (List.getElem?_eq_getElem h)
  rw [h1] at h2
  cases h2
theorem idxX_any {α : Type} (p : α → Bool) (xs : List α) : decide (0 ≤ idxX p xs) = xs.any p := by
  unfold idxX
  cases h : xs.any p
  · rw [if_neg]
    · rfl
    · intro h1
      have := List.findIdx_getElem (w := h1)
      rw [List.any_eq_false] at h
      exact h _ (List.getElem_mem h1) this
  · rw [List.any_eq_true] at h
    obtain ⟨x, hx, hp⟩ := h
    rw [if_pos (List.findIdx_lt_length_of_exists ⟨x, hx, hp⟩)]
    exact decide_eq_true (by omega)
theorem idxX_range {α : Type} (p : α → Bool) (xs : List α) : -1 ≤ idxX p xs ∧ idxX p xs ≤ xs.length := by
  unfold idxX
  split <;> omega

set_option maxHeartbeats 1000000 in
set_option maxRecDepth 100000 in
theorem indexH_any (g : Nat) (lb : Array Value) (eg : ∀ args w, (callFunc g args).run Tryz.prog w = .ok (.enter g args) w) (p : Int → Bool) (A : Option Addr) (n c : Nat) (xs : List (Int)) (w : World) (hn : xs.length = n) (hm : n ≤ 1048576) (hs : SlE i16v w A xs) (hp : PredX i16v g lb p xs w) :
    Calls Tryz.prog 91 #[.slice A n c, .func (.func g) #[] lb] w fun e w' => e = .returned (.int .i64 (idxX p xs)) ∧ Below w.heap.size w w' := by
  have HN := Lib.hid hn
  have HS := Lib.hid hs
  have HP := Lib.hid hp
  clear hn hs hp
  go_enter Tryz.func91, Tryz.ntmps91
  go_wp2
  go_loopw [5, 8] (fun _ i wr => ∃ k : Nat, k ≤ n ∧ i = .int .i64 k ∧ (∀ j x, j < k → xs[j]? = some x → p x = false) ∧ Below w.heap.size w wr) (fun _ i _ => n - (intOf i).toNat)
  case atStart => exact ⟨0, Nat.zero_le _, rfl, fun j x hj _ => absurd hj (Nat.not_lt_zero _), Below.refl _ _⟩
  case round =>
    obtain ⟨k, hk, rfl, hall, hbel⟩ := hrel
    have HALL := Lib.hid hall
    clear hall
    by_cases hlt : k < n
    · have hkx : k < xs.length := by rw [HN.out]; exact hlt
      obtain ⟨x, hx⟩ : ∃ x, x = xs[k] := ⟨_, rfl⟩
      have HX := Lib.hid (show xs[k]? = some x by rw [hx]; exact List.getElem?_eq_getElem hkx)
      have HXE := Lib.hid hx
      clear hx
      obtain ⟨a, rfl, hcell⟩ := (HS.out.next hbel) k x HX.out
      have hcall := HP.out wr x (by rw [HXE.out]; exact List.getElem_mem hkx) hbel
      cases hq : p x
      · rw [hq] at hcall
        have HQ := Lib.hid hq
        clear hq
        go_wp2_with (go_at_fn g; refine hcall.mono ?_; rintro e w' ⟨rfl, hb'⟩)
        have hbel := below_step hbel hb'
        clear hb'
        go_roundw
        case rel =>
          refine ⟨k + 1, by omega, by go_num, fun j y hj hy => ?_, hbel⟩
          by_cases e : j = k
          · subst e; rw [HX.out] at hy; cases hy; exact HQ.out
          · exact HALL.out j y (by omega) hy
        case measure => simp [intOf]; omega
      · rw [hq] at hcall
        have HQ := Lib.hid hq
        clear hq
        go_wp2_with (go_at_fn g; refine hcall.mono ?_; rintro e w' ⟨rfl, hb'⟩)
        go_ret
        exact ⟨retI (idxX_hit hkx (by rw [← HXE.out]; exact HQ.out) HALL.out).symm, below_step hbel hb'⟩
    · obtain rfl : k = n := by omega
      go_wp2
      go_ret
      exact ⟨retI (idxX_none (fun j x hx => HALL.out j x (by have := HN.out; have := (List.getElem?_eq_some_iff.1 hx).1; omega) hx)).symm, hbel⟩

set_option maxRecDepth 100000 in
theorem containsH_any (g : Nat) (lb : Array Value) (eg : ∀ args w, (callFunc g args).run Tryz.prog w = .ok (.enter g args) w) (p : Int → Bool) (A : Option Addr) (n c : Nat) (xs : List (Int)) (w : World) (hn : xs.length = n) (hm : n ≤ 1048576) (hs : SlE i16v w A xs) (hp : PredX i16v g lb p xs w) :
    Calls Tryz.prog 76 #[.slice A n c, .func (.func g) #[] lb] w fun e w' => e = .returned (.bool (xs.any p)) ∧ Below w.heap.size w w' := by
  have HA := Lib.hid (idxX_any p xs)
  have HN := Lib.hid hn
  have HS := Lib.hid hs
  have HP := Lib.hid hp
  clear hn hs hp
  go_enter Tryz.func76, Tryz.ntmps76
  go_wp2_with (go_at_call 91; refine (indexH_any g lb eg p A n c xs _ HN.out hm HS.out HP.out).mono ?_; rintro e w1 ⟨rfl, hb⟩)
  go_ret
  exact ⟨retB HA.out, hb⟩

set_option maxHeartbeats 1000000 in
set_option maxRecDepth 100000 in
theorem indexTx_any (g : Nat) (lb : Array Value) (eg : ∀ args w, (callFunc g args).run Tryz.prog w = .ok (.enter g args) w) (p : List UInt8 → Bool) (A : Option Addr) (n c : Nat) (xs : List (List UInt8)) (w : World) (hn : xs.length = n) (hm : n ≤ 1048576) (hs : SlE sv w A xs) (hp : PredX sv g lb p xs w) :
    Calls Tryz.prog 79 #[.slice A n c, .func (.func g) #[] lb] w fun e w' => e = .returned (.int .i64 (idxX p xs)) ∧ Below w.heap.size w w' := by
  have HN := Lib.hid hn
  have HS := Lib.hid hs
  have HP := Lib.hid hp
  clear hn hs hp
  go_enter Tryz.func79, Tryz.ntmps79
  go_wp2
  go_loopw [5, 8] (fun _ i wr => ∃ k : Nat, k ≤ n ∧ i = .int .i64 k ∧ (∀ j x, j < k → xs[j]? = some x → p x = false) ∧ Below w.heap.size w wr) (fun _ i _ => n - (intOf i).toNat)
  case atStart => exact ⟨0, Nat.zero_le _, rfl, fun j x hj _ => absurd hj (Nat.not_lt_zero _), Below.refl _ _⟩
  case round =>
    obtain ⟨k, hk, rfl, hall, hbel⟩ := hrel
    have HALL := Lib.hid hall
    clear hall
    by_cases hlt : k < n
    · have hkx : k < xs.length := by rw [HN.out]; exact hlt
      obtain ⟨x, hx⟩ : ∃ x, x = xs[k] := ⟨_, rfl⟩
      have HX := Lib.hid (show xs[k]? = some x by rw [hx]; exact List.getElem?_eq_getElem hkx)
      have HXE := Lib.hid hx
      clear hx
      obtain ⟨a, rfl, hcell⟩ := (HS.out.next hbel) k x HX.out
      have hcall := HP.out wr x (by rw [HXE.out]; exact List.getElem_mem hkx) hbel
      cases hq : p x
      · rw [hq] at hcall
        have HQ := Lib.hid hq
        clear hq
        go_wp2_with (go_at_fn g; refine hcall.mono ?_; rintro e w' ⟨rfl, hb'⟩)
        have hbel := below_step hbel hb'
        clear hb'
        go_roundw
        case rel =>
          refine ⟨k + 1, by omega, by go_num, fun j y hj hy => ?_, hbel⟩
          by_cases e : j = k
          · subst e; rw [HX.out] at hy; cases hy; exact HQ.out
          · exact HALL.out j y (by omega) hy
        case measure => simp [intOf]; omega
      · rw [hq] at hcall
        have HQ := Lib.hid hq
        clear hq
        go_wp2_with (go_at_fn g; refine hcall.mono ?_; rintro e w' ⟨rfl, hb'⟩)
        go_ret
        exact ⟨retI (idxX_hit hkx (by rw [← HXE.out]; exact HQ.out) HALL.out).symm, below_step hbel hb'⟩
    · obtain rfl : k = n := by omega
      go_wp2
      go_ret
      exact ⟨retI (idxX_none (fun j x hx => HALL.out j x (by have := HN.out; have := (List.getElem?_eq_some_iff.1 hx).1; omega) hx)).symm, hbel⟩

set_option maxRecDepth 100000 in
theorem containsTx_any (g : Nat) (lb : Array Value) (eg : ∀ args w, (callFunc g args).run Tryz.prog w = .ok (.enter g args) w) (p : List UInt8 → Bool) (A : Option Addr) (n c : Nat) (xs : List (List UInt8)) (w : World) (hn : xs.length = n) (hm : n ≤ 1048576) (hs : SlE sv w A xs) (hp : PredX sv g lb p xs w) :
    Calls Tryz.prog 60 #[.slice A n c, .func (.func g) #[] lb] w fun e w' => e = .returned (.bool (xs.any p)) ∧ Below w.heap.size w w' := by
  have HA := Lib.hid (idxX_any p xs)
  have HN := Lib.hid hn
  have HS := Lib.hid hs
  have HP := Lib.hid hp
  clear hn hs hp
  go_enter Tryz.func60, Tryz.ntmps60
  go_wp2_with (go_at_call 79; refine (indexTx_any g lb eg p A n c xs _ HN.out hm HS.out HP.out).mono ?_; rintro e w1 ⟨rfl, hb⟩)
  go_ret
  exact ⟨retB HA.out, hb⟩


theorem elJ : El Tryz.prog 108 30 (.int .i16 0) 1 2 := ⟨Tryz.underlying108, by kernel_rfl, rfl, by decide⟩
set_option maxRecDepth 100000 in
theorem clone16_any (p : Addr) (c : Nat) (xs : List Int) (n : Nat) (w : World) (hn : xs.length = n) (hm : n ≤ 1048576) (h : SlE i16v w (some p) xs) :
    Calls Tryz.prog 92 #[.slice (some p) n c] w fun e w' => ∃ v, e = .returned v ∧ w'.ownsRow w.heap.size 30 1 v n (xs.map i16v) ∧ Below w.heap.size w w' := by
  obtain ⟨i, hi, hz, hsz, hby⟩ := info_parts elJ.info
  have hB := below_one w (.cells #[] 30)
  have HS := Lib.hid (h.next hB)
  have hown := own_empty w w.heap.size rfl w.heap.size 30 (Nat.le_refl _) 1
  have HI := Lib.hid hi
  have HZ := Lib.hid hz
  have HSZ := Lib.hid hsz
  have HBY := Lib.hid hby
  clear h hi hz hsz hby
  go_enter Tryz.func92, Tryz.ntmps92
  go_wp2_with (first
    | (refine wpList_is (.binOp .eql 108 (.tmp 3) (.const (.slice none 0 0)) 108) rfl rfl (.bool false) (by kernel_rfl) ?_; simp only [Act.put, List.setIfInBounds_toArray, List.set_cons_succ, List.set_cons_zero])
    | (at_builtin; refine wpList_append_own _ rfl (.tmp 5) (.tmp 6) 108 rfl w.heap.size 30 i (.int .i16 0) 1 2 elJ.under HI.out HZ.out HSZ.out HBY.out elJ.cells (by omega) (.slice (some ⟨w.heap.size, 0, none⟩) 0 0) 0 [] rfl hown p n c (xs.map i16v) rfl (by rw [List.length_map, hn, Nat.mul_one]) (fun j u hu => by
    rw [List.getElem?_map] at hu
    cases hq : xs[j]? with
    | none => rw [hq] at hu; cases hu
    | some x =>
      rw [hq] at hu
      cases hu
      obtain ⟨a, e, hc⟩ := HS.out j x hq
      cases e
      exact hc) (fun u hu => by obtain ⟨x, _, rfl⟩ := List.mem_map.1 hu; rfl) (by unfold maxLen; omega) (by omega) (by simp) ?_; intro v' w' ho' hg' _))
  go_ret
  refine ⟨v', rfl, ?_, below_own hB hown hg' (Nat.le_refl _) (by simp)⟩
  simpa using ho'

/-- All numbers of prices. -/
def pcL (p : Pc) : List Int := p.lett ++ [p.gold, p.base, p.fill]
theorem pcL_length {p : Pc} (h : PcT p) : (pcL p).length = 29 := by simp [pcL, h.len]
theorem pcL_any (p : Pc) (h : PcT p) : (!((pcL p).any fun n => !inB 0 1000 n)) = pcOk p := by
  have h1 : decide (AllLt p 26) = !(p.lett.any fun n => !inB 0 1000 n) := by
    by_cases ha : AllLt p 26
    · rw [decide_eq_true ha]
      have : (p.lett.any fun n => !inB 0 1000 n) = false := by
        rw [List.any_eq_false]
        intro x hx
        obtain ⟨k, hk, rfl⟩ := List.getElem_of_mem hx
        have := ha k (by rw [h.len] at hk; exact hk)
        rw [rdI, List.getD, List.getElem?_eq_getElem hk] at this
        simp only [Option.getD_some] at this
        rw [this]; simp
      rw [this]; rfl
    · rw [decide_eq_false ha]
      have : (p.lett.any fun n => !inB 0 1000 n) = true := by
        apply Classical.byContradiction
        intro hc
        apply ha
        intro i hi
        rw [Bool.not_eq_true, List.any_eq_false] at hc
        have hil : i < p.lett.length := by rw [h.len]; exact hi
        have := hc _ (List.getElem_mem hil)
        rw [rdI, List.getD, List.getElem?_eq_getElem hil]
        simpa using this
      rw [this]; rfl
  unfold pcOk pcL
  rw [h1, List.any_append]
  simp [Bool.and_assoc]
theorem pcL_mem {p : Pc} (h : PcT p) : ∀ x ∈ pcL p, -32768 ≤ x ∧ x ≤ 32767 := by
  intro x hx
  unfold pcL at hx
  rcases List.mem_append.1 hx with h1 | h1
  · obtain ⟨k, hk, rfl⟩ := List.getElem_of_mem h1
    have := h.lett k (by rw [h.len] at hk; exact hk)
    rw [rdI, List.getD, List.getElem?_eq_getElem hk] at this
    exact this
  · simp only [List.mem_cons, List.not_mem_nil, or_false] at h1
    rcases h1 with rfl | rfl | rfl
    · exact h.gold
    · exact h.base
    · exact h.fill
theorem exec_sliceA {o : Oper} {a : Act} {w : World} (x : Operand) (ho : o.op = .slice 31 x none none none) (b : Nat) (hx : a.eval x = .pointer (some ⟨b, 0, none⟩)) :
    (execOp a.eval o).run Tryz.prog w = .ok (.value (.slice (some ⟨b, 0, none⟩) 26 26)) w := by
  unfold execOp
  simp only [ho, hx]
  kernel_rfl
attribute [local irreducible] wpAnyH in
set_option maxHeartbeats 1000000 in
set_option maxRecDepth 100000 in
theorem all_any (p : Pc) (w : World) (hp : PcT p) :
    Calls Tryz.prog 77 #[.agg (pcV p).toArray] w fun e w' => ∃ v, e = .returned v ∧ w'.ownsRow w.heap.size 30 1 v 29 ((pcL p).map i16v) ∧ Below w.heap.size w w' := by
  have hB := below_one w (.cells (pcV p).toArray 33)
  have hk := Blk.new w 33 (pcV p)
  have hz := hB.size
  have HK := Lib.hid hk
  have HP := Lib.hid hp
  have hz1 : (w.alloc (.cells (pcV p).toArray 33)).heap.size = w.heap.size + 1 := by simp
  have HR := Lib.hid (show SlE i16v (w.alloc (.cells (pcV p).toArray 33)) (some ⟨w.heap.size, 0, none⟩) p.lett from fun i x hx => ⟨_, rfl, by
    have hi : i < 26 := by rw [← hp.len]; exact (List.getElem?_eq_some_iff.1 hx).1
    have h1 := hk.cell i _ (pcV_lett hp i hi)
    have h2 : rdI p.lett i = x := by unfold rdI; rw [List.getD, hx]; rfl
    rw [h2] at h1
    rw [add_mid, Nat.zero_add]
    exact h1⟩)
  clear hk hp
  go_enter Tryz.func77, Tryz.ntmps77
  go_wp2
  generalize hW : w.alloc (.cells (pcV p).toArray 33) = W0 at *
  clear hW
  refine held_begin (W0.heap.size) (by kernel_rfl) ?_
  have hS := below_drewN (Below.refl (W0.heap.size) W0) 1
  refine held_take 0 (.pointer (some ⟨w.heap.size, 0, none⟩)) rfl (by kernel_rfl) (by kernel_rfl) (by kernel_rfl) (fun _ _ _ h => h) (by kernel_rfl) (fun w' hw' => by kernel_rfl) hS ?_
  refine held_take 1 (.slice (some ⟨w.heap.size, 0, none⟩) 26 26) rfl (by kernel_rfl) (by kernel_rfl) (by kernel_rfl) (fun _ _ _ h => h) (by kernel_rfl) (fun w' hw' => exec_sliceA (.tmp 3) rfl w.heap.size (by kernel_rfl)) hS ?_
  refine held_take 3 (.pointer (some ⟨w.heap.size, 26, none⟩)) rfl (by kernel_rfl) (by kernel_rfl) (by kernel_rfl) (fun _ _ _ h => h) (by kernel_rfl) (fun w' hw' => by kernel_rfl) hS ?_
  refine held_take 4 (.int .i16 p.gold) rfl (by kernel_rfl) (by kernel_rfl) (by kernel_rfl) (fun _ _ _ h => h) (by kernel_rfl) (fun w' hw' => exec_load1 30 (.tmp 6) rfl ⟨w.heap.size, 26, none⟩ (by kernel_rfl) (.int .i16 p.gold) ((HK.out.next hw').cell 26 _ (pcV_gold HP.out)) _ Tryz.underlying30 rfl) hS ?_
  refine held_take 5 (.pointer (some ⟨w.heap.size, 27, none⟩)) rfl (by kernel_rfl) (by kernel_rfl) (by kernel_rfl) (fun _ _ _ h => h) (by kernel_rfl) (fun w' hw' => by kernel_rfl) hS ?_
  refine held_take 6 (.int .i16 p.base) rfl (by kernel_rfl) (by kernel_rfl) (by kernel_rfl) (fun _ _ _ h => h) (by kernel_rfl) (fun w' hw' => exec_load1 30 (.tmp 8) rfl ⟨w.heap.size, 27, none⟩ (by kernel_rfl) (.int .i16 p.base) ((HK.out.next hw').cell 27 _ (pcV_base HP.out)) _ Tryz.underlying30 rfl) hS ?_
  refine held_take 7 (.pointer (some ⟨w.heap.size, 28, none⟩)) rfl (by kernel_rfl) (by kernel_rfl) (by kernel_rfl) (fun _ _ _ h => h) (by kernel_rfl) (fun w' hw' => by kernel_rfl) hS ?_
  refine held_take 8 (.int .i16 p.fill) rfl (by kernel_rfl) (by kernel_rfl) (by kernel_rfl) (fun _ _ _ h => h) (by kernel_rfl) (fun w' hw' => exec_load1 30 (.tmp 10) rfl ⟨w.heap.size, 28, none⟩ (by kernel_rfl) (.int .i16 p.fill) ((HK.out.next hw').cell 28 _ (pcV_fill HP.out)) _ Tryz.underlying30 rfl) hS ?_
  refine held_clone_appN 2 9 10 rfl rfl rfl (by decide) (by kernel_rfl) (by kernel_rfl) (by kernel_rfl) (by kernel_rfl) rfl rfl rfl 92 #[.slice (some ⟨w.heap.size, 0, none⟩) 26 26] (fun w' => by kernel_rfl) (fun p w' => by kernel_rfl) (.tmp 5) (.tmp 12) 108 rfl elJ [.int .i16 p.gold, .int .i16 p.base, .int .i16 p.fill] 3 rfl (by omega) (fun u hu => by simp only [List.mem_cons, List.not_mem_nil, or_false] at hu; rcases hu with rfl | rfl | rfl <;> rfl) (fun w' => by kernel_rfl) (fun p w' => by kernel_rfl) (fun p q => by kernel_rfl) (fun p q => by kernel_rfl) (fun p q => by kernel_rfl) 26 (p.lett.map i16v) (fun w' hw' => (clone16_any ⟨w.heap.size, 0, none⟩ 26 p.lett 26 w' HP.out.len (by omega) (HR.out.next hw')).mono fun e w'' ⟨v, h1, h2, h3⟩ => ⟨v, h1, h2, h3⟩) (by unfold maxLen; omega) (by omega) (Nat.le_refl _) hS ?_
  intro q1 q2 v4 w4 hS own4
  refine held_take 11 (v4) rfl (by kernel_rfl) (by kernel_rfl) (by kernel_rfl) (fun _ _ _ h => h) (by kernel_rfl) (fun w' hw' => by kernel_rfl) hS ?_
  refine held_done (by kernel_rfl) ?_
  simp only [Act.put, List.setIfInBounds_toArray, List.set_cons_succ, List.set_cons_zero]
  simp only [List.getElem_toArray, List.getElem_cons_succ, List.getElem_cons_zero, Act.put, List.setIfInBounds_toArray, List.set_cons_succ, List.set_cons_zero]
  have hbel := below_step hB hS
  clear hS
  go_wp2
  go_ret
  refine ⟨v4, rfl, ?_, hbel⟩
  have e : (pcL p).map i16v = p.lett.map i16v ++ [.int .i16 p.gold, .int .i16 p.base, .int .i16 p.fill] := by simp [pcL, i16v]
  rw [e]
  exact own_mono own4 (by omega)
end Go.Proofs.YtpindajpdkpfjaaGreatDoor
namespace Go.Proofs.YtpindajpdkpfjaaGreatDoor
open Go Go.RowKit Go.Shelf
set_option linter.unusedVariables false
set_option linter.unusedSimpArgs false

theorem wpList_load_rowG {P : Program} {ops : Array Oper} {rest : List Oper} {o : Oper} {a : Act} {w : World} {Q : Exit → Act → World → Prop} (hw : Region.wanted o (yielded ops a.tmps) = true) (ty : TypeId) (x : Operand) (ho : o.op = .load ty x)
    (g : Nat) (hx : a.eval x = .pointer (some ⟨g, 0, none⟩)) (t : TypeId) (cs : Array Value) (fr : Nat × Nat) (d : TypeDesc) (hg : w.heap[g]? = some (.cells cs t fr))
    (hu : P.underlying ty = some d) (hd : (match d with | .struct _ | .array _ _ => true | _ => false) = true) (hi : (P.info? ty).map (·.size) = some cs.size)
    (h : wpList P ops Q rest (a.put o.dst (.agg cs)) w) : wpList P ops Q (o :: rest) a w :=
  wpList_step fun _ hK => by
    rw [if_pos hw]
    exact wp_load_row ty x ho g hx t cs fr d hg hu hd hi (hK _ _ h)
set_option maxRecDepth 100000 in
theorem range_pred (p : Pc) (w : World) (hp : PcT p) : PredX i16v 78 #[] (fun n => !inB 0 1000 n) (pcL p) w := fun W x hx hb => by
  have hr := pcL_mem hp x hx
  have hcv : IntKind.i64.wrap x = x := IntWalk.i64_in _ (by omega)
  clear hp
  show Calls Tryz.prog 78 #[.int .i16 x] W _
  go_enter Tryz.func78, Tryz.ntmps78
  go_wp2_with (go_at_call 39; refine (withinI_any _ _ _ _).mono ?_; rintro e w2 ⟨rfl, rfl⟩)
  go_ret
  exact ⟨rfl, Below.refl _ _⟩

set_option maxHeartbeats 1000000 in
set_option maxRecDepth 100000 in
theorem validPrices_any (p : Pc) (w : World) (hp : PcT p) :
    Calls Tryz.prog 59 #[.agg (pcV p).toArray] w fun e w' => e = .returned (.bool (pcOk p)) ∧ Below w.heap.size w w' := by
  have HG := Lib.hid (show ∀ args w, (callFunc 78 args).run Tryz.prog w = .ok (.enter 78 args) w from enters_of Tryz.func78 (by kernel_rfl) rfl)
  have hB := below_one w (.cells (pcV p).toArray 33)
  have hk := Blk.new w 33 (pcV p)
  have HZ := Lib.hid (show (Tryz.prog.info? 33).map (·.size) = some (pcV p).toArray.size by rw [List.size_toArray, pcV_length hp]; exact szPcI)
  have HP := Lib.hid hp
  have HL := Lib.hid (pcL_length hp)
  have HA := Lib.hid (pcL_any p hp)
  clear hp
  go_enter Tryz.func59, Tryz.ntmps59
  go_wp2_with (first
    | (refine wpList_load_row rfl 33 (.tmp 1) rfl _ rfl 33 (pcV p).toArray _ _ hk Tryz.underlying33 rfl HZ.out ?_)
    | (go_at_call 77; refine (all_any p _ HP.out).mono ?_; rintro e w1 ⟨v, rfl, ho, hb1⟩; obtain ⟨A1, c1, rfl, hl1, hx1⟩ := OwnX.of_own ho; have HX1 := Lib.hid hx1; clear ho hx1 hl1)
    | (go_at_call 76; refine (containsH_any 78 #[] HG.out (fun n => !inB 0 1000 n) A1 _ c1 (pcL p) _ rfl (by rw [HL.out]; omega) HX1.out.sl (range_pred p _ HP.out)).mono ?_; rintro e w2 ⟨rfl, hb2⟩))
  go_ret
  exact ⟨retB HA.out, below_step hB (below_step hb1 hb2)⟩

set_option maxRecDepth 100000 in
theorem texts_pred (xs : List (List UInt8)) (w : World) (hx : ∀ x ∈ xs, x.length ≤ 1048576) (hmx : MaxW w) : PredX sv 61 #[] (fun x => !vText x) xs w := fun W x hxm hb => by
  have hl : (⟨x.toArray⟩ : ByteArray).size ≤ 1048576 := hx x hxm
  have HM := Lib.hid (hmx.next hb)
  clear hx hmx
  show Calls Tryz.prog 61 #[.string ⟨x.toArray⟩] W _
  go_enter Tryz.func61, Tryz.ntmps61
  go_wp2_with (go_at_call 53; refine (text_impl ⟨x.toArray⟩ _ hl HM.out).mono ?_; rintro e w2 ⟨rfl, q, rfl⟩)
  go_ret
  exact ⟨rfl, below_drewN (Below.refl _ _) q⟩

/-- Whether one of some texts is none that is valid. -/
def badT (xs : List (List UInt8)) : Bool := xs.any fun x => !vText x
/-- The code of a face, prices and texts. -/
def pccN (f : Fc) (p : Pc) (xs : List (List UInt8)) : Int := if validF f && pcOk p && !badT xs then 0 else 1
theorem pccN_one (f : Fc) (p : Pc) (l : List UInt8) : pccN f p [l] = pcC f p l true := by
  unfold pccN pcC badT
  simp
theorem pccN_f {f : Fc} {p : Pc} {xs : List (List UInt8)} (h : validF f = false) : pccN f p xs = 1 := by unfold pccN; rw [h]; rfl
theorem pccN_p {f : Fc} {p : Pc} {xs : List (List UInt8)} (h : pcOk p = false) : pccN f p xs = 1 := by unfold pccN; rw [h]; simp
theorem pccN_t {f : Fc} {p : Pc} {xs : List (List UInt8)} (h : validF f = true) (k : pcOk p = true) : pccN f p xs = if !badT xs then 0 else 1 := by unfold pccN; rw [h, k]; rfl

set_option maxHeartbeats 1000000 in
set_option maxRecDepth 100000 in
theorem priceCode_any (f : Fc) (p : Pc) (A Ax : Option Addr) (n c nx cx : Nat) (xs : List (List UInt8)) (w : World) (hf : FcT f) (hp : PcT p) (hn : f.pairs.length = n) (hm : n ≤ 1048576) (hxn : xs.length = nx) (hx20 : nx ≤ 1048576) (hl : ∀ x ∈ xs, x.length ≤ 1048576) (h : SlP w A f.pairs) (hx : SlE sv w Ax xs) (hmx : MaxW w) :
    Calls Tryz.prog 29 #[.agg (fcV f (.slice A n c)).toArray, .agg (pcV p).toArray, .slice Ax nx cx] w fun e w' => e = .returned (.int .i64 (pccN f p xs)) ∧ Below w.heap.size w w' := by
  have HG := Lib.hid (show ∀ args w, (callFunc 61 args).run Tryz.prog w = .ok (.enter 61 args) w from enters_of Tryz.func61 (by kernel_rfl) rfl)
  have hB := below_two w (.cells (fcV f (.slice A n c)).toArray 28) (.cells (pcV p).toArray 33)
  have hk1 := (Blk.new w 28 (fcV f (.slice A n c))).alloc (.cells (pcV p).toArray 33)
  have hk2 := Blk.new (w.alloc (.cells (fcV f (.slice A n c)).toArray 28)) 33 (pcV p)
  rw [World.size_alloc] at hk2
  have HS := Lib.hid (h.next hB)
  have HM := Lib.hid (hmx.next hB)
  have HX := Lib.hid (hx.next hB)
  have HF := Lib.hid hf
  have HP := Lib.hid hp
  have HN := Lib.hid hn
  have HXN := Lib.hid hxn
  have HLX := Lib.hid hl
  have hsz : (fcV f (.slice A n c)).toArray.size = 29 := by simp [fcV_length hf]
  have HZ := Lib.hid (show (Tryz.prog.info? 28).map (·.size) = some (fcV f (.slice A n c)).toArray.size by rw [hsz]; exact szFcI)
  have HZ2 := Lib.hid (show (Tryz.prog.info? 33).map (·.size) = some (pcV p).toArray.size by rw [List.size_toArray, pcV_length hp]; exact szPcI)
  clear hf hp hn h hmx hsz hx hxn hl
  cases hv : validF f
  · have HO := Lib.hid (pccN_f (p := p) (xs := xs) hv)
    go_enter Tryz.func29, Tryz.ntmps29
    go_wp2_with (first
      | (refine wpList_load_row rfl 28 (.tmp 3) rfl _ rfl 28 (fcV f (.slice A n c)).toArray _ _ hk1 Tryz.underlying28 rfl HZ.out ?_)
      | (go_at_call 52; refine (face_impl f A n c _ HF.out HN.out hm HS.out).mono ?_; rintro e w1 ⟨rfl, hb⟩; have hB := below_step hB hb; clear hb)
      | (go_at_call 51; refine (unless_any _ _ _).mono ?_; rintro e w2 ⟨rfl, rfl⟩))
    go_ret
    exact ⟨retI HO.out.symm, hB⟩
  · have HV := Lib.hid hv
    cases hk : pcOk p
    · have HO := Lib.hid (pccN_p (f := f) (xs := xs) hk)
      have HKK := Lib.hid hk
      clear hv hk
      go_enter Tryz.func29, Tryz.ntmps29
      go_wp2_with (refine wpList_load_row rfl 28 (.tmp 3) rfl _ rfl 28 (fcV f (.slice A n c)).toArray _ _ hk1 Tryz.underlying28 rfl HZ.out ?_; go_wp2_with fail; go_at_call 52; refine (face_impl f A n c _ HF.out HN.out hm HS.out).mono ?_; rintro e w1 ⟨he, hb⟩; rw [HV.out] at he; subst he; have hB := below_step hB hb; have hk2 := hk2.next hb; clear hb; go_wp2_with (first
        | (refine wpList_load_rowG (by kernel_rfl) 33 (.tmp 4) rfl _ rfl 33 (pcV p).toArray _ _ hk2 Tryz.underlying33 rfl HZ2.out ?_)
        | (go_at_call 59; refine (validPrices_any p _ HP.out).mono ?_; rintro e w2 ⟨he, hb⟩; rw [HKK.out] at he; subst he; have hB := below_step hB hb; clear hb)
        | (go_at_call 51; refine (unless_any _ _ _).mono ?_; rintro e w2 ⟨rfl, rfl⟩)))
      go_ret
      exact ⟨retI HO.out.symm, hB⟩
    · have HKK := Lib.hid hk
      have HO := Lib.hid (pccN_t (xs := xs) hv hk)
      clear hv hk
      cases hbt : badT xs
      all_goals
        have HBT := Lib.hid hbt
        clear hbt
        go_enter Tryz.func29, Tryz.ntmps29
        go_wp2_with (refine wpList_load_row rfl 28 (.tmp 3) rfl _ rfl 28 (fcV f (.slice A n c)).toArray _ _ hk1 Tryz.underlying28 rfl HZ.out ?_; go_wp2_with fail; go_at_call 52; refine (face_impl f A n c _ HF.out HN.out hm HS.out).mono ?_; rintro e w1 ⟨he, hb⟩; rw [HV.out] at he; subst he; have hB := below_step hB hb; have hk2 := hk2.next hb; have HX1 := Lib.hid (HX.out.next hb); have HM1 := Lib.hid (HM.out.next hb); clear hb; go_wp2_with (first
          | (refine wpList_load_rowG (by kernel_rfl) 33 (.tmp 4) rfl _ rfl 33 (pcV p).toArray _ _ hk2 Tryz.underlying33 rfl HZ2.out ?_)
          | (go_at_call 59; refine (validPrices_any p _ HP.out).mono ?_; rintro e w2 ⟨he, hb⟩; rw [HKK.out] at he; subst he; have hB := below_step hB hb; have HX2 := Lib.hid (HX1.out.next hb); have HM2 := Lib.hid (HM1.out.next hb); clear hb)
          | (go_at_call 60; refine (containsTx_any 61 #[] HG.out (fun x => !vText x) Ax nx cx xs _ HXN.out hx20 HX2.out (texts_pred xs _ HLX.out HM2.out)).mono ?_; rintro e w3 ⟨he, hb⟩; change e = .returned (.bool (badT xs)) at he; rw [HBT.out] at he; subst he; have hB := below_step hB hb; clear hb)
          | (go_at_call 51; refine (unless_any _ _ _).mono ?_; rintro e w4 ⟨rfl, rfl⟩)))
        go_ret
        exact ⟨retI (by rw [HO.out, HBT.out]; rfl), hB⟩

attribute [local irreducible] wpQuiet in
set_option maxHeartbeats 1000000 in
set_option maxRecDepth 100000 in
theorem costL_impl (f : Fc) (p : Pc) (A : Option Addr) (n c : Nat) (l : List UInt8) (k : Nat) (w : World) (hf : FcT f) (hp : PcT p) (hV : FcV f) (hP : PcV p) (hl : isLet (byt l k) = true) :
    Calls Tryz.prog 33 #[.agg (pcV p).toArray, .agg (fcV f (.slice A n c)).toArray, .int .u8 (byt l k)] w fun e w' => e = .returned (.int .i64 (letP f p (byt l k))) ∧ Below w.heap.size w w' := by
  have hB := below_two w (.cells (pcV p).toArray 33) (.cells (fcV f (.slice A n c)).toArray 28)
  have hk2 := (Blk.new w 33 (pcV p)).alloc (.cells (fcV f (.slice A n c)).toArray 28)
  have hk1 := Blk.new (w.alloc (.cells (pcV p).toArray 33)) 28 (fcV f (.slice A n c))
  rw [World.size_alloc] at hk1
  have hsz : (fcV f (.slice A n c)).toArray.size = 29 := by simp [fcV_length hf]
  have HZ := Lib.hid (show (Tryz.prog.info? 28).map (·.size) = some (fcV f (.slice A n c)).toArray.size by rw [hsz]; exact szFcI)
  have hr := letP_range hV hP hl
  have hlt := isLet_iff.1 hl
  have hN : letN l k < 26 := by unfold letN; omega
  have hsub : IntKind.u8.wrap (byt l k - 65) = ((letN l k : Nat) : Int) := by rw [IntWalk.u8_in _ (by omega)]; unfold letN; omega
  have h1 := hp.lett (letN l k) hN
  have h2 := hf.wide (letN l k) hN
  have h3 := hp.gold
  have hc1 : IntKind.i64.wrap (rdI p.lett (letN l k)) = rdI p.lett (letN l k) := IntWalk.i64_in _ (by omega)
  have hc2 : IntKind.i64.wrap p.gold = p.gold := IntWalk.i64_in _ (by omega)
  have hE : letP f p (byt l k) = rdI p.lett (letN l k) + p.gold * rdI f.wide (letN l k) := rfl
  have hW : letW f (byt l k) = rdI f.wide (letN l k) := rfl
  rw [hW, hE] at hr
  rw [hE]
  have hmul : IntKind.i64.wrap (p.gold * rdI f.wide (letN l k)) = p.gold * rdI f.wide (letN l k) := IntWalk.i64_in _ (by omega)
  have hadd : IntKind.i64.wrap (rdI p.lett (letN l k) + p.gold * rdI f.wide (letN l k)) = rdI p.lett (letN l k) + p.gold * rdI f.wide (letN l k) := IntWalk.i64_in _ (by omega)
  have HK1 := Lib.hid hk1
  have HK2 := Lib.hid hk2
  have HF := Lib.hid hf
  have HP := Lib.hid hp
  have HL := Lib.hid hl
  clear hk1 hk2 hf hp hE hW h1 h2 h3 hr hV hP hsz hl
  go_enter Tryz.func33, Tryz.ntmps33
  go_wp2
  generalize hW0 : (w.alloc (.cells (pcV p).toArray 33)).alloc (.cells (fcV f (.slice A n c)).toArray 28) = W0 at *
  clear hW0
  refine region_below (W0.heap.size) (by kernel_rfl) (by kernel_rfl) ?_
  refine below_run (by kernel_rfl) (.int .u8 (byt l k)) (fun w' hw' => by kernel_rfl) ?_
  refine below_run (by kernel_rfl) (.int .u8 (letN l k : Nat)) (fun w' hw' => Eq.trans (show (execOp _ _).run _ w' = .ok (.value (.int .u8 (IntKind.u8.wrap (byt l k - 65)))) w' by kernel_rfl) (by rw [hsub])) ?_
  refine below_run (by kernel_rfl) (.pointer (some ⟨w.heap.size, 0, none⟩)) (fun w' hw' => by kernel_rfl) ?_
  refine below_run (by kernel_rfl) (.pointer (some (Addr.add ⟨w.heap.size, 0, none⟩ ((letN l k) * 1)))) (fun w' hw' => exec_indexA 31 (.tmp 9) (.tmp 8) rfl ⟨w.heap.size, 0, none⟩ (by kernel_rfl) .u8 (letN l k) (by kernel_rfl) 26 hN 30 Tryz.underlying31 1 szI16) ?_
  refine below_run (by kernel_rfl) (.int .i16 (rdI p.lett (letN l k))) (fun w' hw' => exec_load1 30 (.tmp 10) rfl (Addr.add ⟨w.heap.size, 0, none⟩ (letN l k * 1)) (by kernel_rfl) (.int .i16 (rdI p.lett (letN l k))) (by rw [add_mid, Nat.mul_one, Nat.zero_add]; exact (HK2.out.next hw').cell (letN l k) _ (pcV_lett HP.out (letN l k) hN)) _ Tryz.underlying30 rfl) ?_
  refine below_run (by kernel_rfl) (.int .i64 (rdI p.lett (letN l k))) (fun w' hw' => Eq.trans (show (execOp _ _).run _ w' = .ok (.value (.int .i64 (IntKind.i64.wrap (rdI p.lett (letN l k))))) w' by kernel_rfl) (by rw [hc1])) ?_
  refine below_run (by kernel_rfl) (.pointer (some ⟨w.heap.size, 26, none⟩)) (fun w' hw' => by kernel_rfl) ?_
  refine below_run (by kernel_rfl) (.int .i16 p.gold) (fun w' hw' => exec_load1 30 (.tmp 13) rfl ⟨w.heap.size, 26, none⟩ (by kernel_rfl) (.int .i16 p.gold) ((HK2.out.next hw').cell 26 _ (pcV_gold HP.out)) _ Tryz.underlying30 rfl) ?_
  refine below_run (by kernel_rfl) (.int .i64 p.gold) (fun w' hw' => Eq.trans (show (execOp _ _).run _ w' = .ok (.value (.int .i64 (IntKind.i64.wrap p.gold))) w' by kernel_rfl) (by rw [hc2])) ?_
  refine below_run (by kernel_rfl) (.agg (fcV f (.slice A n c)).toArray) (fun w' hw' => exec_load_row 28 (.tmp 4) rfl (w.heap.size + 1) (by kernel_rfl) 28 (fcV f (.slice A n c)).toArray _ _ (HK1.out.next hw') Tryz.underlying28 rfl (HZ.out)) ?_
  refine below_run (by kernel_rfl) (.int .u8 (byt l k)) (fun w' hw' => by kernel_rfl) ?_
  refine below_call (by kernel_rfl) 66 #[.agg (fcV f (.slice A n c)).toArray, .int .u8 (byt l k)] (.int .i64 (rdI f.wide (letN l k))) (fun w' => by kernel_rfl) (fun w' hw' => (letter_w f A n c l k w' HF.out HL.out).mono fun e w1 ⟨he, hb1⟩ => ⟨he, below_step hw' hb1⟩) ?_
  refine below_run (by kernel_rfl) (.int .i64 (p.gold * rdI f.wide (letN l k))) (fun w' hw' => Eq.trans (show (execOp _ _).run _ w' = .ok (.value (.int .i64 (IntKind.i64.wrap (p.gold * rdI f.wide (letN l k))))) w' by kernel_rfl) (by rw [hmul])) ?_
  refine below_run (by kernel_rfl) (.int .i64 (rdI p.lett (letN l k) + p.gold * rdI f.wide (letN l k))) (fun w' hw' => Eq.trans (show (execOp _ _).run _ w' = .ok (.value (.int .i64 (IntKind.i64.wrap (rdI p.lett (letN l k) + p.gold * rdI f.wide (letN l k))))) w' by kernel_rfl) (by rw [hadd])) ?_
  refine below_run (by kernel_rfl) (.int .i64 (rdI p.lett (letN l k) + p.gold * rdI f.wide (letN l k))) (fun w' hw' => by kernel_rfl) ?_
  refine wpQuiet_nil ?_
  intro W3 hW3
  simp only [Act.put, List.setIfInBounds_toArray, List.set_cons_succ, List.set_cons_zero]
  have hbel := below_step hB hW3
  clear hsub hc1 hc2 hmul hadd hW3
  go_wp2
  go_ret
  exact ⟨rfl, hbel⟩

set_option maxHeartbeats 1000000 in
set_option maxRecDepth 100000 in
theorem cost_impl (f : Fc) (p : Pc) (A : Option Addr) (n c : Nat) (s : ByteArray) (w : World) (hf : FcT f) (hp : PcT p) (hV : FcV f) (hP : PcV p) (hls : LS (bs s)) (hs : s.size ≤ 60) (hmx : MaxW w) :
    Calls Tryz.prog 45 #[.agg (pcV p).toArray, .agg (fcV f (.slice A n c)).toArray, .string s] w fun e w' => e = .returned (.int .i64 (prcW f p (bs s))) ∧ Below w.heap.size w w' := by
  have kc := fun (w : World) => Lib.run_convert_string_bytes (P := Tryz.prog) w 9 22 5 ⟨(lets (bs s)).toArray⟩ Tryz.underlying9 Tryz.underlying22 Tryz.underlying5
  have hB := below_two w (.cells (pcV p).toArray 33) (.cells (fcV f (.slice A n c)).toArray 28)
  have hk2 := (Blk.new w 33 (pcV p)).alloc (.cells (fcV f (.slice A n c)).toArray 28)
  have hk1 := Blk.new (w.alloc (.cells (pcV p).toArray 33)) 28 (fcV f (.slice A n c))
  rw [World.size_alloc] at hk1
  have hsz : (fcV f (.slice A n c)).toArray.size = 29 := by simp [fcV_length hf]
  have HZ := Lib.hid (show (Tryz.prog.info? 28).map (·.size) = some (fcV f (.slice A n c)).toArray.size by rw [hsz]; exact szFcI)
  have HZ2 := Lib.hid (show (Tryz.prog.info? 33).map (·.size) = some (pcV p).toArray.size by rw [List.size_toArray, pcV_length hp]; exact szPcI)
  have c27 := hk2.cell 27 _ (pcV_base hp)
  have t2 := hp.base
  obtain ⟨l, hl0⟩ : ∃ l, l = lets (bs s) := ⟨_, rfl⟩
  have HL := Lib.hid hl0
  have HE := Lib.hid (show prcW f p (bs s) = prcN f p l l.length by unfold prcW; rw [← hl0])
  have HLL := Lib.hid (show LL l by rw [hl0]; exact lets_ll hls)
  have hll : l.length ≤ 60 := by
    have := lets_length (bs s)
    rw [bs_length] at this
    rw [hl0]; omega
  have HF := Lib.hid hf
  have HP := Lib.hid hp
  have HVF := Lib.hid hV
  have HVP := Lib.hid hP
  have HK1 := Lib.hid hk1
  have HK2 := Lib.hid hk2
  have HM := Lib.hid (hmx.next hB)
  rw [← hl0] at kc
  clear hf hp hV hP hk1 hk2 hls hl0 hsz hmx
  rw [HE.out]
  go_enter Tryz.func45, Tryz.ntmps45
  go_wp2_with (go_at_call 31; refine (letters_impl s _ (by omega) HM.out).mono ?_; rw [← HL.out]; rintro e w1 ⟨rfl, hb⟩)
  have hs2 : (⟨l.toArray⟩ : ByteArray).size = l.length := by show l.toArray.size = _; simp
  have hb2 := Lib.bytesWorld_below w1 5 ⟨l.toArray⟩
  have hcb : ∀ k, k < l.length → (Lib.bytesWorld w1 5 ⟨l.toArray⟩).cell? ⟨w1.heap.size, k, none⟩ = some (.int .u8 (byt l k)) := fun k hk => by
    rw [Lib.bytesWorld_cell w1 _ _ k (by rw [hs2]; exact hk)]
    rfl
  have hsz2 := Lib.bytesWorld_size w1 5 ⟨l.toArray⟩
  have hbw := below_step hb hb2
  have hzb : w1.heap.size < (Lib.bytesWorld w1 5 ⟨l.toArray⟩).heap.size := by rw [hsz2]; omega
  generalize Lib.bytesWorld w1 5 ⟨l.toArray⟩ = W2 at *
  generalize grownCap w1 l.length 0 5 = cg
  have HCB := Lib.hid hcb
  clear kc hs2 hb2 hsz2 hcb hb c27
  generalize w1.heap.size = g1 at *
  go_loopw [7, 17] (fun u i wr => ∃ k : Nat, k ≤ l.length ∧ i = .int .i64 k ∧ u = .int .i64 (prcN f p l k) ∧ Below W2.heap.size W2 wr) (fun _ i _ => l.length - (intOf i).toNat)
  case atStart => exact ⟨0, Nat.zero_le _, rfl, rfl, Below.refl _ _⟩
  case round =>
    obtain ⟨k, hk, rfl, rfl, hbel⟩ := hrel
    have hbr := below_step hbw hbel
    by_cases hlt : k < l.length
    · have hcell := (hbel.cell (p := ⟨g1, k, none⟩) hzb).trans (HCB.out k hlt)
      have hk2 := HK2.out.next hbr
      have hk1 := HK1.out.next hbr
      have hn1 := prcN_range HVF.out HVP.out HLL.out k hk
      have hn2 := letP_range HVF.out HVP.out (HLL.out k hlt)
      have HN := Lib.hid (show prcN f p l k + letP f p (byt l k) = prcN f p l (k + 1) from rfl)
      go_wp2_with (first
        | (refine wpList_load_row rfl 33 (.tmp 3) rfl _ rfl 33 (pcV p).toArray _ _ hk2 Tryz.underlying33 rfl HZ2.out ?_)
        | (refine wpList_load_row rfl 28 (.tmp 4) rfl _ rfl 28 (fcV f (.slice A n c)).toArray _ _ hk1 Tryz.underlying28 rfl HZ.out ?_)
        | (go_at_call 33; refine (costL_impl f p A n c l k _ HF.out HP.out HVF.out HVP.out (HLL.out k hlt)).mono ?_; rintro e w2 ⟨rfl, hb2⟩; have hbel := below_step hbel hb2; clear hb2))
      go_roundw
      case rel => exact ⟨k + 1, by omega, by go_num, by rw [← HN.out], hbel⟩
      case measure => simp [intOf]; omega
    · obtain rfl : k = l.length := by omega
      go_wp2
      go_ret
      exact ⟨rfl, below_step hB hbr⟩
end Go.Proofs.YtpindajpdkpfjaaGreatDoor
namespace Go.Proofs.YtpindajpdkpfjaaGreatDoor
open Go Go.RowKit Go.Shelf
set_option linter.unusedVariables false
set_option linter.unusedSimpArgs false

/-- The first number from k on, of d more, that is not so. -/
def lead (P : Nat → Bool) : Nat → Nat → Nat
  | 0, k => k
  | d + 1, k => if P k = true then lead P d (k + 1) else k
theorem lead_yes {P : Nat → Bool} {n k : Nat} (hk : k < n) (h : P k = true) : lead P (n - k) k = lead P (n - (k + 1)) (k + 1) := by
  rw [show n - k = (n - (k + 1)) + 1 by omega, lead, if_pos h]
theorem lead_no {P : Nat → Bool} {n k : Nat} (hk : k < n) (h : P k = false) : lead P (n - k) k = k := by
  rw [show n - k = (n - (k + 1)) + 1 by omega, lead, if_neg (by rw [h]; simp)]
def buyP (f : Fc) (p : Pc) (ws : List (List UInt8)) (m : Int) (k : Nat) : Bool := decide (prcW f p (joinW (cutW ws 0 (k + 1))) ≤ m)
def wfR (f : Fc) (p : Pc) (l : List UInt8) (m : Int) : Int × Int :=
  if pcC f p l (inB 0 1000000 m) = 0 then (if m < p.base then (0, 6) else (((lead (buyP f p (words l) m) ((words l).length - 0) 0 : Nat) : Int), 0)) else (0, pcC f p l (inB 0 1000000 m))

end Go.Proofs.YtpindajpdkpfjaaGreatDoor
