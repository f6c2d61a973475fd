/- What FnRecut asks, plain: the best shift is best, what is kept, what it costs. No walk here. What FnRecut asks, plain: all that its walk needs of two texts, in one place. No walk here. Contracts for FnRecut: the exported functions, at a valid face, prices and texts. Contracts for FnRecut: a text's letters, and what a text costs. Contracts for FnRecut, as its walk needs them: a face in memory, texts that are lists. -/
import Derived.Test.YtpindajpdkpfjaaGreatDoorGQ
import Derived.Test.YtpindajpdkpfjaaGreatDoorSrcI
import Derived.Test.YtpindajpdkpfjaaGreatDoorGO
import Derived.Test.YtpindajpdkpfjaaGreatDoorSmL
import Derived.BigRegion
import Derived.OwnWalk
import Derived.Test.YtpindajpdkpfjaaGreatDoorGP
import Derived.Laws.IdiomStrings
import Derived.Test.YtpindajpdkpfjaaGreatDoorSrcL
import Derived.Test.YtpindajpdkpfjaaGreatDoorSrcK
namespace Go.Proofs.YtpindajpdkpfjaaGreatDoor
open Go Go.RowKit
set_option linter.unusedVariables false
set_option linter.unusedSimpArgs false

/-- Shift s is no better than the one that was found. -/
def NoBet (r : Int × Int) (s n : Int) : Prop := n ≤ r.2 ∧ (n = r.2 → (r.1 ≤ s ∨ r.1 ≤ -s) ∧ (-r.1 ≤ s ∨ -r.1 ≤ -s) ∧ ¬ (0 < s ∧ s = -r.1))
theorem bsh_best (c : Int → Int) : ∀ (t : Nat) (s : Int), -(t : Int) ≤ s → s ≤ t → NoBet (bsh c t) s (c s)
  | 0, s, h1, h2 => by
    obtain rfl : s = 0 := by omega
    exact ⟨Int.le_refl _, fun _ => ⟨.inl (Int.le_refl _), .inl (by show -(0 : Int) ≤ 0; omega), by omega⟩⟩
  | t + 1, s, h1, h2 => by
    have ih := bsh_best c t
    obtain ⟨e1, r1, r2⟩ := bsh_at c t
    rw [bsh]
    generalize bsh c t = st at *
    obtain ⟨u, n⟩ := st
    dsimp only at e1 r1 r2
    have hp : ((t + 1 : Nat) : Int) = (t : Int) + 1 := by omega
    rw [hp] at h1 h2 ⊢
    by_cases ha : n < c ((t : Int) + 1)
    · rw [bshA_yes (st := (u, n)) ha]
      by_cases hb : c ((t : Int) + 1) < c (-((t : Int) + 1))
      · rw [bshA_yes (st := ((t : Int) + 1, c ((t : Int) + 1))) hb]
        by_cases k1 : s = (t : Int) + 1
        · subst k1; exact ⟨by dsimp only; omega, fun e => by dsimp only at e; omega⟩
        · by_cases k2 : s = -((t : Int) + 1)
          · subst k2; exact ⟨by dsimp only; omega, fun _ => ⟨.inl (by dsimp only; omega), .inr (by dsimp only; omega), by omega⟩⟩
          · have := (ih s (by omega) (by omega)).1
            dsimp only at this
            exact ⟨by dsimp only; omega, fun e => by dsimp only at e; omega⟩
      · rw [bshA_no (st := ((t : Int) + 1, c ((t : Int) + 1))) hb]
        by_cases k1 : s = (t : Int) + 1
        · subst k1; exact ⟨by dsimp only; omega, fun _ => ⟨.inl (by dsimp only; omega), .inl (by dsimp only; omega), by dsimp only; omega⟩⟩
        · by_cases k2 : s = -((t : Int) + 1)
          · subst k2; exact ⟨by dsimp only; omega, fun _ => ⟨.inr (by dsimp only; omega), .inl (by dsimp only; omega), by omega⟩⟩
          · have := (ih s (by omega) (by omega)).1
            dsimp only at this
            exact ⟨by dsimp only; omega, fun e => by dsimp only at e; omega⟩
    · rw [bshA_no (st := (u, n)) ha]
      by_cases hb : n < c (-((t : Int) + 1))
      · rw [bshA_yes (st := (u, n)) hb]
        by_cases k1 : s = (t : Int) + 1
        · subst k1; exact ⟨by dsimp only; omega, fun e => by dsimp only at e; omega⟩
        · by_cases k2 : s = -((t : Int) + 1)
          · subst k2; exact ⟨by dsimp only; omega, fun _ => ⟨.inl (by dsimp only; omega), .inr (by dsimp only; omega), by omega⟩⟩
          · have := (ih s (by omega) (by omega)).1
            dsimp only at this
            exact ⟨by dsimp only; omega, fun e => by dsimp only at e; omega⟩
      · rw [bshA_no (st := (u, n)) hb]
        by_cases k1 : s = (t : Int) + 1
        · subst k1; exact ⟨by dsimp only; omega, fun _ => ⟨.inl (by dsimp only; omega), .inl (by dsimp only; omega), by dsimp only; omega⟩⟩
        · by_cases k2 : s = -((t : Int) + 1)
          · subst k2; exact ⟨by dsimp only; omega, fun _ => ⟨.inr (by dsimp only; omega), .inr (by dsimp only; omega), by omega⟩⟩
          · exact ih s (by omega) (by omega)

/-! ### No more are kept than the old line has letters -/
theorem sumB_none (P : Nat → Bool) : ∀ n, (∀ i, i < n → P i = false) → sumB P n = 0
  | 0, _ => rfl
  | n + 1, h => by rw [sumB, sumB_none P n (fun i hi => h i (by omega)), h n (by omega)]; rfl
theorem sumB_one (P : Nat → Bool) : ∀ n, (∀ i j, i < j → j < n → P j = true → P i = false) → sumB P n ≤ 1
  | 0, _ => by simp [sumB]
  | n + 1, h => by
    rw [sumB]
    cases e : P n
    · have := sumB_one P n (fun i j h1 h2 => h i j h1 (by omega))
      simpa [bit1] using this
    · rw [sumB_none P n (fun i hi => h i n hi (by omega) e)]
      simp [bit1]
theorem sum2_le (P : Nat → Nat → Bool) (m : Nat) (h : ∀ i, sumB (P i) m ≤ 1) : ∀ n : Nat, sum2 P m n ≤ n
  | 0 => by simp [sum2]
  | n + 1 => by
    have h1 := sum2_le P m h n
    have h2 := h n
    rw [sum2]; omega
theorem cntK_old {x y : List UInt8} {a b : List Int} (s : Int) (ha : ∀ i j, i < j → j < x.length → rdI a i < rdI a j) (hb : ∀ i j, i < j → j < y.length → rdI b i < rdI b j) : cntK x y a b s ≤ x.length := by
  unfold cntK
  rw [← pairs_kept s ha]
  refine sum2_le _ _ (fun i => sumB_one _ _ (fun j k h1 h2 e => ?_)) _
  have h3 := hb j k h1 h2
  unfold ppB at e ⊢
  rw [Bool.and_eq_true, beq_iff_eq, beq_iff_eq] at e
  rw [Bool.and_eq_false_iff]
  refine .inr ?_
  rw [beq_eq_false_iff_ne]
  omega

/-! ### A line against itself -/
theorem kbN_self (x : List UInt8) (a : List Int) (k : Nat) : ∀ i, k < i → kbN x x a a 0 k i = true
  | 0, h => absurd h (Nat.not_lt_zero _)
  | i + 1, h => by
    rw [kbN]
    by_cases e : k = i
    · subst e; simp
    · rw [kbN_self x a k i (by omega), Bool.true_or]
theorem kptN_self (x : List UInt8) (a : List Int) : ∀ k, k ≤ x.length → (kptN x x a a 0 k).length = k
  | 0, _ => rfl
  | k + 1, h => by rw [kptN_yes (kbN_self x a k x.length (by omega)), List.length_append, List.length_singleton, kptN_self x a k (by omega)]
theorem cntK_self (x : List UInt8) (a : List Int) : cntK x x a a 0 = x.length := by unfold cntK; rw [kptN_self x a x.length (Nat.le_refl _)]
theorem rcS_self (f : Fc) (p : Pc) (x : List UInt8) (a : List Int) : ∀ k, k ≤ x.length → rcS f p x x a a 0 k = p.base
  | 0, _ => by rw [rcS, cntK_self, Int.sub_self, Int.mul_zero, Int.add_zero]
  | k + 1, h => by rw [rcS_yes (kbN_self x a k x.length (by omega)), rcS_self f p x a k (by omega)]
theorem bsh_self (x : List UInt8) (a : List Int) : bsh (cntK x x a a) 400 = (0, (x.length : Int)) := by
  have h1 := bsh_best (cntK x x a a) 400 0 (by decide) (by decide)
  have h2 := bsh_at (cntK x x a a) 400
  have h3 := cntK_range x x a a (bsh (cntK x x a a) 400).1
  rw [cntK_self] at h1
  generalize bsh (cntK x x a a) 400 = r at *
  obtain ⟨u, n⟩ := r
  obtain ⟨h1, h4⟩ := h1
  dsimp only at h1 h2 h3 h4
  have e : (x.length : Int) = n := by omega
  obtain ⟨k1, k2, _⟩ := h4 e
  have : u = 0 := by omega
  rw [this, e]

/-! ### What it costs -/
theorem rcS_lo {f : Fc} {p : Pc} (hf : FcV f) (hp : PcV p) {x y : List UInt8} {a b : List Int} {s : Int} (hl : LL y) (hc : cntK x y a b s ≤ x.length) : ∀ k, k ≤ y.length → p.base ≤ rcS f p x y a b s k
  | 0, _ => by
    rw [rcS]
    have := Int.mul_nonneg hp.fill.1 (show 0 ≤ (x.length : Int) - cntK x y a b s by omega)
    omega
  | k + 1, h => by
    have h1 := rcS_lo hf hp hl hc (a := a) (b := b) (s := s) k (by omega)
    have h2 := letP_range hf hp (hl k (by omega))
    rw [rcS]
    split <;> omega
theorem rcS_hi {f : Fc} {p : Pc} (hf : FcV f) (hp : PcV p) {x y : List UInt8} {a b : List Int} {s : Int} (hl : LL y) : ∀ k, k ≤ y.length → rcS f p x y a b s k ≤ prcN f p y k + p.fill * (x.length : Int)
  | 0, _ => by
    rw [rcS, prcN]
    have h1 := cntK_range x y a b s
    have h2 := Int.mul_nonneg hp.fill.1 h1.1
    rw [Int.mul_sub]
    omega
  | k + 1, h => by
    have h1 := rcS_hi hf hp hl (x := x) (a := a) (b := b) (s := s) k (by omega)
    have h2 := letP_range hf hp (hl k (by omega))
    rw [rcS, prcN]
    split <;> omega

/-! ### Two lines that were drawn -/
/-- The best shift of two lines. -/
def shR (f : Fc) (o w : List UInt8) : Int × Int := bsh (cntK (lets o) (lets w) (plW f o o.length) (plW f w w.length)) 400
theorem keptOut_ok {f : Fc} {o w : List UInt8} {s : Int} (hf : FcV f) (ho : vText o = true) (hw : vText w = true) (hs : -400 ≤ s ∧ s ≤ 400) : keptOut f o w s = (kptR f o w s, 0) := by
  unfold keptOut
  rw [kepC_ok (validF_iff.2 hf) ho hw, (show inB (-400) 400 s = true from by unfold inB; simp; omega)]
  rfl
end Go.Proofs.YtpindajpdkpfjaaGreatDoor
namespace Go.Proofs.YtpindajpdkpfjaaGreatDoor
open Go Go.RowKit
set_option linter.unusedVariables false
set_option linter.unusedSimpArgs false

/-- What holds of a face, prices, two texts, their letters and places, the best shift, what it keeps and what it costs. -/
structure RkO (f : Fc) (p : Pc) (o s x y : List UInt8) (pa qa : List Int) (d : Int) (K : List Int) (cost full : Int) : Prop where
  x60 : x.length ≤ 60
  y60 : y.length ≤ 60
  yl : LL y
  pal : pa.length = x.length
  qal : qa.length = y.length
  par : ∀ i, i < x.length → 0 ≤ rdI pa i ∧ rdI pa i < 3600
  qar : ∀ i, i < y.length → 0 ≤ rdI qa i ∧ rdI qa i < 3600
  dr : -400 ≤ d ∧ d ≤ 400
  mem : ∀ k, k < y.length → decide ((k : Int) ∈ K) = kbN x y pa qa d k x.length
  best : ∀ z : Int, -400 ≤ z → z ≤ 400 → NoBet (d, (K.length : Int)) z ((kptR f o s z).length : Int)
  kx : K.length ≤ x.length
  ky : K.length ≤ y.length
  rc0 : p.base + p.fill * ((x.length : Int) - (K.length : Int)) = rcS f p x y pa qa d 0
  rcy : ∀ k, k < y.length → kbN x y pa qa d k x.length = true → rcS f p x y pa qa d (k + 1) = rcS f p x y pa qa d k
  rcn : ∀ k, k < y.length → kbN x y pa qa d k x.length = false → rcS f p x y pa qa d (k + 1) = rcS f p x y pa qa d k + letP f p (byt y k)
  rcr : ∀ k, k ≤ y.length → -60000 ≤ rcS f p x y pa qa d k ∧ rcS f p x y pa qa d k ≤ 61000 + 41000 * (k : Int)
  rce : rcS f p x y pa qa d y.length = cost
  self : o = s → d = 0 ∧ K.length = x.length ∧ cost = p.base
  lo : p.base ≤ cost
  hi : cost ≤ full + p.fill * (x.length : Int)
  fr : 0 ≤ full ∧ full ≤ 2461000
theorem rko_of {f : Fc} {p : Pc} {o s : List UInt8} (hf : FcV f) (hp : PcV p) (ho : vText o = true) (hs : vText s = true) :
    RkO f p o s (lets o) (lets s) (plW f o o.length) (plW f s s.length) (shR f o s).1 (kptR f o s (shR f o s).1) (rcR f p o s).1 (prcW f p s) := by
  have x60 : (lets o).length ≤ 60 := Nat.le_trans (lets_length _) (vText_len60 ho)
  have y60 : (lets s).length ≤ 60 := Nat.le_trans (lets_length _) (vText_len60 hs)
  have yl := lets_ll (vText_ls hs)
  have po := plW_rise hf (vText_ls ho) o.length (Nat.le_refl _)
  have ps := plW_rise hf (vText_ls hs) s.length (Nat.le_refl _)
  have bo := fun i => plW_bound (f := f) hf (vText_ls ho) (vText_len60 ho) (i := i)
  have bs := fun i => plW_bound (f := f) hf (vText_ls hs) (vText_len60 hs) (i := i)
  have lo := plW_len f o
  have ls := plW_len f s
  have hcost : (rcR f p o s).1 = rcS f p (lets o) (lets s) (plW f o o.length) (plW f s s.length) (shR f o s).1 (lets s).length := by
    unfold rcR
    rw [if_pos (show rcC f p o s = 0 by unfold rcC; rw [validF_iff.2 hf, pcOk_iff.2 hp, ho, hs]; rfl)]
    rfl
  have hself : o = s → shR f o s = (0, ((lets o).length : Int)) := fun e => by subst e; exact bsh_self _ _
  have hself2 : o = s → cntK (lets o) (lets s) (plW f o o.length) (plW f s s.length) 0 = (lets o).length := fun e => by subst e; exact cntK_self _ _
  have hself3 : o = s → rcS f p (lets o) (lets s) (plW f o o.length) (plW f s s.length) 0 (lets s).length = p.base := fun e => by subst e; exact rcS_self f p _ _ _ (Nat.le_refl _)
  have hk : ∀ z, ((kptR f o s z).length : Int) = cntK (lets o) (lets s) (plW f o o.length) (plW f s s.length) z := fun z => rfl
  have hsh : bsh (cntK (lets o) (lets s) (plW f o o.length) (plW f s s.length)) 400 = shR f o s := by unfold shR; rfl
  have hat := bsh_at (cntK (lets o) (lets s) (plW f o o.length) (plW f s s.length)) 400
  have hbest := fun z => bsh_best (cntK (lets o) (lets s) (plW f o o.length) (plW f s s.length)) 400 z
  rw [hsh] at hat hbest
  clear hsh
  have hmem : ∀ z k, k < (lets s).length → (((k : Int) ∈ kptR f o s z) ↔ kbN (lets o) (lets s) (plW f o o.length) (plW f s s.length) z k (lets o).length = true) := fun z k h => kpt_mem _ _ _ _ z _ k h
  have hfull : prcW f p s = prcN f p (lets s) (lets s).length := rfl
  have hfr := prcW_range hf hp (vText_ls hs) (vText_len60 hs)
  generalize shR f o s = r at *
  obtain ⟨d, n⟩ := r
  dsimp only at *
  generalize lets o = x at *
  generalize lets s = y at *
  generalize plW f o o.length = pa at *
  generalize plW f s s.length = qa at *
  have ha : ∀ i j, i < j → j < x.length → rdI pa i < rdI pa j := fun i j h1 h2 => po.2 i j h1 (by omega)
  have hb : ∀ i j, i < j → j < y.length → rdI qa i < rdI qa j := fun i j h1 h2 => ps.2 i j h1 (by omega)
  have hkx := cntK_old d ha hb
  have hky := cntK_range x y pa qa d
  have hlo := rcS_lo hf hp (a := pa) (b := qa) (s := d) yl hkx y.length (Nat.le_refl _)
  have hhi := rcS_hi hf hp (x := x) (a := pa) (b := qa) (s := d) yl y.length (Nat.le_refl _)
  have hn : n = ((kptR f o s d).length : Int) := by rw [hk]; exact hat.1
  refine ⟨x60, y60, yl, lo, ls, fun i hi => bo i (by omega), fun i hi => bs i (by omega), by omega, fun k hk => ?_, fun z h1 h2 => ?_, by rw [← hk] at hkx; omega, by rw [← hk] at hky; omega, ?_, fun k _ h => rcS_yes h, fun k _ h => rcS_no h, fun k h => rcS_range hf hp x60 y60 yl k h, hcost.symm, fun e => ?_, by rw [hcost]; exact hlo, by rw [hcost, hfull]; exact hhi, hfr⟩
  · rw [Bool.eq_iff_iff, decide_eq_true_iff]; exact hmem d k hk
  · rw [← hn, hk]; exact hbest z (by omega) (by omega)
  · rw [rcS, hk]
  · have h1 := hself e
    injection h1 with h1 h2
    subst h1
    refine ⟨rfl, ?_, by rw [hcost]; exact hself3 e⟩
    have := hself2 e
    rw [← hk] at this
    omega
theorem shR_two (f : Fc) (o s : List UInt8) : (shR f o s).2 = ((kptR f o s (shR f o s).1).length : Int) := by
  have hsh : bsh (cntK (lets o) (lets s) (plW f o o.length) (plW f s s.length)) 400 = shR f o s := by unfold shR; rfl
  have h := (bsh_at (cntK (lets o) (lets s) (plW f o o.length) (plW f s s.length)) 400).1
  rw [hsh] at h
  exact h
theorem bs_mk' (l : List UInt8) : bs ⟨l.toArray⟩ = l := by unfold bs; simp
end Go.Proofs.YtpindajpdkpfjaaGreatDoor
namespace Go.Proofs.YtpindajpdkpfjaaGreatDoor
open Go Go.RowKit
set_option linter.unusedVariables false
set_option linter.unusedSimpArgs false

/-- The pair that a shift answers with. -/
def shE (r : Int × Int) : Ending := .returned (.tuple #[.int .i64 r.1, .int .i64 r.2, .int .i64 0])
set_option maxHeartbeats 1000000 in
set_option maxRecDepth 100000 in
theorem bestS_impl (f : Fc) (A : Option Addr) (n c : Nat) (o s : ByteArray) (w : World) (hf : FcT f) (hV : validF f = true) (hn : f.pairs.length = n) (hm : n ≤ 1048576) (ho : vText (bs o) = true) (ht : vText (bs s) = true) (hos : o.size ≤ 1048576) (hs : s.size ≤ 1048576) (h : SlP w A f.pairs) (hmx : MaxW w) :
    Calls Tryz.prog 9 #[.agg (fcV f (.slice A n c)).toArray, .string o, .string s] w fun e w' => e = shE (shR f (bs o) (bs s)) ∧ Below w.heap.size w w' := by
  have hB := below_one w (.cells (fcV f (.slice A n c)).toArray 28)
  have hk := Blk.new w 28 (fcV f (.slice A n c))
  have hsz : (fcV f (.slice A n c)).toArray.size = 29 := by simp [fcV_length hf]
  have HZ := Lib.hid (show (Tryz.prog.info? 28).map (·.size) = some (fcV f (.slice A n c)).toArray.size by rw [hsz]; exact szFcI)
  have HC := Lib.hid (show kepC f (bs o) (bs s) true = 0 from kepC_ok hV ho ht)
  have HF := Lib.hid hf
  have HV := Lib.hid (validF_iff.1 hV)
  have HN := Lib.hid hn
  have HT := Lib.hid ho
  have HU := Lib.hid ht
  have HS := Lib.hid (h.next hB)
  have HM := Lib.hid (hmx.next hB)
  obtain ⟨r, hr⟩ : ∃ r, r = shR f (bs o) (bs s) := ⟨_, rfl⟩
  have HR := Lib.hid hr
  rw [← hr]
  clear hf hV hn ho ht h hmx hsz hr
  go_enter Tryz.func9, Tryz.ntmps9
  go_wp2_with (first
    | (refine wpList_load_row rfl 28 (.tmp 3) rfl _ rfl 28 (fcV f (.slice A n c)).toArray _ _ hk Tryz.underlying28 rfl HZ.out ?_)
    | (go_at_call 25; refine (shiftCode_any f A n c o s _ HF.out HN.out hm hos hs HS.out HM.out).mono ?_; rintro e w1 ⟨he, hb1⟩; rw [HC.out] at he; subst he; have hk := hk.next hb1)
    | (go_at_call 26; refine (bestShift_impl f A n c o s _ HF.out HV.out HN.out hm hos hs HT.out HU.out (HS.out.next hb1) (HM.out.next hb1) r HR.out).mono ?_; rintro e w2 ⟨rfl, hb2⟩))
  go_ret3
  exact ⟨rfl, below_step hB (below_step hb1 hb2)⟩
set_option maxHeartbeats 1000000 in
set_option maxRecDepth 100000 in
theorem bestS_spec (f : Fc) (A : Option Addr) (n c : Nat) (o s : ByteArray) (w : World) (hf : FcT f) (hV : validF f = true) (hn : f.pairs.length = n) (hm : n ≤ 1048576) (ho : vText (bs o) = true) (ht : vText (bs s) = true) (hos : o.size ≤ 1048576) (hs : s.size ≤ 1048576) (h : SlP w A f.pairs) :
    Calls Tryz.prog 10 #[.agg (fcV f (.slice A n c)).toArray, .string o, .string s] w fun e w' => e = shE (shR f (bs o) (bs s)) ∧ Below w.heap.size w w' := by
  have hB := below_one w (.cells (fcV f (.slice A n c)).toArray 28)
  have hfa : FcAt (w.alloc (.cells (fcV f (.slice A n c)).toArray 28)) w.heap.size f n := ⟨A, c, Blk.new w 28 (fcV f (.slice A n c)), h.next hB⟩
  have HC := Lib.hid (show kepC f (bs o) (bs s) true = 0 from kepC_ok hV ho ht)
  have HF := Lib.hid hf
  have HV := Lib.hid (validF_iff.1 hV)
  have HN := Lib.hid hn
  have HT := Lib.hid ho
  have HU := Lib.hid ht
  have HA := Lib.hid hfa
  obtain ⟨r, hr⟩ : ∃ r, r = shR f (bs o) (bs s) := ⟨_, rfl⟩
  have HR := Lib.hid hr
  rw [← hr]
  clear hf hV hn ho ht h hfa hr
  go_enter Tryz.func10, Tryz.ntmps10
  go_wp2_with (first
    | (go_at_call 27; refine (shiftC_spec f n w.heap.size o s true _ HF.out HN.out hm hos hs HA.out).mono ?_; rintro e w1 ⟨he, hb1⟩; rw [HC.out] at he; subst he)
    | (go_at_call 28; refine (shift_spec f n w.heap.size o s _ HF.out HV.out HN.out hm hos hs HT.out HU.out (HA.out.next hb1) r HR.out).mono ?_; rintro e w2 ⟨rfl, hb2⟩))
  go_ret3
  exact ⟨rfl, below_step hB (below_step hb1 hb2)⟩
set_option maxHeartbeats 1000000 in
set_option maxRecDepth 100000 in
theorem placesOf_impl (f : Fc) (A : Option Addr) (n c : Nat) (s : ByteArray) (w : World) (hf : FcT f) (hV : validF f = true) (hn : f.pairs.length = n) (hm : n ≤ 1048576) (ht : vText (bs s) = true) (hs : s.size ≤ 1048576) (h : SlP w A f.pairs) (hmx : MaxW w) :
    Calls Tryz.prog 16 #[.agg (fcV f (.slice A n c)).toArray, .string s] w (LcOut w (plW f (bs s) (bs s).length, 0)) := by
  have hB := below_one w (.cells (fcV f (.slice A n c)).toArray 28)
  have hk := Blk.new w 28 (fcV f (.slice A n c))
  have hz := hB.size
  have hsz : (fcV f (.slice A n c)).toArray.size = 29 := by simp [fcV_length hf]
  have HZ := Lib.hid (show (Tryz.prog.info? 28).map (·.size) = some (fcV f (.slice A n c)).toArray.size by rw [hsz]; exact szFcI)
  have HC := Lib.hid (show askC f (bs s) true = 0 from askC_ok hV ht)
  have HF := Lib.hid hf
  have HV := Lib.hid (validF_iff.1 hV)
  have HN := Lib.hid hn
  have HU := Lib.hid (vText_ls ht)
  have H60 := Lib.hid (show s.size ≤ 60 by have := vText_len60 ht; rwa [bs_length] at this)
  have HS := Lib.hid (h.next hB)
  have HM := Lib.hid (hmx.next hB)
  clear hf hV hn ht h hmx hsz
  go_enter Tryz.func16, Tryz.ntmps16
  go_wp2_with (first
    | (refine wpList_load_row rfl 28 (.tmp 2) rfl _ rfl 28 (fcV f (.slice A n c)).toArray _ _ hk Tryz.underlying28 rfl HZ.out ?_)
    | (go_at_call 42; refine (lineCode_any f A n c s _ HF.out HN.out hm hs HS.out HM.out).mono ?_; rintro e w1 ⟨he, hb1⟩; rw [HC.out] at he; subst he; have hk := hk.next hb1)
    | (go_at_call 43; refine (places_any f A n c s _ HF.out HV.out HN.out hm HU.out H60.out (HS.out.next hb1)).mono ?_; rintro e w2 ⟨A2, c2, rfl, hb2, ho2⟩))
  go_ret2
  have hz1 := hb1.size
  exact ⟨A2, c2, rfl, below_step hB (below_step hb1 hb2), ho2.low (by omega)⟩
theorem hasNumber_any (A : Option Addr) (n c : Nat) (xs : List Int) (x : Int) (w : World) (hn : xs.length = n) (hm : n ≤ 1048576) (h : SlE i64 w A xs) :
    Calls Tryz.prog 18 #[.slice A n c, .int .i64 x] w fun e w' => e = .returned (.bool (decide (x ∈ xs))) ∧ Below w.heap.size w w' := by
  go_enter Tryz.func18, Tryz.ntmps18
  repeat (first | go_values | go_skip | go_guarded | go_step | go_upon)
  go_at_call 37
  refine (has_spec A n c xs x w hn hm h).mono ?_
  rintro e w1 ⟨rfl, hb1⟩
  have HB := Lib.hid hb1
  clear hb1 h hn
  dsimp only
  repeat (first | go_values | go_skip | go_guarded | go_step | go_upon)
  go_ret
  exact ⟨rfl, HB.out⟩
theorem sameNum_any (A B : Option Addr) (c d : Nat) (xs ys : List Int) (n m : Nat) (w : World) (hx : xs.length = n) (hy : ys.length = m) (hn : n ≤ 1048576) (hm : m ≤ 1048576) (ha : SlE i64 w A xs) (hb : SlE i64 w B ys) :
    Calls Tryz.prog 15 #[.slice A n c, .slice B m d] w fun e w' => e = .returned (.bool (decide (xs = ys))) ∧ Below w.heap.size w w' := by
  go_enter Tryz.func15, Tryz.ntmps15
  repeat (first | go_values | go_skip | go_guarded | go_step | go_upon)
  go_at_call 41
  refine (l00Same_any A B c d xs ys n m w hx hy hn hm ha hb).mono ?_
  rintro e w1 ⟨rfl, hb1⟩
  have HB := Lib.hid hb1
  clear hb1 ha hb hx hy
  dsimp only
  repeat (first | go_values | go_skip | go_guarded | go_step | go_upon)
  go_ret
  exact ⟨rfl, HB.out⟩
end Go.Proofs.YtpindajpdkpfjaaGreatDoor
namespace Go.Proofs.YtpindajpdkpfjaaGreatDoor
open Go Go.RowKit
set_option linter.unusedVariables false
set_option linter.unusedSimpArgs false

/-- A list of bytes in memory becomes a text. -/
theorem conv_bytes {w : World} {A : Option Addr} {l : List UInt8} (c : Nat) (h : SlE bv w A l) : (convert 22 9 (.slice A l.length c)).run Tryz.prog w = .ok (.string ⟨l.toArray⟩) w := by
  cases l with
  | nil =>
    rcases A with _ | a
    · rw [run_convert_bytes_string w _ _ 5 none _ c Tryz.underlying22 Tryz.underlying5 Tryz.underlying9]
      simp [Conv.bytesToString]
      rfl
    · exact run_convert_bytes_back (P := Tryz.prog) w 22 9 5 a c [] Tryz.underlying22 Tryz.underlying5 Tryz.underlying9 (fun j hj => absurd hj (Nat.not_lt_zero _))
  | cons b l =>
    obtain ⟨a, rfl, _⟩ := h 0 b rfl
    exact run_convert_bytes_back (P := Tryz.prog) w 22 9 5 a c (b :: l) Tryz.underlying22 Tryz.underlying5 Tryz.underlying9 (fun j hj => by
      obtain ⟨a', e, hc⟩ := h j ((b :: l)[j]) (List.getElem?_eq_getElem hj)
      cases e
      exact hc)
set_option maxHeartbeats 1000000 in
set_option maxRecDepth 100000 in
theorem letters04_any (s : ByteArray) (w : World) (hs : s.size ≤ 1048576) :
    Calls Tryz.prog 44 #[.string s] w fun e w' => e = .returned (.string ⟨(lets (bs s)).toArray⟩) ∧ Below w.heap.size w w' := by
  have HB := Lib.hid (bs_length s)
  go_enter Tryz.func44, Tryz.ntmps44
  go_wp2
  go_loopw [3, 4] (fun v i wr => ∃ k : Nat, k ≤ s.size ∧ i = .int .i64 k ∧ LtRel (bs s) w wr v k) (fun _ i _ => s.size - (intOf i).toNat)
  case atStart => exact ⟨0, by omega, rfl, own_empty _ _ rfl _ _ (Nat.le_refl _) 1, below_one _ _⟩
  case round =>
    obtain ⟨k, hk, rfl, h⟩ := hrel
    have hown := h.own
    have hbel := h.below
    have hsz := hbel.size
    have hlen : (lets ((bs s).take k)).length ≤ 1048576 := by
      have := lets_length ((bs s).take k)
      rw [List.length_take] at this; omega
    clear h
    by_cases hlt : k < s.size
    · have hix := run_byte s k hlt
      have hlb : k < (bs s).length := by rw [HB.out]; exact hlt
      cases hb : (byS s k == 32)
      · have hne : byt (bs s) k ≠ 32 := by simpa [byS] using hb
        have HP := Lib.hid (letsT_let hlb hne)
        have HE := Lib.hid (show Value.int .u8 (byS s k) = bv ((bs s)[k]) by unfold bv; rw [← byt_get hlb]; rfl)
        have hnb : (byS s k != 32) = true := by simp [bne, hb]
        clear hne
        go_wp2_with (at_builtin; refine wpList_app1 rfl (.tmp 16) (.tmp 20) _ rfl elB wr w.heap.size u3 (lets ((bs s).take k)).length _ rfl hown (.int .u8 (byS s k)) _ rfl rfl rfl (by unfold maxLen; omega) (by omega) hsz ?_; intro v' w' ho' hg')
        go_roundw
        case rel =>
          refine ⟨k + 1, by omega, by go_num, ?_, below_own hbel hown hg' (Nat.le_refl _) hsz⟩
          rw [HP.out, List.length_append, List.map_append]
          rw [HE.out] at ho'
          exact ho'
        case measure => simp [intOf]; omega
      · have heq : byt (bs s) k = 32 := by simpa [byS] using hb
        have HP := Lib.hid (letsT_sp hlb heq)
        have hnb : (byS s k != 32) = false := by simp [bne, hb]
        clear heq
        go_wp2
        go_roundw
        case rel => exact ⟨k + 1, by omega, by go_num, by rw [HP.out]; exact hown, hbel⟩
        case measure => simp [intOf]; omega
    · obtain rfl : k = s.size := by omega
      have HT := Lib.hid (show (bs s).take s.size = bs s by rw [← bs_length, List.take_length])
      obtain ⟨A', c', rfl, hl, _, ho⟩ := SlE_own hown
      have hconv := conv_bytes c' ho
      rw [HT.out] at hconv
      rw [HT.out]
      clear ho hl hown hlen
      go_wp2
      go_ret
      exact ⟨rfl, hbel⟩
theorem lettersOf_any (s : ByteArray) (w : World) (hs : s.size ≤ 1048576) :
    Calls Tryz.prog 17 #[.string s] w fun e w' => e = .returned (.string ⟨(lets (bs s)).toArray⟩) ∧ Below w.heap.size w w' := by
  go_enter Tryz.func17, Tryz.ntmps17
  repeat (first | go_values | go_skip | go_guarded | go_step | go_upon)
  go_at_call 44
  refine (letters04_any s _ hs).mono ?_
  rintro e w1 ⟨rfl, hb1⟩
  have HB := Lib.hid hb1
  clear hb1
  dsimp only
  repeat (first | go_values | go_skip | go_guarded | go_step | go_upon)
  go_ret
  exact ⟨rfl, HB.out⟩
set_option maxHeartbeats 2000000 in
set_option maxRecDepth 100000 in
theorem priceOf_impl (f : Fc) (A : Option Addr) (n c : Nat) (p : Pc) (s : ByteArray) (w : World) (hf : FcT f) (hV : validF f = true) (hn : f.pairs.length = n) (hm : n ≤ 1048576) (hp : PcT p) (hP : PcV p) (ht : vText (bs s) = true) (hs : s.size ≤ 1048576) (h : SlP w A f.pairs) (hmx : MaxW w) :
    Calls Tryz.prog 19 #[.agg (fcV f (.slice A n c)).toArray, .agg (pcV p).toArray, .string s] w fun e w' => e = .returned (.tuple #[.int .i64 (prcW f p (bs s)), .int .i64 0]) ∧ Below w.heap.size w w' := by
  have hB := below_two w (.cells (fcV f (.slice A n c)).toArray 28) (.cells (pcV p).toArray 33)
  have hb0 := below_one ((w.alloc (.cells (fcV f (.slice A n c)).toArray 28)).alloc (.cells (pcV p).toArray 33)) (.cells #[.string s] 9)
  have hk1 := ((Blk.new w 28 (fcV f (.slice A n c))).alloc (.cells (pcV p).toArray 33))
  have hk2 := Blk.new (w.alloc (.cells (fcV f (.slice A n c)).toArray 28)) 33 (pcV p)
  have hsl0 : SlE sv (((w.alloc (.cells (fcV f (.slice A n c)).toArray 28)).alloc (.cells (pcV p).toArray 33)).alloc (.cells #[.string s] 9)) (some ⟨((w.alloc (.cells (fcV f (.slice A n c)).toArray 28)).alloc (.cells (pcV p).toArray 33)).heap.size, 0, none⟩) [bs s] := SlE.of_row (Blk.row (enc := sv) (Blk.new ((w.alloc (.cells (fcV f (.slice A n c)).toArray 28)).alloc (.cells (pcV p).toArray 33)) 9 [sv (bs s)]))
  rw [World.size_alloc] at hk2
  rw [World.size_alloc, World.size_alloc] at hsl0
  have hsz : (fcV f (.slice A n c)).toArray.size = 29 := by simp [fcV_length hf]
  have HZ := Lib.hid (show (Tryz.prog.info? 28).map (·.size) = some (fcV f (.slice A n c)).toArray.size by rw [hsz]; exact szFcI)
  have HZ2 := Lib.hid (show (Tryz.prog.info? 33).map (·.size) = some (pcV p).toArray.size by rw [List.size_toArray, pcV_length hp]; exact szPcI)
  have hB1 := below_step hB hb0
  have HS := Lib.hid (h.next hB1)
  have HM := Lib.hid (hmx.next hB1)
  have HF := Lib.hid hf
  have HN := Lib.hid hn
  have HP := Lib.hid hp
  have HV := Lib.hid (validF_iff.1 hV)
  have HPV := Lib.hid hP
  have HU := Lib.hid (vText_ls ht)
  have H60 := Lib.hid (show s.size ≤ 60 by have := vText_len60 ht; rwa [bs_length] at this)
  have HK1 := Lib.hid (hk1.next hb0)
  have HK2 := Lib.hid (hk2.next hb0)
  have HSL0 := Lib.hid hsl0
  have HBB := Lib.hid hB1
  have HLS := Lib.hid (show ∀ x ∈ [bs s], x.length ≤ 1048576 by
    intro x hx
    obtain rfl := List.mem_singleton.1 hx; rw [bs_length]; exact hs)
  have HC := Lib.hid (show pccN f p [bs s] = 0 by rw [pccN_one]; exact pcC_ok (b := true) hV (pcOk_iff.2 hP) ht)
  clear hf hV hn h hp hP ht hmx hsz hsl0 hB hB1 hb0
  go_enter Tryz.func19, Tryz.ntmps19
  go_wp2_with (first
    | (refine wpList_load_row rfl 28 (.tmp 3) rfl _ rfl 28 (fcV f (.slice A n c)).toArray _ _ hk1 Tryz.underlying28 rfl HZ.out ?_)
    | (refine wpList_load_row rfl 33 (.tmp 4) rfl _ rfl 33 (pcV p).toArray _ _ hk2 Tryz.underlying33 rfl HZ2.out ?_)
    | (go_at_call 29; refine (priceCode_any f p A _ n c 1 _ [bs s] _ HF.out HP.out HN.out hm rfl (by decide) HLS.out HS.out HSL0.out HM.out).mono ?_; rintro e w1 ⟨he, hb1⟩; rw [HC.out] at he; subst he; have hk1 := HK1.out.next hb1; have hk2 := HK2.out.next hb1)
    | (go_at_call 45; refine (cost_impl f p A n c s _ HF.out HP.out HV.out HPV.out HU.out H60.out (HM.out.next hb1)).mono ?_; rintro e w2 ⟨rfl, hb2⟩))
  go_ret2
  exact ⟨rfl, below_step HBB.out (below_step hb1 hb2)⟩
end Go.Proofs.YtpindajpdkpfjaaGreatDoor
namespace Go.Proofs.YtpindajpdkpfjaaGreatDoor
open Go Go.RowKit
set_option linter.unusedVariables false
set_option linter.unusedSimpArgs false

/-- A list comes back, with a code. -/
def LOut (w : World) (xs : List Int) (code : Int) (e : Ending) (w' : World) : Prop := ∃ B d, (e = .returned (.tuple #[.slice B xs.length d, .int .i64 code]) ∧ SlE i64 w' B xs) ∧ Below w.heap.size w w'
theorem lc_l {w w' : World} {r : List Int × Int} {e : Ending} (h : LcOut w r e w') : LOut w r.1 r.2 e w' := by
  obtain ⟨A, c, h1, h2, h3⟩ := h
  exact ⟨A, c, ⟨h1, h3.sl⟩, h2⟩
theorem size60 {l : List UInt8} (h : vText l = true) : (⟨l.toArray⟩ : ByteArray).size ≤ 1048576 := by
  have := vText_len60 h
  show l.toArray.size ≤ _
  simp; omega
theorem bestS_implL (f : Fc) (S : Value) (o s : List UInt8) (w : World) (hf : HasF w f S) (hV : validF f = true) (ho : vText o = true) (hs : vText s = true) (hmx : MaxW w) (d n : Int) (hd : (d, n) = shR f o s) :
    Calls Tryz.prog 9 #[.agg (fcV f S).toArray, .string ⟨o.toArray⟩, .string ⟨s.toArray⟩] w fun e w' => e = .returned (.tuple #[.int .i64 d, .int .i64 n, .int .i64 0]) ∧ Below w.heap.size w w' := by
  obtain ⟨hft, A, k, c, rfl, hn, hm, hsl⟩ := hf
  refine (bestS_impl f A k c ⟨o.toArray⟩ ⟨s.toArray⟩ w hft hV hn (by omega) ho hs (size60 ho) (size60 hs) hsl hmx).mono fun e w' hh => ?_
  rw [bs_mk, bs_mk, ← hd] at hh
  exact hh
theorem bestS_specL (f : Fc) (S : Value) (o s : List UInt8) (w : World) (hf : HasF w f S) (hV : validF f = true) (ho : vText o = true) (hs : vText s = true) (d n : Int) (hd : (d, n) = shR f o s) :
    Calls Tryz.prog 10 #[.agg (fcV f S).toArray, .string ⟨o.toArray⟩, .string ⟨s.toArray⟩] w fun e w' => e = .returned (.tuple #[.int .i64 d, .int .i64 n, .int .i64 0]) ∧ Below w.heap.size w w' := by
  obtain ⟨hft, A, k, c, rfl, hn, hm, hsl⟩ := hf
  refine (bestS_spec f A k c ⟨o.toArray⟩ ⟨s.toArray⟩ w hft hV hn (by omega) ho hs (size60 ho) (size60 hs) hsl).mono fun e w' hh => ?_
  rw [bs_mk, bs_mk, ← hd] at hh
  exact hh
theorem rcR_ok {f : Fc} {p : Pc} {o s : List UInt8} (hV : validF f = true) (hp : PcV p) (ho : vText o = true) (hs : vText s = true) : (rcR f p o s).2 = 0 := by
  unfold rcR
  rw [if_pos (show rcC f p o s = 0 by unfold rcC; rw [hV, pcOk_iff.2 hp, ho, hs]; rfl)]
theorem recut_implL (f : Fc) (S : Value) (p : Pc) (o s : List UInt8) (w : World) (hf : HasF w f S) (hV : validF f = true) (hp : PcG p) (ho : vText o = true) (hs : vText s = true) (hmx : MaxW w) (cost : Int) (hc : cost = (rcR f p o s).1) :
    Calls Tryz.prog 11 #[.agg (fcV f S).toArray, .agg (pcV p).toArray, .string ⟨o.toArray⟩, .string ⟨s.toArray⟩] w fun e w' => e = .returned (.tuple #[.int .i64 cost, .int .i64 0]) ∧ Below w.heap.size w w' := by
  obtain ⟨hft, A, k, c, rfl, hn, hm, hsl⟩ := hf
  refine (recut_impl f A k c p ⟨o.toArray⟩ ⟨s.toArray⟩ w hft hn (by omega) (size60 ho) (size60 hs) hp.typ hsl hmx).mono fun e w' hh => ?_
  rw [bs_mk, bs_mk, rcR_ok hV hp.ok ho hs, ← hc] at hh
  exact hh
theorem recut_specL (f : Fc) (S : Value) (p : Pc) (o s : List UInt8) (w : World) (hf : HasF w f S) (hV : validF f = true) (hp : PcG p) (ho : vText o = true) (hs : vText s = true) (cost : Int) (hc : cost = (rcR f p o s).1) :
    Calls Tryz.prog 12 #[.agg (fcV f S).toArray, .agg (pcV p).toArray, .string ⟨o.toArray⟩, .string ⟨s.toArray⟩] w fun e w' => e = .returned (.tuple #[.int .i64 cost, .int .i64 0]) ∧ Below w.heap.size w w' := by
  obtain ⟨hft, A, k, c, rfl, hn, hm, hsl⟩ := hf
  refine (recut_spec f A k c p ⟨o.toArray⟩ ⟨s.toArray⟩ w hft hn (by omega) (size60 ho) (size60 hs) hp.typ hsl).mono fun e w' hh => ?_
  rw [bs_mk, bs_mk, rcR_ok hV hp.ok ho hs, ← hc] at hh
  exact hh
theorem kept_implL (f : Fc) (S : Value) (o s : List UInt8) (d : Int) (w : World) (hf : HasF w f S) (hV : validF f = true) (ho : vText o = true) (hs : vText s = true) (hd : -400 ≤ d ∧ d ≤ 400) (hmx : MaxW w) :
    Calls Tryz.prog 13 #[.agg (fcV f S).toArray, .string ⟨o.toArray⟩, .string ⟨s.toArray⟩, .int .i64 d] w (LOut w (kptR f o s d) 0) := by
  obtain ⟨hft, A, k, c, rfl, hn, hm, hsl⟩ := hf
  refine (keptAt_impl f A k c ⟨o.toArray⟩ ⟨s.toArray⟩ d w hft hn (by omega) (size60 ho) (size60 hs) hsl hmx).mono fun e w' hh => ?_
  rw [bs_mk, bs_mk, keptOut_ok (validF_iff.1 hV) ho hs hd] at hh
  exact lc_l hh
theorem kept_specL (f : Fc) (S : Value) (o s : List UInt8) (d : Int) (w : World) (hf : HasF w f S) (hV : validF f = true) (ho : vText o = true) (hs : vText s = true) (hd : -400 ≤ d ∧ d ≤ 400) :
    Calls Tryz.prog 14 #[.agg (fcV f S).toArray, .string ⟨o.toArray⟩, .string ⟨s.toArray⟩, .int .i64 d] w (LOut w (kptR f o s d) 0) := by
  obtain ⟨hft, A, k, c, rfl, hn, hm, hsl⟩ := hf
  refine (keptAt_spec f A k c ⟨o.toArray⟩ ⟨s.toArray⟩ d w hft hn (by omega) (size60 ho) (size60 hs) hsl).mono fun e w' hh => ?_
  rw [bs_mk, bs_mk, keptOut_ok (validF_iff.1 hV) ho hs hd] at hh
  exact lc_l hh
theorem places_implL (f : Fc) (S : Value) (s : List UInt8) (w : World) (hf : HasF w f S) (hV : validF f = true) (hs : vText s = true) (hmx : MaxW w) :
    Calls Tryz.prog 16 #[.agg (fcV f S).toArray, .string ⟨s.toArray⟩] w (LOut w (plW f s s.length) 0) := by
  obtain ⟨hft, A, k, c, rfl, hn, hm, hsl⟩ := hf
  refine (placesOf_impl f A k c ⟨s.toArray⟩ w hft hV hn (by omega) hs (size60 hs) hsl hmx).mono fun e w' hh => ?_
  rw [bs_mk] at hh
  exact lc_l hh
theorem letters_L (s : List UInt8) (w : World) (hs : vText s = true) :
    Calls Tryz.prog 17 #[.string ⟨s.toArray⟩] w fun e w' => e = .returned (.string ⟨(lets s).toArray⟩) ∧ Below w.heap.size w w' := by
  have h := lettersOf_any ⟨s.toArray⟩ w (size60 hs)
  rw [bs_mk] at h
  exact h
theorem price_implL (f : Fc) (S : Value) (p : Pc) (s : List UInt8) (w : World) (hf : HasF w f S) (hV : validF f = true) (hp : PcG p) (hs : vText s = true) (hmx : MaxW w) :
    Calls Tryz.prog 19 #[.agg (fcV f S).toArray, .agg (pcV p).toArray, .string ⟨s.toArray⟩] w fun e w' => e = .returned (.tuple #[.int .i64 (prcW f p s), .int .i64 0]) ∧ Below w.heap.size w w' := by
  obtain ⟨hft, A, k, c, rfl, hn, hm, hsl⟩ := hf
  have h := priceOf_impl f A k c p ⟨s.toArray⟩ w hft hV hn (by omega) hp.typ hp.ok hs (size60 hs) hsl hmx
  rw [bs_mk] at h
  exact h
/-- Two texts are compared. -/
theorem exec_str_eq {op : Oper} {a : Act} {w : World} (x y : Operand) (ho : op.op = .binOp .eql 9 x y 9) (l m : List UInt8) (hx : a.eval x = .string ⟨l.toArray⟩) (hy : a.eval y = .string ⟨m.toArray⟩) {b : Bool} (hb : decide (l = m) = b) :
    (execOp a.eval op).run Tryz.prog w = .ok (.value (.bool b)) w := by
  unfold execOp
  simp only [ho, hx, hy]
  go_simp
  rw [← hb, Bool.eq_iff_iff, decide_eq_true_iff, beq_iff_eq]
end Go.Proofs.YtpindajpdkpfjaaGreatDoor
