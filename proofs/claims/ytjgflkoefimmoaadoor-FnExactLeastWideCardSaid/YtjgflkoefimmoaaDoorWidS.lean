/- Contracts: the widest word, by the reference. -/
import Derived.Test.YtjgflkoefimmoaaDoorWidP
import Derived.Test.YtjgflkoefimmoaaDoorWdI
import Derived.OwnWalk
namespace Go.Proofs.YtjgflkoefimmoaaDoor
open Go Go.RowKit
set_option linter.unusedVariables false
set_option linter.unusedSimpArgs false

/-- Three numbers. -/
def tripV (p : Int × Int × Int) : Value := .tuple #[.int .i64 p.1, .int .i64 p.2.1, .int .i64 p.2.2]
theorem retT {p q : Int × Int × Int} (h : p = q) : Ending.returned (.tuple #[.int .i64 p.1, .int .i64 p.2.1, .int .i64 p.2.2]) = .returned (tripV q) := by rw [h]; rfl

set_option maxHeartbeats 2000000 in
set_option maxRecDepth 100000 in
theorem widest_spec (f : Fc) (A : Option Addr) (n c : Nat) (s : ByteArray) (w : World) (hf : FcT f) (hn : f.pairs.length = n) (hm : n ≤ 1048576) (hs : s.size ≤ 1048576) (h : SlP w A f.pairs) :
    Calls Tryd.prog 21 #[.agg (fcV f (.slice A n c)).toArray, .string s] w fun e w' => e = .returned (tripV (widOut f (bs s))) ∧ Below w.heap.size w w' := by
  have hB := below_one w (.cells (fcV f (.slice A n c)).toArray 33)
  have hk := Blk.new w 33 (fcV f (.slice A n c))
  have hfa : FcAt (w.alloc (.cells (fcV f (.slice A n c)).toArray 33)) w.heap.size f n := ⟨A, c, hk, h.next hB⟩
  have HF := Lib.hid hf
  have HN := Lib.hid hn
  have HA := Lib.hid hfa
  clear hf hn h hfa hk
  by_cases h0 : askC f (bs s) true = 0
  · obtain ⟨hv, ht, _⟩ := askC_zero h0
    have HVV := Lib.hid (validF_iff.1 hv)
    have HWD := Lib.hid (words_isW ht)
    have HWL := Lib.hid (fun x (hx : x ∈ words (bs s)) => word_len ht hx)
    have hcnt := words_count ht
    have HO := Lib.hid (widOut_ok hv ht)
    have HON := Lib.hid (widOut_nil hv ht)
    have H0 := Lib.hid h0
    clear hv ht h0
    go_enter Tryd.func21, Tryd.ntmps21
    go_wp2_with (first
      | (go_at_call 51; refine (asked_spec f n w.heap.size s true _ HF.out HN.out hm hs HA.out).mono ?_; rintro e w1 ⟨he, hb⟩; rw [H0.out] at he; subst he; have hb1 := hb; clear hb)
      | (go_at_call 52; refine (words_spec s _ hs).mono ?_; rintro e w2 ⟨A1, c1, rfl, _, hb2, hsl, _⟩))
    have HA2 := Lib.hid ((HA.out.next hb1).next hb2)
    have hB2 := below_step (below_step hB hb1) hb2
    have HSL := Lib.hid hsl
    clear hb1 hb2 hsl H0 HA hB
    have hw0 : w.heap.size ≤ w2.heap.size := hB2.size
    obtain ⟨b0, hb0⟩ : ∃ b0, b0 = w.heap.size := ⟨_, rfl⟩
    rw [← hb0] at HA2 ⊢
    clear hb0
    generalize hW : words (bs s) = ws at *
    go_loopw [8, 9, 11] (fun vb vm i wr => ∃ (k : Nat) (b m : Int), k ≤ ws.length ∧ i = .int .i64 k ∧ vb = .int .i64 b ∧ vm = .int .i64 m ∧ bst f ws k = (b, m) ∧ Below w2.heap.size w2 wr) (fun _ _ i _ => ws.length - (intOf i).toNat)
    case atStart => exact ⟨0, -1, 0, Nat.zero_le _, rfl, rfl, rfl, rfl, Below.refl _ _⟩
    case round =>
      obtain ⟨k, b, m, hk, rfl, rfl, rfl, hbst, hbel⟩ := hrel
      have hrg := bst_range HVV.out HWD.out HWL.out hk
      rw [hbst] at hrg
      have HBS := Lib.hid hbst
      clear hbst
      by_cases hlt : k < ws.length
      · have hwo := HWD.out _ (rdW_mem hlt)
        have hwl := HWL.out _ (rdW_mem hlt)
        have hlr := word_range HVV.out hwo hwl
        have HWO := Lib.hid hwo
        obtain ⟨a, rfl, hrow⟩ := (HSL.out.next hbel).some k hlt
        have hcell := hrow.atW k hlt
        have HA3 := Lib.hid (HA2.out.next hbel)
        clear hwo hrow
        by_cases hgt : m < lineW f (rdW ws k)
        · have HY := Lib.hid (bst_yes (f := f) (ws := ws) (k := k) (by rw [HBS.out]; exact hgt))
          rcases hrg with ⟨h1, e⟩ | ⟨h1, h2, h3, h4, h5⟩
          · obtain ⟨rfl, rfl⟩ := Prod.mk.inj e
            clear h1
            go_wp2_with (go_at_call 53; refine (wide_spec f n b0 ⟨(rdW ws k).toArray⟩ _ HF.out HVV.out HN.out hm HWO.out.1 hwl HA3.out).mono ?_; rintro e w3 ⟨he, hb3⟩; rw [bs_mk] at he; subst he; have hbel := below_step hbel hb3; clear hb3)
            go_roundw
            case rel => exact ⟨k + 1, _, _, by omega, by go_num, rfl, rfl, HY.out, hbel⟩
            case measure => simp [intOf]; omega
          · dsimp only at h2 h3 h4 h5
            go_wp2_with (go_at_call 53; refine (wide_spec f n b0 ⟨(rdW ws k).toArray⟩ _ HF.out HVV.out HN.out hm HWO.out.1 hwl HA3.out).mono ?_; rintro e w3 ⟨he, hb3⟩; rw [bs_mk] at he; subst he; have hbel := below_step hbel hb3; clear hb3)
            go_roundw
            case rel => exact ⟨k + 1, _, _, by omega, by go_num, rfl, rfl, HY.out, hbel⟩
            case measure => simp [intOf]; omega
        · have HY := Lib.hid (bst_no (f := f) (ws := ws) (k := k) (by rw [HBS.out]; exact hgt))
          rcases hrg with ⟨rfl, e⟩ | ⟨h1, h2, h3, h4, h5⟩
          · obtain ⟨rfl, rfl⟩ := Prod.mk.inj e
            omega
          · dsimp only at h2 h3 h4 h5
            go_wp2_with (go_at_call 53; refine (wide_spec f n b0 ⟨(rdW ws k).toArray⟩ _ HF.out HVV.out HN.out hm HWO.out.1 hwl HA3.out).mono ?_; rintro e w3 ⟨he, hb3⟩; rw [bs_mk] at he; subst he; have hbel := below_step hbel hb3; clear hb3)
            go_roundw
            case rel => exact ⟨k + 1, b, m, by omega, by go_num, rfl, rfl, by rw [HY.out, HBS.out], hbel⟩
            case measure => simp [intOf]; omega
      · obtain rfl : k = ws.length := by omega
        have hBw := hB2.trans (hbel.mono hB2.size)
        rcases hrg with ⟨h1, e⟩ | ⟨h1, h2, h3, h4, h5⟩
        · obtain ⟨rfl, rfl⟩ := Prod.mk.inj e
          have HX := Lib.hid (HON.out (List.eq_nil_of_length_eq_zero h1))
          go_wp2
          go_ret3
          exact ⟨retT (p := (0, 0, 6)) HX.out.symm, hBw⟩
        · dsimp only at h2 h3 h4 h5
          have HX := Lib.hid (HO.out (fun e => by rw [e] at h1; simp at h1))
          go_wp2
          go_ret3
          exact ⟨retT (p := (b, m, 0)) (by rw [HX.out, HBS.out]), hBw⟩
  · obtain ⟨h1, hno⟩ := askC_one h0
    have HO := Lib.hid (widOut_no hno)
    have H1 := Lib.hid h1
    clear h0 h1 hno
    go_enter Tryd.func21, Tryd.ntmps21
    go_wp2_with (go_at_call 51; refine (asked_spec f n w.heap.size s true _ HF.out HN.out hm hs HA.out).mono ?_; rintro e w1 ⟨he, hb⟩; rw [H1.out] at he; subst he; have hB := below_step hB hb; clear hb)
    go_ret3
    exact ⟨retT (p := (0, 0, 1)) HO.out.symm, hB⟩
end Go.Proofs.YtjgflkoefimmoaaDoor
