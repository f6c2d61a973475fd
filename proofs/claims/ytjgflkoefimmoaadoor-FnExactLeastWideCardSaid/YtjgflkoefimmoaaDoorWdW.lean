/- Contracts: the width of a word, of a few words, what is asked, by the reference. -/
import Derived.Test.YtjgflkoefimmoaaDoorWdS
import Derived.Test.YtjgflkoefimmoaaDoorFcJ
import Derived.Test.YtjgflkoefimmoaaDoorMark
namespace Go.Proofs.YtjgflkoefimmoaaDoor
open Go Go.RowKit
set_option linter.unusedVariables false
set_option linter.unusedSimpArgs false

theorem exec_indexA {P : Program} {o : Oper} {a : Act} {w : World} (t : TypeId) (s x : Operand) (ho : o.op = .indexAddr t s x) (p : Addr) (hs : a.eval s = .pointer (some p)) (k : IntKind) (i : Nat) (hx : a.eval x = .int k (i : Int)) (n : Nat) (hi : i < n)
    (e : TypeId) (hu : P.underlying t = some (.array n e)) (z : Nat) (hz : (P.info? e).map (·.size) = some z) : (execOp a.eval o).run P w = .ok (.value (.pointer (some (p.add (i * z))))) w := by
  cases hq : P.info? e with
  | none => simp [hq] at hz
  | some ie =>
    have hsz : ie.size = z := by simpa [hq] using hz
    unfold execOp
    simp [ho, hs, hx, Instr.indexAt, Instr.sureAddr, asIntOf, Sem.run_bind, run_underlying hu, hi, sizeOf, typeInfo, hq, hsz]

/-- The number of a letter in a face. -/
def letN (l : List UInt8) (k : Nat) : Nat := (byt l k - 65).toNat
theorem atW_let {f : Fc} {l : List UInt8} {k : Nat} (h : byt l k ≠ 32) : atW f l (k + 1) = atW f l k + (gapAt f l k + rdI f.wide (letN l k)) := by
  rw [atW]; unfold stepW; rw [if_neg h]; rfl
theorem gapAt_first (f : Fc) (l : List UInt8) : gapAt f l 0 = 0 := by unfold gapAt; simp
theorem gapAt_more {f : Fc} {l : List UInt8} {k : Nat} (h0 : 0 < k) (h : byt l (k - 1) ≠ 32) : gapAt f l k = f.gap + byP f.pairs (byt l (k - 1)) (byt l k) := by
  unfold gapAt; rw [if_neg]; rintro (e | e); omega; exact h e

attribute [local irreducible] wpQuiet in
set_option maxHeartbeats 2000000 in
set_option maxRecDepth 100000 in
theorem wide_spec (f : Fc) (n b0 : Nat) (s : ByteArray) (w : World) (hf : FcT f) (hV : FcV f) (hn : f.pairs.length = n) (hm : n ≤ 1048576) (hw : LL (bs s)) (hs : s.size ≤ 60) (h : FcAt w b0 f n) :
    Calls Tryd.prog 53 #[.pointer (some ⟨b0, 0, none⟩), .string s] w fun e w' => e = .returned (.int .i64 (lineW f (bs s))) ∧ Below w.heap.size w w' := by
  have HF := Lib.hid hf
  have HVV := Lib.hid hV
  have HN := Lib.hid hn
  have HA := Lib.hid h
  have HW := Lib.hid hw
  have hls : LS (bs s) := hw.ls
  have HLS := Lib.hid hls
  have HB := Lib.hid (bs_length s)
  clear hf hV hn h hw hls
  go_enter Tryd.func53, Tryd.ntmps53
  go_wp2
  go_loopw [5, 6] (fun v i wr => ∃ k : Nat, k ≤ s.size ∧ i = .int .i64 k ∧ v = .int .i64 (atW f (bs s) k) ∧ Below w.heap.size w wr) (fun _ i _ => s.size - (intOf i).toNat)
  case atStart => exact ⟨0, by omega, rfl, rfl, Below.refl _ _⟩
  case round =>
    obtain ⟨k, hk, rfl, rfl, hbel⟩ := hrel
    by_cases hlt : k < s.size
    · have hlb : k < (bs s).length := by rw [HB.out]; exact hlt
      have hlet := isLet_iff.1 (HW.out k hlb)
      have hr := atW_range HVV.out HLS.out (Nat.le_of_lt hlb)
      have hwd := HVV.out.wide (letN (bs s) k) (by unfold letN; omega)
      have hN26 : letN (bs s) k < 26 := by unfold letN; omega
      have hsub8 : IntKind.u8.wrap (byS s k - 65) = ((letN (bs s) k : Nat) : Int) := by rw [IntWalk.u8_in _ (by unfold byS; omega)]; unfold letN byS; omega
      have hcv : IntKind.i64.wrap (rdI f.wide (letN (bs s) k)) = rdI f.wide (letN (bs s) k) := IntWalk.i64_in _ (by omega)
      have hadd : IntKind.i64.wrap (atW f (bs s) k + rdI f.wide (letN (bs s) k)) = atW f (bs s) k + rdI f.wide (letN (bs s) k) := IntWalk.i64_in _ (by omega)
      have HAT := Lib.hid (atW_let (f := f) (show byt (bs s) k ≠ 32 by omega))
      have HA2 := Lib.hid (HA.out.next hbel)
      have hfe : ∃ A c, Blk wr b0 33 (fcV f (.slice A n c)) := by obtain ⟨A, c, hk, _⟩ := HA2.out; exact ⟨A, c, hk⟩
      obtain ⟨A, c, hkf⟩ := hfe
      have HK := Lib.hid hkf
      clear hkf
      go_wp2
      refine region_below (wr.heap.size) (by kernel_rfl) (by kernel_rfl) ?_
      refine below_run (by kernel_rfl) (.int .i64 (atW f (bs s) k)) (fun w' hw' => by kernel_rfl) ?_
      refine below_run (by kernel_rfl) (.pointer (some ⟨b0, 0, none⟩)) (fun w' hw' => by kernel_rfl) ?_
      refine below_run (by kernel_rfl) (.string s) (fun w' hw' => by kernel_rfl) ?_
      refine below_run (by kernel_rfl) (.int .i64 k) (fun w' hw' => by kernel_rfl) ?_
      refine below_run (by kernel_rfl) (.int .u8 (byS s k)) (fun w' hw' => exec_byte (.tmp 15) (.tmp 16) rfl s (by kernel_rfl) k (by kernel_rfl) hlt) ?_
      refine below_run (by kernel_rfl) (.int .u8 ((letN (bs s) k : Nat) : Int)) (fun w' hw' => Eq.trans (show (execOp _ _).run _ w' = .ok (.value (.int .u8 (IntKind.u8.wrap (byS s k - 65)))) w' by kernel_rfl) (by rw [hsub8])) ?_
      refine below_run (by kernel_rfl) (.pointer (some ⟨b0, 0, none⟩)) (fun w' hw' => by kernel_rfl) ?_
      refine below_run (by kernel_rfl) (.pointer (some ⟨b0, 0, none⟩)) (fun w' hw' => by kernel_rfl) ?_
      refine below_run (by kernel_rfl) (.pointer (some (Addr.add ⟨b0, 0, none⟩ (letN (bs s) k * 1)))) (fun w' hw' => exec_indexA 23 (.tmp 20) (.tmp 18) rfl ⟨b0, 0, none⟩ (by kernel_rfl) .u8 (letN (bs s) k) (by kernel_rfl) 26 hN26 22 Tryd.underlying23 1 (by kernel_rfl)) ?_
      refine below_run (by kernel_rfl) (.int .i8 (rdI f.wide (letN (bs s) k))) (fun w' hw' => exec_load1 22 (.tmp 21) rfl (Addr.add ⟨b0, 0, none⟩ (letN (bs s) k * 1)) (by kernel_rfl) _ (by rw [add_mid, Nat.mul_one, Nat.zero_add]; exact (HK.out.next hw').cell _ _ (fcV_wide HF.out _ _ hN26)) _ Tryd.underlying22 rfl) ?_
      refine below_run (by kernel_rfl) (.int .i64 (rdI f.wide (letN (bs s) k))) (fun w' hw' => Eq.trans (show (execOp _ _).run _ w' = .ok (.value (.int .i64 (IntKind.i64.wrap (rdI f.wide (letN (bs s) k))))) w' by kernel_rfl) (by rw [hcv])) ?_
      refine below_run (by kernel_rfl) (.int .i64 (atW f (bs s) k + rdI f.wide (letN (bs s) k))) (fun w' hw' => Eq.trans (show (execOp _ _).run _ w' = .ok (.value (.int .i64 (IntKind.i64.wrap (atW f (bs s) k + rdI f.wide (letN (bs s) k))))) w' by kernel_rfl) (by rw [hadd])) ?_
      refine below_run (by kernel_rfl) (.int .i64 (atW f (bs s) k + rdI f.wide (letN (bs s) k))) (fun w' hw' => by kernel_rfl) ?_
      refine wpQuiet_nil ?_
      intro W1 hW1
      simp only [Act.put, List.setIfInBounds_toArray, List.set_cons_succ, List.set_cons_zero]
      have hbel1 := below_step hbel hW1
      have HA3 := Lib.hid (HA2.out.next hW1)
      have HK3 := Lib.hid (HK.out.next hW1)
      clear hcv hadd hsub8 HA2 HK hW1
      by_cases hk0 : 0 < k
      · have hg2 := HVV.out.by (byS s (k - 1)) (byS s k)
        have hgg := HVV.out.gap
        have hl2 := isLet_iff.1 (HW.out (k - 1) (by omega))
        have HG := Lib.hid (gapAt_more (f := f) (l := bs s) hk0 (by omega))
        have hsub : IntKind.i64.wrap ((k : Int) - 1) = ((k - 1 : Nat) : Int) := by rw [IntWalk.i64_in _ (by omega)]; omega
        have hcv : IntKind.i64.wrap f.gap = f.gap := IntWalk.i64_in _ (by omega)
        have hadd : IntKind.i64.wrap (f.gap + byP f.pairs (byS s (k - 1)) (byS s k)) = f.gap + byP f.pairs (byS s (k - 1)) (byS s k) := IntWalk.i64_in _ (by omega)
        have hadd2 : IntKind.i64.wrap (atW f (bs s) k + rdI f.wide (letN (bs s) k) + (f.gap + byP f.pairs (byS s (k - 1)) (byS s k))) = atW f (bs s) k + rdI f.wide (letN (bs s) k) + (f.gap + byP f.pairs (byS s (k - 1)) (byS s k)) := IntWalk.i64_in _ (by omega)
        go_wp2
        refine region_below (W1.heap.size) (by kernel_rfl) (by kernel_rfl) ?_
        refine below_run (by kernel_rfl) (.int .i64 (atW f (bs s) k + rdI f.wide (letN (bs s) k))) (fun w' hw' => by kernel_rfl) ?_
        refine below_run (by kernel_rfl) (.pointer (some ⟨b0, 0, none⟩)) (fun w' hw' => by kernel_rfl) ?_
        refine below_run (by kernel_rfl) (.pointer (some ⟨b0, 0, none⟩)) (fun w' hw' => by kernel_rfl) ?_
        refine below_run (by kernel_rfl) (.pointer (some ⟨b0, 27, none⟩)) (fun w' hw' => by kernel_rfl) ?_
        refine below_run (by kernel_rfl) (.int .i8 f.gap) (fun w' hw' => exec_load1 22 (.tmp 30) rfl ⟨b0, 27, none⟩ (by kernel_rfl) (.int .i8 f.gap) ((HK3.out.next hw').cell 27 _ (fcV_gap HF.out _)) _ Tryd.underlying22 rfl) ?_
        refine below_run (by kernel_rfl) (.int .i64 f.gap) (fun w' hw' => Eq.trans (show (execOp _ _).run _ w' = .ok (.value (.int .i64 (IntKind.i64.wrap f.gap))) w' by kernel_rfl) (by rw [hcv])) ?_
        refine below_run (by kernel_rfl) (.pointer (some ⟨b0, 0, none⟩)) (fun w' hw' => by kernel_rfl) ?_
        refine below_run (by kernel_rfl) (.string s) (fun w' hw' => by kernel_rfl) ?_
        refine below_run (by kernel_rfl) (.int .i64 k) (fun w' hw' => by kernel_rfl) ?_
        refine below_run (by kernel_rfl) (.int .i64 ((k - 1 : Nat) : Int)) (fun w' hw' => Eq.trans (show (execOp _ _).run _ w' = .ok (.value (.int .i64 (IntKind.i64.wrap ((k : Int) - 1)))) w' by kernel_rfl) (by rw [hsub])) ?_
        refine below_run (by kernel_rfl) (.int .u8 (byS s (k - 1))) (fun w' hw' => exec_byte (.tmp 34) (.tmp 36) rfl s (by kernel_rfl) (k - 1) (by kernel_rfl) (by omega)) ?_
        refine below_run (by kernel_rfl) (.string s) (fun w' hw' => by kernel_rfl) ?_
        refine below_run (by kernel_rfl) (.int .i64 k) (fun w' hw' => by kernel_rfl) ?_
        refine below_run (by kernel_rfl) (.int .u8 (byS s k)) (fun w' hw' => exec_byte (.tmp 38) (.tmp 39) rfl s (by kernel_rfl) k (by kernel_rfl) hlt) ?_
        refine below_call (by kernel_rfl) 42 #[.pointer (some ⟨b0, 0, none⟩), .int .u8 (byS s (k - 1)), .int .u8 (byS s k)] (.int .i64 (byP f.pairs (byS s (k - 1)) (byS s k))) (fun w' => by kernel_rfl) (fun w' hw' => (by_spec f n b0 _ _ _ HF.out HN.out hm (HA3.out.next hw')).mono fun e w1 ⟨he, hb1⟩ => ⟨he, by rw [← hb1]; exact hw'⟩) ?_
        refine below_run (by kernel_rfl) (.int .i64 (f.gap + byP f.pairs (byS s (k - 1)) (byS s k))) (fun w' hw' => Eq.trans (show (execOp _ _).run _ w' = .ok (.value (.int .i64 (IntKind.i64.wrap (f.gap + byP f.pairs (byS s (k - 1)) (byS s k))))) w' by kernel_rfl) (by rw [hadd])) ?_
        refine below_run (by kernel_rfl) (.int .i64 (atW f (bs s) k + rdI f.wide (letN (bs s) k) + (f.gap + byP f.pairs (byS s (k - 1)) (byS s k)))) (fun w' hw' => Eq.trans (show (execOp _ _).run _ w' = .ok (.value (.int .i64 (IntKind.i64.wrap (atW f (bs s) k + rdI f.wide (letN (bs s) k) + (f.gap + byP f.pairs (byS s (k - 1)) (byS s k)))))) w' by kernel_rfl) (by rw [hadd2])) ?_
        refine below_run (by kernel_rfl) (.int .i64 (atW f (bs s) k + rdI f.wide (letN (bs s) k) + (f.gap + byP f.pairs (byS s (k - 1)) (byS s k)))) (fun w' hw' => by kernel_rfl) ?_
        refine wpQuiet_nil ?_
        intro W2 hW2
        simp only [Act.put, List.setIfInBounds_toArray, List.set_cons_succ, List.set_cons_zero]
        have hbel2 := below_step hbel1 hW2
        clear hcv hadd hadd2 hsub hW2
        go_wp2
        go_roundw
        case rel =>
          refine ⟨k + 1, by omega, by go_num, ?_, hbel2⟩
          rw [HAT.out, HG.out]
          show Value.int _ _ = Value.int _ _
          congr 1
          unfold byS; omega
        case measure => simp [intOf]; omega
      · obtain rfl : k = 0 := by omega
        have HG := Lib.hid (gapAt_first f (bs s))
        go_wp2
        go_roundw
        case rel =>
          refine ⟨0 + 1, by omega, by go_num, ?_, hbel1⟩
          rw [HAT.out, HG.out, Int.zero_add]
        case measure => simp [intOf]; omega
    · obtain rfl : k = s.size := by omega
      have HL := Lib.hid (show lineW f (bs s) = atW f (bs s) s.size by unfold lineW; rw [HB.out])
      go_wp2
      go_ret
      exact ⟨retI HL.out.symm, hbel⟩
end Go.Proofs.YtjgflkoefimmoaaDoor
