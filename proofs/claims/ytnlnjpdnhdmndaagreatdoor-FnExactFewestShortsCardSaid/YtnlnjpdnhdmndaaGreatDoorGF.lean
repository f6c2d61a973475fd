/- The gaps of a word. No walk here. Contracts: the gaps of a word, by the reference. Contracts: the gaps of a word, by the program. Contracts: the words of a text, by the reference. Contracts: the width of a word, of a few words, what is asked, by the reference. Contracts: codes of lines, places of letters and widths of lines, by the program; what is asked, by the reference. What a row says of the library's table of blanks, and strings.Fields and strings.Join at words. -/
import Derived.Test.YtnlnjpdnhdmndaaGreatDoorGC
import Derived.Test.YtnlnjpdnhdmndaaGreatDoorGD
import Derived.Test.YtnlnjpdnhdmndaaGreatDoorGB
import Derived.Test.YtnlnjpdnhdmndaaGreatDoorGA
import Derived.LaidSub
import Derived.Lib.SmallJoins
namespace Go.Proofs.YtnlnjpdnhdmndaaGreatDoor
open Go Go.RowKit
set_option linter.unusedVariables false
set_option linter.unusedSimpArgs false
/-- The gaps ahead of the letters below k. -/
def gapsW (f : Fc) (l : List UInt8) : Nat → List Int
  | 0 => []
  | k + 1 => if k = 0 then [] else gapsW f l k ++ [f.gap + byP f.pairs (byt l (k - 1)) (byt l k)]
theorem gapsW_one (f : Fc) (l : List UInt8) : gapsW f l 1 = [] := by simp [gapsW]
theorem gapsW_succ {f : Fc} {l : List UInt8} {k : Nat} (h : k ≠ 0) : gapsW f l (k + 1) = gapsW f l k ++ [f.gap + byP f.pairs (byt l (k - 1)) (byt l k)] := by rw [gapsW, if_neg h]
theorem gapsW_length (f : Fc) (l : List UInt8) (k : Nat) : (gapsW f l k).length ≤ k := by
  induction k with
  | zero => exact Nat.le_refl _
  | succ k ih => rw [gapsW]; split <;> simp <;> omega
def gapsOut (f : Fc) (l : List UInt8) : List Int × Int := if validF f && (vText l && isW l) then (gapsW f l l.length, 0) else ([], 1)
theorem gapsOut_f {f : Fc} {l : List UInt8} (h : validF f = false) : gapsOut f l = ([], 1) := by unfold gapsOut; rw [h]; rfl
theorem gapsOut_t {f : Fc} {l : List UInt8} (h : vText l = false) : gapsOut f l = ([], 1) := by unfold gapsOut; rw [h]; simp
theorem gapsOut_w {f : Fc} {l : List UInt8} (h : isW l = false) : gapsOut f l = ([], 1) := by unfold gapsOut; rw [h]; simp
theorem gapsOut_ok {f : Fc} {l : List UInt8} (h1 : validF f = true) (h2 : vText l = true) (h3 : isW l = true) : gapsOut f l = (gapsW f l l.length, 0) := by unfold gapsOut; rw [h1, h2, h3]; rfl
theorem gapsOut_len (f : Fc) (l : List UInt8) : (gapsOut f l).1.length ≤ 60 := by
  unfold gapsOut
  split
  · rename_i h
    simp only [Bool.and_eq_true] at h
    have := (vText_iff.1 h.2.1).2
    have := gapsW_length f l l.length
    simp; omega
  · simp
end Go.Proofs.YtnlnjpdnhdmndaaGreatDoor
namespace Go.Proofs.YtnlnjpdnhdmndaaGreatDoor
open Go Go.RowKit
set_option linter.unusedVariables false
set_option linter.unusedSimpArgs false

theorem elI : El Tryz.prog 30 2 (.int .i64 0) 1 8 := ⟨Tryz.underlying30, by kernel_rfl, rfl, by decide⟩
/-- A list of numbers in memory of the call's own, and a code. -/
def ListOut (w : World) (xs : List Int) (code : Int) (e : Ending) (w' : World) : Prop :=
  ∃ A c, e = .returned (.tuple #[.slice A xs.length c, .int .i64 code]) ∧ Below w.heap.size w w' ∧ OwnS w' w.heap.size w'.heap.size A xs
structure GapRel (f : Fc) (l : List UInt8) (W0 wr : World) (v : Value) (k : Nat) : Prop where
  own : wr.ownsRow W0.heap.size 2 1 v (gapsW f l k).length ((gapsW f l k).map i64)
  below : Below W0.heap.size W0 wr
theorem listOut_own {w w' : World} {base : Nat} {v : Value} {n : Nat} {xs : List Int} {code : Int} (hw : w'.ownsRow base 2 1 v n (xs.map i64)) (hb : Below w.heap.size w w') (hB : w.heap.size ≤ base) :
    ListOut w xs code (.returned (.tuple #[v, .int .i64 code])) w' := by
  obtain ⟨A, c, rfl, hl, ho⟩ := OwnS.of_own hw
  refine ⟨A, c, rfl, hb, fun hn => ?_⟩
  obtain ⟨g, cs, e, h1, h2, h3⟩ := ho hn
  exact ⟨g, cs, e, by omega, h2, h3⟩

end Go.Proofs.YtnlnjpdnhdmndaaGreatDoor
namespace Go.Proofs.YtnlnjpdnhdmndaaGreatDoor
open Go Go.RowKit
set_option linter.unusedVariables false
set_option linter.unusedSimpArgs false

theorem vWord_split {l : List UInt8} (h : vWord l = true) : vText l = true ∧ isW l = true := by unfold vWord at h; simpa using h
theorem gapsOut_vw {f : Fc} {l : List UInt8} (h : vWord l = false) : gapsOut f l = ([], 1) := by
  unfold vWord at h
  unfold gapsOut
  rw [h]; simp

theorem own_next {w w' : World} {base : Nat} {e : TypeId} {z : Nat} {v : Value} {n : Nat} {xs : List Value} (h : w.ownsRow base e z v n xs) (hb : Below w.heap.size w w') : w'.ownsRow base e z v n xs :=
  h.kept (row := none) ⟨hb.os, hb.tape, hb.output, hb.size, fun k hk _ => hb.block k hk⟩ (by cases v.ownBlock <;> simp)

end Go.Proofs.YtnlnjpdnhdmndaaGreatDoor
namespace Go.Proofs.YtnlnjpdnhdmndaaGreatDoor
open Go Go.RowKit
set_option linter.unusedVariables false
set_option linter.unusedSimpArgs false

theorem elStr : El Tryz.prog 54 9 (.string ⟨#[]⟩) 1 16 := ⟨Tryz.underlying54, by kernel_rfl, rfl, by decide⟩
/-- Bytes as a string. -/
def sv (l : List UInt8) : Value := .string ⟨l.toArray⟩
theorem sv_bs (s : ByteArray) : Value.string s = sv (bs s) := rfl
theorem bs_mk (l : List UInt8) : bs ⟨l.toArray⟩ = l := rfl
theorem sv_cut (s : ByteArray) (a b : Nat) : Value.string (s.extract a b) = sv (cutT (bs s) a b) := by rw [Lib.extract_eq]; rfl
/-- The words of a list, one by one. -/
def rdW (ws : List (List UInt8)) (i : Nat) : List UInt8 := ws.getD i []
theorem rdW_mem {ws : List (List UInt8)} {i : Nat} (h : i < ws.length) : rdW ws i ∈ ws := by
  unfold rdW
  rw [List.getD, List.getElem?_eq_getElem h]
  exact List.getElem_mem h
theorem RowE.atW {w : World} {a : Addr} {r : List (List UInt8)} (h : RowE sv w a r) (i : Nat) (hi : i < r.length) : w.cell? (a.add i) = some (.string ⟨(rdW r i).toArray⟩) := h.at [] i hi

structure SplRel (l : List UInt8) (w wr : World) (v : Value) (k : Nat) : Prop where
  own : wr.ownsRow w.heap.size 9 1 v (piecesF 32 l k).length ((piecesF 32 l k).map sv)
  below : Below w.heap.size w wr

set_option maxHeartbeats 1000000 in
set_option maxRecDepth 100000 in
theorem split32 (s : ByteArray) (w : World) (hs : s.size ≤ 1048576) :
    Calls Tryz.prog 45 #[.string s, .int .u8 32] w fun e w' => ∃ v, e = .returned v ∧ w'.ownsRow w.heap.size 9 1 v (splitF 32 (bs s)).length ((splitF 32 (bs s)).map sv) ∧ Below w.heap.size w w' := by
  go_enter Tryz.func45, Tryz.ntmps45
  go_wp2
  go_loopw [5, 6, 7] (fun v b i wr => ∃ k : Nat, k ≤ s.size ∧ i = .int .i64 k ∧ b = .int .i64 (begF 32 (bs s) k) ∧ SplRel (bs s) w wr v k) (fun _ _ i _ => s.size - (intOf i).toNat)
  case atStart => exact ⟨0, by omega, rfl, rfl, own_empty _ _ rfl _ _ (Nat.le_refl _) 1, below_one _ _⟩
  case round =>
    obtain ⟨k, hk, rfl, rfl, h⟩ := hrel
    have hown := h.own
    have hbel := h.below
    have hsz := hbel.size
    have hbe := begF_le 32 (bs s) k
    have hpl := piecesF_length 32 (bs s) k
    by_cases hlt : k < s.size
    · have hix := run_byte s k hlt
      cases hb : (byS s k == 32)
      · have HP := Lib.hid (piecesF_no hb)
        have HB := Lib.hid (begF_no hb)
        clear h
        go_wp2
        go_roundw
        case rel => exact ⟨k + 1, by omega, by go_num, by rw [HB.out], by rw [HP.out]; exact hown, hbel⟩
        case measure => simp [intOf]; omega
      · have HP := Lib.hid (piecesF_yes hb)
        have HB := Lib.hid (begF_yes hb)
        clear h
        go_wp2_with (at_builtin; refine wpList_app1 rfl (.tmp 20) (.tmp 25) _ rfl elStr wr w.heap.size u5 (piecesF 32 (bs s) k).length _ rfl hown (.string (s.extract (begF 32 (bs s) k) k)) _ rfl rfl rfl (by unfold maxLen; omega) (by omega) hsz ?_; intro v' w' ho' hg')
        go_roundw
        case rel =>
          refine ⟨k + 1, by omega, by go_num, by rw [HB.out]; go_num, ?_, below_own hbel hown hg' (Nat.le_refl _) hsz⟩
          rw [HP.out, List.length_append, List.map_append]
          rw [sv_cut] at ho'
          exact ho'
        case measure => simp [intOf]; omega
    · obtain rfl : k = s.size := by omega
      have HL := Lib.hid (show splitF 32 (bs s) = piecesF 32 (bs s) s.size ++ [cutT (bs s) (begF 32 (bs s) s.size) s.size] by unfold splitF; rw [bs_length])
      clear h
      go_wp2_with (at_builtin; refine wpList_app1 rfl (.tmp 29) (.tmp 33) _ rfl elStr wr w.heap.size u5 (piecesF 32 (bs s) s.size).length _ rfl hown (.string (s.extract (begF 32 (bs s) s.size) s.size)) _ rfl rfl rfl (by unfold maxLen; omega) (by omega) hsz ?_; intro v' w' ho' hg')
      go_ret
      refine ⟨v', rfl, ?_, below_own hbel hown hg' (Nat.le_refl _) hsz⟩
      rw [HL.out, List.length_append, List.map_append]
      rw [sv_cut] at ho'
      exact ho'

/-- A list of words in memory that was made. -/
def WsOut (w : World) (ws : List (List UInt8)) (e : Ending) (w' : World) : Prop :=
  ∃ A c, e = .returned (.slice A ws.length c) ∧ ws.length ≤ c ∧ Below w.heap.size w w' ∧ SlE sv w' A ws ∧ (0 < ws.length → ∃ g, A = some ⟨g, 0, none⟩)
theorem words_nil {s : ByteArray} (h : s.toList = []) : words (bs s) = [] := by
  rw [show bs s = s.toList from (ByteArray.toList_eq s).symm, h]; rfl
theorem words_some {s : ByteArray} (h : ¬ s.toList = []) : words (bs s) = splitF 32 (bs s) := by
  rw [show s.toList = bs s from ByteArray.toList_eq s] at h
  unfold words; rw [if_neg h]

set_option maxRecDepth 100000 in
theorem words_spec (s : ByteArray) (w : World) (hs : s.size ≤ 1048576) :
    Calls Tryz.prog 22 #[.string s] w (WsOut w (words (bs s))) := by
  by_cases he : s.toList = []
  · have HE := Lib.hid (words_nil he)
    have he2 : s.toList.isEmpty = true := by rw [he]; rfl
    rw [HE.out]
    go_enter Tryz.func22, Tryz.ntmps22
    go_wp2
    go_ret
    exact ⟨_, _, rfl, Nat.le_refl _, below_one _ _, SlE.nil, fun h => by simp at h⟩
  · have HE := Lib.hid (words_some he)
    have he2 : s.toList.isEmpty = false := by simp [he]
    rw [HE.out]
    go_enter Tryz.func22, Tryz.ntmps22
    go_wp2_with (go_at_call 45; refine (split32 s _ hs).mono ?_; rintro e w' ⟨v, rfl, ho, hb⟩)
    go_ret
    obtain ⟨A, c, rfl, _, hc, hsl⟩ := SlE_own ho
    refine ⟨A, c, rfl, hc, hb, hsl, fun hn => ?_⟩
    obtain ⟨g, c2, cs, he, _⟩ := own_blk ho hn
    cases he
    exact ⟨g, rfl⟩
end Go.Proofs.YtnlnjpdnhdmndaaGreatDoor
namespace Go.Proofs.YtnlnjpdnhdmndaaGreatDoor
open Go Go.RowKit
set_option linter.unusedVariables false
set_option linter.unusedSimpArgs false

theorem exec_indexA {P : Program} {o : Oper} {a : Act} {w : World} (t : TypeId) (s x : Operand) (ho : o.op = .indexAddr t s x) (p : Addr) (hs : a.eval s = .pointer (some p)) (k : IntKind) (i : Nat) (hx : a.eval x = .int k (i : Int)) (n : Nat) (hi : i < n)
    (e : TypeId) (hu : P.underlying t = some (.array n e)) (z : Nat) (hz : (P.info? e).map (·.size) = some z) : (execOp a.eval o).run P w = .ok (.value (.pointer (some (p.add (i * z))))) w := by
  cases hq : P.info? e with
  | none => simp [hq] at hz
  | some ie =>
    have hsz : ie.size = z := by simpa [hq] using hz
    unfold execOp
    simp [ho, hs, hx, Instr.indexAt, Instr.sureAddr, asIntOf, Sem.run_bind, run_underlying hu, hi, sizeOf, typeInfo, hq, hsz]

/-- The number of a letter in a face. -/
def letN (l : List UInt8) (k : Nat) : Nat := (byt l k - 65).toNat
theorem atW_let {f : Fc} {l : List UInt8} {k : Nat} (h : byt l k ≠ 32) : atW f l (k + 1) = atW f l k + (gapAt f l k + rdI f.wide (letN l k)) := by
  rw [atW]; unfold stepW; rw [if_neg h]; rfl
theorem gapAt_first (f : Fc) (l : List UInt8) : gapAt f l 0 = 0 := by unfold gapAt; simp
theorem gapAt_more {f : Fc} {l : List UInt8} {k : Nat} (h0 : 0 < k) (h : byt l (k - 1) ≠ 32) : gapAt f l k = f.gap + byP f.pairs (byt l (k - 1)) (byt l k) := by
  unfold gapAt; rw [if_neg]; rintro (e | e); omega; exact h e

attribute [local irreducible] wpQuiet in
set_option maxHeartbeats 2000000 in
set_option maxRecDepth 100000 in
theorem wide_spec (f : Fc) (n b0 : Nat) (s : ByteArray) (w : World) (hf : FcT f) (hV : FcV f) (hn : f.pairs.length = n) (hm : n ≤ 1048576) (hw : LL (bs s)) (hs : s.size ≤ 60) (h : FcAt w b0 f n) :
    Calls Tryz.prog 47 #[.pointer (some ⟨b0, 0, none⟩), .string s] w fun e w' => e = .returned (.int .i64 (lineW f (bs s))) ∧ Below w.heap.size w w' := by
  have HF := Lib.hid hf
  have HVV := Lib.hid hV
  have HN := Lib.hid hn
  have HA := Lib.hid h
  have HW := Lib.hid hw
  have hls : LS (bs s) := hw.ls
  have HLS := Lib.hid hls
  have HB := Lib.hid (bs_length s)
  clear hf hV hn h hw hls
  go_enter Tryz.func47, Tryz.ntmps47
  go_wp2
  go_loopw [5, 6] (fun v i wr => ∃ k : Nat, k ≤ s.size ∧ i = .int .i64 k ∧ v = .int .i64 (atW f (bs s) k) ∧ Below w.heap.size w wr) (fun _ i _ => s.size - (intOf i).toNat)
  case atStart => exact ⟨0, by omega, rfl, rfl, Below.refl _ _⟩
  case round =>
    obtain ⟨k, hk, rfl, rfl, hbel⟩ := hrel
    by_cases hlt : k < s.size
    · have hlb : k < (bs s).length := by rw [HB.out]; exact hlt
      have hlet := isLet_iff.1 (HW.out k hlb)
      have hr := atW_range HVV.out HLS.out (Nat.le_of_lt hlb)
      have hwd := HVV.out.wide (letN (bs s) k) (by unfold letN; omega)
      have hN26 : letN (bs s) k < 26 := by unfold letN; omega
      have hsub8 : IntKind.u8.wrap (byS s k - 65) = ((letN (bs s) k : Nat) : Int) := by rw [IntWalk.u8_in _ (by unfold byS; omega)]; unfold letN byS; omega
      have hcv : IntKind.i64.wrap (rdI f.wide (letN (bs s) k)) = rdI f.wide (letN (bs s) k) := IntWalk.i64_in _ (by omega)
      have hadd : IntKind.i64.wrap (atW f (bs s) k + rdI f.wide (letN (bs s) k)) = atW f (bs s) k + rdI f.wide (letN (bs s) k) := IntWalk.i64_in _ (by omega)
      have HAT := Lib.hid (atW_let (f := f) (show byt (bs s) k ≠ 32 by omega))
      have HA2 := Lib.hid (HA.out.next hbel)
      have hfe : ∃ A c, Blk wr b0 35 (fcV f (.slice A n c)) := by obtain ⟨A, c, hk, _⟩ := HA2.out; exact ⟨A, c, hk⟩
      obtain ⟨A, c, hkf⟩ := hfe
      have HK := Lib.hid hkf
      clear hkf
      go_wp2
      refine region_below (wr.heap.size) (by kernel_rfl) (by kernel_rfl) ?_
      refine below_run (by kernel_rfl) (.int .i64 (atW f (bs s) k)) (fun w' hw' => by kernel_rfl) ?_
      refine below_run (by kernel_rfl) (.pointer (some ⟨b0, 0, none⟩)) (fun w' hw' => by kernel_rfl) ?_
      refine below_run (by kernel_rfl) (.string s) (fun w' hw' => by kernel_rfl) ?_
      refine below_run (by kernel_rfl) (.int .i64 k) (fun w' hw' => by kernel_rfl) ?_
      refine below_run (by kernel_rfl) (.int .u8 (byS s k)) (fun w' hw' => exec_byte (.tmp 15) (.tmp 16) rfl s (by kernel_rfl) k (by kernel_rfl) hlt) ?_
      refine below_run (by kernel_rfl) (.int .u8 ((letN (bs s) k : Nat) : Int)) (fun w' hw' => Eq.trans (show (execOp _ _).run _ w' = .ok (.value (.int .u8 (IntKind.u8.wrap (byS s k - 65)))) w' by kernel_rfl) (by rw [hsub8])) ?_
      refine below_run (by kernel_rfl) (.pointer (some ⟨b0, 0, none⟩)) (fun w' hw' => by kernel_rfl) ?_
      refine below_run (by kernel_rfl) (.pointer (some ⟨b0, 0, none⟩)) (fun w' hw' => by kernel_rfl) ?_
      refine below_run (by kernel_rfl) (.pointer (some (Addr.add ⟨b0, 0, none⟩ (letN (bs s) k * 1)))) (fun w' hw' => exec_indexA 23 (.tmp 20) (.tmp 18) rfl ⟨b0, 0, none⟩ (by kernel_rfl) .u8 (letN (bs s) k) (by kernel_rfl) 26 hN26 22 Tryz.underlying23 1 (by kernel_rfl)) ?_
      refine below_run (by kernel_rfl) (.int .i8 (rdI f.wide (letN (bs s) k))) (fun w' hw' => exec_load1 22 (.tmp 21) rfl (Addr.add ⟨b0, 0, none⟩ (letN (bs s) k * 1)) (by kernel_rfl) _ (by rw [add_mid, Nat.mul_one, Nat.zero_add]; exact (HK.out.next hw').cell _ _ (fcV_wide HF.out _ _ hN26)) _ Tryz.underlying22 rfl) ?_
      refine below_run (by kernel_rfl) (.int .i64 (rdI f.wide (letN (bs s) k))) (fun w' hw' => Eq.trans (show (execOp _ _).run _ w' = .ok (.value (.int .i64 (IntKind.i64.wrap (rdI f.wide (letN (bs s) k))))) w' by kernel_rfl) (by rw [hcv])) ?_
      refine below_run (by kernel_rfl) (.int .i64 (atW f (bs s) k + rdI f.wide (letN (bs s) k))) (fun w' hw' => Eq.trans (show (execOp _ _).run _ w' = .ok (.value (.int .i64 (IntKind.i64.wrap (atW f (bs s) k + rdI f.wide (letN (bs s) k))))) w' by kernel_rfl) (by rw [hadd])) ?_
      refine below_run (by kernel_rfl) (.int .i64 (atW f (bs s) k + rdI f.wide (letN (bs s) k))) (fun w' hw' => by kernel_rfl) ?_
      refine wpQuiet_nil ?_
      intro W1 hW1
      simp only [Act.put, List.setIfInBounds_toArray, List.set_cons_succ, List.set_cons_zero]
      have hbel1 := below_step hbel hW1
      have HA3 := Lib.hid (HA2.out.next hW1)
      have HK3 := Lib.hid (HK.out.next hW1)
      clear hcv hadd hsub8 HA2 HK hW1
      by_cases hk0 : 0 < k
      · have hg2 := HVV.out.by (byS s (k - 1)) (byS s k)
        have hgg := HVV.out.gap
        have hl2 := isLet_iff.1 (HW.out (k - 1) (by omega))
        have HG := Lib.hid (gapAt_more (f := f) (l := bs s) hk0 (by omega))
        have hsub : IntKind.i64.wrap ((k : Int) - 1) = ((k - 1 : Nat) : Int) := by rw [IntWalk.i64_in _ (by omega)]; omega
        have hcv : IntKind.i64.wrap f.gap = f.gap := IntWalk.i64_in _ (by omega)
        have hadd : IntKind.i64.wrap (f.gap + byP f.pairs (byS s (k - 1)) (byS s k)) = f.gap + byP f.pairs (byS s (k - 1)) (byS s k) := IntWalk.i64_in _ (by omega)
        have hadd2 : IntKind.i64.wrap (atW f (bs s) k + rdI f.wide (letN (bs s) k) + (f.gap + byP f.pairs (byS s (k - 1)) (byS s k))) = atW f (bs s) k + rdI f.wide (letN (bs s) k) + (f.gap + byP f.pairs (byS s (k - 1)) (byS s k)) := IntWalk.i64_in _ (by omega)
        go_wp2
        refine region_below (W1.heap.size) (by kernel_rfl) (by kernel_rfl) ?_
        refine below_run (by kernel_rfl) (.int .i64 (atW f (bs s) k + rdI f.wide (letN (bs s) k))) (fun w' hw' => by kernel_rfl) ?_
        refine below_run (by kernel_rfl) (.pointer (some ⟨b0, 0, none⟩)) (fun w' hw' => by kernel_rfl) ?_
        refine below_run (by kernel_rfl) (.pointer (some ⟨b0, 0, none⟩)) (fun w' hw' => by kernel_rfl) ?_
        refine below_run (by kernel_rfl) (.pointer (some ⟨b0, 27, none⟩)) (fun w' hw' => by kernel_rfl) ?_
        refine below_run (by kernel_rfl) (.int .i8 f.gap) (fun w' hw' => exec_load1 22 (.tmp 30) rfl ⟨b0, 27, none⟩ (by kernel_rfl) (.int .i8 f.gap) ((HK3.out.next hw').cell 27 _ (fcV_gap HF.out _)) _ Tryz.underlying22 rfl) ?_
        refine below_run (by kernel_rfl) (.int .i64 f.gap) (fun w' hw' => Eq.trans (show (execOp _ _).run _ w' = .ok (.value (.int .i64 (IntKind.i64.wrap f.gap))) w' by kernel_rfl) (by rw [hcv])) ?_
        refine below_run (by kernel_rfl) (.pointer (some ⟨b0, 0, none⟩)) (fun w' hw' => by kernel_rfl) ?_
        refine below_run (by kernel_rfl) (.string s) (fun w' hw' => by kernel_rfl) ?_
        refine below_run (by kernel_rfl) (.int .i64 k) (fun w' hw' => by kernel_rfl) ?_
        refine below_run (by kernel_rfl) (.int .i64 ((k - 1 : Nat) : Int)) (fun w' hw' => Eq.trans (show (execOp _ _).run _ w' = .ok (.value (.int .i64 (IntKind.i64.wrap ((k : Int) - 1)))) w' by kernel_rfl) (by rw [hsub])) ?_
        refine below_run (by kernel_rfl) (.int .u8 (byS s (k - 1))) (fun w' hw' => exec_byte (.tmp 34) (.tmp 36) rfl s (by kernel_rfl) (k - 1) (by kernel_rfl) (by omega)) ?_
        refine below_run (by kernel_rfl) (.string s) (fun w' hw' => by kernel_rfl) ?_
        refine below_run (by kernel_rfl) (.int .i64 k) (fun w' hw' => by kernel_rfl) ?_
        refine below_run (by kernel_rfl) (.int .u8 (byS s k)) (fun w' hw' => exec_byte (.tmp 38) (.tmp 39) rfl s (by kernel_rfl) k (by kernel_rfl) hlt) ?_
        refine below_call (by kernel_rfl) 61 #[.pointer (some ⟨b0, 0, none⟩), .int .u8 (byS s (k - 1)), .int .u8 (byS s k)] (.int .i64 (byP f.pairs (byS s (k - 1)) (byS s k))) (fun w' => by kernel_rfl) (fun w' hw' => (by_spec f n b0 _ _ _ HF.out HN.out hm (HA3.out.next hw')).mono fun e w1 ⟨he, hb1⟩ => ⟨he, by rw [← hb1]; exact hw'⟩) ?_
        refine below_run (by kernel_rfl) (.int .i64 (f.gap + byP f.pairs (byS s (k - 1)) (byS s k))) (fun w' hw' => Eq.trans (show (execOp _ _).run _ w' = .ok (.value (.int .i64 (IntKind.i64.wrap (f.gap + byP f.pairs (byS s (k - 1)) (byS s k))))) w' by kernel_rfl) (by rw [hadd])) ?_
        refine below_run (by kernel_rfl) (.int .i64 (atW f (bs s) k + rdI f.wide (letN (bs s) k) + (f.gap + byP f.pairs (byS s (k - 1)) (byS s k)))) (fun w' hw' => Eq.trans (show (execOp _ _).run _ w' = .ok (.value (.int .i64 (IntKind.i64.wrap (atW f (bs s) k + rdI f.wide (letN (bs s) k) + (f.gap + byP f.pairs (byS s (k - 1)) (byS s k)))))) w' by kernel_rfl) (by rw [hadd2])) ?_
        refine below_run (by kernel_rfl) (.int .i64 (atW f (bs s) k + rdI f.wide (letN (bs s) k) + (f.gap + byP f.pairs (byS s (k - 1)) (byS s k)))) (fun w' hw' => by kernel_rfl) ?_
        refine wpQuiet_nil ?_
        intro W2 hW2
        simp only [Act.put, List.setIfInBounds_toArray, List.set_cons_succ, List.set_cons_zero]
        have hbel2 := below_step hbel1 hW2
        clear hcv hadd hadd2 hsub hW2
        go_wp2
        go_roundw
        case rel =>
          refine ⟨k + 1, by omega, by go_num, ?_, hbel2⟩
          rw [HAT.out, HG.out]
          show Value.int _ _ = Value.int _ _
          congr 1
          unfold byS; omega
        case measure => simp [intOf]; omega
      · obtain rfl : k = 0 := by omega
        have HG := Lib.hid (gapAt_first f (bs s))
        go_wp2
        go_roundw
        case rel =>
          refine ⟨0 + 1, by omega, by go_num, ?_, hbel1⟩
          rw [HAT.out, HG.out, Int.zero_add]
        case measure => simp [intOf]; omega
    · obtain rfl : k = s.size := by omega
      have HL := Lib.hid (show lineW f (bs s) = atW f (bs s) s.size by unfold lineW; rw [HB.out])
      go_wp2
      go_ret
      exact ⟨retI HL.out.symm, hbel⟩
end Go.Proofs.YtnlnjpdnhdmndaaGreatDoor
namespace Go.Proofs.YtnlnjpdnhdmndaaGreatDoor
open Go Go.RowKit
set_option linter.unusedVariables false
set_option linter.unusedSimpArgs false

theorem wpList_run {P : Program} {ops : Array Oper} {rest : List Oper} {o : Oper} {a : Act} {w : World} {Q : Exit → Act → World → Prop} (hgd : o.guard = none) (v : Value) (he : (execOp a.eval o).run P w = .ok (.value v) w)
    (h : wpList P ops Q rest (a.put o.dst v) w) : wpList P ops Q (o :: rest) a w :=
  wpList_plain hgd fun K hK => by
    unfold Oper.wp
    rw [he, Oper.upon_value]
    exact hK _ _ h

theorem wpList_is {P : Program} {ops : Array Oper} {rest : List Oper} {o : Oper} {a : Act} {w : World} {Q : Exit → Act → World → Prop} (op : Op) (ho : o.op = op) (hgd : o.guard = none) (v : Value) (he : (execOp a.eval o).run P w = .ok (.value v) w)
    (h : wpList P ops Q rest (a.put o.dst v) w) : wpList P ops Q (o :: rest) a w := wpList_run hgd v he h
theorem unless_any (b : Bool) (n : Int) (w : World) : Calls Tryz.prog 63 #[.bool b, .int .i64 n] w fun e w' => e = .returned (.int .i64 (if b then 0 else n)) ∧ w = w' := by
  cases b
  · go_enter Tryz.func63, Tryz.ntmps63
    go_wp2
    go_ret
    exact ⟨rfl, rfl⟩
  · go_enter Tryz.func63, Tryz.ntmps63
    go_wp2
    go_ret
    exact ⟨rfl, rfl⟩

/-- The code of a face, a text, and whether numbers are as told. -/
def askC (f : Fc) (l : List UInt8) (fine : Bool) : Int := if validF f && vText l then (if fine then 0 else 2) else 1
theorem askC_f {f : Fc} {l : List UInt8} {b : Bool} (h : validF f = false) : askC f l b = 1 := by unfold askC; rw [h]; rfl
theorem askC_t {f : Fc} {l : List UInt8} {b : Bool} (h : vText l = false) : askC f l b = 1 := by unfold askC; rw [h]; simp
theorem askC_ok {f : Fc} {l : List UInt8} {b : Bool} (h : validF f = true) (k : vText l = true) : askC f l b = (if b then 0 else 2) := by unfold askC; rw [h, k]; rfl
theorem askC_zero {f : Fc} {l : List UInt8} {b : Bool} (h : askC f l b = 0) : validF f = true ∧ vText l = true ∧ b = true := by
  unfold askC at h
  split at h
  · rename_i hh
    split at h
    · rename_i hb
      simp at hh
      exact ⟨hh.1, hh.2, hb⟩
    · omega
  · omega

set_option maxHeartbeats 1000000 in
set_option maxRecDepth 100000 in
theorem lineCode_any (f : Fc) (A : Option Addr) (n c : Nat) (s : ByteArray) (w : World) (hf : FcT f) (hn : f.pairs.length = n) (hm : n ≤ 1048576) (hs : s.size ≤ 1048576) (h : SlP w A f.pairs) (hmx : MaxW w) :
    Calls Tryz.prog 62 #[.agg (fcV f (.slice A n c)).toArray, .string s] w fun e w' => e = .returned (.int .i64 (askC f (bs s) true)) ∧ Below w.heap.size w w' := by
  have hB := below_one w (.cells (fcV f (.slice A n c)).toArray 35)
  have hk := Blk.new w 35 (fcV f (.slice A n c))
  have hsl := h.next hB
  have hmx := hmx.next hB
  have HF := Lib.hid hf
  have HN := Lib.hid hn
  have HS := Lib.hid hsl
  have HM := Lib.hid hmx
  have hsz : (fcV f (.slice A n c)).toArray.size = 29 := by simp [fcV_length hf]
  have HZ := Lib.hid (show (Tryz.prog.info? 35).map (·.size) = some (fcV f (.slice A n c)).toArray.size by rw [hsz]; exact szFcI)
  clear hf hn h hmx hsl hsz
  cases hv : validF f
  · have HO := Lib.hid (askC_f (l := bs s) (b := true) hv)
    go_enter Tryz.func62, Tryz.ntmps62
    go_wp2_with (first
      | (refine wpList_load_row rfl 35 (.tmp 2) rfl _ rfl 35 (fcV f (.slice A n c)).toArray _ _ hk Tryz.underlying35 rfl HZ.out ?_)
      | (go_at_call 75; refine (face_impl f A n c _ HF.out HN.out hm HS.out).mono ?_; rintro e w1 ⟨rfl, hb⟩; have hB := below_step hB hb; clear hb)
      | (go_at_call 63; refine (unless_any _ _ _).mono ?_; rintro e w2 ⟨rfl, rfl⟩))
    go_ret
    exact ⟨retI HO.out.symm, hB⟩
  · cases ht : vText (bs s)
    · have HO := Lib.hid (askC_t (f := f) (b := true) ht)
      have HT := Lib.hid ht
      go_enter Tryz.func62, Tryz.ntmps62
      go_wp2_with (first
        | (refine wpList_load_row rfl 35 (.tmp 2) rfl _ rfl 35 (fcV f (.slice A n c)).toArray _ _ hk Tryz.underlying35 rfl HZ.out ?_)
        | (go_at_call 75; refine (face_impl f A n c _ HF.out HN.out hm HS.out).mono ?_; rintro e w1 ⟨rfl, hb⟩; have hB := below_step hB hb; have hmx := HM.out.next hb; clear hb)
        | (go_at_call 67; refine (text_impl s _ hs hmx).mono ?_; rintro e w2 ⟨rfl, q, rfl⟩; have hB := below_drewN hB q)
        | (go_at_call 63; refine (unless_any _ _ _).mono ?_; rintro e w2 ⟨rfl, rfl⟩))
      go_ret
      exact ⟨retI HO.out.symm, hB⟩
    · have HO := Lib.hid (askC_ok (b := true) hv ht)
      have HT := Lib.hid ht
      go_enter Tryz.func62, Tryz.ntmps62
      go_wp2_with (first
        | (refine wpList_load_row rfl 35 (.tmp 2) rfl _ rfl 35 (fcV f (.slice A n c)).toArray _ _ hk Tryz.underlying35 rfl HZ.out ?_)
        | (go_at_call 75; refine (face_impl f A n c _ HF.out HN.out hm HS.out).mono ?_; rintro e w1 ⟨rfl, hb⟩; have hB := below_step hB hb; have hmx := HM.out.next hb; clear hb)
        | (go_at_call 67; refine (text_impl s _ hs hmx).mono ?_; rintro e w2 ⟨rfl, q, rfl⟩; have hB := below_drewN hB q)
        | (go_at_call 63; refine (unless_any _ _ _).mono ?_; rintro e w2 ⟨rfl, rfl⟩))
      go_ret
      exact ⟨retI HO.out.symm, hB⟩

theorem askC_one {f : Fc} {l : List UInt8} (h : ¬ askC f l true = 0) : askC f l true = 1 ∧ ¬ (validF f = true ∧ vText l = true) := by
  unfold askC at h ⊢
  split
  · rename_i hh; rw [if_pos hh] at h; simp at h
  · rename_i hh; exact ⟨rfl, by simpa using hh⟩
theorem wideCode_rest {f : Fc} {l : List UInt8} (h : askC f l true = 0) (b : Bool) : askC f l b = if b then 0 else 2 := by
  obtain ⟨h1, h2, _⟩ := askC_zero h
  exact askC_ok h1 h2
theorem wideCode_same {f : Fc} {l : List UInt8} (h : ¬ askC f l true = 0) (b : Bool) : askC f l b = askC f l true := by
  unfold askC at h ⊢
  split
  · rename_i hh; rw [hh] at h; simp at h
  · rfl

set_option maxHeartbeats 1000000 in
set_option maxRecDepth 100000 in
theorem wideCode_any (f : Fc) (A : Option Addr) (n c : Nat) (s : ByteArray) (m : Int) (w : World) (hf : FcT f) (hn : f.pairs.length = n) (hm : n ≤ 1048576) (hs : s.size ≤ 1048576) (h : SlP w A f.pairs) (hmx : MaxW w) :
    Calls Tryz.prog 49 #[.agg (fcV f (.slice A n c)).toArray, .string s, .int .i64 m] w fun e w' => e = .returned (.int .i64 (askC f (bs s) (inB 0 4000 m))) ∧ Below w.heap.size w w' := by
  have hB := below_one w (.cells (fcV f (.slice A n c)).toArray 35)
  have hk := Blk.new w 35 (fcV f (.slice A n c))
  have hsl := h.next hB
  have hmx := hmx.next hB
  have HF := Lib.hid hf
  have HN := Lib.hid hn
  have HS := Lib.hid hsl
  have HM := Lib.hid hmx
  have hsz : (fcV f (.slice A n c)).toArray.size = 29 := by simp [fcV_length hf]
  have HZ := Lib.hid (show (Tryz.prog.info? 35).map (·.size) = some (fcV f (.slice A n c)).toArray.size by rw [hsz]; exact szFcI)
  clear hf hn h hmx hsl hsz
  by_cases h0 : askC f (bs s) true = 0
  · cases hin : inB 0 4000 m
    · have HO := Lib.hid (show askC f (bs s) false = 2 by rw [wideCode_rest h0]; rfl)
      have H0 := Lib.hid h0
      have HI := Lib.hid hin
      clear h0
      go_enter Tryz.func49, Tryz.ntmps49
      go_wp2_with (first
        | (refine wpList_load_row rfl 35 (.tmp 3) rfl _ rfl 35 (fcV f (.slice A n c)).toArray _ _ hk Tryz.underlying35 rfl HZ.out ?_)
        | (go_at_call 62; refine (lineCode_any f A n c s _ HF.out HN.out hm hs HS.out HM.out).mono ?_; rintro e w1 ⟨he, hb⟩; rw [H0.out] at he; subst he; have hB := below_step hB hb; clear hb)
        | (go_at_call 64; refine (withinI_any _ _ _ _).mono ?_; rintro e w2 ⟨rfl, rfl⟩)
        | (go_at_call 63; refine (unless_any _ _ _).mono ?_; rintro e w2 ⟨rfl, rfl⟩))
      go_ret
      exact ⟨retI HO.out.symm, hB⟩
    · have HO := Lib.hid (show askC f (bs s) true = 0 by rw [wideCode_rest h0]; rfl)
      have H0 := Lib.hid h0
      have HI := Lib.hid hin
      clear h0
      go_enter Tryz.func49, Tryz.ntmps49
      go_wp2_with (first
        | (refine wpList_load_row rfl 35 (.tmp 3) rfl _ rfl 35 (fcV f (.slice A n c)).toArray _ _ hk Tryz.underlying35 rfl HZ.out ?_)
        | (go_at_call 62; refine (lineCode_any f A n c s _ HF.out HN.out hm hs HS.out HM.out).mono ?_; rintro e w1 ⟨he, hb⟩; rw [H0.out] at he; subst he; have hB := below_step hB hb; clear hb)
        | (go_at_call 64; refine (withinI_any _ _ _ _).mono ?_; rintro e w2 ⟨rfl, rfl⟩)
        | (go_at_call 63; refine (unless_any _ _ _).mono ?_; rintro e w2 ⟨rfl, rfl⟩))
      go_ret
      exact ⟨retI HO.out.symm, hB⟩
  · have HO := Lib.hid (wideCode_same h0 (inB 0 4000 m))
    have H1 := Lib.hid (askC_one h0).1
    clear h0
    go_enter Tryz.func49, Tryz.ntmps49
    go_wp2_with (first
      | (refine wpList_load_row rfl 35 (.tmp 3) rfl _ rfl 35 (fcV f (.slice A n c)).toArray _ _ hk Tryz.underlying35 rfl HZ.out ?_)
      | (go_at_call 62; refine (lineCode_any f A n c s _ HF.out HN.out hm hs HS.out HM.out).mono ?_; rintro e w1 ⟨he, hb⟩; rw [H1.out] at he; subst he; have hB := below_step hB hb; clear hb))
    go_ret
    exact ⟨retI (by rw [HO.out, H1.out]), hB⟩

set_option maxHeartbeats 1000000 in
set_option maxRecDepth 100000 in
theorem letter_w (f : Fc) (A : Option Addr) (n c : Nat) (l : List UInt8) (k : Nat) (w : World) (hf : FcT f) (hl : isLet (byt l k) = true) :
    Calls Tryz.prog 71 #[.agg (fcV f (.slice A n c)).toArray, .int .u8 (byt l k)] w fun e w' => e = .returned (.int .i64 (rdI f.wide (letN l k))) ∧ Below w.heap.size w w' := by
  have hlet := isLet_iff.1 hl
  have hN26 : letN l k < 26 := by unfold letN; omega
  have hsub8 : IntKind.u8.wrap (byt l k - 65) = ((letN l k : Nat) : Int) := by rw [IntWalk.u8_in _ (by omega)]; unfold letN; omega
  have hwd := hf.wide (letN l k) hN26
  have hcv : IntKind.i64.wrap (rdI f.wide (letN l k)) = rdI f.wide (letN l k) := IntWalk.i64_in _ (by omega)
  have hB := below_one w (.cells (fcV f (.slice A n c)).toArray 35)
  have hk := Blk.new w 35 (fcV f (.slice A n c))
  have hc := hk.cell _ _ (fcV_wide hf _ _ hN26)
  clear hk
  go_enter Tryz.func71, Tryz.ntmps71
  go_wp2_with (first
    | (refine wpList_is (.binOp .sub 5 (.tmp 5) (.const (.int .u8 65)) 5) rfl rfl (.int .u8 ((letN l k : Nat) : Int)) (Eq.trans (show (execOp _ _).run _ _ = .ok (.value (.int .u8 (IntKind.u8.wrap (byt l k - 65)))) _ by kernel_rfl) (by rw [hsub8])) ?_)
    | (refine wpList_run rfl (.pointer (some ⟨w.heap.size, letN l k, none⟩)) (Eq.trans (exec_indexA 23 (.tmp 7) (.tmp 6) rfl ⟨w.heap.size, 0, none⟩ (by kernel_rfl) .u8 (letN l k) (by kernel_rfl) 26 hN26 22 Tryz.underlying23 1 (by kernel_rfl)) (by rw [add_mid, Nat.mul_one, Nat.zero_add])) ?_))
  go_ret
  exact ⟨retI rfl, hB⟩

/-- Where the letters of a line are, and how wide it is. -/
def PlOut (f : Fc) (l : List UInt8) (w : World) (e : Ending) (w' : World) : Prop :=
  ∃ A c, e = .returned (.tuple #[.slice A (plW f l l.length).length c, .int .i64 (lineW f l)]) ∧ Below w.heap.size w w' ∧ OwnS w' w.heap.size w'.heap.size A (plW f l l.length)
structure PlRel (f : Fc) (l : List UInt8) (W0 wr : World) (v : Value) (k : Nat) : Prop where
  own : wr.ownsRow W0.heap.size 2 1 v (plW f l k).length ((plW f l k).map i64)
  below : Below W0.heap.size W0 wr
theorem plW_sp {f : Fc} {l : List UInt8} {k : Nat} (h : byt l k = 32) : plW f l (k + 1) = plW f l k := by rw [plW, if_pos h]
theorem plW_let {f : Fc} {l : List UInt8} {k : Nat} (h : byt l k ≠ 32) : plW f l (k + 1) = plW f l k ++ [atW f l k + gapAt f l k] := by rw [plW, if_neg h]
theorem atW_sp {f : Fc} {l : List UInt8} {k : Nat} (h : byt l k = 32) : atW f l (k + 1) = atW f l k + f.space := by rw [atW]; unfold stepW; rw [if_pos h]
theorem gapAt_sp {f : Fc} {l : List UInt8} {k : Nat} (h : byt l (k - 1) = 32) : gapAt f l k = 0 := by unfold gapAt; rw [if_pos (.inr h)]

attribute [local irreducible] wpQuiet in
set_option maxHeartbeats 4000000 in
set_option maxRecDepth 100000 in
theorem places_any (f : Fc) (A : Option Addr) (n c : Nat) (s : ByteArray) (w : World) (hf : FcT f) (hV : FcV f) (hn : f.pairs.length = n) (hm : n ≤ 1048576) (hl : LS (bs s)) (hs : s.size ≤ 60) (h : SlP w A f.pairs) :
    Calls Tryz.prog 54 #[.agg (fcV f (.slice A n c)).toArray, .string s] w (PlOut f (bs s) w) := by
  have hB := below_one w (.cells (fcV f (.slice A n c)).toArray 35)
  have HK0 := Lib.hid (Blk.new w 35 (fcV f (.slice A n c)))
  have HS := Lib.hid (h.next hB)
  have HF := Lib.hid hf
  have HVV := Lib.hid hV
  have HN := Lib.hid hn
  have HLS := Lib.hid hl
  have HB := Lib.hid (bs_length s)
  have hsz : (fcV f (.slice A n c)).toArray.size = 29 := by simp [fcV_length hf]
  have HZ := Lib.hid (show (Tryz.prog.info? 35).map (·.size) = some (fcV f (.slice A n c)).toArray.size by rw [hsz]; exact szFcI)
  clear hf hn h hsz hV hl
  go_enter Tryz.func54, Tryz.ntmps54
  go_wp2
  have hs0 : (w.alloc (.cells (fcV f (.slice A n c)).toArray 35)).heap.size = w.heap.size + 1 := by simp
  obtain ⟨b0, hb0⟩ : ∃ b0, b0 = w.heap.size := ⟨_, rfl⟩
  rw [← hb0] at HK0 hs0 ⊢
  clear hb0
  generalize w.alloc (.cells (fcV f (.slice A n c)).toArray 35) = W0 at *
  go_loopw [6, 7, 12] (fun v p i wr => ∃ k : Nat, k ≤ s.size ∧ i = .int .i64 k ∧ p = .int .i64 (atW f (bs s) k) ∧ PlRel f (bs s) W0 wr v k) (fun _ _ i _ => s.size - (intOf i).toNat)
  case atStart => exact ⟨0, by omega, rfl, rfl, own_empty W0 (b0 + 1) (by omega) W0.heap.size _ (by omega) 1, below_one _ _⟩
  clear hs0
  case round =>
    obtain ⟨k, hk, rfl, rfl, h⟩ := hrel
    have hown := h.own
    have hbel := h.below
    clear h
    have hsz := hbel.size
    by_cases hlt : k < s.size
    · have hix := run_byte s k hlt
      have hlb : k < (bs s).length := by rw [HB.out]; exact hlt
      have hr := atW_range HVV.out HLS.out (Nat.le_of_lt hlb)
      cases h32 : (byS s k == 32)
      · have hne : byt (bs s) k ≠ 32 := by simpa [byS] using h32
        have hll : isLet (byt (bs s) k) = true := by
          rcases HLS.out k hlb with e | e
          · exact absurd e hne
          · exact e
        have hlet := isLet_iff.1 hll
        have hwd := HVV.out.wide (letN (bs s) k) (by unfold letN; omega)
        have HAT := Lib.hid (atW_let (f := f) hne)
        have HPL := Lib.hid (plW_let (f := f) hne)
        have HLL := Lib.hid hll
        have hpl := plW_length f (bs s) k
        clear hll
        by_cases hk0 : k = 0
        · have HP := Lib.hid (show atW f (bs s) k = atW f (bs s) k + gapAt f (bs s) k by subst hk0; rw [gapAt_first, Int.add_zero])
          have hz : ¬ (0 : Int) < (k : Int) := by omega
          clear hk0
          have hsr := stepW_range HVV.out HLS.out hlb
          have hadd : IntKind.i64.wrap (atW f (bs s) k + rdI f.wide (letN (bs s) k)) = atW f (bs s) k + rdI f.wide (letN (bs s) k) := IntWalk.i64_in _ (by have := HP.out; omega)
          go_wp2_with (at_builtin; refine wpList_app1 rfl (.tmp 48) (.tmp 50) _ rfl elI wr W0.heap.size u6 (plW f (bs s) k).length _ rfl hown (.int .i64 (atW f (bs s) k)) _ rfl rfl rfl (by unfold maxLen; omega) (by omega) hsz ?_; intro v' w' ho' hg')
          have hbel2 := below_own hbel hown hg' (Nat.le_refl _) hsz
          have HK2 := Lib.hid (HK0.out.next hbel2)
          have HO2 := Lib.hid ho'
          have hz2 := hbel2.size
          clear hg' ho'
          refine region_below (w'.heap.size) (by kernel_rfl) (by kernel_rfl) ?_
          refine below_run (by kernel_rfl) (.int .i64 (atW f (bs s) k)) (fun w' hw' => by kernel_rfl) ?_
          refine below_run (by kernel_rfl) (.agg (fcV f (.slice A n c)).toArray) (fun w' hw' => exec_load_row 35 (.tmp 2) rfl (b0) (by kernel_rfl) 35 (fcV f (.slice A n c)).toArray _ _ (HK2.out.next hw') Tryz.underlying35 rfl (HZ.out)) ?_
          refine below_run (by kernel_rfl) (.string s) (fun w' hw' => by kernel_rfl) ?_
          refine below_run (by kernel_rfl) (.int .i64 k) (fun w' hw' => by kernel_rfl) ?_
          refine below_run (by kernel_rfl) (.int .u8 (byS s k)) (fun w' hw' => exec_byte (.tmp 54) (.tmp 55) rfl s (by kernel_rfl) k (by kernel_rfl) hlt) ?_
          refine below_call (by kernel_rfl) 71 #[.agg (fcV f (.slice A n c)).toArray, .int .u8 (byS s k)] (.int .i64 (rdI f.wide (letN (bs s) k))) (fun w' => by kernel_rfl) (fun w' hw' => (letter_w f A n c (bs s) k w' HF.out HLL.out).mono fun e w1 ⟨he, hb1⟩ => ⟨he, below_step hw' hb1⟩) ?_
          refine below_run (by kernel_rfl) (.int .i64 (atW f (bs s) k + rdI f.wide (letN (bs s) k))) (fun w' hw' => Eq.trans (show (execOp _ _).run _ w' = .ok (.value (.int .i64 (IntKind.i64.wrap (atW f (bs s) k + rdI f.wide (letN (bs s) k))))) w' by kernel_rfl) (by rw [hadd])) ?_
          refine below_run (by kernel_rfl) (.int .i64 (atW f (bs s) k + rdI f.wide (letN (bs s) k))) (fun w' hw' => by kernel_rfl) ?_
          refine wpQuiet_nil ?_
          intro W3 hW3
          simp only [Act.put, List.setIfInBounds_toArray, List.set_cons_succ, List.set_cons_zero]
          have hown3 := own_next HO2.out hW3
          have hbel3 := hbel2.trans (hW3.mono hz2)
          clear hadd HK2 HO2 hbel2 hW3 hz2
          go_wp2
          go_roundw
          case rel =>
            refine ⟨k + 1, by omega, by go_num, ?_, ?_, hbel3⟩
            · rw [HAT.out]
              exact congrArg (Value.int .i64) (by have := HP.out; omega)
            · rw [HPL.out, List.length_append, List.map_append, ← HP.out]
              exact hown3
          case measure => simp [intOf]; omega
        · have hij := run_byteP s k hk0 hlt
          have hz : (0 : Int) < (k : Int) := by omega
          clear hk0
          cases hp : (byS s (k - 1) != 32)
          · have HP := Lib.hid (show atW f (bs s) k = atW f (bs s) k + gapAt f (bs s) k by rw [gapAt_sp (by simpa [byS] using hp), Int.add_zero])
            have hsr := stepW_range HVV.out HLS.out hlb
            have hadd : IntKind.i64.wrap (atW f (bs s) k + rdI f.wide (letN (bs s) k)) = atW f (bs s) k + rdI f.wide (letN (bs s) k) := IntWalk.i64_in _ (by have := HP.out; omega)
            go_wp2_with (at_builtin; refine wpList_app1 rfl (.tmp 48) (.tmp 50) _ rfl elI wr W0.heap.size u6 (plW f (bs s) k).length _ rfl hown (.int .i64 (atW f (bs s) k)) _ rfl rfl rfl (by unfold maxLen; omega) (by omega) hsz ?_; intro v' w' ho' hg')
            have hbel2 := below_own hbel hown hg' (Nat.le_refl _) hsz
            have HK2 := Lib.hid (HK0.out.next hbel2)
            have HO2 := Lib.hid ho'
            have hz2 := hbel2.size
            clear hg' ho'
            refine region_below (w'.heap.size) (by kernel_rfl) (by kernel_rfl) ?_
            refine below_run (by kernel_rfl) (.int .i64 (atW f (bs s) k)) (fun w' hw' => by kernel_rfl) ?_
            refine below_run (by kernel_rfl) (.agg (fcV f (.slice A n c)).toArray) (fun w' hw' => exec_load_row 35 (.tmp 2) rfl (b0) (by kernel_rfl) 35 (fcV f (.slice A n c)).toArray _ _ (HK2.out.next hw') Tryz.underlying35 rfl (HZ.out)) ?_
            refine below_run (by kernel_rfl) (.string s) (fun w' hw' => by kernel_rfl) ?_
            refine below_run (by kernel_rfl) (.int .i64 k) (fun w' hw' => by kernel_rfl) ?_
            refine below_run (by kernel_rfl) (.int .u8 (byS s k)) (fun w' hw' => exec_byte (.tmp 54) (.tmp 55) rfl s (by kernel_rfl) k (by kernel_rfl) hlt) ?_
            refine below_call (by kernel_rfl) 71 #[.agg (fcV f (.slice A n c)).toArray, .int .u8 (byS s k)] (.int .i64 (rdI f.wide (letN (bs s) k))) (fun w' => by kernel_rfl) (fun w' hw' => (letter_w f A n c (bs s) k w' HF.out HLL.out).mono fun e w1 ⟨he, hb1⟩ => ⟨he, below_step hw' hb1⟩) ?_
            refine below_run (by kernel_rfl) (.int .i64 (atW f (bs s) k + rdI f.wide (letN (bs s) k))) (fun w' hw' => Eq.trans (show (execOp _ _).run _ w' = .ok (.value (.int .i64 (IntKind.i64.wrap (atW f (bs s) k + rdI f.wide (letN (bs s) k))))) w' by kernel_rfl) (by rw [hadd])) ?_
            refine below_run (by kernel_rfl) (.int .i64 (atW f (bs s) k + rdI f.wide (letN (bs s) k))) (fun w' hw' => by kernel_rfl) ?_
            refine wpQuiet_nil ?_
            intro W3 hW3
            simp only [Act.put, List.setIfInBounds_toArray, List.set_cons_succ, List.set_cons_zero]
            have hown3 := own_next HO2.out hW3
            have hbel3 := hbel2.trans (hW3.mono hz2)
            clear hadd HK2 HO2 hbel2 hW3 hz2
            go_wp2
            go_roundw
            case rel =>
              refine ⟨k + 1, by omega, by go_num, ?_, ?_, hbel3⟩
              · rw [HAT.out]
                exact congrArg (Value.int .i64) (by have := HP.out; omega)
              · rw [HPL.out, List.length_append, List.map_append, ← HP.out]
                exact hown3
            case measure => simp [intOf]; omega
          · have hg2 := HVV.out.by (byS s (k - 1)) (byS s k)
            have hgg := HVV.out.gap
            have HP := Lib.hid (show atW f (bs s) k + (f.gap + byP f.pairs (byS s (k - 1)) (byS s k)) = atW f (bs s) k + gapAt f (bs s) k by rw [gapAt_more (by omega) (by simpa [byS] using hp)]; rfl)
            have HK1 := Lib.hid (HK0.out.next hbel)
            have HS1 := Lib.hid (HS.out.next hbel)
            go_wp2
            have hsub : IntKind.i64.wrap ((k : Int) - 1) = ((k - 1 : Nat) : Int) := by rw [IntWalk.i64_in _ (by omega)]; omega
            have hcv : IntKind.i64.wrap f.gap = f.gap := IntWalk.i64_in _ (by omega)
            have hadd1 : IntKind.i64.wrap (f.gap + byP f.pairs (byS s (k - 1)) (byS s k)) = f.gap + byP f.pairs (byS s (k - 1)) (byS s k) := IntWalk.i64_in _ (by omega)
            have hadd2 : IntKind.i64.wrap (atW f (bs s) k + (f.gap + byP f.pairs (byS s (k - 1)) (byS s k))) = atW f (bs s) k + (f.gap + byP f.pairs (byS s (k - 1)) (byS s k)) := IntWalk.i64_in _ (by omega)
            refine region_below (wr.heap.size) (by kernel_rfl) (by kernel_rfl) ?_
            refine below_run (by kernel_rfl) (.int .i64 (atW f (bs s) k)) (fun w' hw' => by kernel_rfl) ?_
            refine below_run (by kernel_rfl) (.pointer (some ⟨b0, 27, none⟩)) (fun w' hw' => by kernel_rfl) ?_
            refine below_run (by kernel_rfl) (.int .i8 f.gap) (fun w' hw' => exec_load1 22 (.tmp 34) rfl ⟨b0, 27, none⟩ (by kernel_rfl) (.int .i8 f.gap) ((HK1.out.next hw').cell 27 _ (fcV_gap HF.out _)) _ Tryz.underlying22 rfl) ?_
            refine below_run (by kernel_rfl) (.int .i64 f.gap) (fun w' hw' => Eq.trans (show (execOp _ _).run _ w' = .ok (.value (.int .i64 (IntKind.i64.wrap f.gap))) w' by kernel_rfl) (by rw [hcv])) ?_
            refine below_run (by kernel_rfl) (.agg (fcV f (.slice A n c)).toArray) (fun w' hw' => exec_load_row 35 (.tmp 2) rfl (b0) (by kernel_rfl) 35 (fcV f (.slice A n c)).toArray _ _ (HK1.out.next hw') Tryz.underlying35 rfl (HZ.out)) ?_
            refine below_run (by kernel_rfl) (.string s) (fun w' hw' => by kernel_rfl) ?_
            refine below_run (by kernel_rfl) (.int .i64 k) (fun w' hw' => by kernel_rfl) ?_
            refine below_run (by kernel_rfl) (.int .i64 ((k - 1 : Nat) : Int)) (fun w' hw' => Eq.trans (show (execOp _ _).run _ w' = .ok (.value (.int .i64 (IntKind.i64.wrap ((k : Int) - 1)))) w' by kernel_rfl) (by rw [hsub])) ?_
            refine below_run (by kernel_rfl) (.int .u8 (byS s (k - 1))) (fun w' hw' => exec_byte (.tmp 38) (.tmp 40) rfl s (by kernel_rfl) (k - 1) (by kernel_rfl) (by omega)) ?_
            refine below_run (by kernel_rfl) (.string s) (fun w' hw' => by kernel_rfl) ?_
            refine below_run (by kernel_rfl) (.int .i64 k) (fun w' hw' => by kernel_rfl) ?_
            refine below_run (by kernel_rfl) (.int .u8 (byS s k)) (fun w' hw' => exec_byte (.tmp 42) (.tmp 43) rfl s (by kernel_rfl) k (by kernel_rfl) hlt) ?_
            refine below_call (by kernel_rfl) 70 #[.agg (fcV f (.slice A n c)).toArray, .int .u8 (byS s (k - 1)), .int .u8 (byS s k)] (.int .i64 (byP f.pairs (byS s (k - 1)) (byS s k))) (fun w' => by kernel_rfl) (fun w' hw' => (by_impl f A n c _ _ w' HF.out HN.out hm (HS1.out.next hw')).mono fun e w1 ⟨he, hb1⟩ => ⟨he, below_step hw' hb1⟩) ?_
            refine below_run (by kernel_rfl) (.int .i64 (f.gap + byP f.pairs (byS s (k - 1)) (byS s k))) (fun w' hw' => Eq.trans (show (execOp _ _).run _ w' = .ok (.value (.int .i64 (IntKind.i64.wrap (f.gap + byP f.pairs (byS s (k - 1)) (byS s k))))) w' by kernel_rfl) (by rw [hadd1])) ?_
            refine below_run (by kernel_rfl) (.int .i64 (atW f (bs s) k + (f.gap + byP f.pairs (byS s (k - 1)) (byS s k)))) (fun w' hw' => Eq.trans (show (execOp _ _).run _ w' = .ok (.value (.int .i64 (IntKind.i64.wrap (atW f (bs s) k + (f.gap + byP f.pairs (byS s (k - 1)) (byS s k)))))) w' by kernel_rfl) (by rw [hadd2])) ?_
            refine below_run (by kernel_rfl) (.int .i64 (atW f (bs s) k + (f.gap + byP f.pairs (byS s (k - 1)) (byS s k)))) (fun w' hw' => by kernel_rfl) ?_
            refine wpQuiet_nil ?_
            intro W1 hW1
            simp only [Act.put, List.setIfInBounds_toArray, List.set_cons_succ, List.set_cons_zero]
            have hown1 := own_next hown hW1
            have hbel1 := hbel.trans (hW1.mono hsz)
            have hsz1 := hbel1.size
            clear hadd1 hadd2 hcv hsub HK1 HS1 hW1 hbel hown
            have hsr := stepW_range HVV.out HLS.out hlb
            have hadd : IntKind.i64.wrap (atW f (bs s) k + (f.gap + byP f.pairs (byS s (k - 1)) (byS s k)) + rdI f.wide (letN (bs s) k)) = atW f (bs s) k + (f.gap + byP f.pairs (byS s (k - 1)) (byS s k)) + rdI f.wide (letN (bs s) k) := IntWalk.i64_in _ (by have := HP.out; omega)
            go_wp2_with (at_builtin; refine wpList_app1 rfl (.tmp 48) (.tmp 50) _ rfl elI W1 W0.heap.size u6 (plW f (bs s) k).length _ rfl hown1 (.int .i64 (atW f (bs s) k + (f.gap + byP f.pairs (byS s (k - 1)) (byS s k)))) _ rfl rfl rfl (by unfold maxLen; omega) (by omega) hsz1 ?_; intro v' w' ho' hg')
            have hbel2 := below_own hbel1 hown1 hg' (Nat.le_refl _) hsz1
            have HK2 := Lib.hid (HK0.out.next hbel2)
            have HO2 := Lib.hid ho'
            have hz2 := hbel2.size
            clear hg' ho'
            refine region_below (w'.heap.size) (by kernel_rfl) (by kernel_rfl) ?_
            refine below_run (by kernel_rfl) (.int .i64 (atW f (bs s) k + (f.gap + byP f.pairs (byS s (k - 1)) (byS s k)))) (fun w' hw' => by kernel_rfl) ?_
            refine below_run (by kernel_rfl) (.agg (fcV f (.slice A n c)).toArray) (fun w' hw' => exec_load_row 35 (.tmp 2) rfl (b0) (by kernel_rfl) 35 (fcV f (.slice A n c)).toArray _ _ (HK2.out.next hw') Tryz.underlying35 rfl (HZ.out)) ?_
            refine below_run (by kernel_rfl) (.string s) (fun w' hw' => by kernel_rfl) ?_
            refine below_run (by kernel_rfl) (.int .i64 k) (fun w' hw' => by kernel_rfl) ?_
            refine below_run (by kernel_rfl) (.int .u8 (byS s k)) (fun w' hw' => exec_byte (.tmp 54) (.tmp 55) rfl s (by kernel_rfl) k (by kernel_rfl) hlt) ?_
            refine below_call (by kernel_rfl) 71 #[.agg (fcV f (.slice A n c)).toArray, .int .u8 (byS s k)] (.int .i64 (rdI f.wide (letN (bs s) k))) (fun w' => by kernel_rfl) (fun w' hw' => (letter_w f A n c (bs s) k w' HF.out HLL.out).mono fun e w1 ⟨he, hb1⟩ => ⟨he, below_step hw' hb1⟩) ?_
            refine below_run (by kernel_rfl) (.int .i64 (atW f (bs s) k + (f.gap + byP f.pairs (byS s (k - 1)) (byS s k)) + rdI f.wide (letN (bs s) k))) (fun w' hw' => Eq.trans (show (execOp _ _).run _ w' = .ok (.value (.int .i64 (IntKind.i64.wrap (atW f (bs s) k + (f.gap + byP f.pairs (byS s (k - 1)) (byS s k)) + rdI f.wide (letN (bs s) k))))) w' by kernel_rfl) (by rw [hadd])) ?_
            refine below_run (by kernel_rfl) (.int .i64 (atW f (bs s) k + (f.gap + byP f.pairs (byS s (k - 1)) (byS s k)) + rdI f.wide (letN (bs s) k))) (fun w' hw' => by kernel_rfl) ?_
            refine wpQuiet_nil ?_
            intro W3 hW3
            simp only [Act.put, List.setIfInBounds_toArray, List.set_cons_succ, List.set_cons_zero]
            have hown3 := own_next HO2.out hW3
            have hbel3 := hbel2.trans (hW3.mono hz2)
            clear hadd HK2 HO2 hbel2 hW3 hz2
            go_wp2
            go_roundw
            case rel =>
              refine ⟨k + 1, by omega, by go_num, ?_, ?_, hbel3⟩
              · rw [HAT.out]
                exact congrArg (Value.int .i64) (by have := HP.out; omega)
              · rw [HPL.out, List.length_append, List.map_append, ← HP.out]
                exact hown3
            case measure => simp [intOf]; omega
      · have e32 : byt (bs s) k = 32 := by simpa [byS] using h32
        have HAT := Lib.hid (atW_sp (f := f) e32)
        have HPL := Lib.hid (plW_sp (f := f) e32)
        have bsp := HVV.out.space
        have c26 := (HK0.out.next hbel).cell 26 _ (fcV_space HF.out _)
        clear e32
        go_wp2
        go_roundw
        case rel => exact ⟨k + 1, by omega, by go_num, by rw [HAT.out], by rw [HPL.out]; exact hown, hbel⟩
        case measure => simp [intOf]; omega
    · obtain rfl : k = s.size := by omega
      have HL := Lib.hid (show lineW f (bs s) = atW f (bs s) s.size by unfold lineW; rw [HB.out])
      go_wp2
      go_ret2
      obtain ⟨A', c', rfl, hl, ho⟩ := OwnS.of_own hown
      refine ⟨A', c', ?_, hB.trans (hbel.mono hB.size), ?_⟩
      · rw [HL.out, HB.out]
        first | done | rfl
      · rw [HB.out]
        exact fun hn => by
          obtain ⟨g, cs, e, h1, h2, h3⟩ := ho hn
          exact ⟨g, cs, e, Nat.le_trans hB.size h1, h2, h3⟩

set_option maxRecDepth 100000 in
theorem wide_impl (f : Fc) (A : Option Addr) (n c : Nat) (s : ByteArray) (w : World) (hf : FcT f) (hV : FcV f) (hn : f.pairs.length = n) (hm : n ≤ 1048576) (hl : LS (bs s)) (hs : s.size ≤ 60) (h : SlP w A f.pairs) :
    Calls Tryz.prog 34 #[.agg (fcV f (.slice A n c)).toArray, .string s] w fun e w' => e = .returned (.int .i64 (lineW f (bs s))) ∧ Below w.heap.size w w' := by
  have hB := below_one w (.cells (fcV f (.slice A n c)).toArray 35)
  have hk := Blk.new w 35 (fcV f (.slice A n c))
  have HS := Lib.hid (h.next hB)
  have hsz : (fcV f (.slice A n c)).toArray.size = 29 := by simp [fcV_length hf]
  have HZ := Lib.hid (show (Tryz.prog.info? 35).map (·.size) = some (fcV f (.slice A n c)).toArray.size by rw [hsz]; exact szFcI)
  clear h hsz
  go_enter Tryz.func34, Tryz.ntmps34
  go_wp2_with (first
    | (refine wpList_load_row rfl 35 (.tmp 2) rfl _ rfl 35 (fcV f (.slice A n c)).toArray _ _ hk Tryz.underlying35 rfl HZ.out ?_)
    | (go_at_call 54; refine (places_any f A n c s _ hf hV hn hm hl hs HS.out).mono ?_; rintro e w1 ⟨A1, c1, rfl, hb, _⟩; have hB := below_step hB hb; clear hb))
  go_ret
  exact ⟨rfl, hB⟩
end Go.Proofs.YtnlnjpdnhdmndaaGreatDoor
namespace Go.Proofs.YtnlnjpdnhdmndaaGreatDoor
open Go Go.RowKit
set_option linter.unusedVariables false
set_option linter.unusedSimpArgs false
/-- The library's table of blanks is as its text says. -/
def SpT (w : World) : Prop := Lib.TabIs Tryz.prog w "strings.asciiSpace" .u8 Lib.asciiSpaceTab
theorem SpT.next {w w' : World} (h : SpT w) (hb : Below w.heap.size w w') : SpT w' := Go.Joins.tab_stays (g := 0) (by kernel_rfl) h hb (Nat.le_refl _)
theorem spT_of {l : List (String × DataW Unit)} {W : World} (hl : l.filter (fun x => x.1 == "strings.asciiSpace") = [("strings.asciiSpace", Lib.tabData .u8 Lib.asciiSpaceTab)]) (h : laidMetH Tryz.prog l W) : SpT W := by
  have h1 := laidMetH.filter (fun x => x.1 == "strings.asciiSpace") h
  rw [hl, MakeChecks.laidMetH_plain _ _ _ (by kernel_rfl)] at h1
  exact Lib.tabIs_of_head (g := 0) (t := 98) (e := 5) (n := 256) (by kernel_rfl) (by kernel_rfl) Tryz.underlying98 Tryz.underlying5 (by kernel_rfl) (by kernel_rfl) h1

/-- A row of words. -/
def wsV (ws : List (List UInt8)) : List Value := ws.map sv
theorem fields_impl (s : ByteArray) (w : World) (ht : vText (bs s) = true) (h : SpT w) :
    Calls Tryz.prog 50 #[.string s] w fun e w' => e = .returned (.slice (some ⟨w.heap.size, 0, none⟩) (words (bs s)).length (words (bs s)).length) ∧ w' = w.alloc (.cells (wsV (words (bs s))).toArray 9) := by
  have hl := (vText_iff.1 ht).2
  rw [bs_length] at hl
  refine (Tryz.strings_Fields s w (by omega) (fun j b hb => ?_) h).mono fun e w' ⟨he, hw⟩ => ?_
  · exact (ls_sp (vText_ls ht) b (List.mem_of_getElem? hb)).2
  · have e1 : Lib.fields s.data.toList = words (bs s) := fields_words ht
    rw [e1] at he hw
    exact ⟨he, hw⟩
/-- The words from one up to another one. -/
def cutW (ws : List (List UInt8)) (a b : Nat) : List (List UInt8) := (ws.drop a).take (b - a)
theorem cutW_length {ws : List (List UInt8)} {a b : Nat} (h : b ≤ ws.length) : (cutW ws a b).length = b - a := by unfold cutW; simp; omega
theorem cutW_mem {ws : List (List UInt8)} {a b : Nat} {x : List UInt8} (h : x ∈ cutW ws a b) : x ∈ ws := List.mem_of_mem_drop (List.mem_of_mem_take h)
theorem joinW_cut (l : List UInt8) (a b : Nat) : (joinW (cutW (words l) a b)).length ≤ l.length := by
  have := joinW_take_length (ws := words l) a (b - a)
  rw [joinW_words] at this
  exact this
theorem join_impl (g a b c : Nat) (ws : List (List UInt8)) (w : World) (hb : b ≤ ws.length) (hc : b - a ≤ c) (hws : ws.length ≤ 60) (hl : (joinW (cutW ws a b)).length ≤ 1048576) (h : Blk w g 9 (wsV ws)) :
    Calls Tryz.prog 56 #[.slice (some ⟨g, a, none⟩) (b - a) c, .string ⟨#[32]⟩] w fun e w' => e = .returned (.string ⟨(joinW (cutW ws a b)).toArray⟩) ∧ Below w.heap.size w w' := by
  have hx : ((cutW ws a b).map (fun l => (⟨l.toArray⟩ : ByteArray))).length = b - a := by rw [List.length_map, cutW_length hb]
  have hj : Lib.join (((cutW ws a b).map (fun l => (⟨l.toArray⟩ : ByteArray))).map (·.data.toList)) [32] = joinW (cutW ws a b) := by
    rw [List.map_map]
    unfold joinW
    congr 1
    exact (List.map_congr_left (fun x _ => rfl)).trans (List.map_id _)
  have hk := Tryz.strings_Join g a c ((cutW ws a b).map (fun l => (⟨l.toArray⟩ : ByteArray))) ⟨#[32]⟩ w (fun j x hj => ?_) h.lt (by omega) (by omega) ?_
  · rw [hx] at hk
    refine hk.mono fun e w' ⟨he, hb⟩ => ⟨?_, hb⟩
    rw [he]
    congr 3
    exact congrArg List.toArray hj
  · refine h.cell _ _ ?_
    unfold wsV
    rw [List.getElem?_map] at hj ⊢
    unfold cutW at hj
    rw [List.getElem?_take] at hj
    split at hj
    · rw [List.getElem?_drop] at hj
      cases hq : ws[a + j]? with
      | none => rw [hq] at hj; cases hj
      | some y => rw [hq] at hj; cases hj; rfl
    · cases hj
  · have : (Lib.join (((cutW ws a b).map (fun l => (⟨l.toArray⟩ : ByteArray))).map (·.data.toList)) [32]).length ≤ 140737488355328 := by rw [hj]; omega
    exact this
end Go.Proofs.YtnlnjpdnhdmndaaGreatDoor
