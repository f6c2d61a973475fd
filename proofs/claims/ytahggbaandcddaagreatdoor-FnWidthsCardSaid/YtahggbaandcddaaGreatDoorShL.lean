/- Contracts: where letters lie and how wide they are, by the reference. -/
import Derived.Test.YtahggbaandcddaaGreatDoorShS
import Derived.Test.YtahggbaandcddaaGreatDoorGG
import Derived.Test.YtahggbaandcddaaGreatDoorGA
import Derived.Test.YtahggbaandcddaaGreatDoorGJ


namespace Go.Proofs.YtahggbaandcddaaGreatDoor
open Go Go.RowKit
set_option linter.unusedVariables false
set_option linter.unusedSimpArgs false

/-- Where word i begins. -/
def baseW (f : Fc) (ws : List (List UInt8)) (i : Nat) : Int := if i = 0 then 0 else sumW f ws i + f.space
def plcW (f : Fc) (w : List UInt8) (base : Int) (k : Nat) : List Int := (List.range k).map fun j => base + (atW f w j + gapAt f w j)
def wdsW (f : Fc) (w : List UInt8) (k : Nat) : List Int := (List.range k).map fun j => letW f (byt w j)
def plcA (f : Fc) (ws : List (List UInt8)) : Nat → List Int
  | 0 => []
  | i + 1 => plcA f ws i ++ plcW f (rdW ws i) (baseW f ws i) (rdW ws i).length
def wdsA (f : Fc) (ws : List (List UInt8)) : Nat → List Int
  | 0 => []
  | i + 1 => wdsA f ws i ++ wdsW f (rdW ws i) (rdW ws i).length
theorem plcW_succ (f : Fc) (w : List UInt8) (base : Int) (k : Nat) : plcW f w base (k + 1) = plcW f w base k ++ [base + (atW f w k + gapAt f w k)] := by unfold plcW; rw [List.range_succ, List.map_append]; rfl
theorem wdsW_succ (f : Fc) (w : List UInt8) (k : Nat) : wdsW f w (k + 1) = wdsW f w k ++ [letW f (byt w k)] := by unfold wdsW; rw [List.range_succ, List.map_append]; rfl
theorem plcW_length (f : Fc) (w : List UInt8) (base : Int) (k : Nat) : (plcW f w base k).length = k := by unfold plcW; simp
theorem wdsW_length (f : Fc) (w : List UInt8) (k : Nat) : (wdsW f w k).length = k := by unfold wdsW; simp
theorem plcA_length {f : Fc} {ws : List (List UInt8)} (h : ∀ x ∈ ws, x.length ≤ 60) : ∀ i, i ≤ ws.length → (plcA f ws i).length = (wdsA f ws i).length ∧ (wdsA f ws i).length ≤ 60 * i := by
  intro i
  induction i with
  | zero => intro _; exact ⟨rfl, Nat.zero_le _⟩
  | succ i ih =>
    intro hi
    have h1 := ih (by omega)
    have h2 := h _ (rdW_mem (show i < ws.length by omega))
    rw [plcA, wdsA, List.length_append, List.length_append, plcW_length, wdsW_length]
    omega
/-- All widths are those of the letters. -/
theorem wdsW_map (f : Fc) (w : List UInt8) : wdsW f w w.length = w.map fun b => letW f (b.toNat : Int) := by
  apply List.ext_getElem?
  intro i
  unfold wdsW
  rw [List.getElem?_map, List.getElem?_map]
  by_cases h : i < w.length
  · rw [List.getElem?_range h, List.getElem?_eq_getElem h]
    show some (letW f (byt w i)) = some _
    rw [byt_get h]
  · rw [List.getElem?_eq_none (by simp; omega), List.getElem?_eq_none (by omega)]; rfl
theorem wdsA_map (f : Fc) (ws : List (List UInt8)) : ∀ i, i ≤ ws.length → wdsA f ws i = ((ws.take i).flatten).map fun b => letW f (b.toNat : Int) := by
  intro i
  induction i with
  | zero => intro _; rfl
  | succ i ih =>
    intro hi
    have hi' : i < ws.length := by omega
    rw [wdsA, ih (by omega), wdsW_map, List.take_succ_eq_append_getElem hi', List.flatten_append, List.map_append]
    congr 1
    unfold rdW
    rw [List.getD, List.getElem?_eq_getElem hi']
    simp
theorem wdsA_all (f : Fc) {ws : List (List UInt8)} (h : ∀ x ∈ ws, LL x) : wdsA f ws ws.length = (lets (joinW ws)).map fun b => letW f (b.toNat : Int) := by
  rw [wdsA_map f ws _ (Nat.le_refl _), List.take_length, lets_join h]

theorem sumW_next (f : Fc) (ws : List (List UInt8)) (i : Nat) : sumW f ws (i + 1) = baseW f ws i + lineW f (rdW ws i) := by
  unfold baseW rdW
  rw [sumW]
  by_cases h : i = 0
  · subst h; rw [if_pos rfl, if_pos rfl]; rfl
  · rw [if_neg h, if_neg h]
/-- Places and widths, each in a row of the call's own. -/
structure PwRel (W0 wr : World) (v u : Value) (ps ds : List Int) (n : Nat) : Prop where
  ps : wr.ownsRow W0.heap.size 2 1 v n (ps.map i64)
  ds : wr.ownsRow W0.heap.size 2 1 u n (ds.map i64)
  ne : ∃ a b, v.ownBlock = some a ∧ u.ownBlock = some b ∧ a ≠ b
  below : Below W0.heap.size W0 wr
def PwOut (w : World) (ps ds : List Int) (e : Ending) (w' : World) : Prop :=
  ∃ A c B d, e = .returned (.tuple #[.slice A ps.length c, .slice B ds.length d]) ∧ Below w.heap.size w w' ∧ OwnS w' w.heap.size w'.heap.size A ps ∧ OwnS w' w.heap.size w'.heap.size B ds

theorem szStr : (Tryz.prog.info? 9).map (·.size) = some 1 := by kernel_rfl
theorem PwRel.next {W0 wr w' : World} {v u : Value} {ps ds : List Int} {n : Nat} (h : PwRel W0 wr v u ps ds n) (hb : Below wr.heap.size wr w') : PwRel W0 w' v u ps ds n := ⟨own_next h.ps hb, own_next h.ds hb, h.ne, below_step h.below hb⟩
/-- One place more. -/
theorem PwRel.putP {W0 wr w' : World} {v v' u : Value} {ps ds : List Int} {n : Nat} {x : Int} (h : PwRel W0 wr v u ps ds n) (ho : w'.ownsRow W0.heap.size 2 1 v' (n + 1) (ps.map i64 ++ [.int .i64 x])) (hg : wr.grownBy w' v.ownBlock) (hw : v'.ownBlock = v.ownBlock ∨ ∃ g, wr.heap.size ≤ g ∧ v'.ownBlock = some g) :
    w'.ownsRow W0.heap.size 2 1 v' (n + 1) ((ps ++ [x]).map i64) ∧ w'.ownsRow W0.heap.size 2 1 u n (ds.map i64) ∧ (∃ a b, v'.ownBlock = some a ∧ u.ownBlock = some b ∧ a ≠ b) ∧ Below W0.heap.size W0 w' := by
  obtain ⟨a, b, ha, hb, hne⟩ := h.ne
  refine ⟨by rw [List.map_append]; exact ho, h.ds.kept hg (.inr (by rw [ha, hb]; intro e; cases e; exact hne rfl)), ?_, below_own h.below h.ps hg (Nat.le_refl _) h.below.size⟩
  rcases hw with e | ⟨g, hg2, e⟩
  · exact ⟨a, b, by rw [e]; exact ha, hb, hne⟩
  · have := (h.ds.lt b hb).2
    exact ⟨g, b, e, hb, by omega⟩
/-- One width more. -/
theorem PwRel.putD {W0 wr w' : World} {v u u' : Value} {ps ds : List Int} {n m : Nat} {x : Int} (h1 : wr.ownsRow W0.heap.size 2 1 v m (ps.map i64)) (h2 : wr.ownsRow W0.heap.size 2 1 u n (ds.map i64)) (h3 : ∃ a b, v.ownBlock = some a ∧ u.ownBlock = some b ∧ a ≠ b) (h4 : Below W0.heap.size W0 wr)
    (ho : w'.ownsRow W0.heap.size 2 1 u' (n + 1) (ds.map i64 ++ [.int .i64 x])) (hg : wr.grownBy w' u.ownBlock) (hw : u'.ownBlock = u.ownBlock ∨ ∃ g, wr.heap.size ≤ g ∧ u'.ownBlock = some g) (hm : m = n + 1) : PwRel W0 w' v u' ps (ds ++ [x]) (n + 1) := by
  subst hm
  obtain ⟨a, b, ha, hb, hne⟩ := h3
  refine ⟨h1.kept hg (.inr (by rw [ha, hb]; intro e; cases e; exact hne rfl)), by rw [List.map_append]; exact ho, ?_, below_own h4 h2 hg (Nat.le_refl _) h4.size⟩
  rcases hw with e | ⟨g, hg2, e⟩
  · exact ⟨a, b, ha, by rw [e]; exact hb, hne⟩
  · have := (h1.lt a ha).2
    exact ⟨a, g, ha, e, by omega⟩

attribute [local irreducible] wpQuiet in
set_option maxHeartbeats 8000000 in
set_option maxRecDepth 100000 in
theorem places_spec (f : Fc) (n b0 : Nat) (A : Option Addr) (c : Nat) (ws : List (List UInt8)) (w : World) (hf : FcT f) (hV : FcV f) (hn : f.pairs.length = n) (hm : n ≤ 1048576) (hw : Ws ws) (h : FcAt w b0 f n) (hs : SlE sv w A ws) :
    Calls Tryz.prog 37 #[.pointer (some ⟨b0, 0, none⟩), .slice A ws.length c] w (PwOut w (plcA f ws ws.length) (wdsA f ws ws.length)) := by
  have HF := Lib.hid hf
  have HVV := Lib.hid hV
  have HN := Lib.hid hn
  have HA := Lib.hid h
  have HW := Lib.hid hw
  have HSL := Lib.hid hs
  have hcnt := hw.many
  have hb2 := below_two w (.cells #[] 2) (.cells #[] 2)
  have ho1 := (own_empty w w.heap.size rfl w.heap.size 2 (Nat.le_refl _) 1).alloc (.cells #[] 2)
  have ho2 := own_empty (w.alloc (.cells #[] 2)) (w.heap.size + 1) (by simp) w.heap.size 2 (by omega) 1
  have hrel0 : PwRel w ((w.alloc (.cells #[] 2)).alloc (.cells #[] 2)) (.slice (some ⟨w.heap.size, 0, none⟩) 0 0) (.slice (some ⟨w.heap.size + 1, 0, none⟩) 0 0) [] [] 0 := ⟨ho1, ho2, ⟨_, _, rfl, rfl, by show w.heap.size ≠ w.heap.size + 1; omega⟩, hb2⟩
  clear hf hV hn h hw hs ho1 ho2 hb2
  go_enter Tryz.func37, Tryz.ntmps37
  go_wp2
  go_loopw [6, 7, 8, 9] (fun v u a i wr => ∃ k : Nat, k ≤ ws.length ∧ i = .int .i64 k ∧ a = .int .i64 (sumW f ws k) ∧ PwRel w wr v u (plcA f ws k) (wdsA f ws k) (wdsA f ws k).length) (fun _ _ _ i _ => ws.length - (intOf i).toNat)
  case atStart => exact ⟨0, by omega, rfl, rfl, hrel0⟩
  clear hrel0
  case round =>
    obtain ⟨k, hk, rfl, rfl, h⟩ := hrel
    by_cases hlt : k < ws.length
    · have H := Lib.hid h
      obtain ⟨a, rfl, hrow⟩ := (HSL.out.next h.below).some k hlt
      obtain ⟨s, hsd⟩ : ∃ s : ByteArray, s = ⟨(rdW ws k).toArray⟩ := ⟨_, rfl⟩
      have hcell0 := hrow.atW k hlt
      rw [← hsd] at hcell0
      have HSD := Lib.hid hsd
      have HBS := Lib.hid (show bs s = rdW ws k by rw [hsd]; exact bs_mk _)
      have hs60 : s.size ≤ 60 := by rw [hsd]; exact HW.out.len _ (rdW_mem hlt)
      have hsr := sumW_range HVV.out HW.out hk
      have hsp := HVV.out.space
      have hfe : ∃ A c, Blk wr b0 28 (fcV f (.slice A n c)) := by obtain ⟨A, c, hk, _⟩ := HA.out.next h.below; exact ⟨A, c, hk⟩
      obtain ⟨Af, cf, hkf⟩ := hfe
      have c26 := hkf.cell 26 _ (fcV_space HF.out _)
      clear h hsd hrow hkf
      by_cases hk0 : 0 < k
      · have HBASE := Lib.hid (show baseW f ws k = sumW f ws k + f.space by unfold baseW; rw [if_neg (by omega)])
        go_wp2
        clear c26 hcell0
        go_loopw [6, 7, 8, 10] (fun v u a j wi => ∃ k2 : Nat, k2 ≤ s.size ∧ j = .int .i64 k2 ∧ a = .int .i64 (baseW f ws k + atW f (bs s) k2) ∧ PwRel w wi v u (plcA f ws k ++ plcW f (bs s) (baseW f ws k) k2) (wdsA f ws k ++ wdsW f (bs s) k2) ((wdsA f ws k).length + k2)) (fun _ _ _ j _ => s.size - (intOf j).toNat)
        case atStart =>
          refine ⟨0, Nat.zero_le _, rfl, by rw [HBASE.out]; show Value.int _ _ = Value.int _ (_ + 0); congr 1; omega, ?_⟩
          rw [show plcW f (bs s) (baseW f ws k) 0 = [] from rfl, show wdsW f (bs s) 0 = [] from rfl, List.append_nil, List.append_nil, Nat.add_zero]
          exact H.out
        case round =>
          obtain ⟨j, hj, rfl, rfl, h⟩ := hrel
          have hrow2 := (HSL.out.next h.below).some k hlt
          obtain ⟨a2, ha2, hrw2⟩ := hrow2
          obtain rfl := Option.some.inj ha2
          have hcell := hrw2.atW k hlt
          rw [← HSD.out] at hcell
          have HCL := Lib.hid hcell
          clear hrw2 ha2
          by_cases hjl : j < s.size
          · have HWW := Lib.hid (show LL (bs s) by rw [HBS.out]; exact (HW.out.isw _ (rdW_mem hlt)).1)
            have hlb : j < (bs s).length := by rw [bs_length]; exact hjl
            have hlet := isLet_iff.1 (HWW.out j hlb)
            have hr := atW_range HVV.out HWW.out.ls (Nat.le_of_lt hlb)
            have hbr : 0 ≤ baseW f ws k ∧ baseW f ws k ≤ 300000 := by rw [HBASE.out]; omega
            have hwd := HVV.out.wide (letN (bs s) j) (by unfold letN; omega)
            have hN26 : letN (bs s) j < 26 := by unfold letN; omega
            have hLL := (plcA_length (f := f) HW.out.len k hk).2
            have H8 := Lib.hid (show IntKind.u8.wrap (byS s j - 65) = ((letN (bs s) j : Nat) : Int) by rw [IntWalk.u8_in _ (by unfold byS; omega)]; unfold letN byS; omega)
            have HCV := Lib.hid (show IntKind.i64.wrap (rdI f.wide (letN (bs s) j)) = rdI f.wide (letN (bs s) j) from IntWalk.i64_in _ (by omega))
            have HAT := Lib.hid (atW_let (f := f) (show byt (bs s) j ≠ 32 by omega))
            have HA2 := Lib.hid (HA.out.next h.below)
            have hfe : ∃ A c, Blk wr b0 28 (fcV f (.slice A n c)) := by obtain ⟨A, c, hk, _⟩ := HA2.out; exact ⟨A, c, hk⟩
            obtain ⟨Af, cf, hkf⟩ := hfe
            have HK := Lib.hid hkf
            have hrow3 := (HSL.out.next h.below).some k hlt
            obtain ⟨a3, ha3, hrw3⟩ := hrow3
            obtain rfl := Option.some.inj ha3
            have HRW := Lib.hid hrw3
            have HH := Lib.hid h
            clear h hkf hrw3 ha3
            by_cases hj0 : 0 < j
            · have hg2 := HVV.out.by (byS s (j - 1)) (byS s j)
              have hgg := HVV.out.gap
              have hl2 := isLet_iff.1 (HWW.out (j - 1) (by omega))
              have HG := Lib.hid (gapAt_more (f := f) (l := bs s) hj0 (by omega))
              have HPV := Lib.hid (show baseW f ws k + atW f (bs s) j + (f.gap + byP f.pairs (byS s (j - 1)) (byS s j)) = baseW f ws k + (atW f (bs s) j + gapAt f (bs s) j) by rw [HG.out]; unfold byS; omega)
              have HSUB := Lib.hid (show IntKind.i64.wrap ((j : Int) - 1) = ((j - 1 : Nat) : Int) by rw [IntWalk.i64_in _ (by omega)]; omega)
              have HGC := Lib.hid (show IntKind.i64.wrap f.gap = f.gap from IntWalk.i64_in _ (by omega))
              have HS1 := Lib.hid (show IntKind.i64.wrap (f.gap + byP f.pairs (byS s (j - 1)) (byS s j)) = f.gap + byP f.pairs (byS s (j - 1)) (byS s j) from IntWalk.i64_in _ (by omega))
              have HS2 := Lib.hid (show IntKind.i64.wrap (baseW f ws k + atW f (bs s) j + (f.gap + byP f.pairs (byS s (j - 1)) (byS s j))) = baseW f ws k + atW f (bs s) j + (f.gap + byP f.pairs (byS s (j - 1)) (byS s j)) from IntWalk.i64_in _ (by omega))
              have hj1 : j - 1 < s.size := by omega
              go_wp2
              refine region_below (wr.heap.size) (by kernel_rfl) (by kernel_rfl) ?_
              refine below_run (by kernel_rfl) (.int .i64 (baseW f ws k + atW f (bs s) j)) (fun w' hw' => by kernel_rfl) ?_
              refine below_run (by kernel_rfl) (.pointer (some ⟨b0, 0, none⟩)) (fun w' hw' => by kernel_rfl) ?_
              refine below_run (by kernel_rfl) (.pointer (some ⟨b0, 0, none⟩)) (fun w' hw' => by kernel_rfl) ?_
              refine below_run (by kernel_rfl) (.pointer (some ⟨b0, 27, none⟩)) (fun w' hw' => by kernel_rfl) ?_
              refine below_run (by kernel_rfl) (.int .i8 f.gap) (fun w' hw' => exec_load1 24 (.tmp 43) rfl ⟨b0, 27, none⟩ (by kernel_rfl) (.int .i8 f.gap) ((HK.out.next hw').cell 27 _ (fcV_gap HF.out _)) _ Tryz.underlying24 rfl) ?_
              refine below_run (by kernel_rfl) (.int .i64 f.gap) (fun w' hw' => Eq.trans (show (execOp _ _).run _ w' = .ok (.value (.int .i64 (IntKind.i64.wrap f.gap))) w' by kernel_rfl) (by rw [HGC.out])) ?_
              refine below_run (by kernel_rfl) (.pointer (some ⟨b0, 0, none⟩)) (fun w' hw' => by kernel_rfl) ?_
              refine below_run (by kernel_rfl) (.slice (some a) ws.length c) (fun w' hw' => by kernel_rfl) ?_
              refine below_run (by kernel_rfl) (.int .i64 k) (fun w' hw' => by kernel_rfl) ?_
              refine below_run (by kernel_rfl) (.pointer (some (Addr.add a (k * 1)))) (fun w' hw' => exec_index 36 (.tmp 47) (.tmp 48) rfl a ws.length c (by kernel_rfl) .i64 k (by kernel_rfl) hlt 9 Tryz.underlying36 1 szStr) ?_
              refine below_run (by kernel_rfl) (.string s) (fun w' hw' => exec_load1 9 (.tmp 49) rfl (a.add (k * 1)) (by kernel_rfl) (.string s) (by rw [Nat.mul_one, HSD.out]; exact (HRW.out.next hw').atW k hlt) _ Tryz.underlying9 rfl) ?_
              refine below_run (by kernel_rfl) (.int .i64 j) (fun w' hw' => by kernel_rfl) ?_
              refine below_run (by kernel_rfl) (.int .i64 ((j - 1 : Nat) : Int)) (fun w' hw' => Eq.trans (show (execOp _ _).run _ w' = .ok (.value (.int .i64 (IntKind.i64.wrap ((j : Int) - 1)))) w' by kernel_rfl) (by rw [HSUB.out])) ?_
              refine below_run (by kernel_rfl) (.int .u8 (byS s (j - 1))) (fun w' hw' => exec_byte (.tmp 50) (.tmp 52) rfl s (by kernel_rfl) (j - 1) (by kernel_rfl) hj1) ?_
              refine below_run (by kernel_rfl) (.slice (some a) ws.length c) (fun w' hw' => by kernel_rfl) ?_
              refine below_run (by kernel_rfl) (.int .i64 k) (fun w' hw' => by kernel_rfl) ?_
              refine below_run (by kernel_rfl) (.pointer (some (Addr.add a (k * 1)))) (fun w' hw' => exec_index 36 (.tmp 54) (.tmp 55) rfl a ws.length c (by kernel_rfl) .i64 k (by kernel_rfl) hlt 9 Tryz.underlying36 1 szStr) ?_
              refine below_run (by kernel_rfl) (.string s) (fun w' hw' => exec_load1 9 (.tmp 56) rfl (a.add (k * 1)) (by kernel_rfl) (.string s) (by rw [Nat.mul_one, HSD.out]; exact (HRW.out.next hw').atW k hlt) _ Tryz.underlying9 rfl) ?_
              refine below_run (by kernel_rfl) (.int .i64 j) (fun w' hw' => by kernel_rfl) ?_
              refine below_run (by kernel_rfl) (.int .u8 (byS s j)) (fun w' hw' => exec_byte (.tmp 57) (.tmp 58) rfl s (by kernel_rfl) j (by kernel_rfl) hjl) ?_
              refine below_call (by kernel_rfl) 65 #[.pointer (some ⟨b0, 0, none⟩), .int .u8 (byS s (j - 1)), .int .u8 (byS s j)] (.int .i64 (byP f.pairs (byS s (j - 1)) (byS s j))) (fun w' => by kernel_rfl) (fun w' hw' => (by_spec f n b0 _ _ _ HF.out HN.out hm (HA2.out.next hw')).mono fun e w1 ⟨he, hb1⟩ => ⟨he, by rw [← hb1]; exact hw'⟩) ?_
              refine below_run (by kernel_rfl) (.int .i64 (f.gap + byP f.pairs (byS s (j - 1)) (byS s j))) (fun w' hw' => Eq.trans (show (execOp _ _).run _ w' = .ok (.value (.int .i64 (IntKind.i64.wrap (f.gap + byP f.pairs (byS s (j - 1)) (byS s j))))) w' by kernel_rfl) (by rw [HS1.out])) ?_
              refine below_run (by kernel_rfl) (.int .i64 (baseW f ws k + atW f (bs s) j + (f.gap + byP f.pairs (byS s (j - 1)) (byS s j)))) (fun w' hw' => Eq.trans (show (execOp _ _).run _ w' = .ok (.value (.int .i64 (IntKind.i64.wrap (baseW f ws k + atW f (bs s) j + (f.gap + byP f.pairs (byS s (j - 1)) (byS s j)))))) w' by kernel_rfl) (by rw [HS2.out])) ?_
              refine below_run (by kernel_rfl) (.int .i64 (baseW f ws k + atW f (bs s) j + (f.gap + byP f.pairs (byS s (j - 1)) (byS s j)))) (fun w' hw' => by kernel_rfl) ?_
              refine wpQuiet_nil ?_
              intro W1 hW1
              simp only [Act.put, List.setIfInBounds_toArray, List.set_cons_succ, List.set_cons_zero]
              have HK := Lib.hid (HK.out.next hW1)
              have HRW := Lib.hid (HRW.out.next hW1)
              have HH := Lib.hid (HH.out.next hW1)
              clear hW1
              go_wp2
              refine region_below (W1.heap.size) (by kernel_rfl) (by kernel_rfl) ?_
              refine below_run (by kernel_rfl) (.pointer (some ⟨b0, 0, none⟩)) (fun w' hw' => by kernel_rfl) ?_
              refine below_run (by kernel_rfl) (.slice (some a) ws.length c) (fun w' hw' => by kernel_rfl) ?_
              refine below_run (by kernel_rfl) (.int .i64 k) (fun w' hw' => by kernel_rfl) ?_
              refine below_run (by kernel_rfl) (.pointer (some (Addr.add a (k * 1)))) (fun w' hw' => exec_index 36 (.tmp 64) (.tmp 65) rfl a ws.length c (by kernel_rfl) .i64 k (by kernel_rfl) hlt 9 Tryz.underlying36 1 szStr) ?_
              refine below_run (by kernel_rfl) (.string s) (fun w' hw' => exec_load1 9 (.tmp 66) rfl (a.add (k * 1)) (by kernel_rfl) (.string s) (by rw [Nat.mul_one, HSD.out]; exact (HRW.out.next hw').atW k hlt) _ Tryz.underlying9 rfl) ?_
              refine below_run (by kernel_rfl) (.int .i64 (j : Nat)) (fun w' hw' => by kernel_rfl) ?_
              refine below_run (by kernel_rfl) (.int .u8 (byS s j)) (fun w' hw' => exec_byte (.tmp 67) (.tmp 68) rfl s (by kernel_rfl) j (by kernel_rfl) hjl) ?_
              refine below_run (by kernel_rfl) (.int .u8 ((letN (bs s) j : Nat) : Int)) (fun w' hw' => Eq.trans (show (execOp _ _).run _ w' = .ok (.value (.int .u8 (IntKind.u8.wrap (byS s j - 65)))) w' by kernel_rfl) (by rw [H8.out])) ?_
              refine below_run (by kernel_rfl) (.pointer (some ⟨b0, 0, none⟩)) (fun w' hw' => by kernel_rfl) ?_
              refine below_run (by kernel_rfl) (.pointer (some ⟨b0, 0, none⟩)) (fun w' hw' => by kernel_rfl) ?_
              refine below_run (by kernel_rfl) (.pointer (some (Addr.add ⟨b0, 0, none⟩ ((letN (bs s) j) * 1)))) (fun w' hw' => exec_indexA 25 (.tmp 72) (.tmp 70) rfl ⟨b0, 0, none⟩ (by kernel_rfl) .u8 (letN (bs s) j) (by kernel_rfl) 26 hN26 24 Tryz.underlying25 1 (by kernel_rfl)) ?_
              refine below_run (by kernel_rfl) (.int .i8 (rdI f.wide (letN (bs s) j))) (fun w' hw' => exec_load1 24 (.tmp 73) rfl (Addr.add ⟨b0, 0, none⟩ (letN (bs s) j * 1)) (by kernel_rfl) (.int .i8 (rdI f.wide (letN (bs s) j))) (by rw [add_mid, Nat.mul_one, Nat.zero_add]; exact (HK.out.next hw').cell _ _ (fcV_wide HF.out _ _ hN26)) _ Tryz.underlying24 rfl) ?_
              refine below_run (by kernel_rfl) (.int .i64 (rdI f.wide (letN (bs s) j))) (fun w' hw' => Eq.trans (show (execOp _ _).run _ w' = .ok (.value (.int .i64 (IntKind.i64.wrap (rdI f.wide (letN (bs s) j))))) w' by kernel_rfl) (by rw [HCV.out])) ?_
              refine below_run (by kernel_rfl) (.int .i64 (rdI f.wide (letN (bs s) j))) (fun w' hw' => by kernel_rfl) ?_
              refine wpQuiet_nil ?_
              intro W2 hW2
              simp only [Act.put, List.setIfInBounds_toArray, List.set_cons_succ, List.set_cons_zero]
              have HP2 := Lib.hid (HH.out.next hW2)
              have hsz2 := HP2.out.below.size
              clear hW2
              go_wp2_with (first
                | (at_builtin; refine wpList_app1B rfl (.tmp 76) (.tmp 78) _ rfl elI W2 w.heap.size u6 ((wdsA f ws k).length + j) _ rfl HP2.out.ps (.int .i64 (baseW f ws k + atW f (bs s) j + (f.gap + byP f.pairs (byS s (j - 1)) (byS s j)))) _ rfl rfl rfl (by unfold maxLen; omega) (by omega) hsz2 ?_; intro v' w' ho' hg' hwh; obtain ⟨q1, q2, q3, q4⟩ := HP2.out.putP ho' hg' hwh; have hsz3 := q4.size; clear ho' hg' hwh)
                | (at_builtin; refine wpList_app1B rfl (.tmp 80) (.tmp 82) _ rfl elI w' w.heap.size u7 ((wdsA f ws k).length + j) _ rfl q2 (.int .i64 (rdI f.wide (letN (bs s) j))) _ rfl rfl rfl (by unfold maxLen; omega) (by omega) hsz3 ?_; intro v2 w2 ho2 hg2 hwh2; have HP3 := Lib.hid (PwRel.putD q1 q2 q3 q4 ho2 hg2 hwh2 rfl); clear ho2 hg2 hwh2 q1 q2 q3 q4))
              go_roundw
              case rel =>
                refine ⟨j + 1, by omega, by go_num, by rw [HAT.out]; show Value.int _ _ = Value.int _ _; congr 1; have := HPV.out; omega, ?_⟩
                have := HP3.out
                rw [plcW_succ, wdsW_succ, ← List.append_assoc, ← List.append_assoc, ← HPV.out]
                exact this
              case measure => simp [intOf]; omega
            · obtain rfl : j = 0 := by omega
              have HPV := Lib.hid (show baseW f ws k + atW f (bs s) 0 = baseW f ws k + (atW f (bs s) 0 + gapAt f (bs s) 0) by rw [gapAt_first]; omega)
              go_wp2
              refine region_below (wr.heap.size) (by kernel_rfl) (by kernel_rfl) ?_
              refine below_run (by kernel_rfl) (.pointer (some ⟨b0, 0, none⟩)) (fun w' hw' => by kernel_rfl) ?_
              refine below_run (by kernel_rfl) (.slice (some a) ws.length c) (fun w' hw' => by kernel_rfl) ?_
              refine below_run (by kernel_rfl) (.int .i64 k) (fun w' hw' => by kernel_rfl) ?_
              refine below_run (by kernel_rfl) (.pointer (some (Addr.add a (k * 1)))) (fun w' hw' => exec_index 36 (.tmp 64) (.tmp 65) rfl a ws.length c (by kernel_rfl) .i64 k (by kernel_rfl) hlt 9 Tryz.underlying36 1 szStr) ?_
              refine below_run (by kernel_rfl) (.string s) (fun w' hw' => exec_load1 9 (.tmp 66) rfl (a.add (k * 1)) (by kernel_rfl) (.string s) (by rw [Nat.mul_one, HSD.out]; exact (HRW.out.next hw').atW k hlt) _ Tryz.underlying9 rfl) ?_
              refine below_run (by kernel_rfl) (.int .i64 (0 : Nat)) (fun w' hw' => by kernel_rfl) ?_
              refine below_run (by kernel_rfl) (.int .u8 (byS s 0)) (fun w' hw' => exec_byte (.tmp 67) (.tmp 68) rfl s (by kernel_rfl) 0 (by kernel_rfl) hjl) ?_
              refine below_run (by kernel_rfl) (.int .u8 ((letN (bs s) 0 : Nat) : Int)) (fun w' hw' => Eq.trans (show (execOp _ _).run _ w' = .ok (.value (.int .u8 (IntKind.u8.wrap (byS s 0 - 65)))) w' by kernel_rfl) (by rw [H8.out])) ?_
              refine below_run (by kernel_rfl) (.pointer (some ⟨b0, 0, none⟩)) (fun w' hw' => by kernel_rfl) ?_
              refine below_run (by kernel_rfl) (.pointer (some ⟨b0, 0, none⟩)) (fun w' hw' => by kernel_rfl) ?_
              refine below_run (by kernel_rfl) (.pointer (some (Addr.add ⟨b0, 0, none⟩ ((letN (bs s) 0) * 1)))) (fun w' hw' => exec_indexA 25 (.tmp 72) (.tmp 70) rfl ⟨b0, 0, none⟩ (by kernel_rfl) .u8 (letN (bs s) 0) (by kernel_rfl) 26 hN26 24 Tryz.underlying25 1 (by kernel_rfl)) ?_
              refine below_run (by kernel_rfl) (.int .i8 (rdI f.wide (letN (bs s) 0))) (fun w' hw' => exec_load1 24 (.tmp 73) rfl (Addr.add ⟨b0, 0, none⟩ (letN (bs s) 0 * 1)) (by kernel_rfl) (.int .i8 (rdI f.wide (letN (bs s) 0))) (by rw [add_mid, Nat.mul_one, Nat.zero_add]; exact (HK.out.next hw').cell _ _ (fcV_wide HF.out _ _ hN26)) _ Tryz.underlying24 rfl) ?_
              refine below_run (by kernel_rfl) (.int .i64 (rdI f.wide (letN (bs s) 0))) (fun w' hw' => Eq.trans (show (execOp _ _).run _ w' = .ok (.value (.int .i64 (IntKind.i64.wrap (rdI f.wide (letN (bs s) 0))))) w' by kernel_rfl) (by rw [HCV.out])) ?_
              refine below_run (by kernel_rfl) (.int .i64 (rdI f.wide (letN (bs s) 0))) (fun w' hw' => by kernel_rfl) ?_
              refine wpQuiet_nil ?_
              intro W2 hW2
              simp only [Act.put, List.setIfInBounds_toArray, List.set_cons_succ, List.set_cons_zero]
              have HP2 := Lib.hid (HH.out.next hW2)
              have hsz2 := HP2.out.below.size
              clear hW2
              go_wp2_with (first
                | (at_builtin; refine wpList_app1B rfl (.tmp 76) (.tmp 78) _ rfl elI W2 w.heap.size u6 ((wdsA f ws k).length + 0) _ rfl HP2.out.ps (.int .i64 (baseW f ws k + atW f (bs s) 0)) _ rfl rfl rfl (by unfold maxLen; omega) (by omega) hsz2 ?_; intro v' w' ho' hg' hwh; obtain ⟨q1, q2, q3, q4⟩ := HP2.out.putP ho' hg' hwh; have hsz3 := q4.size; clear ho' hg' hwh)
                | (at_builtin; refine wpList_app1B rfl (.tmp 80) (.tmp 82) _ rfl elI w' w.heap.size u7 ((wdsA f ws k).length + 0) _ rfl q2 (.int .i64 (rdI f.wide (letN (bs s) 0))) _ rfl rfl rfl (by unfold maxLen; omega) (by omega) hsz3 ?_; intro v2 w2 ho2 hg2 hwh2; have HP3 := Lib.hid (PwRel.putD q1 q2 q3 q4 ho2 hg2 hwh2 rfl); clear ho2 hg2 hwh2 q1 q2 q3 q4))
              go_roundw
              case rel =>
                refine ⟨0 + 1, by omega, by go_num, by rw [HAT.out]; show Value.int _ _ = Value.int _ _; congr 1; have := HPV.out; omega, ?_⟩
                have := HP3.out
                rw [plcW_succ, wdsW_succ, ← List.append_assoc, ← List.append_assoc, ← HPV.out]
                exact this
              case measure => simp [intOf]; omega
          · obtain rfl : j = s.size := by omega
            have hlen := bs_length s
            have E1 := Lib.hid (show plcA f ws (k + 1) = plcA f ws k ++ plcW f (bs s) (baseW f ws k) s.size by rw [plcA, ← HBS.out, hlen])
            have e2 : wdsA f ws (k + 1) = wdsA f ws k ++ wdsW f (bs s) s.size := by rw [wdsA, ← HBS.out, hlen]
            have E2 := Lib.hid e2
            have E3 := Lib.hid (show (wdsA f ws (k + 1)).length = (wdsA f ws k).length + s.size by rw [e2, List.length_append, wdsW_length])
            have E4 := Lib.hid (show sumW f ws (k + 1) = baseW f ws k + atW f (bs s) s.size by rw [sumW_next, ← HBS.out]; unfold lineW; rw [hlen])
            have HH := Lib.hid h
            clear h hlen e2
            go_wp2
            go_roundw
            case rel =>
              refine ⟨k + 1, by omega, by go_num, by rw [E4.out], ?_⟩
              rw [E3.out, E2.out, E1.out]
              exact HH.out
            case measure => simp [intOf]; omega
      · have HBASE := Lib.hid (show baseW f ws k = sumW f ws k by
          have e : k = 0 := by omega
          subst e
          unfold baseW; rw [if_pos rfl]; rfl)
        go_wp2
        clear c26 hcell0
        go_loopw [6, 7, 8, 10] (fun v u a j wi => ∃ k2 : Nat, k2 ≤ s.size ∧ j = .int .i64 k2 ∧ a = .int .i64 (baseW f ws k + atW f (bs s) k2) ∧ PwRel w wi v u (plcA f ws k ++ plcW f (bs s) (baseW f ws k) k2) (wdsA f ws k ++ wdsW f (bs s) k2) ((wdsA f ws k).length + k2)) (fun _ _ _ j _ => s.size - (intOf j).toNat)
        case atStart =>
          refine ⟨0, Nat.zero_le _, rfl, by rw [HBASE.out]; show Value.int _ _ = Value.int _ (_ + 0); congr 1; omega, ?_⟩
          rw [show plcW f (bs s) (baseW f ws k) 0 = [] from rfl, show wdsW f (bs s) 0 = [] from rfl, List.append_nil, List.append_nil, Nat.add_zero]
          exact H.out
        case round =>
          obtain ⟨j, hj, rfl, rfl, h⟩ := hrel
          have hrow2 := (HSL.out.next h.below).some k hlt
          obtain ⟨a2, ha2, hrw2⟩ := hrow2
          obtain rfl := Option.some.inj ha2
          have hcell := hrw2.atW k hlt
          rw [← HSD.out] at hcell
          have HCL := Lib.hid hcell
          clear hrw2 ha2
          by_cases hjl : j < s.size
          · have HWW := Lib.hid (show LL (bs s) by rw [HBS.out]; exact (HW.out.isw _ (rdW_mem hlt)).1)
            have hlb : j < (bs s).length := by rw [bs_length]; exact hjl
            have hlet := isLet_iff.1 (HWW.out j hlb)
            have hr := atW_range HVV.out HWW.out.ls (Nat.le_of_lt hlb)
            have hbr : 0 ≤ baseW f ws k ∧ baseW f ws k ≤ 300000 := by rw [HBASE.out]; omega
            have hwd := HVV.out.wide (letN (bs s) j) (by unfold letN; omega)
            have hN26 : letN (bs s) j < 26 := by unfold letN; omega
            have hLL := (plcA_length (f := f) HW.out.len k hk).2
            have H8 := Lib.hid (show IntKind.u8.wrap (byS s j - 65) = ((letN (bs s) j : Nat) : Int) by rw [IntWalk.u8_in _ (by unfold byS; omega)]; unfold letN byS; omega)
            have HCV := Lib.hid (show IntKind.i64.wrap (rdI f.wide (letN (bs s) j)) = rdI f.wide (letN (bs s) j) from IntWalk.i64_in _ (by omega))
            have HAT := Lib.hid (atW_let (f := f) (show byt (bs s) j ≠ 32 by omega))
            have HA2 := Lib.hid (HA.out.next h.below)
            have hfe : ∃ A c, Blk wr b0 28 (fcV f (.slice A n c)) := by obtain ⟨A, c, hk, _⟩ := HA2.out; exact ⟨A, c, hk⟩
            obtain ⟨Af, cf, hkf⟩ := hfe
            have HK := Lib.hid hkf
            have hrow3 := (HSL.out.next h.below).some k hlt
            obtain ⟨a3, ha3, hrw3⟩ := hrow3
            obtain rfl := Option.some.inj ha3
            have HRW := Lib.hid hrw3
            have HH := Lib.hid h
            clear h hkf hrw3 ha3
            by_cases hj0 : 0 < j
            · have hg2 := HVV.out.by (byS s (j - 1)) (byS s j)
              have hgg := HVV.out.gap
              have hl2 := isLet_iff.1 (HWW.out (j - 1) (by omega))
              have HG := Lib.hid (gapAt_more (f := f) (l := bs s) hj0 (by omega))
              have HPV := Lib.hid (show baseW f ws k + atW f (bs s) j + (f.gap + byP f.pairs (byS s (j - 1)) (byS s j)) = baseW f ws k + (atW f (bs s) j + gapAt f (bs s) j) by rw [HG.out]; unfold byS; omega)
              have HSUB := Lib.hid (show IntKind.i64.wrap ((j : Int) - 1) = ((j - 1 : Nat) : Int) by rw [IntWalk.i64_in _ (by omega)]; omega)
              have HGC := Lib.hid (show IntKind.i64.wrap f.gap = f.gap from IntWalk.i64_in _ (by omega))
              have HS1 := Lib.hid (show IntKind.i64.wrap (f.gap + byP f.pairs (byS s (j - 1)) (byS s j)) = f.gap + byP f.pairs (byS s (j - 1)) (byS s j) from IntWalk.i64_in _ (by omega))
              have HS2 := Lib.hid (show IntKind.i64.wrap (baseW f ws k + atW f (bs s) j + (f.gap + byP f.pairs (byS s (j - 1)) (byS s j))) = baseW f ws k + atW f (bs s) j + (f.gap + byP f.pairs (byS s (j - 1)) (byS s j)) from IntWalk.i64_in _ (by omega))
              have hj1 : j - 1 < s.size := by omega
              go_wp2
              refine region_below (wr.heap.size) (by kernel_rfl) (by kernel_rfl) ?_
              refine below_run (by kernel_rfl) (.int .i64 (baseW f ws k + atW f (bs s) j)) (fun w' hw' => by kernel_rfl) ?_
              refine below_run (by kernel_rfl) (.pointer (some ⟨b0, 0, none⟩)) (fun w' hw' => by kernel_rfl) ?_
              refine below_run (by kernel_rfl) (.pointer (some ⟨b0, 0, none⟩)) (fun w' hw' => by kernel_rfl) ?_
              refine below_run (by kernel_rfl) (.pointer (some ⟨b0, 27, none⟩)) (fun w' hw' => by kernel_rfl) ?_
              refine below_run (by kernel_rfl) (.int .i8 f.gap) (fun w' hw' => exec_load1 24 (.tmp 43) rfl ⟨b0, 27, none⟩ (by kernel_rfl) (.int .i8 f.gap) ((HK.out.next hw').cell 27 _ (fcV_gap HF.out _)) _ Tryz.underlying24 rfl) ?_
              refine below_run (by kernel_rfl) (.int .i64 f.gap) (fun w' hw' => Eq.trans (show (execOp _ _).run _ w' = .ok (.value (.int .i64 (IntKind.i64.wrap f.gap))) w' by kernel_rfl) (by rw [HGC.out])) ?_
              refine below_run (by kernel_rfl) (.pointer (some ⟨b0, 0, none⟩)) (fun w' hw' => by kernel_rfl) ?_
              refine below_run (by kernel_rfl) (.slice (some a) ws.length c) (fun w' hw' => by kernel_rfl) ?_
              refine below_run (by kernel_rfl) (.int .i64 k) (fun w' hw' => by kernel_rfl) ?_
              refine below_run (by kernel_rfl) (.pointer (some (Addr.add a (k * 1)))) (fun w' hw' => exec_index 36 (.tmp 47) (.tmp 48) rfl a ws.length c (by kernel_rfl) .i64 k (by kernel_rfl) hlt 9 Tryz.underlying36 1 szStr) ?_
              refine below_run (by kernel_rfl) (.string s) (fun w' hw' => exec_load1 9 (.tmp 49) rfl (a.add (k * 1)) (by kernel_rfl) (.string s) (by rw [Nat.mul_one, HSD.out]; exact (HRW.out.next hw').atW k hlt) _ Tryz.underlying9 rfl) ?_
              refine below_run (by kernel_rfl) (.int .i64 j) (fun w' hw' => by kernel_rfl) ?_
              refine below_run (by kernel_rfl) (.int .i64 ((j - 1 : Nat) : Int)) (fun w' hw' => Eq.trans (show (execOp _ _).run _ w' = .ok (.value (.int .i64 (IntKind.i64.wrap ((j : Int) - 1)))) w' by kernel_rfl) (by rw [HSUB.out])) ?_
              refine below_run (by kernel_rfl) (.int .u8 (byS s (j - 1))) (fun w' hw' => exec_byte (.tmp 50) (.tmp 52) rfl s (by kernel_rfl) (j - 1) (by kernel_rfl) hj1) ?_
              refine below_run (by kernel_rfl) (.slice (some a) ws.length c) (fun w' hw' => by kernel_rfl) ?_
              refine below_run (by kernel_rfl) (.int .i64 k) (fun w' hw' => by kernel_rfl) ?_
              refine below_run (by kernel_rfl) (.pointer (some (Addr.add a (k * 1)))) (fun w' hw' => exec_index 36 (.tmp 54) (.tmp 55) rfl a ws.length c (by kernel_rfl) .i64 k (by kernel_rfl) hlt 9 Tryz.underlying36 1 szStr) ?_
              refine below_run (by kernel_rfl) (.string s) (fun w' hw' => exec_load1 9 (.tmp 56) rfl (a.add (k * 1)) (by kernel_rfl) (.string s) (by rw [Nat.mul_one, HSD.out]; exact (HRW.out.next hw').atW k hlt) _ Tryz.underlying9 rfl) ?_
              refine below_run (by kernel_rfl) (.int .i64 j) (fun w' hw' => by kernel_rfl) ?_
              refine below_run (by kernel_rfl) (.int .u8 (byS s j)) (fun w' hw' => exec_byte (.tmp 57) (.tmp 58) rfl s (by kernel_rfl) j (by kernel_rfl) hjl) ?_
              refine below_call (by kernel_rfl) 65 #[.pointer (some ⟨b0, 0, none⟩), .int .u8 (byS s (j - 1)), .int .u8 (byS s j)] (.int .i64 (byP f.pairs (byS s (j - 1)) (byS s j))) (fun w' => by kernel_rfl) (fun w' hw' => (by_spec f n b0 _ _ _ HF.out HN.out hm (HA2.out.next hw')).mono fun e w1 ⟨he, hb1⟩ => ⟨he, by rw [← hb1]; exact hw'⟩) ?_
              refine below_run (by kernel_rfl) (.int .i64 (f.gap + byP f.pairs (byS s (j - 1)) (byS s j))) (fun w' hw' => Eq.trans (show (execOp _ _).run _ w' = .ok (.value (.int .i64 (IntKind.i64.wrap (f.gap + byP f.pairs (byS s (j - 1)) (byS s j))))) w' by kernel_rfl) (by rw [HS1.out])) ?_
              refine below_run (by kernel_rfl) (.int .i64 (baseW f ws k + atW f (bs s) j + (f.gap + byP f.pairs (byS s (j - 1)) (byS s j)))) (fun w' hw' => Eq.trans (show (execOp _ _).run _ w' = .ok (.value (.int .i64 (IntKind.i64.wrap (baseW f ws k + atW f (bs s) j + (f.gap + byP f.pairs (byS s (j - 1)) (byS s j)))))) w' by kernel_rfl) (by rw [HS2.out])) ?_
              refine below_run (by kernel_rfl) (.int .i64 (baseW f ws k + atW f (bs s) j + (f.gap + byP f.pairs (byS s (j - 1)) (byS s j)))) (fun w' hw' => by kernel_rfl) ?_
              refine wpQuiet_nil ?_
              intro W1 hW1
              simp only [Act.put, List.setIfInBounds_toArray, List.set_cons_succ, List.set_cons_zero]
              have HK := Lib.hid (HK.out.next hW1)
              have HRW := Lib.hid (HRW.out.next hW1)
              have HH := Lib.hid (HH.out.next hW1)
              clear hW1
              go_wp2
              refine region_below (W1.heap.size) (by kernel_rfl) (by kernel_rfl) ?_
              refine below_run (by kernel_rfl) (.pointer (some ⟨b0, 0, none⟩)) (fun w' hw' => by kernel_rfl) ?_
              refine below_run (by kernel_rfl) (.slice (some a) ws.length c) (fun w' hw' => by kernel_rfl) ?_
              refine below_run (by kernel_rfl) (.int .i64 k) (fun w' hw' => by kernel_rfl) ?_
              refine below_run (by kernel_rfl) (.pointer (some (Addr.add a (k * 1)))) (fun w' hw' => exec_index 36 (.tmp 64) (.tmp 65) rfl a ws.length c (by kernel_rfl) .i64 k (by kernel_rfl) hlt 9 Tryz.underlying36 1 szStr) ?_
              refine below_run (by kernel_rfl) (.string s) (fun w' hw' => exec_load1 9 (.tmp 66) rfl (a.add (k * 1)) (by kernel_rfl) (.string s) (by rw [Nat.mul_one, HSD.out]; exact (HRW.out.next hw').atW k hlt) _ Tryz.underlying9 rfl) ?_
              refine below_run (by kernel_rfl) (.int .i64 (j : Nat)) (fun w' hw' => by kernel_rfl) ?_
              refine below_run (by kernel_rfl) (.int .u8 (byS s j)) (fun w' hw' => exec_byte (.tmp 67) (.tmp 68) rfl s (by kernel_rfl) j (by kernel_rfl) hjl) ?_
              refine below_run (by kernel_rfl) (.int .u8 ((letN (bs s) j : Nat) : Int)) (fun w' hw' => Eq.trans (show (execOp _ _).run _ w' = .ok (.value (.int .u8 (IntKind.u8.wrap (byS s j - 65)))) w' by kernel_rfl) (by rw [H8.out])) ?_
              refine below_run (by kernel_rfl) (.pointer (some ⟨b0, 0, none⟩)) (fun w' hw' => by kernel_rfl) ?_
              refine below_run (by kernel_rfl) (.pointer (some ⟨b0, 0, none⟩)) (fun w' hw' => by kernel_rfl) ?_
              refine below_run (by kernel_rfl) (.pointer (some (Addr.add ⟨b0, 0, none⟩ ((letN (bs s) j) * 1)))) (fun w' hw' => exec_indexA 25 (.tmp 72) (.tmp 70) rfl ⟨b0, 0, none⟩ (by kernel_rfl) .u8 (letN (bs s) j) (by kernel_rfl) 26 hN26 24 Tryz.underlying25 1 (by kernel_rfl)) ?_
              refine below_run (by kernel_rfl) (.int .i8 (rdI f.wide (letN (bs s) j))) (fun w' hw' => exec_load1 24 (.tmp 73) rfl (Addr.add ⟨b0, 0, none⟩ (letN (bs s) j * 1)) (by kernel_rfl) (.int .i8 (rdI f.wide (letN (bs s) j))) (by rw [add_mid, Nat.mul_one, Nat.zero_add]; exact (HK.out.next hw').cell _ _ (fcV_wide HF.out _ _ hN26)) _ Tryz.underlying24 rfl) ?_
              refine below_run (by kernel_rfl) (.int .i64 (rdI f.wide (letN (bs s) j))) (fun w' hw' => Eq.trans (show (execOp _ _).run _ w' = .ok (.value (.int .i64 (IntKind.i64.wrap (rdI f.wide (letN (bs s) j))))) w' by kernel_rfl) (by rw [HCV.out])) ?_
              refine below_run (by kernel_rfl) (.int .i64 (rdI f.wide (letN (bs s) j))) (fun w' hw' => by kernel_rfl) ?_
              refine wpQuiet_nil ?_
              intro W2 hW2
              simp only [Act.put, List.setIfInBounds_toArray, List.set_cons_succ, List.set_cons_zero]
              have HP2 := Lib.hid (HH.out.next hW2)
              have hsz2 := HP2.out.below.size
              clear hW2
              go_wp2_with (first
                | (at_builtin; refine wpList_app1B rfl (.tmp 76) (.tmp 78) _ rfl elI W2 w.heap.size u6 ((wdsA f ws k).length + j) _ rfl HP2.out.ps (.int .i64 (baseW f ws k + atW f (bs s) j + (f.gap + byP f.pairs (byS s (j - 1)) (byS s j)))) _ rfl rfl rfl (by unfold maxLen; omega) (by omega) hsz2 ?_; intro v' w' ho' hg' hwh; obtain ⟨q1, q2, q3, q4⟩ := HP2.out.putP ho' hg' hwh; have hsz3 := q4.size; clear ho' hg' hwh)
                | (at_builtin; refine wpList_app1B rfl (.tmp 80) (.tmp 82) _ rfl elI w' w.heap.size u7 ((wdsA f ws k).length + j) _ rfl q2 (.int .i64 (rdI f.wide (letN (bs s) j))) _ rfl rfl rfl (by unfold maxLen; omega) (by omega) hsz3 ?_; intro v2 w2 ho2 hg2 hwh2; have HP3 := Lib.hid (PwRel.putD q1 q2 q3 q4 ho2 hg2 hwh2 rfl); clear ho2 hg2 hwh2 q1 q2 q3 q4))
              go_roundw
              case rel =>
                refine ⟨j + 1, by omega, by go_num, by rw [HAT.out]; show Value.int _ _ = Value.int _ _; congr 1; have := HPV.out; omega, ?_⟩
                have := HP3.out
                rw [plcW_succ, wdsW_succ, ← List.append_assoc, ← List.append_assoc, ← HPV.out]
                exact this
              case measure => simp [intOf]; omega
            · obtain rfl : j = 0 := by omega
              have HPV := Lib.hid (show baseW f ws k + atW f (bs s) 0 = baseW f ws k + (atW f (bs s) 0 + gapAt f (bs s) 0) by rw [gapAt_first]; omega)
              go_wp2
              refine region_below (wr.heap.size) (by kernel_rfl) (by kernel_rfl) ?_
              refine below_run (by kernel_rfl) (.pointer (some ⟨b0, 0, none⟩)) (fun w' hw' => by kernel_rfl) ?_
              refine below_run (by kernel_rfl) (.slice (some a) ws.length c) (fun w' hw' => by kernel_rfl) ?_
              refine below_run (by kernel_rfl) (.int .i64 k) (fun w' hw' => by kernel_rfl) ?_
              refine below_run (by kernel_rfl) (.pointer (some (Addr.add a (k * 1)))) (fun w' hw' => exec_index 36 (.tmp 64) (.tmp 65) rfl a ws.length c (by kernel_rfl) .i64 k (by kernel_rfl) hlt 9 Tryz.underlying36 1 szStr) ?_
              refine below_run (by kernel_rfl) (.string s) (fun w' hw' => exec_load1 9 (.tmp 66) rfl (a.add (k * 1)) (by kernel_rfl) (.string s) (by rw [Nat.mul_one, HSD.out]; exact (HRW.out.next hw').atW k hlt) _ Tryz.underlying9 rfl) ?_
              refine below_run (by kernel_rfl) (.int .i64 (0 : Nat)) (fun w' hw' => by kernel_rfl) ?_
              refine below_run (by kernel_rfl) (.int .u8 (byS s 0)) (fun w' hw' => exec_byte (.tmp 67) (.tmp 68) rfl s (by kernel_rfl) 0 (by kernel_rfl) hjl) ?_
              refine below_run (by kernel_rfl) (.int .u8 ((letN (bs s) 0 : Nat) : Int)) (fun w' hw' => Eq.trans (show (execOp _ _).run _ w' = .ok (.value (.int .u8 (IntKind.u8.wrap (byS s 0 - 65)))) w' by kernel_rfl) (by rw [H8.out])) ?_
              refine below_run (by kernel_rfl) (.pointer (some ⟨b0, 0, none⟩)) (fun w' hw' => by kernel_rfl) ?_
              refine below_run (by kernel_rfl) (.pointer (some ⟨b0, 0, none⟩)) (fun w' hw' => by kernel_rfl) ?_
              refine below_run (by kernel_rfl) (.pointer (some (Addr.add ⟨b0, 0, none⟩ ((letN (bs s) 0) * 1)))) (fun w' hw' => exec_indexA 25 (.tmp 72) (.tmp 70) rfl ⟨b0, 0, none⟩ (by kernel_rfl) .u8 (letN (bs s) 0) (by kernel_rfl) 26 hN26 24 Tryz.underlying25 1 (by kernel_rfl)) ?_
              refine below_run (by kernel_rfl) (.int .i8 (rdI f.wide (letN (bs s) 0))) (fun w' hw' => exec_load1 24 (.tmp 73) rfl (Addr.add ⟨b0, 0, none⟩ (letN (bs s) 0 * 1)) (by kernel_rfl) (.int .i8 (rdI f.wide (letN (bs s) 0))) (by rw [add_mid, Nat.mul_one, Nat.zero_add]; exact (HK.out.next hw').cell _ _ (fcV_wide HF.out _ _ hN26)) _ Tryz.underlying24 rfl) ?_
              refine below_run (by kernel_rfl) (.int .i64 (rdI f.wide (letN (bs s) 0))) (fun w' hw' => Eq.trans (show (execOp _ _).run _ w' = .ok (.value (.int .i64 (IntKind.i64.wrap (rdI f.wide (letN (bs s) 0))))) w' by kernel_rfl) (by rw [HCV.out])) ?_
              refine below_run (by kernel_rfl) (.int .i64 (rdI f.wide (letN (bs s) 0))) (fun w' hw' => by kernel_rfl) ?_
              refine wpQuiet_nil ?_
              intro W2 hW2
              simp only [Act.put, List.setIfInBounds_toArray, List.set_cons_succ, List.set_cons_zero]
              have HP2 := Lib.hid (HH.out.next hW2)
              have hsz2 := HP2.out.below.size
              clear hW2
              go_wp2_with (first
                | (at_builtin; refine wpList_app1B rfl (.tmp 76) (.tmp 78) _ rfl elI W2 w.heap.size u6 ((wdsA f ws k).length + 0) _ rfl HP2.out.ps (.int .i64 (baseW f ws k + atW f (bs s) 0)) _ rfl rfl rfl (by unfold maxLen; omega) (by omega) hsz2 ?_; intro v' w' ho' hg' hwh; obtain ⟨q1, q2, q3, q4⟩ := HP2.out.putP ho' hg' hwh; have hsz3 := q4.size; clear ho' hg' hwh)
                | (at_builtin; refine wpList_app1B rfl (.tmp 80) (.tmp 82) _ rfl elI w' w.heap.size u7 ((wdsA f ws k).length + 0) _ rfl q2 (.int .i64 (rdI f.wide (letN (bs s) 0))) _ rfl rfl rfl (by unfold maxLen; omega) (by omega) hsz3 ?_; intro v2 w2 ho2 hg2 hwh2; have HP3 := Lib.hid (PwRel.putD q1 q2 q3 q4 ho2 hg2 hwh2 rfl); clear ho2 hg2 hwh2 q1 q2 q3 q4))
              go_roundw
              case rel =>
                refine ⟨0 + 1, by omega, by go_num, by rw [HAT.out]; show Value.int _ _ = Value.int _ _; congr 1; have := HPV.out; omega, ?_⟩
                have := HP3.out
                rw [plcW_succ, wdsW_succ, ← List.append_assoc, ← List.append_assoc, ← HPV.out]
                exact this
              case measure => simp [intOf]; omega
          · obtain rfl : j = s.size := by omega
            have hlen := bs_length s
            have E1 := Lib.hid (show plcA f ws (k + 1) = plcA f ws k ++ plcW f (bs s) (baseW f ws k) s.size by rw [plcA, ← HBS.out, hlen])
            have e2 : wdsA f ws (k + 1) = wdsA f ws k ++ wdsW f (bs s) s.size := by rw [wdsA, ← HBS.out, hlen]
            have E2 := Lib.hid e2
            have E3 := Lib.hid (show (wdsA f ws (k + 1)).length = (wdsA f ws k).length + s.size by rw [e2, List.length_append, wdsW_length])
            have E4 := Lib.hid (show sumW f ws (k + 1) = baseW f ws k + atW f (bs s) s.size by rw [sumW_next, ← HBS.out]; unfold lineW; rw [hlen])
            have HH := Lib.hid h
            clear h hlen e2
            go_wp2
            go_roundw
            case rel =>
              refine ⟨k + 1, by omega, by go_num, by rw [E4.out], ?_⟩
              rw [E3.out, E2.out, E1.out]
              exact HH.out
            case measure => simp [intOf]; omega
    · obtain rfl : k = ws.length := by omega
      have hlen := (plcA_length (f := f) HW.out.len ws.length (Nat.le_refl _)).1
      have h1 := h.ps
      have h2 := h.ds
      have hbel := h.below
      clear h
      obtain ⟨A6, c6, rfl, hl6, ho6⟩ := OwnS.of_own h1
      obtain ⟨A7, c7, rfl, hl7, ho7⟩ := OwnS.of_own h2
      clear h1 h2
      have HL := Lib.hid hlen
      clear hlen hl6 hl7
      go_wp2
      go_ret2
      exact ⟨A6, c6, A7, c7, rfl, hbel, ho6, ho7⟩
end Go.Proofs.YtahggbaandcddaaGreatDoor
