/- Contracts: the code of a face, a sheet and a text, by the program. -/
import Derived.Test.YtonnplaacebekaaDoorShV

namespace Go.Proofs.YtonnplaacebekaaDoor
open Go Go.RowKit
set_option linter.unusedVariables false
set_option linter.unusedSimpArgs false

theorem szSh : (Tryd.prog.info? 38).map (·.size) = some 2 := by kernel_rfl

set_option maxHeartbeats 1000000 in
set_option maxRecDepth 100000 in
theorem sheetCode_any (f : Fc) (A : Option Addr) (n c : Nat) (sh : Sh) (s : ByteArray) (w : World) (hf : FcT f) (hn : f.pairs.length = n) (hm : n ≤ 1048576) (hs : s.size ≤ 1048576) (hsh : ShT sh) (h : SlP w A f.pairs) (hmx : MaxW w) :
    Calls Tryd.prog 53 #[.agg (fcV f (.slice A n c)).toArray, .agg (shV sh).toArray, .string s] w fun e w' => e = .returned (.int .i64 (shC f sh (bs s))) ∧ Below w.heap.size w w' := by
  have hB := below_two w (.cells (fcV f (.slice A n c)).toArray 36) (.cells (shV sh).toArray 38)
  have hb1 := below_one (w.alloc (.cells (fcV f (.slice A n c)).toArray 36)) (.cells (shV sh).toArray 38)
  have hk := (Blk.new w 36 (fcV f (.slice A n c))).next hb1
  have hsb := Blk.new (w.alloc (.cells (fcV f (.slice A n c)).toArray 36)) 38 (shV sh)
  rw [World.size_alloc] at hsb
  have HSB := Lib.hid hsb
  have hsl := h.next hB
  have hmx := hmx.next hB
  have HF := Lib.hid hf
  have HN := Lib.hid hn
  have HS := Lib.hid hsl
  have HM := Lib.hid hmx
  have HSH := Lib.hid hsh
  have hsz : (fcV f (.slice A n c)).toArray.size = 29 := by simp [fcV_length hf]
  have HZ := Lib.hid (show (Tryd.prog.info? 36).map (·.size) = some (fcV f (.slice A n c)).toArray.size by rw [hsz]; exact szFcI)
  have HZ2 := Lib.hid (show (Tryd.prog.info? 38).map (·.size) = some (shV sh).toArray.size from szSh)
  clear hf hn h hmx hsl hsz hsb hb1 hsh
  cases hv : validF f
  · have HO := Lib.hid (shC_f (s := sh) (l := bs s) hv)
    go_enter Tryd.func53, Tryd.ntmps53
    go_wp2_with (first
      | (refine wpList_load_row rfl 36 (.tmp 3) rfl _ rfl 36 (fcV f (.slice A n c)).toArray _ _ hk Tryd.underlying36 rfl HZ.out ?_)
      | (go_at_call 83; refine (face_impl f A n c _ HF.out HN.out hm HS.out).mono ?_; rintro e w1 ⟨rfl, hb⟩; have hB := below_step hB hb; have hmx := HM.out.next hb; have hsb1 := HSB.out.next hb; have c0 := hsb1.cell 0 (.int .i16 sh.wide) rfl; have c1 := hsb1.cell 1 (.int .i8 sh.over) rfl; clear hb hsb1)
      | (go_at_call 82; refine (unless_any _ _ _).mono ?_; rintro e w4 ⟨rfl, rfl⟩))
    go_ret
    exact ⟨retI HO.out.symm, hB⟩
  · cases hk2 : shOk sh
    · have HO := Lib.hid (shC_s (f := f) (l := bs s) hk2)
      go_enter Tryd.func53, Tryd.ntmps53
      go_wp2_with (first
        | (refine wpList_load_row rfl 36 (.tmp 3) rfl _ rfl 36 (fcV f (.slice A n c)).toArray _ _ hk Tryd.underlying36 rfl HZ.out ?_)
        | (go_at_call 83; refine (face_impl f A n c _ HF.out HN.out hm HS.out).mono ?_; rintro e w1 ⟨rfl, hb⟩; have hB := below_step hB hb; have hmx := HM.out.next hb; have hsb1 := HSB.out.next hb; have c0 := hsb1.cell 0 (.int .i16 sh.wide) rfl; have c1 := hsb1.cell 1 (.int .i8 sh.over) rfl; clear hb hsb1)
        | (go_at_call 84; refine (sheetI sh _ HSH.out).mono ?_; rintro e w2 ⟨rfl, hb⟩; have hB := below_step hB hb; have hmx := hmx.next hb; clear hb)
        | (go_at_call 82; refine (unless_any _ _ _).mono ?_; rintro e w4 ⟨rfl, rfl⟩))
      go_ret
      exact ⟨retI HO.out.symm, hB⟩
    · cases ht : vText (bs s)
      · have HO := Lib.hid (shC_t (f := f) (s := sh) ht)
        go_enter Tryd.func53, Tryd.ntmps53
        go_wp2_with (first
          | (refine wpList_load_row rfl 36 (.tmp 3) rfl _ rfl 36 (fcV f (.slice A n c)).toArray _ _ hk Tryd.underlying36 rfl HZ.out ?_)
          | (go_at_call 83; refine (face_impl f A n c _ HF.out HN.out hm HS.out).mono ?_; rintro e w1 ⟨rfl, hb⟩; have hB := below_step hB hb; have hmx := HM.out.next hb; have hsb1 := HSB.out.next hb; have c0 := hsb1.cell 0 (.int .i16 sh.wide) rfl; have c1 := hsb1.cell 1 (.int .i8 sh.over) rfl; clear hb hsb1)
          | (go_at_call 84; refine (sheetI sh _ HSH.out).mono ?_; rintro e w2 ⟨rfl, hb⟩; have hB := below_step hB hb; have hmx := hmx.next hb; clear hb)
          | (go_at_call 85; refine (text_impl s _ hs hmx).mono ?_; rintro e w3 ⟨rfl, q, rfl⟩; have hB := below_drewN hB q)
          | (go_at_call 82; refine (unless_any _ _ _).mono ?_; rintro e w4 ⟨rfl, rfl⟩))
        go_ret
        exact ⟨retI HO.out.symm, hB⟩
      · have HO := Lib.hid (shC_ok hv hk2 ht)
        go_enter Tryd.func53, Tryd.ntmps53
        go_wp2_with (first
          | (refine wpList_load_row rfl 36 (.tmp 3) rfl _ rfl 36 (fcV f (.slice A n c)).toArray _ _ hk Tryd.underlying36 rfl HZ.out ?_)
          | (go_at_call 83; refine (face_impl f A n c _ HF.out HN.out hm HS.out).mono ?_; rintro e w1 ⟨rfl, hb⟩; have hB := below_step hB hb; have hmx := HM.out.next hb; have hsb1 := HSB.out.next hb; have c0 := hsb1.cell 0 (.int .i16 sh.wide) rfl; have c1 := hsb1.cell 1 (.int .i8 sh.over) rfl; clear hb hsb1)
          | (go_at_call 84; refine (sheetI sh _ HSH.out).mono ?_; rintro e w2 ⟨rfl, hb⟩; have hB := below_step hB hb; have hmx := hmx.next hb; clear hb)
          | (go_at_call 85; refine (text_impl s _ hs hmx).mono ?_; rintro e w3 ⟨rfl, q, rfl⟩; have hB := below_drewN hB q)
          | (go_at_call 82; refine (unless_any _ _ _).mono ?_; rintro e w4 ⟨rfl, rfl⟩))
        go_ret
        exact ⟨retI HO.out.symm, hB⟩
end Go.Proofs.YtonnplaacebekaaDoor
