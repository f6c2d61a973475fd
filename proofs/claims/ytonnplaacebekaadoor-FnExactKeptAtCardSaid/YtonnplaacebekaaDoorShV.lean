/- Contracts: valid sheets, by the program. -/
import Derived.Test.YtonnplaacebekaaDoorShS

namespace Go.Proofs.YtonnplaacebekaaDoor
open Go Go.RowKit
set_option linter.unusedVariables false
set_option linter.unusedSimpArgs false

set_option maxRecDepth 100000 in
theorem sheetI (s : Sh) (w : World) (hs : ShT s) :
    Calls Tryd.prog 84 #[.agg (shV s).toArray] w fun e w' => e = .returned (.bool (shOk s)) ∧ Below w.heap.size w w' := by
  have h := Blk.new w 38 (shV s)
  have hB := below_one w (.cells (shV s).toArray 38)
  have c0 := h.cell 0 (.int .i16 s.wide) rfl
  have c1 := h.cell 1 (.int .i8 s.over) rfl
  have h1 := hs.wide
  have h2 := hs.over
  clear h hs
  cases hb : inB 1 400 s.wide
  · have HO := Lib.hid (show shOk s = false by unfold shOk; rw [hb]; rfl)
    have HB := Lib.hid hb
    clear hb
    go_enter Tryd.func84, Tryd.ntmps84
    go_wp2_with (go_at_call 63; refine (withinI_any _ _ _ _).mono ?_; rintro e w1 ⟨he, rfl⟩; rw [HB.out] at he; subst he)
    go_ret
    exact ⟨retB HO.out.symm, hB⟩
  · have HO := Lib.hid (show shOk s = inB 0 5 s.over by unfold shOk; rw [hb]; rfl)
    have HB := Lib.hid hb
    clear hb
    go_enter Tryd.func84, Tryd.ntmps84
    go_wp2_with fail
    go_at_call 63
    refine (withinI_any _ _ _ _).mono ?_
    rintro e w1 ⟨he, rfl⟩
    rw [HB.out] at he
    subst he
    go_wp2_with (go_at_call 63; refine (withinI_any _ _ _ _).mono ?_; rintro e w1 ⟨rfl, rfl⟩)
    go_ret
    exact ⟨retB HO.out.symm, hB⟩
end Go.Proofs.YtonnplaacebekaaDoor
