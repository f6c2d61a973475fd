/- Contract: the letters of a text, by the program. -/
import Derived.Test.YtahggbaandcddaaGreatDoorShW
import Derived.Test.YtahggbaandcddaaGreatDoorShX
namespace Go.Proofs.YtahggbaandcddaaGreatDoor
open Go Go.RowKit
set_option linter.unusedVariables false
set_option linter.unusedSimpArgs false

theorem blanks_impl (s : ByteArray) (m : Int) (w : World) (hs : s.size ≤ 1048576) (hm : w.cell? ⟨2, 0, none⟩ = some (.int .i64 m)) :
    Calls Tryz.prog 68 #[.string s, .string ⟨#[32]⟩, .string ⟨#[]⟩] w fun e w' => e = .returned (.string ⟨(lets (bs s)).toArray⟩) ∧ Below w.heap.size w w' := by
  refine (Tryz.strings_ReplaceAll s ⟨#[32]⟩ ⟨#[]⟩ m w (by omega) hm (by decide) (by show s.size + _ * 0 ≤ _; omega)).mono fun e w' ⟨he, hb⟩ => ⟨he.trans ?_, hb⟩
  exact congrArg (fun l => Ending.returned (.string ⟨List.toArray l⟩)) (replace_lets _)

set_option maxRecDepth 100000 in
theorem letters_impl (s : ByteArray) (w : World) (hs : s.size ≤ 1048576) (hmx : MaxW w) :
    Calls Tryz.prog 45 #[.string s] w fun e w' => e = .returned (.string ⟨(lets (bs s)).toArray⟩) ∧ Below w.heap.size w w' := by
  obtain ⟨m, hm⟩ := hmx
  have HM := Lib.hid hm
  clear hm
  go_enter Tryz.func45, Tryz.ntmps45
  go_wp2_with (go_at_call 68; refine (blanks_impl s m _ hs HM.out).mono ?_; rintro e w1 ⟨rfl, hb⟩)
  go_ret
  exact ⟨rfl, hb⟩
end Go.Proofs.YtahggbaandcddaaGreatDoor
