/- strings.Fields at whatever text: what a row says of the library's table of white space. -/
import Derived.Test.YtonnplaacebekaaGreatDoorGF
import Derived.Shelf.Strings.FieldsAny
import Derived.Lib.LaidU8

namespace Go.Proofs.YtonnplaacebekaaGreatDoor
open Go Go.RowKit
set_option linter.unusedVariables false
set_option linter.unusedSimpArgs false
/-- The library's table of white space is as its text says. -/
def WhT (w : World) : Prop := Lib.WhiteTab 1 w
theorem WhT.next {w w' : World} (h : WhT w) (hb : Below w.heap.size w w') : WhT w' := WhiteTab_below h hb
theorem whT_of {l : List (String × DataW Unit)} {W : World} (hl : l.filter (fun x => x.1 == "unicode.White_Space") = [("unicode.White_Space", Lib.whiteData)]) (h : laidMetH Tryz.prog l W) : WhT W := by
  have h1 := laidMetH.filter (fun x => x.1 == "unicode.White_Space") h
  rw [hl, MakeChecks.laidMetH_plain _ _ _ (by kernel_rfl)] at h1
  exact whiteTab_of_reads Tryz.lays199 ⟨by kernel_rfl, by kernel_rfl, by kernel_rfl, by kernel_rfl, by kernel_rfl, by kernel_rfl, by kernel_rfl, by kernel_rfl⟩ (Lib.laidMet.reads h1 (List.mem_singleton.2 rfl))
theorem fields_any (s : ByteArray) (w : World) (hs : s.size ≤ 1048576) (h : SpT w) (hw : WhT w) :
    Calls Tryz.prog 31 #[.string s] w fun e w' => (∃ A n, e = .returned (.slice A n n)) ∧ Below w.heap.size w w' :=
  (Any.strings_Fields_any Tryz.lays157 (by kernel_rfl) (by kernel_rfl) (by kernel_rfl) s w (by omega) h hw).mono fun e w' ⟨A, he, _, _, hb⟩ => ⟨⟨_, _, he⟩, hb⟩
end Go.Proofs.YtonnplaacebekaaGreatDoor
