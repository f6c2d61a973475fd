/- Contract: A2Text draws a valid text. -/
import Derived.Test.YtahggbaandcddaaGreatDoorSrcK

namespace Go.Proofs.YtahggbaandcddaaGreatDoor
open Go Go.RowKit
set_option linter.unusedVariables false
set_option linter.unusedSimpArgs false

set_option maxRecDepth 100000 in
theorem a2text_any (A : Option Addr) (n c : Nat) (xs : List Int) (w : World) (hn : xs.length = n) (hl : n ≤ 4096) (hs : SlE u8 w A xs) (hy : Byt xs) :
    Calls Tryz.prog 6 #[.slice A n c] w fun e w' => ∃ l : List UInt8, e = .returned (.string ⟨l.toArray⟩) ∧ vText l = true ∧ Below w.heap.size w w' := by
  have HA := Lib.hid hs
  have HY := Lib.hid hy
  have HN := Lib.hid hn
  clear hs hy hn
  go_enter Tryz.func6, Tryz.ntmps6
  repeat (first | go_values | go_skip | go_guarded | go_step | go_upon)
  go_at_call 29
  refine (from_any A n c xs _ HN.out (by omega) HA.out HY.out).mono ?_
  rintro e w1 ⟨b, rfl, hb0, hs1, hb1⟩
  have HS := Lib.hid hs1
  have HB1 := Lib.hid hb1
  have hbl := hs1.lt
  clear hs1 hb1
  dsimp only
  repeat (first | go_values | go_skip | go_guarded | go_step | go_upon)
  go_at_call 30
  refine (said_any b 0 _ HS.out (by omega)).mono ?_
  rintro e w2 ⟨l, rfl, hv, hs2, hg⟩
  have HB3 := Lib.hid (below_drawn HB1.out hg hb0)
  clear hs2 hg
  dsimp only
  repeat (first | go_values | go_skip | go_guarded | go_step | go_upon)
  go_ret
  exact ⟨l, rfl, hv, HB3.out⟩
end Go.Proofs.YtahggbaandcddaaGreatDoor
