/- Contracts: the width of a word; two lists are compared; a list has a number. -/
import Derived.Test.YtdhngjjfoddnkaaGreatDoorGT
import Derived.Test.YtdhngjjfoddnkaaGreatDoorSmL
import Derived.Test.YtdhngjjfoddnkaaGreatDoorGF
import Derived.Test.YtdhngjjfoddnkaaGreatDoorGD
import Derived.BigRegion


namespace Go.Proofs.YtdhngjjfoddnkaaGreatDoor
open Go Go.RowKit
set_option linter.unusedVariables false
set_option linter.unusedSimpArgs false

theorem vText_LL {l : List UInt8} (h : LL l) (h60 : l.length ≤ 60) : vText l = true := vText_iff.2 ⟨fun i hi => by
  have := h i hi
  unfold chOk
  rw [if_neg (fun e => by rw [e] at this; revert this; decide)]
  exact this, h60⟩
theorem vWord_LL {l : List UInt8} (h : LL l) (h1 : 1 ≤ l.length) (h60 : l.length ≤ 60) : vWord l = true := by
  unfold vWord
  rw [vText_LL h h60, isW_iff.2 ⟨h, by omega⟩]; rfl

set_option maxRecDepth 100000 in
theorem same_any (A B : Option Addr) (c d : Nat) (xs ys : List Int) (n m : Nat) (w : World) (hx : xs.length = n) (hy : ys.length = m) (hn : n ≤ 1048576) (hm : m ≤ 1048576) (ha : SlE i64 w A xs) (hb : SlE i64 w B ys) :
    Calls Tryz.prog 17 #[.slice A n c, .slice B m d] w fun e w' => e = .returned (.bool (decide (xs = ys))) ∧ Below w.heap.size w w' := by
  go_enter Tryz.func17, Tryz.ntmps17
  repeat (first | go_values | go_skip | go_guarded | go_step | go_upon)
  go_at_call 39
  refine (l00Same_any A B c d xs ys n m w hx hy hn hm ha hb).mono ?_
  rintro e w1 ⟨rfl, hb1⟩
  have HB := Lib.hid hb1
  clear hb1 ha hb hx hy
  dsimp only
  repeat (first | go_values | go_skip | go_guarded | go_step | go_upon)
  go_ret
  exact ⟨rfl, HB.out⟩
end Go.Proofs.YtdhngjjfoddnkaaGreatDoor
