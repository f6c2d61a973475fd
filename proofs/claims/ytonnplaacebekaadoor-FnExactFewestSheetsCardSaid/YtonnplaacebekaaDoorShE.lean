/- Contract: whether no piece is wider than a sheet, by the program. -/
import Derived.Test.YtonnplaacebekaaDoorShD

namespace Go.Proofs.YtonnplaacebekaaDoor
open Go Go.RowKit Go.Shelf
set_option linter.unusedVariables false
set_option linter.unusedSimpArgs false

set_option maxRecDepth 100000 in
theorem wider_pred (sh : Sh) (B : Nat) (w : World) (hsh : ShT sh) (h : Blk w B 38 (shV sh)) : PredI 94 #[.pointer (some ⟨B, 0, none⟩)] (fun x => decide (sh.wide < x)) w := fun W x hb => by
  have hc := (h.below hb h.lt).cell 0 (.int .i16 sh.wide) rfl
  have hw := hsh.wide
  have hcv : IntKind.i64.wrap sh.wide = sh.wide := IntWalk.i64_in _ (by omega)
  clear h hsh
  show Calls Tryd.prog 94 #[.int .i64 x, .pointer (some ⟨B, 0, none⟩)] W _
  go_enter Tryd.func94, Tryd.ntmps94
  go_wp2
  all_goals go_ret
  all_goals first
    | exact ⟨rfl, Below.refl _ _⟩
    | exact ⟨rfl, below_drewN (Below.refl _ _) _⟩

set_option maxRecDepth 100000 in
theorem possible_any (sh : Sh) (A : Option Addr) (n c : Nat) (xs : List Int) (w : World) (hsh : ShT sh) (hn : xs.length = n) (hm : n ≤ 1048576) (hs : SlE i64 w A xs) :
    Calls Tryd.prog 57 #[.agg (shV sh).toArray, .slice A n c] w fun e w' => e = .returned (.bool (!xs.any fun x => decide (sh.wide < x))) ∧ Below w.heap.size w w' := by
  have hmf : ∀ (fn : Fn) (first cap : Array Value) (w : World), (Instr.makeFunc fn first cap).run Tryd.prog w = .ok (.func fn first cap) w := fun _ _ _ _ => rfl
  have eg : ∀ args w, (callFunc 94 args).run Tryd.prog w = .ok (.enter 94 args) w := enters_of Tryd.func94 (by kernel_rfl) rfl
  have hB := below_one w (.cells (shV sh).toArray 38)
  have HP := Lib.hid (wider_pred sh w.heap.size _ hsh (Blk.new w 38 (shV sh)))
  have HS := Lib.hid (hs.next hB)
  have HN := Lib.hid hn
  have HG := Lib.hid eg
  clear hs hn eg hsh
  go_enter Tryd.func57, Tryd.ntmps57
  go_wp2_with (go_at_call 86; refine (containsF_any 94 #[.pointer (some ⟨w.heap.size, 0, none⟩)] HG.out (fun x => decide (sh.wide < x)) A n c xs _ HN.out hm HS.out HP.out).mono ?_; rintro e w1 ⟨rfl, hb⟩)
  go_ret
  exact ⟨rfl, below_step hB hb⟩
end Go.Proofs.YtonnplaacebekaaDoor
