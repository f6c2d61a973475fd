/- A piece of a function's code, found by its way from the root: so a law is walked in pieces. -/
import Derived.Test.YtnlnjpdnhdmndaaGreatDoorProg
import Derived.Test.YtnlnjpdnhdmndaaGreatDoorGA
namespace Go.Proofs.YtnlnjpdnhdmndaaGreatDoor
open Go Go.RowKit
set_option linter.unusedVariables false
set_option linter.unusedSimpArgs false

def pickC : List Bool → Code → Code
  | [], c => c
  | b :: p, .seq x y => pickC p (match b with | true => y | false => x)
  | _ :: p, .loop x => pickC p x
  | _ :: p, .block _ x => pickC p x
  | _ :: p, .scope x => pickC p x
  | b :: p, .cond _ x y => pickC p (match b with | true => y | false => x)
  | _ :: _, c => c
noncomputable def partOf (f : Func) (p : List Bool) : Code := pickC p (f.body.getD .skip)

/-- An operation that is carried out (its guard, if it has one, says so) and has a value. -/
theorem wpList_val {P : Program} {ops : Array Oper} {rest : List Oper} {o : Oper} {a : Act} {w : World} {Q : Exit → Act → World → Prop} (hw : Region.wanted o (yielded ops a.tmps) = true) (v : Value) (w' : World)
    (he : (execOp a.eval o).run P w = .ok (.value v) w') (h : wpList P ops Q rest (a.put o.dst v) w') : wpList P ops Q (o :: rest) a w :=
  BigFrame.wpList_want hw fun K hK => by unfold Oper.wp; rw [he]; exact hK _ _ h
end Go.Proofs.YtnlnjpdnhdmndaaGreatDoor
