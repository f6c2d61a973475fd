/- Rubbings that are compared within a drawn region. -/
import Derived.Test.YtgmlhnmjeelajaaRubZ
import Derived.RegionTactic
namespace Go.Proofs.Ytgmlhnmjeelajaa
open Go Go.RowKit
set_option linter.unusedVariables false
set_option linter.unusedSimpArgs false
theorem exec_neq_rub {o : Oper} {a : Act} {w : World} (x y : Operand) {t2 : TypeId} (ho : o.op = .binOp .neq 26 x y t2) (r : List Nat) (hr : r.length = 8) (hx : a.eval x = .agg (r.map u16).toArray) (hy : a.eval y = .agg (r.map u16).toArray) :
    (execOp a.eval o).run Try.prog w = .ok (.value (.bool false)) w := by
  have heq := equal_R16 r r hr hr w
  have hkey : Try.prog.eqGuardType Try.prog.depth 26 = false := by kernel_rfl
  have hd : decide (r = r) = true := by simp
  rw [hd] at heq
  have hx2 : a.eval x = .agg (R16 r) := hx
  have hy2 : a.eval y = .agg (R16 r) := hy
  unfold execOp
  simp only [ho, hx2, hy2]
  go_simp
theorem exec_eql_rub {o : Oper} {a : Act} {w : World} (x y : Operand) {t2 : TypeId} (ho : o.op = .binOp .eql 26 x y t2) (r : List Nat) (hr : r.length = 8) (hx : a.eval x = .agg (r.map u16).toArray) (hy : a.eval y = .agg (r.map u16).toArray) :
    (execOp a.eval o).run Try.prog w = .ok (.value (.bool true)) w := by
  have heq := equal_R16 r r hr hr w
  have hkey : Try.prog.eqGuardType Try.prog.depth 26 = false := by kernel_rfl
  have hd : decide (r = r) = true := by simp
  rw [hd] at heq
  have hx2 : a.eval x = .agg (R16 r) := hx
  have hy2 : a.eval y = .agg (R16 r) := hy
  unfold execOp
  simp only [ho, hx2, hy2]
  go_simp
end Go.Proofs.Ytgmlhnmjeelajaa
