/- Three rubbings in a slice that a law makes; dots of rows. -/
import Derived.Test.YtkbmfemncadlnaaGreatDoorJoinC
import Derived.Test.YtkbmfemncadlnaaGreatDoorGM
import Derived.Test.YtkbmfemncadlnaaGreatDoorGA
import Derived.Test.YtkbmfemncadlnaaGreatDoorPick
import Derived.Test.YtkbmfemncadlnaaGreatDoorSrcR

namespace Go.Proofs.YtkbmfemncadlnaaGreatDoor
open Go Go.RowKit
set_option linter.unusedVariables false
set_option linter.unusedSimpArgs false

theorem list8 {r : List Nat} (h : r.length = 8) : ∃ a b c d e f g i, r = [a, b, c, d, e, f, g, i] := by
  match r, h with
  | [a, b, c, d, e, f, g, i], _ => exact ⟨a, b, c, d, e, f, g, i, rfl⟩
set_option maxRecDepth 100000 in
theorem run_build3 (a b c : List Nat) (ha : a.length = 8) (hb : b.length = 8) (hc : c.length = 8) (w : World) :
    (Instr.buildSlice 35 3 #[(0, .agg (R16 a)), (1, .agg (R16 b)), (2, .agg (R16 c))]).run Tryz.prog w = .ok (.slice (some ⟨w.heap.size, 0, none⟩) 3 3) (w.alloc (.cells ((a ++ b ++ c).map u16).toArray 26)) := by
  obtain ⟨a0, a1, a2, a3, a4, a5, a6, a7, rfl⟩ := list8 ha
  obtain ⟨b0, b1, b2, b3, b4, b5, b6, b7, rfl⟩ := list8 hb
  obtain ⟨c0, c1, c2, c3, c4, c5, c6, c7, rfl⟩ := list8 hc
  kernel_rfl
theorem exec_build3 {o : Oper} {ac : Act} {w : World} (x y z : Operand) (ho : o.op = .buildSlice 35 3 #[(0, x), (1, y), (2, z)]) (a b c : List Nat) (ha : a.length = 8) (hb : b.length = 8) (hc : c.length = 8) (hx : ac.eval x = .agg (R16 a)) (hy : ac.eval y = .agg (R16 b)) (hz : ac.eval z = .agg (R16 c)) :
    (execOp ac.eval o).run Tryz.prog w = .ok (.value (.slice (some ⟨w.heap.size, 0, none⟩) 3 3)) (w.alloc (.cells ((a ++ b ++ c).map u16).toArray 26)) := by
  have h := run_build3 a b c ha hb hc w
  unfold execOp
  simp only [ho]
  have e : (#[(0, x), (1, y), (2, z)] : Array (Nat × Operand)).map (fun (p : Nat × Operand) => (p.1, ac.eval p.2)) = #[(0, .agg (R16 a)), (1, .agg (R16 b)), (2, .agg (R16 c))] := by simp [hx, hy, hz]
  have e2 : (#[(0, x), (1, y), (2, z)] : Array (Nat × Operand)).map (fun x => match x with | (i, x) => (i, ac.eval x)) = #[(0, .agg (R16 a)), (1, .agg (R16 b)), (2, .agg (R16 c))] := by simp [hx, hy, hz]
  rw [e2]
  simp only [Sem.run_bind, h, Result.andThen_ok, Sem.run_pure]
theorem sl8_three {w : World} {g : Nat} {a b c : List Nat} (ha : a.length = 8) (hb : b.length = 8) (hc : c.length = 8) (h : Blk w g 26 ((a ++ b ++ c).map u16)) : Sl8 w (some ⟨g, 0, none⟩) [a, b, c] := by
  refine sl8_of fun i hi => ?_
  refine h.range_of (i * 8) _ ?_
  match i, hi with
  | 0, _ => simp [rdR]
  | 1, _ =>
    rw [List.map_append, List.map_append, List.append_assoc, List.drop_append, List.drop_of_length_le (by simp [ha])]
    simp [rdR, ha]
  | 2, _ =>
    rw [List.map_append, List.drop_append, List.drop_of_length_le (by simp [ha, hb])]
    simp [rdR, ha, hb]
theorem rubs_three {a b c : List Nat} (ha : RubV a) (hb : RubV b) (hc : RubV c) : Rubs [a, b, c] 3 := by
  refine ⟨rfl, fun i hi => ?_⟩
  match i, hi with
  | 0, _ => exact ⟨ha.len, ha.lt⟩
  | 1, _ => exact ⟨hb.len, hb.lt⟩
  | 2, _ => exact ⟨hc.len, hc.lt⟩
theorem szU16w : (Tryz.prog.info? 24).map (·.size) = some 1 := by kernel_rfl
theorem exec_eql_rub2 {o : Oper} {a : Act} {w : World} (x y : Operand) {t2 : TypeId} (ho : o.op = .binOp .eql 26 x y t2) (r s : List Nat) (hr : r.length = 8) (hs : s.length = 8) (hx : a.eval x = .agg (r.map u16).toArray) (hy : a.eval y = .agg (s.map u16).toArray) :
    (execOp a.eval o).run Tryz.prog w = .ok (.value (.bool (decide (r = s)))) w := by
  have heq := equal_R16 r s hr hs w
  have hkey : Tryz.prog.eqGuardType Tryz.prog.depth 26 = false := by kernel_rfl
  have hx2 : a.eval x = .agg (R16 r) := hx
  have hy2 : a.eval y = .agg (R16 s) := hy
  unfold execOp
  simp only [ho, hx2, hy2]
  go_simp
end Go.Proofs.YtkbmfemncadlnaaGreatDoor
