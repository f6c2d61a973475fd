/- Contracts: words and texts that are drawn. -/
import Derived.Test.YtahggbaandcddaaGreatDoorSrcA
import Derived.Test.YtahggbaandcddaaGreatDoorGB
import Derived.Test.YtahggbaandcddaaGreatDoorPick
import Derived.Laws.IdiomStrings
import Derived.Laws.Concat
import Derived.BigRegion


namespace Go.Proofs.YtahggbaandcddaaGreatDoor
open Go Go.RowKit
set_option linter.unusedVariables false
set_option linter.unusedSimpArgs false

/-- A byte slice of one byte becomes a text. -/
theorem exec_bytestr {o : Oper} {a : Act} {w : World} (x : Operand) (ho : o.op = .convert 22 9 x) (b : UInt8) (g : Nat) (hx : a.eval x = .slice (some ⟨g, 0, none⟩) 1 1) (hc : w.cell? ⟨g, 0, none⟩ = some (.int .u8 (b.toNat : Int))) :
    (execOp a.eval o).run Tryz.prog w = .ok (.value (.string ⟨[b].toArray⟩)) w := by
  have h := run_convert_bytes_back (P := Tryz.prog) w 22 9 5 ⟨g, 0, none⟩ 1 [b] Tryz.underlying22 Tryz.underlying5 Tryz.underlying9 (fun j hj => by
    obtain rfl : j = 0 := by simp at hj; omega
    exact hc)
  have h2 : (convert 22 9 (.slice (some ⟨g, 0, none⟩) 1 1)).run Tryz.prog w = .ok (.string ⟨[b].toArray⟩) w := h
  unfold execOp
  simp only [ho, hx, Sem.run_bind, Sem.run_pure, h2, Result.andThen_ok]
/-- Two texts are joined. -/
theorem exec_cat {o : Oper} {a : Act} {w : World} (x y : Operand) (ho : o.op = .binOp .add 9 x y 9) (l m : List UInt8) (hx : a.eval x = .string ⟨l.toArray⟩) (hy : a.eval y = .string ⟨m.toArray⟩) (hl : l.length ≤ 1000000) (hm : m.length ≤ 1000000) :
    (execOp a.eval o).run Tryz.prog w = .ok (.value (.string ⟨(l ++ m).toArray⟩)) w := by
  have h := run_string_add_lists (P := Tryz.prog) w l m (by omega) (by omega)
  unfold execOp
  simp only [ho, hx, hy]
  go_simp
  all_goals (rw [h])
theorem u8_of (n : Int) (h : 0 ≤ n ∧ n ≤ 255) : ((UInt8.ofNat n.toNat).toNat : Int) = n := by
  have : n.toNat < 256 := by omega
  rw [UInt8.toNat_ofNat_of_lt' this]; omega
/-- A word is drawn. -/
def DrawW (w : World) (b m : Nat) (e : Ending) (w' : World) : Prop := ∃ l : List UInt8, e = .returned (.string ⟨l.toArray⟩) ∧ LL l ∧ 1 ≤ l.length ∧ l.length ≤ 5 ∧ SrcAt w' b m ∧ w.grownBy w' (some b)
set_option maxHeartbeats 4000000 in
set_option maxRecDepth 100000 in
theorem spelt_any (b m : Nat) (w : World) (h : SrcAt w b m) (hm : m ≤ 100000) :
    Calls Tryz.prog 61 #[.pointer (some ⟨b, 0, none⟩)] w (DrawW w b (m + 30)) := by
  have H := Lib.hid h
  have hb := h.lt
  clear h
  go_enter Tryz.func61, Tryz.ntmps61
  repeat (first | go_values | go_skip | go_guarded | go_step | go_upon)
  go_at_call 58
  refine (pick_any b m 5 w H.out (by omega) (by omega)).mono ?_
  rintro e w1 ⟨z, rfl, z_0, z_1, hs, hg⟩
  have HS := Lib.hid hs
  have HG := Lib.hid hg
  clear hs hg
  dsimp only
  obtain ⟨Z, rfl⟩ := Int.eq_ofNat_of_zero_le z_0
  have e1 : IntKind.i64.wrap (1 + (Z : Int)) = ((Z + 1 : Nat) : Int) := by rw [IntWalk.i64_in _ (by omega)]; omega
  repeat ((with_reducible fail_if_success (show Code.wp _ (Code.loop _) _ _ _)); first | go_values | go_skip | go_guarded | go_step | go_upon)
  go_loopw [3, 4] (fun s i wr => ∃ (k : Nat) (l : List UInt8), k ≤ 5 ∧ i = .int .i64 k ∧ s = .string ⟨l.toArray⟩ ∧ LL l ∧ 1 ≤ l.length + k ∧ l.length + k ≤ 5 ∧ SrcAt wr b (m + 2 + 4 * (5 - k)) ∧ w.grownBy wr (some b)) (fun _ i _ => (intOf i).toNat)
  case atStart => exact ⟨Z + 1, [], by omega, rfl, rfl, LL.nil, by simp, by simp; omega, HS.out.le (by omega), HG.out⟩
  clear HS HG e1 z_0 z_1
  case round =>
    obtain ⟨k, l, hk, rfl, rfl, hll, hl1, hl5, hs, hg⟩ := hrel
    have HS := Lib.hid hs
    have HG := Lib.hid hg
    have HL := Lib.hid hll
    clear hs hg hll
    by_cases hlt : 0 < k
    · have hlti : (0 : Int) < (k : Int) := by omega
      repeat (first | go_values | go_skip | go_guarded | go_step | go_upon)
      go_at_call 58
      refine (pick_any b _ 2 _ HS.out (by omega) (by omega)).mono ?_
      rintro e w2 ⟨x, rfl, x_0, x_1, hs2, hg2⟩
      have HS2 := Lib.hid hs2
      have HG2 := Lib.hid (grownBy_trans HG.out hg2)
      clear hs2 hg2 HS HG
      dsimp only
      have e1 : IntKind.i64.wrap (x * 21) = x * 21 := IntWalk.i64_in _ (by omega)
      have e2 : IntKind.i64.wrap (5 + x * 21) = 5 + x * 21 := IntWalk.i64_in _ (by omega)
      repeat (first | go_values | go_skip | go_guarded | go_step | go_upon)
      go_at_call 58
      refine (pick_any b _ (5 + x * 21) _ HS2.out (by omega) (by omega)).mono ?_
      rintro e w3 ⟨y, rfl, y_0, y_1, hs3, hg3⟩
      have HS3 := Lib.hid hs3
      have HG3 := Lib.hid (grownBy_trans HG2.out hg3)
      clear hs3 hg3 HS2 HG2 e1 e2
      dsimp only
      have e1 : IntKind.i64.wrap (65 + y) = 65 + y := IntWalk.i64_in _ (by omega)
      have e2 : IntKind.u8.wrap (65 + y) = 65 + y := IntWalk.u8_in _ (by omega)
      obtain ⟨c, hc⟩ : ∃ c, c = UInt8.ofNat (65 + y).toNat := ⟨_, rfl⟩
      have hcn : ((c.toNat : Nat) : Int) = 65 + y := by rw [hc]; exact u8_of _ (by omega)
      have HLC := Lib.hid (HL.out.snoc (b := c) (by unfold isLet; exact inB_true (by omega)))
      have hb4 := below_one w3 (.cells #[.int .u8 (65 + y)] 5)
      have HS4 := Lib.hid (HS3.out.next hb4)
      have HG4 := Lib.hid (grownBy_trans HG3.out (grown_below hb4))
      clear hc hb4 HS3 HG3
      repeat ((with_reducible fail_if_success (show wpList _ _ _ (⟨some 21, _, _, _, _, _⟩ :: _) _ _)); first | go_values | go_skip | go_guarded | go_step | go_upon)
      refine wpList_val (by kernel_rfl) (.slice (some ⟨w3.heap.size, 0, none⟩) 1 1) (w3.alloc (.cells #[.int .u8 (65 + y)] 5)) (by kernel_rfl) ?_
      repeat ((with_reducible fail_if_success (show wpList _ _ _ (⟨some 22, _, _, _, _, _⟩ :: _) _ _)); first | go_values | go_skip | go_guarded | go_step | go_upon)
      refine wpList_val (by kernel_rfl) (.string ⟨[c].toArray⟩) _ (exec_bytestr (.tmp 21) rfl c w3.heap.size (by kernel_rfl) (by rw [hcn]; exact cell_one_new w3 _ _ 0 _ rfl)) ?_
      repeat ((with_reducible fail_if_success (show wpList _ _ _ (⟨some 23, _, _, _, _, _⟩ :: _) _ _)); first | go_values | go_skip | go_guarded | go_step | go_upon)
      refine wpList_val (by kernel_rfl) (.string ⟨(l ++ [c]).toArray⟩) _ (exec_cat (.tmp 12) (.tmp 22) rfl l [c] (by kernel_rfl) (by kernel_rfl) (by omega) (by simp)) ?_
      clear e1 e2 hcn
      generalize w3.alloc (.cells #[.int .u8 (65 + y)] 5) = W4 at *
      repeat (first | go_values | go_skip | go_guarded | go_step | go_upon)
      go_roundw
      case rel => exact ⟨k - 1, l ++ [c], by omega, by congr 1; omega, rfl, HLC.out, by simp; omega, by simp; omega, HS4.out.le (by omega), HG4.out⟩
      case measure => simp [intOf]; omega
    · obtain rfl : k = 0 := by omega
      repeat (first | go_values | go_skip | go_guarded | go_step | go_upon)
      go_ret
      exact ⟨l, rfl, HL.out, by omega, by omega, HS.out.le (by omega), HG.out⟩
end Go.Proofs.YtahggbaandcddaaGreatDoor
