/- Contracts: a text is split into lines; a rubbing's text is read, by the reference. -/
import Derived.Test.YtkfjelbcaolepaaReadP
import Derived.Test.YtkfjelbcaolepaaRubG
import Derived.Test.YtkfjelbcaolepaaInt
namespace Go.Proofs.Ytkfjelbcaolepaa
open Go Go.RowKit

theorem elStr : El Try.prog 71 9 (.string ⟨#[]⟩) 1 16 := ⟨Try.underlying71, by kernel_rfl, rfl, by decide⟩
theorem run_byte (s : ByteArray) (k : Nat) (hk : k < s.size) (w : World) : (Instr.index 9 (.string s) (.int .i64 (k : Int))).run Try.prog w = .ok (.int .u8 (rdB s k)) w := by
  rw [run_index_string w 9 s .i64 (k : Int) Try.underlying9, dif_pos (by omega)]
  congr 2
  unfold rdB
  have hk' : k < s.data.toList.length := by rw [Array.length_toList]; exact hk
  rw [List.getD, List.getElem?_eq_getElem hk']
  rfl

structure SplitRel (s : ByteArray) (w wr : World) (v : Value) (k : Nat) : Prop where
  own : wr.ownsRow w.heap.size 9 1 v (piecesF s k).length ((piecesF s k).map Value.string)
  below : Below w.heap.size w wr

set_option maxHeartbeats 1000000 in
set_option maxRecDepth 100000 in
theorem split_any (s : ByteArray) (w : World) (hs : s.size ≤ 1048576) :
    Calls Try.prog 63 #[.string s, .int .u8 10] w fun e w' => ∃ v, e = .returned v ∧ w'.ownsRow w.heap.size 9 1 v (linesF s).length ((linesF s).map Value.string) ∧ Below w.heap.size w w' := by
  go_enter Try.func63, Try.ntmps63
  go_wp2
  go_loopw [5, 6, 7] (fun v b i wr => ∃ k : Nat, k ≤ s.size ∧ i = .int .i64 k ∧ b = .int .i64 (begF s k) ∧ SplitRel s w wr v k) (fun _ _ i _ => s.size - (intOf i).toNat)
  case atStart => exact ⟨0, by omega, rfl, rfl, own_empty _ _ rfl _ _ (Nat.le_refl _) 1, below_one _ _⟩
  case round =>
    obtain ⟨k, hk, rfl, rfl, h⟩ := hrel
    have hown := h.own
    have hbel := h.below
    have hsz := hbel.size
    have hbe := begF_le s k
    have hpl := piecesF_length s k
    by_cases hlt : k < s.size
    · have hix := run_byte s k hlt
      cases hb : (rdB s k == 10)
      · have HP := Lib.hid (piecesF_no hb)
        have HB := Lib.hid (begF_no hb)
        clear h
        go_wp2
        go_roundw
        case rel => exact ⟨k + 1, by omega, by go_num, by rw [HB.out], by rw [HP.out]; exact hown, hbel⟩
        case measure => simp [intOf]; omega
      · have HP := Lib.hid (piecesF_yes hb)
        have HB := Lib.hid (begF_yes hb)
        clear h
        go_wp2_with (at_builtin; refine wpList_app1 rfl (.tmp 20) (.tmp 25) _ rfl elStr wr w.heap.size u5 (piecesF s k).length _ rfl hown (.string (s.extract (begF s k) k)) _ rfl rfl rfl (by unfold maxLen; omega) (by omega) hsz ?_; intro v' w' ho' hg')
        go_roundw
        case rel =>
          refine ⟨k + 1, by omega, by go_num, by rw [HB.out]; go_num, ?_, below_own hbel hown hg' (Nat.le_refl _) hsz⟩
          rw [HP.out, List.length_append, List.map_append]
          exact ho'
        case measure => simp [intOf]; omega
    · obtain rfl : k = s.size := by omega
      have HL := Lib.hid (show linesF s = piecesF s s.size ++ [s.extract (begF s s.size) s.size] from rfl)
      clear h
      go_wp2_with (at_builtin; refine wpList_app1 rfl (.tmp 29) (.tmp 33) _ rfl elStr wr w.heap.size u5 (piecesF s s.size).length _ rfl hown (.string (s.extract (begF s s.size) s.size)) _ rfl rfl rfl (by unfold maxLen; omega) (by omega) hsz ?_; intro v' w' ho' hg')
      go_ret
      refine ⟨v', rfl, ?_, below_own hbel hown hg' (Nat.le_refl _) hsz⟩
      rw [HL.out, List.length_append, List.map_append]
      exact ho'
end Go.Proofs.Ytkfjelbcaolepaa
