/- Contracts: the words of a text, by the reference. -/
import Derived.Test.YtjgflkoefimmoaaDoorTxtS
import Derived.Test.YtjgflkoefimmoaaDoorInt
namespace Go.Proofs.YtjgflkoefimmoaaDoor
open Go Go.RowKit
set_option linter.unusedVariables false
set_option linter.unusedSimpArgs false

theorem elStr : El Tryd.prog 64 9 (.string ⟨#[]⟩) 1 16 := ⟨Tryd.underlying64, by kernel_rfl, rfl, by decide⟩
/-- Bytes as a string. -/
def sv (l : List UInt8) : Value := .string ⟨l.toArray⟩
theorem sv_bs (s : ByteArray) : Value.string s = sv (bs s) := rfl
theorem bs_mk (l : List UInt8) : bs ⟨l.toArray⟩ = l := rfl
theorem sv_cut (s : ByteArray) (a b : Nat) : Value.string (s.extract a b) = sv (cutT (bs s) a b) := by rw [Lib.extract_eq]; rfl
/-- The words of a list, one by one. -/
def rdW (ws : List (List UInt8)) (i : Nat) : List UInt8 := ws.getD i []
theorem rdW_mem {ws : List (List UInt8)} {i : Nat} (h : i < ws.length) : rdW ws i ∈ ws := by
  unfold rdW
  rw [List.getD, List.getElem?_eq_getElem h]
  exact List.getElem_mem h
theorem RowE.atW {w : World} {a : Addr} {r : List (List UInt8)} (h : RowE sv w a r) (i : Nat) (hi : i < r.length) : w.cell? (a.add i) = some (.string ⟨(rdW r i).toArray⟩) := h.at [] i hi

structure SplRel (l : List UInt8) (w wr : World) (v : Value) (k : Nat) : Prop where
  own : wr.ownsRow w.heap.size 9 1 v (piecesF 32 l k).length ((piecesF 32 l k).map sv)
  below : Below w.heap.size w wr

set_option maxHeartbeats 1000000 in
set_option maxRecDepth 100000 in
theorem split32 (s : ByteArray) (w : World) (hs : s.size ≤ 1048576) :
    Calls Tryd.prog 82 #[.string s, .int .u8 32] w fun e w' => ∃ v, e = .returned v ∧ w'.ownsRow w.heap.size 9 1 v (splitF 32 (bs s)).length ((splitF 32 (bs s)).map sv) ∧ Below w.heap.size w w' := by
  go_enter Tryd.func82, Tryd.ntmps82
  go_wp2
  go_loopw [5, 6, 7] (fun v b i wr => ∃ k : Nat, k ≤ s.size ∧ i = .int .i64 k ∧ b = .int .i64 (begF 32 (bs s) k) ∧ SplRel (bs s) w wr v k) (fun _ _ i _ => s.size - (intOf i).toNat)
  case atStart => exact ⟨0, by omega, rfl, rfl, own_empty _ _ rfl _ _ (Nat.le_refl _) 1, below_one _ _⟩
  case round =>
    obtain ⟨k, hk, rfl, rfl, h⟩ := hrel
    have hown := h.own
    have hbel := h.below
    have hsz := hbel.size
    have hbe := begF_le 32 (bs s) k
    have hpl := piecesF_length 32 (bs s) k
    by_cases hlt : k < s.size
    · have hix := run_byte s k hlt
      cases hb : (byS s k == 32)
      · have HP := Lib.hid (piecesF_no hb)
        have HB := Lib.hid (begF_no hb)
        clear h
        go_wp2
        go_roundw
        case rel => exact ⟨k + 1, by omega, by go_num, by rw [HB.out], by rw [HP.out]; exact hown, hbel⟩
        case measure => simp [intOf]; omega
      · have HP := Lib.hid (piecesF_yes hb)
        have HB := Lib.hid (begF_yes hb)
        clear h
        go_wp2_with (at_builtin; refine wpList_app1 rfl (.tmp 20) (.tmp 25) _ rfl elStr wr w.heap.size u5 (piecesF 32 (bs s) k).length _ rfl hown (.string (s.extract (begF 32 (bs s) k) k)) _ rfl rfl rfl (by unfold maxLen; omega) (by omega) hsz ?_; intro v' w' ho' hg')
        go_roundw
        case rel =>
          refine ⟨k + 1, by omega, by go_num, by rw [HB.out]; go_num, ?_, below_own hbel hown hg' (Nat.le_refl _) hsz⟩
          rw [HP.out, List.length_append, List.map_append]
          rw [sv_cut] at ho'
          exact ho'
        case measure => simp [intOf]; omega
    · obtain rfl : k = s.size := by omega
      have HL := Lib.hid (show splitF 32 (bs s) = piecesF 32 (bs s) s.size ++ [cutT (bs s) (begF 32 (bs s) s.size) s.size] by unfold splitF; rw [bs_length])
      clear h
      go_wp2_with (at_builtin; refine wpList_app1 rfl (.tmp 29) (.tmp 33) _ rfl elStr wr w.heap.size u5 (piecesF 32 (bs s) s.size).length _ rfl hown (.string (s.extract (begF 32 (bs s) s.size) s.size)) _ rfl rfl rfl (by unfold maxLen; omega) (by omega) hsz ?_; intro v' w' ho' hg')
      go_ret
      refine ⟨v', rfl, ?_, below_own hbel hown hg' (Nat.le_refl _) hsz⟩
      rw [HL.out, List.length_append, List.map_append]
      rw [sv_cut] at ho'
      exact ho'

/-- A list of words in memory that was made. -/
def WsOut (w : World) (ws : List (List UInt8)) (e : Ending) (w' : World) : Prop :=
  ∃ A c, e = .returned (.slice A ws.length c) ∧ ws.length ≤ c ∧ Below w.heap.size w w' ∧ SlE sv w' A ws ∧ (0 < ws.length → ∃ g, A = some ⟨g, 0, none⟩)
theorem words_nil {s : ByteArray} (h : s.toList = []) : words (bs s) = [] := by
  rw [show bs s = s.toList from (ByteArray.toList_eq s).symm, h]; rfl
theorem words_some {s : ByteArray} (h : ¬ s.toList = []) : words (bs s) = splitF 32 (bs s) := by
  rw [show s.toList = bs s from ByteArray.toList_eq s] at h
  unfold words; rw [if_neg h]

set_option maxRecDepth 100000 in
theorem words_spec (s : ByteArray) (w : World) (hs : s.size ≤ 1048576) :
    Calls Tryd.prog 52 #[.string s] w (WsOut w (words (bs s))) := by
  by_cases he : s.toList = []
  · have HE := Lib.hid (words_nil he)
    have he2 : s.toList.isEmpty = true := by rw [he]; rfl
    rw [HE.out]
    go_enter Tryd.func52, Tryd.ntmps52
    go_wp2
    go_ret
    exact ⟨_, _, rfl, Nat.le_refl _, below_one _ _, SlE.nil, fun h => by simp at h⟩
  · have HE := Lib.hid (words_some he)
    have he2 : s.toList.isEmpty = false := by simp [he]
    rw [HE.out]
    go_enter Tryd.func52, Tryd.ntmps52
    go_wp2_with (go_at_call 82; refine (split32 s _ hs).mono ?_; rintro e w' ⟨v, rfl, ho, hb⟩)
    go_ret
    obtain ⟨A, c, rfl, _, hc, hsl⟩ := SlE_own ho
    refine ⟨A, c, rfl, hc, hb, hsl, fun hn => ?_⟩
    obtain ⟨g, c2, cs, he, _⟩ := own_blk ho hn
    cases he
    exact ⟨g, rfl⟩
end Go.Proofs.YtjgflkoefimmoaaDoor
