/- What a row says of the library's table of blanks, and strings.Fields and strings.Join at words. -/
import Derived.Test.YtjgflkoefimmoaaDoorEnv
import Derived.Test.YtjgflkoefimmoaaDoorWdI
import Derived.LaidSub
import Derived.Lib.SmallJoins
namespace Go.Proofs.YtjgflkoefimmoaaDoor
open Go Go.RowKit
set_option linter.unusedVariables false
set_option linter.unusedSimpArgs false
/-- The library's table of blanks is as its text says. -/
def SpT (w : World) : Prop := Lib.TabIs Tryd.prog w "strings.asciiSpace" .u8 Lib.asciiSpaceTab
theorem SpT.next {w w' : World} (h : SpT w) (hb : Below w.heap.size w w') : SpT w' := Go.Joins.tab_stays (g := 0) (by kernel_rfl) h hb (Nat.le_refl _)
theorem spT_of {l : List (String × DataW Unit)} {W : World} (hl : l.filter (fun x => x.1 == "strings.asciiSpace") = [("strings.asciiSpace", Lib.tabData .u8 Lib.asciiSpaceTab)]) (h : laidMetH Tryd.prog l W) : SpT W := by
  have h1 := laidMetH.filter (fun x => x.1 == "strings.asciiSpace") h
  rw [hl, MakeChecks.laidMetH_plain _ _ _ (by kernel_rfl)] at h1
  exact Lib.tabIs_of_head (g := 0) (t := 104) (e := 5) (n := 256) (by kernel_rfl) (by kernel_rfl) Tryd.underlying104 Tryd.underlying5 (by kernel_rfl) (by kernel_rfl) h1

/-- A row of words. -/
def wsV (ws : List (List UInt8)) : List Value := ws.map sv
theorem fields_impl (s : ByteArray) (w : World) (ht : vText (bs s) = true) (h : SpT w) :
    Calls Tryd.prog 55 #[.string s] w fun e w' => e = .returned (.slice (some ⟨w.heap.size, 0, none⟩) (words (bs s)).length (words (bs s)).length) ∧ w' = w.alloc (.cells (wsV (words (bs s))).toArray 9) := by
  have hl := (vText_iff.1 ht).2
  rw [bs_length] at hl
  refine (Tryd.strings_Fields s w (by omega) (fun j b hb => ?_) h).mono fun e w' ⟨he, hw⟩ => ?_
  · exact (ls_sp (vText_ls ht) b (List.mem_of_getElem? hb)).2
  · have e1 : Lib.fields s.data.toList = words (bs s) := fields_words ht
    rw [e1] at he hw
    exact ⟨he, hw⟩
/-- The words from one up to another one. -/
def cutW (ws : List (List UInt8)) (a b : Nat) : List (List UInt8) := (ws.drop a).take (b - a)
theorem cutW_length {ws : List (List UInt8)} {a b : Nat} (h : b ≤ ws.length) : (cutW ws a b).length = b - a := by unfold cutW; simp; omega
theorem cutW_mem {ws : List (List UInt8)} {a b : Nat} {x : List UInt8} (h : x ∈ cutW ws a b) : x ∈ ws := List.mem_of_mem_drop (List.mem_of_mem_take h)
theorem joinW_cut (l : List UInt8) (a b : Nat) : (joinW (cutW (words l) a b)).length ≤ l.length := by
  have := joinW_take_length (ws := words l) a (b - a)
  rw [joinW_words] at this
  exact this
theorem join_impl (g a b c : Nat) (ws : List (List UInt8)) (w : World) (hb : b ≤ ws.length) (hc : b - a ≤ c) (hws : ws.length ≤ 60) (hl : (joinW (cutW ws a b)).length ≤ 1048576) (h : Blk w g 9 (wsV ws)) :
    Calls Tryd.prog 60 #[.slice (some ⟨g, a, none⟩) (b - a) c, .string ⟨#[32]⟩] w fun e w' => e = .returned (.string ⟨(joinW (cutW ws a b)).toArray⟩) ∧ Below w.heap.size w w' := by
  have hx : ((cutW ws a b).map (fun l => (⟨l.toArray⟩ : ByteArray))).length = b - a := by rw [List.length_map, cutW_length hb]
  have hj : Lib.join (((cutW ws a b).map (fun l => (⟨l.toArray⟩ : ByteArray))).map (·.data.toList)) [32] = joinW (cutW ws a b) := by
    rw [List.map_map]
    unfold joinW
    congr 1
    exact (List.map_congr_left (fun x _ => rfl)).trans (List.map_id _)
  have hk := Tryd.strings_Join g a c ((cutW ws a b).map (fun l => (⟨l.toArray⟩ : ByteArray))) ⟨#[32]⟩ w (fun j x hj => ?_) h.lt (by omega) (by omega) ?_
  · rw [hx] at hk
    refine hk.mono fun e w' ⟨he, hb⟩ => ⟨?_, hb⟩
    rw [he]
    congr 3
    exact congrArg List.toArray hj
  · refine h.cell _ _ ?_
    unfold wsV
    rw [List.getElem?_map] at hj ⊢
    unfold cutW at hj
    rw [List.getElem?_take] at hj
    split at hj
    · rw [List.getElem?_drop] at hj
      cases hq : ws[a + j]? with
      | none => rw [hq] at hj; cases hj
      | some y => rw [hq] at hj; cases hj; rfl
    · cases hj
  · have : (Lib.join (((cutW ws a b).map (fun l => (⟨l.toArray⟩ : ByteArray))).map (·.data.toList)) [32]).length ≤ 140737488355328 := by rw [hj]; omega
    exact this
end Go.Proofs.YtjgflkoefimmoaaDoor
