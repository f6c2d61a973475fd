/- Contracts: lines of a setter, and what is left in them, by the program. -/
import Derived.Test.YtjgflkoefimmoaaDoorFitI
namespace Go.Proofs.YtjgflkoefimmoaaDoor
open Go Go.RowKit
set_option linter.unusedVariables false
set_option linter.unusedSimpArgs false

/-- The cells of a setter: face, words, width. -/
def stV (f : Fc) (S W : Value) (m : Int) : List Value := fcV f S ++ [W, .int .i64 m]
theorem stV_length {f : Fc} (h : FcT f) (S W : Value) (m : Int) : (stV f S W m).length = 31 := by simp [stV, fcV_length h]
theorem stV_words {f : Fc} (h : FcT f) (S W : Value) (m : Int) : (stV f S W m)[29]? = some W := by
  unfold stV; rw [List.getElem?_append_right (by rw [fcV_length h]; omega), fcV_length h]; rfl
theorem stV_wide {f : Fc} (h : FcT f) (S W : Value) (m : Int) : (stV f S W m)[30]? = some (.int .i64 m) := by
  unfold stV; rw [List.getElem?_append_right (by rw [fcV_length h]; omega), fcV_length h]; rfl
theorem stV_face {f : Fc} (h : FcT f) (S W : Value) (m : Int) : ((stV f S W m).drop 0).take 29 = fcV f S := by
  unfold stV; rw [List.drop_zero, ← fcV_length h S, List.take_left]
theorem szStI : (Tryd.prog.info? 77).map (·.size) = some 31 := by kernel_rfl
/-- A row of words in a block. -/
def wS (g : Nat) (ws : List (List UInt8)) : Value := .slice (some ⟨g, 0, none⟩) ws.length ws.length

set_option maxRecDepth 100000 in
theorem line_impl (f : Fc) (S : Value) (g a b : Nat) (ws : List (List UInt8)) (m : Int) (w : World) (hf : FcT f) (hab : a < b) (hb : b ≤ ws.length) (hws : ws.length ≤ 60) (hl : (joinW (cutW ws a b)).length ≤ 1048576) (h : Blk w g 9 (wsV ws)) :
    Calls Tryd.prog 106 #[.agg (stV f S (wS g ws) m).toArray, .int .i64 (a : Int), .int .i64 (b : Int)] w fun e w' => e = .returned (.string ⟨(joinW (cutW ws a b)).toArray⟩) ∧ Below w.heap.size w w' := by
  have hB := below_one w (.cells (stV f S (wS g ws) m).toArray 77)
  have c29 := (Blk.new w 77 (stV f S (wS g ws) m)).cell 29 (.slice (some ⟨g, 0, none⟩) ws.length ws.length) (stV_words hf _ _ _)
  have HG := Lib.hid (h.next hB)
  clear h
  go_enter Tryd.func106, Tryd.ntmps106
  go_wp2_with (first
    | (refine wpList_run rfl _ (exec_slice2 (.tmp 8) (.tmp 9) (.tmp 10) rfl g ws.length ws.length a b rfl rfl rfl hab hb) ?_)
    | (go_at_call 60; refine (join_impl g a b (ws.length - a) ws _ hb (by omega) hws hl HG.out).mono ?_; rintro e w1 ⟨rfl, hb1⟩))
  go_ret
  exact ⟨rfl, below_step hB hb1⟩

attribute [local irreducible] wpQuiet in
set_option maxHeartbeats 1000000 in
set_option maxRecDepth 100000 in
theorem room_impl (f : Fc) (A : Option Addr) (n c : Nat) (g a b : Nat) (ws : List (List UInt8)) (m : Int) (w : World) (hf : FcT f) (hV : FcV f) (hn : f.pairs.length = n) (hm : n ≤ 1048576) (hs : SlP w A f.pairs) (hab : a < b) (hb : b ≤ ws.length) (hw : Ws ws) (hl : (joinW (cutW ws a b)).length ≤ 60)
    (hmr : -4000 ≤ m ∧ m ≤ 1000000) (h : Blk w g 9 (wsV ws)) :
    Calls Tryd.prog 90 #[.agg (stV f (.slice A n c) (wS g ws) m).toArray, .int .i64 (a : Int), .int .i64 (b : Int)] w fun e w' => e = .returned (.int .i64 (m - lnW f ws a b)) ∧ Below w.heap.size w w' := by
  have hB := below_one w (.cells (stV f (.slice A n c) (wS g ws) m).toArray 77)
  have HK := Lib.hid (Blk.new w 77 (stV f (.slice A n c) (wS g ws) m))
  have HG := Lib.hid (h.next hB)
  have HS := Lib.hid (hs.next hB)
  have HW := Lib.hid hw
  have hmany := hw.many
  have hrg := lnW_range hV hw a b
  have hsub : IntKind.i64.wrap (m - lnW f ws a b) = m - lnW f ws a b := IntWalk.i64_in _ (by omega)
  have HZ := Lib.hid (show (Tryd.prog.info? 77).map (·.size) = some (stV f (.slice A n c) (wS g ws) m).toArray.size by rw [List.size_toArray, stV_length hf]; exact szStI)
  have HF29 := Lib.hid (show (Tryd.prog.info? 33).map (·.size) = some (fcV f (.slice A n c)).length by rw [fcV_length hf]; exact szFcI)
  clear h hs hw
  go_enter Tryd.func90, Tryd.ntmps90
  go_wp2
  obtain ⟨b0, hb0⟩ : ∃ b0, b0 = w.heap.size := ⟨_, rfl⟩
  rw [← hb0] at HK ⊢
  clear hb0
  generalize w.alloc (.cells (stV f (.slice A n c) (wS g ws) m).toArray 77) = W0 at *
  refine region_below (W0.heap.size) (by kernel_rfl) (by kernel_rfl) ?_
  refine below_run (by kernel_rfl) (.pointer (some ⟨b0, 30, none⟩)) (fun w' hw' => by kernel_rfl) ?_
  refine below_run (by kernel_rfl) (.int .i64 m) (fun w' hw' => exec_load1 2 (.tmp 7) rfl ⟨b0, 30, none⟩ (by kernel_rfl) (.int .i64 m) ((HK.out.next hw').cell 30 _ (stV_wide hf _ _ _)) _ Tryd.underlying2 rfl) ?_
  refine below_run (by kernel_rfl) (.pointer (some ⟨b0, 0, none⟩)) (fun w' hw' => by kernel_rfl) ?_
  refine below_run (by kernel_rfl) (.agg (fcV f (.slice A n c)).toArray) (fun w' hw' => exec_loadV 33 (.tmp 9) rfl ⟨b0, 0, none⟩ (by kernel_rfl) (fcV f (.slice A n c)) _ ((by have := (HK.out.next hw').rowV 0 29; rwa [stV_face hf] at this)) Tryd.underlying33 rfl HF29.out) ?_
  refine below_run (by kernel_rfl) (.agg (stV f (.slice A n c) (wS g ws) m).toArray) (fun w' hw' => exec_load_row 77 (.tmp 3) rfl (b0) (by kernel_rfl) 77 (stV f (.slice A n c) (wS g ws) m).toArray _ _ (HK.out.next hw') Tryd.underlying77 rfl (HZ.out)) ?_
  refine below_run (by kernel_rfl) (.int .i64 (a : Int)) (fun w' hw' => by kernel_rfl) ?_
  refine below_run (by kernel_rfl) (.int .i64 (b : Int)) (fun w' hw' => by kernel_rfl) ?_
  refine below_call (by kernel_rfl) 106 #[.agg (stV f (.slice A n c) (wS g ws) m).toArray, .int .i64 (a : Int), .int .i64 (b : Int)] (.string ⟨(joinW (cutW ws a b)).toArray⟩) (fun w' => by kernel_rfl) (fun w' hw' => (line_impl f _ g a b ws m w' hf hab hb hmany (by omega) (HG.out.next hw')).mono fun e w1 ⟨he, hb1⟩ => ⟨he, below_step hw' hb1⟩) ?_
  refine below_call (by kernel_rfl) 56 #[.agg (fcV f (.slice A n c)).toArray, .string ⟨(joinW (cutW ws a b)).toArray⟩] (.int .i64 (lnW f ws a b)) (fun w' => by kernel_rfl) (fun w' hw' => (wide_impl f A n c ⟨(joinW (cutW ws a b)).toArray⟩ w' hf hV hn hm (line_ls (HW.out.cut _ _)) hl (HS.out.next hw')).mono fun e w1 ⟨he, hb1⟩ => ⟨he, below_step hw' hb1⟩) ?_
  refine below_run (by kernel_rfl) (.int .i64 (m - lnW f ws a b)) (fun w' hw' => Eq.trans (show (execOp _ _).run _ w' = .ok (.value (.int .i64 (IntKind.i64.wrap (m - lnW f ws a b)))) w' by kernel_rfl) (by rw [hsub])) ?_
  refine below_run (by kernel_rfl) (.int .i64 (m - lnW f ws a b)) (fun w' hw' => by kernel_rfl) ?_
  refine wpQuiet_nil ?_
  intro W3 hW3
  simp only [Act.put, List.setIfInBounds_toArray, List.set_cons_succ, List.set_cons_zero]
  have hB3 := hB.trans (hW3.mono hB.size)
  clear hsub
  go_wp2
  go_ret
  exact ⟨rfl, hB3⟩
end Go.Proofs.YtjgflkoefimmoaaDoor
