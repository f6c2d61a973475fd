/- The widest word, plain. No walk here. Contracts: the widest word, by the reference. Contracts: the widest word, by the program. Contracts: how wide a few words are as a line, by the reference. Contracts: as many words as fit, by the reference. Contracts: as many words as fit, by the program. -/
import Derived.Test.YtnlnjpdnhdmndaaGreatDoorGC
import Derived.Test.YtnlnjpdnhdmndaaGreatDoorGF
import Derived.OwnWalk
namespace Go.Proofs.YtnlnjpdnhdmndaaGreatDoor
open Go Go.RowKit
set_option linter.unusedVariables false
set_option linter.unusedSimpArgs false

/-- The widest of the first k words, and how wide it is; -1 before the first. -/
def bst (f : Fc) (ws : List (List UInt8)) : Nat → Int × Int
  | 0 => (-1, 0)
  | k + 1 => if (bst f ws k).2 < lineW f (rdW ws k) then ((k : Int), lineW f (rdW ws k)) else bst f ws k
theorem bst_yes {f : Fc} {ws : List (List UInt8)} {k : Nat} (h : (bst f ws k).2 < lineW f (rdW ws k)) : bst f ws (k + 1) = ((k : Int), lineW f (rdW ws k)) := by rw [bst, if_pos h]
theorem bst_no {f : Fc} {ws : List (List UInt8)} {k : Nat} (h : ¬ (bst f ws k).2 < lineW f (rdW ws k)) : bst f ws (k + 1) = bst f ws k := by rw [bst, if_neg h]
theorem word_range {f : Fc} (hf : FcV f) {l : List UInt8} (hl : IsW l) (h60 : l.length ≤ 60) : 1 ≤ lineW f l ∧ lineW f l ≤ 3600 := by
  have := atW_range hf hl.1.ls (Nat.le_refl l.length)
  have := hl.2
  unfold lineW; omega
theorem bst_range {f : Fc} (hf : FcV f) {ws : List (List UInt8)} (hw : ∀ x ∈ ws, IsW x) (h60 : ∀ x ∈ ws, x.length ≤ 60) {k : Nat} (hk : k ≤ ws.length) :
    (k = 0 ∧ bst f ws k = (-1, 0)) ∨ (0 < k ∧ 0 ≤ (bst f ws k).1 ∧ (bst f ws k).1 < (k : Int) ∧ 1 ≤ (bst f ws k).2 ∧ (bst f ws k).2 ≤ 3600) := by
  induction k with
  | zero => exact .inl ⟨rfl, rfl⟩
  | succ k ih =>
    right
    have hr := word_range hf (hw _ (rdW_mem (show k < ws.length by omega))) (h60 _ (rdW_mem (show k < ws.length by omega)))
    by_cases h : (bst f ws k).2 < lineW f (rdW ws k)
    · rw [bst_yes h]; simp; omega
    · rw [bst_no h]
      rcases ih (by omega) with ⟨rfl, e⟩ | ⟨h1, h2, h3, h4, h5⟩
      · rw [e] at h; simp at h; omega
      · push_cast; omega
/-- What WidestWord answers. -/
def widOut (f : Fc) (l : List UInt8) : Int × Int × Int :=
  if validF f && vText l then (if words l = [] then (0, 0, 6) else ((bst f (words l) (words l).length).1, (bst f (words l) (words l).length).2, 0)) else (0, 0, 1)
theorem widOut_no {f : Fc} {l : List UInt8} (h : ¬ (validF f = true ∧ vText l = true)) : widOut f l = (0, 0, 1) := by
  unfold widOut
  rw [if_neg]; simpa using h
theorem widOut_nil {f : Fc} {l : List UInt8} (h : validF f = true) (k : vText l = true) (hw : words l = []) : widOut f l = (0, 0, 6) := by unfold widOut; rw [h, k, hw]; rfl
theorem widOut_ok {f : Fc} {l : List UInt8} (h : validF f = true) (k : vText l = true) (hw : ¬ words l = []) : widOut f l = ((bst f (words l) (words l).length).1, (bst f (words l) (words l).length).2, 0) := by
  unfold widOut; rw [h, k, if_neg hw]; rfl
theorem word_len {l x : List UInt8} (ht : vText l = true) (hx : x ∈ words l) : x.length ≤ 60 := by
  have h60 := (vText_iff.1 ht).2
  have hj := joinW_words l
  obtain ⟨i, hi, rfl⟩ := List.getElem_of_mem hx
  have := joinW_take_length (ws := words l) i 1
  rw [hj] at this
  have e : (List.drop i (words l)).take 1 = [(words l)[i]] := by
    rw [List.drop_eq_getElem_cons hi]; rfl
  rw [e, joinW_one] at this
  omega
end Go.Proofs.YtnlnjpdnhdmndaaGreatDoor
namespace Go.Proofs.YtnlnjpdnhdmndaaGreatDoor
open Go Go.RowKit
set_option linter.unusedVariables false
set_option linter.unusedSimpArgs false

/-- Three numbers. -/
def tripV (p : Int × Int × Int) : Value := .tuple #[.int .i64 p.1, .int .i64 p.2.1, .int .i64 p.2.2]
theorem retT {p q : Int × Int × Int} (h : p = q) : Ending.returned (.tuple #[.int .i64 p.1, .int .i64 p.2.1, .int .i64 p.2.2]) = .returned (tripV q) := by rw [h]; rfl

end Go.Proofs.YtnlnjpdnhdmndaaGreatDoor
namespace Go.Proofs.YtnlnjpdnhdmndaaGreatDoor
open Go Go.RowKit
set_option linter.unusedVariables false
set_option linter.unusedSimpArgs false

theorem wsV_at {ws : List (List UInt8)} {k : Nat} (h : k < ws.length) : (wsV ws)[k]? = some (.string ⟨(rdW ws k).toArray⟩) := by
  unfold wsV rdW
  rw [List.getElem?_map, List.getD, List.getElem?_eq_getElem h]; rfl

end Go.Proofs.YtnlnjpdnhdmndaaGreatDoor
namespace Go.Proofs.YtnlnjpdnhdmndaaGreatDoor
open Go Go.RowKit
set_option linter.unusedVariables false
set_option linter.unusedSimpArgs false

theorem room_spec (m : Int) (w : World) : Calls Tryz.prog 21 #[.int .i64 m] w fun e w' => e = .returned (.bool (inB 0 4000 m)) ∧ w = w' := by
  go_enter Tryz.func21, Tryz.ntmps21
  go_wp2_with (go_at_call 44; refine (inS_any _ _ _ _).mono ?_; rintro e w' ⟨rfl, rfl⟩)
  go_ret
  exact ⟨rfl, rfl⟩

theorem FcAt.space {w : World} {b : Nat} {f : Fc} {n : Nat} (h : FcAt w b f n) (hf : FcT f) : w.cell? ⟨b, 26, none⟩ = some (.int .i8 f.space) := by
  obtain ⟨A, c, hk, _⟩ := h
  exact hk.cell 26 _ (fcV_space hf _)

/-- Words, each of them at most 60 long, 60 at most. -/
structure Ws (ws : List (List UInt8)) : Prop where
  isw : ∀ x ∈ ws, IsW x
  len : ∀ x ∈ ws, x.length ≤ 60
  many : ws.length ≤ 60
theorem ws_words {l : List UInt8} (h : vText l = true) : Ws (words l) := ⟨words_isW h, fun _ hx => word_len h hx, words_count h⟩
theorem Ws.cut {ws : List (List UInt8)} (h : Ws ws) (a b : Nat) : Ws (cutW ws a b) := ⟨fun x hx => h.isw x (cutW_mem hx), fun x hx => h.len x (cutW_mem hx), by
  have := h.many
  unfold cutW; simp; omega⟩
theorem sumW_range {f : Fc} (hf : FcV f) {ws : List (List UInt8)} (hw : Ws ws) {k : Nat} (hk : k ≤ ws.length) : 0 ≤ sumW f ws k ∧ sumW f ws k ≤ 3640 * (k : Int) := by
  induction k with
  | zero => simp [sumW]
  | succ k ih =>
    have h1 := ih (by omega)
    have h2 := word_range hf (hw.isw _ (rdW_mem (show k < ws.length by omega))) (hw.len _ (rdW_mem (show k < ws.length by omega)))
    have h3 := hf.space
    unfold rdW at h2
    rw [sumW]
    push_cast
    split <;> omega
theorem sumW_first (f : Fc) (ws : List (List UInt8)) : sumW f ws (0 + 1) = sumW f ws 0 + lineW f (rdW ws 0) := by
  rw [sumW]; simp [sumW, rdW]
theorem sumW_more (f : Fc) (ws : List (List UInt8)) {k : Nat} (h : 0 < k) : sumW f ws (k + 1) = sumW f ws k + lineW f (rdW ws k) + f.space := by
  rw [sumW, if_neg (by omega)]
  unfold rdW; omega
theorem sumW_at (f : Fc) (ws : List (List UInt8)) (k : Nat) (h : k = 0) : sumW f ws (k + 1) = sumW f ws k + lineW f (rdW ws k) := by subst h; exact sumW_first f ws

set_option maxHeartbeats 1000000 in
set_option maxRecDepth 100000 in
theorem line_spec (f : Fc) (n b0 : Nat) (A : Option Addr) (c : Nat) (ws : List (List UInt8)) (w : World) (hf : FcT f) (hV : FcV f) (hn : f.pairs.length = n) (hm : n ≤ 1048576) (hw : Ws ws) (h : FcAt w b0 f n) (hs : SlE sv w A ws) :
    Calls Tryz.prog 24 #[.pointer (some ⟨b0, 0, none⟩), .slice A ws.length c] w fun e w' => e = .returned (.int .i64 (lineW f (joinW ws))) ∧ Below w.heap.size w w' := by
  have HF := Lib.hid hf
  have HVV := Lib.hid hV
  have HN := Lib.hid hn
  have HA := Lib.hid h
  have HW := Lib.hid hw
  have HSL := Lib.hid hs
  have hcnt := hw.many
  have HJ := Lib.hid (sumW_join f ws (fun x hx => (hw.isw x hx).1))
  clear hf hV hn h hw hs
  go_enter Tryz.func24, Tryz.ntmps24
  go_wp2
  go_loopw [5, 6] (fun v i wr => ∃ k : Nat, k ≤ ws.length ∧ i = .int .i64 k ∧ v = .int .i64 (sumW f ws k) ∧ Below w.heap.size w wr) (fun _ i _ => ws.length - (intOf i).toNat)
  case atStart => exact ⟨0, by omega, rfl, rfl, Below.refl _ _⟩
  case round =>
    obtain ⟨k, hk, rfl, rfl, hbel⟩ := hrel
    by_cases hlt : k < ws.length
    · obtain ⟨a, rfl, hrow⟩ := (HSL.out.next hbel).some k hlt
      have hcell := hrow.atW k hlt
      have hwl := HW.out.len _ (rdW_mem hlt)
      have hsr := sumW_range HVV.out HW.out (Nat.le_of_lt hlt)
      have hlr := word_range HVV.out (HW.out.isw _ (rdW_mem hlt)) hwl
      have HA2 := Lib.hid (HA.out.next hbel)
      have bsp := HVV.out.space
      clear hrow
      by_cases hk0 : k = 0
      · have HY := Lib.hid (sumW_at f ws k hk0)
        have hz : ¬ (0 : Int) < (k : Int) := by omega
        clear hk0
        go_wp2_with (go_at_call 47; refine (wide_spec f n b0 ⟨(rdW ws k).toArray⟩ _ HF.out HVV.out HN.out hm (HW.out.isw _ (rdW_mem hlt)).1 hwl HA2.out).mono ?_; rintro e w3 ⟨he, hb3⟩; rw [bs_mk] at he; subst he; have hbel := below_step hbel hb3; clear hb3)
        go_roundw
        case rel => exact ⟨k + 1, by omega, by go_num, by rw [HY.out], hbel⟩
        case measure => simp [intOf]; omega
      · have HY := Lib.hid (sumW_more f ws (k := k) (by omega))
        have hz : (0 : Int) < (k : Int) := by omega
        clear hk0
        go_wp2_with (go_at_call 47; refine (wide_spec f n b0 ⟨(rdW ws k).toArray⟩ _ HF.out HVV.out HN.out hm (HW.out.isw _ (rdW_mem hlt)).1 hwl HA2.out).mono ?_; rintro e w3 ⟨he, hb3⟩; rw [bs_mk] at he; subst he; have hbel := below_step hbel hb3; have c26 := (HA2.out.next hb3).space HF.out; clear hb3)
        go_roundw
        case rel => exact ⟨k + 1, by omega, by go_num, by rw [HY.out], hbel⟩
        case measure => simp [intOf]; omega
    · obtain rfl : k = ws.length := by omega
      go_wp2
      go_ret
      exact ⟨retI HJ.out, hbel⟩

theorem line_specN (f : Fc) (n b0 : Nat) (A : Option Addr) (c : Nat) (ws : List (List UInt8)) (N : Nat) (w : World) (hf : FcT f) (hV : FcV f) (hn : f.pairs.length = n) (hm : n ≤ 1048576) (hw : Ws ws) (h : FcAt w b0 f n) (hs : SlE sv w A ws) (hN : ws.length = N) :
    Calls Tryz.prog 24 #[.pointer (some ⟨b0, 0, none⟩), .slice A N c] w fun e w' => e = .returned (.int .i64 (lineW f (joinW ws))) ∧ Below w.heap.size w w' := by
  subst hN
  exact line_spec f n b0 A c ws w hf hV hn hm hw h hs

/-! ### A slice of a slice of texts -/
theorem exec_slice0 {o : Oper} {a : Act} {w : World} (x hi : Operand) (ho : o.op = .slice 54 x none (some hi) none) (p : Addr) (n c h : Nat) (hx : a.eval x = .slice (some p) n c) (hh : a.eval hi = .int .i64 (h : Int)) (hc : h ≤ c) (hp : 0 < c) :
    (execOp a.eval o).run Tryz.prog w = .ok (.value (.slice (some p) h c)) w := by
  have hne : ¬ c = 0 := by omega
  have h0 : p.add 0 = p := by simp [Addr.add]
  have hz : (Tryz.prog.info? 9).map (·.size) = some 1 := by kernel_rfl
  cases hq : Tryz.prog.info? 9 with
  | none => rw [hq] at hz; cases hz
  | some i =>
    unfold execOp
    simp [ho, hx, hh, Instr.sliceAt, Instr.slice, Instr.sliceBounds, Instr.sliceBound, asIntOf, Sem.run_bind, run_underlying Tryz.underlying54, hc, hne, sizeOf, typeInfo, hq, h0]
theorem exec_slice2 {o : Oper} {a : Act} {w : World} (x lo hi : Operand) (ho : o.op = .slice 54 x (some lo) (some hi) none) (g n c l h : Nat) (hx : a.eval x = .slice (some ⟨g, 0, none⟩) n c) (hl : a.eval lo = .int .i64 (l : Int)) (hh : a.eval hi = .int .i64 (h : Int)) (hlh : l < h) (hc : h ≤ c) :
    (execOp a.eval o).run Tryz.prog w = .ok (.value (.slice (some ⟨g, l, none⟩) (h - l) (c - l))) w := by
  have hne : ¬ c = l := by omega
  have hle : l ≤ h := by omega
  have h0 : (⟨g, 0, none⟩ : Addr).add l = ⟨g, l, none⟩ := by rw [add_mid, Nat.zero_add]
  have hz : (Tryz.prog.info? 9).map (·.size) = some 1 := by kernel_rfl
  cases hq : Tryz.prog.info? 9 with
  | none => rw [hq] at hz; cases hz
  | some i =>
    have hi : i.size = 1 := by rw [hq] at hz; simpa using hz
    unfold execOp
    simp [ho, hx, hl, hh, Instr.sliceAt, Instr.slice, Instr.sliceBounds, Instr.sliceBound, asIntOf, Sem.run_bind, run_underlying Tryz.underlying54, hc, hle, hne, sizeOf, typeInfo, hq, hi, h0]

/-! ### Lines of the words from one up to another one -/
/-- How wide the words from a up to b are as a line. -/
def lnW (f : Fc) (ws : List (List UInt8)) (a b : Nat) : Int := lineW f (joinW (cutW ws a b))
theorem lnW_range {f : Fc} (hf : FcV f) {ws : List (List UInt8)} (hw : Ws ws) (a b : Nat) : 0 ≤ lnW f ws a b ∧ lnW f ws a b ≤ 218400 := by
  have hc := hw.cut a b
  have h1 := sumW_range hf hc (Nat.le_refl _)
  rw [sumW_join f _ (fun x hx => (hc.isw x hx).1)] at h1
  have := hc.many
  unfold lnW; omega
theorem slE_cut {w : World} {g o : Nat} {ws : List (List UInt8)} (h : SlE sv w (some ⟨g, o, none⟩) ws) (a b : Nat) : SlE sv w (some ⟨g, o + a, none⟩) (cutW ws a b) := by
  intro i x hx
  refine ⟨_, rfl, ?_⟩
  unfold cutW at hx
  rw [List.getElem?_take] at hx
  split at hx
  · rw [List.getElem?_drop] at hx
    obtain ⟨a', he, hc⟩ := h (a + i) x hx
    cases he
    rw [add_mid] at hc ⊢
    rw [show o + a + i = o + (a + i) from by omega]; exact hc
  · cases hx
theorem cutW_zero (ws : List (List UInt8)) (b : Nat) : cutW ws 0 b = ws.take b := by unfold cutW; simp

/-- As many of the first words as fit. -/
def FitAt (f : Fc) (ws : List (List UInt8)) (m : Int) (k : Nat) : Prop := k ≤ ws.length ∧ (∀ j, j < k → lnW f ws 0 (j + 1) ≤ m) ∧ (k < ws.length → m < lnW f ws 0 (k + 1))
theorem FitAt.same {f : Fc} {ws : List (List UInt8)} {m : Int} {k k' : Nat} (h : FitAt f ws m k) (h' : FitAt f ws m k') : k = k' := by
  obtain ⟨a1, a2, a3⟩ := h
  obtain ⟨b1, b2, b3⟩ := h'
  rcases Nat.lt_trichotomy k k' with hh | hh | hh
  · have := b2 k hh
    have := a3 (by omega)
    omega
  · exact hh
  · have := a2 k' hh
    have := b3 (by omega)
    omega
def FitR (f : Fc) (l : List UInt8) (m r c : Int) : Prop := c = askC f l (inB 0 4000 m) ∧ ((¬ c = 0 ∧ r = 0) ∨ (c = 0 ∧ ∃ k : Nat, r = (k : Int) ∧ FitAt f (words l) m k))
theorem FitR.same {f : Fc} {l : List UInt8} {m r c r' c' : Int} (h : FitR f l m r c) (h' : FitR f l m r' c') : r' = r ∧ c' = c := by
  obtain ⟨a1, a2⟩ := h
  obtain ⟨b1, b2⟩ := h'
  refine ⟨?_, by rw [a1, b1]⟩
  rcases a2 with ⟨a2, a3⟩ | ⟨a2, k, a3, a4⟩
  · rcases b2 with ⟨b2, b3⟩ | ⟨b2, k', b3, b4⟩
    · omega
    · omega
  · rcases b2 with ⟨b2, b3⟩ | ⟨b2, k', b3, b4⟩
    · omega
    · rw [a3, b3, a4.same b4]
def AllFit (f : Fc) (ws : List (List UInt8)) (m : Int) (k : Nat) : Prop := ∀ j, j < k → lnW f ws 0 (j + 1) ≤ m
theorem allFit_succ {f : Fc} {ws : List (List UInt8)} {m : Int} {k : Nat} (h : AllFit f ws m k) (hk : lnW f ws 0 (k + 1) ≤ m) : AllFit f ws m (k + 1) := fun j hj => by
  rcases Nat.lt_succ_iff_lt_or_eq.1 hj with h1 | rfl
  · exact h j h1
  · exact hk
end Go.Proofs.YtnlnjpdnhdmndaaGreatDoor
namespace Go.Proofs.YtnlnjpdnhdmndaaGreatDoor
open Go Go.RowKit
set_option linter.unusedVariables false
set_option linter.unusedSimpArgs false

/-- As many words as fit, and a code. -/
def FitOut (f : Fc) (l : List UInt8) (m : Int) (w : World) (e : Ending) (w' : World) : Prop := ∃ r cd, e = .returned (.tuple #[.int .i64 r, .int .i64 cd]) ∧ FitR f l m r cd ∧ Below w.heap.size w w'

end Go.Proofs.YtnlnjpdnhdmndaaGreatDoor
namespace Go.Proofs.YtnlnjpdnhdmndaaGreatDoor
open Go Go.RowKit
set_option linter.unusedVariables false
set_option linter.unusedSimpArgs false

theorem line_ls {ws : List (List UInt8)} (h : Ws ws) : LS (joinW ws) := joinW_ls h.isw
/-- The words of a text that is short enough. -/
theorem cut_len {l : List UInt8} (h : vText l = true) (a b : Nat) : (joinW (cutW (words l) a b)).length ≤ 60 := Nat.le_trans (joinW_cut l a b) (vText_iff.1 h).2

end Go.Proofs.YtnlnjpdnhdmndaaGreatDoor
