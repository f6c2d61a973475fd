/- Lines broken greedily, plain. No walk here. Contracts: greedy breaks, by the reference. Contracts: greedy breaks and how many lines at least, by the reference. Contracts: lines of a setter, and what is left in them, by the program. Contracts: greedy breaks of a setter, by the program. Contracts: a setter is made, by the program. Contracts: greedy breaks and how many lines at least, by the program; how many lines at least, by the reference. -/
import Derived.Test.YtnlnjpdnhdmndaaGreatDoorGG
import Derived.Test.YtnlnjpdnhdmndaaGreatDoorGC
import Derived.Test.YtnlnjpdnhdmndaaGreatDoorHelS
namespace Go.Proofs.YtnlnjpdnhdmndaaGreatDoor
open Go Go.RowKit
set_option linter.unusedVariables false
set_option linter.unusedSimpArgs false

/-- The breaks among the first k words, and where the open line begins. -/
def grd (f : Fc) (ws : List (List UInt8)) (m : Int) : Nat → List Int × Nat
  | 0 => ([], 0)
  | k + 1 => if m < lnW f ws (grd f ws m k).2 (k + 1) then ((grd f ws m k).1 ++ [(k : Int)], k) else grd f ws m k
theorem grd_yes {f : Fc} {ws : List (List UInt8)} {m : Int} {k : Nat} (h : m < lnW f ws (grd f ws m k).2 (k + 1)) : grd f ws m (k + 1) = ((grd f ws m k).1 ++ [(k : Int)], k) := by rw [grd, if_pos h]
theorem grd_no {f : Fc} {ws : List (List UInt8)} {m : Int} {k : Nat} (h : ¬ m < lnW f ws (grd f ws m k).2 (k + 1)) : grd f ws m (k + 1) = grd f ws m k := by rw [grd, if_neg h]
theorem grd_range (f : Fc) (ws : List (List UInt8)) (m : Int) (k : Nat) : (grd f ws m k).2 ≤ k ∧ (grd f ws m k).1.length ≤ k := by
  induction k with
  | zero => exact ⟨Nat.le_refl _, Nat.le_refl _⟩
  | succ k ih =>
    by_cases h : m < lnW f ws (grd f ws m k).2 (k + 1)
    · rw [grd_yes h]; simp; omega
    · rw [grd_no h]; omega
/-- Each word fits. -/
def FitsN (f : Fc) (ws : List (List UInt8)) (m : Int) (k : Nat) : Prop := ∀ j, j < k → lnW f ws j (j + 1) ≤ m
instance (f : Fc) (ws : List (List UInt8)) (m : Int) (k : Nat) : Decidable (FitsN f ws m k) := by unfold FitsN; infer_instance
def fits (f : Fc) (ws : List (List UInt8)) (m : Int) : Bool := decide (FitsN f ws m ws.length)
theorem fitsN_zero (f : Fc) (ws : List (List UInt8)) (m : Int) : FitsN f ws m 0 := fun j hj => by omega
theorem fitsN_succ {f : Fc} {ws : List (List UInt8)} {m : Int} {k : Nat} (h : FitsN f ws m k) (hk : lnW f ws k (k + 1) ≤ m) : FitsN f ws m (k + 1) := fun j hj => by
  rcases Nat.lt_succ_iff_lt_or_eq.1 hj with h1 | rfl
  · exact h j h1
  · exact hk
theorem fits_all {f : Fc} {ws : List (List UInt8)} {m : Int} (h : FitsN f ws m ws.length) : fits f ws m = true := decide_eq_true h
theorem fits_bad {f : Fc} {ws : List (List UInt8)} {m : Int} {k : Nat} (hk : k < ws.length) (h : ¬ lnW f ws k (k + 1) ≤ m) : fits f ws m = false := decide_eq_false fun hh => h (hh k hk)
theorem cutW_one {ws : List (List UInt8)} {k : Nat} (h : k < ws.length) : cutW ws k (k + 1) = [rdW ws k] := by
  unfold cutW rdW
  rw [List.drop_eq_getElem_cons h, Nat.add_sub_cancel_left, List.getD, List.getElem?_eq_getElem h]; rfl
theorem lnW_one {f : Fc} {ws : List (List UInt8)} {k : Nat} (h : k < ws.length) : lnW f ws k (k + 1) = lineW f (rdW ws k) := by
  unfold lnW; rw [cutW_one h, joinW_one]
/-- The first word fits, or there is none. -/
theorem grd_first {f : Fc} {ws : List (List UInt8)} {m : Int} (h0 : 0 ≤ m) (h : fits f ws m = true) : grd f ws m 1 = ([], 0) := by
  refine (grd_no (k := 0) ?_).trans rfl
  show ¬ m < lnW f ws 0 1
  have hh : FitsN f ws m ws.length := of_decide_eq_true h
  by_cases hl : 0 < ws.length
  · have h1 : lnW f ws 0 1 ≤ m := hh 0 hl
    omega
  · have e : ws = [] := List.eq_nil_of_length_eq_zero (by omega)
    subst e
    have : lnW f [] 0 1 = 0 := rfl
    omega
/-- What GreedyBreaks answers. -/
def brkOut (f : Fc) (l : List UInt8) (m : Int) : List Int × Int :=
  if askC f l (inB 0 4000 m) = 0 then (if fits f (words l) m then ((grd f (words l) m (words l).length).1, 0) else ([], 6)) else ([], askC f l (inB 0 4000 m))
theorem brkOut_no {f : Fc} {l : List UInt8} {m : Int} (h : ¬ askC f l (inB 0 4000 m) = 0) : brkOut f l m = ([], askC f l (inB 0 4000 m)) := by unfold brkOut; rw [if_neg h]
theorem brkOut_bad {f : Fc} {l : List UInt8} {m : Int} (h : askC f l (inB 0 4000 m) = 0) (k : fits f (words l) m = false) : brkOut f l m = ([], 6) := by unfold brkOut; rw [if_pos h, k]; rfl
theorem brkOut_ok {f : Fc} {l : List UInt8} {m : Int} (h : askC f l (inB 0 4000 m) = 0) (k : fits f (words l) m = true) : brkOut f l m = ((grd f (words l) m (words l).length).1, 0) := by unfold brkOut; rw [if_pos h, k]; rfl
theorem brkOut_len (f : Fc) (l : List UInt8) (m : Int) (ht : (words l).length ≤ 60 ∨ ¬ askC f l (inB 0 4000 m) = 0) : (brkOut f l m).1.length ≤ 60 := by
  by_cases h : askC f l (inB 0 4000 m) = 0
  · cases k : fits f (words l) m
    · rw [brkOut_bad h k]; exact Nat.zero_le _
    · rw [brkOut_ok h k]
      have := (grd_range f (words l) m (words l).length).2
      rcases ht with ht | ht
      · exact Nat.le_trans this ht
      · exact absurd h ht
  · rw [brkOut_no h]; exact Nat.zero_le _
theorem brkOut_many (f : Fc) (l : List UInt8) (m : Int) : (brkOut f l m).1.length ≤ 60 := by
  by_cases h : askC f l (inB 0 4000 m) = 0
  · exact brkOut_len f l m (.inl (words_count (askC_zero h).2.1))
  · exact brkOut_len f l m (.inr h)
end Go.Proofs.YtnlnjpdnhdmndaaGreatDoor
namespace Go.Proofs.YtnlnjpdnhdmndaaGreatDoor
open Go Go.RowKit
set_option linter.unusedVariables false
set_option linter.unusedSimpArgs false

structure GrRel (f : Fc) (ws : List (List UInt8)) (m : Int) (W0 wr : World) (v : Value) (k : Nat) : Prop where
  own : wr.ownsRow W0.heap.size 2 1 v (grd f ws m k).1.length ((grd f ws m k).1.map i64)
  below : Below W0.heap.size W0 wr
/-- A list of numbers in memory of the call's own. -/
def NsOut (w : World) (xs : List Int) (e : Ending) (w' : World) : Prop := ∃ A c, e = .returned (.slice A xs.length c) ∧ Below w.heap.size w w' ∧ OwnS w' w.heap.size w'.heap.size A xs

end Go.Proofs.YtnlnjpdnhdmndaaGreatDoor
namespace Go.Proofs.YtnlnjpdnhdmndaaGreatDoor
open Go Go.RowKit
set_option linter.unusedVariables false
set_option linter.unusedSimpArgs false

/-- The code of a face, a text and a width in which each word has to fit. -/
def fndC (f : Fc) (l : List UInt8) (m : Int) : Int := if askC f l (inB 0 4000 m) = 0 then (if fits f (words l) m then 0 else 6) else askC f l (inB 0 4000 m)
theorem fndC_no {f : Fc} {l : List UInt8} {m : Int} (h : ¬ askC f l (inB 0 4000 m) = 0) : fndC f l m = askC f l (inB 0 4000 m) := by unfold fndC; rw [if_neg h]
theorem fndC_bad {f : Fc} {l : List UInt8} {m : Int} (h : askC f l (inB 0 4000 m) = 0) (k : fits f (words l) m = false) : fndC f l m = 6 := by unfold fndC; rw [if_pos h, k]; rfl
theorem fndC_ok {f : Fc} {l : List UInt8} {m : Int} (h : askC f l (inB 0 4000 m) = 0) (k : fits f (words l) m = true) : fndC f l m = 0 := by unfold fndC; rw [if_pos h, k]; rfl
theorem brk_code (f : Fc) (l : List UInt8) (m : Int) : (brkOut f l m).2 = fndC f l m := by
  by_cases h : askC f l (inB 0 4000 m) = 0
  · cases k : fits f (words l) m
    · rw [brkOut_bad h k, fndC_bad h k]
    · rw [brkOut_ok h k, fndC_ok h k]
  · rw [brkOut_no h, fndC_no h]
theorem fndC_zero {f : Fc} {l : List UInt8} {m : Int} (h : fndC f l m = 0) : validF f = true ∧ vText l = true ∧ 0 ≤ m ∧ m ≤ 4000 ∧ fits f (words l) m = true := by
  unfold fndC at h
  split at h
  · rename_i h0
    split at h
    · rename_i h1
      obtain ⟨a, b, c⟩ := askC_zero h0
      have := inB_iff.1 c
      exact ⟨a, b, this.1, this.2, h1⟩
    · omega
  · rename_i h0; exact absurd h h0

end Go.Proofs.YtnlnjpdnhdmndaaGreatDoor
namespace Go.Proofs.YtnlnjpdnhdmndaaGreatDoor
open Go Go.RowKit
set_option linter.unusedVariables false
set_option linter.unusedSimpArgs false

/-- The cells of a setter: face, words, width. -/
def stV (f : Fc) (S W : Value) (m : Int) : List Value := fcV f S ++ [W, .int .i64 m]
theorem stV_length {f : Fc} (h : FcT f) (S W : Value) (m : Int) : (stV f S W m).length = 31 := by simp [stV, fcV_length h]
theorem stV_words {f : Fc} (h : FcT f) (S W : Value) (m : Int) : (stV f S W m)[29]? = some W := by
  unfold stV; rw [List.getElem?_append_right (by rw [fcV_length h]; omega), fcV_length h]; rfl
theorem stV_wide {f : Fc} (h : FcT f) (S W : Value) (m : Int) : (stV f S W m)[30]? = some (.int .i64 m) := by
  unfold stV; rw [List.getElem?_append_right (by rw [fcV_length h]; omega), fcV_length h]; rfl
theorem stV_face {f : Fc} (h : FcT f) (S W : Value) (m : Int) : ((stV f S W m).drop 0).take 29 = fcV f S := by
  unfold stV; rw [List.drop_zero, ← fcV_length h S, List.take_left]
theorem szStI : (Tryz.prog.info? 65).map (·.size) = some 31 := by kernel_rfl
/-- A row of words in a block. -/
def wS (g : Nat) (ws : List (List UInt8)) : Value := .slice (some ⟨g, 0, none⟩) ws.length ws.length

end Go.Proofs.YtnlnjpdnhdmndaaGreatDoor
namespace Go.Proofs.YtnlnjpdnhdmndaaGreatDoor
open Go Go.RowKit
set_option linter.unusedVariables false
set_option linter.unusedSimpArgs false

/-- Breaks, and whether all words fit. -/
def GrOut (f : Fc) (ws : List (List UInt8)) (m : Int) (w : World) (e : Ending) (w' : World) : Prop :=
  ∃ A n c, e = .returned (.tuple #[.slice A n c, .bool (fits f ws m)]) ∧ Below w.heap.size w w' ∧ (fits f ws m = true → n = (grd f ws m ws.length).1.length ∧ OwnS w' w.heap.size w'.heap.size A (grd f ws m ws.length).1) ∧ (fits f ws m = false → A = none ∧ n = 0)

end Go.Proofs.YtnlnjpdnhdmndaaGreatDoor
namespace Go.Proofs.YtnlnjpdnhdmndaaGreatDoor
open Go Go.RowKit
set_option linter.unusedVariables false
set_option linter.unusedSimpArgs false

theorem list26 (l : List Int) (h : l.length = 26) : ∃ a b c d e f g h i j k m n o p q r s t u v w x y z z2, l = [a, b, c, d, e, f, g, h, i, j, k, m, n, o, p, q, r, s, t, u, v, w, x, y, z, z2] := by
  match l, h with
  | [a, b, c, d, e, f, g, h, i, j, k, m, n, o, p, q, r, s, t, u, v, w, x, y, z, z2], _ => exact ⟨_, _, _, _, _, _, _, _, _, _, _, _, _, _, _, _, _, _, _, _, _, _, _, _, _, _, rfl⟩
theorem built_setter {f : Fc} (hf : FcT f) (A : Option Addr) (n c : Nat) (W : Option Addr) (i j : Nat) (m : Int) : Tryz.prog.built 65 [(0, .agg (fcV f (.slice A n c)).toArray), (1, .slice W i j), (2, .int .i64 m)] = some (stV f (.slice A n c) (.slice W i j) m).toArray := by
  obtain ⟨wide, sp, gp, ps⟩ := f
  obtain ⟨a1, a2, a3, a4, a5, a6, a7, a8, a9, a10, a11, a12, a13, a14, a15, a16, a17, a18, a19, a20, a21, a22, a23, a24, a25, a26, rfl⟩ := list26 wide hf.len
  kernel_rfl
/-- No face. -/
def zF : Fc := ⟨List.replicate 26 0, 0, 0, []⟩
def zSt : List Value := stV zF (.slice none 0 0) (.slice none 0 0) 0
theorem one_st (f : Fc) (A : Option Addr) (n c : Nat) (W : Option Addr) (i j : Nat) (m : Int) : (stV f (.slice A n c) (.slice W i j) m).toArray.all (·.oneCell') = true := by
  have h := one_fc f A n c
  rw [List.all_toArray] at h ⊢
  unfold stV
  rw [List.all_append, h]
  rfl

/-- A setter of a text, or a code. -/
def StOut (f : Fc) (A : Option Addr) (n c : Nat) (l : List UInt8) (m : Int) (w : World) (e : Ending) (w' : World) : Prop :=
  Below w.heap.size w w' ∧ ((¬ askC f l (inB 0 4000 m) = 0 ∧ e = .returned (.tuple #[.agg zSt.toArray, .int .i64 (askC f l (inB 0 4000 m))])) ∨
    (askC f l (inB 0 4000 m) = 0 ∧ ∃ g, e = .returned (.tuple #[.agg (stV f (.slice A n c) (wS g (words l)) m).toArray, .int .i64 0]) ∧ w.heap.size ≤ g ∧ Blk w' g 9 (wsV (words l))))

attribute [local irreducible] wpAnyH in
set_option maxHeartbeats 2000000 in
set_option maxRecDepth 100000 in
theorem setterOf_impl (f : Fc) (A : Option Addr) (n c : Nat) (s : ByteArray) (m : Int) (w : World) (hf : FcT f) (hn : f.pairs.length = n) (hm : n ≤ 1048576) (hs : s.size ≤ 1048576) (h : SlP w A f.pairs) (hmx : MaxW w) (hsp : SpT w) :
    Calls Tryz.prog 30 #[.agg (fcV f (.slice A n c)).toArray, .string s, .int .i64 m] w (StOut f A n c (bs s) m w) := by
  have hB := below_two w (.cells (fcV f (.slice A n c)).toArray 35) (.cells zSt.toArray 65)
  have hk := (Blk.new w 35 (fcV f (.slice A n c))).alloc (.cells zSt.toArray 65)
  have hz : Blk ((w.alloc (.cells (fcV f (.slice A n c)).toArray 35)).alloc (.cells zSt.toArray 65)) (w.heap.size + 1) 65 zSt := Blk.at_new _ _ _ (by simp) _ _ rfl
  have HS := Lib.hid (h.next hB)
  have HM := Lib.hid (hmx.next hB)
  have HP := Lib.hid (hsp.next hB)
  have HF := Lib.hid hf
  have HN := Lib.hid hn
  have hsz : (fcV f (.slice A n c)).toArray.size = 29 := by simp [fcV_length hf]
  have HZ := Lib.hid (show (Tryz.prog.info? 35).map (·.size) = some (fcV f (.slice A n c)).toArray.size by rw [hsz]; exact szFcI)
  clear hn h hmx hsp hsz hf
  obtain ⟨cd, hcd⟩ : ∃ cd, cd = askC f (bs s) (inB 0 4000 m) := ⟨_, rfl⟩
  have HC := Lib.hid hcd
  by_cases h0 : cd = 0
  · obtain ⟨hv, ht, hinn⟩ := askC_zero (hcd.symm.trans h0)
    clear hinn
    have HT := Lib.hid ht
    subst h0
    clear hv ht hcd
    go_enter Tryz.func30, Tryz.ntmps30
    go_wp2_with (first
      | (refine wpList_load_row rfl 35 (.tmp 3) rfl _ rfl 35 (fcV f (.slice A n c)).toArray _ _ hk Tryz.underlying35 rfl HZ.out ?_)
      | (go_at_call 49; refine (wideCode_any f A n c s m _ HF.out HN.out hm hs HS.out HM.out).mono ?_; rintro e w1 ⟨he, hb⟩; rw [← HC.out] at he; subst he; have hb1 := hb; clear hb))
    have hk1 := hk.next hb1
    have hz1 := hz.next hb1
    have HP1 := Lib.hid (HP.out.next hb1)
    have hB1 := below_step hB hb1
    have hw2 : w.heap.size + 1 < w1.heap.size := hz1.lt
    clear hk hz HP HS HM hb1
    refine held_begin (w.heap.size + 1) (by kernel_rfl) ?_
    have hS := below_drewN (Below.refl (w.heap.size + 1) w1) 1
    refine held_take 0 (.agg (fcV f (.slice A n c)).toArray) rfl (by kernel_rfl) (by kernel_rfl) (by kernel_rfl) (fun _ _ _ h => h) (by kernel_rfl) (fun w' hw' => exec_load_row 35 (.tmp 3) rfl (w.heap.size) (by kernel_rfl) 35 (fcV f (.slice A n c)).toArray _ _ (hk1.below hw' (Nat.lt_succ_self _)) Tryz.underlying35 rfl (HZ.out)) hS ?_
    refine held_take 1 (.string s) rfl (by kernel_rfl) (by kernel_rfl) (by kernel_rfl) (fun _ _ _ h => h) (by kernel_rfl) (fun w' hw' => by kernel_rfl) hS ?_
    refine held_take 3 (.int .i64 m) rfl (by kernel_rfl) (by kernel_rfl) (by kernel_rfl) (fun _ _ _ h => h) (by kernel_rfl) (fun w' hw' => by kernel_rfl) hS ?_
    refine held_call 2 50 #[.string s] rfl (by kernel_rfl) (by kernel_rfl) (by kernel_rfl) ?_
    refine (fields_impl s (w1.drewN 1) HT.out HP1.out).mono ?_
    rintro e w1 ⟨rfl, rfl⟩
    have hS := hS.alloc (by show w.heap.size + 1 ≤ w1.heap.size; omega) (.cells (wsV (words (bs s))).toArray 9)
    refine ⟨_, rfl, hS, ?_⟩
    have hz2 := (hz1.drewN 1).alloc (.cells (wsV (words (bs s))).toArray 9)
    have hg2 := Blk.new (w1.drewN 1) 9 (wsV (words (bs s)))
    generalize (w1.drewN 1).alloc (.cells (wsV (words (bs s))).toArray 9) = W2 at *
    refine held_take 4 (.agg (stV f (.slice A n c) (wS w1.heap.size (words (bs s))) m).toArray) rfl (by kernel_rfl) (by kernel_rfl) (by kernel_rfl) (fun _ _ _ h => h) (by kernel_rfl) (fun w' hw' => exec_build 65 _ rfl _ ((show _ = Tryz.prog.built 65 [(0, .agg (fcV f (.slice A n c)).toArray), (1, wS w1.heap.size (words (bs s))), (2, .int .i64 m)] by kernel_rfl).trans (built_setter HF.out _ _ _ _ _ _ _))) hS ?_
    refine held_skip 5 (W2.setRow (w.heap.size + 1) (stV f (.slice A n c) (wS w1.heap.size (words (bs s))) m).toArray) rfl (by kernel_rfl) (by kernel_rfl) (exec_store_row 65 (.tmp 6) (.tmp 21) rfl (w.heap.size + 1) _ (by kernel_rfl) (by kernel_rfl) 65 zSt.toArray hz2 (by rw [List.size_toArray, stV_length HF.out]; exact szStI) (by rw [List.size_toArray, List.size_toArray, stV_length HF.out]; rfl) (one_st _ _ _ _ _ _ _ _)) (below_setRow hS _ _ (Nat.le_refl _)) ?_
    have hS3 := below_setRow hS (w.heap.size + 1) (stV f (.slice A n c) (wS w1.heap.size (words (bs s))) m).toArray (Nat.le_refl _)
    have hS := hS3
    refine held_take 6 (.int .i64 0) rfl (by kernel_rfl) (by kernel_rfl) (by kernel_rfl) (fun _ _ _ h => h) (by kernel_rfl) (fun w' hw' => by kernel_rfl) hS ?_
    refine held_done (by kernel_rfl) ?_
    simp only [Act.put, List.setIfInBounds_toArray, List.set_cons_succ, List.set_cons_zero]
    simp only [List.getElem_toArray, List.getElem_cons_succ, List.getElem_cons_zero, Act.put, List.setIfInBounds_toArray, List.set_cons_succ, List.set_cons_zero]
    go_wp2_with fail
    exact bodyPost_ret (v := .tuple #[.agg (stV f (.slice A n c) (wS w1.heap.size (words (bs s))) m).toArray, .int .i64 0]) (results_row_tmp rfl _ _ _ 65 (stV f (.slice A n c) (wS w1.heap.size (words (bs s))) m).toArray _ _ _ rfl rfl (hz2.setRow_same _) Tryz.underlying65 rfl (by rw [List.size_toArray, stV_length HF.out]; exact szStI)) rfl
      ⟨hB1.trans (hS3.mono (by omega)), .inr ⟨HC.out.symm, w1.heap.size, rfl, by omega, hg2.setRow_other _ (by show w1.heap.size ≠ _; omega)⟩⟩
  · clear hcd
    go_enter Tryz.func30, Tryz.ntmps30
    go_wp2_with (first
      | (refine wpList_load_row rfl 35 (.tmp 3) rfl _ rfl 35 (fcV f (.slice A n c)).toArray _ _ hk Tryz.underlying35 rfl HZ.out ?_)
      | (go_at_call 49; refine (wideCode_any f A n c s m _ HF.out HN.out hm hs HS.out HM.out).mono ?_; rintro e w1 ⟨he, hb⟩; rw [← HC.out] at he; subst he; have hz1 := hz.next hb; have hB1 := below_step hB hb; clear hb)
      | (refine wpList_store_row rfl 65 (.tmp 6) (.tmp 15) rfl _ zSt.toArray rfl rfl 65 _ hz1 szStI rfl (one_st _ _ _ _ _ _ _ _) ?_))
    exact bodyPost_ret (v := .tuple #[.agg zSt.toArray, .int .i64 cd]) (results_row_tmp rfl _ _ _ 65 zSt.toArray _ _ _ rfl rfl (hz1.setRow_same zSt) Tryz.underlying65 rfl szStI) rfl ⟨below_setRow hB1 _ _ (by omega), .inl ⟨by rw [← HC.out]; exact h0, by rw [← HC.out]⟩⟩
end Go.Proofs.YtnlnjpdnhdmndaaGreatDoor
namespace Go.Proofs.YtnlnjpdnhdmndaaGreatDoor
open Go Go.RowKit
set_option linter.unusedVariables false
set_option linter.unusedSimpArgs false

theorem stSz {f : Fc} (hf : FcT f) (S W : Value) (m : Int) : (Tryz.prog.info? 65).map (·.size) = some (stV f S W m).toArray.size := by rw [List.size_toArray, stV_length hf]; exact szStI
theorem stOld {f : Fc} (hf : FcT f) (S W : Value) (m : Int) : (31 : Nat) = (stV f S W m).toArray.size := by rw [List.size_toArray, stV_length hf]
theorem ownS_lo {w : World} {lo lo' hi : Nat} {A : Option Addr} {xs : List Int} (h : OwnS w lo' hi A xs) (hl : lo ≤ lo') : OwnS w lo hi A xs := fun hn => by
  obtain ⟨g, cs, e, h1, h2, h3⟩ := h hn
  exact ⟨g, cs, e, Nat.le_trans hl h1, h2, h3⟩

/-- How many lines at least, and a code. -/
def fewOut (f : Fc) (l : List UInt8) (m : Int) : Int × Int := if (brkOut f l m).2 = 0 then (((brkOut f l m).1.length : Int) + 1, 0) else (0, (brkOut f l m).2)
theorem fewOut_no {f : Fc} {l : List UInt8} {m : Int} (h : ¬ (brkOut f l m).2 = 0) : fewOut f l m = (0, (brkOut f l m).2) := by unfold fewOut; rw [if_neg h]
theorem fewOut_ok {f : Fc} {l : List UInt8} {m : Int} (h : (brkOut f l m).2 = 0) : fewOut f l m = (((brkOut f l m).1.length : Int) + 1, 0) := by unfold fewOut; rw [if_pos h]
theorem retP {p q : Int × Int} (h : p = q) : Ending.returned (.tuple #[.int .i64 p.1, .int .i64 p.2]) = .returned (.tuple #[.int .i64 q.1, .int .i64 q.2]) := by rw [h]
end Go.Proofs.YtnlnjpdnhdmndaaGreatDoor
