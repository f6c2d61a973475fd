/- Contracts: a setter is made, by the program. -/
import Derived.Test.YtjgflkoefimmoaaDoorGrI
import Derived.Test.YtjgflkoefimmoaaDoorFcE
namespace Go.Proofs.YtjgflkoefimmoaaDoor
open Go Go.RowKit
set_option linter.unusedVariables false
set_option linter.unusedSimpArgs false

section
variable {P : Program} {ops : Array Oper} {Q : Exit → Act → World → Prop} {a : Act} {w W : World} {B : Nat}
theorem held_skip {fuel : Nat} {listed : Array Bool} {oi : Oper} (i : Nat) (w1 : World) (hi : ops[i]? = some oi) (hr : Region.ready .any ops listed = [i]) (hw : Region.wanted oi (yielded ops a.tmps) = true)
    (he : (execOp a.eval oi).run P w = .ok .skip w1) (hS : Below B W w1)
    (h : wpAnyH P .any ops Q (fun w' => Below B W w') fuel (listed.setIfInBounds i true) (a.put oi.dst undef) w1) : wpAnyH P .any ops Q (fun w' => Below B W w') (fuel + 1) listed a w := by
  refine wpAnyH_all hr (by simp) fun j hj => ?_
  obtain rfl := List.mem_singleton.1 hj
  refine wpOp_step hi fun K' hK => ?_
  rw [if_pos hw]
  unfold Oper.wp
  rw [he, Oper.upon_skip]
  exact hK _ _ ⟨hS, h⟩
theorem exec_store_row {o : Oper} (ty : TypeId) (x y : Operand) (ho : o.op = .store ty x y) (g : Nat) (cells : Array Value) (hx : a.eval x = .pointer (some ⟨g, 0, none⟩)) (hy : a.eval y = .agg cells)
    (t : TypeId) (old : Array Value) (hg : w.heap[g]? = some (.cells old t (0, 0))) (hi : (P.info? ty).map (·.size) = some cells.size) (hold : old.size = cells.size) (h1 : cells.all (·.oneCell') = true) :
    (execOp a.eval o).run P w = .ok .skip (w.setRow g cells) := by
  unfold execOp
  simp only [ho, hx, hy, Instr.storeAt, Instr.sureAddr, Sem.run_bind, Sem.run_pure, Result.andThen_ok, run_storeVar_row w g t ty old cells hg hi hold h1]
theorem exec_build {o : Oper} (t : TypeId) (parts : Array (Nat × Operand)) (ho : o.op = .build t parts) (cells : Array Value) (hc : P.built t (parts.map fun (i, x) => (i, a.eval x)).toList = some cells) :
    (execOp a.eval o).run P w = .ok (.value (.agg cells)) w := by
  unfold execOp
  simp only [ho, Sem.run_bind, run_build w t _ cells hc, Result.andThen_ok, Sem.run_pure]
end
theorem list26 (l : List Int) (h : l.length = 26) : ∃ a b c d e f g h i j k m n o p q r s t u v w x y z z2, l = [a, b, c, d, e, f, g, h, i, j, k, m, n, o, p, q, r, s, t, u, v, w, x, y, z, z2] := by
  match l, h with
  | [a, b, c, d, e, f, g, h, i, j, k, m, n, o, p, q, r, s, t, u, v, w, x, y, z, z2], _ => exact ⟨_, _, _, _, _, _, _, _, _, _, _, _, _, _, _, _, _, _, _, _, _, _, _, _, _, _, rfl⟩
theorem built_setter {f : Fc} (hf : FcT f) (A : Option Addr) (n c : Nat) (W : Option Addr) (i j : Nat) (m : Int) : Tryd.prog.built 77 [(0, .agg (fcV f (.slice A n c)).toArray), (1, .slice W i j), (2, .int .i64 m)] = some (stV f (.slice A n c) (.slice W i j) m).toArray := by
  obtain ⟨wide, sp, gp, ps⟩ := f
  obtain ⟨a1, a2, a3, a4, a5, a6, a7, a8, a9, a10, a11, a12, a13, a14, a15, a16, a17, a18, a19, a20, a21, a22, a23, a24, a25, a26, rfl⟩ := list26 wide hf.len
  kernel_rfl
/-- No face. -/
def zF : Fc := ⟨List.replicate 26 0, 0, 0, []⟩
def zSt : List Value := stV zF (.slice none 0 0) (.slice none 0 0) 0
theorem one_st (f : Fc) (A : Option Addr) (n c : Nat) (W : Option Addr) (i j : Nat) (m : Int) : (stV f (.slice A n c) (.slice W i j) m).toArray.all (·.oneCell') = true := by
  have h := one_fc f A n c
  rw [List.all_toArray] at h ⊢
  unfold stV
  rw [List.all_append, h]
  rfl

/-- A setter of a text, or a code. -/
def StOut (f : Fc) (A : Option Addr) (n c : Nat) (l : List UInt8) (m : Int) (w : World) (e : Ending) (w' : World) : Prop :=
  Below w.heap.size w w' ∧ ((¬ askC f l (inB 0 4000 m) = 0 ∧ e = .returned (.tuple #[.agg zSt.toArray, .int .i64 (askC f l (inB 0 4000 m))])) ∨
    (askC f l (inB 0 4000 m) = 0 ∧ ∃ g, e = .returned (.tuple #[.agg (stV f (.slice A n c) (wS g (words l)) m).toArray, .int .i64 0]) ∧ w.heap.size ≤ g ∧ Blk w' g 9 (wsV (words l))))

attribute [local irreducible] wpAnyH in
set_option maxHeartbeats 2000000 in
set_option maxRecDepth 100000 in
theorem setterOf_impl (f : Fc) (A : Option Addr) (n c : Nat) (s : ByteArray) (m : Int) (w : World) (hf : FcT f) (hn : f.pairs.length = n) (hm : n ≤ 1048576) (hs : s.size ≤ 1048576) (h : SlP w A f.pairs) (hmx : MaxW w) (hsp : SpT w) :
    Calls Tryd.prog 64 #[.agg (fcV f (.slice A n c)).toArray, .string s, .int .i64 m] w (StOut f A n c (bs s) m w) := by
  have hB := below_two w (.cells (fcV f (.slice A n c)).toArray 33) (.cells zSt.toArray 77)
  have hk := (Blk.new w 33 (fcV f (.slice A n c))).alloc (.cells zSt.toArray 77)
  have hz : Blk ((w.alloc (.cells (fcV f (.slice A n c)).toArray 33)).alloc (.cells zSt.toArray 77)) (w.heap.size + 1) 77 zSt := Blk.at_new _ _ _ (by simp) _ _ rfl
  have HS := Lib.hid (h.next hB)
  have HM := Lib.hid (hmx.next hB)
  have HP := Lib.hid (hsp.next hB)
  have HF := Lib.hid hf
  have HN := Lib.hid hn
  have hsz : (fcV f (.slice A n c)).toArray.size = 29 := by simp [fcV_length hf]
  have HZ := Lib.hid (show (Tryd.prog.info? 33).map (·.size) = some (fcV f (.slice A n c)).toArray.size by rw [hsz]; exact szFcI)
  clear hn h hmx hsp hsz hf
  obtain ⟨cd, hcd⟩ : ∃ cd, cd = askC f (bs s) (inB 0 4000 m) := ⟨_, rfl⟩
  have HC := Lib.hid hcd
  by_cases h0 : cd = 0
  · obtain ⟨hv, ht, hinn⟩ := askC_zero (hcd.symm.trans h0)
    clear hinn
    have HT := Lib.hid ht
    subst h0
    clear hv ht hcd
    go_enter Tryd.func64, Tryd.ntmps64
    go_wp2_with (first
      | (refine wpList_load_row rfl 33 (.tmp 3) rfl _ rfl 33 (fcV f (.slice A n c)).toArray _ _ hk Tryd.underlying33 rfl HZ.out ?_)
      | (go_at_call 59; refine (wideCode_any f A n c s m _ HF.out HN.out hm hs HS.out HM.out).mono ?_; rintro e w1 ⟨he, hb⟩; rw [← HC.out] at he; subst he; have hb1 := hb; clear hb))
    have hk1 := hk.next hb1
    have hz1 := hz.next hb1
    have HP1 := Lib.hid (HP.out.next hb1)
    have hB1 := below_step hB hb1
    have hw2 : w.heap.size + 1 < w1.heap.size := hz1.lt
    clear hk hz HP HS HM hb1
    refine held_begin (w.heap.size + 1) (by kernel_rfl) ?_
    have hS := below_drewN (Below.refl (w.heap.size + 1) w1) 1
    refine held_take 0 (.agg (fcV f (.slice A n c)).toArray) rfl (by kernel_rfl) (by kernel_rfl) (by kernel_rfl) (fun _ _ _ h => h) (by kernel_rfl) (fun w' hw' => exec_load_row 33 (.tmp 3) rfl (w.heap.size) (by kernel_rfl) 33 (fcV f (.slice A n c)).toArray _ _ (hk1.below hw' (Nat.lt_succ_self _)) Tryd.underlying33 rfl (HZ.out)) hS ?_
    refine held_take 1 (.string s) rfl (by kernel_rfl) (by kernel_rfl) (by kernel_rfl) (fun _ _ _ h => h) (by kernel_rfl) (fun w' hw' => by kernel_rfl) hS ?_
    refine held_take 3 (.int .i64 m) rfl (by kernel_rfl) (by kernel_rfl) (by kernel_rfl) (fun _ _ _ h => h) (by kernel_rfl) (fun w' hw' => by kernel_rfl) hS ?_
    refine held_call 2 55 #[.string s] rfl (by kernel_rfl) (by kernel_rfl) (by kernel_rfl) ?_
    refine (fields_impl s (w1.drewN 1) HT.out HP1.out).mono ?_
    rintro e w1 ⟨rfl, rfl⟩
    have hS := hS.alloc (by show w.heap.size + 1 ≤ w1.heap.size; omega) (.cells (wsV (words (bs s))).toArray 9)
    refine ⟨_, rfl, hS, ?_⟩
    have hz2 := (hz1.drewN 1).alloc (.cells (wsV (words (bs s))).toArray 9)
    have hg2 := Blk.new (w1.drewN 1) 9 (wsV (words (bs s)))
    generalize (w1.drewN 1).alloc (.cells (wsV (words (bs s))).toArray 9) = W2 at *
    refine held_take 4 (.agg (stV f (.slice A n c) (wS w1.heap.size (words (bs s))) m).toArray) rfl (by kernel_rfl) (by kernel_rfl) (by kernel_rfl) (fun _ _ _ h => h) (by kernel_rfl) (fun w' hw' => exec_build 77 _ rfl _ ((show _ = Tryd.prog.built 77 [(0, .agg (fcV f (.slice A n c)).toArray), (1, wS w1.heap.size (words (bs s))), (2, .int .i64 m)] by kernel_rfl).trans (built_setter HF.out _ _ _ _ _ _ _))) hS ?_
    refine held_skip 5 (W2.setRow (w.heap.size + 1) (stV f (.slice A n c) (wS w1.heap.size (words (bs s))) m).toArray) rfl (by kernel_rfl) (by kernel_rfl) (exec_store_row 77 (.tmp 6) (.tmp 21) rfl (w.heap.size + 1) _ (by kernel_rfl) (by kernel_rfl) 77 zSt.toArray hz2 (by rw [List.size_toArray, stV_length HF.out]; exact szStI) (by rw [List.size_toArray, List.size_toArray, stV_length HF.out]; rfl) (one_st _ _ _ _ _ _ _ _)) (below_setRow hS _ _ (Nat.le_refl _)) ?_
    have hS3 := below_setRow hS (w.heap.size + 1) (stV f (.slice A n c) (wS w1.heap.size (words (bs s))) m).toArray (Nat.le_refl _)
    have hS := hS3
    refine held_take 6 (.int .i64 0) rfl (by kernel_rfl) (by kernel_rfl) (by kernel_rfl) (fun _ _ _ h => h) (by kernel_rfl) (fun w' hw' => by kernel_rfl) hS ?_
    refine held_done (by kernel_rfl) ?_
    simp only [Act.put, List.setIfInBounds_toArray, List.set_cons_succ, List.set_cons_zero]
    simp only [List.getElem_toArray, List.getElem_cons_succ, List.getElem_cons_zero, Act.put, List.setIfInBounds_toArray, List.set_cons_succ, List.set_cons_zero]
    go_wp2_with fail
    exact bodyPost_ret (v := .tuple #[.agg (stV f (.slice A n c) (wS w1.heap.size (words (bs s))) m).toArray, .int .i64 0]) (results_row_tmp rfl _ _ _ 77 (stV f (.slice A n c) (wS w1.heap.size (words (bs s))) m).toArray _ _ _ rfl rfl (hz2.setRow_same _) Tryd.underlying77 rfl (by rw [List.size_toArray, stV_length HF.out]; exact szStI)) rfl
      ⟨hB1.trans (hS3.mono (by omega)), .inr ⟨HC.out.symm, w1.heap.size, rfl, by omega, hg2.setRow_other _ (by show w1.heap.size ≠ _; omega)⟩⟩
  · clear hcd
    go_enter Tryd.func64, Tryd.ntmps64
    go_wp2_with (first
      | (refine wpList_load_row rfl 33 (.tmp 3) rfl _ rfl 33 (fcV f (.slice A n c)).toArray _ _ hk Tryd.underlying33 rfl HZ.out ?_)
      | (go_at_call 59; refine (wideCode_any f A n c s m _ HF.out HN.out hm hs HS.out HM.out).mono ?_; rintro e w1 ⟨he, hb⟩; rw [← HC.out] at he; subst he; have hz1 := hz.next hb; have hB1 := below_step hB hb; clear hb)
      | (refine wpList_store_row rfl 77 (.tmp 6) (.tmp 15) rfl _ zSt.toArray rfl rfl 77 _ hz1 szStI rfl (one_st _ _ _ _ _ _ _ _) ?_))
    exact bodyPost_ret (v := .tuple #[.agg zSt.toArray, .int .i64 cd]) (results_row_tmp rfl _ _ _ 77 zSt.toArray _ _ _ rfl rfl (hz1.setRow_same zSt) Tryd.underlying77 rfl szStI) rfl ⟨below_setRow hB1 _ _ (by omega), .inl ⟨by rw [← HC.out]; exact h0, by rw [← HC.out]⟩⟩
end Go.Proofs.YtjgflkoefimmoaaDoor
