/- Contracts: letters that are kept, by the reference. -/
import Derived.Test.YtonnplaacebekaaGreatDoorKpP
import Derived.Test.YtonnplaacebekaaGreatDoorShM
import Derived.Test.YtonnplaacebekaaGreatDoorGA
import Derived.BigRegion


namespace Go.Proofs.YtonnplaacebekaaGreatDoor
open Go Go.RowKit
set_option linter.unusedVariables false
set_option linter.unusedSimpArgs false

/-- A row of a call's own, in a block from lo up to hi. -/
def OwnX {α : Type} (t : TypeId) (enc : α → Value) (w : World) (lo hi : Nat) (A : Option Addr) (xs : List α) : Prop := 0 < xs.length → ∃ g cs, A = some ⟨g, 0, none⟩ ∧ lo ≤ g ∧ g < hi ∧ Blk w g t (xs.map enc ++ cs)
section
variable {α : Type} {t : TypeId} {enc : α → Value} {w w' : World} {lo hi : Nat} {A : Option Addr} {xs : List α}
theorem OwnX.sl (h : OwnX t enc w lo hi A xs) : SlE enc w A xs := by
  intro i x hx
  have hi : i < xs.length := (List.getElem?_eq_some_iff.1 hx).1
  obtain ⟨g, cs, rfl, _, _, hb⟩ := h (by omega)
  exact SlE.of_row hb.head i x hx
theorem OwnX.next (h : OwnX t enc w lo hi A xs) (hb : Below w.heap.size w w') : OwnX t enc w' lo hi A xs := fun hn => by
  obtain ⟨g, cs, e, h1, h2, h3⟩ := h hn
  exact ⟨g, cs, e, h1, h2, h3.next hb⟩
theorem OwnX.grown {row : Option Nat} (h : OwnX t enc w lo hi A xs) (hg : w.grownBy w' row) (hr : ∀ b, row = some b → b < lo ∨ hi ≤ b) : OwnX t enc w' lo hi A xs := fun hn => by
  obtain ⟨g, cs, e, h1, h2, h3⟩ := h hn
  exact ⟨g, cs, e, h1, h2, h3.grown hg (fun e => by have := hr g e.symm; omega)⟩
theorem OwnX.of_own {v : Value} {n : Nat} (h : w.ownsRow lo t 1 v n (xs.map enc)) : ∃ A c, v = .slice A xs.length c ∧ xs.length = n ∧ OwnX t enc w lo w.heap.size A xs := by
  by_cases hn : 0 < n
  · obtain ⟨g, c, cs, rfl, hg, hb, hl⟩ := own_blk h hn
    rw [List.length_map] at hl
    exact ⟨_, c, by rw [hl], hl, fun _ => ⟨g, cs, rfl, hg, hb.lt, hb⟩⟩
  · obtain ⟨A, c, e, hl, _, _⟩ := SlE_own h
    exact ⟨A, c, e, hl, fun h => by omega⟩
end
/-- A row that grows beside all that is older than W1; its block was g0 when W1 stood. -/
structure GrO (W0 W1 wr : World) (e : TypeId) (g0 : Nat) (v : Value) (xs : List Value) : Prop where
  own : wr.ownsRow W0.heap.size e 1 v xs.length xs
  grow : W1.grownBy wr (some g0)
  loc : v.ownBlock = some g0 ∨ ∃ g, W1.heap.size ≤ g ∧ v.ownBlock = some g
  below : Below W0.heap.size W0 wr
theorem GrO.keep {α : Type} {W0 W1 wr : World} {e t : TypeId} {enc : α → Value} {g0 lo hi : Nat} {v : Value} {xs : List Value} {A : Option Addr} {ys : List α} (h : GrO W0 W1 wr e g0 v xs) (s : OwnX t enc W1 lo hi A ys) (hlo : g0 < lo) : SlE enc wr A ys :=
  (s.grown h.grow (fun b e => by cases e; exact .inl hlo)).sl
theorem GrO.put {W0 W1 wr w' : World} {e : TypeId} {g0 : Nat} {v v' : Value} {xs : List Value} {x : Value} (h : GrO W0 W1 wr e g0 v xs) (ho : w'.ownsRow W0.heap.size e 1 v' (xs.length + 1) (xs ++ [x])) (hg : wr.grownBy w' v.ownBlock) (hw : v'.ownBlock = v.ownBlock ∨ ∃ g, wr.heap.size ≤ g ∧ v'.ownBlock = some g) : GrO W0 W1 w' e g0 v' (xs ++ [x]) := by
  have hgr : W1.grownBy w' (some g0) :=
    ⟨hg.os.trans h.grow.os, hg.tape.trans h.grow.tape, hg.output.trans h.grow.output, Nat.le_trans h.grow.size hg.size, fun i hi hne => (hg.block i (Nat.lt_of_lt_of_le hi h.grow.size) (fun e => by
      rcases h.loc with e2 | ⟨g, hg2, e2⟩
      · exact hne (e.trans e2)
      · rw [e2] at e; cases e; omega)).trans (h.grow.block i hi hne)⟩
  refine ⟨by rw [List.length_append]; exact ho, hgr, ?_, below_own h.below h.own hg (Nat.le_refl _) h.below.size⟩
  rcases hw with e2 | ⟨g, hg2, e2⟩
  · rcases h.loc with e3 | ⟨g, hg3, e3⟩
    · exact .inl (e2.trans e3)
    · exact .inr ⟨g, hg3, e2.trans e3⟩
  · exact .inr ⟨g, Nat.le_trans h.grow.size hg2, e2⟩
theorem GrO.next {W0 W1 wr w' : World} {e : TypeId} {g0 : Nat} {v : Value} {xs : List Value} (h : GrO W0 W1 wr e g0 v xs) (hb : Below wr.heap.size wr w') : GrO W0 W1 w' e g0 v xs :=
  ⟨own_next h.own hb, ⟨hb.os.trans h.grow.os, hb.tape.trans h.grow.tape, hb.output.trans h.grow.output, Nat.le_trans h.grow.size hb.size, fun i hi hne => (hb.block i (Nat.lt_of_lt_of_le hi h.grow.size)).trans (h.grow.block i hi hne)⟩, h.loc, below_step h.below hb⟩

/-- A letter's value. -/
def bv (b : UInt8) : Value := .int .u8 (b.toNat : Int)
theorem elB : El Tryz.prog 77 5 (.int .u8 0) 1 1 := ⟨Tryz.underlying77, by kernel_rfl, rfl, by decide⟩
theorem RowE.atB {w : World} {a : Addr} {r : List UInt8} (h : RowE bv w a r) (i : Nat) (hi : i < r.length) : w.cell? (a.add i) = some (.int .u8 (byt r i)) := by
  have := h i (r[i]) (List.getElem?_eq_getElem hi)
  rw [byt_get hi]; exact this
def LtOut (w : World) (ls : List UInt8) (e : Ending) (w' : World) : Prop :=
  ∃ A c, e = .returned (.slice A ls.length c) ∧ Below w.heap.size w w' ∧ OwnX 5 bv w' w.heap.size w'.heap.size A ls
structure LtRel (l : List UInt8) (w wr : World) (v : Value) (k : Nat) : Prop where
  own : wr.ownsRow w.heap.size 5 1 v (lets (l.take k)).length ((lets (l.take k)).map bv)
  below : Below w.heap.size w wr
theorem letsT_sp {l : List UInt8} {k : Nat} (hk : k < l.length) (h : byt l k = 32) : lets (l.take (k + 1)) = lets (l.take k) := by
  rw [List.take_succ_eq_append_getElem hk, lets_snoc, if_pos]
  rw [byt_get hk] at h
  exact u8_eq (by rw [h]; rfl)
theorem letsT_let {l : List UInt8} {k : Nat} (hk : k < l.length) (h : byt l k ≠ 32) : lets (l.take (k + 1)) = lets (l.take k) ++ [l[k]] := by
  rw [List.take_succ_eq_append_getElem hk, lets_snoc, if_neg]
  intro e
  rw [byt_get hk, e] at h
  exact h rfl

set_option maxRecDepth 100000 in
theorem letters_spec (s : ByteArray) (w : World) (hs : s.size ≤ 1048576) :
    Calls Tryz.prog 45 #[.string s] w (LtOut w (lets (bs s))) := by
  have HB := Lib.hid (bs_length s)
  go_enter Tryz.func45, Tryz.ntmps45
  go_wp2
  go_loopw [3, 4] (fun v i wr => ∃ k : Nat, k ≤ s.size ∧ i = .int .i64 k ∧ LtRel (bs s) w wr v k) (fun _ i _ => s.size - (intOf i).toNat)
  case atStart => exact ⟨0, by omega, rfl, own_empty _ _ rfl _ _ (Nat.le_refl _) 1, below_one _ _⟩
  case round =>
    obtain ⟨k, hk, rfl, h⟩ := hrel
    have hown := h.own
    have hbel := h.below
    have hsz := hbel.size
    have hlen : (lets ((bs s).take k)).length ≤ 1048576 := by
      have := lets_length ((bs s).take k)
      rw [List.length_take] at this; omega
    clear h
    by_cases hlt : k < s.size
    · have hix := run_byte s k hlt
      have hlb : k < (bs s).length := by rw [HB.out]; exact hlt
      cases hb : (byS s k == 32)
      · have hne : byt (bs s) k ≠ 32 := by simpa [byS] using hb
        have HP := Lib.hid (letsT_let hlb hne)
        have HE := Lib.hid (show Value.int .u8 (byS s k) = bv ((bs s)[k]) by unfold bv; rw [← byt_get hlb]; rfl)
        clear hne
        go_wp2_with (at_builtin; refine wpList_app1 rfl (.tmp 16) (.tmp 20) _ rfl elB wr w.heap.size u3 (lets ((bs s).take k)).length _ rfl hown (.int .u8 (byS s k)) _ rfl rfl rfl (by unfold maxLen; omega) (by omega) hsz ?_; intro v' w' ho' hg')
        go_roundw
        case rel =>
          refine ⟨k + 1, by omega, by go_num, ?_, below_own hbel hown hg' (Nat.le_refl _) hsz⟩
          rw [HP.out, List.length_append, List.map_append]
          rw [HE.out] at ho'
          exact ho'
        case measure => simp [intOf]; omega
      · have heq : byt (bs s) k = 32 := by simpa [byS] using hb
        have HP := Lib.hid (letsT_sp hlb heq)
        clear heq
        go_wp2
        go_roundw
        case rel => exact ⟨k + 1, by omega, by go_num, by rw [HP.out]; exact hown, hbel⟩
        case measure => simp [intOf]; omega
    · obtain rfl : k = s.size := by omega
      have HT := Lib.hid (show (bs s).take s.size = bs s by rw [← bs_length, List.take_length])
      go_wp2
      go_ret
      obtain ⟨A', c', rfl, hl, ho⟩ := OwnX.of_own hown
      rw [HT.out] at ho hl ⊢
      exact ⟨A', c', rfl, hbel, ho⟩

set_option maxRecDepth 100000 in
theorem shiftC_spec (f : Fc) (n b0 : Nat) (o s : ByteArray) (fine : Bool) (w : World) (hf : FcT f) (hn : f.pairs.length = n) (hm : n ≤ 1048576) (ho : o.size ≤ 1048576) (hs : s.size ≤ 1048576) (h : FcAt w b0 f n) :
    Calls Tryz.prog 42 #[.pointer (some ⟨b0, 0, none⟩), .string o, .string s, .bool fine] w fun e w' => e = .returned (.int .i64 (kepC f (bs o) (bs s) fine)) ∧ Below w.heap.size w w' := by
  have HF := Lib.hid hf
  have HN := Lib.hid hn
  have HA := Lib.hid h
  clear hf hn h
  cases hv : validF f
  · have HO := Lib.hid (kepC_f (o := bs o) (w := bs s) (b := fine) hv)
    have HV := Lib.hid hv
    clear hv
    go_enter Tryz.func42, Tryz.ntmps42
    go_wp2_with (go_at_call 53; refine (face_spec f n b0 _ HF.out HN.out hm HA.out).mono ?_; rintro e w1 ⟨he, hb⟩; rw [HV.out] at he; subst he)
    go_ret
    exact ⟨retI HO.out.symm, hb⟩
  · have HV := Lib.hid hv
    cases ht : vText (bs o)
    · have HO := Lib.hid (kepC_o (f := f) (w := bs s) (b := fine) ht)
      have HT := Lib.hid ht
      clear hv ht
      go_enter Tryz.func42, Tryz.ntmps42
      go_wp2_with (first
        | (go_at_call 53; refine (face_spec f n b0 _ HF.out HN.out hm HA.out).mono ?_; rintro e w1 ⟨he, hb⟩; rw [HV.out] at he; subst he)
        | (go_at_call 54; refine (text_spec o _ ho).mono ?_; rintro e w2 ⟨he, rfl⟩; rw [HT.out] at he; subst he))
      go_ret
      exact ⟨retI HO.out.symm, hb⟩
    · have HT := Lib.hid ht
      cases hu : vText (bs s)
      · have HO := Lib.hid (kepC_w (f := f) (o := bs o) (b := fine) hu)
        have HU := Lib.hid hu
        clear hv ht hu
        go_enter Tryz.func42, Tryz.ntmps42
        go_wp2_with (go_at_call 53; refine (face_spec f n b0 _ HF.out HN.out hm HA.out).mono ?_; rintro e w1 ⟨he, hb⟩; rw [HV.out] at he; subst he; go_wp2_with fail; go_at_call 54; refine (text_spec o _ ho).mono ?_; rintro e w2 ⟨he, rfl⟩; rw [HT.out] at he; subst he; go_wp2_with fail; go_at_call 54; refine (text_spec s _ hs).mono ?_; rintro e w2 ⟨he, rfl⟩; rw [HU.out] at he; subst he; go_wp2)
        go_ret
        exact ⟨retI HO.out.symm, hb⟩
      · have HO := Lib.hid (kepC_ok (b := fine) hv ht hu)
        have HU := Lib.hid hu
        clear hv ht hu
        cases fine
        all_goals
          go_enter Tryz.func42, Tryz.ntmps42
          go_wp2_with (go_at_call 53; refine (face_spec f n b0 _ HF.out HN.out hm HA.out).mono ?_; rintro e w1 ⟨he, hb⟩; rw [HV.out] at he; subst he; go_wp2_with fail; go_at_call 54; refine (text_spec o _ ho).mono ?_; rintro e w2 ⟨he, rfl⟩; rw [HT.out] at he; subst he; go_wp2_with fail; go_at_call 54; refine (text_spec s _ hs).mono ?_; rintro e w2 ⟨he, rfl⟩; rw [HU.out] at he; subst he; go_wp2)
          go_ret
          exact ⟨retI HO.out.symm, hb⟩
end Go.Proofs.YtonnplaacebekaaGreatDoor
