/- Contracts: choices that are drawn from bytes. Contracts: a pair is put into a face (the reference's way): the face that comes back is valid. Contracts: faces that are drawn are valid. Contracts: words and texts that are drawn. Contracts: a face, a word, a rubbing and hands that are drawn from bytes. Contracts: texts that are drawn are valid. Contract: A2Text draws a valid text. -/
import Derived.Test.YtdhngjjfoddnkaaGreatDoorProg
import Derived.Test.YtdhngjjfoddnkaaGreatDoorOpenB
import Derived.Test.YtdhngjjfoddnkaaGreatDoorGB
import Derived.BigRegion
import Derived.Test.YtdhngjjfoddnkaaGreatDoorHelS
import Derived.Test.YtdhngjjfoddnkaaGreatDoorGD
import Derived.Test.YtdhngjjfoddnkaaGreatDoorGC
import Derived.Test.YtdhngjjfoddnkaaGreatDoorGA
import Derived.Test.YtdhngjjfoddnkaaGreatDoorPick
import Derived.Laws.IdiomStrings
import Derived.Laws.Concat
import Derived.Test.YtdhngjjfoddnkaaGreatDoorGF
import Derived.Test.YtdhngjjfoddnkaaGreatDoorGP
namespace Go.Proofs.YtdhngjjfoddnkaaGreatDoor
open Go Go.RowKit
set_option linter.unusedVariables false
set_option linter.unusedSimpArgs false

/-- A slice's block is there. -/
theorem SlE.bound {α : Type} {enc : α → Value} {w : World} {A : Option Addr} {xs : List α} (h : SlE enc w A xs) (hn : 0 < xs.length) (a : Addr) (e : A = Option.some a) : a.block < w.heap.size := by
  obtain ⟨a', e', hc⟩ := h 0 _ (List.getElem?_eq_getElem hn)
  rw [e] at e'
  cases e'
  have hab : (a.add 0).block = a.block := by unfold Addr.add; split <;> rfl
  have := World.block_lt_of_cell? w _ hc
  rw [hab] at this; exact this
/-- Block b is a source of choices, of which at most m bytes have been drawn. -/
def SrcAt (w : World) (b m : Nat) : Prop :=
  ∃ (A : Option Addr) (c : Nat) (xs : List Int) (k : Nat) (seed : Int), Blk w b 90 [.slice A xs.length c, .int .i64 (k : Int), .int .u64 seed] ∧ k ≤ m ∧ SlE u8 w A xs ∧ Byt xs ∧ (0 < xs.length → ∀ a, A = some a → a.block < b) ∧ xs.length ≤ 4096
theorem SrcAt.lt {w : World} {b m : Nat} (h : SrcAt w b m) : b < w.heap.size := by
  obtain ⟨A, c, xs, k, seed, hb, _⟩ := h
  exact hb.lt
theorem SrcAt.le {w : World} {b m m' : Nat} (h : SrcAt w b m) (hm : m ≤ m') : SrcAt w b m' := by
  obtain ⟨A, c, xs, k, seed, hb, hk, r⟩ := h
  exact ⟨A, c, xs, k, seed, hb, by omega, r⟩
theorem slE_blocks {α : Type} {enc : α → Value} {w w' : World} {A : Option Addr} {xs : List α} {B : Nat} (h : SlE enc w A xs) (hA : 0 < xs.length → ∀ a, A = some a → a.block < B) (hb : ∀ k, k < B → w'.heap[k]? = w.heap[k]?) : SlE enc w' A xs := by
  intro i x hx
  obtain ⟨a, e, hc⟩ := h i x hx
  refine ⟨a, e, ?_⟩
  have hab : (a.add i).block = a.block := by unfold Addr.add; split <;> rfl
  have := hb a.block (hA (by have := (List.getElem?_eq_some_iff.1 hx).1; omega) a e)
  rw [← hc]
  simp only [World.cell?, hab, this]
theorem SrcAt.grown {w w' : World} {b m r : Nat} (h : SrcAt w b m) (hg : w.grownBy w' (some r)) (hr : b < r) : SrcAt w' b m := by
  have hlt := h.lt
  obtain ⟨A, c, xs, k, seed, hb, hk, hs, hy, hA, hl⟩ := h
  refine ⟨A, c, xs, k, seed, hb.grown hg (by simp; omega), hk, slE_blocks hs hA (fun j hj => hg.block j (by omega) (by simp; omega)), hy, hA, hl⟩
theorem SrcAt.next {w w' : World} {b m : Nat} (h : SrcAt w b m) (hb : Below w.heap.size w w') : SrcAt w' b m := by
  obtain ⟨A, c, xs, k, seed, h1, hk, hs, r⟩ := h
  exact ⟨A, c, xs, k, seed, h1.next hb, hk, hs.next hb, r⟩
/-- A number within bounds is drawn. -/
def DrawI (w : World) (b m : Nat) (lo hi : Int) (e : Ending) (w' : World) : Prop := ∃ x : Int, e = .returned (.int .i64 x) ∧ lo ≤ x ∧ x ≤ hi ∧ SrcAt w' b m ∧ w.grownBy w' (some b)
theorem grown_below {w w' : World} {row : Option Nat} (h : Below w.heap.size w w') : w.grownBy w' row := ⟨h.os, h.tape, h.output, h.size, fun i hi _ => h.block i hi⟩
theorem grown_one {w : World} {b o : Nat} {v : Value} : w.grownBy (w.setCell ⟨b, o, none⟩ v) (some b) := grown_set (grown_refl _ _) o v
theorem bits_255 (x : Int) : 0 ≤ bits BinOp.and IntKind.u64 x 255 ∧ bits BinOp.and IntKind.u64 x 255 ≤ 255 := by
  have h1 : (BitVec.ofInt 64 x &&& BitVec.ofInt 64 255).toNat ≤ 255 := by
    rw [BitVec.toNat_and, show (BitVec.ofInt 64 (255 : Int)).toNat = 255 from rfl]
    exact Nat.and_le_right
  have h2 : (((BitVec.ofInt 64 x &&& BitVec.ofInt 64 255).toNat : Nat) : Int) ≤ 255 := by omega
  have e := IntWalk.u64_in (((BitVec.ofInt 64 x &&& BitVec.ofInt 64 255).toNat : Nat) : Int) ⟨Int.natCast_nonneg _, by omega⟩
  have e2 : bits BinOp.and IntKind.u64 x 255 = (((BitVec.ofInt 64 x &&& BitVec.ofInt 64 255).toNat : Nat) : Int) := e
  rw [e2]; omega
theorem SrcAt.step {w w1 : World} {b k : Nat} {A : Option Addr} {c : Nat} {xs : List Int} {seed S : Int} (hb : Blk w b 90 [.slice A xs.length c, .int .i64 (k : Int), .int .u64 seed]) (hs : SlE u8 w A xs) (hy : Byt xs) (hA : 0 < xs.length → ∀ a, A = some a → a.block < b) (hl : xs.length ≤ 4096)
    (q : Nat) (h1 : w1 = ((w.setCell ⟨b, 1, none⟩ (.int .i64 ((k : Int) + 1))).setCell ⟨b, 2, none⟩ (.int .u64 S)).drewN q) :
    Blk w1 b 90 [.slice A xs.length c, .int .i64 ((k : Int) + 1), .int .u64 S] ∧ w.grownBy w1 (some b) ∧ SlE u8 w1 A xs := by
  have hB : Blk w1 b 90 [.slice A xs.length c, .int .i64 ((k : Int) + 1), .int .u64 S] := by rw [h1]; exact ((hb.set 1 _).set 2 _).drewN q
  have hg : w.grownBy w1 (some b) := by
    rw [h1]
    exact grownBy_trans (grown_set grown_one 2 _) (grown_below (below_drewN (Below.refl _ _) q))
  exact ⟨hB, hg, slE_blocks hs hA (fun j hj => hg.block j (by have := hb.lt; omega) (by simp; omega))⟩

set_option maxHeartbeats 1000000 in
set_option maxRecDepth 100000 in
theorem next_any (b m : Nat) (w : World) (h : SrcAt w b m) (hm : m ≤ 1000000) :
    Calls Tryz.prog 75 #[.pointer (some ⟨b, 0, none⟩)] w (DrawI w b (m + 1) 0 255) := by
  obtain ⟨A, c, xs, k, seed, hb, hk, hs, hy, hA, hl⟩ := h
  have c0 := hb.cell 0 _ rfl
  have c1 := hb.cell 1 _ rfl
  have c2 := hb.cell 2 _ rfl
  have f1 := hb.free 1
  have f2 := hb.free 2
  have hadd : IntKind.i64.wrap ((k : Int) + 1) = ((k + 1 : Nat) : Int) := by rw [IntWalk.i64_in _ (by omega)]; push_cast; rfl
  by_cases hlt : k < xs.length
  · obtain ⟨a, rfl, ra⟩ := hs.some k hlt
    have ca : w.cell? (a.add k) = some (.int .u8 (rdI xs k)) := ra.at 0 k hlt
    have hyk := hy k hlt
    go_enter Tryz.func75, Tryz.ntmps75
    go_wp2
    go_region
    go_wp2
    go_region
    go_wp2
    generalize IntKind.u64.wrap (IntKind.u64.wrap (IntKind.u64.wrap (seed * 6364136223846793005) + rdI xs k) + 1442695040888963407) = S at *
    obtain ⟨w1, hw1⟩ : ∃ w1, w1 = (((w.setCell ⟨b, 1, none⟩ (.int .i64 ((k : Int) + 1))).setCell ⟨b, 2, none⟩ (.int .u64 S)).drew).drew := ⟨_, rfl⟩
    obtain ⟨hB, hg, hs1⟩ := SrcAt.step hb hs hy hA hl 2 hw1
    rw [← hw1]
    clear hw1 c0 c1 c2 f1 f2 hb ca ra hs
    have c0 := hB.cell 0 _ rfl
    have c1 := hB.cell 1 _ rfl
    have c2 := hB.cell 2 _ rfl
    have hle : (k : Int) + 1 ≤ (xs.length : Int) := by omega
    go_region
    go_wp2
    go_ret
    have hd : Below w1.heap.size w1 w1.drew := below_drewN (Below.refl _ _) 1
    exact ⟨rdI xs k, rfl, hyk.1, hyk.2, SrcAt.next (w := w1) ⟨_, c, xs, k + 1, S, by rw [show (((k + 1 : Nat)) : Int) = (k : Int) + 1 by push_cast; rfl]; exact hB, by omega, hs1, hy, hA, hl⟩ hd, grownBy_trans hg (grown_below hd)⟩
  · have hlt2 : ¬ ((k : Int) < (xs.length : Int)) := by omega
    go_enter Tryz.func75, Tryz.ntmps75
    go_wp2
    go_region
    go_wp2
    generalize IntKind.u64.wrap (IntKind.u64.wrap (IntKind.u64.wrap (seed * 6364136223846793005)) + 1442695040888963407) = S at *
    obtain ⟨w1, hw1⟩ : ∃ w1, w1 = (((w.setCell ⟨b, 1, none⟩ (.int .i64 ((k : Int) + 1))).setCell ⟨b, 2, none⟩ (.int .u64 S)).drew) := ⟨_, rfl⟩
    obtain ⟨hB, hg, hs1⟩ := SrcAt.step hb hs hy hA hl 1 hw1
    rw [← hw1]
    clear hw1 c0 c1 c2 f1 f2 hb hs
    have c0 := hB.cell 0 _ rfl
    have c1 := hB.cell 1 _ rfl
    have c2 := hB.cell 2 _ rfl
    have hle : ¬ ((k : Int) + 1 ≤ (xs.length : Int)) := by omega
    have hbb := bits_255 (S / 1099511627776)
    go_region
    go_wp2
    go_ret
    have hd : Below w1.heap.size w1 w1.drew := below_drewN (Below.refl _ _) 1
    exact ⟨_, rfl, hbb.1, hbb.2, SrcAt.next (w := w1) ⟨_, c, xs, k + 1, S, by rw [show (((k + 1 : Nat)) : Int) = (k : Int) + 1 by push_cast; rfl]; exact hB, by omega, hs1, hy, hA, hl⟩ hd, grownBy_trans hg (grown_below hd)⟩

set_option maxHeartbeats 1000000 in
set_option maxRecDepth 100000 in
theorem pick_any (b m : Nat) (n : Int) (w : World) (h : SrcAt w b m) (hm : m ≤ 999990) (hn : 2 ≤ n ∧ n ≤ 65536) :
    Calls Tryz.prog 51 #[.pointer (some ⟨b, 0, none⟩), .int .i64 n] w (DrawI w b (m + 2) 0 (n - 1)) := by
  have H := Lib.hid h
  have h1 : ¬ n ≤ 1 := by omega
  clear h
  by_cases h2 : n > 200
  · go_enter Tryz.func51, Tryz.ntmps51
    go_wp2_with fail
    go_at_call 75
    refine (next_any b m w H.out (by omega)).mono ?_
    rintro e w1 ⟨x, rfl, x0, x1, hs1, hg1⟩
    have hx : IntKind.i64.wrap (x * 256) = x * 256 := IntWalk.i64_in _ (by omega)
    go_wp2_with fail
    go_at_call 75
    refine (next_any b (m + 1) w1 hs1 (by omega)).mono ?_
    rintro e w2 ⟨y, rfl, y0, y1, hs2, hg2⟩
    have hy : IntKind.i64.wrap (x * 256 + y) = x * 256 + y := IntWalk.i64_in _ (by omega)
    have hz := Int.emod_nonneg (x * 256 + y) (show n ≠ 0 by omega)
    have hz2 := Int.emod_lt_of_pos (x * 256 + y) (show 0 < n by omega)
    go_wp2
    go_ret
    exact ⟨_, rfl, hz, by omega, hs2.le (by omega), grownBy_trans hg1 hg2⟩
  · go_enter Tryz.func51, Tryz.ntmps51
    go_wp2_with fail
    go_at_call 75
    refine (next_any b m w H.out (by omega)).mono ?_
    rintro e w1 ⟨x, rfl, x0, x1, hs1, hg1⟩
    have hz := Int.emod_nonneg x (show n ≠ 0 by omega)
    have hz2 := Int.emod_lt_of_pos x (show 0 < n by omega)
    go_wp2
    go_ret
    exact ⟨_, rfl, hz, by omega, hs1.le (by omega), grownBy_trans hg1 (grown_refl _ _)⟩
set_option maxRecDepth 100000 in
theorem pick_one (b m : Nat) (n : Int) (w : World) (h : SrcAt w b m) (hn : n ≤ 1) :
    Calls Tryz.prog 51 #[.pointer (some ⟨b, 0, none⟩), .int .i64 n] w (DrawI w b (m + 2) 0 0) := by
  have H := Lib.hid h
  clear h
  go_enter Tryz.func51, Tryz.ntmps51
  go_wp2
  go_ret
  exact ⟨0, rfl, by omega, by omega, H.out.le (by omega), grown_refl _ _⟩
set_option maxRecDepth 100000 in
theorem one_any (b m : Nat) (n : Int) (w : World) (h : SrcAt w b m) (hm : m ≤ 999990) (hn : 2 ≤ n ∧ n ≤ 65536) :
    Calls Tryz.prog 52 #[.pointer (some ⟨b, 0, none⟩), .int .i64 n] w fun e w' => (∃ x, e = .returned (.bool x)) ∧ SrcAt w' b (m + 2) ∧ w.grownBy w' (some b) := by
  have H := Lib.hid h
  clear h
  go_enter Tryz.func52, Tryz.ntmps52
  go_wp2_with fail
  go_at_call 51
  refine (pick_any b m n w H.out hm hn).mono ?_
  rintro e w1 ⟨x, rfl, x0, x1, hs1, hg1⟩
  go_wp2
  go_ret
  exact ⟨⟨_, rfl⟩, hs1, hg1⟩
set_option maxRecDepth 100000 in
theorem from_any (A : Option Addr) (n c : Nat) (xs : List Int) (w : World) (hn : xs.length = n) (hl : n ≤ 4096) (hs : SlE u8 w A xs) (hy : Byt xs) :
    Calls Tryz.prog 27 #[.slice A n c] w fun e w' => ∃ b, e = .returned (.pointer (some ⟨b, 0, none⟩)) ∧ w.heap.size ≤ b ∧ SrcAt w' b 0 ∧ Below w.heap.size w w' := by
  subst hn
  have hk := Blk.new w 90 [.slice A xs.length c, .int .i64 0, .int .u64 0]
  have hb := below_one w (.cells #[.slice A xs.length c, .int .i64 0, .int .u64 0] 90)
  have HK := Lib.hid hk
  have HB := Lib.hid hb
  have HS := Lib.hid hs
  have HY := Lib.hid hy
  have HA := Lib.hid (fun hn => hs.bound hn)
  clear hk hb hs hy
  go_enter Tryz.func27, Tryz.ntmps27
  go_wp2
  go_ret
  exact ⟨w.heap.size, rfl, Nat.le_refl _, ⟨A, c, xs, 0, 0, HK.out, Nat.le_refl _, HS.out.next HB.out, HY.out, HA.out, hl⟩, HB.out⟩
/-- Some bytes are too many, or they are few. -/
def LongOut (n m : Nat) (e : Ending) : Prop := e = .returned (.bool true) ∨ (e = .returned (.bool false) ∧ n ≤ 3000 ∧ m ≤ 3000)
set_option maxRecDepth 100000 in
theorem long_any (f : FuncId) (A B : Option Addr) (n m c d : Nat) (w : World) (hf : f = 4) (hn : n ≤ maxLen) (hm : m ≤ maxLen) :
    Calls Tryz.prog f #[.slice A n c, .slice B m d] w fun e w' => LongOut n m e ∧ w = w' := by
  subst hf
  by_cases h1 : 3000 < n
  · have h1i : (3000 : Int) < (n : Int) := by omega
    go_enter Tryz.func4, Tryz.ntmps4
    go_wp2
    go_ret
    exact ⟨.inl rfl, rfl⟩
  · have h1i : ¬ (3000 : Int) < (n : Int) := by omega
    by_cases h2 : 3000 < m
    · have h2i : (3000 : Int) < (m : Int) := by omega
      go_enter Tryz.func4, Tryz.ntmps4
      go_wp2
      go_ret
      exact ⟨.inl rfl, rfl⟩
    · have h2i : ¬ (3000 : Int) < (m : Int) := by omega
      go_enter Tryz.func4, Tryz.ntmps4
      go_wp2
      go_ret
      exact ⟨.inr ⟨rfl, by omega, by omega⟩, rfl⟩
set_option maxRecDepth 100000 in
theorem at_any (A : Option Addr) (n c : Nat) (xs : List Int) (i k : Int) (w : World) (hn : xs.length = n) (hl : n ≤ maxLen) (hs : SlE u8 w A xs) (hy : Byt xs) (hi : 0 ≤ i ∧ i ≤ 9223372036854775807) (hk : 1 ≤ k ∧ k ≤ 1000000) :
    Calls Tryz.prog 7 #[.slice A n c, .int .i64 i, .int .i64 k] w fun e w' => (∃ x, e = .returned (.int .i64 x) ∧ 0 ≤ x ∧ x < k) ∧ w = w' := by
  subst hn
  have hk1 : ¬ k < 1 := by omega
  by_cases hlt : i < (xs.length : Int)
  · obtain ⟨j, rfl⟩ := Int.eq_ofNat_of_zero_le hi.1
    have hj : j < xs.length := by omega
    obtain ⟨a, rfl, ra⟩ := hs.some j hj
    have ca : w.cell? (a.add j) = some (.int .u8 (rdI xs j)) := ra.at 0 j hj
    have hyj := hy j hj
    have hz := Int.emod_nonneg (rdI xs j) (show k ≠ 0 by omega)
    have hz2 := Int.emod_lt_of_pos (rdI xs j) (show 0 < k by omega)
    have hlt2 : ¬ ((xs.length : Int) ≤ (j : Int)) := by omega
    clear ra hy hs
    go_enter Tryz.func7, Tryz.ntmps7
    go_wp2
    go_ret
    exact ⟨⟨_, rfl, hz, hz2⟩, rfl⟩
  · have hlt2 : (xs.length : Int) ≤ i := by omega
    clear hy hs
    go_enter Tryz.func7, Tryz.ntmps7
    go_wp2
    go_ret
    exact ⟨⟨0, rfl, by omega, by omega⟩, rfl⟩
end Go.Proofs.YtdhngjjfoddnkaaGreatDoor
namespace Go.Proofs.YtdhngjjfoddnkaaGreatDoor
open Go Go.RowKit
set_option linter.unusedVariables false
set_option linter.unusedSimpArgs false

theorem gen_calls {P : Program} {f : FuncId} {args : Array Value} {Q : Ending → World → Prop} {W0 : World} (F : World → Prop) (h0 : F W0) (h : ∀ W, F W → Calls P f args W Q) : Calls P f args W0 Q := h W0 h0
theorem elPr : El Tryz.prog 26 85 (.agg #[.int .u8 0, .int .u8 0, .int .i8 0]) 3 3 := ⟨Tryz.underlying26, infoPr, by kernel_rfl, by decide⟩
/-- 'append(xs, u)': a pair, in the block that was made last. -/
theorem wpList_appP {ops : Array Oper} {rest : List Oper} {o : Oper} {a : Act} {Q : Exit → Act → World → Prop} (hgd : o.guard = none) (s x : Operand)
    (ho : o.op = .call { callee := .builtin .append, args := #[s, x], argTypes := #[26, 26] })
    (W : World) (base : Nat) (v : Value) (ps : List Pr) (n : Nat) (hs : a.eval s = v) (hown : W.ownsRow base 85 3 v n (prVs ps)) (u : Pr) (hx : a.eval x = .slice (some ⟨W.heap.size, 0, none⟩) 1 1)
    (hn : n ≤ 1048576) (hbase : base ≤ W.heap.size)
    (h : ∀ v' w', w'.ownsRow base 85 3 v' (n + 1) (prVs (ps ++ [u])) → W.grownBy w' v.ownBlock → wpList Tryz.prog ops Q rest (a.put o.dst v') w') : wpList Tryz.prog ops Q (o :: rest) a (W.alloc (.cells (prV u).toArray 85)) := by
  obtain ⟨i, hi, hz, hsz, hby⟩ := info_parts elPr.info
  have hnew : ∀ j y, (prV u)[j]? = some y → (W.alloc (.cells (prV u).toArray 85)).cell? ((⟨W.heap.size, 0, none⟩ : Addr).add j) = some y := fun j y hy => by
    rw [add_mid, Nat.zero_add]
    exact (Blk.new W 85 (prV u)).cell j y hy
  refine wpList_append_own _ hgd s x 26 ho base 85 i _ 3 3 elPr.under hi hz hsz hby elPr.cells (by omega) v n _ hs (hown.alloc _) ⟨W.heap.size, 0, none⟩ 1 1 (prV u) hx (by simp [prV]) hnew (fun y hy => by simp [prV] at hy; rcases hy with rfl | rfl | rfl <;> rfl) (by unfold maxLen; omega) (by omega) (by simp; omega) ?_
  intro v' w' ho' hg' _
  refine h v' w' ?_ (grownBy_trans (World.grownBy_alloc _ _ _) hg')
  rw [prVs_append]
  simpa [prVs] using ho'

theorem SlP.setC {w : World} {A : Option Addr} {ps : List Pr} {b i : Nat} {u : Value} (h : SlP w A ps) (hne : ∀ a, A = some a → a.block ≠ b) : SlP (w.setCell ⟨b, i, none⟩ u) A ps := by
  intro j q hq
  obtain ⟨a, e, hr⟩ := h j q hq
  refine ⟨a, e, fun k x hx => ?_⟩
  have := hr k x hx
  have hab : ((a.add (j * 3)).add k).block = a.block := by rw [add_addr]; unfold Addr.add; split <;> rfl
  rw [← this]
  unfold World.cell?
  rw [heap_setCell_other w ⟨b, i, none⟩ _ u (by rw [hab]; exact hne a e)]
theorem SlP.setR {w : World} {A : Option Addr} {ps : List Pr} {b : Nat} {cs : Array Value} (h : SlP w A ps) (hne : ∀ a, A = some a → a.block ≠ b) : SlP (w.setRow b cs) A ps := by
  intro j q hq
  obtain ⟨a, e, hr⟩ := h j q hq
  refine ⟨a, e, fun k x hx => ?_⟩
  have := hr k x hx
  have hab : ((a.add (j * 3)).add k).block = a.block := by rw [add_addr]; unfold Addr.add; split <;> rfl
  rw [← this]
  unfold World.cell?
  rw [Go.setRow_other w b _ cs (by rw [hab]; exact hne a e)]

/-- A face as it is made: all zero. -/
def fc0 : Fc := ⟨List.replicate 26 0, 0, 0, []⟩
theorem fc0_T : FcT fc0 := ⟨rfl, fun i hi => by unfold fc0 rdI; rw [List.getD_eq_getElem?_getD, List.getElem?_replicate, if_pos hi]; simp, by unfold fc0; simp, by unfold fc0; simp, fun i hi => by unfold fc0 at hi; simp at hi⟩
/-- A face that was drawn, its pairs behind block b. -/
structure FcD (w : World) (b : Nat) (f : Fc) (S : Value) : Prop where
  typ : FcT f
  mem : ∃ A n c, S = .slice A n c ∧ f.pairs.length = n ∧ n ≤ 1048576 ∧ SlP w A f.pairs ∧ ∀ a, A = some a → b < a.block ∧ a.block < w.heap.size
theorem fc0_D (w : World) (b : Nat) : FcD w b fc0 (.slice none 0 0) := ⟨fc0_T, none, 0, 0, rfl, rfl, by omega, SlP.nil, fun a e => by cases e⟩
theorem FcD.next {w w' : World} {b : Nat} {f : Fc} {S : Value} (h : FcD w b f S) (hb : Below w.heap.size w w') : FcD w' b f S := by
  obtain ⟨h1, A, n, c, e, h2, h3, h4, h5⟩ := h
  exact ⟨h1, A, n, c, e, h2, h3, h4.next hb, fun a e => ⟨(h5 a e).1, by have := (h5 a e).2; have := hb.size; omega⟩⟩
/-- The face, with other pairs. -/
def withP (f : Fc) (ps : List Pr) : Fc := ⟨f.wide, f.space, f.gap, ps⟩
theorem withP_T {f : Fc} {ps : List Pr} (h : FcT f) (hp : ∀ i, i < ps.length → PrT (rdP ps i)) : FcT (withP f ps) := ⟨h.len, h.wide, h.space, h.gap, hp⟩
theorem prT_app {ps : List Pr} {u : Pr} (hp : ∀ i, i < ps.length → PrT (rdP ps i)) (hu : PrT u) : ∀ i, i < (ps ++ [u]).length → PrT (rdP (ps ++ [u]) i) := by
  intro i hi
  rw [List.length_append, List.length_singleton] at hi
  by_cases h : i < ps.length
  · have : rdP (ps ++ [u]) i = rdP ps i := by unfold rdP; rw [List.getD_eq_getElem?_getD, List.getD_eq_getElem?_getD, List.getElem?_append_left h]
    rw [this]; exact hp i h
  · have : rdP (ps ++ [u]) i = u := by unfold rdP; rw [List.getD_eq_getElem?_getD, List.getElem?_append_right (by omega)]; simp [show i - ps.length = 0 by omega]
    rw [this]; exact hu
/-- What WithPair has made. -/
structure WpRel (w : World) (f : Fc) (p : Pr) (S : Value) (ps : List Pr) (v : Value) (wr : World) : Prop where
  own : wr.ownsRow (w.heap.size + 3) 85 3 v ps.length (prVs ps)
  b2 : Blk wr w.heap.size 28 (fcV f S)
  b3 : Blk wr (w.heap.size + 1) 85 (prV p)
  b4 : Blk wr (w.heap.size + 1 + 1) 28 (fcV fc0 (.slice none 0 0))
  below : Below w.heap.size w wr
  typ : ∀ i, i < ps.length → PrT (rdP ps i)
  size : w.heap.size + 3 ≤ wr.heap.size
theorem WpRel.next {w wr w' : World} {f : Fc} {p : Pr} {S v : Value} {ps : List Pr} (h : WpRel w f p S ps v wr) (hb : Below wr.heap.size wr w') : WpRel w f p S ps v w' :=
  ⟨h.own.kept (grown_below (row := none) hb) (Classical.em _), h.b2.next hb, h.b3.next hb, h.b4.next hb, below_step h.below hb, h.typ, by have := hb.size; have := h.size; omega⟩
theorem WpRel.app {w wr w' : World} {f : Fc} {p u : Pr} {S v v' : Value} {ps : List Pr} (h : WpRel w f p S ps v wr) (ho : w'.ownsRow (w.heap.size + 3) 85 3 v' (ps.length + 1) (prVs (ps ++ [u]))) (hg : wr.grownBy w' v.ownBlock) (hu : PrT u) : WpRel w f p S (ps ++ [u]) v' w' := by
  refine ⟨by rw [List.length_append]; exact ho, h.b2.grown hg (own_ne h.own (by omega)), h.b3.grown hg (own_ne h.own (by omega)), h.b4.grown hg (own_ne h.own (by omega)), below_own h.below h.own hg (by omega) (by have := h.size; omega), prT_app h.typ hu, by have := hg.size; have := h.size; omega⟩

theorem own_slP {w : World} {base n : Nat} {v : Value} {ps : List Pr} (h : w.ownsRow base 85 3 v n (prVs ps)) : ∃ A c, v = .slice A n c ∧ ps.length = n ∧ SlP w A ps ∧ ∀ a, A = some a → base ≤ a.block ∧ a.block < w.heap.size := by
  obtain ⟨hl, h⟩ := h
  rw [prVs_length] at hl
  have hl2 : ps.length = n := by omega
  rcases h with ⟨rfl, rfl⟩ | ⟨g, cap, cur, rfl, hg, hh, hc, hm, hs, ht⟩
  · obtain rfl : ps = [] := List.eq_nil_of_length_eq_zero hl2
    exact ⟨none, 0, rfl, rfl, SlP.nil, fun a e => by cases e⟩
  · refine ⟨some ⟨g, 0, none⟩, cap, rfl, hl2, SlP.of_blk (t := 85) (cs := cur.toList.drop (n * 3)) ?_, fun a e => by injection e with e; subst e; exact ⟨hg, (Array.getElem?_eq_some_iff.1 hh).1⟩⟩
    unfold Blk
    rw [hh, ← ht, List.take_append_drop]
theorem fcV_set (f : Fc) (hf : FcT f) (S S' : Value) (ps : List Pr) : (fcV f S).set 28 S' = fcV (withP f ps) S' := by
  unfold fcV withP
  rw [List.set_append_right _ _ (by simp [hf.len])]
  simp [hf.len]
theorem withP_id (f : Fc) : withP f f.pairs = f := rfl
/-- The memory that WithPair begins with. -/
structure WpSt (w : World) (f : Fc) (p : Pr) (S : Value) (W : World) : Prop where
  b2 : Blk W w.heap.size 28 (fcV f S)
  b3 : Blk W (w.heap.size + 1) 85 (prV p)
  b4 : Blk W (w.heap.size + 1 + 1) 28 (fcV fc0 (.slice none 0 0))
  below : Below w.heap.size w W
  size : W.heap.size = w.heap.size + 3
theorem WpSt.start (w : World) (f : Fc) (p : Pr) (S : Value) :
    WpSt w f p S (((w.alloc (.cells (fcV f S).toArray 28)).alloc (.cells (prV p).toArray 85)).alloc (.cells (fcV fc0 (.slice none 0 0)).toArray 28)) :=
  ⟨((Blk.new w _ _).alloc _).alloc _, (Blk.at_new _ _ _ (by simp) _ _ rfl).alloc _, Blk.at_new _ _ _ (by simp) _ _ rfl, below_three _ _ _ _, by simp⟩

attribute [local irreducible] wpQuiet in
set_option maxHeartbeats 4000000 in
set_option maxRecDepth 100000 in
theorem with_any (f : Fc) (A : Option Addr) (n c : Nat) (p : Pr) (w : World) (hf : FcT f) (hp : PrT p) (hv : validF f = true) (pa : isLet p.a = true) (pb : isLet p.b = true) (hn : f.pairs.length = n) (hm : n ≤ 12) (hs : SlP w A f.pairs) :
    Calls Tryz.prog 53 #[.agg (fcV f (.slice A n c)).toArray, .agg (prV p).toArray] w fun e w' => ∃ (g : Fc) (S : Value) (code : Int), e = .returned (.tuple #[.agg (fcV g S).toArray, .int .i64 code]) ∧ (code = 0 → validF g = true) ∧ FcD w' (w.heap.size - 1) g S ∧ Below w.heap.size w w' := by
  have HS := Lib.hid hs
  have HN := Lib.hid hn
  have HF := Lib.hid hf
  have HP := Lib.hid hp
  have HV := Lib.hid hv
  have HPA := Lib.hid pa
  have HPB := Lib.hid pb
  clear hs hn hf hp hv pa pb
  go_enter Tryz.func53, Tryz.ntmps53
  repeat (first | go_values | go_skip | go_guarded | go_step | go_upon)
  refine gen_calls (WpSt w f p (.slice A n c)) (WpSt.start w f p (.slice A n c)) ?_
  rintro W0 ⟨k2, k3, k4, hB0, hz0⟩
  have K2 := Lib.hid k2
  have K3 := Lib.hid k3
  have K4 := Lib.hid k4
  clear k2 k3 k4
  go_at_call 73
  refine (face_spec f n w.heap.size W0 HF.out HN.out (by omega) ⟨A, c, K2.out, HS.out.next hB0⟩).mono ?_
  rintro e w1 ⟨he, hb1⟩
  rw [HV.out] at he
  subst he
  dsimp only
  have hB1 := Lib.hid (below_step hB0 hb1)
  have J2 := Lib.hid (K2.out.next hb1)
  have J3 := Lib.hid (K3.out.next hb1)
  have J4 := Lib.hid (K4.out.next hb1)
  have hz1 : w.heap.size + 3 ≤ w1.heap.size := by have := hb1.size; omega
  clear hB0 hz0 hb1 K2 K3 K4
  have c30 := J3.out.cell 0 _ rfl
  have c31 := J3.out.cell 1 _ rfl
  have c32 := J3.out.cell 2 _ rfl
  have HPY : ∃ b, ((p.y : Int) == 0) = b := ⟨_, rfl⟩
  obtain ⟨d0, hd0⟩ := HPY
  repeat (first | go_values | go_skip | go_guarded | go_step | go_upon)
  go_at_call 63
  refine (letter_spec p.a w1).mono ?_
  rintro e w2 ⟨he, rfl⟩
  rw [HPA.out] at he
  subst he
  dsimp only
  repeat (first | go_values | go_skip | go_guarded | go_step | go_upon)
  go_at_call 63
  refine (letter_spec p.b w1).mono ?_
  rintro e w2 ⟨he, rfl⟩
  rw [HPB.out] at he
  subst he
  dsimp only
  repeat ((with_reducible fail_if_success (show wpList _ _ _ (⟨some 23, _, _, _, _, _⟩ :: _) _ _)); first | go_values | go_skip | go_guarded | go_step | go_upon)
  refine wpList_val (by kernel_rfl) (.slice (some ⟨w1.heap.size, 0, none⟩) 0 0) (w1.alloc (.cells #[] 85)) (by kernel_rfl) ?_
  have hown := own_empty w1 w1.heap.size rfl (w.heap.size + 3) 85 hz1 3
  have hbb := below_one w1 (.cells #[] 85)
  have HR0 := Lib.hid (show WpRel w f p (.slice A n c) [] (.slice (some ⟨w1.heap.size, 0, none⟩) 0 0) (w1.alloc (.cells #[] 85)) from ⟨hown, J2.out.next hbb, J3.out.next hbb, J4.out.next hbb, below_step hB1.out hbb, fun i hi => by simp at hi, by simp; omega⟩)
  generalize w1.alloc (.cells #[] 85) = W1 at *
  clear hown hbb c30 c31 c32 J2 J3 J4 hB1 hz1
  have c32 := HR0.out.b3.cell 2 _ rfl
  repeat ((with_reducible fail_if_success (show Code.wp _ (Code.loop _) _ _ _)); first | go_values | go_skip | go_guarded | go_step | go_upon)
  try rw [hd0]
  go_loopw [6, 7, 8] (fun l d i wr => ∃ (k : Nat) (b : Bool) (ps : List Pr), k ≤ n ∧ i = .int .i64 k ∧ d = .bool b ∧ ps.length ≤ 2 * k ∧ WpRel w f p (.slice A n c) ps l wr) (fun _ _ i _ => n - (intOf i).toNat)
  case atStart => exact ⟨0, _, [], by omega, rfl, rfl, by simp, HR0.out⟩
  clear HR0 hd0 c32
  case round =>
    obtain ⟨k, b, ps, hk, rfl, rfl, hl, hr⟩ := hrel
    have HR := Lib.hid hr
    clear hr
    have c28 := HR.out.b2.cell 28 _ (fcV_pairs HF.out _)
    by_cases hlt : k < n
    · obtain ⟨a, rfl, hrow⟩ := (HS.out.next HR.out.below).get k (by rw [HN.out]; exact hlt)
      have ROW := Lib.hid hrow
      clear hrow
      cases b
      · cases hah : ahead p (rdP f.pairs k)
        · skip
          repeat ((with_reducible fail_if_success (show Code.wp _ (Code.region 10 _ _) _ _ _)); first | go_values | go_skip | go_guarded | go_step | go_upon)
          refine region_below (wr.heap.size) (by kernel_rfl) (by kernel_rfl) ?_
          refine below_run (by kernel_rfl) (.bool false) (fun w' hw' => by kernel_rfl) ?_
          refine below_run (by kernel_rfl) (.bool true) (fun w' hw' => by kernel_rfl) ?_
          refine below_run (by kernel_rfl) (.bool true) (fun w' hw' => by kernel_rfl) ?_
          refine below_run (by kernel_rfl) (.agg (prV p).toArray) (fun w' hw' => exec_loadV 85 (.tmp 3) rfl ⟨w.heap.size + 1, 0, none⟩ (by kernel_rfl) (prV p) _ (pr_row (HR.out.b3.next hw')) Tryz.underlying85 rfl szPrI) ?_
          refine below_run (by kernel_rfl) (.pointer (some ⟨w.heap.size, 28, none⟩)) (fun w' hw' => by kernel_rfl) ?_
          refine below_run (by kernel_rfl) (.slice (some a) n c) (fun w' hw' => exec_load1 26 (.tmp 38) rfl ⟨w.heap.size, 28, none⟩ (by kernel_rfl) (.slice (some a) n c) ((HR.out.b2.next hw').cell 28 _ (fcV_pairs HF.out _)) _ Tryz.underlying26 rfl) ?_
          refine below_run (by kernel_rfl) (.int .i64 k) (fun w' hw' => by kernel_rfl) ?_
          refine below_run (by kernel_rfl) (.pointer (some (Addr.add a (k * 3)))) (fun w' hw' => exec_index 26 (.tmp 39) (.tmp 40) rfl a n c (by kernel_rfl) .i64 k (by kernel_rfl) hlt 85 Tryz.underlying26 3 szPrI) ?_
          refine below_run (by kernel_rfl) (.agg (prV (rdP f.pairs k)).toArray) (fun w' hw' => exec_loadV 85 (.tmp 41) rfl (a.add (k * 3)) (by kernel_rfl) (prV (rdP f.pairs k)) _ (ROW.out.next hw') Tryz.underlying85 rfl szPrI) ?_
          refine below_call (by kernel_rfl) 76 #[.agg (prV p).toArray, .agg (prV (rdP f.pairs k)).toArray] (.bool false) (fun w' => by kernel_rfl) (fun w' hw' => (ahead_is _ _ w' hah).mono fun e w1 ⟨he, hb1⟩ => ⟨he, below_step hw' hb1⟩) ?_
          refine below_run (by kernel_rfl) (.bool false) (fun w' hw' => by kernel_rfl) ?_
          refine wpQuiet_nil ?_
          intro W2 hW2
          simp only [Act.put, List.setIfInBounds_toArray, List.set_cons_succ, List.set_cons_zero]
          have HR2 := Lib.hid (HR.out.next hW2)
          have ROW2 := Lib.hid (ROW.out.next hW2)
          clear hW2
          cases hq1 : ((rdP f.pairs k).a != p.a)
          · cases hq2 : ((rdP f.pairs k).b != p.b)
            · skip
              repeat ((with_reducible fail_if_success (show Code.wp _ (Code.region 13 _ _) _ _ _)); first | go_values | go_skip | go_guarded | go_step | go_upon)
              refine region_below (W2.heap.size) (by kernel_rfl) (by kernel_rfl) ?_
              refine below_run (by kernel_rfl) (.pointer (some ⟨w.heap.size, 28, none⟩)) (fun w' hw' => by kernel_rfl) ?_
              refine below_run (by kernel_rfl) (.slice (some a) n c) (fun w' hw' => exec_load1 26 (.tmp 49) rfl ⟨w.heap.size, 28, none⟩ (by kernel_rfl) (.slice (some a) n c) ((HR2.out.b2.next hw').cell 28 _ (fcV_pairs HF.out _)) _ Tryz.underlying26 rfl) ?_
              refine below_run (by kernel_rfl) (.int .i64 k) (fun w' hw' => by kernel_rfl) ?_
              refine below_run (by kernel_rfl) (.pointer (some (Addr.add a (k * 3)))) (fun w' hw' => exec_index 26 (.tmp 50) (.tmp 51) rfl a n c (by kernel_rfl) .i64 k (by kernel_rfl) hlt 85 Tryz.underlying26 3 szPrI) ?_
              refine below_run (by kernel_rfl) (.pointer (some ((a.add (k * 3)).add 0))) (fun w' hw' => by kernel_rfl) ?_
              refine below_run (by kernel_rfl) (.int .u8 (rdP f.pairs k).a) (fun w' hw' => exec_load1 5 (.tmp 53) rfl ((a.add (k * 3)).add 0) (by kernel_rfl) (.int .u8 (rdP f.pairs k).a) ((pr_cells (ROW2.out.next hw')).1) _ Tryz.underlying5 rfl) ?_
              refine below_run (by kernel_rfl) (.pointer (some ⟨w.heap.size + 1, 0, none⟩)) (fun w' hw' => by kernel_rfl) ?_
              refine below_run (by kernel_rfl) (.int .u8 p.a) (fun w' hw' => exec_load1 5 (.tmp 55) rfl ⟨w.heap.size + 1, 0, none⟩ (by kernel_rfl) (.int .u8 p.a) ((HR2.out.b3.next hw').cell 0 _ rfl) _ Tryz.underlying5 rfl) ?_
              refine below_run (by kernel_rfl) (.bool false) (fun w' hw' => Eq.trans (show (execOp _ _).run _ w' = .ok (.value (.bool ((rdP f.pairs k).a != p.a))) w' by kernel_rfl) (by rw [hq1])) ?_
              refine below_run (by kernel_rfl) (.bool false) (fun w' hw' => by kernel_rfl) ?_
              refine below_run (by kernel_rfl) (.pointer (some ⟨w.heap.size, 28, none⟩)) (fun w' hw' => by kernel_rfl) ?_
              refine below_run (by kernel_rfl) (.slice (some a) n c) (fun w' hw' => exec_load1 26 (.tmp 59) rfl ⟨w.heap.size, 28, none⟩ (by kernel_rfl) (.slice (some a) n c) ((HR2.out.b2.next hw').cell 28 _ (fcV_pairs HF.out _)) _ Tryz.underlying26 rfl) ?_
              refine below_run (by kernel_rfl) (.int .i64 k) (fun w' hw' => by kernel_rfl) ?_
              refine below_run (by kernel_rfl) (.pointer (some (Addr.add a (k * 3)))) (fun w' hw' => exec_index 26 (.tmp 60) (.tmp 61) rfl a n c (by kernel_rfl) .i64 k (by kernel_rfl) hlt 85 Tryz.underlying26 3 szPrI) ?_
              refine below_run (by kernel_rfl) (.pointer (some ((a.add (k * 3)).add 1))) (fun w' hw' => by kernel_rfl) ?_
              refine below_run (by kernel_rfl) (.int .u8 (rdP f.pairs k).b) (fun w' hw' => exec_load1 5 (.tmp 63) rfl ((a.add (k * 3)).add 1) (by kernel_rfl) (.int .u8 (rdP f.pairs k).b) ((pr_cells (ROW2.out.next hw')).2.1) _ Tryz.underlying5 rfl) ?_
              refine below_run (by kernel_rfl) (.pointer (some ⟨w.heap.size + 1, 1, none⟩)) (fun w' hw' => by kernel_rfl) ?_
              refine below_run (by kernel_rfl) (.int .u8 p.b) (fun w' hw' => exec_load1 5 (.tmp 65) rfl ⟨w.heap.size + 1, 1, none⟩ (by kernel_rfl) (.int .u8 p.b) ((HR2.out.b3.next hw').cell 1 _ rfl) _ Tryz.underlying5 rfl) ?_
              refine below_run (by kernel_rfl) (.bool false) (fun w' hw' => Eq.trans (show (execOp _ _).run _ w' = .ok (.value (.bool ((rdP f.pairs k).b != p.b))) w' by kernel_rfl) (by rw [hq2])) ?_
              refine below_run (by kernel_rfl) (.bool false) (fun w' hw' => by kernel_rfl) ?_
              refine wpQuiet_nil ?_
              intro W3 hW3
              simp only [Act.put, List.setIfInBounds_toArray, List.set_cons_succ, List.set_cons_zero]
              have H3 := Lib.hid (HR2.out.next hW3)
              have ROW3 := Lib.hid (ROW2.out.next hW3)
              have c28 := H3.out.b2.cell 28 _ (fcV_pairs HF.out _)
              clear hW3
              repeat (first | go_values | go_skip | go_guarded | go_step | go_upon)
              go_roundw
              case rel => exact ⟨k + 1, false, ps, by omega, by go_num, rfl, by (try simp only [List.length_append, List.length_singleton]); omega, H3.out⟩
              case measure => simp [intOf]; omega
            · skip
              repeat ((with_reducible fail_if_success (show Code.wp _ (Code.region 13 _ _) _ _ _)); first | go_values | go_skip | go_guarded | go_step | go_upon)
              refine region_below (W2.heap.size) (by kernel_rfl) (by kernel_rfl) ?_
              refine below_run (by kernel_rfl) (.pointer (some ⟨w.heap.size, 28, none⟩)) (fun w' hw' => by kernel_rfl) ?_
              refine below_run (by kernel_rfl) (.slice (some a) n c) (fun w' hw' => exec_load1 26 (.tmp 49) rfl ⟨w.heap.size, 28, none⟩ (by kernel_rfl) (.slice (some a) n c) ((HR2.out.b2.next hw').cell 28 _ (fcV_pairs HF.out _)) _ Tryz.underlying26 rfl) ?_
              refine below_run (by kernel_rfl) (.int .i64 k) (fun w' hw' => by kernel_rfl) ?_
              refine below_run (by kernel_rfl) (.pointer (some (Addr.add a (k * 3)))) (fun w' hw' => exec_index 26 (.tmp 50) (.tmp 51) rfl a n c (by kernel_rfl) .i64 k (by kernel_rfl) hlt 85 Tryz.underlying26 3 szPrI) ?_
              refine below_run (by kernel_rfl) (.pointer (some ((a.add (k * 3)).add 0))) (fun w' hw' => by kernel_rfl) ?_
              refine below_run (by kernel_rfl) (.int .u8 (rdP f.pairs k).a) (fun w' hw' => exec_load1 5 (.tmp 53) rfl ((a.add (k * 3)).add 0) (by kernel_rfl) (.int .u8 (rdP f.pairs k).a) ((pr_cells (ROW2.out.next hw')).1) _ Tryz.underlying5 rfl) ?_
              refine below_run (by kernel_rfl) (.pointer (some ⟨w.heap.size + 1, 0, none⟩)) (fun w' hw' => by kernel_rfl) ?_
              refine below_run (by kernel_rfl) (.int .u8 p.a) (fun w' hw' => exec_load1 5 (.tmp 55) rfl ⟨w.heap.size + 1, 0, none⟩ (by kernel_rfl) (.int .u8 p.a) ((HR2.out.b3.next hw').cell 0 _ rfl) _ Tryz.underlying5 rfl) ?_
              refine below_run (by kernel_rfl) (.bool false) (fun w' hw' => Eq.trans (show (execOp _ _).run _ w' = .ok (.value (.bool ((rdP f.pairs k).a != p.a))) w' by kernel_rfl) (by rw [hq1])) ?_
              refine below_run (by kernel_rfl) (.bool false) (fun w' hw' => by kernel_rfl) ?_
              refine below_run (by kernel_rfl) (.pointer (some ⟨w.heap.size, 28, none⟩)) (fun w' hw' => by kernel_rfl) ?_
              refine below_run (by kernel_rfl) (.slice (some a) n c) (fun w' hw' => exec_load1 26 (.tmp 59) rfl ⟨w.heap.size, 28, none⟩ (by kernel_rfl) (.slice (some a) n c) ((HR2.out.b2.next hw').cell 28 _ (fcV_pairs HF.out _)) _ Tryz.underlying26 rfl) ?_
              refine below_run (by kernel_rfl) (.int .i64 k) (fun w' hw' => by kernel_rfl) ?_
              refine below_run (by kernel_rfl) (.pointer (some (Addr.add a (k * 3)))) (fun w' hw' => exec_index 26 (.tmp 60) (.tmp 61) rfl a n c (by kernel_rfl) .i64 k (by kernel_rfl) hlt 85 Tryz.underlying26 3 szPrI) ?_
              refine below_run (by kernel_rfl) (.pointer (some ((a.add (k * 3)).add 1))) (fun w' hw' => by kernel_rfl) ?_
              refine below_run (by kernel_rfl) (.int .u8 (rdP f.pairs k).b) (fun w' hw' => exec_load1 5 (.tmp 63) rfl ((a.add (k * 3)).add 1) (by kernel_rfl) (.int .u8 (rdP f.pairs k).b) ((pr_cells (ROW2.out.next hw')).2.1) _ Tryz.underlying5 rfl) ?_
              refine below_run (by kernel_rfl) (.pointer (some ⟨w.heap.size + 1, 1, none⟩)) (fun w' hw' => by kernel_rfl) ?_
              refine below_run (by kernel_rfl) (.int .u8 p.b) (fun w' hw' => exec_load1 5 (.tmp 65) rfl ⟨w.heap.size + 1, 1, none⟩ (by kernel_rfl) (.int .u8 p.b) ((HR2.out.b3.next hw').cell 1 _ rfl) _ Tryz.underlying5 rfl) ?_
              refine below_run (by kernel_rfl) (.bool true) (fun w' hw' => Eq.trans (show (execOp _ _).run _ w' = .ok (.value (.bool ((rdP f.pairs k).b != p.b))) w' by kernel_rfl) (by rw [hq2])) ?_
              refine below_run (by kernel_rfl) (.bool true) (fun w' hw' => by kernel_rfl) ?_
              refine wpQuiet_nil ?_
              intro W3 hW3
              simp only [Act.put, List.setIfInBounds_toArray, List.set_cons_succ, List.set_cons_zero]
              have H3 := Lib.hid (HR2.out.next hW3)
              have ROW3 := Lib.hid (ROW2.out.next hW3)
              have c28 := H3.out.b2.cell 28 _ (fcV_pairs HF.out _)
              clear hW3
              repeat ((with_reducible fail_if_success (show wpList _ _ _ (⟨some 74, _, _, _, _, _⟩ :: _) _ _)); first | go_values | go_skip | go_guarded | go_step | go_upon)
              refine wpList_loadV rfl 85 (.tmp 73) rfl (a.add (k * 3)) rfl (prV (rdP f.pairs k)) _ (ROW3.out) Tryz.underlying85 rfl szPrI ?_
              clear c28
              repeat ((with_reducible fail_if_success (show wpList _ _ _ (⟨some 75, _, _, _, _, _⟩ :: _) _ _)); first | go_values | go_skip | go_guarded | go_step | go_upon)
              refine wpList_val (by kernel_rfl) (.slice (some ⟨W3.heap.size, 0, none⟩) 1 1) (W3.alloc (.cells (prV (rdP f.pairs k)).toArray 85)) (by kernel_rfl) ?_
              repeat ((with_reducible fail_if_success (show wpList _ _ _ (⟨some 76, _, _, _, _, _⟩ :: _) _ _)); first | go_values | go_skip | go_guarded | go_step | go_upon)
              refine wpList_appP rfl (.tmp 69) (.tmp 75) rfl W3 (w.heap.size + 3) u6 ps (ps).length rfl H3.out.own (rdP f.pairs k) rfl (by (try simp only [List.length_append, List.length_singleton]); omega) H3.out.size ?_
              intro v' w' ho' hg'
              have HR' := Lib.hid (H3.out.app ho' hg' (HF.out.pairs k (by rw [HN.out]; exact hlt)))
              clear ho' hg'
              repeat (first | go_values | go_skip | go_guarded | go_step | go_upon)
              go_roundw
              case rel => exact ⟨k + 1, false, ps ++ [rdP f.pairs k], by omega, by go_num, rfl, by simp only [List.length_append, List.length_singleton]; omega, HR'.out⟩
              case measure => simp [intOf]; omega
          · skip
            repeat ((with_reducible fail_if_success (show Code.wp _ (Code.region 13 _ _) _ _ _)); first | go_values | go_skip | go_guarded | go_step | go_upon)
            refine region_below (W2.heap.size) (by kernel_rfl) (by kernel_rfl) ?_
            refine below_run (by kernel_rfl) (.pointer (some ⟨w.heap.size, 28, none⟩)) (fun w' hw' => by kernel_rfl) ?_
            refine below_run (by kernel_rfl) (.slice (some a) n c) (fun w' hw' => exec_load1 26 (.tmp 49) rfl ⟨w.heap.size, 28, none⟩ (by kernel_rfl) (.slice (some a) n c) ((HR2.out.b2.next hw').cell 28 _ (fcV_pairs HF.out _)) _ Tryz.underlying26 rfl) ?_
            refine below_run (by kernel_rfl) (.int .i64 k) (fun w' hw' => by kernel_rfl) ?_
            refine below_run (by kernel_rfl) (.pointer (some (Addr.add a (k * 3)))) (fun w' hw' => exec_index 26 (.tmp 50) (.tmp 51) rfl a n c (by kernel_rfl) .i64 k (by kernel_rfl) hlt 85 Tryz.underlying26 3 szPrI) ?_
            refine below_run (by kernel_rfl) (.pointer (some ((a.add (k * 3)).add 0))) (fun w' hw' => by kernel_rfl) ?_
            refine below_run (by kernel_rfl) (.int .u8 (rdP f.pairs k).a) (fun w' hw' => exec_load1 5 (.tmp 53) rfl ((a.add (k * 3)).add 0) (by kernel_rfl) (.int .u8 (rdP f.pairs k).a) ((pr_cells (ROW2.out.next hw')).1) _ Tryz.underlying5 rfl) ?_
            refine below_run (by kernel_rfl) (.pointer (some ⟨w.heap.size + 1, 0, none⟩)) (fun w' hw' => by kernel_rfl) ?_
            refine below_run (by kernel_rfl) (.int .u8 p.a) (fun w' hw' => exec_load1 5 (.tmp 55) rfl ⟨w.heap.size + 1, 0, none⟩ (by kernel_rfl) (.int .u8 p.a) ((HR2.out.b3.next hw').cell 0 _ rfl) _ Tryz.underlying5 rfl) ?_
            refine below_run (by kernel_rfl) (.bool true) (fun w' hw' => Eq.trans (show (execOp _ _).run _ w' = .ok (.value (.bool ((rdP f.pairs k).a != p.a))) w' by kernel_rfl) (by rw [hq1])) ?_
            refine below_run (by kernel_rfl) (.bool true) (fun w' hw' => by kernel_rfl) ?_
            refine BigFrame.wpQuiet_skip (by kernel_rfl) ?_
            refine BigFrame.wpQuiet_skip (by kernel_rfl) ?_
            refine BigFrame.wpQuiet_skip (by kernel_rfl) ?_
            refine BigFrame.wpQuiet_skip (by kernel_rfl) ?_
            refine BigFrame.wpQuiet_skip (by kernel_rfl) ?_
            refine BigFrame.wpQuiet_skip (by kernel_rfl) ?_
            refine BigFrame.wpQuiet_skip (by kernel_rfl) ?_
            refine BigFrame.wpQuiet_skip (by kernel_rfl) ?_
            refine BigFrame.wpQuiet_skip (by kernel_rfl) ?_
            refine below_run (by kernel_rfl) (.bool true) (fun w' hw' => by kernel_rfl) ?_
            refine wpQuiet_nil ?_
            intro W3 hW3
            simp only [Act.put, List.setIfInBounds_toArray, List.set_cons_succ, List.set_cons_zero]
            have H3 := Lib.hid (HR2.out.next hW3)
            have ROW3 := Lib.hid (ROW2.out.next hW3)
            have c28 := H3.out.b2.cell 28 _ (fcV_pairs HF.out _)
            clear hW3
            repeat ((with_reducible fail_if_success (show wpList _ _ _ (⟨some 74, _, _, _, _, _⟩ :: _) _ _)); first | go_values | go_skip | go_guarded | go_step | go_upon)
            refine wpList_loadV rfl 85 (.tmp 73) rfl (a.add (k * 3)) rfl (prV (rdP f.pairs k)) _ (ROW3.out) Tryz.underlying85 rfl szPrI ?_
            clear c28
            repeat ((with_reducible fail_if_success (show wpList _ _ _ (⟨some 75, _, _, _, _, _⟩ :: _) _ _)); first | go_values | go_skip | go_guarded | go_step | go_upon)
            refine wpList_val (by kernel_rfl) (.slice (some ⟨W3.heap.size, 0, none⟩) 1 1) (W3.alloc (.cells (prV (rdP f.pairs k)).toArray 85)) (by kernel_rfl) ?_
            repeat ((with_reducible fail_if_success (show wpList _ _ _ (⟨some 76, _, _, _, _, _⟩ :: _) _ _)); first | go_values | go_skip | go_guarded | go_step | go_upon)
            refine wpList_appP rfl (.tmp 69) (.tmp 75) rfl W3 (w.heap.size + 3) u6 ps (ps).length rfl H3.out.own (rdP f.pairs k) rfl (by (try simp only [List.length_append, List.length_singleton]); omega) H3.out.size ?_
            intro v' w' ho' hg'
            have HR' := Lib.hid (H3.out.app ho' hg' (HF.out.pairs k (by rw [HN.out]; exact hlt)))
            clear ho' hg'
            repeat (first | go_values | go_skip | go_guarded | go_step | go_upon)
            go_roundw
            case rel => exact ⟨k + 1, false, ps ++ [rdP f.pairs k], by omega, by go_num, rfl, by simp only [List.length_append, List.length_singleton]; omega, HR'.out⟩
            case measure => simp [intOf]; omega
        · skip
          repeat ((with_reducible fail_if_success (show Code.wp _ (Code.region 10 _ _) _ _ _)); first | go_values | go_skip | go_guarded | go_step | go_upon)
          refine region_below (wr.heap.size) (by kernel_rfl) (by kernel_rfl) ?_
          refine below_run (by kernel_rfl) (.bool false) (fun w' hw' => by kernel_rfl) ?_
          refine below_run (by kernel_rfl) (.bool true) (fun w' hw' => by kernel_rfl) ?_
          refine below_run (by kernel_rfl) (.bool true) (fun w' hw' => by kernel_rfl) ?_
          refine below_run (by kernel_rfl) (.agg (prV p).toArray) (fun w' hw' => exec_loadV 85 (.tmp 3) rfl ⟨w.heap.size + 1, 0, none⟩ (by kernel_rfl) (prV p) _ (pr_row (HR.out.b3.next hw')) Tryz.underlying85 rfl szPrI) ?_
          refine below_run (by kernel_rfl) (.pointer (some ⟨w.heap.size, 28, none⟩)) (fun w' hw' => by kernel_rfl) ?_
          refine below_run (by kernel_rfl) (.slice (some a) n c) (fun w' hw' => exec_load1 26 (.tmp 38) rfl ⟨w.heap.size, 28, none⟩ (by kernel_rfl) (.slice (some a) n c) ((HR.out.b2.next hw').cell 28 _ (fcV_pairs HF.out _)) _ Tryz.underlying26 rfl) ?_
          refine below_run (by kernel_rfl) (.int .i64 k) (fun w' hw' => by kernel_rfl) ?_
          refine below_run (by kernel_rfl) (.pointer (some (Addr.add a (k * 3)))) (fun w' hw' => exec_index 26 (.tmp 39) (.tmp 40) rfl a n c (by kernel_rfl) .i64 k (by kernel_rfl) hlt 85 Tryz.underlying26 3 szPrI) ?_
          refine below_run (by kernel_rfl) (.agg (prV (rdP f.pairs k)).toArray) (fun w' hw' => exec_loadV 85 (.tmp 41) rfl (a.add (k * 3)) (by kernel_rfl) (prV (rdP f.pairs k)) _ (ROW.out.next hw') Tryz.underlying85 rfl szPrI) ?_
          refine below_call (by kernel_rfl) 76 #[.agg (prV p).toArray, .agg (prV (rdP f.pairs k)).toArray] (.bool true) (fun w' => by kernel_rfl) (fun w' hw' => (ahead_is _ _ w' hah).mono fun e w1 ⟨he, hb1⟩ => ⟨he, below_step hw' hb1⟩) ?_
          refine below_run (by kernel_rfl) (.bool true) (fun w' hw' => by kernel_rfl) ?_
          refine wpQuiet_nil ?_
          intro W2 hW2
          simp only [Act.put, List.setIfInBounds_toArray, List.set_cons_succ, List.set_cons_zero]
          have HR2 := Lib.hid (HR.out.next hW2)
          have ROW2 := Lib.hid (ROW.out.next hW2)
          clear hW2
          repeat ((with_reducible fail_if_success (show wpList _ _ _ (⟨some 46, _, _, _, _, _⟩ :: _) _ _)); first | go_values | go_skip | go_guarded | go_step | go_upon)
          refine wpList_loadV rfl 85 (.tmp 3) rfl ⟨w.heap.size + 1, 0, none⟩ rfl (prV p) _ (pr_row HR2.out.b3) Tryz.underlying85 rfl szPrI ?_
          repeat ((with_reducible fail_if_success (show wpList _ _ _ (⟨some 47, _, _, _, _, _⟩ :: _) _ _)); first | go_values | go_skip | go_guarded | go_step | go_upon)
          refine wpList_val (by kernel_rfl) (.slice (some ⟨W2.heap.size, 0, none⟩) 1 1) (W2.alloc (.cells (prV p).toArray 85)) (by kernel_rfl) ?_
          repeat ((with_reducible fail_if_success (show wpList _ _ _ (⟨some 48, _, _, _, _, _⟩ :: _) _ _)); first | go_values | go_skip | go_guarded | go_step | go_upon)
          refine wpList_appP rfl (.tmp 45) (.tmp 47) rfl W2 (w.heap.size + 3) u6 ps (ps).length rfl HR2.out.own p rfl (by (try simp only [List.length_append, List.length_singleton]); omega) HR2.out.size ?_
          intro v' w' ho' hg'
          have HR' := Lib.hid (HR2.out.app ho' hg' HP.out)
          clear ho' hg'
          have HR4 := HR'
          obtain ⟨a4, e4, hrow4⟩ := (HS.out.next HR4.out.below).get k (by rw [HN.out]; exact hlt)
          injection e4 with e4
          subst e4
          have ROW5 := Lib.hid hrow4
          clear hrow4 HR2 HR'
          cases hq1 : ((rdP f.pairs k).a != p.a)
          · cases hq2 : ((rdP f.pairs k).b != p.b)
            · skip
              repeat ((with_reducible fail_if_success (show Code.wp _ (Code.region 13 _ _) _ _ _)); first | go_values | go_skip | go_guarded | go_step | go_upon)
              refine region_below (w'.heap.size) (by kernel_rfl) (by kernel_rfl) ?_
              refine below_run (by kernel_rfl) (.pointer (some ⟨w.heap.size, 28, none⟩)) (fun w' hw' => by kernel_rfl) ?_
              refine below_run (by kernel_rfl) (.slice (some a) n c) (fun w' hw' => exec_load1 26 (.tmp 49) rfl ⟨w.heap.size, 28, none⟩ (by kernel_rfl) (.slice (some a) n c) ((HR4.out.b2.next hw').cell 28 _ (fcV_pairs HF.out _)) _ Tryz.underlying26 rfl) ?_
              refine below_run (by kernel_rfl) (.int .i64 k) (fun w' hw' => by kernel_rfl) ?_
              refine below_run (by kernel_rfl) (.pointer (some (Addr.add a (k * 3)))) (fun w' hw' => exec_index 26 (.tmp 50) (.tmp 51) rfl a n c (by kernel_rfl) .i64 k (by kernel_rfl) hlt 85 Tryz.underlying26 3 szPrI) ?_
              refine below_run (by kernel_rfl) (.pointer (some ((a.add (k * 3)).add 0))) (fun w' hw' => by kernel_rfl) ?_
              refine below_run (by kernel_rfl) (.int .u8 (rdP f.pairs k).a) (fun w' hw' => exec_load1 5 (.tmp 53) rfl ((a.add (k * 3)).add 0) (by kernel_rfl) (.int .u8 (rdP f.pairs k).a) ((pr_cells (ROW5.out.next hw')).1) _ Tryz.underlying5 rfl) ?_
              refine below_run (by kernel_rfl) (.pointer (some ⟨w.heap.size + 1, 0, none⟩)) (fun w' hw' => by kernel_rfl) ?_
              refine below_run (by kernel_rfl) (.int .u8 p.a) (fun w' hw' => exec_load1 5 (.tmp 55) rfl ⟨w.heap.size + 1, 0, none⟩ (by kernel_rfl) (.int .u8 p.a) ((HR4.out.b3.next hw').cell 0 _ rfl) _ Tryz.underlying5 rfl) ?_
              refine below_run (by kernel_rfl) (.bool false) (fun w' hw' => Eq.trans (show (execOp _ _).run _ w' = .ok (.value (.bool ((rdP f.pairs k).a != p.a))) w' by kernel_rfl) (by rw [hq1])) ?_
              refine below_run (by kernel_rfl) (.bool false) (fun w' hw' => by kernel_rfl) ?_
              refine below_run (by kernel_rfl) (.pointer (some ⟨w.heap.size, 28, none⟩)) (fun w' hw' => by kernel_rfl) ?_
              refine below_run (by kernel_rfl) (.slice (some a) n c) (fun w' hw' => exec_load1 26 (.tmp 59) rfl ⟨w.heap.size, 28, none⟩ (by kernel_rfl) (.slice (some a) n c) ((HR4.out.b2.next hw').cell 28 _ (fcV_pairs HF.out _)) _ Tryz.underlying26 rfl) ?_
              refine below_run (by kernel_rfl) (.int .i64 k) (fun w' hw' => by kernel_rfl) ?_
              refine below_run (by kernel_rfl) (.pointer (some (Addr.add a (k * 3)))) (fun w' hw' => exec_index 26 (.tmp 60) (.tmp 61) rfl a n c (by kernel_rfl) .i64 k (by kernel_rfl) hlt 85 Tryz.underlying26 3 szPrI) ?_
              refine below_run (by kernel_rfl) (.pointer (some ((a.add (k * 3)).add 1))) (fun w' hw' => by kernel_rfl) ?_
              refine below_run (by kernel_rfl) (.int .u8 (rdP f.pairs k).b) (fun w' hw' => exec_load1 5 (.tmp 63) rfl ((a.add (k * 3)).add 1) (by kernel_rfl) (.int .u8 (rdP f.pairs k).b) ((pr_cells (ROW5.out.next hw')).2.1) _ Tryz.underlying5 rfl) ?_
              refine below_run (by kernel_rfl) (.pointer (some ⟨w.heap.size + 1, 1, none⟩)) (fun w' hw' => by kernel_rfl) ?_
              refine below_run (by kernel_rfl) (.int .u8 p.b) (fun w' hw' => exec_load1 5 (.tmp 65) rfl ⟨w.heap.size + 1, 1, none⟩ (by kernel_rfl) (.int .u8 p.b) ((HR4.out.b3.next hw').cell 1 _ rfl) _ Tryz.underlying5 rfl) ?_
              refine below_run (by kernel_rfl) (.bool false) (fun w' hw' => Eq.trans (show (execOp _ _).run _ w' = .ok (.value (.bool ((rdP f.pairs k).b != p.b))) w' by kernel_rfl) (by rw [hq2])) ?_
              refine below_run (by kernel_rfl) (.bool false) (fun w' hw' => by kernel_rfl) ?_
              refine wpQuiet_nil ?_
              intro W3 hW3
              simp only [Act.put, List.setIfInBounds_toArray, List.set_cons_succ, List.set_cons_zero]
              have H3 := Lib.hid (HR4.out.next hW3)
              have ROW3 := Lib.hid (ROW5.out.next hW3)
              have c28 := H3.out.b2.cell 28 _ (fcV_pairs HF.out _)
              clear hW3
              repeat (first | go_values | go_skip | go_guarded | go_step | go_upon)
              go_roundw
              case rel => exact ⟨k + 1, true, (ps ++ [p]), by omega, by go_num, rfl, by (try simp only [List.length_append, List.length_singleton]); omega, H3.out⟩
              case measure => simp [intOf]; omega
            · skip
              repeat ((with_reducible fail_if_success (show Code.wp _ (Code.region 13 _ _) _ _ _)); first | go_values | go_skip | go_guarded | go_step | go_upon)
              refine region_below (w'.heap.size) (by kernel_rfl) (by kernel_rfl) ?_
              refine below_run (by kernel_rfl) (.pointer (some ⟨w.heap.size, 28, none⟩)) (fun w' hw' => by kernel_rfl) ?_
              refine below_run (by kernel_rfl) (.slice (some a) n c) (fun w' hw' => exec_load1 26 (.tmp 49) rfl ⟨w.heap.size, 28, none⟩ (by kernel_rfl) (.slice (some a) n c) ((HR4.out.b2.next hw').cell 28 _ (fcV_pairs HF.out _)) _ Tryz.underlying26 rfl) ?_
              refine below_run (by kernel_rfl) (.int .i64 k) (fun w' hw' => by kernel_rfl) ?_
              refine below_run (by kernel_rfl) (.pointer (some (Addr.add a (k * 3)))) (fun w' hw' => exec_index 26 (.tmp 50) (.tmp 51) rfl a n c (by kernel_rfl) .i64 k (by kernel_rfl) hlt 85 Tryz.underlying26 3 szPrI) ?_
              refine below_run (by kernel_rfl) (.pointer (some ((a.add (k * 3)).add 0))) (fun w' hw' => by kernel_rfl) ?_
              refine below_run (by kernel_rfl) (.int .u8 (rdP f.pairs k).a) (fun w' hw' => exec_load1 5 (.tmp 53) rfl ((a.add (k * 3)).add 0) (by kernel_rfl) (.int .u8 (rdP f.pairs k).a) ((pr_cells (ROW5.out.next hw')).1) _ Tryz.underlying5 rfl) ?_
              refine below_run (by kernel_rfl) (.pointer (some ⟨w.heap.size + 1, 0, none⟩)) (fun w' hw' => by kernel_rfl) ?_
              refine below_run (by kernel_rfl) (.int .u8 p.a) (fun w' hw' => exec_load1 5 (.tmp 55) rfl ⟨w.heap.size + 1, 0, none⟩ (by kernel_rfl) (.int .u8 p.a) ((HR4.out.b3.next hw').cell 0 _ rfl) _ Tryz.underlying5 rfl) ?_
              refine below_run (by kernel_rfl) (.bool false) (fun w' hw' => Eq.trans (show (execOp _ _).run _ w' = .ok (.value (.bool ((rdP f.pairs k).a != p.a))) w' by kernel_rfl) (by rw [hq1])) ?_
              refine below_run (by kernel_rfl) (.bool false) (fun w' hw' => by kernel_rfl) ?_
              refine below_run (by kernel_rfl) (.pointer (some ⟨w.heap.size, 28, none⟩)) (fun w' hw' => by kernel_rfl) ?_
              refine below_run (by kernel_rfl) (.slice (some a) n c) (fun w' hw' => exec_load1 26 (.tmp 59) rfl ⟨w.heap.size, 28, none⟩ (by kernel_rfl) (.slice (some a) n c) ((HR4.out.b2.next hw').cell 28 _ (fcV_pairs HF.out _)) _ Tryz.underlying26 rfl) ?_
              refine below_run (by kernel_rfl) (.int .i64 k) (fun w' hw' => by kernel_rfl) ?_
              refine below_run (by kernel_rfl) (.pointer (some (Addr.add a (k * 3)))) (fun w' hw' => exec_index 26 (.tmp 60) (.tmp 61) rfl a n c (by kernel_rfl) .i64 k (by kernel_rfl) hlt 85 Tryz.underlying26 3 szPrI) ?_
              refine below_run (by kernel_rfl) (.pointer (some ((a.add (k * 3)).add 1))) (fun w' hw' => by kernel_rfl) ?_
              refine below_run (by kernel_rfl) (.int .u8 (rdP f.pairs k).b) (fun w' hw' => exec_load1 5 (.tmp 63) rfl ((a.add (k * 3)).add 1) (by kernel_rfl) (.int .u8 (rdP f.pairs k).b) ((pr_cells (ROW5.out.next hw')).2.1) _ Tryz.underlying5 rfl) ?_
              refine below_run (by kernel_rfl) (.pointer (some ⟨w.heap.size + 1, 1, none⟩)) (fun w' hw' => by kernel_rfl) ?_
              refine below_run (by kernel_rfl) (.int .u8 p.b) (fun w' hw' => exec_load1 5 (.tmp 65) rfl ⟨w.heap.size + 1, 1, none⟩ (by kernel_rfl) (.int .u8 p.b) ((HR4.out.b3.next hw').cell 1 _ rfl) _ Tryz.underlying5 rfl) ?_
              refine below_run (by kernel_rfl) (.bool true) (fun w' hw' => Eq.trans (show (execOp _ _).run _ w' = .ok (.value (.bool ((rdP f.pairs k).b != p.b))) w' by kernel_rfl) (by rw [hq2])) ?_
              refine below_run (by kernel_rfl) (.bool true) (fun w' hw' => by kernel_rfl) ?_
              refine wpQuiet_nil ?_
              intro W3 hW3
              simp only [Act.put, List.setIfInBounds_toArray, List.set_cons_succ, List.set_cons_zero]
              have H3 := Lib.hid (HR4.out.next hW3)
              have ROW3 := Lib.hid (ROW5.out.next hW3)
              have c28 := H3.out.b2.cell 28 _ (fcV_pairs HF.out _)
              clear hW3
              repeat ((with_reducible fail_if_success (show wpList _ _ _ (⟨some 74, _, _, _, _, _⟩ :: _) _ _)); first | go_values | go_skip | go_guarded | go_step | go_upon)
              refine wpList_loadV rfl 85 (.tmp 73) rfl (a.add (k * 3)) rfl (prV (rdP f.pairs k)) _ (ROW3.out) Tryz.underlying85 rfl szPrI ?_
              clear c28
              repeat ((with_reducible fail_if_success (show wpList _ _ _ (⟨some 75, _, _, _, _, _⟩ :: _) _ _)); first | go_values | go_skip | go_guarded | go_step | go_upon)
              refine wpList_val (by kernel_rfl) (.slice (some ⟨W3.heap.size, 0, none⟩) 1 1) (W3.alloc (.cells (prV (rdP f.pairs k)).toArray 85)) (by kernel_rfl) ?_
              repeat ((with_reducible fail_if_success (show wpList _ _ _ (⟨some 76, _, _, _, _, _⟩ :: _) _ _)); first | go_values | go_skip | go_guarded | go_step | go_upon)
              refine wpList_appP rfl (.tmp 69) (.tmp 75) rfl W3 (w.heap.size + 3) v' (ps ++ [p]) ((ps ++ [p])).length rfl H3.out.own (rdP f.pairs k) rfl (by (try simp only [List.length_append, List.length_singleton]); omega) H3.out.size ?_
              intro v' w' ho' hg'
              have HR' := Lib.hid (H3.out.app ho' hg' (HF.out.pairs k (by rw [HN.out]; exact hlt)))
              clear ho' hg'
              repeat (first | go_values | go_skip | go_guarded | go_step | go_upon)
              go_roundw
              case rel => exact ⟨k + 1, true, (ps ++ [p]) ++ [rdP f.pairs k], by omega, by go_num, rfl, by simp only [List.length_append, List.length_singleton]; omega, HR'.out⟩
              case measure => simp [intOf]; omega
          · skip
            repeat ((with_reducible fail_if_success (show Code.wp _ (Code.region 13 _ _) _ _ _)); first | go_values | go_skip | go_guarded | go_step | go_upon)
            refine region_below (w'.heap.size) (by kernel_rfl) (by kernel_rfl) ?_
            refine below_run (by kernel_rfl) (.pointer (some ⟨w.heap.size, 28, none⟩)) (fun w' hw' => by kernel_rfl) ?_
            refine below_run (by kernel_rfl) (.slice (some a) n c) (fun w' hw' => exec_load1 26 (.tmp 49) rfl ⟨w.heap.size, 28, none⟩ (by kernel_rfl) (.slice (some a) n c) ((HR4.out.b2.next hw').cell 28 _ (fcV_pairs HF.out _)) _ Tryz.underlying26 rfl) ?_
            refine below_run (by kernel_rfl) (.int .i64 k) (fun w' hw' => by kernel_rfl) ?_
            refine below_run (by kernel_rfl) (.pointer (some (Addr.add a (k * 3)))) (fun w' hw' => exec_index 26 (.tmp 50) (.tmp 51) rfl a n c (by kernel_rfl) .i64 k (by kernel_rfl) hlt 85 Tryz.underlying26 3 szPrI) ?_
            refine below_run (by kernel_rfl) (.pointer (some ((a.add (k * 3)).add 0))) (fun w' hw' => by kernel_rfl) ?_
            refine below_run (by kernel_rfl) (.int .u8 (rdP f.pairs k).a) (fun w' hw' => exec_load1 5 (.tmp 53) rfl ((a.add (k * 3)).add 0) (by kernel_rfl) (.int .u8 (rdP f.pairs k).a) ((pr_cells (ROW5.out.next hw')).1) _ Tryz.underlying5 rfl) ?_
            refine below_run (by kernel_rfl) (.pointer (some ⟨w.heap.size + 1, 0, none⟩)) (fun w' hw' => by kernel_rfl) ?_
            refine below_run (by kernel_rfl) (.int .u8 p.a) (fun w' hw' => exec_load1 5 (.tmp 55) rfl ⟨w.heap.size + 1, 0, none⟩ (by kernel_rfl) (.int .u8 p.a) ((HR4.out.b3.next hw').cell 0 _ rfl) _ Tryz.underlying5 rfl) ?_
            refine below_run (by kernel_rfl) (.bool true) (fun w' hw' => Eq.trans (show (execOp _ _).run _ w' = .ok (.value (.bool ((rdP f.pairs k).a != p.a))) w' by kernel_rfl) (by rw [hq1])) ?_
            refine below_run (by kernel_rfl) (.bool true) (fun w' hw' => by kernel_rfl) ?_
            refine BigFrame.wpQuiet_skip (by kernel_rfl) ?_
            refine BigFrame.wpQuiet_skip (by kernel_rfl) ?_
            refine BigFrame.wpQuiet_skip (by kernel_rfl) ?_
            refine BigFrame.wpQuiet_skip (by kernel_rfl) ?_
            refine BigFrame.wpQuiet_skip (by kernel_rfl) ?_
            refine BigFrame.wpQuiet_skip (by kernel_rfl) ?_
            refine BigFrame.wpQuiet_skip (by kernel_rfl) ?_
            refine BigFrame.wpQuiet_skip (by kernel_rfl) ?_
            refine BigFrame.wpQuiet_skip (by kernel_rfl) ?_
            refine below_run (by kernel_rfl) (.bool true) (fun w' hw' => by kernel_rfl) ?_
            refine wpQuiet_nil ?_
            intro W3 hW3
            simp only [Act.put, List.setIfInBounds_toArray, List.set_cons_succ, List.set_cons_zero]
            have H3 := Lib.hid (HR4.out.next hW3)
            have ROW3 := Lib.hid (ROW5.out.next hW3)
            have c28 := H3.out.b2.cell 28 _ (fcV_pairs HF.out _)
            clear hW3
            repeat ((with_reducible fail_if_success (show wpList _ _ _ (⟨some 74, _, _, _, _, _⟩ :: _) _ _)); first | go_values | go_skip | go_guarded | go_step | go_upon)
            refine wpList_loadV rfl 85 (.tmp 73) rfl (a.add (k * 3)) rfl (prV (rdP f.pairs k)) _ (ROW3.out) Tryz.underlying85 rfl szPrI ?_
            clear c28
            repeat ((with_reducible fail_if_success (show wpList _ _ _ (⟨some 75, _, _, _, _, _⟩ :: _) _ _)); first | go_values | go_skip | go_guarded | go_step | go_upon)
            refine wpList_val (by kernel_rfl) (.slice (some ⟨W3.heap.size, 0, none⟩) 1 1) (W3.alloc (.cells (prV (rdP f.pairs k)).toArray 85)) (by kernel_rfl) ?_
            repeat ((with_reducible fail_if_success (show wpList _ _ _ (⟨some 76, _, _, _, _, _⟩ :: _) _ _)); first | go_values | go_skip | go_guarded | go_step | go_upon)
            refine wpList_appP rfl (.tmp 69) (.tmp 75) rfl W3 (w.heap.size + 3) v' (ps ++ [p]) ((ps ++ [p])).length rfl H3.out.own (rdP f.pairs k) rfl (by (try simp only [List.length_append, List.length_singleton]); omega) H3.out.size ?_
            intro v' w' ho' hg'
            have HR' := Lib.hid (H3.out.app ho' hg' (HF.out.pairs k (by rw [HN.out]; exact hlt)))
            clear ho' hg'
            repeat (first | go_values | go_skip | go_guarded | go_step | go_upon)
            go_roundw
            case rel => exact ⟨k + 1, true, (ps ++ [p]) ++ [rdP f.pairs k], by omega, by go_num, rfl, by simp only [List.length_append, List.length_singleton]; omega, HR'.out⟩
            case measure => simp [intOf]; omega
      · skip
        repeat ((with_reducible fail_if_success (show Code.wp _ (Code.region 10 _ _) _ _ _)); first | go_values | go_skip | go_guarded | go_step | go_upon)
        refine region_below (wr.heap.size) (by kernel_rfl) (by kernel_rfl) ?_
        refine below_run (by kernel_rfl) (.bool true) (fun w' hw' => by kernel_rfl) ?_
        refine below_run (by kernel_rfl) (.bool false) (fun w' hw' => by kernel_rfl) ?_
        refine below_run (by kernel_rfl) (.bool false) (fun w' hw' => by kernel_rfl) ?_
        refine BigFrame.wpQuiet_skip (by kernel_rfl) ?_
        refine BigFrame.wpQuiet_skip (by kernel_rfl) ?_
        refine BigFrame.wpQuiet_skip (by kernel_rfl) ?_
        refine BigFrame.wpQuiet_skip (by kernel_rfl) ?_
        refine BigFrame.wpQuiet_skip (by kernel_rfl) ?_
        refine BigFrame.wpQuiet_skip (by kernel_rfl) ?_
        refine BigFrame.wpQuiet_skip (by kernel_rfl) ?_
        refine below_run (by kernel_rfl) (.bool false) (fun w' hw' => by kernel_rfl) ?_
        refine wpQuiet_nil ?_
        intro W2 hW2
        simp only [Act.put, List.setIfInBounds_toArray, List.set_cons_succ, List.set_cons_zero]
        have HR2 := Lib.hid (HR.out.next hW2)
        have ROW2 := Lib.hid (ROW.out.next hW2)
        clear hW2
        cases hq1 : ((rdP f.pairs k).a != p.a)
        · cases hq2 : ((rdP f.pairs k).b != p.b)
          · skip
            repeat ((with_reducible fail_if_success (show Code.wp _ (Code.region 13 _ _) _ _ _)); first | go_values | go_skip | go_guarded | go_step | go_upon)
            refine region_below (W2.heap.size) (by kernel_rfl) (by kernel_rfl) ?_
            refine below_run (by kernel_rfl) (.pointer (some ⟨w.heap.size, 28, none⟩)) (fun w' hw' => by kernel_rfl) ?_
            refine below_run (by kernel_rfl) (.slice (some a) n c) (fun w' hw' => exec_load1 26 (.tmp 49) rfl ⟨w.heap.size, 28, none⟩ (by kernel_rfl) (.slice (some a) n c) ((HR2.out.b2.next hw').cell 28 _ (fcV_pairs HF.out _)) _ Tryz.underlying26 rfl) ?_
            refine below_run (by kernel_rfl) (.int .i64 k) (fun w' hw' => by kernel_rfl) ?_
            refine below_run (by kernel_rfl) (.pointer (some (Addr.add a (k * 3)))) (fun w' hw' => exec_index 26 (.tmp 50) (.tmp 51) rfl a n c (by kernel_rfl) .i64 k (by kernel_rfl) hlt 85 Tryz.underlying26 3 szPrI) ?_
            refine below_run (by kernel_rfl) (.pointer (some ((a.add (k * 3)).add 0))) (fun w' hw' => by kernel_rfl) ?_
            refine below_run (by kernel_rfl) (.int .u8 (rdP f.pairs k).a) (fun w' hw' => exec_load1 5 (.tmp 53) rfl ((a.add (k * 3)).add 0) (by kernel_rfl) (.int .u8 (rdP f.pairs k).a) ((pr_cells (ROW2.out.next hw')).1) _ Tryz.underlying5 rfl) ?_
            refine below_run (by kernel_rfl) (.pointer (some ⟨w.heap.size + 1, 0, none⟩)) (fun w' hw' => by kernel_rfl) ?_
            refine below_run (by kernel_rfl) (.int .u8 p.a) (fun w' hw' => exec_load1 5 (.tmp 55) rfl ⟨w.heap.size + 1, 0, none⟩ (by kernel_rfl) (.int .u8 p.a) ((HR2.out.b3.next hw').cell 0 _ rfl) _ Tryz.underlying5 rfl) ?_
            refine below_run (by kernel_rfl) (.bool false) (fun w' hw' => Eq.trans (show (execOp _ _).run _ w' = .ok (.value (.bool ((rdP f.pairs k).a != p.a))) w' by kernel_rfl) (by rw [hq1])) ?_
            refine below_run (by kernel_rfl) (.bool false) (fun w' hw' => by kernel_rfl) ?_
            refine below_run (by kernel_rfl) (.pointer (some ⟨w.heap.size, 28, none⟩)) (fun w' hw' => by kernel_rfl) ?_
            refine below_run (by kernel_rfl) (.slice (some a) n c) (fun w' hw' => exec_load1 26 (.tmp 59) rfl ⟨w.heap.size, 28, none⟩ (by kernel_rfl) (.slice (some a) n c) ((HR2.out.b2.next hw').cell 28 _ (fcV_pairs HF.out _)) _ Tryz.underlying26 rfl) ?_
            refine below_run (by kernel_rfl) (.int .i64 k) (fun w' hw' => by kernel_rfl) ?_
            refine below_run (by kernel_rfl) (.pointer (some (Addr.add a (k * 3)))) (fun w' hw' => exec_index 26 (.tmp 60) (.tmp 61) rfl a n c (by kernel_rfl) .i64 k (by kernel_rfl) hlt 85 Tryz.underlying26 3 szPrI) ?_
            refine below_run (by kernel_rfl) (.pointer (some ((a.add (k * 3)).add 1))) (fun w' hw' => by kernel_rfl) ?_
            refine below_run (by kernel_rfl) (.int .u8 (rdP f.pairs k).b) (fun w' hw' => exec_load1 5 (.tmp 63) rfl ((a.add (k * 3)).add 1) (by kernel_rfl) (.int .u8 (rdP f.pairs k).b) ((pr_cells (ROW2.out.next hw')).2.1) _ Tryz.underlying5 rfl) ?_
            refine below_run (by kernel_rfl) (.pointer (some ⟨w.heap.size + 1, 1, none⟩)) (fun w' hw' => by kernel_rfl) ?_
            refine below_run (by kernel_rfl) (.int .u8 p.b) (fun w' hw' => exec_load1 5 (.tmp 65) rfl ⟨w.heap.size + 1, 1, none⟩ (by kernel_rfl) (.int .u8 p.b) ((HR2.out.b3.next hw').cell 1 _ rfl) _ Tryz.underlying5 rfl) ?_
            refine below_run (by kernel_rfl) (.bool false) (fun w' hw' => Eq.trans (show (execOp _ _).run _ w' = .ok (.value (.bool ((rdP f.pairs k).b != p.b))) w' by kernel_rfl) (by rw [hq2])) ?_
            refine below_run (by kernel_rfl) (.bool false) (fun w' hw' => by kernel_rfl) ?_
            refine wpQuiet_nil ?_
            intro W3 hW3
            simp only [Act.put, List.setIfInBounds_toArray, List.set_cons_succ, List.set_cons_zero]
            have H3 := Lib.hid (HR2.out.next hW3)
            have ROW3 := Lib.hid (ROW2.out.next hW3)
            have c28 := H3.out.b2.cell 28 _ (fcV_pairs HF.out _)
            clear hW3
            repeat (first | go_values | go_skip | go_guarded | go_step | go_upon)
            go_roundw
            case rel => exact ⟨k + 1, true, ps, by omega, by go_num, rfl, by (try simp only [List.length_append, List.length_singleton]); omega, H3.out⟩
            case measure => simp [intOf]; omega
          · skip
            repeat ((with_reducible fail_if_success (show Code.wp _ (Code.region 13 _ _) _ _ _)); first | go_values | go_skip | go_guarded | go_step | go_upon)
            refine region_below (W2.heap.size) (by kernel_rfl) (by kernel_rfl) ?_
            refine below_run (by kernel_rfl) (.pointer (some ⟨w.heap.size, 28, none⟩)) (fun w' hw' => by kernel_rfl) ?_
            refine below_run (by kernel_rfl) (.slice (some a) n c) (fun w' hw' => exec_load1 26 (.tmp 49) rfl ⟨w.heap.size, 28, none⟩ (by kernel_rfl) (.slice (some a) n c) ((HR2.out.b2.next hw').cell 28 _ (fcV_pairs HF.out _)) _ Tryz.underlying26 rfl) ?_
            refine below_run (by kernel_rfl) (.int .i64 k) (fun w' hw' => by kernel_rfl) ?_
            refine below_run (by kernel_rfl) (.pointer (some (Addr.add a (k * 3)))) (fun w' hw' => exec_index 26 (.tmp 50) (.tmp 51) rfl a n c (by kernel_rfl) .i64 k (by kernel_rfl) hlt 85 Tryz.underlying26 3 szPrI) ?_
            refine below_run (by kernel_rfl) (.pointer (some ((a.add (k * 3)).add 0))) (fun w' hw' => by kernel_rfl) ?_
            refine below_run (by kernel_rfl) (.int .u8 (rdP f.pairs k).a) (fun w' hw' => exec_load1 5 (.tmp 53) rfl ((a.add (k * 3)).add 0) (by kernel_rfl) (.int .u8 (rdP f.pairs k).a) ((pr_cells (ROW2.out.next hw')).1) _ Tryz.underlying5 rfl) ?_
            refine below_run (by kernel_rfl) (.pointer (some ⟨w.heap.size + 1, 0, none⟩)) (fun w' hw' => by kernel_rfl) ?_
            refine below_run (by kernel_rfl) (.int .u8 p.a) (fun w' hw' => exec_load1 5 (.tmp 55) rfl ⟨w.heap.size + 1, 0, none⟩ (by kernel_rfl) (.int .u8 p.a) ((HR2.out.b3.next hw').cell 0 _ rfl) _ Tryz.underlying5 rfl) ?_
            refine below_run (by kernel_rfl) (.bool false) (fun w' hw' => Eq.trans (show (execOp _ _).run _ w' = .ok (.value (.bool ((rdP f.pairs k).a != p.a))) w' by kernel_rfl) (by rw [hq1])) ?_
            refine below_run (by kernel_rfl) (.bool false) (fun w' hw' => by kernel_rfl) ?_
            refine below_run (by kernel_rfl) (.pointer (some ⟨w.heap.size, 28, none⟩)) (fun w' hw' => by kernel_rfl) ?_
            refine below_run (by kernel_rfl) (.slice (some a) n c) (fun w' hw' => exec_load1 26 (.tmp 59) rfl ⟨w.heap.size, 28, none⟩ (by kernel_rfl) (.slice (some a) n c) ((HR2.out.b2.next hw').cell 28 _ (fcV_pairs HF.out _)) _ Tryz.underlying26 rfl) ?_
            refine below_run (by kernel_rfl) (.int .i64 k) (fun w' hw' => by kernel_rfl) ?_
            refine below_run (by kernel_rfl) (.pointer (some (Addr.add a (k * 3)))) (fun w' hw' => exec_index 26 (.tmp 60) (.tmp 61) rfl a n c (by kernel_rfl) .i64 k (by kernel_rfl) hlt 85 Tryz.underlying26 3 szPrI) ?_
            refine below_run (by kernel_rfl) (.pointer (some ((a.add (k * 3)).add 1))) (fun w' hw' => by kernel_rfl) ?_
            refine below_run (by kernel_rfl) (.int .u8 (rdP f.pairs k).b) (fun w' hw' => exec_load1 5 (.tmp 63) rfl ((a.add (k * 3)).add 1) (by kernel_rfl) (.int .u8 (rdP f.pairs k).b) ((pr_cells (ROW2.out.next hw')).2.1) _ Tryz.underlying5 rfl) ?_
            refine below_run (by kernel_rfl) (.pointer (some ⟨w.heap.size + 1, 1, none⟩)) (fun w' hw' => by kernel_rfl) ?_
            refine below_run (by kernel_rfl) (.int .u8 p.b) (fun w' hw' => exec_load1 5 (.tmp 65) rfl ⟨w.heap.size + 1, 1, none⟩ (by kernel_rfl) (.int .u8 p.b) ((HR2.out.b3.next hw').cell 1 _ rfl) _ Tryz.underlying5 rfl) ?_
            refine below_run (by kernel_rfl) (.bool true) (fun w' hw' => Eq.trans (show (execOp _ _).run _ w' = .ok (.value (.bool ((rdP f.pairs k).b != p.b))) w' by kernel_rfl) (by rw [hq2])) ?_
            refine below_run (by kernel_rfl) (.bool true) (fun w' hw' => by kernel_rfl) ?_
            refine wpQuiet_nil ?_
            intro W3 hW3
            simp only [Act.put, List.setIfInBounds_toArray, List.set_cons_succ, List.set_cons_zero]
            have H3 := Lib.hid (HR2.out.next hW3)
            have ROW3 := Lib.hid (ROW2.out.next hW3)
            have c28 := H3.out.b2.cell 28 _ (fcV_pairs HF.out _)
            clear hW3
            repeat ((with_reducible fail_if_success (show wpList _ _ _ (⟨some 74, _, _, _, _, _⟩ :: _) _ _)); first | go_values | go_skip | go_guarded | go_step | go_upon)
            refine wpList_loadV rfl 85 (.tmp 73) rfl (a.add (k * 3)) rfl (prV (rdP f.pairs k)) _ (ROW3.out) Tryz.underlying85 rfl szPrI ?_
            clear c28
            repeat ((with_reducible fail_if_success (show wpList _ _ _ (⟨some 75, _, _, _, _, _⟩ :: _) _ _)); first | go_values | go_skip | go_guarded | go_step | go_upon)
            refine wpList_val (by kernel_rfl) (.slice (some ⟨W3.heap.size, 0, none⟩) 1 1) (W3.alloc (.cells (prV (rdP f.pairs k)).toArray 85)) (by kernel_rfl) ?_
            repeat ((with_reducible fail_if_success (show wpList _ _ _ (⟨some 76, _, _, _, _, _⟩ :: _) _ _)); first | go_values | go_skip | go_guarded | go_step | go_upon)
            refine wpList_appP rfl (.tmp 69) (.tmp 75) rfl W3 (w.heap.size + 3) u6 ps (ps).length rfl H3.out.own (rdP f.pairs k) rfl (by (try simp only [List.length_append, List.length_singleton]); omega) H3.out.size ?_
            intro v' w' ho' hg'
            have HR' := Lib.hid (H3.out.app ho' hg' (HF.out.pairs k (by rw [HN.out]; exact hlt)))
            clear ho' hg'
            repeat (first | go_values | go_skip | go_guarded | go_step | go_upon)
            go_roundw
            case rel => exact ⟨k + 1, true, ps ++ [rdP f.pairs k], by omega, by go_num, rfl, by simp only [List.length_append, List.length_singleton]; omega, HR'.out⟩
            case measure => simp [intOf]; omega
        · skip
          repeat ((with_reducible fail_if_success (show Code.wp _ (Code.region 13 _ _) _ _ _)); first | go_values | go_skip | go_guarded | go_step | go_upon)
          refine region_below (W2.heap.size) (by kernel_rfl) (by kernel_rfl) ?_
          refine below_run (by kernel_rfl) (.pointer (some ⟨w.heap.size, 28, none⟩)) (fun w' hw' => by kernel_rfl) ?_
          refine below_run (by kernel_rfl) (.slice (some a) n c) (fun w' hw' => exec_load1 26 (.tmp 49) rfl ⟨w.heap.size, 28, none⟩ (by kernel_rfl) (.slice (some a) n c) ((HR2.out.b2.next hw').cell 28 _ (fcV_pairs HF.out _)) _ Tryz.underlying26 rfl) ?_
          refine below_run (by kernel_rfl) (.int .i64 k) (fun w' hw' => by kernel_rfl) ?_
          refine below_run (by kernel_rfl) (.pointer (some (Addr.add a (k * 3)))) (fun w' hw' => exec_index 26 (.tmp 50) (.tmp 51) rfl a n c (by kernel_rfl) .i64 k (by kernel_rfl) hlt 85 Tryz.underlying26 3 szPrI) ?_
          refine below_run (by kernel_rfl) (.pointer (some ((a.add (k * 3)).add 0))) (fun w' hw' => by kernel_rfl) ?_
          refine below_run (by kernel_rfl) (.int .u8 (rdP f.pairs k).a) (fun w' hw' => exec_load1 5 (.tmp 53) rfl ((a.add (k * 3)).add 0) (by kernel_rfl) (.int .u8 (rdP f.pairs k).a) ((pr_cells (ROW2.out.next hw')).1) _ Tryz.underlying5 rfl) ?_
          refine below_run (by kernel_rfl) (.pointer (some ⟨w.heap.size + 1, 0, none⟩)) (fun w' hw' => by kernel_rfl) ?_
          refine below_run (by kernel_rfl) (.int .u8 p.a) (fun w' hw' => exec_load1 5 (.tmp 55) rfl ⟨w.heap.size + 1, 0, none⟩ (by kernel_rfl) (.int .u8 p.a) ((HR2.out.b3.next hw').cell 0 _ rfl) _ Tryz.underlying5 rfl) ?_
          refine below_run (by kernel_rfl) (.bool true) (fun w' hw' => Eq.trans (show (execOp _ _).run _ w' = .ok (.value (.bool ((rdP f.pairs k).a != p.a))) w' by kernel_rfl) (by rw [hq1])) ?_
          refine below_run (by kernel_rfl) (.bool true) (fun w' hw' => by kernel_rfl) ?_
          refine BigFrame.wpQuiet_skip (by kernel_rfl) ?_
          refine BigFrame.wpQuiet_skip (by kernel_rfl) ?_
          refine BigFrame.wpQuiet_skip (by kernel_rfl) ?_
          refine BigFrame.wpQuiet_skip (by kernel_rfl) ?_
          refine BigFrame.wpQuiet_skip (by kernel_rfl) ?_
          refine BigFrame.wpQuiet_skip (by kernel_rfl) ?_
          refine BigFrame.wpQuiet_skip (by kernel_rfl) ?_
          refine BigFrame.wpQuiet_skip (by kernel_rfl) ?_
          refine BigFrame.wpQuiet_skip (by kernel_rfl) ?_
          refine below_run (by kernel_rfl) (.bool true) (fun w' hw' => by kernel_rfl) ?_
          refine wpQuiet_nil ?_
          intro W3 hW3
          simp only [Act.put, List.setIfInBounds_toArray, List.set_cons_succ, List.set_cons_zero]
          have H3 := Lib.hid (HR2.out.next hW3)
          have ROW3 := Lib.hid (ROW2.out.next hW3)
          have c28 := H3.out.b2.cell 28 _ (fcV_pairs HF.out _)
          clear hW3
          repeat ((with_reducible fail_if_success (show wpList _ _ _ (⟨some 74, _, _, _, _, _⟩ :: _) _ _)); first | go_values | go_skip | go_guarded | go_step | go_upon)
          refine wpList_loadV rfl 85 (.tmp 73) rfl (a.add (k * 3)) rfl (prV (rdP f.pairs k)) _ (ROW3.out) Tryz.underlying85 rfl szPrI ?_
          clear c28
          repeat ((with_reducible fail_if_success (show wpList _ _ _ (⟨some 75, _, _, _, _, _⟩ :: _) _ _)); first | go_values | go_skip | go_guarded | go_step | go_upon)
          refine wpList_val (by kernel_rfl) (.slice (some ⟨W3.heap.size, 0, none⟩) 1 1) (W3.alloc (.cells (prV (rdP f.pairs k)).toArray 85)) (by kernel_rfl) ?_
          repeat ((with_reducible fail_if_success (show wpList _ _ _ (⟨some 76, _, _, _, _, _⟩ :: _) _ _)); first | go_values | go_skip | go_guarded | go_step | go_upon)
          refine wpList_appP rfl (.tmp 69) (.tmp 75) rfl W3 (w.heap.size + 3) u6 ps (ps).length rfl H3.out.own (rdP f.pairs k) rfl (by (try simp only [List.length_append, List.length_singleton]); omega) H3.out.size ?_
          intro v' w' ho' hg'
          have HR' := Lib.hid (H3.out.app ho' hg' (HF.out.pairs k (by rw [HN.out]; exact hlt)))
          clear ho' hg'
          repeat (first | go_values | go_skip | go_guarded | go_step | go_upon)
          go_roundw
          case rel => exact ⟨k + 1, true, ps ++ [rdP f.pairs k], by omega, by go_num, rfl, by simp only [List.length_append, List.length_singleton]; omega, HR'.out⟩
          case measure => simp [intOf]; omega
    · obtain rfl : k = n := by omega
      cases b
      · skip
        repeat ((with_reducible fail_if_success (show wpList _ _ _ (⟨some 80, _, _, _, _, _⟩ :: _) _ _)); first | go_values | go_skip | go_guarded | go_step | go_upon)
        refine wpList_loadV rfl 85 (.tmp 3) rfl ⟨w.heap.size + 1, 0, none⟩ rfl (prV p) _ (pr_row HR.out.b3) Tryz.underlying85 rfl szPrI ?_
        clear c28
        repeat ((with_reducible fail_if_success (show wpList _ _ _ (⟨some 81, _, _, _, _, _⟩ :: _) _ _)); first | go_values | go_skip | go_guarded | go_step | go_upon)
        refine wpList_val (by kernel_rfl) (.slice (some ⟨wr.heap.size, 0, none⟩) 1 1) (wr.alloc (.cells (prV p).toArray 85)) (by kernel_rfl) ?_
        repeat ((with_reducible fail_if_success (show wpList _ _ _ (⟨some 82, _, _, _, _, _⟩ :: _) _ _)); first | go_values | go_skip | go_guarded | go_step | go_upon)
        refine wpList_appP rfl (.tmp 79) (.tmp 81) rfl wr (w.heap.size + 3) u6 ps (ps).length rfl HR.out.own p rfl (by (try simp only [List.length_append, List.length_singleton]); omega) HR.out.size ?_
        intro v' w' ho' hg'
        have HR' := Lib.hid (HR.out.app ho' hg' HP.out)
        clear ho' hg'
        have hl' : (ps ++ [p]).length ≤ 2 * k + 1 := by simp only [List.length_append, List.length_singleton]; omega
        generalize ps ++ [p] = qs at *
        obtain ⟨A2, c2, rfl, hl2, hsl2, hfr2⟩ := own_slP HR'.out.own
        have c28 := HR'.out.b2.cell 28 _ (fcV_pairs HF.out _)
        have f28 := HR'.out.b2.free 28
        have hk2 := HR'.out.b2.set 28 (.slice A2 (qs).length c2)
        rw [fcV_set f HF.out _ _ (qs)] at hk2
        have hk4 := HR'.out.b4.other ⟨w.heap.size, 28, none⟩ (.slice A2 (qs).length c2) (by show w.heap.size + 1 + 1 ≠ w.heap.size; omega)
        have hsl3 := hsl2.setC (i := 28) (b := w.heap.size) (u := .slice A2 (qs).length c2) (fun a e => by have := (hfr2 a e).1; omega)
        have hbl3 : Below w.heap.size w (w'.setCell ⟨w.heap.size, 28, none⟩ (.slice A2 (qs).length c2)) := HR'.out.below.setCell (p := ⟨w.heap.size, 28, none⟩) (Nat.le_refl _) _
        have HT := Lib.hid HR'.out.typ
        have H2 := Lib.hid hk2
        have H4 := Lib.hid hk4
        have HSL := Lib.hid hsl3
        have HBL := Lib.hid hbl3
        have HFR := Lib.hid (show ∀ a, A2 = some a → w.heap.size + 3 ≤ a.block ∧ a.block < (w'.setCell ⟨w.heap.size, 28, none⟩ (.slice A2 (qs).length c2)).heap.size from fun a e => ⟨(hfr2 a e).1, by have := (hfr2 a e).2; simpa [World.setCell] using this⟩)
        clear hl2 hsl2 hfr2 hk2 hk4 hsl3 hbl3
        repeat (first | go_values | go_skip | go_guarded | go_step | go_upon)
        clear c28 f28
        generalize w'.setCell ⟨w.heap.size, 28, none⟩ (.slice A2 (qs).length c2) = W7 at *
        go_at_call 77
        refine (shape_spec (withP f qs) (qs).length w.heap.size W7 (withP_T HF.out HT.out) rfl (by (try simp only [List.length_append, List.length_singleton]); omega) ⟨A2, c2, H2.out, HSL.out⟩).mono ?_
        rintro e w8 ⟨rfl, hb8⟩
        have J2 := Lib.hid (H2.out.next hb8)
        have J4 := Lib.hid (H4.out.next hb8)
        have JSL := Lib.hid (HSL.out.next hb8)
        have JBL := Lib.hid (below_step HBL.out hb8)
        have JFR := Lib.hid (show ∀ a, A2 = some a → w.heap.size + 3 ≤ a.block ∧ a.block < w8.heap.size from fun a e => ⟨(HFR.out a e).1, by have := (HFR.out a e).2; have := hb8.size; omega⟩)
        clear hb8 H2 H4 HSL HBL
        cases hsh : shapeF (withP f qs)
        · dsimp only
          repeat ((with_reducible fail_if_success (show wpList _ _ _ (⟨some 87, _, _, _, _, _⟩ :: _) _ _)); first | go_values | go_skip | go_guarded | go_step | go_upon)
          refine wpList_val (by kernel_rfl) (.agg (fcV fc0 (.slice none 0 0)).toArray) w8 (by kernel_rfl) ?_
          repeat ((with_reducible fail_if_success (show wpList _ _ _ (⟨none, .store 28 (.tmp 4) (.tmp 87), _, _, _, _⟩ :: _) _ _)); first | go_values | go_skip | go_guarded | go_step | go_upon)
          refine wpList_store_row rfl 28 (.tmp 4) (.tmp 87) rfl (w.heap.size + 1 + 1) (fcV fc0 (.slice none 0 0)).toArray rfl rfl 28 _ J4.out (by rw [List.size_toArray, fcV_length fc0_T]; exact szFcI) rfl (one_fc _ _ _ _) ?_
          repeat (first | go_values | go_skip | go_guarded | go_step | go_upon)
          exact bodyPost_ret (v := .tuple #[.agg (fcV fc0 (.slice none 0 0)).toArray, .int .i64 4]) (results_row_tmp rfl _ _ (w.heap.size + 1 + 1) 28 (fcV fc0 (.slice none 0 0)).toArray _ _ _ rfl rfl (J4.out.setRow_same (fcV fc0 (.slice none 0 0))) Tryz.underlying28 rfl (by rw [List.size_toArray, fcV_length fc0_T]; exact szFcI)) rfl ⟨_, _, 4, rfl, fun h => by omega, fc0_D _ _, below_setRow JBL.out _ _ (by omega)⟩
        · dsimp only
          by_cases hm12 : (12 : Int) < (((qs).length : Nat) : Int)
          · skip
            repeat ((with_reducible fail_if_success (show wpList _ _ _ (⟨some 91, _, _, _, _, _⟩ :: _) _ _)); first | go_values | go_skip | go_guarded | go_step | go_upon)
            refine wpList_val (by kernel_rfl) (.agg (fcV fc0 (.slice none 0 0)).toArray) w8 (by kernel_rfl) ?_
            repeat ((with_reducible fail_if_success (show wpList _ _ _ (⟨none, .store 28 (.tmp 4) (.tmp 91), _, _, _, _⟩ :: _) _ _)); first | go_values | go_skip | go_guarded | go_step | go_upon)
            refine wpList_store_row rfl 28 (.tmp 4) (.tmp 91) rfl (w.heap.size + 1 + 1) (fcV fc0 (.slice none 0 0)).toArray rfl rfl 28 _ J4.out (by rw [List.size_toArray, fcV_length fc0_T]; exact szFcI) rfl (one_fc _ _ _ _) ?_
            repeat (first | go_values | go_skip | go_guarded | go_step | go_upon)
            exact bodyPost_ret (v := .tuple #[.agg (fcV fc0 (.slice none 0 0)).toArray, .int .i64 3]) (results_row_tmp rfl _ _ (w.heap.size + 1 + 1) 28 (fcV fc0 (.slice none 0 0)).toArray _ _ _ rfl rfl (J4.out.setRow_same (fcV fc0 (.slice none 0 0))) Tryz.underlying28 rfl (by rw [List.size_toArray, fcV_length fc0_T]; exact szFcI)) rfl ⟨_, _, 3, rfl, fun h => by omega, fc0_D _ _, below_setRow JBL.out _ _ (by omega)⟩
          · skip
            repeat ((with_reducible fail_if_success (show wpList _ _ _ (⟨some 92, _, _, _, _, _⟩ :: _) _ _)); first | go_values | go_skip | go_guarded | go_step | go_upon)
            refine wpList_load_row rfl 28 (.tmp 2) rfl _ rfl 28 (fcV (withP f qs) (.slice A2 (qs).length c2)).toArray _ _ J2.out Tryz.underlying28 rfl (by rw [List.size_toArray, fcV_length (withP_T HF.out HT.out)]; exact szFcI) ?_
            repeat ((with_reducible fail_if_success (show wpList _ _ _ (⟨none, .store 28 (.tmp 4) (.tmp 92), _, _, _, _⟩ :: _) _ _)); first | go_values | go_skip | go_guarded | go_step | go_upon)
            refine wpList_store_row rfl 28 (.tmp 4) (.tmp 92) rfl (w.heap.size + 1 + 1) (fcV (withP f qs) (.slice A2 (qs).length c2)).toArray rfl rfl 28 _ J4.out (by rw [List.size_toArray, fcV_length (withP_T HF.out HT.out)]; exact szFcI) (by rw [List.size_toArray, List.size_toArray, fcV_length (withP_T HF.out HT.out), fcV_length fc0_T]) (one_fc _ _ _ _) ?_
            repeat (first | go_values | go_skip | go_guarded | go_step | go_upon)
            exact bodyPost_ret (v := .tuple #[.agg (fcV (withP f qs) (.slice A2 (qs).length c2)).toArray, .int .i64 0]) (results_row_tmp rfl _ _ (w.heap.size + 1 + 1) 28 (fcV (withP f qs) (.slice A2 (qs).length c2)).toArray _ _ _ rfl rfl (J4.out.setRow_same (fcV (withP f qs) (.slice A2 (qs).length c2))) Tryz.underlying28 rfl (by rw [List.size_toArray, fcV_length (withP_T HF.out HT.out)]; exact szFcI)) rfl ⟨_, _, 0, rfl, fun _ => by rw [validF_few (n := (qs).length) rfl (by omega)]; exact hsh, ⟨withP_T HF.out HT.out, A2, _, c2, rfl, rfl, by (try simp only [List.length_append, List.length_singleton]); omega, JSL.out.setR (fun a e => by have := (JFR.out a e).1; omega), fun a e => ⟨by have := (JFR.out a e).1; omega, by have := (JFR.out a e).2; simpa using this⟩⟩, below_setRow JBL.out _ _ (by omega)⟩
      · clear c28
        obtain ⟨A2, c2, rfl, hl2, hsl2, hfr2⟩ := own_slP HR.out.own
        have c28 := HR.out.b2.cell 28 _ (fcV_pairs HF.out _)
        have f28 := HR.out.b2.free 28
        have hk2 := HR.out.b2.set 28 (.slice A2 (ps).length c2)
        rw [fcV_set f HF.out _ _ (ps)] at hk2
        have hk4 := HR.out.b4.other ⟨w.heap.size, 28, none⟩ (.slice A2 (ps).length c2) (by show w.heap.size + 1 + 1 ≠ w.heap.size; omega)
        have hsl3 := hsl2.setC (i := 28) (b := w.heap.size) (u := .slice A2 (ps).length c2) (fun a e => by have := (hfr2 a e).1; omega)
        have hbl3 : Below w.heap.size w (wr.setCell ⟨w.heap.size, 28, none⟩ (.slice A2 (ps).length c2)) := HR.out.below.setCell (p := ⟨w.heap.size, 28, none⟩) (Nat.le_refl _) _
        have HT := Lib.hid HR.out.typ
        have H2 := Lib.hid hk2
        have H4 := Lib.hid hk4
        have HSL := Lib.hid hsl3
        have HBL := Lib.hid hbl3
        have HFR := Lib.hid (show ∀ a, A2 = some a → w.heap.size + 3 ≤ a.block ∧ a.block < (wr.setCell ⟨w.heap.size, 28, none⟩ (.slice A2 (ps).length c2)).heap.size from fun a e => ⟨(hfr2 a e).1, by have := (hfr2 a e).2; simpa [World.setCell] using this⟩)
        clear hl2 hsl2 hfr2 hk2 hk4 hsl3 hbl3
        repeat (first | go_values | go_skip | go_guarded | go_step | go_upon)
        clear c28 f28
        generalize wr.setCell ⟨w.heap.size, 28, none⟩ (.slice A2 (ps).length c2) = W7 at *
        go_at_call 77
        refine (shape_spec (withP f ps) (ps).length w.heap.size W7 (withP_T HF.out HT.out) rfl (by (try simp only [List.length_append, List.length_singleton]); omega) ⟨A2, c2, H2.out, HSL.out⟩).mono ?_
        rintro e w8 ⟨rfl, hb8⟩
        have J2 := Lib.hid (H2.out.next hb8)
        have J4 := Lib.hid (H4.out.next hb8)
        have JSL := Lib.hid (HSL.out.next hb8)
        have JBL := Lib.hid (below_step HBL.out hb8)
        have JFR := Lib.hid (show ∀ a, A2 = some a → w.heap.size + 3 ≤ a.block ∧ a.block < w8.heap.size from fun a e => ⟨(HFR.out a e).1, by have := (HFR.out a e).2; have := hb8.size; omega⟩)
        clear hb8 H2 H4 HSL HBL
        cases hsh : shapeF (withP f ps)
        · dsimp only
          repeat ((with_reducible fail_if_success (show wpList _ _ _ (⟨some 87, _, _, _, _, _⟩ :: _) _ _)); first | go_values | go_skip | go_guarded | go_step | go_upon)
          refine wpList_val (by kernel_rfl) (.agg (fcV fc0 (.slice none 0 0)).toArray) w8 (by kernel_rfl) ?_
          repeat ((with_reducible fail_if_success (show wpList _ _ _ (⟨none, .store 28 (.tmp 4) (.tmp 87), _, _, _, _⟩ :: _) _ _)); first | go_values | go_skip | go_guarded | go_step | go_upon)
          refine wpList_store_row rfl 28 (.tmp 4) (.tmp 87) rfl (w.heap.size + 1 + 1) (fcV fc0 (.slice none 0 0)).toArray rfl rfl 28 _ J4.out (by rw [List.size_toArray, fcV_length fc0_T]; exact szFcI) rfl (one_fc _ _ _ _) ?_
          repeat (first | go_values | go_skip | go_guarded | go_step | go_upon)
          exact bodyPost_ret (v := .tuple #[.agg (fcV fc0 (.slice none 0 0)).toArray, .int .i64 4]) (results_row_tmp rfl _ _ (w.heap.size + 1 + 1) 28 (fcV fc0 (.slice none 0 0)).toArray _ _ _ rfl rfl (J4.out.setRow_same (fcV fc0 (.slice none 0 0))) Tryz.underlying28 rfl (by rw [List.size_toArray, fcV_length fc0_T]; exact szFcI)) rfl ⟨_, _, 4, rfl, fun h => by omega, fc0_D _ _, below_setRow JBL.out _ _ (by omega)⟩
        · dsimp only
          by_cases hm12 : (12 : Int) < (((ps).length : Nat) : Int)
          · skip
            repeat ((with_reducible fail_if_success (show wpList _ _ _ (⟨some 91, _, _, _, _, _⟩ :: _) _ _)); first | go_values | go_skip | go_guarded | go_step | go_upon)
            refine wpList_val (by kernel_rfl) (.agg (fcV fc0 (.slice none 0 0)).toArray) w8 (by kernel_rfl) ?_
            repeat ((with_reducible fail_if_success (show wpList _ _ _ (⟨none, .store 28 (.tmp 4) (.tmp 91), _, _, _, _⟩ :: _) _ _)); first | go_values | go_skip | go_guarded | go_step | go_upon)
            refine wpList_store_row rfl 28 (.tmp 4) (.tmp 91) rfl (w.heap.size + 1 + 1) (fcV fc0 (.slice none 0 0)).toArray rfl rfl 28 _ J4.out (by rw [List.size_toArray, fcV_length fc0_T]; exact szFcI) rfl (one_fc _ _ _ _) ?_
            repeat (first | go_values | go_skip | go_guarded | go_step | go_upon)
            exact bodyPost_ret (v := .tuple #[.agg (fcV fc0 (.slice none 0 0)).toArray, .int .i64 3]) (results_row_tmp rfl _ _ (w.heap.size + 1 + 1) 28 (fcV fc0 (.slice none 0 0)).toArray _ _ _ rfl rfl (J4.out.setRow_same (fcV fc0 (.slice none 0 0))) Tryz.underlying28 rfl (by rw [List.size_toArray, fcV_length fc0_T]; exact szFcI)) rfl ⟨_, _, 3, rfl, fun h => by omega, fc0_D _ _, below_setRow JBL.out _ _ (by omega)⟩
          · skip
            repeat ((with_reducible fail_if_success (show wpList _ _ _ (⟨some 92, _, _, _, _, _⟩ :: _) _ _)); first | go_values | go_skip | go_guarded | go_step | go_upon)
            refine wpList_load_row rfl 28 (.tmp 2) rfl _ rfl 28 (fcV (withP f ps) (.slice A2 (ps).length c2)).toArray _ _ J2.out Tryz.underlying28 rfl (by rw [List.size_toArray, fcV_length (withP_T HF.out HT.out)]; exact szFcI) ?_
            repeat ((with_reducible fail_if_success (show wpList _ _ _ (⟨none, .store 28 (.tmp 4) (.tmp 92), _, _, _, _⟩ :: _) _ _)); first | go_values | go_skip | go_guarded | go_step | go_upon)
            refine wpList_store_row rfl 28 (.tmp 4) (.tmp 92) rfl (w.heap.size + 1 + 1) (fcV (withP f ps) (.slice A2 (ps).length c2)).toArray rfl rfl 28 _ J4.out (by rw [List.size_toArray, fcV_length (withP_T HF.out HT.out)]; exact szFcI) (by rw [List.size_toArray, List.size_toArray, fcV_length (withP_T HF.out HT.out), fcV_length fc0_T]) (one_fc _ _ _ _) ?_
            repeat (first | go_values | go_skip | go_guarded | go_step | go_upon)
            exact bodyPost_ret (v := .tuple #[.agg (fcV (withP f ps) (.slice A2 (ps).length c2)).toArray, .int .i64 0]) (results_row_tmp rfl _ _ (w.heap.size + 1 + 1) 28 (fcV (withP f ps) (.slice A2 (ps).length c2)).toArray _ _ _ rfl rfl (J4.out.setRow_same (fcV (withP f ps) (.slice A2 (ps).length c2))) Tryz.underlying28 rfl (by rw [List.size_toArray, fcV_length (withP_T HF.out HT.out)]; exact szFcI)) rfl ⟨_, _, 0, rfl, fun _ => by rw [validF_few (n := (ps).length) rfl (by omega)]; exact hsh, ⟨withP_T HF.out HT.out, A2, _, c2, rfl, rfl, by (try simp only [List.length_append, List.length_singleton]); omega, JSL.out.setR (fun a e => by have := (JFR.out a e).1; omega), fun a e => ⟨by have := (JFR.out a e).1; omega, by have := (JFR.out a e).2; simpa using this⟩⟩, below_setRow JBL.out _ _ (by omega)⟩
end Go.Proofs.YtdhngjjfoddnkaaGreatDoor
namespace Go.Proofs.YtdhngjjfoddnkaaGreatDoor
open Go Go.RowKit
set_option linter.unusedVariables false
set_option linter.unusedSimpArgs false

theorem SlP.grownS {w w' : World} {A : Option Addr} {ps : List Pr} {b : Nat} (h : SlP w A ps) (hg : w.grownBy w' (some b)) (hne : ∀ a, A = some a → a.block ≠ b) : SlP w' A ps := by
  intro j q hq
  obtain ⟨a, e, hr⟩ := h j q hq
  refine ⟨a, e, fun k x hx => ?_⟩
  have := hr k x hx
  have hab : ((a.add (j * 3)).add k).block = a.block := by rw [add_addr]; unfold Addr.add; split <;> rfl
  have hlt := World.block_lt_of_cell? w _ this
  rw [← this]
  unfold World.cell?
  rw [hg.block _ hlt (by intro e2; injection e2 with e2; exact hne a e (by rw [← hab]; exact e2))]
theorem FcD.grown {w w' : World} {c b : Nat} {f : Fc} {S : Value} (h : FcD w c f S) (hg : w.grownBy w' (some b)) (hb : b ≤ c) : FcD w' c f S := by
  obtain ⟨h1, A, n, k, e, h2, h3, h4, h5⟩ := h
  exact ⟨h1, A, n, k, e, h2, h3, h4.grownS hg (fun a e => by have := (h5 a e).1; omega), fun a e => ⟨(h5 a e).1, by have := (h5 a e).2; have := hg.size; omega⟩⟩
theorem FcD.le {w : World} {c b : Nat} {f : Fc} {S : Value} (h : FcD w c f S) (hb : b ≤ c) : FcD w b f S := by
  obtain ⟨h1, A, n, k, e, h2, h3, h4, h5⟩ := h
  exact ⟨h1, A, n, k, e, h2, h3, h4, fun a e => ⟨by have := (h5 a e).1; omega, (h5 a e).2⟩⟩
structure FdRel (w : World) (b m g : Nat) (f : Fc) (S : Value) (wr : World) : Prop where
  lo : w.heap.size < g
  blk : Blk wr g 28 (fcV f S)
  res : Blk wr w.heap.size 28 (fcV fc0 (.slice none 0 0))
  src : SrcAt wr b m
  grow : w.grownBy wr (some b)
  mem : FcD wr g f S
theorem FdRel.le {w wr : World} {b m m' g : Nat} {f : Fc} {S : Value} (h : FdRel w b m g f S wr) (hm : m ≤ m') : FdRel w b m' g f S wr := ⟨h.lo, h.blk, h.res, h.src.le hm, h.grow, h.mem⟩
theorem FdRel.step {w wr w' : World} {b m m' g : Nat} {f : Fc} {S : Value} (h : FdRel w b m g f S wr) (hb : b < w.heap.size) (hs : SrcAt w' b m') (hg : wr.grownBy w' (some b)) : FdRel w b m' g f S w' := by
  have := h.lo
  exact ⟨h.lo, h.blk.grown hg (by simp; omega), h.res.grown hg (by simp; omega), hs, grownBy_trans h.grow hg, h.mem.grown hg (by omega)⟩
theorem grown_over' {w wr w' : World} {b g : Nat} (h : w.grownBy wr (some b)) (h2 : wr.grownBy w' (some g)) (hg : w.heap.size ≤ g) : w.grownBy w' (some b) :=
  ⟨h2.os.trans h.os, h2.tape.trans h.tape, h2.output.trans h.output, Nat.le_trans h.size h2.size, fun i hi hne => (h2.block i (Nat.lt_of_lt_of_le hi h.size) (by simp; omega)).trans (h.block i hi hne)⟩
theorem setRow_grown' (w : World) (g : Nat) (cs : Array Value) : w.grownBy (w.setRow g cs) (some g) := ⟨rfl, rfl, rfl, by simp, fun i hi hne => Go.setRow_other w g i cs (by intro e; exact hne (by rw [e]))⟩
theorem FdRel.next {w wr w' : World} {b m g : Nat} {f : Fc} {S : Value} (h : FdRel w b m g f S wr) (hb : Below wr.heap.size wr w') : FdRel w b m g f S w' :=
  ⟨h.lo, h.blk.next hb, h.res.next hb, h.src.next hb, grownBy_trans h.grow (grown_below hb), h.mem.next hb⟩
/-- A store into a block of its own, behind the two, which holds no pairs. -/
theorem FdRel.other {w wr w' : World} {b m g q : Nat} {f : Fc} {S : Value} (h : FdRel w b m g f S wr) (hg : wr.grownBy w' (some q)) (hgs : g < q) (hb : b < w.heap.size) (hm : ∀ A n c, S = .slice A n c → ∀ a, A = some a → a.block ≠ q) : FdRel w b m g f S w' := by
  have := h.lo
  obtain ⟨h1, A, n, k, e, h2, h3, h4, h5⟩ := h.mem
  exact ⟨h.lo, h.blk.grown hg (by simp; omega), h.res.grown hg (by simp; omega), h.src.grown hg (by omega), grown_over' h.grow hg (by omega), ⟨h1, A, n, k, e, h2, h3, h4.grownS hg (hm A n k e), fun a e => ⟨(h5 a e).1, by have := (h5 a e).2; have := hg.size; omega⟩⟩⟩
def setW (f : Fc) (k : Nat) (x : Int) : Fc := ⟨f.wide.set k x, f.space, f.gap, f.pairs⟩
theorem setW_T {f : Fc} {k : Nat} {x : Int} (h : FcT f) (hx : -128 ≤ x ∧ x ≤ 127) : FcT (setW f k x) := by
  refine ⟨by unfold setW; simp [h.len], fun i hi => ?_, h.space, h.gap, h.pairs⟩
  unfold setW rdI
  rw [List.getD_eq_getElem?_getD, List.getElem?_set]
  split
  · split <;> simp_all
  · have := h.wide i hi
    unfold rdI at this
    rwa [List.getD_eq_getElem?_getD] at this
theorem fcV_setW (f : Fc) (hf : FcT f) (S : Value) (k : Nat) (hk : k < 26) (x : Int) : (fcV f S).set k (.int .i8 x) = fcV (setW f k x) S := by
  unfold fcV setW
  rw [List.set_append_left _ _ (by simp [hf.len]; exact hk), List.map_set]; rfl
theorem FdRel.wd {w wr : World} {b m g : Nat} {f : Fc} {S : Value} (h : FdRel w b m g f S wr) (hb : b < w.heap.size) (k : Nat) (hk : k < 26) (x : Int) (hx : -128 ≤ x ∧ x ≤ 127) : FdRel w b m g (setW f k x) S (wr.setCell ⟨g, k, none⟩ (.int .i8 x)) := by
  have hg : wr.grownBy (wr.setCell ⟨g, k, none⟩ (.int .i8 x)) (some g) := grown_one
  have := h.lo
  obtain ⟨h1, A, n, c, e, h2, h3, h4, h5⟩ := h.mem
  have hk2 := h.blk.set k (.int .i8 x)
  rw [fcV_setW f h1 S k hk x] at hk2
  exact ⟨h.lo, hk2, h.res.grown hg (by simp; omega), h.src.grown hg (by omega), grown_over' h.grow hg (by omega), ⟨setW_T h1 hx, A, n, c, e, h2, h3, h4.grownS hg (fun a e => by have := (h5 a e).1; omega), fun a e => ⟨(h5 a e).1, by have := (h5 a e).2; have := hg.size; omega⟩⟩⟩
theorem FdRel.row {w wr : World} {b m q : Nat} {f g : Fc} {S S' : Value} (h : FdRel w b m q f S wr) (hb : b < w.heap.size) (hm : FcD wr q g S') : FdRel w b m q g S' (wr.setRow q (fcV g S').toArray) := by
  have hg : wr.grownBy (wr.setRow q (fcV g S').toArray) (some q) := setRow_grown' _ _ _
  have := h.lo
  exact ⟨h.lo, h.blk.setRow_same _, h.res.grown hg (by simp; omega), h.src.grown hg (by omega), grown_over' h.grow hg (by omega), hm.grown hg (by omega)⟩
/-- The face that drawing begins with. -/
def fcB (sp gp : Int) : Fc := ⟨List.replicate 26 0, sp, gp, []⟩
theorem fcB_T {sp gp : Int} (h1 : -128 ≤ sp ∧ sp ≤ 127) (h2 : -128 ≤ gp ∧ gp ≤ 127) : FcT (fcB sp gp) := ⟨rfl, fc0_T.wide, h1, h2, fun i hi => by unfold fcB at hi; simp at hi⟩
/-- A face is drawn. -/
def DrawF (w : World) (b m : Nat) (e : Ending) (w' : World) : Prop := ∃ f S, e = .returned (.agg (fcV f S).toArray) ∧ validF f = true ∧ FcD w' w.heap.size f S ∧ SrcAt w' b m ∧ w.grownBy w' (some b)
/-- What holds while the widths are drawn. -/
structure WdOk (f : Fc) (k : Nat) (sp gp : Int) : Prop where
  sp : f.space = sp
  gp : f.gap = gp
  ps : f.pairs = []
  wd : ∀ i, i < k → 1 ≤ rdI f.wide i ∧ rdI f.wide i ≤ 40
theorem WdOk.set {f : Fc} {k : Nat} {sp gp x : Int} (h : WdOk f k sp gp) (hl : f.wide.length = 26) (hk : k < 26) (hx : 1 ≤ x ∧ x ≤ 40) : WdOk (setW f k x) (k + 1) sp gp := by
  refine ⟨h.sp, h.gp, h.ps, fun i hi => ?_⟩
  unfold setW rdI
  rw [List.getD_eq_getElem?_getD, List.getElem?_set]
  split
  · split <;> simp_all
  · have := h.wd i (by omega)
    unfold rdI at this
    rwa [List.getD_eq_getElem?_getD] at this
theorem WdOk.again {f : Fc} {k : Nat} {sp gp x y : Int} (h : WdOk f k sp gp) (hl : f.wide.length = 26) (hk : k < 26) (hx : 1 ≤ x ∧ x ≤ 40) : WdOk (setW (setW f k y) k x) (k + 1) sp gp := by
  have e : setW (setW f k y) k x = setW f k x := by unfold setW; simp
  rw [e]; exact h.set hl hk hx
theorem WdOk.valid {f : Fc} {sp gp : Int} (h : WdOk f 26 sp gp) (h1 : 1 ≤ sp ∧ sp ≤ 40) (h2 : 0 ≤ gp ∧ gp ≤ 10) : validF f = true :=
  validF_iff.2 ⟨h.wd, by rw [h.sp]; exact h1, by rw [h.gp]; exact h2, fun i hi => by rw [h.ps] at hi; simp at hi, by rw [h.ps]; simp⟩
theorem i8_in {x : Int} (h : -128 ≤ x ∧ x ≤ 127) : IntKind.i8.wrap x = x := IntWalk.i8_in _ (by omega)
theorem u8_in' {x : Int} (h : 0 ≤ x ∧ x ≤ 255) : IntKind.u8.wrap x = x := IntWalk.u8_in _ (by omega)

/-- Ahead of the face's own block. -/
structure FdSt (w : World) (b m : Nat) (wr : World) : Prop where
  res : Blk wr w.heap.size 28 (fcV fc0 (.slice none 0 0))
  src : SrcAt wr b m
  grow : w.grownBy wr (some b)
theorem FdSt.start {w : World} {b m : Nat} (h : SrcAt w b m) : FdSt w b m (w.alloc (.cells (fcV fc0 (.slice none 0 0)).toArray 28)) :=
  ⟨Blk.new w _ _, h.next (below_one _ _), grown_below (below_one _ _)⟩
theorem FdSt.step {w wr w' : World} {b m m' : Nat} (h : FdSt w b m wr) (hb : b < w.heap.size) (hs : SrcAt w' b m') (hg : wr.grownBy w' (some b)) : FdSt w b m' w' :=
  ⟨h.res.grown hg (by simp; omega), hs, grownBy_trans h.grow hg⟩
theorem FdSt.face {w wr : World} {b m : Nat} {sp gp : Int} (h : FdSt w b m wr) (h1 : -128 ≤ sp ∧ sp ≤ 127) (h2 : -128 ≤ gp ∧ gp ≤ 127) : FdRel w b m wr.heap.size (fcB sp gp) (.slice none 0 0) (wr.alloc (.cells (fcV (fcB sp gp) (.slice none 0 0)).toArray 28)) :=
  ⟨h.res.lt, Blk.new _ _ _, h.res.alloc _, h.src.next (below_one _ _), grownBy_trans h.grow (grown_below (below_one _ _)), fcB_T h1 h2, none, 0, 0, rfl, rfl, by omega, SlP.nil, fun a e => by cases e⟩

theorem isLet_in {n : Int} (h : 65 ≤ n ∧ n ≤ 90) : isLet n = true := by unfold isLet; exact inB_true h
set_option maxHeartbeats 4000000 in
set_option maxRecDepth 100000 in
theorem drawnF_any (b m : Nat) (w : World) (h : SrcAt w b m) (hm : m ≤ 100000) :
    Calls Tryz.prog 26 #[.pointer (some ⟨b, 0, none⟩)] w (DrawF w b (m + 200)) := by
  have H := Lib.hid h
  have hb := h.lt
  clear h
  go_enter Tryz.func26, Tryz.ntmps26
  repeat (first | go_values | go_skip | go_guarded | go_step | go_upon)
  refine gen_calls (FdSt w b m) (FdSt.start H.out) ?_
  rintro W0 h0
  have R0 := Lib.hid h0
  clear h0
  repeat (first | go_values | go_skip | go_guarded | go_step | go_upon)
  go_at_call 51
  refine (pick_any b _ 8 _ R0.out.src (by omega) (by omega)).mono ?_
  rintro e w1 ⟨x, rfl, x_0, x_1, hs, hg⟩
  have R1 := Lib.hid (R0.out.step hb hs hg)
  clear hs hg
  dsimp only
  have e1 : IntKind.i64.wrap (2 + x) = 2 + x := IntWalk.i64_in _ (by omega)
  have e2 : IntKind.i8.wrap (2 + x) = 2 + x := i8_in (by omega)
  repeat (first | go_values | go_skip | go_guarded | go_step | go_upon)
  go_at_call 51
  refine (pick_any b _ 4 _ R1.out.src (by omega) (by omega)).mono ?_
  rintro e w2 ⟨y, rfl, y_0, y_1, hs, hg⟩
  have R2 := Lib.hid (R1.out.step hb hs hg)
  clear hs hg
  dsimp only
  have e3 : IntKind.i8.wrap y = y := i8_in (by omega)
  repeat ((with_reducible fail_if_success (show wpList _ _ _ (⟨some 17, _, _, _, _, _⟩ :: _) _ _)); first | go_values | go_skip | go_guarded | go_step | go_upon)
  refine wpList_val (by kernel_rfl) (.agg (fcV (fcB (2 + x) y) (.slice none 0 0)).toArray) w2 (by kernel_rfl) ?_
  have R3 := Lib.hid (R2.out.face (sp := 2 + x) (gp := y) (by omega) (by omega))
  repeat ((with_reducible fail_if_success (show wpList _ _ _ (⟨none, .store 28 (.tmp 3) (.tmp 17), _, _, _, _⟩ :: _) _ _)); first | go_values | go_skip | go_guarded | go_step | go_upon)
  refine wpList_store_new rfl 28 (.tmp 3) (.tmp 17) rfl (fcV (fcB (2 + x) y) (.slice none 0 0)).toArray rfl rfl 28 _ (by rw [List.size_toArray, fcV_length (fcB_T (by omega) (by omega))]; exact szFcI) rfl (one_fc _ _ _ _) ?_
  generalize w2.alloc (.cells (fcV (fcB (2 + x) y) (.slice none 0 0)).toArray 28) = W3 at *
  generalize w2.heap.size = g3 at *
  clear R2 e1 e2 e3
  repeat (first | go_values | go_skip | go_guarded | go_step | go_upon)
  go_at_call 52
  refine (one_any b _ 3 _ R3.out.src (by omega) (by omega)).mono ?_
  rintro e w4 ⟨⟨be, rfl⟩, hs, hg⟩
  have R4 := Lib.hid (R3.out.step hb hs hg)
  clear hs hg R3
  dsimp only
  repeat ((with_reducible fail_if_success (show Code.wp _ (Code.loop _) _ _ _)); first | go_values | go_skip | go_guarded | go_step | go_upon)
  go_loopw [5] (fun i wr => ∃ (k : Nat) (f : Fc), k ≤ 26 ∧ i = .int .i64 k ∧ WdOk f k (2 + x) y ∧ FdRel w b (m + 6 + 2 * k) g3 f (.slice none 0 0) wr) (fun i _ => 26 - (intOf i).toNat)
  case atStart => exact ⟨0, _, by omega, rfl, ⟨rfl, rfl, rfl, fun i hi => by omega⟩, R4.out⟩
  clear R4
  case round =>
    obtain ⟨k, f, hk, rfl, hwd, hr⟩ := hrel
    have R := Lib.hid hr
    have HW := Lib.hid hwd
    clear hr hwd
    by_cases hlt : k < 26
    · have hcl := R.out.blk.cell k _ (fcV_wide R.out.mem.typ _ k hlt)
      have hfr := R.out.blk.free k
      have hlen := R.out.mem.typ.len
      have HR5 := Lib.hid (R.out.wd hb k hlt 10 (by omega))
      cases be
      · repeat ((with_reducible fail_if_success (show Code.wp _ (Code.region 8 _ _) _ _ _)); first | go_values | go_skip | go_guarded | go_step | go_upon)
        generalize wr.setCell ⟨g3, k, none⟩ (.int .i8 10) = W5 at *
        clear hcl hfr
        repeat (first | go_values | go_skip | go_guarded | go_step | go_upon)
        go_at_call 51
        refine (pick_any b _ 12 _ HR5.out.src (by omega) (by omega)).mono ?_
        rintro e w6 ⟨z, rfl, z_0, z_1, hs, hg⟩
        have R6 := Lib.hid (HR5.out.step hb hs hg)
        clear hs hg
        dsimp only
        have e1 : IntKind.i64.wrap (4 + z) = 4 + z := IntWalk.i64_in _ (by omega)
        have e2 : IntKind.i8.wrap (4 + z) = 4 + z := i8_in (by omega)
        have hcl := R6.out.blk.cell k _ (fcV_wide R6.out.mem.typ _ k hlt)
        have hfr := R6.out.blk.free k
        have HR7 := Lib.hid (R6.out.wd hb k hlt (4 + z) (by omega))
        repeat (first | go_values | go_skip | go_guarded | go_step | go_upon)
        go_roundw
        case rel => exact ⟨k + 1, _, by omega, by go_num, HW.out.again hlen hlt (by omega), HR7.out.le (by omega)⟩
        case measure => simp [intOf]; omega
      · skip
        repeat (first | go_values | go_skip | go_guarded | go_step | go_upon)
        go_roundw
        case rel => exact ⟨k + 1, _, by omega, by go_num, HW.out.set hlen hlt (by omega), HR5.out.le (by omega)⟩
        case measure => simp [intOf]; omega
    · obtain rfl : k = 26 := by omega
      have HVF := Lib.hid (HW.out.valid (by omega) (by omega))
      clear HW
      repeat (first | go_values | go_skip | go_guarded | go_step | go_upon)
      go_at_call 51
      refine (pick_any b _ 6 _ R.out.src (by omega) (by omega)).mono ?_
      rintro e w6 ⟨z, rfl, z_0, z_1, hs, hg⟩
      have R6 := Lib.hid (R.out.step hb hs hg)
      clear hs hg
      dsimp only
      obtain ⟨Z, rfl⟩ := Int.eq_ofNat_of_zero_le z_0
      repeat ((with_reducible fail_if_success (show Code.wp _ (Code.loop _) _ _ _)); first | go_values | go_skip | go_guarded | go_step | go_upon)
      go_loopw [6] (fun i wr => ∃ (k : Nat) (f : Fc) (S : Value), k ≤ 6 ∧ i = .int .i64 k ∧ validF f = true ∧ FdRel w b (m + 60 + 6 * (6 - k)) g3 f S wr) (fun i _ => (intOf i).toNat)
      case atStart => exact ⟨Z, f, _, by omega, rfl, HVF.out, R6.out.le (by omega)⟩
      clear R6 R HVF z_0 z_1
      case round =>
        obtain ⟨k, f, S, hk, rfl, hv, hr⟩ := hrel
        have R := Lib.hid hr
        have HVF := Lib.hid hv
        clear hr hv
        by_cases hlt : 0 < k
        · have hlti : (0 : Int) < (k : Int) := by omega
          repeat (first | go_values | go_skip | go_guarded | go_step | go_upon)
          go_at_call 51
          refine (pick_any b _ 5 _ R.out.src (by omega) (by omega)).mono ?_
          rintro e w7 ⟨p, rfl, p_0, p_1, hs, hg⟩
          have R7 := Lib.hid (R.out.step hb hs hg)
          clear hs hg
          dsimp only
          have e1 : IntKind.i64.wrap (65 + p) = 65 + p := IntWalk.i64_in _ (by omega)
          have e2 : IntKind.u8.wrap (65 + p) = 65 + p := u8_in' (by omega)
          repeat (first | go_values | go_skip | go_guarded | go_step | go_upon)
          go_at_call 51
          refine (pick_any b _ 5 _ R7.out.src (by omega) (by omega)).mono ?_
          rintro e w8 ⟨q, rfl, q_0, q_1, hs, hg⟩
          have R8 := Lib.hid (R7.out.step hb hs hg)
          clear hs hg
          dsimp only
          have e3 : IntKind.i64.wrap (65 + q) = 65 + q := IntWalk.i64_in _ (by omega)
          have e4 : IntKind.u8.wrap (65 + q) = 65 + q := u8_in' (by omega)
          repeat ((with_reducible fail_if_success (show wpList _ _ _ (⟨some 50, _, _, _, _, _⟩ :: _) _ _)); first | go_values | go_skip | go_guarded | go_step | go_upon)
          refine wpList_val (by kernel_rfl) (.agg (prV ⟨65 + p, 65 + q, 0⟩).toArray) w8 (by kernel_rfl) ?_
          have hb9 := below_one w8 (.cells (prV ⟨65 + p, 65 + q, 0⟩).toArray 85)
          have R9 := Lib.hid (R8.out.next hb9)
          have B9 := Lib.hid (Blk.new w8 85 (prV ⟨65 + p, 65 + q, 0⟩))
          have HNE := Lib.hid (show ∀ A n c, S = .slice A n c → ∀ a, A = some a → a.block ≠ w8.heap.size from fun A n c e a ea => by
            obtain ⟨_, A', n', c', e', _, _, _, h5⟩ := R8.out.mem
            rw [e'] at e
            injection e with e1
            subst e1
            have := (h5 a ea).2
            omega)
          have hg9 : g3 < w8.heap.size := R8.out.blk.lt
          repeat ((with_reducible fail_if_success (show wpList _ _ _ (⟨none, .store 85 (.tmp 7) (.tmp 50), _, _, _, _⟩ :: _) _ _)); first | go_values | go_skip | go_guarded | go_step | go_upon)
          refine wpList_store_new rfl 85 (.tmp 7) (.tmp 50) rfl (prV ⟨65 + p, 65 + q, 0⟩).toArray rfl rfl 85 _ szPrI rfl (one_pr _) ?_
          generalize w8.alloc (.cells (prV ⟨65 + p, 65 + q, 0⟩).toArray 85) = W9 at *
          generalize w8.heap.size = g9 at *
          clear R8 hb9 e1 e2 e3 e4
          have hlo := R9.out.lo
          repeat (first | go_values | go_skip | go_guarded | go_step | go_upon)
          go_at_call 51
          refine (pick_any b _ 7 _ R9.out.src (by omega) (by omega)).mono ?_
          rintro e w10 ⟨r, rfl, r_0, r_1, hs, hg⟩
          have R10 := Lib.hid (R9.out.step hb hs hg)
          have B10 := Lib.hid (B9.out.grown hg (by simp; omega))
          clear hs hg R9 B9
          dsimp only
          have e1 : IntKind.i64.wrap (r - 3) = r - 3 := IntWalk.i64_in _ (by omega)
          have e2 : IntKind.i8.wrap (r - 3) = r - 3 := i8_in (by omega)
          have c2 := B10.out.cell 2 _ rfl
          have f2 := B10.out.free 2
          have hg11 : w10.grownBy (w10.setCell ⟨g9, 2, none⟩ (.int .i8 (r - 3))) (some g9) := grown_one
          have R11 := Lib.hid (R10.out.other hg11 hg9 hb HNE.out)
          have B11 := Lib.hid (show Blk (w10.setCell ⟨g9, 2, none⟩ (.int .i8 (r - 3))) g9 85 (prV ⟨65 + p, 65 + q, r - 3⟩) from B10.out.set 2 (.int .i8 (r - 3)))
          clear hg11
          obtain ⟨hft, A, n, c, rfl, hn, hm', hsl, hbd⟩ := R11.out.mem
          have HFT := Lib.hid hft
          have HN := Lib.hid hn
          have HSL := Lib.hid hsl
          have HFW := Lib.hid (show f.pairs.length ≤ 12 from (validF_iff.1 HVF.out).few)
          clear hft hn hsl hbd hm'
          repeat ((with_reducible fail_if_success (show wpList _ _ _ (⟨some 57, _, _, _, _, _⟩ :: _) _ _)); first | go_values | go_skip | go_guarded | go_step | go_upon)
          clear c2 f2 e1 e2
          generalize w10.setCell ⟨g9, 2, none⟩ (.int .i8 (r - 3)) = W11 at *
          refine wpList_load_row rfl 28 (.tmp 3) rfl _ rfl 28 (fcV f (.slice A n c)).toArray _ _ R11.out.blk Tryz.underlying28 rfl (by rw [List.size_toArray, fcV_length HFT.out]; exact szFcI) ?_
          repeat ((with_reducible fail_if_success (show wpList _ _ _ (⟨some 58, _, _, _, _, _⟩ :: _) _ _)); first | go_values | go_skip | go_guarded | go_step | go_upon)
          refine wpList_load_row rfl 85 (.tmp 7) rfl _ rfl 85 (prV ⟨65 + p, 65 + q, r - 3⟩).toArray _ _ B11.out Tryz.underlying85 rfl szPrI ?_
          repeat (first | go_values | go_skip | go_guarded | go_step | go_upon)
          go_at_call 53
          refine (with_any f A n c ⟨65 + p, 65 + q, r - 3⟩ W11 HFT.out ⟨by constructor <;> simp <;> omega, by constructor <;> simp <;> omega, by constructor <;> simp <;> omega⟩ HVF.out (isLet_in (show 65 ≤ 65 + p ∧ 65 + p ≤ 90 by omega)) (isLet_in (show 65 ≤ 65 + q ∧ 65 + q ≤ 90 by omega)) HN.out (by have := HN.out; have := HFW.out; omega) HSL.out).mono ?_
          rintro e w12 ⟨f', S', code, rfl, hval, hmem, hbel⟩
          have hlt11 := R11.out.blk.lt
          have HVAL := Lib.hid hval
          have R12 := Lib.hid (R11.out.next hbel)
          have M12 := Lib.hid (hmem.le (show g3 ≤ W11.heap.size - 1 by omega))
          clear hval hmem hbel
          dsimp only
          have hb13 := below_one w12 (.cells (fcV f' S').toArray 28)
          have R13 := Lib.hid (R12.out.next hb13)
          have M13 := Lib.hid (M12.out.next hb13)
          have B13 := Lib.hid (Blk.new w12 28 (fcV f' S'))
          have hlen := fcV_length M12.out.typ S'
          have hone : (fcV f' S').toArray.all (·.oneCell') = true := by
            obtain ⟨_, A2, n2, c2, e2, _⟩ := M12.out
            rw [e2]; exact one_fc _ _ _ _
          repeat ((with_reducible fail_if_success (show wpList _ _ _ (⟨none, .store 28 (.tmp 8) (.tmp 60), _, _, _, _⟩ :: _) _ _)); first | go_values | go_skip | go_guarded | go_step | go_upon)
          refine wpList_store_new rfl 28 (.tmp 8) (.tmp 60) rfl (fcV f' S').toArray rfl rfl 28 _ (by rw [List.size_toArray, hlen]; exact szFcI) (by rw [show (fcV f' S').toArray.size = 29 by rw [List.size_toArray, hlen]]; rfl) hone ?_
          generalize w12.alloc (.cells (fcV f' S').toArray 28) = W13 at *
          generalize w12.heap.size = g13 at *
          clear hb13 R12 M12
          by_cases hc0 : code = 0
          · subst hc0
            have HV2 := Lib.hid (HVAL.out rfl)
            have R14 := Lib.hid (R13.out.row hb M13.out)
            repeat ((with_reducible fail_if_success (show wpList _ _ _ (⟨some 64, _, _, _, _, _⟩ :: _) _ _)); first | go_values | go_skip | go_guarded | go_step | go_upon)
            refine wpList_load_row rfl 28 (.tmp 8) rfl _ rfl 28 (fcV f' S').toArray _ _ B13.out Tryz.underlying28 rfl (by rw [List.size_toArray, hlen]; exact szFcI) ?_
            repeat ((with_reducible fail_if_success (show wpList _ _ _ (⟨none, .store 28 (.tmp 3) (.tmp 64), _, _, _, _⟩ :: _) _ _)); first | go_values | go_skip | go_guarded | go_step | go_upon)
            refine wpList_store_row rfl 28 (.tmp 3) (.tmp 64) rfl g3 (fcV f' S').toArray rfl rfl 28 _ R13.out.blk (by rw [List.size_toArray, hlen]; exact szFcI) (by rw [List.size_toArray, List.size_toArray, hlen, fcV_length HFT.out]) hone ?_
            repeat (first | go_values | go_skip | go_guarded | go_step | go_upon)
            refine ⟨?_, ?measure⟩
            apply Exists.intro
            (repeat apply Exists.intro)
            refine ⟨?rel, rfl⟩
            case rel => exact ⟨k - 1, _, _, by omega, by congr 1; omega, HV2.out, R14.out.le (by omega)⟩
            case measure => simp [intOf]; omega
          · have hcb : (code == 0) = false := by simpa using hc0
            repeat (first | go_values | go_skip | go_guarded | go_step | go_upon)
            refine ⟨?_, ?measure⟩
            apply Exists.intro
            (repeat apply Exists.intro)
            refine ⟨?rel, rfl⟩
            case rel => exact ⟨k - 1, _, _, by omega, by congr 1; omega, HVF.out, R13.out.le (by omega)⟩
            case measure => simp [intOf]; omega
        · obtain rfl : k = 0 := by omega
          have hlen := fcV_length R.out.mem.typ S
          have hone : (fcV f S).toArray.all (·.oneCell') = true := by
            obtain ⟨_, A2, n2, c2, e2, _⟩ := R.out.mem
            rw [e2]; exact one_fc _ _ _ _
          have hlo := R.out.lo
          repeat ((with_reducible fail_if_success (show wpList _ _ _ (⟨some 65, _, _, _, _, _⟩ :: _) _ _)); first | go_values | go_skip | go_guarded | go_step | go_upon)
          refine wpList_load_row rfl 28 (.tmp 3) rfl _ rfl 28 (fcV f S).toArray _ _ R.out.blk Tryz.underlying28 rfl (by rw [List.size_toArray, hlen]; exact szFcI) ?_
          repeat ((with_reducible fail_if_success (show wpList _ _ _ (⟨none, .store 28 (.tmp 2) (.tmp 65), _, _, _, _⟩ :: _) _ _)); first | go_values | go_skip | go_guarded | go_step | go_upon)
          refine wpList_store_row rfl 28 (.tmp 2) (.tmp 65) rfl w.heap.size (fcV f S).toArray rfl rfl 28 _ R.out.res (by rw [List.size_toArray, hlen]; exact szFcI) (by rw [List.size_toArray, List.size_toArray, hlen, fcV_length fc0_T]) hone ?_
          repeat (first | go_values | go_skip | go_guarded | go_step | go_upon)
          have hgr : wr.grownBy (wr.setRow w.heap.size (fcV f S).toArray) (some w.heap.size) := setRow_grown' _ _ _
          exact bodyPost_ret (v := .agg (fcV f S).toArray) (results_cell_row rfl _ _ _ 28 (fcV f S).toArray _ _ rfl (R.out.res.setRow_same (fcV f S)) Tryz.underlying28 rfl (by rw [List.size_toArray, hlen]; exact szFcI)) rfl ⟨f, S, rfl, HVF.out, (R.out.mem.grown hgr (by omega)).le (by omega), (R.out.src.grown hgr (by omega)).le (by omega), grown_over' R.out.grow hgr (by omega)⟩
end Go.Proofs.YtdhngjjfoddnkaaGreatDoor
namespace Go.Proofs.YtdhngjjfoddnkaaGreatDoor
open Go Go.RowKit
set_option linter.unusedVariables false
set_option linter.unusedSimpArgs false

/-- A byte slice of one byte becomes a text. -/
theorem exec_bytestr {o : Oper} {a : Act} {w : World} (x : Operand) (ho : o.op = .convert 22 9 x) (b : UInt8) (g : Nat) (hx : a.eval x = .slice (some ⟨g, 0, none⟩) 1 1) (hc : w.cell? ⟨g, 0, none⟩ = some (.int .u8 (b.toNat : Int))) :
    (execOp a.eval o).run Tryz.prog w = .ok (.value (.string ⟨[b].toArray⟩)) w := by
  have h := run_convert_bytes_back (P := Tryz.prog) w 22 9 5 ⟨g, 0, none⟩ 1 [b] Tryz.underlying22 Tryz.underlying5 Tryz.underlying9 (fun j hj => by
    obtain rfl : j = 0 := by simp at hj; omega
    exact hc)
  have h2 : (convert 22 9 (.slice (some ⟨g, 0, none⟩) 1 1)).run Tryz.prog w = .ok (.string ⟨[b].toArray⟩) w := h
  unfold execOp
  simp only [ho, hx, Sem.run_bind, Sem.run_pure, h2, Result.andThen_ok]
/-- Two texts are joined. -/
theorem exec_cat {o : Oper} {a : Act} {w : World} (x y : Operand) (ho : o.op = .binOp .add 9 x y 9) (l m : List UInt8) (hx : a.eval x = .string ⟨l.toArray⟩) (hy : a.eval y = .string ⟨m.toArray⟩) (hl : l.length ≤ 1000000) (hm : m.length ≤ 1000000) :
    (execOp a.eval o).run Tryz.prog w = .ok (.value (.string ⟨(l ++ m).toArray⟩)) w := by
  have h := run_string_add_lists (P := Tryz.prog) w l m (by omega) (by omega)
  unfold execOp
  simp only [ho, hx, hy]
  go_simp
  all_goals (rw [h])
theorem u8_of (n : Int) (h : 0 ≤ n ∧ n ≤ 255) : ((UInt8.ofNat n.toNat).toNat : Int) = n := by
  have : n.toNat < 256 := by omega
  rw [UInt8.toNat_ofNat_of_lt' this]; omega
/-- A word is drawn. -/
def DrawW (w : World) (b m : Nat) (e : Ending) (w' : World) : Prop := ∃ l : List UInt8, e = .returned (.string ⟨l.toArray⟩) ∧ LL l ∧ 1 ≤ l.length ∧ l.length ≤ 5 ∧ SrcAt w' b m ∧ w.grownBy w' (some b)
set_option maxHeartbeats 4000000 in
set_option maxRecDepth 100000 in
theorem spelt_any (b m : Nat) (w : World) (h : SrcAt w b m) (hm : m ≤ 100000) :
    Calls Tryz.prog 54 #[.pointer (some ⟨b, 0, none⟩)] w (DrawW w b (m + 30)) := by
  have H := Lib.hid h
  have hb := h.lt
  clear h
  go_enter Tryz.func54, Tryz.ntmps54
  repeat (first | go_values | go_skip | go_guarded | go_step | go_upon)
  go_at_call 51
  refine (pick_any b m 5 w H.out (by omega) (by omega)).mono ?_
  rintro e w1 ⟨z, rfl, z_0, z_1, hs, hg⟩
  have HS := Lib.hid hs
  have HG := Lib.hid hg
  clear hs hg
  dsimp only
  obtain ⟨Z, rfl⟩ := Int.eq_ofNat_of_zero_le z_0
  have e1 : IntKind.i64.wrap (1 + (Z : Int)) = ((Z + 1 : Nat) : Int) := by rw [IntWalk.i64_in _ (by omega)]; omega
  repeat ((with_reducible fail_if_success (show Code.wp _ (Code.loop _) _ _ _)); first | go_values | go_skip | go_guarded | go_step | go_upon)
  go_loopw [3, 4] (fun s i wr => ∃ (k : Nat) (l : List UInt8), k ≤ 5 ∧ i = .int .i64 k ∧ s = .string ⟨l.toArray⟩ ∧ LL l ∧ 1 ≤ l.length + k ∧ l.length + k ≤ 5 ∧ SrcAt wr b (m + 2 + 4 * (5 - k)) ∧ w.grownBy wr (some b)) (fun _ i _ => (intOf i).toNat)
  case atStart => exact ⟨Z + 1, [], by omega, rfl, rfl, LL.nil, by simp, by simp; omega, HS.out.le (by omega), HG.out⟩
  clear HS HG e1 z_0 z_1
  case round =>
    obtain ⟨k, l, hk, rfl, rfl, hll, hl1, hl5, hs, hg⟩ := hrel
    have HS := Lib.hid hs
    have HG := Lib.hid hg
    have HL := Lib.hid hll
    clear hs hg hll
    by_cases hlt : 0 < k
    · have hlti : (0 : Int) < (k : Int) := by omega
      repeat (first | go_values | go_skip | go_guarded | go_step | go_upon)
      go_at_call 51
      refine (pick_any b _ 2 _ HS.out (by omega) (by omega)).mono ?_
      rintro e w2 ⟨x, rfl, x_0, x_1, hs2, hg2⟩
      have HS2 := Lib.hid hs2
      have HG2 := Lib.hid (grownBy_trans HG.out hg2)
      clear hs2 hg2 HS HG
      dsimp only
      have e1 : IntKind.i64.wrap (x * 21) = x * 21 := IntWalk.i64_in _ (by omega)
      have e2 : IntKind.i64.wrap (5 + x * 21) = 5 + x * 21 := IntWalk.i64_in _ (by omega)
      repeat (first | go_values | go_skip | go_guarded | go_step | go_upon)
      go_at_call 51
      refine (pick_any b _ (5 + x * 21) _ HS2.out (by omega) (by omega)).mono ?_
      rintro e w3 ⟨y, rfl, y_0, y_1, hs3, hg3⟩
      have HS3 := Lib.hid hs3
      have HG3 := Lib.hid (grownBy_trans HG2.out hg3)
      clear hs3 hg3 HS2 HG2 e1 e2
      dsimp only
      have e1 : IntKind.i64.wrap (65 + y) = 65 + y := IntWalk.i64_in _ (by omega)
      have e2 : IntKind.u8.wrap (65 + y) = 65 + y := IntWalk.u8_in _ (by omega)
      obtain ⟨c, hc⟩ : ∃ c, c = UInt8.ofNat (65 + y).toNat := ⟨_, rfl⟩
      have hcn : ((c.toNat : Nat) : Int) = 65 + y := by rw [hc]; exact u8_of _ (by omega)
      have HLC := Lib.hid (HL.out.snoc (b := c) (by unfold isLet; exact inB_true (by omega)))
      have hb4 := below_one w3 (.cells #[.int .u8 (65 + y)] 5)
      have HS4 := Lib.hid (HS3.out.next hb4)
      have HG4 := Lib.hid (grownBy_trans HG3.out (grown_below hb4))
      clear hc hb4 HS3 HG3
      repeat ((with_reducible fail_if_success (show wpList _ _ _ (⟨some 21, _, _, _, _, _⟩ :: _) _ _)); first | go_values | go_skip | go_guarded | go_step | go_upon)
      refine wpList_val (by kernel_rfl) (.slice (some ⟨w3.heap.size, 0, none⟩) 1 1) (w3.alloc (.cells #[.int .u8 (65 + y)] 5)) (by kernel_rfl) ?_
      repeat ((with_reducible fail_if_success (show wpList _ _ _ (⟨some 22, _, _, _, _, _⟩ :: _) _ _)); first | go_values | go_skip | go_guarded | go_step | go_upon)
      refine wpList_val (by kernel_rfl) (.string ⟨[c].toArray⟩) _ (exec_bytestr (.tmp 21) rfl c w3.heap.size (by kernel_rfl) (by rw [hcn]; exact cell_one_new w3 _ _ 0 _ rfl)) ?_
      repeat ((with_reducible fail_if_success (show wpList _ _ _ (⟨some 23, _, _, _, _, _⟩ :: _) _ _)); first | go_values | go_skip | go_guarded | go_step | go_upon)
      refine wpList_val (by kernel_rfl) (.string ⟨(l ++ [c]).toArray⟩) _ (exec_cat (.tmp 12) (.tmp 22) rfl l [c] (by kernel_rfl) (by kernel_rfl) (by omega) (by simp)) ?_
      clear e1 e2 hcn
      generalize w3.alloc (.cells #[.int .u8 (65 + y)] 5) = W4 at *
      repeat (first | go_values | go_skip | go_guarded | go_step | go_upon)
      go_roundw
      case rel => exact ⟨k - 1, l ++ [c], by omega, by congr 1; omega, rfl, HLC.out, by simp; omega, by simp; omega, HS4.out.le (by omega), HG4.out⟩
      case measure => simp [intOf]; omega
    · obtain rfl : k = 0 := by omega
      repeat (first | go_values | go_skip | go_guarded | go_step | go_upon)
      go_ret
      exact ⟨l, rfl, HL.out, by omega, by omega, HS.out.le (by omega), HG.out⟩
end Go.Proofs.YtdhngjjfoddnkaaGreatDoor
namespace Go.Proofs.YtdhngjjfoddnkaaGreatDoor
open Go Go.RowKit
set_option linter.unusedVariables false
set_option linter.unusedSimpArgs false

theorem below_drawn {w w1 w2 : World} {b : Nat} (h1 : Below w.heap.size w w1) (hg : w1.grownBy w2 (some b)) (hb : w.heap.size ≤ b) : Below w.heap.size w w2 :=
  h1.trans ⟨hg.os, hg.tape, hg.output, hg.size, fun k hk => hg.block k (by have := h1.size; omega) (by intro e; injection e with e; omega)⟩
/-- A face in memory. -/
def HasF (w : World) (f : Fc) (S : Value) : Prop := FcT f ∧ ∃ A n c, S = .slice A n c ∧ f.pairs.length = n ∧ n ≤ 12 ∧ SlP w A f.pairs
theorem HasF.next {w w' : World} {f : Fc} {S : Value} (h : HasF w f S) (hb : Below w.heap.size w w') : HasF w' f S := by
  obtain ⟨h1, A, n, c, e, h2, h3, h4⟩ := h
  exact ⟨h1, A, n, c, e, h2, h3, h4.next hb⟩
theorem FcD.has {w : World} {b : Nat} {f : Fc} {S : Value} (h : FcD w b f S) (hv : validF f = true) : HasF w f S := by
  obtain ⟨h1, A, n, c, e, h2, h3, h4, h5⟩ := h
  exact ⟨h1, A, n, c, e, h2, by have := (validF_iff.1 hv).few; omega, h4⟩

set_option maxRecDepth 100000 in
theorem a2face_any (A : Option Addr) (n c : Nat) (xs : List Int) (w : World) (hn : xs.length = n) (hl : n ≤ 4096) (hs : SlE u8 w A xs) (hy : Byt xs) :
    Calls Tryz.prog 5 #[.slice A n c] w fun e w' => ∃ f S, e = .returned (.agg (fcV f S).toArray) ∧ validF f = true ∧ HasF w' f S ∧ Below w.heap.size w w' := by
  have HA := Lib.hid hs
  have HY := Lib.hid hy
  have HN := Lib.hid hn
  clear hs hy hn
  go_enter Tryz.func5, Tryz.ntmps5
  have hb0 := below_one w (.cells (fcV fc0 (.slice none 0 0)).toArray 28)
  have HB0 := Lib.hid hb0
  have HK0 := Lib.hid (Blk.new w 28 (fcV fc0 (.slice none 0 0)))
  clear hb0
  repeat (first | go_values | go_skip | go_guarded | go_step | go_upon)
  refine gen_calls (fun W => Blk W w.heap.size 28 (fcV fc0 (.slice none 0 0)) ∧ Below w.heap.size w W) ⟨HK0.out, HB0.out⟩ ?_
  rintro W0 ⟨hk0, hB0⟩
  have HK := Lib.hid hk0
  have HB := Lib.hid hB0
  clear hk0 hB0 HK0 HB0
  repeat (first | go_values | go_skip | go_guarded | go_step | go_upon)
  go_at_call 27
  refine (from_any A n c xs _ HN.out (by omega) (HA.out.next HB.out) HY.out).mono ?_
  rintro e w1 ⟨b, rfl, hb0, hs1, hb1⟩
  have HS := Lib.hid hs1
  have HB1 := Lib.hid hb1
  have hbl := hs1.lt
  clear hs1 hb1
  dsimp only
  have HK1 := Lib.hid (HK.out.next HB1.out)
  have HB2 := Lib.hid (below_step HB.out HB1.out)
  have hlt := HK.out.lt
  repeat (first | go_values | go_skip | go_guarded | go_step | go_upon)
  go_at_call 26
  refine (drawnF_any b 0 _ HS.out (by omega)).mono ?_
  rintro e w2 ⟨f, S, rfl, hv, hmem, hs2, hg⟩
  have HK2 := Lib.hid (HK1.out.grown hg (by simp; omega))
  have HB3 := Lib.hid (below_drawn HB2.out hg (by omega))
  have HM := Lib.hid hmem
  have hone : (fcV f S).toArray.all (·.oneCell') = true := by
    obtain ⟨_, A2, n2, c2, e2, _⟩ := hmem
    rw [e2]; exact one_fc _ _ _ _
  have hlen := fcV_length hmem.typ S
  have hw1 : w.heap.size < w1.heap.size := by have := HB1.out.size; omega
  clear hmem hs2 hg
  dsimp only
  repeat ((with_reducible fail_if_success (show wpList _ _ _ (⟨none, .store 28 (.tmp 2) (.tmp 5), _, _, _, _⟩ :: _) _ _)); first | go_values | go_skip | go_guarded | go_step | go_upon)
  refine wpList_store_row rfl 28 (.tmp 2) (.tmp 5) rfl w.heap.size (fcV f S).toArray rfl rfl 28 _ HK2.out (by rw [List.size_toArray, hlen]; exact szFcI) (by rw [List.size_toArray, List.size_toArray, hlen, fcV_length fc0_T]) hone ?_
  repeat (first | go_values | go_skip | go_guarded | go_step | go_upon)
  have hgr : w2.grownBy (w2.setRow w.heap.size (fcV f S).toArray) (some w.heap.size) := setRow_grown' _ _ _
  exact bodyPost_ret (v := .agg (fcV f S).toArray) (results_cell_row rfl _ _ _ 28 (fcV f S).toArray _ _ rfl (HK2.out.setRow_same (fcV f S)) Tryz.underlying28 rfl (by rw [List.size_toArray, hlen]; exact szFcI)) rfl ⟨f, S, rfl, hv, (HM.out.grown hgr (by omega)).has hv, below_setRow HB3.out _ _ (Nat.le_refl _)⟩

end Go.Proofs.YtdhngjjfoddnkaaGreatDoor
namespace Go.Proofs.YtdhngjjfoddnkaaGreatDoor
open Go Go.RowKit
set_option linter.unusedVariables false
set_option linter.unusedSimpArgs false

theorem chOk_left {a w : List UInt8} {i : Nat} (hi : i < a.length) (h : chOk a i = true) : chOk (a ++ 32 :: w) i = true := by
  unfold chOk at h ⊢
  rw [byt_append_left hi]
  by_cases h32 : byt a i = 32
  · rw [if_pos h32] at h ⊢
    simp only [Bool.and_eq_true, decide_eq_true_iff] at h ⊢
    refine ⟨⟨h.1.1, by rw [List.length_append, List.length_cons]; omega⟩, ?_⟩
    rw [byt_append_left (by omega)]; exact h.2
  · rw [if_neg h32] at h ⊢; exact h
theorem vText_snoc {a w : List UInt8} (ha : vText a = true) (ha0 : a ≠ []) (hw : LL w) (hw0 : w ≠ []) (hl : (a ++ 32 :: w).length ≤ 60) : vText (a ++ 32 :: w) = true := by
  rw [vText_iff] at ha ⊢
  refine ⟨fun i hi => ?_, hl⟩
  have hal : 0 < a.length := List.length_pos_iff.2 ha0
  have hwl : 0 < w.length := List.length_pos_iff.2 hw0
  by_cases h1 : i < a.length
  · exact chOk_left h1 (ha.1 i h1)
  · by_cases h2 : i = a.length
    · subst h2
      have hb : byt (a ++ 32 :: w) a.length = 32 := by have := byt_append_right (a := a) (b := 32 :: w) (i := 0); rw [Nat.add_zero] at this; rw [this]; exact byt_head
      unfold chOk
      rw [if_pos hb]
      simp only [Bool.and_eq_true, decide_eq_true_iff]
      refine ⟨⟨by omega, by rw [List.length_append, List.length_cons]; omega⟩, ?_⟩
      rw [byt_append_left (by omega)]
      intro h32
      have := chOk_sp (ha.1 (a.length - 1) (by omega)) h32
      omega
    · obtain ⟨j, rfl⟩ : ∃ j, i = a.length + (j + 1) := ⟨i - a.length - 1, by omega⟩
      have hj : j < w.length := by rw [List.length_append, List.length_cons] at hi; omega
      have hb : byt (a ++ 32 :: w) (a.length + (j + 1)) = byt w j := by rw [byt_append_right, byt_cons]
      have hlet := hw j hj
      unfold chOk
      rw [hb, if_neg (fun e => by rw [e] at hlet; revert hlet; decide)]; exact hlet
/-- Words that are drawn. -/
def Wds (ws : List (List UInt8)) : Prop := ∀ x ∈ ws, LL x ∧ 1 ≤ x.length ∧ x.length ≤ 5
theorem joinW_wds : ∀ (n : Nat) (ws : List (List UInt8)), ws.length = n → n ≤ 8 → Wds ws → vText (joinW ws) = true ∧ (joinW ws).length ≤ 6 * n ∧ (0 < n → joinW ws ≠ [])
  | 0, ws, h, _, _ => by
    have : ws = [] := List.eq_nil_of_length_eq_zero h
    subst this
    exact ⟨by decide, by simp [joinW_nil], fun h => by omega⟩
  | n + 1, ws, h, hn, hw => by
    have hne : ws ≠ [] := fun e => by rw [e] at h; simp at h
    have e := List.dropLast_concat_getLast hne
    generalize hx : ws.getLast hne = x at e
    generalize hv : ws.dropLast = vs at e
    have hxm : x ∈ ws := by rw [← hx]; exact List.getLast_mem hne
    have hvl : vs.length = n := by rw [← hv, List.length_dropLast, h]; rfl
    obtain ⟨h1, h2, h3⟩ := joinW_wds n vs hvl (by omega) (fun y hy => hw y (by rw [← e]; exact List.mem_append_left _ hy))
    obtain ⟨x1, x2, x3⟩ := hw x hxm
    have hx0 : x ≠ [] := fun e => by rw [e] at x2; simp at x2
    rw [← e]
    by_cases hv0 : vs = []
    · subst hv0
      rw [List.nil_append, joinW_one]
      exact ⟨vText_iff.2 ⟨fun i hi => by
        have := x1 i hi
        unfold chOk
        rw [if_neg (fun e => by rw [e] at this; revert this; decide)]; exact this, by omega⟩, by omega, fun _ => hx0⟩
    · have hn0 : 0 < n := by rw [← hvl]; exact List.length_pos_iff.2 hv0
      rw [joinW_snoc hv0]
      have hlen : (joinW vs ++ 32 :: x).length ≤ 6 * (n + 1) := by rw [List.length_append, List.length_cons]; omega
      exact ⟨vText_snoc h1 (h3 hn0) x1 hx0 (by omega), hlen, fun _ e => by simp at e⟩
theorem grown_row {w wr w' : World} {b : Nat} {row : Option Nat} (h : w.grownBy wr (some b)) (h2 : wr.grownBy w' row) (hg : ∀ g, row = some g → w.heap.size ≤ g) : w.grownBy w' (some b) :=
  ⟨h2.os.trans h.os, h2.tape.trans h.tape, h2.output.trans h.output, Nat.le_trans h.size h2.size, fun i hi hne => (h2.block i (Nat.lt_of_lt_of_le hi h.size) (fun e => by have := hg i e.symm; omega)).trans (h.block i hi hne)⟩
theorem srcKeptRow {w w' : World} {b m : Nat} {row : Option Nat} (h : SrcAt w b m) (hg : w.grownBy w' row) (hr : ∀ g, row = some g → b < g) : SrcAt w' b m := by
  cases row with
  | none => exact h.next ⟨hg.os, hg.tape, hg.output, hg.size, fun k hk => hg.block k hk (by simp)⟩
  | some g => exact h.grown hg (hr g rfl)
/-- A text is drawn. -/
def DrawT (w : World) (b m : Nat) (e : Ending) (w' : World) : Prop := ∃ l : List UInt8, e = .returned (.string ⟨l.toArray⟩) ∧ vText l = true ∧ SrcAt w' b m ∧ w.grownBy w' (some b)
set_option maxHeartbeats 4000000 in
set_option maxRecDepth 100000 in
theorem said_any (b m : Nat) (w : World) (h : SrcAt w b m) (hm : m ≤ 50000) :
    Calls Tryz.prog 28 #[.pointer (some ⟨b, 0, none⟩)] w (DrawT w b (m + 300)) := by
  have H := Lib.hid h
  have hb := h.lt
  clear h
  go_enter Tryz.func28, Tryz.ntmps28
  repeat ((with_reducible fail_if_success (show wpList _ _ _ (⟨some 5, _, _, _, _, _⟩ :: _) _ _)); first | go_values | go_skip | go_guarded | go_step | go_upon)
  refine wpList_val (by kernel_rfl) (.slice (some ⟨w.heap.size, 0, none⟩) 0 0) (w.alloc (.cells #[] 9)) (by kernel_rfl) ?_
  have hown := own_empty w w.heap.size rfl w.heap.size 9 (Nat.le_refl _) 1
  have hb0 := below_one w (.cells #[] 9)
  have HS := Lib.hid (H.out.next hb0)
  have HG := Lib.hid (grown_below (row := some b) hb0)
  have HO := Lib.hid hown
  clear hown hb0
  repeat (first | go_values | go_skip | go_guarded | go_step | go_upon)
  generalize w.alloc (.cells #[] 9) = W0 at *
  go_at_call 51
  refine (pick_any b m 7 W0 HS.out (by omega) (by omega)).mono ?_
  rintro e w1 ⟨z, rfl, z_0, z_1, hs, hg⟩
  obtain ⟨Z, rfl⟩ := Int.eq_ofNat_of_zero_le z_0
  have HS1 := Lib.hid hs
  have HG1 := Lib.hid (grownBy_trans HG.out hg)
  have HO1 := Lib.hid (HO.out.kept hg (.inr (by intro e; have e2 : w.heap.size = b := Option.some.inj e; omega)))
  clear hs hg HS HG HO
  dsimp only
  repeat ((with_reducible fail_if_success (show Code.wp _ (Code.loop _) _ _ _)); first | go_values | go_skip | go_guarded | go_step | go_upon)
  go_loopw [3, 4] (fun v i wr => ∃ (k : Nat) (ws : List (List UInt8)), k ≤ 6 ∧ i = .int .i64 k ∧ ws.length + k ≤ 6 ∧ Wds ws ∧ SrcAt wr b (m + 2 + 30 * (6 - k)) ∧ w.grownBy wr (some b) ∧ wr.ownsRow w.heap.size 9 1 v ws.length (ws.map sv)) (fun _ i _ => (intOf i).toNat)
  case atStart => exact ⟨Z, [], by omega, rfl, by simp; omega, fun x hx => by simp at hx, HS1.out.le (by omega), HG1.out, HO1.out⟩
  clear HS1 HG1 HO1 z_0 z_1
  case round =>
    obtain ⟨k, ws, hk, rfl, hl, hws, hs, hg, ho⟩ := hrel
    have HS := Lib.hid hs
    have HG := Lib.hid hg
    have HO := Lib.hid ho
    have HW := Lib.hid hws
    have hwz := hg.size
    clear hs hg ho hws
    by_cases hlt : 0 < k
    · have hlti : (0 : Int) < (k : Int) := by omega
      repeat (first | go_values | go_skip | go_guarded | go_step | go_upon)
      go_at_call 54
      refine (spelt_any b _ _ HS.out (by omega)).mono ?_
      rintro e w2 ⟨l, rfl, hll, h1, h5, hs2, hg2⟩
      have HS2 := Lib.hid hs2
      have HG2 := Lib.hid (grownBy_trans HG.out hg2)
      have HO2 := Lib.hid (HO.out.kept hg2 (.inr (fun e => by have := (HO.out.lt b e).1; omega)))
      have HW2 := Lib.hid (show Wds (ws ++ [l]) from fun x hx => by
        rcases List.mem_append.1 hx with h | h
        · exact HW.out x h
        · obtain rfl := List.mem_singleton.1 h
          exact ⟨hll, h1, h5⟩)
      have hz2 : w.heap.size ≤ w2.heap.size := HG2.out.size
      clear hs2 hg2 hll HS HG HO HW
      dsimp only
      repeat ((with_reducible fail_if_success (show wpList _ _ _ (⟨some 15, _, _, _, _, _⟩ :: _) _ _)); first | go_values | go_skip | go_guarded | go_step | go_upon)
      refine wpList_val (by kernel_rfl) (.slice (some ⟨w2.heap.size, 0, none⟩) 1 1) (w2.alloc (.cells #[.string ⟨l.toArray⟩] 9)) (by kernel_rfl) ?_
      repeat ((with_reducible fail_if_success (show wpList _ _ _ (⟨some 16, _, _, _, _, _⟩ :: _) _ _)); first | go_values | go_skip | go_guarded | go_step | go_upon)
      refine wpList_app1 rfl (.tmp 12) (.tmp 15) 39 rfl elStr w2 w.heap.size u3 ws.length (ws.map sv) rfl HO2.out (.string ⟨l.toArray⟩) w2.heap.size rfl rfl rfl (by unfold maxLen; omega) (by omega) hz2 ?_
      intro v' w3 ho3 hg3
      have HS3 := Lib.hid (srcKeptRow HS2.out hg3 (fun g e => by have := (HO2.out.lt g e).1; omega))
      have HG3 := Lib.hid (grown_row HG2.out hg3 (fun g e => (HO2.out.lt g e).1))
      have HO3 := Lib.hid (show w3.ownsRow w.heap.size 9 1 v' (ws ++ [l]).length ((ws ++ [l]).map sv) by rw [List.length_append, List.map_append]; exact ho3)
      clear ho3 hg3 HS2 HG2 HO2
      repeat (first | go_values | go_skip | go_guarded | go_step | go_upon)
      go_roundw
      case rel => exact ⟨k - 1, ws ++ [l], by omega, by congr 1; omega, by simp; omega, HW2.out, HS3.out.le (by omega), HG3.out, HO3.out⟩
      case measure => simp [intOf]; omega
    · obtain rfl : k = 0 := by omega
      obtain ⟨A, c, rfl, hl2, _, hsl⟩ := SlE_own HO.out
      have HSL := Lib.hid hsl
      obtain ⟨hvt, _, _⟩ := joinW_wds ws.length ws rfl (by omega) HW.out
      have HVT := Lib.hid hvt
      clear hsl hl2 hvt
      repeat (first | go_values | go_skip | go_guarded | go_step | go_upon)
      go_at_call 55
      refine (joined_spec A ws.length c ws _ rfl (by omega) (fun x hx => by have := (HW.out x hx).2.2; omega) HSL.out).mono ?_
      rintro e w2 ⟨rfl, hb2⟩
      have HS2 := Lib.hid (HS.out.next hb2)
      have HG2 := Lib.hid (grownBy_trans HG.out (grown_below (row := some b) hb2))
      clear hb2
      dsimp only
      repeat (first | go_values | go_skip | go_guarded | go_step | go_upon)
      go_ret
      exact ⟨joinW ws, rfl, HVT.out, HS2.out.le (by omega), HG2.out⟩
end Go.Proofs.YtdhngjjfoddnkaaGreatDoor
namespace Go.Proofs.YtdhngjjfoddnkaaGreatDoor
open Go Go.RowKit
set_option linter.unusedVariables false
set_option linter.unusedSimpArgs false

set_option maxRecDepth 100000 in
theorem a2text_any (A : Option Addr) (n c : Nat) (xs : List Int) (w : World) (hn : xs.length = n) (hl : n ≤ 4096) (hs : SlE u8 w A xs) (hy : Byt xs) :
    Calls Tryz.prog 6 #[.slice A n c] w fun e w' => ∃ l : List UInt8, e = .returned (.string ⟨l.toArray⟩) ∧ vText l = true ∧ Below w.heap.size w w' := by
  have HA := Lib.hid hs
  have HY := Lib.hid hy
  have HN := Lib.hid hn
  clear hs hy hn
  go_enter Tryz.func6, Tryz.ntmps6
  repeat (first | go_values | go_skip | go_guarded | go_step | go_upon)
  go_at_call 27
  refine (from_any A n c xs _ HN.out (by omega) HA.out HY.out).mono ?_
  rintro e w1 ⟨b, rfl, hb0, hs1, hb1⟩
  have HS := Lib.hid hs1
  have HB1 := Lib.hid hb1
  have hbl := hs1.lt
  clear hs1 hb1
  dsimp only
  repeat (first | go_values | go_skip | go_guarded | go_step | go_upon)
  go_at_call 28
  refine (said_any b 0 _ HS.out (by omega)).mono ?_
  rintro e w2 ⟨l, rfl, hv, hs2, hg⟩
  have HB3 := Lib.hid (below_drawn HB1.out hg hb0)
  clear hs2 hg
  dsimp only
  repeat (first | go_values | go_skip | go_guarded | go_step | go_upon)
  go_ret
  exact ⟨l, rfl, hv, HB3.out⟩
end Go.Proofs.YtdhngjjfoddnkaaGreatDoor
