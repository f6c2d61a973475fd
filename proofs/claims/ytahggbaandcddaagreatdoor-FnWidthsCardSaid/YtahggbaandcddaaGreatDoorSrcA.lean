/- Contracts: choices that are drawn from bytes. -/
import Derived.Test.YtahggbaandcddaaGreatDoorProg
import Derived.Test.YtahggbaandcddaaGreatDoorOpenB
import Derived.Test.YtahggbaandcddaaGreatDoorGB
import Derived.BigRegion


namespace Go.Proofs.YtahggbaandcddaaGreatDoor
open Go Go.RowKit
set_option linter.unusedVariables false
set_option linter.unusedSimpArgs false

/-- A slice's block is there. -/
theorem SlE.bound {α : Type} {enc : α → Value} {w : World} {A : Option Addr} {xs : List α} (h : SlE enc w A xs) (hn : 0 < xs.length) (a : Addr) (e : A = Option.some a) : a.block < w.heap.size := by
  obtain ⟨a', e', hc⟩ := h 0 _ (List.getElem?_eq_getElem hn)
  rw [e] at e'
  cases e'
  have hab : (a.add 0).block = a.block := by unfold Addr.add; split <;> rfl
  have := World.block_lt_of_cell? w _ hc
  rw [hab] at this; exact this
/-- Block b is a source of choices, of which at most m bytes have been drawn. -/
def SrcAt (w : World) (b m : Nat) : Prop :=
  ∃ (A : Option Addr) (c : Nat) (xs : List Int) (k : Nat) (seed : Int), Blk w b 83 [.slice A xs.length c, .int .i64 (k : Int), .int .u64 seed] ∧ k ≤ m ∧ SlE u8 w A xs ∧ Byt xs ∧ (0 < xs.length → ∀ a, A = some a → a.block < b) ∧ xs.length ≤ 4096
theorem SrcAt.lt {w : World} {b m : Nat} (h : SrcAt w b m) : b < w.heap.size := by
  obtain ⟨A, c, xs, k, seed, hb, _⟩ := h
  exact hb.lt
theorem SrcAt.le {w : World} {b m m' : Nat} (h : SrcAt w b m) (hm : m ≤ m') : SrcAt w b m' := by
  obtain ⟨A, c, xs, k, seed, hb, hk, r⟩ := h
  exact ⟨A, c, xs, k, seed, hb, by omega, r⟩
theorem slE_blocks {α : Type} {enc : α → Value} {w w' : World} {A : Option Addr} {xs : List α} {B : Nat} (h : SlE enc w A xs) (hA : 0 < xs.length → ∀ a, A = some a → a.block < B) (hb : ∀ k, k < B → w'.heap[k]? = w.heap[k]?) : SlE enc w' A xs := by
  intro i x hx
  obtain ⟨a, e, hc⟩ := h i x hx
  refine ⟨a, e, ?_⟩
  have hab : (a.add i).block = a.block := by unfold Addr.add; split <;> rfl
  have := hb a.block (hA (by have := (List.getElem?_eq_some_iff.1 hx).1; omega) a e)
  rw [← hc]
  simp only [World.cell?, hab, this]
theorem SrcAt.grown {w w' : World} {b m r : Nat} (h : SrcAt w b m) (hg : w.grownBy w' (some r)) (hr : b < r) : SrcAt w' b m := by
  have hlt := h.lt
  obtain ⟨A, c, xs, k, seed, hb, hk, hs, hy, hA, hl⟩ := h
  refine ⟨A, c, xs, k, seed, hb.grown hg (by simp; omega), hk, slE_blocks hs hA (fun j hj => hg.block j (by omega) (by simp; omega)), hy, hA, hl⟩
theorem SrcAt.next {w w' : World} {b m : Nat} (h : SrcAt w b m) (hb : Below w.heap.size w w') : SrcAt w' b m := by
  obtain ⟨A, c, xs, k, seed, h1, hk, hs, r⟩ := h
  exact ⟨A, c, xs, k, seed, h1.next hb, hk, hs.next hb, r⟩
/-- A number within bounds is drawn. -/
def DrawI (w : World) (b m : Nat) (lo hi : Int) (e : Ending) (w' : World) : Prop := ∃ x : Int, e = .returned (.int .i64 x) ∧ lo ≤ x ∧ x ≤ hi ∧ SrcAt w' b m ∧ w.grownBy w' (some b)
theorem grown_below {w w' : World} {row : Option Nat} (h : Below w.heap.size w w') : w.grownBy w' row := ⟨h.os, h.tape, h.output, h.size, fun i hi _ => h.block i hi⟩
theorem grown_one {w : World} {b o : Nat} {v : Value} : w.grownBy (w.setCell ⟨b, o, none⟩ v) (some b) := grown_set (grown_refl _ _) o v
theorem bits_255 (x : Int) : 0 ≤ bits BinOp.and IntKind.u64 x 255 ∧ bits BinOp.and IntKind.u64 x 255 ≤ 255 := by
  have h1 : (BitVec.ofInt 64 x &&& BitVec.ofInt 64 255).toNat ≤ 255 := by
    rw [BitVec.toNat_and, show (BitVec.ofInt 64 (255 : Int)).toNat = 255 from rfl]
    exact Nat.and_le_right
  have h2 : (((BitVec.ofInt 64 x &&& BitVec.ofInt 64 255).toNat : Nat) : Int) ≤ 255 := by omega
  have e := IntWalk.u64_in (((BitVec.ofInt 64 x &&& BitVec.ofInt 64 255).toNat : Nat) : Int) ⟨Int.natCast_nonneg _, by omega⟩
  have e2 : bits BinOp.and IntKind.u64 x 255 = (((BitVec.ofInt 64 x &&& BitVec.ofInt 64 255).toNat : Nat) : Int) := e
  rw [e2]; omega
theorem SrcAt.step {w w1 : World} {b k : Nat} {A : Option Addr} {c : Nat} {xs : List Int} {seed S : Int} (hb : Blk w b 83 [.slice A xs.length c, .int .i64 (k : Int), .int .u64 seed]) (hs : SlE u8 w A xs) (hy : Byt xs) (hA : 0 < xs.length → ∀ a, A = some a → a.block < b) (hl : xs.length ≤ 4096)
    (q : Nat) (h1 : w1 = ((w.setCell ⟨b, 1, none⟩ (.int .i64 ((k : Int) + 1))).setCell ⟨b, 2, none⟩ (.int .u64 S)).drewN q) :
    Blk w1 b 83 [.slice A xs.length c, .int .i64 ((k : Int) + 1), .int .u64 S] ∧ w.grownBy w1 (some b) ∧ SlE u8 w1 A xs := by
  have hB : Blk w1 b 83 [.slice A xs.length c, .int .i64 ((k : Int) + 1), .int .u64 S] := by rw [h1]; exact ((hb.set 1 _).set 2 _).drewN q
  have hg : w.grownBy w1 (some b) := by
    rw [h1]
    exact grownBy_trans (grown_set grown_one 2 _) (grown_below (below_drewN (Below.refl _ _) q))
  exact ⟨hB, hg, slE_blocks hs hA (fun j hj => hg.block j (by have := hb.lt; omega) (by simp; omega))⟩

set_option maxHeartbeats 1000000 in
set_option maxRecDepth 100000 in
theorem next_any (b m : Nat) (w : World) (h : SrcAt w b m) (hm : m ≤ 1000000) :
    Calls Tryz.prog 79 #[.pointer (some ⟨b, 0, none⟩)] w (DrawI w b (m + 1) 0 255) := by
  obtain ⟨A, c, xs, k, seed, hb, hk, hs, hy, hA, hl⟩ := h
  have c0 := hb.cell 0 _ rfl
  have c1 := hb.cell 1 _ rfl
  have c2 := hb.cell 2 _ rfl
  have f1 := hb.free 1
  have f2 := hb.free 2
  have hadd : IntKind.i64.wrap ((k : Int) + 1) = ((k + 1 : Nat) : Int) := by rw [IntWalk.i64_in _ (by omega)]; push_cast; rfl
  by_cases hlt : k < xs.length
  · obtain ⟨a, rfl, ra⟩ := hs.some k hlt
    have ca : w.cell? (a.add k) = some (.int .u8 (rdI xs k)) := ra.at 0 k hlt
    have hyk := hy k hlt
    go_enter Tryz.func79, Tryz.ntmps79
    go_wp2
    go_region
    go_wp2
    go_region
    go_wp2
    generalize IntKind.u64.wrap (IntKind.u64.wrap (IntKind.u64.wrap (seed * 6364136223846793005) + rdI xs k) + 1442695040888963407) = S at *
    obtain ⟨w1, hw1⟩ : ∃ w1, w1 = (((w.setCell ⟨b, 1, none⟩ (.int .i64 ((k : Int) + 1))).setCell ⟨b, 2, none⟩ (.int .u64 S)).drew).drew := ⟨_, rfl⟩
    obtain ⟨hB, hg, hs1⟩ := SrcAt.step hb hs hy hA hl 2 hw1
    rw [← hw1]
    clear hw1 c0 c1 c2 f1 f2 hb ca ra hs
    have c0 := hB.cell 0 _ rfl
    have c1 := hB.cell 1 _ rfl
    have c2 := hB.cell 2 _ rfl
    have hle : (k : Int) + 1 ≤ (xs.length : Int) := by omega
    go_region
    go_wp2
    go_ret
    have hd : Below w1.heap.size w1 w1.drew := below_drewN (Below.refl _ _) 1
    exact ⟨rdI xs k, rfl, hyk.1, hyk.2, SrcAt.next (w := w1) ⟨_, c, xs, k + 1, S, by rw [show (((k + 1 : Nat)) : Int) = (k : Int) + 1 by push_cast; rfl]; exact hB, by omega, hs1, hy, hA, hl⟩ hd, grownBy_trans hg (grown_below hd)⟩
  · have hlt2 : ¬ ((k : Int) < (xs.length : Int)) := by omega
    go_enter Tryz.func79, Tryz.ntmps79
    go_wp2
    go_region
    go_wp2
    generalize IntKind.u64.wrap (IntKind.u64.wrap (IntKind.u64.wrap (seed * 6364136223846793005)) + 1442695040888963407) = S at *
    obtain ⟨w1, hw1⟩ : ∃ w1, w1 = (((w.setCell ⟨b, 1, none⟩ (.int .i64 ((k : Int) + 1))).setCell ⟨b, 2, none⟩ (.int .u64 S)).drew) := ⟨_, rfl⟩
    obtain ⟨hB, hg, hs1⟩ := SrcAt.step hb hs hy hA hl 1 hw1
    rw [← hw1]
    clear hw1 c0 c1 c2 f1 f2 hb hs
    have c0 := hB.cell 0 _ rfl
    have c1 := hB.cell 1 _ rfl
    have c2 := hB.cell 2 _ rfl
    have hle : ¬ ((k : Int) + 1 ≤ (xs.length : Int)) := by omega
    have hbb := bits_255 (S / 1099511627776)
    go_region
    go_wp2
    go_ret
    have hd : Below w1.heap.size w1 w1.drew := below_drewN (Below.refl _ _) 1
    exact ⟨_, rfl, hbb.1, hbb.2, SrcAt.next (w := w1) ⟨_, c, xs, k + 1, S, by rw [show (((k + 1 : Nat)) : Int) = (k : Int) + 1 by push_cast; rfl]; exact hB, by omega, hs1, hy, hA, hl⟩ hd, grownBy_trans hg (grown_below hd)⟩

set_option maxHeartbeats 1000000 in
set_option maxRecDepth 100000 in
theorem pick_any (b m : Nat) (n : Int) (w : World) (h : SrcAt w b m) (hm : m ≤ 999990) (hn : 2 ≤ n ∧ n ≤ 65536) :
    Calls Tryz.prog 58 #[.pointer (some ⟨b, 0, none⟩), .int .i64 n] w (DrawI w b (m + 2) 0 (n - 1)) := by
  have H := Lib.hid h
  have h1 : ¬ n ≤ 1 := by omega
  clear h
  by_cases h2 : n > 200
  · go_enter Tryz.func58, Tryz.ntmps58
    go_wp2_with fail
    go_at_call 79
    refine (next_any b m w H.out (by omega)).mono ?_
    rintro e w1 ⟨x, rfl, x0, x1, hs1, hg1⟩
    have hx : IntKind.i64.wrap (x * 256) = x * 256 := IntWalk.i64_in _ (by omega)
    go_wp2_with fail
    go_at_call 79
    refine (next_any b (m + 1) w1 hs1 (by omega)).mono ?_
    rintro e w2 ⟨y, rfl, y0, y1, hs2, hg2⟩
    have hy : IntKind.i64.wrap (x * 256 + y) = x * 256 + y := IntWalk.i64_in _ (by omega)
    have hz := Int.emod_nonneg (x * 256 + y) (show n ≠ 0 by omega)
    have hz2 := Int.emod_lt_of_pos (x * 256 + y) (show 0 < n by omega)
    go_wp2
    go_ret
    exact ⟨_, rfl, hz, by omega, hs2.le (by omega), grownBy_trans hg1 hg2⟩
  · go_enter Tryz.func58, Tryz.ntmps58
    go_wp2_with fail
    go_at_call 79
    refine (next_any b m w H.out (by omega)).mono ?_
    rintro e w1 ⟨x, rfl, x0, x1, hs1, hg1⟩
    have hz := Int.emod_nonneg x (show n ≠ 0 by omega)
    have hz2 := Int.emod_lt_of_pos x (show 0 < n by omega)
    go_wp2
    go_ret
    exact ⟨_, rfl, hz, by omega, hs1.le (by omega), grownBy_trans hg1 (grown_refl _ _)⟩
set_option maxRecDepth 100000 in
theorem pick_one (b m : Nat) (n : Int) (w : World) (h : SrcAt w b m) (hn : n ≤ 1) :
    Calls Tryz.prog 58 #[.pointer (some ⟨b, 0, none⟩), .int .i64 n] w (DrawI w b (m + 2) 0 0) := by
  have H := Lib.hid h
  clear h
  go_enter Tryz.func58, Tryz.ntmps58
  go_wp2
  go_ret
  exact ⟨0, rfl, by omega, by omega, H.out.le (by omega), grown_refl _ _⟩
set_option maxRecDepth 100000 in
theorem one_any (b m : Nat) (n : Int) (w : World) (h : SrcAt w b m) (hm : m ≤ 999990) (hn : 2 ≤ n ∧ n ≤ 65536) :
    Calls Tryz.prog 59 #[.pointer (some ⟨b, 0, none⟩), .int .i64 n] w fun e w' => (∃ x, e = .returned (.bool x)) ∧ SrcAt w' b (m + 2) ∧ w.grownBy w' (some b) := by
  have H := Lib.hid h
  clear h
  go_enter Tryz.func59, Tryz.ntmps59
  go_wp2_with fail
  go_at_call 58
  refine (pick_any b m n w H.out hm hn).mono ?_
  rintro e w1 ⟨x, rfl, x0, x1, hs1, hg1⟩
  go_wp2
  go_ret
  exact ⟨⟨_, rfl⟩, hs1, hg1⟩
set_option maxRecDepth 100000 in
theorem from_any (A : Option Addr) (n c : Nat) (xs : List Int) (w : World) (hn : xs.length = n) (hl : n ≤ 4096) (hs : SlE u8 w A xs) (hy : Byt xs) :
    Calls Tryz.prog 29 #[.slice A n c] w fun e w' => ∃ b, e = .returned (.pointer (some ⟨b, 0, none⟩)) ∧ w.heap.size ≤ b ∧ SrcAt w' b 0 ∧ Below w.heap.size w w' := by
  subst hn
  have hk := Blk.new w 83 [.slice A xs.length c, .int .i64 0, .int .u64 0]
  have hb := below_one w (.cells #[.slice A xs.length c, .int .i64 0, .int .u64 0] 83)
  have HK := Lib.hid hk
  have HB := Lib.hid hb
  have HS := Lib.hid hs
  have HY := Lib.hid hy
  have HA := Lib.hid (fun hn => hs.bound hn)
  clear hk hb hs hy
  go_enter Tryz.func29, Tryz.ntmps29
  go_wp2
  go_ret
  exact ⟨w.heap.size, rfl, Nat.le_refl _, ⟨A, c, xs, 0, 0, HK.out, Nat.le_refl _, HS.out.next HB.out, HY.out, HA.out, hl⟩, HB.out⟩
/-- Some bytes are too many, or they are few. -/
def LongOut (n m : Nat) (e : Ending) : Prop := e = .returned (.bool true) ∨ (e = .returned (.bool false) ∧ n ≤ 3000 ∧ m ≤ 3000)
set_option maxRecDepth 100000 in
theorem long_any (f : FuncId) (A B : Option Addr) (n m c d : Nat) (w : World) (hf : f = 4) (hn : n ≤ maxLen) (hm : m ≤ maxLen) :
    Calls Tryz.prog f #[.slice A n c, .slice B m d] w fun e w' => LongOut n m e ∧ w = w' := by
  subst hf
  by_cases h1 : 3000 < n
  · have h1i : (3000 : Int) < (n : Int) := by omega
    go_enter Tryz.func4, Tryz.ntmps4
    go_wp2
    go_ret
    exact ⟨.inl rfl, rfl⟩
  · have h1i : ¬ (3000 : Int) < (n : Int) := by omega
    by_cases h2 : 3000 < m
    · have h2i : (3000 : Int) < (m : Int) := by omega
      go_enter Tryz.func4, Tryz.ntmps4
      go_wp2
      go_ret
      exact ⟨.inl rfl, rfl⟩
    · have h2i : ¬ (3000 : Int) < (m : Int) := by omega
      go_enter Tryz.func4, Tryz.ntmps4
      go_wp2
      go_ret
      exact ⟨.inr ⟨rfl, by omega, by omega⟩, rfl⟩
set_option maxRecDepth 100000 in
theorem at_any (A : Option Addr) (n c : Nat) (xs : List Int) (i k : Int) (w : World) (hn : xs.length = n) (hl : n ≤ maxLen) (hs : SlE u8 w A xs) (hy : Byt xs) (hi : 0 ≤ i ∧ i ≤ 9223372036854775807) (hk : 1 ≤ k ∧ k ≤ 1000000) :
    Calls Tryz.prog 14 #[.slice A n c, .int .i64 i, .int .i64 k] w fun e w' => (∃ x, e = .returned (.int .i64 x) ∧ 0 ≤ x ∧ x < k) ∧ w = w' := by
  subst hn
  have hk1 : ¬ k < 1 := by omega
  by_cases hlt : i < (xs.length : Int)
  · obtain ⟨j, rfl⟩ := Int.eq_ofNat_of_zero_le hi.1
    have hj : j < xs.length := by omega
    obtain ⟨a, rfl, ra⟩ := hs.some j hj
    have ca : w.cell? (a.add j) = some (.int .u8 (rdI xs j)) := ra.at 0 j hj
    have hyj := hy j hj
    have hz := Int.emod_nonneg (rdI xs j) (show k ≠ 0 by omega)
    have hz2 := Int.emod_lt_of_pos (rdI xs j) (show 0 < k by omega)
    have hlt2 : ¬ ((xs.length : Int) ≤ (j : Int)) := by omega
    clear ra hy hs
    go_enter Tryz.func14, Tryz.ntmps14
    go_wp2
    go_ret
    exact ⟨⟨_, rfl, hz, hz2⟩, rfl⟩
  · have hlt2 : (xs.length : Int) ≤ i := by omega
    clear hy hs
    go_enter Tryz.func14, Tryz.ntmps14
    go_wp2
    go_ret
    exact ⟨⟨0, rfl, by omega, by omega⟩, rfl⟩
end Go.Proofs.YtahggbaandcddaaGreatDoor
