/- Contracts: a face, a word, a rubbing and hands that are drawn from bytes. -/
import Derived.Test.YtahggbaandcddaaGreatDoorSrcG
import Derived.Test.YtahggbaandcddaaGreatDoorSrcH
import Derived.BigRegion

namespace Go.Proofs.YtahggbaandcddaaGreatDoor
open Go Go.RowKit
set_option linter.unusedVariables false
set_option linter.unusedSimpArgs false

theorem below_drawn {w w1 w2 : World} {b : Nat} (h1 : Below w.heap.size w w1) (hg : w1.grownBy w2 (some b)) (hb : w.heap.size ≤ b) : Below w.heap.size w w2 :=
  h1.trans ⟨hg.os, hg.tape, hg.output, hg.size, fun k hk => hg.block k (by have := h1.size; omega) (by intro e; injection e with e; omega)⟩
/-- A face in memory. -/
def HasF (w : World) (f : Fc) (S : Value) : Prop := FcT f ∧ ∃ A n c, S = .slice A n c ∧ f.pairs.length = n ∧ n ≤ 12 ∧ SlP w A f.pairs
theorem HasF.next {w w' : World} {f : Fc} {S : Value} (h : HasF w f S) (hb : Below w.heap.size w w') : HasF w' f S := by
  obtain ⟨h1, A, n, c, e, h2, h3, h4⟩ := h
  exact ⟨h1, A, n, c, e, h2, h3, h4.next hb⟩
theorem FcD.has {w : World} {b : Nat} {f : Fc} {S : Value} (h : FcD w b f S) (hv : validF f = true) : HasF w f S := by
  obtain ⟨h1, A, n, c, e, h2, h3, h4, h5⟩ := h
  exact ⟨h1, A, n, c, e, h2, by have := (validF_iff.1 hv).few; omega, h4⟩

set_option maxRecDepth 100000 in
theorem a2face_any (A : Option Addr) (n c : Nat) (xs : List Int) (w : World) (hn : xs.length = n) (hl : n ≤ 4096) (hs : SlE u8 w A xs) (hy : Byt xs) :
    Calls Tryz.prog 5 #[.slice A n c] w fun e w' => ∃ f S, e = .returned (.agg (fcV f S).toArray) ∧ validF f = true ∧ HasF w' f S ∧ Below w.heap.size w w' := by
  have HA := Lib.hid hs
  have HY := Lib.hid hy
  have HN := Lib.hid hn
  clear hs hy hn
  go_enter Tryz.func5, Tryz.ntmps5
  have hb0 := below_one w (.cells (fcV fc0 (.slice none 0 0)).toArray 28)
  have HB0 := Lib.hid hb0
  have HK0 := Lib.hid (Blk.new w 28 (fcV fc0 (.slice none 0 0)))
  clear hb0
  repeat (first | go_values | go_skip | go_guarded | go_step | go_upon)
  refine gen_calls (fun W => Blk W w.heap.size 28 (fcV fc0 (.slice none 0 0)) ∧ Below w.heap.size w W) ⟨HK0.out, HB0.out⟩ ?_
  rintro W0 ⟨hk0, hB0⟩
  have HK := Lib.hid hk0
  have HB := Lib.hid hB0
  clear hk0 hB0 HK0 HB0
  repeat (first | go_values | go_skip | go_guarded | go_step | go_upon)
  go_at_call 29
  refine (from_any A n c xs _ HN.out (by omega) (HA.out.next HB.out) HY.out).mono ?_
  rintro e w1 ⟨b, rfl, hb0, hs1, hb1⟩
  have HS := Lib.hid hs1
  have HB1 := Lib.hid hb1
  have hbl := hs1.lt
  clear hs1 hb1
  dsimp only
  have HK1 := Lib.hid (HK.out.next HB1.out)
  have HB2 := Lib.hid (below_step HB.out HB1.out)
  have hlt := HK.out.lt
  repeat (first | go_values | go_skip | go_guarded | go_step | go_upon)
  go_at_call 28
  refine (drawnF_any b 0 _ HS.out (by omega)).mono ?_
  rintro e w2 ⟨f, S, rfl, hv, hmem, hs2, hg⟩
  have HK2 := Lib.hid (HK1.out.grown hg (by simp; omega))
  have HB3 := Lib.hid (below_drawn HB2.out hg (by omega))
  have HM := Lib.hid hmem
  have hone : (fcV f S).toArray.all (·.oneCell') = true := by
    obtain ⟨_, A2, n2, c2, e2, _⟩ := hmem
    rw [e2]; exact one_fc _ _ _ _
  have hlen := fcV_length hmem.typ S
  have hw1 : w.heap.size < w1.heap.size := by have := HB1.out.size; omega
  clear hmem hs2 hg
  dsimp only
  repeat ((with_reducible fail_if_success (show wpList _ _ _ (⟨none, .store 28 (.tmp 2) (.tmp 5), _, _, _, _⟩ :: _) _ _)); first | go_values | go_skip | go_guarded | go_step | go_upon)
  refine wpList_store_row rfl 28 (.tmp 2) (.tmp 5) rfl w.heap.size (fcV f S).toArray rfl rfl 28 _ HK2.out (by rw [List.size_toArray, hlen]; exact szFcI) (by rw [List.size_toArray, List.size_toArray, hlen, fcV_length fc0_T]) hone ?_
  repeat (first | go_values | go_skip | go_guarded | go_step | go_upon)
  have hgr : w2.grownBy (w2.setRow w.heap.size (fcV f S).toArray) (some w.heap.size) := setRow_grown' _ _ _
  exact bodyPost_ret (v := .agg (fcV f S).toArray) (results_cell_row rfl _ _ _ 28 (fcV f S).toArray _ _ rfl (HK2.out.setRow_same (fcV f S)) Tryz.underlying28 rfl (by rw [List.size_toArray, hlen]; exact szFcI)) rfl ⟨f, S, rfl, hv, (HM.out.grown hgr (by omega)).has hv, below_setRow HB3.out _ _ (Nat.le_refl _)⟩

end Go.Proofs.YtahggbaandcddaaGreatDoor
