/- Contract: whether a letter is kept, by the program's closure. -/
import Derived.Test.YtonnplaacebekaaGreatDoorKpM
import Derived.Test.YtonnplaacebekaaGreatDoorShY
import Derived.Test.YtonnplaacebekaaGreatDoorGF
import Derived.BigRegion


namespace Go.Proofs.YtonnplaacebekaaGreatDoor
open Go Go.RowKit Go.Shelf
set_option linter.unusedVariables false
set_option linter.unusedSimpArgs false

/-- What the closure of 'kept' has captured: a map, a row, a number, a text. -/
structure KpW (W : World) (bS bD bM bV bo m : Nat) (g : Int → Int) (A : Option Addr) (c : Nat) (q : List Int) (d : Int) (s : ByteArray) : Prop where
  map : MapAt W bM m g
  var : W.cell? ⟨bV, 0, none⟩ = some (.map (some bM))
  own : W.cell? ⟨bo, 0, none⟩ = some (.slice A q.length c)
  row : SlE i64 W A q
  sh : W.cell? ⟨bD, 0, none⟩ = some (.int .i64 d)
  str : W.cell? ⟨bS, 0, none⟩ = some (.string s)
  mx : MaxW W
  lt : bS < W.heap.size ∧ bD < W.heap.size ∧ bV < W.heap.size ∧ bo < W.heap.size
theorem KpW.next {W W' : World} {bS bD bM bV bo m : Nat} {g : Int → Int} {A : Option Addr} {c : Nat} {q : List Int} {d : Int} {s : ByteArray} (h : KpW W bS bD bM bV bo m g A c q d s) (hb : Below W.heap.size W W') : KpW W' bS bD bM bV bo m g A c q d s := by
  obtain ⟨h1, h2, h3, h4⟩ := h.lt
  have h5 := hb.size
  exact ⟨h.map.next hb, by rw [hb.cell h3]; exact h.var, by rw [hb.cell h4]; exact h.own, h.row.next hb, by rw [hb.cell h2]; exact h.sh, by rw [hb.cell h1]; exact h.str, h.mx.next hb, by omega⟩

attribute [local irreducible] wpQuiet in
set_option maxHeartbeats 1000000 in
set_option maxRecDepth 100000 in
theorem kept1_any (W : World) (bS bD bM bV bo m : Nat) (g : Int → Int) (A : Option Addr) (c : Nat) (q : List Int) (d : Int) (s : ByteArray) (i : Nat) (h : KpW W bS bD bM bV bo m g A c q d s) (hi : i < q.length) (hq : 0 ≤ rdI q i ∧ rdI q i < 3600) (hd : -400 ≤ d ∧ d ≤ 400) (hl : (lets (bs s)).length = q.length) (hs : s.size ≤ 1048576) :
    Calls Tryz.prog 74 #[.int .i64 i, .pointer (some ⟨bV, 0, none⟩), .pointer (some ⟨bo, 0, none⟩), .pointer (some ⟨bD, 0, none⟩), .pointer (some ⟨bS, 0, none⟩)] W fun e w' => e = .returned (.bool (g (rdI q i + d) == byt (lets (bs s)) i)) ∧ Below W.heap.size W w' := by
  obtain ⟨a, rfl, hrow⟩ := h.row.some i hi
  have H := Lib.hid h
  have HR := Lib.hid (SlE.of_row hrow)
  have hadd : IntKind.i64.wrap (rdI q i + d) = rdI q i + d := IntWalk.i64_in _ (by omega)
  have hls : (⟨(lets (bs s)).toArray⟩ : ByteArray).size = q.length := hl
  have HLS := Lib.hid hls
  clear h hrow hls hl
  go_enter Tryz.func74, Tryz.ntmps74
  go_wp2
  refine region_below (W.heap.size) (by kernel_rfl) (by kernel_rfl) ?_
  refine below_run (by kernel_rfl) (.map (some bM)) (fun w' hw' => exec_load1 113 (.tmp 1) rfl ⟨bV, 0, none⟩ (by kernel_rfl) (.map (some bM)) ((H.out.next hw').var) _ Tryz.underlying113 rfl) ?_
  refine below_run (by kernel_rfl) (.slice (some a) q.length c) (fun w' hw' => exec_load1 42 (.tmp 2) rfl ⟨bo, 0, none⟩ (by kernel_rfl) (.slice (some a) q.length c) ((H.out.next hw').own) _ Tryz.underlying42 rfl) ?_
  refine below_run (by kernel_rfl) (.int .i64 i) (fun w' hw' => by kernel_rfl) ?_
  refine below_run (by kernel_rfl) (.pointer (some (Addr.add a (i * 1)))) (fun w' hw' => exec_index 42 (.tmp 8) (.tmp 9) rfl a q.length c (by kernel_rfl) .i64 i (by kernel_rfl) hi 2 Tryz.underlying42 1 szI64) ?_
  refine below_run (by kernel_rfl) (.int .i64 (rdI q i)) (fun w' hw' => exec_load1 2 (.tmp 10) rfl (a.add (i * 1)) (by kernel_rfl) (.int .i64 (rdI q i)) (by rw [Nat.mul_one]; exact (HR.out.next hw').some i hi |> fun ⟨a', e, r⟩ => by cases e; exact r.atI64 i hi) _ Tryz.underlying2 rfl) ?_
  refine below_run (by kernel_rfl) (.int .i64 d) (fun w' hw' => exec_load1 2 (.tmp 3) rfl ⟨bD, 0, none⟩ (by kernel_rfl) (.int .i64 d) ((H.out.next hw').sh) _ Tryz.underlying2 rfl) ?_
  refine below_run (by kernel_rfl) (.int .i64 (rdI q i + d)) (fun w' hw' => Eq.trans (show (execOp _ _).run _ w' = .ok (.value (.int .i64 (IntKind.i64.wrap (rdI q i + d)))) w' by kernel_rfl) (by rw [hadd])) ?_
  refine below_run (by kernel_rfl) (.int .u8 (g (rdI q i + d))) (fun w' hw' => exec_lookup 113 (.tmp 7) (.tmp 13) rfl _ _ _ (by kernel_rfl) (by kernel_rfl) w' ((H.out.next hw').map.look (rdI q i + d) (by omega))) ?_
  refine below_run (by kernel_rfl) (.string s) (fun w' hw' => exec_load1 9 (.tmp 4) rfl ⟨bS, 0, none⟩ (by kernel_rfl) (.string s) ((H.out.next hw').str) _ Tryz.underlying9 rfl) ?_
  refine below_call (by kernel_rfl) 50 #[.string s] (.string ⟨(lets (bs s)).toArray⟩) (fun w' => by kernel_rfl) (fun w' hw' => (letters_impl s w' hs (H.out.next hw').mx).mono fun e w1 ⟨he, hb1⟩ => ⟨he, below_step hw' hb1⟩) ?_
  refine below_run (by kernel_rfl) (.int .i64 i) (fun w' hw' => by kernel_rfl) ?_
  refine below_run (by kernel_rfl) (.int .u8 (byS ⟨(lets (bs s)).toArray⟩ i)) (fun w' hw' => exec_byte (.tmp 16) (.tmp 17) rfl ⟨(lets (bs s)).toArray⟩ (by kernel_rfl) i (by kernel_rfl) (by rw [HLS.out]; exact hi)) ?_
  refine below_run (by kernel_rfl) (.bool (g (rdI q i + d) == byt (lets (bs s)) i)) (fun w' hw' => by kernel_rfl) ?_
  refine below_run (by kernel_rfl) (.bool (g (rdI q i + d) == byt (lets (bs s)) i)) (fun w' hw' => by kernel_rfl) ?_
  refine wpQuiet_nil ?_
  intro W3 hW3
  simp only [Act.put, List.setIfInBounds_toArray, List.set_cons_succ, List.set_cons_zero]
  clear hadd
  go_wp2
  go_ret
  exact ⟨rfl, hW3⟩
end Go.Proofs.YtonnplaacebekaaGreatDoor
