/- A sheet that came in is opened, and copied by the law. -/
import Derived.Test.YtonnplaacebekaaDoorShU
import Derived.Test.YtonnplaacebekaaDoorGE
namespace Go.Proofs.YtonnplaacebekaaDoor
open Go Go.RowKit Go.ChangeShapes Go.WideShapes Go.ChangeAt Go.Deep
set_option linter.unusedVariables false
set_option linter.unusedSimpArgs false

theorem trod_i16 {H : Type} {enc : TypeId × Value → H} {P : Program} {w : World} {base : Nat} {spare : Nat → Bool} {held : Bool} {t : TypeId} {fuel : Nat} {cs : List Value} {x : DataW H × List MemPlace} (ht : P.underlying t = some (.int .i16)) (h : DataW.trod enc P w base spare held fuel t cs = some x) : ∃ n : Int, cs = [.int .i16 n] ∧ -32768 ≤ n ∧ n ≤ 32767 := by
  obtain ⟨n, hc, _, hw⟩ := DataW.trod_int ht h
  simp [Lit.wf, IntKind.min, IntKind.max, IntKind.bits, IntKind.signed] at hw
  exact ⟨n, hc, by omega, by omega⟩
set_option maxRecDepth 100000 in
theorem open_sheet {H : Type} {enc : TypeId × Value → H} {w : World} {base : Nat} {spare : Nat → Bool} {held : Bool} {r : Reach} {b0 : Nat} {v : Value} {d : DataW H} {p : List MemPlace}
    (hv : Value.okWide Tryd.prog w r b0 29 v) (h : DataW.Trod enc Tryd.prog w base spare held 29 v d p) :
    ∃ s : Sh, v = .agg (shV s).toArray ∧ ShT s := by
  obtain ⟨cs, rfl, hsz⟩ := okWide_struct Tryd.underlying29 hv
  obtain ⟨l⟩ := cs
  obtain ⟨fuel, hf⟩ := h
  obtain ⟨xs, m, _, _, hcl, hlen, hg⟩ := DataW.trod_struct Tryd.underlying29 hf
  have hl : l.length = 2 := hcl
  have c16 : Tryd.prog.cellsOf 27 = 1 := by kernel_rfl
  have c8 : Tryd.prog.cellsOf 22 = 1 := by kernel_rfl
  obtain ⟨x, y, rfl⟩ : ∃ x y, l = [x, y] := by
    match l, hl with
    | [x, y], _ => exact ⟨x, y, rfl⟩
  have g0 := hg 0 _ rfl
  have g1 := hg 1 _ rfl
  have hx : xs.length = 2 := hlen
  match xs, hx with
  | [y0, y1], _ =>
  have g0 : DataW.trod enc Tryd.prog w base spare held m 27 [x] = some y0 := by simpa [c16, Value.cells] using g0
  have g1 : DataW.trod enc Tryd.prog w base spare held m 22 [y] = some y1 := by simpa [c8, Value.cells] using g1
  obtain ⟨a, ha1, ha2, ha3⟩ := trod_i16 Tryd.underlying27 g0
  obtain ⟨b, hb1, hb2, hb3⟩ := trod_i8 Tryd.underlying22 g1
  obtain rfl := (List.cons.inj ha1).1
  obtain rfl := (List.cons.inj hb1).1
  exact ⟨⟨a, b⟩, rfl, ⟨⟨ha2, ha3⟩, ⟨hb2, hb3⟩⟩⟩

def zSh : List Value := [.int .i16 0, .int .i8 0]
theorem one_sh (s : Sh) : (shV s).toArray.all (·.oneCell') = true := by simp [shV, Value.oneCell']
set_option maxRecDepth 100000 in
theorem toSheet_any (s : Sh) (w : World) :
    Calls Tryd.prog 13 #[.agg (shV s).toArray] w fun e w' => e = .returned (.agg (shV s).toArray) ∧ Below w.heap.size w w' := by
  have c0 := (((Blk.new w 29 (shV s)).alloc (.cells #[.int .i16 0, .int .i8 0] 38)).alloc (.cells #[.int .i16 0, .int .i8 0] 38)).cell 0 (.int .i16 s.wide) rfl
  have c1 := (((Blk.new w 29 (shV s)).alloc (.cells #[.int .i16 0, .int .i8 0] 38)).alloc (.cells #[.int .i16 s.wide, .int .i8 0] 38)).cell 1 (.int .i8 s.over) rfl
  have k4 : Blk (((w.alloc (.cells (shV s).toArray 29)).alloc (.cells #[.int .i16 s.wide, .int .i8 s.over] 38)).alloc (.cells #[.int .i16 s.wide, .int .i8 s.over] 38)) (w.heap.size + 1) 38 (shV s) := (Blk.at_new _ _ _ (by simp) _ _ rfl).alloc _
  have hB := below_three w (.cells (shV s).toArray 29) (.cells #[.int .i16 s.wide, .int .i8 s.over] 38) (.cells #[.int .i16 s.wide, .int .i8 s.over] 38)
  go_enter Tryd.func13, Tryd.ntmps13
  go_wp2_with fail
  exact bodyPost_ret (v := .agg (shV s).toArray) (results_cell_row rfl _ _ _ 38 (shV s).toArray _ _ rfl k4 Tryd.underlying38 rfl szSh) rfl ⟨rfl, hB⟩
theorem szShL : (Tryd.prog.info? 29).map (·.size) = some 2 := by kernel_rfl
theorem shsR_len (fr : Nat → Nat) (hfr : ∀ m, fr m ≤ m) (f : Fc) (s : Sh) (l : List UInt8) : (shsR fr f s l).1.length ≤ 1048576 := by
  unfold shsR
  by_cases h : (cutR f s l 60).2 = 0
  · rw [if_pos h]
    obtain ⟨_, hp, hl⟩ := cutR_zero h
    have := (shs_range hfr hp _ (Nat.le_refl _)).1
    simp only; omega
  · rw [if_neg h]; exact Nat.zero_le _
theorem nextR_len (f : Fc) (s : Sh) (l : List UInt8) : (nextR f s l).1.length ≤ 1048576 := by rw [nextR_shs]; exact shsR_len _ (fun m => by omega) f s l
theorem firstR_len (f : Fc) (s : Sh) (l : List UInt8) : (firstR f s l).1.length ≤ 1048576 := by rw [firstR_shs]; exact shsR_len _ (fun m => by omega) f s l
end Go.Proofs.YtonnplaacebekaaDoor
