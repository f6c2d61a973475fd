/- Contracts: hands that are drawn from bytes. -/
import Derived.Test.YtkbmfemncadlnaaGreatDoorSrcI
import Derived.Test.YtkbmfemncadlnaaGreatDoorGN
import Derived.Test.YtkbmfemncadlnaaGreatDoorGA
import Derived.BigRegion


namespace Go.Proofs.YtkbmfemncadlnaaGreatDoor
open Go Go.RowKit
set_option linter.unusedVariables false
set_option linter.unusedSimpArgs false

theorem elI64s : El Tryz.prog 47 2 (.int .i64 0) 1 8 := ⟨Tryz.underlying47, by kernel_rfl, by kernel_rfl, by decide⟩
theorem elI64ss : El Tryz.prog 38 47 (.slice none 0 0) 1 24 := ⟨Tryz.underlying38, by kernel_rfl, by kernel_rfl, by decide⟩
/-- A slice of hands of the call's own; the hands' blocks lie in base .. N - 1. -/
def OwnHs (w : World) (base N : Nat) (v : Value) (hs : List (List Int)) : Prop :=
  ∃ us : List Value, w.ownsRow base 47 1 v hs.length us ∧ (∀ g, v.ownBlock = some g → g < N) ∧ ∀ (i : Nat) (x : List Int), hs[i]? = some x → ∃ B c, us[i]? = some (Value.slice B x.length c) ∧ SlE i64 w B x ∧ ∀ a, B = some a → base ≤ a.block ∧ a.block < N ∧ some a.block ≠ v.ownBlock
theorem slE_kept {α : Type} {enc : α → Value} {w w' : World} {A : Option Addr} {xs : List α} {row : Option Nat} (h : SlE enc w A xs) (hg : w.grownBy w' row) (hne : ∀ a, A = some a → some a.block ≠ row) : SlE enc w' A xs := by
  intro i x hx
  obtain ⟨a, e, hc⟩ := h i x hx
  refine ⟨a, e, ?_⟩
  have hab : (a.add i).block = a.block := by unfold Addr.add; split <;> rfl
  have hlt := World.block_lt_of_cell? w _ hc
  rw [← hc]
  unfold World.cell?
  rw [hg.block _ hlt (by rw [hab]; exact hne a e)]
theorem OwnHs.kept {w w' : World} {base N : Nat} {v : Value} {hs : List (List Int)} {row : Option Nat} (h : OwnHs w base N v hs) (hg : w.grownBy w' row) (hr : ∀ g, row = some g → g < base ∨ N ≤ g) : OwnHs w' base N v hs := by
  obtain ⟨us, ho, hv, hi⟩ := h
  refine ⟨us, ho.kept hg ?_, hv, fun i x hx => ?_⟩
  · cases hvb : v.ownBlock with
    | none => exact .inl rfl
    | some g =>
      refine .inr fun e => ?_
      have h1 := hv g hvb
      have h2 := (ho.lt g hvb).1
      have := hr g e.symm
      omega
  · obtain ⟨B, c, e, hs, hb⟩ := hi i x hx
    exact ⟨B, c, e, slE_kept hs hg (fun a ea er => by have := hb a ea; have := hr _ er.symm; omega), hb⟩
theorem OwnHs.up {w : World} {base N M : Nat} {v : Value} {hs : List (List Int)} (h : OwnHs w base N v hs) (hm : N ≤ M) : OwnHs w base M v hs := by
  obtain ⟨us, ho, hv, hi⟩ := h
  refine ⟨us, ho, fun g e => by have := hv g e; omega, fun i x hx => ?_⟩
  obtain ⟨B, c, e, hs, hb⟩ := hi i x hx
  exact ⟨B, c, e, hs, fun a ea => by have := hb a ea; exact ⟨this.1, by omega, this.2.2⟩⟩
theorem OwnHs.sl2 {w : World} {base N : Nat} {v : Value} {hs : List (List Int)} (h : OwnHs w base N v hs) : ∃ A c, v = .slice A hs.length c ∧ Sl2 w A hs := by
  obtain ⟨us, ho, hv, hi⟩ := h
  have ho' : w.ownsRow base 47 1 v hs.length (us.map id) := by rw [List.map_id]; exact ho
  obtain ⟨A, c, rfl, hl, _, hs1⟩ := SlE_own (enc := id) ho'
  refine ⟨A, c, by rw [hl], fun i x hx => ?_⟩
  obtain ⟨B, d, e, hs, _⟩ := hi i x hx
  obtain ⟨a, ea, hc⟩ := hs1 i _ e
  exact ⟨a, B, d, ea, hc, hs⟩
theorem own_lt {w : World} {base : Nat} {e : TypeId} {z : Nat} {v : Value} {n : Nat} {xs : List Value} (h : w.ownsRow base e z v n xs) : ∀ g, v.ownBlock = some g → g < w.heap.size := fun g e => (h.lt g e).2
theorem own_slE {w : World} {base : Nat} {v : Value} {xs : List Int} (h : w.ownsRow base 2 1 v xs.length (xs.map i64)) : ∃ B c, v = .slice B xs.length c ∧ SlE i64 w B xs ∧ ∀ a, B = some a → base ≤ a.block ∧ a.block < w.heap.size := by
  obtain ⟨A, c, e, hl, _, hs⟩ := SlE_own h
  refine ⟨A, c, e, hs, fun a ea => ?_⟩
  subst ea
  have hob : v.ownBlock = some a.block := by rw [e]; rfl
  exact h.lt _ hob
theorem OwnHs.app {w w' : World} {base N : Nat} {v v' u : Value} {hs : List (List Int)} {xs : List Int} (h : ∃ us : List Value, w.ownsRow base 47 1 v hs.length us ∧ (∀ g, v.ownBlock = some g → g < N) ∧ (∀ (i : Nat) (x : List Int), hs[i]? = some x → ∃ B c, us[i]? = some (Value.slice B x.length c) ∧ SlE i64 w B x ∧ ∀ a, B = some a → base ≤ a.block ∧ a.block < N ∧ some a.block ≠ v.ownBlock) ∧ w'.ownsRow base 47 1 v' (hs.length + 1) (us ++ [u]))
    (hx : ∃ B c, u = .slice B xs.length c ∧ SlE i64 w B xs ∧ ∀ a, B = some a → N ≤ a.block ∧ a.block < w.heap.size) (hbN : base ≤ N) (hN : N ≤ w.heap.size)
    (hg : w.grownBy w' v.ownBlock) (hv' : v'.ownBlock = v.ownBlock ∨ ∃ g, w.heap.size ≤ g ∧ v'.ownBlock = some g) : OwnHs w' base w'.heap.size v' (hs ++ [xs]) := by
  obtain ⟨us, ho, hvn, hi, ho'⟩ := h
  obtain ⟨B0, c0, rfl, hs0, hb0⟩ := hx
  have hsz := hg.size
  have hul : us.length = hs.length := by have := ho.1; omega
  have hne : ∀ a : Addr, a.block < w.heap.size → some a.block ≠ v.ownBlock → some a.block ≠ v'.ownBlock := fun a h1 h2 => by
    rcases hv' with e | ⟨g, hgg, e⟩
    · rw [e]; exact h2
    · rw [e]; intro e2; injection e2 with e2; omega
  refine ⟨us ++ [.slice B0 xs.length c0], by rw [List.length_append]; exact ho', own_lt ho', fun i x hx => ?_⟩
  by_cases hlt : i < hs.length
  · rw [List.getElem?_append_left hlt] at hx
    obtain ⟨B, c, e, h1, h2⟩ := hi i x hx
    refine ⟨B, c, by rw [List.getElem?_append_left (by omega)]; exact e, slE_kept h1 hg (fun a ea => (h2 a ea).2.2), fun a ea => ?_⟩
    have := h2 a ea
    exact ⟨this.1, by omega, hne a (by omega) this.2.2⟩
  · rw [List.getElem?_append_right (by omega)] at hx
    have hi0 : i - hs.length = 0 := by have := (List.getElem?_eq_some_iff.1 hx).1; simp at this; omega
    rw [hi0] at hx
    obtain rfl : xs = x := by simpa using hx
    have hnv : ∀ a, B0 = some a → some a.block ≠ v.ownBlock := fun a ea e => by have := (hb0 a ea).1; have := hvn _ e.symm; omega
    refine ⟨B0, c0, by rw [List.getElem?_append_right (by omega), show i - us.length = 0 by omega]; rfl, slE_kept hs0 hg hnv, fun a ea => ?_⟩
    have := hb0 a ea
    exact ⟨by omega, by omega, hne a (by omega) (hnv a ea)⟩
theorem SrcAt.keptRow {w w' : World} {b m : Nat} {row : Option Nat} (h : SrcAt w b m) (hg : w.grownBy w' row) (hr : ∀ g, row = some g → b < g) : SrcAt w' b m := by
  cases row with
  | none => exact h.next ⟨hg.os, hg.tape, hg.output, hg.size, fun k hk => hg.block k hk (by simp)⟩
  | some g => exact h.grown hg (hr g rfl)
/-- Hands that are drawn. -/
structure HsOk (hs : List (List Int)) : Prop where
  few : hs.length ≤ 6
  each : ∀ x ∈ hs, x.length ≤ 4 ∧ ∀ k, k < x.length → 0 ≤ rdI x k ∧ rdI x k ≤ 5
theorem rdI_snoc {xs : List Int} {y : Int} {p : Int → Prop} (h : ∀ k, k < xs.length → p (rdI xs k)) (hy : p y) : ∀ k, k < (xs ++ [y]).length → p (rdI (xs ++ [y]) k) := by
  intro k hk
  rw [List.length_append, List.length_singleton] at hk
  unfold rdI at h ⊢
  by_cases hlt : k < xs.length
  · have := h k hlt
    rw [List.getD_eq_getElem?_getD, List.getElem?_append_left hlt, ← List.getD_eq_getElem?_getD]; exact this
  · rw [List.getD_eq_getElem?_getD, List.getElem?_append_right (by omega), show k - xs.length = 0 by omega]; exact hy
set_option maxHeartbeats 4000000 in
set_option maxRecDepth 100000 in
theorem a2hands_any (A : Option Addr) (n c : Nat) (xs : List Int) (w : World) (hn : xs.length = n) (hl : n ≤ 4096) (hs : SlE u8 w A xs) (hy : Byt xs) :
    Calls Tryz.prog 18 #[.slice A n c] w fun e w' => ∃ (hs : List (List Int)) (B : Option Addr) (d : Nat), e = .returned (.slice B hs.length d) ∧ HsOk hs ∧ Sl2 w' B hs ∧ Below w.heap.size w w' := by
  have HA := Lib.hid hs
  have HY := Lib.hid hy
  have HN := Lib.hid hn
  clear hs hy hn
  go_enter Tryz.func18, Tryz.ntmps18
  repeat (first | go_values | go_skip | go_guarded | go_step | go_upon)
  go_at_call 33
  refine (from_any A n c xs _ HN.out (by omega) HA.out HY.out).mono ?_
  rintro e w1 ⟨b, rfl, hb0, hs1, hb1⟩
  have HS := Lib.hid hs1
  have HB1 := Lib.hid hb1
  have hbl := hs1.lt
  clear hs1 hb1
  dsimp only
  repeat ((with_reducible fail_if_success (show wpList _ _ _ (⟨some 10, _, _, _, _, _⟩ :: _) _ _)); first | go_values | go_skip | go_guarded | go_step | go_upon)
  refine wpList_val (by kernel_rfl) (.slice (some ⟨w1.heap.size, 0, none⟩) 0 0) (w1.alloc (.cells #[] 47)) (by kernel_rfl) ?_
  have hown := own_empty w1 w1.heap.size rfl (b + 1) 47 (by omega) 1
  have hb2 := below_one w1 (.cells #[] 47)
  have HS2 := Lib.hid (HS.out.next hb2)
  have HB2 := Lib.hid (below_step HB1.out hb2)
  have HO := Lib.hid (show OwnHs (w1.alloc (.cells #[] 47)) (b + 1) (w1.heap.size + 1) (.slice (some ⟨w1.heap.size, 0, none⟩) 0 0) [] from ⟨[], hown, fun g e => by have e2 : w1.heap.size = g := Option.some.inj e; omega, fun i x hx => by simp at hx⟩)
  have hz2 : (w1.alloc (.cells #[] 47)).heap.size = w1.heap.size + 1 := by simp
  have HOU := Lib.hid (show OwnHs (w1.alloc (.cells #[] 47)) (b + 1) (w1.alloc (.cells #[] 47)).heap.size (.slice (some ⟨w1.heap.size, 0, none⟩) 0 0) [] from by rw [hz2]; exact HO.out)
  clear hown hb2 HS HO
  repeat (first | go_values | go_skip | go_guarded | go_step | go_upon)
  generalize w1.alloc (.cells #[] 47) = W2 at *
  go_at_call 46
  refine (pick_any b 0 6 W2 HS2.out (by omega) (by omega)).mono ?_
  rintro e w3 ⟨z, rfl, z_0, z_1, hs3, hg3⟩
  obtain ⟨Z, rfl⟩ := Int.eq_ofNat_of_zero_le z_0
  have HS3 := Lib.hid hs3
  have HB3 := Lib.hid (below_drawn HB2.out hg3 hb0)
  have HO3 := Lib.hid ((HOU.out.kept hg3 (fun g e => by injection e with e; omega)).up hg3.size)
  clear hs3 hg3 HS2 HB2 HOU hz2
  dsimp only
  repeat ((with_reducible fail_if_success (show Code.wp _ (Code.loop _) _ _ _)); first | go_values | go_skip | go_guarded | go_step | go_upon)
  go_loopw [4, 5] (fun v i wr => ∃ (k : Nat) (hs : List (List Int)), k ≤ 5 ∧ i = .int .i64 k ∧ hs.length + k ≤ 5 ∧ HsOk hs ∧ SrcAt wr b (2 + 20 * (5 - k)) ∧ Below w.heap.size w wr ∧ OwnHs wr (b + 1) wr.heap.size v hs) (fun _ i _ => (intOf i).toNat)
  case atStart => exact ⟨Z, [], by omega, rfl, by simp; omega, ⟨by simp, fun x hx => by simp at hx⟩, HS3.out.le (by omega), HB3.out, HO3.out⟩
  clear HS3 HB3 HO3 z_0 z_1
  case round =>
    obtain ⟨k, hs, hk, rfl, hlen, hok, hsrc, hbel, hown⟩ := hrel
    have HS := Lib.hid hsrc
    have HB := Lib.hid hbel
    have HO := Lib.hid hown
    have HK := Lib.hid hok
    clear hsrc hbel hown hok
    have hbw : b + 1 ≤ wr.heap.size := by have := HS.out.lt; omega
    by_cases hlt : 0 < k
    · have hlti : (0 : Int) < (k : Int) := by omega
      repeat ((with_reducible fail_if_success (show wpList _ _ _ (⟨some 17, _, _, _, _, _⟩ :: _) _ _)); first | go_values | go_skip | go_guarded | go_step | go_upon)
      refine wpList_val (by kernel_rfl) (.slice (some ⟨wr.heap.size, 0, none⟩) 0 0) (wr.alloc (.cells #[] 2)) (by kernel_rfl) ?_
      have hown := own_empty wr wr.heap.size rfl wr.heap.size 2 (Nat.le_refl _) 1
      have hb4 := below_one wr (.cells #[] 2)
      have HS4 := Lib.hid (HS.out.next hb4)
      have HB4 := Lib.hid (below_step HB.out hb4)
      have HO4 := Lib.hid (HO.out.kept (grown_below (row := none) hb4) (fun g e => by cases e))
      have HI4 := Lib.hid (show (wr.alloc (.cells #[] 2)).ownsRow wr.heap.size 2 1 (.slice (some ⟨wr.heap.size, 0, none⟩) 0 0) (List.length ([] : List Int)) (([] : List Int).map i64) from hown)
      have hz4 : wr.heap.size ≤ (wr.alloc (.cells #[] 2)).heap.size := hb4.size
      clear hown hb4
      repeat (first | go_values | go_skip | go_guarded | go_step | go_upon)
      generalize wr.alloc (.cells #[] 2) = W4 at *
      generalize hN : wr.heap.size = N4 at *
      go_at_call 46
      refine (pick_any b _ 5 W4 HS4.out (by omega) (by omega)).mono ?_
      rintro e w5 ⟨y, rfl, y_0, y_1, hs5, hg5⟩
      obtain ⟨Y, rfl⟩ := Int.eq_ofNat_of_zero_le y_0
      have HS5 := Lib.hid hs5
      have HB5 := Lib.hid (below_drawn HB4.out hg5 hb0)
      have HO5 := Lib.hid (HO4.out.kept hg5 (fun g e => by injection e with e; omega))
      have HI5 := Lib.hid (HI4.out.kept hg5 (.inr (by intro e; have e2 : N4 = b := Option.some.inj e; omega)))
      have hz5 : N4 ≤ w5.heap.size := by have := hg5.size; omega
      clear hs5 hg5 HS4 HB4 HO4 HI4
      dsimp only
      repeat ((with_reducible fail_if_success (show Code.wp _ (Code.loop _) _ _ _)); first | go_values | go_skip | go_guarded | go_step | go_upon)
      go_loopw [6, 7] (fun u i wx => ∃ (j : Nat) (xs : List Int), j ≤ 4 ∧ i = .int .i64 j ∧ xs.length + j ≤ 4 ∧ (∀ q, q < xs.length → 0 ≤ rdI xs q ∧ rdI xs q ≤ 5) ∧ SrcAt wx b (4 + 20 * (5 - k) + 2 * (4 - j)) ∧ Below w.heap.size w wx ∧ OwnHs wx (b + 1) N4 u4 hs ∧ N4 ≤ wx.heap.size ∧ wx.ownsRow N4 2 1 u xs.length (xs.map i64)) (fun _ i _ => (intOf i).toNat)
      case atStart => exact ⟨Y, [], by omega, rfl, by simp; omega, fun q hq => by simp at hq, HS5.out.le (by omega), HB5.out, HO5.out, hz5, HI5.out⟩
      clear HS5 HB5 HO5 HI5 hz5 hz4 y_0 y_1 HS HB HO
      case round =>
        obtain ⟨j, xs, hj, rfl, hxl, hxr, hsx, hbx, hox, hzx, hix⟩ := hrel
        have HS := Lib.hid hsx
        have HB := Lib.hid hbx
        have HO := Lib.hid hox
        have HI := Lib.hid hix
        have HX := Lib.hid hxr
        clear hsx hbx hox hix hxr
        by_cases hltj : 0 < j
        · have hltji : (0 : Int) < (j : Int) := by omega
          repeat (first | go_values | go_skip | go_guarded | go_step | go_upon)
          go_at_call 46
          refine (pick_any b _ 6 _ HS.out (by omega) (by omega)).mono ?_
          rintro e w6 ⟨y, rfl, y_0, y_1, hs6, hg6⟩
          have HS6 := Lib.hid hs6
          have HB6 := Lib.hid (below_drawn HB.out hg6 hb0)
          have HO6 := Lib.hid (HO.out.kept hg6 (fun g e => by injection e with e; omega))
          have HI6 := Lib.hid (HI.out.kept hg6 (.inr (fun e => by have := (HI.out.lt b e).1; omega)))
          have hz6 : N4 ≤ w6.heap.size := by have := hg6.size; omega
          have HX6 := Lib.hid (rdI_snoc (p := fun q => 0 ≤ q ∧ q ≤ 5) HX.out ⟨y_0, by omega⟩)
          clear hs6 hg6 HS HB HO HI HX
          dsimp only
          repeat ((with_reducible fail_if_success (show wpList _ _ _ (⟨some 27, _, _, _, _, _⟩ :: _) _ _)); first | go_values | go_skip | go_guarded | go_step | go_upon)
          refine wpList_val (by kernel_rfl) (.slice (some ⟨w6.heap.size, 0, none⟩) 1 1) (w6.alloc (.cells #[.int .i64 y] 2)) (by kernel_rfl) ?_
          repeat ((with_reducible fail_if_success (show wpList _ _ _ (⟨some 28, _, _, _, _, _⟩ :: _) _ _)); first | go_values | go_skip | go_guarded | go_step | go_upon)
          refine wpList_app1 rfl (.tmp 24) (.tmp 27) 47 rfl elI64s w6 N4 u6 xs.length (xs.map i64) rfl HI6.out (.int .i64 y) w6.heap.size rfl rfl rfl (by unfold maxLen; omega) (by omega) hz6 ?_
          intro u' w7 ho7 hg7
          have HS7 := Lib.hid (HS6.out.keptRow hg7 (fun g e => by have := (HI6.out.lt g e).1; omega))
          have HB7 := Lib.hid (below_own HB6.out HI6.out hg7 (by omega) (by omega))
          have HO7 := Lib.hid (HO6.out.kept hg7 (fun g e => .inr (HI6.out.lt g e).1))
          have hz7 : N4 ≤ w7.heap.size := by have := hg7.size; omega
          have HI7 := Lib.hid (show w7.ownsRow N4 2 1 u' (xs ++ [y]).length ((xs ++ [y]).map i64) by rw [List.length_append, List.map_append]; exact ho7)
          clear ho7 hg7 HS6 HB6 HO6 HI6 hz6
          repeat (first | go_values | go_skip | go_guarded | go_step | go_upon)
          go_roundw
          case rel => exact ⟨j - 1, xs ++ [y], by omega, by congr 1; omega, by simp; omega, HX6.out, HS7.out.le (by omega), HB7.out, HO7.out, hz7, HI7.out⟩
          case measure => simp [intOf]; omega
        · obtain rfl : j = 0 := by omega
          obtain ⟨B, d, rfl, hsb, hbb⟩ := own_slE HI.out
          have HSB := Lib.hid hsb
          have HBB := Lib.hid hbb
          clear hsb hbb HI
          repeat ((with_reducible fail_if_success (show wpList _ _ _ (⟨some 31, _, _, _, _, _⟩ :: _) _ _)); first | go_values | go_skip | go_guarded | go_step | go_upon)
          refine wpList_val (by kernel_rfl) (.slice (some ⟨wr.heap.size, 0, none⟩) 1 1) (wr.alloc (.cells #[.slice B xs.length d] 47)) (by kernel_rfl) ?_
          repeat ((with_reducible fail_if_success (show wpList _ _ _ (⟨some 32, _, _, _, _, _⟩ :: _) _ _)); first | go_values | go_skip | go_guarded | go_step | go_upon)
          have HO' := Lib.hid HO.out
          obtain ⟨us, hou, hvn, hiu⟩ := HO.out
          refine wpList_app1B rfl (.tmp 29) (.tmp 31) 38 rfl elI64ss wr (b + 1) u4 hs.length us rfl hou (.slice B xs.length d) wr.heap.size rfl rfl rfl (by unfold maxLen; omega) (by omega) (by omega) ?_
          intro v' w7 ho7 hg7 hor
          have HO7 := Lib.hid (OwnHs.app (w := wr) (xs := xs) ⟨us, hou, hvn, hiu, ho7⟩ ⟨B, d, rfl, HSB.out, HBB.out⟩ (by omega) hzx hg7 hor)
          have HS7 := Lib.hid (HS.out.keptRow hg7 (fun g e => by have := (hou.lt g e).1; omega))
          have HB7 := Lib.hid (below_own HB.out hou hg7 (by omega) (by omega))
          have HK7 := Lib.hid (show HsOk (hs ++ [xs]) from ⟨by simp; omega, fun x hx => by
            rcases List.mem_append.1 hx with h | h
            · exact HK.out.each x h
            · obtain rfl := List.mem_singleton.1 h
              exact ⟨by omega, HX.out⟩⟩)
          clear ho7 hg7 hor hou hvn hiu HO HO' HS HB HSB HBB
          repeat (first | go_values | go_skip | go_guarded | go_step | go_upon)
          go_roundw
          case rel => exact ⟨k - 1, hs ++ [xs], by omega, by congr 1; omega, by simp; omega, HK7.out, HS7.out.le (by omega), HB7.out, HO7.out⟩
          case measure => simp [intOf]; omega
    · obtain rfl : k = 0 := by omega
      obtain ⟨B, d, rfl, hsl⟩ := HO.out.sl2
      have HSL := Lib.hid hsl
      clear hsl
      repeat (first | go_values | go_skip | go_guarded | go_step | go_upon)
      go_ret
      exact ⟨hs, B, d, rfl, HK.out, HSL.out, HB.out⟩
end Go.Proofs.YtkbmfemncadlnaaGreatDoor
