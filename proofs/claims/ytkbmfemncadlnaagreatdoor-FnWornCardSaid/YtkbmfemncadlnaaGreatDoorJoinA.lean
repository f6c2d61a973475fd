/- Contracts: slices of rubbings: their size, a copy of them, two of them compared; in how many a dot is dark. -/
import Derived.Test.YtkbmfemncadlnaaGreatDoorGL
import Derived.Test.YtkbmfemncadlnaaGreatDoorGA
import Derived.OwnWalk
import Derived.Deep.MidRow
import Derived.Lib.LazyBuf
import Derived.DataElems


namespace Go.Proofs.YtkbmfemncadlnaaGreatDoor
open Go Go.RowKit
set_option linter.unusedVariables false
set_option linter.unusedSimpArgs false

def rdR (rs : List (List Nat)) (i : Nat) : List Nat := rs.getD i []
/-- The slice at A has the rubbings rs as its elements, eight cells each. -/
def Sl8 (w : World) (A : Option Addr) (rs : List (List Nat)) : Prop := ∀ i r, rs[i]? = some r → ∃ a, A = some a ∧ RowE u16 w (a.add (i * 8)) r
theorem Sl8.nil {w : World} {A : Option Addr} : Sl8 w A [] := fun i r h => by simp at h
theorem Sl8.next {w w' : World} {A : Option Addr} {rs : List (List Nat)} (h : Sl8 w A rs) (hb : Below w.heap.size w w') : Sl8 w' A rs := by
  intro i r hr
  obtain ⟨a, e, h1⟩ := h i r hr
  exact ⟨a, e, h1.next hb⟩
theorem Sl8.some {w : World} {A : Option Addr} {rs : List (List Nat)} (h : Sl8 w A rs) (i : Nat) (hi : i < rs.length) : ∃ a, A = some a ∧ RowE u16 w (a.add (i * 8)) (rdR rs i) :=
  h i (rdR rs i) (by simp [rdR, List.getD, List.getElem?_eq_getElem hi])
/-- All are rubbings. -/
structure Rubs (rs : List (List Nat)) (n : Nat) : Prop where
  len : rs.length = n
  rub : ∀ i, i < n → (rdR rs i).length = 8 ∧ ∀ k, rdN (rdR rs i) k < 65536

/-- A rubbing in a row is read whole. -/
theorem run_load8 {P : Program} (w : World) (ty : TypeId) (a : Addr) (r : List Nat) (d : TypeDesc) (h : RowE u16 w a r) (hu : P.underlying ty = some d) (hd : d.isRow = true) (hi : (P.info? ty).map (·.size) = some r.length) :
    (loadVar ty a).run P w = .ok (.agg (R16 r)) w := by
  have hl : (loadCells a r.length).run P w = .ok (R16 r) w := by
    have := run_loadCells_list (P := P) w a (r.map u16) (fun j v hv => by
      rw [List.getElem?_map] at hv
      obtain ⟨x, hx, rfl⟩ := Option.map_eq_some_iff.1 hv
      exact h j x hx)
    simpa [R16] using this
  cases hq : P.info? ty with
  | none => simp [hq] at hi
  | some i =>
    have hs : i.size = r.length := by simpa [hq] using hi
    have hagg : (isAgg ty).run P w = .ok true w := by
      unfold isAgg
      rw [Sem.run_bind, run_underlying hu w]
      cases d <;> simp_all
    simp [loadVar, Sem.run_bind, hagg, sizeOf, typeInfo, hq, hs, hl]
theorem wpList_load8 {P : Program} {ops : Array Oper} {rest : List Oper} {o : Oper} {a : Act} {w : World} {Q : Exit → Act → World → Prop} (hgd : o.guard = none) (ty : TypeId) (x : Operand) (ho : o.op = .load ty x)
    (p : Addr) (hx : a.eval x = .pointer (some p)) (r : List Nat) (d : TypeDesc) (hr : RowE u16 w p r) (hu : P.underlying ty = some d) (hd : d.isRow = true) (hi : (P.info? ty).map (·.size) = some r.length)
    (h : wpList P ops Q rest (a.put o.dst (.agg (R16 r))) w) : wpList P ops Q (o :: rest) a w :=
  wpList_plain hgd fun K hK => by
    unfold Oper.wp execOp
    simp only [ho, hx, Instr.loadAt, Instr.sureAddr, Sem.run_bind, Sem.run_pure, Result.andThen_ok, run_load8 w ty p r d hr hu hd hi]
    exact hK _ _ h
theorem exec_load8 {P : Program} {o : Oper} {a : Act} {w : World} (ty : TypeId) (x : Operand) (ho : o.op = .load ty x) (p : Addr) (hx : a.eval x = .pointer (some p)) (r : List Nat) (d : TypeDesc) (hr : RowE u16 w p r)
    (hu : P.underlying ty = some d) (hd : d.isRow = true) (hi : (P.info? ty).map (·.size) = some r.length) : (execOp a.eval o).run P w = .ok (.value (.agg (R16 r))) w := by
  unfold execOp
  simp only [ho, hx, Instr.loadAt, Instr.sureAddr, Sem.run_bind, Sem.run_pure, Result.andThen_ok, run_load8 w ty p r d hr hu hd hi]

/-! ### In how many rubbings a dot is dark -/
def inN (rs : List (List Nat)) (y x k : Nat) : Nat := cnt (fun i => dk (rdR rs i) x y) k
def sureP (rs : List (List Nat)) (n : Nat) (need : Int) (y x : Nat) : Bool := decide (need ≤ (inN rs y x n : Int))
def sureR (rs : List (List Nat)) (n : Nat) (need : Int) : List Nat := gridR (sureP rs n need)
theorem sureR_length (rs : List (List Nat)) (n : Nat) (need : Int) : (sureR rs n need).length = 8 := gridR_length _

set_option maxHeartbeats 2000000 in
set_option maxRecDepth 100000 in
theorem l07Sure_any (A : Option Addr) (c : Nat) (rs : List (List Nat)) (n : Nat) (need : Int) (w : World) (hr : Rubs rs n) (hn : n ≤ 1048576) (h0 : Sl8 w A rs) :
    Calls Tryz.prog 43 #[.slice A n c, .int .i64 need] w fun e w' => e = .returned (.agg (R16 (sureR rs n need))) ∧ Below w.heap.size w w' := by
  have HM := Lib.hid (show gridR (sureP rs n need) = sureR rs n need from rfl)
  have HR := Lib.hid hr
  have H := Lib.hid h0
  clear hr h0
  go_enter Tryz.func43, Tryz.ntmps43
  go_wp2
  go_loopw [6] (fun i wr => ∃ y : Nat, y ≤ 8 ∧ i = .int .i64 y ∧ GridRel (sureP rs n need) w wr y 0) (fun i _ => 8 - (intOf i).toNat)
  case atStart =>
    refine ⟨0, by omega, rfl, (Blk.at_new _ _ _ rfl _ _ rfl).alloc _, ?_, below_two _ _ _⟩
    rw [partR_start]
    exact Blk.at_new _ _ _ (by simp) _ _ rfl
  case round =>
    obtain ⟨y, hy, rfl, h⟩ := hrel
    by_cases hlt : y < 8
    · obtain ⟨wo, rfl⟩ : ∃ wo : World, wo = wr := ⟨_, rfl⟩
      have hd8 : decide ((y : Int) < 8) = true := by simp; omega
      go_wp2
      go_loopw [7] (fun i wr => ∃ k : Nat, k ≤ 16 ∧ i = .int .i64 k ∧ GridRel (sureP rs n need) w wr y k) (fun i _ => 16 - (intOf i).toNat)
      case atStart => exact ⟨0, by omega, rfl, h⟩
      case round =>
        obtain ⟨k, hk, rfl, h⟩ := hrel
        by_cases hlk : k < 16
        · obtain ⟨wp, rfl⟩ : ∃ wp : World, wp = wr := ⟨_, rfl⟩
          have hd16 : decide ((k : Int) < 16) = true := by simp; omega
          go_wp2
          go_loopw [8, 9] (fun m i wr => ∃ j : Nat, j ≤ n ∧ i = .int .i64 j ∧ m = .int .i64 (inN rs y k j) ∧ GridRel (sureP rs n need) w wr y k) (fun _ i _ => n - (intOf i).toNat)
          case atStart => exact ⟨0, by omega, rfl, rfl, h⟩
          case round =>
            obtain ⟨j, hj, rfl, rfl, h⟩ := hrel
            have hcl : inN rs y k j ≤ j := cnt_le _ _
            by_cases hlj : j < n
            · obtain ⟨a, rfl, hrow⟩ := (H.out.next h.below).some j (by rw [HR.out.len]; omega)
              have hlen := (HR.out.rub j hlj).1
              cases hq : dk (rdR rs j) k y
              · have HC := Lib.hid (show inN rs y k (j + 1) = inN rs y k j from cnt_no (p := fun i => dk (rdR rs i) k y) hq)
                go_wp2_with (go_at_call 68; refine (dark_any _ (rdR rs j) _ _ _ hlen hrow).mono ?_; rintro e w' ⟨rfl, rfl⟩)
                go_roundw
                case rel => exact ⟨j + 1, by omega, by go_num, by rw [HC.out], h⟩
                case measure => simp [intOf]; omega
              · have HC := Lib.hid (show inN rs y k (j + 1) = inN rs y k j + 1 from cnt_yes (p := fun i => dk (rdR rs i) k y) hq)
                go_wp2_with (go_at_call 68; refine (dark_any _ (rdR rs j) _ _ _ hlen hrow).mono ?_; rintro e w' ⟨rfl, rfl⟩)
                go_roundw
                case rel => exact ⟨j + 1, by omega, by go_num, by rw [HC.out]; go_num, h⟩
                case measure => simp [intOf]; omega
            · obtain rfl : j = n := by omega
              by_cases hge : need ≤ (inN rs y k j : Int)
              · have HP := Lib.hid (show sureP rs j need y k = true from decide_eq_true hge)
                have hc3 := h.out.cell y _ (map_u16_at _ y (by rw [partR_length]; omega))
                have hf3 := h.out.free y
                have hor := or16p (rdN (partR (sureP rs j need) y k) y) k (partR_lt _ y k hk y) hlk
                have hwp := wrap16p k hlk
                go_wp2
                go_roundw
                case rel =>
                  refine ⟨k + 1, by omega, by go_num, h.res.other _ _ (by simp), ?_, h.below.setCell (by simp) _⟩
                  rw [← partR_yes hlt HP.out, List.map_set]
                  exact h.out.set y _
                case measure => simp [intOf]; omega
              · have HP := Lib.hid (show sureP rs j need y k = false from decide_eq_false hge)
                go_wp2
                go_roundw
                case rel => exact ⟨k + 1, by omega, by go_num, h.res, by rw [partR_no HP.out]; exact h.out, h.below⟩
                case measure => simp [intOf]; omega
        · obtain rfl : k = 16 := by omega
          go_wp2
          go_roundw
          case rel => exact ⟨y + 1, by omega, by go_num, h.res, by rw [← partR_row]; exact h.out, h.below⟩
          case measure => simp [intOf]; omega
    · obtain rfl : y = 8 := by omega
      have hout := h.out
      rw [partR_all, HM.out] at hout
      have hl : (sureR rs n need).length = 8 := gridR_length _
      go_wp2_with (first
        | (refine wpList_load_row rfl 26 _ rfl _ rfl 26 (R16 (sureR rs n need)) _ _ hout Tryz.underlying26 rfl (by rw [R16_size, hl]; exact szRub) ?_)
        | (refine wpList_store_row rfl 26 _ _ rfl _ (R16 (sureR rs n need)) rfl rfl 26 _ h.res (by rw [R16_size, hl]; exact szRub) (by rw [R16_size, hl]; rfl) (one_u16 _) ?_))
      exact bodyPost_ret (v := .agg (R16 (sureR rs n need))) (results_cell_row rfl _ _ _ 26 (R16 (sureR rs n need)) _ _ rfl (h.res.setRow_same ((sureR rs n need).map Go.Proofs.YtkbmfemncadlnaaGreatDoor.u16)) Tryz.underlying26 rfl (by rw [R16_size, hl]; exact szRub)) rfl ⟨rfl, below_setRow h.below _ _ (by omega)⟩
end Go.Proofs.YtkbmfemncadlnaaGreatDoor
