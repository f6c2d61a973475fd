/- Contracts: faces, by the reference: the gap of a pair, what is valid. -/
import Derived.Test.YtjgflkoefimmoaaDoorFcF
import Derived.Test.YtjgflkoefimmoaaDoorTxtS
namespace Go.Proofs.YtjgflkoefimmoaaDoor
open Go Go.RowKit
set_option linter.unusedVariables false
set_option linter.unusedSimpArgs false

/-- A face at block b. -/
def FcAt (w : World) (b : Nat) (f : Fc) (n : Nat) : Prop := ∃ A c, Blk w b 33 (fcV f (.slice A n c)) ∧ SlP w A f.pairs
theorem FcAt.next {w w' : World} {b : Nat} {f : Fc} {n : Nat} (h : FcAt w b f n) (hb : Below w.heap.size w w') : FcAt w' b f n := by
  obtain ⟨A, c, h1, h2⟩ := h
  exact ⟨A, c, h1.next hb, h2.next hb⟩
theorem FcAt.drewN {w : World} {b : Nat} {f : Fc} {n : Nat} (h : FcAt w b f n) (q : Nat) : FcAt (w.drewN q) b f n := h
theorem FcAt.lt {w : World} {b : Nat} {f : Fc} {n : Nat} (h : FcAt w b f n) : b < w.heap.size := by
  obtain ⟨A, c, h1, h2⟩ := h
  exact h1.lt
theorem pr_walk {w : World} {a : Addr} {p : Pr} (h : RowV w a (prV p)) : w.cell? a = some (.int .u8 p.a) ∧ w.cell? ⟨a.block, a.off + 1, none⟩ = some (.int .u8 p.b) ∧ w.cell? ⟨a.block, a.off + 2, none⟩ = some (.int .i8 p.y) :=
  ⟨by have := h 0 _ rfl; simpa [Addr.add] using this, h 1 _ rfl, h 2 _ rfl⟩

def NoP (ps : List Pr) (a b : Int) (k : Nat) : Prop := ∀ i, i < k → isP (rdP ps i) a b = false
theorem noP_zero (ps : List Pr) (a b : Int) : NoP ps a b 0 := fun i hi => by omega
theorem noP_succ {ps : List Pr} {a b : Int} {k : Nat} (h : NoP ps a b k) (hk : isP (rdP ps k) a b = false) : NoP ps a b (k + 1) := fun j hj => by
  rcases Nat.lt_succ_iff_lt_or_eq.1 hj with h1 | rfl
  · exact h j h1
  · exact hk

set_option maxHeartbeats 1000000 in
set_option maxRecDepth 100000 in
theorem by_spec (f : Fc) (n b0 : Nat) (x y : Int) (w : World) (hf : FcT f) (hn : f.pairs.length = n) (hm : n ≤ 1048576) (h : FcAt w b0 f n) :
    Calls Tryd.prog 42 #[.pointer (some ⟨b0, 0, none⟩), .int .u8 x, .int .u8 y] w fun e w' => e = .returned (.int .i64 (byP f.pairs x y)) ∧ w = w' := by
  obtain ⟨A, c, hk, hs⟩ := h
  have c28 := hk.cell 28 _ (fcV_pairs hf _)
  have HS := Lib.hid hs
  have HN := Lib.hid hn
  have HF := Lib.hid hf.pairs
  clear hk hs hn hf
  go_enter Tryd.func42, Tryd.ntmps42
  go_wp2
  go_loop [7] (fun i => ∃ k : Nat, k ≤ n ∧ i = .int .i64 k ∧ NoP f.pairs x y k) (fun i => n - (intOf i).toNat)
  case atStart => exact ⟨0, by omega, rfl, noP_zero _ _ _⟩
  case round =>
    obtain ⟨k, hk, rfl, hr⟩ := hrel
    have HR := Lib.hid hr
    clear hr
    by_cases hlt : k < n
    · obtain ⟨a, rfl, hrow⟩ := HS.out.get k (by rw [HN.out]; omega)
      obtain ⟨p0, p1, p2⟩ := pr_walk hrow
      have ht := (HF.out k (by rw [HN.out]; omega)).y
      clear hrow
      cases e1 : ((rdP f.pairs k).a == x)
      · have HP := Lib.hid (noP_succ HR.out (show isP (rdP f.pairs k) x y = false by unfold isP; rw [e1]; rfl))
        go_wp2
        go_round
        case rel => exact ⟨k + 1, by omega, by go_num, HP.out⟩
        case measure => simp [intOf]; omega
      · cases e2 : ((rdP f.pairs k).b == y)
        · have HP := Lib.hid (noP_succ HR.out (show isP (rdP f.pairs k) x y = false by unfold isP; rw [e1, e2]; rfl))
          go_wp2
          go_round
          case rel => exact ⟨k + 1, by omega, by go_num, HP.out⟩
          case measure => simp [intOf]; omega
        · have HP := Lib.hid (byP_hit (ps := f.pairs) (a := x) (b := y) (k := k) (by rw [HN.out]; omega) HR.out (show isP (rdP f.pairs k) x y = true by unfold isP; rw [e1, e2]; rfl))
          go_wp2
          go_ret
          exact ⟨retI HP.out.symm, rfl⟩
    · obtain rfl : k = n := by omega
      have HP := Lib.hid (byP_none (ps := f.pairs) (a := x) (b := y) (by rw [HN.out]; exact HR.out))
      go_wp2
      go_ret
      exact ⟨retI HP.out.symm, rfl⟩

set_option maxRecDepth 100000 in
theorem ahead_spec (p q : Pr) (w : World) :
    Calls Tryd.prog 96 #[.agg (prV p).toArray, .agg (prV q).toArray] w fun e w' => e = .returned (.bool (ahead p q)) ∧ Below w.heap.size w w' := by
  obtain ⟨a, b, y⟩ := p
  obtain ⟨a', b', y'⟩ := q
  have e : (prV ⟨a, b, y⟩).toArray = #[.int .u8 a, .int .u8 b, .int .i8 y] := rfl
  have e' : (prV ⟨a', b', y'⟩).toArray = #[.int .u8 a', .int .u8 b', .int .i8 y'] := rfl
  have ea : ahead ⟨a, b, y⟩ ⟨a', b', y'⟩ = (decide (a < a') || (a == a' && decide (b < b'))) := rfl
  rw [e, e', ea]
  clear e e' ea
  by_cases h1 : a < a'
  · go_enter Tryd.func96, Tryd.ntmps96
    go_wp2
    go_ret
    exact ⟨retB (by simp [h1]), below_two _ _ _⟩
  · cases h2 : (a == a')
    · go_enter Tryd.func96, Tryd.ntmps96
      go_wp2
      go_ret
      exact ⟨retB (by simp [h1]), below_two _ _ _⟩
    · go_enter Tryd.func96, Tryd.ntmps96
      go_wp2
      go_ret
      exact ⟨retB (by simp; omega), below_two _ _ _⟩
end Go.Proofs.YtjgflkoefimmoaaDoor
