/- Contracts: shorts are measured, copied, compared and marked. -/
import Derived.Test.YtnlnjpdnhdmndaaGreatDoorSoM
import Derived.Test.YtnlnjpdnhdmndaaGreatDoorGC
import Derived.Test.YtnlnjpdnhdmndaaGreatDoorPick
import Derived.Laws.IdiomStrings
import Derived.Laws.Concat
import Derived.BigRegion


namespace Go.Proofs.YtnlnjpdnhdmndaaGreatDoor
open Go Go.RowKit
set_option linter.unusedVariables false
set_option linter.unusedSimpArgs false

/-- A byte slice of one byte becomes a text. -/
theorem exec_bytestrS {o : Oper} {a : Act} {w : World} (x : Operand) (ho : o.op = .convert 93 9 x) (b : UInt8) (g : Nat) (hx : a.eval x = .slice (some ⟨g, 0, none⟩) 1 1) (hc : w.cell? ⟨g, 0, none⟩ = some (.int .u8 (b.toNat : Int))) :
    (execOp a.eval o).run Tryz.prog w = .ok (.value (.string ⟨[b].toArray⟩)) w := by
  have h := run_convert_bytes_back (P := Tryz.prog) w 93 9 5 ⟨g, 0, none⟩ 1 [b] Tryz.underlying93 Tryz.underlying5 Tryz.underlying9 (fun j hj => by
    obtain rfl : j = 0 := by simp at hj; omega
    exact hc)
  have h2 : (convert 93 9 (.slice (some ⟨g, 0, none⟩) 1 1)).run Tryz.prog w = .ok (.string ⟨[b].toArray⟩) w := h
  unfold execOp
  simp only [ho, hx, Sem.run_bind, Sem.run_pure, h2, Result.andThen_ok]
/-- Two texts are joined. -/
theorem exec_catS {o : Oper} {a : Act} {w : World} (x y : Operand) (ho : o.op = .binOp .add 9 x y 9) (l m : List UInt8) (hx : a.eval x = .string ⟨l.toArray⟩) (hy : a.eval y = .string ⟨m.toArray⟩) (hl : l.length ≤ 8388608) (hm : m.length ≤ 8388608) :
    (execOp a.eval o).run Tryz.prog w = .ok (.value (.string ⟨(l ++ m).toArray⟩)) w := by
  have h := run_string_add_lists (P := Tryz.prog) w l m (by omega) (by omega)
  unfold execOp
  simp only [ho, hx, hy]
  go_simp
  all_goals (rw [h])
theorem u8_ofS (n : Int) (h : 0 ≤ n ∧ n ≤ 255) : ((UInt8.ofNat n.toNat).toNat : Int) = n := by
  have : n.toNat < 256 := by omega
  rw [UInt8.toNat_ofNat_of_lt' this]; omega
theorem szSrL : (Tryz.prog.info? 49).map (·.size) = some 2 := by kernel_rfl
set_option maxRecDepth 100000 in
theorem szShort_any (p : Sr) (left : Int) (w : World) (hl : 0 ≤ left ∧ left ≤ 1048576) (h1 : p.lo.length ≤ 9223372036854775807) (h2 : p.sh.length ≤ 9223372036854775807) :
    Calls Tryz.prog 18 #[.agg (srV p).toArray, .int .i64 left] w fun e w' => (∃ v : Int, e = .returned (.int .i64 v) ∧ v ≤ left ∧ (0 ≤ v → (p.lo.length : Int) ≤ left ∧ (p.sh.length : Int) ≤ left)) ∧ Below w.heap.size w w' := by
  obtain ⟨a, b⟩ := p
  have e : (srV ⟨a, b⟩).toArray = #[.string ⟨a.toArray⟩, .string ⟨b.toArray⟩] := rfl
  rw [e]
  dsimp only at h1 h2 ⊢
  have w1 : IntKind.i64.wrap (left - (a.length : Int)) = left - (a.length : Int) := IntWalk.i64_in _ (by omega)
  by_cases c1 : left - (a.length : Int) < 0
  · go_enter Tryz.func18, Tryz.ntmps18
    go_wp2
    go_ret
    exact ⟨⟨-1, rfl, by omega, by omega⟩, below_one _ _⟩
  · have w2 : IntKind.i64.wrap (left - (a.length : Int) - (b.length : Int)) = left - (a.length : Int) - (b.length : Int) := IntWalk.i64_in _ (by omega)
    by_cases c2 : left - (a.length : Int) - (b.length : Int) < 0
    · go_enter Tryz.func18, Tryz.ntmps18
      go_wp2
      go_ret
      exact ⟨⟨-1, rfl, by omega, by omega⟩, below_one _ _⟩
    · go_enter Tryz.func18, Tryz.ntmps18
      go_wp2
      go_ret
      exact ⟨⟨_, rfl, by omega, fun _ => by omega⟩, below_one _ _⟩
/-- Texts that are short enough for a machine. -/
def SrB (ps : List Sr) (m : Nat) : Prop := ∀ i, i < ps.length → (rdSr ps i).lo.length ≤ m ∧ (rdSr ps i).sh.length ≤ m
set_option maxHeartbeats 1000000 in
set_option maxRecDepth 100000 in
theorem szShortS_any (A : Option Addr) (c : Nat) (ps : List Sr) (n : Nat) (left : Int) (w : World) (hn : ps.length = n) (hm : n ≤ maxLen) (hb : SrB ps 9223372036854775807) (hl : 0 ≤ left ∧ left ≤ 1048576) (h : SlR w A ps) :
    Calls Tryz.prog 5 #[.slice A n c, .int .i64 left] w fun e w' => (∃ v : Int, e = .returned (.int .i64 v) ∧ v ≤ left ∧ (0 ≤ v → n ≤ 1048576 ∧ SrB ps 1048576)) ∧ Below w.heap.size w w' := by
  unfold maxLen at hm
  have HN := Lib.hid hn
  have H := Lib.hid h
  have HB := Lib.hid hb
  clear hn h hb
  have w1 : IntKind.i64.wrap (left - (n : Int)) = left - (n : Int) := IntWalk.i64_in _ (by omega)
  by_cases c1 : left - (n : Int) < 0
  · go_enter Tryz.func5, Tryz.ntmps5
    go_wp2
    go_ret
    exact ⟨⟨-1, rfl, by omega, by omega⟩, Below.refl _ _⟩
  · go_enter Tryz.func5, Tryz.ntmps5
    go_wp2
    go_loopw [1, 5] (fun v i wr => ∃ (j : Nat) (q : Int), j ≤ n ∧ i = .int .i64 j ∧ v = .int .i64 q ∧ 0 ≤ q ∧ q ≤ left ∧ (∀ k, k < j → (rdSr ps k).lo.length ≤ 1048576 ∧ (rdSr ps k).sh.length ≤ 1048576) ∧ Below w.heap.size w wr) (fun _ i _ => n - (intOf i).toNat)
    case atStart => exact ⟨0, _, by omega, rfl, rfl, by omega, by omega, fun k hk => by omega, Below.refl _ _⟩
    case round =>
      obtain ⟨j, q, hj, rfl, rfl, hq0, hq1, hall, hbel⟩ := hrel
      have HALL := Lib.hid hall
      clear hall
      by_cases hlt : j < n
      · obtain ⟨a, rfl, hrow⟩ := (H.out.next hbel).get j (by rw [HN.out]; omega)
        obtain ⟨s1, s2⟩ := HB.out j (by rw [HN.out]; exact hlt)
        go_wp2_with (first
          | (refine wpList_loadV rfl 49 (.tmp 20) rfl (a.add (j * 2)) rfl (srV (rdSr ps j)) _ hrow Tryz.underlying49 rfl szSrL ?_; clear hrow))
        go_at_call 18
        refine (szShort_any _ q _ (by omega) s1 s2).mono ?_
        rintro e w2 ⟨⟨v, rfl, hv1, hv2⟩, hb2⟩
        have HV := Lib.hid hv2
        have hbel := below_step hbel hb2
        clear hb2 hv2
        by_cases hv : v < 0
        · go_wp2
          go_ret
          exact ⟨⟨-1, rfl, by omega, by omega⟩, hbel⟩
        · go_wp2
          go_roundw
          case rel => exact ⟨j + 1, v, by omega, by go_num, rfl, by omega, by omega, fun k hk => by
            rcases Nat.lt_succ_iff_lt_or_eq.1 hk with h1 | rfl
            · exact HALL.out k h1
            · have := HV.out (by omega); omega, hbel⟩
          case measure => simp [intOf]; omega
      · obtain rfl : j = n := by omega
        go_wp2
        go_ret
        exact ⟨⟨q, rfl, by omega, fun _ => ⟨by omega, fun k hk => HALL.out k (by rw [HN.out] at hk; exact hk)⟩⟩, hbel⟩
set_option maxRecDepth 100000 in
theorem toShort_any (p : Sr) (w : World) :
    Calls Tryz.prog 29 #[.agg (srV p).toArray] w fun e w' => e = .returned (.agg (srV p).toArray) ∧ Below w.heap.size w w' := by
  obtain ⟨a, b⟩ := p
  have e : (srV ⟨a, b⟩).toArray = #[.string ⟨a.toArray⟩, .string ⟨b.toArray⟩] := rfl
  rw [e]
  go_enter Tryz.func29, Tryz.ntmps29
  go_wp2
  refine bodyPost_ret (v := .agg #[.string ⟨a.toArray⟩, .string ⟨b.toArray⟩]) (by simp [results, Tryz.results29, go_sem]) rfl ⟨rfl, ?_⟩
  repeat (first | exact below_three _ _ _ _ | (refine Below.setCell ?_ (by simp) _))
theorem infoSr : (Tryz.prog.info? 62).map (fun i => (i.zero, i.size, i.bytes)) = some (some (.agg #[.string ⟨#[]⟩, .string ⟨#[]⟩]), 2, 32) := by kernel_rfl

structure ToSrRel (ps : List Sr) (vs : List Value) (w wr : World) (j : Nat) : Prop where
  blk : Blk wr w.heap.size 62 (srVs (ps.take j) ++ vs.drop (j * 2))
  below : Below w.heap.size w wr
theorem toSr_set {ps : List Sr} {vs : List Value} {j : Nat} (hj : j < ps.length) (hv : ps.length * 2 ≤ vs.length) :
    (srVs (ps.take j) ++ vs.drop (j * 2)).take (j * 2) ++ (srV (rdSr ps j)).toArray.toList ++ (srVs (ps.take j) ++ vs.drop (j * 2)).drop (j * 2 + (srV (rdSr ps j)).toArray.toList.length) = srVs (ps.take (j + 1)) ++ vs.drop ((j + 1) * 2) := by
  have hl : (srVs (ps.take j)).length = j * 2 := by rw [srVs_length, List.length_take, Nat.min_eq_left (by omega)]
  rw [List.take_append_of_le_length (by omega), List.take_of_length_le (by omega)]
  rw [List.take_add_one, rdSr_at hj, srVs_append]
  have e1 : (srV (rdSr ps j)).toArray.toList = srVs [rdSr ps j] := by simp [srVs]
  have e2 : (srVs [rdSr ps j]).length = 2 := by rw [srVs_length]; rfl
  show _ = srVs (ps.take j) ++ srVs [rdSr ps j] ++ vs.drop ((j + 1) * 2)
  rw [e1, e2, List.drop_append, hl, List.drop_of_length_le (by omega), List.nil_append, List.drop_drop]
  congr 2
  omega

set_option maxHeartbeats 1000000 in
set_option maxRecDepth 100000 in
theorem toShortS_any (A : Option Addr) (c : Nat) (ps : List Sr) (n : Nat) (w : World) (hn : ps.length = n) (hm : n ≤ 1048576) (h : SlR w A ps) :
    Calls Tryz.prog 8 #[.slice A n c] w fun e w' => ∃ g cs, e = .returned (.slice (some ⟨g, 0, none⟩) n n) ∧ w.heap.size ≤ g ∧ Blk w' g 62 (srVs ps ++ cs) ∧ Below w.heap.size w w' := by
  have HN := Lib.hid hn
  have H := Lib.hid h
  clear hn h
  obtain ⟨i, hi, hz, hsz, hby⟩ := info_parts infoSr
  go_enter Tryz.func8, Tryz.ntmps8
  go_wp2_with (refine wpList_make_full _ rfl (.tmp 6) (.tmp 6) _ rfl w.heap.size 62 i (.agg #[.string ⟨#[]⟩, .string ⟨#[]⟩]) 2 Tryz.underlying37 hi hz hsz .i64 .i64 (n : Int) (n : Int) n rfl rfl rfl rfl (by rw [hby]; omega) (by unfold maxLen; omega) (Nat.le_refl _) ?_; intro w1 ho hg)
  obtain ⟨hvl, cs, hb⟩ := ownB ho
  have hB : Below w.heap.size w w1 := ⟨hg.os, hg.tape, hg.output, hg.size, fun k hk => hg.block k hk (by simp)⟩
  generalize hv : (madeCells (Value.agg #[.string ⟨#[]⟩, .string ⟨#[]⟩]).cells (n * 2)).toList ++ cs = vs at *
  have hvn : n * 2 ≤ vs.length := by rw [← hv, List.length_append]; omega
  clear hv ho hvl hg
  go_loopw [4] (fun i wr => ∃ j : Nat, j ≤ n ∧ i = .int .i64 j ∧ ToSrRel ps vs w wr j) (fun i _ => n - (intOf i).toNat)
  case atStart => exact ⟨0, by omega, rfl, by simpa [srVs] using hb, hB⟩
  case round =>
    clear hb hB
    obtain ⟨j, hj, rfl, hr⟩ := hrel
    by_cases hlt : j < n
    · obtain ⟨a, rfl, hrow⟩ := (H.out.next hr.below).get j (by rw [HN.out]; omega)
      have hbk := hr.blk
      have hbel := hr.below
      have hl := srVs_length (ps.take j)
      rw [List.length_take, HN.out, Nat.min_eq_left (by omega)] at hl
      have HS := Lib.hid (toSr_set (ps := ps) (vs := vs) (j := j) (by rw [HN.out]; exact hlt) (by rw [HN.out]; exact hvn))
      have HLL := Lib.hid (show j * 2 + 2 ≤ (srVs (ps.take j) ++ vs.drop (j * 2)).length by rw [List.length_append, hl, List.length_drop]; omega)
      clear hr hl
      go_wp2_with (first
        | (refine wpList_loadV rfl 49 (.tmp 18) rfl (a.add (j * 2)) rfl (srV (rdSr ps j)) _ hrow Tryz.underlying49 rfl szSrL ?_; clear hrow)
        | (go_at_call 29; refine (toShort_any _ _).mono ?_; rintro e w2 ⟨rfl, hb2⟩; have hbk := hbk.next hb2; have hbel := below_step hbel hb2; clear hb2)
        | (refine wpList_store_mid rfl 62 (.tmp 21) (.tmp 20) rfl w.heap.size (j * 2) (srV (rdSr ps j)).toArray rfl rfl (hbk.there (j * 2) 2 HLL.out) szSrI (one_sr _) ?_))
      go_roundw
      case rel =>
        refine ⟨j + 1, by omega, by go_num, ?_, below_setCells _ _ _ hbel (Nat.le_refl _)⟩
        rw [← HS.out]
        exact Blk.setCells _ _ _ _ hbk HLL.out
      case measure => simp [intOf]; omega
    · obtain rfl : j = n := by omega
      have hbk := hr.blk
      have hbel := hr.below
      rw [List.take_of_length_le (by rw [HN.out]; omega)] at hbk
      clear hr
      go_wp2
      go_ret
      exact ⟨_, _, rfl, Nat.le_refl _, hbk, hbel⟩
set_option maxRecDepth 100000 in
theorem eqShort_same (p : Sr) (w : World) :
    Calls Tryz.prog 38 #[.agg (srV p).toArray, .agg (srV p).toArray] w fun e w' => e = .returned (.bool true) ∧ Below w.heap.size w w' := by
  obtain ⟨a, b⟩ := p
  have e : (srV ⟨a, b⟩).toArray = #[.string ⟨a.toArray⟩, .string ⟨b.toArray⟩] := rfl
  rw [e]
  go_enter Tryz.func38, Tryz.ntmps38
  go_wp2
  go_ret
  exact ⟨rfl, below_two _ _ _⟩
set_option maxHeartbeats 1000000 in
set_option maxRecDepth 100000 in
theorem eqShortS_same (A B : Option Addr) (c d : Nat) (ps : List Sr) (n : Nat) (w : World) (hn : ps.length = n) (hm : n ≤ 1048576) (h1 : SlR w A ps) (h2 : SlR w B ps) :
    Calls Tryz.prog 12 #[.slice A n c, .slice B n d] w fun e w' => e = .returned (.bool true) ∧ Below w.heap.size w w' := by
  have HN := Lib.hid hn
  have H1 := Lib.hid h1
  have H2 := Lib.hid h2
  have h0 : ((n : Int) != (n : Int)) = false := by simp
  clear hn h1 h2
  go_enter Tryz.func12, Tryz.ntmps12
  go_wp2
  go_loopw [5] (fun i wr => ∃ k : Nat, k ≤ n ∧ i = .int .i64 k ∧ Below w.heap.size w wr) (fun i _ => n - (intOf i).toNat)
  case atStart => exact ⟨0, by omega, rfl, Below.refl _ _⟩
  case round =>
    obtain ⟨k, hk, rfl, hbel⟩ := hrel
    by_cases hlt : k < n
    · obtain ⟨a, rfl, hr1⟩ := (H1.out.next hbel).get k (by rw [HN.out]; omega)
      obtain ⟨b, rfl, hr2⟩ := (H2.out.next hbel).get k (by rw [HN.out]; omega)
      go_wp2
      refine region_below (wr.heap.size) (by kernel_rfl) (by kernel_rfl) ?_
      refine below_run (by kernel_rfl) (.slice (some a) n c) (fun w' hw' => by kernel_rfl) ?_
      refine below_run (by kernel_rfl) (.int .i64 k) (fun w' hw' => by kernel_rfl) ?_
      refine below_run (by kernel_rfl) (.pointer (some (Addr.add a (k * 2)))) (fun w' hw' => exec_index 37 (.tmp 17) (.tmp 18) rfl a n c (by kernel_rfl) .i64 k (by kernel_rfl) hlt 62 Tryz.underlying37 2 szSrI) ?_
      refine below_run (by kernel_rfl) (.agg (srV (rdSr ps k)).toArray) (fun w' hw' => exec_loadV 62 (.tmp 19) rfl (a.add (k * 2)) (by kernel_rfl) (srV (rdSr ps k)) _ (hr1.next hw') Tryz.underlying62 rfl szSrI) ?_
      refine below_run (by kernel_rfl) (.slice (some b) n d) (fun w' hw' => by kernel_rfl) ?_
      refine below_run (by kernel_rfl) (.int .i64 k) (fun w' hw' => by kernel_rfl) ?_
      refine below_run (by kernel_rfl) (.pointer (some (Addr.add b (k * 2)))) (fun w' hw' => exec_index 37 (.tmp 21) (.tmp 22) rfl b n d (by kernel_rfl) .i64 k (by kernel_rfl) hlt 62 Tryz.underlying37 2 szSrI) ?_
      refine below_run (by kernel_rfl) (.agg (srV (rdSr ps k)).toArray) (fun w' hw' => exec_loadV 62 (.tmp 23) rfl (b.add (k * 2)) (by kernel_rfl) (srV (rdSr ps k)) _ (hr2.next hw') Tryz.underlying62 rfl szSrI) ?_
      refine below_call (by kernel_rfl) 38 #[.agg (srV (rdSr ps k)).toArray, .agg (srV (rdSr ps k)).toArray] (.bool true) (fun w' => by kernel_rfl) (fun w' hw' => (eqShort_same (rdSr ps k) w').mono fun e w1 ⟨he, hb1⟩ => ⟨he, below_step hw' hb1⟩) ?_
      refine below_run (by kernel_rfl) (.bool false) (fun w' hw' => by kernel_rfl) ?_
      refine wpQuiet_nil ?_
      intro W1 hW1
      simp only [Act.put, List.setIfInBounds_toArray, List.set_cons_succ, List.set_cons_zero]
      have hbel := below_step hbel hW1
      clear hr1 hr2 hW1
      go_wp2
      go_roundw
      case rel => exact ⟨k + 1, by omega, by go_num, hbel⟩
      case measure => simp [intOf]; omega
    · obtain rfl : k = n := by omega
      go_wp2
      go_ret
      exact ⟨rfl, hbel⟩

theorem i64_quo10 (m : Int) (h : 1 ≤ m ∧ m ≤ 8000000) : 0 ≤ Int.tdiv m 10 ∧ Int.tdiv m 10 < m := by
  rw [Int.tdiv_eq_ediv_of_nonneg (by omega)]; omega
theorem i64_rem10 (m : Int) (h : 1 ≤ m ∧ m ≤ 8000000) : 0 ≤ Int.tmod m 10 ∧ Int.tmod m 10 < 10 := by
  rw [Int.tmod_eq_emod_of_nonneg (by omega)]; omega
theorem exec_quoS {o : Oper} {a : Act} {w : World} (x y : Operand) (ho : o.op = .binOp .quo 3 x y 3) (m n : Int) (hx : a.eval x = .int .i64 m) (hy : a.eval y = .int .i64 n) (h0 : n ≠ 0) {v : Int} (hv : IntKind.i64.wrap (Int.tdiv m n) = v) :
    (execOp a.eval o).run Tryz.prog w = .ok (.value (.int .i64 v)) w := by
  unfold execOp
  simp only [ho, hx, hy]
  go_simp
theorem exec_remS {o : Oper} {a : Act} {w : World} (x y : Operand) (ho : o.op = .binOp .rem 3 x y 3) (m n : Int) (hx : a.eval x = .int .i64 m) (hy : a.eval y = .int .i64 n) (h0 : n ≠ 0) {v : Int} (hv : Int.tmod m n = v) :
    (execOp a.eval o).run Tryz.prog w = .ok (.value (.int .i64 v)) w := by
  unfold execOp
  simp only [ho, hx, hy]
  go_simp
set_option maxHeartbeats 1000000 in
set_option maxRecDepth 100000 in
theorem markText_any (k : Int) (w : World) (hk : 0 ≤ k ∧ k ≤ 8000000) :
    Calls Tryz.prog 40 #[.int .i64 k] w fun e w' => (∃ l : List UInt8, e = .returned (.string ⟨l.toArray⟩)) ∧ Below w.heap.size w w' := by
  by_cases hk0 : k ≤ 0
  · go_enter Tryz.func40, Tryz.ntmps40
    go_wp2
    go_ret
    exact ⟨⟨[109, 48], rfl⟩, Below.refl _ _⟩
  go_enter Tryz.func40, Tryz.ntmps40
  go_wp2
  go_loopw [0, 3] (fun kv lv wr => ∃ (q : Int) (l : List UInt8), kv = .int .i64 q ∧ lv = .string ⟨l.toArray⟩ ∧ 0 ≤ q ∧ q + l.length ≤ 8000000 ∧ Below w.heap.size w wr) (fun kv _ _ => (intOf kv).toNat)
  case atStart => exact ⟨k, [], rfl, rfl, by omega, by simp; omega, Below.refl _ _⟩
  case round =>
    obtain ⟨q, l, rfl, rfl, q_0, q_1, hbel⟩ := hrel
    clear hk hk0
    by_cases hlt : q > 0
    · obtain ⟨r, hr⟩ : ∃ r, Int.tmod q 10 = r := ⟨_, rfl⟩
      obtain ⟨d, hd⟩ : ∃ d, Int.tdiv q 10 = d := ⟨_, rfl⟩
      have r_0 := i64_rem10 q (by omega)
      have d_0 := i64_quo10 q (by omega)
      rw [hr] at r_0
      rw [hd] at d_0
      have hdw : IntKind.i64.wrap (Int.tdiv q 10) = d := by rw [hd]; exact IntWalk.i64_in _ (by omega)
      have HR := Lib.hid hr
      have HD := Lib.hid hdw
      clear hr hd hdw
      have e1 : IntKind.i64.wrap (48 + r) = 48 + r := IntWalk.i64_in _ (by omega)
      have e2 : IntKind.u8.wrap (48 + r) = 48 + r := IntWalk.u8_in _ (by omega)
      obtain ⟨c, hc⟩ : ∃ c, c = UInt8.ofNat (48 + r).toNat := ⟨_, rfl⟩
      have hcn : ((c.toNat : Nat) : Int) = 48 + r := by rw [hc]; exact u8_ofS _ (by omega)
      have hb4 := below_step hbel (below_one wr (.cells #[.int .u8 (48 + r)] 5))
      have HB := Lib.hid hb4
      clear hc hb4 hbel
      repeat ((with_reducible fail_if_success (show wpList _ _ _ (⟨some 9, _, _, _, _, _⟩ :: _) _ _)); first | go_values | go_skip | go_guarded | go_step | go_upon)
      refine wpList_val (by kernel_rfl) (.int .i64 r) _ (exec_remS (.tmp 8) (.const (.int .i64 10)) rfl q 10 (by kernel_rfl) (by kernel_rfl) (by decide) HR.out) ?_
      repeat ((with_reducible fail_if_success (show wpList _ _ _ (⟨some 12, _, _, _, _, _⟩ :: _) _ _)); first | go_values | go_skip | go_guarded | go_step | go_upon)
      refine wpList_val (by kernel_rfl) (.slice (some ⟨wr.heap.size, 0, none⟩) 1 1) (wr.alloc (.cells #[.int .u8 (48 + r)] 5)) (by kernel_rfl) ?_
      repeat ((with_reducible fail_if_success (show wpList _ _ _ (⟨some 13, _, _, _, _, _⟩ :: _) _ _)); first | go_values | go_skip | go_guarded | go_step | go_upon)
      refine wpList_val (by kernel_rfl) (.string ⟨[c].toArray⟩) _ (exec_bytestrS (.tmp 12) rfl c wr.heap.size (by kernel_rfl) (by rw [hcn]; exact cell_one_new wr _ _ 0 _ rfl)) ?_
      repeat ((with_reducible fail_if_success (show wpList _ _ _ (⟨some 15, _, _, _, _, _⟩ :: _) _ _)); first | go_values | go_skip | go_guarded | go_step | go_upon)
      refine wpList_val (by kernel_rfl) (.string ⟨([c] ++ l).toArray⟩) _ (exec_catS (.tmp 13) (.tmp 14) rfl [c] l (by kernel_rfl) (by kernel_rfl) (by simp) (by omega)) ?_
      clear e1 e2 hcn
      generalize wr.alloc (.cells #[.int .u8 (48 + r)] 5) = W4 at *
      repeat ((with_reducible fail_if_success (show wpList _ _ _ (⟨some 17, _, _, _, _, _⟩ :: _) _ _)); first | go_values | go_skip | go_guarded | go_step | go_upon)
      refine wpList_val (by kernel_rfl) (.int .i64 d) _ (exec_quoS (.tmp 16) (.const (.int .i64 10)) rfl q 10 (by kernel_rfl) (by kernel_rfl) (by decide) HD.out) ?_
      go_wp2
      go_roundw
      case rel => exact ⟨d, [c] ++ l, rfl, rfl, by omega, by simp; omega, HB.out⟩
      case measure => simp [intOf]; omega
    · obtain rfl : q = 0 := by omega
      repeat ((with_reducible fail_if_success (show wpList _ _ _ (⟨some 19, _, _, _, _, _⟩ :: _) _ _)); first | go_values | go_skip | go_guarded | go_step | go_upon)
      refine wpList_val (by kernel_rfl) (.string ⟨([109] ++ l).toArray⟩) _ (exec_catS (.const (.string ⟨#[109]⟩)) (.tmp 18) rfl [109] l (by kernel_rfl) (by kernel_rfl) (by simp) (by omega)) ?_
      go_wp2
      go_ret
      exact ⟨⟨_, rfl⟩, hbel⟩
theorem Within.grow {lo hi : Nat} {a w w' : World} (h : Within lo hi a w) (hb : Below w.heap.size w w') : Within lo hi a w' :=
  h.trans ⟨hb.os, hb.tape, hb.output, hb.size, fun k hk _ => hb.block k hk⟩
structure MkSrRel (lo hi g L : Nat) (w wr : World) : Prop where
  blk : ∃ us, us.length = L ∧ Blk wr g 62 us
  wth : Within lo hi w wr
set_option maxHeartbeats 1000000 in
set_option maxRecDepth 100000 in
theorem markShortS_own (lo hi g c n : Nat) (k0 : Int) (us : List Value) (w : World) (hk0 : 0 ≤ k0 ∧ k0 ≤ 4000000) (hl : n * 2 ≤ us.length) (hm : n ≤ 1048576) (h1 : lo ≤ g) (h2 : g < hi) (h3 : hi ≤ w.heap.size) (hb : Blk w g 62 us) :
    Calls Tryz.prog 14 #[.slice (some ⟨g, 0, none⟩) n c, .int .i64 k0] w fun e w' => (∃ k : Int, e = .returned (.int .i64 k) ∧ 0 ≤ k ∧ k ≤ 8000000) ∧ Within lo hi w w' := by
  have h0 : MkSrRel lo hi g us.length w w := ⟨⟨us, rfl, hb⟩, Within.refl _ _ _⟩
  generalize hL : us.length = L at *
  clear hb hL
  go_enter Tryz.func14, Tryz.ntmps14
  go_wp2
  go_loopw [1, 5] (fun q i wr => ∃ (j : Nat) (k : Int), j ≤ n ∧ i = .int .i64 j ∧ q = .int .i64 k ∧ 0 ≤ k ∧ k ≤ k0 + 2 * (j : Int) ∧ MkSrRel lo hi g L w wr) (fun _ i _ => n - (intOf i).toNat)
  case atStart => exact ⟨0, k0, by omega, rfl, rfl, by omega, by omega, h0⟩
  case round =>
    clear h0
    obtain ⟨j, k, hj, rfl, rfl, hk2, hk1, h⟩ := hrel
    by_cases hlt : j < n
    · obtain ⟨us, hul, hblk⟩ := h.blk
      have HW := Lib.hid h.wth
      have HB := Lib.hid hblk
      have HL := Lib.hid hul
      have k_1 : IntKind.i64.wrap (k + 1) = k + 1 := IntWalk.i64_in _ (by omega)
      have k_2 : IntKind.i64.wrap (k + 1 + 1) = k + 1 + 1 := IntWalk.i64_in _ (by omega)
      have HJ := Lib.hid hlt
      clear h hblk hul
      go_wp2_with fail
      go_at_call 40
      refine (markText_any k _ (by omega)).mono ?_
      rintro e w2 ⟨⟨l, rfl⟩, hb2⟩
      have HW2 := Lib.hid (HW.out.grow hb2)
      have hblk2 := HB.out.next hb2
      obtain ⟨v0, hc0⟩ := hblk2.ex (j * 2) (by have := HL.out; omega)
      have hf0 := hblk2.free (j * 2)
      have HB2 := Lib.hid hblk2
      clear hb2 hblk2 HB
      go_wp2_with fail
      go_at_call 40
      have HW3 := Lib.hid (HW2.out.set h1 h2 (j * 2) (.string ⟨l.toArray⟩))
      have HB3 := Lib.hid (HB2.out.set (j * 2) (.string ⟨l.toArray⟩))
      clear hc0 hf0 HB2 HW2 HW
      refine (markText_any (k + 1) _ (by omega)).mono ?_
      rintro e w3 ⟨⟨l2, rfl⟩, hb3⟩
      have HW4 := Lib.hid (HW3.out.grow hb3)
      have hblk3 := HB3.out.next hb3
      obtain ⟨v1, hc1⟩ := hblk3.ex (j * 2 + 1) (by rw [List.length_set]; have := HL.out; omega)
      have hf1 := hblk3.free (j * 2 + 1)
      have HB4 := Lib.hid hblk3
      clear hb3 hblk3 HB3
      go_wp2
      go_roundw
      case rel =>
        refine ⟨j + 1, k + 1 + 1, by omega, by go_num, rfl, by omega, by push_cast; omega, ⟨_, ?_, HB4.out.set _ _⟩, HW4.out.set h1 h2 _ _⟩
        simp [HL.out]
      case measure => simp [intOf]; omega
    · obtain rfl : j = n := by omega
      have hw := h.wth
      clear h
      go_wp2
      go_ret
      exact ⟨⟨k, rfl, by omega, by omega⟩, hw⟩
end Go.Proofs.YtnlnjpdnhdmndaaGreatDoor
