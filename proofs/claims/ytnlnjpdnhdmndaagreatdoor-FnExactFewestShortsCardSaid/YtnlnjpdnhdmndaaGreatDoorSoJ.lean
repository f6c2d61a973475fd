/- Contracts: words, what FewestShorts is asked, the shortened text by the program. -/
import Derived.Test.YtnlnjpdnhdmndaaGreatDoorSoI
import Derived.Test.YtnlnjpdnhdmndaaGreatDoorSoW
namespace Go.Proofs.YtnlnjpdnhdmndaaGreatDoor
open Go Go.RowKit
set_option linter.unusedVariables false
set_option linter.unusedSimpArgs false

/-- A list of words, at an address. -/
theorem words_specS (s : ByteArray) (w : World) (hs : s.size ≤ 1048576) :
    Calls Tryz.prog 22 #[.string s] w fun e w' => ∃ b c, e = .returned (.slice (some b) (words (bs s)).length c) ∧ Below w.heap.size w w' ∧ SlE sv w' (some b) (words (bs s)) := by
  by_cases he : s.toList = []
  · have HE := Lib.hid (words_nil he)
    have he2 : s.toList.isEmpty = true := by rw [he]; rfl
    rw [HE.out]
    go_enter Tryz.func22, Tryz.ntmps22
    go_wp2
    go_ret
    exact ⟨_, _, rfl, below_one _ _, SlE.nil⟩
  · refine (words_spec s w hs).mono fun e w' ⟨A, c, h1, _, h3, h4, h5⟩ => ?_
    have hn : 0 < (words (bs s)).length := by
      rw [words_some he]; unfold splitF; simp
    obtain ⟨g, rfl⟩ := h5 hn
    exact ⟨_, c, h1, h3, h4⟩
set_option maxRecDepth 100000 in
theorem asked_specS (s : ByteArray) (A : Option Addr) (c : Nat) (ps : List Sr) (n : Nat) (w : World) (hs : s.size ≤ 1048576) (hn : ps.length = n) (hm : n ≤ 1048576) (hb : SrB ps 1048576) (h : SlR w A ps) :
    Calls Tryz.prog 20 #[.string s, .slice A n c] w fun e w' => e = .returned (.int .i64 (if vText (bs s) && srOk ps then 0 else 1)) ∧ Below w.heap.size w w' := by
  have HH := Lib.hid h
  have HB := Lib.hid hb
  have HN := Lib.hid hn
  clear h hb hn
  cases hv : vText (bs s)
  · go_enter Tryz.func20, Tryz.ntmps20
    go_wp2_with fail
    go_at_call 42
    refine (text_spec s _ hs).mono ?_
    rintro e _ ⟨he, rfl⟩
    rw [hv] at he
    subst he
    go_wp2
    go_ret
    exact ⟨rfl, Below.refl _ _⟩
  · cases ho : srOk ps
    all_goals
      have HO := Lib.hid ho
      go_enter Tryz.func20, Tryz.ntmps20
      go_wp2_with fail
      go_at_call 42
      refine (text_spec s _ hs).mono ?_
      rintro e _ ⟨he, rfl⟩
      rw [hv] at he
      subst he
      go_wp2_with fail
      go_at_call 43
      refine (shorts_spec A c ps n _ HN.out hm HB.out HH.out).mono ?_
      rintro e w2 ⟨he, hb2⟩
      rw [HO.out] at he
      subst he
      clear ho
      go_wp2
      go_ret
      exact ⟨rfl, hb2⟩
theorem join_sv (A : Option Addr) (c n : Nat) (ws : List (List UInt8)) (w : World) (hn : ws.length = n) (hc : n ≤ c) (hw : n ≤ 60) (hl : (joinW ws).length ≤ 1048576) (hA : 0 < n → ∃ g, A = some ⟨g, 0, none⟩ ∧ g < w.heap.size) (h : SlE sv w A ws) :
    Calls Tryz.prog 56 #[.slice A n c, .string ⟨#[32]⟩] w fun e w' => e = .returned (.string ⟨(joinW ws).toArray⟩) ∧ Below w.heap.size w w' := by
  subst hn
  by_cases h0 : 0 < ws.length
  · obtain ⟨g, rfl, hg⟩ := hA h0
    have hx : (ws.map (fun l => (⟨l.toArray⟩ : ByteArray))).length = ws.length := List.length_map _
    have hj : Lib.join ((ws.map (fun l => (⟨l.toArray⟩ : ByteArray))).map (·.data.toList)) [32] = joinW ws := by
      rw [List.map_map]
      unfold joinW
      congr 1
      exact (List.map_congr_left (fun x _ => rfl)).trans (List.map_id _)
    have hk := Tryz.strings_Join g 0 c (ws.map (fun l => (⟨l.toArray⟩ : ByteArray))) ⟨#[32]⟩ w (fun j x hj => ?_) hg (by omega) (by omega) ?_
    · rw [hx] at hk
      refine hk.mono fun e w' ⟨he, hb⟩ => ⟨?_, hb⟩
      rw [he]
      congr 3
      exact congrArg List.toArray hj
    · rw [List.getElem?_map] at hj
      cases hq : ws[j]? with
      | none => rw [hq] at hj; cases hj
      | some y =>
        rw [hq] at hj
        cases hj
        obtain ⟨a, ea, hcell⟩ := h j y hq
        cases ea
        rw [add_mid] at hcell
        exact hcell
    · have : (Lib.join ((ws.map (fun l => (⟨l.toArray⟩ : ByteArray))).map (·.data.toList)) [32]).length ≤ 140737488355328 := by rw [hj]; omega
      exact this
  · obtain rfl : ws = [] := List.eq_nil_of_length_eq_zero (by omega)
    exact (Tryz.strings_Join_none A c ⟨#[32]⟩ w).mono fun e w' ⟨he, hw⟩ => ⟨he, by rw [hw]; exact Below.refl _ _⟩
set_option maxHeartbeats 2000000 in
set_option maxRecDepth 100000 in
theorem short_impl (A C : Option Addr) (b0 : Addr) (c d e : Nat) (ps : List Sr) (ws : List (List UInt8)) (at' : List Int) (n m q : Nat) (w : World) (hn : ps.length = n) (hnm : n ≤ 1048576) (h : SlR w A ps) (hw : ws.length = m) (hm : m ≤ 60) (hs : SlE sv w (some b0) ws) (hq : at'.length = q) (hqm : q ≤ 60) (ha : SlE i64 w C at') (hat : AtV ps ws at') (hjl : (joinW (atS ps ws at' at'.length)).length ≤ 1048576) :
    Calls Tryz.prog 35 #[.slice (some b0) m d, .slice A n c, .slice C q e] w fun e' w' => e' = .returned (.string ⟨(joinW (atS ps ws at' at'.length)).toArray⟩) ∧ Below w.heap.size w w' := by
  have HN := Lib.hid hn
  have H := Lib.hid h
  have HW := Lib.hid hw
  have HS := Lib.hid hs
  have HQ := Lib.hid hq
  have HC := Lib.hid ha
  have HAT := Lib.hid hat
  clear hn h hw hs hq ha hat
  go_enter Tryz.func35, Tryz.ntmps35
  go_wp2_with fail
  go_at_call 55
  refine (cloneS_any (some b0) d ws m _ HW.out (by omega) HS.out).mono ?_
  rintro e w1 ⟨v, rfl, ho, hb⟩
  have HB1 := Lib.hid hb
  clear hb
  dsimp only
  by_cases hm0 : 0 < m
  · obtain ⟨A2, c2, e2, _, hc2, _⟩ := SlE_own ho
    obtain ⟨g, c', cs, rfl, hg, hbk, hbl⟩ := own_blk ho hm0
    have HCAP := Lib.hid (show m ≤ c' by cases e2; exact hc2)
    have HBK := Lib.hid hbk
    clear hbk hbl ho e2 hc2
    repeat ((with_reducible fail_if_success (show Code.wp _ (Code.loop _) _ _ _)); first | go_values | go_skip | go_guarded | go_step | go_upon)
    go_loopw [14] (fun i wr => ∃ k : Nat, k ≤ q ∧ i = .int .i64 k ∧ Blk wr g 9 ((atS ps ws at' k).map sv ++ cs) ∧ Below w.heap.size w wr) (fun i _ => q - (intOf i).toNat)
    case atStart => exact ⟨0, by omega, rfl, HBK.out, HB1.out⟩
    case round =>
      clear HBK HB1
      obtain ⟨k, hk, rfl, hbk, hbel⟩ := hrel
      have HBK := Lib.hid hbk
      have HBL := Lib.hid hbel
      clear hbk hbel
      by_cases hlt : k < q
      · obtain ⟨i, hi, hhas, hik⟩ := HAT.out k (by rw [HQ.out]; exact hlt)
        obtain ⟨pc, rfl, rc⟩ := (HC.out.next HBL.out).some k (by rw [HQ.out]; exact hlt)
        have cc : wr.cell? (pc.add k) = some (.int .i64 (i : Int)) := by rw [← hik]; exact rc.atI64 k (by rw [HQ.out]; exact hlt)
        obtain ⟨bb, ebb, rb⟩ := (HS.out.next HBL.out).some i hi
        obtain rfl : b0 = bb := by injection ebb
        have cw : wr.cell? (b0.add i) = some (.string ⟨(rdW ws i).toArray⟩) := rb.atW i hi
        have him : i < m := by rw [← HW.out]; exact hi
        obtain ⟨sh, hsh⟩ : ∃ sh, sh = (ofS ps (rdW ws i)).getD [] := ⟨_, rfl⟩
        have HAS := Lib.hid (show atS ps ws at' (k + 1) = (atS ps ws at' k).set i sh by rw [atS, hik, Int.toNat_natCast, hsh])
        have HCL := Lib.hid (show Calls Tryz.prog 52 #[.slice A n c, .string ⟨(rdW ws i).toArray⟩] wr (fun e w' => e = .returned (.tuple #[.string ⟨sh.toArray⟩, .bool true]) ∧ Below wr.heap.size wr w') by
          have := of_impl A c ps n (rdW ws i) wr HN.out hnm (H.out.next HBL.out)
          rw [← hsh, show (ofS ps (rdW ws i)).isSome = true from hhas] at this
          exact this)
        clear rc rb ebb hik hhas hsh
        go_wp2_with fail
        go_at_call 52
        refine HCL.out.mono ?_
        rintro e w2 ⟨rfl, hb2⟩
        have hblk2 := HBK.out.next hb2
        have HBL2 := Lib.hid (below_step HBL.out hb2)
        obtain ⟨v0, hc0⟩ := hblk2.ex i (by rw [List.length_append, List.length_map, atS_length, HW.out]; omega)
        have hf0 := hblk2.free i
        have HBK2 := Lib.hid hblk2
        clear HCL hblk2 hb2 cc cw
        dsimp only
        repeat (first | go_values | go_skip | go_guarded | go_step | go_upon)
        go_roundw
        case rel => exact ⟨k + 1, hlt, by go_num, by rw [HAS.out]; exact blk_setS HBK2.out (by rw [atS_length]; exact hi), HBL2.out.setCell (by simp; omega) _⟩
        case measure => simp [intOf]; omega
      · obtain rfl : k = q := by omega
        go_wp2_with fail
        go_at_call 56
        refine (join_sv _ _ m (atS ps ws at' at'.length) _ (by rw [atS_length, HW.out]) HCAP.out hm hjl (fun _ => ⟨_, rfl, HBK.out.lt⟩) (by rw [HQ.out]; exact slE_blkS HBK.out)).mono ?_
        rintro e w3 ⟨rfl, hb3⟩
        go_wp2
        go_ret
        exact ⟨rfl, below_step HBL.out hb3⟩
  · obtain rfl : m = 0 := by omega
    obtain rfl : q = 0 := by
      rcases Nat.eq_zero_or_pos q with e | e
      · exact e
      · obtain ⟨i, hi, _⟩ := HAT.out 0 (by rw [HQ.out]; exact e)
        rw [HW.out] at hi; omega
    obtain ⟨A', c', rfl, hl', hc', hs'⟩ := SlE_own ho
    have HS2 := Lib.hid hs'
    have HCAP := Lib.hid hc'
    clear ho hs' hc'
    rw [HW.out]
    repeat ((with_reducible fail_if_success (show Code.wp _ (Code.loop _) _ _ _)); first | go_values | go_skip | go_guarded | go_step | go_upon)
    go_loopw [14] (fun i wr => i = .int .i64 0 ∧ w1 = wr) (fun i _ => 0)
    case atStart => exact ⟨rfl, rfl⟩
    case round =>
      obtain ⟨rfl, rfl⟩ := hrel
      go_wp2_with fail
      go_at_call 56
      refine (join_sv _ _ 0 (atS ps ws at' at'.length) _ (by rw [atS_length, HW.out]) HCAP.out hm hjl (fun h => absurd h (by omega)) (by rw [HQ.out]; exact HS2.out)).mono ?_
      rintro e w3 ⟨rfl, hb3⟩
      go_wp2
      go_ret
      exact ⟨rfl, below_step HB1.out hb3⟩
end Go.Proofs.YtnlnjpdnhdmndaaGreatDoor
