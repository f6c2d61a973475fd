/- Contract: the search for the fewest sheets, by the reference. -/
import Derived.Test.YtonnplaacebekaaDoorShJ
import Derived.Test.YtonnplaacebekaaDoorShH
import Derived.Test.YtonnplaacebekaaDoorAppN
import Derived.Test.YtonnplaacebekaaDoorGA
import Derived.BigRegion

namespace Go.Proofs.YtonnplaacebekaaDoor
open Go Go.RowKit
set_option linter.unusedVariables false
set_option linter.unusedSimpArgs false

set_option maxRecDepth 100000 in
theorem maxS_any (a b : Int) (w : World) : Calls Tryd.prog 93 #[.int .i64 a, .int .i64 b] w fun e w' => e = .returned (.int .i64 (max a b)) ∧ w = w' := by
  by_cases h : b < a
  · go_enter Tryd.func93, Tryd.ntmps93
    go_wp2
    go_ret
    exact ⟨retI (by omega), rfl⟩
  · go_enter Tryd.func93, Tryd.ntmps93
    go_wp2
    go_ret
    exact ⟨retI (by omega), rfl⟩
/-- The search's memory. -/
def srV (Ap : Option Addr) (np cp : Nat) (wd : Int) (Ab : Option Addr) (cb : Nat) (st : Sst) : List Value := [.slice Ap np cp, .int .i64 wd, .slice Ab st.best.length cb, .int .i64 st.least, .bool st.found]
def SrAt (w : World) (bq lo : Nat) (Ap : Option Addr) (np cp : Nat) (wd : Int) (st : Sst) : Prop := ∃ Ab cb, Blk w bq 83 (srV Ap np cp wd Ab cb st) ∧ OwnS w lo w.heap.size Ab st.best
theorem cell_grown {w w' : World} {r : Nat} {x : Addr} {v : Value} (h : w.cell? x = some v) (hg : w.grownBy w' (some r)) (hx : x.block ≠ r) : w'.cell? x = some v := by
  have hl := World.block_lt_of_cell? w _ h
  have e := hg.block x.block hl (by intro e; cases e; exact hx rfl)
  rw [← h]
  simp [World.cell?, e]
theorem add_block (a : Addr) (i : Nat) : (a.add i).block = a.block := by unfold Addr.add; split <;> rfl
theorem slE_grown {w w' : World} {r : Nat} {a : Addr} {xs : List Int} (h : SlE i64 w (some a) xs) (hg : w.grownBy w' (some r)) (hx : a.block ≠ r) : SlE i64 w' (some a) xs := by
  intro i x hi
  obtain ⟨a', e, hc⟩ := h i x hi
  cases e
  exact ⟨a, rfl, cell_grown hc hg (by rw [add_block]; exact hx)⟩
theorem OwnS.grownN {w w' : World} {lo hi r : Nat} {A : Option Addr} {xs : List Int} (h : OwnS w lo hi A xs) (hg : w.grownBy w' (some r)) (hr : r < lo ∨ hi ≤ r) : OwnS w' lo hi A xs := h.grown hg (fun b e => by cases e; exact hr)
theorem grown_below {w w' : World} {r : Option Nat} (h : Below w.heap.size w w') : w.grownBy w' r := ⟨h.os, h.tape, h.output, h.size, fun k hk _ => h.block k hk⟩
theorem SrAt.below {w w' : World} {bq lo : Nat} {Ap : Option Addr} {np cp : Nat} {wd : Int} {st : Sst} (h : SrAt w bq lo Ap np cp wd st) (hb : Below w.heap.size w w') : SrAt w' bq lo Ap np cp wd st := by
  obtain ⟨Ab, cb, h1, h2⟩ := h
  refine ⟨Ab, cb, h1.next hb, ?_⟩
  intro hn
  obtain ⟨g, cs, e, a1, a2, a3⟩ := h2.next hb hn
  exact ⟨g, cs, e, a1, Nat.lt_of_lt_of_le a2 hb.size, a3⟩
theorem i64_one (xs : List Int) : ∀ v ∈ xs.map i64, v.oneCell' = true := by
  intro v hv
  rw [List.mem_map] at hv
  obtain ⟨x, _, rfl⟩ := hv
  rfl
theorem sl_news {w : World} {a : Addr} {xs : List Int} (h : SlE i64 w (some a) xs) : ∀ j u, (xs.map i64)[j]? = some u → w.cell? (a.add j) = some u := by
  intro j u hj
  rw [List.getElem?_map] at hj
  obtain ⟨x, hx, rfl⟩ := Option.map_eq_some_iff.1 hj
  obtain ⟨a', e, hc⟩ := h j x hx
  cases e
  exact hc
theorem one_row (xs : List Int) : (xs.map i64).toArray.all (·.oneCell') = true := by rw [List.all_toArray, List.all_eq_true]; exact i64_one xs
theorem blk_set9 {w : World} {g k : Nat} {L : List Int} {v : Int} (h : Blk w g 85 (L.map i64)) : Blk (w.setCell ⟨g, k, none⟩ (.int .i64 v)).drew g 85 ((L.set k v).map i64) := by
  have := h.set k (.int .i64 v)
  rw [← show i64 v = .int .i64 v from rfl, ← List.map_set] at this
  exact this.drew
theorem blk_cell9 {w : World} {g k : Nat} {L : List Int} (h : Blk w g 85 (L.map i64)) (hk : k < L.length) : w.cell? ⟨g, k, none⟩ = some (.int .i64 (rdI L k)) := by
  refine h.cell k _ ?_
  rw [List.getElem?_map, List.getElem?_eq_getElem hk]
  unfold rdI
  rw [List.getD, List.getElem?_eq_getElem hk]; rfl
/-- What the search leaves. -/
def FrOut (ps : List Int) (Ap : Option Addr) (cp : Nat) (wd : Int) (bq lo : Nat) (w : World) (st : Sst) (e : Ending) (w' : World) : Prop :=
  (∃ v, e = .returned v) ∧ w.grownBy w' (some bq) ∧ SrAt w' bq lo Ap ps.length cp wd st
def FrSpec (ps : List Int) (Ap : Option Addr) (cp : Nat) (wd : Int) (bq lo s1 s2 : Nat) (rest : List Int) : Prop :=
  ∀ (pre : List Int) (L : List Int) (n : Nat) (path : List Int) (As : Addr) (cs : Nat) (st : Sst) (w : World), ps = pre ++ rest → L.length = 9 → n ≤ pre.length → path.length = pre.length → (∀ i, i < n → 0 ≤ rdI L i ∧ rdI L i ≤ wd) →
    SrAt w bq lo Ap ps.length cp wd st → lo ≤ w.heap.size → OwnS w s1 s2 Ap ps → SlE i64 w (some As) path → As.block ≠ bq → As.block < w.heap.size →
    Calls Tryd.prog 56 #[.pointer (some ⟨bq, 0, none⟩), .slice (some As) path.length cs, .agg (L.map i64).toArray, .int .i64 n] w (FrOut ps Ap cp wd bq lo w ((lvs wd rest (L.take n) path).foldl stp st))

theorem sz9 : (Tryd.prog.info? 85).map (·.size) = some 9 := by kernel_rfl
theorem szSr : (Tryd.prog.info? 83).map (·.size) = some 5 := by kernel_rfl
theorem rdI_take {l : List Int} {n i : Nat} (h : i < n) : rdI (l.take n) i = rdI l i := by unfold rdI; rw [List.getD, List.getD, List.getElem?_take_of_lt h]
/-- A way is found: it is kept. -/
theorem sr_found {w w' : World} {bq lo n m : Nat} {Ap : Option Addr} {np cp : Nat} {wd : Int} {Ab : Option Addr} {cb : Nat} {st : Sst} {v' : Value} {path : List Int} (hm : path.length = m) (hB : Below w.heap.size w w') (hk : Blk w' bq 83 (srV Ap np cp wd Ab cb st)) (hbq : bq < lo) (hlo : lo ≤ w.heap.size)
    (ho : w'.ownsRow (w.heap.size + 1) 2 1 v' path.length (path.map i64)) : w.grownBy (((w'.setCell ⟨bq, 2, none⟩ v').setCell ⟨bq, 3, none⟩ (.int .i64 n)).setCell ⟨bq, 4, none⟩ (.bool true)) (some bq) ∧ SrAt (((w'.setCell ⟨bq, 2, none⟩ v').setCell ⟨bq, 3, none⟩ (.int .i64 n)).setCell ⟨bq, 4, none⟩ (.bool true)) bq lo Ap np cp wd ⟨path, n, true⟩ := by
  obtain ⟨A', c', rfl, hl, o⟩ := OwnS.of_own ho
  subst hm
  have hg1 : w'.grownBy (((w'.setCell ⟨bq, 2, none⟩ (.slice A' path.length c')).setCell ⟨bq, 3, none⟩ (.int .i64 n)).setCell ⟨bq, 4, none⟩ (.bool true)) (some bq) := grown_set (grown_set (grown_set (grown_refl _ _) _ _) _ _) _ _
  have hk4 := ((hk.set 2 (.slice A' path.length c')).set 3 (.int .i64 n)).set 4 (.bool true)
  refine ⟨grownBy_trans (grown_below hB) hg1, A', c', hk4, ?_⟩
  have o2 := o.grownN hg1 (.inl (by omega))
  intro hn
  obtain ⟨g, cs, e, a1, a2, a3⟩ := o2 hn
  exact ⟨g, cs, e, by omega, a3.lt, a3⟩
set_option maxHeartbeats 8000000 in
set_option maxRecDepth 100000 in
theorem from_nil (ps : List Int) (hps : ps.length ≤ 9) (Ap : Option Addr) (cp : Nat) (wd : Int) (bq lo s1 s2 : Nat) (hbq : bq < lo) : FrSpec ps Ap cp wd bq lo s1 s2 [] := by
  intro pre L n path As cs st w hpr hL hn hpl hlr hS hlo hsp hpt hAq hAs
  obtain ⟨Ab, cb, hblk, hob⟩ := hS
  rw [List.append_nil] at hpr
  subst hpr
  have hB := below_one w (.cells (L.map i64).toArray 85)
  have HB1 := Lib.hid (hblk.next hB)
  have c0 := HB1.out.cell 0 (.slice Ap ps.length cp) rfl
  have c3 := HB1.out.cell 3 (.int .i64 st.least) rfl
  have c4 := HB1.out.cell 4 (.bool st.found) rfl
  rw [lvs]
  by_cases hpr : st.found = true ∧ st.least ≤ (n : Int)
  · have HO := Lib.hid (show [(path, (L.take n).length)].foldl stp st = st from stp_keep hpr.1 (fun x hx => by
      obtain rfl := List.mem_singleton.1 hx
      rw [List.length_take]
      simp only
      omega))
    rw [HO.out]
    rw [hpr.1] at c4
    have h2 := hpr.2
    go_enter Tryd.func56, Tryd.ntmps56
    go_wp2
    (try simp only [Exit.inBlock, Exit.then]); refine bodyPost_ret (results_none rfl _ _ _) rfl ?_
    exact ⟨⟨_, rfl⟩, grown_below hB, Ab, cb, HB1.out, fun hn => by
      obtain ⟨g, cs, e, a1, a2, a3⟩ := hob.next hB hn
      exact ⟨g, cs, e, a1, Nat.lt_of_lt_of_le a2 hB.size, a3⟩⟩
  · have HO := Lib.hid (show [(path, (L.take n).length)].foldl stp st = ⟨path, (n : Int), true⟩ by
      have e : (L.take n).length = n := by rw [List.length_take]; omega
      rw [e, List.foldl_cons, List.foldl_nil]
      unfold stp
      rw [if_neg hpr])
    rw [HO.out]
    have hown0 := own_empty (w.alloc (.cells (L.map i64).toArray 85)) (w.heap.size + 1) (by simp) (w.heap.size + 1) 2 (by omega) 1
    have hnews := Lib.hid (sl_news ((hpt.next hB).next (below_one _ (.cells #[] 2))))
    have hlen : (path.map i64).length = path.length := List.length_map ..
    have HB2 := Lib.hid (HB1.out.next (below_one _ (.cells #[] 2)))
    have hBw := below_two w (.cells (L.map i64).toArray 85) (.cells #[] 2)
    have HK := Lib.hid (show ∀ v' w', w'.ownsRow (w.heap.size + 1) 2 1 v' (0 + path.length) ([] ++ path.map i64) → ((w.alloc (.cells (L.map i64).toArray 85)).alloc (.cells #[] 2)).grownBy w' (some (w.heap.size + 1)) → Blk w' bq 83 (srV Ap ps.length cp wd Ab cb st) ∧ Below w.heap.size w w' ∧ w'.ownsRow (w.heap.size + 1) 2 1 v' path.length (path.map i64) from fun v' w' ho hg => by
      refine ⟨HB2.out.grown hg (by intro e; injection e with e; omega), below_own hBw hown0 hg (by omega) (by simp; omega), ?_⟩
      rw [Nat.zero_add] at ho
      exact ho)
    clear hBw
    cases hfd : st.found
    · rw [hfd] at c4
      go_enter Tryd.func56, Tryd.ntmps56
      go_wp2_with (at_builtin; refine wpList_appN rfl (.tmp 33) (.tmp 34) _ rfl elI _ (w.heap.size + 1) _ 0 [] rfl hown0 As path.length cs (path.map i64) rfl hlen hnews.out (i64_one _) (by unfold maxLen; omega) (by omega) (by simp) ?_; intro v' w' ho' hg' hwh; obtain ⟨hk, hBw, ho2⟩ := HK.out v' w' ho' hg'; obtain ⟨A', c', ev, hl', ho3⟩ := OwnS.of_own ho2; rw [hpl] at ev; subst ev; have HS2 := Lib.hid (sr_found (n := n) hpl hBw hk hbq hlo ho2); have d2 := hk.cell 2 (.slice Ab st.best.length cb) rfl; have f2 := hk.free 2; have hk2 := hk.set 2 (.slice A' ps.length c'); have d3 := hk2.cell 3 (.int .i64 st.least) rfl; have f3 := hk2.free 3; have hk3 := hk2.set 3 (.int .i64 n); have d4 := hk3.cell 4 (.bool st.found) rfl; have f4 := hk3.free 4; clear hk hk2 hk3 ho' hg' hwh hBw ho2 ho3 hl')
      (try simp only [Exit.inBlock, Exit.then]); refine bodyPost_ret (results_none rfl _ _ _) rfl ?_
      exact ⟨⟨_, rfl⟩, HS2.out.1, HS2.out.2⟩
    · rw [hfd] at c4
      have hnl : ¬ st.least ≤ (n : Int) := fun h => hpr ⟨hfd, h⟩
      go_enter Tryd.func56, Tryd.ntmps56
      go_wp2_with (at_builtin; refine wpList_appN rfl (.tmp 33) (.tmp 34) _ rfl elI _ (w.heap.size + 1) _ 0 [] rfl hown0 As path.length cs (path.map i64) rfl hlen hnews.out (i64_one _) (by unfold maxLen; omega) (by omega) (by simp) ?_; intro v' w' ho' hg' hwh; obtain ⟨hk, hBw, ho2⟩ := HK.out v' w' ho' hg'; obtain ⟨A', c', ev, hl', ho3⟩ := OwnS.of_own ho2; rw [hpl] at ev; subst ev; have HS2 := Lib.hid (sr_found (n := n) hpl hBw hk hbq hlo ho2); have d2 := hk.cell 2 (.slice Ab st.best.length cb) rfl; have f2 := hk.free 2; have hk2 := hk.set 2 (.slice A' ps.length c'); have d3 := hk2.cell 3 (.int .i64 st.least) rfl; have f3 := hk2.free 3; have hk3 := hk2.set 3 (.int .i64 n); have d4 := hk3.cell 4 (.bool st.found) rfl; have f4 := hk3.free 4; clear hk hk2 hk3 ho' hg' hwh hBw ho2 ho3 hl')
      (try simp only [Exit.inBlock, Exit.then]); refine bodyPost_ret (results_none rfl _ _ _) rfl ?_
      exact ⟨⟨_, rfl⟩, HS2.out.1, HS2.out.2⟩

attribute [local irreducible] wpQuiet in
attribute [local irreducible] wpAnyH in
set_option maxHeartbeats 8000000 in
set_option maxRecDepth 100000 in
theorem from_cons (ps : List Int) (hps : ps.length ≤ 9) (Ap : Option Addr) (cp : Nat) (wd : Int) (hw : 1 ≤ wd ∧ wd ≤ 400) (hp : ∀ k, k < ps.length → 1 ≤ rdI ps k ∧ rdI ps k ≤ wd) (bq lo s1 s2 : Nat) (hbq : bq < lo) (hsb : bq < s1 ∨ s2 ≤ bq) (p : Int) (rest : List Int) (ih : FrSpec ps Ap cp wd bq lo s1 s2 rest) : FrSpec ps Ap cp wd bq lo s1 s2 (p :: rest) := by
  intro pre L n path As cs st w hpr hL hn hpl hlr hS hlo hsp hpt hAq hAs
  have hB := below_one w (.cells (L.map i64).toArray 85)
  have hpm : path.length < ps.length := by rw [hpr, hpl, List.length_append, List.length_cons]; omega
  have hpe : rdI ps path.length = p := by rw [hpr, hpl]; unfold rdI; simp
  have hpp := hp path.length hpm
  rw [hpe] at hpp
  have hn9 : n ≤ 8 := by omega
  have hltn : (L.take n).length = n := by rw [List.length_take]; omega
  have HSR := Lib.hid (hS.below hB)
  by_cases hprune : st.found = true ∧ st.least ≤ (n : Int)
  · obtain ⟨Ab, cb, hblk, hob⟩ := HSR.out
    have c0 := hblk.cell 0 (.slice Ap ps.length cp) rfl
    have c3 := hblk.cell 3 (.int .i64 st.least) rfl
    have c4 := hblk.cell 4 (.bool st.found) rfl
    have HO := Lib.hid (show (lvs wd (p :: rest) (L.take n) path).foldl stp st = st from stp_keep hprune.1 (fun x hx => by
      have := (lvs_ge wd _ _ _ x hx).1
      rw [hltn] at this
      omega))
    rw [HO.out]
    rw [hprune.1] at c4
    have h2 := hprune.2
    clear hblk hob hpr hlr hpp hS
    go_enter Tryd.func56, Tryd.ntmps56
    go_wp2
    (try simp only [Exit.inBlock, Exit.then]); refine bodyPost_ret (results_none rfl _ _ _) rfl ?_
    exact ⟨⟨_, rfl⟩, grown_below hB, HSR.out⟩
  · have HPR := Lib.hid hpr
    have HPL := Lib.hid hpl
    have HLR := Lib.hid hlr
    have HSP := Lib.hid (hsp.next hB)
    have HPT := Lib.hid (hpt.next hB)
    have HIH := Lib.hid ih
    have HLT := Lib.hid hltn
    have hW1 : (w.alloc (.cells (L.map i64).toArray 85)).heap.size = w.heap.size + 1 := by simp
    have HBX1 := Lib.hid (Blk.new w 85 (L.map i64))
    obtain ⟨Ab, cb, hblk, hob⟩ := HSR.out
    have c0 := hblk.cell 0 (.slice Ap ps.length cp) rfl
    have c3 := hblk.cell 3 (.int .i64 st.least) rfl
    have c4 := hblk.cell 4 (.bool st.found) rfl
    have HGB := Lib.hid (grown_below (r := some bq) hB)
    have hnf : (decide ((n : Int) ≥ st.least) && st.found) = false := by
      cases hf : st.found
      · simp
      · simp
        have : ¬ st.least ≤ (n : Int) := fun h => hprune ⟨hf, h⟩
        omega
    clear hblk hob hpr hlr hsp hpt ih hltn hS hprune hpl
    have hpmi : ¬ ((path.length : Int) = (ps.length : Int)) := by omega
    have hpbe : ((path.length : Int) == (ps.length : Int)) = false := by simp; omega
    cases hfd : st.found
    · rw [hfd] at c4
      have HRST := Lib.hid hfd
      clear hfd hnf
      go_enter Tryd.func56, Tryd.ntmps56
      go_wp2
      have hsz9 : (Tryd.prog.info? 85).map (·.size) = some (L.map i64).toArray.size := by rw [List.size_toArray, List.length_map, hL]; exact sz9
      have HSX := Lib.hid (show 9 = (L.map i64).toArray.size by rw [List.size_toArray, List.length_map, hL])
      clear c0 c3 c4
      generalize w.alloc (.cells (L.map i64).toArray 85) = W1 at *
      go_loopw [9] (fun i wr => ∃ k : Nat, k ≤ n + 1 ∧ i = .int .i64 k ∧ W1.grownBy wr (some bq) ∧ SrAt wr bq lo Ap ps.length cp wd ((lvk wd p rest (L.take n) path k).foldl stp st)) (fun i _ => n + 1 - (intOf i).toNat)
      case atStart => exact ⟨0, Nat.zero_le _, rfl, grown_refl _ _, HSR.out⟩
      case round =>
        obtain ⟨k, hk, rfl, hg, hsr⟩ := hrel
        have hszr : W1.heap.size ≤ wr.heap.size := by obtain ⟨_, _, _, hgs, _⟩ := hg; exact hgs
        by_cases hkn1 : k ≤ n
        · obtain ⟨st2, hst2⟩ : ∃ st2, st2 = (lvk wd p rest (L.take n) path k).foldl stp st := ⟨_, rfl⟩
          rw [← hst2] at hsr
          have HST := Lib.hid hst2
          have HG := Lib.hid hg
          have HSR2 := Lib.hid hsr
          have HBX := Lib.hid (HBX1.out.grown hg (by intro e; injection e with e; omega))
          have HSPr := Lib.hid (HSP.out.grownN hg hsb)
          have HPTr := Lib.hid (slE_grown HPT.out hg hAq)
          obtain ⟨a, ea, hrow⟩ := HSPr.out.sl.some path.length hpm
          subst ea
          have HRW := Lib.hid hrow
          obtain ⟨Ab2, cb2, hblk2, hob2⟩ := hsr
          have HQ := Lib.hid hblk2
          have hk9 : k < 9 := by omega
          have hk1 : IntKind.i64.wrap ((k : Int) + 1) = (k : Int) + 1 := IntWalk.i64_in _ (by omega)
          clear hg hblk2 hob2 hrow hst2
          by_cases hkn' : k < n
          · have hkn : decide ((k : Int) < (n : Int)) = true := decide_eq_true (by omega)
            have hLk := HLR.out k hkn'
            have hrt := rdI_take (l := L) hkn'
            cases hb : decide (rdI L k < p)
            · have hfit : fitS (L.take n) k p = true := by
                rw [fitS_old (by have := HLT.out; omega), hrt]
                exact decide_eq_true (by have := of_decide_eq_false hb; omega)
              have hlep : p ≤ rdI L k := by have := of_decide_eq_false hb; omega
              go_wp2
              refine region_below (wr.heap.size) (by kernel_rfl) (by kernel_rfl) ?_
              refine below_run (by kernel_rfl) (.int .i64 k) (fun w' hw' => by kernel_rfl) ?_
              refine below_run (by kernel_rfl) (.int .i64 n) (fun w' hw' => by kernel_rfl) ?_
              refine below_run (by kernel_rfl) (.bool true) (fun w' hw' => Eq.trans (show (execOp _ _).run _ w' = .ok (.value (.bool (decide ((k : Int) < (n : Int))))) w' by kernel_rfl) (by rw [hkn])) ?_
              refine below_run (by kernel_rfl) (.bool true) (fun w' hw' => by kernel_rfl) ?_
              refine below_run (by kernel_rfl) (.int .i64 k) (fun w' hw' => by kernel_rfl) ?_
              refine below_run (by kernel_rfl) (.pointer (some (Addr.add ⟨w.heap.size, 0, none⟩ (k * 1)))) (fun w' hw' => exec_indexA 85 (.tmp 6) (.tmp 58) rfl ⟨w.heap.size, 0, none⟩ (by kernel_rfl) .i64 k (by kernel_rfl) 9 hk9 2 Tryd.underlying85 1 szI64) ?_
              refine below_run (by kernel_rfl) (.int .i64 (rdI L k)) (fun w' hw' => exec_load1 2 (.tmp 59) rfl (Addr.add ⟨w.heap.size, 0, none⟩ (k * 1)) (by kernel_rfl) (.int .i64 (rdI L k)) (by rw [Nat.mul_one]; exact ((HBX.out.next hw').row).atI64 k (by omega)) _ Tryd.underlying2 rfl) ?_
              refine below_run (by kernel_rfl) (.pointer (some ⟨bq, 0, none⟩)) (fun w' hw' => by kernel_rfl) ?_
              refine below_run (by kernel_rfl) (.pointer (some ⟨bq, 0, none⟩)) (fun w' hw' => by kernel_rfl) ?_
              refine below_run (by kernel_rfl) (.pointer (some ⟨bq, 0, none⟩)) (fun w' hw' => by kernel_rfl) ?_
              refine below_run (by kernel_rfl) (.slice (some a) ps.length cp) (fun w' hw' => exec_load1 31 (.tmp 63) rfl ⟨bq, 0, none⟩ (by kernel_rfl) (.slice (some a) ps.length cp) ((HQ.out.next hw').cell 0 (.slice (some a) ps.length cp) rfl) _ Tryd.underlying31 rfl) ?_
              refine below_run (by kernel_rfl) (.int .i64 path.length) (fun w' hw' => by kernel_rfl) ?_
              refine below_run (by kernel_rfl) (.pointer (some (Addr.add a (path.length * 1)))) (fun w' hw' => exec_index 31 (.tmp 64) (.tmp 65) rfl a ps.length cp (by kernel_rfl) .i64 path.length (by kernel_rfl) hpm 2 Tryd.underlying31 1 szI64) ?_
              refine below_run (by kernel_rfl) (.int .i64 p) (fun w' hw' => exec_load1 2 (.tmp 66) rfl (a.add (path.length * 1)) (by kernel_rfl) (.int .i64 p) (by rw [Nat.mul_one, ← hpe]; exact (HRW.out.next hw').atI64 path.length hpm) _ Tryd.underlying2 rfl) ?_
              refine below_run (by kernel_rfl) (.bool false) (fun w' hw' => Eq.trans (show (execOp _ _).run _ w' = .ok (.value (.bool (decide (rdI L k < p)))) w' by kernel_rfl) (by rw [hb])) ?_
              refine below_run (by kernel_rfl) (.bool false) (fun w' hw' => by kernel_rfl) ?_
              refine wpQuiet_nil ?_
              intro W3 hW3
              simp only [Act.put, List.setIfInBounds_toArray, List.set_cons_succ, List.set_cons_zero]
              clear hb hkn
              have HBX3 := Lib.hid (HBX.out.next hW3)
              have HQ3 := Lib.hid (HQ.out.next hW3)
              have HSP3 := Lib.hid (HSPr.out.next hW3)
              have HPT3 := Lib.hid (HPTr.out.next hW3)
              have HSR3 := Lib.hid (HSR2.out.below hW3)
              have hG3 := grownBy_trans HG.out (grown_below (r := some bq) hW3)
              have hz3 := hW3.size
              have hkb := HBX3.out
              clear hW3
              have hWX := below_one W3 (.cells (L.map i64).toArray 85)
              have hkx := Blk.new W3 85 (L.map i64)
              go_wp2_with (first
                | (refine wpList_load_row rfl 85 (.tmp 6) rfl _ rfl 85 (L.map i64).toArray _ _ hkb Tryd.underlying85 rfl hsz9 ?_)
                | (refine wpList_store_new rfl 85 _ _ rfl (L.map i64).toArray rfl rfl 85 _ hsz9 HSX.out (one_row _) ?_))
              generalize W3.alloc (.cells (L.map i64).toArray 85) = WX at hWX hkx ⊢
              have cn := blk_cell9 hkx (k := k) (by omega)
              have fn := hkx.free k
              have cq := (HQ3.out.next hWX).cell 0 (.slice (some a) ps.length cp) rfl
              have cpp : WX.cell? (a.add path.length) = some (.int .i64 p) := by rw [← hpe]; exact rowI_cell (HSP3.out.next hWX).sl path.length hpm
              have hk9i : (k : Int) < 9 := by omega
              have hsub : IntKind.i64.wrap (rdI L k - p) = rdI L k - p := IntWalk.i64_in _ (by omega)
              have hmx : max (n : Int) ((k : Int) + 1) = ((n : Nat) : Int) := by omega
              have hput : putS wd (L.take n) k p = (L.set k (rdI L k - p)).take n := by rw [putS_old (by have := HLT.out; omega), hrt, List.take_set]
              have hlr2 : ∀ i, i < n → 0 ≤ rdI (L.set k (rdI L k - p)) i ∧ rdI (L.set k (rdI L k - p)) i ≤ wd := fun i hi => by
                by_cases e : k = i
                · subst e; rw [rdI_set _ (by omega)]; omega
                · rw [rdI_set_ne _ e]; exact HLR.out i hi
              go_region
              have HNX5 := Lib.hid (show Blk (WX.setCell ⟨W3.heap.size, k, none⟩ (.int .i64 (rdI L k - p))).drew W3.heap.size 85 ((L.set k (rdI L k - p)).map i64) from blk_set9 hkx)
              have hb5 : Below W3.heap.size W3 (WX.setCell ⟨W3.heap.size, k, none⟩ (.int .i64 (rdI L k - p))).drew := ((hWX.setCell (Nat.le_refl _) _).drew)
              generalize (WX.setCell ⟨W3.heap.size, k, none⟩ (.int .i64 (rdI L k - p))).drew = W5 at HNX5 hb5 ⊢
              have hsz5 := hb5.size
              have HSP5 := Lib.hid (HSP3.out.next hb5)
              have HPT5 := Lib.hid (HPT3.out.next hb5)
              have HSR5 := Lib.hid (HSR3.out.below hb5)
              have hG5 := grownBy_trans hG3 (grown_below (r := some bq) hb5)
              clear hb5
              go_simp
              apply_assumption
              refine heldS_begin (S := fun w' => W5.grownBy w' (some bq)) (by kernel_rfl) ?_
              have hS : W5.grownBy W5.drew (some bq) := grown_below (below_drewN (Below.refl _ _) 1)
              refine heldS_take 0 (.pointer (some ⟨bq, 0, none⟩)) rfl (by kernel_rfl) (by kernel_rfl) (by kernel_rfl) (fun _ _ _ h => h) (by kernel_rfl) (fun w' hw' => by kernel_rfl) hS ?_
              refine heldS_take 2 (.slice (some As) path.length cs) rfl (by kernel_rfl) (by kernel_rfl) (by kernel_rfl) (fun _ _ _ h => h) (by kernel_rfl) (fun w' hw' => by kernel_rfl) hS ?_
              refine heldS_take 4 (.int .i64 k) rfl (by kernel_rfl) (by kernel_rfl) (by kernel_rfl) (fun _ _ _ h => h) (by kernel_rfl) (fun w' hw' => by kernel_rfl) hS ?_
              refine heldS_take 7 (.agg ((L.set k (rdI L k - p)).map i64).toArray) rfl (by kernel_rfl) (by kernel_rfl) (by kernel_rfl) (fun _ _ _ h => h) (by kernel_rfl) (fun w' hw' => exec_load_row 85 (.tmp 10) rfl (W3.heap.size) (by kernel_rfl) 85 ((L.set k (rdI L k - p)).map i64).toArray _ _ (HNX5.out.grown hw' (by intro e; injection e with e; omega)) Tryd.underlying85 rfl ((by rw [List.size_toArray, List.length_map, List.length_set, hL]; exact sz9))) hS ?_
              refine heldS_take 8 (.int .i64 n) rfl (by kernel_rfl) (by kernel_rfl) (by kernel_rfl) (fun _ _ _ h => h) (by kernel_rfl) (fun w' hw' => by kernel_rfl) hS ?_
              refine heldS_take 9 (.int .i64 k) rfl (by kernel_rfl) (by kernel_rfl) (by kernel_rfl) (fun _ _ _ h => h) (by kernel_rfl) (fun w' hw' => by kernel_rfl) hS ?_
              refine heldS_take 10 (.int .i64 ((k : Int) + 1)) rfl (by kernel_rfl) (by kernel_rfl) (by kernel_rfl) (fun _ _ _ h => h) (by kernel_rfl) (fun w' hw' => Eq.trans (show (execOp _ _).run _ w' = .ok (.value (.int .i64 (IntKind.i64.wrap ((k : Int) + 1)))) w' by kernel_rfl) (by rw [hk1])) hS ?_
              refine heldS_path (T := fun w' => Below W5.heap.size W5 w') (B := W5.heap.size) 1 3 5 6 rfl rfl rfl rfl (by decide) (by decide) (by kernel_rfl) (by kernel_rfl) (by kernel_rfl) (by kernel_rfl) (by kernel_rfl) (by kernel_rfl) rfl rfl rfl rfl (.tmp 93) (.tmp 94) (.tmp 95) (.tmp 97) 31 rfl rfl elI (.int .i64 k) rfl (fun w' => by kernel_rfl) (fun p w' => by kernel_rfl) (fun w' => by kernel_rfl) (fun p w' => by kernel_rfl) (fun p q w' => by kernel_rfl) As path.length cs (path.map i64) (by simp) (fun w' hw' => sl_news (HPT5.out.next hw')) (i64_one _) (fun p => by kernel_rfl) (fun p => by kernel_rfl) (fun p r => by kernel_rfl) (fun p r => by kernel_rfl) (fun p q r => by kernel_rfl) (fun p q r => by kernel_rfl) (fun p r => by kernel_rfl) (fun p q r => by kernel_rfl) (by unfold maxLen; omega) (by omega) (fun w' h => grown_below h) (fun w' h => h.size) (fun w' o h => h.alloc h.size o) (fun w1 w2 v n xs h ho hg => below_own h ho hg (Nat.le_refl _) h.size) (below_drewN (Below.refl _ _) 1) ?_
              intro q1 q3 q5 v6 w6 hT own6
              obtain ⟨g6, c6, cs6, rfl, hg6, hb6, hl6⟩ := own_blk own6 (by omega)
              have hS : W5.grownBy w6 (some bq) := grown_below hT
              refine heldS_call 11 93 #[.int .i64 n, .int .i64 ((k : Int) + 1)] rfl (by kernel_rfl) (by kernel_rfl) (by kernel_rfl) ?_
              refine ((maxS_any (n : Int) ((k : Int) + 1) _).mono (fun e w' h => (⟨h.1.trans (by rw [hmx]), h.2⟩ : e = .returned (.int .i64 ((n : Nat) : Int)) ∧ _))).mono ?_
              rintro e w1 ⟨rfl, rfl⟩
              refine ⟨_, rfl, hS, ?_⟩
              have hpt6 : SlE i64 w6 (some ⟨g6, 0, none⟩) (path ++ [(k : Int)]) := SlE.of_row (by
                have : (path.map i64 ++ [Value.int .i64 (k : Int)]) = (path ++ [(k : Int)]).map i64 := by simp [i64]
                rw [this] at hb6
                exact hb6.head)
              have hcall := HIH.out (pre ++ [p]) (L.set k (rdI L k - p)) (n) (path ++ [(k : Int)]) ⟨g6, 0, none⟩ c6 st2 w6 (by rw [HPR.out]; simp) (by rw [List.length_set]; exact hL) (by simp; have := HPL.out; omega) (by simp; exact HPL.out) hlr2 (HSR5.out.below hT) (by have := hT.size; omega) (HSP5.out.next hT) hpt6 (by show g6 ≠ bq; omega) (by show g6 < w6.heap.size; exact hb6.lt)
              rw [List.length_append, List.length_singleton] at hcall
              refine heldS_call 12 56 #[.pointer (some ⟨bq, 0, none⟩), .slice (some ⟨g6, 0, none⟩) (path.length + 1) c6, .agg ((L.set k (rdI L k - p)).map i64).toArray, .int .i64 ((n : Nat) : Int)] rfl (by kernel_rfl) (by kernel_rfl) (by kernel_rfl) ?_
              refine hcall.mono ?_
              rintro e w7 ⟨⟨v7, rfl⟩, hg7, hsr7⟩
              refine ⟨_, rfl, grownBy_trans hS hg7, ?_⟩
              refine held_done (by kernel_rfl) ?_
              simp only [Act.put, List.setIfInBounds_toArray, List.set_cons_succ, List.set_cons_zero]
              have hG7 := grownBy_trans hG5 (grownBy_trans hS hg7)
              have HSR7 := Lib.hid (show SrAt w7 bq lo (some a) ps.length cp wd ((lvk wd p rest (L.take n) path (k + 1)).foldl stp st) by
                rw [lvk_yes hfit, List.foldl_append, ← HST.out, hput]
                exact hsr7)
              clear hsr7 hg7 hS hT own6 hb6 hpt6 hcall hput hfit hmx hk1
              go_wp2
              go_roundw
              case rel => exact ⟨k + 1, by omega, by go_num, hG7, HSR7.out⟩
              case measure => simp [intOf]; omega
            · have hfit : fitS (L.take n) k p = false := by
                rw [fitS_old (by have := HLT.out; omega), hrt]
                exact decide_eq_false (by have := of_decide_eq_true hb; omega)
              have HSRn := Lib.hid (show ∀ w', Below wr.heap.size wr w' → SrAt w' bq lo (some a) ps.length cp wd ((lvk wd p rest (L.take n) path (k + 1)).foldl stp st) from fun w' h => by
                rw [lvk_no hfit, ← HST.out]
                exact HSR2.out.below h)
              go_wp2
              refine region_below (wr.heap.size) (by kernel_rfl) (by kernel_rfl) ?_
              refine below_run (by kernel_rfl) (.int .i64 k) (fun w' hw' => by kernel_rfl) ?_
              refine below_run (by kernel_rfl) (.int .i64 n) (fun w' hw' => by kernel_rfl) ?_
              refine below_run (by kernel_rfl) (.bool true) (fun w' hw' => Eq.trans (show (execOp _ _).run _ w' = .ok (.value (.bool (decide ((k : Int) < (n : Int))))) w' by kernel_rfl) (by rw [hkn])) ?_
              refine below_run (by kernel_rfl) (.bool true) (fun w' hw' => by kernel_rfl) ?_
              refine below_run (by kernel_rfl) (.int .i64 k) (fun w' hw' => by kernel_rfl) ?_
              refine below_run (by kernel_rfl) (.pointer (some (Addr.add ⟨w.heap.size, 0, none⟩ (k * 1)))) (fun w' hw' => exec_indexA 85 (.tmp 6) (.tmp 58) rfl ⟨w.heap.size, 0, none⟩ (by kernel_rfl) .i64 k (by kernel_rfl) 9 hk9 2 Tryd.underlying85 1 szI64) ?_
              refine below_run (by kernel_rfl) (.int .i64 (rdI L k)) (fun w' hw' => exec_load1 2 (.tmp 59) rfl (Addr.add ⟨w.heap.size, 0, none⟩ (k * 1)) (by kernel_rfl) (.int .i64 (rdI L k)) (by rw [Nat.mul_one]; exact ((HBX.out.next hw').row).atI64 k (by omega)) _ Tryd.underlying2 rfl) ?_
              refine below_run (by kernel_rfl) (.pointer (some ⟨bq, 0, none⟩)) (fun w' hw' => by kernel_rfl) ?_
              refine below_run (by kernel_rfl) (.pointer (some ⟨bq, 0, none⟩)) (fun w' hw' => by kernel_rfl) ?_
              refine below_run (by kernel_rfl) (.pointer (some ⟨bq, 0, none⟩)) (fun w' hw' => by kernel_rfl) ?_
              refine below_run (by kernel_rfl) (.slice (some a) ps.length cp) (fun w' hw' => exec_load1 31 (.tmp 63) rfl ⟨bq, 0, none⟩ (by kernel_rfl) (.slice (some a) ps.length cp) ((HQ.out.next hw').cell 0 (.slice (some a) ps.length cp) rfl) _ Tryd.underlying31 rfl) ?_
              refine below_run (by kernel_rfl) (.int .i64 path.length) (fun w' hw' => by kernel_rfl) ?_
              refine below_run (by kernel_rfl) (.pointer (some (Addr.add a (path.length * 1)))) (fun w' hw' => exec_index 31 (.tmp 64) (.tmp 65) rfl a ps.length cp (by kernel_rfl) .i64 path.length (by kernel_rfl) hpm 2 Tryd.underlying31 1 szI64) ?_
              refine below_run (by kernel_rfl) (.int .i64 p) (fun w' hw' => exec_load1 2 (.tmp 66) rfl (a.add (path.length * 1)) (by kernel_rfl) (.int .i64 p) (by rw [Nat.mul_one, ← hpe]; exact (HRW.out.next hw').atI64 path.length hpm) _ Tryd.underlying2 rfl) ?_
              refine below_run (by kernel_rfl) (.bool true) (fun w' hw' => Eq.trans (show (execOp _ _).run _ w' = .ok (.value (.bool (decide (rdI L k < p)))) w' by kernel_rfl) (by rw [hb])) ?_
              refine below_run (by kernel_rfl) (.bool true) (fun w' hw' => by kernel_rfl) ?_
              refine wpQuiet_nil ?_
              intro W3 hW3
              simp only [Act.put, List.setIfInBounds_toArray, List.set_cons_succ, List.set_cons_zero]
              clear hb hkn
              go_wp2
              go_roundw
              case rel => exact ⟨k + 1, by omega, by go_num, grownBy_trans HG.out (grown_below hW3), HSRn.out _ hW3⟩
              case measure => simp [intOf]; omega
          · obtain rfl : k = n := by omega
            have hkn : decide ((k : Int) < (k : Int)) = false := decide_eq_false (by omega)
            go_wp2
            refine region_below (wr.heap.size) (by kernel_rfl) (by kernel_rfl) ?_
            refine below_run (by kernel_rfl) (.int .i64 k) (fun w' hw' => by kernel_rfl) ?_
            refine below_run (by kernel_rfl) (.int .i64 k) (fun w' hw' => by kernel_rfl) ?_
            refine below_run (by kernel_rfl) (.bool false) (fun w' hw' => Eq.trans (show (execOp _ _).run _ w' = .ok (.value (.bool (decide ((k : Int) < (k : Int))))) w' by kernel_rfl) (by rw [hkn])) ?_
            refine below_run (by kernel_rfl) (.bool false) (fun w' hw' => by kernel_rfl) ?_
            refine BigFrame.wpQuiet_skip (by kernel_rfl) ?_
            refine BigFrame.wpQuiet_skip (by kernel_rfl) ?_
            refine BigFrame.wpQuiet_skip (by kernel_rfl) ?_
            refine BigFrame.wpQuiet_skip (by kernel_rfl) ?_
            refine BigFrame.wpQuiet_skip (by kernel_rfl) ?_
            refine BigFrame.wpQuiet_skip (by kernel_rfl) ?_
            refine BigFrame.wpQuiet_skip (by kernel_rfl) ?_
            refine BigFrame.wpQuiet_skip (by kernel_rfl) ?_
            refine BigFrame.wpQuiet_skip (by kernel_rfl) ?_
            refine BigFrame.wpQuiet_skip (by kernel_rfl) ?_
            refine BigFrame.wpQuiet_skip (by kernel_rfl) ?_
            refine below_run (by kernel_rfl) (.bool false) (fun w' hw' => by kernel_rfl) ?_
            refine wpQuiet_nil ?_
            intro W3 hW3
            simp only [Act.put, List.setIfInBounds_toArray, List.set_cons_succ, List.set_cons_zero]
            clear hkn
            have HBX3 := Lib.hid (HBX.out.next hW3)
            have HQ3 := Lib.hid (HQ.out.next hW3)
            have HSP3 := Lib.hid (HSPr.out.next hW3)
            have HPT3 := Lib.hid (HPTr.out.next hW3)
            have HSR3 := Lib.hid (HSR2.out.below hW3)
            have hG3 := grownBy_trans HG.out (grown_below (r := some bq) hW3)
            have hz3 := hW3.size
            have hkb := HBX3.out
            clear hW3
            have hfit : fitS (L.take k) k p = true := by
              have := fitS_new (L.take k) p
              rwa [HLT.out] at this
            have hWX := below_one W3 (.cells (L.map i64).toArray 85)
            have hkx0 := Blk.new W3 85 (L.map i64)
            have c1q := (HQ3.out.next hWX).cell 1 (.int .i64 wd) rfl
            have hk9i : (k : Int) < 9 := by omega
            have cn0 := blk_cell9 hkx0 (k := k) (by omega)
            have fn0 := hkx0.free k
            go_wp2_with (first
              | (refine wpList_load_row rfl 85 (.tmp 6) rfl _ rfl 85 (L.map i64).toArray _ _ hkb Tryd.underlying85 rfl hsz9 ?_)
              | (refine wpList_store_new rfl 85 _ _ rfl (L.map i64).toArray rfl rfl 85 _ hsz9 HSX.out (one_row _) ?_))
            have hmap : ((L.map i64).set k (.int .i64 wd)) = (L.set k wd).map i64 := by rw [← show i64 wd = .int .i64 wd from rfl, ← List.map_set]
            rw [hmap]
            have hWX := below_one W3 (.cells ((L.set k wd).map i64).toArray 85)
            have hkx := Blk.new W3 85 ((L.set k wd).map i64)
            generalize W3.alloc (.cells ((L.set k wd).map i64).toArray 85) = WX at hWX hkx ⊢
            have hset : rdI (L.set k wd) k = wd := rdI_set _ (by omega)
            have cn : WX.cell? ⟨W3.heap.size, k, none⟩ = some (.int .i64 wd) := by
              have := blk_cell9 hkx (k := k) (by rw [List.length_set]; omega)
              rwa [hset] at this
            have fn := hkx.free k
            have cq := (HQ3.out.next hWX).cell 0 (.slice (some a) ps.length cp) rfl
            have cpp : WX.cell? (a.add path.length) = some (.int .i64 p) := by rw [← hpe]; exact rowI_cell (HSP3.out.next hWX).sl path.length hpm
            have hsub : IntKind.i64.wrap (wd - p) = wd - p := IntWalk.i64_in _ (by omega)
            have hmx : max (k : Int) ((k : Int) + 1) = ((k + 1 : Nat) : Int) := by omega
            have hL2 : ((L.set k wd).set k (wd - p)) = L.set k (wd - p) := List.set_set ..
            have hput : putS wd (L.take k) k p = ((L.set k wd).set k (wd - p)).take (k + 1) := by
              have e1 : putS wd (L.take k) k p = L.take k ++ [wd - p] := by
                have := putS_new wd (L.take k) p
                rwa [HLT.out] at this
              rw [hL2, e1, List.take_set, List.take_add_one, List.getElem?_eq_getElem (by omega)]
              simp only [Option.toList_some]
              have := set_snoc (L.take k) (L[k]'(by omega)) (wd - p)
              rw [HLT.out] at this
              exact this.symm
            have hlr2 : ∀ i, i < k + 1 → 0 ≤ rdI ((L.set k wd).set k (wd - p)) i ∧ rdI ((L.set k wd).set k (wd - p)) i ≤ wd := fun i hi => by
              rw [hL2]
              by_cases e : k = i
              · subst e; rw [rdI_set _ (by omega)]; omega
              · rw [rdI_set_ne _ e]; exact HLR.out i (by omega)
            clear hmap hset hL2 c1q cn0 fn0 hkx0
            go_region
            have HNX5 := Lib.hid (show Blk (WX.setCell ⟨W3.heap.size, k, none⟩ (.int .i64 (wd - p))).drew W3.heap.size 85 (((L.set k wd).set k (wd - p)).map i64) from blk_set9 hkx)
            have hb5 : Below W3.heap.size W3 (WX.setCell ⟨W3.heap.size, k, none⟩ (.int .i64 (wd - p))).drew := ((hWX.setCell (Nat.le_refl _) _).drew)
            generalize (WX.setCell ⟨W3.heap.size, k, none⟩ (.int .i64 (wd - p))).drew = W5 at HNX5 hb5 ⊢
            have hsz5 := hb5.size
            have HSP5 := Lib.hid (HSP3.out.next hb5)
            have HPT5 := Lib.hid (HPT3.out.next hb5)
            have HSR5 := Lib.hid (HSR3.out.below hb5)
            have hG5 := grownBy_trans hG3 (grown_below (r := some bq) hb5)
            clear hb5
            go_simp
            apply_assumption
            refine heldS_begin (S := fun w' => W5.grownBy w' (some bq)) (by kernel_rfl) ?_
            have hS : W5.grownBy W5.drew (some bq) := grown_below (below_drewN (Below.refl _ _) 1)
            refine heldS_take 0 (.pointer (some ⟨bq, 0, none⟩)) rfl (by kernel_rfl) (by kernel_rfl) (by kernel_rfl) (fun _ _ _ h => h) (by kernel_rfl) (fun w' hw' => by kernel_rfl) hS ?_
            refine heldS_take 2 (.slice (some As) path.length cs) rfl (by kernel_rfl) (by kernel_rfl) (by kernel_rfl) (fun _ _ _ h => h) (by kernel_rfl) (fun w' hw' => by kernel_rfl) hS ?_
            refine heldS_take 4 (.int .i64 k) rfl (by kernel_rfl) (by kernel_rfl) (by kernel_rfl) (fun _ _ _ h => h) (by kernel_rfl) (fun w' hw' => by kernel_rfl) hS ?_
            refine heldS_take 7 (.agg (((L.set k wd).set k (wd - p)).map i64).toArray) rfl (by kernel_rfl) (by kernel_rfl) (by kernel_rfl) (fun _ _ _ h => h) (by kernel_rfl) (fun w' hw' => exec_load_row 85 (.tmp 10) rfl (W3.heap.size) (by kernel_rfl) 85 (((L.set k wd).set k (wd - p)).map i64).toArray _ _ (HNX5.out.grown hw' (by intro e; injection e with e; omega)) Tryd.underlying85 rfl ((by rw [List.size_toArray, List.length_map, List.length_set, List.length_set, hL]; exact sz9))) hS ?_
            refine heldS_take 8 (.int .i64 k) rfl (by kernel_rfl) (by kernel_rfl) (by kernel_rfl) (fun _ _ _ h => h) (by kernel_rfl) (fun w' hw' => by kernel_rfl) hS ?_
            refine heldS_take 9 (.int .i64 k) rfl (by kernel_rfl) (by kernel_rfl) (by kernel_rfl) (fun _ _ _ h => h) (by kernel_rfl) (fun w' hw' => by kernel_rfl) hS ?_
            refine heldS_take 10 (.int .i64 ((k : Int) + 1)) rfl (by kernel_rfl) (by kernel_rfl) (by kernel_rfl) (fun _ _ _ h => h) (by kernel_rfl) (fun w' hw' => Eq.trans (show (execOp _ _).run _ w' = .ok (.value (.int .i64 (IntKind.i64.wrap ((k : Int) + 1)))) w' by kernel_rfl) (by rw [hk1])) hS ?_
            refine heldS_path (T := fun w' => Below W5.heap.size W5 w') (B := W5.heap.size) 1 3 5 6 rfl rfl rfl rfl (by decide) (by decide) (by kernel_rfl) (by kernel_rfl) (by kernel_rfl) (by kernel_rfl) (by kernel_rfl) (by kernel_rfl) rfl rfl rfl rfl (.tmp 93) (.tmp 94) (.tmp 95) (.tmp 97) 31 rfl rfl elI (.int .i64 k) rfl (fun w' => by kernel_rfl) (fun p w' => by kernel_rfl) (fun w' => by kernel_rfl) (fun p w' => by kernel_rfl) (fun p q w' => by kernel_rfl) As path.length cs (path.map i64) (by simp) (fun w' hw' => sl_news (HPT5.out.next hw')) (i64_one _) (fun p => by kernel_rfl) (fun p => by kernel_rfl) (fun p r => by kernel_rfl) (fun p r => by kernel_rfl) (fun p q r => by kernel_rfl) (fun p q r => by kernel_rfl) (fun p r => by kernel_rfl) (fun p q r => by kernel_rfl) (by unfold maxLen; omega) (by omega) (fun w' h => grown_below h) (fun w' h => h.size) (fun w' o h => h.alloc h.size o) (fun w1 w2 v n xs h ho hg => below_own h ho hg (Nat.le_refl _) h.size) (below_drewN (Below.refl _ _) 1) ?_
            intro q1 q3 q5 v6 w6 hT own6
            obtain ⟨g6, c6, cs6, rfl, hg6, hb6, hl6⟩ := own_blk own6 (by omega)
            have hS : W5.grownBy w6 (some bq) := grown_below hT
            refine heldS_call 11 93 #[.int .i64 k, .int .i64 ((k : Int) + 1)] rfl (by kernel_rfl) (by kernel_rfl) (by kernel_rfl) ?_
            refine ((maxS_any (k : Int) ((k : Int) + 1) _).mono (fun e w' h => (⟨h.1.trans (by rw [hmx]), h.2⟩ : e = .returned (.int .i64 ((k + 1 : Nat) : Int)) ∧ _))).mono ?_
            rintro e w1 ⟨rfl, rfl⟩
            refine ⟨_, rfl, hS, ?_⟩
            have hpt6 : SlE i64 w6 (some ⟨g6, 0, none⟩) (path ++ [(k : Int)]) := SlE.of_row (by
              have : (path.map i64 ++ [Value.int .i64 (k : Int)]) = (path ++ [(k : Int)]).map i64 := by simp [i64]
              rw [this] at hb6
              exact hb6.head)
            have hcall := HIH.out (pre ++ [p]) ((L.set k wd).set k (wd - p)) (k + 1) (path ++ [(k : Int)]) ⟨g6, 0, none⟩ c6 st2 w6 (by rw [HPR.out]; simp) (by rw [List.length_set, List.length_set]; exact hL) (by rw [List.length_append, List.length_singleton]; have := HPL.out; omega) (by simp; exact HPL.out) hlr2 (HSR5.out.below hT) (by have := hT.size; omega) (HSP5.out.next hT) hpt6 (by show g6 ≠ bq; omega) (by show g6 < w6.heap.size; exact hb6.lt)
            rw [List.length_append, List.length_singleton] at hcall
            refine heldS_call 12 56 #[.pointer (some ⟨bq, 0, none⟩), .slice (some ⟨g6, 0, none⟩) (path.length + 1) c6, .agg (((L.set k wd).set k (wd - p)).map i64).toArray, .int .i64 ((k + 1 : Nat) : Int)] rfl (by kernel_rfl) (by kernel_rfl) (by kernel_rfl) ?_
            refine hcall.mono ?_
            rintro e w7 ⟨⟨v7, rfl⟩, hg7, hsr7⟩
            refine ⟨_, rfl, grownBy_trans hS hg7, ?_⟩
            refine held_done (by kernel_rfl) ?_
            simp only [Act.put, List.setIfInBounds_toArray, List.set_cons_succ, List.set_cons_zero]
            have hG7 := grownBy_trans hG5 (grownBy_trans hS hg7)
            have HSR7 := Lib.hid (show SrAt w7 bq lo (some a) ps.length cp wd ((lvk wd p rest (L.take k) path (k + 1)).foldl stp st) by
              rw [lvk_yes hfit, List.foldl_append, ← HST.out, hput]
              exact hsr7)
            clear hsr7 hg7 hS hT own6 hb6 hpt6 hcall hput hfit hmx hk1
            go_wp2
            go_roundw
            case rel => exact ⟨k + 1, by omega, by go_num, hG7, HSR7.out⟩
            case measure => simp [intOf]
        · obtain rfl : k = n + 1 := by omega
          have HFIN := Lib.hid (show lvs wd (p :: rest) (L.take n) path = lvk wd p rest (L.take n) path (n + 1) by rw [lvs_cons, HLT.out])
          have HG := Lib.hid hg
          have HSR2 := Lib.hid hsr
          clear hg hsr
          go_wp2
          (try simp only [Exit.inBlock, Exit.then]); refine bodyPost_end (results_none rfl _ _ _) rfl ?_
          exact ⟨⟨_, rfl⟩, grownBy_trans HGB.out HG.out, by rw [HFIN.out]; exact HSR2.out⟩
    · rw [hfd] at c4
      have hnl : ¬ st.least ≤ (n : Int) := by rw [hfd] at hnf; simp at hnf; omega
      clear hfd hnf
      go_enter Tryd.func56, Tryd.ntmps56
      go_wp2
      have hsz9 : (Tryd.prog.info? 85).map (·.size) = some (L.map i64).toArray.size := by rw [List.size_toArray, List.length_map, hL]; exact sz9
      have HSX := Lib.hid (show 9 = (L.map i64).toArray.size by rw [List.size_toArray, List.length_map, hL])
      clear c0 c3 c4
      generalize w.alloc (.cells (L.map i64).toArray 85) = W1 at *
      go_loopw [9] (fun i wr => ∃ k : Nat, k ≤ n + 1 ∧ i = .int .i64 k ∧ W1.grownBy wr (some bq) ∧ SrAt wr bq lo Ap ps.length cp wd ((lvk wd p rest (L.take n) path k).foldl stp st)) (fun i _ => n + 1 - (intOf i).toNat)
      case atStart => exact ⟨0, Nat.zero_le _, rfl, grown_refl _ _, HSR.out⟩
      case round =>
        obtain ⟨k, hk, rfl, hg, hsr⟩ := hrel
        have hszr : W1.heap.size ≤ wr.heap.size := by obtain ⟨_, _, _, hgs, _⟩ := hg; exact hgs
        by_cases hkn1 : k ≤ n
        · obtain ⟨st2, hst2⟩ : ∃ st2, st2 = (lvk wd p rest (L.take n) path k).foldl stp st := ⟨_, rfl⟩
          rw [← hst2] at hsr
          have HST := Lib.hid hst2
          have HG := Lib.hid hg
          have HSR2 := Lib.hid hsr
          have HBX := Lib.hid (HBX1.out.grown hg (by intro e; injection e with e; omega))
          have HSPr := Lib.hid (HSP.out.grownN hg hsb)
          have HPTr := Lib.hid (slE_grown HPT.out hg hAq)
          obtain ⟨a, ea, hrow⟩ := HSPr.out.sl.some path.length hpm
          subst ea
          have HRW := Lib.hid hrow
          obtain ⟨Ab2, cb2, hblk2, hob2⟩ := hsr
          have HQ := Lib.hid hblk2
          have hk9 : k < 9 := by omega
          have hk1 : IntKind.i64.wrap ((k : Int) + 1) = (k : Int) + 1 := IntWalk.i64_in _ (by omega)
          clear hg hblk2 hob2 hrow hst2
          by_cases hkn' : k < n
          · have hkn : decide ((k : Int) < (n : Int)) = true := decide_eq_true (by omega)
            have hLk := HLR.out k hkn'
            have hrt := rdI_take (l := L) hkn'
            cases hb : decide (rdI L k < p)
            · have hfit : fitS (L.take n) k p = true := by
                rw [fitS_old (by have := HLT.out; omega), hrt]
                exact decide_eq_true (by have := of_decide_eq_false hb; omega)
              have hlep : p ≤ rdI L k := by have := of_decide_eq_false hb; omega
              go_wp2
              refine region_below (wr.heap.size) (by kernel_rfl) (by kernel_rfl) ?_
              refine below_run (by kernel_rfl) (.int .i64 k) (fun w' hw' => by kernel_rfl) ?_
              refine below_run (by kernel_rfl) (.int .i64 n) (fun w' hw' => by kernel_rfl) ?_
              refine below_run (by kernel_rfl) (.bool true) (fun w' hw' => Eq.trans (show (execOp _ _).run _ w' = .ok (.value (.bool (decide ((k : Int) < (n : Int))))) w' by kernel_rfl) (by rw [hkn])) ?_
              refine below_run (by kernel_rfl) (.bool true) (fun w' hw' => by kernel_rfl) ?_
              refine below_run (by kernel_rfl) (.int .i64 k) (fun w' hw' => by kernel_rfl) ?_
              refine below_run (by kernel_rfl) (.pointer (some (Addr.add ⟨w.heap.size, 0, none⟩ (k * 1)))) (fun w' hw' => exec_indexA 85 (.tmp 6) (.tmp 58) rfl ⟨w.heap.size, 0, none⟩ (by kernel_rfl) .i64 k (by kernel_rfl) 9 hk9 2 Tryd.underlying85 1 szI64) ?_
              refine below_run (by kernel_rfl) (.int .i64 (rdI L k)) (fun w' hw' => exec_load1 2 (.tmp 59) rfl (Addr.add ⟨w.heap.size, 0, none⟩ (k * 1)) (by kernel_rfl) (.int .i64 (rdI L k)) (by rw [Nat.mul_one]; exact ((HBX.out.next hw').row).atI64 k (by omega)) _ Tryd.underlying2 rfl) ?_
              refine below_run (by kernel_rfl) (.pointer (some ⟨bq, 0, none⟩)) (fun w' hw' => by kernel_rfl) ?_
              refine below_run (by kernel_rfl) (.pointer (some ⟨bq, 0, none⟩)) (fun w' hw' => by kernel_rfl) ?_
              refine below_run (by kernel_rfl) (.pointer (some ⟨bq, 0, none⟩)) (fun w' hw' => by kernel_rfl) ?_
              refine below_run (by kernel_rfl) (.slice (some a) ps.length cp) (fun w' hw' => exec_load1 31 (.tmp 63) rfl ⟨bq, 0, none⟩ (by kernel_rfl) (.slice (some a) ps.length cp) ((HQ.out.next hw').cell 0 (.slice (some a) ps.length cp) rfl) _ Tryd.underlying31 rfl) ?_
              refine below_run (by kernel_rfl) (.int .i64 path.length) (fun w' hw' => by kernel_rfl) ?_
              refine below_run (by kernel_rfl) (.pointer (some (Addr.add a (path.length * 1)))) (fun w' hw' => exec_index 31 (.tmp 64) (.tmp 65) rfl a ps.length cp (by kernel_rfl) .i64 path.length (by kernel_rfl) hpm 2 Tryd.underlying31 1 szI64) ?_
              refine below_run (by kernel_rfl) (.int .i64 p) (fun w' hw' => exec_load1 2 (.tmp 66) rfl (a.add (path.length * 1)) (by kernel_rfl) (.int .i64 p) (by rw [Nat.mul_one, ← hpe]; exact (HRW.out.next hw').atI64 path.length hpm) _ Tryd.underlying2 rfl) ?_
              refine below_run (by kernel_rfl) (.bool false) (fun w' hw' => Eq.trans (show (execOp _ _).run _ w' = .ok (.value (.bool (decide (rdI L k < p)))) w' by kernel_rfl) (by rw [hb])) ?_
              refine below_run (by kernel_rfl) (.bool false) (fun w' hw' => by kernel_rfl) ?_
              refine wpQuiet_nil ?_
              intro W3 hW3
              simp only [Act.put, List.setIfInBounds_toArray, List.set_cons_succ, List.set_cons_zero]
              clear hb hkn
              have HBX3 := Lib.hid (HBX.out.next hW3)
              have HQ3 := Lib.hid (HQ.out.next hW3)
              have HSP3 := Lib.hid (HSPr.out.next hW3)
              have HPT3 := Lib.hid (HPTr.out.next hW3)
              have HSR3 := Lib.hid (HSR2.out.below hW3)
              have hG3 := grownBy_trans HG.out (grown_below (r := some bq) hW3)
              have hz3 := hW3.size
              have hkb := HBX3.out
              clear hW3
              have hWX := below_one W3 (.cells (L.map i64).toArray 85)
              have hkx := Blk.new W3 85 (L.map i64)
              go_wp2_with (first
                | (refine wpList_load_row rfl 85 (.tmp 6) rfl _ rfl 85 (L.map i64).toArray _ _ hkb Tryd.underlying85 rfl hsz9 ?_)
                | (refine wpList_store_new rfl 85 _ _ rfl (L.map i64).toArray rfl rfl 85 _ hsz9 HSX.out (one_row _) ?_))
              generalize W3.alloc (.cells (L.map i64).toArray 85) = WX at hWX hkx ⊢
              have cn := blk_cell9 hkx (k := k) (by omega)
              have fn := hkx.free k
              have cq := (HQ3.out.next hWX).cell 0 (.slice (some a) ps.length cp) rfl
              have cpp : WX.cell? (a.add path.length) = some (.int .i64 p) := by rw [← hpe]; exact rowI_cell (HSP3.out.next hWX).sl path.length hpm
              have hk9i : (k : Int) < 9 := by omega
              have hsub : IntKind.i64.wrap (rdI L k - p) = rdI L k - p := IntWalk.i64_in _ (by omega)
              have hmx : max (n : Int) ((k : Int) + 1) = ((n : Nat) : Int) := by omega
              have hput : putS wd (L.take n) k p = (L.set k (rdI L k - p)).take n := by rw [putS_old (by have := HLT.out; omega), hrt, List.take_set]
              have hlr2 : ∀ i, i < n → 0 ≤ rdI (L.set k (rdI L k - p)) i ∧ rdI (L.set k (rdI L k - p)) i ≤ wd := fun i hi => by
                by_cases e : k = i
                · subst e; rw [rdI_set _ (by omega)]; omega
                · rw [rdI_set_ne _ e]; exact HLR.out i hi
              go_region
              have HNX5 := Lib.hid (show Blk (WX.setCell ⟨W3.heap.size, k, none⟩ (.int .i64 (rdI L k - p))).drew W3.heap.size 85 ((L.set k (rdI L k - p)).map i64) from blk_set9 hkx)
              have hb5 : Below W3.heap.size W3 (WX.setCell ⟨W3.heap.size, k, none⟩ (.int .i64 (rdI L k - p))).drew := ((hWX.setCell (Nat.le_refl _) _).drew)
              generalize (WX.setCell ⟨W3.heap.size, k, none⟩ (.int .i64 (rdI L k - p))).drew = W5 at HNX5 hb5 ⊢
              have hsz5 := hb5.size
              have HSP5 := Lib.hid (HSP3.out.next hb5)
              have HPT5 := Lib.hid (HPT3.out.next hb5)
              have HSR5 := Lib.hid (HSR3.out.below hb5)
              have hG5 := grownBy_trans hG3 (grown_below (r := some bq) hb5)
              clear hb5
              go_simp
              apply_assumption
              refine heldS_begin (S := fun w' => W5.grownBy w' (some bq)) (by kernel_rfl) ?_
              have hS : W5.grownBy W5.drew (some bq) := grown_below (below_drewN (Below.refl _ _) 1)
              refine heldS_take 0 (.pointer (some ⟨bq, 0, none⟩)) rfl (by kernel_rfl) (by kernel_rfl) (by kernel_rfl) (fun _ _ _ h => h) (by kernel_rfl) (fun w' hw' => by kernel_rfl) hS ?_
              refine heldS_take 2 (.slice (some As) path.length cs) rfl (by kernel_rfl) (by kernel_rfl) (by kernel_rfl) (fun _ _ _ h => h) (by kernel_rfl) (fun w' hw' => by kernel_rfl) hS ?_
              refine heldS_take 4 (.int .i64 k) rfl (by kernel_rfl) (by kernel_rfl) (by kernel_rfl) (fun _ _ _ h => h) (by kernel_rfl) (fun w' hw' => by kernel_rfl) hS ?_
              refine heldS_take 7 (.agg ((L.set k (rdI L k - p)).map i64).toArray) rfl (by kernel_rfl) (by kernel_rfl) (by kernel_rfl) (fun _ _ _ h => h) (by kernel_rfl) (fun w' hw' => exec_load_row 85 (.tmp 10) rfl (W3.heap.size) (by kernel_rfl) 85 ((L.set k (rdI L k - p)).map i64).toArray _ _ (HNX5.out.grown hw' (by intro e; injection e with e; omega)) Tryd.underlying85 rfl ((by rw [List.size_toArray, List.length_map, List.length_set, hL]; exact sz9))) hS ?_
              refine heldS_take 8 (.int .i64 n) rfl (by kernel_rfl) (by kernel_rfl) (by kernel_rfl) (fun _ _ _ h => h) (by kernel_rfl) (fun w' hw' => by kernel_rfl) hS ?_
              refine heldS_take 9 (.int .i64 k) rfl (by kernel_rfl) (by kernel_rfl) (by kernel_rfl) (fun _ _ _ h => h) (by kernel_rfl) (fun w' hw' => by kernel_rfl) hS ?_
              refine heldS_take 10 (.int .i64 ((k : Int) + 1)) rfl (by kernel_rfl) (by kernel_rfl) (by kernel_rfl) (fun _ _ _ h => h) (by kernel_rfl) (fun w' hw' => Eq.trans (show (execOp _ _).run _ w' = .ok (.value (.int .i64 (IntKind.i64.wrap ((k : Int) + 1)))) w' by kernel_rfl) (by rw [hk1])) hS ?_
              refine heldS_path (T := fun w' => Below W5.heap.size W5 w') (B := W5.heap.size) 1 3 5 6 rfl rfl rfl rfl (by decide) (by decide) (by kernel_rfl) (by kernel_rfl) (by kernel_rfl) (by kernel_rfl) (by kernel_rfl) (by kernel_rfl) rfl rfl rfl rfl (.tmp 93) (.tmp 94) (.tmp 95) (.tmp 97) 31 rfl rfl elI (.int .i64 k) rfl (fun w' => by kernel_rfl) (fun p w' => by kernel_rfl) (fun w' => by kernel_rfl) (fun p w' => by kernel_rfl) (fun p q w' => by kernel_rfl) As path.length cs (path.map i64) (by simp) (fun w' hw' => sl_news (HPT5.out.next hw')) (i64_one _) (fun p => by kernel_rfl) (fun p => by kernel_rfl) (fun p r => by kernel_rfl) (fun p r => by kernel_rfl) (fun p q r => by kernel_rfl) (fun p q r => by kernel_rfl) (fun p r => by kernel_rfl) (fun p q r => by kernel_rfl) (by unfold maxLen; omega) (by omega) (fun w' h => grown_below h) (fun w' h => h.size) (fun w' o h => h.alloc h.size o) (fun w1 w2 v n xs h ho hg => below_own h ho hg (Nat.le_refl _) h.size) (below_drewN (Below.refl _ _) 1) ?_
              intro q1 q3 q5 v6 w6 hT own6
              obtain ⟨g6, c6, cs6, rfl, hg6, hb6, hl6⟩ := own_blk own6 (by omega)
              have hS : W5.grownBy w6 (some bq) := grown_below hT
              refine heldS_call 11 93 #[.int .i64 n, .int .i64 ((k : Int) + 1)] rfl (by kernel_rfl) (by kernel_rfl) (by kernel_rfl) ?_
              refine ((maxS_any (n : Int) ((k : Int) + 1) _).mono (fun e w' h => (⟨h.1.trans (by rw [hmx]), h.2⟩ : e = .returned (.int .i64 ((n : Nat) : Int)) ∧ _))).mono ?_
              rintro e w1 ⟨rfl, rfl⟩
              refine ⟨_, rfl, hS, ?_⟩
              have hpt6 : SlE i64 w6 (some ⟨g6, 0, none⟩) (path ++ [(k : Int)]) := SlE.of_row (by
                have : (path.map i64 ++ [Value.int .i64 (k : Int)]) = (path ++ [(k : Int)]).map i64 := by simp [i64]
                rw [this] at hb6
                exact hb6.head)
              have hcall := HIH.out (pre ++ [p]) (L.set k (rdI L k - p)) (n) (path ++ [(k : Int)]) ⟨g6, 0, none⟩ c6 st2 w6 (by rw [HPR.out]; simp) (by rw [List.length_set]; exact hL) (by simp; have := HPL.out; omega) (by simp; exact HPL.out) hlr2 (HSR5.out.below hT) (by have := hT.size; omega) (HSP5.out.next hT) hpt6 (by show g6 ≠ bq; omega) (by show g6 < w6.heap.size; exact hb6.lt)
              rw [List.length_append, List.length_singleton] at hcall
              refine heldS_call 12 56 #[.pointer (some ⟨bq, 0, none⟩), .slice (some ⟨g6, 0, none⟩) (path.length + 1) c6, .agg ((L.set k (rdI L k - p)).map i64).toArray, .int .i64 ((n : Nat) : Int)] rfl (by kernel_rfl) (by kernel_rfl) (by kernel_rfl) ?_
              refine hcall.mono ?_
              rintro e w7 ⟨⟨v7, rfl⟩, hg7, hsr7⟩
              refine ⟨_, rfl, grownBy_trans hS hg7, ?_⟩
              refine held_done (by kernel_rfl) ?_
              simp only [Act.put, List.setIfInBounds_toArray, List.set_cons_succ, List.set_cons_zero]
              have hG7 := grownBy_trans hG5 (grownBy_trans hS hg7)
              have HSR7 := Lib.hid (show SrAt w7 bq lo (some a) ps.length cp wd ((lvk wd p rest (L.take n) path (k + 1)).foldl stp st) by
                rw [lvk_yes hfit, List.foldl_append, ← HST.out, hput]
                exact hsr7)
              clear hsr7 hg7 hS hT own6 hb6 hpt6 hcall hput hfit hmx hk1
              go_wp2
              go_roundw
              case rel => exact ⟨k + 1, by omega, by go_num, hG7, HSR7.out⟩
              case measure => simp [intOf]; omega
            · have hfit : fitS (L.take n) k p = false := by
                rw [fitS_old (by have := HLT.out; omega), hrt]
                exact decide_eq_false (by have := of_decide_eq_true hb; omega)
              have HSRn := Lib.hid (show ∀ w', Below wr.heap.size wr w' → SrAt w' bq lo (some a) ps.length cp wd ((lvk wd p rest (L.take n) path (k + 1)).foldl stp st) from fun w' h => by
                rw [lvk_no hfit, ← HST.out]
                exact HSR2.out.below h)
              go_wp2
              refine region_below (wr.heap.size) (by kernel_rfl) (by kernel_rfl) ?_
              refine below_run (by kernel_rfl) (.int .i64 k) (fun w' hw' => by kernel_rfl) ?_
              refine below_run (by kernel_rfl) (.int .i64 n) (fun w' hw' => by kernel_rfl) ?_
              refine below_run (by kernel_rfl) (.bool true) (fun w' hw' => Eq.trans (show (execOp _ _).run _ w' = .ok (.value (.bool (decide ((k : Int) < (n : Int))))) w' by kernel_rfl) (by rw [hkn])) ?_
              refine below_run (by kernel_rfl) (.bool true) (fun w' hw' => by kernel_rfl) ?_
              refine below_run (by kernel_rfl) (.int .i64 k) (fun w' hw' => by kernel_rfl) ?_
              refine below_run (by kernel_rfl) (.pointer (some (Addr.add ⟨w.heap.size, 0, none⟩ (k * 1)))) (fun w' hw' => exec_indexA 85 (.tmp 6) (.tmp 58) rfl ⟨w.heap.size, 0, none⟩ (by kernel_rfl) .i64 k (by kernel_rfl) 9 hk9 2 Tryd.underlying85 1 szI64) ?_
              refine below_run (by kernel_rfl) (.int .i64 (rdI L k)) (fun w' hw' => exec_load1 2 (.tmp 59) rfl (Addr.add ⟨w.heap.size, 0, none⟩ (k * 1)) (by kernel_rfl) (.int .i64 (rdI L k)) (by rw [Nat.mul_one]; exact ((HBX.out.next hw').row).atI64 k (by omega)) _ Tryd.underlying2 rfl) ?_
              refine below_run (by kernel_rfl) (.pointer (some ⟨bq, 0, none⟩)) (fun w' hw' => by kernel_rfl) ?_
              refine below_run (by kernel_rfl) (.pointer (some ⟨bq, 0, none⟩)) (fun w' hw' => by kernel_rfl) ?_
              refine below_run (by kernel_rfl) (.pointer (some ⟨bq, 0, none⟩)) (fun w' hw' => by kernel_rfl) ?_
              refine below_run (by kernel_rfl) (.slice (some a) ps.length cp) (fun w' hw' => exec_load1 31 (.tmp 63) rfl ⟨bq, 0, none⟩ (by kernel_rfl) (.slice (some a) ps.length cp) ((HQ.out.next hw').cell 0 (.slice (some a) ps.length cp) rfl) _ Tryd.underlying31 rfl) ?_
              refine below_run (by kernel_rfl) (.int .i64 path.length) (fun w' hw' => by kernel_rfl) ?_
              refine below_run (by kernel_rfl) (.pointer (some (Addr.add a (path.length * 1)))) (fun w' hw' => exec_index 31 (.tmp 64) (.tmp 65) rfl a ps.length cp (by kernel_rfl) .i64 path.length (by kernel_rfl) hpm 2 Tryd.underlying31 1 szI64) ?_
              refine below_run (by kernel_rfl) (.int .i64 p) (fun w' hw' => exec_load1 2 (.tmp 66) rfl (a.add (path.length * 1)) (by kernel_rfl) (.int .i64 p) (by rw [Nat.mul_one, ← hpe]; exact (HRW.out.next hw').atI64 path.length hpm) _ Tryd.underlying2 rfl) ?_
              refine below_run (by kernel_rfl) (.bool true) (fun w' hw' => Eq.trans (show (execOp _ _).run _ w' = .ok (.value (.bool (decide (rdI L k < p)))) w' by kernel_rfl) (by rw [hb])) ?_
              refine below_run (by kernel_rfl) (.bool true) (fun w' hw' => by kernel_rfl) ?_
              refine wpQuiet_nil ?_
              intro W3 hW3
              simp only [Act.put, List.setIfInBounds_toArray, List.set_cons_succ, List.set_cons_zero]
              clear hb hkn
              go_wp2
              go_roundw
              case rel => exact ⟨k + 1, by omega, by go_num, grownBy_trans HG.out (grown_below hW3), HSRn.out _ hW3⟩
              case measure => simp [intOf]; omega
          · obtain rfl : k = n := by omega
            have hkn : decide ((k : Int) < (k : Int)) = false := decide_eq_false (by omega)
            go_wp2
            refine region_below (wr.heap.size) (by kernel_rfl) (by kernel_rfl) ?_
            refine below_run (by kernel_rfl) (.int .i64 k) (fun w' hw' => by kernel_rfl) ?_
            refine below_run (by kernel_rfl) (.int .i64 k) (fun w' hw' => by kernel_rfl) ?_
            refine below_run (by kernel_rfl) (.bool false) (fun w' hw' => Eq.trans (show (execOp _ _).run _ w' = .ok (.value (.bool (decide ((k : Int) < (k : Int))))) w' by kernel_rfl) (by rw [hkn])) ?_
            refine below_run (by kernel_rfl) (.bool false) (fun w' hw' => by kernel_rfl) ?_
            refine BigFrame.wpQuiet_skip (by kernel_rfl) ?_
            refine BigFrame.wpQuiet_skip (by kernel_rfl) ?_
            refine BigFrame.wpQuiet_skip (by kernel_rfl) ?_
            refine BigFrame.wpQuiet_skip (by kernel_rfl) ?_
            refine BigFrame.wpQuiet_skip (by kernel_rfl) ?_
            refine BigFrame.wpQuiet_skip (by kernel_rfl) ?_
            refine BigFrame.wpQuiet_skip (by kernel_rfl) ?_
            refine BigFrame.wpQuiet_skip (by kernel_rfl) ?_
            refine BigFrame.wpQuiet_skip (by kernel_rfl) ?_
            refine BigFrame.wpQuiet_skip (by kernel_rfl) ?_
            refine BigFrame.wpQuiet_skip (by kernel_rfl) ?_
            refine below_run (by kernel_rfl) (.bool false) (fun w' hw' => by kernel_rfl) ?_
            refine wpQuiet_nil ?_
            intro W3 hW3
            simp only [Act.put, List.setIfInBounds_toArray, List.set_cons_succ, List.set_cons_zero]
            clear hkn
            have HBX3 := Lib.hid (HBX.out.next hW3)
            have HQ3 := Lib.hid (HQ.out.next hW3)
            have HSP3 := Lib.hid (HSPr.out.next hW3)
            have HPT3 := Lib.hid (HPTr.out.next hW3)
            have HSR3 := Lib.hid (HSR2.out.below hW3)
            have hG3 := grownBy_trans HG.out (grown_below (r := some bq) hW3)
            have hz3 := hW3.size
            have hkb := HBX3.out
            clear hW3
            have hfit : fitS (L.take k) k p = true := by
              have := fitS_new (L.take k) p
              rwa [HLT.out] at this
            have hWX := below_one W3 (.cells (L.map i64).toArray 85)
            have hkx0 := Blk.new W3 85 (L.map i64)
            have c1q := (HQ3.out.next hWX).cell 1 (.int .i64 wd) rfl
            have hk9i : (k : Int) < 9 := by omega
            have cn0 := blk_cell9 hkx0 (k := k) (by omega)
            have fn0 := hkx0.free k
            go_wp2_with (first
              | (refine wpList_load_row rfl 85 (.tmp 6) rfl _ rfl 85 (L.map i64).toArray _ _ hkb Tryd.underlying85 rfl hsz9 ?_)
              | (refine wpList_store_new rfl 85 _ _ rfl (L.map i64).toArray rfl rfl 85 _ hsz9 HSX.out (one_row _) ?_))
            have hmap : ((L.map i64).set k (.int .i64 wd)) = (L.set k wd).map i64 := by rw [← show i64 wd = .int .i64 wd from rfl, ← List.map_set]
            rw [hmap]
            have hWX := below_one W3 (.cells ((L.set k wd).map i64).toArray 85)
            have hkx := Blk.new W3 85 ((L.set k wd).map i64)
            generalize W3.alloc (.cells ((L.set k wd).map i64).toArray 85) = WX at hWX hkx ⊢
            have hset : rdI (L.set k wd) k = wd := rdI_set _ (by omega)
            have cn : WX.cell? ⟨W3.heap.size, k, none⟩ = some (.int .i64 wd) := by
              have := blk_cell9 hkx (k := k) (by rw [List.length_set]; omega)
              rwa [hset] at this
            have fn := hkx.free k
            have cq := (HQ3.out.next hWX).cell 0 (.slice (some a) ps.length cp) rfl
            have cpp : WX.cell? (a.add path.length) = some (.int .i64 p) := by rw [← hpe]; exact rowI_cell (HSP3.out.next hWX).sl path.length hpm
            have hsub : IntKind.i64.wrap (wd - p) = wd - p := IntWalk.i64_in _ (by omega)
            have hmx : max (k : Int) ((k : Int) + 1) = ((k + 1 : Nat) : Int) := by omega
            have hL2 : ((L.set k wd).set k (wd - p)) = L.set k (wd - p) := List.set_set ..
            have hput : putS wd (L.take k) k p = ((L.set k wd).set k (wd - p)).take (k + 1) := by
              have e1 : putS wd (L.take k) k p = L.take k ++ [wd - p] := by
                have := putS_new wd (L.take k) p
                rwa [HLT.out] at this
              rw [hL2, e1, List.take_set, List.take_add_one, List.getElem?_eq_getElem (by omega)]
              simp only [Option.toList_some]
              have := set_snoc (L.take k) (L[k]'(by omega)) (wd - p)
              rw [HLT.out] at this
              exact this.symm
            have hlr2 : ∀ i, i < k + 1 → 0 ≤ rdI ((L.set k wd).set k (wd - p)) i ∧ rdI ((L.set k wd).set k (wd - p)) i ≤ wd := fun i hi => by
              rw [hL2]
              by_cases e : k = i
              · subst e; rw [rdI_set _ (by omega)]; omega
              · rw [rdI_set_ne _ e]; exact HLR.out i (by omega)
            clear hmap hset hL2 c1q cn0 fn0 hkx0
            go_region
            have HNX5 := Lib.hid (show Blk (WX.setCell ⟨W3.heap.size, k, none⟩ (.int .i64 (wd - p))).drew W3.heap.size 85 (((L.set k wd).set k (wd - p)).map i64) from blk_set9 hkx)
            have hb5 : Below W3.heap.size W3 (WX.setCell ⟨W3.heap.size, k, none⟩ (.int .i64 (wd - p))).drew := ((hWX.setCell (Nat.le_refl _) _).drew)
            generalize (WX.setCell ⟨W3.heap.size, k, none⟩ (.int .i64 (wd - p))).drew = W5 at HNX5 hb5 ⊢
            have hsz5 := hb5.size
            have HSP5 := Lib.hid (HSP3.out.next hb5)
            have HPT5 := Lib.hid (HPT3.out.next hb5)
            have HSR5 := Lib.hid (HSR3.out.below hb5)
            have hG5 := grownBy_trans hG3 (grown_below (r := some bq) hb5)
            clear hb5
            go_simp
            apply_assumption
            refine heldS_begin (S := fun w' => W5.grownBy w' (some bq)) (by kernel_rfl) ?_
            have hS : W5.grownBy W5.drew (some bq) := grown_below (below_drewN (Below.refl _ _) 1)
            refine heldS_take 0 (.pointer (some ⟨bq, 0, none⟩)) rfl (by kernel_rfl) (by kernel_rfl) (by kernel_rfl) (fun _ _ _ h => h) (by kernel_rfl) (fun w' hw' => by kernel_rfl) hS ?_
            refine heldS_take 2 (.slice (some As) path.length cs) rfl (by kernel_rfl) (by kernel_rfl) (by kernel_rfl) (fun _ _ _ h => h) (by kernel_rfl) (fun w' hw' => by kernel_rfl) hS ?_
            refine heldS_take 4 (.int .i64 k) rfl (by kernel_rfl) (by kernel_rfl) (by kernel_rfl) (fun _ _ _ h => h) (by kernel_rfl) (fun w' hw' => by kernel_rfl) hS ?_
            refine heldS_take 7 (.agg (((L.set k wd).set k (wd - p)).map i64).toArray) rfl (by kernel_rfl) (by kernel_rfl) (by kernel_rfl) (fun _ _ _ h => h) (by kernel_rfl) (fun w' hw' => exec_load_row 85 (.tmp 10) rfl (W3.heap.size) (by kernel_rfl) 85 (((L.set k wd).set k (wd - p)).map i64).toArray _ _ (HNX5.out.grown hw' (by intro e; injection e with e; omega)) Tryd.underlying85 rfl ((by rw [List.size_toArray, List.length_map, List.length_set, List.length_set, hL]; exact sz9))) hS ?_
            refine heldS_take 8 (.int .i64 k) rfl (by kernel_rfl) (by kernel_rfl) (by kernel_rfl) (fun _ _ _ h => h) (by kernel_rfl) (fun w' hw' => by kernel_rfl) hS ?_
            refine heldS_take 9 (.int .i64 k) rfl (by kernel_rfl) (by kernel_rfl) (by kernel_rfl) (fun _ _ _ h => h) (by kernel_rfl) (fun w' hw' => by kernel_rfl) hS ?_
            refine heldS_take 10 (.int .i64 ((k : Int) + 1)) rfl (by kernel_rfl) (by kernel_rfl) (by kernel_rfl) (fun _ _ _ h => h) (by kernel_rfl) (fun w' hw' => Eq.trans (show (execOp _ _).run _ w' = .ok (.value (.int .i64 (IntKind.i64.wrap ((k : Int) + 1)))) w' by kernel_rfl) (by rw [hk1])) hS ?_
            refine heldS_path (T := fun w' => Below W5.heap.size W5 w') (B := W5.heap.size) 1 3 5 6 rfl rfl rfl rfl (by decide) (by decide) (by kernel_rfl) (by kernel_rfl) (by kernel_rfl) (by kernel_rfl) (by kernel_rfl) (by kernel_rfl) rfl rfl rfl rfl (.tmp 93) (.tmp 94) (.tmp 95) (.tmp 97) 31 rfl rfl elI (.int .i64 k) rfl (fun w' => by kernel_rfl) (fun p w' => by kernel_rfl) (fun w' => by kernel_rfl) (fun p w' => by kernel_rfl) (fun p q w' => by kernel_rfl) As path.length cs (path.map i64) (by simp) (fun w' hw' => sl_news (HPT5.out.next hw')) (i64_one _) (fun p => by kernel_rfl) (fun p => by kernel_rfl) (fun p r => by kernel_rfl) (fun p r => by kernel_rfl) (fun p q r => by kernel_rfl) (fun p q r => by kernel_rfl) (fun p r => by kernel_rfl) (fun p q r => by kernel_rfl) (by unfold maxLen; omega) (by omega) (fun w' h => grown_below h) (fun w' h => h.size) (fun w' o h => h.alloc h.size o) (fun w1 w2 v n xs h ho hg => below_own h ho hg (Nat.le_refl _) h.size) (below_drewN (Below.refl _ _) 1) ?_
            intro q1 q3 q5 v6 w6 hT own6
            obtain ⟨g6, c6, cs6, rfl, hg6, hb6, hl6⟩ := own_blk own6 (by omega)
            have hS : W5.grownBy w6 (some bq) := grown_below hT
            refine heldS_call 11 93 #[.int .i64 k, .int .i64 ((k : Int) + 1)] rfl (by kernel_rfl) (by kernel_rfl) (by kernel_rfl) ?_
            refine ((maxS_any (k : Int) ((k : Int) + 1) _).mono (fun e w' h => (⟨h.1.trans (by rw [hmx]), h.2⟩ : e = .returned (.int .i64 ((k + 1 : Nat) : Int)) ∧ _))).mono ?_
            rintro e w1 ⟨rfl, rfl⟩
            refine ⟨_, rfl, hS, ?_⟩
            have hpt6 : SlE i64 w6 (some ⟨g6, 0, none⟩) (path ++ [(k : Int)]) := SlE.of_row (by
              have : (path.map i64 ++ [Value.int .i64 (k : Int)]) = (path ++ [(k : Int)]).map i64 := by simp [i64]
              rw [this] at hb6
              exact hb6.head)
            have hcall := HIH.out (pre ++ [p]) ((L.set k wd).set k (wd - p)) (k + 1) (path ++ [(k : Int)]) ⟨g6, 0, none⟩ c6 st2 w6 (by rw [HPR.out]; simp) (by rw [List.length_set, List.length_set]; exact hL) (by rw [List.length_append, List.length_singleton]; have := HPL.out; omega) (by simp; exact HPL.out) hlr2 (HSR5.out.below hT) (by have := hT.size; omega) (HSP5.out.next hT) hpt6 (by show g6 ≠ bq; omega) (by show g6 < w6.heap.size; exact hb6.lt)
            rw [List.length_append, List.length_singleton] at hcall
            refine heldS_call 12 56 #[.pointer (some ⟨bq, 0, none⟩), .slice (some ⟨g6, 0, none⟩) (path.length + 1) c6, .agg (((L.set k wd).set k (wd - p)).map i64).toArray, .int .i64 ((k + 1 : Nat) : Int)] rfl (by kernel_rfl) (by kernel_rfl) (by kernel_rfl) ?_
            refine hcall.mono ?_
            rintro e w7 ⟨⟨v7, rfl⟩, hg7, hsr7⟩
            refine ⟨_, rfl, grownBy_trans hS hg7, ?_⟩
            refine held_done (by kernel_rfl) ?_
            simp only [Act.put, List.setIfInBounds_toArray, List.set_cons_succ, List.set_cons_zero]
            have hG7 := grownBy_trans hG5 (grownBy_trans hS hg7)
            have HSR7 := Lib.hid (show SrAt w7 bq lo (some a) ps.length cp wd ((lvk wd p rest (L.take k) path (k + 1)).foldl stp st) by
              rw [lvk_yes hfit, List.foldl_append, ← HST.out, hput]
              exact hsr7)
            clear hsr7 hg7 hS hT own6 hb6 hpt6 hcall hput hfit hmx hk1
            go_wp2
            go_roundw
            case rel => exact ⟨k + 1, by omega, by go_num, hG7, HSR7.out⟩
            case measure => simp [intOf]
        · obtain rfl : k = n + 1 := by omega
          have HFIN := Lib.hid (show lvs wd (p :: rest) (L.take n) path = lvk wd p rest (L.take n) path (n + 1) by rw [lvs_cons, HLT.out])
          have HG := Lib.hid hg
          have HSR2 := Lib.hid hsr
          clear hg hsr
          go_wp2
          (try simp only [Exit.inBlock, Exit.then]); refine bodyPost_end (results_none rfl _ _ _) rfl ?_
          exact ⟨⟨_, rfl⟩, grownBy_trans HGB.out HG.out, by rw [HFIN.out]; exact HSR2.out⟩
theorem from_spec (ps : List Int) (hps : ps.length ≤ 9) (Ap : Option Addr) (cp : Nat) (wd : Int) (hw : 1 ≤ wd ∧ wd ≤ 400) (hp : ∀ k, k < ps.length → 1 ≤ rdI ps k ∧ rdI ps k ≤ wd) (bq lo s1 s2 : Nat) (hbq : bq < lo) (hsb : bq < s1 ∨ s2 ≤ bq) : ∀ rest, FrSpec ps Ap cp wd bq lo s1 s2 rest
  | [] => from_nil ps hps Ap cp wd bq lo s1 s2 hbq
  | p :: rest => from_cons ps hps Ap cp wd hw hp bq lo s1 s2 hbq hsb p rest (from_spec ps hps Ap cp wd hw hp bq lo s1 s2 hbq hsb rest)
end Go.Proofs.YtonnplaacebekaaDoor
