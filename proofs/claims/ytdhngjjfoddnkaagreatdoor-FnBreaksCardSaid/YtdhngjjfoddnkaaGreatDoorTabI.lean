/- Contracts: how the words are broken best, by the program. -/
import Derived.Test.YtdhngjjfoddnkaaGreatDoorTabB
import Derived.Test.YtdhngjjfoddnkaaGreatDoorHeldC
import Derived.Test.YtdhngjjfoddnkaaGreatDoorGK
import Derived.BigRegion


namespace Go.Proofs.YtdhngjjfoddnkaaGreatDoor
open Go Go.RowKit
set_option linter.unusedVariables false
set_option linter.unusedSimpArgs false

theorem infoTg : (Tryz.prog.info? 65).map (fun i => (i.zero, i.size, i.bytes)) = some (some (.agg #[.int .i64 0, .slice none 0 0, .int .i64 0]), 3, 40) := by kernel_rfl
theorem szTg : (Tryz.prog.info? 65).map (·.size) = some 3 := by kernel_rfl
theorem tabI_low {f : Fc} {ws : List (List UInt8)} {m : Int} : ∀ k, k ≤ ws.length → ∀ i, i < ws.length - k → tabI f ws m k i = z0 := by
  intro k
  induction k with
  | zero => intro _ i _; rfl
  | succ k ih =>
    intro hk i hi
    rw [tabI, upd_other (by omega)]
    exact ih (by omega) i (by omega)
structure TgBd (t : Tl) : Prop where
  u0 : 0 ≤ t.u
  u1 : t.u ≤ 960000000
  c0 : 0 ≤ t.c
  c1 : t.c ≤ 1152921504606846977
  len : t.b.length ≤ 60
theorem part2_bd {N fr j : Nat} {b : Bool} {s t : Tl} (h : Part2 N fr j b s t) (hN : N ≤ 60) : TgBd t := by
  obtain ⟨hp, hc⟩ := h
  have hb := partS_bd hp hN
  have b1 := hb.u1
  have b2 := hb.c0
  have b3 := hb.c1
  have b4 := hb.len
  cases b
  · rw [if_neg (by decide)] at hc
    rcases hc with ⟨_, rfl⟩ | ⟨h0, rfl⟩
    · exact ⟨by decide, by decide, by decide, by decide, by decide⟩
    · exact ⟨h0, b1, b2, by omega, b4⟩
  · rw [if_pos rfl] at hc
    subst hc
    exact ⟨Int.le_refl 0, by show (0 : Int) ≤ _; omega, by show 0 ≤ 1 + s.c; omega, by show 1 + s.c ≤ _; omega, Nat.zero_le _⟩
theorem fin2_bdI {N i : Nat} {s t : Tl} (h : Fin2 N i s t) (hN : N ≤ 60) : TgBd t := by
  rcases h with ⟨_, rfl⟩ | ⟨h1, h2, h3, h4, h5, rfl⟩
  · exact ⟨by decide, by decide, by decide, by decide, by decide⟩
  · have := fin2_bd (s := t) (t := t) (.inr ⟨h1, h2, h3, h4, h5, rfl⟩) hN
    exact ⟨h1, this.u1, this.c0, by have := this.c1; omega, this.len⟩
/-- What lies in memory: the setter, the result, the table. -/
structure SgRel (f : Fc) (S : Value) (g0 : Nat) (ws : List (List UInt8)) (m : Int) (T : Nat → Tl) (w wr : World) : Prop where
  set : Blk wr w.heap.size 55 (stV f S (wS g0 ws) m)
  res : Blk wr (w.heap.size + 1) 65 [.int .i64 0, .slice none 0 0, .int .i64 0]
  tab : TabAt wr w.heap.size 65 (w.heap.size + 2) ws.length T
  below : Below w.heap.size w wr
theorem SgRel.next {f : Fc} {S : Value} {g0 : Nat} {ws : List (List UInt8)} {m : Int} {T : Nat → Tl} {w wr w' : World} (h : SgRel f S g0 ws m T w wr) (hb : Below wr.heap.size wr w') : SgRel f S g0 ws m T w w' :=
  ⟨h.set.next hb, h.res.next hb, h.tab.next hb, below_step h.below hb⟩
theorem ent_row {w : World} {g : Nat} {ty : TypeId} {vs : List Value} {i : Nat} {t : Tl} {A : Option Addr} {c : Nat} (hb : Blk w g ty vs) (h0 : vs[i * 3]? = some (.int .i64 t.u)) (h1 : vs[i * 3 + 1]? = some (.slice A t.b.length c)) (h2 : vs[i * 3 + 2]? = some (.int .i64 t.c)) :
    RowV w ((⟨g, 0, none⟩ : Addr).add (i * 3)) (tlV t A c) := by
  intro j v hv
  rw [add_mid, add_mid, Nat.zero_add]
  match j, hv with
  | 0, hv => cases hv; exact hb.cell _ _ h0
  | 1, hv => cases hv; exact hb.cell _ _ h1
  | 2, hv => cases hv; exact hb.cell _ _ h2
  | j + 3, hv => simp [tlV] at hv
/-- What is handed back. -/
def SgOut (f : Fc) (ws : List (List UInt8)) (m : Int) (w : World) (e : Ending) (w' : World) : Prop :=
  ∃ (t : Tl) (A : Option Addr) (c : Nat), e = .returned (.agg (tlV t A c).toArray) ∧ BrkAt w' w.heap.size t A c ∧ Below w.heap.size w w' ∧ (ws.length = 0 → t = ⟨0, [], 1⟩) ∧ (0 < ws.length → t = tabI f ws m ws.length 0)

theorem SgRel.drew {f : Fc} {S : Value} {g0 : Nat} {ws : List (List UInt8)} {m : Int} {T : Nat → Tl} {w wr : World} (h : SgRel f S g0 ws m T w wr) : SgRel f S g0 ws m T w wr.drew := ⟨h.set, h.res, h.tab, below_drewN h.below 1⟩
theorem EntAt.setU {w : World} {lo : Nat} {vs : List Value} {i : Nat} {t : Tl} (h : EntAt w lo vs i t) (hl : i * 3 + 3 ≤ vs.length) (u : Int) : EntAt w lo (vs.set (i * 3) (.int .i64 u)) i ⟨u, t.b, t.c⟩ := by
  obtain ⟨A, c, h1, h2, h3, h4⟩ := h
  exact ⟨A, c, by rw [List.getElem?_set_self (by omega)], by rw [List.getElem?_set_ne (by omega)]; exact h2, by rw [List.getElem?_set_ne (by omega)]; exact h3, h4⟩
theorem EntAt.setC {w : World} {lo : Nat} {vs : List Value} {i : Nat} {t : Tl} (h : EntAt w lo vs i t) (hl : i * 3 + 3 ≤ vs.length) (n : Int) : EntAt w lo (vs.set (i * 3 + 2) (.int .i64 n)) i ⟨t.u, t.b, n⟩ := by
  obtain ⟨A, c, h1, h2, h3, h4⟩ := h
  exact ⟨A, c, by rw [List.getElem?_set_ne (by omega)]; exact h1, by rw [List.getElem?_set_ne (by omega)]; exact h2, by rw [List.getElem?_set_self (by omega)], h4⟩
theorem EntAt.setB {w : World} {lo : Nat} {vs : List Value} {i : Nat} {t : Tl} (h : EntAt w lo vs i t) (hl : i * 3 + 3 ≤ vs.length) (b : List Int) (A : Option Addr) (c : Nat) (hb : BrkAt w lo ⟨t.u, b, t.c⟩ A c) : EntAt w lo (vs.set (i * 3 + 1) (.slice A b.length c)) i ⟨t.u, b, t.c⟩ := by
  obtain ⟨A', c', h1, h2, h3, h4⟩ := h
  exact ⟨A, c, by rw [List.getElem?_set_ne (by omega)]; exact h1, by rw [List.getElem?_set_self (by omega)], by rw [List.getElem?_set_ne (by omega)]; exact h3, hb⟩
theorem SgRel.set1 {f : Fc} {S : Value} {g0 : Nat} {ws : List (List UInt8)} {m : Int} {T : Nat → Tl} {w wr w' : World} {vs : List Value} {i p : Nat} {t : Tl} {v : Value} (h : SgRel f S g0 ws m T w wr) (hvs : Blk wr (w.heap.size + 2) 65 vs) (hvl : 3 * (ws.length + 1) ≤ vs.length)
    (hent : ∀ i, i ≤ ws.length → EntAt wr w.heap.size vs i (T i)) (hi : i ≤ ws.length) (h1 : i * 3 ≤ p) (h2 : p < i * 3 + 3) (hs : Stored (w.heap.size + 2) 65 (vs.set p v) wr w') (he : KeepI wr w' → EntAt w' w.heap.size (vs.set p v) i t) : SgRel f S g0 ws m (upd T i t) w w' :=
  ⟨hs.other _ _ _ (by omega) h.set, hs.other _ _ _ (by omega) h.res, TabAt.set hvs hvl hent hi (by decide) h1 h2 hs he, hs.below _ _ h.below (by omega)⟩

attribute [local irreducible] wpAnyH in
set_option maxHeartbeats 30000000 in
set_option maxRecDepth 100000 in
theorem settings_impl (f : Fc) (A : Option Addr) (n c g0 : Nat) (ws : List (List UInt8)) (m : Int) (w : World) (hf : FcT f) (hV : FcV f) (hn : f.pairs.length = n) (hm : n ≤ 1048576) (hs : SlP w A f.pairs) (hw : Ws ws) (hl : ∀ a b, (joinW (cutW ws a b)).length ≤ 60)
    (hmr : 0 ≤ m ∧ m ≤ 4000) (h : Blk w g0 9 (wsV ws)) :
    Calls Tryz.prog 34 #[.agg (stV f (.slice A n c) (wS g0 ws) m).toArray] w (SgOut f ws m w) := by
  have hcnt := hw.many
  have HF := Lib.hid hf
  have HVV := Lib.hid hV
  have HN := Lib.hid hn
  have HS := Lib.hid hs
  have HW := Lib.hid hw
  have HL := Lib.hid hl
  have HG := Lib.hid h
  have hb2 := below_two w (.cells (stV f (.slice A n c) (wS g0 ws) m).toArray 55) (.cells #[.int .i64 0, .slice none 0 0, .int .i64 0] 65)
  have hset := (Blk.new w 55 (stV f (.slice A n c) (wS g0 ws) m)).alloc (.cells #[.int .i64 0, .slice none 0 0, .int .i64 0] 65)
  have hres : Blk ((w.alloc (.cells (stV f (.slice A n c) (wS g0 ws) m).toArray 55)).alloc (.cells #[.int .i64 0, .slice none 0 0, .int .i64 0] 65)) (w.heap.size + 1) 65 [.int .i64 0, .slice none 0 0, .int .i64 0] := Blk.at_new _ _ _ (by simp) _ _ rfl
  have c29 := hset.cell 29 (.slice (some ⟨g0, 0, none⟩) ws.length ws.length) (stV_words hf _ _ _)
  have hz2 : ((w.alloc (.cells (stV f (.slice A n c) (wS g0 ws) m).toArray 55)).alloc (.cells #[.int .i64 0, .slice none 0 0, .int .i64 0] 65)).heap.size = w.heap.size + 2 := by simp
  have HZ := Lib.hid (show (Tryz.prog.info? 55).map (·.size) = some (stV f (.slice A n c) (wS g0 ws) m).toArray.size by rw [List.size_toArray, stV_length hf]; exact szStI)
  clear hf hV hn hs hw hl h
  obtain ⟨i, hi, hz, hsz, hby⟩ := info_parts infoTg
  by_cases h0 : ws.length = 0
  · have h0' : ((ws.length : Int) == 0) = true := by rw [h0]; rfl
    have H0 := Lib.hid h0
    clear h0
    go_enter Tryz.func34, Tryz.ntmps34
    go_wp2_with (
      refine wpList_make_full _ rfl (.tmp 14) (.tmp 14) _ rfl w.heap.size 65 i (.agg #[.int .i64 0, .slice none 0 0, .int .i64 0]) 3 Tryz.underlying96 hi hz hsz .i64 .i64 ((ws.length + 1 : Nat) : Int) ((ws.length + 1 : Nat) : Int) (ws.length + 1) (by go_num) (by go_num) rfl rfl (by rw [hby]; omega) (by unfold maxLen; omega) (by simp; omega) ?_
      intro w1 ho hg
      rw [hz2]
      have hb3 : Below ((w.alloc (.cells (stV f (.slice A n c) (wS g0 ws) m).toArray 55)).alloc (.cells #[.int .i64 0, .slice none 0 0, .int .i64 0] 65)).heap.size _ w1 := ⟨hg.os, hg.tape, hg.output, hg.size, fun k hk => hg.block k hk (by simp)⟩
      have hres1 := hres.next hb3
      have hbel1 := below_step hb2 hb3
      have r0 := hres1.cell 0 _ rfl
      have r1 := hres1.cell 1 _ rfl
      have r2 := hres1.cell 2 _ rfl
      have f0 := hres1.free 0
      have f1 := hres1.free 1
      have f2 := hres1.free 2
      clear ho hg hb3 hb2 hset hres c29
      go_wp2
      have hst := stored3 hres1 rfl (.int .i64 0) (.slice none 0 0) (.int .i64 1)
      exact bodyPost_ret (v := .agg (tlV ⟨0, [], 1⟩ none 0).toArray) (results_cell_row rfl _ _ _ 65 (tlV ⟨0, [], 1⟩ none 0).toArray _ _ rfl hst.blk Tryz.underlying65 rfl szTg) rfl ⟨⟨0, [], 1⟩, none, 0, rfl, BrkAt.nil _ _ _ _, hst.below _ _ hbel1 (by omega), fun _ => rfl, fun hh => absurd H0.out (by omega)⟩)
  · have h0' : ((ws.length : Int) == 0) = false := by simpa using h0
    go_enter Tryz.func34, Tryz.ntmps34
    go_wp2_with (refine wpList_make_full _ rfl (.tmp 14) (.tmp 14) _ rfl w.heap.size 65 i (.agg #[.int .i64 0, .slice none 0 0, .int .i64 0]) 3 Tryz.underlying96 hi hz hsz .i64 .i64 ((ws.length + 1 : Nat) : Int) ((ws.length + 1 : Nat) : Int) (ws.length + 1) (by go_num) (by go_num) rfl rfl (by rw [hby]; omega) (by unfold maxLen; omega) (by simp; omega) ?_; intro w1 ho hg; rw [hz2]; rw [hz2] at ho)
    obtain ⟨hvl, cs, hb⟩ := ownB ho
    have hb3 : Below ((w.alloc (.cells (stV f (.slice A n c) (wS g0 ws) m).toArray 55)).alloc (.cells #[.int .i64 0, .slice none 0 0, .int .i64 0] 65)).heap.size _ w1 := ⟨hg.os, hg.tape, hg.output, hg.size, fun k hk => hg.block k hk (by simp)⟩
    have hrel0 : SgRel f (.slice A n c) g0 ws m (fun _ => z0) w w1 := ⟨hset.next hb3, hres.next hb3, TabAt.made hb, below_step hb2 hb3⟩
    clear ho hg hvl hb hi hz hsz hby hb3 hb2 hset hres c29 hz2
    go_loopw [5] (fun i wr => ∃ k : Nat, k ≤ ws.length ∧ i = .int .i64 ((ws.length : Int) - 1 - k) ∧ SgRel f (.slice A n c) g0 ws m (tabI f ws m k) w wr) (fun i _ => (intOf i + 1).toNat)
    case atStart => exact ⟨0, by omega, by go_num, hrel0⟩
    clear hrel0
    case round =>
      obtain ⟨k, hk, rfl, h⟩ := hrel
      by_cases hlt : k < ws.length
      · obtain ⟨fr, hfr⟩ : ∃ fr, fr = ws.length - 1 - k := ⟨_, rfl⟩
        have hfi : (ws.length : Int) - 1 - (k : Int) = (fr : Int) := by omega
        rw [hfi]
        have HFR := Lib.hid hfr
        have hfn : fr + 1 + k = ws.length := by omega
        have hrg := lnW_range HVV.out HW.out fr ws.length
        have HT0 := Lib.hid (tabI_low (f := f) (ws := ws) (m := m) k hk fr (by omega))
        clear hfr hfi
        have hst := h.set
        have hH := Lib.hid h
        clear h
        by_cases hE : lf f ws m fr ws.length < 0
        · have HR0 := Lib.hid (show rowI f ws m (tabI f ws m k) fr 0 = z0 by rw [rowI, if_pos hE]; rfl)
          have hE' : ¬ (m - lnW f ws fr ws.length ≥ 0) := by unfold lf at hE; omega
          clear hE
          go_wp2_with (first
            | (refine wpList_load_row rfl 55 (.tmp 1) rfl _ rfl 55 (stV f (.slice A n c) (wS g0 ws) m).toArray _ _ hst Tryz.underlying55 rfl HZ.out ?_)
            | (go_at_call 58; refine (room_impl f A n c g0 fr ws.length ws m _ HF.out HVV.out HN.out hm (HS.out.next hH.out.below) (by omega) (Nat.le_refl _) HW.out (HL.out _ _) (by omega) (HG.out.next hH.out.below)).mono ?_; rintro e w2 ⟨rfl, hb1⟩; have hrelI := hH.out.next hb1; clear hb1 hst))
          have hrelI : SgRel f (.slice A n c) g0 ws m (upd (tabI f ws m k) fr (rowI f ws m (tabI f ws m k) fr 0)) w w2 := by rw [HR0.out, ← HT0.out, upd_self]; exact hrelI
          go_loopw [6] (fun i wi => ∃ j : Nat, j ≤ k ∧ i = .int .i64 ((fr + 1 + j : Nat) : Int) ∧ SgRel f (.slice A n c) g0 ws m (upd (tabI f ws m k) fr (rowI f ws m (tabI f ws m k) fr j)) w wi) (fun i _ => ws.length - (intOf i).toNat)
          case atStart => exact ⟨0, Nat.zero_le _, by go_num, hrelI⟩
          clear hrelI
          case round =>
            obtain ⟨j, hj, rfl, h⟩ := hrel
            obtain ⟨te, hte⟩ : ∃ te, te = fr + 1 + j := ⟨_, rfl⟩
            rw [← hte]
            obtain ⟨cur, hcur⟩ : ∃ cur, cur = rowI f ws m (tabI f ws m k) fr j := ⟨_, rfl⟩
            rw [← hcur] at h
            have HTE := Lib.hid hte
            have HC := Lib.hid hcur
            by_cases hjk : j < k
            · have HX := Lib.hid (show rowI f ws m (tabI f ws m k) fr (j + 1) = stI f ws m (tabI f ws m k) fr cur te by rw [rowI, ← hcur, ← hte])
              have hbdc : TgBd cur := by rw [hcur, HFR.out]; exact part2_bd (part2 HVV.out HW.out hmr.2 hlt (j := j) (by omega)) hcnt
              obtain ⟨τ, hτ⟩ : ∃ τ, τ = tabI f ws m k te := ⟨_, rfl⟩
              have hbdt : TgBd τ := by rw [hτ]; exact fin2_bdI (tab2 HVV.out HW.out hmr.2 k hk te (by have := HFR.out; omega) (by omega)) hcnt
              have HTT := Lib.hid hτ
              have HUP := Lib.hid (show upd (tabI f ws m k) fr cur te = τ by rw [upd_other (by omega), hτ])
              have HUF := Lib.hid (upd_same (tabI f ws m k) fr cur)
              have u0 := hbdt.u0
              have u1 := hbdt.u1
              have u2 := hbdt.c0
              have u3 := hbdt.c1
              have v0 := hbdc.u0
              have v1 := hbdc.u1
              have v2 := hbdc.c0
              have v3 := hbdc.c1
              have hlnt := hbdt.len
              have hrg2 := lnW_range HVV.out HW.out fr te
              have htl : te < ws.length + 1 := by omega
              have hfl : fr < ws.length + 1 := by omega
              have hft : fr < te := by omega
              have htn : te ≤ ws.length := by omega
              have htw : te < ws.length := by omega
              have HSUM := Lib.hid (show IntKind.i64.wrap (cur.c + τ.c) = cur.c + τ.c from IntWalk.i64_in _ (by omega))
              clear hte hcur hbdc hbdt hτ
              obtain ⟨vs, hvs, hvl, hent⟩ := h.tab
              obtain ⟨At, ct, e0, e1, e2, hbkt⟩ := hent te htn
              rw [HUP.out] at e0 e1 e2 hbkt
              have hrw := ent_row hvs e0 e1 e2
              have H := Lib.hid h
              have HBT := Lib.hid hbkt
              clear h hvs hent e0 e1 e2 hbkt
              go_wp2
              refine held_begin (wr.heap.size) (by kernel_rfl) ?_
              have hS := below_drewN (Below.refl (wr.heap.size) wr) 1
              refine held_take 0 (.agg (stV f (.slice A n c) (wS g0 ws) m).toArray) rfl (by kernel_rfl) (by kernel_rfl) (by kernel_rfl) (fun _ _ _ h => h) (by kernel_rfl) (fun w' hw' => exec_load_row 55 (.tmp 1) rfl (w.heap.size) (by kernel_rfl) 55 (stV f (.slice A n c) (wS g0 ws) m).toArray _ _ (H.out.set.next hw') Tryz.underlying55 rfl (HZ.out)) hS ?_
              refine held_take 1 (.int .i64 fr) rfl (by kernel_rfl) (by kernel_rfl) (by kernel_rfl) (fun _ _ _ h => h) (by kernel_rfl) (fun w' hw' => by kernel_rfl) hS ?_
              refine held_take 2 (.int .i64 te) rfl (by kernel_rfl) (by kernel_rfl) (by kernel_rfl) (fun _ _ _ h => h) (by kernel_rfl) (fun w' hw' => by kernel_rfl) hS ?_
              refine held_take 4 (.slice (some ⟨w.heap.size + 2, 0, none⟩) (ws.length + 1) (ws.length + 1)) rfl (by kernel_rfl) (by kernel_rfl) (by kernel_rfl) (fun _ _ _ h => h) (by kernel_rfl) (fun w' hw' => by kernel_rfl) hS ?_
              refine held_take 5 (.int .i64 te) rfl (by kernel_rfl) (by kernel_rfl) (by kernel_rfl) (fun _ _ _ h => h) (by kernel_rfl) (fun w' hw' => by kernel_rfl) hS ?_
              refine held_take 6 (.pointer (some (Addr.add (⟨w.heap.size + 2, 0, none⟩ : Addr) (te * 3)))) rfl (by kernel_rfl) (by kernel_rfl) (by kernel_rfl) (fun _ _ _ h => h) (by kernel_rfl) (fun w' hw' => exec_index 96 (.tmp 45) (.tmp 46) rfl (⟨w.heap.size + 2, 0, none⟩ : Addr) (ws.length + 1) (ws.length + 1) (by kernel_rfl) .i64 te (by kernel_rfl) htl 65 Tryz.underlying96 3 szTg) hS ?_
              refine held_take 7 (.agg (tlV τ At ct).toArray) rfl (by kernel_rfl) (by kernel_rfl) (by kernel_rfl) (fun _ _ _ h => h) (by kernel_rfl) (fun w' hw' => exec_loadV 65 (.tmp 47) rfl ((⟨w.heap.size + 2, 0, none⟩ : Addr).add (te * 3)) (by kernel_rfl) (tlV τ At ct) _ (hrw.next hw') Tryz.underlying65 rfl szTg) hS ?_
              refine held_call_alloc 3 8 58 #[.agg (stV f (.slice A n c) (wS g0 ws) m).toArray, .int .i64 fr, .int .i64 te] (.int .i64 (m - lnW f ws fr te)) 65 [.int .i64 0, .slice none 0 0, .int .i64 0] rfl rfl (by decide) (by kernel_rfl) (by kernel_rfl) (by kernel_rfl) rfl rfl (fun w' => by kernel_rfl) (fun p w' => by kernel_rfl) (fun a' w' => by kernel_rfl) (fun w' hw' => room_impl f A n c g0 fr te ws m w' HF.out HVV.out HN.out hm (HS.out.next (below_step H.out.below hw')) hft htn HW.out (HL.out _ _) (by omega) (HG.out.next (below_step H.out.below hw'))) (Nat.le_refl _) hS (fun p => by kernel_rfl) ?_
              intro b8 w8 hS hb8 hk8
              refine held_take 9 (.int .i64 (m - lnW f ws fr te)) rfl (by kernel_rfl) (by kernel_rfl) (by kernel_rfl) (fun _ _ _ h => h) (by kernel_rfl) (fun w' hw' => by kernel_rfl) hS ?_
              refine held_skip 10 (w8.setRow b8 (tlV τ At ct).toArray) rfl (by kernel_rfl) (by kernel_rfl) (exec_store_row 65 (.tmp 8) (.tmp 48) rfl b8 _ (by kernel_rfl) (by kernel_rfl) 65 _ hk8 szTg rfl (one_tl _ _ _)) (below_setRow hS _ _ hb8) ?_
              have hS := below_setRow hS b8 (tlV τ At ct).toArray hb8
              have hk8 := hk8.setRow_same (tlV τ At ct)
              refine held_done (by kernel_rfl) ?_
              simp only [Act.put, List.setIfInBounds_toArray, List.set_cons_succ, List.set_cons_zero]
              generalize w8.setRow b8 (tlV τ At ct).toArray = W8 at *
              have H8 := Lib.hid (H.out.next hS)
              have hbt8 := HBT.out.keep (KeepI.of_below hS)
              have hne8 : b8 ≠ w.heap.size + 2 := by obtain ⟨vs, hv, _⟩ := H.out.tab; have := hv.lt; omega
              have q0 := hk8.cell 0 (.int .i64 τ.u) rfl
              have q1 := hk8.cell 1 (.slice At τ.b.length ct) rfl
              have q2 := hk8.cell 2 (.int .i64 τ.c) rfl
              clear hS hrw hb8
              by_cases hneg : m - lnW f ws fr te < 0
              · have HX2 := Lib.hid (show rowI f ws m (tabI f ws m k) fr (j + 1) = cur by rw [HX.out, stI, if_pos (.inl (show lf f ws m fr te < 0 from hneg))])
                clear hk8
                go_wp2
                go_roundw
                case rel => exact ⟨j + 1, by omega, by rw [show fr + 1 + (j + 1) = te + 1 by have := HTE.out; omega]; go_num, by rw [HX2.out]; exact H8.out⟩
                case measure => simp [intOf]; omega
              · have hsq := lf_sq HVV.out HW.out hmr.2 (show ¬ lf f ws m fr te < 0 from hneg)
                unfold lf at hsq
                by_cases hc0 : τ.c = 0
                · have hq : (τ.c == 0) = true := by rw [hc0]; rfl
                  have HX2 := Lib.hid (show rowI f ws m (tabI f ws m k) fr (j + 1) = cur by rw [HX.out, stI, if_pos (.inr (by rw [← HTT.out]; exact hc0))])
                  clear hk8 hc0
                  go_wp2
                  go_roundw
                  case rel => exact ⟨j + 1, by omega, by rw [show fr + 1 + (j + 1) = te + 1 by have := HTE.out; omega]; go_num, by rw [HX2.out]; exact H8.out⟩
                  case measure => simp [intOf]; omega
                · have hq : (τ.c == 0) = false := by simpa using hc0
                  have hno : ¬ (lf f ws m fr te < 0 ∨ (tabI f ws m k te).c = 0) := by
                    rintro (h | h)
                    · exact hneg h
                    · rw [← HTT.out] at h; exact hc0 h
                  obtain ⟨vs8, hvs8, hvl8, hent8⟩ := H8.out.tab
                  have hef := hent8 fr (by omega)
                  rw [HUF.out] at hef
                  have HEF := Lib.hid hef
                  obtain ⟨Af, cf, g0', g1', g2', hbkf⟩ := hef
                  have k0 := hvs8.cell _ _ g0'
                  have k2 := hvs8.cell _ _ g2'
                  obtain ⟨ol, hol⟩ : ∃ ol, ol = ((te : Int) :: τ.b) := ⟨_, rfl⟩
                  have HMAP := Lib.hid (show (i64 (te : Int) :: τ.b.map i64) = (⟨((m - lnW f ws fr te) * (m - lnW f ws fr te) + τ.u), ol, cur.c⟩ : Tl).b.map i64 by show _ = ol.map i64; rw [hol]; rfl)
                  have HMX := Lib.hid (show τ.b.length ≤ 1048576 by omega)
                  have HST := Lib.hid (show rowI f ws m (tabI f ws m k) fr (j + 1) = if cur.c = 0 ∨ ((m - lnW f ws fr te) * (m - lnW f ws fr te) + τ.u) < cur.u then ⟨((m - lnW f ws fr te) * (m - lnW f ws fr te) + τ.u), ol, cur.c + τ.c⟩ else ⟨cur.u, cur.b, cur.c + τ.c⟩ by rw [HX.out, stI, if_neg hno, ← HTT.out, hol]; rfl)
                  clear g0' g1' g2' hbkf hol hno hc0
                  by_cases hcc : cur.c = 0
                  · have hq2 : (cur.c == 0) = true := by rw [hcc]; rfl
                    have HX2 := Lib.hid (show rowI f ws m (tabI f ws m k) fr (j + 1) = ⟨((m - lnW f ws fr te) * (m - lnW f ws fr te) + τ.u), ol, cur.c + τ.c⟩ by rw [HST.out, if_pos (.inl hcc)])
                    clear hcc
                    go_wp2_with (
                         refine wpList_store_at rfl 2 (.tmp 81) (.tmp 79) rfl (w.heap.size + 2) (fr * 3) rfl (.int .i64 ((m - lnW f ws fr te) * (m - lnW f ws fr te) + τ.u)) rfl rfl szI64 65 _ hvs8 (by omega) _ rfl ?_
                         intro w9 hs9
                         have k9 := KeepI.of_stored hs9 hvs8 (by decide)
                         have H9 := H8.out.set1 hvs8 hvl8 hent8 (i := fr) (t := ⟨((m - lnW f ws fr te) * (m - lnW f ws fr te) + τ.u), cur.b, cur.c⟩) (by omega) (Nat.le_refl _) (by omega) hs9 (fun k => (HEF.out.keep k).setU (by omega) _)
                         rw [upd_upd] at H9
                         have hk9 := hs9.other _ _ _ hne8 hk8
                         have hbt9 := hbt8.keep k9
                         have hb10 := below_one w9 (.cells #[.int .i64 te] 2)
                         have q1 := (hk9.next hb10).cell 1 (.slice At τ.b.length ct) rfl
                         have hle9 : w.heap.size ≤ w9.heap.size := H9.below.size
                         clear hs9 k9 k0 k2 q0 q2 hvs8 hent8 hk8 hbt8 hb10
                         go_wp2_with (
                         at_builtin
                         refine wpList_cons1 rfl (.tmp 85) (.tmp 87) rfl w9 _ rfl te At τ.b.length ct τ.b rfl rfl rfl hbt9.2.2 hbt9.1.sl HMX.out ?_
                         intro v10 w10 ho hb11
                         rw [HMAP.out] at ho
                         obtain ⟨A10, c10, hv10, hbo⟩ := BrkAt.of_own (t := ⟨((m - lnW f ws fr te) * (m - lnW f ws fr te) + τ.u), ol, cur.c⟩) ho
                         have hbo := hbo.lo hle9
                         have hv10 : v10 = .slice A10 ol.length c10 := hv10
                         subst hv10
                         have H10 := H9.next hb11
                         have hk10 := hk9.next hb11
                         obtain ⟨vs10, hvs10, hvl10, hent10⟩ := H10.tab
                         have hef10 := hent10 fr (by omega)
                         rw [upd_same] at hef10
                         clear q1 ho hb11 hk9 hbt9 hle9
                         go_wp2_with (
                         refine wpList_store_at rfl 32 (.tmp 90) (.tmp 88) rfl (w.heap.size + 2) (fr * 3 + 1) rfl (.slice A10 ol.length c10) rfl rfl szSlI 65 _ hvs10 (by omega) _ rfl ?_
                         intro w11 hs11
                         have H11 := H10.set1 hvs10 hvl10 hent10 (i := fr) (t := ⟨((m - lnW f ws fr te) * (m - lnW f ws fr te) + τ.u), ol, cur.c⟩) (by omega) (by omega) (by omega) hs11 (fun k => (hef10.keep k).setB (by omega) ol A10 c10 (hbo.keep k))
                         rw [upd_upd] at H11
                         have hk11 := hs11.other _ _ _ hne8 hk10
                         clear hs11 hvs10 hent10 hef10 hk10 hbo
                         go_wp2_with fail
                         obtain ⟨vsz, hvz, hvlz, hentz⟩ := (H11).tab
                         have hefz := hentz fr (by omega)
                         rw [upd_same] at hefz
                         have HEZ := Lib.hid hefz
                         obtain ⟨Az, cz, _, _, ez, _⟩ := hefz
                         have kz : World.cell? _ ⟨w.heap.size + 2, fr * 3 + 2, none⟩ = some (.int .i64 cur.c) := hvz.cell _ _ ez
                         have fz := hvz.free (fr * 3 + 2)
                         have qz := (hk11).cell 2 (.int .i64 τ.c) rfl
                         have hsum := HSUM.out
                         have H' := Lib.hid H11
                         have HVZ := Lib.hid hvz
                         have HENZ := Lib.hid hentz
                         clear ez H11 hk11 hvz hentz
                         go_region
                         go_wp2
                         clear hsum
                         go_roundw
                         case rel =>
                           have hstz := stored_cell HVZ.out (fr * 3 + 2) (.int .i64 (cur.c + τ.c))
                           have H12 := (H'.out).set1 HVZ.out hvlz HENZ.out (i := fr) (t := ⟨((⟨((m - lnW f ws fr te) * (m - lnW f ws fr te) + τ.u), ol, cur.c⟩ : Tl)).u, ((⟨((m - lnW f ws fr te) * (m - lnW f ws fr te) + τ.u), ol, cur.c⟩ : Tl)).b, cur.c + τ.c⟩) (by omega) (by omega) (by omega) hstz (fun k => ((HEZ.out).keep k).setC (by omega) _)
                           rw [upd_upd] at H12
                           refine ⟨j + 1, by omega, by rw [show fr + 1 + (j + 1) = te + 1 by have := HTE.out; omega]; go_num, ?_⟩
                           rw [HX2.out]
                           exact H12.drew
                         case measure => simp [intOf]; omega
                         )))
                  · have hq2 : (cur.c == 0) = false := by simpa using hcc
                    by_cases hul : ((m - lnW f ws fr te) * (m - lnW f ws fr te) + τ.u) < cur.u
                    · have HX2 := Lib.hid (show rowI f ws m (tabI f ws m k) fr (j + 1) = ⟨((m - lnW f ws fr te) * (m - lnW f ws fr te) + τ.u), ol, cur.c + τ.c⟩ by rw [HST.out, if_pos (.inr hul)])
                      clear hcc
                      go_wp2_with (
                           refine wpList_store_at rfl 2 (.tmp 81) (.tmp 79) rfl (w.heap.size + 2) (fr * 3) rfl (.int .i64 ((m - lnW f ws fr te) * (m - lnW f ws fr te) + τ.u)) rfl rfl szI64 65 _ hvs8 (by omega) _ rfl ?_
                           intro w9 hs9
                           have k9 := KeepI.of_stored hs9 hvs8 (by decide)
                           have H9 := H8.out.set1 hvs8 hvl8 hent8 (i := fr) (t := ⟨((m - lnW f ws fr te) * (m - lnW f ws fr te) + τ.u), cur.b, cur.c⟩) (by omega) (Nat.le_refl _) (by omega) hs9 (fun k => (HEF.out.keep k).setU (by omega) _)
                           rw [upd_upd] at H9
                           have hk9 := hs9.other _ _ _ hne8 hk8
                           have hbt9 := hbt8.keep k9
                           have hb10 := below_one w9 (.cells #[.int .i64 te] 2)
                           have q1 := (hk9.next hb10).cell 1 (.slice At τ.b.length ct) rfl
                           have hle9 : w.heap.size ≤ w9.heap.size := H9.below.size
                           clear hs9 k9 k0 k2 q0 q2 hvs8 hent8 hk8 hbt8 hb10
                           go_wp2_with (
                           at_builtin
                           refine wpList_cons1 rfl (.tmp 85) (.tmp 87) rfl w9 _ rfl te At τ.b.length ct τ.b rfl rfl rfl hbt9.2.2 hbt9.1.sl HMX.out ?_
                           intro v10 w10 ho hb11
                           rw [HMAP.out] at ho
                           obtain ⟨A10, c10, hv10, hbo⟩ := BrkAt.of_own (t := ⟨((m - lnW f ws fr te) * (m - lnW f ws fr te) + τ.u), ol, cur.c⟩) ho
                           have hbo := hbo.lo hle9
                           have hv10 : v10 = .slice A10 ol.length c10 := hv10
                           subst hv10
                           have H10 := H9.next hb11
                           have hk10 := hk9.next hb11
                           obtain ⟨vs10, hvs10, hvl10, hent10⟩ := H10.tab
                           have hef10 := hent10 fr (by omega)
                           rw [upd_same] at hef10
                           clear q1 ho hb11 hk9 hbt9 hle9
                           go_wp2_with (
                           refine wpList_store_at rfl 32 (.tmp 90) (.tmp 88) rfl (w.heap.size + 2) (fr * 3 + 1) rfl (.slice A10 ol.length c10) rfl rfl szSlI 65 _ hvs10 (by omega) _ rfl ?_
                           intro w11 hs11
                           have H11 := H10.set1 hvs10 hvl10 hent10 (i := fr) (t := ⟨((m - lnW f ws fr te) * (m - lnW f ws fr te) + τ.u), ol, cur.c⟩) (by omega) (by omega) (by omega) hs11 (fun k => (hef10.keep k).setB (by omega) ol A10 c10 (hbo.keep k))
                           rw [upd_upd] at H11
                           have hk11 := hs11.other _ _ _ hne8 hk10
                           clear hs11 hvs10 hent10 hef10 hk10 hbo
                           go_wp2_with fail
                           obtain ⟨vsz, hvz, hvlz, hentz⟩ := (H11).tab
                           have hefz := hentz fr (by omega)
                           rw [upd_same] at hefz
                           have HEZ := Lib.hid hefz
                           obtain ⟨Az, cz, _, _, ez, _⟩ := hefz
                           have kz : World.cell? _ ⟨w.heap.size + 2, fr * 3 + 2, none⟩ = some (.int .i64 cur.c) := hvz.cell _ _ ez
                           have fz := hvz.free (fr * 3 + 2)
                           have qz := (hk11).cell 2 (.int .i64 τ.c) rfl
                           have hsum := HSUM.out
                           have H' := Lib.hid H11
                           have HVZ := Lib.hid hvz
                           have HENZ := Lib.hid hentz
                           clear ez H11 hk11 hvz hentz
                           go_region
                           go_wp2
                           clear hsum
                           go_roundw
                           case rel =>
                             have hstz := stored_cell HVZ.out (fr * 3 + 2) (.int .i64 (cur.c + τ.c))
                             have H12 := (H'.out).set1 HVZ.out hvlz HENZ.out (i := fr) (t := ⟨((⟨((m - lnW f ws fr te) * (m - lnW f ws fr te) + τ.u), ol, cur.c⟩ : Tl)).u, ((⟨((m - lnW f ws fr te) * (m - lnW f ws fr te) + τ.u), ol, cur.c⟩ : Tl)).b, cur.c + τ.c⟩) (by omega) (by omega) (by omega) hstz (fun k => ((HEZ.out).keep k).setC (by omega) _)
                             rw [upd_upd] at H12
                             refine ⟨j + 1, by omega, by rw [show fr + 1 + (j + 1) = te + 1 by have := HTE.out; omega]; go_num, ?_⟩
                             rw [HX2.out]
                             exact H12.drew
                           case measure => simp [intOf]; omega
                           )))
                    · have HX2 := Lib.hid (show rowI f ws m (tabI f ws m k) fr (j + 1) = ⟨cur.u, cur.b, cur.c + τ.c⟩ by rw [HST.out, if_neg (by rintro (h | h); exact hcc h; exact hul h)])
                      clear hcc
                      have hH8 := H8.out
                      go_wp2_with fail
                      clear k0 k2 q0 q1 q2 hvs8 hent8
                      obtain ⟨vsz, hvz, hvlz, hentz⟩ := (hH8).tab
                      have hefz := hentz fr (by omega)
                      rw [upd_same] at hefz
                      have HEZ := Lib.hid hefz
                      obtain ⟨Az, cz, _, _, ez, _⟩ := hefz
                      have kz : World.cell? _ ⟨w.heap.size + 2, fr * 3 + 2, none⟩ = some (.int .i64 cur.c) := hvz.cell _ _ ez
                      have fz := hvz.free (fr * 3 + 2)
                      have qz := (hk8).cell 2 (.int .i64 τ.c) rfl
                      have hsum := HSUM.out
                      have H' := Lib.hid hH8
                      have HVZ := Lib.hid hvz
                      have HENZ := Lib.hid hentz
                      clear ez hH8 hk8 hvz hentz
                      go_region
                      go_wp2
                      clear hsum
                      go_roundw
                      case rel =>
                        have hstz := stored_cell HVZ.out (fr * 3 + 2) (.int .i64 (cur.c + τ.c))
                        have H12 := (H'.out).set1 HVZ.out hvlz HENZ.out (i := fr) (t := ⟨(cur).u, (cur).b, cur.c + τ.c⟩) (by omega) (by omega) (by omega) hstz (fun k => ((HEZ.out).keep k).setC (by omega) _)
                        rw [upd_upd] at H12
                        refine ⟨j + 1, by omega, by rw [show fr + 1 + (j + 1) = te + 1 by have := HTE.out; omega]; go_num, ?_⟩
                        rw [HX2.out]
                        exact H12.drew
                      case measure => simp [intOf]; omega
            · obtain rfl : j = k := by omega
              have hX : upd (tabI f ws m j) fr cur = tabI f ws m (j + 1) := by rw [tabI, ← HFR.out, hcur]
              have h2 := h
              rw [hX] at h2
              clear h hX hcur
              have hte3 : ¬ te < ws.length := by omega
              clear hte
              go_wp2
              go_roundw
              case rel => exact ⟨j + 1, by omega, by first | go_num | (congr 1; omega), h2⟩
              case measure => simp [intOf] <;> omega
        · have hE' : m - lnW f ws fr ws.length ≥ 0 := by unfold lf at hE; omega
          have hEd : decide (lnW f ws fr ws.length ≤ m) = true := decide_eq_true (by omega)
          have HR0 := Lib.hid (show rowI f ws m (tabI f ws m k) fr 0 = ⟨0, [], 1⟩ by rw [rowI, if_neg hE])
          clear hE
          go_wp2_with (first
            | (refine wpList_load_row rfl 55 (.tmp 1) rfl _ rfl 55 (stV f (.slice A n c) (wS g0 ws) m).toArray _ _ hst Tryz.underlying55 rfl HZ.out ?_)
            | (go_at_call 58; refine (room_impl f A n c g0 fr ws.length ws m _ HF.out HVV.out HN.out hm (HS.out.next hH.out.below) (by omega) (Nat.le_refl _) HW.out (HL.out _ _) (by omega) (HG.out.next hH.out.below)).mono ?_; rintro e w2 ⟨rfl, hb1⟩; have hrelI := hH.out.next hb1; obtain ⟨vs2, hvs2, hvl2, hent2⟩ := hrelI.tab; have hef := hent2 fr (by omega); have HEF0 := Lib.hid hef; obtain ⟨_, _, _, _, ez, _⟩ := hef; have kw := hvs2.cell _ _ ez; have fw := hvs2.free (fr * 3 + 2); clear ez hb1 hst))
          have hst2 := stored_cell hvs2 (fr * 3 + 2) (.int .i64 1)
          have hrelI : SgRel f (.slice A n c) g0 ws m (upd (tabI f ws m k) fr (rowI f ws m (tabI f ws m k) fr 0)) w (w2.setCell ⟨w.heap.size + 2, fr * 3 + 2, none⟩ (.int .i64 1)) := by
            rw [HR0.out]
            exact hrelI.set1 hvs2 hvl2 hent2 (i := fr) (t := ⟨0, [], 1⟩) (by omega) (by omega) (by omega) hst2 (fun k => by have := (HEF0.out.keep k).setC (by omega) 1; rw [HT0.out] at this; exact this)
          clear hst2 hvs2 hvl2 hent2 kw fw
          generalize World.setCell w2 ⟨w.heap.size + 2, fr * 3 + 2, none⟩ (.int .i64 1) = W2 at *
          go_loopw [6] (fun i wi => ∃ j : Nat, j ≤ k ∧ i = .int .i64 ((fr + 1 + j : Nat) : Int) ∧ SgRel f (.slice A n c) g0 ws m (upd (tabI f ws m k) fr (rowI f ws m (tabI f ws m k) fr j)) w wi) (fun i _ => ws.length - (intOf i).toNat)
          case atStart => exact ⟨0, Nat.zero_le _, by go_num, hrelI⟩
          clear hrelI
          case round =>
            obtain ⟨j, hj, rfl, h⟩ := hrel
            obtain ⟨te, hte⟩ : ∃ te, te = fr + 1 + j := ⟨_, rfl⟩
            rw [← hte]
            obtain ⟨cur, hcur⟩ : ∃ cur, cur = rowI f ws m (tabI f ws m k) fr j := ⟨_, rfl⟩
            rw [← hcur] at h
            have HTE := Lib.hid hte
            have HC := Lib.hid hcur
            by_cases hjk : j < k
            · have HX := Lib.hid (show rowI f ws m (tabI f ws m k) fr (j + 1) = stI f ws m (tabI f ws m k) fr cur te by rw [rowI, ← hcur, ← hte])
              have hbdc : TgBd cur := by rw [hcur, HFR.out]; exact part2_bd (part2 HVV.out HW.out hmr.2 hlt (j := j) (by omega)) hcnt
              obtain ⟨τ, hτ⟩ : ∃ τ, τ = tabI f ws m k te := ⟨_, rfl⟩
              have hbdt : TgBd τ := by rw [hτ]; exact fin2_bdI (tab2 HVV.out HW.out hmr.2 k hk te (by have := HFR.out; omega) (by omega)) hcnt
              have HTT := Lib.hid hτ
              have HUP := Lib.hid (show upd (tabI f ws m k) fr cur te = τ by rw [upd_other (by omega), hτ])
              have HUF := Lib.hid (upd_same (tabI f ws m k) fr cur)
              have u0 := hbdt.u0
              have u1 := hbdt.u1
              have u2 := hbdt.c0
              have u3 := hbdt.c1
              have v0 := hbdc.u0
              have v1 := hbdc.u1
              have v2 := hbdc.c0
              have v3 := hbdc.c1
              have hlnt := hbdt.len
              have hrg2 := lnW_range HVV.out HW.out fr te
              have htl : te < ws.length + 1 := by omega
              have hfl : fr < ws.length + 1 := by omega
              have hft : fr < te := by omega
              have htn : te ≤ ws.length := by omega
              have htw : te < ws.length := by omega
              have HSUM := Lib.hid (show IntKind.i64.wrap (cur.c + τ.c) = cur.c + τ.c from IntWalk.i64_in _ (by omega))
              clear hte hcur hbdc hbdt hτ
              obtain ⟨vs, hvs, hvl, hent⟩ := h.tab
              obtain ⟨At, ct, e0, e1, e2, hbkt⟩ := hent te htn
              rw [HUP.out] at e0 e1 e2 hbkt
              have hrw := ent_row hvs e0 e1 e2
              have H := Lib.hid h
              have HBT := Lib.hid hbkt
              clear h hvs hent e0 e1 e2 hbkt
              go_wp2
              refine held_begin (wr.heap.size) (by kernel_rfl) ?_
              have hS := below_drewN (Below.refl (wr.heap.size) wr) 1
              refine held_take 0 (.agg (stV f (.slice A n c) (wS g0 ws) m).toArray) rfl (by kernel_rfl) (by kernel_rfl) (by kernel_rfl) (fun _ _ _ h => h) (by kernel_rfl) (fun w' hw' => exec_load_row 55 (.tmp 1) rfl (w.heap.size) (by kernel_rfl) 55 (stV f (.slice A n c) (wS g0 ws) m).toArray _ _ (H.out.set.next hw') Tryz.underlying55 rfl (HZ.out)) hS ?_
              refine held_take 1 (.int .i64 fr) rfl (by kernel_rfl) (by kernel_rfl) (by kernel_rfl) (fun _ _ _ h => h) (by kernel_rfl) (fun w' hw' => by kernel_rfl) hS ?_
              refine held_take 2 (.int .i64 te) rfl (by kernel_rfl) (by kernel_rfl) (by kernel_rfl) (fun _ _ _ h => h) (by kernel_rfl) (fun w' hw' => by kernel_rfl) hS ?_
              refine held_take 4 (.slice (some ⟨w.heap.size + 2, 0, none⟩) (ws.length + 1) (ws.length + 1)) rfl (by kernel_rfl) (by kernel_rfl) (by kernel_rfl) (fun _ _ _ h => h) (by kernel_rfl) (fun w' hw' => by kernel_rfl) hS ?_
              refine held_take 5 (.int .i64 te) rfl (by kernel_rfl) (by kernel_rfl) (by kernel_rfl) (fun _ _ _ h => h) (by kernel_rfl) (fun w' hw' => by kernel_rfl) hS ?_
              refine held_take 6 (.pointer (some (Addr.add (⟨w.heap.size + 2, 0, none⟩ : Addr) (te * 3)))) rfl (by kernel_rfl) (by kernel_rfl) (by kernel_rfl) (fun _ _ _ h => h) (by kernel_rfl) (fun w' hw' => exec_index 96 (.tmp 45) (.tmp 46) rfl (⟨w.heap.size + 2, 0, none⟩ : Addr) (ws.length + 1) (ws.length + 1) (by kernel_rfl) .i64 te (by kernel_rfl) htl 65 Tryz.underlying96 3 szTg) hS ?_
              refine held_take 7 (.agg (tlV τ At ct).toArray) rfl (by kernel_rfl) (by kernel_rfl) (by kernel_rfl) (fun _ _ _ h => h) (by kernel_rfl) (fun w' hw' => exec_loadV 65 (.tmp 47) rfl ((⟨w.heap.size + 2, 0, none⟩ : Addr).add (te * 3)) (by kernel_rfl) (tlV τ At ct) _ (hrw.next hw') Tryz.underlying65 rfl szTg) hS ?_
              refine held_call_alloc 3 8 58 #[.agg (stV f (.slice A n c) (wS g0 ws) m).toArray, .int .i64 fr, .int .i64 te] (.int .i64 (m - lnW f ws fr te)) 65 [.int .i64 0, .slice none 0 0, .int .i64 0] rfl rfl (by decide) (by kernel_rfl) (by kernel_rfl) (by kernel_rfl) rfl rfl (fun w' => by kernel_rfl) (fun p w' => by kernel_rfl) (fun a' w' => by kernel_rfl) (fun w' hw' => room_impl f A n c g0 fr te ws m w' HF.out HVV.out HN.out hm (HS.out.next (below_step H.out.below hw')) hft htn HW.out (HL.out _ _) (by omega) (HG.out.next (below_step H.out.below hw'))) (Nat.le_refl _) hS (fun p => by kernel_rfl) ?_
              intro b8 w8 hS hb8 hk8
              refine held_take 9 (.int .i64 (m - lnW f ws fr te)) rfl (by kernel_rfl) (by kernel_rfl) (by kernel_rfl) (fun _ _ _ h => h) (by kernel_rfl) (fun w' hw' => by kernel_rfl) hS ?_
              refine held_skip 10 (w8.setRow b8 (tlV τ At ct).toArray) rfl (by kernel_rfl) (by kernel_rfl) (exec_store_row 65 (.tmp 8) (.tmp 48) rfl b8 _ (by kernel_rfl) (by kernel_rfl) 65 _ hk8 szTg rfl (one_tl _ _ _)) (below_setRow hS _ _ hb8) ?_
              have hS := below_setRow hS b8 (tlV τ At ct).toArray hb8
              have hk8 := hk8.setRow_same (tlV τ At ct)
              refine held_done (by kernel_rfl) ?_
              simp only [Act.put, List.setIfInBounds_toArray, List.set_cons_succ, List.set_cons_zero]
              generalize w8.setRow b8 (tlV τ At ct).toArray = W8 at *
              have H8 := Lib.hid (H.out.next hS)
              have hbt8 := HBT.out.keep (KeepI.of_below hS)
              have hne8 : b8 ≠ w.heap.size + 2 := by obtain ⟨vs, hv, _⟩ := H.out.tab; have := hv.lt; omega
              have q0 := hk8.cell 0 (.int .i64 τ.u) rfl
              have q1 := hk8.cell 1 (.slice At τ.b.length ct) rfl
              have q2 := hk8.cell 2 (.int .i64 τ.c) rfl
              clear hS hrw hb8
              by_cases hneg : m - lnW f ws fr te < 0
              · have HX2 := Lib.hid (show rowI f ws m (tabI f ws m k) fr (j + 1) = cur by rw [HX.out, stI, if_pos (.inl (show lf f ws m fr te < 0 from hneg))])
                clear hk8
                go_wp2
                go_roundw
                case rel => exact ⟨j + 1, by omega, by rw [show fr + 1 + (j + 1) = te + 1 by have := HTE.out; omega]; go_num, by rw [HX2.out]; exact H8.out⟩
                case measure => simp [intOf]; omega
              · have hsq := lf_sq HVV.out HW.out hmr.2 (show ¬ lf f ws m fr te < 0 from hneg)
                unfold lf at hsq
                by_cases hc0 : τ.c = 0
                · have hq : (τ.c == 0) = true := by rw [hc0]; rfl
                  have HX2 := Lib.hid (show rowI f ws m (tabI f ws m k) fr (j + 1) = cur by rw [HX.out, stI, if_pos (.inr (by rw [← HTT.out]; exact hc0))])
                  clear hk8 hc0
                  go_wp2
                  go_roundw
                  case rel => exact ⟨j + 1, by omega, by rw [show fr + 1 + (j + 1) = te + 1 by have := HTE.out; omega]; go_num, by rw [HX2.out]; exact H8.out⟩
                  case measure => simp [intOf]; omega
                · have hq : (τ.c == 0) = false := by simpa using hc0
                  have hno : ¬ (lf f ws m fr te < 0 ∨ (tabI f ws m k te).c = 0) := by
                    rintro (h | h)
                    · exact hneg h
                    · rw [← HTT.out] at h; exact hc0 h
                  obtain ⟨vs8, hvs8, hvl8, hent8⟩ := H8.out.tab
                  have hef := hent8 fr (by omega)
                  rw [HUF.out] at hef
                  have HEF := Lib.hid hef
                  obtain ⟨Af, cf, g0', g1', g2', hbkf⟩ := hef
                  have k0 := hvs8.cell _ _ g0'
                  have k2 := hvs8.cell _ _ g2'
                  obtain ⟨ol, hol⟩ : ∃ ol, ol = ((te : Int) :: τ.b) := ⟨_, rfl⟩
                  have HMAP := Lib.hid (show (i64 (te : Int) :: τ.b.map i64) = (⟨((m - lnW f ws fr te) * (m - lnW f ws fr te) + τ.u), ol, cur.c⟩ : Tl).b.map i64 by show _ = ol.map i64; rw [hol]; rfl)
                  have HMX := Lib.hid (show τ.b.length ≤ 1048576 by omega)
                  have HST := Lib.hid (show rowI f ws m (tabI f ws m k) fr (j + 1) = if cur.c = 0 ∨ ((m - lnW f ws fr te) * (m - lnW f ws fr te) + τ.u) < cur.u then ⟨((m - lnW f ws fr te) * (m - lnW f ws fr te) + τ.u), ol, cur.c + τ.c⟩ else ⟨cur.u, cur.b, cur.c + τ.c⟩ by rw [HX.out, stI, if_neg hno, ← HTT.out, hol]; rfl)
                  clear g0' g1' g2' hbkf hol hno hc0
                  by_cases hcc : cur.c = 0
                  · have hq2 : (cur.c == 0) = true := by rw [hcc]; rfl
                    have HX2 := Lib.hid (show rowI f ws m (tabI f ws m k) fr (j + 1) = ⟨((m - lnW f ws fr te) * (m - lnW f ws fr te) + τ.u), ol, cur.c + τ.c⟩ by rw [HST.out, if_pos (.inl hcc)])
                    clear hcc
                    go_wp2_with (
                         refine wpList_store_at rfl 2 (.tmp 81) (.tmp 79) rfl (w.heap.size + 2) (fr * 3) rfl (.int .i64 ((m - lnW f ws fr te) * (m - lnW f ws fr te) + τ.u)) rfl rfl szI64 65 _ hvs8 (by omega) _ rfl ?_
                         intro w9 hs9
                         have k9 := KeepI.of_stored hs9 hvs8 (by decide)
                         have H9 := H8.out.set1 hvs8 hvl8 hent8 (i := fr) (t := ⟨((m - lnW f ws fr te) * (m - lnW f ws fr te) + τ.u), cur.b, cur.c⟩) (by omega) (Nat.le_refl _) (by omega) hs9 (fun k => (HEF.out.keep k).setU (by omega) _)
                         rw [upd_upd] at H9
                         have hk9 := hs9.other _ _ _ hne8 hk8
                         have hbt9 := hbt8.keep k9
                         have hb10 := below_one w9 (.cells #[.int .i64 te] 2)
                         have q1 := (hk9.next hb10).cell 1 (.slice At τ.b.length ct) rfl
                         have hle9 : w.heap.size ≤ w9.heap.size := H9.below.size
                         clear hs9 k9 k0 k2 q0 q2 hvs8 hent8 hk8 hbt8 hb10
                         go_wp2_with (
                         at_builtin
                         refine wpList_cons1 rfl (.tmp 85) (.tmp 87) rfl w9 _ rfl te At τ.b.length ct τ.b rfl rfl rfl hbt9.2.2 hbt9.1.sl HMX.out ?_
                         intro v10 w10 ho hb11
                         rw [HMAP.out] at ho
                         obtain ⟨A10, c10, hv10, hbo⟩ := BrkAt.of_own (t := ⟨((m - lnW f ws fr te) * (m - lnW f ws fr te) + τ.u), ol, cur.c⟩) ho
                         have hbo := hbo.lo hle9
                         have hv10 : v10 = .slice A10 ol.length c10 := hv10
                         subst hv10
                         have H10 := H9.next hb11
                         have hk10 := hk9.next hb11
                         obtain ⟨vs10, hvs10, hvl10, hent10⟩ := H10.tab
                         have hef10 := hent10 fr (by omega)
                         rw [upd_same] at hef10
                         clear q1 ho hb11 hk9 hbt9 hle9
                         go_wp2_with (
                         refine wpList_store_at rfl 32 (.tmp 90) (.tmp 88) rfl (w.heap.size + 2) (fr * 3 + 1) rfl (.slice A10 ol.length c10) rfl rfl szSlI 65 _ hvs10 (by omega) _ rfl ?_
                         intro w11 hs11
                         have H11 := H10.set1 hvs10 hvl10 hent10 (i := fr) (t := ⟨((m - lnW f ws fr te) * (m - lnW f ws fr te) + τ.u), ol, cur.c⟩) (by omega) (by omega) (by omega) hs11 (fun k => (hef10.keep k).setB (by omega) ol A10 c10 (hbo.keep k))
                         rw [upd_upd] at H11
                         have hk11 := hs11.other _ _ _ hne8 hk10
                         clear hs11 hvs10 hent10 hef10 hk10 hbo
                         go_wp2_with fail
                         obtain ⟨vsz, hvz, hvlz, hentz⟩ := (H11).tab
                         have hefz := hentz fr (by omega)
                         rw [upd_same] at hefz
                         have HEZ := Lib.hid hefz
                         obtain ⟨Az, cz, _, _, ez, _⟩ := hefz
                         have kz : World.cell? _ ⟨w.heap.size + 2, fr * 3 + 2, none⟩ = some (.int .i64 cur.c) := hvz.cell _ _ ez
                         have fz := hvz.free (fr * 3 + 2)
                         have qz := (hk11).cell 2 (.int .i64 τ.c) rfl
                         have hsum := HSUM.out
                         have H' := Lib.hid H11
                         have HVZ := Lib.hid hvz
                         have HENZ := Lib.hid hentz
                         clear ez H11 hk11 hvz hentz
                         go_region
                         go_wp2
                         clear hsum
                         go_roundw
                         case rel =>
                           have hstz := stored_cell HVZ.out (fr * 3 + 2) (.int .i64 (cur.c + τ.c))
                           have H12 := (H'.out).set1 HVZ.out hvlz HENZ.out (i := fr) (t := ⟨((⟨((m - lnW f ws fr te) * (m - lnW f ws fr te) + τ.u), ol, cur.c⟩ : Tl)).u, ((⟨((m - lnW f ws fr te) * (m - lnW f ws fr te) + τ.u), ol, cur.c⟩ : Tl)).b, cur.c + τ.c⟩) (by omega) (by omega) (by omega) hstz (fun k => ((HEZ.out).keep k).setC (by omega) _)
                           rw [upd_upd] at H12
                           refine ⟨j + 1, by omega, by rw [show fr + 1 + (j + 1) = te + 1 by have := HTE.out; omega]; go_num, ?_⟩
                           rw [HX2.out]
                           exact H12.drew
                         case measure => simp [intOf]; omega
                         )))
                  · have hq2 : (cur.c == 0) = false := by simpa using hcc
                    by_cases hul : ((m - lnW f ws fr te) * (m - lnW f ws fr te) + τ.u) < cur.u
                    · have HX2 := Lib.hid (show rowI f ws m (tabI f ws m k) fr (j + 1) = ⟨((m - lnW f ws fr te) * (m - lnW f ws fr te) + τ.u), ol, cur.c + τ.c⟩ by rw [HST.out, if_pos (.inr hul)])
                      clear hcc
                      go_wp2_with (
                           refine wpList_store_at rfl 2 (.tmp 81) (.tmp 79) rfl (w.heap.size + 2) (fr * 3) rfl (.int .i64 ((m - lnW f ws fr te) * (m - lnW f ws fr te) + τ.u)) rfl rfl szI64 65 _ hvs8 (by omega) _ rfl ?_
                           intro w9 hs9
                           have k9 := KeepI.of_stored hs9 hvs8 (by decide)
                           have H9 := H8.out.set1 hvs8 hvl8 hent8 (i := fr) (t := ⟨((m - lnW f ws fr te) * (m - lnW f ws fr te) + τ.u), cur.b, cur.c⟩) (by omega) (Nat.le_refl _) (by omega) hs9 (fun k => (HEF.out.keep k).setU (by omega) _)
                           rw [upd_upd] at H9
                           have hk9 := hs9.other _ _ _ hne8 hk8
                           have hbt9 := hbt8.keep k9
                           have hb10 := below_one w9 (.cells #[.int .i64 te] 2)
                           have q1 := (hk9.next hb10).cell 1 (.slice At τ.b.length ct) rfl
                           have hle9 : w.heap.size ≤ w9.heap.size := H9.below.size
                           clear hs9 k9 k0 k2 q0 q2 hvs8 hent8 hk8 hbt8 hb10
                           go_wp2_with (
                           at_builtin
                           refine wpList_cons1 rfl (.tmp 85) (.tmp 87) rfl w9 _ rfl te At τ.b.length ct τ.b rfl rfl rfl hbt9.2.2 hbt9.1.sl HMX.out ?_
                           intro v10 w10 ho hb11
                           rw [HMAP.out] at ho
                           obtain ⟨A10, c10, hv10, hbo⟩ := BrkAt.of_own (t := ⟨((m - lnW f ws fr te) * (m - lnW f ws fr te) + τ.u), ol, cur.c⟩) ho
                           have hbo := hbo.lo hle9
                           have hv10 : v10 = .slice A10 ol.length c10 := hv10
                           subst hv10
                           have H10 := H9.next hb11
                           have hk10 := hk9.next hb11
                           obtain ⟨vs10, hvs10, hvl10, hent10⟩ := H10.tab
                           have hef10 := hent10 fr (by omega)
                           rw [upd_same] at hef10
                           clear q1 ho hb11 hk9 hbt9 hle9
                           go_wp2_with (
                           refine wpList_store_at rfl 32 (.tmp 90) (.tmp 88) rfl (w.heap.size + 2) (fr * 3 + 1) rfl (.slice A10 ol.length c10) rfl rfl szSlI 65 _ hvs10 (by omega) _ rfl ?_
                           intro w11 hs11
                           have H11 := H10.set1 hvs10 hvl10 hent10 (i := fr) (t := ⟨((m - lnW f ws fr te) * (m - lnW f ws fr te) + τ.u), ol, cur.c⟩) (by omega) (by omega) (by omega) hs11 (fun k => (hef10.keep k).setB (by omega) ol A10 c10 (hbo.keep k))
                           rw [upd_upd] at H11
                           have hk11 := hs11.other _ _ _ hne8 hk10
                           clear hs11 hvs10 hent10 hef10 hk10 hbo
                           go_wp2_with fail
                           obtain ⟨vsz, hvz, hvlz, hentz⟩ := (H11).tab
                           have hefz := hentz fr (by omega)
                           rw [upd_same] at hefz
                           have HEZ := Lib.hid hefz
                           obtain ⟨Az, cz, _, _, ez, _⟩ := hefz
                           have kz : World.cell? _ ⟨w.heap.size + 2, fr * 3 + 2, none⟩ = some (.int .i64 cur.c) := hvz.cell _ _ ez
                           have fz := hvz.free (fr * 3 + 2)
                           have qz := (hk11).cell 2 (.int .i64 τ.c) rfl
                           have hsum := HSUM.out
                           have H' := Lib.hid H11
                           have HVZ := Lib.hid hvz
                           have HENZ := Lib.hid hentz
                           clear ez H11 hk11 hvz hentz
                           go_region
                           go_wp2
                           clear hsum
                           go_roundw
                           case rel =>
                             have hstz := stored_cell HVZ.out (fr * 3 + 2) (.int .i64 (cur.c + τ.c))
                             have H12 := (H'.out).set1 HVZ.out hvlz HENZ.out (i := fr) (t := ⟨((⟨((m - lnW f ws fr te) * (m - lnW f ws fr te) + τ.u), ol, cur.c⟩ : Tl)).u, ((⟨((m - lnW f ws fr te) * (m - lnW f ws fr te) + τ.u), ol, cur.c⟩ : Tl)).b, cur.c + τ.c⟩) (by omega) (by omega) (by omega) hstz (fun k => ((HEZ.out).keep k).setC (by omega) _)
                             rw [upd_upd] at H12
                             refine ⟨j + 1, by omega, by rw [show fr + 1 + (j + 1) = te + 1 by have := HTE.out; omega]; go_num, ?_⟩
                             rw [HX2.out]
                             exact H12.drew
                           case measure => simp [intOf]; omega
                           )))
                    · have HX2 := Lib.hid (show rowI f ws m (tabI f ws m k) fr (j + 1) = ⟨cur.u, cur.b, cur.c + τ.c⟩ by rw [HST.out, if_neg (by rintro (h | h); exact hcc h; exact hul h)])
                      clear hcc
                      have hH8 := H8.out
                      go_wp2_with fail
                      clear k0 k2 q0 q1 q2 hvs8 hent8
                      obtain ⟨vsz, hvz, hvlz, hentz⟩ := (hH8).tab
                      have hefz := hentz fr (by omega)
                      rw [upd_same] at hefz
                      have HEZ := Lib.hid hefz
                      obtain ⟨Az, cz, _, _, ez, _⟩ := hefz
                      have kz : World.cell? _ ⟨w.heap.size + 2, fr * 3 + 2, none⟩ = some (.int .i64 cur.c) := hvz.cell _ _ ez
                      have fz := hvz.free (fr * 3 + 2)
                      have qz := (hk8).cell 2 (.int .i64 τ.c) rfl
                      have hsum := HSUM.out
                      have H' := Lib.hid hH8
                      have HVZ := Lib.hid hvz
                      have HENZ := Lib.hid hentz
                      clear ez hH8 hk8 hvz hentz
                      go_region
                      go_wp2
                      clear hsum
                      go_roundw
                      case rel =>
                        have hstz := stored_cell HVZ.out (fr * 3 + 2) (.int .i64 (cur.c + τ.c))
                        have H12 := (H'.out).set1 HVZ.out hvlz HENZ.out (i := fr) (t := ⟨(cur).u, (cur).b, cur.c + τ.c⟩) (by omega) (by omega) (by omega) hstz (fun k => ((HEZ.out).keep k).setC (by omega) _)
                        rw [upd_upd] at H12
                        refine ⟨j + 1, by omega, by rw [show fr + 1 + (j + 1) = te + 1 by have := HTE.out; omega]; go_num, ?_⟩
                        rw [HX2.out]
                        exact H12.drew
                      case measure => simp [intOf]; omega
            · obtain rfl : j = k := by omega
              have hX : upd (tabI f ws m j) fr cur = tabI f ws m (j + 1) := by rw [tabI, ← HFR.out, hcur]
              have h2 := h
              rw [hX] at h2
              clear h hX hcur
              have hte3 : ¬ te < ws.length := by omega
              clear hte
              go_wp2
              go_roundw
              case rel => exact ⟨j + 1, by omega, by first | go_num | (congr 1; omega), h2⟩
              case measure => simp [intOf] <;> omega
      · obtain rfl : k = ws.length := by omega
        have hres1 := h.res
        have hbel1 := h.below
        obtain ⟨vs, hvs, hvl, hent⟩ := h.tab
        obtain ⟨Ax, cx, e0, e1, e2, hbk⟩ := hent 0 (Nat.zero_le _)
        have c0 := hvs.cell _ _ e0
        have c1 := hvs.cell _ _ e1
        have c2 := hvs.cell _ _ e2
        rw [Nat.zero_mul] at c0 c1 c2
        rw [Nat.zero_add] at c1 c2
        have r0 := hres1.cell 0 _ rfl
        have r1 := hres1.cell 1 _ rfl
        have r2 := hres1.cell 2 _ rfl
        have f0 := hres1.free 0
        have f1 := hres1.free 1
        have f2 := hres1.free 2
        have hneg : (ws.length : Int) - 1 - (ws.length : Int) < 0 := by omega
        clear h hvs hent e0 e1 e2
        go_wp2
        have hst := stored3 hres1 rfl (.int .i64 (tabI f ws m ws.length 0).u) (.slice Ax (tabI f ws m ws.length 0).b.length cx) (.int .i64 (tabI f ws m ws.length 0).c)
        exact bodyPost_ret (v := .agg (tlV (tabI f ws m ws.length 0) Ax cx).toArray) (results_cell_row rfl _ _ _ 65 (tlV (tabI f ws m ws.length 0) Ax cx).toArray _ _ rfl hst.blk Tryz.underlying65 rfl szTg) rfl ⟨_, Ax, cx, rfl, hbk.keep (KeepI.of_stored hst hres1 (by decide)), hst.below _ _ hbel1 (by omega), fun hh => absurd hh h0, fun _ => rfl⟩
end Go.Proofs.YtdhngjjfoddnkaaGreatDoor
