/- Contracts for FnWidths, in the law's own words. -/
import Derived.Test.YtahggbaandcddaaGreatDoorWtI
import Derived.Test.YtahggbaandcddaaGreatDoorGG
namespace Go.Proofs.YtahggbaandcddaaGreatDoor
open Go Go.RowKit
set_option linter.unusedVariables false
set_option linter.unusedSimpArgs false

/-- What JustifyLine answers. -/
def jusR (f : Fc) (l : List UInt8) (m : Int) : List Int × Int := if lineW f l ≤ m ∧ 1 < (words l).length then (jusW f.space (m - lineW f l) (((words l).length - 1 : Nat) : Int) ((words l).length - 1), 0) else ([], 4)
theorem justR_spec (f : Fc) (S : Value) (l : List UInt8) (m : Int) (w : World) (hf : HasF w f S) (hV : validF f = true) (ht : vText l = true) (hm0 : 0 ≤ m ∧ m ≤ 4000) :
    Calls Tryz.prog 24 #[.agg (fcV f S).toArray, .string ⟨l.toArray⟩, .int .i64 m] w (WtOut w (jusR f l m).1 (jusR f l m).2) := by
  unfold jusR
  by_cases h : lineW f l ≤ m ∧ 1 < (words l).length
  · rw [if_pos h]
    exact just_spec f S l m _ ((words l).length - 1) w hf hV ht hm0 rfl (by omega) (by omega) (by omega)
  · rw [if_neg h]
    exact justN_spec f S l m hm0 h w hf hV ht
theorem justR_impl (f : Fc) (S : Value) (l : List UInt8) (m : Int) (w : World) (hf : HasF w f S) (hV : validF f = true) (ht : vText l = true) (hm0 : 0 ≤ m ∧ m ≤ 4000) (hmx : MaxW w) :
    Calls Tryz.prog 23 #[.agg (fcV f S).toArray, .string ⟨l.toArray⟩, .int .i64 m] w (WtOut w (jusR f l m).1 (jusR f l m).2) := by
  unfold jusR
  by_cases h : lineW f l ≤ m ∧ 1 < (words l).length
  · rw [if_pos h]
    exact just_impl f S l m _ ((words l).length - 1) w hf hV ht hm0 rfl (by omega) (by omega) (by omega) hmx
  · rw [if_neg h]
    exact justN_impl f S l m hm0 h w hf hV ht hmx
theorem widest_implL (f : Fc) (S : Value) (l : List UInt8) (b m : Int) (w : World) (hf : HasF w f S) (hV : validF f = true) (ht : vText l = true) (hne : ¬ words l = []) (h : (b, m) = bst f (words l) (words l).length) (hmx : MaxW w) (hsp : SpT w) :
    Calls Tryz.prog 17 #[.agg (fcV f S).toArray, .string ⟨l.toArray⟩] w fun e w' => e = .returned (.tuple #[.int .i64 b, .int .i64 m, .int .i64 0]) ∧ Below w.heap.size w w' := by
  obtain ⟨hft, A, n, c, rfl, hn, hm, hsl⟩ := hf
  refine (widest_impl f A n c ⟨l.toArray⟩ w hft hn (by omega) (size60 ht) hsl hmx hsp).mono fun e w' ⟨he, hb⟩ => ⟨he.trans ?_, hb⟩
  rw [bs_mk, widOut_ok hV ht hne, ← h]; rfl
theorem widest_specL (f : Fc) (S : Value) (l : List UInt8) (b m : Int) (w : World) (hf : HasF w f S) (hV : validF f = true) (ht : vText l = true) (hne : ¬ words l = []) (h : (b, m) = bst f (words l) (words l).length) :
    Calls Tryz.prog 18 #[.agg (fcV f S).toArray, .string ⟨l.toArray⟩] w fun e w' => e = .returned (.tuple #[.int .i64 b, .int .i64 m, .int .i64 0]) ∧ Below w.heap.size w w' := by
  obtain ⟨hft, A, n, c, rfl, hn, hm, hsl⟩ := hf
  refine (widest_spec f A n c ⟨l.toArray⟩ w hft hn (by omega) (size60 ht) hsl).mono fun e w' ⟨he, hb⟩ => ⟨he.trans ?_, hb⟩
  rw [bs_mk, widOut_ok hV ht hne, ← h]; rfl
theorem fit_ok {f : Fc} {l : List UInt8} {m r cd : Int} (hV : validF f = true) (ht : vText l = true) (hm0 : 0 ≤ m ∧ m ≤ 4000) (h : FitR f l m r cd) : cd = 0 ∧ ∃ k : Nat, r = (k : Int) ∧ FitAt f (words l) m k := by
  obtain ⟨h1, h2⟩ := h
  have h0 : cd = 0 := by rw [h1, askC_ok hV ht, inB_iff.2 hm0]; rfl
  rcases h2 with ⟨h2, _⟩ | ⟨_, h2⟩
  · exact absurd h0 h2
  · exact ⟨h0, h2⟩
theorem longest_implL (f : Fc) (S : Value) (l : List UInt8) (m : Int) (w : World) (hf : HasF w f S) (hV : validF f = true) (ht : vText l = true) (hm0 : 0 ≤ m ∧ m ≤ 4000) (hmx : MaxW w) (hsp : SpT w) :
    Calls Tryz.prog 25 #[.agg (fcV f S).toArray, .string ⟨l.toArray⟩, .int .i64 m] w fun e w' => ∃ k : Nat, (e = .returned (.tuple #[.int .i64 (k : Int), .int .i64 0]) ∧ FitAt f (words l) m k) ∧ Below w.heap.size w w' := by
  obtain ⟨hft, A, n, c, rfl, hn, hm, hsl⟩ := hf
  refine (longest_impl f A n c ⟨l.toArray⟩ m w hft hn (by omega) (size60 ht) hsl hmx hsp).mono fun e w' ⟨r, cd, he, hr, hb⟩ => ?_
  rw [bs_mk] at hr
  obtain ⟨rfl, k, rfl, hk⟩ := fit_ok hV ht hm0 hr
  exact ⟨k, ⟨he, hk⟩, hb⟩
theorem longest_specL (f : Fc) (S : Value) (l : List UInt8) (m : Int) (w : World) (hf : HasF w f S) (hV : validF f = true) (ht : vText l = true) (hm0 : 0 ≤ m ∧ m ≤ 4000) :
    Calls Tryz.prog 26 #[.agg (fcV f S).toArray, .string ⟨l.toArray⟩, .int .i64 m] w fun e w' => ∃ k : Nat, (e = .returned (.tuple #[.int .i64 (k : Int), .int .i64 0]) ∧ FitAt f (words l) m k) ∧ Below w.heap.size w w' := by
  obtain ⟨hft, A, n, c, rfl, hn, hm, hsl⟩ := hf
  refine (longest_spec f A n c ⟨l.toArray⟩ m w hft hn (by omega) (size60 ht) hsl).mono fun e w' ⟨r, cd, he, hr, hb⟩ => ?_
  rw [bs_mk] at hr
  obtain ⟨rfl, k, rfl, hk⟩ := fit_ok hV ht hm0 hr
  exact ⟨k, ⟨he, hk⟩, hb⟩
/-- The first words, as a slice. -/
theorem exec_sliceT {o : Oper} {a : Act} {w : World} (x hi : Operand) (ho : o.op = .slice 36 x none (some hi) none) (A : Option Addr) (n c h : Nat) (hx : a.eval x = .slice A n c) (hh : a.eval hi = .int .i64 (h : Int)) (hc : h ≤ c) :
    (execOp a.eval o).run Tryz.prog w = .ok (.value (.slice A h c)) w := by
  have hz : (Tryz.prog.info? 9).map (·.size) = some 1 := by kernel_rfl
  cases hq : Tryz.prog.info? 9 with
  | none => rw [hq] at hz; cases hz
  | some i =>
    have hid : A.map (·.add 0) = A := by
      cases A with
      | none => rfl
      | some p => simp [Addr.add]
    unfold execOp
    by_cases hne : c = 0
    · obtain rfl : h = 0 := by omega
      simp [ho, hx, hh, Instr.sliceAt, Instr.slice, Instr.sliceBounds, Instr.sliceBound, asIntOf, Sem.run_bind, run_underlying Tryz.underlying36, hc, hne, sizeOf, typeInfo, hq]
    · simp [ho, hx, hh, Instr.sliceAt, Instr.slice, Instr.sliceBounds, Instr.sliceBound, asIntOf, Sem.run_bind, run_underlying Tryz.underlying36, hc, hne, sizeOf, typeInfo, hq, hid]
theorem slE_take {w : World} {A : Option Addr} {ws : List (List UInt8)} (h : SlE sv w A ws) (k : Nat) : SlE sv w A (ws.take k) := by
  intro i x hx
  rw [List.getElem?_take] at hx
  split at hx
  · exact h i x hx
  · cases hx
theorem ws_take {ws : List (List UInt8)} (h : Ws ws) (k : Nat) : Ws (ws.take k) := ⟨fun x hx => h.isw x (List.mem_of_mem_take hx), fun x hx => h.len x (List.mem_of_mem_take hx), by
  have := h.many
  rw [List.length_take]; omega⟩
/-- The law's words about a face and a text, named. -/
structure WtO (f : Fc) (l : List UInt8) (ws : List (List UInt8)) (PL : List Int) (due : Int) : Prop where
  we : ws = words l
  pe : PL = plcA f ws ws.length
  de : due = lineW f l
  vF : FcV f
  tx : vText l = true
theorem WtO.ws {f l ws PL due} (h : WtO f l ws PL due) : Ws ws := by rw [h.we]; exact ws_words h.tx
theorem WtO.due_in {f l ws PL due} (h : WtO f l ws PL due) : 0 ≤ due ∧ due ≤ 3600 := by rw [h.de]; exact lineW_range h.vF h.tx
theorem WtO.pl60 {f l ws PL due} (h : WtO f l ws PL due) : PL.length ≤ 60 := by
  rw [h.pe, h.we, plcA_lets f h.tx]
  have := lets_length l
  have := vText_len60 h.tx
  omega
theorem WtO.word {f l ws PL due} (h : WtO f l ws PL due) {i : Nat} (hi : i < ws.length) : LL (rdW ws i) ∧ 1 ≤ (rdW ws i).length ∧ (rdW ws i).length ≤ 60 :=
  have hm := rdW_mem hi
  ⟨(h.ws.isw _ hm).1, (h.ws.isw _ hm).2, h.ws.len _ hm⟩
theorem WtO.ends {f l ws PL due} (h : WtO f l ws PL due) : endW f ws ws.length 0 = due ∧ (plcA f ws ws.length).length = PL.length := by
  refine ⟨?_, by rw [h.pe]⟩
  rw [h.de, h.we, endW_all f h.tx]
theorem WtO.sums {f l ws PL due} (h : WtO f l ws PL due) : sumW f ws ws.length = due := by rw [h.de, h.we, sumW_line f h.tx]
theorem WtO.none {f l ws PL due} (h : WtO f l ws PL due) : 0 < due ↔ ¬ ws = [] := by rw [h.de, h.we]; exact lineW_pos h.vF h.tx
theorem WtO.plr {f l ws PL due} (h : WtO f l ws PL due) {i : Nat} (hi : i < PL.length) : 0 ≤ rdI PL i ∧ rdI PL i ≤ 3600 := by
  have e : PL = plcA f (words l) (words l).length := by rw [h.pe, h.we]
  rw [e] at hi ⊢
  exact (plcA_rng h.vF h.tx hi).1
end Go.Proofs.YtahggbaandcddaaGreatDoor
