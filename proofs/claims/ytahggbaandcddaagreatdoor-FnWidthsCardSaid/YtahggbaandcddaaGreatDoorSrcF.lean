/- Contracts: a pair is put into a face (the reference's way): the face that comes back is valid. -/
import Derived.Test.YtahggbaandcddaaGreatDoorSrcA
import Derived.Test.YtahggbaandcddaaGreatDoorHelS
import Derived.Test.YtahggbaandcddaaGreatDoorGD
import Derived.Test.YtahggbaandcddaaGreatDoorGC
import Derived.Test.YtahggbaandcddaaGreatDoorGA
import Derived.Test.YtahggbaandcddaaGreatDoorPick
import Derived.BigRegion



namespace Go.Proofs.YtahggbaandcddaaGreatDoor
open Go Go.RowKit
set_option linter.unusedVariables false
set_option linter.unusedSimpArgs false

theorem gen_calls {P : Program} {f : FuncId} {args : Array Value} {Q : Ending → World → Prop} {W0 : World} (F : World → Prop) (h0 : F W0) (h : ∀ W, F W → Calls P f args W Q) : Calls P f args W0 Q := h W0 h0
theorem elPr : El Tryz.prog 26 78 (.agg #[.int .u8 0, .int .u8 0, .int .i8 0]) 3 3 := ⟨Tryz.underlying26, infoPr, by kernel_rfl, by decide⟩
/-- 'append(xs, u)': a pair, in the block that was made last. -/
theorem wpList_appP {ops : Array Oper} {rest : List Oper} {o : Oper} {a : Act} {Q : Exit → Act → World → Prop} (hgd : o.guard = none) (s x : Operand)
    (ho : o.op = .call { callee := .builtin .append, args := #[s, x], argTypes := #[26, 26] })
    (W : World) (base : Nat) (v : Value) (ps : List Pr) (n : Nat) (hs : a.eval s = v) (hown : W.ownsRow base 78 3 v n (prVs ps)) (u : Pr) (hx : a.eval x = .slice (some ⟨W.heap.size, 0, none⟩) 1 1)
    (hn : n ≤ 1048576) (hbase : base ≤ W.heap.size)
    (h : ∀ v' w', w'.ownsRow base 78 3 v' (n + 1) (prVs (ps ++ [u])) → W.grownBy w' v.ownBlock → wpList Tryz.prog ops Q rest (a.put o.dst v') w') : wpList Tryz.prog ops Q (o :: rest) a (W.alloc (.cells (prV u).toArray 78)) := by
  obtain ⟨i, hi, hz, hsz, hby⟩ := info_parts elPr.info
  have hnew : ∀ j y, (prV u)[j]? = some y → (W.alloc (.cells (prV u).toArray 78)).cell? ((⟨W.heap.size, 0, none⟩ : Addr).add j) = some y := fun j y hy => by
    rw [add_mid, Nat.zero_add]
    exact (Blk.new W 78 (prV u)).cell j y hy
  refine wpList_append_own _ hgd s x 26 ho base 78 i _ 3 3 elPr.under hi hz hsz hby elPr.cells (by omega) v n _ hs (hown.alloc _) ⟨W.heap.size, 0, none⟩ 1 1 (prV u) hx (by simp [prV]) hnew (fun y hy => by simp [prV] at hy; rcases hy with rfl | rfl | rfl <;> rfl) (by unfold maxLen; omega) (by omega) (by simp; omega) ?_
  intro v' w' ho' hg' _
  refine h v' w' ?_ (grownBy_trans (World.grownBy_alloc _ _ _) hg')
  rw [prVs_append]
  simpa [prVs] using ho'

theorem SlP.setC {w : World} {A : Option Addr} {ps : List Pr} {b i : Nat} {u : Value} (h : SlP w A ps) (hne : ∀ a, A = some a → a.block ≠ b) : SlP (w.setCell ⟨b, i, none⟩ u) A ps := by
  intro j q hq
  obtain ⟨a, e, hr⟩ := h j q hq
  refine ⟨a, e, fun k x hx => ?_⟩
  have := hr k x hx
  have hab : ((a.add (j * 3)).add k).block = a.block := by rw [add_addr]; unfold Addr.add; split <;> rfl
  rw [← this]
  unfold World.cell?
  rw [heap_setCell_other w ⟨b, i, none⟩ _ u (by rw [hab]; exact hne a e)]
theorem SlP.setR {w : World} {A : Option Addr} {ps : List Pr} {b : Nat} {cs : Array Value} (h : SlP w A ps) (hne : ∀ a, A = some a → a.block ≠ b) : SlP (w.setRow b cs) A ps := by
  intro j q hq
  obtain ⟨a, e, hr⟩ := h j q hq
  refine ⟨a, e, fun k x hx => ?_⟩
  have := hr k x hx
  have hab : ((a.add (j * 3)).add k).block = a.block := by rw [add_addr]; unfold Addr.add; split <;> rfl
  rw [← this]
  unfold World.cell?
  rw [Go.setRow_other w b _ cs (by rw [hab]; exact hne a e)]

/-- A face as it is made: all zero. -/
def fc0 : Fc := ⟨List.replicate 26 0, 0, 0, []⟩
theorem fc0_T : FcT fc0 := ⟨rfl, fun i hi => by unfold fc0 rdI; rw [List.getD_eq_getElem?_getD, List.getElem?_replicate, if_pos hi]; simp, by unfold fc0; simp, by unfold fc0; simp, fun i hi => by unfold fc0 at hi; simp at hi⟩
/-- A face that was drawn, its pairs behind block b. -/
structure FcD (w : World) (b : Nat) (f : Fc) (S : Value) : Prop where
  typ : FcT f
  mem : ∃ A n c, S = .slice A n c ∧ f.pairs.length = n ∧ n ≤ 1048576 ∧ SlP w A f.pairs ∧ ∀ a, A = some a → b < a.block ∧ a.block < w.heap.size
theorem fc0_D (w : World) (b : Nat) : FcD w b fc0 (.slice none 0 0) := ⟨fc0_T, none, 0, 0, rfl, rfl, by omega, SlP.nil, fun a e => by cases e⟩
theorem FcD.next {w w' : World} {b : Nat} {f : Fc} {S : Value} (h : FcD w b f S) (hb : Below w.heap.size w w') : FcD w' b f S := by
  obtain ⟨h1, A, n, c, e, h2, h3, h4, h5⟩ := h
  exact ⟨h1, A, n, c, e, h2, h3, h4.next hb, fun a e => ⟨(h5 a e).1, by have := (h5 a e).2; have := hb.size; omega⟩⟩
/-- The face, with other pairs. -/
def withP (f : Fc) (ps : List Pr) : Fc := ⟨f.wide, f.space, f.gap, ps⟩
theorem withP_T {f : Fc} {ps : List Pr} (h : FcT f) (hp : ∀ i, i < ps.length → PrT (rdP ps i)) : FcT (withP f ps) := ⟨h.len, h.wide, h.space, h.gap, hp⟩
theorem prT_app {ps : List Pr} {u : Pr} (hp : ∀ i, i < ps.length → PrT (rdP ps i)) (hu : PrT u) : ∀ i, i < (ps ++ [u]).length → PrT (rdP (ps ++ [u]) i) := by
  intro i hi
  rw [List.length_append, List.length_singleton] at hi
  by_cases h : i < ps.length
  · have : rdP (ps ++ [u]) i = rdP ps i := by unfold rdP; rw [List.getD_eq_getElem?_getD, List.getD_eq_getElem?_getD, List.getElem?_append_left h]
    rw [this]; exact hp i h
  · have : rdP (ps ++ [u]) i = u := by unfold rdP; rw [List.getD_eq_getElem?_getD, List.getElem?_append_right (by omega)]; simp [show i - ps.length = 0 by omega]
    rw [this]; exact hu
/-- What WithPair has made. -/
structure WpRel (w : World) (f : Fc) (p : Pr) (S : Value) (ps : List Pr) (v : Value) (wr : World) : Prop where
  own : wr.ownsRow (w.heap.size + 3) 78 3 v ps.length (prVs ps)
  b2 : Blk wr w.heap.size 28 (fcV f S)
  b3 : Blk wr (w.heap.size + 1) 78 (prV p)
  b4 : Blk wr (w.heap.size + 1 + 1) 28 (fcV fc0 (.slice none 0 0))
  below : Below w.heap.size w wr
  typ : ∀ i, i < ps.length → PrT (rdP ps i)
  size : w.heap.size + 3 ≤ wr.heap.size
theorem WpRel.next {w wr w' : World} {f : Fc} {p : Pr} {S v : Value} {ps : List Pr} (h : WpRel w f p S ps v wr) (hb : Below wr.heap.size wr w') : WpRel w f p S ps v w' :=
  ⟨h.own.kept (grown_below (row := none) hb) (Classical.em _), h.b2.next hb, h.b3.next hb, h.b4.next hb, below_step h.below hb, h.typ, by have := hb.size; have := h.size; omega⟩
theorem WpRel.app {w wr w' : World} {f : Fc} {p u : Pr} {S v v' : Value} {ps : List Pr} (h : WpRel w f p S ps v wr) (ho : w'.ownsRow (w.heap.size + 3) 78 3 v' (ps.length + 1) (prVs (ps ++ [u]))) (hg : wr.grownBy w' v.ownBlock) (hu : PrT u) : WpRel w f p S (ps ++ [u]) v' w' := by
  refine ⟨by rw [List.length_append]; exact ho, h.b2.grown hg (own_ne h.own (by omega)), h.b3.grown hg (own_ne h.own (by omega)), h.b4.grown hg (own_ne h.own (by omega)), below_own h.below h.own hg (by omega) (by have := h.size; omega), prT_app h.typ hu, by have := hg.size; have := h.size; omega⟩

theorem own_slP {w : World} {base n : Nat} {v : Value} {ps : List Pr} (h : w.ownsRow base 78 3 v n (prVs ps)) : ∃ A c, v = .slice A n c ∧ ps.length = n ∧ SlP w A ps ∧ ∀ a, A = some a → base ≤ a.block ∧ a.block < w.heap.size := by
  obtain ⟨hl, h⟩ := h
  rw [prVs_length] at hl
  have hl2 : ps.length = n := by omega
  rcases h with ⟨rfl, rfl⟩ | ⟨g, cap, cur, rfl, hg, hh, hc, hm, hs, ht⟩
  · obtain rfl : ps = [] := List.eq_nil_of_length_eq_zero hl2
    exact ⟨none, 0, rfl, rfl, SlP.nil, fun a e => by cases e⟩
  · refine ⟨some ⟨g, 0, none⟩, cap, rfl, hl2, SlP.of_blk (t := 78) (cs := cur.toList.drop (n * 3)) ?_, fun a e => by injection e with e; subst e; exact ⟨hg, (Array.getElem?_eq_some_iff.1 hh).1⟩⟩
    unfold Blk
    rw [hh, ← ht, List.take_append_drop]
theorem fcV_set (f : Fc) (hf : FcT f) (S S' : Value) (ps : List Pr) : (fcV f S).set 28 S' = fcV (withP f ps) S' := by
  unfold fcV withP
  rw [List.set_append_right _ _ (by simp [hf.len])]
  simp [hf.len]
theorem withP_id (f : Fc) : withP f f.pairs = f := rfl
/-- The memory that WithPair begins with. -/
structure WpSt (w : World) (f : Fc) (p : Pr) (S : Value) (W : World) : Prop where
  b2 : Blk W w.heap.size 28 (fcV f S)
  b3 : Blk W (w.heap.size + 1) 78 (prV p)
  b4 : Blk W (w.heap.size + 1 + 1) 28 (fcV fc0 (.slice none 0 0))
  below : Below w.heap.size w W
  size : W.heap.size = w.heap.size + 3
theorem WpSt.start (w : World) (f : Fc) (p : Pr) (S : Value) :
    WpSt w f p S (((w.alloc (.cells (fcV f S).toArray 28)).alloc (.cells (prV p).toArray 78)).alloc (.cells (fcV fc0 (.slice none 0 0)).toArray 28)) :=
  ⟨((Blk.new w _ _).alloc _).alloc _, (Blk.at_new _ _ _ (by simp) _ _ rfl).alloc _, Blk.at_new _ _ _ (by simp) _ _ rfl, below_three _ _ _ _, by simp⟩

attribute [local irreducible] wpQuiet in
set_option maxHeartbeats 4000000 in
set_option maxRecDepth 100000 in
theorem with_any (f : Fc) (A : Option Addr) (n c : Nat) (p : Pr) (w : World) (hf : FcT f) (hp : PrT p) (hv : validF f = true) (pa : isLet p.a = true) (pb : isLet p.b = true) (hn : f.pairs.length = n) (hm : n ≤ 12) (hs : SlP w A f.pairs) :
    Calls Tryz.prog 60 #[.agg (fcV f (.slice A n c)).toArray, .agg (prV p).toArray] w fun e w' => ∃ (g : Fc) (S : Value) (code : Int), e = .returned (.tuple #[.agg (fcV g S).toArray, .int .i64 code]) ∧ (code = 0 → validF g = true) ∧ FcD w' (w.heap.size - 1) g S ∧ Below w.heap.size w w' := by
  have HS := Lib.hid hs
  have HN := Lib.hid hn
  have HF := Lib.hid hf
  have HP := Lib.hid hp
  have HV := Lib.hid hv
  have HPA := Lib.hid pa
  have HPB := Lib.hid pb
  clear hs hn hf hp hv pa pb
  go_enter Tryz.func60, Tryz.ntmps60
  repeat (first | go_values | go_skip | go_guarded | go_step | go_upon)
  refine gen_calls (WpSt w f p (.slice A n c)) (WpSt.start w f p (.slice A n c)) ?_
  rintro W0 ⟨k2, k3, k4, hB0, hz0⟩
  have K2 := Lib.hid k2
  have K3 := Lib.hid k3
  have K4 := Lib.hid k4
  clear k2 k3 k4
  go_at_call 50
  refine (face_spec f n w.heap.size W0 HF.out HN.out (by omega) ⟨A, c, K2.out, HS.out.next hB0⟩).mono ?_
  rintro e w1 ⟨he, hb1⟩
  rw [HV.out] at he
  subst he
  dsimp only
  have hB1 := Lib.hid (below_step hB0 hb1)
  have J2 := Lib.hid (K2.out.next hb1)
  have J3 := Lib.hid (K3.out.next hb1)
  have J4 := Lib.hid (K4.out.next hb1)
  have hz1 : w.heap.size + 3 ≤ w1.heap.size := by have := hb1.size; omega
  clear hB0 hz0 hb1 K2 K3 K4
  have c30 := J3.out.cell 0 _ rfl
  have c31 := J3.out.cell 1 _ rfl
  have c32 := J3.out.cell 2 _ rfl
  have HPY : ∃ b, ((p.y : Int) == 0) = b := ⟨_, rfl⟩
  obtain ⟨d0, hd0⟩ := HPY
  repeat (first | go_values | go_skip | go_guarded | go_step | go_upon)
  go_at_call 66
  refine (letter_spec p.a w1).mono ?_
  rintro e w2 ⟨he, rfl⟩
  rw [HPA.out] at he
  subst he
  dsimp only
  repeat (first | go_values | go_skip | go_guarded | go_step | go_upon)
  go_at_call 66
  refine (letter_spec p.b w1).mono ?_
  rintro e w2 ⟨he, rfl⟩
  rw [HPB.out] at he
  subst he
  dsimp only
  repeat ((with_reducible fail_if_success (show wpList _ _ _ (⟨some 23, _, _, _, _, _⟩ :: _) _ _)); first | go_values | go_skip | go_guarded | go_step | go_upon)
  refine wpList_val (by kernel_rfl) (.slice (some ⟨w1.heap.size, 0, none⟩) 0 0) (w1.alloc (.cells #[] 78)) (by kernel_rfl) ?_
  have hown := own_empty w1 w1.heap.size rfl (w.heap.size + 3) 78 hz1 3
  have hbb := below_one w1 (.cells #[] 78)
  have HR0 := Lib.hid (show WpRel w f p (.slice A n c) [] (.slice (some ⟨w1.heap.size, 0, none⟩) 0 0) (w1.alloc (.cells #[] 78)) from ⟨hown, J2.out.next hbb, J3.out.next hbb, J4.out.next hbb, below_step hB1.out hbb, fun i hi => by simp at hi, by simp; omega⟩)
  generalize w1.alloc (.cells #[] 78) = W1 at *
  clear hown hbb c30 c31 c32 J2 J3 J4 hB1 hz1
  have c32 := HR0.out.b3.cell 2 _ rfl
  repeat ((with_reducible fail_if_success (show Code.wp _ (Code.loop _) _ _ _)); first | go_values | go_skip | go_guarded | go_step | go_upon)
  try rw [hd0]
  go_loopw [6, 7, 8] (fun l d i wr => ∃ (k : Nat) (b : Bool) (ps : List Pr), k ≤ n ∧ i = .int .i64 k ∧ d = .bool b ∧ ps.length ≤ 2 * k ∧ WpRel w f p (.slice A n c) ps l wr) (fun _ _ i _ => n - (intOf i).toNat)
  case atStart => exact ⟨0, _, [], by omega, rfl, rfl, by simp, HR0.out⟩
  clear HR0 hd0 c32
  case round =>
    obtain ⟨k, b, ps, hk, rfl, rfl, hl, hr⟩ := hrel
    have HR := Lib.hid hr
    clear hr
    have c28 := HR.out.b2.cell 28 _ (fcV_pairs HF.out _)
    by_cases hlt : k < n
    · obtain ⟨a, rfl, hrow⟩ := (HS.out.next HR.out.below).get k (by rw [HN.out]; exact hlt)
      have ROW := Lib.hid hrow
      clear hrow
      cases b
      · cases hah : ahead p (rdP f.pairs k)
        · skip
          repeat ((with_reducible fail_if_success (show Code.wp _ (Code.region 10 _ _) _ _ _)); first | go_values | go_skip | go_guarded | go_step | go_upon)
          refine region_below (wr.heap.size) (by kernel_rfl) (by kernel_rfl) ?_
          refine below_run (by kernel_rfl) (.bool false) (fun w' hw' => by kernel_rfl) ?_
          refine below_run (by kernel_rfl) (.bool true) (fun w' hw' => by kernel_rfl) ?_
          refine below_run (by kernel_rfl) (.bool true) (fun w' hw' => by kernel_rfl) ?_
          refine below_run (by kernel_rfl) (.agg (prV p).toArray) (fun w' hw' => exec_loadV 78 (.tmp 3) rfl ⟨w.heap.size + 1, 0, none⟩ (by kernel_rfl) (prV p) _ (pr_row (HR.out.b3.next hw')) Tryz.underlying78 rfl szPrI) ?_
          refine below_run (by kernel_rfl) (.pointer (some ⟨w.heap.size, 28, none⟩)) (fun w' hw' => by kernel_rfl) ?_
          refine below_run (by kernel_rfl) (.slice (some a) n c) (fun w' hw' => exec_load1 26 (.tmp 38) rfl ⟨w.heap.size, 28, none⟩ (by kernel_rfl) (.slice (some a) n c) ((HR.out.b2.next hw').cell 28 _ (fcV_pairs HF.out _)) _ Tryz.underlying26 rfl) ?_
          refine below_run (by kernel_rfl) (.int .i64 k) (fun w' hw' => by kernel_rfl) ?_
          refine below_run (by kernel_rfl) (.pointer (some (Addr.add a (k * 3)))) (fun w' hw' => exec_index 26 (.tmp 39) (.tmp 40) rfl a n c (by kernel_rfl) .i64 k (by kernel_rfl) hlt 78 Tryz.underlying26 3 szPrI) ?_
          refine below_run (by kernel_rfl) (.agg (prV (rdP f.pairs k)).toArray) (fun w' hw' => exec_loadV 78 (.tmp 41) rfl (a.add (k * 3)) (by kernel_rfl) (prV (rdP f.pairs k)) _ (ROW.out.next hw') Tryz.underlying78 rfl szPrI) ?_
          refine below_call (by kernel_rfl) 80 #[.agg (prV p).toArray, .agg (prV (rdP f.pairs k)).toArray] (.bool false) (fun w' => by kernel_rfl) (fun w' hw' => (ahead_is _ _ w' hah).mono fun e w1 ⟨he, hb1⟩ => ⟨he, below_step hw' hb1⟩) ?_
          refine below_run (by kernel_rfl) (.bool false) (fun w' hw' => by kernel_rfl) ?_
          refine wpQuiet_nil ?_
          intro W2 hW2
          simp only [Act.put, List.setIfInBounds_toArray, List.set_cons_succ, List.set_cons_zero]
          have HR2 := Lib.hid (HR.out.next hW2)
          have ROW2 := Lib.hid (ROW.out.next hW2)
          clear hW2
          cases hq1 : ((rdP f.pairs k).a != p.a)
          · cases hq2 : ((rdP f.pairs k).b != p.b)
            · skip
              repeat ((with_reducible fail_if_success (show Code.wp _ (Code.region 13 _ _) _ _ _)); first | go_values | go_skip | go_guarded | go_step | go_upon)
              refine region_below (W2.heap.size) (by kernel_rfl) (by kernel_rfl) ?_
              refine below_run (by kernel_rfl) (.pointer (some ⟨w.heap.size, 28, none⟩)) (fun w' hw' => by kernel_rfl) ?_
              refine below_run (by kernel_rfl) (.slice (some a) n c) (fun w' hw' => exec_load1 26 (.tmp 49) rfl ⟨w.heap.size, 28, none⟩ (by kernel_rfl) (.slice (some a) n c) ((HR2.out.b2.next hw').cell 28 _ (fcV_pairs HF.out _)) _ Tryz.underlying26 rfl) ?_
              refine below_run (by kernel_rfl) (.int .i64 k) (fun w' hw' => by kernel_rfl) ?_
              refine below_run (by kernel_rfl) (.pointer (some (Addr.add a (k * 3)))) (fun w' hw' => exec_index 26 (.tmp 50) (.tmp 51) rfl a n c (by kernel_rfl) .i64 k (by kernel_rfl) hlt 78 Tryz.underlying26 3 szPrI) ?_
              refine below_run (by kernel_rfl) (.pointer (some ((a.add (k * 3)).add 0))) (fun w' hw' => by kernel_rfl) ?_
              refine below_run (by kernel_rfl) (.int .u8 (rdP f.pairs k).a) (fun w' hw' => exec_load1 5 (.tmp 53) rfl ((a.add (k * 3)).add 0) (by kernel_rfl) (.int .u8 (rdP f.pairs k).a) ((pr_cells (ROW2.out.next hw')).1) _ Tryz.underlying5 rfl) ?_
              refine below_run (by kernel_rfl) (.pointer (some ⟨w.heap.size + 1, 0, none⟩)) (fun w' hw' => by kernel_rfl) ?_
              refine below_run (by kernel_rfl) (.int .u8 p.a) (fun w' hw' => exec_load1 5 (.tmp 55) rfl ⟨w.heap.size + 1, 0, none⟩ (by kernel_rfl) (.int .u8 p.a) ((HR2.out.b3.next hw').cell 0 _ rfl) _ Tryz.underlying5 rfl) ?_
              refine below_run (by kernel_rfl) (.bool false) (fun w' hw' => Eq.trans (show (execOp _ _).run _ w' = .ok (.value (.bool ((rdP f.pairs k).a != p.a))) w' by kernel_rfl) (by rw [hq1])) ?_
              refine below_run (by kernel_rfl) (.bool false) (fun w' hw' => by kernel_rfl) ?_
              refine below_run (by kernel_rfl) (.pointer (some ⟨w.heap.size, 28, none⟩)) (fun w' hw' => by kernel_rfl) ?_
              refine below_run (by kernel_rfl) (.slice (some a) n c) (fun w' hw' => exec_load1 26 (.tmp 59) rfl ⟨w.heap.size, 28, none⟩ (by kernel_rfl) (.slice (some a) n c) ((HR2.out.b2.next hw').cell 28 _ (fcV_pairs HF.out _)) _ Tryz.underlying26 rfl) ?_
              refine below_run (by kernel_rfl) (.int .i64 k) (fun w' hw' => by kernel_rfl) ?_
              refine below_run (by kernel_rfl) (.pointer (some (Addr.add a (k * 3)))) (fun w' hw' => exec_index 26 (.tmp 60) (.tmp 61) rfl a n c (by kernel_rfl) .i64 k (by kernel_rfl) hlt 78 Tryz.underlying26 3 szPrI) ?_
              refine below_run (by kernel_rfl) (.pointer (some ((a.add (k * 3)).add 1))) (fun w' hw' => by kernel_rfl) ?_
              refine below_run (by kernel_rfl) (.int .u8 (rdP f.pairs k).b) (fun w' hw' => exec_load1 5 (.tmp 63) rfl ((a.add (k * 3)).add 1) (by kernel_rfl) (.int .u8 (rdP f.pairs k).b) ((pr_cells (ROW2.out.next hw')).2.1) _ Tryz.underlying5 rfl) ?_
              refine below_run (by kernel_rfl) (.pointer (some ⟨w.heap.size + 1, 1, none⟩)) (fun w' hw' => by kernel_rfl) ?_
              refine below_run (by kernel_rfl) (.int .u8 p.b) (fun w' hw' => exec_load1 5 (.tmp 65) rfl ⟨w.heap.size + 1, 1, none⟩ (by kernel_rfl) (.int .u8 p.b) ((HR2.out.b3.next hw').cell 1 _ rfl) _ Tryz.underlying5 rfl) ?_
              refine below_run (by kernel_rfl) (.bool false) (fun w' hw' => Eq.trans (show (execOp _ _).run _ w' = .ok (.value (.bool ((rdP f.pairs k).b != p.b))) w' by kernel_rfl) (by rw [hq2])) ?_
              refine below_run (by kernel_rfl) (.bool false) (fun w' hw' => by kernel_rfl) ?_
              refine wpQuiet_nil ?_
              intro W3 hW3
              simp only [Act.put, List.setIfInBounds_toArray, List.set_cons_succ, List.set_cons_zero]
              have H3 := Lib.hid (HR2.out.next hW3)
              have ROW3 := Lib.hid (ROW2.out.next hW3)
              have c28 := H3.out.b2.cell 28 _ (fcV_pairs HF.out _)
              clear hW3
              repeat (first | go_values | go_skip | go_guarded | go_step | go_upon)
              go_roundw
              case rel => exact ⟨k + 1, false, ps, by omega, by go_num, rfl, by (try simp only [List.length_append, List.length_singleton]); omega, H3.out⟩
              case measure => simp [intOf]; omega
            · skip
              repeat ((with_reducible fail_if_success (show Code.wp _ (Code.region 13 _ _) _ _ _)); first | go_values | go_skip | go_guarded | go_step | go_upon)
              refine region_below (W2.heap.size) (by kernel_rfl) (by kernel_rfl) ?_
              refine below_run (by kernel_rfl) (.pointer (some ⟨w.heap.size, 28, none⟩)) (fun w' hw' => by kernel_rfl) ?_
              refine below_run (by kernel_rfl) (.slice (some a) n c) (fun w' hw' => exec_load1 26 (.tmp 49) rfl ⟨w.heap.size, 28, none⟩ (by kernel_rfl) (.slice (some a) n c) ((HR2.out.b2.next hw').cell 28 _ (fcV_pairs HF.out _)) _ Tryz.underlying26 rfl) ?_
              refine below_run (by kernel_rfl) (.int .i64 k) (fun w' hw' => by kernel_rfl) ?_
              refine below_run (by kernel_rfl) (.pointer (some (Addr.add a (k * 3)))) (fun w' hw' => exec_index 26 (.tmp 50) (.tmp 51) rfl a n c (by kernel_rfl) .i64 k (by kernel_rfl) hlt 78 Tryz.underlying26 3 szPrI) ?_
              refine below_run (by kernel_rfl) (.pointer (some ((a.add (k * 3)).add 0))) (fun w' hw' => by kernel_rfl) ?_
              refine below_run (by kernel_rfl) (.int .u8 (rdP f.pairs k).a) (fun w' hw' => exec_load1 5 (.tmp 53) rfl ((a.add (k * 3)).add 0) (by kernel_rfl) (.int .u8 (rdP f.pairs k).a) ((pr_cells (ROW2.out.next hw')).1) _ Tryz.underlying5 rfl) ?_
              refine below_run (by kernel_rfl) (.pointer (some ⟨w.heap.size + 1, 0, none⟩)) (fun w' hw' => by kernel_rfl) ?_
              refine below_run (by kernel_rfl) (.int .u8 p.a) (fun w' hw' => exec_load1 5 (.tmp 55) rfl ⟨w.heap.size + 1, 0, none⟩ (by kernel_rfl) (.int .u8 p.a) ((HR2.out.b3.next hw').cell 0 _ rfl) _ Tryz.underlying5 rfl) ?_
              refine below_run (by kernel_rfl) (.bool false) (fun w' hw' => Eq.trans (show (execOp _ _).run _ w' = .ok (.value (.bool ((rdP f.pairs k).a != p.a))) w' by kernel_rfl) (by rw [hq1])) ?_
              refine below_run (by kernel_rfl) (.bool false) (fun w' hw' => by kernel_rfl) ?_
              refine below_run (by kernel_rfl) (.pointer (some ⟨w.heap.size, 28, none⟩)) (fun w' hw' => by kernel_rfl) ?_
              refine below_run (by kernel_rfl) (.slice (some a) n c) (fun w' hw' => exec_load1 26 (.tmp 59) rfl ⟨w.heap.size, 28, none⟩ (by kernel_rfl) (.slice (some a) n c) ((HR2.out.b2.next hw').cell 28 _ (fcV_pairs HF.out _)) _ Tryz.underlying26 rfl) ?_
              refine below_run (by kernel_rfl) (.int .i64 k) (fun w' hw' => by kernel_rfl) ?_
              refine below_run (by kernel_rfl) (.pointer (some (Addr.add a (k * 3)))) (fun w' hw' => exec_index 26 (.tmp 60) (.tmp 61) rfl a n c (by kernel_rfl) .i64 k (by kernel_rfl) hlt 78 Tryz.underlying26 3 szPrI) ?_
              refine below_run (by kernel_rfl) (.pointer (some ((a.add (k * 3)).add 1))) (fun w' hw' => by kernel_rfl) ?_
              refine below_run (by kernel_rfl) (.int .u8 (rdP f.pairs k).b) (fun w' hw' => exec_load1 5 (.tmp 63) rfl ((a.add (k * 3)).add 1) (by kernel_rfl) (.int .u8 (rdP f.pairs k).b) ((pr_cells (ROW2.out.next hw')).2.1) _ Tryz.underlying5 rfl) ?_
              refine below_run (by kernel_rfl) (.pointer (some ⟨w.heap.size + 1, 1, none⟩)) (fun w' hw' => by kernel_rfl) ?_
              refine below_run (by kernel_rfl) (.int .u8 p.b) (fun w' hw' => exec_load1 5 (.tmp 65) rfl ⟨w.heap.size + 1, 1, none⟩ (by kernel_rfl) (.int .u8 p.b) ((HR2.out.b3.next hw').cell 1 _ rfl) _ Tryz.underlying5 rfl) ?_
              refine below_run (by kernel_rfl) (.bool true) (fun w' hw' => Eq.trans (show (execOp _ _).run _ w' = .ok (.value (.bool ((rdP f.pairs k).b != p.b))) w' by kernel_rfl) (by rw [hq2])) ?_
              refine below_run (by kernel_rfl) (.bool true) (fun w' hw' => by kernel_rfl) ?_
              refine wpQuiet_nil ?_
              intro W3 hW3
              simp only [Act.put, List.setIfInBounds_toArray, List.set_cons_succ, List.set_cons_zero]
              have H3 := Lib.hid (HR2.out.next hW3)
              have ROW3 := Lib.hid (ROW2.out.next hW3)
              have c28 := H3.out.b2.cell 28 _ (fcV_pairs HF.out _)
              clear hW3
              repeat ((with_reducible fail_if_success (show wpList _ _ _ (⟨some 74, _, _, _, _, _⟩ :: _) _ _)); first | go_values | go_skip | go_guarded | go_step | go_upon)
              refine wpList_loadV rfl 78 (.tmp 73) rfl (a.add (k * 3)) rfl (prV (rdP f.pairs k)) _ (ROW3.out) Tryz.underlying78 rfl szPrI ?_
              clear c28
              repeat ((with_reducible fail_if_success (show wpList _ _ _ (⟨some 75, _, _, _, _, _⟩ :: _) _ _)); first | go_values | go_skip | go_guarded | go_step | go_upon)
              refine wpList_val (by kernel_rfl) (.slice (some ⟨W3.heap.size, 0, none⟩) 1 1) (W3.alloc (.cells (prV (rdP f.pairs k)).toArray 78)) (by kernel_rfl) ?_
              repeat ((with_reducible fail_if_success (show wpList _ _ _ (⟨some 76, _, _, _, _, _⟩ :: _) _ _)); first | go_values | go_skip | go_guarded | go_step | go_upon)
              refine wpList_appP rfl (.tmp 69) (.tmp 75) rfl W3 (w.heap.size + 3) u6 ps (ps).length rfl H3.out.own (rdP f.pairs k) rfl (by (try simp only [List.length_append, List.length_singleton]); omega) H3.out.size ?_
              intro v' w' ho' hg'
              have HR' := Lib.hid (H3.out.app ho' hg' (HF.out.pairs k (by rw [HN.out]; exact hlt)))
              clear ho' hg'
              repeat (first | go_values | go_skip | go_guarded | go_step | go_upon)
              go_roundw
              case rel => exact ⟨k + 1, false, ps ++ [rdP f.pairs k], by omega, by go_num, rfl, by simp only [List.length_append, List.length_singleton]; omega, HR'.out⟩
              case measure => simp [intOf]; omega
          · skip
            repeat ((with_reducible fail_if_success (show Code.wp _ (Code.region 13 _ _) _ _ _)); first | go_values | go_skip | go_guarded | go_step | go_upon)
            refine region_below (W2.heap.size) (by kernel_rfl) (by kernel_rfl) ?_
            refine below_run (by kernel_rfl) (.pointer (some ⟨w.heap.size, 28, none⟩)) (fun w' hw' => by kernel_rfl) ?_
            refine below_run (by kernel_rfl) (.slice (some a) n c) (fun w' hw' => exec_load1 26 (.tmp 49) rfl ⟨w.heap.size, 28, none⟩ (by kernel_rfl) (.slice (some a) n c) ((HR2.out.b2.next hw').cell 28 _ (fcV_pairs HF.out _)) _ Tryz.underlying26 rfl) ?_
            refine below_run (by kernel_rfl) (.int .i64 k) (fun w' hw' => by kernel_rfl) ?_
            refine below_run (by kernel_rfl) (.pointer (some (Addr.add a (k * 3)))) (fun w' hw' => exec_index 26 (.tmp 50) (.tmp 51) rfl a n c (by kernel_rfl) .i64 k (by kernel_rfl) hlt 78 Tryz.underlying26 3 szPrI) ?_
            refine below_run (by kernel_rfl) (.pointer (some ((a.add (k * 3)).add 0))) (fun w' hw' => by kernel_rfl) ?_
            refine below_run (by kernel_rfl) (.int .u8 (rdP f.pairs k).a) (fun w' hw' => exec_load1 5 (.tmp 53) rfl ((a.add (k * 3)).add 0) (by kernel_rfl) (.int .u8 (rdP f.pairs k).a) ((pr_cells (ROW2.out.next hw')).1) _ Tryz.underlying5 rfl) ?_
            refine below_run (by kernel_rfl) (.pointer (some ⟨w.heap.size + 1, 0, none⟩)) (fun w' hw' => by kernel_rfl) ?_
            refine below_run (by kernel_rfl) (.int .u8 p.a) (fun w' hw' => exec_load1 5 (.tmp 55) rfl ⟨w.heap.size + 1, 0, none⟩ (by kernel_rfl) (.int .u8 p.a) ((HR2.out.b3.next hw').cell 0 _ rfl) _ Tryz.underlying5 rfl) ?_
            refine below_run (by kernel_rfl) (.bool true) (fun w' hw' => Eq.trans (show (execOp _ _).run _ w' = .ok (.value (.bool ((rdP f.pairs k).a != p.a))) w' by kernel_rfl) (by rw [hq1])) ?_
            refine below_run (by kernel_rfl) (.bool true) (fun w' hw' => by kernel_rfl) ?_
            refine BigFrame.wpQuiet_skip (by kernel_rfl) ?_
            refine BigFrame.wpQuiet_skip (by kernel_rfl) ?_
            refine BigFrame.wpQuiet_skip (by kernel_rfl) ?_
            refine BigFrame.wpQuiet_skip (by kernel_rfl) ?_
            refine BigFrame.wpQuiet_skip (by kernel_rfl) ?_
            refine BigFrame.wpQuiet_skip (by kernel_rfl) ?_
            refine BigFrame.wpQuiet_skip (by kernel_rfl) ?_
            refine BigFrame.wpQuiet_skip (by kernel_rfl) ?_
            refine BigFrame.wpQuiet_skip (by kernel_rfl) ?_
            refine below_run (by kernel_rfl) (.bool true) (fun w' hw' => by kernel_rfl) ?_
            refine wpQuiet_nil ?_
            intro W3 hW3
            simp only [Act.put, List.setIfInBounds_toArray, List.set_cons_succ, List.set_cons_zero]
            have H3 := Lib.hid (HR2.out.next hW3)
            have ROW3 := Lib.hid (ROW2.out.next hW3)
            have c28 := H3.out.b2.cell 28 _ (fcV_pairs HF.out _)
            clear hW3
            repeat ((with_reducible fail_if_success (show wpList _ _ _ (⟨some 74, _, _, _, _, _⟩ :: _) _ _)); first | go_values | go_skip | go_guarded | go_step | go_upon)
            refine wpList_loadV rfl 78 (.tmp 73) rfl (a.add (k * 3)) rfl (prV (rdP f.pairs k)) _ (ROW3.out) Tryz.underlying78 rfl szPrI ?_
            clear c28
            repeat ((with_reducible fail_if_success (show wpList _ _ _ (⟨some 75, _, _, _, _, _⟩ :: _) _ _)); first | go_values | go_skip | go_guarded | go_step | go_upon)
            refine wpList_val (by kernel_rfl) (.slice (some ⟨W3.heap.size, 0, none⟩) 1 1) (W3.alloc (.cells (prV (rdP f.pairs k)).toArray 78)) (by kernel_rfl) ?_
            repeat ((with_reducible fail_if_success (show wpList _ _ _ (⟨some 76, _, _, _, _, _⟩ :: _) _ _)); first | go_values | go_skip | go_guarded | go_step | go_upon)
            refine wpList_appP rfl (.tmp 69) (.tmp 75) rfl W3 (w.heap.size + 3) u6 ps (ps).length rfl H3.out.own (rdP f.pairs k) rfl (by (try simp only [List.length_append, List.length_singleton]); omega) H3.out.size ?_
            intro v' w' ho' hg'
            have HR' := Lib.hid (H3.out.app ho' hg' (HF.out.pairs k (by rw [HN.out]; exact hlt)))
            clear ho' hg'
            repeat (first | go_values | go_skip | go_guarded | go_step | go_upon)
            go_roundw
            case rel => exact ⟨k + 1, false, ps ++ [rdP f.pairs k], by omega, by go_num, rfl, by simp only [List.length_append, List.length_singleton]; omega, HR'.out⟩
            case measure => simp [intOf]; omega
        · skip
          repeat ((with_reducible fail_if_success (show Code.wp _ (Code.region 10 _ _) _ _ _)); first | go_values | go_skip | go_guarded | go_step | go_upon)
          refine region_below (wr.heap.size) (by kernel_rfl) (by kernel_rfl) ?_
          refine below_run (by kernel_rfl) (.bool false) (fun w' hw' => by kernel_rfl) ?_
          refine below_run (by kernel_rfl) (.bool true) (fun w' hw' => by kernel_rfl) ?_
          refine below_run (by kernel_rfl) (.bool true) (fun w' hw' => by kernel_rfl) ?_
          refine below_run (by kernel_rfl) (.agg (prV p).toArray) (fun w' hw' => exec_loadV 78 (.tmp 3) rfl ⟨w.heap.size + 1, 0, none⟩ (by kernel_rfl) (prV p) _ (pr_row (HR.out.b3.next hw')) Tryz.underlying78 rfl szPrI) ?_
          refine below_run (by kernel_rfl) (.pointer (some ⟨w.heap.size, 28, none⟩)) (fun w' hw' => by kernel_rfl) ?_
          refine below_run (by kernel_rfl) (.slice (some a) n c) (fun w' hw' => exec_load1 26 (.tmp 38) rfl ⟨w.heap.size, 28, none⟩ (by kernel_rfl) (.slice (some a) n c) ((HR.out.b2.next hw').cell 28 _ (fcV_pairs HF.out _)) _ Tryz.underlying26 rfl) ?_
          refine below_run (by kernel_rfl) (.int .i64 k) (fun w' hw' => by kernel_rfl) ?_
          refine below_run (by kernel_rfl) (.pointer (some (Addr.add a (k * 3)))) (fun w' hw' => exec_index 26 (.tmp 39) (.tmp 40) rfl a n c (by kernel_rfl) .i64 k (by kernel_rfl) hlt 78 Tryz.underlying26 3 szPrI) ?_
          refine below_run (by kernel_rfl) (.agg (prV (rdP f.pairs k)).toArray) (fun w' hw' => exec_loadV 78 (.tmp 41) rfl (a.add (k * 3)) (by kernel_rfl) (prV (rdP f.pairs k)) _ (ROW.out.next hw') Tryz.underlying78 rfl szPrI) ?_
          refine below_call (by kernel_rfl) 80 #[.agg (prV p).toArray, .agg (prV (rdP f.pairs k)).toArray] (.bool true) (fun w' => by kernel_rfl) (fun w' hw' => (ahead_is _ _ w' hah).mono fun e w1 ⟨he, hb1⟩ => ⟨he, below_step hw' hb1⟩) ?_
          refine below_run (by kernel_rfl) (.bool true) (fun w' hw' => by kernel_rfl) ?_
          refine wpQuiet_nil ?_
          intro W2 hW2
          simp only [Act.put, List.setIfInBounds_toArray, List.set_cons_succ, List.set_cons_zero]
          have HR2 := Lib.hid (HR.out.next hW2)
          have ROW2 := Lib.hid (ROW.out.next hW2)
          clear hW2
          repeat ((with_reducible fail_if_success (show wpList _ _ _ (⟨some 46, _, _, _, _, _⟩ :: _) _ _)); first | go_values | go_skip | go_guarded | go_step | go_upon)
          refine wpList_loadV rfl 78 (.tmp 3) rfl ⟨w.heap.size + 1, 0, none⟩ rfl (prV p) _ (pr_row HR2.out.b3) Tryz.underlying78 rfl szPrI ?_
          repeat ((with_reducible fail_if_success (show wpList _ _ _ (⟨some 47, _, _, _, _, _⟩ :: _) _ _)); first | go_values | go_skip | go_guarded | go_step | go_upon)
          refine wpList_val (by kernel_rfl) (.slice (some ⟨W2.heap.size, 0, none⟩) 1 1) (W2.alloc (.cells (prV p).toArray 78)) (by kernel_rfl) ?_
          repeat ((with_reducible fail_if_success (show wpList _ _ _ (⟨some 48, _, _, _, _, _⟩ :: _) _ _)); first | go_values | go_skip | go_guarded | go_step | go_upon)
          refine wpList_appP rfl (.tmp 45) (.tmp 47) rfl W2 (w.heap.size + 3) u6 ps (ps).length rfl HR2.out.own p rfl (by (try simp only [List.length_append, List.length_singleton]); omega) HR2.out.size ?_
          intro v' w' ho' hg'
          have HR' := Lib.hid (HR2.out.app ho' hg' HP.out)
          clear ho' hg'
          have HR4 := HR'
          obtain ⟨a4, e4, hrow4⟩ := (HS.out.next HR4.out.below).get k (by rw [HN.out]; exact hlt)
          injection e4 with e4
          subst e4
          have ROW5 := Lib.hid hrow4
          clear hrow4 HR2 HR'
          cases hq1 : ((rdP f.pairs k).a != p.a)
          · cases hq2 : ((rdP f.pairs k).b != p.b)
            · skip
              repeat ((with_reducible fail_if_success (show Code.wp _ (Code.region 13 _ _) _ _ _)); first | go_values | go_skip | go_guarded | go_step | go_upon)
              refine region_below (w'.heap.size) (by kernel_rfl) (by kernel_rfl) ?_
              refine below_run (by kernel_rfl) (.pointer (some ⟨w.heap.size, 28, none⟩)) (fun w' hw' => by kernel_rfl) ?_
              refine below_run (by kernel_rfl) (.slice (some a) n c) (fun w' hw' => exec_load1 26 (.tmp 49) rfl ⟨w.heap.size, 28, none⟩ (by kernel_rfl) (.slice (some a) n c) ((HR4.out.b2.next hw').cell 28 _ (fcV_pairs HF.out _)) _ Tryz.underlying26 rfl) ?_
              refine below_run (by kernel_rfl) (.int .i64 k) (fun w' hw' => by kernel_rfl) ?_
              refine below_run (by kernel_rfl) (.pointer (some (Addr.add a (k * 3)))) (fun w' hw' => exec_index 26 (.tmp 50) (.tmp 51) rfl a n c (by kernel_rfl) .i64 k (by kernel_rfl) hlt 78 Tryz.underlying26 3 szPrI) ?_
              refine below_run (by kernel_rfl) (.pointer (some ((a.add (k * 3)).add 0))) (fun w' hw' => by kernel_rfl) ?_
              refine below_run (by kernel_rfl) (.int .u8 (rdP f.pairs k).a) (fun w' hw' => exec_load1 5 (.tmp 53) rfl ((a.add (k * 3)).add 0) (by kernel_rfl) (.int .u8 (rdP f.pairs k).a) ((pr_cells (ROW5.out.next hw')).1) _ Tryz.underlying5 rfl) ?_
              refine below_run (by kernel_rfl) (.pointer (some ⟨w.heap.size + 1, 0, none⟩)) (fun w' hw' => by kernel_rfl) ?_
              refine below_run (by kernel_rfl) (.int .u8 p.a) (fun w' hw' => exec_load1 5 (.tmp 55) rfl ⟨w.heap.size + 1, 0, none⟩ (by kernel_rfl) (.int .u8 p.a) ((HR4.out.b3.next hw').cell 0 _ rfl) _ Tryz.underlying5 rfl) ?_
              refine below_run (by kernel_rfl) (.bool false) (fun w' hw' => Eq.trans (show (execOp _ _).run _ w' = .ok (.value (.bool ((rdP f.pairs k).a != p.a))) w' by kernel_rfl) (by rw [hq1])) ?_
              refine below_run (by kernel_rfl) (.bool false) (fun w' hw' => by kernel_rfl) ?_
              refine below_run (by kernel_rfl) (.pointer (some ⟨w.heap.size, 28, none⟩)) (fun w' hw' => by kernel_rfl) ?_
              refine below_run (by kernel_rfl) (.slice (some a) n c) (fun w' hw' => exec_load1 26 (.tmp 59) rfl ⟨w.heap.size, 28, none⟩ (by kernel_rfl) (.slice (some a) n c) ((HR4.out.b2.next hw').cell 28 _ (fcV_pairs HF.out _)) _ Tryz.underlying26 rfl) ?_
              refine below_run (by kernel_rfl) (.int .i64 k) (fun w' hw' => by kernel_rfl) ?_
              refine below_run (by kernel_rfl) (.pointer (some (Addr.add a (k * 3)))) (fun w' hw' => exec_index 26 (.tmp 60) (.tmp 61) rfl a n c (by kernel_rfl) .i64 k (by kernel_rfl) hlt 78 Tryz.underlying26 3 szPrI) ?_
              refine below_run (by kernel_rfl) (.pointer (some ((a.add (k * 3)).add 1))) (fun w' hw' => by kernel_rfl) ?_
              refine below_run (by kernel_rfl) (.int .u8 (rdP f.pairs k).b) (fun w' hw' => exec_load1 5 (.tmp 63) rfl ((a.add (k * 3)).add 1) (by kernel_rfl) (.int .u8 (rdP f.pairs k).b) ((pr_cells (ROW5.out.next hw')).2.1) _ Tryz.underlying5 rfl) ?_
              refine below_run (by kernel_rfl) (.pointer (some ⟨w.heap.size + 1, 1, none⟩)) (fun w' hw' => by kernel_rfl) ?_
              refine below_run (by kernel_rfl) (.int .u8 p.b) (fun w' hw' => exec_load1 5 (.tmp 65) rfl ⟨w.heap.size + 1, 1, none⟩ (by kernel_rfl) (.int .u8 p.b) ((HR4.out.b3.next hw').cell 1 _ rfl) _ Tryz.underlying5 rfl) ?_
              refine below_run (by kernel_rfl) (.bool false) (fun w' hw' => Eq.trans (show (execOp _ _).run _ w' = .ok (.value (.bool ((rdP f.pairs k).b != p.b))) w' by kernel_rfl) (by rw [hq2])) ?_
              refine below_run (by kernel_rfl) (.bool false) (fun w' hw' => by kernel_rfl) ?_
              refine wpQuiet_nil ?_
              intro W3 hW3
              simp only [Act.put, List.setIfInBounds_toArray, List.set_cons_succ, List.set_cons_zero]
              have H3 := Lib.hid (HR4.out.next hW3)
              have ROW3 := Lib.hid (ROW5.out.next hW3)
              have c28 := H3.out.b2.cell 28 _ (fcV_pairs HF.out _)
              clear hW3
              repeat (first | go_values | go_skip | go_guarded | go_step | go_upon)
              go_roundw
              case rel => exact ⟨k + 1, true, (ps ++ [p]), by omega, by go_num, rfl, by (try simp only [List.length_append, List.length_singleton]); omega, H3.out⟩
              case measure => simp [intOf]; omega
            · skip
              repeat ((with_reducible fail_if_success (show Code.wp _ (Code.region 13 _ _) _ _ _)); first | go_values | go_skip | go_guarded | go_step | go_upon)
              refine region_below (w'.heap.size) (by kernel_rfl) (by kernel_rfl) ?_
              refine below_run (by kernel_rfl) (.pointer (some ⟨w.heap.size, 28, none⟩)) (fun w' hw' => by kernel_rfl) ?_
              refine below_run (by kernel_rfl) (.slice (some a) n c) (fun w' hw' => exec_load1 26 (.tmp 49) rfl ⟨w.heap.size, 28, none⟩ (by kernel_rfl) (.slice (some a) n c) ((HR4.out.b2.next hw').cell 28 _ (fcV_pairs HF.out _)) _ Tryz.underlying26 rfl) ?_
              refine below_run (by kernel_rfl) (.int .i64 k) (fun w' hw' => by kernel_rfl) ?_
              refine below_run (by kernel_rfl) (.pointer (some (Addr.add a (k * 3)))) (fun w' hw' => exec_index 26 (.tmp 50) (.tmp 51) rfl a n c (by kernel_rfl) .i64 k (by kernel_rfl) hlt 78 Tryz.underlying26 3 szPrI) ?_
              refine below_run (by kernel_rfl) (.pointer (some ((a.add (k * 3)).add 0))) (fun w' hw' => by kernel_rfl) ?_
              refine below_run (by kernel_rfl) (.int .u8 (rdP f.pairs k).a) (fun w' hw' => exec_load1 5 (.tmp 53) rfl ((a.add (k * 3)).add 0) (by kernel_rfl) (.int .u8 (rdP f.pairs k).a) ((pr_cells (ROW5.out.next hw')).1) _ Tryz.underlying5 rfl) ?_
              refine below_run (by kernel_rfl) (.pointer (some ⟨w.heap.size + 1, 0, none⟩)) (fun w' hw' => by kernel_rfl) ?_
              refine below_run (by kernel_rfl) (.int .u8 p.a) (fun w' hw' => exec_load1 5 (.tmp 55) rfl ⟨w.heap.size + 1, 0, none⟩ (by kernel_rfl) (.int .u8 p.a) ((HR4.out.b3.next hw').cell 0 _ rfl) _ Tryz.underlying5 rfl) ?_
              refine below_run (by kernel_rfl) (.bool false) (fun w' hw' => Eq.trans (show (execOp _ _).run _ w' = .ok (.value (.bool ((rdP f.pairs k).a != p.a))) w' by kernel_rfl) (by rw [hq1])) ?_
              refine below_run (by kernel_rfl) (.bool false) (fun w' hw' => by kernel_rfl) ?_
              refine below_run (by kernel_rfl) (.pointer (some ⟨w.heap.size, 28, none⟩)) (fun w' hw' => by kernel_rfl) ?_
              refine below_run (by kernel_rfl) (.slice (some a) n c) (fun w' hw' => exec_load1 26 (.tmp 59) rfl ⟨w.heap.size, 28, none⟩ (by kernel_rfl) (.slice (some a) n c) ((HR4.out.b2.next hw').cell 28 _ (fcV_pairs HF.out _)) _ Tryz.underlying26 rfl) ?_
              refine below_run (by kernel_rfl) (.int .i64 k) (fun w' hw' => by kernel_rfl) ?_
              refine below_run (by kernel_rfl) (.pointer (some (Addr.add a (k * 3)))) (fun w' hw' => exec_index 26 (.tmp 60) (.tmp 61) rfl a n c (by kernel_rfl) .i64 k (by kernel_rfl) hlt 78 Tryz.underlying26 3 szPrI) ?_
              refine below_run (by kernel_rfl) (.pointer (some ((a.add (k * 3)).add 1))) (fun w' hw' => by kernel_rfl) ?_
              refine below_run (by kernel_rfl) (.int .u8 (rdP f.pairs k).b) (fun w' hw' => exec_load1 5 (.tmp 63) rfl ((a.add (k * 3)).add 1) (by kernel_rfl) (.int .u8 (rdP f.pairs k).b) ((pr_cells (ROW5.out.next hw')).2.1) _ Tryz.underlying5 rfl) ?_
              refine below_run (by kernel_rfl) (.pointer (some ⟨w.heap.size + 1, 1, none⟩)) (fun w' hw' => by kernel_rfl) ?_
              refine below_run (by kernel_rfl) (.int .u8 p.b) (fun w' hw' => exec_load1 5 (.tmp 65) rfl ⟨w.heap.size + 1, 1, none⟩ (by kernel_rfl) (.int .u8 p.b) ((HR4.out.b3.next hw').cell 1 _ rfl) _ Tryz.underlying5 rfl) ?_
              refine below_run (by kernel_rfl) (.bool true) (fun w' hw' => Eq.trans (show (execOp _ _).run _ w' = .ok (.value (.bool ((rdP f.pairs k).b != p.b))) w' by kernel_rfl) (by rw [hq2])) ?_
              refine below_run (by kernel_rfl) (.bool true) (fun w' hw' => by kernel_rfl) ?_
              refine wpQuiet_nil ?_
              intro W3 hW3
              simp only [Act.put, List.setIfInBounds_toArray, List.set_cons_succ, List.set_cons_zero]
              have H3 := Lib.hid (HR4.out.next hW3)
              have ROW3 := Lib.hid (ROW5.out.next hW3)
              have c28 := H3.out.b2.cell 28 _ (fcV_pairs HF.out _)
              clear hW3
              repeat ((with_reducible fail_if_success (show wpList _ _ _ (⟨some 74, _, _, _, _, _⟩ :: _) _ _)); first | go_values | go_skip | go_guarded | go_step | go_upon)
              refine wpList_loadV rfl 78 (.tmp 73) rfl (a.add (k * 3)) rfl (prV (rdP f.pairs k)) _ (ROW3.out) Tryz.underlying78 rfl szPrI ?_
              clear c28
              repeat ((with_reducible fail_if_success (show wpList _ _ _ (⟨some 75, _, _, _, _, _⟩ :: _) _ _)); first | go_values | go_skip | go_guarded | go_step | go_upon)
              refine wpList_val (by kernel_rfl) (.slice (some ⟨W3.heap.size, 0, none⟩) 1 1) (W3.alloc (.cells (prV (rdP f.pairs k)).toArray 78)) (by kernel_rfl) ?_
              repeat ((with_reducible fail_if_success (show wpList _ _ _ (⟨some 76, _, _, _, _, _⟩ :: _) _ _)); first | go_values | go_skip | go_guarded | go_step | go_upon)
              refine wpList_appP rfl (.tmp 69) (.tmp 75) rfl W3 (w.heap.size + 3) v' (ps ++ [p]) ((ps ++ [p])).length rfl H3.out.own (rdP f.pairs k) rfl (by (try simp only [List.length_append, List.length_singleton]); omega) H3.out.size ?_
              intro v' w' ho' hg'
              have HR' := Lib.hid (H3.out.app ho' hg' (HF.out.pairs k (by rw [HN.out]; exact hlt)))
              clear ho' hg'
              repeat (first | go_values | go_skip | go_guarded | go_step | go_upon)
              go_roundw
              case rel => exact ⟨k + 1, true, (ps ++ [p]) ++ [rdP f.pairs k], by omega, by go_num, rfl, by simp only [List.length_append, List.length_singleton]; omega, HR'.out⟩
              case measure => simp [intOf]; omega
          · skip
            repeat ((with_reducible fail_if_success (show Code.wp _ (Code.region 13 _ _) _ _ _)); first | go_values | go_skip | go_guarded | go_step | go_upon)
            refine region_below (w'.heap.size) (by kernel_rfl) (by kernel_rfl) ?_
            refine below_run (by kernel_rfl) (.pointer (some ⟨w.heap.size, 28, none⟩)) (fun w' hw' => by kernel_rfl) ?_
            refine below_run (by kernel_rfl) (.slice (some a) n c) (fun w' hw' => exec_load1 26 (.tmp 49) rfl ⟨w.heap.size, 28, none⟩ (by kernel_rfl) (.slice (some a) n c) ((HR4.out.b2.next hw').cell 28 _ (fcV_pairs HF.out _)) _ Tryz.underlying26 rfl) ?_
            refine below_run (by kernel_rfl) (.int .i64 k) (fun w' hw' => by kernel_rfl) ?_
            refine below_run (by kernel_rfl) (.pointer (some (Addr.add a (k * 3)))) (fun w' hw' => exec_index 26 (.tmp 50) (.tmp 51) rfl a n c (by kernel_rfl) .i64 k (by kernel_rfl) hlt 78 Tryz.underlying26 3 szPrI) ?_
            refine below_run (by kernel_rfl) (.pointer (some ((a.add (k * 3)).add 0))) (fun w' hw' => by kernel_rfl) ?_
            refine below_run (by kernel_rfl) (.int .u8 (rdP f.pairs k).a) (fun w' hw' => exec_load1 5 (.tmp 53) rfl ((a.add (k * 3)).add 0) (by kernel_rfl) (.int .u8 (rdP f.pairs k).a) ((pr_cells (ROW5.out.next hw')).1) _ Tryz.underlying5 rfl) ?_
            refine below_run (by kernel_rfl) (.pointer (some ⟨w.heap.size + 1, 0, none⟩)) (fun w' hw' => by kernel_rfl) ?_
            refine below_run (by kernel_rfl) (.int .u8 p.a) (fun w' hw' => exec_load1 5 (.tmp 55) rfl ⟨w.heap.size + 1, 0, none⟩ (by kernel_rfl) (.int .u8 p.a) ((HR4.out.b3.next hw').cell 0 _ rfl) _ Tryz.underlying5 rfl) ?_
            refine below_run (by kernel_rfl) (.bool true) (fun w' hw' => Eq.trans (show (execOp _ _).run _ w' = .ok (.value (.bool ((rdP f.pairs k).a != p.a))) w' by kernel_rfl) (by rw [hq1])) ?_
            refine below_run (by kernel_rfl) (.bool true) (fun w' hw' => by kernel_rfl) ?_
            refine BigFrame.wpQuiet_skip (by kernel_rfl) ?_
            refine BigFrame.wpQuiet_skip (by kernel_rfl) ?_
            refine BigFrame.wpQuiet_skip (by kernel_rfl) ?_
            refine BigFrame.wpQuiet_skip (by kernel_rfl) ?_
            refine BigFrame.wpQuiet_skip (by kernel_rfl) ?_
            refine BigFrame.wpQuiet_skip (by kernel_rfl) ?_
            refine BigFrame.wpQuiet_skip (by kernel_rfl) ?_
            refine BigFrame.wpQuiet_skip (by kernel_rfl) ?_
            refine BigFrame.wpQuiet_skip (by kernel_rfl) ?_
            refine below_run (by kernel_rfl) (.bool true) (fun w' hw' => by kernel_rfl) ?_
            refine wpQuiet_nil ?_
            intro W3 hW3
            simp only [Act.put, List.setIfInBounds_toArray, List.set_cons_succ, List.set_cons_zero]
            have H3 := Lib.hid (HR4.out.next hW3)
            have ROW3 := Lib.hid (ROW5.out.next hW3)
            have c28 := H3.out.b2.cell 28 _ (fcV_pairs HF.out _)
            clear hW3
            repeat ((with_reducible fail_if_success (show wpList _ _ _ (⟨some 74, _, _, _, _, _⟩ :: _) _ _)); first | go_values | go_skip | go_guarded | go_step | go_upon)
            refine wpList_loadV rfl 78 (.tmp 73) rfl (a.add (k * 3)) rfl (prV (rdP f.pairs k)) _ (ROW3.out) Tryz.underlying78 rfl szPrI ?_
            clear c28
            repeat ((with_reducible fail_if_success (show wpList _ _ _ (⟨some 75, _, _, _, _, _⟩ :: _) _ _)); first | go_values | go_skip | go_guarded | go_step | go_upon)
            refine wpList_val (by kernel_rfl) (.slice (some ⟨W3.heap.size, 0, none⟩) 1 1) (W3.alloc (.cells (prV (rdP f.pairs k)).toArray 78)) (by kernel_rfl) ?_
            repeat ((with_reducible fail_if_success (show wpList _ _ _ (⟨some 76, _, _, _, _, _⟩ :: _) _ _)); first | go_values | go_skip | go_guarded | go_step | go_upon)
            refine wpList_appP rfl (.tmp 69) (.tmp 75) rfl W3 (w.heap.size + 3) v' (ps ++ [p]) ((ps ++ [p])).length rfl H3.out.own (rdP f.pairs k) rfl (by (try simp only [List.length_append, List.length_singleton]); omega) H3.out.size ?_
            intro v' w' ho' hg'
            have HR' := Lib.hid (H3.out.app ho' hg' (HF.out.pairs k (by rw [HN.out]; exact hlt)))
            clear ho' hg'
            repeat (first | go_values | go_skip | go_guarded | go_step | go_upon)
            go_roundw
            case rel => exact ⟨k + 1, true, (ps ++ [p]) ++ [rdP f.pairs k], by omega, by go_num, rfl, by simp only [List.length_append, List.length_singleton]; omega, HR'.out⟩
            case measure => simp [intOf]; omega
      · skip
        repeat ((with_reducible fail_if_success (show Code.wp _ (Code.region 10 _ _) _ _ _)); first | go_values | go_skip | go_guarded | go_step | go_upon)
        refine region_below (wr.heap.size) (by kernel_rfl) (by kernel_rfl) ?_
        refine below_run (by kernel_rfl) (.bool true) (fun w' hw' => by kernel_rfl) ?_
        refine below_run (by kernel_rfl) (.bool false) (fun w' hw' => by kernel_rfl) ?_
        refine below_run (by kernel_rfl) (.bool false) (fun w' hw' => by kernel_rfl) ?_
        refine BigFrame.wpQuiet_skip (by kernel_rfl) ?_
        refine BigFrame.wpQuiet_skip (by kernel_rfl) ?_
        refine BigFrame.wpQuiet_skip (by kernel_rfl) ?_
        refine BigFrame.wpQuiet_skip (by kernel_rfl) ?_
        refine BigFrame.wpQuiet_skip (by kernel_rfl) ?_
        refine BigFrame.wpQuiet_skip (by kernel_rfl) ?_
        refine BigFrame.wpQuiet_skip (by kernel_rfl) ?_
        refine below_run (by kernel_rfl) (.bool false) (fun w' hw' => by kernel_rfl) ?_
        refine wpQuiet_nil ?_
        intro W2 hW2
        simp only [Act.put, List.setIfInBounds_toArray, List.set_cons_succ, List.set_cons_zero]
        have HR2 := Lib.hid (HR.out.next hW2)
        have ROW2 := Lib.hid (ROW.out.next hW2)
        clear hW2
        cases hq1 : ((rdP f.pairs k).a != p.a)
        · cases hq2 : ((rdP f.pairs k).b != p.b)
          · skip
            repeat ((with_reducible fail_if_success (show Code.wp _ (Code.region 13 _ _) _ _ _)); first | go_values | go_skip | go_guarded | go_step | go_upon)
            refine region_below (W2.heap.size) (by kernel_rfl) (by kernel_rfl) ?_
            refine below_run (by kernel_rfl) (.pointer (some ⟨w.heap.size, 28, none⟩)) (fun w' hw' => by kernel_rfl) ?_
            refine below_run (by kernel_rfl) (.slice (some a) n c) (fun w' hw' => exec_load1 26 (.tmp 49) rfl ⟨w.heap.size, 28, none⟩ (by kernel_rfl) (.slice (some a) n c) ((HR2.out.b2.next hw').cell 28 _ (fcV_pairs HF.out _)) _ Tryz.underlying26 rfl) ?_
            refine below_run (by kernel_rfl) (.int .i64 k) (fun w' hw' => by kernel_rfl) ?_
            refine below_run (by kernel_rfl) (.pointer (some (Addr.add a (k * 3)))) (fun w' hw' => exec_index 26 (.tmp 50) (.tmp 51) rfl a n c (by kernel_rfl) .i64 k (by kernel_rfl) hlt 78 Tryz.underlying26 3 szPrI) ?_
            refine below_run (by kernel_rfl) (.pointer (some ((a.add (k * 3)).add 0))) (fun w' hw' => by kernel_rfl) ?_
            refine below_run (by kernel_rfl) (.int .u8 (rdP f.pairs k).a) (fun w' hw' => exec_load1 5 (.tmp 53) rfl ((a.add (k * 3)).add 0) (by kernel_rfl) (.int .u8 (rdP f.pairs k).a) ((pr_cells (ROW2.out.next hw')).1) _ Tryz.underlying5 rfl) ?_
            refine below_run (by kernel_rfl) (.pointer (some ⟨w.heap.size + 1, 0, none⟩)) (fun w' hw' => by kernel_rfl) ?_
            refine below_run (by kernel_rfl) (.int .u8 p.a) (fun w' hw' => exec_load1 5 (.tmp 55) rfl ⟨w.heap.size + 1, 0, none⟩ (by kernel_rfl) (.int .u8 p.a) ((HR2.out.b3.next hw').cell 0 _ rfl) _ Tryz.underlying5 rfl) ?_
            refine below_run (by kernel_rfl) (.bool false) (fun w' hw' => Eq.trans (show (execOp _ _).run _ w' = .ok (.value (.bool ((rdP f.pairs k).a != p.a))) w' by kernel_rfl) (by rw [hq1])) ?_
            refine below_run (by kernel_rfl) (.bool false) (fun w' hw' => by kernel_rfl) ?_
            refine below_run (by kernel_rfl) (.pointer (some ⟨w.heap.size, 28, none⟩)) (fun w' hw' => by kernel_rfl) ?_
            refine below_run (by kernel_rfl) (.slice (some a) n c) (fun w' hw' => exec_load1 26 (.tmp 59) rfl ⟨w.heap.size, 28, none⟩ (by kernel_rfl) (.slice (some a) n c) ((HR2.out.b2.next hw').cell 28 _ (fcV_pairs HF.out _)) _ Tryz.underlying26 rfl) ?_
            refine below_run (by kernel_rfl) (.int .i64 k) (fun w' hw' => by kernel_rfl) ?_
            refine below_run (by kernel_rfl) (.pointer (some (Addr.add a (k * 3)))) (fun w' hw' => exec_index 26 (.tmp 60) (.tmp 61) rfl a n c (by kernel_rfl) .i64 k (by kernel_rfl) hlt 78 Tryz.underlying26 3 szPrI) ?_
            refine below_run (by kernel_rfl) (.pointer (some ((a.add (k * 3)).add 1))) (fun w' hw' => by kernel_rfl) ?_
            refine below_run (by kernel_rfl) (.int .u8 (rdP f.pairs k).b) (fun w' hw' => exec_load1 5 (.tmp 63) rfl ((a.add (k * 3)).add 1) (by kernel_rfl) (.int .u8 (rdP f.pairs k).b) ((pr_cells (ROW2.out.next hw')).2.1) _ Tryz.underlying5 rfl) ?_
            refine below_run (by kernel_rfl) (.pointer (some ⟨w.heap.size + 1, 1, none⟩)) (fun w' hw' => by kernel_rfl) ?_
            refine below_run (by kernel_rfl) (.int .u8 p.b) (fun w' hw' => exec_load1 5 (.tmp 65) rfl ⟨w.heap.size + 1, 1, none⟩ (by kernel_rfl) (.int .u8 p.b) ((HR2.out.b3.next hw').cell 1 _ rfl) _ Tryz.underlying5 rfl) ?_
            refine below_run (by kernel_rfl) (.bool false) (fun w' hw' => Eq.trans (show (execOp _ _).run _ w' = .ok (.value (.bool ((rdP f.pairs k).b != p.b))) w' by kernel_rfl) (by rw [hq2])) ?_
            refine below_run (by kernel_rfl) (.bool false) (fun w' hw' => by kernel_rfl) ?_
            refine wpQuiet_nil ?_
            intro W3 hW3
            simp only [Act.put, List.setIfInBounds_toArray, List.set_cons_succ, List.set_cons_zero]
            have H3 := Lib.hid (HR2.out.next hW3)
            have ROW3 := Lib.hid (ROW2.out.next hW3)
            have c28 := H3.out.b2.cell 28 _ (fcV_pairs HF.out _)
            clear hW3
            repeat (first | go_values | go_skip | go_guarded | go_step | go_upon)
            go_roundw
            case rel => exact ⟨k + 1, true, ps, by omega, by go_num, rfl, by (try simp only [List.length_append, List.length_singleton]); omega, H3.out⟩
            case measure => simp [intOf]; omega
          · skip
            repeat ((with_reducible fail_if_success (show Code.wp _ (Code.region 13 _ _) _ _ _)); first | go_values | go_skip | go_guarded | go_step | go_upon)
            refine region_below (W2.heap.size) (by kernel_rfl) (by kernel_rfl) ?_
            refine below_run (by kernel_rfl) (.pointer (some ⟨w.heap.size, 28, none⟩)) (fun w' hw' => by kernel_rfl) ?_
            refine below_run (by kernel_rfl) (.slice (some a) n c) (fun w' hw' => exec_load1 26 (.tmp 49) rfl ⟨w.heap.size, 28, none⟩ (by kernel_rfl) (.slice (some a) n c) ((HR2.out.b2.next hw').cell 28 _ (fcV_pairs HF.out _)) _ Tryz.underlying26 rfl) ?_
            refine below_run (by kernel_rfl) (.int .i64 k) (fun w' hw' => by kernel_rfl) ?_
            refine below_run (by kernel_rfl) (.pointer (some (Addr.add a (k * 3)))) (fun w' hw' => exec_index 26 (.tmp 50) (.tmp 51) rfl a n c (by kernel_rfl) .i64 k (by kernel_rfl) hlt 78 Tryz.underlying26 3 szPrI) ?_
            refine below_run (by kernel_rfl) (.pointer (some ((a.add (k * 3)).add 0))) (fun w' hw' => by kernel_rfl) ?_
            refine below_run (by kernel_rfl) (.int .u8 (rdP f.pairs k).a) (fun w' hw' => exec_load1 5 (.tmp 53) rfl ((a.add (k * 3)).add 0) (by kernel_rfl) (.int .u8 (rdP f.pairs k).a) ((pr_cells (ROW2.out.next hw')).1) _ Tryz.underlying5 rfl) ?_
            refine below_run (by kernel_rfl) (.pointer (some ⟨w.heap.size + 1, 0, none⟩)) (fun w' hw' => by kernel_rfl) ?_
            refine below_run (by kernel_rfl) (.int .u8 p.a) (fun w' hw' => exec_load1 5 (.tmp 55) rfl ⟨w.heap.size + 1, 0, none⟩ (by kernel_rfl) (.int .u8 p.a) ((HR2.out.b3.next hw').cell 0 _ rfl) _ Tryz.underlying5 rfl) ?_
            refine below_run (by kernel_rfl) (.bool false) (fun w' hw' => Eq.trans (show (execOp _ _).run _ w' = .ok (.value (.bool ((rdP f.pairs k).a != p.a))) w' by kernel_rfl) (by rw [hq1])) ?_
            refine below_run (by kernel_rfl) (.bool false) (fun w' hw' => by kernel_rfl) ?_
            refine below_run (by kernel_rfl) (.pointer (some ⟨w.heap.size, 28, none⟩)) (fun w' hw' => by kernel_rfl) ?_
            refine below_run (by kernel_rfl) (.slice (some a) n c) (fun w' hw' => exec_load1 26 (.tmp 59) rfl ⟨w.heap.size, 28, none⟩ (by kernel_rfl) (.slice (some a) n c) ((HR2.out.b2.next hw').cell 28 _ (fcV_pairs HF.out _)) _ Tryz.underlying26 rfl) ?_
            refine below_run (by kernel_rfl) (.int .i64 k) (fun w' hw' => by kernel_rfl) ?_
            refine below_run (by kernel_rfl) (.pointer (some (Addr.add a (k * 3)))) (fun w' hw' => exec_index 26 (.tmp 60) (.tmp 61) rfl a n c (by kernel_rfl) .i64 k (by kernel_rfl) hlt 78 Tryz.underlying26 3 szPrI) ?_
            refine below_run (by kernel_rfl) (.pointer (some ((a.add (k * 3)).add 1))) (fun w' hw' => by kernel_rfl) ?_
            refine below_run (by kernel_rfl) (.int .u8 (rdP f.pairs k).b) (fun w' hw' => exec_load1 5 (.tmp 63) rfl ((a.add (k * 3)).add 1) (by kernel_rfl) (.int .u8 (rdP f.pairs k).b) ((pr_cells (ROW2.out.next hw')).2.1) _ Tryz.underlying5 rfl) ?_
            refine below_run (by kernel_rfl) (.pointer (some ⟨w.heap.size + 1, 1, none⟩)) (fun w' hw' => by kernel_rfl) ?_
            refine below_run (by kernel_rfl) (.int .u8 p.b) (fun w' hw' => exec_load1 5 (.tmp 65) rfl ⟨w.heap.size + 1, 1, none⟩ (by kernel_rfl) (.int .u8 p.b) ((HR2.out.b3.next hw').cell 1 _ rfl) _ Tryz.underlying5 rfl) ?_
            refine below_run (by kernel_rfl) (.bool true) (fun w' hw' => Eq.trans (show (execOp _ _).run _ w' = .ok (.value (.bool ((rdP f.pairs k).b != p.b))) w' by kernel_rfl) (by rw [hq2])) ?_
            refine below_run (by kernel_rfl) (.bool true) (fun w' hw' => by kernel_rfl) ?_
            refine wpQuiet_nil ?_
            intro W3 hW3
            simp only [Act.put, List.setIfInBounds_toArray, List.set_cons_succ, List.set_cons_zero]
            have H3 := Lib.hid (HR2.out.next hW3)
            have ROW3 := Lib.hid (ROW2.out.next hW3)
            have c28 := H3.out.b2.cell 28 _ (fcV_pairs HF.out _)
            clear hW3
            repeat ((with_reducible fail_if_success (show wpList _ _ _ (⟨some 74, _, _, _, _, _⟩ :: _) _ _)); first | go_values | go_skip | go_guarded | go_step | go_upon)
            refine wpList_loadV rfl 78 (.tmp 73) rfl (a.add (k * 3)) rfl (prV (rdP f.pairs k)) _ (ROW3.out) Tryz.underlying78 rfl szPrI ?_
            clear c28
            repeat ((with_reducible fail_if_success (show wpList _ _ _ (⟨some 75, _, _, _, _, _⟩ :: _) _ _)); first | go_values | go_skip | go_guarded | go_step | go_upon)
            refine wpList_val (by kernel_rfl) (.slice (some ⟨W3.heap.size, 0, none⟩) 1 1) (W3.alloc (.cells (prV (rdP f.pairs k)).toArray 78)) (by kernel_rfl) ?_
            repeat ((with_reducible fail_if_success (show wpList _ _ _ (⟨some 76, _, _, _, _, _⟩ :: _) _ _)); first | go_values | go_skip | go_guarded | go_step | go_upon)
            refine wpList_appP rfl (.tmp 69) (.tmp 75) rfl W3 (w.heap.size + 3) u6 ps (ps).length rfl H3.out.own (rdP f.pairs k) rfl (by (try simp only [List.length_append, List.length_singleton]); omega) H3.out.size ?_
            intro v' w' ho' hg'
            have HR' := Lib.hid (H3.out.app ho' hg' (HF.out.pairs k (by rw [HN.out]; exact hlt)))
            clear ho' hg'
            repeat (first | go_values | go_skip | go_guarded | go_step | go_upon)
            go_roundw
            case rel => exact ⟨k + 1, true, ps ++ [rdP f.pairs k], by omega, by go_num, rfl, by simp only [List.length_append, List.length_singleton]; omega, HR'.out⟩
            case measure => simp [intOf]; omega
        · skip
          repeat ((with_reducible fail_if_success (show Code.wp _ (Code.region 13 _ _) _ _ _)); first | go_values | go_skip | go_guarded | go_step | go_upon)
          refine region_below (W2.heap.size) (by kernel_rfl) (by kernel_rfl) ?_
          refine below_run (by kernel_rfl) (.pointer (some ⟨w.heap.size, 28, none⟩)) (fun w' hw' => by kernel_rfl) ?_
          refine below_run (by kernel_rfl) (.slice (some a) n c) (fun w' hw' => exec_load1 26 (.tmp 49) rfl ⟨w.heap.size, 28, none⟩ (by kernel_rfl) (.slice (some a) n c) ((HR2.out.b2.next hw').cell 28 _ (fcV_pairs HF.out _)) _ Tryz.underlying26 rfl) ?_
          refine below_run (by kernel_rfl) (.int .i64 k) (fun w' hw' => by kernel_rfl) ?_
          refine below_run (by kernel_rfl) (.pointer (some (Addr.add a (k * 3)))) (fun w' hw' => exec_index 26 (.tmp 50) (.tmp 51) rfl a n c (by kernel_rfl) .i64 k (by kernel_rfl) hlt 78 Tryz.underlying26 3 szPrI) ?_
          refine below_run (by kernel_rfl) (.pointer (some ((a.add (k * 3)).add 0))) (fun w' hw' => by kernel_rfl) ?_
          refine below_run (by kernel_rfl) (.int .u8 (rdP f.pairs k).a) (fun w' hw' => exec_load1 5 (.tmp 53) rfl ((a.add (k * 3)).add 0) (by kernel_rfl) (.int .u8 (rdP f.pairs k).a) ((pr_cells (ROW2.out.next hw')).1) _ Tryz.underlying5 rfl) ?_
          refine below_run (by kernel_rfl) (.pointer (some ⟨w.heap.size + 1, 0, none⟩)) (fun w' hw' => by kernel_rfl) ?_
          refine below_run (by kernel_rfl) (.int .u8 p.a) (fun w' hw' => exec_load1 5 (.tmp 55) rfl ⟨w.heap.size + 1, 0, none⟩ (by kernel_rfl) (.int .u8 p.a) ((HR2.out.b3.next hw').cell 0 _ rfl) _ Tryz.underlying5 rfl) ?_
          refine below_run (by kernel_rfl) (.bool true) (fun w' hw' => Eq.trans (show (execOp _ _).run _ w' = .ok (.value (.bool ((rdP f.pairs k).a != p.a))) w' by kernel_rfl) (by rw [hq1])) ?_
          refine below_run (by kernel_rfl) (.bool true) (fun w' hw' => by kernel_rfl) ?_
          refine BigFrame.wpQuiet_skip (by kernel_rfl) ?_
          refine BigFrame.wpQuiet_skip (by kernel_rfl) ?_
          refine BigFrame.wpQuiet_skip (by kernel_rfl) ?_
          refine BigFrame.wpQuiet_skip (by kernel_rfl) ?_
          refine BigFrame.wpQuiet_skip (by kernel_rfl) ?_
          refine BigFrame.wpQuiet_skip (by kernel_rfl) ?_
          refine BigFrame.wpQuiet_skip (by kernel_rfl) ?_
          refine BigFrame.wpQuiet_skip (by kernel_rfl) ?_
          refine BigFrame.wpQuiet_skip (by kernel_rfl) ?_
          refine below_run (by kernel_rfl) (.bool true) (fun w' hw' => by kernel_rfl) ?_
          refine wpQuiet_nil ?_
          intro W3 hW3
          simp only [Act.put, List.setIfInBounds_toArray, List.set_cons_succ, List.set_cons_zero]
          have H3 := Lib.hid (HR2.out.next hW3)
          have ROW3 := Lib.hid (ROW2.out.next hW3)
          have c28 := H3.out.b2.cell 28 _ (fcV_pairs HF.out _)
          clear hW3
          repeat ((with_reducible fail_if_success (show wpList _ _ _ (⟨some 74, _, _, _, _, _⟩ :: _) _ _)); first | go_values | go_skip | go_guarded | go_step | go_upon)
          refine wpList_loadV rfl 78 (.tmp 73) rfl (a.add (k * 3)) rfl (prV (rdP f.pairs k)) _ (ROW3.out) Tryz.underlying78 rfl szPrI ?_
          clear c28
          repeat ((with_reducible fail_if_success (show wpList _ _ _ (⟨some 75, _, _, _, _, _⟩ :: _) _ _)); first | go_values | go_skip | go_guarded | go_step | go_upon)
          refine wpList_val (by kernel_rfl) (.slice (some ⟨W3.heap.size, 0, none⟩) 1 1) (W3.alloc (.cells (prV (rdP f.pairs k)).toArray 78)) (by kernel_rfl) ?_
          repeat ((with_reducible fail_if_success (show wpList _ _ _ (⟨some 76, _, _, _, _, _⟩ :: _) _ _)); first | go_values | go_skip | go_guarded | go_step | go_upon)
          refine wpList_appP rfl (.tmp 69) (.tmp 75) rfl W3 (w.heap.size + 3) u6 ps (ps).length rfl H3.out.own (rdP f.pairs k) rfl (by (try simp only [List.length_append, List.length_singleton]); omega) H3.out.size ?_
          intro v' w' ho' hg'
          have HR' := Lib.hid (H3.out.app ho' hg' (HF.out.pairs k (by rw [HN.out]; exact hlt)))
          clear ho' hg'
          repeat (first | go_values | go_skip | go_guarded | go_step | go_upon)
          go_roundw
          case rel => exact ⟨k + 1, true, ps ++ [rdP f.pairs k], by omega, by go_num, rfl, by simp only [List.length_append, List.length_singleton]; omega, HR'.out⟩
          case measure => simp [intOf]; omega
    · obtain rfl : k = n := by omega
      cases b
      · skip
        repeat ((with_reducible fail_if_success (show wpList _ _ _ (⟨some 80, _, _, _, _, _⟩ :: _) _ _)); first | go_values | go_skip | go_guarded | go_step | go_upon)
        refine wpList_loadV rfl 78 (.tmp 3) rfl ⟨w.heap.size + 1, 0, none⟩ rfl (prV p) _ (pr_row HR.out.b3) Tryz.underlying78 rfl szPrI ?_
        clear c28
        repeat ((with_reducible fail_if_success (show wpList _ _ _ (⟨some 81, _, _, _, _, _⟩ :: _) _ _)); first | go_values | go_skip | go_guarded | go_step | go_upon)
        refine wpList_val (by kernel_rfl) (.slice (some ⟨wr.heap.size, 0, none⟩) 1 1) (wr.alloc (.cells (prV p).toArray 78)) (by kernel_rfl) ?_
        repeat ((with_reducible fail_if_success (show wpList _ _ _ (⟨some 82, _, _, _, _, _⟩ :: _) _ _)); first | go_values | go_skip | go_guarded | go_step | go_upon)
        refine wpList_appP rfl (.tmp 79) (.tmp 81) rfl wr (w.heap.size + 3) u6 ps (ps).length rfl HR.out.own p rfl (by (try simp only [List.length_append, List.length_singleton]); omega) HR.out.size ?_
        intro v' w' ho' hg'
        have HR' := Lib.hid (HR.out.app ho' hg' HP.out)
        clear ho' hg'
        have hl' : (ps ++ [p]).length ≤ 2 * k + 1 := by simp only [List.length_append, List.length_singleton]; omega
        generalize ps ++ [p] = qs at *
        obtain ⟨A2, c2, rfl, hl2, hsl2, hfr2⟩ := own_slP HR'.out.own
        have c28 := HR'.out.b2.cell 28 _ (fcV_pairs HF.out _)
        have f28 := HR'.out.b2.free 28
        have hk2 := HR'.out.b2.set 28 (.slice A2 (qs).length c2)
        rw [fcV_set f HF.out _ _ (qs)] at hk2
        have hk4 := HR'.out.b4.other ⟨w.heap.size, 28, none⟩ (.slice A2 (qs).length c2) (by show w.heap.size + 1 + 1 ≠ w.heap.size; omega)
        have hsl3 := hsl2.setC (i := 28) (b := w.heap.size) (u := .slice A2 (qs).length c2) (fun a e => by have := (hfr2 a e).1; omega)
        have hbl3 : Below w.heap.size w (w'.setCell ⟨w.heap.size, 28, none⟩ (.slice A2 (qs).length c2)) := HR'.out.below.setCell (p := ⟨w.heap.size, 28, none⟩) (Nat.le_refl _) _
        have HT := Lib.hid HR'.out.typ
        have H2 := Lib.hid hk2
        have H4 := Lib.hid hk4
        have HSL := Lib.hid hsl3
        have HBL := Lib.hid hbl3
        have HFR := Lib.hid (show ∀ a, A2 = some a → w.heap.size + 3 ≤ a.block ∧ a.block < (w'.setCell ⟨w.heap.size, 28, none⟩ (.slice A2 (qs).length c2)).heap.size from fun a e => ⟨(hfr2 a e).1, by have := (hfr2 a e).2; simpa [World.setCell] using this⟩)
        clear hl2 hsl2 hfr2 hk2 hk4 hsl3 hbl3
        repeat (first | go_values | go_skip | go_guarded | go_step | go_upon)
        clear c28 f28
        generalize w'.setCell ⟨w.heap.size, 28, none⟩ (.slice A2 (qs).length c2) = W7 at *
        go_at_call 72
        refine (shape_spec (withP f qs) (qs).length w.heap.size W7 (withP_T HF.out HT.out) rfl (by (try simp only [List.length_append, List.length_singleton]); omega) ⟨A2, c2, H2.out, HSL.out⟩).mono ?_
        rintro e w8 ⟨rfl, hb8⟩
        have J2 := Lib.hid (H2.out.next hb8)
        have J4 := Lib.hid (H4.out.next hb8)
        have JSL := Lib.hid (HSL.out.next hb8)
        have JBL := Lib.hid (below_step HBL.out hb8)
        have JFR := Lib.hid (show ∀ a, A2 = some a → w.heap.size + 3 ≤ a.block ∧ a.block < w8.heap.size from fun a e => ⟨(HFR.out a e).1, by have := (HFR.out a e).2; have := hb8.size; omega⟩)
        clear hb8 H2 H4 HSL HBL
        cases hsh : shapeF (withP f qs)
        · dsimp only
          repeat ((with_reducible fail_if_success (show wpList _ _ _ (⟨some 87, _, _, _, _, _⟩ :: _) _ _)); first | go_values | go_skip | go_guarded | go_step | go_upon)
          refine wpList_val (by kernel_rfl) (.agg (fcV fc0 (.slice none 0 0)).toArray) w8 (by kernel_rfl) ?_
          repeat ((with_reducible fail_if_success (show wpList _ _ _ (⟨none, .store 28 (.tmp 4) (.tmp 87), _, _, _, _⟩ :: _) _ _)); first | go_values | go_skip | go_guarded | go_step | go_upon)
          refine wpList_store_row rfl 28 (.tmp 4) (.tmp 87) rfl (w.heap.size + 1 + 1) (fcV fc0 (.slice none 0 0)).toArray rfl rfl 28 _ J4.out (by rw [List.size_toArray, fcV_length fc0_T]; exact szFcI) rfl (one_fc _ _ _ _) ?_
          repeat (first | go_values | go_skip | go_guarded | go_step | go_upon)
          exact bodyPost_ret (v := .tuple #[.agg (fcV fc0 (.slice none 0 0)).toArray, .int .i64 4]) (results_row_tmp rfl _ _ (w.heap.size + 1 + 1) 28 (fcV fc0 (.slice none 0 0)).toArray _ _ _ rfl rfl (J4.out.setRow_same (fcV fc0 (.slice none 0 0))) Tryz.underlying28 rfl (by rw [List.size_toArray, fcV_length fc0_T]; exact szFcI)) rfl ⟨_, _, 4, rfl, fun h => by omega, fc0_D _ _, below_setRow JBL.out _ _ (by omega)⟩
        · dsimp only
          by_cases hm12 : (12 : Int) < (((qs).length : Nat) : Int)
          · skip
            repeat ((with_reducible fail_if_success (show wpList _ _ _ (⟨some 91, _, _, _, _, _⟩ :: _) _ _)); first | go_values | go_skip | go_guarded | go_step | go_upon)
            refine wpList_val (by kernel_rfl) (.agg (fcV fc0 (.slice none 0 0)).toArray) w8 (by kernel_rfl) ?_
            repeat ((with_reducible fail_if_success (show wpList _ _ _ (⟨none, .store 28 (.tmp 4) (.tmp 91), _, _, _, _⟩ :: _) _ _)); first | go_values | go_skip | go_guarded | go_step | go_upon)
            refine wpList_store_row rfl 28 (.tmp 4) (.tmp 91) rfl (w.heap.size + 1 + 1) (fcV fc0 (.slice none 0 0)).toArray rfl rfl 28 _ J4.out (by rw [List.size_toArray, fcV_length fc0_T]; exact szFcI) rfl (one_fc _ _ _ _) ?_
            repeat (first | go_values | go_skip | go_guarded | go_step | go_upon)
            exact bodyPost_ret (v := .tuple #[.agg (fcV fc0 (.slice none 0 0)).toArray, .int .i64 3]) (results_row_tmp rfl _ _ (w.heap.size + 1 + 1) 28 (fcV fc0 (.slice none 0 0)).toArray _ _ _ rfl rfl (J4.out.setRow_same (fcV fc0 (.slice none 0 0))) Tryz.underlying28 rfl (by rw [List.size_toArray, fcV_length fc0_T]; exact szFcI)) rfl ⟨_, _, 3, rfl, fun h => by omega, fc0_D _ _, below_setRow JBL.out _ _ (by omega)⟩
          · skip
            repeat ((with_reducible fail_if_success (show wpList _ _ _ (⟨some 92, _, _, _, _, _⟩ :: _) _ _)); first | go_values | go_skip | go_guarded | go_step | go_upon)
            refine wpList_load_row rfl 28 (.tmp 2) rfl _ rfl 28 (fcV (withP f qs) (.slice A2 (qs).length c2)).toArray _ _ J2.out Tryz.underlying28 rfl (by rw [List.size_toArray, fcV_length (withP_T HF.out HT.out)]; exact szFcI) ?_
            repeat ((with_reducible fail_if_success (show wpList _ _ _ (⟨none, .store 28 (.tmp 4) (.tmp 92), _, _, _, _⟩ :: _) _ _)); first | go_values | go_skip | go_guarded | go_step | go_upon)
            refine wpList_store_row rfl 28 (.tmp 4) (.tmp 92) rfl (w.heap.size + 1 + 1) (fcV (withP f qs) (.slice A2 (qs).length c2)).toArray rfl rfl 28 _ J4.out (by rw [List.size_toArray, fcV_length (withP_T HF.out HT.out)]; exact szFcI) (by rw [List.size_toArray, List.size_toArray, fcV_length (withP_T HF.out HT.out), fcV_length fc0_T]) (one_fc _ _ _ _) ?_
            repeat (first | go_values | go_skip | go_guarded | go_step | go_upon)
            exact bodyPost_ret (v := .tuple #[.agg (fcV (withP f qs) (.slice A2 (qs).length c2)).toArray, .int .i64 0]) (results_row_tmp rfl _ _ (w.heap.size + 1 + 1) 28 (fcV (withP f qs) (.slice A2 (qs).length c2)).toArray _ _ _ rfl rfl (J4.out.setRow_same (fcV (withP f qs) (.slice A2 (qs).length c2))) Tryz.underlying28 rfl (by rw [List.size_toArray, fcV_length (withP_T HF.out HT.out)]; exact szFcI)) rfl ⟨_, _, 0, rfl, fun _ => by rw [validF_few (n := (qs).length) rfl (by omega)]; exact hsh, ⟨withP_T HF.out HT.out, A2, _, c2, rfl, rfl, by (try simp only [List.length_append, List.length_singleton]); omega, JSL.out.setR (fun a e => by have := (JFR.out a e).1; omega), fun a e => ⟨by have := (JFR.out a e).1; omega, by have := (JFR.out a e).2; simpa using this⟩⟩, below_setRow JBL.out _ _ (by omega)⟩
      · clear c28
        obtain ⟨A2, c2, rfl, hl2, hsl2, hfr2⟩ := own_slP HR.out.own
        have c28 := HR.out.b2.cell 28 _ (fcV_pairs HF.out _)
        have f28 := HR.out.b2.free 28
        have hk2 := HR.out.b2.set 28 (.slice A2 (ps).length c2)
        rw [fcV_set f HF.out _ _ (ps)] at hk2
        have hk4 := HR.out.b4.other ⟨w.heap.size, 28, none⟩ (.slice A2 (ps).length c2) (by show w.heap.size + 1 + 1 ≠ w.heap.size; omega)
        have hsl3 := hsl2.setC (i := 28) (b := w.heap.size) (u := .slice A2 (ps).length c2) (fun a e => by have := (hfr2 a e).1; omega)
        have hbl3 : Below w.heap.size w (wr.setCell ⟨w.heap.size, 28, none⟩ (.slice A2 (ps).length c2)) := HR.out.below.setCell (p := ⟨w.heap.size, 28, none⟩) (Nat.le_refl _) _
        have HT := Lib.hid HR.out.typ
        have H2 := Lib.hid hk2
        have H4 := Lib.hid hk4
        have HSL := Lib.hid hsl3
        have HBL := Lib.hid hbl3
        have HFR := Lib.hid (show ∀ a, A2 = some a → w.heap.size + 3 ≤ a.block ∧ a.block < (wr.setCell ⟨w.heap.size, 28, none⟩ (.slice A2 (ps).length c2)).heap.size from fun a e => ⟨(hfr2 a e).1, by have := (hfr2 a e).2; simpa [World.setCell] using this⟩)
        clear hl2 hsl2 hfr2 hk2 hk4 hsl3 hbl3
        repeat (first | go_values | go_skip | go_guarded | go_step | go_upon)
        clear c28 f28
        generalize wr.setCell ⟨w.heap.size, 28, none⟩ (.slice A2 (ps).length c2) = W7 at *
        go_at_call 72
        refine (shape_spec (withP f ps) (ps).length w.heap.size W7 (withP_T HF.out HT.out) rfl (by (try simp only [List.length_append, List.length_singleton]); omega) ⟨A2, c2, H2.out, HSL.out⟩).mono ?_
        rintro e w8 ⟨rfl, hb8⟩
        have J2 := Lib.hid (H2.out.next hb8)
        have J4 := Lib.hid (H4.out.next hb8)
        have JSL := Lib.hid (HSL.out.next hb8)
        have JBL := Lib.hid (below_step HBL.out hb8)
        have JFR := Lib.hid (show ∀ a, A2 = some a → w.heap.size + 3 ≤ a.block ∧ a.block < w8.heap.size from fun a e => ⟨(HFR.out a e).1, by have := (HFR.out a e).2; have := hb8.size; omega⟩)
        clear hb8 H2 H4 HSL HBL
        cases hsh : shapeF (withP f ps)
        · dsimp only
          repeat ((with_reducible fail_if_success (show wpList _ _ _ (⟨some 87, _, _, _, _, _⟩ :: _) _ _)); first | go_values | go_skip | go_guarded | go_step | go_upon)
          refine wpList_val (by kernel_rfl) (.agg (fcV fc0 (.slice none 0 0)).toArray) w8 (by kernel_rfl) ?_
          repeat ((with_reducible fail_if_success (show wpList _ _ _ (⟨none, .store 28 (.tmp 4) (.tmp 87), _, _, _, _⟩ :: _) _ _)); first | go_values | go_skip | go_guarded | go_step | go_upon)
          refine wpList_store_row rfl 28 (.tmp 4) (.tmp 87) rfl (w.heap.size + 1 + 1) (fcV fc0 (.slice none 0 0)).toArray rfl rfl 28 _ J4.out (by rw [List.size_toArray, fcV_length fc0_T]; exact szFcI) rfl (one_fc _ _ _ _) ?_
          repeat (first | go_values | go_skip | go_guarded | go_step | go_upon)
          exact bodyPost_ret (v := .tuple #[.agg (fcV fc0 (.slice none 0 0)).toArray, .int .i64 4]) (results_row_tmp rfl _ _ (w.heap.size + 1 + 1) 28 (fcV fc0 (.slice none 0 0)).toArray _ _ _ rfl rfl (J4.out.setRow_same (fcV fc0 (.slice none 0 0))) Tryz.underlying28 rfl (by rw [List.size_toArray, fcV_length fc0_T]; exact szFcI)) rfl ⟨_, _, 4, rfl, fun h => by omega, fc0_D _ _, below_setRow JBL.out _ _ (by omega)⟩
        · dsimp only
          by_cases hm12 : (12 : Int) < (((ps).length : Nat) : Int)
          · skip
            repeat ((with_reducible fail_if_success (show wpList _ _ _ (⟨some 91, _, _, _, _, _⟩ :: _) _ _)); first | go_values | go_skip | go_guarded | go_step | go_upon)
            refine wpList_val (by kernel_rfl) (.agg (fcV fc0 (.slice none 0 0)).toArray) w8 (by kernel_rfl) ?_
            repeat ((with_reducible fail_if_success (show wpList _ _ _ (⟨none, .store 28 (.tmp 4) (.tmp 91), _, _, _, _⟩ :: _) _ _)); first | go_values | go_skip | go_guarded | go_step | go_upon)
            refine wpList_store_row rfl 28 (.tmp 4) (.tmp 91) rfl (w.heap.size + 1 + 1) (fcV fc0 (.slice none 0 0)).toArray rfl rfl 28 _ J4.out (by rw [List.size_toArray, fcV_length fc0_T]; exact szFcI) rfl (one_fc _ _ _ _) ?_
            repeat (first | go_values | go_skip | go_guarded | go_step | go_upon)
            exact bodyPost_ret (v := .tuple #[.agg (fcV fc0 (.slice none 0 0)).toArray, .int .i64 3]) (results_row_tmp rfl _ _ (w.heap.size + 1 + 1) 28 (fcV fc0 (.slice none 0 0)).toArray _ _ _ rfl rfl (J4.out.setRow_same (fcV fc0 (.slice none 0 0))) Tryz.underlying28 rfl (by rw [List.size_toArray, fcV_length fc0_T]; exact szFcI)) rfl ⟨_, _, 3, rfl, fun h => by omega, fc0_D _ _, below_setRow JBL.out _ _ (by omega)⟩
          · skip
            repeat ((with_reducible fail_if_success (show wpList _ _ _ (⟨some 92, _, _, _, _, _⟩ :: _) _ _)); first | go_values | go_skip | go_guarded | go_step | go_upon)
            refine wpList_load_row rfl 28 (.tmp 2) rfl _ rfl 28 (fcV (withP f ps) (.slice A2 (ps).length c2)).toArray _ _ J2.out Tryz.underlying28 rfl (by rw [List.size_toArray, fcV_length (withP_T HF.out HT.out)]; exact szFcI) ?_
            repeat ((with_reducible fail_if_success (show wpList _ _ _ (⟨none, .store 28 (.tmp 4) (.tmp 92), _, _, _, _⟩ :: _) _ _)); first | go_values | go_skip | go_guarded | go_step | go_upon)
            refine wpList_store_row rfl 28 (.tmp 4) (.tmp 92) rfl (w.heap.size + 1 + 1) (fcV (withP f ps) (.slice A2 (ps).length c2)).toArray rfl rfl 28 _ J4.out (by rw [List.size_toArray, fcV_length (withP_T HF.out HT.out)]; exact szFcI) (by rw [List.size_toArray, List.size_toArray, fcV_length (withP_T HF.out HT.out), fcV_length fc0_T]) (one_fc _ _ _ _) ?_
            repeat (first | go_values | go_skip | go_guarded | go_step | go_upon)
            exact bodyPost_ret (v := .tuple #[.agg (fcV (withP f ps) (.slice A2 (ps).length c2)).toArray, .int .i64 0]) (results_row_tmp rfl _ _ (w.heap.size + 1 + 1) 28 (fcV (withP f ps) (.slice A2 (ps).length c2)).toArray _ _ _ rfl rfl (J4.out.setRow_same (fcV (withP f ps) (.slice A2 (ps).length c2))) Tryz.underlying28 rfl (by rw [List.size_toArray, fcV_length (withP_T HF.out HT.out)]; exact szFcI)) rfl ⟨_, _, 0, rfl, fun _ => by rw [validF_few (n := (ps).length) rfl (by omega)]; exact hsh, ⟨withP_T HF.out HT.out, A2, _, c2, rfl, rfl, by (try simp only [List.length_append, List.length_singleton]); omega, JSL.out.setR (fun a e => by have := (JFR.out a e).1; omega), fun a e => ⟨by have := (JFR.out a e).1; omega, by have := (JFR.out a e).2; simpa using this⟩⟩, below_setRow JBL.out _ _ (by omega)⟩
end Go.Proofs.YtahggbaandcddaaGreatDoor
