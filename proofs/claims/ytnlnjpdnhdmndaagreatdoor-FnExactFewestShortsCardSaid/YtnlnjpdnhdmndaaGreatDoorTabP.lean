/- How the words from each one on are broken best: two tables, and that they tell the same. Plain. No walk here. -/
import Derived.Test.YtnlnjpdnhdmndaaGreatDoorGI

namespace Go.Proofs.YtnlnjpdnhdmndaaGreatDoor
open Go Go.RowKit
set_option linter.unusedVariables false
set_option linter.unusedSimpArgs false

/-- How unevenly, the breaks, in how many ways. -/
structure Tl where
  u : Int
  b : List Int
  c : Int
def before : List Int → List Int → Bool
  | [], ys => !ys.isEmpty
  | _ :: _, [] => false
  | x :: xs, y :: ys => if x = y then before xs ys else decide (x < y)
def z0 : Tl := ⟨0, [], 0⟩
def upd (T : Nat → Tl) (i : Nat) (t : Tl) : Nat → Tl := fun j => if j = i then t else T j
theorem upd_same (T : Nat → Tl) (i : Nat) (t : Tl) : upd T i t i = t := if_pos rfl
theorem upd_other {T : Nat → Tl} {i j : Nat} {t : Tl} (h : j ≠ i) : upd T i t j = T j := if_neg h
/-- What is left behind a line. -/
def lf (f : Fc) (ws : List (List UInt8)) (m : Int) (fr te : Nat) : Int := m - lnW f ws fr te
def mixS (best own : Tl) : Tl :=
  if best.u < 0 ∨ own.u < best.u ∨ (own.u = best.u ∧ before own.b best.b = true) then ⟨own.u, own.b, own.c + best.c⟩ else ⟨best.u, best.b, own.c + best.c⟩
def ownT (f : Fc) (ws : List (List UInt8)) (m : Int) (T : Nat → Tl) (fr te : Nat) : Tl := ⟨lf f ws m fr te * lf f ws m fr te + (T te).u, (te : Int) :: (T te).b, (T te).c⟩
def stS (f : Fc) (ws : List (List UInt8)) (m : Int) (T : Nat → Tl) (fr : Nat) (best : Tl) (te : Nat) : Tl :=
  if lf f ws m fr te < 0 then best else if te < ws.length then (if (T te).u < 0 then best else mixS best (ownT f ws m T fr te)) else mixS best ⟨0, [], 1⟩
def rowS (f : Fc) (ws : List (List UInt8)) (m : Int) (T : Nat → Tl) (fr : Nat) : Nat → Tl
  | 0 => ⟨-1, [], 0⟩
  | j + 1 => stS f ws m T fr (rowS f ws m T fr j) (fr + 1 + j)
def tabS (f : Fc) (ws : List (List UInt8)) (m : Int) : Nat → Nat → Tl
  | 0 => fun _ => z0
  | k + 1 => upd (tabS f ws m k) (ws.length - 1 - k) (rowS f ws m (tabS f ws m k) (ws.length - 1 - k) (k + 1))
def stI (f : Fc) (ws : List (List UInt8)) (m : Int) (T : Nat → Tl) (fr : Nat) (cur : Tl) (te : Nat) : Tl :=
  if lf f ws m fr te < 0 ∨ (T te).c = 0 then cur
  else if cur.c = 0 ∨ lf f ws m fr te * lf f ws m fr te + (T te).u < cur.u then ⟨lf f ws m fr te * lf f ws m fr te + (T te).u, (te : Int) :: (T te).b, cur.c + (T te).c⟩
  else ⟨cur.u, cur.b, cur.c + (T te).c⟩
def rowI (f : Fc) (ws : List (List UInt8)) (m : Int) (T : Nat → Tl) (fr : Nat) : Nat → Tl
  | 0 => ⟨0, [], if lf f ws m fr ws.length < 0 then 0 else 1⟩
  | j + 1 => stI f ws m T fr (rowI f ws m T fr j) (fr + 1 + j)
def tabI (f : Fc) (ws : List (List UInt8)) (m : Int) : Nat → Nat → Tl
  | 0 => fun _ => z0
  | k + 1 => upd (tabI f ws m k) (ws.length - 1 - k) (rowI f ws m (tabI f ws m k) (ws.length - 1 - k) k)

theorem lf_sq {f : Fc} (hf : FcV f) {ws : List (List UInt8)} (hw : Ws ws) {m : Int} (hm : m ≤ 4000) {fr te : Nat} (h : ¬ lf f ws m fr te < 0) : 0 ≤ lf f ws m fr te * lf f ws m fr te ∧ lf f ws m fr te * lf f ws m fr te ≤ 16000000 ∧ lf f ws m fr te ≤ 4000 := by
  have h1 := (lnW_range hf hw fr te).1
  have h2 : lf f ws m fr te ≤ 4000 := by unfold lf; omega
  generalize lf f ws m fr te = x at *
  have h0 : 0 ≤ x := by omega
  refine ⟨Int.mul_nonneg h0 h0, ?_, h2⟩
  have := Int.mul_le_mul h2 h2 h0 (by decide)
  omega
/-- A line that is too wide is so with a word more. -/
theorem lf_stop {f : Fc} (hf : FcV f) {ws : List (List UInt8)} (hw : Ws ws) {m : Int} {fr te te' : Nat} (h1 : fr < te) (h2 : te ≤ te') (h3 : te' ≤ ws.length) (h : lf f ws m fr te < 0) : lf f ws m fr te' < 0 := by
  have := lnW_mono hf hw (Nat.le_refl fr) h1 h2 h3
  unfold lf at *
  omega
theorem rowS_stop {f : Fc} (hf : FcV f) {ws : List (List UInt8)} (hw : Ws ws) {m : Int} {T : Nat → Tl} {fr j : Nat} (h : lf f ws m fr (fr + 1 + j) < 0) : ∀ d, fr + j + d ≤ ws.length → rowS f ws m T fr (j + d) = rowS f ws m T fr j := by
  intro d
  induction d with
  | zero => intro _; rfl
  | succ d ih =>
    intro hd
    rw [← Nat.add_assoc, rowS, stS, if_pos (lf_stop hf hw (by omega) (by omega) (by omega) h)]
    exact ih (by omega)

/-- An entry that is done, by the reference and by the program. -/
def Fin2 (N i : Nat) (s t : Tl) : Prop :=
  (s = ⟨-1, [], 0⟩ ∧ t = z0) ∨ (0 ≤ s.u ∧ s.u ≤ 16000000 * ((N : Int) - i) ∧ 0 < s.c ∧ s.c ≤ 2 ^ (N - 1 - i) ∧ s.b.length ≤ N - i ∧ t = s)
/-- An entry that is under way. -/
def PartS (N fr j : Nat) (s : Tl) : Prop :=
  s = ⟨-1, [], 0⟩ ∨ (0 ≤ s.u ∧ s.u ≤ 16000000 * ((N : Int) - fr) ∧ 0 < s.c ∧ s.c + 2 ^ (N - 1 - fr - j) ≤ 2 ^ (N - 1 - fr) ∧ s.b.length ≤ N - fr ∧ ∃ h r, s.b = h :: r ∧ h ≤ (fr : Int) + j)
def Part2 (N fr j : Nat) (b : Bool) (s t : Tl) : Prop :=
  PartS N fr j s ∧ (if b then t = ⟨0, [], 1 + s.c⟩ else ((s = ⟨-1, [], 0⟩ ∧ t = z0) ∨ (0 ≤ s.u ∧ t = s)))
theorem pow_step {N fr j : Nat} (h : fr + j + 1 < N) : (2 : Int) ^ (N - 1 - fr - j) = 2 ^ (N - 1 - fr - (j + 1)) + 2 ^ (N - 1 - fr - (j + 1)) := by
  rw [show N - 1 - fr - j = (N - 1 - fr - (j + 1)) + 1 by omega, Int.pow_succ]; omega
theorem partS_next {N fr j : Nat} {s : Tl} (h : fr + j + 1 < N) (hs : PartS N fr j s) : PartS N fr (j + 1) s := by
  rcases hs with hs | ⟨h1, h2, h3, h4, h5, x, r, h6, h7⟩
  · exact .inl hs
  · rw [pow_step h] at h4
    have := Int.pow_pos (n := 2) (m := N - 1 - fr - (j + 1)) (by decide)
    exact .inr ⟨h1, h2, h3, by omega, h5, x, r, h6, by omega⟩
theorem part2_next {N fr j : Nat} {b : Bool} {s t : Tl} (h : fr + j + 1 < N) (hs : Part2 N fr j b s t) : Part2 N fr (j + 1) b s t := ⟨partS_next h hs.1, hs.2⟩
theorem before_late {x h : Int} {xs r : List Int} (hh : h < x) : before (x :: xs) (h :: r) = false := by
  rw [before, if_neg (by omega)]
  exact decide_eq_false (by omega)
theorem mix_late {s o : Tl} {x h : Int} {xs r : List Int} (hs : 0 ≤ s.u) (ho : o.b = x :: xs) (hb : s.b = h :: r) (hh : h < x) : mixS s o = if o.u < s.u then ⟨o.u, o.b, o.c + s.c⟩ else ⟨s.u, s.b, o.c + s.c⟩ := by
  have e := before_late (xs := xs) (r := r) hh
  rw [← ho, ← hb] at e
  unfold mixS
  by_cases h1 : o.u < s.u
  · rw [if_pos (.inr (.inl h1)), if_pos h1]
  · rw [if_neg h1, if_neg]
    rintro (k | k | ⟨_, k⟩)
    · omega
    · omega
    · rw [e] at k; cases k

theorem step2 {f : Fc} (hf : FcV f) {ws : List (List UInt8)} (hw : Ws ws) {m : Int} (hm : m ≤ 4000) {TS TI : Nat → Tl} {fr j : Nat} {b : Bool} (hj : fr + j + 1 < ws.length) (hT : Fin2 ws.length (fr + 1 + j) (TS (fr + 1 + j)) (TI (fr + 1 + j))) {s t : Tl}
    (h : Part2 ws.length fr j b s t) : Part2 ws.length fr (j + 1) b (stS f ws m TS fr s (fr + 1 + j)) (stI f ws m TI fr t (fr + 1 + j)) := by
  unfold stS stI
  rw [if_pos (show fr + 1 + j < ws.length by omega)]
  by_cases h0 : lf f ws m fr (fr + 1 + j) < 0
  · rw [if_pos h0, if_pos (.inl h0)]
    exact part2_next hj h
  rw [if_neg h0]
  rcases hT with ⟨hs, ht⟩ | ⟨t1, t2, t3, t4, t5, ht⟩
  · rw [hs, if_pos (by decide), ht, if_pos (.inr rfl)]
    exact part2_next hj h
  obtain ⟨q1, q2, q3⟩ := lf_sq hf hw hm h0
  rw [if_neg (show ¬ (TS (fr + 1 + j)).u < 0 by omega), ht, if_neg (by rintro (k | k) <;> omega)]
  have hpow := pow_step (N := ws.length) hj
  rw [show ws.length - 1 - (fr + 1 + j) = ws.length - 1 - fr - (j + 1) by omega] at t4
  obtain ⟨o, ho⟩ : ∃ o, o = ownT f ws m TS fr (fr + 1 + j) := ⟨_, rfl⟩
  have hou : o.u = lf f ws m fr (fr + 1 + j) * lf f ws m fr (fr + 1 + j) + (TS (fr + 1 + j)).u := by rw [ho]; rfl
  have hob : o.b = ((fr + 1 + j : Nat) : Int) :: (TS (fr + 1 + j)).b := by rw [ho]; rfl
  have hoc : o.c = (TS (fr + 1 + j)).c := by rw [ho]; rfl
  have hol : o.b.length ≤ ws.length - fr := by rw [hob, List.length_cons]; omega
  rw [← hou, ← hob, ← hoc, ← ho]
  rw [← hoc] at t3 t4
  have h16 : o.u ≤ 16000000 * ((ws.length : Int) - fr) := by rw [hou]; push_cast at t2 ⊢; omega
  have h00 : 0 ≤ o.u := by omega
  clear hou ht ho
  obtain ⟨hp, hc⟩ := h
  have hmc : (mixS s o).c = o.c + s.c := by unfold mixS; split <;> rfl
  have hnew : PartS ws.length fr (j + 1) (mixS s o) := by
    rcases hp with rfl | ⟨h1, h2, h3, h4, h5, x, r, h6, h7⟩
    · right
      have : mixS ⟨-1, [], 0⟩ o = ⟨o.u, o.b, o.c + 0⟩ := by unfold mixS; rw [if_pos (.inl (by decide))]
      rw [this]
      refine ⟨h00, h16, by show 0 < o.c + 0; omega, ?_, hol, _, _, hob, by push_cast; omega⟩
      show o.c + 0 + _ ≤ _
      have hle : (2 : Int) ^ (ws.length - 1 - fr - j) ≤ 2 ^ (ws.length - 1 - fr) := by
        have := Nat.pow_le_pow_right (n := 2) (by decide) (show ws.length - 1 - fr - j ≤ ws.length - 1 - fr by omega)
        exact_mod_cast this
      omega
    · right
      rw [mix_late h1 hob h6 (by push_cast; omega)]
      by_cases hlt : o.u < s.u
      · rw [if_pos hlt]
        exact ⟨h00, h16, by show 0 < o.c + s.c; omega, by show o.c + s.c + _ ≤ _; omega, hol, _, _, hob, by push_cast; omega⟩
      · rw [if_neg hlt]
        exact ⟨h1, h2, by show 0 < o.c + s.c; omega, by show o.c + s.c + _ ≤ _; omega, h5, _, _, h6, by push_cast; omega⟩
  refine ⟨hnew, ?_⟩
  cases b
  · rw [if_neg (by decide)] at hc ⊢
    rcases hc with ⟨rfl, rfl⟩ | ⟨hs, rfl⟩
    · right
      rw [if_pos (.inl rfl)]
      have : mixS ⟨-1, [], 0⟩ o = ⟨o.u, o.b, o.c + 0⟩ := by unfold mixS; rw [if_pos (.inl (by decide))]
      rw [this]
      refine ⟨h00, ?_⟩
      show Tl.mk _ _ (0 + o.c) = Tl.mk _ _ (o.c + 0)
      rw [Int.zero_add, Int.add_zero]
    · rcases hp with rfl | ⟨h1, h2, h3, h4, h5, x, r, h6, h7⟩
      · exact absurd hs (by decide)
      · right
        rw [mix_late h1 hob h6 (by push_cast; omega)]
        by_cases hlt : o.u < t.u
        · rw [if_pos hlt, if_pos (.inr hlt), Int.add_comm]
          exact ⟨h00, rfl⟩
        · rw [if_neg hlt, if_neg (by rintro (k | k) <;> omega), Int.add_comm]
          exact ⟨h1, rfl⟩
  · rw [if_pos rfl] at hc ⊢
    subst hc
    have hs0 : 0 ≤ s.c := by
      rcases hp with rfl | ⟨h1, h2, h3, _⟩
      · exact Int.le_refl 0
      · omega
    rw [if_neg (by rintro (k | k) <;> (dsimp only at k; omega)), hmc]
    show Tl.mk 0 [] (1 + s.c + o.c) = Tl.mk 0 [] (1 + (o.c + s.c))
    congr 1
    omega
/-- The row of a word is done. -/
theorem last2 {f : Fc} {ws : List (List UInt8)} {m : Int} {TS : Nat → Tl} {fr : Nat} (hfr : fr < ws.length) {j : Nat} (hj : j = ws.length - 1 - fr) {s t : Tl} (h : Part2 ws.length fr j (decide (0 ≤ lf f ws m fr ws.length)) s t) :
    Fin2 ws.length fr (stS f ws m TS fr s ws.length) t := by
  subst hj
  obtain ⟨hp, hc⟩ := h
  unfold stS
  rw [if_neg (Nat.lt_irrefl ws.length)]
  by_cases h0 : lf f ws m fr ws.length < 0
  · rw [if_pos h0]
    rw [decide_eq_false (by omega), if_neg (by decide)] at hc
    rcases hc with ⟨rfl, rfl⟩ | ⟨hs, rfl⟩
    · exact .inl ⟨rfl, rfl⟩
    · rcases hp with rfl | ⟨h1, h2, h3, h4, h5, x, r, h6, h7⟩
      · exact absurd hs (by decide)
      · right
        have := Int.pow_pos (n := 2) (m := ws.length - 1 - fr - (ws.length - 1 - fr)) (by decide)
        exact ⟨h1, h2, h3, by omega, h5, rfl⟩
  · rw [if_neg h0]
    rw [decide_eq_true (by omega), if_pos rfl] at hc
    subst hc
    have hm : mixS s ⟨0, [], 1⟩ = ⟨0, [], 1 + s.c⟩ := by
      unfold mixS
      rw [if_pos]
      rcases hp with rfl | ⟨h1, h2, h3, h4, h5, x, r, h6, h7⟩
      · exact .inl (by decide)
      · by_cases e : s.u = 0
        · exact .inr (.inr ⟨e.symm, by rw [h6]; rfl⟩)
        · exact .inr (.inl (by show 0 < s.u; omega))
    rw [hm]
    right
    refine ⟨Int.le_refl 0, by show (0 : Int) ≤ _; omega, ?_, ?_, Nat.zero_le _, rfl⟩
    · show 0 < 1 + s.c
      rcases hp with rfl | ⟨h1, h2, h3, _⟩
      · decide
      · omega
    · show 1 + s.c ≤ _
      rcases hp with rfl | ⟨h1, h2, h3, h4, _⟩
      · have := Int.pow_pos (n := 2) (m := ws.length - 1 - fr) (by decide)
        show 1 + (0 : Int) ≤ _
        omega
      · rw [Nat.sub_self, Int.pow_zero] at h4
        omega
theorem row2 {f : Fc} (hf : FcV f) {ws : List (List UInt8)} (hw : Ws ws) {m : Int} (hm : m ≤ 4000) {TS TI : Nat → Tl} {fr : Nat} (hT : ∀ i, fr < i → i < ws.length → Fin2 ws.length i (TS i) (TI i)) :
    ∀ j, fr + j < ws.length → Part2 ws.length fr j (decide (0 ≤ lf f ws m fr ws.length)) (rowS f ws m TS fr j) (rowI f ws m TI fr j) := by
  intro j
  induction j with
  | zero =>
    intro _
    refine ⟨.inl rfl, ?_⟩
    rw [rowI]
    by_cases h0 : lf f ws m fr ws.length < 0
    · rw [decide_eq_false (by omega), if_neg (by decide), if_pos h0]
      exact .inl ⟨rfl, rfl⟩
    · rw [decide_eq_true (by omega), if_pos rfl, if_neg h0]
      rfl
  | succ j ih =>
    intro hj
    exact step2 hf hw hm (by omega) (hT _ (by omega) (by omega)) (ih (by omega))
/-- What both tables hold once k words are done. -/
theorem tab2 {f : Fc} (hf : FcV f) {ws : List (List UInt8)} (hw : Ws ws) {m : Int} (hm : m ≤ 4000) : ∀ k, k ≤ ws.length → ∀ i, ws.length - k ≤ i → i < ws.length → Fin2 ws.length i (tabS f ws m k i) (tabI f ws m k i) := by
  intro k
  induction k with
  | zero => intro _ i h1 h2; omega
  | succ k ih =>
    intro hk i h1 h2
    rw [tabS, tabI]
    by_cases hi : i = ws.length - 1 - k
    · subst hi
      rw [upd_same, upd_same]
      have hr := row2 hf hw hm (TS := tabS f ws m k) (TI := tabI f ws m k) (fr := ws.length - 1 - k) (fun i h3 h4 => ih (by omega) i (by omega) h4) k (by omega)
      have := last2 (f := f) (ws := ws) (m := m) (TS := tabS f ws m k) h2 (by omega) hr
      rw [rowS, show ws.length - 1 - k + 1 + k = ws.length by omega]
      exact this
    · rw [upd_other hi, upd_other hi]
      exact ih (by omega) i (by omega) h2
/-- The reference's rows under way, and the program's. -/
theorem part2 {f : Fc} (hf : FcV f) {ws : List (List UInt8)} (hw : Ws ws) {m : Int} (hm : m ≤ 4000) {k : Nat} (hk : k < ws.length) {j : Nat} (hj : j ≤ k) :
    Part2 ws.length (ws.length - 1 - k) j (decide (0 ≤ lf f ws m (ws.length - 1 - k) ws.length)) (rowS f ws m (tabS f ws m k) (ws.length - 1 - k) j) (rowI f ws m (tabI f ws m k) (ws.length - 1 - k) j) :=
  row2 hf hw hm (fun i h3 h4 => tab2 hf hw hm k (by omega) i (by omega) h4) j (by omega)

/-! ### No way at all -/
theorem rowI_grow (f : Fc) (ws : List (List UInt8)) (m : Int) (T : Nat → Tl) (fr : Nat) {k : Nat} (hT : ∀ i, fr < i → i ≤ fr + k → 0 ≤ (T i).c) (j : Nat) : ∀ d, j + d ≤ k → (rowI f ws m T fr j).c ≤ (rowI f ws m T fr (j + d)).c := by
  intro d
  induction d with
  | zero => intro _; exact Int.le_refl _
  | succ d ih =>
    intro hd
    have h1 := ih (by omega)
    have h2 := hT (fr + 1 + (j + d)) (by omega) (by omega)
    have h3 : (rowI f ws m T fr (j + d)).c ≤ (stI f ws m T fr (rowI f ws m T fr (j + d)) (fr + 1 + (j + d))).c := by
      unfold stI
      split
      · exact Int.le_refl _
      · split
        · show _ ≤ _ + _; omega
        · show _ ≤ _ + _; omega
    exact Int.le_trans h1 h3
theorem fin2_c {N i : Nat} {s t : Tl} (h : Fin2 N i s t) : 0 ≤ t.c := by
  rcases h with ⟨_, rfl⟩ | ⟨_, _, h3, _, _, rfl⟩
  · exact Int.le_refl 0
  · omega
theorem way_some {f : Fc} (hf : FcV f) {ws : List (List UInt8)} (hw : Ws ws) {m : Int} (hm : m ≤ 4000) (h : FitsN f ws m ws.length) : ∀ k, k ≤ ws.length → ∀ i, ws.length - k ≤ i → i < ws.length → 0 < (tabI f ws m k i).c := by
  intro k
  induction k with
  | zero => intro _ i h1 h2; omega
  | succ k ih =>
    intro hk i h1 h2
    rw [tabI]
    by_cases hi : i = ws.length - 1 - k
    · subst hi
      rw [upd_same]
      have hT : ∀ i, ws.length - 1 - k < i → i ≤ ws.length - 1 - k + k → 0 ≤ (tabI f ws m k i).c := fun i h3 h4 => fin2_c (tab2 hf hw hm k (by omega) i (by omega) (by omega))
      have hl : ¬ lf f ws m (ws.length - 1 - k) (ws.length - 1 - k + 1) < 0 := by have := h _ h2; unfold lf; omega
      by_cases hk0 : k = 0
      · subst hk0
        rw [rowI, if_neg (by rw [show ws.length - 1 - 0 + 1 = ws.length by omega] at hl; exact hl)]
        show (0 : Int) < 1
        decide
      · have h3 := rowI_grow f ws m (tabI f ws m k) (ws.length - 1 - k) hT 1 (k - 1) (by omega)
        rw [show 1 + (k - 1) = k by omega] at h3
        have h5 := ih (by omega) (ws.length - 1 - k + 1) (by omega) (by omega)
        have h6 : 0 ≤ (rowI f ws m (tabI f ws m k) (ws.length - 1 - k) 0).c := by
          rw [rowI]; show (0 : Int) ≤ if _ then 0 else 1; split <;> decide
        have h4 : 0 < (rowI f ws m (tabI f ws m k) (ws.length - 1 - k) 1).c := by
          have e1 : rowI f ws m (tabI f ws m k) (ws.length - 1 - k) 1 = stI f ws m (tabI f ws m k) (ws.length - 1 - k) (rowI f ws m (tabI f ws m k) (ws.length - 1 - k) 0) (ws.length - 1 - k + 1) := rfl
          rw [e1, stI, if_neg (by rintro (q | q) <;> omega)]
          split
          · show 0 < _ + _; omega
          · show 0 < _ + _; omega
        omega
    · rw [upd_other hi]
      exact ih (by omega) i (by omega) h2
theorem way_none {f : Fc} (hf : FcV f) {ws : List (List UInt8)} (hw : Ws ws) {m : Int} {x : Nat} (hx : x < ws.length) (h : m < lnW f ws x (x + 1)) : ∀ k, k ≤ ws.length → ∀ i, ws.length - k ≤ i → i ≤ x → tabI f ws m k i = z0 := by
  intro k
  induction k with
  | zero => intro _ i h1 h2; omega
  | succ k ih =>
    intro hk i h1 h2
    rw [tabI]
    by_cases hi : i = ws.length - 1 - k
    · subst hi
      rw [upd_same]
      have hlong : ∀ te, x < te → te ≤ ws.length → lf f ws m (ws.length - 1 - k) te < 0 := fun te h3 h4 => by
        have := lnW_mono hf hw (a := ws.length - 1 - k) (a' := x) (b' := x + 1) (b := te) h2 (by omega) (by omega) h4
        unfold lf
        omega
      have : ∀ j, j ≤ k → rowI f ws m (tabI f ws m k) (ws.length - 1 - k) j = z0 := by
        intro j
        induction j with
        | zero => intro _; rw [rowI, if_pos (hlong _ hx (Nat.le_refl _))]; rfl
        | succ j jh =>
          intro hj
          rw [rowI, jh (by omega), stI, if_pos]
          by_cases hte : ws.length - 1 - k + 1 + j ≤ x
          · right; rw [ih (by omega) _ (by omega) hte]; rfl
          · left; exact hlong _ (by omega) (by omega)
      exact this k (Nat.le_refl _)
    · rw [upd_other hi]
      exact ih (by omega) i (by omega) h2
theorem way_iff {f : Fc} (hf : FcV f) {ws : List (List UInt8)} (hw : Ws ws) {m : Int} (hm : m ≤ 4000) (h0 : 0 < ws.length) : fits f ws m = true ↔ ¬ (tabI f ws m ws.length 0).c = 0 := by
  constructor
  · intro h
    have := way_some hf hw hm (of_decide_eq_true h : FitsN f ws m ws.length) ws.length (Nat.le_refl _) 0 (by omega) h0
    omega
  · intro h
    refine decide_eq_true fun x hx => ?_
    by_cases hb : lnW f ws x (x + 1) ≤ m
    · exact hb
    · exact absurd (by rw [way_none hf hw hx (by omega) ws.length (Nat.le_refl _) 0 (by omega) (Nat.zero_le _)]; rfl) h
end Go.Proofs.YtnlnjpdnhdmndaaGreatDoor
