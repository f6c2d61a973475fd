/- The law of rubbings: its tail: two rubbings moved there and back. -/
import Derived.Test.YtgmlhnmjeelajaaGA
import Derived.Test.YtgmlhnmjeelajaaSrcR
import Derived.Test.YtgmlhnmjeelajaaRubL
import Derived.Test.YtgmlhnmjeelajaaRubN
import Derived.Test.YtgmlhnmjeelajaaRubZ
import Derived.Test.YtgmlhnmjeelajaaRubE
import Derived.Test.YtgmlhnmjeelajaaPick



namespace Go.Proofs.Ytgmlhnmjeelajaa.lawRubbings
open Go Go.RowKit Go.Proofs.Ytgmlhnmjeelajaa
set_option linter.unusedVariables false
set_option linter.unusedSimpArgs false

set_option maxHeartbeats 4000000 in
set_option maxRecDepth 100000 in
theorem tail (w wr : World) (Ab : Option Addr) (nb cb : Nat) (b : List Int) (HNB : Hid (b.length = nb)) (mb : nb ≤ maxLen) (HSB : Hid (SlE u8 wr Ab b)) (HYB : Hid (Byt b)) (ra rb : List Nat) (HVA : Hid (RubV ra)) (HVB : Hid (RubV rb)) (g5 g6 : Nat) (HK5 : Hid (Blk wr g5 26 (ra.map Go.Proofs.Ytgmlhnmjeelajaa.u16))) (HK6 : Hid (Blk wr g6 26 (rb.map Go.Proofs.Ytgmlhnmjeelajaa.u16))) (HBB : Hid (Below w.heap.size w wr)) (K : Int) (HK : Hid (K = ((countN ra : Nat) : Int)))
    (u0 u2 u3 u4 u7 u8 u9 u10 u11 u12 u13 u14 u15 u17 u18 u19 u20 u21 u22 u23 u24 u25 u26 u27 u28 u29 u30 u31 u32 u33 u34 u35 u36 u37 u38 u39 u40 u41 u42 u43 u44 u45 u46 u47 u48 u49 u50 u51 u52 u53 u54 u55 u56 u57 u58 u59 u60 u61 u62 u63 u64 u65 u66 u67 u68 u69 u70 u71 u72 u73 u74 u75 u76 u77 u78 u79 u80 u81 u82 u83 u84 u85 u86 u87 u88 u89 u90 u91 u92 u93 u94 u95 u96 u97 u98 u99 u100 u101 u102 u103 u104 u105 u106 u107 u108 u109 u110 u111 u112 u113 u114 u115 u116 u117 u118 u119 u120 u121 u122 u123 u124 u125 u126 u127 u128 u129 u130 u131 u132 u133 u134 u135 u136 u137 u138 u139 u140 u141 u142 u143 u144 u145 u146 u147 u148 u149 u150 u151 u152 u153 u154 u155 u156 u157 u158 u159 u160 u161 u162 u163 u164 u165 u166 u167 u168 u169 u170 u171 u172 u173 u174 u175 u176 u177 u178 u179 u180 u181 u182 u183 u184 u185 u186 u187 u188 u189 u190 u191 u192 u193 u194 u195 u196 u197 u198 u199 u200 u201 u202 u203 u204 u205 u206 u207 u208 u209 u210 u211 u212 u213 u214 u215 u216 u217 u218 u219 u220 u221 u222 u223 u224 u225 u226 u227 u228 u229 u230 u231 u232 u233 u234 u235 u236 u237 u238 u239 u240 u241 u242 u243 u244 u245 u246 u247 u248 u249 u250 u251 u252 u253 u254 u255 u256 u257 u258 u259 u260 u261 u262 u263 u264 u265 u266 u267 u268 u269 u270 u271 u272 u273 u274 u275 u276 u277 u278 u279 u280 u281 u282 u283 u284 u285 u286 u287 u288 u289 u290 u291 u292 u293 u294 u295 u296 u297 u298 u299 u300 u301 u302 u303 u304 u305 u306 u307 u308 u309 u310 u311 u312 u313 u314 u315 u316 u317 u318 u319 u320 u321 u322 u323 u324 u325 u326 u327 u328 u329 u330 u331 u332 u333 u334 u335 u336 u337 u338 u339 u340 u341 u342 u343 u344 u345 u346 u347 u348 u349 u350 u351 u352 u353 u354 u355 u356 u357 u358 : Value) :
    Code.wp Try.prog (partOf Try.f3 [true, true, true, true, true, true, true, true, true, true, true, true, true, true, true]) (bodyPost Try.prog Try.f3 fun e w' => e = .returned (.bool true) ∧ Below w.heap.size w w')
      ⟨#[u0, .slice Ab nb cb, u2, u3, u4, .pointer (some ⟨g5, 0, none⟩), .pointer (some ⟨g6, 0, none⟩), u7, u8, u9, u10, u11, u12, u13, u14, u15, .int .i64 K, u17, u18, u19, u20, u21, u22, u23, u24, u25, u26, u27, u28, u29, u30, u31, u32, u33, u34, u35, u36, u37, u38, u39, u40, u41, u42, u43, u44, u45, u46, u47, u48, u49, u50, u51, u52, u53, u54, u55, u56, u57, u58, u59, u60, u61, u62, u63, u64, u65, u66, u67, u68, u69, u70, u71, u72, u73, u74, u75, u76, u77, u78, u79, u80, u81, u82, u83, u84, u85, u86, u87, u88, u89, u90, u91, u92, u93, u94, u95, u96, u97, u98, u99, u100, u101, u102, u103, u104, u105, u106, u107, u108, u109, u110, u111, u112, u113, u114, u115, u116, u117, u118, u119, u120, u121, u122, u123, u124, u125, u126, u127, u128, u129, u130, u131, u132, u133, u134, u135, u136, u137, u138, u139, u140, u141, u142, u143, u144, u145, u146, u147, u148, u149, u150, u151, u152, u153, u154, u155, u156, u157, u158, u159, u160, u161, u162, u163, u164, u165, u166, u167, u168, u169, u170, u171, u172, u173, u174, u175, u176, u177, u178, u179, u180, u181, u182, u183, u184, u185, u186, u187, u188, u189, u190, u191, u192, u193, u194, u195, u196, u197, u198, u199, u200, u201, u202, u203, u204, u205, u206, u207, u208, u209, u210, u211, u212, u213, u214, u215, u216, u217, u218, u219, u220, u221, u222, u223, u224, u225, u226, u227, u228, u229, u230, u231, u232, u233, u234, u235, u236, u237, u238, u239, u240, u241, u242, u243, u244, u245, u246, u247, u248, u249, u250, u251, u252, u253, u254, u255, u256, u257, u258, u259, u260, u261, u262, u263, u264, u265, u266, u267, u268, u269, u270, u271, u272, u273, u274, u275, u276, u277, u278, u279, u280, u281, u282, u283, u284, u285, u286, u287, u288, u289, u290, u291, u292, u293, u294, u295, u296, u297, u298, u299, u300, u301, u302, u303, u304, u305, u306, u307, u308, u309, u310, u311, u312, u313, u314, u315, u316, u317, u318, u319, u320, u321, u322, u323, u324, u325, u326, u327, u328, u329, u330, u331, u332, u333, u334, u335, u336, u337, u338, u339, u340, u341, u342, u343, u344, u345, u346, u347, u348, u349, u350, u351, u352, u353, u354, u355, u356, u357, u358], []⟩ wr := by
  conv => arg 2; whnf
  have hla := HVA.out.len
  have hlb := HVB.out.len
  generalize hQ : (bodyPost Try.prog Try.f3 fun e w' => e = .returned (.bool true) ∧ Below w.heap.size w w') = Q
  have HQ := Lib.hid hQ
  clear hQ
  go_wp2_with fail
  go_at_call 18
  refine (at_any Ab nb cb b 0 11 wr HNB.out mb HSB.out HYB.out (by omega) (by omega)).mono ?_
  rintro e wq ⟨⟨p0, rfl, p1, p2⟩, rfl⟩
  dsimp only
  obtain ⟨p, hp⟩ : ∃ p, p = p0 - 5 := ⟨_, rfl⟩
  have hwp : IntKind.i64.wrap (p0 - 5) = p := by rw [hp]; exact IntWalk.i64_in _ (by omega)
  have hpr : -5 ≤ p ∧ p ≤ 5 := by omega
  clear hp
  repeat (first | go_values | go_skip | go_guarded | go_step | go_upon)
  go_at_call 18
  refine (at_any Ab nb cb b 1 11 wr HNB.out mb HSB.out HYB.out (by omega) (by omega)).mono ?_
  rintro e wq ⟨⟨q0, rfl, q1, q2⟩, rfl⟩
  dsimp only
  obtain ⟨q, hq⟩ : ∃ q, q = q0 - 5 := ⟨_, rfl⟩
  have hwq : IntKind.i64.wrap (q0 - 5) = q := by rw [hq]; exact IntWalk.i64_in _ (by omega)
  have hqr : -5 ≤ q ∧ q ≤ 5 := by omega
  clear hq
  have HM1 := Lib.hid (show moveOut ra p q = (movR ra p q, 0) by unfold moveOut mayMove; rw [inB_true hpr, inB_true hqr]; rfl)
  have HM2 := Lib.hid (show moveOut (movR ra p q) (-p) (-q) = (movR (movR ra p q) (-p) (-q), 0) by unfold moveOut mayMove; rw [inB_true (show -5 ≤ -p ∧ -p ≤ 5 by omega), inB_true (show -5 ≤ -q ∧ -q ≤ 5 by omega)]; rfl)
  have HW := Lib.hid (worn_back ra p q)
  have HCL := Lib.hid (count_back_le ra p q hpr hqr)
  have HBS := Lib.hid (fun h => back_same ra HVA.out.len HVA.out.lt p q hpr hqr h)
  have HMO := Lib.hid (show matchOut ra rb p q = ((atN ra rb p q : Int), 0) by unfold matchOut mayMove; rw [inB_true hpr, inB_true hqr]; rfl)
  obtain ⟨D, hD⟩ : ∃ D, D = movR ra p q := ⟨_, rfl⟩
  obtain ⟨E, hE⟩ : ∃ E, E = movR D (-p) (-q) := ⟨_, rfl⟩
  have HVD := Lib.hid (show RubV D by rw [hD]; exact ⟨movR_length _ _ _, gridR_lt _⟩)
  have HVE := Lib.hid (show RubV E by rw [hE]; exact ⟨movR_length _ _ _, gridR_lt _⟩)
  rw [← hD] at HM1 HM2 HW HCL HBS
  rw [← hE] at HM2 HW HBS
  have hld := HVD.out.len
  have hle := HVE.out.len
  clear hD hE
  have hnp : IntKind.i64.wrap (0 - p) = -p := neg_i64 (by omega)
  have hnq : IntKind.i64.wrap (0 - q) = -q := neg_i64 (by omega)
  obtain ⟨K2, hK2⟩ : ∃ K2 : Int, K2 = ((countN D : Nat) : Int) := ⟨_, rfl⟩
  have HC2 := Lib.hid hK2
  have hle2 : ¬ K < K2 := by rw [hK2, HK.out]; have := HCL.out; omega
  clear hK2
  have hk5 := HK5.out
  have hk6 := HK6.out
  have hB := HBB.out
  clear HSB p1 p2 q1 q2
  repeat ((with_reducible fail_if_success (show wpList _ _ _ (⟨some 270, _, _, _, _, _⟩ :: _) _ _)); first | go_values | go_skip | go_guarded | go_step | go_upon)
  (refine wpList_load_row rfl 26 (.tmp 5) rfl _ rfl 26 (R16 ra) _ _ hk5 Try.underlying26 rfl (by rw [R16_size, hla]; exact szRub) ?_)
  repeat (first | go_values | go_skip | go_guarded | go_step | go_upon)
  go_at_call 19
  refine (moveRub_impl ra p q _ HVA.out.len HVA.out.lt).mono ?_
  rintro e v1 ⟨rfl, hb3⟩
  rw [HM1.out]
  dsimp only
  replace hk5 := hk5.next hb3
  replace hk6 := hk6.next hb3
  replace hB := below_step hB hb3
  clear hb3
  have hb3 := below_one v1 (.cells (R16 D) 26)
  have hk28 : Blk (v1.alloc (.cells (R16 D) 26)) v1.heap.size 26 (D.map Go.Proofs.Ytgmlhnmjeelajaa.u16) := Blk.new v1 26 (D.map Go.Proofs.Ytgmlhnmjeelajaa.u16)
  replace hk5 := hk5.next hb3
  replace hk6 := hk6.next hb3
  replace hB := below_step hB hb3
  clear hb3
  repeat ((with_reducible fail_if_success (show wpList _ _ _ (⟨none, .store 26 (.tmp 28) (.tmp 274), _, _, _, _⟩ :: _) _ _)); first | go_values | go_skip | go_guarded | go_step | go_upon)
  (refine wpList_store_new rfl 26 (.tmp 28) (.tmp 274) rfl (R16 D) rfl rfl 26 _ (by rw [R16_size, hld]; exact szRub) (by rw [R16_size, hld]; rfl) (one_u16 _) ?_)
  repeat ((with_reducible fail_if_success (show wpList _ _ _ (⟨some 277, _, _, _, _, _⟩ :: _) _ _)); first | go_values | go_skip | go_guarded | go_step | go_upon)
  (refine wpList_load_row rfl 26 (.tmp 5) rfl _ rfl 26 (R16 ra) _ _ hk5 Try.underlying26 rfl (by rw [R16_size, hla]; exact szRub) ?_)
  repeat (first | go_values | go_skip | go_guarded | go_step | go_upon)
  go_at_call 20
  refine (moveRub_spec ra p q _ HVA.out.len).mono ?_
  rintro e v2 ⟨rfl, hb3⟩
  rw [HM1.out]
  dsimp only
  replace hk5 := hk5.next hb3
  replace hk6 := hk6.next hb3
  replace hk28 := hk28.next hb3
  replace hB := below_step hB hb3
  clear hb3
  have hb3 := below_one v2 (.cells (R16 D) 26)
  have hk30 : Blk (v2.alloc (.cells (R16 D) 26)) v2.heap.size 26 (D.map Go.Proofs.Ytgmlhnmjeelajaa.u16) := Blk.new v2 26 (D.map Go.Proofs.Ytgmlhnmjeelajaa.u16)
  replace hk5 := hk5.next hb3
  replace hk6 := hk6.next hb3
  replace hk28 := hk28.next hb3
  replace hB := below_step hB hb3
  clear hb3
  repeat ((with_reducible fail_if_success (show wpList _ _ _ (⟨none, .store 26 (.tmp 30) (.tmp 281), _, _, _, _⟩ :: _) _ _)); first | go_values | go_skip | go_guarded | go_step | go_upon)
  (refine wpList_store_new rfl 26 (.tmp 30) (.tmp 281) rfl (R16 D) rfl rfl 26 _ (by rw [R16_size, hld]; exact szRub) (by rw [R16_size, hld]; rfl) (one_u16 _) ?_)
  repeat ((with_reducible fail_if_success (show wpList _ _ _ (⟨some 284, _, _, _, _, _⟩ :: _) _ _)); first | go_values | go_skip | go_guarded | go_step | go_upon)
  (refine wpList_load_row rfl 26 (.tmp 30) rfl _ rfl 26 (R16 D) _ _ hk30 Try.underlying26 rfl (by rw [R16_size, hld]; exact szRub) ?_)
  repeat (first | go_values | go_skip | go_guarded | go_step | go_upon)
  go_at_call 19
  refine (moveRub_impl D (-p) (-q) _ HVD.out.len HVD.out.lt).mono ?_
  rintro e v3 ⟨rfl, hb3⟩
  rw [HM2.out]
  dsimp only
  replace hk5 := hk5.next hb3
  replace hk6 := hk6.next hb3
  replace hk28 := hk28.next hb3
  replace hk30 := hk30.next hb3
  replace hB := below_step hB hb3
  clear hb3
  have hb3 := below_one v3 (.cells (R16 E) 26)
  have hk32 : Blk (v3.alloc (.cells (R16 E) 26)) v3.heap.size 26 (E.map Go.Proofs.Ytgmlhnmjeelajaa.u16) := Blk.new v3 26 (E.map Go.Proofs.Ytgmlhnmjeelajaa.u16)
  replace hk5 := hk5.next hb3
  replace hk6 := hk6.next hb3
  replace hk28 := hk28.next hb3
  replace hk30 := hk30.next hb3
  replace hB := below_step hB hb3
  clear hb3
  repeat ((with_reducible fail_if_success (show wpList _ _ _ (⟨none, .store 26 (.tmp 32) (.tmp 290), _, _, _, _⟩ :: _) _ _)); first | go_values | go_skip | go_guarded | go_step | go_upon)
  (refine wpList_store_new rfl 26 (.tmp 32) (.tmp 290) rfl (R16 E) rfl rfl 26 _ (by rw [R16_size, hle]; exact szRub) (by rw [R16_size, hle]; rfl) (one_u16 _) ?_)
  repeat ((with_reducible fail_if_success (show wpList _ _ _ (⟨some 293, _, _, _, _, _⟩ :: _) _ _)); first | go_values | go_skip | go_guarded | go_step | go_upon)
  (refine wpList_load_row rfl 26 (.tmp 5) rfl _ rfl 26 (R16 ra) _ _ hk5 Try.underlying26 rfl (by rw [R16_size, hla]; exact szRub) ?_)
  repeat ((with_reducible fail_if_success (show wpList _ _ _ (⟨some 294, _, _, _, _, _⟩ :: _) _ _)); first | go_values | go_skip | go_guarded | go_step | go_upon)
  (refine wpList_load_row rfl 26 (.tmp 6) rfl _ rfl 26 (R16 rb) _ _ hk6 Try.underlying26 rfl (by rw [R16_size, hlb]; exact szRub) ?_)
  repeat (first | go_values | go_skip | go_guarded | go_step | go_upon)
  go_at_call 21
  refine (matchAt_impl ra rb p q _ HVA.out.len HVB.out.len HVA.out.lt HVB.out.lt).mono ?_
  rintro e v4 ⟨rfl, hb3⟩
  rw [HMO.out]
  dsimp only
  replace hk5 := hk5.next hb3
  replace hk6 := hk6.next hb3
  replace hk28 := hk28.next hb3
  replace hk30 := hk30.next hb3
  replace hk32 := hk32.next hb3
  replace hB := below_step hB hb3
  clear hb3
  repeat ((with_reducible fail_if_success (show wpList _ _ _ (⟨some 301, _, _, _, _, _⟩ :: _) _ _)); first | go_values | go_skip | go_guarded | go_step | go_upon)
  (refine wpList_load_row rfl 26 (.tmp 5) rfl _ rfl 26 (R16 ra) _ _ hk5 Try.underlying26 rfl (by rw [R16_size, hla]; exact szRub) ?_)
  repeat ((with_reducible fail_if_success (show wpList _ _ _ (⟨some 302, _, _, _, _, _⟩ :: _) _ _)); first | go_values | go_skip | go_guarded | go_step | go_upon)
  (refine wpList_load_row rfl 26 (.tmp 6) rfl _ rfl 26 (R16 rb) _ _ hk6 Try.underlying26 rfl (by rw [R16_size, hlb]; exact szRub) ?_)
  repeat (first | go_values | go_skip | go_guarded | go_step | go_upon)
  go_at_call 17
  refine (matchAt_spec ra rb p q _ HVA.out.len HVB.out.len HVA.out.lt).mono ?_
  rintro e v5 ⟨rfl, hb3⟩
  rw [HMO.out]
  dsimp only
  replace hk5 := hk5.next hb3
  replace hk6 := hk6.next hb3
  replace hk28 := hk28.next hb3
  replace hk30 := hk30.next hb3
  replace hk32 := hk32.next hb3
  replace hB := below_step hB hb3
  clear hb3
  have heq : ∀ w' : World, (Op.equalIn 10000 26 (.agg (R16 D)) (.agg (R16 D))).run Try.prog w' = .ok true w' := fun w' => by rw [equal_R16 D D HVD.out.len HVD.out.len w']; simp
  have hkey : Try.prog.eqGuardType Try.prog.depth 26 = false := by kernel_rfl
  repeat ((with_reducible fail_if_success (show wpList _ _ _ (⟨some 316, _, _, _, _, _⟩ :: _) _ _)); first | go_values | go_skip | go_guarded | go_step | go_upon)
  refine wpList_val (by kernel_rfl) (.agg (R16 D)) _ (exec_load_row 26 (.tmp 28) rfl v1.heap.size (by kernel_rfl) 26 (R16 D) _ _ hk28 Try.underlying26 rfl (by rw [R16_size, hld]; exact szRub)) ?_
  repeat ((with_reducible fail_if_success (show wpList _ _ _ (⟨some 317, _, _, _, _, _⟩ :: _) _ _)); first | go_values | go_skip | go_guarded | go_step | go_upon)
  refine wpList_val (by kernel_rfl) (.agg (R16 D)) _ (exec_load_row 26 (.tmp 30) rfl v2.heap.size (by kernel_rfl) 26 (R16 D) _ _ hk30 Try.underlying26 rfl (by rw [R16_size, hld]; exact szRub)) ?_
  repeat ((with_reducible fail_if_success (show wpList _ _ _ (⟨some 318, _, _, _, _, _⟩ :: _) _ _)); first | go_values | go_skip | go_guarded | go_step | go_upon)
  refine wpList_val (by kernel_rfl) (.bool false) _ (exec_neq_rub (.tmp 316) (.tmp 317) rfl D hld (by kernel_rfl) (by kernel_rfl)) ?_
  repeat ((with_reducible fail_if_success (show wpList _ _ _ (⟨some 339, _, _, _, _, _⟩ :: _) _ _)); first | go_values | go_skip | go_guarded | go_step | go_upon)
  refine wpList_val (by kernel_rfl) (.agg (R16 ra)) _ (exec_load_row 26 (.tmp 5) rfl g5 (by kernel_rfl) 26 (R16 ra) _ _ hk5 Try.underlying26 rfl (by rw [R16_size, hla]; exact szRub)) ?_
  repeat ((with_reducible fail_if_success (show wpList _ _ _ (⟨some 340, _, _, _, _, _⟩ :: _) _ _)); first | go_values | go_skip | go_guarded | go_step | go_upon)
  refine wpList_val (by kernel_rfl) (.agg (R16 E)) _ (exec_load_row 26 (.tmp 32) rfl v3.heap.size (by kernel_rfl) 26 (R16 E) _ _ hk32 Try.underlying26 rfl (by rw [R16_size, hle]; exact szRub)) ?_
  repeat (first | go_values | go_skip | go_guarded | go_step | go_upon)
  go_at_call 22
  refine (worn_impl ra E _ HVA.out.len HVE.out.len HVA.out.lt HVE.out.lt).mono ?_
  rintro e v6 ⟨rfl, hb3⟩
  rw [HW.out]
  dsimp only
  replace hk5 := hk5.next hb3
  replace hk6 := hk6.next hb3
  replace hk28 := hk28.next hb3
  replace hk30 := hk30.next hb3
  replace hk32 := hk32.next hb3
  replace hB := below_step hB hb3
  clear hb3
  repeat ((with_reducible fail_if_success (show wpList _ _ _ (⟨some 345, _, _, _, _, _⟩ :: _) _ _)); first | go_values | go_skip | go_guarded | go_step | go_upon)
  refine wpList_val (by kernel_rfl) (.agg (R16 D)) _ (exec_load_row 26 (.tmp 30) rfl v2.heap.size (by kernel_rfl) 26 (R16 D) _ _ hk30 Try.underlying26 rfl (by rw [R16_size, hld]; exact szRub)) ?_
  repeat (first | go_values | go_skip | go_guarded | go_step | go_upon)
  go_at_call 11
  refine (count_impl D _ HVD.out.len HVD.out.lt).mono ?_
  rintro e v7 ⟨rfl, hb3⟩
  rw [← HC2.out]
  dsimp only
  replace hk5 := hk5.next hb3
  replace hk6 := hk6.next hb3
  replace hk28 := hk28.next hb3
  replace hk30 := hk30.next hb3
  replace hk32 := hk32.next hb3
  replace hB := below_step hB hb3
  clear hb3
  repeat ((with_reducible fail_if_success (show wpList _ _ _ (⟨some 350, _, _, _, _, _⟩ :: _) _ _)); first | go_values | go_skip | go_guarded | go_step | go_upon)
  refine wpList_load_row rfl 26 (.tmp 30) rfl _ rfl 26 (R16 D) _ _ hk30 Try.underlying26 rfl (by rw [R16_size, hld]; exact szRub) ?_
  repeat (first | go_values | go_skip | go_guarded | go_step | go_upon)
  go_at_call 11
  refine (count_impl D _ HVD.out.len HVD.out.lt).mono ?_
  rintro e v8 ⟨rfl, hb3⟩
  rw [← HC2.out]
  dsimp only
  replace hk5 := hk5.next hb3
  replace hk6 := hk6.next hb3
  replace hk28 := hk28.next hb3
  replace hk30 := hk30.next hb3
  replace hk32 := hk32.next hb3
  replace hB := below_step hB hb3
  clear hb3
  by_cases hkk : K2 = K
  · have HE := Lib.hid (HBS.out (by have := HC2.out; have := HK.out; omega))
    subst hkk
    repeat ((with_reducible fail_if_success (show wpList _ _ _ (⟨some 355, _, _, _, _, _⟩ :: _) _ _)); first | go_values | go_skip | go_guarded | go_step | go_upon)
    refine wpList_val (by kernel_rfl) (.agg (R16 E)) _ (exec_load_row 26 (.tmp 32) rfl v3.heap.size (by kernel_rfl) 26 (R16 E) _ _ hk32 Try.underlying26 rfl (by rw [R16_size, hle]; exact szRub)) ?_
    repeat ((with_reducible fail_if_success (show wpList _ _ _ (⟨some 356, _, _, _, _, _⟩ :: _) _ _)); first | go_values | go_skip | go_guarded | go_step | go_upon)
    refine wpList_val (by kernel_rfl) (.agg (R16 ra)) _ (exec_load_row 26 (.tmp 5) rfl g5 (by kernel_rfl) 26 (R16 ra) _ _ hk5 Try.underlying26 rfl (by rw [R16_size, hla]; exact szRub)) ?_
    repeat ((with_reducible fail_if_success (show wpList _ _ _ (⟨some 357, _, _, _, _, _⟩ :: _) _ _)); first | go_values | go_skip | go_guarded | go_step | go_upon)
    refine wpList_val (by kernel_rfl) (.bool true) _ (exec_eql_rub (.tmp 355) (.tmp 356) rfl ra hla (by rw [← HE.out]; kernel_rfl) (by kernel_rfl)) ?_
    repeat (first | go_values | go_skip | go_guarded | go_step | go_upon)
    rw [← HQ.out]
    go_ret
    exact ⟨rfl, hB⟩
  · have hkb : (K2 != K) = true := by simpa using hkk
    repeat (first | go_values | go_skip | go_guarded | go_step | go_upon)
    rw [← HQ.out]
    go_ret
    exact ⟨rfl, hB⟩
end Go.Proofs.Ytgmlhnmjeelajaa.lawRubbings
