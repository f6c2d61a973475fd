/- The law of what is worn: a piece of its walk. -/
import Derived.Test.YtkbmfemncadlnaaGreatDoorWnK
import Derived.Deep.CutRange
import Derived.BigRegion
import Derived.Test.YtkbmfemncadlnaaGreatDoorWn4


namespace Go.Proofs.YtkbmfemncadlnaaGreatDoor.lawWorn
open Go Go.RowKit Go.Proofs.YtkbmfemncadlnaaGreatDoor
set_option linter.unusedVariables false
set_option linter.unusedSimpArgs false

attribute [local irreducible] wpQuiet in
set_option maxHeartbeats 4000000 in
set_option maxRecDepth 100000 in
theorem p3 (w wr : World) (Aa : Option Addr) (na ca : Nat) (a : List Int) (Ab : Option Addr) (nb cb : Nat) (b : List Int) (HNA : Hid (a.length = na)) (HNB : Hid (b.length = nb)) (hna : na ≤ 3000) (hnb : nb ≤ 3000) (HSA : Hid (SlE u8 w Aa a)) (HSB : Hid (SlE u8 w Ab b)) (HYA : Hid (Byt a)) (HYB : Hid (Byt b)) (HMX : Hid (MaxW w)) (r o d : List Nat) (HVR : Hid (RubV r)) (HVO : Hid (RubV o)) (HVD : Hid (RubV d)) (g5 g6 g10 g21 c21 g24 : Nat) (K5 : Hid (Blk wr g5 26 (r.map Go.Proofs.YtkbmfemncadlnaaGreatDoor.u16))) (K6 : Hid (Blk wr g6 26 (o.map Go.Proofs.YtkbmfemncadlnaaGreatDoor.u16))) (K10 : Hid (Blk wr g10 26 (d.map Go.Proofs.YtkbmfemncadlnaaGreatDoor.u16))) (H21 : Hid (Sl8 wr (some ⟨g21, 0, none⟩) [r, o, d])) (K24 : Hid (Blk wr g24 26 ((sureR [r, o, d] 3 1).map Go.Proofs.YtkbmfemncadlnaaGreatDoor.u16))) (HB : Hid (Below w.heap.size w wr))
    (u2 u3 u4 u7 u8 u9 u11 u12 u13 u14 u15 u16 u17 u18 u19 u20 u22 u23 u25 u26 u27 u28 u29 u30 u31 u32 u33 u34 u35 u36 u37 u38 u39 u40 u41 u42 u43 u44 u45 u46 u47 u48 u49 u50 u51 u52 u53 u54 u55 u56 u57 u58 u59 u60 u61 u62 u63 u64 u65 u66 u67 u68 u69 u70 u71 u72 u73 u74 u75 u76 u77 u78 u79 u80 u81 u82 u83 u84 u85 u86 u87 u88 u89 u90 u91 u92 u93 u94 u95 u96 u97 u98 u99 u100 u101 u102 u103 u104 u105 u106 u107 u108 u109 u110 u111 u112 u113 u114 u115 u116 u117 u118 u119 u120 u121 u122 u123 u124 u125 u126 u127 u128 u129 u130 u131 u132 u133 u134 u135 u136 u137 u138 u139 u140 u141 u142 u143 u144 u145 u146 u147 u148 u149 u150 u151 u152 u153 u154 u155 u156 u157 u158 u159 u160 u161 u162 u163 u164 u165 u166 u167 u168 u169 u170 u171 u172 u173 u174 u175 u176 u177 u178 u179 u180 u181 u182 u183 u184 u185 u186 u187 u188 u189 u190 u191 u192 u193 u194 u195 u196 u197 u198 u199 u200 u201 u202 u203 u204 u205 u206 u207 u208 u209 u210 u211 u212 u213 u214 u215 u216 u217 u218 u219 u220 u221 u222 u223 u224 u225 u226 u227 u228 u229 u230 u231 u232 u233 u234 u235 u236 u237 u238 u239 u240 u241 u242 u243 u244 u245 u246 u247 u248 u249 u250 u251 u252 u253 u254 u255 u256 u257 u258 u259 u260 u261 u262 u263 u264 u265 u266 u267 u268 u269 u270 u271 u272 u273 u274 u275 u276 u277 u278 u279 u280 u281 u282 u283 u284 u285 u286 u287 u288 u289 u290 u291 u292 u293 u294 u295 u296 u297 u298 u299 u300 u301 u302 u303 u304 u305 u306 u307 u308 u309 u310 u311 u312 u313 u314 u315 u316 u317 u318 u319 u320 u321 u322 u323 u324 u325 u326 u327 u328 u329 u330 u331 u332 u333 u334 u335 u336 u337 u338 u339 u340 u341 u342 u343 u344 u345 u346 u347 u348 u349 u350 u351 u352 u353 u354 u355 u356 u357 u358 u359 u360 u361 u362 u363 u364 u365 u366 u367 u368 u369 u370 u371 u372 u373 u374 u375 u376 u377 u378 u379 u380 u381 u382 u383 u384 u385 u386 u387 u388 u389 u390 u391 u392 u393 u394 u395 u396 u397 u398 u399 u400 u401 u402 u403 u404 u405 u406 u407 u408 u409 u410 u411 u412 u413 u414 u415 u416 u417 u418 u419 u420 u421 u422 u423 u424 u425 u426 u427 u428 u429 u430 u431 u432 u433 u434 u435 u436 u437 u438 u439 u440 u441 u442 u443 u444 u445 u446 u447 u448 u449 u450 u451 u452 u453 u454 u455 u456 u457 u458 u459 u460 u461 u462 u463 u464 u465 u466 u467 u468 u469 u470 u471 u472 u473 u474 u475 u476 u477 u478 u479 u480 u481 u482 u483 u484 u485 u486 u487 u488 u489 u490 u491 u492 u493 u494 u495 u496 u497 u498 u499 u500 u501 u502 u503 u504 u505 u506 u507 u508 u509 u510 u511 u512 u513 u514 u515 u516 u517 u518 u519 u520 u521 u522 u523 u524 u525 u526 u527 u528 u529 u530 u531 u532 u533 u534 u535 u536 u537 u538 u539 u540 u541 u542 u543 u544 u545 u546 u547 u548 u549 u550 u551 u552 u553 u554 u555 u556 u557 u558 u559 u560 u561 u562 u563 u564 u565 u566 u567 u568 u569 u570 u571 u572 u573 u574 u575 u576 u577 u578 u579 u580 u581 u582 u583 u584 u585 u586 u587 u588 u589 u590 u591 u592 u593 u594 u595 u596 u597 u598 u599 u600 u601 u602 u603 u604 u605 u606 u607 u608 u609 u610 u611 u612 u613 u614 u615 : Value) :
    Code.wp Tryz.prog (partOf Tryz.f3 [true, true, true, true, true, true, true, true, true, true, true, true, true, true, true, true, true, true, true]) (bodyPost Tryz.prog Tryz.f3 fun e w' => e = .returned (.bool true) ∧ Below w.heap.size w w')
      ⟨#[.slice Aa na ca, .slice Ab nb cb, u2, u3, u4, .pointer (some ⟨g5, 0, none⟩), .pointer (some ⟨g6, 0, none⟩), u7, u8, u9, .pointer (some ⟨g10, 0, none⟩), u11, u12, u13, u14, u15, u16, u17, u18, u19, u20, .slice (some ⟨g21, 0, none⟩) 3 c21, u22, u23, .pointer (some ⟨g24, 0, none⟩), u25, u26, u27, u28, u29, u30, u31, u32, u33, u34, u35, u36, u37, u38, u39, u40, u41, u42, u43, u44, u45, u46, u47, u48, u49, u50, u51, u52, u53, u54, u55, u56, u57, u58, u59, u60, u61, u62, u63, u64, u65, u66, u67, u68, u69, u70, u71, u72, u73, u74, u75, u76, u77, u78, u79, u80, u81, u82, u83, u84, u85, u86, u87, u88, u89, u90, u91, u92, u93, u94, u95, u96, u97, u98, u99, u100, u101, u102, u103, u104, u105, u106, u107, u108, u109, u110, u111, u112, u113, u114, u115, u116, u117, u118, u119, u120, u121, u122, u123, u124, u125, u126, u127, u128, u129, u130, u131, u132, u133, u134, u135, u136, u137, u138, u139, u140, u141, u142, u143, u144, u145, u146, u147, u148, u149, u150, u151, u152, u153, u154, u155, u156, u157, u158, u159, u160, u161, u162, u163, u164, u165, u166, u167, u168, u169, u170, u171, u172, u173, u174, u175, u176, u177, u178, u179, u180, u181, u182, u183, u184, u185, u186, u187, u188, u189, u190, u191, u192, u193, u194, u195, u196, u197, u198, u199, u200, u201, u202, u203, u204, u205, u206, u207, u208, u209, u210, u211, u212, u213, u214, u215, u216, u217, u218, u219, u220, u221, u222, u223, u224, u225, u226, u227, u228, u229, u230, u231, u232, u233, u234, u235, u236, u237, u238, u239, u240, u241, u242, u243, u244, u245, u246, u247, u248, u249, u250, u251, u252, u253, u254, u255, u256, u257, u258, u259, u260, u261, u262, u263, u264, u265, u266, u267, u268, u269, u270, u271, u272, u273, u274, u275, u276, u277, u278, u279, u280, u281, u282, u283, u284, u285, u286, u287, u288, u289, u290, u291, u292, u293, u294, u295, u296, u297, u298, u299, u300, u301, u302, u303, u304, u305, u306, u307, u308, u309, u310, u311, u312, u313, u314, u315, u316, u317, u318, u319, u320, u321, u322, u323, u324, u325, u326, u327, u328, u329, u330, u331, u332, u333, u334, u335, u336, u337, u338, u339, u340, u341, u342, u343, u344, u345, u346, u347, u348, u349, u350, u351, u352, u353, u354, u355, u356, u357, u358, u359, u360, u361, u362, u363, u364, u365, u366, u367, u368, u369, u370, u371, u372, u373, u374, u375, u376, u377, u378, u379, u380, u381, u382, u383, u384, u385, u386, u387, u388, u389, u390, u391, u392, u393, u394, u395, u396, u397, u398, u399, u400, u401, u402, u403, u404, u405, u406, u407, u408, u409, u410, u411, u412, u413, u414, u415, u416, u417, u418, u419, u420, u421, u422, u423, u424, u425, u426, u427, u428, u429, u430, u431, u432, u433, u434, u435, u436, u437, u438, u439, u440, u441, u442, u443, u444, u445, u446, u447, u448, u449, u450, u451, u452, u453, u454, u455, u456, u457, u458, u459, u460, u461, u462, u463, u464, u465, u466, u467, u468, u469, u470, u471, u472, u473, u474, u475, u476, u477, u478, u479, u480, u481, u482, u483, u484, u485, u486, u487, u488, u489, u490, u491, u492, u493, u494, u495, u496, u497, u498, u499, u500, u501, u502, u503, u504, u505, u506, u507, u508, u509, u510, u511, u512, u513, u514, u515, u516, u517, u518, u519, u520, u521, u522, u523, u524, u525, u526, u527, u528, u529, u530, u531, u532, u533, u534, u535, u536, u537, u538, u539, u540, u541, u542, u543, u544, u545, u546, u547, u548, u549, u550, u551, u552, u553, u554, u555, u556, u557, u558, u559, u560, u561, u562, u563, u564, u565, u566, u567, u568, u569, u570, u571, u572, u573, u574, u575, u576, u577, u578, u579, u580, u581, u582, u583, u584, u585, u586, u587, u588, u589, u590, u591, u592, u593, u594, u595, u596, u597, u598, u599, u600, u601, u602, u603, u604, u605, u606, u607, u608, u609, u610, u611, u612, u613, u614, u615], []⟩ wr := by
  conv => arg 2; whnf
  have hlr := HVR.out.len
  have hlo := HVO.out.len
  have hld := HVD.out.len
  obtain ⟨m3, hm3⟩ : ∃ M, M = sureR [r, o, d] 3 3 := ⟨_, rfl⟩
  have HVm3 := Lib.hid (show RubV m3 by rw [hm3]; exact ⟨sureR_length _ _ _, gridR_lt _⟩)
  have hlm3 := HVm3.out.len
  have HOm3 := Lib.hid (show sureOut [r, o, d] 3 3 = (m3, 0) by rw [hm3]; exact sureOut_ok (by omega) (by decide))
  have Hm3 := Lib.hid hm3
  clear hm3
  obtain ⟨m2, hm2⟩ : ∃ M, M = sureR [r, o, d] 3 2 := ⟨_, rfl⟩
  have HVm2 := Lib.hid (show RubV m2 by rw [hm2]; exact ⟨sureR_length _ _ _, gridR_lt _⟩)
  have hlm2 := HVm2.out.len
  have HOm2 := Lib.hid (show sureOut [r, o, d] 3 2 = (m2, 0) by rw [hm2]; exact sureOut_ok (by omega) (by decide))
  have Hm2 := Lib.hid hm2
  clear hm2
  repeat (first | go_values | go_skip | go_guarded | go_step | go_upon)
  go_at_call 16
  refine (sure_impl (some ⟨g21, 0, none⟩) c21 [r, o, d] 3 3 wr (rubs_three HVR.out HVO.out HVD.out) (by omega) H21.out).mono ?_
  rintro e w1 ⟨rfl, hb⟩
  rw [HOm3.out]
  dsimp only
  replace K5 := Lib.hid (K5.out.next hb)
  replace K6 := Lib.hid (K6.out.next hb)
  replace K10 := Lib.hid (K10.out.next hb)
  replace H21 := Lib.hid (H21.out.next hb)
  replace K24 := Lib.hid (K24.out.next hb)
  replace HB := Lib.hid (below_step HB.out hb)
  clear hb
  have hb := below_one w1 (.cells (m3.map Go.Proofs.YtkbmfemncadlnaaGreatDoor.u16).toArray 26)
  replace K5 := Lib.hid (K5.out.next hb)
  replace K6 := Lib.hid (K6.out.next hb)
  replace K10 := Lib.hid (K10.out.next hb)
  replace H21 := Lib.hid (H21.out.next hb)
  replace K24 := Lib.hid (K24.out.next hb)
  replace HB := Lib.hid (below_step HB.out hb)
  clear hb
  have K27 := Lib.hid (Blk.new w1 26 (m3.map Go.Proofs.YtkbmfemncadlnaaGreatDoor.u16))
  repeat ((with_reducible fail_if_success (show wpList _ _ _ (⟨none, .store 26 (.tmp 27) (.tmp 242), _, _, _, _⟩ :: _) _ _)); first | go_values | go_skip | go_guarded | go_step | go_upon)
  refine wpList_store_new rfl 26 (.tmp 27) (.tmp 242) rfl (m3.map Go.Proofs.YtkbmfemncadlnaaGreatDoor.u16).toArray rfl rfl 26 _ (by rw [List.size_toArray, List.length_map, hlm3]; exact szRub) (by rw [show (m3.map Go.Proofs.YtkbmfemncadlnaaGreatDoor.u16).toArray.size = 8 by rw [List.size_toArray, List.length_map, hlm3]]; rfl) (one_u16 _) ?_
  generalize w1.alloc (.cells (m3.map Go.Proofs.YtkbmfemncadlnaaGreatDoor.u16).toArray 26) = w2 at *
  generalize w1.heap.size = g27 at *
  repeat (first | go_values | go_skip | go_guarded | go_step | go_upon)
  go_at_call 17
  refine (sure_spec (some ⟨g21, 0, none⟩) c21 [r, o, d] 3 3 w2 (rubs_three HVR.out HVO.out HVD.out) (by omega) H21.out).mono ?_
  rintro e w3 ⟨rfl, hb⟩
  rw [HOm3.out]
  dsimp only
  replace K5 := Lib.hid (K5.out.next hb)
  replace K6 := Lib.hid (K6.out.next hb)
  replace K10 := Lib.hid (K10.out.next hb)
  replace H21 := Lib.hid (H21.out.next hb)
  replace K24 := Lib.hid (K24.out.next hb)
  replace K27 := Lib.hid (K27.out.next hb)
  replace HB := Lib.hid (below_step HB.out hb)
  clear hb
  have hb := below_one w3 (.cells (m3.map Go.Proofs.YtkbmfemncadlnaaGreatDoor.u16).toArray 26)
  replace K5 := Lib.hid (K5.out.next hb)
  replace K6 := Lib.hid (K6.out.next hb)
  replace K10 := Lib.hid (K10.out.next hb)
  replace H21 := Lib.hid (H21.out.next hb)
  replace K24 := Lib.hid (K24.out.next hb)
  replace K27 := Lib.hid (K27.out.next hb)
  replace HB := Lib.hid (below_step HB.out hb)
  clear hb
  have K29 := Lib.hid (Blk.new w3 26 (m3.map Go.Proofs.YtkbmfemncadlnaaGreatDoor.u16))
  repeat ((with_reducible fail_if_success (show wpList _ _ _ (⟨none, .store 26 (.tmp 29) (.tmp 247), _, _, _, _⟩ :: _) _ _)); first | go_values | go_skip | go_guarded | go_step | go_upon)
  refine wpList_store_new rfl 26 (.tmp 29) (.tmp 247) rfl (m3.map Go.Proofs.YtkbmfemncadlnaaGreatDoor.u16).toArray rfl rfl 26 _ (by rw [List.size_toArray, List.length_map, hlm3]; exact szRub) (by rw [show (m3.map Go.Proofs.YtkbmfemncadlnaaGreatDoor.u16).toArray.size = 8 by rw [List.size_toArray, List.length_map, hlm3]]; rfl) (one_u16 _) ?_
  generalize w3.alloc (.cells (m3.map Go.Proofs.YtkbmfemncadlnaaGreatDoor.u16).toArray 26) = w4 at *
  generalize w3.heap.size = g29 at *
  repeat (first | go_values | go_skip | go_guarded | go_step | go_upon)
  go_at_call 16
  refine (sure_impl (some ⟨g21, 0, none⟩) c21 [r, o, d] 3 2 w4 (rubs_three HVR.out HVO.out HVD.out) (by omega) H21.out).mono ?_
  rintro e w5 ⟨rfl, hb⟩
  rw [HOm2.out]
  dsimp only
  replace K5 := Lib.hid (K5.out.next hb)
  replace K6 := Lib.hid (K6.out.next hb)
  replace K10 := Lib.hid (K10.out.next hb)
  replace H21 := Lib.hid (H21.out.next hb)
  replace K24 := Lib.hid (K24.out.next hb)
  replace K27 := Lib.hid (K27.out.next hb)
  replace K29 := Lib.hid (K29.out.next hb)
  replace HB := Lib.hid (below_step HB.out hb)
  clear hb
  have hb := below_one w5 (.cells (m2.map Go.Proofs.YtkbmfemncadlnaaGreatDoor.u16).toArray 26)
  replace K5 := Lib.hid (K5.out.next hb)
  replace K6 := Lib.hid (K6.out.next hb)
  replace K10 := Lib.hid (K10.out.next hb)
  replace H21 := Lib.hid (H21.out.next hb)
  replace K24 := Lib.hid (K24.out.next hb)
  replace K27 := Lib.hid (K27.out.next hb)
  replace K29 := Lib.hid (K29.out.next hb)
  replace HB := Lib.hid (below_step HB.out hb)
  clear hb
  have K31 := Lib.hid (Blk.new w5 26 (m2.map Go.Proofs.YtkbmfemncadlnaaGreatDoor.u16))
  repeat ((with_reducible fail_if_success (show wpList _ _ _ (⟨none, .store 26 (.tmp 31) (.tmp 252), _, _, _, _⟩ :: _) _ _)); first | go_values | go_skip | go_guarded | go_step | go_upon)
  refine wpList_store_new rfl 26 (.tmp 31) (.tmp 252) rfl (m2.map Go.Proofs.YtkbmfemncadlnaaGreatDoor.u16).toArray rfl rfl 26 _ (by rw [List.size_toArray, List.length_map, hlm2]; exact szRub) (by rw [show (m2.map Go.Proofs.YtkbmfemncadlnaaGreatDoor.u16).toArray.size = 8 by rw [List.size_toArray, List.length_map, hlm2]]; rfl) (one_u16 _) ?_
  generalize w5.alloc (.cells (m2.map Go.Proofs.YtkbmfemncadlnaaGreatDoor.u16).toArray 26) = w6 at *
  generalize w5.heap.size = g31 at *
  have HW1 := Lib.hid (show wornB m2 m3 = true by rw [Hm2.out, Hm3.out]; exact sure_mono r o d 2 3 (by omega))
  have HW2 := Lib.hid (show wornB (sureR [r, o, d] 3 1) m2 = true by rw [Hm2.out]; exact sure_mono r o d 1 2 (by omega))
  have HVJ := Lib.hid (show RubV (sureR [r, o, d] 3 1) from ⟨sureR_length _ _ _, gridR_lt _⟩)
  have hlj := HVJ.out.len
  repeat ((with_reducible fail_if_success (show wpList _ _ _ (⟨some 262, _, _, _, _, _⟩ :: _) _ _)); first | go_values | go_skip | go_guarded | go_step | go_upon)
  refine wpList_val (by kernel_rfl) (.agg (R16 m3)) _ (exec_load_row 26 (.tmp 27) rfl g27 (by kernel_rfl) 26 (R16 m3) _ _ K27.out Tryz.underlying26 rfl (by rw [R16_size, hlm3]; exact szRub)) ?_
  repeat ((with_reducible fail_if_success (show wpList _ _ _ (⟨some 263, _, _, _, _, _⟩ :: _) _ _)); first | go_values | go_skip | go_guarded | go_step | go_upon)
  refine wpList_val (by kernel_rfl) (.agg (R16 m3)) _ (exec_load_row 26 (.tmp 29) rfl g29 (by kernel_rfl) 26 (R16 m3) _ _ K29.out Tryz.underlying26 rfl (by rw [R16_size, hlm3]; exact szRub)) ?_
  repeat ((with_reducible fail_if_success (show wpList _ _ _ (⟨some 264, _, _, _, _, _⟩ :: _) _ _)); first | go_values | go_skip | go_guarded | go_step | go_upon)
  refine wpList_val (by kernel_rfl) (.bool false) _ (exec_neq_rub (.tmp 262) (.tmp 263) rfl m3 hlm3 (by kernel_rfl) (by kernel_rfl)) ?_
  repeat ((with_reducible fail_if_success (show wpList _ _ _ (⟨some 271, _, _, _, _, _⟩ :: _) _ _)); first | go_values | go_skip | go_guarded | go_step | go_upon)
  refine wpList_val (by kernel_rfl) (.agg (R16 m2)) _ (exec_load_row 26 (.tmp 31) rfl g31 (by kernel_rfl) 26 (R16 m2) _ _ K31.out Tryz.underlying26 rfl (by rw [R16_size, hlm2]; exact szRub)) ?_
  repeat ((with_reducible fail_if_success (show wpList _ _ _ (⟨some 272, _, _, _, _, _⟩ :: _) _ _)); first | go_values | go_skip | go_guarded | go_step | go_upon)
  refine wpList_val (by kernel_rfl) (.agg (R16 m3)) _ (exec_load_row 26 (.tmp 29) rfl g29 (by kernel_rfl) 26 (R16 m3) _ _ K29.out Tryz.underlying26 rfl (by rw [R16_size, hlm3]; exact szRub)) ?_
  repeat (first | go_values | go_skip | go_guarded | go_step | go_upon)
  go_at_call 11
  refine (worn_impl m2 m3 w6 HVm2.out.len HVm3.out.len HVm2.out.lt HVm3.out.lt).mono ?_
  rintro e w7 ⟨rfl, hb⟩
  rw [HW1.out]
  dsimp only
  replace K5 := Lib.hid (K5.out.next hb)
  replace K6 := Lib.hid (K6.out.next hb)
  replace K10 := Lib.hid (K10.out.next hb)
  replace H21 := Lib.hid (H21.out.next hb)
  replace K24 := Lib.hid (K24.out.next hb)
  replace K27 := Lib.hid (K27.out.next hb)
  replace K29 := Lib.hid (K29.out.next hb)
  replace K31 := Lib.hid (K31.out.next hb)
  replace HB := Lib.hid (below_step HB.out hb)
  clear hb
  repeat ((with_reducible fail_if_success (show wpList _ _ _ (⟨some 277, _, _, _, _, _⟩ :: _) _ _)); first | go_values | go_skip | go_guarded | go_step | go_upon)
  refine wpList_val (by kernel_rfl) (.agg (R16 (sureR [r, o, d] 3 1))) _ (exec_load_row 26 (.tmp 24) rfl g24 (by kernel_rfl) 26 (R16 (sureR [r, o, d] 3 1)) _ _ K24.out Tryz.underlying26 rfl (by rw [R16_size, hlj]; exact szRub)) ?_
  repeat ((with_reducible fail_if_success (show wpList _ _ _ (⟨some 278, _, _, _, _, _⟩ :: _) _ _)); first | go_values | go_skip | go_guarded | go_step | go_upon)
  refine wpList_val (by kernel_rfl) (.agg (R16 m2)) _ (exec_load_row 26 (.tmp 31) rfl g31 (by kernel_rfl) 26 (R16 m2) _ _ K31.out Tryz.underlying26 rfl (by rw [R16_size, hlm2]; exact szRub)) ?_
  repeat (first | go_values | go_skip | go_guarded | go_step | go_upon)
  go_at_call 11
  refine (worn_impl (sureR [r, o, d] 3 1) m2 w7 HVJ.out.len HVm2.out.len HVJ.out.lt HVm2.out.lt).mono ?_
  rintro e w8 ⟨rfl, hb⟩
  rw [HW2.out]
  dsimp only
  replace K5 := Lib.hid (K5.out.next hb)
  replace K6 := Lib.hid (K6.out.next hb)
  replace K10 := Lib.hid (K10.out.next hb)
  replace H21 := Lib.hid (H21.out.next hb)
  replace K24 := Lib.hid (K24.out.next hb)
  replace K27 := Lib.hid (K27.out.next hb)
  replace K29 := Lib.hid (K29.out.next hb)
  replace K31 := Lib.hid (K31.out.next hb)
  replace HB := Lib.hid (below_step HB.out hb)
  clear hb
  have HAND := Lib.hid (fun (y : Nat) (hy : y < 8) => (show rdN m3 y = rdN r y &&& rdN o y &&& rdN d y by rw [Hm3.out]; exact sure_and r o d HVR.out.lt y hy))
  repeat ((with_reducible fail_if_success (show Code.wp _ (Code.loop _) _ _ _)); first | go_values | go_skip | go_guarded | go_step | go_upon)
  go_loopw [33] (fun i wx => ∃ y : Nat, y ≤ 8 ∧ i = .int .i64 y ∧ Below w8.heap.size w8 wx) (fun i _ => 8 - (intOf i).toNat)
  case atStart => exact ⟨0, by omega, rfl, Below.refl _ _⟩
  case round =>
    obtain ⟨y, hy, rfl, hbx⟩ := hrel
    have HBO := Lib.hid hbx
    replace K5 := Lib.hid (K5.out.next hbx)
    replace K6 := Lib.hid (K6.out.next hbx)
    replace K10 := Lib.hid (K10.out.next hbx)
    replace H21 := Lib.hid (H21.out.next hbx)
    replace K24 := Lib.hid (K24.out.next hbx)
    replace K27 := Lib.hid (K27.out.next hbx)
    replace K29 := Lib.hid (K29.out.next hbx)
    replace K31 := Lib.hid (K31.out.next hbx)
    replace HB := Lib.hid (below_step HB.out hbx)
    clear hbx
    by_cases hlt : y < 8
    · skip
      have hx1 := HAND.out y hlt
      have hne : (((rdN m3 y : Nat) : Int) != ((rdN r y &&& rdN o y &&& rdN d y : Nat) : Int)) = false := by rw [hx1]; simp
      clear hx1
      have h16a := and16 (rdN r y) (rdN o y) (HVR.out.lt y) (HVO.out.lt y)
      have h16b := and16 (rdN r y &&& rdN o y) (rdN d y) (Nat.lt_of_le_of_lt Nat.and_le_left (HVR.out.lt y)) (HVD.out.lt y)
      repeat ((with_reducible fail_if_success (show Code.wp _ (Code.region 43 _ _) _ _ _)); first | go_values | go_skip | go_guarded | go_step | go_upon)
      refine region_below (wr.heap.size) (by kernel_rfl) (by kernel_rfl) ?_
      refine below_run (by kernel_rfl) (.int .i64 (y : Nat)) (fun w' hw' => by kernel_rfl) ?_
      refine below_run (by kernel_rfl) (.pointer (some (Addr.add ⟨g29, 0, none⟩ (y * 1)))) (fun w' hw' => exec_indexA 26 (.tmp 29) (.tmp 286) rfl ⟨g29, 0, none⟩ (by kernel_rfl) .i64 y (by kernel_rfl) 8 hlt 24 Tryz.underlying26 1 szU16w) ?_
      refine below_run (by kernel_rfl) (.int .u16 ((rdN m3 y : Nat) : Int)) (fun w' hw' => exec_load1 24 (.tmp 287) rfl (Addr.add ⟨g29, 0, none⟩ (y * 1)) (by kernel_rfl) (.int .u16 ((rdN m3 y : Nat) : Int)) (by rw [Nat.mul_one, add_mid, Nat.zero_add]; exact (K29.out.next hw').cell y _ (map_u16_at m3 y (by rw [hlm3]; exact hlt))) _ Tryz.underlying24 rfl) ?_
      refine below_run (by kernel_rfl) (.int .i64 (y : Nat)) (fun w' hw' => by kernel_rfl) ?_
      refine below_run (by kernel_rfl) (.pointer (some (Addr.add ⟨g5, 0, none⟩ (y * 1)))) (fun w' hw' => exec_indexA 26 (.tmp 5) (.tmp 289) rfl ⟨g5, 0, none⟩ (by kernel_rfl) .i64 y (by kernel_rfl) 8 hlt 24 Tryz.underlying26 1 szU16w) ?_
      refine below_run (by kernel_rfl) (.int .u16 ((rdN r y : Nat) : Int)) (fun w' hw' => exec_load1 24 (.tmp 290) rfl (Addr.add ⟨g5, 0, none⟩ (y * 1)) (by kernel_rfl) (.int .u16 ((rdN r y : Nat) : Int)) (by rw [Nat.mul_one, add_mid, Nat.zero_add]; exact (K5.out.next hw').cell y _ (map_u16_at r y (by rw [hlr]; exact hlt))) _ Tryz.underlying24 rfl) ?_
      refine below_run (by kernel_rfl) (.int .i64 (y : Nat)) (fun w' hw' => by kernel_rfl) ?_
      refine below_run (by kernel_rfl) (.pointer (some (Addr.add ⟨g6, 0, none⟩ (y * 1)))) (fun w' hw' => exec_indexA 26 (.tmp 6) (.tmp 292) rfl ⟨g6, 0, none⟩ (by kernel_rfl) .i64 y (by kernel_rfl) 8 hlt 24 Tryz.underlying26 1 szU16w) ?_
      refine below_run (by kernel_rfl) (.int .u16 ((rdN o y : Nat) : Int)) (fun w' hw' => exec_load1 24 (.tmp 293) rfl (Addr.add ⟨g6, 0, none⟩ (y * 1)) (by kernel_rfl) (.int .u16 ((rdN o y : Nat) : Int)) (by rw [Nat.mul_one, add_mid, Nat.zero_add]; exact (K6.out.next hw').cell y _ (map_u16_at o y (by rw [hlo]; exact hlt))) _ Tryz.underlying24 rfl) ?_
      refine below_run (by kernel_rfl) (.int .u16 ((rdN r y &&& rdN o y : Nat) : Int)) (fun w' hw' => Eq.trans (show (execOp _ _).run _ w' = .ok (.value (.int .u16 (bits .and .u16 ((rdN r y : Nat) : Int) ((rdN o y : Nat) : Int)))) w' by kernel_rfl) (by rw [h16a])) ?_
      refine below_run (by kernel_rfl) (.int .i64 (y : Nat)) (fun w' hw' => by kernel_rfl) ?_
      refine below_run (by kernel_rfl) (.pointer (some (Addr.add ⟨g10, 0, none⟩ (y * 1)))) (fun w' hw' => exec_indexA 26 (.tmp 10) (.tmp 296) rfl ⟨g10, 0, none⟩ (by kernel_rfl) .i64 y (by kernel_rfl) 8 hlt 24 Tryz.underlying26 1 szU16w) ?_
      refine below_run (by kernel_rfl) (.int .u16 ((rdN d y : Nat) : Int)) (fun w' hw' => exec_load1 24 (.tmp 297) rfl (Addr.add ⟨g10, 0, none⟩ (y * 1)) (by kernel_rfl) (.int .u16 ((rdN d y : Nat) : Int)) (by rw [Nat.mul_one, add_mid, Nat.zero_add]; exact (K10.out.next hw').cell y _ (map_u16_at d y (by rw [hld]; exact hlt))) _ Tryz.underlying24 rfl) ?_
      refine below_run (by kernel_rfl) (.int .u16 ((rdN r y &&& rdN o y &&& rdN d y : Nat) : Int)) (fun w' hw' => Eq.trans (show (execOp _ _).run _ w' = .ok (.value (.int .u16 (bits .and .u16 ((rdN r y &&& rdN o y : Nat) : Int) ((rdN d y : Nat) : Int)))) w' by kernel_rfl) (by rw [h16b])) ?_
      refine below_run (by kernel_rfl) (.bool false) (fun w' hw' => Eq.trans (show (execOp _ _).run _ w' = .ok (.value (.bool (((rdN m3 y : Nat) : Int) != ((rdN r y &&& rdN o y &&& rdN d y : Nat) : Int)))) w' by kernel_rfl) (by rw [hne])) ?_
      refine wpQuiet_nil ?_
      intro W1 hW1
      simp only [Act.put, List.setIfInBounds_toArray, List.set_cons_succ, List.set_cons_zero]
      clear hne h16a h16b
      replace K5 := Lib.hid (K5.out.next hW1)
      replace K6 := Lib.hid (K6.out.next hW1)
      replace K10 := Lib.hid (K10.out.next hW1)
      replace H21 := Lib.hid (H21.out.next hW1)
      replace K24 := Lib.hid (K24.out.next hW1)
      replace K27 := Lib.hid (K27.out.next hW1)
      replace K29 := Lib.hid (K29.out.next hW1)
      replace K31 := Lib.hid (K31.out.next hW1)
      replace HB := Lib.hid (below_step HB.out hW1)
      replace HBO := Lib.hid (below_step HBO.out hW1)
      clear hW1
      repeat (first | go_values | go_skip | go_guarded | go_step | go_upon)
      first
        | (go_roundw
           case rel => exact ⟨y + 1, by omega, by go_num, HBO.out⟩
           case measure => simp [intOf]; omega)
        | (refine ⟨?_, ?measure⟩
           apply Exists.intro
           (repeat apply Exists.intro)
           refine ⟨?rel, rfl⟩
           case rel => exact ⟨y + 1, by omega, by go_num, HBO.out⟩
           case measure => simp [intOf]; omega)
    · obtain rfl : y = 8 := by omega
      repeat ((with_reducible fail_if_success (show Code.wp _ (Code.seq (Code.region 45 _ _) _) _ _ _)); first | go_values | go_skip | go_guarded | go_step | go_upon)
      exact p4 w _ Aa na ca a Ab nb cb b HNA HNB hna hnb HSA HSB HYA HYB HMX HB _ _ _ _ _ _ _ _ _ _ _ _ _ _ _ _ _ _ _ _ _ _ _ _ _ _ _ _ _ _ _ _ _ _ _ _ _ _ _ _ _ _ _ _ _ _ _ _ _ _ _ _ _ _ _ _ _ _ _ _ _ _ _ _ _ _ _ _ _ _ _ _ _ _ _ _ _ _ _ _ _ _ _ _ _ _ _ _ _ _ _ _ _ _ _ _ _ _ _ _ _ _ _ _ _ _ _ _ _ _ _ _ _ _ _ _ _ _ _ _ _ _ _ _ _ _ _ _ _ _ _ _ _ _ _ _ _ _ _ _ _ _ _ _ _ _ _ _ _ _ _ _ _ _ _ _ _ _ _ _ _ _ _ _ _ _ _ _ _ _ _ _ _ _ _ _ _ _ _ _ _ _ _ _ _ _ _ _ _ _ _ _ _ _ _ _ _ _ _ _ _ _ _ _ _ _ _ _ _ _ _ _ _ _ _ _ _ _ _ _ _ _ _ _ _ _ _ _ _ _ _ _ _ _ _ _ _ _ _ _ _ _ _ _ _ _ _ _ _ _ _ _ _ _ _ _ _ _ _ _ _ _ _ _ _ _ _ _ _ _ _ _ _ _ _ _ _ _ _ _ _ _ _ _ _ _ _ _ _ _ _ _ _ _ _ _ _ _ _ _ _ _ _ _ _ _ _ _ _ _ _ _ _ _ _ _ _ _ _ _ _ _ _ _ _ _ _ _ _ _ _ _ _ _ _ _ _ _ _ _ _ _ _ _ _ _ _ _ _ _ _ _ _ _ _ _ _ _ _ _ _ _ _ _ _ _ _ _ _ _ _ _ _ _ _ _ _ _ _ _ _ _ _ _ _ _ _ _ _ _ _ _ _ _ _ _ _ _ _ _ _ _ _ _ _ _ _ _ _ _ _ _ _ _ _ _ _ _ _ _ _ _ _ _ _ _ _ _ _ _ _ _ _ _ _ _ _ _ _ _ _ _ _ _ _ _ _ _ _ _ _ _ _ _ _ _ _ _ _ _ _ _ _ _ _ _ _ _ _ _ _ _ _ _ _ _ _ _ _ _ _ _ _ _ _ _ _ _ _ _ _ _ _ _ _ _ _ _ _ _ _ _ _ _ _ _ _ _ _ _ _ _ _ _ _ _ _ _ _ _ _ _ _ _ _ _ _ _ _ _ _ _ _ _ _ _ _ _ _ _ _ _ _ _ _ _ _ _ _ _ _ _ _ _ _ _ _ _ _ _ _ _ _ _ _ _ _ _ _ _ _ _ _ _ _ _ _ _ _ _ _ _ _ _ _ _ _ _ _ _ _ _ _ _ _ _ _ _ _ _ _ _ _ _ _ _ _ _ _ _ _ _ _ _
end Go.Proofs.YtkbmfemncadlnaaGreatDoor.lawWorn
