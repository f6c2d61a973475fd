/- The law of widths: a piece of its walk. -/
import Derived.Test.YtahggbaandcddaaGreatDoorWtL
import Derived.Test.YtahggbaandcddaaGreatDoorWnC
import Derived.Deep.CutRange
import Derived.BigRegion


namespace Go.Proofs.YtahggbaandcddaaGreatDoor.lawWidths
open Go Go.RowKit Go.Proofs.YtahggbaandcddaaGreatDoor
set_option linter.unusedVariables false
set_option linter.unusedSimpArgs false

attribute [local irreducible] wpQuiet in
set_option maxHeartbeats 4000000 in
set_option maxRecDepth 100000 in
theorem p8 (w wr : World) (f : Fc) (S : Value) (HV : Hid (validF f = true)) (l : List UInt8) (HT : Hid (vText l = true)) (HMX : Hid (MaxW w)) (HSP : Hid (SpT w)) (g5 : Nat) (ws : List (List UInt8)) (PL : List Int) (due : Int) (HO : Hid (WtO f l ws PL due)) (Aw : Option Addr) (cw : Nat) (hcw : ws.length ≤ cw) (Ap : Option Addr) (cp : Nat) (m : Int) (hm0 : 0 ≤ m ∧ m ≤ 4000) (k : Nat) (HFI : Hid (FitAt f ws m k)) (HF : Hid (HasF wr f S)) (K5 : Hid (Blk wr g5 28 (fcV f S))) (HW : Hid (SlE sv wr Aw ws)) (HB : Hid (Below w.heap.size w wr))
    (u0 u1 u2 u3 u4 u7 u8 u10 u11 u12 u13 u14 u16 u17 u18 u19 u20 u21 u22 u23 u24 u25 u26 u27 u28 u29 u30 u31 u32 u33 u34 u35 u36 u37 u38 u39 u41 u42 u43 u44 u45 u46 u47 u48 u49 u50 u52 u53 u54 u55 u56 u57 u58 u59 u60 u61 u62 u63 u64 u65 u66 u67 u68 u69 u70 u71 u72 u73 u74 u75 u76 u77 u78 u79 u80 u81 u82 u83 u84 u85 u86 u87 u88 u89 u90 u91 u92 u93 u94 u95 u96 u97 u98 u99 u100 u101 u102 u103 u104 u105 u106 u107 u108 u109 u110 u111 u112 u113 u114 u115 u116 u117 u118 u119 u120 u121 u122 u123 u124 u125 u126 u127 u128 u129 u130 u131 u132 u133 u134 u135 u136 u137 u138 u139 u140 u141 u142 u143 u144 u145 u146 u147 u148 u149 u150 u151 u152 u153 u154 u155 u156 u157 u158 u159 u160 u161 u162 u163 u164 u165 u166 u167 u168 u169 u170 u171 u172 u173 u174 u175 u176 u177 u178 u179 u180 u181 u182 u183 u184 u185 u186 u187 u188 u189 u190 u191 u192 u193 u194 u195 u196 u197 u198 u199 u200 u201 u202 u203 u204 u205 u206 u207 u208 u209 u210 u211 u212 u213 u214 u215 u216 u217 u218 u219 u220 u221 u222 u223 u224 u225 u226 u227 u228 u229 u230 u231 u232 u233 u234 u235 u236 u237 u238 u239 u240 u241 u242 u243 u244 u245 u246 u247 u248 u249 u250 u251 u252 u253 u254 u255 u256 u257 u258 u259 u260 u261 u262 u263 u264 u265 u266 u267 u268 u269 u270 u271 u272 u273 u274 u275 u276 u277 u278 u279 u280 u281 u282 u283 u284 u285 u286 u287 u288 u289 u290 u291 u292 u293 u294 u295 u296 u297 u298 u299 u300 u301 u302 u303 u304 u305 u306 u307 u308 u309 u310 u311 u312 u313 u314 u315 u316 u317 u318 u319 u320 u321 u322 u323 u324 u325 u326 u327 u328 u329 u330 u331 u332 u333 u334 u335 u336 u337 u338 u339 u340 u341 u342 u343 u344 u345 u346 u347 u348 u349 u350 u351 u352 u353 u354 u355 u356 u357 u358 u359 u360 u361 u362 u363 u364 u365 u366 u367 u368 u369 u370 u371 u372 u373 u374 u375 u376 u377 u378 u379 u380 u381 u382 u383 u384 u385 u386 u387 u388 u389 u390 u391 u392 u393 u394 u395 u396 u397 u398 u399 u400 u401 u402 u403 u404 u405 u406 u407 u408 u409 u410 u411 u412 u413 u414 u415 u416 u417 u418 u419 u420 u421 u422 u423 u424 u425 u426 u427 u428 u429 u430 u431 u432 u433 u434 u435 u436 u437 u438 u439 u440 u441 u442 u443 u444 u445 u446 u447 u448 u449 u450 u451 u452 u453 u454 u455 u456 u457 u458 u459 u460 u461 u462 u463 u464 u465 u466 u467 u468 u469 u470 u471 u472 u473 u474 u475 u476 u477 u478 u479 u480 u481 u482 u483 u484 u485 u486 u487 u488 u489 u490 u491 u492 u493 u494 u495 u496 u497 u498 u499 u500 u501 u502 u503 u504 u505 u506 u507 u508 u509 u510 u511 u512 u513 u514 u515 u516 u517 u518 u519 u520 u521 u522 u523 u524 u525 u526 u527 u528 u529 u530 u531 u532 u533 u534 u535 u536 u537 u538 u539 u540 u541 u542 u543 u544 u545 u546 u547 u548 u549 u550 u551 u552 u553 u554 u555 u556 u557 u558 u559 u560 u561 u562 u563 u564 u565 u566 u567 u568 u569 u570 u571 u572 u573 u574 u575 u576 u577 u578 u579 u580 u581 u582 u583 u584 u585 u586 u587 u588 u589 u590 u591 u592 u593 u594 u595 u596 u597 u598 u599 u600 u601 u602 u603 u604 u605 u606 u607 u608 u609 u610 u611 u612 u613 u614 u615 u616 u617 u618 u619 u620 u621 u622 u623 u624 u625 u626 u627 u628 u629 u630 u631 : Value) :
    Code.wp Tryz.prog (partOf Tryz.f3 [true, true, true, true, true, true, true, true, true, true, true, true, true, true, true, true, true, true, true, true, true, true, true, true, true]) (bodyPost Tryz.prog Tryz.f3 fun e w' => e = .returned (.bool true) ∧ Below w.heap.size w w')
      ⟨#[u0, u1, u2, u3, u4, .pointer (some ⟨g5, 0, none⟩), .string ⟨l.toArray⟩, u7, u8, .int .i64 due, u10, u11, u12, u13, u14, .slice Aw ws.length cw, u16, u17, u18, u19, u20, u21, u22, u23, u24, u25, u26, u27, u28, u29, u30, u31, u32, u33, u34, u35, u36, u37, u38, u39, .int .i64 m, u41, u42, u43, u44, u45, u46, u47, u48, u49, u50, .int .i64 (k : Nat), u52, u53, u54, u55, u56, u57, u58, u59, u60, u61, u62, u63, u64, u65, u66, u67, u68, u69, u70, u71, u72, u73, u74, u75, u76, u77, u78, u79, u80, u81, u82, u83, u84, u85, u86, u87, u88, u89, u90, u91, u92, u93, u94, u95, u96, u97, u98, u99, u100, u101, u102, u103, u104, u105, u106, u107, u108, u109, u110, u111, u112, u113, u114, u115, u116, u117, u118, u119, u120, u121, u122, u123, u124, u125, u126, u127, u128, u129, u130, u131, u132, u133, u134, u135, u136, u137, u138, u139, u140, u141, u142, u143, u144, u145, u146, u147, u148, u149, u150, u151, u152, u153, u154, u155, u156, u157, u158, u159, u160, u161, u162, u163, u164, u165, u166, u167, u168, u169, u170, u171, u172, u173, u174, u175, u176, u177, u178, u179, u180, u181, u182, u183, u184, u185, u186, u187, u188, u189, u190, u191, u192, u193, u194, u195, u196, u197, u198, u199, u200, u201, u202, u203, u204, u205, u206, u207, u208, u209, u210, u211, u212, u213, u214, u215, u216, u217, u218, u219, u220, u221, u222, u223, u224, u225, u226, u227, u228, u229, u230, u231, u232, u233, u234, u235, u236, u237, u238, u239, u240, u241, u242, u243, u244, u245, u246, u247, u248, u249, u250, u251, u252, u253, u254, u255, u256, u257, u258, u259, u260, u261, u262, u263, u264, u265, u266, u267, u268, u269, u270, u271, u272, u273, u274, u275, u276, u277, u278, u279, u280, u281, u282, u283, u284, u285, u286, u287, u288, u289, u290, u291, u292, u293, u294, u295, u296, u297, u298, u299, u300, u301, u302, u303, u304, u305, u306, u307, u308, u309, u310, u311, u312, u313, u314, u315, u316, u317, u318, u319, u320, u321, u322, u323, u324, u325, u326, u327, u328, u329, u330, u331, u332, u333, u334, u335, u336, u337, u338, u339, u340, u341, u342, u343, u344, u345, u346, u347, u348, u349, u350, u351, u352, u353, u354, u355, u356, u357, u358, u359, u360, u361, u362, u363, u364, u365, u366, u367, u368, u369, u370, u371, u372, u373, u374, u375, u376, u377, u378, u379, u380, u381, u382, u383, u384, u385, u386, u387, u388, u389, u390, u391, u392, u393, u394, u395, u396, u397, u398, u399, u400, u401, u402, u403, u404, u405, u406, u407, u408, u409, u410, u411, u412, u413, u414, u415, u416, u417, u418, u419, u420, u421, u422, u423, u424, u425, u426, u427, u428, u429, u430, u431, u432, u433, u434, u435, u436, u437, u438, u439, u440, u441, u442, u443, u444, u445, u446, u447, u448, u449, u450, u451, u452, u453, u454, u455, u456, u457, u458, u459, u460, u461, u462, u463, u464, u465, u466, u467, u468, u469, u470, u471, u472, u473, u474, u475, u476, u477, u478, u479, u480, u481, u482, u483, u484, u485, u486, u487, u488, u489, u490, u491, u492, u493, u494, u495, u496, u497, u498, u499, u500, u501, u502, u503, u504, u505, u506, u507, u508, u509, u510, u511, u512, u513, u514, u515, u516, u517, u518, u519, u520, u521, u522, u523, u524, u525, u526, u527, u528, u529, u530, u531, u532, u533, u534, u535, u536, u537, u538, u539, u540, u541, u542, u543, u544, u545, u546, u547, u548, u549, u550, u551, u552, u553, u554, u555, u556, u557, u558, u559, u560, u561, u562, u563, u564, u565, u566, u567, u568, u569, u570, u571, u572, u573, u574, u575, u576, u577, u578, u579, u580, u581, u582, u583, u584, u585, u586, u587, u588, u589, u590, u591, u592, u593, u594, u595, u596, u597, u598, u599, u600, u601, u602, u603, u604, u605, u606, u607, u608, u609, u610, u611, u612, u613, u614, u615, u616, u617, u618, u619, u620, u621, u622, u623, u624, u625, u626, u627, u628, u629, u630, u631], []⟩ wr := by
  conv => arg 2; whnf
  have hlenF := fcV_length HF.out.1 S
  have hkw := HFI.out.1
  have hmany := HO.out.ws.many
  have hft := fitAt_fits hm0.1 HFI.out
  have HVT := Lib.hid (fun (j : Nat) => (show vText (joinW (ws.take j)) = true by rw [HO.out.we]; exact vText_take HT.out j))
  have HTL := Lib.hid (fun (j : Nat) (h : j ≤ ws.length) => (show (ws.take j).length = j by rw [List.length_take]; omega))
  have hnf : ¬ m < lineW f (joinW (ws.take k)) := by omega
  clear hft
  obtain ⟨pt, hpt⟩ : ∃ pt, pt = joinW (ws.take k) := ⟨_, rfl⟩
  rw [← hpt] at hnf
  have HPT := Lib.hid hpt
  clear hpt
  have HJ1 := Lib.hid (fun (w' : World) (h : SlE sv w' Aw ws) => (show Calls Tryz.prog 27 #[.slice Aw k cw] w' (fun e w1 => e = .returned (.tuple #[.string ⟨pt.toArray⟩, .int .i64 0]) ∧ Below w'.heap.size w' w1) by rw [HPT.out]; exact joinWords_spec Aw k cw (ws.take k) w' (HTL.out k hkw) (ws_take HO.out.ws k) (HVT.out k) (slE_take h k)))
  have HVP := Lib.hid (show vText pt = true by rw [HPT.out]; exact HVT.out k)
  repeat ((with_reducible fail_if_success (show wpList _ _ _ (⟨some 582, _, _, _, _, _⟩ :: _) _ _)); first | go_values | go_skip | go_guarded | go_step | go_upon)
  refine wpList_val (by kernel_rfl) (.slice Aw k cw) _ (exec_sliceT (.tmp 580) (.tmp 581) rfl Aw ws.length cw k (by kernel_rfl) (by kernel_rfl) (by omega)) ?_
  repeat (first | go_values | go_skip | go_guarded | go_step | go_upon)
  go_at_call 27
  refine (HJ1.out wr HW.out).mono ?_
  rintro e w1 ⟨rfl, hb⟩
  dsimp only
  replace HF := Lib.hid (HF.out.next hb)
  replace K5 := Lib.hid (K5.out.next hb)
  replace HW := Lib.hid (HW.out.next hb)
  replace HB := Lib.hid (below_step HB.out hb)
  clear hb
  repeat ((with_reducible fail_if_success (show wpList _ _ _ (⟨some 587, _, _, _, _, _⟩ :: _) _ _)); first | go_values | go_skip | go_guarded | go_step | go_upon)
  refine wpList_val (by kernel_rfl) (.agg (fcV f S).toArray) _ (exec_load_row 28 (.tmp 5) rfl g5 (by kernel_rfl) 28 (fcV f S).toArray _ _ K5.out Tryz.underlying28 rfl (by rw [List.size_toArray, hlenF]; exact szFcI)) ?_
  repeat (first | go_values | go_skip | go_guarded | go_step | go_upon)
  go_at_call 7
  refine (lineWide_impl f S pt w1 (HMX.out.next HB.out) HF.out HV.out HVP.out).mono ?_
  rintro e w2 ⟨rfl, hb⟩
  dsimp only
  replace HF := Lib.hid (HF.out.next hb)
  replace K5 := Lib.hid (K5.out.next hb)
  replace HW := Lib.hid (HW.out.next hb)
  replace HB := Lib.hid (below_step HB.out hb)
  clear hb
  clear HJ1
  by_cases hkn : k = ws.length
  · have hkb : ((k : Int) == (ws.length : Int)) = true := by rw [hkn]; simp
    repeat (first | go_values | go_skip | go_guarded | go_step | go_upon)
    go_ret
    exact ⟨rfl, HB.out⟩
  · have hkb : ((k : Int) == (ws.length : Int)) = false := by rw [beq_eq_false_iff_ne]; omega
    have hov : m < lineW f (joinW (ws.take (k + 1))) := fitAt_over HFI.out (by omega)
    obtain ⟨qt, hqt⟩ : ∃ qt, qt = joinW (ws.take (k + 1)) := ⟨_, rfl⟩
    rw [← hqt] at hov
    have HQT := Lib.hid hqt
    clear hqt
    have e1 : IntKind.i64.wrap ((k : Int) + 1) = ((k + 1 : Nat) : Int) := by rw [IntWalk.i64_in _ (by omega)]; omega
    have HJ2 := Lib.hid (fun (w' : World) (h : SlE sv w' Aw ws) => (show Calls Tryz.prog 27 #[.slice Aw (k + 1) cw] w' (fun e w1 => e = .returned (.tuple #[.string ⟨qt.toArray⟩, .int .i64 0]) ∧ Below w'.heap.size w' w1) by rw [HQT.out]; exact joinWords_spec Aw (k + 1) cw (ws.take (k + 1)) w' (HTL.out (k + 1) (by omega)) (ws_take HO.out.ws (k + 1)) (HVT.out (k + 1)) (slE_take h (k + 1))))
    have HVQ := Lib.hid (show vText qt = true by rw [HQT.out]; exact HVT.out (k + 1))
    repeat ((with_reducible fail_if_success (show wpList _ _ _ (⟨some 610, _, _, _, _, _⟩ :: _) _ _)); first | go_values | go_skip | go_guarded | go_step | go_upon)
    refine wpList_val (by kernel_rfl) (.int .i64 ((k + 1 : Nat) : Int)) _ (Eq.trans (show (execOp _ _).run _ w2 = .ok (.value (.int .i64 (IntKind.i64.wrap ((k : Int) + 1)))) w2 by kernel_rfl) (by rw [e1])) ?_
    repeat ((with_reducible fail_if_success (show wpList _ _ _ (⟨some 611, _, _, _, _, _⟩ :: _) _ _)); first | go_values | go_skip | go_guarded | go_step | go_upon)
    refine wpList_val (by kernel_rfl) (.slice Aw (k + 1) cw) _ (exec_sliceT (.tmp 608) (.tmp 610) rfl Aw ws.length cw (k + 1) (by kernel_rfl) (by kernel_rfl) (by omega)) ?_
    repeat (first | go_values | go_skip | go_guarded | go_step | go_upon)
    go_at_call 27
    refine (HJ2.out w2 HW.out).mono ?_
    rintro e w3 ⟨rfl, hb⟩
    dsimp only
    replace HF := Lib.hid (HF.out.next hb)
    replace K5 := Lib.hid (K5.out.next hb)
    replace HW := Lib.hid (HW.out.next hb)
    replace HB := Lib.hid (below_step HB.out hb)
    clear hb
    repeat ((with_reducible fail_if_success (show wpList _ _ _ (⟨some 616, _, _, _, _, _⟩ :: _) _ _)); first | go_values | go_skip | go_guarded | go_step | go_upon)
    refine wpList_val (by kernel_rfl) (.agg (fcV f S).toArray) _ (exec_load_row 28 (.tmp 5) rfl g5 (by kernel_rfl) 28 (fcV f S).toArray _ _ K5.out Tryz.underlying28 rfl (by rw [List.size_toArray, hlenF]; exact szFcI)) ?_
    repeat (first | go_values | go_skip | go_guarded | go_step | go_upon)
    go_at_call 7
    refine (lineWide_impl f S qt w3 (HMX.out.next HB.out) HF.out HV.out HVQ.out).mono ?_
    rintro e w4 ⟨rfl, hb⟩
    dsimp only
    replace HF := Lib.hid (HF.out.next hb)
    replace K5 := Lib.hid (K5.out.next hb)
    replace HW := Lib.hid (HW.out.next hb)
    replace HB := Lib.hid (below_step HB.out hb)
    clear hb
    repeat (first | go_values | go_skip | go_guarded | go_step | go_upon)
    go_ret
    exact ⟨rfl, HB.out⟩
end Go.Proofs.YtahggbaandcddaaGreatDoor.lawWidths
