/- The law of widths: a piece of its walk. -/
import Derived.Test.YtahggbaandcddaaGreatDoorWtL
import Derived.Test.YtahggbaandcddaaGreatDoorWnC
import Derived.Deep.CutRange
import Derived.BigRegion


namespace Go.Proofs.YtahggbaandcddaaGreatDoor.lawWidths
open Go Go.RowKit Go.Proofs.YtahggbaandcddaaGreatDoor
set_option linter.unusedVariables false
set_option linter.unusedSimpArgs false

attribute [local irreducible] wpQuiet in
set_option maxHeartbeats 4000000 in
set_option maxRecDepth 100000 in
theorem sT (w wr : World) (f : Fc) (S : Value) (HV : Hid (validF f = true)) (l : List UInt8) (HT : Hid (vText l = true)) (HMX : Hid (MaxW w)) (HSP : Hid (SpT w)) (g5 : Nat) (ws : List (List UInt8)) (PL : List Int) (due : Int) (HO : Hid (WtO f l ws PL due)) (Aw : Option Addr) (cw : Nat) (hcw : ws.length ≤ cw) (Ap : Option Addr) (cp : Nat) (i k : Nat) (hi : i < ws.length) (hk : k < (rdW ws i).length) (aa : Nat) (haa : aa < PL.length) (e2 : Int) (HE2 : Hid (e2 = rdI PL aa + rdI f.wide (letN (rdW ws i) k))) (HF : Hid (HasF wr f S)) (K5 : Hid (Blk wr g5 28 (fcV f S))) (HW : Hid (SlE sv wr Aw ws)) (HP : Hid (SlE i64 wr Ap PL)) (HB : Hid (Below w.heap.size w wr)) (K : Act → World → Prop) (Q : Exit → Act → World → Prop)
    (u0 u1 u2 u3 u4 u6 u7 u8 u9 u10 u11 u12 u14 u16 u18 u21 u22 u23 u24 u25 u26 u27 u28 u29 u30 u31 u32 u33 u34 u35 u36 u37 u38 u39 u40 u41 u42 u43 u44 u45 u46 u47 u48 u49 u50 u51 u52 u53 u54 u55 u56 u57 u58 u59 u60 u61 u62 u63 u64 u65 u66 u67 u68 u69 u70 u71 u72 u73 u74 u75 u76 u77 u78 u79 u80 u81 u82 u83 u84 u85 u86 u87 u88 u89 u90 u91 u92 u93 u94 u95 u96 u97 u98 u99 u100 u101 u102 u103 u104 u105 u106 u107 u108 u109 u110 u111 u112 u113 u114 u115 u116 u117 u118 u119 u120 u121 u122 u123 u124 u125 u126 u127 u128 u129 u130 u131 u132 u133 u134 u135 u136 u137 u138 u139 u140 u141 u142 u143 u144 u145 u146 u147 u148 u149 u150 u151 u152 u153 u154 u155 u156 u157 u158 u159 u160 u161 u162 u163 u164 u165 u166 u167 u168 u169 u170 u171 u172 u173 u174 u175 u176 u177 u178 u179 u180 u181 u182 u183 u184 u185 u186 u187 u188 u189 u190 u191 u192 u193 u194 u195 u196 u197 u198 u199 u200 u201 u202 u203 u204 u205 u206 u207 u208 u209 u210 u211 u212 u213 u214 u215 u216 u217 u218 u219 u220 u221 u222 u223 u224 u225 u226 u227 u228 u229 u230 u231 u232 u233 u234 u235 u236 u237 u238 u239 u240 u241 u242 u243 u244 u245 u246 u247 u248 u249 u250 u251 u252 u253 u254 u255 u256 u257 u258 u259 u260 u261 u262 u263 u264 u265 u266 u267 u268 u269 u270 u271 u272 u273 u274 u275 u276 u277 u278 u279 u280 u281 u282 u283 u284 u285 u286 u287 u288 u289 u290 u291 u292 u293 u294 u295 u296 u297 u298 u299 u300 u301 u302 u303 u304 u305 u306 u307 u308 u309 u310 u311 u312 u313 u314 u315 u316 u317 u318 u319 u320 u321 u322 u323 u324 u325 u326 u327 u328 u329 u330 u331 u332 u333 u334 u335 u336 u337 u338 u339 u340 u341 u342 u343 u344 u345 u346 u347 u348 u349 u350 u351 u352 u353 u354 u355 u356 u357 u358 u359 u360 u361 u362 u363 u364 u365 u366 u367 u368 u369 u370 u371 u372 u373 u374 u375 u376 u377 u378 u379 u380 u381 u382 u383 u384 u385 u386 u387 u388 u389 u390 u391 u392 u393 u394 u395 u396 u397 u398 u399 u400 u401 u402 u403 u404 u405 u406 u407 u408 u409 u410 u411 u412 u413 u414 u415 u416 u417 u418 u419 u420 u421 u422 u423 u424 u425 u426 u427 u428 u429 u430 u431 u432 u433 u434 u435 u436 u437 u438 u439 u440 u441 u442 u443 u444 u445 u446 u447 u448 u449 u450 u451 u452 u453 u454 u455 u456 u457 u458 u459 u460 u461 u462 u463 u464 u465 u466 u467 u468 u469 u470 u471 u472 u473 u474 u475 u476 u477 u478 u479 u480 u481 u482 u483 u484 u485 u486 u487 u488 u489 u490 u491 u492 u493 u494 u495 u496 u497 u498 u499 u500 u501 u502 u503 u504 u505 u506 u507 u508 u509 u510 u511 u512 u513 u514 u515 u516 u517 u518 u519 u520 u521 u522 u523 u524 u525 u526 u527 u528 u529 u530 u531 u532 u533 u534 u535 u536 u537 u538 u539 u540 u541 u542 u543 u544 u545 u546 u547 u548 u549 u550 u551 u552 u553 u554 u555 u556 u557 u558 u559 u560 u561 u562 u563 u564 u565 u566 u567 u568 u569 u570 u571 u572 u573 u574 u575 u576 u577 u578 u579 u580 u581 u582 u583 u584 u585 u586 u587 u588 u589 u590 u591 u592 u593 u594 u595 u596 u597 u598 u599 u600 u601 u602 u603 u604 u605 u606 u607 u608 u609 u610 u611 u612 u613 u614 u615 u616 u617 u618 u619 u620 u621 u622 u623 u624 u625 u626 u627 u628 u629 u630 u631 : Value) (hK : ∀ (wc : World), Below wr.heap.size wr wc → ∀ (v189 v190 v191 v192 v193 v194 v195 v196 v197 v198 v199 v200 v201 v202 v203 v204 : Value), K ⟨#[u0, u1, u2, u3, u4, .pointer (some ⟨g5, 0, none⟩), u6, u7, u8, u9, u10, u11, u12, .slice Ap PL.length cp, u14, .slice Aw ws.length cw, u16, .int .i64 (aa : Nat), .int .i64 e2, .int .i64 (i : Nat), .int .i64 (k : Nat), u21, u22, u23, u24, u25, u26, u27, u28, u29, u30, u31, u32, u33, u34, u35, u36, u37, u38, u39, u40, u41, u42, u43, u44, u45, u46, u47, u48, u49, u50, u51, u52, u53, u54, u55, u56, u57, u58, u59, u60, u61, u62, u63, u64, u65, u66, u67, u68, u69, u70, u71, u72, u73, u74, u75, u76, u77, u78, u79, u80, u81, u82, u83, u84, u85, u86, u87, u88, u89, u90, u91, u92, u93, u94, u95, u96, u97, u98, u99, u100, u101, u102, u103, u104, u105, u106, u107, u108, u109, u110, u111, u112, u113, u114, u115, u116, u117, u118, u119, u120, u121, u122, u123, u124, u125, u126, u127, u128, u129, u130, u131, u132, u133, u134, u135, u136, u137, u138, u139, u140, u141, u142, u143, u144, u145, u146, u147, u148, u149, u150, u151, u152, u153, u154, u155, u156, u157, u158, u159, u160, u161, u162, u163, u164, u165, u166, u167, u168, u169, u170, u171, u172, u173, u174, u175, u176, u177, u178, u179, u180, u181, u182, u183, u184, u185, u186, u187, u188, v189, v190, v191, v192, v193, v194, v195, v196, v197, v198, v199, v200, v201, v202, v203, v204, u205, u206, u207, u208, u209, u210, u211, u212, u213, u214, u215, u216, u217, u218, u219, u220, u221, u222, u223, u224, u225, u226, u227, u228, u229, u230, u231, u232, u233, u234, u235, u236, u237, u238, u239, u240, u241, u242, u243, u244, u245, u246, u247, u248, u249, u250, u251, u252, u253, u254, u255, u256, u257, u258, u259, u260, u261, u262, u263, u264, u265, u266, u267, u268, u269, u270, u271, u272, u273, u274, u275, u276, u277, u278, u279, u280, u281, u282, u283, u284, u285, u286, u287, u288, u289, u290, u291, u292, u293, u294, u295, u296, u297, u298, u299, u300, u301, u302, u303, u304, u305, u306, u307, u308, u309, u310, u311, u312, u313, u314, u315, u316, u317, u318, u319, u320, u321, u322, u323, u324, u325, u326, u327, u328, u329, u330, u331, u332, u333, u334, u335, u336, u337, u338, u339, u340, u341, u342, u343, u344, u345, u346, u347, u348, u349, u350, u351, u352, u353, u354, u355, u356, u357, u358, u359, u360, u361, u362, u363, u364, u365, u366, u367, u368, u369, u370, u371, u372, u373, u374, u375, u376, u377, u378, u379, u380, u381, u382, u383, u384, u385, u386, u387, u388, u389, u390, u391, u392, u393, u394, u395, u396, u397, u398, u399, u400, u401, u402, u403, u404, u405, u406, u407, u408, u409, u410, u411, u412, u413, u414, u415, u416, u417, u418, u419, u420, u421, u422, u423, u424, u425, u426, u427, u428, u429, u430, u431, u432, u433, u434, u435, u436, u437, u438, u439, u440, u441, u442, u443, u444, u445, u446, u447, u448, u449, u450, u451, u452, u453, u454, u455, u456, u457, u458, u459, u460, u461, u462, u463, u464, u465, u466, u467, u468, u469, u470, u471, u472, u473, u474, u475, u476, u477, u478, u479, u480, u481, u482, u483, u484, u485, u486, u487, u488, u489, u490, u491, u492, u493, u494, u495, u496, u497, u498, u499, u500, u501, u502, u503, u504, u505, u506, u507, u508, u509, u510, u511, u512, u513, u514, u515, u516, u517, u518, u519, u520, u521, u522, u523, u524, u525, u526, u527, u528, u529, u530, u531, u532, u533, u534, u535, u536, u537, u538, u539, u540, u541, u542, u543, u544, u545, u546, u547, u548, u549, u550, u551, u552, u553, u554, u555, u556, u557, u558, u559, u560, u561, u562, u563, u564, u565, u566, u567, u568, u569, u570, u571, u572, u573, u574, u575, u576, u577, u578, u579, u580, u581, u582, u583, u584, u585, u586, u587, u588, u589, u590, u591, u592, u593, u594, u595, u596, u597, u598, u599, u600, u601, u602, u603, u604, u605, u606, u607, u608, u609, u610, u611, u612, u613, u614, u615, u616, u617, u618, u619, u620, u621, u622, u623, u624, u625, u626, u627, u628, u629, u630, u631], []⟩ wc) :
    Code.wp Tryz.prog (partOf Tryz.f3 [true, true, true, true, true, true, true, true, true, true, true, true, false, true, true, true, true, false, true, true, true, true, true, false, true, true, true, true, true, false]) (Exit.then K Q)
      ⟨#[u0, u1, u2, u3, u4, .pointer (some ⟨g5, 0, none⟩), u6, u7, u8, u9, u10, u11, u12, .slice Ap PL.length cp, u14, .slice Aw ws.length cw, u16, .int .i64 (aa : Nat), u18, .int .i64 (i : Nat), .int .i64 (k : Nat), u21, u22, u23, u24, u25, u26, u27, u28, u29, u30, u31, u32, u33, u34, u35, u36, u37, u38, u39, u40, u41, u42, u43, u44, u45, u46, u47, u48, u49, u50, u51, u52, u53, u54, u55, u56, u57, u58, u59, u60, u61, u62, u63, u64, u65, u66, u67, u68, u69, u70, u71, u72, u73, u74, u75, u76, u77, u78, u79, u80, u81, u82, u83, u84, u85, u86, u87, u88, u89, u90, u91, u92, u93, u94, u95, u96, u97, u98, u99, u100, u101, u102, u103, u104, u105, u106, u107, u108, u109, u110, u111, u112, u113, u114, u115, u116, u117, u118, u119, u120, u121, u122, u123, u124, u125, u126, u127, u128, u129, u130, u131, u132, u133, u134, u135, u136, u137, u138, u139, u140, u141, u142, u143, u144, u145, u146, u147, u148, u149, u150, u151, u152, u153, u154, u155, u156, u157, u158, u159, u160, u161, u162, u163, u164, u165, u166, u167, u168, u169, u170, u171, u172, u173, u174, u175, u176, u177, u178, u179, u180, u181, u182, u183, u184, u185, u186, u187, u188, u189, u190, u191, u192, u193, u194, u195, u196, u197, u198, u199, u200, u201, u202, u203, u204, u205, u206, u207, u208, u209, u210, u211, u212, u213, u214, u215, u216, u217, u218, u219, u220, u221, u222, u223, u224, u225, u226, u227, u228, u229, u230, u231, u232, u233, u234, u235, u236, u237, u238, u239, u240, u241, u242, u243, u244, u245, u246, u247, u248, u249, u250, u251, u252, u253, u254, u255, u256, u257, u258, u259, u260, u261, u262, u263, u264, u265, u266, u267, u268, u269, u270, u271, u272, u273, u274, u275, u276, u277, u278, u279, u280, u281, u282, u283, u284, u285, u286, u287, u288, u289, u290, u291, u292, u293, u294, u295, u296, u297, u298, u299, u300, u301, u302, u303, u304, u305, u306, u307, u308, u309, u310, u311, u312, u313, u314, u315, u316, u317, u318, u319, u320, u321, u322, u323, u324, u325, u326, u327, u328, u329, u330, u331, u332, u333, u334, u335, u336, u337, u338, u339, u340, u341, u342, u343, u344, u345, u346, u347, u348, u349, u350, u351, u352, u353, u354, u355, u356, u357, u358, u359, u360, u361, u362, u363, u364, u365, u366, u367, u368, u369, u370, u371, u372, u373, u374, u375, u376, u377, u378, u379, u380, u381, u382, u383, u384, u385, u386, u387, u388, u389, u390, u391, u392, u393, u394, u395, u396, u397, u398, u399, u400, u401, u402, u403, u404, u405, u406, u407, u408, u409, u410, u411, u412, u413, u414, u415, u416, u417, u418, u419, u420, u421, u422, u423, u424, u425, u426, u427, u428, u429, u430, u431, u432, u433, u434, u435, u436, u437, u438, u439, u440, u441, u442, u443, u444, u445, u446, u447, u448, u449, u450, u451, u452, u453, u454, u455, u456, u457, u458, u459, u460, u461, u462, u463, u464, u465, u466, u467, u468, u469, u470, u471, u472, u473, u474, u475, u476, u477, u478, u479, u480, u481, u482, u483, u484, u485, u486, u487, u488, u489, u490, u491, u492, u493, u494, u495, u496, u497, u498, u499, u500, u501, u502, u503, u504, u505, u506, u507, u508, u509, u510, u511, u512, u513, u514, u515, u516, u517, u518, u519, u520, u521, u522, u523, u524, u525, u526, u527, u528, u529, u530, u531, u532, u533, u534, u535, u536, u537, u538, u539, u540, u541, u542, u543, u544, u545, u546, u547, u548, u549, u550, u551, u552, u553, u554, u555, u556, u557, u558, u559, u560, u561, u562, u563, u564, u565, u566, u567, u568, u569, u570, u571, u572, u573, u574, u575, u576, u577, u578, u579, u580, u581, u582, u583, u584, u585, u586, u587, u588, u589, u590, u591, u592, u593, u594, u595, u596, u597, u598, u599, u600, u601, u602, u603, u604, u605, u606, u607, u608, u609, u610, u611, u612, u613, u614, u615, u616, u617, u618, u619, u620, u621, u622, u623, u624, u625, u626, u627, u628, u629, u630, u631], []⟩ wr := by
  conv => arg 2; whnf
  have HKK := Lib.hid hK
  clear hK
  have hwd := HO.out.word hi
  have hlet := isLet_iff.1 (hwd.1 k hk)
  have hN26 : letN (rdW ws i) k < 26 := by unfold letN; omega
  have hw := HO.out.vF.wide (letN (rdW ws i) k) hN26
  have hpr := HO.out.plr haa
  have hp60 := HO.out.pl60
  obtain ⟨ap, rfl, rp⟩ := HP.out.some aa haa
  have HRP := Lib.hid rp
  clear rp
  obtain ⟨aw, rfl, rq⟩ := HW.out.some i hi
  have HRW := Lib.hid rq
  clear rq
  have hks : k < (⟨(rdW ws i).toArray⟩ : ByteArray).size := by simp [ByteArray.size]; omega
  have hu8 : IntKind.u8.wrap (byt (rdW ws i) k - 65) = ((letN (rdW ws i) k : Nat) : Int) := by rw [IntWalk.u8_in _ (by omega)]; unfold letN; omega
  have e3 : IntKind.i64.wrap (rdI f.wide (letN (rdW ws i) k)) = rdI f.wide (letN (rdW ws i) k) := IntWalk.i64_in _ (by omega)
  have e4 : IntKind.i64.wrap (rdI PL aa + rdI f.wide (letN (rdW ws i) k)) = e2 := by rw [HE2.out]; exact IntWalk.i64_in _ (by omega)
  clear hwd
  refine region_below (wr.heap.size) (by kernel_rfl) (by kernel_rfl) ?_
  refine below_run (by kernel_rfl) (.slice (some ap) PL.length cp) (fun w' hw' => by kernel_rfl) ?_
  refine below_run (by kernel_rfl) (.int .i64 (aa : Nat)) (fun w' hw' => by kernel_rfl) ?_
  refine below_run (by kernel_rfl) (.pointer (some (Addr.add ap (aa * 1)))) (fun w' hw' => exec_index 33 (.tmp 189) (.tmp 190) rfl ap PL.length cp (by kernel_rfl) .i64 aa (by kernel_rfl) haa 2 Tryz.underlying33 1 szI64c) ?_
  refine below_run (by kernel_rfl) (.int .i64 (rdI PL aa)) (fun w' hw' => exec_load1 2 (.tmp 191) rfl (ap.add (aa * 1)) (by kernel_rfl) (.int .i64 (rdI PL aa)) (by rw [Nat.mul_one]; exact (HRP.out.next hw').atI64 aa haa) _ Tryz.underlying2 rfl) ?_
  refine below_run (by kernel_rfl) (.slice (some aw) ws.length cw) (fun w' hw' => by kernel_rfl) ?_
  refine below_run (by kernel_rfl) (.int .i64 (i : Nat)) (fun w' hw' => by kernel_rfl) ?_
  refine below_run (by kernel_rfl) (.pointer (some (Addr.add aw (i * 1)))) (fun w' hw' => exec_index 36 (.tmp 193) (.tmp 194) rfl aw ws.length cw (by kernel_rfl) .i64 i (by kernel_rfl) hi 9 Tryz.underlying36 1 szStr) ?_
  refine below_run (by kernel_rfl) (.string ⟨(rdW ws i).toArray⟩) (fun w' hw' => exec_load1 9 (.tmp 195) rfl (aw.add (i * 1)) (by kernel_rfl) (.string ⟨(rdW ws i).toArray⟩) (by rw [Nat.mul_one]; exact (HRW.out.next hw').atW i hi) _ Tryz.underlying9 rfl) ?_
  refine below_run (by kernel_rfl) (.int .i64 (k : Nat)) (fun w' hw' => by kernel_rfl) ?_
  refine below_run (by kernel_rfl) (.int .u8 (byt (rdW ws i) k)) (fun w' hw' => exec_byte (.tmp 196) (.tmp 197) rfl ⟨(rdW ws i).toArray⟩ (by kernel_rfl) k (by kernel_rfl) hks) ?_
  refine below_run (by kernel_rfl) (.int .u8 ((letN (rdW ws i) k : Nat) : Int)) (fun w' hw' => Eq.trans (show (execOp _ _).run _ w' = .ok (.value (.int .u8 (IntKind.u8.wrap (byt (rdW ws i) k - 65)))) w' by kernel_rfl) (by rw [hu8])) ?_
  refine below_run (by kernel_rfl) (.pointer (some ⟨g5, 0, none⟩)) (fun w' hw' => by kernel_rfl) ?_
  refine below_run (by kernel_rfl) (.pointer (some (Addr.add ⟨g5, 0, none⟩ ((letN (rdW ws i) k) * 1)))) (fun w' hw' => exec_indexA 25 (.tmp 200) (.tmp 199) rfl ⟨g5, 0, none⟩ (by kernel_rfl) .u8 (letN (rdW ws i) k) (by kernel_rfl) 26 hN26 24 Tryz.underlying25 1 szI8) ?_
  refine below_run (by kernel_rfl) (.int .i8 (rdI f.wide (letN (rdW ws i) k))) (fun w' hw' => exec_load1 24 (.tmp 201) rfl (Addr.add ⟨g5, 0, none⟩ (letN (rdW ws i) k * 1)) (by kernel_rfl) (.int .i8 (rdI f.wide (letN (rdW ws i) k))) (by rw [Nat.mul_one, add_mid, Nat.zero_add]; exact (K5.out.next hw').cell (letN (rdW ws i) k) _ (fcV_wide HF.out.1 S _ hN26)) _ Tryz.underlying24 rfl) ?_
  refine below_run (by kernel_rfl) (.int .i64 (rdI f.wide (letN (rdW ws i) k))) (fun w' hw' => Eq.trans (show (execOp _ _).run _ w' = .ok (.value (.int .i64 (IntKind.i64.wrap (rdI f.wide (letN (rdW ws i) k))))) w' by kernel_rfl) (by rw [e3])) ?_
  refine below_run (by kernel_rfl) (.int .i64 e2) (fun w' hw' => Eq.trans (show (execOp _ _).run _ w' = .ok (.value (.int .i64 (IntKind.i64.wrap (rdI PL aa + rdI f.wide (letN (rdW ws i) k))))) w' by kernel_rfl) (by rw [e4])) ?_
  refine below_run (by kernel_rfl) (.int .i64 e2) (fun w' hw' => by kernel_rfl) ?_
  refine wpQuiet_nil ?_
  intro W1 hW1
  simp only [Act.put, List.setIfInBounds_toArray, List.set_cons_succ, List.set_cons_zero]
  clear e3 e4 hu8
  repeat (first | go_values | go_skip | go_guarded | go_step | go_upon)
  exact HKK.out _ (hW1) _ _ _ _ _ _ _ _ _ _ _ _ _ _ _ _

attribute [local irreducible] wpQuiet in
set_option maxHeartbeats 4000000 in
set_option maxRecDepth 100000 in
theorem sIn (w wr : World) (f : Fc) (S : Value) (HV : Hid (validF f = true)) (l : List UInt8) (HT : Hid (vText l = true)) (HMX : Hid (MaxW w)) (HSP : Hid (SpT w)) (g5 : Nat) (ws : List (List UInt8)) (PL : List Int) (due : Int) (HO : Hid (WtO f l ws PL due)) (Aw : Option Addr) (cw : Nat) (hcw : ws.length ≤ cw) (Ap : Option Addr) (cp : Nat) (i : Nat) (hi : i < ws.length) (HF : Hid (HasF wr f S)) (K5 : Hid (Blk wr g5 28 (fcV f S))) (HW : Hid (SlE sv wr Aw ws)) (HP : Hid (SlE i64 wr Ap PL)) (HB : Hid (Below w.heap.size w wr)) (K : Act → World → Prop) (Q : Exit → Act → World → Prop)
    (u0 u1 u2 u3 u4 u6 u7 u8 u9 u10 u11 u12 u14 u16 u20 u21 u22 u23 u24 u25 u26 u27 u28 u29 u30 u31 u32 u33 u34 u35 u36 u37 u38 u39 u40 u41 u42 u43 u44 u45 u46 u47 u48 u49 u50 u51 u52 u53 u54 u55 u56 u57 u58 u59 u60 u61 u62 u63 u64 u65 u66 u67 u68 u69 u70 u71 u72 u73 u74 u75 u76 u77 u78 u79 u80 u81 u82 u83 u84 u85 u86 u87 u88 u89 u90 u91 u92 u93 u94 u95 u96 u97 u98 u99 u100 u101 u102 u103 u104 u105 u106 u107 u108 u109 u110 u111 u112 u113 u114 u115 u116 u117 u118 u119 u120 u121 u122 u123 u124 u125 u126 u127 u128 u129 u130 u131 u132 u133 u134 u135 u136 u137 u138 u139 u140 u141 u142 u143 u144 u145 u146 u147 u148 u149 u150 u151 u152 u153 u154 u155 u156 u157 u158 u159 u160 u161 u162 u163 u164 u165 u166 u167 u168 u169 u170 u171 u172 u173 u174 u175 u176 u177 u178 u179 u180 u181 u182 u183 u184 u185 u186 u187 u188 u189 u190 u191 u192 u193 u194 u195 u196 u197 u198 u199 u200 u201 u202 u203 u204 u205 u206 u207 u208 u209 u210 u211 u212 u213 u214 u215 u216 u217 u218 u219 u220 u221 u222 u223 u224 u225 u226 u227 u228 u229 u230 u231 u232 u233 u234 u235 u236 u237 u238 u239 u240 u241 u242 u243 u244 u245 u246 u247 u248 u249 u250 u251 u252 u253 u254 u255 u256 u257 u258 u259 u260 u261 u262 u263 u264 u265 u266 u267 u268 u269 u270 u271 u272 u273 u274 u275 u276 u277 u278 u279 u280 u281 u282 u283 u284 u285 u286 u287 u288 u289 u290 u291 u292 u293 u294 u295 u296 u297 u298 u299 u300 u301 u302 u303 u304 u305 u306 u307 u308 u309 u310 u311 u312 u313 u314 u315 u316 u317 u318 u319 u320 u321 u322 u323 u324 u325 u326 u327 u328 u329 u330 u331 u332 u333 u334 u335 u336 u337 u338 u339 u340 u341 u342 u343 u344 u345 u346 u347 u348 u349 u350 u351 u352 u353 u354 u355 u356 u357 u358 u359 u360 u361 u362 u363 u364 u365 u366 u367 u368 u369 u370 u371 u372 u373 u374 u375 u376 u377 u378 u379 u380 u381 u382 u383 u384 u385 u386 u387 u388 u389 u390 u391 u392 u393 u394 u395 u396 u397 u398 u399 u400 u401 u402 u403 u404 u405 u406 u407 u408 u409 u410 u411 u412 u413 u414 u415 u416 u417 u418 u419 u420 u421 u422 u423 u424 u425 u426 u427 u428 u429 u430 u431 u432 u433 u434 u435 u436 u437 u438 u439 u440 u441 u442 u443 u444 u445 u446 u447 u448 u449 u450 u451 u452 u453 u454 u455 u456 u457 u458 u459 u460 u461 u462 u463 u464 u465 u466 u467 u468 u469 u470 u471 u472 u473 u474 u475 u476 u477 u478 u479 u480 u481 u482 u483 u484 u485 u486 u487 u488 u489 u490 u491 u492 u493 u494 u495 u496 u497 u498 u499 u500 u501 u502 u503 u504 u505 u506 u507 u508 u509 u510 u511 u512 u513 u514 u515 u516 u517 u518 u519 u520 u521 u522 u523 u524 u525 u526 u527 u528 u529 u530 u531 u532 u533 u534 u535 u536 u537 u538 u539 u540 u541 u542 u543 u544 u545 u546 u547 u548 u549 u550 u551 u552 u553 u554 u555 u556 u557 u558 u559 u560 u561 u562 u563 u564 u565 u566 u567 u568 u569 u570 u571 u572 u573 u574 u575 u576 u577 u578 u579 u580 u581 u582 u583 u584 u585 u586 u587 u588 u589 u590 u591 u592 u593 u594 u595 u596 u597 u598 u599 u600 u601 u602 u603 u604 u605 u606 u607 u608 u609 u610 u611 u612 u613 u614 u615 u616 u617 u618 u619 u620 u621 u622 u623 u624 u625 u626 u627 u628 u629 u630 u631 : Value) (hK : ∀ (wc : World), Below wr.heap.size wr wc → ∀ (v4 v20 v21 v22 v23 v136 v137 v138 v139 v140 v141 v142 v143 v144 v145 v146 v147 v148 v149 v150 v151 v152 v153 v154 v155 v156 v157 v158 v159 v160 v161 v162 v163 v164 v165 v166 v167 v168 v169 v170 v171 v172 v173 v174 v175 v176 v177 v178 v179 v180 v181 v182 v183 v184 v185 v186 v187 v188 v189 v190 v191 v192 v193 v194 v195 v196 v197 v198 v199 v200 v201 v202 v203 v204 v205 v206 : Value), K ⟨#[u0, u1, u2, u3, v4, .pointer (some ⟨g5, 0, none⟩), u6, u7, u8, u9, u10, u11, u12, .slice Ap PL.length cp, u14, .slice Aw ws.length cw, u16, .int .i64 (((plcA f ws (i + 1)).length : Nat) : Int), .int .i64 (endW f ws (i + 1) 0), .int .i64 (i : Nat), v20, v21, v22, v23, u24, u25, u26, u27, u28, u29, u30, u31, u32, u33, u34, u35, u36, u37, u38, u39, u40, u41, u42, u43, u44, u45, u46, u47, u48, u49, u50, u51, u52, u53, u54, u55, u56, u57, u58, u59, u60, u61, u62, u63, u64, u65, u66, u67, u68, u69, u70, u71, u72, u73, u74, u75, u76, u77, u78, u79, u80, u81, u82, u83, u84, u85, u86, u87, u88, u89, u90, u91, u92, u93, u94, u95, u96, u97, u98, u99, u100, u101, u102, u103, u104, u105, u106, u107, u108, u109, u110, u111, u112, u113, u114, u115, u116, u117, u118, u119, u120, u121, u122, u123, u124, u125, u126, u127, u128, u129, u130, u131, u132, u133, u134, u135, v136, v137, v138, v139, v140, v141, v142, v143, v144, v145, v146, v147, v148, v149, v150, v151, v152, v153, v154, v155, v156, v157, v158, v159, v160, v161, v162, v163, v164, v165, v166, v167, v168, v169, v170, v171, v172, v173, v174, v175, v176, v177, v178, v179, v180, v181, v182, v183, v184, v185, v186, v187, v188, v189, v190, v191, v192, v193, v194, v195, v196, v197, v198, v199, v200, v201, v202, v203, v204, v205, v206, u207, u208, u209, u210, u211, u212, u213, u214, u215, u216, u217, u218, u219, u220, u221, u222, u223, u224, u225, u226, u227, u228, u229, u230, u231, u232, u233, u234, u235, u236, u237, u238, u239, u240, u241, u242, u243, u244, u245, u246, u247, u248, u249, u250, u251, u252, u253, u254, u255, u256, u257, u258, u259, u260, u261, u262, u263, u264, u265, u266, u267, u268, u269, u270, u271, u272, u273, u274, u275, u276, u277, u278, u279, u280, u281, u282, u283, u284, u285, u286, u287, u288, u289, u290, u291, u292, u293, u294, u295, u296, u297, u298, u299, u300, u301, u302, u303, u304, u305, u306, u307, u308, u309, u310, u311, u312, u313, u314, u315, u316, u317, u318, u319, u320, u321, u322, u323, u324, u325, u326, u327, u328, u329, u330, u331, u332, u333, u334, u335, u336, u337, u338, u339, u340, u341, u342, u343, u344, u345, u346, u347, u348, u349, u350, u351, u352, u353, u354, u355, u356, u357, u358, u359, u360, u361, u362, u363, u364, u365, u366, u367, u368, u369, u370, u371, u372, u373, u374, u375, u376, u377, u378, u379, u380, u381, u382, u383, u384, u385, u386, u387, u388, u389, u390, u391, u392, u393, u394, u395, u396, u397, u398, u399, u400, u401, u402, u403, u404, u405, u406, u407, u408, u409, u410, u411, u412, u413, u414, u415, u416, u417, u418, u419, u420, u421, u422, u423, u424, u425, u426, u427, u428, u429, u430, u431, u432, u433, u434, u435, u436, u437, u438, u439, u440, u441, u442, u443, u444, u445, u446, u447, u448, u449, u450, u451, u452, u453, u454, u455, u456, u457, u458, u459, u460, u461, u462, u463, u464, u465, u466, u467, u468, u469, u470, u471, u472, u473, u474, u475, u476, u477, u478, u479, u480, u481, u482, u483, u484, u485, u486, u487, u488, u489, u490, u491, u492, u493, u494, u495, u496, u497, u498, u499, u500, u501, u502, u503, u504, u505, u506, u507, u508, u509, u510, u511, u512, u513, u514, u515, u516, u517, u518, u519, u520, u521, u522, u523, u524, u525, u526, u527, u528, u529, u530, u531, u532, u533, u534, u535, u536, u537, u538, u539, u540, u541, u542, u543, u544, u545, u546, u547, u548, u549, u550, u551, u552, u553, u554, u555, u556, u557, u558, u559, u560, u561, u562, u563, u564, u565, u566, u567, u568, u569, u570, u571, u572, u573, u574, u575, u576, u577, u578, u579, u580, u581, u582, u583, u584, u585, u586, u587, u588, u589, u590, u591, u592, u593, u594, u595, u596, u597, u598, u599, u600, u601, u602, u603, u604, u605, u606, u607, u608, u609, u610, u611, u612, u613, u614, u615, u616, u617, u618, u619, u620, u621, u622, u623, u624, u625, u626, u627, u628, u629, u630, u631], []⟩ wc) :
    Code.wp Tryz.prog (partOf Tryz.f3 [true, true, true, true, true, true, true, true, true, true, true, true, false, true, true, true, true, false]) (Exit.then K Q)
      ⟨#[u0, u1, u2, u3, u4, .pointer (some ⟨g5, 0, none⟩), u6, u7, u8, u9, u10, u11, u12, .slice Ap PL.length cp, u14, .slice Aw ws.length cw, u16, .int .i64 (((plcA f ws i).length : Nat) : Int), .int .i64 (endW f ws i 0), .int .i64 (i : Nat), u20, u21, u22, u23, u24, u25, u26, u27, u28, u29, u30, u31, u32, u33, u34, u35, u36, u37, u38, u39, u40, u41, u42, u43, u44, u45, u46, u47, u48, u49, u50, u51, u52, u53, u54, u55, u56, u57, u58, u59, u60, u61, u62, u63, u64, u65, u66, u67, u68, u69, u70, u71, u72, u73, u74, u75, u76, u77, u78, u79, u80, u81, u82, u83, u84, u85, u86, u87, u88, u89, u90, u91, u92, u93, u94, u95, u96, u97, u98, u99, u100, u101, u102, u103, u104, u105, u106, u107, u108, u109, u110, u111, u112, u113, u114, u115, u116, u117, u118, u119, u120, u121, u122, u123, u124, u125, u126, u127, u128, u129, u130, u131, u132, u133, u134, u135, u136, u137, u138, u139, u140, u141, u142, u143, u144, u145, u146, u147, u148, u149, u150, u151, u152, u153, u154, u155, u156, u157, u158, u159, u160, u161, u162, u163, u164, u165, u166, u167, u168, u169, u170, u171, u172, u173, u174, u175, u176, u177, u178, u179, u180, u181, u182, u183, u184, u185, u186, u187, u188, u189, u190, u191, u192, u193, u194, u195, u196, u197, u198, u199, u200, u201, u202, u203, u204, u205, u206, u207, u208, u209, u210, u211, u212, u213, u214, u215, u216, u217, u218, u219, u220, u221, u222, u223, u224, u225, u226, u227, u228, u229, u230, u231, u232, u233, u234, u235, u236, u237, u238, u239, u240, u241, u242, u243, u244, u245, u246, u247, u248, u249, u250, u251, u252, u253, u254, u255, u256, u257, u258, u259, u260, u261, u262, u263, u264, u265, u266, u267, u268, u269, u270, u271, u272, u273, u274, u275, u276, u277, u278, u279, u280, u281, u282, u283, u284, u285, u286, u287, u288, u289, u290, u291, u292, u293, u294, u295, u296, u297, u298, u299, u300, u301, u302, u303, u304, u305, u306, u307, u308, u309, u310, u311, u312, u313, u314, u315, u316, u317, u318, u319, u320, u321, u322, u323, u324, u325, u326, u327, u328, u329, u330, u331, u332, u333, u334, u335, u336, u337, u338, u339, u340, u341, u342, u343, u344, u345, u346, u347, u348, u349, u350, u351, u352, u353, u354, u355, u356, u357, u358, u359, u360, u361, u362, u363, u364, u365, u366, u367, u368, u369, u370, u371, u372, u373, u374, u375, u376, u377, u378, u379, u380, u381, u382, u383, u384, u385, u386, u387, u388, u389, u390, u391, u392, u393, u394, u395, u396, u397, u398, u399, u400, u401, u402, u403, u404, u405, u406, u407, u408, u409, u410, u411, u412, u413, u414, u415, u416, u417, u418, u419, u420, u421, u422, u423, u424, u425, u426, u427, u428, u429, u430, u431, u432, u433, u434, u435, u436, u437, u438, u439, u440, u441, u442, u443, u444, u445, u446, u447, u448, u449, u450, u451, u452, u453, u454, u455, u456, u457, u458, u459, u460, u461, u462, u463, u464, u465, u466, u467, u468, u469, u470, u471, u472, u473, u474, u475, u476, u477, u478, u479, u480, u481, u482, u483, u484, u485, u486, u487, u488, u489, u490, u491, u492, u493, u494, u495, u496, u497, u498, u499, u500, u501, u502, u503, u504, u505, u506, u507, u508, u509, u510, u511, u512, u513, u514, u515, u516, u517, u518, u519, u520, u521, u522, u523, u524, u525, u526, u527, u528, u529, u530, u531, u532, u533, u534, u535, u536, u537, u538, u539, u540, u541, u542, u543, u544, u545, u546, u547, u548, u549, u550, u551, u552, u553, u554, u555, u556, u557, u558, u559, u560, u561, u562, u563, u564, u565, u566, u567, u568, u569, u570, u571, u572, u573, u574, u575, u576, u577, u578, u579, u580, u581, u582, u583, u584, u585, u586, u587, u588, u589, u590, u591, u592, u593, u594, u595, u596, u597, u598, u599, u600, u601, u602, u603, u604, u605, u606, u607, u608, u609, u610, u611, u612, u613, u614, u615, u616, u617, u618, u619, u620, u621, u622, u623, u624, u625, u626, u627, u628, u629, u630, u631], []⟩ wr := by
  conv => arg 2; whnf
  have HKK := Lib.hid hK
  clear hK
  have hwd := HO.out.word hi
  have h60 := hwd.2.2
  have hlp := hwd.2.1
  have HWD := Lib.hid hwd.1
  have HPE := Lib.hid HO.out.pe
  clear hwd
  repeat ((with_reducible fail_if_success (show Code.wp _ (Code.loop _) _ _ _)); first | go_values | go_skip | go_guarded | go_step | go_upon)
  go_loopw [17, 18, 20] (fun a e z wx => ∃ k : Nat, k ≤ (rdW ws i).length ∧ z = .int .i64 k ∧ a = .int .i64 (((plcA f ws i).length + k : Nat) : Int) ∧ e = .int .i64 (endW f ws i k) ∧ Below wr.heap.size wr wx) (fun _ _ z _ => (rdW ws i).length - (intOf z).toNat)
  case atStart => exact ⟨0, by omega, rfl, rfl, rfl, Below.refl _ _⟩
  case round =>
    obtain ⟨k, hk, rfl, rfl, rfl, hbx⟩ := hrel
    have HBI := Lib.hid hbx
    replace HF := Lib.hid (HF.out.next hbx)
    replace K5 := Lib.hid (K5.out.next hbx)
    replace HW := Lib.hid (HW.out.next hbx)
    replace HP := Lib.hid (HP.out.next hbx)
    replace HB := Lib.hid (below_step HB.out hbx)
    clear hbx
    obtain ⟨aw, hAw, rq⟩ := HW.out.some i hi
    have cword := rq.atW i hi
    have HRW := Lib.hid rq
    clear rq
    have hpn := plcA_next f ws i
    by_cases hlt : k < (rdW ws i).length
    · skip
      have haa : (plcA f ws i).length + k < PL.length := by rw [HPE.out]; exact plcA_lt f ws hi hlt
      have HNX := Lib.hid (endW_next f ws hi hlt HWD.out)
      rw [← HPE.out] at HNX
      have hpl60 := HO.out.pl60
      obtain ⟨aa, hae⟩ : ∃ aa, aa = (plcA f ws i).length + k := ⟨_, rfl⟩
      rw [← hae] at haa HNX ⊢
      have HAE := Lib.hid hae
      have hal : ¬ (PL.length : Int) ≤ (aa : Int) := by omega
      clear hpn
      subst hAw
      by_cases hk0 : k = 0
      · subst hk0
        have HFI := Lib.hid (plcA_first f ws hi hlt)
        rw [← HPE.out, ← HAE.out] at HFI
        by_cases hi0 : i = 0
        · have hib : ¬ (0 : Int) < (i : Int) := by omega
          have HI0 := Lib.hid hi0
          clear hi0
          repeat ((with_reducible fail_if_success (show Code.wp _ (Code.seq (Code.seq (Code.region 30 _ _) _) _) _ _ _)); first | go_values | go_skip | go_guarded | go_step | go_upon)
          have HRM := Lib.hid (show rdI PL aa = endW f ws i 0 + (0) from by rw [HFI.out, if_pos HI0.out])
          clear cword hae
          have hpr := HO.out.plr haa
          obtain ⟨ap, hAp, rp⟩ := HP.out.some aa haa
          have cpl := rp.atI64 aa haa
          subst hAp
          clear rp
          have e9 : IntKind.i64.wrap (endW f ws i 0 + (0)) = rdI PL aa := by rw [← HRM.out]; exact IntWalk.i64_in _ (by omega)
          have hne : (rdI PL aa != rdI PL aa) = false := by simp
          have e8 : endW f ws i 0 = rdI PL aa := by have := HRM.out; omega
          repeat ((with_reducible fail_if_success (show Code.wp _ (Code.region 32 _ _) _ _ _)); first | go_values | go_skip | go_guarded | go_step | go_upon)
          clear cpl e9 hne e8
          skip
          refine sT w _ f S HV l HT HMX HSP g5 ws PL due HO (some aw) cw hcw (some ap) cp i 0 hi hlt aa haa (endW f ws i (0 + 1)) HNX HF K5 HW HP HB _ _ _ _ _ _ _ _ _ _ _ _ _ _ _ _ _ _ _ _ _ _ _ _ _ _ _ _ _ _ _ _ _ _ _ _ _ _ _ _ _ _ _ _ _ _ _ _ _ _ _ _ _ _ _ _ _ _ _ _ _ _ _ _ _ _ _ _ _ _ _ _ _ _ _ _ _ _ _ _ _ _ _ _ _ _ _ _ _ _ _ _ _ _ _ _ _ _ _ _ _ _ _ _ _ _ _ _ _ _ _ _ _ _ _ _ _ _ _ _ _ _ _ _ _ _ _ _ _ _ _ _ _ _ _ _ _ _ _ _ _ _ _ _ _ _ _ _ _ _ _ _ _ _ _ _ _ _ _ _ _ _ _ _ _ _ _ _ _ _ _ _ _ _ _ _ _ _ _ _ _ _ _ _ _ _ _ _ _ _ _ _ _ _ _ _ _ _ _ _ _ _ _ _ _ _ _ _ _ _ _ _ _ _ _ _ _ _ _ _ _ _ _ _ _ _ _ _ _ _ _ _ _ _ _ _ _ _ _ _ _ _ _ _ _ _ _ _ _ _ _ _ _ _ _ _ _ _ _ _ _ _ _ _ _ _ _ _ _ _ _ _ _ _ _ _ _ _ _ _ _ _ _ _ _ _ _ _ _ _ _ _ _ _ _ _ _ _ _ _ _ _ _ _ _ _ _ _ _ _ _ _ _ _ _ _ _ _ _ _ _ _ _ _ _ _ _ _ _ _ _ _ _ _ _ _ _ _ _ _ _ _ _ _ _ _ _ _ _ _ _ _ _ _ _ _ _ _ _ _ _ _ _ _ _ _ _ _ _ _ _ _ _ _ _ _ _ _ _ _ _ _ _ _ _ _ _ _ _ _ _ _ _ _ _ _ _ _ _ _ _ _ _ _ _ _ _ _ _ _ _ _ _ _ _ _ _ _ _ _ _ _ _ _ _ _ _ _ _ _ _ _ _ _ _ _ _ _ _ _ _ _ _ _ _ _ _ _ _ _ _ _ _ _ _ _ _ _ _ _ _ _ _ _ _ _ _ _ _ _ _ _ _ _ _ _ _ _ _ _ _ _ _ _ _ _ _ _ _ _ _ _ _ _ _ _ _ _ _ _ _ _ _ _ _ _ _ _ _ _ _ _ _ _ _ _ _ _ _ _ _ _ _ _ _ _ _ _ _ _ _ _ _ _ _ _ _ _ _ _ _ _ _ _ _ _ _ _ _ _ _ _ _ _ _ _ _ _ _ _ _ _ _ _ _ _ _ _ _ _ _ _ _ _ _ _ _ _ _ _ _ _ _ _ _ _ _ _ _ _ _ _ _ _ _ _ _ _ _ _ _ _ _ _ _ _ _ _ _ _ _ _ _ _ _ _ _ _ _ _ _ _ _ _ _ _ _ _ ?_
          intro w1c hcut
          intros
          have hb := hcut
          clear hcut
          replace HF := Lib.hid (HF.out.next hb)
          replace K5 := Lib.hid (K5.out.next hb)
          replace HW := Lib.hid (HW.out.next hb)
          replace HP := Lib.hid (HP.out.next hb)
          replace HB := Lib.hid (below_step HB.out hb)
          replace HBI := Lib.hid (below_step HBI.out hb)
          clear hb
          clear hpr
          repeat (first | go_values | go_skip | go_guarded | go_step | go_upon)
          go_roundw
          case rel => exact ⟨0 + 1, hlt, by go_num, by rw [HAE.out]; first | rfl | (show Value.int _ _ = Value.int _ _; congr 1; push_cast; omega), rfl, HBI.out⟩
          case measure => simp [intOf]; omega
        · have hib : (0 : Int) < (i : Int) := by omega
          have c26 := K5.out.cell 26 _ (fcV_space HF.out.1 S)
          have bsp := HO.out.vF.space
          have e1 : IntKind.i64.wrap f.space = f.space := IntWalk.i64_in _ (by omega)
          repeat ((with_reducible fail_if_success (show Code.wp _ (Code.seq (Code.seq (Code.region 30 _ _) _) _) _ _ _)); first | go_values | go_skip | go_guarded | go_step | go_upon)
          clear c26
          have HRM := Lib.hid (show rdI PL aa = endW f ws i 0 + (f.space) from by rw [HFI.out, if_neg hi0])
          clear cword hae
          have hpr := HO.out.plr haa
          obtain ⟨ap, hAp, rp⟩ := HP.out.some aa haa
          have cpl := rp.atI64 aa haa
          subst hAp
          clear rp
          have e9 : IntKind.i64.wrap (endW f ws i 0 + (f.space)) = rdI PL aa := by rw [← HRM.out]; exact IntWalk.i64_in _ (by omega)
          have hne : (rdI PL aa != rdI PL aa) = false := by simp
          repeat ((with_reducible fail_if_success (show Code.wp _ (Code.region 32 _ _) _ _ _)); first | go_values | go_skip | go_guarded | go_step | go_upon)
          clear cpl e9 hne
          skip
          refine sT w _ f S HV l HT HMX HSP g5 ws PL due HO (some aw) cw hcw (some ap) cp i 0 hi hlt aa haa (endW f ws i (0 + 1)) HNX HF K5 HW HP HB _ _ _ _ _ _ _ _ _ _ _ _ _ _ _ _ _ _ _ _ _ _ _ _ _ _ _ _ _ _ _ _ _ _ _ _ _ _ _ _ _ _ _ _ _ _ _ _ _ _ _ _ _ _ _ _ _ _ _ _ _ _ _ _ _ _ _ _ _ _ _ _ _ _ _ _ _ _ _ _ _ _ _ _ _ _ _ _ _ _ _ _ _ _ _ _ _ _ _ _ _ _ _ _ _ _ _ _ _ _ _ _ _ _ _ _ _ _ _ _ _ _ _ _ _ _ _ _ _ _ _ _ _ _ _ _ _ _ _ _ _ _ _ _ _ _ _ _ _ _ _ _ _ _ _ _ _ _ _ _ _ _ _ _ _ _ _ _ _ _ _ _ _ _ _ _ _ _ _ _ _ _ _ _ _ _ _ _ _ _ _ _ _ _ _ _ _ _ _ _ _ _ _ _ _ _ _ _ _ _ _ _ _ _ _ _ _ _ _ _ _ _ _ _ _ _ _ _ _ _ _ _ _ _ _ _ _ _ _ _ _ _ _ _ _ _ _ _ _ _ _ _ _ _ _ _ _ _ _ _ _ _ _ _ _ _ _ _ _ _ _ _ _ _ _ _ _ _ _ _ _ _ _ _ _ _ _ _ _ _ _ _ _ _ _ _ _ _ _ _ _ _ _ _ _ _ _ _ _ _ _ _ _ _ _ _ _ _ _ _ _ _ _ _ _ _ _ _ _ _ _ _ _ _ _ _ _ _ _ _ _ _ _ _ _ _ _ _ _ _ _ _ _ _ _ _ _ _ _ _ _ _ _ _ _ _ _ _ _ _ _ _ _ _ _ _ _ _ _ _ _ _ _ _ _ _ _ _ _ _ _ _ _ _ _ _ _ _ _ _ _ _ _ _ _ _ _ _ _ _ _ _ _ _ _ _ _ _ _ _ _ _ _ _ _ _ _ _ _ _ _ _ _ _ _ _ _ _ _ _ _ _ _ _ _ _ _ _ _ _ _ _ _ _ _ _ _ _ _ _ _ _ _ _ _ _ _ _ _ _ _ _ _ _ _ _ _ _ _ _ _ _ _ _ _ _ _ _ _ _ _ _ _ _ _ _ _ _ _ _ _ _ _ _ _ _ _ _ _ _ _ _ _ _ _ _ _ _ _ _ _ _ _ _ _ _ _ _ _ _ _ _ _ _ _ _ _ _ _ _ _ _ _ _ _ _ _ _ _ _ _ _ _ _ _ _ _ _ _ _ _ _ _ _ _ _ _ _ _ _ _ _ _ _ _ _ _ _ _ _ _ _ _ _ _ _ _ _ _ _ _ _ _ _ _ _ _ _ _ _ _ _ _ _ _ _ _ _ _ _ _ _ _ _ _ _ _ _ _ _ _ _ _ _ _ _ _ _ ?_
          intro w2c hcut
          intros
          have hb := hcut
          clear hcut
          replace HF := Lib.hid (HF.out.next hb)
          replace K5 := Lib.hid (K5.out.next hb)
          replace HW := Lib.hid (HW.out.next hb)
          replace HP := Lib.hid (HP.out.next hb)
          replace HB := Lib.hid (below_step HB.out hb)
          replace HBI := Lib.hid (below_step HBI.out hb)
          clear hb
          clear hpr
          repeat (first | go_values | go_skip | go_guarded | go_step | go_upon)
          go_roundw
          case rel => exact ⟨0 + 1, hlt, by go_num, by rw [HAE.out]; first | rfl | (show Value.int _ _ = Value.int _ _; congr 1; push_cast; omega), rfl, HBI.out⟩
          case measure => simp [intOf]; omega
      · have hk1 : (0 : Int) < (k : Int) := by omega
        have HLA := Lib.hid (plcA_later f ws hi hlt (by omega) HWD.out)
        rw [← HPE.out, ← HAE.out] at HLA
        have HX := Lib.hid (HWD.out (k - 1) (by omega))
        have HY := Lib.hid (HWD.out k hlt)
        have bby := HO.out.vF.by (byt (rdW ws i) (k - 1)) (byt (rdW ws i) k)
        have bgp := HO.out.vF.gap
        obtain ⟨by_, hby⟩ : ∃ by_, by_ = byP f.pairs (byt (rdW ws i) (k - 1)) (byt (rdW ws i) k) := ⟨_, rfl⟩
        rw [← hby] at HLA bby
        have HBY := Lib.hid hby
        clear hby
        have e1 : IntKind.i64.wrap ((k : Int) - 1) = ((k - 1 : Nat) : Int) := by rw [IntWalk.i64_in _ (by omega)]; omega
        have e2 : IntKind.i64.wrap f.gap = f.gap := IntWalk.i64_in _ (by omega)
        have e3 : IntKind.i64.wrap (f.gap + by_) = f.gap + by_ := IntWalk.i64_in _ (by omega)
        have hks : k < (⟨(rdW ws i).toArray⟩ : ByteArray).size := by simp [ByteArray.size]; omega
        have hks1 : k - 1 < (⟨(rdW ws i).toArray⟩ : ByteArray).size := by simp [ByteArray.size]; omega
        have HPB := Lib.hid (fun (w' : World) (h : HasF w' f S) => (show Calls Tryz.prog 13 #[.agg (fcV f S).toArray, .int .u8 (byt (rdW ws i) (k - 1)), .int .u8 (byt (rdW ws i) k)] w' (fun e w1 => e = .returned (.tuple #[.int .i64 by_, .int .i64 0]) ∧ Below w'.heap.size w' w1) by rw [HBY.out]; exact pairBy_impl f S _ _ w' h HV.out HX.out HY.out))
        repeat ((with_reducible fail_if_success (show Code.wp _ (Code.region 24 _ _) _ _ _)); first | go_values | go_skip | go_guarded | go_step | go_upon)
        clear cword hal hk1
        refine region_below (wr.heap.size) (by kernel_rfl) (by kernel_rfl) ?_
        refine below_run (by kernel_rfl) (.agg (fcV f S).toArray) (fun w' hw' => exec_load_row 28 (.tmp 5) rfl (g5) (by kernel_rfl) 28 (fcV f S).toArray _ _ (K5.out.next hw') Tryz.underlying28 rfl (by rw [List.size_toArray, fcV_length HF.out.1 S]; exact szFcI)) ?_
        refine below_run (by kernel_rfl) (.slice (some aw) ws.length cw) (fun w' hw' => by kernel_rfl) ?_
        refine below_run (by kernel_rfl) (.int .i64 (i : Nat)) (fun w' hw' => by kernel_rfl) ?_
        refine below_run (by kernel_rfl) (.pointer (some (Addr.add aw (i * 1)))) (fun w' hw' => exec_index 36 (.tmp 153) (.tmp 154) rfl aw ws.length cw (by kernel_rfl) .i64 i (by kernel_rfl) hi 9 Tryz.underlying36 1 szStr) ?_
        refine below_run (by kernel_rfl) (.string ⟨(rdW ws i).toArray⟩) (fun w' hw' => exec_load1 9 (.tmp 155) rfl (aw.add (i * 1)) (by kernel_rfl) (.string ⟨(rdW ws i).toArray⟩) (by rw [Nat.mul_one]; exact (HRW.out.next hw').atW i hi) _ Tryz.underlying9 rfl) ?_
        refine below_run (by kernel_rfl) (.int .i64 (k : Nat)) (fun w' hw' => by kernel_rfl) ?_
        refine below_run (by kernel_rfl) (.int .i64 ((k - 1 : Nat) : Int)) (fun w' hw' => Eq.trans (show (execOp _ _).run _ w' = .ok (.value (.int .i64 (IntKind.i64.wrap ((k : Int) - 1)))) w' by kernel_rfl) (by rw [e1])) ?_
        refine below_run (by kernel_rfl) (.int .u8 (byt (rdW ws i) (k - 1))) (fun w' hw' => exec_byte (.tmp 156) (.tmp 158) rfl ⟨(rdW ws i).toArray⟩ (by kernel_rfl) (k - 1) (by kernel_rfl) hks1) ?_
        refine below_run (by kernel_rfl) (.slice (some aw) ws.length cw) (fun w' hw' => by kernel_rfl) ?_
        refine below_run (by kernel_rfl) (.int .i64 (i : Nat)) (fun w' hw' => by kernel_rfl) ?_
        refine below_run (by kernel_rfl) (.pointer (some (Addr.add aw (i * 1)))) (fun w' hw' => exec_index 36 (.tmp 160) (.tmp 161) rfl aw ws.length cw (by kernel_rfl) .i64 i (by kernel_rfl) hi 9 Tryz.underlying36 1 szStr) ?_
        refine below_run (by kernel_rfl) (.string ⟨(rdW ws i).toArray⟩) (fun w' hw' => exec_load1 9 (.tmp 162) rfl (aw.add (i * 1)) (by kernel_rfl) (.string ⟨(rdW ws i).toArray⟩) (by rw [Nat.mul_one]; exact (HRW.out.next hw').atW i hi) _ Tryz.underlying9 rfl) ?_
        refine below_run (by kernel_rfl) (.int .i64 (k : Nat)) (fun w' hw' => by kernel_rfl) ?_
        refine below_run (by kernel_rfl) (.int .u8 (byt (rdW ws i) k)) (fun w' hw' => exec_byte (.tmp 163) (.tmp 164) rfl ⟨(rdW ws i).toArray⟩ (by kernel_rfl) k (by kernel_rfl) hks) ?_
        refine below_call (by kernel_rfl) 13 #[.agg (fcV f S).toArray, .int .u8 (byt (rdW ws i) (k - 1)), .int .u8 (byt (rdW ws i) k)] (.tuple #[.int .i64 by_, .int .i64 0]) (fun w' => by kernel_rfl) (fun w' hw' => (HPB.out w' (HF.out.next hw')).mono fun e w1 ⟨he, hb1⟩ => ⟨he, below_step hw' hb1⟩) ?_
        refine below_run (by kernel_rfl) (.tuple #[.int .i64 by_, .int .i64 0]) (fun w' hw' => by kernel_rfl) ?_
        refine below_run (by kernel_rfl) (.int .i64 by_) (fun w' hw' => by kernel_rfl) ?_
        refine below_run (by kernel_rfl) (.int .i64 0) (fun w' hw' => by kernel_rfl) ?_
        refine below_run (by kernel_rfl) (.int .i64 by_) (fun w' hw' => by kernel_rfl) ?_
        refine below_run (by kernel_rfl) (.int .i64 0) (fun w' hw' => by kernel_rfl) ?_
        refine wpQuiet_nil ?_
        intro W1 hW1
        simp only [Act.put, List.setIfInBounds_toArray, List.set_cons_succ, List.set_cons_zero]
        clear e1 HPB
        replace HF := Lib.hid (HF.out.next hW1)
        replace K5 := Lib.hid (K5.out.next hW1)
        replace HW := Lib.hid (HW.out.next hW1)
        replace HP := Lib.hid (HP.out.next hW1)
        replace HB := Lib.hid (below_step HB.out hW1)
        replace HBI := Lib.hid (below_step HBI.out hW1)
        clear hW1
        have c27 := K5.out.cell 27 _ (fcV_gap HF.out.1 S)
        repeat ((with_reducible fail_if_success (show Code.wp _ (Code.seq (Code.seq (Code.region 30 _ _) _) _) _ _ _)); first | go_values | go_skip | go_guarded | go_step | go_upon)
        clear c27 e2 e3
        have cword := 0
        have HRM := Lib.hid (show rdI PL aa = endW f ws i k + (f.gap + by_) from HLA.out)
        clear cword hae
        have hpr := HO.out.plr haa
        obtain ⟨ap, hAp, rp⟩ := HP.out.some aa haa
        have cpl := rp.atI64 aa haa
        subst hAp
        clear rp
        have e9 : IntKind.i64.wrap (endW f ws i k + (f.gap + by_)) = rdI PL aa := by rw [← HRM.out]; exact IntWalk.i64_in _ (by omega)
        have hne : (rdI PL aa != rdI PL aa) = false := by simp
        repeat ((with_reducible fail_if_success (show Code.wp _ (Code.region 32 _ _) _ _ _)); first | go_values | go_skip | go_guarded | go_step | go_upon)
        clear cpl e9 hne
        skip
        refine sT w _ f S HV l HT HMX HSP g5 ws PL due HO (some aw) cw hcw (some ap) cp i k hi hlt aa haa (endW f ws i (k + 1)) HNX HF K5 HW HP HB _ _ _ _ _ _ _ _ _ _ _ _ _ _ _ _ _ _ _ _ _ _ _ _ _ _ _ _ _ _ _ _ _ _ _ _ _ _ _ _ _ _ _ _ _ _ _ _ _ _ _ _ _ _ _ _ _ _ _ _ _ _ _ _ _ _ _ _ _ _ _ _ _ _ _ _ _ _ _ _ _ _ _ _ _ _ _ _ _ _ _ _ _ _ _ _ _ _ _ _ _ _ _ _ _ _ _ _ _ _ _ _ _ _ _ _ _ _ _ _ _ _ _ _ _ _ _ _ _ _ _ _ _ _ _ _ _ _ _ _ _ _ _ _ _ _ _ _ _ _ _ _ _ _ _ _ _ _ _ _ _ _ _ _ _ _ _ _ _ _ _ _ _ _ _ _ _ _ _ _ _ _ _ _ _ _ _ _ _ _ _ _ _ _ _ _ _ _ _ _ _ _ _ _ _ _ _ _ _ _ _ _ _ _ _ _ _ _ _ _ _ _ _ _ _ _ _ _ _ _ _ _ _ _ _ _ _ _ _ _ _ _ _ _ _ _ _ _ _ _ _ _ _ _ _ _ _ _ _ _ _ _ _ _ _ _ _ _ _ _ _ _ _ _ _ _ _ _ _ _ _ _ _ _ _ _ _ _ _ _ _ _ _ _ _ _ _ _ _ _ _ _ _ _ _ _ _ _ _ _ _ _ _ _ _ _ _ _ _ _ _ _ _ _ _ _ _ _ _ _ _ _ _ _ _ _ _ _ _ _ _ _ _ _ _ _ _ _ _ _ _ _ _ _ _ _ _ _ _ _ _ _ _ _ _ _ _ _ _ _ _ _ _ _ _ _ _ _ _ _ _ _ _ _ _ _ _ _ _ _ _ _ _ _ _ _ _ _ _ _ _ _ _ _ _ _ _ _ _ _ _ _ _ _ _ _ _ _ _ _ _ _ _ _ _ _ _ _ _ _ _ _ _ _ _ _ _ _ _ _ _ _ _ _ _ _ _ _ _ _ _ _ _ _ _ _ _ _ _ _ _ _ _ _ _ _ _ _ _ _ _ _ _ _ _ _ _ _ _ _ _ _ _ _ _ _ _ _ _ _ _ _ _ _ _ _ _ _ _ _ _ _ _ _ _ _ _ _ _ _ _ _ _ _ _ _ _ _ _ _ _ _ _ _ _ _ _ _ _ _ _ _ _ _ _ _ _ _ _ _ _ _ _ _ _ _ _ _ _ _ _ _ _ _ _ _ _ _ _ _ _ _ _ _ _ _ _ _ _ _ _ _ _ _ _ _ _ _ _ _ _ _ _ _ _ _ _ _ _ _ _ _ _ _ _ _ _ _ _ _ _ _ _ _ _ _ _ _ _ _ _ _ _ _ _ _ _ _ _ _ _ _ _ _ _ _ _ _ ?_
        intro w3c hcut
        intros
        have hb := hcut
        clear hcut
        replace HF := Lib.hid (HF.out.next hb)
        replace K5 := Lib.hid (K5.out.next hb)
        replace HW := Lib.hid (HW.out.next hb)
        replace HP := Lib.hid (HP.out.next hb)
        replace HB := Lib.hid (below_step HB.out hb)
        replace HBI := Lib.hid (below_step HBI.out hb)
        clear hb
        clear hpr
        repeat (first | go_values | go_skip | go_guarded | go_step | go_upon)
        go_roundw
        case rel => exact ⟨k + 1, hlt, by go_num, by rw [HAE.out]; first | rfl | (show Value.int _ _ = Value.int _ _; congr 1; push_cast; omega), rfl, HBI.out⟩
        case measure => simp [intOf]; omega
    · obtain rfl : k = (rdW ws i).length := by omega
      rw [← hpn, ← endW_word f ws hlp]
      repeat (first | go_values | go_skip | go_guarded | go_step | go_upon)
      exact HKK.out _ (HBI.out) _ _ _ _ _ _ _ _ _ _ _ _ _ _ _ _ _ _ _ _ _ _ _ _ _ _ _ _ _ _ _ _ _ _ _ _ _ _ _ _ _ _ _ _ _ _ _ _ _ _ _ _ _ _ _ _ _ _ _ _ _ _ _ _ _ _ _ _ _ _ _ _ _ _ _ _
end Go.Proofs.YtahggbaandcddaaGreatDoor.lawWidths
