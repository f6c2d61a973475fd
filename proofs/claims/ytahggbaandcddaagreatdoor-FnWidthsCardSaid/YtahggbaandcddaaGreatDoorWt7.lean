/- The law of widths: a piece of its walk. -/
import Derived.Test.YtahggbaandcddaaGreatDoorWtL
import Derived.Test.YtahggbaandcddaaGreatDoorWnC
import Derived.Deep.CutRange
import Derived.BigRegion
import Derived.Test.YtahggbaandcddaaGreatDoorWt8

namespace Go.Proofs.YtahggbaandcddaaGreatDoor.lawWidths
open Go Go.RowKit Go.Proofs.YtahggbaandcddaaGreatDoor
set_option linter.unusedVariables false
set_option linter.unusedSimpArgs false

attribute [local irreducible] wpQuiet in
set_option maxHeartbeats 4000000 in
set_option maxRecDepth 100000 in
theorem s69 (w wr : World) (f : Fc) (S : Value) (HV : Hid (validF f = true)) (l : List UInt8) (HT : Hid (vText l = true)) (HMX : Hid (MaxW w)) (HSP : Hid (SpT w)) (g5 : Nat) (ws : List (List UInt8)) (PL : List Int) (due : Int) (HO : Hid (WtO f l ws PL due)) (Aw : Option Addr) (cw : Nat) (hcw : ws.length ≤ cw) (Ap : Option Addr) (cp : Nat) (m : Int) (hm0 : 0 ≤ m ∧ m ≤ 4000) (k : Nat) (HFI : Hid (FitAt f ws m k)) (N : Nat) (HN : Hid (ws.length = N + 1)) (hN0 : 0 < N) (left : Int) (HLF : Hid (due + left = m)) (hl0 : 0 ≤ left) (jl : List Int) (HJL : Hid (jl = jusW f.space left N N)) (J2 : Option Addr) (d2 : Nat) (j : Nat) (hj : j < N) (sm s2 : Int) (HS2 : Hid (s2 = sm + (rdI jl j - f.space))) (hsm : 0 ≤ sm ∧ sm ≤ 1000000) (HLN : Hid (jl.length = N)) (HF : Hid (HasF wr f S)) (K5 : Hid (Blk wr g5 28 (fcV f S))) (HJ2 : Hid (SlE i64 wr J2 jl)) (HB : Hid (Below w.heap.size w wr)) (K : Act → World → Prop) (Q : Exit → Act → World → Prop)
    (u0 u1 u2 u3 u4 u6 u7 u8 u9 u10 u11 u12 u13 u14 u15 u16 u17 u18 u19 u20 u21 u22 u23 u24 u25 u26 u27 u28 u29 u30 u31 u32 u33 u34 u35 u36 u37 u38 u39 u40 u41 u42 u43 u44 u45 u46 u48 u49 u50 u51 u52 u55 u56 u57 u58 u59 u60 u61 u62 u63 u64 u65 u66 u67 u68 u69 u70 u71 u72 u73 u74 u75 u76 u77 u78 u79 u80 u81 u82 u83 u84 u85 u86 u87 u88 u89 u90 u91 u92 u93 u94 u95 u96 u97 u98 u99 u100 u101 u102 u103 u104 u105 u106 u107 u108 u109 u110 u111 u112 u113 u114 u115 u116 u117 u118 u119 u120 u121 u122 u123 u124 u125 u126 u127 u128 u129 u130 u131 u132 u133 u134 u135 u136 u137 u138 u139 u140 u141 u142 u143 u144 u145 u146 u147 u148 u149 u150 u151 u152 u153 u154 u155 u156 u157 u158 u159 u160 u161 u162 u163 u164 u165 u166 u167 u168 u169 u170 u171 u172 u173 u174 u175 u176 u177 u178 u179 u180 u181 u182 u183 u184 u185 u186 u187 u188 u189 u190 u191 u192 u193 u194 u195 u196 u197 u198 u199 u200 u201 u202 u203 u204 u205 u206 u207 u208 u209 u210 u211 u212 u213 u214 u215 u216 u217 u218 u219 u220 u221 u222 u223 u224 u225 u226 u227 u228 u229 u230 u231 u232 u233 u234 u235 u236 u237 u238 u239 u240 u241 u242 u243 u244 u245 u246 u247 u248 u249 u250 u251 u252 u253 u254 u255 u256 u257 u258 u259 u260 u261 u262 u263 u264 u265 u266 u267 u268 u269 u270 u271 u272 u273 u274 u275 u276 u277 u278 u279 u280 u281 u282 u283 u284 u285 u286 u287 u288 u289 u290 u291 u292 u293 u294 u295 u296 u297 u298 u299 u300 u301 u302 u303 u304 u305 u306 u307 u308 u309 u310 u311 u312 u313 u314 u315 u316 u317 u318 u319 u320 u321 u322 u323 u324 u325 u326 u327 u328 u329 u330 u331 u332 u333 u334 u335 u336 u337 u338 u339 u340 u341 u342 u343 u344 u345 u346 u347 u348 u349 u350 u351 u352 u353 u354 u355 u356 u357 u358 u359 u360 u361 u362 u363 u364 u365 u366 u367 u368 u369 u370 u371 u372 u373 u374 u375 u376 u377 u378 u379 u380 u381 u382 u383 u384 u385 u386 u387 u388 u389 u390 u391 u392 u393 u394 u395 u396 u397 u398 u399 u400 u401 u402 u403 u404 u405 u406 u407 u408 u409 u410 u411 u412 u413 u414 u415 u416 u417 u418 u419 u420 u421 u422 u423 u424 u425 u426 u427 u428 u429 u430 u431 u432 u433 u434 u435 u436 u437 u438 u439 u440 u441 u442 u443 u444 u445 u446 u447 u448 u449 u450 u451 u452 u453 u454 u455 u456 u457 u458 u459 u460 u461 u462 u463 u464 u465 u466 u467 u468 u469 u470 u471 u472 u473 u474 u475 u476 u477 u478 u479 u480 u481 u482 u483 u484 u485 u486 u487 u488 u489 u490 u491 u492 u493 u494 u495 u496 u497 u498 u499 u500 u501 u502 u503 u504 u505 u506 u507 u508 u509 u510 u511 u512 u513 u514 u515 u516 u517 u518 u519 u520 u521 u522 u523 u524 u525 u526 u527 u528 u529 u530 u531 u532 u533 u534 u535 u536 u537 u538 u539 u540 u541 u542 u543 u544 u545 u546 u547 u548 u549 u550 u551 u552 u553 u554 u555 u556 u557 u558 u559 u560 u561 u562 u563 u564 u565 u566 u567 u568 u569 u570 u571 u572 u573 u574 u575 u576 u577 u578 u579 u580 u581 u582 u583 u584 u585 u586 u587 u588 u589 u590 u591 u592 u593 u594 u595 u596 u597 u598 u599 u600 u601 u602 u603 u604 u605 u606 u607 u608 u609 u610 u611 u612 u613 u614 u615 u616 u617 u618 u619 u620 u621 u622 u623 u624 u625 u626 u627 u628 u629 u630 u631 : Value) (hK : ∀ (wc : World), Below wr.heap.size wr wc → ∀ (v4 v523 v524 v525 v526 v527 v528 v529 v530 v531 v532 v533 v534 v535 v536 v537 v538 v539 v540 v541 v542 v543 v544 v545 v546 v547 v548 v549 v550 v551 v552 v553 v554 v555 v556 v557 v558 v559 v560 v561 v562 v563 v564 v565 v566 v567 : Value), K ⟨#[u0, u1, u2, u3, v4, .pointer (some ⟨g5, 0, none⟩), u6, u7, u8, u9, u10, u11, u12, u13, u14, u15, u16, u17, u18, u19, u20, u21, u22, u23, u24, u25, u26, u27, u28, u29, u30, u31, u32, u33, u34, u35, u36, u37, u38, u39, u40, u41, u42, u43, u44, u45, u46, .slice J2 jl.length d2, u48, u49, u50, u51, u52, .int .i64 s2, .int .i64 (j : Nat), u55, u56, u57, u58, u59, u60, u61, u62, u63, u64, u65, u66, u67, u68, u69, u70, u71, u72, u73, u74, u75, u76, u77, u78, u79, u80, u81, u82, u83, u84, u85, u86, u87, u88, u89, u90, u91, u92, u93, u94, u95, u96, u97, u98, u99, u100, u101, u102, u103, u104, u105, u106, u107, u108, u109, u110, u111, u112, u113, u114, u115, u116, u117, u118, u119, u120, u121, u122, u123, u124, u125, u126, u127, u128, u129, u130, u131, u132, u133, u134, u135, u136, u137, u138, u139, u140, u141, u142, u143, u144, u145, u146, u147, u148, u149, u150, u151, u152, u153, u154, u155, u156, u157, u158, u159, u160, u161, u162, u163, u164, u165, u166, u167, u168, u169, u170, u171, u172, u173, u174, u175, u176, u177, u178, u179, u180, u181, u182, u183, u184, u185, u186, u187, u188, u189, u190, u191, u192, u193, u194, u195, u196, u197, u198, u199, u200, u201, u202, u203, u204, u205, u206, u207, u208, u209, u210, u211, u212, u213, u214, u215, u216, u217, u218, u219, u220, u221, u222, u223, u224, u225, u226, u227, u228, u229, u230, u231, u232, u233, u234, u235, u236, u237, u238, u239, u240, u241, u242, u243, u244, u245, u246, u247, u248, u249, u250, u251, u252, u253, u254, u255, u256, u257, u258, u259, u260, u261, u262, u263, u264, u265, u266, u267, u268, u269, u270, u271, u272, u273, u274, u275, u276, u277, u278, u279, u280, u281, u282, u283, u284, u285, u286, u287, u288, u289, u290, u291, u292, u293, u294, u295, u296, u297, u298, u299, u300, u301, u302, u303, u304, u305, u306, u307, u308, u309, u310, u311, u312, u313, u314, u315, u316, u317, u318, u319, u320, u321, u322, u323, u324, u325, u326, u327, u328, u329, u330, u331, u332, u333, u334, u335, u336, u337, u338, u339, u340, u341, u342, u343, u344, u345, u346, u347, u348, u349, u350, u351, u352, u353, u354, u355, u356, u357, u358, u359, u360, u361, u362, u363, u364, u365, u366, u367, u368, u369, u370, u371, u372, u373, u374, u375, u376, u377, u378, u379, u380, u381, u382, u383, u384, u385, u386, u387, u388, u389, u390, u391, u392, u393, u394, u395, u396, u397, u398, u399, u400, u401, u402, u403, u404, u405, u406, u407, u408, u409, u410, u411, u412, u413, u414, u415, u416, u417, u418, u419, u420, u421, u422, u423, u424, u425, u426, u427, u428, u429, u430, u431, u432, u433, u434, u435, u436, u437, u438, u439, u440, u441, u442, u443, u444, u445, u446, u447, u448, u449, u450, u451, u452, u453, u454, u455, u456, u457, u458, u459, u460, u461, u462, u463, u464, u465, u466, u467, u468, u469, u470, u471, u472, u473, u474, u475, u476, u477, u478, u479, u480, u481, u482, u483, u484, u485, u486, u487, u488, u489, u490, u491, u492, u493, u494, u495, u496, u497, u498, u499, u500, u501, u502, u503, u504, u505, u506, u507, u508, u509, u510, u511, u512, u513, u514, u515, u516, u517, u518, u519, u520, u521, u522, v523, v524, v525, v526, v527, v528, v529, v530, v531, v532, v533, v534, v535, v536, v537, v538, v539, v540, v541, v542, v543, v544, v545, v546, v547, v548, v549, v550, v551, v552, v553, v554, v555, v556, v557, v558, v559, v560, v561, v562, v563, v564, v565, v566, v567, u568, u569, u570, u571, u572, u573, u574, u575, u576, u577, u578, u579, u580, u581, u582, u583, u584, u585, u586, u587, u588, u589, u590, u591, u592, u593, u594, u595, u596, u597, u598, u599, u600, u601, u602, u603, u604, u605, u606, u607, u608, u609, u610, u611, u612, u613, u614, u615, u616, u617, u618, u619, u620, u621, u622, u623, u624, u625, u626, u627, u628, u629, u630, u631], []⟩ wc) :
    Code.wp Tryz.prog (partOf Tryz.f3 [true, true, true, true, true, true, true, true, true, true, true, true, true, true, true, true, true, true, true, true, true, true, true, true, false, true, false, true, false, true, true, true, true, false]) (Exit.then K Q)
      ⟨#[u0, u1, u2, u3, u4, .pointer (some ⟨g5, 0, none⟩), u6, u7, u8, u9, u10, u11, u12, u13, u14, u15, u16, u17, u18, u19, u20, u21, u22, u23, u24, u25, u26, u27, u28, u29, u30, u31, u32, u33, u34, u35, u36, u37, u38, u39, u40, u41, u42, u43, u44, u45, u46, .slice J2 jl.length d2, u48, u49, u50, u51, u52, .int .i64 sm, .int .i64 (j : Nat), u55, u56, u57, u58, u59, u60, u61, u62, u63, u64, u65, u66, u67, u68, u69, u70, u71, u72, u73, u74, u75, u76, u77, u78, u79, u80, u81, u82, u83, u84, u85, u86, u87, u88, u89, u90, u91, u92, u93, u94, u95, u96, u97, u98, u99, u100, u101, u102, u103, u104, u105, u106, u107, u108, u109, u110, u111, u112, u113, u114, u115, u116, u117, u118, u119, u120, u121, u122, u123, u124, u125, u126, u127, u128, u129, u130, u131, u132, u133, u134, u135, u136, u137, u138, u139, u140, u141, u142, u143, u144, u145, u146, u147, u148, u149, u150, u151, u152, u153, u154, u155, u156, u157, u158, u159, u160, u161, u162, u163, u164, u165, u166, u167, u168, u169, u170, u171, u172, u173, u174, u175, u176, u177, u178, u179, u180, u181, u182, u183, u184, u185, u186, u187, u188, u189, u190, u191, u192, u193, u194, u195, u196, u197, u198, u199, u200, u201, u202, u203, u204, u205, u206, u207, u208, u209, u210, u211, u212, u213, u214, u215, u216, u217, u218, u219, u220, u221, u222, u223, u224, u225, u226, u227, u228, u229, u230, u231, u232, u233, u234, u235, u236, u237, u238, u239, u240, u241, u242, u243, u244, u245, u246, u247, u248, u249, u250, u251, u252, u253, u254, u255, u256, u257, u258, u259, u260, u261, u262, u263, u264, u265, u266, u267, u268, u269, u270, u271, u272, u273, u274, u275, u276, u277, u278, u279, u280, u281, u282, u283, u284, u285, u286, u287, u288, u289, u290, u291, u292, u293, u294, u295, u296, u297, u298, u299, u300, u301, u302, u303, u304, u305, u306, u307, u308, u309, u310, u311, u312, u313, u314, u315, u316, u317, u318, u319, u320, u321, u322, u323, u324, u325, u326, u327, u328, u329, u330, u331, u332, u333, u334, u335, u336, u337, u338, u339, u340, u341, u342, u343, u344, u345, u346, u347, u348, u349, u350, u351, u352, u353, u354, u355, u356, u357, u358, u359, u360, u361, u362, u363, u364, u365, u366, u367, u368, u369, u370, u371, u372, u373, u374, u375, u376, u377, u378, u379, u380, u381, u382, u383, u384, u385, u386, u387, u388, u389, u390, u391, u392, u393, u394, u395, u396, u397, u398, u399, u400, u401, u402, u403, u404, u405, u406, u407, u408, u409, u410, u411, u412, u413, u414, u415, u416, u417, u418, u419, u420, u421, u422, u423, u424, u425, u426, u427, u428, u429, u430, u431, u432, u433, u434, u435, u436, u437, u438, u439, u440, u441, u442, u443, u444, u445, u446, u447, u448, u449, u450, u451, u452, u453, u454, u455, u456, u457, u458, u459, u460, u461, u462, u463, u464, u465, u466, u467, u468, u469, u470, u471, u472, u473, u474, u475, u476, u477, u478, u479, u480, u481, u482, u483, u484, u485, u486, u487, u488, u489, u490, u491, u492, u493, u494, u495, u496, u497, u498, u499, u500, u501, u502, u503, u504, u505, u506, u507, u508, u509, u510, u511, u512, u513, u514, u515, u516, u517, u518, u519, u520, u521, u522, u523, u524, u525, u526, u527, u528, u529, u530, u531, u532, u533, u534, u535, u536, u537, u538, u539, u540, u541, u542, u543, u544, u545, u546, u547, u548, u549, u550, u551, u552, u553, u554, u555, u556, u557, u558, u559, u560, u561, u562, u563, u564, u565, u566, u567, u568, u569, u570, u571, u572, u573, u574, u575, u576, u577, u578, u579, u580, u581, u582, u583, u584, u585, u586, u587, u588, u589, u590, u591, u592, u593, u594, u595, u596, u597, u598, u599, u600, u601, u602, u603, u604, u605, u606, u607, u608, u609, u610, u611, u612, u613, u614, u615, u616, u617, u618, u619, u620, u621, u622, u623, u624, u625, u626, u627, u628, u629, u630, u631], []⟩ wr := by
  conv => arg 2; whnf
  have HKK := Lib.hid hK
  clear hK
  have hmany := HO.out.ws.many
  have hN := HN.out
  have hlen := HLN.out
  have hleft := HLF.out
  have hjl : j < jl.length := by omega
  have h0l : 0 < jl.length := by omega
  obtain ⟨aj, rfl, rj⟩ := HJ2.out.some j hjl
  have HRJ := Lib.hid rj
  clear rj
  have hjr := jus_range hl0 (show (0 : Int) < (N : Int) by omega)
  have bsp := HO.out.vF.space
  have hmm := hm0.2
  have hd0 := HO.out.due_in
  have vj : rdI jl j = f.space + left / (N : Int) + (if (j : Int) < left % (N : Int) then 1 else 0) := by rw [HJL.out]; exact jusW_at _ _ _ hj
  have v0 : rdI jl 0 = f.space + left / (N : Int) + (if ((0 : Nat) : Int) < left % (N : Int) then 1 else 0) := by rw [HJL.out]; exact jusW_at _ _ _ (by omega)
  have hq1 : f.space ≤ rdI jl j ∧ rdI jl j ≤ 5000 := by rw [vj]; split <;> omega
  have hq2 : rdI jl 0 - rdI jl j ≤ 1 ∧ rdI jl 0 ≤ 5000 ∧ 0 ≤ rdI jl 0 := by rw [vj, v0]; split <;> split <;> omega
  have hq3 : 0 < j → rdI jl j ≤ rdI jl (j - 1) := fun h => by
    have vp : rdI jl (j - 1) = f.space + left / (N : Int) + (if ((j - 1 : Nat) : Int) < left % (N : Int) then 1 else 0) := by rw [HJL.out]; exact jusW_at _ _ _ (by omega)
    rw [vj, vp]; split <;> split <;> omega
  clear vj v0 hjr
  have e1 : IntKind.i64.wrap f.space = f.space := IntWalk.i64_in _ (by omega)
  have e2 : IntKind.i64.wrap (rdI jl j - f.space) = rdI jl j - f.space := IntWalk.i64_in _ (by omega)
  have e3 : IntKind.i64.wrap (sm + (rdI jl j - f.space)) = s2 := by rw [HS2.out]; exact IntWalk.i64_in _ (by omega)
  have e4 : IntKind.i64.wrap (rdI jl 0 - rdI jl j) = rdI jl 0 - rdI jl j := IntWalk.i64_in _ (by omega)
  have q1 : decide (rdI jl j < f.space) = false := decide_eq_false (by omega)
  have q2 : decide ((1 : Int) < rdI jl 0 - rdI jl j) = false := decide_eq_false (by omega)
  have hN60 : N ≤ 60 := by omega
  clear hN hlen hleft
  repeat ((with_reducible fail_if_success (show Code.wp _ (Code.region 69 _ _) _ _ _)); first | go_values | go_skip | go_guarded | go_step | go_upon)
  refine region_below (wr.heap.size) (by kernel_rfl) (by kernel_rfl) ?_
  refine below_run (by kernel_rfl) (.int .i64 sm) (fun w' hw' => by kernel_rfl) ?_
  refine below_run (by kernel_rfl) (.slice (some aj) jl.length d2) (fun w' hw' => by kernel_rfl) ?_
  refine below_run (by kernel_rfl) (.int .i64 (j : Nat)) (fun w' hw' => by kernel_rfl) ?_
  refine below_run (by kernel_rfl) (.pointer (some (Addr.add aj (j * 1)))) (fun w' hw' => exec_index 33 (.tmp 524) (.tmp 525) rfl aj jl.length d2 (by kernel_rfl) .i64 j (by kernel_rfl) hjl 2 Tryz.underlying33 1 szI64c) ?_
  refine below_run (by kernel_rfl) (.int .i64 (rdI jl j)) (fun w' hw' => exec_load1 2 (.tmp 526) rfl (aj.add (j * 1)) (by kernel_rfl) (.int .i64 (rdI jl j)) (by rw [Nat.mul_one]; exact (HRJ.out.next hw').atI64 j hjl) _ Tryz.underlying2 rfl) ?_
  refine below_run (by kernel_rfl) (.pointer (some ⟨g5, 26, none⟩)) (fun w' hw' => by kernel_rfl) ?_
  refine below_run (by kernel_rfl) (.int .i8 f.space) (fun w' hw' => exec_load1 24 (.tmp 528) rfl ⟨g5, 26, none⟩ (by kernel_rfl) (.int .i8 f.space) ((K5.out.next hw').cell 26 _ (fcV_space HF.out.1 S)) _ Tryz.underlying24 rfl) ?_
  refine below_run (by kernel_rfl) (.int .i64 f.space) (fun w' hw' => Eq.trans (show (execOp _ _).run _ w' = .ok (.value (.int .i64 (IntKind.i64.wrap f.space))) w' by kernel_rfl) (by rw [e1])) ?_
  refine below_run (by kernel_rfl) (.int .i64 (rdI jl j - f.space)) (fun w' hw' => Eq.trans (show (execOp _ _).run _ w' = .ok (.value (.int .i64 (IntKind.i64.wrap (rdI jl j - f.space)))) w' by kernel_rfl) (by rw [e2])) ?_
  refine below_run (by kernel_rfl) (.int .i64 s2) (fun w' hw' => Eq.trans (show (execOp _ _).run _ w' = .ok (.value (.int .i64 (IntKind.i64.wrap (sm + (rdI jl j - f.space))))) w' by kernel_rfl) (by rw [e3])) ?_
  refine below_run (by kernel_rfl) (.int .i64 s2) (fun w' hw' => by kernel_rfl) ?_
  refine wpQuiet_nil ?_
  intro W1 hW1
  simp only [Act.put, List.setIfInBounds_toArray, List.set_cons_succ, List.set_cons_zero]
  have K5 := Lib.hid (K5.out.next hW1)
  have HRJ := Lib.hid (HRJ.out.next hW1)
  have HB1 := Lib.hid hW1
  clear hW1 e2 e3
  repeat ((with_reducible fail_if_success (show Code.wp _ (Code.region 70 _ _) _ _ _)); first | go_values | go_skip | go_guarded | go_step | go_upon)
  by_cases hj0 : j = 0
  · have q3 : decide ((0 : Int) < (j : Int)) = false := decide_eq_false (by omega)
    refine region_below (W1.heap.size) (by kernel_rfl) (by kernel_rfl) ?_
    refine below_run (by kernel_rfl) (.slice (some aj) jl.length d2) (fun w' hw' => by kernel_rfl) ?_
    refine below_run (by kernel_rfl) (.int .i64 (j : Nat)) (fun w' hw' => by kernel_rfl) ?_
    refine below_run (by kernel_rfl) (.pointer (some (Addr.add aj (j * 1)))) (fun w' hw' => exec_index 33 (.tmp 533) (.tmp 534) rfl aj jl.length d2 (by kernel_rfl) .i64 j (by kernel_rfl) hjl 2 Tryz.underlying33 1 szI64c) ?_
    refine below_run (by kernel_rfl) (.int .i64 (rdI jl j)) (fun w' hw' => exec_load1 2 (.tmp 535) rfl (aj.add (j * 1)) (by kernel_rfl) (.int .i64 (rdI jl j)) (by rw [Nat.mul_one]; exact (HRJ.out.next hw').atI64 j hjl) _ Tryz.underlying2 rfl) ?_
    refine below_run (by kernel_rfl) (.pointer (some ⟨g5, 26, none⟩)) (fun w' hw' => by kernel_rfl) ?_
    refine below_run (by kernel_rfl) (.int .i8 f.space) (fun w' hw' => exec_load1 24 (.tmp 537) rfl ⟨g5, 26, none⟩ (by kernel_rfl) (.int .i8 f.space) ((K5.out.next hw').cell 26 _ (fcV_space HF.out.1 S)) _ Tryz.underlying24 rfl) ?_
    refine below_run (by kernel_rfl) (.int .i64 f.space) (fun w' hw' => Eq.trans (show (execOp _ _).run _ w' = .ok (.value (.int .i64 (IntKind.i64.wrap f.space))) w' by kernel_rfl) (by rw [e1])) ?_
    refine below_run (by kernel_rfl) (.bool false) (fun w' hw' => Eq.trans (show (execOp _ _).run _ w' = .ok (.value (.bool (decide (rdI jl j < f.space)))) w' by kernel_rfl) (by rw [q1])) ?_
    refine below_run (by kernel_rfl) (.bool false) (fun w' hw' => by kernel_rfl) ?_
    refine below_run (by kernel_rfl) (.slice (some aj) jl.length d2) (fun w' hw' => by kernel_rfl) ?_
    refine below_run (by kernel_rfl) (.pointer (some (Addr.add aj (0 * 1)))) (fun w' hw' => exec_index 33 (.tmp 542) (.const (.int .i64 0)) rfl aj jl.length d2 (by kernel_rfl) .i64 0 (by kernel_rfl) h0l 2 Tryz.underlying33 1 szI64c) ?_
    refine below_run (by kernel_rfl) (.int .i64 (rdI jl 0)) (fun w' hw' => exec_load1 2 (.tmp 543) rfl (aj.add (0 * 1)) (by kernel_rfl) (.int .i64 (rdI jl 0)) (by rw [Nat.mul_one]; exact (HRJ.out.next hw').atI64 0 h0l) _ Tryz.underlying2 rfl) ?_
    refine below_run (by kernel_rfl) (.slice (some aj) jl.length d2) (fun w' hw' => by kernel_rfl) ?_
    refine below_run (by kernel_rfl) (.int .i64 (j : Nat)) (fun w' hw' => by kernel_rfl) ?_
    refine below_run (by kernel_rfl) (.pointer (some (Addr.add aj (j * 1)))) (fun w' hw' => exec_index 33 (.tmp 545) (.tmp 546) rfl aj jl.length d2 (by kernel_rfl) .i64 j (by kernel_rfl) hjl 2 Tryz.underlying33 1 szI64c) ?_
    refine below_run (by kernel_rfl) (.int .i64 (rdI jl j)) (fun w' hw' => exec_load1 2 (.tmp 547) rfl (aj.add (j * 1)) (by kernel_rfl) (.int .i64 (rdI jl j)) (by rw [Nat.mul_one]; exact (HRJ.out.next hw').atI64 j hjl) _ Tryz.underlying2 rfl) ?_
    refine below_run (by kernel_rfl) (.int .i64 (rdI jl 0 - rdI jl j)) (fun w' hw' => Eq.trans (show (execOp _ _).run _ w' = .ok (.value (.int .i64 (IntKind.i64.wrap (rdI jl 0 - rdI jl j)))) w' by kernel_rfl) (by rw [e4])) ?_
    refine below_run (by kernel_rfl) (.bool false) (fun w' hw' => Eq.trans (show (execOp _ _).run _ w' = .ok (.value (.bool (decide ((1 : Int) < rdI jl 0 - rdI jl j)))) w' by kernel_rfl) (by rw [q2])) ?_
    refine below_run (by kernel_rfl) (.bool false) (fun w' hw' => by kernel_rfl) ?_
    refine below_run (by kernel_rfl) (.bool false) (fun w' hw' => by kernel_rfl) ?_
    refine below_run (by kernel_rfl) (.int .i64 (j : Nat)) (fun w' hw' => by kernel_rfl) ?_
    refine below_run (by kernel_rfl) (.bool false) (fun w' hw' => Eq.trans (show (execOp _ _).run _ w' = .ok (.value (.bool (decide ((0 : Int) < (j : Int))))) w' by kernel_rfl) (by rw [q3])) ?_
    refine below_run (by kernel_rfl) (.bool false) (fun w' hw' => by kernel_rfl) ?_
    refine BigFrame.wpQuiet_skip (by kernel_rfl) ?_
    refine BigFrame.wpQuiet_skip (by kernel_rfl) ?_
    refine BigFrame.wpQuiet_skip (by kernel_rfl) ?_
    refine BigFrame.wpQuiet_skip (by kernel_rfl) ?_
    refine BigFrame.wpQuiet_skip (by kernel_rfl) ?_
    refine BigFrame.wpQuiet_skip (by kernel_rfl) ?_
    refine BigFrame.wpQuiet_skip (by kernel_rfl) ?_
    refine BigFrame.wpQuiet_skip (by kernel_rfl) ?_
    refine BigFrame.wpQuiet_skip (by kernel_rfl) ?_
    refine BigFrame.wpQuiet_skip (by kernel_rfl) ?_
    refine below_run (by kernel_rfl) (.bool false) (fun w' hw' => by kernel_rfl) ?_
    refine below_run (by kernel_rfl) (.bool false) (fun w' hw' => by kernel_rfl) ?_
    refine wpQuiet_nil ?_
    intro W2 hW2
    simp only [Act.put, List.setIfInBounds_toArray, List.set_cons_succ, List.set_cons_zero]
    repeat (first | go_values | go_skip | go_guarded | go_step | go_upon)
    exact HKK.out _ (below_step HB1.out hW2) _ _ _ _ _ _ _ _ _ _ _ _ _ _ _ _ _ _ _ _ _ _ _ _ _ _ _ _ _ _ _ _ _ _ _ _ _ _ _ _ _ _ _ _ _ _
  · have q3 : decide ((0 : Int) < (j : Int)) = true := decide_eq_true (by omega)
    have hq4 := hq3 (by omega)
    have hjp : j - 1 < jl.length := by omega
    have q4 : decide (rdI jl (j - 1) < rdI jl j) = false := decide_eq_false (by omega)
    have e5 : IntKind.i64.wrap ((j : Int) - 1) = ((j - 1 : Nat) : Int) := by rw [IntWalk.i64_in _ (by omega)]; omega
    refine region_below (W1.heap.size) (by kernel_rfl) (by kernel_rfl) ?_
    refine below_run (by kernel_rfl) (.slice (some aj) jl.length d2) (fun w' hw' => by kernel_rfl) ?_
    refine below_run (by kernel_rfl) (.int .i64 (j : Nat)) (fun w' hw' => by kernel_rfl) ?_
    refine below_run (by kernel_rfl) (.pointer (some (Addr.add aj (j * 1)))) (fun w' hw' => exec_index 33 (.tmp 533) (.tmp 534) rfl aj jl.length d2 (by kernel_rfl) .i64 j (by kernel_rfl) hjl 2 Tryz.underlying33 1 szI64c) ?_
    refine below_run (by kernel_rfl) (.int .i64 (rdI jl j)) (fun w' hw' => exec_load1 2 (.tmp 535) rfl (aj.add (j * 1)) (by kernel_rfl) (.int .i64 (rdI jl j)) (by rw [Nat.mul_one]; exact (HRJ.out.next hw').atI64 j hjl) _ Tryz.underlying2 rfl) ?_
    refine below_run (by kernel_rfl) (.pointer (some ⟨g5, 26, none⟩)) (fun w' hw' => by kernel_rfl) ?_
    refine below_run (by kernel_rfl) (.int .i8 f.space) (fun w' hw' => exec_load1 24 (.tmp 537) rfl ⟨g5, 26, none⟩ (by kernel_rfl) (.int .i8 f.space) ((K5.out.next hw').cell 26 _ (fcV_space HF.out.1 S)) _ Tryz.underlying24 rfl) ?_
    refine below_run (by kernel_rfl) (.int .i64 f.space) (fun w' hw' => Eq.trans (show (execOp _ _).run _ w' = .ok (.value (.int .i64 (IntKind.i64.wrap f.space))) w' by kernel_rfl) (by rw [e1])) ?_
    refine below_run (by kernel_rfl) (.bool false) (fun w' hw' => Eq.trans (show (execOp _ _).run _ w' = .ok (.value (.bool (decide (rdI jl j < f.space)))) w' by kernel_rfl) (by rw [q1])) ?_
    refine below_run (by kernel_rfl) (.bool false) (fun w' hw' => by kernel_rfl) ?_
    refine below_run (by kernel_rfl) (.slice (some aj) jl.length d2) (fun w' hw' => by kernel_rfl) ?_
    refine below_run (by kernel_rfl) (.pointer (some (Addr.add aj (0 * 1)))) (fun w' hw' => exec_index 33 (.tmp 542) (.const (.int .i64 0)) rfl aj jl.length d2 (by kernel_rfl) .i64 0 (by kernel_rfl) h0l 2 Tryz.underlying33 1 szI64c) ?_
    refine below_run (by kernel_rfl) (.int .i64 (rdI jl 0)) (fun w' hw' => exec_load1 2 (.tmp 543) rfl (aj.add (0 * 1)) (by kernel_rfl) (.int .i64 (rdI jl 0)) (by rw [Nat.mul_one]; exact (HRJ.out.next hw').atI64 0 h0l) _ Tryz.underlying2 rfl) ?_
    refine below_run (by kernel_rfl) (.slice (some aj) jl.length d2) (fun w' hw' => by kernel_rfl) ?_
    refine below_run (by kernel_rfl) (.int .i64 (j : Nat)) (fun w' hw' => by kernel_rfl) ?_
    refine below_run (by kernel_rfl) (.pointer (some (Addr.add aj (j * 1)))) (fun w' hw' => exec_index 33 (.tmp 545) (.tmp 546) rfl aj jl.length d2 (by kernel_rfl) .i64 j (by kernel_rfl) hjl 2 Tryz.underlying33 1 szI64c) ?_
    refine below_run (by kernel_rfl) (.int .i64 (rdI jl j)) (fun w' hw' => exec_load1 2 (.tmp 547) rfl (aj.add (j * 1)) (by kernel_rfl) (.int .i64 (rdI jl j)) (by rw [Nat.mul_one]; exact (HRJ.out.next hw').atI64 j hjl) _ Tryz.underlying2 rfl) ?_
    refine below_run (by kernel_rfl) (.int .i64 (rdI jl 0 - rdI jl j)) (fun w' hw' => Eq.trans (show (execOp _ _).run _ w' = .ok (.value (.int .i64 (IntKind.i64.wrap (rdI jl 0 - rdI jl j)))) w' by kernel_rfl) (by rw [e4])) ?_
    refine below_run (by kernel_rfl) (.bool false) (fun w' hw' => Eq.trans (show (execOp _ _).run _ w' = .ok (.value (.bool (decide ((1 : Int) < rdI jl 0 - rdI jl j)))) w' by kernel_rfl) (by rw [q2])) ?_
    refine below_run (by kernel_rfl) (.bool false) (fun w' hw' => by kernel_rfl) ?_
    refine below_run (by kernel_rfl) (.bool false) (fun w' hw' => by kernel_rfl) ?_
    refine below_run (by kernel_rfl) (.int .i64 (j : Nat)) (fun w' hw' => by kernel_rfl) ?_
    refine below_run (by kernel_rfl) (.bool true) (fun w' hw' => Eq.trans (show (execOp _ _).run _ w' = .ok (.value (.bool (decide ((0 : Int) < (j : Int))))) w' by kernel_rfl) (by rw [q3])) ?_
    refine below_run (by kernel_rfl) (.bool true) (fun w' hw' => by kernel_rfl) ?_
    refine below_run (by kernel_rfl) (.slice (some aj) jl.length d2) (fun w' hw' => by kernel_rfl) ?_
    refine below_run (by kernel_rfl) (.int .i64 (j : Nat)) (fun w' hw' => by kernel_rfl) ?_
    refine below_run (by kernel_rfl) (.pointer (some (Addr.add aj (j * 1)))) (fun w' hw' => exec_index 33 (.tmp 556) (.tmp 557) rfl aj jl.length d2 (by kernel_rfl) .i64 j (by kernel_rfl) hjl 2 Tryz.underlying33 1 szI64c) ?_
    refine below_run (by kernel_rfl) (.int .i64 (rdI jl j)) (fun w' hw' => exec_load1 2 (.tmp 558) rfl (aj.add (j * 1)) (by kernel_rfl) (.int .i64 (rdI jl j)) (by rw [Nat.mul_one]; exact (HRJ.out.next hw').atI64 j hjl) _ Tryz.underlying2 rfl) ?_
    refine below_run (by kernel_rfl) (.slice (some aj) jl.length d2) (fun w' hw' => by kernel_rfl) ?_
    refine below_run (by kernel_rfl) (.int .i64 (j : Nat)) (fun w' hw' => by kernel_rfl) ?_
    refine below_run (by kernel_rfl) (.int .i64 ((j - 1 : Nat) : Int)) (fun w' hw' => Eq.trans (show (execOp _ _).run _ w' = .ok (.value (.int .i64 (IntKind.i64.wrap ((j : Int) - 1)))) w' by kernel_rfl) (by rw [e5])) ?_
    refine below_run (by kernel_rfl) (.pointer (some (Addr.add aj ((j - 1) * 1)))) (fun w' hw' => exec_index 33 (.tmp 560) (.tmp 562) rfl aj jl.length d2 (by kernel_rfl) .i64 (j - 1) (by kernel_rfl) hjp 2 Tryz.underlying33 1 szI64c) ?_
    refine below_run (by kernel_rfl) (.int .i64 (rdI jl (j - 1))) (fun w' hw' => exec_load1 2 (.tmp 563) rfl (aj.add ((j - 1) * 1)) (by kernel_rfl) (.int .i64 (rdI jl (j - 1))) (by rw [Nat.mul_one]; exact (HRJ.out.next hw').atI64 (j - 1) hjp) _ Tryz.underlying2 rfl) ?_
    refine below_run (by kernel_rfl) (.bool false) (fun w' hw' => Eq.trans (show (execOp _ _).run _ w' = .ok (.value (.bool (decide (rdI jl (j - 1) < rdI jl j)))) w' by kernel_rfl) (by rw [q4])) ?_
    refine below_run (by kernel_rfl) (.bool false) (fun w' hw' => by kernel_rfl) ?_
    refine below_run (by kernel_rfl) (.bool false) (fun w' hw' => by kernel_rfl) ?_
    refine wpQuiet_nil ?_
    intro W2 hW2
    simp only [Act.put, List.setIfInBounds_toArray, List.set_cons_succ, List.set_cons_zero]
    repeat (first | go_values | go_skip | go_guarded | go_step | go_upon)
    exact HKK.out _ (below_step HB1.out hW2) _ _ _ _ _ _ _ _ _ _ _ _ _ _ _ _ _ _ _ _ _ _ _ _ _ _ _ _ _ _ _ _ _ _ _ _ _ _ _ _ _ _ _ _ _ _

attribute [local irreducible] wpQuiet in
set_option maxHeartbeats 4000000 in
set_option maxRecDepth 100000 in
theorem p7 (w wr : World) (f : Fc) (S : Value) (HV : Hid (validF f = true)) (l : List UInt8) (HT : Hid (vText l = true)) (HMX : Hid (MaxW w)) (HSP : Hid (SpT w)) (g5 : Nat) (ws : List (List UInt8)) (PL : List Int) (due : Int) (HO : Hid (WtO f l ws PL due)) (Aw : Option Addr) (cw : Nat) (hcw : ws.length ≤ cw) (Ap : Option Addr) (cp : Nat) (m : Int) (hm0 : 0 ≤ m ∧ m ≤ 4000) (k : Nat) (HFI : Hid (FitAt f ws m k)) (N : Nat) (HN : Hid (ws.length = N + 1)) (hN0 : 0 < N) (left : Int) (HLF : Hid (due + left = m)) (hl0 : 0 ≤ left) (jl : List Int) (HJL : Hid (jl = jusW f.space left N N)) (J2 : Option Addr) (d2 : Nat) (HF : Hid (HasF wr f S)) (K5 : Hid (Blk wr g5 28 (fcV f S))) (HW : Hid (SlE sv wr Aw ws)) (HJ2 : Hid (SlE i64 wr J2 jl)) (HB : Hid (Below w.heap.size w wr))
    (u0 u1 u2 u3 u4 u7 u8 u10 u11 u12 u13 u14 u16 u17 u18 u19 u20 u21 u22 u23 u24 u25 u26 u27 u28 u29 u30 u31 u32 u33 u34 u35 u36 u37 u38 u39 u41 u42 u43 u44 u45 u48 u49 u50 u52 u53 u54 u55 u56 u57 u58 u59 u60 u61 u62 u63 u64 u65 u66 u67 u68 u69 u70 u71 u72 u73 u74 u75 u76 u77 u78 u79 u80 u81 u82 u83 u84 u85 u86 u87 u88 u89 u90 u91 u92 u93 u94 u95 u96 u97 u98 u99 u100 u101 u102 u103 u104 u105 u106 u107 u108 u109 u110 u111 u112 u113 u114 u115 u116 u117 u118 u119 u120 u121 u122 u123 u124 u125 u126 u127 u128 u129 u130 u131 u132 u133 u134 u135 u136 u137 u138 u139 u140 u141 u142 u143 u144 u145 u146 u147 u148 u149 u150 u151 u152 u153 u154 u155 u156 u157 u158 u159 u160 u161 u162 u163 u164 u165 u166 u167 u168 u169 u170 u171 u172 u173 u174 u175 u176 u177 u178 u179 u180 u181 u182 u183 u184 u185 u186 u187 u188 u189 u190 u191 u192 u193 u194 u195 u196 u197 u198 u199 u200 u201 u202 u203 u204 u205 u206 u207 u208 u209 u210 u211 u212 u213 u214 u215 u216 u217 u218 u219 u220 u221 u222 u223 u224 u225 u226 u227 u228 u229 u230 u231 u232 u233 u234 u235 u236 u237 u238 u239 u240 u241 u242 u243 u244 u245 u246 u247 u248 u249 u250 u251 u252 u253 u254 u255 u256 u257 u258 u259 u260 u261 u262 u263 u264 u265 u266 u267 u268 u269 u270 u271 u272 u273 u274 u275 u276 u277 u278 u279 u280 u281 u282 u283 u284 u285 u286 u287 u288 u289 u290 u291 u292 u293 u294 u295 u296 u297 u298 u299 u300 u301 u302 u303 u304 u305 u306 u307 u308 u309 u310 u311 u312 u313 u314 u315 u316 u317 u318 u319 u320 u321 u322 u323 u324 u325 u326 u327 u328 u329 u330 u331 u332 u333 u334 u335 u336 u337 u338 u339 u340 u341 u342 u343 u344 u345 u346 u347 u348 u349 u350 u351 u352 u353 u354 u355 u356 u357 u358 u359 u360 u361 u362 u363 u364 u365 u366 u367 u368 u369 u370 u371 u372 u373 u374 u375 u376 u377 u378 u379 u380 u381 u382 u383 u384 u385 u386 u387 u388 u389 u390 u391 u392 u393 u394 u395 u396 u397 u398 u399 u400 u401 u402 u403 u404 u405 u406 u407 u408 u409 u410 u411 u412 u413 u414 u415 u416 u417 u418 u419 u420 u421 u422 u423 u424 u425 u426 u427 u428 u429 u430 u431 u432 u433 u434 u435 u436 u437 u438 u439 u440 u441 u442 u443 u444 u445 u446 u447 u448 u449 u450 u451 u452 u453 u454 u455 u456 u457 u458 u459 u460 u461 u462 u463 u464 u465 u466 u467 u468 u469 u470 u471 u472 u473 u474 u475 u476 u477 u478 u479 u480 u481 u482 u483 u484 u485 u486 u487 u488 u489 u490 u491 u492 u493 u494 u495 u496 u497 u498 u499 u500 u501 u502 u503 u504 u505 u506 u507 u508 u509 u510 u511 u512 u513 u514 u515 u516 u517 u518 u519 u520 u521 u522 u523 u524 u525 u526 u527 u528 u529 u530 u531 u532 u533 u534 u535 u536 u537 u538 u539 u540 u541 u542 u543 u544 u545 u546 u547 u548 u549 u550 u551 u552 u553 u554 u555 u556 u557 u558 u559 u560 u561 u562 u563 u564 u565 u566 u567 u568 u569 u570 u571 u572 u573 u574 u575 u576 u577 u578 u579 u580 u581 u582 u583 u584 u585 u586 u587 u588 u589 u590 u591 u592 u593 u594 u595 u596 u597 u598 u599 u600 u601 u602 u603 u604 u605 u606 u607 u608 u609 u610 u611 u612 u613 u614 u615 u616 u617 u618 u619 u620 u621 u622 u623 u624 u625 u626 u627 u628 u629 u630 u631 : Value) :
    Code.wp Tryz.prog (partOf Tryz.f3 [true, true, true, true, true, true, true, true, true, true, true, true, true, true, true, true, true, true, true, true, true, true, true, true]) (bodyPost Tryz.prog Tryz.f3 fun e w' => e = .returned (.bool true) ∧ Below w.heap.size w w')
      ⟨#[u0, u1, u2, u3, u4, .pointer (some ⟨g5, 0, none⟩), .string ⟨l.toArray⟩, u7, u8, .int .i64 due, u10, u11, u12, u13, u14, .slice Aw ws.length cw, u16, u17, u18, u19, u20, u21, u22, u23, u24, u25, u26, u27, u28, u29, u30, u31, u32, u33, u34, u35, u36, u37, u38, u39, .int .i64 m, u41, u42, u43, u44, u45, .int .i64 0, .slice J2 jl.length d2, u48, u49, u50, .int .i64 (k : Nat), u52, u53, u54, u55, u56, u57, u58, u59, u60, u61, u62, u63, u64, u65, u66, u67, u68, u69, u70, u71, u72, u73, u74, u75, u76, u77, u78, u79, u80, u81, u82, u83, u84, u85, u86, u87, u88, u89, u90, u91, u92, u93, u94, u95, u96, u97, u98, u99, u100, u101, u102, u103, u104, u105, u106, u107, u108, u109, u110, u111, u112, u113, u114, u115, u116, u117, u118, u119, u120, u121, u122, u123, u124, u125, u126, u127, u128, u129, u130, u131, u132, u133, u134, u135, u136, u137, u138, u139, u140, u141, u142, u143, u144, u145, u146, u147, u148, u149, u150, u151, u152, u153, u154, u155, u156, u157, u158, u159, u160, u161, u162, u163, u164, u165, u166, u167, u168, u169, u170, u171, u172, u173, u174, u175, u176, u177, u178, u179, u180, u181, u182, u183, u184, u185, u186, u187, u188, u189, u190, u191, u192, u193, u194, u195, u196, u197, u198, u199, u200, u201, u202, u203, u204, u205, u206, u207, u208, u209, u210, u211, u212, u213, u214, u215, u216, u217, u218, u219, u220, u221, u222, u223, u224, u225, u226, u227, u228, u229, u230, u231, u232, u233, u234, u235, u236, u237, u238, u239, u240, u241, u242, u243, u244, u245, u246, u247, u248, u249, u250, u251, u252, u253, u254, u255, u256, u257, u258, u259, u260, u261, u262, u263, u264, u265, u266, u267, u268, u269, u270, u271, u272, u273, u274, u275, u276, u277, u278, u279, u280, u281, u282, u283, u284, u285, u286, u287, u288, u289, u290, u291, u292, u293, u294, u295, u296, u297, u298, u299, u300, u301, u302, u303, u304, u305, u306, u307, u308, u309, u310, u311, u312, u313, u314, u315, u316, u317, u318, u319, u320, u321, u322, u323, u324, u325, u326, u327, u328, u329, u330, u331, u332, u333, u334, u335, u336, u337, u338, u339, u340, u341, u342, u343, u344, u345, u346, u347, u348, u349, u350, u351, u352, u353, u354, u355, u356, u357, u358, u359, u360, u361, u362, u363, u364, u365, u366, u367, u368, u369, u370, u371, u372, u373, u374, u375, u376, u377, u378, u379, u380, u381, u382, u383, u384, u385, u386, u387, u388, u389, u390, u391, u392, u393, u394, u395, u396, u397, u398, u399, u400, u401, u402, u403, u404, u405, u406, u407, u408, u409, u410, u411, u412, u413, u414, u415, u416, u417, u418, u419, u420, u421, u422, u423, u424, u425, u426, u427, u428, u429, u430, u431, u432, u433, u434, u435, u436, u437, u438, u439, u440, u441, u442, u443, u444, u445, u446, u447, u448, u449, u450, u451, u452, u453, u454, u455, u456, u457, u458, u459, u460, u461, u462, u463, u464, u465, u466, u467, u468, u469, u470, u471, u472, u473, u474, u475, u476, u477, u478, u479, u480, u481, u482, u483, u484, u485, u486, u487, u488, u489, u490, u491, u492, u493, u494, u495, u496, u497, u498, u499, u500, u501, u502, u503, u504, u505, u506, u507, u508, u509, u510, u511, u512, u513, u514, u515, u516, u517, u518, u519, u520, u521, u522, u523, u524, u525, u526, u527, u528, u529, u530, u531, u532, u533, u534, u535, u536, u537, u538, u539, u540, u541, u542, u543, u544, u545, u546, u547, u548, u549, u550, u551, u552, u553, u554, u555, u556, u557, u558, u559, u560, u561, u562, u563, u564, u565, u566, u567, u568, u569, u570, u571, u572, u573, u574, u575, u576, u577, u578, u579, u580, u581, u582, u583, u584, u585, u586, u587, u588, u589, u590, u591, u592, u593, u594, u595, u596, u597, u598, u599, u600, u601, u602, u603, u604, u605, u606, u607, u608, u609, u610, u611, u612, u613, u614, u615, u616, u617, u618, u619, u620, u621, u622, u623, u624, u625, u626, u627, u628, u629, u630, u631], []⟩ wr := by
  conv => arg 2; whnf
  have HLN := Lib.hid (show jl.length = N by rw [HJL.out]; exact jusW_length _ _ _ _)
  have hmany := HO.out.ws.many
  have hd0 := HO.out.due_in
  have hN60 : N ≤ 60 := by have := HN.out; omega
  have hlm : left ≤ 4000 := by have := HLF.out; omega
  repeat ((with_reducible fail_if_success (show Code.wp _ (Code.loop _) _ _ _)); first | go_values | go_skip | go_guarded | go_step | go_upon)
  go_loopw [53, 54] (fun v z wx => ∃ j : Nat, j ≤ jl.length ∧ z = .int .i64 j ∧ v = .int .i64 (due + jusS left N j) ∧ Below wr.heap.size wr wx) (fun _ z _ => jl.length - (intOf z).toNat)
  case atStart => exact ⟨0, by omega, rfl, by show Value.int _ _ = Value.int _ _; congr 1; simp [jusS], Below.refl _ _⟩
  case round =>
    obtain ⟨j, hj, rfl, rfl, hbx⟩ := hrel
    have HBI := Lib.hid hbx
    replace HF := Lib.hid (HF.out.next hbx)
    replace K5 := Lib.hid (K5.out.next hbx)
    replace HW := Lib.hid (HW.out.next hbx)
    replace HJ2 := Lib.hid (HJ2.out.next hbx)
    replace HB := Lib.hid (below_step HB.out hbx)
    clear hbx
    by_cases hlt : j < jl.length
    · skip
      have hjN : j < N := by have := HLN.out; omega
      have hsr := jusS_range hl0 (show (0 : Int) < (N : Int) by omega) j
      have hs2 : due + jusS left N (j + 1) = (due + jusS left N j) + (rdI jl j - f.space) := by rw [HJL.out, jusW_at _ _ _ hjN, jusS]; omega
      have HS2 := Lib.hid hs2
      have hml : (left + 1) * (j : Int) ≤ 4001 * 60 := Int.mul_le_mul (by omega) (by omega) (by omega) (by omega)
      clear hs2
      repeat ((with_reducible fail_if_success (show Code.wp _ (Code.block 7 _) _ _ _)); first | go_values | go_skip | go_guarded | go_step | go_upon)
      skip
      refine s69 w _ f S HV l HT HMX HSP g5 ws PL due HO Aw cw hcw Ap cp m hm0 k HFI N HN hN0 left HLF hl0 jl HJL J2 d2 j hjN (due + jusS left N j) (due + jusS left N (j + 1)) HS2 (by omega) HLN HF K5 HJ2 HB _ _ _ _ _ _ _ _ _ _ _ _ _ _ _ _ _ _ _ _ _ _ _ _ _ _ _ _ _ _ _ _ _ _ _ _ _ _ _ _ _ _ _ _ _ _ _ _ _ _ _ _ _ _ _ _ _ _ _ _ _ _ _ _ _ _ _ _ _ _ _ _ _ _ _ _ _ _ _ _ _ _ _ _ _ _ _ _ _ _ _ _ _ _ _ _ _ _ _ _ _ _ _ _ _ _ _ _ _ _ _ _ _ _ _ _ _ _ _ _ _ _ _ _ _ _ _ _ _ _ _ _ _ _ _ _ _ _ _ _ _ _ _ _ _ _ _ _ _ _ _ _ _ _ _ _ _ _ _ _ _ _ _ _ _ _ _ _ _ _ _ _ _ _ _ _ _ _ _ _ _ _ _ _ _ _ _ _ _ _ _ _ _ _ _ _ _ _ _ _ _ _ _ _ _ _ _ _ _ _ _ _ _ _ _ _ _ _ _ _ _ _ _ _ _ _ _ _ _ _ _ _ _ _ _ _ _ _ _ _ _ _ _ _ _ _ _ _ _ _ _ _ _ _ _ _ _ _ _ _ _ _ _ _ _ _ _ _ _ _ _ _ _ _ _ _ _ _ _ _ _ _ _ _ _ _ _ _ _ _ _ _ _ _ _ _ _ _ _ _ _ _ _ _ _ _ _ _ _ _ _ _ _ _ _ _ _ _ _ _ _ _ _ _ _ _ _ _ _ _ _ _ _ _ _ _ _ _ _ _ _ _ _ _ _ _ _ _ _ _ _ _ _ _ _ _ _ _ _ _ _ _ _ _ _ _ _ _ _ _ _ _ _ _ _ _ _ _ _ _ _ _ _ _ _ _ _ _ _ _ _ _ _ _ _ _ _ _ _ _ _ _ _ _ _ _ _ _ _ _ _ _ _ _ _ _ _ _ _ _ _ _ _ _ _ _ _ _ _ _ _ _ _ _ _ _ _ _ _ _ _ _ _ _ _ _ _ _ _ _ _ _ _ _ _ _ _ _ _ _ _ _ _ _ _ _ _ _ _ _ _ _ _ _ _ _ _ _ _ _ _ _ _ _ _ _ _ _ _ _ _ _ _ _ _ _ _ _ _ _ _ _ _ _ _ _ _ _ _ _ _ _ _ _ _ _ _ _ _ _ _ _ _ _ _ _ _ _ _ _ _ _ _ _ _ _ _ _ _ _ _ _ _ _ _ _ _ _ _ _ _ _ _ _ _ _ _ _ _ _ _ _ _ _ _ _ _ _ _ _ _ _ _ _ _ _ _ _ _ _ _ _ _ _ _ _ _ _ _ _ _ _ _ _ _ _ _ _ _ _ _ _ _ _ _ _ _ _ _ _ _ _ _ _ _ _ _ _ _ _ _ _ _ _ _ _ _ _ _ _ ?_
      intro w1c hcut
      intros
      have hb := hcut
      clear hcut
      replace HF := Lib.hid (HF.out.next hb)
      replace K5 := Lib.hid (K5.out.next hb)
      replace HW := Lib.hid (HW.out.next hb)
      replace HJ2 := Lib.hid (HJ2.out.next hb)
      replace HB := Lib.hid (below_step HB.out hb)
      replace HBI := Lib.hid (below_step HBI.out hb)
      clear hb
      repeat (first | go_values | go_skip | go_guarded | go_step | go_upon)
      go_roundw
      case rel => exact ⟨j + 1, hlt, by go_num, rfl, HBI.out⟩
      case measure => simp [intOf]; omega
    · obtain rfl : j = jl.length := by omega
      have hja : jusS left N jl.length = left := by rw [HLN.out]; exact jusS_all hl0 hN0 rfl
      rw [hja, HLF.out]
      have hmb : (m != m) = false := by simp
      have e1 : IntKind.i64.wrap ((ws.length : Int) - 1) = (jl.length : Int) := by have := HN.out; have := HLN.out; rw [IntWalk.i64_in _ (by omega)]; omega
      have hjb : ((jl.length : Int) != (jl.length : Int)) = false := by simp
      clear hja
      repeat ((with_reducible fail_if_success (show Code.wp _ (Code.seq (Code.region 74 _ _) _) _ _ _)); first | go_values | go_skip | go_guarded | go_step | go_upon)
      exact p8 w _ f S HV l HT HMX HSP g5 ws PL due HO Aw cw hcw Ap cp m hm0 k HFI HF K5 HW HB _ _ _ _ _ _ _ _ _ _ _ _ _ _ _ _ _ _ _ _ _ _ _ _ _ _ _ _ _ _ _ _ _ _ _ _ _ _ _ _ _ _ _ _ _ _ _ _ _ _ _ _ _ _ _ _ _ _ _ _ _ _ _ _ _ _ _ _ _ _ _ _ _ _ _ _ _ _ _ _ _ _ _ _ _ _ _ _ _ _ _ _ _ _ _ _ _ _ _ _ _ _ _ _ _ _ _ _ _ _ _ _ _ _ _ _ _ _ _ _ _ _ _ _ _ _ _ _ _ _ _ _ _ _ _ _ _ _ _ _ _ _ _ _ _ _ _ _ _ _ _ _ _ _ _ _ _ _ _ _ _ _ _ _ _ _ _ _ _ _ _ _ _ _ _ _ _ _ _ _ _ _ _ _ _ _ _ _ _ _ _ _ _ _ _ _ _ _ _ _ _ _ _ _ _ _ _ _ _ _ _ _ _ _ _ _ _ _ _ _ _ _ _ _ _ _ _ _ _ _ _ _ _ _ _ _ _ _ _ _ _ _ _ _ _ _ _ _ _ _ _ _ _ _ _ _ _ _ _ _ _ _ _ _ _ _ _ _ _ _ _ _ _ _ _ _ _ _ _ _ _ _ _ _ _ _ _ _ _ _ _ _ _ _ _ _ _ _ _ _ _ _ _ _ _ _ _ _ _ _ _ _ _ _ _ _ _ _ _ _ _ _ _ _ _ _ _ _ _ _ _ _ _ _ _ _ _ _ _ _ _ _ _ _ _ _ _ _ _ _ _ _ _ _ _ _ _ _ _ _ _ _ _ _ _ _ _ _ _ _ _ _ _ _ _ _ _ _ _ _ _ _ _ _ _ _ _ _ _ _ _ _ _ _ _ _ _ _ _ _ _ _ _ _ _ _ _ _ _ _ _ _ _ _ _ _ _ _ _ _ _ _ _ _ _ _ _ _ _ _ _ _ _ _ _ _ _ _ _ _ _ _ _ _ _ _ _ _ _ _ _ _ _ _ _ _ _ _ _ _ _ _ _ _ _ _ _ _ _ _ _ _ _ _ _ _ _ _ _ _ _ _ _ _ _ _ _ _ _ _ _ _ _ _ _ _ _ _ _ _ _ _ _ _ _ _ _ _ _ _ _ _ _ _ _ _ _ _ _ _ _ _ _ _ _ _ _ _ _ _ _ _ _ _ _ _ _ _ _ _ _ _ _ _ _ _ _ _ _ _ _ _ _ _ _ _ _ _ _ _ _ _ _ _ _ _ _ _ _ _ _ _ _ _ _ _ _ _ _ _ _ _ _ _ _ _ _ _ _ _ _ _ _ _ _ _ _ _ _ _ _ _ _ _ _ _ _ _ _ _ _ _ _ _ _ _ _ _ _ _ _ _ _ _ _ _
end Go.Proofs.YtahggbaandcddaaGreatDoor.lawWidths
