/- The law of widths: a piece of its walk. -/
import Derived.Test.YtahggbaandcddaaGreatDoorWtL
import Derived.Test.YtahggbaandcddaaGreatDoorWnC
import Derived.Deep.CutRange
import Derived.BigRegion
import Derived.Test.YtahggbaandcddaaGreatDoorWt7

namespace Go.Proofs.YtahggbaandcddaaGreatDoor.lawWidths
open Go Go.RowKit Go.Proofs.YtahggbaandcddaaGreatDoor
set_option linter.unusedVariables false
set_option linter.unusedSimpArgs false

attribute [local irreducible] wpQuiet in
set_option maxHeartbeats 4000000 in
set_option maxRecDepth 100000 in
theorem p6 (w wr : World) (f : Fc) (S : Value) (HV : Hid (validF f = true)) (l : List UInt8) (HT : Hid (vText l = true)) (HMX : Hid (MaxW w)) (HSP : Hid (SpT w)) (g5 : Nat) (ws : List (List UInt8)) (PL : List Int) (due : Int) (HO : Hid (WtO f l ws PL due)) (Aw : Option Addr) (cw : Nat) (hcw : ws.length ≤ cw) (Ap : Option Addr) (cp : Nat) (m : Int) (hm0 : 0 ≤ m ∧ m ≤ 4000) (k : Nat) (HFI : Hid (FitAt f ws m k)) (cv cc : Int) (HC : Hid ((cv, cc) = ctrW f l m)) (jl : List Int) (jc : Int) (HJ : Hid ((jl, jc) = jusR f l m)) (J1 : Option Addr) (d1 : Nat) (J2 : Option Addr) (d2 : Nat) (HF : Hid (HasF wr f S)) (K5 : Hid (Blk wr g5 28 (fcV f S))) (HW : Hid (SlE sv wr Aw ws)) (HJ1 : Hid (SlE i64 wr J1 jl)) (HJ2 : Hid (SlE i64 wr J2 jl)) (HB : Hid (Below w.heap.size w wr))
    (u0 u1 u2 u3 u4 u7 u8 u10 u11 u12 u13 u14 u16 u17 u18 u19 u20 u21 u22 u23 u24 u25 u26 u27 u28 u29 u30 u31 u32 u33 u34 u35 u36 u37 u38 u39 u53 u54 u55 u56 u57 u58 u59 u60 u61 u62 u63 u64 u65 u66 u67 u68 u69 u70 u71 u72 u73 u74 u75 u76 u77 u78 u79 u80 u81 u82 u83 u84 u85 u86 u87 u88 u89 u90 u91 u92 u93 u94 u95 u96 u97 u98 u99 u100 u101 u102 u103 u104 u105 u106 u107 u108 u109 u110 u111 u112 u113 u114 u115 u116 u117 u118 u119 u120 u121 u122 u123 u124 u125 u126 u127 u128 u129 u130 u131 u132 u133 u134 u135 u136 u137 u138 u139 u140 u141 u142 u143 u144 u145 u146 u147 u148 u149 u150 u151 u152 u153 u154 u155 u156 u157 u158 u159 u160 u161 u162 u163 u164 u165 u166 u167 u168 u169 u170 u171 u172 u173 u174 u175 u176 u177 u178 u179 u180 u181 u182 u183 u184 u185 u186 u187 u188 u189 u190 u191 u192 u193 u194 u195 u196 u197 u198 u199 u200 u201 u202 u203 u204 u205 u206 u207 u208 u209 u210 u211 u212 u213 u214 u215 u216 u217 u218 u219 u220 u221 u222 u223 u224 u225 u226 u227 u228 u229 u230 u231 u232 u233 u234 u235 u236 u237 u238 u239 u240 u241 u242 u243 u244 u245 u246 u247 u248 u249 u250 u251 u252 u253 u254 u255 u256 u257 u258 u259 u260 u261 u262 u263 u264 u265 u266 u267 u268 u269 u270 u271 u272 u273 u274 u275 u276 u277 u278 u279 u280 u281 u282 u283 u284 u285 u286 u287 u288 u289 u290 u291 u292 u293 u294 u295 u296 u297 u298 u299 u300 u301 u302 u303 u304 u305 u306 u307 u308 u309 u310 u311 u312 u313 u314 u315 u316 u317 u318 u319 u320 u321 u322 u323 u324 u325 u326 u327 u328 u329 u330 u331 u332 u333 u334 u335 u336 u337 u338 u339 u340 u341 u342 u343 u344 u345 u346 u347 u348 u349 u350 u351 u352 u353 u354 u355 u356 u357 u358 u359 u360 u361 u362 u363 u364 u365 u366 u367 u368 u369 u370 u371 u372 u373 u374 u375 u376 u377 u378 u379 u380 u381 u382 u383 u384 u385 u386 u387 u388 u389 u390 u391 u392 u393 u394 u395 u396 u397 u398 u399 u400 u401 u402 u403 u404 u405 u406 u407 u408 u409 u410 u411 u412 u413 u414 u415 u416 u417 u418 u419 u420 u421 u422 u423 u424 u425 u426 u427 u428 u429 u430 u431 u432 u433 u434 u435 u436 u437 u438 u439 u440 u441 u442 u443 u444 u445 u446 u447 u448 u449 u450 u451 u452 u453 u454 u455 u456 u457 u458 u459 u460 u461 u462 u463 u464 u465 u466 u467 u468 u469 u470 u471 u472 u473 u474 u475 u476 u477 u478 u479 u480 u481 u482 u483 u484 u485 u486 u487 u488 u489 u490 u491 u492 u493 u494 u495 u496 u497 u498 u499 u500 u501 u502 u503 u504 u505 u506 u507 u508 u509 u510 u511 u512 u513 u514 u515 u516 u517 u518 u519 u520 u521 u522 u523 u524 u525 u526 u527 u528 u529 u530 u531 u532 u533 u534 u535 u536 u537 u538 u539 u540 u541 u542 u543 u544 u545 u546 u547 u548 u549 u550 u551 u552 u553 u554 u555 u556 u557 u558 u559 u560 u561 u562 u563 u564 u565 u566 u567 u568 u569 u570 u571 u572 u573 u574 u575 u576 u577 u578 u579 u580 u581 u582 u583 u584 u585 u586 u587 u588 u589 u590 u591 u592 u593 u594 u595 u596 u597 u598 u599 u600 u601 u602 u603 u604 u605 u606 u607 u608 u609 u610 u611 u612 u613 u614 u615 u616 u617 u618 u619 u620 u621 u622 u623 u624 u625 u626 u627 u628 u629 u630 u631 : Value) :
    Code.wp Tryz.prog (partOf Tryz.f3 [true, true, true, true, true, true, true, true, true, true, true, true, true, true, true, true, true, true, true, true, true, true, true]) (bodyPost Tryz.prog Tryz.f3 fun e w' => e = .returned (.bool true) ∧ Below w.heap.size w w')
      ⟨#[u0, u1, u2, u3, u4, .pointer (some ⟨g5, 0, none⟩), .string ⟨l.toArray⟩, u7, u8, .int .i64 due, u10, u11, u12, u13, u14, .slice Aw ws.length cw, u16, u17, u18, u19, u20, u21, u22, u23, u24, u25, u26, u27, u28, u29, u30, u31, u32, u33, u34, u35, u36, u37, u38, u39, .int .i64 m, .int .i64 cv, .int .i64 cc, .int .i64 cv, .int .i64 cc, .slice J1 jl.length d1, .int .i64 jc, .slice J2 jl.length d2, .int .i64 jc, .int .i64 (k : Nat), .int .i64 0, .int .i64 (k : Nat), .int .i64 0, u53, u54, u55, u56, u57, u58, u59, u60, u61, u62, u63, u64, u65, u66, u67, u68, u69, u70, u71, u72, u73, u74, u75, u76, u77, u78, u79, u80, u81, u82, u83, u84, u85, u86, u87, u88, u89, u90, u91, u92, u93, u94, u95, u96, u97, u98, u99, u100, u101, u102, u103, u104, u105, u106, u107, u108, u109, u110, u111, u112, u113, u114, u115, u116, u117, u118, u119, u120, u121, u122, u123, u124, u125, u126, u127, u128, u129, u130, u131, u132, u133, u134, u135, u136, u137, u138, u139, u140, u141, u142, u143, u144, u145, u146, u147, u148, u149, u150, u151, u152, u153, u154, u155, u156, u157, u158, u159, u160, u161, u162, u163, u164, u165, u166, u167, u168, u169, u170, u171, u172, u173, u174, u175, u176, u177, u178, u179, u180, u181, u182, u183, u184, u185, u186, u187, u188, u189, u190, u191, u192, u193, u194, u195, u196, u197, u198, u199, u200, u201, u202, u203, u204, u205, u206, u207, u208, u209, u210, u211, u212, u213, u214, u215, u216, u217, u218, u219, u220, u221, u222, u223, u224, u225, u226, u227, u228, u229, u230, u231, u232, u233, u234, u235, u236, u237, u238, u239, u240, u241, u242, u243, u244, u245, u246, u247, u248, u249, u250, u251, u252, u253, u254, u255, u256, u257, u258, u259, u260, u261, u262, u263, u264, u265, u266, u267, u268, u269, u270, u271, u272, u273, u274, u275, u276, u277, u278, u279, u280, u281, u282, u283, u284, u285, u286, u287, u288, u289, u290, u291, u292, u293, u294, u295, u296, u297, u298, u299, u300, u301, u302, u303, u304, u305, u306, u307, u308, u309, u310, u311, u312, u313, u314, u315, u316, u317, u318, u319, u320, u321, u322, u323, u324, u325, u326, u327, u328, u329, u330, u331, u332, u333, u334, u335, u336, u337, u338, u339, u340, u341, u342, u343, u344, u345, u346, u347, u348, u349, u350, u351, u352, u353, u354, u355, u356, u357, u358, u359, u360, u361, u362, u363, u364, u365, u366, u367, u368, u369, u370, u371, u372, u373, u374, u375, u376, u377, u378, u379, u380, u381, u382, u383, u384, u385, u386, u387, u388, u389, u390, u391, u392, u393, u394, u395, u396, u397, u398, u399, u400, u401, u402, u403, u404, u405, u406, u407, u408, u409, u410, u411, u412, u413, u414, u415, u416, u417, u418, u419, u420, u421, u422, u423, u424, u425, u426, u427, u428, u429, u430, u431, u432, u433, u434, u435, u436, u437, u438, u439, u440, u441, u442, u443, u444, u445, u446, u447, u448, u449, u450, u451, u452, u453, u454, u455, u456, u457, u458, u459, u460, u461, u462, u463, u464, u465, u466, u467, u468, u469, u470, u471, u472, u473, u474, u475, u476, u477, u478, u479, u480, u481, u482, u483, u484, u485, u486, u487, u488, u489, u490, u491, u492, u493, u494, u495, u496, u497, u498, u499, u500, u501, u502, u503, u504, u505, u506, u507, u508, u509, u510, u511, u512, u513, u514, u515, u516, u517, u518, u519, u520, u521, u522, u523, u524, u525, u526, u527, u528, u529, u530, u531, u532, u533, u534, u535, u536, u537, u538, u539, u540, u541, u542, u543, u544, u545, u546, u547, u548, u549, u550, u551, u552, u553, u554, u555, u556, u557, u558, u559, u560, u561, u562, u563, u564, u565, u566, u567, u568, u569, u570, u571, u572, u573, u574, u575, u576, u577, u578, u579, u580, u581, u582, u583, u584, u585, u586, u587, u588, u589, u590, u591, u592, u593, u594, u595, u596, u597, u598, u599, u600, u601, u602, u603, u604, u605, u606, u607, u608, u609, u610, u611, u612, u613, u614, u615, u616, u617, u618, u619, u620, u621, u622, u623, u624, u625, u626, u627, u628, u629, u630, u631], []⟩ wr := by
  conv => arg 2; whnf
  simp only [List.append_eq, List.cons_append, List.nil_append]
  have hmany := HO.out.ws.many
  have hd0 := HO.out.due_in
  have hde := HO.out.de
  have hkw := HFI.out.1
  have hall := fitAt_all HO.out.vF HO.out.ws hm0.1 HFI.out
  rw [HO.out.sums] at hall
  have hnz := HO.out.none
  have hwe := HO.out.we
  have hcv := HC.out
  unfold ctrW at hcv
  rw [← hde] at hcv
  have hjj := HJ.out
  unfold jusR at hjj
  rw [← hde, ← hwe] at hjj
  clear hde hwe
  have b1 : (cc != cc) = false := by simp
  have b2 : (cv != cv) = false := by simp
  have b3 : (jc != jc) = false := by simp
  have b4 : (((k : Nat) : Int) != ((k : Nat) : Int)) = false := by simp
  have b5 : ¬ ((k : Nat) : Int) < 0 := by omega
  have b6 : ¬ ((ws.length : Nat) : Int) < ((k : Nat) : Int) := by omega
  have hjl60 : jl.length ≤ 60 := by
    rcases Decidable.em (due ≤ m ∧ 1 < ws.length) with h | h
    · rw [if_pos h] at hjj; cases hjj; rw [jusW_length]; omega
    · rw [if_neg h] at hjj; cases hjj; simp
  by_cases hle : due ≤ m
  · have hkn : k = ws.length := hall.2 hle
    rw [if_pos hle] at hcv
    injection hcv with hcv1 hcc1
    subst hcc1
    have e1 : IntKind.i64.wrap (m - due) = m - due := IntWalk.i64_in _ (by omega)
    have e2 : IntKind.i64.wrap (2 * cv) = 2 * cv := IntWalk.i64_in _ (by omega)
    have e3 : IntKind.i64.wrap (2 * cv + 1) = 2 * cv + 1 := IntWalk.i64_in _ (by omega)
    have c1 : ¬ m - due < 2 * cv := by omega
    have c2 : ¬ 2 * cv + 1 < m - due := by omega
    have c3 : (((k : Nat) : Int) == ((ws.length : Nat) : Int)) = true := by rw [hkn]; simp
    clear hcv1 hall
    by_cases h1 : 1 < ws.length
    · rw [if_pos ⟨hle, h1⟩] at hjj
      injection hjj with hj1 hj2
      subst hj2
      have c4 : (1 : Int) < ((ws.length : Nat) : Int) := by omega
      have HJL := Lib.hid hj1
      clear hj1 hkn
      obtain ⟨N, hN⟩ : ∃ N, N = ws.length - 1 := ⟨_, rfl⟩
      rw [← hN] at HJL
      have hN1 : ws.length = N + 1 := by omega
      have hN0 : 0 < N := by omega
      clear hN
      have HN1 := Lib.hid hN1
      clear hN1
      repeat (first | go_values | go_skip | go_guarded | go_step | go_upon)
      go_at_call 12
      refine (same_any J1 J2 d1 d2 jl jl _ _ wr rfl rfl (by omega) (by omega) HJ1.out HJ2.out).mono ?_
      rintro e w1 ⟨rfl, hb⟩
      rw [decide_eq_true (rfl : jl = jl)]
      dsimp only
      replace HF := Lib.hid (HF.out.next hb)
      replace K5 := Lib.hid (K5.out.next hb)
      replace HW := Lib.hid (HW.out.next hb)
      replace HJ1 := Lib.hid (HJ1.out.next hb)
      replace HJ2 := Lib.hid (HJ2.out.next hb)
      replace HB := Lib.hid (below_step HB.out hb)
      clear hb
      repeat ((with_reducible fail_if_success (show Code.wp _ (Code.seq (Code.seq (Code.region 64 _ _) _) _) _ _ _)); first | go_values | go_skip | go_guarded | go_step | go_upon)
      exact p7 w _ f S HV l HT HMX HSP g5 ws PL due HO Aw cw hcw Ap cp m hm0 k HFI N HN1 hN0 (m - due) (Lib.hid (by omega)) (by omega) jl HJL J2 d2 HF K5 HW HJ2 HB _ _ _ _ _ _ _ _ _ _ _ _ _ _ _ _ _ _ _ _ _ _ _ _ _ _ _ _ _ _ _ _ _ _ _ _ _ _ _ _ _ _ _ _ _ _ _ _ _ _ _ _ _ _ _ _ _ _ _ _ _ _ _ _ _ _ _ _ _ _ _ _ _ _ _ _ _ _ _ _ _ _ _ _ _ _ _ _ _ _ _ _ _ _ _ _ _ _ _ _ _ _ _ _ _ _ _ _ _ _ _ _ _ _ _ _ _ _ _ _ _ _ _ _ _ _ _ _ _ _ _ _ _ _ _ _ _ _ _ _ _ _ _ _ _ _ _ _ _ _ _ _ _ _ _ _ _ _ _ _ _ _ _ _ _ _ _ _ _ _ _ _ _ _ _ _ _ _ _ _ _ _ _ _ _ _ _ _ _ _ _ _ _ _ _ _ _ _ _ _ _ _ _ _ _ _ _ _ _ _ _ _ _ _ _ _ _ _ _ _ _ _ _ _ _ _ _ _ _ _ _ _ _ _ _ _ _ _ _ _ _ _ _ _ _ _ _ _ _ _ _ _ _ _ _ _ _ _ _ _ _ _ _ _ _ _ _ _ _ _ _ _ _ _ _ _ _ _ _ _ _ _ _ _ _ _ _ _ _ _ _ _ _ _ _ _ _ _ _ _ _ _ _ _ _ _ _ _ _ _ _ _ _ _ _ _ _ _ _ _ _ _ _ _ _ _ _ _ _ _ _ _ _ _ _ _ _ _ _ _ _ _ _ _ _ _ _ _ _ _ _ _ _ _ _ _ _ _ _ _ _ _ _ _ _ _ _ _ _ _ _ _ _ _ _ _ _ _ _ _ _ _ _ _ _ _ _ _ _ _ _ _ _ _ _ _ _ _ _ _ _ _ _ _ _ _ _ _ _ _ _ _ _ _ _ _ _ _ _ _ _ _ _ _ _ _ _ _ _ _ _ _ _ _ _ _ _ _ _ _ _ _ _ _ _ _ _ _ _ _ _ _ _ _ _ _ _ _ _ _ _ _ _ _ _ _ _ _ _ _ _ _ _ _ _ _ _ _ _ _ _ _ _ _ _ _ _ _ _ _ _ _ _ _ _ _ _ _ _ _ _ _ _ _ _ _ _ _ _ _ _ _ _ _ _ _ _ _ _ _ _ _ _ _ _ _ _ _ _ _ _ _ _ _ _ _ _ _ _ _ _ _ _ _ _ _ _ _ _ _ _ _ _ _ _ _ _ _ _ _ _ _ _ _ _ _ _ _ _ _ _ _ _ _ _ _ _ _ _ _ _ _ _ _ _ _ _ _ _ _ _ _ _ _ _ _ _ _ _ _ _ _ _ _ _ _ _ _ _ _ _ _ _ _ _ _ _ _ _ _ _ _ _ _
    · rw [if_neg (fun h => h1 h.2)] at hjj
      injection hjj with hj1 hj2
      subst hj2
      have c4 : ¬ (1 : Int) < ((ws.length : Nat) : Int) := by omega
      clear hkn hj1
      repeat (first | go_values | go_skip | go_guarded | go_step | go_upon)
      go_at_call 12
      refine (same_any J1 J2 d1 d2 jl jl _ _ wr rfl rfl (by omega) (by omega) HJ1.out HJ2.out).mono ?_
      rintro e w2 ⟨rfl, hb⟩
      rw [decide_eq_true (rfl : jl = jl)]
      dsimp only
      replace HF := Lib.hid (HF.out.next hb)
      replace K5 := Lib.hid (K5.out.next hb)
      replace HW := Lib.hid (HW.out.next hb)
      replace HJ1 := Lib.hid (HJ1.out.next hb)
      replace HJ2 := Lib.hid (HJ2.out.next hb)
      replace HB := Lib.hid (below_step HB.out hb)
      clear hb
      repeat ((with_reducible fail_if_success (show Code.wp _ (Code.seq (Code.region 74 _ _) _) _ _ _)); first | go_values | go_skip | go_guarded | go_step | go_upon)
      exact p8 w _ f S HV l HT HMX HSP g5 ws PL due HO Aw cw hcw Ap cp m hm0 k HFI HF K5 HW HB _ _ _ _ _ _ _ _ _ _ _ _ _ _ _ _ _ _ _ _ _ _ _ _ _ _ _ _ _ _ _ _ _ _ _ _ _ _ _ _ _ _ _ _ _ _ _ _ _ _ _ _ _ _ _ _ _ _ _ _ _ _ _ _ _ _ _ _ _ _ _ _ _ _ _ _ _ _ _ _ _ _ _ _ _ _ _ _ _ _ _ _ _ _ _ _ _ _ _ _ _ _ _ _ _ _ _ _ _ _ _ _ _ _ _ _ _ _ _ _ _ _ _ _ _ _ _ _ _ _ _ _ _ _ _ _ _ _ _ _ _ _ _ _ _ _ _ _ _ _ _ _ _ _ _ _ _ _ _ _ _ _ _ _ _ _ _ _ _ _ _ _ _ _ _ _ _ _ _ _ _ _ _ _ _ _ _ _ _ _ _ _ _ _ _ _ _ _ _ _ _ _ _ _ _ _ _ _ _ _ _ _ _ _ _ _ _ _ _ _ _ _ _ _ _ _ _ _ _ _ _ _ _ _ _ _ _ _ _ _ _ _ _ _ _ _ _ _ _ _ _ _ _ _ _ _ _ _ _ _ _ _ _ _ _ _ _ _ _ _ _ _ _ _ _ _ _ _ _ _ _ _ _ _ _ _ _ _ _ _ _ _ _ _ _ _ _ _ _ _ _ _ _ _ _ _ _ _ _ _ _ _ _ _ _ _ _ _ _ _ _ _ _ _ _ _ _ _ _ _ _ _ _ _ _ _ _ _ _ _ _ _ _ _ _ _ _ _ _ _ _ _ _ _ _ _ _ _ _ _ _ _ _ _ _ _ _ _ _ _ _ _ _ _ _ _ _ _ _ _ _ _ _ _ _ _ _ _ _ _ _ _ _ _ _ _ _ _ _ _ _ _ _ _ _ _ _ _ _ _ _ _ _ _ _ _ _ _ _ _ _ _ _ _ _ _ _ _ _ _ _ _ _ _ _ _ _ _ _ _ _ _ _ _ _ _ _ _ _ _ _ _ _ _ _ _ _ _ _ _ _ _ _ _ _ _ _ _ _ _ _ _ _ _ _ _ _ _ _ _ _ _ _ _ _ _ _ _ _ _ _ _ _ _ _ _ _ _ _ _ _ _ _ _ _ _ _ _ _ _ _ _ _ _ _ _ _ _ _ _ _ _ _ _ _ _ _ _ _ _ _ _ _ _ _ _ _ _ _ _ _ _ _ _ _ _ _ _ _ _ _ _ _ _ _ _ _ _ _ _ _ _ _ _ _ _ _ _ _ _ _ _ _ _ _ _ _ _ _ _ _ _ _ _ _ _ _ _ _ _ _ _ _ _ _ _ _ _ _ _ _ _ _ _ _ _ _ _ _ _ _ _ _ _ _ _ _ _ _ _ _ _ _ _ _ _
  · have hkn : ¬ k = ws.length := fun e => hle (hall.1 e)
    rw [if_neg hle] at hcv
    injection hcv with hcv1 hcc1
    subst hcc1
    subst hcv1
    rw [if_neg (fun h => hle h.1)] at hjj
    injection hjj with hj1 hj2
    subst hj2
    have c3 : (((k : Nat) : Int) == ((ws.length : Nat) : Int)) = false := by rw [beq_eq_false_iff_ne]; omega
    clear hall hkn hj1
    repeat (first | go_values | go_skip | go_guarded | go_step | go_upon)
    go_at_call 12
    refine (same_any J1 J2 d1 d2 jl jl _ _ wr rfl rfl (by omega) (by omega) HJ1.out HJ2.out).mono ?_
    rintro e w3 ⟨rfl, hb⟩
    rw [decide_eq_true (rfl : jl = jl)]
    dsimp only
    replace HF := Lib.hid (HF.out.next hb)
    replace K5 := Lib.hid (K5.out.next hb)
    replace HW := Lib.hid (HW.out.next hb)
    replace HJ1 := Lib.hid (HJ1.out.next hb)
    replace HJ2 := Lib.hid (HJ2.out.next hb)
    replace HB := Lib.hid (below_step HB.out hb)
    clear hb
    repeat ((with_reducible fail_if_success (show Code.wp _ (Code.seq (Code.region 74 _ _) _) _ _ _)); first | go_values | go_skip | go_guarded | go_step | go_upon)
    exact p8 w _ f S HV l HT HMX HSP g5 ws PL due HO Aw cw hcw Ap cp m hm0 k HFI HF K5 HW HB _ _ _ _ _ _ _ _ _ _ _ _ _ _ _ _ _ _ _ _ _ _ _ _ _ _ _ _ _ _ _ _ _ _ _ _ _ _ _ _ _ _ _ _ _ _ _ _ _ _ _ _ _ _ _ _ _ _ _ _ _ _ _ _ _ _ _ _ _ _ _ _ _ _ _ _ _ _ _ _ _ _ _ _ _ _ _ _ _ _ _ _ _ _ _ _ _ _ _ _ _ _ _ _ _ _ _ _ _ _ _ _ _ _ _ _ _ _ _ _ _ _ _ _ _ _ _ _ _ _ _ _ _ _ _ _ _ _ _ _ _ _ _ _ _ _ _ _ _ _ _ _ _ _ _ _ _ _ _ _ _ _ _ _ _ _ _ _ _ _ _ _ _ _ _ _ _ _ _ _ _ _ _ _ _ _ _ _ _ _ _ _ _ _ _ _ _ _ _ _ _ _ _ _ _ _ _ _ _ _ _ _ _ _ _ _ _ _ _ _ _ _ _ _ _ _ _ _ _ _ _ _ _ _ _ _ _ _ _ _ _ _ _ _ _ _ _ _ _ _ _ _ _ _ _ _ _ _ _ _ _ _ _ _ _ _ _ _ _ _ _ _ _ _ _ _ _ _ _ _ _ _ _ _ _ _ _ _ _ _ _ _ _ _ _ _ _ _ _ _ _ _ _ _ _ _ _ _ _ _ _ _ _ _ _ _ _ _ _ _ _ _ _ _ _ _ _ _ _ _ _ _ _ _ _ _ _ _ _ _ _ _ _ _ _ _ _ _ _ _ _ _ _ _ _ _ _ _ _ _ _ _ _ _ _ _ _ _ _ _ _ _ _ _ _ _ _ _ _ _ _ _ _ _ _ _ _ _ _ _ _ _ _ _ _ _ _ _ _ _ _ _ _ _ _ _ _ _ _ _ _ _ _ _ _ _ _ _ _ _ _ _ _ _ _ _ _ _ _ _ _ _ _ _ _ _ _ _ _ _ _ _ _ _ _ _ _ _ _ _ _ _ _ _ _ _ _ _ _ _ _ _ _ _ _ _ _ _ _ _ _ _ _ _ _ _ _ _ _ _ _ _ _ _ _ _ _ _ _ _ _ _ _ _ _ _ _ _ _ _ _ _ _ _ _ _ _ _ _ _ _ _ _ _ _ _ _ _ _ _ _ _ _ _ _ _ _ _ _ _ _ _ _ _ _ _ _ _ _ _ _ _ _ _ _ _ _ _ _ _ _ _ _ _ _ _ _ _ _ _ _ _ _ _ _ _ _ _ _ _ _ _ _ _ _ _ _ _ _ _ _ _ _ _ _ _ _ _ _ _ _ _ _ _ _ _ _ _ _ _ _ _ _ _ _ _ _ _ _ _ _ _ _ _ _ _ _ _ _ _ _ _ _ _ _ _
end Go.Proofs.YtahggbaandcddaaGreatDoor.lawWidths
