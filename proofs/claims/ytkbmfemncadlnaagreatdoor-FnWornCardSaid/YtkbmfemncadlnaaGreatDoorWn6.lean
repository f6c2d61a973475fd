/- The law of what is worn: a piece of its walk. -/
import Derived.Test.YtkbmfemncadlnaaGreatDoorWnK
import Derived.Deep.CutRange
import Derived.BigRegion
import Derived.Test.YtkbmfemncadlnaaGreatDoorWn7


namespace Go.Proofs.YtkbmfemncadlnaaGreatDoor.lawWorn
open Go Go.RowKit Go.Proofs.YtkbmfemncadlnaaGreatDoor
set_option linter.unusedVariables false
set_option linter.unusedSimpArgs false

attribute [local irreducible] wpQuiet in
set_option maxHeartbeats 4000000 in
set_option maxRecDepth 100000 in
theorem p6 (w wr : World) (Aa : Option Addr) (na ca : Nat) (a : List Int) (Ab : Option Addr) (nb cb : Nat) (b : List Int) (HNA : Hid (a.length = na)) (HNB : Hid (b.length = nb)) (hna : na ≤ 3000) (hnb : nb ≤ 3000) (HSA : Hid (SlE u8 w Aa a)) (HSB : Hid (SlE u8 w Ab b)) (HYA : Hid (Byt a)) (HYB : Hid (Byt b)) (HMX : Hid (MaxW w)) (hs : List (List Int)) (Bh : Option Addr) (dh : Nat) (HOK : Hid (HsOk hs)) (kn : List Int) (Bk : Option Addr) (dk : Nat) (HG : Hid (gapsOk kn = true)) (I M : Int) (HNR : Hid (∀ i, i < hs.length → M ≤ ((apartN (rdL hs i) kn : Nat) : Int) ∧ (((apartN (rdL hs i) kn : Nat) : Int) = M → I ≤ (i : Int)) ∧ ((i : Int) = I → ((apartN (rdL hs i) kn : Nat) : Int) = M))) (HH : Hid (Sl2 wr Bh hs)) (HK : Hid (SlE i64 wr Bk kn)) (HB : Hid (Below w.heap.size w wr))
    (u2 u3 u4 u5 u6 u7 u8 u9 u10 u11 u12 u13 u14 u15 u16 u17 u18 u19 u20 u21 u22 u23 u24 u25 u26 u27 u28 u29 u30 u31 u32 u33 u35 u36 u37 u38 u40 u41 u42 u43 u46 u47 u48 u49 u50 u51 u52 u53 u54 u55 u56 u57 u58 u59 u60 u61 u62 u63 u64 u65 u66 u67 u68 u69 u70 u71 u72 u73 u74 u75 u76 u77 u78 u79 u80 u81 u82 u83 u84 u85 u86 u87 u88 u89 u90 u91 u92 u93 u94 u95 u96 u97 u98 u99 u100 u101 u102 u103 u104 u105 u106 u107 u108 u109 u110 u111 u112 u113 u114 u115 u116 u117 u118 u119 u120 u121 u122 u123 u124 u125 u126 u127 u128 u129 u130 u131 u132 u133 u134 u135 u136 u137 u138 u139 u140 u141 u142 u143 u144 u145 u146 u147 u148 u149 u150 u151 u152 u153 u154 u155 u156 u157 u158 u159 u160 u161 u162 u163 u164 u165 u166 u167 u168 u169 u170 u171 u172 u173 u174 u175 u176 u177 u178 u179 u180 u181 u182 u183 u184 u185 u186 u187 u188 u189 u190 u191 u192 u193 u194 u195 u196 u197 u198 u199 u200 u201 u202 u203 u204 u205 u206 u207 u208 u209 u210 u211 u212 u213 u214 u215 u216 u217 u218 u219 u220 u221 u222 u223 u224 u225 u226 u227 u228 u229 u230 u231 u232 u233 u234 u235 u236 u237 u238 u239 u240 u241 u242 u243 u244 u245 u246 u247 u248 u249 u250 u251 u252 u253 u254 u255 u256 u257 u258 u259 u260 u261 u262 u263 u264 u265 u266 u267 u268 u269 u270 u271 u272 u273 u274 u275 u276 u277 u278 u279 u280 u281 u282 u283 u284 u285 u286 u287 u288 u289 u290 u291 u292 u293 u294 u295 u296 u297 u298 u299 u300 u301 u302 u303 u304 u305 u306 u307 u308 u309 u310 u311 u312 u313 u314 u315 u316 u317 u318 u319 u320 u321 u322 u323 u324 u325 u326 u327 u328 u329 u330 u331 u332 u333 u334 u335 u336 u337 u338 u339 u340 u341 u342 u343 u344 u345 u346 u347 u348 u349 u350 u351 u352 u353 u354 u355 u356 u357 u358 u359 u360 u361 u362 u363 u364 u365 u366 u367 u368 u369 u370 u371 u372 u373 u374 u375 u376 u377 u378 u379 u380 u381 u382 u383 u384 u385 u386 u387 u388 u389 u390 u391 u392 u393 u394 u395 u396 u397 u398 u399 u400 u401 u402 u403 u404 u405 u406 u407 u408 u409 u410 u411 u412 u413 u414 u415 u416 u417 u418 u419 u420 u421 u422 u423 u424 u425 u426 u427 u428 u429 u430 u431 u432 u433 u434 u435 u436 u437 u438 u439 u440 u441 u442 u443 u444 u445 u446 u447 u448 u449 u450 u451 u452 u453 u454 u455 u456 u457 u458 u459 u460 u461 u462 u463 u464 u465 u466 u467 u468 u469 u470 u471 u472 u473 u474 u475 u476 u477 u478 u479 u480 u481 u482 u483 u484 u485 u486 u487 u488 u489 u490 u491 u492 u493 u494 u495 u496 u497 u498 u499 u500 u501 u502 u503 u504 u505 u506 u507 u508 u509 u510 u511 u512 u513 u514 u515 u516 u517 u518 u519 u520 u521 u522 u523 u524 u525 u526 u527 u528 u529 u530 u531 u532 u533 u534 u535 u536 u537 u538 u539 u540 u541 u542 u543 u544 u545 u546 u547 u548 u549 u550 u551 u552 u553 u554 u555 u556 u557 u558 u559 u560 u561 u562 u563 u564 u565 u566 u567 u568 u569 u570 u571 u572 u573 u574 u575 u576 u577 u578 u579 u580 u581 u582 u583 u584 u585 u586 u587 u588 u589 u590 u591 u592 u593 u594 u595 u596 u597 u598 u599 u600 u601 u602 u603 u604 u605 u606 u607 u608 u609 u610 u611 u612 u613 u614 u615 : Value) :
    Code.wp Tryz.prog (partOf Tryz.f3 [true, true, true, true, true, true, true, true, true, true, true, true, true, true, true, true, true, true, true, true, true, true, true, true, true, true, true, true, true, true, true, true, true, true, true, true]) (bodyPost Tryz.prog Tryz.f3 fun e w' => e = .returned (.bool true) ∧ Below w.heap.size w w')
      ⟨#[.slice Aa na ca, .slice Ab nb cb, u2, u3, u4, u5, u6, u7, u8, u9, u10, u11, u12, u13, u14, u15, u16, u17, u18, u19, u20, u21, u22, u23, u24, u25, u26, u27, u28, u29, u30, u31, u32, u33, .slice Bh hs.length dh, u35, u36, u37, u38, .slice Bk kn.length dk, u40, u41, u42, u43, .int .i64 I, .int .i64 M, u46, u47, u48, u49, u50, u51, u52, u53, u54, u55, u56, u57, u58, u59, u60, u61, u62, u63, u64, u65, u66, u67, u68, u69, u70, u71, u72, u73, u74, u75, u76, u77, u78, u79, u80, u81, u82, u83, u84, u85, u86, u87, u88, u89, u90, u91, u92, u93, u94, u95, u96, u97, u98, u99, u100, u101, u102, u103, u104, u105, u106, u107, u108, u109, u110, u111, u112, u113, u114, u115, u116, u117, u118, u119, u120, u121, u122, u123, u124, u125, u126, u127, u128, u129, u130, u131, u132, u133, u134, u135, u136, u137, u138, u139, u140, u141, u142, u143, u144, u145, u146, u147, u148, u149, u150, u151, u152, u153, u154, u155, u156, u157, u158, u159, u160, u161, u162, u163, u164, u165, u166, u167, u168, u169, u170, u171, u172, u173, u174, u175, u176, u177, u178, u179, u180, u181, u182, u183, u184, u185, u186, u187, u188, u189, u190, u191, u192, u193, u194, u195, u196, u197, u198, u199, u200, u201, u202, u203, u204, u205, u206, u207, u208, u209, u210, u211, u212, u213, u214, u215, u216, u217, u218, u219, u220, u221, u222, u223, u224, u225, u226, u227, u228, u229, u230, u231, u232, u233, u234, u235, u236, u237, u238, u239, u240, u241, u242, u243, u244, u245, u246, u247, u248, u249, u250, u251, u252, u253, u254, u255, u256, u257, u258, u259, u260, u261, u262, u263, u264, u265, u266, u267, u268, u269, u270, u271, u272, u273, u274, u275, u276, u277, u278, u279, u280, u281, u282, u283, u284, u285, u286, u287, u288, u289, u290, u291, u292, u293, u294, u295, u296, u297, u298, u299, u300, u301, u302, u303, u304, u305, u306, u307, u308, u309, u310, u311, u312, u313, u314, u315, u316, u317, u318, u319, u320, u321, u322, u323, u324, u325, u326, u327, u328, u329, u330, u331, u332, u333, u334, u335, u336, u337, u338, u339, u340, u341, u342, u343, u344, u345, u346, u347, u348, u349, u350, u351, u352, u353, u354, u355, u356, u357, u358, u359, u360, u361, u362, u363, u364, u365, u366, u367, u368, u369, u370, u371, u372, u373, u374, u375, u376, u377, u378, u379, u380, u381, u382, u383, u384, u385, u386, u387, u388, u389, u390, u391, u392, u393, u394, u395, u396, u397, u398, u399, u400, u401, u402, u403, u404, u405, u406, u407, u408, u409, u410, u411, u412, u413, u414, u415, u416, u417, u418, u419, u420, u421, u422, u423, u424, u425, u426, u427, u428, u429, u430, u431, u432, u433, u434, u435, u436, u437, u438, u439, u440, u441, u442, u443, u444, u445, u446, u447, u448, u449, u450, u451, u452, u453, u454, u455, u456, u457, u458, u459, u460, u461, u462, u463, u464, u465, u466, u467, u468, u469, u470, u471, u472, u473, u474, u475, u476, u477, u478, u479, u480, u481, u482, u483, u484, u485, u486, u487, u488, u489, u490, u491, u492, u493, u494, u495, u496, u497, u498, u499, u500, u501, u502, u503, u504, u505, u506, u507, u508, u509, u510, u511, u512, u513, u514, u515, u516, u517, u518, u519, u520, u521, u522, u523, u524, u525, u526, u527, u528, u529, u530, u531, u532, u533, u534, u535, u536, u537, u538, u539, u540, u541, u542, u543, u544, u545, u546, u547, u548, u549, u550, u551, u552, u553, u554, u555, u556, u557, u558, u559, u560, u561, u562, u563, u564, u565, u566, u567, u568, u569, u570, u571, u572, u573, u574, u575, u576, u577, u578, u579, u580, u581, u582, u583, u584, u585, u586, u587, u588, u589, u590, u591, u592, u593, u594, u595, u596, u597, u598, u599, u600, u601, u602, u603, u604, u605, u606, u607, u608, u609, u610, u611, u612, u613, u614, u615], []⟩ wr := by
  conv => arg 2; whnf
  repeat (first | go_values | go_skip | go_guarded | go_step | go_upon)
  go_at_call 6
  refine (at_any Ab nb cb b 2 25 wr HNB.out (by unfold maxLen; omega) (HSB.out.next HB.out) HYB.out (by omega) (by omega)).mono ?_
  rintro e _ ⟨⟨limit, rfl, l0, l1⟩, rfl⟩
  dsimp only
  have hfew := HOK.out.few
  obtain ⟨P, hP⟩ : ∃ P, P = (grpAll (nearB hs limit) hs.length hs.length).1 := ⟨_, rfl⟩
  have hPl : P.length = hs.length := by rw [hP]; exact grpAll_length _
  have HPL := Lib.hid hPl
  have HSAY := Lib.hid (fun (i : Nat) (hi : i < hs.length) => groups_say (n := hs.length) (nearB_sym hs limit) i hi)
  rw [← hP] at HSAY
  have HGI := Lib.hid (fun (w' : World) (h : Sl2 w' Bh hs) => (show Calls Tryz.prog 27 #[.slice Bh hs.length dh, .int .i64 limit] w' (LOut w' P 0) by rw [hP]; exact group_implL Bh dh hs limit w' HOK.out l0 h))
  have HGS := Lib.hid (fun (w' : World) (h : Sl2 w' Bh hs) => (show Calls Tryz.prog 28 #[.slice Bh hs.length dh, .int .i64 limit] w' (LOutC w' P 0) by rw [hP]; exact group_specL Bh dh hs limit w' HOK.out l0 h))
  clear hP hPl
  repeat (first | go_values | go_skip | go_guarded | go_step | go_upon)
  go_at_call 27
  refine (HGI.out wr HH.out).mono ?_
  rintro e w1 ⟨B1, d1, ⟨rfl, hs1⟩, hb⟩
  have HP1 := Lib.hid hs1
  clear hs1
  dsimp only
  replace HH := Lib.hid (HH.out.next hb)
  replace HK := Lib.hid (HK.out.next hb)
  replace HB := Lib.hid (below_step HB.out hb)
  clear hb
  repeat (first | go_values | go_skip | go_guarded | go_step | go_upon)
  go_at_call 28
  refine (HGS.out w1 HH.out).mono ?_
  rintro e w2 ⟨B2, d2, ⟨rfl, hs2, hcap⟩, hb⟩
  have HP2 := Lib.hid hs2
  clear hs2
  dsimp only
  replace HH := Lib.hid (HH.out.next hb)
  replace HK := Lib.hid (HK.out.next hb)
  replace HP1 := Lib.hid (HP1.out.next hb)
  replace HB := Lib.hid (below_step HB.out hb)
  clear hb
  have hpli : (P.length : Int) = (hs.length : Int) := by rw [HPL.out]
  have hpl6 : P.length ≤ 6 := by rw [HPL.out]; exact hfew
  repeat (first | go_values | go_skip | go_guarded | go_step | go_upon)
  go_at_call 25
  refine (same_any B1 B2 d1 d2 P P _ _ w2 rfl rfl (by omega) (by omega) HP1.out HP2.out).mono ?_
  rintro e w3 ⟨rfl, hb⟩
  rw [decide_eq_true (rfl : P = P)]
  dsimp only
  replace HH := Lib.hid (HH.out.next hb)
  replace HK := Lib.hid (HK.out.next hb)
  replace HP1 := Lib.hid (HP1.out.next hb)
  replace HP2 := Lib.hid (HP2.out.next hb)
  replace HB := Lib.hid (below_step HB.out hb)
  clear hb
  clear HP1
  repeat ((with_reducible fail_if_success (show Code.wp _ (Code.loop _) _ _ _)); first | go_values | go_skip | go_guarded | go_step | go_upon)
  clear hpli HGI HGS
  go_loopw [55, 56] (fun u i wx => ∃ k : Nat, k ≤ hs.length ∧ i = .int .i64 k ∧ u = .int .i64 (usedN P k) ∧ Below w3.heap.size w3 wx) (fun _ i _ => hs.length - (intOf i).toNat)
  case atStart => exact ⟨0, by omega, rfl, rfl, Below.refl _ _⟩
  case round =>
    obtain ⟨k, hk, rfl, rfl, hbx⟩ := hrel
    have HBO := Lib.hid hbx
    replace HH := Lib.hid (HH.out.next hbx)
    replace HK := Lib.hid (HK.out.next hbx)
    replace HP2 := Lib.hid (HP2.out.next hbx)
    replace HB := Lib.hid (below_step HB.out hbx)
    clear hbx
    by_cases hlt : k < hs.length
    · skip
      obtain ⟨h1, h2, h3⟩ := HNR.out k hlt
      obtain ⟨q1, q2, q3, q4⟩ := HSAY.out k hlt
      have HQ3 := Lib.hid q3
      have HQ4 := Lib.hid q4
      clear q3 q4
      have hu0 := usedN_pos P k
      have hu6 := usedN_few (n := hs.length) (fun b hb => (HSAY.out b hb).2.1) k (by omega)
      obtain ⟨D, hD⟩ : ∃ D : Int, D = ((apartN (rdL hs k) kn : Nat) : Int) := ⟨_, rfl⟩
      rw [← hD] at h1 h2 h3
      have HD := Lib.hid hD
      have HN1 := Lib.hid h1
      have HN2 := Lib.hid h2
      have HN3 := Lib.hid h3
      clear hD h1 h2 h3
      obtain ⟨ah, B3, c3, rfl, hc3, hs3⟩ := HH.out.some k hlt
      have HC3 := Lib.hid (show CellIs wr (ah.add k) (.slice B3 (rdL hs k).length c3) from hc3)
      have HS3 := Lib.hid hs3
      obtain ⟨ap, rfl, rp⟩ := HP2.out.some k (by rw [HPL.out]; exact hlt)
      have HRP := Lib.hid rp
      clear hs3 rp
      repeat (first | go_values | go_skip | go_guarded | go_step | go_upon)
      go_at_call 29
      refine (apart_implL B3 Bk c3 dk (rdL hs k) kn wr (hsOk_gaps HOK.out hlt) HG.out HS3.out HK.out).mono ?_
      rintro e w4 ⟨rfl, hb⟩
      rw [← HD.out]
      dsimp only
      replace HH := Lib.hid (HH.out.next hb)
      replace HK := Lib.hid (HK.out.next hb)
      replace HP2 := Lib.hid (HP2.out.next hb)
      replace HS3 := Lib.hid (HS3.out.next hb)
      replace HRP := Lib.hid (HRP.out.next hb)
      replace HC3 := Lib.hid (HC3.out.next hb)
      replace HB := Lib.hid (below_step HB.out hb)
      replace HBO := Lib.hid (below_step HBO.out hb)
      clear hb
      clear hc3
      have hkp : k < P.length := by rw [HPL.out]; exact hlt
      have hkpi : (k : Int) < (P.length : Int) := by omega
      repeat ((with_reducible fail_if_success (show Code.wp _ (Code.region 75 _ _) _ _ _)); first | go_values | go_skip | go_guarded | go_step | go_upon)
      refine s75 w _ P k ap d2 hkp D M I HN1.out HN2.out HN3.out q1 q2 HRP HB _ _ _ _ _ _ _ _ _ _ _ _ _ _ _ _ _ _ _ _ _ _ _ _ _ _ _ _ _ _ _ _ _ _ _ _ _ _ _ _ _ _ _ _ _ _ _ _ _ _ _ _ _ _ _ _ _ _ _ _ _ _ _ _ _ _ _ _ _ _ _ _ _ _ _ _ _ _ _ _ _ _ _ _ _ _ _ _ _ _ _ _ _ _ _ _ _ _ _ _ _ _ _ _ _ _ _ _ _ _ _ _ _ _ _ _ _ _ _ _ _ _ _ _ _ _ _ _ _ _ _ _ _ _ _ _ _ _ _ _ _ _ _ _ _ _ _ _ _ _ _ _ _ _ _ _ _ _ _ _ _ _ _ _ _ _ _ _ _ _ _ _ _ _ _ _ _ _ _ _ _ _ _ _ _ _ _ _ _ _ _ _ _ _ _ _ _ _ _ _ _ _ _ _ _ _ _ _ _ _ _ _ _ _ _ _ _ _ _ _ _ _ _ _ _ _ _ _ _ _ _ _ _ _ _ _ _ _ _ _ _ _ _ _ _ _ _ _ _ _ _ _ _ _ _ _ _ _ _ _ _ _ _ _ _ _ _ _ _ _ _ _ _ _ _ _ _ _ _ _ _ _ _ _ _ _ _ _ _ _ _ _ _ _ _ _ _ _ _ _ _ _ _ _ _ _ _ _ _ _ _ _ _ _ _ _ _ _ _ _ _ _ _ _ _ _ _ _ _ _ _ _ _ _ _ _ _ _ _ _ _ _ _ _ _ _ _ _ _ _ _ _ _ _ _ _ _ _ _ _ _ _ _ _ _ _ _ _ _ _ _ _ _ _ _ _ _ _ _ _ _ _ _ _ _ _ _ _ _ _ _ _ _ _ _ _ _ _ _ _ _ _ _ _ _ _ _ _ _ _ _ _ _ _ _ _ _ _ _ _ _ _ _ _ _ _ _ _ _ _ _ _ _ _ _ _ _ _ _ _ _ _ _ _ _ _ _ _ _ _ _ _ _ _ _ _ _ _ _ _ _ _ _ _ _ _ _ _ _ _ _ _ _ _ _ _ _ _ _ _ _ _ _ _ _ _ _ _ _ _ _ _ _ _ _ _ _ _ _ _ _ _ _ _ _ _ _ _ _ _ _ _ _ _ _ _ _ _ _ _ _ _ _ _ _ _ _ _ _ _ _ _ _ _ _ _ _ _ _ _ _ _ _ _ _ _ _ _ _ _ _ _ _ _ _ _ _ _ _ _ _ _ _ _ _ _ _ _ _ _ _ _ _ _ _ _ _ _ _ _ _ _ _ _ _ _ _ _ _ _ _ _ _ _ _ _ _ _ _ _ _ _ _ _ _ _ _ _ _ _ _ ?_
      intro w5c hcut
      intros
      have hb := hcut
      clear hcut
      replace HH := Lib.hid (HH.out.next hb)
      replace HK := Lib.hid (HK.out.next hb)
      replace HP2 := Lib.hid (HP2.out.next hb)
      replace HS3 := Lib.hid (HS3.out.next hb)
      replace HRP := Lib.hid (HRP.out.next hb)
      replace HC3 := Lib.hid (HC3.out.next hb)
      replace HB := Lib.hid (below_step HB.out hb)
      replace HBO := Lib.hid (below_step HBO.out hb)
      clear hb
      have cp := HRP.out.atI64 k hkp
      have e1 : IntKind.i64.wrap (rdI P k + 1) = rdI P k + 1 := IntWalk.i64_in _ (by omega)
      have e2 : (if rdI P k + 1 > usedN P k then rdI P k + 1 else usedN P k) = usedN P (k + 1) := by rw [usedN]; split <;> omega
      have e3 : usedN P (k + 1) ≤ 70 ∧ 0 ≤ usedN P (k + 1) := by rw [← e2]; split <;> omega
      repeat ((with_reducible fail_if_success (show Code.wp _ (Code.region 78 _ _) _ _ _)); first | go_values | go_skip | go_guarded | go_step | go_upon)
      clear e1 e2 cp
      repeat ((with_reducible fail_if_success (show Code.wp _ (Code.region 78 _ _) _ _ _)); first | go_values | go_skip | go_guarded | go_step | go_upon)
      refine s78 w _ P k ap d2 hkp hcap (by omega) e3 HRP HP2 HB _ _ _ _ _ _ _ _ _ _ _ _ _ _ _ _ _ _ _ _ _ _ _ _ _ _ _ _ _ _ _ _ _ _ _ _ _ _ _ _ _ _ _ _ _ _ _ _ _ _ _ _ _ _ _ _ _ _ _ _ _ _ _ _ _ _ _ _ _ _ _ _ _ _ _ _ _ _ _ _ _ _ _ _ _ _ _ _ _ _ _ _ _ _ _ _ _ _ _ _ _ _ _ _ _ _ _ _ _ _ _ _ _ _ _ _ _ _ _ _ _ _ _ _ _ _ _ _ _ _ _ _ _ _ _ _ _ _ _ _ _ _ _ _ _ _ _ _ _ _ _ _ _ _ _ _ _ _ _ _ _ _ _ _ _ _ _ _ _ _ _ _ _ _ _ _ _ _ _ _ _ _ _ _ _ _ _ _ _ _ _ _ _ _ _ _ _ _ _ _ _ _ _ _ _ _ _ _ _ _ _ _ _ _ _ _ _ _ _ _ _ _ _ _ _ _ _ _ _ _ _ _ _ _ _ _ _ _ _ _ _ _ _ _ _ _ _ _ _ _ _ _ _ _ _ _ _ _ _ _ _ _ _ _ _ _ _ _ _ _ _ _ _ _ _ _ _ _ _ _ _ _ _ _ _ _ _ _ _ _ _ _ _ _ _ _ _ _ _ _ _ _ _ _ _ _ _ _ _ _ _ _ _ _ _ _ _ _ _ _ _ _ _ _ _ _ _ _ _ _ _ _ _ _ _ _ _ _ _ _ _ _ _ _ _ _ _ _ _ _ _ _ _ _ _ _ _ _ _ _ _ _ _ _ _ _ _ _ _ _ _ _ _ _ _ _ _ _ _ _ _ _ _ _ _ _ _ _ _ _ _ _ _ _ _ _ _ _ _ _ _ _ _ _ _ _ _ _ _ _ _ _ _ _ _ _ _ _ _ _ _ _ _ _ _ _ _ _ _ _ _ _ _ _ _ _ _ _ _ _ _ _ _ _ _ _ _ _ _ _ _ _ _ _ _ _ _ _ _ _ _ _ _ _ _ _ _ _ _ _ _ _ _ _ _ _ _ _ _ _ _ _ _ _ _ _ _ _ _ _ _ _ _ _ _ _ _ _ _ _ _ _ _ _ _ _ _ _ _ _ _ _ _ _ _ _ _ _ _ _ _ _ _ _ _ _ _ _ _ _ _ _ _ _ _ _ _ _ _ _ _ _ _ _ _ _ _ _ _ _ _ _ _ _ _ _ _ _ _ _ _ _ _ _ _ _ _ _ _ _ _ _ _ _ _ _ _ _ _ _ _ _ _ _ _ _ _ _ _ _ _ _ _ _ _ _ _ _ _ _ _ _ _ _ _ _ _ _ _ _ _ _ _ _ _ ?_
      intro w6c hcut
      intros
      have hb := hcut
      clear hcut
      replace HH := Lib.hid (HH.out.next hb)
      replace HK := Lib.hid (HK.out.next hb)
      replace HP2 := Lib.hid (HP2.out.next hb)
      replace HS3 := Lib.hid (HS3.out.next hb)
      replace HRP := Lib.hid (HRP.out.next hb)
      replace HC3 := Lib.hid (HC3.out.next hb)
      replace HB := Lib.hid (below_step HB.out hb)
      replace HBO := Lib.hid (below_step HBO.out hb)
      clear hb
      repeat ((with_reducible fail_if_success (show Code.wp _ (Code.seq (Code.region 79 _ _) _) _ _ _)); first | go_values | go_skip | go_guarded | go_step | go_upon)
      refine s79 w _ hs ah dh HOK P HPL ap d2 k hlt hkp limit B3 c3 HQ3 HQ4 HH HRP HC3 HS3 HB _ _ _ _ _ _ _ _ _ _ _ _ _ _ _ _ _ _ _ _ _ _ _ _ _ _ _ _ _ _ _ _ _ _ _ _ _ _ _ _ _ _ _ _ _ _ _ _ _ _ _ _ _ _ _ _ _ _ _ _ _ _ _ _ _ _ _ _ _ _ _ _ _ _ _ _ _ _ _ _ _ _ _ _ _ _ _ _ _ _ _ _ _ _ _ _ _ _ _ _ _ _ _ _ _ _ _ _ _ _ _ _ _ _ _ _ _ _ _ _ _ _ _ _ _ _ _ _ _ _ _ _ _ _ _ _ _ _ _ _ _ _ _ _ _ _ _ _ _ _ _ _ _ _ _ _ _ _ _ _ _ _ _ _ _ _ _ _ _ _ _ _ _ _ _ _ _ _ _ _ _ _ _ _ _ _ _ _ _ _ _ _ _ _ _ _ _ _ _ _ _ _ _ _ _ _ _ _ _ _ _ _ _ _ _ _ _ _ _ _ _ _ _ _ _ _ _ _ _ _ _ _ _ _ _ _ _ _ _ _ _ _ _ _ _ _ _ _ _ _ _ _ _ _ _ _ _ _ _ _ _ _ _ _ _ _ _ _ _ _ _ _ _ _ _ _ _ _ _ _ _ _ _ _ _ _ _ _ _ _ _ _ _ _ _ _ _ _ _ _ _ _ _ _ _ _ _ _ _ _ _ _ _ _ _ _ _ _ _ _ _ _ _ _ _ _ _ _ _ _ _ _ _ _ _ _ _ _ _ _ _ _ _ _ _ _ _ _ _ _ _ _ _ _ _ _ _ _ _ _ _ _ _ _ _ _ _ _ _ _ _ _ _ _ _ _ _ _ _ _ _ _ _ _ _ _ _ _ _ _ _ _ _ _ _ _ _ _ _ _ _ _ _ _ _ _ _ _ _ _ _ _ _ _ _ _ _ _ _ _ _ _ _ _ _ _ _ _ _ _ _ _ _ _ _ _ _ _ _ _ _ _ _ _ _ _ _ _ _ _ _ _ _ _ _ _ _ _ _ _ _ _ _ _ _ _ _ _ _ _ _ _ _ _ _ _ _ _ _ _ _ _ _ _ _ _ _ _ _ _ _ _ _ _ _ _ _ _ _ _ _ _ _ _ _ _ _ _ _ _ _ _ _ _ _ _ _ _ _ _ _ _ _ _ _ _ _ _ _ _ _ _ _ _ _ _ _ _ _ _ _ _ _ _ _ _ _ _ _ _ _ _ _ _ _ _ _ _ _ _ _ _ _ _ _ _ _ _ _ _ _ _ _ _ _ _ _ _ _ _ _ _ _ _ _ _ _ _ _ _ _ _ _ _ _ _ _ _ _ _ _ _ _ _ _ _ _ _ _ _ _ _ _ ?_
      intro w7c hcut
      intros
      have hb := hcut
      clear hcut
      replace HH := Lib.hid (HH.out.next hb)
      replace HK := Lib.hid (HK.out.next hb)
      replace HP2 := Lib.hid (HP2.out.next hb)
      replace HS3 := Lib.hid (HS3.out.next hb)
      replace HRP := Lib.hid (HRP.out.next hb)
      replace HC3 := Lib.hid (HC3.out.next hb)
      replace HB := Lib.hid (below_step HB.out hb)
      replace HBO := Lib.hid (below_step HBO.out hb)
      clear hb
      repeat (first | go_values | go_skip | go_guarded | go_step | go_upon)
      go_roundw
      case rel => exact ⟨k + 1, by omega, by go_num, rfl, HBO.out⟩
      case measure => simp [intOf]; omega
    · obtain rfl : k = hs.length := by omega
      repeat (first | go_values | go_skip | go_guarded | go_step | go_upon)
      go_ret
      exact ⟨rfl, HB.out⟩
end Go.Proofs.YtkbmfemncadlnaaGreatDoor.lawWorn
