/- The law of what is worn: a piece of its walk. -/
import Derived.Test.YtkbmfemncadlnaaGreatDoorWnK
import Derived.Deep.CutRange
import Derived.BigRegion
import Derived.Test.YtkbmfemncadlnaaGreatDoorWn5


namespace Go.Proofs.YtkbmfemncadlnaaGreatDoor.lawWorn
open Go Go.RowKit Go.Proofs.YtkbmfemncadlnaaGreatDoor
set_option linter.unusedVariables false
set_option linter.unusedSimpArgs false

attribute [local irreducible] wpQuiet in
set_option maxHeartbeats 4000000 in
set_option maxRecDepth 100000 in
theorem p4 (w wr : World) (Aa : Option Addr) (na ca : Nat) (a : List Int) (Ab : Option Addr) (nb cb : Nat) (b : List Int) (HNA : Hid (a.length = na)) (HNB : Hid (b.length = nb)) (hna : na ≤ 3000) (hnb : nb ≤ 3000) (HSA : Hid (SlE u8 w Aa a)) (HSB : Hid (SlE u8 w Ab b)) (HYA : Hid (Byt a)) (HYB : Hid (Byt b)) (HMX : Hid (MaxW w))  (HB : Hid (Below w.heap.size w wr))
    (u2 u3 u4 u5 u6 u7 u8 u9 u10 u11 u12 u13 u14 u15 u16 u17 u18 u19 u20 u21 u22 u23 u24 u25 u26 u27 u28 u29 u30 u31 u32 u33 u34 u35 u36 u37 u38 u39 u40 u41 u42 u43 u44 u45 u46 u47 u48 u49 u50 u51 u52 u53 u54 u55 u56 u57 u58 u59 u60 u61 u62 u63 u64 u65 u66 u67 u68 u69 u70 u71 u72 u73 u74 u75 u76 u77 u78 u79 u80 u81 u82 u83 u84 u85 u86 u87 u88 u89 u90 u91 u92 u93 u94 u95 u96 u97 u98 u99 u100 u101 u102 u103 u104 u105 u106 u107 u108 u109 u110 u111 u112 u113 u114 u115 u116 u117 u118 u119 u120 u121 u122 u123 u124 u125 u126 u127 u128 u129 u130 u131 u132 u133 u134 u135 u136 u137 u138 u139 u140 u141 u142 u143 u144 u145 u146 u147 u148 u149 u150 u151 u152 u153 u154 u155 u156 u157 u158 u159 u160 u161 u162 u163 u164 u165 u166 u167 u168 u169 u170 u171 u172 u173 u174 u175 u176 u177 u178 u179 u180 u181 u182 u183 u184 u185 u186 u187 u188 u189 u190 u191 u192 u193 u194 u195 u196 u197 u198 u199 u200 u201 u202 u203 u204 u205 u206 u207 u208 u209 u210 u211 u212 u213 u214 u215 u216 u217 u218 u219 u220 u221 u222 u223 u224 u225 u226 u227 u228 u229 u230 u231 u232 u233 u234 u235 u236 u237 u238 u239 u240 u241 u242 u243 u244 u245 u246 u247 u248 u249 u250 u251 u252 u253 u254 u255 u256 u257 u258 u259 u260 u261 u262 u263 u264 u265 u266 u267 u268 u269 u270 u271 u272 u273 u274 u275 u276 u277 u278 u279 u280 u281 u282 u283 u284 u285 u286 u287 u288 u289 u290 u291 u292 u293 u294 u295 u296 u297 u298 u299 u300 u301 u302 u303 u304 u305 u306 u307 u308 u309 u310 u311 u312 u313 u314 u315 u316 u317 u318 u319 u320 u321 u322 u323 u324 u325 u326 u327 u328 u329 u330 u331 u332 u333 u334 u335 u336 u337 u338 u339 u340 u341 u342 u343 u344 u345 u346 u347 u348 u349 u350 u351 u352 u353 u354 u355 u356 u357 u358 u359 u360 u361 u362 u363 u364 u365 u366 u367 u368 u369 u370 u371 u372 u373 u374 u375 u376 u377 u378 u379 u380 u381 u382 u383 u384 u385 u386 u387 u388 u389 u390 u391 u392 u393 u394 u395 u396 u397 u398 u399 u400 u401 u402 u403 u404 u405 u406 u407 u408 u409 u410 u411 u412 u413 u414 u415 u416 u417 u418 u419 u420 u421 u422 u423 u424 u425 u426 u427 u428 u429 u430 u431 u432 u433 u434 u435 u436 u437 u438 u439 u440 u441 u442 u443 u444 u445 u446 u447 u448 u449 u450 u451 u452 u453 u454 u455 u456 u457 u458 u459 u460 u461 u462 u463 u464 u465 u466 u467 u468 u469 u470 u471 u472 u473 u474 u475 u476 u477 u478 u479 u480 u481 u482 u483 u484 u485 u486 u487 u488 u489 u490 u491 u492 u493 u494 u495 u496 u497 u498 u499 u500 u501 u502 u503 u504 u505 u506 u507 u508 u509 u510 u511 u512 u513 u514 u515 u516 u517 u518 u519 u520 u521 u522 u523 u524 u525 u526 u527 u528 u529 u530 u531 u532 u533 u534 u535 u536 u537 u538 u539 u540 u541 u542 u543 u544 u545 u546 u547 u548 u549 u550 u551 u552 u553 u554 u555 u556 u557 u558 u559 u560 u561 u562 u563 u564 u565 u566 u567 u568 u569 u570 u571 u572 u573 u574 u575 u576 u577 u578 u579 u580 u581 u582 u583 u584 u585 u586 u587 u588 u589 u590 u591 u592 u593 u594 u595 u596 u597 u598 u599 u600 u601 u602 u603 u604 u605 u606 u607 u608 u609 u610 u611 u612 u613 u614 u615 : Value) :
    Code.wp Tryz.prog (partOf Tryz.f3 [true, true, true, true, true, true, true, true, true, true, true, true, true, true, true, true, true, true, true, true, true, true, true, true]) (bodyPost Tryz.prog Tryz.f3 fun e w' => e = .returned (.bool true) ∧ Below w.heap.size w w')
      ⟨#[.slice Aa na ca, .slice Ab nb cb, u2, u3, u4, u5, u6, u7, u8, u9, u10, u11, u12, u13, u14, u15, u16, u17, u18, u19, u20, u21, u22, u23, u24, u25, u26, u27, u28, u29, u30, u31, u32, u33, u34, u35, u36, u37, u38, u39, u40, u41, u42, u43, u44, u45, u46, u47, u48, u49, u50, u51, u52, u53, u54, u55, u56, u57, u58, u59, u60, u61, u62, u63, u64, u65, u66, u67, u68, u69, u70, u71, u72, u73, u74, u75, u76, u77, u78, u79, u80, u81, u82, u83, u84, u85, u86, u87, u88, u89, u90, u91, u92, u93, u94, u95, u96, u97, u98, u99, u100, u101, u102, u103, u104, u105, u106, u107, u108, u109, u110, u111, u112, u113, u114, u115, u116, u117, u118, u119, u120, u121, u122, u123, u124, u125, u126, u127, u128, u129, u130, u131, u132, u133, u134, u135, u136, u137, u138, u139, u140, u141, u142, u143, u144, u145, u146, u147, u148, u149, u150, u151, u152, u153, u154, u155, u156, u157, u158, u159, u160, u161, u162, u163, u164, u165, u166, u167, u168, u169, u170, u171, u172, u173, u174, u175, u176, u177, u178, u179, u180, u181, u182, u183, u184, u185, u186, u187, u188, u189, u190, u191, u192, u193, u194, u195, u196, u197, u198, u199, u200, u201, u202, u203, u204, u205, u206, u207, u208, u209, u210, u211, u212, u213, u214, u215, u216, u217, u218, u219, u220, u221, u222, u223, u224, u225, u226, u227, u228, u229, u230, u231, u232, u233, u234, u235, u236, u237, u238, u239, u240, u241, u242, u243, u244, u245, u246, u247, u248, u249, u250, u251, u252, u253, u254, u255, u256, u257, u258, u259, u260, u261, u262, u263, u264, u265, u266, u267, u268, u269, u270, u271, u272, u273, u274, u275, u276, u277, u278, u279, u280, u281, u282, u283, u284, u285, u286, u287, u288, u289, u290, u291, u292, u293, u294, u295, u296, u297, u298, u299, u300, u301, u302, u303, u304, u305, u306, u307, u308, u309, u310, u311, u312, u313, u314, u315, u316, u317, u318, u319, u320, u321, u322, u323, u324, u325, u326, u327, u328, u329, u330, u331, u332, u333, u334, u335, u336, u337, u338, u339, u340, u341, u342, u343, u344, u345, u346, u347, u348, u349, u350, u351, u352, u353, u354, u355, u356, u357, u358, u359, u360, u361, u362, u363, u364, u365, u366, u367, u368, u369, u370, u371, u372, u373, u374, u375, u376, u377, u378, u379, u380, u381, u382, u383, u384, u385, u386, u387, u388, u389, u390, u391, u392, u393, u394, u395, u396, u397, u398, u399, u400, u401, u402, u403, u404, u405, u406, u407, u408, u409, u410, u411, u412, u413, u414, u415, u416, u417, u418, u419, u420, u421, u422, u423, u424, u425, u426, u427, u428, u429, u430, u431, u432, u433, u434, u435, u436, u437, u438, u439, u440, u441, u442, u443, u444, u445, u446, u447, u448, u449, u450, u451, u452, u453, u454, u455, u456, u457, u458, u459, u460, u461, u462, u463, u464, u465, u466, u467, u468, u469, u470, u471, u472, u473, u474, u475, u476, u477, u478, u479, u480, u481, u482, u483, u484, u485, u486, u487, u488, u489, u490, u491, u492, u493, u494, u495, u496, u497, u498, u499, u500, u501, u502, u503, u504, u505, u506, u507, u508, u509, u510, u511, u512, u513, u514, u515, u516, u517, u518, u519, u520, u521, u522, u523, u524, u525, u526, u527, u528, u529, u530, u531, u532, u533, u534, u535, u536, u537, u538, u539, u540, u541, u542, u543, u544, u545, u546, u547, u548, u549, u550, u551, u552, u553, u554, u555, u556, u557, u558, u559, u560, u561, u562, u563, u564, u565, u566, u567, u568, u569, u570, u571, u572, u573, u574, u575, u576, u577, u578, u579, u580, u581, u582, u583, u584, u585, u586, u587, u588, u589, u590, u591, u592, u593, u594, u595, u596, u597, u598, u599, u600, u601, u602, u603, u604, u605, u606, u607, u608, u609, u610, u611, u612, u613, u614, u615], []⟩ wr := by
  conv => arg 2; whnf
  repeat (first | go_values | go_skip | go_guarded | go_step | go_upon)
  go_at_call 18
  refine (a2hands_any Ab nb cb b wr HNB.out (by omega) (HSB.out.next HB.out) HYB.out).mono ?_
  rintro e w1 ⟨hs, Bh, dh, rfl, hok, hsl, hb⟩
  have HOK := Lib.hid hok
  have HH := Lib.hid hsl
  clear hok hsl
  dsimp only
  replace HB := Lib.hid (below_step HB.out hb)
  clear hb
  repeat (first | go_values | go_skip | go_guarded | go_step | go_upon)
  go_at_call 19
  refine (a2face_any Aa na ca a w1 HNA.out (by omega) (HSA.out.next HB.out) HYA.out).mono ?_
  rintro e w2 ⟨f, S, rfl, hv, hf, hb⟩
  have HV := Lib.hid hv
  have HF := Lib.hid hf
  have HFT := Lib.hid hf.1
  have hone : (fcV f S).toArray.all (·.oneCell') = true := by
    obtain ⟨_, A2, n2, c2, e2, _⟩ := hf
    rw [e2]; exact one_fc _ _ _ _
  clear hv hf
  have hlen := fcV_length HFT.out S
  dsimp only
  replace HH := Lib.hid (HH.out.next hb)
  replace HB := Lib.hid (below_step HB.out hb)
  clear hb
  have hb := below_one w2 (.cells (fcV f S).toArray 44)
  replace HH := Lib.hid (HH.out.next hb)
  replace HF := Lib.hid (HF.out.next hb)
  replace HB := Lib.hid (below_step HB.out hb)
  clear hb
  have K35 := Lib.hid (Blk.new w2 44 (fcV f S))
  repeat ((with_reducible fail_if_success (show wpList _ _ _ (⟨none, .store 44 (.tmp 35) (.tmp 304), _, _, _, _⟩ :: _) _ _)); first | go_values | go_skip | go_guarded | go_step | go_upon)
  refine wpList_store_new rfl 44 (.tmp 35) (.tmp 304) rfl (fcV f S).toArray rfl rfl 44 _ (by rw [List.size_toArray, hlen]; exact szFcI) (by rw [show (fcV f S).toArray.size = 29 by rw [List.size_toArray, hlen]]; rfl) (hone) ?_
  generalize w2.alloc (.cells (fcV f S).toArray 44) = w3 at *
  generalize w2.heap.size = g35 at *
  clear hone
  repeat (first | go_values | go_skip | go_guarded | go_step | go_upon)
  go_at_call 20
  refine (a2word_any Ab nb cb b w3 HNB.out (by omega) (HSB.out.next HB.out) HYB.out).mono ?_
  rintro e w4 ⟨l, rfl, hl, h1, h5, hb⟩
  have HL := Lib.hid hl
  clear hl
  dsimp only
  replace HH := Lib.hid (HH.out.next hb)
  replace HF := Lib.hid (HF.out.next hb)
  replace K35 := Lib.hid (K35.out.next hb)
  replace HB := Lib.hid (below_step HB.out hb)
  clear hb
  obtain ⟨kn, hkn⟩ : ∃ kn, kn = gapsW f l l.length := ⟨_, rfl⟩
  have HKN := Lib.hid hkn
  have HG := Lib.hid (show gapsOk kn = true by rw [hkn]; exact gapsW_ok (validF_iff.1 HV.out) l (by omega))
  have hkl : (kn.length : Int) = (l.length : Int) - 1 := by rw [hkn, gapsW_len]; omega
  have HGI := Lib.hid (fun (w' : World) (h : HasF w' f S) (hm : MaxW w') => (show Calls Tryz.prog 21 #[.agg (fcV f S).toArray, .string ⟨l.toArray⟩] w' (LOut w' kn 0) by rw [hkn]; exact gaps_implL f S l w' h HV.out HL.out h1 (by omega) hm))
  have HGS := Lib.hid (fun (w' : World) (h : HasF w' f S) => (show Calls Tryz.prog 22 #[.agg (fcV f S).toArray, .string ⟨l.toArray⟩] w' (LOut w' kn 0) by rw [hkn]; exact gaps_specL f S l w' h HV.out HL.out h1 (by omega)))
  clear hkn
  have HKL := Lib.hid hkl
  clear hkl
  have hk5 : kn.length ≤ 5 := by have := HKL.out; omega
  repeat ((with_reducible fail_if_success (show wpList _ _ _ (⟨some 308, _, _, _, _, _⟩ :: _) _ _)); first | go_values | go_skip | go_guarded | go_step | go_upon)
  refine wpList_val (by kernel_rfl) (.agg (fcV f S).toArray) _ (exec_load_row 44 (.tmp 35) rfl g35 (by kernel_rfl) 44 (fcV f S).toArray _ _ K35.out Tryz.underlying44 rfl (by rw [List.size_toArray, hlen]; exact szFcI)) ?_
  repeat (first | go_values | go_skip | go_guarded | go_step | go_upon)
  go_at_call 21
  refine (HGI.out w4 HF.out (HMX.out.next HB.out)).mono ?_
  rintro e w5 ⟨B1, d1, ⟨rfl, hs1⟩, hb⟩
  have HK1 := Lib.hid hs1
  clear hs1
  dsimp only
  replace HH := Lib.hid (HH.out.next hb)
  replace HF := Lib.hid (HF.out.next hb)
  replace K35 := Lib.hid (K35.out.next hb)
  replace HB := Lib.hid (below_step HB.out hb)
  clear hb
  repeat ((with_reducible fail_if_success (show wpList _ _ _ (⟨some 314, _, _, _, _, _⟩ :: _) _ _)); first | go_values | go_skip | go_guarded | go_step | go_upon)
  refine wpList_val (by kernel_rfl) (.agg (fcV f S).toArray) _ (exec_load_row 44 (.tmp 35) rfl g35 (by kernel_rfl) 44 (fcV f S).toArray _ _ K35.out Tryz.underlying44 rfl (by rw [List.size_toArray, hlen]; exact szFcI)) ?_
  repeat (first | go_values | go_skip | go_guarded | go_step | go_upon)
  go_at_call 22
  refine (HGS.out w5 HF.out).mono ?_
  rintro e w6 ⟨Bk, dk, ⟨rfl, hs2⟩, hb⟩
  have HK := Lib.hid hs2
  clear hs2
  dsimp only
  replace HH := Lib.hid (HH.out.next hb)
  replace HF := Lib.hid (HF.out.next hb)
  replace K35 := Lib.hid (K35.out.next hb)
  replace HK1 := Lib.hid (HK1.out.next hb)
  replace HB := Lib.hid (below_step HB.out hb)
  clear hb
  clear HGI HGS
  obtain ⟨I, hI⟩ : ∃ I, I = nrI hs kn := ⟨_, rfl⟩
  obtain ⟨M, hM⟩ : ∃ M, M = nrM hs kn := ⟨_, rfl⟩
  obtain ⟨C, hC⟩ : ∃ C, C = nrC hs := ⟨_, rfl⟩
  have HNR := Lib.hid (fun (i : Nat) (hi : i < hs.length) => nr_say (hs := hs) (ys := kn) hi)
  rw [← hI, ← hM] at HNR
  have HNI := Lib.hid (fun (w' : World) (h1 : Sl2 w' Bh hs) (h2 : SlE i64 w' Bk kn) => (show Calls Tryz.prog 23 #[.slice Bh hs.length dh, .slice Bk kn.length dk] w' (fun e w1 => e = .returned (.tuple #[.int .i64 I, .int .i64 M, .int .i64 C]) ∧ Below w'.heap.size w' w1) by rw [hI, hM, hC]; exact nearest_implL Bh Bk dh dk hs kn w' HOK.out HG.out h1 h2))
  have HNS := Lib.hid (fun (w' : World) (h1 : Sl2 w' Bh hs) (h2 : SlE i64 w' Bk kn) => (show Calls Tryz.prog 24 #[.slice Bh hs.length dh, .slice Bk kn.length dk] w' (fun e w1 => e = .returned (.tuple #[.int .i64 I, .int .i64 M, .int .i64 C]) ∧ Below w'.heap.size w' w1) by rw [hI, hM, hC]; exact nearest_specL Bh Bk dh dk hs kn w' HOK.out HG.out h1 h2))
  have HC := Lib.hid hC
  clear hI hM hC
  repeat (first | go_values | go_skip | go_guarded | go_step | go_upon)
  go_at_call 23
  refine (HNI.out w6 HH.out HK.out).mono ?_
  rintro e w7 ⟨rfl, hb⟩
  dsimp only
  replace HH := Lib.hid (HH.out.next hb)
  replace HF := Lib.hid (HF.out.next hb)
  replace K35 := Lib.hid (K35.out.next hb)
  replace HK1 := Lib.hid (HK1.out.next hb)
  replace HK := Lib.hid (HK.out.next hb)
  replace HB := Lib.hid (below_step HB.out hb)
  clear hb
  repeat (first | go_values | go_skip | go_guarded | go_step | go_upon)
  go_at_call 24
  refine (HNS.out w7 HH.out HK.out).mono ?_
  rintro e w8 ⟨rfl, hb⟩
  dsimp only
  replace HH := Lib.hid (HH.out.next hb)
  replace HF := Lib.hid (HF.out.next hb)
  replace K35 := Lib.hid (K35.out.next hb)
  replace HK1 := Lib.hid (HK1.out.next hb)
  replace HK := Lib.hid (HK.out.next hb)
  replace HB := Lib.hid (below_step HB.out hb)
  clear hb
  clear HNI HNS
  repeat (first | go_values | go_skip | go_guarded | go_step | go_upon)
  go_at_call 25
  refine (same_any B1 Bk d1 dk kn kn _ _ w8 rfl rfl (by omega) (by omega) HK1.out HK.out).mono ?_
  rintro e w9 ⟨rfl, hb⟩
  rw [decide_eq_true (rfl : kn = kn)]
  dsimp only
  replace HH := Lib.hid (HH.out.next hb)
  replace HF := Lib.hid (HF.out.next hb)
  replace K35 := Lib.hid (K35.out.next hb)
  replace HK1 := Lib.hid (HK1.out.next hb)
  replace HK := Lib.hid (HK.out.next hb)
  replace HB := Lib.hid (below_step HB.out hb)
  clear hb
  clear HK1
  have hkl := HKL.out
  have e1 : IntKind.i64.wrap ((l.length : Int) - 1) = (l.length : Int) - 1 := IntWalk.i64_in _ (by omega)
  by_cases h0 : hs.length = 0
  · skip
    have hc := HC.out
    unfold nrC at hc
    rw [if_pos h0] at hc
    subst hc
    have hl0 : ¬ (0 : Int) < (hs.length : Int) := by omega
    repeat ((with_reducible fail_if_success (show Code.wp _ (Code.seq (Code.region 54 _ _) _) _ _ _)); first | go_values | go_skip | go_guarded | go_step | go_upon)
    exact p5 w _ Aa na ca a Ab nb cb b HNA HNB hna hnb HSA HSB HYA HYB HMX hs Bh dh HOK kn Bk dk HG I M HNR f S HV l HL h1 h5 HKN g35 HH HK HF K35 HB _ _ _ _ _ _ _ _ _ _ _ _ _ _ _ _ _ _ _ _ _ _ _ _ _ _ _ _ _ _ _ _ _ _ _ _ _ _ _ _ _ _ _ _ _ _ _ _ _ _ _ _ _ _ _ _ _ _ _ _ _ _ _ _ _ _ _ _ _ _ _ _ _ _ _ _ _ _ _ _ _ _ _ _ _ _ _ _ _ _ _ _ _ _ _ _ _ _ _ _ _ _ _ _ _ _ _ _ _ _ _ _ _ _ _ _ _ _ _ _ _ _ _ _ _ _ _ _ _ _ _ _ _ _ _ _ _ _ _ _ _ _ _ _ _ _ _ _ _ _ _ _ _ _ _ _ _ _ _ _ _ _ _ _ _ _ _ _ _ _ _ _ _ _ _ _ _ _ _ _ _ _ _ _ _ _ _ _ _ _ _ _ _ _ _ _ _ _ _ _ _ _ _ _ _ _ _ _ _ _ _ _ _ _ _ _ _ _ _ _ _ _ _ _ _ _ _ _ _ _ _ _ _ _ _ _ _ _ _ _ _ _ _ _ _ _ _ _ _ _ _ _ _ _ _ _ _ _ _ _ _ _ _ _ _ _ _ _ _ _ _ _ _ _ _ _ _ _ _ _ _ _ _ _ _ _ _ _ _ _ _ _ _ _ _ _ _ _ _ _ _ _ _ _ _ _ _ _ _ _ _ _ _ _ _ _ _ _ _ _ _ _ _ _ _ _ _ _ _ _ _ _ _ _ _ _ _ _ _ _ _ _ _ _ _ _ _ _ _ _ _ _ _ _ _ _ _ _ _ _ _ _ _ _ _ _ _ _ _ _ _ _ _ _ _ _ _ _ _ _ _ _ _ _ _ _ _ _ _ _ _ _ _ _ _ _ _ _ _ _ _ _ _ _ _ _ _ _ _ _ _ _ _ _ _ _ _ _ _ _ _ _ _ _ _ _ _ _ _ _ _ _ _ _ _ _ _ _ _ _ _ _ _ _ _ _ _ _ _ _ _ _ _ _ _ _ _ _ _ _ _ _ _ _ _ _ _ _ _ _ _ _ _ _ _ _ _ _ _ _ _ _ _ _ _ _ _ _ _ _ _ _ _ _ _ _ _ _ _ _ _ _ _ _ _ _ _ _ _ _ _ _ _ _ _ _ _ _ _ _ _ _ _ _ _ _ _ _ _ _ _ _ _ _ _ _ _ _ _ _ _ _ _ _ _ _ _ _ _ _ _ _ _ _ _ _ _ _ _ _ _ _ _ _ _ _ _ _ _ _ _ _ _ _ _ _ _ _ _ _ _ _ _ _ _ _ _ _ _ _ _ _ _ _ _ _ _ _ _ _ _ _ _ _ _ _ _ _
  · skip
    have hc := HC.out
    unfold nrC at hc
    rw [if_neg h0] at hc
    subst hc
    have hl0 : 0 < hs.length := by omega
    clear h0
    repeat ((with_reducible fail_if_success (show Code.wp _ (Code.seq (Code.region 54 _ _) _) _ _ _)); first | go_values | go_skip | go_guarded | go_step | go_upon)
    exact p5 w _ Aa na ca a Ab nb cb b HNA HNB hna hnb HSA HSB HYA HYB HMX hs Bh dh HOK kn Bk dk HG I M HNR f S HV l HL h1 h5 HKN g35 HH HK HF K35 HB _ _ _ _ _ _ _ _ _ _ _ _ _ _ _ _ _ _ _ _ _ _ _ _ _ _ _ _ _ _ _ _ _ _ _ _ _ _ _ _ _ _ _ _ _ _ _ _ _ _ _ _ _ _ _ _ _ _ _ _ _ _ _ _ _ _ _ _ _ _ _ _ _ _ _ _ _ _ _ _ _ _ _ _ _ _ _ _ _ _ _ _ _ _ _ _ _ _ _ _ _ _ _ _ _ _ _ _ _ _ _ _ _ _ _ _ _ _ _ _ _ _ _ _ _ _ _ _ _ _ _ _ _ _ _ _ _ _ _ _ _ _ _ _ _ _ _ _ _ _ _ _ _ _ _ _ _ _ _ _ _ _ _ _ _ _ _ _ _ _ _ _ _ _ _ _ _ _ _ _ _ _ _ _ _ _ _ _ _ _ _ _ _ _ _ _ _ _ _ _ _ _ _ _ _ _ _ _ _ _ _ _ _ _ _ _ _ _ _ _ _ _ _ _ _ _ _ _ _ _ _ _ _ _ _ _ _ _ _ _ _ _ _ _ _ _ _ _ _ _ _ _ _ _ _ _ _ _ _ _ _ _ _ _ _ _ _ _ _ _ _ _ _ _ _ _ _ _ _ _ _ _ _ _ _ _ _ _ _ _ _ _ _ _ _ _ _ _ _ _ _ _ _ _ _ _ _ _ _ _ _ _ _ _ _ _ _ _ _ _ _ _ _ _ _ _ _ _ _ _ _ _ _ _ _ _ _ _ _ _ _ _ _ _ _ _ _ _ _ _ _ _ _ _ _ _ _ _ _ _ _ _ _ _ _ _ _ _ _ _ _ _ _ _ _ _ _ _ _ _ _ _ _ _ _ _ _ _ _ _ _ _ _ _ _ _ _ _ _ _ _ _ _ _ _ _ _ _ _ _ _ _ _ _ _ _ _ _ _ _ _ _ _ _ _ _ _ _ _ _ _ _ _ _ _ _ _ _ _ _ _ _ _ _ _ _ _ _ _ _ _ _ _ _ _ _ _ _ _ _ _ _ _ _ _ _ _ _ _ _ _ _ _ _ _ _ _ _ _ _ _ _ _ _ _ _ _ _ _ _ _ _ _ _ _ _ _ _ _ _ _ _ _ _ _ _ _ _ _ _ _ _ _ _ _ _ _ _ _ _ _ _ _ _ _ _ _ _ _ _ _ _ _ _ _ _ _ _ _ _ _ _ _ _ _ _ _ _ _ _ _ _ _ _ _ _ _ _ _ _ _ _ _ _ _ _ _ _ _ _ _ _ _ _ _ _ _ _ _ _ _ _ _ _ _ _ _ _ _ _ _ _ _ _ _ _ _ _ _ _ _ _ _ _ _ _ _ _
end Go.Proofs.YtkbmfemncadlnaaGreatDoor.lawWorn
