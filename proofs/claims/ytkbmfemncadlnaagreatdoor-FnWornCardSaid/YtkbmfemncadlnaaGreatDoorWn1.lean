/- The law of what is worn: a piece of its walk. -/
import Derived.Test.YtkbmfemncadlnaaGreatDoorWnK
import Derived.Deep.CutRange
import Derived.BigRegion
import Derived.Test.YtkbmfemncadlnaaGreatDoorWn2


namespace Go.Proofs.YtkbmfemncadlnaaGreatDoor.lawWorn
open Go Go.RowKit Go.Proofs.YtkbmfemncadlnaaGreatDoor
set_option linter.unusedVariables false
set_option linter.unusedSimpArgs false

attribute [local irreducible] wpQuiet in
set_option maxHeartbeats 4000000 in
set_option maxRecDepth 100000 in
theorem p1b (w wr : World) (Aa : Option Addr) (na ca : Nat) (a : List Int) (Ab : Option Addr) (nb cb : Nat) (b : List Int) (HNA : Hid (a.length = na)) (HNB : Hid (b.length = nb)) (hna : na ≤ 3000) (hnb : nb ≤ 3000) (HSA : Hid (SlE u8 w Aa a)) (HSB : Hid (SlE u8 w Ab b)) (HYA : Hid (Byt a)) (HYB : Hid (Byt b)) (HMX : Hid (MaxW w)) (r o d : List Nat) (HVR : Hid (RubV r)) (HVO : Hid (RubV o)) (HVD : Hid (RubV d)) (HWD : Hid (wornB r d = true)) (need bound T C : Int) (HNE : Hid (inB 0 8 need = true)) (HTC : Hid ((T = 0 ∧ C = 6) ∨ ∃ N : Nat, N ≤ 129 ∧ T = (N : Int) ∧ C = 0 ∧ (countN (itW r need N) : Int) ≤ bound ∧ ∀ j, j < N → ¬ (countN (itW r need j) : Int) ≤ bound ∧ countN (wearR (itW r need j) need) < countN (itW r need j))) (g5 g6 g10 : Nat) (K5 : Hid (Blk wr g5 26 (r.map Go.Proofs.YtkbmfemncadlnaaGreatDoor.u16))) (K6 : Hid (Blk wr g6 26 (o.map Go.Proofs.YtkbmfemncadlnaaGreatDoor.u16))) (K10 : Hid (Blk wr g10 26 (d.map Go.Proofs.YtkbmfemncadlnaaGreatDoor.u16))) (HB : Hid (Below w.heap.size w wr))
    (u2 u3 u4 u8 u9 u11 u13 u16 u17 u18 u19 u20 u21 u22 u23 u24 u25 u26 u27 u28 u29 u30 u31 u32 u33 u34 u35 u36 u37 u38 u39 u40 u41 u42 u43 u44 u45 u46 u47 u48 u49 u50 u51 u52 u53 u54 u55 u56 u57 u58 u59 u60 u61 u62 u63 u64 u65 u66 u67 u68 u69 u70 u71 u72 u73 u74 u75 u76 u77 u78 u79 u80 u81 u82 u83 u84 u85 u86 u87 u88 u89 u90 u91 u92 u93 u94 u95 u96 u97 u98 u99 u100 u101 u102 u103 u104 u105 u106 u107 u108 u109 u110 u111 u112 u113 u114 u115 u116 u117 u118 u119 u120 u121 u122 u123 u124 u125 u126 u127 u128 u129 u130 u131 u132 u133 u134 u135 u136 u137 u138 u139 u140 u141 u142 u143 u144 u145 u146 u147 u148 u149 u150 u151 u152 u153 u154 u155 u156 u157 u158 u159 u160 u161 u162 u163 u164 u165 u166 u167 u168 u169 u170 u171 u172 u173 u174 u175 u176 u177 u178 u179 u180 u181 u182 u183 u184 u185 u186 u187 u188 u189 u190 u191 u192 u193 u194 u195 u196 u197 u198 u199 u200 u201 u202 u203 u204 u205 u206 u207 u208 u209 u210 u211 u212 u213 u214 u215 u216 u217 u218 u219 u220 u221 u222 u223 u224 u225 u226 u227 u228 u229 u230 u231 u232 u233 u234 u235 u236 u237 u238 u239 u240 u241 u242 u243 u244 u245 u246 u247 u248 u249 u250 u251 u252 u253 u254 u255 u256 u257 u258 u259 u260 u261 u262 u263 u264 u265 u266 u267 u268 u269 u270 u271 u272 u273 u274 u275 u276 u277 u278 u279 u280 u281 u282 u283 u284 u285 u286 u287 u288 u289 u290 u291 u292 u293 u294 u295 u296 u297 u298 u299 u300 u301 u302 u303 u304 u305 u306 u307 u308 u309 u310 u311 u312 u313 u314 u315 u316 u317 u318 u319 u320 u321 u322 u323 u324 u325 u326 u327 u328 u329 u330 u331 u332 u333 u334 u335 u336 u337 u338 u339 u340 u341 u342 u343 u344 u345 u346 u347 u348 u349 u350 u351 u352 u353 u354 u355 u356 u357 u358 u359 u360 u361 u362 u363 u364 u365 u366 u367 u368 u369 u370 u371 u372 u373 u374 u375 u376 u377 u378 u379 u380 u381 u382 u383 u384 u385 u386 u387 u388 u389 u390 u391 u392 u393 u394 u395 u396 u397 u398 u399 u400 u401 u402 u403 u404 u405 u406 u407 u408 u409 u410 u411 u412 u413 u414 u415 u416 u417 u418 u419 u420 u421 u422 u423 u424 u425 u426 u427 u428 u429 u430 u431 u432 u433 u434 u435 u436 u437 u438 u439 u440 u441 u442 u443 u444 u445 u446 u447 u448 u449 u450 u451 u452 u453 u454 u455 u456 u457 u458 u459 u460 u461 u462 u463 u464 u465 u466 u467 u468 u469 u470 u471 u472 u473 u474 u475 u476 u477 u478 u479 u480 u481 u482 u483 u484 u485 u486 u487 u488 u489 u490 u491 u492 u493 u494 u495 u496 u497 u498 u499 u500 u501 u502 u503 u504 u505 u506 u507 u508 u509 u510 u511 u512 u513 u514 u515 u516 u517 u518 u519 u520 u521 u522 u523 u524 u525 u526 u527 u528 u529 u530 u531 u532 u533 u534 u535 u536 u537 u538 u539 u540 u541 u542 u543 u544 u545 u546 u547 u548 u549 u550 u551 u552 u553 u554 u555 u556 u557 u558 u559 u560 u561 u562 u563 u564 u565 u566 u567 u568 u569 u570 u571 u572 u573 u574 u575 u576 u577 u578 u579 u580 u581 u582 u583 u584 u585 u586 u587 u588 u589 u590 u591 u592 u593 u594 u595 u596 u597 u598 u599 u600 u601 u602 u603 u604 u605 u606 u607 u608 u609 u610 u611 u612 u613 u614 u615 : Value) :
    Code.wp Tryz.prog (partOf Tryz.f3 [true, true, true, true, true, true, true, true, true, true, true]) (bodyPost Tryz.prog Tryz.f3 fun e w' => e = .returned (.bool true) ∧ Below w.heap.size w w')
      ⟨#[.slice Aa na ca, .slice Ab nb cb, u2, u3, u4, .pointer (some ⟨g5, 0, none⟩), .pointer (some ⟨g6, 0, none⟩), .int .i64 need, u8, u9, .pointer (some ⟨g10, 0, none⟩), u11, .int .i64 bound, u13, .int .i64 C, .int .i64 T, u16, u17, u18, u19, u20, u21, u22, u23, u24, u25, u26, u27, u28, u29, u30, u31, u32, u33, u34, u35, u36, u37, u38, u39, u40, u41, u42, u43, u44, u45, u46, u47, u48, u49, u50, u51, u52, u53, u54, u55, u56, u57, u58, u59, u60, u61, u62, u63, u64, u65, u66, u67, u68, u69, u70, u71, u72, u73, u74, u75, u76, u77, u78, u79, u80, u81, u82, u83, u84, u85, u86, u87, u88, u89, u90, u91, u92, u93, u94, u95, u96, u97, u98, u99, u100, u101, u102, u103, u104, u105, u106, u107, u108, u109, u110, u111, u112, u113, u114, u115, u116, u117, u118, u119, u120, u121, u122, u123, u124, u125, u126, u127, u128, u129, u130, u131, u132, u133, u134, u135, u136, u137, u138, u139, u140, u141, u142, u143, u144, u145, u146, u147, u148, u149, u150, u151, u152, u153, u154, u155, u156, u157, u158, u159, u160, u161, u162, u163, u164, u165, u166, u167, u168, u169, u170, u171, u172, u173, u174, u175, u176, u177, u178, u179, u180, u181, u182, u183, u184, u185, u186, u187, u188, u189, u190, u191, u192, u193, u194, u195, u196, u197, u198, u199, u200, u201, u202, u203, u204, u205, u206, u207, u208, u209, u210, u211, u212, u213, u214, u215, u216, u217, u218, u219, u220, u221, u222, u223, u224, u225, u226, u227, u228, u229, u230, u231, u232, u233, u234, u235, u236, u237, u238, u239, u240, u241, u242, u243, u244, u245, u246, u247, u248, u249, u250, u251, u252, u253, u254, u255, u256, u257, u258, u259, u260, u261, u262, u263, u264, u265, u266, u267, u268, u269, u270, u271, u272, u273, u274, u275, u276, u277, u278, u279, u280, u281, u282, u283, u284, u285, u286, u287, u288, u289, u290, u291, u292, u293, u294, u295, u296, u297, u298, u299, u300, u301, u302, u303, u304, u305, u306, u307, u308, u309, u310, u311, u312, u313, u314, u315, u316, u317, u318, u319, u320, u321, u322, u323, u324, u325, u326, u327, u328, u329, u330, u331, u332, u333, u334, u335, u336, u337, u338, u339, u340, u341, u342, u343, u344, u345, u346, u347, u348, u349, u350, u351, u352, u353, u354, u355, u356, u357, u358, u359, u360, u361, u362, u363, u364, u365, u366, u367, u368, u369, u370, u371, u372, u373, u374, u375, u376, u377, u378, u379, u380, u381, u382, u383, u384, u385, u386, u387, u388, u389, u390, u391, u392, u393, u394, u395, u396, u397, u398, u399, u400, u401, u402, u403, u404, u405, u406, u407, u408, u409, u410, u411, u412, u413, u414, u415, u416, u417, u418, u419, u420, u421, u422, u423, u424, u425, u426, u427, u428, u429, u430, u431, u432, u433, u434, u435, u436, u437, u438, u439, u440, u441, u442, u443, u444, u445, u446, u447, u448, u449, u450, u451, u452, u453, u454, u455, u456, u457, u458, u459, u460, u461, u462, u463, u464, u465, u466, u467, u468, u469, u470, u471, u472, u473, u474, u475, u476, u477, u478, u479, u480, u481, u482, u483, u484, u485, u486, u487, u488, u489, u490, u491, u492, u493, u494, u495, u496, u497, u498, u499, u500, u501, u502, u503, u504, u505, u506, u507, u508, u509, u510, u511, u512, u513, u514, u515, u516, u517, u518, u519, u520, u521, u522, u523, u524, u525, u526, u527, u528, u529, u530, u531, u532, u533, u534, u535, u536, u537, u538, u539, u540, u541, u542, u543, u544, u545, u546, u547, u548, u549, u550, u551, u552, u553, u554, u555, u556, u557, u558, u559, u560, u561, u562, u563, u564, u565, u566, u567, u568, u569, u570, u571, u572, u573, u574, u575, u576, u577, u578, u579, u580, u581, u582, u583, u584, u585, u586, u587, u588, u589, u590, u591, u592, u593, u594, u595, u596, u597, u598, u599, u600, u601, u602, u603, u604, u605, u606, u607, u608, u609, u610, u611, u612, u613, u614, u615], []⟩ wr := by
  conv => arg 2; whnf
  have hlr := HVR.out.len
  have hlo := HVO.out.len
  have hld := HVD.out.len
  repeat ((with_reducible fail_if_success (show wpList _ _ _ (⟨some 147, _, _, _, _, _⟩ :: _) _ _)); first | go_values | go_skip | go_guarded | go_step | go_upon)
  refine wpList_val (by kernel_rfl) (.agg (R16 r)) _ (exec_load_row 26 (.tmp 5) rfl g5 (by kernel_rfl) 26 (R16 r) _ _ K5.out Tryz.underlying26 rfl (by rw [R16_size, hlr]; exact szRub)) ?_
  have h5 := K5.out.lt
  have h6 := K6.out.lt
  have h10 := K10.out.lt
  have hw := HB.out.size
  have hb := below_one wr (.cells (r.map Go.Proofs.YtkbmfemncadlnaaGreatDoor.u16).toArray 26)
  replace K5 := Lib.hid (K5.out.next hb)
  replace K6 := Lib.hid (K6.out.next hb)
  replace K10 := Lib.hid (K10.out.next hb)
  replace HB := Lib.hid (below_step HB.out hb)
  clear hb
  have K17 := Lib.hid (Blk.new wr 26 (r.map Go.Proofs.YtkbmfemncadlnaaGreatDoor.u16))
  repeat ((with_reducible fail_if_success (show wpList _ _ _ (⟨none, .store 26 (.tmp 17) (.tmp 147), _, _, _, _⟩ :: _) _ _)); first | go_values | go_skip | go_guarded | go_step | go_upon)
  refine wpList_store_new rfl 26 (.tmp 17) (.tmp 147) rfl (r.map Go.Proofs.YtkbmfemncadlnaaGreatDoor.u16).toArray rfl rfl 26 _ (by rw [List.size_toArray, List.length_map, hlr]; exact szRub) (by rw [show (r.map Go.Proofs.YtkbmfemncadlnaaGreatDoor.u16).toArray.size = 8 by rw [List.size_toArray, List.length_map, hlr]]; rfl) (one_u16 _) ?_
  generalize wr.alloc (.cells (r.map Go.Proofs.YtkbmfemncadlnaaGreatDoor.u16).toArray 26) = w1 at *
  generalize wr.heap.size = g17 at *
  repeat ((with_reducible fail_if_success (show Code.wp _ (Code.loop _) _ _ _)); first | go_values | go_skip | go_guarded | go_step | go_upon)
  rcases HTC.out with ⟨rfl, rfl⟩ | ⟨N, hN9, rfl, rfl, hcb, hall⟩
  · go_loopw [18] (fun i wx => i = .int .i64 0 ∧ wx = w1) (fun _ _ => 0)
    case atStart => exact ⟨rfl, rfl⟩
    case round =>
      obtain ⟨rfl, rfl⟩ := hrel
      repeat ((with_reducible fail_if_success (show Code.wp _ (Code.seq (Code.seq (Code.region 23 _ _) _) _) _ _ _)); first | go_values | go_skip | go_guarded | go_step | go_upon)
      exact p2 w _ Aa na ca a Ab nb cb b HNA HNB hna hnb HSA HSB HYA HYB HMX r o d HVR HVO HVD HWD r HVR bound 6 (Lib.hid (.inl rfl)) g5 g6 g10 g17 K5 K6 K10 K17 HB _ _ _ _ _ _ _ _ _ _ _ _ _ _ _ _ _ _ _ _ _ _ _ _ _ _ _ _ _ _ _ _ _ _ _ _ _ _ _ _ _ _ _ _ _ _ _ _ _ _ _ _ _ _ _ _ _ _ _ _ _ _ _ _ _ _ _ _ _ _ _ _ _ _ _ _ _ _ _ _ _ _ _ _ _ _ _ _ _ _ _ _ _ _ _ _ _ _ _ _ _ _ _ _ _ _ _ _ _ _ _ _ _ _ _ _ _ _ _ _ _ _ _ _ _ _ _ _ _ _ _ _ _ _ _ _ _ _ _ _ _ _ _ _ _ _ _ _ _ _ _ _ _ _ _ _ _ _ _ _ _ _ _ _ _ _ _ _ _ _ _ _ _ _ _ _ _ _ _ _ _ _ _ _ _ _ _ _ _ _ _ _ _ _ _ _ _ _ _ _ _ _ _ _ _ _ _ _ _ _ _ _ _ _ _ _ _ _ _ _ _ _ _ _ _ _ _ _ _ _ _ _ _ _ _ _ _ _ _ _ _ _ _ _ _ _ _ _ _ _ _ _ _ _ _ _ _ _ _ _ _ _ _ _ _ _ _ _ _ _ _ _ _ _ _ _ _ _ _ _ _ _ _ _ _ _ _ _ _ _ _ _ _ _ _ _ _ _ _ _ _ _ _ _ _ _ _ _ _ _ _ _ _ _ _ _ _ _ _ _ _ _ _ _ _ _ _ _ _ _ _ _ _ _ _ _ _ _ _ _ _ _ _ _ _ _ _ _ _ _ _ _ _ _ _ _ _ _ _ _ _ _ _ _ _ _ _ _ _ _ _ _ _ _ _ _ _ _ _ _ _ _ _ _ _ _ _ _ _ _ _ _ _ _ _ _ _ _ _ _ _ _ _ _ _ _ _ _ _ _ _ _ _ _ _ _ _ _ _ _ _ _ _ _ _ _ _ _ _ _ _ _ _ _ _ _ _ _ _ _ _ _ _ _ _ _ _ _ _ _ _ _ _ _ _ _ _ _ _ _ _ _ _ _ _ _ _ _ _ _ _ _ _ _ _ _ _ _ _ _ _ _ _ _ _ _ _ _ _ _ _ _ _ _ _ _ _ _ _ _ _ _ _ _ _ _ _ _ _ _ _ _ _ _ _ _ _ _ _ _ _ _ _ _ _ _ _ _ _ _ _ _ _ _ _ _ _ _ _ _ _ _ _ _ _ _ _ _ _ _ _ _ _ _ _ _ _ _ _ _ _ _ _ _ _ _ _ _ _ _ _ _ _ _ _ _ _ _ _ _ _ _ _ _ _ _ _ _ _ _ _ _ _ _ _ _ _ _ _ _ _ _ _ _ _ _ _ _
  · skip
    have HCB := Lib.hid hcb
    have HALL := Lib.hid hall
    clear hcb hall
    go_loopw [18] (fun i wx => ∃ k : Nat, k ≤ N ∧ i = .int .i64 k ∧ Blk wx g17 26 ((itW r need k).map Go.Proofs.YtkbmfemncadlnaaGreatDoor.u16) ∧ Blk wx g5 26 (r.map Go.Proofs.YtkbmfemncadlnaaGreatDoor.u16) ∧ Blk wx g6 26 (o.map Go.Proofs.YtkbmfemncadlnaaGreatDoor.u16) ∧ Blk wx g10 26 (d.map Go.Proofs.YtkbmfemncadlnaaGreatDoor.u16) ∧ Below w.heap.size w wx) (fun i _ => N - (intOf i).toNat)
    case atStart => exact ⟨0, by omega, rfl, K17.out, K5.out, K6.out, K10.out, HB.out⟩
    clear K17 K5 K6 K10 HB
    case round =>
      obtain ⟨k, hk, rfl, hk17, hk5, hk6, hk10, hbw⟩ := hrel
      have K17 := Lib.hid hk17
      clear hk17
      have K5 := Lib.hid hk5
      clear hk5
      have K6 := Lib.hid hk6
      clear hk6
      have K10 := Lib.hid hk10
      clear hk10
      have HB := Lib.hid hbw
      clear hbw
      by_cases hlt : k < N
      · skip
        obtain ⟨hcn, hless⟩ := HALL.out k hlt
        obtain ⟨s, hs⟩ : ∃ s, s = itW r need k := ⟨_, rfl⟩
        obtain ⟨s2, hs2⟩ : ∃ s2, s2 = wearR s need := ⟨_, rfl⟩
        have HVS := Lib.hid (show RubV s by rw [hs]; exact ⟨itW_len HVR.out.len k, itW_lt HVR.out.lt k⟩)
        have hls := HVS.out.len
        have HVS2 := Lib.hid (show RubV s2 by rw [hs2]; exact ⟨wearR_length _ _, gridR_lt _⟩)
        have hls2 := HVS2.out.len
        rw [← hs] at hcn hless K17
        rw [← hs2] at hless
        have HS2 := Lib.hid (show s2 = itW r need (k + 1) by rw [hs2, hs]; rfl)
        have HWO := Lib.hid (show wearOut s need = (s2, 0) by rw [hs2]; exact wearOut_yes HNE.out)
        have hge : decide (((countN s2 : Nat) : Int) ≥ ((countN s : Nat) : Int)) = false := by simp; omega
        clear hs hs2 hless
        repeat ((with_reducible fail_if_success (show wpList _ _ _ (⟨some 157, _, _, _, _, _⟩ :: _) _ _)); first | go_values | go_skip | go_guarded | go_step | go_upon)
        refine wpList_val (by kernel_rfl) (.agg (R16 s)) _ (exec_load_row 26 (.tmp 17) rfl g17 (by kernel_rfl) 26 (R16 s) _ _ K17.out Tryz.underlying26 rfl (by rw [R16_size, hls]; exact szRub)) ?_
        repeat (first | go_values | go_skip | go_guarded | go_step | go_upon)
        go_at_call 12
        refine (count_spec s wr hls).mono ?_
        rintro e w2 ⟨rfl, hb⟩
        dsimp only
        replace K5 := Lib.hid (K5.out.next hb)
        replace K6 := Lib.hid (K6.out.next hb)
        replace K10 := Lib.hid (K10.out.next hb)
        replace K17 := Lib.hid (K17.out.next hb)
        replace HB := Lib.hid (below_step HB.out hb)
        clear hb
        repeat ((with_reducible fail_if_success (show wpList _ _ _ (⟨some 162, _, _, _, _, _⟩ :: _) _ _)); first | go_values | go_skip | go_guarded | go_step | go_upon)
        refine wpList_val (by kernel_rfl) (.agg (R16 s)) _ (exec_load_row 26 (.tmp 17) rfl g17 (by kernel_rfl) 26 (R16 s) _ _ K17.out Tryz.underlying26 rfl (by rw [R16_size, hls]; exact szRub)) ?_
        repeat (first | go_values | go_skip | go_guarded | go_step | go_upon)
        go_at_call 7
        refine (wearOnce_impl s need w2 hls HVS.out.lt).mono ?_
        rintro e w3 ⟨rfl, hb⟩
        rw [HWO.out]
        dsimp only
        replace K5 := Lib.hid (K5.out.next hb)
        replace K6 := Lib.hid (K6.out.next hb)
        replace K10 := Lib.hid (K10.out.next hb)
        replace K17 := Lib.hid (K17.out.next hb)
        replace HB := Lib.hid (below_step HB.out hb)
        clear hb
        have hb := below_one w3 (.cells (s2.map Go.Proofs.YtkbmfemncadlnaaGreatDoor.u16).toArray 26)
        replace K5 := Lib.hid (K5.out.next hb)
        replace K6 := Lib.hid (K6.out.next hb)
        replace K10 := Lib.hid (K10.out.next hb)
        replace K17 := Lib.hid (K17.out.next hb)
        replace HB := Lib.hid (below_step HB.out hb)
        clear hb
        have K19 := Lib.hid (Blk.new w3 26 (s2.map Go.Proofs.YtkbmfemncadlnaaGreatDoor.u16))
        repeat ((with_reducible fail_if_success (show wpList _ _ _ (⟨none, .store 26 (.tmp 19) (.tmp 165), _, _, _, _⟩ :: _) _ _)); first | go_values | go_skip | go_guarded | go_step | go_upon)
        refine wpList_store_new rfl 26 (.tmp 19) (.tmp 165) rfl (s2.map Go.Proofs.YtkbmfemncadlnaaGreatDoor.u16).toArray rfl rfl 26 _ (by rw [List.size_toArray, List.length_map, hls2]; exact szRub) (by rw [show (s2.map Go.Proofs.YtkbmfemncadlnaaGreatDoor.u16).toArray.size = 8 by rw [List.size_toArray, List.length_map, hls2]]; rfl) (one_u16 _) ?_
        generalize w3.alloc (.cells (s2.map Go.Proofs.YtkbmfemncadlnaaGreatDoor.u16).toArray 26) = w4 at *
        generalize w3.heap.size = g19 at *
        repeat ((with_reducible fail_if_success (show Code.wp _ (Code.region 20 _ _) _ _ _)); first | go_values | go_skip | go_guarded | go_step | go_upon)
        refine region_below (w4.heap.size) (by kernel_rfl) (by kernel_rfl) ?_
        refine below_run (by kernel_rfl) (.int .i64 0) (fun w' hw' => by kernel_rfl) ?_
        refine below_run (by kernel_rfl) (.bool false) (fun w' hw' => by kernel_rfl) ?_
        refine below_run (by kernel_rfl) (.bool false) (fun w' hw' => by kernel_rfl) ?_
        refine below_run (by kernel_rfl) (.agg (s2.map Go.Proofs.YtkbmfemncadlnaaGreatDoor.u16).toArray) (fun w' hw' => exec_load_row 26 (.tmp 19) rfl (g19) (by kernel_rfl) 26 (s2.map Go.Proofs.YtkbmfemncadlnaaGreatDoor.u16).toArray _ _ (K19.out.next hw') Tryz.underlying26 rfl (by rw [List.size_toArray, List.length_map, hls2]; exact szRub)) ?_
        refine below_call (by kernel_rfl) 13 #[.agg (s2.map Go.Proofs.YtkbmfemncadlnaaGreatDoor.u16).toArray] (.int .i64 ((countN s2 : Nat) : Int)) (fun w' => by kernel_rfl) (fun w' hw' => (count_impl s2 w' hls2 HVS2.out.lt).mono fun e w1 ⟨he, hb1⟩ => ⟨he, below_step hw' hb1⟩) ?_
        refine below_run (by kernel_rfl) (.agg (s.map Go.Proofs.YtkbmfemncadlnaaGreatDoor.u16).toArray) (fun w' hw' => exec_load_row 26 (.tmp 17) rfl (g17) (by kernel_rfl) 26 (s.map Go.Proofs.YtkbmfemncadlnaaGreatDoor.u16).toArray _ _ (K17.out.next hw') Tryz.underlying26 rfl (by rw [List.size_toArray, List.length_map, hls]; exact szRub)) ?_
        refine below_call (by kernel_rfl) 12 #[.agg (s.map Go.Proofs.YtkbmfemncadlnaaGreatDoor.u16).toArray] (.int .i64 ((countN s : Nat) : Int)) (fun w' => by kernel_rfl) (fun w' hw' => (count_spec s w' hls).mono fun e w1 ⟨he, hb1⟩ => ⟨he, below_step hw' hb1⟩) ?_
        refine below_run (by kernel_rfl) (.bool false) (fun w' hw' => Eq.trans (show (execOp _ _).run _ w' = .ok (.value (.bool (decide (((countN s2 : Nat) : Int) ≥ ((countN s : Nat) : Int))))) w' by kernel_rfl) (by rw [hge])) ?_
        refine below_run (by kernel_rfl) (.bool false) (fun w' hw' => by kernel_rfl) ?_
        refine wpQuiet_nil ?_
        intro W1 hW1
        simp only [Act.put, List.setIfInBounds_toArray, List.set_cons_succ, List.set_cons_zero]
        clear hge hcn
        replace K5 := Lib.hid (K5.out.next hW1)
        replace K6 := Lib.hid (K6.out.next hW1)
        replace K10 := Lib.hid (K10.out.next hW1)
        replace K17 := Lib.hid (K17.out.next hW1)
        replace K19 := Lib.hid (K19.out.next hW1)
        replace HB := Lib.hid (below_step HB.out hW1)
        clear hW1
        repeat ((with_reducible fail_if_success (show wpList _ _ _ (⟨some 176, _, _, _, _, _⟩ :: _) _ _)); first | go_values | go_skip | go_guarded | go_step | go_upon)
        refine wpList_val (by kernel_rfl) (.agg (R16 s2)) _ (exec_load_row 26 (.tmp 19) rfl g19 (by kernel_rfl) 26 (R16 s2) _ _ K19.out Tryz.underlying26 rfl (by rw [R16_size, hls2]; exact szRub)) ?_
        repeat ((with_reducible fail_if_success (show wpList _ _ _ (⟨none, .store 26 (.tmp 17) (.tmp 176), _, _, _, _⟩ :: _) _ _)); first | go_values | go_skip | go_guarded | go_step | go_upon)
        refine wpList_store_row rfl 26 (.tmp 17) (.tmp 176) rfl g17 (R16 s2) rfl rfl 26 _ K17.out (by rw [R16_size, hls2]; exact szRub) (by rw [List.size_toArray, R16_size, List.length_map, hls, hls2]) (one_u16 _) ?_
        have k17 : Blk (W1.setRow g17 (R16 s2)) g17 26 ((itW r need (k + 1)).map Go.Proofs.YtkbmfemncadlnaaGreatDoor.u16) := by rw [← HS2.out]; exact K17.out.setRow_same (s2.map Go.Proofs.YtkbmfemncadlnaaGreatDoor.u16)
        have k5 := K5.out.setRow_other (R16 s2) (show g5 ≠ g17 by omega)
        have k6 := K6.out.setRow_other (R16 s2) (show g6 ≠ g17 by omega)
        have k10 := K10.out.setRow_other (R16 s2) (show g10 ≠ g17 by omega)
        have hbw := below_setRow HB.out g17 (R16 s2) (by omega)
        generalize W1.setRow g17 (R16 s2) = W2 at *
        repeat (first | go_values | go_skip | go_guarded | go_step | go_upon)
        first
          | (go_roundw
             case rel => exact ⟨k + 1, by omega, by go_num, k17, k5, k6, k10, hbw⟩
             case measure => simp [intOf]; omega)
          | (refine ⟨?_, ?measure⟩
             apply Exists.intro
             (repeat apply Exists.intro)
             refine ⟨?rel, rfl⟩
             case rel => exact ⟨k + 1, by omega, by go_num, k17, k5, k6, k10, hbw⟩
             case measure => simp [intOf]; omega)
      · obtain rfl : k = N := by omega
        repeat ((with_reducible fail_if_success (show Code.wp _ (Code.seq (Code.seq (Code.region 23 _ _) _) _) _ _ _)); first | go_values | go_skip | go_guarded | go_step | go_upon)
        exact p2 w _ Aa na ca a Ab nb cb b HNA HNB hna hnb HSA HSB HYA HYB HMX r o d HVR HVO HVD HWD (itW r need k) (Lib.hid ⟨itW_len HVR.out.len k, itW_lt HVR.out.lt k⟩) bound 0 (Lib.hid (.inr ⟨rfl, HCB.out⟩)) g5 g6 g10 g17 K5 K6 K10 K17 HB _ _ _ _ _ _ _ _ _ _ _ _ _ _ _ _ _ _ _ _ _ _ _ _ _ _ _ _ _ _ _ _ _ _ _ _ _ _ _ _ _ _ _ _ _ _ _ _ _ _ _ _ _ _ _ _ _ _ _ _ _ _ _ _ _ _ _ _ _ _ _ _ _ _ _ _ _ _ _ _ _ _ _ _ _ _ _ _ _ _ _ _ _ _ _ _ _ _ _ _ _ _ _ _ _ _ _ _ _ _ _ _ _ _ _ _ _ _ _ _ _ _ _ _ _ _ _ _ _ _ _ _ _ _ _ _ _ _ _ _ _ _ _ _ _ _ _ _ _ _ _ _ _ _ _ _ _ _ _ _ _ _ _ _ _ _ _ _ _ _ _ _ _ _ _ _ _ _ _ _ _ _ _ _ _ _ _ _ _ _ _ _ _ _ _ _ _ _ _ _ _ _ _ _ _ _ _ _ _ _ _ _ _ _ _ _ _ _ _ _ _ _ _ _ _ _ _ _ _ _ _ _ _ _ _ _ _ _ _ _ _ _ _ _ _ _ _ _ _ _ _ _ _ _ _ _ _ _ _ _ _ _ _ _ _ _ _ _ _ _ _ _ _ _ _ _ _ _ _ _ _ _ _ _ _ _ _ _ _ _ _ _ _ _ _ _ _ _ _ _ _ _ _ _ _ _ _ _ _ _ _ _ _ _ _ _ _ _ _ _ _ _ _ _ _ _ _ _ _ _ _ _ _ _ _ _ _ _ _ _ _ _ _ _ _ _ _ _ _ _ _ _ _ _ _ _ _ _ _ _ _ _ _ _ _ _ _ _ _ _ _ _ _ _ _ _ _ _ _ _ _ _ _ _ _ _ _ _ _ _ _ _ _ _ _ _ _ _ _ _ _ _ _ _ _ _ _ _ _ _ _ _ _ _ _ _ _ _ _ _ _ _ _ _ _ _ _ _ _ _ _ _ _ _ _ _ _ _ _ _ _ _ _ _ _ _ _ _ _ _ _ _ _ _ _ _ _ _ _ _ _ _ _ _ _ _ _ _ _ _ _ _ _ _ _ _ _ _ _ _ _ _ _ _ _ _ _ _ _ _ _ _ _ _ _ _ _ _ _ _ _ _ _ _ _ _ _ _ _ _ _ _ _ _ _ _ _ _ _ _ _ _ _ _ _ _ _ _ _ _ _ _ _ _ _ _ _ _ _ _ _ _ _ _ _ _ _ _ _ _ _ _ _ _ _ _ _ _ _ _ _ _ _ _ _ _ _ _ _ _ _ _ _ _ _ _ _ _ _ _ _ _ _ _ _ _ _ _ _ _ _ _ _ _ _ _ _ _ _ _ _ _ _ _ _ _ _ _

attribute [local irreducible] wpQuiet in
set_option maxHeartbeats 4000000 in
set_option maxRecDepth 100000 in
theorem p1 (w wr : World) (Aa : Option Addr) (na ca : Nat) (a : List Int) (Ab : Option Addr) (nb cb : Nat) (b : List Int) (HNA : Hid (a.length = na)) (HNB : Hid (b.length = nb)) (hna : na ≤ 3000) (hnb : nb ≤ 3000) (HSA : Hid (SlE u8 w Aa a)) (HSB : Hid (SlE u8 w Ab b)) (HYA : Hid (Byt a)) (HYB : Hid (Byt b)) (HMX : Hid (MaxW w))  (HB : Hid (Below w.heap.size w wr))
    (u2 u3 u4 u5 u6 u7 u8 u9 u10 u11 u12 u13 u14 u15 u16 u17 u18 u19 u20 u21 u22 u23 u24 u25 u26 u27 u28 u29 u30 u31 u32 u33 u34 u35 u36 u37 u38 u39 u40 u41 u42 u43 u44 u45 u46 u47 u48 u49 u50 u51 u52 u53 u54 u55 u56 u57 u58 u59 u60 u61 u62 u63 u64 u65 u66 u67 u68 u69 u70 u71 u72 u73 u74 u75 u76 u77 u78 u79 u80 u81 u82 u83 u84 u85 u86 u87 u88 u89 u90 u91 u92 u93 u94 u95 u96 u97 u98 u99 u100 u101 u102 u103 u104 u105 u106 u107 u108 u109 u110 u111 u112 u113 u114 u115 u116 u117 u118 u119 u120 u121 u122 u123 u124 u125 u126 u127 u128 u129 u130 u131 u132 u133 u134 u135 u136 u137 u138 u139 u140 u141 u142 u143 u144 u145 u146 u147 u148 u149 u150 u151 u152 u153 u154 u155 u156 u157 u158 u159 u160 u161 u162 u163 u164 u165 u166 u167 u168 u169 u170 u171 u172 u173 u174 u175 u176 u177 u178 u179 u180 u181 u182 u183 u184 u185 u186 u187 u188 u189 u190 u191 u192 u193 u194 u195 u196 u197 u198 u199 u200 u201 u202 u203 u204 u205 u206 u207 u208 u209 u210 u211 u212 u213 u214 u215 u216 u217 u218 u219 u220 u221 u222 u223 u224 u225 u226 u227 u228 u229 u230 u231 u232 u233 u234 u235 u236 u237 u238 u239 u240 u241 u242 u243 u244 u245 u246 u247 u248 u249 u250 u251 u252 u253 u254 u255 u256 u257 u258 u259 u260 u261 u262 u263 u264 u265 u266 u267 u268 u269 u270 u271 u272 u273 u274 u275 u276 u277 u278 u279 u280 u281 u282 u283 u284 u285 u286 u287 u288 u289 u290 u291 u292 u293 u294 u295 u296 u297 u298 u299 u300 u301 u302 u303 u304 u305 u306 u307 u308 u309 u310 u311 u312 u313 u314 u315 u316 u317 u318 u319 u320 u321 u322 u323 u324 u325 u326 u327 u328 u329 u330 u331 u332 u333 u334 u335 u336 u337 u338 u339 u340 u341 u342 u343 u344 u345 u346 u347 u348 u349 u350 u351 u352 u353 u354 u355 u356 u357 u358 u359 u360 u361 u362 u363 u364 u365 u366 u367 u368 u369 u370 u371 u372 u373 u374 u375 u376 u377 u378 u379 u380 u381 u382 u383 u384 u385 u386 u387 u388 u389 u390 u391 u392 u393 u394 u395 u396 u397 u398 u399 u400 u401 u402 u403 u404 u405 u406 u407 u408 u409 u410 u411 u412 u413 u414 u415 u416 u417 u418 u419 u420 u421 u422 u423 u424 u425 u426 u427 u428 u429 u430 u431 u432 u433 u434 u435 u436 u437 u438 u439 u440 u441 u442 u443 u444 u445 u446 u447 u448 u449 u450 u451 u452 u453 u454 u455 u456 u457 u458 u459 u460 u461 u462 u463 u464 u465 u466 u467 u468 u469 u470 u471 u472 u473 u474 u475 u476 u477 u478 u479 u480 u481 u482 u483 u484 u485 u486 u487 u488 u489 u490 u491 u492 u493 u494 u495 u496 u497 u498 u499 u500 u501 u502 u503 u504 u505 u506 u507 u508 u509 u510 u511 u512 u513 u514 u515 u516 u517 u518 u519 u520 u521 u522 u523 u524 u525 u526 u527 u528 u529 u530 u531 u532 u533 u534 u535 u536 u537 u538 u539 u540 u541 u542 u543 u544 u545 u546 u547 u548 u549 u550 u551 u552 u553 u554 u555 u556 u557 u558 u559 u560 u561 u562 u563 u564 u565 u566 u567 u568 u569 u570 u571 u572 u573 u574 u575 u576 u577 u578 u579 u580 u581 u582 u583 u584 u585 u586 u587 u588 u589 u590 u591 u592 u593 u594 u595 u596 u597 u598 u599 u600 u601 u602 u603 u604 u605 u606 u607 u608 u609 u610 u611 u612 u613 u614 u615 : Value) :
    Code.wp Tryz.prog (partOf Tryz.f3 [true, true]) (bodyPost Tryz.prog Tryz.f3 fun e w' => e = .returned (.bool true) ∧ Below w.heap.size w w')
      ⟨#[.slice Aa na ca, .slice Ab nb cb, u2, u3, u4, u5, u6, u7, u8, u9, u10, u11, u12, u13, u14, u15, u16, u17, u18, u19, u20, u21, u22, u23, u24, u25, u26, u27, u28, u29, u30, u31, u32, u33, u34, u35, u36, u37, u38, u39, u40, u41, u42, u43, u44, u45, u46, u47, u48, u49, u50, u51, u52, u53, u54, u55, u56, u57, u58, u59, u60, u61, u62, u63, u64, u65, u66, u67, u68, u69, u70, u71, u72, u73, u74, u75, u76, u77, u78, u79, u80, u81, u82, u83, u84, u85, u86, u87, u88, u89, u90, u91, u92, u93, u94, u95, u96, u97, u98, u99, u100, u101, u102, u103, u104, u105, u106, u107, u108, u109, u110, u111, u112, u113, u114, u115, u116, u117, u118, u119, u120, u121, u122, u123, u124, u125, u126, u127, u128, u129, u130, u131, u132, u133, u134, u135, u136, u137, u138, u139, u140, u141, u142, u143, u144, u145, u146, u147, u148, u149, u150, u151, u152, u153, u154, u155, u156, u157, u158, u159, u160, u161, u162, u163, u164, u165, u166, u167, u168, u169, u170, u171, u172, u173, u174, u175, u176, u177, u178, u179, u180, u181, u182, u183, u184, u185, u186, u187, u188, u189, u190, u191, u192, u193, u194, u195, u196, u197, u198, u199, u200, u201, u202, u203, u204, u205, u206, u207, u208, u209, u210, u211, u212, u213, u214, u215, u216, u217, u218, u219, u220, u221, u222, u223, u224, u225, u226, u227, u228, u229, u230, u231, u232, u233, u234, u235, u236, u237, u238, u239, u240, u241, u242, u243, u244, u245, u246, u247, u248, u249, u250, u251, u252, u253, u254, u255, u256, u257, u258, u259, u260, u261, u262, u263, u264, u265, u266, u267, u268, u269, u270, u271, u272, u273, u274, u275, u276, u277, u278, u279, u280, u281, u282, u283, u284, u285, u286, u287, u288, u289, u290, u291, u292, u293, u294, u295, u296, u297, u298, u299, u300, u301, u302, u303, u304, u305, u306, u307, u308, u309, u310, u311, u312, u313, u314, u315, u316, u317, u318, u319, u320, u321, u322, u323, u324, u325, u326, u327, u328, u329, u330, u331, u332, u333, u334, u335, u336, u337, u338, u339, u340, u341, u342, u343, u344, u345, u346, u347, u348, u349, u350, u351, u352, u353, u354, u355, u356, u357, u358, u359, u360, u361, u362, u363, u364, u365, u366, u367, u368, u369, u370, u371, u372, u373, u374, u375, u376, u377, u378, u379, u380, u381, u382, u383, u384, u385, u386, u387, u388, u389, u390, u391, u392, u393, u394, u395, u396, u397, u398, u399, u400, u401, u402, u403, u404, u405, u406, u407, u408, u409, u410, u411, u412, u413, u414, u415, u416, u417, u418, u419, u420, u421, u422, u423, u424, u425, u426, u427, u428, u429, u430, u431, u432, u433, u434, u435, u436, u437, u438, u439, u440, u441, u442, u443, u444, u445, u446, u447, u448, u449, u450, u451, u452, u453, u454, u455, u456, u457, u458, u459, u460, u461, u462, u463, u464, u465, u466, u467, u468, u469, u470, u471, u472, u473, u474, u475, u476, u477, u478, u479, u480, u481, u482, u483, u484, u485, u486, u487, u488, u489, u490, u491, u492, u493, u494, u495, u496, u497, u498, u499, u500, u501, u502, u503, u504, u505, u506, u507, u508, u509, u510, u511, u512, u513, u514, u515, u516, u517, u518, u519, u520, u521, u522, u523, u524, u525, u526, u527, u528, u529, u530, u531, u532, u533, u534, u535, u536, u537, u538, u539, u540, u541, u542, u543, u544, u545, u546, u547, u548, u549, u550, u551, u552, u553, u554, u555, u556, u557, u558, u559, u560, u561, u562, u563, u564, u565, u566, u567, u568, u569, u570, u571, u572, u573, u574, u575, u576, u577, u578, u579, u580, u581, u582, u583, u584, u585, u586, u587, u588, u589, u590, u591, u592, u593, u594, u595, u596, u597, u598, u599, u600, u601, u602, u603, u604, u605, u606, u607, u608, u609, u610, u611, u612, u613, u614, u615], []⟩ wr := by
  conv => arg 2; whnf
  repeat (first | go_values | go_skip | go_guarded | go_step | go_upon)
  go_at_call 5
  refine (a2rub_any Aa na ca a wr HNA.out (by omega) (HSA.out.next HB.out) HYA.out).mono ?_
  rintro e w1 ⟨r, rfl, hvr, hb⟩
  have HVR := Lib.hid hvr
  have hlr := hvr.len
  clear hvr
  dsimp only
  replace HB := Lib.hid (below_step HB.out hb)
  clear hb
  have hb := below_one w1 (.cells (r.map Go.Proofs.YtkbmfemncadlnaaGreatDoor.u16).toArray 26)
  replace HB := Lib.hid (below_step HB.out hb)
  clear hb
  have K5 := Lib.hid (Blk.new w1 26 (r.map Go.Proofs.YtkbmfemncadlnaaGreatDoor.u16))
  repeat ((with_reducible fail_if_success (show wpList _ _ _ (⟨none, .store 26 (.tmp 5) (.tmp 69), _, _, _, _⟩ :: _) _ _)); first | go_values | go_skip | go_guarded | go_step | go_upon)
  refine wpList_store_new rfl 26 (.tmp 5) (.tmp 69) rfl (r.map Go.Proofs.YtkbmfemncadlnaaGreatDoor.u16).toArray rfl rfl 26 _ (by rw [List.size_toArray, List.length_map, hlr]; exact szRub) (by rw [show (r.map Go.Proofs.YtkbmfemncadlnaaGreatDoor.u16).toArray.size = 8 by rw [List.size_toArray, List.length_map, hlr]]; rfl) (one_u16 _) ?_
  generalize w1.alloc (.cells (r.map Go.Proofs.YtkbmfemncadlnaaGreatDoor.u16).toArray 26) = w2 at *
  generalize w1.heap.size = g5 at *
  repeat (first | go_values | go_skip | go_guarded | go_step | go_upon)
  go_at_call 5
  refine (a2rub_any Ab nb cb b w2 HNB.out (by omega) (HSB.out.next HB.out) HYB.out).mono ?_
  rintro e w3 ⟨o, rfl, hvo, hb⟩
  have HVO := Lib.hid hvo
  have hlo := hvo.len
  clear hvo
  dsimp only
  replace K5 := Lib.hid (K5.out.next hb)
  replace HB := Lib.hid (below_step HB.out hb)
  clear hb
  have hb := below_one w3 (.cells (o.map Go.Proofs.YtkbmfemncadlnaaGreatDoor.u16).toArray 26)
  replace K5 := Lib.hid (K5.out.next hb)
  replace HB := Lib.hid (below_step HB.out hb)
  clear hb
  have K6 := Lib.hid (Blk.new w3 26 (o.map Go.Proofs.YtkbmfemncadlnaaGreatDoor.u16))
  repeat ((with_reducible fail_if_success (show wpList _ _ _ (⟨none, .store 26 (.tmp 6) (.tmp 71), _, _, _, _⟩ :: _) _ _)); first | go_values | go_skip | go_guarded | go_step | go_upon)
  refine wpList_store_new rfl 26 (.tmp 6) (.tmp 71) rfl (o.map Go.Proofs.YtkbmfemncadlnaaGreatDoor.u16).toArray rfl rfl 26 _ (by rw [List.size_toArray, List.length_map, hlo]; exact szRub) (by rw [show (o.map Go.Proofs.YtkbmfemncadlnaaGreatDoor.u16).toArray.size = 8 by rw [List.size_toArray, List.length_map, hlo]]; rfl) (one_u16 _) ?_
  generalize w3.alloc (.cells (o.map Go.Proofs.YtkbmfemncadlnaaGreatDoor.u16).toArray 26) = w4 at *
  generalize w3.heap.size = g6 at *
  repeat (first | go_values | go_skip | go_guarded | go_step | go_upon)
  go_at_call 6
  refine (at_any Ab nb cb b 0 5 w4 HNB.out (by unfold maxLen; omega) (HSB.out.next HB.out) HYB.out (by omega) (by omega)).mono ?_
  rintro e _ ⟨⟨need, rfl, n0, n1⟩, rfl⟩
  dsimp only
  have HNE := Lib.hid (show inB 0 8 need = true from inB_true (by omega))
  obtain ⟨d, hd⟩ : ∃ d, d = wearR r need := ⟨_, rfl⟩
  have HVD := Lib.hid (show RubV d by rw [hd]; exact ⟨wearR_length _ _, gridR_lt _⟩)
  have hld := HVD.out.len
  have HWO := Lib.hid (show wearOut r need = (d, 0) by rw [hd]; exact wearOut_yes HNE.out)
  have HWD := Lib.hid (show wornB r d = true by rw [hd]; exact worn_wear r need)
  have HD := Lib.hid hd
  clear hd
  repeat ((with_reducible fail_if_success (show wpList _ _ _ (⟨some 75, _, _, _, _, _⟩ :: _) _ _)); first | go_values | go_skip | go_guarded | go_step | go_upon)
  refine wpList_val (by kernel_rfl) (.agg (R16 r)) _ (exec_load_row 26 (.tmp 5) rfl g5 (by kernel_rfl) 26 (R16 r) _ _ K5.out Tryz.underlying26 rfl (by rw [R16_size, hlr]; exact szRub)) ?_
  repeat (first | go_values | go_skip | go_guarded | go_step | go_upon)
  go_at_call 7
  refine (wearOnce_impl r need w4 hlr HVR.out.lt).mono ?_
  rintro e w5 ⟨rfl, hb⟩
  rw [HWO.out]
  dsimp only
  replace K5 := Lib.hid (K5.out.next hb)
  replace K6 := Lib.hid (K6.out.next hb)
  replace HB := Lib.hid (below_step HB.out hb)
  clear hb
  have hb := below_one w5 (.cells (d.map Go.Proofs.YtkbmfemncadlnaaGreatDoor.u16).toArray 26)
  replace K5 := Lib.hid (K5.out.next hb)
  replace K6 := Lib.hid (K6.out.next hb)
  replace HB := Lib.hid (below_step HB.out hb)
  clear hb
  have K8 := Lib.hid (Blk.new w5 26 (d.map Go.Proofs.YtkbmfemncadlnaaGreatDoor.u16))
  repeat ((with_reducible fail_if_success (show wpList _ _ _ (⟨none, .store 26 (.tmp 8) (.tmp 78), _, _, _, _⟩ :: _) _ _)); first | go_values | go_skip | go_guarded | go_step | go_upon)
  refine wpList_store_new rfl 26 (.tmp 8) (.tmp 78) rfl (d.map Go.Proofs.YtkbmfemncadlnaaGreatDoor.u16).toArray rfl rfl 26 _ (by rw [List.size_toArray, List.length_map, hld]; exact szRub) (by rw [show (d.map Go.Proofs.YtkbmfemncadlnaaGreatDoor.u16).toArray.size = 8 by rw [List.size_toArray, List.length_map, hld]]; rfl) (one_u16 _) ?_
  generalize w5.alloc (.cells (d.map Go.Proofs.YtkbmfemncadlnaaGreatDoor.u16).toArray 26) = w6 at *
  generalize w5.heap.size = g8 at *
  repeat ((with_reducible fail_if_success (show wpList _ _ _ (⟨some 81, _, _, _, _, _⟩ :: _) _ _)); first | go_values | go_skip | go_guarded | go_step | go_upon)
  refine wpList_val (by kernel_rfl) (.agg (R16 r)) _ (exec_load_row 26 (.tmp 5) rfl g5 (by kernel_rfl) 26 (R16 r) _ _ K5.out Tryz.underlying26 rfl (by rw [R16_size, hlr]; exact szRub)) ?_
  repeat (first | go_values | go_skip | go_guarded | go_step | go_upon)
  go_at_call 8
  refine (wearOnce_spec r need w6 hlr).mono ?_
  rintro e w7 ⟨rfl, hb⟩
  rw [HWO.out]
  dsimp only
  replace K5 := Lib.hid (K5.out.next hb)
  replace K6 := Lib.hid (K6.out.next hb)
  replace K8 := Lib.hid (K8.out.next hb)
  replace HB := Lib.hid (below_step HB.out hb)
  clear hb
  have hb := below_one w7 (.cells (d.map Go.Proofs.YtkbmfemncadlnaaGreatDoor.u16).toArray 26)
  replace K5 := Lib.hid (K5.out.next hb)
  replace K6 := Lib.hid (K6.out.next hb)
  replace K8 := Lib.hid (K8.out.next hb)
  replace HB := Lib.hid (below_step HB.out hb)
  clear hb
  have K10 := Lib.hid (Blk.new w7 26 (d.map Go.Proofs.YtkbmfemncadlnaaGreatDoor.u16))
  repeat ((with_reducible fail_if_success (show wpList _ _ _ (⟨none, .store 26 (.tmp 10) (.tmp 84), _, _, _, _⟩ :: _) _ _)); first | go_values | go_skip | go_guarded | go_step | go_upon)
  refine wpList_store_new rfl 26 (.tmp 10) (.tmp 84) rfl (d.map Go.Proofs.YtkbmfemncadlnaaGreatDoor.u16).toArray rfl rfl 26 _ (by rw [List.size_toArray, List.length_map, hld]; exact szRub) (by rw [show (d.map Go.Proofs.YtkbmfemncadlnaaGreatDoor.u16).toArray.size = 8 by rw [List.size_toArray, List.length_map, hld]]; rfl) (one_u16 _) ?_
  generalize w7.alloc (.cells (d.map Go.Proofs.YtkbmfemncadlnaaGreatDoor.u16).toArray 26) = w8 at *
  generalize w7.heap.size = g10 at *
  repeat (first | go_values | go_skip | go_guarded | go_step | go_upon)
  go_at_call 6
  refine (at_any Ab nb cb b 1 20 w8 HNB.out (by unfold maxLen; omega) (HSB.out.next HB.out) HYB.out (by omega) (by omega)).mono ?_
  rintro e _ ⟨⟨bound, rfl, b0, b1⟩, rfl⟩
  dsimp only
  obtain ⟨T, hT⟩ : ∃ T, T = (wuOut r need bound).1 := ⟨_, rfl⟩
  obtain ⟨C, hC⟩ : ∃ C, C = (wuOut r need bound).2 := ⟨_, rfl⟩
  have HTC := Lib.hid (show (T = 0 ∧ C = 6) ∨ ∃ N : Nat, N ≤ 129 ∧ T = (N : Int) ∧ C = 0 ∧ (countN (itW r need N) : Int) ≤ bound ∧ ∀ j, j < N → ¬ (countN (itW r need j) : Int) ≤ bound ∧ countN (wearR (itW r need j) need) < countN (itW r need j) by
    rcases wu_says HVR.out.len HVR.out.lt HNE.out b0 with e | ⟨N, h0, e, h1, h2⟩
    · rw [e] at hT hC; exact .inl ⟨hT, hC⟩
    · rw [e] at hT hC; exact .inr ⟨N, h0, hT, hC, h1, h2⟩)
  have HT := Lib.hid hT
  have HC := Lib.hid hC
  clear hT hC
  repeat ((with_reducible fail_if_success (show wpList _ _ _ (⟨some 89, _, _, _, _, _⟩ :: _) _ _)); first | go_values | go_skip | go_guarded | go_step | go_upon)
  refine wpList_val (by kernel_rfl) (.agg (R16 r)) _ (exec_load_row 26 (.tmp 5) rfl g5 (by kernel_rfl) 26 (R16 r) _ _ K5.out Tryz.underlying26 rfl (by rw [R16_size, hlr]; exact szRub)) ?_
  repeat (first | go_values | go_skip | go_guarded | go_step | go_upon)
  go_at_call 9
  refine (wearUntil_impl r need bound w8 hlr HVR.out.lt).mono ?_
  rintro e w9 ⟨rfl, hb⟩
  rw [← HT.out, ← HC.out]
  dsimp only
  replace K5 := Lib.hid (K5.out.next hb)
  replace K6 := Lib.hid (K6.out.next hb)
  replace K8 := Lib.hid (K8.out.next hb)
  replace K10 := Lib.hid (K10.out.next hb)
  replace HB := Lib.hid (below_step HB.out hb)
  clear hb
  repeat ((with_reducible fail_if_success (show wpList _ _ _ (⟨some 96, _, _, _, _, _⟩ :: _) _ _)); first | go_values | go_skip | go_guarded | go_step | go_upon)
  refine wpList_val (by kernel_rfl) (.agg (R16 r)) _ (exec_load_row 26 (.tmp 5) rfl g5 (by kernel_rfl) 26 (R16 r) _ _ K5.out Tryz.underlying26 rfl (by rw [R16_size, hlr]; exact szRub)) ?_
  repeat (first | go_values | go_skip | go_guarded | go_step | go_upon)
  go_at_call 10
  refine (wearUntil_spec r need bound w9 hlr HVR.out.lt).mono ?_
  rintro e w10 ⟨rfl, hb⟩
  rw [← HT.out, ← HC.out]
  dsimp only
  replace K5 := Lib.hid (K5.out.next hb)
  replace K6 := Lib.hid (K6.out.next hb)
  replace K8 := Lib.hid (K8.out.next hb)
  replace K10 := Lib.hid (K10.out.next hb)
  replace HB := Lib.hid (below_step HB.out hb)
  clear hb
  repeat ((with_reducible fail_if_success (show wpList _ _ _ (⟨some 110, _, _, _, _, _⟩ :: _) _ _)); first | go_values | go_skip | go_guarded | go_step | go_upon)
  refine wpList_val (by kernel_rfl) (.agg (R16 d)) _ (exec_load_row 26 (.tmp 8) rfl g8 (by kernel_rfl) 26 (R16 d) _ _ K8.out Tryz.underlying26 rfl (by rw [R16_size, hld]; exact szRub)) ?_
  repeat ((with_reducible fail_if_success (show wpList _ _ _ (⟨some 111, _, _, _, _, _⟩ :: _) _ _)); first | go_values | go_skip | go_guarded | go_step | go_upon)
  refine wpList_val (by kernel_rfl) (.agg (R16 d)) _ (exec_load_row 26 (.tmp 10) rfl g10 (by kernel_rfl) 26 (R16 d) _ _ K10.out Tryz.underlying26 rfl (by rw [R16_size, hld]; exact szRub)) ?_
  repeat ((with_reducible fail_if_success (show wpList _ _ _ (⟨some 112, _, _, _, _, _⟩ :: _) _ _)); first | go_values | go_skip | go_guarded | go_step | go_upon)
  refine wpList_val (by kernel_rfl) (.bool false) _ (exec_neq_rub (.tmp 110) (.tmp 111) rfl d hld (by kernel_rfl) (by kernel_rfl)) ?_
  repeat ((with_reducible fail_if_success (show wpList _ _ _ (⟨some 115, _, _, _, _, _⟩ :: _) _ _)); first | go_values | go_skip | go_guarded | go_step | go_upon)
  refine wpList_val (by kernel_rfl) (.agg (R16 r)) _ (exec_load_row 26 (.tmp 5) rfl g5 (by kernel_rfl) 26 (R16 r) _ _ K5.out Tryz.underlying26 rfl (by rw [R16_size, hlr]; exact szRub)) ?_
  repeat ((with_reducible fail_if_success (show wpList _ _ _ (⟨some 116, _, _, _, _, _⟩ :: _) _ _)); first | go_values | go_skip | go_guarded | go_step | go_upon)
  refine wpList_val (by kernel_rfl) (.agg (R16 d)) _ (exec_load_row 26 (.tmp 10) rfl g10 (by kernel_rfl) 26 (R16 d) _ _ K10.out Tryz.underlying26 rfl (by rw [R16_size, hld]; exact szRub)) ?_
  repeat (first | go_values | go_skip | go_guarded | go_step | go_upon)
  go_at_call 11
  refine (worn_impl r d w10 hlr hld HVR.out.lt HVD.out.lt).mono ?_
  rintro e w11 ⟨rfl, hb⟩
  rw [HWD.out]
  dsimp only
  replace K5 := Lib.hid (K5.out.next hb)
  replace K6 := Lib.hid (K6.out.next hb)
  replace K8 := Lib.hid (K8.out.next hb)
  replace K10 := Lib.hid (K10.out.next hb)
  replace HB := Lib.hid (below_step HB.out hb)
  clear hb
  have hcc : (C != C) = false := by simp
  have htt : (T != T) = false := by simp
  by_cases hn0 : need = 0
  · subst hn0
    have HDR := Lib.hid (HD.out.trans (wear_zero r hlr HVR.out.lt))
    repeat ((with_reducible fail_if_success (show wpList _ _ _ (⟨some 124, _, _, _, _, _⟩ :: _) _ _)); first | go_values | go_skip | go_guarded | go_step | go_upon)
    refine wpList_val (by kernel_rfl) (.agg (R16 d)) _ (exec_load_row 26 (.tmp 10) rfl g10 (by kernel_rfl) 26 (R16 d) _ _ K10.out Tryz.underlying26 rfl (by rw [R16_size, hld]; exact szRub)) ?_
    repeat ((with_reducible fail_if_success (show wpList _ _ _ (⟨some 125, _, _, _, _, _⟩ :: _) _ _)); first | go_values | go_skip | go_guarded | go_step | go_upon)
    refine wpList_val (by kernel_rfl) (.agg (R16 r)) _ (exec_load_row 26 (.tmp 5) rfl g5 (by kernel_rfl) 26 (R16 r) _ _ K5.out Tryz.underlying26 rfl (by rw [R16_size, hlr]; exact szRub)) ?_
    repeat ((with_reducible fail_if_success (show wpList _ _ _ (⟨some 126, _, _, _, _, _⟩ :: _) _ _)); first | go_values | go_skip | go_guarded | go_step | go_upon)
    refine wpList_val (by kernel_rfl) (.bool false) _ (exec_neq_rub (.tmp 124) (.tmp 125) rfl d hld (by kernel_rfl) (by rw [← HDR.out]; kernel_rfl)) ?_
    rcases HTC.out with ⟨rfl, rfl⟩ | ⟨N, hN9, rfl, rfl, hcb, hall⟩
    · skip
      repeat ((with_reducible fail_if_success (show Code.wp _ (Code.seq (Code.region 13 _ _) _) _ _ _)); first | go_values | go_skip | go_guarded | go_step | go_upon)
      exact p1b w _ Aa na ca a Ab nb cb b HNA HNB hna hnb HSA HSB HYA HYB HMX r o d HVR HVO HVD HWD 0 bound 0 6 HNE HTC g5 g6 g10 K5 K6 K10 HB _ _ _ _ _ _ _ _ _ _ _ _ _ _ _ _ _ _ _ _ _ _ _ _ _ _ _ _ _ _ _ _ _ _ _ _ _ _ _ _ _ _ _ _ _ _ _ _ _ _ _ _ _ _ _ _ _ _ _ _ _ _ _ _ _ _ _ _ _ _ _ _ _ _ _ _ _ _ _ _ _ _ _ _ _ _ _ _ _ _ _ _ _ _ _ _ _ _ _ _ _ _ _ _ _ _ _ _ _ _ _ _ _ _ _ _ _ _ _ _ _ _ _ _ _ _ _ _ _ _ _ _ _ _ _ _ _ _ _ _ _ _ _ _ _ _ _ _ _ _ _ _ _ _ _ _ _ _ _ _ _ _ _ _ _ _ _ _ _ _ _ _ _ _ _ _ _ _ _ _ _ _ _ _ _ _ _ _ _ _ _ _ _ _ _ _ _ _ _ _ _ _ _ _ _ _ _ _ _ _ _ _ _ _ _ _ _ _ _ _ _ _ _ _ _ _ _ _ _ _ _ _ _ _ _ _ _ _ _ _ _ _ _ _ _ _ _ _ _ _ _ _ _ _ _ _ _ _ _ _ _ _ _ _ _ _ _ _ _ _ _ _ _ _ _ _ _ _ _ _ _ _ _ _ _ _ _ _ _ _ _ _ _ _ _ _ _ _ _ _ _ _ _ _ _ _ _ _ _ _ _ _ _ _ _ _ _ _ _ _ _ _ _ _ _ _ _ _ _ _ _ _ _ _ _ _ _ _ _ _ _ _ _ _ _ _ _ _ _ _ _ _ _ _ _ _ _ _ _ _ _ _ _ _ _ _ _ _ _ _ _ _ _ _ _ _ _ _ _ _ _ _ _ _ _ _ _ _ _ _ _ _ _ _ _ _ _ _ _ _ _ _ _ _ _ _ _ _ _ _ _ _ _ _ _ _ _ _ _ _ _ _ _ _ _ _ _ _ _ _ _ _ _ _ _ _ _ _ _ _ _ _ _ _ _ _ _ _ _ _ _ _ _ _ _ _ _ _ _ _ _ _ _ _ _ _ _ _ _ _ _ _ _ _ _ _ _ _ _ _ _ _ _ _ _ _ _ _ _ _ _ _ _ _ _ _ _ _ _ _ _ _ _ _ _ _ _ _ _ _ _ _ _ _ _ _ _ _ _ _ _ _ _ _ _ _ _ _ _ _ _ _ _ _ _ _ _ _ _ _ _ _ _ _ _ _ _ _ _ _ _ _ _ _ _ _ _ _ _ _ _ _ _ _ _ _ _ _ _ _ _ _ _ _ _ _ _ _ _ _ _ _ _ _ _ _ _ _ _ _ _ _ _ _ _ _ _ _ _ _ _ _ _ _ _ _ _
    · clear hcb hall
      repeat ((with_reducible fail_if_success (show Code.wp _ (Code.seq (Code.region 13 _ _) _) _ _ _)); first | go_values | go_skip | go_guarded | go_step | go_upon)
      exact p1b w _ Aa na ca a Ab nb cb b HNA HNB hna hnb HSA HSB HYA HYB HMX r o d HVR HVO HVD HWD 0 bound N 0 HNE HTC g5 g6 g10 K5 K6 K10 HB _ _ _ _ _ _ _ _ _ _ _ _ _ _ _ _ _ _ _ _ _ _ _ _ _ _ _ _ _ _ _ _ _ _ _ _ _ _ _ _ _ _ _ _ _ _ _ _ _ _ _ _ _ _ _ _ _ _ _ _ _ _ _ _ _ _ _ _ _ _ _ _ _ _ _ _ _ _ _ _ _ _ _ _ _ _ _ _ _ _ _ _ _ _ _ _ _ _ _ _ _ _ _ _ _ _ _ _ _ _ _ _ _ _ _ _ _ _ _ _ _ _ _ _ _ _ _ _ _ _ _ _ _ _ _ _ _ _ _ _ _ _ _ _ _ _ _ _ _ _ _ _ _ _ _ _ _ _ _ _ _ _ _ _ _ _ _ _ _ _ _ _ _ _ _ _ _ _ _ _ _ _ _ _ _ _ _ _ _ _ _ _ _ _ _ _ _ _ _ _ _ _ _ _ _ _ _ _ _ _ _ _ _ _ _ _ _ _ _ _ _ _ _ _ _ _ _ _ _ _ _ _ _ _ _ _ _ _ _ _ _ _ _ _ _ _ _ _ _ _ _ _ _ _ _ _ _ _ _ _ _ _ _ _ _ _ _ _ _ _ _ _ _ _ _ _ _ _ _ _ _ _ _ _ _ _ _ _ _ _ _ _ _ _ _ _ _ _ _ _ _ _ _ _ _ _ _ _ _ _ _ _ _ _ _ _ _ _ _ _ _ _ _ _ _ _ _ _ _ _ _ _ _ _ _ _ _ _ _ _ _ _ _ _ _ _ _ _ _ _ _ _ _ _ _ _ _ _ _ _ _ _ _ _ _ _ _ _ _ _ _ _ _ _ _ _ _ _ _ _ _ _ _ _ _ _ _ _ _ _ _ _ _ _ _ _ _ _ _ _ _ _ _ _ _ _ _ _ _ _ _ _ _ _ _ _ _ _ _ _ _ _ _ _ _ _ _ _ _ _ _ _ _ _ _ _ _ _ _ _ _ _ _ _ _ _ _ _ _ _ _ _ _ _ _ _ _ _ _ _ _ _ _ _ _ _ _ _ _ _ _ _ _ _ _ _ _ _ _ _ _ _ _ _ _ _ _ _ _ _ _ _ _ _ _ _ _ _ _ _ _ _ _ _ _ _ _ _ _ _ _ _ _ _ _ _ _ _ _ _ _ _ _ _ _ _ _ _ _ _ _ _ _ _ _ _ _ _ _ _ _ _ _ _ _ _ _ _ _ _ _ _ _ _ _ _ _ _ _ _ _ _ _ _ _ _ _ _ _ _ _ _ _ _ _ _ _ _ _ _ _ _ _ _ _ _ _ _ _ _ _ _ _ _ _ _ _ _ _ _ _ _ _ _ _ _ _
  · have hnzb : (need == 0) = false := by simpa using hn0
    rcases HTC.out with ⟨rfl, rfl⟩ | ⟨N, hN9, rfl, rfl, hcb, hall⟩
    · skip
      repeat ((with_reducible fail_if_success (show Code.wp _ (Code.seq (Code.region 13 _ _) _) _ _ _)); first | go_values | go_skip | go_guarded | go_step | go_upon)
      exact p1b w _ Aa na ca a Ab nb cb b HNA HNB hna hnb HSA HSB HYA HYB HMX r o d HVR HVO HVD HWD need bound 0 6 HNE HTC g5 g6 g10 K5 K6 K10 HB _ _ _ _ _ _ _ _ _ _ _ _ _ _ _ _ _ _ _ _ _ _ _ _ _ _ _ _ _ _ _ _ _ _ _ _ _ _ _ _ _ _ _ _ _ _ _ _ _ _ _ _ _ _ _ _ _ _ _ _ _ _ _ _ _ _ _ _ _ _ _ _ _ _ _ _ _ _ _ _ _ _ _ _ _ _ _ _ _ _ _ _ _ _ _ _ _ _ _ _ _ _ _ _ _ _ _ _ _ _ _ _ _ _ _ _ _ _ _ _ _ _ _ _ _ _ _ _ _ _ _ _ _ _ _ _ _ _ _ _ _ _ _ _ _ _ _ _ _ _ _ _ _ _ _ _ _ _ _ _ _ _ _ _ _ _ _ _ _ _ _ _ _ _ _ _ _ _ _ _ _ _ _ _ _ _ _ _ _ _ _ _ _ _ _ _ _ _ _ _ _ _ _ _ _ _ _ _ _ _ _ _ _ _ _ _ _ _ _ _ _ _ _ _ _ _ _ _ _ _ _ _ _ _ _ _ _ _ _ _ _ _ _ _ _ _ _ _ _ _ _ _ _ _ _ _ _ _ _ _ _ _ _ _ _ _ _ _ _ _ _ _ _ _ _ _ _ _ _ _ _ _ _ _ _ _ _ _ _ _ _ _ _ _ _ _ _ _ _ _ _ _ _ _ _ _ _ _ _ _ _ _ _ _ _ _ _ _ _ _ _ _ _ _ _ _ _ _ _ _ _ _ _ _ _ _ _ _ _ _ _ _ _ _ _ _ _ _ _ _ _ _ _ _ _ _ _ _ _ _ _ _ _ _ _ _ _ _ _ _ _ _ _ _ _ _ _ _ _ _ _ _ _ _ _ _ _ _ _ _ _ _ _ _ _ _ _ _ _ _ _ _ _ _ _ _ _ _ _ _ _ _ _ _ _ _ _ _ _ _ _ _ _ _ _ _ _ _ _ _ _ _ _ _ _ _ _ _ _ _ _ _ _ _ _ _ _ _ _ _ _ _ _ _ _ _ _ _ _ _ _ _ _ _ _ _ _ _ _ _ _ _ _ _ _ _ _ _ _ _ _ _ _ _ _ _ _ _ _ _ _ _ _ _ _ _ _ _ _ _ _ _ _ _ _ _ _ _ _ _ _ _ _ _ _ _ _ _ _ _ _ _ _ _ _ _ _ _ _ _ _ _ _ _ _ _ _ _ _ _ _ _ _ _ _ _ _ _ _ _ _ _ _ _ _ _ _ _ _ _ _ _ _ _ _ _ _ _ _ _ _ _ _ _ _ _ _ _ _ _ _ _ _ _ _ _ _ _ _ _ _ _ _ _ _ _ _ _ _ _ _ _ _ _ _ _ _
    · clear hcb hall
      repeat ((with_reducible fail_if_success (show Code.wp _ (Code.seq (Code.region 13 _ _) _) _ _ _)); first | go_values | go_skip | go_guarded | go_step | go_upon)
      exact p1b w _ Aa na ca a Ab nb cb b HNA HNB hna hnb HSA HSB HYA HYB HMX r o d HVR HVO HVD HWD need bound N 0 HNE HTC g5 g6 g10 K5 K6 K10 HB _ _ _ _ _ _ _ _ _ _ _ _ _ _ _ _ _ _ _ _ _ _ _ _ _ _ _ _ _ _ _ _ _ _ _ _ _ _ _ _ _ _ _ _ _ _ _ _ _ _ _ _ _ _ _ _ _ _ _ _ _ _ _ _ _ _ _ _ _ _ _ _ _ _ _ _ _ _ _ _ _ _ _ _ _ _ _ _ _ _ _ _ _ _ _ _ _ _ _ _ _ _ _ _ _ _ _ _ _ _ _ _ _ _ _ _ _ _ _ _ _ _ _ _ _ _ _ _ _ _ _ _ _ _ _ _ _ _ _ _ _ _ _ _ _ _ _ _ _ _ _ _ _ _ _ _ _ _ _ _ _ _ _ _ _ _ _ _ _ _ _ _ _ _ _ _ _ _ _ _ _ _ _ _ _ _ _ _ _ _ _ _ _ _ _ _ _ _ _ _ _ _ _ _ _ _ _ _ _ _ _ _ _ _ _ _ _ _ _ _ _ _ _ _ _ _ _ _ _ _ _ _ _ _ _ _ _ _ _ _ _ _ _ _ _ _ _ _ _ _ _ _ _ _ _ _ _ _ _ _ _ _ _ _ _ _ _ _ _ _ _ _ _ _ _ _ _ _ _ _ _ _ _ _ _ _ _ _ _ _ _ _ _ _ _ _ _ _ _ _ _ _ _ _ _ _ _ _ _ _ _ _ _ _ _ _ _ _ _ _ _ _ _ _ _ _ _ _ _ _ _ _ _ _ _ _ _ _ _ _ _ _ _ _ _ _ _ _ _ _ _ _ _ _ _ _ _ _ _ _ _ _ _ _ _ _ _ _ _ _ _ _ _ _ _ _ _ _ _ _ _ _ _ _ _ _ _ _ _ _ _ _ _ _ _ _ _ _ _ _ _ _ _ _ _ _ _ _ _ _ _ _ _ _ _ _ _ _ _ _ _ _ _ _ _ _ _ _ _ _ _ _ _ _ _ _ _ _ _ _ _ _ _ _ _ _ _ _ _ _ _ _ _ _ _ _ _ _ _ _ _ _ _ _ _ _ _ _ _ _ _ _ _ _ _ _ _ _ _ _ _ _ _ _ _ _ _ _ _ _ _ _ _ _ _ _ _ _ _ _ _ _ _ _ _ _ _ _ _ _ _ _ _ _ _ _ _ _ _ _ _ _ _ _ _ _ _ _ _ _ _ _ _ _ _ _ _ _ _ _ _ _ _ _ _ _ _ _ _ _ _ _ _ _ _ _ _ _ _ _ _ _ _ _ _ _ _ _ _ _ _ _ _ _ _ _ _ _ _ _ _ _ _ _ _ _ _ _ _ _ _ _ _ _ _ _ _ _ _ _ _ _ _ _ _ _ _
end Go.Proofs.YtkbmfemncadlnaaGreatDoor.lawWorn
