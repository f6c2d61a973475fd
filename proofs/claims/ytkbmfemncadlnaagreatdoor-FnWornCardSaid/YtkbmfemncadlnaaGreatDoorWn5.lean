/- The law of what is worn: a piece of its walk. -/
import Derived.Test.YtkbmfemncadlnaaGreatDoorWnK
import Derived.Deep.CutRange
import Derived.BigRegion
import Derived.Test.YtkbmfemncadlnaaGreatDoorWn6


namespace Go.Proofs.YtkbmfemncadlnaaGreatDoor.lawWorn
open Go Go.RowKit Go.Proofs.YtkbmfemncadlnaaGreatDoor
set_option linter.unusedVariables false
set_option linter.unusedSimpArgs false

attribute [local irreducible] wpQuiet in
set_option maxHeartbeats 4000000 in
set_option maxRecDepth 100000 in
theorem p5 (w wr : World) (Aa : Option Addr) (na ca : Nat) (a : List Int) (Ab : Option Addr) (nb cb : Nat) (b : List Int) (HNA : Hid (a.length = na)) (HNB : Hid (b.length = nb)) (hna : na ≤ 3000) (hnb : nb ≤ 3000) (HSA : Hid (SlE u8 w Aa a)) (HSB : Hid (SlE u8 w Ab b)) (HYA : Hid (Byt a)) (HYB : Hid (Byt b)) (HMX : Hid (MaxW w)) (hs : List (List Int)) (Bh : Option Addr) (dh : Nat) (HOK : Hid (HsOk hs)) (kn : List Int) (Bk : Option Addr) (dk : Nat) (HG : Hid (gapsOk kn = true)) (I M : Int) (HNR : Hid (∀ i, i < hs.length → M ≤ ((apartN (rdL hs i) kn : Nat) : Int) ∧ (((apartN (rdL hs i) kn : Nat) : Int) = M → I ≤ (i : Int)) ∧ ((i : Int) = I → ((apartN (rdL hs i) kn : Nat) : Int) = M))) (f : Fc) (S : Value) (HV : Hid (validF f = true)) (l : List UInt8) (HL : Hid (LL l)) (h1 : 1 ≤ l.length) (h5 : l.length ≤ 5) (HKN : Hid (kn = gapsW f l l.length)) (g35 : Nat) (HH : Hid (Sl2 wr Bh hs)) (HK : Hid (SlE i64 wr Bk kn)) (HF : Hid (HasF wr f S)) (K35 : Hid (Blk wr g35 44 (fcV f S))) (HB : Hid (Below w.heap.size w wr))
    (u2 u3 u4 u5 u6 u7 u8 u9 u10 u11 u12 u13 u14 u15 u16 u17 u18 u19 u20 u21 u22 u23 u24 u25 u26 u27 u28 u29 u30 u31 u32 u33 u37 u38 u40 u41 u42 u43 u46 u47 u48 u49 u50 u51 u52 u53 u54 u55 u56 u57 u58 u59 u60 u61 u62 u63 u64 u65 u66 u67 u68 u69 u70 u71 u72 u73 u74 u75 u76 u77 u78 u79 u80 u81 u82 u83 u84 u85 u86 u87 u88 u89 u90 u91 u92 u93 u94 u95 u96 u97 u98 u99 u100 u101 u102 u103 u104 u105 u106 u107 u108 u109 u110 u111 u112 u113 u114 u115 u116 u117 u118 u119 u120 u121 u122 u123 u124 u125 u126 u127 u128 u129 u130 u131 u132 u133 u134 u135 u136 u137 u138 u139 u140 u141 u142 u143 u144 u145 u146 u147 u148 u149 u150 u151 u152 u153 u154 u155 u156 u157 u158 u159 u160 u161 u162 u163 u164 u165 u166 u167 u168 u169 u170 u171 u172 u173 u174 u175 u176 u177 u178 u179 u180 u181 u182 u183 u184 u185 u186 u187 u188 u189 u190 u191 u192 u193 u194 u195 u196 u197 u198 u199 u200 u201 u202 u203 u204 u205 u206 u207 u208 u209 u210 u211 u212 u213 u214 u215 u216 u217 u218 u219 u220 u221 u222 u223 u224 u225 u226 u227 u228 u229 u230 u231 u232 u233 u234 u235 u236 u237 u238 u239 u240 u241 u242 u243 u244 u245 u246 u247 u248 u249 u250 u251 u252 u253 u254 u255 u256 u257 u258 u259 u260 u261 u262 u263 u264 u265 u266 u267 u268 u269 u270 u271 u272 u273 u274 u275 u276 u277 u278 u279 u280 u281 u282 u283 u284 u285 u286 u287 u288 u289 u290 u291 u292 u293 u294 u295 u296 u297 u298 u299 u300 u301 u302 u303 u304 u305 u306 u307 u308 u309 u310 u311 u312 u313 u314 u315 u316 u317 u318 u319 u320 u321 u322 u323 u324 u325 u326 u327 u328 u329 u330 u331 u332 u333 u334 u335 u336 u337 u338 u339 u340 u341 u342 u343 u344 u345 u346 u347 u348 u349 u350 u351 u352 u353 u354 u355 u356 u357 u358 u359 u360 u361 u362 u363 u364 u365 u366 u367 u368 u369 u370 u371 u372 u373 u374 u375 u376 u377 u378 u379 u380 u381 u382 u383 u384 u385 u386 u387 u388 u389 u390 u391 u392 u393 u394 u395 u396 u397 u398 u399 u400 u401 u402 u403 u404 u405 u406 u407 u408 u409 u410 u411 u412 u413 u414 u415 u416 u417 u418 u419 u420 u421 u422 u423 u424 u425 u426 u427 u428 u429 u430 u431 u432 u433 u434 u435 u436 u437 u438 u439 u440 u441 u442 u443 u444 u445 u446 u447 u448 u449 u450 u451 u452 u453 u454 u455 u456 u457 u458 u459 u460 u461 u462 u463 u464 u465 u466 u467 u468 u469 u470 u471 u472 u473 u474 u475 u476 u477 u478 u479 u480 u481 u482 u483 u484 u485 u486 u487 u488 u489 u490 u491 u492 u493 u494 u495 u496 u497 u498 u499 u500 u501 u502 u503 u504 u505 u506 u507 u508 u509 u510 u511 u512 u513 u514 u515 u516 u517 u518 u519 u520 u521 u522 u523 u524 u525 u526 u527 u528 u529 u530 u531 u532 u533 u534 u535 u536 u537 u538 u539 u540 u541 u542 u543 u544 u545 u546 u547 u548 u549 u550 u551 u552 u553 u554 u555 u556 u557 u558 u559 u560 u561 u562 u563 u564 u565 u566 u567 u568 u569 u570 u571 u572 u573 u574 u575 u576 u577 u578 u579 u580 u581 u582 u583 u584 u585 u586 u587 u588 u589 u590 u591 u592 u593 u594 u595 u596 u597 u598 u599 u600 u601 u602 u603 u604 u605 u606 u607 u608 u609 u610 u611 u612 u613 u614 u615 : Value) :
    Code.wp Tryz.prog (partOf Tryz.f3 [true, true, true, true, true, true, true, true, true, true, true, true, true, true, true, true, true, true, true, true, true, true, true, true, true, true, true, true, true, true, true, true]) (bodyPost Tryz.prog Tryz.f3 fun e w' => e = .returned (.bool true) ∧ Below w.heap.size w w')
      ⟨#[.slice Aa na ca, .slice Ab nb cb, u2, u3, u4, u5, u6, u7, u8, u9, u10, u11, u12, u13, u14, u15, u16, u17, u18, u19, u20, u21, u22, u23, u24, u25, u26, u27, u28, u29, u30, u31, u32, u33, .slice Bh hs.length dh, .pointer (some ⟨g35, 0, none⟩), .string ⟨l.toArray⟩, u37, u38, .slice Bk kn.length dk, u40, u41, u42, u43, .int .i64 I, .int .i64 M, u46, u47, u48, u49, u50, u51, u52, u53, u54, u55, u56, u57, u58, u59, u60, u61, u62, u63, u64, u65, u66, u67, u68, u69, u70, u71, u72, u73, u74, u75, u76, u77, u78, u79, u80, u81, u82, u83, u84, u85, u86, u87, u88, u89, u90, u91, u92, u93, u94, u95, u96, u97, u98, u99, u100, u101, u102, u103, u104, u105, u106, u107, u108, u109, u110, u111, u112, u113, u114, u115, u116, u117, u118, u119, u120, u121, u122, u123, u124, u125, u126, u127, u128, u129, u130, u131, u132, u133, u134, u135, u136, u137, u138, u139, u140, u141, u142, u143, u144, u145, u146, u147, u148, u149, u150, u151, u152, u153, u154, u155, u156, u157, u158, u159, u160, u161, u162, u163, u164, u165, u166, u167, u168, u169, u170, u171, u172, u173, u174, u175, u176, u177, u178, u179, u180, u181, u182, u183, u184, u185, u186, u187, u188, u189, u190, u191, u192, u193, u194, u195, u196, u197, u198, u199, u200, u201, u202, u203, u204, u205, u206, u207, u208, u209, u210, u211, u212, u213, u214, u215, u216, u217, u218, u219, u220, u221, u222, u223, u224, u225, u226, u227, u228, u229, u230, u231, u232, u233, u234, u235, u236, u237, u238, u239, u240, u241, u242, u243, u244, u245, u246, u247, u248, u249, u250, u251, u252, u253, u254, u255, u256, u257, u258, u259, u260, u261, u262, u263, u264, u265, u266, u267, u268, u269, u270, u271, u272, u273, u274, u275, u276, u277, u278, u279, u280, u281, u282, u283, u284, u285, u286, u287, u288, u289, u290, u291, u292, u293, u294, u295, u296, u297, u298, u299, u300, u301, u302, u303, u304, u305, u306, u307, u308, u309, u310, u311, u312, u313, u314, u315, u316, u317, u318, u319, u320, u321, u322, u323, u324, u325, u326, u327, u328, u329, u330, u331, u332, u333, u334, u335, u336, u337, u338, u339, u340, u341, u342, u343, u344, u345, u346, u347, u348, u349, u350, u351, u352, u353, u354, u355, u356, u357, u358, u359, u360, u361, u362, u363, u364, u365, u366, u367, u368, u369, u370, u371, u372, u373, u374, u375, u376, u377, u378, u379, u380, u381, u382, u383, u384, u385, u386, u387, u388, u389, u390, u391, u392, u393, u394, u395, u396, u397, u398, u399, u400, u401, u402, u403, u404, u405, u406, u407, u408, u409, u410, u411, u412, u413, u414, u415, u416, u417, u418, u419, u420, u421, u422, u423, u424, u425, u426, u427, u428, u429, u430, u431, u432, u433, u434, u435, u436, u437, u438, u439, u440, u441, u442, u443, u444, u445, u446, u447, u448, u449, u450, u451, u452, u453, u454, u455, u456, u457, u458, u459, u460, u461, u462, u463, u464, u465, u466, u467, u468, u469, u470, u471, u472, u473, u474, u475, u476, u477, u478, u479, u480, u481, u482, u483, u484, u485, u486, u487, u488, u489, u490, u491, u492, u493, u494, u495, u496, u497, u498, u499, u500, u501, u502, u503, u504, u505, u506, u507, u508, u509, u510, u511, u512, u513, u514, u515, u516, u517, u518, u519, u520, u521, u522, u523, u524, u525, u526, u527, u528, u529, u530, u531, u532, u533, u534, u535, u536, u537, u538, u539, u540, u541, u542, u543, u544, u545, u546, u547, u548, u549, u550, u551, u552, u553, u554, u555, u556, u557, u558, u559, u560, u561, u562, u563, u564, u565, u566, u567, u568, u569, u570, u571, u572, u573, u574, u575, u576, u577, u578, u579, u580, u581, u582, u583, u584, u585, u586, u587, u588, u589, u590, u591, u592, u593, u594, u595, u596, u597, u598, u599, u600, u601, u602, u603, u604, u605, u606, u607, u608, u609, u610, u611, u612, u613, u614, u615], []⟩ wr := by
  conv => arg 2; whnf
  have HFT := Lib.hid HF.out.1
  have hlen := fcV_length HFT.out S
  have HLS := Lib.hid HL.out.ls
  have HFV := Lib.hid (validF_iff.1 HV.out)
  obtain ⟨X, hX⟩ : ∃ X, X = lineW f l := ⟨_, rfl⟩
  have HX := Lib.hid hX
  clear hX
  repeat ((with_reducible fail_if_success (show wpList _ _ _ (⟨some 378, _, _, _, _, _⟩ :: _) _ _)); first | go_values | go_skip | go_guarded | go_step | go_upon)
  refine wpList_val (by kernel_rfl) (.agg (fcV f S).toArray) _ (exec_load_row 44 (.tmp 35) rfl g35 (by kernel_rfl) 44 (fcV f S).toArray _ _ K35.out Tryz.underlying44 rfl (by rw [List.size_toArray, hlen]; exact szFcI)) ?_
  repeat (first | go_values | go_skip | go_guarded | go_step | go_upon)
  go_at_call 26
  refine (wordWide_impl f S l wr HF.out HV.out HL.out h1 (by omega) (HMX.out.next HB.out)).mono ?_
  rintro e w1 ⟨rfl, hb⟩
  rw [← HX.out]
  dsimp only
  replace HH := Lib.hid (HH.out.next hb)
  replace HK := Lib.hid (HK.out.next hb)
  replace HF := Lib.hid (HF.out.next hb)
  replace K35 := Lib.hid (K35.out.next hb)
  replace HB := Lib.hid (below_step HB.out hb)
  clear hb
  clear HF
  have hkl : kn.length = l.length - 1 := by rw [HKN.out]; exact gapsW_len _ _ _
  have HKLN := Lib.hid hkl
  clear hkl
  have hrl := atW_range HFV.out HLS.out (Nat.le_refl l.length)
  repeat ((with_reducible fail_if_success (show Code.wp _ (Code.loop _) _ _ _)); first | go_values | go_skip | go_guarded | go_step | go_upon)
  go_loopw [47, 49] (fun v i wx => ∃ k : Nat, k ≤ l.length ∧ i = .int .i64 k ∧ v = .int .i64 (X - atW f l k) ∧ Below w1.heap.size w1 wx) (fun _ i _ => l.length - (intOf i).toNat)
  case atStart => exact ⟨0, by omega, rfl, by rw [atW]; simp, Below.refl _ _⟩
  case round =>
    obtain ⟨k, hk, rfl, rfl, hbx⟩ := hrel
    have HBO := Lib.hid hbx
    replace HH := Lib.hid (HH.out.next hbx)
    replace HK := Lib.hid (HK.out.next hbx)
    replace K35 := Lib.hid (K35.out.next hbx)
    replace HB := Lib.hid (below_step HB.out hbx)
    clear hbx
    by_cases hlt : k < l.length
    · skip
      have hlet := isLet_iff.1 (HL.out k hlt)
      have hr1 := atW_range HFV.out HLS.out hk
      have hr2 := atW_range HFV.out HLS.out (show k + 1 ≤ l.length from hlt)
      have hwd := atW_lett (f := f) HL.out hlt
      rw [← HKN.out] at hwd
      have hlw : X = atW f l l.length := HX.out
      have hN26 : letN l k < 26 := by unfold letN; omega
      have hwr := HFV.out.wide (letN l k) hN26
      have hby : byS ⟨l.toArray⟩ k = byt l k := by unfold byS; rw [bs_mk]
      have hsub8 : IntKind.u8.wrap (byt l k - 65) = ((letN l k : Nat) : Int) := by rw [IntWalk.u8_in _ (by omega)]; unfold letN; omega
      have cw := K35.out.cell (letN l k) _ (fcV_wide HFT.out S _ hN26)
      have e1 : IntKind.i64.wrap (rdI f.wide (letN l k)) = rdI f.wide (letN l k) := IntWalk.i64_in _ (by omega)
      have e2 : IntKind.i64.wrap (X - atW f l k - rdI f.wide (letN l k)) = X - atW f l k - rdI f.wide (letN l k) := IntWalk.i64_in _ (by omega)
      have HWD := Lib.hid hwd
      have HLW := Lib.hid hlw
      clear hwd hlw
      repeat ((with_reducible fail_if_success (show wpList _ _ _ (⟨some 394, _, _, _, _, _⟩ :: _) _ _)); first | go_values | go_skip | go_guarded | go_step | go_upon)
      refine wpList_val (by kernel_rfl) (.int .u8 (byt l k)) _ (by rw [← hby]; exact exec_byte (.tmp 392) (.tmp 393) rfl ⟨l.toArray⟩ (by kernel_rfl) k (by kernel_rfl) (by simp [ByteArray.size]; omega)) ?_
      repeat ((with_reducible fail_if_success (show wpList _ _ _ (⟨some 395, _, _, _, _, _⟩ :: _) _ _)); first | go_values | go_skip | go_guarded | go_step | go_upon)
      refine wpList_val (by kernel_rfl) (.int .u8 ((letN l k : Nat) : Int)) wr (Eq.trans (show (execOp _ _).run _ wr = .ok (.value (.int .u8 (IntKind.u8.wrap (byt l k - 65)))) wr by kernel_rfl) (by rw [hsub8])) ?_
      repeat ((with_reducible fail_if_success (show wpList _ _ _ (⟨some 397, _, _, _, _, _⟩ :: _) _ _)); first | go_values | go_skip | go_guarded | go_step | go_upon)
      refine wpList_val (by kernel_rfl) (.pointer (some ⟨g35, letN l k, none⟩)) wr (Eq.trans (exec_indexA 41 (.tmp 396) (.tmp 395) rfl ⟨g35, 0, none⟩ (by kernel_rfl) .u8 (letN l k) (by kernel_rfl) 26 hN26 40 Tryz.underlying41 1 (by kernel_rfl)) (by rw [add_mid, Nat.mul_one, Nat.zero_add])) ?_
      clear hby hsub8
      by_cases hk0 : 0 < k
      · skip
        have hkn1 : k - 1 < kn.length := by have := HKLN.out; omega
        obtain ⟨ak, rfl, rk⟩ := HK.out.some (k - 1) hkn1
        have ck := rk.atI64 (k - 1) hkn1
        clear rk
        have e3 : IntKind.i64.wrap ((k : Int) - 1) = ((k - 1 : Nat) : Int) := by rw [IntWalk.i64_in _ (by omega)]; omega
        have e4 : IntKind.i64.wrap (X - atW f l k - rdI f.wide (letN l k) - rdI kn (k - 1)) = X - atW f l k - rdI f.wide (letN l k) - rdI kn (k - 1) := IntWalk.i64_in _ (by have := HWD.out; rw [if_pos hk0] at this; have := HLW.out; omega)
        have hk0i : (0 : Int) < (k : Int) := by omega
        repeat (first | go_values | go_skip | go_guarded | go_step | go_upon)
        first
          | (go_roundw
             case rel => exact ⟨k + 1, by omega, by go_num, by congr 1; have := HWD.out; rw [if_pos hk0] at this; omega, HBO.out⟩
             case measure => simp [intOf]; omega)
          | (refine ⟨?_, ?measure⟩
             apply Exists.intro
             (repeat apply Exists.intro)
             refine ⟨?rel, rfl⟩
             case rel => exact ⟨k + 1, by omega, by go_num, by congr 1; have := HWD.out; rw [if_pos hk0] at this; omega, HBO.out⟩
             case measure => simp [intOf]; omega)
      · obtain rfl : k = 0 := by omega
        repeat (first | go_values | go_skip | go_guarded | go_step | go_upon)
        first
          | (go_roundw
             case rel => exact ⟨0 + 1, by omega, by go_num, by congr 1; have := HWD.out; rw [if_neg hk0] at this; omega, HBO.out⟩
             case measure => simp [intOf]; omega)
          | (refine ⟨?_, ?measure⟩
             apply Exists.intro
             (repeat apply Exists.intro)
             refine ⟨?rel, rfl⟩
             case rel => exact ⟨0 + 1, by omega, by go_num, by congr 1; have := HWD.out; rw [if_neg hk0] at this; omega, HBO.out⟩
             case measure => simp [intOf]; omega)
    · obtain rfl : k = l.length := by omega
      have e0 : X - atW f l l.length = 0 := by rw [HX.out]; unfold lineW; omega
      rw [e0]
      repeat ((with_reducible fail_if_success (show Code.wp _ (Code.seq (Code.region 65 _ _) _) _ _ _)); first | go_values | go_skip | go_guarded | go_step | go_upon)
      exact p6 w _ Aa na ca a Ab nb cb b HNA HNB hna hnb HSA HSB HYA HYB HMX hs Bh dh HOK kn Bk dk HG I M HNR HH HK HB _ _ _ _ _ _ _ _ _ _ _ _ _ _ _ _ _ _ _ _ _ _ _ _ _ _ _ _ _ _ _ _ _ _ _ _ _ _ _ _ _ _ _ _ _ _ _ _ _ _ _ _ _ _ _ _ _ _ _ _ _ _ _ _ _ _ _ _ _ _ _ _ _ _ _ _ _ _ _ _ _ _ _ _ _ _ _ _ _ _ _ _ _ _ _ _ _ _ _ _ _ _ _ _ _ _ _ _ _ _ _ _ _ _ _ _ _ _ _ _ _ _ _ _ _ _ _ _ _ _ _ _ _ _ _ _ _ _ _ _ _ _ _ _ _ _ _ _ _ _ _ _ _ _ _ _ _ _ _ _ _ _ _ _ _ _ _ _ _ _ _ _ _ _ _ _ _ _ _ _ _ _ _ _ _ _ _ _ _ _ _ _ _ _ _ _ _ _ _ _ _ _ _ _ _ _ _ _ _ _ _ _ _ _ _ _ _ _ _ _ _ _ _ _ _ _ _ _ _ _ _ _ _ _ _ _ _ _ _ _ _ _ _ _ _ _ _ _ _ _ _ _ _ _ _ _ _ _ _ _ _ _ _ _ _ _ _ _ _ _ _ _ _ _ _ _ _ _ _ _ _ _ _ _ _ _ _ _ _ _ _ _ _ _ _ _ _ _ _ _ _ _ _ _ _ _ _ _ _ _ _ _ _ _ _ _ _ _ _ _ _ _ _ _ _ _ _ _ _ _ _ _ _ _ _ _ _ _ _ _ _ _ _ _ _ _ _ _ _ _ _ _ _ _ _ _ _ _ _ _ _ _ _ _ _ _ _ _ _ _ _ _ _ _ _ _ _ _ _ _ _ _ _ _ _ _ _ _ _ _ _ _ _ _ _ _ _ _ _ _ _ _ _ _ _ _ _ _ _ _ _ _ _ _ _ _ _ _ _ _ _ _ _ _ _ _ _ _ _ _ _ _ _ _ _ _ _ _ _ _ _ _ _ _ _ _ _ _ _ _ _ _ _ _ _ _ _ _ _ _ _ _ _ _ _ _ _ _ _ _ _ _ _ _ _ _ _ _ _ _ _ _ _ _ _ _ _ _ _ _ _ _ _ _ _ _ _ _ _ _ _ _ _ _ _ _ _ _ _ _ _ _ _ _ _ _ _ _ _ _ _ _ _ _ _ _ _ _ _ _ _ _ _ _ _ _ _ _ _ _ _ _ _ _ _ _ _ _ _ _ _ _ _ _ _ _ _ _ _ _ _ _ _ _ _ _ _ _ _ _ _ _ _ _ _ _ _ _ _ _ _ _ _ _ _ _ _ _ _ _ _ _ _ _ _ _ _ _ _ _ _ _ _ _ _ _ _ _ _ _
end Go.Proofs.YtkbmfemncadlnaaGreatDoor.lawWorn
