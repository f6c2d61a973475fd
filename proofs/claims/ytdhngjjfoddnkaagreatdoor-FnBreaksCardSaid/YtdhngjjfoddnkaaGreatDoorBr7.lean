/- The law of breaks: a piece of its walk. -/
import Derived.Test.YtdhngjjfoddnkaaGreatDoorGU
import Derived.Deep.CutRange
import Derived.BigRegion
import Derived.Test.YtdhngjjfoddnkaaGreatDoorGV


namespace Go.Proofs.YtdhngjjfoddnkaaGreatDoor.lawBreaks
open Go Go.RowKit Go.Proofs.YtdhngjjfoddnkaaGreatDoor
set_option linter.unusedVariables false
set_option linter.unusedSimpArgs false

attribute [local irreducible] wpQuiet in
set_option maxHeartbeats 4000000 in
set_option maxRecDepth 100000 in
theorem sS (w wo : World) (f : Fc) (S : Value) (HV : Hid (validF f = true)) (l : List UInt8) (HT : Hid (vText l = true)) (HMX : Hid (MaxW w)) (HSP : Hid (SpT w)) (g5 : Nat) (ws : List (List UInt8)) (HWE : Hid (ws = words l)) (m : Int) (hm0 : 0 ≤ m ∧ m ≤ 4000) (gl : List Int) (c1 : Int) (bl : List Int) (low many short : Int) (HO : Hid (BrV f ws m gl c1 bl low many short)) (Aw : Option Addr) (cw : Nat) (A4 : Option Addr) (d4 : Nat) (s : Nat) (hs : s < 2 ^ 60) (hN : 0 < ws.length) (tot t2 : Int) (htot : 0 ≤ tot ∧ tot ≤ 1152921504606846976) (HT2 : Hid (t2 = tot + (if rightB f ws m (ownN ws.length s) then 1 else 0))) (HF : Hid (HasF wo f S)) (K5 : Hid (Blk wo g5 28 (fcV f S))) (HBL : Hid (SlE i64 wo A4 bl)) (HB : Hid (Below w.heap.size w wo)) (K : Act → World → Prop) (Q : Exit → Act → World → Prop)
    (u0 u1 u2 u3 u4 u8 u10 u11 u12 u13 u14 u17 u18 u19 u21 u22 u23 u25 u27 u30 u31 u32 u33 u34 u35 u36 u37 u38 u39 u40 u41 u42 u43 u44 u45 u46 u47 u48 u49 u50 u51 u52 u53 u54 u55 u56 u57 u58 u59 u60 u61 u62 u63 u64 u65 u66 u67 u68 u69 u70 u71 u72 u73 u74 u75 u76 u77 u78 u79 u80 u81 u82 u83 u84 u85 u86 u87 u88 u89 u90 u91 u92 u93 u94 u95 u96 u97 u98 u99 u100 u101 u102 u103 u104 u105 u106 u107 u108 u109 u110 u111 u112 u113 u114 u115 u116 u117 u118 u119 u120 u121 u122 u123 u124 u125 u126 u127 u128 u129 u130 u131 u132 u133 u134 u135 u136 u137 u138 u139 u140 u141 u142 u143 u144 u145 u146 u147 u148 u149 u150 u151 u152 u153 u154 u155 u156 u157 u158 u159 u160 u161 u162 u163 u164 u165 u166 u167 u168 u169 u170 u171 u172 u173 u174 u175 u176 u177 u178 u179 u180 u181 u182 u183 u184 u185 u186 u187 u188 u189 u190 u191 u192 u193 u194 u195 u196 u197 u198 u199 u200 u201 u202 u203 u204 u205 u206 u207 u208 u209 u210 u211 u212 u213 u214 u215 u216 u217 u218 u219 u220 u221 u222 u223 u224 u225 u226 u227 u228 u229 u230 u231 u232 u233 u234 u235 u236 u237 u238 u239 u240 u241 u242 u243 u244 u245 u246 u247 u248 u249 u250 u251 u252 u253 u254 u255 u256 u257 u258 u259 u260 u261 u262 u263 u264 u265 u266 u267 u268 u269 u270 u271 u272 u273 u274 u275 u276 u277 u278 u279 u280 u281 u282 u283 u284 u285 u286 u287 u288 u289 u290 u291 u292 u293 u294 u295 u296 u297 u298 u299 u300 u301 u302 u303 u304 u305 u306 u307 u308 u309 u310 u311 u312 u313 u314 u315 u316 u317 u318 u319 u320 u321 u322 u323 u324 u325 u326 u327 u328 u329 u330 u331 u332 u333 u334 u335 u336 u337 u338 u339 u340 u341 u342 u343 u344 u345 u346 u347 u348 u349 u350 u351 u352 u353 u354 u355 u356 u357 u358 u359 u360 u361 u362 u363 u364 u365 u366 u367 u368 u369 u370 u371 u372 u373 u374 u375 u376 u377 u378 u379 u380 u381 u382 u383 u384 u385 u386 u387 u388 u389 u390 u391 u392 u393 u394 u395 u396 u397 u398 u399 u400 u401 u402 u403 u404 u405 u406 u407 u408 u409 u410 u411 u412 u413 u414 u415 u416 u417 u418 u419 u420 u421 u422 u423 u424 u425 u426 u427 u428 u429 u430 u431 u432 u433 u434 u435 u436 u437 u438 u439 u440 u441 u442 u443 u444 u445 u446 u447 u448 u449 u450 u451 u452 u453 u454 u455 u456 u457 u458 u459 u460 u461 u462 u463 u464 u465 u466 u467 u468 u469 u470 u471 u472 u473 u474 u475 u476 u477 u478 u479 : Value) (hK : ∀ (wc : World), Below wo.heap.size wo wc → ∀ (v4 v30 v31 v32 v33 v34 v35 v36 v37 v38 v39 v40 v41 v42 v43 v44 v45 v218 v219 v220 v221 v222 v223 v224 v225 v226 v227 v228 v229 v230 v231 v232 v233 v234 v235 v236 v237 v238 v239 v240 v241 v242 v243 v244 v245 v246 v247 v248 v249 v250 v251 v252 v253 v254 v255 v256 v257 v258 v259 v260 v261 v262 v263 v264 v265 v266 v267 v268 v269 v270 v271 v272 v273 v274 v275 v276 v277 v278 v279 v280 v281 v282 v283 v284 v285 v286 v287 v288 v289 v290 v291 v292 v293 v294 v295 v296 v297 v298 v299 v300 v301 v302 v303 v304 v305 v306 v307 v308 v309 v310 v311 v312 v313 v314 v315 v316 v317 v318 v319 v320 v321 v322 v323 v324 v325 v326 v327 v328 v329 v330 v331 v332 v333 v334 v335 v336 v337 v338 v339 v340 v341 v342 v343 v344 v345 v346 v347 v348 v349 v350 v351 v352 v353 v354 v355 v356 v357 v358 v359 v360 v361 v362 v363 v364 v365 v366 v367 v368 v369 v370 v371 v372 v373 v374 v375 v376 v377 v378 v379 v380 v381 v382 v383 v384 v385 v386 v387 v388 v389 v390 v391 v392 v393 v394 v395 : Value), K ⟨#[u0, u1, u2, u3, v4, .pointer (some ⟨g5, 0, none⟩), .string ⟨l.toArray⟩, .int .i64 m, u8, .int .i64 c1, u10, u11, u12, u13, u14, .slice A4 bl.length d4, .int .i64 low, u17, u18, u19, .int .i64 many, u21, u22, u23, .int .i64 short, u25, .slice Aw ws.length cw, u27, .int .i64 t2, .int .i64 (s : Nat), v30, v31, v32, v33, v34, v35, v36, v37, v38, v39, v40, v41, v42, v43, v44, v45, u46, u47, u48, u49, u50, u51, u52, u53, u54, u55, u56, u57, u58, u59, u60, u61, u62, u63, u64, u65, u66, u67, u68, u69, u70, u71, u72, u73, u74, u75, u76, u77, u78, u79, u80, u81, u82, u83, u84, u85, u86, u87, u88, u89, u90, u91, u92, u93, u94, u95, u96, u97, u98, u99, u100, u101, u102, u103, u104, u105, u106, u107, u108, u109, u110, u111, u112, u113, u114, u115, u116, u117, u118, u119, u120, u121, u122, u123, u124, u125, u126, u127, u128, u129, u130, u131, u132, u133, u134, u135, u136, u137, u138, u139, u140, u141, u142, u143, u144, u145, u146, u147, u148, u149, u150, u151, u152, u153, u154, u155, u156, u157, u158, u159, u160, u161, u162, u163, u164, u165, u166, u167, u168, u169, u170, u171, u172, u173, u174, u175, u176, u177, u178, u179, u180, u181, u182, u183, u184, u185, u186, u187, u188, u189, u190, u191, u192, u193, u194, u195, u196, u197, u198, u199, u200, u201, u202, u203, u204, u205, u206, u207, u208, u209, u210, u211, u212, u213, u214, u215, u216, u217, v218, v219, v220, v221, v222, v223, v224, v225, v226, v227, v228, v229, v230, v231, v232, v233, v234, v235, v236, v237, v238, v239, v240, v241, v242, v243, v244, v245, v246, v247, v248, v249, v250, v251, v252, v253, v254, v255, v256, v257, v258, v259, v260, v261, v262, v263, v264, v265, v266, v267, v268, v269, v270, v271, v272, v273, v274, v275, v276, v277, v278, v279, v280, v281, v282, v283, v284, v285, v286, v287, v288, v289, v290, v291, v292, v293, v294, v295, v296, v297, v298, v299, v300, v301, v302, v303, v304, v305, v306, v307, v308, v309, v310, v311, v312, v313, v314, v315, v316, v317, v318, v319, v320, v321, v322, v323, v324, v325, v326, v327, v328, v329, v330, v331, v332, v333, v334, v335, v336, v337, v338, v339, v340, v341, v342, v343, v344, v345, v346, v347, v348, v349, v350, v351, v352, v353, v354, v355, v356, v357, v358, v359, v360, v361, v362, v363, v364, v365, v366, v367, v368, v369, v370, v371, v372, v373, v374, v375, v376, v377, v378, v379, v380, v381, v382, v383, v384, v385, v386, v387, v388, v389, v390, v391, v392, v393, v394, v395, u396, u397, u398, u399, u400, u401, u402, u403, u404, u405, u406, u407, u408, u409, u410, u411, u412, u413, u414, u415, u416, u417, u418, u419, u420, u421, u422, u423, u424, u425, u426, u427, u428, u429, u430, u431, u432, u433, u434, u435, u436, u437, u438, u439, u440, u441, u442, u443, u444, u445, u446, u447, u448, u449, u450, u451, u452, u453, u454, u455, u456, u457, u458, u459, u460, u461, u462, u463, u464, u465, u466, u467, u468, u469, u470, u471, u472, u473, u474, u475, u476, u477, u478, u479], []⟩ wc) :
    Code.wp Tryz.prog (partOf Tryz.f3 [true, true, true, true, true, true, true, true, true, true, true, true, true, true, true, false, true, false, true, false, true, true, true, true, false]) (Exit.then K Q)
      ⟨#[u0, u1, u2, u3, u4, .pointer (some ⟨g5, 0, none⟩), .string ⟨l.toArray⟩, .int .i64 m, u8, .int .i64 c1, u10, u11, u12, u13, u14, .slice A4 bl.length d4, .int .i64 low, u17, u18, u19, .int .i64 many, u21, u22, u23, .int .i64 short, u25, .slice Aw ws.length cw, u27, .int .i64 tot, .int .i64 (s : Nat), u30, u31, u32, u33, u34, u35, u36, u37, u38, u39, u40, u41, u42, u43, u44, u45, u46, u47, u48, u49, u50, u51, u52, u53, u54, u55, u56, u57, u58, u59, u60, u61, u62, u63, u64, u65, u66, u67, u68, u69, u70, u71, u72, u73, u74, u75, u76, u77, u78, u79, u80, u81, u82, u83, u84, u85, u86, u87, u88, u89, u90, u91, u92, u93, u94, u95, u96, u97, u98, u99, u100, u101, u102, u103, u104, u105, u106, u107, u108, u109, u110, u111, u112, u113, u114, u115, u116, u117, u118, u119, u120, u121, u122, u123, u124, u125, u126, u127, u128, u129, u130, u131, u132, u133, u134, u135, u136, u137, u138, u139, u140, u141, u142, u143, u144, u145, u146, u147, u148, u149, u150, u151, u152, u153, u154, u155, u156, u157, u158, u159, u160, u161, u162, u163, u164, u165, u166, u167, u168, u169, u170, u171, u172, u173, u174, u175, u176, u177, u178, u179, u180, u181, u182, u183, u184, u185, u186, u187, u188, u189, u190, u191, u192, u193, u194, u195, u196, u197, u198, u199, u200, u201, u202, u203, u204, u205, u206, u207, u208, u209, u210, u211, u212, u213, u214, u215, u216, u217, u218, u219, u220, u221, u222, u223, u224, u225, u226, u227, u228, u229, u230, u231, u232, u233, u234, u235, u236, u237, u238, u239, u240, u241, u242, u243, u244, u245, u246, u247, u248, u249, u250, u251, u252, u253, u254, u255, u256, u257, u258, u259, u260, u261, u262, u263, u264, u265, u266, u267, u268, u269, u270, u271, u272, u273, u274, u275, u276, u277, u278, u279, u280, u281, u282, u283, u284, u285, u286, u287, u288, u289, u290, u291, u292, u293, u294, u295, u296, u297, u298, u299, u300, u301, u302, u303, u304, u305, u306, u307, u308, u309, u310, u311, u312, u313, u314, u315, u316, u317, u318, u319, u320, u321, u322, u323, u324, u325, u326, u327, u328, u329, u330, u331, u332, u333, u334, u335, u336, u337, u338, u339, u340, u341, u342, u343, u344, u345, u346, u347, u348, u349, u350, u351, u352, u353, u354, u355, u356, u357, u358, u359, u360, u361, u362, u363, u364, u365, u366, u367, u368, u369, u370, u371, u372, u373, u374, u375, u376, u377, u378, u379, u380, u381, u382, u383, u384, u385, u386, u387, u388, u389, u390, u391, u392, u393, u394, u395, u396, u397, u398, u399, u400, u401, u402, u403, u404, u405, u406, u407, u408, u409, u410, u411, u412, u413, u414, u415, u416, u417, u418, u419, u420, u421, u422, u423, u424, u425, u426, u427, u428, u429, u430, u431, u432, u433, u434, u435, u436, u437, u438, u439, u440, u441, u442, u443, u444, u445, u446, u447, u448, u449, u450, u451, u452, u453, u454, u455, u456, u457, u458, u459, u460, u461, u462, u463, u464, u465, u466, u467, u468, u469, u470, u471, u472, u473, u474, u475, u476, u477, u478, u479], []⟩ wo := by
  conv => arg 2; whnf
  have HKK := Lib.hid hK
  clear hK
  have HMN := Lib.hid HO.out.wW.many
  have hmany := HO.out.wW.many
  have hlens := HO.out.lens hm0.2
  have hbl60 := hlens.2
  have hgl60 := hlens.1
  clear hlens
  have hlenF := fcV_length HF.out.1 S
  repeat ((with_reducible fail_if_success (show wpList _ _ _ (⟨some 218, _, _, _, _, _⟩ :: _) _ _)); first | go_values | go_skip | go_guarded | go_step | go_upon)
  refine wpList_val (by kernel_rfl) (.slice (some ⟨wo.heap.size, 0, none⟩) 0 0) (wo.alloc (.cells #[] 2)) (by kernel_rfl) ?_
  have hown := own_empty wo wo.heap.size rfl wo.heap.size 2 (Nat.le_refl _) 1
  have hb0 := below_one wo (.cells #[] 2)
  repeat ((with_reducible fail_if_success (show Code.wp _ (Code.loop _) _ _ _)); first | go_values | go_skip | go_guarded | go_step | go_upon)
  go_loopw [30, 31] (fun v z wx => ∃ j : Nat, j ≤ ws.length - 1 ∧ z = .int .i64 ((j : Int) + 1) ∧ wx.ownsRow wo.heap.size 2 1 v (ownO 1 s j).length ((ownO 1 s j).map i64) ∧ Below wo.heap.size wo wx) (fun _ z _ => ws.length - (intOf z).toNat)
  case atStart => exact ⟨0, by omega, rfl, hown, hb0⟩
  case round =>
    obtain ⟨j, hj, rfl, hown2, hbx⟩ := hrel
    have hol := ownO_length 1 s j
    clear hown hb0
    by_cases hlt : j < ws.length - 1
    · skip
      have hlj : ((j : Int) + 1) < (ws.length : Int) := by omega
      have e1 : IntKind.i64.wrap ((j : Int) + 1 - 1) = (j : Int) := by rw [IntWalk.i64_in _ (by omega)]; omega
      have e2 : IntKind.u64.wrap (j : Int) = (j : Int) := IntWalk.u64_in _ (by omega)
      have e3 : IntKind.i64.wrap ((j : Int) + 1 + 1) = (j : Int) + 1 + 1 := IntWalk.i64_in _ (by omega)
      obtain ⟨q, hq⟩ : ∃ q, q = s / 2 ^ j := ⟨_, rfl⟩
      have HQ := Lib.hid hq
      have hbe := bit_eq s j
      rw [← hq] at hbe
      clear hq
      obtain ⟨r, hr⟩ : ∃ r, r = q % 2 := ⟨_, rfl⟩
      rw [← hr] at hbe
      have HR2 := Lib.hid (show Int.tmod (q : Int) 2 = (r : Int) by rw [hr, Int.tmod_eq_emod_of_nonneg (by omega)]; omega)
      clear hr
      have HSZ := Lib.hid hbx.size
      have HBX := Lib.hid hbx
      have HOW := Lib.hid hown2
      have HBE := Lib.hid hbe
      clear hbx hown2 hbe
      repeat ((with_reducible fail_if_success (show wpList _ _ _ (⟨some 227, _, _, _, _, _⟩ :: _) _ _)); first | go_values | go_skip | go_guarded | go_step | go_upon)
      refine wpList_val (by kernel_rfl) (.int .i64 (j : Int)) _ (Eq.trans (show (execOp _ _).run _ wr = .ok (.value (.int .i64 (IntKind.i64.wrap ((j : Int) + 1 - 1)))) wr by kernel_rfl) (by rw [e1])) ?_
      repeat ((with_reducible fail_if_success (show wpList _ _ _ (⟨some 228, _, _, _, _, _⟩ :: _) _ _)); first | go_values | go_skip | go_guarded | go_step | go_upon)
      refine wpList_val (by kernel_rfl) (.int .u64 (j : Int)) _ (Eq.trans (show (execOp _ _).run _ wr = .ok (.value (.int .u64 (IntKind.u64.wrap (j : Int)))) wr by kernel_rfl) (by rw [e2])) ?_
      repeat ((with_reducible fail_if_success (show wpList _ _ _ (⟨some 229, _, _, _, _, _⟩ :: _) _ _)); first | go_values | go_skip | go_guarded | go_step | go_upon)
      refine wpList_val (by kernel_rfl) (.int .i64 (q : Int)) _ (exec_shr (.tmp 225) (.tmp 228) rfl s j q (by kernel_rfl) (by kernel_rfl) (by omega) HQ.out) ?_
      repeat ((with_reducible fail_if_success (show wpList _ _ _ (⟨some 230, _, _, _, _, _⟩ :: _) _ _)); first | go_values | go_skip | go_guarded | go_step | go_upon)
      refine wpList_val (by kernel_rfl) (.int .i64 (r : Int)) _ (exec_rem (.tmp 229) (.const (.int .i64 2)) rfl q 2 (by kernel_rfl) (by kernel_rfl) (by decide) HR2.out) ?_
      cases htb : s.testBit j
      · have hrb : ((r : Int) == 1) = false := by rw [HBE.out]; exact htb
        have HN := Lib.hid (show ownO 1 s (j + 1) = ownO 1 s j by rw [ownO, htb]; rfl)
        clear htb
        repeat (first | go_values | go_skip | go_guarded | go_step | go_upon)
        go_roundw
        case rel => exact ⟨j + 1, by omega, by go_num, by rw [HN.out]; exact HOW.out, HBX.out⟩
        case measure => simp [intOf]; omega
      · have hrb : ((r : Int) == 1) = true := by rw [HBE.out]; exact htb
        have HN := Lib.hid (show ownO 1 s (j + 1) = ownO 1 s j ++ [(j : Int) + 1] by rw [ownO, htb, if_pos rfl]; congr 2; push_cast; omega)
        clear htb
        repeat ((with_reducible fail_if_success (show wpList _ _ _ (⟨some 235, _, _, _, _, _⟩ :: _) _ _)); first | go_values | go_skip | go_guarded | go_step | go_upon)
        refine wpList_app1 rfl (.tmp 232) (.tmp 234) _ rfl elI _ wo.heap.size _ (ownO 1 s j).length _ rfl HOW.out (.int .i64 ((j : Int) + 1)) _ rfl rfl rfl (by unfold maxLen; omega) (by omega) HSZ.out ?_
        intro v' w' ho' hg'
        simp only [Act.put, List.setIfInBounds_toArray, List.set_cons_succ, List.set_cons_zero]
        have HB9 := Lib.hid (below_own HBX.out HOW.out hg' (Nat.le_refl _) HSZ.out)
        clear hg'
        repeat (first | go_values | go_skip | go_guarded | go_step | go_upon)
        go_roundw
        case rel =>
          refine ⟨j + 1, by omega, by go_num, ?_, HB9.out⟩
          rw [HN.out, List.length_append, List.map_append]
          exact ho'
        case measure => simp [intOf]; omega
    · obtain rfl : j = ws.length - 1 := by omega
      have hnl : ¬ (((ws.length - 1 : Nat) : Int) + 1) < (ws.length : Int) := by omega
      obtain ⟨Ao, dd, rfl, hlo, hoo⟩ := OwnS.of_own hown2
      obtain ⟨ow, how⟩ : ∃ ow, ow = ownN ws.length s := ⟨_, rfl⟩
      have hsl := hoo.sl
      rw [show ownO 1 s (ws.length - 1) = ow from how.symm] at hsl ⊢
      have holn : ow.length ≤ 60 := by rw [how]; have := ownN_len ws.length s; omega
      rw [← how] at HT2
      have HOW := Lib.hid how
      have HSO := Lib.hid hsl
      have HTO := Lib.hid (show told ws.length ow = true by rw [how]; exact upL_told (ownN_up hN))
      have HBX := Lib.hid hbx
      clear hsl how hlo hoo hown2 hol
      replace HF := Lib.hid (HF.out.next hbx)
      replace K5 := Lib.hid (K5.out.next hbx)
      replace HBL := Lib.hid (HBL.out.next hbx)
      replace HB := Lib.hid (below_step HB.out hbx)
      clear hbx
      obtain ⟨kn, hkn⟩ : ∃ kn, kn = rightB f ws m ow := ⟨_, rfl⟩
      obtain ⟨un, uc, hu⟩ : ∃ un uc, (un, uc) = unOut f l m ow := ⟨_, _, rfl⟩
      obtain ⟨rr, rc, hr⟩ : ∃ rr rc, (rr, rc) = rrOut f l m ow := ⟨_, _, rfl⟩
      have hwe := HWE.out
      have h0 := ask0 HV.out HT.out hm0
      have HUC := Lib.hid (show (kn = true ∧ uc = 0 ∧ rc = 0 ∧ rr = lefts f ws m ow (ow.length + 1) ∧ un = usq rr ow.length) ∨ (kn = false ∧ uc = 4 ∧ rc = 4) by
        cases hk : rightB f ws m ow
        · rw [hk] at hkn
          rw [hwe] at hk
          have e1 := rrOut_bad h0 hk
          rw [unOut_no (by rw [e1]; decide), e1] at hu
          rw [e1] at hr
          injection hu with hu1 hu2
          injection hr with hr1 hr2
          exact .inr ⟨hkn, hu2, hr2⟩
        · rw [hk] at hkn
          rw [hwe] at hk
          rw [unOut_ok h0 hk] at hu
          rw [rrOut_ok h0 hk] at hr
          injection hu with hu1 hu2
          injection hr with hr1 hr2
          rw [← hwe] at hr1 hu1
          exact .inl ⟨hkn, hu2, hr2, hr1, by rw [hu1, hr1]⟩)
      have HCI := Lib.hid (fun (w' : World) (h : HasF w' f S) (hx : MaxW w') (hp : SpT w') (hb : SlE i64 w' Ao ow) => (show Calls Tryz.prog 18 #[.agg (fcV f S).toArray, .string ⟨l.toArray⟩, .int .i64 m, .slice Ao ow.length dd] w' (fun e w1 => e = .returned (.tuple #[.bool kn, .int .i64 0]) ∧ Below w'.heap.size w' w1) by rw [hkn, hwe]; exact check_implL f S l m w' h HV.out HT.out hm0 hx hp Ao dd ow (by omega) hb))
      have HCS := Lib.hid (fun (w' : World) (h : HasF w' f S) (hb : SlE i64 w' Ao ow) => (show Calls Tryz.prog 19 #[.agg (fcV f S).toArray, .string ⟨l.toArray⟩, .int .i64 m, .slice Ao ow.length dd] w' (fun e w1 => e = .returned (.tuple #[.bool kn, .int .i64 0]) ∧ Below w'.heap.size w' w1) by rw [hkn, hwe]; exact check_specL f S l m w' h HV.out HT.out hm0 Ao dd ow (by omega) hb))
      have HUI := Lib.hid (fun (w' : World) (h : HasF w' f S) (hx : MaxW w') (hp : SpT w') (hb : SlE i64 w' Ao ow) => (show Calls Tryz.prog 20 #[.agg (fcV f S).toArray, .string ⟨l.toArray⟩, .int .i64 m, .slice Ao ow.length dd] w' (fun e w1 => e = .returned (.tuple #[.int .i64 un, .int .i64 uc]) ∧ Below w'.heap.size w' w1) by have := uneven_implL f S l m w' h HV.out HT.out hm0 hx hp Ao dd ow (by omega) hb; rw [← hu] at this; exact this))
      have HRI := Lib.hid (fun (w' : World) (h : HasF w' f S) (hx : MaxW w') (hp : SpT w') (hb : SlE i64 w' Ao ow) => (show Calls Tryz.prog 21 #[.agg (fcV f S).toArray, .string ⟨l.toArray⟩, .int .i64 m, .slice Ao ow.length dd] w' (WtOut w' rr rc) by have := right_implL f S l m w' h HV.out HT.out hm0 hx hp Ao dd ow (by omega) hb; rw [← hr] at this; exact this))
      have HLI := Lib.hid (fun (w' : World) (hx : MaxW w') (hp : SpT w') (hb : SlE i64 w' Ao ow) => (show Calls Tryz.prog 22 #[.string ⟨l.toArray⟩, .slice Ao ow.length dd] w' (fun e w1 => ∃ A c, (e = .returned (.tuple #[.slice A (ow.length + 1) c, .int .i64 0]) ∧ SlE sv w1 A (jnsL ws ow (ow.length + 1))) ∧ Below w'.heap.size w' w1) by rw [hwe]; exact linesOf_impl l Ao dd _ ow w' HT.out rfl (by omega) (by rw [← hwe]; exact HTO.out) hb hx hp))
      rw [← hkn] at HT2
      have HKN := Lib.hid hkn
      clear hkn hu hr hwe h0 hnl
      repeat ((with_reducible fail_if_success (show wpList _ _ _ (⟨some 237, _, _, _, _, _⟩ :: _) _ _)); first | go_values | go_skip | go_guarded | go_step | go_upon)
      refine wpList_val (by kernel_rfl) (.agg (fcV f S).toArray) _ (exec_load_row 28 (.tmp 5) rfl g5 (by kernel_rfl) 28 (fcV f S).toArray _ _ K5.out Tryz.underlying28 rfl (by rw [List.size_toArray, hlenF]; exact szFcI)) ?_
      repeat (first | go_values | go_skip | go_guarded | go_step | go_upon)
      go_at_call 18
      refine (HCI.out wr HF.out (HMX.out.next HB.out) (HSP.out.next HB.out) HSO.out).mono ?_
      rintro e w1 ⟨rfl, hb⟩
      dsimp only
      replace HF := Lib.hid (HF.out.next hb)
      replace K5 := Lib.hid (K5.out.next hb)
      replace HBL := Lib.hid (HBL.out.next hb)
      replace HSO := Lib.hid (HSO.out.next hb)
      replace HB := Lib.hid (below_step HB.out hb)
      replace HBX := Lib.hid (below_step HBX.out hb)
      clear hb
      repeat ((with_reducible fail_if_success (show wpList _ _ _ (⟨some 245, _, _, _, _, _⟩ :: _) _ _)); first | go_values | go_skip | go_guarded | go_step | go_upon)
      refine wpList_val (by kernel_rfl) (.agg (fcV f S).toArray) _ (exec_load_row 28 (.tmp 5) rfl g5 (by kernel_rfl) 28 (fcV f S).toArray _ _ K5.out Tryz.underlying28 rfl (by rw [List.size_toArray, hlenF]; exact szFcI)) ?_
      repeat (first | go_values | go_skip | go_guarded | go_step | go_upon)
      go_at_call 19
      refine (HCS.out w1 HF.out HSO.out).mono ?_
      rintro e w2 ⟨rfl, hb⟩
      dsimp only
      replace HF := Lib.hid (HF.out.next hb)
      replace K5 := Lib.hid (K5.out.next hb)
      replace HBL := Lib.hid (HBL.out.next hb)
      replace HSO := Lib.hid (HSO.out.next hb)
      replace HB := Lib.hid (below_step HB.out hb)
      replace HBX := Lib.hid (below_step HBX.out hb)
      clear hb
      have b1 : (kn != kn) = false := by simp
      repeat ((with_reducible fail_if_success (show wpList _ _ _ (⟨some 265, _, _, _, _, _⟩ :: _) _ _)); first | go_values | go_skip | go_guarded | go_step | go_upon)
      refine wpList_val (by kernel_rfl) (.agg (fcV f S).toArray) _ (exec_load_row 28 (.tmp 5) rfl g5 (by kernel_rfl) 28 (fcV f S).toArray _ _ K5.out Tryz.underlying28 rfl (by rw [List.size_toArray, hlenF]; exact szFcI)) ?_
      repeat (first | go_values | go_skip | go_guarded | go_step | go_upon)
      go_at_call 20
      refine (HUI.out w2 HF.out (HMX.out.next HB.out) (HSP.out.next HB.out) HSO.out).mono ?_
      rintro e w3 ⟨rfl, hb⟩
      dsimp only
      replace HF := Lib.hid (HF.out.next hb)
      replace K5 := Lib.hid (K5.out.next hb)
      replace HBL := Lib.hid (HBL.out.next hb)
      replace HSO := Lib.hid (HSO.out.next hb)
      replace HB := Lib.hid (below_step HB.out hb)
      replace HBX := Lib.hid (below_step HBX.out hb)
      clear hb
      repeat ((with_reducible fail_if_success (show wpList _ _ _ (⟨some 273, _, _, _, _, _⟩ :: _) _ _)); first | go_values | go_skip | go_guarded | go_step | go_upon)
      refine wpList_val (by kernel_rfl) (.agg (fcV f S).toArray) _ (exec_load_row 28 (.tmp 5) rfl g5 (by kernel_rfl) 28 (fcV f S).toArray _ _ K5.out Tryz.underlying28 rfl (by rw [List.size_toArray, hlenF]; exact szFcI)) ?_
      repeat (first | go_values | go_skip | go_guarded | go_step | go_upon)
      go_at_call 21
      refine (HRI.out w3 HF.out (HMX.out.next HB.out) (HSP.out.next HB.out) HSO.out).mono ?_
      rintro e w4 ⟨Ar, dr, ⟨rfl, hs1⟩, hb⟩
      have HR := Lib.hid hs1
      clear hs1
      dsimp only
      replace HF := Lib.hid (HF.out.next hb)
      replace K5 := Lib.hid (K5.out.next hb)
      replace HBL := Lib.hid (HBL.out.next hb)
      replace HSO := Lib.hid (HSO.out.next hb)
      replace HB := Lib.hid (below_step HB.out hb)
      replace HBX := Lib.hid (below_step HBX.out hb)
      clear hb
      repeat (first | go_values | go_skip | go_guarded | go_step | go_upon)
      go_at_call 22
      refine (HLI.out w4 (HMX.out.next HB.out) (HSP.out.next HB.out) HSO.out).mono ?_
      rintro e w5 ⟨Al, dl, ⟨rfl, hs2⟩, hb⟩
      have HL := Lib.hid hs2
      clear hs2
      dsimp only
      replace HF := Lib.hid (HF.out.next hb)
      replace K5 := Lib.hid (K5.out.next hb)
      replace HBL := Lib.hid (HBL.out.next hb)
      replace HSO := Lib.hid (HSO.out.next hb)
      replace HR := Lib.hid (HR.out.next hb)
      replace HB := Lib.hid (below_step HB.out hb)
      replace HBX := Lib.hid (below_step HBX.out hb)
      clear hb
      clear HCI HCS HUI HRI HLI b1 hlenF
      have e1 : IntKind.i64.wrap ((ow.length : Int) + 1) = (ow.length : Int) + 1 := IntWalk.i64_in _ (by omega)
      have b7 : (((ow.length + 1 : Nat) : Int) != ((ow.length : Int) + 1)) = false := by simp
      rcases HUC.out with ⟨hk, huc, hrc, hrr, hun⟩ | ⟨hk, huc, hrc⟩
      · subst hk
        subst huc
        subst hrc
        have hri := HO.out.right hm0.2 hN HOW.out HKN.out.symm
        rw [← hrr, ← hun] at hri
        obtain ⟨r1, r2, r3, r4⟩ := hri
        subst r1
        have HRR := Lib.hid hrr
        have HUN := Lib.hid hun
        have hrl : rr.length = ow.length + 1 := by rw [hrr]; exact lefts_length _ _ _ _ _
        have hsh : 0 ≤ short ∧ short ≤ 61 := by
          have := hgl60
          rcases HO.out.cs with ⟨_, _, _, _, _, e⟩ | ⟨_, e, _⟩
          · omega
          · omega
        have e2 : IntKind.i64.wrap (tot + 1) = t2 := by rw [HT2.out]; simp only [if_true]; exact IntWalk.i64_in _ (by omega)
        have e3 : IntKind.i64.wrap (short - 1) = short - 1 := IntWalk.i64_in _ (by omega)
        have q1 : ¬ un < low := by omega
        have q2 : ¬ (ow.length : Int) < short - 1 := by omega
        have b8 : (((rr.length : Nat) : Int) != ((ow.length + 1 : Nat) : Int)) = false := by rw [hrl]; simp
        have b8b : (((rr.length : Nat) : Int) != ((ow.length : Int) + 1)) = false := by rw [hrl]; simp
        have R4 := Lib.hid r4
        clear hrr hun hrl hsh r2 r3 r4
        repeat ((with_reducible fail_if_success (show Code.wp _ (Code.seq (Code.region 42 _ _) _) _ _ _)); first | go_values | go_skip | go_guarded | go_step | go_upon)
        skip
        refine sM w _ f S HV l HT HMX HSP g5 ws HWE m hm0 gl 0 bl low many short HO Aw cw s ow HOW hN holn (Lib.hid HKN.out.symm) rr HRR Ar dr Al dl un HUN HF K5 HR HL HB _ _ _ _ _ _ _ _ _ _ _ _ _ _ _ _ _ _ _ _ _ _ _ _ _ _ _ _ _ _ _ _ _ _ _ _ _ _ _ _ _ _ _ _ _ _ _ _ _ _ _ _ _ _ _ _ _ _ _ _ _ _ _ _ _ _ _ _ _ _ _ _ _ _ _ _ _ _ _ _ _ _ _ _ _ _ _ _ _ _ _ _ _ _ _ _ _ _ _ _ _ _ _ _ _ _ _ _ _ _ _ _ _ _ _ _ _ _ _ _ _ _ _ _ _ _ _ _ _ _ _ _ _ _ _ _ _ _ _ _ _ _ _ _ _ _ _ _ _ _ _ _ _ _ _ _ _ _ _ _ _ _ _ _ _ _ _ _ _ _ _ _ _ _ _ _ _ _ _ _ _ _ _ _ _ _ _ _ _ _ _ _ _ _ _ _ _ _ _ _ _ _ _ _ _ _ _ _ _ _ _ _ _ _ _ _ _ _ _ _ _ _ _ _ _ _ _ _ _ _ _ _ _ _ _ _ _ _ _ _ _ _ _ _ _ _ _ _ _ _ _ _ _ _ _ _ _ _ _ _ _ _ _ _ _ _ _ _ _ _ _ _ _ _ _ _ _ _ _ _ _ _ _ _ _ _ _ _ _ _ _ _ _ _ _ _ _ _ _ _ _ _ _ _ _ _ _ _ _ _ _ _ _ _ _ _ _ _ _ _ _ _ _ _ _ _ _ _ _ _ _ _ _ _ _ _ _ _ _ _ _ _ _ _ _ _ _ _ _ _ _ _ _ _ _ _ _ _ _ _ _ _ _ _ _ _ _ _ _ _ _ _ _ _ _ _ _ _ _ _ _ _ _ _ _ _ _ _ _ _ _ _ _ _ _ _ _ _ _ _ _ _ _ _ _ _ _ _ _ _ _ _ _ _ _ _ _ _ _ _ _ _ _ _ _ _ _ _ _ _ _ _ _ _ _ _ _ _ _ _ _ _ _ _ _ _ _ _ _ _ _ _ _ _ _ _ _ _ _ _ _ _ _ _ _ _ _ _ _ _ _ _ _ _ _ _ _ ?_
        intro w6c hcut
        intros
        have hb := hcut
        clear hcut
        replace HF := Lib.hid (HF.out.next hb)
        replace K5 := Lib.hid (K5.out.next hb)
        replace HBL := Lib.hid (HBL.out.next hb)
        replace HSO := Lib.hid (HSO.out.next hb)
        replace HR := Lib.hid (HR.out.next hb)
        replace HL := Lib.hid (HL.out.next hb)
        replace HB := Lib.hid (below_step HB.out hb)
        replace HBX := Lib.hid (below_step HBX.out hb)
        clear hb
        have b2 : (un != un) = false := by simp
        obtain ⟨sb, hsb⟩ : ∃ sb, sb = decide (ow = bl) := ⟨_, rfl⟩
        have HSB2 := Lib.hid hsb
        clear e1 e2 e3 b7 b8 b8b q1 q2
        repeat (first | go_values | go_skip | go_guarded | go_step | go_upon)
        go_at_call 17
        refine (same_any Ao A4 dd d4 ow bl _ _ w6c rfl rfl (by omega) (by omega) HSO.out HBL.out).mono ?_
        rintro e w7 ⟨rfl, hb⟩
        rw [← HSB2.out]
        dsimp only
        replace HF := Lib.hid (HF.out.next hb)
        replace K5 := Lib.hid (K5.out.next hb)
        replace HBL := Lib.hid (HBL.out.next hb)
        replace HSO := Lib.hid (HSO.out.next hb)
        replace HR := Lib.hid (HR.out.next hb)
        replace HL := Lib.hid (HL.out.next hb)
        replace HB := Lib.hid (below_step HB.out hb)
        replace HBX := Lib.hid (below_step HBX.out hb)
        clear hb
        clear hsb
        cases sb
        · skip
          repeat (first | go_values | go_skip | go_guarded | go_step | go_upon)
          exact HKK.out _ (HBX.out) _ _ _ _ _ _ _ _ _ _ _ _ _ _ _ _ _ _ _ _ _ _ _ _ _ _ _ _ _ _ _ _ _ _ _ _ _ _ _ _ _ _ _ _ _ _ _ _ _ _ _ _ _ _ _ _ _ _ _ _ _ _ _ _ _ _ _ _ _ _ _ _ _ _ _ _ _ _ _ _ _ _ _ _ _ _ _ _ _ _ _ _ _ _ _ _ _ _ _ _ _ _ _ _ _ _ _ _ _ _ _ _ _ _ _ _ _ _ _ _ _ _ _ _ _ _ _ _ _ _ _ _ _ _ _ _ _ _ _ _ _ _ _ _ _ _ _ _ _ _ _ _ _ _ _ _ _ _ _ _ _ _ _ _ _ _ _ _ _ _ _ _ _ _ _ _ _ _ _ _ _ _ _ _ _ _ _ _ _ _ _ _ _ _ _
        · have b3 : (un != low) = false := by rw [R4.out (of_decide_eq_true HSB2.out.symm)]; simp
          repeat (first | go_values | go_skip | go_guarded | go_step | go_upon)
          exact HKK.out _ (HBX.out) _ _ _ _ _ _ _ _ _ _ _ _ _ _ _ _ _ _ _ _ _ _ _ _ _ _ _ _ _ _ _ _ _ _ _ _ _ _ _ _ _ _ _ _ _ _ _ _ _ _ _ _ _ _ _ _ _ _ _ _ _ _ _ _ _ _ _ _ _ _ _ _ _ _ _ _ _ _ _ _ _ _ _ _ _ _ _ _ _ _ _ _ _ _ _ _ _ _ _ _ _ _ _ _ _ _ _ _ _ _ _ _ _ _ _ _ _ _ _ _ _ _ _ _ _ _ _ _ _ _ _ _ _ _ _ _ _ _ _ _ _ _ _ _ _ _ _ _ _ _ _ _ _ _ _ _ _ _ _ _ _ _ _ _ _ _ _ _ _ _ _ _ _ _ _ _ _ _ _ _ _ _ _ _ _ _ _ _ _ _ _ _ _ _ _
      · subst hk
        subst huc
        subst hrc
        have ht : tot = t2 := by rw [HT2.out]; simp
        repeat (first | go_values | go_skip | go_guarded | go_step | go_upon)
        rw [ht]
        exact HKK.out _ (HBX.out) _ _ _ _ _ _ _ _ _ _ _ _ _ _ _ _ _ _ _ _ _ _ _ _ _ _ _ _ _ _ _ _ _ _ _ _ _ _ _ _ _ _ _ _ _ _ _ _ _ _ _ _ _ _ _ _ _ _ _ _ _ _ _ _ _ _ _ _ _ _ _ _ _ _ _ _ _ _ _ _ _ _ _ _ _ _ _ _ _ _ _ _ _ _ _ _ _ _ _ _ _ _ _ _ _ _ _ _ _ _ _ _ _ _ _ _ _ _ _ _ _ _ _ _ _ _ _ _ _ _ _ _ _ _ _ _ _ _ _ _ _ _ _ _ _ _ _ _ _ _ _ _ _ _ _ _ _ _ _ _ _ _ _ _ _ _ _ _ _ _ _ _ _ _ _ _ _ _ _ _ _ _ _ _ _ _ _ _ _ _ _ _ _ _ _
end Go.Proofs.YtdhngjjfoddnkaaGreatDoor.lawBreaks
