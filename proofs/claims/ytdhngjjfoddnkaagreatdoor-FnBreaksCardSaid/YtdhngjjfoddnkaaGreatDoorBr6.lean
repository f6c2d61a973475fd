/- The law of breaks: a piece of its walk. -/
import Derived.Test.YtdhngjjfoddnkaaGreatDoorGU
import Derived.Deep.CutRange
import Derived.BigRegion
import Derived.Test.YtdhngjjfoddnkaaGreatDoorBr7


namespace Go.Proofs.YtdhngjjfoddnkaaGreatDoor.lawBreaks
open Go Go.RowKit Go.Proofs.YtdhngjjfoddnkaaGreatDoor
set_option linter.unusedVariables false
set_option linter.unusedSimpArgs false

attribute [local irreducible] wpQuiet in
set_option maxHeartbeats 4000000 in
set_option maxRecDepth 100000 in
theorem sN (w wo : World) (f : Fc) (S : Value) (HV : Hid (validF f = true)) (l : List UInt8) (HT : Hid (vText l = true)) (HMX : Hid (MaxW w)) (HSP : Hid (SpT w)) (g5 : Nat) (ws : List (List UInt8)) (HWE : Hid (ws = words l)) (m : Int) (hm0 : 0 ≤ m ∧ m ≤ 4000) (gl : List Int) (c1 : Int) (bl : List Int) (low many short : Int) (HO : Hid (BrV f ws m gl c1 bl low many short)) (Aw : Option Addr) (cw : Nat) (A4 : Option Addr) (d4 : Nat) (HF : Hid (HasF wo f S)) (K5 : Hid (Blk wo g5 28 (fcV f S))) (HBL : Hid (SlE i64 wo A4 bl)) (HB : Hid (Below w.heap.size w wo)) (K : Act → World → Prop) (Q : Exit → Act → World → Prop)
    (u0 u1 u2 u3 u4 u8 u10 u11 u12 u13 u14 u17 u18 u19 u21 u22 u23 u25 u27 u28 u29 u30 u31 u32 u33 u34 u35 u36 u37 u38 u39 u40 u41 u42 u43 u44 u45 u46 u47 u48 u49 u50 u51 u52 u53 u54 u55 u56 u57 u58 u59 u60 u61 u62 u63 u64 u65 u66 u67 u68 u69 u70 u71 u72 u73 u74 u75 u76 u77 u78 u79 u80 u81 u82 u83 u84 u85 u86 u87 u88 u89 u90 u91 u92 u93 u94 u95 u96 u97 u98 u99 u100 u101 u102 u103 u104 u105 u106 u107 u108 u109 u110 u111 u112 u113 u114 u115 u116 u117 u118 u119 u120 u121 u122 u123 u124 u125 u126 u127 u128 u129 u130 u131 u132 u133 u134 u135 u136 u137 u138 u139 u140 u141 u142 u143 u144 u145 u146 u147 u148 u149 u150 u151 u152 u153 u154 u155 u156 u157 u158 u159 u160 u161 u162 u163 u164 u165 u166 u167 u168 u169 u170 u171 u172 u173 u174 u175 u176 u177 u178 u179 u180 u181 u182 u183 u184 u185 u186 u187 u188 u189 u190 u191 u192 u193 u194 u195 u196 u197 u198 u199 u200 u201 u202 u203 u204 u205 u206 u207 u208 u209 u210 u211 u212 u213 u214 u215 u216 u217 u218 u219 u220 u221 u222 u223 u224 u225 u226 u227 u228 u229 u230 u231 u232 u233 u234 u235 u236 u237 u238 u239 u240 u241 u242 u243 u244 u245 u246 u247 u248 u249 u250 u251 u252 u253 u254 u255 u256 u257 u258 u259 u260 u261 u262 u263 u264 u265 u266 u267 u268 u269 u270 u271 u272 u273 u274 u275 u276 u277 u278 u279 u280 u281 u282 u283 u284 u285 u286 u287 u288 u289 u290 u291 u292 u293 u294 u295 u296 u297 u298 u299 u300 u301 u302 u303 u304 u305 u306 u307 u308 u309 u310 u311 u312 u313 u314 u315 u316 u317 u318 u319 u320 u321 u322 u323 u324 u325 u326 u327 u328 u329 u330 u331 u332 u333 u334 u335 u336 u337 u338 u339 u340 u341 u342 u343 u344 u345 u346 u347 u348 u349 u350 u351 u352 u353 u354 u355 u356 u357 u358 u359 u360 u361 u362 u363 u364 u365 u366 u367 u368 u369 u370 u371 u372 u373 u374 u375 u376 u377 u378 u379 u380 u381 u382 u383 u384 u385 u386 u387 u388 u389 u390 u391 u392 u393 u394 u395 u396 u397 u398 u399 u400 u401 u402 u403 u404 u405 u406 u407 u408 u409 u410 u411 u412 u413 u414 u415 u416 u417 u418 u419 u420 u421 u422 u423 u424 u425 u426 u427 u428 u429 u430 u431 u432 u433 u434 u435 u436 u437 u438 u439 u440 u441 u442 u443 u444 u445 u446 u447 u448 u449 u450 u451 u452 u453 u454 u455 u456 u457 u458 u459 u460 u461 u462 u463 u464 u465 u466 u467 u468 u469 u470 u471 u472 u473 u474 u475 u476 u477 u478 u479 : Value) (hK : ∀ (wc : World), Below wo.heap.size wo wc → ∀ (v4 v28 v29 v30 v31 v32 v33 v34 v35 v36 v37 v38 v39 v40 v41 v42 v43 v44 v45 v206 v207 v208 v209 v210 v211 v212 v213 v214 v215 v216 v217 v218 v219 v220 v221 v222 v223 v224 v225 v226 v227 v228 v229 v230 v231 v232 v233 v234 v235 v236 v237 v238 v239 v240 v241 v242 v243 v244 v245 v246 v247 v248 v249 v250 v251 v252 v253 v254 v255 v256 v257 v258 v259 v260 v261 v262 v263 v264 v265 v266 v267 v268 v269 v270 v271 v272 v273 v274 v275 v276 v277 v278 v279 v280 v281 v282 v283 v284 v285 v286 v287 v288 v289 v290 v291 v292 v293 v294 v295 v296 v297 v298 v299 v300 v301 v302 v303 v304 v305 v306 v307 v308 v309 v310 v311 v312 v313 v314 v315 v316 v317 v318 v319 v320 v321 v322 v323 v324 v325 v326 v327 v328 v329 v330 v331 v332 v333 v334 v335 v336 v337 v338 v339 v340 v341 v342 v343 v344 v345 v346 v347 v348 v349 v350 v351 v352 v353 v354 v355 v356 v357 v358 v359 v360 v361 v362 v363 v364 v365 v366 v367 v368 v369 v370 v371 v372 v373 v374 v375 v376 v377 v378 v379 v380 v381 v382 v383 v384 v385 v386 v387 v388 v389 v390 v391 v392 v393 v394 v395 v396 v397 v398 : Value), K ⟨#[u0, u1, u2, u3, v4, .pointer (some ⟨g5, 0, none⟩), .string ⟨l.toArray⟩, .int .i64 m, u8, .int .i64 c1, u10, u11, u12, u13, u14, .slice A4 bl.length d4, .int .i64 low, u17, u18, u19, .int .i64 many, u21, u22, u23, .int .i64 short, u25, .slice Aw ws.length cw, u27, v28, v29, v30, v31, v32, v33, v34, v35, v36, v37, v38, v39, v40, v41, v42, v43, v44, v45, u46, u47, u48, u49, u50, u51, u52, u53, u54, u55, u56, u57, u58, u59, u60, u61, u62, u63, u64, u65, u66, u67, u68, u69, u70, u71, u72, u73, u74, u75, u76, u77, u78, u79, u80, u81, u82, u83, u84, u85, u86, u87, u88, u89, u90, u91, u92, u93, u94, u95, u96, u97, u98, u99, u100, u101, u102, u103, u104, u105, u106, u107, u108, u109, u110, u111, u112, u113, u114, u115, u116, u117, u118, u119, u120, u121, u122, u123, u124, u125, u126, u127, u128, u129, u130, u131, u132, u133, u134, u135, u136, u137, u138, u139, u140, u141, u142, u143, u144, u145, u146, u147, u148, u149, u150, u151, u152, u153, u154, u155, u156, u157, u158, u159, u160, u161, u162, u163, u164, u165, u166, u167, u168, u169, u170, u171, u172, u173, u174, u175, u176, u177, u178, u179, u180, u181, u182, u183, u184, u185, u186, u187, u188, u189, u190, u191, u192, u193, u194, u195, u196, u197, u198, u199, u200, u201, u202, u203, u204, u205, v206, v207, v208, v209, v210, v211, v212, v213, v214, v215, v216, v217, v218, v219, v220, v221, v222, v223, v224, v225, v226, v227, v228, v229, v230, v231, v232, v233, v234, v235, v236, v237, v238, v239, v240, v241, v242, v243, v244, v245, v246, v247, v248, v249, v250, v251, v252, v253, v254, v255, v256, v257, v258, v259, v260, v261, v262, v263, v264, v265, v266, v267, v268, v269, v270, v271, v272, v273, v274, v275, v276, v277, v278, v279, v280, v281, v282, v283, v284, v285, v286, v287, v288, v289, v290, v291, v292, v293, v294, v295, v296, v297, v298, v299, v300, v301, v302, v303, v304, v305, v306, v307, v308, v309, v310, v311, v312, v313, v314, v315, v316, v317, v318, v319, v320, v321, v322, v323, v324, v325, v326, v327, v328, v329, v330, v331, v332, v333, v334, v335, v336, v337, v338, v339, v340, v341, v342, v343, v344, v345, v346, v347, v348, v349, v350, v351, v352, v353, v354, v355, v356, v357, v358, v359, v360, v361, v362, v363, v364, v365, v366, v367, v368, v369, v370, v371, v372, v373, v374, v375, v376, v377, v378, v379, v380, v381, v382, v383, v384, v385, v386, v387, v388, v389, v390, v391, v392, v393, v394, v395, v396, v397, v398, u399, u400, u401, u402, u403, u404, u405, u406, u407, u408, u409, u410, u411, u412, u413, u414, u415, u416, u417, u418, u419, u420, u421, u422, u423, u424, u425, u426, u427, u428, u429, u430, u431, u432, u433, u434, u435, u436, u437, u438, u439, u440, u441, u442, u443, u444, u445, u446, u447, u448, u449, u450, u451, u452, u453, u454, u455, u456, u457, u458, u459, u460, u461, u462, u463, u464, u465, u466, u467, u468, u469, u470, u471, u472, u473, u474, u475, u476, u477, u478, u479], []⟩ wc) :
    Code.wp Tryz.prog (partOf Tryz.f3 [true, true, true, true, true, true, true, true, true, true, true, true, true, true, true, false]) (Exit.then K Q)
      ⟨#[u0, u1, u2, u3, u4, .pointer (some ⟨g5, 0, none⟩), .string ⟨l.toArray⟩, .int .i64 m, u8, .int .i64 c1, u10, u11, u12, u13, u14, .slice A4 bl.length d4, .int .i64 low, u17, u18, u19, .int .i64 many, u21, u22, u23, .int .i64 short, u25, .slice Aw ws.length cw, u27, u28, u29, u30, u31, u32, u33, u34, u35, u36, u37, u38, u39, u40, u41, u42, u43, u44, u45, u46, u47, u48, u49, u50, u51, u52, u53, u54, u55, u56, u57, u58, u59, u60, u61, u62, u63, u64, u65, u66, u67, u68, u69, u70, u71, u72, u73, u74, u75, u76, u77, u78, u79, u80, u81, u82, u83, u84, u85, u86, u87, u88, u89, u90, u91, u92, u93, u94, u95, u96, u97, u98, u99, u100, u101, u102, u103, u104, u105, u106, u107, u108, u109, u110, u111, u112, u113, u114, u115, u116, u117, u118, u119, u120, u121, u122, u123, u124, u125, u126, u127, u128, u129, u130, u131, u132, u133, u134, u135, u136, u137, u138, u139, u140, u141, u142, u143, u144, u145, u146, u147, u148, u149, u150, u151, u152, u153, u154, u155, u156, u157, u158, u159, u160, u161, u162, u163, u164, u165, u166, u167, u168, u169, u170, u171, u172, u173, u174, u175, u176, u177, u178, u179, u180, u181, u182, u183, u184, u185, u186, u187, u188, u189, u190, u191, u192, u193, u194, u195, u196, u197, u198, u199, u200, u201, u202, u203, u204, u205, u206, u207, u208, u209, u210, u211, u212, u213, u214, u215, u216, u217, u218, u219, u220, u221, u222, u223, u224, u225, u226, u227, u228, u229, u230, u231, u232, u233, u234, u235, u236, u237, u238, u239, u240, u241, u242, u243, u244, u245, u246, u247, u248, u249, u250, u251, u252, u253, u254, u255, u256, u257, u258, u259, u260, u261, u262, u263, u264, u265, u266, u267, u268, u269, u270, u271, u272, u273, u274, u275, u276, u277, u278, u279, u280, u281, u282, u283, u284, u285, u286, u287, u288, u289, u290, u291, u292, u293, u294, u295, u296, u297, u298, u299, u300, u301, u302, u303, u304, u305, u306, u307, u308, u309, u310, u311, u312, u313, u314, u315, u316, u317, u318, u319, u320, u321, u322, u323, u324, u325, u326, u327, u328, u329, u330, u331, u332, u333, u334, u335, u336, u337, u338, u339, u340, u341, u342, u343, u344, u345, u346, u347, u348, u349, u350, u351, u352, u353, u354, u355, u356, u357, u358, u359, u360, u361, u362, u363, u364, u365, u366, u367, u368, u369, u370, u371, u372, u373, u374, u375, u376, u377, u378, u379, u380, u381, u382, u383, u384, u385, u386, u387, u388, u389, u390, u391, u392, u393, u394, u395, u396, u397, u398, u399, u400, u401, u402, u403, u404, u405, u406, u407, u408, u409, u410, u411, u412, u413, u414, u415, u416, u417, u418, u419, u420, u421, u422, u423, u424, u425, u426, u427, u428, u429, u430, u431, u432, u433, u434, u435, u436, u437, u438, u439, u440, u441, u442, u443, u444, u445, u446, u447, u448, u449, u450, u451, u452, u453, u454, u455, u456, u457, u458, u459, u460, u461, u462, u463, u464, u465, u466, u467, u468, u469, u470, u471, u472, u473, u474, u475, u476, u477, u478, u479], []⟩ wo := by
  conv => arg 2; whnf
  have HKK := Lib.hid hK
  clear hK
  have hmany := HO.out.wW.many
  have HBX := Lib.hid (Below.refl wo.heap.size wo)
  by_cases hN : 0 < ws.length
  · have hNi : (0 : Int) < (ws.length : Int) := by omega
    obtain ⟨P, hP⟩ : ∃ P, P = 2 ^ (ws.length - 1) := ⟨_, rfl⟩
    have hpw := pow60 (show ws.length - 1 ≤ 60 by omega)
    have hpw2 : 2 ^ (ws.length - 1) ≤ 2 ^ 59 := Nat.pow_le_pow_right (by decide) (by omega)
    have h59 : (2 : Nat) ^ 59 = 576460752303423488 := by decide
    have h60 : (2 : Nat) ^ 60 = 1152921504606846976 := by decide
    rw [← hP] at hpw hpw2
    have HPE := Lib.hid hP
    have HM := Lib.hid (show cntD f ws m (ws.length - 1) 0 P = many by rw [hP, br_all hN, HO.out.mn])
    have hPP : P ≤ 576460752303423488 := by omega
    clear hP hpw2 h59
    repeat ((with_reducible fail_if_success (show Code.wp _ (Code.loop _) _ _ _)); first | go_values | go_skip | go_guarded | go_step | go_upon)
    go_loopw [28, 29] (fun v z wx => ∃ s : Nat, s ≤ P ∧ z = .int .i64 s ∧ v = .int .i64 (cntD f ws m (ws.length - 1) 0 s) ∧ Below wo.heap.size wo wx) (fun _ z _ => P - (intOf z).toNat)
    case atStart => exact ⟨0, by omega, rfl, rfl, Below.refl _ _⟩
    case round =>
      obtain ⟨s, hs, rfl, rfl, hbx⟩ := hrel
      clear HBX
      have HBX := Lib.hid hbx
      replace HF := Lib.hid (HF.out.next hbx)
      replace K5 := Lib.hid (K5.out.next hbx)
      replace HBL := Lib.hid (HBL.out.next hbx)
      replace HB := Lib.hid (below_step HB.out hbx)
      clear hbx
      have hcr := cntD_range f ws m (ws.length - 1) 0 s
      have e1 : IntKind.i64.wrap ((ws.length : Int) - 1) = ((ws.length - 1 : Nat) : Int) := by rw [IntWalk.i64_in _ (by omega)]; omega
      have e2 : IntKind.u64.wrap ((ws.length - 1 : Nat) : Int) = ((ws.length - 1 : Nat) : Int) := IntWalk.u64_in _ (by omega)
      have e3 : IntKind.i64.wrap ((s : Int) + 1) = (s : Int) + 1 := IntWalk.i64_in _ (by omega)
      repeat ((with_reducible fail_if_success (show wpList _ _ _ (⟨some 212, _, _, _, _, _⟩ :: _) _ _)); first | go_values | go_skip | go_guarded | go_step | go_upon)
      refine wpList_val (by kernel_rfl) (.int .i64 ((ws.length - 1 : Nat) : Int)) _ (Eq.trans (show (execOp _ _).run _ wr = .ok (.value (.int .i64 (IntKind.i64.wrap ((ws.length : Int) - 1)))) wr by kernel_rfl) (by rw [e1])) ?_
      repeat ((with_reducible fail_if_success (show wpList _ _ _ (⟨some 213, _, _, _, _, _⟩ :: _) _ _)); first | go_values | go_skip | go_guarded | go_step | go_upon)
      refine wpList_val (by kernel_rfl) (.int .u64 ((ws.length - 1 : Nat) : Int)) _ (Eq.trans (show (execOp _ _).run _ wr = .ok (.value (.int .u64 (IntKind.u64.wrap ((ws.length - 1 : Nat) : Int)))) wr by kernel_rfl) (by rw [e2])) ?_
      repeat ((with_reducible fail_if_success (show wpList _ _ _ (⟨some 214, _, _, _, _, _⟩ :: _) _ _)); first | go_values | go_skip | go_guarded | go_step | go_upon)
      refine wpList_val (by kernel_rfl) (.int .i64 (P : Int)) _ (exec_shl (.const (.int .i64 1)) (.tmp 213) rfl (ws.length - 1) P (by kernel_rfl) (by kernel_rfl) (by omega) HPE.out) ?_
      by_cases hlt : s < P
      · skip
        have hlti : (s : Int) < (P : Int) := by omega
        have HST := Lib.hid (br_step (f := f) (m := m) hN s)
        obtain ⟨tot, htot⟩ : ∃ tot, tot = cntD f ws m (ws.length - 1) 0 s := ⟨_, rfl⟩
        rw [← htot] at hcr HST ⊢
        clear htot e1 e2
        repeat ((with_reducible fail_if_success (show Code.wp _ (Code.block 1 _) _ _ _)); first | go_values | go_skip | go_guarded | go_step | go_upon)
        skip
        refine sS w _ f S HV l HT HMX HSP g5 ws HWE m hm0 gl c1 bl low many short HO Aw cw A4 d4 s (by omega) hN tot (cntD f ws m (ws.length - 1) 0 (s + 1)) (by omega) HST HF K5 HBL HB _ _ _ _ _ _ _ _ _ _ _ _ _ _ _ _ _ _ _ _ _ _ _ _ _ _ _ _ _ _ _ _ _ _ _ _ _ _ _ _ _ _ _ _ _ _ _ _ _ _ _ _ _ _ _ _ _ _ _ _ _ _ _ _ _ _ _ _ _ _ _ _ _ _ _ _ _ _ _ _ _ _ _ _ _ _ _ _ _ _ _ _ _ _ _ _ _ _ _ _ _ _ _ _ _ _ _ _ _ _ _ _ _ _ _ _ _ _ _ _ _ _ _ _ _ _ _ _ _ _ _ _ _ _ _ _ _ _ _ _ _ _ _ _ _ _ _ _ _ _ _ _ _ _ _ _ _ _ _ _ _ _ _ _ _ _ _ _ _ _ _ _ _ _ _ _ _ _ _ _ _ _ _ _ _ _ _ _ _ _ _ _ _ _ _ _ _ _ _ _ _ _ _ _ _ _ _ _ _ _ _ _ _ _ _ _ _ _ _ _ _ _ _ _ _ _ _ _ _ _ _ _ _ _ _ _ _ _ _ _ _ _ _ _ _ _ _ _ _ _ _ _ _ _ _ _ _ _ _ _ _ _ _ _ _ _ _ _ _ _ _ _ _ _ _ _ _ _ _ _ _ _ _ _ _ _ _ _ _ _ _ _ _ _ _ _ _ _ _ _ _ _ _ _ _ _ _ _ _ _ _ _ _ _ _ _ _ _ _ _ _ _ _ _ _ _ _ _ _ _ _ _ _ _ _ _ _ _ _ _ _ _ _ _ _ _ _ _ _ _ _ _ _ _ _ _ _ _ _ _ _ _ _ _ _ _ _ _ _ _ _ _ _ _ _ _ _ _ _ _ _ _ _ _ _ _ _ _ _ _ _ _ _ _ _ _ _ _ _ _ _ _ _ _ _ _ _ _ _ _ _ _ _ _ _ _ _ _ _ _ _ _ _ _ _ _ _ _ _ _ _ _ _ _ _ _ _ _ _ _ _ _ _ _ _ _ _ _ _ _ _ _ _ _ _ _ _ _ _ _ _ _ _ _ _ _ _ _ _ _ _ ?_
        intro w1c hcut
        intros
        have hb := hcut
        clear hcut
        replace HF := Lib.hid (HF.out.next hb)
        replace K5 := Lib.hid (K5.out.next hb)
        replace HBL := Lib.hid (HBL.out.next hb)
        replace HB := Lib.hid (below_step HB.out hb)
        replace HBX := Lib.hid (below_step HBX.out hb)
        clear hb
        repeat (first | go_values | go_skip | go_guarded | go_step | go_upon)
        go_roundw
        case rel => exact ⟨s + 1, hlt, by go_num, rfl, HBX.out⟩
        case measure => simp [intOf]; omega
      · obtain rfl : s = P := by omega
        rw [HM.out]
        have b1 : (many != many) = false := by simp
        repeat (first | go_values | go_skip | go_guarded | go_step | go_upon)
        exact HKK.out _ (HBX.out) _ _ _ _ _ _ _ _ _ _ _ _ _ _ _ _ _ _ _ _ _ _ _ _ _ _ _ _ _ _ _ _ _ _ _ _ _ _ _ _ _ _ _ _ _ _ _ _ _ _ _ _ _ _ _ _ _ _ _ _ _ _ _ _ _ _ _ _ _ _ _ _ _ _ _ _ _ _ _ _ _ _ _ _ _ _ _ _ _ _ _ _ _ _ _ _ _ _ _ _ _ _ _ _ _ _ _ _ _ _ _ _ _ _ _ _ _ _ _ _ _ _ _ _ _ _ _ _ _ _ _ _ _ _ _ _ _ _ _ _ _ _ _ _ _ _ _ _ _ _ _ _ _ _ _ _ _ _ _ _ _ _ _ _ _ _ _ _ _ _ _ _ _ _ _ _ _ _ _ _ _ _ _ _ _ _ _ _ _ _ _ _ _ _ _ _ _ _ _ _ _ _ _ _ _ _ _ _ _ _ _ _
  · have hNi : ¬ (0 : Int) < (ws.length : Int) := by omega
    repeat (first | go_values | go_skip | go_guarded | go_step | go_upon)
    exact HKK.out _ (HBX.out) _ _ _ _ _ _ _ _ _ _ _ _ _ _ _ _ _ _ _ _ _ _ _ _ _ _ _ _ _ _ _ _ _ _ _ _ _ _ _ _ _ _ _ _ _ _ _ _ _ _ _ _ _ _ _ _ _ _ _ _ _ _ _ _ _ _ _ _ _ _ _ _ _ _ _ _ _ _ _ _ _ _ _ _ _ _ _ _ _ _ _ _ _ _ _ _ _ _ _ _ _ _ _ _ _ _ _ _ _ _ _ _ _ _ _ _ _ _ _ _ _ _ _ _ _ _ _ _ _ _ _ _ _ _ _ _ _ _ _ _ _ _ _ _ _ _ _ _ _ _ _ _ _ _ _ _ _ _ _ _ _ _ _ _ _ _ _ _ _ _ _ _ _ _ _ _ _ _ _ _ _ _ _ _ _ _ _ _ _ _ _ _ _ _ _ _ _ _ _ _ _ _ _ _ _ _ _ _ _ _ _ _
end Go.Proofs.YtdhngjjfoddnkaaGreatDoor.lawBreaks
