/- The law of breaks: a piece of its walk. The law of breaks: a piece of its walk. The law of breaks: a piece of its walk. The law of breaks: a piece of its walk. -/
import Derived.Test.YtdhngjjfoddnkaaGreatDoorGU
import Derived.Deep.CutRange
import Derived.BigRegion
namespace Go.Proofs.YtdhngjjfoddnkaaGreatDoor.lawBreaks
open Go Go.RowKit Go.Proofs.YtdhngjjfoddnkaaGreatDoor
set_option linter.unusedVariables false
set_option linter.unusedSimpArgs false

attribute [local irreducible] wpQuiet in
set_option maxHeartbeats 4000000 in
set_option maxRecDepth 100000 in
theorem s45 (w wr : World) (f : Fc) (S : Value) (HV : Hid (validF f = true)) (l : List UInt8) (HT : Hid (vText l = true)) (HMX : Hid (MaxW w)) (HSP : Hid (SpT w)) (g5 : Nat) (ws : List (List UInt8)) (HWE : Hid (ws = words l)) (m : Int) (hm0 : 0 ≤ m ∧ m ≤ 4000) (gl : List Int) (c1 : Int) (bl : List Int) (low many short : Int) (HO : Hid (BrV f ws m gl c1 bl low many short)) (Aw : Option Addr) (cw : Nat) (s : Nat) (ow : List Int) (HOW : Hid (ow = ownN ws.length s)) (hN : 0 < ws.length) (hol : ow.length ≤ 60) (HKN : Hid (rightB f ws m ow = true)) (rr : List Int) (HRR : Hid (rr = lefts f ws m ow (ow.length + 1))) (Ar : Option Addr) (dr : Nat) (Al : Option Addr) (dl : Nat) (j : Nat) (hj : j < ow.length + 1) (sm t2 : Int) (hsm : 0 ≤ sm ∧ sm ≤ 16000000 * 61) (HT2 : Hid (t2 = if j < ow.length then sm + rdI rr j * rdI rr j else sm)) (HF : Hid (HasF wr f S)) (K5 : Hid (Blk wr g5 28 (fcV f S))) (HR : Hid (SlE i64 wr Ar rr)) (HL : Hid (SlE sv wr Al (jnsL ws ow (ow.length + 1)))) (HB : Hid (Below w.heap.size w wr)) (K : Act → World → Prop) (Q : Exit → Act → World → Prop)
    (u0 u1 u2 u3 u4 u6 u8 u9 u10 u11 u12 u13 u14 u15 u16 u17 u18 u19 u20 u21 u22 u23 u24 u25 u26 u27 u28 u29 u30 u31 u32 u33 u34 u35 u36 u37 u39 u41 u44 u45 u46 u47 u48 u49 u50 u51 u52 u53 u54 u55 u56 u57 u58 u59 u60 u61 u62 u63 u64 u65 u66 u67 u68 u69 u70 u71 u72 u73 u74 u75 u76 u77 u78 u79 u80 u81 u82 u83 u84 u85 u86 u87 u88 u89 u90 u91 u92 u93 u94 u95 u96 u97 u98 u99 u100 u101 u102 u103 u104 u105 u106 u107 u108 u109 u110 u111 u112 u113 u114 u115 u116 u117 u118 u119 u120 u121 u122 u123 u124 u125 u126 u127 u128 u129 u130 u131 u132 u133 u134 u135 u136 u137 u138 u139 u140 u141 u142 u143 u144 u145 u146 u147 u148 u149 u150 u151 u152 u153 u154 u155 u156 u157 u158 u159 u160 u161 u162 u163 u164 u165 u166 u167 u168 u169 u170 u171 u172 u173 u174 u175 u176 u177 u178 u179 u180 u181 u182 u183 u184 u185 u186 u187 u188 u189 u190 u191 u192 u193 u194 u195 u196 u197 u198 u199 u200 u201 u202 u203 u204 u205 u206 u207 u208 u209 u210 u211 u212 u213 u214 u215 u216 u217 u218 u219 u220 u221 u222 u223 u224 u225 u226 u227 u228 u229 u230 u231 u232 u233 u234 u235 u236 u237 u238 u239 u240 u241 u242 u243 u244 u245 u246 u247 u248 u249 u250 u251 u252 u253 u254 u255 u256 u257 u258 u259 u260 u261 u262 u263 u264 u265 u266 u267 u268 u269 u270 u271 u272 u273 u274 u275 u276 u277 u278 u279 u280 u281 u282 u283 u284 u285 u286 u287 u288 u289 u290 u291 u292 u293 u294 u295 u296 u297 u298 u299 u300 u301 u302 u303 u304 u305 u306 u307 u308 u309 u310 u311 u312 u313 u314 u315 u316 u317 u318 u319 u320 u321 u322 u323 u324 u325 u326 u327 u328 u329 u330 u331 u332 u333 u334 u335 u336 u337 u338 u339 u340 u341 u342 u343 u344 u345 u346 u347 u348 u349 u350 u351 u352 u353 u354 u355 u356 u357 u358 u359 u360 u361 u362 u363 u364 u365 u366 u367 u368 u369 u370 u371 u372 u373 u374 u375 u376 u377 u378 u379 u380 u381 u382 u383 u384 u385 u386 u387 u388 u389 u390 u391 u392 u393 u394 u395 u396 u397 u398 u399 u400 u401 u402 u403 u404 u405 u406 u407 u408 u409 u410 u411 u412 u413 u414 u415 u416 u417 u418 u419 u420 u421 u422 u423 u424 u425 u426 u427 u428 u429 u430 u431 u432 u433 u434 u435 u436 u437 u438 u439 u440 u441 u442 u443 u444 u445 u446 u447 u448 u449 u450 u451 u452 u453 u454 u455 u456 u457 u458 u459 u460 u461 u462 u463 u464 u465 u466 u467 u468 u469 u470 u471 u472 u473 u474 u475 u476 u477 u478 u479 : Value) (hK : ∀ (wc : World), Below wr.heap.size wr wc → ∀ (v4 v44 v45 v339 v340 v341 v342 v343 v344 v345 v346 v347 v348 v349 v350 v351 v352 v353 v354 v355 v356 v357 v358 v359 v360 v361 v362 v363 v364 v365 v366 v367 v368 v369 v370 v371 v372 v373 v374 v375 v376 v377 v378 v379 v380 v381 v382 : Value), K ⟨#[u0, u1, u2, u3, v4, .pointer (some ⟨g5, 0, none⟩), u6, .int .i64 m, u8, u9, u10, u11, u12, u13, u14, u15, u16, u17, u18, u19, u20, u21, u22, u23, u24, u25, u26, u27, u28, u29, u30, u31, u32, u33, u34, u35, u36, u37, .slice Ar rr.length dr, u39, .slice Al (ow.length + 1) dl, u41, .int .i64 t2, .int .i64 (j : Nat), v44, v45, u46, u47, u48, u49, u50, u51, u52, u53, u54, u55, u56, u57, u58, u59, u60, u61, u62, u63, u64, u65, u66, u67, u68, u69, u70, u71, u72, u73, u74, u75, u76, u77, u78, u79, u80, u81, u82, u83, u84, u85, u86, u87, u88, u89, u90, u91, u92, u93, u94, u95, u96, u97, u98, u99, u100, u101, u102, u103, u104, u105, u106, u107, u108, u109, u110, u111, u112, u113, u114, u115, u116, u117, u118, u119, u120, u121, u122, u123, u124, u125, u126, u127, u128, u129, u130, u131, u132, u133, u134, u135, u136, u137, u138, u139, u140, u141, u142, u143, u144, u145, u146, u147, u148, u149, u150, u151, u152, u153, u154, u155, u156, u157, u158, u159, u160, u161, u162, u163, u164, u165, u166, u167, u168, u169, u170, u171, u172, u173, u174, u175, u176, u177, u178, u179, u180, u181, u182, u183, u184, u185, u186, u187, u188, u189, u190, u191, u192, u193, u194, u195, u196, u197, u198, u199, u200, u201, u202, u203, u204, u205, u206, u207, u208, u209, u210, u211, u212, u213, u214, u215, u216, u217, u218, u219, u220, u221, u222, u223, u224, u225, u226, u227, u228, u229, u230, u231, u232, u233, u234, u235, u236, u237, u238, u239, u240, u241, u242, u243, u244, u245, u246, u247, u248, u249, u250, u251, u252, u253, u254, u255, u256, u257, u258, u259, u260, u261, u262, u263, u264, u265, u266, u267, u268, u269, u270, u271, u272, u273, u274, u275, u276, u277, u278, u279, u280, u281, u282, u283, u284, u285, u286, u287, u288, u289, u290, u291, u292, u293, u294, u295, u296, u297, u298, u299, u300, u301, u302, u303, u304, u305, u306, u307, u308, u309, u310, u311, u312, u313, u314, u315, u316, u317, u318, u319, u320, u321, u322, u323, u324, u325, u326, u327, u328, u329, u330, u331, u332, u333, u334, u335, u336, u337, u338, v339, v340, v341, v342, v343, v344, v345, v346, v347, v348, v349, v350, v351, v352, v353, v354, v355, v356, v357, v358, v359, v360, v361, v362, v363, v364, v365, v366, v367, v368, v369, v370, v371, v372, v373, v374, v375, v376, v377, v378, v379, v380, v381, v382, u383, u384, u385, u386, u387, u388, u389, u390, u391, u392, u393, u394, u395, u396, u397, u398, u399, u400, u401, u402, u403, u404, u405, u406, u407, u408, u409, u410, u411, u412, u413, u414, u415, u416, u417, u418, u419, u420, u421, u422, u423, u424, u425, u426, u427, u428, u429, u430, u431, u432, u433, u434, u435, u436, u437, u438, u439, u440, u441, u442, u443, u444, u445, u446, u447, u448, u449, u450, u451, u452, u453, u454, u455, u456, u457, u458, u459, u460, u461, u462, u463, u464, u465, u466, u467, u468, u469, u470, u471, u472, u473, u474, u475, u476, u477, u478, u479], []⟩ wc) :
    Code.wp Tryz.prog (partOf Tryz.f3 [true, true, true, true, true, true, true, true, true, true, true, true, true, true, true, false, true, false, true, false, true, true, true, true, false, true, true, true, true, true, true, true, true, true, true, true, true, true, true, false, true, true, true, true, false]) (Exit.then K Q)
      ⟨#[u0, u1, u2, u3, u4, .pointer (some ⟨g5, 0, none⟩), u6, .int .i64 m, u8, u9, u10, u11, u12, u13, u14, u15, u16, u17, u18, u19, u20, u21, u22, u23, u24, u25, u26, u27, u28, u29, u30, u31, u32, u33, u34, u35, u36, u37, .slice Ar rr.length dr, u39, .slice Al (ow.length + 1) dl, u41, .int .i64 sm, .int .i64 (j : Nat), u44, u45, u46, u47, u48, u49, u50, u51, u52, u53, u54, u55, u56, u57, u58, u59, u60, u61, u62, u63, u64, u65, u66, u67, u68, u69, u70, u71, u72, u73, u74, u75, u76, u77, u78, u79, u80, u81, u82, u83, u84, u85, u86, u87, u88, u89, u90, u91, u92, u93, u94, u95, u96, u97, u98, u99, u100, u101, u102, u103, u104, u105, u106, u107, u108, u109, u110, u111, u112, u113, u114, u115, u116, u117, u118, u119, u120, u121, u122, u123, u124, u125, u126, u127, u128, u129, u130, u131, u132, u133, u134, u135, u136, u137, u138, u139, u140, u141, u142, u143, u144, u145, u146, u147, u148, u149, u150, u151, u152, u153, u154, u155, u156, u157, u158, u159, u160, u161, u162, u163, u164, u165, u166, u167, u168, u169, u170, u171, u172, u173, u174, u175, u176, u177, u178, u179, u180, u181, u182, u183, u184, u185, u186, u187, u188, u189, u190, u191, u192, u193, u194, u195, u196, u197, u198, u199, u200, u201, u202, u203, u204, u205, u206, u207, u208, u209, u210, u211, u212, u213, u214, u215, u216, u217, u218, u219, u220, u221, u222, u223, u224, u225, u226, u227, u228, u229, u230, u231, u232, u233, u234, u235, u236, u237, u238, u239, u240, u241, u242, u243, u244, u245, u246, u247, u248, u249, u250, u251, u252, u253, u254, u255, u256, u257, u258, u259, u260, u261, u262, u263, u264, u265, u266, u267, u268, u269, u270, u271, u272, u273, u274, u275, u276, u277, u278, u279, u280, u281, u282, u283, u284, u285, u286, u287, u288, u289, u290, u291, u292, u293, u294, u295, u296, u297, u298, u299, u300, u301, u302, u303, u304, u305, u306, u307, u308, u309, u310, u311, u312, u313, u314, u315, u316, u317, u318, u319, u320, u321, u322, u323, u324, u325, u326, u327, u328, u329, u330, u331, u332, u333, u334, u335, u336, u337, u338, u339, u340, u341, u342, u343, u344, u345, u346, u347, u348, u349, u350, u351, u352, u353, u354, u355, u356, u357, u358, u359, u360, u361, u362, u363, u364, u365, u366, u367, u368, u369, u370, u371, u372, u373, u374, u375, u376, u377, u378, u379, u380, u381, u382, u383, u384, u385, u386, u387, u388, u389, u390, u391, u392, u393, u394, u395, u396, u397, u398, u399, u400, u401, u402, u403, u404, u405, u406, u407, u408, u409, u410, u411, u412, u413, u414, u415, u416, u417, u418, u419, u420, u421, u422, u423, u424, u425, u426, u427, u428, u429, u430, u431, u432, u433, u434, u435, u436, u437, u438, u439, u440, u441, u442, u443, u444, u445, u446, u447, u448, u449, u450, u451, u452, u453, u454, u455, u456, u457, u458, u459, u460, u461, u462, u463, u464, u465, u466, u467, u468, u469, u470, u471, u472, u473, u474, u475, u476, u477, u478, u479], []⟩ wr := by
  conv => arg 2; whnf
  have HKK := Lib.hid hK
  clear hK
  have hrl : rr.length = ow.length + 1 := by rw [HRR.out]; exact lefts_length _ _ _ _ _
  have hjr : j < rr.length := by omega
  have hrj := lefts_range HO.out.vF HO.out.wW hm0.2 HKN.out j hj
  rw [← HRR.out] at hrj
  have hlv : rdI rr j = m - lnW f ws (bkA ow j) (bkE ws.length ow j) := by rw [HRR.out, rdI_lefts hj]; rfl
  obtain ⟨q, hq⟩ : ∃ q, q = jnL ws ow j := ⟨_, rfl⟩
  have HQ := Lib.hid hq
  have HVQ := Lib.hid (show vText q = true by rw [hq, HWE.out]; exact line_text HT.out _ _)
  obtain ⟨D, hD⟩ : ∃ D, D = lineW f q := ⟨_, rfl⟩
  have hDm : D + rdI rr j = m := by rw [hlv, hD, hq]; unfold lnW jnL; omega
  have HD := Lib.hid hD
  clear hq hD hlv
  have HLW := Lib.hid (fun (w' : World) (h : HasF w' f S) (hx : MaxW w') => (show Calls Tryz.prog 23 #[.agg (fcV f S).toArray, .string ⟨q.toArray⟩] w' (fun e w1 => e = .returned (.tuple #[.int .i64 D, .int .i64 0]) ∧ Below w'.heap.size w' w1) by rw [HD.out]; exact lineWide_impl f S q w' hx h HV.out HVQ.out))
  obtain ⟨al, rfl, rl⟩ := HL.out.some j (by rw [jnsL_length]; exact hj)
  have HRL := Lib.hid rl
  clear rl
  obtain ⟨ar, rfl, ra⟩ := HR.out.some j hjr
  have HRA := Lib.hid ra
  clear ra
  have HSQ := Lib.hid (show (j < (jnsL ws ow (ow.length + 1)).length) ∧ rdW (jnsL ws ow (ow.length + 1)) j = q from ⟨by rw [jnsL_length]; exact hj, by rw [rdW_jns hj, HQ.out]⟩)
  have HBX := Lib.hid (Below.refl wr.heap.size wr)
  have HRL2 := Lib.hid hrl
  clear hrl
  repeat ((with_reducible fail_if_success (show Code.wp _ (Code.region 45 _ _) _ _ _)); first | go_values | go_skip | go_guarded | go_step | go_upon)
  refine region_below (wr.heap.size) (by kernel_rfl) (by kernel_rfl) ?_
  refine below_run (by kernel_rfl) (.agg (fcV f S).toArray) (fun w' hw' => exec_load_row 28 (.tmp 5) rfl (g5) (by kernel_rfl) 28 (fcV f S).toArray _ _ (K5.out.next hw') Tryz.underlying28 rfl (by rw [List.size_toArray, fcV_length HF.out.1 S]; exact szFcI)) ?_
  refine below_run (by kernel_rfl) (.slice (some al) (ow.length + 1) dl) (fun w' hw' => by kernel_rfl) ?_
  refine below_run (by kernel_rfl) (.int .i64 (j : Nat)) (fun w' hw' => by kernel_rfl) ?_
  refine below_run (by kernel_rfl) (.pointer (some (Addr.add al (j * 1)))) (fun w' hw' => exec_index 39 (.tmp 341) (.tmp 342) rfl al (ow.length + 1) dl (by kernel_rfl) .i64 j (by kernel_rfl) hj 9 Tryz.underlying39 1 szStr) ?_
  refine below_run (by kernel_rfl) (.string ⟨q.toArray⟩) (fun w' hw' => exec_load1 9 (.tmp 343) rfl (al.add (j * 1)) (by kernel_rfl) (.string ⟨q.toArray⟩) (by rw [Nat.mul_one, ← HSQ.out.2]; exact (HRL.out.next hw').atW j HSQ.out.1) _ Tryz.underlying9 rfl) ?_
  refine below_call (by kernel_rfl) 23 #[.agg (fcV f S).toArray, .string ⟨q.toArray⟩] (.tuple #[.int .i64 D, .int .i64 0]) (fun w' => by kernel_rfl) (fun w' hw' => (HLW.out w' (HF.out.next hw') ((HMX.out.next HB.out).next hw')).mono fun e w1 ⟨he, hb1⟩ => ⟨he, below_step hw' hb1⟩) ?_
  refine below_run (by kernel_rfl) (.tuple #[.int .i64 D, .int .i64 0]) (fun w' hw' => by kernel_rfl) ?_
  refine below_run (by kernel_rfl) (.int .i64 D) (fun w' hw' => by kernel_rfl) ?_
  refine below_run (by kernel_rfl) (.int .i64 0) (fun w' hw' => by kernel_rfl) ?_
  refine below_run (by kernel_rfl) (.int .i64 D) (fun w' hw' => by kernel_rfl) ?_
  refine below_run (by kernel_rfl) (.int .i64 0) (fun w' hw' => by kernel_rfl) ?_
  refine wpQuiet_nil ?_
  intro W1 hW1
  simp only [Act.put, List.setIfInBounds_toArray, List.set_cons_succ, List.set_cons_zero]
  have HRA := Lib.hid (HRA.out.next hW1)
  replace HF := Lib.hid (HF.out.next hW1)
  replace K5 := Lib.hid (K5.out.next hW1)
  replace HR := Lib.hid (HR.out.next hW1)
  replace HL := Lib.hid (HL.out.next hW1)
  replace HB := Lib.hid (below_step HB.out hW1)
  replace HBX := Lib.hid (below_step HBX.out hW1)
  clear hW1
  have cr := HRA.out.atI64 j hjr
  have e1 : IntKind.i64.wrap (D + rdI rr j) = m := by rw [hDm]; exact IntWalk.i64_in _ (by omega)
  have b1 : (m != m) = false := by simp
  have q1 : ¬ rdI rr j < 0 := by omega
  have e2 : IntKind.i64.wrap (((ow.length + 1 : Nat) : Int) - 1) = (ow.length : Int) := by rw [IntWalk.i64_in _ (by omega)]; omega
  have e2b : IntKind.i64.wrap (((ow.length : Int) + 1) - 1) = (ow.length : Int) := by rw [IntWalk.i64_in _ (by omega)]; omega
  have hsq := sq_range hrj.1 hrj.2
  have HDM := Lib.hid hDm
  clear hDm HLW HRL
  by_cases hjo : j < ow.length
  · have HT3 := Lib.hid (HT2.out.trans (if_pos hjo))
    have e3 : IntKind.i64.wrap (rdI rr j * rdI rr j) = rdI rr j * rdI rr j := IntWalk.i64_in _ (by omega)
    have e4 : IntKind.i64.wrap (sm + rdI rr j * rdI rr j) = t2 := by rw [HT3.out]; exact IntWalk.i64_in _ (by omega)
    repeat ((with_reducible fail_if_success (show Code.wp _ (Code.region 49 _ _) _ _ _)); first | go_values | go_skip | go_guarded | go_step | go_upon)
    clear cr e1 e2 e2b b1 q1
    refine region_below (W1.heap.size) (by kernel_rfl) (by kernel_rfl) ?_
    refine below_run (by kernel_rfl) (.int .i64 sm) (fun w' hw' => by kernel_rfl) ?_
    refine below_run (by kernel_rfl) (.slice (some ar) rr.length dr) (fun w' hw' => by kernel_rfl) ?_
    refine below_run (by kernel_rfl) (.int .i64 (j : Nat)) (fun w' hw' => by kernel_rfl) ?_
    refine below_run (by kernel_rfl) (.pointer (some (Addr.add ar (j * 1)))) (fun w' hw' => exec_index 32 (.tmp 373) (.tmp 374) rfl ar rr.length dr (by kernel_rfl) .i64 j (by kernel_rfl) hjr 2 Tryz.underlying32 1 szI64c) ?_
    refine below_run (by kernel_rfl) (.int .i64 (rdI rr j)) (fun w' hw' => exec_load1 2 (.tmp 375) rfl (ar.add (j * 1)) (by kernel_rfl) (.int .i64 (rdI rr j)) (by rw [Nat.mul_one]; exact (HRA.out.next hw').atI64 j hjr) _ Tryz.underlying2 rfl) ?_
    refine below_run (by kernel_rfl) (.slice (some ar) rr.length dr) (fun w' hw' => by kernel_rfl) ?_
    refine below_run (by kernel_rfl) (.int .i64 (j : Nat)) (fun w' hw' => by kernel_rfl) ?_
    refine below_run (by kernel_rfl) (.pointer (some (Addr.add ar (j * 1)))) (fun w' hw' => exec_index 32 (.tmp 377) (.tmp 378) rfl ar rr.length dr (by kernel_rfl) .i64 j (by kernel_rfl) hjr 2 Tryz.underlying32 1 szI64c) ?_
    refine below_run (by kernel_rfl) (.int .i64 (rdI rr j)) (fun w' hw' => exec_load1 2 (.tmp 379) rfl (ar.add (j * 1)) (by kernel_rfl) (.int .i64 (rdI rr j)) (by rw [Nat.mul_one]; exact (HRA.out.next hw').atI64 j hjr) _ Tryz.underlying2 rfl) ?_
    refine below_run (by kernel_rfl) (.int .i64 (rdI rr j * rdI rr j)) (fun w' hw' => Eq.trans (show (execOp _ _).run _ w' = .ok (.value (.int .i64 (IntKind.i64.wrap (rdI rr j * rdI rr j)))) w' by kernel_rfl) (by rw [e3])) ?_
    refine below_run (by kernel_rfl) (.int .i64 t2) (fun w' hw' => Eq.trans (show (execOp _ _).run _ w' = .ok (.value (.int .i64 (IntKind.i64.wrap (sm + rdI rr j * rdI rr j)))) w' by kernel_rfl) (by rw [e4])) ?_
    refine below_run (by kernel_rfl) (.int .i64 t2) (fun w' hw' => by kernel_rfl) ?_
    refine wpQuiet_nil ?_
    intro W2 hW2
    simp only [Act.put, List.setIfInBounds_toArray, List.set_cons_succ, List.set_cons_zero]
    repeat (first | go_values | go_skip | go_guarded | go_step | go_upon)
    exact HKK.out _ (below_step HBX.out hW2) _ _ _ _ _ _ _ _ _ _ _ _ _ _ _ _ _ _ _ _ _ _ _ _ _ _ _ _ _ _ _ _ _ _ _ _ _ _ _ _ _ _ _ _ _ _ _
  · have HT3 := Lib.hid (HT2.out.trans (if_neg hjo))
    repeat (first | go_values | go_skip | go_guarded | go_step | go_upon)
    rw [← HT3.out]
    exact HKK.out _ (HBX.out) _ _ _ _ _ _ _ _ _ _ _ _ _ _ _ _ _ _ _ _ _ _ _ _ _ _ _ _ _ _ _ _ _ _ _ _ _ _ _ _ _ _ _ _ _ _ _
end Go.Proofs.YtdhngjjfoddnkaaGreatDoor.lawBreaks
namespace Go.Proofs.YtdhngjjfoddnkaaGreatDoor.lawBreaks
open Go Go.RowKit Go.Proofs.YtdhngjjfoddnkaaGreatDoor
set_option linter.unusedVariables false
set_option linter.unusedSimpArgs false

attribute [local irreducible] wpQuiet in
set_option maxHeartbeats 4000000 in
set_option maxRecDepth 100000 in
theorem sM (w wr : World) (f : Fc) (S : Value) (HV : Hid (validF f = true)) (l : List UInt8) (HT : Hid (vText l = true)) (HMX : Hid (MaxW w)) (HSP : Hid (SpT w)) (g5 : Nat) (ws : List (List UInt8)) (HWE : Hid (ws = words l)) (m : Int) (hm0 : 0 ≤ m ∧ m ≤ 4000) (gl : List Int) (c1 : Int) (bl : List Int) (low many short : Int) (HO : Hid (BrV f ws m gl c1 bl low many short)) (Aw : Option Addr) (cw : Nat) (s : Nat) (ow : List Int) (HOW : Hid (ow = ownN ws.length s)) (hN : 0 < ws.length) (hol : ow.length ≤ 60) (HKN : Hid (rightB f ws m ow = true)) (rr : List Int) (HRR : Hid (rr = lefts f ws m ow (ow.length + 1))) (Ar : Option Addr) (dr : Nat) (Al : Option Addr) (dl : Nat) (un : Int) (HUN : Hid (un = usq rr ow.length)) (HF : Hid (HasF wr f S)) (K5 : Hid (Blk wr g5 28 (fcV f S))) (HR : Hid (SlE i64 wr Ar rr)) (HL : Hid (SlE sv wr Al (jnsL ws ow (ow.length + 1)))) (HB : Hid (Below w.heap.size w wr)) (K : Act → World → Prop) (Q : Exit → Act → World → Prop)
    (u0 u1 u2 u3 u4 u6 u8 u9 u10 u11 u12 u13 u14 u15 u16 u17 u18 u19 u20 u21 u22 u23 u24 u25 u26 u27 u28 u29 u30 u31 u32 u33 u34 u35 u36 u37 u39 u41 u43 u44 u45 u46 u47 u48 u49 u50 u51 u52 u53 u54 u55 u56 u57 u58 u59 u60 u61 u62 u63 u64 u65 u66 u67 u68 u69 u70 u71 u72 u73 u74 u75 u76 u77 u78 u79 u80 u81 u82 u83 u84 u85 u86 u87 u88 u89 u90 u91 u92 u93 u94 u95 u96 u97 u98 u99 u100 u101 u102 u103 u104 u105 u106 u107 u108 u109 u110 u111 u112 u113 u114 u115 u116 u117 u118 u119 u120 u121 u122 u123 u124 u125 u126 u127 u128 u129 u130 u131 u132 u133 u134 u135 u136 u137 u138 u139 u140 u141 u142 u143 u144 u145 u146 u147 u148 u149 u150 u151 u152 u153 u154 u155 u156 u157 u158 u159 u160 u161 u162 u163 u164 u165 u166 u167 u168 u169 u170 u171 u172 u173 u174 u175 u176 u177 u178 u179 u180 u181 u182 u183 u184 u185 u186 u187 u188 u189 u190 u191 u192 u193 u194 u195 u196 u197 u198 u199 u200 u201 u202 u203 u204 u205 u206 u207 u208 u209 u210 u211 u212 u213 u214 u215 u216 u217 u218 u219 u220 u221 u222 u223 u224 u225 u226 u227 u228 u229 u230 u231 u232 u233 u234 u235 u236 u237 u238 u239 u240 u241 u242 u243 u244 u245 u246 u247 u248 u249 u250 u251 u252 u253 u254 u255 u256 u257 u258 u259 u260 u261 u262 u263 u264 u265 u266 u267 u268 u269 u270 u271 u272 u273 u274 u275 u276 u277 u278 u279 u280 u281 u282 u283 u284 u285 u286 u287 u288 u289 u290 u291 u292 u293 u294 u295 u296 u297 u298 u299 u300 u301 u302 u303 u304 u305 u306 u307 u308 u309 u310 u311 u312 u313 u314 u315 u316 u317 u318 u319 u320 u321 u322 u323 u324 u325 u326 u327 u328 u329 u330 u331 u332 u333 u334 u335 u336 u337 u338 u339 u340 u341 u342 u343 u344 u345 u346 u347 u348 u349 u350 u351 u352 u353 u354 u355 u356 u357 u358 u359 u360 u361 u362 u363 u364 u365 u366 u367 u368 u369 u370 u371 u372 u373 u374 u375 u376 u377 u378 u379 u380 u381 u382 u383 u384 u385 u386 u387 u388 u389 u390 u391 u392 u393 u394 u395 u396 u397 u398 u399 u400 u401 u402 u403 u404 u405 u406 u407 u408 u409 u410 u411 u412 u413 u414 u415 u416 u417 u418 u419 u420 u421 u422 u423 u424 u425 u426 u427 u428 u429 u430 u431 u432 u433 u434 u435 u436 u437 u438 u439 u440 u441 u442 u443 u444 u445 u446 u447 u448 u449 u450 u451 u452 u453 u454 u455 u456 u457 u458 u459 u460 u461 u462 u463 u464 u465 u466 u467 u468 u469 u470 u471 u472 u473 u474 u475 u476 u477 u478 u479 : Value) (hK : ∀ (wc : World), Below wr.heap.size wr wc → ∀ (v4 v43 v44 v45 v333 v334 v335 v336 v337 v338 v339 v340 v341 v342 v343 v344 v345 v346 v347 v348 v349 v350 v351 v352 v353 v354 v355 v356 v357 v358 v359 v360 v361 v362 v363 v364 v365 v366 v367 v368 v369 v370 v371 v372 v373 v374 v375 v376 v377 v378 v379 v380 v381 v382 : Value), K ⟨#[u0, u1, u2, u3, v4, .pointer (some ⟨g5, 0, none⟩), u6, .int .i64 m, u8, u9, u10, u11, u12, u13, u14, u15, u16, u17, u18, u19, u20, u21, u22, u23, u24, u25, u26, u27, u28, u29, u30, u31, u32, u33, u34, u35, u36, u37, .slice Ar rr.length dr, u39, .slice Al (ow.length + 1) dl, u41, .int .i64 un, v43, v44, v45, u46, u47, u48, u49, u50, u51, u52, u53, u54, u55, u56, u57, u58, u59, u60, u61, u62, u63, u64, u65, u66, u67, u68, u69, u70, u71, u72, u73, u74, u75, u76, u77, u78, u79, u80, u81, u82, u83, u84, u85, u86, u87, u88, u89, u90, u91, u92, u93, u94, u95, u96, u97, u98, u99, u100, u101, u102, u103, u104, u105, u106, u107, u108, u109, u110, u111, u112, u113, u114, u115, u116, u117, u118, u119, u120, u121, u122, u123, u124, u125, u126, u127, u128, u129, u130, u131, u132, u133, u134, u135, u136, u137, u138, u139, u140, u141, u142, u143, u144, u145, u146, u147, u148, u149, u150, u151, u152, u153, u154, u155, u156, u157, u158, u159, u160, u161, u162, u163, u164, u165, u166, u167, u168, u169, u170, u171, u172, u173, u174, u175, u176, u177, u178, u179, u180, u181, u182, u183, u184, u185, u186, u187, u188, u189, u190, u191, u192, u193, u194, u195, u196, u197, u198, u199, u200, u201, u202, u203, u204, u205, u206, u207, u208, u209, u210, u211, u212, u213, u214, u215, u216, u217, u218, u219, u220, u221, u222, u223, u224, u225, u226, u227, u228, u229, u230, u231, u232, u233, u234, u235, u236, u237, u238, u239, u240, u241, u242, u243, u244, u245, u246, u247, u248, u249, u250, u251, u252, u253, u254, u255, u256, u257, u258, u259, u260, u261, u262, u263, u264, u265, u266, u267, u268, u269, u270, u271, u272, u273, u274, u275, u276, u277, u278, u279, u280, u281, u282, u283, u284, u285, u286, u287, u288, u289, u290, u291, u292, u293, u294, u295, u296, u297, u298, u299, u300, u301, u302, u303, u304, u305, u306, u307, u308, u309, u310, u311, u312, u313, u314, u315, u316, u317, u318, u319, u320, u321, u322, u323, u324, u325, u326, u327, u328, u329, u330, u331, u332, v333, v334, v335, v336, v337, v338, v339, v340, v341, v342, v343, v344, v345, v346, v347, v348, v349, v350, v351, v352, v353, v354, v355, v356, v357, v358, v359, v360, v361, v362, v363, v364, v365, v366, v367, v368, v369, v370, v371, v372, v373, v374, v375, v376, v377, v378, v379, v380, v381, v382, u383, u384, u385, u386, u387, u388, u389, u390, u391, u392, u393, u394, u395, u396, u397, u398, u399, u400, u401, u402, u403, u404, u405, u406, u407, u408, u409, u410, u411, u412, u413, u414, u415, u416, u417, u418, u419, u420, u421, u422, u423, u424, u425, u426, u427, u428, u429, u430, u431, u432, u433, u434, u435, u436, u437, u438, u439, u440, u441, u442, u443, u444, u445, u446, u447, u448, u449, u450, u451, u452, u453, u454, u455, u456, u457, u458, u459, u460, u461, u462, u463, u464, u465, u466, u467, u468, u469, u470, u471, u472, u473, u474, u475, u476, u477, u478, u479], []⟩ wc) :
    Code.wp Tryz.prog (partOf Tryz.f3 [true, true, true, true, true, true, true, true, true, true, true, true, true, true, true, false, true, false, true, false, true, true, true, true, false, true, true, true, true, true, true, true, true, true, true, true, true, true, true, false]) (Exit.then K Q)
      ⟨#[u0, u1, u2, u3, u4, .pointer (some ⟨g5, 0, none⟩), u6, .int .i64 m, u8, u9, u10, u11, u12, u13, u14, u15, u16, u17, u18, u19, u20, u21, u22, u23, u24, u25, u26, u27, u28, u29, u30, u31, u32, u33, u34, u35, u36, u37, .slice Ar rr.length dr, u39, .slice Al (ow.length + 1) dl, u41, .int .i64 0, u43, u44, u45, u46, u47, u48, u49, u50, u51, u52, u53, u54, u55, u56, u57, u58, u59, u60, u61, u62, u63, u64, u65, u66, u67, u68, u69, u70, u71, u72, u73, u74, u75, u76, u77, u78, u79, u80, u81, u82, u83, u84, u85, u86, u87, u88, u89, u90, u91, u92, u93, u94, u95, u96, u97, u98, u99, u100, u101, u102, u103, u104, u105, u106, u107, u108, u109, u110, u111, u112, u113, u114, u115, u116, u117, u118, u119, u120, u121, u122, u123, u124, u125, u126, u127, u128, u129, u130, u131, u132, u133, u134, u135, u136, u137, u138, u139, u140, u141, u142, u143, u144, u145, u146, u147, u148, u149, u150, u151, u152, u153, u154, u155, u156, u157, u158, u159, u160, u161, u162, u163, u164, u165, u166, u167, u168, u169, u170, u171, u172, u173, u174, u175, u176, u177, u178, u179, u180, u181, u182, u183, u184, u185, u186, u187, u188, u189, u190, u191, u192, u193, u194, u195, u196, u197, u198, u199, u200, u201, u202, u203, u204, u205, u206, u207, u208, u209, u210, u211, u212, u213, u214, u215, u216, u217, u218, u219, u220, u221, u222, u223, u224, u225, u226, u227, u228, u229, u230, u231, u232, u233, u234, u235, u236, u237, u238, u239, u240, u241, u242, u243, u244, u245, u246, u247, u248, u249, u250, u251, u252, u253, u254, u255, u256, u257, u258, u259, u260, u261, u262, u263, u264, u265, u266, u267, u268, u269, u270, u271, u272, u273, u274, u275, u276, u277, u278, u279, u280, u281, u282, u283, u284, u285, u286, u287, u288, u289, u290, u291, u292, u293, u294, u295, u296, u297, u298, u299, u300, u301, u302, u303, u304, u305, u306, u307, u308, u309, u310, u311, u312, u313, u314, u315, u316, u317, u318, u319, u320, u321, u322, u323, u324, u325, u326, u327, u328, u329, u330, u331, u332, u333, u334, u335, u336, u337, u338, u339, u340, u341, u342, u343, u344, u345, u346, u347, u348, u349, u350, u351, u352, u353, u354, u355, u356, u357, u358, u359, u360, u361, u362, u363, u364, u365, u366, u367, u368, u369, u370, u371, u372, u373, u374, u375, u376, u377, u378, u379, u380, u381, u382, u383, u384, u385, u386, u387, u388, u389, u390, u391, u392, u393, u394, u395, u396, u397, u398, u399, u400, u401, u402, u403, u404, u405, u406, u407, u408, u409, u410, u411, u412, u413, u414, u415, u416, u417, u418, u419, u420, u421, u422, u423, u424, u425, u426, u427, u428, u429, u430, u431, u432, u433, u434, u435, u436, u437, u438, u439, u440, u441, u442, u443, u444, u445, u446, u447, u448, u449, u450, u451, u452, u453, u454, u455, u456, u457, u458, u459, u460, u461, u462, u463, u464, u465, u466, u467, u468, u469, u470, u471, u472, u473, u474, u475, u476, u477, u478, u479], []⟩ wr := by
  conv => arg 2; whnf
  have HKK := Lib.hid hK
  clear hK
  have HRL := Lib.hid (show rr.length = ow.length + 1 by rw [HRR.out]; exact lefts_length _ _ _ _ _)
  have HUR := Lib.hid (fun (k : Nat) (hk : k ≤ ow.length + 1) => usq_range (l := rr) (n := ow.length + 1) (fun i hi => by rw [HRR.out]; exact lefts_range HO.out.vF HO.out.wW hm0.2 HKN.out i hi) k hk)
  repeat ((with_reducible fail_if_success (show Code.wp _ (Code.loop _) _ _ _)); first | go_values | go_skip | go_guarded | go_step | go_upon)
  go_loopw [42, 43] (fun v z wx => ∃ j : Nat, j ≤ ow.length + 1 ∧ z = .int .i64 j ∧ v = .int .i64 (usq rr (min j ow.length)) ∧ Below wr.heap.size wr wx) (fun _ z _ => ow.length + 1 - (intOf z).toNat)
  case atStart => exact ⟨0, by omega, rfl, by rw [Nat.zero_min]; rfl, Below.refl _ _⟩
  case round =>
    obtain ⟨j, hj, rfl, rfl, hbx⟩ := hrel
    have HBI := Lib.hid hbx
    replace HF := Lib.hid (HF.out.next hbx)
    replace K5 := Lib.hid (K5.out.next hbx)
    replace HR := Lib.hid (HR.out.next hbx)
    replace HL := Lib.hid (HL.out.next hbx)
    replace HB := Lib.hid (below_step HB.out hbx)
    clear hbx
    by_cases hlt : j < ow.length + 1
    · skip
      have hr1 := HUR.out (min j ow.length) (by omega)
      have hmn : min j ow.length ≤ 60 := by omega
      have HT2 := Lib.hid (show usq rr (min (j + 1) ow.length) = if j < ow.length then usq rr (min j ow.length) + rdI rr j * rdI rr j else usq rr (min j ow.length) by
        by_cases h : j < ow.length
        · rw [if_pos h, show min (j + 1) ow.length = j + 1 by omega, show min j ow.length = j by omega, usq_succ]
        · rw [if_neg h, show min (j + 1) ow.length = min j ow.length by omega])
      obtain ⟨sm, hsm⟩ : ∃ sm, sm = usq rr (min j ow.length) := ⟨_, rfl⟩
      rw [← hsm] at hr1 HT2 ⊢
      obtain ⟨t2, ht2⟩ : ∃ t2, t2 = usq rr (min (j + 1) ow.length) := ⟨_, rfl⟩
      rw [← ht2] at HT2
      have HE2 := Lib.hid ht2
      clear hsm ht2
      have hlt2 : (j : Int) < ((ow.length + 1 : Nat) : Int) := by omega
      have hlt3 : (j : Int) < (ow.length : Int) + 1 := by omega
      have hlt4 : j ≤ ow.length := by omega
      have hlt5 : (j : Int) ≤ (ow.length : Int) := by omega
      repeat ((with_reducible fail_if_success (show Code.wp _ (Code.block 5 _) _ _ _)); first | go_values | go_skip | go_guarded | go_step | go_upon)
      skip
      refine s45 w _ f S HV l HT HMX HSP g5 ws HWE m hm0 gl c1 bl low many short HO Aw cw s ow HOW hN hol HKN rr HRR Ar dr Al dl j hlt sm t2 (by omega) HT2 HF K5 HR HL HB _ _ _ _ _ _ _ _ _ _ _ _ _ _ _ _ _ _ _ _ _ _ _ _ _ _ _ _ _ _ _ _ _ _ _ _ _ _ _ _ _ _ _ _ _ _ _ _ _ _ _ _ _ _ _ _ _ _ _ _ _ _ _ _ _ _ _ _ _ _ _ _ _ _ _ _ _ _ _ _ _ _ _ _ _ _ _ _ _ _ _ _ _ _ _ _ _ _ _ _ _ _ _ _ _ _ _ _ _ _ _ _ _ _ _ _ _ _ _ _ _ _ _ _ _ _ _ _ _ _ _ _ _ _ _ _ _ _ _ _ _ _ _ _ _ _ _ _ _ _ _ _ _ _ _ _ _ _ _ _ _ _ _ _ _ _ _ _ _ _ _ _ _ _ _ _ _ _ _ _ _ _ _ _ _ _ _ _ _ _ _ _ _ _ _ _ _ _ _ _ _ _ _ _ _ _ _ _ _ _ _ _ _ _ _ _ _ _ _ _ _ _ _ _ _ _ _ _ _ _ _ _ _ _ _ _ _ _ _ _ _ _ _ _ _ _ _ _ _ _ _ _ _ _ _ _ _ _ _ _ _ _ _ _ _ _ _ _ _ _ _ _ _ _ _ _ _ _ _ _ _ _ _ _ _ _ _ _ _ _ _ _ _ _ _ _ _ _ _ _ _ _ _ _ _ _ _ _ _ _ _ _ _ _ _ _ _ _ _ _ _ _ _ _ _ _ _ _ _ _ _ _ _ _ _ _ _ _ _ _ _ _ _ _ _ _ _ _ _ _ _ _ _ _ _ _ _ _ _ _ _ _ _ _ _ _ _ _ _ _ _ _ _ _ _ _ _ _ _ _ _ _ _ _ _ _ _ _ _ _ _ _ _ _ _ _ _ _ _ _ _ _ _ _ _ _ _ _ _ _ _ _ _ _ _ _ _ _ _ _ _ _ _ _ _ _ _ _ _ _ _ _ _ _ _ _ _ _ _ _ _ _ _ _ _ _ _ _ _ _ _ _ _ _ _ _ _ _ _ _ _ _ _ _ _ _ _ _ _ _ _ _ _ _ _ _ ?_
      intro w1c hcut
      intros
      have hb := hcut
      clear hcut
      replace HF := Lib.hid (HF.out.next hb)
      replace K5 := Lib.hid (K5.out.next hb)
      replace HR := Lib.hid (HR.out.next hb)
      replace HL := Lib.hid (HL.out.next hb)
      replace HB := Lib.hid (below_step HB.out hb)
      replace HBI := Lib.hid (below_step HBI.out hb)
      clear hb
      repeat (first | go_values | go_skip | go_guarded | go_step | go_upon)
      go_roundw
      case rel => exact ⟨j + 1, hlt, by go_num, by rw [HE2.out], HBI.out⟩
      case measure => simp [intOf]; omega
    · obtain rfl : j = ow.length + 1 := by omega
      rw [show min (ow.length + 1) ow.length = ow.length by omega, ← HUN.out]
      repeat (first | go_values | go_skip | go_guarded | go_step | go_upon)
      exact HKK.out _ (HBI.out) _ _ _ _ _ _ _ _ _ _ _ _ _ _ _ _ _ _ _ _ _ _ _ _ _ _ _ _ _ _ _ _ _ _ _ _ _ _ _ _ _ _ _ _ _ _ _ _ _ _ _ _ _ _
end Go.Proofs.YtdhngjjfoddnkaaGreatDoor.lawBreaks
namespace Go.Proofs.YtdhngjjfoddnkaaGreatDoor.lawBreaks
open Go Go.RowKit Go.Proofs.YtdhngjjfoddnkaaGreatDoor
set_option linter.unusedVariables false
set_option linter.unusedSimpArgs false

attribute [local irreducible] wpQuiet in
set_option maxHeartbeats 4000000 in
set_option maxRecDepth 100000 in
theorem q4 (w wr : World) (f : Fc) (S : Value) (HV : Hid (validF f = true)) (l : List UInt8) (HT : Hid (vText l = true)) (HMX : Hid (MaxW w)) (HSP : Hid (SpT w)) (g5 : Nat) (ws : List (List UInt8)) (HWE : Hid (ws = words l)) (m : Int) (hm0 : 0 ≤ m ∧ m ≤ 4000) (gl : List Int) (c1 : Int) (bl : List Int) (low many short : Int) (HO : Hid (BrV f ws m gl c1 bl low many short)) (Aw : Option Addr) (cw : Nat) (Ab : Option Addr) (nb cb : Nat) (b : List Int) (HNB : Hid (b.length = nb)) (hnb : nb ≤ 3000) (HSB : Hid (SlE u8 w Ab b)) (HYB : Hid (Byt b)) (HF : Hid (HasF wr f S)) (K5 : Hid (Blk wr g5 28 (fcV f S))) (HB : Hid (Below w.heap.size w wr))
    (u0 u2 u3 u4 u7 u8 u9 u10 u11 u12 u13 u14 u15 u16 u17 u18 u19 u20 u21 u22 u23 u24 u25 u27 u28 u29 u30 u31 u32 u33 u34 u35 u36 u37 u38 u39 u40 u41 u42 u43 u44 u45 u46 u47 u48 u49 u50 u51 u52 u53 u54 u55 u56 u57 u58 u59 u60 u61 u62 u63 u64 u65 u66 u67 u68 u69 u70 u71 u72 u73 u74 u75 u76 u77 u78 u79 u80 u81 u82 u83 u84 u85 u86 u87 u88 u89 u90 u91 u92 u93 u94 u95 u96 u97 u98 u99 u100 u101 u102 u103 u104 u105 u106 u107 u108 u109 u110 u111 u112 u113 u114 u115 u116 u117 u118 u119 u120 u121 u122 u123 u124 u125 u126 u127 u128 u129 u130 u131 u132 u133 u134 u135 u136 u137 u138 u139 u140 u141 u142 u143 u144 u145 u146 u147 u148 u149 u150 u151 u152 u153 u154 u155 u156 u157 u158 u159 u160 u161 u162 u163 u164 u165 u166 u167 u168 u169 u170 u171 u172 u173 u174 u175 u176 u177 u178 u179 u180 u181 u182 u183 u184 u185 u186 u187 u188 u189 u190 u191 u192 u193 u194 u195 u196 u197 u198 u199 u200 u201 u202 u203 u204 u205 u206 u207 u208 u209 u210 u211 u212 u213 u214 u215 u216 u217 u218 u219 u220 u221 u222 u223 u224 u225 u226 u227 u228 u229 u230 u231 u232 u233 u234 u235 u236 u237 u238 u239 u240 u241 u242 u243 u244 u245 u246 u247 u248 u249 u250 u251 u252 u253 u254 u255 u256 u257 u258 u259 u260 u261 u262 u263 u264 u265 u266 u267 u268 u269 u270 u271 u272 u273 u274 u275 u276 u277 u278 u279 u280 u281 u282 u283 u284 u285 u286 u287 u288 u289 u290 u291 u292 u293 u294 u295 u296 u297 u298 u299 u300 u301 u302 u303 u304 u305 u306 u307 u308 u309 u310 u311 u312 u313 u314 u315 u316 u317 u318 u319 u320 u321 u322 u323 u324 u325 u326 u327 u328 u329 u330 u331 u332 u333 u334 u335 u336 u337 u338 u339 u340 u341 u342 u343 u344 u345 u346 u347 u348 u349 u350 u351 u352 u353 u354 u355 u356 u357 u358 u359 u360 u361 u362 u363 u364 u365 u366 u367 u368 u369 u370 u371 u372 u373 u374 u375 u376 u377 u378 u379 u380 u381 u382 u383 u384 u385 u386 u387 u388 u389 u390 u391 u392 u393 u394 u395 u396 u397 u398 u399 u400 u401 u402 u403 u404 u405 u406 u407 u408 u409 u410 u411 u412 u413 u414 u415 u416 u417 u418 u419 u420 u421 u422 u423 u424 u425 u426 u427 u428 u429 u430 u431 u432 u433 u434 u435 u436 u437 u438 u439 u440 u441 u442 u443 u444 u445 u446 u447 u448 u449 u450 u451 u452 u453 u454 u455 u456 u457 u458 u459 u460 u461 u462 u463 u464 u465 u466 u467 u468 u469 u470 u471 u472 u473 u474 u475 u476 u477 u478 u479 : Value) :
    Code.wp Tryz.prog (partOf Tryz.f3 [true, true, true, true, true, true, true, true, true, true, true, true, true, true, true, true, true]) (bodyPost Tryz.prog Tryz.f3 fun e w' => e = .returned (.bool true) ∧ Below w.heap.size w w')
      ⟨#[u0, .slice Ab nb cb, u2, u3, u4, .pointer (some ⟨g5, 0, none⟩), .string ⟨l.toArray⟩, u7, u8, u9, u10, u11, u12, u13, u14, u15, u16, u17, u18, u19, u20, u21, u22, u23, u24, u25, .slice Aw ws.length cw, u27, u28, u29, u30, u31, u32, u33, u34, u35, u36, u37, u38, u39, u40, u41, u42, u43, u44, u45, u46, u47, u48, u49, u50, u51, u52, u53, u54, u55, u56, u57, u58, u59, u60, u61, u62, u63, u64, u65, u66, u67, u68, u69, u70, u71, u72, u73, u74, u75, u76, u77, u78, u79, u80, u81, u82, u83, u84, u85, u86, u87, u88, u89, u90, u91, u92, u93, u94, u95, u96, u97, u98, u99, u100, u101, u102, u103, u104, u105, u106, u107, u108, u109, u110, u111, u112, u113, u114, u115, u116, u117, u118, u119, u120, u121, u122, u123, u124, u125, u126, u127, u128, u129, u130, u131, u132, u133, u134, u135, u136, u137, u138, u139, u140, u141, u142, u143, u144, u145, u146, u147, u148, u149, u150, u151, u152, u153, u154, u155, u156, u157, u158, u159, u160, u161, u162, u163, u164, u165, u166, u167, u168, u169, u170, u171, u172, u173, u174, u175, u176, u177, u178, u179, u180, u181, u182, u183, u184, u185, u186, u187, u188, u189, u190, u191, u192, u193, u194, u195, u196, u197, u198, u199, u200, u201, u202, u203, u204, u205, u206, u207, u208, u209, u210, u211, u212, u213, u214, u215, u216, u217, u218, u219, u220, u221, u222, u223, u224, u225, u226, u227, u228, u229, u230, u231, u232, u233, u234, u235, u236, u237, u238, u239, u240, u241, u242, u243, u244, u245, u246, u247, u248, u249, u250, u251, u252, u253, u254, u255, u256, u257, u258, u259, u260, u261, u262, u263, u264, u265, u266, u267, u268, u269, u270, u271, u272, u273, u274, u275, u276, u277, u278, u279, u280, u281, u282, u283, u284, u285, u286, u287, u288, u289, u290, u291, u292, u293, u294, u295, u296, u297, u298, u299, u300, u301, u302, u303, u304, u305, u306, u307, u308, u309, u310, u311, u312, u313, u314, u315, u316, u317, u318, u319, u320, u321, u322, u323, u324, u325, u326, u327, u328, u329, u330, u331, u332, u333, u334, u335, u336, u337, u338, u339, u340, u341, u342, u343, u344, u345, u346, u347, u348, u349, u350, u351, u352, u353, u354, u355, u356, u357, u358, u359, u360, u361, u362, u363, u364, u365, u366, u367, u368, u369, u370, u371, u372, u373, u374, u375, u376, u377, u378, u379, u380, u381, u382, u383, u384, u385, u386, u387, u388, u389, u390, u391, u392, u393, u394, u395, u396, u397, u398, u399, u400, u401, u402, u403, u404, u405, u406, u407, u408, u409, u410, u411, u412, u413, u414, u415, u416, u417, u418, u419, u420, u421, u422, u423, u424, u425, u426, u427, u428, u429, u430, u431, u432, u433, u434, u435, u436, u437, u438, u439, u440, u441, u442, u443, u444, u445, u446, u447, u448, u449, u450, u451, u452, u453, u454, u455, u456, u457, u458, u459, u460, u461, u462, u463, u464, u465, u466, u467, u468, u469, u470, u471, u472, u473, u474, u475, u476, u477, u478, u479], []⟩ wr := by
  conv => arg 2; whnf
  have hlenF := fcV_length HF.out.1 S
  have hmany := HO.out.wW.many
  repeat (first | go_values | go_skip | go_guarded | go_step | go_upon)
  go_at_call 7
  refine (at_any Ab nb cb b 1 4 wr HNB.out (by unfold maxLen; omega) (HSB.out.next HB.out) HYB.out (by omega) (by omega)).mono ?_
  rintro e _ ⟨⟨x, rfl, x0, x1⟩, rfl⟩
  dsimp only
  have e1 : IntKind.i64.wrap (1 + x) = 1 + x := IntWalk.i64_in _ (by omega)
  repeat ((with_reducible fail_if_success (show Code.wp _ (Code.seq (Code.region 57 _ _) _) _ _ _)); first | go_values | go_skip | go_guarded | go_step | go_upon)
  obtain ⟨k, hk⟩ : ∃ k, k = 1 + x := ⟨_, rfl⟩
  rw [← hk]
  have hk0 : 1 ≤ k ∧ k ≤ 60 := by omega
  clear hk e1
  repeat ((with_reducible fail_if_success (show wpList _ _ _ (⟨some 412, _, _, _, _, _⟩ :: _) _ _)); first | go_values | go_skip | go_guarded | go_step | go_upon)
  refine wpList_val (by kernel_rfl) (.agg (fcV f S).toArray) _ (exec_load_row 28 (.tmp 5) rfl g5 (by kernel_rfl) 28 (fcV f S).toArray _ _ K5.out Tryz.underlying28 rfl (by rw [List.size_toArray, hlenF]; exact szFcI)) ?_
  repeat (first | go_values | go_skip | go_guarded | go_step | go_upon)
  go_at_call 24
  refine (least_implL f S l k wr HF.out HV.out HT.out hk0 (HMX.out.next HB.out) (HSP.out.next HB.out)).mono ?_
  rintro e w1 ⟨r, ⟨rfl, hr1⟩, hb⟩
  have HR1 := Lib.hid hr1
  clear hr1
  dsimp only
  replace HF := Lib.hid (HF.out.next hb)
  replace K5 := Lib.hid (K5.out.next hb)
  replace HB := Lib.hid (below_step HB.out hb)
  clear hb
  repeat ((with_reducible fail_if_success (show wpList _ _ _ (⟨some 419, _, _, _, _, _⟩ :: _) _ _)); first | go_values | go_skip | go_guarded | go_step | go_upon)
  refine wpList_val (by kernel_rfl) (.agg (fcV f S).toArray) _ (exec_load_row 28 (.tmp 5) rfl g5 (by kernel_rfl) 28 (fcV f S).toArray _ _ K5.out Tryz.underlying28 rfl (by rw [List.size_toArray, hlenF]; exact szFcI)) ?_
  repeat (first | go_values | go_skip | go_guarded | go_step | go_upon)
  go_at_call 25
  refine (least_specL f S l k w1 HF.out HV.out HT.out hk0).mono ?_
  rintro e w2 ⟨r2, ⟨rfl, hr2⟩, hb⟩
  obtain rfl := HR1.out.same hr2
  clear hr2
  dsimp only
  replace HF := Lib.hid (HF.out.next hb)
  replace K5 := Lib.hid (K5.out.next hb)
  replace HB := Lib.hid (below_step HB.out hb)
  clear hb
  have hwe := HWE.out
  have hlt := least_facts HO.out.vF (ws_words HT.out) hk0.1 (by rw [← lineW_words]; exact (lineW_range HO.out.vF HT.out).2) HR1.out
  rw [← hwe] at hlt
  obtain ⟨r0, r1, r2⟩ := hlt
  have hok := HR1.out.2.1
  have hno := HR1.out.2.2
  obtain ⟨en, hen⟩ : ∃ en, en = (fewOut f l r).1 := ⟨_, rfl⟩
  have hfe : fewOut f l r = (en, 0) ∧ en ≤ k := by
    have hfa := few_at HV.out HT.out (show 0 ≤ r ∧ r ≤ 4000 by omega)
    rw [hok.1, if_pos rfl] at hfa
    have := hok.2
    rw [hen, hfa]
    exact ⟨rfl, by dsimp only; omega⟩
  have HFE := Lib.hid (fun (w' : World) (h : HasF w' f S) (hx : MaxW w') (hp : SpT w') => (show Calls Tryz.prog 14 #[.agg (fcV f S).toArray, .string ⟨l.toArray⟩, .int .i64 r] w' (fun e w1 => e = .returned (.tuple #[.int .i64 en, .int .i64 0]) ∧ Below w'.heap.size w' w1) by have := few_implL f S l r w' h HV.out HT.out (by omega) hx hp; rw [hfe.1] at this; exact this))
  have hek := hfe.2
  have q1 : ¬ k < en := by omega
  have b1 : (r != r) = false := by simp
  clear hen hfe hwe hok
  by_cases hz : r = 0
  · have hzb : (r == 0) = true := by rw [hz]; rfl
    have hwb : ((ws.length : Int) == 0) = true := by rw [r2.1 hz]; rfl
    have HZ := Lib.hid hz
    clear hz r2 hno r0 r1
    repeat ((with_reducible fail_if_success (show wpList _ _ _ (⟨some 446, _, _, _, _, _⟩ :: _) _ _)); first | go_values | go_skip | go_guarded | go_step | go_upon)
    refine wpList_val (by kernel_rfl) (.agg (fcV f S).toArray) _ (exec_load_row 28 (.tmp 5) rfl g5 (by kernel_rfl) 28 (fcV f S).toArray _ _ K5.out Tryz.underlying28 rfl (by rw [List.size_toArray, hlenF]; exact szFcI)) ?_
    repeat (first | go_values | go_skip | go_guarded | go_step | go_upon)
    go_at_call 14
    refine (HFE.out w2 HF.out (HMX.out.next HB.out) (HSP.out.next HB.out)).mono ?_
    rintro e w3 ⟨rfl, hb⟩
    dsimp only
    replace HF := Lib.hid (HF.out.next hb)
    replace K5 := Lib.hid (K5.out.next hb)
    replace HB := Lib.hid (below_step HB.out hb)
    clear hb
    repeat (first | go_values | go_skip | go_guarded | go_step | go_upon)
    go_ret
    exact ⟨rfl, HB.out⟩
  · have hzb : (r == 0) = false := by rw [beq_eq_false_iff_ne]; exact hz
    have hwb : ((ws.length : Int) == 0) = false := by
      rw [beq_eq_false_iff_ne]
      intro e
      exact hz (r2.2 (List.eq_nil_of_length_eq_zero (by omega)))
    have e2 : IntKind.i64.wrap (r - 1) = r - 1 := IntWalk.i64_in _ (by omega)
    obtain ⟨fu, fc, hfu⟩ : ∃ fu fc, (fu, fc) = fewOut f l (r - 1) := ⟨_, _, rfl⟩
    have HFC := Lib.hid (show fc = 6 ∨ (fc = 0 ∧ k < fu) by
      have hfa := few_at HV.out HT.out (show 0 ≤ r - 1 ∧ r - 1 ≤ 4000 by omega)
      rw [← hfu] at hfa
      have hn := hno (r - 1) (by omega) (by omega)
      cases hf : fits f (words l) (r - 1)
      · rw [hf] at hfa; injection hfa with a1 a2; exact .inl a2
      · rw [hf, if_pos rfl] at hfa; injection hfa with a1 a2
        refine .inr ⟨a2, ?_⟩
        rcases Int.lt_or_le k fu with h | h
        · exact h
        · exact absurd ⟨hf, by omega⟩ hn)
    have HFU := Lib.hid (fun (w' : World) (h : HasF w' f S) (hx : MaxW w') (hp : SpT w') => (show Calls Tryz.prog 14 #[.agg (fcV f S).toArray, .string ⟨l.toArray⟩, .int .i64 (r - 1)] w' (fun e w1 => e = .returned (.tuple #[.int .i64 fu, .int .i64 fc]) ∧ Below w'.heap.size w' w1) by have := few_implL f S l (r - 1) w' h HV.out HT.out (by omega) hx hp; rw [← hfu] at this; exact this))
    clear hfu hno hz r2
    repeat ((with_reducible fail_if_success (show wpList _ _ _ (⟨some 446, _, _, _, _, _⟩ :: _) _ _)); first | go_values | go_skip | go_guarded | go_step | go_upon)
    refine wpList_val (by kernel_rfl) (.agg (fcV f S).toArray) _ (exec_load_row 28 (.tmp 5) rfl g5 (by kernel_rfl) 28 (fcV f S).toArray _ _ K5.out Tryz.underlying28 rfl (by rw [List.size_toArray, hlenF]; exact szFcI)) ?_
    repeat (first | go_values | go_skip | go_guarded | go_step | go_upon)
    go_at_call 14
    refine (HFE.out w2 HF.out (HMX.out.next HB.out) (HSP.out.next HB.out)).mono ?_
    rintro e w4 ⟨rfl, hb⟩
    dsimp only
    replace HF := Lib.hid (HF.out.next hb)
    replace K5 := Lib.hid (K5.out.next hb)
    replace HB := Lib.hid (below_step HB.out hb)
    clear hb
    repeat ((with_reducible fail_if_success (show wpList _ _ _ (⟨some 462, _, _, _, _, _⟩ :: _) _ _)); first | go_values | go_skip | go_guarded | go_step | go_upon)
    refine wpList_val (by kernel_rfl) (.agg (fcV f S).toArray) _ (exec_load_row 28 (.tmp 5) rfl g5 (by kernel_rfl) 28 (fcV f S).toArray _ _ K5.out Tryz.underlying28 rfl (by rw [List.size_toArray, hlenF]; exact szFcI)) ?_
    repeat (first | go_values | go_skip | go_guarded | go_step | go_upon)
    go_at_call 14
    refine (HFU.out w4 HF.out (HMX.out.next HB.out) (HSP.out.next HB.out)).mono ?_
    rintro e w5 ⟨rfl, hb⟩
    dsimp only
    replace HF := Lib.hid (HF.out.next hb)
    replace K5 := Lib.hid (K5.out.next hb)
    replace HB := Lib.hid (below_step HB.out hb)
    clear hb
    clear HFU HFE
    rcases HFC.out with hc | ⟨hc, hc2⟩
    · subst hc
      repeat (first | go_values | go_skip | go_guarded | go_step | go_upon)
      go_ret
      exact ⟨rfl, HB.out⟩
    · subst hc
      repeat (first | go_values | go_skip | go_guarded | go_step | go_upon)
      go_ret
      exact ⟨rfl, HB.out⟩
end Go.Proofs.YtdhngjjfoddnkaaGreatDoor.lawBreaks
namespace Go.Proofs.YtdhngjjfoddnkaaGreatDoor.lawBreaks
open Go Go.RowKit Go.Proofs.YtdhngjjfoddnkaaGreatDoor
set_option linter.unusedVariables false
set_option linter.unusedSimpArgs false

attribute [local irreducible] wpQuiet in
set_option maxHeartbeats 4000000 in
set_option maxRecDepth 100000 in
theorem q3 (w wr : World) (f : Fc) (S : Value) (HV : Hid (validF f = true)) (l : List UInt8) (HT : Hid (vText l = true)) (HMX : Hid (MaxW w)) (HSP : Hid (SpT w)) (g5 : Nat) (ws : List (List UInt8)) (HWE : Hid (ws = words l)) (m : Int) (hm0 : 0 ≤ m ∧ m ≤ 4000) (gl : List Int) (c1 : Int) (bl : List Int) (low many short : Int) (HO : Hid (BrV f ws m gl c1 bl low many short)) (Aw : Option Addr) (cw : Nat) (Ab : Option Addr) (nb cb : Nat) (b : List Int) (HNB : Hid (b.length = nb)) (hnb : nb ≤ 3000) (HSB : Hid (SlE u8 w Ab b)) (HYB : Hid (Byt b)) (A2 : Option Addr) (d2 : Nat) (HF : Hid (HasF wr f S)) (K5 : Hid (Blk wr g5 28 (fcV f S))) (HB : Hid (Below w.heap.size w wr))
    (u0 u2 u3 u4 u8 u11 u12 u13 u14 u15 u16 u17 u18 u19 u20 u21 u22 u23 u25 u27 u28 u29 u30 u31 u32 u33 u34 u35 u36 u37 u38 u39 u40 u41 u42 u43 u44 u45 u46 u47 u48 u49 u50 u51 u52 u53 u54 u55 u56 u57 u58 u59 u60 u61 u62 u63 u64 u65 u66 u67 u68 u69 u70 u71 u72 u73 u74 u75 u76 u77 u78 u79 u80 u81 u82 u83 u84 u85 u86 u87 u88 u89 u90 u91 u92 u93 u94 u95 u96 u97 u98 u99 u100 u101 u102 u103 u104 u105 u106 u107 u108 u109 u110 u111 u112 u113 u114 u115 u116 u117 u118 u119 u120 u121 u122 u123 u124 u125 u126 u127 u128 u129 u130 u131 u132 u133 u134 u135 u136 u137 u138 u139 u140 u141 u142 u143 u144 u145 u146 u147 u148 u149 u150 u151 u152 u153 u154 u155 u156 u157 u158 u159 u160 u161 u162 u163 u164 u165 u166 u167 u168 u169 u170 u171 u172 u173 u174 u175 u176 u177 u178 u179 u180 u181 u182 u183 u184 u185 u186 u187 u188 u189 u190 u191 u192 u193 u194 u195 u196 u197 u198 u199 u200 u201 u202 u203 u204 u205 u206 u207 u208 u209 u210 u211 u212 u213 u214 u215 u216 u217 u218 u219 u220 u221 u222 u223 u224 u225 u226 u227 u228 u229 u230 u231 u232 u233 u234 u235 u236 u237 u238 u239 u240 u241 u242 u243 u244 u245 u246 u247 u248 u249 u250 u251 u252 u253 u254 u255 u256 u257 u258 u259 u260 u261 u262 u263 u264 u265 u266 u267 u268 u269 u270 u271 u272 u273 u274 u275 u276 u277 u278 u279 u280 u281 u282 u283 u284 u285 u286 u287 u288 u289 u290 u291 u292 u293 u294 u295 u296 u297 u298 u299 u300 u301 u302 u303 u304 u305 u306 u307 u308 u309 u310 u311 u312 u313 u314 u315 u316 u317 u318 u319 u320 u321 u322 u323 u324 u325 u326 u327 u328 u329 u330 u331 u332 u333 u334 u335 u336 u337 u338 u339 u340 u341 u342 u343 u344 u345 u346 u347 u348 u349 u350 u351 u352 u353 u354 u355 u356 u357 u358 u359 u360 u361 u362 u363 u364 u365 u366 u367 u368 u369 u370 u371 u372 u373 u374 u375 u376 u377 u378 u379 u380 u381 u382 u383 u384 u385 u386 u387 u388 u389 u390 u391 u392 u393 u394 u395 u396 u397 u398 u399 u400 u401 u402 u403 u404 u405 u406 u407 u408 u409 u410 u411 u412 u413 u414 u415 u416 u417 u418 u419 u420 u421 u422 u423 u424 u425 u426 u427 u428 u429 u430 u431 u432 u433 u434 u435 u436 u437 u438 u439 u440 u441 u442 u443 u444 u445 u446 u447 u448 u449 u450 u451 u452 u453 u454 u455 u456 u457 u458 u459 u460 u461 u462 u463 u464 u465 u466 u467 u468 u469 u470 u471 u472 u473 u474 u475 u476 u477 u478 u479 : Value) :
    Code.wp Tryz.prog (partOf Tryz.f3 [true, true, true, true, true, true, true, true, true, true, true, true, true, true, true, true]) (bodyPost Tryz.prog Tryz.f3 fun e w' => e = .returned (.bool true) ∧ Below w.heap.size w w')
      ⟨#[u0, .slice Ab nb cb, u2, u3, u4, .pointer (some ⟨g5, 0, none⟩), .string ⟨l.toArray⟩, .int .i64 m, u8, .int .i64 c1, .slice A2 gl.length d2, u11, u12, u13, u14, u15, u16, u17, u18, u19, u20, u21, u22, u23, .int .i64 short, u25, .slice Aw ws.length cw, u27, u28, u29, u30, u31, u32, u33, u34, u35, u36, u37, u38, u39, u40, u41, u42, u43, u44, u45, u46, u47, u48, u49, u50, u51, u52, u53, u54, u55, u56, u57, u58, u59, u60, u61, u62, u63, u64, u65, u66, u67, u68, u69, u70, u71, u72, u73, u74, u75, u76, u77, u78, u79, u80, u81, u82, u83, u84, u85, u86, u87, u88, u89, u90, u91, u92, u93, u94, u95, u96, u97, u98, u99, u100, u101, u102, u103, u104, u105, u106, u107, u108, u109, u110, u111, u112, u113, u114, u115, u116, u117, u118, u119, u120, u121, u122, u123, u124, u125, u126, u127, u128, u129, u130, u131, u132, u133, u134, u135, u136, u137, u138, u139, u140, u141, u142, u143, u144, u145, u146, u147, u148, u149, u150, u151, u152, u153, u154, u155, u156, u157, u158, u159, u160, u161, u162, u163, u164, u165, u166, u167, u168, u169, u170, u171, u172, u173, u174, u175, u176, u177, u178, u179, u180, u181, u182, u183, u184, u185, u186, u187, u188, u189, u190, u191, u192, u193, u194, u195, u196, u197, u198, u199, u200, u201, u202, u203, u204, u205, u206, u207, u208, u209, u210, u211, u212, u213, u214, u215, u216, u217, u218, u219, u220, u221, u222, u223, u224, u225, u226, u227, u228, u229, u230, u231, u232, u233, u234, u235, u236, u237, u238, u239, u240, u241, u242, u243, u244, u245, u246, u247, u248, u249, u250, u251, u252, u253, u254, u255, u256, u257, u258, u259, u260, u261, u262, u263, u264, u265, u266, u267, u268, u269, u270, u271, u272, u273, u274, u275, u276, u277, u278, u279, u280, u281, u282, u283, u284, u285, u286, u287, u288, u289, u290, u291, u292, u293, u294, u295, u296, u297, u298, u299, u300, u301, u302, u303, u304, u305, u306, u307, u308, u309, u310, u311, u312, u313, u314, u315, u316, u317, u318, u319, u320, u321, u322, u323, u324, u325, u326, u327, u328, u329, u330, u331, u332, u333, u334, u335, u336, u337, u338, u339, u340, u341, u342, u343, u344, u345, u346, u347, u348, u349, u350, u351, u352, u353, u354, u355, u356, u357, u358, u359, u360, u361, u362, u363, u364, u365, u366, u367, u368, u369, u370, u371, u372, u373, u374, u375, u376, u377, u378, u379, u380, u381, u382, u383, u384, u385, u386, u387, u388, u389, u390, u391, u392, u393, u394, u395, u396, u397, u398, u399, u400, u401, u402, u403, u404, u405, u406, u407, u408, u409, u410, u411, u412, u413, u414, u415, u416, u417, u418, u419, u420, u421, u422, u423, u424, u425, u426, u427, u428, u429, u430, u431, u432, u433, u434, u435, u436, u437, u438, u439, u440, u441, u442, u443, u444, u445, u446, u447, u448, u449, u450, u451, u452, u453, u454, u455, u456, u457, u458, u459, u460, u461, u462, u463, u464, u465, u466, u467, u468, u469, u470, u471, u472, u473, u474, u475, u476, u477, u478, u479], []⟩ wr := by
  conv => arg 2; whnf
  have hgl := (HO.out.lens hm0.2).1
  have hsh : c1 = 0 → IntKind.i64.wrap ((gl.length : Int) + 1) = short := by
    intro h
    rcases HO.out.cs with ⟨_, _, _, _, _, e⟩ | ⟨_, e, _⟩
    · rw [e]; exact IntWalk.i64_in _ (by omega)
    · omega
  have b1 : (short != short) = false := by simp
  rcases HO.out.code with hc | hc
  · subst hc
    have e1 := hsh rfl
    clear hsh
    repeat ((with_reducible fail_if_success (show Code.wp _ (Code.seq (Code.region 56 _ _) _) _ _ _)); first | go_values | go_skip | go_guarded | go_step | go_upon)
    exact q4 w _ f S HV l HT HMX HSP g5 ws HWE m hm0 gl 0 bl low many short HO Aw cw Ab nb cb b HNB hnb HSB HYB HF K5 HB _ _ _ _ _ _ _ _ _ _ _ _ _ _ _ _ _ _ _ _ _ _ _ _ _ _ _ _ _ _ _ _ _ _ _ _ _ _ _ _ _ _ _ _ _ _ _ _ _ _ _ _ _ _ _ _ _ _ _ _ _ _ _ _ _ _ _ _ _ _ _ _ _ _ _ _ _ _ _ _ _ _ _ _ _ _ _ _ _ _ _ _ _ _ _ _ _ _ _ _ _ _ _ _ _ _ _ _ _ _ _ _ _ _ _ _ _ _ _ _ _ _ _ _ _ _ _ _ _ _ _ _ _ _ _ _ _ _ _ _ _ _ _ _ _ _ _ _ _ _ _ _ _ _ _ _ _ _ _ _ _ _ _ _ _ _ _ _ _ _ _ _ _ _ _ _ _ _ _ _ _ _ _ _ _ _ _ _ _ _ _ _ _ _ _ _ _ _ _ _ _ _ _ _ _ _ _ _ _ _ _ _ _ _ _ _ _ _ _ _ _ _ _ _ _ _ _ _ _ _ _ _ _ _ _ _ _ _ _ _ _ _ _ _ _ _ _ _ _ _ _ _ _ _ _ _ _ _ _ _ _ _ _ _ _ _ _ _ _ _ _ _ _ _ _ _ _ _ _ _ _ _ _ _ _ _ _ _ _ _ _ _ _ _ _ _ _ _ _ _ _ _ _ _ _ _ _ _ _ _ _ _ _ _ _ _ _ _ _ _ _ _ _ _ _ _ _ _ _ _ _ _ _ _ _ _ _ _ _ _ _ _ _ _ _ _ _ _ _ _ _ _ _ _ _ _ _ _ _ _ _ _ _ _ _ _ _ _ _ _ _ _ _ _ _ _ _ _ _ _ _ _ _ _ _ _ _ _ _ _ _ _ _ _ _ _ _ _ _ _ _ _ _ _ _ _ _ _ _ _ _ _ _ _ _ _ _ _ _ _ _ _ _ _ _ _ _ _ _ _ _ _ _ _ _ _ _ _ _ _ _ _ _ _ _ _ _ _ _ _ _ _ _ _ _ _ _ _ _ _ _ _ _ _ _ _ _ _ _ _ _ _ _ _ _ _
  · subst hc
    clear hsh
    repeat ((with_reducible fail_if_success (show Code.wp _ (Code.seq (Code.region 56 _ _) _) _ _ _)); first | go_values | go_skip | go_guarded | go_step | go_upon)
    exact q4 w _ f S HV l HT HMX HSP g5 ws HWE m hm0 gl 6 bl low many short HO Aw cw Ab nb cb b HNB hnb HSB HYB HF K5 HB _ _ _ _ _ _ _ _ _ _ _ _ _ _ _ _ _ _ _ _ _ _ _ _ _ _ _ _ _ _ _ _ _ _ _ _ _ _ _ _ _ _ _ _ _ _ _ _ _ _ _ _ _ _ _ _ _ _ _ _ _ _ _ _ _ _ _ _ _ _ _ _ _ _ _ _ _ _ _ _ _ _ _ _ _ _ _ _ _ _ _ _ _ _ _ _ _ _ _ _ _ _ _ _ _ _ _ _ _ _ _ _ _ _ _ _ _ _ _ _ _ _ _ _ _ _ _ _ _ _ _ _ _ _ _ _ _ _ _ _ _ _ _ _ _ _ _ _ _ _ _ _ _ _ _ _ _ _ _ _ _ _ _ _ _ _ _ _ _ _ _ _ _ _ _ _ _ _ _ _ _ _ _ _ _ _ _ _ _ _ _ _ _ _ _ _ _ _ _ _ _ _ _ _ _ _ _ _ _ _ _ _ _ _ _ _ _ _ _ _ _ _ _ _ _ _ _ _ _ _ _ _ _ _ _ _ _ _ _ _ _ _ _ _ _ _ _ _ _ _ _ _ _ _ _ _ _ _ _ _ _ _ _ _ _ _ _ _ _ _ _ _ _ _ _ _ _ _ _ _ _ _ _ _ _ _ _ _ _ _ _ _ _ _ _ _ _ _ _ _ _ _ _ _ _ _ _ _ _ _ _ _ _ _ _ _ _ _ _ _ _ _ _ _ _ _ _ _ _ _ _ _ _ _ _ _ _ _ _ _ _ _ _ _ _ _ _ _ _ _ _ _ _ _ _ _ _ _ _ _ _ _ _ _ _ _ _ _ _ _ _ _ _ _ _ _ _ _ _ _ _ _ _ _ _ _ _ _ _ _ _ _ _ _ _ _ _ _ _ _ _ _ _ _ _ _ _ _ _ _ _ _ _ _ _ _ _ _ _ _ _ _ _ _ _ _ _ _ _ _ _ _ _ _ _ _ _ _ _ _ _ _ _ _ _ _ _ _ _ _ _ _ _ _ _ _ _ _ _ _ _ _ _ _ _ _ _ _ _ _ _ _ _ _ _ _
end Go.Proofs.YtdhngjjfoddnkaaGreatDoor.lawBreaks
