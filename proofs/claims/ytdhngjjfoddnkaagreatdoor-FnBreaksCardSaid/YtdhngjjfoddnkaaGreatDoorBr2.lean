/- The law of breaks: a piece of its walk. -/
import Derived.Test.YtdhngjjfoddnkaaGreatDoorGU
import Derived.Deep.CutRange
import Derived.BigRegion
import Derived.Test.YtdhngjjfoddnkaaGreatDoorBr3


namespace Go.Proofs.YtdhngjjfoddnkaaGreatDoor.lawBreaks
open Go Go.RowKit Go.Proofs.YtdhngjjfoddnkaaGreatDoor
set_option linter.unusedVariables false
set_option linter.unusedSimpArgs false

attribute [local irreducible] wpQuiet in
set_option maxHeartbeats 4000000 in
set_option maxRecDepth 100000 in
theorem qb (w wr : World) (f : Fc) (S : Value) (HV : Hid (validF f = true)) (l : List UInt8) (HT : Hid (vText l = true)) (HMX : Hid (MaxW w)) (HSP : Hid (SpT w)) (g5 : Nat) (ws : List (List UInt8)) (HWE : Hid (ws = words l)) (m : Int) (hm0 : 0 ≤ m ∧ m ≤ 4000) (gl : List Int) (c1 : Int) (bl : List Int) (low many short : Int) (HO : Hid (BrV f ws m gl c1 bl low many short)) (Aw : Option Addr) (cw : Nat) (Ab : Option Addr) (nb cb : Nat) (b : List Int) (HNB : Hid (b.length = nb)) (hnb : nb ≤ 3000) (HSB : Hid (SlE u8 w Ab b)) (HYB : Hid (Byt b)) (A2 : Option Addr) (d2 : Nat) (A4 : Option Addr) (d4 : Nat) (A1 : Option Addr) (d1 : Nat) (A3 : Option Addr) (d3 : Nat) (HF : Hid (HasF wr f S)) (K5 : Hid (Blk wr g5 28 (fcV f S))) (HBL : Hid (SlE i64 wr A4 bl)) (HG1 : Hid (SlE i64 wr A1 gl)) (HG2 : Hid (SlE i64 wr A2 gl)) (HG3 : Hid (SlE i64 wr A3 bl)) (HB : Hid (Below w.heap.size w wr))
    (u0 u2 u3 u4 u28 u29 u30 u31 u32 u33 u34 u35 u36 u37 u38 u39 u40 u41 u42 u43 u44 u45 u46 u47 u48 u49 u50 u51 u52 u53 u54 u55 u56 u57 u58 u59 u60 u61 u62 u63 u64 u65 u66 u67 u68 u69 u70 u71 u72 u73 u74 u75 u76 u77 u78 u79 u80 u81 u82 u83 u84 u85 u86 u87 u88 u89 u90 u91 u92 u93 u94 u95 u96 u97 u98 u99 u100 u101 u102 u103 u104 u105 u106 u107 u108 u109 u110 u111 u112 u113 u114 u115 u116 u117 u118 u119 u120 u121 u122 u123 u124 u125 u126 u127 u128 u129 u130 u131 u132 u133 u134 u135 u136 u137 u138 u139 u140 u141 u142 u143 u144 u145 u146 u147 u148 u149 u150 u151 u152 u153 u154 u155 u156 u157 u158 u159 u160 u161 u162 u163 u164 u165 u166 u167 u168 u169 u170 u171 u172 u173 u174 u175 u176 u177 u178 u179 u180 u181 u182 u183 u184 u185 u186 u187 u188 u189 u190 u191 u192 u193 u194 u195 u196 u197 u198 u199 u200 u201 u202 u203 u204 u205 u206 u207 u208 u209 u210 u211 u212 u213 u214 u215 u216 u217 u218 u219 u220 u221 u222 u223 u224 u225 u226 u227 u228 u229 u230 u231 u232 u233 u234 u235 u236 u237 u238 u239 u240 u241 u242 u243 u244 u245 u246 u247 u248 u249 u250 u251 u252 u253 u254 u255 u256 u257 u258 u259 u260 u261 u262 u263 u264 u265 u266 u267 u268 u269 u270 u271 u272 u273 u274 u275 u276 u277 u278 u279 u280 u281 u282 u283 u284 u285 u286 u287 u288 u289 u290 u291 u292 u293 u294 u295 u296 u297 u298 u299 u300 u301 u302 u303 u304 u305 u306 u307 u308 u309 u310 u311 u312 u313 u314 u315 u316 u317 u318 u319 u320 u321 u322 u323 u324 u325 u326 u327 u328 u329 u330 u331 u332 u333 u334 u335 u336 u337 u338 u339 u340 u341 u342 u343 u344 u345 u346 u347 u348 u349 u350 u351 u352 u353 u354 u355 u356 u357 u358 u359 u360 u361 u362 u363 u364 u365 u366 u367 u368 u369 u370 u371 u372 u373 u374 u375 u376 u377 u378 u379 u380 u381 u382 u383 u384 u385 u386 u387 u388 u389 u390 u391 u392 u393 u394 u395 u396 u397 u398 u399 u400 u401 u402 u403 u404 u405 u406 u407 u408 u409 u410 u411 u412 u413 u414 u415 u416 u417 u418 u419 u420 u421 u422 u423 u424 u425 u426 u427 u428 u429 u430 u431 u432 u433 u434 u435 u436 u437 u438 u439 u440 u441 u442 u443 u444 u445 u446 u447 u448 u449 u450 u451 u452 u453 u454 u455 u456 u457 u458 u459 u460 u461 u462 u463 u464 u465 u466 u467 u468 u469 u470 u471 u472 u473 u474 u475 u476 u477 u478 u479 : Value) :
    Code.wp Tryz.prog (partOf Tryz.f3 [true, true, true, true, true, true, true, true, true, true, true, true, true, true]) (bodyPost Tryz.prog Tryz.f3 fun e w' => e = .returned (.bool true) ∧ Below w.heap.size w w')
      ⟨#[u0, .slice Ab nb cb, u2, u3, u4, .pointer (some ⟨g5, 0, none⟩), .string ⟨l.toArray⟩, .int .i64 m, .slice A1 gl.length d1, .int .i64 c1, .slice A2 gl.length d2, .int .i64 c1, .slice A3 bl.length d3, .int .i64 low, .int .i64 c1, .slice A4 bl.length d4, .int .i64 low, .int .i64 c1, .int .i64 many, .int .i64 0, .int .i64 many, .int .i64 0, .int .i64 short, .int .i64 c1, .int .i64 short, .int .i64 c1, .slice Aw ws.length cw, .int .i64 0, u28, u29, u30, u31, u32, u33, u34, u35, u36, u37, u38, u39, u40, u41, u42, u43, u44, u45, u46, u47, u48, u49, u50, u51, u52, u53, u54, u55, u56, u57, u58, u59, u60, u61, u62, u63, u64, u65, u66, u67, u68, u69, u70, u71, u72, u73, u74, u75, u76, u77, u78, u79, u80, u81, u82, u83, u84, u85, u86, u87, u88, u89, u90, u91, u92, u93, u94, u95, u96, u97, u98, u99, u100, u101, u102, u103, u104, u105, u106, u107, u108, u109, u110, u111, u112, u113, u114, u115, u116, u117, u118, u119, u120, u121, u122, u123, u124, u125, u126, u127, u128, u129, u130, u131, u132, u133, u134, u135, u136, u137, u138, u139, u140, u141, u142, u143, u144, u145, u146, u147, u148, u149, u150, u151, u152, u153, u154, u155, u156, u157, u158, u159, u160, u161, u162, u163, u164, u165, u166, u167, u168, u169, u170, u171, u172, u173, u174, u175, u176, u177, u178, u179, u180, u181, u182, u183, u184, u185, u186, u187, u188, u189, u190, u191, u192, u193, u194, u195, u196, u197, u198, u199, u200, u201, u202, u203, u204, u205, u206, u207, u208, u209, u210, u211, u212, u213, u214, u215, u216, u217, u218, u219, u220, u221, u222, u223, u224, u225, u226, u227, u228, u229, u230, u231, u232, u233, u234, u235, u236, u237, u238, u239, u240, u241, u242, u243, u244, u245, u246, u247, u248, u249, u250, u251, u252, u253, u254, u255, u256, u257, u258, u259, u260, u261, u262, u263, u264, u265, u266, u267, u268, u269, u270, u271, u272, u273, u274, u275, u276, u277, u278, u279, u280, u281, u282, u283, u284, u285, u286, u287, u288, u289, u290, u291, u292, u293, u294, u295, u296, u297, u298, u299, u300, u301, u302, u303, u304, u305, u306, u307, u308, u309, u310, u311, u312, u313, u314, u315, u316, u317, u318, u319, u320, u321, u322, u323, u324, u325, u326, u327, u328, u329, u330, u331, u332, u333, u334, u335, u336, u337, u338, u339, u340, u341, u342, u343, u344, u345, u346, u347, u348, u349, u350, u351, u352, u353, u354, u355, u356, u357, u358, u359, u360, u361, u362, u363, u364, u365, u366, u367, u368, u369, u370, u371, u372, u373, u374, u375, u376, u377, u378, u379, u380, u381, u382, u383, u384, u385, u386, u387, u388, u389, u390, u391, u392, u393, u394, u395, u396, u397, u398, u399, u400, u401, u402, u403, u404, u405, u406, u407, u408, u409, u410, u411, u412, u413, u414, u415, u416, u417, u418, u419, u420, u421, u422, u423, u424, u425, u426, u427, u428, u429, u430, u431, u432, u433, u434, u435, u436, u437, u438, u439, u440, u441, u442, u443, u444, u445, u446, u447, u448, u449, u450, u451, u452, u453, u454, u455, u456, u457, u458, u459, u460, u461, u462, u463, u464, u465, u466, u467, u468, u469, u470, u471, u472, u473, u474, u475, u476, u477, u478, u479], []⟩ wr := by
  conv => arg 2; whnf
  simp only [List.append_eq, List.cons_append, List.nil_append]
  have hlens := HO.out.lens hm0.2
  have hg60 := hlens.1
  have hb60 := hlens.2
  have hz := HO.out.none hm0.2
  have b1 : (c1 != c1) = false := by simp
  have b2 : (low != low) = false := by simp
  have b3 : (many != many) = false := by simp
  have b4 : (short != short) = false := by simp
  clear hlens
  repeat (first | go_values | go_skip | go_guarded | go_step | go_upon)
  go_at_call 17
  refine (same_any A1 A2 d1 d2 gl gl _ _ wr rfl rfl (by omega) (by omega) HG1.out HG2.out).mono ?_
  rintro e w1 ⟨rfl, hb⟩
  rw [decide_eq_true (rfl : gl = gl)]
  dsimp only
  replace HF := Lib.hid (HF.out.next hb)
  replace K5 := Lib.hid (K5.out.next hb)
  replace HBL := Lib.hid (HBL.out.next hb)
  replace HG1 := Lib.hid (HG1.out.next hb)
  replace HG2 := Lib.hid (HG2.out.next hb)
  replace HG3 := Lib.hid (HG3.out.next hb)
  replace HB := Lib.hid (below_step HB.out hb)
  clear hb
  repeat (first | go_values | go_skip | go_guarded | go_step | go_upon)
  go_at_call 17
  refine (same_any A3 A4 d3 d4 bl bl _ _ w1 rfl rfl (by omega) (by omega) HG3.out HBL.out).mono ?_
  rintro e w2 ⟨rfl, hb⟩
  rw [decide_eq_true (rfl : bl = bl)]
  dsimp only
  replace HF := Lib.hid (HF.out.next hb)
  replace K5 := Lib.hid (K5.out.next hb)
  replace HBL := Lib.hid (HBL.out.next hb)
  replace HG1 := Lib.hid (HG1.out.next hb)
  replace HG2 := Lib.hid (HG2.out.next hb)
  replace HG3 := Lib.hid (HG3.out.next hb)
  replace HB := Lib.hid (below_step HB.out hb)
  clear hb
  rcases HO.out.code with hc | hc
  · subst hc
    have b5 : (many == 0) = false := by
      rw [beq_eq_false_iff_ne]
      intro e
      have := hz.1 e
      omega
    clear hz
    repeat ((with_reducible fail_if_success (show Code.wp _ (Code.seq (Code.seq (Code.region 17 _ _) _) _) _ _ _)); first | go_values | go_skip | go_guarded | go_step | go_upon)
    exact q2 w _ f S HV l HT HMX HSP g5 ws HWE m hm0 gl 0 bl low many short HO Aw cw Ab nb cb b HNB hnb HSB HYB A2 d2 A4 d4 HF K5 HBL HB _ _ _ _ _ _ _ _ _ _ _ _ _ _ _ _ _ _ _ _ _ _ _ _ _ _ _ _ _ _ _ _ _ _ _ _ _ _ _ _ _ _ _ _ _ _ _ _ _ _ _ _ _ _ _ _ _ _ _ _ _ _ _ _ _ _ _ _ _ _ _ _ _ _ _ _ _ _ _ _ _ _ _ _ _ _ _ _ _ _ _ _ _ _ _ _ _ _ _ _ _ _ _ _ _ _ _ _ _ _ _ _ _ _ _ _ _ _ _ _ _ _ _ _ _ _ _ _ _ _ _ _ _ _ _ _ _ _ _ _ _ _ _ _ _ _ _ _ _ _ _ _ _ _ _ _ _ _ _ _ _ _ _ _ _ _ _ _ _ _ _ _ _ _ _ _ _ _ _ _ _ _ _ _ _ _ _ _ _ _ _ _ _ _ _ _ _ _ _ _ _ _ _ _ _ _ _ _ _ _ _ _ _ _ _ _ _ _ _ _ _ _ _ _ _ _ _ _ _ _ _ _ _ _ _ _ _ _ _ _ _ _ _ _ _ _ _ _ _ _ _ _ _ _ _ _ _ _ _ _ _ _ _ _ _ _ _ _ _ _ _ _ _ _ _ _ _ _ _ _ _ _ _ _ _ _ _ _ _ _ _ _ _ _ _ _ _ _ _ _ _ _ _ _ _ _ _ _ _ _ _ _ _ _ _ _ _ _ _ _ _ _ _ _ _ _ _ _ _ _ _ _ _ _ _ _ _ _ _ _ _ _ _ _ _ _ _ _ _ _ _ _ _ _ _ _ _ _ _ _ _ _ _ _ _ _ _ _ _ _ _ _ _ _ _ _ _ _ _ _ _ _ _ _ _ _ _ _ _ _ _ _ _ _ _ _ _ _ _ _ _ _ _ _ _ _ _ _ _ _ _ _ _ _ _ _ _ _ _ _ _ _ _ _ _ _ _ _ _ _ _ _ _ _ _ _ _ _ _ _ _ _ _ _ _ _ _ _ _ _ _ _ _ _ _ _ _ _ _ _ _ _ _ _ _ _ _ _ _
  · subst hc
    have b5 : (many == 0) = true := by rw [hz.2 rfl]; rfl
    clear hz
    repeat ((with_reducible fail_if_success (show Code.wp _ (Code.seq (Code.seq (Code.region 17 _ _) _) _) _ _ _)); first | go_values | go_skip | go_guarded | go_step | go_upon)
    exact q2 w _ f S HV l HT HMX HSP g5 ws HWE m hm0 gl 6 bl low many short HO Aw cw Ab nb cb b HNB hnb HSB HYB A2 d2 A4 d4 HF K5 HBL HB _ _ _ _ _ _ _ _ _ _ _ _ _ _ _ _ _ _ _ _ _ _ _ _ _ _ _ _ _ _ _ _ _ _ _ _ _ _ _ _ _ _ _ _ _ _ _ _ _ _ _ _ _ _ _ _ _ _ _ _ _ _ _ _ _ _ _ _ _ _ _ _ _ _ _ _ _ _ _ _ _ _ _ _ _ _ _ _ _ _ _ _ _ _ _ _ _ _ _ _ _ _ _ _ _ _ _ _ _ _ _ _ _ _ _ _ _ _ _ _ _ _ _ _ _ _ _ _ _ _ _ _ _ _ _ _ _ _ _ _ _ _ _ _ _ _ _ _ _ _ _ _ _ _ _ _ _ _ _ _ _ _ _ _ _ _ _ _ _ _ _ _ _ _ _ _ _ _ _ _ _ _ _ _ _ _ _ _ _ _ _ _ _ _ _ _ _ _ _ _ _ _ _ _ _ _ _ _ _ _ _ _ _ _ _ _ _ _ _ _ _ _ _ _ _ _ _ _ _ _ _ _ _ _ _ _ _ _ _ _ _ _ _ _ _ _ _ _ _ _ _ _ _ _ _ _ _ _ _ _ _ _ _ _ _ _ _ _ _ _ _ _ _ _ _ _ _ _ _ _ _ _ _ _ _ _ _ _ _ _ _ _ _ _ _ _ _ _ _ _ _ _ _ _ _ _ _ _ _ _ _ _ _ _ _ _ _ _ _ _ _ _ _ _ _ _ _ _ _ _ _ _ _ _ _ _ _ _ _ _ _ _ _ _ _ _ _ _ _ _ _ _ _ _ _ _ _ _ _ _ _ _ _ _ _ _ _ _ _ _ _ _ _ _ _ _ _ _ _ _ _ _ _ _ _ _ _ _ _ _ _ _ _ _ _ _ _ _ _ _ _ _ _ _ _ _ _ _ _ _ _ _ _ _ _ _ _ _ _ _ _ _ _ _ _ _ _ _ _ _ _ _ _ _ _ _ _ _ _ _ _ _ _ _ _ _ _ _ _ _ _ _ _ _ _ _ _ _ _ _ _ _ _ _ _ _ _ _ _
end Go.Proofs.YtdhngjjfoddnkaaGreatDoor.lawBreaks
