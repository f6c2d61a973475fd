/- The law of breaks: a piece of its walk. -/
import Derived.Test.YtdhngjjfoddnkaaGreatDoorGU
import Derived.Deep.CutRange
import Derived.BigRegion
import Derived.Test.YtdhngjjfoddnkaaGreatDoorBr2


namespace Go.Proofs.YtdhngjjfoddnkaaGreatDoor.lawBreaks
open Go Go.RowKit Go.Proofs.YtdhngjjfoddnkaaGreatDoor
set_option linter.unusedVariables false
set_option linter.unusedSimpArgs false

attribute [local irreducible] wpQuiet in
set_option maxHeartbeats 4000000 in
set_option maxRecDepth 100000 in
theorem q1 (w wr : World) (Aa : Option Addr) (na ca : Nat) (a : List Int) (Ab : Option Addr) (nb cb : Nat) (b : List Int) (HNA : Hid (a.length = na)) (HNB : Hid (b.length = nb)) (hna : na ≤ 3000) (hnb : nb ≤ 3000) (HSA : Hid (SlE u8 w Aa a)) (HSB : Hid (SlE u8 w Ab b)) (HYA : Hid (Byt a)) (HYB : Hid (Byt b)) (HMX : Hid (MaxW w)) (HSP : Hid (SpT w))  (HB : Hid (Below w.heap.size w wr))
    (u2 u3 u4 u5 u6 u7 u8 u9 u10 u11 u12 u13 u14 u15 u16 u17 u18 u19 u20 u21 u22 u23 u24 u25 u26 u27 u28 u29 u30 u31 u32 u33 u34 u35 u36 u37 u38 u39 u40 u41 u42 u43 u44 u45 u46 u47 u48 u49 u50 u51 u52 u53 u54 u55 u56 u57 u58 u59 u60 u61 u62 u63 u64 u65 u66 u67 u68 u69 u70 u71 u72 u73 u74 u75 u76 u77 u78 u79 u80 u81 u82 u83 u84 u85 u86 u87 u88 u89 u90 u91 u92 u93 u94 u95 u96 u97 u98 u99 u100 u101 u102 u103 u104 u105 u106 u107 u108 u109 u110 u111 u112 u113 u114 u115 u116 u117 u118 u119 u120 u121 u122 u123 u124 u125 u126 u127 u128 u129 u130 u131 u132 u133 u134 u135 u136 u137 u138 u139 u140 u141 u142 u143 u144 u145 u146 u147 u148 u149 u150 u151 u152 u153 u154 u155 u156 u157 u158 u159 u160 u161 u162 u163 u164 u165 u166 u167 u168 u169 u170 u171 u172 u173 u174 u175 u176 u177 u178 u179 u180 u181 u182 u183 u184 u185 u186 u187 u188 u189 u190 u191 u192 u193 u194 u195 u196 u197 u198 u199 u200 u201 u202 u203 u204 u205 u206 u207 u208 u209 u210 u211 u212 u213 u214 u215 u216 u217 u218 u219 u220 u221 u222 u223 u224 u225 u226 u227 u228 u229 u230 u231 u232 u233 u234 u235 u236 u237 u238 u239 u240 u241 u242 u243 u244 u245 u246 u247 u248 u249 u250 u251 u252 u253 u254 u255 u256 u257 u258 u259 u260 u261 u262 u263 u264 u265 u266 u267 u268 u269 u270 u271 u272 u273 u274 u275 u276 u277 u278 u279 u280 u281 u282 u283 u284 u285 u286 u287 u288 u289 u290 u291 u292 u293 u294 u295 u296 u297 u298 u299 u300 u301 u302 u303 u304 u305 u306 u307 u308 u309 u310 u311 u312 u313 u314 u315 u316 u317 u318 u319 u320 u321 u322 u323 u324 u325 u326 u327 u328 u329 u330 u331 u332 u333 u334 u335 u336 u337 u338 u339 u340 u341 u342 u343 u344 u345 u346 u347 u348 u349 u350 u351 u352 u353 u354 u355 u356 u357 u358 u359 u360 u361 u362 u363 u364 u365 u366 u367 u368 u369 u370 u371 u372 u373 u374 u375 u376 u377 u378 u379 u380 u381 u382 u383 u384 u385 u386 u387 u388 u389 u390 u391 u392 u393 u394 u395 u396 u397 u398 u399 u400 u401 u402 u403 u404 u405 u406 u407 u408 u409 u410 u411 u412 u413 u414 u415 u416 u417 u418 u419 u420 u421 u422 u423 u424 u425 u426 u427 u428 u429 u430 u431 u432 u433 u434 u435 u436 u437 u438 u439 u440 u441 u442 u443 u444 u445 u446 u447 u448 u449 u450 u451 u452 u453 u454 u455 u456 u457 u458 u459 u460 u461 u462 u463 u464 u465 u466 u467 u468 u469 u470 u471 u472 u473 u474 u475 u476 u477 u478 u479 : Value) :
    Code.wp Tryz.prog (partOf Tryz.f3 [true, true]) (bodyPost Tryz.prog Tryz.f3 fun e w' => e = .returned (.bool true) ∧ Below w.heap.size w w')
      ⟨#[.slice Aa na ca, .slice Ab nb cb, u2, u3, u4, u5, u6, u7, u8, u9, u10, u11, u12, u13, u14, u15, u16, u17, u18, u19, u20, u21, u22, u23, u24, u25, u26, u27, u28, u29, u30, u31, u32, u33, u34, u35, u36, u37, u38, u39, u40, u41, u42, u43, u44, u45, u46, u47, u48, u49, u50, u51, u52, u53, u54, u55, u56, u57, u58, u59, u60, u61, u62, u63, u64, u65, u66, u67, u68, u69, u70, u71, u72, u73, u74, u75, u76, u77, u78, u79, u80, u81, u82, u83, u84, u85, u86, u87, u88, u89, u90, u91, u92, u93, u94, u95, u96, u97, u98, u99, u100, u101, u102, u103, u104, u105, u106, u107, u108, u109, u110, u111, u112, u113, u114, u115, u116, u117, u118, u119, u120, u121, u122, u123, u124, u125, u126, u127, u128, u129, u130, u131, u132, u133, u134, u135, u136, u137, u138, u139, u140, u141, u142, u143, u144, u145, u146, u147, u148, u149, u150, u151, u152, u153, u154, u155, u156, u157, u158, u159, u160, u161, u162, u163, u164, u165, u166, u167, u168, u169, u170, u171, u172, u173, u174, u175, u176, u177, u178, u179, u180, u181, u182, u183, u184, u185, u186, u187, u188, u189, u190, u191, u192, u193, u194, u195, u196, u197, u198, u199, u200, u201, u202, u203, u204, u205, u206, u207, u208, u209, u210, u211, u212, u213, u214, u215, u216, u217, u218, u219, u220, u221, u222, u223, u224, u225, u226, u227, u228, u229, u230, u231, u232, u233, u234, u235, u236, u237, u238, u239, u240, u241, u242, u243, u244, u245, u246, u247, u248, u249, u250, u251, u252, u253, u254, u255, u256, u257, u258, u259, u260, u261, u262, u263, u264, u265, u266, u267, u268, u269, u270, u271, u272, u273, u274, u275, u276, u277, u278, u279, u280, u281, u282, u283, u284, u285, u286, u287, u288, u289, u290, u291, u292, u293, u294, u295, u296, u297, u298, u299, u300, u301, u302, u303, u304, u305, u306, u307, u308, u309, u310, u311, u312, u313, u314, u315, u316, u317, u318, u319, u320, u321, u322, u323, u324, u325, u326, u327, u328, u329, u330, u331, u332, u333, u334, u335, u336, u337, u338, u339, u340, u341, u342, u343, u344, u345, u346, u347, u348, u349, u350, u351, u352, u353, u354, u355, u356, u357, u358, u359, u360, u361, u362, u363, u364, u365, u366, u367, u368, u369, u370, u371, u372, u373, u374, u375, u376, u377, u378, u379, u380, u381, u382, u383, u384, u385, u386, u387, u388, u389, u390, u391, u392, u393, u394, u395, u396, u397, u398, u399, u400, u401, u402, u403, u404, u405, u406, u407, u408, u409, u410, u411, u412, u413, u414, u415, u416, u417, u418, u419, u420, u421, u422, u423, u424, u425, u426, u427, u428, u429, u430, u431, u432, u433, u434, u435, u436, u437, u438, u439, u440, u441, u442, u443, u444, u445, u446, u447, u448, u449, u450, u451, u452, u453, u454, u455, u456, u457, u458, u459, u460, u461, u462, u463, u464, u465, u466, u467, u468, u469, u470, u471, u472, u473, u474, u475, u476, u477, u478, u479], []⟩ wr := by
  conv => arg 2; whnf
  repeat (first | go_values | go_skip | go_guarded | go_step | go_upon)
  go_at_call 5
  refine (a2face_any Aa na ca a wr HNA.out (by omega) (HSA.out.next HB.out) HYA.out).mono ?_
  rintro e w1 ⟨f, S, rfl, hv, hf, hb⟩
  have HV := Lib.hid hv
  have HF := Lib.hid hf
  have hone : (fcV f S).toArray.all (·.oneCell') = true := by
    obtain ⟨_, A2, n2, c2, e2, _⟩ := hf
    rw [e2]; exact one_fc _ _ _ _
  have hlenF := fcV_length hf.1 S
  clear hv hf
  dsimp only
  replace HB := Lib.hid (below_step HB.out hb)
  clear hb
  have hb := below_one w1 (.cells (fcV f S).toArray 28)
  replace HF := Lib.hid (HF.out.next hb)
  replace HB := Lib.hid (below_step HB.out hb)
  clear hb
  have K5 := Lib.hid (Blk.new w1 28 (fcV f S))
  repeat ((with_reducible fail_if_success (show wpList _ _ _ (⟨none, .store 28 (.tmp 5) (.tmp 59), _, _, _, _⟩ :: _) _ _)); first | go_values | go_skip | go_guarded | go_step | go_upon)
  refine wpList_store_new rfl 28 (.tmp 5) (.tmp 59) rfl (fcV f S).toArray rfl rfl 28 _ (by rw [List.size_toArray, hlenF]; exact szFcI) (by rw [show (fcV f S).toArray.size = 29 by rw [List.size_toArray, hlenF]]; rfl) (hone) ?_
  generalize w1.alloc (.cells (fcV f S).toArray 28) = w2 at *
  generalize w1.heap.size = g5 at *
  clear hone
  repeat (first | go_values | go_skip | go_guarded | go_step | go_upon)
  go_at_call 6
  refine (a2text_any Ab nb cb b w2 HNB.out (by omega) (HSB.out.next HB.out) HYB.out).mono ?_
  rintro e w3 ⟨l, rfl, ht, hb⟩
  have HT := Lib.hid ht
  clear ht
  dsimp only
  replace HF := Lib.hid (HF.out.next hb)
  replace K5 := Lib.hid (K5.out.next hb)
  replace HB := Lib.hid (below_step HB.out hb)
  clear hb
  repeat (first | go_values | go_skip | go_guarded | go_step | go_upon)
  go_at_call 7
  refine (at_any Ab nb cb b 0 160 w3 HNB.out (by unfold maxLen; omega) (HSB.out.next HB.out) HYB.out (by omega) (by omega)).mono ?_
  rintro e _ ⟨⟨x, rfl, x0, x1⟩, rfl⟩
  dsimp only
  have e1 : IntKind.i64.wrap (40 + x) = 40 + x := IntWalk.i64_in _ (by omega)
  repeat ((with_reducible fail_if_success (show Code.wp _ (Code.seq (Code.region 6 _ _) _) _ _ _)); first | go_values | go_skip | go_guarded | go_step | go_upon)
  obtain ⟨m, hm⟩ : ∃ m, m = 40 + x := ⟨_, rfl⟩
  rw [← hm]
  have hm0 : 0 ≤ m ∧ m ≤ 4000 := by omega
  clear hm e1
  obtain ⟨hbv, hb2, hb3, hb4⟩ := brv_mk HV.out HT.out hm0
  obtain ⟨gl, hgl⟩ : ∃ gl, gl = (brkOut f l m).1 := ⟨_, rfl⟩
  obtain ⟨c1, hc1⟩ : ∃ c1, c1 = (brkOut f l m).2 := ⟨_, rfl⟩
  obtain ⟨bl, hbl⟩ : ∃ bl, bl = (bstOut f l m).1 := ⟨_, rfl⟩
  obtain ⟨low, hlow⟩ : ∃ low, low = (bstOut f l m).2.1 := ⟨_, rfl⟩
  obtain ⟨many, hmany⟩ : ∃ many, many = (cntOut f l m).1 := ⟨_, rfl⟩
  obtain ⟨short, hshort⟩ : ∃ short, short = (fewOut f l m).1 := ⟨_, rfl⟩
  obtain ⟨ws, hws⟩ : ∃ ws, ws = words l := ⟨_, rfl⟩
  rw [← hgl, ← hc1, ← hbl, ← hlow, ← hmany, ← hshort, ← hws] at hbv
  have HO := Lib.hid hbv
  have HWE := Lib.hid hws
  have HGI := Lib.hid (fun (w' : World) (h : HasF w' f S) (hx : MaxW w') (hp : SpT w') => (show Calls Tryz.prog 8 #[.agg (fcV f S).toArray, .string ⟨l.toArray⟩, .int .i64 m] w' (WtOut w' gl c1) by have := greedy_implL f S l m w' h HV.out HT.out hm0 hx hp; rw [← hgl, ← hc1] at this; exact this))
  have HBI := Lib.hid (fun (w' : World) (h : HasF w' f S) (hx : MaxW w') (hp : SpT w') => (show Calls Tryz.prog 10 #[.agg (fcV f S).toArray, .string ⟨l.toArray⟩, .int .i64 m] w' (BsOut w' bl low c1) by have := best_implL f S l m w' h HV.out HT.out hm0 hx hp; rw [hb2, ← hbl, ← hlow, ← hc1] at this; exact this))
  have HCI := Lib.hid (fun (w' : World) (h : HasF w' f S) (hx : MaxW w') (hp : SpT w') => (show Calls Tryz.prog 12 #[.agg (fcV f S).toArray, .string ⟨l.toArray⟩, .int .i64 m] w' (fun e w1 => e = .returned (.tuple #[.int .i64 many, .int .i64 0]) ∧ Below w'.heap.size w' w1) by have := count_implL f S l m w' h HV.out HT.out hm0 hx hp; rw [hb4, ← hmany] at this; exact this))
  have HEI := Lib.hid (fun (w' : World) (h : HasF w' f S) (hx : MaxW w') (hp : SpT w') => (show Calls Tryz.prog 14 #[.agg (fcV f S).toArray, .string ⟨l.toArray⟩, .int .i64 m] w' (fun e w1 => e = .returned (.tuple #[.int .i64 short, .int .i64 c1]) ∧ Below w'.heap.size w' w1) by have := few_implL f S l m w' h HV.out HT.out hm0 hx hp; rw [hb3, ← hshort, ← hc1] at this; exact this))
  have HGS := Lib.hid (fun (w' : World) (h : HasF w' f S) => (show Calls Tryz.prog 9 #[.agg (fcV f S).toArray, .string ⟨l.toArray⟩, .int .i64 m] w' (WtOut w' gl c1) by have := greedy_specL f S l m w' h HV.out HT.out hm0; rw [← hgl, ← hc1] at this; exact this))
  have HBS := Lib.hid (fun (w' : World) (h : HasF w' f S) => (show Calls Tryz.prog 11 #[.agg (fcV f S).toArray, .string ⟨l.toArray⟩, .int .i64 m] w' (BsOut w' bl low c1) by have := best_specL f S l m w' h HV.out HT.out hm0; rw [hb2, ← hbl, ← hlow, ← hc1] at this; exact this))
  have HCS := Lib.hid (fun (w' : World) (h : HasF w' f S) => (show Calls Tryz.prog 13 #[.agg (fcV f S).toArray, .string ⟨l.toArray⟩, .int .i64 m] w' (fun e w1 => e = .returned (.tuple #[.int .i64 many, .int .i64 0]) ∧ Below w'.heap.size w' w1) by have := count_specL f S l m w' h HV.out HT.out hm0; rw [hb4, ← hmany] at this; exact this))
  have HES := Lib.hid (fun (w' : World) (h : HasF w' f S) => (show Calls Tryz.prog 15 #[.agg (fcV f S).toArray, .string ⟨l.toArray⟩, .int .i64 m] w' (fun e w1 => e = .returned (.tuple #[.int .i64 short, .int .i64 c1]) ∧ Below w'.heap.size w' w1) by have := few_specL f S l m w' h HV.out HT.out hm0; rw [hb3, ← hshort, ← hc1] at this; exact this))
  clear hbv hb2 hb3 hb4 hgl hc1 hbl hlow hmany hshort hws
  repeat ((with_reducible fail_if_success (show wpList _ _ _ (⟨some 66, _, _, _, _, _⟩ :: _) _ _)); first | go_values | go_skip | go_guarded | go_step | go_upon)
  refine wpList_val (by kernel_rfl) (.agg (fcV f S).toArray) _ (exec_load_row 28 (.tmp 5) rfl g5 (by kernel_rfl) 28 (fcV f S).toArray _ _ K5.out Tryz.underlying28 rfl (by rw [List.size_toArray, hlenF]; exact szFcI)) ?_
  repeat (first | go_values | go_skip | go_guarded | go_step | go_upon)
  go_at_call 8
  refine (HGI.out w3 HF.out (HMX.out.next HB.out) (HSP.out.next HB.out)).mono ?_
  rintro e w4 ⟨A1, d1, ⟨rfl, hs1⟩, hb⟩
  have HG1 := Lib.hid hs1
  clear hs1
  dsimp only
  replace HF := Lib.hid (HF.out.next hb)
  replace K5 := Lib.hid (K5.out.next hb)
  replace HB := Lib.hid (below_step HB.out hb)
  clear hb
  repeat ((with_reducible fail_if_success (show wpList _ _ _ (⟨some 73, _, _, _, _, _⟩ :: _) _ _)); first | go_values | go_skip | go_guarded | go_step | go_upon)
  refine wpList_val (by kernel_rfl) (.agg (fcV f S).toArray) _ (exec_load_row 28 (.tmp 5) rfl g5 (by kernel_rfl) 28 (fcV f S).toArray _ _ K5.out Tryz.underlying28 rfl (by rw [List.size_toArray, hlenF]; exact szFcI)) ?_
  repeat (first | go_values | go_skip | go_guarded | go_step | go_upon)
  go_at_call 9
  refine (HGS.out w4 HF.out).mono ?_
  rintro e w5 ⟨A2, d2, ⟨rfl, hs2⟩, hb⟩
  have HG2 := Lib.hid hs2
  clear hs2
  dsimp only
  replace HF := Lib.hid (HF.out.next hb)
  replace K5 := Lib.hid (K5.out.next hb)
  replace HG1 := Lib.hid (HG1.out.next hb)
  replace HB := Lib.hid (below_step HB.out hb)
  clear hb
  repeat ((with_reducible fail_if_success (show wpList _ _ _ (⟨some 80, _, _, _, _, _⟩ :: _) _ _)); first | go_values | go_skip | go_guarded | go_step | go_upon)
  refine wpList_val (by kernel_rfl) (.agg (fcV f S).toArray) _ (exec_load_row 28 (.tmp 5) rfl g5 (by kernel_rfl) 28 (fcV f S).toArray _ _ K5.out Tryz.underlying28 rfl (by rw [List.size_toArray, hlenF]; exact szFcI)) ?_
  repeat (first | go_values | go_skip | go_guarded | go_step | go_upon)
  go_at_call 10
  refine (HBI.out w5 HF.out (HMX.out.next HB.out) (HSP.out.next HB.out)).mono ?_
  rintro e w6 ⟨A3, d3, ⟨rfl, hs3⟩, hb⟩
  have HG3 := Lib.hid hs3
  clear hs3
  dsimp only
  replace HF := Lib.hid (HF.out.next hb)
  replace K5 := Lib.hid (K5.out.next hb)
  replace HG1 := Lib.hid (HG1.out.next hb)
  replace HG2 := Lib.hid (HG2.out.next hb)
  replace HB := Lib.hid (below_step HB.out hb)
  clear hb
  repeat ((with_reducible fail_if_success (show wpList _ _ _ (⟨some 88, _, _, _, _, _⟩ :: _) _ _)); first | go_values | go_skip | go_guarded | go_step | go_upon)
  refine wpList_val (by kernel_rfl) (.agg (fcV f S).toArray) _ (exec_load_row 28 (.tmp 5) rfl g5 (by kernel_rfl) 28 (fcV f S).toArray _ _ K5.out Tryz.underlying28 rfl (by rw [List.size_toArray, hlenF]; exact szFcI)) ?_
  repeat (first | go_values | go_skip | go_guarded | go_step | go_upon)
  go_at_call 11
  refine (HBS.out w6 HF.out).mono ?_
  rintro e w7 ⟨A4, d4, ⟨rfl, hs4⟩, hb⟩
  have HBL := Lib.hid hs4
  clear hs4
  dsimp only
  replace HF := Lib.hid (HF.out.next hb)
  replace K5 := Lib.hid (K5.out.next hb)
  replace HG1 := Lib.hid (HG1.out.next hb)
  replace HG2 := Lib.hid (HG2.out.next hb)
  replace HG3 := Lib.hid (HG3.out.next hb)
  replace HB := Lib.hid (below_step HB.out hb)
  clear hb
  repeat ((with_reducible fail_if_success (show wpList _ _ _ (⟨some 96, _, _, _, _, _⟩ :: _) _ _)); first | go_values | go_skip | go_guarded | go_step | go_upon)
  refine wpList_val (by kernel_rfl) (.agg (fcV f S).toArray) _ (exec_load_row 28 (.tmp 5) rfl g5 (by kernel_rfl) 28 (fcV f S).toArray _ _ K5.out Tryz.underlying28 rfl (by rw [List.size_toArray, hlenF]; exact szFcI)) ?_
  repeat (first | go_values | go_skip | go_guarded | go_step | go_upon)
  go_at_call 12
  refine (HCI.out w7 HF.out (HMX.out.next HB.out) (HSP.out.next HB.out)).mono ?_
  rintro e w8 ⟨rfl, hb⟩
  dsimp only
  replace HF := Lib.hid (HF.out.next hb)
  replace K5 := Lib.hid (K5.out.next hb)
  replace HG1 := Lib.hid (HG1.out.next hb)
  replace HG2 := Lib.hid (HG2.out.next hb)
  replace HG3 := Lib.hid (HG3.out.next hb)
  replace HBL := Lib.hid (HBL.out.next hb)
  replace HB := Lib.hid (below_step HB.out hb)
  clear hb
  repeat ((with_reducible fail_if_success (show wpList _ _ _ (⟨some 103, _, _, _, _, _⟩ :: _) _ _)); first | go_values | go_skip | go_guarded | go_step | go_upon)
  refine wpList_val (by kernel_rfl) (.agg (fcV f S).toArray) _ (exec_load_row 28 (.tmp 5) rfl g5 (by kernel_rfl) 28 (fcV f S).toArray _ _ K5.out Tryz.underlying28 rfl (by rw [List.size_toArray, hlenF]; exact szFcI)) ?_
  repeat (first | go_values | go_skip | go_guarded | go_step | go_upon)
  go_at_call 13
  refine (HCS.out w8 HF.out).mono ?_
  rintro e w9 ⟨rfl, hb⟩
  dsimp only
  replace HF := Lib.hid (HF.out.next hb)
  replace K5 := Lib.hid (K5.out.next hb)
  replace HG1 := Lib.hid (HG1.out.next hb)
  replace HG2 := Lib.hid (HG2.out.next hb)
  replace HG3 := Lib.hid (HG3.out.next hb)
  replace HBL := Lib.hid (HBL.out.next hb)
  replace HB := Lib.hid (below_step HB.out hb)
  clear hb
  repeat ((with_reducible fail_if_success (show wpList _ _ _ (⟨some 110, _, _, _, _, _⟩ :: _) _ _)); first | go_values | go_skip | go_guarded | go_step | go_upon)
  refine wpList_val (by kernel_rfl) (.agg (fcV f S).toArray) _ (exec_load_row 28 (.tmp 5) rfl g5 (by kernel_rfl) 28 (fcV f S).toArray _ _ K5.out Tryz.underlying28 rfl (by rw [List.size_toArray, hlenF]; exact szFcI)) ?_
  repeat (first | go_values | go_skip | go_guarded | go_step | go_upon)
  go_at_call 14
  refine (HEI.out w9 HF.out (HMX.out.next HB.out) (HSP.out.next HB.out)).mono ?_
  rintro e w10 ⟨rfl, hb⟩
  dsimp only
  replace HF := Lib.hid (HF.out.next hb)
  replace K5 := Lib.hid (K5.out.next hb)
  replace HG1 := Lib.hid (HG1.out.next hb)
  replace HG2 := Lib.hid (HG2.out.next hb)
  replace HG3 := Lib.hid (HG3.out.next hb)
  replace HBL := Lib.hid (HBL.out.next hb)
  replace HB := Lib.hid (below_step HB.out hb)
  clear hb
  repeat ((with_reducible fail_if_success (show wpList _ _ _ (⟨some 117, _, _, _, _, _⟩ :: _) _ _)); first | go_values | go_skip | go_guarded | go_step | go_upon)
  refine wpList_val (by kernel_rfl) (.agg (fcV f S).toArray) _ (exec_load_row 28 (.tmp 5) rfl g5 (by kernel_rfl) 28 (fcV f S).toArray _ _ K5.out Tryz.underlying28 rfl (by rw [List.size_toArray, hlenF]; exact szFcI)) ?_
  repeat (first | go_values | go_skip | go_guarded | go_step | go_upon)
  go_at_call 15
  refine (HES.out w10 HF.out).mono ?_
  rintro e w11 ⟨rfl, hb⟩
  dsimp only
  replace HF := Lib.hid (HF.out.next hb)
  replace K5 := Lib.hid (K5.out.next hb)
  replace HG1 := Lib.hid (HG1.out.next hb)
  replace HG2 := Lib.hid (HG2.out.next hb)
  replace HG3 := Lib.hid (HG3.out.next hb)
  replace HBL := Lib.hid (HBL.out.next hb)
  replace HB := Lib.hid (below_step HB.out hb)
  clear hb
  repeat (first | go_values | go_skip | go_guarded | go_step | go_upon)
  go_at_call 16
  refine (wordsOf_spec l w11 HT.out).mono ?_
  rintro e w12 ⟨Aw, cw, ⟨rfl, hs5, hcw, -⟩, hb⟩
  rw [← HWE.out] at hs5 hcw ⊢
  clear hs5 hcw
  dsimp only
  replace HF := Lib.hid (HF.out.next hb)
  replace K5 := Lib.hid (K5.out.next hb)
  replace HG1 := Lib.hid (HG1.out.next hb)
  replace HG2 := Lib.hid (HG2.out.next hb)
  replace HG3 := Lib.hid (HG3.out.next hb)
  replace HBL := Lib.hid (HBL.out.next hb)
  replace HB := Lib.hid (below_step HB.out hb)
  clear hb
  clear HGI HGS HBI HBS HCI HCS HEI HES
  repeat ((with_reducible fail_if_success (show Code.wp _ (Code.seq (Code.seq (Code.region 15 _ _) _) _) _ _ _)); first | go_values | go_skip | go_guarded | go_step | go_upon)
  exact qb w _ f S HV l HT HMX HSP g5 ws HWE m hm0 gl c1 bl low many short HO Aw cw Ab nb cb b HNB hnb HSB HYB A2 d2 A4 d4 A1 d1 A3 d3 HF K5 HBL HG1 HG2 HG3 HB _ _ _ _ _ _ _ _ _ _ _ _ _ _ _ _ _ _ _ _ _ _ _ _ _ _ _ _ _ _ _ _ _ _ _ _ _ _ _ _ _ _ _ _ _ _ _ _ _ _ _ _ _ _ _ _ _ _ _ _ _ _ _ _ _ _ _ _ _ _ _ _ _ _ _ _ _ _ _ _ _ _ _ _ _ _ _ _ _ _ _ _ _ _ _ _ _ _ _ _ _ _ _ _ _ _ _ _ _ _ _ _ _ _ _ _ _ _ _ _ _ _ _ _ _ _ _ _ _ _ _ _ _ _ _ _ _ _ _ _ _ _ _ _ _ _ _ _ _ _ _ _ _ _ _ _ _ _ _ _ _ _ _ _ _ _ _ _ _ _ _ _ _ _ _ _ _ _ _ _ _ _ _ _ _ _ _ _ _ _ _ _ _ _ _ _ _ _ _ _ _ _ _ _ _ _ _ _ _ _ _ _ _ _ _ _ _ _ _ _ _ _ _ _ _ _ _ _ _ _ _ _ _ _ _ _ _ _ _ _ _ _ _ _ _ _ _ _ _ _ _ _ _ _ _ _ _ _ _ _ _ _ _ _ _ _ _ _ _ _ _ _ _ _ _ _ _ _ _ _ _ _ _ _ _ _ _ _ _ _ _ _ _ _ _ _ _ _ _ _ _ _ _ _ _ _ _ _ _ _ _ _ _ _ _ _ _ _ _ _ _ _ _ _ _ _ _ _ _ _ _ _ _ _ _ _ _ _ _ _ _ _ _ _ _ _ _ _ _ _ _ _ _ _ _ _ _ _ _ _ _ _ _ _ _ _ _ _ _ _ _ _ _ _ _ _ _ _ _ _ _ _ _ _ _ _ _ _ _ _ _ _ _ _ _ _ _ _ _ _ _ _ _ _ _ _ _ _ _ _ _ _ _ _ _ _ _ _ _ _ _ _ _ _ _ _ _ _ _ _ _ _ _ _ _ _ _ _ _ _ _ _ _ _ _ _ _ _ _ _ _ _ _ _ _ _
end Go.Proofs.YtdhngjjfoddnkaaGreatDoor.lawBreaks
