/- The law of cutting again: a piece of its walk. -/
import Derived.Test.YtpindajpdkpfjaaGreatDoorGR
import Derived.Deep.CutRange
import Derived.BigRegion
import Derived.Test.YtpindajpdkpfjaaGreatDoorRk2


namespace Go.Proofs.YtpindajpdkpfjaaGreatDoor.lawRecut
open Go Go.RowKit Go.Proofs.YtpindajpdkpfjaaGreatDoor
set_option linter.unusedVariables false
set_option linter.unusedSimpArgs false

attribute [local irreducible] wpQuiet in
set_option maxHeartbeats 4000000 in
set_option maxRecDepth 100000 in
theorem p1 (w wr : World) (Aa : Option Addr) (na ca : Nat) (a : List Int) (Ab : Option Addr) (nb cb : Nat) (b : List Int) (HNA : Hid (a.length = na)) (HNB : Hid (b.length = nb)) (hna : na ≤ 4096) (hnb : nb ≤ 4096) (HSA : Hid (SlE u8 w Aa a)) (HSB : Hid (SlE u8 w Ab b)) (HYA : Hid (Byt a)) (HYB : Hid (Byt b)) (HMX : Hid (MaxW w))  (HB : Hid (Below w.heap.size w wr))
    (u2 u3 u4 u5 u6 u7 u8 u9 u10 u11 u12 u13 u14 u15 u16 u17 u18 u19 u20 u21 u22 u23 u24 u25 u26 u27 u28 u29 u30 u31 u32 u33 u34 u35 u36 u37 u38 u39 u40 u41 u42 u43 u44 u45 u46 u47 u48 u49 u50 u51 u52 u53 u54 u55 u56 u57 u58 u59 u60 u61 u62 u63 u64 u65 u66 u67 u68 u69 u70 u71 u72 u73 u74 u75 u76 u77 u78 u79 u80 u81 u82 u83 u84 u85 u86 u87 u88 u89 u90 u91 u92 u93 u94 u95 u96 u97 u98 u99 u100 u101 u102 u103 u104 u105 u106 u107 u108 u109 u110 u111 u112 u113 u114 u115 u116 u117 u118 u119 u120 u121 u122 u123 u124 u125 u126 u127 u128 u129 u130 u131 u132 u133 u134 u135 u136 u137 u138 u139 u140 u141 u142 u143 u144 u145 u146 u147 u148 u149 u150 u151 u152 u153 u154 u155 u156 u157 u158 u159 u160 u161 u162 u163 u164 u165 u166 u167 u168 u169 u170 u171 u172 u173 u174 u175 u176 u177 u178 u179 u180 u181 u182 u183 u184 u185 u186 u187 u188 u189 u190 u191 u192 u193 u194 u195 u196 u197 u198 u199 u200 u201 u202 u203 u204 u205 u206 u207 u208 u209 u210 u211 u212 u213 u214 u215 u216 u217 u218 u219 u220 u221 u222 u223 u224 u225 u226 u227 u228 u229 u230 u231 u232 u233 u234 u235 u236 u237 u238 u239 u240 u241 u242 u243 u244 u245 u246 u247 u248 u249 u250 u251 u252 u253 u254 u255 u256 u257 u258 u259 u260 u261 u262 u263 u264 u265 u266 u267 u268 u269 u270 u271 u272 u273 u274 u275 u276 u277 u278 u279 u280 u281 u282 u283 u284 u285 u286 u287 u288 u289 u290 u291 u292 u293 u294 u295 u296 u297 u298 u299 u300 u301 u302 u303 u304 u305 u306 u307 u308 u309 u310 u311 u312 u313 u314 u315 u316 u317 u318 u319 u320 u321 u322 u323 u324 u325 u326 u327 u328 u329 u330 u331 u332 u333 u334 u335 u336 u337 u338 u339 u340 u341 u342 u343 u344 u345 u346 u347 u348 u349 u350 u351 u352 u353 u354 u355 u356 u357 u358 u359 u360 u361 u362 u363 u364 u365 : Value) :
    Code.wp Tryz.prog (partOf Tryz.f3 [true, true]) (bodyPost Tryz.prog Tryz.f3 fun e w' => e = .returned (.bool true) ∧ Below w.heap.size w w')
      ⟨#[.slice Aa na ca, .slice Ab nb cb, u2, u3, u4, u5, u6, u7, u8, u9, u10, u11, u12, u13, u14, u15, u16, u17, u18, u19, u20, u21, u22, u23, u24, u25, u26, u27, u28, u29, u30, u31, u32, u33, u34, u35, u36, u37, u38, u39, u40, u41, u42, u43, u44, u45, u46, u47, u48, u49, u50, u51, u52, u53, u54, u55, u56, u57, u58, u59, u60, u61, u62, u63, u64, u65, u66, u67, u68, u69, u70, u71, u72, u73, u74, u75, u76, u77, u78, u79, u80, u81, u82, u83, u84, u85, u86, u87, u88, u89, u90, u91, u92, u93, u94, u95, u96, u97, u98, u99, u100, u101, u102, u103, u104, u105, u106, u107, u108, u109, u110, u111, u112, u113, u114, u115, u116, u117, u118, u119, u120, u121, u122, u123, u124, u125, u126, u127, u128, u129, u130, u131, u132, u133, u134, u135, u136, u137, u138, u139, u140, u141, u142, u143, u144, u145, u146, u147, u148, u149, u150, u151, u152, u153, u154, u155, u156, u157, u158, u159, u160, u161, u162, u163, u164, u165, u166, u167, u168, u169, u170, u171, u172, u173, u174, u175, u176, u177, u178, u179, u180, u181, u182, u183, u184, u185, u186, u187, u188, u189, u190, u191, u192, u193, u194, u195, u196, u197, u198, u199, u200, u201, u202, u203, u204, u205, u206, u207, u208, u209, u210, u211, u212, u213, u214, u215, u216, u217, u218, u219, u220, u221, u222, u223, u224, u225, u226, u227, u228, u229, u230, u231, u232, u233, u234, u235, u236, u237, u238, u239, u240, u241, u242, u243, u244, u245, u246, u247, u248, u249, u250, u251, u252, u253, u254, u255, u256, u257, u258, u259, u260, u261, u262, u263, u264, u265, u266, u267, u268, u269, u270, u271, u272, u273, u274, u275, u276, u277, u278, u279, u280, u281, u282, u283, u284, u285, u286, u287, u288, u289, u290, u291, u292, u293, u294, u295, u296, u297, u298, u299, u300, u301, u302, u303, u304, u305, u306, u307, u308, u309, u310, u311, u312, u313, u314, u315, u316, u317, u318, u319, u320, u321, u322, u323, u324, u325, u326, u327, u328, u329, u330, u331, u332, u333, u334, u335, u336, u337, u338, u339, u340, u341, u342, u343, u344, u345, u346, u347, u348, u349, u350, u351, u352, u353, u354, u355, u356, u357, u358, u359, u360, u361, u362, u363, u364, u365], []⟩ wr := by
  conv => arg 2; whnf
  repeat (first | go_values | go_skip | go_guarded | go_step | go_upon)
  go_at_call 5
  refine (p6face_any Aa na ca a wr HNA.out (by omega) (HSA.out.next HB.out) HYA.out).mono ?_
  rintro e w1 ⟨f, S, rfl, hv, hf, hb⟩
  have HV := Lib.hid hv
  have HF := Lib.hid hf
  have hone : (fcV f S).toArray.all (·.oneCell') = true := by
    obtain ⟨_, A2, n2, c2, e2, _⟩ := hf
    rw [e2]; exact one_fc _ _ _ _
  have hlen := fcV_length hf.1 S
  clear hv hf
  dsimp only
  replace HB := Lib.hid (below_step HB.out hb)
  clear hb
  have hb := below_one w1 (.cells (fcV f S).toArray 28)
  replace HF := Lib.hid (HF.out.next hb)
  replace HB := Lib.hid (below_step HB.out hb)
  clear hb
  have K5 := Lib.hid (Blk.new w1 28 (fcV f S))
  repeat ((with_reducible fail_if_success (show wpList _ _ _ (⟨none, .store 28 (.tmp 5) (.tmp 47), _, _, _, _⟩ :: _) _ _)); first | go_values | go_skip | go_guarded | go_step | go_upon)
  refine wpList_store_new rfl 28 (.tmp 5) (.tmp 47) rfl (fcV f S).toArray rfl rfl 28 _ (by rw [List.size_toArray, hlen]; exact szFcI) (by rw [show (fcV f S).toArray.size = 29 by rw [List.size_toArray, hlen]]; rfl) (hone) ?_
  generalize w1.alloc (.cells (fcV f S).toArray 28) = w2 at *
  generalize w1.heap.size = g5 at *
  clear hone
  repeat (first | go_values | go_skip | go_guarded | go_step | go_upon)
  go_at_call 6
  refine (p6prices_any Ab nb cb b w2 HNB.out (by omega) (HSB.out.next HB.out) HYB.out).mono ?_
  rintro e w3 ⟨p, rfl, hp, hb⟩
  have HP := Lib.hid hp
  have hlenP := pcV_length hp.typ
  clear hp
  dsimp only
  replace HF := Lib.hid (HF.out.next hb)
  replace K5 := Lib.hid (K5.out.next hb)
  replace HB := Lib.hid (below_step HB.out hb)
  clear hb
  have hb := below_one w3 (.cells (pcV p).toArray 33)
  replace HF := Lib.hid (HF.out.next hb)
  replace K5 := Lib.hid (K5.out.next hb)
  replace HB := Lib.hid (below_step HB.out hb)
  clear hb
  have K6 := Lib.hid (Blk.new w3 33 (pcV p))
  repeat ((with_reducible fail_if_success (show wpList _ _ _ (⟨none, .store 33 (.tmp 6) (.tmp 49), _, _, _, _⟩ :: _) _ _)); first | go_values | go_skip | go_guarded | go_step | go_upon)
  refine wpList_store_new rfl 33 (.tmp 6) (.tmp 49) rfl (pcV p).toArray rfl rfl 33 _ (by rw [List.size_toArray, hlenP]; exact szPcI) (by rw [show (pcV p).toArray.size = 29 by rw [List.size_toArray, hlenP]]; rfl) (one_pc _) ?_
  generalize w3.alloc (.cells (pcV p).toArray 33) = w4 at *
  generalize w3.heap.size = g6 at *
  repeat (first | go_values | go_skip | go_guarded | go_step | go_upon)
  go_at_call 7
  refine (p6text_any Aa na ca a w4 HNA.out (by omega) (HSA.out.next HB.out) HYA.out).mono ?_
  rintro e w5 ⟨o, rfl, ho, hb⟩
  have HO := Lib.hid ho
  clear ho
  dsimp only
  replace HF := Lib.hid (HF.out.next hb)
  replace K5 := Lib.hid (K5.out.next hb)
  replace K6 := Lib.hid (K6.out.next hb)
  replace HB := Lib.hid (below_step HB.out hb)
  clear hb
  repeat (first | go_values | go_skip | go_guarded | go_step | go_upon)
  go_at_call 7
  refine (p6text_any Ab nb cb b w5 HNB.out (by omega) (HSB.out.next HB.out) HYB.out).mono ?_
  rintro e w6 ⟨s, rfl, hs, hb⟩
  have HS := Lib.hid hs
  clear hs
  dsimp only
  replace HF := Lib.hid (HF.out.next hb)
  replace K5 := Lib.hid (K5.out.next hb)
  replace K6 := Lib.hid (K6.out.next hb)
  replace HB := Lib.hid (below_step HB.out hb)
  clear hb
  repeat (first | go_values | go_skip | go_guarded | go_step | go_upon)
  go_at_call 8
  refine (p6pick_any Ab nb cb b 3 w6 HNB.out (by omega) (HSB.out.next HB.out) HYB.out (by omega)).mono ?_
  rintro e w7 ⟨z, ⟨rfl, z0, z1⟩, hb⟩
  dsimp only
  replace HF := Lib.hid (HF.out.next hb)
  replace K5 := Lib.hid (K5.out.next hb)
  replace K6 := Lib.hid (K6.out.next hb)
  replace HB := Lib.hid (below_step HB.out hb)
  clear hb
  by_cases hz : z = 0
  · subst hz
    repeat ((with_reducible fail_if_success (show Code.wp _ (Code.seq (Code.region 9 _ _) _) _ _ _)); first | go_values | go_skip | go_guarded | go_step | go_upon)
    exact p2 w _ f S HV p HP o o HO HO HMX g5 g6 HF K5 K6 HB _ _ _ _ _ _ _ _ _ _ _ _ _ _ _ _ _ _ _ _ _ _ _ _ _ _ _ _ _ _ _ _ _ _ _ _ _ _ _ _ _ _ _ _ _ _ _ _ _ _ _ _ _ _ _ _ _ _ _ _ _ _ _ _ _ _ _ _ _ _ _ _ _ _ _ _ _ _ _ _ _ _ _ _ _ _ _ _ _ _ _ _ _ _ _ _ _ _ _ _ _ _ _ _ _ _ _ _ _ _ _ _ _ _ _ _ _ _ _ _ _ _ _ _ _ _ _ _ _ _ _ _ _ _ _ _ _ _ _ _ _ _ _ _ _ _ _ _ _ _ _ _ _ _ _ _ _ _ _ _ _ _ _ _ _ _ _ _ _ _ _ _ _ _ _ _ _ _ _ _ _ _ _ _ _ _ _ _ _ _ _ _ _ _ _ _ _ _ _ _ _ _ _ _ _ _ _ _ _ _ _ _ _ _ _ _ _ _ _ _ _ _ _ _ _ _ _ _ _ _ _ _ _ _ _ _ _ _ _ _ _ _ _ _ _ _ _ _ _ _ _ _ _ _ _ _ _ _ _ _ _ _ _ _ _ _ _ _ _ _ _ _ _ _ _ _ _ _ _ _ _ _ _ _ _ _ _ _ _ _ _ _ _ _ _ _ _ _ _ _ _ _ _ _ _ _ _ _ _ _ _ _ _ _ _ _ _ _ _ _ _ _ _ _ _ _ _ _ _ _ _ _ _ _ _ _ _ _ _ _ _ _ _ _ _ _ _ _ _ _ _ _ _ _ _ _ _ _ _ _ _ _
  · have hzb : (z == 0) = false := by simpa using hz
    repeat ((with_reducible fail_if_success (show Code.wp _ (Code.seq (Code.region 9 _ _) _) _ _ _)); first | go_values | go_skip | go_guarded | go_step | go_upon)
    exact p2 w _ f S HV p HP o s HO HS HMX g5 g6 HF K5 K6 HB _ _ _ _ _ _ _ _ _ _ _ _ _ _ _ _ _ _ _ _ _ _ _ _ _ _ _ _ _ _ _ _ _ _ _ _ _ _ _ _ _ _ _ _ _ _ _ _ _ _ _ _ _ _ _ _ _ _ _ _ _ _ _ _ _ _ _ _ _ _ _ _ _ _ _ _ _ _ _ _ _ _ _ _ _ _ _ _ _ _ _ _ _ _ _ _ _ _ _ _ _ _ _ _ _ _ _ _ _ _ _ _ _ _ _ _ _ _ _ _ _ _ _ _ _ _ _ _ _ _ _ _ _ _ _ _ _ _ _ _ _ _ _ _ _ _ _ _ _ _ _ _ _ _ _ _ _ _ _ _ _ _ _ _ _ _ _ _ _ _ _ _ _ _ _ _ _ _ _ _ _ _ _ _ _ _ _ _ _ _ _ _ _ _ _ _ _ _ _ _ _ _ _ _ _ _ _ _ _ _ _ _ _ _ _ _ _ _ _ _ _ _ _ _ _ _ _ _ _ _ _ _ _ _ _ _ _ _ _ _ _ _ _ _ _ _ _ _ _ _ _ _ _ _ _ _ _ _ _ _ _ _ _ _ _ _ _ _ _ _ _ _ _ _ _ _ _ _ _ _ _ _ _ _ _ _ _ _ _ _ _ _ _ _ _ _ _ _ _ _ _ _ _ _ _ _ _ _ _ _ _ _ _ _ _ _ _ _ _ _ _ _ _ _ _ _ _ _ _ _ _ _ _ _ _ _ _ _ _ _ _ _ _ _ _ _ _ _ _ _ _ _ _ _ _ _ _ _ _ _ _ _
end Go.Proofs.YtpindajpdkpfjaaGreatDoor.lawRecut
