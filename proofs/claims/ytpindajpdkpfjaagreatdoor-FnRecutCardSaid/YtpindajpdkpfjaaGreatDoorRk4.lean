/- The law of cutting again: a piece of its walk. -/
import Derived.Test.YtpindajpdkpfjaaGreatDoorGR
import Derived.Deep.CutRange
import Derived.BigRegion
import Derived.Test.YtpindajpdkpfjaaGreatDoorRk5


namespace Go.Proofs.YtpindajpdkpfjaaGreatDoor.lawRecut
open Go Go.RowKit Go.Proofs.YtpindajpdkpfjaaGreatDoor
set_option linter.unusedVariables false
set_option linter.unusedSimpArgs false

attribute [local irreducible] wpQuiet in
set_option maxHeartbeats 4000000 in
set_option maxRecDepth 100000 in
theorem sI (w wr : World) (f : Fc) (S : Value) (HV : Hid (validF f = true)) (p : Pc) (HP : Hid (PcG p)) (o s : List UInt8) (HO : Hid (vText o = true)) (HS : Hid (vText s = true)) (HMX : Hid (MaxW w)) (g5 g6 : Nat) (x y : List UInt8) (pa qa : List Int) (d : Int) (K : List Int) (cost full : Int) (HR : Hid (RkO f p o s x y pa qa d K cost full)) (Bp : Option Addr) (dp : Nat) (Bq : Option Addr) (dq : Nat) (k : Nat) (hk : k < y.length) (HPA : Hid (SlE i64 wr Bp pa)) (HQA : Hid (SlE i64 wr Bq qa)) (HB : Hid (Below w.heap.size w wr)) (K : Act → World → Prop) (Q : Exit → Act → World → Prop)
    (u0 u1 u2 u3 u4 u5 u6 u7 u8 u9 u10 u11 u13 u14 u15 u16 u17 u18 u19 u20 u21 u22 u24 u26 u29 u32 u33 u34 u35 u36 u37 u38 u39 u40 u41 u42 u43 u44 u45 u46 u47 u48 u49 u50 u51 u52 u53 u54 u55 u56 u57 u58 u59 u60 u61 u62 u63 u64 u65 u66 u67 u68 u69 u70 u71 u72 u73 u74 u75 u76 u77 u78 u79 u80 u81 u82 u83 u84 u85 u86 u87 u88 u89 u90 u91 u92 u93 u94 u95 u96 u97 u98 u99 u100 u101 u102 u103 u104 u105 u106 u107 u108 u109 u110 u111 u112 u113 u114 u115 u116 u117 u118 u119 u120 u121 u122 u123 u124 u125 u126 u127 u128 u129 u130 u131 u132 u133 u134 u135 u136 u137 u138 u139 u140 u141 u142 u143 u144 u145 u146 u147 u148 u149 u150 u151 u152 u153 u154 u155 u156 u157 u158 u159 u160 u161 u162 u163 u164 u165 u166 u167 u168 u169 u170 u171 u172 u173 u174 u175 u176 u177 u178 u179 u180 u181 u182 u183 u184 u185 u186 u187 u188 u189 u190 u191 u192 u193 u194 u195 u196 u197 u198 u199 u200 u201 u202 u203 u204 u205 u206 u207 u208 u209 u210 u211 u212 u213 u214 u215 u216 u217 u218 u219 u220 u221 u222 u223 u224 u225 u226 u227 u228 u229 u230 u231 u232 u233 u234 u235 u236 u237 u238 u239 u240 u241 u242 u243 u244 u245 u246 u247 u248 u249 u250 u251 u252 u253 u254 u255 u256 u257 u258 u259 u260 u261 u262 u263 u264 u265 u266 u267 u268 u269 u270 u271 u272 u273 u274 u275 u276 u277 u278 u279 u280 u281 u282 u283 u284 u285 u286 u287 u288 u289 u290 u291 u292 u293 u294 u295 u296 u297 u298 u299 u300 u301 u302 u303 u304 u305 u306 u307 u308 u309 u310 u311 u312 u313 u314 u315 u316 u317 u318 u319 u320 u321 u322 u323 u324 u325 u326 u327 u328 u329 u330 u331 u332 u333 u334 u335 u336 u337 u338 u339 u340 u341 u342 u343 u344 u345 u346 u347 u348 u349 u350 u351 u352 u353 u354 u355 u356 u357 u358 u359 u360 u361 u362 u363 u364 u365 : Value) (hK : ∀ (wc : World), Below wr.heap.size wr wc → ∀ (v32 v212 v213 v214 v215 v216 v217 v218 v219 v220 v221 v222 v223 v224 v225 v226 v227 v228 v229 v230 v231 v232 v233 v234 v235 v236 v237 v238 v239 v240 : Value), K ⟨#[u0, u1, u2, u3, u4, u5, u6, u7, u8, u9, u10, u11, .int .i64 d, u13, u14, u15, u16, u17, u18, u19, u20, u21, u22, .slice Bp pa.length dp, u24, .slice Bq qa.length dq, u26, .string ⟨x.toArray⟩, .string ⟨y.toArray⟩, u29, .int .i64 (k : Nat), .bool (kbN x y pa qa d k x.length), v32, u33, u34, u35, u36, u37, u38, u39, u40, u41, u42, u43, u44, u45, u46, u47, u48, u49, u50, u51, u52, u53, u54, u55, u56, u57, u58, u59, u60, u61, u62, u63, u64, u65, u66, u67, u68, u69, u70, u71, u72, u73, u74, u75, u76, u77, u78, u79, u80, u81, u82, u83, u84, u85, u86, u87, u88, u89, u90, u91, u92, u93, u94, u95, u96, u97, u98, u99, u100, u101, u102, u103, u104, u105, u106, u107, u108, u109, u110, u111, u112, u113, u114, u115, u116, u117, u118, u119, u120, u121, u122, u123, u124, u125, u126, u127, u128, u129, u130, u131, u132, u133, u134, u135, u136, u137, u138, u139, u140, u141, u142, u143, u144, u145, u146, u147, u148, u149, u150, u151, u152, u153, u154, u155, u156, u157, u158, u159, u160, u161, u162, u163, u164, u165, u166, u167, u168, u169, u170, u171, u172, u173, u174, u175, u176, u177, u178, u179, u180, u181, u182, u183, u184, u185, u186, u187, u188, u189, u190, u191, u192, u193, u194, u195, u196, u197, u198, u199, u200, u201, u202, u203, u204, u205, u206, u207, u208, u209, u210, u211, v212, v213, v214, v215, v216, v217, v218, v219, v220, v221, v222, v223, v224, v225, v226, v227, v228, v229, v230, v231, v232, v233, v234, v235, v236, v237, v238, v239, v240, u241, u242, u243, u244, u245, u246, u247, u248, u249, u250, u251, u252, u253, u254, u255, u256, u257, u258, u259, u260, u261, u262, u263, u264, u265, u266, u267, u268, u269, u270, u271, u272, u273, u274, u275, u276, u277, u278, u279, u280, u281, u282, u283, u284, u285, u286, u287, u288, u289, u290, u291, u292, u293, u294, u295, u296, u297, u298, u299, u300, u301, u302, u303, u304, u305, u306, u307, u308, u309, u310, u311, u312, u313, u314, u315, u316, u317, u318, u319, u320, u321, u322, u323, u324, u325, u326, u327, u328, u329, u330, u331, u332, u333, u334, u335, u336, u337, u338, u339, u340, u341, u342, u343, u344, u345, u346, u347, u348, u349, u350, u351, u352, u353, u354, u355, u356, u357, u358, u359, u360, u361, u362, u363, u364, u365], []⟩ wc) :
    Code.wp Tryz.prog (partOf Tryz.f3 [true, true, true, true, true, true, true, true, true, true, true, true, true, true, true, true, true, true, true, true, false, true, true, true, true, false, true, true, false]) (Exit.then K Q)
      ⟨#[u0, u1, u2, u3, u4, u5, u6, u7, u8, u9, u10, u11, .int .i64 d, u13, u14, u15, u16, u17, u18, u19, u20, u21, u22, .slice Bp pa.length dp, u24, .slice Bq qa.length dq, u26, .string ⟨x.toArray⟩, .string ⟨y.toArray⟩, u29, .int .i64 (k : Nat), .bool false, u32, u33, u34, u35, u36, u37, u38, u39, u40, u41, u42, u43, u44, u45, u46, u47, u48, u49, u50, u51, u52, u53, u54, u55, u56, u57, u58, u59, u60, u61, u62, u63, u64, u65, u66, u67, u68, u69, u70, u71, u72, u73, u74, u75, u76, u77, u78, u79, u80, u81, u82, u83, u84, u85, u86, u87, u88, u89, u90, u91, u92, u93, u94, u95, u96, u97, u98, u99, u100, u101, u102, u103, u104, u105, u106, u107, u108, u109, u110, u111, u112, u113, u114, u115, u116, u117, u118, u119, u120, u121, u122, u123, u124, u125, u126, u127, u128, u129, u130, u131, u132, u133, u134, u135, u136, u137, u138, u139, u140, u141, u142, u143, u144, u145, u146, u147, u148, u149, u150, u151, u152, u153, u154, u155, u156, u157, u158, u159, u160, u161, u162, u163, u164, u165, u166, u167, u168, u169, u170, u171, u172, u173, u174, u175, u176, u177, u178, u179, u180, u181, u182, u183, u184, u185, u186, u187, u188, u189, u190, u191, u192, u193, u194, u195, u196, u197, u198, u199, u200, u201, u202, u203, u204, u205, u206, u207, u208, u209, u210, u211, u212, u213, u214, u215, u216, u217, u218, u219, u220, u221, u222, u223, u224, u225, u226, u227, u228, u229, u230, u231, u232, u233, u234, u235, u236, u237, u238, u239, u240, u241, u242, u243, u244, u245, u246, u247, u248, u249, u250, u251, u252, u253, u254, u255, u256, u257, u258, u259, u260, u261, u262, u263, u264, u265, u266, u267, u268, u269, u270, u271, u272, u273, u274, u275, u276, u277, u278, u279, u280, u281, u282, u283, u284, u285, u286, u287, u288, u289, u290, u291, u292, u293, u294, u295, u296, u297, u298, u299, u300, u301, u302, u303, u304, u305, u306, u307, u308, u309, u310, u311, u312, u313, u314, u315, u316, u317, u318, u319, u320, u321, u322, u323, u324, u325, u326, u327, u328, u329, u330, u331, u332, u333, u334, u335, u336, u337, u338, u339, u340, u341, u342, u343, u344, u345, u346, u347, u348, u349, u350, u351, u352, u353, u354, u355, u356, u357, u358, u359, u360, u361, u362, u363, u364, u365], []⟩ wr := by
  conv => arg 2; whnf
  have HKK := Lib.hid hK
  clear hK
  repeat ((with_reducible fail_if_success (show Code.wp _ (Code.loop _) _ _ _)); first | go_values | go_skip | go_guarded | go_step | go_upon)
  go_loopw [31, 32] (fun v i wx => ∃ j : Nat, j ≤ x.length ∧ i = .int .i64 j ∧ v = .bool (kbN x y pa qa d k j) ∧ Below wr.heap.size wr wx) (fun _ i _ => x.length - (intOf i).toNat)
  case atStart => exact ⟨0, by omega, rfl, rfl, Below.refl _ _⟩
  case round =>
    obtain ⟨j, hj, rfl, rfl, hbx⟩ := hrel
    have HBI := Lib.hid hbx
    replace HPA := Lib.hid (HPA.out.next hbx)
    replace HQA := Lib.hid (HQA.out.next hbx)
    replace HB := Lib.hid (below_step HB.out hbx)
    clear hbx
    have hx60 := HR.out.x60
    have hy60 := HR.out.y60
    by_cases hlt : j < x.length
    · skip
      have hpl := HR.out.pal
      have hql := HR.out.qal
      have hpa := HR.out.par j hlt
      have hqa := HR.out.qar k hk
      have hdr := HR.out.dr
      have hjp : j < pa.length := by omega
      have hkq : k < qa.length := by omega
      obtain ⟨ap, rfl, rp⟩ := HPA.out.some j hjp
      have HRA := Lib.hid rp
      clear rp
      obtain ⟨aq, rfl, rq⟩ := HQA.out.some k hkq
      have HRQ := Lib.hid rq
      clear rq
      have e1 : IntKind.i64.wrap (rdI qa k + d) = rdI qa k + d := IntWalk.i64_in _ (by omega)
      have hjx : j < (⟨x.toArray⟩ : ByteArray).size := by simp [ByteArray.size]; omega
      have hky : k < (⟨y.toArray⟩ : ByteArray).size := by simp [ByteArray.size]; omega
      repeat ((with_reducible fail_if_success (show Code.wp _ (Code.region 31 _ _) _ _ _)); first | go_values | go_skip | go_guarded | go_step | go_upon)
      cases hkb : kbN x y pa qa d k j
      · cases hby : (byS ⟨x.toArray⟩ j == byS ⟨y.toArray⟩ k)
        · have hn : kbN x y pa qa d k (j + 1) = false := by rw [kbN, hkb, show (byt x j == byt y k) = false from hby]; rfl
          refine region_below (wr.heap.size) (by kernel_rfl) (by kernel_rfl) ?_
          refine below_run (by kernel_rfl) (.bool false) (fun w' hw' => by kernel_rfl) ?_
          refine below_run (by kernel_rfl) (.bool false) (fun w' hw' => by kernel_rfl) ?_
          refine below_run (by kernel_rfl) (.string ⟨x.toArray⟩) (fun w' hw' => by kernel_rfl) ?_
          refine below_run (by kernel_rfl) (.int .i64 (j : Nat)) (fun w' hw' => by kernel_rfl) ?_
          refine below_run (by kernel_rfl) (.int .u8 (byS ⟨x.toArray⟩ j)) (fun w' hw' => exec_byte (.tmp 220) (.tmp 221) rfl ⟨x.toArray⟩ (by kernel_rfl) j (by kernel_rfl) hjx) ?_
          refine below_run (by kernel_rfl) (.string ⟨y.toArray⟩) (fun w' hw' => by kernel_rfl) ?_
          refine below_run (by kernel_rfl) (.int .i64 (k : Nat)) (fun w' hw' => by kernel_rfl) ?_
          refine below_run (by kernel_rfl) (.int .u8 (byS ⟨y.toArray⟩ k)) (fun w' hw' => exec_byte (.tmp 223) (.tmp 224) rfl ⟨y.toArray⟩ (by kernel_rfl) k (by kernel_rfl) hky) ?_
          refine below_run (by kernel_rfl) (.bool false) (fun w' hw' => Eq.trans (show (execOp _ _).run _ w' = .ok (.value (.bool (byS ⟨x.toArray⟩ j == byS ⟨y.toArray⟩ k))) w' by kernel_rfl) (by rw [hby])) ?_
          refine below_run (by kernel_rfl) (.bool false) (fun w' hw' => by kernel_rfl) ?_
          refine BigFrame.wpQuiet_skip (by kernel_rfl) ?_
          refine BigFrame.wpQuiet_skip (by kernel_rfl) ?_
          refine BigFrame.wpQuiet_skip (by kernel_rfl) ?_
          refine BigFrame.wpQuiet_skip (by kernel_rfl) ?_
          refine BigFrame.wpQuiet_skip (by kernel_rfl) ?_
          refine BigFrame.wpQuiet_skip (by kernel_rfl) ?_
          refine BigFrame.wpQuiet_skip (by kernel_rfl) ?_
          refine BigFrame.wpQuiet_skip (by kernel_rfl) ?_
          refine BigFrame.wpQuiet_skip (by kernel_rfl) ?_
          refine BigFrame.wpQuiet_skip (by kernel_rfl) ?_
          refine BigFrame.wpQuiet_skip (by kernel_rfl) ?_
          refine below_run (by kernel_rfl) (.bool false) (fun w' hw' => by kernel_rfl) ?_
          refine below_run (by kernel_rfl) (.bool false) (fun w' hw' => by kernel_rfl) ?_
          refine below_run (by kernel_rfl) (.bool false) (fun w' hw' => by kernel_rfl) ?_
          refine wpQuiet_nil ?_
          intro W1 hW1
          simp only [Act.put, List.setIfInBounds_toArray, List.set_cons_succ, List.set_cons_zero]
          replace HBI := Lib.hid (below_step HBI.out hW1)
          repeat (first | go_values | go_skip | go_guarded | go_step | go_upon)
          go_roundw
          case rel => exact ⟨j + 1, by omega, by go_num, by rw [hn], HBI.out⟩
          case measure => simp [intOf]; omega
        · cases hpq : (rdI pa j == rdI qa k + d)
          · have hn : kbN x y pa qa d k (j + 1) = false := by rw [kbN, hkb, show (byt x j == byt y k) = true from hby, hpq]; rfl
            refine region_below (wr.heap.size) (by kernel_rfl) (by kernel_rfl) ?_
            refine below_run (by kernel_rfl) (.bool false) (fun w' hw' => by kernel_rfl) ?_
            refine below_run (by kernel_rfl) (.bool false) (fun w' hw' => by kernel_rfl) ?_
            refine below_run (by kernel_rfl) (.string ⟨x.toArray⟩) (fun w' hw' => by kernel_rfl) ?_
            refine below_run (by kernel_rfl) (.int .i64 (j : Nat)) (fun w' hw' => by kernel_rfl) ?_
            refine below_run (by kernel_rfl) (.int .u8 (byS ⟨x.toArray⟩ j)) (fun w' hw' => exec_byte (.tmp 220) (.tmp 221) rfl ⟨x.toArray⟩ (by kernel_rfl) j (by kernel_rfl) hjx) ?_
            refine below_run (by kernel_rfl) (.string ⟨y.toArray⟩) (fun w' hw' => by kernel_rfl) ?_
            refine below_run (by kernel_rfl) (.int .i64 (k : Nat)) (fun w' hw' => by kernel_rfl) ?_
            refine below_run (by kernel_rfl) (.int .u8 (byS ⟨y.toArray⟩ k)) (fun w' hw' => exec_byte (.tmp 223) (.tmp 224) rfl ⟨y.toArray⟩ (by kernel_rfl) k (by kernel_rfl) hky) ?_
            refine below_run (by kernel_rfl) (.bool true) (fun w' hw' => Eq.trans (show (execOp _ _).run _ w' = .ok (.value (.bool (byS ⟨x.toArray⟩ j == byS ⟨y.toArray⟩ k))) w' by kernel_rfl) (by rw [hby])) ?_
            refine below_run (by kernel_rfl) (.bool true) (fun w' hw' => by kernel_rfl) ?_
            refine below_run (by kernel_rfl) (.slice (some ap) pa.length dp) (fun w' hw' => by kernel_rfl) ?_
            refine below_run (by kernel_rfl) (.int .i64 (j : Nat)) (fun w' hw' => by kernel_rfl) ?_
            refine below_run (by kernel_rfl) (.pointer (some (Addr.add ap (j * 1)))) (fun w' hw' => exec_index 41 (.tmp 228) (.tmp 229) rfl ap pa.length dp (by kernel_rfl) .i64 j (by kernel_rfl) hjp 2 Tryz.underlying41 1 szI64c) ?_
            refine below_run (by kernel_rfl) (.int .i64 (rdI pa j)) (fun w' hw' => exec_load1 2 (.tmp 230) rfl (ap.add (j * 1)) (by kernel_rfl) (.int .i64 (rdI pa j)) (by rw [Nat.mul_one]; exact (HRA.out.next hw').atI64 j hjp) _ Tryz.underlying2 rfl) ?_
            refine below_run (by kernel_rfl) (.slice (some aq) qa.length dq) (fun w' hw' => by kernel_rfl) ?_
            refine below_run (by kernel_rfl) (.int .i64 (k : Nat)) (fun w' hw' => by kernel_rfl) ?_
            refine below_run (by kernel_rfl) (.pointer (some (Addr.add aq (k * 1)))) (fun w' hw' => exec_index 41 (.tmp 232) (.tmp 233) rfl aq qa.length dq (by kernel_rfl) .i64 k (by kernel_rfl) hkq 2 Tryz.underlying41 1 szI64c) ?_
            refine below_run (by kernel_rfl) (.int .i64 (rdI qa k)) (fun w' hw' => exec_load1 2 (.tmp 234) rfl (aq.add (k * 1)) (by kernel_rfl) (.int .i64 (rdI qa k)) (by rw [Nat.mul_one]; exact (HRQ.out.next hw').atI64 k hkq) _ Tryz.underlying2 rfl) ?_
            refine below_run (by kernel_rfl) (.int .i64 d) (fun w' hw' => by kernel_rfl) ?_
            refine below_run (by kernel_rfl) (.int .i64 (rdI qa k + d)) (fun w' hw' => Eq.trans (show (execOp _ _).run _ w' = .ok (.value (.int .i64 (IntKind.i64.wrap (rdI qa k + d)))) w' by kernel_rfl) (by rw [e1])) ?_
            refine below_run (by kernel_rfl) (.bool false) (fun w' hw' => Eq.trans (show (execOp _ _).run _ w' = .ok (.value (.bool (rdI pa j == rdI qa k + d))) w' by kernel_rfl) (by rw [hpq])) ?_
            refine below_run (by kernel_rfl) (.bool false) (fun w' hw' => by kernel_rfl) ?_
            refine below_run (by kernel_rfl) (.bool false) (fun w' hw' => by kernel_rfl) ?_
            refine below_run (by kernel_rfl) (.bool false) (fun w' hw' => by kernel_rfl) ?_
            refine wpQuiet_nil ?_
            intro W1 hW1
            simp only [Act.put, List.setIfInBounds_toArray, List.set_cons_succ, List.set_cons_zero]
            replace HBI := Lib.hid (below_step HBI.out hW1)
            repeat (first | go_values | go_skip | go_guarded | go_step | go_upon)
            go_roundw
            case rel => exact ⟨j + 1, by omega, by go_num, by rw [hn], HBI.out⟩
            case measure => simp [intOf]; omega
          · have hn : kbN x y pa qa d k (j + 1) = true := by rw [kbN, hkb, show (byt x j == byt y k) = true from hby, hpq]; rfl
            refine region_below (wr.heap.size) (by kernel_rfl) (by kernel_rfl) ?_
            refine below_run (by kernel_rfl) (.bool false) (fun w' hw' => by kernel_rfl) ?_
            refine below_run (by kernel_rfl) (.bool false) (fun w' hw' => by kernel_rfl) ?_
            refine below_run (by kernel_rfl) (.string ⟨x.toArray⟩) (fun w' hw' => by kernel_rfl) ?_
            refine below_run (by kernel_rfl) (.int .i64 (j : Nat)) (fun w' hw' => by kernel_rfl) ?_
            refine below_run (by kernel_rfl) (.int .u8 (byS ⟨x.toArray⟩ j)) (fun w' hw' => exec_byte (.tmp 220) (.tmp 221) rfl ⟨x.toArray⟩ (by kernel_rfl) j (by kernel_rfl) hjx) ?_
            refine below_run (by kernel_rfl) (.string ⟨y.toArray⟩) (fun w' hw' => by kernel_rfl) ?_
            refine below_run (by kernel_rfl) (.int .i64 (k : Nat)) (fun w' hw' => by kernel_rfl) ?_
            refine below_run (by kernel_rfl) (.int .u8 (byS ⟨y.toArray⟩ k)) (fun w' hw' => exec_byte (.tmp 223) (.tmp 224) rfl ⟨y.toArray⟩ (by kernel_rfl) k (by kernel_rfl) hky) ?_
            refine below_run (by kernel_rfl) (.bool true) (fun w' hw' => Eq.trans (show (execOp _ _).run _ w' = .ok (.value (.bool (byS ⟨x.toArray⟩ j == byS ⟨y.toArray⟩ k))) w' by kernel_rfl) (by rw [hby])) ?_
            refine below_run (by kernel_rfl) (.bool true) (fun w' hw' => by kernel_rfl) ?_
            refine below_run (by kernel_rfl) (.slice (some ap) pa.length dp) (fun w' hw' => by kernel_rfl) ?_
            refine below_run (by kernel_rfl) (.int .i64 (j : Nat)) (fun w' hw' => by kernel_rfl) ?_
            refine below_run (by kernel_rfl) (.pointer (some (Addr.add ap (j * 1)))) (fun w' hw' => exec_index 41 (.tmp 228) (.tmp 229) rfl ap pa.length dp (by kernel_rfl) .i64 j (by kernel_rfl) hjp 2 Tryz.underlying41 1 szI64c) ?_
            refine below_run (by kernel_rfl) (.int .i64 (rdI pa j)) (fun w' hw' => exec_load1 2 (.tmp 230) rfl (ap.add (j * 1)) (by kernel_rfl) (.int .i64 (rdI pa j)) (by rw [Nat.mul_one]; exact (HRA.out.next hw').atI64 j hjp) _ Tryz.underlying2 rfl) ?_
            refine below_run (by kernel_rfl) (.slice (some aq) qa.length dq) (fun w' hw' => by kernel_rfl) ?_
            refine below_run (by kernel_rfl) (.int .i64 (k : Nat)) (fun w' hw' => by kernel_rfl) ?_
            refine below_run (by kernel_rfl) (.pointer (some (Addr.add aq (k * 1)))) (fun w' hw' => exec_index 41 (.tmp 232) (.tmp 233) rfl aq qa.length dq (by kernel_rfl) .i64 k (by kernel_rfl) hkq 2 Tryz.underlying41 1 szI64c) ?_
            refine below_run (by kernel_rfl) (.int .i64 (rdI qa k)) (fun w' hw' => exec_load1 2 (.tmp 234) rfl (aq.add (k * 1)) (by kernel_rfl) (.int .i64 (rdI qa k)) (by rw [Nat.mul_one]; exact (HRQ.out.next hw').atI64 k hkq) _ Tryz.underlying2 rfl) ?_
            refine below_run (by kernel_rfl) (.int .i64 d) (fun w' hw' => by kernel_rfl) ?_
            refine below_run (by kernel_rfl) (.int .i64 (rdI qa k + d)) (fun w' hw' => Eq.trans (show (execOp _ _).run _ w' = .ok (.value (.int .i64 (IntKind.i64.wrap (rdI qa k + d)))) w' by kernel_rfl) (by rw [e1])) ?_
            refine below_run (by kernel_rfl) (.bool true) (fun w' hw' => Eq.trans (show (execOp _ _).run _ w' = .ok (.value (.bool (rdI pa j == rdI qa k + d))) w' by kernel_rfl) (by rw [hpq])) ?_
            refine below_run (by kernel_rfl) (.bool true) (fun w' hw' => by kernel_rfl) ?_
            refine below_run (by kernel_rfl) (.bool true) (fun w' hw' => by kernel_rfl) ?_
            refine below_run (by kernel_rfl) (.bool true) (fun w' hw' => by kernel_rfl) ?_
            refine wpQuiet_nil ?_
            intro W1 hW1
            simp only [Act.put, List.setIfInBounds_toArray, List.set_cons_succ, List.set_cons_zero]
            replace HBI := Lib.hid (below_step HBI.out hW1)
            repeat (first | go_values | go_skip | go_guarded | go_step | go_upon)
            go_roundw
            case rel => exact ⟨j + 1, by omega, by go_num, by rw [hn], HBI.out⟩
            case measure => simp [intOf]; omega
      · have hn : kbN x y pa qa d k (j + 1) = true := by rw [kbN, hkb]; rfl
        refine region_below (wr.heap.size) (by kernel_rfl) (by kernel_rfl) ?_
        refine below_run (by kernel_rfl) (.bool true) (fun w' hw' => by kernel_rfl) ?_
        refine below_run (by kernel_rfl) (.bool true) (fun w' hw' => by kernel_rfl) ?_
        refine BigFrame.wpQuiet_skip (by kernel_rfl) ?_
        refine BigFrame.wpQuiet_skip (by kernel_rfl) ?_
        refine BigFrame.wpQuiet_skip (by kernel_rfl) ?_
        refine BigFrame.wpQuiet_skip (by kernel_rfl) ?_
        refine BigFrame.wpQuiet_skip (by kernel_rfl) ?_
        refine BigFrame.wpQuiet_skip (by kernel_rfl) ?_
        refine BigFrame.wpQuiet_skip (by kernel_rfl) ?_
        refine BigFrame.wpQuiet_skip (by kernel_rfl) ?_
        refine BigFrame.wpQuiet_skip (by kernel_rfl) ?_
        refine BigFrame.wpQuiet_skip (by kernel_rfl) ?_
        refine BigFrame.wpQuiet_skip (by kernel_rfl) ?_
        refine BigFrame.wpQuiet_skip (by kernel_rfl) ?_
        refine BigFrame.wpQuiet_skip (by kernel_rfl) ?_
        refine BigFrame.wpQuiet_skip (by kernel_rfl) ?_
        refine BigFrame.wpQuiet_skip (by kernel_rfl) ?_
        refine BigFrame.wpQuiet_skip (by kernel_rfl) ?_
        refine BigFrame.wpQuiet_skip (by kernel_rfl) ?_
        refine BigFrame.wpQuiet_skip (by kernel_rfl) ?_
        refine BigFrame.wpQuiet_skip (by kernel_rfl) ?_
        refine BigFrame.wpQuiet_skip (by kernel_rfl) ?_
        refine below_run (by kernel_rfl) (.bool true) (fun w' hw' => by kernel_rfl) ?_
        refine below_run (by kernel_rfl) (.bool true) (fun w' hw' => by kernel_rfl) ?_
        refine wpQuiet_nil ?_
        intro W1 hW1
        simp only [Act.put, List.setIfInBounds_toArray, List.set_cons_succ, List.set_cons_zero]
        replace HBI := Lib.hid (below_step HBI.out hW1)
        repeat (first | go_values | go_skip | go_guarded | go_step | go_upon)
        go_roundw
        case rel => exact ⟨j + 1, by omega, by go_num, by rw [hn], HBI.out⟩
        case measure => simp [intOf]; omega
    · obtain rfl : j = x.length := by omega
      repeat (first | go_values | go_skip | go_guarded | go_step | go_upon)
      exact HKK.out _ (HBI.out) _ _ _ _ _ _ _ _ _ _ _ _ _ _ _ _ _ _ _ _ _ _ _ _ _ _ _ _ _ _

attribute [local irreducible] wpQuiet in
set_option maxHeartbeats 4000000 in
set_option maxRecDepth 100000 in
theorem p4 (w wr : World) (f : Fc) (S : Value) (HV : Hid (validF f = true)) (p : Pc) (HP : Hid (PcG p)) (o s : List UInt8) (HO : Hid (vText o = true)) (HS : Hid (vText s = true)) (HMX : Hid (MaxW w)) (g5 g6 : Nat) (x y : List UInt8) (pa qa : List Int) (d : Int) (K : List Int) (cost full : Int) (HR : Hid (RkO f p o s x y pa qa d K cost full)) (HFU : Hid (full = prcW f p s)) (BK : Option Addr) (dk : Nat) (Bp : Option Addr) (dp : Nat) (Bq : Option Addr) (dq : Nat) (HF : Hid (HasF wr f S)) (K5 : Hid (Blk wr g5 28 (fcV f S))) (K6 : Hid (Blk wr g6 33 (pcV p))) (HK : Hid (SlE i64 wr BK K)) (HPA : Hid (SlE i64 wr Bp pa)) (HQA : Hid (SlE i64 wr Bq qa)) (HB : Hid (Below w.heap.size w wr))
    (u0 u1 u2 u3 u4 u9 u10 u11 u14 u15 u16 u18 u19 u20 u22 u24 u26 u29 u30 u31 u32 u33 u34 u35 u36 u37 u38 u39 u40 u41 u42 u43 u44 u45 u46 u47 u48 u49 u50 u51 u52 u53 u54 u55 u56 u57 u58 u59 u60 u61 u62 u63 u64 u65 u66 u67 u68 u69 u70 u71 u72 u73 u74 u75 u76 u77 u78 u79 u80 u81 u82 u83 u84 u85 u86 u87 u88 u89 u90 u91 u92 u93 u94 u95 u96 u97 u98 u99 u100 u101 u102 u103 u104 u105 u106 u107 u108 u109 u110 u111 u112 u113 u114 u115 u116 u117 u118 u119 u120 u121 u122 u123 u124 u125 u126 u127 u128 u129 u130 u131 u132 u133 u134 u135 u136 u137 u138 u139 u140 u141 u142 u143 u144 u145 u146 u147 u148 u149 u150 u151 u152 u153 u154 u155 u156 u157 u158 u159 u160 u161 u162 u163 u164 u165 u166 u167 u168 u169 u170 u171 u172 u173 u174 u175 u176 u177 u178 u179 u180 u181 u182 u183 u184 u185 u186 u187 u188 u189 u190 u191 u192 u193 u194 u195 u196 u197 u198 u199 u200 u201 u202 u203 u204 u205 u206 u207 u208 u209 u210 u211 u212 u213 u214 u215 u216 u217 u218 u219 u220 u221 u222 u223 u224 u225 u226 u227 u228 u229 u230 u231 u232 u233 u234 u235 u236 u237 u238 u239 u240 u241 u242 u243 u244 u245 u246 u247 u248 u249 u250 u251 u252 u253 u254 u255 u256 u257 u258 u259 u260 u261 u262 u263 u264 u265 u266 u267 u268 u269 u270 u271 u272 u273 u274 u275 u276 u277 u278 u279 u280 u281 u282 u283 u284 u285 u286 u287 u288 u289 u290 u291 u292 u293 u294 u295 u296 u297 u298 u299 u300 u301 u302 u303 u304 u305 u306 u307 u308 u309 u310 u311 u312 u313 u314 u315 u316 u317 u318 u319 u320 u321 u322 u323 u324 u325 u326 u327 u328 u329 u330 u331 u332 u333 u334 u335 u336 u337 u338 u339 u340 u341 u342 u343 u344 u345 u346 u347 u348 u349 u350 u351 u352 u353 u354 u355 u356 u357 u358 u359 u360 u361 u362 u363 u364 u365 : Value) :
    Code.wp Tryz.prog (partOf Tryz.f3 [true, true, true, true, true, true, true, true, true, true, true, true, true, true, true, true, true, true, true]) (bodyPost Tryz.prog Tryz.f3 fun e w' => e = .returned (.bool true) ∧ Below w.heap.size w w')
      ⟨#[u0, u1, u2, u3, u4, .pointer (some ⟨g5, 0, none⟩), .pointer (some ⟨g6, 0, none⟩), .string ⟨o.toArray⟩, .string ⟨s.toArray⟩, u9, u10, u11, .int .i64 d, .int .i64 (K.length : Nat), u14, u15, u16, .int .i64 cost, u18, u19, u20, .slice BK K.length dk, u22, .slice Bp pa.length dp, u24, .slice Bq qa.length dq, u26, .string ⟨x.toArray⟩, .string ⟨y.toArray⟩, u29, u30, u31, u32, u33, u34, u35, u36, u37, u38, u39, u40, u41, u42, u43, u44, u45, u46, u47, u48, u49, u50, u51, u52, u53, u54, u55, u56, u57, u58, u59, u60, u61, u62, u63, u64, u65, u66, u67, u68, u69, u70, u71, u72, u73, u74, u75, u76, u77, u78, u79, u80, u81, u82, u83, u84, u85, u86, u87, u88, u89, u90, u91, u92, u93, u94, u95, u96, u97, u98, u99, u100, u101, u102, u103, u104, u105, u106, u107, u108, u109, u110, u111, u112, u113, u114, u115, u116, u117, u118, u119, u120, u121, u122, u123, u124, u125, u126, u127, u128, u129, u130, u131, u132, u133, u134, u135, u136, u137, u138, u139, u140, u141, u142, u143, u144, u145, u146, u147, u148, u149, u150, u151, u152, u153, u154, u155, u156, u157, u158, u159, u160, u161, u162, u163, u164, u165, u166, u167, u168, u169, u170, u171, u172, u173, u174, u175, u176, u177, u178, u179, u180, u181, u182, u183, u184, u185, u186, u187, u188, u189, u190, u191, u192, u193, u194, u195, u196, u197, u198, u199, u200, u201, u202, u203, u204, u205, u206, u207, u208, u209, u210, u211, u212, u213, u214, u215, u216, u217, u218, u219, u220, u221, u222, u223, u224, u225, u226, u227, u228, u229, u230, u231, u232, u233, u234, u235, u236, u237, u238, u239, u240, u241, u242, u243, u244, u245, u246, u247, u248, u249, u250, u251, u252, u253, u254, u255, u256, u257, u258, u259, u260, u261, u262, u263, u264, u265, u266, u267, u268, u269, u270, u271, u272, u273, u274, u275, u276, u277, u278, u279, u280, u281, u282, u283, u284, u285, u286, u287, u288, u289, u290, u291, u292, u293, u294, u295, u296, u297, u298, u299, u300, u301, u302, u303, u304, u305, u306, u307, u308, u309, u310, u311, u312, u313, u314, u315, u316, u317, u318, u319, u320, u321, u322, u323, u324, u325, u326, u327, u328, u329, u330, u331, u332, u333, u334, u335, u336, u337, u338, u339, u340, u341, u342, u343, u344, u345, u346, u347, u348, u349, u350, u351, u352, u353, u354, u355, u356, u357, u358, u359, u360, u361, u362, u363, u364, u365], []⟩ wr := by
  conv => arg 2; whnf
  have hlenF := fcV_length HF.out.1 S
  have hlenP := pcV_length HP.out.typ
  have pb := HP.out.ok.base
  have pf := HP.out.ok.fill
  have hx60 := HR.out.x60
  have hkx := HR.out.kx
  have hdr := HR.out.dr
  have hml : 0 ≤ p.fill * ((x.length : Int) - (K.length : Int)) ∧ p.fill * ((x.length : Int) - (K.length : Int)) ≤ 60000 := ⟨Int.mul_nonneg pf.1 (by omega), Int.le_trans (Int.mul_le_mul_of_nonneg_right pf.2 (by omega)) (by omega)⟩
  have c27 := K6.out.cell 27 _ (pcV_base HP.out.typ)
  have c28 := K6.out.cell 28 _ (pcV_fill HP.out.typ)
  have e1 : IntKind.i64.wrap p.base = p.base := IntWalk.i64_in _ (by omega)
  have e2 : IntKind.i64.wrap p.fill = p.fill := IntWalk.i64_in _ (by omega)
  have e3 : IntKind.i64.wrap ((x.length : Int) - (K.length : Int)) = (x.length : Int) - (K.length : Int) := IntWalk.i64_in _ (by omega)
  have e4 : IntKind.i64.wrap (p.fill * ((x.length : Int) - (K.length : Int))) = p.fill * ((x.length : Int) - (K.length : Int)) := IntWalk.i64_in _ (by omega)
  have e5 : IntKind.i64.wrap (p.base + p.fill * ((x.length : Int) - (K.length : Int))) = rcS f p x y pa qa d 0 := by rw [← HR.out.rc0]; exact IntWalk.i64_in _ (by omega)
  repeat ((with_reducible fail_if_success (show Code.wp _ (Code.loop _) _ _ _)); first | go_values | go_skip | go_guarded | go_step | go_upon)
  clear c27 c28 e1 e2 e3 e4 e5 hml
  go_loopw [29, 30] (fun v i wx => ∃ k : Nat, k ≤ y.length ∧ i = .int .i64 k ∧ v = .int .i64 (rcS f p x y pa qa d k) ∧ Below wr.heap.size wr wx) (fun _ i _ => y.length - (intOf i).toNat)
  case atStart => exact ⟨0, by omega, rfl, rfl, Below.refl _ _⟩
  case round =>
    obtain ⟨k, hk, rfl, rfl, hbx⟩ := hrel
    have HBO := Lib.hid hbx
    replace HF := Lib.hid (HF.out.next hbx)
    replace K5 := Lib.hid (K5.out.next hbx)
    replace K6 := Lib.hid (K6.out.next hbx)
    replace HK := Lib.hid (HK.out.next hbx)
    replace HPA := Lib.hid (HPA.out.next hbx)
    replace HQA := Lib.hid (HQA.out.next hbx)
    replace HB := Lib.hid (below_step HB.out hbx)
    clear hbx
    have hy60 := HR.out.y60
    by_cases hlt : k < y.length
    · skip
      repeat ((with_reducible fail_if_success (show Code.wp _ (Code.seq (Code.region 28 _ _) _) _ _ _)); first | go_values | go_skip | go_guarded | go_step | go_upon)
      refine sI w _ f S HV p HP o s HO HS HMX g5 g6 x y pa qa d K cost full HR Bp dp Bq dq k hlt HPA HQA HB _ _ _ _ _ _ _ _ _ _ _ _ _ _ _ _ _ _ _ _ _ _ _ _ _ _ _ _ _ _ _ _ _ _ _ _ _ _ _ _ _ _ _ _ _ _ _ _ _ _ _ _ _ _ _ _ _ _ _ _ _ _ _ _ _ _ _ _ _ _ _ _ _ _ _ _ _ _ _ _ _ _ _ _ _ _ _ _ _ _ _ _ _ _ _ _ _ _ _ _ _ _ _ _ _ _ _ _ _ _ _ _ _ _ _ _ _ _ _ _ _ _ _ _ _ _ _ _ _ _ _ _ _ _ _ _ _ _ _ _ _ _ _ _ _ _ _ _ _ _ _ _ _ _ _ _ _ _ _ _ _ _ _ _ _ _ _ _ _ _ _ _ _ _ _ _ _ _ _ _ _ _ _ _ _ _ _ _ _ _ _ _ _ _ _ _ _ _ _ _ _ _ _ _ _ _ _ _ _ _ _ _ _ _ _ _ _ _ _ _ _ _ _ _ _ _ _ _ _ _ _ _ _ _ _ _ _ _ _ _ _ _ _ _ _ _ _ _ _ _ _ _ _ _ _ _ _ _ _ _ _ _ _ _ _ _ _ _ _ _ _ _ _ _ _ _ _ _ _ _ _ _ _ _ _ _ _ _ _ _ _ _ _ _ _ _ _ _ _ _ _ _ _ _ _ _ _ _ _ _ _ _ _ _ _ _ _ _ _ _ _ _ _ _ _ _ _ _ _ _ _ _ _ _ _ _ _ _ _ _ _ _ _ _ _ _ _ _ _ _ _ _ _ _ _ _ _ _ _ _ _ ?_
      intro w1c hcut
      intros
      have hb := hcut
      clear hcut
      replace HF := Lib.hid (HF.out.next hb)
      replace K5 := Lib.hid (K5.out.next hb)
      replace K6 := Lib.hid (K6.out.next hb)
      replace HK := Lib.hid (HK.out.next hb)
      replace HPA := Lib.hid (HPA.out.next hb)
      replace HQA := Lib.hid (HQA.out.next hb)
      replace HB := Lib.hid (below_step HB.out hb)
      replace HBO := Lib.hid (below_step HBO.out hb)
      clear hb
      obtain ⟨hb, hhb⟩ : ∃ hb, hb = kbN x y pa qa d k x.length := ⟨_, rfl⟩
      rw [← hhb]
      have HHB := Lib.hid hhb
      clear hhb
      have HHN := Lib.hid (fun (w' : World) (h : SlE i64 w' BK K) => (show Calls Tryz.prog 18 #[.slice BK K.length dk, .int .i64 (k : Nat)] w' (fun e w1 => e = .returned (.bool hb) ∧ Below w'.heap.size w' w1) by rw [HHB.out, ← HR.out.mem k hlt]; exact hasNumber_any BK _ dk K k w' rfl (by omega) h))
      have hbb : (hb != hb) = false := by simp
      repeat (first | go_values | go_skip | go_guarded | go_step | go_upon)
      go_at_call 18
      refine (HHN.out w1c HK.out).mono ?_
      rintro e w2 ⟨rfl, hb⟩
      dsimp only
      replace HF := Lib.hid (HF.out.next hb)
      replace K5 := Lib.hid (K5.out.next hb)
      replace K6 := Lib.hid (K6.out.next hb)
      replace HK := Lib.hid (HK.out.next hb)
      replace HPA := Lib.hid (HPA.out.next hb)
      replace HQA := Lib.hid (HQA.out.next hb)
      replace HB := Lib.hid (below_step HB.out hb)
      replace HBO := Lib.hid (below_step HBO.out hb)
      clear hb
      clear HHN
      cases hb
      · skip
        have hlet := isLet_iff.1 (HR.out.yl k hlt)
        have hN26 : letN y k < 26 := by unfold letN; omega
        have hw := (validF_iff.1 HV.out).wide (letN y k) hN26
        have hp := HP.out.ok.lett (letN y k) hN26
        have pg := HP.out.ok.gold
        have hmg := mul_range pg hw
        have hr1 := HR.out.rcr k hk
        have hsum := HR.out.rcn k hlt HHB.out.symm
        have hlp : letP f p (byt y k) = rdI p.lett (letN y k) + p.gold * rdI f.wide (letN y k) := rfl
        rw [hlp] at hsum
        have hsub8 : IntKind.u8.wrap (byt y k - 65) = ((letN y k : Nat) : Int) := by rw [IntWalk.u8_in _ (by omega)]; unfold letN; omega
        have cw := K5.out.cell (letN y k) _ (fcV_wide HF.out.1 S _ hN26)
        have cl := K6.out.cell (letN y k) _ (pcV_lett HP.out.typ _ hN26)
        have cg := K6.out.cell 26 _ (pcV_gold HP.out.typ)
        have e1 : IntKind.i64.wrap (rdI f.wide (letN y k)) = rdI f.wide (letN y k) := IntWalk.i64_in _ (by omega)
        have e2 : IntKind.i64.wrap (rdI p.lett (letN y k)) = rdI p.lett (letN y k) := IntWalk.i64_in _ (by omega)
        have e3 : IntKind.i64.wrap p.gold = p.gold := IntWalk.i64_in _ (by omega)
        have e4 : IntKind.i64.wrap (p.gold * rdI f.wide (letN y k)) = p.gold * rdI f.wide (letN y k) := IntWalk.i64_in _ (by omega)
        have e5 : IntKind.i64.wrap (rdI p.lett (letN y k) + p.gold * rdI f.wide (letN y k)) = rdI p.lett (letN y k) + p.gold * rdI f.wide (letN y k) := IntWalk.i64_in _ (by omega)
        have e6 : IntKind.i64.wrap (rcS f p x y pa qa d k + (rdI p.lett (letN y k) + p.gold * rdI f.wide (letN y k))) = rcS f p x y pa qa d (k + 1) := by rw [hsum]; exact IntWalk.i64_in _ (by omega)
        have hky : k < (⟨y.toArray⟩ : ByteArray).size := by simp [ByteArray.size]; omega
        have hu8 : IntKind.u8.wrap (byS ⟨y.toArray⟩ k - 65) = ((letN y k : Nat) : Int) := hsub8
        clear hsub8 cw cl cg
        repeat ((with_reducible fail_if_success (show Code.wp _ (Code.region 34 _ _) _ _ _)); first | go_values | go_skip | go_guarded | go_step | go_upon)
        clear hsum hlp hlet hmg
        repeat ((with_reducible fail_if_success (show Code.wp _ (Code.region 35 _ _) _ _ _)); first | go_values | go_skip | go_guarded | go_step | go_upon)
        refine region_below (w2.heap.size) (by kernel_rfl) (by kernel_rfl) ?_
        refine below_run (by kernel_rfl) (.int .i64 (rcS f p x y pa qa d k)) (fun w' hw' => by kernel_rfl) ?_
        refine below_run (by kernel_rfl) (.string ⟨y.toArray⟩) (fun w' hw' => by kernel_rfl) ?_
        refine below_run (by kernel_rfl) (.int .i64 (k : Nat)) (fun w' hw' => by kernel_rfl) ?_
        refine below_run (by kernel_rfl) (.int .u8 (byS ⟨y.toArray⟩ k)) (fun w' hw' => exec_byte (.tmp 249) (.tmp 250) rfl ⟨y.toArray⟩ (by kernel_rfl) k (by kernel_rfl) hky) ?_
        refine below_run (by kernel_rfl) (.int .u8 ((letN y k : Nat) : Int)) (fun w' hw' => Eq.trans (show (execOp _ _).run _ w' = .ok (.value (.int .u8 (IntKind.u8.wrap (byS ⟨y.toArray⟩ k - 65)))) w' by kernel_rfl) (by rw [hu8])) ?_
        refine below_run (by kernel_rfl) (.pointer (some ⟨g6, 0, none⟩)) (fun w' hw' => by kernel_rfl) ?_
        refine below_run (by kernel_rfl) (.pointer (some (Addr.add ⟨g6, 0, none⟩ ((letN y k) * 1)))) (fun w' hw' => exec_indexA 31 (.tmp 253) (.tmp 252) rfl ⟨g6, 0, none⟩ (by kernel_rfl) .u8 (letN y k) (by kernel_rfl) 26 hN26 30 Tryz.underlying31 1 szI16) ?_
        refine below_run (by kernel_rfl) (.int .i16 (rdI p.lett (letN y k))) (fun w' hw' => exec_load1 30 (.tmp 254) rfl (Addr.add ⟨g6, 0, none⟩ (letN y k * 1)) (by kernel_rfl) (.int .i16 (rdI p.lett (letN y k))) (by rw [Nat.mul_one, add_mid, Nat.zero_add]; exact (K6.out.next hw').cell (letN y k) _ (pcV_lett HP.out.typ _ hN26)) _ Tryz.underlying30 rfl) ?_
        refine below_run (by kernel_rfl) (.int .i64 (rdI p.lett (letN y k))) (fun w' hw' => Eq.trans (show (execOp _ _).run _ w' = .ok (.value (.int .i64 (IntKind.i64.wrap (rdI p.lett (letN y k))))) w' by kernel_rfl) (by rw [e2])) ?_
        refine below_run (by kernel_rfl) (.pointer (some ⟨g6, 26, none⟩)) (fun w' hw' => by kernel_rfl) ?_
        refine below_run (by kernel_rfl) (.int .i16 p.gold) (fun w' hw' => exec_load1 30 (.tmp 257) rfl ⟨g6, 26, none⟩ (by kernel_rfl) (.int .i16 p.gold) ((K6.out.next hw').cell 26 _ (pcV_gold HP.out.typ)) _ Tryz.underlying30 rfl) ?_
        refine below_run (by kernel_rfl) (.int .i64 (p.gold)) (fun w' hw' => Eq.trans (show (execOp _ _).run _ w' = .ok (.value (.int .i64 (IntKind.i64.wrap (p.gold)))) w' by kernel_rfl) (by rw [e3])) ?_
        refine below_run (by kernel_rfl) (.string ⟨y.toArray⟩) (fun w' hw' => by kernel_rfl) ?_
        refine below_run (by kernel_rfl) (.int .i64 (k : Nat)) (fun w' hw' => by kernel_rfl) ?_
        refine below_run (by kernel_rfl) (.int .u8 (byS ⟨y.toArray⟩ k)) (fun w' hw' => exec_byte (.tmp 260) (.tmp 261) rfl ⟨y.toArray⟩ (by kernel_rfl) k (by kernel_rfl) hky) ?_
        refine below_run (by kernel_rfl) (.int .u8 ((letN y k : Nat) : Int)) (fun w' hw' => Eq.trans (show (execOp _ _).run _ w' = .ok (.value (.int .u8 (IntKind.u8.wrap (byS ⟨y.toArray⟩ k - 65)))) w' by kernel_rfl) (by rw [hu8])) ?_
        refine below_run (by kernel_rfl) (.pointer (some ⟨g5, 0, none⟩)) (fun w' hw' => by kernel_rfl) ?_
        refine below_run (by kernel_rfl) (.pointer (some (Addr.add ⟨g5, 0, none⟩ ((letN y k) * 1)))) (fun w' hw' => exec_indexA 25 (.tmp 264) (.tmp 263) rfl ⟨g5, 0, none⟩ (by kernel_rfl) .u8 (letN y k) (by kernel_rfl) 26 hN26 24 Tryz.underlying25 1 szI8) ?_
        refine below_run (by kernel_rfl) (.int .i8 (rdI f.wide (letN y k))) (fun w' hw' => exec_load1 24 (.tmp 265) rfl (Addr.add ⟨g5, 0, none⟩ (letN y k * 1)) (by kernel_rfl) (.int .i8 (rdI f.wide (letN y k))) (by rw [Nat.mul_one, add_mid, Nat.zero_add]; exact (K5.out.next hw').cell (letN y k) _ (fcV_wide HF.out.1 S _ hN26)) _ Tryz.underlying24 rfl) ?_
        refine below_run (by kernel_rfl) (.int .i64 (rdI f.wide (letN y k))) (fun w' hw' => Eq.trans (show (execOp _ _).run _ w' = .ok (.value (.int .i64 (IntKind.i64.wrap (rdI f.wide (letN y k))))) w' by kernel_rfl) (by rw [e1])) ?_
        refine below_run (by kernel_rfl) (.int .i64 (p.gold * rdI f.wide (letN y k))) (fun w' hw' => Eq.trans (show (execOp _ _).run _ w' = .ok (.value (.int .i64 (IntKind.i64.wrap (p.gold * rdI f.wide (letN y k))))) w' by kernel_rfl) (by rw [e4])) ?_
        refine below_run (by kernel_rfl) (.int .i64 (rdI p.lett (letN y k) + p.gold * rdI f.wide (letN y k))) (fun w' hw' => Eq.trans (show (execOp _ _).run _ w' = .ok (.value (.int .i64 (IntKind.i64.wrap (rdI p.lett (letN y k) + p.gold * rdI f.wide (letN y k))))) w' by kernel_rfl) (by rw [e5])) ?_
        refine below_run (by kernel_rfl) (.int .i64 (rcS f p x y pa qa d (k + 1))) (fun w' hw' => Eq.trans (show (execOp _ _).run _ w' = .ok (.value (.int .i64 (IntKind.i64.wrap (rcS f p x y pa qa d k + (rdI p.lett (letN y k) + p.gold * rdI f.wide (letN y k)))))) w' by kernel_rfl) (by rw [e6])) ?_
        refine below_run (by kernel_rfl) (.int .i64 (rcS f p x y pa qa d (k + 1))) (fun w' hw' => by kernel_rfl) ?_
        refine wpQuiet_nil ?_
        intro W1 hW1
        simp only [Act.put, List.setIfInBounds_toArray, List.set_cons_succ, List.set_cons_zero]
        replace HBO := Lib.hid (below_step HBO.out hW1)
        repeat (first | go_values | go_skip | go_guarded | go_step | go_upon)
        go_roundw
        case rel => exact ⟨k + 1, by omega, by go_num, rfl, HBO.out⟩
        case measure => simp [intOf]; omega
      · have hsum := HR.out.rcy k hlt HHB.out.symm
        repeat (first | go_values | go_skip | go_guarded | go_step | go_upon)
        go_roundw
        case rel => exact ⟨k + 1, by omega, by go_num, by rw [hsum], HBO.out⟩
        case measure => simp [intOf]; omega
    · obtain rfl : k = y.length := by omega
      have hce := HR.out.rce
      rw [hce]
      clear hce
      have hcc : (cost != cost) = false := by simp
      repeat ((with_reducible fail_if_success (show Code.wp _ (Code.seq (Code.seq (Code.region 38 _ _) _) _) _ _ _)); first | go_values | go_skip | go_guarded | go_step | go_upon)
      exact p5 w _ f S HV p HP o s HO HS HMX g5 g6 x y pa qa d K cost full HR HFU HF K5 K6 HB _ _ _ _ _ _ _ _ _ _ _ _ _ _ _ _ _ _ _ _ _ _ _ _ _ _ _ _ _ _ _ _ _ _ _ _ _ _ _ _ _ _ _ _ _ _ _ _ _ _ _ _ _ _ _ _ _ _ _ _ _ _ _ _ _ _ _ _ _ _ _ _ _ _ _ _ _ _ _ _ _ _ _ _ _ _ _ _ _ _ _ _ _ _ _ _ _ _ _ _ _ _ _ _ _ _ _ _ _ _ _ _ _ _ _ _ _ _ _ _ _ _ _ _ _ _ _ _ _ _ _ _ _ _ _ _ _ _ _ _ _ _ _ _ _ _ _ _ _ _ _ _ _ _ _ _ _ _ _ _ _ _ _ _ _ _ _ _ _ _ _ _ _ _ _ _ _ _ _ _ _ _ _ _ _ _ _ _ _ _ _ _ _ _ _ _ _ _ _ _ _ _ _ _ _ _ _ _ _ _ _ _ _ _ _ _ _ _ _ _ _ _ _ _ _ _ _ _ _ _ _ _ _ _ _ _ _ _ _ _ _ _ _ _ _ _ _ _ _ _ _ _ _ _ _ _ _ _ _ _ _ _ _ _ _ _ _ _ _ _ _ _ _ _ _ _ _ _ _ _ _ _ _ _ _ _ _ _ _ _ _ _ _ _ _ _ _ _ _ _ _ _ _ _ _ _ _ _ _ _ _ _ _ _ _ _ _ _ _ _ _ _ _ _ _ _ _ _ _ _ _ _ _ _ _ _ _ _ _ _ _ _ _ _ _ _ _ _ _ _ _ _ _ _ _ _ _ _
end Go.Proofs.YtpindajpdkpfjaaGreatDoor.lawRecut
