/- The law of cutting again: a piece of its walk. -/
import Derived.Test.YtpindajpdkpfjaaGreatDoorGR
import Derived.Deep.CutRange
import Derived.BigRegion
import Derived.Test.YtpindajpdkpfjaaGreatDoorRk3


namespace Go.Proofs.YtpindajpdkpfjaaGreatDoor.lawRecut
open Go Go.RowKit Go.Proofs.YtpindajpdkpfjaaGreatDoor
set_option linter.unusedVariables false
set_option linter.unusedSimpArgs false

attribute [local irreducible] wpQuiet in
set_option maxHeartbeats 4000000 in
set_option maxRecDepth 100000 in
theorem p2 (w wr : World) (f : Fc) (S : Value) (HV : Hid (validF f = true)) (p : Pc) (HP : Hid (PcG p)) (o s : List UInt8) (HO : Hid (vText o = true)) (HS : Hid (vText s = true)) (HMX : Hid (MaxW w)) (g5 g6 : Nat) (HF : Hid (HasF wr f S)) (K5 : Hid (Blk wr g5 28 (fcV f S))) (K6 : Hid (Blk wr g6 33 (pcV p))) (HB : Hid (Below w.heap.size w wr))
    (u0 u1 u2 u3 u4 u9 u10 u11 u12 u13 u14 u15 u16 u17 u18 u19 u20 u21 u22 u23 u24 u25 u26 u27 u28 u29 u30 u31 u32 u33 u34 u35 u36 u37 u38 u39 u40 u41 u42 u43 u44 u45 u46 u47 u48 u49 u50 u51 u52 u53 u54 u55 u56 u57 u58 u59 u60 u61 u62 u63 u64 u65 u66 u67 u68 u69 u70 u71 u72 u73 u74 u75 u76 u77 u78 u79 u80 u81 u82 u83 u84 u85 u86 u87 u88 u89 u90 u91 u92 u93 u94 u95 u96 u97 u98 u99 u100 u101 u102 u103 u104 u105 u106 u107 u108 u109 u110 u111 u112 u113 u114 u115 u116 u117 u118 u119 u120 u121 u122 u123 u124 u125 u126 u127 u128 u129 u130 u131 u132 u133 u134 u135 u136 u137 u138 u139 u140 u141 u142 u143 u144 u145 u146 u147 u148 u149 u150 u151 u152 u153 u154 u155 u156 u157 u158 u159 u160 u161 u162 u163 u164 u165 u166 u167 u168 u169 u170 u171 u172 u173 u174 u175 u176 u177 u178 u179 u180 u181 u182 u183 u184 u185 u186 u187 u188 u189 u190 u191 u192 u193 u194 u195 u196 u197 u198 u199 u200 u201 u202 u203 u204 u205 u206 u207 u208 u209 u210 u211 u212 u213 u214 u215 u216 u217 u218 u219 u220 u221 u222 u223 u224 u225 u226 u227 u228 u229 u230 u231 u232 u233 u234 u235 u236 u237 u238 u239 u240 u241 u242 u243 u244 u245 u246 u247 u248 u249 u250 u251 u252 u253 u254 u255 u256 u257 u258 u259 u260 u261 u262 u263 u264 u265 u266 u267 u268 u269 u270 u271 u272 u273 u274 u275 u276 u277 u278 u279 u280 u281 u282 u283 u284 u285 u286 u287 u288 u289 u290 u291 u292 u293 u294 u295 u296 u297 u298 u299 u300 u301 u302 u303 u304 u305 u306 u307 u308 u309 u310 u311 u312 u313 u314 u315 u316 u317 u318 u319 u320 u321 u322 u323 u324 u325 u326 u327 u328 u329 u330 u331 u332 u333 u334 u335 u336 u337 u338 u339 u340 u341 u342 u343 u344 u345 u346 u347 u348 u349 u350 u351 u352 u353 u354 u355 u356 u357 u358 u359 u360 u361 u362 u363 u364 u365 : Value) :
    Code.wp Tryz.prog (partOf Tryz.f3 [true, true, true, true, true, true, true]) (bodyPost Tryz.prog Tryz.f3 fun e w' => e = .returned (.bool true) ∧ Below w.heap.size w w')
      ⟨#[u0, u1, u2, u3, u4, .pointer (some ⟨g5, 0, none⟩), .pointer (some ⟨g6, 0, none⟩), .string ⟨o.toArray⟩, .string ⟨s.toArray⟩, u9, u10, u11, u12, u13, u14, u15, u16, u17, u18, u19, u20, u21, u22, u23, u24, u25, u26, u27, u28, u29, u30, u31, u32, u33, u34, u35, u36, u37, u38, u39, u40, u41, u42, u43, u44, u45, u46, u47, u48, u49, u50, u51, u52, u53, u54, u55, u56, u57, u58, u59, u60, u61, u62, u63, u64, u65, u66, u67, u68, u69, u70, u71, u72, u73, u74, u75, u76, u77, u78, u79, u80, u81, u82, u83, u84, u85, u86, u87, u88, u89, u90, u91, u92, u93, u94, u95, u96, u97, u98, u99, u100, u101, u102, u103, u104, u105, u106, u107, u108, u109, u110, u111, u112, u113, u114, u115, u116, u117, u118, u119, u120, u121, u122, u123, u124, u125, u126, u127, u128, u129, u130, u131, u132, u133, u134, u135, u136, u137, u138, u139, u140, u141, u142, u143, u144, u145, u146, u147, u148, u149, u150, u151, u152, u153, u154, u155, u156, u157, u158, u159, u160, u161, u162, u163, u164, u165, u166, u167, u168, u169, u170, u171, u172, u173, u174, u175, u176, u177, u178, u179, u180, u181, u182, u183, u184, u185, u186, u187, u188, u189, u190, u191, u192, u193, u194, u195, u196, u197, u198, u199, u200, u201, u202, u203, u204, u205, u206, u207, u208, u209, u210, u211, u212, u213, u214, u215, u216, u217, u218, u219, u220, u221, u222, u223, u224, u225, u226, u227, u228, u229, u230, u231, u232, u233, u234, u235, u236, u237, u238, u239, u240, u241, u242, u243, u244, u245, u246, u247, u248, u249, u250, u251, u252, u253, u254, u255, u256, u257, u258, u259, u260, u261, u262, u263, u264, u265, u266, u267, u268, u269, u270, u271, u272, u273, u274, u275, u276, u277, u278, u279, u280, u281, u282, u283, u284, u285, u286, u287, u288, u289, u290, u291, u292, u293, u294, u295, u296, u297, u298, u299, u300, u301, u302, u303, u304, u305, u306, u307, u308, u309, u310, u311, u312, u313, u314, u315, u316, u317, u318, u319, u320, u321, u322, u323, u324, u325, u326, u327, u328, u329, u330, u331, u332, u333, u334, u335, u336, u337, u338, u339, u340, u341, u342, u343, u344, u345, u346, u347, u348, u349, u350, u351, u352, u353, u354, u355, u356, u357, u358, u359, u360, u361, u362, u363, u364, u365], []⟩ wr := by
  conv => arg 2; whnf
  have hlenF := fcV_length HF.out.1 S
  have hlenP := pcV_length HP.out.typ
  have hr := rko_of (validF_iff.1 HV.out) HP.out.ok HO.out HS.out
  have h2 := shR_two f o s
  obtain ⟨d, hd⟩ : ∃ d, d = (shR f o s).1 := ⟨_, rfl⟩
  rw [← hd] at hr h2
  obtain ⟨K, hK⟩ : ∃ K, K = kptR f o s d := ⟨_, rfl⟩
  rw [← hK] at hr h2
  obtain ⟨cost, hc⟩ : ∃ cost, cost = (rcR f p o s).1 := ⟨_, rfl⟩
  rw [← hc] at hr
  obtain ⟨full, hfu⟩ : ∃ full, full = prcW f p s := ⟨_, rfl⟩
  rw [← hfu] at hr
  obtain ⟨x, hx⟩ : ∃ x, x = lets o := ⟨_, rfl⟩
  rw [← hx] at hr
  obtain ⟨y, hy⟩ : ∃ y, y = lets s := ⟨_, rfl⟩
  rw [← hy] at hr
  obtain ⟨pa, hpa⟩ : ∃ pa, pa = plW f o o.length := ⟨_, rfl⟩
  rw [← hpa] at hr
  obtain ⟨qa, hqa⟩ : ∃ qa, qa = plW f s s.length := ⟨_, rfl⟩
  rw [← hqa] at hr
  have HR := Lib.hid hr
  have HXE := Lib.hid (show x = lets o ∧ y = lets s ∧ pa = plW f o o.length ∧ qa = plW f s s.length from ⟨hx, hy, hpa, hqa⟩)
  have HSH := Lib.hid (show (d, ((K.length : Nat) : Int)) = shR f o s from Prod.ext hd h2.symm)
  have HC := Lib.hid hc
  have HFU := Lib.hid hfu
  have hdr := hr.dr
  have hkx := hr.kx
  have hx60 := hr.x60
  have HKI := Lib.hid (fun (w' : World) (h : HasF w' f S) (hm : MaxW w') => (show Calls Tryz.prog 13 #[.agg (fcV f S).toArray, .string ⟨o.toArray⟩, .string ⟨s.toArray⟩, .int .i64 d] w' (LOut w' K 0) by rw [hK]; exact kept_implL f S o s d w' h HV.out HO.out HS.out hdr hm))
  have HKS := Lib.hid (fun (w' : World) (h : HasF w' f S) => (show Calls Tryz.prog 14 #[.agg (fcV f S).toArray, .string ⟨o.toArray⟩, .string ⟨s.toArray⟩, .int .i64 d] w' (LOut w' K 0) by rw [hK]; exact kept_specL f S o s d w' h HV.out HO.out HS.out hdr))
  clear hr h2 hd hK hc hfu hx hy hpa hqa
  repeat ((with_reducible fail_if_success (show wpList _ _ _ (⟨some 59, _, _, _, _, _⟩ :: _) _ _)); first | go_values | go_skip | go_guarded | go_step | go_upon)
  refine wpList_val (by kernel_rfl) (.agg (fcV f S).toArray) _ (exec_load_row 28 (.tmp 5) rfl g5 (by kernel_rfl) 28 (fcV f S).toArray _ _ K5.out Tryz.underlying28 rfl (by rw [List.size_toArray, hlenF]; exact szFcI)) ?_
  repeat (first | go_values | go_skip | go_guarded | go_step | go_upon)
  go_at_call 9
  refine (bestS_implL f S o s wr HF.out HV.out HO.out HS.out (HMX.out.next HB.out) d (K.length : Nat) HSH.out).mono ?_
  rintro e w1 ⟨rfl, hb⟩
  dsimp only
  replace HF := Lib.hid (HF.out.next hb)
  replace K5 := Lib.hid (K5.out.next hb)
  replace K6 := Lib.hid (K6.out.next hb)
  replace HB := Lib.hid (below_step HB.out hb)
  clear hb
  repeat ((with_reducible fail_if_success (show wpList _ _ _ (⟨some 67, _, _, _, _, _⟩ :: _) _ _)); first | go_values | go_skip | go_guarded | go_step | go_upon)
  refine wpList_val (by kernel_rfl) (.agg (fcV f S).toArray) _ (exec_load_row 28 (.tmp 5) rfl g5 (by kernel_rfl) 28 (fcV f S).toArray _ _ K5.out Tryz.underlying28 rfl (by rw [List.size_toArray, hlenF]; exact szFcI)) ?_
  repeat (first | go_values | go_skip | go_guarded | go_step | go_upon)
  go_at_call 10
  refine (bestS_specL f S o s w1 HF.out HV.out HO.out HS.out d (K.length : Nat) HSH.out).mono ?_
  rintro e w2 ⟨rfl, hb⟩
  dsimp only
  replace HF := Lib.hid (HF.out.next hb)
  replace K5 := Lib.hid (K5.out.next hb)
  replace K6 := Lib.hid (K6.out.next hb)
  replace HB := Lib.hid (below_step HB.out hb)
  clear hb
  repeat ((with_reducible fail_if_success (show wpList _ _ _ (⟨some 75, _, _, _, _, _⟩ :: _) _ _)); first | go_values | go_skip | go_guarded | go_step | go_upon)
  refine wpList_val (by kernel_rfl) (.agg (fcV f S).toArray) _ (exec_load_row 28 (.tmp 5) rfl g5 (by kernel_rfl) 28 (fcV f S).toArray _ _ K5.out Tryz.underlying28 rfl (by rw [List.size_toArray, hlenF]; exact szFcI)) ?_
  repeat ((with_reducible fail_if_success (show wpList _ _ _ (⟨some 76, _, _, _, _, _⟩ :: _) _ _)); first | go_values | go_skip | go_guarded | go_step | go_upon)
  refine wpList_val (by kernel_rfl) (.agg (pcV p).toArray) _ (exec_load_row 33 (.tmp 6) rfl g6 (by kernel_rfl) 33 (pcV p).toArray _ _ K6.out Tryz.underlying33 rfl (by rw [List.size_toArray, hlenP]; exact szPcI)) ?_
  repeat (first | go_values | go_skip | go_guarded | go_step | go_upon)
  go_at_call 11
  refine (recut_implL f S p o s w2 HF.out HV.out HP.out HO.out HS.out (HMX.out.next HB.out) cost HC.out).mono ?_
  rintro e w3 ⟨rfl, hb⟩
  dsimp only
  replace HF := Lib.hid (HF.out.next hb)
  replace K5 := Lib.hid (K5.out.next hb)
  replace K6 := Lib.hid (K6.out.next hb)
  replace HB := Lib.hid (below_step HB.out hb)
  clear hb
  repeat ((with_reducible fail_if_success (show wpList _ _ _ (⟨some 83, _, _, _, _, _⟩ :: _) _ _)); first | go_values | go_skip | go_guarded | go_step | go_upon)
  refine wpList_val (by kernel_rfl) (.agg (fcV f S).toArray) _ (exec_load_row 28 (.tmp 5) rfl g5 (by kernel_rfl) 28 (fcV f S).toArray _ _ K5.out Tryz.underlying28 rfl (by rw [List.size_toArray, hlenF]; exact szFcI)) ?_
  repeat ((with_reducible fail_if_success (show wpList _ _ _ (⟨some 84, _, _, _, _, _⟩ :: _) _ _)); first | go_values | go_skip | go_guarded | go_step | go_upon)
  refine wpList_val (by kernel_rfl) (.agg (pcV p).toArray) _ (exec_load_row 33 (.tmp 6) rfl g6 (by kernel_rfl) 33 (pcV p).toArray _ _ K6.out Tryz.underlying33 rfl (by rw [List.size_toArray, hlenP]; exact szPcI)) ?_
  repeat (first | go_values | go_skip | go_guarded | go_step | go_upon)
  go_at_call 12
  refine (recut_specL f S p o s w3 HF.out HV.out HP.out HO.out HS.out cost HC.out).mono ?_
  rintro e w4 ⟨rfl, hb⟩
  dsimp only
  replace HF := Lib.hid (HF.out.next hb)
  replace K5 := Lib.hid (K5.out.next hb)
  replace K6 := Lib.hid (K6.out.next hb)
  replace HB := Lib.hid (below_step HB.out hb)
  clear hb
  repeat ((with_reducible fail_if_success (show wpList _ _ _ (⟨some 91, _, _, _, _, _⟩ :: _) _ _)); first | go_values | go_skip | go_guarded | go_step | go_upon)
  refine wpList_val (by kernel_rfl) (.agg (fcV f S).toArray) _ (exec_load_row 28 (.tmp 5) rfl g5 (by kernel_rfl) 28 (fcV f S).toArray _ _ K5.out Tryz.underlying28 rfl (by rw [List.size_toArray, hlenF]; exact szFcI)) ?_
  repeat (first | go_values | go_skip | go_guarded | go_step | go_upon)
  go_at_call 13
  refine (HKI.out w4 HF.out (HMX.out.next HB.out)).mono ?_
  rintro e w5 ⟨B1, d1, ⟨rfl, hs1⟩, hb⟩
  have HK1 := Lib.hid hs1
  clear hs1
  dsimp only
  replace HF := Lib.hid (HF.out.next hb)
  replace K5 := Lib.hid (K5.out.next hb)
  replace K6 := Lib.hid (K6.out.next hb)
  replace HB := Lib.hid (below_step HB.out hb)
  clear hb
  repeat ((with_reducible fail_if_success (show wpList _ _ _ (⟨some 99, _, _, _, _, _⟩ :: _) _ _)); first | go_values | go_skip | go_guarded | go_step | go_upon)
  refine wpList_val (by kernel_rfl) (.agg (fcV f S).toArray) _ (exec_load_row 28 (.tmp 5) rfl g5 (by kernel_rfl) 28 (fcV f S).toArray _ _ K5.out Tryz.underlying28 rfl (by rw [List.size_toArray, hlenF]; exact szFcI)) ?_
  repeat (first | go_values | go_skip | go_guarded | go_step | go_upon)
  go_at_call 14
  refine (HKS.out w5 HF.out).mono ?_
  rintro e w6 ⟨BK, dk, ⟨rfl, hs2⟩, hb⟩
  have HK := Lib.hid hs2
  clear hs2
  dsimp only
  replace HF := Lib.hid (HF.out.next hb)
  replace K5 := Lib.hid (K5.out.next hb)
  replace K6 := Lib.hid (K6.out.next hb)
  replace HK1 := Lib.hid (HK1.out.next hb)
  replace HB := Lib.hid (below_step HB.out hb)
  clear hb
  have hb1 : (d != d) = false := by simp
  have hb2 : (((K.length : Nat) : Int) != ((K.length : Nat) : Int)) = false := by simp
  have hb3 : (cost != cost) = false := by simp
  clear HKI HKS
  repeat (first | go_values | go_skip | go_guarded | go_step | go_upon)
  go_at_call 15
  refine (sameNum_any B1 BK d1 dk K K _ _ w6 rfl rfl (by omega) (by omega) HK1.out HK.out).mono ?_
  rintro e w7 ⟨rfl, hb⟩
  rw [decide_eq_true (rfl : K = K)]
  dsimp only
  replace HF := Lib.hid (HF.out.next hb)
  replace K5 := Lib.hid (K5.out.next hb)
  replace K6 := Lib.hid (K6.out.next hb)
  replace HK1 := Lib.hid (HK1.out.next hb)
  replace HK := Lib.hid (HK.out.next hb)
  replace HB := Lib.hid (below_step HB.out hb)
  clear hb
  repeat ((with_reducible fail_if_success (show Code.wp _ (Code.seq (Code.region 17 _ _) _) _ _ _)); first | go_values | go_skip | go_guarded | go_step | go_upon)
  exact p3 w _ f S HV p HP o s HO HS HMX g5 g6 x y pa qa d K cost full HR HFU HXE BK dk HF K5 K6 HK HB _ _ _ _ _ _ _ _ _ _ _ _ _ _ _ _ _ _ _ _ _ _ _ _ _ _ _ _ _ _ _ _ _ _ _ _ _ _ _ _ _ _ _ _ _ _ _ _ _ _ _ _ _ _ _ _ _ _ _ _ _ _ _ _ _ _ _ _ _ _ _ _ _ _ _ _ _ _ _ _ _ _ _ _ _ _ _ _ _ _ _ _ _ _ _ _ _ _ _ _ _ _ _ _ _ _ _ _ _ _ _ _ _ _ _ _ _ _ _ _ _ _ _ _ _ _ _ _ _ _ _ _ _ _ _ _ _ _ _ _ _ _ _ _ _ _ _ _ _ _ _ _ _ _ _ _ _ _ _ _ _ _ _ _ _ _ _ _ _ _ _ _ _ _ _ _ _ _ _ _ _ _ _ _ _ _ _ _ _ _ _ _ _ _ _ _ _ _ _ _ _ _ _ _ _ _ _ _ _ _ _ _ _ _ _ _ _ _ _ _ _ _ _ _ _ _ _ _ _ _ _ _ _ _ _ _ _ _ _ _ _ _ _ _ _ _ _ _ _ _ _ _ _ _ _ _ _ _ _ _ _ _ _ _ _ _ _ _ _ _ _ _ _ _ _ _ _ _ _ _ _ _ _ _ _ _ _ _ _ _ _ _ _ _ _ _ _ _ _ _ _ _ _ _ _ _ _ _ _ _ _ _ _ _ _ _ _ _ _ _ _ _ _ _ _ _ _ _ _ _ _ _ _ _ _ _ _ _ _ _ _ _ _ _ _ _ _ _ _ _ _ _ _ _ _ _ _ _
end Go.Proofs.YtpindajpdkpfjaaGreatDoor.lawRecut
