/- Inspections: what the law looks at of one inspection, walked. -/
import Derived.Test.YtickepianllblaaGreatDoorIa
import Derived.Test.YtickepianllblaaGreatDoorIz
import Derived.Test.YtickepianllblaaGreatDoorDw
import Derived.Deep.DeepCutAuto
import Derived.BigQuiet
namespace Go.Proofs.YtickepianllblaaGreatDoor
open Go.RowKit
set_option maxRecDepth 100000
set_option linter.unusedVariables false
set_option linter.unusedSimpArgs false

set_option maxHeartbeats 8000000 in
theorem chain26 {Q : Exit → Act → World → Prop} {AL : Option Addr} {adc : Addr} {nC cl cC k bx by_ : Nat} {day rides dv rv ed er ld lr dn : Int} {id : ByteArray} {ov : Bool} {w14 : World}
    (X14 : HC w14 bx [.string id, .int .i64 ed, .int .i64 er, .int .i64 ld, .int .i64 lr]) (Y14 : HC w14 by_ [.string id, .int .i64 ed, .int .i64 er, .int .i64 ld, .int .i64 lr])
    (hcd : w14.cell? (adc.add k) = some (.int .i64 dn)) (hlt : k < nC) (HOv : Hid (ov = (decide (dv < 0) || decide (rv < 0)))) (HDV : Hid (ld + ed - day = dv)) (HRV : Hid (lr + er - rides = rv))
    (HCnt : Hid (0 ≤ dn ∧ dn ≤ 50 ∧ (ov = true → 1 ≤ dn)))
    (hbs : (0 ≤ ld ∧ ld ≤ 100000) ∧ (0 ≤ ed ∧ ed ≤ 100000) ∧ (0 ≤ lr ∧ lr ≤ 1000000) ∧ (0 ≤ er ∧ er ≤ 1000000) ∧ (0 ≤ day ∧ day ≤ 100000) ∧ (0 ≤ rides ∧ rides ≤ 1000000))
    {s0 s1 s2 s3 s4 s8 s9 s10 s11 s12 s13 s14 s15 s16 s17 s19 s26 s29 s30 s31 s32 s33 s34 s35 s36 s37 s38 s39 s40 s41 s42 s43 s44 s45 s46 s47 s48 s49 s50 s51 s52 s53 s54 s55 s56 s57 s58 s59 s60 s61 s62 s63 s64 s65 s66 s67 s68 s69 s70 s71 s72 s73 s74 s75 s76 s77 s78 s79 s80 s81 s82 s83 s84 s85 s86 s87 s88 s89 s90 s91 s92 s93 s94 s95 s96 s97 s98 s99 s100 s101 s102 s103 s104 s105 s106 s107 s108 s109 s110 s111 s112 s113 s114 s115 s116 s117 s118 s119 s120 s121 s122 s123 s124 s125 s126 s127 s128 s129 s130 s131 s132 s133 s134 s135 s136 s137 s138 s139 s140 s141 s142 s143 s144 s145 s146 s147 s148 s149 s150 s151 s152 s153 s154 s155 s156 s157 s158 s159 s160 s161 s162 s163 s164 s165 s166 s167 s168 s169 s170 s171 s172 s173 s174 s175 s176 s177 s178 s179 s180 s181 s182 s183 s184 s185 s186 s187 s188 s189 s190 s191 s192 s193 s194 s195 s196 s197 s198 s199 s200 s201 s202 s203 s204 s205 s206 s207 s208 s209 s210 s211 s212 s213 s214 s215 s216 s217 s218 s219 s220 s221 s222 s223 s224 s225 s226 s227 s228 s229 s230 s231 s232 s233 s234 s235 s236 s237 s238 s239 s240 s241 s242 s243 s244 s245 s246 s247 s248 s249 s250 s251 s252 s253 s254 s255 s256 s257 s258 s259 s260 s261 s262 s263 s264 s265 s266 s267 s268 s269 s270 s271 s272 s273 s274 s275 s276 s277 s278 s279 s280 s281 s282 s283 s284 s285 s286 s287 s288 s289 s290 s291 s292 s293 s294 s295 s296 s297 s298 s299 s300 s301 s302 s303 s304 s305 s306 s307 s308 s309 s310 s311 s312 s313 s314 s315 s316 s317 s318 s319 s320 s321 s322 s323 s324 s325 s326 s327 s328 s329 s330 s331 s332 s333 s334 s335 s336 s337 s338 s339 s340 s341 s342 s343 s344 s345 s346 s347 s348 s349 s350 s351 s352 s353 s354 s355 s356 s357 s358 s359 s360 s361 s362 s363 s364 s365 s366 s367 s368 s369 s370 s371 s372 s373 s374 s375 s376 s377 s378 s379 s380 s381 s382 s383 s384 s385 s386 s387 s388 s389 s390 s391 s392 s393 s394 s395 s396 s397 s398 s399 s400 s401 s402 s403 s404 s405 s406 s407 s408 s409 s410 s411 s412 s413 s414 s415 s416 s417 s418 s419 s420 s421 s422 s423 s424 s425 s426 s427 s428 s429 s430 s431 s432 s433 s434 : Value}
    (hQ : ∀ v180 v181 v182 v183 v184 v185 v186 v187 v188 v189 v190 v191 v192 v193 v194 v195 v196 v197 v198 v199 v200 v201 v202 v203 v204 v205 v206 v207 v208 v209 v210 v211 v212 v213 v214 v215 v216 v217 v218 v219 v220 v221 v222 v223 v224 v225 v226 v227 v228 v229 v230 v231 v232 v233 v234 v235 v236 v237 v238 v239 v240 v241 v242 v243 v244 v245 : Value, Q .normal { tmps := #[s0, s1, s2, s3, s4, .slice AL nC cl, .int .i64 day, .int .i64 rides, s8, s9, s10, s11, s12, s13, s14, s15, s16, s17, .slice (some adc) nC cC, s19, .int .i64 (k : Int), .pointer (some ⟨bx, 0, none⟩), .int .i64 dv, .int .i64 rv, .int .i64 0, .bool ov, s26, .pointer (some ⟨by_, 0, none⟩), .bool true, s29, s30, s31, s32, s33, s34, s35, s36, s37, s38, s39, s40, s41, s42, s43, s44, s45, s46, s47, s48, s49, s50, s51, s52, s53, s54, s55, s56, s57, s58, s59, s60, s61, s62, s63, s64, s65, s66, s67, s68, s69, s70, s71, s72, s73, s74, s75, s76, s77, s78, s79, s80, s81, s82, s83, s84, s85, s86, s87, s88, s89, s90, s91, s92, s93, s94, s95, s96, s97, s98, s99, s100, s101, s102, s103, s104, s105, s106, s107, s108, s109, s110, s111, s112, s113, s114, s115, s116, s117, s118, s119, s120, s121, s122, s123, s124, s125, s126, s127, s128, s129, s130, s131, s132, s133, s134, s135, s136, s137, s138, s139, s140, s141, s142, s143, s144, s145, s146, s147, s148, s149, s150, s151, s152, s153, s154, s155, s156, s157, s158, s159, s160, s161, s162, s163, s164, s165, s166, s167, s168, s169, s170, s171, s172, s173, s174, s175, s176, s177, s178, s179, v180, v181, v182, v183, v184, v185, v186, v187, v188, v189, v190, v191, v192, v193, v194, v195, v196, v197, v198, v199, v200, v201, v202, v203, v204, v205, v206, v207, v208, v209, v210, v211, v212, v213, v214, v215, v216, v217, v218, v219, v220, v221, v222, v223, v224, v225, v226, v227, v228, v229, v230, v231, v232, v233, v234, v235, v236, v237, v238, v239, v240, v241, v242, v243, v244, v245, .bool false, s247, s248, s249, s250, s251, s252, s253, s254, s255, s256, s257, s258, s259, s260, s261, s262, s263, s264, s265, s266, s267, s268, s269, s270, s271, s272, s273, s274, s275, s276, s277, s278, s279, s280, s281, s282, s283, s284, s285, s286, s287, s288, s289, s290, s291, s292, s293, s294, s295, s296, s297, s298, s299, s300, s301, s302, s303, s304, s305, s306, s307, s308, s309, s310, s311, s312, s313, s314, s315, s316, s317, s318, s319, s320, s321, s322, s323, s324, s325, s326, s327, s328, s329, s330, s331, s332, s333, s334, s335, s336, s337, s338, s339, s340, s341, s342, s343, s344, s345, s346, s347, s348, s349, s350, s351, s352, s353, s354, s355, s356, s357, s358, s359, s360, s361, s362, s363, s364, s365, s366, s367, s368, s369, s370, s371, s372, s373, s374, s375, s376, s377, s378, s379, s380, s381, s382, s383, s384, s385, s386, s387, s388, s389, s390, s391, s392, s393, s394, s395, s396, s397, s398, s399, s400, s401, s402, s403, s404, s405, s406, s407, s408, s409, s410, s411, s412, s413, s414, s415, s416, s417, s418, s419, s420, s421, s422, s423, s424, s425, s426, s427, s428, s429, s430, s431, s432, s433, s434], defers := [] } w14) :
    Code.wp Tryz.prog (cA (cA (cB (cB (cB (cB (cB (cK (cA (cB (cL (cK (cB (cA (cB (cB (cB (cB (cB (cB (cB (cB (cB (cB (cB (cB (cB ((Tryz.f3.body).getD .skip)))))))))))))))))))))))))))) Q { tmps := #[s0, s1, s2, s3, s4, .slice AL nC cl, .int .i64 day, .int .i64 rides, s8, s9, s10, s11, s12, s13, s14, s15, s16, s17, .slice (some adc) nC cC, s19, .int .i64 (k : Int), .pointer (some ⟨bx, 0, none⟩), .int .i64 dv, .int .i64 rv, .int .i64 0, .bool ov, s26, .pointer (some ⟨by_, 0, none⟩), .bool true, s29, s30, s31, s32, s33, s34, s35, s36, s37, s38, s39, s40, s41, s42, s43, s44, s45, s46, s47, s48, s49, s50, s51, s52, s53, s54, s55, s56, s57, s58, s59, s60, s61, s62, s63, s64, s65, s66, s67, s68, s69, s70, s71, s72, s73, s74, s75, s76, s77, s78, s79, s80, s81, s82, s83, s84, s85, s86, s87, s88, s89, s90, s91, s92, s93, s94, s95, s96, s97, s98, s99, s100, s101, s102, s103, s104, s105, s106, s107, s108, s109, s110, s111, s112, s113, s114, s115, s116, s117, s118, s119, s120, s121, s122, s123, s124, s125, s126, s127, s128, s129, s130, s131, s132, s133, s134, s135, s136, s137, s138, s139, s140, s141, s142, s143, s144, s145, s146, s147, s148, s149, s150, s151, s152, s153, s154, s155, s156, s157, s158, s159, s160, s161, s162, s163, s164, s165, s166, s167, s168, s169, s170, s171, s172, s173, s174, s175, s176, s177, s178, s179, s180, s181, s182, s183, s184, s185, s186, s187, s188, s189, s190, s191, s192, s193, s194, s195, s196, s197, s198, s199, s200, s201, s202, s203, s204, s205, s206, s207, s208, s209, s210, s211, s212, s213, s214, s215, s216, s217, s218, s219, s220, s221, s222, s223, s224, s225, s226, s227, s228, s229, s230, s231, s232, s233, s234, s235, s236, s237, s238, s239, s240, s241, s242, s243, s244, s245, s246, s247, s248, s249, s250, s251, s252, s253, s254, s255, s256, s257, s258, s259, s260, s261, s262, s263, s264, s265, s266, s267, s268, s269, s270, s271, s272, s273, s274, s275, s276, s277, s278, s279, s280, s281, s282, s283, s284, s285, s286, s287, s288, s289, s290, s291, s292, s293, s294, s295, s296, s297, s298, s299, s300, s301, s302, s303, s304, s305, s306, s307, s308, s309, s310, s311, s312, s313, s314, s315, s316, s317, s318, s319, s320, s321, s322, s323, s324, s325, s326, s327, s328, s329, s330, s331, s332, s333, s334, s335, s336, s337, s338, s339, s340, s341, s342, s343, s344, s345, s346, s347, s348, s349, s350, s351, s352, s353, s354, s355, s356, s357, s358, s359, s360, s361, s362, s363, s364, s365, s366, s367, s368, s369, s370, s371, s372, s373, s374, s375, s376, s377, s378, s379, s380, s381, s382, s383, s384, s385, s386, s387, s388, s389, s390, s391, s392, s393, s394, s395, s396, s397, s398, s399, s400, s401, s402, s403, s404, s405, s406, s407, s408, s409, s410, s411, s412, s413, s414, s415, s416, s417, s418, s419, s420, s421, s422, s423, s424, s425, s426, s427, s428, s429, s430, s431, s432, s433, s434], defers := [] } w14 := by
  have HQ := Lib.hid hQ
  clear hQ
  conv => arg 2; whnf
  have x0 : w14.cell? ⟨bx, 0, none⟩ = some (.string id) := X14.at_ 0 _ rfl
  have x1 : w14.cell? ⟨bx, 1, none⟩ = some (.int .i64 ed) := X14.at_ 1 _ rfl
  have x2 : w14.cell? ⟨bx, 2, none⟩ = some (.int .i64 er) := X14.at_ 2 _ rfl
  have x3 : w14.cell? ⟨bx, 3, none⟩ = some (.int .i64 ld) := X14.at_ 3 _ rfl
  have x4 : w14.cell? ⟨bx, 4, none⟩ = some (.int .i64 lr) := X14.at_ 4 _ rfl
  have y0 : w14.cell? ⟨by_, 0, none⟩ = some (.string id) := Y14.at_ 0 _ rfl
  have y1 : w14.cell? ⟨by_, 1, none⟩ = some (.int .i64 ed) := Y14.at_ 1 _ rfl
  have y2 : w14.cell? ⟨by_, 2, none⟩ = some (.int .i64 er) := Y14.at_ 2 _ rfl
  have y3 : w14.cell? ⟨by_, 3, none⟩ = some (.int .i64 ld) := Y14.at_ 3 _ rfl
  have y4 : w14.cell? ⟨by_, 4, none⟩ = some (.int .i64 lr) := Y14.at_ 4 _ rfl
  have hDV := HDV.out
  have hRV := HRV.out
  have hk0 : (0 : Int) ≤ (k : Int) := by omega
  have hk1 : (k : Int) < (nC : Int) := by omega
  obtain ⟨hn0', hn50, hn1'⟩ := HCnt.out
  have g1 : IntKind.i64.wrap (ld + ed) = ld + ed := IntWalk.i64_in _ (by omega)
  have g2 : IntKind.i64.wrap (ld + ed - day) = dv := by rw [hDV]; exact IntWalk.i64_in _ (by omega)
  have g3 : IntKind.i64.wrap (lr + er) = lr + er := IntWalk.i64_in _ (by omega)
  have g4 : IntKind.i64.wrap (lr + er - rides) = rv := by rw [hRV]; exact IntWalk.i64_in _ (by omega)
  have f1 : ¬ dn < 0 := by omega
  have f2 : ¬ 50 < dn := by omega
  clear hDV hRV hn0' hn50 X14 Y14 hbs HCnt HDV HRV hlt
  by_cases hd0 : dv < 0
  · as_aux_lemma =>
    have h0 : ov = true := by rw [HOv.out, decide_eq_true hd0]; rfl
    have f3 : ¬ dn < 1 := by have := hn1' h0; omega
    subst h0
    clear hn1' HOv
    go_wp2_with fail
    exact HQ.out _ _ _ _ _ _ _ _ _ _ _ _ _ _ _ _ _ _ _ _ _ _ _ _ _ _ _ _ _ _ _ _ _ _ _ _ _ _ _ _ _ _ _ _ _ _ _ _ _ _ _ _ _ _ _ _ _ _ _ _ _ _ _ _ _ _
  · by_cases hr0 : rv < 0
    · as_aux_lemma =>
      have h0 : ov = true := by rw [HOv.out, decide_eq_true hr0, Bool.or_true]
      have f3 : ¬ dn < 1 := by have := hn1' h0; omega
      subst h0
      clear hn1' HOv
      go_wp2_with fail
      exact HQ.out _ _ _ _ _ _ _ _ _ _ _ _ _ _ _ _ _ _ _ _ _ _ _ _ _ _ _ _ _ _ _ _ _ _ _ _ _ _ _ _ _ _ _ _ _ _ _ _ _ _ _ _ _ _ _ _ _ _ _ _ _ _ _ _ _ _
    · as_aux_lemma =>
      have h0 : ov = false := by rw [HOv.out, decide_eq_false hd0, decide_eq_false hr0]; rfl
      subst h0
      clear hn1' HOv
      go_wp2_with fail
      exact HQ.out _ _ _ _ _ _ _ _ _ _ _ _ _ _ _ _ _ _ _ _ _ _ _ _ _ _ _ _ _ _ _ _ _ _ _ _ _ _ _ _ _ _ _ _ _ _ _ _ _ _ _ _ _ _ _ _ _ _ _ _ _ _ _ _ _ _
end Go.Proofs.YtickepianllblaaGreatDoor
