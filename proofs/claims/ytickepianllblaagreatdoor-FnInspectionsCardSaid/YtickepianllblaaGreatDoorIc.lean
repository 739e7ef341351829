/- Inspections: what the law looks at where the line is open, walked. -/
import Derived.Test.YtickepianllblaaGreatDoorIa
import Derived.Test.YtickepianllblaaGreatDoorIz
import Derived.Test.YtickepianllblaaGreatDoorDw
import Derived.Deep.DeepCutAuto
import Derived.BigQuiet
namespace Go.Proofs.YtickepianllblaaGreatDoor
open Go.RowKit
set_option maxRecDepth 100000
set_option linter.unusedVariables false
set_option linter.unusedSimpArgs false

set_option maxHeartbeats 8000000 in
theorem cond314 {Q : Exit → Act → World → Prop} {lf : Int} {wr : World} {AL : Option Addr} {nC cl : Nat} {l : List CheckR} {day rides per la : Int} {op : Bool} {w1 w8 : World}
    (HG : Hid (GoodC l)) (Hln : Hid (l.length = nC)) (hdb : 60 ≤ day ∧ day ≤ 99) (hrb : 3000 ≤ rides ∧ rides ≤ 3599) (hpb : 0 ≤ per ∧ per ≤ 110) (hn5 : nC ≤ 5) (hcl : nC ≤ cl) (HF : Hid (∀ y ∈ l, y.Id.size ≤ 1048576))
    (Hop : Hid (rIsOpen l day rides = op)) (Hla : Hid (op = true → la = day + untilTo l day rides per nC)) (RL8 : Hid (Reads w8 w1.heap.size 5 AL nC (l.flatMap CheckR.cells))) (hs8 : w1.heap.size ≤ w8.heap.size)
    (Hlf : Hid (op = true → lf = leftTo l rides nC)) (HB : Hid (Below w8.heap.size w8 wr))
    {s0 s1 s2 s3 s4 s9 s10 s11 s13 s15 s16 s17 s18 s19 s20 s21 s22 s23 s24 s25 s26 s27 s28 s29 s30 s31 s32 s33 s34 s35 s36 s37 s38 s39 s40 s41 s42 s43 s44 s45 s46 s47 s48 s49 s50 s51 s52 s53 s54 s55 s56 s57 s58 s59 s60 s61 s62 s63 s64 s65 s66 s67 s68 s69 s70 s71 s72 s73 s74 s75 s76 s77 s78 s79 s80 s81 s82 s83 s84 s85 s86 s87 s88 s89 s90 s91 s92 s93 s94 s95 s96 s97 s98 s99 s100 s101 s102 s103 s104 s105 s106 s107 s108 s109 s110 s111 s112 s113 s114 s115 s116 s117 s118 s119 s120 s121 s122 s123 s124 s125 s126 s127 s128 s129 s130 s131 s132 s133 s134 s135 s136 s137 s138 s139 s140 s141 s142 s143 s144 s145 s146 s147 s148 s149 s150 s151 s152 s153 s154 s155 s156 s157 s158 s159 s160 s161 s162 s163 s164 s165 s166 s167 s168 s169 s170 s171 s172 s173 s174 s175 s176 s177 s178 s179 s180 s181 s182 s183 s184 s185 s186 s187 s188 s189 s190 s191 s192 s193 s194 s195 s196 s197 s198 s199 s200 s201 s202 s203 s204 s205 s206 s207 s208 s209 s210 s211 s212 s213 s214 s215 s216 s217 s218 s219 s220 s221 s222 s223 s224 s225 s226 s227 s228 s229 s230 s231 s232 s233 s234 s235 s236 s237 s238 s239 s240 s241 s242 s243 s244 s245 s246 s247 s248 s249 s250 s251 s252 s253 s254 s255 s256 s257 s258 s259 s260 s261 s262 s263 s264 s265 s266 s267 s268 s269 s270 s271 s272 s273 s274 s275 s276 s277 s278 s279 s280 s281 s282 s283 s284 s285 s286 s287 s288 s289 s290 s291 s292 s293 s294 s295 s296 s297 s298 s299 s300 s301 s302 s303 s304 s305 s306 s307 s308 s309 s310 s311 s312 s313 s315 s316 s317 s318 s319 s320 s321 s322 s323 s324 s325 s326 s327 s328 s329 s330 s331 s332 s333 s334 s335 s336 s337 s338 s339 s340 s341 s342 s343 s344 s345 s346 s347 s348 s349 s350 s351 s352 s353 s354 s355 s356 s357 s358 s359 s360 s361 s362 s363 s364 s365 s366 s367 s368 s369 s370 s371 s372 s373 s374 s375 s376 s377 s378 s379 s380 s381 s382 s383 s384 s385 s386 s387 s388 s389 s390 s391 s392 s393 s394 s395 s396 s397 s398 s399 s400 s401 s402 s403 s404 s405 s406 s407 s408 s409 s410 s411 s412 s413 s414 s415 s416 s417 s418 s419 s420 s421 s422 s423 s424 s425 s426 s427 s428 s429 s430 s431 s432 s433 s434 : Value}
    (hQ : ∀ (v315 v316 v317 v318 v319 v320 v321 v322 v323 v324 v325 v326 v327 v328 v329 v330 v331 v332 v333 v334 v335 v336 v337 v338 v339 v340 v341 v342 v343 v344 v345 v346 v347 v348 v349 v350 v351 v352 v353 v354 v355 v356 v357 v358 v359 v360 v361 v362 v363 v364 v365 v366 v367 v368 v369 v370 : Value) (wx : World), Below w8.heap.size w8 wx → Q .normal { tmps := #[s0, s1, s2, s3, s4, .slice AL nC cl, .int .i64 day, .int .i64 rides, .int .i64 per, s9, s10, s11, .int .i64 lf, s13, .int .i64 la, s15, s16, s17, s18, s19, s20, s21, s22, s23, s24, s25, s26, s27, s28, s29, s30, s31, s32, s33, s34, s35, s36, s37, s38, s39, s40, s41, s42, s43, s44, s45, s46, s47, s48, s49, s50, s51, s52, s53, s54, s55, s56, s57, s58, s59, s60, s61, s62, s63, s64, s65, s66, s67, s68, s69, s70, s71, s72, s73, s74, s75, s76, s77, s78, s79, s80, s81, s82, s83, s84, s85, s86, s87, s88, s89, s90, s91, s92, s93, s94, s95, s96, s97, s98, s99, s100, s101, s102, s103, s104, s105, s106, s107, s108, s109, s110, s111, s112, s113, s114, s115, s116, s117, s118, s119, s120, s121, s122, s123, s124, s125, s126, s127, s128, s129, s130, s131, s132, s133, s134, s135, s136, s137, s138, s139, s140, s141, s142, s143, s144, s145, s146, s147, s148, s149, s150, s151, s152, s153, s154, s155, s156, s157, s158, s159, s160, s161, s162, s163, s164, s165, s166, s167, s168, s169, s170, s171, s172, s173, s174, s175, s176, s177, s178, s179, s180, s181, s182, s183, s184, s185, s186, s187, s188, s189, s190, s191, s192, s193, s194, s195, s196, s197, s198, s199, s200, s201, s202, s203, s204, s205, s206, s207, s208, s209, s210, s211, s212, s213, s214, s215, s216, s217, s218, s219, s220, s221, s222, s223, s224, s225, s226, s227, s228, s229, s230, s231, s232, s233, s234, s235, s236, s237, s238, s239, s240, s241, s242, s243, s244, s245, s246, s247, s248, s249, s250, s251, s252, s253, s254, s255, s256, s257, s258, s259, s260, s261, s262, s263, s264, s265, s266, s267, s268, s269, s270, s271, s272, s273, s274, s275, s276, s277, s278, s279, s280, s281, s282, s283, s284, s285, s286, s287, s288, s289, s290, s291, s292, s293, s294, s295, s296, s297, s298, s299, s300, s301, s302, s303, s304, s305, s306, s307, s308, s309, s310, s311, s312, s313, .bool op, v315, v316, v317, v318, v319, v320, v321, v322, v323, v324, v325, v326, v327, v328, v329, v330, v331, v332, v333, v334, v335, v336, v337, v338, v339, v340, v341, v342, v343, v344, v345, v346, v347, v348, v349, v350, v351, v352, v353, v354, v355, v356, v357, v358, v359, v360, v361, v362, v363, v364, v365, v366, v367, v368, v369, v370, s371, s372, s373, s374, s375, s376, s377, s378, s379, s380, s381, s382, s383, s384, s385, s386, s387, s388, s389, s390, s391, s392, s393, s394, s395, s396, s397, s398, s399, s400, s401, s402, s403, s404, s405, s406, s407, s408, s409, s410, s411, s412, s413, s414, s415, s416, s417, s418, s419, s420, s421, s422, s423, s424, s425, s426, s427, s428, s429, s430, s431, s432, s433, s434], defers := [] } wx) :
    Code.wp Tryz.prog (cB (cA (cB (cB (cB (cB (cB (cB (cB (cB (cB (cB (cB (cB (cB (cB ((Tryz.f3.body).getD .skip))))))))))))))))) Q { tmps := #[s0, s1, s2, s3, s4, .slice AL nC cl, .int .i64 day, .int .i64 rides, .int .i64 per, s9, s10, s11, .int .i64 lf, s13, .int .i64 la, s15, s16, s17, s18, s19, s20, s21, s22, s23, s24, s25, s26, s27, s28, s29, s30, s31, s32, s33, s34, s35, s36, s37, s38, s39, s40, s41, s42, s43, s44, s45, s46, s47, s48, s49, s50, s51, s52, s53, s54, s55, s56, s57, s58, s59, s60, s61, s62, s63, s64, s65, s66, s67, s68, s69, s70, s71, s72, s73, s74, s75, s76, s77, s78, s79, s80, s81, s82, s83, s84, s85, s86, s87, s88, s89, s90, s91, s92, s93, s94, s95, s96, s97, s98, s99, s100, s101, s102, s103, s104, s105, s106, s107, s108, s109, s110, s111, s112, s113, s114, s115, s116, s117, s118, s119, s120, s121, s122, s123, s124, s125, s126, s127, s128, s129, s130, s131, s132, s133, s134, s135, s136, s137, s138, s139, s140, s141, s142, s143, s144, s145, s146, s147, s148, s149, s150, s151, s152, s153, s154, s155, s156, s157, s158, s159, s160, s161, s162, s163, s164, s165, s166, s167, s168, s169, s170, s171, s172, s173, s174, s175, s176, s177, s178, s179, s180, s181, s182, s183, s184, s185, s186, s187, s188, s189, s190, s191, s192, s193, s194, s195, s196, s197, s198, s199, s200, s201, s202, s203, s204, s205, s206, s207, s208, s209, s210, s211, s212, s213, s214, s215, s216, s217, s218, s219, s220, s221, s222, s223, s224, s225, s226, s227, s228, s229, s230, s231, s232, s233, s234, s235, s236, s237, s238, s239, s240, s241, s242, s243, s244, s245, s246, s247, s248, s249, s250, s251, s252, s253, s254, s255, s256, s257, s258, s259, s260, s261, s262, s263, s264, s265, s266, s267, s268, s269, s270, s271, s272, s273, s274, s275, s276, s277, s278, s279, s280, s281, s282, s283, s284, s285, s286, s287, s288, s289, s290, s291, s292, s293, s294, s295, s296, s297, s298, s299, s300, s301, s302, s303, s304, s305, s306, s307, s308, s309, s310, s311, s312, s313, .bool op, s315, s316, s317, s318, s319, s320, s321, s322, s323, s324, s325, s326, s327, s328, s329, s330, s331, s332, s333, s334, s335, s336, s337, s338, s339, s340, s341, s342, s343, s344, s345, s346, s347, s348, s349, s350, s351, s352, s353, s354, s355, s356, s357, s358, s359, s360, s361, s362, s363, s364, s365, s366, s367, s368, s369, s370, s371, s372, s373, s374, s375, s376, s377, s378, s379, s380, s381, s382, s383, s384, s385, s386, s387, s388, s389, s390, s391, s392, s393, s394, s395, s396, s397, s398, s399, s400, s401, s402, s403, s404, s405, s406, s407, s408, s409, s410, s411, s412, s413, s414, s415, s416, s417, s418, s419, s420, s421, s422, s423, s424, s425, s426, s427, s428, s429, s430, s431, s432, s433, s434], defers := [] } wr := by
  have HQ := Lib.hid hQ
  have hbs := HB.out.size
  clear hQ
  conv => arg 2; whnf
  cases op with
  | false => as_aux_lemma =>
    go_wp2_with fail
    exact HQ.out _ _ _ _ _ _ _ _ _ _ _ _ _ _ _ _ _ _ _ _ _ _ _ _ _ _ _ _ _ _ _ _ _ _ _ _ _ _ _ _ _ _ _ _ _ _ _ _ _ _ _ _ _ _ _ _ _ HB.out
  | true =>
    have O := HG.out.opened hdb hrb hpb Hop.out
    rw [Hln.out] at O
    have e1 := Hlf.out rfl
    have e2 := Hla.out rfl
    rw [← e1] at O
    obtain ⟨u, hu⟩ : ∃ u, untilTo l day rides per nC = u := ⟨_, rfl⟩
    rw [hu] at O e2
    subst e2
    obtain ⟨b1', b2', b3', b4'⟩ := O.bd
    have HIO := Lib.hid (fun (d r : Int) (W : World) (hW : Below w8.heap.size w8 W) => specIsOpen_any (c := cl) (day := d) (rides := r) (Reads.below RL8.out hW hs8) (Nat.le_trans hs8 hW.size) hcl (by omega) HF.out)
    have I1 := Lib.hid O.i1
    have I2 := Lib.hid O.i2
    have I3 := Lib.hid O.i3
    have g1 : IntKind.i64.wrap (rides + lf) = rides + lf := IntWalk.i64_in _ (by omega)
    have g0 : ¬ day + u < day := by omega
    clear e1 hu O Hlf Hla
    by_cases hn : 0 < nC
    · as_aux_lemma =>
      have hn' : (0 : Int) < (nC : Int) := by omega
      have i2 := I2.out (by rw [Hln.out]; exact hn)
      obtain ⟨uq, i3, i4⟩ := I3.out (by rw [Hln.out]; exact hn)
      have up : 0 ≤ u * per ∧ u * per ≤ 400 * 110 := ⟨Int.mul_nonneg b3' hpb.1, Int.mul_le_mul uq hpb.2 hpb.1 (by omega)⟩
      have up1 : 0 ≤ (u + 1) * per ∧ (u + 1) * per ≤ 401 * 110 := ⟨Int.mul_nonneg (by omega) hpb.1, Int.mul_le_mul (by omega) hpb.2 hpb.1 (by omega)⟩
      have g2 : IntKind.i64.wrap (rides + lf + 1) = rides + lf + 1 := IntWalk.i64_in _ (by omega)
      have g3 : IntKind.i64.wrap (day + u - day) = u := by rw [show day + u - day = u by omega]; exact IntWalk.i64_in _ (by omega)
      have g4 : IntKind.i64.wrap (u * per) = u * per := IntWalk.i64_in _ (by omega)
      have g5 : IntKind.i64.wrap (rides + u * per) = rides + u * per := IntWalk.i64_in _ (by omega)
      have g6 : IntKind.i64.wrap (day + u + 1) = day + u + 1 := IntWalk.i64_in _ (by omega)
      have g7 : IntKind.i64.wrap (day + u + 1 - day) = u + 1 := by rw [show day + u + 1 - day = u + 1 by omega]; exact IntWalk.i64_in _ (by omega)
      have g8 : IntKind.i64.wrap ((u + 1) * per) = (u + 1) * per := IntWalk.i64_in _ (by omega)
      have g9 : IntKind.i64.wrap (rides + (u + 1) * per) = rides + (u + 1) * per := IntWalk.i64_in _ (by omega)
      have J2 := Lib.hid i2
      have J3 := Lib.hid i3
      have J4 := Lib.hid i4
      clear i2 i3 i4 up up1 b1' b2' b3' b4' I2 I3
      go_wp2_with fail
      refine (HIO.out _ _ _ HB.out).mono ?_
      rw [I1.out]
      rintro e w9 ⟨rfl, b9⟩
      have B9 := Lib.hid (HB.out.trans (b9.mono hbs))
      have hs9' := B9.out.size
      clear b9
      go_wp2_with fail
      refine (HIO.out _ _ _ B9.out).mono ?_
      rw [J2.out]
      rintro e w10 ⟨rfl, b10⟩
      have B10 := Lib.hid (B9.out.trans (b10.mono hs9'))
      have hs10' := B10.out.size
      clear b10
      go_wp2_with fail
      refine (HIO.out _ _ _ B10.out).mono ?_
      rw [J3.out]
      rintro e w11 ⟨rfl, b11⟩
      have B11 := Lib.hid (B10.out.trans (b11.mono hs10'))
      have hs11' := B11.out.size
      clear b11
      go_wp2_with fail
      refine (HIO.out _ _ _ B11.out).mono ?_
      rw [J4.out]
      rintro e w12 ⟨rfl, b12⟩
      have B12 := Lib.hid (B11.out.trans (b12.mono hs11'))
      clear b12
      go_wp2_with fail
      exact HQ.out _ _ _ _ _ _ _ _ _ _ _ _ _ _ _ _ _ _ _ _ _ _ _ _ _ _ _ _ _ _ _ _ _ _ _ _ _ _ _ _ _ _ _ _ _ _ _ _ _ _ _ _ _ _ _ _ _ B12.out
    · as_aux_lemma =>
      have hn' : ¬ (0 : Int) < (nC : Int) := by omega
      clear b1' b2' b3' b4' I2 I3
      go_wp2_with fail
      refine (HIO.out _ _ _ HB.out).mono ?_
      rw [I1.out]
      rintro e w9 ⟨rfl, b9⟩
      have B9 := Lib.hid (HB.out.trans (b9.mono hbs))
      clear b9
      go_wp2_with fail
      exact HQ.out _ _ _ _ _ _ _ _ _ _ _ _ _ _ _ _ _ _ _ _ _ _ _ _ _ _ _ _ _ _ _ _ _ _ _ _ _ _ _ _ _ _ _ _ _ _ _ _ _ _ _ _ _ _ _ _ _ B9.out
end Go.Proofs.YtickepianllblaaGreatDoor
