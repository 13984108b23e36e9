/- Own lemmas that the theorem of this claim needs: the abstract machine and walks of functions. -/
import Derived.Test.YtegpkkefbmcddaaGreatQeLawAB
import Derived.Test.YtegpkkefbmcddaaGreatProg
set_option linter.unusedSimpArgs false
set_option linter.unusedVariables false
section
namespace Go.Ai
open Go.Proofs
theorem bq : sz? Tryz.prog 3 = some 1 := by kernel_rfl
theorem eM : agg? Tryz.prog 3 = some false := by kernel_rfl
theorem ty_zr3 : zr? Tryz.prog 3 = some [.int .i64 0] := by kernel_rfl
theorem dJ : cls? Tryz.prog 3 = some (.int .i64) := by kernel_rfl
theorem dB : cls? Tryz.prog 4 = some .bool := by kernel_rfl
theorem dx : zr? Tryz.prog 5 = some [.int .u8 0] := by kernel_rfl
theorem dE : cls? Tryz.prog 5 = some (.int .u8) := by kernel_rfl
theorem ca : sz? Tryz.prog 9 = some 1 := by kernel_rfl
theorem cm : agg? Tryz.prog 9 = some false := by kernel_rfl
theorem ty_zr9 : zr? Tryz.prog 9 = some [.string ⟨#[]⟩] := by kernel_rfl
theorem dA : cls? Tryz.prog 9 = some .str := by kernel_rfl
theorem Z8 : sz? Tryz.prog 22 = some 1 := by kernel_rfl
theorem bE : agg? Tryz.prog 22 = some false := by kernel_rfl
theorem Y1 : cls? Tryz.prog 22 = some .sl := by kernel_rfl
theorem ZO : elt? Tryz.prog 22 = some (167, 2, 16) := by kernel_rfl
theorem Zu : sz? Tryz.prog 23 = some 1 := by kernel_rfl
theorem Yr : agg? Tryz.prog 23 = some false := by kernel_rfl
theorem ty_cl23 : cls? Tryz.prog 23 = some .sl := by kernel_rfl
theorem ty_el23 : elt? Tryz.prog 23 = some (25, 1, 24) := by kernel_rfl
theorem ZS : sz? Tryz.prog 24 = some 1 := by kernel_rfl
theorem aw : agg? Tryz.prog 24 = some false := by kernel_rfl
theorem Z1 : cls? Tryz.prog 24 = some .sl := by kernel_rfl
theorem bO : elt? Tryz.prog 24 = some (143, 32, 480) := by kernel_rfl
theorem bL : sz? Tryz.prog 25 = some 1 := by kernel_rfl
theorem ZR : agg? Tryz.prog 25 = some false := by kernel_rfl
theorem ty_zr25 : zr? Tryz.prog 25 = some [.slice none 0 0] := by kernel_rfl
theorem ty_cl25 : cls? Tryz.prog 25 = some .sl := by kernel_rfl
theorem ty_el25 : elt? Tryz.prog 25 = some (3, 1, 8) := by kernel_rfl
theorem aj : sz? Tryz.prog 27 = some 5 := by kernel_rfl
theorem Yv : agg? Tryz.prog 27 = some true := by kernel_rfl
theorem VO : fld? Tryz.prog 27 0 = some (0, 1, false) := by kernel_rfl
theorem Ud : fld? Tryz.prog 27 1 = some (1, 1, false) := by kernel_rfl
theorem WG : fld? Tryz.prog 27 2 = some (2, 1, false) := by kernel_rfl
theorem VT : fld? Tryz.prog 27 3 = some (3, 1, false) := by kernel_rfl
theorem Ux : fld? Tryz.prog 27 4 = some (4, 1, false) := by kernel_rfl
theorem Ze : sz? Tryz.prog 29 = some 2 := by kernel_rfl
theorem Z3 : agg? Tryz.prog 29 = some true := by kernel_rfl
theorem VC : fld? Tryz.prog 29 0 = some (0, 1, false) := by kernel_rfl
theorem VP : fld? Tryz.prog 29 1 = some (1, 1, false) := by kernel_rfl
theorem Zr : sz? Tryz.prog 31 = some 14 := by kernel_rfl
theorem Zz : agg? Tryz.prog 31 = some true := by kernel_rfl
theorem VZ : fld? Tryz.prog 31 0 = some (0, 1, false) := by kernel_rfl
theorem U9 : fld? Tryz.prog 31 1 = some (1, 1, false) := by kernel_rfl
theorem Ut : fld? Tryz.prog 31 2 = some (2, 1, false) := by kernel_rfl
theorem Vx : fld? Tryz.prog 31 3 = some (3, 1, false) := by kernel_rfl
theorem V6 : fld? Tryz.prog 31 4 = some (4, 1, false) := by kernel_rfl
theorem UQ : fld? Tryz.prog 31 5 = some (5, 1, false) := by kernel_rfl
theorem VD : fld? Tryz.prog 31 6 = some (6, 1, false) := by kernel_rfl
theorem Vg : fld? Tryz.prog 31 7 = some (7, 5, true) := by kernel_rfl
theorem WH : fld? Tryz.prog 31 8 = some (12, 2, true) := by kernel_rfl
theorem bN : sz? Tryz.prog 35 = some 1 := by kernel_rfl
theorem bD : agg? Tryz.prog 35 = some false := by kernel_rfl
theorem ty_cl35 : cls? Tryz.prog 35 = some .sl := by kernel_rfl
theorem ty_el35 : elt? Tryz.prog 35 = some (156, 1, 24) := by kernel_rfl
theorem aa : sz? Tryz.prog 37 = some 2 := by kernel_rfl
theorem bC : agg? Tryz.prog 37 = some true := by kernel_rfl
theorem ty_zr37 : zr? Tryz.prog 37 = some [.slice none 0 0, .slice none 0 0] := by kernel_rfl
theorem av : bldOk Tryz.prog 37 = true := by kernel_rfl
theorem US : fld? Tryz.prog 37 0 = some (0, 1, false) := by kernel_rfl
theorem Vl : fld? Tryz.prog 37 1 = some (1, 1, false) := by kernel_rfl
theorem aS : sz? Tryz.prog 40 = some 1 := by kernel_rfl
theorem bG : agg? Tryz.prog 40 = some false := by kernel_rfl
theorem aZ : cls? Tryz.prog 40 = some .sl := by kernel_rfl
theorem ty_el40 : elt? Tryz.prog 40 = some (165, 2, 16) := by kernel_rfl
theorem aJ : sz? Tryz.prog 41 = some 1 := by kernel_rfl
theorem ZV : agg? Tryz.prog 41 = some false := by kernel_rfl
theorem Zn : cls? Tryz.prog 41 = some .sl := by kernel_rfl
theorem ty_el41 : elt? Tryz.prog 41 = some (152, 32, 480) := by kernel_rfl
theorem Zq : sz? Tryz.prog 42 = some 5 := by kernel_rfl
theorem ZW : agg? Tryz.prog 42 = some true := by kernel_rfl
theorem bM : zr? Tryz.prog 42 = some [.int .i64 0, .slice none 0 0, .slice none 0 0, .int .i64 0, .int .i64 0] := by kernel_rfl
theorem Tx : fld? Tryz.prog 42 0 = some (0, 1, false) := by kernel_rfl
theorem Vn : fld? Tryz.prog 42 1 = some (1, 1, false) := by kernel_rfl
theorem VK : fld? Tryz.prog 42 2 = some (2, 1, false) := by kernel_rfl
theorem VA : fld? Tryz.prog 42 3 = some (3, 1, false) := by kernel_rfl
theorem Ve : fld? Tryz.prog 42 4 = some (4, 1, false) := by kernel_rfl
theorem aM : sz? Tryz.prog 43 = some 2 := by kernel_rfl
theorem ZG : agg? Tryz.prog 43 = some true := by kernel_rfl
theorem Z4 : zr? Tryz.prog 43 = some [.slice none 0 0, .slice none 0 0] := by kernel_rfl
theorem V8 : fld? Tryz.prog 43 0 = some (0, 1, false) := by kernel_rfl
theorem V3 : fld? Tryz.prog 43 1 = some (1, 1, false) := by kernel_rfl
theorem bQ : sz? Tryz.prog 45 = some 14 := by kernel_rfl
theorem aE : agg? Tryz.prog 45 = some true := by kernel_rfl
theorem ZA : zr? Tryz.prog 45 = some [.int .i64 0, .int .i64 0, .int .i64 0, .slice none 0 0, .slice none 0 0, .slice none 0 0, .slice none 0 0, .int .i64 0, .slice none 0 0, .slice none 0 0, .int .i64 0, .int .i64 0, .slice none 0 0, .slice none 0 0] := by kernel_rfl
theorem U6 : fld? Tryz.prog 45 0 = some (0, 1, false) := by kernel_rfl
theorem Vw : fld? Tryz.prog 45 1 = some (1, 1, false) := by kernel_rfl
theorem VR : fld? Tryz.prog 45 2 = some (2, 1, false) := by kernel_rfl
theorem Vq : fld? Tryz.prog 45 3 = some (3, 1, false) := by kernel_rfl
theorem U1 : fld? Tryz.prog 45 4 = some (4, 1, false) := by kernel_rfl
theorem V9 : fld? Tryz.prog 45 5 = some (5, 1, false) := by kernel_rfl
theorem U7 : fld? Tryz.prog 45 6 = some (6, 1, false) := by kernel_rfl
theorem Tv : fld? Tryz.prog 45 7 = some (7, 5, true) := by kernel_rfl
theorem VJ : fld? Tryz.prog 45 8 = some (12, 2, true) := by kernel_rfl
theorem ty_cl47 : cls? Tryz.prog 47 = some .sl := by kernel_rfl
theorem ty_el47 : elt? Tryz.prog 47 = some (37, 2, 48) := by kernel_rfl
theorem bI : sz? Tryz.prog 65 = some 1 := by kernel_rfl
theorem ag : agg? Tryz.prog 65 = some false := by kernel_rfl
theorem Y6 : cls? Tryz.prog 65 = some .sl := by kernel_rfl
theorem ty_el65 : elt? Tryz.prog 65 = some (9, 1, 16) := by kernel_rfl
theorem bP : sz? Tryz.prog 67 = some 4 := by kernel_rfl
theorem aR : agg? Tryz.prog 67 = some true := by kernel_rfl
theorem Vu : fld? Tryz.prog 67 0 = some (0, 1, false) := by kernel_rfl
theorem VX : fld? Tryz.prog 67 1 = some (1, 1, false) := by kernel_rfl
theorem UO : fld? Tryz.prog 67 2 = some (2, 1, false) := by kernel_rfl
theorem T5 : fld? Tryz.prog 67 3 = some (3, 1, false) := by kernel_rfl
theorem ZM : cls? Tryz.prog 68 = some (.int .u64) := by kernel_rfl
theorem Zm : sz? Tryz.prog 72 = some 4 := by kernel_rfl
theorem aQ : agg? Tryz.prog 72 = some true := by kernel_rfl
theorem bH : zr? Tryz.prog 72 = some [.int .i64 0, .int .i64 0, .int .i64 0, .slice none 0 0] := by kernel_rfl
theorem V2 : fld? Tryz.prog 72 0 = some (0, 1, false) := by kernel_rfl
theorem V0 : fld? Tryz.prog 72 1 = some (1, 1, false) := by kernel_rfl
theorem VG : fld? Tryz.prog 72 2 = some (2, 1, false) := by kernel_rfl
theorem Vd : fld? Tryz.prog 72 3 = some (3, 1, false) := by kernel_rfl
theorem Y8 : sz? Tryz.prog 96 = some 2 := by kernel_rfl
theorem Zg : zr? Tryz.prog 96 = some [.int .i64 0, .int .i64 0] := by kernel_rfl
theorem ZH : bldOk Tryz.prog 96 = true := by kernel_rfl
theorem Vy : fld? Tryz.prog 96 0 = some (0, 1, false) := by kernel_rfl
theorem UE : fld? Tryz.prog 96 1 = some (1, 1, false) := by kernel_rfl
theorem W1 : sz? Tryz.prog 108 = some 1 := by kernel_rfl
theorem Yn : agg? Tryz.prog 108 = some false := by kernel_rfl
theorem XA : cls? Tryz.prog 108 = some .ptr := by kernel_rfl
theorem YI : sz? Tryz.prog 110 = some 15 := by kernel_rfl
theorem Yj : agg? Tryz.prog 110 = some true := by kernel_rfl
theorem W6 : zr? Tryz.prog 110 = some [.int .i64 0, .int .i64 0, .int .i64 0, .slice none 0 0, .slice none 0 0, .slice none 0 0, .slice none 0 0, .int .i64 0, .slice none 0 0, .slice none 0 0, .int .i64 0, .int .i64 0, .slice none 0 0, .slice none 0 0, .pointer none] := by kernel_rfl
theorem XU : bldOk Tryz.prog 110 = true := by kernel_rfl
theorem R5 : fld? Tryz.prog 110 0 = some (0, 14, true) := by kernel_rfl
theorem SI : fld? Tryz.prog 110 1 = some (14, 1, false) := by kernel_rfl
theorem RJ : fld? Tryz.prog 129 0 = some (0, 1, false) := by kernel_rfl
theorem SZ : fld? Tryz.prog 129 1 = some (1, 1, false) := by kernel_rfl
theorem XP : sz? Tryz.prog 143 = some 32 := by kernel_rfl
theorem YY : agg? Tryz.prog 143 = some true := by kernel_rfl
theorem Sb : fld? Tryz.prog 143 0 = some (0, 1, false) := by kernel_rfl
theorem Rt : fld? Tryz.prog 143 1 = some (1, 5, true) := by kernel_rfl
theorem SL : fld? Tryz.prog 143 2 = some (6, 5, true) := by kernel_rfl
theorem R2 : fld? Tryz.prog 143 3 = some (11, 5, true) := by kernel_rfl
theorem Rj : fld? Tryz.prog 143 4 = some (16, 5, true) := by kernel_rfl
theorem Rp : fld? Tryz.prog 143 5 = some (21, 1, false) := by kernel_rfl
theorem Sf : fld? Tryz.prog 143 6 = some (22, 5, true) := by kernel_rfl
theorem Sp : fld? Tryz.prog 143 7 = some (27, 5, true) := by kernel_rfl
theorem Xl : sz? Tryz.prog 152 = some 32 := by kernel_rfl
theorem Xk : agg? Tryz.prog 152 = some true := by kernel_rfl
theorem ty_zr152 : zr? Tryz.prog 152 = some [.slice none 0 0, .int .i64 0, .slice none 0 0, .slice none 0 0, .int .i64 0, .int .i64 0, .int .i64 0, .slice none 0 0, .slice none 0 0, .int .i64 0, .int .i64 0, .int .i64 0, .slice none 0 0, .slice none 0 0, .int .i64 0, .int .i64 0, .int .i64 0, .slice none 0 0, .slice none 0 0, .int .i64 0, .int .i64 0, .slice none 0 0, .int .i64 0, .slice none 0 0, .slice none 0 0, .int .i64 0, .int .i64 0, .int .i64 0, .slice none 0 0, .slice none 0 0, .int .i64 0, .int .i64 0] := by kernel_rfl
theorem RQ : fld? Tryz.prog 152 0 = some (0, 1, false) := by kernel_rfl
theorem S1 : fld? Tryz.prog 152 1 = some (1, 5, true) := by kernel_rfl
theorem Sh : fld? Tryz.prog 152 2 = some (6, 5, true) := by kernel_rfl
theorem Ro : fld? Tryz.prog 152 3 = some (11, 5, true) := by kernel_rfl
theorem Q5 : fld? Tryz.prog 152 4 = some (16, 5, true) := by kernel_rfl
theorem S8 : fld? Tryz.prog 152 5 = some (21, 1, false) := by kernel_rfl
theorem SG : fld? Tryz.prog 152 6 = some (22, 5, true) := by kernel_rfl
theorem RA : fld? Tryz.prog 152 7 = some (27, 5, true) := by kernel_rfl
theorem Xe : sz? Tryz.prog 156 = some 1 := by kernel_rfl
theorem YE : agg? Tryz.prog 156 = some false := by kernel_rfl
theorem ty_zr156 : zr? Tryz.prog 156 = some [.slice none 0 0] := by kernel_rfl
theorem ty_cl156 : cls? Tryz.prog 156 = some .sl := by kernel_rfl
theorem ty_el156 : elt? Tryz.prog 156 = some (196, 2, 32) := by kernel_rfl
theorem Wx : sz? Tryz.prog 165 = some 2 := by kernel_rfl
theorem XX : agg? Tryz.prog 165 = some true := by kernel_rfl
theorem ty_zr165 : zr? Tryz.prog 165 = some [.int .i64 0, .int .i64 0] := by kernel_rfl
theorem SC : fld? Tryz.prog 165 0 = some (0, 1, false) := by kernel_rfl
theorem Rh : fld? Tryz.prog 165 1 = some (1, 1, false) := by kernel_rfl
theorem X4 : sz? Tryz.prog 167 = some 2 := by kernel_rfl
theorem Wt : agg? Tryz.prog 167 = some true := by kernel_rfl
theorem S2 : fld? Tryz.prog 167 0 = some (0, 1, false) := by kernel_rfl
theorem RU : fld? Tryz.prog 167 1 = some (1, 1, false) := by kernel_rfl
theorem X9 : sz? Tryz.prog 196 = some 2 := by kernel_rfl
theorem Xz : agg? Tryz.prog 196 = some true := by kernel_rfl
theorem ty_zr196 : zr? Tryz.prog 196 = some [.int .i64 0, .slice none 0 0] := by kernel_rfl
theorem Wv : bldOk Tryz.prog 196 = true := by kernel_rfl
theorem Sq : fld? Tryz.prog 196 0 = some (0, 1, false) := by kernel_rfl
theorem Rc : fld? Tryz.prog 196 1 = some (1, 1, false) := by kernel_rfl
theorem W3 : cls? Tryz.prog 212 = some .sl := by kernel_rfl
theorem Wz : elt? Tryz.prog 212 = some (42, 5, 72) := by kernel_rfl
theorem WU : cls? Tryz.prog 227 = some (.int .u64) := by kernel_rfl
theorem Wa : cls? Tryz.prog 228 = some .sl := by kernel_rfl
theorem Xj : elt? Tryz.prog 228 = some (5, 1, 1) := by kernel_rfl
attribute [go_sem] bq eM ty_zr3 dJ dB dx dE ca cm ty_zr9 dA Z8 bE Y1 ZO Zu Yr ty_cl23 ty_el23 ZS aw Z1 bO bL ZR ty_zr25 ty_cl25 ty_el25 aj Yv VO Ud WG VT Ux Ze Z3 VC VP Zr Zz VZ U9 Ut Vx V6 UQ VD Vg WH bN bD ty_cl35 ty_el35 aa bC ty_zr37 av US Vl aS bG aZ ty_el40 aJ ZV Zn ty_el41 Zq ZW bM Tx Vn VK VA Ve aM ZG Z4 V8 V3 bQ aE ZA U6 Vw VR Vq U1 V9 U7 Tv VJ ty_cl47 ty_el47 bI ag Y6 ty_el65 bP aR Vu VX UO T5 ZM Zm aQ bH V2 V0 VG Vd Y8 Zg ZH Vy UE W1 Yn XA YI Yj W6 XU R5 SI RJ SZ XP YY Sb Rt SL R2 Rj Rp Sf Sp Xl Xk ty_zr152 RQ S1 Sh Ro Q5 S8 SG RA Xe YE ty_zr156 ty_cl156 ty_el156 Wx XX ty_zr165 SC Rh X4 Wt S2 RU X9 Xz ty_zr196 Wv Sq Rc W3 Wz WU Wa Xj
end Go.Ai
end
