/- Own lemmas that the theorem of this claim needs: the abstract machine and walks of functions. -/
import Derived.Test.YtegpkkefbmcddaaGreatQfLawAB
import Derived.Test.YtegpkkefbmcddaaGreatProg
set_option linter.unusedSimpArgs false
set_option linter.unusedVariables false
section
namespace Go.Ai
open Go.Proofs
theorem dA : sz? Tryz.prog 3 = some 1 := by kernel_rfl
theorem dm : agg? Tryz.prog 3 = some false := by kernel_rfl
theorem ty_zr3 : zr? Tryz.prog 3 = some [.int .i64 0] := by kernel_rfl
theorem dU : cls? Tryz.prog 3 = some (.int .i64) := by kernel_rfl
theorem eO : cls? Tryz.prog 4 = some .bool := by kernel_rfl
theorem dK : zr? Tryz.prog 5 = some [.int .u8 0] := by kernel_rfl
theorem dE : cls? Tryz.prog 5 = some (.int .u8) := by kernel_rfl
theorem di : sz? Tryz.prog 9 = some 1 := by kernel_rfl
theorem dF : agg? Tryz.prog 9 = some false := by kernel_rfl
theorem ty_zr9 : zr? Tryz.prog 9 = some [.string ⟨#[]⟩] := by kernel_rfl
theorem bt : cls? Tryz.prog 9 = some .str := by kernel_rfl
theorem Y0 : sz? Tryz.prog 22 = some 1 := by kernel_rfl
theorem Zy : agg? Tryz.prog 22 = some false := by kernel_rfl
theorem Zf : cls? Tryz.prog 22 = some .sl := by kernel_rfl
theorem ag : elt? Tryz.prog 22 = some (167, 2, 16) := by kernel_rfl
theorem Y5 : sz? Tryz.prog 23 = some 1 := by kernel_rfl
theorem Y4 : agg? Tryz.prog 23 = some false := by kernel_rfl
theorem ty_cl23 : cls? Tryz.prog 23 = some .sl := by kernel_rfl
theorem ty_el23 : elt? Tryz.prog 23 = some (25, 1, 24) := by kernel_rfl
theorem bL : sz? Tryz.prog 24 = some 1 := by kernel_rfl
theorem ZM : agg? Tryz.prog 24 = some false := by kernel_rfl
theorem an : cls? Tryz.prog 24 = some .sl := by kernel_rfl
theorem bS : elt? Tryz.prog 24 = some (143, 32, 480) := by kernel_rfl
theorem bN : sz? Tryz.prog 25 = some 1 := by kernel_rfl
theorem ak : agg? Tryz.prog 25 = some false := by kernel_rfl
theorem ty_zr25 : zr? Tryz.prog 25 = some [.slice none 0 0] := by kernel_rfl
theorem ty_cl25 : cls? Tryz.prog 25 = some .sl := by kernel_rfl
theorem ty_el25 : elt? Tryz.prog 25 = some (3, 1, 8) := by kernel_rfl
theorem Zb : sz? Tryz.prog 27 = some 5 := by kernel_rfl
theorem Z9 : agg? Tryz.prog 27 = some true := by kernel_rfl
theorem Uh : fld? Tryz.prog 27 0 = some (0, 1, false) := by kernel_rfl
theorem VJ : fld? Tryz.prog 27 1 = some (1, 1, false) := by kernel_rfl
theorem VZ : fld? Tryz.prog 27 2 = some (2, 1, false) := by kernel_rfl
theorem Uy : fld? Tryz.prog 27 3 = some (3, 1, false) := by kernel_rfl
theorem T0 : fld? Tryz.prog 27 4 = some (4, 1, false) := by kernel_rfl
theorem aS : sz? Tryz.prog 29 = some 2 := by kernel_rfl
theorem aC : agg? Tryz.prog 29 = some true := by kernel_rfl
theorem VE : fld? Tryz.prog 29 0 = some (0, 1, false) := by kernel_rfl
theorem WJ : fld? Tryz.prog 29 1 = some (1, 1, false) := by kernel_rfl
theorem Y1 : sz? Tryz.prog 31 = some 14 := by kernel_rfl
theorem bM : agg? Tryz.prog 31 = some true := by kernel_rfl
theorem UH : fld? Tryz.prog 31 0 = some (0, 1, false) := by kernel_rfl
theorem VS : fld? Tryz.prog 31 1 = some (1, 1, false) := by kernel_rfl
theorem Uk : fld? Tryz.prog 31 2 = some (2, 1, false) := by kernel_rfl
theorem Ua : fld? Tryz.prog 31 3 = some (3, 1, false) := by kernel_rfl
theorem VU : fld? Tryz.prog 31 4 = some (4, 1, false) := by kernel_rfl
theorem V2 : fld? Tryz.prog 31 5 = some (5, 1, false) := by kernel_rfl
theorem Vl : fld? Tryz.prog 31 6 = some (6, 1, false) := by kernel_rfl
theorem UW : fld? Tryz.prog 31 7 = some (7, 5, true) := by kernel_rfl
theorem VW : fld? Tryz.prog 31 8 = some (12, 2, true) := by kernel_rfl
theorem Zi : sz? Tryz.prog 35 = some 1 := by kernel_rfl
theorem Z5 : agg? Tryz.prog 35 = some false := by kernel_rfl
theorem ty_cl35 : cls? Tryz.prog 35 = some .sl := by kernel_rfl
theorem ty_el35 : elt? Tryz.prog 35 = some (156, 1, 24) := by kernel_rfl
theorem aJ : sz? Tryz.prog 37 = some 2 := by kernel_rfl
theorem ZN : agg? Tryz.prog 37 = some true := by kernel_rfl
theorem ty_zr37 : zr? Tryz.prog 37 = some [.slice none 0 0, .slice none 0 0] := by kernel_rfl
theorem bV : bldOk Tryz.prog 37 = true := by kernel_rfl
theorem UF : fld? Tryz.prog 37 0 = some (0, 1, false) := by kernel_rfl
theorem Vf : fld? Tryz.prog 37 1 = some (1, 1, false) := by kernel_rfl
theorem ZT : sz? Tryz.prog 40 = some 1 := by kernel_rfl
theorem Zn : agg? Tryz.prog 40 = some false := by kernel_rfl
theorem Z8 : cls? Tryz.prog 40 = some .sl := by kernel_rfl
theorem ty_el40 : elt? Tryz.prog 40 = some (165, 2, 16) := by kernel_rfl
theorem bD : sz? Tryz.prog 41 = some 1 := by kernel_rfl
theorem ab : agg? Tryz.prog 41 = some false := by kernel_rfl
theorem ZX : cls? Tryz.prog 41 = some .sl := by kernel_rfl
theorem ty_el41 : elt? Tryz.prog 41 = some (152, 32, 480) := by kernel_rfl
theorem bH : sz? Tryz.prog 42 = some 5 := by kernel_rfl
theorem Y7 : agg? Tryz.prog 42 = some true := by kernel_rfl
theorem Z3 : zr? Tryz.prog 42 = some [.int .i64 0, .slice none 0 0, .slice none 0 0, .int .i64 0, .int .i64 0] := by kernel_rfl
theorem Vo : fld? Tryz.prog 42 0 = some (0, 1, false) := by kernel_rfl
theorem Uu : fld? Tryz.prog 42 1 = some (1, 1, false) := by kernel_rfl
theorem UM : fld? Tryz.prog 42 2 = some (2, 1, false) := by kernel_rfl
theorem Uf : fld? Tryz.prog 42 3 = some (3, 1, false) := by kernel_rfl
theorem WB : fld? Tryz.prog 42 4 = some (4, 1, false) := by kernel_rfl
theorem aB : sz? Tryz.prog 43 = some 2 := by kernel_rfl
theorem ZB : agg? Tryz.prog 43 = some true := by kernel_rfl
theorem ZC : zr? Tryz.prog 43 = some [.slice none 0 0, .slice none 0 0] := by kernel_rfl
theorem VY : fld? Tryz.prog 43 0 = some (0, 1, false) := by kernel_rfl
theorem VO : fld? Tryz.prog 43 1 = some (1, 1, false) := by kernel_rfl
theorem Yv : sz? Tryz.prog 45 = some 14 := by kernel_rfl
theorem al : agg? Tryz.prog 45 = some true := by kernel_rfl
theorem bF : zr? Tryz.prog 45 = some [.int .i64 0, .int .i64 0, .int .i64 0, .slice none 0 0, .slice none 0 0, .slice none 0 0, .slice none 0 0, .int .i64 0, .slice none 0 0, .slice none 0 0, .int .i64 0, .int .i64 0, .slice none 0 0, .slice none 0 0] := by kernel_rfl
theorem Vk : fld? Tryz.prog 45 0 = some (0, 1, false) := by kernel_rfl
theorem Un : fld? Tryz.prog 45 1 = some (1, 1, false) := by kernel_rfl
theorem WE : fld? Tryz.prog 45 2 = some (2, 1, false) := by kernel_rfl
theorem T4 : fld? Tryz.prog 45 3 = some (3, 1, false) := by kernel_rfl
theorem US : fld? Tryz.prog 45 4 = some (4, 1, false) := by kernel_rfl
theorem Ub : fld? Tryz.prog 45 5 = some (5, 1, false) := by kernel_rfl
theorem Uv : fld? Tryz.prog 45 6 = some (6, 1, false) := by kernel_rfl
theorem Uw : fld? Tryz.prog 45 7 = some (7, 5, true) := by kernel_rfl
theorem VM : fld? Tryz.prog 45 8 = some (12, 2, true) := by kernel_rfl
theorem ty_cl47 : cls? Tryz.prog 47 = some .sl := by kernel_rfl
theorem ty_el47 : elt? Tryz.prog 47 = some (37, 2, 48) := by kernel_rfl
theorem aq : sz? Tryz.prog 65 = some 1 := by kernel_rfl
theorem Zu : agg? Tryz.prog 65 = some false := by kernel_rfl
theorem ah : cls? Tryz.prog 65 = some .sl := by kernel_rfl
theorem ty_el65 : elt? Tryz.prog 65 = some (9, 1, 16) := by kernel_rfl
theorem bG : sz? Tryz.prog 67 = some 4 := by kernel_rfl
theorem Zj : agg? Tryz.prog 67 = some true := by kernel_rfl
theorem UQ : fld? Tryz.prog 67 0 = some (0, 1, false) := by kernel_rfl
theorem Vp : fld? Tryz.prog 67 1 = some (1, 1, false) := by kernel_rfl
theorem Vq : fld? Tryz.prog 67 2 = some (2, 1, false) := by kernel_rfl
theorem UX : fld? Tryz.prog 67 3 = some (3, 1, false) := by kernel_rfl
theorem Zx : cls? Tryz.prog 68 = some (.int .u64) := by kernel_rfl
theorem bT : sz? Tryz.prog 72 = some 4 := by kernel_rfl
theorem aO : agg? Tryz.prog 72 = some true := by kernel_rfl
theorem Y6 : zr? Tryz.prog 72 = some [.int .i64 0, .int .i64 0, .int .i64 0, .slice none 0 0] := by kernel_rfl
theorem Vn : fld? Tryz.prog 72 0 = some (0, 1, false) := by kernel_rfl
theorem Vr : fld? Tryz.prog 72 1 = some (1, 1, false) := by kernel_rfl
theorem WG : fld? Tryz.prog 72 2 = some (2, 1, false) := by kernel_rfl
theorem Vz : fld? Tryz.prog 72 3 = some (3, 1, false) := by kernel_rfl
theorem Zs : sz? Tryz.prog 96 = some 2 := by kernel_rfl
theorem bC : zr? Tryz.prog 96 = some [.int .i64 0, .int .i64 0] := by kernel_rfl
theorem bO : bldOk Tryz.prog 96 = true := by kernel_rfl
theorem WA : fld? Tryz.prog 96 0 = some (0, 1, false) := by kernel_rfl
theorem WM : fld? Tryz.prog 96 1 = some (1, 1, false) := by kernel_rfl
theorem Xe : sz? Tryz.prog 108 = some 1 := by kernel_rfl
theorem XK : agg? Tryz.prog 108 = some false := by kernel_rfl
theorem YA : cls? Tryz.prog 108 = some .ptr := by kernel_rfl
theorem Wp : sz? Tryz.prog 110 = some 15 := by kernel_rfl
theorem Wn : agg? Tryz.prog 110 = some true := by kernel_rfl
theorem XZ : zr? Tryz.prog 110 = some [.int .i64 0, .int .i64 0, .int .i64 0, .slice none 0 0, .slice none 0 0, .slice none 0 0, .slice none 0 0, .int .i64 0, .slice none 0 0, .slice none 0 0, .int .i64 0, .int .i64 0, .slice none 0 0, .slice none 0 0, .pointer none] := by kernel_rfl
theorem Wj : bldOk Tryz.prog 110 = true := by kernel_rfl
theorem R6 : fld? Tryz.prog 110 0 = some (0, 14, true) := by kernel_rfl
theorem Ri : fld? Tryz.prog 110 1 = some (14, 1, false) := by kernel_rfl
theorem S1 : fld? Tryz.prog 129 0 = some (0, 1, false) := by kernel_rfl
theorem Ry : fld? Tryz.prog 129 1 = some (1, 1, false) := by kernel_rfl
theorem Xt : sz? Tryz.prog 143 = some 32 := by kernel_rfl
theorem Yf : agg? Tryz.prog 143 = some true := by kernel_rfl
theorem RP : fld? Tryz.prog 143 0 = some (0, 1, false) := by kernel_rfl
theorem SU : fld? Tryz.prog 143 1 = some (1, 5, true) := by kernel_rfl
theorem SY : fld? Tryz.prog 143 2 = some (6, 5, true) := by kernel_rfl
theorem SX : fld? Tryz.prog 143 3 = some (11, 5, true) := by kernel_rfl
theorem Rj : fld? Tryz.prog 143 4 = some (16, 5, true) := by kernel_rfl
theorem Rm : fld? Tryz.prog 143 5 = some (21, 1, false) := by kernel_rfl
theorem SI : fld? Tryz.prog 143 6 = some (22, 5, true) := by kernel_rfl
theorem Ro : fld? Tryz.prog 143 7 = some (27, 5, true) := by kernel_rfl
theorem Xn : sz? Tryz.prog 152 = some 32 := by kernel_rfl
theorem W4 : agg? Tryz.prog 152 = some true := by kernel_rfl
theorem ty_zr152 : zr? Tryz.prog 152 = some [.slice none 0 0, .int .i64 0, .slice none 0 0, .slice none 0 0, .int .i64 0, .int .i64 0, .int .i64 0, .slice none 0 0, .slice none 0 0, .int .i64 0, .int .i64 0, .int .i64 0, .slice none 0 0, .slice none 0 0, .int .i64 0, .int .i64 0, .int .i64 0, .slice none 0 0, .slice none 0 0, .int .i64 0, .int .i64 0, .slice none 0 0, .int .i64 0, .slice none 0 0, .slice none 0 0, .int .i64 0, .int .i64 0, .int .i64 0, .slice none 0 0, .slice none 0 0, .int .i64 0, .int .i64 0] := by kernel_rfl
theorem Sn : fld? Tryz.prog 152 0 = some (0, 1, false) := by kernel_rfl
theorem R9 : fld? Tryz.prog 152 1 = some (1, 5, true) := by kernel_rfl
theorem RV : fld? Tryz.prog 152 2 = some (6, 5, true) := by kernel_rfl
theorem RQ : fld? Tryz.prog 152 3 = some (11, 5, true) := by kernel_rfl
theorem RC : fld? Tryz.prog 152 4 = some (16, 5, true) := by kernel_rfl
theorem RT : fld? Tryz.prog 152 5 = some (21, 1, false) := by kernel_rfl
theorem SC : fld? Tryz.prog 152 6 = some (22, 5, true) := by kernel_rfl
theorem RB : fld? Tryz.prog 152 7 = some (27, 5, true) := by kernel_rfl
theorem Yl : sz? Tryz.prog 156 = some 1 := by kernel_rfl
theorem Xm : agg? Tryz.prog 156 = some false := by kernel_rfl
theorem ty_zr156 : zr? Tryz.prog 156 = some [.slice none 0 0] := by kernel_rfl
theorem ty_cl156 : cls? Tryz.prog 156 = some .sl := by kernel_rfl
theorem ty_el156 : elt? Tryz.prog 156 = some (196, 2, 32) := by kernel_rfl
theorem XD : sz? Tryz.prog 165 = some 2 := by kernel_rfl
theorem W6 : agg? Tryz.prog 165 = some true := by kernel_rfl
theorem ty_zr165 : zr? Tryz.prog 165 = some [.int .i64 0, .int .i64 0] := by kernel_rfl
theorem Rv : fld? Tryz.prog 165 0 = some (0, 1, false) := by kernel_rfl
theorem Sv : fld? Tryz.prog 165 1 = some (1, 1, false) := by kernel_rfl
theorem YD : sz? Tryz.prog 167 = some 2 := by kernel_rfl
theorem Yd : agg? Tryz.prog 167 = some true := by kernel_rfl
theorem RW : fld? Tryz.prog 167 0 = some (0, 1, false) := by kernel_rfl
theorem Sj : fld? Tryz.prog 167 1 = some (1, 1, false) := by kernel_rfl
theorem WV : sz? Tryz.prog 196 = some 2 := by kernel_rfl
theorem Yk : agg? Tryz.prog 196 = some true := by kernel_rfl
theorem ty_zr196 : zr? Tryz.prog 196 = some [.int .i64 0, .slice none 0 0] := by kernel_rfl
theorem Wi : bldOk Tryz.prog 196 = true := by kernel_rfl
theorem R2 : fld? Tryz.prog 196 0 = some (0, 1, false) := by kernel_rfl
theorem Ra : fld? Tryz.prog 196 1 = some (1, 1, false) := by kernel_rfl
theorem XE : cls? Tryz.prog 212 = some .sl := by kernel_rfl
theorem XN : elt? Tryz.prog 212 = some (42, 5, 72) := by kernel_rfl
theorem Xu : cls? Tryz.prog 227 = some (.int .u64) := by kernel_rfl
theorem XG : cls? Tryz.prog 228 = some .sl := by kernel_rfl
theorem W3 : elt? Tryz.prog 228 = some (5, 1, 1) := by kernel_rfl
attribute [go_sem] dA dm ty_zr3 dU eO dK dE di dF ty_zr9 bt Y0 Zy Zf ag Y5 Y4 ty_cl23 ty_el23 bL ZM an bS bN ak ty_zr25 ty_cl25 ty_el25 Zb Z9 Uh VJ VZ Uy T0 aS aC VE WJ Y1 bM UH VS Uk Ua VU V2 Vl UW VW Zi Z5 ty_cl35 ty_el35 aJ ZN ty_zr37 bV UF Vf ZT Zn Z8 ty_el40 bD ab ZX ty_el41 bH Y7 Z3 Vo Uu UM Uf WB aB ZB ZC VY VO Yv al bF Vk Un WE T4 US Ub Uv Uw VM ty_cl47 ty_el47 aq Zu ah ty_el65 bG Zj UQ Vp Vq UX Zx bT aO Y6 Vn Vr WG Vz Zs bC bO WA WM Xe XK YA Wp Wn XZ Wj R6 Ri S1 Ry Xt Yf RP SU SY SX Rj Rm SI Ro Xn W4 ty_zr152 Sn R9 RV RQ RC RT SC RB Yl Xm ty_zr156 ty_cl156 ty_el156 XD W6 ty_zr165 Rv Sv YD Yd RW Sj WV Yk ty_zr196 Wi R2 Ra XE XN Xu XG W3
end Go.Ai
end
