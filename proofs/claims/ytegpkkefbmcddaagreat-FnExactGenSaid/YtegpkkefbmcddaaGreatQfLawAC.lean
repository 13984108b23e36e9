/- Own lemmas that the theorem of this claim needs: the abstract machine and walks of functions. -/
import Derived.Test.YtegpkkefbmcddaaGreatQfLawAB
import Derived.Test.YtegpkkefbmcddaaGreatProg
set_option linter.unusedSimpArgs false
set_option linter.unusedVariables false
section
namespace Go.Ai
open Go.Proofs
theorem dP : sz? Tryz.prog 3 = some 1 := by kernel_rfl
theorem cO : agg? Tryz.prog 3 = some false := by kernel_rfl
theorem ty_zr3 : zr? Tryz.prog 3 = some [.int .i64 0] := by kernel_rfl
theorem eJ : cls? Tryz.prog 3 = some (.int .i64) := by kernel_rfl
theorem dY : cls? Tryz.prog 4 = some .bool := by kernel_rfl
theorem dT : zr? Tryz.prog 5 = some [.int .u8 0] := by kernel_rfl
theorem dd : cls? Tryz.prog 5 = some (.int .u8) := by kernel_rfl
theorem eL : sz? Tryz.prog 9 = some 1 := by kernel_rfl
theorem df : agg? Tryz.prog 9 = some false := by kernel_rfl
theorem ty_zr9 : zr? Tryz.prog 9 = some [.string ⟨#[]⟩] := by kernel_rfl
theorem cW : cls? Tryz.prog 9 = some .str := by kernel_rfl
theorem Y7 : sz? Tryz.prog 22 = some 1 := by kernel_rfl
theorem Z3 : agg? Tryz.prog 22 = some false := by kernel_rfl
theorem ZX : cls? Tryz.prog 22 = some .sl := by kernel_rfl
theorem Y1 : elt? Tryz.prog 22 = some (167, 2, 16) := by kernel_rfl
theorem Ze : sz? Tryz.prog 23 = some 1 := by kernel_rfl
theorem Z7 : agg? Tryz.prog 23 = some false := by kernel_rfl
theorem ty_cl23 : cls? Tryz.prog 23 = some .sl := by kernel_rfl
theorem ty_el23 : elt? Tryz.prog 23 = some (25, 1, 24) := by kernel_rfl
theorem ax : sz? Tryz.prog 24 = some 1 := by kernel_rfl
theorem Z6 : agg? Tryz.prog 24 = some false := by kernel_rfl
theorem ZJ : cls? Tryz.prog 24 = some .sl := by kernel_rfl
theorem Zm : elt? Tryz.prog 24 = some (143, 32, 480) := by kernel_rfl
theorem Y8 : sz? Tryz.prog 25 = some 1 := by kernel_rfl
theorem bU : agg? Tryz.prog 25 = some false := by kernel_rfl
theorem ty_zr25 : zr? Tryz.prog 25 = some [.slice none 0 0] := by kernel_rfl
theorem ty_cl25 : cls? Tryz.prog 25 = some .sl := by kernel_rfl
theorem ty_el25 : elt? Tryz.prog 25 = some (3, 1, 8) := by kernel_rfl
theorem aj : sz? Tryz.prog 27 = some 5 := by kernel_rfl
theorem Zo : agg? Tryz.prog 27 = some true := by kernel_rfl
theorem V5 : fld? Tryz.prog 27 0 = some (0, 1, false) := by kernel_rfl
theorem V9 : fld? Tryz.prog 27 1 = some (1, 1, false) := by kernel_rfl
theorem V0 : fld? Tryz.prog 27 2 = some (2, 1, false) := by kernel_rfl
theorem Uu : fld? Tryz.prog 27 3 = some (3, 1, false) := by kernel_rfl
theorem Ve : fld? Tryz.prog 27 4 = some (4, 1, false) := by kernel_rfl
theorem bJ : sz? Tryz.prog 29 = some 2 := by kernel_rfl
theorem bH : agg? Tryz.prog 29 = some true := by kernel_rfl
theorem UQ : fld? Tryz.prog 29 0 = some (0, 1, false) := by kernel_rfl
theorem UU : fld? Tryz.prog 29 1 = some (1, 1, false) := by kernel_rfl
theorem ZE : sz? Tryz.prog 31 = some 14 := by kernel_rfl
theorem Z8 : agg? Tryz.prog 31 = some true := by kernel_rfl
theorem U2 : fld? Tryz.prog 31 0 = some (0, 1, false) := by kernel_rfl
theorem VC : fld? Tryz.prog 31 1 = some (1, 1, false) := by kernel_rfl
theorem Vf : fld? Tryz.prog 31 2 = some (2, 1, false) := by kernel_rfl
theorem Uo : fld? Tryz.prog 31 3 = some (3, 1, false) := by kernel_rfl
theorem T6 : fld? Tryz.prog 31 4 = some (4, 1, false) := by kernel_rfl
theorem T4 : fld? Tryz.prog 31 5 = some (5, 1, false) := by kernel_rfl
theorem U4 : fld? Tryz.prog 31 6 = some (6, 1, false) := by kernel_rfl
theorem VV : fld? Tryz.prog 31 7 = some (7, 5, true) := by kernel_rfl
theorem Ur : fld? Tryz.prog 31 8 = some (12, 2, true) := by kernel_rfl
theorem ZP : sz? Tryz.prog 35 = some 1 := by kernel_rfl
theorem Zs : agg? Tryz.prog 35 = some false := by kernel_rfl
theorem ty_cl35 : cls? Tryz.prog 35 = some .sl := by kernel_rfl
theorem ty_el35 : elt? Tryz.prog 35 = some (156, 1, 24) := by kernel_rfl
theorem Zb : sz? Tryz.prog 37 = some 2 := by kernel_rfl
theorem Zg : agg? Tryz.prog 37 = some true := by kernel_rfl
theorem ty_zr37 : zr? Tryz.prog 37 = some [.slice none 0 0, .slice none 0 0] := by kernel_rfl
theorem aw : bldOk Tryz.prog 37 = true := by kernel_rfl
theorem UP : fld? Tryz.prog 37 0 = some (0, 1, false) := by kernel_rfl
theorem WL : fld? Tryz.prog 37 1 = some (1, 1, false) := by kernel_rfl
theorem Yw : sz? Tryz.prog 40 = some 1 := by kernel_rfl
theorem aR : agg? Tryz.prog 40 = some false := by kernel_rfl
theorem bI : cls? Tryz.prog 40 = some .sl := by kernel_rfl
theorem ty_el40 : elt? Tryz.prog 40 = some (165, 2, 16) := by kernel_rfl
theorem av : sz? Tryz.prog 41 = some 1 := by kernel_rfl
theorem bL : agg? Tryz.prog 41 = some false := by kernel_rfl
theorem au : cls? Tryz.prog 41 = some .sl := by kernel_rfl
theorem ty_el41 : elt? Tryz.prog 41 = some (152, 32, 480) := by kernel_rfl
theorem aE : sz? Tryz.prog 42 = some 5 := by kernel_rfl
theorem Y4 : agg? Tryz.prog 42 = some true := by kernel_rfl
theorem bF : zr? Tryz.prog 42 = some [.int .i64 0, .slice none 0 0, .slice none 0 0, .int .i64 0, .int .i64 0] := by kernel_rfl
theorem VK : fld? Tryz.prog 42 0 = some (0, 1, false) := by kernel_rfl
theorem T8 : fld? Tryz.prog 42 1 = some (1, 1, false) := by kernel_rfl
theorem Vw : fld? Tryz.prog 42 2 = some (2, 1, false) := by kernel_rfl
theorem WH : fld? Tryz.prog 42 3 = some (3, 1, false) := by kernel_rfl
theorem Vx : fld? Tryz.prog 42 4 = some (4, 1, false) := by kernel_rfl
theorem Z1 : sz? Tryz.prog 43 = some 2 := by kernel_rfl
theorem ZY : agg? Tryz.prog 43 = some true := by kernel_rfl
theorem Yy : zr? Tryz.prog 43 = some [.slice none 0 0, .slice none 0 0] := by kernel_rfl
theorem VF : fld? Tryz.prog 43 0 = some (0, 1, false) := by kernel_rfl
theorem Ui : fld? Tryz.prog 43 1 = some (1, 1, false) := by kernel_rfl
theorem aZ : sz? Tryz.prog 45 = some 14 := by kernel_rfl
theorem ZZ : agg? Tryz.prog 45 = some true := by kernel_rfl
theorem bM : zr? Tryz.prog 45 = some [.int .i64 0, .int .i64 0, .int .i64 0, .slice none 0 0, .slice none 0 0, .slice none 0 0, .slice none 0 0, .int .i64 0, .slice none 0 0, .slice none 0 0, .int .i64 0, .int .i64 0, .slice none 0 0, .slice none 0 0] := by kernel_rfl
theorem Uz : fld? Tryz.prog 45 0 = some (0, 1, false) := by kernel_rfl
theorem VM : fld? Tryz.prog 45 1 = some (1, 1, false) := by kernel_rfl
theorem Vs : fld? Tryz.prog 45 2 = some (2, 1, false) := by kernel_rfl
theorem UO : fld? Tryz.prog 45 3 = some (3, 1, false) := by kernel_rfl
theorem Vg : fld? Tryz.prog 45 4 = some (4, 1, false) := by kernel_rfl
theorem VB : fld? Tryz.prog 45 5 = some (5, 1, false) := by kernel_rfl
theorem Vy : fld? Tryz.prog 45 6 = some (6, 1, false) := by kernel_rfl
theorem UJ : fld? Tryz.prog 45 7 = some (7, 5, true) := by kernel_rfl
theorem Uy : fld? Tryz.prog 45 8 = some (12, 2, true) := by kernel_rfl
theorem ty_cl47 : cls? Tryz.prog 47 = some .sl := by kernel_rfl
theorem ty_el47 : elt? Tryz.prog 47 = some (37, 2, 48) := by kernel_rfl
theorem aT : sz? Tryz.prog 65 = some 1 := by kernel_rfl
theorem aF : agg? Tryz.prog 65 = some false := by kernel_rfl
theorem Yv : cls? Tryz.prog 65 = some .sl := by kernel_rfl
theorem ty_el65 : elt? Tryz.prog 65 = some (9, 1, 16) := by kernel_rfl
theorem ZG : sz? Tryz.prog 67 = some 4 := by kernel_rfl
theorem Y5 : agg? Tryz.prog 67 = some true := by kernel_rfl
theorem VG : fld? Tryz.prog 67 0 = some (0, 1, false) := by kernel_rfl
theorem V7 : fld? Tryz.prog 67 1 = some (1, 1, false) := by kernel_rfl
theorem UI : fld? Tryz.prog 67 2 = some (2, 1, false) := by kernel_rfl
theorem V1 : fld? Tryz.prog 67 3 = some (3, 1, false) := by kernel_rfl
theorem aN : cls? Tryz.prog 68 = some (.int .u64) := by kernel_rfl
theorem ay : sz? Tryz.prog 72 = some 4 := by kernel_rfl
theorem ai : agg? Tryz.prog 72 = some true := by kernel_rfl
theorem Yx : zr? Tryz.prog 72 = some [.int .i64 0, .int .i64 0, .int .i64 0, .slice none 0 0] := by kernel_rfl
theorem V8 : fld? Tryz.prog 72 0 = some (0, 1, false) := by kernel_rfl
theorem VD : fld? Tryz.prog 72 1 = some (1, 1, false) := by kernel_rfl
theorem Uj : fld? Tryz.prog 72 2 = some (2, 1, false) := by kernel_rfl
theorem Uw : fld? Tryz.prog 72 3 = some (3, 1, false) := by kernel_rfl
theorem Zt : sz? Tryz.prog 96 = some 2 := by kernel_rfl
theorem ZN : zr? Tryz.prog 96 = some [.int .i64 0, .int .i64 0] := by kernel_rfl
theorem ZR : bldOk Tryz.prog 96 = true := by kernel_rfl
theorem Tz : fld? Tryz.prog 96 0 = some (0, 1, false) := by kernel_rfl
theorem Vm : fld? Tryz.prog 96 1 = some (1, 1, false) := by kernel_rfl
theorem W6 : sz? Tryz.prog 108 = some 1 := by kernel_rfl
theorem Wm : agg? Tryz.prog 108 = some false := by kernel_rfl
theorem Xb : cls? Tryz.prog 108 = some .ptr := by kernel_rfl
theorem Xt : sz? Tryz.prog 110 = some 15 := by kernel_rfl
theorem WT : agg? Tryz.prog 110 = some true := by kernel_rfl
theorem W7 : zr? Tryz.prog 110 = some [.int .i64 0, .int .i64 0, .int .i64 0, .slice none 0 0, .slice none 0 0, .slice none 0 0, .slice none 0 0, .int .i64 0, .slice none 0 0, .slice none 0 0, .int .i64 0, .int .i64 0, .slice none 0 0, .slice none 0 0, .pointer none] := by kernel_rfl
theorem YD : bldOk Tryz.prog 110 = true := by kernel_rfl
theorem RW : fld? Tryz.prog 110 0 = some (0, 14, true) := by kernel_rfl
theorem Q5 : fld? Tryz.prog 110 1 = some (14, 1, false) := by kernel_rfl
theorem SX : fld? Tryz.prog 129 0 = some (0, 1, false) := by kernel_rfl
theorem Rb : fld? Tryz.prog 129 1 = some (1, 1, false) := by kernel_rfl
theorem XJ : sz? Tryz.prog 143 = some 32 := by kernel_rfl
theorem Xh : agg? Tryz.prog 143 = some true := by kernel_rfl
theorem RD : fld? Tryz.prog 143 0 = some (0, 1, false) := by kernel_rfl
theorem R8 : fld? Tryz.prog 143 1 = some (1, 5, true) := by kernel_rfl
theorem SP : fld? Tryz.prog 143 2 = some (6, 5, true) := by kernel_rfl
theorem RM : fld? Tryz.prog 143 3 = some (11, 5, true) := by kernel_rfl
theorem S7 : fld? Tryz.prog 143 4 = some (16, 5, true) := by kernel_rfl
theorem Sx : fld? Tryz.prog 143 5 = some (21, 1, false) := by kernel_rfl
theorem RZ : fld? Tryz.prog 143 6 = some (22, 5, true) := by kernel_rfl
theorem RK : fld? Tryz.prog 143 7 = some (27, 5, true) := by kernel_rfl
theorem WS : sz? Tryz.prog 152 = some 32 := by kernel_rfl
theorem YN : agg? Tryz.prog 152 = some true := by kernel_rfl
theorem ty_zr152 : zr? Tryz.prog 152 = some [.slice none 0 0, .int .i64 0, .slice none 0 0, .slice none 0 0, .int .i64 0, .int .i64 0, .int .i64 0, .slice none 0 0, .slice none 0 0, .int .i64 0, .int .i64 0, .int .i64 0, .slice none 0 0, .slice none 0 0, .int .i64 0, .int .i64 0, .int .i64 0, .slice none 0 0, .slice none 0 0, .int .i64 0, .int .i64 0, .slice none 0 0, .int .i64 0, .slice none 0 0, .slice none 0 0, .int .i64 0, .int .i64 0, .int .i64 0, .slice none 0 0, .slice none 0 0, .int .i64 0, .int .i64 0] := by kernel_rfl
theorem SN : fld? Tryz.prog 152 0 = some (0, 1, false) := by kernel_rfl
theorem RT : fld? Tryz.prog 152 1 = some (1, 5, true) := by kernel_rfl
theorem Rq : fld? Tryz.prog 152 2 = some (6, 5, true) := by kernel_rfl
theorem TD : fld? Tryz.prog 152 3 = some (11, 5, true) := by kernel_rfl
theorem S6 : fld? Tryz.prog 152 4 = some (16, 5, true) := by kernel_rfl
theorem Rr : fld? Tryz.prog 152 5 = some (21, 1, false) := by kernel_rfl
theorem Rl : fld? Tryz.prog 152 6 = some (22, 5, true) := by kernel_rfl
theorem Rs : fld? Tryz.prog 152 7 = some (27, 5, true) := by kernel_rfl
theorem YY : sz? Tryz.prog 156 = some 1 := by kernel_rfl
theorem YO : agg? Tryz.prog 156 = some false := by kernel_rfl
theorem ty_zr156 : zr? Tryz.prog 156 = some [.slice none 0 0] := by kernel_rfl
theorem ty_cl156 : cls? Tryz.prog 156 = some .sl := by kernel_rfl
theorem ty_el156 : elt? Tryz.prog 156 = some (196, 2, 32) := by kernel_rfl
theorem YP : sz? Tryz.prog 165 = some 2 := by kernel_rfl
theorem XK : agg? Tryz.prog 165 = some true := by kernel_rfl
theorem ty_zr165 : zr? Tryz.prog 165 = some [.int .i64 0, .int .i64 0] := by kernel_rfl
theorem SS : fld? Tryz.prog 165 0 = some (0, 1, false) := by kernel_rfl
theorem Q1 : fld? Tryz.prog 165 1 = some (1, 1, false) := by kernel_rfl
theorem Ym : sz? Tryz.prog 167 = some 2 := by kernel_rfl
theorem WU : agg? Tryz.prog 167 = some true := by kernel_rfl
theorem Rm : fld? Tryz.prog 167 0 = some (0, 1, false) := by kernel_rfl
theorem Sv : fld? Tryz.prog 167 1 = some (1, 1, false) := by kernel_rfl
theorem W5 : sz? Tryz.prog 196 = some 2 := by kernel_rfl
theorem Yo : agg? Tryz.prog 196 = some true := by kernel_rfl
theorem ty_zr196 : zr? Tryz.prog 196 = some [.int .i64 0, .slice none 0 0] := by kernel_rfl
theorem Xi : bldOk Tryz.prog 196 = true := by kernel_rfl
theorem Rn : fld? Tryz.prog 196 0 = some (0, 1, false) := by kernel_rfl
theorem S2 : fld? Tryz.prog 196 1 = some (1, 1, false) := by kernel_rfl
theorem XA : cls? Tryz.prog 212 = some .sl := by kernel_rfl
theorem YC : elt? Tryz.prog 212 = some (42, 5, 72) := by kernel_rfl
theorem Yh : cls? Tryz.prog 227 = some (.int .u64) := by kernel_rfl
theorem Xg : cls? Tryz.prog 228 = some .sl := by kernel_rfl
theorem X0 : elt? Tryz.prog 228 = some (5, 1, 1) := by kernel_rfl
attribute [go_sem] dP cO ty_zr3 eJ dY dT dd eL df ty_zr9 cW Y7 Z3 ZX Y1 Ze Z7 ty_cl23 ty_el23 ax Z6 ZJ Zm Y8 bU ty_zr25 ty_cl25 ty_el25 aj Zo V5 V9 V0 Uu Ve bJ bH UQ UU ZE Z8 U2 VC Vf Uo T6 T4 U4 VV Ur ZP Zs ty_cl35 ty_el35 Zb Zg ty_zr37 aw UP WL Yw aR bI ty_el40 av bL au ty_el41 aE Y4 bF VK T8 Vw WH Vx Z1 ZY Yy VF Ui aZ ZZ bM Uz VM Vs UO Vg VB Vy UJ Uy ty_cl47 ty_el47 aT aF Yv ty_el65 ZG Y5 VG V7 UI V1 aN ay ai Yx V8 VD Uj Uw Zt ZN ZR Tz Vm W6 Wm Xb Xt WT W7 YD RW Q5 SX Rb XJ Xh RD R8 SP RM S7 Sx RZ RK WS YN ty_zr152 SN RT Rq TD S6 Rr Rl Rs YY YO ty_zr156 ty_cl156 ty_el156 YP XK ty_zr165 SS Q1 Ym WU Rm Sv W5 Yo ty_zr196 Xi Rn S2 XA YC Yh Xg X0
end Go.Ai
end
