/- Own lemmas that the theorem of this claim needs: the abstract machine and walks of functions. -/
import Derived.Test.YtegpkkefbmcddaaGreatQnLawAB
import Derived.Test.YtegpkkefbmcddaaGreatProg
set_option linter.unusedSimpArgs false
set_option linter.unusedVariables false
section
namespace Go.Ai
open Go.Proofs
theorem ty_sz3 : sz? Tryz.prog 3 = some 1 := by kernel_rfl
theorem ty_ag3 : agg? Tryz.prog 3 = some false := by kernel_rfl
theorem ty_zr3 : zr? Tryz.prog 3 = some [.int .i64 0] := by kernel_rfl
theorem ty_cl4 : cls? Tryz.prog 4 = some .bool := by kernel_rfl
theorem ty_sz22 : sz? Tryz.prog 22 = some 1 := by kernel_rfl
theorem ty_ag22 : agg? Tryz.prog 22 = some false := by kernel_rfl
theorem ty_cl22 : cls? Tryz.prog 22 = some .sl := by kernel_rfl
theorem ty_el22 : elt? Tryz.prog 22 = some (167, 2, 16) := by kernel_rfl
theorem ty_sz23 : sz? Tryz.prog 23 = some 1 := by kernel_rfl
theorem ty_ag23 : agg? Tryz.prog 23 = some false := by kernel_rfl
theorem ty_cl23 : cls? Tryz.prog 23 = some .sl := by kernel_rfl
theorem ty_el23 : elt? Tryz.prog 23 = some (25, 1, 24) := by kernel_rfl
theorem ty_sz24 : sz? Tryz.prog 24 = some 1 := by kernel_rfl
theorem ty_ag24 : agg? Tryz.prog 24 = some false := by kernel_rfl
theorem ty_cl24 : cls? Tryz.prog 24 = some .sl := by kernel_rfl
theorem ty_el24 : elt? Tryz.prog 24 = some (143, 32, 480) := by kernel_rfl
theorem ty_sz25 : sz? Tryz.prog 25 = some 1 := by kernel_rfl
theorem ty_ag25 : agg? Tryz.prog 25 = some false := by kernel_rfl
theorem ty_zr25 : zr? Tryz.prog 25 = some [.slice none 0 0] := by kernel_rfl
theorem ty_cl25 : cls? Tryz.prog 25 = some .sl := by kernel_rfl
theorem ty_el25 : elt? Tryz.prog 25 = some (3, 1, 8) := by kernel_rfl
theorem ty_sz27 : sz? Tryz.prog 27 = some 5 := by kernel_rfl
theorem ty_ag27 : agg? Tryz.prog 27 = some true := by kernel_rfl
theorem ty_fd27_0 : fld? Tryz.prog 27 0 = some (0, 1, false) := by kernel_rfl
theorem ty_fd27_1 : fld? Tryz.prog 27 1 = some (1, 1, false) := by kernel_rfl
theorem ty_fd27_2 : fld? Tryz.prog 27 2 = some (2, 1, false) := by kernel_rfl
theorem ty_fd27_3 : fld? Tryz.prog 27 3 = some (3, 1, false) := by kernel_rfl
theorem ty_fd27_4 : fld? Tryz.prog 27 4 = some (4, 1, false) := by kernel_rfl
theorem ty_sz29 : sz? Tryz.prog 29 = some 2 := by kernel_rfl
theorem ty_ag29 : agg? Tryz.prog 29 = some true := by kernel_rfl
theorem ty_fd29_0 : fld? Tryz.prog 29 0 = some (0, 1, false) := by kernel_rfl
theorem ty_fd29_1 : fld? Tryz.prog 29 1 = some (1, 1, false) := by kernel_rfl
theorem ty_sz31 : sz? Tryz.prog 31 = some 14 := by kernel_rfl
theorem ty_ag31 : agg? Tryz.prog 31 = some true := by kernel_rfl
theorem ty_fd31_0 : fld? Tryz.prog 31 0 = some (0, 1, false) := by kernel_rfl
theorem ty_fd31_1 : fld? Tryz.prog 31 1 = some (1, 1, false) := by kernel_rfl
theorem ty_fd31_2 : fld? Tryz.prog 31 2 = some (2, 1, false) := by kernel_rfl
theorem ty_fd31_3 : fld? Tryz.prog 31 3 = some (3, 1, false) := by kernel_rfl
theorem ty_fd31_4 : fld? Tryz.prog 31 4 = some (4, 1, false) := by kernel_rfl
theorem ty_fd31_5 : fld? Tryz.prog 31 5 = some (5, 1, false) := by kernel_rfl
theorem ty_fd31_6 : fld? Tryz.prog 31 6 = some (6, 1, false) := by kernel_rfl
theorem ty_fd31_7 : fld? Tryz.prog 31 7 = some (7, 5, true) := by kernel_rfl
theorem ty_fd31_8 : fld? Tryz.prog 31 8 = some (12, 2, true) := by kernel_rfl
theorem ty_cl32 : cls? Tryz.prog 32 = some .sl := by kernel_rfl
theorem ty_el32 : elt? Tryz.prog 32 = some (88, 2, 48) := by kernel_rfl
theorem ty_sz35 : sz? Tryz.prog 35 = some 1 := by kernel_rfl
theorem ty_ag35 : agg? Tryz.prog 35 = some false := by kernel_rfl
theorem ty_cl35 : cls? Tryz.prog 35 = some .sl := by kernel_rfl
theorem ty_el35 : elt? Tryz.prog 35 = some (156, 1, 24) := by kernel_rfl
theorem ty_sz37 : sz? Tryz.prog 37 = some 2 := by kernel_rfl
theorem ty_ag37 : agg? Tryz.prog 37 = some true := by kernel_rfl
theorem ty_zr37 : zr? Tryz.prog 37 = some [.slice none 0 0, .slice none 0 0] := by kernel_rfl
theorem ty_bl37 : bldOk Tryz.prog 37 = true := by kernel_rfl
theorem ty_fd37_0 : fld? Tryz.prog 37 0 = some (0, 1, false) := by kernel_rfl
theorem ty_fd37_1 : fld? Tryz.prog 37 1 = some (1, 1, false) := by kernel_rfl
theorem ty_sz40 : sz? Tryz.prog 40 = some 1 := by kernel_rfl
theorem ty_ag40 : agg? Tryz.prog 40 = some false := by kernel_rfl
theorem ty_cl40 : cls? Tryz.prog 40 = some .sl := by kernel_rfl
theorem ty_el40 : elt? Tryz.prog 40 = some (165, 2, 16) := by kernel_rfl
theorem ty_sz41 : sz? Tryz.prog 41 = some 1 := by kernel_rfl
theorem ty_ag41 : agg? Tryz.prog 41 = some false := by kernel_rfl
theorem ty_cl41 : cls? Tryz.prog 41 = some .sl := by kernel_rfl
theorem ty_el41 : elt? Tryz.prog 41 = some (152, 32, 480) := by kernel_rfl
theorem ty_sz42 : sz? Tryz.prog 42 = some 5 := by kernel_rfl
theorem ty_ag42 : agg? Tryz.prog 42 = some true := by kernel_rfl
theorem ty_zr42 : zr? Tryz.prog 42 = some [.int .i64 0, .slice none 0 0, .slice none 0 0, .int .i64 0, .int .i64 0] := by kernel_rfl
theorem ty_fd42_0 : fld? Tryz.prog 42 0 = some (0, 1, false) := by kernel_rfl
theorem ty_fd42_1 : fld? Tryz.prog 42 1 = some (1, 1, false) := by kernel_rfl
theorem ty_fd42_2 : fld? Tryz.prog 42 2 = some (2, 1, false) := by kernel_rfl
theorem ty_fd42_3 : fld? Tryz.prog 42 3 = some (3, 1, false) := by kernel_rfl
theorem ty_fd42_4 : fld? Tryz.prog 42 4 = some (4, 1, false) := by kernel_rfl
theorem ty_sz43 : sz? Tryz.prog 43 = some 2 := by kernel_rfl
theorem ty_ag43 : agg? Tryz.prog 43 = some true := by kernel_rfl
theorem ty_zr43 : zr? Tryz.prog 43 = some [.slice none 0 0, .slice none 0 0] := by kernel_rfl
theorem ty_fd43_0 : fld? Tryz.prog 43 0 = some (0, 1, false) := by kernel_rfl
theorem ty_fd43_1 : fld? Tryz.prog 43 1 = some (1, 1, false) := by kernel_rfl
theorem ty_sz45 : sz? Tryz.prog 45 = some 14 := by kernel_rfl
theorem ty_ag45 : agg? Tryz.prog 45 = some true := by kernel_rfl
theorem ty_zr45 : zr? Tryz.prog 45 = some [.int .i64 0, .int .i64 0, .int .i64 0, .slice none 0 0, .slice none 0 0, .slice none 0 0, .slice none 0 0, .int .i64 0, .slice none 0 0, .slice none 0 0, .int .i64 0, .int .i64 0, .slice none 0 0, .slice none 0 0] := by kernel_rfl
theorem ty_fd45_0 : fld? Tryz.prog 45 0 = some (0, 1, false) := by kernel_rfl
theorem ty_fd45_1 : fld? Tryz.prog 45 1 = some (1, 1, false) := by kernel_rfl
theorem ty_fd45_2 : fld? Tryz.prog 45 2 = some (2, 1, false) := by kernel_rfl
theorem ty_fd45_3 : fld? Tryz.prog 45 3 = some (3, 1, false) := by kernel_rfl
theorem ty_fd45_4 : fld? Tryz.prog 45 4 = some (4, 1, false) := by kernel_rfl
theorem ty_fd45_5 : fld? Tryz.prog 45 5 = some (5, 1, false) := by kernel_rfl
theorem ty_fd45_6 : fld? Tryz.prog 45 6 = some (6, 1, false) := by kernel_rfl
theorem ty_fd45_7 : fld? Tryz.prog 45 7 = some (7, 5, true) := by kernel_rfl
theorem ty_fd45_8 : fld? Tryz.prog 45 8 = some (12, 2, true) := by kernel_rfl
theorem ty_cl47 : cls? Tryz.prog 47 = some .sl := by kernel_rfl
theorem ty_el47 : elt? Tryz.prog 47 = some (37, 2, 48) := by kernel_rfl
theorem ty_sz86 : sz? Tryz.prog 86 = some 1 := by kernel_rfl
theorem ty_ag86 : agg? Tryz.prog 86 = some false := by kernel_rfl
theorem ty_cl86 : cls? Tryz.prog 86 = some .sl := by kernel_rfl
theorem ty_el86 : elt? Tryz.prog 86 = some (189, 1, 24) := by kernel_rfl
theorem ty_sz88 : sz? Tryz.prog 88 = some 2 := by kernel_rfl
theorem ty_ag88 : agg? Tryz.prog 88 = some true := by kernel_rfl
theorem ty_fd88_0 : fld? Tryz.prog 88 0 = some (0, 1, false) := by kernel_rfl
theorem ty_fd88_1 : fld? Tryz.prog 88 1 = some (1, 1, false) := by kernel_rfl
theorem ty_sz96 : sz? Tryz.prog 96 = some 2 := by kernel_rfl
theorem ty_zr96 : zr? Tryz.prog 96 = some [.int .i64 0, .int .i64 0] := by kernel_rfl
theorem ty_bl96 : bldOk Tryz.prog 96 = true := by kernel_rfl
theorem ty_fd96_0 : fld? Tryz.prog 96 0 = some (0, 1, false) := by kernel_rfl
theorem ty_fd96_1 : fld? Tryz.prog 96 1 = some (1, 1, false) := by kernel_rfl
theorem ty_sz108 : sz? Tryz.prog 108 = some 1 := by kernel_rfl
theorem ty_ag108 : agg? Tryz.prog 108 = some false := by kernel_rfl
theorem ty_cl108 : cls? Tryz.prog 108 = some .ptr := by kernel_rfl
theorem ty_sz110 : sz? Tryz.prog 110 = some 15 := by kernel_rfl
theorem ty_ag110 : agg? Tryz.prog 110 = some true := by kernel_rfl
theorem ty_zr110 : zr? Tryz.prog 110 = some [.int .i64 0, .int .i64 0, .int .i64 0, .slice none 0 0, .slice none 0 0, .slice none 0 0, .slice none 0 0, .int .i64 0, .slice none 0 0, .slice none 0 0, .int .i64 0, .int .i64 0, .slice none 0 0, .slice none 0 0, .pointer none] := by kernel_rfl
theorem ty_bl110 : bldOk Tryz.prog 110 = true := by kernel_rfl
theorem ty_fd110_0 : fld? Tryz.prog 110 0 = some (0, 14, true) := by kernel_rfl
theorem ty_fd110_1 : fld? Tryz.prog 110 1 = some (14, 1, false) := by kernel_rfl
theorem ty_fd129_0 : fld? Tryz.prog 129 0 = some (0, 1, false) := by kernel_rfl
theorem ty_fd129_1 : fld? Tryz.prog 129 1 = some (1, 1, false) := by kernel_rfl
theorem ty_sz143 : sz? Tryz.prog 143 = some 32 := by kernel_rfl
theorem ty_ag143 : agg? Tryz.prog 143 = some true := by kernel_rfl
theorem ty_fd143_0 : fld? Tryz.prog 143 0 = some (0, 1, false) := by kernel_rfl
theorem ty_fd143_1 : fld? Tryz.prog 143 1 = some (1, 5, true) := by kernel_rfl
theorem ty_fd143_2 : fld? Tryz.prog 143 2 = some (6, 5, true) := by kernel_rfl
theorem ty_fd143_3 : fld? Tryz.prog 143 3 = some (11, 5, true) := by kernel_rfl
theorem ty_fd143_4 : fld? Tryz.prog 143 4 = some (16, 5, true) := by kernel_rfl
theorem ty_fd143_5 : fld? Tryz.prog 143 5 = some (21, 1, false) := by kernel_rfl
theorem ty_fd143_6 : fld? Tryz.prog 143 6 = some (22, 5, true) := by kernel_rfl
theorem ty_fd143_7 : fld? Tryz.prog 143 7 = some (27, 5, true) := by kernel_rfl
theorem ty_sz152 : sz? Tryz.prog 152 = some 32 := by kernel_rfl
theorem ty_ag152 : agg? Tryz.prog 152 = some true := by kernel_rfl
theorem ty_zr152 : zr? Tryz.prog 152 = some [.slice none 0 0, .int .i64 0, .slice none 0 0, .slice none 0 0, .int .i64 0, .int .i64 0, .int .i64 0, .slice none 0 0, .slice none 0 0, .int .i64 0, .int .i64 0, .int .i64 0, .slice none 0 0, .slice none 0 0, .int .i64 0, .int .i64 0, .int .i64 0, .slice none 0 0, .slice none 0 0, .int .i64 0, .int .i64 0, .slice none 0 0, .int .i64 0, .slice none 0 0, .slice none 0 0, .int .i64 0, .int .i64 0, .int .i64 0, .slice none 0 0, .slice none 0 0, .int .i64 0, .int .i64 0] := by kernel_rfl
theorem ty_fd152_0 : fld? Tryz.prog 152 0 = some (0, 1, false) := by kernel_rfl
theorem ty_fd152_1 : fld? Tryz.prog 152 1 = some (1, 5, true) := by kernel_rfl
theorem ty_fd152_2 : fld? Tryz.prog 152 2 = some (6, 5, true) := by kernel_rfl
theorem ty_fd152_3 : fld? Tryz.prog 152 3 = some (11, 5, true) := by kernel_rfl
theorem ty_fd152_4 : fld? Tryz.prog 152 4 = some (16, 5, true) := by kernel_rfl
theorem ty_fd152_5 : fld? Tryz.prog 152 5 = some (21, 1, false) := by kernel_rfl
theorem ty_fd152_6 : fld? Tryz.prog 152 6 = some (22, 5, true) := by kernel_rfl
theorem ty_fd152_7 : fld? Tryz.prog 152 7 = some (27, 5, true) := by kernel_rfl
theorem ty_sz156 : sz? Tryz.prog 156 = some 1 := by kernel_rfl
theorem ty_ag156 : agg? Tryz.prog 156 = some false := by kernel_rfl
theorem ty_zr156 : zr? Tryz.prog 156 = some [.slice none 0 0] := by kernel_rfl
theorem ty_cl156 : cls? Tryz.prog 156 = some .sl := by kernel_rfl
theorem ty_el156 : elt? Tryz.prog 156 = some (196, 2, 32) := by kernel_rfl
theorem ty_sz165 : sz? Tryz.prog 165 = some 2 := by kernel_rfl
theorem ty_ag165 : agg? Tryz.prog 165 = some true := by kernel_rfl
theorem ty_zr165 : zr? Tryz.prog 165 = some [.int .i64 0, .int .i64 0] := by kernel_rfl
theorem ty_fd165_0 : fld? Tryz.prog 165 0 = some (0, 1, false) := by kernel_rfl
theorem ty_fd165_1 : fld? Tryz.prog 165 1 = some (1, 1, false) := by kernel_rfl
theorem ty_sz167 : sz? Tryz.prog 167 = some 2 := by kernel_rfl
theorem ty_ag167 : agg? Tryz.prog 167 = some true := by kernel_rfl
theorem ty_fd167_0 : fld? Tryz.prog 167 0 = some (0, 1, false) := by kernel_rfl
theorem ty_fd167_1 : fld? Tryz.prog 167 1 = some (1, 1, false) := by kernel_rfl
theorem ty_sz189 : sz? Tryz.prog 189 = some 1 := by kernel_rfl
theorem ty_ag189 : agg? Tryz.prog 189 = some false := by kernel_rfl
theorem ty_cl189 : cls? Tryz.prog 189 = some .sl := by kernel_rfl
theorem ty_el189 : elt? Tryz.prog 189 = some (230, 2, 32) := by kernel_rfl
theorem ty_sz196 : sz? Tryz.prog 196 = some 2 := by kernel_rfl
theorem ty_ag196 : agg? Tryz.prog 196 = some true := by kernel_rfl
theorem ty_zr196 : zr? Tryz.prog 196 = some [.int .i64 0, .slice none 0 0] := by kernel_rfl
theorem ty_bl196 : bldOk Tryz.prog 196 = true := by kernel_rfl
theorem ty_fd196_0 : fld? Tryz.prog 196 0 = some (0, 1, false) := by kernel_rfl
theorem ty_fd196_1 : fld? Tryz.prog 196 1 = some (1, 1, false) := by kernel_rfl
theorem ty_cl212 : cls? Tryz.prog 212 = some .sl := by kernel_rfl
theorem ty_el212 : elt? Tryz.prog 212 = some (42, 5, 72) := by kernel_rfl
theorem ty_sz230 : sz? Tryz.prog 230 = some 2 := by kernel_rfl
theorem ty_ag230 : agg? Tryz.prog 230 = some true := by kernel_rfl
theorem ty_fd230_0 : fld? Tryz.prog 230 0 = some (0, 1, false) := by kernel_rfl
theorem ty_fd230_1 : fld? Tryz.prog 230 1 = some (1, 1, false) := by kernel_rfl
attribute [go_sem] ty_sz3 ty_ag3 ty_zr3 ty_cl4 ty_sz22 ty_ag22 ty_cl22 ty_el22 ty_sz23 ty_ag23 ty_cl23 ty_el23 ty_sz24 ty_ag24 ty_cl24 ty_el24 ty_sz25 ty_ag25 ty_zr25 ty_cl25 ty_el25 ty_sz27 ty_ag27 ty_fd27_0 ty_fd27_1 ty_fd27_2 ty_fd27_3 ty_fd27_4 ty_sz29 ty_ag29 ty_fd29_0 ty_fd29_1 ty_sz31 ty_ag31 ty_fd31_0 ty_fd31_1 ty_fd31_2 ty_fd31_3 ty_fd31_4 ty_fd31_5 ty_fd31_6 ty_fd31_7 ty_fd31_8 ty_cl32 ty_el32 ty_sz35 ty_ag35 ty_cl35 ty_el35 ty_sz37 ty_ag37 ty_zr37 ty_bl37 ty_fd37_0 ty_fd37_1 ty_sz40 ty_ag40 ty_cl40 ty_el40 ty_sz41 ty_ag41 ty_cl41 ty_el41 ty_sz42 ty_ag42 ty_zr42 ty_fd42_0 ty_fd42_1 ty_fd42_2 ty_fd42_3 ty_fd42_4 ty_sz43 ty_ag43 ty_zr43 ty_fd43_0 ty_fd43_1 ty_sz45 ty_ag45 ty_zr45 ty_fd45_0 ty_fd45_1 ty_fd45_2 ty_fd45_3 ty_fd45_4 ty_fd45_5 ty_fd45_6 ty_fd45_7 ty_fd45_8 ty_cl47 ty_el47 ty_sz86 ty_ag86 ty_cl86 ty_el86 ty_sz88 ty_ag88 ty_fd88_0 ty_fd88_1 ty_sz96 ty_zr96 ty_bl96 ty_fd96_0 ty_fd96_1 ty_sz108 ty_ag108 ty_cl108 ty_sz110 ty_ag110 ty_zr110 ty_bl110 ty_fd110_0 ty_fd110_1 ty_fd129_0 ty_fd129_1 ty_sz143 ty_ag143 ty_fd143_0 ty_fd143_1 ty_fd143_2 ty_fd143_3 ty_fd143_4 ty_fd143_5 ty_fd143_6 ty_fd143_7 ty_sz152 ty_ag152 ty_zr152 ty_fd152_0 ty_fd152_1 ty_fd152_2 ty_fd152_3 ty_fd152_4 ty_fd152_5 ty_fd152_6 ty_fd152_7 ty_sz156 ty_ag156 ty_zr156 ty_cl156 ty_el156 ty_sz165 ty_ag165 ty_zr165 ty_fd165_0 ty_fd165_1 ty_sz167 ty_ag167 ty_fd167_0 ty_fd167_1 ty_sz189 ty_ag189 ty_cl189 ty_el189 ty_sz196 ty_ag196 ty_zr196 ty_bl196 ty_fd196_0 ty_fd196_1 ty_cl212 ty_el212 ty_sz230 ty_ag230 ty_fd230_0 ty_fd230_1
end Go.Ai
end
