/- Own lemmas that the theorem of this claim needs: the abstract machine and walks of functions. -/
import Derived.Test.YtjofbadmkigkjaaGreatDoorVdLawAB
import Derived.Test.YtjofbadmkigkjaaGreatDoorProg
set_option linter.unusedSimpArgs false
set_option linter.unusedVariables false
section
namespace Go.Ai
open Go.Proofs
theorem ty_sz3 : sz? Tryz.prog 3 = some 1 := by kernel_rfl
theorem ty_ag3 : agg? Tryz.prog 3 = some false := by kernel_rfl
theorem ty_zr3 : zr? Tryz.prog 3 = some [.int .i64 0] := by kernel_rfl
theorem ty_cl3 : cls? Tryz.prog 3 = some (.int .i64) := by kernel_rfl
theorem ty_zr5 : zr? Tryz.prog 5 = some [.int .u8 0] := by kernel_rfl
theorem ty_cl5 : cls? Tryz.prog 5 = some (.int .u8) := by kernel_rfl
theorem ty_sz9 : sz? Tryz.prog 9 = some 1 := by kernel_rfl
theorem ty_ag9 : agg? Tryz.prog 9 = some false := by kernel_rfl
theorem ty_zr9 : zr? Tryz.prog 9 = some [.string ⟨#[]⟩] := by kernel_rfl
theorem ty_cl9 : cls? Tryz.prog 9 = some .str := by kernel_rfl
theorem ty_sz22 : sz? Tryz.prog 22 = some 1 := by kernel_rfl
theorem ty_ag22 : agg? Tryz.prog 22 = some false := by kernel_rfl
theorem ty_cl22 : cls? Tryz.prog 22 = some .sl := by kernel_rfl
theorem ty_el22 : elt? Tryz.prog 22 = some (128, 2, 16) := by kernel_rfl
theorem ty_sz23 : sz? Tryz.prog 23 = some 1 := by kernel_rfl
theorem ty_ag23 : agg? Tryz.prog 23 = some false := by kernel_rfl
theorem ty_cl23 : cls? Tryz.prog 23 = some .sl := by kernel_rfl
theorem ty_el23 : elt? Tryz.prog 23 = some (25, 1, 24) := by kernel_rfl
theorem ty_sz24 : sz? Tryz.prog 24 = some 1 := by kernel_rfl
theorem ty_ag24 : agg? Tryz.prog 24 = some false := by kernel_rfl
theorem ty_cl24 : cls? Tryz.prog 24 = some .sl := by kernel_rfl
theorem ty_el24 : elt? Tryz.prog 24 = some (115, 32, 480) := by kernel_rfl
theorem ty_sz25 : sz? Tryz.prog 25 = some 1 := by kernel_rfl
theorem ty_ag25 : agg? Tryz.prog 25 = some false := by kernel_rfl
theorem ty_zr25 : zr? Tryz.prog 25 = some [.slice none 0 0] := by kernel_rfl
theorem ty_cl25 : cls? Tryz.prog 25 = some .sl := by kernel_rfl
theorem ty_el25 : elt? Tryz.prog 25 = some (3, 1, 8) := by kernel_rfl
theorem ty_sz27 : sz? Tryz.prog 27 = some 5 := by kernel_rfl
theorem ty_ag27 : agg? Tryz.prog 27 = some true := by kernel_rfl
theorem ty_fd27_0 : fld? Tryz.prog 27 0 = some (0, 1, false) := by kernel_rfl
theorem ty_fd27_1 : fld? Tryz.prog 27 1 = some (1, 1, false) := by kernel_rfl
theorem ty_fd27_2 : fld? Tryz.prog 27 2 = some (2, 1, false) := by kernel_rfl
theorem ty_fd27_3 : fld? Tryz.prog 27 3 = some (3, 1, false) := by kernel_rfl
theorem ty_fd27_4 : fld? Tryz.prog 27 4 = some (4, 1, false) := by kernel_rfl
theorem ty_sz29 : sz? Tryz.prog 29 = some 2 := by kernel_rfl
theorem ty_ag29 : agg? Tryz.prog 29 = some true := by kernel_rfl
theorem ty_fd29_0 : fld? Tryz.prog 29 0 = some (0, 1, false) := by kernel_rfl
theorem ty_fd29_1 : fld? Tryz.prog 29 1 = some (1, 1, false) := by kernel_rfl
theorem ty_sz31 : sz? Tryz.prog 31 = some 14 := by kernel_rfl
theorem ty_ag31 : agg? Tryz.prog 31 = some true := by kernel_rfl
theorem ty_fd31_0 : fld? Tryz.prog 31 0 = some (0, 1, false) := by kernel_rfl
theorem ty_fd31_1 : fld? Tryz.prog 31 1 = some (1, 1, false) := by kernel_rfl
theorem ty_fd31_2 : fld? Tryz.prog 31 2 = some (2, 1, false) := by kernel_rfl
theorem ty_fd31_3 : fld? Tryz.prog 31 3 = some (3, 1, false) := by kernel_rfl
theorem ty_fd31_4 : fld? Tryz.prog 31 4 = some (4, 1, false) := by kernel_rfl
theorem ty_fd31_5 : fld? Tryz.prog 31 5 = some (5, 1, false) := by kernel_rfl
theorem ty_fd31_6 : fld? Tryz.prog 31 6 = some (6, 1, false) := by kernel_rfl
theorem ty_fd31_7 : fld? Tryz.prog 31 7 = some (7, 5, true) := by kernel_rfl
theorem ty_fd31_8 : fld? Tryz.prog 31 8 = some (12, 2, true) := by kernel_rfl
theorem ty_sz32 : sz? Tryz.prog 32 = some 1 := by kernel_rfl
theorem ty_ag32 : agg? Tryz.prog 32 = some false := by kernel_rfl
theorem ty_cl32 : cls? Tryz.prog 32 = some .sl := by kernel_rfl
theorem ty_el32 : elt? Tryz.prog 32 = some (117, 1, 24) := by kernel_rfl
theorem ty_sz34 : sz? Tryz.prog 34 = some 2 := by kernel_rfl
theorem ty_ag34 : agg? Tryz.prog 34 = some true := by kernel_rfl
theorem ty_fd34_0 : fld? Tryz.prog 34 0 = some (0, 1, false) := by kernel_rfl
theorem ty_fd34_1 : fld? Tryz.prog 34 1 = some (1, 1, false) := by kernel_rfl
theorem ty_sz35 : sz? Tryz.prog 35 = some 1 := by kernel_rfl
theorem ty_ag35 : agg? Tryz.prog 35 = some false := by kernel_rfl
theorem ty_cl35 : cls? Tryz.prog 35 = some .sl := by kernel_rfl
theorem ty_el35 : elt? Tryz.prog 35 = some (88, 10, 128) := by kernel_rfl
theorem ty_sz37 : sz? Tryz.prog 37 = some 17 := by kernel_rfl
theorem ty_ag37 : agg? Tryz.prog 37 = some true := by kernel_rfl
theorem ty_fd37_0 : fld? Tryz.prog 37 0 = some (0, 14, true) := by kernel_rfl
theorem ty_fd37_1 : fld? Tryz.prog 37 1 = some (14, 2, true) := by kernel_rfl
theorem ty_fd37_2 : fld? Tryz.prog 37 2 = some (16, 1, false) := by kernel_rfl
theorem ty_sz40 : sz? Tryz.prog 40 = some 1 := by kernel_rfl
theorem ty_ag40 : agg? Tryz.prog 40 = some false := by kernel_rfl
theorem ty_cl40 : cls? Tryz.prog 40 = some .sl := by kernel_rfl
theorem ty_el40 : elt? Tryz.prog 40 = some (126, 2, 16) := by kernel_rfl
theorem ty_sz41 : sz? Tryz.prog 41 = some 1 := by kernel_rfl
theorem ty_ag41 : agg? Tryz.prog 41 = some false := by kernel_rfl
theorem ty_cl41 : cls? Tryz.prog 41 = some .sl := by kernel_rfl
theorem ty_el41 : elt? Tryz.prog 41 = some (130, 32, 480) := by kernel_rfl
theorem ty_sz42 : sz? Tryz.prog 42 = some 5 := by kernel_rfl
theorem ty_ag42 : agg? Tryz.prog 42 = some true := by kernel_rfl
theorem ty_zr42 : zr? Tryz.prog 42 = some [.int .i64 0, .slice none 0 0, .slice none 0 0, .int .i64 0, .int .i64 0] := by kernel_rfl
theorem ty_fd42_0 : fld? Tryz.prog 42 0 = some (0, 1, false) := by kernel_rfl
theorem ty_fd42_1 : fld? Tryz.prog 42 1 = some (1, 1, false) := by kernel_rfl
theorem ty_fd42_2 : fld? Tryz.prog 42 2 = some (2, 1, false) := by kernel_rfl
theorem ty_fd42_3 : fld? Tryz.prog 42 3 = some (3, 1, false) := by kernel_rfl
theorem ty_fd42_4 : fld? Tryz.prog 42 4 = some (4, 1, false) := by kernel_rfl
theorem ty_sz43 : sz? Tryz.prog 43 = some 2 := by kernel_rfl
theorem ty_ag43 : agg? Tryz.prog 43 = some true := by kernel_rfl
theorem ty_zr43 : zr? Tryz.prog 43 = some [.slice none 0 0, .slice none 0 0] := by kernel_rfl
theorem ty_fd43_0 : fld? Tryz.prog 43 0 = some (0, 1, false) := by kernel_rfl
theorem ty_fd43_1 : fld? Tryz.prog 43 1 = some (1, 1, false) := by kernel_rfl
theorem ty_sz45 : sz? Tryz.prog 45 = some 14 := by kernel_rfl
theorem ty_ag45 : agg? Tryz.prog 45 = some true := by kernel_rfl
theorem ty_zr45 : zr? Tryz.prog 45 = some [.int .i64 0, .int .i64 0, .int .i64 0, .slice none 0 0, .slice none 0 0, .slice none 0 0, .slice none 0 0, .int .i64 0, .slice none 0 0, .slice none 0 0, .int .i64 0, .int .i64 0, .slice none 0 0, .slice none 0 0] := by kernel_rfl
theorem ty_fd45_0 : fld? Tryz.prog 45 0 = some (0, 1, false) := by kernel_rfl
theorem ty_fd45_1 : fld? Tryz.prog 45 1 = some (1, 1, false) := by kernel_rfl
theorem ty_fd45_2 : fld? Tryz.prog 45 2 = some (2, 1, false) := by kernel_rfl
theorem ty_fd45_3 : fld? Tryz.prog 45 3 = some (3, 1, false) := by kernel_rfl
theorem ty_fd45_4 : fld? Tryz.prog 45 4 = some (4, 1, false) := by kernel_rfl
theorem ty_fd45_5 : fld? Tryz.prog 45 5 = some (5, 1, false) := by kernel_rfl
theorem ty_fd45_6 : fld? Tryz.prog 45 6 = some (6, 1, false) := by kernel_rfl
theorem ty_fd45_7 : fld? Tryz.prog 45 7 = some (7, 5, true) := by kernel_rfl
theorem ty_fd45_8 : fld? Tryz.prog 45 8 = some (12, 2, true) := by kernel_rfl
theorem ty_sz46 : sz? Tryz.prog 46 = some 1 := by kernel_rfl
theorem ty_ag46 : agg? Tryz.prog 46 = some false := by kernel_rfl
theorem ty_cl46 : cls? Tryz.prog 46 = some .sl := by kernel_rfl
theorem ty_el46 : elt? Tryz.prog 46 = some (132, 1, 24) := by kernel_rfl
theorem ty_sz48 : sz? Tryz.prog 48 = some 2 := by kernel_rfl
theorem ty_ag48 : agg? Tryz.prog 48 = some true := by kernel_rfl
theorem ty_zr48 : zr? Tryz.prog 48 = some [.slice none 0 0, .slice none 0 0] := by kernel_rfl
theorem ty_fd48_0 : fld? Tryz.prog 48 0 = some (0, 1, false) := by kernel_rfl
theorem ty_fd48_1 : fld? Tryz.prog 48 1 = some (1, 1, false) := by kernel_rfl
theorem ty_sz49 : sz? Tryz.prog 49 = some 1 := by kernel_rfl
theorem ty_ag49 : agg? Tryz.prog 49 = some false := by kernel_rfl
theorem ty_cl49 : cls? Tryz.prog 49 = some .sl := by kernel_rfl
theorem ty_el49 : elt? Tryz.prog 49 = some (68, 10, 128) := by kernel_rfl
theorem ty_sz51 : sz? Tryz.prog 51 = some 17 := by kernel_rfl
theorem ty_ag51 : agg? Tryz.prog 51 = some true := by kernel_rfl
theorem ty_zr51 : zr? Tryz.prog 51 = some [.int .i64 0, .int .i64 0, .int .i64 0, .slice none 0 0, .slice none 0 0, .slice none 0 0, .slice none 0 0, .int .i64 0, .slice none 0 0, .slice none 0 0, .int .i64 0, .int .i64 0, .slice none 0 0, .slice none 0 0, .slice none 0 0, .slice none 0 0, .slice none 0 0] := by kernel_rfl
theorem ty_fd51_0 : fld? Tryz.prog 51 0 = some (0, 14, true) := by kernel_rfl
theorem ty_fd51_1 : fld? Tryz.prog 51 1 = some (14, 2, true) := by kernel_rfl
theorem ty_fd51_2 : fld? Tryz.prog 51 2 = some (16, 1, false) := by kernel_rfl
theorem ty_sz60 : sz? Tryz.prog 60 = some 1 := by kernel_rfl
theorem ty_ag60 : agg? Tryz.prog 60 = some false := by kernel_rfl
theorem ty_cl60 : cls? Tryz.prog 60 = some .sl := by kernel_rfl
theorem ty_el60 : elt? Tryz.prog 60 = some (9, 1, 16) := by kernel_rfl
theorem ty_sz63 : sz? Tryz.prog 63 = some 4 := by kernel_rfl
theorem ty_ag63 : agg? Tryz.prog 63 = some true := by kernel_rfl
theorem ty_zr63 : zr? Tryz.prog 63 = some [.int .i64 0, .int .i64 0, .int .i64 0, .slice none 0 0] := by kernel_rfl
theorem ty_fd63_0 : fld? Tryz.prog 63 0 = some (0, 1, false) := by kernel_rfl
theorem ty_fd63_1 : fld? Tryz.prog 63 1 = some (1, 1, false) := by kernel_rfl
theorem ty_fd63_2 : fld? Tryz.prog 63 2 = some (2, 1, false) := by kernel_rfl
theorem ty_fd63_3 : fld? Tryz.prog 63 3 = some (3, 1, false) := by kernel_rfl
theorem ty_sz64 : sz? Tryz.prog 64 = some 1 := by kernel_rfl
theorem ty_ag64 : agg? Tryz.prog 64 = some false := by kernel_rfl
theorem ty_sz66 : sz? Tryz.prog 66 = some 2 := by kernel_rfl
theorem ty_ag66 : agg? Tryz.prog 66 = some true := by kernel_rfl
theorem ty_zr66 : zr? Tryz.prog 66 = some [.slice none 0 0, .int .i64 0] := by kernel_rfl
theorem ty_fd66_0 : fld? Tryz.prog 66 0 = some (0, 1, false) := by kernel_rfl
theorem ty_fd66_1 : fld? Tryz.prog 66 1 = some (1, 1, false) := by kernel_rfl
theorem ty_sz68 : sz? Tryz.prog 68 = some 10 := by kernel_rfl
theorem ty_ag68 : agg? Tryz.prog 68 = some true := by kernel_rfl
theorem ty_zr68 : zr? Tryz.prog 68 = some [.int .i64 0, .slice none 0 0, .int .i64 0, .int .i64 0, .int .i64 0, .slice none 0 0, .int .u64 0, .slice none 0 0, .int .i64 0, .int .i64 0] := by kernel_rfl
theorem ty_bl68 : bldOk Tryz.prog 68 = true := by kernel_rfl
theorem ty_fd68_0 : fld? Tryz.prog 68 0 = some (0, 1, false) := by kernel_rfl
theorem ty_fd68_1 : fld? Tryz.prog 68 1 = some (1, 1, false) := by kernel_rfl
theorem ty_fd68_2 : fld? Tryz.prog 68 2 = some (2, 4, true) := by kernel_rfl
theorem ty_fd68_3 : fld? Tryz.prog 68 3 = some (6, 1, false) := by kernel_rfl
theorem ty_fd68_4 : fld? Tryz.prog 68 4 = some (7, 2, true) := by kernel_rfl
theorem ty_fd68_5 : fld? Tryz.prog 68 5 = some (9, 1, false) := by kernel_rfl
theorem ty_sz85 : sz? Tryz.prog 85 = some 4 := by kernel_rfl
theorem ty_ag85 : agg? Tryz.prog 85 = some true := by kernel_rfl
theorem ty_fd85_0 : fld? Tryz.prog 85 0 = some (0, 1, false) := by kernel_rfl
theorem ty_fd85_1 : fld? Tryz.prog 85 1 = some (1, 1, false) := by kernel_rfl
theorem ty_fd85_2 : fld? Tryz.prog 85 2 = some (2, 1, false) := by kernel_rfl
theorem ty_fd85_3 : fld? Tryz.prog 85 3 = some (3, 1, false) := by kernel_rfl
theorem ty_sz86 : sz? Tryz.prog 86 = some 2 := by kernel_rfl
theorem ty_ag86 : agg? Tryz.prog 86 = some true := by kernel_rfl
theorem ty_fd86_0 : fld? Tryz.prog 86 0 = some (0, 1, false) := by kernel_rfl
theorem ty_fd86_1 : fld? Tryz.prog 86 1 = some (1, 1, false) := by kernel_rfl
theorem ty_sz88 : sz? Tryz.prog 88 = some 10 := by kernel_rfl
theorem ty_ag88 : agg? Tryz.prog 88 = some true := by kernel_rfl
theorem ty_fd88_0 : fld? Tryz.prog 88 0 = some (0, 1, false) := by kernel_rfl
theorem ty_fd88_1 : fld? Tryz.prog 88 1 = some (1, 1, false) := by kernel_rfl
theorem ty_fd88_2 : fld? Tryz.prog 88 2 = some (2, 4, true) := by kernel_rfl
theorem ty_fd88_3 : fld? Tryz.prog 88 3 = some (6, 1, false) := by kernel_rfl
theorem ty_fd88_4 : fld? Tryz.prog 88 4 = some (7, 2, true) := by kernel_rfl
theorem ty_fd88_5 : fld? Tryz.prog 88 5 = some (9, 1, false) := by kernel_rfl
theorem ty_cl92 : cls? Tryz.prog 92 = some .sl := by kernel_rfl
theorem ty_el92 : elt? Tryz.prog 92 = some (5, 1, 1) := by kernel_rfl
theorem ty_sz115 : sz? Tryz.prog 115 = some 32 := by kernel_rfl
theorem ty_ag115 : agg? Tryz.prog 115 = some true := by kernel_rfl
theorem ty_fd115_0 : fld? Tryz.prog 115 0 = some (0, 1, false) := by kernel_rfl
theorem ty_fd115_1 : fld? Tryz.prog 115 1 = some (1, 5, true) := by kernel_rfl
theorem ty_fd115_2 : fld? Tryz.prog 115 2 = some (6, 5, true) := by kernel_rfl
theorem ty_fd115_3 : fld? Tryz.prog 115 3 = some (11, 5, true) := by kernel_rfl
theorem ty_fd115_4 : fld? Tryz.prog 115 4 = some (16, 5, true) := by kernel_rfl
theorem ty_fd115_5 : fld? Tryz.prog 115 5 = some (21, 1, false) := by kernel_rfl
theorem ty_fd115_6 : fld? Tryz.prog 115 6 = some (22, 5, true) := by kernel_rfl
theorem ty_fd115_7 : fld? Tryz.prog 115 7 = some (27, 5, true) := by kernel_rfl
theorem ty_sz117 : sz? Tryz.prog 117 = some 1 := by kernel_rfl
theorem ty_ag117 : agg? Tryz.prog 117 = some false := by kernel_rfl
theorem ty_cl117 : cls? Tryz.prog 117 = some .sl := by kernel_rfl
theorem ty_el117 : elt? Tryz.prog 117 = some (145, 2, 48) := by kernel_rfl
theorem ty_sz126 : sz? Tryz.prog 126 = some 2 := by kernel_rfl
theorem ty_ag126 : agg? Tryz.prog 126 = some true := by kernel_rfl
theorem ty_zr126 : zr? Tryz.prog 126 = some [.int .i64 0, .int .i64 0] := by kernel_rfl
theorem ty_fd126_0 : fld? Tryz.prog 126 0 = some (0, 1, false) := by kernel_rfl
theorem ty_fd126_1 : fld? Tryz.prog 126 1 = some (1, 1, false) := by kernel_rfl
theorem ty_sz128 : sz? Tryz.prog 128 = some 2 := by kernel_rfl
theorem ty_ag128 : agg? Tryz.prog 128 = some true := by kernel_rfl
theorem ty_fd128_0 : fld? Tryz.prog 128 0 = some (0, 1, false) := by kernel_rfl
theorem ty_fd128_1 : fld? Tryz.prog 128 1 = some (1, 1, false) := by kernel_rfl
theorem ty_sz130 : sz? Tryz.prog 130 = some 32 := by kernel_rfl
theorem ty_ag130 : agg? Tryz.prog 130 = some true := by kernel_rfl
theorem ty_zr130 : zr? Tryz.prog 130 = some [.slice none 0 0, .int .i64 0, .slice none 0 0, .slice none 0 0, .int .i64 0, .int .i64 0, .int .i64 0, .slice none 0 0, .slice none 0 0, .int .i64 0, .int .i64 0, .int .i64 0, .slice none 0 0, .slice none 0 0, .int .i64 0, .int .i64 0, .int .i64 0, .slice none 0 0, .slice none 0 0, .int .i64 0, .int .i64 0, .slice none 0 0, .int .i64 0, .slice none 0 0, .slice none 0 0, .int .i64 0, .int .i64 0, .int .i64 0, .slice none 0 0, .slice none 0 0, .int .i64 0, .int .i64 0] := by kernel_rfl
theorem ty_fd130_0 : fld? Tryz.prog 130 0 = some (0, 1, false) := by kernel_rfl
theorem ty_fd130_1 : fld? Tryz.prog 130 1 = some (1, 5, true) := by kernel_rfl
theorem ty_fd130_2 : fld? Tryz.prog 130 2 = some (6, 5, true) := by kernel_rfl
theorem ty_fd130_3 : fld? Tryz.prog 130 3 = some (11, 5, true) := by kernel_rfl
theorem ty_fd130_4 : fld? Tryz.prog 130 4 = some (16, 5, true) := by kernel_rfl
theorem ty_fd130_5 : fld? Tryz.prog 130 5 = some (21, 1, false) := by kernel_rfl
theorem ty_fd130_6 : fld? Tryz.prog 130 6 = some (22, 5, true) := by kernel_rfl
theorem ty_fd130_7 : fld? Tryz.prog 130 7 = some (27, 5, true) := by kernel_rfl
theorem ty_sz132 : sz? Tryz.prog 132 = some 1 := by kernel_rfl
theorem ty_ag132 : agg? Tryz.prog 132 = some false := by kernel_rfl
theorem ty_zr132 : zr? Tryz.prog 132 = some [.slice none 0 0] := by kernel_rfl
theorem ty_cl132 : cls? Tryz.prog 132 = some .sl := by kernel_rfl
theorem ty_el132 : elt? Tryz.prog 132 = some (166, 2, 48) := by kernel_rfl
theorem ty_sz143 : sz? Tryz.prog 143 = some 1 := by kernel_rfl
theorem ty_ag143 : agg? Tryz.prog 143 = some false := by kernel_rfl
theorem ty_cl143 : cls? Tryz.prog 143 = some .sl := by kernel_rfl
theorem ty_el143 : elt? Tryz.prog 143 = some (192, 1, 24) := by kernel_rfl
theorem ty_sz145 : sz? Tryz.prog 145 = some 2 := by kernel_rfl
theorem ty_ag145 : agg? Tryz.prog 145 = some true := by kernel_rfl
theorem ty_fd145_0 : fld? Tryz.prog 145 0 = some (0, 1, false) := by kernel_rfl
theorem ty_fd145_1 : fld? Tryz.prog 145 1 = some (1, 1, false) := by kernel_rfl
theorem ty_sz164 : sz? Tryz.prog 164 = some 1 := by kernel_rfl
theorem ty_ag164 : agg? Tryz.prog 164 = some false := by kernel_rfl
theorem ty_cl164 : cls? Tryz.prog 164 = some .sl := by kernel_rfl
theorem ty_el164 : elt? Tryz.prog 164 = some (195, 1, 24) := by kernel_rfl
theorem ty_sz166 : sz? Tryz.prog 166 = some 2 := by kernel_rfl
theorem ty_ag166 : agg? Tryz.prog 166 = some true := by kernel_rfl
theorem ty_zr166 : zr? Tryz.prog 166 = some [.slice none 0 0, .slice none 0 0] := by kernel_rfl
theorem ty_fd166_0 : fld? Tryz.prog 166 0 = some (0, 1, false) := by kernel_rfl
theorem ty_fd166_1 : fld? Tryz.prog 166 1 = some (1, 1, false) := by kernel_rfl
theorem ty_sz192 : sz? Tryz.prog 192 = some 1 := by kernel_rfl
theorem ty_ag192 : agg? Tryz.prog 192 = some false := by kernel_rfl
theorem ty_cl192 : cls? Tryz.prog 192 = some .sl := by kernel_rfl
theorem ty_el192 : elt? Tryz.prog 192 = some (219, 2, 32) := by kernel_rfl
theorem ty_sz195 : sz? Tryz.prog 195 = some 1 := by kernel_rfl
theorem ty_ag195 : agg? Tryz.prog 195 = some false := by kernel_rfl
theorem ty_zr195 : zr? Tryz.prog 195 = some [.slice none 0 0] := by kernel_rfl
theorem ty_cl195 : cls? Tryz.prog 195 = some .sl := by kernel_rfl
theorem ty_el195 : elt? Tryz.prog 195 = some (221, 2, 32) := by kernel_rfl
theorem ty_cl203 : cls? Tryz.prog 203 = some .sl := by kernel_rfl
theorem ty_el203 : elt? Tryz.prog 203 = some (42, 5, 72) := by kernel_rfl
theorem ty_sz219 : sz? Tryz.prog 219 = some 2 := by kernel_rfl
theorem ty_ag219 : agg? Tryz.prog 219 = some true := by kernel_rfl
theorem ty_fd219_0 : fld? Tryz.prog 219 0 = some (0, 1, false) := by kernel_rfl
theorem ty_fd219_1 : fld? Tryz.prog 219 1 = some (1, 1, false) := by kernel_rfl
theorem ty_sz221 : sz? Tryz.prog 221 = some 2 := by kernel_rfl
theorem ty_ag221 : agg? Tryz.prog 221 = some true := by kernel_rfl
theorem ty_zr221 : zr? Tryz.prog 221 = some [.int .i64 0, .slice none 0 0] := by kernel_rfl
theorem ty_fd221_0 : fld? Tryz.prog 221 0 = some (0, 1, false) := by kernel_rfl
theorem ty_fd221_1 : fld? Tryz.prog 221 1 = some (1, 1, false) := by kernel_rfl
attribute [go_sem] ty_sz3 ty_ag3 ty_zr3 ty_cl3 ty_zr5 ty_cl5 ty_sz9 ty_ag9 ty_zr9 ty_cl9 ty_sz22 ty_ag22 ty_cl22 ty_el22 ty_sz23 ty_ag23 ty_cl23 ty_el23 ty_sz24 ty_ag24 ty_cl24 ty_el24 ty_sz25 ty_ag25 ty_zr25 ty_cl25 ty_el25 ty_sz27 ty_ag27 ty_fd27_0 ty_fd27_1 ty_fd27_2 ty_fd27_3 ty_fd27_4 ty_sz29 ty_ag29 ty_fd29_0 ty_fd29_1 ty_sz31 ty_ag31 ty_fd31_0 ty_fd31_1 ty_fd31_2 ty_fd31_3 ty_fd31_4 ty_fd31_5 ty_fd31_6 ty_fd31_7 ty_fd31_8 ty_sz32 ty_ag32 ty_cl32 ty_el32 ty_sz34 ty_ag34 ty_fd34_0 ty_fd34_1 ty_sz35 ty_ag35 ty_cl35 ty_el35 ty_sz37 ty_ag37 ty_fd37_0 ty_fd37_1 ty_fd37_2 ty_sz40 ty_ag40 ty_cl40 ty_el40 ty_sz41 ty_ag41 ty_cl41 ty_el41 ty_sz42 ty_ag42 ty_zr42 ty_fd42_0 ty_fd42_1 ty_fd42_2 ty_fd42_3 ty_fd42_4 ty_sz43 ty_ag43 ty_zr43 ty_fd43_0 ty_fd43_1 ty_sz45 ty_ag45 ty_zr45 ty_fd45_0 ty_fd45_1 ty_fd45_2 ty_fd45_3 ty_fd45_4 ty_fd45_5 ty_fd45_6 ty_fd45_7 ty_fd45_8 ty_sz46 ty_ag46 ty_cl46 ty_el46 ty_sz48 ty_ag48 ty_zr48 ty_fd48_0 ty_fd48_1 ty_sz49 ty_ag49 ty_cl49 ty_el49 ty_sz51 ty_ag51 ty_zr51 ty_fd51_0 ty_fd51_1 ty_fd51_2 ty_sz60 ty_ag60 ty_cl60 ty_el60 ty_sz63 ty_ag63 ty_zr63 ty_fd63_0 ty_fd63_1 ty_fd63_2 ty_fd63_3 ty_sz64 ty_ag64 ty_sz66 ty_ag66 ty_zr66 ty_fd66_0 ty_fd66_1 ty_sz68 ty_ag68 ty_zr68 ty_bl68 ty_fd68_0 ty_fd68_1 ty_fd68_2 ty_fd68_3 ty_fd68_4 ty_fd68_5 ty_sz85 ty_ag85 ty_fd85_0 ty_fd85_1 ty_fd85_2 ty_fd85_3 ty_sz86 ty_ag86 ty_fd86_0 ty_fd86_1 ty_sz88 ty_ag88 ty_fd88_0 ty_fd88_1 ty_fd88_2 ty_fd88_3 ty_fd88_4 ty_fd88_5 ty_cl92 ty_el92 ty_sz115 ty_ag115 ty_fd115_0 ty_fd115_1 ty_fd115_2 ty_fd115_3 ty_fd115_4 ty_fd115_5 ty_fd115_6 ty_fd115_7 ty_sz117 ty_ag117 ty_cl117 ty_el117 ty_sz126 ty_ag126 ty_zr126 ty_fd126_0 ty_fd126_1 ty_sz128 ty_ag128 ty_fd128_0 ty_fd128_1 ty_sz130 ty_ag130 ty_zr130 ty_fd130_0 ty_fd130_1 ty_fd130_2 ty_fd130_3 ty_fd130_4 ty_fd130_5 ty_fd130_6 ty_fd130_7 ty_sz132 ty_ag132 ty_zr132 ty_cl132 ty_el132 ty_sz143 ty_ag143 ty_cl143 ty_el143 ty_sz145 ty_ag145 ty_fd145_0 ty_fd145_1 ty_sz164 ty_ag164 ty_cl164 ty_el164 ty_sz166 ty_ag166 ty_zr166 ty_fd166_0 ty_fd166_1 ty_sz192 ty_ag192 ty_cl192 ty_el192 ty_sz195 ty_ag195 ty_zr195 ty_cl195 ty_el195 ty_cl203 ty_el203 ty_sz219 ty_ag219 ty_fd219_0 ty_fd219_1 ty_sz221 ty_ag221 ty_zr221 ty_fd221_0 ty_fd221_1
end Go.Ai
end
