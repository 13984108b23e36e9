/- Own lemmas that the theorem of this claim needs: the abstract machine and walks of functions. -/
import Derived.Test.YtjofbadmkigkjaaGreatReLawAB
import Derived.Test.YtjofbadmkigkjaaGreatProg
set_option linter.unusedSimpArgs false
set_option linter.unusedVariables false
section
namespace Go.Ai
open Go.Proofs
theorem ty_sz3 : sz? Tryz.prog 3 = some 1 := by kernel_rfl
theorem ty_ag3 : agg? Tryz.prog 3 = some false := by kernel_rfl
theorem ty_zr3 : zr? Tryz.prog 3 = some [.int .i64 0] := by kernel_rfl
theorem ty_cl3 : cls? Tryz.prog 3 = some (.int .i64) := by kernel_rfl
theorem ty_zr5 : zr? Tryz.prog 5 = some [.int .u8 0] := by kernel_rfl
theorem ty_cl5 : cls? Tryz.prog 5 = some (.int .u8) := by kernel_rfl
theorem ty_sz9 : sz? Tryz.prog 9 = some 1 := by kernel_rfl
theorem ty_ag9 : agg? Tryz.prog 9 = some false := by kernel_rfl
theorem ty_zr9 : zr? Tryz.prog 9 = some [.string ⟨#[]⟩] := by kernel_rfl
theorem ty_cl9 : cls? Tryz.prog 9 = some .str := by kernel_rfl
theorem ty_cl22 : cls? Tryz.prog 22 = some .sl := by kernel_rfl
theorem ty_el22 : elt? Tryz.prog 22 = some (5, 1, 1) := by kernel_rfl
theorem ty_sz24 : sz? Tryz.prog 24 = some 1 := by kernel_rfl
theorem ty_ag24 : agg? Tryz.prog 24 = some false := by kernel_rfl
theorem ty_cl24 : cls? Tryz.prog 24 = some .sl := by kernel_rfl
theorem ty_el24 : elt? Tryz.prog 24 = some (169, 2, 16) := by kernel_rfl
theorem ty_sz25 : sz? Tryz.prog 25 = some 1 := by kernel_rfl
theorem ty_ag25 : agg? Tryz.prog 25 = some false := by kernel_rfl
theorem ty_cl25 : cls? Tryz.prog 25 = some .sl := by kernel_rfl
theorem ty_el25 : elt? Tryz.prog 25 = some (27, 1, 24) := by kernel_rfl
theorem ty_sz26 : sz? Tryz.prog 26 = some 1 := by kernel_rfl
theorem ty_ag26 : agg? Tryz.prog 26 = some false := by kernel_rfl
theorem ty_cl26 : cls? Tryz.prog 26 = some .sl := by kernel_rfl
theorem ty_el26 : elt? Tryz.prog 26 = some (155, 32, 480) := by kernel_rfl
theorem ty_sz27 : sz? Tryz.prog 27 = some 1 := by kernel_rfl
theorem ty_ag27 : agg? Tryz.prog 27 = some false := by kernel_rfl
theorem ty_zr27 : zr? Tryz.prog 27 = some [.slice none 0 0] := by kernel_rfl
theorem ty_cl27 : cls? Tryz.prog 27 = some .sl := by kernel_rfl
theorem ty_el27 : elt? Tryz.prog 27 = some (3, 1, 8) := by kernel_rfl
theorem ty_sz29 : sz? Tryz.prog 29 = some 5 := by kernel_rfl
theorem ty_ag29 : agg? Tryz.prog 29 = some true := by kernel_rfl
theorem ty_zr29 : zr? Tryz.prog 29 = some [.int .i64 0, .slice none 0 0, .slice none 0 0, .int .i64 0, .int .i64 0] := by kernel_rfl
theorem ty_fd29_0 : fld? Tryz.prog 29 0 = some (0, 1, false) := by kernel_rfl
theorem ty_fd29_1 : fld? Tryz.prog 29 1 = some (1, 1, false) := by kernel_rfl
theorem ty_fd29_2 : fld? Tryz.prog 29 2 = some (2, 1, false) := by kernel_rfl
theorem ty_fd29_3 : fld? Tryz.prog 29 3 = some (3, 1, false) := by kernel_rfl
theorem ty_fd29_4 : fld? Tryz.prog 29 4 = some (4, 1, false) := by kernel_rfl
theorem ty_sz31 : sz? Tryz.prog 31 = some 2 := by kernel_rfl
theorem ty_ag31 : agg? Tryz.prog 31 = some true := by kernel_rfl
theorem ty_zr31 : zr? Tryz.prog 31 = some [.slice none 0 0, .slice none 0 0] := by kernel_rfl
theorem ty_bl31 : bldOk Tryz.prog 31 = true := by kernel_rfl
theorem ty_fd31_0 : fld? Tryz.prog 31 0 = some (0, 1, false) := by kernel_rfl
theorem ty_fd31_1 : fld? Tryz.prog 31 1 = some (1, 1, false) := by kernel_rfl
theorem ty_sz33 : sz? Tryz.prog 33 = some 14 := by kernel_rfl
theorem ty_ag33 : agg? Tryz.prog 33 = some true := by kernel_rfl
theorem ty_zr33 : zr? Tryz.prog 33 = some [.int .i64 0, .int .i64 0, .int .i64 0, .slice none 0 0, .slice none 0 0, .slice none 0 0, .slice none 0 0, .int .i64 0, .slice none 0 0, .slice none 0 0, .int .i64 0, .int .i64 0, .slice none 0 0, .slice none 0 0] := by kernel_rfl
theorem ty_fd33_0 : fld? Tryz.prog 33 0 = some (0, 1, false) := by kernel_rfl
theorem ty_fd33_1 : fld? Tryz.prog 33 1 = some (1, 1, false) := by kernel_rfl
theorem ty_fd33_2 : fld? Tryz.prog 33 2 = some (2, 1, false) := by kernel_rfl
theorem ty_fd33_3 : fld? Tryz.prog 33 3 = some (3, 1, false) := by kernel_rfl
theorem ty_fd33_4 : fld? Tryz.prog 33 4 = some (4, 1, false) := by kernel_rfl
theorem ty_fd33_5 : fld? Tryz.prog 33 5 = some (5, 1, false) := by kernel_rfl
theorem ty_fd33_6 : fld? Tryz.prog 33 6 = some (6, 1, false) := by kernel_rfl
theorem ty_fd33_7 : fld? Tryz.prog 33 7 = some (7, 5, true) := by kernel_rfl
theorem ty_fd33_8 : fld? Tryz.prog 33 8 = some (12, 2, true) := by kernel_rfl
theorem ty_sz36 : sz? Tryz.prog 36 = some 1 := by kernel_rfl
theorem ty_ag36 : agg? Tryz.prog 36 = some false := by kernel_rfl
theorem ty_cl36 : cls? Tryz.prog 36 = some .sl := by kernel_rfl
theorem ty_el36 : elt? Tryz.prog 36 = some (171, 1, 24) := by kernel_rfl
theorem ty_sz38 : sz? Tryz.prog 38 = some 2 := by kernel_rfl
theorem ty_ag38 : agg? Tryz.prog 38 = some true := by kernel_rfl
theorem ty_zr38 : zr? Tryz.prog 38 = some [.slice none 0 0, .slice none 0 0] := by kernel_rfl
theorem ty_bl38 : bldOk Tryz.prog 38 = true := by kernel_rfl
theorem ty_fd38_0 : fld? Tryz.prog 38 0 = some (0, 1, false) := by kernel_rfl
theorem ty_fd38_1 : fld? Tryz.prog 38 1 = some (1, 1, false) := by kernel_rfl
theorem ty_sz39 : sz? Tryz.prog 39 = some 1 := by kernel_rfl
theorem ty_ag39 : agg? Tryz.prog 39 = some false := by kernel_rfl
theorem ty_cl39 : cls? Tryz.prog 39 = some .sl := by kernel_rfl
theorem ty_el39 : elt? Tryz.prog 39 = some (102, 10, 128) := by kernel_rfl
theorem ty_sz41 : sz? Tryz.prog 41 = some 17 := by kernel_rfl
theorem ty_ag41 : agg? Tryz.prog 41 = some true := by kernel_rfl
theorem ty_zr41 : zr? Tryz.prog 41 = some [.int .i64 0, .int .i64 0, .int .i64 0, .slice none 0 0, .slice none 0 0, .slice none 0 0, .slice none 0 0, .int .i64 0, .slice none 0 0, .slice none 0 0, .int .i64 0, .int .i64 0, .slice none 0 0, .slice none 0 0, .slice none 0 0, .slice none 0 0, .slice none 0 0] := by kernel_rfl
theorem ty_bl41 : bldOk Tryz.prog 41 = true := by kernel_rfl
theorem ty_fd41_0 : fld? Tryz.prog 41 0 = some (0, 14, true) := by kernel_rfl
theorem ty_fd41_1 : fld? Tryz.prog 41 1 = some (14, 2, true) := by kernel_rfl
theorem ty_fd41_2 : fld? Tryz.prog 41 2 = some (16, 1, false) := by kernel_rfl
theorem ty_sz47 : sz? Tryz.prog 47 = some 1 := by kernel_rfl
theorem ty_ag47 : agg? Tryz.prog 47 = some false := by kernel_rfl
theorem ty_cl47 : cls? Tryz.prog 47 = some .sl := by kernel_rfl
theorem ty_el47 : elt? Tryz.prog 47 = some (9, 1, 16) := by kernel_rfl
theorem ty_sz49 : sz? Tryz.prog 49 = some 4 := by kernel_rfl
theorem ty_ag49 : agg? Tryz.prog 49 = some true := by kernel_rfl
theorem ty_zr49 : zr? Tryz.prog 49 = some [.int .i64 0, .int .i64 0, .int .i64 0, .slice none 0 0] := by kernel_rfl
theorem ty_fd49_0 : fld? Tryz.prog 49 0 = some (0, 1, false) := by kernel_rfl
theorem ty_fd49_1 : fld? Tryz.prog 49 1 = some (1, 1, false) := by kernel_rfl
theorem ty_fd49_2 : fld? Tryz.prog 49 2 = some (2, 1, false) := by kernel_rfl
theorem ty_fd49_3 : fld? Tryz.prog 49 3 = some (3, 1, false) := by kernel_rfl
theorem ty_sz50 : sz? Tryz.prog 50 = some 1 := by kernel_rfl
theorem ty_ag50 : agg? Tryz.prog 50 = some false := by kernel_rfl
theorem ty_cl50 : cls? Tryz.prog 50 = some .sl := by kernel_rfl
theorem ty_el50 : elt? Tryz.prog 50 = some (198, 2, 16) := by kernel_rfl
theorem ty_sz51 : sz? Tryz.prog 51 = some 1 := by kernel_rfl
theorem ty_ag51 : agg? Tryz.prog 51 = some false := by kernel_rfl
theorem ty_cl51 : cls? Tryz.prog 51 = some .sl := by kernel_rfl
theorem ty_el51 : elt? Tryz.prog 51 = some (196, 32, 480) := by kernel_rfl
theorem ty_sz52 : sz? Tryz.prog 52 = some 5 := by kernel_rfl
theorem ty_ag52 : agg? Tryz.prog 52 = some true := by kernel_rfl
theorem ty_fd52_0 : fld? Tryz.prog 52 0 = some (0, 1, false) := by kernel_rfl
theorem ty_fd52_1 : fld? Tryz.prog 52 1 = some (1, 1, false) := by kernel_rfl
theorem ty_fd52_2 : fld? Tryz.prog 52 2 = some (2, 1, false) := by kernel_rfl
theorem ty_fd52_3 : fld? Tryz.prog 52 3 = some (3, 1, false) := by kernel_rfl
theorem ty_fd52_4 : fld? Tryz.prog 52 4 = some (4, 1, false) := by kernel_rfl
theorem ty_sz53 : sz? Tryz.prog 53 = some 2 := by kernel_rfl
theorem ty_ag53 : agg? Tryz.prog 53 = some true := by kernel_rfl
theorem ty_fd53_0 : fld? Tryz.prog 53 0 = some (0, 1, false) := by kernel_rfl
theorem ty_fd53_1 : fld? Tryz.prog 53 1 = some (1, 1, false) := by kernel_rfl
theorem ty_sz55 : sz? Tryz.prog 55 = some 14 := by kernel_rfl
theorem ty_ag55 : agg? Tryz.prog 55 = some true := by kernel_rfl
theorem ty_fd55_0 : fld? Tryz.prog 55 0 = some (0, 1, false) := by kernel_rfl
theorem ty_fd55_1 : fld? Tryz.prog 55 1 = some (1, 1, false) := by kernel_rfl
theorem ty_fd55_2 : fld? Tryz.prog 55 2 = some (2, 1, false) := by kernel_rfl
theorem ty_fd55_3 : fld? Tryz.prog 55 3 = some (3, 1, false) := by kernel_rfl
theorem ty_fd55_4 : fld? Tryz.prog 55 4 = some (4, 1, false) := by kernel_rfl
theorem ty_fd55_5 : fld? Tryz.prog 55 5 = some (5, 1, false) := by kernel_rfl
theorem ty_fd55_6 : fld? Tryz.prog 55 6 = some (6, 1, false) := by kernel_rfl
theorem ty_fd55_7 : fld? Tryz.prog 55 7 = some (7, 5, true) := by kernel_rfl
theorem ty_fd55_8 : fld? Tryz.prog 55 8 = some (12, 2, true) := by kernel_rfl
theorem ty_sz56 : sz? Tryz.prog 56 = some 1 := by kernel_rfl
theorem ty_ag56 : agg? Tryz.prog 56 = some false := by kernel_rfl
theorem ty_cl56 : cls? Tryz.prog 56 = some .sl := by kernel_rfl
theorem ty_el56 : elt? Tryz.prog 56 = some (233, 1, 24) := by kernel_rfl
theorem ty_sz58 : sz? Tryz.prog 58 = some 2 := by kernel_rfl
theorem ty_ag58 : agg? Tryz.prog 58 = some true := by kernel_rfl
theorem ty_fd58_0 : fld? Tryz.prog 58 0 = some (0, 1, false) := by kernel_rfl
theorem ty_fd58_1 : fld? Tryz.prog 58 1 = some (1, 1, false) := by kernel_rfl
theorem ty_sz59 : sz? Tryz.prog 59 = some 1 := by kernel_rfl
theorem ty_ag59 : agg? Tryz.prog 59 = some false := by kernel_rfl
theorem ty_cl59 : cls? Tryz.prog 59 = some .sl := by kernel_rfl
theorem ty_el59 : elt? Tryz.prog 59 = some (187, 10, 128) := by kernel_rfl
theorem ty_sz61 : sz? Tryz.prog 61 = some 17 := by kernel_rfl
theorem ty_ag61 : agg? Tryz.prog 61 = some true := by kernel_rfl
theorem ty_fd61_0 : fld? Tryz.prog 61 0 = some (0, 14, true) := by kernel_rfl
theorem ty_fd61_1 : fld? Tryz.prog 61 1 = some (14, 2, true) := by kernel_rfl
theorem ty_fd61_2 : fld? Tryz.prog 61 2 = some (16, 1, false) := by kernel_rfl
theorem ty_sz79 : sz? Tryz.prog 79 = some 4 := by kernel_rfl
theorem ty_ag79 : agg? Tryz.prog 79 = some true := by kernel_rfl
theorem ty_fd79_0 : fld? Tryz.prog 79 0 = some (0, 1, false) := by kernel_rfl
theorem ty_fd79_1 : fld? Tryz.prog 79 1 = some (1, 1, false) := by kernel_rfl
theorem ty_fd79_2 : fld? Tryz.prog 79 2 = some (2, 1, false) := by kernel_rfl
theorem ty_fd79_3 : fld? Tryz.prog 79 3 = some (3, 1, false) := by kernel_rfl
theorem ty_sz98 : sz? Tryz.prog 98 = some 1 := by kernel_rfl
theorem ty_ag98 : agg? Tryz.prog 98 = some false := by kernel_rfl
theorem ty_cl98 : cls? Tryz.prog 98 = some (.int .u64) := by kernel_rfl
theorem ty_sz100 : sz? Tryz.prog 100 = some 2 := by kernel_rfl
theorem ty_ag100 : agg? Tryz.prog 100 = some true := by kernel_rfl
theorem ty_zr100 : zr? Tryz.prog 100 = some [.slice none 0 0, .int .i64 0] := by kernel_rfl
theorem ty_bl100 : bldOk Tryz.prog 100 = true := by kernel_rfl
theorem ty_fd100_0 : fld? Tryz.prog 100 0 = some (0, 1, false) := by kernel_rfl
theorem ty_fd100_1 : fld? Tryz.prog 100 1 = some (1, 1, false) := by kernel_rfl
theorem ty_sz102 : sz? Tryz.prog 102 = some 10 := by kernel_rfl
theorem ty_ag102 : agg? Tryz.prog 102 = some true := by kernel_rfl
theorem ty_zr102 : zr? Tryz.prog 102 = some [.int .i64 0, .slice none 0 0, .int .i64 0, .int .i64 0, .int .i64 0, .slice none 0 0, .int .u64 0, .slice none 0 0, .int .i64 0, .int .i64 0] := by kernel_rfl
theorem ty_bl102 : bldOk Tryz.prog 102 = true := by kernel_rfl
theorem ty_fd102_0 : fld? Tryz.prog 102 0 = some (0, 1, false) := by kernel_rfl
theorem ty_fd102_1 : fld? Tryz.prog 102 1 = some (1, 1, false) := by kernel_rfl
theorem ty_fd102_2 : fld? Tryz.prog 102 2 = some (2, 4, true) := by kernel_rfl
theorem ty_fd102_3 : fld? Tryz.prog 102 3 = some (6, 1, false) := by kernel_rfl
theorem ty_fd102_4 : fld? Tryz.prog 102 4 = some (7, 2, true) := by kernel_rfl
theorem ty_fd102_5 : fld? Tryz.prog 102 5 = some (9, 1, false) := by kernel_rfl
theorem ty_sz155 : sz? Tryz.prog 155 = some 32 := by kernel_rfl
theorem ty_ag155 : agg? Tryz.prog 155 = some true := by kernel_rfl
theorem ty_zr155 : zr? Tryz.prog 155 = some [.slice none 0 0, .int .i64 0, .slice none 0 0, .slice none 0 0, .int .i64 0, .int .i64 0, .int .i64 0, .slice none 0 0, .slice none 0 0, .int .i64 0, .int .i64 0, .int .i64 0, .slice none 0 0, .slice none 0 0, .int .i64 0, .int .i64 0, .int .i64 0, .slice none 0 0, .slice none 0 0, .int .i64 0, .int .i64 0, .slice none 0 0, .int .i64 0, .slice none 0 0, .slice none 0 0, .int .i64 0, .int .i64 0, .int .i64 0, .slice none 0 0, .slice none 0 0, .int .i64 0, .int .i64 0] := by kernel_rfl
theorem ty_bl155 : bldOk Tryz.prog 155 = true := by kernel_rfl
theorem ty_fd155_0 : fld? Tryz.prog 155 0 = some (0, 1, false) := by kernel_rfl
theorem ty_fd155_1 : fld? Tryz.prog 155 1 = some (1, 5, true) := by kernel_rfl
theorem ty_fd155_2 : fld? Tryz.prog 155 2 = some (6, 5, true) := by kernel_rfl
theorem ty_fd155_3 : fld? Tryz.prog 155 3 = some (11, 5, true) := by kernel_rfl
theorem ty_fd155_4 : fld? Tryz.prog 155 4 = some (16, 5, true) := by kernel_rfl
theorem ty_fd155_5 : fld? Tryz.prog 155 5 = some (21, 1, false) := by kernel_rfl
theorem ty_fd155_6 : fld? Tryz.prog 155 6 = some (22, 5, true) := by kernel_rfl
theorem ty_fd155_7 : fld? Tryz.prog 155 7 = some (27, 5, true) := by kernel_rfl
theorem ty_sz169 : sz? Tryz.prog 169 = some 2 := by kernel_rfl
theorem ty_ag169 : agg? Tryz.prog 169 = some true := by kernel_rfl
theorem ty_zr169 : zr? Tryz.prog 169 = some [.int .i64 0, .int .i64 0] := by kernel_rfl
theorem ty_fd169_0 : fld? Tryz.prog 169 0 = some (0, 1, false) := by kernel_rfl
theorem ty_fd169_1 : fld? Tryz.prog 169 1 = some (1, 1, false) := by kernel_rfl
theorem ty_sz171 : sz? Tryz.prog 171 = some 1 := by kernel_rfl
theorem ty_ag171 : agg? Tryz.prog 171 = some false := by kernel_rfl
theorem ty_zr171 : zr? Tryz.prog 171 = some [.slice none 0 0] := by kernel_rfl
theorem ty_cl171 : cls? Tryz.prog 171 = some .sl := by kernel_rfl
theorem ty_el171 : elt? Tryz.prog 171 = some (176, 2, 48) := by kernel_rfl
theorem ty_sz174 : sz? Tryz.prog 174 = some 1 := by kernel_rfl
theorem ty_ag174 : agg? Tryz.prog 174 = some false := by kernel_rfl
theorem ty_cl174 : cls? Tryz.prog 174 = some .sl := by kernel_rfl
theorem ty_el174 : elt? Tryz.prog 174 = some (250, 1, 24) := by kernel_rfl
theorem ty_sz176 : sz? Tryz.prog 176 = some 2 := by kernel_rfl
theorem ty_ag176 : agg? Tryz.prog 176 = some true := by kernel_rfl
theorem ty_zr176 : zr? Tryz.prog 176 = some [.slice none 0 0, .slice none 0 0] := by kernel_rfl
theorem ty_bl176 : bldOk Tryz.prog 176 = true := by kernel_rfl
theorem ty_fd176_0 : fld? Tryz.prog 176 0 = some (0, 1, false) := by kernel_rfl
theorem ty_fd176_1 : fld? Tryz.prog 176 1 = some (1, 1, false) := by kernel_rfl
theorem ty_sz185 : sz? Tryz.prog 185 = some 2 := by kernel_rfl
theorem ty_ag185 : agg? Tryz.prog 185 = some true := by kernel_rfl
theorem ty_fd185_0 : fld? Tryz.prog 185 0 = some (0, 1, false) := by kernel_rfl
theorem ty_fd185_1 : fld? Tryz.prog 185 1 = some (1, 1, false) := by kernel_rfl
theorem ty_sz187 : sz? Tryz.prog 187 = some 10 := by kernel_rfl
theorem ty_ag187 : agg? Tryz.prog 187 = some true := by kernel_rfl
theorem ty_fd187_0 : fld? Tryz.prog 187 0 = some (0, 1, false) := by kernel_rfl
theorem ty_fd187_1 : fld? Tryz.prog 187 1 = some (1, 1, false) := by kernel_rfl
theorem ty_fd187_2 : fld? Tryz.prog 187 2 = some (2, 4, true) := by kernel_rfl
theorem ty_fd187_3 : fld? Tryz.prog 187 3 = some (6, 1, false) := by kernel_rfl
theorem ty_fd187_4 : fld? Tryz.prog 187 4 = some (7, 2, true) := by kernel_rfl
theorem ty_fd187_5 : fld? Tryz.prog 187 5 = some (9, 1, false) := by kernel_rfl
theorem ty_sz196 : sz? Tryz.prog 196 = some 32 := by kernel_rfl
theorem ty_ag196 : agg? Tryz.prog 196 = some true := by kernel_rfl
theorem ty_fd196_0 : fld? Tryz.prog 196 0 = some (0, 1, false) := by kernel_rfl
theorem ty_fd196_1 : fld? Tryz.prog 196 1 = some (1, 5, true) := by kernel_rfl
theorem ty_fd196_2 : fld? Tryz.prog 196 2 = some (6, 5, true) := by kernel_rfl
theorem ty_fd196_3 : fld? Tryz.prog 196 3 = some (11, 5, true) := by kernel_rfl
theorem ty_fd196_4 : fld? Tryz.prog 196 4 = some (16, 5, true) := by kernel_rfl
theorem ty_fd196_5 : fld? Tryz.prog 196 5 = some (21, 1, false) := by kernel_rfl
theorem ty_fd196_6 : fld? Tryz.prog 196 6 = some (22, 5, true) := by kernel_rfl
theorem ty_fd196_7 : fld? Tryz.prog 196 7 = some (27, 5, true) := by kernel_rfl
theorem ty_sz198 : sz? Tryz.prog 198 = some 2 := by kernel_rfl
theorem ty_ag198 : agg? Tryz.prog 198 = some true := by kernel_rfl
theorem ty_fd198_0 : fld? Tryz.prog 198 0 = some (0, 1, false) := by kernel_rfl
theorem ty_fd198_1 : fld? Tryz.prog 198 1 = some (1, 1, false) := by kernel_rfl
theorem ty_cl222 : cls? Tryz.prog 222 = some .sl := by kernel_rfl
theorem ty_el222 : elt? Tryz.prog 222 = some (29, 5, 72) := by kernel_rfl
theorem ty_sz233 : sz? Tryz.prog 233 = some 1 := by kernel_rfl
theorem ty_ag233 : agg? Tryz.prog 233 = some false := by kernel_rfl
theorem ty_cl233 : cls? Tryz.prog 233 = some .sl := by kernel_rfl
theorem ty_el233 : elt? Tryz.prog 233 = some (256, 2, 48) := by kernel_rfl
theorem ty_sz250 : sz? Tryz.prog 250 = some 1 := by kernel_rfl
theorem ty_ag250 : agg? Tryz.prog 250 = some false := by kernel_rfl
theorem ty_zr250 : zr? Tryz.prog 250 = some [.slice none 0 0] := by kernel_rfl
theorem ty_cl250 : cls? Tryz.prog 250 = some .sl := by kernel_rfl
theorem ty_el250 : elt? Tryz.prog 250 = some (267, 2, 32) := by kernel_rfl
theorem ty_sz254 : sz? Tryz.prog 254 = some 1 := by kernel_rfl
theorem ty_ag254 : agg? Tryz.prog 254 = some false := by kernel_rfl
theorem ty_cl254 : cls? Tryz.prog 254 = some .sl := by kernel_rfl
theorem ty_el254 : elt? Tryz.prog 254 = some (282, 1, 24) := by kernel_rfl
theorem ty_sz256 : sz? Tryz.prog 256 = some 2 := by kernel_rfl
theorem ty_ag256 : agg? Tryz.prog 256 = some true := by kernel_rfl
theorem ty_fd256_0 : fld? Tryz.prog 256 0 = some (0, 1, false) := by kernel_rfl
theorem ty_fd256_1 : fld? Tryz.prog 256 1 = some (1, 1, false) := by kernel_rfl
theorem ty_sz267 : sz? Tryz.prog 267 = some 2 := by kernel_rfl
theorem ty_ag267 : agg? Tryz.prog 267 = some true := by kernel_rfl
theorem ty_zr267 : zr? Tryz.prog 267 = some [.int .i64 0, .slice none 0 0] := by kernel_rfl
theorem ty_bl267 : bldOk Tryz.prog 267 = true := by kernel_rfl
theorem ty_fd267_0 : fld? Tryz.prog 267 0 = some (0, 1, false) := by kernel_rfl
theorem ty_fd267_1 : fld? Tryz.prog 267 1 = some (1, 1, false) := by kernel_rfl
theorem ty_sz282 : sz? Tryz.prog 282 = some 1 := by kernel_rfl
theorem ty_ag282 : agg? Tryz.prog 282 = some false := by kernel_rfl
theorem ty_cl282 : cls? Tryz.prog 282 = some .sl := by kernel_rfl
theorem ty_el282 : elt? Tryz.prog 282 = some (287, 2, 32) := by kernel_rfl
theorem ty_sz287 : sz? Tryz.prog 287 = some 2 := by kernel_rfl
theorem ty_ag287 : agg? Tryz.prog 287 = some true := by kernel_rfl
theorem ty_fd287_0 : fld? Tryz.prog 287 0 = some (0, 1, false) := by kernel_rfl
theorem ty_fd287_1 : fld? Tryz.prog 287 1 = some (1, 1, false) := by kernel_rfl
attribute [go_sem] ty_sz3 ty_ag3 ty_zr3 ty_cl3 ty_zr5 ty_cl5 ty_sz9 ty_ag9 ty_zr9 ty_cl9 ty_cl22 ty_el22 ty_sz24 ty_ag24 ty_cl24 ty_el24 ty_sz25 ty_ag25 ty_cl25 ty_el25 ty_sz26 ty_ag26 ty_cl26 ty_el26 ty_sz27 ty_ag27 ty_zr27 ty_cl27 ty_el27 ty_sz29 ty_ag29 ty_zr29 ty_fd29_0 ty_fd29_1 ty_fd29_2 ty_fd29_3 ty_fd29_4 ty_sz31 ty_ag31 ty_zr31 ty_bl31 ty_fd31_0 ty_fd31_1 ty_sz33 ty_ag33 ty_zr33 ty_fd33_0 ty_fd33_1 ty_fd33_2 ty_fd33_3 ty_fd33_4 ty_fd33_5 ty_fd33_6 ty_fd33_7 ty_fd33_8 ty_sz36 ty_ag36 ty_cl36 ty_el36 ty_sz38 ty_ag38 ty_zr38 ty_bl38 ty_fd38_0 ty_fd38_1 ty_sz39 ty_ag39 ty_cl39 ty_el39 ty_sz41 ty_ag41 ty_zr41 ty_bl41 ty_fd41_0 ty_fd41_1 ty_fd41_2 ty_sz47 ty_ag47 ty_cl47 ty_el47 ty_sz49 ty_ag49 ty_zr49 ty_fd49_0 ty_fd49_1 ty_fd49_2 ty_fd49_3 ty_sz50 ty_ag50 ty_cl50 ty_el50 ty_sz51 ty_ag51 ty_cl51 ty_el51 ty_sz52 ty_ag52 ty_fd52_0 ty_fd52_1 ty_fd52_2 ty_fd52_3 ty_fd52_4 ty_sz53 ty_ag53 ty_fd53_0 ty_fd53_1 ty_sz55 ty_ag55 ty_fd55_0 ty_fd55_1 ty_fd55_2 ty_fd55_3 ty_fd55_4 ty_fd55_5 ty_fd55_6 ty_fd55_7 ty_fd55_8 ty_sz56 ty_ag56 ty_cl56 ty_el56 ty_sz58 ty_ag58 ty_fd58_0 ty_fd58_1 ty_sz59 ty_ag59 ty_cl59 ty_el59 ty_sz61 ty_ag61 ty_fd61_0 ty_fd61_1 ty_fd61_2 ty_sz79 ty_ag79 ty_fd79_0 ty_fd79_1 ty_fd79_2 ty_fd79_3 ty_sz98 ty_ag98 ty_cl98 ty_sz100 ty_ag100 ty_zr100 ty_bl100 ty_fd100_0 ty_fd100_1 ty_sz102 ty_ag102 ty_zr102 ty_bl102 ty_fd102_0 ty_fd102_1 ty_fd102_2 ty_fd102_3 ty_fd102_4 ty_fd102_5 ty_sz155 ty_ag155 ty_zr155 ty_bl155 ty_fd155_0 ty_fd155_1 ty_fd155_2 ty_fd155_3 ty_fd155_4 ty_fd155_5 ty_fd155_6 ty_fd155_7 ty_sz169 ty_ag169 ty_zr169 ty_fd169_0 ty_fd169_1 ty_sz171 ty_ag171 ty_zr171 ty_cl171 ty_el171 ty_sz174 ty_ag174 ty_cl174 ty_el174 ty_sz176 ty_ag176 ty_zr176 ty_bl176 ty_fd176_0 ty_fd176_1 ty_sz185 ty_ag185 ty_fd185_0 ty_fd185_1 ty_sz187 ty_ag187 ty_fd187_0 ty_fd187_1 ty_fd187_2 ty_fd187_3 ty_fd187_4 ty_fd187_5 ty_sz196 ty_ag196 ty_fd196_0 ty_fd196_1 ty_fd196_2 ty_fd196_3 ty_fd196_4 ty_fd196_5 ty_fd196_6 ty_fd196_7 ty_sz198 ty_ag198 ty_fd198_0 ty_fd198_1 ty_cl222 ty_el222 ty_sz233 ty_ag233 ty_cl233 ty_el233 ty_sz250 ty_ag250 ty_zr250 ty_cl250 ty_el250 ty_sz254 ty_ag254 ty_cl254 ty_el254 ty_sz256 ty_ag256 ty_fd256_0 ty_fd256_1 ty_sz267 ty_ag267 ty_zr267 ty_bl267 ty_fd267_0 ty_fd267_1 ty_sz282 ty_ag282 ty_cl282 ty_el282 ty_sz287 ty_ag287 ty_fd287_0 ty_fd287_1
end Go.Ai
end
