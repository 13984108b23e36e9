/- Facts on the types of this translation. -/
import Derived.Test.YtdakdjpndomdpaaA2
import Derived.Test.YtdakdjpndomdpaaProg
namespace Go.Ai
open Go.Proofs
theorem ty_sz1 : sz? Try.prog 1 = some 1 := by kernel_rfl
theorem ty_ag1 : agg? Try.prog 1 = some false := by kernel_rfl
theorem ty_cl1 : cls? Try.prog 1 = some .fn := by kernel_rfl
theorem ty_sz2 : sz? Try.prog 2 = some 1 := by kernel_rfl
theorem ty_ag2 : agg? Try.prog 2 = some false := by kernel_rfl
theorem ty_zr2 : zr? Try.prog 2 = some [.int .i64 0] := by kernel_rfl
theorem ty_cl2 : cls? Try.prog 2 = some (.int .i64) := by kernel_rfl
theorem ty_sz3 : sz? Try.prog 3 = some 1 := by kernel_rfl
theorem ty_ag3 : agg? Try.prog 3 = some false := by kernel_rfl
theorem ty_zr3 : zr? Try.prog 3 = some [.int .i64 0] := by kernel_rfl
theorem ty_cl3 : cls? Try.prog 3 = some (.int .i64) := by kernel_rfl
theorem ty_sz4 : sz? Try.prog 4 = some 1 := by kernel_rfl
theorem ty_ag4 : agg? Try.prog 4 = some false := by kernel_rfl
theorem ty_zr4 : zr? Try.prog 4 = some [.bool false] := by kernel_rfl
theorem ty_cl4 : cls? Try.prog 4 = some .bool := by kernel_rfl
theorem ty_sz5 : sz? Try.prog 5 = some 1 := by kernel_rfl
theorem ty_ag5 : agg? Try.prog 5 = some false := by kernel_rfl
theorem ty_zr5 : zr? Try.prog 5 = some [.int .u8 0] := by kernel_rfl
theorem ty_cl5 : cls? Try.prog 5 = some (.int .u8) := by kernel_rfl
theorem ty_sz6 : sz? Try.prog 6 = some 1 := by kernel_rfl
theorem ty_ag6 : agg? Try.prog 6 = some false := by kernel_rfl
theorem ty_zr6 : zr? Try.prog 6 = some [.int .u8 0] := by kernel_rfl
theorem ty_cl6 : cls? Try.prog 6 = some (.int .u8) := by kernel_rfl
theorem ty_sz7 : sz? Try.prog 7 = some 4 := by kernel_rfl
theorem ty_ag7 : agg? Try.prog 7 = some true := by kernel_rfl
theorem ty_zr7 : zr? Try.prog 7 = some [.int .i64 0, .int .i64 0, .bool false, .int .u8 0] := by kernel_rfl
theorem ty_bl7 : bldOk Try.prog 7 = true := by kernel_rfl
theorem ty_fd7_0 : fld? Try.prog 7 0 = some (0, 1, false) := by kernel_rfl
theorem ty_fd7_1 : fld? Try.prog 7 1 = some (1, 1, false) := by kernel_rfl
theorem ty_fd7_2 : fld? Try.prog 7 2 = some (2, 1, false) := by kernel_rfl
theorem ty_fd7_3 : fld? Try.prog 7 3 = some (3, 1, false) := by kernel_rfl
theorem ty_sz8 : sz? Try.prog 8 = some 4 := by kernel_rfl
theorem ty_ag8 : agg? Try.prog 8 = some true := by kernel_rfl
theorem ty_zr8 : zr? Try.prog 8 = some [.int .i64 0, .int .i64 0, .bool false, .int .u8 0] := by kernel_rfl
theorem ty_bl8 : bldOk Try.prog 8 = true := by kernel_rfl
theorem ty_fd8_0 : fld? Try.prog 8 0 = some (0, 1, false) := by kernel_rfl
theorem ty_fd8_1 : fld? Try.prog 8 1 = some (1, 1, false) := by kernel_rfl
theorem ty_fd8_2 : fld? Try.prog 8 2 = some (2, 1, false) := by kernel_rfl
theorem ty_fd8_3 : fld? Try.prog 8 3 = some (3, 1, false) := by kernel_rfl
theorem ty_sz9 : sz? Try.prog 9 = some 1 := by kernel_rfl
theorem ty_ag9 : agg? Try.prog 9 = some false := by kernel_rfl
theorem ty_zr9 : zr? Try.prog 9 = some [.string ⟨#[]⟩] := by kernel_rfl
theorem ty_cl9 : cls? Try.prog 9 = some .str := by kernel_rfl
theorem ty_sz10 : sz? Try.prog 10 = some 1 := by kernel_rfl
theorem ty_ag10 : agg? Try.prog 10 = some false := by kernel_rfl
theorem ty_zr10 : zr? Try.prog 10 = some [.string ⟨#[]⟩] := by kernel_rfl
theorem ty_cl10 : cls? Try.prog 10 = some .str := by kernel_rfl
theorem ty_sz11 : sz? Try.prog 11 = some 1 := by kernel_rfl
theorem ty_ag11 : agg? Try.prog 11 = some false := by kernel_rfl
theorem ty_zr11 : zr? Try.prog 11 = some [.string ⟨#[]⟩] := by kernel_rfl
theorem ty_cl11 : cls? Try.prog 11 = some .str := by kernel_rfl
theorem ty_sz12 : sz? Try.prog 12 = some 1 := by kernel_rfl
theorem ty_ag12 : agg? Try.prog 12 = some false := by kernel_rfl
theorem ty_zr12 : zr? Try.prog 12 = some [.int .u64 0] := by kernel_rfl
theorem ty_cl12 : cls? Try.prog 12 = some (.int .u64) := by kernel_rfl
theorem ty_sz13 : sz? Try.prog 13 = some 2 := by kernel_rfl
theorem ty_ag13 : agg? Try.prog 13 = some true := by kernel_rfl
theorem ty_zr13 : zr? Try.prog 13 = some [.string ⟨#[]⟩, .int .u64 0] := by kernel_rfl
theorem ty_bl13 : bldOk Try.prog 13 = true := by kernel_rfl
theorem ty_fd13_0 : fld? Try.prog 13 0 = some (0, 1, false) := by kernel_rfl
theorem ty_fd13_1 : fld? Try.prog 13 1 = some (1, 1, false) := by kernel_rfl
theorem ty_sz14 : sz? Try.prog 14 = some 2 := by kernel_rfl
theorem ty_ag14 : agg? Try.prog 14 = some true := by kernel_rfl
theorem ty_zr14 : zr? Try.prog 14 = some [.string ⟨#[]⟩, .int .u64 0] := by kernel_rfl
theorem ty_bl14 : bldOk Try.prog 14 = true := by kernel_rfl
theorem ty_fd14_0 : fld? Try.prog 14 0 = some (0, 1, false) := by kernel_rfl
theorem ty_fd14_1 : fld? Try.prog 14 1 = some (1, 1, false) := by kernel_rfl
theorem ty_sz15 : sz? Try.prog 15 = some 1 := by kernel_rfl
theorem ty_ag15 : agg? Try.prog 15 = some false := by kernel_rfl
theorem ty_zr15 : zr? Try.prog 15 = some [.pointer none] := by kernel_rfl
theorem ty_cl15 : cls? Try.prog 15 = some .ptr := by kernel_rfl
theorem ty_sz16 : sz? Try.prog 16 = some 1 := by kernel_rfl
theorem ty_ag16 : agg? Try.prog 16 = some false := by kernel_rfl
theorem ty_zr16 : zr? Try.prog 16 = some [.pointer none] := by kernel_rfl
theorem ty_cl16 : cls? Try.prog 16 = some .ptr := by kernel_rfl
theorem ty_sz17 : sz? Try.prog 17 = some 1 := by kernel_rfl
theorem ty_ag17 : agg? Try.prog 17 = some false := by kernel_rfl
theorem ty_zr17 : zr? Try.prog 17 = some [.pointer none] := by kernel_rfl
theorem ty_cl17 : cls? Try.prog 17 = some .ptr := by kernel_rfl
theorem ty_sz18 : sz? Try.prog 18 = some 1 := by kernel_rfl
theorem ty_ag18 : agg? Try.prog 18 = some true := by kernel_rfl
theorem ty_zr18 : zr? Try.prog 18 = some [.pointer none] := by kernel_rfl
theorem ty_bl18 : bldOk Try.prog 18 = true := by kernel_rfl
theorem ty_fd18_0 : fld? Try.prog 18 0 = some (0, 1, false) := by kernel_rfl
theorem ty_sz19 : sz? Try.prog 19 = some 1 := by kernel_rfl
theorem ty_ag19 : agg? Try.prog 19 = some true := by kernel_rfl
theorem ty_zr19 : zr? Try.prog 19 = some [.pointer none] := by kernel_rfl
theorem ty_bl19 : bldOk Try.prog 19 = true := by kernel_rfl
theorem ty_fd19_0 : fld? Try.prog 19 0 = some (0, 1, false) := by kernel_rfl
theorem ty_sz21 : sz? Try.prog 21 = some 1 := by kernel_rfl
theorem ty_ag21 : agg? Try.prog 21 = some false := by kernel_rfl
theorem ty_zr21 : zr? Try.prog 21 = some [.int .i32 0] := by kernel_rfl
theorem ty_cl21 : cls? Try.prog 21 = some (.int .i32) := by kernel_rfl
theorem ty_sz22 : sz? Try.prog 22 = some 1 := by kernel_rfl
theorem ty_ag22 : agg? Try.prog 22 = some false := by kernel_rfl
theorem ty_zr22 : zr? Try.prog 22 = some [.int .u64 0] := by kernel_rfl
theorem ty_cl22 : cls? Try.prog 22 = some (.int .u64) := by kernel_rfl
theorem ty_sz23 : sz? Try.prog 23 = some 1 := by kernel_rfl
theorem ty_ag23 : agg? Try.prog 23 = some false := by kernel_rfl
theorem ty_cl23 : cls? Try.prog 23 = some .fn := by kernel_rfl
theorem ty_sz24 : sz? Try.prog 24 = some 1 := by kernel_rfl
theorem ty_ag24 : agg? Try.prog 24 = some false := by kernel_rfl
theorem ty_cl24 : cls? Try.prog 24 = some .fn := by kernel_rfl
theorem ty_sz26 : sz? Try.prog 26 = some 1 := by kernel_rfl
theorem ty_ag26 : agg? Try.prog 26 = some false := by kernel_rfl
theorem ty_cl26 : cls? Try.prog 26 = some .fn := by kernel_rfl
theorem ty_sz27 : sz? Try.prog 27 = some 1 := by kernel_rfl
theorem ty_ag27 : agg? Try.prog 27 = some false := by kernel_rfl
theorem ty_cl27 : cls? Try.prog 27 = some .fn := by kernel_rfl
theorem ty_sz28 : sz? Try.prog 28 = some 1 := by kernel_rfl
theorem ty_ag28 : agg? Try.prog 28 = some false := by kernel_rfl
theorem ty_zr28 : zr? Try.prog 28 = some [.slice none 0 0] := by kernel_rfl
theorem ty_cl28 : cls? Try.prog 28 = some .sl := by kernel_rfl
theorem ty_el28 : elt? Try.prog 28 = some (5, 1, 1) := by kernel_rfl
theorem ty_sz29 : sz? Try.prog 29 = some 1 := by kernel_rfl
theorem ty_ag29 : agg? Try.prog 29 = some false := by kernel_rfl
theorem ty_cl29 : cls? Try.prog 29 = some .fn := by kernel_rfl
theorem ty_sz30 : sz? Try.prog 30 = some 1 := by kernel_rfl
theorem ty_ag30 : agg? Try.prog 30 = some false := by kernel_rfl
theorem ty_cl30 : cls? Try.prog 30 = some .fn := by kernel_rfl
theorem ty_sz31 : sz? Try.prog 31 = some 1 := by kernel_rfl
theorem ty_ag31 : agg? Try.prog 31 = some false := by kernel_rfl
theorem ty_zr31 : zr? Try.prog 31 = some [.slice none 0 0] := by kernel_rfl
theorem ty_cl31 : cls? Try.prog 31 = some .sl := by kernel_rfl
theorem ty_el31 : elt? Try.prog 31 = some (9, 1, 16) := by kernel_rfl
theorem ty_sz32 : sz? Try.prog 32 = some 4 := by kernel_rfl
theorem ty_ag32 : agg? Try.prog 32 = some true := by kernel_rfl
theorem ty_zr32 : zr? Try.prog 32 = some [.int .i64 0, .int .i64 0, .int .i64 0, .slice none 0 0] := by kernel_rfl
theorem ty_bl32 : bldOk Try.prog 32 = true := by kernel_rfl
theorem ty_fd32_0 : fld? Try.prog 32 0 = some (0, 1, false) := by kernel_rfl
theorem ty_fd32_1 : fld? Try.prog 32 1 = some (1, 1, false) := by kernel_rfl
theorem ty_fd32_2 : fld? Try.prog 32 2 = some (2, 1, false) := by kernel_rfl
theorem ty_fd32_3 : fld? Try.prog 32 3 = some (3, 1, false) := by kernel_rfl
theorem ty_sz33 : sz? Try.prog 33 = some 4 := by kernel_rfl
theorem ty_ag33 : agg? Try.prog 33 = some true := by kernel_rfl
theorem ty_zr33 : zr? Try.prog 33 = some [.int .i64 0, .int .i64 0, .int .i64 0, .slice none 0 0] := by kernel_rfl
theorem ty_bl33 : bldOk Try.prog 33 = true := by kernel_rfl
theorem ty_fd33_0 : fld? Try.prog 33 0 = some (0, 1, false) := by kernel_rfl
theorem ty_fd33_1 : fld? Try.prog 33 1 = some (1, 1, false) := by kernel_rfl
theorem ty_fd33_2 : fld? Try.prog 33 2 = some (2, 1, false) := by kernel_rfl
theorem ty_fd33_3 : fld? Try.prog 33 3 = some (3, 1, false) := by kernel_rfl
theorem ty_sz34 : sz? Try.prog 34 = some 1 := by kernel_rfl
theorem ty_ag34 : agg? Try.prog 34 = some false := by kernel_rfl
theorem ty_cl34 : cls? Try.prog 34 = some .fn := by kernel_rfl
theorem ty_sz35 : sz? Try.prog 35 = some 1 := by kernel_rfl
theorem ty_ag35 : agg? Try.prog 35 = some false := by kernel_rfl
theorem ty_cl35 : cls? Try.prog 35 = some .fn := by kernel_rfl
theorem ty_sz36 : sz? Try.prog 36 = some 4 := by kernel_rfl
theorem ty_ag36 : agg? Try.prog 36 = some true := by kernel_rfl
theorem ty_zr36 : zr? Try.prog 36 = some [.int .i64 0, .int .i64 0, .int .i64 0, .slice none 0 0] := by kernel_rfl
theorem ty_bl36 : bldOk Try.prog 36 = true := by kernel_rfl
theorem ty_fd36_0 : fld? Try.prog 36 0 = some (0, 1, false) := by kernel_rfl
theorem ty_fd36_1 : fld? Try.prog 36 1 = some (1, 1, false) := by kernel_rfl
theorem ty_fd36_2 : fld? Try.prog 36 2 = some (2, 1, false) := by kernel_rfl
theorem ty_fd36_3 : fld? Try.prog 36 3 = some (3, 1, false) := by kernel_rfl
theorem ty_sz37 : sz? Try.prog 37 = some 1 := by kernel_rfl
theorem ty_ag37 : agg? Try.prog 37 = some false := by kernel_rfl
theorem ty_cl37 : cls? Try.prog 37 = some .fn := by kernel_rfl
theorem ty_sz38 : sz? Try.prog 38 = some 1 := by kernel_rfl
theorem ty_ag38 : agg? Try.prog 38 = some false := by kernel_rfl
theorem ty_cl38 : cls? Try.prog 38 = some .fn := by kernel_rfl
theorem ty_sz39 : sz? Try.prog 39 = some 1 := by kernel_rfl
theorem ty_ag39 : agg? Try.prog 39 = some false := by kernel_rfl
theorem ty_cl39 : cls? Try.prog 39 = some .fn := by kernel_rfl
theorem ty_sz40 : sz? Try.prog 40 = some 1 := by kernel_rfl
theorem ty_ag40 : agg? Try.prog 40 = some false := by kernel_rfl
theorem ty_zr40 : zr? Try.prog 40 = some [.slice none 0 0] := by kernel_rfl
theorem ty_cl40 : cls? Try.prog 40 = some .sl := by kernel_rfl
theorem ty_el40 : elt? Try.prog 40 = some (3, 1, 8) := by kernel_rfl
theorem ty_sz41 : sz? Try.prog 41 = some 1 := by kernel_rfl
theorem ty_ag41 : agg? Try.prog 41 = some false := by kernel_rfl
theorem ty_cl41 : cls? Try.prog 41 = some .fn := by kernel_rfl
theorem ty_sz42 : sz? Try.prog 42 = some 1 := by kernel_rfl
theorem ty_ag42 : agg? Try.prog 42 = some false := by kernel_rfl
theorem ty_cl42 : cls? Try.prog 42 = some .fn := by kernel_rfl
theorem ty_sz43 : sz? Try.prog 43 = some 1 := by kernel_rfl
theorem ty_ag43 : agg? Try.prog 43 = some false := by kernel_rfl
theorem ty_cl43 : cls? Try.prog 43 = some .fn := by kernel_rfl
theorem ty_sz44 : sz? Try.prog 44 = some 1 := by kernel_rfl
theorem ty_ag44 : agg? Try.prog 44 = some false := by kernel_rfl
theorem ty_cl44 : cls? Try.prog 44 = some .fn := by kernel_rfl
theorem ty_sz45 : sz? Try.prog 45 = some 1 := by kernel_rfl
theorem ty_ag45 : agg? Try.prog 45 = some false := by kernel_rfl
theorem ty_cl45 : cls? Try.prog 45 = some .fn := by kernel_rfl
theorem ty_sz46 : sz? Try.prog 46 = some 1 := by kernel_rfl
theorem ty_ag46 : agg? Try.prog 46 = some false := by kernel_rfl
theorem ty_cl46 : cls? Try.prog 46 = some .fn := by kernel_rfl
theorem ty_sz47 : sz? Try.prog 47 = some 2 := by kernel_rfl
theorem ty_ag47 : agg? Try.prog 47 = some true := by kernel_rfl
theorem ty_zr47 : zr? Try.prog 47 = some [.slice none 0 0, .int .i64 0] := by kernel_rfl
theorem ty_bl47 : bldOk Try.prog 47 = true := by kernel_rfl
theorem ty_fd47_0 : fld? Try.prog 47 0 = some (0, 1, false) := by kernel_rfl
theorem ty_fd47_1 : fld? Try.prog 47 1 = some (1, 1, false) := by kernel_rfl
theorem ty_sz48 : sz? Try.prog 48 = some 2 := by kernel_rfl
theorem ty_ag48 : agg? Try.prog 48 = some true := by kernel_rfl
theorem ty_zr48 : zr? Try.prog 48 = some [.slice none 0 0, .int .i64 0] := by kernel_rfl
theorem ty_bl48 : bldOk Try.prog 48 = true := by kernel_rfl
theorem ty_fd48_0 : fld? Try.prog 48 0 = some (0, 1, false) := by kernel_rfl
theorem ty_fd48_1 : fld? Try.prog 48 1 = some (1, 1, false) := by kernel_rfl
theorem ty_sz49 : sz? Try.prog 49 = some 10 := by kernel_rfl
theorem ty_ag49 : agg? Try.prog 49 = some true := by kernel_rfl
theorem ty_zr49 : zr? Try.prog 49 = some [.int .i64 0, .slice none 0 0, .int .i64 0, .int .i64 0, .int .i64 0, .slice none 0 0, .int .u64 0, .slice none 0 0, .int .i64 0, .int .i64 0] := by kernel_rfl
theorem ty_bl49 : bldOk Try.prog 49 = true := by kernel_rfl
theorem ty_fd49_0 : fld? Try.prog 49 0 = some (0, 1, false) := by kernel_rfl
theorem ty_fd49_1 : fld? Try.prog 49 1 = some (1, 1, false) := by kernel_rfl
theorem ty_fd49_2 : fld? Try.prog 49 2 = some (2, 4, true) := by kernel_rfl
theorem ty_fd49_3 : fld? Try.prog 49 3 = some (6, 1, false) := by kernel_rfl
theorem ty_fd49_4 : fld? Try.prog 49 4 = some (7, 2, true) := by kernel_rfl
theorem ty_fd49_5 : fld? Try.prog 49 5 = some (9, 1, false) := by kernel_rfl
theorem ty_sz50 : sz? Try.prog 50 = some 10 := by kernel_rfl
theorem ty_ag50 : agg? Try.prog 50 = some true := by kernel_rfl
theorem ty_zr50 : zr? Try.prog 50 = some [.int .i64 0, .slice none 0 0, .int .i64 0, .int .i64 0, .int .i64 0, .slice none 0 0, .int .u64 0, .slice none 0 0, .int .i64 0, .int .i64 0] := by kernel_rfl
theorem ty_bl50 : bldOk Try.prog 50 = true := by kernel_rfl
theorem ty_fd50_0 : fld? Try.prog 50 0 = some (0, 1, false) := by kernel_rfl
theorem ty_fd50_1 : fld? Try.prog 50 1 = some (1, 1, false) := by kernel_rfl
theorem ty_fd50_2 : fld? Try.prog 50 2 = some (2, 4, true) := by kernel_rfl
theorem ty_fd50_3 : fld? Try.prog 50 3 = some (6, 1, false) := by kernel_rfl
theorem ty_fd50_4 : fld? Try.prog 50 4 = some (7, 2, true) := by kernel_rfl
theorem ty_fd50_5 : fld? Try.prog 50 5 = some (9, 1, false) := by kernel_rfl
theorem ty_sz51 : sz? Try.prog 51 = some 1 := by kernel_rfl
theorem ty_ag51 : agg? Try.prog 51 = some false := by kernel_rfl
theorem ty_cl51 : cls? Try.prog 51 = some .fn := by kernel_rfl
theorem ty_sz52 : sz? Try.prog 52 = some 1 := by kernel_rfl
theorem ty_ag52 : agg? Try.prog 52 = some false := by kernel_rfl
theorem ty_cl52 : cls? Try.prog 52 = some .fn := by kernel_rfl
theorem ty_sz53 : sz? Try.prog 53 = some 2 := by kernel_rfl
theorem ty_ag53 : agg? Try.prog 53 = some true := by kernel_rfl
theorem ty_zr53 : zr? Try.prog 53 = some [.slice none 0 0, .int .i64 0] := by kernel_rfl
theorem ty_bl53 : bldOk Try.prog 53 = true := by kernel_rfl
theorem ty_fd53_0 : fld? Try.prog 53 0 = some (0, 1, false) := by kernel_rfl
theorem ty_fd53_1 : fld? Try.prog 53 1 = some (1, 1, false) := by kernel_rfl
theorem ty_sz54 : sz? Try.prog 54 = some 10 := by kernel_rfl
theorem ty_ag54 : agg? Try.prog 54 = some true := by kernel_rfl
theorem ty_zr54 : zr? Try.prog 54 = some [.int .i64 0, .slice none 0 0, .int .i64 0, .int .i64 0, .int .i64 0, .slice none 0 0, .int .u64 0, .slice none 0 0, .int .i64 0, .int .i64 0] := by kernel_rfl
theorem ty_bl54 : bldOk Try.prog 54 = true := by kernel_rfl
theorem ty_fd54_0 : fld? Try.prog 54 0 = some (0, 1, false) := by kernel_rfl
theorem ty_fd54_1 : fld? Try.prog 54 1 = some (1, 1, false) := by kernel_rfl
theorem ty_fd54_2 : fld? Try.prog 54 2 = some (2, 4, true) := by kernel_rfl
theorem ty_fd54_3 : fld? Try.prog 54 3 = some (6, 1, false) := by kernel_rfl
theorem ty_fd54_4 : fld? Try.prog 54 4 = some (7, 2, true) := by kernel_rfl
theorem ty_fd54_5 : fld? Try.prog 54 5 = some (9, 1, false) := by kernel_rfl
theorem ty_sz55 : sz? Try.prog 55 = some 10 := by kernel_rfl
theorem ty_ag55 : agg? Try.prog 55 = some true := by kernel_rfl
theorem ty_zr55 : zr? Try.prog 55 = some [.int .i64 0, .slice none 0 0, .int .i64 0, .int .i64 0, .int .i64 0, .slice none 0 0, .int .u64 0, .slice none 0 0, .int .i64 0, .int .i64 0] := by kernel_rfl
theorem ty_bl55 : bldOk Try.prog 55 = true := by kernel_rfl
theorem ty_fd55_0 : fld? Try.prog 55 0 = some (0, 1, false) := by kernel_rfl
theorem ty_fd55_1 : fld? Try.prog 55 1 = some (1, 1, false) := by kernel_rfl
theorem ty_fd55_2 : fld? Try.prog 55 2 = some (2, 4, true) := by kernel_rfl
theorem ty_fd55_3 : fld? Try.prog 55 3 = some (6, 1, false) := by kernel_rfl
theorem ty_fd55_4 : fld? Try.prog 55 4 = some (7, 2, true) := by kernel_rfl
theorem ty_fd55_5 : fld? Try.prog 55 5 = some (9, 1, false) := by kernel_rfl
theorem ty_sz56 : sz? Try.prog 56 = some 1 := by kernel_rfl
theorem ty_ag56 : agg? Try.prog 56 = some false := by kernel_rfl
theorem ty_cl56 : cls? Try.prog 56 = some .fn := by kernel_rfl
theorem ty_sz57 : sz? Try.prog 57 = some 1 := by kernel_rfl
theorem ty_ag57 : agg? Try.prog 57 = some false := by kernel_rfl
theorem ty_cl57 : cls? Try.prog 57 = some .fn := by kernel_rfl
theorem ty_sz58 : sz? Try.prog 58 = some 1 := by kernel_rfl
theorem ty_ag58 : agg? Try.prog 58 = some false := by kernel_rfl
theorem ty_cl58 : cls? Try.prog 58 = some .fn := by kernel_rfl
theorem ty_sz59 : sz? Try.prog 59 = some 1 := by kernel_rfl
theorem ty_ag59 : agg? Try.prog 59 = some false := by kernel_rfl
theorem ty_cl59 : cls? Try.prog 59 = some .fn := by kernel_rfl
theorem ty_sz60 : sz? Try.prog 60 = some 8 := by kernel_rfl
theorem ty_ag60 : agg? Try.prog 60 = some true := by kernel_rfl
theorem ty_zr60 : zr? Try.prog 60 = some [.int .i64 0, .string ⟨#[]⟩, .int .i64 0, .int .i64 0, .int .i64 0, .int .i64 0, .slice none 0 0, .slice none 0 0] := by kernel_rfl
theorem ty_bl60 : bldOk Try.prog 60 = true := by kernel_rfl
theorem ty_fd60_0 : fld? Try.prog 60 0 = some (0, 1, false) := by kernel_rfl
theorem ty_fd60_1 : fld? Try.prog 60 1 = some (1, 1, false) := by kernel_rfl
theorem ty_fd60_2 : fld? Try.prog 60 2 = some (2, 1, false) := by kernel_rfl
theorem ty_fd60_3 : fld? Try.prog 60 3 = some (3, 4, true) := by kernel_rfl
theorem ty_fd60_4 : fld? Try.prog 60 4 = some (7, 1, false) := by kernel_rfl
theorem ty_sz61 : sz? Try.prog 61 = some 8 := by kernel_rfl
theorem ty_ag61 : agg? Try.prog 61 = some true := by kernel_rfl
theorem ty_zr61 : zr? Try.prog 61 = some [.int .i64 0, .string ⟨#[]⟩, .int .i64 0, .int .i64 0, .int .i64 0, .int .i64 0, .slice none 0 0, .slice none 0 0] := by kernel_rfl
theorem ty_bl61 : bldOk Try.prog 61 = true := by kernel_rfl
theorem ty_fd61_0 : fld? Try.prog 61 0 = some (0, 1, false) := by kernel_rfl
theorem ty_fd61_1 : fld? Try.prog 61 1 = some (1, 1, false) := by kernel_rfl
theorem ty_fd61_2 : fld? Try.prog 61 2 = some (2, 1, false) := by kernel_rfl
theorem ty_fd61_3 : fld? Try.prog 61 3 = some (3, 4, true) := by kernel_rfl
theorem ty_fd61_4 : fld? Try.prog 61 4 = some (7, 1, false) := by kernel_rfl
theorem ty_sz62 : sz? Try.prog 62 = some 1 := by kernel_rfl
theorem ty_ag62 : agg? Try.prog 62 = some false := by kernel_rfl
theorem ty_cl62 : cls? Try.prog 62 = some .fn := by kernel_rfl
theorem ty_sz64 : sz? Try.prog 64 = some 1 := by kernel_rfl
theorem ty_ag64 : agg? Try.prog 64 = some false := by kernel_rfl
theorem ty_cl64 : cls? Try.prog 64 = some .fn := by kernel_rfl
theorem ty_sz65 : sz? Try.prog 65 = some 8 := by kernel_rfl
theorem ty_ag65 : agg? Try.prog 65 = some true := by kernel_rfl
theorem ty_zr65 : zr? Try.prog 65 = some [.int .i64 0, .string ⟨#[]⟩, .int .i64 0, .int .i64 0, .int .i64 0, .int .i64 0, .slice none 0 0, .slice none 0 0] := by kernel_rfl
theorem ty_bl65 : bldOk Try.prog 65 = true := by kernel_rfl
theorem ty_fd65_0 : fld? Try.prog 65 0 = some (0, 1, false) := by kernel_rfl
theorem ty_fd65_1 : fld? Try.prog 65 1 = some (1, 1, false) := by kernel_rfl
theorem ty_fd65_2 : fld? Try.prog 65 2 = some (2, 1, false) := by kernel_rfl
theorem ty_fd65_3 : fld? Try.prog 65 3 = some (3, 4, true) := by kernel_rfl
theorem ty_fd65_4 : fld? Try.prog 65 4 = some (7, 1, false) := by kernel_rfl
theorem ty_sz66 : sz? Try.prog 66 = some 8 := by kernel_rfl
theorem ty_ag66 : agg? Try.prog 66 = some true := by kernel_rfl
theorem ty_zr66 : zr? Try.prog 66 = some [.int .i64 0, .string ⟨#[]⟩, .int .i64 0, .int .i64 0, .int .i64 0, .int .i64 0, .slice none 0 0, .slice none 0 0] := by kernel_rfl
theorem ty_bl66 : bldOk Try.prog 66 = true := by kernel_rfl
theorem ty_fd66_0 : fld? Try.prog 66 0 = some (0, 1, false) := by kernel_rfl
theorem ty_fd66_1 : fld? Try.prog 66 1 = some (1, 1, false) := by kernel_rfl
theorem ty_fd66_2 : fld? Try.prog 66 2 = some (2, 1, false) := by kernel_rfl
theorem ty_fd66_3 : fld? Try.prog 66 3 = some (3, 4, true) := by kernel_rfl
theorem ty_fd66_4 : fld? Try.prog 66 4 = some (7, 1, false) := by kernel_rfl
theorem ty_sz67 : sz? Try.prog 67 = some 1 := by kernel_rfl
theorem ty_ag67 : agg? Try.prog 67 = some false := by kernel_rfl
theorem ty_cl67 : cls? Try.prog 67 = some .fn := by kernel_rfl
theorem ty_sz68 : sz? Try.prog 68 = some 1 := by kernel_rfl
theorem ty_ag68 : agg? Try.prog 68 = some false := by kernel_rfl
theorem ty_cl68 : cls? Try.prog 68 = some .fn := by kernel_rfl
theorem ty_sz69 : sz? Try.prog 69 = some 1 := by kernel_rfl
theorem ty_ag69 : agg? Try.prog 69 = some false := by kernel_rfl
theorem ty_cl69 : cls? Try.prog 69 = some .fn := by kernel_rfl
theorem ty_sz71 : sz? Try.prog 71 = some 1 := by kernel_rfl
theorem ty_ag71 : agg? Try.prog 71 = some false := by kernel_rfl
theorem ty_cl71 : cls? Try.prog 71 = some .fn := by kernel_rfl
theorem ty_sz73 : sz? Try.prog 73 = some 1 := by kernel_rfl
theorem ty_ag73 : agg? Try.prog 73 = some false := by kernel_rfl
theorem ty_cl73 : cls? Try.prog 73 = some .fn := by kernel_rfl
theorem ty_sz75 : sz? Try.prog 75 = some 1 := by kernel_rfl
theorem ty_ag75 : agg? Try.prog 75 = some false := by kernel_rfl
theorem ty_cl75 : cls? Try.prog 75 = some .fn := by kernel_rfl
theorem ty_sz76 : sz? Try.prog 76 = some 1 := by kernel_rfl
theorem ty_ag76 : agg? Try.prog 76 = some false := by kernel_rfl
theorem ty_cl76 : cls? Try.prog 76 = some .fn := by kernel_rfl
theorem ty_sz77 : sz? Try.prog 77 = some 1 := by kernel_rfl
theorem ty_ag77 : agg? Try.prog 77 = some false := by kernel_rfl
theorem ty_cl77 : cls? Try.prog 77 = some .fn := by kernel_rfl
theorem ty_sz78 : sz? Try.prog 78 = some 1 := by kernel_rfl
theorem ty_ag78 : agg? Try.prog 78 = some false := by kernel_rfl
theorem ty_cl78 : cls? Try.prog 78 = some .fn := by kernel_rfl
theorem ty_sz79 : sz? Try.prog 79 = some 1 := by kernel_rfl
theorem ty_ag79 : agg? Try.prog 79 = some false := by kernel_rfl
theorem ty_zr79 : zr? Try.prog 79 = some [.slice none 0 0] := by kernel_rfl
theorem ty_cl79 : cls? Try.prog 79 = some .sl := by kernel_rfl
theorem ty_el79 : elt? Try.prog 79 = some (158, 2, 16) := by kernel_rfl
theorem ty_sz80 : sz? Try.prog 80 = some 1 := by kernel_rfl
theorem ty_ag80 : agg? Try.prog 80 = some false := by kernel_rfl
theorem ty_zr80 : zr? Try.prog 80 = some [.slice none 0 0] := by kernel_rfl
theorem ty_cl80 : cls? Try.prog 80 = some .sl := by kernel_rfl
theorem ty_el80 : elt? Try.prog 80 = some (40, 1, 24) := by kernel_rfl
theorem ty_sz81 : sz? Try.prog 81 = some 1 := by kernel_rfl
theorem ty_ag81 : agg? Try.prog 81 = some false := by kernel_rfl
theorem ty_zr81 : zr? Try.prog 81 = some [.slice none 0 0] := by kernel_rfl
theorem ty_cl81 : cls? Try.prog 81 = some .sl := by kernel_rfl
theorem ty_el81 : elt? Try.prog 81 = some (147, 32, 480) := by kernel_rfl
theorem ty_sz82 : sz? Try.prog 82 = some 5 := by kernel_rfl
theorem ty_ag82 : agg? Try.prog 82 = some true := by kernel_rfl
theorem ty_zr82 : zr? Try.prog 82 = some [.int .i64 0, .slice none 0 0, .slice none 0 0, .int .i64 0, .int .i64 0] := by kernel_rfl
theorem ty_bl82 : bldOk Try.prog 82 = true := by kernel_rfl
theorem ty_fd82_0 : fld? Try.prog 82 0 = some (0, 1, false) := by kernel_rfl
theorem ty_fd82_1 : fld? Try.prog 82 1 = some (1, 1, false) := by kernel_rfl
theorem ty_fd82_2 : fld? Try.prog 82 2 = some (2, 1, false) := by kernel_rfl
theorem ty_fd82_3 : fld? Try.prog 82 3 = some (3, 1, false) := by kernel_rfl
theorem ty_fd82_4 : fld? Try.prog 82 4 = some (4, 1, false) := by kernel_rfl
theorem ty_sz83 : sz? Try.prog 83 = some 5 := by kernel_rfl
theorem ty_ag83 : agg? Try.prog 83 = some true := by kernel_rfl
theorem ty_zr83 : zr? Try.prog 83 = some [.int .i64 0, .slice none 0 0, .slice none 0 0, .int .i64 0, .int .i64 0] := by kernel_rfl
theorem ty_bl83 : bldOk Try.prog 83 = true := by kernel_rfl
theorem ty_fd83_0 : fld? Try.prog 83 0 = some (0, 1, false) := by kernel_rfl
theorem ty_fd83_1 : fld? Try.prog 83 1 = some (1, 1, false) := by kernel_rfl
theorem ty_fd83_2 : fld? Try.prog 83 2 = some (2, 1, false) := by kernel_rfl
theorem ty_fd83_3 : fld? Try.prog 83 3 = some (3, 1, false) := by kernel_rfl
theorem ty_fd83_4 : fld? Try.prog 83 4 = some (4, 1, false) := by kernel_rfl
theorem ty_sz84 : sz? Try.prog 84 = some 2 := by kernel_rfl
theorem ty_ag84 : agg? Try.prog 84 = some true := by kernel_rfl
theorem ty_zr84 : zr? Try.prog 84 = some [.slice none 0 0, .slice none 0 0] := by kernel_rfl
theorem ty_bl84 : bldOk Try.prog 84 = true := by kernel_rfl
theorem ty_fd84_0 : fld? Try.prog 84 0 = some (0, 1, false) := by kernel_rfl
theorem ty_fd84_1 : fld? Try.prog 84 1 = some (1, 1, false) := by kernel_rfl
theorem ty_sz85 : sz? Try.prog 85 = some 2 := by kernel_rfl
theorem ty_ag85 : agg? Try.prog 85 = some true := by kernel_rfl
theorem ty_zr85 : zr? Try.prog 85 = some [.slice none 0 0, .slice none 0 0] := by kernel_rfl
theorem ty_bl85 : bldOk Try.prog 85 = true := by kernel_rfl
theorem ty_fd85_0 : fld? Try.prog 85 0 = some (0, 1, false) := by kernel_rfl
theorem ty_fd85_1 : fld? Try.prog 85 1 = some (1, 1, false) := by kernel_rfl
theorem ty_sz86 : sz? Try.prog 86 = some 14 := by kernel_rfl
theorem ty_ag86 : agg? Try.prog 86 = some true := by kernel_rfl
theorem ty_zr86 : zr? Try.prog 86 = some [.int .i64 0, .int .i64 0, .int .i64 0, .slice none 0 0, .slice none 0 0, .slice none 0 0, .slice none 0 0, .int .i64 0, .slice none 0 0, .slice none 0 0, .int .i64 0, .int .i64 0, .slice none 0 0, .slice none 0 0] := by kernel_rfl
theorem ty_bl86 : bldOk Try.prog 86 = true := by kernel_rfl
theorem ty_fd86_0 : fld? Try.prog 86 0 = some (0, 1, false) := by kernel_rfl
theorem ty_fd86_1 : fld? Try.prog 86 1 = some (1, 1, false) := by kernel_rfl
theorem ty_fd86_2 : fld? Try.prog 86 2 = some (2, 1, false) := by kernel_rfl
theorem ty_fd86_3 : fld? Try.prog 86 3 = some (3, 1, false) := by kernel_rfl
theorem ty_fd86_4 : fld? Try.prog 86 4 = some (4, 1, false) := by kernel_rfl
theorem ty_fd86_5 : fld? Try.prog 86 5 = some (5, 1, false) := by kernel_rfl
theorem ty_fd86_6 : fld? Try.prog 86 6 = some (6, 1, false) := by kernel_rfl
theorem ty_fd86_7 : fld? Try.prog 86 7 = some (7, 5, true) := by kernel_rfl
theorem ty_fd86_8 : fld? Try.prog 86 8 = some (12, 2, true) := by kernel_rfl
theorem ty_sz87 : sz? Try.prog 87 = some 14 := by kernel_rfl
theorem ty_ag87 : agg? Try.prog 87 = some true := by kernel_rfl
theorem ty_zr87 : zr? Try.prog 87 = some [.int .i64 0, .int .i64 0, .int .i64 0, .slice none 0 0, .slice none 0 0, .slice none 0 0, .slice none 0 0, .int .i64 0, .slice none 0 0, .slice none 0 0, .int .i64 0, .int .i64 0, .slice none 0 0, .slice none 0 0] := by kernel_rfl
theorem ty_bl87 : bldOk Try.prog 87 = true := by kernel_rfl
theorem ty_fd87_0 : fld? Try.prog 87 0 = some (0, 1, false) := by kernel_rfl
theorem ty_fd87_1 : fld? Try.prog 87 1 = some (1, 1, false) := by kernel_rfl
theorem ty_fd87_2 : fld? Try.prog 87 2 = some (2, 1, false) := by kernel_rfl
theorem ty_fd87_3 : fld? Try.prog 87 3 = some (3, 1, false) := by kernel_rfl
theorem ty_fd87_4 : fld? Try.prog 87 4 = some (4, 1, false) := by kernel_rfl
theorem ty_fd87_5 : fld? Try.prog 87 5 = some (5, 1, false) := by kernel_rfl
theorem ty_fd87_6 : fld? Try.prog 87 6 = some (6, 1, false) := by kernel_rfl
theorem ty_fd87_7 : fld? Try.prog 87 7 = some (7, 5, true) := by kernel_rfl
theorem ty_fd87_8 : fld? Try.prog 87 8 = some (12, 2, true) := by kernel_rfl
theorem ty_sz89 : sz? Try.prog 89 = some 1 := by kernel_rfl
theorem ty_ag89 : agg? Try.prog 89 = some false := by kernel_rfl
theorem ty_cl89 : cls? Try.prog 89 = some .fn := by kernel_rfl
theorem ty_sz90 : sz? Try.prog 90 = some 1 := by kernel_rfl
theorem ty_ag90 : agg? Try.prog 90 = some false := by kernel_rfl
theorem ty_cl90 : cls? Try.prog 90 = some .fn := by kernel_rfl
theorem ty_sz91 : sz? Try.prog 91 = some 1 := by kernel_rfl
theorem ty_ag91 : agg? Try.prog 91 = some false := by kernel_rfl
theorem ty_cl91 : cls? Try.prog 91 = some .fn := by kernel_rfl
theorem ty_sz92 : sz? Try.prog 92 = some 1 := by kernel_rfl
theorem ty_ag92 : agg? Try.prog 92 = some false := by kernel_rfl
theorem ty_zr92 : zr? Try.prog 92 = some [.int .u64 0] := by kernel_rfl
theorem ty_cl92 : cls? Try.prog 92 = some (.int .u64) := by kernel_rfl
theorem ty_sz93 : sz? Try.prog 93 = some 1 := by kernel_rfl
theorem ty_ag93 : agg? Try.prog 93 = some false := by kernel_rfl
theorem ty_cl93 : cls? Try.prog 93 = some .fn := by kernel_rfl
theorem ty_sz94 : sz? Try.prog 94 = some 1 := by kernel_rfl
theorem ty_ag94 : agg? Try.prog 94 = some false := by kernel_rfl
theorem ty_zr94 : zr? Try.prog 94 = some [.pointer none] := by kernel_rfl
theorem ty_cl94 : cls? Try.prog 94 = some .ptr := by kernel_rfl
theorem ty_sz95 : sz? Try.prog 95 = some 1 := by kernel_rfl
theorem ty_ag95 : agg? Try.prog 95 = some false := by kernel_rfl
theorem ty_cl95 : cls? Try.prog 95 = some .fn := by kernel_rfl
theorem ty_sz96 : sz? Try.prog 96 = some 1 := by kernel_rfl
theorem ty_ag96 : agg? Try.prog 96 = some false := by kernel_rfl
theorem ty_cl96 : cls? Try.prog 96 = some .fn := by kernel_rfl
theorem ty_sz97 : sz? Try.prog 97 = some 1 := by kernel_rfl
theorem ty_ag97 : agg? Try.prog 97 = some false := by kernel_rfl
theorem ty_cl97 : cls? Try.prog 97 = some .fn := by kernel_rfl
theorem ty_sz98 : sz? Try.prog 98 = some 1 := by kernel_rfl
theorem ty_ag98 : agg? Try.prog 98 = some false := by kernel_rfl
theorem ty_cl98 : cls? Try.prog 98 = some .fn := by kernel_rfl
theorem ty_sz99 : sz? Try.prog 99 = some 1 := by kernel_rfl
theorem ty_ag99 : agg? Try.prog 99 = some false := by kernel_rfl
theorem ty_cl99 : cls? Try.prog 99 = some .fn := by kernel_rfl
theorem ty_sz100 : sz? Try.prog 100 = some 1 := by kernel_rfl
theorem ty_ag100 : agg? Try.prog 100 = some false := by kernel_rfl
theorem ty_cl100 : cls? Try.prog 100 = some .fn := by kernel_rfl
theorem ty_sz101 : sz? Try.prog 101 = some 1 := by kernel_rfl
theorem ty_ag101 : agg? Try.prog 101 = some false := by kernel_rfl
theorem ty_cl101 : cls? Try.prog 101 = some .fn := by kernel_rfl
theorem ty_sz102 : sz? Try.prog 102 = some 1 := by kernel_rfl
theorem ty_ag102 : agg? Try.prog 102 = some false := by kernel_rfl
theorem ty_cl102 : cls? Try.prog 102 = some .fn := by kernel_rfl
theorem ty_sz103 : sz? Try.prog 103 = some 1 := by kernel_rfl
theorem ty_ag103 : agg? Try.prog 103 = some false := by kernel_rfl
theorem ty_cl103 : cls? Try.prog 103 = some .fn := by kernel_rfl
theorem ty_sz104 : sz? Try.prog 104 = some 1 := by kernel_rfl
theorem ty_ag104 : agg? Try.prog 104 = some false := by kernel_rfl
theorem ty_cl104 : cls? Try.prog 104 = some .fn := by kernel_rfl
theorem ty_sz105 : sz? Try.prog 105 = some 1 := by kernel_rfl
theorem ty_ag105 : agg? Try.prog 105 = some false := by kernel_rfl
theorem ty_cl105 : cls? Try.prog 105 = some .fn := by kernel_rfl
theorem ty_sz106 : sz? Try.prog 106 = some 1 := by kernel_rfl
theorem ty_ag106 : agg? Try.prog 106 = some false := by kernel_rfl
theorem ty_cl106 : cls? Try.prog 106 = some .fn := by kernel_rfl
theorem ty_sz107 : sz? Try.prog 107 = some 1 := by kernel_rfl
theorem ty_ag107 : agg? Try.prog 107 = some false := by kernel_rfl
theorem ty_cl107 : cls? Try.prog 107 = some .fn := by kernel_rfl
theorem ty_sz108 : sz? Try.prog 108 = some 1 := by kernel_rfl
theorem ty_ag108 : agg? Try.prog 108 = some false := by kernel_rfl
theorem ty_cl108 : cls? Try.prog 108 = some .fn := by kernel_rfl
theorem ty_sz109 : sz? Try.prog 109 = some 1 := by kernel_rfl
theorem ty_ag109 : agg? Try.prog 109 = some false := by kernel_rfl
theorem ty_cl109 : cls? Try.prog 109 = some .fn := by kernel_rfl
theorem ty_sz110 : sz? Try.prog 110 = some 1 := by kernel_rfl
theorem ty_ag110 : agg? Try.prog 110 = some false := by kernel_rfl
theorem ty_cl110 : cls? Try.prog 110 = some .fn := by kernel_rfl
theorem ty_sz111 : sz? Try.prog 111 = some 1 := by kernel_rfl
theorem ty_ag111 : agg? Try.prog 111 = some false := by kernel_rfl
theorem ty_cl111 : cls? Try.prog 111 = some .fn := by kernel_rfl
theorem ty_sz112 : sz? Try.prog 112 = some 1 := by kernel_rfl
theorem ty_ag112 : agg? Try.prog 112 = some false := by kernel_rfl
theorem ty_cl112 : cls? Try.prog 112 = some .fn := by kernel_rfl
theorem ty_sz113 : sz? Try.prog 113 = some 1 := by kernel_rfl
theorem ty_ag113 : agg? Try.prog 113 = some false := by kernel_rfl
theorem ty_cl113 : cls? Try.prog 113 = some .fn := by kernel_rfl
theorem ty_sz114 : sz? Try.prog 114 = some 1 := by kernel_rfl
theorem ty_ag114 : agg? Try.prog 114 = some false := by kernel_rfl
theorem ty_cl114 : cls? Try.prog 114 = some .fn := by kernel_rfl
theorem ty_sz115 : sz? Try.prog 115 = some 1 := by kernel_rfl
theorem ty_ag115 : agg? Try.prog 115 = some false := by kernel_rfl
theorem ty_zr115 : zr? Try.prog 115 = some [.pointer none] := by kernel_rfl
theorem ty_cl115 : cls? Try.prog 115 = some .ptr := by kernel_rfl
theorem ty_sz116 : sz? Try.prog 116 = some 3 := by kernel_rfl
theorem ty_ag116 : agg? Try.prog 116 = some true := by kernel_rfl
theorem ty_zr116 : zr? Try.prog 116 = some [.string ⟨#[]⟩, .int .i64 0, .bool false] := by kernel_rfl
theorem ty_bl116 : bldOk Try.prog 116 = true := by kernel_rfl
theorem ty_fd116_0 : fld? Try.prog 116 0 = some (0, 1, false) := by kernel_rfl
theorem ty_fd116_1 : fld? Try.prog 116 1 = some (1, 1, false) := by kernel_rfl
theorem ty_fd116_2 : fld? Try.prog 116 2 = some (2, 1, false) := by kernel_rfl
theorem ty_sz117 : sz? Try.prog 117 = some 3 := by kernel_rfl
theorem ty_ag117 : agg? Try.prog 117 = some true := by kernel_rfl
theorem ty_zr117 : zr? Try.prog 117 = some [.string ⟨#[]⟩, .int .i64 0, .bool false] := by kernel_rfl
theorem ty_bl117 : bldOk Try.prog 117 = true := by kernel_rfl
theorem ty_fd117_0 : fld? Try.prog 117 0 = some (0, 1, false) := by kernel_rfl
theorem ty_fd117_1 : fld? Try.prog 117 1 = some (1, 1, false) := by kernel_rfl
theorem ty_fd117_2 : fld? Try.prog 117 2 = some (2, 1, false) := by kernel_rfl
theorem ty_sz118 : sz? Try.prog 118 = some 1 := by kernel_rfl
theorem ty_ag118 : agg? Try.prog 118 = some false := by kernel_rfl
theorem ty_cl118 : cls? Try.prog 118 = some .fn := by kernel_rfl
theorem ty_sz119 : sz? Try.prog 119 = some 1 := by kernel_rfl
theorem ty_ag119 : agg? Try.prog 119 = some false := by kernel_rfl
theorem ty_cl119 : cls? Try.prog 119 = some .fn := by kernel_rfl
theorem ty_sz120 : sz? Try.prog 120 = some 1 := by kernel_rfl
theorem ty_ag120 : agg? Try.prog 120 = some false := by kernel_rfl
theorem ty_zr120 : zr? Try.prog 120 = some [.pointer none] := by kernel_rfl
theorem ty_cl120 : cls? Try.prog 120 = some .ptr := by kernel_rfl
theorem ty_sz121 : sz? Try.prog 121 = some 3 := by kernel_rfl
theorem ty_ag121 : agg? Try.prog 121 = some true := by kernel_rfl
theorem ty_zr121 : zr? Try.prog 121 = some [.string ⟨#[]⟩, .int .i64 0, .bool false] := by kernel_rfl
theorem ty_bl121 : bldOk Try.prog 121 = true := by kernel_rfl
theorem ty_fd121_0 : fld? Try.prog 121 0 = some (0, 1, false) := by kernel_rfl
theorem ty_fd121_1 : fld? Try.prog 121 1 = some (1, 1, false) := by kernel_rfl
theorem ty_fd121_2 : fld? Try.prog 121 2 = some (2, 1, false) := by kernel_rfl
theorem ty_sz122 : sz? Try.prog 122 = some 3 := by kernel_rfl
theorem ty_ag122 : agg? Try.prog 122 = some true := by kernel_rfl
theorem ty_zr122 : zr? Try.prog 122 = some [.string ⟨#[]⟩, .int .i64 0, .bool false] := by kernel_rfl
theorem ty_bl122 : bldOk Try.prog 122 = true := by kernel_rfl
theorem ty_fd122_0 : fld? Try.prog 122 0 = some (0, 1, false) := by kernel_rfl
theorem ty_fd122_1 : fld? Try.prog 122 1 = some (1, 1, false) := by kernel_rfl
theorem ty_fd122_2 : fld? Try.prog 122 2 = some (2, 1, false) := by kernel_rfl
theorem ty_sz123 : sz? Try.prog 123 = some 1 := by kernel_rfl
theorem ty_ag123 : agg? Try.prog 123 = some false := by kernel_rfl
theorem ty_cl123 : cls? Try.prog 123 = some .fn := by kernel_rfl
theorem ty_sz124 : sz? Try.prog 124 = some 1 := by kernel_rfl
theorem ty_ag124 : agg? Try.prog 124 = some false := by kernel_rfl
theorem ty_cl124 : cls? Try.prog 124 = some .fn := by kernel_rfl
theorem ty_sz125 : sz? Try.prog 125 = some 1 := by kernel_rfl
theorem ty_ag125 : agg? Try.prog 125 = some false := by kernel_rfl
theorem ty_cl125 : cls? Try.prog 125 = some .fn := by kernel_rfl
theorem ty_sz126 : sz? Try.prog 126 = some 1 := by kernel_rfl
theorem ty_ag126 : agg? Try.prog 126 = some false := by kernel_rfl
theorem ty_cl126 : cls? Try.prog 126 = some .fn := by kernel_rfl
theorem ty_sz127 : sz? Try.prog 127 = some 1 := by kernel_rfl
theorem ty_ag127 : agg? Try.prog 127 = some false := by kernel_rfl
theorem ty_cl127 : cls? Try.prog 127 = some .fn := by kernel_rfl
theorem ty_sz128 : sz? Try.prog 128 = some 1 := by kernel_rfl
theorem ty_ag128 : agg? Try.prog 128 = some false := by kernel_rfl
theorem ty_cl128 : cls? Try.prog 128 = some .fn := by kernel_rfl
theorem ty_sz129 : sz? Try.prog 129 = some 1 := by kernel_rfl
theorem ty_ag129 : agg? Try.prog 129 = some false := by kernel_rfl
theorem ty_cl129 : cls? Try.prog 129 = some .fn := by kernel_rfl
theorem ty_sz130 : sz? Try.prog 130 = some 1 := by kernel_rfl
theorem ty_ag130 : agg? Try.prog 130 = some false := by kernel_rfl
theorem ty_cl130 : cls? Try.prog 130 = some .fn := by kernel_rfl
theorem ty_sz131 : sz? Try.prog 131 = some 1 := by kernel_rfl
theorem ty_ag131 : agg? Try.prog 131 = some false := by kernel_rfl
theorem ty_cl131 : cls? Try.prog 131 = some .fn := by kernel_rfl
theorem ty_sz132 : sz? Try.prog 132 = some 3 := by kernel_rfl
theorem ty_ag132 : agg? Try.prog 132 = some true := by kernel_rfl
theorem ty_zr132 : zr? Try.prog 132 = some [.slice none 0 0, .int .i64 0, .int .i64 0] := by kernel_rfl
theorem ty_bl132 : bldOk Try.prog 132 = true := by kernel_rfl
theorem ty_fd132_0 : fld? Try.prog 132 0 = some (0, 1, false) := by kernel_rfl
theorem ty_fd132_1 : fld? Try.prog 132 1 = some (1, 1, false) := by kernel_rfl
theorem ty_fd132_2 : fld? Try.prog 132 2 = some (2, 1, false) := by kernel_rfl
theorem ty_sz133 : sz? Try.prog 133 = some 3 := by kernel_rfl
theorem ty_ag133 : agg? Try.prog 133 = some true := by kernel_rfl
theorem ty_zr133 : zr? Try.prog 133 = some [.slice none 0 0, .int .i64 0, .int .i64 0] := by kernel_rfl
theorem ty_bl133 : bldOk Try.prog 133 = true := by kernel_rfl
theorem ty_fd133_0 : fld? Try.prog 133 0 = some (0, 1, false) := by kernel_rfl
theorem ty_fd133_1 : fld? Try.prog 133 1 = some (1, 1, false) := by kernel_rfl
theorem ty_fd133_2 : fld? Try.prog 133 2 = some (2, 1, false) := by kernel_rfl
theorem ty_sz134 : sz? Try.prog 134 = some 1 := by kernel_rfl
theorem ty_ag134 : agg? Try.prog 134 = some false := by kernel_rfl
theorem ty_cl134 : cls? Try.prog 134 = some .fn := by kernel_rfl
theorem ty_sz135 : sz? Try.prog 135 = some 1 := by kernel_rfl
theorem ty_ag135 : agg? Try.prog 135 = some false := by kernel_rfl
theorem ty_cl135 : cls? Try.prog 135 = some .fn := by kernel_rfl
theorem ty_sz136 : sz? Try.prog 136 = some 1 := by kernel_rfl
theorem ty_ag136 : agg? Try.prog 136 = some false := by kernel_rfl
theorem ty_cl136 : cls? Try.prog 136 = some .fn := by kernel_rfl
theorem ty_sz137 : sz? Try.prog 137 = some 1 := by kernel_rfl
theorem ty_ag137 : agg? Try.prog 137 = some false := by kernel_rfl
theorem ty_cl137 : cls? Try.prog 137 = some .fn := by kernel_rfl
theorem ty_sz139 : sz? Try.prog 139 = some 1 := by kernel_rfl
theorem ty_ag139 : agg? Try.prog 139 = some false := by kernel_rfl
theorem ty_cl139 : cls? Try.prog 139 = some .fn := by kernel_rfl
theorem ty_sz141 : sz? Try.prog 141 = some 1 := by kernel_rfl
theorem ty_ag141 : agg? Try.prog 141 = some false := by kernel_rfl
theorem ty_cl141 : cls? Try.prog 141 = some .fn := by kernel_rfl
theorem ty_sz142 : sz? Try.prog 142 = some 1 := by kernel_rfl
theorem ty_ag142 : agg? Try.prog 142 = some false := by kernel_rfl
theorem ty_cl142 : cls? Try.prog 142 = some .fn := by kernel_rfl
theorem ty_sz143 : sz? Try.prog 143 = some 1 := by kernel_rfl
theorem ty_ag143 : agg? Try.prog 143 = some false := by kernel_rfl
theorem ty_cl143 : cls? Try.prog 143 = some .fn := by kernel_rfl
theorem ty_sz144 : sz? Try.prog 144 = some 1 := by kernel_rfl
theorem ty_ag144 : agg? Try.prog 144 = some false := by kernel_rfl
theorem ty_cl144 : cls? Try.prog 144 = some .fn := by kernel_rfl
theorem ty_sz145 : sz? Try.prog 145 = some 1 := by kernel_rfl
theorem ty_ag145 : agg? Try.prog 145 = some false := by kernel_rfl
theorem ty_cl145 : cls? Try.prog 145 = some .fn := by kernel_rfl
theorem ty_sz146 : sz? Try.prog 146 = some 32 := by kernel_rfl
theorem ty_ag146 : agg? Try.prog 146 = some true := by kernel_rfl
theorem ty_zr146 : zr? Try.prog 146 = some [.slice none 0 0, .int .i64 0, .slice none 0 0, .slice none 0 0, .int .i64 0, .int .i64 0, .int .i64 0, .slice none 0 0, .slice none 0 0, .int .i64 0, .int .i64 0, .int .i64 0, .slice none 0 0, .slice none 0 0, .int .i64 0, .int .i64 0, .int .i64 0, .slice none 0 0, .slice none 0 0, .int .i64 0, .int .i64 0, .slice none 0 0, .int .i64 0, .slice none 0 0, .slice none 0 0, .int .i64 0, .int .i64 0, .int .i64 0, .slice none 0 0, .slice none 0 0, .int .i64 0, .int .i64 0] := by kernel_rfl
theorem ty_bl146 : bldOk Try.prog 146 = true := by kernel_rfl
theorem ty_fd146_0 : fld? Try.prog 146 0 = some (0, 1, false) := by kernel_rfl
theorem ty_fd146_1 : fld? Try.prog 146 1 = some (1, 5, true) := by kernel_rfl
theorem ty_fd146_2 : fld? Try.prog 146 2 = some (6, 5, true) := by kernel_rfl
theorem ty_fd146_3 : fld? Try.prog 146 3 = some (11, 5, true) := by kernel_rfl
theorem ty_fd146_4 : fld? Try.prog 146 4 = some (16, 5, true) := by kernel_rfl
theorem ty_fd146_5 : fld? Try.prog 146 5 = some (21, 1, false) := by kernel_rfl
theorem ty_fd146_6 : fld? Try.prog 146 6 = some (22, 5, true) := by kernel_rfl
theorem ty_fd146_7 : fld? Try.prog 146 7 = some (27, 5, true) := by kernel_rfl
theorem ty_sz147 : sz? Try.prog 147 = some 32 := by kernel_rfl
theorem ty_ag147 : agg? Try.prog 147 = some true := by kernel_rfl
theorem ty_zr147 : zr? Try.prog 147 = some [.slice none 0 0, .int .i64 0, .slice none 0 0, .slice none 0 0, .int .i64 0, .int .i64 0, .int .i64 0, .slice none 0 0, .slice none 0 0, .int .i64 0, .int .i64 0, .int .i64 0, .slice none 0 0, .slice none 0 0, .int .i64 0, .int .i64 0, .int .i64 0, .slice none 0 0, .slice none 0 0, .int .i64 0, .int .i64 0, .slice none 0 0, .int .i64 0, .slice none 0 0, .slice none 0 0, .int .i64 0, .int .i64 0, .int .i64 0, .slice none 0 0, .slice none 0 0, .int .i64 0, .int .i64 0] := by kernel_rfl
theorem ty_bl147 : bldOk Try.prog 147 = true := by kernel_rfl
theorem ty_fd147_0 : fld? Try.prog 147 0 = some (0, 1, false) := by kernel_rfl
theorem ty_fd147_1 : fld? Try.prog 147 1 = some (1, 5, true) := by kernel_rfl
theorem ty_fd147_2 : fld? Try.prog 147 2 = some (6, 5, true) := by kernel_rfl
theorem ty_fd147_3 : fld? Try.prog 147 3 = some (11, 5, true) := by kernel_rfl
theorem ty_fd147_4 : fld? Try.prog 147 4 = some (16, 5, true) := by kernel_rfl
theorem ty_fd147_5 : fld? Try.prog 147 5 = some (21, 1, false) := by kernel_rfl
theorem ty_fd147_6 : fld? Try.prog 147 6 = some (22, 5, true) := by kernel_rfl
theorem ty_fd147_7 : fld? Try.prog 147 7 = some (27, 5, true) := by kernel_rfl
theorem ty_sz148 : sz? Try.prog 148 = some 1 := by kernel_rfl
theorem ty_ag148 : agg? Try.prog 148 = some false := by kernel_rfl
theorem ty_cl148 : cls? Try.prog 148 = some .fn := by kernel_rfl
theorem ty_sz150 : sz? Try.prog 150 = some 1 := by kernel_rfl
theorem ty_ag150 : agg? Try.prog 150 = some false := by kernel_rfl
theorem ty_cl150 : cls? Try.prog 150 = some .fn := by kernel_rfl
theorem ty_sz151 : sz? Try.prog 151 = some 1 := by kernel_rfl
theorem ty_ag151 : agg? Try.prog 151 = some false := by kernel_rfl
theorem ty_cl151 : cls? Try.prog 151 = some .fn := by kernel_rfl
theorem ty_sz152 : sz? Try.prog 152 = some 1 := by kernel_rfl
theorem ty_ag152 : agg? Try.prog 152 = some false := by kernel_rfl
theorem ty_cl152 : cls? Try.prog 152 = some .fn := by kernel_rfl
theorem ty_sz153 : sz? Try.prog 153 = some 1 := by kernel_rfl
theorem ty_ag153 : agg? Try.prog 153 = some false := by kernel_rfl
theorem ty_cl153 : cls? Try.prog 153 = some .fn := by kernel_rfl
theorem ty_sz154 : sz? Try.prog 154 = some 1 := by kernel_rfl
theorem ty_ag154 : agg? Try.prog 154 = some false := by kernel_rfl
theorem ty_cl154 : cls? Try.prog 154 = some .fn := by kernel_rfl
theorem ty_sz155 : sz? Try.prog 155 = some 1 := by kernel_rfl
theorem ty_ag155 : agg? Try.prog 155 = some false := by kernel_rfl
theorem ty_cl155 : cls? Try.prog 155 = some .fn := by kernel_rfl
theorem ty_sz156 : sz? Try.prog 156 = some 1 := by kernel_rfl
theorem ty_ag156 : agg? Try.prog 156 = some false := by kernel_rfl
theorem ty_cl156 : cls? Try.prog 156 = some .fn := by kernel_rfl
theorem ty_sz157 : sz? Try.prog 157 = some 2 := by kernel_rfl
theorem ty_ag157 : agg? Try.prog 157 = some true := by kernel_rfl
theorem ty_zr157 : zr? Try.prog 157 = some [.int .i64 0, .int .i64 0] := by kernel_rfl
theorem ty_bl157 : bldOk Try.prog 157 = true := by kernel_rfl
theorem ty_fd157_0 : fld? Try.prog 157 0 = some (0, 1, false) := by kernel_rfl
theorem ty_fd157_1 : fld? Try.prog 157 1 = some (1, 1, false) := by kernel_rfl
theorem ty_sz158 : sz? Try.prog 158 = some 2 := by kernel_rfl
theorem ty_ag158 : agg? Try.prog 158 = some true := by kernel_rfl
theorem ty_zr158 : zr? Try.prog 158 = some [.int .i64 0, .int .i64 0] := by kernel_rfl
theorem ty_bl158 : bldOk Try.prog 158 = true := by kernel_rfl
theorem ty_fd158_0 : fld? Try.prog 158 0 = some (0, 1, false) := by kernel_rfl
theorem ty_fd158_1 : fld? Try.prog 158 1 = some (1, 1, false) := by kernel_rfl
theorem ty_sz159 : sz? Try.prog 159 = some 1 := by kernel_rfl
theorem ty_ag159 : agg? Try.prog 159 = some false := by kernel_rfl
theorem ty_cl159 : cls? Try.prog 159 = some .fn := by kernel_rfl
theorem ty_sz160 : sz? Try.prog 160 = some 1 := by kernel_rfl
theorem ty_ag160 : agg? Try.prog 160 = some false := by kernel_rfl
theorem ty_cl160 : cls? Try.prog 160 = some .fn := by kernel_rfl
theorem ty_sz161 : sz? Try.prog 161 = some 1 := by kernel_rfl
theorem ty_ag161 : agg? Try.prog 161 = some false := by kernel_rfl
theorem ty_cl161 : cls? Try.prog 161 = some .fn := by kernel_rfl
theorem ty_sz162 : sz? Try.prog 162 = some 1 := by kernel_rfl
theorem ty_ag162 : agg? Try.prog 162 = some false := by kernel_rfl
theorem ty_cl162 : cls? Try.prog 162 = some .fn := by kernel_rfl
theorem ty_sz163 : sz? Try.prog 163 = some 1 := by kernel_rfl
theorem ty_ag163 : agg? Try.prog 163 = some false := by kernel_rfl
theorem ty_cl163 : cls? Try.prog 163 = some .fn := by kernel_rfl
theorem ty_sz164 : sz? Try.prog 164 = some 1 := by kernel_rfl
theorem ty_ag164 : agg? Try.prog 164 = some false := by kernel_rfl
theorem ty_cl164 : cls? Try.prog 164 = some .fn := by kernel_rfl
theorem ty_sz166 : sz? Try.prog 166 = some 1 := by kernel_rfl
theorem ty_ag166 : agg? Try.prog 166 = some false := by kernel_rfl
theorem ty_cl166 : cls? Try.prog 166 = some .fn := by kernel_rfl
theorem ty_sz167 : sz? Try.prog 167 = some 1 := by kernel_rfl
theorem ty_ag167 : agg? Try.prog 167 = some false := by kernel_rfl
theorem ty_zr167 : zr? Try.prog 167 = some [.int .u32 0] := by kernel_rfl
theorem ty_cl167 : cls? Try.prog 167 = some (.int .u32) := by kernel_rfl
theorem ty_sz169 : sz? Try.prog 169 = some 1 := by kernel_rfl
theorem ty_ag169 : agg? Try.prog 169 = some false := by kernel_rfl
theorem ty_cl169 : cls? Try.prog 169 = some .fn := by kernel_rfl
theorem ty_sz170 : sz? Try.prog 170 = some 1 := by kernel_rfl
theorem ty_ag170 : agg? Try.prog 170 = some false := by kernel_rfl
theorem ty_cl170 : cls? Try.prog 170 = some .fn := by kernel_rfl
theorem ty_sz171 : sz? Try.prog 171 = some 1 := by kernel_rfl
theorem ty_ag171 : agg? Try.prog 171 = some false := by kernel_rfl
theorem ty_cl171 : cls? Try.prog 171 = some .fn := by kernel_rfl
theorem ty_sz172 : sz? Try.prog 172 = some 4 := by kernel_rfl
theorem ty_ag172 : agg? Try.prog 172 = some true := by kernel_rfl
theorem ty_zr172 : zr? Try.prog 172 = some [.pointer none, .pointer none, .pointer none, .string ⟨#[]⟩] := by kernel_rfl
theorem ty_bl172 : bldOk Try.prog 172 = true := by kernel_rfl
theorem ty_fd172_0 : fld? Try.prog 172 0 = some (0, 1, false) := by kernel_rfl
theorem ty_fd172_1 : fld? Try.prog 172 1 = some (1, 1, false) := by kernel_rfl
theorem ty_fd172_2 : fld? Try.prog 172 2 = some (2, 1, false) := by kernel_rfl
theorem ty_fd172_3 : fld? Try.prog 172 3 = some (3, 1, false) := by kernel_rfl
theorem ty_sz173 : sz? Try.prog 173 = some 4 := by kernel_rfl
theorem ty_ag173 : agg? Try.prog 173 = some true := by kernel_rfl
theorem ty_zr173 : zr? Try.prog 173 = some [.pointer none, .pointer none, .pointer none, .string ⟨#[]⟩] := by kernel_rfl
theorem ty_bl173 : bldOk Try.prog 173 = true := by kernel_rfl
theorem ty_fd173_0 : fld? Try.prog 173 0 = some (0, 1, false) := by kernel_rfl
theorem ty_fd173_1 : fld? Try.prog 173 1 = some (1, 1, false) := by kernel_rfl
theorem ty_fd173_2 : fld? Try.prog 173 2 = some (2, 1, false) := by kernel_rfl
theorem ty_fd173_3 : fld? Try.prog 173 3 = some (3, 1, false) := by kernel_rfl
theorem ty_sz177 : sz? Try.prog 177 = some 1 := by kernel_rfl
theorem ty_ag177 : agg? Try.prog 177 = some false := by kernel_rfl
theorem ty_zr177 : zr? Try.prog 177 = some [.int .u8 0] := by kernel_rfl
theorem ty_cl177 : cls? Try.prog 177 = some (.int .u8) := by kernel_rfl
theorem ty_sz178 : sz? Try.prog 178 = some 1 := by kernel_rfl
theorem ty_ag178 : agg? Try.prog 178 = some false := by kernel_rfl
theorem ty_zr178 : zr? Try.prog 178 = some [.int .u8 0] := by kernel_rfl
theorem ty_cl178 : cls? Try.prog 178 = some (.int .u8) := by kernel_rfl
theorem ty_sz179 : sz? Try.prog 179 = some 1 := by kernel_rfl
theorem ty_ag179 : agg? Try.prog 179 = some false := by kernel_rfl
theorem ty_cl179 : cls? Try.prog 179 = some .fn := by kernel_rfl
theorem ty_sz180 : sz? Try.prog 180 = some 1 := by kernel_rfl
theorem ty_ag180 : agg? Try.prog 180 = some false := by kernel_rfl
theorem ty_zr180 : zr? Try.prog 180 = some [.pointer none] := by kernel_rfl
theorem ty_cl180 : cls? Try.prog 180 = some .ptr := by kernel_rfl
theorem ty_sz181 : sz? Try.prog 181 = some 1 := by kernel_rfl
theorem ty_ag181 : agg? Try.prog 181 = some false := by kernel_rfl
theorem ty_zr181 : zr? Try.prog 181 = some [.int .i32 0] := by kernel_rfl
theorem ty_cl181 : cls? Try.prog 181 = some (.int .i32) := by kernel_rfl
theorem ty_sz182 : sz? Try.prog 182 = some 1 := by kernel_rfl
theorem ty_ag182 : agg? Try.prog 182 = some false := by kernel_rfl
theorem ty_zr182 : zr? Try.prog 182 = some [.int .i32 0] := by kernel_rfl
theorem ty_cl182 : cls? Try.prog 182 = some (.int .i32) := by kernel_rfl
theorem ty_sz183 : sz? Try.prog 183 = some 11 := by kernel_rfl
theorem ty_ag183 : agg? Try.prog 183 = some true := by kernel_rfl
theorem ty_zr183 : zr? Try.prog 183 = some [.int .u64 0, .int .u64 0, .int .u32 0, .int .u8 0, .int .u8 0, .int .u8 0, .int .u8 0, .nilFunc, .pointer none, .int .i32 0, .int .i32 0] := by kernel_rfl
theorem ty_bl183 : bldOk Try.prog 183 = true := by kernel_rfl
theorem ty_fd183_0 : fld? Try.prog 183 0 = some (0, 1, false) := by kernel_rfl
theorem ty_fd183_1 : fld? Try.prog 183 1 = some (1, 1, false) := by kernel_rfl
theorem ty_fd183_2 : fld? Try.prog 183 2 = some (2, 1, false) := by kernel_rfl
theorem ty_fd183_3 : fld? Try.prog 183 3 = some (3, 1, false) := by kernel_rfl
theorem ty_fd183_4 : fld? Try.prog 183 4 = some (4, 1, false) := by kernel_rfl
theorem ty_fd183_5 : fld? Try.prog 183 5 = some (5, 1, false) := by kernel_rfl
theorem ty_fd183_6 : fld? Try.prog 183 6 = some (6, 1, false) := by kernel_rfl
theorem ty_fd183_7 : fld? Try.prog 183 7 = some (7, 1, false) := by kernel_rfl
theorem ty_fd183_8 : fld? Try.prog 183 8 = some (8, 1, false) := by kernel_rfl
theorem ty_fd183_9 : fld? Try.prog 183 9 = some (9, 1, false) := by kernel_rfl
theorem ty_fd183_10 : fld? Try.prog 183 10 = some (10, 1, false) := by kernel_rfl
theorem ty_sz184 : sz? Try.prog 184 = some 11 := by kernel_rfl
theorem ty_ag184 : agg? Try.prog 184 = some true := by kernel_rfl
theorem ty_zr184 : zr? Try.prog 184 = some [.int .u64 0, .int .u64 0, .int .u32 0, .int .u8 0, .int .u8 0, .int .u8 0, .int .u8 0, .nilFunc, .pointer none, .int .i32 0, .int .i32 0] := by kernel_rfl
theorem ty_bl184 : bldOk Try.prog 184 = true := by kernel_rfl
theorem ty_fd184_0 : fld? Try.prog 184 0 = some (0, 1, false) := by kernel_rfl
theorem ty_fd184_1 : fld? Try.prog 184 1 = some (1, 1, false) := by kernel_rfl
theorem ty_fd184_2 : fld? Try.prog 184 2 = some (2, 1, false) := by kernel_rfl
theorem ty_fd184_3 : fld? Try.prog 184 3 = some (3, 1, false) := by kernel_rfl
theorem ty_fd184_4 : fld? Try.prog 184 4 = some (4, 1, false) := by kernel_rfl
theorem ty_fd184_5 : fld? Try.prog 184 5 = some (5, 1, false) := by kernel_rfl
theorem ty_fd184_6 : fld? Try.prog 184 6 = some (6, 1, false) := by kernel_rfl
theorem ty_fd184_7 : fld? Try.prog 184 7 = some (7, 1, false) := by kernel_rfl
theorem ty_fd184_8 : fld? Try.prog 184 8 = some (8, 1, false) := by kernel_rfl
theorem ty_fd184_9 : fld? Try.prog 184 9 = some (9, 1, false) := by kernel_rfl
theorem ty_fd184_10 : fld? Try.prog 184 10 = some (10, 1, false) := by kernel_rfl
attribute [go_sem] ty_sz1 ty_ag1 ty_cl1 ty_sz2 ty_ag2 ty_zr2 ty_cl2 ty_sz3 ty_ag3 ty_zr3 ty_cl3 ty_sz4 ty_ag4 ty_zr4 ty_cl4 ty_sz5 ty_ag5 ty_zr5 ty_cl5 ty_sz6 ty_ag6 ty_zr6 ty_cl6 ty_sz7 ty_ag7 ty_zr7 ty_bl7 ty_fd7_0 ty_fd7_1 ty_fd7_2 ty_fd7_3 ty_sz8 ty_ag8 ty_zr8 ty_bl8 ty_fd8_0 ty_fd8_1 ty_fd8_2 ty_fd8_3 ty_sz9 ty_ag9 ty_zr9 ty_cl9 ty_sz10 ty_ag10 ty_zr10 ty_cl10 ty_sz11 ty_ag11 ty_zr11 ty_cl11 ty_sz12 ty_ag12 ty_zr12 ty_cl12 ty_sz13 ty_ag13 ty_zr13 ty_bl13 ty_fd13_0 ty_fd13_1 ty_sz14 ty_ag14 ty_zr14 ty_bl14 ty_fd14_0 ty_fd14_1 ty_sz15 ty_ag15 ty_zr15 ty_cl15 ty_sz16 ty_ag16 ty_zr16 ty_cl16 ty_sz17 ty_ag17 ty_zr17 ty_cl17 ty_sz18 ty_ag18 ty_zr18 ty_bl18 ty_fd18_0 ty_sz19 ty_ag19 ty_zr19 ty_bl19 ty_fd19_0 ty_sz21 ty_ag21 ty_zr21 ty_cl21 ty_sz22 ty_ag22 ty_zr22 ty_cl22 ty_sz23 ty_ag23 ty_cl23 ty_sz24 ty_ag24 ty_cl24 ty_sz26 ty_ag26 ty_cl26 ty_sz27 ty_ag27 ty_cl27 ty_sz28 ty_ag28 ty_zr28 ty_cl28 ty_el28 ty_sz29 ty_ag29 ty_cl29 ty_sz30 ty_ag30 ty_cl30 ty_sz31 ty_ag31 ty_zr31 ty_cl31 ty_el31 ty_sz32 ty_ag32 ty_zr32 ty_bl32 ty_fd32_0 ty_fd32_1 ty_fd32_2 ty_fd32_3 ty_sz33 ty_ag33 ty_zr33 ty_bl33 ty_fd33_0 ty_fd33_1 ty_fd33_2 ty_fd33_3 ty_sz34 ty_ag34 ty_cl34 ty_sz35 ty_ag35 ty_cl35 ty_sz36 ty_ag36 ty_zr36 ty_bl36 ty_fd36_0 ty_fd36_1 ty_fd36_2 ty_fd36_3 ty_sz37 ty_ag37 ty_cl37 ty_sz38 ty_ag38 ty_cl38 ty_sz39 ty_ag39 ty_cl39 ty_sz40 ty_ag40 ty_zr40 ty_cl40 ty_el40 ty_sz41 ty_ag41 ty_cl41 ty_sz42 ty_ag42 ty_cl42 ty_sz43 ty_ag43 ty_cl43 ty_sz44 ty_ag44 ty_cl44 ty_sz45 ty_ag45 ty_cl45 ty_sz46 ty_ag46 ty_cl46 ty_sz47 ty_ag47 ty_zr47 ty_bl47 ty_fd47_0 ty_fd47_1 ty_sz48 ty_ag48 ty_zr48 ty_bl48 ty_fd48_0 ty_fd48_1 ty_sz49 ty_ag49 ty_zr49 ty_bl49 ty_fd49_0 ty_fd49_1 ty_fd49_2 ty_fd49_3 ty_fd49_4 ty_fd49_5 ty_sz50 ty_ag50 ty_zr50 ty_bl50 ty_fd50_0 ty_fd50_1 ty_fd50_2 ty_fd50_3 ty_fd50_4 ty_fd50_5 ty_sz51 ty_ag51 ty_cl51 ty_sz52 ty_ag52 ty_cl52 ty_sz53 ty_ag53 ty_zr53 ty_bl53 ty_fd53_0 ty_fd53_1 ty_sz54 ty_ag54 ty_zr54 ty_bl54 ty_fd54_0 ty_fd54_1 ty_fd54_2 ty_fd54_3 ty_fd54_4 ty_fd54_5 ty_sz55 ty_ag55 ty_zr55 ty_bl55 ty_fd55_0 ty_fd55_1 ty_fd55_2 ty_fd55_3 ty_fd55_4 ty_fd55_5 ty_sz56 ty_ag56 ty_cl56 ty_sz57 ty_ag57 ty_cl57 ty_sz58 ty_ag58 ty_cl58 ty_sz59 ty_ag59 ty_cl59 ty_sz60 ty_ag60 ty_zr60 ty_bl60 ty_fd60_0 ty_fd60_1 ty_fd60_2 ty_fd60_3 ty_fd60_4 ty_sz61 ty_ag61 ty_zr61 ty_bl61 ty_fd61_0 ty_fd61_1 ty_fd61_2 ty_fd61_3 ty_fd61_4 ty_sz62 ty_ag62 ty_cl62 ty_sz64 ty_ag64 ty_cl64 ty_sz65 ty_ag65 ty_zr65 ty_bl65 ty_fd65_0 ty_fd65_1 ty_fd65_2 ty_fd65_3 ty_fd65_4 ty_sz66 ty_ag66 ty_zr66 ty_bl66 ty_fd66_0 ty_fd66_1 ty_fd66_2 ty_fd66_3 ty_fd66_4 ty_sz67 ty_ag67 ty_cl67 ty_sz68 ty_ag68 ty_cl68 ty_sz69 ty_ag69 ty_cl69 ty_sz71 ty_ag71 ty_cl71 ty_sz73 ty_ag73 ty_cl73 ty_sz75 ty_ag75 ty_cl75 ty_sz76 ty_ag76 ty_cl76 ty_sz77 ty_ag77 ty_cl77 ty_sz78 ty_ag78 ty_cl78 ty_sz79 ty_ag79 ty_zr79 ty_cl79 ty_el79 ty_sz80 ty_ag80 ty_zr80 ty_cl80 ty_el80 ty_sz81 ty_ag81 ty_zr81 ty_cl81 ty_el81 ty_sz82 ty_ag82 ty_zr82 ty_bl82 ty_fd82_0 ty_fd82_1 ty_fd82_2 ty_fd82_3 ty_fd82_4 ty_sz83 ty_ag83 ty_zr83 ty_bl83 ty_fd83_0 ty_fd83_1 ty_fd83_2 ty_fd83_3 ty_fd83_4 ty_sz84 ty_ag84 ty_zr84 ty_bl84 ty_fd84_0 ty_fd84_1 ty_sz85 ty_ag85 ty_zr85 ty_bl85 ty_fd85_0 ty_fd85_1 ty_sz86 ty_ag86 ty_zr86 ty_bl86 ty_fd86_0 ty_fd86_1 ty_fd86_2 ty_fd86_3 ty_fd86_4 ty_fd86_5 ty_fd86_6 ty_fd86_7 ty_fd86_8 ty_sz87 ty_ag87 ty_zr87 ty_bl87 ty_fd87_0 ty_fd87_1 ty_fd87_2 ty_fd87_3 ty_fd87_4 ty_fd87_5 ty_fd87_6 ty_fd87_7 ty_fd87_8 ty_sz89 ty_ag89 ty_cl89 ty_sz90 ty_ag90 ty_cl90 ty_sz91 ty_ag91 ty_cl91 ty_sz92 ty_ag92 ty_zr92 ty_cl92 ty_sz93 ty_ag93 ty_cl93 ty_sz94 ty_ag94 ty_zr94 ty_cl94 ty_sz95 ty_ag95 ty_cl95 ty_sz96 ty_ag96 ty_cl96 ty_sz97 ty_ag97 ty_cl97 ty_sz98 ty_ag98 ty_cl98 ty_sz99 ty_ag99 ty_cl99 ty_sz100 ty_ag100 ty_cl100 ty_sz101 ty_ag101 ty_cl101 ty_sz102 ty_ag102 ty_cl102 ty_sz103 ty_ag103 ty_cl103 ty_sz104 ty_ag104 ty_cl104 ty_sz105 ty_ag105 ty_cl105 ty_sz106 ty_ag106 ty_cl106 ty_sz107 ty_ag107 ty_cl107 ty_sz108 ty_ag108 ty_cl108 ty_sz109 ty_ag109 ty_cl109 ty_sz110 ty_ag110 ty_cl110 ty_sz111 ty_ag111 ty_cl111 ty_sz112 ty_ag112 ty_cl112 ty_sz113 ty_ag113 ty_cl113 ty_sz114 ty_ag114 ty_cl114 ty_sz115 ty_ag115 ty_zr115 ty_cl115 ty_sz116 ty_ag116 ty_zr116 ty_bl116 ty_fd116_0 ty_fd116_1 ty_fd116_2 ty_sz117 ty_ag117 ty_zr117 ty_bl117 ty_fd117_0 ty_fd117_1 ty_fd117_2 ty_sz118 ty_ag118 ty_cl118 ty_sz119 ty_ag119 ty_cl119 ty_sz120 ty_ag120 ty_zr120 ty_cl120 ty_sz121 ty_ag121 ty_zr121 ty_bl121 ty_fd121_0 ty_fd121_1 ty_fd121_2 ty_sz122 ty_ag122 ty_zr122 ty_bl122 ty_fd122_0 ty_fd122_1 ty_fd122_2 ty_sz123 ty_ag123 ty_cl123 ty_sz124 ty_ag124 ty_cl124 ty_sz125 ty_ag125 ty_cl125 ty_sz126 ty_ag126 ty_cl126 ty_sz127 ty_ag127 ty_cl127 ty_sz128 ty_ag128 ty_cl128 ty_sz129 ty_ag129 ty_cl129 ty_sz130 ty_ag130 ty_cl130 ty_sz131 ty_ag131 ty_cl131 ty_sz132 ty_ag132 ty_zr132 ty_bl132 ty_fd132_0 ty_fd132_1 ty_fd132_2 ty_sz133 ty_ag133 ty_zr133 ty_bl133 ty_fd133_0 ty_fd133_1 ty_fd133_2 ty_sz134 ty_ag134 ty_cl134 ty_sz135 ty_ag135 ty_cl135 ty_sz136 ty_ag136 ty_cl136 ty_sz137 ty_ag137 ty_cl137 ty_sz139 ty_ag139 ty_cl139 ty_sz141 ty_ag141 ty_cl141 ty_sz142 ty_ag142 ty_cl142 ty_sz143 ty_ag143 ty_cl143 ty_sz144 ty_ag144 ty_cl144 ty_sz145 ty_ag145 ty_cl145 ty_sz146 ty_ag146 ty_zr146 ty_bl146 ty_fd146_0 ty_fd146_1 ty_fd146_2 ty_fd146_3 ty_fd146_4 ty_fd146_5 ty_fd146_6 ty_fd146_7 ty_sz147 ty_ag147 ty_zr147 ty_bl147 ty_fd147_0 ty_fd147_1 ty_fd147_2 ty_fd147_3 ty_fd147_4 ty_fd147_5 ty_fd147_6 ty_fd147_7 ty_sz148 ty_ag148 ty_cl148 ty_sz150 ty_ag150 ty_cl150 ty_sz151 ty_ag151 ty_cl151 ty_sz152 ty_ag152 ty_cl152 ty_sz153 ty_ag153 ty_cl153 ty_sz154 ty_ag154 ty_cl154 ty_sz155 ty_ag155 ty_cl155 ty_sz156 ty_ag156 ty_cl156 ty_sz157 ty_ag157 ty_zr157 ty_bl157 ty_fd157_0 ty_fd157_1 ty_sz158 ty_ag158 ty_zr158 ty_bl158 ty_fd158_0 ty_fd158_1 ty_sz159 ty_ag159 ty_cl159 ty_sz160 ty_ag160 ty_cl160 ty_sz161 ty_ag161 ty_cl161 ty_sz162 ty_ag162 ty_cl162 ty_sz163 ty_ag163 ty_cl163 ty_sz164 ty_ag164 ty_cl164 ty_sz166 ty_ag166 ty_cl166 ty_sz167 ty_ag167 ty_zr167 ty_cl167 ty_sz169 ty_ag169 ty_cl169 ty_sz170 ty_ag170 ty_cl170 ty_sz171 ty_ag171 ty_cl171 ty_sz172 ty_ag172 ty_zr172 ty_bl172 ty_fd172_0 ty_fd172_1 ty_fd172_2 ty_fd172_3 ty_sz173 ty_ag173 ty_zr173 ty_bl173 ty_fd173_0 ty_fd173_1 ty_fd173_2 ty_fd173_3 ty_sz177 ty_ag177 ty_zr177 ty_cl177 ty_sz178 ty_ag178 ty_zr178 ty_cl178 ty_sz179 ty_ag179 ty_cl179 ty_sz180 ty_ag180 ty_zr180 ty_cl180 ty_sz181 ty_ag181 ty_zr181 ty_cl181 ty_sz182 ty_ag182 ty_zr182 ty_cl182 ty_sz183 ty_ag183 ty_zr183 ty_bl183 ty_fd183_0 ty_fd183_1 ty_fd183_2 ty_fd183_3 ty_fd183_4 ty_fd183_5 ty_fd183_6 ty_fd183_7 ty_fd183_8 ty_fd183_9 ty_fd183_10 ty_sz184 ty_ag184 ty_zr184 ty_bl184 ty_fd184_0 ty_fd184_1 ty_fd184_2 ty_fd184_3 ty_fd184_4 ty_fd184_5 ty_fd184_6 ty_fd184_7 ty_fd184_8 ty_fd184_9 ty_fd184_10
end Go.Ai
