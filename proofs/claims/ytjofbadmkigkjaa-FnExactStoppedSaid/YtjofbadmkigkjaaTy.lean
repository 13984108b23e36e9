/- Facts on the types of this translation. -/
import Derived.Test.YtjofbadmkigkjaaA2
import Derived.Test.YtjofbadmkigkjaaProg
namespace Go.Ai
open Go.Proofs
theorem ty_sz1 : sz? Try.prog 1 = some 1 := by kernel_rfl
theorem ty_ag1 : agg? Try.prog 1 = some false := by kernel_rfl
theorem ty_cl1 : cls? Try.prog 1 = some .fn := by kernel_rfl
theorem ty_sz2 : sz? Try.prog 2 = some 1 := by kernel_rfl
theorem ty_ag2 : agg? Try.prog 2 = some false := by kernel_rfl
theorem ty_zr2 : zr? Try.prog 2 = some [.int .i64 0] := by kernel_rfl
theorem ty_cl2 : cls? Try.prog 2 = some (.int .i64) := by kernel_rfl
theorem ty_sz3 : sz? Try.prog 3 = some 1 := by kernel_rfl
theorem ty_ag3 : agg? Try.prog 3 = some false := by kernel_rfl
theorem ty_zr3 : zr? Try.prog 3 = some [.int .i64 0] := by kernel_rfl
theorem ty_cl3 : cls? Try.prog 3 = some (.int .i64) := by kernel_rfl
theorem ty_sz4 : sz? Try.prog 4 = some 1 := by kernel_rfl
theorem ty_ag4 : agg? Try.prog 4 = some false := by kernel_rfl
theorem ty_zr4 : zr? Try.prog 4 = some [.bool false] := by kernel_rfl
theorem ty_cl4 : cls? Try.prog 4 = some .bool := by kernel_rfl
theorem ty_sz5 : sz? Try.prog 5 = some 1 := by kernel_rfl
theorem ty_ag5 : agg? Try.prog 5 = some false := by kernel_rfl
theorem ty_zr5 : zr? Try.prog 5 = some [.int .u8 0] := by kernel_rfl
theorem ty_cl5 : cls? Try.prog 5 = some (.int .u8) := by kernel_rfl
theorem ty_sz6 : sz? Try.prog 6 = some 1 := by kernel_rfl
theorem ty_ag6 : agg? Try.prog 6 = some false := by kernel_rfl
theorem ty_zr6 : zr? Try.prog 6 = some [.int .u8 0] := by kernel_rfl
theorem ty_cl6 : cls? Try.prog 6 = some (.int .u8) := by kernel_rfl
theorem ty_sz7 : sz? Try.prog 7 = some 4 := by kernel_rfl
theorem ty_ag7 : agg? Try.prog 7 = some true := by kernel_rfl
theorem ty_zr7 : zr? Try.prog 7 = some [.int .i64 0, .int .i64 0, .bool false, .int .u8 0] := by kernel_rfl
theorem ty_bl7 : bldOk Try.prog 7 = true := by kernel_rfl
theorem ty_fd7_0 : fld? Try.prog 7 0 = some (0, 1, false) := by kernel_rfl
theorem ty_fd7_1 : fld? Try.prog 7 1 = some (1, 1, false) := by kernel_rfl
theorem ty_fd7_2 : fld? Try.prog 7 2 = some (2, 1, false) := by kernel_rfl
theorem ty_fd7_3 : fld? Try.prog 7 3 = some (3, 1, false) := by kernel_rfl
theorem ty_sz8 : sz? Try.prog 8 = some 4 := by kernel_rfl
theorem ty_ag8 : agg? Try.prog 8 = some true := by kernel_rfl
theorem ty_zr8 : zr? Try.prog 8 = some [.int .i64 0, .int .i64 0, .bool false, .int .u8 0] := by kernel_rfl
theorem ty_bl8 : bldOk Try.prog 8 = true := by kernel_rfl
theorem ty_fd8_0 : fld? Try.prog 8 0 = some (0, 1, false) := by kernel_rfl
theorem ty_fd8_1 : fld? Try.prog 8 1 = some (1, 1, false) := by kernel_rfl
theorem ty_fd8_2 : fld? Try.prog 8 2 = some (2, 1, false) := by kernel_rfl
theorem ty_fd8_3 : fld? Try.prog 8 3 = some (3, 1, false) := by kernel_rfl
theorem ty_sz9 : sz? Try.prog 9 = some 1 := by kernel_rfl
theorem ty_ag9 : agg? Try.prog 9 = some false := by kernel_rfl
theorem ty_zr9 : zr? Try.prog 9 = some [.string ⟨#[]⟩] := by kernel_rfl
theorem ty_cl9 : cls? Try.prog 9 = some .str := by kernel_rfl
theorem ty_sz10 : sz? Try.prog 10 = some 1 := by kernel_rfl
theorem ty_ag10 : agg? Try.prog 10 = some false := by kernel_rfl
theorem ty_zr10 : zr? Try.prog 10 = some [.string ⟨#[]⟩] := by kernel_rfl
theorem ty_cl10 : cls? Try.prog 10 = some .str := by kernel_rfl
theorem ty_sz11 : sz? Try.prog 11 = some 1 := by kernel_rfl
theorem ty_ag11 : agg? Try.prog 11 = some false := by kernel_rfl
theorem ty_zr11 : zr? Try.prog 11 = some [.string ⟨#[]⟩] := by kernel_rfl
theorem ty_cl11 : cls? Try.prog 11 = some .str := by kernel_rfl
theorem ty_sz12 : sz? Try.prog 12 = some 1 := by kernel_rfl
theorem ty_ag12 : agg? Try.prog 12 = some false := by kernel_rfl
theorem ty_zr12 : zr? Try.prog 12 = some [.int .u64 0] := by kernel_rfl
theorem ty_cl12 : cls? Try.prog 12 = some (.int .u64) := by kernel_rfl
theorem ty_sz13 : sz? Try.prog 13 = some 2 := by kernel_rfl
theorem ty_ag13 : agg? Try.prog 13 = some true := by kernel_rfl
theorem ty_zr13 : zr? Try.prog 13 = some [.string ⟨#[]⟩, .int .u64 0] := by kernel_rfl
theorem ty_bl13 : bldOk Try.prog 13 = true := by kernel_rfl
theorem ty_fd13_0 : fld? Try.prog 13 0 = some (0, 1, false) := by kernel_rfl
theorem ty_fd13_1 : fld? Try.prog 13 1 = some (1, 1, false) := by kernel_rfl
theorem ty_sz14 : sz? Try.prog 14 = some 2 := by kernel_rfl
theorem ty_ag14 : agg? Try.prog 14 = some true := by kernel_rfl
theorem ty_zr14 : zr? Try.prog 14 = some [.string ⟨#[]⟩, .int .u64 0] := by kernel_rfl
theorem ty_bl14 : bldOk Try.prog 14 = true := by kernel_rfl
theorem ty_fd14_0 : fld? Try.prog 14 0 = some (0, 1, false) := by kernel_rfl
theorem ty_fd14_1 : fld? Try.prog 14 1 = some (1, 1, false) := by kernel_rfl
theorem ty_sz15 : sz? Try.prog 15 = some 1 := by kernel_rfl
theorem ty_ag15 : agg? Try.prog 15 = some false := by kernel_rfl
theorem ty_zr15 : zr? Try.prog 15 = some [.pointer none] := by kernel_rfl
theorem ty_cl15 : cls? Try.prog 15 = some .ptr := by kernel_rfl
theorem ty_sz16 : sz? Try.prog 16 = some 1 := by kernel_rfl
theorem ty_ag16 : agg? Try.prog 16 = some false := by kernel_rfl
theorem ty_zr16 : zr? Try.prog 16 = some [.pointer none] := by kernel_rfl
theorem ty_cl16 : cls? Try.prog 16 = some .ptr := by kernel_rfl
theorem ty_sz17 : sz? Try.prog 17 = some 1 := by kernel_rfl
theorem ty_ag17 : agg? Try.prog 17 = some false := by kernel_rfl
theorem ty_zr17 : zr? Try.prog 17 = some [.pointer none] := by kernel_rfl
theorem ty_cl17 : cls? Try.prog 17 = some .ptr := by kernel_rfl
theorem ty_sz18 : sz? Try.prog 18 = some 1 := by kernel_rfl
theorem ty_ag18 : agg? Try.prog 18 = some true := by kernel_rfl
theorem ty_zr18 : zr? Try.prog 18 = some [.pointer none] := by kernel_rfl
theorem ty_bl18 : bldOk Try.prog 18 = true := by kernel_rfl
theorem ty_fd18_0 : fld? Try.prog 18 0 = some (0, 1, false) := by kernel_rfl
theorem ty_sz19 : sz? Try.prog 19 = some 1 := by kernel_rfl
theorem ty_ag19 : agg? Try.prog 19 = some true := by kernel_rfl
theorem ty_zr19 : zr? Try.prog 19 = some [.pointer none] := by kernel_rfl
theorem ty_bl19 : bldOk Try.prog 19 = true := by kernel_rfl
theorem ty_fd19_0 : fld? Try.prog 19 0 = some (0, 1, false) := by kernel_rfl
theorem ty_sz21 : sz? Try.prog 21 = some 1 := by kernel_rfl
theorem ty_ag21 : agg? Try.prog 21 = some false := by kernel_rfl
theorem ty_zr21 : zr? Try.prog 21 = some [.int .i32 0] := by kernel_rfl
theorem ty_cl21 : cls? Try.prog 21 = some (.int .i32) := by kernel_rfl
theorem ty_sz22 : sz? Try.prog 22 = some 1 := by kernel_rfl
theorem ty_ag22 : agg? Try.prog 22 = some false := by kernel_rfl
theorem ty_zr22 : zr? Try.prog 22 = some [.slice none 0 0] := by kernel_rfl
theorem ty_cl22 : cls? Try.prog 22 = some .sl := by kernel_rfl
theorem ty_el22 : elt? Try.prog 22 = some (5, 1, 1) := by kernel_rfl
theorem ty_sz23 : sz? Try.prog 23 = some 1 := by kernel_rfl
theorem ty_ag23 : agg? Try.prog 23 = some false := by kernel_rfl
theorem ty_cl23 : cls? Try.prog 23 = some .fn := by kernel_rfl
theorem ty_sz24 : sz? Try.prog 24 = some 1 := by kernel_rfl
theorem ty_ag24 : agg? Try.prog 24 = some false := by kernel_rfl
theorem ty_zr24 : zr? Try.prog 24 = some [.slice none 0 0] := by kernel_rfl
theorem ty_cl24 : cls? Try.prog 24 = some .sl := by kernel_rfl
theorem ty_el24 : elt? Try.prog 24 = some (9, 1, 16) := by kernel_rfl
theorem ty_sz25 : sz? Try.prog 25 = some 4 := by kernel_rfl
theorem ty_ag25 : agg? Try.prog 25 = some true := by kernel_rfl
theorem ty_zr25 : zr? Try.prog 25 = some [.int .i64 0, .int .i64 0, .int .i64 0, .slice none 0 0] := by kernel_rfl
theorem ty_bl25 : bldOk Try.prog 25 = true := by kernel_rfl
theorem ty_fd25_0 : fld? Try.prog 25 0 = some (0, 1, false) := by kernel_rfl
theorem ty_fd25_1 : fld? Try.prog 25 1 = some (1, 1, false) := by kernel_rfl
theorem ty_fd25_2 : fld? Try.prog 25 2 = some (2, 1, false) := by kernel_rfl
theorem ty_fd25_3 : fld? Try.prog 25 3 = some (3, 1, false) := by kernel_rfl
theorem ty_sz26 : sz? Try.prog 26 = some 4 := by kernel_rfl
theorem ty_ag26 : agg? Try.prog 26 = some true := by kernel_rfl
theorem ty_zr26 : zr? Try.prog 26 = some [.int .i64 0, .int .i64 0, .int .i64 0, .slice none 0 0] := by kernel_rfl
theorem ty_bl26 : bldOk Try.prog 26 = true := by kernel_rfl
theorem ty_fd26_0 : fld? Try.prog 26 0 = some (0, 1, false) := by kernel_rfl
theorem ty_fd26_1 : fld? Try.prog 26 1 = some (1, 1, false) := by kernel_rfl
theorem ty_fd26_2 : fld? Try.prog 26 2 = some (2, 1, false) := by kernel_rfl
theorem ty_fd26_3 : fld? Try.prog 26 3 = some (3, 1, false) := by kernel_rfl
theorem ty_sz27 : sz? Try.prog 27 = some 1 := by kernel_rfl
theorem ty_ag27 : agg? Try.prog 27 = some false := by kernel_rfl
theorem ty_zr27 : zr? Try.prog 27 = some [.slice none 0 0] := by kernel_rfl
theorem ty_cl27 : cls? Try.prog 27 = some .sl := by kernel_rfl
theorem ty_el27 : elt? Try.prog 27 = some (3, 1, 8) := by kernel_rfl
theorem ty_sz28 : sz? Try.prog 28 = some 8 := by kernel_rfl
theorem ty_ag28 : agg? Try.prog 28 = some true := by kernel_rfl
theorem ty_zr28 : zr? Try.prog 28 = some [.int .i64 0, .string ⟨#[]⟩, .int .i64 0, .int .i64 0, .int .i64 0, .int .i64 0, .slice none 0 0, .slice none 0 0] := by kernel_rfl
theorem ty_bl28 : bldOk Try.prog 28 = true := by kernel_rfl
theorem ty_fd28_0 : fld? Try.prog 28 0 = some (0, 1, false) := by kernel_rfl
theorem ty_fd28_1 : fld? Try.prog 28 1 = some (1, 1, false) := by kernel_rfl
theorem ty_fd28_2 : fld? Try.prog 28 2 = some (2, 1, false) := by kernel_rfl
theorem ty_fd28_3 : fld? Try.prog 28 3 = some (3, 4, true) := by kernel_rfl
theorem ty_fd28_4 : fld? Try.prog 28 4 = some (7, 1, false) := by kernel_rfl
theorem ty_sz29 : sz? Try.prog 29 = some 8 := by kernel_rfl
theorem ty_ag29 : agg? Try.prog 29 = some true := by kernel_rfl
theorem ty_zr29 : zr? Try.prog 29 = some [.int .i64 0, .string ⟨#[]⟩, .int .i64 0, .int .i64 0, .int .i64 0, .int .i64 0, .slice none 0 0, .slice none 0 0] := by kernel_rfl
theorem ty_bl29 : bldOk Try.prog 29 = true := by kernel_rfl
theorem ty_fd29_0 : fld? Try.prog 29 0 = some (0, 1, false) := by kernel_rfl
theorem ty_fd29_1 : fld? Try.prog 29 1 = some (1, 1, false) := by kernel_rfl
theorem ty_fd29_2 : fld? Try.prog 29 2 = some (2, 1, false) := by kernel_rfl
theorem ty_fd29_3 : fld? Try.prog 29 3 = some (3, 4, true) := by kernel_rfl
theorem ty_fd29_4 : fld? Try.prog 29 4 = some (7, 1, false) := by kernel_rfl
theorem ty_sz30 : sz? Try.prog 30 = some 1 := by kernel_rfl
theorem ty_ag30 : agg? Try.prog 30 = some false := by kernel_rfl
theorem ty_cl30 : cls? Try.prog 30 = some .fn := by kernel_rfl
theorem ty_sz32 : sz? Try.prog 32 = some 1 := by kernel_rfl
theorem ty_ag32 : agg? Try.prog 32 = some false := by kernel_rfl
theorem ty_cl32 : cls? Try.prog 32 = some .fn := by kernel_rfl
theorem ty_sz34 : sz? Try.prog 34 = some 1 := by kernel_rfl
theorem ty_ag34 : agg? Try.prog 34 = some false := by kernel_rfl
theorem ty_cl34 : cls? Try.prog 34 = some .fn := by kernel_rfl
theorem ty_sz35 : sz? Try.prog 35 = some 1 := by kernel_rfl
theorem ty_ag35 : agg? Try.prog 35 = some false := by kernel_rfl
theorem ty_cl35 : cls? Try.prog 35 = some .fn := by kernel_rfl
theorem ty_sz36 : sz? Try.prog 36 = some 1 := by kernel_rfl
theorem ty_ag36 : agg? Try.prog 36 = some false := by kernel_rfl
theorem ty_cl36 : cls? Try.prog 36 = some .fn := by kernel_rfl
theorem ty_sz37 : sz? Try.prog 37 = some 1 := by kernel_rfl
theorem ty_ag37 : agg? Try.prog 37 = some false := by kernel_rfl
theorem ty_cl37 : cls? Try.prog 37 = some .fn := by kernel_rfl
theorem ty_sz38 : sz? Try.prog 38 = some 1 := by kernel_rfl
theorem ty_ag38 : agg? Try.prog 38 = some false := by kernel_rfl
theorem ty_zr38 : zr? Try.prog 38 = some [.slice none 0 0] := by kernel_rfl
theorem ty_cl38 : cls? Try.prog 38 = some .sl := by kernel_rfl
theorem ty_el38 : elt? Try.prog 38 = some (152, 2, 16) := by kernel_rfl
theorem ty_sz39 : sz? Try.prog 39 = some 1 := by kernel_rfl
theorem ty_ag39 : agg? Try.prog 39 = some false := by kernel_rfl
theorem ty_zr39 : zr? Try.prog 39 = some [.slice none 0 0] := by kernel_rfl
theorem ty_cl39 : cls? Try.prog 39 = some .sl := by kernel_rfl
theorem ty_el39 : elt? Try.prog 39 = some (27, 1, 24) := by kernel_rfl
theorem ty_sz40 : sz? Try.prog 40 = some 1 := by kernel_rfl
theorem ty_ag40 : agg? Try.prog 40 = some false := by kernel_rfl
theorem ty_zr40 : zr? Try.prog 40 = some [.slice none 0 0] := by kernel_rfl
theorem ty_cl40 : cls? Try.prog 40 = some .sl := by kernel_rfl
theorem ty_el40 : elt? Try.prog 40 = some (146, 32, 480) := by kernel_rfl
theorem ty_sz41 : sz? Try.prog 41 = some 5 := by kernel_rfl
theorem ty_ag41 : agg? Try.prog 41 = some true := by kernel_rfl
theorem ty_zr41 : zr? Try.prog 41 = some [.int .i64 0, .slice none 0 0, .slice none 0 0, .int .i64 0, .int .i64 0] := by kernel_rfl
theorem ty_bl41 : bldOk Try.prog 41 = true := by kernel_rfl
theorem ty_fd41_0 : fld? Try.prog 41 0 = some (0, 1, false) := by kernel_rfl
theorem ty_fd41_1 : fld? Try.prog 41 1 = some (1, 1, false) := by kernel_rfl
theorem ty_fd41_2 : fld? Try.prog 41 2 = some (2, 1, false) := by kernel_rfl
theorem ty_fd41_3 : fld? Try.prog 41 3 = some (3, 1, false) := by kernel_rfl
theorem ty_fd41_4 : fld? Try.prog 41 4 = some (4, 1, false) := by kernel_rfl
theorem ty_sz42 : sz? Try.prog 42 = some 5 := by kernel_rfl
theorem ty_ag42 : agg? Try.prog 42 = some true := by kernel_rfl
theorem ty_zr42 : zr? Try.prog 42 = some [.int .i64 0, .slice none 0 0, .slice none 0 0, .int .i64 0, .int .i64 0] := by kernel_rfl
theorem ty_bl42 : bldOk Try.prog 42 = true := by kernel_rfl
theorem ty_fd42_0 : fld? Try.prog 42 0 = some (0, 1, false) := by kernel_rfl
theorem ty_fd42_1 : fld? Try.prog 42 1 = some (1, 1, false) := by kernel_rfl
theorem ty_fd42_2 : fld? Try.prog 42 2 = some (2, 1, false) := by kernel_rfl
theorem ty_fd42_3 : fld? Try.prog 42 3 = some (3, 1, false) := by kernel_rfl
theorem ty_fd42_4 : fld? Try.prog 42 4 = some (4, 1, false) := by kernel_rfl
theorem ty_sz43 : sz? Try.prog 43 = some 2 := by kernel_rfl
theorem ty_ag43 : agg? Try.prog 43 = some true := by kernel_rfl
theorem ty_zr43 : zr? Try.prog 43 = some [.slice none 0 0, .slice none 0 0] := by kernel_rfl
theorem ty_bl43 : bldOk Try.prog 43 = true := by kernel_rfl
theorem ty_fd43_0 : fld? Try.prog 43 0 = some (0, 1, false) := by kernel_rfl
theorem ty_fd43_1 : fld? Try.prog 43 1 = some (1, 1, false) := by kernel_rfl
theorem ty_sz44 : sz? Try.prog 44 = some 2 := by kernel_rfl
theorem ty_ag44 : agg? Try.prog 44 = some true := by kernel_rfl
theorem ty_zr44 : zr? Try.prog 44 = some [.slice none 0 0, .slice none 0 0] := by kernel_rfl
theorem ty_bl44 : bldOk Try.prog 44 = true := by kernel_rfl
theorem ty_fd44_0 : fld? Try.prog 44 0 = some (0, 1, false) := by kernel_rfl
theorem ty_fd44_1 : fld? Try.prog 44 1 = some (1, 1, false) := by kernel_rfl
theorem ty_sz45 : sz? Try.prog 45 = some 14 := by kernel_rfl
theorem ty_ag45 : agg? Try.prog 45 = some true := by kernel_rfl
theorem ty_zr45 : zr? Try.prog 45 = some [.int .i64 0, .int .i64 0, .int .i64 0, .slice none 0 0, .slice none 0 0, .slice none 0 0, .slice none 0 0, .int .i64 0, .slice none 0 0, .slice none 0 0, .int .i64 0, .int .i64 0, .slice none 0 0, .slice none 0 0] := by kernel_rfl
theorem ty_bl45 : bldOk Try.prog 45 = true := by kernel_rfl
theorem ty_fd45_0 : fld? Try.prog 45 0 = some (0, 1, false) := by kernel_rfl
theorem ty_fd45_1 : fld? Try.prog 45 1 = some (1, 1, false) := by kernel_rfl
theorem ty_fd45_2 : fld? Try.prog 45 2 = some (2, 1, false) := by kernel_rfl
theorem ty_fd45_3 : fld? Try.prog 45 3 = some (3, 1, false) := by kernel_rfl
theorem ty_fd45_4 : fld? Try.prog 45 4 = some (4, 1, false) := by kernel_rfl
theorem ty_fd45_5 : fld? Try.prog 45 5 = some (5, 1, false) := by kernel_rfl
theorem ty_fd45_6 : fld? Try.prog 45 6 = some (6, 1, false) := by kernel_rfl
theorem ty_fd45_7 : fld? Try.prog 45 7 = some (7, 5, true) := by kernel_rfl
theorem ty_fd45_8 : fld? Try.prog 45 8 = some (12, 2, true) := by kernel_rfl
theorem ty_sz46 : sz? Try.prog 46 = some 14 := by kernel_rfl
theorem ty_ag46 : agg? Try.prog 46 = some true := by kernel_rfl
theorem ty_zr46 : zr? Try.prog 46 = some [.int .i64 0, .int .i64 0, .int .i64 0, .slice none 0 0, .slice none 0 0, .slice none 0 0, .slice none 0 0, .int .i64 0, .slice none 0 0, .slice none 0 0, .int .i64 0, .int .i64 0, .slice none 0 0, .slice none 0 0] := by kernel_rfl
theorem ty_bl46 : bldOk Try.prog 46 = true := by kernel_rfl
theorem ty_fd46_0 : fld? Try.prog 46 0 = some (0, 1, false) := by kernel_rfl
theorem ty_fd46_1 : fld? Try.prog 46 1 = some (1, 1, false) := by kernel_rfl
theorem ty_fd46_2 : fld? Try.prog 46 2 = some (2, 1, false) := by kernel_rfl
theorem ty_fd46_3 : fld? Try.prog 46 3 = some (3, 1, false) := by kernel_rfl
theorem ty_fd46_4 : fld? Try.prog 46 4 = some (4, 1, false) := by kernel_rfl
theorem ty_fd46_5 : fld? Try.prog 46 5 = some (5, 1, false) := by kernel_rfl
theorem ty_fd46_6 : fld? Try.prog 46 6 = some (6, 1, false) := by kernel_rfl
theorem ty_fd46_7 : fld? Try.prog 46 7 = some (7, 5, true) := by kernel_rfl
theorem ty_fd46_8 : fld? Try.prog 46 8 = some (12, 2, true) := by kernel_rfl
theorem ty_sz47 : sz? Try.prog 47 = some 4 := by kernel_rfl
theorem ty_ag47 : agg? Try.prog 47 = some true := by kernel_rfl
theorem ty_zr47 : zr? Try.prog 47 = some [.int .i64 0, .int .i64 0, .int .i64 0, .slice none 0 0] := by kernel_rfl
theorem ty_bl47 : bldOk Try.prog 47 = true := by kernel_rfl
theorem ty_fd47_0 : fld? Try.prog 47 0 = some (0, 1, false) := by kernel_rfl
theorem ty_fd47_1 : fld? Try.prog 47 1 = some (1, 1, false) := by kernel_rfl
theorem ty_fd47_2 : fld? Try.prog 47 2 = some (2, 1, false) := by kernel_rfl
theorem ty_fd47_3 : fld? Try.prog 47 3 = some (3, 1, false) := by kernel_rfl
theorem ty_sz48 : sz? Try.prog 48 = some 1 := by kernel_rfl
theorem ty_ag48 : agg? Try.prog 48 = some false := by kernel_rfl
theorem ty_cl48 : cls? Try.prog 48 = some .fn := by kernel_rfl
theorem ty_sz49 : sz? Try.prog 49 = some 1 := by kernel_rfl
theorem ty_ag49 : agg? Try.prog 49 = some false := by kernel_rfl
theorem ty_cl49 : cls? Try.prog 49 = some .fn := by kernel_rfl
theorem ty_sz50 : sz? Try.prog 50 = some 1 := by kernel_rfl
theorem ty_ag50 : agg? Try.prog 50 = some false := by kernel_rfl
theorem ty_cl50 : cls? Try.prog 50 = some .fn := by kernel_rfl
theorem ty_sz51 : sz? Try.prog 51 = some 1 := by kernel_rfl
theorem ty_ag51 : agg? Try.prog 51 = some false := by kernel_rfl
theorem ty_zr51 : zr? Try.prog 51 = some [.slice none 0 0] := by kernel_rfl
theorem ty_cl51 : cls? Try.prog 51 = some .sl := by kernel_rfl
theorem ty_el51 : elt? Try.prog 51 = some (150, 2, 16) := by kernel_rfl
theorem ty_sz52 : sz? Try.prog 52 = some 1 := by kernel_rfl
theorem ty_ag52 : agg? Try.prog 52 = some false := by kernel_rfl
theorem ty_zr52 : zr? Try.prog 52 = some [.slice none 0 0] := by kernel_rfl
theorem ty_cl52 : cls? Try.prog 52 = some .sl := by kernel_rfl
theorem ty_el52 : elt? Try.prog 52 = some (154, 32, 480) := by kernel_rfl
theorem ty_sz53 : sz? Try.prog 53 = some 5 := by kernel_rfl
theorem ty_ag53 : agg? Try.prog 53 = some true := by kernel_rfl
theorem ty_zr53 : zr? Try.prog 53 = some [.int .i64 0, .slice none 0 0, .slice none 0 0, .int .i64 0, .int .i64 0] := by kernel_rfl
theorem ty_bl53 : bldOk Try.prog 53 = true := by kernel_rfl
theorem ty_fd53_0 : fld? Try.prog 53 0 = some (0, 1, false) := by kernel_rfl
theorem ty_fd53_1 : fld? Try.prog 53 1 = some (1, 1, false) := by kernel_rfl
theorem ty_fd53_2 : fld? Try.prog 53 2 = some (2, 1, false) := by kernel_rfl
theorem ty_fd53_3 : fld? Try.prog 53 3 = some (3, 1, false) := by kernel_rfl
theorem ty_fd53_4 : fld? Try.prog 53 4 = some (4, 1, false) := by kernel_rfl
theorem ty_sz54 : sz? Try.prog 54 = some 2 := by kernel_rfl
theorem ty_ag54 : agg? Try.prog 54 = some true := by kernel_rfl
theorem ty_zr54 : zr? Try.prog 54 = some [.slice none 0 0, .slice none 0 0] := by kernel_rfl
theorem ty_bl54 : bldOk Try.prog 54 = true := by kernel_rfl
theorem ty_fd54_0 : fld? Try.prog 54 0 = some (0, 1, false) := by kernel_rfl
theorem ty_fd54_1 : fld? Try.prog 54 1 = some (1, 1, false) := by kernel_rfl
theorem ty_sz55 : sz? Try.prog 55 = some 14 := by kernel_rfl
theorem ty_ag55 : agg? Try.prog 55 = some true := by kernel_rfl
theorem ty_zr55 : zr? Try.prog 55 = some [.int .i64 0, .int .i64 0, .int .i64 0, .slice none 0 0, .slice none 0 0, .slice none 0 0, .slice none 0 0, .int .i64 0, .slice none 0 0, .slice none 0 0, .int .i64 0, .int .i64 0, .slice none 0 0, .slice none 0 0] := by kernel_rfl
theorem ty_bl55 : bldOk Try.prog 55 = true := by kernel_rfl
theorem ty_fd55_0 : fld? Try.prog 55 0 = some (0, 1, false) := by kernel_rfl
theorem ty_fd55_1 : fld? Try.prog 55 1 = some (1, 1, false) := by kernel_rfl
theorem ty_fd55_2 : fld? Try.prog 55 2 = some (2, 1, false) := by kernel_rfl
theorem ty_fd55_3 : fld? Try.prog 55 3 = some (3, 1, false) := by kernel_rfl
theorem ty_fd55_4 : fld? Try.prog 55 4 = some (4, 1, false) := by kernel_rfl
theorem ty_fd55_5 : fld? Try.prog 55 5 = some (5, 1, false) := by kernel_rfl
theorem ty_fd55_6 : fld? Try.prog 55 6 = some (6, 1, false) := by kernel_rfl
theorem ty_fd55_7 : fld? Try.prog 55 7 = some (7, 5, true) := by kernel_rfl
theorem ty_fd55_8 : fld? Try.prog 55 8 = some (12, 2, true) := by kernel_rfl
theorem ty_sz56 : sz? Try.prog 56 = some 14 := by kernel_rfl
theorem ty_ag56 : agg? Try.prog 56 = some true := by kernel_rfl
theorem ty_zr56 : zr? Try.prog 56 = some [.int .i64 0, .int .i64 0, .int .i64 0, .slice none 0 0, .slice none 0 0, .slice none 0 0, .slice none 0 0, .int .i64 0, .slice none 0 0, .slice none 0 0, .int .i64 0, .int .i64 0, .slice none 0 0, .slice none 0 0] := by kernel_rfl
theorem ty_bl56 : bldOk Try.prog 56 = true := by kernel_rfl
theorem ty_fd56_0 : fld? Try.prog 56 0 = some (0, 1, false) := by kernel_rfl
theorem ty_fd56_1 : fld? Try.prog 56 1 = some (1, 1, false) := by kernel_rfl
theorem ty_fd56_2 : fld? Try.prog 56 2 = some (2, 1, false) := by kernel_rfl
theorem ty_fd56_3 : fld? Try.prog 56 3 = some (3, 1, false) := by kernel_rfl
theorem ty_fd56_4 : fld? Try.prog 56 4 = some (4, 1, false) := by kernel_rfl
theorem ty_fd56_5 : fld? Try.prog 56 5 = some (5, 1, false) := by kernel_rfl
theorem ty_fd56_6 : fld? Try.prog 56 6 = some (6, 1, false) := by kernel_rfl
theorem ty_fd56_7 : fld? Try.prog 56 7 = some (7, 5, true) := by kernel_rfl
theorem ty_fd56_8 : fld? Try.prog 56 8 = some (12, 2, true) := by kernel_rfl
theorem ty_sz57 : sz? Try.prog 57 = some 1 := by kernel_rfl
theorem ty_ag57 : agg? Try.prog 57 = some false := by kernel_rfl
theorem ty_cl57 : cls? Try.prog 57 = some .fn := by kernel_rfl
theorem ty_sz58 : sz? Try.prog 58 = some 1 := by kernel_rfl
theorem ty_ag58 : agg? Try.prog 58 = some false := by kernel_rfl
theorem ty_cl58 : cls? Try.prog 58 = some .fn := by kernel_rfl
theorem ty_sz59 : sz? Try.prog 59 = some 1 := by kernel_rfl
theorem ty_ag59 : agg? Try.prog 59 = some false := by kernel_rfl
theorem ty_cl59 : cls? Try.prog 59 = some .fn := by kernel_rfl
theorem ty_sz60 : sz? Try.prog 60 = some 1 := by kernel_rfl
theorem ty_ag60 : agg? Try.prog 60 = some false := by kernel_rfl
theorem ty_cl60 : cls? Try.prog 60 = some .fn := by kernel_rfl
theorem ty_sz61 : sz? Try.prog 61 = some 1 := by kernel_rfl
theorem ty_ag61 : agg? Try.prog 61 = some false := by kernel_rfl
theorem ty_cl61 : cls? Try.prog 61 = some .fn := by kernel_rfl
theorem ty_sz62 : sz? Try.prog 62 = some 1 := by kernel_rfl
theorem ty_ag62 : agg? Try.prog 62 = some false := by kernel_rfl
theorem ty_cl62 : cls? Try.prog 62 = some .fn := by kernel_rfl
theorem ty_sz63 : sz? Try.prog 63 = some 1 := by kernel_rfl
theorem ty_ag63 : agg? Try.prog 63 = some false := by kernel_rfl
theorem ty_zr63 : zr? Try.prog 63 = some [.slice none 0 0] := by kernel_rfl
theorem ty_cl63 : cls? Try.prog 63 = some .sl := by kernel_rfl
theorem ty_el63 : elt? Try.prog 63 = some (184, 1, 24) := by kernel_rfl
theorem ty_sz64 : sz? Try.prog 64 = some 2 := by kernel_rfl
theorem ty_ag64 : agg? Try.prog 64 = some true := by kernel_rfl
theorem ty_zr64 : zr? Try.prog 64 = some [.slice none 0 0, .slice none 0 0] := by kernel_rfl
theorem ty_bl64 : bldOk Try.prog 64 = true := by kernel_rfl
theorem ty_fd64_0 : fld? Try.prog 64 0 = some (0, 1, false) := by kernel_rfl
theorem ty_fd64_1 : fld? Try.prog 64 1 = some (1, 1, false) := by kernel_rfl
theorem ty_sz65 : sz? Try.prog 65 = some 2 := by kernel_rfl
theorem ty_ag65 : agg? Try.prog 65 = some true := by kernel_rfl
theorem ty_zr65 : zr? Try.prog 65 = some [.slice none 0 0, .slice none 0 0] := by kernel_rfl
theorem ty_bl65 : bldOk Try.prog 65 = true := by kernel_rfl
theorem ty_fd65_0 : fld? Try.prog 65 0 = some (0, 1, false) := by kernel_rfl
theorem ty_fd65_1 : fld? Try.prog 65 1 = some (1, 1, false) := by kernel_rfl
theorem ty_sz66 : sz? Try.prog 66 = some 1 := by kernel_rfl
theorem ty_ag66 : agg? Try.prog 66 = some false := by kernel_rfl
theorem ty_zr66 : zr? Try.prog 66 = some [.slice none 0 0] := by kernel_rfl
theorem ty_cl66 : cls? Try.prog 66 = some .sl := by kernel_rfl
theorem ty_el66 : elt? Try.prog 66 = some (165, 10, 128) := by kernel_rfl
theorem ty_sz67 : sz? Try.prog 67 = some 17 := by kernel_rfl
theorem ty_ag67 : agg? Try.prog 67 = some true := by kernel_rfl
theorem ty_zr67 : zr? Try.prog 67 = some [.int .i64 0, .int .i64 0, .int .i64 0, .slice none 0 0, .slice none 0 0, .slice none 0 0, .slice none 0 0, .int .i64 0, .slice none 0 0, .slice none 0 0, .int .i64 0, .int .i64 0, .slice none 0 0, .slice none 0 0, .slice none 0 0, .slice none 0 0, .slice none 0 0] := by kernel_rfl
theorem ty_bl67 : bldOk Try.prog 67 = true := by kernel_rfl
theorem ty_fd67_0 : fld? Try.prog 67 0 = some (0, 14, true) := by kernel_rfl
theorem ty_fd67_1 : fld? Try.prog 67 1 = some (14, 2, true) := by kernel_rfl
theorem ty_fd67_2 : fld? Try.prog 67 2 = some (16, 1, false) := by kernel_rfl
theorem ty_sz68 : sz? Try.prog 68 = some 17 := by kernel_rfl
theorem ty_ag68 : agg? Try.prog 68 = some true := by kernel_rfl
theorem ty_zr68 : zr? Try.prog 68 = some [.int .i64 0, .int .i64 0, .int .i64 0, .slice none 0 0, .slice none 0 0, .slice none 0 0, .slice none 0 0, .int .i64 0, .slice none 0 0, .slice none 0 0, .int .i64 0, .int .i64 0, .slice none 0 0, .slice none 0 0, .slice none 0 0, .slice none 0 0, .slice none 0 0] := by kernel_rfl
theorem ty_bl68 : bldOk Try.prog 68 = true := by kernel_rfl
theorem ty_fd68_0 : fld? Try.prog 68 0 = some (0, 14, true) := by kernel_rfl
theorem ty_fd68_1 : fld? Try.prog 68 1 = some (14, 2, true) := by kernel_rfl
theorem ty_fd68_2 : fld? Try.prog 68 2 = some (16, 1, false) := by kernel_rfl
theorem ty_sz69 : sz? Try.prog 69 = some 1 := by kernel_rfl
theorem ty_ag69 : agg? Try.prog 69 = some false := by kernel_rfl
theorem ty_cl69 : cls? Try.prog 69 = some .fn := by kernel_rfl
theorem ty_sz70 : sz? Try.prog 70 = some 1 := by kernel_rfl
theorem ty_ag70 : agg? Try.prog 70 = some false := by kernel_rfl
theorem ty_cl70 : cls? Try.prog 70 = some .fn := by kernel_rfl
theorem ty_sz71 : sz? Try.prog 71 = some 1 := by kernel_rfl
theorem ty_ag71 : agg? Try.prog 71 = some false := by kernel_rfl
theorem ty_zr71 : zr? Try.prog 71 = some [.slice none 0 0] := by kernel_rfl
theorem ty_cl71 : cls? Try.prog 71 = some .sl := by kernel_rfl
theorem ty_el71 : elt? Try.prog 71 = some (186, 1, 24) := by kernel_rfl
theorem ty_sz72 : sz? Try.prog 72 = some 2 := by kernel_rfl
theorem ty_ag72 : agg? Try.prog 72 = some true := by kernel_rfl
theorem ty_zr72 : zr? Try.prog 72 = some [.slice none 0 0, .slice none 0 0] := by kernel_rfl
theorem ty_bl72 : bldOk Try.prog 72 = true := by kernel_rfl
theorem ty_fd72_0 : fld? Try.prog 72 0 = some (0, 1, false) := by kernel_rfl
theorem ty_fd72_1 : fld? Try.prog 72 1 = some (1, 1, false) := by kernel_rfl
theorem ty_sz73 : sz? Try.prog 73 = some 2 := by kernel_rfl
theorem ty_ag73 : agg? Try.prog 73 = some true := by kernel_rfl
theorem ty_zr73 : zr? Try.prog 73 = some [.slice none 0 0, .slice none 0 0] := by kernel_rfl
theorem ty_bl73 : bldOk Try.prog 73 = true := by kernel_rfl
theorem ty_fd73_0 : fld? Try.prog 73 0 = some (0, 1, false) := by kernel_rfl
theorem ty_fd73_1 : fld? Try.prog 73 1 = some (1, 1, false) := by kernel_rfl
theorem ty_sz74 : sz? Try.prog 74 = some 1 := by kernel_rfl
theorem ty_ag74 : agg? Try.prog 74 = some false := by kernel_rfl
theorem ty_zr74 : zr? Try.prog 74 = some [.slice none 0 0] := by kernel_rfl
theorem ty_cl74 : cls? Try.prog 74 = some .sl := by kernel_rfl
theorem ty_el74 : elt? Try.prog 74 = some (169, 10, 128) := by kernel_rfl
theorem ty_sz75 : sz? Try.prog 75 = some 17 := by kernel_rfl
theorem ty_ag75 : agg? Try.prog 75 = some true := by kernel_rfl
theorem ty_zr75 : zr? Try.prog 75 = some [.int .i64 0, .int .i64 0, .int .i64 0, .slice none 0 0, .slice none 0 0, .slice none 0 0, .slice none 0 0, .int .i64 0, .slice none 0 0, .slice none 0 0, .int .i64 0, .int .i64 0, .slice none 0 0, .slice none 0 0, .slice none 0 0, .slice none 0 0, .slice none 0 0] := by kernel_rfl
theorem ty_bl75 : bldOk Try.prog 75 = true := by kernel_rfl
theorem ty_fd75_0 : fld? Try.prog 75 0 = some (0, 14, true) := by kernel_rfl
theorem ty_fd75_1 : fld? Try.prog 75 1 = some (14, 2, true) := by kernel_rfl
theorem ty_fd75_2 : fld? Try.prog 75 2 = some (16, 1, false) := by kernel_rfl
theorem ty_sz76 : sz? Try.prog 76 = some 17 := by kernel_rfl
theorem ty_ag76 : agg? Try.prog 76 = some true := by kernel_rfl
theorem ty_zr76 : zr? Try.prog 76 = some [.int .i64 0, .int .i64 0, .int .i64 0, .slice none 0 0, .slice none 0 0, .slice none 0 0, .slice none 0 0, .int .i64 0, .slice none 0 0, .slice none 0 0, .int .i64 0, .int .i64 0, .slice none 0 0, .slice none 0 0, .slice none 0 0, .slice none 0 0, .slice none 0 0] := by kernel_rfl
theorem ty_bl76 : bldOk Try.prog 76 = true := by kernel_rfl
theorem ty_fd76_0 : fld? Try.prog 76 0 = some (0, 14, true) := by kernel_rfl
theorem ty_fd76_1 : fld? Try.prog 76 1 = some (14, 2, true) := by kernel_rfl
theorem ty_fd76_2 : fld? Try.prog 76 2 = some (16, 1, false) := by kernel_rfl
theorem ty_sz77 : sz? Try.prog 77 = some 1 := by kernel_rfl
theorem ty_ag77 : agg? Try.prog 77 = some false := by kernel_rfl
theorem ty_cl77 : cls? Try.prog 77 = some .fn := by kernel_rfl
theorem ty_sz78 : sz? Try.prog 78 = some 1 := by kernel_rfl
theorem ty_ag78 : agg? Try.prog 78 = some false := by kernel_rfl
theorem ty_cl78 : cls? Try.prog 78 = some .fn := by kernel_rfl
theorem ty_sz79 : sz? Try.prog 79 = some 1 := by kernel_rfl
theorem ty_ag79 : agg? Try.prog 79 = some false := by kernel_rfl
theorem ty_cl79 : cls? Try.prog 79 = some .fn := by kernel_rfl
theorem ty_sz80 : sz? Try.prog 80 = some 1 := by kernel_rfl
theorem ty_ag80 : agg? Try.prog 80 = some false := by kernel_rfl
theorem ty_cl80 : cls? Try.prog 80 = some .fn := by kernel_rfl
theorem ty_sz81 : sz? Try.prog 81 = some 1 := by kernel_rfl
theorem ty_ag81 : agg? Try.prog 81 = some false := by kernel_rfl
theorem ty_zr81 : zr? Try.prog 81 = some [.pointer none] := by kernel_rfl
theorem ty_cl81 : cls? Try.prog 81 = some .ptr := by kernel_rfl
theorem ty_sz82 : sz? Try.prog 82 = some 1 := by kernel_rfl
theorem ty_ag82 : agg? Try.prog 82 = some false := by kernel_rfl
theorem ty_cl82 : cls? Try.prog 82 = some .fn := by kernel_rfl
theorem ty_sz83 : sz? Try.prog 83 = some 1 := by kernel_rfl
theorem ty_ag83 : agg? Try.prog 83 = some false := by kernel_rfl
theorem ty_cl83 : cls? Try.prog 83 = some .fn := by kernel_rfl
theorem ty_sz84 : sz? Try.prog 84 = some 1 := by kernel_rfl
theorem ty_ag84 : agg? Try.prog 84 = some false := by kernel_rfl
theorem ty_cl84 : cls? Try.prog 84 = some .fn := by kernel_rfl
theorem ty_sz85 : sz? Try.prog 85 = some 1 := by kernel_rfl
theorem ty_ag85 : agg? Try.prog 85 = some false := by kernel_rfl
theorem ty_cl85 : cls? Try.prog 85 = some .fn := by kernel_rfl
theorem ty_sz86 : sz? Try.prog 86 = some 1 := by kernel_rfl
theorem ty_ag86 : agg? Try.prog 86 = some false := by kernel_rfl
theorem ty_cl86 : cls? Try.prog 86 = some .fn := by kernel_rfl
theorem ty_sz87 : sz? Try.prog 87 = some 1 := by kernel_rfl
theorem ty_ag87 : agg? Try.prog 87 = some false := by kernel_rfl
theorem ty_cl87 : cls? Try.prog 87 = some .fn := by kernel_rfl
theorem ty_sz88 : sz? Try.prog 88 = some 1 := by kernel_rfl
theorem ty_ag88 : agg? Try.prog 88 = some false := by kernel_rfl
theorem ty_cl88 : cls? Try.prog 88 = some .fn := by kernel_rfl
theorem ty_sz89 : sz? Try.prog 89 = some 1 := by kernel_rfl
theorem ty_ag89 : agg? Try.prog 89 = some false := by kernel_rfl
theorem ty_zr89 : zr? Try.prog 89 = some [.pointer none] := by kernel_rfl
theorem ty_cl89 : cls? Try.prog 89 = some .ptr := by kernel_rfl
theorem ty_sz90 : sz? Try.prog 90 = some 3 := by kernel_rfl
theorem ty_ag90 : agg? Try.prog 90 = some true := by kernel_rfl
theorem ty_zr90 : zr? Try.prog 90 = some [.string ⟨#[]⟩, .int .i64 0, .bool false] := by kernel_rfl
theorem ty_bl90 : bldOk Try.prog 90 = true := by kernel_rfl
theorem ty_fd90_0 : fld? Try.prog 90 0 = some (0, 1, false) := by kernel_rfl
theorem ty_fd90_1 : fld? Try.prog 90 1 = some (1, 1, false) := by kernel_rfl
theorem ty_fd90_2 : fld? Try.prog 90 2 = some (2, 1, false) := by kernel_rfl
theorem ty_sz91 : sz? Try.prog 91 = some 3 := by kernel_rfl
theorem ty_ag91 : agg? Try.prog 91 = some true := by kernel_rfl
theorem ty_zr91 : zr? Try.prog 91 = some [.string ⟨#[]⟩, .int .i64 0, .bool false] := by kernel_rfl
theorem ty_bl91 : bldOk Try.prog 91 = true := by kernel_rfl
theorem ty_fd91_0 : fld? Try.prog 91 0 = some (0, 1, false) := by kernel_rfl
theorem ty_fd91_1 : fld? Try.prog 91 1 = some (1, 1, false) := by kernel_rfl
theorem ty_fd91_2 : fld? Try.prog 91 2 = some (2, 1, false) := by kernel_rfl
theorem ty_sz92 : sz? Try.prog 92 = some 1 := by kernel_rfl
theorem ty_ag92 : agg? Try.prog 92 = some false := by kernel_rfl
theorem ty_cl92 : cls? Try.prog 92 = some .fn := by kernel_rfl
theorem ty_sz93 : sz? Try.prog 93 = some 1 := by kernel_rfl
theorem ty_ag93 : agg? Try.prog 93 = some false := by kernel_rfl
theorem ty_cl93 : cls? Try.prog 93 = some .fn := by kernel_rfl
theorem ty_sz94 : sz? Try.prog 94 = some 1 := by kernel_rfl
theorem ty_ag94 : agg? Try.prog 94 = some false := by kernel_rfl
theorem ty_cl94 : cls? Try.prog 94 = some .fn := by kernel_rfl
theorem ty_sz95 : sz? Try.prog 95 = some 1 := by kernel_rfl
theorem ty_ag95 : agg? Try.prog 95 = some false := by kernel_rfl
theorem ty_zr95 : zr? Try.prog 95 = some [.pointer none] := by kernel_rfl
theorem ty_cl95 : cls? Try.prog 95 = some .ptr := by kernel_rfl
theorem ty_sz96 : sz? Try.prog 96 = some 3 := by kernel_rfl
theorem ty_ag96 : agg? Try.prog 96 = some true := by kernel_rfl
theorem ty_zr96 : zr? Try.prog 96 = some [.string ⟨#[]⟩, .int .i64 0, .bool false] := by kernel_rfl
theorem ty_bl96 : bldOk Try.prog 96 = true := by kernel_rfl
theorem ty_fd96_0 : fld? Try.prog 96 0 = some (0, 1, false) := by kernel_rfl
theorem ty_fd96_1 : fld? Try.prog 96 1 = some (1, 1, false) := by kernel_rfl
theorem ty_fd96_2 : fld? Try.prog 96 2 = some (2, 1, false) := by kernel_rfl
theorem ty_sz97 : sz? Try.prog 97 = some 3 := by kernel_rfl
theorem ty_ag97 : agg? Try.prog 97 = some true := by kernel_rfl
theorem ty_zr97 : zr? Try.prog 97 = some [.string ⟨#[]⟩, .int .i64 0, .bool false] := by kernel_rfl
theorem ty_bl97 : bldOk Try.prog 97 = true := by kernel_rfl
theorem ty_fd97_0 : fld? Try.prog 97 0 = some (0, 1, false) := by kernel_rfl
theorem ty_fd97_1 : fld? Try.prog 97 1 = some (1, 1, false) := by kernel_rfl
theorem ty_fd97_2 : fld? Try.prog 97 2 = some (2, 1, false) := by kernel_rfl
theorem ty_sz98 : sz? Try.prog 98 = some 1 := by kernel_rfl
theorem ty_ag98 : agg? Try.prog 98 = some false := by kernel_rfl
theorem ty_cl98 : cls? Try.prog 98 = some .fn := by kernel_rfl
theorem ty_sz99 : sz? Try.prog 99 = some 1 := by kernel_rfl
theorem ty_ag99 : agg? Try.prog 99 = some false := by kernel_rfl
theorem ty_cl99 : cls? Try.prog 99 = some .fn := by kernel_rfl
theorem ty_sz100 : sz? Try.prog 100 = some 1 := by kernel_rfl
theorem ty_ag100 : agg? Try.prog 100 = some false := by kernel_rfl
theorem ty_cl100 : cls? Try.prog 100 = some .fn := by kernel_rfl
theorem ty_sz101 : sz? Try.prog 101 = some 1 := by kernel_rfl
theorem ty_ag101 : agg? Try.prog 101 = some false := by kernel_rfl
theorem ty_cl101 : cls? Try.prog 101 = some .fn := by kernel_rfl
theorem ty_sz102 : sz? Try.prog 102 = some 1 := by kernel_rfl
theorem ty_ag102 : agg? Try.prog 102 = some false := by kernel_rfl
theorem ty_cl102 : cls? Try.prog 102 = some .fn := by kernel_rfl
theorem ty_sz103 : sz? Try.prog 103 = some 1 := by kernel_rfl
theorem ty_ag103 : agg? Try.prog 103 = some false := by kernel_rfl
theorem ty_cl103 : cls? Try.prog 103 = some .fn := by kernel_rfl
theorem ty_sz104 : sz? Try.prog 104 = some 1 := by kernel_rfl
theorem ty_ag104 : agg? Try.prog 104 = some false := by kernel_rfl
theorem ty_cl104 : cls? Try.prog 104 = some .fn := by kernel_rfl
theorem ty_sz105 : sz? Try.prog 105 = some 1 := by kernel_rfl
theorem ty_ag105 : agg? Try.prog 105 = some false := by kernel_rfl
theorem ty_cl105 : cls? Try.prog 105 = some .fn := by kernel_rfl
theorem ty_sz106 : sz? Try.prog 106 = some 1 := by kernel_rfl
theorem ty_ag106 : agg? Try.prog 106 = some false := by kernel_rfl
theorem ty_cl106 : cls? Try.prog 106 = some .fn := by kernel_rfl
theorem ty_sz107 : sz? Try.prog 107 = some 1 := by kernel_rfl
theorem ty_ag107 : agg? Try.prog 107 = some false := by kernel_rfl
theorem ty_cl107 : cls? Try.prog 107 = some .fn := by kernel_rfl
theorem ty_sz108 : sz? Try.prog 108 = some 1 := by kernel_rfl
theorem ty_ag108 : agg? Try.prog 108 = some false := by kernel_rfl
theorem ty_cl108 : cls? Try.prog 108 = some .fn := by kernel_rfl
theorem ty_sz109 : sz? Try.prog 109 = some 1 := by kernel_rfl
theorem ty_ag109 : agg? Try.prog 109 = some false := by kernel_rfl
theorem ty_cl109 : cls? Try.prog 109 = some .fn := by kernel_rfl
theorem ty_sz110 : sz? Try.prog 110 = some 1 := by kernel_rfl
theorem ty_ag110 : agg? Try.prog 110 = some false := by kernel_rfl
theorem ty_cl110 : cls? Try.prog 110 = some .fn := by kernel_rfl
theorem ty_sz111 : sz? Try.prog 111 = some 1 := by kernel_rfl
theorem ty_ag111 : agg? Try.prog 111 = some false := by kernel_rfl
theorem ty_cl111 : cls? Try.prog 111 = some .fn := by kernel_rfl
theorem ty_sz112 : sz? Try.prog 112 = some 1 := by kernel_rfl
theorem ty_ag112 : agg? Try.prog 112 = some false := by kernel_rfl
theorem ty_cl112 : cls? Try.prog 112 = some .fn := by kernel_rfl
theorem ty_sz113 : sz? Try.prog 113 = some 1 := by kernel_rfl
theorem ty_ag113 : agg? Try.prog 113 = some false := by kernel_rfl
theorem ty_cl113 : cls? Try.prog 113 = some .fn := by kernel_rfl
theorem ty_sz114 : sz? Try.prog 114 = some 1 := by kernel_rfl
theorem ty_ag114 : agg? Try.prog 114 = some false := by kernel_rfl
theorem ty_cl114 : cls? Try.prog 114 = some .fn := by kernel_rfl
theorem ty_sz115 : sz? Try.prog 115 = some 1 := by kernel_rfl
theorem ty_ag115 : agg? Try.prog 115 = some false := by kernel_rfl
theorem ty_cl115 : cls? Try.prog 115 = some .fn := by kernel_rfl
theorem ty_sz116 : sz? Try.prog 116 = some 1 := by kernel_rfl
theorem ty_ag116 : agg? Try.prog 116 = some false := by kernel_rfl
theorem ty_cl116 : cls? Try.prog 116 = some .fn := by kernel_rfl
theorem ty_sz117 : sz? Try.prog 117 = some 1 := by kernel_rfl
theorem ty_ag117 : agg? Try.prog 117 = some false := by kernel_rfl
theorem ty_cl117 : cls? Try.prog 117 = some .fn := by kernel_rfl
theorem ty_sz118 : sz? Try.prog 118 = some 1 := by kernel_rfl
theorem ty_ag118 : agg? Try.prog 118 = some false := by kernel_rfl
theorem ty_cl118 : cls? Try.prog 118 = some .fn := by kernel_rfl
theorem ty_sz119 : sz? Try.prog 119 = some 1 := by kernel_rfl
theorem ty_ag119 : agg? Try.prog 119 = some false := by kernel_rfl
theorem ty_cl119 : cls? Try.prog 119 = some .fn := by kernel_rfl
theorem ty_sz120 : sz? Try.prog 120 = some 1 := by kernel_rfl
theorem ty_ag120 : agg? Try.prog 120 = some false := by kernel_rfl
theorem ty_cl120 : cls? Try.prog 120 = some .fn := by kernel_rfl
theorem ty_sz121 : sz? Try.prog 121 = some 1 := by kernel_rfl
theorem ty_ag121 : agg? Try.prog 121 = some false := by kernel_rfl
theorem ty_cl121 : cls? Try.prog 121 = some .fn := by kernel_rfl
theorem ty_sz122 : sz? Try.prog 122 = some 1 := by kernel_rfl
theorem ty_ag122 : agg? Try.prog 122 = some false := by kernel_rfl
theorem ty_cl122 : cls? Try.prog 122 = some .fn := by kernel_rfl
theorem ty_sz123 : sz? Try.prog 123 = some 1 := by kernel_rfl
theorem ty_ag123 : agg? Try.prog 123 = some false := by kernel_rfl
theorem ty_cl123 : cls? Try.prog 123 = some .fn := by kernel_rfl
theorem ty_sz124 : sz? Try.prog 124 = some 1 := by kernel_rfl
theorem ty_ag124 : agg? Try.prog 124 = some false := by kernel_rfl
theorem ty_cl124 : cls? Try.prog 124 = some .fn := by kernel_rfl
theorem ty_sz125 : sz? Try.prog 125 = some 1 := by kernel_rfl
theorem ty_ag125 : agg? Try.prog 125 = some false := by kernel_rfl
theorem ty_cl125 : cls? Try.prog 125 = some .fn := by kernel_rfl
theorem ty_sz126 : sz? Try.prog 126 = some 1 := by kernel_rfl
theorem ty_ag126 : agg? Try.prog 126 = some false := by kernel_rfl
theorem ty_cl126 : cls? Try.prog 126 = some .fn := by kernel_rfl
theorem ty_sz127 : sz? Try.prog 127 = some 1 := by kernel_rfl
theorem ty_ag127 : agg? Try.prog 127 = some false := by kernel_rfl
theorem ty_cl127 : cls? Try.prog 127 = some .fn := by kernel_rfl
theorem ty_sz128 : sz? Try.prog 128 = some 1 := by kernel_rfl
theorem ty_ag128 : agg? Try.prog 128 = some false := by kernel_rfl
theorem ty_cl128 : cls? Try.prog 128 = some .fn := by kernel_rfl
theorem ty_sz129 : sz? Try.prog 129 = some 1 := by kernel_rfl
theorem ty_ag129 : agg? Try.prog 129 = some false := by kernel_rfl
theorem ty_cl129 : cls? Try.prog 129 = some .fn := by kernel_rfl
theorem ty_sz130 : sz? Try.prog 130 = some 1 := by kernel_rfl
theorem ty_ag130 : agg? Try.prog 130 = some false := by kernel_rfl
theorem ty_cl130 : cls? Try.prog 130 = some .fn := by kernel_rfl
theorem ty_sz131 : sz? Try.prog 131 = some 1 := by kernel_rfl
theorem ty_ag131 : agg? Try.prog 131 = some false := by kernel_rfl
theorem ty_cl131 : cls? Try.prog 131 = some .fn := by kernel_rfl
theorem ty_sz132 : sz? Try.prog 132 = some 1 := by kernel_rfl
theorem ty_ag132 : agg? Try.prog 132 = some false := by kernel_rfl
theorem ty_cl132 : cls? Try.prog 132 = some .fn := by kernel_rfl
theorem ty_sz133 : sz? Try.prog 133 = some 1 := by kernel_rfl
theorem ty_ag133 : agg? Try.prog 133 = some false := by kernel_rfl
theorem ty_cl133 : cls? Try.prog 133 = some .fn := by kernel_rfl
theorem ty_sz134 : sz? Try.prog 134 = some 1 := by kernel_rfl
theorem ty_ag134 : agg? Try.prog 134 = some false := by kernel_rfl
theorem ty_cl134 : cls? Try.prog 134 = some .fn := by kernel_rfl
theorem ty_sz135 : sz? Try.prog 135 = some 3 := by kernel_rfl
theorem ty_ag135 : agg? Try.prog 135 = some true := by kernel_rfl
theorem ty_zr135 : zr? Try.prog 135 = some [.slice none 0 0, .int .i64 0, .int .i64 0] := by kernel_rfl
theorem ty_bl135 : bldOk Try.prog 135 = true := by kernel_rfl
theorem ty_fd135_0 : fld? Try.prog 135 0 = some (0, 1, false) := by kernel_rfl
theorem ty_fd135_1 : fld? Try.prog 135 1 = some (1, 1, false) := by kernel_rfl
theorem ty_fd135_2 : fld? Try.prog 135 2 = some (2, 1, false) := by kernel_rfl
theorem ty_sz136 : sz? Try.prog 136 = some 3 := by kernel_rfl
theorem ty_ag136 : agg? Try.prog 136 = some true := by kernel_rfl
theorem ty_zr136 : zr? Try.prog 136 = some [.slice none 0 0, .int .i64 0, .int .i64 0] := by kernel_rfl
theorem ty_bl136 : bldOk Try.prog 136 = true := by kernel_rfl
theorem ty_fd136_0 : fld? Try.prog 136 0 = some (0, 1, false) := by kernel_rfl
theorem ty_fd136_1 : fld? Try.prog 136 1 = some (1, 1, false) := by kernel_rfl
theorem ty_fd136_2 : fld? Try.prog 136 2 = some (2, 1, false) := by kernel_rfl
theorem ty_sz137 : sz? Try.prog 137 = some 1 := by kernel_rfl
theorem ty_ag137 : agg? Try.prog 137 = some false := by kernel_rfl
theorem ty_cl137 : cls? Try.prog 137 = some .fn := by kernel_rfl
theorem ty_sz138 : sz? Try.prog 138 = some 1 := by kernel_rfl
theorem ty_ag138 : agg? Try.prog 138 = some false := by kernel_rfl
theorem ty_zr138 : zr? Try.prog 138 = some [.int .u64 0] := by kernel_rfl
theorem ty_cl138 : cls? Try.prog 138 = some (.int .u64) := by kernel_rfl
theorem ty_sz139 : sz? Try.prog 139 = some 1 := by kernel_rfl
theorem ty_ag139 : agg? Try.prog 139 = some false := by kernel_rfl
theorem ty_cl139 : cls? Try.prog 139 = some .fn := by kernel_rfl
theorem ty_sz141 : sz? Try.prog 141 = some 1 := by kernel_rfl
theorem ty_ag141 : agg? Try.prog 141 = some false := by kernel_rfl
theorem ty_cl141 : cls? Try.prog 141 = some .fn := by kernel_rfl
theorem ty_sz143 : sz? Try.prog 143 = some 1 := by kernel_rfl
theorem ty_ag143 : agg? Try.prog 143 = some false := by kernel_rfl
theorem ty_cl143 : cls? Try.prog 143 = some .fn := by kernel_rfl
theorem ty_sz144 : sz? Try.prog 144 = some 1 := by kernel_rfl
theorem ty_ag144 : agg? Try.prog 144 = some false := by kernel_rfl
theorem ty_cl144 : cls? Try.prog 144 = some .fn := by kernel_rfl
theorem ty_sz145 : sz? Try.prog 145 = some 32 := by kernel_rfl
theorem ty_ag145 : agg? Try.prog 145 = some true := by kernel_rfl
theorem ty_zr145 : zr? Try.prog 145 = some [.slice none 0 0, .int .i64 0, .slice none 0 0, .slice none 0 0, .int .i64 0, .int .i64 0, .int .i64 0, .slice none 0 0, .slice none 0 0, .int .i64 0, .int .i64 0, .int .i64 0, .slice none 0 0, .slice none 0 0, .int .i64 0, .int .i64 0, .int .i64 0, .slice none 0 0, .slice none 0 0, .int .i64 0, .int .i64 0, .slice none 0 0, .int .i64 0, .slice none 0 0, .slice none 0 0, .int .i64 0, .int .i64 0, .int .i64 0, .slice none 0 0, .slice none 0 0, .int .i64 0, .int .i64 0] := by kernel_rfl
theorem ty_bl145 : bldOk Try.prog 145 = true := by kernel_rfl
theorem ty_fd145_0 : fld? Try.prog 145 0 = some (0, 1, false) := by kernel_rfl
theorem ty_fd145_1 : fld? Try.prog 145 1 = some (1, 5, true) := by kernel_rfl
theorem ty_fd145_2 : fld? Try.prog 145 2 = some (6, 5, true) := by kernel_rfl
theorem ty_fd145_3 : fld? Try.prog 145 3 = some (11, 5, true) := by kernel_rfl
theorem ty_fd145_4 : fld? Try.prog 145 4 = some (16, 5, true) := by kernel_rfl
theorem ty_fd145_5 : fld? Try.prog 145 5 = some (21, 1, false) := by kernel_rfl
theorem ty_fd145_6 : fld? Try.prog 145 6 = some (22, 5, true) := by kernel_rfl
theorem ty_fd145_7 : fld? Try.prog 145 7 = some (27, 5, true) := by kernel_rfl
theorem ty_sz146 : sz? Try.prog 146 = some 32 := by kernel_rfl
theorem ty_ag146 : agg? Try.prog 146 = some true := by kernel_rfl
theorem ty_zr146 : zr? Try.prog 146 = some [.slice none 0 0, .int .i64 0, .slice none 0 0, .slice none 0 0, .int .i64 0, .int .i64 0, .int .i64 0, .slice none 0 0, .slice none 0 0, .int .i64 0, .int .i64 0, .int .i64 0, .slice none 0 0, .slice none 0 0, .int .i64 0, .int .i64 0, .int .i64 0, .slice none 0 0, .slice none 0 0, .int .i64 0, .int .i64 0, .slice none 0 0, .int .i64 0, .slice none 0 0, .slice none 0 0, .int .i64 0, .int .i64 0, .int .i64 0, .slice none 0 0, .slice none 0 0, .int .i64 0, .int .i64 0] := by kernel_rfl
theorem ty_bl146 : bldOk Try.prog 146 = true := by kernel_rfl
theorem ty_fd146_0 : fld? Try.prog 146 0 = some (0, 1, false) := by kernel_rfl
theorem ty_fd146_1 : fld? Try.prog 146 1 = some (1, 5, true) := by kernel_rfl
theorem ty_fd146_2 : fld? Try.prog 146 2 = some (6, 5, true) := by kernel_rfl
theorem ty_fd146_3 : fld? Try.prog 146 3 = some (11, 5, true) := by kernel_rfl
theorem ty_fd146_4 : fld? Try.prog 146 4 = some (16, 5, true) := by kernel_rfl
theorem ty_fd146_5 : fld? Try.prog 146 5 = some (21, 1, false) := by kernel_rfl
theorem ty_fd146_6 : fld? Try.prog 146 6 = some (22, 5, true) := by kernel_rfl
theorem ty_fd146_7 : fld? Try.prog 146 7 = some (27, 5, true) := by kernel_rfl
theorem ty_sz147 : sz? Try.prog 147 = some 1 := by kernel_rfl
theorem ty_ag147 : agg? Try.prog 147 = some false := by kernel_rfl
theorem ty_cl147 : cls? Try.prog 147 = some .fn := by kernel_rfl
theorem ty_sz148 : sz? Try.prog 148 = some 1 := by kernel_rfl
theorem ty_ag148 : agg? Try.prog 148 = some false := by kernel_rfl
theorem ty_cl148 : cls? Try.prog 148 = some .fn := by kernel_rfl
theorem ty_sz149 : sz? Try.prog 149 = some 2 := by kernel_rfl
theorem ty_ag149 : agg? Try.prog 149 = some true := by kernel_rfl
theorem ty_zr149 : zr? Try.prog 149 = some [.int .i64 0, .int .i64 0] := by kernel_rfl
theorem ty_bl149 : bldOk Try.prog 149 = true := by kernel_rfl
theorem ty_fd149_0 : fld? Try.prog 149 0 = some (0, 1, false) := by kernel_rfl
theorem ty_fd149_1 : fld? Try.prog 149 1 = some (1, 1, false) := by kernel_rfl
theorem ty_sz150 : sz? Try.prog 150 = some 2 := by kernel_rfl
theorem ty_ag150 : agg? Try.prog 150 = some true := by kernel_rfl
theorem ty_zr150 : zr? Try.prog 150 = some [.int .i64 0, .int .i64 0] := by kernel_rfl
theorem ty_bl150 : bldOk Try.prog 150 = true := by kernel_rfl
theorem ty_fd150_0 : fld? Try.prog 150 0 = some (0, 1, false) := by kernel_rfl
theorem ty_fd150_1 : fld? Try.prog 150 1 = some (1, 1, false) := by kernel_rfl
theorem ty_sz151 : sz? Try.prog 151 = some 1 := by kernel_rfl
theorem ty_ag151 : agg? Try.prog 151 = some false := by kernel_rfl
theorem ty_cl151 : cls? Try.prog 151 = some .fn := by kernel_rfl
theorem ty_sz152 : sz? Try.prog 152 = some 2 := by kernel_rfl
theorem ty_ag152 : agg? Try.prog 152 = some true := by kernel_rfl
theorem ty_zr152 : zr? Try.prog 152 = some [.int .i64 0, .int .i64 0] := by kernel_rfl
theorem ty_bl152 : bldOk Try.prog 152 = true := by kernel_rfl
theorem ty_fd152_0 : fld? Try.prog 152 0 = some (0, 1, false) := by kernel_rfl
theorem ty_fd152_1 : fld? Try.prog 152 1 = some (1, 1, false) := by kernel_rfl
theorem ty_sz153 : sz? Try.prog 153 = some 32 := by kernel_rfl
theorem ty_ag153 : agg? Try.prog 153 = some true := by kernel_rfl
theorem ty_zr153 : zr? Try.prog 153 = some [.slice none 0 0, .int .i64 0, .slice none 0 0, .slice none 0 0, .int .i64 0, .int .i64 0, .int .i64 0, .slice none 0 0, .slice none 0 0, .int .i64 0, .int .i64 0, .int .i64 0, .slice none 0 0, .slice none 0 0, .int .i64 0, .int .i64 0, .int .i64 0, .slice none 0 0, .slice none 0 0, .int .i64 0, .int .i64 0, .slice none 0 0, .int .i64 0, .slice none 0 0, .slice none 0 0, .int .i64 0, .int .i64 0, .int .i64 0, .slice none 0 0, .slice none 0 0, .int .i64 0, .int .i64 0] := by kernel_rfl
theorem ty_bl153 : bldOk Try.prog 153 = true := by kernel_rfl
theorem ty_fd153_0 : fld? Try.prog 153 0 = some (0, 1, false) := by kernel_rfl
theorem ty_fd153_1 : fld? Try.prog 153 1 = some (1, 5, true) := by kernel_rfl
theorem ty_fd153_2 : fld? Try.prog 153 2 = some (6, 5, true) := by kernel_rfl
theorem ty_fd153_3 : fld? Try.prog 153 3 = some (11, 5, true) := by kernel_rfl
theorem ty_fd153_4 : fld? Try.prog 153 4 = some (16, 5, true) := by kernel_rfl
theorem ty_fd153_5 : fld? Try.prog 153 5 = some (21, 1, false) := by kernel_rfl
theorem ty_fd153_6 : fld? Try.prog 153 6 = some (22, 5, true) := by kernel_rfl
theorem ty_fd153_7 : fld? Try.prog 153 7 = some (27, 5, true) := by kernel_rfl
theorem ty_sz154 : sz? Try.prog 154 = some 32 := by kernel_rfl
theorem ty_ag154 : agg? Try.prog 154 = some true := by kernel_rfl
theorem ty_zr154 : zr? Try.prog 154 = some [.slice none 0 0, .int .i64 0, .slice none 0 0, .slice none 0 0, .int .i64 0, .int .i64 0, .int .i64 0, .slice none 0 0, .slice none 0 0, .int .i64 0, .int .i64 0, .int .i64 0, .slice none 0 0, .slice none 0 0, .int .i64 0, .int .i64 0, .int .i64 0, .slice none 0 0, .slice none 0 0, .int .i64 0, .int .i64 0, .slice none 0 0, .int .i64 0, .slice none 0 0, .slice none 0 0, .int .i64 0, .int .i64 0, .int .i64 0, .slice none 0 0, .slice none 0 0, .int .i64 0, .int .i64 0] := by kernel_rfl
theorem ty_bl154 : bldOk Try.prog 154 = true := by kernel_rfl
theorem ty_fd154_0 : fld? Try.prog 154 0 = some (0, 1, false) := by kernel_rfl
theorem ty_fd154_1 : fld? Try.prog 154 1 = some (1, 5, true) := by kernel_rfl
theorem ty_fd154_2 : fld? Try.prog 154 2 = some (6, 5, true) := by kernel_rfl
theorem ty_fd154_3 : fld? Try.prog 154 3 = some (11, 5, true) := by kernel_rfl
theorem ty_fd154_4 : fld? Try.prog 154 4 = some (16, 5, true) := by kernel_rfl
theorem ty_fd154_5 : fld? Try.prog 154 5 = some (21, 1, false) := by kernel_rfl
theorem ty_fd154_6 : fld? Try.prog 154 6 = some (22, 5, true) := by kernel_rfl
theorem ty_fd154_7 : fld? Try.prog 154 7 = some (27, 5, true) := by kernel_rfl
theorem ty_sz155 : sz? Try.prog 155 = some 1 := by kernel_rfl
theorem ty_ag155 : agg? Try.prog 155 = some false := by kernel_rfl
theorem ty_cl155 : cls? Try.prog 155 = some .fn := by kernel_rfl
theorem ty_sz156 : sz? Try.prog 156 = some 1 := by kernel_rfl
theorem ty_ag156 : agg? Try.prog 156 = some false := by kernel_rfl
theorem ty_cl156 : cls? Try.prog 156 = some .fn := by kernel_rfl
theorem ty_sz157 : sz? Try.prog 157 = some 1 := by kernel_rfl
theorem ty_ag157 : agg? Try.prog 157 = some false := by kernel_rfl
theorem ty_cl157 : cls? Try.prog 157 = some .fn := by kernel_rfl
theorem ty_sz158 : sz? Try.prog 158 = some 1 := by kernel_rfl
theorem ty_ag158 : agg? Try.prog 158 = some false := by kernel_rfl
theorem ty_cl158 : cls? Try.prog 158 = some .fn := by kernel_rfl
theorem ty_sz159 : sz? Try.prog 159 = some 1 := by kernel_rfl
theorem ty_ag159 : agg? Try.prog 159 = some false := by kernel_rfl
theorem ty_cl159 : cls? Try.prog 159 = some .fn := by kernel_rfl
theorem ty_sz160 : sz? Try.prog 160 = some 1 := by kernel_rfl
theorem ty_ag160 : agg? Try.prog 160 = some false := by kernel_rfl
theorem ty_cl160 : cls? Try.prog 160 = some .fn := by kernel_rfl
theorem ty_sz161 : sz? Try.prog 161 = some 1 := by kernel_rfl
theorem ty_ag161 : agg? Try.prog 161 = some false := by kernel_rfl
theorem ty_zr161 : zr? Try.prog 161 = some [.int .u64 0] := by kernel_rfl
theorem ty_cl161 : cls? Try.prog 161 = some (.int .u64) := by kernel_rfl
theorem ty_sz162 : sz? Try.prog 162 = some 2 := by kernel_rfl
theorem ty_ag162 : agg? Try.prog 162 = some true := by kernel_rfl
theorem ty_zr162 : zr? Try.prog 162 = some [.slice none 0 0, .int .i64 0] := by kernel_rfl
theorem ty_bl162 : bldOk Try.prog 162 = true := by kernel_rfl
theorem ty_fd162_0 : fld? Try.prog 162 0 = some (0, 1, false) := by kernel_rfl
theorem ty_fd162_1 : fld? Try.prog 162 1 = some (1, 1, false) := by kernel_rfl
theorem ty_sz163 : sz? Try.prog 163 = some 2 := by kernel_rfl
theorem ty_ag163 : agg? Try.prog 163 = some true := by kernel_rfl
theorem ty_zr163 : zr? Try.prog 163 = some [.slice none 0 0, .int .i64 0] := by kernel_rfl
theorem ty_bl163 : bldOk Try.prog 163 = true := by kernel_rfl
theorem ty_fd163_0 : fld? Try.prog 163 0 = some (0, 1, false) := by kernel_rfl
theorem ty_fd163_1 : fld? Try.prog 163 1 = some (1, 1, false) := by kernel_rfl
theorem ty_sz164 : sz? Try.prog 164 = some 10 := by kernel_rfl
theorem ty_ag164 : agg? Try.prog 164 = some true := by kernel_rfl
theorem ty_zr164 : zr? Try.prog 164 = some [.int .i64 0, .slice none 0 0, .int .i64 0, .int .i64 0, .int .i64 0, .slice none 0 0, .int .u64 0, .slice none 0 0, .int .i64 0, .int .i64 0] := by kernel_rfl
theorem ty_bl164 : bldOk Try.prog 164 = true := by kernel_rfl
theorem ty_fd164_0 : fld? Try.prog 164 0 = some (0, 1, false) := by kernel_rfl
theorem ty_fd164_1 : fld? Try.prog 164 1 = some (1, 1, false) := by kernel_rfl
theorem ty_fd164_2 : fld? Try.prog 164 2 = some (2, 4, true) := by kernel_rfl
theorem ty_fd164_3 : fld? Try.prog 164 3 = some (6, 1, false) := by kernel_rfl
theorem ty_fd164_4 : fld? Try.prog 164 4 = some (7, 2, true) := by kernel_rfl
theorem ty_fd164_5 : fld? Try.prog 164 5 = some (9, 1, false) := by kernel_rfl
theorem ty_sz165 : sz? Try.prog 165 = some 10 := by kernel_rfl
theorem ty_ag165 : agg? Try.prog 165 = some true := by kernel_rfl
theorem ty_zr165 : zr? Try.prog 165 = some [.int .i64 0, .slice none 0 0, .int .i64 0, .int .i64 0, .int .i64 0, .slice none 0 0, .int .u64 0, .slice none 0 0, .int .i64 0, .int .i64 0] := by kernel_rfl
theorem ty_bl165 : bldOk Try.prog 165 = true := by kernel_rfl
theorem ty_fd165_0 : fld? Try.prog 165 0 = some (0, 1, false) := by kernel_rfl
theorem ty_fd165_1 : fld? Try.prog 165 1 = some (1, 1, false) := by kernel_rfl
theorem ty_fd165_2 : fld? Try.prog 165 2 = some (2, 4, true) := by kernel_rfl
theorem ty_fd165_3 : fld? Try.prog 165 3 = some (6, 1, false) := by kernel_rfl
theorem ty_fd165_4 : fld? Try.prog 165 4 = some (7, 2, true) := by kernel_rfl
theorem ty_fd165_5 : fld? Try.prog 165 5 = some (9, 1, false) := by kernel_rfl
theorem ty_sz166 : sz? Try.prog 166 = some 1 := by kernel_rfl
theorem ty_ag166 : agg? Try.prog 166 = some false := by kernel_rfl
theorem ty_cl166 : cls? Try.prog 166 = some .fn := by kernel_rfl
theorem ty_sz167 : sz? Try.prog 167 = some 2 := by kernel_rfl
theorem ty_ag167 : agg? Try.prog 167 = some true := by kernel_rfl
theorem ty_zr167 : zr? Try.prog 167 = some [.slice none 0 0, .int .i64 0] := by kernel_rfl
theorem ty_bl167 : bldOk Try.prog 167 = true := by kernel_rfl
theorem ty_fd167_0 : fld? Try.prog 167 0 = some (0, 1, false) := by kernel_rfl
theorem ty_fd167_1 : fld? Try.prog 167 1 = some (1, 1, false) := by kernel_rfl
theorem ty_sz168 : sz? Try.prog 168 = some 10 := by kernel_rfl
theorem ty_ag168 : agg? Try.prog 168 = some true := by kernel_rfl
theorem ty_zr168 : zr? Try.prog 168 = some [.int .i64 0, .slice none 0 0, .int .i64 0, .int .i64 0, .int .i64 0, .slice none 0 0, .int .u64 0, .slice none 0 0, .int .i64 0, .int .i64 0] := by kernel_rfl
theorem ty_bl168 : bldOk Try.prog 168 = true := by kernel_rfl
theorem ty_fd168_0 : fld? Try.prog 168 0 = some (0, 1, false) := by kernel_rfl
theorem ty_fd168_1 : fld? Try.prog 168 1 = some (1, 1, false) := by kernel_rfl
theorem ty_fd168_2 : fld? Try.prog 168 2 = some (2, 4, true) := by kernel_rfl
theorem ty_fd168_3 : fld? Try.prog 168 3 = some (6, 1, false) := by kernel_rfl
theorem ty_fd168_4 : fld? Try.prog 168 4 = some (7, 2, true) := by kernel_rfl
theorem ty_fd168_5 : fld? Try.prog 168 5 = some (9, 1, false) := by kernel_rfl
theorem ty_sz169 : sz? Try.prog 169 = some 10 := by kernel_rfl
theorem ty_ag169 : agg? Try.prog 169 = some true := by kernel_rfl
theorem ty_zr169 : zr? Try.prog 169 = some [.int .i64 0, .slice none 0 0, .int .i64 0, .int .i64 0, .int .i64 0, .slice none 0 0, .int .u64 0, .slice none 0 0, .int .i64 0, .int .i64 0] := by kernel_rfl
theorem ty_bl169 : bldOk Try.prog 169 = true := by kernel_rfl
theorem ty_fd169_0 : fld? Try.prog 169 0 = some (0, 1, false) := by kernel_rfl
theorem ty_fd169_1 : fld? Try.prog 169 1 = some (1, 1, false) := by kernel_rfl
theorem ty_fd169_2 : fld? Try.prog 169 2 = some (2, 4, true) := by kernel_rfl
theorem ty_fd169_3 : fld? Try.prog 169 3 = some (6, 1, false) := by kernel_rfl
theorem ty_fd169_4 : fld? Try.prog 169 4 = some (7, 2, true) := by kernel_rfl
theorem ty_fd169_5 : fld? Try.prog 169 5 = some (9, 1, false) := by kernel_rfl
theorem ty_sz170 : sz? Try.prog 170 = some 1 := by kernel_rfl
theorem ty_ag170 : agg? Try.prog 170 = some false := by kernel_rfl
theorem ty_cl170 : cls? Try.prog 170 = some .fn := by kernel_rfl
theorem ty_sz171 : sz? Try.prog 171 = some 1 := by kernel_rfl
theorem ty_ag171 : agg? Try.prog 171 = some false := by kernel_rfl
theorem ty_cl171 : cls? Try.prog 171 = some .fn := by kernel_rfl
theorem ty_sz172 : sz? Try.prog 172 = some 1 := by kernel_rfl
theorem ty_ag172 : agg? Try.prog 172 = some false := by kernel_rfl
theorem ty_cl172 : cls? Try.prog 172 = some .fn := by kernel_rfl
theorem ty_sz173 : sz? Try.prog 173 = some 1 := by kernel_rfl
theorem ty_ag173 : agg? Try.prog 173 = some false := by kernel_rfl
theorem ty_cl173 : cls? Try.prog 173 = some .fn := by kernel_rfl
theorem ty_sz174 : sz? Try.prog 174 = some 1 := by kernel_rfl
theorem ty_ag174 : agg? Try.prog 174 = some false := by kernel_rfl
theorem ty_cl174 : cls? Try.prog 174 = some .fn := by kernel_rfl
theorem ty_sz175 : sz? Try.prog 175 = some 1 := by kernel_rfl
theorem ty_ag175 : agg? Try.prog 175 = some false := by kernel_rfl
theorem ty_cl175 : cls? Try.prog 175 = some .fn := by kernel_rfl
theorem ty_sz176 : sz? Try.prog 176 = some 1 := by kernel_rfl
theorem ty_ag176 : agg? Try.prog 176 = some false := by kernel_rfl
theorem ty_cl176 : cls? Try.prog 176 = some .fn := by kernel_rfl
theorem ty_sz177 : sz? Try.prog 177 = some 1 := by kernel_rfl
theorem ty_ag177 : agg? Try.prog 177 = some false := by kernel_rfl
theorem ty_cl177 : cls? Try.prog 177 = some .fn := by kernel_rfl
theorem ty_sz178 : sz? Try.prog 178 = some 1 := by kernel_rfl
theorem ty_ag178 : agg? Try.prog 178 = some false := by kernel_rfl
theorem ty_cl178 : cls? Try.prog 178 = some .fn := by kernel_rfl
theorem ty_sz179 : sz? Try.prog 179 = some 1 := by kernel_rfl
theorem ty_ag179 : agg? Try.prog 179 = some false := by kernel_rfl
theorem ty_cl179 : cls? Try.prog 179 = some .fn := by kernel_rfl
theorem ty_sz180 : sz? Try.prog 180 = some 1 := by kernel_rfl
theorem ty_ag180 : agg? Try.prog 180 = some false := by kernel_rfl
theorem ty_cl180 : cls? Try.prog 180 = some .fn := by kernel_rfl
theorem ty_sz181 : sz? Try.prog 181 = some 1 := by kernel_rfl
theorem ty_ag181 : agg? Try.prog 181 = some false := by kernel_rfl
theorem ty_cl181 : cls? Try.prog 181 = some .fn := by kernel_rfl
theorem ty_sz182 : sz? Try.prog 182 = some 1 := by kernel_rfl
theorem ty_ag182 : agg? Try.prog 182 = some false := by kernel_rfl
theorem ty_cl182 : cls? Try.prog 182 = some .fn := by kernel_rfl
theorem ty_sz183 : sz? Try.prog 183 = some 1 := by kernel_rfl
theorem ty_ag183 : agg? Try.prog 183 = some false := by kernel_rfl
theorem ty_cl183 : cls? Try.prog 183 = some .fn := by kernel_rfl
theorem ty_sz184 : sz? Try.prog 184 = some 1 := by kernel_rfl
theorem ty_ag184 : agg? Try.prog 184 = some false := by kernel_rfl
theorem ty_zr184 : zr? Try.prog 184 = some [.slice none 0 0] := by kernel_rfl
theorem ty_cl184 : cls? Try.prog 184 = some .sl := by kernel_rfl
theorem ty_el184 : elt? Try.prog 184 = some (202, 2, 48) := by kernel_rfl
theorem ty_sz185 : sz? Try.prog 185 = some 1 := by kernel_rfl
theorem ty_ag185 : agg? Try.prog 185 = some false := by kernel_rfl
theorem ty_cl185 : cls? Try.prog 185 = some .fn := by kernel_rfl
theorem ty_sz186 : sz? Try.prog 186 = some 1 := by kernel_rfl
theorem ty_ag186 : agg? Try.prog 186 = some false := by kernel_rfl
theorem ty_zr186 : zr? Try.prog 186 = some [.slice none 0 0] := by kernel_rfl
theorem ty_cl186 : cls? Try.prog 186 = some .sl := by kernel_rfl
theorem ty_el186 : elt? Try.prog 186 = some (205, 2, 48) := by kernel_rfl
theorem ty_sz187 : sz? Try.prog 187 = some 1 := by kernel_rfl
theorem ty_ag187 : agg? Try.prog 187 = some false := by kernel_rfl
theorem ty_cl187 : cls? Try.prog 187 = some .fn := by kernel_rfl
theorem ty_sz188 : sz? Try.prog 188 = some 1 := by kernel_rfl
theorem ty_ag188 : agg? Try.prog 188 = some false := by kernel_rfl
theorem ty_cl188 : cls? Try.prog 188 = some .fn := by kernel_rfl
theorem ty_sz189 : sz? Try.prog 189 = some 1 := by kernel_rfl
theorem ty_ag189 : agg? Try.prog 189 = some false := by kernel_rfl
theorem ty_cl189 : cls? Try.prog 189 = some .fn := by kernel_rfl
theorem ty_sz190 : sz? Try.prog 190 = some 1 := by kernel_rfl
theorem ty_ag190 : agg? Try.prog 190 = some false := by kernel_rfl
theorem ty_cl190 : cls? Try.prog 190 = some .fn := by kernel_rfl
theorem ty_sz191 : sz? Try.prog 191 = some 1 := by kernel_rfl
theorem ty_ag191 : agg? Try.prog 191 = some false := by kernel_rfl
theorem ty_cl191 : cls? Try.prog 191 = some .fn := by kernel_rfl
theorem ty_sz192 : sz? Try.prog 192 = some 1 := by kernel_rfl
theorem ty_ag192 : agg? Try.prog 192 = some false := by kernel_rfl
theorem ty_cl192 : cls? Try.prog 192 = some .fn := by kernel_rfl
theorem ty_sz193 : sz? Try.prog 193 = some 1 := by kernel_rfl
theorem ty_ag193 : agg? Try.prog 193 = some false := by kernel_rfl
theorem ty_cl193 : cls? Try.prog 193 = some .fn := by kernel_rfl
theorem ty_sz195 : sz? Try.prog 195 = some 1 := by kernel_rfl
theorem ty_ag195 : agg? Try.prog 195 = some false := by kernel_rfl
theorem ty_cl195 : cls? Try.prog 195 = some .fn := by kernel_rfl
theorem ty_sz196 : sz? Try.prog 196 = some 1 := by kernel_rfl
theorem ty_ag196 : agg? Try.prog 196 = some false := by kernel_rfl
theorem ty_zr196 : zr? Try.prog 196 = some [.int .u32 0] := by kernel_rfl
theorem ty_cl196 : cls? Try.prog 196 = some (.int .u32) := by kernel_rfl
theorem ty_sz198 : sz? Try.prog 198 = some 1 := by kernel_rfl
theorem ty_ag198 : agg? Try.prog 198 = some false := by kernel_rfl
theorem ty_cl198 : cls? Try.prog 198 = some .fn := by kernel_rfl
theorem ty_sz199 : sz? Try.prog 199 = some 1 := by kernel_rfl
theorem ty_ag199 : agg? Try.prog 199 = some false := by kernel_rfl
theorem ty_cl199 : cls? Try.prog 199 = some .fn := by kernel_rfl
theorem ty_sz200 : sz? Try.prog 200 = some 1 := by kernel_rfl
theorem ty_ag200 : agg? Try.prog 200 = some false := by kernel_rfl
theorem ty_zr200 : zr? Try.prog 200 = some [.slice none 0 0] := by kernel_rfl
theorem ty_cl200 : cls? Try.prog 200 = some .sl := by kernel_rfl
theorem ty_el200 : elt? Try.prog 200 = some (214, 1, 24) := by kernel_rfl
theorem ty_sz201 : sz? Try.prog 201 = some 2 := by kernel_rfl
theorem ty_ag201 : agg? Try.prog 201 = some true := by kernel_rfl
theorem ty_zr201 : zr? Try.prog 201 = some [.slice none 0 0, .slice none 0 0] := by kernel_rfl
theorem ty_bl201 : bldOk Try.prog 201 = true := by kernel_rfl
theorem ty_fd201_0 : fld? Try.prog 201 0 = some (0, 1, false) := by kernel_rfl
theorem ty_fd201_1 : fld? Try.prog 201 1 = some (1, 1, false) := by kernel_rfl
theorem ty_sz202 : sz? Try.prog 202 = some 2 := by kernel_rfl
theorem ty_ag202 : agg? Try.prog 202 = some true := by kernel_rfl
theorem ty_zr202 : zr? Try.prog 202 = some [.slice none 0 0, .slice none 0 0] := by kernel_rfl
theorem ty_bl202 : bldOk Try.prog 202 = true := by kernel_rfl
theorem ty_fd202_0 : fld? Try.prog 202 0 = some (0, 1, false) := by kernel_rfl
theorem ty_fd202_1 : fld? Try.prog 202 1 = some (1, 1, false) := by kernel_rfl
theorem ty_sz203 : sz? Try.prog 203 = some 1 := by kernel_rfl
theorem ty_ag203 : agg? Try.prog 203 = some false := by kernel_rfl
theorem ty_zr203 : zr? Try.prog 203 = some [.slice none 0 0] := by kernel_rfl
theorem ty_cl203 : cls? Try.prog 203 = some .sl := by kernel_rfl
theorem ty_el203 : elt? Try.prog 203 = some (215, 1, 24) := by kernel_rfl
theorem ty_sz204 : sz? Try.prog 204 = some 2 := by kernel_rfl
theorem ty_ag204 : agg? Try.prog 204 = some true := by kernel_rfl
theorem ty_zr204 : zr? Try.prog 204 = some [.slice none 0 0, .slice none 0 0] := by kernel_rfl
theorem ty_bl204 : bldOk Try.prog 204 = true := by kernel_rfl
theorem ty_fd204_0 : fld? Try.prog 204 0 = some (0, 1, false) := by kernel_rfl
theorem ty_fd204_1 : fld? Try.prog 204 1 = some (1, 1, false) := by kernel_rfl
theorem ty_sz205 : sz? Try.prog 205 = some 2 := by kernel_rfl
theorem ty_ag205 : agg? Try.prog 205 = some true := by kernel_rfl
theorem ty_zr205 : zr? Try.prog 205 = some [.slice none 0 0, .slice none 0 0] := by kernel_rfl
theorem ty_bl205 : bldOk Try.prog 205 = true := by kernel_rfl
theorem ty_fd205_0 : fld? Try.prog 205 0 = some (0, 1, false) := by kernel_rfl
theorem ty_fd205_1 : fld? Try.prog 205 1 = some (1, 1, false) := by kernel_rfl
theorem ty_sz206 : sz? Try.prog 206 = some 1 := by kernel_rfl
theorem ty_ag206 : agg? Try.prog 206 = some false := by kernel_rfl
theorem ty_cl206 : cls? Try.prog 206 = some .fn := by kernel_rfl
theorem ty_sz207 : sz? Try.prog 207 = some 1 := by kernel_rfl
theorem ty_ag207 : agg? Try.prog 207 = some false := by kernel_rfl
theorem ty_cl207 : cls? Try.prog 207 = some .fn := by kernel_rfl
theorem ty_sz208 : sz? Try.prog 208 = some 1 := by kernel_rfl
theorem ty_ag208 : agg? Try.prog 208 = some false := by kernel_rfl
theorem ty_cl208 : cls? Try.prog 208 = some .fn := by kernel_rfl
theorem ty_sz209 : sz? Try.prog 209 = some 1 := by kernel_rfl
theorem ty_ag209 : agg? Try.prog 209 = some false := by kernel_rfl
theorem ty_cl209 : cls? Try.prog 209 = some .fn := by kernel_rfl
theorem ty_sz210 : sz? Try.prog 210 = some 1 := by kernel_rfl
theorem ty_ag210 : agg? Try.prog 210 = some false := by kernel_rfl
theorem ty_cl210 : cls? Try.prog 210 = some .fn := by kernel_rfl
theorem ty_sz211 : sz? Try.prog 211 = some 1 := by kernel_rfl
theorem ty_ag211 : agg? Try.prog 211 = some false := by kernel_rfl
theorem ty_cl211 : cls? Try.prog 211 = some .fn := by kernel_rfl
theorem ty_sz212 : sz? Try.prog 212 = some 1 := by kernel_rfl
theorem ty_ag212 : agg? Try.prog 212 = some false := by kernel_rfl
theorem ty_cl212 : cls? Try.prog 212 = some .fn := by kernel_rfl
theorem ty_sz213 : sz? Try.prog 213 = some 1 := by kernel_rfl
theorem ty_ag213 : agg? Try.prog 213 = some false := by kernel_rfl
theorem ty_cl213 : cls? Try.prog 213 = some .fn := by kernel_rfl
theorem ty_sz214 : sz? Try.prog 214 = some 1 := by kernel_rfl
theorem ty_ag214 : agg? Try.prog 214 = some false := by kernel_rfl
theorem ty_zr214 : zr? Try.prog 214 = some [.slice none 0 0] := by kernel_rfl
theorem ty_cl214 : cls? Try.prog 214 = some .sl := by kernel_rfl
theorem ty_el214 : elt? Try.prog 214 = some (220, 2, 32) := by kernel_rfl
theorem ty_sz215 : sz? Try.prog 215 = some 1 := by kernel_rfl
theorem ty_ag215 : agg? Try.prog 215 = some false := by kernel_rfl
theorem ty_zr215 : zr? Try.prog 215 = some [.slice none 0 0] := by kernel_rfl
theorem ty_cl215 : cls? Try.prog 215 = some .sl := by kernel_rfl
theorem ty_el215 : elt? Try.prog 215 = some (221, 2, 32) := by kernel_rfl
theorem ty_sz216 : sz? Try.prog 216 = some 1 := by kernel_rfl
theorem ty_ag216 : agg? Try.prog 216 = some false := by kernel_rfl
theorem ty_cl216 : cls? Try.prog 216 = some .fn := by kernel_rfl
theorem ty_sz217 : sz? Try.prog 217 = some 1 := by kernel_rfl
theorem ty_ag217 : agg? Try.prog 217 = some false := by kernel_rfl
theorem ty_cl217 : cls? Try.prog 217 = some .fn := by kernel_rfl
theorem ty_sz218 : sz? Try.prog 218 = some 1 := by kernel_rfl
theorem ty_ag218 : agg? Try.prog 218 = some false := by kernel_rfl
theorem ty_cl218 : cls? Try.prog 218 = some .fn := by kernel_rfl
theorem ty_sz219 : sz? Try.prog 219 = some 2 := by kernel_rfl
theorem ty_ag219 : agg? Try.prog 219 = some true := by kernel_rfl
theorem ty_zr219 : zr? Try.prog 219 = some [.int .i64 0, .slice none 0 0] := by kernel_rfl
theorem ty_bl219 : bldOk Try.prog 219 = true := by kernel_rfl
theorem ty_fd219_0 : fld? Try.prog 219 0 = some (0, 1, false) := by kernel_rfl
theorem ty_fd219_1 : fld? Try.prog 219 1 = some (1, 1, false) := by kernel_rfl
theorem ty_sz220 : sz? Try.prog 220 = some 2 := by kernel_rfl
theorem ty_ag220 : agg? Try.prog 220 = some true := by kernel_rfl
theorem ty_zr220 : zr? Try.prog 220 = some [.int .i64 0, .slice none 0 0] := by kernel_rfl
theorem ty_bl220 : bldOk Try.prog 220 = true := by kernel_rfl
theorem ty_fd220_0 : fld? Try.prog 220 0 = some (0, 1, false) := by kernel_rfl
theorem ty_fd220_1 : fld? Try.prog 220 1 = some (1, 1, false) := by kernel_rfl
theorem ty_sz221 : sz? Try.prog 221 = some 2 := by kernel_rfl
theorem ty_ag221 : agg? Try.prog 221 = some true := by kernel_rfl
theorem ty_zr221 : zr? Try.prog 221 = some [.int .i64 0, .slice none 0 0] := by kernel_rfl
theorem ty_bl221 : bldOk Try.prog 221 = true := by kernel_rfl
theorem ty_fd221_0 : fld? Try.prog 221 0 = some (0, 1, false) := by kernel_rfl
theorem ty_fd221_1 : fld? Try.prog 221 1 = some (1, 1, false) := by kernel_rfl
theorem ty_sz222 : sz? Try.prog 222 = some 1 := by kernel_rfl
theorem ty_ag222 : agg? Try.prog 222 = some false := by kernel_rfl
theorem ty_cl222 : cls? Try.prog 222 = some .fn := by kernel_rfl
theorem ty_sz223 : sz? Try.prog 223 = some 1 := by kernel_rfl
theorem ty_ag223 : agg? Try.prog 223 = some false := by kernel_rfl
theorem ty_cl223 : cls? Try.prog 223 = some .fn := by kernel_rfl
theorem ty_sz224 : sz? Try.prog 224 = some 4 := by kernel_rfl
theorem ty_ag224 : agg? Try.prog 224 = some true := by kernel_rfl
theorem ty_zr224 : zr? Try.prog 224 = some [.pointer none, .pointer none, .pointer none, .string ⟨#[]⟩] := by kernel_rfl
theorem ty_bl224 : bldOk Try.prog 224 = true := by kernel_rfl
theorem ty_fd224_0 : fld? Try.prog 224 0 = some (0, 1, false) := by kernel_rfl
theorem ty_fd224_1 : fld? Try.prog 224 1 = some (1, 1, false) := by kernel_rfl
theorem ty_fd224_2 : fld? Try.prog 224 2 = some (2, 1, false) := by kernel_rfl
theorem ty_fd224_3 : fld? Try.prog 224 3 = some (3, 1, false) := by kernel_rfl
theorem ty_sz225 : sz? Try.prog 225 = some 4 := by kernel_rfl
theorem ty_ag225 : agg? Try.prog 225 = some true := by kernel_rfl
theorem ty_zr225 : zr? Try.prog 225 = some [.pointer none, .pointer none, .pointer none, .string ⟨#[]⟩] := by kernel_rfl
theorem ty_bl225 : bldOk Try.prog 225 = true := by kernel_rfl
theorem ty_fd225_0 : fld? Try.prog 225 0 = some (0, 1, false) := by kernel_rfl
theorem ty_fd225_1 : fld? Try.prog 225 1 = some (1, 1, false) := by kernel_rfl
theorem ty_fd225_2 : fld? Try.prog 225 2 = some (2, 1, false) := by kernel_rfl
theorem ty_fd225_3 : fld? Try.prog 225 3 = some (3, 1, false) := by kernel_rfl
theorem ty_sz229 : sz? Try.prog 229 = some 1 := by kernel_rfl
theorem ty_ag229 : agg? Try.prog 229 = some false := by kernel_rfl
theorem ty_zr229 : zr? Try.prog 229 = some [.int .u8 0] := by kernel_rfl
theorem ty_cl229 : cls? Try.prog 229 = some (.int .u8) := by kernel_rfl
theorem ty_sz230 : sz? Try.prog 230 = some 1 := by kernel_rfl
theorem ty_ag230 : agg? Try.prog 230 = some false := by kernel_rfl
theorem ty_zr230 : zr? Try.prog 230 = some [.int .u8 0] := by kernel_rfl
theorem ty_cl230 : cls? Try.prog 230 = some (.int .u8) := by kernel_rfl
theorem ty_sz231 : sz? Try.prog 231 = some 1 := by kernel_rfl
theorem ty_ag231 : agg? Try.prog 231 = some false := by kernel_rfl
theorem ty_cl231 : cls? Try.prog 231 = some .fn := by kernel_rfl
theorem ty_sz232 : sz? Try.prog 232 = some 1 := by kernel_rfl
theorem ty_ag232 : agg? Try.prog 232 = some false := by kernel_rfl
theorem ty_zr232 : zr? Try.prog 232 = some [.pointer none] := by kernel_rfl
theorem ty_cl232 : cls? Try.prog 232 = some .ptr := by kernel_rfl
theorem ty_sz233 : sz? Try.prog 233 = some 1 := by kernel_rfl
theorem ty_ag233 : agg? Try.prog 233 = some false := by kernel_rfl
theorem ty_zr233 : zr? Try.prog 233 = some [.int .i32 0] := by kernel_rfl
theorem ty_cl233 : cls? Try.prog 233 = some (.int .i32) := by kernel_rfl
theorem ty_sz234 : sz? Try.prog 234 = some 1 := by kernel_rfl
theorem ty_ag234 : agg? Try.prog 234 = some false := by kernel_rfl
theorem ty_zr234 : zr? Try.prog 234 = some [.int .i32 0] := by kernel_rfl
theorem ty_cl234 : cls? Try.prog 234 = some (.int .i32) := by kernel_rfl
theorem ty_sz235 : sz? Try.prog 235 = some 11 := by kernel_rfl
theorem ty_ag235 : agg? Try.prog 235 = some true := by kernel_rfl
theorem ty_zr235 : zr? Try.prog 235 = some [.int .u64 0, .int .u64 0, .int .u32 0, .int .u8 0, .int .u8 0, .int .u8 0, .int .u8 0, .nilFunc, .pointer none, .int .i32 0, .int .i32 0] := by kernel_rfl
theorem ty_bl235 : bldOk Try.prog 235 = true := by kernel_rfl
theorem ty_fd235_0 : fld? Try.prog 235 0 = some (0, 1, false) := by kernel_rfl
theorem ty_fd235_1 : fld? Try.prog 235 1 = some (1, 1, false) := by kernel_rfl
theorem ty_fd235_2 : fld? Try.prog 235 2 = some (2, 1, false) := by kernel_rfl
theorem ty_fd235_3 : fld? Try.prog 235 3 = some (3, 1, false) := by kernel_rfl
theorem ty_fd235_4 : fld? Try.prog 235 4 = some (4, 1, false) := by kernel_rfl
theorem ty_fd235_5 : fld? Try.prog 235 5 = some (5, 1, false) := by kernel_rfl
theorem ty_fd235_6 : fld? Try.prog 235 6 = some (6, 1, false) := by kernel_rfl
theorem ty_fd235_7 : fld? Try.prog 235 7 = some (7, 1, false) := by kernel_rfl
theorem ty_fd235_8 : fld? Try.prog 235 8 = some (8, 1, false) := by kernel_rfl
theorem ty_fd235_9 : fld? Try.prog 235 9 = some (9, 1, false) := by kernel_rfl
theorem ty_fd235_10 : fld? Try.prog 235 10 = some (10, 1, false) := by kernel_rfl
theorem ty_sz236 : sz? Try.prog 236 = some 11 := by kernel_rfl
theorem ty_ag236 : agg? Try.prog 236 = some true := by kernel_rfl
theorem ty_zr236 : zr? Try.prog 236 = some [.int .u64 0, .int .u64 0, .int .u32 0, .int .u8 0, .int .u8 0, .int .u8 0, .int .u8 0, .nilFunc, .pointer none, .int .i32 0, .int .i32 0] := by kernel_rfl
theorem ty_bl236 : bldOk Try.prog 236 = true := by kernel_rfl
theorem ty_fd236_0 : fld? Try.prog 236 0 = some (0, 1, false) := by kernel_rfl
theorem ty_fd236_1 : fld? Try.prog 236 1 = some (1, 1, false) := by kernel_rfl
theorem ty_fd236_2 : fld? Try.prog 236 2 = some (2, 1, false) := by kernel_rfl
theorem ty_fd236_3 : fld? Try.prog 236 3 = some (3, 1, false) := by kernel_rfl
theorem ty_fd236_4 : fld? Try.prog 236 4 = some (4, 1, false) := by kernel_rfl
theorem ty_fd236_5 : fld? Try.prog 236 5 = some (5, 1, false) := by kernel_rfl
theorem ty_fd236_6 : fld? Try.prog 236 6 = some (6, 1, false) := by kernel_rfl
theorem ty_fd236_7 : fld? Try.prog 236 7 = some (7, 1, false) := by kernel_rfl
theorem ty_fd236_8 : fld? Try.prog 236 8 = some (8, 1, false) := by kernel_rfl
theorem ty_fd236_9 : fld? Try.prog 236 9 = some (9, 1, false) := by kernel_rfl
theorem ty_fd236_10 : fld? Try.prog 236 10 = some (10, 1, false) := by kernel_rfl
attribute [go_sem] ty_sz1 ty_ag1 ty_cl1 ty_sz2 ty_ag2 ty_zr2 ty_cl2 ty_sz3 ty_ag3 ty_zr3 ty_cl3 ty_sz4 ty_ag4 ty_zr4 ty_cl4 ty_sz5 ty_ag5 ty_zr5 ty_cl5 ty_sz6 ty_ag6 ty_zr6 ty_cl6 ty_sz7 ty_ag7 ty_zr7 ty_bl7 ty_fd7_0 ty_fd7_1 ty_fd7_2 ty_fd7_3 ty_sz8 ty_ag8 ty_zr8 ty_bl8 ty_fd8_0 ty_fd8_1 ty_fd8_2 ty_fd8_3 ty_sz9 ty_ag9 ty_zr9 ty_cl9 ty_sz10 ty_ag10 ty_zr10 ty_cl10 ty_sz11 ty_ag11 ty_zr11 ty_cl11 ty_sz12 ty_ag12 ty_zr12 ty_cl12 ty_sz13 ty_ag13 ty_zr13 ty_bl13 ty_fd13_0 ty_fd13_1 ty_sz14 ty_ag14 ty_zr14 ty_bl14 ty_fd14_0 ty_fd14_1 ty_sz15 ty_ag15 ty_zr15 ty_cl15 ty_sz16 ty_ag16 ty_zr16 ty_cl16 ty_sz17 ty_ag17 ty_zr17 ty_cl17 ty_sz18 ty_ag18 ty_zr18 ty_bl18 ty_fd18_0 ty_sz19 ty_ag19 ty_zr19 ty_bl19 ty_fd19_0 ty_sz21 ty_ag21 ty_zr21 ty_cl21 ty_sz22 ty_ag22 ty_zr22 ty_cl22 ty_el22 ty_sz23 ty_ag23 ty_cl23 ty_sz24 ty_ag24 ty_zr24 ty_cl24 ty_el24 ty_sz25 ty_ag25 ty_zr25 ty_bl25 ty_fd25_0 ty_fd25_1 ty_fd25_2 ty_fd25_3 ty_sz26 ty_ag26 ty_zr26 ty_bl26 ty_fd26_0 ty_fd26_1 ty_fd26_2 ty_fd26_3 ty_sz27 ty_ag27 ty_zr27 ty_cl27 ty_el27 ty_sz28 ty_ag28 ty_zr28 ty_bl28 ty_fd28_0 ty_fd28_1 ty_fd28_2 ty_fd28_3 ty_fd28_4 ty_sz29 ty_ag29 ty_zr29 ty_bl29 ty_fd29_0 ty_fd29_1 ty_fd29_2 ty_fd29_3 ty_fd29_4 ty_sz30 ty_ag30 ty_cl30 ty_sz32 ty_ag32 ty_cl32 ty_sz34 ty_ag34 ty_cl34 ty_sz35 ty_ag35 ty_cl35 ty_sz36 ty_ag36 ty_cl36 ty_sz37 ty_ag37 ty_cl37 ty_sz38 ty_ag38 ty_zr38 ty_cl38 ty_el38 ty_sz39 ty_ag39 ty_zr39 ty_cl39 ty_el39 ty_sz40 ty_ag40 ty_zr40 ty_cl40 ty_el40 ty_sz41 ty_ag41 ty_zr41 ty_bl41 ty_fd41_0 ty_fd41_1 ty_fd41_2 ty_fd41_3 ty_fd41_4 ty_sz42 ty_ag42 ty_zr42 ty_bl42 ty_fd42_0 ty_fd42_1 ty_fd42_2 ty_fd42_3 ty_fd42_4 ty_sz43 ty_ag43 ty_zr43 ty_bl43 ty_fd43_0 ty_fd43_1 ty_sz44 ty_ag44 ty_zr44 ty_bl44 ty_fd44_0 ty_fd44_1 ty_sz45 ty_ag45 ty_zr45 ty_bl45 ty_fd45_0 ty_fd45_1 ty_fd45_2 ty_fd45_3 ty_fd45_4 ty_fd45_5 ty_fd45_6 ty_fd45_7 ty_fd45_8 ty_sz46 ty_ag46 ty_zr46 ty_bl46 ty_fd46_0 ty_fd46_1 ty_fd46_2 ty_fd46_3 ty_fd46_4 ty_fd46_5 ty_fd46_6 ty_fd46_7 ty_fd46_8 ty_sz47 ty_ag47 ty_zr47 ty_bl47 ty_fd47_0 ty_fd47_1 ty_fd47_2 ty_fd47_3 ty_sz48 ty_ag48 ty_cl48 ty_sz49 ty_ag49 ty_cl49 ty_sz50 ty_ag50 ty_cl50 ty_sz51 ty_ag51 ty_zr51 ty_cl51 ty_el51 ty_sz52 ty_ag52 ty_zr52 ty_cl52 ty_el52 ty_sz53 ty_ag53 ty_zr53 ty_bl53 ty_fd53_0 ty_fd53_1 ty_fd53_2 ty_fd53_3 ty_fd53_4 ty_sz54 ty_ag54 ty_zr54 ty_bl54 ty_fd54_0 ty_fd54_1 ty_sz55 ty_ag55 ty_zr55 ty_bl55 ty_fd55_0 ty_fd55_1 ty_fd55_2 ty_fd55_3 ty_fd55_4 ty_fd55_5 ty_fd55_6 ty_fd55_7 ty_fd55_8 ty_sz56 ty_ag56 ty_zr56 ty_bl56 ty_fd56_0 ty_fd56_1 ty_fd56_2 ty_fd56_3 ty_fd56_4 ty_fd56_5 ty_fd56_6 ty_fd56_7 ty_fd56_8 ty_sz57 ty_ag57 ty_cl57 ty_sz58 ty_ag58 ty_cl58 ty_sz59 ty_ag59 ty_cl59 ty_sz60 ty_ag60 ty_cl60 ty_sz61 ty_ag61 ty_cl61 ty_sz62 ty_ag62 ty_cl62 ty_sz63 ty_ag63 ty_zr63 ty_cl63 ty_el63 ty_sz64 ty_ag64 ty_zr64 ty_bl64 ty_fd64_0 ty_fd64_1 ty_sz65 ty_ag65 ty_zr65 ty_bl65 ty_fd65_0 ty_fd65_1 ty_sz66 ty_ag66 ty_zr66 ty_cl66 ty_el66 ty_sz67 ty_ag67 ty_zr67 ty_bl67 ty_fd67_0 ty_fd67_1 ty_fd67_2 ty_sz68 ty_ag68 ty_zr68 ty_bl68 ty_fd68_0 ty_fd68_1 ty_fd68_2 ty_sz69 ty_ag69 ty_cl69 ty_sz70 ty_ag70 ty_cl70 ty_sz71 ty_ag71 ty_zr71 ty_cl71 ty_el71 ty_sz72 ty_ag72 ty_zr72 ty_bl72 ty_fd72_0 ty_fd72_1 ty_sz73 ty_ag73 ty_zr73 ty_bl73 ty_fd73_0 ty_fd73_1 ty_sz74 ty_ag74 ty_zr74 ty_cl74 ty_el74 ty_sz75 ty_ag75 ty_zr75 ty_bl75 ty_fd75_0 ty_fd75_1 ty_fd75_2 ty_sz76 ty_ag76 ty_zr76 ty_bl76 ty_fd76_0 ty_fd76_1 ty_fd76_2 ty_sz77 ty_ag77 ty_cl77 ty_sz78 ty_ag78 ty_cl78 ty_sz79 ty_ag79 ty_cl79 ty_sz80 ty_ag80 ty_cl80 ty_sz81 ty_ag81 ty_zr81 ty_cl81 ty_sz82 ty_ag82 ty_cl82 ty_sz83 ty_ag83 ty_cl83 ty_sz84 ty_ag84 ty_cl84 ty_sz85 ty_ag85 ty_cl85 ty_sz86 ty_ag86 ty_cl86 ty_sz87 ty_ag87 ty_cl87 ty_sz88 ty_ag88 ty_cl88 ty_sz89 ty_ag89 ty_zr89 ty_cl89 ty_sz90 ty_ag90 ty_zr90 ty_bl90 ty_fd90_0 ty_fd90_1 ty_fd90_2 ty_sz91 ty_ag91 ty_zr91 ty_bl91 ty_fd91_0 ty_fd91_1 ty_fd91_2 ty_sz92 ty_ag92 ty_cl92 ty_sz93 ty_ag93 ty_cl93 ty_sz94 ty_ag94 ty_cl94 ty_sz95 ty_ag95 ty_zr95 ty_cl95 ty_sz96 ty_ag96 ty_zr96 ty_bl96 ty_fd96_0 ty_fd96_1 ty_fd96_2 ty_sz97 ty_ag97 ty_zr97 ty_bl97 ty_fd97_0 ty_fd97_1 ty_fd97_2 ty_sz98 ty_ag98 ty_cl98 ty_sz99 ty_ag99 ty_cl99 ty_sz100 ty_ag100 ty_cl100 ty_sz101 ty_ag101 ty_cl101 ty_sz102 ty_ag102 ty_cl102 ty_sz103 ty_ag103 ty_cl103 ty_sz104 ty_ag104 ty_cl104 ty_sz105 ty_ag105 ty_cl105 ty_sz106 ty_ag106 ty_cl106 ty_sz107 ty_ag107 ty_cl107 ty_sz108 ty_ag108 ty_cl108 ty_sz109 ty_ag109 ty_cl109 ty_sz110 ty_ag110 ty_cl110 ty_sz111 ty_ag111 ty_cl111 ty_sz112 ty_ag112 ty_cl112 ty_sz113 ty_ag113 ty_cl113 ty_sz114 ty_ag114 ty_cl114 ty_sz115 ty_ag115 ty_cl115 ty_sz116 ty_ag116 ty_cl116 ty_sz117 ty_ag117 ty_cl117 ty_sz118 ty_ag118 ty_cl118 ty_sz119 ty_ag119 ty_cl119 ty_sz120 ty_ag120 ty_cl120 ty_sz121 ty_ag121 ty_cl121 ty_sz122 ty_ag122 ty_cl122 ty_sz123 ty_ag123 ty_cl123 ty_sz124 ty_ag124 ty_cl124 ty_sz125 ty_ag125 ty_cl125 ty_sz126 ty_ag126 ty_cl126 ty_sz127 ty_ag127 ty_cl127 ty_sz128 ty_ag128 ty_cl128 ty_sz129 ty_ag129 ty_cl129 ty_sz130 ty_ag130 ty_cl130 ty_sz131 ty_ag131 ty_cl131 ty_sz132 ty_ag132 ty_cl132 ty_sz133 ty_ag133 ty_cl133 ty_sz134 ty_ag134 ty_cl134 ty_sz135 ty_ag135 ty_zr135 ty_bl135 ty_fd135_0 ty_fd135_1 ty_fd135_2 ty_sz136 ty_ag136 ty_zr136 ty_bl136 ty_fd136_0 ty_fd136_1 ty_fd136_2 ty_sz137 ty_ag137 ty_cl137 ty_sz138 ty_ag138 ty_zr138 ty_cl138 ty_sz139 ty_ag139 ty_cl139 ty_sz141 ty_ag141 ty_cl141 ty_sz143 ty_ag143 ty_cl143 ty_sz144 ty_ag144 ty_cl144 ty_sz145 ty_ag145 ty_zr145 ty_bl145 ty_fd145_0 ty_fd145_1 ty_fd145_2 ty_fd145_3 ty_fd145_4 ty_fd145_5 ty_fd145_6 ty_fd145_7 ty_sz146 ty_ag146 ty_zr146 ty_bl146 ty_fd146_0 ty_fd146_1 ty_fd146_2 ty_fd146_3 ty_fd146_4 ty_fd146_5 ty_fd146_6 ty_fd146_7 ty_sz147 ty_ag147 ty_cl147 ty_sz148 ty_ag148 ty_cl148 ty_sz149 ty_ag149 ty_zr149 ty_bl149 ty_fd149_0 ty_fd149_1 ty_sz150 ty_ag150 ty_zr150 ty_bl150 ty_fd150_0 ty_fd150_1 ty_sz151 ty_ag151 ty_cl151 ty_sz152 ty_ag152 ty_zr152 ty_bl152 ty_fd152_0 ty_fd152_1 ty_sz153 ty_ag153 ty_zr153 ty_bl153 ty_fd153_0 ty_fd153_1 ty_fd153_2 ty_fd153_3 ty_fd153_4 ty_fd153_5 ty_fd153_6 ty_fd153_7 ty_sz154 ty_ag154 ty_zr154 ty_bl154 ty_fd154_0 ty_fd154_1 ty_fd154_2 ty_fd154_3 ty_fd154_4 ty_fd154_5 ty_fd154_6 ty_fd154_7 ty_sz155 ty_ag155 ty_cl155 ty_sz156 ty_ag156 ty_cl156 ty_sz157 ty_ag157 ty_cl157 ty_sz158 ty_ag158 ty_cl158 ty_sz159 ty_ag159 ty_cl159 ty_sz160 ty_ag160 ty_cl160 ty_sz161 ty_ag161 ty_zr161 ty_cl161 ty_sz162 ty_ag162 ty_zr162 ty_bl162 ty_fd162_0 ty_fd162_1 ty_sz163 ty_ag163 ty_zr163 ty_bl163 ty_fd163_0 ty_fd163_1 ty_sz164 ty_ag164 ty_zr164 ty_bl164 ty_fd164_0 ty_fd164_1 ty_fd164_2 ty_fd164_3 ty_fd164_4 ty_fd164_5 ty_sz165 ty_ag165 ty_zr165 ty_bl165 ty_fd165_0 ty_fd165_1 ty_fd165_2 ty_fd165_3 ty_fd165_4 ty_fd165_5 ty_sz166 ty_ag166 ty_cl166 ty_sz167 ty_ag167 ty_zr167 ty_bl167 ty_fd167_0 ty_fd167_1 ty_sz168 ty_ag168 ty_zr168 ty_bl168 ty_fd168_0 ty_fd168_1 ty_fd168_2 ty_fd168_3 ty_fd168_4 ty_fd168_5 ty_sz169 ty_ag169 ty_zr169 ty_bl169 ty_fd169_0 ty_fd169_1 ty_fd169_2 ty_fd169_3 ty_fd169_4 ty_fd169_5 ty_sz170 ty_ag170 ty_cl170 ty_sz171 ty_ag171 ty_cl171 ty_sz172 ty_ag172 ty_cl172 ty_sz173 ty_ag173 ty_cl173 ty_sz174 ty_ag174 ty_cl174 ty_sz175 ty_ag175 ty_cl175 ty_sz176 ty_ag176 ty_cl176 ty_sz177 ty_ag177 ty_cl177 ty_sz178 ty_ag178 ty_cl178 ty_sz179 ty_ag179 ty_cl179 ty_sz180 ty_ag180 ty_cl180 ty_sz181 ty_ag181 ty_cl181 ty_sz182 ty_ag182 ty_cl182 ty_sz183 ty_ag183 ty_cl183 ty_sz184 ty_ag184 ty_zr184 ty_cl184 ty_el184 ty_sz185 ty_ag185 ty_cl185 ty_sz186 ty_ag186 ty_zr186 ty_cl186 ty_el186 ty_sz187 ty_ag187 ty_cl187 ty_sz188 ty_ag188 ty_cl188 ty_sz189 ty_ag189 ty_cl189 ty_sz190 ty_ag190 ty_cl190 ty_sz191 ty_ag191 ty_cl191 ty_sz192 ty_ag192 ty_cl192 ty_sz193 ty_ag193 ty_cl193 ty_sz195 ty_ag195 ty_cl195 ty_sz196 ty_ag196 ty_zr196 ty_cl196 ty_sz198 ty_ag198 ty_cl198 ty_sz199 ty_ag199 ty_cl199 ty_sz200 ty_ag200 ty_zr200 ty_cl200 ty_el200 ty_sz201 ty_ag201 ty_zr201 ty_bl201 ty_fd201_0 ty_fd201_1 ty_sz202 ty_ag202 ty_zr202 ty_bl202 ty_fd202_0 ty_fd202_1 ty_sz203 ty_ag203 ty_zr203 ty_cl203 ty_el203 ty_sz204 ty_ag204 ty_zr204 ty_bl204 ty_fd204_0 ty_fd204_1 ty_sz205 ty_ag205 ty_zr205 ty_bl205 ty_fd205_0 ty_fd205_1 ty_sz206 ty_ag206 ty_cl206 ty_sz207 ty_ag207 ty_cl207 ty_sz208 ty_ag208 ty_cl208 ty_sz209 ty_ag209 ty_cl209 ty_sz210 ty_ag210 ty_cl210 ty_sz211 ty_ag211 ty_cl211 ty_sz212 ty_ag212 ty_cl212 ty_sz213 ty_ag213 ty_cl213 ty_sz214 ty_ag214 ty_zr214 ty_cl214 ty_el214 ty_sz215 ty_ag215 ty_zr215 ty_cl215 ty_el215 ty_sz216 ty_ag216 ty_cl216 ty_sz217 ty_ag217 ty_cl217 ty_sz218 ty_ag218 ty_cl218 ty_sz219 ty_ag219 ty_zr219 ty_bl219 ty_fd219_0 ty_fd219_1 ty_sz220 ty_ag220 ty_zr220 ty_bl220 ty_fd220_0 ty_fd220_1 ty_sz221 ty_ag221 ty_zr221 ty_bl221 ty_fd221_0 ty_fd221_1 ty_sz222 ty_ag222 ty_cl222 ty_sz223 ty_ag223 ty_cl223 ty_sz224 ty_ag224 ty_zr224 ty_bl224 ty_fd224_0 ty_fd224_1 ty_fd224_2 ty_fd224_3 ty_sz225 ty_ag225 ty_zr225 ty_bl225 ty_fd225_0 ty_fd225_1 ty_fd225_2 ty_fd225_3 ty_sz229 ty_ag229 ty_zr229 ty_cl229 ty_sz230 ty_ag230 ty_zr230 ty_cl230 ty_sz231 ty_ag231 ty_cl231 ty_sz232 ty_ag232 ty_zr232 ty_cl232 ty_sz233 ty_ag233 ty_zr233 ty_cl233 ty_sz234 ty_ag234 ty_zr234 ty_cl234 ty_sz235 ty_ag235 ty_zr235 ty_bl235 ty_fd235_0 ty_fd235_1 ty_fd235_2 ty_fd235_3 ty_fd235_4 ty_fd235_5 ty_fd235_6 ty_fd235_7 ty_fd235_8 ty_fd235_9 ty_fd235_10 ty_sz236 ty_ag236 ty_zr236 ty_bl236 ty_fd236_0 ty_fd236_1 ty_fd236_2 ty_fd236_3 ty_fd236_4 ty_fd236_5 ty_fd236_6 ty_fd236_7 ty_fd236_8 ty_fd236_9 ty_fd236_10
end Go.Ai
