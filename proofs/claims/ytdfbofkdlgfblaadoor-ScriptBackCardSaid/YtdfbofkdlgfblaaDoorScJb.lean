/- Fields of the document, at some kinds. -/
import Derived.Test.YtdfbofkdlgfblaaDoorScJ
namespace Go.Proofs.YtdfbofkdlgfblaaDoor
open Go Go.RowKit
set_option maxRecDepth 100000 in
set_option maxHeartbeats 12800000 in
theorem fields_4 (p a b c d : Int) (w : World) : Calls Tryd.prog 28 #[actV [4, p, a, b, c, d]] w fun e w' => FldQ [4, p, a, b, c, d] w w' e := by
  by_cases hb : b = 0
  · subst hb
    by_cases hc : c = 0
    · subst hc
      by_cases hd : d = 0
      · subst hd
        show Calls _ _ #[.agg #[.int .i64 4, .int .i64 p, .int .i64 a, .int .i64 0, .int .i64 0, .int .i64 0]] w _
        go_enter Tryd.func28, Tryd.ntmps28
        go_upto_region 11 with fail
        go_region
        go_wp2_with fail
        go_ret3
        exact fld_yes (x := [4, p, a, 0, 0, 0]) (ns := [p, 0, a]) rfl (by simp [lineL, wordL, fldL, getF, zeroF, base6, cellN])
      · have gd : (d == 0) = false := by simpa using hd
        show Calls _ _ #[.agg #[.int .i64 4, .int .i64 p, .int .i64 a, .int .i64 0, .int .i64 0, .int .i64 d]] w _
        go_enter Tryd.func28, Tryd.ntmps28
        go_upto_region 11 with fail
        go_region
        go_wp2_with fail
        go_ret3
        exact fld_no (x := [4, p, a, 0, 0, d]) (wd := wordL 4) ((((Kept.refl [] w).alloc _).alloc _).drew) (by simp [lineL, wordL, fldL, zeroF, base6, cellN, hd])
    · by_cases hd : d = 0
      · subst hd
        have gc : (c == 0) = false := by simpa using hc
        show Calls _ _ #[.agg #[.int .i64 4, .int .i64 p, .int .i64 a, .int .i64 0, .int .i64 c, .int .i64 0]] w _
        go_enter Tryd.func28, Tryd.ntmps28
        go_upto_region 11 with fail
        go_region
        go_wp2_with fail
        go_ret3
        exact fld_no (x := [4, p, a, 0, c, 0]) (wd := wordL 4) ((((Kept.refl [] w).alloc _).alloc _).drew) (by simp [lineL, wordL, fldL, zeroF, base6, cellN, hc])
      · have gc : (c == 0) = false := by simpa using hc
        have gd : (d == 0) = false := by simpa using hd
        show Calls _ _ #[.agg #[.int .i64 4, .int .i64 p, .int .i64 a, .int .i64 0, .int .i64 c, .int .i64 d]] w _
        go_enter Tryd.func28, Tryd.ntmps28
        go_upto_region 11 with fail
        go_region
        go_wp2_with fail
        go_ret3
        exact fld_no (x := [4, p, a, 0, c, d]) (wd := wordL 4) ((((Kept.refl [] w).alloc _).alloc _).drew) (by simp [lineL, wordL, fldL, zeroF, base6, cellN, hc, hd])
  · by_cases hc : c = 0
    · subst hc
      by_cases hd : d = 0
      · subst hd
        have gb : (b == 0) = false := by simpa using hb
        show Calls _ _ #[.agg #[.int .i64 4, .int .i64 p, .int .i64 a, .int .i64 b, .int .i64 0, .int .i64 0]] w _
        go_enter Tryd.func28, Tryd.ntmps28
        go_upto_region 11 with fail
        go_region
        go_wp2_with fail
        go_ret3
        exact fld_yes (x := [4, p, a, b, 0, 0]) (ns := [p, b, a]) rfl (by simp [lineL, wordL, fldL, getF, zeroF, base6, cellN])
      · have gb : (b == 0) = false := by simpa using hb
        have gd : (d == 0) = false := by simpa using hd
        show Calls _ _ #[.agg #[.int .i64 4, .int .i64 p, .int .i64 a, .int .i64 b, .int .i64 0, .int .i64 d]] w _
        go_enter Tryd.func28, Tryd.ntmps28
        go_upto_region 11 with fail
        go_region
        go_wp2_with fail
        go_ret3
        exact fld_no (x := [4, p, a, b, 0, d]) (wd := wordL 4) ((((Kept.refl [] w).alloc _).alloc _).drew) (by simp [lineL, wordL, fldL, zeroF, base6, cellN, hd])
    · by_cases hd : d = 0
      · subst hd
        have gb : (b == 0) = false := by simpa using hb
        have gc : (c == 0) = false := by simpa using hc
        show Calls _ _ #[.agg #[.int .i64 4, .int .i64 p, .int .i64 a, .int .i64 b, .int .i64 c, .int .i64 0]] w _
        go_enter Tryd.func28, Tryd.ntmps28
        go_upto_region 11 with fail
        go_region
        go_wp2_with fail
        go_ret3
        exact fld_no (x := [4, p, a, b, c, 0]) (wd := wordL 4) ((((Kept.refl [] w).alloc _).alloc _).drew) (by simp [lineL, wordL, fldL, zeroF, base6, cellN, hc])
      · have gb : (b == 0) = false := by simpa using hb
        have gc : (c == 0) = false := by simpa using hc
        have gd : (d == 0) = false := by simpa using hd
        show Calls _ _ #[.agg #[.int .i64 4, .int .i64 p, .int .i64 a, .int .i64 b, .int .i64 c, .int .i64 d]] w _
        go_enter Tryd.func28, Tryd.ntmps28
        go_upto_region 11 with fail
        go_region
        go_wp2_with fail
        go_ret3
        exact fld_no (x := [4, p, a, b, c, d]) (wd := wordL 4) ((((Kept.refl [] w).alloc _).alloc _).drew) (by simp [lineL, wordL, fldL, zeroF, base6, cellN, hc, hd])
set_option maxRecDepth 100000 in
set_option maxHeartbeats 12800000 in
theorem fields_5 (p a b c d : Int) (w : World) : Calls Tryd.prog 28 #[actV [5, p, a, b, c, d]] w fun e w' => FldQ [5, p, a, b, c, d] w w' e := by
  by_cases hb : b = 0
  · subst hb
    by_cases hc : c = 0
    · subst hc
      by_cases hd : d = 0
      · subst hd
        show Calls _ _ #[.agg #[.int .i64 5, .int .i64 p, .int .i64 a, .int .i64 0, .int .i64 0, .int .i64 0]] w _
        go_enter Tryd.func28, Tryd.ntmps28
        go_upto_region 13 with fail
        go_region
        go_wp2_with fail
        go_ret3
        exact fld_yes (x := [5, p, a, 0, 0, 0]) (ns := [p, 0, a]) rfl (by simp [lineL, wordL, fldL, getF, zeroF, base6, cellN])
      · have gd : (d == 0) = false := by simpa using hd
        show Calls _ _ #[.agg #[.int .i64 5, .int .i64 p, .int .i64 a, .int .i64 0, .int .i64 0, .int .i64 d]] w _
        go_enter Tryd.func28, Tryd.ntmps28
        go_upto_region 13 with fail
        go_region
        go_wp2_with fail
        go_ret3
        exact fld_no (x := [5, p, a, 0, 0, d]) (wd := wordL 5) ((((Kept.refl [] w).alloc _).alloc _).drew) (by simp [lineL, wordL, fldL, zeroF, base6, cellN, hd])
    · by_cases hd : d = 0
      · subst hd
        have gc : (c == 0) = false := by simpa using hc
        show Calls _ _ #[.agg #[.int .i64 5, .int .i64 p, .int .i64 a, .int .i64 0, .int .i64 c, .int .i64 0]] w _
        go_enter Tryd.func28, Tryd.ntmps28
        go_upto_region 13 with fail
        go_region
        go_wp2_with fail
        go_ret3
        exact fld_no (x := [5, p, a, 0, c, 0]) (wd := wordL 5) ((((Kept.refl [] w).alloc _).alloc _).drew) (by simp [lineL, wordL, fldL, zeroF, base6, cellN, hc])
      · have gc : (c == 0) = false := by simpa using hc
        have gd : (d == 0) = false := by simpa using hd
        show Calls _ _ #[.agg #[.int .i64 5, .int .i64 p, .int .i64 a, .int .i64 0, .int .i64 c, .int .i64 d]] w _
        go_enter Tryd.func28, Tryd.ntmps28
        go_upto_region 13 with fail
        go_region
        go_wp2_with fail
        go_ret3
        exact fld_no (x := [5, p, a, 0, c, d]) (wd := wordL 5) ((((Kept.refl [] w).alloc _).alloc _).drew) (by simp [lineL, wordL, fldL, zeroF, base6, cellN, hc, hd])
  · by_cases hc : c = 0
    · subst hc
      by_cases hd : d = 0
      · subst hd
        have gb : (b == 0) = false := by simpa using hb
        show Calls _ _ #[.agg #[.int .i64 5, .int .i64 p, .int .i64 a, .int .i64 b, .int .i64 0, .int .i64 0]] w _
        go_enter Tryd.func28, Tryd.ntmps28
        go_upto_region 13 with fail
        go_region
        go_wp2_with fail
        go_ret3
        exact fld_yes (x := [5, p, a, b, 0, 0]) (ns := [p, b, a]) rfl (by simp [lineL, wordL, fldL, getF, zeroF, base6, cellN])
      · have gb : (b == 0) = false := by simpa using hb
        have gd : (d == 0) = false := by simpa using hd
        show Calls _ _ #[.agg #[.int .i64 5, .int .i64 p, .int .i64 a, .int .i64 b, .int .i64 0, .int .i64 d]] w _
        go_enter Tryd.func28, Tryd.ntmps28
        go_upto_region 13 with fail
        go_region
        go_wp2_with fail
        go_ret3
        exact fld_no (x := [5, p, a, b, 0, d]) (wd := wordL 5) ((((Kept.refl [] w).alloc _).alloc _).drew) (by simp [lineL, wordL, fldL, zeroF, base6, cellN, hd])
    · by_cases hd : d = 0
      · subst hd
        have gb : (b == 0) = false := by simpa using hb
        have gc : (c == 0) = false := by simpa using hc
        show Calls _ _ #[.agg #[.int .i64 5, .int .i64 p, .int .i64 a, .int .i64 b, .int .i64 c, .int .i64 0]] w _
        go_enter Tryd.func28, Tryd.ntmps28
        go_upto_region 13 with fail
        go_region
        go_wp2_with fail
        go_ret3
        exact fld_no (x := [5, p, a, b, c, 0]) (wd := wordL 5) ((((Kept.refl [] w).alloc _).alloc _).drew) (by simp [lineL, wordL, fldL, zeroF, base6, cellN, hc])
      · have gb : (b == 0) = false := by simpa using hb
        have gc : (c == 0) = false := by simpa using hc
        have gd : (d == 0) = false := by simpa using hd
        show Calls _ _ #[.agg #[.int .i64 5, .int .i64 p, .int .i64 a, .int .i64 b, .int .i64 c, .int .i64 d]] w _
        go_enter Tryd.func28, Tryd.ntmps28
        go_upto_region 13 with fail
        go_region
        go_wp2_with fail
        go_ret3
        exact fld_no (x := [5, p, a, b, c, d]) (wd := wordL 5) ((((Kept.refl [] w).alloc _).alloc _).drew) (by simp [lineL, wordL, fldL, zeroF, base6, cellN, hc, hd])
end Go.Proofs.YtdfbofkdlgfblaaDoor
