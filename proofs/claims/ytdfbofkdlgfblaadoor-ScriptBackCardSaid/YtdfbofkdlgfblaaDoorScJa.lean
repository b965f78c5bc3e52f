/- Fields of the document, at some kinds. -/
import Derived.Test.YtdfbofkdlgfblaaDoorScJ
namespace Go.Proofs.YtdfbofkdlgfblaaDoor
open Go Go.RowKit
set_option maxRecDepth 100000 in
set_option maxHeartbeats 12800000 in
theorem fields_1 (p a b c d : Int) (w : World) : Calls Tryd.prog 28 #[actV [1, p, a, b, c, d]] w fun e w' => FldQ [1, p, a, b, c, d] w w' e := by
  by_cases hb : b = 0
  · subst hb
    by_cases hc : c = 0
    · subst hc
      by_cases hd : d = 0
      · subst hd
        by_cases hp : p = 0
        · subst hp
          show Calls _ _ #[.agg #[.int .i64 1, .int .i64 0, .int .i64 a, .int .i64 0, .int .i64 0, .int .i64 0]] w _
          go_enter Tryd.func28, Tryd.ntmps28
          go_upto_region 5 with fail
          go_region
          go_wp2_with fail
          go_ret3
          exact fld_yes (x := [1, 0, a, 0, 0, 0]) (ns := [a]) rfl (by simp [lineL, wordL, fldL, getF, zeroF, base6, cellN])
        · have gp : (p == 0) = false := by simpa using hp
          show Calls _ _ #[.agg #[.int .i64 1, .int .i64 p, .int .i64 a, .int .i64 0, .int .i64 0, .int .i64 0]] w _
          go_enter Tryd.func28, Tryd.ntmps28
          go_upto_region 5 with fail
          go_region
          go_wp2_with fail
          go_ret3
          exact fld_no (x := [1, p, a, 0, 0, 0]) (wd := wordL 1) ((((Kept.refl [] w).alloc _).alloc _).drew) (by simp [lineL, wordL, fldL, zeroF, base6, cellN, hp])
      · by_cases hp : p = 0
        · subst hp
          have gd : (d == 0) = false := by simpa using hd
          show Calls _ _ #[.agg #[.int .i64 1, .int .i64 0, .int .i64 a, .int .i64 0, .int .i64 0, .int .i64 d]] w _
          go_enter Tryd.func28, Tryd.ntmps28
          go_upto_region 5 with fail
          go_region
          go_wp2_with fail
          go_ret3
          exact fld_no (x := [1, 0, a, 0, 0, d]) (wd := wordL 1) ((((Kept.refl [] w).alloc _).alloc _).drew) (by simp [lineL, wordL, fldL, zeroF, base6, cellN, hd])
        · have gd : (d == 0) = false := by simpa using hd
          have gp : (p == 0) = false := by simpa using hp
          show Calls _ _ #[.agg #[.int .i64 1, .int .i64 p, .int .i64 a, .int .i64 0, .int .i64 0, .int .i64 d]] w _
          go_enter Tryd.func28, Tryd.ntmps28
          go_upto_region 5 with fail
          go_region
          go_wp2_with fail
          go_ret3
          exact fld_no (x := [1, p, a, 0, 0, d]) (wd := wordL 1) ((((Kept.refl [] w).alloc _).alloc _).drew) (by simp [lineL, wordL, fldL, zeroF, base6, cellN, hd, hp])
    · by_cases hd : d = 0
      · subst hd
        by_cases hp : p = 0
        · subst hp
          have gc : (c == 0) = false := by simpa using hc
          show Calls _ _ #[.agg #[.int .i64 1, .int .i64 0, .int .i64 a, .int .i64 0, .int .i64 c, .int .i64 0]] w _
          go_enter Tryd.func28, Tryd.ntmps28
          go_upto_region 5 with fail
          go_region
          go_wp2_with fail
          go_ret3
          exact fld_no (x := [1, 0, a, 0, c, 0]) (wd := wordL 1) ((((Kept.refl [] w).alloc _).alloc _).drew) (by simp [lineL, wordL, fldL, zeroF, base6, cellN, hc])
        · have gc : (c == 0) = false := by simpa using hc
          have gp : (p == 0) = false := by simpa using hp
          show Calls _ _ #[.agg #[.int .i64 1, .int .i64 p, .int .i64 a, .int .i64 0, .int .i64 c, .int .i64 0]] w _
          go_enter Tryd.func28, Tryd.ntmps28
          go_upto_region 5 with fail
          go_region
          go_wp2_with fail
          go_ret3
          exact fld_no (x := [1, p, a, 0, c, 0]) (wd := wordL 1) ((((Kept.refl [] w).alloc _).alloc _).drew) (by simp [lineL, wordL, fldL, zeroF, base6, cellN, hc, hp])
      · by_cases hp : p = 0
        · subst hp
          have gc : (c == 0) = false := by simpa using hc
          have gd : (d == 0) = false := by simpa using hd
          show Calls _ _ #[.agg #[.int .i64 1, .int .i64 0, .int .i64 a, .int .i64 0, .int .i64 c, .int .i64 d]] w _
          go_enter Tryd.func28, Tryd.ntmps28
          go_upto_region 5 with fail
          go_region
          go_wp2_with fail
          go_ret3
          exact fld_no (x := [1, 0, a, 0, c, d]) (wd := wordL 1) ((((Kept.refl [] w).alloc _).alloc _).drew) (by simp [lineL, wordL, fldL, zeroF, base6, cellN, hc, hd])
        · have gc : (c == 0) = false := by simpa using hc
          have gd : (d == 0) = false := by simpa using hd
          have gp : (p == 0) = false := by simpa using hp
          show Calls _ _ #[.agg #[.int .i64 1, .int .i64 p, .int .i64 a, .int .i64 0, .int .i64 c, .int .i64 d]] w _
          go_enter Tryd.func28, Tryd.ntmps28
          go_upto_region 5 with fail
          go_region
          go_wp2_with fail
          go_ret3
          exact fld_no (x := [1, p, a, 0, c, d]) (wd := wordL 1) ((((Kept.refl [] w).alloc _).alloc _).drew) (by simp [lineL, wordL, fldL, zeroF, base6, cellN, hc, hd, hp])
  · by_cases hc : c = 0
    · subst hc
      by_cases hd : d = 0
      · subst hd
        by_cases hp : p = 0
        · subst hp
          have gb : (b == 0) = false := by simpa using hb
          show Calls _ _ #[.agg #[.int .i64 1, .int .i64 0, .int .i64 a, .int .i64 b, .int .i64 0, .int .i64 0]] w _
          go_enter Tryd.func28, Tryd.ntmps28
          go_upto_region 5 with fail
          go_region
          go_wp2_with fail
          go_ret3
          exact fld_no (x := [1, 0, a, b, 0, 0]) (wd := wordL 1) ((((Kept.refl [] w).alloc _).alloc _).drew) (by simp [lineL, wordL, fldL, zeroF, base6, cellN, hb])
        · have gb : (b == 0) = false := by simpa using hb
          have gp : (p == 0) = false := by simpa using hp
          show Calls _ _ #[.agg #[.int .i64 1, .int .i64 p, .int .i64 a, .int .i64 b, .int .i64 0, .int .i64 0]] w _
          go_enter Tryd.func28, Tryd.ntmps28
          go_upto_region 5 with fail
          go_region
          go_wp2_with fail
          go_ret3
          exact fld_no (x := [1, p, a, b, 0, 0]) (wd := wordL 1) ((((Kept.refl [] w).alloc _).alloc _).drew) (by simp [lineL, wordL, fldL, zeroF, base6, cellN, hb, hp])
      · by_cases hp : p = 0
        · subst hp
          have gb : (b == 0) = false := by simpa using hb
          have gd : (d == 0) = false := by simpa using hd
          show Calls _ _ #[.agg #[.int .i64 1, .int .i64 0, .int .i64 a, .int .i64 b, .int .i64 0, .int .i64 d]] w _
          go_enter Tryd.func28, Tryd.ntmps28
          go_upto_region 5 with fail
          go_region
          go_wp2_with fail
          go_ret3
          exact fld_no (x := [1, 0, a, b, 0, d]) (wd := wordL 1) ((((Kept.refl [] w).alloc _).alloc _).drew) (by simp [lineL, wordL, fldL, zeroF, base6, cellN, hb, hd])
        · have gb : (b == 0) = false := by simpa using hb
          have gd : (d == 0) = false := by simpa using hd
          have gp : (p == 0) = false := by simpa using hp
          show Calls _ _ #[.agg #[.int .i64 1, .int .i64 p, .int .i64 a, .int .i64 b, .int .i64 0, .int .i64 d]] w _
          go_enter Tryd.func28, Tryd.ntmps28
          go_upto_region 5 with fail
          go_region
          go_wp2_with fail
          go_ret3
          exact fld_no (x := [1, p, a, b, 0, d]) (wd := wordL 1) ((((Kept.refl [] w).alloc _).alloc _).drew) (by simp [lineL, wordL, fldL, zeroF, base6, cellN, hb, hd, hp])
    · by_cases hd : d = 0
      · subst hd
        by_cases hp : p = 0
        · subst hp
          have gb : (b == 0) = false := by simpa using hb
          have gc : (c == 0) = false := by simpa using hc
          show Calls _ _ #[.agg #[.int .i64 1, .int .i64 0, .int .i64 a, .int .i64 b, .int .i64 c, .int .i64 0]] w _
          go_enter Tryd.func28, Tryd.ntmps28
          go_upto_region 5 with fail
          go_region
          go_wp2_with fail
          go_ret3
          exact fld_no (x := [1, 0, a, b, c, 0]) (wd := wordL 1) ((((Kept.refl [] w).alloc _).alloc _).drew) (by simp [lineL, wordL, fldL, zeroF, base6, cellN, hb, hc])
        · have gb : (b == 0) = false := by simpa using hb
          have gc : (c == 0) = false := by simpa using hc
          have gp : (p == 0) = false := by simpa using hp
          show Calls _ _ #[.agg #[.int .i64 1, .int .i64 p, .int .i64 a, .int .i64 b, .int .i64 c, .int .i64 0]] w _
          go_enter Tryd.func28, Tryd.ntmps28
          go_upto_region 5 with fail
          go_region
          go_wp2_with fail
          go_ret3
          exact fld_no (x := [1, p, a, b, c, 0]) (wd := wordL 1) ((((Kept.refl [] w).alloc _).alloc _).drew) (by simp [lineL, wordL, fldL, zeroF, base6, cellN, hb, hc, hp])
      · by_cases hp : p = 0
        · subst hp
          have gb : (b == 0) = false := by simpa using hb
          have gc : (c == 0) = false := by simpa using hc
          have gd : (d == 0) = false := by simpa using hd
          show Calls _ _ #[.agg #[.int .i64 1, .int .i64 0, .int .i64 a, .int .i64 b, .int .i64 c, .int .i64 d]] w _
          go_enter Tryd.func28, Tryd.ntmps28
          go_upto_region 5 with fail
          go_region
          go_wp2_with fail
          go_ret3
          exact fld_no (x := [1, 0, a, b, c, d]) (wd := wordL 1) ((((Kept.refl [] w).alloc _).alloc _).drew) (by simp [lineL, wordL, fldL, zeroF, base6, cellN, hb, hc, hd])
        · have gb : (b == 0) = false := by simpa using hb
          have gc : (c == 0) = false := by simpa using hc
          have gd : (d == 0) = false := by simpa using hd
          have gp : (p == 0) = false := by simpa using hp
          show Calls _ _ #[.agg #[.int .i64 1, .int .i64 p, .int .i64 a, .int .i64 b, .int .i64 c, .int .i64 d]] w _
          go_enter Tryd.func28, Tryd.ntmps28
          go_upto_region 5 with fail
          go_region
          go_wp2_with fail
          go_ret3
          exact fld_no (x := [1, p, a, b, c, d]) (wd := wordL 1) ((((Kept.refl [] w).alloc _).alloc _).drew) (by simp [lineL, wordL, fldL, zeroF, base6, cellN, hb, hc, hd, hp])
set_option maxRecDepth 100000 in
set_option maxHeartbeats 12800000 in
theorem fields_2 (p a b c d : Int) (w : World) : Calls Tryd.prog 28 #[actV [2, p, a, b, c, d]] w fun e w' => FldQ [2, p, a, b, c, d] w w' e := by
  by_cases hb : b = 0
  · subst hb
    by_cases hc : c = 0
    · subst hc
      by_cases hd : d = 0
      · subst hd
        show Calls _ _ #[.agg #[.int .i64 2, .int .i64 p, .int .i64 a, .int .i64 0, .int .i64 0, .int .i64 0]] w _
        go_enter Tryd.func28, Tryd.ntmps28
        go_upto_region 7 with fail
        go_region
        go_wp2_with fail
        go_ret3
        exact fld_yes (x := [2, p, a, 0, 0, 0]) (ns := [p, a]) rfl (by simp [lineL, wordL, fldL, getF, zeroF, base6, cellN])
      · have gd : (d == 0) = false := by simpa using hd
        show Calls _ _ #[.agg #[.int .i64 2, .int .i64 p, .int .i64 a, .int .i64 0, .int .i64 0, .int .i64 d]] w _
        go_enter Tryd.func28, Tryd.ntmps28
        go_upto_region 7 with fail
        go_region
        go_wp2_with fail
        go_ret3
        exact fld_no (x := [2, p, a, 0, 0, d]) (wd := wordL 2) ((((Kept.refl [] w).alloc _).alloc _).drew) (by simp [lineL, wordL, fldL, zeroF, base6, cellN, hd])
    · by_cases hd : d = 0
      · subst hd
        have gc : (c == 0) = false := by simpa using hc
        show Calls _ _ #[.agg #[.int .i64 2, .int .i64 p, .int .i64 a, .int .i64 0, .int .i64 c, .int .i64 0]] w _
        go_enter Tryd.func28, Tryd.ntmps28
        go_upto_region 7 with fail
        go_region
        go_wp2_with fail
        go_ret3
        exact fld_no (x := [2, p, a, 0, c, 0]) (wd := wordL 2) ((((Kept.refl [] w).alloc _).alloc _).drew) (by simp [lineL, wordL, fldL, zeroF, base6, cellN, hc])
      · have gc : (c == 0) = false := by simpa using hc
        have gd : (d == 0) = false := by simpa using hd
        show Calls _ _ #[.agg #[.int .i64 2, .int .i64 p, .int .i64 a, .int .i64 0, .int .i64 c, .int .i64 d]] w _
        go_enter Tryd.func28, Tryd.ntmps28
        go_upto_region 7 with fail
        go_region
        go_wp2_with fail
        go_ret3
        exact fld_no (x := [2, p, a, 0, c, d]) (wd := wordL 2) ((((Kept.refl [] w).alloc _).alloc _).drew) (by simp [lineL, wordL, fldL, zeroF, base6, cellN, hc, hd])
  · by_cases hc : c = 0
    · subst hc
      by_cases hd : d = 0
      · subst hd
        have gb : (b == 0) = false := by simpa using hb
        show Calls _ _ #[.agg #[.int .i64 2, .int .i64 p, .int .i64 a, .int .i64 b, .int .i64 0, .int .i64 0]] w _
        go_enter Tryd.func28, Tryd.ntmps28
        go_upto_region 7 with fail
        go_region
        go_wp2_with fail
        go_ret3
        exact fld_no (x := [2, p, a, b, 0, 0]) (wd := wordL 2) ((((Kept.refl [] w).alloc _).alloc _).drew) (by simp [lineL, wordL, fldL, zeroF, base6, cellN, hb])
      · have gb : (b == 0) = false := by simpa using hb
        have gd : (d == 0) = false := by simpa using hd
        show Calls _ _ #[.agg #[.int .i64 2, .int .i64 p, .int .i64 a, .int .i64 b, .int .i64 0, .int .i64 d]] w _
        go_enter Tryd.func28, Tryd.ntmps28
        go_upto_region 7 with fail
        go_region
        go_wp2_with fail
        go_ret3
        exact fld_no (x := [2, p, a, b, 0, d]) (wd := wordL 2) ((((Kept.refl [] w).alloc _).alloc _).drew) (by simp [lineL, wordL, fldL, zeroF, base6, cellN, hb, hd])
    · by_cases hd : d = 0
      · subst hd
        have gb : (b == 0) = false := by simpa using hb
        have gc : (c == 0) = false := by simpa using hc
        show Calls _ _ #[.agg #[.int .i64 2, .int .i64 p, .int .i64 a, .int .i64 b, .int .i64 c, .int .i64 0]] w _
        go_enter Tryd.func28, Tryd.ntmps28
        go_upto_region 7 with fail
        go_region
        go_wp2_with fail
        go_ret3
        exact fld_no (x := [2, p, a, b, c, 0]) (wd := wordL 2) ((((Kept.refl [] w).alloc _).alloc _).drew) (by simp [lineL, wordL, fldL, zeroF, base6, cellN, hb, hc])
      · have gb : (b == 0) = false := by simpa using hb
        have gc : (c == 0) = false := by simpa using hc
        have gd : (d == 0) = false := by simpa using hd
        show Calls _ _ #[.agg #[.int .i64 2, .int .i64 p, .int .i64 a, .int .i64 b, .int .i64 c, .int .i64 d]] w _
        go_enter Tryd.func28, Tryd.ntmps28
        go_upto_region 7 with fail
        go_region
        go_wp2_with fail
        go_ret3
        exact fld_no (x := [2, p, a, b, c, d]) (wd := wordL 2) ((((Kept.refl [] w).alloc _).alloc _).drew) (by simp [lineL, wordL, fldL, zeroF, base6, cellN, hb, hc, hd])
set_option maxRecDepth 100000 in
set_option maxHeartbeats 12800000 in
theorem fields_3 (p a b c d : Int) (w : World) : Calls Tryd.prog 28 #[actV [3, p, a, b, c, d]] w fun e w' => FldQ [3, p, a, b, c, d] w w' e := by
  by_cases hb : b = 0
  · subst hb
    by_cases hc : c = 0
    · subst hc
      by_cases hd : d = 0
      · subst hd
        show Calls _ _ #[.agg #[.int .i64 3, .int .i64 p, .int .i64 a, .int .i64 0, .int .i64 0, .int .i64 0]] w _
        go_enter Tryd.func28, Tryd.ntmps28
        go_upto_region 9 with fail
        go_region
        go_wp2_with fail
        go_ret3
        exact fld_yes (x := [3, p, a, 0, 0, 0]) (ns := [p, 0, a]) rfl (by simp [lineL, wordL, fldL, getF, zeroF, base6, cellN])
      · have gd : (d == 0) = false := by simpa using hd
        show Calls _ _ #[.agg #[.int .i64 3, .int .i64 p, .int .i64 a, .int .i64 0, .int .i64 0, .int .i64 d]] w _
        go_enter Tryd.func28, Tryd.ntmps28
        go_upto_region 9 with fail
        go_region
        go_wp2_with fail
        go_ret3
        exact fld_no (x := [3, p, a, 0, 0, d]) (wd := wordL 3) ((((Kept.refl [] w).alloc _).alloc _).drew) (by simp [lineL, wordL, fldL, zeroF, base6, cellN, hd])
    · by_cases hd : d = 0
      · subst hd
        have gc : (c == 0) = false := by simpa using hc
        show Calls _ _ #[.agg #[.int .i64 3, .int .i64 p, .int .i64 a, .int .i64 0, .int .i64 c, .int .i64 0]] w _
        go_enter Tryd.func28, Tryd.ntmps28
        go_upto_region 9 with fail
        go_region
        go_wp2_with fail
        go_ret3
        exact fld_no (x := [3, p, a, 0, c, 0]) (wd := wordL 3) ((((Kept.refl [] w).alloc _).alloc _).drew) (by simp [lineL, wordL, fldL, zeroF, base6, cellN, hc])
      · have gc : (c == 0) = false := by simpa using hc
        have gd : (d == 0) = false := by simpa using hd
        show Calls _ _ #[.agg #[.int .i64 3, .int .i64 p, .int .i64 a, .int .i64 0, .int .i64 c, .int .i64 d]] w _
        go_enter Tryd.func28, Tryd.ntmps28
        go_upto_region 9 with fail
        go_region
        go_wp2_with fail
        go_ret3
        exact fld_no (x := [3, p, a, 0, c, d]) (wd := wordL 3) ((((Kept.refl [] w).alloc _).alloc _).drew) (by simp [lineL, wordL, fldL, zeroF, base6, cellN, hc, hd])
  · by_cases hc : c = 0
    · subst hc
      by_cases hd : d = 0
      · subst hd
        have gb : (b == 0) = false := by simpa using hb
        show Calls _ _ #[.agg #[.int .i64 3, .int .i64 p, .int .i64 a, .int .i64 b, .int .i64 0, .int .i64 0]] w _
        go_enter Tryd.func28, Tryd.ntmps28
        go_upto_region 9 with fail
        go_region
        go_wp2_with fail
        go_ret3
        exact fld_yes (x := [3, p, a, b, 0, 0]) (ns := [p, b, a]) rfl (by simp [lineL, wordL, fldL, getF, zeroF, base6, cellN])
      · have gb : (b == 0) = false := by simpa using hb
        have gd : (d == 0) = false := by simpa using hd
        show Calls _ _ #[.agg #[.int .i64 3, .int .i64 p, .int .i64 a, .int .i64 b, .int .i64 0, .int .i64 d]] w _
        go_enter Tryd.func28, Tryd.ntmps28
        go_upto_region 9 with fail
        go_region
        go_wp2_with fail
        go_ret3
        exact fld_no (x := [3, p, a, b, 0, d]) (wd := wordL 3) ((((Kept.refl [] w).alloc _).alloc _).drew) (by simp [lineL, wordL, fldL, zeroF, base6, cellN, hd])
    · by_cases hd : d = 0
      · subst hd
        have gb : (b == 0) = false := by simpa using hb
        have gc : (c == 0) = false := by simpa using hc
        show Calls _ _ #[.agg #[.int .i64 3, .int .i64 p, .int .i64 a, .int .i64 b, .int .i64 c, .int .i64 0]] w _
        go_enter Tryd.func28, Tryd.ntmps28
        go_upto_region 9 with fail
        go_region
        go_wp2_with fail
        go_ret3
        exact fld_no (x := [3, p, a, b, c, 0]) (wd := wordL 3) ((((Kept.refl [] w).alloc _).alloc _).drew) (by simp [lineL, wordL, fldL, zeroF, base6, cellN, hc])
      · have gb : (b == 0) = false := by simpa using hb
        have gc : (c == 0) = false := by simpa using hc
        have gd : (d == 0) = false := by simpa using hd
        show Calls _ _ #[.agg #[.int .i64 3, .int .i64 p, .int .i64 a, .int .i64 b, .int .i64 c, .int .i64 d]] w _
        go_enter Tryd.func28, Tryd.ntmps28
        go_upto_region 9 with fail
        go_region
        go_wp2_with fail
        go_ret3
        exact fld_no (x := [3, p, a, b, c, d]) (wd := wordL 3) ((((Kept.refl [] w).alloc _).alloc _).drew) (by simp [lineL, wordL, fldL, zeroF, base6, cellN, hc, hd])
end Go.Proofs.YtdfbofkdlgfblaaDoor
