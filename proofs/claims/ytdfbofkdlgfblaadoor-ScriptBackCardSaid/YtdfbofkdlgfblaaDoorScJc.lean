/- Fields of the document, at some kinds. -/
import Derived.Test.YtdfbofkdlgfblaaDoorScJ
namespace Go.Proofs.YtdfbofkdlgfblaaDoor
open Go Go.RowKit
set_option maxRecDepth 100000 in
set_option maxHeartbeats 12800000 in
theorem fields_6 (p a b c d : Int) (w : World) : Calls Tryd.prog 28 #[actV [6, p, a, b, c, d]] w fun e w' => FldQ [6, p, a, b, c, d] w w' e := by
  by_cases hb : b = 0
  · subst hb
    by_cases hc : c = 0
    · subst hc
      by_cases hd : d = 0
      · subst hd
        by_cases ha : a = 0
        · subst ha
          show Calls _ _ #[.agg #[.int .i64 6, .int .i64 p, .int .i64 0, .int .i64 0, .int .i64 0, .int .i64 0]] w _
          go_enter Tryd.func28, Tryd.ntmps28
          go_upto_region 15 with fail
          go_region
          go_wp2_with fail
          go_ret3
          exact fld_yes (x := [6, p, 0, 0, 0, 0]) (ns := [p, 0, 0, 0]) rfl (by simp [lineL, wordL, fldL, getF, zeroF, base6, cellN])
        · have ga : (a == 0) = false := by simpa using ha
          show Calls _ _ #[.agg #[.int .i64 6, .int .i64 p, .int .i64 a, .int .i64 0, .int .i64 0, .int .i64 0]] w _
          go_enter Tryd.func28, Tryd.ntmps28
          go_upto_region 15 with fail
          go_region
          go_wp2_with fail
          go_ret3
          exact fld_no (x := [6, p, a, 0, 0, 0]) (wd := wordL 6) ((((Kept.refl [] w).alloc _).alloc _).drew) (by simp [lineL, wordL, fldL, zeroF, base6, cellN, ha])
      · by_cases ha : a = 0
        · subst ha
          have gd : (d == 0) = false := by simpa using hd
          show Calls _ _ #[.agg #[.int .i64 6, .int .i64 p, .int .i64 0, .int .i64 0, .int .i64 0, .int .i64 d]] w _
          go_enter Tryd.func28, Tryd.ntmps28
          go_upto_region 15 with fail
          go_region
          go_wp2_with fail
          go_ret3
          exact fld_yes (x := [6, p, 0, 0, 0, d]) (ns := [p, 0, 0, d]) rfl (by simp [lineL, wordL, fldL, getF, zeroF, base6, cellN])
        · have gd : (d == 0) = false := by simpa using hd
          have ga : (a == 0) = false := by simpa using ha
          show Calls _ _ #[.agg #[.int .i64 6, .int .i64 p, .int .i64 a, .int .i64 0, .int .i64 0, .int .i64 d]] w _
          go_enter Tryd.func28, Tryd.ntmps28
          go_upto_region 15 with fail
          go_region
          go_wp2_with fail
          go_ret3
          exact fld_no (x := [6, p, a, 0, 0, d]) (wd := wordL 6) ((((Kept.refl [] w).alloc _).alloc _).drew) (by simp [lineL, wordL, fldL, zeroF, base6, cellN, ha])
    · by_cases hd : d = 0
      · subst hd
        by_cases ha : a = 0
        · subst ha
          have gc : (c == 0) = false := by simpa using hc
          show Calls _ _ #[.agg #[.int .i64 6, .int .i64 p, .int .i64 0, .int .i64 0, .int .i64 c, .int .i64 0]] w _
          go_enter Tryd.func28, Tryd.ntmps28
          go_upto_region 15 with fail
          go_region
          go_wp2_with fail
          go_ret3
          exact fld_yes (x := [6, p, 0, 0, c, 0]) (ns := [p, 0, c, 0]) rfl (by simp [lineL, wordL, fldL, getF, zeroF, base6, cellN])
        · have gc : (c == 0) = false := by simpa using hc
          have ga : (a == 0) = false := by simpa using ha
          show Calls _ _ #[.agg #[.int .i64 6, .int .i64 p, .int .i64 a, .int .i64 0, .int .i64 c, .int .i64 0]] w _
          go_enter Tryd.func28, Tryd.ntmps28
          go_upto_region 15 with fail
          go_region
          go_wp2_with fail
          go_ret3
          exact fld_no (x := [6, p, a, 0, c, 0]) (wd := wordL 6) ((((Kept.refl [] w).alloc _).alloc _).drew) (by simp [lineL, wordL, fldL, zeroF, base6, cellN, ha])
      · by_cases ha : a = 0
        · subst ha
          have gc : (c == 0) = false := by simpa using hc
          have gd : (d == 0) = false := by simpa using hd
          show Calls _ _ #[.agg #[.int .i64 6, .int .i64 p, .int .i64 0, .int .i64 0, .int .i64 c, .int .i64 d]] w _
          go_enter Tryd.func28, Tryd.ntmps28
          go_upto_region 15 with fail
          go_region
          go_wp2_with fail
          go_ret3
          exact fld_yes (x := [6, p, 0, 0, c, d]) (ns := [p, 0, c, d]) rfl (by simp [lineL, wordL, fldL, getF, zeroF, base6, cellN])
        · have gc : (c == 0) = false := by simpa using hc
          have gd : (d == 0) = false := by simpa using hd
          have ga : (a == 0) = false := by simpa using ha
          show Calls _ _ #[.agg #[.int .i64 6, .int .i64 p, .int .i64 a, .int .i64 0, .int .i64 c, .int .i64 d]] w _
          go_enter Tryd.func28, Tryd.ntmps28
          go_upto_region 15 with fail
          go_region
          go_wp2_with fail
          go_ret3
          exact fld_no (x := [6, p, a, 0, c, d]) (wd := wordL 6) ((((Kept.refl [] w).alloc _).alloc _).drew) (by simp [lineL, wordL, fldL, zeroF, base6, cellN, ha])
  · by_cases hc : c = 0
    · subst hc
      by_cases hd : d = 0
      · subst hd
        by_cases ha : a = 0
        · subst ha
          have gb : (b == 0) = false := by simpa using hb
          show Calls _ _ #[.agg #[.int .i64 6, .int .i64 p, .int .i64 0, .int .i64 b, .int .i64 0, .int .i64 0]] w _
          go_enter Tryd.func28, Tryd.ntmps28
          go_upto_region 15 with fail
          go_region
          go_wp2_with fail
          go_ret3
          exact fld_yes (x := [6, p, 0, b, 0, 0]) (ns := [p, b, 0, 0]) rfl (by simp [lineL, wordL, fldL, getF, zeroF, base6, cellN])
        · have gb : (b == 0) = false := by simpa using hb
          have ga : (a == 0) = false := by simpa using ha
          show Calls _ _ #[.agg #[.int .i64 6, .int .i64 p, .int .i64 a, .int .i64 b, .int .i64 0, .int .i64 0]] w _
          go_enter Tryd.func28, Tryd.ntmps28
          go_upto_region 15 with fail
          go_region
          go_wp2_with fail
          go_ret3
          exact fld_no (x := [6, p, a, b, 0, 0]) (wd := wordL 6) ((((Kept.refl [] w).alloc _).alloc _).drew) (by simp [lineL, wordL, fldL, zeroF, base6, cellN, ha])
      · by_cases ha : a = 0
        · subst ha
          have gb : (b == 0) = false := by simpa using hb
          have gd : (d == 0) = false := by simpa using hd
          show Calls _ _ #[.agg #[.int .i64 6, .int .i64 p, .int .i64 0, .int .i64 b, .int .i64 0, .int .i64 d]] w _
          go_enter Tryd.func28, Tryd.ntmps28
          go_upto_region 15 with fail
          go_region
          go_wp2_with fail
          go_ret3
          exact fld_yes (x := [6, p, 0, b, 0, d]) (ns := [p, b, 0, d]) rfl (by simp [lineL, wordL, fldL, getF, zeroF, base6, cellN])
        · have gb : (b == 0) = false := by simpa using hb
          have gd : (d == 0) = false := by simpa using hd
          have ga : (a == 0) = false := by simpa using ha
          show Calls _ _ #[.agg #[.int .i64 6, .int .i64 p, .int .i64 a, .int .i64 b, .int .i64 0, .int .i64 d]] w _
          go_enter Tryd.func28, Tryd.ntmps28
          go_upto_region 15 with fail
          go_region
          go_wp2_with fail
          go_ret3
          exact fld_no (x := [6, p, a, b, 0, d]) (wd := wordL 6) ((((Kept.refl [] w).alloc _).alloc _).drew) (by simp [lineL, wordL, fldL, zeroF, base6, cellN, ha])
    · by_cases hd : d = 0
      · subst hd
        by_cases ha : a = 0
        · subst ha
          have gb : (b == 0) = false := by simpa using hb
          have gc : (c == 0) = false := by simpa using hc
          show Calls _ _ #[.agg #[.int .i64 6, .int .i64 p, .int .i64 0, .int .i64 b, .int .i64 c, .int .i64 0]] w _
          go_enter Tryd.func28, Tryd.ntmps28
          go_upto_region 15 with fail
          go_region
          go_wp2_with fail
          go_ret3
          exact fld_yes (x := [6, p, 0, b, c, 0]) (ns := [p, b, c, 0]) rfl (by simp [lineL, wordL, fldL, getF, zeroF, base6, cellN])
        · have gb : (b == 0) = false := by simpa using hb
          have gc : (c == 0) = false := by simpa using hc
          have ga : (a == 0) = false := by simpa using ha
          show Calls _ _ #[.agg #[.int .i64 6, .int .i64 p, .int .i64 a, .int .i64 b, .int .i64 c, .int .i64 0]] w _
          go_enter Tryd.func28, Tryd.ntmps28
          go_upto_region 15 with fail
          go_region
          go_wp2_with fail
          go_ret3
          exact fld_no (x := [6, p, a, b, c, 0]) (wd := wordL 6) ((((Kept.refl [] w).alloc _).alloc _).drew) (by simp [lineL, wordL, fldL, zeroF, base6, cellN, ha])
      · by_cases ha : a = 0
        · subst ha
          have gb : (b == 0) = false := by simpa using hb
          have gc : (c == 0) = false := by simpa using hc
          have gd : (d == 0) = false := by simpa using hd
          show Calls _ _ #[.agg #[.int .i64 6, .int .i64 p, .int .i64 0, .int .i64 b, .int .i64 c, .int .i64 d]] w _
          go_enter Tryd.func28, Tryd.ntmps28
          go_upto_region 15 with fail
          go_region
          go_wp2_with fail
          go_ret3
          exact fld_yes (x := [6, p, 0, b, c, d]) (ns := [p, b, c, d]) rfl (by simp [lineL, wordL, fldL, getF, zeroF, base6, cellN])
        · have gb : (b == 0) = false := by simpa using hb
          have gc : (c == 0) = false := by simpa using hc
          have gd : (d == 0) = false := by simpa using hd
          have ga : (a == 0) = false := by simpa using ha
          show Calls _ _ #[.agg #[.int .i64 6, .int .i64 p, .int .i64 a, .int .i64 b, .int .i64 c, .int .i64 d]] w _
          go_enter Tryd.func28, Tryd.ntmps28
          go_upto_region 15 with fail
          go_region
          go_wp2_with fail
          go_ret3
          exact fld_no (x := [6, p, a, b, c, d]) (wd := wordL 6) ((((Kept.refl [] w).alloc _).alloc _).drew) (by simp [lineL, wordL, fldL, zeroF, base6, cellN, ha])
set_option maxRecDepth 100000 in
set_option maxHeartbeats 12800000 in
theorem fields_7 (p a b c d : Int) (w : World) : Calls Tryd.prog 28 #[actV [7, p, a, b, c, d]] w fun e w' => FldQ [7, p, a, b, c, d] w w' e := by
  by_cases hb : b = 0
  · subst hb
    by_cases hc : c = 0
    · subst hc
      by_cases hd : d = 0
      · subst hd
        show Calls _ _ #[.agg #[.int .i64 7, .int .i64 p, .int .i64 a, .int .i64 0, .int .i64 0, .int .i64 0]] w _
        go_enter Tryd.func28, Tryd.ntmps28
        go_upto_region 17 with fail
        go_region
        go_wp2_with fail
        go_ret3
        exact fld_yes (x := [7, p, a, 0, 0, 0]) (ns := [p, a]) rfl (by simp [lineL, wordL, fldL, getF, zeroF, base6, cellN])
      · have gd : (d == 0) = false := by simpa using hd
        show Calls _ _ #[.agg #[.int .i64 7, .int .i64 p, .int .i64 a, .int .i64 0, .int .i64 0, .int .i64 d]] w _
        go_enter Tryd.func28, Tryd.ntmps28
        go_upto_region 17 with fail
        go_region
        go_wp2_with fail
        go_ret3
        exact fld_no (x := [7, p, a, 0, 0, d]) (wd := wordL 7) ((((Kept.refl [] w).alloc _).alloc _).drew) (by simp [lineL, wordL, fldL, zeroF, base6, cellN, hd])
    · by_cases hd : d = 0
      · subst hd
        have gc : (c == 0) = false := by simpa using hc
        show Calls _ _ #[.agg #[.int .i64 7, .int .i64 p, .int .i64 a, .int .i64 0, .int .i64 c, .int .i64 0]] w _
        go_enter Tryd.func28, Tryd.ntmps28
        go_upto_region 17 with fail
        go_region
        go_wp2_with fail
        go_ret3
        exact fld_no (x := [7, p, a, 0, c, 0]) (wd := wordL 7) ((((Kept.refl [] w).alloc _).alloc _).drew) (by simp [lineL, wordL, fldL, zeroF, base6, cellN, hc])
      · have gc : (c == 0) = false := by simpa using hc
        have gd : (d == 0) = false := by simpa using hd
        show Calls _ _ #[.agg #[.int .i64 7, .int .i64 p, .int .i64 a, .int .i64 0, .int .i64 c, .int .i64 d]] w _
        go_enter Tryd.func28, Tryd.ntmps28
        go_upto_region 17 with fail
        go_region
        go_wp2_with fail
        go_ret3
        exact fld_no (x := [7, p, a, 0, c, d]) (wd := wordL 7) ((((Kept.refl [] w).alloc _).alloc _).drew) (by simp [lineL, wordL, fldL, zeroF, base6, cellN, hc, hd])
  · by_cases hc : c = 0
    · subst hc
      by_cases hd : d = 0
      · subst hd
        have gb : (b == 0) = false := by simpa using hb
        show Calls _ _ #[.agg #[.int .i64 7, .int .i64 p, .int .i64 a, .int .i64 b, .int .i64 0, .int .i64 0]] w _
        go_enter Tryd.func28, Tryd.ntmps28
        go_upto_region 17 with fail
        go_region
        go_wp2_with fail
        go_ret3
        exact fld_no (x := [7, p, a, b, 0, 0]) (wd := wordL 7) ((((Kept.refl [] w).alloc _).alloc _).drew) (by simp [lineL, wordL, fldL, zeroF, base6, cellN, hb])
      · have gb : (b == 0) = false := by simpa using hb
        have gd : (d == 0) = false := by simpa using hd
        show Calls _ _ #[.agg #[.int .i64 7, .int .i64 p, .int .i64 a, .int .i64 b, .int .i64 0, .int .i64 d]] w _
        go_enter Tryd.func28, Tryd.ntmps28
        go_upto_region 17 with fail
        go_region
        go_wp2_with fail
        go_ret3
        exact fld_no (x := [7, p, a, b, 0, d]) (wd := wordL 7) ((((Kept.refl [] w).alloc _).alloc _).drew) (by simp [lineL, wordL, fldL, zeroF, base6, cellN, hb, hd])
    · by_cases hd : d = 0
      · subst hd
        have gb : (b == 0) = false := by simpa using hb
        have gc : (c == 0) = false := by simpa using hc
        show Calls _ _ #[.agg #[.int .i64 7, .int .i64 p, .int .i64 a, .int .i64 b, .int .i64 c, .int .i64 0]] w _
        go_enter Tryd.func28, Tryd.ntmps28
        go_upto_region 17 with fail
        go_region
        go_wp2_with fail
        go_ret3
        exact fld_no (x := [7, p, a, b, c, 0]) (wd := wordL 7) ((((Kept.refl [] w).alloc _).alloc _).drew) (by simp [lineL, wordL, fldL, zeroF, base6, cellN, hb, hc])
      · have gb : (b == 0) = false := by simpa using hb
        have gc : (c == 0) = false := by simpa using hc
        have gd : (d == 0) = false := by simpa using hd
        show Calls _ _ #[.agg #[.int .i64 7, .int .i64 p, .int .i64 a, .int .i64 b, .int .i64 c, .int .i64 d]] w _
        go_enter Tryd.func28, Tryd.ntmps28
        go_upto_region 17 with fail
        go_region
        go_wp2_with fail
        go_ret3
        exact fld_no (x := [7, p, a, b, c, d]) (wd := wordL 7) ((((Kept.refl [] w).alloc _).alloc _).drew) (by simp [lineL, wordL, fldL, zeroF, base6, cellN, hb, hc, hd])
set_option maxRecDepth 100000 in
set_option maxHeartbeats 12800000 in
theorem fields_8 (p a b c d : Int) (w : World) : Calls Tryd.prog 28 #[actV [8, p, a, b, c, d]] w fun e w' => FldQ [8, p, a, b, c, d] w w' e := by
  by_cases hb : b = 0
  · subst hb
    by_cases hc : c = 0
    · subst hc
      by_cases hd : d = 0
      · subst hd
        by_cases hp : p = 0
        · subst hp
          by_cases ha : a = 0
          · subst ha
            show Calls _ _ #[.agg #[.int .i64 8, .int .i64 0, .int .i64 0, .int .i64 0, .int .i64 0, .int .i64 0]] w _
            go_enter Tryd.func28, Tryd.ntmps28
            go_upto_region 19 with fail
            go_region
            go_wp2_with fail
            go_ret3
            exact fld_none (x := [8, 0, 0, 0, 0, 0]) (((Kept.refl [] w).alloc _).drew) rfl (by simp [lineL, wordL, fldL, zeroF, base6, getF])
          · have ga : (a == 0) = false := by simpa using ha
            show Calls _ _ #[.agg #[.int .i64 8, .int .i64 0, .int .i64 a, .int .i64 0, .int .i64 0, .int .i64 0]] w _
            go_enter Tryd.func28, Tryd.ntmps28
            go_upto_region 19 with fail
            go_region
            go_wp2_with fail
            go_ret3
            exact fld_no (x := [8, 0, a, 0, 0, 0]) (wd := wordL 8) (((Kept.refl [] w).alloc _).drew) (by simp [lineL, wordL, fldL, zeroF, base6, ha])
        · by_cases ha : a = 0
          · subst ha
            have gp : (p == 0) = false := by simpa using hp
            show Calls _ _ #[.agg #[.int .i64 8, .int .i64 p, .int .i64 0, .int .i64 0, .int .i64 0, .int .i64 0]] w _
            go_enter Tryd.func28, Tryd.ntmps28
            go_upto_region 19 with fail
            go_region
            go_wp2_with fail
            go_ret3
            exact fld_no (x := [8, p, 0, 0, 0, 0]) (wd := wordL 8) (((Kept.refl [] w).alloc _).drew) (by simp [lineL, wordL, fldL, zeroF, base6, hp])
          · have gp : (p == 0) = false := by simpa using hp
            have ga : (a == 0) = false := by simpa using ha
            show Calls _ _ #[.agg #[.int .i64 8, .int .i64 p, .int .i64 a, .int .i64 0, .int .i64 0, .int .i64 0]] w _
            go_enter Tryd.func28, Tryd.ntmps28
            go_upto_region 19 with fail
            go_region
            go_wp2_with fail
            go_ret3
            exact fld_no (x := [8, p, a, 0, 0, 0]) (wd := wordL 8) (((Kept.refl [] w).alloc _).drew) (by simp [lineL, wordL, fldL, zeroF, base6, hp, ha])
      · by_cases hp : p = 0
        · subst hp
          by_cases ha : a = 0
          · subst ha
            have gd : (d == 0) = false := by simpa using hd
            show Calls _ _ #[.agg #[.int .i64 8, .int .i64 0, .int .i64 0, .int .i64 0, .int .i64 0, .int .i64 d]] w _
            go_enter Tryd.func28, Tryd.ntmps28
            go_upto_region 19 with fail
            go_region
            go_wp2_with fail
            go_ret3
            exact fld_no (x := [8, 0, 0, 0, 0, d]) (wd := wordL 8) (((Kept.refl [] w).alloc _).drew) (by simp [lineL, wordL, fldL, zeroF, base6, hd])
          · have gd : (d == 0) = false := by simpa using hd
            have ga : (a == 0) = false := by simpa using ha
            show Calls _ _ #[.agg #[.int .i64 8, .int .i64 0, .int .i64 a, .int .i64 0, .int .i64 0, .int .i64 d]] w _
            go_enter Tryd.func28, Tryd.ntmps28
            go_upto_region 19 with fail
            go_region
            go_wp2_with fail
            go_ret3
            exact fld_no (x := [8, 0, a, 0, 0, d]) (wd := wordL 8) (((Kept.refl [] w).alloc _).drew) (by simp [lineL, wordL, fldL, zeroF, base6, hd, ha])
        · by_cases ha : a = 0
          · subst ha
            have gd : (d == 0) = false := by simpa using hd
            have gp : (p == 0) = false := by simpa using hp
            show Calls _ _ #[.agg #[.int .i64 8, .int .i64 p, .int .i64 0, .int .i64 0, .int .i64 0, .int .i64 d]] w _
            go_enter Tryd.func28, Tryd.ntmps28
            go_upto_region 19 with fail
            go_region
            go_wp2_with fail
            go_ret3
            exact fld_no (x := [8, p, 0, 0, 0, d]) (wd := wordL 8) (((Kept.refl [] w).alloc _).drew) (by simp [lineL, wordL, fldL, zeroF, base6, hd, hp])
          · have gd : (d == 0) = false := by simpa using hd
            have gp : (p == 0) = false := by simpa using hp
            have ga : (a == 0) = false := by simpa using ha
            show Calls _ _ #[.agg #[.int .i64 8, .int .i64 p, .int .i64 a, .int .i64 0, .int .i64 0, .int .i64 d]] w _
            go_enter Tryd.func28, Tryd.ntmps28
            go_upto_region 19 with fail
            go_region
            go_wp2_with fail
            go_ret3
            exact fld_no (x := [8, p, a, 0, 0, d]) (wd := wordL 8) (((Kept.refl [] w).alloc _).drew) (by simp [lineL, wordL, fldL, zeroF, base6, hd, hp, ha])
    · by_cases hd : d = 0
      · subst hd
        by_cases hp : p = 0
        · subst hp
          by_cases ha : a = 0
          · subst ha
            have gc : (c == 0) = false := by simpa using hc
            show Calls _ _ #[.agg #[.int .i64 8, .int .i64 0, .int .i64 0, .int .i64 0, .int .i64 c, .int .i64 0]] w _
            go_enter Tryd.func28, Tryd.ntmps28
            go_upto_region 19 with fail
            go_region
            go_wp2_with fail
            go_ret3
            exact fld_no (x := [8, 0, 0, 0, c, 0]) (wd := wordL 8) (((Kept.refl [] w).alloc _).drew) (by simp [lineL, wordL, fldL, zeroF, base6, hc])
          · have gc : (c == 0) = false := by simpa using hc
            have ga : (a == 0) = false := by simpa using ha
            show Calls _ _ #[.agg #[.int .i64 8, .int .i64 0, .int .i64 a, .int .i64 0, .int .i64 c, .int .i64 0]] w _
            go_enter Tryd.func28, Tryd.ntmps28
            go_upto_region 19 with fail
            go_region
            go_wp2_with fail
            go_ret3
            exact fld_no (x := [8, 0, a, 0, c, 0]) (wd := wordL 8) (((Kept.refl [] w).alloc _).drew) (by simp [lineL, wordL, fldL, zeroF, base6, hc, ha])
        · by_cases ha : a = 0
          · subst ha
            have gc : (c == 0) = false := by simpa using hc
            have gp : (p == 0) = false := by simpa using hp
            show Calls _ _ #[.agg #[.int .i64 8, .int .i64 p, .int .i64 0, .int .i64 0, .int .i64 c, .int .i64 0]] w _
            go_enter Tryd.func28, Tryd.ntmps28
            go_upto_region 19 with fail
            go_region
            go_wp2_with fail
            go_ret3
            exact fld_no (x := [8, p, 0, 0, c, 0]) (wd := wordL 8) (((Kept.refl [] w).alloc _).drew) (by simp [lineL, wordL, fldL, zeroF, base6, hc, hp])
          · have gc : (c == 0) = false := by simpa using hc
            have gp : (p == 0) = false := by simpa using hp
            have ga : (a == 0) = false := by simpa using ha
            show Calls _ _ #[.agg #[.int .i64 8, .int .i64 p, .int .i64 a, .int .i64 0, .int .i64 c, .int .i64 0]] w _
            go_enter Tryd.func28, Tryd.ntmps28
            go_upto_region 19 with fail
            go_region
            go_wp2_with fail
            go_ret3
            exact fld_no (x := [8, p, a, 0, c, 0]) (wd := wordL 8) (((Kept.refl [] w).alloc _).drew) (by simp [lineL, wordL, fldL, zeroF, base6, hc, hp, ha])
      · by_cases hp : p = 0
        · subst hp
          by_cases ha : a = 0
          · subst ha
            have gc : (c == 0) = false := by simpa using hc
            have gd : (d == 0) = false := by simpa using hd
            show Calls _ _ #[.agg #[.int .i64 8, .int .i64 0, .int .i64 0, .int .i64 0, .int .i64 c, .int .i64 d]] w _
            go_enter Tryd.func28, Tryd.ntmps28
            go_upto_region 19 with fail
            go_region
            go_wp2_with fail
            go_ret3
            exact fld_no (x := [8, 0, 0, 0, c, d]) (wd := wordL 8) (((Kept.refl [] w).alloc _).drew) (by simp [lineL, wordL, fldL, zeroF, base6, hc, hd])
          · have gc : (c == 0) = false := by simpa using hc
            have gd : (d == 0) = false := by simpa using hd
            have ga : (a == 0) = false := by simpa using ha
            show Calls _ _ #[.agg #[.int .i64 8, .int .i64 0, .int .i64 a, .int .i64 0, .int .i64 c, .int .i64 d]] w _
            go_enter Tryd.func28, Tryd.ntmps28
            go_upto_region 19 with fail
            go_region
            go_wp2_with fail
            go_ret3
            exact fld_no (x := [8, 0, a, 0, c, d]) (wd := wordL 8) (((Kept.refl [] w).alloc _).drew) (by simp [lineL, wordL, fldL, zeroF, base6, hc, hd, ha])
        · by_cases ha : a = 0
          · subst ha
            have gc : (c == 0) = false := by simpa using hc
            have gd : (d == 0) = false := by simpa using hd
            have gp : (p == 0) = false := by simpa using hp
            show Calls _ _ #[.agg #[.int .i64 8, .int .i64 p, .int .i64 0, .int .i64 0, .int .i64 c, .int .i64 d]] w _
            go_enter Tryd.func28, Tryd.ntmps28
            go_upto_region 19 with fail
            go_region
            go_wp2_with fail
            go_ret3
            exact fld_no (x := [8, p, 0, 0, c, d]) (wd := wordL 8) (((Kept.refl [] w).alloc _).drew) (by simp [lineL, wordL, fldL, zeroF, base6, hc, hd, hp])
          · have gc : (c == 0) = false := by simpa using hc
            have gd : (d == 0) = false := by simpa using hd
            have gp : (p == 0) = false := by simpa using hp
            have ga : (a == 0) = false := by simpa using ha
            show Calls _ _ #[.agg #[.int .i64 8, .int .i64 p, .int .i64 a, .int .i64 0, .int .i64 c, .int .i64 d]] w _
            go_enter Tryd.func28, Tryd.ntmps28
            go_upto_region 19 with fail
            go_region
            go_wp2_with fail
            go_ret3
            exact fld_no (x := [8, p, a, 0, c, d]) (wd := wordL 8) (((Kept.refl [] w).alloc _).drew) (by simp [lineL, wordL, fldL, zeroF, base6, hc, hd, hp, ha])
  · by_cases hc : c = 0
    · subst hc
      by_cases hd : d = 0
      · subst hd
        by_cases hp : p = 0
        · subst hp
          by_cases ha : a = 0
          · subst ha
            have gb : (b == 0) = false := by simpa using hb
            show Calls _ _ #[.agg #[.int .i64 8, .int .i64 0, .int .i64 0, .int .i64 b, .int .i64 0, .int .i64 0]] w _
            go_enter Tryd.func28, Tryd.ntmps28
            go_upto_region 19 with fail
            go_region
            go_wp2_with fail
            go_ret3
            exact fld_no (x := [8, 0, 0, b, 0, 0]) (wd := wordL 8) (((Kept.refl [] w).alloc _).drew) (by simp [lineL, wordL, fldL, zeroF, base6, hb])
          · have gb : (b == 0) = false := by simpa using hb
            have ga : (a == 0) = false := by simpa using ha
            show Calls _ _ #[.agg #[.int .i64 8, .int .i64 0, .int .i64 a, .int .i64 b, .int .i64 0, .int .i64 0]] w _
            go_enter Tryd.func28, Tryd.ntmps28
            go_upto_region 19 with fail
            go_region
            go_wp2_with fail
            go_ret3
            exact fld_no (x := [8, 0, a, b, 0, 0]) (wd := wordL 8) (((Kept.refl [] w).alloc _).drew) (by simp [lineL, wordL, fldL, zeroF, base6, hb, ha])
        · by_cases ha : a = 0
          · subst ha
            have gb : (b == 0) = false := by simpa using hb
            have gp : (p == 0) = false := by simpa using hp
            show Calls _ _ #[.agg #[.int .i64 8, .int .i64 p, .int .i64 0, .int .i64 b, .int .i64 0, .int .i64 0]] w _
            go_enter Tryd.func28, Tryd.ntmps28
            go_upto_region 19 with fail
            go_region
            go_wp2_with fail
            go_ret3
            exact fld_no (x := [8, p, 0, b, 0, 0]) (wd := wordL 8) (((Kept.refl [] w).alloc _).drew) (by simp [lineL, wordL, fldL, zeroF, base6, hb, hp])
          · have gb : (b == 0) = false := by simpa using hb
            have gp : (p == 0) = false := by simpa using hp
            have ga : (a == 0) = false := by simpa using ha
            show Calls _ _ #[.agg #[.int .i64 8, .int .i64 p, .int .i64 a, .int .i64 b, .int .i64 0, .int .i64 0]] w _
            go_enter Tryd.func28, Tryd.ntmps28
            go_upto_region 19 with fail
            go_region
            go_wp2_with fail
            go_ret3
            exact fld_no (x := [8, p, a, b, 0, 0]) (wd := wordL 8) (((Kept.refl [] w).alloc _).drew) (by simp [lineL, wordL, fldL, zeroF, base6, hb, hp, ha])
      · by_cases hp : p = 0
        · subst hp
          by_cases ha : a = 0
          · subst ha
            have gb : (b == 0) = false := by simpa using hb
            have gd : (d == 0) = false := by simpa using hd
            show Calls _ _ #[.agg #[.int .i64 8, .int .i64 0, .int .i64 0, .int .i64 b, .int .i64 0, .int .i64 d]] w _
            go_enter Tryd.func28, Tryd.ntmps28
            go_upto_region 19 with fail
            go_region
            go_wp2_with fail
            go_ret3
            exact fld_no (x := [8, 0, 0, b, 0, d]) (wd := wordL 8) (((Kept.refl [] w).alloc _).drew) (by simp [lineL, wordL, fldL, zeroF, base6, hb, hd])
          · have gb : (b == 0) = false := by simpa using hb
            have gd : (d == 0) = false := by simpa using hd
            have ga : (a == 0) = false := by simpa using ha
            show Calls _ _ #[.agg #[.int .i64 8, .int .i64 0, .int .i64 a, .int .i64 b, .int .i64 0, .int .i64 d]] w _
            go_enter Tryd.func28, Tryd.ntmps28
            go_upto_region 19 with fail
            go_region
            go_wp2_with fail
            go_ret3
            exact fld_no (x := [8, 0, a, b, 0, d]) (wd := wordL 8) (((Kept.refl [] w).alloc _).drew) (by simp [lineL, wordL, fldL, zeroF, base6, hb, hd, ha])
        · by_cases ha : a = 0
          · subst ha
            have gb : (b == 0) = false := by simpa using hb
            have gd : (d == 0) = false := by simpa using hd
            have gp : (p == 0) = false := by simpa using hp
            show Calls _ _ #[.agg #[.int .i64 8, .int .i64 p, .int .i64 0, .int .i64 b, .int .i64 0, .int .i64 d]] w _
            go_enter Tryd.func28, Tryd.ntmps28
            go_upto_region 19 with fail
            go_region
            go_wp2_with fail
            go_ret3
            exact fld_no (x := [8, p, 0, b, 0, d]) (wd := wordL 8) (((Kept.refl [] w).alloc _).drew) (by simp [lineL, wordL, fldL, zeroF, base6, hb, hd, hp])
          · have gb : (b == 0) = false := by simpa using hb
            have gd : (d == 0) = false := by simpa using hd
            have gp : (p == 0) = false := by simpa using hp
            have ga : (a == 0) = false := by simpa using ha
            show Calls _ _ #[.agg #[.int .i64 8, .int .i64 p, .int .i64 a, .int .i64 b, .int .i64 0, .int .i64 d]] w _
            go_enter Tryd.func28, Tryd.ntmps28
            go_upto_region 19 with fail
            go_region
            go_wp2_with fail
            go_ret3
            exact fld_no (x := [8, p, a, b, 0, d]) (wd := wordL 8) (((Kept.refl [] w).alloc _).drew) (by simp [lineL, wordL, fldL, zeroF, base6, hb, hd, hp, ha])
    · by_cases hd : d = 0
      · subst hd
        by_cases hp : p = 0
        · subst hp
          by_cases ha : a = 0
          · subst ha
            have gb : (b == 0) = false := by simpa using hb
            have gc : (c == 0) = false := by simpa using hc
            show Calls _ _ #[.agg #[.int .i64 8, .int .i64 0, .int .i64 0, .int .i64 b, .int .i64 c, .int .i64 0]] w _
            go_enter Tryd.func28, Tryd.ntmps28
            go_upto_region 19 with fail
            go_region
            go_wp2_with fail
            go_ret3
            exact fld_no (x := [8, 0, 0, b, c, 0]) (wd := wordL 8) (((Kept.refl [] w).alloc _).drew) (by simp [lineL, wordL, fldL, zeroF, base6, hb, hc])
          · have gb : (b == 0) = false := by simpa using hb
            have gc : (c == 0) = false := by simpa using hc
            have ga : (a == 0) = false := by simpa using ha
            show Calls _ _ #[.agg #[.int .i64 8, .int .i64 0, .int .i64 a, .int .i64 b, .int .i64 c, .int .i64 0]] w _
            go_enter Tryd.func28, Tryd.ntmps28
            go_upto_region 19 with fail
            go_region
            go_wp2_with fail
            go_ret3
            exact fld_no (x := [8, 0, a, b, c, 0]) (wd := wordL 8) (((Kept.refl [] w).alloc _).drew) (by simp [lineL, wordL, fldL, zeroF, base6, hb, hc, ha])
        · by_cases ha : a = 0
          · subst ha
            have gb : (b == 0) = false := by simpa using hb
            have gc : (c == 0) = false := by simpa using hc
            have gp : (p == 0) = false := by simpa using hp
            show Calls _ _ #[.agg #[.int .i64 8, .int .i64 p, .int .i64 0, .int .i64 b, .int .i64 c, .int .i64 0]] w _
            go_enter Tryd.func28, Tryd.ntmps28
            go_upto_region 19 with fail
            go_region
            go_wp2_with fail
            go_ret3
            exact fld_no (x := [8, p, 0, b, c, 0]) (wd := wordL 8) (((Kept.refl [] w).alloc _).drew) (by simp [lineL, wordL, fldL, zeroF, base6, hb, hc, hp])
          · have gb : (b == 0) = false := by simpa using hb
            have gc : (c == 0) = false := by simpa using hc
            have gp : (p == 0) = false := by simpa using hp
            have ga : (a == 0) = false := by simpa using ha
            show Calls _ _ #[.agg #[.int .i64 8, .int .i64 p, .int .i64 a, .int .i64 b, .int .i64 c, .int .i64 0]] w _
            go_enter Tryd.func28, Tryd.ntmps28
            go_upto_region 19 with fail
            go_region
            go_wp2_with fail
            go_ret3
            exact fld_no (x := [8, p, a, b, c, 0]) (wd := wordL 8) (((Kept.refl [] w).alloc _).drew) (by simp [lineL, wordL, fldL, zeroF, base6, hb, hc, hp, ha])
      · by_cases hp : p = 0
        · subst hp
          by_cases ha : a = 0
          · subst ha
            have gb : (b == 0) = false := by simpa using hb
            have gc : (c == 0) = false := by simpa using hc
            have gd : (d == 0) = false := by simpa using hd
            show Calls _ _ #[.agg #[.int .i64 8, .int .i64 0, .int .i64 0, .int .i64 b, .int .i64 c, .int .i64 d]] w _
            go_enter Tryd.func28, Tryd.ntmps28
            go_upto_region 19 with fail
            go_region
            go_wp2_with fail
            go_ret3
            exact fld_no (x := [8, 0, 0, b, c, d]) (wd := wordL 8) (((Kept.refl [] w).alloc _).drew) (by simp [lineL, wordL, fldL, zeroF, base6, hb, hc, hd])
          · have gb : (b == 0) = false := by simpa using hb
            have gc : (c == 0) = false := by simpa using hc
            have gd : (d == 0) = false := by simpa using hd
            have ga : (a == 0) = false := by simpa using ha
            show Calls _ _ #[.agg #[.int .i64 8, .int .i64 0, .int .i64 a, .int .i64 b, .int .i64 c, .int .i64 d]] w _
            go_enter Tryd.func28, Tryd.ntmps28
            go_upto_region 19 with fail
            go_region
            go_wp2_with fail
            go_ret3
            exact fld_no (x := [8, 0, a, b, c, d]) (wd := wordL 8) (((Kept.refl [] w).alloc _).drew) (by simp [lineL, wordL, fldL, zeroF, base6, hb, hc, hd, ha])
        · by_cases ha : a = 0
          · subst ha
            have gb : (b == 0) = false := by simpa using hb
            have gc : (c == 0) = false := by simpa using hc
            have gd : (d == 0) = false := by simpa using hd
            have gp : (p == 0) = false := by simpa using hp
            show Calls _ _ #[.agg #[.int .i64 8, .int .i64 p, .int .i64 0, .int .i64 b, .int .i64 c, .int .i64 d]] w _
            go_enter Tryd.func28, Tryd.ntmps28
            go_upto_region 19 with fail
            go_region
            go_wp2_with fail
            go_ret3
            exact fld_no (x := [8, p, 0, b, c, d]) (wd := wordL 8) (((Kept.refl [] w).alloc _).drew) (by simp [lineL, wordL, fldL, zeroF, base6, hb, hc, hd, hp])
          · have gb : (b == 0) = false := by simpa using hb
            have gc : (c == 0) = false := by simpa using hc
            have gd : (d == 0) = false := by simpa using hd
            have gp : (p == 0) = false := by simpa using hp
            have ga : (a == 0) = false := by simpa using ha
            show Calls _ _ #[.agg #[.int .i64 8, .int .i64 p, .int .i64 a, .int .i64 b, .int .i64 c, .int .i64 d]] w _
            go_enter Tryd.func28, Tryd.ntmps28
            go_upto_region 19 with fail
            go_region
            go_wp2_with fail
            go_ret3
            exact fld_no (x := [8, p, a, b, c, d]) (wd := wordL 8) (((Kept.refl [] w).alloc _).drew) (by simp [lineL, wordL, fldL, zeroF, base6, hb, hc, hd, hp, ha])
end Go.Proofs.YtdfbofkdlgfblaaDoor
