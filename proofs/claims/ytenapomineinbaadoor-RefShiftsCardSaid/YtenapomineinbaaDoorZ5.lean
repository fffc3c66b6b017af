/- Part 5 of the proof: the machine, the tables and the pure laws that the last text joins. -/
import Derived.Test.YtenapomineinbaaDoorZ4
import Derived.Test.YtenapomineinbaaDoorProg
import Derived.Test.YtenapomineinbaaDoorZ3
/- The machine at this seat: its equations. -/
set_option linter.unusedVariables false
set_option maxRecDepth 100000
namespace Go.Proofs.YtenapomineinbaaDoor.K
open Go
theorem abacistlaw11_RefMoves_eq (x0 : List UInt8 × Int × Int × Bool × Bool) (x1 : Int) (x2 : Int) : abacistlaw11_RefMoves x0 x1 x2 = cond (decide ((x0.1.length : Int) > 200)) ((abacistlaw11_known).bind fun v1 => some v1) ((ref_Move x0 x1 x2).bind fun v2 => (abacistref11_Move x0 x1 x2).bind fun v3 => cond (!((decide (v2.1.1 = v3.1.1)) && ((decide (v2.1.2.1 = v3.1.2.1)) && ((decide (v2.1.2.2.1 = v3.1.2.2.1)) && ((v2.1.2.2.2.1 == v3.1.2.2.2.1) && (v2.1.2.2.2.2 == v3.1.2.2.2.2)))))) (abacistlaw11_RefMoves_1 x1 x2 v3.2 true x0 v2.1) (abacistlaw11_RefMoves_1 x1 x2 v3.2 (!(v2.2 == v3.2)) x0 v2.1)) := (top_call ..).trans (by kernel_rfl)
theorem abacistlaw11_RefMoves_1_eq (a1 : Int) (a2 : Int) (a3 : Bool) (a4 : Bool) (a5 : List UInt8 × Int × Int × Bool × Bool) (a6 : List UInt8 × Int × Int × Bool × Bool) : abacistlaw11_RefMoves_1 a1 a2 a3 a4 a5 a6 = cond a4 (some false) (cond (!a3) (abacistlaw11_RefMoves_2 a1 a2 true a5 a6) (cond (decide (a1 < (-200))) (abacistlaw11_RefMoves_2 a1 a2 true a5 a6) (cond (decide (a1 > 200)) (abacistlaw11_RefMoves_2 a1 a2 true a5 a6) (cond (decide (a2 < (-200))) (abacistlaw11_RefMoves_2 a1 a2 true a5 a6) (abacistlaw11_RefMoves_2 a1 a2 (decide (a2 > 200)) a5 a6))))) := (top_stage ..).trans (by kernel_rfl)
theorem abacistlaw11_RefMoves_2_eq (a1 : Int) (a2 : Int) (a3 : Bool) (a4 : List UInt8 × Int × Int × Bool × Bool) (a5 : List UInt8 × Int × Int × Bool × Bool) : abacistlaw11_RefMoves_2 a1 a2 a3 a4 a5 = cond a3 ((abacistlaw11_known).bind fun v1 => some v1) ((ref_Move a5 (IntKind.i64.wrap (0 - a1)) (IntKind.i64.wrap (0 - a2))).bind fun v2 => cond ((decide (v2.1.1 = a4.1)) && ((decide (v2.1.2.1 = a4.2.1)) && ((decide (v2.1.2.2.1 = a4.2.2.1)) && ((v2.1.2.2.2.1 == a4.2.2.2.1) && (v2.1.2.2.2.2 == a4.2.2.2.2))))) (cond v2.2 ((abacistlaw11_known).bind fun v3 => some v3) (some false)) (some false)) := (top_stage ..).trans (by kernel_rfl)
theorem abacistlaw11_RefShifts_eq (x0 : List UInt8 × Int × Int × Bool × Bool) (x1 : List UInt8 × Int × Int × Bool × Bool) (x2 : Int × Int × Int) : abacistlaw11_RefShifts x0 x1 x2 = cond (decide ((x0.1.length : Int) > 200)) (abacistlaw11_RefShifts_1 true x0 x1 x2) (abacistlaw11_RefShifts_1 (decide ((x1.1.length : Int) > 200)) x0 x1 x2) := (top_call ..).trans (by kernel_rfl)
theorem abacistlaw11_RefShifts_1_eq (a1 : Bool) (a2 : List UInt8 × Int × Int × Bool × Bool) (a3 : List UInt8 × Int × Int × Bool × Bool) (a4 : Int × Int × Int) : abacistlaw11_RefShifts_1 a1 a2 a3 a4 = cond a1 ((abacistlaw11_known).bind fun v1 => some v1) ((ref_Insert a2 a4.1 a4.2.1 a4.2.2).bind fun v2 => (abacistref11_Insert a2 a4.1 a4.2.1 a4.2.2).bind fun v3 => (ref_Delete a2 a4.1 a4.2.1 a4.2.2).bind fun v4 => (abacistref11_Delete a2 a4.1 a4.2.1 a4.2.2).bind fun v5 => cond (!((decide (v2.1.1 = v3.1.1)) && ((decide (v2.1.2.1 = v3.1.2.1)) && ((decide (v2.1.2.2.1 = v3.1.2.2.1)) && ((v2.1.2.2.2.1 == v3.1.2.2.2.1) && (v2.1.2.2.2.2 == v3.1.2.2.2.2)))))) (abacistlaw11_RefShifts_2 v3.2 true a2 a3 a4 v2.1) (cond (!(v2.2 == v3.2)) (abacistlaw11_RefShifts_2 v3.2 true a2 a3 a4 v2.1) (cond (!((decide (v4.1.1 = v5.1.1)) && ((decide (v4.1.2.1 = v5.1.2.1)) && ((decide (v4.1.2.2.1 = v5.1.2.2.1)) && ((v4.1.2.2.2.1 == v5.1.2.2.2.1) && (v4.1.2.2.2.2 == v5.1.2.2.2.2)))))) (abacistlaw11_RefShifts_2 v3.2 true a2 a3 a4 v2.1) (abacistlaw11_RefShifts_2 v3.2 (!(v4.2 == v5.2)) a2 a3 a4 v2.1)))) := (top_stage ..).trans (by kernel_rfl)
theorem abacistlaw11_RefShifts_2_eq (a1 : Bool) (a2 : Bool) (a3 : List UInt8 × Int × Int × Bool × Bool) (a4 : List UInt8 × Int × Int × Bool × Bool) (a5 : Int × Int × Int) (a6 : List UInt8 × Int × Int × Bool × Bool) : abacistlaw11_RefShifts_2 a1 a2 a3 a4 a5 a6 = cond a2 (some false) ((ref_Insert2 a3 a4 a5.1 a5.2.1 a5.2.2).bind fun v1 => (abacistref11_Insert2 a3 a4 a5.1 a5.2.1 a5.2.2).bind fun v2 => (ref_Delete2 a3 a4 a5.1 a5.2.1 a5.2.2).bind fun v3 => (abacistref11_Delete2 a3 a4 a5.1 a5.2.1 a5.2.2).bind fun v4 => cond (!((decide (v1.1.1 = v2.1.1)) && ((decide (v1.1.2.1 = v2.1.2.1)) && ((decide (v1.1.2.2.1 = v2.1.2.2.1)) && ((v1.1.2.2.2.1 == v2.1.2.2.2.1) && (v1.1.2.2.2.2 == v2.1.2.2.2.2)))))) (abacistlaw11_RefShifts_3 a1 true a3 a5 a6) (cond (!((decide (v1.2.1.1 = v2.2.1.1)) && ((decide (v1.2.1.2.1 = v2.2.1.2.1)) && ((decide (v1.2.1.2.2.1 = v2.2.1.2.2.1)) && ((v1.2.1.2.2.2.1 == v2.2.1.2.2.2.1) && (v1.2.1.2.2.2.2 == v2.2.1.2.2.2.2)))))) (abacistlaw11_RefShifts_3 a1 true a3 a5 a6) (cond (!(v1.2.2 == v2.2.2)) (abacistlaw11_RefShifts_3 a1 true a3 a5 a6) (cond (!((decide (v3.1.1 = v4.1.1)) && ((decide (v3.1.2.1 = v4.1.2.1)) && ((decide (v3.1.2.2.1 = v4.1.2.2.1)) && ((v3.1.2.2.2.1 == v4.1.2.2.2.1) && (v3.1.2.2.2.2 == v4.1.2.2.2.2)))))) (abacistlaw11_RefShifts_3 a1 true a3 a5 a6) (cond (!((decide (v3.2.1.1 = v4.2.1.1)) && ((decide (v3.2.1.2.1 = v4.2.1.2.1)) && ((decide (v3.2.1.2.2.1 = v4.2.1.2.2.1)) && ((v3.2.1.2.2.2.1 == v4.2.1.2.2.2.1) && (v3.2.1.2.2.2.2 == v4.2.1.2.2.2.2)))))) (abacistlaw11_RefShifts_3 a1 true a3 a5 a6) (abacistlaw11_RefShifts_3 a1 (!(v3.2.2 == v4.2.2)) a3 a5 a6)))))) := (top_stage ..).trans (by kernel_rfl)
theorem abacistlaw11_RefShifts_3_eq (a1 : Bool) (a2 : Bool) (a3 : List UInt8 × Int × Int × Bool × Bool) (a4 : Int × Int × Int) (a5 : List UInt8 × Int × Int × Bool × Bool) : abacistlaw11_RefShifts_3 a1 a2 a3 a4 a5 = cond a2 (some false) ((ref_Delete a5 a4.1 a4.2.1 a4.2.2).bind fun v1 => cond (!a1) ((abacistlaw11_known).bind fun v2 => some v2) (cond ((decide (v1.1.1 = a3.1)) && ((decide (v1.1.2.1 = a3.2.1)) && ((decide (v1.1.2.2.1 = a3.2.2.1)) && ((v1.1.2.2.2.1 == a3.2.2.2.1) && (v1.1.2.2.2.2 == a3.2.2.2.2))))) (cond v1.2 ((abacistlaw11_known).bind fun v3 => some v3) (some false)) (some false))) := (top_stage ..).trans (by kernel_rfl)
theorem abacistlaw11_known_eq : abacistlaw11_known = (ref_Parse ([84, 97, 98, 33, 36, 66, 53] : List UInt8)).bind fun v1 => (ref_Insert v1.1 1 3 2).bind fun v2 => (ref_Delete v2.1 1 3 5).bind fun v3 => cond ((decide (v1.1.1 = ([84, 97, 98] : List UInt8))) && ((decide (v1.1.2.1 = 2)) && ((decide (v1.1.2.2.1 = 5)) && ((v1.1.2.2.2.1 == true) && (v1.1.2.2.2.2 == false))))) (cond (decide (v1.2 = 0)) ((ref_Text v2.1).bind fun v4 => cond (decide (v4 = ([84, 97, 98, 33, 36, 66, 55] : List UInt8))) (cond v2.2 (cond (!v3.2) ((ref_Named ([97, 49] : List UInt8)).bind fun v5 => some (!v5)) (some false)) (some false)) (some false)) (some false)) (some false) := (top_call ..).trans (by kernel_rfl)
theorem ref_Move_eq (x0 : List UInt8 × Int × Int × Bool × Bool) (x1 : Int) (x2 : Int) : ref_Move x0 x1 x2 = (ref_Right x0).bind fun v1 => cond (!v1) (some (([], 0, 0, false, false), false)) (cond (!x0.2.2.2.1) ((ref_added x0.2.1 x1 52).bind fun v2 => ref_Move_1 x2 (x0.1, v2, x0.2.2) ([], 0, 0, false, false)) (ref_Move_1 x2 x0 ([], 0, 0, false, false))) := (top_call ..).trans (by kernel_rfl)
theorem ref_Move_1_eq (a1 : Int) (a2 : List UInt8 × Int × Int × Bool × Bool) (a3 : List UInt8 × Int × Int × Bool × Bool) : ref_Move_1 a1 a2 a3 = cond (!a2.2.2.2.2) ((ref_added a2.2.2.1 a1 99).bind fun v1 => ref_Move_2 (a2.1, a2.2.1, v1, a2.2.2.2) a3) (ref_Move_2 a2 a3) := (top_stage ..).trans (by kernel_rfl)
theorem ref_Move_2_eq (a1 : List UInt8 × Int × Int × Bool × Bool) (a2 : List UInt8 × Int × Int × Bool × Bool) : ref_Move_2 a1 a2 = (ref_Right a1).bind fun v1 => cond (!v1) (some (([], 0, 0, false, false), false)) (some (a1, true)) := (top_stage ..).trans (by kernel_rfl)
theorem abacistref11_Move_eq (x0 : List UInt8 × Int × Int × Bool × Bool) (x1 : Int) (x2 : Int) : abacistref11_Move x0 x1 x2 = (abacistref11_Right x0).bind fun v1 => cond (!v1) (some (([], 0, 0, false, false), false)) (cond (decide (x1 < (-1000))) (abacistref11_Move_1 x1 x2 true x0 ([], 0, 0, false, false)) (abacistref11_Move_1 x1 x2 (decide (x1 > 1000)) x0 ([], 0, 0, false, false))) := (top_call ..).trans (by kernel_rfl)
theorem abacistref11_Move_1_eq (a1 : Int) (a2 : Int) (a3 : Bool) (a4 : List UInt8 × Int × Int × Bool × Bool) (a5 : List UInt8 × Int × Int × Bool × Bool) : abacistref11_Move_1 a1 a2 a3 a4 a5 = cond a3 (abacistref11_Move_2 1000 a2 a4 a5) (abacistref11_Move_2 a1 a2 a4 a5) := (top_stage ..).trans (by kernel_rfl)
theorem abacistref11_Move_2_eq (a1 : Int) (a2 : Int) (a3 : List UInt8 × Int × Int × Bool × Bool) (a4 : List UInt8 × Int × Int × Bool × Bool) : abacistref11_Move_2 a1 a2 a3 a4 = cond (decide (a2 < (-1000))) (abacistref11_Move_3 a1 a2 true a3 a4) (abacistref11_Move_3 a1 a2 (decide (a2 > 1000)) a3 a4) := (top_stage ..).trans (by kernel_rfl)
theorem abacistref11_Move_3_eq (a1 : Int) (a2 : Int) (a3 : Bool) (a4 : List UInt8 × Int × Int × Bool × Bool) (a5 : List UInt8 × Int × Int × Bool × Bool) : abacistref11_Move_3 a1 a2 a3 a4 a5 = cond a3 (abacistref11_Move_4 a1 1000 a4 a5) (abacistref11_Move_4 a1 a2 a4 a5) := (top_stage ..).trans (by kernel_rfl)
theorem abacistref11_Move_4_eq (a1 : Int) (a2 : Int) (a3 : List UInt8 × Int × Int × Bool × Bool) (a4 : List UInt8 × Int × Int × Bool × Bool) : abacistref11_Move_4 a1 a2 a3 a4 = cond (!a3.2.2.2.1) (abacistref11_Move_5 a2 (a3.1, IntKind.i64.wrap (a3.2.1 + a1), a3.2.2) a4) (abacistref11_Move_5 a2 a3 a4) := (top_stage ..).trans (by kernel_rfl)
theorem abacistref11_Move_5_eq (a1 : Int) (a2 : List UInt8 × Int × Int × Bool × Bool) (a3 : List UInt8 × Int × Int × Bool × Bool) : abacistref11_Move_5 a1 a2 a3 = cond (!a2.2.2.2.2) (abacistref11_Move_6 (a2.1, a2.2.1, IntKind.i64.wrap (a2.2.2.1 + a1), a2.2.2.2) a3) (abacistref11_Move_6 a2 a3) := (top_stage ..).trans (by kernel_rfl)
theorem abacistref11_Move_6_eq (a1 : List UInt8 × Int × Int × Bool × Bool) (a2 : List UInt8 × Int × Int × Bool × Bool) : abacistref11_Move_6 a1 a2 = (abacistref11_Right a1).bind fun v1 => cond (!v1) (some (([], 0, 0, false, false), false)) (some (a1, true)) := (top_stage ..).trans (by kernel_rfl)
theorem ref_Insert_eq (x0 : List UInt8 × Int × Int × Bool × Bool) (x1 : Int) (x2 : Int) (x3 : Int) : ref_Insert x0 x1 x2 x3 = ref_Insert_1 x1 x2 x3 x0 ([], 0, 0, false, false) x2 x3 := (top_call ..).trans (by kernel_rfl)
theorem ref_Insert_1_eq (a1 : Int) (a2 : Int) (a3 : Int) (a4 : List UInt8 × Int × Int × Bool × Bool) (a5 : List UInt8 × Int × Int × Bool × Bool) (a6 : Int) (a7 : Int) : ref_Insert_1 a1 a2 a3 a4 a5 a6 a7 = cond (decide (a1 = 1)) (ref_Insert_2 a1 a2 a3 0 99 a4 a5 a6 a7) (ref_Insert_3 a1 a2 a3 0 52 a4 a5 a6 a7) := (top_stage ..).trans (by kernel_rfl)
theorem ref_Insert_2_eq (a1 : Int) (a2 : Int) (a3 : Int) (a4 : Int) (a5 : Int) (a6 : List UInt8 × Int × Int × Bool × Bool) (a7 : List UInt8 × Int × Int × Bool × Bool) (a8 : Int) (a9 : Int) : ref_Insert_2 a1 a2 a3 a4 a5 a6 a7 a8 a9 = cond (decide (a1 = 0)) (cond (decide (a2 ≥ 1)) (cond (decide (a2 ≤ a5)) (cond (decide (a3 ≥ 1)) (ref_Insert_4 a8 a9 (decide (a3 ≤ a5)) a6 a7 a5) (ref_Insert_4 a8 a9 false a6 a7 a5)) (ref_Insert_4 a8 a9 false a6 a7 a5)) (ref_Insert_4 a8 a9 false a6 a7 a5)) (cond (decide (a1 = 1)) (cond (decide (a2 ≥ 1)) (cond (decide (a2 ≤ a5)) (cond (decide (a3 ≥ 1)) (ref_Insert_4 a8 a9 (decide (a3 ≤ a5)) a6 a7 a5) (ref_Insert_4 a8 a9 false a6 a7 a5)) (ref_Insert_4 a8 a9 false a6 a7 a5)) (ref_Insert_4 a8 a9 false a6 a7 a5)) (ref_Insert_4 a8 a9 false a6 a7 a5)) := (top_stage ..).trans (by kernel_rfl)
theorem ref_Insert_3_eq (a1 : Int) (a2 : Int) (a3 : Int) (a4 : Int) (a5 : Int) (a6 : List UInt8 × Int × Int × Bool × Bool) (a7 : List UInt8 × Int × Int × Bool × Bool) (a8 : Int) (a9 : Int) : ref_Insert_3 a1 a2 a3 a4 a5 a6 a7 a8 a9 = cond (decide (a1 = 0)) (cond (decide (a2 ≥ 1)) (cond (decide (a2 ≤ a5)) (cond (decide (a3 ≥ 1)) (ref_Insert_5 a8 a9 (decide (a3 ≤ a5)) a6 a7 a5) (ref_Insert_5 a8 a9 false a6 a7 a5)) (ref_Insert_5 a8 a9 false a6 a7 a5)) (ref_Insert_5 a8 a9 false a6 a7 a5)) (cond (decide (a1 = 1)) (cond (decide (a2 ≥ 1)) (cond (decide (a2 ≤ a5)) (cond (decide (a3 ≥ 1)) (ref_Insert_5 a8 a9 (decide (a3 ≤ a5)) a6 a7 a5) (ref_Insert_5 a8 a9 false a6 a7 a5)) (ref_Insert_5 a8 a9 false a6 a7 a5)) (ref_Insert_5 a8 a9 false a6 a7 a5)) (ref_Insert_5 a8 a9 false a6 a7 a5)) := (top_stage ..).trans (by kernel_rfl)
theorem ref_Insert_4_eq (a1 : Int) (a2 : Int) (a3 : Bool) (a4 : List UInt8 × Int × Int × Bool × Bool) (a5 : List UInt8 × Int × Int × Bool × Bool) (a6 : Int) : ref_Insert_4 a1 a2 a3 a4 a5 a6 = cond (!a3) (ref_Insert_6 a1 a2 true a4 a5 a6) ((ref_Right a4).bind fun v1 => ref_Insert_6 a1 a2 (!v1) a4 a5 a6) := (top_stage ..).trans (by kernel_rfl)
theorem ref_Insert_5_eq (a1 : Int) (a2 : Int) (a3 : Bool) (a4 : List UInt8 × Int × Int × Bool × Bool) (a5 : List UInt8 × Int × Int × Bool × Bool) (a6 : Int) : ref_Insert_5 a1 a2 a3 a4 a5 a6 = cond (!a3) (ref_Insert_7 a1 a2 true a4 a5 a6) ((ref_Right a4).bind fun v1 => ref_Insert_7 a1 a2 (!v1) a4 a5 a6) := (top_stage ..).trans (by kernel_rfl)
theorem ref_Insert_6_eq (a1 : Int) (a2 : Int) (a3 : Bool) (a4 : List UInt8 × Int × Int × Bool × Bool) (a5 : List UInt8 × Int × Int × Bool × Bool) (a6 : Int) : ref_Insert_6 a1 a2 a3 a4 a5 a6 = cond a3 (some (([], 0, 0, false, false), false)) ((ref_place_row a4).bind fun v1 => cond (decide (v1 ≥ a1)) (ref_Insert_8 (IntKind.i64.wrap (v1 + a2)) a4 a5 a6) (ref_Insert_8 v1 a4 a5 a6)) := (top_stage ..).trans (by kernel_rfl)
theorem ref_Insert_7_eq (a1 : Int) (a2 : Int) (a3 : Bool) (a4 : List UInt8 × Int × Int × Bool × Bool) (a5 : List UInt8 × Int × Int × Bool × Bool) (a6 : Int) : ref_Insert_7 a1 a2 a3 a4 a5 a6 = cond a3 (some (([], 0, 0, false, false), false)) ((ref_place_col a4).bind fun v1 => cond (decide (v1 ≥ a1)) (ref_Insert_9 (IntKind.i64.wrap (v1 + a2)) a4 a5 a6) (ref_Insert_9 v1 a4 a5 a6)) := (top_stage ..).trans (by kernel_rfl)
theorem ref_Insert_8_eq (a1 : Int) (a2 : List UInt8 × Int × Int × Bool × Bool) (a3 : List UInt8 × Int × Int × Bool × Bool) (a4 : Int) : ref_Insert_8 a1 a2 a3 a4 = cond (decide (a1 > a4)) (some (([], 0, 0, false, false), false)) ((ref_place_toRow a2 a1).bind fun v1 => some (v1, true)) := (top_stage ..).trans (by kernel_rfl)
theorem ref_Insert_9_eq (a1 : Int) (a2 : List UInt8 × Int × Int × Bool × Bool) (a3 : List UInt8 × Int × Int × Bool × Bool) (a4 : Int) : ref_Insert_9 a1 a2 a3 a4 = cond (decide (a1 > a4)) (some (([], 0, 0, false, false), false)) ((ref_place_toCol a2 a1).bind fun v1 => some (v1, true)) := (top_stage ..).trans (by kernel_rfl)
theorem abacistref11_Insert_eq (x0 : List UInt8 × Int × Int × Bool × Bool) (x1 : Int) (x2 : Int) (x3 : Int) : abacistref11_Insert x0 x1 x2 x3 = (abacistref11_Right x0).bind fun v1 => cond (!v1) (abacistref11_Insert_1 x1 x2 x3 true x0 ([], 0, 0, false, false)) ((abacistref11_may x1 x2 x3).bind fun v2 => abacistref11_Insert_1 x1 x2 x3 (!v2) x0 ([], 0, 0, false, false)) := (top_call ..).trans (by kernel_rfl)
theorem abacistref11_Insert_1_eq (a1 : Int) (a2 : Int) (a3 : Int) (a4 : Bool) (a5 : List UInt8 × Int × Int × Bool × Bool) (a6 : List UInt8 × Int × Int × Bool × Bool) : abacistref11_Insert_1 a1 a2 a3 a4 a5 a6 = cond a4 (some (([], 0, 0, false, false), false)) ((abacistref11_place a5 a1).bind fun v1 => cond (decide (v1 ≥ a2)) (abacistref11_Insert_2 a1 (IntKind.i64.wrap (v1 + a3)) a5 a6) (abacistref11_Insert_2 a1 v1 a5 a6)) := (top_stage ..).trans (by kernel_rfl)
theorem abacistref11_Insert_2_eq (a1 : Int) (a2 : Int) (a3 : List UInt8 × Int × Int × Bool × Bool) (a4 : List UInt8 × Int × Int × Bool × Bool) : abacistref11_Insert_2 a1 a2 a3 a4 = (abacistref11_last a1).bind fun v1 => cond (decide (a2 > v1)) (some (([], 0, 0, false, false), false)) ((abacistref11_put a3 a1 a2).bind fun v2 => some (v2, true)) := (top_stage ..).trans (by kernel_rfl)
theorem ref_Delete_eq (x0 : List UInt8 × Int × Int × Bool × Bool) (x1 : Int) (x2 : Int) (x3 : Int) : ref_Delete x0 x1 x2 x3 = ref_Delete_1 x1 x2 x3 x0 ([], 0, 0, false, false) x2 x3 := (top_call ..).trans (by kernel_rfl)
theorem ref_Delete_1_eq (a1 : Int) (a2 : Int) (a3 : Int) (a4 : List UInt8 × Int × Int × Bool × Bool) (a5 : List UInt8 × Int × Int × Bool × Bool) (a6 : Int) (a7 : Int) : ref_Delete_1 a1 a2 a3 a4 a5 a6 a7 = cond (decide (a1 = 1)) (ref_Delete_2 a1 a2 a3 0 99 a4 a5 a6 a7) (ref_Delete_3 a1 a2 a3 0 52 a4 a5 a6 a7) := (top_stage ..).trans (by kernel_rfl)
theorem ref_Delete_2_eq (a1 : Int) (a2 : Int) (a3 : Int) (a4 : Int) (a5 : Int) (a6 : List UInt8 × Int × Int × Bool × Bool) (a7 : List UInt8 × Int × Int × Bool × Bool) (a8 : Int) (a9 : Int) : ref_Delete_2 a1 a2 a3 a4 a5 a6 a7 a8 a9 = cond (decide (a1 = 0)) (cond (decide (a2 ≥ 1)) (cond (decide (a2 ≤ a5)) (cond (decide (a3 ≥ 1)) (ref_Delete_4 a8 a9 (decide (a3 ≤ a5)) a6 a7 a5) (ref_Delete_4 a8 a9 false a6 a7 a5)) (ref_Delete_4 a8 a9 false a6 a7 a5)) (ref_Delete_4 a8 a9 false a6 a7 a5)) (cond (decide (a1 = 1)) (cond (decide (a2 ≥ 1)) (cond (decide (a2 ≤ a5)) (cond (decide (a3 ≥ 1)) (ref_Delete_4 a8 a9 (decide (a3 ≤ a5)) a6 a7 a5) (ref_Delete_4 a8 a9 false a6 a7 a5)) (ref_Delete_4 a8 a9 false a6 a7 a5)) (ref_Delete_4 a8 a9 false a6 a7 a5)) (ref_Delete_4 a8 a9 false a6 a7 a5)) := (top_stage ..).trans (by kernel_rfl)
theorem ref_Delete_3_eq (a1 : Int) (a2 : Int) (a3 : Int) (a4 : Int) (a5 : Int) (a6 : List UInt8 × Int × Int × Bool × Bool) (a7 : List UInt8 × Int × Int × Bool × Bool) (a8 : Int) (a9 : Int) : ref_Delete_3 a1 a2 a3 a4 a5 a6 a7 a8 a9 = cond (decide (a1 = 0)) (cond (decide (a2 ≥ 1)) (cond (decide (a2 ≤ a5)) (cond (decide (a3 ≥ 1)) (ref_Delete_5 a8 a9 (decide (a3 ≤ a5)) a6 a7 a5) (ref_Delete_5 a8 a9 false a6 a7 a5)) (ref_Delete_5 a8 a9 false a6 a7 a5)) (ref_Delete_5 a8 a9 false a6 a7 a5)) (cond (decide (a1 = 1)) (cond (decide (a2 ≥ 1)) (cond (decide (a2 ≤ a5)) (cond (decide (a3 ≥ 1)) (ref_Delete_5 a8 a9 (decide (a3 ≤ a5)) a6 a7 a5) (ref_Delete_5 a8 a9 false a6 a7 a5)) (ref_Delete_5 a8 a9 false a6 a7 a5)) (ref_Delete_5 a8 a9 false a6 a7 a5)) (ref_Delete_5 a8 a9 false a6 a7 a5)) := (top_stage ..).trans (by kernel_rfl)
theorem ref_Delete_4_eq (a1 : Int) (a2 : Int) (a3 : Bool) (a4 : List UInt8 × Int × Int × Bool × Bool) (a5 : List UInt8 × Int × Int × Bool × Bool) (a6 : Int) : ref_Delete_4 a1 a2 a3 a4 a5 a6 = cond (!a3) (ref_Delete_6 a1 a2 true a4 a5 a6) ((ref_Right a4).bind fun v1 => ref_Delete_6 a1 a2 (!v1) a4 a5 a6) := (top_stage ..).trans (by kernel_rfl)
theorem ref_Delete_5_eq (a1 : Int) (a2 : Int) (a3 : Bool) (a4 : List UInt8 × Int × Int × Bool × Bool) (a5 : List UInt8 × Int × Int × Bool × Bool) (a6 : Int) : ref_Delete_5 a1 a2 a3 a4 a5 a6 = cond (!a3) (ref_Delete_7 a1 a2 true a4 a5 a6) ((ref_Right a4).bind fun v1 => ref_Delete_7 a1 a2 (!v1) a4 a5 a6) := (top_stage ..).trans (by kernel_rfl)
theorem ref_Delete_6_eq (a1 : Int) (a2 : Int) (a3 : Bool) (a4 : List UInt8 × Int × Int × Bool × Bool) (a5 : List UInt8 × Int × Int × Bool × Bool) (a6 : Int) : ref_Delete_6 a1 a2 a3 a4 a5 a6 = cond a3 (some (([], 0, 0, false, false), false)) ((ref_place_row a4).bind fun v1 => cond (decide (v1 < a1)) (some (a4, true)) (cond (decide (v1 < (IntKind.i64.wrap (a1 + a2)))) (some (([], 0, 0, false, false), false)) ((ref_place_toRow a4 (IntKind.i64.wrap (v1 - a2))).bind fun v2 => some (v2, true)))) := (top_stage ..).trans (by kernel_rfl)
theorem ref_Delete_7_eq (a1 : Int) (a2 : Int) (a3 : Bool) (a4 : List UInt8 × Int × Int × Bool × Bool) (a5 : List UInt8 × Int × Int × Bool × Bool) (a6 : Int) : ref_Delete_7 a1 a2 a3 a4 a5 a6 = cond a3 (some (([], 0, 0, false, false), false)) ((ref_place_col a4).bind fun v1 => cond (decide (v1 < a1)) (some (a4, true)) (cond (decide (v1 < (IntKind.i64.wrap (a1 + a2)))) (some (([], 0, 0, false, false), false)) ((ref_place_toCol a4 (IntKind.i64.wrap (v1 - a2))).bind fun v2 => some (v2, true)))) := (top_stage ..).trans (by kernel_rfl)
theorem abacistref11_Delete_eq (x0 : List UInt8 × Int × Int × Bool × Bool) (x1 : Int) (x2 : Int) (x3 : Int) : abacistref11_Delete x0 x1 x2 x3 = (abacistref11_Right x0).bind fun v1 => cond (!v1) (abacistref11_Delete_1 x1 x2 x3 true x0 ([], 0, 0, false, false)) ((abacistref11_may x1 x2 x3).bind fun v2 => abacistref11_Delete_1 x1 x2 x3 (!v2) x0 ([], 0, 0, false, false)) := (top_call ..).trans (by kernel_rfl)
theorem abacistref11_Delete_1_eq (a1 : Int) (a2 : Int) (a3 : Int) (a4 : Bool) (a5 : List UInt8 × Int × Int × Bool × Bool) (a6 : List UInt8 × Int × Int × Bool × Bool) : abacistref11_Delete_1 a1 a2 a3 a4 a5 a6 = cond a4 (some (([], 0, 0, false, false), false)) ((abacistref11_place a5 a1).bind fun v1 => cond (decide (v1 ≥ a2)) (abacistref11_Delete_2 a1 a2 a3 v1 (decide (v1 < (IntKind.i64.wrap (a2 + a3)))) a5 a6) (abacistref11_Delete_2 a1 a2 a3 v1 false a5 a6)) := (top_stage ..).trans (by kernel_rfl)
theorem abacistref11_Delete_2_eq (a1 : Int) (a2 : Int) (a3 : Int) (a4 : Int) (a5 : Bool) (a6 : List UInt8 × Int × Int × Bool × Bool) (a7 : List UInt8 × Int × Int × Bool × Bool) : abacistref11_Delete_2 a1 a2 a3 a4 a5 a6 a7 = cond a5 (some (([], 0, 0, false, false), false)) (cond (decide (a4 ≥ (IntKind.i64.wrap (a2 + a3)))) (abacistref11_Delete_3 a1 (IntKind.i64.wrap (a4 - a3)) a6 a7) (abacistref11_Delete_3 a1 a4 a6 a7)) := (top_stage ..).trans (by kernel_rfl)
theorem abacistref11_Delete_3_eq (a1 : Int) (a2 : Int) (a3 : List UInt8 × Int × Int × Bool × Bool) (a4 : List UInt8 × Int × Int × Bool × Bool) : abacistref11_Delete_3 a1 a2 a3 a4 = (abacistref11_put a3 a1 a2).bind fun v1 => some (v1, true) := (top_stage ..).trans (by kernel_rfl)
theorem ref_Insert2_eq (x0 : List UInt8 × Int × Int × Bool × Bool) (x1 : List UInt8 × Int × Int × Bool × Bool) (x2 : Int) (x3 : Int) (x4 : Int) : ref_Insert2 x0 x1 x2 x3 x4 = ref_Insert2_1 x2 x3 x4 x0 x1 ([], 0, 0, false, false) ([], 0, 0, false, false) x2 x3 x4 := (top_call ..).trans (by kernel_rfl)
theorem ref_Insert2_1_eq (a1 : Int) (a2 : Int) (a3 : Int) (a4 : List UInt8 × Int × Int × Bool × Bool) (a5 : List UInt8 × Int × Int × Bool × Bool) (a6 : List UInt8 × Int × Int × Bool × Bool) (a7 : List UInt8 × Int × Int × Bool × Bool) (a8 : Int) (a9 : Int) (a10 : Int) : ref_Insert2_1 a1 a2 a3 a4 a5 a6 a7 a8 a9 a10 = cond (decide (a1 = 1)) (ref_Insert2_2 a1 a2 a3 0 99 a4 a5 a6 a7 a8 a9 a10) (ref_Insert2_3 a1 a2 a3 0 52 a4 a5 a6 a7 a8 a9 a10) := (top_stage ..).trans (by kernel_rfl)
theorem ref_Insert2_2_eq (a1 : Int) (a2 : Int) (a3 : Int) (a4 : Int) (a5 : Int) (a6 : List UInt8 × Int × Int × Bool × Bool) (a7 : List UInt8 × Int × Int × Bool × Bool) (a8 : List UInt8 × Int × Int × Bool × Bool) (a9 : List UInt8 × Int × Int × Bool × Bool) (a10 : Int) (a11 : Int) (a12 : Int) : ref_Insert2_2 a1 a2 a3 a4 a5 a6 a7 a8 a9 a10 a11 a12 = cond (decide (a1 = 0)) (cond (decide (a2 ≥ 1)) (cond (decide (a2 ≤ a5)) (cond (decide (a3 ≥ 1)) (ref_Insert2_4 a10 a11 a12 (decide (a3 ≤ a5)) a6 a7 a8 a9 a5) (ref_Insert2_4 a10 a11 a12 false a6 a7 a8 a9 a5)) (ref_Insert2_4 a10 a11 a12 false a6 a7 a8 a9 a5)) (ref_Insert2_4 a10 a11 a12 false a6 a7 a8 a9 a5)) (cond (decide (a1 = 1)) (cond (decide (a2 ≥ 1)) (cond (decide (a2 ≤ a5)) (cond (decide (a3 ≥ 1)) (ref_Insert2_4 a10 a11 a12 (decide (a3 ≤ a5)) a6 a7 a8 a9 a5) (ref_Insert2_4 a10 a11 a12 false a6 a7 a8 a9 a5)) (ref_Insert2_4 a10 a11 a12 false a6 a7 a8 a9 a5)) (ref_Insert2_4 a10 a11 a12 false a6 a7 a8 a9 a5)) (ref_Insert2_4 a10 a11 a12 false a6 a7 a8 a9 a5)) := (top_stage ..).trans (by kernel_rfl)
theorem ref_Insert2_3_eq (a1 : Int) (a2 : Int) (a3 : Int) (a4 : Int) (a5 : Int) (a6 : List UInt8 × Int × Int × Bool × Bool) (a7 : List UInt8 × Int × Int × Bool × Bool) (a8 : List UInt8 × Int × Int × Bool × Bool) (a9 : List UInt8 × Int × Int × Bool × Bool) (a10 : Int) (a11 : Int) (a12 : Int) : ref_Insert2_3 a1 a2 a3 a4 a5 a6 a7 a8 a9 a10 a11 a12 = cond (decide (a1 = 0)) (cond (decide (a2 ≥ 1)) (cond (decide (a2 ≤ a5)) (cond (decide (a3 ≥ 1)) (ref_Insert2_5 a10 a11 a12 (decide (a3 ≤ a5)) a6 a7 a8 a9 a5) (ref_Insert2_5 a10 a11 a12 false a6 a7 a8 a9 a5)) (ref_Insert2_5 a10 a11 a12 false a6 a7 a8 a9 a5)) (ref_Insert2_5 a10 a11 a12 false a6 a7 a8 a9 a5)) (cond (decide (a1 = 1)) (cond (decide (a2 ≥ 1)) (cond (decide (a2 ≤ a5)) (cond (decide (a3 ≥ 1)) (ref_Insert2_5 a10 a11 a12 (decide (a3 ≤ a5)) a6 a7 a8 a9 a5) (ref_Insert2_5 a10 a11 a12 false a6 a7 a8 a9 a5)) (ref_Insert2_5 a10 a11 a12 false a6 a7 a8 a9 a5)) (ref_Insert2_5 a10 a11 a12 false a6 a7 a8 a9 a5)) (ref_Insert2_5 a10 a11 a12 false a6 a7 a8 a9 a5)) := (top_stage ..).trans (by kernel_rfl)
theorem ref_Insert2_4_eq (a1 : Int) (a2 : Int) (a3 : Int) (a4 : Bool) (a5 : List UInt8 × Int × Int × Bool × Bool) (a6 : List UInt8 × Int × Int × Bool × Bool) (a7 : List UInt8 × Int × Int × Bool × Bool) (a8 : List UInt8 × Int × Int × Bool × Bool) (a9 : Int) : ref_Insert2_4 a1 a2 a3 a4 a5 a6 a7 a8 a9 = cond (!a4) (ref_Insert2_6 a1 a2 a3 true a5 a6 a7 a8 a9) ((ref_Right a5).bind fun v1 => cond (!v1) (ref_Insert2_6 a1 a2 a3 true a5 a6 a7 a8 a9) ((ref_Right a6).bind fun v2 => cond (!v2) (ref_Insert2_6 a1 a2 a3 true a5 a6 a7 a8 a9) ((ref_place_row a5).bind fun v3 => (ref_place_row a6).bind fun v4 => ref_Insert2_6 a1 a2 a3 (decide (v3 > v4)) a5 a6 a7 a8 a9))) := (top_stage ..).trans (by kernel_rfl)
theorem ref_Insert2_5_eq (a1 : Int) (a2 : Int) (a3 : Int) (a4 : Bool) (a5 : List UInt8 × Int × Int × Bool × Bool) (a6 : List UInt8 × Int × Int × Bool × Bool) (a7 : List UInt8 × Int × Int × Bool × Bool) (a8 : List UInt8 × Int × Int × Bool × Bool) (a9 : Int) : ref_Insert2_5 a1 a2 a3 a4 a5 a6 a7 a8 a9 = cond (!a4) (ref_Insert2_7 a1 a2 a3 true a5 a6 a7 a8 a9) ((ref_Right a5).bind fun v1 => cond (!v1) (ref_Insert2_7 a1 a2 a3 true a5 a6 a7 a8 a9) ((ref_Right a6).bind fun v2 => cond (!v2) (ref_Insert2_7 a1 a2 a3 true a5 a6 a7 a8 a9) ((ref_place_col a5).bind fun v3 => (ref_place_col a6).bind fun v4 => ref_Insert2_7 a1 a2 a3 (decide (v3 > v4)) a5 a6 a7 a8 a9))) := (top_stage ..).trans (by kernel_rfl)
theorem ref_Insert2_6_eq (a1 : Int) (a2 : Int) (a3 : Int) (a4 : Bool) (a5 : List UInt8 × Int × Int × Bool × Bool) (a6 : List UInt8 × Int × Int × Bool × Bool) (a7 : List UInt8 × Int × Int × Bool × Bool) (a8 : List UInt8 × Int × Int × Bool × Bool) (a9 : Int) : ref_Insert2_6 a1 a2 a3 a4 a5 a6 a7 a8 a9 = cond a4 (some (([], 0, 0, false, false), ([], 0, 0, false, false), false)) ((ref_Insert a5 a1 a2 a3).bind fun v1 => cond (!v1.2) (some (([], 0, 0, false, false), ([], 0, 0, false, false), false)) ((ref_Insert a6 a1 a2 a3).bind fun v2 => cond (!v2.2) ((ref_place_toRow a6 a9).bind fun v3 => ref_Insert2_8 a7 a8 v1.1 v3) (ref_Insert2_8 a7 a8 v1.1 v2.1))) := (top_stage ..).trans (by kernel_rfl)
theorem ref_Insert2_7_eq (a1 : Int) (a2 : Int) (a3 : Int) (a4 : Bool) (a5 : List UInt8 × Int × Int × Bool × Bool) (a6 : List UInt8 × Int × Int × Bool × Bool) (a7 : List UInt8 × Int × Int × Bool × Bool) (a8 : List UInt8 × Int × Int × Bool × Bool) (a9 : Int) : ref_Insert2_7 a1 a2 a3 a4 a5 a6 a7 a8 a9 = cond a4 (some (([], 0, 0, false, false), ([], 0, 0, false, false), false)) ((ref_Insert a5 a1 a2 a3).bind fun v1 => cond (!v1.2) (some (([], 0, 0, false, false), ([], 0, 0, false, false), false)) ((ref_Insert a6 a1 a2 a3).bind fun v2 => cond (!v2.2) ((ref_place_toCol a6 a9).bind fun v3 => ref_Insert2_8 a7 a8 v1.1 v3) (ref_Insert2_8 a7 a8 v1.1 v2.1))) := (top_stage ..).trans (by kernel_rfl)
theorem ref_Insert2_8_eq (a1 : List UInt8 × Int × Int × Bool × Bool) (a2 : List UInt8 × Int × Int × Bool × Bool) (a3 : List UInt8 × Int × Int × Bool × Bool) (a4 : List UInt8 × Int × Int × Bool × Bool) : ref_Insert2_8 a1 a2 a3 a4 = some (a3, a4, true) := (top_stage ..).trans (by kernel_rfl)
theorem abacistref11_Insert2_eq (x0 : List UInt8 × Int × Int × Bool × Bool) (x1 : List UInt8 × Int × Int × Bool × Bool) (x2 : Int) (x3 : Int) (x4 : Int) : abacistref11_Insert2 x0 x1 x2 x3 x4 = (abacistref11_Right x0).bind fun v1 => cond (!v1) (abacistref11_Insert2_1 x2 x3 x4 true x0 x1 ([], 0, 0, false, false) ([], 0, 0, false, false)) ((abacistref11_Right x1).bind fun v2 => cond (!v2) (abacistref11_Insert2_1 x2 x3 x4 true x0 x1 ([], 0, 0, false, false) ([], 0, 0, false, false)) ((abacistref11_may x2 x3 x4).bind fun v3 => cond (!v3) (abacistref11_Insert2_1 x2 x3 x4 true x0 x1 ([], 0, 0, false, false) ([], 0, 0, false, false)) ((abacistref11_place x0 x2).bind fun v4 => (abacistref11_place x1 x2).bind fun v5 => abacistref11_Insert2_1 x2 x3 x4 (decide (v4 > v5)) x0 x1 ([], 0, 0, false, false) ([], 0, 0, false, false)))) := (top_call ..).trans (by kernel_rfl)
theorem abacistref11_Insert2_1_eq (a1 : Int) (a2 : Int) (a3 : Int) (a4 : Bool) (a5 : List UInt8 × Int × Int × Bool × Bool) (a6 : List UInt8 × Int × Int × Bool × Bool) (a7 : List UInt8 × Int × Int × Bool × Bool) (a8 : List UInt8 × Int × Int × Bool × Bool) : abacistref11_Insert2_1 a1 a2 a3 a4 a5 a6 a7 a8 = cond a4 (some (([], 0, 0, false, false), ([], 0, 0, false, false), false)) ((abacistref11_Insert a5 a1 a2 a3).bind fun v1 => cond (!v1.2) (some (([], 0, 0, false, false), ([], 0, 0, false, false), false)) ((abacistref11_Insert a6 a1 a2 a3).bind fun v2 => cond (!v2.2) ((abacistref11_last a1).bind fun v3 => (abacistref11_put a6 a1 v3).bind fun v4 => abacistref11_Insert2_2 a7 a8 v1.1 v4) (abacistref11_Insert2_2 a7 a8 v1.1 v2.1))) := (top_stage ..).trans (by kernel_rfl)
theorem abacistref11_Insert2_2_eq (a1 : List UInt8 × Int × Int × Bool × Bool) (a2 : List UInt8 × Int × Int × Bool × Bool) (a3 : List UInt8 × Int × Int × Bool × Bool) (a4 : List UInt8 × Int × Int × Bool × Bool) : abacistref11_Insert2_2 a1 a2 a3 a4 = some (a3, a4, true) := (top_stage ..).trans (by kernel_rfl)
theorem ref_Delete2_eq (x0 : List UInt8 × Int × Int × Bool × Bool) (x1 : List UInt8 × Int × Int × Bool × Bool) (x2 : Int) (x3 : Int) (x4 : Int) : ref_Delete2 x0 x1 x2 x3 x4 = ref_Delete2_1 x2 x3 x4 x0 x1 ([], 0, 0, false, false) ([], 0, 0, false, false) x2 x3 x4 := (top_call ..).trans (by kernel_rfl)
theorem ref_Delete2_1_eq (a1 : Int) (a2 : Int) (a3 : Int) (a4 : List UInt8 × Int × Int × Bool × Bool) (a5 : List UInt8 × Int × Int × Bool × Bool) (a6 : List UInt8 × Int × Int × Bool × Bool) (a7 : List UInt8 × Int × Int × Bool × Bool) (a8 : Int) (a9 : Int) (a10 : Int) : ref_Delete2_1 a1 a2 a3 a4 a5 a6 a7 a8 a9 a10 = cond (decide (a1 = 1)) (ref_Delete2_2 a1 a2 a3 0 99 a4 a5 a6 a7 a8 a9 a10) (ref_Delete2_3 a1 a2 a3 0 52 a4 a5 a6 a7 a8 a9 a10) := (top_stage ..).trans (by kernel_rfl)
theorem ref_Delete2_2_eq (a1 : Int) (a2 : Int) (a3 : Int) (a4 : Int) (a5 : Int) (a6 : List UInt8 × Int × Int × Bool × Bool) (a7 : List UInt8 × Int × Int × Bool × Bool) (a8 : List UInt8 × Int × Int × Bool × Bool) (a9 : List UInt8 × Int × Int × Bool × Bool) (a10 : Int) (a11 : Int) (a12 : Int) : ref_Delete2_2 a1 a2 a3 a4 a5 a6 a7 a8 a9 a10 a11 a12 = cond (decide (a1 = 0)) (cond (decide (a2 ≥ 1)) (cond (decide (a2 ≤ a5)) (cond (decide (a3 ≥ 1)) (ref_Delete2_4 a10 a11 a12 (decide (a3 ≤ a5)) a6 a7 a8 a9 a5) (ref_Delete2_4 a10 a11 a12 false a6 a7 a8 a9 a5)) (ref_Delete2_4 a10 a11 a12 false a6 a7 a8 a9 a5)) (ref_Delete2_4 a10 a11 a12 false a6 a7 a8 a9 a5)) (cond (decide (a1 = 1)) (cond (decide (a2 ≥ 1)) (cond (decide (a2 ≤ a5)) (cond (decide (a3 ≥ 1)) (ref_Delete2_4 a10 a11 a12 (decide (a3 ≤ a5)) a6 a7 a8 a9 a5) (ref_Delete2_4 a10 a11 a12 false a6 a7 a8 a9 a5)) (ref_Delete2_4 a10 a11 a12 false a6 a7 a8 a9 a5)) (ref_Delete2_4 a10 a11 a12 false a6 a7 a8 a9 a5)) (ref_Delete2_4 a10 a11 a12 false a6 a7 a8 a9 a5)) := (top_stage ..).trans (by kernel_rfl)
theorem ref_Delete2_3_eq (a1 : Int) (a2 : Int) (a3 : Int) (a4 : Int) (a5 : Int) (a6 : List UInt8 × Int × Int × Bool × Bool) (a7 : List UInt8 × Int × Int × Bool × Bool) (a8 : List UInt8 × Int × Int × Bool × Bool) (a9 : List UInt8 × Int × Int × Bool × Bool) (a10 : Int) (a11 : Int) (a12 : Int) : ref_Delete2_3 a1 a2 a3 a4 a5 a6 a7 a8 a9 a10 a11 a12 = cond (decide (a1 = 0)) (cond (decide (a2 ≥ 1)) (cond (decide (a2 ≤ a5)) (cond (decide (a3 ≥ 1)) (ref_Delete2_5 a10 a11 a12 (decide (a3 ≤ a5)) a6 a7 a8 a9 a5) (ref_Delete2_5 a10 a11 a12 false a6 a7 a8 a9 a5)) (ref_Delete2_5 a10 a11 a12 false a6 a7 a8 a9 a5)) (ref_Delete2_5 a10 a11 a12 false a6 a7 a8 a9 a5)) (cond (decide (a1 = 1)) (cond (decide (a2 ≥ 1)) (cond (decide (a2 ≤ a5)) (cond (decide (a3 ≥ 1)) (ref_Delete2_5 a10 a11 a12 (decide (a3 ≤ a5)) a6 a7 a8 a9 a5) (ref_Delete2_5 a10 a11 a12 false a6 a7 a8 a9 a5)) (ref_Delete2_5 a10 a11 a12 false a6 a7 a8 a9 a5)) (ref_Delete2_5 a10 a11 a12 false a6 a7 a8 a9 a5)) (ref_Delete2_5 a10 a11 a12 false a6 a7 a8 a9 a5)) := (top_stage ..).trans (by kernel_rfl)
theorem ref_Delete2_4_eq (a1 : Int) (a2 : Int) (a3 : Int) (a4 : Bool) (a5 : List UInt8 × Int × Int × Bool × Bool) (a6 : List UInt8 × Int × Int × Bool × Bool) (a7 : List UInt8 × Int × Int × Bool × Bool) (a8 : List UInt8 × Int × Int × Bool × Bool) (a9 : Int) : ref_Delete2_4 a1 a2 a3 a4 a5 a6 a7 a8 a9 = cond (!a4) (ref_Delete2_6 a1 a2 a3 true a5 a6 a7 a8 a9) ((ref_Right a5).bind fun v1 => cond (!v1) (ref_Delete2_6 a1 a2 a3 true a5 a6 a7 a8 a9) ((ref_Right a6).bind fun v2 => cond (!v2) (ref_Delete2_6 a1 a2 a3 true a5 a6 a7 a8 a9) ((ref_place_row a5).bind fun v3 => (ref_place_row a6).bind fun v4 => ref_Delete2_6 a1 a2 a3 (decide (v3 > v4)) a5 a6 a7 a8 a9))) := (top_stage ..).trans (by kernel_rfl)
theorem ref_Delete2_5_eq (a1 : Int) (a2 : Int) (a3 : Int) (a4 : Bool) (a5 : List UInt8 × Int × Int × Bool × Bool) (a6 : List UInt8 × Int × Int × Bool × Bool) (a7 : List UInt8 × Int × Int × Bool × Bool) (a8 : List UInt8 × Int × Int × Bool × Bool) (a9 : Int) : ref_Delete2_5 a1 a2 a3 a4 a5 a6 a7 a8 a9 = cond (!a4) (ref_Delete2_7 a1 a2 a3 true a5 a6 a7 a8 a9) ((ref_Right a5).bind fun v1 => cond (!v1) (ref_Delete2_7 a1 a2 a3 true a5 a6 a7 a8 a9) ((ref_Right a6).bind fun v2 => cond (!v2) (ref_Delete2_7 a1 a2 a3 true a5 a6 a7 a8 a9) ((ref_place_col a5).bind fun v3 => (ref_place_col a6).bind fun v4 => ref_Delete2_7 a1 a2 a3 (decide (v3 > v4)) a5 a6 a7 a8 a9))) := (top_stage ..).trans (by kernel_rfl)
theorem ref_Delete2_6_eq (a1 : Int) (a2 : Int) (a3 : Int) (a4 : Bool) (a5 : List UInt8 × Int × Int × Bool × Bool) (a6 : List UInt8 × Int × Int × Bool × Bool) (a7 : List UInt8 × Int × Int × Bool × Bool) (a8 : List UInt8 × Int × Int × Bool × Bool) (a9 : Int) : ref_Delete2_6 a1 a2 a3 a4 a5 a6 a7 a8 a9 = cond a4 (some (([], 0, 0, false, false), ([], 0, 0, false, false), false)) ((ref_Delete a5 a1 a2 a3).bind fun v1 => cond (!v1.2) ((ref_place_toRow a5 a2).bind fun v2 => ref_Delete2_8 a1 a2 a3 a6 a7 a8 a9 v2) (ref_Delete2_8 a1 a2 a3 a6 a7 a8 a9 v1.1)) := (top_stage ..).trans (by kernel_rfl)
theorem ref_Delete2_7_eq (a1 : Int) (a2 : Int) (a3 : Int) (a4 : Bool) (a5 : List UInt8 × Int × Int × Bool × Bool) (a6 : List UInt8 × Int × Int × Bool × Bool) (a7 : List UInt8 × Int × Int × Bool × Bool) (a8 : List UInt8 × Int × Int × Bool × Bool) (a9 : Int) : ref_Delete2_7 a1 a2 a3 a4 a5 a6 a7 a8 a9 = cond a4 (some (([], 0, 0, false, false), ([], 0, 0, false, false), false)) ((ref_Delete a5 a1 a2 a3).bind fun v1 => cond (!v1.2) ((ref_place_toCol a5 a2).bind fun v2 => ref_Delete2_9 a1 a2 a3 a6 a7 a8 a9 v2) (ref_Delete2_9 a1 a2 a3 a6 a7 a8 a9 v1.1)) := (top_stage ..).trans (by kernel_rfl)
theorem ref_Delete2_8_eq (a1 : Int) (a2 : Int) (a3 : Int) (a4 : List UInt8 × Int × Int × Bool × Bool) (a5 : List UInt8 × Int × Int × Bool × Bool) (a6 : List UInt8 × Int × Int × Bool × Bool) (a7 : Int) (a8 : List UInt8 × Int × Int × Bool × Bool) : ref_Delete2_8 a1 a2 a3 a4 a5 a6 a7 a8 = (ref_Delete a4 a1 a2 a3).bind fun v1 => cond (!v1.2) ((ref_place_toRow a4 (IntKind.i64.wrap (a2 - 1))).bind fun v2 => ref_Delete2_10 a5 a6 a7 a8 v2) (ref_Delete2_10 a5 a6 a7 a8 v1.1) := (top_stage ..).trans (by kernel_rfl)
theorem ref_Delete2_9_eq (a1 : Int) (a2 : Int) (a3 : Int) (a4 : List UInt8 × Int × Int × Bool × Bool) (a5 : List UInt8 × Int × Int × Bool × Bool) (a6 : List UInt8 × Int × Int × Bool × Bool) (a7 : Int) (a8 : List UInt8 × Int × Int × Bool × Bool) : ref_Delete2_9 a1 a2 a3 a4 a5 a6 a7 a8 = (ref_Delete a4 a1 a2 a3).bind fun v1 => cond (!v1.2) ((ref_place_toCol a4 (IntKind.i64.wrap (a2 - 1))).bind fun v2 => ref_Delete2_11 a5 a6 a7 a8 v2) (ref_Delete2_11 a5 a6 a7 a8 v1.1) := (top_stage ..).trans (by kernel_rfl)
theorem ref_Delete2_10_eq (a1 : List UInt8 × Int × Int × Bool × Bool) (a2 : List UInt8 × Int × Int × Bool × Bool) (a3 : Int) (a4 : List UInt8 × Int × Int × Bool × Bool) (a5 : List UInt8 × Int × Int × Bool × Bool) : ref_Delete2_10 a1 a2 a3 a4 a5 = (ref_Right a4).bind fun v1 => cond (!v1) (ref_Delete2_12 true a1 a2 a4 a5) ((ref_Right a5).bind fun v2 => cond (!v2) (ref_Delete2_12 true a1 a2 a4 a5) ((ref_place_row a4).bind fun v3 => (ref_place_row a5).bind fun v4 => ref_Delete2_12 (decide (v3 > v4)) a1 a2 a4 a5)) := (top_stage ..).trans (by kernel_rfl)
theorem ref_Delete2_11_eq (a1 : List UInt8 × Int × Int × Bool × Bool) (a2 : List UInt8 × Int × Int × Bool × Bool) (a3 : Int) (a4 : List UInt8 × Int × Int × Bool × Bool) (a5 : List UInt8 × Int × Int × Bool × Bool) : ref_Delete2_11 a1 a2 a3 a4 a5 = (ref_Right a4).bind fun v1 => cond (!v1) (ref_Delete2_12 true a1 a2 a4 a5) ((ref_Right a5).bind fun v2 => cond (!v2) (ref_Delete2_12 true a1 a2 a4 a5) ((ref_place_col a4).bind fun v3 => (ref_place_col a5).bind fun v4 => ref_Delete2_12 (decide (v3 > v4)) a1 a2 a4 a5)) := (top_stage ..).trans (by kernel_rfl)
theorem ref_Delete2_12_eq (a1 : Bool) (a2 : List UInt8 × Int × Int × Bool × Bool) (a3 : List UInt8 × Int × Int × Bool × Bool) (a4 : List UInt8 × Int × Int × Bool × Bool) (a5 : List UInt8 × Int × Int × Bool × Bool) : ref_Delete2_12 a1 a2 a3 a4 a5 = cond a1 (some (([], 0, 0, false, false), ([], 0, 0, false, false), false)) (some (a4, a5, true)) := (top_stage ..).trans (by kernel_rfl)
theorem abacistref11_Delete2_eq (x0 : List UInt8 × Int × Int × Bool × Bool) (x1 : List UInt8 × Int × Int × Bool × Bool) (x2 : Int) (x3 : Int) (x4 : Int) : abacistref11_Delete2 x0 x1 x2 x3 x4 = (abacistref11_Right x0).bind fun v1 => cond (!v1) (abacistref11_Delete2_1 x2 x3 x4 true x0 x1 ([], 0, 0, false, false) ([], 0, 0, false, false)) ((abacistref11_Right x1).bind fun v2 => cond (!v2) (abacistref11_Delete2_1 x2 x3 x4 true x0 x1 ([], 0, 0, false, false) ([], 0, 0, false, false)) ((abacistref11_may x2 x3 x4).bind fun v3 => cond (!v3) (abacistref11_Delete2_1 x2 x3 x4 true x0 x1 ([], 0, 0, false, false) ([], 0, 0, false, false)) ((abacistref11_place x0 x2).bind fun v4 => (abacistref11_place x1 x2).bind fun v5 => abacistref11_Delete2_1 x2 x3 x4 (decide (v4 > v5)) x0 x1 ([], 0, 0, false, false) ([], 0, 0, false, false)))) := (top_call ..).trans (by kernel_rfl)
theorem abacistref11_Delete2_1_eq (a1 : Int) (a2 : Int) (a3 : Int) (a4 : Bool) (a5 : List UInt8 × Int × Int × Bool × Bool) (a6 : List UInt8 × Int × Int × Bool × Bool) (a7 : List UInt8 × Int × Int × Bool × Bool) (a8 : List UInt8 × Int × Int × Bool × Bool) : abacistref11_Delete2_1 a1 a2 a3 a4 a5 a6 a7 a8 = cond a4 (some (([], 0, 0, false, false), ([], 0, 0, false, false), false)) ((abacistref11_Delete a5 a1 a2 a3).bind fun v1 => cond (!v1.2) ((abacistref11_put a5 a1 a2).bind fun v2 => abacistref11_Delete2_2 a1 a2 a3 a6 a7 a8 v2) (abacistref11_Delete2_2 a1 a2 a3 a6 a7 a8 v1.1)) := (top_stage ..).trans (by kernel_rfl)
theorem abacistref11_Delete2_2_eq (a1 : Int) (a2 : Int) (a3 : Int) (a4 : List UInt8 × Int × Int × Bool × Bool) (a5 : List UInt8 × Int × Int × Bool × Bool) (a6 : List UInt8 × Int × Int × Bool × Bool) (a7 : List UInt8 × Int × Int × Bool × Bool) : abacistref11_Delete2_2 a1 a2 a3 a4 a5 a6 a7 = (abacistref11_Delete a4 a1 a2 a3).bind fun v1 => cond (!v1.2) ((abacistref11_put a4 a1 (IntKind.i64.wrap (a2 - 1))).bind fun v2 => abacistref11_Delete2_3 a1 a5 a6 a7 v2) (abacistref11_Delete2_3 a1 a5 a6 a7 v1.1) := (top_stage ..).trans (by kernel_rfl)
theorem abacistref11_Delete2_3_eq (a1 : Int) (a2 : List UInt8 × Int × Int × Bool × Bool) (a3 : List UInt8 × Int × Int × Bool × Bool) (a4 : List UInt8 × Int × Int × Bool × Bool) (a5 : List UInt8 × Int × Int × Bool × Bool) : abacistref11_Delete2_3 a1 a2 a3 a4 a5 = (abacistref11_place a4 a1).bind fun v1 => (abacistref11_place a5 a1).bind fun v2 => cond (decide (v1 > v2)) (abacistref11_Delete2_4 true a2 a3 a4 a5) ((abacistref11_Right a4).bind fun v3 => cond (!v3) (abacistref11_Delete2_4 true a2 a3 a4 a5) ((abacistref11_Right a5).bind fun v4 => abacistref11_Delete2_4 (!v4) a2 a3 a4 a5)) := (top_stage ..).trans (by kernel_rfl)
theorem abacistref11_Delete2_4_eq (a1 : Bool) (a2 : List UInt8 × Int × Int × Bool × Bool) (a3 : List UInt8 × Int × Int × Bool × Bool) (a4 : List UInt8 × Int × Int × Bool × Bool) (a5 : List UInt8 × Int × Int × Bool × Bool) : abacistref11_Delete2_4 a1 a2 a3 a4 a5 = cond a1 (some (([], 0, 0, false, false), ([], 0, 0, false, false), false)) (some (a4, a5, true)) := (top_stage ..).trans (by kernel_rfl)
theorem ref_Parse_eq (x0 : List UInt8) : ref_Parse x0 = (strings_Cut x0 ([33] : List UInt8)).bind fun v1 => cond v1.2.2 ((ref_Named v1.1).bind fun v2 => cond (!v2) (some (([], 0, 0, false, false), 10)) (ref_Parse_1 v1.2.1 ([], 0, 0, false, false) (v1.1, 0, 0, false, false))) (ref_Parse_1 x0 ([], 0, 0, false, false) ([], 0, 0, false, false)) := (top_call ..).trans (by kernel_rfl)
theorem ref_Parse_1_eq (a1 : List UInt8) (a2 : List UInt8 × Int × Int × Bool × Bool) (a3 : List UInt8 × Int × Int × Bool × Bool) : ref_Parse_1 a1 a2 a3 = (strings_CutPrefix a1 ([36] : List UInt8)).bind fun v1 => ref_Parse_2 v1.1 0 a2 (a3.1, a3.2.1, a3.2.2.1, v1.2, a3.2.2.2.2) := (top_stage ..).trans (by kernel_rfl)
theorem ref_Parse_2_eq (a1 : List UInt8) (a2 : Int) (a3 : List UInt8 × Int × Int × Bool × Bool) (a4 : List UInt8 × Int × Int × Bool × Bool) : ref_Parse_2 a1 a2 a3 a4 = cond (decide (a2 < (a1.length : Int))) (cond (decide (0 ≤ a2) && decide (a2 < (a1.length : Int))) (cond (decide (((a1.getD a2.toNat 0).toNat : Int) ≥ 65)) (cond (decide (0 ≤ a2) && decide (a2 < (a1.length : Int))) (ref_Parse_3 a1 a2 (decide (((a1.getD a2.toNat 0).toNat : Int) ≤ 90)) a3 a4) none) (ref_Parse_3 a1 a2 false a3 a4)) none) (ref_Parse_3 a1 a2 false a3 a4) := (top_stage ..).trans (by kernel_rfl)
theorem ref_Parse_3_eq (a1 : List UInt8) (a2 : Int) (a3 : Bool) (a4 : List UInt8 × Int × Int × Bool × Bool) (a5 : List UInt8 × Int × Int × Bool × Bool) : ref_Parse_3 a1 a2 a3 a4 a5 = cond a3 (ref_Parse_2 a1 (IntKind.i64.wrap (a2 + 1)) a4 a5) (cond (decide (0 ≤ a2) && decide (a2 ≤ (a1.length : Int))) ((strings_CutPrefix (a1.drop a2.toNat) ([36] : List UInt8)).bind fun v1 => cond v1.2 (cond (decide (a2 = 0)) (ref_Parse_4 a1 a2 v1.1 v1.2 true a4 a5) (cond (!decide (v1.1 = ([] : List UInt8))) (cond (decide (0 ≤ 0) && decide (0 < (v1.1.length : Int))) (cond (decide (((v1.1.getD 0 0).toNat : Int) ≥ 65)) (cond (decide (0 ≤ 0) && decide (0 < (v1.1.length : Int))) (ref_Parse_4 a1 a2 v1.1 v1.2 (decide (((v1.1.getD 0 0).toNat : Int) ≤ 90)) a4 a5) none) (ref_Parse_4 a1 a2 v1.1 v1.2 false a4 a5)) none) (ref_Parse_4 a1 a2 v1.1 v1.2 false a4 a5))) (ref_Parse_4 a1 a2 v1.1 v1.2 false a4 a5)) none) := (top_stage ..).trans (by kernel_rfl)
theorem ref_Parse_4_eq (a1 : List UInt8) (a2 : Int) (a3 : List UInt8) (a4 : Bool) (a5 : Bool) (a6 : List UInt8 × Int × Int × Bool × Bool) (a7 : List UInt8 × Int × Int × Bool × Bool) : ref_Parse_4 a1 a2 a3 a4 a5 a6 a7 = cond a5 (some (([], 0, 0, false, false), 10)) (cond (decide (0 ≤ a2) && decide (a2 ≤ (a1.length : Int))) (cond (Nat.ble ((a1.take a2.toNat).length + a3.length) 9223372036854775807) ((addr_Parse ((a1.take a2.toNat) ++ a3)).bind fun v1 => cond (!decide (v1.2.2 = 0)) (some (([], 0, 0, false, false), v1.2.2)) (some ((a7.1, v1.1, v1.2.1, a7.2.2.2.1, a4), 0))) none) none) := (top_stage ..).trans (by kernel_rfl)
theorem ref_Text_eq (x0 : List UInt8 × Int × Int × Bool × Bool) : ref_Text x0 = (ref_Right x0).bind fun v1 => cond (!v1) (some ([] : List UInt8)) (cond (!decide (x0.1 = ([] : List UInt8))) (cond (Nat.ble ((0 + [x0.1, ([33] : List UInt8)].length) * 16) 140737488355328) (ref_Text_1 [x0.1, ([33] : List UInt8)] x0) none) (ref_Text_1 [] x0)) := (top_call ..).trans (by kernel_rfl)
theorem ref_Text_1_eq (a1 : List (List UInt8)) (a2 : List UInt8 × Int × Int × Bool × Bool) : ref_Text_1 a1 a2 = cond a2.2.2.2.1 (cond (Nat.ble ((a1.length + [([36] : List UInt8)].length) * 16) 140737488355328) (ref_Text_2 (a1 ++ [([36] : List UInt8)]) a2) none) (ref_Text_2 a1 a2) := (top_stage ..).trans (by kernel_rfl)
theorem ref_Text_2_eq (a1 : List (List UInt8)) (a2 : List UInt8 × Int × Int × Bool × Bool) : ref_Text_2 a1 a2 = (addr_Col a2.2.1).bind fun v1 => cond (Nat.ble ((a1.length + [v1].length) * 16) 140737488355328) (cond a2.2.2.2.2 (cond (Nat.ble (((a1 ++ [v1]).length + [([36] : List UInt8)].length) * 16) 140737488355328) (ref_Text_3 ((a1 ++ [v1]) ++ [([36] : List UInt8)]) a2) none) (ref_Text_3 (a1 ++ [v1]) a2)) none := (top_stage ..).trans (by kernel_rfl)
theorem ref_Text_3_eq (a1 : List (List UInt8)) (a2 : List UInt8 × Int × Int × Bool × Bool) : ref_Text_3 a1 a2 = (addr_Text a2.2.1 a2.2.2.1).bind fun v1 => (addr_Col a2.2.1).bind fun v2 => (strings_TrimPrefix v1 v2).bind fun v3 => cond (Nat.ble ((a1.length + [v3].length) * 16) 140737488355328) ((strings_Join (a1 ++ [v3]) ([] : List UInt8)).bind fun v4 => some v4) none := (top_stage ..).trans (by kernel_rfl)
theorem ref_Named_eq (x0 : List UInt8) : ref_Named x0 = cond (decide (x0 = ([] : List UInt8))) (ref_Named_1 x0 true) (cond (decide ((x0.length : Int) > 12)) (ref_Named_1 x0 true) (cond (decide (0 ≤ 0) && decide (0 < (x0.length : Int))) ((ref_letter ((x0.getD 0 0).toNat : Int)).bind fun v1 => ref_Named_1 x0 (!v1)) none)) := (top_call ..).trans (by kernel_rfl)
theorem ref_Named_1_eq (a1 : List UInt8) (a2 : Bool) : ref_Named_1 a1 a2 = cond a2 (some false) (ref_Named_2 a1 (a1.map fun b => (b.toNat : Int)) ((a1.map fun b => (b.toNat : Int)).length : Int) 0) := (top_stage ..).trans (by kernel_rfl)
theorem ref_Named_2_eq (a1 : List UInt8) (a2 : List Int) (a3 : Int) (a4 : Int) : ref_Named_2 a1 a2 a3 a4 = cond (decide (a4 < a3)) (cond (decide (0 ≤ a4) && decide (a4 < (a2.length : Int))) ((ref_letter (a2.getD a4.toNat 0)).bind fun v1 => cond (!v1) ((ref_digit (a2.getD a4.toNat 0)).bind fun v2 => cond (!v2) (ref_Named_3 a1 a2 a3 a4 (!decide ((a2.getD a4.toNat 0) = 95))) (ref_Named_3 a1 a2 a3 a4 false)) (ref_Named_3 a1 a2 a3 a4 false)) none) ((ref_capital a1).bind fun v3 => cond (decide (v3 = ([84, 82, 85, 69] : List UInt8))) (ref_Named_4 v3 true) (ref_Named_4 v3 (decide (v3 = ([70, 65, 76, 83, 69] : List UInt8))))) := (top_stage ..).trans (by kernel_rfl)
theorem ref_Named_3_eq (a1 : List UInt8) (a2 : List Int) (a3 : Int) (a4 : Int) (a5 : Bool) : ref_Named_3 a1 a2 a3 a4 a5 = cond a5 (some false) (ref_Named_2 a1 a2 a3 (IntKind.i64.wrap (a4 + 1))) := (top_stage ..).trans (by kernel_rfl)
theorem ref_Named_4_eq (a1 : List UInt8) (a2 : Bool) : ref_Named_4 a1 a2 = cond a2 (some false) ((ref_addressed a1).bind fun v1 => some (!v1)) := (top_stage ..).trans (by kernel_rfl)
theorem ref_Right_eq (x0 : List UInt8 × Int × Int × Bool × Bool) : ref_Right x0 = cond (decide (x0.1 = ([] : List UInt8))) ((addr_In x0.2.1 x0.2.2.1).bind fun v1 => some v1) ((ref_Named x0.1).bind fun v2 => cond v2 ((addr_In x0.2.1 x0.2.2.1).bind fun v3 => some v3) (some false)) := (top_call ..).trans (by kernel_rfl)
theorem ref_added_eq (x0 : Int) (x1 : Int) (x2 : Int) : ref_added x0 x1 x2 = cond (decide (x1 < (IntKind.i64.wrap (0 - x2)))) (ref_added_1 x0 x1 true) (ref_added_1 x0 x1 (decide (x1 > x2))) := (top_call ..).trans (by kernel_rfl)
theorem ref_added_1_eq (a1 : Int) (a2 : Int) (a3 : Bool) : ref_added_1 a1 a2 a3 = cond a3 (some 0) (some (IntKind.i64.wrap (a1 + a2))) := (top_stage ..).trans (by kernel_rfl)
theorem abacistref11_Right_eq (x0 : List UInt8 × Int × Int × Bool × Bool) : abacistref11_Right x0 = cond (decide (x0.1 = ([] : List UInt8))) ((abacistref10_In x0.2.1 x0.2.2.1).bind fun v1 => some v1) ((abacistref11_Named x0.1).bind fun v2 => cond v2 ((abacistref10_In x0.2.1 x0.2.2.1).bind fun v3 => some v3) (some false)) := (top_call ..).trans (by kernel_rfl)
theorem abacistref11_may_eq (x0 : Int) (x1 : Int) (x2 : Int) : abacistref11_may x0 x1 x2 = (abacistref11_last x0).bind fun v1 => cond (decide (x1 ≥ 1)) (cond (decide (x1 ≤ v1)) (cond (decide (x2 ≥ 1)) (some (decide (x2 ≤ v1))) (some false)) (some false)) (some false) := (top_call ..).trans (by kernel_rfl)
theorem abacistref11_place_eq (x0 : List UInt8 × Int × Int × Bool × Bool) (x1 : Int) : abacistref11_place x0 x1 = cond (decide (x1 = 0)) (some x0.2.1) (some x0.2.2.1) := (top_call ..).trans (by kernel_rfl)
theorem abacistref11_last_eq (x0 : Int) : abacistref11_last x0 = cond (decide (x0 = 0)) (some 52) (cond (decide (x0 = 1)) (some 99) (some 0)) := (top_call ..).trans (by kernel_rfl)
theorem abacistref11_put_eq (x0 : List UInt8 × Int × Int × Bool × Bool) (x1 : Int) (x2 : Int) : abacistref11_put x0 x1 x2 = cond (decide (x1 = 0)) (abacistref11_put_1 (x0.1, x2, x0.2.2) ([], 0, 0, false, false)) (abacistref11_put_1 (x0.1, x0.2.1, x2, x0.2.2.2) ([], 0, 0, false, false)) := (top_call ..).trans (by kernel_rfl)
theorem abacistref11_put_1_eq (a1 : List UInt8 × Int × Int × Bool × Bool) (a2 : List UInt8 × Int × Int × Bool × Bool) : abacistref11_put_1 a1 a2 = some a1 := (top_stage ..).trans (by kernel_rfl)
theorem strings_CutPrefix_eq (x0 : List UInt8) (x1 : List UInt8) : strings_CutPrefix x0 x1 = (internal_stringslite_CutPrefix x0 x1).bind fun v1 => some v1 := (top_call ..).trans (by kernel_rfl)
theorem addr_Parse_eq (x0 : List UInt8) : addr_Parse x0 = (addr_split x0).bind fun v1 => (addr_number v1.2).bind fun v2 => cond (!v2.2) (addr_Parse_1 v2.1 v1.1 true) (cond (decide ((v1.1.length : Int) < 1)) (addr_Parse_1 v2.1 v1.1 true) (addr_Parse_1 v2.1 v1.1 (decide ((v1.1.length : Int) > 2)))) := (top_call ..).trans (by kernel_rfl)
theorem addr_Parse_1_eq (a1 : Int) (a2 : List UInt8) (a3 : Bool) : addr_Parse_1 a1 a2 a3 = cond a3 (some (0, 0, 10)) ((addr_ColOf a2).bind fun v1 => cond (!v1.2) (addr_Parse_2 v1.1 a1 true) ((addr_In v1.1 a1).bind fun v2 => addr_Parse_2 v1.1 a1 (!v2))) := (top_stage ..).trans (by kernel_rfl)
theorem addr_Parse_2_eq (a1 : Int) (a2 : Int) (a3 : Bool) : addr_Parse_2 a1 a2 a3 = cond a3 (some (0, 0, 6)) (some (a1, a2, 0)) := (top_stage ..).trans (by kernel_rfl)
theorem addr_Col_eq (x0 : Int) : addr_Col x0 = (addr_within x0 52).bind fun v1 => cond (!v1) (some ([] : List UInt8)) (cond (!decide (26 = 0)) (cond (decide (x0 ≤ 26)) (some (bytesOf [IntKind.u8.wrap (IntKind.i64.wrap (65 + ((IntKind.i64.wrap (x0 - 1)).tmod 26)))])) (cond (!decide (26 = 0)) (cond (Nat.ble ((bytesOf [IntKind.u8.wrap (IntKind.i64.wrap ((IntKind.i64.wrap (65 + (IntKind.i64.wrap ((IntKind.i64.wrap (x0 - 1)).tdiv 26)))) - 1))]).length + (bytesOf [IntKind.u8.wrap (IntKind.i64.wrap (65 + ((IntKind.i64.wrap (x0 - 1)).tmod 26)))]).length) 9223372036854775807) (some ((bytesOf [IntKind.u8.wrap (IntKind.i64.wrap ((IntKind.i64.wrap (65 + (IntKind.i64.wrap ((IntKind.i64.wrap (x0 - 1)).tdiv 26)))) - 1))]) ++ (bytesOf [IntKind.u8.wrap (IntKind.i64.wrap (65 + ((IntKind.i64.wrap (x0 - 1)).tmod 26)))]))) none) none)) none) := (top_call ..).trans (by kernel_rfl)
theorem addr_Text_eq (x0 : Int) (x1 : Int) : addr_Text x0 x1 = (addr_In x0 x1).bind fun v1 => cond (!v1) (some ([] : List UInt8)) ((addr_Col x0).bind fun v2 => (strconv_Itoa x1).bind fun v3 => cond (Nat.ble (v2.length + v3.length) 9223372036854775807) (some (v2 ++ v3)) none) := (top_call ..).trans (by kernel_rfl)
theorem strings_TrimPrefix_eq (x0 : List UInt8) (x1 : List UInt8) : strings_TrimPrefix x0 x1 = (internal_stringslite_TrimPrefix x0 x1).bind fun v1 => some v1 := (top_call ..).trans (by kernel_rfl)
theorem ref_letter_eq (x0 : Int) : ref_letter x0 = cond (decide (x0 ≥ 65)) (cond (decide (x0 ≤ 90)) (some true) (cond (decide (x0 ≥ 97)) (some (decide (x0 ≤ 122))) (some false))) (cond (decide (x0 ≥ 97)) (some (decide (x0 ≤ 122))) (some false)) := (top_call ..).trans (by kernel_rfl)
theorem ref_digit_eq (x0 : Int) : ref_digit x0 = cond (decide (x0 ≥ 48)) (some (decide (x0 ≤ 57))) (some false) := (top_call ..).trans (by kernel_rfl)
theorem ref_capital_eq (x0 : List UInt8) : ref_capital x0 = ref_capital_1 ((x0.map fun b => (b.toNat : Int)).length : Int) 0 (x0.map fun b => (b.toNat : Int)) := (top_call ..).trans (by kernel_rfl)
theorem ref_capital_1_eq (a1 : Int) (a2 : Int) (a3 : List Int) : ref_capital_1 a1 a2 a3 = cond (decide (a2 < a1)) (cond (decide (0 ≤ a2) && decide (a2 < (a3.length : Int))) (cond (decide ((a3.getD a2.toNat 0) ≥ 97)) (ref_capital_2 a2 (a3.getD a2.toNat 0) a1 a2 (decide ((a3.getD a2.toNat 0) ≤ 122)) a3) (ref_capital_2 a2 (a3.getD a2.toNat 0) a1 a2 false a3)) none) (some (bytesOf a3)) := (top_stage ..).trans (by kernel_rfl)
theorem ref_capital_2_eq (a1 : Int) (a2 : Int) (a3 : Int) (a4 : Int) (a5 : Bool) (a6 : List Int) : ref_capital_2 a1 a2 a3 a4 a5 a6 = cond a5 (cond (decide (0 ≤ a1) && decide (a1 < (a6.length : Int))) (ref_capital_3 a3 a4 (a6.set a1.toNat (IntKind.u8.wrap ((IntKind.u8.wrap (a2 - 97)) + 65)))) none) (ref_capital_3 a3 a4 a6) := (top_stage ..).trans (by kernel_rfl)
theorem ref_capital_3_eq (a1 : Int) (a2 : Int) (a3 : List Int) : ref_capital_3 a1 a2 a3 = ref_capital_1 a1 (IntKind.i64.wrap (a2 + 1)) a3 := (top_stage ..).trans (by kernel_rfl)
theorem ref_addressed_eq (x0 : List UInt8) : ref_addressed x0 = ref_addressed_1 x0 0 := (top_call ..).trans (by kernel_rfl)
theorem ref_addressed_1_eq (a1 : List UInt8) (a2 : Int) : ref_addressed_1 a1 a2 = cond (decide (a2 < (a1.length : Int))) (cond (decide (0 ≤ a2) && decide (a2 < (a1.length : Int))) ((ref_letter ((a1.getD a2.toNat 0).toNat : Int)).bind fun v1 => ref_addressed_2 a1 a2 v1) none) (ref_addressed_2 a1 a2 false) := (top_stage ..).trans (by kernel_rfl)
theorem ref_addressed_2_eq (a1 : List UInt8) (a2 : Int) (a3 : Bool) : ref_addressed_2 a1 a2 a3 = cond a3 (ref_addressed_1 a1 (IntKind.i64.wrap (a2 + 1))) (cond (decide (0 ≤ a2) && decide (a2 ≤ (a1.length : Int))) (ref_addressed_3 a1 a2 ((a1.drop a2.toNat).map fun b => (b.toNat : Int)) (((a1.drop a2.toNat).map fun b => (b.toNat : Int)).length : Int) 0) none) := (top_stage ..).trans (by kernel_rfl)
theorem ref_addressed_3_eq (a1 : List UInt8) (a2 : Int) (a3 : List Int) (a4 : Int) (a5 : Int) : ref_addressed_3 a1 a2 a3 a4 a5 = cond (decide (a5 < a4)) (cond (decide (0 ≤ a5) && decide (a5 < (a3.length : Int))) ((ref_digit (a3.getD a5.toNat 0)).bind fun v1 => cond (!v1) (some false) (ref_addressed_3 a1 a2 a3 a4 (IntKind.i64.wrap (a5 + 1)))) none) (cond (decide (a2 ≥ 1)) (cond (decide (a2 ≤ 2)) (cond (decide ((a1.length : Int) > a2)) (some (decide ((a1.length : Int) ≤ (IntKind.i64.wrap (a2 + 3))))) (some false)) (some false)) (some false)) := (top_stage ..).trans (by kernel_rfl)
theorem addr_In_eq (x0 : Int) (x1 : Int) : addr_In x0 x1 = (addr_within x0 52).bind fun v1 => cond v1 ((addr_within x1 99).bind fun v2 => some v2) (some false) := (top_call ..).trans (by kernel_rfl)
theorem abacistref11_Named_eq (x0 : List UInt8) : abacistref11_Named x0 = cond (decide ((x0.length : Int) < 1)) (abacistref11_Named_1 x0 true) (cond (decide ((x0.length : Int) > 12)) (abacistref11_Named_1 x0 true) (cond (decide (0 ≤ 0) && decide (0 < (x0.length : Int))) ((abacistref11_Letter ((x0.getD 0 0).toNat : Int)).bind fun v1 => cond (!v1) (abacistref11_Named_1 x0 true) ((abacistref11_upper x0).bind fun v2 => (abacistref11_address v2).bind fun v3 => cond v3 (abacistref11_Named_1 x0 true) ((abacistref11_upper x0).bind fun v4 => cond (decide (v4 = ([84, 82, 85, 69] : List UInt8))) (abacistref11_Named_1 x0 true) ((abacistref11_upper x0).bind fun v5 => abacistref11_Named_1 x0 (decide (v5 = ([70, 65, 76, 83, 69] : List UInt8))))))) none)) := (top_call ..).trans (by kernel_rfl)
theorem abacistref11_Named_1_eq (a1 : List UInt8) (a2 : Bool) : abacistref11_Named_1 a1 a2 = cond a2 (some false) (abacistref11_Named_2 a1 0) := (top_stage ..).trans (by kernel_rfl)
theorem abacistref11_Named_2_eq (a1 : List UInt8) (a2 : Int) : abacistref11_Named_2 a1 a2 = cond (decide (a2 < (a1.length : Int))) (cond (decide (0 ≤ a2) && decide (a2 < (a1.length : Int))) ((abacistref11_Letter ((a1.getD a2.toNat 0).toNat : Int)).bind fun v1 => cond (!v1) (cond (decide (0 ≤ a2) && decide (a2 < (a1.length : Int))) ((abacistref11_Digit ((a1.getD a2.toNat 0).toNat : Int)).bind fun v2 => cond (!v2) (cond (decide (0 ≤ a2) && decide (a2 < (a1.length : Int))) (abacistref11_Named_3 a1 a2 (!decide (((a1.getD a2.toNat 0).toNat : Int) = 95))) none) (abacistref11_Named_3 a1 a2 false)) none) (abacistref11_Named_3 a1 a2 false)) none) (some true) := (top_stage ..).trans (by kernel_rfl)
theorem abacistref11_Named_3_eq (a1 : List UInt8) (a2 : Int) (a3 : Bool) : abacistref11_Named_3 a1 a2 a3 = cond a3 (some false) (abacistref11_Named_2 a1 (IntKind.i64.wrap (a2 + 1))) := (top_stage ..).trans (by kernel_rfl)
theorem abacistref10_In_eq (x0 : Int) (x1 : Int) : abacistref10_In x0 x1 = cond (decide (x0 ≥ 1)) (cond (decide (x0 ≤ 52)) (cond (decide (x1 ≥ 1)) (some (decide (x1 ≤ 99))) (some false)) (some false)) (some false) := (top_call ..).trans (by kernel_rfl)
theorem ref_place_col_eq (x0 : List UInt8 × Int × Int × Bool × Bool) : ref_place_col x0 = some x0.2.1 := (top_call ..).trans (by kernel_rfl)
theorem ref_place_toCol_eq (x0 : List UInt8 × Int × Int × Bool × Bool) (x1 : Int) : ref_place_toCol x0 x1 = some (x0.1, x1, x0.2.2) := (top_call ..).trans (by kernel_rfl)
theorem ref_place_row_eq (x0 : List UInt8 × Int × Int × Bool × Bool) : ref_place_row x0 = some x0.2.2.1 := (top_call ..).trans (by kernel_rfl)
theorem ref_place_toRow_eq (x0 : List UInt8 × Int × Int × Bool × Bool) (x1 : Int) : ref_place_toRow x0 x1 = some (x0.1, x0.2.1, x1, x0.2.2.2) := (top_call ..).trans (by kernel_rfl)
theorem internal_stringslite_CutPrefix_eq (x0 : List UInt8) (x1 : List UInt8) : internal_stringslite_CutPrefix x0 x1 = (internal_stringslite_HasPrefix x0 x1).bind fun v1 => cond (!v1) (some (x0, false)) (cond (decide (0 ≤ (x1.length : Int)) && decide ((x1.length : Int) ≤ (x0.length : Int))) (some (x0.drop ((x1.length : Int).toNat), true)) none) := (top_call ..).trans (by kernel_rfl)
theorem addr_split_eq (x0 : List UInt8) : addr_split x0 = addr_split_1 x0 0 := (top_call ..).trans (by kernel_rfl)
theorem addr_split_1_eq (a1 : List UInt8) (a2 : Int) : addr_split_1 a1 a2 = cond (decide (a2 < (a1.length : Int))) (cond (decide (0 ≤ a2) && decide (a2 < (a1.length : Int))) (cond (decide (((a1.getD a2.toNat 0).toNat : Int) ≥ 65)) (cond (decide (0 ≤ a2) && decide (a2 < (a1.length : Int))) (addr_split_2 a1 a2 (decide (((a1.getD a2.toNat 0).toNat : Int) ≤ 90))) none) (addr_split_2 a1 a2 false)) none) (addr_split_2 a1 a2 false) := (top_stage ..).trans (by kernel_rfl)
theorem addr_split_2_eq (a1 : List UInt8) (a2 : Int) (a3 : Bool) : addr_split_2 a1 a2 a3 = cond a3 (addr_split_1 a1 (IntKind.i64.wrap (a2 + 1))) (cond (decide (0 ≤ a2) && decide (a2 ≤ (a1.length : Int))) (cond (decide (0 ≤ a2) && decide (a2 ≤ (a1.length : Int))) (some (a1.take a2.toNat, a1.drop a2.toNat)) none) none) := (top_stage ..).trans (by kernel_rfl)
theorem addr_number_eq (x0 : List UInt8) : addr_number x0 = cond (decide (x0 = ([] : List UInt8))) (addr_number_1 x0 true) (cond (decide ((x0.length : Int) > 3)) (addr_number_1 x0 true) (cond (decide (0 ≤ 0) && decide (0 < (x0.length : Int))) (addr_number_1 x0 (decide (((x0.getD 0 0).toNat : Int) = 48))) none)) := (top_call ..).trans (by kernel_rfl)
theorem addr_number_1_eq (a1 : List UInt8) (a2 : Bool) : addr_number_1 a1 a2 = cond a2 (some (0, false)) (addr_number_2 0 (a1.map fun b => (b.toNat : Int)) ((a1.map fun b => (b.toNat : Int)).length : Int) 0) := (top_stage ..).trans (by kernel_rfl)
theorem addr_number_2_eq (a1 : Int) (a2 : List Int) (a3 : Int) (a4 : Int) : addr_number_2 a1 a2 a3 a4 = cond (decide (a4 < a3)) (cond (decide (0 ≤ a4) && decide (a4 < (a2.length : Int))) (cond (decide ((a2.getD a4.toNat 0) < 48)) (addr_number_3 a1 (a2.getD a4.toNat 0) a2 a3 a4 true) (addr_number_3 a1 (a2.getD a4.toNat 0) a2 a3 a4 (decide ((a2.getD a4.toNat 0) > 57)))) none) (some (a1, true)) := (top_stage ..).trans (by kernel_rfl)
theorem addr_number_3_eq (a1 : Int) (a2 : Int) (a3 : List Int) (a4 : Int) (a5 : Int) (a6 : Bool) : addr_number_3 a1 a2 a3 a4 a5 a6 = cond a6 (some (0, false)) (addr_number_2 (IntKind.i64.wrap ((IntKind.i64.wrap (10 * a1)) + (IntKind.i64.wrap (IntKind.u8.wrap (a2 - 48))))) a3 a4 (IntKind.i64.wrap (a5 + 1))) := (top_stage ..).trans (by kernel_rfl)
theorem addr_ColOf_eq (x0 : List UInt8) : addr_ColOf x0 = cond (decide ((x0.length : Int) < 1)) (addr_ColOf_1 x0 true) (addr_ColOf_1 x0 (decide ((x0.length : Int) > 2))) := (top_call ..).trans (by kernel_rfl)
theorem addr_ColOf_1_eq (a1 : List UInt8) (a2 : Bool) : addr_ColOf_1 a1 a2 = cond a2 (some (0, false)) (addr_ColOf_2 0 (a1.map fun b => (b.toNat : Int)) ((a1.map fun b => (b.toNat : Int)).length : Int) 0) := (top_stage ..).trans (by kernel_rfl)
theorem addr_ColOf_2_eq (a1 : Int) (a2 : List Int) (a3 : Int) (a4 : Int) : addr_ColOf_2 a1 a2 a3 a4 = cond (decide (a4 < a3)) (cond (decide (0 ≤ a4) && decide (a4 < (a2.length : Int))) (cond (decide ((a2.getD a4.toNat 0) < 65)) (addr_ColOf_3 a1 (a2.getD a4.toNat 0) a2 a3 a4 true) (addr_ColOf_3 a1 (a2.getD a4.toNat 0) a2 a3 a4 (decide ((a2.getD a4.toNat 0) > 90)))) none) ((addr_within a1 52).bind fun v1 => cond (!v1) (some (0, false)) (some (a1, true))) := (top_stage ..).trans (by kernel_rfl)
theorem addr_ColOf_3_eq (a1 : Int) (a2 : Int) (a3 : List Int) (a4 : Int) (a5 : Int) (a6 : Bool) : addr_ColOf_3 a1 a2 a3 a4 a5 a6 = cond a6 (some (0, false)) (addr_ColOf_2 (IntKind.i64.wrap ((IntKind.i64.wrap ((IntKind.i64.wrap (26 * a1)) + (IntKind.i64.wrap (IntKind.u8.wrap (a2 - 65))))) + 1)) a3 a4 (IntKind.i64.wrap (a5 + 1))) := (top_stage ..).trans (by kernel_rfl)
theorem addr_within_eq (x0 : Int) (x1 : Int) : addr_within x0 x1 = cond (decide (x0 ≥ 1)) (some (decide (x0 ≤ x1))) (some false) := (top_call ..).trans (by kernel_rfl)
theorem internal_stringslite_TrimPrefix_eq (x0 : List UInt8) (x1 : List UInt8) : internal_stringslite_TrimPrefix x0 x1 = (internal_stringslite_HasPrefix x0 x1).bind fun v1 => cond v1 (cond (decide (0 ≤ (x1.length : Int)) && decide ((x1.length : Int) ≤ (x0.length : Int))) (some (x0.drop ((x1.length : Int).toNat))) none) (some x0) := (top_call ..).trans (by kernel_rfl)
theorem abacistref11_Letter_eq (x0 : Int) : abacistref11_Letter x0 = cond (decide (x0 ≥ 65)) (cond (decide (x0 ≤ 90)) (some true) (cond (decide (x0 ≥ 97)) (some (decide (x0 ≤ 122))) (some false))) (cond (decide (x0 ≥ 97)) (some (decide (x0 ≤ 122))) (some false)) := (top_call ..).trans (by kernel_rfl)
theorem abacistref11_upper_eq (x0 : List UInt8) : abacistref11_upper x0 = abacistref11_upper_1 0 (x0.map fun b => (b.toNat : Int)) := (top_call ..).trans (by kernel_rfl)
theorem abacistref11_upper_1_eq (a1 : Int) (a2 : List Int) : abacistref11_upper_1 a1 a2 = cond (decide (a1 < (a2.length : Int))) (cond (decide (0 ≤ a1) && decide (a1 < (a2.length : Int))) (cond (decide ((a2.getD a1.toNat 0) ≥ 97)) (cond (decide (0 ≤ a1) && decide (a1 < (a2.length : Int))) (abacistref11_upper_2 a1 (decide ((a2.getD a1.toNat 0) ≤ 122)) a2) none) (abacistref11_upper_2 a1 false a2)) none) (some (bytesOf a2)) := (top_stage ..).trans (by kernel_rfl)
theorem abacistref11_upper_2_eq (a1 : Int) (a2 : Bool) (a3 : List Int) : abacistref11_upper_2 a1 a2 a3 = cond a2 (cond (decide (0 ≤ a1) && decide (a1 < (a3.length : Int))) (cond (decide (0 ≤ a1) && decide (a1 < (a3.length : Int))) (abacistref11_upper_3 a1 (a3.set a1.toNat (IntKind.u8.wrap ((a3.getD a1.toNat 0) - 32)))) none) none) (abacistref11_upper_3 a1 a3) := (top_stage ..).trans (by kernel_rfl)
theorem abacistref11_upper_3_eq (a1 : Int) (a2 : List Int) : abacistref11_upper_3 a1 a2 = abacistref11_upper_1 (IntKind.i64.wrap (a1 + 1)) a2 := (top_stage ..).trans (by kernel_rfl)
theorem abacistref11_address_eq (x0 : List UInt8) : abacistref11_address x0 = (abacistref10_Letters x0).bind fun v1 => cond (decide (v1 < 1)) (abacistref11_address_1 x0 v1 true) (cond (decide (v1 > 2)) (abacistref11_address_1 x0 v1 true) (cond (decide ((IntKind.i64.wrap ((x0.length : Int) - v1)) < 1)) (abacistref11_address_1 x0 v1 true) (abacistref11_address_1 x0 v1 (decide ((IntKind.i64.wrap ((x0.length : Int) - v1)) > 3))))) := (top_call ..).trans (by kernel_rfl)
theorem abacistref11_address_1_eq (a1 : List UInt8) (a2 : Int) (a3 : Bool) : abacistref11_address_1 a1 a2 a3 = cond a3 (some false) (abacistref11_address_2 a1 a2) := (top_stage ..).trans (by kernel_rfl)
theorem abacistref11_address_2_eq (a1 : List UInt8) (a2 : Int) : abacistref11_address_2 a1 a2 = cond (decide (a2 < (a1.length : Int))) (cond (decide (0 ≤ a2) && decide (a2 < (a1.length : Int))) ((abacistref11_Digit ((a1.getD a2.toNat 0).toNat : Int)).bind fun v1 => cond (!v1) (some false) (abacistref11_address_2 a1 (IntKind.i64.wrap (a2 + 1)))) none) (some true) := (top_stage ..).trans (by kernel_rfl)
theorem abacistref11_Digit_eq (x0 : Int) : abacistref11_Digit x0 = cond (decide (x0 ≥ 48)) (some (decide (x0 ≤ 57))) (some false) := (top_call ..).trans (by kernel_rfl)
theorem internal_stringslite_HasPrefix_eq (x0 : List UInt8) (x1 : List UInt8) : internal_stringslite_HasPrefix x0 x1 = cond (decide ((x0.length : Int) ≥ (x1.length : Int))) (cond (decide (0 ≤ (x1.length : Int)) && decide ((x1.length : Int) ≤ (x0.length : Int))) (some (decide ((x0.take ((x1.length : Int).toNat)) = x1))) none) (some false) := (top_call ..).trans (by kernel_rfl)
theorem abacistref10_Letters_eq (x0 : List UInt8) : abacistref10_Letters x0 = abacistref10_Letters_1 x0 0 := (top_call ..).trans (by kernel_rfl)
theorem abacistref10_Letters_1_eq (a1 : List UInt8) (a2 : Int) : abacistref10_Letters_1 a1 a2 = cond (decide (a2 < (a1.length : Int))) (cond (decide (0 ≤ a2) && decide (a2 < (a1.length : Int))) (cond (decide (((a1.getD a2.toNat 0).toNat : Int) ≥ 65)) (cond (decide (0 ≤ a2) && decide (a2 < (a1.length : Int))) (abacistref10_Letters_2 a1 a2 (decide (((a1.getD a2.toNat 0).toNat : Int) ≤ 90))) none) (abacistref10_Letters_2 a1 a2 false)) none) (abacistref10_Letters_2 a1 a2 false) := (top_stage ..).trans (by kernel_rfl)
theorem abacistref10_Letters_2_eq (a1 : List UInt8) (a2 : Int) (a3 : Bool) : abacistref10_Letters_2 a1 a2 a3 = cond a3 (abacistref10_Letters_1 a1 (IntKind.i64.wrap (a2 + 1))) (some a2) := (top_stage ..).trans (by kernel_rfl)
end Go.Proofs.YtenapomineinbaaDoor.K

/- The abstract machine: small rules for proofs over its equations. -/
set_option linter.unusedVariables false
set_option linter.unusedSimpArgs false
namespace Go.Proofs.YtenapomineinbaaDoor.K
open Go
theorem S.some {α : Type} (r : α) : (Option.some r : Option α) = Option.some r := rfl
theorem S.succ {α : Type} {f g : Option α} {r : α} (h : f = g) (hg : g = Option.some r) : f = Option.some r := h.trans hg
theorem S.bind {α β : Type} {f : Option α} {g : α → Option β} {a : α} {r : β} (hf : f = Option.some a) (hg : g a = Option.some r) : f.bind g = Option.some r := by rw [hf]; exact hg
theorem S.cond {α : Type} {c : Bool} {f g : Option α} {r : α} (h1 : c = true → f = Option.some r) (h2 : c = false → g = Option.some r) : cond c f g = Option.some r := by
  cases c with
  | true => exact h1 rfl
  | false => exact h2 rfl
theorem S.of_true {α : Type} {c : Bool} {f g : Option α} {r : α} (hc : c = true) (h : f = Option.some r) : _root_.cond c f g = Option.some r := by subst hc; exact h
theorem S.of_false {α : Type} {c : Bool} {f g : Option α} {r : α} (hc : c = false) (h : g = Option.some r) : _root_.cond c f g = Option.some r := by subst hc; exact h
theorem wrap64 {n : Int} (h0 : -9223372036854775808 ≤ n) (h1 : n ≤ 9223372036854775807) : IntKind.i64.wrap n = n := by
  simp [IntKind.wrap, IntKind.bits, IntKind.signed]
  omega
theorem wrapU64 {n : Int} (h0 : 0 ≤ n) (h1 : n < 18446744073709551616) : IntKind.u64.wrap n = n := by
  simp [IntKind.wrap, IntKind.bits, IntKind.signed]
  omega
theorem wrapU32 {n : Int} (h0 : 0 ≤ n) (h1 : n < 4294967296) : IntKind.u32.wrap n = n := by
  simp [IntKind.wrap, IntKind.bits, IntKind.signed]
  omega
theorem wrapU8 {n : Int} (h0 : 0 ≤ n) (h1 : n < 256) : IntKind.u8.wrap n = n := by
  simp [IntKind.wrap, IntKind.bits, IntKind.signed]
  omega
theorem dec_true {p : Prop} [Decidable p] (h : p) : decide p = true := decide_eq_true h
theorem dec_false {p : Prop} [Decidable p] (h : ¬ p) : decide p = false := decide_eq_false h
theorem cT {α : Type} {c : Bool} {a b : α} (h : c = true) : _root_.cond c a b = a := by subst h; rfl
theorem cF {α : Type} {c : Bool} {a b : α} (h : c = false) : _root_.cond c a b = b := by subst h; rfl
/-- An index within. -/
theorem ix {i n : Nat} (h : i < n) : (decide (0 ≤ (i : Int)) && decide ((i : Int) < (n : Int))) = true := by simp; omega
theorem getN {α : Type} (l : List α) (i : Nat) (d : α) (h : i < l.length) : l.getD (i : Int).toNat d = l[i] := by simp [List.getD, h]
end Go.Proofs.YtenapomineinbaaDoor.K

/- References: plain Lean; the program's and the reference's; moves and shifts. -/
set_option linter.unusedVariables false
set_option linter.unusedSimpArgs false
namespace Go.Proofs.YtenapomineinbaaDoor.F
open Go Go.Proofs.YtenapomineinbaaDoor.K
abbrev Rf := List UInt8 × Int × Int × Bool × Bool
abbrev Z : Rf := ([], 0, 0, false, false)
theorem wS {i : Nat} (h : i + 1 ≤ 9223372036854775807) : IntKind.i64.wrap ((i : Int) + 1) = ((i + 1 : Nat) : Int) := wrap64 (by omega) (by omega)
theorem getD_drop {s : List UInt8} {i : Nat} (h : i < s.length) : s.drop i = s.getD i 0 :: s.drop (i + 1) := by
  rw [List.drop_eq_getElem_cons h, List.getD_eq_getElem?_getD, List.getElem?_eq_getElem h]; rfl
theorem all_drop {p : UInt8 → Bool} {s : List UInt8} {i : Nat} (h : i < s.length) : (s.drop i).all p = (p (s.getD i 0) && (s.drop (i + 1)).all p) := by rw [getD_drop h, List.all_cons]
theorem map_get {s : List UInt8} {i : Nat} (h : i < s.length) : (s.map fun b => (b.toNat : Int)).getD (i : Int).toNat 0 = ((s.getD i 0).toNat : Int) := by simp [List.getD, h]
/-! ### bytes -/
def lt (b : UInt8) : Bool := (decide (65 ≤ b.toNat) && decide (b.toNat ≤ 90)) || (decide (97 ≤ b.toNat) && decide (b.toNat ≤ 122))
def dgt (b : UInt8) : Bool := decide (48 ≤ b.toNat) && decide (b.toNat ≤ 57)
def cap (b : UInt8) : Bool := decide (65 ≤ b.toNat) && decide (b.toNat ≤ 90)
theorem ge_d (b : UInt8) (n : Nat) : decide ((b.toNat : Int) ≥ (n : Int)) = decide (n ≤ b.toNat) := decide_eq_decide.2 (by omega)
theorem le_d (b : UInt8) (n : Nat) : decide ((b.toNat : Int) ≤ (n : Int)) = decide (b.toNat ≤ n) := decide_eq_decide.2 (by omega)
theorem xLt (b : UInt8) : ref_letter (b.toNat : Int) = some (lt b) := by
  rw [ref_letter_eq, lt, show decide ((b.toNat : Int) ≥ 65) = _ from ge_d b 65, show decide ((b.toNat : Int) ≤ 90) = _ from le_d b 90, show decide ((b.toNat : Int) ≥ 97) = _ from ge_d b 97, show decide ((b.toNat : Int) ≤ 122) = _ from le_d b 122]
  cases decide (65 ≤ b.toNat) <;> cases decide (b.toNat ≤ 90) <;> cases decide (97 ≤ b.toNat) <;> cases decide (b.toNat ≤ 122) <;> rfl
theorem yLt (b : UInt8) : abacistref11_Letter (b.toNat : Int) = some (lt b) := by
  rw [abacistref11_Letter_eq, lt, show decide ((b.toNat : Int) ≥ 65) = _ from ge_d b 65, show decide ((b.toNat : Int) ≤ 90) = _ from le_d b 90, show decide ((b.toNat : Int) ≥ 97) = _ from ge_d b 97, show decide ((b.toNat : Int) ≤ 122) = _ from le_d b 122]
  cases decide (65 ≤ b.toNat) <;> cases decide (b.toNat ≤ 90) <;> cases decide (97 ≤ b.toNat) <;> cases decide (b.toNat ≤ 122) <;> rfl
theorem xDgt (b : UInt8) : ref_digit (b.toNat : Int) = some (dgt b) := by
  rw [ref_digit_eq, dgt, show decide ((b.toNat : Int) ≥ 48) = _ from ge_d b 48, show decide ((b.toNat : Int) ≤ 57) = _ from le_d b 57]
  cases decide (48 ≤ b.toNat) <;> rfl
theorem yDgt (b : UInt8) : abacistref11_Digit (b.toNat : Int) = some (dgt b) := by
  rw [abacistref11_Digit_eq, dgt, show decide ((b.toNat : Int) ≥ 48) = _ from ge_d b 48, show decide ((b.toNat : Int) ≤ 57) = _ from le_d b 57]
  cases decide (48 ≤ b.toNat) <;> rfl
/-! ### capital letters -/
def up (b : UInt8) : UInt8 := if 97 ≤ b.toNat ∧ b.toNat ≤ 122 then UInt8.ofNat (b.toNat - 32) else b
theorem up_small {b : UInt8} (h : 97 ≤ b.toNat ∧ b.toNat ≤ 122) : (up b).toNat = b.toNat - 32 := by
  rw [up, if_pos h]
  exact UInt8.toNat_ofNat_of_lt' (by show _ < 256; omega)
theorem up_other {b : UInt8} (h : ¬ (97 ≤ b.toNat ∧ b.toNat ≤ 122)) : up b = b := by rw [up, if_neg h]
theorem up_lt (b : UInt8) : lt (up b) = cap (up b) := by
  unfold lt cap
  by_cases h : 97 ≤ b.toNat ∧ b.toNat ≤ 122
  · have := up_small h
    rw [decide_eq_false (show ¬ 97 ≤ (up b).toNat by omega)]; simp
  · rw [up_other h]
    have : (decide (97 ≤ b.toNat) && decide (b.toNat ≤ 122)) = false := by simp; omega
    rw [this, Bool.or_false]
theorem bytes_back (t : List UInt8) : bytesOf (t.map fun b => ((up b).toNat : Int)) = t.map up := by
  unfold bytesOf
  rw [List.map_map]
  refine List.map_congr_left fun b _ => ?_
  simp
theorem bytes_app (A B : List Int) : bytesOf (A ++ B) = bytesOf A ++ bytesOf B := by unfold bytesOf; rw [List.map_append]
theorem mid_get (A : List Int) (x : Int) (R : List Int) : (A ++ x :: R).getD A.length 0 = x := by simp [List.getD]
theorem mid_set (A : List Int) (x y : Int) (R : List Int) : (A ++ x :: R).set A.length y = A ++ y :: R := by simp
theorem inA {A R : List Int} {x : Int} : (decide (0 ≤ (A.length : Int)) && decide ((A.length : Int) < ((A ++ x :: R).length : Int))) = true := by simp; omega
theorem xCap1 : ∀ (t : List UInt8) (A : List Int) (n : Nat), n = A.length + t.length → n ≤ 9223372036854775807 → ref_capital_1 (n : Int) (A.length : Int) (A ++ t.map fun b => (b.toNat : Int)) = some (bytesOf (A ++ t.map fun b => ((up b).toNat : Int)))
  | [], A, n, hn, _ => by
    rw [ref_capital_1_eq, cF (decide_eq_false (by simp at hn; omega))]; rfl
  | c :: t, A, n, hn, hb => by
    simp only [List.length_cons] at hn
    have h3 : ∀ y : Int, ref_capital_3 (n : Int) (A.length : Int) (A ++ y :: t.map fun b => (b.toNat : Int)) = some (bytesOf ((A ++ [y]) ++ t.map fun b => ((up b).toNat : Int))) := by
      intro y
      have := xCap1 t (A ++ [y]) n (by simp; omega) hb
      rw [ref_capital_3_eq, wS (by omega)]
      simpa using this
    rw [ref_capital_1_eq, cT (decide_eq_true (by omega)), List.map_cons, cT inA, Int.toNat_natCast, mid_get, show decide ((c.toNat : Int) ≥ 97) = _ from ge_d c 97, show decide ((c.toNat : Int) ≤ 122) = _ from le_d c 122]
    simp only [ref_capital_2_eq]
    by_cases h : 97 ≤ c.toNat ∧ c.toNat ≤ 122
    · have e : IntKind.u8.wrap (IntKind.u8.wrap ((c.toNat : Int) - 97) + 65) = ((up c).toNat : Int) := by
        rw [up_small h, wrapU8 (n := (c.toNat : Int) - 97) (by omega) (by omega), wrapU8 (by omega) (by omega)]; omega
      rw [decide_eq_true h.1, decide_eq_true h.2, cond_true, cond_true, cT inA, Int.toNat_natCast, mid_set, e, h3]
      simp
    · have : up c = c := up_other h
      rw [List.map_cons, this]
      by_cases h1 : 97 ≤ c.toNat
      · rw [decide_eq_true h1, decide_eq_false (show ¬ c.toNat ≤ 122 by omega), cond_true, cond_false, h3]; simp
      · rw [decide_eq_false h1, cond_false, cond_false, h3]; simp
theorem xCapital (s : List UInt8) (hs : s.length ≤ 9223372036854775807) : ref_capital s = some (s.map up) := by
  rw [ref_capital_eq]
  have := xCap1 s [] s.length (by simp) hs
  rw [List.nil_append, List.nil_append, bytes_back] at this
  rw [List.length_map]
  exact this
theorem yCap1 : ∀ (t : List UInt8) (A : List Int), A.length + t.length ≤ 9223372036854775807 → abacistref11_upper_1 (A.length : Int) (A ++ t.map fun b => (b.toNat : Int)) = some (bytesOf (A ++ t.map fun b => ((up b).toNat : Int)))
  | [], A, _ => by
    rw [abacistref11_upper_1_eq, cF (decide_eq_false (by simp))]; rfl
  | c :: t, A, hb => by
    simp only [List.length_cons] at hb
    have h3 : ∀ y : Int, abacistref11_upper_3 (A.length : Int) (A ++ y :: t.map fun b => (b.toNat : Int)) = some (bytesOf ((A ++ [y]) ++ t.map fun b => ((up b).toNat : Int))) := by
      intro y
      have := yCap1 t (A ++ [y]) (by simp; omega)
      rw [abacistref11_upper_3_eq, wS (by omega)]
      simpa using this
    rw [abacistref11_upper_1_eq, cT (decide_eq_true (by simp; omega)), List.map_cons, cT inA, cT inA, Int.toNat_natCast, mid_get, show decide ((c.toNat : Int) ≥ 97) = _ from ge_d c 97, show decide ((c.toNat : Int) ≤ 122) = _ from le_d c 122]
    simp only [abacistref11_upper_2_eq]
    by_cases h : 97 ≤ c.toNat ∧ c.toNat ≤ 122
    · have e : IntKind.u8.wrap ((c.toNat : Int) - 32) = ((up c).toNat : Int) := by
        rw [up_small h, wrapU8 (by omega) (by omega)]; omega
      rw [decide_eq_true h.1, decide_eq_true h.2, cond_true, cond_true, cT inA, cT inA, Int.toNat_natCast, mid_get, mid_set, e, h3]
      simp
    · have : up c = c := up_other h
      rw [List.map_cons, this]
      by_cases h1 : 97 ≤ c.toNat
      · rw [decide_eq_true h1, decide_eq_false (show ¬ c.toNat ≤ 122 by omega), cond_true, cond_false, h3]; simp
      · rw [decide_eq_false h1, cond_false, cond_false, h3]; simp
theorem yCapital (s : List UInt8) (hs : s.length ≤ 9223372036854775807) : abacistref11_upper s = some (s.map up) := by
  rw [abacistref11_upper_eq]
  have := yCap1 s [] (by simpa using hs)
  rw [List.nil_append, List.nil_append, bytes_back] at this
  exact this
/-! ### texts of an address's form -/
def lead (p : UInt8 → Bool) (s : List UInt8) : Nat := (s.takeWhile p).length
theorem lead_le (p : UInt8 → Bool) (s : List UInt8) : lead p s ≤ s.length := by
  unfold lead
  induction s with
  | nil => simp
  | cons b s ih => simp only [List.takeWhile_cons]; split <;> simp <;> omega
theorem lead_drop {p : UInt8 → Bool} {s : List UInt8} {i : Nat} (h : i < s.length) : lead p (s.drop i) = if p (s.getD i 0) = true then lead p (s.drop (i + 1)) + 1 else 0 := by
  unfold lead
  rw [getD_drop h, List.takeWhile_cons]
  split <;> simp
def addrR (s : List UInt8) : Bool := (s.drop (lead cap s)).all dgt && (decide (1 ≤ lead cap s) && (decide (lead cap s ≤ 2) && (decide (lead cap s < s.length) && decide (s.length ≤ lead cap s + 3))))
theorem xAddr3 (s : List UInt8) (k : Nat) (hk : k ≤ s.length) (hs : s.length ≤ 1000000) : ∀ (m i : Nat), i + m = (s.drop k).length → ref_addressed_3 s (k : Int) ((s.drop k).map fun b => (b.toNat : Int)) (((s.drop k).map fun b => (b.toNat : Int)).length : Int) (i : Int) = some (((s.drop k).drop i).all dgt && (decide (1 ≤ k) && (decide (k ≤ 2) && (decide (k < s.length) && decide (s.length ≤ k + 3)))))
  | 0, i, h => by
    rw [ref_addressed_3_eq, cF (decide_eq_false (by rw [List.length_map]; omega)), List.drop_of_length_le (by omega), wrap64 (by omega) (by omega), show decide ((k : Int) ≥ 1) = decide (1 ≤ k) from decide_eq_decide.2 (by omega), show decide ((k : Int) ≤ 2) = decide (k ≤ 2) from decide_eq_decide.2 (by omega), show decide ((s.length : Int) > (k : Int)) = decide (k < s.length) from decide_eq_decide.2 (by omega), show decide ((s.length : Int) ≤ (k : Int) + 3) = decide (s.length ≤ k + 3) from decide_eq_decide.2 (by omega)]
    cases decide (1 ≤ k) <;> cases decide (k ≤ 2) <;> cases decide (k < s.length) <;> rfl
  | m + 1, i, h => by
    have hi : i < (s.drop k).length := by omega
    have hg : ((s.drop k).map fun b => (b.toNat : Int)).getD (i : Int).toNat 0 = (((s.drop k).getD i 0).toNat : Int) := map_get hi
    have hl : (s.drop k).length ≤ s.length := by simp
    rw [ref_addressed_3_eq, cT (decide_eq_true (by rw [List.length_map]; omega)), cT (by rw [List.length_map]; exact ix hi), hg, xDgt, Option.bind_some, all_drop hi]
    cases dgt ((s.drop k).getD i 0) with
    | false => rfl
    | true =>
      have := xAddr3 s k hk hs m (i + 1) (by omega)
      rw [show (!true) = false from rfl, cond_false, wS (by omega), this]; rfl
theorem xAddr1 (s : List UInt8) (hs : s.length ≤ 1000000) : ∀ (m i : Nat), i + m = s.length → ref_addressed_1 s (i : Int) = some ((s.drop (i + lead lt (s.drop i))).all dgt && (decide (1 ≤ i + lead lt (s.drop i)) && (decide (i + lead lt (s.drop i) ≤ 2) && (decide (i + lead lt (s.drop i) < s.length) && decide (s.length ≤ i + lead lt (s.drop i) + 3)))))
  | m, i, h => by
    have stop : lead lt (s.drop i) = 0 → i ≤ s.length → ref_addressed_2 s (i : Int) false = some ((s.drop (i + lead lt (s.drop i))).all dgt && (decide (1 ≤ i + lead lt (s.drop i)) && (decide (i + lead lt (s.drop i) ≤ 2) && (decide (i + lead lt (s.drop i) < s.length) && decide (s.length ≤ i + lead lt (s.drop i) + 3))))) := by
      intro h0 hi
      have := xAddr3 s i hi hs (s.drop i).length 0 (Nat.zero_add _)
      rw [List.drop_zero] at this
      rw [ref_addressed_2_eq, cond_false, cT (by simp; omega), Int.toNat_natCast, h0, Nat.add_zero]
      exact this
    rw [ref_addressed_1_eq]
    match m with
    | 0 =>
      rw [cF (decide_eq_false (by omega))]
      exact stop (by rw [List.drop_of_length_le (by omega)]; rfl) (by omega)
    | m + 1 =>
      have hi : i < s.length := by omega
      rw [cT (decide_eq_true (by omega)), cT (ix hi), Int.toNat_natCast, xLt, Option.bind_some]
      have hl := lead_drop (p := lt) hi
      cases hb : lt (s.getD i 0) with
      | false =>
        rw [hb] at hl
        exact stop (by rw [hl]; rfl) (by omega)
      | true =>
        rw [hb, if_pos rfl] at hl
        rw [ref_addressed_2_eq, cond_true, wS (by omega), xAddr1 s hs m (i + 1) (by omega), hl, show i + (lead lt (s.drop (i + 1)) + 1) = i + 1 + lead lt (s.drop (i + 1)) by omega]
theorem lead_up (s : List UInt8) : lead lt (s.map up) = lead cap (s.map up) := by
  unfold lead
  induction s with
  | nil => rfl
  | cons b s ih => simp only [List.map_cons, List.takeWhile_cons, up_lt]; split <;> simp [ih]
theorem xAddr (s : List UInt8) (hs : s.length ≤ 1000000) : ref_addressed (s.map up) = some (addrR (s.map up)) := by
  rw [ref_addressed_eq]
  have := xAddr1 (s.map up) (by simpa using hs) (s.map up).length 0 (Nat.zero_add _)
  simp only [List.drop_zero, Nat.zero_add] at this
  rw [lead_up] at this
  exact this
theorem yLetters1 (s : List UInt8) (hs : s.length ≤ 1000000) : ∀ (m i : Nat), i + m = s.length → abacistref10_Letters_1 s (i : Int) = some ((i + lead cap (s.drop i) : Nat) : Int)
  | m, i, h => by
    have stop : lead cap (s.drop i) = 0 → abacistref10_Letters_2 s (i : Int) false = some ((i + lead cap (s.drop i) : Nat) : Int) := by
      intro h0
      rw [abacistref10_Letters_2_eq, cond_false, h0]; rfl
    rw [abacistref10_Letters_1_eq]
    match m with
    | 0 =>
      rw [cF (decide_eq_false (by omega))]
      exact stop (by rw [List.drop_of_length_le (by omega)]; rfl)
    | m + 1 =>
      have hi : i < s.length := by omega
      have hl := lead_drop (p := cap) hi
      have next : lead cap (s.drop i) = lead cap (s.drop (i + 1)) + 1 → abacistref10_Letters_2 s (i : Int) true = some ((i + lead cap (s.drop i) : Nat) : Int) := by
        intro h1
        rw [abacistref10_Letters_2_eq, cond_true, wS (by omega), yLetters1 s hs m (i + 1) (by omega), h1]
        congr 2; omega
      rw [cT (decide_eq_true (by omega)), cT (ix hi), cT (ix hi), Int.toNat_natCast, show decide (((s.getD i 0).toNat : Int) ≥ 65) = _ from ge_d _ 65, show decide (((s.getD i 0).toNat : Int) ≤ 90) = _ from le_d _ 90]
      unfold cap at hl
      cases h1 : decide (65 ≤ (s.getD i 0).toNat) with
      | false =>
        rw [h1] at hl
        rw [cond_false]
        exact stop (by unfold cap; rw [hl]; rfl)
      | true =>
        rw [cond_true]
        cases h2 : decide ((s.getD i 0).toNat ≤ 90) with
        | false =>
          rw [h1, h2] at hl
          exact stop (by unfold cap; rw [hl]; rfl)
        | true =>
          rw [h1, h2] at hl
          exact next (by unfold cap; rw [hl]; rfl)
theorem yLetters (s : List UInt8) (hs : s.length ≤ 1000000) : abacistref10_Letters s = some ((lead cap s : Nat) : Int) := by
  rw [abacistref10_Letters_eq]
  have := yLetters1 s hs s.length 0 (Nat.zero_add _)
  simp only [List.drop_zero, Nat.zero_add] at this
  exact this
theorem yAddr2 (s : List UInt8) (hs : s.length ≤ 1000000) : ∀ (m i : Nat), i + m = s.length → abacistref11_address_2 s (i : Int) = some ((s.drop i).all dgt)
  | 0, i, h => by rw [abacistref11_address_2_eq, cF (decide_eq_false (by omega)), List.drop_of_length_le (by omega)]; rfl
  | m + 1, i, h => by
    have hi : i < s.length := by omega
    rw [abacistref11_address_2_eq, cT (decide_eq_true (by omega)), cT (ix hi), Int.toNat_natCast, yDgt, Option.bind_some, all_drop hi]
    cases dgt (s.getD i 0) with
    | false => rfl
    | true => rw [show (!true) = false from rfl, cond_false, wS (by omega), yAddr2 s hs m (i + 1) (by omega)]; rfl
theorem yAddr (s : List UInt8) (hs : s.length ≤ 1000000) : abacistref11_address s = some (addrR s) := by
  have hle := lead_le cap s
  rw [abacistref11_address_eq, yLetters s hs, Option.bind_some, addrR]
  simp only [abacistref11_address_1_eq]
  have h2 := yAddr2 s hs (s.length - lead cap s) (lead cap s) (by omega)
  generalize lead cap s = k at hle h2
  rw [h2, wrap64 (n := (s.length : Int) - (k : Int)) (by omega) (by omega), show decide ((k : Int) < 1) = !decide (1 ≤ k) by rw [← decide_not]; exact decide_eq_decide.2 (by omega), show decide ((k : Int) > 2) = !decide (k ≤ 2) by rw [← decide_not]; exact decide_eq_decide.2 (by omega), show decide ((s.length : Int) - (k : Int) < 1) = !decide (k < s.length) by rw [← decide_not]; exact decide_eq_decide.2 (by omega), show decide ((s.length : Int) - (k : Int) > 3) = !decide (s.length ≤ k + 3) by rw [← decide_not]; exact decide_eq_decide.2 (by omega)]
  cases decide (1 ≤ k) <;> cases decide (k ≤ 2) <;> cases decide (k < s.length) <;> cases decide (s.length ≤ k + 3) <;> cases (s.drop k).all dgt <;> rfl
/-! ### names of sheets -/
def okc (b : UInt8) : Bool := lt b || (dgt b || decide (b = 95))
def tTRUE : List UInt8 := [84, 82, 85, 69]
def tFALSE : List UInt8 := [70, 65, 76, 83, 69]
def namedR (s : List UInt8) : Bool := !decide (s = []) && (decide (s.length ≤ 12) && (lt (s.getD 0 0) && (s.all okc && (!decide (s.map up = tTRUE) && (!decide (s.map up = tFALSE) && !addrR (s.map up))))))
theorem eq95 (b : UInt8) : decide ((b.toNat : Int) = 95) = decide (b = 95) := decide_eq_decide.2 ⟨fun h => UInt8.toNat_inj.1 (by show b.toNat = 95; omega), fun h => by subst h; rfl⟩
theorem xNamed2 (s : List UInt8) (hs : s.length ≤ 12) : ∀ (m i : Nat), i + m = s.length → ref_Named_2 s (s.map fun b => (b.toNat : Int)) ((s.map fun b => (b.toNat : Int)).length : Int) (i : Int) = some ((s.drop i).all okc && (!decide (s.map up = tTRUE) && (!decide (s.map up = tFALSE) && !addrR (s.map up))))
  | 0, i, h => by
    rw [ref_Named_2_eq, cF (decide_eq_false (by rw [List.length_map]; omega)), List.drop_of_length_le (by omega), xCapital s (by omega), Option.bind_some]
    simp only [ref_Named_4_eq, xAddr s (by omega), Option.bind_some]
    show cond (decide (s.map up = tTRUE)) _ (cond (decide (s.map up = tFALSE)) _ _) = _
    cases decide (s.map up = tTRUE) <;> cases decide (s.map up = tFALSE) <;> rfl
  | m + 1, i, h => by
    have hi : i < s.length := by omega
    have hg : (s.map fun b => (b.toNat : Int)).getD (i : Int).toNat 0 = ((s.getD i 0).toNat : Int) := by simp [List.getD, hi]
    have next := xNamed2 s hs m (i + 1) (by omega)
    rw [ref_Named_2_eq, cT (decide_eq_true (by rw [List.length_map]; omega)), cT (by rw [List.length_map]; exact ix hi), hg, xLt, Option.bind_some, xDgt, Option.bind_some, eq95, all_drop hi, okc]
    simp only [ref_Named_3_eq, wS (show i + 1 ≤ 9223372036854775807 by omega), next]
    cases lt (s.getD i 0) <;> cases dgt (s.getD i 0) <;> cases decide (s.getD i 0 = 95) <;> rfl
theorem xNamedR (s : List UInt8) : ref_Named s = some (namedR s) := by
  rw [ref_Named_eq, namedR]
  simp only [ref_Named_1_eq]
  by_cases h0 : s = []
  · rw [cT (decide_eq_true h0), decide_eq_true h0]; rfl
  · rw [cF (decide_eq_false h0), decide_eq_false h0]
    by_cases h12 : s.length ≤ 12
    · have hp : 0 < s.length := List.length_pos_iff.2 h0
      have := xNamed2 s h12 s.length 0 (Nat.zero_add _)
      rw [List.drop_zero] at this
      rw [cF (decide_eq_false (by omega)), decide_eq_true h12, cT (by simp; omega), xLt, Option.bind_some]
      cases lt (s.getD 0 0) with
      | false => rfl
      | true => exact this
    · rw [cT (decide_eq_true (by omega)), decide_eq_false h12]; rfl
theorem yNamed2 (s : List UInt8) (hs : s.length ≤ 12) : ∀ (m i : Nat), i + m = s.length → abacistref11_Named_2 s (i : Int) = some ((s.drop i).all okc)
  | 0, i, h => by rw [abacistref11_Named_2_eq, cF (decide_eq_false (by omega)), List.drop_of_length_le (by omega)]; rfl
  | m + 1, i, h => by
    have hi : i < s.length := by omega
    have next := yNamed2 s hs m (i + 1) (by omega)
    rw [abacistref11_Named_2_eq, cT (decide_eq_true (by omega)), cT (ix hi), cT (ix hi), cT (ix hi), Int.toNat_natCast, yLt, Option.bind_some, yDgt, Option.bind_some, eq95, all_drop hi, okc]
    simp only [abacistref11_Named_3_eq, wS (show i + 1 ≤ 9223372036854775807 by omega), next]
    cases lt (s.getD i 0) <;> cases dgt (s.getD i 0) <;> cases decide (s.getD i 0 = 95) <;> rfl
theorem yNamedR (s : List UInt8) : abacistref11_Named s = some (namedR s) := by
  rw [abacistref11_Named_eq, namedR]
  simp only [abacistref11_Named_1_eq]
  by_cases h0 : s = []
  · subst h0; rfl
  · have hp : 0 < s.length := List.length_pos_iff.2 h0
    rw [cF (decide_eq_false (by omega)), decide_eq_false h0]
    by_cases h12 : s.length ≤ 12
    · have := yNamed2 s h12 s.length 0 (Nat.zero_add _)
      rw [List.drop_zero] at this
      have this : abacistref11_Named_2 s 0 = some (s.all okc) := this
      rw [cF (decide_eq_false (by omega)), decide_eq_true h12, cT (by simp; omega), yLt, Option.bind_some, yCapital s (by omega), Option.bind_some, yAddr _ (by rw [List.length_map]; omega), Option.bind_some, Option.bind_some, Option.bind_some, this]
      show cond _ _ (cond _ _ (cond (decide (s.map up = tTRUE)) _ (cond (decide (s.map up = tFALSE)) _ _))) = _
      cases lt (s.getD 0 0) <;> cases addrR (s.map up) <;> cases decide (s.map up = tTRUE) <;> cases decide (s.map up = tFALSE) <;> cases s.all okc <;> rfl
    · rw [cT (decide_eq_true (by omega)), decide_eq_false h12]; rfl
end Go.Proofs.YtenapomineinbaaDoor.F

/- References that are moved, and where columns or rows are put in or taken out: plain Lean; the laws. -/
set_option linter.unusedVariables false
set_option linter.unusedSimpArgs false
namespace Go.Proofs.YtenapomineinbaaDoor.F
open Go Go.Proofs.YtenapomineinbaaDoor.K
def inG (c r : Int) : Bool := decide (1 ≤ c) && (decide (c ≤ 52) && (decide (1 ≤ r) && decide (r ≤ 99)))
theorem xIn (c r : Int) : addr_In c r = some (inG c r) := by
  rw [addr_In_eq, addr_within_eq, addr_within_eq, inG]
  show (cond (decide (1 ≤ c)) (some (decide (c ≤ 52))) (some false) : Option Bool).bind _ = _
  cases decide (1 ≤ c) <;> cases decide (c ≤ 52) <;> first | rfl | skip
  show (cond (decide (1 ≤ r)) (some (decide (r ≤ 99))) (some false) : Option Bool).bind _ = _
  cases decide (1 ≤ r) <;> rfl
theorem yIn (c r : Int) : abacistref10_In c r = some (inG c r) := by
  rw [abacistref10_In_eq, inG]
  show cond (decide (1 ≤ c)) (cond _ (cond (decide (1 ≤ r)) _ _) _) _ = _
  cases decide (1 ≤ c) <;> cases decide (c ≤ 52) <;> cases decide (1 ≤ r) <;> rfl
def right (r : Rf) : Bool := (decide (r.1 = []) || namedR r.1) && inG r.2.1 r.2.2.1
theorem xRight (r : Rf) : ref_Right r = some (right r) := by
  rw [ref_Right_eq, xIn, xNamedR, Option.bind_some, right]
  cases decide (r.1 = []) <;> cases namedR r.1 <;> rfl
theorem yRight (r : Rf) : abacistref11_Right r = some (right r) := by
  rw [abacistref11_Right_eq, yIn, yNamedR, Option.bind_some, right]
  cases decide (r.1 = []) <;> cases namedR r.1 <;> rfl
theorem right_in {r : Rf} (h : right r = true) : 1 ≤ r.2.1 ∧ r.2.1 ≤ 52 ∧ 1 ≤ r.2.2.1 ∧ r.2.2.1 ≤ 99 := by
  unfold right inG at h
  simp only [Bool.and_eq_true, decide_eq_true_eq] at h
  exact h.2
theorem right_with {r : Rf} (h : right r = true) (c w : Int) (f g : Bool) : right (r.1, c, w, f, g) = inG c w := by
  unfold right at h ⊢
  simp only [Bool.and_eq_true] at h
  simp only [h.1, Bool.true_and]
/-! ### moves -/
def moveV (r : Rf) (c w : Int) : Rf × Bool :=
  cond (right r && ((r.2.2.2.1 || (decide (1 ≤ r.2.1 + c) && decide (r.2.1 + c ≤ 52))) && (r.2.2.2.2 || (decide (1 ≤ r.2.2.1 + w) && decide (r.2.2.1 + w ≤ 99)))))
    ((r.1, cond r.2.2.2.1 r.2.1 (r.2.1 + c), cond r.2.2.2.2 r.2.2.1 (r.2.2.1 + w), r.2.2.2), true) (Z, false)
theorem xAdded {n b m : Int} (hn : 1 ≤ n) (hn2 : n ≤ m) (hm : 1 ≤ m) (hm2 : m ≤ 99) : ∃ q, ref_added n b m = some q ∧ (q = n + b ∨ (q = 0 ∧ ¬ (1 ≤ n + b ∧ n + b ≤ m))) := by
  rw [ref_added_eq, wrap64 (n := 0 - m) (by omega) (by omega)]
  simp only [ref_added_1_eq]
  by_cases h1 : b < 0 - m
  · rw [cT (decide_eq_true h1)]; exact ⟨0, rfl, .inr ⟨rfl, by omega⟩⟩
  · rw [cF (decide_eq_false h1)]
    by_cases h2 : b > m
    · rw [cT (decide_eq_true h2)]; exact ⟨0, rfl, .inr ⟨rfl, by omega⟩⟩
    · rw [cF (decide_eq_false h2), wrap64 (by omega) (by omega)]; exact ⟨n + b, rfl, .inl rfl⟩
theorem inG_eq {c w : Int} (h : 1 ≤ c ∧ c ≤ 52 ∧ 1 ≤ w ∧ w ≤ 99) : inG c w = true := by
  unfold inG
  simp; omega
theorem inG_not {c w : Int} (h : ¬ (1 ≤ c ∧ c ≤ 52 ∧ 1 ≤ w ∧ w ≤ 99)) : inG c w = false := by
  cases hb : inG c w with
  | false => rfl
  | true =>
    unfold inG at hb
    simp only [Bool.and_eq_true, decide_eq_true_eq] at hb
    exact absurd hb h
/-- Behind both ways of reckoning. -/
theorem move_end {r : Rf} (h : right r = true) (c w p q : Int) (hp : (r.2.2.2.1 = true ∧ p = r.2.1) ∨ (r.2.2.2.1 = false ∧ (p = r.2.1 + c ∨ (¬ (1 ≤ p ∧ p ≤ 52) ∧ ¬ (1 ≤ r.2.1 + c ∧ r.2.1 + c ≤ 52)))))
    (hq : (r.2.2.2.2 = true ∧ q = r.2.2.1) ∨ (r.2.2.2.2 = false ∧ (q = r.2.2.1 + w ∨ (¬ (1 ≤ q ∧ q ≤ 99) ∧ ¬ (1 ≤ r.2.2.1 + w ∧ r.2.2.1 + w ≤ 99))))) :
    cond (!right (r.1, p, q, r.2.2.2)) (Z, false) ((r.1, p, q, r.2.2.2), true) = moveV r c w := by
  have hi := right_in h
  have hw : right (r.1, p, q, r.2.2.2) = inG p q := right_with h p q _ _
  rw [hw, moveV, h, Bool.true_and]
  rcases hp with ⟨f1, rfl⟩ | ⟨f1, rfl | ⟨f2, f3⟩⟩ <;> rcases hq with ⟨g1, rfl⟩ | ⟨g1, rfl | ⟨g2, g3⟩⟩ <;> rw [f1, g1]
  · rw [inG_eq ⟨hi.1, hi.2.1, hi.2.2.1, hi.2.2.2⟩]; rfl
  · by_cases hx : 1 ≤ r.2.2.1 + w ∧ r.2.2.1 + w ≤ 99
    · rw [inG_eq ⟨hi.1, hi.2.1, hx.1, hx.2⟩, decide_eq_true hx.1, decide_eq_true hx.2]; rfl
    · rw [inG_not (by omega)]
      have : (decide (1 ≤ r.2.2.1 + w) && decide (r.2.2.1 + w ≤ 99)) = false := by simp; omega
      rw [this]; rfl
  · rw [inG_not (by omega)]
    have : (decide (1 ≤ r.2.2.1 + w) && decide (r.2.2.1 + w ≤ 99)) = false := by simp; omega
    rw [this]; rfl
  · by_cases hx : 1 ≤ r.2.1 + c ∧ r.2.1 + c ≤ 52
    · rw [inG_eq ⟨hx.1, hx.2, hi.2.2.1, hi.2.2.2⟩, decide_eq_true hx.1, decide_eq_true hx.2]; rfl
    · rw [inG_not (by omega)]
      have : (decide (1 ≤ r.2.1 + c) && decide (r.2.1 + c ≤ 52)) = false := by simp; omega
      rw [this]; rfl
  · by_cases hx : 1 ≤ r.2.1 + c ∧ r.2.1 + c ≤ 52
    · by_cases hy : 1 ≤ r.2.2.1 + w ∧ r.2.2.1 + w ≤ 99
      · rw [inG_eq ⟨hx.1, hx.2, hy.1, hy.2⟩, decide_eq_true hx.1, decide_eq_true hx.2, decide_eq_true hy.1, decide_eq_true hy.2]; rfl
      · rw [inG_not (by omega)]
        have : (decide (1 ≤ r.2.2.1 + w) && decide (r.2.2.1 + w ≤ 99)) = false := by simp; omega
        rw [this, Bool.or_false, Bool.and_false]; rfl
    · rw [inG_not (by omega)]
      have : (decide (1 ≤ r.2.1 + c) && decide (r.2.1 + c ≤ 52)) = false := by simp; omega
      rw [this]; rfl
  · rw [inG_not (by omega)]
    have : (decide (1 ≤ r.2.2.1 + w) && decide (r.2.2.1 + w ≤ 99)) = false := by simp; omega
    rw [this, Bool.or_false, Bool.and_false]; rfl
  · rw [inG_not (by omega)]
    have : (decide (1 ≤ r.2.1 + c) && decide (r.2.1 + c ≤ 52)) = false := by simp; omega
    rw [this]; rfl
  · rw [inG_not (by omega)]
    have : (decide (1 ≤ r.2.1 + c) && decide (r.2.1 + c ≤ 52)) = false := by simp; omega
    rw [this]; rfl
  · rw [inG_not (by omega)]
    have : (decide (1 ≤ r.2.1 + c) && decide (r.2.1 + c ≤ 52)) = false := by simp; omega
    rw [this]; rfl
theorem move_none {r : Rf} (h : right r = false) (c w : Int) : moveV r c w = (Z, false) := by rw [moveV, h]; rfl
theorem move_at {r : Rf} {x y : Bool} (hx : r.2.2.2.1 = x) (hy : r.2.2.2.2 = y) {p q : Int} {v : Rf × Bool} (h : cond (!right (r.1, p, q, r.2.2.2)) (Z, false) ((r.1, p, q, r.2.2.2), true) = v) :
    some (cond (!right (r.1, p, q, x, y)) (Z, false) ((r.1, p, q, x, y), true)) = some v := by
  subst hx hy; exact congrArg some h
theorem some_cond {α : Type} (b : Bool) (x y : α) : cond b (some x) (some y) = some (cond b x y) := by cases b <;> rfl
theorem xMove (r : Rf) (c w : Int) : ref_Move r c w = some (moveV r c w) := by
  rw [ref_Move_eq, xRight, Option.bind_some]
  cases h : right r with
  | false => rw [cT (by rfl), move_none h]
  | true =>
    have hi := right_in h
    obtain ⟨p, hp, hp2⟩ := xAdded (b := c) hi.1 hi.2.1 (by omega) (by omega)
    obtain ⟨q, hq, hq2⟩ := xAdded (b := w) hi.2.2.1 hi.2.2.2 (by omega) (by omega)
    have hp3 : p = r.2.1 + c ∨ (¬ (1 ≤ p ∧ p ≤ 52) ∧ ¬ (1 ≤ r.2.1 + c ∧ r.2.1 + c ≤ 52)) := by omega
    have hq3 : q = r.2.2.1 + w ∨ (¬ (1 ≤ q ∧ q ≤ 99) ∧ ¬ (1 ≤ r.2.2.1 + w ∧ r.2.2.1 + w ≤ 99)) := by omega
    rw [cF (by rfl), hp, Option.bind_some]
    simp only [ref_Move_1_eq, ref_Move_2_eq, hq, Option.bind_some, xRight, some_cond]
    cases f1 : r.2.2.2.1 <;> cases g1 : r.2.2.2.2
    · simp only [Bool.not_false, cond_true]
      exact congrArg some (move_end h c w p q (.inr ⟨f1, hp3⟩) (.inr ⟨g1, hq3⟩))
    · simp only [Bool.not_false, Bool.not_true, cond_true, cond_false]
      exact congrArg some (move_end h c w p _ (.inr ⟨f1, hp3⟩) (.inl ⟨g1, rfl⟩))
    · simp only [Bool.not_false, Bool.not_true, cond_true, cond_false]
      exact congrArg some (move_end h c w _ q (.inl ⟨f1, rfl⟩) (.inr ⟨g1, hq3⟩))
    · simp only [Bool.not_true, cond_false]
      exact congrArg some (move_end h c w _ _ (.inl ⟨f1, rfl⟩) (.inl ⟨g1, rfl⟩))
def clip (c : Int) : Int := cond (decide (c < -1000) || decide (c > 1000)) 1000 c
theorem clip_b (c : Int) : -1000 ≤ clip c ∧ clip c ≤ 1000 := by
  unfold clip
  cases h : decide (c < -1000) || decide (c > 1000) with
  | true => rw [cond_true]; omega
  | false => simp at h; rw [cond_false]; omega
theorem clip_ok {n c m : Int} (hn : 1 ≤ n) (hn2 : n ≤ m) (hm2 : m ≤ 99) : n + clip c = n + c ∨ (¬ (1 ≤ n + clip c ∧ n + clip c ≤ m) ∧ ¬ (1 ≤ n + c ∧ n + c ≤ m)) := by
  unfold clip
  cases h : decide (c < -1000) || decide (c > 1000) with
  | true =>
    rw [cond_true]
    simp at h
    right; omega
  | false => exact .inl rfl
theorem yMove (r : Rf) (c w : Int) : abacistref11_Move r c w = some (moveV r c w) := by
  rw [abacistref11_Move_eq, yRight, Option.bind_some]
  cases h : right r with
  | false => rw [cT (by rfl), move_none h]
  | true =>
    have hi := right_in h
    have hc := clip_b c
    have hw := clip_b w
    have hp3 := clip_ok (c := c) hi.1 hi.2.1 (by omega)
    have hq3 := clip_ok (c := w) hi.2.2.1 hi.2.2.2 (by omega)
    have e1 : ∀ b x, cond b (abacistref11_Move_1 c w true r x) (abacistref11_Move_1 c w (decide (c > 1000)) r x) = abacistref11_Move_2 (cond (b || decide (c > 1000)) 1000 c) w r x := by
      intro b x
      simp only [abacistref11_Move_1_eq]
      cases b <;> cases decide (c > 1000) <;> rfl
    have e2 : ∀ x, abacistref11_Move_2 (clip c) w r x = abacistref11_Move_4 (clip c) (clip w) r x := by
      intro x
      rw [abacistref11_Move_2_eq]
      simp only [abacistref11_Move_3_eq]
      unfold clip
      show cond (decide (w < -1000)) _ _ = _
      cases decide (w < -1000) <;> cases decide (w > 1000) <;> rfl
    rw [cF (by rfl)]
    show cond (decide (c < -1000)) (abacistref11_Move_1 c w true r Z) (abacistref11_Move_1 c w (decide (c > 1000)) r Z) = _
    rw [e1]
    show abacistref11_Move_2 (clip c) w r Z = _
    rw [e2]
    simp only [abacistref11_Move_4_eq, abacistref11_Move_5_eq, abacistref11_Move_6_eq, Option.bind_some, yRight, some_cond]
    rw [wrap64 (n := r.2.1 + clip c) (by omega) (by omega), wrap64 (n := r.2.2.1 + clip w) (by omega) (by omega)]
    cases f1 : r.2.2.2.1 <;> cases g1 : r.2.2.2.2
    · simp only [Bool.not_false, cond_true]
      exact congrArg some (move_end h c w _ _ (.inr ⟨f1, hp3⟩) (.inr ⟨g1, hq3⟩))
    · simp only [Bool.not_false, Bool.not_true, cond_true, cond_false]
      exact congrArg some (move_end h c w _ _ (.inr ⟨f1, hp3⟩) (.inl ⟨g1, rfl⟩))
    · simp only [Bool.not_false, Bool.not_true, cond_true, cond_false]
      exact congrArg some (move_end h c w _ _ (.inl ⟨f1, rfl⟩) (.inr ⟨g1, hq3⟩))
    · simp only [Bool.not_true, cond_false]
      exact congrArg some (move_end h c w _ _ (.inl ⟨f1, rfl⟩) (.inl ⟨g1, rfl⟩))
def eqF (a b : Rf) : Bool := (decide (a.1 = b.1)) && ((decide (a.2.1 = b.2.1)) && ((decide (a.2.2.1 = b.2.2.1)) && ((a.2.2.2.1 == b.2.2.2.1) && (a.2.2.2.2 == b.2.2.2.2))))
theorem eqF_self (a : Rf) : eqF a a = true := by simp [eqF]
theorem known : abacistlaw11_known = some true := of_depth 300 (by kernel_rfl)
theorem move_back {r : Rf} {c w : Int} (h : (moveV r c w).2 = true) : moveV (moveV r c w).1 (0 - c) (0 - w) = (r, true) := by
  unfold moveV at h ⊢
  cases hc : right r && ((r.2.2.2.1 || (decide (1 ≤ r.2.1 + c) && decide (r.2.1 + c ≤ 52))) && (r.2.2.2.2 || (decide (1 ≤ r.2.2.1 + w) && decide (r.2.2.1 + w ≤ 99)))) with
  | false => rw [hc] at h; cases h
  | true =>
    simp only [Bool.and_eq_true] at hc
    obtain ⟨h0, h1, h2⟩ := hc
    have hi := right_in h0
    simp only [cond_true]
    obtain ⟨s, a, b, f, g⟩ := r
    simp only at h1 h2 hi ⊢
    have hr : ∀ x y, right (s, x, y, f, g) = inG x y := fun x y => right_with h0 x y f g
    rw [hr]
    cases f <;> cases g <;> simp only [cond_true, cond_false, Bool.true_or, Bool.false_or, Bool.true_and, Bool.and_true, Bool.and_eq_true, decide_eq_true_eq] at h1 h2 ⊢
    · rw [inG_eq ⟨h1.1, h1.2, h2.1, h2.2⟩]
      show cond (true && ((decide (1 ≤ a + c + (0 - c)) && decide (a + c + (0 - c) ≤ 52)) && (decide (1 ≤ b + w + (0 - w)) && decide (b + w + (0 - w) ≤ 99)))) ((s, a + c + (0 - c), b + w + (0 - w), false, false), true) (Z, false) = _
      rw [show a + c + (0 - c) = a by omega, show b + w + (0 - w) = b by omega, decide_eq_true hi.1, decide_eq_true hi.2.1, decide_eq_true hi.2.2.1, decide_eq_true hi.2.2.2]; rfl
    · rw [inG_eq ⟨h1.1, h1.2, hi.2.2.1, hi.2.2.2⟩]
      show cond (true && (decide (1 ≤ a + c + (0 - c)) && decide (a + c + (0 - c) ≤ 52))) ((s, a + c + (0 - c), b, false, true), true) (Z, false) = _
      rw [show a + c + (0 - c) = a by omega, decide_eq_true hi.1, decide_eq_true hi.2.1]; rfl
    · rw [inG_eq ⟨hi.1, hi.2.1, h2.1, h2.2⟩]
      show cond (true && (decide (1 ≤ b + w + (0 - w)) && decide (b + w + (0 - w) ≤ 99))) ((s, a, b + w + (0 - w), true, false), true) (Z, false) = _
      rw [show b + w + (0 - w) = b by omega, decide_eq_true hi.2.2.1, decide_eq_true hi.2.2.2]; rfl
    · rw [inG_eq hi]; rfl
theorem moves11 (r : Rf) (c w : Int) : abacistlaw11_RefMoves r c w = some true := by
  rw [abacistlaw11_RefMoves_eq]
  by_cases hl : (r.1.length : Int) > 200
  · rw [cT (decide_eq_true hl), known]; rfl
  rw [cF (decide_eq_false hl), xMove, Option.bind_some, yMove, Option.bind_some]
  show cond (!eqF (moveV r c w).1 (moveV r c w).1) _ _ = _
  rw [eqF_self, show (!true) = false from rfl, cond_false, show (!((moveV r c w).2 == (moveV r c w).2)) = false by simp, abacistlaw11_RefMoves_1_eq, cond_false]
  have out : abacistlaw11_RefMoves_2 c w true r (moveV r c w).1 = some true := by rw [abacistlaw11_RefMoves_2_eq, cond_true, known]; rfl
  rw [out]
  cases hm : (moveV r c w).2 with
  | false => rfl
  | true =>
    rw [show (!true) = false from rfl, cond_false]
    by_cases h1 : c < -200
    · rw [cT (decide_eq_true h1)]
    rw [cF (decide_eq_false h1)]
    by_cases h2 : c > 200
    · rw [cT (decide_eq_true h2)]
    rw [cF (decide_eq_false h2)]
    by_cases h3 : w < -200
    · rw [cT (decide_eq_true h3)]
    rw [cF (decide_eq_false h3)]
    by_cases h4 : w > 200
    · rw [decide_eq_true h4, out]
    rw [decide_eq_false h4, abacistlaw11_RefMoves_2_eq, cond_false, wrap64 (by omega) (by omega), wrap64 (by omega) (by omega), xMove, Option.bind_some, move_back hm]
    show cond (eqF r r) _ _ = _
    rw [eqF_self, known]; rfl
/-! ### put in, and taken out -/
def last (w : Int) : Int := cond (decide (w = 0)) 52 (cond (decide (w = 1)) 99 0)
def mayV (w a n : Int) : Bool := decide (1 ≤ a) && (decide (a ≤ last w) && (decide (1 ≤ n) && decide (n ≤ last w)))
def place (r : Rf) (w : Int) : Int := cond (decide (w = 0)) r.2.1 r.2.2.1
def putV (r : Rf) (w p : Int) : Rf := cond (decide (w = 0)) (r.1, p, r.2.2) (r.1, r.2.1, p, r.2.2.2)
def insV (r : Rf) (w a n : Int) : Rf × Bool :=
  cond (right r && mayV w a n) (cond (decide (cond (decide (place r w ≥ a)) (place r w + n) (place r w) > last w)) (Z, false) (putV r w (cond (decide (place r w ≥ a)) (place r w + n) (place r w)), true)) (Z, false)
def delV (r : Rf) (w a n : Int) : Rf × Bool :=
  cond (right r && mayV w a n) (cond (decide (place r w < a)) (r, true) (cond (decide (place r w < a + n)) (Z, false) (putV r w (place r w - n), true))) (Z, false)
theorem chain {α : Type} (f : Bool → α) (L a n : Int) : cond (decide (a ≥ 1)) (cond (decide (a ≤ L)) (cond (decide (n ≥ 1)) (f (decide (n ≤ L))) (f false)) (f false)) (f false) = f (decide (1 ≤ a) && (decide (a ≤ L) && (decide (1 ≤ n) && decide (n ≤ L)))) := by
  show cond (decide (1 ≤ a)) (cond _ (cond (decide (1 ≤ n)) _ _) _) _ = _
  cases decide (1 ≤ a) <;> cases decide (a ≤ L) <;> cases decide (1 ≤ n) <;> rfl
theorem may_b {w a n : Int} (h : mayV w a n = true) : (w = 0 ∨ w = 1) ∧ 1 ≤ a ∧ a ≤ last w ∧ 1 ≤ n ∧ n ≤ last w ∧ last w ≤ 99 := by
  unfold mayV at h
  simp only [Bool.and_eq_true, decide_eq_true_eq] at h
  have hl : w = 0 ∨ w = 1 ∨ last w = 0 := by
    by_cases h0 : w = 0
    · exact .inl h0
    · by_cases h1 : w = 1
      · exact .inr (.inl h1)
      · unfold last; rw [decide_eq_false h0, decide_eq_false h1]; exact .inr (.inr rfl)
  have h99 : last w ≤ 99 := by
    unfold last
    cases decide (w = 0) <;> cases decide (w = 1) <;> simp
  omega
theorem place_b {r : Rf} (h : right r = true) (w : Int) : 1 ≤ place r w ∧ place r w ≤ 99 := by
  have := right_in h
  unfold place
  cases decide (w = 0) <;> simp <;> omega
/-- How the program goes from a way to its place. -/
theorem xIns0 (r : Rf) (a n : Int) : ref_Insert r 0 a n = some (insV r 0 a n) := by
  rw [ref_Insert_eq, ref_Insert_1_eq, cF (by rfl), ref_Insert_3_eq, cT (by rfl), chain (fun b => ref_Insert_5 a n b r Z 52) 52 a n]
  show ref_Insert_5 a n (mayV 0 a n) r Z 52 = _
  rw [ref_Insert_5_eq, insV]
  cases hm : mayV 0 a n with
  | false => rw [Bool.not_false, cond_true, ref_Insert_7_eq, cond_true, Bool.and_false]; rfl
  | true =>
    rw [Bool.not_true, cond_false, xRight, Option.bind_some, ref_Insert_7_eq]
    cases hr : right r with
    | false => rfl
    | true =>
      have h1 := right_in hr
      have h2 := may_b hm
      have h3 : last 0 = 52 := rfl
      rw [Bool.not_true, cond_false, ref_place_col_eq, Option.bind_some, wrap64 (n := r.2.1 + n) (by omega) (by omega), ref_Insert_9_eq, ref_Insert_9_eq, ref_place_toCol_eq, ref_place_toCol_eq]
      show _ = some (cond (decide (cond (decide (r.2.1 ≥ a)) (r.2.1 + n) r.2.1 > 52)) (Z, false) ((r.1, cond (decide (r.2.1 ≥ a)) (r.2.1 + n) r.2.1, r.2.2), true))
      cases decide (r.2.1 ≥ a)
      · show cond (decide (r.2.1 > 52)) (some (Z, false)) (some ((r.1, r.2.1, r.2.2), true)) = some (cond (decide (r.2.1 > 52)) (Z, false) ((r.1, r.2.1, r.2.2), true))
        rw [some_cond]
      · show cond (decide (r.2.1 + n > 52)) (some (Z, false)) (some ((r.1, r.2.1 + n, r.2.2), true)) = some (cond (decide (r.2.1 + n > 52)) (Z, false) ((r.1, r.2.1 + n, r.2.2), true))
        rw [some_cond]
theorem xIns1 (r : Rf) (a n : Int) : ref_Insert r 1 a n = some (insV r 1 a n) := by
  rw [ref_Insert_eq, ref_Insert_1_eq, cT (by rfl), ref_Insert_2_eq, cF (by rfl), cT (by rfl), chain (fun b => ref_Insert_4 a n b r Z 99) 99 a n]
  show ref_Insert_4 a n (mayV 1 a n) r Z 99 = _
  rw [ref_Insert_4_eq, insV]
  cases hm : mayV 1 a n with
  | false => rw [Bool.not_false, cond_true, ref_Insert_6_eq, cond_true, Bool.and_false]; rfl
  | true =>
    rw [Bool.not_true, cond_false, xRight, Option.bind_some, ref_Insert_6_eq]
    cases hr : right r with
    | false => rfl
    | true =>
      have h1 := right_in hr
      have h2 := may_b hm
      have h3 : last 1 = 99 := rfl
      rw [Bool.not_true, cond_false, ref_place_row_eq, Option.bind_some, wrap64 (n := r.2.2.1 + n) (by omega) (by omega), ref_Insert_8_eq, ref_Insert_8_eq, ref_place_toRow_eq, ref_place_toRow_eq]
      show _ = some (cond (decide (cond (decide (r.2.2.1 ≥ a)) (r.2.2.1 + n) r.2.2.1 > 99)) (Z, false) ((r.1, r.2.1, cond (decide (r.2.2.1 ≥ a)) (r.2.2.1 + n) r.2.2.1, r.2.2.2), true))
      cases decide (r.2.2.1 ≥ a)
      · show cond (decide (r.2.2.1 > 99)) (some (Z, false)) (some ((r.1, r.2.1, r.2.2.1, r.2.2.2), true)) = some (cond (decide (r.2.2.1 > 99)) (Z, false) ((r.1, r.2.1, r.2.2.1, r.2.2.2), true))
        rw [some_cond]
      · show cond (decide (r.2.2.1 + n > 99)) (some (Z, false)) (some ((r.1, r.2.1, r.2.2.1 + n, r.2.2.2), true)) = some (cond (decide (r.2.2.1 + n > 99)) (Z, false) ((r.1, r.2.1, r.2.2.1 + n, r.2.2.2), true))
        rw [some_cond]
theorem may_no {w : Int} (h0 : w ≠ 0) (h1 : w ≠ 1) (a n : Int) : mayV w a n = false := by
  cases h : mayV w a n with
  | false => rfl
  | true => have := (may_b h).1; omega
theorem xIns (r : Rf) (w a n : Int) : ref_Insert r w a n = some (insV r w a n) := by
  by_cases h0 : w = 0
  · subst h0; exact xIns0 r a n
  by_cases h1 : w = 1
  · subst h1; exact xIns1 r a n
  rw [ref_Insert_eq, ref_Insert_1_eq, cF (decide_eq_false h1), ref_Insert_3_eq, cF (decide_eq_false h0), cF (decide_eq_false h1), ref_Insert_5_eq, cT (by rfl), ref_Insert_7_eq, cond_true, insV, may_no h0 h1, Bool.and_false, cond_false]
theorem xDel0 (r : Rf) (a n : Int) : ref_Delete r 0 a n = some (delV r 0 a n) := by
  rw [ref_Delete_eq, ref_Delete_1_eq, cF (by rfl), ref_Delete_3_eq, cT (by rfl), chain (fun b => ref_Delete_5 a n b r Z 52) 52 a n]
  show ref_Delete_5 a n (mayV 0 a n) r Z 52 = _
  rw [ref_Delete_5_eq, delV]
  cases hm : mayV 0 a n with
  | false => rw [Bool.not_false, cond_true, ref_Delete_7_eq, cond_true, Bool.and_false]; rfl
  | true =>
    rw [Bool.not_true, cond_false, xRight, Option.bind_some, ref_Delete_7_eq]
    cases hr : right r with
    | false => rfl
    | true =>
      have h1 := right_in hr
      have h2 := may_b hm
      have h3 : last 0 = 52 := rfl
      rw [Bool.not_true, cond_false, ref_place_col_eq, Option.bind_some, wrap64 (n := r.2.1 - n) (by omega) (by omega), wrap64 (n := a + n) (by omega) (by omega), ref_place_toCol_eq]
      show cond (decide (r.2.1 < a)) (some (r, true)) (cond (decide (r.2.1 < a + n)) (some (Z, false)) (some ((r.1, r.2.1 - n, r.2.2), true))) = some (cond (decide (r.2.1 < a)) (r, true) (cond (decide (r.2.1 < a + n)) (Z, false) ((r.1, r.2.1 - n, r.2.2), true)))
      rw [some_cond, some_cond]
theorem xDel1 (r : Rf) (a n : Int) : ref_Delete r 1 a n = some (delV r 1 a n) := by
  rw [ref_Delete_eq, ref_Delete_1_eq, cT (by rfl), ref_Delete_2_eq, cF (by rfl), cT (by rfl), chain (fun b => ref_Delete_4 a n b r Z 99) 99 a n]
  show ref_Delete_4 a n (mayV 1 a n) r Z 99 = _
  rw [ref_Delete_4_eq, delV]
  cases hm : mayV 1 a n with
  | false => rw [Bool.not_false, cond_true, ref_Delete_6_eq, cond_true, Bool.and_false]; rfl
  | true =>
    rw [Bool.not_true, cond_false, xRight, Option.bind_some, ref_Delete_6_eq]
    cases hr : right r with
    | false => rfl
    | true =>
      have h1 := right_in hr
      have h2 := may_b hm
      have h3 : last 1 = 99 := rfl
      rw [Bool.not_true, cond_false, ref_place_row_eq, Option.bind_some, wrap64 (n := r.2.2.1 - n) (by omega) (by omega), wrap64 (n := a + n) (by omega) (by omega), ref_place_toRow_eq]
      show cond (decide (r.2.2.1 < a)) (some (r, true)) (cond (decide (r.2.2.1 < a + n)) (some (Z, false)) (some ((r.1, r.2.1, r.2.2.1 - n, r.2.2.2), true))) = some (cond (decide (r.2.2.1 < a)) (r, true) (cond (decide (r.2.2.1 < a + n)) (Z, false) ((r.1, r.2.1, r.2.2.1 - n, r.2.2.2), true)))
      rw [some_cond, some_cond]
theorem xDel (r : Rf) (w a n : Int) : ref_Delete r w a n = some (delV r w a n) := by
  by_cases h0 : w = 0
  · subst h0; exact xDel0 r a n
  by_cases h1 : w = 1
  · subst h1; exact xDel1 r a n
  rw [ref_Delete_eq, ref_Delete_1_eq, cF (decide_eq_false h1), ref_Delete_3_eq, cF (decide_eq_false h0), cF (decide_eq_false h1), ref_Delete_5_eq, cT (by rfl), ref_Delete_7_eq, cond_true, delV, may_no h0 h1, Bool.and_false, cond_false]
theorem yLast (w : Int) : abacistref11_last w = some (last w) := by
  rw [abacistref11_last_eq, last]
  cases decide (w = 0) <;> cases decide (w = 1) <;> rfl
theorem yMay (w a n : Int) : abacistref11_may w a n = some (mayV w a n) := by
  rw [abacistref11_may_eq, yLast, Option.bind_some, chain (fun b => some b) (last w) a n]; rfl
theorem yPlace (r : Rf) (w : Int) : abacistref11_place r w = some (place r w) := by
  rw [abacistref11_place_eq, place]
  cases decide (w = 0) <;> rfl
theorem yPut (r : Rf) (w p : Int) : abacistref11_put r w p = some (putV r w p) := by
  rw [abacistref11_put_eq, putV]
  simp only [abacistref11_put_1_eq]
  cases decide (w = 0) <;> rfl
theorem yIns (r : Rf) (w a n : Int) : abacistref11_Insert r w a n = some (insV r w a n) := by
  rw [abacistref11_Insert_eq, yRight, Option.bind_some, yMay, Option.bind_some, insV, abacistref11_Insert_1_eq, abacistref11_Insert_1_eq]
  cases hr : right r with
  | false => rfl
  | true =>
    cases hm : mayV w a n with
    | false => rfl
    | true =>
      have h1 := place_b hr w
      have h2 := may_b hm
      rw [Bool.not_true, cond_false, cond_false, yPlace, Option.bind_some, wrap64 (n := place r w + n) (by omega) (by omega), abacistref11_Insert_2_eq, abacistref11_Insert_2_eq, yLast, Option.bind_some, Option.bind_some, yPut, yPut, Option.bind_some, Option.bind_some, some_cond, some_cond]
      cases decide (place r w ≥ a) <;> rfl
theorem put_same (r : Rf) (w : Int) : putV r w (place r w) = r := by
  unfold putV place
  cases decide (w = 0) <;> rfl
theorem yDel (r : Rf) (w a n : Int) : abacistref11_Delete r w a n = some (delV r w a n) := by
  rw [abacistref11_Delete_eq, yRight, Option.bind_some, yMay, Option.bind_some, delV, abacistref11_Delete_1_eq, abacistref11_Delete_1_eq]
  cases hr : right r with
  | false => rfl
  | true =>
    cases hm : mayV w a n with
    | false => rfl
    | true =>
      have h1 := place_b hr w
      have h2 := may_b hm
      have e : ∀ b, abacistref11_Delete_2 w a n (place r w) b r Z = some (cond b (Z, false) (cond (decide (place r w ≥ a + n)) (putV r w (place r w - n), true) (r, true))) := by
        intro b
        rw [abacistref11_Delete_2_eq, wrap64 (n := a + n) (by omega) (by omega), wrap64 (n := place r w - n) (by omega) (by omega), abacistref11_Delete_3_eq, abacistref11_Delete_3_eq, yPut, yPut, Option.bind_some, Option.bind_some, put_same, some_cond, some_cond]
      rw [Bool.not_true, cond_false, cond_false, yPlace, Option.bind_some, e, e, wrap64 (n := a + n) (by omega) (by omega), some_cond]
      by_cases g1 : place r w < a
      · rw [decide_eq_false (show ¬ place r w ≥ a by omega), decide_eq_false (show ¬ place r w ≥ a + n by omega), decide_eq_true g1]; rfl
      · rw [decide_eq_true (show place r w ≥ a by omega), decide_eq_false g1]
        by_cases g2 : place r w < a + n
        · rw [decide_eq_true g2]; rfl
        · rw [decide_eq_false g2, decide_eq_true (show place r w ≥ a + n by omega)]; rfl
end Go.Proofs.YtenapomineinbaaDoor.F

/- Pairs of references where columns or rows are put in or taken out; the laws of references. -/
set_option linter.unusedVariables false
set_option linter.unusedSimpArgs false
namespace Go.Proofs.YtenapomineinbaaDoor.F
open Go Go.Proofs.YtenapomineinbaaDoor.K
abbrev ZZ : Rf × Rf × Bool := (Z, Z, false)
def ins2B (r s : Rf) (w a n : Int) : Rf × Rf × Bool :=
  cond (!(insV r w a n).2) ZZ ((insV r w a n).1, cond (!(insV s w a n).2) (putV s w (last w)) (insV s w a n).1, true)
def ins2V (r s : Rf) (w a n : Int) : Rf × Rf × Bool :=
  cond (mayV w a n) (cond (right r) (cond (right s) (cond (decide (place r w > place s w)) ZZ (ins2B r s w a n)) ZZ) ZZ) ZZ
def fin (c d : Rf) (w : Int) : Rf × Rf × Bool :=
  cond (right c) (cond (right d) (cond (decide (place c w > place d w)) ZZ (c, d, true)) ZZ) ZZ
def del2V (r s : Rf) (w a n : Int) : Rf × Rf × Bool :=
  cond (mayV w a n) (cond (right r) (cond (right s) (cond (decide (place r w > place s w)) ZZ
    (fin (cond (!(delV r w a n).2) (putV r w a) (delV r w a n).1) (cond (!(delV s w a n).2) (putV s w (a - 1)) (delV s w a n).1) w)) ZZ) ZZ) ZZ
theorem xIns20 (r s : Rf) (a n : Int) : ref_Insert2 r s 0 a n = some (ins2V r s 0 a n) := by
  rw [ref_Insert2_eq, ref_Insert2_1_eq, cF (by rfl), ref_Insert2_3_eq, cT (by rfl), chain (fun b => ref_Insert2_5 0 a n b r s Z Z 52) 52 a n]
  show ref_Insert2_5 0 a n (mayV 0 a n) r s Z Z 52 = _
  have e : ∀ b, ref_Insert2_7 0 a n b r s Z Z 52 = some (cond b ZZ (ins2B r s 0 a n)) := by
    intro b
    rw [ref_Insert2_7_eq, xIns, Option.bind_some, xIns, Option.bind_some, ref_place_toCol_eq, Option.bind_some, ref_Insert2_8_eq, ref_Insert2_8_eq, ins2B]
    cases b <;> cases (insV r 0 a n).2 <;> cases (insV s 0 a n).2 <;> rfl
  rw [ref_Insert2_5_eq, xRight, Option.bind_some, xRight, Option.bind_some, ref_place_col_eq, Option.bind_some, ref_place_col_eq, Option.bind_some, e, e, ins2V]
  cases mayV 0 a n <;> cases right r <;> cases right s <;> rfl
theorem xIns21 (r s : Rf) (a n : Int) : ref_Insert2 r s 1 a n = some (ins2V r s 1 a n) := by
  rw [ref_Insert2_eq, ref_Insert2_1_eq, cT (by rfl), ref_Insert2_2_eq, cF (by rfl), cT (by rfl), chain (fun b => ref_Insert2_4 1 a n b r s Z Z 99) 99 a n]
  show ref_Insert2_4 1 a n (mayV 1 a n) r s Z Z 99 = _
  have e : ∀ b, ref_Insert2_6 1 a n b r s Z Z 99 = some (cond b ZZ (ins2B r s 1 a n)) := by
    intro b
    rw [ref_Insert2_6_eq, xIns, Option.bind_some, xIns, Option.bind_some, ref_place_toRow_eq, Option.bind_some, ref_Insert2_8_eq, ref_Insert2_8_eq, ins2B]
    cases b <;> cases (insV r 1 a n).2 <;> cases (insV s 1 a n).2 <;> rfl
  rw [ref_Insert2_4_eq, xRight, Option.bind_some, xRight, Option.bind_some, ref_place_row_eq, Option.bind_some, ref_place_row_eq, Option.bind_some, e, e, ins2V]
  cases mayV 1 a n <;> cases right r <;> cases right s <;> rfl
theorem xIns2 (r s : Rf) (w a n : Int) : ref_Insert2 r s w a n = some (ins2V r s w a n) := by
  by_cases h0 : w = 0
  · subst h0; exact xIns20 r s a n
  by_cases h1 : w = 1
  · subst h1; exact xIns21 r s a n
  rw [ref_Insert2_eq, ref_Insert2_1_eq, cF (decide_eq_false h1), ref_Insert2_3_eq, cF (decide_eq_false h0), cF (decide_eq_false h1), ref_Insert2_5_eq, cT (by rfl), ref_Insert2_7_eq, cond_true, ins2V, may_no h0 h1, cond_false]
theorem xDel20 (r s : Rf) (a n : Int) : ref_Delete2 r s 0 a n = some (del2V r s 0 a n) := by
  rw [ref_Delete2_eq, ref_Delete2_1_eq, cF (by rfl), ref_Delete2_3_eq, cT (by rfl), chain (fun b => ref_Delete2_5 0 a n b r s Z Z 52) 52 a n]
  show ref_Delete2_5 0 a n (mayV 0 a n) r s Z Z 52 = _
  cases hm : mayV 0 a n with
  | false => rw [ref_Delete2_5_eq, cT (by rfl), ref_Delete2_7_eq, cond_true, del2V, hm]; rfl
  | true =>
    have h2 := may_b hm
    have h3 : last 0 = 52 := rfl
    have f : ∀ c d, ref_Delete2_11 Z Z 52 c d = some (fin c d 0) := by
      intro c d
      rw [ref_Delete2_11_eq, xRight, Option.bind_some, xRight, Option.bind_some, ref_place_col_eq, Option.bind_some, ref_place_col_eq, Option.bind_some, ref_Delete2_12_eq, ref_Delete2_12_eq, some_cond, fin]
      cases right c <;> cases right d <;> first | rfl | (rw [some_cond]; rfl)
    have g : ∀ c, ref_Delete2_9 0 a n s Z Z 52 c = some (fin c (cond (!(delV s 0 a n).2) (putV s 0 (a - 1)) (delV s 0 a n).1) 0) := by
      intro c
      rw [ref_Delete2_9_eq, xDel, Option.bind_some, wrap64 (by omega) (by omega), ref_place_toCol_eq, Option.bind_some, f, f]
      cases (delV s 0 a n).2 <;> rfl
    have e : ∀ b, ref_Delete2_7 0 a n b r s Z Z 52 = some (cond b ZZ (fin (cond (!(delV r 0 a n).2) (putV r 0 a) (delV r 0 a n).1) (cond (!(delV s 0 a n).2) (putV s 0 (a - 1)) (delV s 0 a n).1) 0)) := by
      intro b
      rw [ref_Delete2_7_eq, xDel, Option.bind_some, ref_place_toCol_eq, Option.bind_some, g, g]
      cases b <;> cases (delV r 0 a n).2 <;> rfl
    rw [ref_Delete2_5_eq, xRight, Option.bind_some, xRight, Option.bind_some, ref_place_col_eq, Option.bind_some, ref_place_col_eq, Option.bind_some, e, e, del2V, hm]
    cases right r <;> cases right s <;> rfl
theorem xDel21 (r s : Rf) (a n : Int) : ref_Delete2 r s 1 a n = some (del2V r s 1 a n) := by
  rw [ref_Delete2_eq, ref_Delete2_1_eq, cT (by rfl), ref_Delete2_2_eq, cF (by rfl), cT (by rfl), chain (fun b => ref_Delete2_4 1 a n b r s Z Z 99) 99 a n]
  show ref_Delete2_4 1 a n (mayV 1 a n) r s Z Z 99 = _
  cases hm : mayV 1 a n with
  | false => rw [ref_Delete2_4_eq, cT (by rfl), ref_Delete2_6_eq, cond_true, del2V, hm]; rfl
  | true =>
    have h2 := may_b hm
    have h3 : last 1 = 99 := rfl
    have f : ∀ c d, ref_Delete2_10 Z Z 99 c d = some (fin c d 1) := by
      intro c d
      rw [ref_Delete2_10_eq, xRight, Option.bind_some, xRight, Option.bind_some, ref_place_row_eq, Option.bind_some, ref_place_row_eq, Option.bind_some, ref_Delete2_12_eq, ref_Delete2_12_eq, some_cond, fin]
      cases right c <;> cases right d <;> first | rfl | (rw [some_cond]; rfl)
    have g : ∀ c, ref_Delete2_8 1 a n s Z Z 99 c = some (fin c (cond (!(delV s 1 a n).2) (putV s 1 (a - 1)) (delV s 1 a n).1) 1) := by
      intro c
      rw [ref_Delete2_8_eq, xDel, Option.bind_some, wrap64 (by omega) (by omega), ref_place_toRow_eq, Option.bind_some, f, f]
      cases (delV s 1 a n).2 <;> rfl
    have e : ∀ b, ref_Delete2_6 1 a n b r s Z Z 99 = some (cond b ZZ (fin (cond (!(delV r 1 a n).2) (putV r 1 a) (delV r 1 a n).1) (cond (!(delV s 1 a n).2) (putV s 1 (a - 1)) (delV s 1 a n).1) 1)) := by
      intro b
      rw [ref_Delete2_6_eq, xDel, Option.bind_some, ref_place_toRow_eq, Option.bind_some, g, g]
      cases b <;> cases (delV r 1 a n).2 <;> rfl
    rw [ref_Delete2_4_eq, xRight, Option.bind_some, xRight, Option.bind_some, ref_place_row_eq, Option.bind_some, ref_place_row_eq, Option.bind_some, e, e, del2V, hm]
    cases right r <;> cases right s <;> rfl
theorem xDel2 (r s : Rf) (w a n : Int) : ref_Delete2 r s w a n = some (del2V r s w a n) := by
  by_cases h0 : w = 0
  · subst h0; exact xDel20 r s a n
  by_cases h1 : w = 1
  · subst h1; exact xDel21 r s a n
  rw [ref_Delete2_eq, ref_Delete2_1_eq, cF (decide_eq_false h1), ref_Delete2_3_eq, cF (decide_eq_false h0), cF (decide_eq_false h1), ref_Delete2_5_eq, cT (by rfl), ref_Delete2_7_eq, cond_true, del2V, may_no h0 h1, cond_false]
theorem yIns2 (r s : Rf) (w a n : Int) : abacistref11_Insert2 r s w a n = some (ins2V r s w a n) := by
  have e : ∀ b, abacistref11_Insert2_1 w a n b r s Z Z = some (cond b ZZ (ins2B r s w a n)) := by
    intro b
    rw [abacistref11_Insert2_1_eq, yIns, Option.bind_some, yIns, Option.bind_some, yLast, Option.bind_some, yPut, Option.bind_some, abacistref11_Insert2_2_eq, abacistref11_Insert2_2_eq, ins2B]
    cases b <;> cases (insV r w a n).2 <;> cases (insV s w a n).2 <;> rfl
  rw [abacistref11_Insert2_eq, yRight, Option.bind_some, yRight, Option.bind_some, yMay, Option.bind_some, yPlace, Option.bind_some, yPlace, Option.bind_some, e, e, ins2V]
  cases mayV w a n <;> cases right r <;> cases right s <;> rfl
theorem yDel2 (r s : Rf) (w a n : Int) : abacistref11_Delete2 r s w a n = some (del2V r s w a n) := by
  have z : abacistref11_Delete2_1 w a n true r s Z Z = some ZZ := by rw [abacistref11_Delete2_1_eq]; rfl
  rw [abacistref11_Delete2_eq, yRight, Option.bind_some, yRight, Option.bind_some, yMay, Option.bind_some, yPlace, Option.bind_some, yPlace, Option.bind_some, z, del2V]
  cases hm : mayV w a n with
  | false => cases right r <;> cases right s <;> rfl
  | true =>
    have h2 := may_b hm
    have f : ∀ c d, abacistref11_Delete2_3 w Z Z c d = some (fin c d w) := by
      intro c d
      rw [abacistref11_Delete2_3_eq, yPlace, Option.bind_some, yPlace, Option.bind_some, yRight, Option.bind_some, yRight, Option.bind_some, abacistref11_Delete2_4_eq, abacistref11_Delete2_4_eq, fin]
      cases right c <;> cases right d <;> cases decide (place c w > place d w) <;> rfl
    have g : ∀ c, abacistref11_Delete2_2 w a n s Z Z c = some (fin c (cond (!(delV s w a n).2) (putV s w (a - 1)) (delV s w a n).1) w) := by
      intro c
      rw [abacistref11_Delete2_2_eq, yDel, Option.bind_some, wrap64 (by omega) (by omega), yPut, Option.bind_some, f, f]
      cases (delV s w a n).2 <;> rfl
    have e : ∀ b, abacistref11_Delete2_1 w a n b r s Z Z = some (cond b ZZ (fin (cond (!(delV r w a n).2) (putV r w a) (delV r w a n).1) (cond (!(delV s w a n).2) (putV s w (a - 1)) (delV s w a n).1) w)) := by
      intro b
      rw [abacistref11_Delete2_1_eq, yDel, Option.bind_some, yPut, Option.bind_some, g, g]
      cases b <;> cases (delV r w a n).2 <;> rfl
    rw [e]
    cases right r <;> cases right s <;> rfl
/-! ### what is put in can be taken out -/
theorem last_two (w : Int) (h : w = 0 ∨ w = 1) : (w = 0 ∧ last w = 52) ∨ (w = 1 ∧ last w = 99) := by
  rcases h with rfl | rfl
  · exact .inl ⟨rfl, rfl⟩
  · exact .inr ⟨rfl, rfl⟩
theorem place_last {r : Rf} (h : right r = true) {w : Int} (hw : w = 0 ∨ w = 1) : 1 ≤ place r w ∧ place r w ≤ last w := by
  have hi := right_in h
  rcases hw with rfl | rfl
  · exact ⟨hi.1, hi.2.1⟩
  · exact ⟨hi.2.2.1, hi.2.2.2⟩
theorem put_right {r : Rf} (h : right r = true) {w : Int} (hw : w = 0 ∨ w = 1) {p : Int} (h1 : 1 ≤ p) (h2 : p ≤ last w) : right (putV r w p) = true := by
  have hi := right_in h
  rcases hw with rfl | rfl
  · show right (r.1, p, r.2.2) = true
    rw [show r.2.2 = (r.2.2.1, r.2.2.2.1, r.2.2.2.2) from rfl, right_with h]
    exact inG_eq ⟨h1, h2, hi.2.2.1, hi.2.2.2⟩
  · show right (r.1, r.2.1, p, r.2.2.2) = true
    rw [show r.2.2.2 = (r.2.2.2.1, r.2.2.2.2) from rfl, right_with h]
    exact inG_eq ⟨hi.1, hi.2.1, h1, h2⟩
theorem place_put (r : Rf) {w : Int} (hw : w = 0 ∨ w = 1) (p : Int) : place (putV r w p) w = p := by
  rcases hw with rfl | rfl <;> rfl
theorem put_put (r : Rf) {w : Int} (hw : w = 0 ∨ w = 1) (p q : Int) : putV (putV r w p) w q = putV r w q := by
  rcases hw with rfl | rfl <;> rfl
theorem ins_del {r : Rf} {w a n : Int} (h : (insV r w a n).2 = true) : delV (insV r w a n).1 w a n = (r, true) := by
  cases hr : right r with
  | false => rw [insV, hr] at h; cases h
  | true =>
    cases hm : mayV w a n with
    | false => rw [insV, hm, Bool.and_false] at h; cases h
    | true =>
      have hb := may_b hm
      have hp := place_last hr hb.1
      have e : insV r w a n = cond (decide (cond (decide (place r w ≥ a)) (place r w + n) (place r w) > last w)) (Z, false) (putV r w (cond (decide (place r w ≥ a)) (place r w + n) (place r w)), true) := by rw [insV, hr, hm]; rfl
      rw [e] at h ⊢
      have d : ∀ p, 1 ≤ p → p ≤ last w → delV (putV r w p) w a n = cond (decide (p < a)) (putV r w p, true) (cond (decide (p < a + n)) (Z, false) (putV r w (p - n), true)) := by
        intro p h1 h2
        rw [delV, put_right hr hb.1 h1 h2, hm, place_put r hb.1, put_put r hb.1]; rfl
      by_cases g : place r w ≥ a
      · rw [decide_eq_true g, cond_true] at h ⊢
        by_cases g2 : place r w + n > last w
        · rw [decide_eq_true g2] at h; cases h
        · rw [decide_eq_false g2]
          show delV (putV r w (place r w + n)) w a n = _
          rw [d _ (by omega) (by omega), cF (decide_eq_false (by omega)), cF (decide_eq_false (by omega)), show place r w + n - n = place r w by omega, put_same]
      · rw [decide_eq_false g, cond_false, decide_eq_false (show ¬ place r w > last w by omega)]
        show delV (putV r w (place r w)) w a n = _
        rw [d _ (by omega) (by omega), cT (decide_eq_true (by omega)), put_same]
theorem shifts11 (r s : Rf) (w a n : Int) : abacistlaw11_RefShifts r s (w, a, n) = some true := by
  have kn : abacistlaw11_RefShifts_1 true r s (w, a, n) = some true := by rw [abacistlaw11_RefShifts_1_eq, cond_true, known]; rfl
  rw [abacistlaw11_RefShifts_eq]
  by_cases h1 : (r.1.length : Int) > 200
  · rw [cT (decide_eq_true h1), kn]
  rw [cF (decide_eq_false h1)]
  by_cases h2 : (s.1.length : Int) > 200
  · rw [decide_eq_true h2, kn]
  rw [decide_eq_false h2, abacistlaw11_RefShifts_1_eq, cond_false, xIns, Option.bind_some, yIns, Option.bind_some, xDel, Option.bind_some, yDel, Option.bind_some]
  show cond (!eqF (insV r w a n).1 (insV r w a n).1) _ (cond (!((insV r w a n).2 == (insV r w a n).2)) _ (cond (!eqF (delV r w a n).1 (delV r w a n).1) _ (abacistlaw11_RefShifts_2 _ (!((delV r w a n).2 == (delV r w a n).2)) _ _ _ _))) = _
  rw [eqF_self, eqF_self, beq_self_eq_true, beq_self_eq_true, Bool.not_true, cond_false, cond_false, cond_false, abacistlaw11_RefShifts_2_eq, cond_false, xIns2, Option.bind_some, yIns2, Option.bind_some, xDel2, Option.bind_some, yDel2, Option.bind_some]
  show cond (!eqF (ins2V r s w a n).1 (ins2V r s w a n).1) _ (cond (!eqF (ins2V r s w a n).2.1 (ins2V r s w a n).2.1) _ (cond (!((ins2V r s w a n).2.2 == (ins2V r s w a n).2.2)) _ (cond (!eqF (del2V r s w a n).1 (del2V r s w a n).1) _ (cond (!eqF (del2V r s w a n).2.1 (del2V r s w a n).2.1) _ (abacistlaw11_RefShifts_3 _ (!((del2V r s w a n).2.2 == (del2V r s w a n).2.2)) _ _ _))))) = _
  rw [eqF_self, eqF_self, eqF_self, eqF_self, beq_self_eq_true, beq_self_eq_true, Bool.not_true, cond_false, cond_false, cond_false, cond_false, cond_false, abacistlaw11_RefShifts_3_eq, cond_false, xDel, Option.bind_some]
  cases hi : (insV r w a n).2 with
  | false => rw [known]; rfl
  | true =>
    rw [show delV (insV r w a n).1 (w, a, n).1 (w, a, n).2.1 (w, a, n).2.2 = (r, true) from ins_del hi]
    show cond (!true) _ (cond (eqF r r) _ _) = _
    rw [eqF_self, known]; rfl
end Go.Proofs.YtenapomineinbaaDoor.F
namespace Go.Proofs.YtenapomineinbaaDoor.K
open Go
abbrev RefTy : Ty := .pair .str (.pair (.int .i64) (.pair (.int .i64) (.pair .bool .bool)))
theorem RefMoves (r : List UInt8 × Int × Int × Bool × Bool) (_ : Wf RefTy r) (c : Int) (_ : Wf (.int .i64) c) (w : Int) (_ : Wf (.int .i64) w) : abacistlaw11_RefMoves r c w = some true := F.moves11 r c w
theorem RefShifts (r : List UInt8 × Int × Int × Bool × Bool) (_ : Wf RefTy r) (s : List UInt8 × Int × Int × Bool × Bool) (_ : Wf RefTy s) (v : Int × Int × Int) (_ : Wf (.pair (.int .i64) (.pair (.int .i64) (.int .i64))) v) : abacistlaw11_RefShifts r s v = some true := F.shifts11 r s v.1 v.2.1 v.2.2
end Go.Proofs.YtenapomineinbaaDoor.K
