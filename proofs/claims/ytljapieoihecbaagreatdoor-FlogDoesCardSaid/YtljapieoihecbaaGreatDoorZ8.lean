/- Part 8 of the proof: the machine, the tables and the pure laws that the last text joins. -/
import Derived.Test.YtljapieoihecbaaGreatDoorZ7
import Derived.Test.YtljapieoihecbaaGreatDoorProg
import Derived.Test.YtljapieoihecbaaGreatDoorZ6
import Derived.Lib.IndexBytes
/- The machine at this seat: its equations. -/
set_option linter.unusedVariables false
set_option maxRecDepth 100000
namespace Go.Proofs.YtljapieoihecbaaGreatDoor.K
open Go
theorem abacistlaw20_FlogDoes_eq (x0 : TB9) (x1 : List (TA9)) : abacistlaw20_FlogDoes x0 x1 = (abacistlaw20_light x1).bind fun v1 => cond (!v1) ((abacistlaw20_known).bind fun v2 => some v2) ((flog_Do x0 x1).bind fun v3 => (abacistref20_Do x0 x1).bind fun v4 => cond ((decide (v3.1 = v4.1)) && ((v3.2.1.1 == v4.2.1.1) && ((decide (v3.2.1.2.1 = v4.2.1.2.1)) && ((decide (v3.2.1.2.2 = v4.2.1.2.2)) && ((decide (v3.2.2.1 = v4.2.2.1)) && ((v3.2.2.2.1 == v4.2.2.2.1) && (decide (v3.2.2.2.2 = v4.2.2.2.2)))))))) ((abacistref08_Right v3).bind fun v5 => cond v5 ((abacistlaw20_known).bind fun v6 => some v6) (some false)) (some false)) := (top_call ..).trans (by kernel_rfl)
theorem flog_Names_eq : flog_Names = some [([73, 70] : TB9), ([73, 70, 69, 82, 82, 79, 82] : TB9), ([73, 70, 78, 65] : TB9), ([65, 78, 68] : TB9), ([79, 82] : TB9), ([88, 79, 82] : TB9), ([78, 79, 84] : TB9), ([84, 82, 85, 69] : TB9), ([70, 65, 76, 83, 69] : TB9), ([78, 65] : TB9), ([73, 83, 66, 76, 65, 78, 75] : TB9), ([73, 83, 78, 85, 77, 66, 69, 82] : TB9), ([73, 83, 84, 69, 88, 84] : TB9), ([73, 83, 76, 79, 71, 73, 67, 65, 76] : TB9), ([73, 83, 69, 82, 82, 79, 82] : TB9), ([73, 83, 69, 82, 82] : TB9), ([73, 83, 78, 65] : TB9), ([78] : TB9), ([84] : TB9), ([84, 89, 80, 69] : TB9), ([67, 72, 79, 79, 83, 69] : TB9), ([83, 87, 73, 84, 67, 72] : TB9)] := (top_call ..).trans (by kernel_rfl)
theorem abacistref20_Names_eq : abacistref20_Names = some [([73, 70] : TB9), ([73, 70, 69, 82, 82, 79, 82] : TB9), ([73, 70, 78, 65] : TB9), ([65, 78, 68] : TB9), ([79, 82] : TB9), ([88, 79, 82] : TB9), ([78, 79, 84] : TB9), ([84, 82, 85, 69] : TB9), ([70, 65, 76, 83, 69] : TB9), ([78, 65] : TB9), ([73, 83, 66, 76, 65, 78, 75] : TB9), ([73, 83, 78, 85, 77, 66, 69, 82] : TB9), ([73, 83, 84, 69, 88, 84] : TB9), ([73, 83, 76, 79, 71, 73, 67, 65, 76] : TB9), ([73, 83, 69, 82, 82, 79, 82] : TB9), ([73, 83, 69, 82, 82] : TB9), ([73, 83, 78, 65] : TB9), ([78] : TB9), ([84] : TB9), ([84, 89, 80, 69] : TB9), ([67, 72, 79, 79, 83, 69] : TB9), ([83, 87, 73, 84, 67, 72] : TB9)] := (top_call ..).trans (by kernel_rfl)
theorem abacistlaw20_light_eq (x0 : List (TA9)) : abacistlaw20_light x0 = cond (decide ((x0.length : Int) > 25)) (some false) (abacistlaw20_light_1 x0 0) := (top_call ..).trans (by kernel_rfl)
theorem abacistlaw20_light_1_eq (a1 : List (TA9)) (a2 : Int) : abacistlaw20_light_1 a1 a2 = cond (decide (a2 < (a1.length : Int))) (cond (decide (0 ≤ a2) && decide (a2 < (a1.length : Int))) (cond (decide ((((a1.getD a2.toNat ([], 0, false, 0, 0)).1).length : Int) > 210)) (some false) (abacistlaw20_light_2 a1 a2 0)) none) (some true) := (top_stage ..).trans (by kernel_rfl)
theorem abacistlaw20_light_2_eq (a1 : List (TA9)) (a2 : Int) (a3 : Int) : abacistlaw20_light_2 a1 a2 a3 = cond (decide (0 ≤ a2) && decide (a2 < (a1.length : Int))) (cond (decide (a3 < (((a1.getD a2.toNat ([], 0, false, 0, 0)).1).length : Int))) (cond (decide (0 ≤ a2) && decide (a2 < (a1.length : Int))) (cond (decide (0 ≤ a3) && decide (a3 < (((a1.getD a2.toNat ([], 0, false, 0, 0)).1).length : Int))) (cond (decide ((((((((a1.getD a2.toNat ([], 0, false, 0, 0)).1).getD a3.toNat (0, (false, [], []), [], false, 0)).2).2).1).length : Int) > 1000)) (abacistlaw20_light_3 a1 a2 a3 true) (cond (decide (((((((((a1.getD a2.toNat ([], 0, false, 0, 0)).1).getD a3.toNat (0, (false, [], []), [], false, 0)).2).1).2).1).length : Int) > 100)) (abacistlaw20_light_3 a1 a2 a3 true) (abacistlaw20_light_3 a1 a2 a3 (decide (((((((((a1.getD a2.toNat ([], 0, false, 0, 0)).1).getD a3.toNat (0, (false, [], []), [], false, 0)).2).1).2).2).length : Int) > 100))))) none) none) (abacistlaw20_light_1 a1 (IntKind.i64.wrap (a2 + 1)))) none := (top_stage ..).trans (by kernel_rfl)
theorem abacistlaw20_light_3_eq (a1 : List (TA9)) (a2 : Int) (a3 : Int) (a4 : Bool) : abacistlaw20_light_3 a1 a2 a3 a4 = cond a4 (some false) (abacistlaw20_light_2 a1 a2 (IntKind.i64.wrap (a3 + 1))) := (top_stage ..).trans (by kernel_rfl)
theorem abacistref08_Truth_eq (x0 : Bool) : abacistref08_Truth x0 = some (3, (false, [], []), [], x0, 0) := (top_call ..).trans (by kernel_rfl)
theorem flog_Do_eq (x0 : TB9) (x1 : List (TA9)) : flog_Do x0 x1 = (flog_limits x0).bind fun v1 => cond (!v1.2.2) ((value_Fault 4).bind fun v2 => some v2) (cond (decide ((x1.length : Int) < v1.1)) (flog_Do_1 x0 x1 true (0, (false, [], []), [], false, 0)) (cond (decide ((x1.length : Int) > v1.2.1)) (flog_Do_1 x0 x1 true (0, (false, [], []), [], false, 0)) (flog_Do_2 x1 (0, (false, [], []), [], false, 0) x0 x1 false))) := (top_call ..).trans (by kernel_rfl)
theorem flog_Do_1_eq (a1 : TB9) (a2 : List (TA9)) (a3 : Bool) (a4 : TV9) : flog_Do_1 a1 a2 a3 a4 = cond a3 ((value_Fault 2).bind fun v1 => some v1) (flog_Do_3 a1 a2 a2 (a2.length : Int) 0 [] a4) := (top_stage ..).trans (by kernel_rfl)
theorem flog_Do_2_eq (a1 : List (TA9)) (a2 : TV9) (a3 : TB9) (a4 : List (TA9)) (a5 : Bool) : flog_Do_2 a1 a2 a3 a4 a5 = flog_Do_4 a1 a2 a3 a4 a5 := (top_stage ..).trans (by kernel_rfl)
theorem flog_Do_3_eq (a1 : TB9) (a2 : List (TA9)) (a3 : List (TA9)) (a4 : Int) (a5 : Int) (a6 : List (TV9)) (a7 : TV9) : flog_Do_3 a1 a2 a3 a4 a5 a6 a7 = cond (decide (a5 < a4)) (cond (decide (0 ≤ a5) && decide (a5 < (a3.length : Int))) ((flog_single (a3.getD a5.toNat ([], 0, false, 0, 0))).bind fun v1 => cond (Nat.ble ((a6.length + [v1].length) * 80) 140737488355328) (flog_Do_3 a1 a2 a3 a4 (IntKind.i64.wrap (a5 + 1)) (a6 ++ [v1]) a7) none) none) (cond (decide (a1 = ([65, 78, 68] : TB9))) (flog_Do_5 a1 a2 a1 true a6 a7) (cond (decide (a1 = ([79, 82] : TB9))) (flog_Do_5 a1 a2 a1 true a6 a7) (flog_Do_5 a1 a2 a1 (decide (a1 = ([88, 79, 82] : TB9))) a6 a7))) := (top_stage ..).trans (by kernel_rfl)
theorem flog_Do_4_eq (a1 : List (TA9)) (a2 : TV9) (a3 : TB9) (a4 : List (TA9)) (a5 : Bool) : flog_Do_4 a1 a2 a3 a4 a5 = flog_Do_6 a1 (a1.length : Int) 0 a2 a3 a4 a5 := (top_stage ..).trans (by kernel_rfl)
theorem flog_Do_5_eq (a1 : TB9) (a2 : List (TA9)) (a3 : TB9) (a4 : Bool) (a5 : List (TV9)) (a6 : TV9) : flog_Do_5 a1 a2 a3 a4 a5 a6 = cond a4 ((flog_joined a1 a2).bind fun v1 => some v1) (cond (decide (a3 = ([84, 82, 85, 69] : TB9))) (flog_Do_7 a1 a3 true a5 a6) (flog_Do_7 a1 a3 (decide (a3 = ([70, 65, 76, 83, 69] : TB9))) a5 a6)) := (top_stage ..).trans (by kernel_rfl)
theorem flog_Do_6_eq (a1 : List (TA9)) (a2 : Int) (a3 : Int) (a4 : TV9) (a5 : TB9) (a6 : List (TA9)) (a7 : Bool) : flog_Do_6 a1 a2 a3 a4 a5 a6 a7 = cond (decide (a3 < a2)) (cond (decide (0 ≤ a3) && decide (a3 < (a1.length : Int))) ((flog_odd (a1.getD a3.toNat ([], 0, false, 0, 0))).bind fun v1 => cond v1 (cond a7 (flog_Do_1 a5 a6 true a4) (flog_Do_1 a5 a6 (decide (a3 ≥ 0)) a4)) (flog_Do_6 a1 a2 (IntKind.i64.wrap (a3 + 1)) a4 a5 a6 a7)) none) (cond a7 (flog_Do_1 a5 a6 true a4) (flog_Do_1 a5 a6 (decide ((-1) ≥ 0)) a4)) := (top_stage ..).trans (by kernel_rfl)
theorem flog_Do_7_eq (a1 : TB9) (a2 : TB9) (a3 : Bool) (a4 : List (TV9)) (a5 : TV9) : flog_Do_7 a1 a2 a3 a4 a5 = cond a3 ((value_Truth (decide (a1 = ([84, 82, 85, 69] : TB9)))).bind fun v1 => some v1) (cond (decide (a2 = ([78, 65] : TB9))) ((value_Fault 6).bind fun v2 => some v2) (cond (decide (a2 = ([73, 70] : TB9))) ((flog_choice a4).bind fun v3 => some v3) (cond (decide (a2 = ([73, 70, 69, 82, 82, 79, 82] : TB9))) (flog_Do_8 a1 a2 true a4 a5) (flog_Do_8 a1 a2 (decide (a2 = ([73, 70, 78, 65] : TB9))) a4 a5)))) := (top_stage ..).trans (by kernel_rfl)
theorem flog_Do_8_eq (a1 : TB9) (a2 : TB9) (a3 : Bool) (a4 : List (TV9)) (a5 : TV9) : flog_Do_8 a1 a2 a3 a4 a5 = cond a3 (cond (decide (0 ≤ 0) && decide (0 < (a4.length : Int))) ((flog_asked ([73, 83, 78, 65] : TB9) (a4.getD 0 (0, (false, [], []), [], false, 0))).bind fun v1 => cond v1 (flog_Do_9 true a4 a5) (cond (decide (a1 = ([73, 70, 69, 82, 82, 79, 82] : TB9))) (cond (decide (0 ≤ 0) && decide (0 < (a4.length : Int))) (flog_Do_9 (decide (((a4.getD 0 (0, (false, [], []), [], false, 0)).1) = 4)) a4 a5) none) (flog_Do_9 false a4 a5))) none) (cond (decide (a2 = ([67, 72, 79, 79, 83, 69] : TB9))) ((flog_nth a4).bind fun v2 => some v2) (cond (decide (a2 = ([83, 87, 73, 84, 67, 72] : TB9))) (cond (decide (0 ≤ 0) && decide (0 < (a4.length : Int))) (cond (decide (0 ≤ 1) && decide (1 ≤ (a4.length : Int))) ((flog_switched (a4.getD 0 (0, (false, [], []), [], false, 0)) ((a4.drop 1).take (a4.length - 1))).bind fun v3 => some v3) none) none) (cond (decide (0 ≤ 0) && decide (0 < (a4.length : Int))) ((flog_one a1 (a4.getD 0 (0, (false, [], []), [], false, 0))).bind fun v4 => some v4) none))) := (top_stage ..).trans (by kernel_rfl)
theorem flog_Do_9_eq (a1 : Bool) (a2 : List (TV9)) (a3 : TV9) : flog_Do_9 a1 a2 a3 = cond a1 (cond (decide (0 ≤ 1) && decide (1 < (a2.length : Int))) (some (a2.getD 1 (0, (false, [], []), [], false, 0))) none) (cond (decide (0 ≤ 0) && decide (0 < (a2.length : Int))) (some (a2.getD 0 (0, (false, [], []), [], false, 0))) none) := (top_stage ..).trans (by kernel_rfl)
theorem abacistref08_Right_eq (x0 : TV9) : abacistref08_Right x0 = cond (decide (x0.1 = 0)) (some ((decide (x0.1 = 0)) && ((x0.2.1.1 == false) && ((decide (x0.2.1.2.1 = [])) && ((decide (x0.2.1.2.2 = [])) && ((decide (x0.2.2.1 = [])) && ((x0.2.2.2.1 == false) && (decide (x0.2.2.2.2 = 0))))))))) (cond (decide (x0.1 = 1)) ((abacistref05_Right x0.2.1).bind fun v1 => cond v1 (some ((decide (x0.1 = 1)) && ((x0.2.1.1 == x0.2.1.1) && ((decide (x0.2.1.2.1 = x0.2.1.2.1)) && ((decide (x0.2.1.2.2 = x0.2.1.2.2)) && ((decide (x0.2.2.1 = [])) && ((x0.2.2.2.1 == false) && (decide (x0.2.2.2.2 = 0))))))))) (some false)) (cond (decide (x0.1 = 2)) ((abacistref08_Plain x0.2.2.1).bind fun v2 => cond v2 (some ((decide (x0.1 = 2)) && ((x0.2.1.1 == false) && ((decide (x0.2.1.2.1 = [])) && ((decide (x0.2.1.2.2 = [])) && ((decide (x0.2.2.1 = x0.2.2.1)) && ((x0.2.2.2.1 == false) && (decide (x0.2.2.2.2 = 0))))))))) (some false)) (cond (decide (x0.1 = 3)) (some ((decide (x0.1 = 3)) && ((x0.2.1.1 == false) && ((decide (x0.2.1.2.1 = [])) && ((decide (x0.2.1.2.2 = [])) && ((decide (x0.2.2.1 = [])) && ((x0.2.2.2.1 == x0.2.2.2.1) && (decide (x0.2.2.2.2 = 0))))))))) (cond (decide (x0.1 = 4)) (cond (decide (x0.2.2.2.2 ≥ 1)) (cond (decide (x0.2.2.2.2 ≤ 7)) (some ((decide (x0.1 = 4)) && ((x0.2.1.1 == false) && ((decide (x0.2.1.2.1 = [])) && ((decide (x0.2.1.2.2 = [])) && ((decide (x0.2.2.1 = [])) && ((x0.2.2.2.1 == false) && (decide (x0.2.2.2.2 = x0.2.2.2.2))))))))) (some false)) (some false)) (some false))))) := (top_call ..).trans (by kernel_rfl)
theorem abacistref20_Do_eq (x0 : TB9) (x1 : List (TA9)) : abacistref20_Do x0 x1 = (abacistref20_Names).bind fun v1 => (abacistref18_Has v1 x0).bind fun v2 => cond (!v2) ((abacistref08_Fault 4).bind fun v3 => some v3) ((abacistref20_many x0).bind fun v4 => cond (decide ((x1.length : Int) < v4.1)) (abacistref20_Do_1 x0 x1 true (0, (false, [], []), [], false, 0)) (cond (decide ((x1.length : Int) > v4.2)) (abacistref20_Do_1 x0 x1 true (0, (false, [], []), [], false, 0)) ((abacistref19_Mays x1).bind fun v5 => abacistref20_Do_1 x0 x1 (!v5) (0, (false, [], []), [], false, 0)))) := (top_call ..).trans (by kernel_rfl)
theorem abacistref20_Do_1_eq (a1 : TB9) (a2 : List (TA9)) (a3 : Bool) (a4 : TV9) : abacistref20_Do_1 a1 a2 a3 a4 = cond a3 ((abacistref08_Fault 2).bind fun v1 => some v1) (abacistref20_Do_2 a1 a2 0 [] a4) := (top_stage ..).trans (by kernel_rfl)
theorem abacistref20_Do_2_eq (a1 : TB9) (a2 : List (TA9)) (a3 : Int) (a4 : List (TV9)) (a5 : TV9) : abacistref20_Do_2 a1 a2 a3 a4 a5 = cond (decide (a3 < (a2.length : Int))) (cond (decide (0 ≤ a3) && decide (a3 < (a2.length : Int))) ((abacistref19_One (a2.getD a3.toNat ([], 0, false, 0, 0))).bind fun v1 => cond (Nat.ble ((a4.length + [v1].length) * 80) 140737488355328) (abacistref20_Do_2 a1 a2 (IntKind.i64.wrap (a3 + 1)) (a4 ++ [v1]) a5) none) none) (cond (decide (a1 = ([65, 78, 68] : TB9))) (abacistref20_Do_3 a1 a2 a1 true a4 a5) (cond (decide (a1 = ([79, 82] : TB9))) (abacistref20_Do_3 a1 a2 a1 true a4 a5) (abacistref20_Do_3 a1 a2 a1 (decide (a1 = ([88, 79, 82] : TB9))) a4 a5))) := (top_stage ..).trans (by kernel_rfl)
theorem abacistref20_Do_3_eq (a1 : TB9) (a2 : List (TA9)) (a3 : TB9) (a4 : Bool) (a5 : List (TV9)) (a6 : TV9) : abacistref20_Do_3 a1 a2 a3 a4 a5 a6 = cond a4 ((abacistref20_joined a1 a2).bind fun v1 => some v1) (cond (decide (a3 = ([84, 82, 85, 69] : TB9))) (abacistref20_Do_4 a1 a3 true a5 a6) (abacistref20_Do_4 a1 a3 (decide (a3 = ([70, 65, 76, 83, 69] : TB9))) a5 a6)) := (top_stage ..).trans (by kernel_rfl)
theorem abacistref20_Do_4_eq (a1 : TB9) (a2 : TB9) (a3 : Bool) (a4 : List (TV9)) (a5 : TV9) : abacistref20_Do_4 a1 a2 a3 a4 a5 = cond a3 ((abacistref08_Truth (decide (a1 = ([84, 82, 85, 69] : TB9)))).bind fun v1 => some v1) (cond (decide (a2 = ([78, 65] : TB9))) ((abacistref08_Fault 6).bind fun v2 => some v2) (cond (decide (a2 = ([73, 70] : TB9))) ((abacistref20_chosen a4).bind fun v3 => some v3) (cond (decide (a2 = ([73, 70, 69, 82, 82, 79, 82] : TB9))) (cond (decide (0 ≤ 0) && decide (0 < (a4.length : Int))) (cond (decide (((a4.getD 0 (0, (false, [], []), [], false, 0)).1) = 4)) (cond (decide (0 ≤ 1) && decide (1 < (a4.length : Int))) (some (a4.getD 1 (0, (false, [], []), [], false, 0))) none) (cond (decide (0 ≤ 0) && decide (0 < (a4.length : Int))) (some (a4.getD 0 (0, (false, [], []), [], false, 0))) none)) none) (cond (decide (a2 = ([73, 70, 78, 65] : TB9))) (cond (decide (0 ≤ 0) && decide (0 < (a4.length : Int))) (cond (decide (((a4.getD 0 (0, (false, [], []), [], false, 0)).1) = 4)) (cond (decide (0 ≤ 0) && decide (0 < (a4.length : Int))) (abacistref20_Do_5 (decide ((((((a4.getD 0 (0, (false, [], []), [], false, 0)).2).2).2).2) = 6)) a4 a5) none) (abacistref20_Do_5 false a4 a5)) none) (cond (decide (a2 = ([78, 79, 84] : TB9))) (cond (decide (0 ≤ 0) && decide (0 < (a4.length : Int))) ((abacistref09_Truth (a4.getD 0 (0, (false, [], []), [], false, 0))).bind fun v4 => cond (!decide (v4.2 = 0)) ((abacistref08_Fault v4.2).bind fun v5 => some v5) ((abacistref08_Truth (!v4.1)).bind fun v6 => some v6)) none) (cond (decide (a2 = ([78] : TB9))) (abacistref20_Do_6 a1 a2 true a4 a5) (cond (decide (a2 = ([84] : TB9))) (abacistref20_Do_6 a1 a2 true a4 a5) (abacistref20_Do_6 a1 a2 (decide (a2 = ([84, 89, 80, 69] : TB9))) a4 a5)))))))) := (top_stage ..).trans (by kernel_rfl)
theorem abacistref20_Do_5_eq (a1 : Bool) (a2 : List (TV9)) (a3 : TV9) : abacistref20_Do_5 a1 a2 a3 = cond a1 (cond (decide (0 ≤ 1) && decide (1 < (a2.length : Int))) (some (a2.getD 1 (0, (false, [], []), [], false, 0))) none) (cond (decide (0 ≤ 0) && decide (0 < (a2.length : Int))) (some (a2.getD 0 (0, (false, [], []), [], false, 0))) none) := (top_stage ..).trans (by kernel_rfl)
theorem abacistref20_Do_6_eq (a1 : TB9) (a2 : TB9) (a3 : Bool) (a4 : List (TV9)) (a5 : TV9) : abacistref20_Do_6 a1 a2 a3 a4 a5 = cond a3 (cond (decide (0 ≤ 0) && decide (0 < (a4.length : Int))) ((abacistref20_turned a1 (a4.getD 0 (0, (false, [], []), [], false, 0))).bind fun v1 => some v1) none) (cond (decide (a2 = ([67, 72, 79, 79, 83, 69] : TB9))) ((abacistref20_nth a4).bind fun v2 => some v2) (cond (decide (a2 = ([83, 87, 73, 84, 67, 72] : TB9))) ((abacistref20_switched a4).bind fun v3 => some v3) (cond (decide (0 ≤ 0) && decide (0 < (a4.length : Int))) ((abacistref20_asked a1 (a4.getD 0 (0, (false, [], []), [], false, 0))).bind fun v4 => some v4) none))) := (top_stage ..).trans (by kernel_rfl)
theorem abacistref08_Fault_eq (x0 : Int) : abacistref08_Fault x0 = cond (decide (x0 < 1)) (abacistref08_Fault_1 x0 true (0, (false, [], []), [], false, 0)) (abacistref08_Fault_1 x0 (decide (x0 > 7)) (0, (false, [], []), [], false, 0)) := (top_call ..).trans (by kernel_rfl)
theorem abacistref08_Fault_1_eq (a1 : Int) (a2 : Bool) (a3 : TV9) : abacistref08_Fault_1 a1 a2 a3 = cond a2 (abacistref08_Fault_2 2 a3) (abacistref08_Fault_2 a1 a3) := (top_stage ..).trans (by kernel_rfl)
theorem abacistref08_Fault_2_eq (a1 : Int) (a2 : TV9) : abacistref08_Fault_2 a1 a2 = some (4, (false, [], []), [], false, a1) := (top_stage ..).trans (by kernel_rfl)
theorem flog_limits_eq (x0 : TB9) : flog_limits x0 = cond (decide (x0 = ([73, 70] : TB9))) (some (2, 3, true)) (cond (decide (x0 = ([73, 70, 69, 82, 82, 79, 82] : TB9))) (flog_limits_1 x0 x0 true) (flog_limits_1 x0 x0 (decide (x0 = ([73, 70, 78, 65] : TB9))))) := (top_call ..).trans (by kernel_rfl)
theorem flog_limits_1_eq (a1 : TB9) (a2 : TB9) (a3 : Bool) : flog_limits_1 a1 a2 a3 = cond a3 (some (2, 2, true)) (cond (decide (a2 = ([65, 78, 68] : TB9))) (flog_limits_2 a1 a2 true) (cond (decide (a2 = ([79, 82] : TB9))) (flog_limits_2 a1 a2 true) (flog_limits_2 a1 a2 (decide (a2 = ([88, 79, 82] : TB9)))))) := (top_stage ..).trans (by kernel_rfl)
theorem flog_limits_2_eq (a1 : TB9) (a2 : TB9) (a3 : Bool) : flog_limits_2 a1 a2 a3 = cond a3 (some (1, 20, true)) (cond (decide (a2 = ([84, 82, 85, 69] : TB9))) (flog_limits_3 a1 a2 true) (cond (decide (a2 = ([70, 65, 76, 83, 69] : TB9))) (flog_limits_3 a1 a2 true) (flog_limits_3 a1 a2 (decide (a2 = ([78, 65] : TB9)))))) := (top_stage ..).trans (by kernel_rfl)
theorem flog_limits_3_eq (a1 : TB9) (a2 : TB9) (a3 : Bool) : flog_limits_3 a1 a2 a3 = cond a3 (some (0, 0, true)) (cond (decide (a2 = ([67, 72, 79, 79, 83, 69] : TB9))) (some (2, 20, true)) (cond (decide (a2 = ([83, 87, 73, 84, 67, 72] : TB9))) (some (3, 20, true)) ((flog_Names).bind fun v1 => (slices_Contains_string_string v1 a1).bind fun v2 => some (1, 1, v2)))) := (top_stage ..).trans (by kernel_rfl)
theorem value_Fault_eq (x0 : Int) : value_Fault x0 = (value_Name x0).bind fun v1 => cond (decide (v1 = ([] : TB9))) (value_Fault_1 2 (0, (false, [], []), [], false, 0)) (value_Fault_1 x0 (0, (false, [], []), [], false, 0)) := (top_call ..).trans (by kernel_rfl)
theorem value_Fault_1_eq (a1 : Int) (a2 : TV9) : value_Fault_1 a1 a2 = some (4, (false, [], []), [], false, a1) := (top_stage ..).trans (by kernel_rfl)
theorem flog_odd_eq (x0 : TA9) : flog_odd x0 = cond (decide (x0.2.1 < 1)) (flog_odd_1 true x0) (cond (decide ((x0.1.length : Int) < 1)) (flog_odd_1 true x0) (cond (decide ((x0.1.length : Int) > 200)) (flog_odd_1 true x0) (cond (!decide (x0.2.1 = 0)) (cond (!decide (((x0.1.length : Int).tmod x0.2.1) = 0)) (flog_odd_1 true x0) (cond (!x0.2.2.1) (flog_odd_1 (decide ((x0.1.length : Int) > 1)) x0) (flog_odd_1 false x0))) none))) := (top_call ..).trans (by kernel_rfl)
theorem flog_odd_1_eq (a1 : Bool) (a2 : TA9) : flog_odd_1 a1 a2 = cond a1 (some true) (flog_odd_2 a2.1 a2) := (top_stage ..).trans (by kernel_rfl)
theorem flog_odd_2_eq (a1 : List (TV9)) (a2 : TA9) : flog_odd_2 a1 a2 = flog_odd_3 a1 a2 := (top_stage ..).trans (by kernel_rfl)
theorem flog_odd_3_eq (a1 : List (TV9)) (a2 : TA9) : flog_odd_3 a1 a2 = flog_odd_4 a1 (a1.length : Int) 0 := (top_stage ..).trans (by kernel_rfl)
theorem flog_odd_4_eq (a1 : List (TV9)) (a2 : Int) (a3 : Int) : flog_odd_4 a1 a2 a3 = cond (decide (a3 < a2)) (cond (decide (0 ≤ a3) && decide (a3 < (a1.length : Int))) (flog_odd_5 (a1.getD a3.toNat (0, (false, [], []), [], false, 0)) a1 a3 a2 a3) none) (some (decide ((-1) ≥ 0))) := (top_stage ..).trans (by kernel_rfl)
theorem flog_odd_5_eq (a1 : TV9) (a2 : List (TV9)) (a3 : Int) (a4 : Int) (a5 : Int) : flog_odd_5 a1 a2 a3 a4 a5 = (value_Right a1).bind fun v1 => cond (!v1) (some (decide (a3 ≥ 0))) (flog_odd_4 a2 a4 (IntKind.i64.wrap (a5 + 1))) := (top_stage ..).trans (by kernel_rfl)
theorem flog_single_eq (x0 : TA9) : flog_single x0 = cond (decide ((x0.1.length : Int) > 1)) ((value_Fault 2).bind fun v1 => some v1) (cond (decide (0 ≤ 0) && decide (0 < (x0.1.length : Int))) (some (x0.1.getD 0 (0, (false, [], []), [], false, 0))) none) := (top_call ..).trans (by kernel_rfl)
theorem flog_joined_eq (x0 : TB9) (x1 : List (TA9)) : flog_joined x0 x1 = flog_joined_1 x1 (0, (false, [], []), [], false, 0) 0 0 x0 := (top_call ..).trans (by kernel_rfl)
theorem flog_joined_1_eq (a1 : List (TA9)) (a2 : TV9) (a3 : Int) (a4 : Int) (a5 : TB9) : flog_joined_1 a1 a2 a3 a4 a5 = flog_joined_2 a2 a3 a4 a1 a5 := (top_stage ..).trans (by kernel_rfl)
theorem flog_joined_2_eq (a1 : TV9) (a2 : Int) (a3 : Int) (a4 : List (TA9)) (a5 : TB9) : flog_joined_2 a1 a2 a3 a4 a5 = flog_joined_3 a4 (a4.length : Int) 0 a1 a2 a3 a5 := (top_stage ..).trans (by kernel_rfl)
theorem flog_joined_3_eq (a1 : List (TA9)) (a2 : Int) (a3 : Int) (a4 : TV9) (a5 : Int) (a6 : Int) (a7 : TB9) : flog_joined_3 a1 a2 a3 a4 a5 a6 a7 = cond (decide (a3 < a2)) (cond (decide (0 ≤ a3) && decide (a3 < (a1.length : Int))) (flog_joined_4 a1 a2 a3 ((a1.getD a3.toNat ([], 0, false, 0, 0)).1) (((a1.getD a3.toNat ([], 0, false, 0, 0)).1).length : Int) 0 (a1.getD a3.toNat ([], 0, false, 0, 0)) a4 a5 a6 a7) none) (cond (decide (a5 = 0)) ((value_Fault 2).bind fun v1 => some v1) (cond (decide (a7 = ([65, 78, 68] : TB9))) ((value_Truth (decide (a6 = a5))).bind fun v2 => some v2) (cond (decide (a7 = ([79, 82] : TB9))) ((value_Truth (decide (a6 > 0))).bind fun v3 => some v3) ((value_Truth (decide ((bitop .and .i64 a6 1) = 1))).bind fun v4 => some v4)))) := (top_stage ..).trans (by kernel_rfl)
theorem flog_joined_4_eq (a1 : List (TA9)) (a2 : Int) (a3 : Int) (a4 : List (TV9)) (a5 : Int) (a6 : Int) (a7 : TA9) (a8 : TV9) (a9 : Int) (a10 : Int) (a11 : TB9) : flog_joined_4 a1 a2 a3 a4 a5 a6 a7 a8 a9 a10 a11 = cond (decide (a6 < a5)) (cond (decide (0 ≤ a6) && decide (a6 < (a4.length : Int))) (cond a7.2.2.1 (cond (decide (((a4.getD a6.toNat (0, (false, [], []), [], false, 0)).1) = 0)) (flog_joined_5 a1 a2 a3 a4 a5 a6 true a7 (a4.getD a6.toNat (0, (false, [], []), [], false, 0)) a8 a9 a10 a11) (flog_joined_5 a1 a2 a3 a4 a5 a6 (decide (((a4.getD a6.toNat (0, (false, [], []), [], false, 0)).1) = 2)) a7 (a4.getD a6.toNat (0, (false, [], []), [], false, 0)) a8 a9 a10 a11)) (flog_joined_5 a1 a2 a3 a4 a5 a6 false a7 (a4.getD a6.toNat (0, (false, [], []), [], false, 0)) a8 a9 a10 a11)) none) (flog_joined_3 a1 a2 (IntKind.i64.wrap (a3 + 1)) a8 a9 a10 a11) := (top_stage ..).trans (by kernel_rfl)
theorem flog_joined_5_eq (a1 : List (TA9)) (a2 : Int) (a3 : Int) (a4 : List (TV9)) (a5 : Int) (a6 : Int) (a7 : Bool) (a8 : TA9) (a9 : TV9) (a10 : TV9) (a11 : Int) (a12 : Int) (a13 : TB9) : flog_joined_5 a1 a2 a3 a4 a5 a6 a7 a8 a9 a10 a11 a12 a13 = cond a7 (flog_joined_4 a1 a2 a3 a4 a5 (IntKind.i64.wrap (a6 + 1)) a8 a10 a11 a12 a13) ((coerce_Truth a9).bind fun v1 => flog_joined_6 a13 v1.1 v1.2 a8 a9 a10 a11 a12 a1 a2 a3 a4 a5 a6 a13) := (top_stage ..).trans (by kernel_rfl)
theorem flog_joined_6_eq (a1 : TB9) (a2 : Bool) (a3 : Int) (a4 : TA9) (a5 : TV9) (a6 : TV9) (a7 : Int) (a8 : Int) (a9 : List (TA9)) (a10 : Int) (a11 : Int) (a12 : List (TV9)) (a13 : Int) (a14 : Int) (a15 : TB9) : flog_joined_6 a1 a2 a3 a4 a5 a6 a7 a8 a9 a10 a11 a12 a13 a14 a15 = cond (!decide (a3 = 0)) ((value_Fault a3).bind fun v1 => flog_joined_7 a9 a10 a11 a12 a13 a14 a4 v1 a7 a8 a15) (cond a2 (flog_joined_8 a9 a10 a11 a12 a13 a14 false a4 a6 (IntKind.i64.wrap (a7 + 1)) (IntKind.i64.wrap (a8 + 1)) a15) (flog_joined_8 a9 a10 a11 a12 a13 a14 false a4 a6 (IntKind.i64.wrap (a7 + 1)) a8 a15)) := (top_stage ..).trans (by kernel_rfl)
theorem flog_joined_7_eq (a1 : List (TA9)) (a2 : Int) (a3 : Int) (a4 : List (TV9)) (a5 : Int) (a6 : Int) (a7 : TA9) (a8 : TV9) (a9 : Int) (a10 : Int) (a11 : TB9) : flog_joined_7 a1 a2 a3 a4 a5 a6 a7 a8 a9 a10 a11 = some a8 := (top_stage ..).trans (by kernel_rfl)
theorem flog_joined_8_eq (a1 : List (TA9)) (a2 : Int) (a3 : Int) (a4 : List (TV9)) (a5 : Int) (a6 : Int) (a7 : Bool) (a8 : TA9) (a9 : TV9) (a10 : Int) (a11 : Int) (a12 : TB9) : flog_joined_8 a1 a2 a3 a4 a5 a6 a7 a8 a9 a10 a11 a12 = cond a7 (cond (decide (a10 = 0)) ((value_Fault 2).bind fun v1 => some v1) (cond (decide (a12 = ([65, 78, 68] : TB9))) ((value_Truth (decide (a11 = a10))).bind fun v2 => some v2) (cond (decide (a12 = ([79, 82] : TB9))) ((value_Truth (decide (a11 > 0))).bind fun v3 => some v3) ((value_Truth (decide ((bitop .and .i64 a11 1) = 1))).bind fun v4 => some v4)))) (flog_joined_4 a1 a2 a3 a4 a5 (IntKind.i64.wrap (a6 + 1)) a8 a9 a10 a11 a12) := (top_stage ..).trans (by kernel_rfl)
theorem value_Truth_eq (x0 : Bool) : value_Truth x0 = some (3, (false, [], []), [], x0, 0) := (top_call ..).trans (by kernel_rfl)
theorem flog_choice_eq (x0 : List (TV9)) : flog_choice x0 = cond (decide (0 ≤ 0) && decide (0 < (x0.length : Int))) ((coerce_Truth (x0.getD 0 (0, (false, [], []), [], false, 0))).bind fun v1 => cond (!decide (v1.2 = 0)) ((value_Fault v1.2).bind fun v2 => some v2) (cond v1.1 (cond (decide (0 ≤ 1) && decide (1 < (x0.length : Int))) (some (x0.getD 1 (0, (false, [], []), [], false, 0))) none) (cond (decide ((x0.length : Int) < 3)) ((value_Truth false).bind fun v3 => some v3) (cond (decide (0 ≤ 2) && decide (2 < (x0.length : Int))) (some (x0.getD 2 (0, (false, [], []), [], false, 0))) none)))) none := (top_call ..).trans (by kernel_rfl)
theorem flog_asked_eq (x0 : TB9) (x1 : TV9) : flog_asked x0 x1 = cond (decide (x1.1 = 4)) (flog_asked_1 x0 (decide (x1.2.2.2.2 = 6)) x1) (flog_asked_1 x0 false x1) := (top_call ..).trans (by kernel_rfl)
theorem flog_asked_1_eq (a1 : TB9) (a2 : Bool) (a3 : TV9) : flog_asked_1 a1 a2 a3 = cond (decide (a1 = ([73, 83, 66, 76, 65, 78, 75] : TB9))) (some (decide (a3.1 = 0))) (cond (decide (a1 = ([73, 83, 78, 85, 77, 66, 69, 82] : TB9))) (some (decide (a3.1 = 1))) (cond (decide (a1 = ([73, 83, 84, 69, 88, 84] : TB9))) (some (decide (a3.1 = 2))) (cond (decide (a1 = ([73, 83, 76, 79, 71, 73, 67, 65, 76] : TB9))) (some (decide (a3.1 = 3))) (cond (decide (a1 = ([73, 83, 69, 82, 82, 79, 82] : TB9))) (some (decide (a3.1 = 4))) (cond (decide (a1 = ([73, 83, 69, 82, 82] : TB9))) (cond (decide (a3.1 = 4)) (some (!a2)) (some false)) (some a2)))))) := (top_stage ..).trans (by kernel_rfl)
theorem flog_nth_eq (x0 : List (TV9)) : flog_nth x0 = cond (decide (0 ≤ 0) && decide (0 < (x0.length : Int))) ((coerce_Num (x0.getD 0 (0, (false, [], []), [], false, 0))).bind fun v1 => cond (!decide (v1.2 = 0)) ((value_Fault v1.2).bind fun v2 => some v2) ((round_Trunc v1.1).bind fun v3 => (round_Small v3).bind fun v4 => cond (!v4.2) (flog_nth_1 x0 v4.1 true (0, (false, [], []), [], false, 0)) (cond (decide (v4.1 < 1)) (flog_nth_1 x0 v4.1 true (0, (false, [], []), [], false, 0)) (flog_nth_1 x0 v4.1 (decide (v4.1 ≥ (x0.length : Int))) (0, (false, [], []), [], false, 0))))) none := (top_call ..).trans (by kernel_rfl)
theorem flog_nth_1_eq (a1 : List (TV9)) (a2 : Int) (a3 : Bool) (a4 : TV9) : flog_nth_1 a1 a2 a3 a4 = cond a3 ((value_Fault 2).bind fun v1 => some v1) (cond (decide (0 ≤ a2) && decide (a2 < (a1.length : Int))) (some (a1.getD a2.toNat (0, (false, [], []), [], false, 0))) none) := (top_stage ..).trans (by kernel_rfl)
theorem flog_switched_eq (x0 : TV9) (x1 : List (TV9)) : flog_switched x0 x1 = cond (decide (x0.1 = 4)) (some x0) (flog_switched_1 x1 x0 (0, (false, [], []), [], false, 0)) := (top_call ..).trans (by kernel_rfl)
theorem flog_switched_1_eq (a1 : List (TV9)) (a2 : TV9) (a3 : TV9) : flog_switched_1 a1 a2 a3 = cond (decide ((a1.length : Int) > 1)) (cond (decide (0 ≤ 0) && decide (0 < (a1.length : Int))) ((coerce_Cmp a2 (a1.getD 0 (0, (false, [], []), [], false, 0))).bind fun v1 => cond (!decide (v1.2 = 0)) ((value_Fault v1.2).bind fun v2 => some v2) (cond (decide (v1.1 = 0)) (cond (decide (0 ≤ 1) && decide (1 < (a1.length : Int))) (some (a1.getD 1 (0, (false, [], []), [], false, 0))) none) (cond (decide (0 ≤ 2) && decide (2 ≤ (a1.length : Int))) (flog_switched_1 (a1.drop 2) a2 a3) none))) none) (cond (decide ((a1.length : Int) = 1)) (cond (decide (0 ≤ 0) && decide (0 < (a1.length : Int))) (some (a1.getD 0 (0, (false, [], []), [], false, 0))) none) ((value_Fault 6).bind fun v3 => some v3)) := (top_stage ..).trans (by kernel_rfl)
theorem flog_one_eq (x0 : TB9) (x1 : TV9) : flog_one x0 x1 = cond (decide (x0 = ([78, 79, 84] : TB9))) ((coerce_Truth x1).bind fun v1 => cond (!decide (v1.2 = 0)) ((value_Fault v1.2).bind fun v2 => some v2) ((value_Truth (!v1.1)).bind fun v3 => some v3)) (cond (decide (x0 = ([78] : TB9))) ((flog_plain x1).bind fun v4 => some v4) (cond (decide (x0 = ([84] : TB9))) (cond (decide (x1.1 = 2)) (flog_one_1 true x1 (0, (false, [], []), [], false, 0)) (flog_one_1 (decide (x1.1 = 4)) x1 (0, (false, [], []), [], false, 0))) (cond (decide (x0 = ([84, 89, 80, 69] : TB9))) ((flog_kind x1).bind fun v5 => some v5) ((flog_asked x0 x1).bind fun v6 => (value_Truth v6).bind fun v7 => some v7)))) := (top_call ..).trans (by kernel_rfl)
theorem flog_one_1_eq (a1 : Bool) (a2 : TV9) (a3 : TV9) : flog_one_1 a1 a2 a3 = cond a1 (some a2) ((value_Text ([] : TB9)).bind fun v1 => some v1) := (top_stage ..).trans (by kernel_rfl)
theorem abacistref05_Right_eq (x0 : Bool × TB9 × TB9) : abacistref05_Right x0 = cond (decide ((x0.2.1.length : Int) > 32)) (abacistref05_Right_1 true x0) (cond (decide ((x0.2.2.length : Int) > 32)) (abacistref05_Right_1 true x0) (cond (decide (x0.2.2 = ([] : TB9))) (abacistref05_Right_1 true x0) ((abacistref01_Trim x0.2.1).bind fun v1 => cond (!decide (v1 = x0.2.1)) (abacistref05_Right_1 true x0) ((abacistref01_Trim x0.2.2).bind fun v2 => abacistref05_Right_1 (!decide (v2 = x0.2.2)) x0)))) := (top_call ..).trans (by kernel_rfl)
theorem abacistref05_Right_1_eq (a1 : Bool) (a2 : Bool × TB9 × TB9) : abacistref05_Right_1 a1 a2 = cond a1 (some false) (cond (decide (a2.2.1 = ([] : TB9))) (cond (!a2.1) (some (decide (a2.2.2 = ([1] : TB9)))) (some false)) ((abacistref02_Gcd a2.2.1 a2.2.2).bind fun v1 => some (decide (v1 = ([1] : TB9))))) := (top_stage ..).trans (by kernel_rfl)
theorem abacistref08_Plain_eq (x0 : TB9) : abacistref08_Plain x0 = cond (decide ((x0.length : Int) > 200)) (some false) (abacistref08_Plain_1 x0 0) := (top_call ..).trans (by kernel_rfl)
theorem abacistref08_Plain_1_eq (a1 : TB9) (a2 : Int) : abacistref08_Plain_1 a1 a2 = cond (decide (a2 < (a1.length : Int))) (cond (decide (0 ≤ a2) && decide (a2 < (a1.length : Int))) (cond (decide (((a1.getD a2.toNat 0).toNat : Int) < 32)) (abacistref08_Plain_2 a1 a2 true) (cond (decide (0 ≤ a2) && decide (a2 < (a1.length : Int))) (abacistref08_Plain_2 a1 a2 (decide (((a1.getD a2.toNat 0).toNat : Int) > 126))) none)) none) (some true) := (top_stage ..).trans (by kernel_rfl)
theorem abacistref08_Plain_2_eq (a1 : TB9) (a2 : Int) (a3 : Bool) : abacistref08_Plain_2 a1 a2 a3 = cond a3 (some false) (abacistref08_Plain_1 a1 (IntKind.i64.wrap (a2 + 1))) := (top_stage ..).trans (by kernel_rfl)
theorem abacistref18_Has_eq (x0 : List (TB9)) (x1 : TB9) : abacistref18_Has x0 x1 = abacistref18_Has_1 x0 x1 0 := (top_call ..).trans (by kernel_rfl)
theorem abacistref18_Has_1_eq (a1 : List (TB9)) (a2 : TB9) (a3 : Int) : abacistref18_Has_1 a1 a2 a3 = cond (decide (a3 < (a1.length : Int))) (cond (decide (0 ≤ a3) && decide (a3 < (a1.length : Int))) (cond (decide ((a1.getD a3.toNat []) = a2)) (some true) (abacistref18_Has_1 a1 a2 (IntKind.i64.wrap (a3 + 1)))) none) (some false) := (top_stage ..).trans (by kernel_rfl)
theorem abacistref19_Mays_eq (x0 : List (TA9)) : abacistref19_Mays x0 = abacistref19_Mays_1 x0 0 := (top_call ..).trans (by kernel_rfl)
theorem abacistref19_Mays_1_eq (a1 : List (TA9)) (a2 : Int) : abacistref19_Mays_1 a1 a2 = cond (decide (a2 < (a1.length : Int))) (cond (decide (0 ≤ a2) && decide (a2 < (a1.length : Int))) ((abacistref19_May (a1.getD a2.toNat ([], 0, false, 0, 0))).bind fun v1 => cond (!v1) (some false) (abacistref19_Mays_1 a1 (IntKind.i64.wrap (a2 + 1)))) none) (some true) := (top_stage ..).trans (by kernel_rfl)
theorem abacistref19_One_eq (x0 : TA9) : abacistref19_One x0 = cond (!decide ((x0.1.length : Int) = 1)) ((abacistref08_Fault 2).bind fun v1 => some v1) (cond (decide (0 ≤ 0) && decide (0 < (x0.1.length : Int))) (some (x0.1.getD 0 (0, (false, [], []), [], false, 0))) none) := (top_call ..).trans (by kernel_rfl)
theorem abacistref20_joined_eq (x0 : TB9) (x1 : List (TA9)) : abacistref20_joined x0 x1 = (abacistref20_truths x1).bind fun v1 => cond (!decide (v1.2 = 0)) ((abacistref08_Fault v1.2).bind fun v2 => some v2) (cond (decide ((v1.1.length : Int) = 0)) ((abacistref08_Fault 2).bind fun v3 => some v3) (abacistref20_joined_1 x0 v1.1 0 0 (0, (false, [], []), [], false, 0))) := (top_call ..).trans (by kernel_rfl)
theorem abacistref20_joined_1_eq (a1 : TB9) (a2 : List Bool) (a3 : Int) (a4 : Int) (a5 : TV9) : abacistref20_joined_1 a1 a2 a3 a4 a5 = cond (decide (a4 < (a2.length : Int))) (cond (decide (0 ≤ a4) && decide (a4 < (a2.length : Int))) (cond (a2.getD a4.toNat false) (abacistref20_joined_2 a1 a2 (IntKind.i64.wrap (a3 + 1)) a4 a5) (abacistref20_joined_2 a1 a2 a3 a4 a5)) none) (cond (decide (a1 = ([65, 78, 68] : TB9))) ((abacistref08_Truth (decide (a3 = (a2.length : Int)))).bind fun v1 => some v1) (cond (decide (a1 = ([79, 82] : TB9))) ((abacistref08_Truth (decide (a3 > 0))).bind fun v2 => some v2) (cond (!decide (2 = 0)) ((abacistref08_Truth (decide ((a3.tmod 2) = 1))).bind fun v3 => some v3) none))) := (top_stage ..).trans (by kernel_rfl)
theorem abacistref20_joined_2_eq (a1 : TB9) (a2 : List Bool) (a3 : Int) (a4 : Int) (a5 : TV9) : abacistref20_joined_2 a1 a2 a3 a4 a5 = abacistref20_joined_1 a1 a2 a3 (IntKind.i64.wrap (a4 + 1)) a5 := (top_stage ..).trans (by kernel_rfl)
theorem abacistref20_chosen_eq (x0 : List (TV9)) : abacistref20_chosen x0 = cond (decide (0 ≤ 0) && decide (0 < (x0.length : Int))) ((abacistref09_Truth (x0.getD 0 (0, (false, [], []), [], false, 0))).bind fun v1 => cond (!decide (v1.2 = 0)) ((abacistref08_Fault v1.2).bind fun v2 => some v2) (cond v1.1 (cond (decide (0 ≤ 1) && decide (1 < (x0.length : Int))) (some (x0.getD 1 (0, (false, [], []), [], false, 0))) none) (cond (decide ((x0.length : Int) = 3)) (cond (decide (0 ≤ 2) && decide (2 < (x0.length : Int))) (some (x0.getD 2 (0, (false, [], []), [], false, 0))) none) ((abacistref08_Truth false).bind fun v3 => some v3)))) none := (top_call ..).trans (by kernel_rfl)
theorem abacistref09_Truth_eq (x0 : TV9) : abacistref09_Truth x0 = (abacistref09_fault x0).bind fun v1 => cond (!decide (v1 = 0)) ((abacistref09_fault x0).bind fun v2 => some (false, v2)) (cond (decide (x0.1 = 1)) ((abacistref05_Sign x0.2.1).bind fun v3 => some (!decide (v3 = 0), 0)) (cond (decide (x0.1 = 2)) (cond (!decide (x0.2.2.1 = ([84, 82, 85, 69] : TB9))) (abacistref09_Truth_1 (!decide (x0.2.2.1 = ([70, 65, 76, 83, 69] : TB9))) x0) (abacistref09_Truth_1 false x0)) (some (x0.2.2.2.1, 0)))) := (top_call ..).trans (by kernel_rfl)
theorem abacistref09_Truth_1_eq (a1 : Bool) (a2 : TV9) : abacistref09_Truth_1 a1 a2 = cond a1 (some (false, 2)) (some (decide (a2.2.2.1 = ([84, 82, 85, 69] : TB9)), 0)) := (top_stage ..).trans (by kernel_rfl)
theorem abacistref20_turned_eq (x0 : TB9) (x1 : TV9) : abacistref20_turned x0 x1 = cond (decide (x0 = ([78] : TB9))) (cond (decide (x1.1 = 4)) (abacistref20_turned_1 true x1 (0, (false, [], []), [], false, 0)) (abacistref20_turned_1 (decide (x1.1 = 1)) x1 (0, (false, [], []), [], false, 0))) (cond (decide (x0 = ([84] : TB9))) (cond (decide (x1.1 = 2)) (abacistref20_turned_2 true x1 (0, (false, [], []), [], false, 0)) (abacistref20_turned_2 (decide (x1.1 = 4)) x1 (0, (false, [], []), [], false, 0))) (cond (decide (0 ≤ x1.1) && decide (x1.1 < ([1, 1, 2, 4, 16].length : Int))) ((abacistref05_Of ([1, 1, 2, 4, 16].getD x1.1.toNat 0)).bind fun v1 => (abacistref08_Num v1).bind fun v2 => some v2) none)) := (top_call ..).trans (by kernel_rfl)
theorem abacistref20_turned_1_eq (a1 : Bool) (a2 : TV9) (a3 : TV9) : abacistref20_turned_1 a1 a2 a3 = cond a1 (some a2) (cond (decide (a2.1 = 3)) (abacistref20_turned_3 a2.2.2.2.1 a3) (abacistref20_turned_3 false a3)) := (top_stage ..).trans (by kernel_rfl)
theorem abacistref20_turned_2_eq (a1 : Bool) (a2 : TV9) (a3 : TV9) : abacistref20_turned_2 a1 a2 a3 = cond a1 (some a2) ((abacistref08_Text ([] : TB9)).bind fun v1 => some v1) := (top_stage ..).trans (by kernel_rfl)
theorem abacistref20_turned_3_eq (a1 : Bool) (a2 : TV9) : abacistref20_turned_3 a1 a2 = cond a1 ((abacistref05_Of 1).bind fun v1 => (abacistref08_Num v1).bind fun v2 => some v2) ((abacistref05_Of 0).bind fun v3 => (abacistref08_Num v3).bind fun v4 => some v4) := (top_stage ..).trans (by kernel_rfl)
theorem abacistref20_nth_eq (x0 : List (TV9)) : abacistref20_nth x0 = cond (decide (0 ≤ 0) && decide (0 < (x0.length : Int))) ((abacistref09_Num (x0.getD 0 (0, (false, [], []), [], false, 0))).bind fun v1 => cond (!decide (v1.2 = 0)) ((abacistref08_Fault v1.2).bind fun v2 => some v2) ((abacistref06_Trunc v1.1).bind fun v3 => (abacistref06_Small v3).bind fun v4 => cond (!v4.2) (abacistref20_nth_1 x0 v4.1 true (0, (false, [], []), [], false, 0)) (cond (decide (v4.1 < 1)) (abacistref20_nth_1 x0 v4.1 true (0, (false, [], []), [], false, 0)) (abacistref20_nth_1 x0 v4.1 (decide (v4.1 > (IntKind.i64.wrap ((x0.length : Int) - 1)))) (0, (false, [], []), [], false, 0))))) none := (top_call ..).trans (by kernel_rfl)
theorem abacistref20_nth_1_eq (a1 : List (TV9)) (a2 : Int) (a3 : Bool) (a4 : TV9) : abacistref20_nth_1 a1 a2 a3 a4 = cond a3 ((abacistref08_Fault 2).bind fun v1 => some v1) (cond (decide (0 ≤ a2) && decide (a2 < (a1.length : Int))) (some (a1.getD a2.toNat (0, (false, [], []), [], false, 0))) none) := (top_stage ..).trans (by kernel_rfl)
theorem abacistref20_switched_eq (x0 : List (TV9)) : abacistref20_switched x0 = cond (decide (0 ≤ 0) && decide (0 < (x0.length : Int))) (cond (decide (((x0.getD 0 (0, (false, [], []), [], false, 0)).1) = 4)) (cond (decide (0 ≤ 0) && decide (0 < (x0.length : Int))) (some (x0.getD 0 (0, (false, [], []), [], false, 0))) none) (abacistref20_switched_1 x0 1 (0, (false, [], []), [], false, 0))) none := (top_call ..).trans (by kernel_rfl)
theorem abacistref20_switched_1_eq (a1 : List (TV9)) (a2 : Int) (a3 : TV9) : abacistref20_switched_1 a1 a2 a3 = cond (decide ((IntKind.i64.wrap (a2 + 1)) < (a1.length : Int))) (cond (decide (0 ≤ a2) && decide (a2 < (a1.length : Int))) (cond (decide (((a1.getD a2.toNat (0, (false, [], []), [], false, 0)).1) = 4)) (cond (decide (0 ≤ a2) && decide (a2 < (a1.length : Int))) (some (a1.getD a2.toNat (0, (false, [], []), [], false, 0))) none) (cond (decide (0 ≤ 0) && decide (0 < (a1.length : Int))) (cond (decide (0 ≤ a2) && decide (a2 < (a1.length : Int))) ((abacistref09_Cmp (a1.getD 0 (0, (false, [], []), [], false, 0)) (a1.getD a2.toNat (0, (false, [], []), [], false, 0))).bind fun v1 => cond (decide (v1.1 = 0)) (cond (decide (0 ≤ (IntKind.i64.wrap (a2 + 1))) && decide ((IntKind.i64.wrap (a2 + 1)) < (a1.length : Int))) (some (a1.getD ((IntKind.i64.wrap (a2 + 1)).toNat) (0, (false, [], []), [], false, 0))) none) (abacistref20_switched_1 a1 (IntKind.i64.wrap (a2 + 2)) a3)) none) none)) none) (cond (!decide (2 = 0)) (cond (decide (((a1.length : Int).tmod 2) = 0)) (cond (decide (0 ≤ (IntKind.i64.wrap ((a1.length : Int) - 1))) && decide ((IntKind.i64.wrap ((a1.length : Int) - 1)) < (a1.length : Int))) (some (a1.getD ((IntKind.i64.wrap ((a1.length : Int) - 1)).toNat) (0, (false, [], []), [], false, 0))) none) ((abacistref08_Fault 6).bind fun v2 => some v2)) none) := (top_stage ..).trans (by kernel_rfl)
theorem abacistref20_asked_eq (x0 : TB9) (x1 : TV9) : abacistref20_asked x0 x1 = cond (decide (x0 = ([73, 83, 66, 76, 65, 78, 75] : TB9))) ((abacistref08_Truth (decide (x1.1 = 0))).bind fun v1 => some v1) (cond (decide (x0 = ([73, 83, 78, 85, 77, 66, 69, 82] : TB9))) ((abacistref08_Truth (decide (x1.1 = 1))).bind fun v2 => some v2) (cond (decide (x0 = ([73, 83, 84, 69, 88, 84] : TB9))) ((abacistref08_Truth (decide (x1.1 = 2))).bind fun v3 => some v3) (cond (decide (x0 = ([73, 83, 76, 79, 71, 73, 67, 65, 76] : TB9))) ((abacistref08_Truth (decide (x1.1 = 3))).bind fun v4 => some v4) (cond (decide (x0 = ([73, 83, 69, 82, 82, 79, 82] : TB9))) ((abacistref08_Truth (decide (x1.1 = 4))).bind fun v5 => some v5) (cond (decide (x0 = ([73, 83, 69, 82, 82] : TB9))) (cond (decide (x1.1 = 4)) ((abacistref08_Truth (!decide (x1.2.2.2.2 = 6))).bind fun v6 => some v6) ((abacistref08_Truth false).bind fun v7 => some v7)) (cond (decide (x1.1 = 4)) ((abacistref08_Truth (decide (x1.2.2.2.2 = 6))).bind fun v8 => some v8) ((abacistref08_Truth false).bind fun v9 => some v9))))))) := (top_call ..).trans (by kernel_rfl)
theorem abacistref05_Of_eq (x0 : Int) : abacistref05_Of x0 = (abacistref04_Of x0).bind fun v1 => (abacistref04_Of 1).bind fun v2 => (abacistref05_Make v1 v2).bind fun v3 => some v3.1 := (top_call ..).trans (by kernel_rfl)
theorem abacistref08_Num_eq (x0 : Bool × TB9 × TB9) : abacistref08_Num x0 = (abacistref05_Well x0).bind fun v1 => some (1, v1, [], false, 0) := (top_call ..).trans (by kernel_rfl)
theorem slices_Contains_string_string_eq (x0 : List (TB9)) (x1 : TB9) : slices_Contains_string_string x0 x1 = (slices_Index_string_string x0 x1).bind fun v1 => some (decide (v1 ≥ 0)) := (top_call ..).trans (by kernel_rfl)
theorem value_Name_eq (x0 : Int) : value_Name x0 = value_Name_1 x0 := (top_call ..).trans (by kernel_rfl)
theorem value_Name_1_eq (a1 : Int) : value_Name_1 a1 = cond (decide (a1 < 0)) (value_Name_2 a1 true ([] : TB9) ([35, 68, 73, 86, 47, 48, 33] : TB9) ([35, 86, 65, 76, 85, 69, 33] : TB9) ([35, 82, 69, 70, 33] : TB9) ([35, 78, 65, 77, 69, 63] : TB9) ([35, 78, 85, 77, 33] : TB9) ([35, 78, 47, 65] : TB9) ([35, 67, 73, 82, 67, 33] : TB9)) (value_Name_2 a1 (decide (a1 ≥ 8)) ([] : TB9) ([35, 68, 73, 86, 47, 48, 33] : TB9) ([35, 86, 65, 76, 85, 69, 33] : TB9) ([35, 82, 69, 70, 33] : TB9) ([35, 78, 65, 77, 69, 63] : TB9) ([35, 78, 85, 77, 33] : TB9) ([35, 78, 47, 65] : TB9) ([35, 67, 73, 82, 67, 33] : TB9)) := (top_stage ..).trans (by kernel_rfl)
theorem value_Name_2_eq (a1 : Int) (a2 : Bool) (a3 : TB9) (a4 : TB9) (a5 : TB9) (a6 : TB9) (a7 : TB9) (a8 : TB9) (a9 : TB9) (a10 : TB9) : value_Name_2 a1 a2 a3 a4 a5 a6 a7 a8 a9 a10 = cond a2 (some ([] : TB9)) (cond (decide (0 ≤ a1) && decide (a1 < (8 : Int))) (some (([a3, a4, a5, a6, a7, a8, a9, a10] : List (TB9)).getD a1.toNat [])) none) := (top_stage ..).trans (by kernel_rfl)
theorem coerce_Truth_eq (x0 : TV9) : coerce_Truth x0 = (coerce_cell_fault x0).bind fun v1 => cond (!decide (v1 = 0)) (some (false, v1)) (cond (decide (x0.1 = 1)) ((rat_Sign x0.2.1).bind fun v2 => some (!decide (v2 = 0), 0)) (cond (decide (x0.1 = 2)) ((value_Literal x0.2.2.1).bind fun v3 => cond (!decide (v3.2 = 0)) (coerce_Truth_1 true x0) (coerce_Truth_1 (!decide (v3.1.1 = 3)) x0)) (some (x0.2.2.2.1, 0)))) := (top_call ..).trans (by kernel_rfl)
theorem coerce_Truth_1_eq (a1 : Bool) (a2 : TV9) : coerce_Truth_1 a1 a2 = cond a1 (some (false, 2)) (some (decide (a2.2.2.1 = ([84, 82, 85, 69] : TB9)), 0)) := (top_stage ..).trans (by kernel_rfl)
theorem coerce_Num_eq (x0 : TV9) : coerce_Num x0 = (coerce_cell_fault x0).bind fun v1 => cond (!decide (v1 = 0)) (some ((false, [], []), v1)) (cond (decide (x0.1 = 1)) (some (x0.2.1, 0)) (cond (decide (x0.1 = 2)) ((numtext_Parse x0.2.2.1).bind fun v2 => cond (!decide (v2.2 = 0)) (some ((false, [], []), 2)) (some (v2.1, 0))) ((coerce_bit x0.2.2.2.1).bind fun v3 => (rat_Of v3).bind fun v4 => some (v4, 0)))) := (top_call ..).trans (by kernel_rfl)
theorem round_Trunc_eq (x0 : Bool × TB9 × TB9) : round_Trunc x0 = (round_well x0).bind fun v1 => (divide_DivMod v1.2.1 v1.2.2).bind fun v2 => cond (!decide (v2.2.2 = 0)) ((rat_Of 0).bind fun v3 => some v3) ((whole_Make v1.1 v2.1).bind fun v4 => (round_made v4).bind fun v5 => some v5.1) := (top_call ..).trans (by kernel_rfl)
theorem round_Small_eq (x0 : Bool × TB9 × TB9) : round_Small x0 = (round_Whole x0).bind fun v1 => cond (!v1) (some (0, false)) ((round_well x0).bind fun v2 => (round_top v2).bind fun v3 => (whole_Small v3).bind fun v4 => some v4) := (top_call ..).trans (by kernel_rfl)
theorem coerce_Cmp_eq (x0 : TV9) (x1 : TV9) : coerce_Cmp x0 x1 = coerce_Cmp_1 x0.1 x0.2.1.1 x0.2.1.2.1 x0.2.1.2.2 x0.2.2.1 x0.2.2.2.1 x0.2.2.2.2 x1.1 x1.2.1.1 x1.2.1.2.1 x1.2.1.2.2 x1.2.2.1 x1.2.2.2.1 x1.2.2.2.2 x0 x1 := (top_call ..).trans (by kernel_rfl)
theorem coerce_Cmp_1_eq (a1 : Int) (a2 : Bool) (a3 : TB9) (a4 : TB9) (a5 : TB9) (a6 : Bool) (a7 : Int) (a8 : Int) (a9 : Bool) (a10 : TB9) (a11 : TB9) (a12 : TB9) (a13 : Bool) (a14 : Int) (a15 : TV9) (a16 : TV9) : coerce_Cmp_1 a1 a2 a3 a4 a5 a6 a7 a8 a9 a10 a11 a12 a13 a14 a15 a16 = (coerce_cell_fault (a1, (a2, a3, a4), a5, a6, a7)).bind fun v1 => cond (!decide (v1 = 0)) (coerce_Cmp_2 v1 a15 a16) ((coerce_cell_fault (a8, (a9, a10, a11), a12, a13, a14)).bind fun v2 => coerce_Cmp_2 v2 a15 a16) := (top_stage ..).trans (by kernel_rfl)
theorem coerce_Cmp_2_eq (a1 : Int) (a2 : TV9) (a3 : TV9) : coerce_Cmp_2 a1 a2 a3 = cond (!decide (a1 = 0)) (some (0, a1)) ((coerce_like a2 a3.1).bind fun v1 => (coerce_like a3 a2.1).bind fun v2 => cond (!decide (v1.1 = v2.1)) ((cmp_Compare_int v1.1 v2.1).bind fun v3 => some (v3, 0)) (cond (decide (v1.1 = 1)) ((rat_Cmp v1.2.1 v2.2.1).bind fun v4 => some (v4, 0)) ((cmp_Compare_string v1.2.2.1 v2.2.2.1).bind fun v5 => (coerce_bit v1.2.2.2.1).bind fun v6 => (coerce_bit v2.2.2.2.1).bind fun v7 => (cmp_Compare_int64 v6 v7).bind fun v8 => (cmp_Or_int [v5, v8]).bind fun v9 => some (v9, 0)))) := (top_stage ..).trans (by kernel_rfl)
theorem flog_plain_eq (x0 : TV9) : flog_plain x0 = cond (decide (x0.1 = 1)) (flog_plain_1 true x0 (0, (false, [], []), [], false, 0)) (flog_plain_1 (decide (x0.1 = 4)) x0 (0, (false, [], []), [], false, 0)) := (top_call ..).trans (by kernel_rfl)
theorem flog_plain_1_eq (a1 : Bool) (a2 : TV9) (a3 : TV9) : flog_plain_1 a1 a2 a3 = cond a1 (some a2) (cond a2.2.2.2.1 ((rat_Of 1).bind fun v1 => (value_Num v1).bind fun v2 => some v2) ((rat_Of 0).bind fun v3 => (value_Num v3).bind fun v4 => some v4)) := (top_stage ..).trans (by kernel_rfl)
theorem value_Text_eq (x0 : TB9) : value_Text x0 = (value_plain x0).bind fun v1 => cond (!v1) ((value_Fault 2).bind fun v2 => some v2) (some (2, (false, [], []), x0, false, 0)) := (top_call ..).trans (by kernel_rfl)
theorem flog_kind_eq (x0 : TV9) : flog_kind x0 = cond (decide (x0.1 = 2)) (flog_kind_1 2 (0, (false, [], []), [], false, 0)) (cond (decide (x0.1 = 3)) (flog_kind_1 4 (0, (false, [], []), [], false, 0)) (cond (decide (x0.1 = 4)) (flog_kind_1 16 (0, (false, [], []), [], false, 0)) (flog_kind_1 1 (0, (false, [], []), [], false, 0)))) := (top_call ..).trans (by kernel_rfl)
theorem flog_kind_1_eq (a1 : Int) (a2 : TV9) : flog_kind_1 a1 a2 = (rat_Of a1).bind fun v1 => (value_Num v1).bind fun v2 => some v2 := (top_stage ..).trans (by kernel_rfl)
theorem abacistref19_May_eq (x0 : TA9) : abacistref19_May x0 = cond (decide (x0.2.1 < 1)) (abacistref19_May_1 (x0.1.length : Int) true x0) (cond (decide (x0.2.1 > 200)) (abacistref19_May_1 (x0.1.length : Int) true x0) (cond (decide ((x0.1.length : Int) < 1)) (abacistref19_May_1 (x0.1.length : Int) true x0) (cond (decide ((x0.1.length : Int) > 200)) (abacistref19_May_1 (x0.1.length : Int) true x0) (cond (!decide (x0.2.1 = 0)) (cond (!decide (((x0.1.length : Int).tmod x0.2.1) = 0)) (abacistref19_May_1 (x0.1.length : Int) true x0) (cond (!x0.2.2.1) (abacistref19_May_1 (x0.1.length : Int) (!decide ((x0.1.length : Int) = 1)) x0) (abacistref19_May_1 (x0.1.length : Int) false x0))) none)))) := (top_call ..).trans (by kernel_rfl)
theorem abacistref19_May_1_eq (a1 : Int) (a2 : Bool) (a3 : TA9) : abacistref19_May_1 a1 a2 a3 = cond a2 (some false) (abacistref19_May_2 a1 0 a3) := (top_stage ..).trans (by kernel_rfl)
theorem abacistref19_May_2_eq (a1 : Int) (a2 : Int) (a3 : TA9) : abacistref19_May_2 a1 a2 a3 = cond (decide (a2 < a1)) (cond (decide (0 ≤ a2) && decide (a2 < (a3.1.length : Int))) ((abacistref08_Right (a3.1.getD a2.toNat (0, (false, [], []), [], false, 0))).bind fun v1 => cond (!v1) (some false) (abacistref19_May_2 a1 (IntKind.i64.wrap (a2 + 1)) a3)) none) (some true) := (top_stage ..).trans (by kernel_rfl)
theorem abacistref20_truths_eq (x0 : List (TA9)) : abacistref20_truths x0 = abacistref20_truths_1 x0 0 [] := (top_call ..).trans (by kernel_rfl)
theorem abacistref20_truths_1_eq (a1 : List (TA9)) (a2 : Int) (a3 : List Bool) : abacistref20_truths_1 a1 a2 a3 = cond (decide (a2 < (a1.length : Int))) (cond (decide (0 ≤ a2) && decide (a2 < (a1.length : Int))) (cond (!((((a1.getD a2.toNat ([], 0, false, 0, 0)).2).2).1)) (cond (decide (0 ≤ a2) && decide (a2 < (a1.length : Int))) (cond (decide (0 ≤ 0) && decide (0 < (((a1.getD a2.toNat ([], 0, false, 0, 0)).1).length : Int))) ((abacistref09_Truth (((a1.getD a2.toNat ([], 0, false, 0, 0)).1).getD 0 (0, (false, [], []), [], false, 0))).bind fun v1 => cond (!decide (v1.2 = 0)) (some ([], v1.2)) (cond (Nat.ble ((a3.length + [v1.1].length) * 1) 140737488355328) (abacistref20_truths_1 a1 (IntKind.i64.wrap (a2 + 1)) (a3 ++ [v1.1])) none)) none) none) (abacistref20_truths_2 a1 a2 0 a3)) none) (some (a3, 0)) := (top_stage ..).trans (by kernel_rfl)
theorem abacistref20_truths_2_eq (a1 : List (TA9)) (a2 : Int) (a3 : Int) (a4 : List Bool) : abacistref20_truths_2 a1 a2 a3 a4 = cond (decide (0 ≤ a2) && decide (a2 < (a1.length : Int))) (cond (decide (a3 < (((a1.getD a2.toNat ([], 0, false, 0, 0)).1).length : Int))) (cond (decide (0 ≤ a2) && decide (a2 < (a1.length : Int))) (cond (decide (0 ≤ a3) && decide (a3 < (((a1.getD a2.toNat ([], 0, false, 0, 0)).1).length : Int))) (cond (decide (((((a1.getD a2.toNat ([], 0, false, 0, 0)).1).getD a3.toNat (0, (false, [], []), [], false, 0)).1) = 4)) (some ([], ((((((a1.getD a2.toNat ([], 0, false, 0, 0)).1).getD a3.toNat (0, (false, [], []), [], false, 0)).2).2).2).2)) (cond (decide (((((a1.getD a2.toNat ([], 0, false, 0, 0)).1).getD a3.toNat (0, (false, [], []), [], false, 0)).1) = 3)) (abacistref20_truths_3 a1 a2 a3 true a4 (((a1.getD a2.toNat ([], 0, false, 0, 0)).1).getD a3.toNat (0, (false, [], []), [], false, 0))) (abacistref20_truths_3 a1 a2 a3 (decide (((((a1.getD a2.toNat ([], 0, false, 0, 0)).1).getD a3.toNat (0, (false, [], []), [], false, 0)).1) = 1)) a4 (((a1.getD a2.toNat ([], 0, false, 0, 0)).1).getD a3.toNat (0, (false, [], []), [], false, 0))))) none) none) (abacistref20_truths_1 a1 (IntKind.i64.wrap (a2 + 1)) a4)) none := (top_stage ..).trans (by kernel_rfl)
theorem abacistref20_truths_3_eq (a1 : List (TA9)) (a2 : Int) (a3 : Int) (a4 : Bool) (a5 : List Bool) (a6 : TV9) : abacistref20_truths_3 a1 a2 a3 a4 a5 a6 = cond a4 ((abacistref09_Truth a6).bind fun v1 => cond (Nat.ble ((a5.length + [v1.1].length) * 1) 140737488355328) (abacistref20_truths_4 a1 a2 a3 (a5 ++ [v1.1])) none) (abacistref20_truths_4 a1 a2 a3 a5) := (top_stage ..).trans (by kernel_rfl)
theorem abacistref20_truths_4_eq (a1 : List (TA9)) (a2 : Int) (a3 : Int) (a4 : List Bool) : abacistref20_truths_4 a1 a2 a3 a4 = abacistref20_truths_2 a1 a2 (IntKind.i64.wrap (a3 + 1)) a4 := (top_stage ..).trans (by kernel_rfl)
theorem abacistref09_fault_eq (x0 : TV9) : abacistref09_fault x0 = (abacistref08_Right x0).bind fun v1 => cond (!v1) (some 2) (some x0.2.2.2.2) := (top_call ..).trans (by kernel_rfl)
theorem abacistref05_Sign_eq (x0 : Bool × TB9 × TB9) : abacistref05_Sign x0 = (abacistref05_Top x0).bind fun v1 => (abacistref04_Cmp v1 (false, [])).bind fun v2 => some v2 := (top_call ..).trans (by kernel_rfl)
theorem abacistref08_Text_eq (x0 : TB9) : abacistref08_Text x0 = (abacistref08_Plain x0).bind fun v1 => cond (!v1) ((abacistref08_Fault 2).bind fun v2 => some v2) (some (2, (false, [], []), x0, false, 0)) := (top_call ..).trans (by kernel_rfl)
theorem abacistref09_Num_eq (x0 : TV9) : abacistref09_Num x0 = (abacistref09_fault x0).bind fun v1 => cond (!decide (v1 = 0)) ((abacistref09_fault x0).bind fun v2 => some ((false, [], []), v2)) (cond (decide (x0.1 = 1)) (some (x0.2.1, 0)) (cond (decide (x0.1 = 2)) ((abacistref07_Parse x0.2.2.1).bind fun v3 => cond (!decide (v3.2 = 0)) (some ((false, [], []), 2)) (some (v3.1, 0))) (cond (decide (x0.1 = 3)) (cond x0.2.2.2.1 ((abacistref05_Of 1).bind fun v4 => some (v4, 0)) ((abacistref05_Of 0).bind fun v5 => some (v5, 0))) ((abacistref05_Of 0).bind fun v6 => some (v6, 0))))) := (top_call ..).trans (by kernel_rfl)
theorem abacistref06_Trunc_eq (x0 : Bool × TB9 × TB9) : abacistref06_Trunc x0 = (abacistref06_Floor x0).bind fun v1 => (abacistref05_Sign x0).bind fun v2 => cond (decide (v2 < 0)) ((abacistref06_Ceil x0).bind fun v3 => abacistref06_Trunc_1 (false, [], []) v3.1) (abacistref06_Trunc_1 (false, [], []) v1.1) := (top_call ..).trans (by kernel_rfl)
theorem abacistref06_Trunc_1_eq (a1 : Bool × TB9 × TB9) (a2 : Bool × TB9 × TB9) : abacistref06_Trunc_1 a1 a2 = some a2 := (top_stage ..).trans (by kernel_rfl)
theorem abacistref06_Small_eq (x0 : Bool × TB9 × TB9) : abacistref06_Small x0 = (abacistref06_Whole x0).bind fun v1 => cond (!v1) (some (0, false)) ((abacistref05_Top x0).bind fun v2 => (abacistref04_Small v2).bind fun v3 => some v3) := (top_call ..).trans (by kernel_rfl)
theorem abacistref09_Cmp_eq (x0 : TV9) (x1 : TV9) : abacistref09_Cmp x0 x1 = (abacistref09_fault x0).bind fun v1 => cond (!decide (v1 = 0)) ((abacistref09_fault x0).bind fun v2 => some (0, v2)) ((abacistref09_fault x1).bind fun v3 => cond (!decide (v3 = 0)) ((abacistref09_fault x1).bind fun v4 => some (0, v4)) ((abacistref09_like x0 x1).bind fun v5 => (abacistref09_like x1 x0).bind fun v6 => cond (!decide (v5.1 = v6.1)) ((abacistref09_order v5.1 v6.1).bind fun v7 => some (v7, 0)) (cond (decide (v5.1 = 1)) ((abacistref05_Cmp v5.2.1 v6.2.1).bind fun v8 => some (v8, 0)) (cond (decide (v5.1 = 2)) ((abacistref09_bytes v5.2.2.1 v6.2.2.1).bind fun v9 => some (v9, 0)) ((abacistref09_bit v5.2.2.2.1).bind fun v10 => (abacistref09_bit v6.2.2.2.1).bind fun v11 => (abacistref09_order v10 v11).bind fun v12 => some (v12, 0)))))) := (top_call ..).trans (by kernel_rfl)
theorem abacistref04_Of_eq (x0 : Int) : abacistref04_Of x0 = cond (decide (x0 < 0)) ((abacistref01_Of (IntKind.u64.wrap (0 - (IntKind.u64.wrap x0)))).bind fun v1 => (abacistref04_Make true v1).bind fun v2 => some v2) ((abacistref01_Of (IntKind.u64.wrap x0)).bind fun v3 => (abacistref04_Make false v3).bind fun v4 => some v4) := (top_call ..).trans (by kernel_rfl)
theorem abacistref05_Make_eq (x0 : Bool × TB9) (x1 : Bool × TB9) : abacistref05_Make x0 x1 = (abacistref04_Make x0.1 x0.2).bind fun v1 => (abacistref04_Make x1.1 x1.2).bind fun v2 => cond (decide (v2.2 = ([] : TB9))) (some ((false, [], []), 5)) ((abacistref02_Gcd v1.2 v2.2).bind fun v3 => (abacistref02_Div v1.2 v3).bind fun v4 => (abacistref02_Div v2.2 v3).bind fun v5 => (abacistref01_Bits v4).bind fun v6 => cond (decide (v6 > 256)) (abacistref05_Make_1 v4 v5 true (false, [], []) v1 v2) ((abacistref01_Bits v5).bind fun v7 => abacistref05_Make_1 v4 v5 (decide (v7 > 256)) (false, [], []) v1 v2)) := (top_call ..).trans (by kernel_rfl)
theorem abacistref05_Make_1_eq (a1 : TB9) (a2 : TB9) (a3 : Bool) (a4 : Bool × TB9 × TB9) (a5 : Bool × TB9) (a6 : Bool × TB9) : abacistref05_Make_1 a1 a2 a3 a4 a5 a6 = cond a3 (some ((false, [], []), 4)) (cond (!decide (a1 = ([] : TB9))) (some ((!(a5.1 == a6.1), a1, a2), 0)) (some ((false, a1, a2), 0))) := (top_stage ..).trans (by kernel_rfl)
theorem abacistref05_Well_eq (x0 : Bool × TB9 × TB9) : abacistref05_Well x0 = (abacistref05_Right x0).bind fun v1 => cond (!v1) ((abacistref05_Zero).bind fun v2 => some v2) (some x0) := (top_call ..).trans (by kernel_rfl)
theorem slices_Index_string_string_eq (x0 : List (TB9)) (x1 : TB9) : slices_Index_string_string x0 x1 = slices_Index_string_string_1 x0 x1 (x0.length : Int) 0 := (top_call ..).trans (by kernel_rfl)
theorem slices_Index_string_string_1_eq (a1 : List (TB9)) (a2 : TB9) (a3 : Int) (a4 : Int) : slices_Index_string_string_1 a1 a2 a3 a4 = cond (decide (a4 < a3)) (cond (decide (0 ≤ a4) && decide (a4 < (a1.length : Int))) (cond (decide (a2 = (a1.getD a4.toNat []))) (some a4) (slices_Index_string_string_1 a1 a2 a3 (IntKind.i64.wrap (a4 + 1)))) none) (some (-1)) := (top_stage ..).trans (by kernel_rfl)
theorem value_Right_eq (x0 : TV9) : value_Right x0 = cond (decide (x0.1 = 0)) (some ((decide (x0.1 = 0)) && ((x0.2.1.1 == false) && ((decide (x0.2.1.2.1 = [])) && ((decide (x0.2.1.2.2 = [])) && ((decide (x0.2.2.1 = [])) && ((x0.2.2.2.1 == false) && (decide (x0.2.2.2.2 = 0))))))))) (cond (decide (x0.1 = 1)) ((value_Num x0.2.1).bind fun v1 => some ((decide (x0.1 = v1.1)) && ((x0.2.1.1 == v1.2.1.1) && ((decide (x0.2.1.2.1 = v1.2.1.2.1)) && ((decide (x0.2.1.2.2 = v1.2.1.2.2)) && ((decide (x0.2.2.1 = v1.2.2.1)) && ((x0.2.2.2.1 == v1.2.2.2.1) && (decide (x0.2.2.2.2 = v1.2.2.2.2))))))))) (cond (decide (x0.1 = 2)) ((value_Text x0.2.2.1).bind fun v2 => some ((decide (x0.1 = v2.1)) && ((x0.2.1.1 == v2.2.1.1) && ((decide (x0.2.1.2.1 = v2.2.1.2.1)) && ((decide (x0.2.1.2.2 = v2.2.1.2.2)) && ((decide (x0.2.2.1 = v2.2.2.1)) && ((x0.2.2.2.1 == v2.2.2.2.1) && (decide (x0.2.2.2.2 = v2.2.2.2.2))))))))) (cond (decide (x0.1 = 3)) ((value_Truth x0.2.2.2.1).bind fun v3 => some ((decide (x0.1 = v3.1)) && ((x0.2.1.1 == v3.2.1.1) && ((decide (x0.2.1.2.1 = v3.2.1.2.1)) && ((decide (x0.2.1.2.2 = v3.2.1.2.2)) && ((decide (x0.2.2.1 = v3.2.2.1)) && ((x0.2.2.2.1 == v3.2.2.2.1) && (decide (x0.2.2.2.2 = v3.2.2.2.2))))))))) (cond (decide (x0.1 = 4)) ((value_Fault x0.2.2.2.2).bind fun v4 => some ((decide (x0.1 = v4.1)) && ((x0.2.1.1 == v4.2.1.1) && ((decide (x0.2.1.2.1 = v4.2.1.2.1)) && ((decide (x0.2.1.2.2 = v4.2.1.2.2)) && ((decide (x0.2.2.1 = v4.2.2.1)) && ((x0.2.2.2.1 == v4.2.2.2.1) && (decide (x0.2.2.2.2 = v4.2.2.2.2))))))))) (some false))))) := (top_call ..).trans (by kernel_rfl)
theorem coerce_cell_fault_eq (x0 : TV9) : coerce_cell_fault x0 = (value_Right x0).bind fun v1 => cond (!v1) (some 2) (some x0.2.2.2.2) := (top_call ..).trans (by kernel_rfl)
theorem rat_Sign_eq (x0 : Bool × TB9 × TB9) : rat_Sign x0 = (rat_well x0).bind fun v1 => cond (decide (v1.2.1 = ([] : TB9))) (some 0) (cond v1.1 (some (-1)) (some 1)) := (top_call ..).trans (by kernel_rfl)
theorem value_Literal_eq (x0 : TB9) : value_Literal x0 = cond (decide ((x0.length : Int) > 300)) (some ((0, (false, [], []), [], false, 0), 9)) (cond (decide (x0 = ([] : TB9))) (some ((0, (false, [], []), [], false, 0), 0)) (cond (decide (x0 = ([84, 82, 85, 69] : TB9))) (value_Literal_1 x0 true (0, (false, [], []), [], false, 0)) (value_Literal_1 x0 (decide (x0 = ([70, 65, 76, 83, 69] : TB9))) (0, (false, [], []), [], false, 0)))) := (top_call ..).trans (by kernel_rfl)
theorem value_Literal_1_eq (a1 : TB9) (a2 : Bool) (a3 : TV9) : value_Literal_1 a1 a2 a3 = cond a2 ((value_Truth (decide (a1 = ([84, 82, 85, 69] : TB9)))).bind fun v1 => some (v1, 0)) ((value_Named a1).bind fun v2 => cond v2.2 ((value_Fault v2.1).bind fun v3 => some (v3, 0)) ((numtext_Parse a1).bind fun v4 => cond (decide (v4.2 = 0)) ((value_Num v4.1).bind fun v5 => some (v5, 0)) ((strings_CutPrefix a1 ([39] : TB9)).bind fun v6 => (value_plain v6.1).bind fun v7 => cond (!v7) (some ((0, (false, [], []), [], false, 0), 10)) ((value_Text v6.1).bind fun v8 => some (v8, 0))))) := (top_stage ..).trans (by kernel_rfl)
theorem numtext_Parse_eq (x0 : TB9) : numtext_Parse x0 = (strings_CutPrefix x0 ([45] : TB9)).bind fun v1 => (strings_Cut v1.1 ([47] : TB9)).bind fun v2 => cond v2.2.2 ((numtext_fraction v2.1 v2.2.1).bind fun v3 => numtext_Parse_1 v1.2 v3.2 (false, [], []) v3.1) ((numtext_Decimal v1.1).bind fun v4 => numtext_Parse_1 v1.2 v4.2 (false, [], []) v4.1) := (top_call ..).trans (by kernel_rfl)
theorem numtext_Parse_1_eq (a1 : Bool) (a2 : Int) (a3 : Bool × TB9 × TB9) (a4 : Bool × TB9 × TB9) : numtext_Parse_1 a1 a2 a3 a4 = cond (decide (a2 = 0)) (numtext_Parse_2 a2 a1 a3 a4) (numtext_Parse_2 a2 false a3 a4) := (top_stage ..).trans (by kernel_rfl)
theorem numtext_Parse_2_eq (a1 : Int) (a2 : Bool) (a3 : Bool × TB9 × TB9) (a4 : Bool × TB9 × TB9) : numtext_Parse_2 a1 a2 a3 a4 = cond a2 ((rat_Neg a4).bind fun v1 => numtext_Parse_3 a1 a3 v1) (numtext_Parse_3 a1 a3 a4) := (top_stage ..).trans (by kernel_rfl)
theorem numtext_Parse_3_eq (a1 : Int) (a2 : Bool × TB9 × TB9) (a3 : Bool × TB9 × TB9) : numtext_Parse_3 a1 a2 a3 = some (a3, a1) := (top_stage ..).trans (by kernel_rfl)
theorem coerce_bit_eq (x0 : Bool) : coerce_bit x0 = cond x0 (some 1) (some 0) := (top_call ..).trans (by kernel_rfl)
theorem rat_Of_eq (x0 : Int) : rat_Of x0 = (whole_Of x0).bind fun v1 => some (v1.1, v1.2, ([1] : TB9)) := (top_call ..).trans (by kernel_rfl)
theorem round_well_eq (x0 : Bool × TB9 × TB9) : round_well x0 = (rat_Right x0).bind fun v1 => cond v1 (some x0) ((rat_Of 0).bind fun v2 => some v2) := (top_call ..).trans (by kernel_rfl)
theorem whole_Make_eq (x0 : Bool) (x1 : TB9) : whole_Make x0 x1 = (nat_Trim x1).bind fun v1 => cond x0 (some (!decide (v1 = ([] : TB9)), v1)) (some (false, v1)) := (top_call ..).trans (by kernel_rfl)
theorem round_made_eq (x0 : Bool × TB9) : round_made x0 = (whole_Of 1).bind fun v1 => (rat_Make x0 v1).bind fun v2 => some v2 := (top_call ..).trans (by kernel_rfl)
theorem round_Whole_eq (x0 : Bool × TB9 × TB9) : round_Whole x0 = (round_well x0).bind fun v1 => some (decide (v1.2.2 = ([1] : TB9))) := (top_call ..).trans (by kernel_rfl)
theorem round_top_eq (x0 : Bool × TB9 × TB9) : round_top x0 = some (x0.1, x0.2.1) := (top_call ..).trans (by kernel_rfl)
theorem whole_Small_eq (x0 : Bool × TB9) : whole_Small x0 = (whole_well x0).bind fun v1 => (nat_Small v1.2).bind fun v2 => cond v1.1 (whole_Small_1 (IntKind.u64.wrap (0 - v2.1)) v2.2 v1) (whole_Small_1 v2.1 v2.2 v1) := (top_call ..).trans (by kernel_rfl)
theorem whole_Small_1_eq (a1 : Int) (a2 : Bool) (a3 : Bool × TB9) : whole_Small_1 a1 a2 a3 = cond (!a2) (whole_Small_2 a1 true) ((whole_Of (IntKind.i64.wrap a1)).bind fun v1 => whole_Small_2 a1 (!((v1.1 == a3.1) && (decide (v1.2 = a3.2))))) := (top_stage ..).trans (by kernel_rfl)
theorem whole_Small_2_eq (a1 : Int) (a2 : Bool) : whole_Small_2 a1 a2 = cond a2 (some (0, false)) (some (IntKind.i64.wrap a1, true)) := (top_stage ..).trans (by kernel_rfl)
theorem coerce_like_eq (x0 : TV9) (x1 : Int) : coerce_like x0 x1 = cond (!decide (x0.1 = 0)) (some x0) (cond (decide (x1 = 1)) ((rat_Of 0).bind fun v1 => (value_Num v1).bind fun v2 => some v2) (cond (decide (x1 = 2)) ((value_Text ([] : TB9)).bind fun v3 => some v3) (cond (decide (x1 = 3)) ((value_Truth false).bind fun v4 => some v4) (some x0)))) := (top_call ..).trans (by kernel_rfl)
theorem cmp_Compare_int_eq (x0 : Int) (x1 : Int) : cmp_Compare_int x0 x1 = (cmp_isNaN_int x0).bind fun v1 => (cmp_isNaN_int x1).bind fun v2 => cond v1 (cond v2 (some 0) (some (-1))) (cond v2 (some 1) (cond (decide (x0 < x1)) (some (-1)) (cond (decide (x0 > x1)) (some 1) (some 0)))) := (top_call ..).trans (by kernel_rfl)
theorem rat_Cmp_eq (x0 : Bool × TB9 × TB9) (x1 : Bool × TB9 × TB9) : rat_Cmp x0 x1 = (rat_well x0).bind fun v1 => (rat_well x1).bind fun v2 => (rat_crossed v1 v2).bind fun v3 => (whole_Cmp v3.1 v3.2).bind fun v4 => some v4 := (top_call ..).trans (by kernel_rfl)
theorem cmp_Compare_string_eq (x0 : TB9) (x1 : TB9) : cmp_Compare_string x0 x1 = (cmp_isNaN_string x0).bind fun v1 => (cmp_isNaN_string x1).bind fun v2 => cond v1 (cond v2 (some 0) (some (-1))) (cond v2 (some 1) (cond (Op.bytesLess x0 x1) (some (-1)) (cond (!(Op.bytesLess x0 x1 || decide (x0 = x1))) (some 1) (some 0)))) := (top_call ..).trans (by kernel_rfl)
theorem cmp_Compare_int64_eq (x0 : Int) (x1 : Int) : cmp_Compare_int64 x0 x1 = (cmp_isNaN_int64 x0).bind fun v1 => (cmp_isNaN_int64 x1).bind fun v2 => cond v1 (cond v2 (some 0) (some (-1))) (cond v2 (some 1) (cond (decide (x0 < x1)) (some (-1)) (cond (decide (x0 > x1)) (some 1) (some 0)))) := (top_call ..).trans (by kernel_rfl)
theorem cmp_Or_int_eq (x0 : List Int) : cmp_Or_int x0 = cmp_Or_int_1 0 x0 (x0.length : Int) 0 := (top_call ..).trans (by kernel_rfl)
theorem cmp_Or_int_1_eq (a1 : Int) (a2 : List Int) (a3 : Int) (a4 : Int) : cmp_Or_int_1 a1 a2 a3 a4 = cond (decide (a4 < a3)) (cond (decide (0 ≤ a4) && decide (a4 < (a2.length : Int))) (cond (!decide ((a2.getD a4.toNat 0) = a1)) (some (a2.getD a4.toNat 0)) (cmp_Or_int_1 a1 a2 a3 (IntKind.i64.wrap (a4 + 1)))) none) (some a1) := (top_stage ..).trans (by kernel_rfl)
theorem value_Num_eq (x0 : Bool × TB9 × TB9) : value_Num x0 = (rat_Right x0).bind fun v1 => cond (!v1) ((rat_Of 0).bind fun v2 => value_Num_1 v2 (0, (false, [], []), [], false, 0)) (value_Num_1 x0 (0, (false, [], []), [], false, 0)) := (top_call ..).trans (by kernel_rfl)
theorem value_Num_1_eq (a1 : Bool × TB9 × TB9) (a2 : TV9) : value_Num_1 a1 a2 = some (1, a1, [], false, 0) := (top_stage ..).trans (by kernel_rfl)
theorem value_plain_eq (x0 : TB9) : value_plain x0 = value_plain_1 x0 (x0.map fun b => (b.toNat : Int)) ((x0.map fun b => (b.toNat : Int)).length : Int) 0 := (top_call ..).trans (by kernel_rfl)
theorem value_plain_1_eq (a1 : TB9) (a2 : List Int) (a3 : Int) (a4 : Int) : value_plain_1 a1 a2 a3 a4 = cond (decide (a4 < a3)) (cond (decide (0 ≤ a4) && decide (a4 < (a2.length : Int))) (cond (decide ((a2.getD a4.toNat 0) < 32)) (value_plain_2 a1 a2 a3 a4 true) (value_plain_2 a1 a2 a3 a4 (decide ((a2.getD a4.toNat 0) > 126)))) none) (some (decide ((a1.length : Int) ≤ 200))) := (top_stage ..).trans (by kernel_rfl)
theorem value_plain_2_eq (a1 : TB9) (a2 : List Int) (a3 : Int) (a4 : Int) (a5 : Bool) : value_plain_2 a1 a2 a3 a4 a5 = cond a5 (some false) (value_plain_1 a1 a2 a3 (IntKind.i64.wrap (a4 + 1))) := (top_stage ..).trans (by kernel_rfl)
theorem abacistref05_Top_eq (x0 : Bool × TB9 × TB9) : abacistref05_Top x0 = (abacistref05_Well x0).bind fun v1 => (abacistref05_Well x0).bind fun v2 => (abacistref04_Make v1.1 v2.2.1).bind fun v3 => some v3 := (top_call ..).trans (by kernel_rfl)
theorem abacistref04_Cmp_eq (x0 : Bool × TB9) (x1 : Bool × TB9) : abacistref04_Cmp x0 x1 = (abacistref04_well x0).bind fun v1 => (abacistref04_well x1).bind fun v2 => cond (!(v1.1 == v2.1)) (cond v1.1 (some (-1)) (some 1)) (cond v1.1 ((abacistref01_Cmp v2.2 v1.2).bind fun v3 => some v3) ((abacistref01_Cmp v1.2 v2.2).bind fun v4 => some v4)) := (top_call ..).trans (by kernel_rfl)
theorem abacistref07_Parse_eq (x0 : TB9) : abacistref07_Parse x0 = cond (decide ((x0.length : Int) > 0)) (cond (decide (0 ≤ 0) && decide (0 < (x0.length : Int))) (abacistref07_Parse_1 x0 (decide (((x0.getD 0 0).toNat : Int) = 45)) (false, [], [])) none) (abacistref07_Parse_1 x0 false (false, [], [])) := (top_call ..).trans (by kernel_rfl)
theorem abacistref07_Parse_1_eq (a1 : TB9) (a2 : Bool) (a3 : Bool × TB9 × TB9) : abacistref07_Parse_1 a1 a2 a3 = cond a2 (cond (decide (0 ≤ 1) && decide (1 ≤ (a1.length : Int))) (abacistref07_Parse_2 (a1.drop 1) a2 a3) none) (abacistref07_Parse_2 a1 a2 a3) := (top_stage ..).trans (by kernel_rfl)
theorem abacistref07_Parse_2_eq (a1 : TB9) (a2 : Bool) (a3 : Bool × TB9 × TB9) : abacistref07_Parse_2 a1 a2 a3 = (abacistref07_Decimal a1).bind fun v1 => (abacistref07_find a1 47).bind fun v2 => cond (decide (v2 ≥ 0)) (cond (decide (0 ≤ v2) && decide (v2 ≤ (a1.length : Int))) (cond (decide (0 ≤ (IntKind.i64.wrap (v2 + 1))) && decide ((IntKind.i64.wrap (v2 + 1)) ≤ (a1.length : Int))) ((abacistref07_fraction (a1.take v2.toNat) (a1.drop ((IntKind.i64.wrap (v2 + 1)).toNat))).bind fun v3 => abacistref07_Parse_3 a2 v3.2 a3 v3.1) none) none) (abacistref07_Parse_3 a2 v1.2 a3 v1.1) := (top_stage ..).trans (by kernel_rfl)
theorem abacistref07_Parse_3_eq (a1 : Bool) (a2 : Int) (a3 : Bool × TB9 × TB9) (a4 : Bool × TB9 × TB9) : abacistref07_Parse_3 a1 a2 a3 a4 = cond (decide (a2 = 0)) (abacistref07_Parse_4 a2 a1 a3 a4) (abacistref07_Parse_4 a2 false a3 a4) := (top_stage ..).trans (by kernel_rfl)
theorem abacistref07_Parse_4_eq (a1 : Int) (a2 : Bool) (a3 : Bool × TB9 × TB9) (a4 : Bool × TB9 × TB9) : abacistref07_Parse_4 a1 a2 a3 a4 = cond a2 ((abacistref05_Neg a4).bind fun v1 => abacistref07_Parse_5 a1 a3 v1) (abacistref07_Parse_5 a1 a3 a4) := (top_stage ..).trans (by kernel_rfl)
theorem abacistref07_Parse_5_eq (a1 : Int) (a2 : Bool × TB9 × TB9) (a3 : Bool × TB9 × TB9) : abacistref07_Parse_5 a1 a2 a3 = some (a3, a1) := (top_stage ..).trans (by kernel_rfl)
theorem abacistref06_Floor_eq (x0 : Bool × TB9 × TB9) : abacistref06_Floor x0 = (abacistref05_Top x0).bind fun v1 => (abacistref05_Low x0).bind fun v2 => (abacistref06_floor v1 v2).bind fun v3 => (abacistref06_one).bind fun v4 => (abacistref05_Make v3 v4).bind fun v5 => some v5 := (top_call ..).trans (by kernel_rfl)
theorem abacistref06_Ceil_eq (x0 : Bool × TB9 × TB9) : abacistref06_Ceil x0 = (abacistref05_Neg x0).bind fun v1 => (abacistref06_Floor v1).bind fun v2 => cond (!decide (v2.2 = 0)) (some v2) ((abacistref05_Neg v2.1).bind fun v3 => some (v3, 0)) := (top_call ..).trans (by kernel_rfl)
theorem abacistref06_Whole_eq (x0 : Bool × TB9 × TB9) : abacistref06_Whole x0 = (abacistref05_Well x0).bind fun v1 => some (decide (v1.2.2 = ([1] : TB9))) := (top_call ..).trans (by kernel_rfl)
theorem abacistref04_Small_eq (x0 : Bool × TB9) : abacistref04_Small x0 = (abacistref04_well x0).bind fun v1 => (abacistref01_Small v1.2).bind fun v2 => cond (!v2.2) (some (0, false)) (cond v1.1 (cond (decide (v2.1 > 9223372036854775808)) (abacistref04_Small_1 v2.1 true v1) (cond (!v1.1) (abacistref04_Small_1 v2.1 (decide (v2.1 ≥ 9223372036854775808)) v1) (abacistref04_Small_1 v2.1 false v1))) (cond (!v1.1) (abacistref04_Small_1 v2.1 (decide (v2.1 ≥ 9223372036854775808)) v1) (abacistref04_Small_1 v2.1 false v1))) := (top_call ..).trans (by kernel_rfl)
theorem abacistref04_Small_1_eq (a1 : Int) (a2 : Bool) (a3 : Bool × TB9) : abacistref04_Small_1 a1 a2 a3 = cond a2 (some (0, false)) (cond a3.1 (some (IntKind.i64.wrap (IntKind.u64.wrap (0 - a1)), true)) (some (IntKind.i64.wrap a1, true))) := (top_stage ..).trans (by kernel_rfl)
theorem abacistref09_like_eq (x0 : TV9) (x1 : TV9) : abacistref09_like x0 x1 = cond (!decide (x0.1 = 0)) (some x0) (cond (decide (x1.1 = 1)) ((abacistref05_Of 0).bind fun v1 => (abacistref08_Num v1).bind fun v2 => some v2) (cond (decide (x1.1 = 2)) ((abacistref08_Text ([] : TB9)).bind fun v3 => some v3) (cond (decide (x1.1 = 3)) ((abacistref08_Truth false).bind fun v4 => some v4) (some x0)))) := (top_call ..).trans (by kernel_rfl)
theorem abacistref09_order_eq (x0 : Int) (x1 : Int) : abacistref09_order x0 x1 = cond (decide (x0 < x1)) (some (-1)) (cond (decide (x0 > x1)) (some 1) (some 0)) := (top_call ..).trans (by kernel_rfl)
theorem abacistref05_Cmp_eq (x0 : Bool × TB9 × TB9) (x1 : Bool × TB9 × TB9) : abacistref05_Cmp x0 x1 = (abacistref05_Top x0).bind fun v1 => (abacistref05_Low x1).bind fun v2 => (abacistref04_Mul v1 v2).bind fun v3 => (abacistref05_Top x1).bind fun v4 => (abacistref05_Low x0).bind fun v5 => (abacistref04_Mul v4 v5).bind fun v6 => (abacistref04_Cmp v3 v6).bind fun v7 => some v7 := (top_call ..).trans (by kernel_rfl)
theorem abacistref09_bytes_eq (x0 : TB9) (x1 : TB9) : abacistref09_bytes x0 x1 = abacistref09_bytes_1 x0 x1 0 := (top_call ..).trans (by kernel_rfl)
theorem abacistref09_bytes_1_eq (a1 : TB9) (a2 : TB9) (a3 : Int) : abacistref09_bytes_1 a1 a2 a3 = cond (decide (a3 < (a1.length : Int))) (abacistref09_bytes_2 a1 a2 a3 (decide (a3 < (a2.length : Int)))) (abacistref09_bytes_2 a1 a2 a3 false) := (top_stage ..).trans (by kernel_rfl)
theorem abacistref09_bytes_2_eq (a1 : TB9) (a2 : TB9) (a3 : Int) (a4 : Bool) : abacistref09_bytes_2 a1 a2 a3 a4 = cond a4 (cond (decide (0 ≤ a3) && decide (a3 < (a1.length : Int))) (cond (decide (0 ≤ a3) && decide (a3 < (a2.length : Int))) (cond (!decide (((a1.getD a3.toNat 0).toNat : Int) = ((a2.getD a3.toNat 0).toNat : Int))) (cond (decide (0 ≤ a3) && decide (a3 < (a1.length : Int))) (cond (decide (0 ≤ a3) && decide (a3 < (a2.length : Int))) ((abacistref09_order (IntKind.i64.wrap ((a1.getD a3.toNat 0).toNat : Int)) (IntKind.i64.wrap ((a2.getD a3.toNat 0).toNat : Int))).bind fun v1 => some v1) none) none) (abacistref09_bytes_1 a1 a2 (IntKind.i64.wrap (a3 + 1)))) none) none) ((abacistref09_order (a1.length : Int) (a2.length : Int)).bind fun v2 => some v2) := (top_stage ..).trans (by kernel_rfl)
theorem abacistref09_bit_eq (x0 : Bool) : abacistref09_bit x0 = cond x0 (some 1) (some 0) := (top_call ..).trans (by kernel_rfl)
theorem abacistref04_Make_eq (x0 : Bool) (x1 : TB9) : abacistref04_Make x0 x1 = (abacistref01_Trim x1).bind fun v1 => cond x0 (some (!decide (v1 = ([] : TB9)), v1)) (some (false, v1)) := (top_call ..).trans (by kernel_rfl)
theorem abacistref02_Div_eq (x0 : TB9) (x1 : TB9) : abacistref02_Div x0 x1 = (abacistref02_DivMod x0 x1).bind fun v1 => some v1.1 := (top_call ..).trans (by kernel_rfl)
theorem abacistref05_Zero_eq : abacistref05_Zero = some (false, [], ([1] : TB9)) := (top_call ..).trans (by kernel_rfl)
theorem rat_well_eq (x0 : Bool × TB9 × TB9) : rat_well x0 = (rat_Right x0).bind fun v1 => cond v1 (some x0) (some (false, [], ([1] : TB9))) := (top_call ..).trans (by kernel_rfl)
theorem value_Named_eq (x0 : TB9) : value_Named x0 = value_Named_1 x0 := (top_call ..).trans (by kernel_rfl)
theorem value_Named_1_eq (a1 : TB9) : value_Named_1 a1 = value_Named_2 a1 ([] : TB9) ([35, 68, 73, 86, 47, 48, 33] : TB9) ([35, 86, 65, 76, 85, 69, 33] : TB9) ([35, 82, 69, 70, 33] : TB9) ([35, 78, 65, 77, 69, 63] : TB9) ([35, 78, 85, 77, 33] : TB9) ([35, 78, 47, 65] : TB9) ([35, 67, 73, 82, 67, 33] : TB9) 0 := (top_stage ..).trans (by kernel_rfl)
theorem value_Named_2_eq (a1 : TB9) (a2 : TB9) (a3 : TB9) (a4 : TB9) (a5 : TB9) (a6 : TB9) (a7 : TB9) (a8 : TB9) (a9 : TB9) (a10 : Int) : value_Named_2 a1 a2 a3 a4 a5 a6 a7 a8 a9 a10 = cond (decide (a10 < 8)) (cond (decide (0 ≤ a10) && decide (a10 < (8 : Int))) (cond (decide (a10 > 0)) (value_Named_3 a1 a10 a2 a3 a4 a5 a6 a7 a8 a9 a10 (decide ((([a2, a3, a4, a5, a6, a7, a8, a9] : List (TB9)).getD a10.toNat []) = a1))) (value_Named_3 a1 a10 a2 a3 a4 a5 a6 a7 a8 a9 a10 false)) none) (some (0, false)) := (top_stage ..).trans (by kernel_rfl)
theorem value_Named_3_eq (a1 : TB9) (a2 : Int) (a3 : TB9) (a4 : TB9) (a5 : TB9) (a6 : TB9) (a7 : TB9) (a8 : TB9) (a9 : TB9) (a10 : TB9) (a11 : Int) (a12 : Bool) : value_Named_3 a1 a2 a3 a4 a5 a6 a7 a8 a9 a10 a11 a12 = cond a12 (some (a2, true)) (value_Named_2 a1 a3 a4 a5 a6 a7 a8 a9 a10 (IntKind.i64.wrap (a11 + 1))) := (top_stage ..).trans (by kernel_rfl)
theorem strings_CutPrefix_eq (x0 : TB9) (x1 : TB9) : strings_CutPrefix x0 x1 = (internal_stringslite_CutPrefix x0 x1).bind fun v1 => some v1 := (top_call ..).trans (by kernel_rfl)
theorem numtext_fraction_eq (x0 : TB9) (x1 : TB9) : numtext_fraction x0 x1 = (dec_Parse x0).bind fun v1 => (dec_Parse x1).bind fun v2 => cond (decide (v1.2 = 3)) (numtext_fraction_1 v1.1 v1.2 v2.1 v2.2 true (false, [], [])) (numtext_fraction_1 v1.1 v1.2 v2.1 v2.2 (decide (v2.2 = 3)) (false, [], [])) := (top_call ..).trans (by kernel_rfl)
theorem numtext_fraction_1_eq (a1 : TB9) (a2 : Int) (a3 : TB9) (a4 : Int) (a5 : Bool) (a6 : Bool × TB9 × TB9) : numtext_fraction_1 a1 a2 a3 a4 a5 a6 = cond a5 (some ((false, [], []), 10)) (cond (decide (a2 = 0)) (numtext_fraction_2 a1 a4 a3 a6) (numtext_fraction_2 a1 a2 a3 a6)) := (top_stage ..).trans (by kernel_rfl)
theorem numtext_fraction_2_eq (a1 : TB9) (a2 : Int) (a3 : TB9) (a4 : Bool × TB9 × TB9) : numtext_fraction_2 a1 a2 a3 a4 = cond (!decide (a2 = 0)) (some ((false, [], []), a2)) ((whole_Make false a1).bind fun v1 => (whole_Make false a3).bind fun v2 => (rat_Make v1 v2).bind fun v3 => some v3) := (top_stage ..).trans (by kernel_rfl)
theorem numtext_Decimal_eq (x0 : TB9) : numtext_Decimal x0 = (strings_Cut x0 ([46] : TB9)).bind fun v1 => (numtext_digits v1.1).bind fun v2 => cond (!v2) (numtext_Decimal_1 x0 v1.1 v1.2.1 true (false, [], [])) (cond v1.2.2 ((numtext_digits v1.2.1).bind fun v3 => numtext_Decimal_1 x0 v1.1 v1.2.1 (!v3) (false, [], [])) (numtext_Decimal_1 x0 v1.1 v1.2.1 false (false, [], []))) := (top_call ..).trans (by kernel_rfl)
theorem numtext_Decimal_1_eq (a1 : TB9) (a2 : TB9) (a3 : TB9) (a4 : Bool) (a5 : Bool × TB9 × TB9) : numtext_Decimal_1 a1 a2 a3 a4 a5 = cond a4 (some ((false, [], []), 10)) (cond (decide ((a1.length : Int) > 400)) (some ((false, [], []), 9)) (cond (Nat.ble (a2.length + a3.length) 9223372036854775807) ((dec_Parse (a2 ++ a3)).bind fun v1 => cond (!decide (v1.2 = 0)) (some ((false, [], []), v1.2)) ((whole_Make false v1.1).bind fun v2 => (numtext_power 10 (a3.length : Int)).bind fun v3 => (whole_Make false v3).bind fun v4 => (rat_Make v2 v4).bind fun v5 => some v5)) none)) := (top_stage ..).trans (by kernel_rfl)
theorem rat_Neg_eq (x0 : Bool × TB9 × TB9) : rat_Neg x0 = (rat_well x0).bind fun v1 => cond (!v1.1) (rat_Neg_1 (!decide (v1.2.1 = ([] : TB9)), v1.2) (false, [], [])) (rat_Neg_1 (false, v1.2) (false, [], [])) := (top_call ..).trans (by kernel_rfl)
theorem rat_Neg_1_eq (a1 : Bool × TB9 × TB9) (a2 : Bool × TB9 × TB9) : rat_Neg_1 a1 a2 = some a1 := (top_stage ..).trans (by kernel_rfl)
theorem whole_Of_eq (x0 : Int) : whole_Of x0 = cond (decide (x0 < 0)) ((nat_Of (IntKind.u64.wrap (0 - (IntKind.u64.wrap x0)))).bind fun v1 => (whole_Make true v1).bind fun v2 => some v2) ((nat_Of (IntKind.u64.wrap x0)).bind fun v3 => (whole_Make false v3).bind fun v4 => some v4) := (top_call ..).trans (by kernel_rfl)
theorem rat_Right_eq (x0 : Bool × TB9 × TB9) : rat_Right x0 = (rat_tidy x0.2.1).bind fun v1 => cond (!v1) (rat_Right_1 true x0) ((rat_tidy x0.2.2).bind fun v2 => cond (!v2) (rat_Right_1 true x0) (rat_Right_1 (decide (x0.2.2 = ([] : TB9))) x0)) := (top_call ..).trans (by kernel_rfl)
theorem rat_Right_1_eq (a1 : Bool) (a2 : Bool × TB9 × TB9) : rat_Right_1 a1 a2 = cond a1 (some false) (cond (decide (a2.2.1 = ([] : TB9))) (cond (!a2.1) (some (decide (a2.2.2 = ([1] : TB9)))) (some false)) (cond (decide (a2.2.2 = ([1] : TB9))) (some true) ((divide_Gcd a2.2.1 a2.2.2).bind fun v1 => some (decide (v1 = ([1] : TB9)))))) := (top_stage ..).trans (by kernel_rfl)
theorem rat_Make_eq (x0 : Bool × TB9) (x1 : Bool × TB9) : rat_Make x0 x1 = (nat_Trim x0.2).bind fun v1 => (nat_Trim x1.2).bind fun v2 => cond (decide (v2 = ([] : TB9))) (some ((false, [], []), 5)) ((divide_Gcd v1 v2).bind fun v3 => cond (!decide (v3 = ([1] : TB9))) ((divide_DivMod v1 v3).bind fun v4 => (divide_DivMod v2 v3).bind fun v5 => rat_Make_1 v4.1 v5.1 x0 x1 (false, [], [])) (rat_Make_1 v1 v2 x0 x1 (false, [], []))) := (top_call ..).trans (by kernel_rfl)
theorem rat_Make_1_eq (a1 : TB9) (a2 : TB9) (a3 : Bool × TB9) (a4 : Bool × TB9) (a5 : Bool × TB9 × TB9) : rat_Make_1 a1 a2 a3 a4 a5 = cond (decide ((a1.length : Int) > 32)) (rat_Make_2 a1 a2 true a3 a4 a5) (rat_Make_2 a1 a2 (decide ((a2.length : Int) > 32)) a3 a4 a5) := (top_stage ..).trans (by kernel_rfl)
theorem rat_Make_2_eq (a1 : TB9) (a2 : TB9) (a3 : Bool) (a4 : Bool × TB9) (a5 : Bool × TB9) (a6 : Bool × TB9 × TB9) : rat_Make_2 a1 a2 a3 a4 a5 a6 = cond a3 (some ((false, [], []), 4)) (cond (!decide (a1 = ([] : TB9))) (some ((!(a4.1 == a5.1), a1, a2), 0)) (some ((false, a1, a2), 0))) := (top_stage ..).trans (by kernel_rfl)
theorem whole_well_eq (x0 : Bool × TB9) : whole_well x0 = (whole_Make x0.1 x0.2).bind fun v1 => some v1 := (top_call ..).trans (by kernel_rfl)
theorem cmp_isNaN_int_eq (x0 : Int) : cmp_isNaN_int x0 = some (!decide (x0 = x0)) := (top_call ..).trans (by kernel_rfl)
theorem rat_crossed_eq (x0 : Bool × TB9 × TB9) (x1 : Bool × TB9 × TB9) : rat_crossed x0 x1 = cond (decide (x0.2.2 = x1.2.2)) ((rat_top x0).bind fun v1 => (rat_top x1).bind fun v2 => some (v1, v2)) ((rat_top x0).bind fun v3 => (rat_low x1).bind fun v4 => (whole_Mul v3 v4).bind fun v5 => (rat_top x1).bind fun v6 => (rat_low x0).bind fun v7 => (whole_Mul v6 v7).bind fun v8 => some (v5, v8)) := (top_call ..).trans (by kernel_rfl)
theorem whole_Cmp_eq (x0 : Bool × TB9) (x1 : Bool × TB9) : whole_Cmp x0 x1 = (whole_well x0).bind fun v1 => (whole_well x1).bind fun v2 => (nat_Cmp v1.2 v2.2).bind fun v3 => cond v1.1 (whole_Cmp_1 v3 v2.1 v1 v2) (whole_Cmp_1 v3 false v1 v2) := (top_call ..).trans (by kernel_rfl)
theorem whole_Cmp_1_eq (a1 : Int) (a2 : Bool) (a3 : Bool × TB9) (a4 : Bool × TB9) : whole_Cmp_1 a1 a2 a3 a4 = cond a2 (some (IntKind.i64.wrap (0 - a1))) (cond a3.1 (some (-1)) (cond a4.1 (some 1) (some a1))) := (top_stage ..).trans (by kernel_rfl)
theorem cmp_isNaN_string_eq (x0 : TB9) : cmp_isNaN_string x0 = some (!decide (x0 = x0)) := (top_call ..).trans (by kernel_rfl)
theorem cmp_isNaN_int64_eq (x0 : Int) : cmp_isNaN_int64 x0 = some (!decide (x0 = x0)) := (top_call ..).trans (by kernel_rfl)
theorem abacistref04_well_eq (x0 : Bool × TB9) : abacistref04_well x0 = (abacistref04_Make x0.1 x0.2).bind fun v1 => some v1 := (top_call ..).trans (by kernel_rfl)
theorem abacistref07_Decimal_eq (x0 : TB9) : abacistref07_Decimal x0 = (abacistref07_find x0 46).bind fun v1 => cond (decide (v1 ≥ 0)) (cond (decide (0 ≤ v1) && decide (v1 ≤ (x0.length : Int))) (cond (decide (0 ≤ (IntKind.i64.wrap (v1 + 1))) && decide ((IntKind.i64.wrap (v1 + 1)) ≤ (x0.length : Int))) (abacistref07_Decimal_1 x0 v1 (x0.take v1.toNat) (x0.drop ((IntKind.i64.wrap (v1 + 1)).toNat)) (false, [], [])) none) none) (abacistref07_Decimal_1 x0 v1 x0 ([] : TB9) (false, [], [])) := (top_call ..).trans (by kernel_rfl)
theorem abacistref07_Decimal_1_eq (a1 : TB9) (a2 : Int) (a3 : TB9) (a4 : TB9) (a5 : Bool × TB9 × TB9) : abacistref07_Decimal_1 a1 a2 a3 a4 a5 = (abacistref07_digits a3).bind fun v1 => cond (!v1) (abacistref07_Decimal_2 a1 a3 a4 true a5) (cond (decide (a2 ≥ 0)) ((abacistref07_digits a4).bind fun v2 => abacistref07_Decimal_2 a1 a3 a4 (!v2) a5) (abacistref07_Decimal_2 a1 a3 a4 false a5)) := (top_stage ..).trans (by kernel_rfl)
theorem abacistref07_Decimal_2_eq (a1 : TB9) (a2 : TB9) (a3 : TB9) (a4 : Bool) (a5 : Bool × TB9 × TB9) : abacistref07_Decimal_2 a1 a2 a3 a4 a5 = cond a4 (some ((false, [], []), 10)) (cond (decide ((a1.length : Int) > 400)) (some ((false, [], []), 9)) (cond (Nat.ble (a2.length + a3.length) 9223372036854775807) ((abacistref03_Parse (a2 ++ a3)).bind fun v1 => (abacistref04_Make false v1.1).bind fun v2 => (abacistref07_power ([10] : TB9) (a3.length : Int)).bind fun v3 => (abacistref04_Make false v3).bind fun v4 => (abacistref05_Make v2 v4).bind fun v5 => some v5) none)) := (top_stage ..).trans (by kernel_rfl)
theorem abacistref07_find_eq (x0 : TB9) (x1 : Int) : abacistref07_find x0 x1 = abacistref07_find_1 x0 x1 0 := (top_call ..).trans (by kernel_rfl)
theorem abacistref07_find_1_eq (a1 : TB9) (a2 : Int) (a3 : Int) : abacistref07_find_1 a1 a2 a3 = cond (decide (a3 < (a1.length : Int))) (cond (decide (0 ≤ a3) && decide (a3 < (a1.length : Int))) (cond (decide (((a1.getD a3.toNat 0).toNat : Int) = a2)) (some a3) (abacistref07_find_1 a1 a2 (IntKind.i64.wrap (a3 + 1)))) none) (some (-1)) := (top_stage ..).trans (by kernel_rfl)
theorem abacistref07_fraction_eq (x0 : TB9) (x1 : TB9) : abacistref07_fraction x0 x1 = (abacistref03_Parse x0).bind fun v1 => (abacistref03_Parse x1).bind fun v2 => cond (decide (v1.2 = 3)) (abacistref07_fraction_1 v1.1 v1.2 v2.1 v2.2 true (false, [], [])) (abacistref07_fraction_1 v1.1 v1.2 v2.1 v2.2 (decide (v2.2 = 3)) (false, [], [])) := (top_call ..).trans (by kernel_rfl)
theorem abacistref07_fraction_1_eq (a1 : TB9) (a2 : Int) (a3 : TB9) (a4 : Int) (a5 : Bool) (a6 : Bool × TB9 × TB9) : abacistref07_fraction_1 a1 a2 a3 a4 a5 a6 = cond a5 (some ((false, [], []), 10)) (cond (!decide (a2 = 0)) (abacistref07_fraction_2 a1 a3 true a6) (abacistref07_fraction_2 a1 a3 (!decide (a4 = 0)) a6)) := (top_stage ..).trans (by kernel_rfl)
theorem abacistref07_fraction_2_eq (a1 : TB9) (a2 : TB9) (a3 : Bool) (a4 : Bool × TB9 × TB9) : abacistref07_fraction_2 a1 a2 a3 a4 = cond a3 (some ((false, [], []), 9)) ((abacistref04_Make false a1).bind fun v1 => (abacistref04_Make false a2).bind fun v2 => (abacistref05_Make v1 v2).bind fun v3 => some v3) := (top_stage ..).trans (by kernel_rfl)
theorem abacistref05_Neg_eq (x0 : Bool × TB9 × TB9) : abacistref05_Neg x0 = (abacistref05_Well x0).bind fun v1 => cond (!v1.1) (some (!decide (v1.2.1 = ([] : TB9)), v1.2)) (some (false, v1.2)) := (top_call ..).trans (by kernel_rfl)
theorem abacistref05_Low_eq (x0 : Bool × TB9 × TB9) : abacistref05_Low x0 = (abacistref05_Well x0).bind fun v1 => (abacistref04_Make false v1.2.2).bind fun v2 => some v2 := (top_call ..).trans (by kernel_rfl)
theorem abacistref06_floor_eq (x0 : Bool × TB9) (x1 : Bool × TB9) : abacistref06_floor x0 x1 = (abacistref04_Floor x0 x1).bind fun v1 => some v1.1 := (top_call ..).trans (by kernel_rfl)
theorem abacistref06_one_eq : abacistref06_one = (abacistref04_Of 1).bind fun v1 => some v1 := (top_call ..).trans (by kernel_rfl)
theorem abacistref04_Mul_eq (x0 : Bool × TB9) (x1 : Bool × TB9) : abacistref04_Mul x0 x1 = (abacistref04_well x0).bind fun v1 => (abacistref04_well x1).bind fun v2 => (abacistref01_Mul v1.2 v2.2).bind fun v3 => (abacistref04_Make (!(v1.1 == v2.1)) v3).bind fun v4 => some v4 := (top_call ..).trans (by kernel_rfl)
theorem internal_stringslite_CutPrefix_eq (x0 : TB9) (x1 : TB9) : internal_stringslite_CutPrefix x0 x1 = (internal_stringslite_HasPrefix x0 x1).bind fun v1 => cond (!v1) (some (x0, false)) (cond (decide (0 ≤ (x1.length : Int)) && decide ((x1.length : Int) ≤ (x0.length : Int))) (some (x0.drop ((x1.length : Int).toNat), true)) none) := (top_call ..).trans (by kernel_rfl)
theorem dec_Parse_eq (x0 : TB9) : dec_Parse x0 = cond (decide (x0 = ([] : TB9))) (dec_Parse_1 x0 true) ((dec_odd x0).bind fun v1 => dec_Parse_1 x0 v1) := (top_call ..).trans (by kernel_rfl)
theorem dec_Parse_1_eq (a1 : TB9) (a2 : Bool) : dec_Parse_1 a1 a2 = cond a2 (some (([] : TB9), 3)) (cond (decide ((a1.length : Int) > 400)) (some (([] : TB9), 9)) (dec_Parse_2 a1 ([] : TB9))) := (top_stage ..).trans (by kernel_rfl)
theorem dec_Parse_2_eq (a1 : TB9) (a2 : TB9) : dec_Parse_2 a1 a2 = cond (decide ((a1.length : Int) > 0)) (cond (decide (0 ≤ (min 9 (a1.length : Int))) && decide ((min 9 (a1.length : Int)) ≤ (a1.length : Int))) (dec_Parse_3 a1 a2 (min 9 (a1.length : Int)) 0 1 ((a1.take ((min 9 (a1.length : Int)).toNat)).map fun b => (b.toNat : Int)) (((a1.take ((min 9 (a1.length : Int)).toNat)).map fun b => (b.toNat : Int)).length : Int) 0) none) (some (a2, 0)) := (top_stage ..).trans (by kernel_rfl)
theorem dec_Parse_3_eq (a1 : TB9) (a2 : TB9) (a3 : Int) (a4 : Int) (a5 : Int) (a6 : List Int) (a7 : Int) (a8 : Int) : dec_Parse_3 a1 a2 a3 a4 a5 a6 a7 a8 = cond (decide (a8 < a7)) (cond (decide (0 ≤ a8) && decide (a8 < (a6.length : Int))) (dec_Parse_3 a1 a2 a3 (IntKind.u64.wrap ((IntKind.u64.wrap (a4 * 10)) + (IntKind.u64.wrap (IntKind.u8.wrap ((a6.getD a8.toNat 0) - 48))))) (IntKind.u64.wrap (a5 * 10)) a6 a7 (IntKind.i64.wrap (a8 + 1))) none) ((nat_Of a5).bind fun v1 => (nat_Mul a2 v1).bind fun v2 => (nat_Of a4).bind fun v3 => (nat_Add v2 v3).bind fun v4 => cond (decide (0 ≤ a3) && decide (a3 ≤ (a1.length : Int))) (dec_Parse_2 (a1.drop a3.toNat) v4) none) := (top_stage ..).trans (by kernel_rfl)
theorem numtext_digits_eq (x0 : TB9) : numtext_digits x0 = numtext_digits_1 x0 (x0.map fun b => (b.toNat : Int)) ((x0.map fun b => (b.toNat : Int)).length : Int) 0 := (top_call ..).trans (by kernel_rfl)
theorem numtext_digits_1_eq (a1 : TB9) (a2 : List Int) (a3 : Int) (a4 : Int) : numtext_digits_1 a1 a2 a3 a4 = cond (decide (a4 < a3)) (cond (decide (0 ≤ a4) && decide (a4 < (a2.length : Int))) (cond (decide ((a2.getD a4.toNat 0) < 48)) (numtext_digits_2 a1 a2 a3 a4 true) (numtext_digits_2 a1 a2 a3 a4 (decide ((a2.getD a4.toNat 0) > 57)))) none) (some (!decide (a1 = ([] : TB9)))) := (top_stage ..).trans (by kernel_rfl)
theorem numtext_digits_2_eq (a1 : TB9) (a2 : List Int) (a3 : Int) (a4 : Int) (a5 : Bool) : numtext_digits_2 a1 a2 a3 a4 a5 = cond a5 (some false) (numtext_digits_1 a1 a2 a3 (IntKind.i64.wrap (a4 + 1))) := (top_stage ..).trans (by kernel_rfl)
theorem numtext_power_eq (x0 : Int) (x1 : Int) : numtext_power x0 x1 = (nat_Of x0).bind fun v1 => (divide_Pow v1 x1).bind fun v2 => cond (!decide (v2.2 = 0)) (some ([] : TB9)) (some v2.1) := (top_call ..).trans (by kernel_rfl)
theorem rat_tidy_eq (x0 : TB9) : rat_tidy x0 = cond (decide ((x0.length : Int) ≤ 32)) ((nat_Trim x0).bind fun v1 => some (decide (v1 = x0))) (some false) := (top_call ..).trans (by kernel_rfl)
theorem rat_top_eq (x0 : Bool × TB9 × TB9) : rat_top x0 = some (x0.1, x0.2.1) := (top_call ..).trans (by kernel_rfl)
theorem rat_low_eq (x0 : Bool × TB9 × TB9) : rat_low x0 = some (false, x0.2.2) := (top_call ..).trans (by kernel_rfl)
theorem whole_Mul_eq (x0 : Bool × TB9) (x1 : Bool × TB9) : whole_Mul x0 x1 = (nat_Mul x0.2 x1.2).bind fun v1 => (whole_Make (!(x0.1 == x1.1)) v1).bind fun v2 => some v2 := (top_call ..).trans (by kernel_rfl)
theorem abacistref07_digits_eq (x0 : TB9) : abacistref07_digits x0 = abacistref07_digits_1 x0 0 := (top_call ..).trans (by kernel_rfl)
theorem abacistref07_digits_1_eq (a1 : TB9) (a2 : Int) : abacistref07_digits_1 a1 a2 = cond (decide (a2 < (a1.length : Int))) (cond (decide (0 ≤ a2) && decide (a2 < (a1.length : Int))) (cond (decide (((a1.getD a2.toNat 0).toNat : Int) < 48)) (abacistref07_digits_2 a1 a2 true) (cond (decide (0 ≤ a2) && decide (a2 < (a1.length : Int))) (abacistref07_digits_2 a1 a2 (decide (((a1.getD a2.toNat 0).toNat : Int) > 57))) none)) none) (some (!decide (a1 = ([] : TB9)))) := (top_stage ..).trans (by kernel_rfl)
theorem abacistref07_digits_2_eq (a1 : TB9) (a2 : Int) (a3 : Bool) : abacistref07_digits_2 a1 a2 a3 = cond a3 (some false) (abacistref07_digits_1 a1 (IntKind.i64.wrap (a2 + 1))) := (top_stage ..).trans (by kernel_rfl)
theorem abacistref03_Parse_eq (x0 : TB9) : abacistref03_Parse x0 = abacistref03_Parse_1 x0 0 := (top_call ..).trans (by kernel_rfl)
theorem abacistref03_Parse_1_eq (a1 : TB9) (a2 : Int) : abacistref03_Parse_1 a1 a2 = cond (decide (a2 < (a1.length : Int))) (cond (decide (0 ≤ a2) && decide (a2 < (a1.length : Int))) (cond (decide (((a1.getD a2.toNat 0).toNat : Int) < 48)) (abacistref03_Parse_2 a1 a2 true) (cond (decide (0 ≤ a2) && decide (a2 < (a1.length : Int))) (abacistref03_Parse_2 a1 a2 (decide (((a1.getD a2.toNat 0).toNat : Int) > 57))) none)) none) (cond (decide (a1 = ([] : TB9))) (some (([] : TB9), 3)) (cond (decide ((a1.length : Int) > 400)) (some (([] : TB9), 9)) (abacistref03_Parse_3 a1 ([] : TB9) 0))) := (top_stage ..).trans (by kernel_rfl)
theorem abacistref03_Parse_2_eq (a1 : TB9) (a2 : Int) (a3 : Bool) : abacistref03_Parse_2 a1 a2 a3 = cond a3 (some (([] : TB9), 3)) (abacistref03_Parse_1 a1 (IntKind.i64.wrap (a2 + 1))) := (top_stage ..).trans (by kernel_rfl)
theorem abacistref03_Parse_3_eq (a1 : TB9) (a2 : TB9) (a3 : Int) : abacistref03_Parse_3 a1 a2 a3 = cond (decide (a3 < (a1.length : Int))) ((abacistref01_Mul a2 ([10] : TB9)).bind fun v1 => cond (decide (0 ≤ a3) && decide (a3 < (a1.length : Int))) ((abacistref01_Of (IntKind.u64.wrap (IntKind.u8.wrap (((a1.getD a3.toNat 0).toNat : Int) - 48)))).bind fun v2 => (abacistref01_Add v1 v2).bind fun v3 => abacistref03_Parse_3 a1 v3 (IntKind.i64.wrap (a3 + 1))) none) (some (a2, 0)) := (top_stage ..).trans (by kernel_rfl)
theorem abacistref07_power_eq (x0 : TB9) (x1 : Int) : abacistref07_power x0 x1 = (abacistref02_Pow x0 x1).bind fun v1 => some v1.1 := (top_call ..).trans (by kernel_rfl)
theorem abacistref04_Floor_eq (x0 : Bool × TB9) (x1 : Bool × TB9) : abacistref04_Floor x0 x1 = (abacistref04_well x0).bind fun v1 => (abacistref04_well x1).bind fun v2 => (abacistref02_DivMod v1.2 v2.2).bind fun v3 => cond (!decide (v3.2.2 = 0)) (some ((false, []), (false, []), v3.2.2)) ((abacistref04_Make (!(v1.1 == v2.1)) v3.1).bind fun v4 => cond (!(v1.1 == v2.1)) (abacistref04_Floor_1 (!decide (v3.2.1 = ([] : TB9))) v1 v2 (false, []) (false, []) v4) (abacistref04_Floor_1 false v1 v2 (false, []) (false, []) v4)) := (top_call ..).trans (by kernel_rfl)
theorem abacistref04_Floor_1_eq (a1 : Bool) (a2 : Bool × TB9) (a3 : Bool × TB9) (a4 : Bool × TB9) (a5 : Bool × TB9) (a6 : Bool × TB9) : abacistref04_Floor_1 a1 a2 a3 a4 a5 a6 = cond a1 ((abacistref04_Of 1).bind fun v1 => (abacistref04_Sub a6 v1).bind fun v2 => abacistref04_Floor_2 a2 a3 a4 a5 v2) (abacistref04_Floor_2 a2 a3 a4 a5 a6) := (top_stage ..).trans (by kernel_rfl)
theorem abacistref04_Floor_2_eq (a1 : Bool × TB9) (a2 : Bool × TB9) (a3 : Bool × TB9) (a4 : Bool × TB9) (a5 : Bool × TB9) : abacistref04_Floor_2 a1 a2 a3 a4 a5 = (abacistref04_Mul a2 a5).bind fun v1 => (abacistref04_Sub a1 v1).bind fun v2 => some (a5, v2, 0) := (top_stage ..).trans (by kernel_rfl)
theorem internal_stringslite_HasPrefix_eq (x0 : TB9) (x1 : TB9) : internal_stringslite_HasPrefix x0 x1 = cond (decide ((x0.length : Int) ≥ (x1.length : Int))) (cond (decide (0 ≤ (x1.length : Int)) && decide ((x1.length : Int) ≤ (x0.length : Int))) (some (decide ((x0.take ((x1.length : Int).toNat)) = x1))) none) (some false) := (top_call ..).trans (by kernel_rfl)
theorem dec_odd_eq (x0 : TB9) : dec_odd x0 = dec_odd_1 (x0.map fun b => (b.toNat : Int)) ((x0.map fun b => (b.toNat : Int)).length : Int) 0 := (top_call ..).trans (by kernel_rfl)
theorem dec_odd_1_eq (a1 : List Int) (a2 : Int) (a3 : Int) : dec_odd_1 a1 a2 a3 = cond (decide (a3 < a2)) (cond (decide (0 ≤ a3) && decide (a3 < (a1.length : Int))) (cond (decide ((a1.getD a3.toNat 0) < 48)) (dec_odd_2 a1 a2 a3 true) (dec_odd_2 a1 a2 a3 (decide ((a1.getD a3.toNat 0) > 57)))) none) (some false) := (top_stage ..).trans (by kernel_rfl)
theorem dec_odd_2_eq (a1 : List Int) (a2 : Int) (a3 : Int) (a4 : Bool) : dec_odd_2 a1 a2 a3 a4 = cond a4 (some true) (dec_odd_1 a1 a2 (IntKind.i64.wrap (a3 + 1))) := (top_stage ..).trans (by kernel_rfl)
theorem abacistref04_Sub_eq (x0 : Bool × TB9) (x1 : Bool × TB9) : abacistref04_Sub x0 x1 = (abacistref04_Neg x1).bind fun v1 => (abacistref04_Add x0 v1).bind fun v2 => some v2 := (top_call ..).trans (by kernel_rfl)
theorem abacistref04_Neg_eq (x0 : Bool × TB9) : abacistref04_Neg x0 = (abacistref04_Make (!x0.1) x0.2).bind fun v1 => some v1 := (top_call ..).trans (by kernel_rfl)
theorem abacistref04_Add_eq (x0 : Bool × TB9) (x1 : Bool × TB9) : abacistref04_Add x0 x1 = (abacistref04_well x0).bind fun v1 => (abacistref04_well x1).bind fun v2 => cond (v1.1 == v2.1) ((abacistref01_Add v1.2 v2.2).bind fun v3 => (abacistref04_Make v1.1 v3).bind fun v4 => some v4) ((abacistref01_Cmp v1.2 v2.2).bind fun v5 => cond (decide (v5 ≥ 0)) ((abacistref01_Sub v1.2 v2.2).bind fun v6 => (abacistref04_Make v1.1 v6).bind fun v7 => some v7) ((abacistref01_Sub v2.2 v1.2).bind fun v8 => (abacistref04_Make v2.1 v8).bind fun v9 => some v9)) := (top_call ..).trans (by kernel_rfl)
theorem abacistref01_Sub_eq (x0 : TB9) (x1 : TB9) : abacistref01_Sub x0 x1 = (abacistref01_Cmp x0 x1).bind fun v1 => cond (decide (v1 < 0)) (some ([] : TB9)) (abacistref01_Sub_1 x0 x1 0 0 []) := (top_call ..).trans (by kernel_rfl)
theorem abacistref01_Sub_1_eq (a1 : TB9) (a2 : TB9) (a3 : Int) (a4 : Int) (a5 : List Int) : abacistref01_Sub_1 a1 a2 a3 a4 a5 = cond (decide (a4 < (a1.length : Int))) (abacistref01_Sub_2 a1 a2 a3 a4 true a5) (abacistref01_Sub_2 a1 a2 a3 a4 (decide (a4 < (a2.length : Int))) a5) := (top_stage ..).trans (by kernel_rfl)
theorem abacistref01_Sub_2_eq (a1 : TB9) (a2 : TB9) (a3 : Int) (a4 : Int) (a5 : Bool) (a6 : List Int) : abacistref01_Sub_2 a1 a2 a3 a4 a5 a6 = cond a5 ((abacistref01_at a1 a4).bind fun v1 => (abacistref01_at a2 a4).bind fun v2 => cond (decide ((IntKind.i64.wrap ((IntKind.i64.wrap (v1 - v2)) - a3)) < 0)) (abacistref01_Sub_3 a1 a2 1 a4 (IntKind.i64.wrap ((IntKind.i64.wrap ((IntKind.i64.wrap (v1 - v2)) - a3)) + 256)) a6) (abacistref01_Sub_3 a1 a2 0 a4 (IntKind.i64.wrap ((IntKind.i64.wrap (v1 - v2)) - a3)) a6)) ((abacistref01_turned a6).bind fun v3 => some v3) := (top_stage ..).trans (by kernel_rfl)
theorem abacistref01_Sub_3_eq (a1 : TB9) (a2 : TB9) (a3 : Int) (a4 : Int) (a5 : Int) (a6 : List Int) : abacistref01_Sub_3 a1 a2 a3 a4 a5 a6 = cond (Nat.ble ((a6.length + [a5].length) * 8) 140737488355328) (abacistref01_Sub_1 a1 a2 a3 (IntKind.i64.wrap (a4 + 1)) (a6 ++ [a5])) none := (top_stage ..).trans (by kernel_rfl)
theorem abacistref01_at_eq (x0 : TB9) (x1 : Int) : abacistref01_at x0 x1 = cond (decide (x1 ≥ (x0.length : Int))) (some 0) (cond (decide (0 ≤ (IntKind.i64.wrap ((IntKind.i64.wrap ((x0.length : Int) - 1)) - x1))) && decide ((IntKind.i64.wrap ((IntKind.i64.wrap ((x0.length : Int) - 1)) - x1)) < (x0.length : Int))) (some (IntKind.i64.wrap ((x0.getD ((IntKind.i64.wrap ((IntKind.i64.wrap ((x0.length : Int) - 1)) - x1)).toNat) 0).toNat : Int))) none) := (top_call ..).trans (by kernel_rfl)
theorem abacistref01_turned_eq (x0 : List Int) : abacistref01_turned x0 = cond (decide (0 ≤ (x0.length : Int)) && (decide ((x0.length : Int) ≤ (x0.length : Int)) && decide (((1 : Nat) : Int) * (x0.length : Int) ≤ 281474976710656))) (abacistref01_turned_1 x0 0 (List.replicate ((x0.length : Int).toNat) 0)) none := (top_call ..).trans (by kernel_rfl)
theorem abacistref01_turned_1_eq (a1 : List Int) (a2 : Int) (a3 : List Int) : abacistref01_turned_1 a1 a2 a3 = cond (decide (a2 < (a1.length : Int))) (cond (decide (0 ≤ a2) && decide (a2 < (a1.length : Int))) (cond (decide (0 ≤ (IntKind.i64.wrap ((IntKind.i64.wrap ((a1.length : Int) - 1)) - a2))) && decide ((IntKind.i64.wrap ((IntKind.i64.wrap ((a1.length : Int) - 1)) - a2)) < (a3.length : Int))) (abacistref01_turned_1 a1 (IntKind.i64.wrap (a2 + 1)) (a3.set ((IntKind.i64.wrap ((IntKind.i64.wrap ((a1.length : Int) - 1)) - a2)).toNat) (IntKind.u8.wrap (a1.getD a2.toNat 0)))) none) none) ((abacistref01_Trim (bytesOf a3)).bind fun v1 => some v1) := (top_stage ..).trans (by kernel_rfl)
end Go.Proofs.YtljapieoihecbaaGreatDoor.K
/- Decimal digits: plain Lean; the program's and the reference's. -/
set_option linter.unusedSimpArgs false
namespace Go.Proofs.YtljapieoihecbaaGreatDoor.P
open Go Go.Proofs.YtljapieoihecbaaGreatDoor.Q
def dv (l : List UInt8) : Nat := l.foldl (fun n c => n * 10 + (c.toNat - 48)) 0
theorem dv_nil : dv [] = 0 := rfl
theorem dv_snoc (l : List UInt8) (c : UInt8) : dv (l ++ [c]) = dv l * 10 + (c.toNat - 48) := by unfold dv; rw [List.foldl_append]; rfl
theorem snocU {Q : List UInt8 → Prop} (h0 : Q []) (h1 : ∀ l b, Q l → Q (l ++ [b])) : ∀ l, Q l := by
  intro l
  have : Q l.reverse.reverse := by
    induction l.reverse with
    | nil => exact h0
    | cons b l ih => rw [List.reverse_cons]; exact h1 _ _ ih
  rwa [List.reverse_reverse] at this
theorem dv_append (a : List UInt8) : ∀ b, dv (a ++ b) = dv a * 10 ^ b.length + dv b := by
  refine snocU ?_ ?_
  · simp [dv_nil]
  · intro l c ih
    rw [← List.append_assoc, dv_snoc, ih, dv_snoc, List.length_append, List.length_cons, List.length_nil, Nat.pow_succ]
    generalize 10 ^ l.length = X
    rw [Nat.add_mul, Nat.mul_assoc]; omega
theorem dv_cons (c : UInt8) (l : List UInt8) : dv (c :: l) = (c.toNat - 48) * 10 ^ l.length + dv l := by
  have := dv_append [c] l
  simpa [dv] using this
def dig (c : UInt8) : Bool := decide (48 ≤ c.toNat) && decide (c.toNat ≤ 57)
def good (l : List UInt8) : Bool := l.all dig
theorem dig_le {c : UInt8} (h : dig c = true) : 48 ≤ c.toNat ∧ c.toNat ≤ 57 := by
  unfold dig at h
  simpa using h
theorem dv_lt (l : List UInt8) (h : good l = true) : dv l < 10 ^ l.length := by
  revert h
  refine snocU (Q := fun l => good l = true → dv l < 10 ^ l.length) ?_ ?_ l
  · intro _; simp [dv_nil]
  · intro l c ih h
    have h1 : good l = true ∧ dig c = true := by simpa [good] using h
    have h2 := ih h1.1
    have h3 := dig_le h1.2
    rw [dv_snoc, List.length_append, List.length_cons, List.length_nil, Nat.pow_succ]
    omega
def ten (n : Nat) : List UInt8 := if h : n = 0 then [] else ten (n / 10) ++ [UInt8.ofNat (48 + n % 10)]
termination_by n
decreasing_by omega
theorem ten_zero : ten 0 = [] := by rw [ten]; simp
theorem ten_pos {n : Nat} (h : n ≠ 0) : ten n = ten (n / 10) ++ [UInt8.ofNat (48 + n % 10)] := by rw [ten]; simp [h]
theorem ten_nil {n : Nat} : ten n = [] ↔ n = 0 := by
  constructor
  · intro h
    rcases Nat.eq_zero_or_pos n with h0 | h0
    · exact h0
    · rw [ten_pos (by omega)] at h
      simp at h
  · rintro rfl; exact ten_zero
theorem byte48 (n : Nat) : (UInt8.ofNat (48 + n % 10)).toNat = 48 + n % 10 := UInt8.toNat_ofNat_of_lt' (by show _ < 256; omega)
theorem byte_back {c : UInt8} (h : dig c = true) : UInt8.ofNat (48 + (c.toNat - 48) % 10) = c := by
  have := dig_le h
  apply UInt8.toNat_inj.1
  rw [byte48]
  omega
theorem trim_snoc (l : List UInt8) (c : UInt8) : Lib.trimLeftB (l ++ [c]) 48 = if Lib.trimLeftB l 48 = [] then (if c = 48 then [] else [c]) else Lib.trimLeftB l 48 ++ [c] := by
  unfold Lib.trimLeftB
  induction l with
  | nil => by_cases h : c = 48 <;> simp [List.dropWhile_cons, h]
  | cons a l ih =>
    simp only [List.cons_append, List.dropWhile_cons]
    split
    · exact ih
    · simp
theorem trim_ten (l : List UInt8) (h : good l = true) : Lib.trimLeftB l 48 = ten (dv l) := by
  revert h
  refine snocU (Q := fun l => good l = true → Lib.trimLeftB l 48 = ten (dv l)) ?_ ?_ l
  · intro _; rw [dv_nil, ten_zero]; rfl
  · intro l c ih h
    have h1 : good l = true ∧ dig c = true := by simpa [good] using h
    have h2 := ih h1.1
    have h3 := dig_le h1.2
    have h4 := byte_back h1.2
    rw [trim_snoc, h2, dv_snoc]
    by_cases hz : dv l = 0
    · rw [hz, ten_zero, if_pos rfl]
      by_cases hc : c = 48
      · subst hc; rw [if_pos rfl]; exact ten_zero.symm
      · have hc2 : c.toNat ≠ 48 := fun e => hc (UInt8.toNat_inj.1 e)
        rw [if_neg hc, ten_pos (by omega), show (0 * 10 + (c.toNat - 48)) / 10 = 0 by omega, ten_zero, show (0 * 10 + (c.toNat - 48)) % 10 = (c.toNat - 48) % 10 by omega, h4]; rfl
    · rw [if_neg (fun e => hz (ten_nil.1 e)), ten_pos (n := dv l * 10 + (c.toNat - 48)) (by omega), show (dv l * 10 + (c.toNat - 48)) / 10 = dv l by omega, show (dv l * 10 + (c.toNat - 48)) % 10 = (c.toNat - 48) % 10 by omega, h4]
theorem dig48 (n : Nat) : dig (UInt8.ofNat (48 + n % 10)) = true := by
  unfold dig
  rw [byte48]
  simp; omega
def decT (n : Nat) : List UInt8 := if n = 0 then [48] else ten n
theorem ten_good (n : Nat) : good (ten n) = true := by
  induction n using Nat.strongRecOn with
  | _ n ih =>
    by_cases h : n = 0
    · subst h; rw [ten_zero]; rfl
    · have := ih (n / 10) (by omega)
      unfold good at *
      rw [ten_pos h, List.all_append, this]; simp only [List.all_cons, List.all_nil, dig48, Bool.and_true]
theorem ten_dv (n : Nat) : dv (ten n) = n := by
  induction n using Nat.strongRecOn with
  | _ n ih =>
    by_cases h : n = 0
    · subst h; rw [ten_zero]; rfl
    · rw [ten_pos h, dv_snoc, ih (n / 10) (by omega), byte48]; omega
theorem ten_len {k : Nat} : ∀ {n : Nat}, n < 10 ^ k → (ten n).length ≤ k := by
  induction k with
  | zero => intro n h; have : n = 0 := by simpa using h
            subst this; rw [ten_zero]; exact Nat.le_refl _
  | succ k ih =>
    intro n h
    by_cases h0 : n = 0
    · subst h0; rw [ten_zero]; exact Nat.zero_le _
    · have := ih (n := n / 10) (by rw [Nat.pow_succ] at h; omega)
      rw [ten_pos h0, List.length_append]; simp; omega
theorem decT_good (n : Nat) : good (decT n) = true := by
  unfold decT
  split
  · rfl
  · exact ten_good n
theorem decT_dv (n : Nat) : dv (decT n) = n := by
  unfold decT
  split
  · rename_i h; subst h; rfl
  · exact ten_dv n
theorem decT_ne (n : Nat) : decT n ≠ [] := by
  unfold decT
  split
  · simp
  · rename_i h; exact fun e => h (ten_nil.1 e)
theorem decT_len {k n : Nat} (h : n < 10 ^ k) (hk : 1 ≤ k) : (decT n).length ≤ k := by
  unfold decT
  split
  · exact hk
  · exact ten_len h
theorem decT_len2 {a b n : Nat} (h : n < 10 ^ a * 10 ^ b) (hk : 1 ≤ a + b) : (decT n).length ≤ a + b := decT_len (by rw [Nat.pow_add]; exact h) hk
theorem decT_150 {n : Nat} (h : n < 256 ^ 75 * 256 ^ 75) : (decT n).length ≤ 400 := by
  have h1 : (256 : Nat) ^ 75 ≤ 10 ^ 200 := Nat.le_of_ble_eq_true rfl
  exact decT_len2 (a := 200) (b := 200) (Nat.lt_of_lt_of_le h (Nat.mul_le_mul h1 h1)) (by omega)
theorem nat_ten_len {n k : Nat} (h : n < 10 ^ k) : (nat n).length ≤ k := nat_length_le (Nat.lt_of_lt_of_le h (Nat.pow_le_pow_left (by decide) k))
end Go.Proofs.YtljapieoihecbaaGreatDoor.P
namespace Go.Proofs.YtljapieoihecbaaGreatDoor.D
open Go Go.Proofs.YtljapieoihecbaaGreatDoor.K
open Go.Proofs.YtljapieoihecbaaGreatDoor.P (nat val dv good dig dig_le ten ten_zero ten_pos ten_nil ten_len ten_good ten_dv decT decT_good decT_dv decT_ne decT_len decT_150 trim_ten dv_nil dv_snoc dv_append dv_cons dv_lt divmod small val_nat nat_zero nat_eq_nil nat_val_length nat_length_le len_mono val_lt wS nat_ten_len val_one)
open Go.Proofs.YtljapieoihecbaaGreatDoor.Q (trimQ ofQ smallQ addQ mulQ divQ ok1)
theorem ok_le {s : List UInt8} (h : s.length ≤ 1000000000) : ok1 s = true := Nat.ble_eq_true_of_le h
theorem xTrim (s : List UInt8) (h : s.length ≤ 1000000000) : nat_Trim s = some (nat (val s)) := by
  refine (top_call ..).trans ?_
  show trimQ s = _
  unfold trimQ
  rw [ok_le h, cond_true, P.trimB]
theorem yTrim (s : List UInt8) (h : s.length ≤ 1000000000) : abacistref01_Trim s = some (nat (val s)) := by
  refine (top_call ..).trans ?_
  show trimQ s = _
  unfold trimQ
  rw [ok_le h, cond_true, P.trimB]
theorem ofQ_eq (n : Nat) (h : n < 18446744073709551616) : ofQ (n : Int) = some (nat n) := by
  unfold ofQ
  rw [show (decide ((0 : Int) ≤ (n : Int)) && decide ((n : Int) < 18446744073709551616)) = true by simp; omega, cond_true, Int.toNat_natCast]
theorem xOf (n : Nat) (h : n < 18446744073709551616) : nat_Of (n : Int) = some (nat n) := (top_call ..).trans (ofQ_eq n h)
theorem yOf (n : Nat) (h : n < 18446744073709551616) : abacistref01_Of (n : Int) = some (nat n) := (top_call ..).trans (ofQ_eq n h)
theorem ok2 {a b : List UInt8} (ha : a.length ≤ 1000000000) (hb : b.length ≤ 1000000000) : (ok1 a && ok1 b) = true := by rw [ok_le ha, ok_le hb]; rfl
theorem addQ_eq (a b : List UInt8) (ha : a.length ≤ 1000000000) (hb : b.length ≤ 1000000000) : addQ (a, b) = some (nat (val a + val b)) := by
  unfold addQ
  simp only
  rw [ok2 ha hb, cond_true]
theorem mulQ_eq (a b : List UInt8) (ha : a.length ≤ 1000000000) (hb : b.length ≤ 1000000000) : mulQ (a, b) = some (nat (val a * val b)) := by
  unfold mulQ
  simp only
  rw [ok2 ha hb, cond_true]
theorem divQ_eq (a b : List UInt8) (ha : a.length ≤ 1000000000) (hb : b.length ≤ 1000000000) : divQ (a, b) = some (divmod (val a) (val b)) := by
  unfold divQ
  simp only
  rw [ok2 ha hb, cond_true]
theorem xAdd (a b : List UInt8) (ha : a.length ≤ 1000000000) (hb : b.length ≤ 1000000000) : nat_Add a b = some (nat (val a + val b)) := (top_call ..).trans (addQ_eq a b ha hb)
theorem yAdd (a b : List UInt8) (ha : a.length ≤ 1000000000) (hb : b.length ≤ 1000000000) : abacistref01_Add a b = some (nat (val a + val b)) := (top_call ..).trans (addQ_eq a b ha hb)
theorem xMul (a b : List UInt8) (ha : a.length ≤ 1000000000) (hb : b.length ≤ 1000000000) : nat_Mul a b = some (nat (val a * val b)) := (top_call ..).trans (mulQ_eq a b ha hb)
theorem yMul (a b : List UInt8) (ha : a.length ≤ 1000000000) (hb : b.length ≤ 1000000000) : abacistref01_Mul a b = some (nat (val a * val b)) := (top_call ..).trans (mulQ_eq a b ha hb)
theorem xDiv (a b : List UInt8) (ha : a.length ≤ 1000000000) (hb : b.length ≤ 1000000000) : divide_DivMod a b = some (divmod (val a) (val b)) := (top_call ..).trans (divQ_eq a b ha hb)
theorem yDiv (a b : List UInt8) (ha : a.length ≤ 1000000000) (hb : b.length ≤ 1000000000) : abacistref02_DivMod a b = some (divmod (val a) (val b)) := (top_call ..).trans (divQ_eq a b ha hb)
theorem ySmall (s : List UInt8) (h : s.length ≤ 1000000000) : abacistref01_Small s = some (small (val s)) := by
  refine (top_call ..).trans ?_
  show smallQ s = _
  unfold smallQ
  rw [ok_le h, cond_true]
theorem val10 : val [10] = 10 := rfl
def ordB (b m : Nat) : Nat := if h : m = 0 ∨ b < 2 then 0 else if m % b = 0 then ordB b (m / b) + 1 else 0
termination_by m
decreasing_by exact Nat.div_lt_self (by omega) (by omega)
def parseV (s : List UInt8) : List UInt8 × Int := if s = [] ∨ good s = false then ([], 3) else if s.length > 400 then ([], 9) else (nat (dv s), 0)
theorem good_get {s : List UInt8} {i : Nat} (h : i < s.length) : s[i] = s.getD i 0 := by
  rw [List.getD_eq_getElem?_getD, List.getElem?_eq_getElem h]; rfl
theorem good_drop {s : List UInt8} {i : Nat} (h : i < s.length) : good (s.drop i) = (dig (s.getD i 0) && good (s.drop (i + 1))) := by
  rw [List.drop_eq_getElem_cons h, good_get h]; rfl
theorem xOdd1 (s : List UInt8) (hs : s.length ≤ 9223372036854775807) : ∀ (m i : Nat), i + m = s.length → dec_odd_1 (s.map fun b => (b.toNat : Int)) ((s.map fun b => (b.toNat : Int)).length : Int) (i : Int) = some (!good (s.drop i))
  | 0, i, h => by
    rw [dec_odd_1_eq, cF (decide_eq_false (by rw [List.length_map]; omega)), List.drop_of_length_le (by omega)]; rfl
  | m + 1, i, h => by
    have hi : i < s.length := by omega
    have hg : (s.map fun b => (b.toNat : Int)).getD (i : Int).toNat 0 = ((s.getD i 0).toNat : Int) := by simp [List.getD, hi]
    have next : dec_odd_2 (s.map fun b => (b.toNat : Int)) ((s.map fun b => (b.toNat : Int)).length : Int) (i : Int) false = some (!good (s.drop (i + 1))) := by
      rw [dec_odd_2_eq, cond_false, wS (by omega)]; exact xOdd1 s hs m (i + 1) (by omega)
    have stop : dec_odd_2 (s.map fun b => (b.toNat : Int)) ((s.map fun b => (b.toNat : Int)).length : Int) (i : Int) true = some true := by rw [dec_odd_2_eq, cond_true]
    rw [dec_odd_1_eq, cT (decide_eq_true (by rw [List.length_map]; omega)), cT (by rw [List.length_map]; exact ix hi), hg, good_drop hi]
    generalize s.getD i 0 = c
    by_cases h1 : c.toNat < 48
    · rw [cT (decide_eq_true (by omega)), stop, show dig c = false by unfold dig; simp; omega]; rfl
    · rw [cF (decide_eq_false (by omega))]
      by_cases h2 : c.toNat > 57
      · rw [decide_eq_true (show (c.toNat : Int) > 57 by omega), stop, show dig c = false by unfold dig; simp; omega]; rfl
      · rw [decide_eq_false (show ¬ (c.toNat : Int) > 57 by omega), next, show dig c = true by unfold dig; simp; omega]; rfl
theorem xOdd (s : List UInt8) (hs : s.length ≤ 9223372036854775807) : dec_odd s = some (!good s) := (dec_odd_eq s).trans (xOdd1 s hs s.length 0 (Nat.zero_add _))
theorem dig_get {s : List UInt8} (h : good s = true) {i : Nat} (hi : i < s.length) : dig (s.getD i 0) = true := by
  rw [← good_get hi]
  exact List.all_eq_true.1 h _ (List.getElem_mem hi)
theorem dv_take {s : List UInt8} {i : Nat} (h : i < s.length) : dv (s.take (i + 1)) = dv (s.take i) * 10 + ((s.getD i 0).toNat - 48) := by
  rw [List.take_add_one, List.getElem?_eq_getElem h, good_get h]
  simp only [Option.toList_some, dv_snoc]
theorem good_take {s : List UInt8} (h : good s = true) (i : Nat) : good (s.take i) = true := List.all_eq_true.2 fun x hx => List.all_eq_true.1 h x (List.mem_of_mem_take hx)
theorem good_dropT {s : List UInt8} (h : good s = true) (i : Nat) : good (s.drop i) = true := List.all_eq_true.2 fun x hx => List.all_eq_true.1 h x (List.mem_of_mem_drop hx)
theorem xParse3 (s : List UInt8) (A : Nat) (c : List UInt8) (hc : good c = true) (hcl : c.length ≤ 9) (hA : (nat A).length ≤ 100000) (k : Nat) (hk : k ≤ s.length) : ∀ (m i : Nat), i + m = c.length →
    dec_Parse_3 s (nat A) (k : Int) ((dv (c.take i) : Nat) : Int) ((10 ^ i : Nat) : Int) (c.map fun b => (b.toNat : Int)) (c.length : Int) (i : Int) = dec_Parse_2 (s.drop k) (nat (A * 10 ^ c.length + dv c))
  | 0, i, h => by
    obtain rfl : i = c.length := by omega
    have hp : 10 ^ c.length ≤ 10 ^ 9 := Nat.pow_le_pow_right (by decide) hcl
    have hd := dv_lt c hc
    have lp : (nat (10 ^ c.length)).length ≤ 4 := nat_length_le (by omega)
    have ld : (nat (dv c)).length ≤ 4 := nat_length_le (by omega)
    have lm : (nat (A * 10 ^ c.length)).length ≤ 1000000 := by
      have h1 := val_lt (nat A)
      have h2 := val_lt (nat (10 ^ c.length))
      rw [val_nat] at h1 h2
      have : A * 10 ^ c.length < 256 ^ ((nat A).length + (nat (10 ^ c.length)).length) := by rw [Nat.pow_add]; exact Nat.mul_lt_mul'' h1 h2
      exact Nat.le_trans (nat_length_le this) (by omega)
    rw [dec_Parse_3_eq, cF (decide_eq_false (by omega)), xOf _ (by omega), Option.bind_some, xMul _ _ (by omega) (by omega), Option.bind_some, List.take_length, xOf _ (by omega), Option.bind_some, val_nat, val_nat, xAdd _ _ (by omega) (by omega), Option.bind_some, val_nat, val_nat,
      cT (P.inC hk), Int.toNat_natCast]
  | m + 1, i, h => by
    have hi : i < c.length := by omega
    have hg : (c.map fun b => (b.toNat : Int)).getD (i : Int).toNat 0 = ((c.getD i 0).toNat : Int) := by simp [List.getD, hi]
    have hd := dig_le (dig_get hc hi)
    have hv := dv_lt (c.take i) (good_take hc i)
    have hp : 10 ^ (c.take i).length ≤ 10 ^ 8 := Nat.pow_le_pow_right (by decide) (by simp; omega)
    have hp2 : 10 ^ i ≤ 10 ^ 8 := Nat.pow_le_pow_right (by decide) (by omega)
    have e := dv_take hi
    have := xParse3 s A c hc hcl hA k hk m (i + 1) (by omega)
    rw [dec_Parse_3_eq, cT (decide_eq_true (by omega)), cT (by rw [List.length_map]; exact ix hi), hg]
    generalize c.getD i 0 = ch at hd e
    have e1 : IntKind.u64.wrap (IntKind.u64.wrap (((dv (c.take i) : Nat) : Int) * 10) + IntKind.u64.wrap (IntKind.u8.wrap ((ch.toNat : Int) - 48))) = ((dv (c.take (i + 1)) : Nat) : Int) := by
      rw [e]
      generalize dv (c.take i) = V at hv
      rw [wrapU8 (by omega) (by omega), wrapU64 (n := (V : Int) * 10) (by omega) (by omega), wrapU64 (n := (ch.toNat : Int) - 48) (by omega) (by omega), wrapU64 (by omega) (by omega)]
      omega
    have e2 : IntKind.u64.wrap (((10 ^ i : Nat) : Int) * 10) = ((10 ^ (i + 1) : Nat) : Int) := by
      rw [Nat.pow_succ]
      generalize 10 ^ i = X at hp2
      rw [wrapU64 (by omega) (by omega)]; omega
    rw [e1, e2, wS (by omega)]
    exact this
theorem xParse2 : ∀ (f : Nat) (s : List UInt8) (A j : Nat), s.length ≤ f → good s = true → A < 10 ^ j → j + s.length ≤ 400 → dec_Parse_2 s (nat A) = some (nat (A * 10 ^ s.length + dv s), 0)
  | f, s, A, j, hf, hg, hA, hj => by
    by_cases h0 : s.length = 0
    · obtain rfl : s = [] := List.eq_nil_of_length_eq_zero h0
      rw [dec_Parse_2_eq, cF (decide_eq_false (by simp)), dv_nil]; simp
    · match f with
      | 0 => omega
      | f + 1 =>
        have lA := nat_ten_len hA
        have hk : min (9 : Int) (s.length : Int) = ((min 9 s.length : Nat) : Int) := by omega
        have hkl : min 9 s.length ≤ s.length := by omega
        have hcl : (s.take (min 9 s.length)).length = min 9 s.length := by simp
        have h3 := xParse3 s A (s.take (min 9 s.length)) (good_take hg _) (by omega) (by omega) (min 9 s.length) hkl _ 0 (Nat.zero_add _)
        have h3' : dec_Parse_3 s (nat A) ((min 9 s.length : Nat) : Int) 0 1 ((s.take (min 9 s.length)).map fun b => (b.toNat : Int)) ((s.take (min 9 s.length)).length : Int) 0 = _ := h3
        have hsplit : dv s = dv (s.take (min 9 s.length)) * 10 ^ (s.drop (min 9 s.length)).length + dv (s.drop (min 9 s.length)) := by rw [← dv_append, List.take_append_drop]
        have hdl := dv_lt (s.take (min 9 s.length)) (good_take hg _)
        rw [hcl] at hdl
        have hA2 : A * 10 ^ (min 9 s.length) + dv (s.take (min 9 s.length)) < 10 ^ (j + min 9 s.length) := by
          rw [Nat.pow_add]
          have : (A + 1) * 10 ^ (min 9 s.length) ≤ 10 ^ j * 10 ^ (min 9 s.length) := Nat.mul_le_mul_right _ hA
          rw [Nat.succ_mul] at this
          omega
        have hlen : s.length = min 9 s.length + (s.drop (min 9 s.length)).length := by simp; omega
        have hpow : 10 ^ s.length = 10 ^ (min 9 s.length) * 10 ^ (s.drop (min 9 s.length)).length := by rw [← Nat.pow_add, ← hlen]
        rw [dec_Parse_2_eq, cT (decide_eq_true (by omega)), hk, cT (P.inC hkl), Int.toNat_natCast, List.length_map, h3', hcl,
          xParse2 f (s.drop (min 9 s.length)) _ (j + min 9 s.length) (by simp; omega) (good_dropT hg _) hA2 (by omega), hsplit, hpow]
        generalize 10 ^ (min 9 s.length) = X
        generalize 10 ^ (s.drop (min 9 s.length)).length = Y
        rw [Nat.add_mul, Nat.mul_assoc, Nat.add_assoc]
theorem xParse (s : List UInt8) (hs : s.length ≤ 9223372036854775807) : dec_Parse s = some (parseV s) := by
  rw [dec_Parse_eq, parseV]
  by_cases h0 : s = []
  · subst h0; rw [cT (by rfl), dec_Parse_1_eq, cond_true, if_pos (.inl rfl)]
  · rw [cF (decide_eq_false h0), xOdd s hs, Option.bind_some, dec_Parse_1_eq]
    by_cases hg : good s = true
    · rw [hg, show (!true) = false from rfl, cond_false, if_neg (by simp [h0])]
      by_cases hl : s.length > 400
      · rw [cT (decide_eq_true (by omega)), if_pos hl]
      · have := xParse2 s.length s 0 0 (Nat.le_refl _) hg (by simp) (by omega)
        rw [nat_zero, Nat.zero_mul, Nat.zero_add] at this
        rw [cF (decide_eq_false (by omega)), if_neg hl, this]
    · have hg : good s = false := by simpa using hg
      rw [hg, show (!false) = true from rfl, cond_true, if_pos (.inr rfl)]
theorem yParse3 (s : List UInt8) (hg : good s = true) (hl : s.length ≤ 400) : ∀ (m i : Nat), i + m = s.length → abacistref03_Parse_3 s (nat (dv (s.take i))) (i : Int) = some (nat (dv s), 0)
  | 0, i, h => by
    obtain rfl : i = s.length := by omega
    rw [abacistref03_Parse_3_eq, cF (decide_eq_false (by omega)), List.take_length]
  | m + 1, i, h => by
    have hi : i < s.length := by omega
    have hd := dig_le (dig_get hg hi)
    have hv := dv_lt (s.take i) (good_take hg i)
    have lA := nat_ten_len hv
    have e := dv_take hi
    have := yParse3 s hg hl m (i + 1) (by omega)
    have l1 : (s.take i).length ≤ 400 := by simp; omega
    have lm : (nat (dv (s.take i) * 10)).length ≤ 1000 := by
      have : dv (s.take i) * 10 < 10 ^ ((s.take i).length + 1) := by rw [Nat.pow_succ]; omega
      exact Nat.le_trans (nat_ten_len this) (by omega)
    rw [abacistref03_Parse_3_eq, cT (decide_eq_true (by omega)), yMul _ _ (by omega) (by simp), Option.bind_some, val10, val_nat, cT (ix hi), Int.toNat_natCast]
    generalize s.getD i 0 = ch at hd e
    have e1 : IntKind.u64.wrap (IntKind.u8.wrap ((ch.toNat : Int) - 48)) = ((ch.toNat - 48 : Nat) : Int) := by
      rw [wrapU8 (by omega) (by omega), wrapU64 (by omega) (by omega)]; omega
    have lc : (nat (ch.toNat - 48)).length ≤ 1 := nat_length_le (by omega)
    rw [e1, yOf _ (by omega), Option.bind_some, yAdd _ _ (by omega) (by omega), Option.bind_some, val_nat, val_nat, ← e, wS (by omega)]
    exact this
theorem yParse1 (s : List UInt8) (hs : s.length ≤ 9223372036854775807) : ∀ (m i : Nat), i + m = s.length → good (s.take i) = true → abacistref03_Parse_1 s (i : Int) = some (parseV s)
  | 0, i, h, hgt => by
    have hg : good s = true := by rwa [List.take_of_length_le (by omega)] at hgt
    rw [abacistref03_Parse_1_eq, cF (decide_eq_false (by omega)), parseV]
    by_cases h0 : s = []
    · rw [cT (decide_eq_true h0), if_pos (.inl h0)]
    · rw [cF (decide_eq_false h0), if_neg (by simp [h0, hg])]
      by_cases hl : s.length > 400
      · rw [cT (decide_eq_true (by omega)), if_pos hl]
      · rw [cF (decide_eq_false (by omega)), if_neg hl]
        have := yParse3 s hg (by omega) s.length 0 (Nat.zero_add _)
        rw [List.take_zero, dv_nil, nat_zero] at this
        exact this
  | m + 1, i, h, hgt => by
    have hi : i < s.length := by omega
    have stop : dig (s.getD i 0) = false → abacistref03_Parse_2 s (i : Int) true = some (parseV s) := fun hb => by
      have hg : good s = false := by
        cases hgs : good s with
        | false => rfl
        | true => rw [dig_get hgs hi] at hb; cases hb
      rw [abacistref03_Parse_2_eq, cond_true, parseV, if_pos (.inr hg)]
    have next : dig (s.getD i 0) = true → abacistref03_Parse_2 s (i : Int) false = some (parseV s) := fun hb => by
      rw [abacistref03_Parse_2_eq, cond_false, wS (by omega)]
      refine yParse1 s hs m (i + 1) (by omega) ?_
      rw [List.take_add_one, List.getElem?_eq_getElem hi, good_get hi]
      unfold good at *
      rw [List.all_append, hgt]
      simpa using hb
    rw [abacistref03_Parse_1_eq, cT (decide_eq_true (by omega)), cT (ix hi), cT (ix hi), Int.toNat_natCast]
    generalize s.getD i 0 = c at stop next
    by_cases h1 : c.toNat < 48
    · rw [cT (decide_eq_true (by omega)), stop (by unfold dig; simp; omega)]
    · rw [cF (decide_eq_false (by omega))]
      by_cases h2 : c.toNat > 57
      · rw [decide_eq_true (show (c.toNat : Int) > 57 by omega), stop (by unfold dig; simp; omega)]
      · rw [decide_eq_false (show ¬ (c.toNat : Int) > 57 by omega), next (by unfold dig; simp; omega)]
theorem yParse (s : List UInt8) (hs : s.length ≤ 9223372036854775807) : abacistref03_Parse s = some (parseV s) := (abacistref03_Parse_eq s).trans (yParse1 s hs s.length 0 (Nat.zero_add _) (by rw [List.take_zero]; rfl))
end Go.Proofs.YtljapieoihecbaaGreatDoor.D
/- Whole numbers and fractions: plain Lean; the program's and the reference's. -/
namespace Go.Proofs.YtljapieoihecbaaGreatDoor.D
open Go Go.Proofs.YtljapieoihecbaaGreatDoor.K
open Go.Proofs.YtljapieoihecbaaGreatDoor.P (nat val divmod small val_nat nat_zero nat_eq_nil nat_val_length nat_length_le len_mono val_lt nat_inj sgnv powR powV blen blen_bounds blen_zero nat_one)
open Go.Proofs.YtljapieoihecbaaGreatDoor.Q (ok1 ok3 cmpQ gcdQ powQ bitsQ)
abbrev Wh := Bool × List UInt8
abbrev Rt := Bool × List UInt8 × List UInt8
theorem ok3_of {s : List UInt8} (h : s.length ≤ 1000) : ok3 s = true := Nat.ble_eq_true_of_le h
theorem cmpQ_eq (a b : List UInt8) (ha : a.length ≤ 1000000000) (hb : b.length ≤ 1000000000) : cmpQ (a, b) = some (sgnv (val a) (val b)) := by
  unfold cmpQ
  simp only
  rw [ok2 ha hb, cond_true]
theorem xCmp (a b : List UInt8) (ha : a.length ≤ 1000000000) (hb : b.length ≤ 1000000000) : nat_Cmp a b = some (sgnv (val a) (val b)) := (top_call ..).trans (cmpQ_eq a b ha hb)
theorem yCmp (a b : List UInt8) (ha : a.length ≤ 1000000000) (hb : b.length ≤ 1000000000) : abacistref01_Cmp a b = some (sgnv (val a) (val b)) := (top_call ..).trans (cmpQ_eq a b ha hb)
theorem gcdQ_eq (a b : List UInt8) (ha : a.length ≤ 1000) (hb : b.length ≤ 1000) : gcdQ (a, b) = some (nat (Nat.gcd (val a) (val b))) := by
  unfold gcdQ
  simp only
  rw [ok3_of ha, ok3_of hb]; rfl
theorem xGcd (a b : List UInt8) (ha : a.length ≤ 1000) (hb : b.length ≤ 1000) : divide_Gcd a b = some (nat (Nat.gcd (val a) (val b))) := (top_call ..).trans (gcdQ_eq a b ha hb)
theorem yGcd (a b : List UInt8) (ha : a.length ≤ 1000) (hb : b.length ≤ 1000) : abacistref02_Gcd a b = some (nat (Nat.gcd (val a) (val b))) := (top_call ..).trans (gcdQ_eq a b ha hb)
theorem powQ_eq (a : List UInt8) (n : Int) (ha : a.length ≤ 1000) (hn : n ≤ 9000) : powQ (a, n) = some (powR (val a) n) := by
  unfold powQ
  simp only
  rw [ok3_of ha, decide_eq_true hn]; rfl
theorem xPow (a : List UInt8) (n : Int) (ha : a.length ≤ 1000) (hn : n ≤ 9000) : divide_Pow a n = some (powR (val a) n) := (top_call ..).trans (powQ_eq a n ha hn)
theorem yPow (a : List UInt8) (n : Int) (ha : a.length ≤ 1000) (hn : n ≤ 9000) : abacistref02_Pow a n = some (powR (val a) n) := (top_call ..).trans (powQ_eq a n ha hn)
theorem yBits (a : List UInt8) (ha : a.length ≤ 1000000000) : abacistref01_Bits a = some ((blen (val a) : Nat) : Int) := by
  refine (top_call ..).trans ?_
  show bitsQ a = _
  unfold bitsQ
  rw [ok_le ha, cond_true]
theorem nilD (n : Nat) : decide (nat n = []) = decide (n = 0) := decide_eq_decide.2 nat_eq_nil
def mkW (s : Bool) (n : Nat) : Wh := (s && !decide (n = 0), nat n)
def wv (x : Wh) : Int := if x.1 then -(val x.2 : Int) else (val x.2 : Int)
def icmp (x y : Int) : Int := if x < y then -1 else if x = y then 0 else 1
theorem xWMake (s : Bool) (m : List UInt8) (h : m.length ≤ 1000000000) : whole_Make s m = some (mkW s (val m)) := by
  rw [whole_Make_eq, xTrim m h, Option.bind_some, mkW, nilD]
  cases s <;> rfl
theorem yWMake (s : Bool) (m : List UInt8) (h : m.length ≤ 1000000000) : abacistref04_Make s m = some (mkW s (val m)) := by
  rw [abacistref04_Make_eq, yTrim m h, Option.bind_some, mkW, nilD]
  cases s <;> rfl
theorem xWWell (x : Wh) (h : x.2.length ≤ 1000000000) : whole_well x = some (mkW x.1 (val x.2)) := by rw [whole_well_eq, xWMake _ _ h]; rfl
theorem yWWell (x : Wh) (h : x.2.length ≤ 1000000000) : abacistref04_well x = some (mkW x.1 (val x.2)) := by rw [abacistref04_well_eq, yWMake _ _ h]; rfl
theorem mul_len (a b : List UInt8) : (nat (val a * val b)).length ≤ a.length + b.length := by
  have h1 := val_lt a
  have h2 := val_lt b
  exact nat_length_le (by rw [Nat.pow_add]; exact Nat.mul_lt_mul'' h1 h2)
theorem xWMul (x y : Wh) (hx : x.2.length ≤ 100000) (hy : y.2.length ≤ 100000) : whole_Mul x y = some (mkW (!(x.1 == y.1)) (val x.2 * val y.2)) := by
  have := mul_len x.2 y.2
  rw [whole_Mul_eq, xMul _ _ (by omega) (by omega), Option.bind_some, xWMake _ _ (by omega), val_nat]; rfl
theorem yWMul (x y : Wh) (hx : x.2.length ≤ 100000) (hy : y.2.length ≤ 100000) : abacistref04_Mul x y = some (mkW (!(mkW x.1 (val x.2)).1 == (mkW y.1 (val y.2)).1) (val x.2 * val y.2)) := by
  have h1 := nat_val_length x.2
  have h2 := nat_val_length y.2
  have h3 := mul_len x.2 y.2
  rw [abacistref04_Mul_eq, yWWell _ (by omega), Option.bind_some, yWWell _ (by omega), Option.bind_some]
  show (abacistref01_Mul (nat (val x.2)) (nat (val y.2))).bind _ = _
  rw [yMul _ _ (by omega) (by omega), Option.bind_some, val_nat, val_nat, yWMake _ _ (by omega), val_nat]; rfl
theorem wv_mkW (s : Bool) (n : Nat) : wv (mkW s n) = if s then -(n : Int) else (n : Int) := by
  unfold wv mkW
  simp only [val_nat]
  cases s with
  | false => rfl
  | true => by_cases h : n = 0 <;> simp [h]
theorem xWCmp (x y : Wh) (hx : x.2.length ≤ 1000000000) (hy : y.2.length ≤ 1000000000) : whole_Cmp x y = some (icmp (wv x) (wv y)) := by
  have h1 := nat_val_length x.2
  have h2 := nat_val_length y.2
  obtain ⟨s, m⟩ := x
  obtain ⟨t, n⟩ := y
  simp only at h1 h2 hx hy
  rw [whole_Cmp_eq, xWWell _ hx, Option.bind_some, xWWell _ hy, Option.bind_some]
  show (nat_Cmp (nat (val m)) (nat (val n))).bind _ = _
  rw [xCmp _ _ (by omega) (by omega), Option.bind_some, val_nat, val_nat]
  simp only [whole_Cmp_1_eq, mkW, wv, icmp, sgnv]
  generalize val m = a
  generalize val n = b
  cases s <;> cases t <;> by_cases ha : a = 0 <;> by_cases hb : b = 0 <;> simp [ha, hb] <;> (repeat' split) <;> first | rfl | omega | (exfalso; omega)
theorem yWCmp (x y : Wh) (hx : x.2.length ≤ 1000000000) (hy : y.2.length ≤ 1000000000) : abacistref04_Cmp x y = some (icmp (wv x) (wv y)) := by
  have h1 := nat_val_length x.2
  have h2 := nat_val_length y.2
  obtain ⟨s, m⟩ := x
  obtain ⟨t, n⟩ := y
  simp only at h1 h2 hx hy
  rw [abacistref04_Cmp_eq, yWWell _ hx, Option.bind_some, yWWell _ hy, Option.bind_some]
  have e1 : abacistref01_Cmp (nat (val m)) (nat (val n)) = some (sgnv (val m) (val n)) := by rw [yCmp _ _ (by omega) (by omega), val_nat, val_nat]
  have e2 : abacistref01_Cmp (nat (val n)) (nat (val m)) = some (sgnv (val n) (val m)) := by rw [yCmp _ _ (by omega) (by omega), val_nat, val_nat]
  simp only [mkW, wv, icmp, e1, e2, sgnv, Option.bind_some]
  generalize val m = a
  generalize val n = b
  cases s <;> cases t <;> by_cases ha : a = 0 <;> by_cases hb : b = 0 <;> simp [ha, hb] <;> (repeat' split) <;> first | rfl | omega | (exfalso; omega)
end Go.Proofs.YtljapieoihecbaaGreatDoor.D
/- Fractions: plain Lean; the program's and the reference's. -/
namespace Go.Proofs.YtljapieoihecbaaGreatDoor.D
open Go Go.Proofs.YtljapieoihecbaaGreatDoor.K
open Go.Proofs.YtljapieoihecbaaGreatDoor.P (nat val divmod small val_nat nat_zero nat_eq_nil nat_val_length nat_length_le len_mono val_lt nat_inj sgnv powR powV blen blen_bounds blen_zero nat_one mod_u64)
def tidy (s : List UInt8) : Bool := decide (s.length ≤ 32) && decide (nat (val s) = s)
def right (r : Rt) : Bool := tidy r.2.1 && (tidy r.2.2 && (!decide (r.2.2 = []) && cond (decide (r.2.1 = [])) (!r.1 && decide (r.2.2 = [1])) (decide (Nat.gcd (val r.2.1) (val r.2.2) = 1))))
theorem val1 : val [1] = 1 := rfl
theorem natOne (n : Nat) : decide (nat n = [1]) = decide (n = 1) := decide_eq_decide.2 (by rw [← nat_one, nat_inj])
theorem tidy_len {s : List UInt8} (h : tidy s = true) : s.length ≤ 32 := by
  unfold tidy at h
  simp at h
  exact h.1
theorem tidy_nat {s : List UInt8} (h : tidy s = true) : nat (val s) = s := by
  unfold tidy at h
  simp at h
  exact h.2
theorem xTidy (s : List UInt8) : rat_tidy s = some (tidy s) := by
  rw [rat_tidy_eq]
  by_cases h : s.length ≤ 32
  · rw [cT (decide_eq_true (by omega)), xTrim s (by omega)]; simp [tidy, h]
  · rw [cF (decide_eq_false (by omega))]; simp [tidy, h]
theorem xRight (r : Rt) : rat_Right r = some (right r) := by
  rw [rat_Right_eq, xTidy, Option.bind_some, xTidy, Option.bind_some]
  simp only [rat_Right_1_eq, right]
  cases h1 : tidy r.2.1 with
  | false => rfl
  | true =>
    cases h2 : tidy r.2.2 with
    | false => rfl
    | true =>
      have l1 := tidy_len h1
      have l2 := tidy_len h2
      rw [xGcd _ _ (by omega) (by omega), Option.bind_some, natOne]
      by_cases h3 : r.2.2 = []
      · simp [h3]
      · by_cases h4 : r.2.1 = []
        · cases h6 : r.1 <;> simp [h3, h4]
        · by_cases h5 : r.2.2 = [1]
          · simp [h5, h4, val1]
          · simp [h3, h4, h5]
theorem yRight (r : Rt) : abacistref05_Right r = some (right r) := by
  rw [abacistref05_Right_eq]
  simp only [abacistref05_Right_1_eq, right]
  by_cases a1 : r.2.1.length ≤ 32
  · by_cases a2 : r.2.2.length ≤ 32
    · rw [cF (decide_eq_false (by omega)), cF (decide_eq_false (by omega)), yTrim _ (by omega), Option.bind_some, yTrim _ (by omega), Option.bind_some, yGcd _ _ (by omega) (by omega), Option.bind_some, natOne]
      by_cases a3 : r.2.2 = []
      · simp [a3]
      · by_cases a4 : nat (val r.2.1) = r.2.1
        · by_cases a5 : nat (val r.2.2) = r.2.2
          · by_cases a6 : r.2.1 = []
            · have hv : val ([] : List UInt8) = 0 := rfl
              cases h6 : r.1 <;> simp [tidy, a2, a3, a5, a6, hv, nat_zero]
            · simp [tidy, a1, a2, a3, a4, a5, a6]
          · simp [tidy, a1, a2, a3, a4, a5]
        · simp [tidy, a1, a2, a3, a4]
    · rw [cF (decide_eq_false (by omega)), cT (decide_eq_true (by omega))]; simp [tidy, a2]
  · rw [cT (decide_eq_true (by omega))]; simp [tidy, a1]
def well (r : Rt) : Rt := cond (right r) r (false, [], [1])
structure Fm (s : Bool) (n d : Nat) : Prop where
  nl : (nat n).length ≤ 32
  dl : (nat d).length ≤ 32
  pos : 0 < d
  co : Nat.gcd n d = 1
  z : n = 0 → s = false
theorem right_form {r : Rt} (h : right r = true) : ∃ s n d, r = (s, nat n, nat d) ∧ Fm s n d := by
  obtain ⟨s, a, b⟩ := r
  unfold right at h
  simp only [Bool.and_eq_true] at h
  obtain ⟨h1, h2, h3, h4⟩ := h
  have e1 := tidy_nat h1
  have e2 := tidy_nat h2
  have hb : b ≠ [] := by simpa using h3
  have hd : val b ≠ 0 := fun e => hb (by rw [← e2, e, nat_zero])
  refine ⟨s, val a, val b, by rw [e1, e2], ⟨by rw [e1]; exact tidy_len h1, by rw [e2]; exact tidy_len h2, by omega, ?_, ?_⟩⟩
  · by_cases h0 : a = []
    · rw [decide_eq_true h0, cond_true] at h4
      simp only [Bool.and_eq_true, decide_eq_true_eq] at h4
      rw [h0, h4.2]; rfl
    · rw [decide_eq_false h0, cond_false] at h4
      exact of_decide_eq_true h4
  · intro hz
    have h0 : a = [] := by rw [← e1, hz, nat_zero]
    rw [decide_eq_true h0, cond_true] at h4
    simp only [Bool.and_eq_true, Bool.not_eq_true'] at h4
    exact h4.1
theorem tidy_of {n : Nat} (h : (nat n).length ≤ 32) : tidy (nat n) = true := by
  unfold tidy
  rw [val_nat, decide_eq_true h, decide_eq_true rfl]; rfl
theorem Fm.right {s : Bool} {n d : Nat} (h : Fm s n d) : right (s, nat n, nat d) = true := by
  unfold D.right
  have hd : decide (nat d = []) = false := decide_eq_false fun e => by have := nat_eq_nil.1 e; have := h.pos; omega
  simp only [tidy_of h.nl, tidy_of h.dl, hd, nilD, natOne, val_nat]
  by_cases h0 : n = 0
  · have hs := h.z h0
    have hc := h.co
    rw [h0, Nat.gcd_zero_left] at hc
    rw [decide_eq_true h0, hs, decide_eq_true hc]; rfl
  · rw [decide_eq_false h0, decide_eq_true h.co]; rfl
theorem Fm.zero : Fm false 0 1 := ⟨by rw [nat_zero]; simp, by rw [nat_one]; simp, by omega, rfl, fun _ => rfl⟩
theorem well_form (r : Rt) : ∃ s n d, well r = (s, nat n, nat d) ∧ Fm s n d := by
  unfold well
  cases h : right r with
  | true => exact right_form h
  | false => exact ⟨false, 0, 1, by rw [nat_zero, nat_one]; rfl, .zero⟩
theorem Fm.well {s : Bool} {n d : Nat} (h : Fm s n d) : well (s, nat n, nat d) = (s, nat n, nat d) := by unfold D.well; rw [h.right]; rfl
theorem well_well (r : Rt) : well (well r) = well r := by
  obtain ⟨s, n, d, e, f⟩ := well_form r
  rw [e, f.well]
theorem right_well (r : Rt) : right (well r) = true := by
  obtain ⟨s, n, d, e, f⟩ := well_form r
  rw [e, f.right]
theorem well_of_right {r : Rt} (h : right r = true) : well r = r := by unfold well; rw [h]; rfl
theorem xWell (r : Rt) : rat_well r = some (well r) := by
  rw [rat_well_eq, xRight, Option.bind_some, well]
  cases right r <;> rfl
theorem yWell (r : Rt) : abacistref05_Well r = some (well r) := by
  rw [abacistref05_Well_eq, yRight, Option.bind_some, well, abacistref05_Zero_eq]
  cases right r <;> rfl
theorem mkW_form {s : Bool} {n d : Nat} (h : Fm s n d) : mkW s n = (s, nat n) := by
  unfold mkW
  by_cases h0 : n = 0
  · rw [h.z h0]; rfl
  · rw [decide_eq_false h0]; cases s <;> rfl
theorem xTop (r : Rt) : rat_top r = some (r.1, r.2.1) := rat_top_eq r
theorem xLow (r : Rt) : rat_low r = some (false, r.2.2) := rat_low_eq r
theorem yTop {r : Rt} {s : Bool} {n d : Nat} (e : well r = (s, nat n, nat d)) (h : Fm s n d) : abacistref05_Top r = some (s, nat n) := by
  have := h.nl
  rw [abacistref05_Top_eq, yWell, Option.bind_some, Option.bind_some, e]
  show (abacistref04_Make s (nat n)).bind _ = _
  rw [yWMake _ _ (by omega), val_nat, mkW_form h]; rfl
theorem yLow {r : Rt} {s : Bool} {n d : Nat} (e : well r = (s, nat n, nat d)) (h : Fm s n d) : abacistref05_Low r = some (false, nat d) := by
  have := h.dl
  rw [abacistref05_Low_eq, yWell, Option.bind_some, e]
  show (abacistref04_Make false (nat d)).bind _ = _
  rw [yWMake _ _ (by omega), val_nat]; rfl
def make (x y : Wh) : Rt × Int :=
  if val y.2 = 0 then ((false, [], []), 5)
  else if 32 < (nat (val x.2 / Nat.gcd (val x.2) (val y.2))).length ∨ 32 < (nat (val y.2 / Nat.gcd (val x.2) (val y.2))).length then ((false, [], []), 4)
  else ((!(x.1 == y.1) && !decide (val x.2 / Nat.gcd (val x.2) (val y.2) = 0), nat (val x.2 / Nat.gcd (val x.2) (val y.2)), nat (val y.2 / Nat.gcd (val x.2) (val y.2))), 0)
theorem xMake (x y : Wh) (hx : x.2.length ≤ 1000) (hy : y.2.length ≤ 1000) : rat_Make x y = some (make x y) := by
  have l1 := nat_val_length x.2
  have l2 := nat_val_length y.2
  rw [rat_Make_eq, xTrim _ (by omega), Option.bind_some, xTrim _ (by omega), Option.bind_some, nilD, make]
  by_cases h0 : val y.2 = 0
  · rw [cT (decide_eq_true h0), if_pos h0]
  · rw [cF (decide_eq_false h0), if_neg h0, xGcd _ _ (by omega) (by omega), Option.bind_some, val_nat, val_nat, natOne]
    have hg : 0 < Nat.gcd (val x.2) (val y.2) := Nat.gcd_pos_of_pos_right _ (by omega)
    generalize hG : Nat.gcd (val x.2) (val y.2) = g at hg
    have hgl : (nat g).length ≤ 1000 := by
      have : g ≤ val y.2 := by rw [← hG]; exact Nat.gcd_le_right _ (by omega)
      exact Nat.le_trans (len_mono this) (by omega)
    have step : ∀ a b : Nat, rat_Make_1 (nat a) (nat b) x y (false, [], []) = some (if 32 < (nat a).length ∨ 32 < (nat b).length then ((false, [], []), 4) else ((!(x.1 == y.1) && !decide (a = 0), nat a, nat b), 0)) := by
      intro a b
      rw [rat_Make_1_eq]
      simp only [rat_Make_2_eq, nilD]
      by_cases h1 : 32 < (nat a).length
      · rw [cT (decide_eq_true (by omega)), if_pos (.inl h1)]; rfl
      · rw [cF (decide_eq_false (by omega))]
        by_cases h2 : 32 < (nat b).length
        · rw [cT (decide_eq_true (by omega)), if_pos (.inr h2)]
        · rw [cF (decide_eq_false (by omega)), if_neg (by omega)]
          by_cases h3 : a = 0
          · simp [h3]
          · simp [h3]
    by_cases h1 : g = 1
    · rw [cF (by rw [decide_eq_true h1]; rfl), step, h1, Nat.div_one, Nat.div_one]
    · have e1 : divide_DivMod (nat (val x.2)) (nat g) = some (nat (val x.2 / g), nat (val x.2 % g), 0) := by rw [xDiv _ _ (by omega) (by omega), val_nat, val_nat, divmod, if_neg (by omega)]
      have e2 : divide_DivMod (nat (val y.2)) (nat g) = some (nat (val y.2 / g), nat (val y.2 % g), 0) := by rw [xDiv _ _ (by omega) (by omega), val_nat, val_nat, divmod, if_neg (by omega)]
      rw [cT (by rw [decide_eq_false h1]; rfl), e1, Option.bind_some, e2, Option.bind_some, step]
theorem pow_half {k b n : Nat} (h : k < b) (h2 : 2 ^ b ≤ 2 * n) : 2 ^ k ≤ n := by
  have h3 : 2 ^ (k + 1) ≤ 2 ^ b := Nat.pow_le_pow_right (by decide) h
  rw [Nat.pow_succ] at h3
  generalize 2 ^ k = X at h3 ⊢
  omega
theorem blen_big (n : Nat) : blen n > 256 ↔ 32 < (nat n).length := by
  obtain ⟨h1, h2⟩ := blen_bounds n
  have h3 := val_lt (nat n)
  rw [val_nat, P.pow_256] at h3
  constructor
  · intro h
    rcases Nat.lt_or_ge 32 (nat n).length with h4 | h4
    · exact h4
    · exfalso
      have h5 : 2 ^ (8 * (nat n).length) ≤ 2 ^ 256 := Nat.pow_le_pow_right (by decide) (by omega)
      by_cases h0 : n = 0
      · rw [h0, blen_zero] at h; omega
      · have h6 := pow_half h (h2 h0)
        generalize (2 : Nat) ^ 256 = X at h5 h6
        omega
  · intro h
    rcases Nat.lt_or_ge 256 (blen n) with h4 | h4
    · exact h4
    · exfalso
      have h5 : 2 ^ blen n ≤ 2 ^ (8 * 32) := Nat.pow_le_pow_right (by decide) h4
      have : (nat n).length ≤ 32 := nat_length_le (by rw [P.pow_256]; exact Nat.lt_of_lt_of_le h1 h5)
      omega
theorem yDivs (a b : List UInt8) (ha : a.length ≤ 1000000000) (hb : b.length ≤ 1000000000) : abacistref02_Div a b = some (divmod (val a) (val b)).1 := by rw [abacistref02_Div_eq, yDiv _ _ ha hb]; rfl
theorem yMake (x y : Wh) (hx : x.2.length ≤ 1000) (hy : y.2.length ≤ 1000) : abacistref05_Make x y = some (make x y) := by
  have l1 := nat_val_length x.2
  have l2 := nat_val_length y.2
  rw [abacistref05_Make_eq, yWMake _ _ (by omega), Option.bind_some, yWMake _ _ (by omega), Option.bind_some, make]
  show cond (decide (nat (val y.2) = [])) _ _ = _
  rw [nilD]
  by_cases h0 : val y.2 = 0
  · rw [cT (decide_eq_true h0), if_pos h0]
  · rw [cF (decide_eq_false h0), if_neg h0]
    show (abacistref02_Gcd (nat (val x.2)) (nat (val y.2))).bind _ = _
    rw [yGcd _ _ (by omega) (by omega), Option.bind_some, val_nat, val_nat]
    have hg : 0 < Nat.gcd (val x.2) (val y.2) := Nat.gcd_pos_of_pos_right _ (by omega)
    have hgx : val x.2 = 0 ∨ Nat.gcd (val x.2) (val y.2) ≤ val x.2 := by
      rcases Nat.eq_zero_or_pos (val x.2) with h | h
      · exact .inl h
      · exact .inr (Nat.gcd_le_left _ h)
    generalize hG : Nat.gcd (val x.2) (val y.2) = g at hg hgx
    have hgl : (nat g).length ≤ 1000 := by
      have : g ≤ val y.2 := by rw [← hG]; exact Nat.gcd_le_right _ (by omega)
      exact Nat.le_trans (len_mono this) (by omega)
    have e1 : abacistref02_Div (mkW x.1 (val x.2)).2 (nat g) = some (nat (val x.2 / g)) := by
      show abacistref02_Div (nat (val x.2)) (nat g) = _
      rw [yDivs _ _ (by omega) (by omega), val_nat, val_nat, divmod, if_neg (by omega)]
    have e2 : abacistref02_Div (mkW y.1 (val y.2)).2 (nat g) = some (nat (val y.2 / g)) := by
      show abacistref02_Div (nat (val y.2)) (nat g) = _
      rw [yDivs _ _ (by omega) (by omega), val_nat, val_nat, divmod, if_neg (by omega)]
    have m1 : (nat (val x.2 / g)).length ≤ 1000 := Nat.le_trans (len_mono (Nat.div_le_self _ _)) (by omega)
    have m2 : (nat (val y.2 / g)).length ≤ 1000 := Nat.le_trans (len_mono (Nat.div_le_self _ _)) (by omega)
    rw [e1, Option.bind_some, e2, Option.bind_some, yBits _ (by omega), Option.bind_some, yBits _ (by omega), Option.bind_some, val_nat, val_nat]
    simp only [abacistref05_Make_1_eq, nilD]
    by_cases h1 : 32 < (nat (val x.2 / g)).length
    · rw [cT (decide_eq_true (by have := (blen_big _).2 h1; omega)), if_pos (.inl h1)]; rfl
    · rw [cF (decide_eq_false (by have := mt (blen_big (val x.2 / g)).1 h1; omega))]
      by_cases h2 : 32 < (nat (val y.2 / g)).length
      · rw [cT (decide_eq_true (by have := (blen_big _).2 h2; omega)), if_pos (.inr h2)]
      · rw [cF (decide_eq_false (by have := mt (blen_big (val y.2 / g)).1 h2; omega)), if_neg (by omega)]
        by_cases h3 : val x.2 / g = 0
        · simp [h3]
        · have hx0 : val x.2 ≠ 0 := fun e => h3 (by rw [e, Nat.zero_div])
          simp [h3, mkW, hx0, h0]
def ofI (n : Int) : Rt := (decide (n < 0), nat n.natAbs, [1])
theorem u64_neg {n : Int} (h : n < 0) (h0 : -9223372036854775808 ≤ n) : IntKind.u64.wrap (0 - IntKind.u64.wrap n) = ((n.natAbs : Nat) : Int) := by rw [mod_u64, mod_u64]; omega
theorem u64_pos {n : Int} (h : ¬ n < 0) (h1 : n ≤ 9223372036854775807) : IntKind.u64.wrap n = ((n.natAbs : Nat) : Int) := by rw [mod_u64]; omega
theorem abs_len (n : Int) (h0 : -9223372036854775808 ≤ n) (h1 : n ≤ 9223372036854775807) : (nat n.natAbs).length ≤ 8 := nat_length_le (by show n.natAbs < 18446744073709551616; omega)
theorem xWOf (n : Int) (h0 : -9223372036854775808 ≤ n) (h1 : n ≤ 9223372036854775807) : whole_Of n = some (decide (n < 0), nat n.natAbs) := by
  have hl := abs_len n h0 h1
  rw [whole_Of_eq]
  by_cases h : n < 0
  · rw [cT (decide_eq_true h), u64_neg h h0, xOf _ (by omega), Option.bind_some, xWMake _ _ (by omega), Option.bind_some, val_nat, mkW, decide_eq_true h, decide_eq_false (by omega)]; rfl
  · rw [cF (decide_eq_false h), u64_pos h h1, xOf _ (by omega), Option.bind_some, xWMake _ _ (by omega), Option.bind_some, val_nat, mkW, decide_eq_false h]; rfl
theorem yWOf (n : Int) (h0 : -9223372036854775808 ≤ n) (h1 : n ≤ 9223372036854775807) : abacistref04_Of n = some (decide (n < 0), nat n.natAbs) := by
  have hl := abs_len n h0 h1
  rw [abacistref04_Of_eq]
  by_cases h : n < 0
  · rw [cT (decide_eq_true h), u64_neg h h0, yOf _ (by omega), Option.bind_some, yWMake _ _ (by omega), Option.bind_some, val_nat, mkW, decide_eq_true h, decide_eq_false (by omega)]; rfl
  · rw [cF (decide_eq_false h), u64_pos h h1, yOf _ (by omega), Option.bind_some, yWMake _ _ (by omega), Option.bind_some, val_nat, mkW, decide_eq_false h]; rfl
theorem xROf (n : Int) (h0 : -9223372036854775808 ≤ n) (h1 : n ≤ 9223372036854775807) : rat_Of n = some (ofI n) := by rw [rat_Of_eq, xWOf n h0 h1]; rfl
theorem Fm.of {n : Int} (h0 : -9223372036854775808 ≤ n) (h1 : n ≤ 9223372036854775807) : Fm (decide (n < 0)) n.natAbs 1 := by
  have := abs_len n h0 h1
  exact ⟨by omega, by rw [nat_one]; simp, by omega, Nat.gcd_one_right _, fun h => decide_eq_false (by omega)⟩
theorem ofI_form (n : Int) : ofI n = (decide (n < 0), nat n.natAbs, nat 1) := by rw [nat_one]; rfl
theorem make_form {s : Bool} {n d : Nat} (h : Fm s n d) : make (s, nat n) (false, nat d) = ((s, nat n, nat d), 0) := by
  have h1 := h.nl
  have h2 := h.dl
  have h3 := h.pos
  unfold make
  simp only [val_nat, h.co, Nat.div_one]
  rw [if_neg (by omega), if_neg (by omega)]
  by_cases h0 : n = 0
  · rw [h.z h0]; rfl
  · rw [decide_eq_false h0]; cases s <;> rfl
theorem yROf (n : Int) (h0 : -9223372036854775808 ≤ n) (h1 : n ≤ 9223372036854775807) : abacistref05_Of n = some (ofI n) := by
  have hl := abs_len n h0 h1
  have := make_form (Fm.of h0 h1)
  rw [abacistref05_Of_eq, yWOf n h0 h1, Option.bind_some, yWOf 1 (by omega) (by omega), Option.bind_some]
  show (abacistref05_Make (decide (n < 0), nat n.natAbs) (false, nat 1)).bind _ = _
  rw [yMake _ _ (by simp only; omega) (by rw [nat_one]; simp), this, ofI_form]; rfl
def signR (r : Rt) : Int := cond (decide (r.2.1 = [])) 0 (cond r.1 (-1) 1)
theorem xSign (r : Rt) : rat_Sign r = some (signR (well r)) := by
  rw [rat_Sign_eq, xWell, Option.bind_some, signR]
  cases decide ((well r).2.1 = []) <;> cases (well r).1 <;> rfl
theorem ySign (r : Rt) : abacistref05_Sign r = some (signR (well r)) := by
  obtain ⟨s, n, d, e, f⟩ := well_form r
  have hl := f.nl
  rw [abacistref05_Sign_eq, yTop e f, Option.bind_some, yWCmp _ _ (by simp only; omega) (by simp), Option.bind_some, e]
  unfold signR wv icmp
  simp only [val_nat, nilD]
  have hz := f.z
  have : val ([] : List UInt8) = 0 := rfl
  cases s <;> by_cases h0 : n = 0 <;> simp [h0, this] <;> first | omega | (simp [h0] at hz) | skip
def tp (r : Rt) : Int := wv (r.1, r.2.1)
def dn (r : Rt) : Int := (val r.2.2 : Int)
def cmpR (a b : Rt) : Int := icmp (tp (well a) * dn (well b)) (tp (well b) * dn (well a))
theorem icmp_mul {x y d : Int} (h : 0 < d) : icmp (x * d) (y * d) = icmp x y := by
  unfold icmp
  by_cases h1 : x < y
  · rw [if_pos h1, if_pos (Int.mul_lt_mul_of_pos_right h1 h)]
  · rw [if_neg h1]
    have h2 : y * d ≤ x * d := Int.mul_le_mul_of_nonneg_right (by omega) (by omega)
    rw [if_neg (by omega)]
    by_cases h3 : x = y
    · rw [if_pos h3, if_pos (by rw [h3])]
    · have h4 : y * d < x * d := Int.mul_lt_mul_of_pos_right (by omega) h
      rw [if_neg h3, if_neg (by omega)]
theorem wv_mul (s : Bool) (n m : Nat) : wv (mkW s (n * m)) = wv (s, nat n) * (m : Int) := by
  rw [wv_mkW]
  unfold wv
  simp only [val_nat]
  cases s <;> simp [Int.neg_mul]
theorem xRCmp (a b : Rt) : rat_Cmp a b = some (cmpR a b) := by
  obtain ⟨s, n, d, e, f⟩ := well_form a
  obtain ⟨t, m, c, e', f'⟩ := well_form b
  have h1 := f.nl
  have h2 := f.dl
  have h3 := f'.nl
  have h4 := f'.dl
  rw [rat_Cmp_eq, xWell, Option.bind_some, xWell, Option.bind_some, rat_crossed_eq, cmpR, e, e']
  simp only [xTop, xLow, Option.bind_some]
  by_cases hd : nat d = nat c
  · obtain rfl := nat_inj.1 hd
    rw [cT (decide_eq_true hd), Option.bind_some, xWCmp _ _ (by simp only; omega) (by simp only; omega), Option.bind_some]
    unfold tp dn
    simp only [val_nat]
    rw [icmp_mul (by have := f.pos; omega)]
  · rw [cF (decide_eq_false hd), xWMul _ _ (by simp only; omega) (by simp only; omega), Option.bind_some, xWMul _ _ (by simp only; omega) (by simp only; omega), Option.bind_some, Option.bind_some]
    have l1 : (mkW (!(s == false)) (val (nat n) * val (nat c))).2.length ≤ 1000000000 := by
      show (nat _).length ≤ _
      have := mul_len (nat n) (nat c); omega
    have l2 : (mkW (!(t == false)) (val (nat m) * val (nat d))).2.length ≤ 1000000000 := by
      show (nat _).length ≤ _
      have := mul_len (nat m) (nat d); omega
    simp only
    rw [xWCmp _ _ l1 l2, Option.bind_some, val_nat, val_nat, val_nat, val_nat, wv_mul, wv_mul]
    unfold tp dn
    simp only [val_nat]
    cases s <;> cases t <;> rfl
theorem yRCmp (a b : Rt) : abacistref05_Cmp a b = some (cmpR a b) := by
  obtain ⟨s, n, d, e, f⟩ := well_form a
  obtain ⟨t, m, c, e', f'⟩ := well_form b
  have h1 := f.nl
  have h2 := f.dl
  have h3 := f'.nl
  have h4 := f'.dl
  rw [abacistref05_Cmp_eq, yTop e f, Option.bind_some, yLow e' f', Option.bind_some, yWMul _ _ (by simp only; omega) (by simp only; omega), Option.bind_some, yTop e' f', Option.bind_some, yLow e f, Option.bind_some, yWMul _ _ (by simp only; omega) (by simp only; omega), Option.bind_some, cmpR, e, e']
  simp only [val_nat, mkW_form f, mkW_form f']
  have l1 : ∀ q, (mkW q (n * c)).2.length ≤ 1000000000 := by
    intro q
    show (nat _).length ≤ _
    have := mul_len (nat n) (nat c)
    rw [val_nat, val_nat] at this; omega
  have l2 : ∀ q, (mkW q (m * d)).2.length ≤ 1000000000 := by
    intro q
    show (nat _).length ≤ _
    have := mul_len (nat m) (nat d)
    rw [val_nat, val_nat] at this; omega
  rw [yWCmp _ _ (l1 _) (l2 _), Option.bind_some, wv_mul, wv_mul]
  unfold tp dn
  simp only [val_nat]
  cases s <;> cases t <;> rfl
def negR (r : Rt) : Rt := (!(well r).1 && !decide ((well r).2.1 = []), (well r).2)
theorem xNeg (r : Rt) : rat_Neg r = some (negR r) := by
  rw [rat_Neg_eq, xWell, Option.bind_some, negR]
  simp only [rat_Neg_1_eq]
  cases (well r).1 <;> rfl
theorem yNeg (r : Rt) : abacistref05_Neg r = some (negR r) := by
  rw [abacistref05_Neg_eq, yWell, Option.bind_some, negR]
  cases (well r).1 <;> rfl
theorem Fm.neg {s : Bool} {n d : Nat} (h : Fm s n d) : negR (s, nat n, nat d) = (!s && !decide (n = 0), nat n, nat d) := by unfold negR; rw [h.well, nilD]
end Go.Proofs.YtljapieoihecbaaGreatDoor.D
/- Numbers as texts: plain Lean; the program's and the reference's. -/
namespace Go.Proofs.YtljapieoihecbaaGreatDoor.D
open Go Go.Proofs.YtljapieoihecbaaGreatDoor.K
open Go.Proofs.YtljapieoihecbaaGreatDoor.P (nat val divmod small val_nat nat_zero nat_eq_nil nat_val_length nat_length_le len_mono val_lt nat_inj sgnv powR powV nat_one wS nat_ten_len inC dv good dig dig_le dv_nil dv_snoc dv_append dv_cons dv_lt decT decT_good decT_dv decT_ne decT_len)
def pos (c : UInt8) : List UInt8 → Option Nat
  | [] => none
  | b :: s => if b = c then some 0 else (pos c s).map (· + 1)
def cutV (c : UInt8) (s : List UInt8) : List UInt8 × List UInt8 × Bool :=
  match pos c s with
  | none => (s, [], false)
  | some k => (s.take k, s.drop (k + 1), true)
theorem indexByte_pos (c : UInt8) : ∀ s : List UInt8, Lib.indexByte s c = (match pos c s with
    | none => -1
    | some k => (k : Int))
  | [] => rfl
  | b :: s => by
    simp only [Lib.indexByte, pos, indexByte_pos c s]
    by_cases h : b = c
    · simp [h]
    · rw [if_neg h, if_neg (by simpa using h)]
      cases pos c s with
      | none => rfl
      | some k => simp
theorem pos_lt {c : UInt8} : ∀ {s : List UInt8} {k : Nat}, pos c s = some k → k < s.length
  | [], k, h => by simp [pos] at h
  | b :: s, k, h => by
    simp only [pos] at h
    split at h
    · cases h; simp
    · cases hp : pos c s with
      | none => rw [hp] at h; cases h
      | some j => rw [hp] at h; have := pos_lt hp; simp at h; simp; omega
theorem xCut (c : UInt8) (s : List UInt8) (h : s.length < 4294967281) : strings_Cut s [c] = some (cutV c s) := by
  refine (top_call ..).trans ?_
  show cutF (s, [c]) = _
  unfold cutF
  rw [decide_eq_true h]
  show some (Lib.cut s [c]) = _
  congr 1
  unfold Lib.cut cutV
  rw [Lib.index_one, indexByte_pos]
  cases pos c s with
  | none => rfl
  | some k => simp only [Int.toNat_natCast]; rw [if_pos (by omega)]; rfl
theorem getD_drop {s : List UInt8} {i : Nat} (h : i < s.length) : s.drop i = s.getD i 0 :: s.drop (i + 1) := by rw [List.drop_eq_getElem_cons h, good_get h]
theorem yFind1 (s : List UInt8) (c : UInt8) (hs : s.length ≤ 9223372036854775807) : ∀ (m i : Nat), i + m = s.length → abacistref07_find_1 s (c.toNat : Int) (i : Int) = some (match pos c (s.drop i) with
    | none => -1
    | some k => ((i + k : Nat) : Int))
  | 0, i, h => by
    rw [abacistref07_find_1_eq, cF (decide_eq_false (by omega)), List.drop_of_length_le (by omega)]; rfl
  | m + 1, i, h => by
    have hi : i < s.length := by omega
    rw [abacistref07_find_1_eq, cT (decide_eq_true (by omega)), cT (ix hi), Int.toNat_natCast, getD_drop hi, pos]
    by_cases hc : s.getD i 0 = c
    · rw [hc, cT (decide_eq_true rfl), if_pos rfl]; rfl
    · rw [cF (decide_eq_false (fun e => hc (UInt8.toNat_inj.1 (by omega)))), if_neg hc, wS (by omega), yFind1 s c hs m (i + 1) (by omega)]
      cases pos c (s.drop (i + 1)) with
      | none => rfl
      | some k => simp only [Option.map_some]; congr 2; omega
def findV (c : UInt8) (s : List UInt8) : Int := match pos c s with
  | none => -1
  | some k => (k : Int)
theorem yFind (s : List UInt8) (c : UInt8) (hs : s.length ≤ 9223372036854775807) : abacistref07_find s (c.toNat : Int) = some (findV c s) := by
  rw [abacistref07_find_eq]
  have := yFind1 s c hs s.length 0 (Nat.zero_add _)
  simp only [List.drop_zero, Nat.zero_add] at this
  exact this
def preV (c : UInt8) (s : List UInt8) : List UInt8 × Bool := match s with
  | [] => ([], false)
  | b :: t => if b = c then (t, true) else (b :: t, false)
theorem hasPre (c : UInt8) (s : List UInt8) : internal_stringslite_HasPrefix s [c] = some (preV c s).2 := by
  rw [internal_stringslite_HasPrefix_eq]
  cases s with
  | nil => rfl
  | cons b t =>
    rw [cT (decide_eq_true (by simp; omega)), cT (by simp; omega), preV]
    by_cases h : b = c
    · simp [h]
    · simp [h]
theorem xPre (c : UInt8) (s : List UInt8) : strings_CutPrefix s [c] = some (preV c s) := by
  rw [strings_CutPrefix_eq, internal_stringslite_CutPrefix_eq, hasPre, Option.bind_some]
  cases s with
  | nil => rfl
  | cons b t =>
    unfold preV
    by_cases h : b = c
    · have : (1 : Int) ≤ (t.length : Int) + 1 := by omega
      simp [h, this]
    · simp [h]
theorem pre_len (c : UInt8) (s : List UInt8) : (preV c s).1.length ≤ s.length := by
  unfold preV
  split
  · exact Nat.le_refl _
  · split <;> simp
def dg (s : List UInt8) : Bool := good s && !decide (s = [])
theorem xDigits1 (s : List UInt8) (hs : s.length ≤ 9223372036854775807) : ∀ (m i : Nat), i + m = s.length → numtext_digits_1 s (s.map fun b => (b.toNat : Int)) ((s.map fun b => (b.toNat : Int)).length : Int) (i : Int) = some (good (s.drop i) && !decide (s = []))
  | 0, i, h => by
    rw [numtext_digits_1_eq, cF (decide_eq_false (by rw [List.length_map]; omega)), List.drop_of_length_le (by omega)]; rfl
  | m + 1, i, h => by
    have hi : i < s.length := by omega
    have hg : (s.map fun b => (b.toNat : Int)).getD (i : Int).toNat 0 = ((s.getD i 0).toNat : Int) := by simp [List.getD, hi]
    have next : numtext_digits_2 s (s.map fun b => (b.toNat : Int)) ((s.map fun b => (b.toNat : Int)).length : Int) (i : Int) false = some (good (s.drop (i + 1)) && !decide (s = [])) := by
      rw [numtext_digits_2_eq, cond_false, wS (by omega)]; exact xDigits1 s hs m (i + 1) (by omega)
    have stop : numtext_digits_2 s (s.map fun b => (b.toNat : Int)) ((s.map fun b => (b.toNat : Int)).length : Int) (i : Int) true = some false := by rw [numtext_digits_2_eq, cond_true]
    rw [numtext_digits_1_eq, cT (decide_eq_true (by rw [List.length_map]; omega)), cT (by rw [List.length_map]; exact ix hi), hg, good_drop hi]
    generalize s.getD i 0 = c
    by_cases h1 : c.toNat < 48
    · rw [cT (decide_eq_true (by omega)), stop, show dig c = false by unfold dig; simp; omega]; rfl
    · rw [cF (decide_eq_false (by omega))]
      by_cases h2 : c.toNat > 57
      · rw [decide_eq_true (show (c.toNat : Int) > 57 by omega), stop, show dig c = false by unfold dig; simp; omega]; rfl
      · rw [decide_eq_false (show ¬ (c.toNat : Int) > 57 by omega), next, show dig c = true by unfold dig; simp; omega]; rfl
theorem xDigits (s : List UInt8) (hs : s.length ≤ 9223372036854775807) : numtext_digits s = some (dg s) := (numtext_digits_eq s).trans (xDigits1 s hs s.length 0 (Nat.zero_add _))
theorem yDigits1 (s : List UInt8) (hs : s.length ≤ 9223372036854775807) : ∀ (m i : Nat), i + m = s.length → abacistref07_digits_1 s (i : Int) = some (good (s.drop i) && !decide (s = []))
  | 0, i, h => by
    rw [abacistref07_digits_1_eq, cF (decide_eq_false (by omega)), List.drop_of_length_le (by omega)]; rfl
  | m + 1, i, h => by
    have hi : i < s.length := by omega
    have next : abacistref07_digits_2 s (i : Int) false = some (good (s.drop (i + 1)) && !decide (s = [])) := by
      rw [abacistref07_digits_2_eq, cond_false, wS (by omega)]; exact yDigits1 s hs m (i + 1) (by omega)
    have stop : abacistref07_digits_2 s (i : Int) true = some false := by rw [abacistref07_digits_2_eq, cond_true]
    rw [abacistref07_digits_1_eq, cT (decide_eq_true (by omega)), cT (ix hi), cT (ix hi), Int.toNat_natCast, good_drop hi]
    generalize s.getD i 0 = c
    by_cases h1 : c.toNat < 48
    · rw [cT (decide_eq_true (by omega)), stop, show dig c = false by unfold dig; simp; omega]; rfl
    · rw [cF (decide_eq_false (by omega))]
      by_cases h2 : c.toNat > 57
      · rw [decide_eq_true (show (c.toNat : Int) > 57 by omega), stop, show dig c = false by unfold dig; simp; omega]; rfl
      · rw [decide_eq_false (show ¬ (c.toNat : Int) > 57 by omega), next, show dig c = true by unfold dig; simp; omega]; rfl
theorem yDigits (s : List UInt8) (hs : s.length ≤ 9223372036854775807) : abacistref07_digits s = some (dg s) := (abacistref07_digits_eq s).trans (yDigits1 s hs s.length 0 (Nat.zero_add _))
theorem pow_small {b : Nat} (hb : b < 256) (n : Nat) : (nat (b ^ n)).length ≤ n + 1 := by
  rcases Nat.eq_zero_or_pos n with h | h
  · subst h; rw [Nat.pow_zero, nat_one]; simp
  · exact Nat.le_trans (nat_length_le (Nat.pow_lt_pow_left hb (by omega))) (by omega)
theorem powR_small {b n : Nat} (hb : 2 ≤ b) (hb2 : b < 256) (hn : n ≤ 1000) : powR b (n : Int) = (nat (b ^ n), 0) := by
  unfold powR
  rw [if_neg (by omega)]
  by_cases h : n = 0
  · subst h; rw [if_pos (by rfl), Nat.pow_zero, nat_one]
  · have := pow_small hb2 n
    rw [if_neg (by omega), if_neg (by omega), powV, Int.toNat_natCast, if_neg (by omega)]
theorem xPower {b n : Nat} (hb : 2 ≤ b) (hb2 : b < 256) (hn : n ≤ 1000) : numtext_power (b : Int) (n : Int) = some (nat (b ^ n)) := by
  have hl : (nat b).length ≤ 1 := nat_length_le (by omega)
  rw [numtext_power_eq, xOf _ (by omega), Option.bind_some, xPow _ _ (by omega) (by omega), Option.bind_some, val_nat, powR_small hb hb2 hn]; rfl
theorem yPower {b n : Nat} {t : List UInt8} (ht : val t = b) (htl : t.length ≤ 10) (hb : 2 ≤ b) (hb2 : b < 256) (hn : n ≤ 1000) : abacistref07_power t (n : Int) = some (nat (b ^ n)) := by
  rw [abacistref07_power_eq, yPow _ _ (by omega) (by omega), Option.bind_some, ht, powR_small hb hb2 hn]
def endsN (d : Nat) : Nat × Bool := if 2 ^ ordB 2 d * 5 ^ ordB 5 d = d then (max (ordB 2 d) (ordB 5 d), true) else (0, false)
end Go.Proofs.YtljapieoihecbaaGreatDoor.D
/- Numbers in digits, and as texts: plain Lean; the program's and the reference's. -/
namespace Go.Proofs.YtljapieoihecbaaGreatDoor.D
open Go Go.Proofs.YtljapieoihecbaaGreatDoor.K
open Go.Proofs.YtljapieoihecbaaGreatDoor.P (nat val divmod small val_nat nat_zero nat_eq_nil nat_val_length nat_length_le len_mono val_lt nat_inj sgnv powR powV nat_one wS wA wD nat_ten_len inC ten ten_len decT decT_len decT_ne decT_good decT_dv dv good dig dig_le dv_nil dv_snoc dv_append dv_cons dv_lt)
def ptN (n : Nat) (s : List UInt8) : List UInt8 :=
  if n = 0 then s else (List.replicate (n + 1 - s.length) 48 ++ s).take ((List.replicate (n + 1 - s.length) 48 ++ s).length - n) ++ [46] ++ (List.replicate (n + 1 - s.length) 48 ++ s).drop ((List.replicate (n + 1 - s.length) 48 ++ s).length - n)
theorem lim78 : (256 : Nat) ^ 32 ≤ 10 ^ 78 := Nat.le_of_ble_eq_true rfl
theorem lt78 {n : Nat} (h : (nat n).length ≤ 32) : n < 10 ^ 78 := by
  have h1 := val_lt (nat n)
  rw [val_nat] at h1
  exact Nat.lt_of_lt_of_le h1 (Nat.le_trans (Nat.pow_le_pow_right (by decide) h) lim78)
theorem q_len {n d k : Nat} (h : (nat n).length ≤ 32) : (decT (n * 10 ^ k / d)).length ≤ 78 + k := by
  refine decT_len ?_ (by omega)
  refine Nat.lt_of_le_of_lt (Nat.div_le_self _ _) ?_
  rw [Nat.pow_add]
  exact Nat.mul_lt_mul_of_pos_right (lt78 h) (Nat.pow_pos (by decide))
def textF (s : Bool) (n d : Nat) : List UInt8 :=
  cond s [45] [] ++ cond ((endsN d).2 && decide ((endsN d).1 ≤ 20)) (ptN (endsN d).1 (decT (n * 10 ^ (endsN d).1 / d))) (decT n ++ [47] ++ decT d)
theorem d_len {n : Nat} (h : (nat n).length ≤ 32) : (decT n).length ≤ 78 := decT_len (lt78 h) (by omega)
theorem pt_len (k : Nat) (t : List UInt8) (h : t.length ≤ 1000) (hk : k ≤ 1000) : (ptN k t).length ≤ max t.length (k + 1) + 1 := by
  unfold ptN
  split
  · omega
  · simp; omega
theorem text_len {s : Bool} {n d : Nat} (f : Fm s n d) : (textF s n d).length ≤ 158 := by
  have h1 := f.nl
  have h2 := f.dl
  have hdn := d_len h1
  have hdd := d_len h2
  have hq := q_len (d := d) (k := (endsN d).1) h1
  unfold textF
  have hs : (cond s [45] [] : List UInt8).length ≤ 1 := by cases s <;> simp
  rw [List.length_append]
  cases hb : (endsN d).2 && decide ((endsN d).1 ≤ 20) with
  | true =>
    rw [Bool.and_eq_true] at hb
    have h20 := of_decide_eq_true hb.2
    have hpt := pt_len (endsN d).1 (decT (n * 10 ^ (endsN d).1 / d)) (by omega) (by omega)
    rw [cond_true]; omega
  | false => rw [cond_false]; simp; omega
end Go.Proofs.YtljapieoihecbaaGreatDoor.D
