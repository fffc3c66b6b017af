/- Part 9 of the proof: the machine, the tables and the pure laws that the last text joins. -/
import Derived.Test.YtpdfjgooaaailaaGreatDoorZ8
import Derived.Test.YtpdfjgooaaailaaGreatDoorProg
import Derived.Test.YtpdfjgooaaailaaGreatDoorZ7
import Derived.Lib.IndexBytes
import Derived.Test.YtpdfjgooaaailaaGreatDoorZ5
set_option linter.unusedVariables false
set_option linter.unusedSimpArgs false
set_option maxRecDepth 100000
namespace Go.Proofs.YtpdfjgooaaailaaGreatDoor.K
open Go
theorem w21_FtextRules_eq (x0 x1 : TB9) (x2 : Int) : w21_FtextRules x0 x1 x2 = (r08_Plain x0).bind fun v1 => cond (!v1) (w21_FtextRules_1 x0 x1 x2 true) ((r08_Plain x1).bind fun v2 => cond (!v2) (w21_FtextRules_1 x0 x1 x2 true) (cond (decide (x2 < 0)) (w21_FtextRules_1 x0 x1 x2 true) (cond (decide (x2 > (x0.length : Int))) (w21_FtextRules_1 x0 x1 x2 true) (w21_FtextRules_1 x0 x1 x2 (decide ((IntKind.i64.wrap ((x0.length : Int) + (x1.length : Int))) > 200)))))) := (top_call ..).trans (by kernel_rfl)
theorem w21_FtextRules_1_eq (a1 a2 : TB9) (a3 : Int) (a4 : Bool) : w21_FtextRules_1 a1 a2 a3 a4 = cond a4 ((w21_known).bind fun v1 => some v1) ((w21_num a3).bind fun v2 => (w21_num (IntKind.i64.wrap ((a1.length : Int) - a3))).bind fun v3 => (w21_text a1).bind fun v4 => (ftext_Do ([76,69,70,84] : TB9) [v4,v2]).bind fun v5 => (w21_text a1).bind fun v6 => (ftext_Do ([82,73,71,72,84] : TB9) [v6,v3]).bind fun v7 => (ftext_Do ([67,79,78,67,65,84] : TB9) [v5,v7]).bind fun v8 => (w21_text a1).bind fun v9 => cond (!((decide (v8.1 = v9.1)) && ((v8.2.1.1 == v9.2.1.1) && ((decide (v8.2.1.2.1 = v9.2.1.2.1)) && ((decide (v8.2.1.2.2 = v9.2.1.2.2)) && ((decide (v8.2.2.1 = v9.2.2.1)) && ((v8.2.2.2.1 == v9.2.2.2.1) && (decide (v8.2.2.2.2 = v9.2.2.2.2))))))))) (w21_FtextRules_2 a1 a2 a3 true) ((w21_text a1).bind fun v10 => (ftext_Do ([76,79,87,69,82] : TB9) [v10]).bind fun v11 => (ftext_Do ([85,80,80,69,82] : TB9) [v11]).bind fun v12 => (w21_text a1).bind fun v13 => (ftext_Do ([85,80,80,69,82] : TB9) [v13]).bind fun v14 => w21_FtextRules_2 a1 a2 a3 (!((decide (v12.1 = v14.1)) && ((v12.2.1.1 == v14.2.1.1) && ((decide (v12.2.1.2.1 = v14.2.1.2.1)) && ((decide (v12.2.1.2.2 = v14.2.1.2.2)) && ((decide (v12.2.2.1 = v14.2.2.1)) && ((v12.2.2.2.1 == v14.2.2.2.1) && (decide (v12.2.2.2.2 = v14.2.2.2.2))))))))))) := (top_stage ..).trans (by kernel_rfl)
theorem w21_FtextRules_2_eq (a1 a2 : TB9) (a3 : Int) (a4 : Bool) : w21_FtextRules_2 a1 a2 a3 a4 = cond a4 (some false) ((w21_num (IntKind.i64.wrap (a3 + 1))).bind fun v1 => (w21_text a1).bind fun v2 => (w21_num 0).bind fun v3 => (w21_text a2).bind fun v4 => (ftext_Do ([82,69,80,76,65,67,69] : TB9) [v2,v1,v3,v4]).bind fun v5 => (w21_num (a2.length : Int)).bind fun v6 => (ftext_Do ([77,73,68] : TB9) [v5,v1,v6]).bind fun v7 => (w21_text a2).bind fun v8 => cond ((decide (v7.1 = v8.1)) && ((v7.2.1.1 == v8.2.1.1) && ((decide (v7.2.1.2.1 = v8.2.1.2.1)) && ((decide (v7.2.1.2.2 = v8.2.1.2.2)) && ((decide (v7.2.2.1 = v8.2.2.1)) && ((v7.2.2.2.1 == v8.2.2.2.1) && (decide (v7.2.2.2.2 = v8.2.2.2.2)))))))) ((w21_num (a2.length : Int)).bind fun v9 => (w21_text ([] : TB9)).bind fun v10 => (ftext_Do ([82,69,80,76,65,67,69] : TB9) [v5,v1,v9,v10]).bind fun v11 => (w21_text a1).bind fun v12 => cond ((decide (v11.1 = v12.1)) && ((v11.2.1.1 == v12.2.1.1) && ((decide (v11.2.1.2.1 = v12.2.1.2.1)) && ((decide (v11.2.1.2.2 = v12.2.1.2.2)) && ((decide (v11.2.2.1 = v12.2.2.1)) && ((v11.2.2.2.1 == v12.2.2.2.1) && (decide (v11.2.2.2.2 = v12.2.2.2.2)))))))) ((w21_known).bind fun v13 => some v13) (some false)) (some false)) := (top_stage ..).trans (by kernel_rfl)
theorem r08_Plain_eq (x0 : TB9) : r08_Plain x0 = cond (decide ((x0.length : Int) > 200)) (some false) (r08_Plain_1 x0 0) := (top_call ..).trans (by kernel_rfl)
theorem r08_Plain_1_eq (a1 : TB9) (a2 : Int) : r08_Plain_1 a1 a2 = cond (decide (a2 < (a1.length : Int))) (cond (decide (0 ≤ a2) && decide (a2 < (a1.length : Int))) (cond (decide (((a1.getD a2.toNat 0).toNat : Int) < 32)) (r08_Plain_2 a1 a2 true) (cond (decide (0 ≤ a2) && decide (a2 < (a1.length : Int))) (r08_Plain_2 a1 a2 (decide (((a1.getD a2.toNat 0).toNat : Int) > 126))) none)) none) (some true) := (top_stage ..).trans (by kernel_rfl)
theorem r08_Plain_2_eq (a1 : TB9) (a2 : Int) (a3 : Bool) : r08_Plain_2 a1 a2 a3 = cond a3 (some false) (r08_Plain_1 a1 (IntKind.i64.wrap (a2 + 1))) := (top_stage ..).trans (by kernel_rfl)
theorem w21_num_eq (x0 : Int) : w21_num x0 = (r05_Of x0).bind fun v1 => (r08_Num v1).bind fun v2 => some v2 := (top_call ..).trans (by kernel_rfl)
theorem w21_text_eq (x0 : TB9) : w21_text x0 = (r08_Text x0).bind fun v1 => some v1 := (top_call ..).trans (by kernel_rfl)
theorem ftext_Do_at0 (x0 x1 : TV9) : ftext_Do [76,69,70,84] [x0,x1] = (ftext_limits [76,69,70,84]).bind fun v1 => cond (!v1.2.2) ((value_Fault 4).bind fun v2 => some v2) (cond (decide (2 < v1.1)) ((ftext_wrong).bind fun v3 => some v3) (cond (decide (2 > v1.2.1)) ((ftext_wrong).bind fun v4 => some v4) (ftext_Do_1 (0,(false,[],[]),[],false,0) ([x0,x1],0)))) := (top_call ..).trans (by kernel_rfl)
theorem ftext_Do_at1 (x0 x1 : TV9) : ftext_Do [82,73,71,72,84] [x0,x1] = (ftext_limits [82,73,71,72,84]).bind fun v1 => cond (!v1.2.2) ((value_Fault 4).bind fun v2 => some v2) (cond (decide (2 < v1.1)) ((ftext_wrong).bind fun v3 => some v3) (cond (decide (2 > v1.2.1)) ((ftext_wrong).bind fun v4 => some v4) (ftext_Do_2 (0,(false,[],[]),[],false,0) ([x0,x1],0)))) := (top_call ..).trans (by kernel_rfl)
theorem ftext_Do_at2 (x0 x1 : TV9) : ftext_Do [67,79,78,67,65,84] [x0,x1] = (ftext_limits [67,79,78,67,65,84]).bind fun v1 => cond (!v1.2.2) ((value_Fault 4).bind fun v2 => some v2) (cond (decide (2 < v1.1)) ((ftext_wrong).bind fun v3 => some v3) (cond (decide (2 > v1.2.1)) ((ftext_wrong).bind fun v4 => some v4) (ftext_Do_3 (0,(false,[],[]),[],false,0) ([x0,x1],0)))) := (top_call ..).trans (by kernel_rfl)
theorem ftext_Do_at3 (x0 : TV9) : ftext_Do [85,80,80,69,82] [x0] = (ftext_limits [85,80,80,69,82]).bind fun v1 => cond (!v1.2.2) ((value_Fault 4).bind fun v2 => some v2) (cond (decide (1 < v1.1)) ((ftext_wrong).bind fun v3 => some v3) (cond (decide (1 > v1.2.1)) ((ftext_wrong).bind fun v4 => some v4) (ftext_Do_4 (0,(false,[],[]),[],false,0) ([x0],0)))) := (top_call ..).trans (by kernel_rfl)
theorem ftext_Do_at4 (x0 : TV9) : ftext_Do [76,79,87,69,82] [x0] = (ftext_limits [76,79,87,69,82]).bind fun v1 => cond (!v1.2.2) ((value_Fault 4).bind fun v2 => some v2) (cond (decide (1 < v1.1)) ((ftext_wrong).bind fun v3 => some v3) (cond (decide (1 > v1.2.1)) ((ftext_wrong).bind fun v4 => some v4) (ftext_Do_5 (0,(false,[],[]),[],false,0) ([x0],0)))) := (top_call ..).trans (by kernel_rfl)
theorem ftext_Do_at5 (x0 x1 x2 x3 : TV9) : ftext_Do [82,69,80,76,65,67,69] [x0,x1,x2,x3] = (ftext_limits [82,69,80,76,65,67,69]).bind fun v1 => cond (!v1.2.2) ((value_Fault 4).bind fun v2 => some v2) (cond (decide (4 < v1.1)) ((ftext_wrong).bind fun v3 => some v3) (cond (decide (4 > v1.2.1)) ((ftext_wrong).bind fun v4 => some v4) (ftext_Do_6 (0,(false,[],[]),[],false,0) ([x0,x1,x2,x3],0)))) := (top_call ..).trans (by kernel_rfl)
theorem ftext_Do_at6 (x0 x1 x2 : TV9) : ftext_Do [77,73,68] [x0,x1,x2] = (ftext_limits [77,73,68]).bind fun v1 => cond (!v1.2.2) ((value_Fault 4).bind fun v2 => some v2) (cond (decide (3 < v1.1)) ((ftext_wrong).bind fun v3 => some v3) (cond (decide (3 > v1.2.1)) ((ftext_wrong).bind fun v4 => some v4) (ftext_Do_7 (0,(false,[],[]),[],false,0) ([x0,x1,x2],0)))) := (top_call ..).trans (by kernel_rfl)
theorem ftext_Do_1_eq (a1 : TV9) (a2 : (List (TV9)) × Int) : ftext_Do_1 a1 a2 = (abacist_ftext_taker_text a2).bind fun v1 => (abacist_ftext_taker_count v1.1 1).bind fun v2 => cond (!decide (v2.1.2 = 0)) ((value_Fault v2.1.2).bind fun v3 => some v3) (ftext_Do_8 a1 v2.1 v1.2 v2.2) := (top_stage ..).trans (by kernel_rfl)
theorem ftext_Do_2_eq (a1 : TV9) (a2 : (List (TV9)) × Int) : ftext_Do_2 a1 a2 = (abacist_ftext_taker_text a2).bind fun v1 => (abacist_ftext_taker_count v1.1 1).bind fun v2 => cond (!decide (v2.1.2 = 0)) ((value_Fault v2.1.2).bind fun v3 => some v3) (ftext_Do_9 a1 v2.1 v1.2 v2.2) := (top_stage ..).trans (by kernel_rfl)
theorem ftext_Do_3_eq (a1 : TV9) (a2 : (List (TV9)) × Int) : ftext_Do_3 a1 a2 = ftext_Do_10 a2 a1 := (top_stage ..).trans (by kernel_rfl)
theorem ftext_Do_4_eq (a1 : TV9) (a2 : (List (TV9)) × Int) : ftext_Do_4 a1 a2 = (abacist_ftext_taker_text a2).bind fun v1 => cond (!decide (v1.1.2 = 0)) ((value_Fault v1.1.2).bind fun v2 => some v2) (ftext_Do_11 a1 v1.1 v1.2) := (top_stage ..).trans (by kernel_rfl)
theorem ftext_Do_5_eq (a1 : TV9) (a2 : (List (TV9)) × Int) : ftext_Do_5 a1 a2 = (abacist_ftext_taker_text a2).bind fun v1 => cond (!decide (v1.1.2 = 0)) ((value_Fault v1.1.2).bind fun v2 => some v2) (ftext_Do_12 a1 v1.1 v1.2) := (top_stage ..).trans (by kernel_rfl)
theorem ftext_Do_6_eq (a1 : TV9) (a2 : (List (TV9)) × Int) : ftext_Do_6 a1 a2 = ftext_Do_13 a1 a2 := (top_stage ..).trans (by kernel_rfl)
theorem ftext_Do_7_eq (a1 : TV9) (a2 : (List (TV9)) × Int) : ftext_Do_7 a1 a2 = ftext_Do_14 a1 a2 := (top_stage ..).trans (by kernel_rfl)
theorem ftext_Do_8_eq (a1 : TV9) (a2 : (List (TV9)) × Int) (a3 : TB9) (a4 : Int) : ftext_Do_8 a1 a2 a3 a4 = (ftext_ends [76,69,70,84] a3 a4).bind fun v1 => some v1 := (top_stage ..).trans (by kernel_rfl)
theorem ftext_Do_9_eq (a1 : TV9) (a2 : (List (TV9)) × Int) (a3 : TB9) (a4 : Int) : ftext_Do_9 a1 a2 a3 a4 = (ftext_ends [82,73,71,72,84] a3 a4).bind fun v1 => some v1 := (top_stage ..).trans (by kernel_rfl)
theorem ftext_Do_10_eq (a1 : (List (TV9)) × Int) (a2 : TV9) : ftext_Do_10 a1 a2 = cond (decide ((a1.1.length : Int) > 0)) ((abacist_ftext_taker_text a1).bind fun v1 => cond (Nat.ble (([] : TB9).length + v1.2.length) 9223372036854775807) (ftext_Do_15 v1.1 (([] : TB9) ++ v1.2) a2) none) (cond (!decide (a1.2 = 0)) ((value_Fault a1.2).bind fun v2 => some v2) (ftext_Do_16 a1 a2)) := (top_stage ..).trans (by kernel_rfl)
theorem ftext_Do_11_eq (a1 : TV9) (a2 : (List (TV9)) × Int) (a3 : TB9) : ftext_Do_11 a1 a2 a3 = (ftext_ofText [85,80,80,69,82] a3).bind fun v1 => some v1 := (top_stage ..).trans (by kernel_rfl)
theorem ftext_Do_12_eq (a1 : TV9) (a2 : (List (TV9)) × Int) (a3 : TB9) : ftext_Do_12 a1 a2 a3 = (ftext_ofText [76,79,87,69,82] a3).bind fun v1 => some v1 := (top_stage ..).trans (by kernel_rfl)
theorem ftext_Do_13_eq (a1 : TV9) (a2 : (List (TV9)) × Int) : ftext_Do_13 a1 a2 = (abacist_ftext_taker_text a2).bind fun v1 => (abacist_ftext_taker_count v1.1 0).bind fun v2 => (abacist_ftext_taker_count v2.1 0).bind fun v3 => (abacist_ftext_taker_text v3.1).bind fun v4 => cond (!decide (v4.1.2 = 0)) ((value_Fault v4.1.2).bind fun v5 => some v5) (ftext_Do_17 a1 v4.1 v1.2 v2.2 v3.2 v4.2) := (top_stage ..).trans (by kernel_rfl)
theorem ftext_Do_14_eq (a1 : TV9) (a2 : (List (TV9)) × Int) : ftext_Do_14 a1 a2 = (abacist_ftext_taker_text a2).bind fun v1 => (abacist_ftext_taker_count v1.1 0).bind fun v2 => (abacist_ftext_taker_count v2.1 0).bind fun v3 => cond (!decide (v3.1.2 = 0)) ((value_Fault v3.1.2).bind fun v4 => some v4) (ftext_Do_18 a1 v3.1 v1.2 v2.2 v3.2) := (top_stage ..).trans (by kernel_rfl)
theorem ftext_Do_15_eq (a1 : (List (TV9)) × Int) (a2 : TB9) (a3 : TV9) : ftext_Do_15 a1 a2 a3 = cond (decide ((a1.1.length : Int) > 0)) ((abacist_ftext_taker_text a1).bind fun v1 => cond (Nat.ble (a2.length + v1.2.length) 9223372036854775807) (ftext_Do_15 v1.1 (a2 ++ v1.2) a3) none) (cond (!decide (a1.2 = 0)) ((value_Fault a1.2).bind fun v2 => some v2) (ftext_Do_19 a1 a2 a3)) := (top_stage ..).trans (by kernel_rfl)
theorem ftext_Do_17_eq (a1 : TV9) (a2 : (List (TV9)) × Int) (a3 : TB9) (a4 a5 : Int) (a6 : TB9) : ftext_Do_17 a1 a2 a3 a4 a5 a6 = (ftext_piece a3 a4 a5).bind fun v1 => cond (!v1.2.2.2) ((ftext_wrong).bind fun v2 => some v2) (cond (Nat.ble (v1.1.length + a6.length) 9223372036854775807) (cond (Nat.ble ((v1.1 ++ a6).length + v1.2.2.1.length) 9223372036854775807) ((value_Text ((v1.1 ++ a6) ++ v1.2.2.1)).bind fun v3 => some v3) none) none) := (top_stage ..).trans (by kernel_rfl)
theorem ftext_Do_18_eq (a1 : TV9) (a2 : (List (TV9)) × Int) (a3 : TB9) (a4 a5 : Int) : ftext_Do_18 a1 a2 a3 a4 a5 = (ftext_piece a3 a4 a5).bind fun v1 => cond (!v1.2.2.2) ((ftext_wrong).bind fun v2 => some v2) ((value_Text v1.2.1).bind fun v3 => some v3) := (top_stage ..).trans (by kernel_rfl)
theorem ftext_Do_19_eq (a1 : (List (TV9)) × Int) (a2 : TB9) (a3 : TV9) : ftext_Do_19 a1 a2 a3 = (value_Text a2).bind fun v1 => some v1 := (top_stage ..).trans (by kernel_rfl)
theorem r08_Num_eq (x0 : Bool × TB9 × TB9) : r08_Num x0 = (r05_Well x0).bind fun v1 => some (1,v1,[],false,0) := (top_call ..).trans (by kernel_rfl)
theorem r08_Fault_eq (x0 : Int) : r08_Fault x0 = cond (decide (x0 < 1)) (r08_Fault_1 x0 true (0,(false,[],[]),[],false,0)) (r08_Fault_1 x0 (decide (x0 > 7)) (0,(false,[],[]),[],false,0)) := (top_call ..).trans (by kernel_rfl)
theorem r08_Fault_1_eq (a1 : Int) (a2 : Bool) (a3 : TV9) : r08_Fault_1 a1 a2 a3 = cond a2 (r08_Fault_2 2 a3) (r08_Fault_2 a1 a3) := (top_stage ..).trans (by kernel_rfl)
theorem r08_Fault_2_eq (a1 : Int) (a2 : TV9) : r08_Fault_2 a1 a2 = some (4,(false,[],[]),[],false,a1) := (top_stage ..).trans (by kernel_rfl)
theorem r05_Of_eq (x0 : Int) : r05_Of x0 = (r04_Of x0).bind fun v1 => (r04_Of 1).bind fun v2 => (r05_Make v1 v2).bind fun v3 => some v3.1 := (top_call ..).trans (by kernel_rfl)
theorem r08_Text_eq (x0 : TB9) : r08_Text x0 = (r08_Plain x0).bind fun v1 => cond (!v1) ((r08_Fault 2).bind fun v2 => some v2) (some (2,(false,[],[]),x0,false,0)) := (top_call ..).trans (by kernel_rfl)
theorem value_Fault_eq (x0 : Int) : value_Fault x0 = (value_Name x0).bind fun v1 => cond (decide (v1 = ([] : TB9))) (value_Fault_1 2 (0,(false,[],[]),[],false,0)) (value_Fault_1 x0 (0,(false,[],[]),[],false,0)) := (top_call ..).trans (by kernel_rfl)
theorem value_Fault_1_eq (a1 : Int) (a2 : TV9) : value_Fault_1 a1 a2 = some (4,(false,[],[]),[],false,a1) := (top_stage ..).trans (by kernel_rfl)
theorem r05_Well_eq (x0 : Bool × TB9 × TB9) : r05_Well x0 = (r05_Right x0).bind fun v1 => cond (!v1) ((r05_Zero).bind fun v2 => some v2) (some x0) := (top_call ..).trans (by kernel_rfl)
theorem r04_Of_eq (x0 : Int) : r04_Of x0 = cond (decide (x0 < 0)) ((r01_Of (IntKind.u64.wrap (0 - (IntKind.u64.wrap x0)))).bind fun v1 => (r04_Make true v1).bind fun v2 => some v2) ((r01_Of (IntKind.u64.wrap x0)).bind fun v3 => (r04_Make false v3).bind fun v4 => some v4) := (top_call ..).trans (by kernel_rfl)
theorem r05_Make_eq (x0 x1 : Bool × TB9) : r05_Make x0 x1 = (r04_Make x0.1 x0.2).bind fun v1 => (r04_Make x1.1 x1.2).bind fun v2 => cond (decide (v2.2 = ([] : TB9))) (some ((false,[],[]),5)) ((r02_Gcd v1.2 v2.2).bind fun v3 => (r02_Div v1.2 v3).bind fun v4 => (r02_Div v2.2 v3).bind fun v5 => (r01_Bits v4).bind fun v6 => cond (decide (v6 > 256)) (r05_Make_1 v4 v5 true (false,[],[]) v1 v2) ((r01_Bits v5).bind fun v7 => r05_Make_1 v4 v5 (decide (v7 > 256)) (false,[],[]) v1 v2)) := (top_call ..).trans (by kernel_rfl)
theorem r05_Make_1_eq (a1 a2 : TB9) (a3 : Bool) (a4 : Bool × TB9 × TB9) (a5 a6 : Bool × TB9) : r05_Make_1 a1 a2 a3 a4 a5 a6 = cond a3 (some ((false,[],[]),4)) (cond (!decide (a1 = ([] : TB9))) (some ((!(a5.1 == a6.1),a1,a2),0)) (some ((false,a1,a2),0))) := (top_stage ..).trans (by kernel_rfl)
theorem value_Name_eq (x0 : Int) : value_Name x0 = value_Name_1 x0 := (top_call ..).trans (by kernel_rfl)
theorem value_Name_1_eq (a1 : Int) : value_Name_1 a1 = cond (decide (a1 < 0)) (value_Name_2 a1 true ([] : TB9) ([35,68,73,86,47,48,33] : TB9) ([35,86,65,76,85,69,33] : TB9) ([35,82,69,70,33] : TB9) ([35,78,65,77,69,63] : TB9) ([35,78,85,77,33] : TB9) ([35,78,47,65] : TB9) ([35,67,73,82,67,33] : TB9)) (value_Name_2 a1 (decide (a1 ≥ 8)) ([] : TB9) ([35,68,73,86,47,48,33] : TB9) ([35,86,65,76,85,69,33] : TB9) ([35,82,69,70,33] : TB9) ([35,78,65,77,69,63] : TB9) ([35,78,85,77,33] : TB9) ([35,78,47,65] : TB9) ([35,67,73,82,67,33] : TB9)) := (top_stage ..).trans (by kernel_rfl)
theorem value_Name_2_eq (a1 : Int) (a2 : Bool) (a3 a4 a5 a6 a7 a8 a9 a10 : TB9) : value_Name_2 a1 a2 a3 a4 a5 a6 a7 a8 a9 a10 = cond a2 (some ([] : TB9)) (cond (decide (0 ≤ a1) && decide (a1 < (8 : Int))) (some (([a3,a4,a5,a6,a7,a8,a9,a10] : List (TB9)).getD a1.toNat [])) none) := (top_stage ..).trans (by kernel_rfl)
theorem abacist_ftext_taker_text_eq (x0 : (List (TV9)) × Int) : abacist_ftext_taker_text x0 = abacist_ftext_taker_text_1 x0 := (top_call ..).trans (by kernel_rfl)
theorem abacist_ftext_taker_text_1_eq (a1 : (List (TV9)) × Int) : abacist_ftext_taker_text_1 a1 = cond (decide (0 ≤ 0) && decide (0 < (a1.1.length : Int))) (cond (decide (0 ≤ 1) && decide (1 ≤ (a1.1.length : Int))) ((coerce_Text (a1.1.getD 0 (0,(false,[],[]),[],false,0))).bind fun v1 => abacist_ftext_taker_text_2 v1.2 (a1.1.drop 1,a1.2) (a1.1.getD 0 (0,(false,[],[]),[],false,0)) (a1.1.getD 0 (0,(false,[],[]),[],false,0)) v1.1) none) none := (top_stage ..).trans (by kernel_rfl)
theorem abacist_ftext_taker_text_2_eq (a1 : Int) (a2 : (List (TV9)) × Int) (a3 a4 : TV9) (a5 : TB9) : abacist_ftext_taker_text_2 a1 a2 a3 a4 a5 = cond (decide (a2.2 = 0)) (some ((a2.1,a1),a5)) (some (a2,a5)) := (top_stage ..).trans (by kernel_rfl)
theorem abacist_ftext_taker_count_eq (x0 : (List (TV9)) × Int) (x1 : Int) : abacist_ftext_taker_count x0 x1 = cond (decide ((x0.1.length : Int) = 0)) (some (x0,x1)) (abacist_ftext_taker_count_1 x0) := (top_call ..).trans (by kernel_rfl)
theorem abacist_ftext_taker_count_1_eq (a1 : (List (TV9)) × Int) : abacist_ftext_taker_count_1 a1 = cond (decide (0 ≤ 0) && decide (0 < (a1.1.length : Int))) (cond (decide (0 ≤ 1) && decide (1 ≤ (a1.1.length : Int))) ((coerce_Num (a1.1.getD 0 (0,(false,[],[]),[],false,0))).bind fun v1 => abacist_ftext_taker_count_2 v1.2 (a1.1.drop 1,a1.2) (a1.1.getD 0 (0,(false,[],[]),[],false,0)) (a1.1.getD 0 (0,(false,[],[]),[],false,0)) v1.1) none) none := (top_stage ..).trans (by kernel_rfl)
theorem abacist_ftext_taker_count_2_eq (a1 : Int) (a2 : (List (TV9)) × Int) (a3 a4 : TV9) (a5 : Bool × TB9 × TB9) : abacist_ftext_taker_count_2 a1 a2 a3 a4 a5 = cond (decide (a2.2 = 0)) (abacist_ftext_taker_count_3 (a2.1,a1) a5) (abacist_ftext_taker_count_3 a2 a5) := (top_stage ..).trans (by kernel_rfl)
theorem abacist_ftext_taker_count_3_eq (a1 : (List (TV9)) × Int) (a2 : Bool × TB9 × TB9) : abacist_ftext_taker_count_3 a1 a2 = (round_Trunc a2).bind fun v1 => (round_Small v1).bind fun v2 => cond (!v2.2) (abacist_ftext_taker_count_4 v2.1 true a1) (cond (decide (v2.1 < (-1000000))) (abacist_ftext_taker_count_4 v2.1 true a1) (abacist_ftext_taker_count_4 v2.1 (decide (v2.1 > 1000000)) a1)) := (top_stage ..).trans (by kernel_rfl)
theorem abacist_ftext_taker_count_4_eq (a1 : Int) (a2 : Bool) (a3 : (List (TV9)) × Int) : abacist_ftext_taker_count_4 a1 a2 a3 = cond a2 (abacist_ftext_taker_count_5 2 a3 a1) (some (a3,a1)) := (top_stage ..).trans (by kernel_rfl)
theorem r05_Right_eq (x0 : Bool × TB9 × TB9) : r05_Right x0 = cond (decide ((x0.2.1.length : Int) > 32)) (r05_Right_1 true x0) (cond (decide ((x0.2.2.length : Int) > 32)) (r05_Right_1 true x0) (cond (decide (x0.2.2 = ([] : TB9))) (r05_Right_1 true x0) ((r01_Trim x0.2.1).bind fun v1 => cond (!decide (v1 = x0.2.1)) (r05_Right_1 true x0) ((r01_Trim x0.2.2).bind fun v2 => r05_Right_1 (!decide (v2 = x0.2.2)) x0)))) := (top_call ..).trans (by kernel_rfl)
theorem r05_Right_1_eq (a1 : Bool) (a2 : Bool × TB9 × TB9) : r05_Right_1 a1 a2 = cond a1 (some false) (cond (decide (a2.2.1 = ([] : TB9))) (cond (!a2.1) (some (decide (a2.2.2 = ([1] : TB9)))) (some false)) ((r02_Gcd a2.2.1 a2.2.2).bind fun v1 => some (decide (v1 = ([1] : TB9))))) := (top_stage ..).trans (by kernel_rfl)
theorem r05_Zero_eq : r05_Zero = some (false,[],([1] : TB9)) := (top_call ..).trans (by kernel_rfl)
theorem r04_Make_eq (x0 : Bool) (x1 : TB9) : r04_Make x0 x1 = (r01_Trim x1).bind fun v1 => cond x0 (some (!decide (v1 = ([] : TB9)),v1)) (some (false,v1)) := (top_call ..).trans (by kernel_rfl)
theorem r02_Div_eq (x0 x1 : TB9) : r02_Div x0 x1 = (r02_DivMod x0 x1).bind fun v1 => some v1.1 := (top_call ..).trans (by kernel_rfl)
theorem coerce_Text_eq (x0 : TV9) : coerce_Text x0 = (coerce_cell_fault x0).bind fun v1 => cond (!decide (v1 = 0)) (some (([] : TB9),v1)) ((value_Show x0).bind fun v2 => some (v2,0)) := (top_call ..).trans (by kernel_rfl)
theorem value_Text_eq (x0 : TB9) : value_Text x0 = (value_plain x0).bind fun v1 => cond (!v1) ((value_Fault 2).bind fun v2 => some v2) (some (2,(false,[],[]),x0,false,0)) := (top_call ..).trans (by kernel_rfl)
theorem coerce_Num_eq (x0 : TV9) : coerce_Num x0 = (coerce_cell_fault x0).bind fun v1 => cond (!decide (v1 = 0)) (some ((false,[],[]),v1)) (cond (decide (x0.1 = 1)) (some (x0.2.1,0)) (cond (decide (x0.1 = 2)) ((numtext_Parse x0.2.2.1).bind fun v2 => cond (!decide (v2.2 = 0)) (some ((false,[],[]),2)) (some (v2.1,0))) ((coerce_bit x0.2.2.2.1).bind fun v3 => (rat_Of v3).bind fun v4 => some (v4,0)))) := (top_call ..).trans (by kernel_rfl)
theorem round_Trunc_eq (x0 : Bool × TB9 × TB9) : round_Trunc x0 = (round_well x0).bind fun v1 => (divide_DivMod v1.2.1 v1.2.2).bind fun v2 => cond (!decide (v2.2.2 = 0)) ((rat_Of 0).bind fun v3 => some v3) ((whole_Make v1.1 v2.1).bind fun v4 => (round_made v4).bind fun v5 => some v5.1) := (top_call ..).trans (by kernel_rfl)
theorem round_Small_eq (x0 : Bool × TB9 × TB9) : round_Small x0 = (round_Whole x0).bind fun v1 => cond (!v1) (some (0,false)) ((round_well x0).bind fun v2 => (round_top v2).bind fun v3 => (whole_Small v3).bind fun v4 => some v4) := (top_call ..).trans (by kernel_rfl)
theorem ftext_ends_eq (x0 x1 : TB9) (x2 : Int) : ftext_ends x0 x1 x2 = cond (decide (x2 < 0)) ((ftext_wrong).bind fun v1 => some v1) (cond (decide (x0 = ([82,73,71,72,84] : TB9))) (cond (decide (0 ≤ (IntKind.i64.wrap ((x1.length : Int) - (min x2 (x1.length : Int))))) && decide ((IntKind.i64.wrap ((x1.length : Int) - (min x2 (x1.length : Int)))) ≤ (x1.length : Int))) ((value_Text (x1.drop ((IntKind.i64.wrap ((x1.length : Int) - (min x2 (x1.length : Int)))).toNat))).bind fun v2 => some v2) none) (cond (decide (0 ≤ (min x2 (x1.length : Int))) && decide ((min x2 (x1.length : Int)) ≤ (x1.length : Int))) ((value_Text (x1.take ((min x2 (x1.length : Int)).toNat))).bind fun v3 => some v3) none)) := (top_call ..).trans (by kernel_rfl)
theorem ftext_ofText_eq (x0 x1 : TB9) : ftext_ofText x0 x1 = cond (decide (x0 = ([76,69,78] : TB9))) ((ftext_count (x1.length : Int)).bind fun v1 => some v1) (cond (decide (x0 = ([84,82,73,77] : TB9))) ((ftext_trimmed x1).bind fun v2 => (value_Text v2).bind fun v3 => some v3) (cond (decide (x0 = ([86,65,76,85,69] : TB9))) ((numtext_Parse x1).bind fun v4 => cond (decide (v4.2 = 0)) ((value_Num v4.1).bind fun v5 => some v5) ((ftext_wrong).bind fun v6 => some v6)) (cond (decide (x0 = ([67,79,68,69] : TB9))) (cond (decide (x1 = ([] : TB9))) ((ftext_wrong).bind fun v7 => some v7) (cond (decide (0 ≤ 0) && decide (0 < (x1.length : Int))) ((ftext_count (IntKind.i64.wrap ((x1.getD 0 0).toNat : Int))).bind fun v8 => some v8) none)) ((ftext_cased x1 (decide (x0 = ([85,80,80,69,82] : TB9))) (decide (x0 = ([80,82,79,80,69,82] : TB9)))).bind fun v9 => (value_Text v9).bind fun v10 => some v10)))) := (top_call ..).trans (by kernel_rfl)
theorem coerce_cell_fault_eq (x0 : TV9) : coerce_cell_fault x0 = (value_Right x0).bind fun v1 => cond (!v1) (some 2) (some x0.2.2.2.2) := (top_call ..).trans (by kernel_rfl)
theorem value_Show_eq (x0 : TV9) : value_Show x0 = (value_Right x0).bind fun v1 => cond (!v1) (some ([] : TB9)) (cond (decide (x0.1 = 1)) ((numtext_Text x0.2.1).bind fun v2 => some v2) (cond (decide (x0.1 = 3)) (cond x0.2.2.2.1 (some ([84,82,85,69] : TB9)) (some ([70,65,76,83,69] : TB9))) (cond (decide (x0.1 = 4)) ((value_Name x0.2.2.2.2).bind fun v3 => some v3) (some x0.2.2.1)))) := (top_call ..).trans (by kernel_rfl)
theorem value_plain_eq (x0 : TB9) : value_plain x0 = value_plain_1 x0 (x0.map fun b => (b.toNat : Int)) ((x0.map fun b => (b.toNat : Int)).length : Int) 0 := (top_call ..).trans (by kernel_rfl)
theorem value_plain_1_eq (a1 : TB9) (a2 : List Int) (a3 a4 : Int) : value_plain_1 a1 a2 a3 a4 = cond (decide (a4 < a3)) (cond (decide (0 ≤ a4) && decide (a4 < (a2.length : Int))) (cond (decide ((a2.getD a4.toNat 0) < 32)) (value_plain_2 a1 a2 a3 a4 true) (value_plain_2 a1 a2 a3 a4 (decide ((a2.getD a4.toNat 0) > 126)))) none) (some (decide ((a1.length : Int) ≤ 200))) := (top_stage ..).trans (by kernel_rfl)
theorem value_plain_2_eq (a1 : TB9) (a2 : List Int) (a3 a4 : Int) (a5 : Bool) : value_plain_2 a1 a2 a3 a4 a5 = cond a5 (some false) (value_plain_1 a1 a2 a3 (IntKind.i64.wrap (a4 + 1))) := (top_stage ..).trans (by kernel_rfl)
theorem value_Truth_eq (x0 : Bool) : value_Truth x0 = some (3,(false,[],[]),[],x0,0) := (top_call ..).trans (by kernel_rfl)
theorem ftext_piece_eq (x0 : TB9) (x1 x2 : Int) : ftext_piece x0 x1 x2 = cond (decide (x1 < 1)) (ftext_piece_1 x0 x1 x2 true) (ftext_piece_1 x0 x1 x2 (decide (x2 < 0))) := (top_call ..).trans (by kernel_rfl)
theorem ftext_piece_1_eq (a1 : TB9) (a2 a3 : Int) (a4 : Bool) : ftext_piece_1 a1 a2 a3 a4 = cond a4 (some (([] : TB9),([] : TB9),([] : TB9),false)) (cond (decide (0 ≤ (min (IntKind.i64.wrap (a2 - 1)) (a1.length : Int))) && decide ((min (IntKind.i64.wrap (a2 - 1)) (a1.length : Int)) ≤ (a1.length : Int))) (cond (decide (0 ≤ (min (IntKind.i64.wrap (a2 - 1)) (a1.length : Int))) && (decide ((min (IntKind.i64.wrap (a2 - 1)) (a1.length : Int)) ≤ (IntKind.i64.wrap ((min (IntKind.i64.wrap (a2 - 1)) (a1.length : Int)) + (min a3 (IntKind.i64.wrap ((a1.length : Int) - (min (IntKind.i64.wrap (a2 - 1)) (a1.length : Int)))))))) && decide ((IntKind.i64.wrap ((min (IntKind.i64.wrap (a2 - 1)) (a1.length : Int)) + (min a3 (IntKind.i64.wrap ((a1.length : Int) - (min (IntKind.i64.wrap (a2 - 1)) (a1.length : Int))))))) ≤ (a1.length : Int)))) (cond (decide (0 ≤ (IntKind.i64.wrap ((min (IntKind.i64.wrap (a2 - 1)) (a1.length : Int)) + (min a3 (IntKind.i64.wrap ((a1.length : Int) - (min (IntKind.i64.wrap (a2 - 1)) (a1.length : Int)))))))) && decide ((IntKind.i64.wrap ((min (IntKind.i64.wrap (a2 - 1)) (a1.length : Int)) + (min a3 (IntKind.i64.wrap ((a1.length : Int) - (min (IntKind.i64.wrap (a2 - 1)) (a1.length : Int))))))) ≤ (a1.length : Int))) (some (a1.take ((min (IntKind.i64.wrap (a2 - 1)) (a1.length : Int)).toNat),(a1.take ((IntKind.i64.wrap ((min (IntKind.i64.wrap (a2 - 1)) (a1.length : Int)) + (min a3 (IntKind.i64.wrap ((a1.length : Int) - (min (IntKind.i64.wrap (a2 - 1)) (a1.length : Int))))))).toNat)).drop ((min (IntKind.i64.wrap (a2 - 1)) (a1.length : Int)).toNat),a1.drop ((IntKind.i64.wrap ((min (IntKind.i64.wrap (a2 - 1)) (a1.length : Int)) + (min a3 (IntKind.i64.wrap ((a1.length : Int) - (min (IntKind.i64.wrap (a2 - 1)) (a1.length : Int))))))).toNat),true)) none) none) none) := (top_stage ..).trans (by kernel_rfl)
theorem numtext_Parse_eq (x0 : TB9) : numtext_Parse x0 = (strings_CutPrefix x0 ([45] : TB9)).bind fun v1 => (strings_Cut v1.1 ([47] : TB9)).bind fun v2 => cond v2.2.2 ((numtext_fraction v2.1 v2.2.1).bind fun v3 => numtext_Parse_1 v1.2 v3.2 (false,[],[]) v3.1) ((numtext_Decimal v1.1).bind fun v4 => numtext_Parse_1 v1.2 v4.2 (false,[],[]) v4.1) := (top_call ..).trans (by kernel_rfl)
theorem numtext_Parse_1_eq (a1 : Bool) (a2 : Int) (a3 a4 : Bool × TB9 × TB9) : numtext_Parse_1 a1 a2 a3 a4 = cond (decide (a2 = 0)) (numtext_Parse_2 a2 a1 a3 a4) (numtext_Parse_2 a2 false a3 a4) := (top_stage ..).trans (by kernel_rfl)
theorem numtext_Parse_2_eq (a1 : Int) (a2 : Bool) (a3 a4 : Bool × TB9 × TB9) : numtext_Parse_2 a1 a2 a3 a4 = cond a2 ((rat_Neg a4).bind fun v1 => numtext_Parse_3 a1 a3 v1) (numtext_Parse_3 a1 a3 a4) := (top_stage ..).trans (by kernel_rfl)
theorem numtext_Parse_3_eq (a1 : Int) (a2 a3 : Bool × TB9 × TB9) : numtext_Parse_3 a1 a2 a3 = some (a3,a1) := (top_stage ..).trans (by kernel_rfl)
theorem coerce_bit_eq (x0 : Bool) : coerce_bit x0 = cond x0 (some 1) (some 0) := (top_call ..).trans (by kernel_rfl)
theorem rat_Of_eq (x0 : Int) : rat_Of x0 = (whole_Of x0).bind fun v1 => some (v1.1,v1.2,([1] : TB9)) := (top_call ..).trans (by kernel_rfl)
theorem round_well_eq (x0 : Bool × TB9 × TB9) : round_well x0 = (rat_Right x0).bind fun v1 => cond v1 (some x0) ((rat_Of 0).bind fun v2 => some v2) := (top_call ..).trans (by kernel_rfl)
theorem whole_Make_eq (x0 : Bool) (x1 : TB9) : whole_Make x0 x1 = (nat_Trim x1).bind fun v1 => cond x0 (some (!decide (v1 = ([] : TB9)),v1)) (some (false,v1)) := (top_call ..).trans (by kernel_rfl)
theorem round_made_eq (x0 : Bool × TB9) : round_made x0 = (whole_Of 1).bind fun v1 => (rat_Make x0 v1).bind fun v2 => some v2 := (top_call ..).trans (by kernel_rfl)
theorem round_Whole_eq (x0 : Bool × TB9 × TB9) : round_Whole x0 = (round_well x0).bind fun v1 => some (decide (v1.2.2 = ([1] : TB9))) := (top_call ..).trans (by kernel_rfl)
theorem round_top_eq (x0 : Bool × TB9 × TB9) : round_top x0 = some (x0.1,x0.2.1) := (top_call ..).trans (by kernel_rfl)
theorem whole_Small_eq (x0 : Bool × TB9) : whole_Small x0 = (whole_well x0).bind fun v1 => (nat_Small v1.2).bind fun v2 => cond v1.1 (whole_Small_1 (IntKind.u64.wrap (0 - v2.1)) v2.2 v1) (whole_Small_1 v2.1 v2.2 v1) := (top_call ..).trans (by kernel_rfl)
theorem whole_Small_1_eq (a1 : Int) (a2 : Bool) (a3 : Bool × TB9) : whole_Small_1 a1 a2 a3 = cond (!a2) (whole_Small_2 a1 true) ((whole_Of (IntKind.i64.wrap a1)).bind fun v1 => whole_Small_2 a1 (!((v1.1 == a3.1) && (decide (v1.2 = a3.2))))) := (top_stage ..).trans (by kernel_rfl)
theorem whole_Small_2_eq (a1 : Int) (a2 : Bool) : whole_Small_2 a1 a2 = cond a2 (some (0,false)) (some (IntKind.i64.wrap a1,true)) := (top_stage ..).trans (by kernel_rfl)
theorem numtext_Text_eq (x0 : Bool × TB9 × TB9) : numtext_Text x0 = (numtext_well x0).bind fun v1 => cond v1.1 (numtext_Text_1 ([45] : TB9) v1) (numtext_Text_1 ([] : TB9) v1) := (top_call ..).trans (by kernel_rfl)
theorem numtext_Text_1_eq (a1 : TB9) (a2 : Bool × TB9 × TB9) : numtext_Text_1 a1 a2 = (numtext_Ends a2).bind fun v1 => cond v1.2 (numtext_Text_2 a1 (decide (v1.1 ≤ 20)) a2) (numtext_Text_2 a1 false a2) := (top_stage ..).trans (by kernel_rfl)
theorem numtext_Text_2_eq (a1 : TB9) (a2 : Bool) (a3 : Bool × TB9 × TB9) : numtext_Text_2 a1 a2 a3 = cond a2 ((numtext_Point a3).bind fun v1 => cond (Nat.ble (a1.length + v1.1.length) 9223372036854775807) (some (a1 ++ v1.1)) none) ((dec_Text a3.2.1).bind fun v2 => cond (Nat.ble (a1.length + v2.length) 9223372036854775807) (cond (Nat.ble ((a1 ++ v2).length + ([47] : TB9).length) 9223372036854775807) ((dec_Text a3.2.2).bind fun v3 => cond (Nat.ble (((a1 ++ v2) ++ ([47] : TB9)).length + v3.length) 9223372036854775807) (some (((a1 ++ v2) ++ ([47] : TB9)) ++ v3)) none) none) none) := (top_stage ..).trans (by kernel_rfl)
theorem value_Num_eq (x0 : Bool × TB9 × TB9) : value_Num x0 = (rat_Right x0).bind fun v1 => cond (!v1) ((rat_Of 0).bind fun v2 => value_Num_1 v2 (0,(false,[],[]),[],false,0)) (value_Num_1 x0 (0,(false,[],[]),[],false,0)) := (top_call ..).trans (by kernel_rfl)
theorem value_Num_1_eq (a1 : Bool × TB9 × TB9) (a2 : TV9) : value_Num_1 a1 a2 = some (1,a1,[],false,0) := (top_stage ..).trans (by kernel_rfl)
theorem ftext_cased_eq (x0 : TB9) (x1 x2 : Bool) : ftext_cased x0 x1 x2 = ftext_cased_1 x0 x1 x2 ((x0.map fun b => (b.toNat : Int)).length : Int) 0 (x0.map fun b => (b.toNat : Int)) := (top_call ..).trans (by kernel_rfl)
theorem ftext_cased_1_eq (a1 : TB9) (a2 a3 : Bool) (a4 a5 : Int) (a6 : List Int) : ftext_cased_1 a1 a2 a3 a4 a5 a6 = cond (decide (a5 < a4)) (cond (decide (0 ≤ a5) && decide (a5 < (a6.length : Int))) ((ftext_letter (a6.getD a5.toNat 0)).bind fun v1 => cond (!v1) (ftext_cased_2 a1 a2 a3 a4 a5 a6) (cond a2 (ftext_cased_3 a1 a2 a3 a5 (a6.getD a5.toNat 0) true a4 a5 a6) (cond a3 (cond (decide (a5 = 0)) (ftext_cased_3 a1 a2 a3 a5 (a6.getD a5.toNat 0) true a4 a5 a6) (cond (decide (0 ≤ (IntKind.i64.wrap (a5 - 1))) && decide ((IntKind.i64.wrap (a5 - 1)) < (a1.length : Int))) ((ftext_letter ((a1.getD ((IntKind.i64.wrap (a5 - 1)).toNat) 0).toNat : Int)).bind fun v2 => ftext_cased_3 a1 a2 a3 a5 (a6.getD a5.toNat 0) (!v2) a4 a5 a6) none)) (ftext_cased_3 a1 a2 a3 a5 (a6.getD a5.toNat 0) false a4 a5 a6)))) none) (some (bytesOf a6)) := (top_stage ..).trans (by kernel_rfl)
theorem ftext_cased_2_eq (a1 : TB9) (a2 a3 : Bool) (a4 a5 : Int) (a6 : List Int) : ftext_cased_2 a1 a2 a3 a4 a5 a6 = ftext_cased_1 a1 a2 a3 a4 (IntKind.i64.wrap (a5 + 1)) a6 := (top_stage ..).trans (by kernel_rfl)
theorem ftext_cased_3_eq (a1 : TB9) (a2 a3 : Bool) (a4 a5 : Int) (a6 : Bool) (a7 a8 : Int) (a9 : List Int) : ftext_cased_3 a1 a2 a3 a4 a5 a6 a7 a8 a9 = cond (decide (0 ≤ a4) && decide (a4 < (a9.length : Int))) (cond a6 (cond (decide (0 ≤ a4) && decide (a4 < ((a9.set a4.toNat (bitop .or .u8 a5 32)).length : Int))) (ftext_cased_2 a1 a2 a3 a7 a8 ((a9.set a4.toNat (bitop .or .u8 a5 32)).set a4.toNat (bitop .andNot .u8 a5 32))) none) (ftext_cased_2 a1 a2 a3 a7 a8 (a9.set a4.toNat (bitop .or .u8 a5 32)))) none := (top_stage ..).trans (by kernel_rfl)
theorem numtext_Decimal_eq (x0 : TB9) : numtext_Decimal x0 = (strings_Cut x0 ([46] : TB9)).bind fun v1 => (numtext_digits v1.1).bind fun v2 => cond (!v2) (numtext_Decimal_1 x0 v1.1 v1.2.1 true (false,[],[])) (cond v1.2.2 ((numtext_digits v1.2.1).bind fun v3 => numtext_Decimal_1 x0 v1.1 v1.2.1 (!v3) (false,[],[])) (numtext_Decimal_1 x0 v1.1 v1.2.1 false (false,[],[]))) := (top_call ..).trans (by kernel_rfl)
theorem numtext_Decimal_1_eq (a1 a2 a3 : TB9) (a4 : Bool) (a5 : Bool × TB9 × TB9) : numtext_Decimal_1 a1 a2 a3 a4 a5 = cond a4 (some ((false,[],[]),10)) (cond (decide ((a1.length : Int) > 400)) (some ((false,[],[]),9)) (cond (Nat.ble (a2.length + a3.length) 9223372036854775807) ((dec_Parse (a2 ++ a3)).bind fun v1 => cond (!decide (v1.2 = 0)) (some ((false,[],[]),v1.2)) ((whole_Make false v1.1).bind fun v2 => (numtext_power 10 (a3.length : Int)).bind fun v3 => (whole_Make false v3).bind fun v4 => (rat_Make v2 v4).bind fun v5 => some v5)) none)) := (top_stage ..).trans (by kernel_rfl)
theorem value_Right_eq (x0 : TV9) : value_Right x0 = cond (decide (x0.1 = 0)) (some ((decide (x0.1 = 0)) && ((x0.2.1.1 == false) && ((decide (x0.2.1.2.1 = [])) && ((decide (x0.2.1.2.2 = [])) && ((decide (x0.2.2.1 = [])) && ((x0.2.2.2.1 == false) && (decide (x0.2.2.2.2 = 0))))))))) (cond (decide (x0.1 = 1)) ((value_Num x0.2.1).bind fun v1 => some ((decide (x0.1 = v1.1)) && ((x0.2.1.1 == v1.2.1.1) && ((decide (x0.2.1.2.1 = v1.2.1.2.1)) && ((decide (x0.2.1.2.2 = v1.2.1.2.2)) && ((decide (x0.2.2.1 = v1.2.2.1)) && ((x0.2.2.2.1 == v1.2.2.2.1) && (decide (x0.2.2.2.2 = v1.2.2.2.2))))))))) (cond (decide (x0.1 = 2)) ((value_Text x0.2.2.1).bind fun v2 => some ((decide (x0.1 = v2.1)) && ((x0.2.1.1 == v2.2.1.1) && ((decide (x0.2.1.2.1 = v2.2.1.2.1)) && ((decide (x0.2.1.2.2 = v2.2.1.2.2)) && ((decide (x0.2.2.1 = v2.2.2.1)) && ((x0.2.2.2.1 == v2.2.2.2.1) && (decide (x0.2.2.2.2 = v2.2.2.2.2))))))))) (cond (decide (x0.1 = 3)) ((value_Truth x0.2.2.2.1).bind fun v3 => some ((decide (x0.1 = v3.1)) && ((x0.2.1.1 == v3.2.1.1) && ((decide (x0.2.1.2.1 = v3.2.1.2.1)) && ((decide (x0.2.1.2.2 = v3.2.1.2.2)) && ((decide (x0.2.2.1 = v3.2.2.1)) && ((x0.2.2.2.1 == v3.2.2.2.1) && (decide (x0.2.2.2.2 = v3.2.2.2.2))))))))) (cond (decide (x0.1 = 4)) ((value_Fault x0.2.2.2.2).bind fun v4 => some ((decide (x0.1 = v4.1)) && ((x0.2.1.1 == v4.2.1.1) && ((decide (x0.2.1.2.1 = v4.2.1.2.1)) && ((decide (x0.2.1.2.2 = v4.2.1.2.2)) && ((decide (x0.2.2.1 = v4.2.2.1)) && ((x0.2.2.2.1 == v4.2.2.2.1) && (decide (x0.2.2.2.2 = v4.2.2.2.2))))))))) (some false))))) := (top_call ..).trans (by kernel_rfl)
theorem strings_CutPrefix_eq (x0 x1 : TB9) : strings_CutPrefix x0 x1 = (internal_stringslite_CutPrefix x0 x1).bind fun v1 => some v1 := (top_call ..).trans (by kernel_rfl)
theorem numtext_fraction_eq (x0 x1 : TB9) : numtext_fraction x0 x1 = (dec_Parse x0).bind fun v1 => (dec_Parse x1).bind fun v2 => cond (decide (v1.2 = 3)) (numtext_fraction_1 v1.1 v1.2 v2.1 v2.2 true (false,[],[])) (numtext_fraction_1 v1.1 v1.2 v2.1 v2.2 (decide (v2.2 = 3)) (false,[],[])) := (top_call ..).trans (by kernel_rfl)
theorem numtext_fraction_1_eq (a1 : TB9) (a2 : Int) (a3 : TB9) (a4 : Int) (a5 : Bool) (a6 : Bool × TB9 × TB9) : numtext_fraction_1 a1 a2 a3 a4 a5 a6 = cond a5 (some ((false,[],[]),10)) (cond (decide (a2 = 0)) (numtext_fraction_2 a1 a4 a3 a6) (numtext_fraction_2 a1 a2 a3 a6)) := (top_stage ..).trans (by kernel_rfl)
theorem numtext_fraction_2_eq (a1 : TB9) (a2 : Int) (a3 : TB9) (a4 : Bool × TB9 × TB9) : numtext_fraction_2 a1 a2 a3 a4 = cond (!decide (a2 = 0)) (some ((false,[],[]),a2)) ((whole_Make false a1).bind fun v1 => (whole_Make false a3).bind fun v2 => (rat_Make v1 v2).bind fun v3 => some v3) := (top_stage ..).trans (by kernel_rfl)
theorem rat_Neg_eq (x0 : Bool × TB9 × TB9) : rat_Neg x0 = (rat_well x0).bind fun v1 => cond (!v1.1) (rat_Neg_1 (!decide (v1.2.1 = ([] : TB9)),v1.2) (false,[],[])) (rat_Neg_1 (false,v1.2) (false,[],[])) := (top_call ..).trans (by kernel_rfl)
theorem rat_Neg_1_eq (a1 a2 : Bool × TB9 × TB9) : rat_Neg_1 a1 a2 = some a1 := (top_stage ..).trans (by kernel_rfl)
theorem whole_Of_eq (x0 : Int) : whole_Of x0 = cond (decide (x0 < 0)) ((nat_Of (IntKind.u64.wrap (0 - (IntKind.u64.wrap x0)))).bind fun v1 => (whole_Make true v1).bind fun v2 => some v2) ((nat_Of (IntKind.u64.wrap x0)).bind fun v3 => (whole_Make false v3).bind fun v4 => some v4) := (top_call ..).trans (by kernel_rfl)
theorem rat_Right_eq (x0 : Bool × TB9 × TB9) : rat_Right x0 = (rat_tidy x0.2.1).bind fun v1 => cond (!v1) (rat_Right_1 true x0) ((rat_tidy x0.2.2).bind fun v2 => cond (!v2) (rat_Right_1 true x0) (rat_Right_1 (decide (x0.2.2 = ([] : TB9))) x0)) := (top_call ..).trans (by kernel_rfl)
theorem rat_Right_1_eq (a1 : Bool) (a2 : Bool × TB9 × TB9) : rat_Right_1 a1 a2 = cond a1 (some false) (cond (decide (a2.2.1 = ([] : TB9))) (cond (!a2.1) (some (decide (a2.2.2 = ([1] : TB9)))) (some false)) (cond (decide (a2.2.2 = ([1] : TB9))) (some true) ((divide_Gcd a2.2.1 a2.2.2).bind fun v1 => some (decide (v1 = ([1] : TB9)))))) := (top_stage ..).trans (by kernel_rfl)
theorem rat_Make_eq (x0 x1 : Bool × TB9) : rat_Make x0 x1 = (nat_Trim x0.2).bind fun v1 => (nat_Trim x1.2).bind fun v2 => cond (decide (v2 = ([] : TB9))) (some ((false,[],[]),5)) ((divide_Gcd v1 v2).bind fun v3 => cond (!decide (v3 = ([1] : TB9))) ((divide_DivMod v1 v3).bind fun v4 => (divide_DivMod v2 v3).bind fun v5 => rat_Make_1 v4.1 v5.1 x0 x1 (false,[],[])) (rat_Make_1 v1 v2 x0 x1 (false,[],[]))) := (top_call ..).trans (by kernel_rfl)
theorem rat_Make_1_eq (a1 a2 : TB9) (a3 a4 : Bool × TB9) (a5 : Bool × TB9 × TB9) : rat_Make_1 a1 a2 a3 a4 a5 = cond (decide ((a1.length : Int) > 32)) (rat_Make_2 a1 a2 true a3 a4 a5) (rat_Make_2 a1 a2 (decide ((a2.length : Int) > 32)) a3 a4 a5) := (top_stage ..).trans (by kernel_rfl)
theorem rat_Make_2_eq (a1 a2 : TB9) (a3 : Bool) (a4 a5 : Bool × TB9) (a6 : Bool × TB9 × TB9) : rat_Make_2 a1 a2 a3 a4 a5 a6 = cond a3 (some ((false,[],[]),4)) (cond (!decide (a1 = ([] : TB9))) (some ((!(a4.1 == a5.1),a1,a2),0)) (some ((false,a1,a2),0))) := (top_stage ..).trans (by kernel_rfl)
theorem whole_well_eq (x0 : Bool × TB9) : whole_well x0 = (whole_Make x0.1 x0.2).bind fun v1 => some v1 := (top_call ..).trans (by kernel_rfl)
theorem numtext_well_eq (x0 : Bool × TB9 × TB9) : numtext_well x0 = (rat_Right x0).bind fun v1 => cond v1 (some x0) ((rat_Of 0).bind fun v2 => some v2) := (top_call ..).trans (by kernel_rfl)
theorem numtext_Ends_eq (x0 : Bool × TB9 × TB9) : numtext_Ends x0 = (numtext_well x0).bind fun v1 => (dec_Twos v1.2.2).bind fun v2 => (numtext_power 2 v2.1).bind fun v3 => (numtext_power 5 v2.2).bind fun v4 => (nat_Mul v3 v4).bind fun v5 => cond (!decide (v5 = v1.2.2)) (some (0,false)) (some (max v2.1 v2.2,true)) := (top_call ..).trans (by kernel_rfl)
theorem numtext_Point_eq (x0 : Bool × TB9 × TB9) : numtext_Point x0 = (numtext_Ends x0).bind fun v1 => cond (!v1.2) (some (([] : TB9),false)) ((numtext_well x0).bind fun v2 => (numtext_power 10 v1.1).bind fun v3 => (nat_Mul v2.2.1 v3).bind fun v4 => (divide_DivMod v4 v2.2.2).bind fun v5 => cond (!decide (v5.2.2 = 0)) (some (([] : TB9),false)) ((dec_Text v5.1).bind fun v6 => cond (decide (v1.1 = 0)) (some (v6,true)) ((strings_Repeat ([48] : TB9) (max 0 (IntKind.i64.wrap ((IntKind.i64.wrap (v1.1 + 1)) - (v6.length : Int))))).bind fun v7 => cond (Nat.ble (v7.length + v6.length) 9223372036854775807) (cond (decide (0 ≤ (IntKind.i64.wrap (((v7 ++ v6).length : Int) - v1.1))) && decide ((IntKind.i64.wrap (((v7 ++ v6).length : Int) - v1.1)) ≤ ((v7 ++ v6).length : Int))) (cond (Nat.ble (((v7 ++ v6).take ((IntKind.i64.wrap (((v7 ++ v6).length : Int) - v1.1)).toNat)).length + ([46] : TB9).length) 9223372036854775807) (cond (decide (0 ≤ (IntKind.i64.wrap (((v7 ++ v6).length : Int) - v1.1))) && decide ((IntKind.i64.wrap (((v7 ++ v6).length : Int) - v1.1)) ≤ ((v7 ++ v6).length : Int))) (cond (Nat.ble ((((v7 ++ v6).take ((IntKind.i64.wrap (((v7 ++ v6).length : Int) - v1.1)).toNat)) ++ ([46] : TB9)).length + ((v7 ++ v6).drop ((IntKind.i64.wrap (((v7 ++ v6).length : Int) - v1.1)).toNat)).length) 9223372036854775807) (some ((((v7 ++ v6).take ((IntKind.i64.wrap (((v7 ++ v6).length : Int) - v1.1)).toNat)) ++ ([46] : TB9)) ++ ((v7 ++ v6).drop ((IntKind.i64.wrap (((v7 ++ v6).length : Int) - v1.1)).toNat)),true)) none) none) none) none) none))) := (top_call ..).trans (by kernel_rfl)
theorem ftext_letter_eq (x0 : Int) : ftext_letter x0 = cond (decide (x0 ≥ 97)) (cond (decide (x0 ≤ 122)) (some true) (cond (decide (x0 ≥ 65)) (some (decide (x0 ≤ 90))) (some false))) (cond (decide (x0 ≥ 65)) (some (decide (x0 ≤ 90))) (some false)) := (top_call ..).trans (by kernel_rfl)
theorem numtext_digits_eq (x0 : TB9) : numtext_digits x0 = numtext_digits_1 x0 (x0.map fun b => (b.toNat : Int)) ((x0.map fun b => (b.toNat : Int)).length : Int) 0 := (top_call ..).trans (by kernel_rfl)
theorem numtext_digits_1_eq (a1 : TB9) (a2 : List Int) (a3 a4 : Int) : numtext_digits_1 a1 a2 a3 a4 = cond (decide (a4 < a3)) (cond (decide (0 ≤ a4) && decide (a4 < (a2.length : Int))) (cond (decide ((a2.getD a4.toNat 0) < 48)) (numtext_digits_2 a1 a2 a3 a4 true) (numtext_digits_2 a1 a2 a3 a4 (decide ((a2.getD a4.toNat 0) > 57)))) none) (some (!decide (a1 = ([] : TB9)))) := (top_stage ..).trans (by kernel_rfl)
theorem numtext_digits_2_eq (a1 : TB9) (a2 : List Int) (a3 a4 : Int) (a5 : Bool) : numtext_digits_2 a1 a2 a3 a4 a5 = cond a5 (some false) (numtext_digits_1 a1 a2 a3 (IntKind.i64.wrap (a4 + 1))) := (top_stage ..).trans (by kernel_rfl)
theorem dec_Parse_eq (x0 : TB9) : dec_Parse x0 = cond (decide (x0 = ([] : TB9))) (dec_Parse_1 x0 true) ((dec_odd x0).bind fun v1 => dec_Parse_1 x0 v1) := (top_call ..).trans (by kernel_rfl)
theorem dec_Parse_1_eq (a1 : TB9) (a2 : Bool) : dec_Parse_1 a1 a2 = cond a2 (some (([] : TB9),3)) (cond (decide ((a1.length : Int) > 400)) (some (([] : TB9),9)) (dec_Parse_2 a1 ([] : TB9))) := (top_stage ..).trans (by kernel_rfl)
theorem dec_Parse_2_eq (a1 a2 : TB9) : dec_Parse_2 a1 a2 = cond (decide ((a1.length : Int) > 0)) (cond (decide (0 ≤ (min 9 (a1.length : Int))) && decide ((min 9 (a1.length : Int)) ≤ (a1.length : Int))) (dec_Parse_3 a1 a2 (min 9 (a1.length : Int)) 0 1 ((a1.take ((min 9 (a1.length : Int)).toNat)).map fun b => (b.toNat : Int)) (((a1.take ((min 9 (a1.length : Int)).toNat)).map fun b => (b.toNat : Int)).length : Int) 0) none) (some (a2,0)) := (top_stage ..).trans (by kernel_rfl)
theorem dec_Parse_3_eq (a1 a2 : TB9) (a3 a4 a5 : Int) (a6 : List Int) (a7 a8 : Int) : dec_Parse_3 a1 a2 a3 a4 a5 a6 a7 a8 = cond (decide (a8 < a7)) (cond (decide (0 ≤ a8) && decide (a8 < (a6.length : Int))) (dec_Parse_3 a1 a2 a3 (IntKind.u64.wrap ((IntKind.u64.wrap (a4 * 10)) + (IntKind.u64.wrap (IntKind.u8.wrap ((a6.getD a8.toNat 0) - 48))))) (IntKind.u64.wrap (a5 * 10)) a6 a7 (IntKind.i64.wrap (a8 + 1))) none) ((nat_Of a5).bind fun v1 => (nat_Mul a2 v1).bind fun v2 => (nat_Of a4).bind fun v3 => (nat_Add v2 v3).bind fun v4 => cond (decide (0 ≤ a3) && decide (a3 ≤ (a1.length : Int))) (dec_Parse_2 (a1.drop a3.toNat) v4) none) := (top_stage ..).trans (by kernel_rfl)
theorem numtext_power_eq (x0 x1 : Int) : numtext_power x0 x1 = (nat_Of x0).bind fun v1 => (divide_Pow v1 x1).bind fun v2 => cond (!decide (v2.2 = 0)) (some ([] : TB9)) (some v2.1) := (top_call ..).trans (by kernel_rfl)
theorem internal_stringslite_HasPrefix_eq (x0 x1 : TB9) : internal_stringslite_HasPrefix x0 x1 = cond (decide ((x0.length : Int) ≥ (x1.length : Int))) (cond (decide (0 ≤ (x1.length : Int)) && decide ((x1.length : Int) ≤ (x0.length : Int))) (some (decide ((x0.take ((x1.length : Int).toNat)) = x1))) none) (some false) := (top_call ..).trans (by kernel_rfl)
theorem internal_stringslite_CutPrefix_eq (x0 x1 : TB9) : internal_stringslite_CutPrefix x0 x1 = (internal_stringslite_HasPrefix x0 x1).bind fun v1 => cond (!v1) (some (x0,false)) (cond (decide (0 ≤ (x1.length : Int)) && decide ((x1.length : Int) ≤ (x0.length : Int))) (some (x0.drop ((x1.length : Int).toNat),true)) none) := (top_call ..).trans (by kernel_rfl)
theorem rat_well_eq (x0 : Bool × TB9 × TB9) : rat_well x0 = (rat_Right x0).bind fun v1 => cond v1 (some x0) (some (false,[],([1] : TB9))) := (top_call ..).trans (by kernel_rfl)
theorem rat_tidy_eq (x0 : TB9) : rat_tidy x0 = cond (decide ((x0.length : Int) ≤ 32)) ((nat_Trim x0).bind fun v1 => some (decide (v1 = x0))) (some false) := (top_call ..).trans (by kernel_rfl)
theorem dec_Twos_eq (x0 : TB9) : dec_Twos x0 = (nat_Trim x0).bind fun v1 => (dec_often v1 2).bind fun v2 => (dec_often v1 5).bind fun v3 => some (v2,v3) := (top_call ..).trans (by kernel_rfl)
theorem dec_odd_eq (x0 : TB9) : dec_odd x0 = dec_odd_1 (x0.map fun b => (b.toNat : Int)) ((x0.map fun b => (b.toNat : Int)).length : Int) 0 := (top_call ..).trans (by kernel_rfl)
theorem dec_odd_1_eq (a1 : List Int) (a2 a3 : Int) : dec_odd_1 a1 a2 a3 = cond (decide (a3 < a2)) (cond (decide (0 ≤ a3) && decide (a3 < (a1.length : Int))) (cond (decide ((a1.getD a3.toNat 0) < 48)) (dec_odd_2 a1 a2 a3 true) (dec_odd_2 a1 a2 a3 (decide ((a1.getD a3.toNat 0) > 57)))) none) (some false) := (top_stage ..).trans (by kernel_rfl)
theorem dec_odd_2_eq (a1 : List Int) (a2 a3 : Int) (a4 : Bool) : dec_odd_2 a1 a2 a3 a4 = cond a4 (some true) (dec_odd_1 a1 a2 (IntKind.i64.wrap (a3 + 1))) := (top_stage ..).trans (by kernel_rfl)
theorem dec_often_eq (x0 : TB9) (x1 : Int) : dec_often x0 x1 = dec_often_1 x0 x1 0 := (top_call ..).trans (by kernel_rfl)
theorem dec_often_1_eq (a1 : TB9) (a2 a3 : Int) : dec_often_1 a1 a2 a3 = cond (!decide (a1 = ([] : TB9))) ((nat_Of a2).bind fun v1 => (divide_DivMod a1 v1).bind fun v2 => cond (!decide (v2.2.2 = 0)) (dec_often_2 a2 a3 v2.1 true) (dec_often_2 a2 a3 v2.1 (!decide (v2.2.1 = ([] : TB9))))) (some a3) := (top_stage ..).trans (by kernel_rfl)
theorem dec_often_2_eq (a1 a2 : Int) (a3 : TB9) (a4 : Bool) : dec_often_2 a1 a2 a3 a4 = cond a4 (some a2) (dec_often_1 a3 a1 (IntKind.i64.wrap (a2 + 1))) := (top_stage ..).trans (by kernel_rfl)
end Go.Proofs.YtpdfjgooaaailaaGreatDoor.K
namespace Go.Proofs.YtpdfjgooaaailaaGreatDoor.P
open Go Go.Proofs.YtpdfjgooaaailaaGreatDoor.Q
def dv (l : List UInt8) : Nat := l.foldl (fun n c => n * 10 + (c.toNat - 48)) 0
theorem dv_nil : dv [] = 0 := rfl
theorem dv_snoc (l : List UInt8) (c : UInt8) : dv (l ++ [c]) = dv l * 10 + (c.toNat - 48) := by unfold dv; rw [List.foldl_append]; rfl
theorem snocU {Q : List UInt8 → Prop} (h0 : Q []) (h1 : ∀ l b, Q l → Q (l ++ [b])) : ∀ l, Q l := by
  intro l
  have : Q l.reverse.reverse := by
    induction l.reverse with
    | nil => exact h0
    | cons b l ih => rw [List.reverse_cons]; exact h1 _ _ ih
  rwa [List.reverse_reverse] at this
theorem dv_append (a : List UInt8) : ∀ b, dv (a ++ b) = dv a * 10 ^ b.length + dv b := by
  refine snocU ?_ ?_
  · simp [dv_nil]
  · intro l c ih
    rw [← List.append_assoc, dv_snoc, ih, dv_snoc, List.length_append, List.length_cons, List.length_nil, Nat.pow_succ]
    generalize 10 ^ l.length = X
    rw [Nat.add_mul, Nat.mul_assoc]; omega
theorem dv_cons (c : UInt8) (l : List UInt8) : dv (c :: l) = (c.toNat - 48) * 10 ^ l.length + dv l := by
  have := dv_append [c] l
  simpa [dv] using this
def dig (c : UInt8) : Bool := decide (48 ≤ c.toNat) && decide (c.toNat ≤ 57)
def good (l : List UInt8) : Bool := l.all dig
theorem dig_le {c : UInt8} (h : dig c = true) : 48 ≤ c.toNat ∧ c.toNat ≤ 57 := by
  unfold dig at h
  simpa using h
theorem dv_lt (l : List UInt8) (h : good l = true) : dv l < 10 ^ l.length := by
  revert h
  refine snocU (Q := fun l => good l = true → dv l < 10 ^ l.length) ?_ ?_ l
  · intro _; simp [dv_nil]
  · intro l c ih h
    have h1 : good l = true ∧ dig c = true := by simpa [good] using h
    have h2 := ih h1.1
    have h3 := dig_le h1.2
    rw [dv_snoc, List.length_append, List.length_cons, List.length_nil, Nat.pow_succ]
    omega
def ten (n : Nat) : List UInt8 := if h : n = 0 then [] else ten (n / 10) ++ [UInt8.ofNat (48 + n % 10)]
termination_by n
decreasing_by omega
theorem ten_zero : ten 0 = [] := by rw [ten]; simp
theorem ten_pos {n : Nat} (h : n ≠ 0) : ten n = ten (n / 10) ++ [UInt8.ofNat (48 + n % 10)] := by rw [ten]; simp [h]
theorem ten_nil {n : Nat} : ten n = [] ↔ n = 0 := by
  constructor
  · intro h
    rcases Nat.eq_zero_or_pos n with h0 | h0
    · exact h0
    · rw [ten_pos (by omega)] at h
      simp at h
  · rintro rfl; exact ten_zero
theorem byte48 (n : Nat) : (UInt8.ofNat (48 + n % 10)).toNat = 48 + n % 10 := UInt8.toNat_ofNat_of_lt' (by show _ < 256; omega)
theorem byte_back {c : UInt8} (h : dig c = true) : UInt8.ofNat (48 + (c.toNat - 48) % 10) = c := by
  have := dig_le h
  apply UInt8.toNat_inj.1
  rw [byte48]
  omega
theorem trim_snoc (l : List UInt8) (c : UInt8) : Lib.trimLeftB (l ++ [c]) 48 = if Lib.trimLeftB l 48 = [] then (if c = 48 then [] else [c]) else Lib.trimLeftB l 48 ++ [c] := by
  unfold Lib.trimLeftB
  induction l with
  | nil => by_cases h : c = 48 <;> simp [List.dropWhile_cons, h]
  | cons a l ih =>
    simp only [List.cons_append, List.dropWhile_cons]
    split
    · exact ih
    · simp
theorem trim_ten (l : List UInt8) (h : good l = true) : Lib.trimLeftB l 48 = ten (dv l) := by
  revert h
  refine snocU (Q := fun l => good l = true → Lib.trimLeftB l 48 = ten (dv l)) ?_ ?_ l
  · intro _; rw [dv_nil, ten_zero]; rfl
  · intro l c ih h
    have h1 : good l = true ∧ dig c = true := by simpa [good] using h
    have h2 := ih h1.1
    have h3 := dig_le h1.2
    have h4 := byte_back h1.2
    rw [trim_snoc, h2, dv_snoc]
    by_cases hz : dv l = 0
    · rw [hz, ten_zero, if_pos rfl]
      by_cases hc : c = 48
      · subst hc; rw [if_pos rfl]; exact ten_zero.symm
      · have hc2 : c.toNat ≠ 48 := fun e => hc (UInt8.toNat_inj.1 e)
        rw [if_neg hc, ten_pos (by omega), show (0 * 10 + (c.toNat - 48)) / 10 = 0 by omega, ten_zero, show (0 * 10 + (c.toNat - 48)) % 10 = (c.toNat - 48) % 10 by omega, h4]; rfl
    · rw [if_neg (fun e => hz (ten_nil.1 e)), ten_pos (n := dv l * 10 + (c.toNat - 48)) (by omega), show (dv l * 10 + (c.toNat - 48)) / 10 = dv l by omega, show (dv l * 10 + (c.toNat - 48)) % 10 = (c.toNat - 48) % 10 by omega, h4]
theorem dig48 (n : Nat) : dig (UInt8.ofNat (48 + n % 10)) = true := by
  unfold dig
  rw [byte48]
  simp; omega
theorem digitsL_good : ∀ k n, good (digitsL k n) = true
  | 0, _ => rfl
  | k + 1, n => by
    have := digitsL_good k (n / 10)
    unfold good at *
    rw [digitsL, List.all_append, this]
    simp only [List.all_cons, List.all_nil, dig48, Bool.and_true]
theorem digitsL_dv : ∀ k n, dv (digitsL k n) = n % 10 ^ k
  | 0, n => by simp [digitsL, dv_nil, Nat.mod_one]
  | k + 1, n => by
    rw [digitsL, dv_snoc, digitsL_dv k, byte48, Nat.pow_succ, Nat.mul_comm (10 ^ k), Nat.mod_mul]
    omega
def decT (n : Nat) : List UInt8 := if n = 0 then [48] else ten n
theorem parts_ok (n : Nat) : good (decParts n).reverse.flatten = true ∧ dv (decParts n).reverse.flatten = n := by
  induction n using Nat.strongRecOn with
  | _ n ih =>
    by_cases h : n = 0
    · subst h; exact ⟨rfl, rfl⟩
    · obtain ⟨h1, h2⟩ := ih (n / 1000000000) (by omega)
      have h3 := digitsL_good 9 (n % 1000000000)
      have h4 := digitsL_dv 9 (n % 1000000000)
      have h5 := digitsL_length 9 (n % 1000000000)
      rw [decParts_pos h, List.reverse_cons, List.flatten_append, List.flatten_cons, List.flatten_nil, List.append_nil]
      refine ⟨by unfold good at *; rw [List.all_append, h1, h3]; rfl, ?_⟩
      rw [dv_append, h2, h4, h5]
      omega
theorem decText_ok (n : Nat) : decText n = decT n := by
  obtain ⟨h1, h2⟩ := parts_ok n
  rw [decText, decTrim, trim_ten _ h1, h2, decT]
  by_cases h : n = 0
  · subst h; rw [ten_zero, if_pos rfl]; rfl
  · rw [if_neg h, decide_eq_false (fun e => h (ten_nil.1 e)), cond_false]
theorem ten_good (n : Nat) : good (ten n) = true := by
  induction n using Nat.strongRecOn with
  | _ n ih =>
    by_cases h : n = 0
    · subst h; rw [ten_zero]; rfl
    · have := ih (n / 10) (by omega)
      unfold good at *
      rw [ten_pos h, List.all_append, this]; simp only [List.all_cons, List.all_nil, dig48, Bool.and_true]
theorem ten_dv (n : Nat) : dv (ten n) = n := by
  induction n using Nat.strongRecOn with
  | _ n ih =>
    by_cases h : n = 0
    · subst h; rw [ten_zero]; rfl
    · rw [ten_pos h, dv_snoc, ih (n / 10) (by omega), byte48]; omega
theorem ten_len {k : Nat} : ∀ {n : Nat}, n < 10 ^ k → (ten n).length ≤ k := by
  induction k with
  | zero => intro n h; have : n = 0 := by simpa using h
            subst this; rw [ten_zero]; exact Nat.le_refl _
  | succ k ih =>
    intro n h
    by_cases h0 : n = 0
    · subst h0; rw [ten_zero]; exact Nat.zero_le _
    · have := ih (n := n / 10) (by rw [Nat.pow_succ] at h; omega)
      rw [ten_pos h0, List.length_append]; simp; omega
theorem decT_good (n : Nat) : good (decT n) = true := by
  unfold decT
  split
  · rfl
  · exact ten_good n
theorem decT_dv (n : Nat) : dv (decT n) = n := by
  unfold decT
  split
  · rename_i h; subst h; rfl
  · exact ten_dv n
theorem decT_ne (n : Nat) : decT n ≠ [] := by
  unfold decT
  split
  · simp
  · rename_i h; exact fun e => h (ten_nil.1 e)
theorem decT_len {k n : Nat} (h : n < 10 ^ k) (hk : 1 ≤ k) : (decT n).length ≤ k := by
  unfold decT
  split
  · exact hk
  · exact ten_len h
theorem decT_len2 {a b n : Nat} (h : n < 10 ^ a * 10 ^ b) (hk : 1 ≤ a + b) : (decT n).length ≤ a + b := decT_len (by rw [Nat.pow_add]; exact h) hk
theorem decT_150 {n : Nat} (h : n < 256 ^ 75 * 256 ^ 75) : (decT n).length ≤ 400 := by
  have h1 : (256 : Nat) ^ 75 ≤ 10 ^ 200 := Nat.le_of_ble_eq_true rfl
  exact decT_len2 (a := 200) (b := 200) (Nat.lt_of_lt_of_le h (Nat.mul_le_mul h1 h1)) (by omega)
theorem nat_ten_len {n k : Nat} (h : n < 10 ^ k) : (nat n).length ≤ k := nat_length_le (Nat.lt_of_lt_of_le h (Nat.pow_le_pow_left (by decide) k))
end Go.Proofs.YtpdfjgooaaailaaGreatDoor.P
namespace Go.Proofs.YtpdfjgooaaailaaGreatDoor.D
open Go Go.Proofs.YtpdfjgooaaailaaGreatDoor.K
open Go.Proofs.YtpdfjgooaaailaaGreatDoor.P (nat val dv good dig dig_le ten ten_zero ten_pos ten_nil ten_len ten_good ten_dv decT decT_good decT_dv decT_ne decT_len decT_150 decText_ok trim_ten dv_nil dv_snoc dv_append dv_cons dv_lt divmod small val_nat nat_zero nat_eq_nil nat_val_length nat_length_le len_mono val_lt wS nat_ten_len val_one)
open Go.Proofs.YtpdfjgooaaailaaGreatDoor.Q (trimQ ofQ smallQ addQ mulQ divQ decQ ok1)
theorem ok_le {s : List UInt8} (h : s.length ≤ 1000000000) : ok1 s = true := Nat.ble_eq_true_of_le h
theorem xTrim (s : List UInt8) (h : s.length ≤ 1000000000) : nat_Trim s = some (nat (val s)) := by
  refine (top_call ..).trans ?_
  show trimQ s = _
  unfold trimQ
  rw [ok_le h, cond_true, P.trimB]
theorem yTrim (s : List UInt8) (h : s.length ≤ 1000000000) : r01_Trim s = some (nat (val s)) := by
  refine (top_call ..).trans ?_
  show trimQ s = _
  unfold trimQ
  rw [ok_le h, cond_true, P.trimB]
theorem ofQ_eq (n : Nat) (h : n < 18446744073709551616) : ofQ (n : Int) = some (nat n) := by
  unfold ofQ
  rw [show (decide ((0 : Int) ≤ (n : Int)) && decide ((n : Int) < 18446744073709551616)) = true by simp; omega, cond_true, Int.toNat_natCast]
theorem xOf (n : Nat) (h : n < 18446744073709551616) : nat_Of (n : Int) = some (nat n) := (top_call ..).trans (ofQ_eq n h)
theorem yOf (n : Nat) (h : n < 18446744073709551616) : r01_Of (n : Int) = some (nat n) := (top_call ..).trans (ofQ_eq n h)
theorem ok2 {a b : List UInt8} (ha : a.length ≤ 1000000000) (hb : b.length ≤ 1000000000) : (ok1 a && ok1 b) = true := by rw [ok_le ha, ok_le hb]; rfl
theorem addQ_eq (a b : List UInt8) (ha : a.length ≤ 1000000000) (hb : b.length ≤ 1000000000) : addQ (a, b) = some (nat (val a + val b)) := by
  unfold addQ
  simp only
  rw [ok2 ha hb, cond_true]
theorem mulQ_eq (a b : List UInt8) (ha : a.length ≤ 1000000000) (hb : b.length ≤ 1000000000) : mulQ (a, b) = some (nat (val a * val b)) := by
  unfold mulQ
  simp only
  rw [ok2 ha hb, cond_true]
theorem divQ_eq (a b : List UInt8) (ha : a.length ≤ 1000000000) (hb : b.length ≤ 1000000000) : divQ (a, b) = some (divmod (val a) (val b)) := by
  unfold divQ
  simp only
  rw [ok2 ha hb, cond_true]
theorem xAdd (a b : List UInt8) (ha : a.length ≤ 1000000000) (hb : b.length ≤ 1000000000) : nat_Add a b = some (nat (val a + val b)) := (top_call ..).trans (addQ_eq a b ha hb)
theorem xMul (a b : List UInt8) (ha : a.length ≤ 1000000000) (hb : b.length ≤ 1000000000) : nat_Mul a b = some (nat (val a * val b)) := (top_call ..).trans (mulQ_eq a b ha hb)
theorem xDiv (a b : List UInt8) (ha : a.length ≤ 1000000000) (hb : b.length ≤ 1000000000) : divide_DivMod a b = some (divmod (val a) (val b)) := (top_call ..).trans (divQ_eq a b ha hb)
theorem yDiv (a b : List UInt8) (ha : a.length ≤ 1000000000) (hb : b.length ≤ 1000000000) : r02_DivMod a b = some (divmod (val a) (val b)) := (top_call ..).trans (divQ_eq a b ha hb)
theorem xText (s : List UInt8) (h : s.length ≤ 1000000000) : dec_Text s = some (decT (val s)) := by
  refine (top_call ..).trans ?_
  show decQ s = _
  unfold decQ
  rw [ok_le h, cond_true, decText_ok]
def ordB (b m : Nat) : Nat := if h : m = 0 ∨ b < 2 then 0 else if m % b = 0 then ordB b (m / b) + 1 else 0
termination_by m
decreasing_by exact Nat.div_lt_self (by omega) (by omega)
theorem ord_stop (b m : Nat) (h : m = 0 ∨ m % b ≠ 0) : ordB b m = 0 := by
  rw [ordB]
  rcases h with h | h
  · simp [h]
  · split
    · rfl
    · first | rfl | rw [if_neg h]
theorem ord_go (b m : Nat) (hm : m ≠ 0) (hb : 2 ≤ b) (h : m % b = 0) : ordB b m = ordB b (m / b) + 1 := by
  conv => lhs; rw [ordB]
  rw [dif_neg (by omega), if_pos h]
theorem div_two {b m e : Nat} (hb : 2 ≤ b) (h : m < 2 ^ (e + 1)) : m / b < 2 ^ e := by
  have h1 : m / b ≤ m / 2 := Nat.div_le_div_left hb (by decide)
  rw [Nat.pow_succ] at h
  omega
theorem xOften (b : Nat) (hb : 2 ≤ b) (hb2 : b < 256) : ∀ (e m k : Nat), m < 2 ^ e → (nat m).length ≤ 1000 → k + e ≤ 15000 → dec_often_1 (nat m) (b : Int) (k : Int) = some ((k + ordB b m : Nat) : Int)
  | e, m, k, he, hl, hk => by
    by_cases h0 : m = 0
    · subst h0; rw [nat_zero, dec_often_1_eq, cF (by rfl), ord_stop b 0 (.inl rfl)]; rfl
    · match e with
      | 0 => simp at he; omega
      | e + 1 =>
        have lb : (nat b).length ≤ 1 := nat_length_le (by omega)
        rw [dec_often_1_eq, cT (by rw [decide_eq_false (fun e => h0 (nat_eq_nil.1 e))]; rfl), xOf b (by omega), Option.bind_some, xDiv _ _ (by omega) (by omega), Option.bind_some, val_nat, val_nat, divmod, if_neg (by omega)]
        simp only
        rw [cF (by rfl)]
        by_cases hm : m % b = 0
        · rw [hm, nat_zero, show (!decide (([] : List UInt8) = [])) = false from rfl, dec_often_2_eq, cond_false, wS (by omega), xOften b hb hb2 e (m / b) (k + 1) (div_two hb he) (Nat.le_trans (len_mono (Nat.div_le_self _ _)) hl) (by omega), ord_go b m h0 hb hm]
          congr 2
          omega
        · rw [decide_eq_false (fun e => hm (nat_eq_nil.1 e)), show (!false) = true from rfl, dec_often_2_eq, cond_true, ord_stop b m (.inr hm)]; rfl
theorem pow8 (k : Nat) : 256 ^ k = 2 ^ (8 * k) := by rw [show (256 : Nat) = 2 ^ 8 by decide, ← Nat.pow_mul]
theorem xTwos (a : List UInt8) (h : a.length ≤ 150) : dec_Twos a = some (((ordB 2 (val a) : Nat) : Int), ((ordB 5 (val a) : Nat) : Int)) := by
  have hl := nat_val_length a
  have hv := val_lt a
  rw [pow8] at hv
  have h2 := xOften 2 (by omega) (by omega) (8 * a.length) (val a) 0 hv (by omega) (by omega)
  have h5 := xOften 5 (by omega) (by omega) (8 * a.length) (val a) 0 hv (by omega) (by omega)
  rw [Nat.zero_add] at h2 h5
  have e2 : dec_often (nat (val a)) 2 = _ := (dec_often_eq _ _).trans h2
  have e5 : dec_often (nat (val a)) 5 = _ := (dec_often_eq _ _).trans h5
  rw [dec_Twos_eq, xTrim a (by omega), Option.bind_some, e2, Option.bind_some, e5]; rfl
def parseV (s : List UInt8) : List UInt8 × Int := if s = [] ∨ good s = false then ([], 3) else if s.length > 400 then ([], 9) else (nat (dv s), 0)
theorem good_get {s : List UInt8} {i : Nat} (h : i < s.length) : s[i] = s.getD i 0 := by
  rw [List.getD_eq_getElem?_getD, List.getElem?_eq_getElem h]; rfl
theorem good_drop {s : List UInt8} {i : Nat} (h : i < s.length) : good (s.drop i) = (dig (s.getD i 0) && good (s.drop (i + 1))) := by
  rw [List.drop_eq_getElem_cons h, good_get h]; rfl
theorem xOdd1 (s : List UInt8) (hs : s.length ≤ 9223372036854775807) : ∀ (m i : Nat), i + m = s.length → dec_odd_1 (s.map fun b => (b.toNat : Int)) ((s.map fun b => (b.toNat : Int)).length : Int) (i : Int) = some (!good (s.drop i))
  | 0, i, h => by
    rw [dec_odd_1_eq, cF (decide_eq_false (by rw [List.length_map]; omega)), List.drop_of_length_le (by omega)]; rfl
  | m + 1, i, h => by
    have hi : i < s.length := by omega
    have hg : (s.map fun b => (b.toNat : Int)).getD (i : Int).toNat 0 = ((s.getD i 0).toNat : Int) := by simp [List.getD, hi]
    have next : dec_odd_2 (s.map fun b => (b.toNat : Int)) ((s.map fun b => (b.toNat : Int)).length : Int) (i : Int) false = some (!good (s.drop (i + 1))) := by
      rw [dec_odd_2_eq, cond_false, wS (by omega)]; exact xOdd1 s hs m (i + 1) (by omega)
    have stop : dec_odd_2 (s.map fun b => (b.toNat : Int)) ((s.map fun b => (b.toNat : Int)).length : Int) (i : Int) true = some true := by rw [dec_odd_2_eq, cond_true]
    rw [dec_odd_1_eq, cT (decide_eq_true (by rw [List.length_map]; omega)), cT (by rw [List.length_map]; exact ix hi), hg, good_drop hi]
    generalize s.getD i 0 = c
    by_cases h1 : c.toNat < 48
    · rw [cT (decide_eq_true (by omega)), stop, show dig c = false by unfold dig; simp; omega]; rfl
    · rw [cF (decide_eq_false (by omega))]
      by_cases h2 : c.toNat > 57
      · rw [decide_eq_true (show (c.toNat : Int) > 57 by omega), stop, show dig c = false by unfold dig; simp; omega]; rfl
      · rw [decide_eq_false (show ¬ (c.toNat : Int) > 57 by omega), next, show dig c = true by unfold dig; simp; omega]; rfl
theorem xOdd (s : List UInt8) (hs : s.length ≤ 9223372036854775807) : dec_odd s = some (!good s) := (dec_odd_eq s).trans (xOdd1 s hs s.length 0 (Nat.zero_add _))
theorem dig_get {s : List UInt8} (h : good s = true) {i : Nat} (hi : i < s.length) : dig (s.getD i 0) = true := by
  rw [← good_get hi]
  exact List.all_eq_true.1 h _ (List.getElem_mem hi)
theorem dv_take {s : List UInt8} {i : Nat} (h : i < s.length) : dv (s.take (i + 1)) = dv (s.take i) * 10 + ((s.getD i 0).toNat - 48) := by
  rw [List.take_add_one, List.getElem?_eq_getElem h, good_get h]
  simp only [Option.toList_some, dv_snoc]
theorem good_take {s : List UInt8} (h : good s = true) (i : Nat) : good (s.take i) = true := List.all_eq_true.2 fun x hx => List.all_eq_true.1 h x (List.mem_of_mem_take hx)
theorem good_dropT {s : List UInt8} (h : good s = true) (i : Nat) : good (s.drop i) = true := List.all_eq_true.2 fun x hx => List.all_eq_true.1 h x (List.mem_of_mem_drop hx)
theorem xParse3 (s : List UInt8) (A : Nat) (c : List UInt8) (hc : good c = true) (hcl : c.length ≤ 9) (hA : (nat A).length ≤ 100000) (k : Nat) (hk : k ≤ s.length) : ∀ (m i : Nat), i + m = c.length →
    dec_Parse_3 s (nat A) (k : Int) ((dv (c.take i) : Nat) : Int) ((10 ^ i : Nat) : Int) (c.map fun b => (b.toNat : Int)) (c.length : Int) (i : Int) = dec_Parse_2 (s.drop k) (nat (A * 10 ^ c.length + dv c))
  | 0, i, h => by
    obtain rfl : i = c.length := by omega
    have hp : 10 ^ c.length ≤ 10 ^ 9 := Nat.pow_le_pow_right (by decide) hcl
    have hd := dv_lt c hc
    have lp : (nat (10 ^ c.length)).length ≤ 4 := nat_length_le (by omega)
    have ld : (nat (dv c)).length ≤ 4 := nat_length_le (by omega)
    have lm : (nat (A * 10 ^ c.length)).length ≤ 1000000 := by
      have h1 := val_lt (nat A)
      have h2 := val_lt (nat (10 ^ c.length))
      rw [val_nat] at h1 h2
      have : A * 10 ^ c.length < 256 ^ ((nat A).length + (nat (10 ^ c.length)).length) := by rw [Nat.pow_add]; exact Nat.mul_lt_mul'' h1 h2
      exact Nat.le_trans (nat_length_le this) (by omega)
    rw [dec_Parse_3_eq, cF (decide_eq_false (by omega)), xOf _ (by omega), Option.bind_some, xMul _ _ (by omega) (by omega), Option.bind_some, List.take_length, xOf _ (by omega), Option.bind_some, val_nat, val_nat, xAdd _ _ (by omega) (by omega), Option.bind_some, val_nat, val_nat,
      cT (P.inC hk), Int.toNat_natCast]
  | m + 1, i, h => by
    have hi : i < c.length := by omega
    have hg : (c.map fun b => (b.toNat : Int)).getD (i : Int).toNat 0 = ((c.getD i 0).toNat : Int) := by simp [List.getD, hi]
    have hd := dig_le (dig_get hc hi)
    have hv := dv_lt (c.take i) (good_take hc i)
    have hp : 10 ^ (c.take i).length ≤ 10 ^ 8 := Nat.pow_le_pow_right (by decide) (by simp; omega)
    have hp2 : 10 ^ i ≤ 10 ^ 8 := Nat.pow_le_pow_right (by decide) (by omega)
    have e := dv_take hi
    have := xParse3 s A c hc hcl hA k hk m (i + 1) (by omega)
    rw [dec_Parse_3_eq, cT (decide_eq_true (by omega)), cT (by rw [List.length_map]; exact ix hi), hg]
    generalize c.getD i 0 = ch at hd e
    have e1 : IntKind.u64.wrap (IntKind.u64.wrap (((dv (c.take i) : Nat) : Int) * 10) + IntKind.u64.wrap (IntKind.u8.wrap ((ch.toNat : Int) - 48))) = ((dv (c.take (i + 1)) : Nat) : Int) := by
      rw [e]
      generalize dv (c.take i) = V at hv
      rw [wrapU8 (by omega) (by omega), wrapU64 (n := (V : Int) * 10) (by omega) (by omega), wrapU64 (n := (ch.toNat : Int) - 48) (by omega) (by omega), wrapU64 (by omega) (by omega)]
      omega
    have e2 : IntKind.u64.wrap (((10 ^ i : Nat) : Int) * 10) = ((10 ^ (i + 1) : Nat) : Int) := by
      rw [Nat.pow_succ]
      generalize 10 ^ i = X at hp2
      rw [wrapU64 (by omega) (by omega)]; omega
    rw [e1, e2, wS (by omega)]
    exact this
theorem xParse2 : ∀ (f : Nat) (s : List UInt8) (A j : Nat), s.length ≤ f → good s = true → A < 10 ^ j → j + s.length ≤ 400 → dec_Parse_2 s (nat A) = some (nat (A * 10 ^ s.length + dv s), 0)
  | f, s, A, j, hf, hg, hA, hj => by
    by_cases h0 : s.length = 0
    · obtain rfl : s = [] := List.eq_nil_of_length_eq_zero h0
      rw [dec_Parse_2_eq, cF (decide_eq_false (by simp)), dv_nil]; simp
    · match f with
      | 0 => omega
      | f + 1 =>
        have lA := nat_ten_len hA
        have hk : min (9 : Int) (s.length : Int) = ((min 9 s.length : Nat) : Int) := by omega
        have hkl : min 9 s.length ≤ s.length := by omega
        have hcl : (s.take (min 9 s.length)).length = min 9 s.length := by simp
        have h3 := xParse3 s A (s.take (min 9 s.length)) (good_take hg _) (by omega) (by omega) (min 9 s.length) hkl _ 0 (Nat.zero_add _)
        have h3' : dec_Parse_3 s (nat A) ((min 9 s.length : Nat) : Int) 0 1 ((s.take (min 9 s.length)).map fun b => (b.toNat : Int)) ((s.take (min 9 s.length)).length : Int) 0 = _ := h3
        have hsplit : dv s = dv (s.take (min 9 s.length)) * 10 ^ (s.drop (min 9 s.length)).length + dv (s.drop (min 9 s.length)) := by rw [← dv_append, List.take_append_drop]
        have hdl := dv_lt (s.take (min 9 s.length)) (good_take hg _)
        rw [hcl] at hdl
        have hA2 : A * 10 ^ (min 9 s.length) + dv (s.take (min 9 s.length)) < 10 ^ (j + min 9 s.length) := by
          rw [Nat.pow_add]
          have : (A + 1) * 10 ^ (min 9 s.length) ≤ 10 ^ j * 10 ^ (min 9 s.length) := Nat.mul_le_mul_right _ hA
          rw [Nat.succ_mul] at this
          omega
        have hlen : s.length = min 9 s.length + (s.drop (min 9 s.length)).length := by simp; omega
        have hpow : 10 ^ s.length = 10 ^ (min 9 s.length) * 10 ^ (s.drop (min 9 s.length)).length := by rw [← Nat.pow_add, ← hlen]
        rw [dec_Parse_2_eq, cT (decide_eq_true (by omega)), hk, cT (P.inC hkl), Int.toNat_natCast, List.length_map, h3', hcl,
          xParse2 f (s.drop (min 9 s.length)) _ (j + min 9 s.length) (by simp; omega) (good_dropT hg _) hA2 (by omega), hsplit, hpow]
        generalize 10 ^ (min 9 s.length) = X
        generalize 10 ^ (s.drop (min 9 s.length)).length = Y
        rw [Nat.add_mul, Nat.mul_assoc, Nat.add_assoc]
theorem xParse (s : List UInt8) (hs : s.length ≤ 9223372036854775807) : dec_Parse s = some (parseV s) := by
  rw [dec_Parse_eq, parseV]
  by_cases h0 : s = []
  · subst h0; rw [cT (by rfl), dec_Parse_1_eq, cond_true, if_pos (.inl rfl)]
  · rw [cF (decide_eq_false h0), xOdd s hs, Option.bind_some, dec_Parse_1_eq]
    by_cases hg : good s = true
    · rw [hg, show (!true) = false from rfl, cond_false, if_neg (by simp [h0])]
      by_cases hl : s.length > 400
      · rw [cT (decide_eq_true (by omega)), if_pos hl]
      · have := xParse2 s.length s 0 0 (Nat.le_refl _) hg (by simp) (by omega)
        rw [nat_zero, Nat.zero_mul, Nat.zero_add] at this
        rw [cF (decide_eq_false (by omega)), if_neg hl, this]
    · have hg : good s = false := by simpa using hg
      rw [hg, show (!false) = true from rfl, cond_true, if_pos (.inr rfl)]
end Go.Proofs.YtpdfjgooaaailaaGreatDoor.D
namespace Go.Proofs.YtpdfjgooaaailaaGreatDoor.D
open Go Go.Proofs.YtpdfjgooaaailaaGreatDoor.K
open Go.Proofs.YtpdfjgooaaailaaGreatDoor.P (nat val divmod small val_nat nat_zero nat_eq_nil nat_val_length nat_length_le len_mono val_lt nat_inj sgnv powR powV blen blen_bounds blen_zero nat_one)
open Go.Proofs.YtpdfjgooaaailaaGreatDoor.Q (ok1 ok3 cmpQ gcdQ powQ bitsQ)
abbrev Wh := Bool × List UInt8
abbrev Rt := Bool × List UInt8 × List UInt8
theorem ok3_of {s : List UInt8} (h : s.length ≤ 1000) : ok3 s = true := Nat.ble_eq_true_of_le h
theorem gcdQ_eq (a b : List UInt8) (ha : a.length ≤ 1000) (hb : b.length ≤ 1000) : gcdQ (a, b) = some (nat (Nat.gcd (val a) (val b))) := by
  unfold gcdQ
  simp only
  rw [ok3_of ha, ok3_of hb]; rfl
theorem xGcd (a b : List UInt8) (ha : a.length ≤ 1000) (hb : b.length ≤ 1000) : divide_Gcd a b = some (nat (Nat.gcd (val a) (val b))) := (top_call ..).trans (gcdQ_eq a b ha hb)
theorem yGcd (a b : List UInt8) (ha : a.length ≤ 1000) (hb : b.length ≤ 1000) : r02_Gcd a b = some (nat (Nat.gcd (val a) (val b))) := (top_call ..).trans (gcdQ_eq a b ha hb)
theorem powQ_eq (a : List UInt8) (n : Int) (ha : a.length ≤ 1000) (hn : n ≤ 9000) : powQ (a, n) = some (powR (val a) n) := by
  unfold powQ
  simp only
  rw [ok3_of ha, decide_eq_true hn]; rfl
theorem xPow (a : List UInt8) (n : Int) (ha : a.length ≤ 1000) (hn : n ≤ 9000) : divide_Pow a n = some (powR (val a) n) := (top_call ..).trans (powQ_eq a n ha hn)
theorem yBits (a : List UInt8) (ha : a.length ≤ 1000000000) : r01_Bits a = some ((blen (val a) : Nat) : Int) := by
  refine (top_call ..).trans ?_
  show bitsQ a = _
  unfold bitsQ
  rw [ok_le ha, cond_true]
theorem nilD (n : Nat) : decide (nat n = []) = decide (n = 0) := decide_eq_decide.2 nat_eq_nil
def mkW (s : Bool) (n : Nat) : Wh := (s && !decide (n = 0), nat n)
theorem xWMake (s : Bool) (m : List UInt8) (h : m.length ≤ 1000000000) : whole_Make s m = some (mkW s (val m)) := by
  rw [whole_Make_eq, xTrim m h, Option.bind_some, mkW, nilD]
  cases s <;> rfl
theorem yWMake (s : Bool) (m : List UInt8) (h : m.length ≤ 1000000000) : r04_Make s m = some (mkW s (val m)) := by
  rw [r04_Make_eq, yTrim m h, Option.bind_some, mkW, nilD]
  cases s <;> rfl
theorem xWWell (x : Wh) (h : x.2.length ≤ 1000000000) : whole_well x = some (mkW x.1 (val x.2)) := by rw [whole_well_eq, xWMake _ _ h]; rfl
theorem mul_len (a b : List UInt8) : (nat (val a * val b)).length ≤ a.length + b.length := by
  have h1 := val_lt a
  have h2 := val_lt b
  exact nat_length_le (by rw [Nat.pow_add]; exact Nat.mul_lt_mul'' h1 h2)
end Go.Proofs.YtpdfjgooaaailaaGreatDoor.D
namespace Go.Proofs.YtpdfjgooaaailaaGreatDoor.D
open Go Go.Proofs.YtpdfjgooaaailaaGreatDoor.K
open Go.Proofs.YtpdfjgooaaailaaGreatDoor.P (nat val divmod small val_nat nat_zero nat_eq_nil nat_val_length nat_length_le len_mono val_lt nat_inj sgnv powR powV blen blen_bounds blen_zero nat_one mod_u64)
def tidy (s : List UInt8) : Bool := decide (s.length ≤ 32) && decide (nat (val s) = s)
def right (r : Rt) : Bool := tidy r.2.1 && (tidy r.2.2 && (!decide (r.2.2 = []) && cond (decide (r.2.1 = [])) (!r.1 && decide (r.2.2 = [1])) (decide (Nat.gcd (val r.2.1) (val r.2.2) = 1))))
theorem val1 : val [1] = 1 := rfl
theorem natOne (n : Nat) : decide (nat n = [1]) = decide (n = 1) := decide_eq_decide.2 (by rw [← nat_one, nat_inj])
theorem tidy_len {s : List UInt8} (h : tidy s = true) : s.length ≤ 32 := by
  unfold tidy at h
  simp at h
  exact h.1
theorem tidy_nat {s : List UInt8} (h : tidy s = true) : nat (val s) = s := by
  unfold tidy at h
  simp at h
  exact h.2
theorem xTidy (s : List UInt8) : rat_tidy s = some (tidy s) := by
  rw [rat_tidy_eq]
  by_cases h : s.length ≤ 32
  · rw [cT (decide_eq_true (by omega)), xTrim s (by omega)]; simp [tidy, h]
  · rw [cF (decide_eq_false (by omega))]; simp [tidy, h]
theorem xRight (r : Rt) : rat_Right r = some (right r) := by
  rw [rat_Right_eq, xTidy, Option.bind_some, xTidy, Option.bind_some]
  simp only [rat_Right_1_eq, right]
  cases h1 : tidy r.2.1 with
  | false => rfl
  | true =>
    cases h2 : tidy r.2.2 with
    | false => rfl
    | true =>
      have l1 := tidy_len h1
      have l2 := tidy_len h2
      rw [xGcd _ _ (by omega) (by omega), Option.bind_some, natOne]
      by_cases h3 : r.2.2 = []
      · simp [h3]
      · by_cases h4 : r.2.1 = []
        · cases h6 : r.1 <;> simp [h3, h4]
        · by_cases h5 : r.2.2 = [1]
          · simp [h5, h4, val1]
          · simp [h3, h4, h5]
theorem yRight (r : Rt) : r05_Right r = some (right r) := by
  rw [r05_Right_eq]
  simp only [r05_Right_1_eq, right]
  by_cases a1 : r.2.1.length ≤ 32
  · by_cases a2 : r.2.2.length ≤ 32
    · rw [cF (decide_eq_false (by omega)), cF (decide_eq_false (by omega)), yTrim _ (by omega), Option.bind_some, yTrim _ (by omega), Option.bind_some, yGcd _ _ (by omega) (by omega), Option.bind_some, natOne]
      by_cases a3 : r.2.2 = []
      · simp [a3]
      · by_cases a4 : nat (val r.2.1) = r.2.1
        · by_cases a5 : nat (val r.2.2) = r.2.2
          · by_cases a6 : r.2.1 = []
            · have hv : val ([] : List UInt8) = 0 := rfl
              cases h6 : r.1 <;> simp [tidy, a2, a3, a5, a6, hv, nat_zero]
            · simp [tidy, a1, a2, a3, a4, a5, a6]
          · simp [tidy, a1, a2, a3, a4, a5]
        · simp [tidy, a1, a2, a3, a4]
    · rw [cF (decide_eq_false (by omega)), cT (decide_eq_true (by omega))]; simp [tidy, a2]
  · rw [cT (decide_eq_true (by omega))]; simp [tidy, a1]
def well (r : Rt) : Rt := cond (right r) r (false, [], [1])
structure Fm (s : Bool) (n d : Nat) : Prop where
  nl : (nat n).length ≤ 32
  dl : (nat d).length ≤ 32
  pos : 0 < d
  co : Nat.gcd n d = 1
  z : n = 0 → s = false
theorem right_form {r : Rt} (h : right r = true) : ∃ s n d, r = (s, nat n, nat d) ∧ Fm s n d := by
  obtain ⟨s, a, b⟩ := r
  unfold right at h
  simp only [Bool.and_eq_true] at h
  obtain ⟨h1, h2, h3, h4⟩ := h
  have e1 := tidy_nat h1
  have e2 := tidy_nat h2
  have hb : b ≠ [] := by simpa using h3
  have hd : val b ≠ 0 := fun e => hb (by rw [← e2, e, nat_zero])
  refine ⟨s, val a, val b, by rw [e1, e2], ⟨by rw [e1]; exact tidy_len h1, by rw [e2]; exact tidy_len h2, by omega, ?_, ?_⟩⟩
  · by_cases h0 : a = []
    · rw [decide_eq_true h0, cond_true] at h4
      simp only [Bool.and_eq_true, decide_eq_true_eq] at h4
      rw [h0, h4.2]; rfl
    · rw [decide_eq_false h0, cond_false] at h4
      exact of_decide_eq_true h4
  · intro hz
    have h0 : a = [] := by rw [← e1, hz, nat_zero]
    rw [decide_eq_true h0, cond_true] at h4
    simp only [Bool.and_eq_true, Bool.not_eq_true'] at h4
    exact h4.1
theorem tidy_of {n : Nat} (h : (nat n).length ≤ 32) : tidy (nat n) = true := by
  unfold tidy
  rw [val_nat, decide_eq_true h, decide_eq_true rfl]; rfl
theorem Fm.right {s : Bool} {n d : Nat} (h : Fm s n d) : right (s, nat n, nat d) = true := by
  unfold D.right
  have hd : decide (nat d = []) = false := decide_eq_false fun e => by have := nat_eq_nil.1 e; have := h.pos; omega
  simp only [tidy_of h.nl, tidy_of h.dl, hd, nilD, natOne, val_nat]
  by_cases h0 : n = 0
  · have hs := h.z h0
    have hc := h.co
    rw [h0, Nat.gcd_zero_left] at hc
    rw [decide_eq_true h0, hs, decide_eq_true hc]; rfl
  · rw [decide_eq_false h0, decide_eq_true h.co]; rfl
theorem Fm.zero : Fm false 0 1 := ⟨by rw [nat_zero]; simp, by rw [nat_one]; simp, by omega, rfl, fun _ => rfl⟩
theorem well_form (r : Rt) : ∃ s n d, well r = (s, nat n, nat d) ∧ Fm s n d := by
  unfold well
  cases h : right r with
  | true => exact right_form h
  | false => exact ⟨false, 0, 1, by rw [nat_zero, nat_one]; rfl, .zero⟩
theorem Fm.well {s : Bool} {n d : Nat} (h : Fm s n d) : well (s, nat n, nat d) = (s, nat n, nat d) := by unfold D.well; rw [h.right]; rfl
theorem well_well (r : Rt) : well (well r) = well r := by
  obtain ⟨s, n, d, e, f⟩ := well_form r
  rw [e, f.well]
theorem xWell (r : Rt) : rat_well r = some (well r) := by
  rw [rat_well_eq, xRight, Option.bind_some, well]
  cases right r <;> rfl
theorem yWell (r : Rt) : r05_Well r = some (well r) := by
  rw [r05_Well_eq, yRight, Option.bind_some, well, r05_Zero_eq]
  cases right r <;> rfl
theorem mkW_form {s : Bool} {n d : Nat} (h : Fm s n d) : mkW s n = (s, nat n) := by
  unfold mkW
  by_cases h0 : n = 0
  · rw [h.z h0]; rfl
  · rw [decide_eq_false h0]; cases s <;> rfl
def make (x y : Wh) : Rt × Int :=
  if val y.2 = 0 then ((false, [], []), 5)
  else if 32 < (nat (val x.2 / Nat.gcd (val x.2) (val y.2))).length ∨ 32 < (nat (val y.2 / Nat.gcd (val x.2) (val y.2))).length then ((false, [], []), 4)
  else ((!(x.1 == y.1) && !decide (val x.2 / Nat.gcd (val x.2) (val y.2) = 0), nat (val x.2 / Nat.gcd (val x.2) (val y.2)), nat (val y.2 / Nat.gcd (val x.2) (val y.2))), 0)
theorem xMake (x y : Wh) (hx : x.2.length ≤ 1000) (hy : y.2.length ≤ 1000) : rat_Make x y = some (make x y) := by
  have l1 := nat_val_length x.2
  have l2 := nat_val_length y.2
  rw [rat_Make_eq, xTrim _ (by omega), Option.bind_some, xTrim _ (by omega), Option.bind_some, nilD, make]
  by_cases h0 : val y.2 = 0
  · rw [cT (decide_eq_true h0), if_pos h0]
  · rw [cF (decide_eq_false h0), if_neg h0, xGcd _ _ (by omega) (by omega), Option.bind_some, val_nat, val_nat, natOne]
    have hg : 0 < Nat.gcd (val x.2) (val y.2) := Nat.gcd_pos_of_pos_right _ (by omega)
    generalize hG : Nat.gcd (val x.2) (val y.2) = g at hg
    have hgl : (nat g).length ≤ 1000 := by
      have : g ≤ val y.2 := by rw [← hG]; exact Nat.gcd_le_right _ (by omega)
      exact Nat.le_trans (len_mono this) (by omega)
    have step : ∀ a b : Nat, rat_Make_1 (nat a) (nat b) x y (false, [], []) = some (if 32 < (nat a).length ∨ 32 < (nat b).length then ((false, [], []), 4) else ((!(x.1 == y.1) && !decide (a = 0), nat a, nat b), 0)) := by
      intro a b
      rw [rat_Make_1_eq]
      simp only [rat_Make_2_eq, nilD]
      by_cases h1 : 32 < (nat a).length
      · rw [cT (decide_eq_true (by omega)), if_pos (.inl h1)]; rfl
      · rw [cF (decide_eq_false (by omega))]
        by_cases h2 : 32 < (nat b).length
        · rw [cT (decide_eq_true (by omega)), if_pos (.inr h2)]
        · rw [cF (decide_eq_false (by omega)), if_neg (by omega)]
          by_cases h3 : a = 0
          · simp [h3]
          · simp [h3]
    by_cases h1 : g = 1
    · rw [cF (by rw [decide_eq_true h1]; rfl), step, h1, Nat.div_one, Nat.div_one]
    · have e1 : divide_DivMod (nat (val x.2)) (nat g) = some (nat (val x.2 / g), nat (val x.2 % g), 0) := by rw [xDiv _ _ (by omega) (by omega), val_nat, val_nat, divmod, if_neg (by omega)]
      have e2 : divide_DivMod (nat (val y.2)) (nat g) = some (nat (val y.2 / g), nat (val y.2 % g), 0) := by rw [xDiv _ _ (by omega) (by omega), val_nat, val_nat, divmod, if_neg (by omega)]
      rw [cT (by rw [decide_eq_false h1]; rfl), e1, Option.bind_some, e2, Option.bind_some, step]
theorem pow_half {k b n : Nat} (h : k < b) (h2 : 2 ^ b ≤ 2 * n) : 2 ^ k ≤ n := by
  have h3 : 2 ^ (k + 1) ≤ 2 ^ b := Nat.pow_le_pow_right (by decide) h
  rw [Nat.pow_succ] at h3
  generalize 2 ^ k = X at h3 ⊢
  omega
theorem blen_big (n : Nat) : blen n > 256 ↔ 32 < (nat n).length := by
  obtain ⟨h1, h2⟩ := blen_bounds n
  have h3 := val_lt (nat n)
  rw [val_nat, P.pow_256] at h3
  constructor
  · intro h
    rcases Nat.lt_or_ge 32 (nat n).length with h4 | h4
    · exact h4
    · exfalso
      have h5 : 2 ^ (8 * (nat n).length) ≤ 2 ^ 256 := Nat.pow_le_pow_right (by decide) (by omega)
      by_cases h0 : n = 0
      · rw [h0, blen_zero] at h; omega
      · have h6 := pow_half h (h2 h0)
        generalize (2 : Nat) ^ 256 = X at h5 h6
        omega
  · intro h
    rcases Nat.lt_or_ge 256 (blen n) with h4 | h4
    · exact h4
    · exfalso
      have h5 : 2 ^ blen n ≤ 2 ^ (8 * 32) := Nat.pow_le_pow_right (by decide) h4
      have : (nat n).length ≤ 32 := nat_length_le (by rw [P.pow_256]; exact Nat.lt_of_lt_of_le h1 h5)
      omega
theorem yDivs (a b : List UInt8) (ha : a.length ≤ 1000000000) (hb : b.length ≤ 1000000000) : r02_Div a b = some (divmod (val a) (val b)).1 := by rw [r02_Div_eq, yDiv _ _ ha hb]; rfl
theorem yMake (x y : Wh) (hx : x.2.length ≤ 1000) (hy : y.2.length ≤ 1000) : r05_Make x y = some (make x y) := by
  have l1 := nat_val_length x.2
  have l2 := nat_val_length y.2
  rw [r05_Make_eq, yWMake _ _ (by omega), Option.bind_some, yWMake _ _ (by omega), Option.bind_some, make]
  show cond (decide (nat (val y.2) = [])) _ _ = _
  rw [nilD]
  by_cases h0 : val y.2 = 0
  · rw [cT (decide_eq_true h0), if_pos h0]
  · rw [cF (decide_eq_false h0), if_neg h0]
    show (r02_Gcd (nat (val x.2)) (nat (val y.2))).bind _ = _
    rw [yGcd _ _ (by omega) (by omega), Option.bind_some, val_nat, val_nat]
    have hg : 0 < Nat.gcd (val x.2) (val y.2) := Nat.gcd_pos_of_pos_right _ (by omega)
    have hgx : val x.2 = 0 ∨ Nat.gcd (val x.2) (val y.2) ≤ val x.2 := by
      rcases Nat.eq_zero_or_pos (val x.2) with h | h
      · exact .inl h
      · exact .inr (Nat.gcd_le_left _ h)
    generalize hG : Nat.gcd (val x.2) (val y.2) = g at hg hgx
    have hgl : (nat g).length ≤ 1000 := by
      have : g ≤ val y.2 := by rw [← hG]; exact Nat.gcd_le_right _ (by omega)
      exact Nat.le_trans (len_mono this) (by omega)
    have e1 : r02_Div (mkW x.1 (val x.2)).2 (nat g) = some (nat (val x.2 / g)) := by
      show r02_Div (nat (val x.2)) (nat g) = _
      rw [yDivs _ _ (by omega) (by omega), val_nat, val_nat, divmod, if_neg (by omega)]
    have e2 : r02_Div (mkW y.1 (val y.2)).2 (nat g) = some (nat (val y.2 / g)) := by
      show r02_Div (nat (val y.2)) (nat g) = _
      rw [yDivs _ _ (by omega) (by omega), val_nat, val_nat, divmod, if_neg (by omega)]
    have m1 : (nat (val x.2 / g)).length ≤ 1000 := Nat.le_trans (len_mono (Nat.div_le_self _ _)) (by omega)
    have m2 : (nat (val y.2 / g)).length ≤ 1000 := Nat.le_trans (len_mono (Nat.div_le_self _ _)) (by omega)
    rw [e1, Option.bind_some, e2, Option.bind_some, yBits _ (by omega), Option.bind_some, yBits _ (by omega), Option.bind_some, val_nat, val_nat]
    simp only [r05_Make_1_eq, nilD]
    by_cases h1 : 32 < (nat (val x.2 / g)).length
    · rw [cT (decide_eq_true (by have := (blen_big _).2 h1; omega)), if_pos (.inl h1)]; rfl
    · rw [cF (decide_eq_false (by have := mt (blen_big (val x.2 / g)).1 h1; omega))]
      by_cases h2 : 32 < (nat (val y.2 / g)).length
      · rw [cT (decide_eq_true (by have := (blen_big _).2 h2; omega)), if_pos (.inr h2)]
      · rw [cF (decide_eq_false (by have := mt (blen_big (val y.2 / g)).1 h2; omega)), if_neg (by omega)]
        by_cases h3 : val x.2 / g = 0
        · simp [h3]
        · have hx0 : val x.2 ≠ 0 := fun e => h3 (by rw [e, Nat.zero_div])
          simp [h3, mkW, hx0, h0]
def ofI (n : Int) : Rt := (decide (n < 0), nat n.natAbs, [1])
theorem u64_neg {n : Int} (h : n < 0) (h0 : -9223372036854775808 ≤ n) : IntKind.u64.wrap (0 - IntKind.u64.wrap n) = ((n.natAbs : Nat) : Int) := by rw [mod_u64, mod_u64]; omega
theorem u64_pos {n : Int} (h : ¬ n < 0) (h1 : n ≤ 9223372036854775807) : IntKind.u64.wrap n = ((n.natAbs : Nat) : Int) := by rw [mod_u64]; omega
theorem abs_len (n : Int) (h0 : -9223372036854775808 ≤ n) (h1 : n ≤ 9223372036854775807) : (nat n.natAbs).length ≤ 8 := nat_length_le (by show n.natAbs < 18446744073709551616; omega)
theorem xWOf (n : Int) (h0 : -9223372036854775808 ≤ n) (h1 : n ≤ 9223372036854775807) : whole_Of n = some (decide (n < 0), nat n.natAbs) := by
  have hl := abs_len n h0 h1
  rw [whole_Of_eq]
  by_cases h : n < 0
  · rw [cT (decide_eq_true h), u64_neg h h0, xOf _ (by omega), Option.bind_some, xWMake _ _ (by omega), Option.bind_some, val_nat, mkW, decide_eq_true h, decide_eq_false (by omega)]; rfl
  · rw [cF (decide_eq_false h), u64_pos h h1, xOf _ (by omega), Option.bind_some, xWMake _ _ (by omega), Option.bind_some, val_nat, mkW, decide_eq_false h]; rfl
theorem yWOf (n : Int) (h0 : -9223372036854775808 ≤ n) (h1 : n ≤ 9223372036854775807) : r04_Of n = some (decide (n < 0), nat n.natAbs) := by
  have hl := abs_len n h0 h1
  rw [r04_Of_eq]
  by_cases h : n < 0
  · rw [cT (decide_eq_true h), u64_neg h h0, yOf _ (by omega), Option.bind_some, yWMake _ _ (by omega), Option.bind_some, val_nat, mkW, decide_eq_true h, decide_eq_false (by omega)]; rfl
  · rw [cF (decide_eq_false h), u64_pos h h1, yOf _ (by omega), Option.bind_some, yWMake _ _ (by omega), Option.bind_some, val_nat, mkW, decide_eq_false h]; rfl
theorem xROf (n : Int) (h0 : -9223372036854775808 ≤ n) (h1 : n ≤ 9223372036854775807) : rat_Of n = some (ofI n) := by rw [rat_Of_eq, xWOf n h0 h1]; rfl
theorem Fm.of {n : Int} (h0 : -9223372036854775808 ≤ n) (h1 : n ≤ 9223372036854775807) : Fm (decide (n < 0)) n.natAbs 1 := by
  have := abs_len n h0 h1
  exact ⟨by omega, by rw [nat_one]; simp, by omega, Nat.gcd_one_right _, fun h => decide_eq_false (by omega)⟩
theorem ofI_form (n : Int) : ofI n = (decide (n < 0), nat n.natAbs, nat 1) := by rw [nat_one]; rfl
theorem make_form {s : Bool} {n d : Nat} (h : Fm s n d) : make (s, nat n) (false, nat d) = ((s, nat n, nat d), 0) := by
  have h1 := h.nl
  have h2 := h.dl
  have h3 := h.pos
  unfold make
  simp only [val_nat, h.co, Nat.div_one]
  rw [if_neg (by omega), if_neg (by omega)]
  by_cases h0 : n = 0
  · rw [h.z h0]; rfl
  · rw [decide_eq_false h0]; cases s <;> rfl
theorem yROf (n : Int) (h0 : -9223372036854775808 ≤ n) (h1 : n ≤ 9223372036854775807) : r05_Of n = some (ofI n) := by
  have hl := abs_len n h0 h1
  have := make_form (Fm.of h0 h1)
  rw [r05_Of_eq, yWOf n h0 h1, Option.bind_some, yWOf 1 (by omega) (by omega), Option.bind_some]
  show (r05_Make (decide (n < 0), nat n.natAbs) (false, nat 1)).bind _ = _
  rw [yMake _ _ (by simp only; omega) (by rw [nat_one]; simp), this, ofI_form]; rfl
def negR (r : Rt) : Rt := (!(well r).1 && !decide ((well r).2.1 = []), (well r).2)
theorem xNeg (r : Rt) : rat_Neg r = some (negR r) := by
  rw [rat_Neg_eq, xWell, Option.bind_some, negR]
  simp only [rat_Neg_1_eq]
  cases (well r).1 <;> rfl
theorem Fm.neg {s : Bool} {n d : Nat} (h : Fm s n d) : negR (s, nat n, nat d) = (!s && !decide (n = 0), nat n, nat d) := by unfold negR; rw [h.well, nilD]
end Go.Proofs.YtpdfjgooaaailaaGreatDoor.D
namespace Go.Proofs.YtpdfjgooaaailaaGreatDoor.D
open Go Go.Proofs.YtpdfjgooaaailaaGreatDoor.K
open Go.Proofs.YtpdfjgooaaailaaGreatDoor.P (nat val divmod small val_nat nat_zero nat_eq_nil nat_val_length nat_length_le len_mono val_lt nat_inj sgnv powR powV nat_one wS nat_ten_len inC dv good dig dig_le dv_nil dv_snoc dv_append dv_cons dv_lt decT decT_good decT_dv decT_ne decT_len)
def pos (c : UInt8) : List UInt8 → Option Nat
  | [] => none
  | b :: s => if b = c then some 0 else (pos c s).map (· + 1)
def cutV (c : UInt8) (s : List UInt8) : List UInt8 × List UInt8 × Bool :=
  match pos c s with
  | none => (s, [], false)
  | some k => (s.take k, s.drop (k + 1), true)
theorem indexByte_pos (c : UInt8) : ∀ s : List UInt8, Lib.indexByte s c = (match pos c s with
    | none => -1
    | some k => (k : Int))
  | [] => rfl
  | b :: s => by
    simp only [Lib.indexByte, pos, indexByte_pos c s]
    by_cases h : b = c
    · simp [h]
    · rw [if_neg h, if_neg (by simpa using h)]
      cases pos c s with
      | none => rfl
      | some k => simp
theorem pos_lt {c : UInt8} : ∀ {s : List UInt8} {k : Nat}, pos c s = some k → k < s.length
  | [], k, h => by simp [pos] at h
  | b :: s, k, h => by
    simp only [pos] at h
    split at h
    · cases h; simp
    · cases hp : pos c s with
      | none => rw [hp] at h; cases h
      | some j => rw [hp] at h; have := pos_lt hp; simp at h; simp; omega
theorem xCut (c : UInt8) (s : List UInt8) (h : s.length < 4294967281) : strings_Cut s [c] = some (cutV c s) := by
  refine (top_call ..).trans ?_
  show cutF (s, [c]) = _
  unfold cutF
  rw [decide_eq_true h]
  show some (Lib.cut s [c]) = _
  congr 1
  unfold Lib.cut cutV
  rw [Lib.index_one, indexByte_pos]
  cases pos c s with
  | none => rfl
  | some k => simp only [Int.toNat_natCast]; rw [if_pos (by omega)]; rfl
theorem getD_drop {s : List UInt8} {i : Nat} (h : i < s.length) : s.drop i = s.getD i 0 :: s.drop (i + 1) := by rw [List.drop_eq_getElem_cons h, good_get h]
def preV (c : UInt8) (s : List UInt8) : List UInt8 × Bool := match s with
  | [] => ([], false)
  | b :: t => if b = c then (t, true) else (b :: t, false)
theorem hasPre (c : UInt8) (s : List UInt8) : internal_stringslite_HasPrefix s [c] = some (preV c s).2 := by
  rw [internal_stringslite_HasPrefix_eq]
  cases s with
  | nil => rfl
  | cons b t =>
    rw [cT (decide_eq_true (by simp; omega)), cT (by simp; omega), preV]
    by_cases h : b = c
    · simp [h]
    · simp [h]
theorem xPre (c : UInt8) (s : List UInt8) : strings_CutPrefix s [c] = some (preV c s) := by
  rw [strings_CutPrefix_eq, internal_stringslite_CutPrefix_eq, hasPre, Option.bind_some]
  cases s with
  | nil => rfl
  | cons b t =>
    unfold preV
    by_cases h : b = c
    · have : (1 : Int) ≤ (t.length : Int) + 1 := by omega
      simp [h, this]
    · simp [h]
theorem pre_len (c : UInt8) (s : List UInt8) : (preV c s).1.length ≤ s.length := by
  unfold preV
  split
  · exact Nat.le_refl _
  · split <;> simp
def dg (s : List UInt8) : Bool := good s && !decide (s = [])
theorem xDigits1 (s : List UInt8) (hs : s.length ≤ 9223372036854775807) : ∀ (m i : Nat), i + m = s.length → numtext_digits_1 s (s.map fun b => (b.toNat : Int)) ((s.map fun b => (b.toNat : Int)).length : Int) (i : Int) = some (good (s.drop i) && !decide (s = []))
  | 0, i, h => by
    rw [numtext_digits_1_eq, cF (decide_eq_false (by rw [List.length_map]; omega)), List.drop_of_length_le (by omega)]; rfl
  | m + 1, i, h => by
    have hi : i < s.length := by omega
    have hg : (s.map fun b => (b.toNat : Int)).getD (i : Int).toNat 0 = ((s.getD i 0).toNat : Int) := by simp [List.getD, hi]
    have next : numtext_digits_2 s (s.map fun b => (b.toNat : Int)) ((s.map fun b => (b.toNat : Int)).length : Int) (i : Int) false = some (good (s.drop (i + 1)) && !decide (s = [])) := by
      rw [numtext_digits_2_eq, cond_false, wS (by omega)]; exact xDigits1 s hs m (i + 1) (by omega)
    have stop : numtext_digits_2 s (s.map fun b => (b.toNat : Int)) ((s.map fun b => (b.toNat : Int)).length : Int) (i : Int) true = some false := by rw [numtext_digits_2_eq, cond_true]
    rw [numtext_digits_1_eq, cT (decide_eq_true (by rw [List.length_map]; omega)), cT (by rw [List.length_map]; exact ix hi), hg, good_drop hi]
    generalize s.getD i 0 = c
    by_cases h1 : c.toNat < 48
    · rw [cT (decide_eq_true (by omega)), stop, show dig c = false by unfold dig; simp; omega]; rfl
    · rw [cF (decide_eq_false (by omega))]
      by_cases h2 : c.toNat > 57
      · rw [decide_eq_true (show (c.toNat : Int) > 57 by omega), stop, show dig c = false by unfold dig; simp; omega]; rfl
      · rw [decide_eq_false (show ¬ (c.toNat : Int) > 57 by omega), next, show dig c = true by unfold dig; simp; omega]; rfl
theorem xDigits (s : List UInt8) (hs : s.length ≤ 9223372036854775807) : numtext_digits s = some (dg s) := (numtext_digits_eq s).trans (xDigits1 s hs s.length 0 (Nat.zero_add _))
theorem pow_small {b : Nat} (hb : b < 256) (n : Nat) : (nat (b ^ n)).length ≤ n + 1 := by
  rcases Nat.eq_zero_or_pos n with h | h
  · subst h; rw [Nat.pow_zero, nat_one]; simp
  · exact Nat.le_trans (nat_length_le (Nat.pow_lt_pow_left hb (by omega))) (by omega)
theorem powR_small {b n : Nat} (hb : 2 ≤ b) (hb2 : b < 256) (hn : n ≤ 1000) : powR b (n : Int) = (nat (b ^ n), 0) := by
  unfold powR
  rw [if_neg (by omega)]
  by_cases h : n = 0
  · subst h; rw [if_pos (by rfl), Nat.pow_zero, nat_one]
  · have := pow_small hb2 n
    rw [if_neg (by omega), if_neg (by omega), powV, Int.toNat_natCast, if_neg (by omega)]
theorem xPower {b n : Nat} (hb : 2 ≤ b) (hb2 : b < 256) (hn : n ≤ 1000) : numtext_power (b : Int) (n : Int) = some (nat (b ^ n)) := by
  have hl : (nat b).length ≤ 1 := nat_length_le (by omega)
  rw [numtext_power_eq, xOf _ (by omega), Option.bind_some, xPow _ _ (by omega) (by omega), Option.bind_some, val_nat, powR_small hb hb2 hn]; rfl
theorem ord_dvd (b : Nat) (hb : 2 ≤ b) : ∀ (m : Nat), m ≠ 0 → b ^ ordB b m ∣ m := by
  intro m
  induction m using Nat.strongRecOn with
  | _ m ih =>
    intro h0
    by_cases h : m % b = 0
    · have hd : m / b < m := Nat.div_lt_self (by omega) (by omega)
      have hm : m = b * (m / b) := by have := Nat.div_add_mod m b; omega
      have h1 : m / b ≠ 0 := fun e => by rw [e, Nat.mul_zero] at hm; exact h0 hm
      rw [ord_go b m h0 hb h, Nat.pow_succ, Nat.mul_comm]
      conv => rhs; rw [hm]
      exact Nat.mul_dvd_mul_left b (ih _ hd h1)
    · rw [ord_stop b m (.inr h), Nat.pow_zero]; exact Nat.one_dvd m
theorem ord_le (b m : Nat) (hb : 2 ≤ b) (h0 : m ≠ 0) (hl : (nat m).length ≤ 32) : ordB b m ≤ 256 := by
  have h1 := Nat.le_of_dvd (by omega) (ord_dvd b hb m h0)
  have h2 : 2 ^ ordB b m ≤ b ^ ordB b m := Nat.pow_le_pow_left hb _
  have h3 := val_lt (nat m)
  rw [val_nat, pow8] at h3
  have h4 : 2 ^ (8 * (nat m).length) ≤ 2 ^ 256 := Nat.pow_le_pow_right (by decide) (by omega)
  rcases Nat.lt_or_ge 256 (ordB b m) with h | h
  · have h5 := pow_half h (Nat.le_trans (Nat.le_trans h2 h1) (show m ≤ 2 * m by omega))
    generalize (2 : Nat) ^ 256 = X at h4 h5
    have h6 : m < X := by omega
    omega
  · exact h
def endsN (d : Nat) : Nat × Bool := if 2 ^ ordB 2 d * 5 ^ ordB 5 d = d then (max (ordB 2 d) (ordB 5 d), true) else (0, false)
theorem ends_le {d : Nat} (h0 : d ≠ 0) (hl : (nat d).length ≤ 32) : (endsN d).1 ≤ 256 := by
  unfold endsN
  have h2 := ord_le 2 d (by omega) h0 hl
  have h5 := ord_le 5 d (by omega) h0 hl
  split
  · simp only; omega
  · exact Nat.zero_le _
theorem xEnds {r : Rt} {s : Bool} {n d : Nat} (e : well r = (s, nat n, nat d)) (f : Fm s n d) : numtext_Ends r = some (((endsN d).1 : Int), (endsN d).2) := by
  have h0 := f.pos
  have hl := f.dl
  have h2 := ord_le 2 d (by omega) (by omega) hl
  have h5 := ord_le 5 d (by omega) (by omega) hl
  have hw : numtext_well r = some (well r) := by
    rw [numtext_well_eq, xRight, Option.bind_some, xROf 0 (by omega) (by omega), Option.bind_some, well, show ofI 0 = (false, [], [1]) by unfold ofI; rw [Int.natAbs_zero, nat_zero]; rfl]
    cases right r <;> rfl
  have l2 := pow_small (b := 2) (by omega) (ordB 2 d)
  have l5 := pow_small (b := 5) (by omega) (ordB 5 d)
  rw [numtext_Ends_eq, hw, Option.bind_some, e, xTwos _ (by simp only; omega), Option.bind_some]
  simp only [val_nat]
  rw [show numtext_power 2 ((ordB 2 d : Nat) : Int) = _ from xPower (b := 2) (by omega) (by omega) (by omega), Option.bind_some, show numtext_power 5 ((ordB 5 d : Nat) : Int) = _ from xPower (b := 5) (by omega) (by omega) (by omega), Option.bind_some, xMul _ _ (by omega) (by omega), Option.bind_some, val_nat, val_nat, endsN]
  by_cases h : 2 ^ ordB 2 d * 5 ^ ordB 5 d = d
  · rw [h, decide_eq_true rfl, if_pos rfl]; simp only [Bool.not_true, cond_false]; congr 2; omega
  · rw [decide_eq_false (fun e => h (nat_inj.1 e)), if_neg h]; rfl
end Go.Proofs.YtpdfjgooaaailaaGreatDoor.D
namespace Go.Proofs.YtpdfjgooaaailaaGreatDoor.D
open Go Go.Proofs.YtpdfjgooaaailaaGreatDoor.K
open Go.Proofs.YtpdfjgooaaailaaGreatDoor.P (nat val divmod small val_nat nat_zero nat_eq_nil nat_val_length nat_length_le len_mono val_lt nat_inj sgnv powR powV nat_one wS wA wD nat_ten_len inC ten ten_len decT decT_len decT_ne decT_good decT_dv dv good dig dig_le dv_nil dv_snoc dv_append dv_cons dv_lt)
def ptN (n : Nat) (s : List UInt8) : List UInt8 :=
  if n = 0 then s else (List.replicate (n + 1 - s.length) 48 ++ s).take ((List.replicate (n + 1 - s.length) 48 ++ s).length - n) ++ [46] ++ (List.replicate (n + 1 - s.length) 48 ++ s).drop ((List.replicate (n + 1 - s.length) 48 ++ s).length - n)
theorem repeat48 (n : Nat) (h : n ≤ 1000000) : strings_Repeat [48] (n : Int) = some (List.replicate n 48) := by
  refine (top_call ..).trans ?_
  show repeatF ([48], (n : Int)) = _
  unfold repeatF
  rw [cT (by simp; omega)]
  congr 1
  rw [Int.toNat_natCast]
  induction n with
  | zero => rfl
  | succ n ih => simp [List.replicate_succ, Lib.repeatL, ih (by omega)]
theorem xNWell (r : Rt) : numtext_well r = some (well r) := by
  rw [numtext_well_eq, xRight, Option.bind_some, xROf 0 (by omega) (by omega), Option.bind_some, well, show ofI 0 = (false, [], [1]) by unfold ofI; rw [Int.natAbs_zero, nat_zero]; rfl]
  cases right r <;> rfl
theorem ten_pow : ∀ j : Nat, 10 ^ (12 * j) ≤ 256 ^ (5 * j)
  | 0 => Nat.le_refl _
  | j + 1 => by
    rw [Nat.mul_succ, Nat.mul_succ, Nat.pow_add, Nat.pow_add]
    exact Nat.mul_le_mul (ten_pow j) (by decide)
theorem ten_len_gen {j k : Nat} (h : k ≤ 12 * j) : (nat (10 ^ k)).length ≤ 5 * j + 1 := by
  have h1 : 10 ^ k ≤ 10 ^ (12 * j) := Nat.pow_le_pow_right (by omega) h
  have h2 := ten_pow j
  refine nat_length_le ?_
  have h3 : 256 ^ (5 * j) < 256 ^ (5 * j + 1) := Nat.pow_lt_pow_right (by omega) (by omega)
  generalize 10 ^ (12 * j) = X at h1 h2
  generalize 256 ^ (5 * j) = Y at h2 h3
  omega
theorem ten_len256 {k : Nat} (h : k ≤ 256) : (nat (10 ^ k)).length ≤ 111 := ten_len_gen (j := 22) (by omega)
theorem lim78 : (256 : Nat) ^ 32 ≤ 10 ^ 78 := Nat.le_of_ble_eq_true rfl
theorem lt78 {n : Nat} (h : (nat n).length ≤ 32) : n < 10 ^ 78 := by
  have h1 := val_lt (nat n)
  rw [val_nat] at h1
  exact Nat.lt_of_lt_of_le h1 (Nat.le_trans (Nat.pow_le_pow_right (by decide) h) lim78)
theorem q_len {n d k : Nat} (h : (nat n).length ≤ 32) : (decT (n * 10 ^ k / d)).length ≤ 78 + k := by
  refine decT_len ?_ (by omega)
  refine Nat.lt_of_le_of_lt (Nat.div_le_self _ _) ?_
  rw [Nat.pow_add]
  exact Nat.mul_lt_mul_of_pos_right (lt78 h) (Nat.pow_pos (by decide))
theorem q_nat {n d k : Nat} (h : (nat n).length ≤ 32) (hk : k ≤ 256) : (nat (n * 10 ^ k)).length ≤ 143 := by
  have h1 := mul_len (nat n) (nat (10 ^ k))
  have h2 := ten_len256 hk
  rw [val_nat, val_nat] at h1
  omega
theorem pt_cut (p : List UInt8) (k : Nat) (hk : k ≤ p.length) (hl : p.length ≤ 1000000) :
    cond (decide (0 ≤ (IntKind.i64.wrap ((p.length : Int) - (k : Int)))) && decide ((IntKind.i64.wrap ((p.length : Int) - (k : Int))) ≤ (p.length : Int))) (cond (Nat.ble ((p.take ((IntKind.i64.wrap ((p.length : Int) - (k : Int))).toNat)).length + ([46] : List UInt8).length) 9223372036854775807) (cond (decide (0 ≤ (IntKind.i64.wrap ((p.length : Int) - (k : Int)))) && decide ((IntKind.i64.wrap ((p.length : Int) - (k : Int))) ≤ (p.length : Int))) (cond (Nat.ble (((p.take ((IntKind.i64.wrap ((p.length : Int) - (k : Int))).toNat)) ++ ([46] : List UInt8)).length + (p.drop ((IntKind.i64.wrap ((p.length : Int) - (k : Int))).toNat)).length) 9223372036854775807) (some (((p.take ((IntKind.i64.wrap ((p.length : Int) - (k : Int))).toNat)) ++ ([46] : List UInt8)) ++ (p.drop ((IntKind.i64.wrap ((p.length : Int) - (k : Int))).toNat)), true)) none) none) none) none
      = some (p.take (p.length - k) ++ [46] ++ p.drop (p.length - k), true) := by
  have e : IntKind.i64.wrap ((p.length : Int) - (k : Int)) = ((p.length - k : Nat) : Int) := wD hk (by omega)
  rw [e, cT (inC (by omega)), cT (Nat.ble_eq_true_of_le (by simp; omega)), cT (inC (by omega)), Int.toNat_natCast, cT (Nat.ble_eq_true_of_le (by simp; omega))]
theorem xPoint {r : Rt} {s : Bool} {n d : Nat} (e : well r = (s, nat n, nat d)) (f : Fm s n d) : numtext_Point r = some (cond (endsN d).2 (ptN (endsN d).1 (decT (n * 10 ^ (endsN d).1 / d)), true) ([], false)) := by
  have h0 := f.pos
  have h1 := f.nl
  have h2 := f.dl
  have hk := ends_le (by omega : d ≠ 0) h2
  rw [numtext_Point_eq, xEnds e f, Option.bind_some]
  simp only
  generalize hE : endsN d = E at hk
  obtain ⟨k, b⟩ := E
  simp only at hk
  cases b with
  | false => rfl
  | true =>
    try simp only
    have h3 := ten_len256 hk
    have h4 := q_nat (d := d) h1 hk
    have h5 := q_len (d := d) (k := k) h1
    have hq : (nat (n * 10 ^ k / d)).length ≤ 143 := Nat.le_trans (len_mono (Nat.div_le_self _ _)) h4
    rw [cF (by rfl), xNWell, Option.bind_some, e, show numtext_power 10 (k : Int) = _ from xPower (b := 10) (by omega) (by omega) (by omega), Option.bind_some, xMul _ _ (by simp only; omega) (by omega), Option.bind_some, val_nat, val_nat, xDiv _ _ (by omega) (by simp only; omega), Option.bind_some, val_nat, val_nat, divmod, if_neg (by omega)]
    simp only
    rw [cF (by rfl), xText _ (by omega), Option.bind_some, val_nat]
    generalize decT (n * 10 ^ k / d) = t at h5
    by_cases hz : k = 0
    · subst hz; rw [cT (by rfl)]; rfl
    · have em : max 0 (IntKind.i64.wrap (IntKind.i64.wrap ((k : Int) + 1) - (t.length : Int))) = ((k + 1 - t.length : Nat) : Int) := by
        rw [wS (by omega), wrap64 (by omega) (by omega)]; omega
      rw [cF (decide_eq_false (by omega)), em, repeat48 _ (by omega), Option.bind_some, cT (Nat.ble_eq_true_of_le (by simp; omega)), pt_cut _ _ (by simp; omega) (by simp; omega)]
      simp only [cond_true]
      rw [ptN, if_neg hz]
def textF (s : Bool) (n d : Nat) : List UInt8 :=
  cond s [45] [] ++ cond ((endsN d).2 && decide ((endsN d).1 ≤ 20)) (ptN (endsN d).1 (decT (n * 10 ^ (endsN d).1 / d))) (decT n ++ [47] ++ decT d)
theorem d_len {n : Nat} (h : (nat n).length ≤ 32) : (decT n).length ≤ 78 := decT_len (lt78 h) (by omega)
theorem pt_len (k : Nat) (t : List UInt8) (h : t.length ≤ 1000) (hk : k ≤ 1000) : (ptN k t).length ≤ max t.length (k + 1) + 1 := by
  unfold ptN
  split
  · omega
  · simp; omega
theorem xTextN {r : Rt} {s : Bool} {n d : Nat} (e : well r = (s, nat n, nat d)) (f : Fm s n d) : numtext_Text r = some (textF s n d) := by
  have h0 := f.pos
  have h1 := f.nl
  have h2 := f.dl
  have hk := ends_le (by omega : d ≠ 0) h2
  have w2 : well (s, nat n, nat d) = (s, nat n, nat d) := f.well
  have hdn := d_len h1
  have hdd := d_len h2
  have hq := q_len (d := d) (k := (endsN d).1) h1
  have hpt := pt_len (endsN d).1 (decT (n * 10 ^ (endsN d).1 / d)) (by omega) (by omega)
  have fin : ∀ (c : List UInt8) (b : Bool), c.length ≤ 1 → b = ((endsN d).2 && decide ((endsN d).1 ≤ 20)) → numtext_Text_2 c b (s, nat n, nat d) = some (c ++ cond ((endsN d).2 && decide ((endsN d).1 ≤ 20)) (ptN (endsN d).1 (decT (n * 10 ^ (endsN d).1 / d))) (decT n ++ [47] ++ decT d)) := by
    intro c b hc hb
    rw [numtext_Text_2_eq, ← hb]
    cases b with
    | true =>
      have he : (endsN d).2 = true := by
        have := hb.symm
        rw [Bool.and_eq_true] at this
        exact this.1
      rw [cond_true, xPoint w2 f, Option.bind_some, he, cond_true, cT (Nat.ble_eq_true_of_le (by simp only; omega)), cond_true]
    | false =>
      rw [cond_false, xText _ (by simp only; omega), Option.bind_some, cT (Nat.ble_eq_true_of_le (by simp only [val_nat]; omega)), cT (Nat.ble_eq_true_of_le (by simp [val_nat]; omega)), xText _ (by simp only; omega), Option.bind_some, cT (Nat.ble_eq_true_of_le (by simp [val_nat]; omega)), cond_false]
      simp only [val_nat, List.append_assoc]
  have mid : ∀ c : List UInt8, c.length ≤ 1 → numtext_Text_1 c (s, nat n, nat d) = some (c ++ cond ((endsN d).2 && decide ((endsN d).1 ≤ 20)) (ptN (endsN d).1 (decT (n * 10 ^ (endsN d).1 / d))) (decT n ++ [47] ++ decT d)) := by
    intro c hc
    rw [numtext_Text_1_eq, xEnds w2 f, Option.bind_some]
    cases hb : (endsN d).2 with
    | true => rw [cond_true, fin c _ hc (by rw [hb, Bool.true_and]; exact decide_eq_decide.2 (by omega)), hb]
    | false => rw [cond_false, fin c _ hc (by rw [hb]; rfl), hb]
  rw [numtext_Text_eq, xNWell, Option.bind_some, e, textF]
  cases s with
  | true => rw [cond_true, mid _ (by simp)]; rfl
  | false => rw [cond_false, mid _ (by simp)]; rfl
theorem text_len {s : Bool} {n d : Nat} (f : Fm s n d) : (textF s n d).length ≤ 158 := by
  have h1 := f.nl
  have h2 := f.dl
  have hdn := d_len h1
  have hdd := d_len h2
  have hq := q_len (d := d) (k := (endsN d).1) h1
  unfold textF
  have hs : (cond s [45] [] : List UInt8).length ≤ 1 := by cases s <;> simp
  rw [List.length_append]
  cases hb : (endsN d).2 && decide ((endsN d).1 ≤ 20) with
  | true =>
    rw [Bool.and_eq_true] at hb
    have h20 := of_decide_eq_true hb.2
    have hpt := pt_len (endsN d).1 (decT (n * 10 ^ (endsN d).1 / d)) (by omega) (by omega)
    rw [cond_true]; omega
  | false => rw [cond_false]; simp; omega
end Go.Proofs.YtpdfjgooaaailaaGreatDoor.D
namespace Go.Proofs.YtpdfjgooaaailaaGreatDoor.D
open Go Go.Proofs.YtpdfjgooaaailaaGreatDoor.K
open Go.Proofs.YtpdfjgooaaailaaGreatDoor.P (nat val divmod small val_nat nat_zero nat_eq_nil nat_val_length nat_length_le len_mono val_lt nat_inj sgnv powR powV nat_one wS wA wD nat_ten_len inC ten ten_len decT decT_len decT_ne decT_good decT_dv dv_lt dv good dig dig_le dv_nil dv_snoc dv_append dv_cons)
def z0 : Rt := (false, [], [])
theorem pt_cut_len {c : UInt8} {s : List UInt8} {k : Nat} (h : pos c s = some k) : (s.take k ++ s.drop (k + 1)).length + 1 = s.length := by
  have := pos_lt h
  simp; omega
def decV (s : List UInt8) : Rt × Int :=
  cond (!dg (cutV 46 s).1 || ((cutV 46 s).2.2 && !dg (cutV 46 s).2.1)) (z0, 10) (cond (decide (s.length > 400)) (z0, 9) (make (false, nat (dv ((cutV 46 s).1 ++ (cutV 46 s).2.1))) (false, nat (10 ^ (cutV 46 s).2.1.length))))
theorem cut_len (c : UInt8) (s : List UInt8) : (cutV c s).1.length + (cutV c s).2.1.length ≤ s.length := by
  unfold cutV
  cases h : pos c s with
  | none => simp
  | some k => have := pt_cut_len h; simp only [List.length_append] at this; simp only; omega
theorem cut_no {c : UInt8} {s : List UInt8} (h : (cutV c s).2.2 = false) : (cutV c s).2.1 = [] := by
  unfold cutV at h ⊢
  cases hp : pos c s with
  | none => rfl
  | some k => rw [hp] at h; cases h
theorem good_append (a b : List UInt8) : good (a ++ b) = (good a && good b) := by unfold good; rw [List.all_append]
theorem parse_good {s : List UInt8} (hg : good s = true) (h0 : s ≠ []) (hl : s.length ≤ 400) : parseV s = (nat (dv s), 0) := by rw [parseV, if_neg (by simp [h0, hg]), if_neg (by omega)]
theorem mkF (n : Nat) : mkW false n = (false, nat n) := rfl
theorem xDec (s : List UInt8) (hs : s.length ≤ 100000) : numtext_Decimal s = some (decV s) := by
  have hc := cut_len 46 s
  have hno := @cut_no 46 s
  have key : ∀ (a b : List UInt8) (pt : Bool), a.length + b.length ≤ s.length → (pt = false → b = []) → dg a = true → (pt = true → dg b = true) → numtext_Decimal_1 s a b false z0 = some (cond (decide (s.length > 400)) (z0, 9) (make (false, nat (dv (a ++ b))) (false, nat (10 ^ b.length)))) := by
    intro a b pt hab hb ha hb2
    rw [numtext_Decimal_1_eq, cond_false]
    by_cases hl : s.length > 400
    · rw [cT (decide_eq_true (by omega)), decide_eq_true hl]; rfl
    · have ha' : good a = true ∧ a ≠ [] := by simpa [dg] using ha
      have hgb : good b = true := by
        cases pt with
        | false => rw [hb rfl]; rfl
        | true => have : good b = true ∧ b ≠ [] := by simpa [dg] using hb2 rfl
                  exact this.1
      have hgab : good (a ++ b) = true := by rw [good_append, ha'.1, hgb]; rfl
      have hp : parseV (a ++ b) = (nat (dv (a ++ b)), 0) := parse_good hgab (by simp [ha'.2]) (by simp; omega)
      have hdl := nat_ten_len (dv_lt (a ++ b) hgab)
      have hpl := pow_small (b := 10) (by omega) b.length
      simp only [List.length_append] at hdl
      rw [cF (decide_eq_false (by omega)), cT (Nat.ble_eq_true_of_le (by omega)), xParse _ (by simp; omega), Option.bind_some, hp]
      simp only
      rw [cF (by rfl), xWMake _ _ (by omega), Option.bind_some, show numtext_power 10 (b.length : Int) = _ from xPower (b := 10) (by omega) (by omega) (by omega), Option.bind_some, xWMake _ _ (by omega), Option.bind_some, mkF, mkF, val_nat, val_nat, xMake _ _ (by simp only; omega) (by simp only; omega), Option.bind_some, decide_eq_false hl, cond_false]
  rw [numtext_Decimal_eq, xCut 46 s (by omega), Option.bind_some, xDigits _ (by omega), Option.bind_some, decV]
  generalize hcv : cutV 46 s = cv at hc hno
  obtain ⟨a, b, pt⟩ := cv
  simp only at hc hno ⊢
  cases ha : dg a with
  | false => rw [cT (by rfl), numtext_Decimal_1_eq]; rfl
  | true =>
    rw [cF (by rfl)]
    cases pt with
    | false =>
      rw [cond_false]
      exact key a b false hc (fun _ => hno rfl) ha (fun h => by cases h)
    | true =>
      rw [cond_true, xDigits _ (by omega), Option.bind_some]
      cases hb : dg b with
      | false => rw [numtext_Decimal_1_eq]; rfl
      | true => exact key a b true hc (fun h => by cases h) ha (fun _ => hb)
def fracV (a b : List UInt8) : Rt × Int :=
  cond (decide ((parseV a).2 = 3) || decide ((parseV b).2 = 3)) (z0, 10) (cond (!decide ((parseV a).2 = 0) || !decide ((parseV b).2 = 0)) (z0, 9) (make (false, (parseV a).1) (false, (parseV b).1)))
theorem parse_or (s : List UInt8) : parseV s = ([], 3) ∨ parseV s = ([], 9) ∨ ∃ n, (nat n).length ≤ 400 ∧ parseV s = (nat n, 0) := by
  rw [parseV]
  by_cases h : s = [] ∨ good s = false
  · rw [if_pos h]; exact .inl rfl
  · rw [if_neg h]
    by_cases hl : s.length > 400
    · rw [if_pos hl]; exact .inr (.inl rfl)
    · have hg : good s = true := by
        cases hg : good s with
        | true => rfl
        | false => exact absurd (.inr hg) h
      rw [if_neg hl]
      exact .inr (.inr ⟨dv s, Nat.le_trans (nat_ten_len (dv_lt s hg)) (by omega), rfl⟩)
theorem xFrac (a b : List UInt8) (ha : a.length ≤ 100000) (hb : b.length ≤ 100000) : numtext_fraction a b = some (fracV a b) := by
  rw [numtext_fraction_eq, xParse _ (by omega), Option.bind_some, xParse _ (by omega), Option.bind_some, fracV]
  simp only [numtext_fraction_1_eq, numtext_fraction_2_eq]
  rcases parse_or a with h | h | ⟨n, hn, h⟩ <;> rcases parse_or b with k | k | ⟨m, hm, k⟩ <;> rw [h, k] <;> first
    | rfl
    | (simp only
       rw [xWMake _ _ (by omega), xWMake _ _ (by omega)]
       simp only [Option.bind_some, mkF, val_nat]
       rw [xMake _ _ (by simp only; omega) (by simp only; omega)]
       rfl)
def bodyV (t : List UInt8) : Rt × Int := cond (cutV 47 t).2.2 (fracV (cutV 47 t).1 (cutV 47 t).2.1) (decV t)
def parseN (s : List UInt8) : Rt × Int := cond (decide ((bodyV (preV 45 s).1).2 = 0) && (preV 45 s).2) (negR (bodyV (preV 45 s).1).1, (bodyV (preV 45 s).1).2) (bodyV (preV 45 s).1)
theorem xParseN (s : List UInt8) (hs : s.length ≤ 100000) : numtext_Parse s = some (parseN s) := by
  have hl := pre_len 45 s
  have hc := cut_len 47 (preV 45 s).1
  have tail : ∀ (q : Rt × Int) (neg : Bool), numtext_Parse_1 neg q.2 (false, [], []) q.1 = some (cond (decide (q.2 = 0) && neg) (negR q.1, q.2) q) := by
    intro q neg
    simp only [numtext_Parse_1_eq, numtext_Parse_2_eq, numtext_Parse_3_eq, xNeg, Option.bind_some]
    cases decide (q.2 = 0) <;> cases neg <;> rfl
  rw [numtext_Parse_eq, xPre, Option.bind_some, xCut 47 _ (by omega), Option.bind_some, xFrac _ _ (by omega) (by omega), xDec _ (by omega), Option.bind_some, Option.bind_some, tail, tail, parseN, bodyV]
  cases (cutV 47 (preV 45 s).1).2.2 <;> rfl
end Go.Proofs.YtpdfjgooaaailaaGreatDoor.D
namespace Go.Proofs.YtpdfjgooaaailaaGreatDoor.K
open Go
end Go.Proofs.YtpdfjgooaaailaaGreatDoor.K
namespace Go.Proofs.YtpdfjgooaaailaaGreatDoor.D
open Go Go.Proofs.YtpdfjgooaaailaaGreatDoor.K
open Go.Proofs.YtpdfjgooaaailaaGreatDoor.P (nat val val_nat nat_zero nat_eq_nil nat_inj nat_one wS inC dv good dig dig_le decT decT_good decT_ne)
abbrev Vl := Int × (Bool × List UInt8 × List UInt8) × List UInt8 × Bool × Int
def eqV (v w : Vl) : Bool := (decide (v.1 = w.1)) && ((v.2.1.1 == w.2.1.1) && ((decide (v.2.1.2.1 = w.2.1.2.1)) && ((decide (v.2.1.2.2 = w.2.1.2.2)) && ((decide (v.2.2.1 = w.2.2.1)) && ((v.2.2.2.1 == w.2.2.2.1) && (decide (v.2.2.2.2 = w.2.2.2.2)))))))
theorem eqV_eq (v w : Vl) : eqV v w = decide (v = w) := by
  obtain ⟨a, ⟨b, c, d⟩, e, f, g⟩ := v
  obtain ⟨a', ⟨b', c', d'⟩, e', f', g'⟩ := w
  unfold eqV
  rw [Bool.eq_iff_iff]
  simp only [Bool.and_eq_true, decide_eq_true_eq, beq_iff_eq, Prod.mk.injEq]
  constructor
  · rintro ⟨h1, h2, h3, h4, h5, h6, h7⟩; exact ⟨h1, ⟨h2, h3, h4⟩, h5, h6, h7⟩
  · rintro ⟨h1, ⟨h2, h3, h4⟩, h5, h6, h7⟩; exact ⟨h1, h2, h3, h4, h5, h6, h7⟩
def blank : Vl := (0, (false, [], []), [], false, 0)
def pl1 (b : UInt8) : Bool := decide (32 ≤ b.toNat) && decide (b.toNat ≤ 126)
def plainV (s : List UInt8) : Bool := s.all pl1 && decide (s.length ≤ 200)
theorem all_drop {p : UInt8 → Bool} {s : List UInt8} {i : Nat} (h : i < s.length) : (s.drop i).all p = (p (s.getD i 0) && (s.drop (i + 1)).all p) := by rw [getD_drop h, List.all_cons]
theorem xPlain1 (s : List UInt8) (hs : s.length ≤ 9223372036854775807) : ∀ (m i : Nat), i + m = s.length → value_plain_1 s (s.map fun b => (b.toNat : Int)) ((s.map fun b => (b.toNat : Int)).length : Int) (i : Int) = some ((s.drop i).all pl1 && decide (s.length ≤ 200))
  | 0, i, h => by
    rw [value_plain_1_eq, cF (decide_eq_false (by rw [List.length_map]; omega)), List.drop_of_length_le (by omega)]
    exact congrArg some (decide_eq_decide.2 (by omega))
  | m + 1, i, h => by
    have hi : i < s.length := by omega
    have hg : (s.map fun b => (b.toNat : Int)).getD (i : Int).toNat 0 = ((s.getD i 0).toNat : Int) := by simp [List.getD, hi]
    have next : value_plain_2 s (s.map fun b => (b.toNat : Int)) ((s.map fun b => (b.toNat : Int)).length : Int) (i : Int) false = some ((s.drop (i + 1)).all pl1 && decide (s.length ≤ 200)) := by
      rw [value_plain_2_eq, cond_false, wS (by omega)]; exact xPlain1 s hs m (i + 1) (by omega)
    have stop : value_plain_2 s (s.map fun b => (b.toNat : Int)) ((s.map fun b => (b.toNat : Int)).length : Int) (i : Int) true = some false := by rw [value_plain_2_eq, cond_true]
    rw [value_plain_1_eq, cT (decide_eq_true (by rw [List.length_map]; omega)), cT (by rw [List.length_map]; exact ix hi), hg, all_drop hi]
    generalize s.getD i 0 = c
    by_cases h1 : c.toNat < 32
    · rw [cT (decide_eq_true (by omega)), stop, show pl1 c = false by unfold pl1; simp; omega]; rfl
    · rw [cF (decide_eq_false (by omega))]
      by_cases h2 : c.toNat > 126
      · rw [decide_eq_true (show (c.toNat : Int) > 126 by omega), stop, show pl1 c = false by unfold pl1; simp; omega]; rfl
      · rw [decide_eq_false (show ¬ (c.toNat : Int) > 126 by omega), next, show pl1 c = true by unfold pl1; simp; omega]; rfl
theorem xPlain (s : List UInt8) (hs : s.length ≤ 9223372036854775807) : value_plain s = some (plainV s) := (value_plain_eq s).trans (xPlain1 s hs s.length 0 (Nat.zero_add _))
theorem yPlain1 (s : List UInt8) (hs : s.length ≤ 200) : ∀ (m i : Nat), i + m = s.length → r08_Plain_1 s (i : Int) = some ((s.drop i).all pl1)
  | 0, i, h => by
    rw [r08_Plain_1_eq, cF (decide_eq_false (by omega)), List.drop_of_length_le (by omega)]; rfl
  | m + 1, i, h => by
    have hi : i < s.length := by omega
    have next : r08_Plain_2 s (i : Int) false = some ((s.drop (i + 1)).all pl1) := by
      rw [r08_Plain_2_eq, cond_false, wS (by omega)]; exact yPlain1 s hs m (i + 1) (by omega)
    have stop : r08_Plain_2 s (i : Int) true = some false := by rw [r08_Plain_2_eq, cond_true]
    rw [r08_Plain_1_eq, cT (decide_eq_true (by omega)), cT (ix hi), cT (ix hi), Int.toNat_natCast, all_drop hi]
    generalize s.getD i 0 = c
    by_cases h1 : c.toNat < 32
    · rw [cT (decide_eq_true (by omega)), stop, show pl1 c = false by unfold pl1; simp; omega]; rfl
    · rw [cF (decide_eq_false (by omega))]
      by_cases h2 : c.toNat > 126
      · rw [decide_eq_true (show (c.toNat : Int) > 126 by omega), stop, show pl1 c = false by unfold pl1; simp; omega]; rfl
      · rw [decide_eq_false (show ¬ (c.toNat : Int) > 126 by omega), next, show pl1 c = true by unfold pl1; simp; omega]; rfl
theorem yPlain (s : List UInt8) : r08_Plain s = some (plainV s) := by
  rw [r08_Plain_eq]
  by_cases h : s.length ≤ 200
  · have := yPlain1 s h s.length 0 (Nat.zero_add _)
    rw [cF (decide_eq_false (by omega)), plainV, decide_eq_true h, Bool.and_true]; exact this
  · rw [cT (decide_eq_true (by omega)), plainV, decide_eq_false h, Bool.and_false]
def namesL : List (List UInt8) := [[], [35, 68, 73, 86, 47, 48, 33], [35, 86, 65, 76, 85, 69, 33], [35, 82, 69, 70, 33], [35, 78, 65, 77, 69, 63], [35, 78, 85, 77, 33], [35, 78, 47, 65], [35, 67, 73, 82, 67, 33]]
def isF (n : Int) : Bool := decide (1 ≤ n) && decide (n ≤ 7)
def nameV (n : Int) : List UInt8 := cond (isF n) (namesL.getD n.toNat []) []
theorem isF_cases {n : Int} (h : isF n = true) : n = 1 ∨ n = 2 ∨ n = 3 ∨ n = 4 ∨ n = 5 ∨ n = 6 ∨ n = 7 := by
  unfold isF at h
  simp at h
  omega
theorem isF_not {n : Int} (h : isF n = false) : n < 1 ∨ 7 < n := by
  unfold isF at h
  simp at h
  omega
theorem xName (n : Int) : value_Name n = some (nameV n) := by
  rw [value_Name_eq, value_Name_1_eq, nameV]
  by_cases h0 : n < 0
  · rw [cT (decide_eq_true h0), value_Name_2_eq, show isF n = false by unfold isF; simp; omega]; rfl
  · rw [cF (decide_eq_false h0), value_Name_2_eq]
    by_cases h8 : n ≥ 8
    · rw [cT (decide_eq_true h8), show isF n = false by unfold isF; simp; omega]; rfl
    · rw [cF (decide_eq_false h8), cT (by simp; omega)]
      by_cases hz : n = 0
      · subst hz; rfl
      · rw [show isF n = true by unfold isF; simp; omega]; rfl
def namedF (s : List UInt8) : Nat → Nat → Int × Bool
  | 0, _ => (0, false)
  | m + 1, i => if 0 < i ∧ namesL.getD i [] = s then ((i : Int), true) else namedF s m (i + 1)
def vNum (r : Rt) : Vl := (1, well r, [], false, 0)
def vFault (n : Int) : Vl := (4, (false, [], []), [], false, cond (isF n) n 2)
def vText (s : List UInt8) : Vl := cond (plainV s) (2, (false, [], []), s, false, 0) (vFault 2)
def vTruth (b : Bool) : Vl := (3, (false, [], []), [], b, 0)
theorem xvNum (r : Rt) : value_Num r = some (vNum r) := by
  rw [value_Num_eq, xRight, Option.bind_some, xROf 0 (by omega) (by omega), Option.bind_some, vNum, well, show ofI 0 = (false, [], [1]) by unfold ofI; rw [Int.natAbs_zero, nat_zero]; rfl]
  simp only [value_Num_1_eq]
  cases right r <;> rfl
theorem yvNum (r : Rt) : r08_Num r = some (vNum r) := by rw [r08_Num_eq, yWell]; rfl
theorem nameV_nil (n : Int) : decide (nameV n = []) = !isF n := by
  unfold nameV
  cases hf : isF n with
  | true => rcases isF_cases hf with h | h | h | h | h | h | h <;> subst h <;> rfl
  | false => rfl
theorem xvFault (n : Int) : value_Fault n = some (vFault n) := by
  rw [value_Fault_eq, xName, Option.bind_some, nameV_nil, vFault]
  simp only [value_Fault_1_eq]
  cases isF n <;> rfl
theorem yvFault (n : Int) : r08_Fault n = some (vFault n) := by
  rw [r08_Fault_eq, vFault]
  simp only [r08_Fault_1_eq, r08_Fault_2_eq]
  cases hf : isF n with
  | true => rcases isF_cases hf with h | h | h | h | h | h | h <;> subst h <;> rfl
  | false =>
    rcases isF_not hf with h | h
    · rw [cT (decide_eq_true h)]; rfl
    · rw [cF (decide_eq_false (by omega)), decide_eq_true (show n > 7 by omega)]; rfl
theorem xvText (s : List UInt8) (hs : s.length ≤ 9223372036854775807) : value_Text s = some (vText s) := by
  rw [value_Text_eq, xPlain s hs, Option.bind_some, xvFault, Option.bind_some, vText]
  cases plainV s <;> rfl
theorem yvText (s : List UInt8) : r08_Text s = some (vText s) := by
  rw [r08_Text_eq, yPlain s, Option.bind_some, yvFault, Option.bind_some, vText]
  cases plainV s <;> rfl
theorem xvTruth (b : Bool) : value_Truth b = some (vTruth b) := value_Truth_eq b
def vRight (v : Vl) : Bool :=
  cond (decide (v.1 = 0)) (decide (v = blank)) (cond (decide (v.1 = 1)) (decide (v = vNum v.2.1)) (cond (decide (v.1 = 2)) (decide (v = vText v.2.2.1)) (cond (decide (v.1 = 3)) (decide (v = vTruth v.2.2.2.1)) (cond (decide (v.1 = 4)) (decide (v = vFault v.2.2.2.2)) false))))
theorem xvRight (v : Vl) (hs : v.2.2.1.length ≤ 9223372036854775807) : value_Right v = some (vRight v) := by
  rw [value_Right_eq, xvNum, xvText _ hs, xvTruth, xvFault, vRight]
  simp only [Option.bind_some]
  show cond _ (some (eqV v blank)) (cond _ (some (eqV v (vNum v.2.1))) (cond _ (some (eqV v (vText v.2.2.1))) (cond _ (some (eqV v (vTruth v.2.2.2.1))) (cond _ (some (eqV v (vFault v.2.2.2.2))) _)))) = _
  simp only [eqV_eq]
  cases decide (v.1 = 0) <;> cases decide (v.1 = 1) <;> cases decide (v.1 = 2) <;> cases decide (v.1 = 3) <;> cases decide (v.1 = 4) <;> rfl
def textR (r : Rt) : List UInt8 := textF (well r).1 (val (well r).2.1) (val (well r).2.2)
theorem xTextR (r : Rt) : numtext_Text r = some (textR r) := by
  obtain ⟨s, n, d, e, f⟩ := well_form r
  rw [xTextN e f, textR, e]
  simp only [val_nat]
def tTRUE : List UInt8 := [84, 82, 85, 69]
def tFALSE : List UInt8 := [70, 65, 76, 83, 69]
def vShow (v : Vl) : List UInt8 := cond (!vRight v) [] (cond (decide (v.1 = 1)) (textR v.2.1) (cond (decide (v.1 = 3)) (cond v.2.2.2.1 tTRUE tFALSE) (cond (decide (v.1 = 4)) (nameV v.2.2.2.2) v.2.2.1)))
theorem xvShow (v : Vl) (hs : v.2.2.1.length ≤ 9223372036854775807) : value_Show v = some (vShow v) := by
  rw [value_Show_eq, xvRight v hs, Option.bind_some, xTextR, xName, vShow]
  cases vRight v <;> cases decide (v.1 = 1) <;> cases decide (v.1 = 3) <;> cases v.2.2.2.1 <;> cases decide (v.1 = 4) <;> rfl
theorem right_kind {v : Vl} (h : vRight v = true) : v.1 = 0 ∨ v.1 = 1 ∨ v.1 = 2 ∨ v.1 = 3 ∨ v.1 = 4 := by
  by_cases h0 : v.1 = 0
  · exact .inl h0
  by_cases h1 : v.1 = 1
  · exact .inr (.inl h1)
  by_cases h2 : v.1 = 2
  · exact .inr (.inr (.inl h2))
  by_cases h3 : v.1 = 3
  · exact .inr (.inr (.inr (.inl h3)))
  by_cases h4 : v.1 = 4
  · exact .inr (.inr (.inr (.inr h4)))
  unfold vRight at h
  rw [decide_eq_false h0, decide_eq_false h1, decide_eq_false h2, decide_eq_false h3, decide_eq_false h4] at h
  cases h
theorem right0 {v : Vl} (h : vRight v = true) (hk : v.1 = 0) : v = blank := by
  unfold vRight at h
  rw [decide_eq_true hk] at h
  exact of_decide_eq_true h
theorem right1 {v : Vl} (h : vRight v = true) (hk : v.1 = 1) : v = vNum v.2.1 := by
  unfold vRight at h
  rw [decide_eq_false (show ¬ v.1 = 0 by omega), decide_eq_true hk] at h
  exact of_decide_eq_true h
theorem right2 {v : Vl} (h : vRight v = true) (hk : v.1 = 2) : v = vText v.2.2.1 := by
  unfold vRight at h
  rw [decide_eq_false (show ¬ v.1 = 0 by omega), decide_eq_false (show ¬ v.1 = 1 by omega), decide_eq_true hk] at h
  exact of_decide_eq_true h
theorem right3 {v : Vl} (h : vRight v = true) (hk : v.1 = 3) : v = vTruth v.2.2.2.1 := by
  unfold vRight at h
  rw [decide_eq_false (show ¬ v.1 = 0 by omega), decide_eq_false (show ¬ v.1 = 1 by omega), decide_eq_false (show ¬ v.1 = 2 by omega), decide_eq_true hk] at h
  exact of_decide_eq_true h
theorem right4 {v : Vl} (h : vRight v = true) (hk : v.1 = 4) : v = vFault v.2.2.2.2 := by
  unfold vRight at h
  rw [decide_eq_false (show ¬ v.1 = 0 by omega), decide_eq_false (show ¬ v.1 = 1 by omega), decide_eq_false (show ¬ v.1 = 2 by omega), decide_eq_false (show ¬ v.1 = 3 by omega), decide_eq_true hk] at h
  exact of_decide_eq_true h
end Go.Proofs.YtpdfjgooaaailaaGreatDoor.D
namespace Go.Proofs.YtpdfjgooaaailaaGreatDoor.D
open Go Go.Proofs.YtpdfjgooaaailaaGreatDoor.K
open Go.Proofs.YtpdfjgooaaailaaGreatDoor.P (nat val val_nat nat_zero nat_eq_nil nat_inj nat_one wS inC dv good dig dig_le decT decT_good decT_ne)
theorem show_len (v : Vl) : (vShow v).length ≤ 200 := by
  unfold vShow
  cases hr : vRight v with
  | false => simp
  | true =>
    rcases right_kind hr with h | h | h | h | h
    · rw [right0 hr h]; simp [blank]
    · rw [h]
      obtain ⟨s, n, d, e, f⟩ := well_form v.2.1
      have := text_len f
      simp only [Bool.not_true, cond_false, decide_true, cond_true, textR, e, val_nat]
      omega
    · have hv := right2 hr h
      rw [h]
      simp only [Bool.not_true, cond_false]
      cases hp : plainV v.2.2.1 with
      | true =>
        unfold plainV at hp
        simp only [Bool.and_eq_true, decide_eq_true_eq] at hp
        exact hp.2
      | false =>
        rw [vText, hp, cond_false] at hv
        have := congrArg (fun x : Vl => x.1) hv
        simp only [vFault] at this
        omega
    · rw [h]
      cases v.2.2.2.1 <;> simp [tTRUE, tFALSE]
    · rw [h]
      simp only [Bool.not_true, cond_false]
      unfold nameV
      cases hf : isF v.2.2.2.2 with
      | false => simp
      | true => rcases isF_cases hf with h | h | h | h | h | h | h <;> rw [h] <;> simp [namesL]
theorem right_num (r : Rt) : vRight (vNum r) = true := by
  unfold vRight vNum
  rw [well_well]
  simp
theorem right_text {s : List UInt8} (h : plainV s = true) : vRight (vText s) = true := by
  unfold vRight vText
  rw [h]
  simp [h]
theorem eqV_self (v : Vl) : eqV v v = true := by rw [eqV_eq]; exact decide_eq_true rfl
end Go.Proofs.YtpdfjgooaaailaaGreatDoor.D
namespace Go.Proofs.YtpdfjgooaaailaaGreatDoor.K
open Go
end Go.Proofs.YtpdfjgooaaailaaGreatDoor.K
namespace Go.Proofs.YtpdfjgooaaailaaGreatDoor.D
open Go Go.Proofs.YtpdfjgooaaailaaGreatDoor.K
open Go.Proofs.YtpdfjgooaaailaaGreatDoor.P (nat val val_nat nat_zero nat_eq_nil nat_inj nat_one wS inC dv good dig dig_le decT decT_good decT_ne)
def cFault (v : Vl) : Int := cond (vRight v) v.2.2.2.2 2
theorem right_len {v : Vl} (h : vRight v = true) : v.2.2.1.length ≤ 200 := by
  have h2 := show_len v
  rcases right_kind h with k | k | k | k | k
  · rw [right0 h k]; simp [blank]
  · rw [right1 h k]; simp [vNum]
  · have : vShow v = v.2.2.1 := by unfold vShow; rw [h, k]; rfl
    rw [← this]; omega
  · rw [right3 h k]; simp [vTruth]
  · rw [right4 h k]; simp [vFault]
theorem xcFault (v : Vl) (hs : v.2.2.1.length ≤ 9223372036854775807) : coerce_cell_fault v = some (cFault v) := by
  rw [coerce_cell_fault_eq, xvRight v hs, Option.bind_some, cFault]
  cases vRight v <;> rfl
theorem fault_right {v : Vl} (h : cFault v = 0) : vRight v = true := by
  unfold cFault at h
  cases hr : vRight v with
  | true => rfl
  | false => rw [hr] at h; cases h
def numV (v : Vl) : Rt × Int :=
  cond (!decide (cFault v = 0)) (z0, cFault v) (cond (decide (v.1 = 1)) (v.2.1, 0) (cond (decide (v.1 = 2)) (cond (!decide ((parseN v.2.2.1).2 = 0)) (z0, 2) ((parseN v.2.2.1).1, 0)) (ofI (cond v.2.2.2.1 1 0), 0)))
theorem xcNum (v : Vl) (hs : v.2.2.1.length ≤ 9223372036854775807) : coerce_Num v = some (numV v) := by
  rw [coerce_Num_eq, xcFault v hs, Option.bind_some, numV]
  by_cases h : cFault v = 0
  · have hl := right_len (fault_right h)
    simp only [h, decide_true, Bool.not_true, cond_false]
    rw [xParseN _ (by omega), Option.bind_some, coerce_bit_eq]
    have e : (cond v.2.2.2.1 (some 1) (some 0) : Option Int).bind (fun v3 => (rat_Of v3).bind fun v4 => some (v4, (0 : Int))) = some (ofI (cond v.2.2.2.1 1 0), 0) := by
      cases v.2.2.2.1
      · show (rat_Of 0).bind _ = _
        rw [xROf 0 (by omega) (by omega)]; rfl
      · show (rat_Of 1).bind _ = _
        rw [xROf 1 (by omega) (by omega)]; rfl
    rw [e]
    cases decide (v.1 = 1) <;> cases decide (v.1 = 2) <;> cases decide ((parseN v.2.2.1).2 = 0) <;> rfl
  · rw [cT (by rw [decide_eq_false h]; rfl), cT (by rw [decide_eq_false h]; rfl)]; rfl
def ctextV (v : Vl) : List UInt8 × Int := cond (!decide (cFault v = 0)) ([], cFault v) (vShow v, 0)
theorem xcText (v : Vl) (hs : v.2.2.1.length ≤ 9223372036854775807) : coerce_Text v = some (ctextV v) := by
  rw [coerce_Text_eq, xcFault v hs, Option.bind_some, xvShow v hs, ctextV]
  cases decide (cFault v = 0) <;> rfl
theorem fault_num (r : Rt) : cFault (vNum r) = 0 := by unfold cFault; rw [right_num]; rfl
end Go.Proofs.YtpdfjgooaaailaaGreatDoor.D
namespace Go.Proofs.YtpdfjgooaaailaaGreatDoor.K
open Go
end Go.Proofs.YtpdfjgooaaailaaGreatDoor.K
namespace Go.Proofs.YtpdfjgooaaailaaGreatDoor.D
open Go Go.Proofs.YtpdfjgooaaailaaGreatDoor.K
open Go.Proofs.YtpdfjgooaaailaaGreatDoor.P (nat val val_nat nat_zero nat_eq_nil nat_inj nat_one wS inC dv good dig dig_le decT decT_good decT_ne)
structure Cl (x : Vl) : Prop where
  t : x.1 = 2 ∨ x.2.2.1 = []
  b : x.1 = 3 ∨ x.2.2.2.1 = false
  l : x.2.2.1.length ≤ 200
  n : x.1 = 0 ∨ x.1 = 1 ∨ x.1 = 2 ∨ x.1 = 3
end Go.Proofs.YtpdfjgooaaailaaGreatDoor.D
