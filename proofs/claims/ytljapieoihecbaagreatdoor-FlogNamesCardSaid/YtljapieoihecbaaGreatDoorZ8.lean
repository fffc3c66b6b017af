/- Part 8 of the proof: the machine, the tables and the pure laws that the last text joins. -/
import Derived.Test.YtljapieoihecbaaGreatDoorZ7
import Derived.Test.YtljapieoihecbaaGreatDoorProg
import Derived.Test.YtljapieoihecbaaGreatDoorZ4
/- The machine at this seat: its equations. -/
set_option linter.unusedVariables false
set_option maxRecDepth 100000
namespace Go.Proofs.YtljapieoihecbaaGreatDoor.K
open Go
theorem abacistlaw20_FlogNames_eq (x0 : Int) : abacistlaw20_FlogNames x0 = (flog_Names).bind fun v1 => (abacistref20_Names).bind fun v2 => cond (!decide ((v1.length : Int) = (v2.length : Int))) (abacistlaw20_FlogNames_1 x0 v1 v2 true) (cond (decide (x0 < 0)) (abacistlaw20_FlogNames_1 x0 v1 v2 true) (abacistlaw20_FlogNames_1 x0 v1 v2 (decide (x0 ≥ (v2.length : Int))))) := (top_call ..).trans (by kernel_rfl)
theorem abacistlaw20_FlogNames_1_eq (a1 : Int) (a2 : List (List UInt8)) (a3 : List (List UInt8)) (a4 : Bool) : abacistlaw20_FlogNames_1 a1 a2 a3 a4 = cond a4 (cond (decide ((a2.length : Int) = (a3.length : Int))) ((abacistlaw20_known).bind fun v1 => some v1) (some false)) (cond (decide (0 ≤ a1) && decide (a1 < (a2.length : Int))) (cond (decide (0 ≤ a1) && decide (a1 < (a3.length : Int))) (cond (decide ((a2.getD a1.toNat []) = (a3.getD a1.toNat []))) ((abacistlaw20_known).bind fun v2 => some v2) (some false)) none) none) := (top_stage ..).trans (by kernel_rfl)
theorem flog_Names_eq : flog_Names = some [([73, 70] : List UInt8), ([73, 70, 69, 82, 82, 79, 82] : List UInt8), ([73, 70, 78, 65] : List UInt8), ([65, 78, 68] : List UInt8), ([79, 82] : List UInt8), ([88, 79, 82] : List UInt8), ([78, 79, 84] : List UInt8), ([84, 82, 85, 69] : List UInt8), ([70, 65, 76, 83, 69] : List UInt8), ([78, 65] : List UInt8), ([73, 83, 66, 76, 65, 78, 75] : List UInt8), ([73, 83, 78, 85, 77, 66, 69, 82] : List UInt8), ([73, 83, 84, 69, 88, 84] : List UInt8), ([73, 83, 76, 79, 71, 73, 67, 65, 76] : List UInt8), ([73, 83, 69, 82, 82, 79, 82] : List UInt8), ([73, 83, 69, 82, 82] : List UInt8), ([73, 83, 78, 65] : List UInt8), ([78] : List UInt8), ([84] : List UInt8), ([84, 89, 80, 69] : List UInt8), ([67, 72, 79, 79, 83, 69] : List UInt8), ([83, 87, 73, 84, 67, 72] : List UInt8)] := (top_call ..).trans (by kernel_rfl)
theorem abacistref20_Names_eq : abacistref20_Names = some [([73, 70] : List UInt8), ([73, 70, 69, 82, 82, 79, 82] : List UInt8), ([73, 70, 78, 65] : List UInt8), ([65, 78, 68] : List UInt8), ([79, 82] : List UInt8), ([88, 79, 82] : List UInt8), ([78, 79, 84] : List UInt8), ([84, 82, 85, 69] : List UInt8), ([70, 65, 76, 83, 69] : List UInt8), ([78, 65] : List UInt8), ([73, 83, 66, 76, 65, 78, 75] : List UInt8), ([73, 83, 78, 85, 77, 66, 69, 82] : List UInt8), ([73, 83, 84, 69, 88, 84] : List UInt8), ([73, 83, 76, 79, 71, 73, 67, 65, 76] : List UInt8), ([73, 83, 69, 82, 82, 79, 82] : List UInt8), ([73, 83, 69, 82, 82] : List UInt8), ([73, 83, 78, 65] : List UInt8), ([78] : List UInt8), ([84] : List UInt8), ([84, 89, 80, 69] : List UInt8), ([67, 72, 79, 79, 83, 69] : List UInt8), ([83, 87, 73, 84, 67, 72] : List UInt8)] := (top_call ..).trans (by kernel_rfl)
theorem abacistref01_Sub_eq (x0 : List UInt8) (x1 : List UInt8) : abacistref01_Sub x0 x1 = (abacistref01_Cmp x0 x1).bind fun v1 => cond (decide (v1 < 0)) (some ([] : List UInt8)) (abacistref01_Sub_1 x0 x1 0 0 []) := (top_call ..).trans (by kernel_rfl)
theorem abacistref01_Sub_1_eq (a1 : List UInt8) (a2 : List UInt8) (a3 : Int) (a4 : Int) (a5 : List Int) : abacistref01_Sub_1 a1 a2 a3 a4 a5 = cond (decide (a4 < (a1.length : Int))) (abacistref01_Sub_2 a1 a2 a3 a4 true a5) (abacistref01_Sub_2 a1 a2 a3 a4 (decide (a4 < (a2.length : Int))) a5) := (top_stage ..).trans (by kernel_rfl)
theorem abacistref01_Sub_2_eq (a1 : List UInt8) (a2 : List UInt8) (a3 : Int) (a4 : Int) (a5 : Bool) (a6 : List Int) : abacistref01_Sub_2 a1 a2 a3 a4 a5 a6 = cond a5 ((abacistref01_at a1 a4).bind fun v1 => (abacistref01_at a2 a4).bind fun v2 => cond (decide ((IntKind.i64.wrap ((IntKind.i64.wrap (v1 - v2)) - a3)) < 0)) (abacistref01_Sub_3 a1 a2 1 a4 (IntKind.i64.wrap ((IntKind.i64.wrap ((IntKind.i64.wrap (v1 - v2)) - a3)) + 256)) a6) (abacistref01_Sub_3 a1 a2 0 a4 (IntKind.i64.wrap ((IntKind.i64.wrap (v1 - v2)) - a3)) a6)) ((abacistref01_turned a6).bind fun v3 => some v3) := (top_stage ..).trans (by kernel_rfl)
theorem abacistref01_Sub_3_eq (a1 : List UInt8) (a2 : List UInt8) (a3 : Int) (a4 : Int) (a5 : Int) (a6 : List Int) : abacistref01_Sub_3 a1 a2 a3 a4 a5 a6 = cond (Nat.ble ((a6.length + [a5].length) * 8) 140737488355328) (abacistref01_Sub_1 a1 a2 a3 (IntKind.i64.wrap (a4 + 1)) (a6 ++ [a5])) none := (top_stage ..).trans (by kernel_rfl)
theorem abacistref01_at_eq (x0 : List UInt8) (x1 : Int) : abacistref01_at x0 x1 = cond (decide (x1 ≥ (x0.length : Int))) (some 0) (cond (decide (0 ≤ (IntKind.i64.wrap ((IntKind.i64.wrap ((x0.length : Int) - 1)) - x1))) && decide ((IntKind.i64.wrap ((IntKind.i64.wrap ((x0.length : Int) - 1)) - x1)) < (x0.length : Int))) (some (IntKind.i64.wrap ((x0.getD ((IntKind.i64.wrap ((IntKind.i64.wrap ((x0.length : Int) - 1)) - x1)).toNat) 0).toNat : Int))) none) := (top_call ..).trans (by kernel_rfl)
theorem abacistref01_turned_eq (x0 : List Int) : abacistref01_turned x0 = cond (decide (0 ≤ (x0.length : Int)) && (decide ((x0.length : Int) ≤ (x0.length : Int)) && decide (((1 : Nat) : Int) * (x0.length : Int) ≤ 281474976710656))) (abacistref01_turned_1 x0 0 (List.replicate ((x0.length : Int).toNat) 0)) none := (top_call ..).trans (by kernel_rfl)
theorem abacistref01_turned_1_eq (a1 : List Int) (a2 : Int) (a3 : List Int) : abacistref01_turned_1 a1 a2 a3 = cond (decide (a2 < (a1.length : Int))) (cond (decide (0 ≤ a2) && decide (a2 < (a1.length : Int))) (cond (decide (0 ≤ (IntKind.i64.wrap ((IntKind.i64.wrap ((a1.length : Int) - 1)) - a2))) && decide ((IntKind.i64.wrap ((IntKind.i64.wrap ((a1.length : Int) - 1)) - a2)) < (a3.length : Int))) (abacistref01_turned_1 a1 (IntKind.i64.wrap (a2 + 1)) (a3.set ((IntKind.i64.wrap ((IntKind.i64.wrap ((a1.length : Int) - 1)) - a2)).toNat) (IntKind.u8.wrap (a1.getD a2.toNat 0)))) none) none) ((abacistref01_Trim (bytesOf a3)).bind fun v1 => some v1) := (top_stage ..).trans (by kernel_rfl)
end Go.Proofs.YtljapieoihecbaaGreatDoor.K

/- FlogNames: the names are alike; plain Lean over the equations. -/
set_option linter.unusedVariables false
namespace Go.Proofs.YtljapieoihecbaaGreatDoor.D
open Go Go.Proofs.YtljapieoihecbaaGreatDoor.K
theorem known20 : abacistlaw20_known = some true := of_depth 400 (by kernel_rfl)
theorem names20_1 (i : Int) (l : List (List UInt8)) (b : Bool) (h : b = false → 0 ≤ i ∧ i < (l.length : Int)) : abacistlaw20_FlogNames_1 i l l b = some true := by
  rw [abacistlaw20_FlogNames_1_eq]
  cases b with
  | true => rw [cond_true, cT (decide_eq_true rfl), known20]; rfl
  | false =>
    obtain ⟨h1, h2⟩ := h rfl
    have hi : (decide (0 ≤ i) && decide (i < (l.length : Int))) = true := by rw [decide_eq_true h1, decide_eq_true h2]; rfl
    rw [cond_false, cT hi, cT hi, cT (decide_eq_true rfl), known20]; rfl
theorem names20 (i : Int) : abacistlaw20_FlogNames i = some true := by
  rw [abacistlaw20_FlogNames_eq, flog_Names_eq, abacistref20_Names_eq, Option.bind_some, Option.bind_some]
  generalize ([_, _, _, _, _, _, _, _, _, _, _, _, _, _, _, _, _, _, _, _, _, _] : List (List UInt8)) = l
  rw [cF (by rw [decide_eq_true rfl]; rfl)]
  by_cases h0 : i < 0
  · rw [cT (decide_eq_true h0)]; exact names20_1 i l true (fun h => by cases h)
  · rw [cF (decide_eq_false h0)]
    refine names20_1 i l _ fun h => ?_
    have h := of_decide_eq_false h
    omega
end Go.Proofs.YtljapieoihecbaaGreatDoor.D
namespace Go.Proofs.YtljapieoihecbaaGreatDoor.K
open Go
theorem FlogNames (i : Int) (_ : Wf (.int .i64) i) : abacistlaw20_FlogNames i = some true := D.names20 i
end Go.Proofs.YtljapieoihecbaaGreatDoor.K
