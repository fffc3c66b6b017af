/- The machine at this seat: its equations. -/
import Derived.Test.YtcdcijhfjiahkaaDoorRB0
import Derived.Test.YtcdcijhfjiahkaaDoorRProg
set_option linter.unusedVariables false
set_option maxRecDepth 100000
namespace Go.Proofs.YtcdcijhfjiahkaaDoorR.B
open Go Go.Proofs.YtcdcijhfjiahkaaDoorR.K
theorem nat_limbs_cut_eq (x0 : List Int) : nat_limbs_cut x0 = nat_limbs_cut_1 x0 := (top_call ..).trans (by kernel_rfl)
theorem nat_limbs_cut_1_eq (a1 : List Int) : nat_limbs_cut_1 a1 = cond (decide ((a1.length : Int) > 0)) (cond (decide (0 ≤ (IntKind.i64.wrap ((a1.length : Int) - 1))) && decide ((IntKind.i64.wrap ((a1.length : Int) - 1)) < (a1.length : Int))) (nat_limbs_cut_2 a1 (decide ((a1.getD ((IntKind.i64.wrap ((a1.length : Int) - 1)).toNat) 0) = 0))) none) (nat_limbs_cut_2 a1 false) := (top_stage ..).trans (by kernel_rfl)
theorem nat_limbs_cut_2_eq (a1 : List Int) (a2 : Bool) : nat_limbs_cut_2 a1 a2 = cond a2 (cond (decide (0 ≤ (IntKind.i64.wrap ((a1.length : Int) - 1))) && decide ((IntKind.i64.wrap ((a1.length : Int) - 1)) ≤ (a1.length : Int))) (nat_limbs_cut_1 (a1.take ((IntKind.i64.wrap ((a1.length : Int) - 1)).toNat))) none) (some a1) := (top_stage ..).trans (by kernel_rfl)
theorem nat_Trim_eq (x0 : List UInt8) : nat_Trim x0 = (strings_TrimLeft x0 ([0] : List UInt8)).bind fun v1 => some v1 := (top_call ..).trans (by kernel_rfl)
end Go.Proofs.YtcdcijhfjiahkaaDoorR.B
