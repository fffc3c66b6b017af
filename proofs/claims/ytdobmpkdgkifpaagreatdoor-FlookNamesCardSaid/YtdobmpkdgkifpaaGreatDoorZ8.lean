/- Part 8 of the proof: the machine, the tables and the pure laws that the last text joins. -/
import Derived.Test.YtdobmpkdgkifpaaGreatDoorZ7
import Derived.Test.YtdobmpkdgkifpaaGreatDoorProg
import Derived.Test.YtdobmpkdgkifpaaGreatDoorZ4
/- The machine at this seat: its equations. -/
set_option linter.unusedVariables false
set_option maxRecDepth 100000
namespace Go.Proofs.YtdobmpkdgkifpaaGreatDoor.K
open Go
theorem abacistlaw22_FlookNames_eq (x0 : Int) : abacistlaw22_FlookNames x0 = (flook_Names).bind fun v1 => (abacistref22_Names).bind fun v2 => cond (!decide ((v1.length : Int) = (v2.length : Int))) (abacistlaw22_FlookNames_1 x0 v1 v2 true) (cond (decide (x0 < 0)) (abacistlaw22_FlookNames_1 x0 v1 v2 true) (abacistlaw22_FlookNames_1 x0 v1 v2 (decide (x0 ≥ (v2.length : Int))))) := (top_call ..).trans (by kernel_rfl)
theorem abacistlaw22_FlookNames_1_eq (a1 : Int) (a2 : List (List UInt8)) (a3 : List (List UInt8)) (a4 : Bool) : abacistlaw22_FlookNames_1 a1 a2 a3 a4 = cond a4 (cond (decide ((a2.length : Int) = (a3.length : Int))) ((abacistlaw22_known).bind fun v1 => some v1) (some false)) (cond (decide (0 ≤ a1) && decide (a1 < (a2.length : Int))) (cond (decide (0 ≤ a1) && decide (a1 < (a3.length : Int))) (cond (decide ((a2.getD a1.toNat []) = (a3.getD a1.toNat []))) ((abacistlaw22_known).bind fun v2 => some v2) (some false)) none) none) := (top_stage ..).trans (by kernel_rfl)
theorem flook_Names_eq : flook_Names = some [([73, 78, 68, 69, 88] : List UInt8), ([77, 65, 84, 67, 72] : List UInt8), ([86, 76, 79, 79, 75, 85, 80] : List UInt8), ([72, 76, 79, 79, 75, 85, 80] : List UInt8), ([76, 79, 79, 75, 85, 80] : List UInt8), ([82, 79, 87] : List UInt8), ([67, 79, 76, 85, 77, 78] : List UInt8), ([82, 79, 87, 83] : List UInt8), ([67, 79, 76, 85, 77, 78, 83] : List UInt8)] := (top_call ..).trans (by kernel_rfl)
theorem abacistref22_Names_eq : abacistref22_Names = some [([73, 78, 68, 69, 88] : List UInt8), ([77, 65, 84, 67, 72] : List UInt8), ([86, 76, 79, 79, 75, 85, 80] : List UInt8), ([72, 76, 79, 79, 75, 85, 80] : List UInt8), ([76, 79, 79, 75, 85, 80] : List UInt8), ([82, 79, 87] : List UInt8), ([67, 79, 76, 85, 77, 78] : List UInt8), ([82, 79, 87, 83] : List UInt8), ([67, 79, 76, 85, 77, 78, 83] : List UInt8)] := (top_call ..).trans (by kernel_rfl)
end Go.Proofs.YtdobmpkdgkifpaaGreatDoor.K

/- FlookNames: the names are alike; plain Lean over the equations. -/
set_option linter.unusedVariables false
namespace Go.Proofs.YtdobmpkdgkifpaaGreatDoor.D
open Go Go.Proofs.YtdobmpkdgkifpaaGreatDoor.K
theorem known22 : abacistlaw22_known = some true := of_depth 400 (by kernel_rfl)
theorem names22_1 (i : Int) (l : List (List UInt8)) (b : Bool) (h : b = false → 0 ≤ i ∧ i < (l.length : Int)) : abacistlaw22_FlookNames_1 i l l b = some true := by
  rw [abacistlaw22_FlookNames_1_eq]
  cases b with
  | true => rw [cond_true, cT (decide_eq_true rfl), known22]; rfl
  | false =>
    obtain ⟨h1, h2⟩ := h rfl
    have hi : (decide (0 ≤ i) && decide (i < (l.length : Int))) = true := by rw [decide_eq_true h1, decide_eq_true h2]; rfl
    rw [cond_false, cT hi, cT hi, cT (decide_eq_true rfl), known22]; rfl
theorem names22 (i : Int) : abacistlaw22_FlookNames i = some true := by
  rw [abacistlaw22_FlookNames_eq, flook_Names_eq, abacistref22_Names_eq, Option.bind_some, Option.bind_some]
  generalize ([_, _, _, _, _, _, _, _, _] : List (List UInt8)) = l
  rw [cF (by rw [decide_eq_true rfl]; rfl)]
  by_cases h0 : i < 0
  · rw [cT (decide_eq_true h0)]; exact names22_1 i l true (fun h => by cases h)
  · rw [cF (decide_eq_false h0)]
    refine names22_1 i l _ fun h => ?_
    have h := of_decide_eq_false h
    omega
end Go.Proofs.YtdobmpkdgkifpaaGreatDoor.D
namespace Go.Proofs.YtdobmpkdgkifpaaGreatDoor.K
open Go
theorem FlookNames (i : Int) (_ : Wf (.int .i64) i) : abacistlaw22_FlookNames i = some true := D.names22 i
end Go.Proofs.YtdobmpkdgkifpaaGreatDoor.K
