import Derived.Test.YtcdcijhfjiahkaaDoorRE1
import Derived.Test.YtcdcijhfjiahkaaDoorRKS
set_option linter.unusedVariables false
set_option maxRecDepth 100000
namespace Go.Proofs.YtcdcijhfjiahkaaDoorR.K
open Go
def opsL : List (List UInt8) := [[115, 101, 116], [99, 108, 101, 97, 114], [99, 111, 112, 121], [115, 104, 101, 101, 116], [100, 114, 111, 112], [97, 112, 112, 108, 121], [115, 117, 109, 109, 97, 114, 121], [103, 101, 116], [116, 101, 120, 116], [114, 101, 110, 97, 109, 101], [105, 116, 101, 114], [105, 110, 115, 101, 114, 116], [100, 101, 108, 101, 116, 101], [102, 105, 108, 108], [100, 101, 102, 105, 110, 101], [115, 101, 101, 107], [103, 111, 97, 108], [116, 97, 98, 108, 101], [112, 97, 105, 114, 115], [117, 110, 100, 111], [114, 101, 100, 111]]
theorem ops_ev : cmd_Ops = some opsL := S.succ cmd_Ops_eq (S.some _)
theorem ops_ev' : abacistref40_Ops = some opsL := S.succ abacistref40_Ops_eq (S.some _)
theorem many_both (x : List UInt8) : ∃ r, cmd_Many x = some r ∧ abacistref40_Many x = some r ∧ 0 ≤ r.1 ∧ r.1 ≤ 28 ∧ 0 ≤ r.2.1 ∧ r.2.1 ≤ 28 ∧ (r.2.2 = true → 1 ≤ r.2.1 ∧ r.1 = r.2.1 ∧ r.2.1 ≤ 3) := by
  by_cases h : x ∈ opsL
  · simp only [opsL, List.mem_cons, List.not_mem_nil, or_false] at h
    rcases h with rfl | rfl | rfl | rfl | rfl | rfl | rfl | rfl | rfl | rfl | rfl | rfl | rfl | rfl | rfl | rfl | rfl | rfl | rfl | rfl | rfl
    · exact ⟨(2, 2, true), of_depth 20 (by kernel_rfl), of_depth 20 (by kernel_rfl), by decide⟩
    · exact ⟨(2, 2, false), of_depth 20 (by kernel_rfl), of_depth 20 (by kernel_rfl), by decide⟩
    · exact ⟨(2, 2, false), of_depth 20 (by kernel_rfl), of_depth 20 (by kernel_rfl), by decide⟩
    · exact ⟨(1, 1, false), of_depth 20 (by kernel_rfl), of_depth 20 (by kernel_rfl), by decide⟩
    · exact ⟨(1, 1, false), of_depth 20 (by kernel_rfl), of_depth 20 (by kernel_rfl), by decide⟩
    · exact ⟨(1, 1, false), of_depth 20 (by kernel_rfl), of_depth 20 (by kernel_rfl), by decide⟩
    · exact ⟨(1, 1, false), of_depth 20 (by kernel_rfl), of_depth 20 (by kernel_rfl), by decide⟩
    · exact ⟨(1, 1, false), of_depth 20 (by kernel_rfl), of_depth 20 (by kernel_rfl), by decide⟩
    · exact ⟨(1, 1, false), of_depth 20 (by kernel_rfl), of_depth 20 (by kernel_rfl), by decide⟩
    · exact ⟨(2, 2, false), of_depth 20 (by kernel_rfl), of_depth 20 (by kernel_rfl), by decide⟩
    · exact ⟨(3, 3, false), of_depth 20 (by kernel_rfl), of_depth 20 (by kernel_rfl), by decide⟩
    · exact ⟨(4, 4, false), of_depth 20 (by kernel_rfl), of_depth 20 (by kernel_rfl), by decide⟩
    · exact ⟨(4, 4, false), of_depth 20 (by kernel_rfl), of_depth 20 (by kernel_rfl), by decide⟩
    · exact ⟨(3, 3, false), of_depth 20 (by kernel_rfl), of_depth 20 (by kernel_rfl), by decide⟩
    · exact ⟨(3, 3, true), of_depth 20 (by kernel_rfl), of_depth 20 (by kernel_rfl), by decide⟩
    · exact ⟨(7, 7, false), of_depth 20 (by kernel_rfl), of_depth 20 (by kernel_rfl), by decide⟩
    · exact ⟨(7, 7, false), of_depth 20 (by kernel_rfl), of_depth 20 (by kernel_rfl), by decide⟩
    · exact ⟨(2, 14, false), of_depth 20 (by kernel_rfl), of_depth 20 (by kernel_rfl), by decide⟩
    · exact ⟨(4, 28, false), of_depth 20 (by kernel_rfl), of_depth 20 (by kernel_rfl), by decide⟩
    · exact ⟨(0, 0, false), of_depth 20 (by kernel_rfl), of_depth 20 (by kernel_rfl), by decide⟩
    · exact ⟨(0, 0, false), of_depth 20 (by kernel_rfl), of_depth 20 (by kernel_rfl), by decide⟩
  · simp only [opsL, List.mem_cons, List.not_mem_nil, or_false, not_or] at h
    refine ⟨(0, 0, false), ?_, ?_, by decide⟩
    · simp only [cmd_Many_eq, cmd_Many_1_eq, cmd_Many_3_eq, cmd_Many_5_eq, cmd_Many_7_eq, cmd_Many_8_eq, cmd_Many_6_eq, h, decide_false, cond_false]
    · simp only [abacistref40_Many_eq, abacistref40_Many_1_eq, abacistref40_Many_2_eq, abacistref40_Many_3_eq, abacistref40_Many_4_eq, abacistref40_Many_5_eq, h, decide_false, cond_false]
theorem many_text (x : List UInt8) (r : Int × Int × Bool) (h : cmd_Many x = some r) (ht : r.2.2 = true) : r.2.1 ≤ 3 := by
  obtain ⟨r', h1, _, _, _, _, _, h5⟩ := many_both x
  rw [h] at h1
  obtain rfl := Option.some.inj h1
  exact (h5 ht).2.2
theorem known_ev : abacistlaw40_known = some true := of_depth 200 (by kernel_rfl)
end Go.Proofs.YtcdcijhfjiahkaaDoorR.K
