import Derived.Test.YtcdcijhfjiahkaaDoorRC8
import Derived.Lib.IndexBytes
set_option linter.unusedVariables false
namespace Go.Proofs.YtcdcijhfjiahkaaDoorR.K
open Go
def cutS (s : List UInt8) : List UInt8 × List UInt8 × Bool := cond (s.contains 32) (s.takeWhile (· ≠ 32), (s.dropWhile (· ≠ 32)).tail, true) (s, [], false)
theorem indexByte_spec : ∀ (s : List UInt8), (s.contains 32 = false ∧ Lib.indexByte s 32 = -1) ∨ (s.contains 32 = true ∧ Lib.indexByte s 32 = ((s.takeWhile (· ≠ 32)).length : Int) ∧ s.take (s.takeWhile (· ≠ 32)).length = s.takeWhile (· ≠ 32) ∧ s.drop ((s.takeWhile (· ≠ 32)).length + 1) = (s.dropWhile (· ≠ 32)).tail)
  | [] => .inl ⟨rfl, rfl⟩
  | b :: s => by
    by_cases hb : b = 32
    · subst hb
      right
      simp [Lib.indexByte]
    · rcases indexByte_spec s with ⟨h1, h2⟩ | ⟨h1, h2, h3, h4⟩
      · left
        refine ⟨?_, ?_⟩
        · simp only [List.contains_cons, h1, Bool.or_false]; simpa using fun h => hb h.symm
        · simp [Lib.indexByte, h2, hb]
      · right
        refine ⟨by simp only [List.contains_cons, h1, Bool.or_true], ?_, ?_, ?_⟩
        · simp only [Lib.indexByte, h2, List.takeWhile_cons]
          simp [hb]
        · simp [hb]; simpa using h3
        · simp [hb]; simpa using h4
theorem cutC (s : List UInt8) (hl : s.length < 4294967281) : strings_Cut s [32] = some (cutS s) := by
  refine (top_call ..).trans ?_
  show cutF (s, [32]) = _
  unfold cutF
  rw [decide_eq_true hl]
  show some (Lib.cut s [32]) = _
  congr 1
  unfold Lib.cut cutS
  rw [Lib.index_one]
  rcases indexByte_spec s with ⟨h1, h2⟩ | ⟨h1, h2, h3, h4⟩
  · rw [h2, h1]; rfl
  · rw [h2, h1, if_pos (by omega)]
    simp only [Int.toNat_natCast, h3, List.length_cons, List.length_nil, Nat.zero_add, h4, cond_true]
end Go.Proofs.YtcdcijhfjiahkaaDoorR.K
