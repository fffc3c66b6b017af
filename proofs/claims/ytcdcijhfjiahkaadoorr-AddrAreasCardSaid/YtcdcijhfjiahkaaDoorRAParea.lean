/- What the printed functions of areas, and of their reference, answer. -/
import Derived.Test.YtcdcijhfjiahkaaDoorRA1
import Derived.Test.YtcdcijhfjiahkaaDoorRA2
import Derived.Test.YtcdcijhfjiahkaaDoorRA3
import Derived.Test.YtcdcijhfjiahkaaDoorRA6
import Derived.Test.YtcdcijhfjiahkaaDoorRAHcells
import Derived.Test.YtcdcijhfjiahkaaDoorRAPparse
namespace Go.Proofs.YtcdcijhfjiahkaaDoorR.AP
open Go.RowKit Go.Proofs.YtcdcijhfjiahkaaDoorRW.PrintWords Go.Proofs.YtcdcijhfjiahkaaDoorRW.PrintMore Go.Proofs.YtcdcijhfjiahkaaDoorR.M Go.Proofs.YtcdcijhfjiahkaaDoorR.P Go.Proofs.YtcdcijhfjiahkaaDoorR.A
set_option linter.unusedVariables false
set_option linter.unusedSimpArgs false
set_option maxHeartbeats 1000000

def area (a b c d : Int) : Int := (mx a c - mn a c + 1) * (mx b d - mn b d + 1)
def normT (a b c d : Int) : Int × Int × Int × Int × Int :=
  if inA a b = true then (if inA c d = true then (if area a b c d > 200 then (0, 0, 0, 0, 7) else (mn a c, mn b d, mx a c, mx b d, 0)) else (0, 0, 0, 0, 6)) else (0, 0, 0, 0, 6)
theorem mul_bound {x y : Int} (hx0 : 0 ≤ x) (hx : x ≤ 52) (hy0 : 0 ≤ y) (hy : y ≤ 99) : 0 ≤ x * y ∧ x * y ≤ 5148 := by
  refine ⟨Int.mul_nonneg hx0 hy0, ?_⟩
  have h1 : x * y ≤ 52 * y := Int.mul_le_mul_of_nonneg_right hx hy0
  omega
theorem mn_mx {a c : Int} {m : Int} (h1 : 1 ≤ a) (h2 : a ≤ m) (h3 : 1 ≤ c) (h4 : c ≤ m) : 1 ≤ mn a c ∧ mn a c ≤ mx a c ∧ mx a c ≤ m := by
  unfold mn mx
  split <;> split <;> omega
theorem addrNorm (a b c d : Int) : Ev (fun k => addr_Area_Norm.f k a b c d) (normT a b c d) := by
  unfold addr_Area_Norm.f normT
  refine Ev.some (addrIn a b) ?_
  have yes : Ev (fun k => addr_Area_Norm.j0 k true a b c d) (0, 0, 0, 0, 6) := by
    refine Ev.step (fun k => by rw [addr_Area_Norm.j0]) ?_
    refine Ev.pos rfl ?_
    exact Ev.now _
  by_cases h1 : inA a b = true
  · rw [if_pos h1]
    refine Ev.pos h1 ?_
    refine Ev.some (addrIn c d) ?_
    by_cases h2 : inA c d = true
    · rw [if_pos h2, h2]
      refine Ev.step (fun k => by rw [addr_Area_Norm.j0]) ?_
      refine Ev.neg (by decide) ?_
      obtain ⟨i1, i2, i3, i4⟩ := inA_iff.1 h1
      obtain ⟨j1, j2, j3, j4⟩ := inA_iff.1 h2
      obtain ⟨m1, m2, m3⟩ := mn_mx i1 i2 j1 j2
      obtain ⟨n1, n2, n3⟩ := mn_mx i3 i4 j3 j4
      obtain ⟨b1, b2⟩ := mul_bound (x := mx a c - mn a c + 1) (y := mx b d - mn b d + 1) (by omega) (by omega) (by omega) (by omega)
      have e : addr_Area_size.f (mn a c) (mn b d) (mx a c) (mx b d) = some (area a b c d) := by
        unfold addr_Area_size.f area
        rw [w64 (x := mx a c - mn a c) (by omega) (by omega), w64 (x := mx a c - mn a c + 1) (by omega) (by omega), w64 (x := mx b d - mn b d) (by omega) (by omega), w64 (x := mx b d - mn b d + 1) (by omega) (by omega), w64 (by omega) (by omega)]
      refine Ev.some e ?_
      by_cases h3 : area a b c d > 200
      · rw [if_pos h3, if_pos h3]
        exact Ev.now _
      · rw [if_neg h3, if_neg h3]
        exact Ev.now _
    · rw [if_neg h2]
      have : inA c d = false := by simpa using h2
      rw [this]
      exact yes
  · rw [if_neg h1]
    refine Ev.neg h1 ?_
    exact yes
theorem refNorm (a b c d : Int) : Ev (fun k => abacistref10_Area_Norm.f k a b c d) (normT a b c d) := by
  unfold abacistref10_Area_Norm.f normT
  refine Ev.some (refIn a b) ?_
  have yes : Ev (fun k => abacistref10_Area_Norm.j0 k true a b c d) (0, 0, 0, 0, 6) := by
    refine Ev.step (fun k => by rw [abacistref10_Area_Norm.j0]) ?_
    refine Ev.pos rfl ?_
    exact Ev.now _
  by_cases h1 : inA a b = true
  · rw [if_pos h1]
    refine Ev.pos h1 ?_
    refine Ev.some (refIn c d) ?_
    by_cases h2 : inA c d = true
    · rw [if_pos h2, h2]
      refine Ev.step (fun k => by rw [abacistref10_Area_Norm.j0]) ?_
      refine Ev.neg (by decide) ?_
      obtain ⟨i1, i2, i3, i4⟩ := inA_iff.1 h1
      obtain ⟨j1, j2, j3, j4⟩ := inA_iff.1 h2
      obtain ⟨m1, m2, m3⟩ := mn_mx i1 i2 j1 j2
      obtain ⟨n1, n2, n3⟩ := mn_mx i3 i4 j3 j4
      obtain ⟨b1, b2⟩ := mul_bound (x := mx a c - mn a c + 1) (y := mx b d - mn b d + 1) (by omega) (by omega) (by omega) (by omega)
      rw [w64 (x := mx a c - mn a c) (by omega) (by omega), w64 (x := mx a c - mn a c + 1) (by omega) (by omega), w64 (x := mx b d - mn b d) (by omega) (by omega), w64 (x := mx b d - mn b d + 1) (by omega) (by omega), w64 (by omega) (by omega)]
      by_cases h3 : area a b c d > 200
      · rw [if_pos h3]
        refine Ev.pos h3 ?_
        exact Ev.now _
      · rw [if_neg h3]
        refine Ev.neg h3 ?_
        exact Ev.now _
    · rw [if_neg h2]
      have : inA c d = false := by simpa using h2
      rw [this]
      exact yes
  · rw [if_neg h1]
    refine Ev.neg h1 ?_
    exact yes
def wellT (a b c d : Int) : Bool := if (normT a b c d).2.2.2.2 = 0 then (a == (normT a b c d).1 && (b == (normT a b c d).2.1 && (c == (normT a b c d).2.2.1 && (d == (normT a b c d).2.2.2.1)))) else false
theorem addrWell (a b c d : Int) : Ev (fun k => addr_Area_well.f k a b c d) (wellT a b c d) := by
  unfold addr_Area_well.f wellT
  refine Ev.bind (addrNorm a b c d) ?_
  by_cases h : (normT a b c d).2.2.2.2 = 0
  · rw [if_pos h, if_pos h]
    exact Ev.now _
  · rw [if_neg h, if_neg h]
    exact Ev.now _
theorem wellT_iff {a b c d : Int} : wellT a b c d = true ↔ (1 ≤ a ∧ a ≤ c ∧ c ≤ 52) ∧ (1 ≤ b ∧ b ≤ d ∧ d ≤ 99) ∧ (c - a + 1) * (d - b + 1) ≤ 200 := by
  unfold wellT normT
  by_cases h1 : inA a b = true
  · by_cases h2 : inA c d = true
    · rw [if_pos h1, if_pos h2]
      obtain ⟨i1, i2, i3, i4⟩ := inA_iff.1 h1
      obtain ⟨j1, j2, j3, j4⟩ := inA_iff.1 h2
      by_cases h3 : area a b c d > 200
      · rw [if_pos h3]
        simp only
        constructor
        · intro h; simp at h
        · rintro ⟨⟨_, hac, _⟩, ⟨_, hbd, _⟩, hh⟩
          unfold area at h3
          have e1 : mx a c = c := by unfold mx; split <;> omega
          have e2 : mn a c = a := by unfold mn; split <;> omega
          have e3 : mx b d = d := by unfold mx; split <;> omega
          have e4 : mn b d = b := by unfold mn; split <;> omega
          rw [e1, e2, e3, e4] at h3
          omega
      · rw [if_neg h3]
        simp only [if_true, Bool.and_eq_true, beq_iff_eq]
        unfold area at h3
        constructor
        · rintro ⟨e1, e2, e3, e4⟩
          have hac : a ≤ c := by unfold mn at e1; split at e1 <;> omega
          have hbd : b ≤ d := by unfold mn at e2; split at e2 <;> omega
          rw [← e1, ← e2, ← e3, ← e4] at h3
          exact ⟨⟨i1, hac, j2⟩, ⟨i3, hbd, j4⟩, by omega⟩
        · rintro ⟨⟨_, hac, _⟩, ⟨_, hbd, _⟩, hh⟩
          refine ⟨?_, ?_, ?_, ?_⟩
          · unfold mn; split <;> omega
          · unfold mn; split <;> omega
          · unfold mx; split <;> omega
          · unfold mx; split <;> omega
    · rw [if_pos h1, if_neg h2]
      obtain ⟨i1, i2, i3, i4⟩ := inA_iff.1 h1
      simp only
      constructor
      · intro h; simp at h
      · rintro ⟨⟨_, hac, _⟩, ⟨_, hbd, _⟩, hh⟩
        exact absurd (inA_iff.2 ⟨by omega, by omega, by omega, by omega⟩) h2
  · rw [if_neg h1]
    simp only
    constructor
    · intro h; simp at h
    · rintro ⟨⟨_, hac, _⟩, ⟨_, hbd, _⟩, hh⟩
      exact absurd (inA_iff.2 ⟨by omega, by omega, by omega, by omega⟩) h1
theorem addrCells (a b c d e : Int) : Ev (fun k => addr_Area_Cells.f k a b c d e) (if wellT a b c d = true then addr_Area_Cells.all a b c d e else []) := by
  unfold addr_Area_Cells.f
  refine Ev.bind (addrWell a b c d) ?_
  by_cases h : wellT a b c d = true
  · rw [if_pos h, if_pos h]
    obtain ⟨⟨h1, h2, h3⟩, ⟨h4, h5, h6⟩, h7⟩ := wellT_iff.1 h
    rw [if_pos ⟨h1, h2, h3, h4, h5, h6⟩]
    exact Ev.now _
  · rw [if_neg h, if_neg h]
    exact Ev.now _
theorem known : Ev (fun k => abacistlaw10_known.f k) true := by
  unfold abacistlaw10_known.f
  have h1 := addrParse ⟨#[65, 66, 49, 50]⟩ (by decide)
  rw [show parseL (L ⟨#[65, 66, 49, 50]⟩) = (28, 12, 0) by decide] at h1
  refine Ev.bind h1 ?_
  have h2 := addrParse ⟨#[65, 49, 48, 48]⟩ (by decide)
  rw [show parseL (L ⟨#[65, 49, 48, 48]⟩) = (0, 0, 6) by decide] at h2
  refine Ev.bind h2 ?_
  refine Ev.pos rfl ?_
  refine Ev.pos rfl ?_
  refine Ev.pos rfl ?_
  refine Ev.pos rfl ?_
  refine Ev.bind (addrText 28 12) ?_
  refine Ev.pos (by rw [show textT 28 12 = ⟨#[65, 66, 49, 50]⟩ by decide +kernel, toList_eq]) ?_
  refine Ev.bind (addrCells 1 1 2 2 0) ?_
  rw [if_pos (by decide)]
  exact Ev.now _
end Go.Proofs.YtcdcijhfjiahkaaDoorR.AP
