/- The known cases of the laws of naturals. -/
import Derived.Test.YtcdcijhfjiahkaaDoorRPnat3
namespace Go.Proofs.YtcdcijhfjiahkaaDoorR.P
open Go.RowKit Go.Proofs.YtcdcijhfjiahkaaDoorRW.PrintWords Go.Proofs.YtcdcijhfjiahkaaDoorRW.PrintMore Go.Proofs.YtcdcijhfjiahkaaDoorR.M Go.Proofs.YtcdcijhfjiahkaaDoorR.X
set_option linter.unusedVariables false
set_option linter.unusedSimpArgs false

theorem nat_of {s : ByteArray} {n : Nat} (hv : val s = n) (hd : ∀ b l, L s = b :: l → b ≠ 0) : nat n = s := by rw [← hv]; exact trim_fix hd
theorem nat_258 : nat 258 = ⟨#[1, 2]⟩ := nat_of (by decide) (by intro b l h; cases h; decide)
theorem nat_66564 : nat 66564 = ⟨#[1, 4, 4]⟩ := nat_of (by decide) (by intro b l h; cases h; decide)
theorem known : Ev (fun k => abacistlaw01_known.f k) true := by
  unfold abacistlaw01_known.f
  have h1 := natSmall ⟨#[0, 1, 2]⟩ (by decide)
  rw [show val ⟨#[0, 1, 2]⟩ = 258 by decide, small_lt (by decide)] at h1
  refine Ev.bind h1 ?_
  have h2 := natOf 258 (by decide)
  rw [nat_258] at h2
  refine Ev.bind h2 ?_
  refine Ev.pos (by rw [toList_eq]) ?_
  refine Ev.pos rfl ?_
  refine Ev.pos rfl ?_
  have h3 := natMul ⟨#[1, 2]⟩ ⟨#[1, 2]⟩ (by decide) (by decide)
  rw [show val ⟨#[1, 2]⟩ = 258 by decide, show 258 * 258 = 66564 by decide, nat_66564] at h3
  refine Ev.bind h3 ?_
  refine Ev.pos (by rw [toList_eq]) ?_
  have h4 := natCmp ⟨#[1]⟩ ⟨#[2]⟩ (by decide) (by decide)
  rw [show val ⟨#[1]⟩ = 1 by decide, show val ⟨#[2]⟩ = 2 by decide, show sgn 1 2 = -1 from rfl] at h4
  refine Ev.bind h4 ?_
  refine Ev.pos rfl ?_
  have h5 := natBits ⟨#[1, 0]⟩ (by decide)
  rw [show val ⟨#[1, 0]⟩ = 256 by decide, ← bitLen_blen 256 (by decide), show Lib.bitLen 256 = 9 by decide] at h5
  exact Ev.bind h5 (Ev.now _)
end Go.Proofs.YtcdcijhfjiahkaaDoorR.P
