/- The law NatSmalls, pure. -/
import Derived.Test.YtcdcijhfjiahkaaDoorRPnat4
namespace Go.Proofs.YtcdcijhfjiahkaaDoorR.Pure
open Go.RowKit Go.Proofs.YtcdcijhfjiahkaaDoorRW.PrintWords Go.Proofs.YtcdcijhfjiahkaaDoorRW.PrintMore Go.Proofs.YtcdcijhfjiahkaaDoorR.M Go.Proofs.YtcdcijhfjiahkaaDoorR.X Go.Proofs.YtcdcijhfjiahkaaDoorR.P
set_option linter.unusedVariables false
set_option linter.unusedSimpArgs false
theorem NatSmalls (a0 : Int) (a1 : ByteArray) (h0 : (Lit.int .u64 a0).wf = true) (h1 : a1.size ≤ 140737488351232) : ∃ k, abacistlaw01_NatSmalls.f k a0 a1 = some true := by
  obtain ⟨n, rfl, hn⟩ : ∃ n : Nat, a0 = (n : Int) ∧ n < 18446744073709551616 := by
    have : 0 ≤ a0 ∧ a0 < 18446744073709551616 := by simp [Lit.wf, IntKind.min, IntKind.max, IntKind.bits, IntKind.signed] at h0; omega
    exact ⟨a0.toNat, by omega, by omega⟩
  apply Ev.rounds (g := fun k => abacistlaw01_NatSmalls.f k (n : Int) a1)
  unfold abacistlaw01_NatSmalls.f
  refine Ev.bind (natSmall a1 h1) ?_
  refine Ev.bind (refSmall a1) ?_
  refine Ev.bind (natOf n hn) ?_
  have hs := natSmall (nat n) (Nat.le_trans (nat_size_le (n := n) (k := 8) (by omega)) (by decide))
  rw [val_nat, small_lt hn] at hs
  refine Ev.bind hs ?_
  refine Ev.bind (natOf n hn) ?_
  refine Ev.bind (refOf n hn) ?_
  refine Ev.pos rfl ?_
  refine Ev.pos rfl ?_
  refine Ev.pos (beq_self_eq_true _) ?_
  refine Ev.pos rfl ?_
  refine Ev.pos rfl ?_
  refine Ev.bind (natTrim a1) ?_
  refine Ev.bind (refTrim a1) ?_
  refine Ev.pos rfl ?_
  refine Ev.bind (natBits a1 h1) ?_
  refine Ev.bind (refBits a1 (by omega)) ?_
  refine Ev.pos rfl ?_
  exact Ev.bind known (Ev.now _)
end Go.Proofs.YtcdcijhfjiahkaaDoorR.Pure
