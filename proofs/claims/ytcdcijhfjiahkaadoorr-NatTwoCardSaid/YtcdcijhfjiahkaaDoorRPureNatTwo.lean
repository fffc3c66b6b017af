/- The law NatTwo, pure. -/
import Derived.Test.YtcdcijhfjiahkaaDoorRPnat4
namespace Go.Proofs.YtcdcijhfjiahkaaDoorR.Pure
open Go.RowKit Go.Proofs.YtcdcijhfjiahkaaDoorRW.PrintWords Go.Proofs.YtcdcijhfjiahkaaDoorRW.PrintMore Go.Proofs.YtcdcijhfjiahkaaDoorR.M Go.Proofs.YtcdcijhfjiahkaaDoorR.X Go.Proofs.YtcdcijhfjiahkaaDoorR.P
set_option linter.unusedVariables false
set_option linter.unusedSimpArgs false
theorem NatTwo (a0 : ByteArray) (a1 : ByteArray) (h0 : a0.size ≤ 140737488351232) (h1 : a1.size ≤ 140737488351232) : ∃ k, abacistlaw01_NatTwo.f k a0 a1 = some true := by
  apply Ev.rounds (g := fun k => abacistlaw01_NatTwo.f k a0 a1)
  unfold abacistlaw01_NatTwo.f
  by_cases ha : (a0.size : Int) > 300
  · refine Ev.pos ha ?_
    refine Ev.step (fun k => by rw [abacistlaw01_NatTwo.j0]) ?_
    refine Ev.pos rfl ?_
    exact Ev.bind known (Ev.now _)
  · refine Ev.neg ha ?_
    refine Ev.step (fun k => by rw [abacistlaw01_NatTwo.j0]) ?_
    by_cases hb : (a1.size : Int) > 300
    · refine Ev.pos (decide_eq_true hb) ?_
      exact Ev.bind known (Ev.now _)
    · refine Ev.neg (by rw [decide_eq_false hb]; decide) ?_
      refine Ev.bind (natCmp a0 a1 h0 h1) ?_
      refine Ev.bind (refCmp a0 a1) ?_
      refine Ev.pos rfl ?_
      refine Ev.bind (natAdd a0 a1 (by omega) (by omega)) ?_
      refine Ev.bind (refAdd a0 a1 (by omega) (by omega)) ?_
      refine Ev.pos rfl ?_
      refine Ev.bind (natSub a0 a1 (by omega) (by omega)) ?_
      refine Ev.bind (refSub a0 a1 (by omega) (by omega)) ?_
      refine Ev.pos rfl ?_
      refine Ev.bind (natMul a0 a1 (by omega) (by omega)) ?_
      refine Ev.bind (refMul a0 a1 (by omega) (by omega)) ?_
      refine Ev.pos rfl ?_
      exact Ev.bind known (Ev.now _)
end Go.Proofs.YtcdcijhfjiahkaaDoorR.Pure
