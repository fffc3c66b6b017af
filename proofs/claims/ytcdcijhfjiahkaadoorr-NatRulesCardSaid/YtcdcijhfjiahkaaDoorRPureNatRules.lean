/- The law NatRules, pure. -/
import Derived.Test.YtcdcijhfjiahkaaDoorRPnat4
namespace Go.Proofs.YtcdcijhfjiahkaaDoorR.Pure
open Go.RowKit Go.Proofs.YtcdcijhfjiahkaaDoorRW.PrintWords Go.Proofs.YtcdcijhfjiahkaaDoorRW.PrintMore Go.Proofs.YtcdcijhfjiahkaaDoorR.M Go.Proofs.YtcdcijhfjiahkaaDoorR.X Go.Proofs.YtcdcijhfjiahkaaDoorR.P
set_option linter.unusedVariables false
set_option linter.unusedSimpArgs false
theorem add_size {a b k : Nat} (ha : a < 256 ^ k) (hb : b < 256 ^ k) : (nat (a + b)).size ≤ k + 1 := nat_size_le (by rw [Nat.pow_succ]; omega)
theorem mul_size {a b k : Nat} (ha : a < 256 ^ k) (hb : b < 256 ^ k) : (nat (a * b)).size ≤ k + k := nat_size_le (by rw [Nat.pow_add]; exact Nat.mul_lt_mul'' ha hb)
theorem val_lt_of {s : ByteArray} {k : Nat} (h : s.size ≤ k) : val s < 256 ^ k := Nat.lt_of_lt_of_le (val_lt s) (Nat.pow_le_pow_right (by decide) h)
theorem rules (x y z : ByteArray) (hx : x.size ≤ 200) (hy : y.size ≤ 200) (hz : z.size ≤ 200) : Ev (fun k => abacistlaw01_NatRules.j0 k x y z false) true := by
  have vx := val_lt_of hx
  have vy := val_lt_of hy
  have vz := val_lt_of hz
  have sxy := add_size vx vy
  have syz := add_size vy vz
  have mxy := mul_size vx vy
  have mxz := mul_size vx vz
  refine Ev.step (fun k => by rw [abacistlaw01_NatRules.j0]) ?_
  refine Ev.neg (by decide) ?_
  refine Ev.bind (natAdd y z (by omega) (by omega)) ?_
  refine Ev.bind (natAdd x y (by omega) (by omega)) ?_
  have h1 := natSub (nat (val x + val y)) y (by omega) (by omega)
  rw [val_nat, Nat.add_sub_cancel] at h1
  refine Ev.bind h1 ?_
  refine Ev.bind (natTrim x) ?_
  refine Ev.pos rfl ?_
  refine Ev.bind (natAdd x y (by omega) (by omega)) ?_
  have h2 := natAdd y x (by omega) (by omega)
  rw [Nat.add_comm] at h2
  refine Ev.bind h2 ?_
  refine Ev.pos rfl ?_
  refine Ev.bind (natMul x y (by omega) (by omega)) ?_
  have h3 := natMul y x (by omega) (by omega)
  rw [Nat.mul_comm] at h3
  refine Ev.bind h3 ?_
  refine Ev.pos rfl ?_
  have h4 := natMul x (nat (val y + val z)) (by omega) (by omega)
  rw [val_nat] at h4
  refine Ev.bind h4 ?_
  refine Ev.bind (natMul x z (by omega) (by omega)) ?_
  have h5 := natAdd (nat (val x * val y)) (nat (val x * val z)) (by omega) (by omega)
  rw [val_nat, val_nat, ← Nat.mul_add] at h5
  refine Ev.bind h5 ?_
  refine Ev.pos rfl ?_
  exact Ev.bind known (Ev.now _)
theorem rules' (x y z : ByteArray) : Ev (fun k => abacistlaw01_NatRules.j0 k x y z true) true := by
  refine Ev.step (fun k => by rw [abacistlaw01_NatRules.j0]) ?_
  refine Ev.pos rfl ?_
  exact Ev.bind known (Ev.now _)
theorem NatRules (a0 : ByteArray) (a1 : ByteArray) (a2 : ByteArray) (h0 : a0.size ≤ 140737488351232) (h1 : a1.size ≤ 140737488351232) (h2 : a2.size ≤ 140737488351232) : ∃ k, abacistlaw01_NatRules.f k a0 a1 a2 = some true := by
  apply Ev.rounds (g := fun k => abacistlaw01_NatRules.f k a0 a1 a2)
  unfold abacistlaw01_NatRules.f
  by_cases ha : (a0.size : Int) > 200
  · exact Ev.pos ha (rules' _ _ _)
  · refine Ev.neg ha ?_
    by_cases hb : (a1.size : Int) > 200
    · exact Ev.pos hb (rules' _ _ _)
    · refine Ev.neg hb ?_
      by_cases hc : (a2.size : Int) > 200
      · rw [decide_eq_true hc]
        exact rules' _ _ _
      · rw [decide_eq_false hc]
        exact rules _ _ _ (by omega) (by omega) (by omega)
end Go.Proofs.YtcdcijhfjiahkaaDoorR.Pure
