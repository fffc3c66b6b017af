/- math/bits.Len32: the shelf's contract, in the print's form. -/
import Derived.Test.YtcdcijhfjiahkaaDoorRX0
import Derived.Test.YtcdcijhfjiahkaaDoorRShelf
namespace Go.Proofs.YtcdcijhfjiahkaaDoorR.X
open Go.RowKit Go.Proofs.YtcdcijhfjiahkaaDoorRW.PrintWords
def bits_Len32.f (a0 : Int) : Option Int := if 0 ≤ a0 then (if a0 ≤ 4294967295 then some (Lib.bitLen a0.toNat) else none) else none
theorem bits_Len32.calls (a0 : Int) (r : Int) (w : World) (h : bits_Len32.f a0 = some r) :
    Calls Tryd.prog 77 #[.int .u32 a0] w fun e w' => e = .returned (.int .i64 r) ∧ Drawn0 w w' := by
  unfold bits_Len32.f at h
  split at h
  · split at h
    · obtain rfl := Option.some.inj h
      exact (Tryd.bits_Len32 a0 w (by assumption) (by assumption)).mono fun e w' ⟨he, hw⟩ => ⟨he, by rw [hw]; exact Drawn0.refl _⟩
    · cases h
  · cases h
end Go.Proofs.YtcdcijhfjiahkaaDoorR.X
