/- The abstract machine: small rules for proofs over its equations. -/
import Derived.Test.YtcdcijhfjiahkaaDoorRKM
set_option linter.unusedVariables false
set_option linter.unusedSimpArgs false
namespace Go.Proofs.YtcdcijhfjiahkaaDoorR.K
open Go
theorem S.some {α : Type} (r : α) : (Option.some r : Option α) = Option.some r := rfl
theorem S.succ {α : Type} {f g : Option α} {r : α} (h : f = g) (hg : g = Option.some r) : f = Option.some r := h.trans hg
theorem S.bind {α β : Type} {f : Option α} {g : α → Option β} {a : α} {r : β} (hf : f = Option.some a) (hg : g a = Option.some r) : f.bind g = Option.some r := by rw [hf]; exact hg
theorem S.cond {α : Type} {c : Bool} {f g : Option α} {r : α} (h1 : c = true → f = Option.some r) (h2 : c = false → g = Option.some r) : cond c f g = Option.some r := by
  cases c with
  | true => exact h1 rfl
  | false => exact h2 rfl
theorem S.of_true {α : Type} {c : Bool} {f g : Option α} {r : α} (hc : c = true) (h : f = Option.some r) : _root_.cond c f g = Option.some r := by subst hc; exact h
theorem S.of_false {α : Type} {c : Bool} {f g : Option α} {r : α} (hc : c = false) (h : g = Option.some r) : _root_.cond c f g = Option.some r := by subst hc; exact h
theorem wrap64 {n : Int} (h0 : -9223372036854775808 ≤ n) (h1 : n ≤ 9223372036854775807) : IntKind.i64.wrap n = n := by
  simp [IntKind.wrap, IntKind.bits, IntKind.signed]
  omega
theorem wrapU64 {n : Int} (h0 : 0 ≤ n) (h1 : n < 18446744073709551616) : IntKind.u64.wrap n = n := by
  simp [IntKind.wrap, IntKind.bits, IntKind.signed]
  omega
theorem wrapU32 {n : Int} (h0 : 0 ≤ n) (h1 : n < 4294967296) : IntKind.u32.wrap n = n := by
  simp [IntKind.wrap, IntKind.bits, IntKind.signed]
  omega
theorem wrapU8 {n : Int} (h0 : 0 ≤ n) (h1 : n < 256) : IntKind.u8.wrap n = n := by
  simp [IntKind.wrap, IntKind.bits, IntKind.signed]
  omega
theorem dec_true {p : Prop} [Decidable p] (h : p) : decide p = true := decide_eq_true h
theorem dec_false {p : Prop} [Decidable p] (h : ¬ p) : decide p = false := decide_eq_false h
theorem cT {α : Type} {c : Bool} {a b : α} (h : c = true) : _root_.cond c a b = a := by subst h; rfl
theorem cF {α : Type} {c : Bool} {a b : α} (h : c = false) : _root_.cond c a b = b := by subst h; rfl
/-- An index within. -/
theorem ix {i n : Nat} (h : i < n) : (decide (0 ≤ (i : Int)) && decide ((i : Int) < (n : Int))) = true := by simp; omega
theorem getN {α : Type} (l : List α) (i : Nat) (d : α) (h : i < l.length) : l.getD (i : Int).toNat d = l[i] := by simp [List.getD, h]
end Go.Proofs.YtcdcijhfjiahkaaDoorR.K
