/- Contracts of naturals, told by numbers: what the machine of tier C shows. -/
import Derived.Test.YtcdcijhfjiahkaaDoorRPG
import Derived.Test.YtcdcijhfjiahkaaDoorRC2
set_option linter.unusedVariables false
set_option linter.unusedSimpArgs false
namespace Go.Proofs.YtcdcijhfjiahkaaDoorR.Q
open Go Go.Proofs.YtcdcijhfjiahkaaDoorR.K Go.Proofs.YtcdcijhfjiahkaaDoorR.C Go.Proofs.YtcdcijhfjiahkaaDoorR.P
def ok1 (s : List UInt8) : Bool := Nat.ble s.length 1000000000
def trimQ (s : List UInt8) : Option (List UInt8) := cond (ok1 s) (some (Lib.trimLeftB s 0)) none
def ofQ (n : Int) : Option (List UInt8) := cond (decide (0 ≤ n) && decide (n < 18446744073709551616)) (some (nat n.toNat)) none
def smallQ (s : List UInt8) : Option (Int × Bool) := cond (ok1 s) (some (small (val s))) none
def addQ (y : List UInt8 × List UInt8) : Option (List UInt8) := cond (ok1 y.1 && ok1 y.2) (some (nat (val y.1 + val y.2))) none
def mulQ (y : List UInt8 × List UInt8) : Option (List UInt8) := cond (ok1 y.1 && ok1 y.2) (some (nat (val y.1 * val y.2))) none
def divQ (y : List UInt8 × List UInt8) : Option (List UInt8 × List UInt8 × Int) := cond (ok1 y.1 && ok1 y.2) (some (divmod (val y.1) (val y.2))) none
theorem ok1_le {s : List UInt8} (h : ok1 s = true) : s.length ≤ 1000000000 := Nat.le_of_ble_eq_true h
theorem ok2_le {a b : List UInt8} (h : (ok1 a && ok1 b) = true) : a.length ≤ 1000000000 ∧ b.length ≤ 1000000000 := by
  rw [Bool.and_eq_true] at h
  exact ⟨ok1_le h.1, ok1_le h.2⟩
theorem call_of {i : Nat} (hf : (C.CT.fn (C.CT.fid i)).isSome = true) {g : den (tyL (C.CT.pts i)) → Option (den (tyL (C.CT.rts i)))} (hg : ∀ y r, g y = some r → (top C.CT).callF i y = some r) {inv : World → Prop} (hi : ∀ w, inv w → MaxLen w) :
    CallT Tryd.prog (C.CT.fid i) (C.CT.pts i) (C.CT.rts i) inv g := B.callT_of (C := C.CT) C.spec_ok hf hg hi
variable {inv : World → Prop} (hi : ∀ w, inv w → MaxLen w)
include hi
theorem trim_ok : CallT Tryd.prog 17 [.str] [.str] inv trimQ := call_of (i := 17) (by kernel_rfl) (g := trimQ) (fun y r h => by
  obtain ⟨hc, rfl⟩ := cond_some h
  exact (natTrim y).trans (congrArg some (trimB y).symm)) hi
theorem of_ok : CallT Tryd.prog 15 [.int .u64] [.str] inv ofQ := call_of (i := 15) (by kernel_rfl) (g := ofQ) (fun y r h => by
  obtain ⟨hc, rfl⟩ := cond_some h
  simp only [Bool.and_eq_true, decide_eq_true_eq] at hc
  obtain ⟨n, rfl⟩ := Int.eq_ofNat_of_zero_le hc.1
  exact natOf n (by omega)) hi
theorem small_ok : CallT Tryd.prog 13 [.str] [.int .u64, .bool] inv smallQ := call_of (i := 13) (by kernel_rfl) (g := smallQ) (fun y r h => by
  obtain ⟨hc, rfl⟩ := cond_some h
  have := ok1_le hc
  exact natSmall y (by omega)) hi
theorem add_ok : CallT Tryd.prog 43 [.str, .str] [.str] inv addQ := call_of (i := 43) (by kernel_rfl) (g := addQ) (fun y r h => by
  obtain ⟨hc, rfl⟩ := cond_some h
  obtain ⟨h1, h2⟩ := ok2_le hc
  exact natAdd y.1 y.2 (by omega) (by omega)) hi
theorem mul_ok : CallT Tryd.prog 47 [.str, .str] [.str] inv mulQ := call_of (i := 47) (by kernel_rfl) (g := mulQ) (fun y r h => by
  obtain ⟨hc, rfl⟩ := cond_some h
  obtain ⟨h1, h2⟩ := ok2_le hc
  exact natMul y.1 y.2 (by omega) (by omega)) hi
theorem div_ok : CallT Tryd.prog 99 [.str, .str] [.str, .str, .int .i64] inv divQ := call_of (i := 99) (by kernel_rfl) (g := divQ) (fun y r h => by
  obtain ⟨hc, rfl⟩ := cond_some h
  obtain ⟨h1, h2⟩ := ok2_le hc
  exact divDivMod y.1 y.2 h1 h2) hi
theorem rtrim_ok : CallT Tryd.prog 18 [.str] [.str] inv trimQ := call_of (i := 18) (by kernel_rfl) (g := trimQ) (fun y r h => by
  obtain ⟨hc, rfl⟩ := cond_some h
  have := ok1_le hc
  exact (refTrim y (by omega)).trans (congrArg some (trimB y).symm)) hi
theorem rof_ok : CallT Tryd.prog 16 [.int .u64] [.str] inv ofQ := call_of (i := 16) (by kernel_rfl) (g := ofQ) (fun y r h => by
  obtain ⟨hc, rfl⟩ := cond_some h
  simp only [Bool.and_eq_true, decide_eq_true_eq] at hc
  obtain ⟨n, rfl⟩ := Int.eq_ofNat_of_zero_le hc.1
  exact refOf n (by omega)) hi
theorem rsmall_ok : CallT Tryd.prog 14 [.str] [.int .u64, .bool] inv smallQ := call_of (i := 14) (by kernel_rfl) (g := smallQ) (fun y r h => by
  obtain ⟨hc, rfl⟩ := cond_some h
  have := ok1_le hc
  exact refSmall y (by omega)) hi
theorem radd_ok : CallT Tryd.prog 44 [.str, .str] [.str] inv addQ := call_of (i := 44) (by kernel_rfl) (g := addQ) (fun y r h => by
  obtain ⟨hc, rfl⟩ := cond_some h
  obtain ⟨h1, h2⟩ := ok2_le hc
  exact refAdd y.1 y.2 (by omega) (by omega)) hi
theorem rmul_ok : CallT Tryd.prog 48 [.str, .str] [.str] inv mulQ := call_of (i := 48) (by kernel_rfl) (g := mulQ) (fun y r h => by
  obtain ⟨hc, rfl⟩ := cond_some h
  obtain ⟨h1, h2⟩ := ok2_le hc
  exact refMul y.1 y.2 (by omega) (by omega)) hi
theorem rdiv_ok : CallT Tryd.prog 106 [.str, .str] [.str, .str, .int .i64] inv divQ := call_of (i := 106) (by kernel_rfl) (g := divQ) (fun y r h => by
  obtain ⟨hc, rfl⟩ := cond_some h
  obtain ⟨h1, h2⟩ := ok2_le hc
  exact refDivMod y.1 y.2 h1 h2) hi
/-- Just so many digits, the highest first. -/
def digitsL : Nat → Nat → List UInt8
  | 0, _ => []
  | k + 1, n => digitsL k (n / 10) ++ [UInt8.ofNat (48 + n % 10)]
def digitsQ (y : Int × Int) : Option (List UInt8) := cond (decide (0 ≤ y.1) && (decide (y.1 < 18446744073709551616) && (decide (0 ≤ y.2) && decide (y.2 ≤ 1000)))) (some (digitsL y.2.toNat y.1.toNat)) none
omit hi in
theorem digits1 (k : Nat) (hk : k ≤ 1000) : ∀ (m i n : Nat) (X : List Int), i + m = k → n < 18446744073709551616 → X.length = i → dec_digits_1 (n : Int) (k : Int) (k : Int) (i : Int) (List.replicate m 0 ++ X) = some (digitsL m n ++ bytesOf X)
  | 0, i, n, X, h, hn, hX => by
    rw [dec_digits_1_eq, cF (decide_eq_false (by omega))]; simp [digitsL]
  | m + 1, i, n, X, h, hn, hX => by
    have ew : IntKind.i64.wrap (IntKind.i64.wrap ((k : Int) - 1) - (i : Int)) = ((m : Nat) : Int) := by rw [wrap64 (n := (k : Int) - 1) (by omega) (by omega), wrap64 (by omega) (by omega)]; omega
    have e1 : IntKind.u64.wrap ((n : Int).tdiv 10) = ((n / 10 : Nat) : Int) := by rw [Int.tdiv_eq_ediv_of_nonneg (by omega), wrapU64 (by omega) (by omega)]; omega
    have e2 : IntKind.u8.wrap (IntKind.u64.wrap (48 + (n : Int).tmod 10)) = ((48 + n % 10 : Nat) : Int) := by rw [Int.tmod_eq_emod_of_nonneg (by omega), wrapU64 (by omega) (by omega), wrapU8 (by omega) (by omega)]; omega
    rw [dec_digits_1_eq, cT (decide_eq_true (by omega)), cT (by rfl), ew, cT (ix (by simp; omega)), cT (by rfl), e1, e2, wS (by omega), Int.toNat_natCast, set_pad [], digits1 k hk m (i + 1) (n / 10) _ (by omega) (by omega) (by simp [hX])]
    simp only [digitsL, bytesOf, List.map_cons, List.append_assoc, List.singleton_append, Int.toNat_natCast]
theorem digits_ok : CallT Tryd.prog 100 [.int .u64, .int .i64] [.str] inv digitsQ := call_of (i := 100) (by kernel_rfl) (g := digitsQ) (fun y r h => by
  obtain ⟨hc, rfl⟩ := cond_some h
  simp only [Bool.and_eq_true, decide_eq_true_eq] at hc
  obtain ⟨a, b⟩ := y
  obtain ⟨n, rfl⟩ := Int.eq_ofNat_of_zero_le hc.1
  obtain ⟨k, rfl⟩ := Int.eq_ofNat_of_zero_le hc.2.2.1
  have h1 := hc.2.1
  have h2 := hc.2.2.2
  simp only at h1 h2
  refine (dec_digits_eq _ _).trans ?_
  have := digits1 k (by omega) k 0 n [] (Nat.zero_add _) (by omega) rfl
  simp only [List.append_nil, bytesOf, List.map_nil] at this
  rw [cT (by simp; omega), Int.toNat_natCast]
  exact this) hi
end Go.Proofs.YtcdcijhfjiahkaaDoorR.Q
