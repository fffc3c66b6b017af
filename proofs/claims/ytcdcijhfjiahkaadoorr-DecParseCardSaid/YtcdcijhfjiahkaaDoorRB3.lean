/- The small machine's two functions, as contracts: digits without those 0 at the end; a text without bytes 0 ahead. -/
import Derived.Test.YtcdcijhfjiahkaaDoorRB1
import Derived.Test.YtcdcijhfjiahkaaDoorRB2
import Derived.Test.YtcdcijhfjiahkaaDoorRKS
import Derived.Test.YtcdcijhfjiahkaaDoorRKHtextNat
set_option linter.unusedVariables false
namespace Go.Proofs.YtcdcijhfjiahkaaDoorR.B
open Go Go.Proofs.YtcdcijhfjiahkaaDoorR.K
open Go.Proofs.YtcdcijhfjiahkaaDoorR.H (cutZ cutZF trimF)
theorem callT_of {P : Program} {C : Ctx} (hS : ∀ k, SpecOk P (sem C k)) {i : Nat} (hf : (C.fn (C.fid i)).isSome = true) {g : den (tyL (C.pts i)) → Option (den (tyL (C.rts i)))} (hg : ∀ y r, g y = some r → (top C).callF i y = some r) {inv : World → Prop} (hi : ∀ w, inv w → C.inv w) :
    CallT P (C.fid i) (C.pts i) (C.rts i) inv g := fun y r h w fz0 vs hfz hinv hd => top_calls hS (hg y r h) hfz hf (hi w hinv) hd
theorem cutZ_zero (l : List Int) : cutZ (l ++ [0]) = cutZ l := by
  induction l with
  | nil => rfl
  | cons a l ih => simp only [List.cons_append, cutZ, ih]
theorem cutZ_pos (l : List Int) (x : Int) (h : x ≠ 0) : cutZ (l ++ [x]) = l ++ [x] := by
  induction l with
  | nil => simp [cutZ, h]
  | cons a l ih =>
    simp only [List.cons_append, cutZ, ih]
    cases l <;> simp
theorem cut1 : ∀ (n : Nat) (l : List Int), l.length = n → l.length ≤ 9223372036854775807 → nat_limbs_cut_1 l = some (cutZ l)
  | 0, l, h, _ => by
    obtain rfl : l = [] := List.eq_nil_of_length_eq_zero h
    rw [nat_limbs_cut_1_eq, decide_eq_false (by simp), cond_false, nat_limbs_cut_2_eq]; rfl
  | n + 1, l, h, hl => by
    obtain ⟨a, x, rfl⟩ : ∃ a x, l = a ++ [x] := ⟨l.dropLast, l.getLast (by rintro rfl; simp at h), (List.dropLast_concat_getLast _).symm⟩
    have ha : a.length = n := by simpa using h
    have hw : IntKind.i64.wrap ((((a ++ [x] : List Int).length : Nat) : Int) - 1) = (n : Int) := by rw [show ((((a ++ [x] : List Int).length : Nat) : Int) - 1) = (n : Int) by simp [ha]]; exact wrap64 (by omega) (by simp at hl; omega)
    rw [nat_limbs_cut_1_eq, decide_eq_true (show (((a ++ [x]).length : Nat) : Int) > 0 by rw [h]; omega), cond_true, hw, show (decide (0 ≤ (n : Int)) && decide ((n : Int) < ((a ++ [x]).length : Int))) = true by simp [ha]; omega, cond_true, Int.toNat_natCast,
      show (a ++ [x]).getD n 0 = x by rw [← ha]; simp, nat_limbs_cut_2_eq, hw, show (decide (0 ≤ (n : Int)) && decide ((n : Int) ≤ ((a ++ [x]).length : Int))) = true by simp [ha]; omega, cond_true, Int.toNat_natCast,
      show (a ++ [x]).take n = a by rw [← ha]; simp]
    by_cases hx : x = 0
    · subst hx
      rw [decide_eq_true rfl, cond_true, cut1 n a ha (by simp at hl; omega), cutZ_zero]
    · rw [decide_eq_false hx, cond_false, cutZ_pos a x hx]
theorem cut_ok {inv : World → Prop} (hi : ∀ w, inv w → MaxLen w) : CallT Tryd.prog 107 [.sl (.int .u32)] [.sl (.int .u32)] inv cutZF :=
  callT_of (C := CT) spec_ok (i := 107) (by kernel_rfl) (g := cutZF) (fun y r h => by
    obtain ⟨hc, rfl⟩ := cond_some h
    exact (nat_limbs_cut_eq y).trans (cut1 _ y rfl (of_decide_eq_true hc))) hi
theorem trim_ok {inv : World → Prop} (hi : ∀ w, inv w → MaxLen w) : CallT Tryd.prog 17 [.str] [.str] inv trimF :=
  callT_of (C := CT) spec_ok (i := 17) (by kernel_rfl) (g := trimF) (fun y r h => by
    obtain rfl := Option.some.inj h
    refine (nat_Trim_eq y).trans ?_
    have : strings_TrimLeft y [0] = some (Lib.trimLeftB y 0) := (top_call ..).trans rfl
    rw [this]; rfl) hi
end Go.Proofs.YtcdcijhfjiahkaaDoorR.B
