/- Part 8 of the proof: the machine, the tables and the pure laws that the last text joins. -/
import Derived.Test.YtenapomineinbaaGreatDoorZ7
/- Values: plain Lean; the program's and the reference's. -/
set_option linter.unusedVariables false
set_option linter.unusedSimpArgs false
namespace Go.Proofs.YtenapomineinbaaGreatDoor.D
open Go Go.Proofs.YtenapomineinbaaGreatDoor.K
open Go.Proofs.YtenapomineinbaaGreatDoor.P (nat val val_nat nat_zero nat_eq_nil nat_inj nat_one wS inC dv good dig dig_le decT decT_good decT_ne)
abbrev Vl := Int × (Bool × List UInt8 × List UInt8) × List UInt8 × Bool × Int
def eqV (v w : Vl) : Bool := (decide (v.1 = w.1)) && ((v.2.1.1 == w.2.1.1) && ((decide (v.2.1.2.1 = w.2.1.2.1)) && ((decide (v.2.1.2.2 = w.2.1.2.2)) && ((decide (v.2.2.1 = w.2.2.1)) && ((v.2.2.2.1 == w.2.2.2.1) && (decide (v.2.2.2.2 = w.2.2.2.2)))))))
theorem eqV_eq (v w : Vl) : eqV v w = decide (v = w) := by
  obtain ⟨a, ⟨b, c, d⟩, e, f, g⟩ := v
  obtain ⟨a', ⟨b', c', d'⟩, e', f', g'⟩ := w
  unfold eqV
  rw [Bool.eq_iff_iff]
  simp only [Bool.and_eq_true, decide_eq_true_eq, beq_iff_eq, Prod.mk.injEq]
  constructor
  · rintro ⟨h1, h2, h3, h4, h5, h6, h7⟩; exact ⟨h1, ⟨h2, h3, h4⟩, h5, h6, h7⟩
  · rintro ⟨h1, ⟨h2, h3, h4⟩, h5, h6, h7⟩; exact ⟨h1, h2, h3, h4, h5, h6, h7⟩
def blank : Vl := (0, (false, [], []), [], false, 0)
/-! ### which texts can be values -/
def pl1 (b : UInt8) : Bool := decide (32 ≤ b.toNat) && decide (b.toNat ≤ 126)
def plainV (s : List UInt8) : Bool := s.all pl1 && decide (s.length ≤ 200)
theorem all_drop {p : UInt8 → Bool} {s : List UInt8} {i : Nat} (h : i < s.length) : (s.drop i).all p = (p (s.getD i 0) && (s.drop (i + 1)).all p) := by rw [getD_drop h, List.all_cons]
theorem xPlain1 (s : List UInt8) (hs : s.length ≤ 9223372036854775807) : ∀ (m i : Nat), i + m = s.length → value_plain_1 s (s.map fun b => (b.toNat : Int)) ((s.map fun b => (b.toNat : Int)).length : Int) (i : Int) = some ((s.drop i).all pl1 && decide (s.length ≤ 200))
  | 0, i, h => by
    rw [value_plain_1_eq, cF (decide_eq_false (by rw [List.length_map]; omega)), List.drop_of_length_le (by omega)]
    exact congrArg some (decide_eq_decide.2 (by omega))
  | m + 1, i, h => by
    have hi : i < s.length := by omega
    have hg : (s.map fun b => (b.toNat : Int)).getD (i : Int).toNat 0 = ((s.getD i 0).toNat : Int) := by simp [List.getD, hi]
    have next : value_plain_2 s (s.map fun b => (b.toNat : Int)) ((s.map fun b => (b.toNat : Int)).length : Int) (i : Int) false = some ((s.drop (i + 1)).all pl1 && decide (s.length ≤ 200)) := by
      rw [value_plain_2_eq, cond_false, wS (by omega)]; exact xPlain1 s hs m (i + 1) (by omega)
    have stop : value_plain_2 s (s.map fun b => (b.toNat : Int)) ((s.map fun b => (b.toNat : Int)).length : Int) (i : Int) true = some false := by rw [value_plain_2_eq, cond_true]
    rw [value_plain_1_eq, cT (decide_eq_true (by rw [List.length_map]; omega)), cT (by rw [List.length_map]; exact ix hi), hg, all_drop hi]
    generalize s.getD i 0 = c
    by_cases h1 : c.toNat < 32
    · rw [cT (decide_eq_true (by omega)), stop, show pl1 c = false by unfold pl1; simp; omega]; rfl
    · rw [cF (decide_eq_false (by omega))]
      by_cases h2 : c.toNat > 126
      · rw [decide_eq_true (show (c.toNat : Int) > 126 by omega), stop, show pl1 c = false by unfold pl1; simp; omega]; rfl
      · rw [decide_eq_false (show ¬ (c.toNat : Int) > 126 by omega), next, show pl1 c = true by unfold pl1; simp; omega]; rfl
theorem xPlain (s : List UInt8) (hs : s.length ≤ 9223372036854775807) : value_plain s = some (plainV s) := (value_plain_eq s).trans (xPlain1 s hs s.length 0 (Nat.zero_add _))
theorem yPlain1 (s : List UInt8) (hs : s.length ≤ 200) : ∀ (m i : Nat), i + m = s.length → abacistref08_Plain_1 s (i : Int) = some ((s.drop i).all pl1)
  | 0, i, h => by
    rw [abacistref08_Plain_1_eq, cF (decide_eq_false (by omega)), List.drop_of_length_le (by omega)]; rfl
  | m + 1, i, h => by
    have hi : i < s.length := by omega
    have next : abacistref08_Plain_2 s (i : Int) false = some ((s.drop (i + 1)).all pl1) := by
      rw [abacistref08_Plain_2_eq, cond_false, wS (by omega)]; exact yPlain1 s hs m (i + 1) (by omega)
    have stop : abacistref08_Plain_2 s (i : Int) true = some false := by rw [abacistref08_Plain_2_eq, cond_true]
    rw [abacistref08_Plain_1_eq, cT (decide_eq_true (by omega)), cT (ix hi), cT (ix hi), Int.toNat_natCast, all_drop hi]
    generalize s.getD i 0 = c
    by_cases h1 : c.toNat < 32
    · rw [cT (decide_eq_true (by omega)), stop, show pl1 c = false by unfold pl1; simp; omega]; rfl
    · rw [cF (decide_eq_false (by omega))]
      by_cases h2 : c.toNat > 126
      · rw [decide_eq_true (show (c.toNat : Int) > 126 by omega), stop, show pl1 c = false by unfold pl1; simp; omega]; rfl
      · rw [decide_eq_false (show ¬ (c.toNat : Int) > 126 by omega), next, show pl1 c = true by unfold pl1; simp; omega]; rfl
theorem yPlain (s : List UInt8) : abacistref08_Plain s = some (plainV s) := by
  rw [abacistref08_Plain_eq]
  by_cases h : s.length ≤ 200
  · have := yPlain1 s h s.length 0 (Nat.zero_add _)
    rw [cF (decide_eq_false (by omega)), plainV, decide_eq_true h, Bool.and_true]; exact this
  · rw [cT (decide_eq_true (by omega)), plainV, decide_eq_false h, Bool.and_false]
/-! ### names of faults -/
def namesL : List (List UInt8) := [[], [35, 68, 73, 86, 47, 48, 33], [35, 86, 65, 76, 85, 69, 33], [35, 82, 69, 70, 33], [35, 78, 65, 77, 69, 63], [35, 78, 85, 77, 33], [35, 78, 47, 65], [35, 67, 73, 82, 67, 33]]
def isF (n : Int) : Bool := decide (1 ≤ n) && decide (n ≤ 7)
def nameV (n : Int) : List UInt8 := cond (isF n) (namesL.getD n.toNat []) []
theorem isF_cases {n : Int} (h : isF n = true) : n = 1 ∨ n = 2 ∨ n = 3 ∨ n = 4 ∨ n = 5 ∨ n = 6 ∨ n = 7 := by
  unfold isF at h
  simp at h
  omega
theorem isF_not {n : Int} (h : isF n = false) : n < 1 ∨ 7 < n := by
  unfold isF at h
  simp at h
  omega
theorem xName (n : Int) : value_Name n = some (nameV n) := by
  rw [value_Name_eq, value_Name_1_eq, nameV]
  by_cases h0 : n < 0
  · rw [cT (decide_eq_true h0), value_Name_2_eq, show isF n = false by unfold isF; simp; omega]; rfl
  · rw [cF (decide_eq_false h0), value_Name_2_eq]
    by_cases h8 : n ≥ 8
    · rw [cT (decide_eq_true h8), show isF n = false by unfold isF; simp; omega]; rfl
    · rw [cF (decide_eq_false h8), cT (by simp; omega)]
      by_cases hz : n = 0
      · subst hz; rfl
      · rw [show isF n = true by unfold isF; simp; omega]; rfl
theorem yName (n : Int) : abacistref08_Name n = some (nameV n) := by
  rw [abacistref08_Name_eq, nameV]
  simp only [abacistref08_Name_1_eq, abacistref08_names_eq, Option.bind_some]
  cases hf : isF n with
  | true => rcases isF_cases hf with h | h | h | h | h | h | h <;> subst h <;> rfl
  | false =>
    rcases isF_not hf with h | h
    · rw [cT (decide_eq_true h)]; rfl
    · rw [cF (decide_eq_false (by omega)), cT (decide_eq_true (by omega))]; rfl
def namedF (s : List UInt8) : Nat → Nat → Int × Bool
  | 0, _ => (0, false)
  | m + 1, i => if 0 < i ∧ namesL.getD i [] = s then ((i : Int), true) else namedF s m (i + 1)
theorem xNamed1 (s : List UInt8) : ∀ (m i : Nat), i + m = 8 → value_Named_2 s [] [35, 68, 73, 86, 47, 48, 33] [35, 86, 65, 76, 85, 69, 33] [35, 82, 69, 70, 33] [35, 78, 65, 77, 69, 63] [35, 78, 85, 77, 33] [35, 78, 47, 65] [35, 67, 73, 82, 67, 33] (i : Int) = some (namedF s m i)
  | 0, i, h => by rw [value_Named_2_eq, cF (decide_eq_false (by omega))]; rfl
  | m + 1, i, h => by
    have next : value_Named_3 s (i : Int) [] [35, 68, 73, 86, 47, 48, 33] [35, 86, 65, 76, 85, 69, 33] [35, 82, 69, 70, 33] [35, 78, 65, 77, 69, 63] [35, 78, 85, 77, 33] [35, 78, 47, 65] [35, 67, 73, 82, 67, 33] (i : Int) false = some (namedF s m (i + 1)) := by
      rw [value_Named_3_eq, cond_false, wS (by omega), xNamed1 s m (i + 1) (by omega)]
    rw [value_Named_2_eq, cT (decide_eq_true (by omega)), cT (by simp; omega), Int.toNat_natCast, namedF]
    by_cases h0 : 0 < i
    · rw [cT (decide_eq_true (by omega))]
      by_cases hs : namesL.getD i [] = s
      · rw [if_pos ⟨h0, hs⟩, decide_eq_true (show (([[], [35, 68, 73, 86, 47, 48, 33], [35, 86, 65, 76, 85, 69, 33], [35, 82, 69, 70, 33], [35, 78, 65, 77, 69, 63], [35, 78, 85, 77, 33], [35, 78, 47, 65], [35, 67, 73, 82, 67, 33]] : List (List UInt8)).getD i []) = s from hs), value_Named_3_eq, cond_true]
      · rw [if_neg (fun h => hs h.2), decide_eq_false (show ¬ (([[], [35, 68, 73, 86, 47, 48, 33], [35, 86, 65, 76, 85, 69, 33], [35, 82, 69, 70, 33], [35, 78, 65, 77, 69, 63], [35, 78, 85, 77, 33], [35, 78, 47, 65], [35, 67, 73, 82, 67, 33]] : List (List UInt8)).getD i []) = s from hs), next]
    · rw [cF (decide_eq_false (by omega)), if_neg (fun h => h0 h.1), next]
def namedV (s : List UInt8) : Int × Bool := namedF s 7 1
theorem xNamed (s : List UInt8) : value_Named s = some (namedV s) := by
  rw [value_Named_eq, value_Named_1_eq]
  exact xNamed1 s 8 0 rfl
theorem yNamed1 (s : List UInt8) : ∀ (m i : Nat), i + m = 8 → 1 ≤ i → abacistref08_Named_1 s (i : Int) = some (namedF s m i)
  | 0, i, h, _ => by rw [abacistref08_Named_1_eq, cF (decide_eq_false (by omega))]; rfl
  | m + 1, i, h, h1 => by
    rw [abacistref08_Named_1_eq, cT (decide_eq_true (by omega)), yName, Option.bind_some, nameV, show isF (i : Int) = true by unfold isF; simp; omega, cond_true, Int.toNat_natCast, namedF]
    by_cases hs : namesL.getD i [] = s
    · rw [if_pos ⟨by omega, hs⟩, cT (decide_eq_true hs)]
    · rw [if_neg (fun h => hs h.2), cF (decide_eq_false hs), wS (by omega), yNamed1 s m (i + 1) (by omega) (by omega)]
theorem yNamed (s : List UInt8) : abacistref08_Named s = some (namedV s) := (abacistref08_Named_eq s).trans (yNamed1 s 7 1 rfl (Nat.le_refl _))
theorem namedF_spec (s : List UInt8) : ∀ (m i : Nat), 1 ≤ i → i + m = 8 → (namedF s m i).2 = true → isF (namedF s m i).1 = true ∧ nameV (namedF s m i).1 = s
  | 0, i, _, _, h => by cases h
  | m + 1, i, h1, h8, h => by
    unfold namedF at h ⊢
    by_cases hs : 0 < i ∧ namesL.getD i [] = s
    · rw [if_pos hs]
      have hf : isF (i : Int) = true := by unfold isF; simp; omega
      exact ⟨hf, by unfold nameV; rw [hf, cond_true, Int.toNat_natCast]; exact hs.2⟩
    · rw [if_neg hs] at h ⊢
      exact namedF_spec s m (i + 1) (by omega) (by omega) h
theorem named_hash {s : List UInt8} (h : (namedV s).2 = true) : s.head? = some 35 := by
  obtain ⟨h1, h2⟩ := namedF_spec s 7 1 (Nat.le_refl _) rfl h
  rw [← h2]
  rcases isF_cases h1 with h | h | h | h | h | h | h <;> rw [h] <;> rfl
/-! ### values of their kinds -/
def vNum (r : Rt) : Vl := (1, well r, [], false, 0)
def vFault (n : Int) : Vl := (4, (false, [], []), [], false, cond (isF n) n 2)
def vText (s : List UInt8) : Vl := cond (plainV s) (2, (false, [], []), s, false, 0) (vFault 2)
def vTruth (b : Bool) : Vl := (3, (false, [], []), [], b, 0)
def vOf (r : Rt) (e : Int) : Vl := cond (decide (e = 0)) (vNum r) (cond (decide (e = 5)) (vFault 1) (vFault 5))
theorem xvNum (r : Rt) : value_Num r = some (vNum r) := by
  rw [value_Num_eq, xRight, Option.bind_some, xROf 0 (by omega) (by omega), Option.bind_some, vNum, well, show ofI 0 = (false, [], [1]) by unfold ofI; rw [Int.natAbs_zero, nat_zero]; rfl]
  simp only [value_Num_1_eq]
  cases right r <;> rfl
theorem yvNum (r : Rt) : abacistref08_Num r = some (vNum r) := by rw [abacistref08_Num_eq, yWell]; rfl
theorem nameV_nil (n : Int) : decide (nameV n = []) = !isF n := by
  unfold nameV
  cases hf : isF n with
  | true => rcases isF_cases hf with h | h | h | h | h | h | h <;> subst h <;> rfl
  | false => rfl
theorem xvFault (n : Int) : value_Fault n = some (vFault n) := by
  rw [value_Fault_eq, xName, Option.bind_some, nameV_nil, vFault]
  simp only [value_Fault_1_eq]
  cases isF n <;> rfl
theorem yvFault (n : Int) : abacistref08_Fault n = some (vFault n) := by
  rw [abacistref08_Fault_eq, vFault]
  simp only [abacistref08_Fault_1_eq, abacistref08_Fault_2_eq]
  cases hf : isF n with
  | true => rcases isF_cases hf with h | h | h | h | h | h | h <;> subst h <;> rfl
  | false =>
    rcases isF_not hf with h | h
    · rw [cT (decide_eq_true h)]; rfl
    · rw [cF (decide_eq_false (by omega)), decide_eq_true (show n > 7 by omega)]; rfl
theorem xvText (s : List UInt8) (hs : s.length ≤ 9223372036854775807) : value_Text s = some (vText s) := by
  rw [value_Text_eq, xPlain s hs, Option.bind_some, xvFault, Option.bind_some, vText]
  cases plainV s <;> rfl
theorem yvText (s : List UInt8) : abacistref08_Text s = some (vText s) := by
  rw [abacistref08_Text_eq, yPlain s, Option.bind_some, yvFault, Option.bind_some, vText]
  cases plainV s <;> rfl
theorem xvTruth (b : Bool) : value_Truth b = some (vTruth b) := value_Truth_eq b
theorem yvTruth (b : Bool) : abacistref08_Truth b = some (vTruth b) := abacistref08_Truth_eq b
theorem xvOf (r : Rt) (e : Int) : value_Of r e = some (vOf r e) := by
  rw [value_Of_eq, xvNum, xvFault, xvFault, vOf]
  cases decide (e = 0) <;> cases decide (e = 5) <;> rfl
theorem yvOf (r : Rt) (e : Int) : abacistref08_Of r e = some (vOf r e) := by
  rw [abacistref08_Of_eq, yvNum, yvFault, yvFault, vOf]
  cases decide (e = 0) <;> cases decide (e = 5) <;> rfl
/-! ### which values can be -/
def vRight (v : Vl) : Bool :=
  cond (decide (v.1 = 0)) (decide (v = blank)) (cond (decide (v.1 = 1)) (decide (v = vNum v.2.1)) (cond (decide (v.1 = 2)) (decide (v = vText v.2.2.1)) (cond (decide (v.1 = 3)) (decide (v = vTruth v.2.2.2.1)) (cond (decide (v.1 = 4)) (decide (v = vFault v.2.2.2.2)) false))))
theorem xvRight (v : Vl) (hs : v.2.2.1.length ≤ 9223372036854775807) : value_Right v = some (vRight v) := by
  rw [value_Right_eq, xvNum, xvText _ hs, xvTruth, xvFault, vRight]
  simp only [Option.bind_some]
  show cond _ (some (eqV v blank)) (cond _ (some (eqV v (vNum v.2.1))) (cond _ (some (eqV v (vText v.2.2.1))) (cond _ (some (eqV v (vTruth v.2.2.2.1))) (cond _ (some (eqV v (vFault v.2.2.2.2))) _)))) = _
  simp only [eqV_eq]
  cases decide (v.1 = 0) <;> cases decide (v.1 = 1) <;> cases decide (v.1 = 2) <;> cases decide (v.1 = 3) <;> cases decide (v.1 = 4) <;> rfl
theorem well_iff (r : Rt) : well r = r ↔ right r = true := by
  constructor
  · intro h; rw [← h]; exact right_well r
  · exact well_of_right
theorem yvRight (v : Vl) : abacistref08_Right v = some (vRight v) := by
  rw [abacistref08_Right_eq, yRight, yPlain, Option.bind_some, Option.bind_some, vRight]
  show cond _ (some (eqV v blank)) (cond _ (cond (right v.2.1) (some (eqV v (1, v.2.1, [], false, 0))) _) (cond _ (cond (plainV v.2.2.1) (some (eqV v (2, (false, [], []), v.2.2.1, false, 0))) _) (cond _ (some (eqV v (3, (false, [], []), [], v.2.2.2.1, 0))) (cond _ (cond _ (cond _ (some (eqV v (4, (false, [], []), [], false, v.2.2.2.2))) _) _) _)))) = _
  simp only [eqV_eq]
  by_cases h0 : v.1 = 0
  · rw [cT (decide_eq_true h0), cT (decide_eq_true h0)]
  rw [cF (decide_eq_false h0), cF (decide_eq_false h0)]
  by_cases h1 : v.1 = 1
  · rw [cT (decide_eq_true h1), cT (decide_eq_true h1)]
    cases hr : right v.2.1 with
    | true => rw [cond_true, vNum, well_of_right hr]
    | false =>
      rw [cond_false, decide_eq_false]
      intro h
      have h' := congrArg (fun x : Vl => x.2.1) h
      simp only [vNum] at h'
      rw [(well_iff _).1 h'.symm] at hr; cases hr
  rw [cF (decide_eq_false h1), cF (decide_eq_false h1)]
  by_cases h2 : v.1 = 2
  · rw [cT (decide_eq_true h2), cT (decide_eq_true h2)]
    cases hr : plainV v.2.2.1 with
    | true => rw [cond_true, vText, hr, cond_true]
    | false =>
      rw [cond_false, decide_eq_false]
      intro h
      have h' := congrArg (fun x : Vl => x.1) h
      simp only [vText, hr, cond_false, vFault] at h'
      omega
  rw [cF (decide_eq_false h2), cF (decide_eq_false h2)]
  by_cases h3 : v.1 = 3
  · rw [cT (decide_eq_true h3), cT (decide_eq_true h3)]; rfl
  rw [cF (decide_eq_false h3), cF (decide_eq_false h3)]
  by_cases h4 : v.1 = 4
  · rw [cT (decide_eq_true h4), cT (decide_eq_true h4)]
    cases hr : isF v.2.2.2.2 with
    | true =>
      have hr' := isF_cases hr
      rw [cT (decide_eq_true (by omega)), cT (decide_eq_true (by omega)), vFault, hr, cond_true]
    | false =>
      have hne : decide (v = vFault v.2.2.2.2) = false := by
        refine decide_eq_false fun h => ?_
        have h' := congrArg (fun x : Vl => x.2.2.2.2) h
        simp only [vFault, hr, cond_false] at h'
        rw [h'] at hr; cases hr
      rw [hne]
      rcases isF_not hr with h | h
      · rw [cF (decide_eq_false (by omega))]
      · rw [cT (decide_eq_true (by omega)), cF (decide_eq_false (by omega))]
  rw [cF (decide_eq_false h4), cF (decide_eq_false h4)]
/-! ### how they are seen -/
def textR (r : Rt) : List UInt8 := textF (well r).1 (val (well r).2.1) (val (well r).2.2)
theorem xTextR (r : Rt) : numtext_Text r = some (textR r) := by
  obtain ⟨s, n, d, e, f⟩ := well_form r
  rw [xTextN e f, textR, e]
  simp only [val_nat]
theorem yTextR (r : Rt) : abacistref07_Text r = some (textR r) := by
  obtain ⟨s, n, d, e, f⟩ := well_form r
  rw [yTextN e f, textR, e]
  simp only [val_nat]
def tTRUE : List UInt8 := [84, 82, 85, 69]
def tFALSE : List UInt8 := [70, 65, 76, 83, 69]
def vShow (v : Vl) : List UInt8 := cond (!vRight v) [] (cond (decide (v.1 = 1)) (textR v.2.1) (cond (decide (v.1 = 3)) (cond v.2.2.2.1 tTRUE tFALSE) (cond (decide (v.1 = 4)) (nameV v.2.2.2.2) v.2.2.1)))
theorem xvShow (v : Vl) (hs : v.2.2.1.length ≤ 9223372036854775807) : value_Show v = some (vShow v) := by
  rw [value_Show_eq, xvRight v hs, Option.bind_some, xTextR, xName, vShow]
  cases vRight v <;> cases decide (v.1 = 1) <;> cases decide (v.1 = 3) <;> cases v.2.2.2.1 <;> cases decide (v.1 = 4) <;> rfl
theorem right_kind {v : Vl} (h : vRight v = true) : v.1 = 0 ∨ v.1 = 1 ∨ v.1 = 2 ∨ v.1 = 3 ∨ v.1 = 4 := by
  by_cases h0 : v.1 = 0
  · exact .inl h0
  by_cases h1 : v.1 = 1
  · exact .inr (.inl h1)
  by_cases h2 : v.1 = 2
  · exact .inr (.inr (.inl h2))
  by_cases h3 : v.1 = 3
  · exact .inr (.inr (.inr (.inl h3)))
  by_cases h4 : v.1 = 4
  · exact .inr (.inr (.inr (.inr h4)))
  unfold vRight at h
  rw [decide_eq_false h0, decide_eq_false h1, decide_eq_false h2, decide_eq_false h3, decide_eq_false h4] at h
  cases h
theorem right0 {v : Vl} (h : vRight v = true) (hk : v.1 = 0) : v = blank := by
  unfold vRight at h
  rw [decide_eq_true hk] at h
  exact of_decide_eq_true h
theorem right1 {v : Vl} (h : vRight v = true) (hk : v.1 = 1) : v = vNum v.2.1 := by
  unfold vRight at h
  rw [decide_eq_false (show ¬ v.1 = 0 by omega), decide_eq_true hk] at h
  exact of_decide_eq_true h
theorem right2 {v : Vl} (h : vRight v = true) (hk : v.1 = 2) : v = vText v.2.2.1 := by
  unfold vRight at h
  rw [decide_eq_false (show ¬ v.1 = 0 by omega), decide_eq_false (show ¬ v.1 = 1 by omega), decide_eq_true hk] at h
  exact of_decide_eq_true h
theorem right3 {v : Vl} (h : vRight v = true) (hk : v.1 = 3) : v = vTruth v.2.2.2.1 := by
  unfold vRight at h
  rw [decide_eq_false (show ¬ v.1 = 0 by omega), decide_eq_false (show ¬ v.1 = 1 by omega), decide_eq_false (show ¬ v.1 = 2 by omega), decide_eq_true hk] at h
  exact of_decide_eq_true h
theorem right4 {v : Vl} (h : vRight v = true) (hk : v.1 = 4) : v = vFault v.2.2.2.2 := by
  unfold vRight at h
  rw [decide_eq_false (show ¬ v.1 = 0 by omega), decide_eq_false (show ¬ v.1 = 1 by omega), decide_eq_false (show ¬ v.1 = 2 by omega), decide_eq_false (show ¬ v.1 = 3 by omega), decide_eq_true hk] at h
  exact of_decide_eq_true h
theorem yvShow (v : Vl) : abacistref08_Show v = some (vShow v) := by
  rw [abacistref08_Show_eq, yvRight v, Option.bind_some, yTextR, yName, vShow]
  cases hr : vRight v with
  | false => rfl
  | true =>
    rcases right_kind hr with h | h | h | h | h <;> rw [h]
    · rw [right0 hr h]; rfl
    · rfl
    · rfl
    · cases v.2.2.2.1 <;> rfl
    · rfl
end Go.Proofs.YtenapomineinbaaGreatDoor.D

/- Texts of cells: plain Lean; the program's and the reference's; the two laws of values. -/
set_option linter.unusedVariables false
set_option linter.unusedSimpArgs false
namespace Go.Proofs.YtenapomineinbaaGreatDoor.D
open Go Go.Proofs.YtenapomineinbaaGreatDoor.K
open Go.Proofs.YtenapomineinbaaGreatDoor.P (nat val val_nat nat_zero nat_eq_nil nat_inj nat_one wS inC dv good dig dig_le decT decT_good decT_ne)
def litV (s : List UInt8) : Vl × Int :=
  cond (decide (s.length > 300)) (blank, 9) (cond (decide (s = [])) (blank, 0) (cond (decide (s = tTRUE) || decide (s = tFALSE)) (vTruth (decide (s = tTRUE)), 0)
    (cond (namedV s).2 (vFault (namedV s).1, 0) (cond (decide ((parseN s).2 = 0)) (vNum (parseN s).1, 0) (cond (plainV (preV 39 s).1) (vText (preV 39 s).1, 0) (blank, 10))))))
theorem xvLit (s : List UInt8) : value_Literal s = some (litV s) := by
  rw [value_Literal_eq, litV]
  by_cases hl : s.length > 300
  · rw [cT (decide_eq_true (by omega)), decide_eq_true hl]; rfl
  rw [cF (decide_eq_false (by omega)), cF (decide_eq_false hl)]
  by_cases h0 : s = []
  · rw [cT (decide_eq_true h0), cT (decide_eq_true h0)]; rfl
  rw [cF (decide_eq_false h0), cF (decide_eq_false h0)]
  have hp := pre_len 39 s
  have tail : value_Literal_1 s false blank = some (cond (namedV s).2 (vFault (namedV s).1, 0) (cond (decide ((parseN s).2 = 0)) (vNum (parseN s).1, 0) (cond (plainV (preV 39 s).1) (vText (preV 39 s).1, 0) (blank, 10)))) := by
    rw [value_Literal_1_eq, cond_false, xNamed, Option.bind_some, xvFault, Option.bind_some, xParseN s (by omega), Option.bind_some, xvNum, Option.bind_some, xPre, Option.bind_some, xPlain _ (by omega), Option.bind_some, xvText _ (by omega), Option.bind_some]
    cases (namedV s).2 <;> cases decide ((parseN s).2 = 0) <;> cases plainV (preV 39 s).1 <;> rfl
  have head : ∀ b, value_Literal_1 s true b = some (vTruth (decide (s = tTRUE)), 0) := by
    intro b
    rw [value_Literal_1_eq, cond_true, xvTruth]; rfl
  show cond (decide (s = tTRUE)) (value_Literal_1 s true blank) (value_Literal_1 s (decide (s = tFALSE)) blank) = _
  by_cases h1 : s = tTRUE
  · rw [cT (decide_eq_true h1), head, decide_eq_true h1]; rfl
  · rw [cF (decide_eq_false h1), decide_eq_false h1, Bool.false_or]
    by_cases h2 : s = tFALSE
    · rw [decide_eq_true h2, head, decide_eq_false h1]; rfl
    · rw [decide_eq_false h2, cond_false]
      exact tail
theorem yvLit (s : List UInt8) : abacistref08_Literal s = some (litV s) := by
  rw [abacistref08_Literal_eq, litV]
  by_cases hl : s.length > 300
  · rw [cT (decide_eq_true (by omega)), decide_eq_true hl]; rfl
  rw [cF (decide_eq_false (by omega)), cF (decide_eq_false hl)]
  by_cases h0 : s = []
  · rw [cT (decide_eq_true h0), cT (decide_eq_true h0)]; rfl
  rw [cF (decide_eq_false h0), cF (decide_eq_false h0)]
  have fin : ∀ t, abacistref08_Literal_2 t blank = some (cond (plainV t) (vText t, 0) (blank, 10)) := by
    intro t
    rw [abacistref08_Literal_2_eq, yPlain, Option.bind_some, yvText, Option.bind_some]
    cases plainV t <;> rfl
  have tail : abacistref08_Literal_1 s false blank = some (cond (namedV s).2 (vFault (namedV s).1, 0) (cond (decide ((parseN s).2 = 0)) (vNum (parseN s).1, 0) (cond (plainV (preV 39 s).1) (vText (preV 39 s).1, 0) (blank, 10)))) := by
    rw [abacistref08_Literal_1_eq, cond_false, yNamed, Option.bind_some, yvFault, Option.bind_some, yParseN s (by omega), Option.bind_some, yvNum, Option.bind_some]
    have e : cond (decide (0 ≤ 0) && decide (0 < (s.length : Int))) (cond (decide (((s.getD 0 0).toNat : Int) = 39)) (cond (decide (0 ≤ 1) && decide (1 ≤ (s.length : Int))) (abacistref08_Literal_2 (s.drop 1) blank) none) (abacistref08_Literal_2 s blank)) none = some (cond (plainV (preV 39 s).1) (vText (preV 39 s).1, 0) (blank, 10)) := by
      cases s with
      | nil => exact absurd rfl h0
      | cons b t =>
        rw [cT (by simp), List.getD_cons_zero, preV]
        by_cases hb : b = 39
        · subst hb
          rw [cT (by rfl), cT (by simp; omega), if_pos rfl]; exact fin t
        · rw [cF (decide_eq_false fun e => hb (UInt8.toNat_inj.1 (by show b.toNat = 39; omega))), if_neg hb]; exact fin _
    show cond (namedV s).2 _ (cond _ _ (cond (decide (0 ≤ 0) && decide (0 < (s.length : Int))) (cond (decide (((s.getD 0 0).toNat : Int) = 39)) (cond (decide (0 ≤ 1) && decide (1 ≤ (s.length : Int))) (abacistref08_Literal_2 (s.drop 1) blank) none) (abacistref08_Literal_2 s blank)) none)) = _
    rw [e]
    cases (namedV s).2 <;> cases decide ((parseN s).2 = 0) <;> rfl
  have head : ∀ b, abacistref08_Literal_1 s true b = some (vTruth (decide (s = tTRUE)), 0) := by
    intro b
    rw [abacistref08_Literal_1_eq, cond_true, yvTruth]; rfl
  show cond (decide (s = tTRUE)) (abacistref08_Literal_1 s true blank) (abacistref08_Literal_1 s (decide (s = tFALSE)) blank) = _
  by_cases h1 : s = tTRUE
  · rw [cT (decide_eq_true h1), head, decide_eq_true h1]; rfl
  · rw [cF (decide_eq_false h1), decide_eq_false h1, Bool.false_or]
    by_cases h2 : s = tFALSE
    · rw [decide_eq_true h2, head, decide_eq_false h1]; rfl
    · rw [decide_eq_false h2, cond_false]
      exact tail
theorem show_len (v : Vl) : (vShow v).length ≤ 200 := by
  unfold vShow
  cases hr : vRight v with
  | false => simp
  | true =>
    rcases right_kind hr with h | h | h | h | h
    · rw [right0 hr h]; simp [blank]
    · rw [h]
      obtain ⟨s, n, d, e, f⟩ := well_form v.2.1
      have := text_len f
      simp only [Bool.not_true, cond_false, decide_true, cond_true, textR, e, val_nat]
      omega
    · have hv := right2 hr h
      rw [h]
      simp only [Bool.not_true, cond_false]
      cases hp : plainV v.2.2.1 with
      | true =>
        unfold plainV at hp
        simp only [Bool.and_eq_true, decide_eq_true_eq] at hp
        exact hp.2
      | false =>
        rw [vText, hp, cond_false] at hv
        have := congrArg (fun x : Vl => x.1) hv
        simp only [vFault] at this
        omega
    · rw [h]
      cases v.2.2.2.1 <;> simp [tTRUE, tFALSE]
    · rw [h]
      simp only [Bool.not_true, cond_false]
      unfold nameV
      cases hf : isF v.2.2.2.2 with
      | false => simp
      | true => rcases isF_cases hf with h | h | h | h | h | h | h <;> rw [h] <;> simp [namesL]
def contV (v : Vl) : List UInt8 × Int :=
  cond (!vRight v) ([], 3) (cond (!decide (v.1 = 2)) (vShow v, 0) (cond (!(decide ((litV (vShow v)).2 = 0) && decide ((litV (vShow v)).1 = v)) || (preV 61 (vShow v)).2) (39 :: vShow v, 0) (vShow v, 0)))
theorem xCont1 (s : List UInt8) (b : Bool) (h : s.length ≤ 1000) : value_Content_1 s b = some (cond b (39 :: s, 0) (s, 0)) := by
  rw [value_Content_1_eq, cT (c := Nat.ble _ _) (Nat.ble_eq_true_of_le (by simp; omega))]
  cases b <;> rfl
theorem yCont1 (s : List UInt8) (b : Bool) (h : s.length ≤ 1000) : abacistref08_Content_1 s b = some (cond b (39 :: s, 0) (s, 0)) := by
  rw [abacistref08_Content_1_eq, cT (c := Nat.ble _ _) (Nat.ble_eq_true_of_le (by simp; omega))]
  cases b <;> rfl
theorem xvCont (v : Vl) (hs : v.2.2.1.length ≤ 9223372036854775807) : value_Content v = some (contV v) := by
  have hl := show_len v
  rw [value_Content_eq, xvRight v hs, Option.bind_some, xvShow v hs, Option.bind_some, xvLit, Option.bind_some, strings_HasPrefix_eq, hasPre, Option.bind_some, Option.bind_some, contV]
  show cond _ _ (cond _ _ (cond _ _ (cond (!eqV (litV (vShow v)).1 v) _ _))) = _
  rw [eqV_eq, xCont1 _ _ (by omega), xCont1 _ _ (by omega)]
  cases vRight v with
  | false => rfl
  | true =>
    cases hk : decide (v.1 = 2) with
    | false => rfl
    | true => cases decide ((litV (vShow v)).2 = 0) <;> cases decide ((litV (vShow v)).1 = v) <;> rfl
theorem yvCont (v : Vl) : abacistref08_Content v = some (contV v) := by
  have hl := show_len v
  rw [abacistref08_Content_eq, yvRight v, Option.bind_some, yvShow v, Option.bind_some, yvLit, Option.bind_some, contV]
  have e : cond (decide (((vShow v).length : Int) > 0)) (cond (decide (0 ≤ 0) && decide (0 < ((vShow v).length : Int))) (abacistref08_Content_1 (vShow v) (decide ((((vShow v).getD 0 0).toNat : Int) = 61))) none) (abacistref08_Content_1 (vShow v) false) = some (cond (preV 61 (vShow v)).2 (39 :: vShow v, 0) (vShow v, 0)) := by
    cases hs : vShow v with
    | nil => rw [cF (by rfl), yCont1 _ _ (by simp)]; rfl
    | cons b t =>
      rw [hs] at hl
      rw [cT (decide_eq_true (by rw [List.length_cons]; omega)), cT (by simp), yCont1 _ _ (by omega), List.getD_cons_zero, preV]
      by_cases hb : b = 61
      · subst hb; rw [if_pos rfl]; rfl
      · rw [decide_eq_false fun e => hb (UInt8.toNat_inj.1 (by show b.toNat = 61; omega)), if_neg hb]
  show cond _ _ (cond _ (cond _ _ (cond (!eqV (litV (vShow v)).1 v) _ (cond (decide (((vShow v).length : Int) > 0)) (cond (decide (0 ≤ 0) && decide (0 < ((vShow v).length : Int))) (abacistref08_Content_1 (vShow v) (decide ((((vShow v).getD 0 0).toNat : Int) = 61))) none) (abacistref08_Content_1 (vShow v) false)))) _) = _
  rw [e, eqV_eq, yCont1 _ _ (by omega), yCont1 _ _ (by omega)]
  cases vRight v with
  | false => rfl
  | true =>
    cases hk : decide (v.1 = 2) with
    | false => rfl
    | true => cases decide ((litV (vShow v)).2 = 0) <;> cases decide ((litV (vShow v)).1 = v) <;> cases (preV 61 (vShow v)).2 <;> rfl
/-! ### what is read can be -/
theorem right_num (r : Rt) : vRight (vNum r) = true := by
  unfold vRight vNum
  rw [well_well]
  simp
theorem right_fault {n : Int} (h : isF n = true) : vRight (vFault n) = true := by
  unfold vRight vFault
  rw [h]
  simp [h]
theorem right_truth (b : Bool) : vRight (vTruth b) = true := by
  unfold vRight vTruth
  simp
theorem right_text {s : List UInt8} (h : plainV s = true) : vRight (vText s) = true := by
  unfold vRight vText
  rw [h]
  simp [h]
theorem lit_right (s : List UInt8) : (litV s).2 = 0 → vRight (litV s).1 = true := by
  unfold litV
  cases decide (s.length > 300) with
  | true => intro h; cases h
  | false =>
    rw [cond_false]
    cases decide (s = []) with
    | true => intro _; rfl
    | false =>
      rw [cond_false]
      cases decide (s = tTRUE) || decide (s = tFALSE) with
      | true => intro _; exact right_truth _
      | false =>
        rw [cond_false]
        cases hn : (namedV s).2 with
        | true => intro _; exact right_fault (namedF_spec s 7 1 (Nat.le_refl _) rfl hn).1
        | false =>
          rw [cond_false]
          cases hp : decide ((parseN s).2 = 0) with
          | true => intro _; exact right_num _
          | false =>
            rw [cond_false]
            cases hq : plainV (preV 39 s).1 with
            | true => intro _; exact right_text hq
            | false => intro h; cases h
theorem not_named {s : List UInt8} {b : UInt8} (h : s.head? = some b) (hb : b ≠ 35) : (namedV s).2 = false := by
  cases hn : (namedV s).2 with
  | false => rfl
  | true => rw [named_hash hn] at h; cases h; exact absurd rfl hb
theorem head_ne {s t : List UInt8} {b c : UInt8} (h : s.head? = some b) (k : t.head? = some c) (hb : b ≠ c) : decide (s = t) = false := decide_eq_false fun e => by rw [e, k] at h; cases h; exact hb rfl
theorem head_nil {s : List UInt8} {b : UInt8} (h : s.head? = some b) : decide (s = []) = false := decide_eq_false fun e => by rw [e] at h; cases h
theorem text_head {s : Bool} {n d : Nat} (f : Fm s n d) : ∃ b, (textF s n d).head? = some b ∧ (b = 45 ∨ (48 ≤ b.toNat ∧ b.toNat ≤ 57)) := by
  have hdig : ∀ t : List UInt8, good t = true → t ≠ [] → ∃ b, t.head? = some b ∧ (b = 45 ∨ (48 ≤ b.toNat ∧ b.toNat ≤ 57)) := by
    intro t hg h0
    cases t with
    | nil => exact absurd rfl h0
    | cons b t => exact ⟨b, rfl, .inr (dig_le (good_mem hg (by simp)))⟩
  have happ : ∀ t u : List UInt8, t ≠ [] → (t ++ u).head? = t.head? := by
    intro t u h
    cases t with
    | nil => exact absurd rfl h
    | cons b t => rfl
  unfold textF
  cases s with
  | true => exact ⟨45, rfl, .inl rfl⟩
  | false =>
    rw [show (cond false [45] [] : List UInt8) = [] from rfl, List.nil_append]
    cases (endsN d).2 && decide ((endsN d).1 ≤ 20) with
    | false =>
      rw [cond_false, List.append_assoc, happ _ _ (decT_ne n)]
      exact hdig _ (decT_good n) (decT_ne n)
    | true =>
      rw [cond_true]
      unfold ptN
      split
      · exact hdig _ (decT_good _) (decT_ne _)
      · generalize hp : List.replicate ((endsN d).1 + 1 - (decT (n * 10 ^ (endsN d).1 / d)).length) 48 ++ decT (n * 10 ^ (endsN d).1 / d) = p
        have hgp : good p = true := by rw [← hp, good_append, good_zeros, decT_good]; rfl
        have hl : (endsN d).1 + 1 ≤ p.length := by rw [← hp]; simp; omega
        have n1 : p.take (p.length - (endsN d).1) ≠ [] := fun e => by have := congrArg List.length e; simp at this; omega
        rw [List.append_assoc, happ _ _ n1]
        exact hdig _ (good_take hgp _) n1
theorem lit_num (r : Rt) : litV (textR r) = (vNum r, 0) := by
  obtain ⟨s, n, d, e, f⟩ := well_form r
  have hl := text_len f
  have ht : textR r = textF s n d := by rw [textR, e]; simp only [val_nat]
  obtain ⟨b, hb, hb2⟩ := text_head f
  have n1 : b ≠ 84 := by rintro rfl; simp at hb2
  have n2 : b ≠ 70 := by rintro rfl; simp at hb2
  have n3 : b ≠ 35 := by rintro rfl; simp at hb2
  rw [ht, litV, decide_eq_false (by omega), head_nil hb, head_ne hb (show tTRUE.head? = some 84 from rfl) n1, head_ne hb (show tFALSE.head? = some 70 from rfl) n2, not_named hb n3, parse_text f]
  simp only [cond_false, Bool.or_false, decide_true, cond_true, vNum]
  rw [← e, well_well]
theorem lit_truth (b : Bool) : litV (cond b tTRUE tFALSE) = (vTruth b, 0) := by cases b <;> rfl
theorem named_name {n : Int} (h : isF n = true) : namedV (nameV n) = (n, true) := by
  rcases isF_cases h with h | h | h | h | h | h | h <;> subst h <;> decide
theorem lit_fault {n : Int} (h : isF n = true) : litV (nameV n) = (vFault n, 0) := by
  have hn := named_name h
  have hh : (nameV n).head? = some 35 := named_hash (by rw [hn])
  have hl : (nameV n).length ≤ 10 := by rcases isF_cases h with h | h | h | h | h | h | h <;> subst h <;> decide
  rw [litV, decide_eq_false (by omega), head_nil hh, head_ne hh (show tTRUE.head? = some 84 from rfl) (by decide), head_ne hh (show tFALSE.head? = some 70 from rfl) (by decide), hn]
  rfl
theorem not_parse (s : List UInt8) : decide ((parseN (39 :: s)).2 = 0) = false := by
  have hd : dig 39 = false := rfl
  have hg : ∀ t, good (39 :: t) = false := fun t => by unfold good; rw [List.all_cons, hd]; rfl
  have hb : (bodyV (39 :: s)).2 = 10 := by
    unfold bodyV
    cases hc : (cutV 47 (39 :: s)).2.2 with
    | true =>
      rw [cond_true]
      have : ∃ t, (cutV 47 (39 :: s)).1 = 39 :: t := by
        unfold cutV at hc ⊢
        simp only [pos] at hc ⊢
        rw [if_neg (by decide)] at hc ⊢
        cases hp : pos 47 s with
        | none => rw [hp] at hc; cases hc
        | some k => exact ⟨s.take k, by simp⟩
      obtain ⟨t, ht⟩ := this
      rw [fracV, ht, show parseV (39 :: t) = ([], 3) by rw [parseV, if_pos (.inr (hg t))]]
      rfl
    | false =>
      rw [cond_false, decV]
      have : ∃ t, (cutV 46 (39 :: s)).1 = 39 :: t := by
        unfold cutV
        simp only [pos]
        rw [if_neg (by decide)]
        cases hp : pos 46 s with
        | none => exact ⟨s, rfl⟩
        | some k => exact ⟨s.take k, by simp⟩
      obtain ⟨t, ht⟩ := this
      rw [ht, show dg (39 :: t) = false by unfold dg; rw [hg]; rfl]
      rfl
  have hp : preV 45 (39 :: s) = (39 :: s, false) := by rw [preV, if_neg (by decide)]
  rw [parseN, hp]
  simp only
  rw [Bool.and_false, cond_false, hb]; rfl
theorem lit_quote {s : List UInt8} (h : plainV s = true) : litV (39 :: s) = (vText s, 0) := by
  have hl : s.length ≤ 200 := by
    unfold plainV at h
    simp only [Bool.and_eq_true, decide_eq_true_eq] at h
    exact h.2
  have hh : (39 :: s).head? = some 39 := rfl
  rw [litV, decide_eq_false (by simp; omega), head_nil hh, head_ne hh (show tTRUE.head? = some 84 from rfl) (by decide), head_ne hh (show tFALSE.head? = some 70 from rfl) (by decide), not_named hh (by decide), not_parse, show preV 39 (39 :: s) = (s, true) from rfl]
  simp only [h, cond_false, cond_true, Bool.or_false]
theorem cont_lit {v : Vl} (hr : vRight v = true) : litV (contV v).1 = (v, 0) := by
  have hs : vShow v = cond (decide (v.1 = 1)) (textR v.2.1) (cond (decide (v.1 = 3)) (cond v.2.2.2.1 tTRUE tFALSE) (cond (decide (v.1 = 4)) (nameV v.2.2.2.2) v.2.2.1)) := by unfold vShow; rw [hr]; rfl
  rw [contV, hr, Bool.not_true, cond_false]
  rcases right_kind hr with h | h | h | h | h
  · rw [h]
    simp only [show (!decide ((0 : Int) = 2)) = true from rfl, cond_true]
    rw [hs, h, right0 hr h]; rfl
  · rw [h]
    simp only [show (!decide ((1 : Int) = 2)) = true from rfl, cond_true]
    rw [hs, h]
    simp only [decide_true, cond_true]
    rw [lit_num, ← right1 hr h]
  · rw [h]
    have hv := right2 hr h
    have hp : plainV v.2.2.1 = true := by
      cases hp : plainV v.2.2.1 with
      | true => rfl
      | false =>
        rw [vText, hp, cond_false] at hv
        have := congrArg (fun x : Vl => x.1) hv
        simp only [vFault] at this
        omega
    have hs2 : vShow v = v.2.2.1 := by rw [hs, h]; rfl
    simp only [decide_true, Bool.not_true, cond_false]
    cases hl : decide ((litV (vShow v)).2 = 0) && decide ((litV (vShow v)).1 = v) with
    | true =>
      simp only [Bool.and_eq_true, decide_eq_true_eq] at hl
      rw [Bool.not_true, Bool.false_or]
      cases (preV 61 (vShow v)).2 with
      | false =>
        rw [cond_false]
        exact Prod.ext hl.2 hl.1
      | true =>
        rw [cond_true]
        simp only
        rw [hs2, lit_quote hp, ← hv]
    | false =>
      rw [Bool.not_false, Bool.true_or, cond_true]
      simp only
      rw [hs2, lit_quote hp, ← hv]
  · rw [h]
    simp only [show (!decide ((3 : Int) = 2)) = true from rfl, cond_true]
    rw [hs, h]
    simp only [show decide ((3 : Int) = 1) = false from rfl, cond_false, decide_true, cond_true]
    rw [lit_truth, ← right3 hr h]
  · rw [h]
    have hv := right4 hr h
    have hf : isF v.2.2.2.2 = true := by
      cases hf : isF v.2.2.2.2 with
      | true => rfl
      | false =>
        have := congrArg (fun x : Vl => x.2.2.2.2) hv
        simp only [vFault, hf, cond_false] at this
        rw [this] at hf; cases hf
    simp only [show (!decide ((4 : Int) = 2)) = true from rfl, cond_true]
    rw [hs, h]
    simp only [show decide ((4 : Int) = 1) = false from rfl, show decide ((4 : Int) = 3) = false from rfl, cond_false, decide_true, cond_true]
    rw [lit_fault hf, ← hv]
/-! ### the laws -/
theorem knownV : abacistlaw08_known = some true := of_depth 400 (by kernel_rfl)
theorem eqV_self (v : Vl) : eqV v v = true := by rw [eqV_eq]; exact decide_eq_true rfl
theorem makes8 (r : Rt) (s : List UInt8) (n : Int) (v : Vl) (hs : s.length ≤ 9223372036854775807) (hv : v.2.2.1.length ≤ 9223372036854775807) : abacistlaw08_ValueMakes r s n v = some true := by
  rw [abacistlaw08_ValueMakes_eq]
  by_cases hl : (s.length : Int) > 500
  · rw [cT (decide_eq_true hl), knownV]; rfl
  · simp only [xNamed, yNamed, xvNum, yvNum, xvText s hs, yvText, xvTruth, yvTruth, xvFault, yvFault, xvOf, yvOf, xName, yName, xvRight v hv, yvRight, xvShow v hv, yvShow, knownV, Option.bind_some, beq_self_eq_true, decide_true, Bool.true_and, cond_true, hl, decide_false, cond_false]
    rw [xvOf, Option.bind_some, yvOf, Option.bind_some]
    simp only [xName, yName, xvRight v hv, yvRight, xvShow v hv, yvShow, knownV, Option.bind_some, beq_self_eq_true, decide_true, Bool.true_and, cond_true]
theorem lits8 (s : List UInt8) (v : Vl) (hv : v.2.2.1.length ≤ 9223372036854775807) : abacistlaw08_ValueLiterals s v = some true := by
  rw [abacistlaw08_ValueLiterals_eq]
  by_cases hl : (s.length : Int) > 500
  · rw [cT (decide_eq_true hl), knownV]; rfl
  · have fin : abacistlaw08_ValueLiterals_1 (contV v).1 (contV v).2 false v = some true := by
      rw [abacistlaw08_ValueLiterals_1_eq, cond_false, xvLit, Option.bind_some]
      cases hr : vRight v with
      | false =>
        have : (contV v).2 = 3 := by rw [contV, hr]; rfl
        rw [this, knownV]; rfl
      | true =>
        rw [cont_lit hr, knownV]
        show cond _ _ (cond (eqV v v) _ _) = _
        rw [eqV_self]
        cases decide ((contV v).2 = 0) <;> rfl
    have hr : (litV s).2 = 0 → value_Right (litV s).1 = some true := fun h => by
      have h1 := lit_right s h
      have h2 := show_len (litV s).1
      rw [xvRight, h1]
      rcases right_kind h1 with k | k | k | k | k
      · rw [right0 h1 k]; simp [blank]
      · rw [right1 h1 k]; simp [vNum]
      · have : vShow (litV s).1 = (litV s).1.2.2.1 := by unfold vShow; rw [h1, k]; rfl
        rw [← this]; omega
      · rw [right3 h1 k]; simp [vTruth]
      · rw [right4 h1 k]; simp [vFault]
    rw [cF (decide_eq_false hl), xvLit, Option.bind_some, yvLit, Option.bind_some, xvCont v hv, Option.bind_some, yvCont, Option.bind_some]
    show cond (!eqV (litV s).1 (litV s).1) _ _ = _
    rw [eqV_self, Bool.not_true, cond_false, cF (by rw [decide_eq_true rfl]; rfl), cF (by rw [decide_eq_true rfl]; rfl), cF (by rw [decide_eq_true rfl]; rfl)]
    by_cases h : (litV s).2 = 0
    · rw [cT (decide_eq_true h), hr h, Option.bind_some]; exact fin
    · rw [cF (decide_eq_false h)]; exact fin
end Go.Proofs.YtenapomineinbaaGreatDoor.D
namespace Go.Proofs.YtenapomineinbaaGreatDoor.K
open Go
theorem ValueMakes (r : Bool × List UInt8 × List UInt8) (_ : Wf (.pair .bool (.pair .str .str)) r) (s : List UInt8) (hs : Wf .str s) (n : Int) (_ : Wf (.int .i64) n) (v : Int × (Bool × List UInt8 × List UInt8) × List UInt8 × Bool × Int) (hv : Wf (.pair (.int .i64) (.pair (.pair .bool (.pair .str .str)) (.pair .str (.pair .bool (.int .i64))))) v) : abacistlaw08_ValueMakes r s n v = some true := by
  have h1 : s.length ≤ maxLen := hs
  have h2 : v.2.2.1.length ≤ maxLen := hv.2.2.1
  exact D.makes8 r s n v (by unfold maxLen at h1; omega) (by unfold maxLen at h2; omega)
theorem ValueLiterals (s : List UInt8) (_ : Wf .str s) (v : Int × (Bool × List UInt8 × List UInt8) × List UInt8 × Bool × Int) (hv : Wf (.pair (.int .i64) (.pair (.pair .bool (.pair .str .str)) (.pair .str (.pair .bool (.int .i64))))) v) : abacistlaw08_ValueLiterals s v = some true := by
  have h2 : v.2.2.1.length ≤ maxLen := hv.2.2.1
  exact D.lits8 s v (by unfold maxLen at h2; omega)
end Go.Proofs.YtenapomineinbaaGreatDoor.K

/- Values as others: plain Lean; the program's and the reference's; two of the laws. -/
set_option linter.unusedVariables false
set_option linter.unusedSimpArgs false
namespace Go.Proofs.YtenapomineinbaaGreatDoor.D
open Go Go.Proofs.YtenapomineinbaaGreatDoor.K
open Go.Proofs.YtenapomineinbaaGreatDoor.P (nat val val_nat nat_zero nat_eq_nil nat_inj nat_one wS inC dv good dig dig_le decT decT_good decT_ne)
def cFault (v : Vl) : Int := cond (vRight v) v.2.2.2.2 2
theorem right_len {v : Vl} (h : vRight v = true) : v.2.2.1.length ≤ 200 := by
  have h2 := show_len v
  rcases right_kind h with k | k | k | k | k
  · rw [right0 h k]; simp [blank]
  · rw [right1 h k]; simp [vNum]
  · have : vShow v = v.2.2.1 := by unfold vShow; rw [h, k]; rfl
    rw [← this]; omega
  · rw [right3 h k]; simp [vTruth]
  · rw [right4 h k]; simp [vFault]
theorem xcFault (v : Vl) (hs : v.2.2.1.length ≤ 9223372036854775807) : coerce_cell_fault v = some (cFault v) := by
  rw [coerce_cell_fault_eq, xvRight v hs, Option.bind_some, cFault]
  cases vRight v <;> rfl
theorem ycFault (v : Vl) : abacistref09_fault v = some (cFault v) := by
  rw [abacistref09_fault_eq, yvRight v, Option.bind_some, cFault]
  cases vRight v <;> rfl
theorem fault_right {v : Vl} (h : cFault v = 0) : vRight v = true := by
  unfold cFault at h
  cases hr : vRight v with
  | true => rfl
  | false => rw [hr] at h; cases h
theorem fault_kind {v : Vl} (h : cFault v = 0) : v = blank ∨ v = vNum v.2.1 ∨ (v = vText v.2.2.1 ∧ plainV v.2.2.1 = true ∧ v.1 = 2) ∨ v = vTruth v.2.2.2.1 := by
  have hr := fault_right h
  rcases right_kind hr with k | k | k | k | k
  · exact .inl (right0 hr k)
  · exact .inr (.inl (right1 hr k))
  · refine .inr (.inr (.inl ⟨right2 hr k, ?_, k⟩))
    cases hp : plainV v.2.2.1 with
    | true => rfl
    | false =>
      have hv := right2 hr k
      rw [vText, hp, cond_false] at hv
      have := congrArg (fun x : Vl => x.1) hv
      simp only [vFault] at this
      omega
  · exact .inr (.inr (.inr (right3 hr k)))
  · exfalso
    have hv := right4 hr k
    unfold cFault at h
    rw [hr, cond_true] at h
    have := congrArg (fun x : Vl => x.2.2.2.2) hv
    simp only [vFault] at this
    rw [h, show isF 0 = false from rfl, cond_false] at this
    cases this
def numV (v : Vl) : Rt × Int :=
  cond (!decide (cFault v = 0)) (z0, cFault v) (cond (decide (v.1 = 1)) (v.2.1, 0) (cond (decide (v.1 = 2)) (cond (!decide ((parseN v.2.2.1).2 = 0)) (z0, 2) ((parseN v.2.2.1).1, 0)) (ofI (cond v.2.2.2.1 1 0), 0)))
theorem xcNum (v : Vl) (hs : v.2.2.1.length ≤ 9223372036854775807) : coerce_Num v = some (numV v) := by
  rw [coerce_Num_eq, xcFault v hs, Option.bind_some, numV]
  by_cases h : cFault v = 0
  · have hl := right_len (fault_right h)
    simp only [h, decide_true, Bool.not_true, cond_false]
    rw [xParseN _ (by omega), Option.bind_some, coerce_bit_eq]
    have e : (cond v.2.2.2.1 (some 1) (some 0) : Option Int).bind (fun v3 => (rat_Of v3).bind fun v4 => some (v4, (0 : Int))) = some (ofI (cond v.2.2.2.1 1 0), 0) := by
      cases v.2.2.2.1
      · show (rat_Of 0).bind _ = _
        rw [xROf 0 (by omega) (by omega)]; rfl
      · show (rat_Of 1).bind _ = _
        rw [xROf 1 (by omega) (by omega)]; rfl
    rw [e]
    cases decide (v.1 = 1) <;> cases decide (v.1 = 2) <;> cases decide ((parseN v.2.2.1).2 = 0) <;> rfl
  · rw [cT (by rw [decide_eq_false h]; rfl), cT (by rw [decide_eq_false h]; rfl)]; rfl
theorem ycNum (v : Vl) : abacistref09_Num v = some (numV v) := by
  rw [abacistref09_Num_eq, ycFault v, Option.bind_some, Option.bind_some, numV]
  by_cases h : cFault v = 0
  · have hl := right_len (fault_right h)
    simp only [h, decide_true, Bool.not_true, cond_false]
    rw [yParseN _ (by omega), Option.bind_some, yROf 0 (by omega) (by omega), yROf 1 (by omega) (by omega)]
    rcases fault_kind h with k | k | ⟨k, _, k2⟩ | k
    · rw [k]; rfl
    · rw [k]; rfl
    · rw [k2]
      cases decide ((parseN v.2.2.1).2 = 0) <;> rfl
    · rw [k]; cases v.2.2.2.1 <;> rfl
  · rw [cT (by rw [decide_eq_false h]; rfl), cT (by rw [decide_eq_false h]; rfl)]; rfl
def ctextV (v : Vl) : List UInt8 × Int := cond (!decide (cFault v = 0)) ([], cFault v) (vShow v, 0)
theorem xcText (v : Vl) (hs : v.2.2.1.length ≤ 9223372036854775807) : coerce_Text v = some (ctextV v) := by
  rw [coerce_Text_eq, xcFault v hs, Option.bind_some, xvShow v hs, ctextV]
  cases decide (cFault v = 0) <;> rfl
theorem ycText (v : Vl) : abacistref09_Text v = some (ctextV v) := by
  rw [abacistref09_Text_eq, ycFault v, Option.bind_some, Option.bind_some, yvShow v, ctextV]
  cases decide (cFault v = 0) <;> rfl
def truthV (v : Vl) : Bool × Int :=
  cond (!decide (cFault v = 0)) (false, cFault v) (cond (decide (v.1 = 1)) (!decide (signR (well v.2.1) = 0), 0) (cond (decide (v.1 = 2)) (cond (decide (v.2.2.1 = tTRUE) || decide (v.2.2.1 = tFALSE)) (decide (v.2.2.1 = tTRUE), 0) (false, 2)) (v.2.2.2.1, 0)))
theorem lit_truth_kind {s : List UInt8} (hl : s.length ≤ 300) : (decide ((litV s).2 = 0) && decide ((litV s).1.1 = 3)) = (decide (s = tTRUE) || decide (s = tFALSE)) := by
  unfold litV
  rw [decide_eq_false (by omega : ¬ s.length > 300), cond_false]
  by_cases h0 : s = []
  · subst h0; rfl
  · rw [decide_eq_false h0, cond_false]
    cases decide (s = tTRUE) || decide (s = tFALSE) with
    | true => rfl
    | false =>
      rw [cond_false]
      cases (namedV s).2 with
      | true => rfl
      | false =>
        rw [cond_false]
        cases decide ((parseN s).2 = 0) with
        | true => rfl
        | false =>
          rw [cond_false]
          cases hp : plainV (preV 39 s).1 with
          | true => rw [cond_true, vText, hp]; rfl
          | false => rfl
theorem xcTruth (v : Vl) (hs : v.2.2.1.length ≤ 9223372036854775807) : coerce_Truth v = some (truthV v) := by
  rw [coerce_Truth_eq, xcFault v hs, Option.bind_some, truthV]
  by_cases h : cFault v = 0
  · have hl := right_len (fault_right h)
    have hk := lit_truth_kind (s := v.2.2.1) (by omega)
    simp only [h, decide_true, Bool.not_true, cond_false]
    rw [xSign, Option.bind_some, xvLit, Option.bind_some, ← hk]
    simp only [coerce_Truth_1_eq]
    cases decide (v.1 = 1) <;> cases decide (v.1 = 2) <;> cases decide ((litV v.2.2.1).2 = 0) <;> cases decide ((litV v.2.2.1).1.1 = 3) <;> rfl
  · rw [cT (by rw [decide_eq_false h]; rfl), cT (by rw [decide_eq_false h]; rfl)]
theorem ycTruth (v : Vl) : abacistref09_Truth v = some (truthV v) := by
  rw [abacistref09_Truth_eq, ycFault v, Option.bind_some, Option.bind_some, truthV, ySign, Option.bind_some]
  simp only [abacistref09_Truth_1_eq]
  show cond _ _ (cond _ _ (cond _ (cond (!decide (v.2.2.1 = tTRUE)) (cond (!decide (v.2.2.1 = tFALSE)) _ (some (decide (v.2.2.1 = tTRUE), 0))) (cond false _ (some (decide (v.2.2.1 = tTRUE), 0)))) _)) = _
  cases decide (cFault v = 0) <;> cases decide (v.1 = 1) <;> cases decide (v.1 = 2) <;> cases decide (v.2.2.1 = tTRUE) <;> cases decide (v.2.2.1 = tFALSE) <;> rfl
/-! ### a number, as a text, is that number again -/
theorem plain_dig {c : UInt8} (h : dig c = true) : pl1 c = true := by
  have := dig_le h
  unfold pl1
  simp; omega
theorem plain_good {s : List UInt8} (h : good s = true) : s.all pl1 = true := List.all_eq_true.2 fun x hx => plain_dig (good_mem h hx)
theorem plain_textF {s : Bool} {n d : Nat} (f : Fm s n d) : plainV (textF s n d) = true := by
  have hl := text_len f
  unfold plainV
  rw [decide_eq_true (show (textF s n d).length ≤ 200 by omega), Bool.and_true]
  unfold textF
  rw [List.all_append]
  have h1 : (cond s [45] [] : List UInt8).all pl1 = true := by cases s <;> rfl
  rw [h1, Bool.true_and]
  cases (endsN d).2 && decide ((endsN d).1 ≤ 20) with
  | false =>
    rw [cond_false, List.all_append, List.all_append, plain_good (decT_good n), plain_good (decT_good d)]; rfl
  | true =>
    rw [cond_true]
    unfold ptN
    split
    · exact plain_good (decT_good _)
    · generalize hp : List.replicate ((endsN d).1 + 1 - (decT (n * 10 ^ (endsN d).1 / d)).length) 48 ++ decT (n * 10 ^ (endsN d).1 / d) = p
      have hgp : good p = true := by rw [← hp, good_append, good_zeros, decT_good]; rfl
      rw [List.all_append, List.all_append, plain_good (good_take hgp _), plain_good (good_dropT hgp _)]; rfl
theorem num_text (r : Rt) : numV (vText (textR r)) = (well r, 0) := by
  obtain ⟨s, n, d, e, f⟩ := well_form r
  have ht : textR r = textF s n d := by rw [textR, e]; simp only [val_nat]
  have hp := plain_textF f
  have hr := right_text hp
  have hv : vText (textF s n d) = (2, (false, [], []), textF s n d, false, 0) := by rw [vText, hp]; rfl
  have hf : cFault (vText (textF s n d)) = 0 := by unfold cFault; rw [hr, hv]; rfl
  rw [ht, numV, hf, hv]
  simp only [decide_true, Bool.not_true, cond_false, show decide ((2 : Int) = 1) = false from rfl, cond_true]
  rw [parse_text f, e]; rfl
def eqR (a b : Rt) : Bool := (a.1 == b.1) && ((decide (a.2.1 = b.2.1)) && (decide (a.2.2 = b.2.2)))
theorem eqR_self (a : Rt) : eqR a a = true := by simp [eqR]
theorem known9 : abacistlaw09_known = some true := of_depth 400 (by kernel_rfl)
theorem one9 (v : Vl) : abacistlaw09_CoerceOne v = some true := by
  have out : abacistlaw09_CoerceOne_1 true v = some true := by rw [abacistlaw09_CoerceOne_1_eq, cond_true, known9]; rfl
  rw [abacistlaw09_CoerceOne_eq]
  by_cases h1 : (v.2.2.1.length : Int) > 1000
  · rw [cT (decide_eq_true h1), out]
  rw [cF (decide_eq_false h1)]
  by_cases h2 : (v.2.1.2.1.length : Int) > 100
  · rw [cT (decide_eq_true h2), out]
  rw [cF (decide_eq_false h2)]
  by_cases h3 : (v.2.1.2.2.length : Int) > 100
  · rw [decide_eq_true h3, out]
  rw [decide_eq_false h3, abacistlaw09_CoerceOne_1_eq, cond_false, xcNum v (by omega), Option.bind_some, ycNum, Option.bind_some, xcText v (by omega), Option.bind_some, ycText, Option.bind_some, xcTruth v (by omega), Option.bind_some, ycTruth, Option.bind_some]
  show cond (!eqR (numV v).1 (numV v).1) _ _ = _
  rw [eqR_self, Bool.not_true, cond_false, cF (by rw [decide_eq_true rfl]; rfl), cF (by rw [decide_eq_true rfl]; rfl), cF (by rw [decide_eq_true rfl]; rfl), cF (by simp), decide_eq_true rfl, Bool.not_true, abacistlaw09_CoerceOne_2_eq, cond_false]
  have out3 : ∀ s, abacistlaw09_CoerceOne_3 s true v = some true := fun s => by rw [abacistlaw09_CoerceOne_3_eq, cond_true, known9]; rfl
  by_cases hk : v.1 = 1
  · rw [cF (by rw [decide_eq_true hk]; rfl)]
    by_cases hf : cFault v = 0
    · have hv := right1 (fault_right hf) hk
      have ht : ctextV v = (textR v.2.1, 0) := by
        rw [ctextV, hf]
        simp only [decide_true, Bool.not_true, cond_false]
        unfold vShow
        rw [fault_right hf, hk]; rfl
      have hw : well v.2.1 = v.2.1 := by
        have := congrArg (fun x : Vl => x.2.1) hv
        simp only [vNum] at this
        exact this.symm
      obtain ⟨s, n, d, e, f⟩ := well_form v.2.1
      have htf : textR v.2.1 = textF s n d := by rw [textR, e]; simp only [val_nat]
      have hlt : (vText (textR v.2.1)).2.2.1.length ≤ 200 := right_len (right_text (by rw [htf]; exact plain_textF f))
      rw [ht]
      simp only [decide_true, Bool.not_true]
      rw [abacistlaw09_CoerceOne_3_eq, cond_false, yvText, Option.bind_some, xcNum _ (by omega), Option.bind_some, num_text, hw]
      show cond (eqR v.2.1 v.2.1) _ _ = _
      rw [eqR_self, known9]; rfl
    · have : (ctextV v).2 = cFault v := by rw [ctextV, decide_eq_false hf]; rfl
      rw [this, decide_eq_false hf, Bool.not_false, out3]
  · rw [cT (by rw [decide_eq_false hk]; rfl), out3]
/-! ### order -/
def likeV (v : Vl) (k : Int) : Vl := cond (!decide (v.1 = 0)) v (cond (decide (k = 1)) (vNum (ofI 0)) (cond (decide (k = 2)) (vText []) (cond (decide (k = 3)) (vTruth false) v)))
theorem xLike (v : Vl) (k : Int) : coerce_like v k = some (likeV v k) := by
  rw [coerce_like_eq, xROf 0 (by omega) (by omega), Option.bind_some, xvNum, xvText _ (by simp), xvTruth, likeV]
  cases decide (v.1 = 0) <;> cases decide (k = 1) <;> cases decide (k = 2) <;> cases decide (k = 3) <;> rfl
theorem cmp_well (a b : Rt) : cmpR (well a) (well b) = cmpR a b := by unfold cmpR; rw [well_well, well_well]
theorem fault_num (r : Rt) : cFault (vNum r) = 0 := by unfold cFault; rw [right_num]; rfl
theorem numbers9 (a b : Rt) : abacistlaw09_CoerceNumbers a b = some true := by
  have hl : ∀ r, likeV (vNum r) 1 = vNum r := fun r => rfl
  have hc : coerce_Cmp (vNum a) (vNum b) = some (cmpR a b, 0) := by
    rw [coerce_Cmp_eq, coerce_Cmp_1_eq]
    show (coerce_cell_fault (vNum a)).bind (fun v1 => cond (!decide (v1 = 0)) _ ((coerce_cell_fault (vNum b)).bind _)) = _
    rw [xcFault _ (by simp [vNum]), Option.bind_some, fault_num, xcFault _ (by simp [vNum]), Option.bind_some, fault_num]
    show coerce_Cmp_2 0 (vNum a) (vNum b) = _
    rw [coerce_Cmp_2_eq]
    show (coerce_like (vNum a) 1).bind (fun v1 => (coerce_like (vNum b) 1).bind _) = _
    rw [xLike, Option.bind_some, xLike, Option.bind_some, hl, hl]
    show (rat_Cmp (well a) (well b)).bind _ = _
    rw [xRCmp, cmp_well]; rfl
  rw [abacistlaw09_CoerceNumbers_eq, yvNum, Option.bind_some, yvNum, Option.bind_some, hc, Option.bind_some, yRCmp, Option.bind_some, cT (decide_eq_true rfl), known9]; rfl
end Go.Proofs.YtenapomineinbaaGreatDoor.D
namespace Go.Proofs.YtenapomineinbaaGreatDoor.K
open Go
theorem CoerceOne (v : Int × (Bool × List UInt8 × List UInt8) × List UInt8 × Bool × Int) (_ : Wf (.pair (.int .i64) (.pair (.pair .bool (.pair .str .str)) (.pair .str (.pair .bool (.int .i64))))) v) : abacistlaw09_CoerceOne v = some true := D.one9 v
theorem CoerceNumbers (a : Bool × List UInt8 × List UInt8) (_ : Wf (.pair .bool (.pair .str .str)) a) (b : Bool × List UInt8 × List UInt8) (_ : Wf (.pair .bool (.pair .str .str)) b) : abacistlaw09_CoerceNumbers a b = some true := D.numbers9 a b
end Go.Proofs.YtenapomineinbaaGreatDoor.K
