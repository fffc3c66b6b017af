/- Part 9 of the proof: the machine, the tables and the pure laws that the last text joins. -/
import Derived.Test.YtenapomineinbaaGreatDoorZ8
import Derived.Test.YtenapomineinbaaGreatDoorZ4
import Derived.Test.YtenapomineinbaaGreatDoorZ6
/- Numbers in digits, and as texts: plain Lean; the program's and the reference's. -/
set_option linter.unusedVariables false
set_option linter.unusedSimpArgs false
namespace Go.Proofs.YtenapomineinbaaGreatDoor.D
open Go Go.Proofs.YtenapomineinbaaGreatDoor.K
open Go.Proofs.YtenapomineinbaaGreatDoor.P (nat val divmod small val_nat nat_zero nat_eq_nil nat_val_length nat_length_le len_mono val_lt nat_inj sgnv powR powV nat_one wS wA wD nat_ten_len inC ten ten_len decT decT_len decT_ne decT_good decT_dv dv good dig dig_le dv_nil dv_snoc dv_append dv_cons dv_lt)
def ptN (n : Nat) (s : List UInt8) : List UInt8 :=
  if n = 0 then s else (List.replicate (n + 1 - s.length) 48 ++ s).take ((List.replicate (n + 1 - s.length) 48 ++ s).length - n) ++ [46] ++ (List.replicate (n + 1 - s.length) 48 ++ s).drop ((List.replicate (n + 1 - s.length) 48 ++ s).length - n)
theorem repeat48 (n : Nat) (h : n ≤ 1000000) : strings_Repeat [48] (n : Int) = some (List.replicate n 48) := by
  refine (top_call ..).trans ?_
  show repeatF ([48], (n : Int)) = _
  unfold repeatF
  rw [cT (by simp; omega)]
  congr 1
  rw [Int.toNat_natCast]
  induction n with
  | zero => rfl
  | succ n ih => simp [List.replicate_succ, Lib.repeatL, ih (by omega)]
theorem xNWell (r : Rt) : numtext_well r = some (well r) := by
  rw [numtext_well_eq, xRight, Option.bind_some, xROf 0 (by omega) (by omega), Option.bind_some, well, show ofI 0 = (false, [], [1]) by unfold ofI; rw [Int.natAbs_zero, nat_zero]; rfl]
  cases right r <;> rfl
theorem ten_pow : ∀ j : Nat, 10 ^ (12 * j) ≤ 256 ^ (5 * j)
  | 0 => Nat.le_refl _
  | j + 1 => by
    rw [Nat.mul_succ, Nat.mul_succ, Nat.pow_add, Nat.pow_add]
    exact Nat.mul_le_mul (ten_pow j) (by decide)
theorem ten_len_gen {j k : Nat} (h : k ≤ 12 * j) : (nat (10 ^ k)).length ≤ 5 * j + 1 := by
  have h1 : 10 ^ k ≤ 10 ^ (12 * j) := Nat.pow_le_pow_right (by omega) h
  have h2 := ten_pow j
  refine nat_length_le ?_
  have h3 : 256 ^ (5 * j) < 256 ^ (5 * j + 1) := Nat.pow_lt_pow_right (by omega) (by omega)
  generalize 10 ^ (12 * j) = X at h1 h2
  generalize 256 ^ (5 * j) = Y at h2 h3
  omega
theorem ten_len256 {k : Nat} (h : k ≤ 256) : (nat (10 ^ k)).length ≤ 111 := ten_len_gen (j := 22) (by omega)
theorem ntT {x : Bool} (h : true = !x) : x = false := by cases x <;> simp_all
theorem ntF {x : Bool} (h : false = !x) : x = true := by cases x <;> simp_all
theorem lim78 : (256 : Nat) ^ 32 ≤ 10 ^ 78 := Nat.le_of_ble_eq_true rfl
theorem lt78 {n : Nat} (h : (nat n).length ≤ 32) : n < 10 ^ 78 := by
  have h1 := val_lt (nat n)
  rw [val_nat] at h1
  exact Nat.lt_of_lt_of_le h1 (Nat.le_trans (Nat.pow_le_pow_right (by decide) h) lim78)
theorem q_len {n d k : Nat} (h : (nat n).length ≤ 32) : (decT (n * 10 ^ k / d)).length ≤ 78 + k := by
  refine decT_len ?_ (by omega)
  refine Nat.lt_of_le_of_lt (Nat.div_le_self _ _) ?_
  rw [Nat.pow_add]
  exact Nat.mul_lt_mul_of_pos_right (lt78 h) (Nat.pow_pos (by decide))
theorem q_nat {n d k : Nat} (h : (nat n).length ≤ 32) (hk : k ≤ 256) : (nat (n * 10 ^ k)).length ≤ 143 := by
  have h1 := mul_len (nat n) (nat (10 ^ k))
  have h2 := ten_len256 hk
  rw [val_nat, val_nat] at h1
  omega
/-- Cutting in a point. -/
theorem pt_cut (p : List UInt8) (k : Nat) (hk : k ≤ p.length) (hl : p.length ≤ 1000000) :
    cond (decide (0 ≤ (IntKind.i64.wrap ((p.length : Int) - (k : Int)))) && decide ((IntKind.i64.wrap ((p.length : Int) - (k : Int))) ≤ (p.length : Int))) (cond (Nat.ble ((p.take ((IntKind.i64.wrap ((p.length : Int) - (k : Int))).toNat)).length + ([46] : List UInt8).length) 9223372036854775807) (cond (decide (0 ≤ (IntKind.i64.wrap ((p.length : Int) - (k : Int)))) && decide ((IntKind.i64.wrap ((p.length : Int) - (k : Int))) ≤ (p.length : Int))) (cond (Nat.ble (((p.take ((IntKind.i64.wrap ((p.length : Int) - (k : Int))).toNat)) ++ ([46] : List UInt8)).length + (p.drop ((IntKind.i64.wrap ((p.length : Int) - (k : Int))).toNat)).length) 9223372036854775807) (some (((p.take ((IntKind.i64.wrap ((p.length : Int) - (k : Int))).toNat)) ++ ([46] : List UInt8)) ++ (p.drop ((IntKind.i64.wrap ((p.length : Int) - (k : Int))).toNat)), true)) none) none) none) none
      = some (p.take (p.length - k) ++ [46] ++ p.drop (p.length - k), true) := by
  have e : IntKind.i64.wrap ((p.length : Int) - (k : Int)) = ((p.length - k : Nat) : Int) := wD hk (by omega)
  rw [e, cT (inC (by omega)), cT (Nat.ble_eq_true_of_le (by simp; omega)), cT (inC (by omega)), Int.toNat_natCast, cT (Nat.ble_eq_true_of_le (by simp; omega))]
theorem xPoint {r : Rt} {s : Bool} {n d : Nat} (e : well r = (s, nat n, nat d)) (f : Fm s n d) : numtext_Point r = some (cond (endsN d).2 (ptN (endsN d).1 (decT (n * 10 ^ (endsN d).1 / d)), true) ([], false)) := by
  have h0 := f.pos
  have h1 := f.nl
  have h2 := f.dl
  have hk := ends_le (by omega : d ≠ 0) h2
  rw [numtext_Point_eq, xEnds e f, Option.bind_some]
  simp only
  generalize hE : endsN d = E at hk
  obtain ⟨k, b⟩ := E
  simp only at hk
  cases b with
  | false => rfl
  | true =>
    try simp only
    have h3 := ten_len256 hk
    have h4 := q_nat (d := d) h1 hk
    have h5 := q_len (d := d) (k := k) h1
    have hq : (nat (n * 10 ^ k / d)).length ≤ 143 := Nat.le_trans (len_mono (Nat.div_le_self _ _)) h4
    rw [cF (by rfl), xNWell, Option.bind_some, e, show numtext_power 10 (k : Int) = _ from xPower (b := 10) (by omega) (by omega) (by omega), Option.bind_some, xMul _ _ (by simp only; omega) (by omega), Option.bind_some, val_nat, val_nat, xDiv _ _ (by omega) (by simp only; omega), Option.bind_some, val_nat, val_nat, divmod, if_neg (by omega)]
    simp only
    rw [cF (by rfl), xText _ (by omega), Option.bind_some, val_nat]
    generalize decT (n * 10 ^ k / d) = t at h5
    by_cases hz : k = 0
    · subst hz; rw [cT (by rfl)]; rfl
    · have em : max 0 (IntKind.i64.wrap (IntKind.i64.wrap ((k : Int) + 1) - (t.length : Int))) = ((k + 1 - t.length : Nat) : Int) := by
        rw [wS (by omega), wrap64 (by omega) (by omega)]; omega
      rw [cF (decide_eq_false (by omega)), em, repeat48 _ (by omega), Option.bind_some, cT (Nat.ble_eq_true_of_le (by simp; omega)), pt_cut _ _ (by simp; omega) (by simp; omega)]
      simp only [cond_true]
      rw [ptN, if_neg hz]
theorem yPoint1 (k : Nat) (hk : k ≤ 1000) : ∀ (m : Nat) (t : List UInt8), k + 1 - t.length ≤ m → 1 ≤ t.length → t.length ≤ 2000 → abacistref07_Point_1 (k : Int) t = some (ptN k t, true)
  | m, t, hm, h1, hl => by
    rw [abacistref07_Point_1_eq]
    by_cases hlt : t.length ≤ k
    · match m with
      | 0 => omega
      | m + 1 =>
        have := yPoint1 k hk m (48 :: t) (by rw [List.length_cons]; omega) (by simp) (by rw [List.length_cons]; omega)
        rw [cT (decide_eq_true (by omega)), cT (Nat.ble_eq_true_of_le (by simp; omega)), show ([48] : List UInt8) ++ t = 48 :: t from rfl, this]
        have e : List.replicate (k + 1 - (48 :: t).length) (48 : UInt8) ++ 48 :: t = List.replicate (k + 1 - t.length) 48 ++ t := by
          rw [show k + 1 - t.length = (k + 1 - (48 :: t).length) + 1 by rw [List.length_cons]; omega, List.replicate_succ', List.append_assoc]; rfl
        unfold ptN
        rw [e]
        by_cases hz : k = 0
        · omega
        · rw [if_neg hz, if_neg hz]
    · rw [cF (decide_eq_false (by omega))]
      by_cases hz : k = 0
      · subst hz; rw [cT (by rfl), ptN, if_pos rfl]
      · have e : List.replicate (k + 1 - t.length) (48 : UInt8) ++ t = t := by rw [show k + 1 - t.length = 0 by omega]; rfl
        rw [cF (decide_eq_false (by omega)), pt_cut _ _ (by omega) (by omega), ptN, if_neg hz, e]
theorem yPoint {r : Rt} {s : Bool} {n d : Nat} (e : well r = (s, nat n, nat d)) (f : Fm s n d) : abacistref07_Point r = some (cond (endsN d).2 (ptN (endsN d).1 (decT (n * 10 ^ (endsN d).1 / d)), true) ([], false)) := by
  have h0 := f.pos
  have h1 := f.nl
  have h2 := f.dl
  have hk := ends_le (by omega : d ≠ 0) h2
  rw [abacistref07_Point_eq, yEnds e f, Option.bind_some]
  simp only
  generalize hE : endsN d = E at hk
  obtain ⟨k, b⟩ := E
  simp only at hk
  cases b with
  | false => rfl
  | true =>
    try simp only
    have h3 := ten_len256 hk
    have h4 := q_nat (d := d) h1 hk
    have h5 := q_len (d := d) (k := k) h1
    have hq : (nat (n * 10 ^ k / d)).length ≤ 143 := Nat.le_trans (len_mono (Nat.div_le_self _ _)) h4
    have hne : 1 ≤ (decT (n * 10 ^ k / d)).length := List.length_pos_iff.2 (decT_ne _)
    rw [cF (by rfl), yTop e f, Option.bind_some, yWMake _ _ (by simp only; omega), Option.bind_some, yPower (b := 10) (t := [10]) rfl (by simp) (by omega) (by omega) (by omega), Option.bind_some, yWMake _ _ (by omega), Option.bind_some,
      yWMul _ _ (by show (nat _).length ≤ _; simp only [val_nat]; omega) (by show (nat _).length ≤ _; simp only [val_nat]; omega), Option.bind_some, yLow e f, Option.bind_some]
    have e2 : ∀ q, (mkW q (val (mkW false (val (nat n))).2 * val (mkW false (val (nat (10 ^ k)))).2)).2 = nat (n * 10 ^ k) := by
      intro q
      show nat (val (nat (val (nat n))) * val (nat (val (nat (10 ^ k))))) = _
      simp only [val_nat]
    simp only
    rw [e2, yDivs _ _ (by omega) (by omega), Option.bind_some, val_nat, val_nat, divmod, if_neg (by omega)]
    simp only
    rw [yText _ (by omega), Option.bind_some, val_nat, yPoint1 k (by omega) _ _ (Nat.le_refl _) hne (by omega)]; rfl
/-! ### texts of numbers -/
def textF (s : Bool) (n d : Nat) : List UInt8 :=
  cond s [45] [] ++ cond ((endsN d).2 && decide ((endsN d).1 ≤ 20)) (ptN (endsN d).1 (decT (n * 10 ^ (endsN d).1 / d))) (decT n ++ [47] ++ decT d)
theorem d_len {n : Nat} (h : (nat n).length ≤ 32) : (decT n).length ≤ 78 := decT_len (lt78 h) (by omega)
theorem pt_len (k : Nat) (t : List UInt8) (h : t.length ≤ 1000) (hk : k ≤ 1000) : (ptN k t).length ≤ max t.length (k + 1) + 1 := by
  unfold ptN
  split
  · omega
  · simp; omega
theorem xTextN {r : Rt} {s : Bool} {n d : Nat} (e : well r = (s, nat n, nat d)) (f : Fm s n d) : numtext_Text r = some (textF s n d) := by
  have h0 := f.pos
  have h1 := f.nl
  have h2 := f.dl
  have hk := ends_le (by omega : d ≠ 0) h2
  have w2 : well (s, nat n, nat d) = (s, nat n, nat d) := f.well
  have hdn := d_len h1
  have hdd := d_len h2
  have hq := q_len (d := d) (k := (endsN d).1) h1
  have hpt := pt_len (endsN d).1 (decT (n * 10 ^ (endsN d).1 / d)) (by omega) (by omega)
  have fin : ∀ (c : List UInt8) (b : Bool), c.length ≤ 1 → b = ((endsN d).2 && decide ((endsN d).1 ≤ 20)) → numtext_Text_2 c b (s, nat n, nat d) = some (c ++ cond ((endsN d).2 && decide ((endsN d).1 ≤ 20)) (ptN (endsN d).1 (decT (n * 10 ^ (endsN d).1 / d))) (decT n ++ [47] ++ decT d)) := by
    intro c b hc hb
    rw [numtext_Text_2_eq, ← hb]
    cases b with
    | true =>
      have he : (endsN d).2 = true := by
        have := hb.symm
        rw [Bool.and_eq_true] at this
        exact this.1
      rw [cond_true, xPoint w2 f, Option.bind_some, he, cond_true, cT (Nat.ble_eq_true_of_le (by simp only; omega)), cond_true]
    | false =>
      rw [cond_false, xText _ (by simp only; omega), Option.bind_some, cT (Nat.ble_eq_true_of_le (by simp only [val_nat]; omega)), cT (Nat.ble_eq_true_of_le (by simp [val_nat]; omega)), xText _ (by simp only; omega), Option.bind_some, cT (Nat.ble_eq_true_of_le (by simp [val_nat]; omega)), cond_false]
      simp only [val_nat, List.append_assoc]
  have mid : ∀ c : List UInt8, c.length ≤ 1 → numtext_Text_1 c (s, nat n, nat d) = some (c ++ cond ((endsN d).2 && decide ((endsN d).1 ≤ 20)) (ptN (endsN d).1 (decT (n * 10 ^ (endsN d).1 / d))) (decT n ++ [47] ++ decT d)) := by
    intro c hc
    rw [numtext_Text_1_eq, xEnds w2 f, Option.bind_some]
    cases hb : (endsN d).2 with
    | true => rw [cond_true, fin c _ hc (by rw [hb, Bool.true_and]; exact decide_eq_decide.2 (by omega)), hb]
    | false => rw [cond_false, fin c _ hc (by rw [hb]; rfl), hb]
  rw [numtext_Text_eq, xNWell, Option.bind_some, e, textF]
  cases s with
  | true => rw [cond_true, mid _ (by simp)]; rfl
  | false => rw [cond_false, mid _ (by simp)]; rfl
theorem yTextN {r : Rt} {s : Bool} {n d : Nat} (e : well r = (s, nat n, nat d)) (f : Fm s n d) : abacistref07_Text r = some (textF s n d) := by
  have h0 := f.pos
  have h1 := f.nl
  have h2 := f.dl
  have hk := ends_le (by omega : d ≠ 0) h2
  have hdn := d_len h1
  have hdd := d_len h2
  have hq := q_len (d := d) (k := (endsN d).1) h1
  have hpt := pt_len (endsN d).1 (decT (n * 10 ^ (endsN d).1 / d)) (by omega) (by omega)
  have fin : ∀ (c : List UInt8) (b : Bool), c.length ≤ 1 → b = !((endsN d).2 && decide ((endsN d).1 ≤ 20)) → abacistref07_Text_2 c b r = some (c ++ cond ((endsN d).2 && decide ((endsN d).1 ≤ 20)) (ptN (endsN d).1 (decT (n * 10 ^ (endsN d).1 / d))) (decT n ++ [47] ++ decT d)) := by
    intro c b hc hb
    rw [abacistref07_Text_2_eq]
    cases b with
    | false =>
      have hb := ntF hb
      have he : (endsN d).2 = true := by
        have := hb
        rw [Bool.and_eq_true] at this
        exact this.1
      rw [cond_false, yPoint e f, Option.bind_some, hb, cond_true, he, cond_true, cT (Nat.ble_eq_true_of_le (by simp only; omega))]
    | true =>
      have hb := ntT hb
      rw [cond_true, yTop e f, Option.bind_some, yText _ (by simp only; omega), Option.bind_some, cT (Nat.ble_eq_true_of_le (by simp only [val_nat]; omega)), cT (Nat.ble_eq_true_of_le (by simp [val_nat]; omega)), yLow e f, Option.bind_some, yText _ (by simp only; omega), Option.bind_some, cT (Nat.ble_eq_true_of_le (by simp [val_nat]; omega)), hb, cond_false]
      simp only [val_nat, List.append_assoc]
  have mid : ∀ c : List UInt8, c.length ≤ 1 → abacistref07_Text_1 c r = some (c ++ cond ((endsN d).2 && decide ((endsN d).1 ≤ 20)) (ptN (endsN d).1 (decT (n * 10 ^ (endsN d).1 / d))) (decT n ++ [47] ++ decT d)) := by
    intro c hc
    rw [abacistref07_Text_1_eq, yEnds e f, Option.bind_some]
    cases hb : (endsN d).2 with
    | true =>
      rw [show (!(((endsN d).1 : Int), true).2) = false from rfl, cond_false, fin c _ hc (by
        rw [hb, Bool.true_and, ← decide_not]; exact decide_eq_decide.2 (by omega)), hb]
    | false => rw [show (!(((endsN d).1 : Int), false).2) = true from rfl, cond_true, fin c _ hc (by rw [hb]; rfl), hb]
  have hs : decide (signR (well r) < 0) = s := by
    rw [e]
    unfold signR
    simp only [nilD]
    have hz := f.z
    by_cases hn : n = 0
    · rw [hz hn, decide_eq_true hn]; rfl
    · rw [decide_eq_false hn]; cases s <;> rfl
  rw [abacistref07_Text_eq, ySign, Option.bind_some, hs, textF]
  cases s with
  | true => rw [cond_true, mid _ (by simp)]; rfl
  | false => rw [cond_false, mid _ (by simp)]; rfl
theorem text_len {s : Bool} {n d : Nat} (f : Fm s n d) : (textF s n d).length ≤ 158 := by
  have h1 := f.nl
  have h2 := f.dl
  have hdn := d_len h1
  have hdd := d_len h2
  have hq := q_len (d := d) (k := (endsN d).1) h1
  unfold textF
  have hs : (cond s [45] [] : List UInt8).length ≤ 1 := by cases s <;> simp
  rw [List.length_append]
  cases hb : (endsN d).2 && decide ((endsN d).1 ≤ 20) with
  | true =>
    rw [Bool.and_eq_true] at hb
    have h20 := of_decide_eq_true hb.2
    have hpt := pt_len (endsN d).1 (decT (n * 10 ^ (endsN d).1 / d)) (by omega) (by omega)
    rw [cond_true]; omega
  | false => rw [cond_false]; simp; omega
end Go.Proofs.YtenapomineinbaaGreatDoor.D

/- Texts as numbers: plain Lean; the program's and the reference's; the two laws. -/
set_option linter.unusedVariables false
set_option linter.unusedSimpArgs false
namespace Go.Proofs.YtenapomineinbaaGreatDoor.D
open Go Go.Proofs.YtenapomineinbaaGreatDoor.K
open Go.Proofs.YtenapomineinbaaGreatDoor.P (nat val divmod small val_nat nat_zero nat_eq_nil nat_val_length nat_length_le len_mono val_lt nat_inj sgnv powR powV nat_one wS wA wD nat_ten_len inC ten ten_len decT decT_len decT_ne decT_good decT_dv dv_lt dv good dig dig_le dv_nil dv_snoc dv_append dv_cons)
def z0 : Rt := (false, [], [])
theorem pt_cut_len {c : UInt8} {s : List UInt8} {k : Nat} (h : pos c s = some k) : (s.take k ++ s.drop (k + 1)).length + 1 = s.length := by
  have := pos_lt h
  simp; omega
def decV (s : List UInt8) : Rt × Int :=
  cond (!dg (cutV 46 s).1 || ((cutV 46 s).2.2 && !dg (cutV 46 s).2.1)) (z0, 10) (cond (decide (s.length > 400)) (z0, 9) (make (false, nat (dv ((cutV 46 s).1 ++ (cutV 46 s).2.1))) (false, nat (10 ^ (cutV 46 s).2.1.length))))
theorem cut_len (c : UInt8) (s : List UInt8) : (cutV c s).1.length + (cutV c s).2.1.length ≤ s.length := by
  unfold cutV
  cases h : pos c s with
  | none => simp
  | some k => have := pt_cut_len h; simp only [List.length_append] at this; simp only; omega
theorem cut_no {c : UInt8} {s : List UInt8} (h : (cutV c s).2.2 = false) : (cutV c s).2.1 = [] := by
  unfold cutV at h ⊢
  cases hp : pos c s with
  | none => rfl
  | some k => rw [hp] at h; cases h
theorem good_append (a b : List UInt8) : good (a ++ b) = (good a && good b) := by unfold good; rw [List.all_append]
theorem parse_good {s : List UInt8} (hg : good s = true) (h0 : s ≠ []) (hl : s.length ≤ 400) : parseV s = (nat (dv s), 0) := by rw [parseV, if_neg (by simp [h0, hg]), if_neg (by omega)]
theorem mkF (n : Nat) : mkW false n = (false, nat n) := rfl
theorem xDec (s : List UInt8) (hs : s.length ≤ 100000) : numtext_Decimal s = some (decV s) := by
  have hc := cut_len 46 s
  have hno := @cut_no 46 s
  have key : ∀ (a b : List UInt8) (pt : Bool), a.length + b.length ≤ s.length → (pt = false → b = []) → dg a = true → (pt = true → dg b = true) → numtext_Decimal_1 s a b false z0 = some (cond (decide (s.length > 400)) (z0, 9) (make (false, nat (dv (a ++ b))) (false, nat (10 ^ b.length)))) := by
    intro a b pt hab hb ha hb2
    rw [numtext_Decimal_1_eq, cond_false]
    by_cases hl : s.length > 400
    · rw [cT (decide_eq_true (by omega)), decide_eq_true hl]; rfl
    · have ha' : good a = true ∧ a ≠ [] := by simpa [dg] using ha
      have hgb : good b = true := by
        cases pt with
        | false => rw [hb rfl]; rfl
        | true => have : good b = true ∧ b ≠ [] := by simpa [dg] using hb2 rfl
                  exact this.1
      have hgab : good (a ++ b) = true := by rw [good_append, ha'.1, hgb]; rfl
      have hp : parseV (a ++ b) = (nat (dv (a ++ b)), 0) := parse_good hgab (by simp [ha'.2]) (by simp; omega)
      have hdl := nat_ten_len (dv_lt (a ++ b) hgab)
      have hpl := pow_small (b := 10) (by omega) b.length
      simp only [List.length_append] at hdl
      rw [cF (decide_eq_false (by omega)), cT (Nat.ble_eq_true_of_le (by omega)), xParse _ (by simp; omega), Option.bind_some, hp]
      simp only
      rw [cF (by rfl), xWMake _ _ (by omega), Option.bind_some, show numtext_power 10 (b.length : Int) = _ from xPower (b := 10) (by omega) (by omega) (by omega), Option.bind_some, xWMake _ _ (by omega), Option.bind_some, mkF, mkF, val_nat, val_nat, xMake _ _ (by simp only; omega) (by simp only; omega), Option.bind_some, decide_eq_false hl, cond_false]
  rw [numtext_Decimal_eq, xCut 46 s (by omega), Option.bind_some, xDigits _ (by omega), Option.bind_some, decV]
  generalize hcv : cutV 46 s = cv at hc hno
  obtain ⟨a, b, pt⟩ := cv
  simp only at hc hno ⊢
  cases ha : dg a with
  | false => rw [cT (by rfl), numtext_Decimal_1_eq]; rfl
  | true =>
    rw [cF (by rfl)]
    cases pt with
    | false =>
      rw [cond_false]
      exact key a b false hc (fun _ => hno rfl) ha (fun h => by cases h)
    | true =>
      rw [cond_true, xDigits _ (by omega), Option.bind_some]
      cases hb : dg b with
      | false => rw [numtext_Decimal_1_eq]; rfl
      | true => exact key a b true hc (fun h => by cases h) ha (fun _ => hb)
theorem yDec (s : List UInt8) (hs : s.length ≤ 100000) : abacistref07_Decimal s = some (decV s) := by
  have hc := cut_len 46 s
  have hno := @cut_no 46 s
  have key : ∀ (a b : List UInt8) (pt : Bool), a.length + b.length ≤ s.length → (pt = false → b = []) → dg a = true → (pt = true → dg b = true) → abacistref07_Decimal_2 s a b false z0 = some (cond (decide (s.length > 400)) (z0, 9) (make (false, nat (dv (a ++ b))) (false, nat (10 ^ b.length)))) := by
    intro a b pt hab hb ha hb2
    rw [abacistref07_Decimal_2_eq, cond_false]
    by_cases hl : s.length > 400
    · rw [cT (decide_eq_true (by omega)), decide_eq_true hl]; rfl
    · have ha' : good a = true ∧ a ≠ [] := by simpa [dg] using ha
      have hgb : good b = true := by
        cases pt with
        | false => rw [hb rfl]; rfl
        | true => have : good b = true ∧ b ≠ [] := by simpa [dg] using hb2 rfl
                  exact this.1
      have hgab : good (a ++ b) = true := by rw [good_append, ha'.1, hgb]; rfl
      have hp : parseV (a ++ b) = (nat (dv (a ++ b)), 0) := parse_good hgab (by simp [ha'.2]) (by simp; omega)
      have hdl := nat_ten_len (dv_lt (a ++ b) hgab)
      have hpl := pow_small (b := 10) (by omega) b.length
      simp only [List.length_append] at hdl
      rw [cF (decide_eq_false (by omega)), cT (Nat.ble_eq_true_of_le (by omega)), yParse _ (by simp; omega), Option.bind_some, hp]
      simp only
      rw [yWMake _ _ (by omega), Option.bind_some, yPower (b := 10) (t := [10]) rfl (by simp) (by omega) (by omega) (by omega), Option.bind_some, yWMake _ _ (by omega), Option.bind_some, mkF, mkF, val_nat, val_nat, yMake _ _ (by simp only; omega) (by simp only; omega), Option.bind_some, decide_eq_false hl, cond_false]
  have after : ∀ (v : Int) (a b : List UInt8) (pt : Bool), decide (v ≥ 0) = pt → a.length + b.length ≤ s.length → (pt = false → b = []) → abacistref07_Decimal_1 s v a b z0 = some (cond (!dg a || (pt && !dg b)) (z0, 10) (cond (decide (s.length > 400)) (z0, 9) (make (false, nat (dv (a ++ b))) (false, nat (10 ^ b.length))))) := by
    intro v a b pt hv hab hb
    rw [abacistref07_Decimal_1_eq, yDigits _ (by omega), Option.bind_some, hv]
    cases ha : dg a with
    | false => rw [cT (by rfl), abacistref07_Decimal_2_eq]; rfl
    | true =>
      rw [cF (by rfl)]
      cases pt with
      | false =>
        rw [cond_false]
        exact key a b false hab hb ha (fun h => by cases h)
      | true =>
        rw [cond_true, yDigits _ (by omega), Option.bind_some]
        cases hb2 : dg b with
        | false => rw [abacistref07_Decimal_2_eq]; rfl
        | true => exact key a b true hab hb ha (fun _ => hb2)
  rw [abacistref07_Decimal_eq, show abacistref07_find s 46 = _ from yFind s 46 (by omega), Option.bind_some, decV, findV]
  unfold cutV at hc hno ⊢
  cases hp : pos 46 s with
  | none =>
    rw [hp] at hc
    simp only at hc ⊢
    rw [cF (by rfl)]
    exact after (-1) s [] false (by rfl) (by simp) (fun _ => rfl)
  | some k =>
    rw [hp] at hc
    have hk := pos_lt hp
    simp only at hc ⊢
    rw [cT (decide_eq_true (by omega)), cT (inC (by omega)), wS (by omega), cT (inC (by omega)), Int.toNat_natCast, Int.toNat_natCast]
    exact after _ _ _ true (decide_eq_true (by omega)) hc (fun h => by cases h)
def fracV (a b : List UInt8) : Rt × Int :=
  cond (decide ((parseV a).2 = 3) || decide ((parseV b).2 = 3)) (z0, 10) (cond (!decide ((parseV a).2 = 0) || !decide ((parseV b).2 = 0)) (z0, 9) (make (false, (parseV a).1) (false, (parseV b).1)))
theorem parse_or (s : List UInt8) : parseV s = ([], 3) ∨ parseV s = ([], 9) ∨ ∃ n, (nat n).length ≤ 400 ∧ parseV s = (nat n, 0) := by
  rw [parseV]
  by_cases h : s = [] ∨ good s = false
  · rw [if_pos h]; exact .inl rfl
  · rw [if_neg h]
    by_cases hl : s.length > 400
    · rw [if_pos hl]; exact .inr (.inl rfl)
    · have hg : good s = true := by
        cases hg : good s with
        | true => rfl
        | false => exact absurd (.inr hg) h
      rw [if_neg hl]
      exact .inr (.inr ⟨dv s, Nat.le_trans (nat_ten_len (dv_lt s hg)) (by omega), rfl⟩)
theorem xFrac (a b : List UInt8) (ha : a.length ≤ 100000) (hb : b.length ≤ 100000) : numtext_fraction a b = some (fracV a b) := by
  rw [numtext_fraction_eq, xParse _ (by omega), Option.bind_some, xParse _ (by omega), Option.bind_some, fracV]
  simp only [numtext_fraction_1_eq, numtext_fraction_2_eq]
  rcases parse_or a with h | h | ⟨n, hn, h⟩ <;> rcases parse_or b with k | k | ⟨m, hm, k⟩ <;> rw [h, k] <;> first
    | rfl
    | (simp only
       rw [xWMake _ _ (by omega), xWMake _ _ (by omega)]
       simp only [Option.bind_some, mkF, val_nat]
       rw [xMake _ _ (by simp only; omega) (by simp only; omega)]
       rfl)
theorem yFrac (a b : List UInt8) (ha : a.length ≤ 100000) (hb : b.length ≤ 100000) : abacistref07_fraction a b = some (fracV a b) := by
  rw [abacistref07_fraction_eq, yParse _ (by omega), Option.bind_some, yParse _ (by omega), Option.bind_some, fracV]
  simp only [abacistref07_fraction_1_eq, abacistref07_fraction_2_eq]
  rcases parse_or a with h | h | ⟨n, hn, h⟩ <;> rcases parse_or b with k | k | ⟨m, hm, k⟩ <;> rw [h, k] <;> first
    | rfl
    | (simp only
       rw [yWMake _ _ (by omega), yWMake _ _ (by omega)]
       simp only [Option.bind_some, mkF, val_nat]
       rw [yMake _ _ (by simp only; omega) (by simp only; omega)]
       rfl)
def bodyV (t : List UInt8) : Rt × Int := cond (cutV 47 t).2.2 (fracV (cutV 47 t).1 (cutV 47 t).2.1) (decV t)
def parseN (s : List UInt8) : Rt × Int := cond (decide ((bodyV (preV 45 s).1).2 = 0) && (preV 45 s).2) (negR (bodyV (preV 45 s).1).1, (bodyV (preV 45 s).1).2) (bodyV (preV 45 s).1)
theorem xParseN (s : List UInt8) (hs : s.length ≤ 100000) : numtext_Parse s = some (parseN s) := by
  have hl := pre_len 45 s
  have hc := cut_len 47 (preV 45 s).1
  have tail : ∀ (q : Rt × Int) (neg : Bool), numtext_Parse_1 neg q.2 (false, [], []) q.1 = some (cond (decide (q.2 = 0) && neg) (negR q.1, q.2) q) := by
    intro q neg
    simp only [numtext_Parse_1_eq, numtext_Parse_2_eq, numtext_Parse_3_eq, xNeg, Option.bind_some]
    cases decide (q.2 = 0) <;> cases neg <;> rfl
  rw [numtext_Parse_eq, xPre, Option.bind_some, xCut 47 _ (by omega), Option.bind_some, xFrac _ _ (by omega) (by omega), xDec _ (by omega), Option.bind_some, Option.bind_some, tail, tail, parseN, bodyV]
  cases (cutV 47 (preV 45 s).1).2.2 <;> rfl
theorem yParseN (s : List UInt8) (hs : s.length ≤ 100000) : abacistref07_Parse s = some (parseN s) := by
  have tail : ∀ (q : Rt × Int) (neg : Bool), abacistref07_Parse_3 neg q.2 (false, [], []) q.1 = some (cond (decide (q.2 = 0) && neg) (negR q.1, q.2) q) := by
    intro q neg
    simp only [abacistref07_Parse_3_eq, abacistref07_Parse_4_eq, abacistref07_Parse_5_eq, yNeg, Option.bind_some]
    cases decide (q.2 = 0) <;> cases neg <;> rfl
  have body : ∀ (t : List UInt8) (neg : Bool), t.length ≤ 100000 → abacistref07_Parse_2 t neg (false, [], []) = some (cond (decide ((bodyV t).2 = 0) && neg) (negR (bodyV t).1, (bodyV t).2) (bodyV t)) := by
    intro t neg ht
    rw [abacistref07_Parse_2_eq, yDec _ (by omega), Option.bind_some, show abacistref07_find t 47 = _ from yFind t 47 (by omega), Option.bind_some, findV, bodyV, cutV]
    cases hp : pos 47 t with
    | none =>
      simp only
      rw [cF (by rfl), tail]; rfl
    | some k =>
      have hk := pos_lt hp
      simp only
      rw [cT (decide_eq_true (by omega)), cT (inC (by omega)), wS (by omega), cT (inC (by omega)), Int.toNat_natCast, Int.toNat_natCast, yFrac _ _ (by simp; omega) (by simp; omega), Option.bind_some, tail]; rfl
  rw [abacistref07_Parse_eq, parseN]
  cases s with
  | nil => rw [cF (by rfl), abacistref07_Parse_1_eq, cond_false, body _ _ (by simp)]; rfl
  | cons b t =>
    rw [cT (decide_eq_true (by simp)), cT (by simp), List.getD_cons_zero, abacistref07_Parse_1_eq]
    simp only [List.length_cons] at hs
    by_cases h : b = 45
    · subst h
      rw [cT (by rfl), cT (by simp; omega), body _ _ (by simp; omega)]; rfl
    · have hd : decide ((b.toNat : Int) = 45) = false := decide_eq_false fun e => h (UInt8.toNat_inj.1 (by show b.toNat = 45; omega))
      rw [hd, cond_false, body _ _ (by simp; omega)]
      simp only [preV, if_neg h]
/-! ### the laws -/
theorem knownN : abacistlaw07_known = some true := of_depth 400 (by kernel_rfl)
theorem parses7 (s : List UInt8) : abacistlaw07_NumtextParse s = some true := by
  rw [abacistlaw07_NumtextParse_eq]
  by_cases hl : (s.length : Int) > 900
  · rw [cT (decide_eq_true hl), knownN]; rfl
  · rw [cF (decide_eq_false hl), xParseN s (by omega), Option.bind_some, yParseN s (by omega), Option.bind_some, xDec s (by omega), Option.bind_some, yDec s (by omega), Option.bind_some]
    simp [knownN]
/-! ### a text is read as its number -/
theorem dig_ne {c : UInt8} (h : dig c = true) : c ≠ 45 ∧ c ≠ 46 ∧ c ≠ 47 := by
  have := dig_le h
  refine ⟨?_, ?_, ?_⟩ <;> (rintro rfl; simp at this)
theorem pos_none {c : UInt8} : ∀ {s : List UInt8}, (∀ b ∈ s, b ≠ c) → pos c s = none
  | [], _ => rfl
  | b :: s, h => by
    simp only [pos]
    rw [if_neg (h b (by simp)), pos_none fun x hx => h x (by simp [hx])]; rfl
theorem pos_here {c : UInt8} : ∀ {a b : List UInt8}, (∀ x ∈ a, x ≠ c) → pos c (a ++ c :: b) = some a.length
  | [], b, _ => by simp [pos]
  | x :: a, b, h => by
    simp only [List.cons_append, pos]
    rw [if_neg (h x (by simp)), pos_here fun y hy => h y (by simp [hy])]; rfl
theorem good_mem {s : List UInt8} (h : good s = true) {b : UInt8} (hb : b ∈ s) : dig b = true := List.all_eq_true.1 h b hb
theorem cut_here {c : UInt8} {a b : List UInt8} (h : ∀ x ∈ a, x ≠ c) : cutV c (a ++ c :: b) = (a, b, true) := by
  unfold cutV
  rw [pos_here h]
  simp only [List.take_left', List.length_append]
  congr 2
  rw [List.drop_append, List.drop_of_length_le (by omega)]; simp
theorem cut_none {c : UInt8} {s : List UInt8} (h : ∀ x ∈ s, x ≠ c) : cutV c s = (s, [], false) := by
  unfold cutV
  rw [pos_none h]
theorem dg_of {s : List UInt8} (hg : good s = true) (h0 : s ≠ []) : dg s = true := by unfold dg; rw [hg, decide_eq_false h0]; rfl
theorem dv_zeros : ∀ (k : Nat) (s : List UInt8), dv (List.replicate k 48 ++ s) = dv s
  | 0, s => rfl
  | k + 1, s => by
    rw [List.replicate_succ, List.cons_append, dv_cons, dv_zeros k s]; simp
theorem good_zeros (k : Nat) : good (List.replicate k 48) = true := by
  unfold good
  rw [List.all_replicate]
  cases k <;> rfl
/-- A number's digits are read as it. -/
theorem dec_pt {n d : Nat} (f : Fm false n d) (he : (endsN d).2 = true) (hl : (ptN (endsN d).1 (decT (n * 10 ^ (endsN d).1 / d))).length ≤ 400) : decV (ptN (endsN d).1 (decT (n * 10 ^ (endsN d).1 / d))) = ((false, nat n, nat d), 0) ∧ ∀ x ∈ ptN (endsN d).1 (decT (n * 10 ^ (endsN d).1 / d)), x ≠ 45 ∧ x ≠ 47 := by
  have h0 := f.pos
  have hd : d ∣ 10 ^ (endsN d).1 := by
    unfold endsN at he ⊢
    by_cases h : 2 ^ ordB 2 d * 5 ^ ordB 5 d = d
    · rw [if_pos h]
      simp only
      conv => lhs; rw [← h]
      rw [show (10 : Nat) = 2 * 5 from rfl, Nat.mul_pow]
      exact Nat.mul_dvd_mul (Nat.pow_dvd_pow 2 (Nat.le_max_left _ _)) (Nat.pow_dvd_pow 5 (Nat.le_max_right _ _))
    · rw [if_neg h] at he; cases he
  have hz : (endsN d).1 = 0 → d = 1 := by
    intro h
    rw [h, Nat.pow_zero] at hd
    exact Nat.dvd_one.1 hd
  generalize (endsN d).1 = k at hd hz hl ⊢
  obtain ⟨c, hc⟩ := hd
  have hq : n * 10 ^ k / d = n * c := by rw [hc, ← Nat.mul_assoc, Nat.mul_comm n d, Nat.mul_assoc, Nat.mul_div_cancel_left _ h0]
  have hc0 : 0 < c := by
    rcases Nat.eq_zero_or_pos c with h | h
    · rw [h, Nat.mul_zero] at hc; have := Nat.pow_pos (n := k) (show 0 < 10 by decide); omega
    · exact h
  have mk : make (false, nat (n * c)) (false, nat (10 ^ k)) = ((false, nat n, nat d), 0) := by
    have := make_form f
    unfold make at this ⊢
    simp only [val_nat] at this ⊢
    rw [hc, Nat.gcd_mul_right, f.co, Nat.one_mul, Nat.mul_div_cancel _ hc0, Nat.mul_div_cancel _ hc0]
    have hne : d * c ≠ 0 := Nat.mul_ne_zero (by omega) (by omega)
    rw [if_neg hne]
    rw [if_neg (by omega), f.co, Nat.div_one, Nat.div_one] at this
    exact this
  rw [hq] at hl ⊢
  by_cases hk : k = 0
  · subst hk
    rw [ptN, if_pos rfl] at hl ⊢
    have hg := decT_good (n * c)
    refine ⟨?_, fun x hx => ⟨(dig_ne (good_mem hg hx)).1, (dig_ne (good_mem hg hx)).2.2⟩⟩
    rw [decV, cut_none fun x hx => (dig_ne (good_mem hg hx)).2.1]
    simp only
    rw [dg_of hg (decT_ne _), decide_eq_false (by omega), List.append_nil, decT_dv]
    exact mk
  · rw [ptN, if_neg hk] at hl ⊢
    generalize hp : List.replicate (k + 1 - (decT (n * c)).length) 48 ++ decT (n * c) = p at hl ⊢
    have hgp : good p = true := by rw [← hp, good_append, good_zeros, decT_good]; rfl
    have hdp : dv p = n * c := by rw [← hp, dv_zeros, decT_dv]
    have hlp : k + 1 ≤ p.length := by rw [← hp]; simp; omega
    have g1 : good (p.take (p.length - k)) = true := good_take hgp _
    have g2 : good (p.drop (p.length - k)) = true := good_dropT hgp _
    have l2 : (p.drop (p.length - k)).length = k := by simp; omega
    have n1 : p.take (p.length - k) ≠ [] := fun e => by have := congrArg List.length e; simp at this; omega
    have n2 : p.drop (p.length - k) ≠ [] := fun e => by rw [e] at l2; simp at l2; omega
    rw [List.append_assoc, show ([46] : List UInt8) ++ p.drop (p.length - k) = 46 :: p.drop (p.length - k) from rfl] at hl ⊢
    refine ⟨?_, fun x hx => ?_⟩
    · rw [decV, cut_here fun x hx => (dig_ne (good_mem g1 hx)).2.1]
      simp only
      rw [dg_of g1 n1, dg_of g2 n2, decide_eq_false (by omega), List.take_append_drop, hdp, l2]
      exact mk
    · rcases List.mem_append.1 hx with h | h
      · exact ⟨(dig_ne (good_mem g1 h)).1, (dig_ne (good_mem g1 h)).2.2⟩
      · rcases List.mem_cons.1 h with h | h
        · subst h; exact ⟨by decide, by decide⟩
        · exact ⟨(dig_ne (good_mem g2 h)).1, (dig_ne (good_mem g2 h)).2.2⟩
theorem Fm.pos' {s : Bool} {n d : Nat} (f : Fm s n d) : Fm false n d := ⟨f.nl, f.dl, f.pos, f.co, fun _ => rfl⟩
theorem parse_text {s : Bool} {n d : Nat} (f : Fm s n d) : parseN (textF s n d) = ((s, nat n, nat d), 0) := by
  have h1 := f.nl
  have h2 := f.dl
  have hdn := d_len h1
  have hdd := d_len h2
  have hq := q_len (d := d) (k := (endsN d).1) h1
  have hk := ends_le (by have := f.pos; omega : d ≠ 0) h2
  -- the text without its sign
  have key : ∃ t, textF s n d = cond s [45] [] ++ t ∧ t ≠ [] ∧ (∀ x, t.head? = some x → x ≠ 45) ∧ bodyV t = ((false, nat n, nat d), 0) := by
    refine ⟨_, rfl, ?_⟩
    cases hb : (endsN d).2 && decide ((endsN d).1 ≤ 20) with
    | true =>
      rw [Bool.and_eq_true] at hb
      have h20 := of_decide_eq_true hb.2
      have hpt := pt_len (endsN d).1 (decT (n * 10 ^ (endsN d).1 / d)) (by omega) (by omega)
      obtain ⟨e1, e2⟩ := dec_pt f.pos' hb.1 (by omega)
      rw [cond_true]
      refine ⟨?_, fun x hx => (e2 x (List.mem_of_mem_head? hx)).1, ?_⟩
      · unfold ptN
        split
        · exact decT_ne _
        · simp
      · rw [bodyV, cut_none fun x hx => (e2 x hx).2]; exact e1
    | false =>
      have gn := decT_good n
      have gd := decT_good d
      rw [cond_false, List.append_assoc]
      refine ⟨by simp, fun x hx => ?_, ?_⟩
      · cases hn : decT n with
        | nil => exact absurd hn (decT_ne n)
        | cons c l =>
          rw [hn] at hx gn
          simp at hx
          subst hx
          exact (dig_ne (good_mem gn (by simp))).1
      · rw [bodyV, show ([47] : List UInt8) ++ decT d = 47 :: decT d from rfl, cut_here fun x hx => (dig_ne (good_mem gn hx)).2.2]
        simp only
        rw [cond_true, fracV, parse_good gn (decT_ne n) (by omega), parse_good gd (decT_ne d) (by omega), decT_dv, decT_dv]
        exact make_form f.pos'
  obtain ⟨t, e, ht, hh, hbd⟩ := key
  rw [e, parseN]
  cases s with
  | true =>
    have hn0 : n ≠ 0 := fun h => by have := f.z h; cases this
    rw [show (cond true [45] [] : List UInt8) ++ t = 45 :: t from rfl, show preV 45 (45 :: t) = (t, true) from rfl]
    simp only
    rw [hbd]
    simp only [decide_true, Bool.and_true, cond_true]
    rw [f.pos'.neg, decide_eq_false hn0]; rfl
  | false =>
    rw [show (cond false [45] [] : List UInt8) ++ t = t from rfl]
    cases t with
    | nil => exact absurd rfl ht
    | cons b l =>
      have hb : b ≠ 45 := hh b rfl
      rw [preV, if_neg hb]
      simp only
      rw [Bool.and_false, cond_false, hbd]
theorem tells7 (r : Rt) : abacistlaw07_NumtextTells r = some true := by
  obtain ⟨s, n, d, e, f⟩ := well_form r
  have hl := text_len f
  have h1 := f.nl
  have h2 := f.dl
  have hq := q_len (d := d) (k := (endsN d).1) h1
  have hk := ends_le (by have := f.pos; omega : d ≠ 0) h2
  have hpt := pt_len (endsN d).1 (decT (n * 10 ^ (endsN d).1 / d)) (by omega) (by omega)
  have hpl : (cond (endsN d).2 (ptN (endsN d).1 (decT (n * 10 ^ (endsN d).1 / d)), true) ([], false) : List UInt8 × Bool).1.length ≤ 10000 := by
    cases (endsN d).2 with
    | true => rw [cond_true]; simp only; omega
    | false => simp
  rw [abacistlaw07_NumtextTells_eq, xTextN e f, Option.bind_some, xPoint e f, Option.bind_some, yPoint e f, Option.bind_some, xEnds e f, Option.bind_some, yEnds e f, Option.bind_some, yTextN e f, Option.bind_some]
  rw [cF (by rw [decide_eq_true rfl]; rfl), cF (by rw [decide_eq_true rfl]; rfl), cF (by simp), cF (by rw [decide_eq_true rfl]; rfl), cF (by simp), decide_eq_false (by omega), abacistlaw07_NumtextTells_1_eq, cond_false, xParseN _ (by omega), Option.bind_some, xDec _ (by omega), Option.bind_some, yWell, Option.bind_some, parse_text f, e]
  simp only [beq_self_eq_true, decide_true, Bool.true_and, cond_true]
  cases hb : (endsN d).2 with
  | false => simp [knownN]
  | true =>
    rw [cond_true]
    simp only [Bool.not_true, cond_false]
    by_cases h4 : ((ptN (endsN d).1 (decT (n * 10 ^ (endsN d).1 / d))).length : Int) > 400
    · rw [cT (decide_eq_true h4), knownN]; rfl
    · obtain ⟨e1, _⟩ := dec_pt f.pos' hb (by omega)
      have habs : abacistref05_Abs r = some (false, nat n, nat d) := by rw [abacistref05_Abs_eq, yWell, Option.bind_some, e]
      rw [cF (decide_eq_false h4), e1, habs, Option.bind_some]
      simp [knownN]
end Go.Proofs.YtenapomineinbaaGreatDoor.D
namespace Go.Proofs.YtenapomineinbaaGreatDoor.K
open Go
theorem NumtextTells (r : Bool × List UInt8 × List UInt8) (_ : Wf (.pair .bool (.pair .str .str)) r) : abacistlaw07_NumtextTells r = some true := D.tells7 r
theorem NumtextParse (s : List UInt8) (_ : Wf .str s) : abacistlaw07_NumtextParse s = some true := D.parses7 s
end Go.Proofs.YtenapomineinbaaGreatDoor.K

/- Values: plain Lean; the program's and the reference's. -/
set_option linter.unusedVariables false
set_option linter.unusedSimpArgs false
namespace Go.Proofs.YtenapomineinbaaGreatDoor.D
open Go Go.Proofs.YtenapomineinbaaGreatDoor.K
open Go.Proofs.YtenapomineinbaaGreatDoor.P (nat val val_nat nat_zero nat_eq_nil nat_inj nat_one wS inC dv good dig dig_le decT decT_good decT_ne)
abbrev Vl := Int × (Bool × List UInt8 × List UInt8) × List UInt8 × Bool × Int
def eqV (v w : Vl) : Bool := (decide (v.1 = w.1)) && ((v.2.1.1 == w.2.1.1) && ((decide (v.2.1.2.1 = w.2.1.2.1)) && ((decide (v.2.1.2.2 = w.2.1.2.2)) && ((decide (v.2.2.1 = w.2.2.1)) && ((v.2.2.2.1 == w.2.2.2.1) && (decide (v.2.2.2.2 = w.2.2.2.2)))))))
theorem eqV_eq (v w : Vl) : eqV v w = decide (v = w) := by
  obtain ⟨a, ⟨b, c, d⟩, e, f, g⟩ := v
  obtain ⟨a', ⟨b', c', d'⟩, e', f', g'⟩ := w
  unfold eqV
  rw [Bool.eq_iff_iff]
  simp only [Bool.and_eq_true, decide_eq_true_eq, beq_iff_eq, Prod.mk.injEq]
  constructor
  · rintro ⟨h1, h2, h3, h4, h5, h6, h7⟩; exact ⟨h1, ⟨h2, h3, h4⟩, h5, h6, h7⟩
  · rintro ⟨h1, ⟨h2, h3, h4⟩, h5, h6, h7⟩; exact ⟨h1, h2, h3, h4, h5, h6, h7⟩
def blank : Vl := (0, (false, [], []), [], false, 0)
/-! ### which texts can be values -/
def pl1 (b : UInt8) : Bool := decide (32 ≤ b.toNat) && decide (b.toNat ≤ 126)
def plainV (s : List UInt8) : Bool := s.all pl1 && decide (s.length ≤ 200)
theorem all_drop {p : UInt8 → Bool} {s : List UInt8} {i : Nat} (h : i < s.length) : (s.drop i).all p = (p (s.getD i 0) && (s.drop (i + 1)).all p) := by rw [getD_drop h, List.all_cons]
theorem xPlain1 (s : List UInt8) (hs : s.length ≤ 9223372036854775807) : ∀ (m i : Nat), i + m = s.length → value_plain_1 s (s.map fun b => (b.toNat : Int)) ((s.map fun b => (b.toNat : Int)).length : Int) (i : Int) = some ((s.drop i).all pl1 && decide (s.length ≤ 200))
  | 0, i, h => by
    rw [value_plain_1_eq, cF (decide_eq_false (by rw [List.length_map]; omega)), List.drop_of_length_le (by omega)]
    exact congrArg some (decide_eq_decide.2 (by omega))
  | m + 1, i, h => by
    have hi : i < s.length := by omega
    have hg : (s.map fun b => (b.toNat : Int)).getD (i : Int).toNat 0 = ((s.getD i 0).toNat : Int) := by simp [List.getD, hi]
    have next : value_plain_2 s (s.map fun b => (b.toNat : Int)) ((s.map fun b => (b.toNat : Int)).length : Int) (i : Int) false = some ((s.drop (i + 1)).all pl1 && decide (s.length ≤ 200)) := by
      rw [value_plain_2_eq, cond_false, wS (by omega)]; exact xPlain1 s hs m (i + 1) (by omega)
    have stop : value_plain_2 s (s.map fun b => (b.toNat : Int)) ((s.map fun b => (b.toNat : Int)).length : Int) (i : Int) true = some false := by rw [value_plain_2_eq, cond_true]
    rw [value_plain_1_eq, cT (decide_eq_true (by rw [List.length_map]; omega)), cT (by rw [List.length_map]; exact ix hi), hg, all_drop hi]
    generalize s.getD i 0 = c
    by_cases h1 : c.toNat < 32
    · rw [cT (decide_eq_true (by omega)), stop, show pl1 c = false by unfold pl1; simp; omega]; rfl
    · rw [cF (decide_eq_false (by omega))]
      by_cases h2 : c.toNat > 126
      · rw [decide_eq_true (show (c.toNat : Int) > 126 by omega), stop, show pl1 c = false by unfold pl1; simp; omega]; rfl
      · rw [decide_eq_false (show ¬ (c.toNat : Int) > 126 by omega), next, show pl1 c = true by unfold pl1; simp; omega]; rfl
theorem xPlain (s : List UInt8) (hs : s.length ≤ 9223372036854775807) : value_plain s = some (plainV s) := (value_plain_eq s).trans (xPlain1 s hs s.length 0 (Nat.zero_add _))
theorem yPlain1 (s : List UInt8) (hs : s.length ≤ 200) : ∀ (m i : Nat), i + m = s.length → abacistref08_Plain_1 s (i : Int) = some ((s.drop i).all pl1)
  | 0, i, h => by
    rw [abacistref08_Plain_1_eq, cF (decide_eq_false (by omega)), List.drop_of_length_le (by omega)]; rfl
  | m + 1, i, h => by
    have hi : i < s.length := by omega
    have next : abacistref08_Plain_2 s (i : Int) false = some ((s.drop (i + 1)).all pl1) := by
      rw [abacistref08_Plain_2_eq, cond_false, wS (by omega)]; exact yPlain1 s hs m (i + 1) (by omega)
    have stop : abacistref08_Plain_2 s (i : Int) true = some false := by rw [abacistref08_Plain_2_eq, cond_true]
    rw [abacistref08_Plain_1_eq, cT (decide_eq_true (by omega)), cT (ix hi), cT (ix hi), Int.toNat_natCast, all_drop hi]
    generalize s.getD i 0 = c
    by_cases h1 : c.toNat < 32
    · rw [cT (decide_eq_true (by omega)), stop, show pl1 c = false by unfold pl1; simp; omega]; rfl
    · rw [cF (decide_eq_false (by omega))]
      by_cases h2 : c.toNat > 126
      · rw [decide_eq_true (show (c.toNat : Int) > 126 by omega), stop, show pl1 c = false by unfold pl1; simp; omega]; rfl
      · rw [decide_eq_false (show ¬ (c.toNat : Int) > 126 by omega), next, show pl1 c = true by unfold pl1; simp; omega]; rfl
theorem yPlain (s : List UInt8) : abacistref08_Plain s = some (plainV s) := by
  rw [abacistref08_Plain_eq]
  by_cases h : s.length ≤ 200
  · have := yPlain1 s h s.length 0 (Nat.zero_add _)
    rw [cF (decide_eq_false (by omega)), plainV, decide_eq_true h, Bool.and_true]; exact this
  · rw [cT (decide_eq_true (by omega)), plainV, decide_eq_false h, Bool.and_false]
/-! ### names of faults -/
def namesL : List (List UInt8) := [[], [35, 68, 73, 86, 47, 48, 33], [35, 86, 65, 76, 85, 69, 33], [35, 82, 69, 70, 33], [35, 78, 65, 77, 69, 63], [35, 78, 85, 77, 33], [35, 78, 47, 65], [35, 67, 73, 82, 67, 33]]
def isF (n : Int) : Bool := decide (1 ≤ n) && decide (n ≤ 7)
def nameV (n : Int) : List UInt8 := cond (isF n) (namesL.getD n.toNat []) []
theorem isF_cases {n : Int} (h : isF n = true) : n = 1 ∨ n = 2 ∨ n = 3 ∨ n = 4 ∨ n = 5 ∨ n = 6 ∨ n = 7 := by
  unfold isF at h
  simp at h
  omega
theorem isF_not {n : Int} (h : isF n = false) : n < 1 ∨ 7 < n := by
  unfold isF at h
  simp at h
  omega
theorem xName (n : Int) : value_Name n = some (nameV n) := by
  rw [value_Name_eq, value_Name_1_eq, nameV]
  by_cases h0 : n < 0
  · rw [cT (decide_eq_true h0), value_Name_2_eq, show isF n = false by unfold isF; simp; omega]; rfl
  · rw [cF (decide_eq_false h0), value_Name_2_eq]
    by_cases h8 : n ≥ 8
    · rw [cT (decide_eq_true h8), show isF n = false by unfold isF; simp; omega]; rfl
    · rw [cF (decide_eq_false h8), cT (by simp; omega)]
      by_cases hz : n = 0
      · subst hz; rfl
      · rw [show isF n = true by unfold isF; simp; omega]; rfl
theorem yName (n : Int) : abacistref08_Name n = some (nameV n) := by
  rw [abacistref08_Name_eq, nameV]
  simp only [abacistref08_Name_1_eq, abacistref08_names_eq, Option.bind_some]
  cases hf : isF n with
  | true => rcases isF_cases hf with h | h | h | h | h | h | h <;> subst h <;> rfl
  | false =>
    rcases isF_not hf with h | h
    · rw [cT (decide_eq_true h)]; rfl
    · rw [cF (decide_eq_false (by omega)), cT (decide_eq_true (by omega))]; rfl
def namedF (s : List UInt8) : Nat → Nat → Int × Bool
  | 0, _ => (0, false)
  | m + 1, i => if 0 < i ∧ namesL.getD i [] = s then ((i : Int), true) else namedF s m (i + 1)
theorem xNamed1 (s : List UInt8) : ∀ (m i : Nat), i + m = 8 → value_Named_2 s [] [35, 68, 73, 86, 47, 48, 33] [35, 86, 65, 76, 85, 69, 33] [35, 82, 69, 70, 33] [35, 78, 65, 77, 69, 63] [35, 78, 85, 77, 33] [35, 78, 47, 65] [35, 67, 73, 82, 67, 33] (i : Int) = some (namedF s m i)
  | 0, i, h => by rw [value_Named_2_eq, cF (decide_eq_false (by omega))]; rfl
  | m + 1, i, h => by
    have next : value_Named_3 s (i : Int) [] [35, 68, 73, 86, 47, 48, 33] [35, 86, 65, 76, 85, 69, 33] [35, 82, 69, 70, 33] [35, 78, 65, 77, 69, 63] [35, 78, 85, 77, 33] [35, 78, 47, 65] [35, 67, 73, 82, 67, 33] (i : Int) false = some (namedF s m (i + 1)) := by
      rw [value_Named_3_eq, cond_false, wS (by omega), xNamed1 s m (i + 1) (by omega)]
    rw [value_Named_2_eq, cT (decide_eq_true (by omega)), cT (by simp; omega), Int.toNat_natCast, namedF]
    by_cases h0 : 0 < i
    · rw [cT (decide_eq_true (by omega))]
      by_cases hs : namesL.getD i [] = s
      · rw [if_pos ⟨h0, hs⟩, decide_eq_true (show (([[], [35, 68, 73, 86, 47, 48, 33], [35, 86, 65, 76, 85, 69, 33], [35, 82, 69, 70, 33], [35, 78, 65, 77, 69, 63], [35, 78, 85, 77, 33], [35, 78, 47, 65], [35, 67, 73, 82, 67, 33]] : List (List UInt8)).getD i []) = s from hs), value_Named_3_eq, cond_true]
      · rw [if_neg (fun h => hs h.2), decide_eq_false (show ¬ (([[], [35, 68, 73, 86, 47, 48, 33], [35, 86, 65, 76, 85, 69, 33], [35, 82, 69, 70, 33], [35, 78, 65, 77, 69, 63], [35, 78, 85, 77, 33], [35, 78, 47, 65], [35, 67, 73, 82, 67, 33]] : List (List UInt8)).getD i []) = s from hs), next]
    · rw [cF (decide_eq_false (by omega)), if_neg (fun h => h0 h.1), next]
def namedV (s : List UInt8) : Int × Bool := namedF s 7 1
theorem xNamed (s : List UInt8) : value_Named s = some (namedV s) := by
  rw [value_Named_eq, value_Named_1_eq]
  exact xNamed1 s 8 0 rfl
theorem yNamed1 (s : List UInt8) : ∀ (m i : Nat), i + m = 8 → 1 ≤ i → abacistref08_Named_1 s (i : Int) = some (namedF s m i)
  | 0, i, h, _ => by rw [abacistref08_Named_1_eq, cF (decide_eq_false (by omega))]; rfl
  | m + 1, i, h, h1 => by
    rw [abacistref08_Named_1_eq, cT (decide_eq_true (by omega)), yName, Option.bind_some, nameV, show isF (i : Int) = true by unfold isF; simp; omega, cond_true, Int.toNat_natCast, namedF]
    by_cases hs : namesL.getD i [] = s
    · rw [if_pos ⟨by omega, hs⟩, cT (decide_eq_true hs)]
    · rw [if_neg (fun h => hs h.2), cF (decide_eq_false hs), wS (by omega), yNamed1 s m (i + 1) (by omega) (by omega)]
theorem yNamed (s : List UInt8) : abacistref08_Named s = some (namedV s) := (abacistref08_Named_eq s).trans (yNamed1 s 7 1 rfl (Nat.le_refl _))
theorem namedF_spec (s : List UInt8) : ∀ (m i : Nat), 1 ≤ i → i + m = 8 → (namedF s m i).2 = true → isF (namedF s m i).1 = true ∧ nameV (namedF s m i).1 = s
  | 0, i, _, _, h => by cases h
  | m + 1, i, h1, h8, h => by
    unfold namedF at h ⊢
    by_cases hs : 0 < i ∧ namesL.getD i [] = s
    · rw [if_pos hs]
      have hf : isF (i : Int) = true := by unfold isF; simp; omega
      exact ⟨hf, by unfold nameV; rw [hf, cond_true, Int.toNat_natCast]; exact hs.2⟩
    · rw [if_neg hs] at h ⊢
      exact namedF_spec s m (i + 1) (by omega) (by omega) h
theorem named_hash {s : List UInt8} (h : (namedV s).2 = true) : s.head? = some 35 := by
  obtain ⟨h1, h2⟩ := namedF_spec s 7 1 (Nat.le_refl _) rfl h
  rw [← h2]
  rcases isF_cases h1 with h | h | h | h | h | h | h <;> rw [h] <;> rfl
/-! ### values of their kinds -/
def vNum (r : Rt) : Vl := (1, well r, [], false, 0)
def vFault (n : Int) : Vl := (4, (false, [], []), [], false, cond (isF n) n 2)
def vText (s : List UInt8) : Vl := cond (plainV s) (2, (false, [], []), s, false, 0) (vFault 2)
def vTruth (b : Bool) : Vl := (3, (false, [], []), [], b, 0)
def vOf (r : Rt) (e : Int) : Vl := cond (decide (e = 0)) (vNum r) (cond (decide (e = 5)) (vFault 1) (vFault 5))
theorem xvNum (r : Rt) : value_Num r = some (vNum r) := by
  rw [value_Num_eq, xRight, Option.bind_some, xROf 0 (by omega) (by omega), Option.bind_some, vNum, well, show ofI 0 = (false, [], [1]) by unfold ofI; rw [Int.natAbs_zero, nat_zero]; rfl]
  simp only [value_Num_1_eq]
  cases right r <;> rfl
theorem yvNum (r : Rt) : abacistref08_Num r = some (vNum r) := by rw [abacistref08_Num_eq, yWell]; rfl
theorem nameV_nil (n : Int) : decide (nameV n = []) = !isF n := by
  unfold nameV
  cases hf : isF n with
  | true => rcases isF_cases hf with h | h | h | h | h | h | h <;> subst h <;> rfl
  | false => rfl
theorem xvFault (n : Int) : value_Fault n = some (vFault n) := by
  rw [value_Fault_eq, xName, Option.bind_some, nameV_nil, vFault]
  simp only [value_Fault_1_eq]
  cases isF n <;> rfl
theorem yvFault (n : Int) : abacistref08_Fault n = some (vFault n) := by
  rw [abacistref08_Fault_eq, vFault]
  simp only [abacistref08_Fault_1_eq, abacistref08_Fault_2_eq]
  cases hf : isF n with
  | true => rcases isF_cases hf with h | h | h | h | h | h | h <;> subst h <;> rfl
  | false =>
    rcases isF_not hf with h | h
    · rw [cT (decide_eq_true h)]; rfl
    · rw [cF (decide_eq_false (by omega)), decide_eq_true (show n > 7 by omega)]; rfl
theorem xvText (s : List UInt8) (hs : s.length ≤ 9223372036854775807) : value_Text s = some (vText s) := by
  rw [value_Text_eq, xPlain s hs, Option.bind_some, xvFault, Option.bind_some, vText]
  cases plainV s <;> rfl
theorem yvText (s : List UInt8) : abacistref08_Text s = some (vText s) := by
  rw [abacistref08_Text_eq, yPlain s, Option.bind_some, yvFault, Option.bind_some, vText]
  cases plainV s <;> rfl
theorem xvTruth (b : Bool) : value_Truth b = some (vTruth b) := value_Truth_eq b
theorem yvTruth (b : Bool) : abacistref08_Truth b = some (vTruth b) := abacistref08_Truth_eq b
theorem xvOf (r : Rt) (e : Int) : value_Of r e = some (vOf r e) := by
  rw [value_Of_eq, xvNum, xvFault, xvFault, vOf]
  cases decide (e = 0) <;> cases decide (e = 5) <;> rfl
theorem yvOf (r : Rt) (e : Int) : abacistref08_Of r e = some (vOf r e) := by
  rw [abacistref08_Of_eq, yvNum, yvFault, yvFault, vOf]
  cases decide (e = 0) <;> cases decide (e = 5) <;> rfl
/-! ### which values can be -/
def vRight (v : Vl) : Bool :=
  cond (decide (v.1 = 0)) (decide (v = blank)) (cond (decide (v.1 = 1)) (decide (v = vNum v.2.1)) (cond (decide (v.1 = 2)) (decide (v = vText v.2.2.1)) (cond (decide (v.1 = 3)) (decide (v = vTruth v.2.2.2.1)) (cond (decide (v.1 = 4)) (decide (v = vFault v.2.2.2.2)) false))))
theorem xvRight (v : Vl) (hs : v.2.2.1.length ≤ 9223372036854775807) : value_Right v = some (vRight v) := by
  rw [value_Right_eq, xvNum, xvText _ hs, xvTruth, xvFault, vRight]
  simp only [Option.bind_some]
  show cond _ (some (eqV v blank)) (cond _ (some (eqV v (vNum v.2.1))) (cond _ (some (eqV v (vText v.2.2.1))) (cond _ (some (eqV v (vTruth v.2.2.2.1))) (cond _ (some (eqV v (vFault v.2.2.2.2))) _)))) = _
  simp only [eqV_eq]
  cases decide (v.1 = 0) <;> cases decide (v.1 = 1) <;> cases decide (v.1 = 2) <;> cases decide (v.1 = 3) <;> cases decide (v.1 = 4) <;> rfl
theorem well_iff (r : Rt) : well r = r ↔ right r = true := by
  constructor
  · intro h; rw [← h]; exact right_well r
  · exact well_of_right
theorem yvRight (v : Vl) : abacistref08_Right v = some (vRight v) := by
  rw [abacistref08_Right_eq, yRight, yPlain, Option.bind_some, Option.bind_some, vRight]
  show cond _ (some (eqV v blank)) (cond _ (cond (right v.2.1) (some (eqV v (1, v.2.1, [], false, 0))) _) (cond _ (cond (plainV v.2.2.1) (some (eqV v (2, (false, [], []), v.2.2.1, false, 0))) _) (cond _ (some (eqV v (3, (false, [], []), [], v.2.2.2.1, 0))) (cond _ (cond _ (cond _ (some (eqV v (4, (false, [], []), [], false, v.2.2.2.2))) _) _) _)))) = _
  simp only [eqV_eq]
  by_cases h0 : v.1 = 0
  · rw [cT (decide_eq_true h0), cT (decide_eq_true h0)]
  rw [cF (decide_eq_false h0), cF (decide_eq_false h0)]
  by_cases h1 : v.1 = 1
  · rw [cT (decide_eq_true h1), cT (decide_eq_true h1)]
    cases hr : right v.2.1 with
    | true => rw [cond_true, vNum, well_of_right hr]
    | false =>
      rw [cond_false, decide_eq_false]
      intro h
      have h' := congrArg (fun x : Vl => x.2.1) h
      simp only [vNum] at h'
      rw [(well_iff _).1 h'.symm] at hr; cases hr
  rw [cF (decide_eq_false h1), cF (decide_eq_false h1)]
  by_cases h2 : v.1 = 2
  · rw [cT (decide_eq_true h2), cT (decide_eq_true h2)]
    cases hr : plainV v.2.2.1 with
    | true => rw [cond_true, vText, hr, cond_true]
    | false =>
      rw [cond_false, decide_eq_false]
      intro h
      have h' := congrArg (fun x : Vl => x.1) h
      simp only [vText, hr, cond_false, vFault] at h'
      omega
  rw [cF (decide_eq_false h2), cF (decide_eq_false h2)]
  by_cases h3 : v.1 = 3
  · rw [cT (decide_eq_true h3), cT (decide_eq_true h3)]; rfl
  rw [cF (decide_eq_false h3), cF (decide_eq_false h3)]
  by_cases h4 : v.1 = 4
  · rw [cT (decide_eq_true h4), cT (decide_eq_true h4)]
    cases hr : isF v.2.2.2.2 with
    | true =>
      have hr' := isF_cases hr
      rw [cT (decide_eq_true (by omega)), cT (decide_eq_true (by omega)), vFault, hr, cond_true]
    | false =>
      have hne : decide (v = vFault v.2.2.2.2) = false := by
        refine decide_eq_false fun h => ?_
        have h' := congrArg (fun x : Vl => x.2.2.2.2) h
        simp only [vFault, hr, cond_false] at h'
        rw [h'] at hr; cases hr
      rw [hne]
      rcases isF_not hr with h | h
      · rw [cF (decide_eq_false (by omega))]
      · rw [cT (decide_eq_true (by omega)), cF (decide_eq_false (by omega))]
  rw [cF (decide_eq_false h4), cF (decide_eq_false h4)]
/-! ### how they are seen -/
def textR (r : Rt) : List UInt8 := textF (well r).1 (val (well r).2.1) (val (well r).2.2)
theorem xTextR (r : Rt) : numtext_Text r = some (textR r) := by
  obtain ⟨s, n, d, e, f⟩ := well_form r
  rw [xTextN e f, textR, e]
  simp only [val_nat]
theorem yTextR (r : Rt) : abacistref07_Text r = some (textR r) := by
  obtain ⟨s, n, d, e, f⟩ := well_form r
  rw [yTextN e f, textR, e]
  simp only [val_nat]
def tTRUE : List UInt8 := [84, 82, 85, 69]
def tFALSE : List UInt8 := [70, 65, 76, 83, 69]
def vShow (v : Vl) : List UInt8 := cond (!vRight v) [] (cond (decide (v.1 = 1)) (textR v.2.1) (cond (decide (v.1 = 3)) (cond v.2.2.2.1 tTRUE tFALSE) (cond (decide (v.1 = 4)) (nameV v.2.2.2.2) v.2.2.1)))
theorem xvShow (v : Vl) (hs : v.2.2.1.length ≤ 9223372036854775807) : value_Show v = some (vShow v) := by
  rw [value_Show_eq, xvRight v hs, Option.bind_some, xTextR, xName, vShow]
  cases vRight v <;> cases decide (v.1 = 1) <;> cases decide (v.1 = 3) <;> cases v.2.2.2.1 <;> cases decide (v.1 = 4) <;> rfl
theorem right_kind {v : Vl} (h : vRight v = true) : v.1 = 0 ∨ v.1 = 1 ∨ v.1 = 2 ∨ v.1 = 3 ∨ v.1 = 4 := by
  by_cases h0 : v.1 = 0
  · exact .inl h0
  by_cases h1 : v.1 = 1
  · exact .inr (.inl h1)
  by_cases h2 : v.1 = 2
  · exact .inr (.inr (.inl h2))
  by_cases h3 : v.1 = 3
  · exact .inr (.inr (.inr (.inl h3)))
  by_cases h4 : v.1 = 4
  · exact .inr (.inr (.inr (.inr h4)))
  unfold vRight at h
  rw [decide_eq_false h0, decide_eq_false h1, decide_eq_false h2, decide_eq_false h3, decide_eq_false h4] at h
  cases h
theorem right0 {v : Vl} (h : vRight v = true) (hk : v.1 = 0) : v = blank := by
  unfold vRight at h
  rw [decide_eq_true hk] at h
  exact of_decide_eq_true h
theorem right1 {v : Vl} (h : vRight v = true) (hk : v.1 = 1) : v = vNum v.2.1 := by
  unfold vRight at h
  rw [decide_eq_false (show ¬ v.1 = 0 by omega), decide_eq_true hk] at h
  exact of_decide_eq_true h
theorem right2 {v : Vl} (h : vRight v = true) (hk : v.1 = 2) : v = vText v.2.2.1 := by
  unfold vRight at h
  rw [decide_eq_false (show ¬ v.1 = 0 by omega), decide_eq_false (show ¬ v.1 = 1 by omega), decide_eq_true hk] at h
  exact of_decide_eq_true h
theorem right3 {v : Vl} (h : vRight v = true) (hk : v.1 = 3) : v = vTruth v.2.2.2.1 := by
  unfold vRight at h
  rw [decide_eq_false (show ¬ v.1 = 0 by omega), decide_eq_false (show ¬ v.1 = 1 by omega), decide_eq_false (show ¬ v.1 = 2 by omega), decide_eq_true hk] at h
  exact of_decide_eq_true h
theorem right4 {v : Vl} (h : vRight v = true) (hk : v.1 = 4) : v = vFault v.2.2.2.2 := by
  unfold vRight at h
  rw [decide_eq_false (show ¬ v.1 = 0 by omega), decide_eq_false (show ¬ v.1 = 1 by omega), decide_eq_false (show ¬ v.1 = 2 by omega), decide_eq_false (show ¬ v.1 = 3 by omega), decide_eq_true hk] at h
  exact of_decide_eq_true h
theorem yvShow (v : Vl) : abacistref08_Show v = some (vShow v) := by
  rw [abacistref08_Show_eq, yvRight v, Option.bind_some, yTextR, yName, vShow]
  cases hr : vRight v with
  | false => rfl
  | true =>
    rcases right_kind hr with h | h | h | h | h <;> rw [h]
    · rw [right0 hr h]; rfl
    · rfl
    · rfl
    · cases v.2.2.2.1 <;> rfl
    · rfl
end Go.Proofs.YtenapomineinbaaGreatDoor.D

/- Tokens: plain Lean; the program's. -/
set_option linter.unusedVariables false
set_option linter.unusedSimpArgs false
namespace Go.Proofs.YtenapomineinbaaGreatDoor.D
open Go Go.Proofs.YtenapomineinbaaGreatDoor.K
open Go.Proofs.YtenapomineinbaaGreatDoor.P (wS dig)
open Go.Proofs.YtenapomineinbaaGreatDoor.Q (txt txt_none txt_more txt_end posQ posQ_lt plainQ textV lexQ)
abbrev Tk := Int × List UInt8 × Int × Bool × List UInt8 × List UInt8
def zT : Tk := (0, [], 0, false, [], [])
/-! ### how many at the head are such -/
def leadD (p : UInt8 → Bool) (l : List UInt8) : Nat := (l.takeWhile p).length
theorem leadD_le (p : UInt8 → Bool) (s : List UInt8) : leadD p s ≤ s.length := by
  unfold leadD
  induction s with
  | nil => simp
  | cons b s ih => simp only [List.takeWhile_cons]; split <;> simp <;> omega
theorem leadD_drop {p : UInt8 → Bool} {s : List UInt8} {i : Nat} (h : i < s.length) : leadD p (s.drop i) = if p (s.getD i 0) = true then leadD p (s.drop (i + 1)) + 1 else 0 := by
  unfold leadD
  rw [getD_drop h, List.takeWhile_cons]
  split <;> simp
theorem leadD_end {p : UInt8 → Bool} {s : List UInt8} {i : Nat} (h : s.length ≤ i) : leadD p (s.drop i) = 0 := by rw [List.drop_of_length_le h]; rfl
theorem leadD_at (p : UInt8 → Bool) (s : List UInt8) (i : Nat) (h : i ≤ s.length) : i + leadD p (s.drop i) ≤ s.length := by
  have := leadD_le p (s.drop i)
  simp at this; omega
theorem loop_lead {α : Type} (s : List UInt8) (a : Nat) (p : UInt8 → Bool) (F K : Nat → Option α) (hF : ∀ i, a + i < s.length → F i = cond (p (s.getD (a + i) 0)) (F (i + 1)) (K i)) (hE : ∀ i, a + i = s.length → F i = K i) :
    ∀ m i, a + i + m = s.length → F i = K (i + leadD p (s.drop (a + i)))
  | 0, i, h => by rw [hE i (by omega), leadD_end (by omega)]; rfl
  | m + 1, i, h => by
    rw [hF i (by omega), leadD_drop (by omega)]
    cases hp : p (s.getD (a + i) 0) with
    | false => rfl
    | true => rw [cond_true, loop_lead s a p F K hF hE m (i + 1) (by omega), if_pos rfl]; congr 1; rw [show a + i + 1 = a + (i + 1) from rfl]; omega
theorem wA {a i : Nat} (h : a + i ≤ 9223372036854775807) : IntKind.i64.wrap ((a : Int) + (i : Int)) = ((a + i : Nat) : Int) := wrap64 (by omega) (by omega)
/-! ### bytes -/
def spc (b : UInt8) : Bool := decide (b = 32)
def ltr (b : UInt8) : Bool := (decide (65 ≤ b.toNat) && decide (b.toNat ≤ 90)) || (decide (97 ≤ b.toNat) && decide (b.toNat ≤ 122))
def wd (b : UInt8) : Bool := ltr b || (dig b || (decide (b = 36) || decide (b = 95)))
theorem geD (b : UInt8) (n : Nat) : decide ((b.toNat : Int) ≥ (n : Int)) = decide (n ≤ b.toNat) := decide_eq_decide.2 (by omega)
theorem leD (b : UInt8) (n : Nat) : decide ((b.toNat : Int) ≤ (n : Int)) = decide (b.toNat ≤ n) := decide_eq_decide.2 (by omega)
theorem eqD (b c : UInt8) : decide ((b.toNat : Int) = (c.toNat : Int)) = decide (b = c) := decide_eq_decide.2 ⟨fun h => UInt8.toNat_inj.1 (by omega), fun h => by rw [h]⟩
theorem xLdig (b : UInt8) : lex_digit (b.toNat : Int) = some (dig b) := by
  rw [lex_digit_eq, dig, show decide ((b.toNat : Int) ≥ 48) = _ from geD b 48, show decide ((b.toNat : Int) ≤ 57) = _ from leD b 57]
  cases decide (48 ≤ b.toNat) <;> rfl
theorem xWd (b : UInt8) : lex_letter (b.toNat : Int) = some (wd b) := by
  rw [lex_letter_eq, xLdig, Option.bind_some, wd, ltr, show decide ((b.toNat : Int) ≥ 65) = _ from geD b 65, show decide ((b.toNat : Int) ≤ 90) = _ from leD b 90, show decide ((b.toNat : Int) ≥ 97) = _ from geD b 97, show decide ((b.toNat : Int) ≤ 122) = _ from leD b 122, show decide ((b.toNat : Int) = 36) = _ from eqD b 36, show decide ((b.toNat : Int) = 95) = _ from eqD b 95]
  cases decide (65 ≤ b.toNat) <;> cases decide (b.toNat ≤ 90) <;> cases decide (97 ≤ b.toNat) <;> cases decide (b.toNat ≤ 122) <;> cases dig b <;> cases decide (b = 36) <;> rfl
/-! ### what stands at a place -/
def sub (s : List UInt8) (p n : Nat) : List UInt8 := (s.take (p + n)).drop p
def numK (s : List UInt8) (p : Nat) : Nat := leadD dig (s.drop (p + leadD dig (s.drop p) + 1))
def numL (s : List UInt8) (p : Nat) : Nat :=
  cond (decide (0 < numK s p) && decide (s.getD (p + leadD dig (s.drop p)) 0 = 46)) (leadD dig (s.drop p) + (1 + numK s p)) (leadD dig (s.drop p))
theorem numL_le (s : List UInt8) (p : Nat) (h : p ≤ s.length) : p + numL s p ≤ s.length := by
  have h1 := leadD_at dig s p h
  unfold numL numK
  by_cases h2 : p + leadD dig (s.drop p) + 1 ≤ s.length
  · have h3 := leadD_at dig s _ h2
    cases (decide (0 < leadD dig (s.drop (p + leadD dig (s.drop p) + 1))) && decide (s.getD (p + leadD dig (s.drop p)) 0 = 46))
    · exact h1
    · rw [cond_true]; omega
  · rw [leadD_end (by omega)]; exact h1
theorem xNum (s : List UInt8) (p : Nat) (hp : p < s.length) (hs : s.length ≤ 100000) : lex_number s (p : Int) = some (((1 : Int), sub s p (numL s p), (p : Int), (decV (sub s p (numL s p))).1), (numL s p : Int), (decV (sub s p (numL s p))).2) := by
  have hn := leadD_at dig s p (by omega)
  have l8 : ∀ n : Nat, p + n ≤ s.length → lex_number_8 s p n zT = some (((1 : Int), sub s p n, (p : Int), (decV (sub s p n)).1), (n : Int), (decV (sub s p n)).2) := by
    intro n h
    have hl : (sub s p n).length ≤ 100000 := by unfold sub; simp; omega
    rw [lex_number_8_eq, wA (by omega), cT (by simp; omega), Int.toNat_natCast, Int.toNat_natCast]
    show (numtext_Decimal (sub s p n)).bind _ = _
    rw [xDec _ hl, Option.bind_some, cT (by simp; omega)]; rfl
  have l5 : ∀ n : Nat, p + n ≤ s.length → ∀ k : Nat, p + n + k ≤ s.length ∨ k = 0 → (0 < k → p + n < s.length) → lex_number_6 s ((p + n + 1 : Nat) : Int) k false zT s p n = lex_number_7 s p n k (decide (0 < k) && decide (s.getD (p + n) 0 = 46)) zT := by
    intro n h k hk hk2
    rw [lex_number_6_eq, cond_false, wA (by omega)]
    by_cases h0 : 0 < k
    · rw [cT (decide_eq_true (by omega)), cT (ix (hk2 h0)), Int.toNat_natCast, show decide (((s.getD (p + n) 0).toNat : Int) = 46) = _ from eqD _ 46, decide_eq_true h0, Bool.true_and]
    · rw [cF (decide_eq_false (by omega)), decide_eq_false h0, Bool.false_and]
  have h1 := loop_lead s p dig (fun i => lex_number_2 s p i zT s p) (fun i => lex_number_4 s ((p + i + 1 : Nat) : Int) zT s p i)
    (fun i hi => by
      show lex_number_2 s p i zT s p = _
      rw [lex_number_2_eq, wA (by omega), cT (decide_eq_true (by omega)), cT (ix hi), Int.toNat_natCast, xLdig, Option.bind_some, lex_number_3_eq, wS (by omega), wA (by omega), show IntKind.i64.wrap (((p + i : Nat) : Int) + 1) = ((p + i + 1 : Nat) : Int) from wS (by omega)])
    (fun i hi => by
      show lex_number_2 s p i zT s p = _
      rw [lex_number_2_eq, wA (by omega), cF (decide_eq_false (by omega)), lex_number_3_eq, cond_false, wA (by omega), show IntKind.i64.wrap (((p + i : Nat) : Int) + 1) = ((p + i + 1 : Nat) : Int) from wS (by omega)])
    (s.length - p) 0 (by omega)
  simp only [Nat.zero_add, Nat.add_zero] at h1
  rw [lex_number_eq, lex_number_1_eq]
  refine Eq.trans h1 ?_
  rw [lex_number_4_eq]
  have h2 : lex_number_5 s ((p + leadD dig (s.drop p) + 1 : Nat) : Int) (0 : Nat) zT s p (leadD dig (s.drop p)) = lex_number_6 s ((p + leadD dig (s.drop p) + 1 : Nat) : Int) (numK s p) false zT s p (leadD dig (s.drop p)) := by
    unfold numK
    generalize leadD dig (s.drop p) = n at hn
    by_cases hb : p + n + 1 ≤ s.length
    · have := loop_lead s (p + n + 1) dig (fun i => lex_number_5 s ((p + n + 1 : Nat) : Int) i zT s p n) (fun i => lex_number_6 s ((p + n + 1 : Nat) : Int) i false zT s p n)
        (fun i hi => by
          show lex_number_5 s ((p + n + 1 : Nat) : Int) i zT s p n = _
          rw [lex_number_5_eq, wA (by omega), cT (decide_eq_true (by omega)), cT (ix hi), Int.toNat_natCast, xLdig, Option.bind_some]
          cases dig (s.getD (p + n + 1 + i) 0) with
          | false => rfl
          | true => rw [lex_number_6_eq, cond_true, wS (by omega)]; rfl)
        (fun i hi => by
          show lex_number_5 s ((p + n + 1 : Nat) : Int) i zT s p n = _
          rw [lex_number_5_eq, wA (by omega), cF (decide_eq_false (by omega))])
        (s.length - (p + n + 1)) 0 (by omega)
      simpa only [Nat.zero_add, Nat.add_zero] using this
    · rw [leadD_end (by omega), lex_number_5_eq, wA (by omega), cF (decide_eq_false (by omega))]
  refine Eq.trans h2 ?_
  have hk : p + leadD dig (s.drop p) + numK s p ≤ s.length ∨ numK s p = 0 := by
    unfold numK
    by_cases hb : p + leadD dig (s.drop p) + 1 ≤ s.length
    · have := leadD_at dig s _ hb; omega
    · right; exact leadD_end (by omega)
  have hk2 : 0 < numK s p → p + leadD dig (s.drop p) < s.length := by
    unfold numK
    intro h
    rcases Nat.lt_or_ge (p + leadD dig (s.drop p)) s.length with h' | h'
    · exact h'
    · rw [leadD_end (by omega)] at h; omega
  rw [l5 _ hn _ hk hk2, lex_number_7_eq]
  have hle := numL_le s p (by omega)
  unfold numL at hle ⊢
  cases hb : (decide (0 < numK s p) && decide (s.getD (p + leadD dig (s.drop p)) 0 = 46)) with
  | false => rw [hb, cond_false] at hle; rw [cond_false, cond_false]; exact l8 _ hle
  | true =>
    rw [hb, cond_true] at hle
    rw [cond_true, cond_true, show IntKind.i64.wrap (1 + (numK s p : Int)) = ((1 + numK s p : Nat) : Int) from wrap64 (by omega) (by omega), wA (by omega)]
    exact l8 _ hle
/-! ### faults' names -/
def pre (t n : List UInt8) : Bool := decide (t.take n.length = n)
def faultF (t : List UInt8) : Nat → Nat → List UInt8 → List UInt8
  | 0, _, best => best
  | m + 1, i, best => faultF t m (i + 1) (cond (decide (best.length < (nameV i).length) && pre t (nameV i)) (nameV i) best)
def faultL (s : List UInt8) (p : Nat) : List UInt8 := faultF (s.drop p) 7 1 []
theorem hasPreL (t n : List UInt8) : strings_HasPrefix t n = some (pre t n) := by
  rw [strings_HasPrefix_eq, internal_stringslite_HasPrefix_eq]
  by_cases h : n.length ≤ t.length
  · rw [cT (decide_eq_true (by omega)), cT (by simp; omega), pre]
    simp [Int.toNat_natCast]
  · rw [cF (decide_eq_false (by omega)), pre, decide_eq_false]
    · rfl
    · intro e
      have := congrArg List.length e
      simp at this; omega
theorem xFault1 (s : List UInt8) (p : Nat) (hp : p ≤ s.length) (hs : s.length ≤ 100000) : ∀ (m i : Nat) (best : List UInt8), i + m = 8 → lex_fault_1 s p best i zT = some (cond (decide (faultF (s.drop p) m i best = [])) (zT, 0, 10) ((10, faultF (s.drop p) m i best, (p : Int), false, [], []), ((faultF (s.drop p) m i best).length : Int), 0))
  | 0, i, best, h => by
    rw [lex_fault_1_eq, cF (decide_eq_false (by omega)), faultF]
    cases decide (best = []) <;> rfl
  | m + 1, i, best, h => by
    have next : ∀ b : List UInt8, lex_fault_3 s p b i zT = some (cond (decide (faultF (s.drop p) m (i + 1) b = [])) (zT, 0, 10) ((10, faultF (s.drop p) m (i + 1) b, (p : Int), false, [], []), ((faultF (s.drop p) m (i + 1) b).length : Int), 0)) := by
      intro b
      rw [lex_fault_3_eq, wS (by omega)]
      exact xFault1 s p hp hs m (i + 1) b (by omega)
    rw [lex_fault_1_eq, cT (decide_eq_true (by omega)), xName, Option.bind_some, faultF, lex_fault_2_eq, cond_false]
    by_cases h1 : best.length < (nameV i).length
    · rw [cT (decide_eq_true (by omega)), cT (by simp; omega), Int.toNat_natCast, hasPreL, Option.bind_some, lex_fault_2_eq, decide_eq_true h1, Bool.true_and]
      cases pre (s.drop p) (nameV i) with
      | true => exact next _
      | false => exact next _
    · rw [cF (decide_eq_false (by omega)), decide_eq_false h1, Bool.false_and]
      exact next _
theorem xFault (s : List UInt8) (p : Nat) (hp : p ≤ s.length) (hs : s.length ≤ 100000) : lex_fault s p = some (cond (decide (faultL s p = [])) (zT, 0, 10) ((10, faultL s p, (p : Int), false, [], []), ((faultL s p).length : Int), 0)) := by
  rw [lex_fault_eq]
  exact xFault1 s p hp hs 7 1 [] rfl
theorem pre_le {t n : List UInt8} (h : pre t n = true) : n.length ≤ t.length := by
  have := congrArg List.length (of_decide_eq_true h)
  simp at this; omega
theorem faultF_le (t : List UInt8) : ∀ (m i : Nat) (b : List UInt8), b.length ≤ t.length → (faultF t m i b).length ≤ t.length
  | 0, _, b, h => h
  | m + 1, i, b, h => by
    rw [faultF]
    refine faultF_le t m _ _ ?_
    cases hc : (decide (b.length < (nameV i).length) && pre t (nameV i)) with
    | false => exact h
    | true => rw [Bool.and_eq_true] at hc; exact pre_le hc.2
/-! ### signs -/
def one (b : UInt8) : Int :=
  cond (decide (b = 40)) 5 (cond (decide (b = 41)) 6 (cond (decide (b = 44)) 7 (cond (decide (b = 58)) 8 (cond (decide (b = 33)) 9
    (cond (decide (b = 43) || (decide (b = 45) || (decide (b = 42) || (decide (b = 47) || (decide (b = 94) || (decide (b = 38) || (decide (b = 61) || (decide (b = 60) || (decide (b = 62) || decide (b = 37)))))))))) 4 0)))))
def two (t : List UInt8) : Bool := decide (t.take 2 = [60, 62]) || (decide (t.take 2 = [60, 61]) || decide (t.take 2 = [62, 61]))
def signV (t : List UInt8) : Int × Int := cond (two t) (4, 2) (cond (decide (one (t.getD 0 0) = 0)) (0, 0) (one (t.getD 0 0), 1))
theorem xLSign (b : UInt8) (t : List UInt8) : lex_sign (b :: t) = some (signV (b :: t)) := by
  have h1 : lex_sign_1 (b :: t) = some (cond (decide (t.head? = some 61)) (4, 2) (4, 1)) := by
    rw [lex_sign_1_eq]
    cases t with
    | nil => rw [cF (decide_eq_false (by simp)), lex_sign_3_eq]; rfl
    | cons c t =>
      rw [cT (decide_eq_true (by simp; omega)), cT (by simp; omega), lex_sign_3_eq]
      show cond (decide ((c.toNat : Int) = 61)) _ _ = _
      rw [show decide ((c.toNat : Int) = 61) = _ from eqD c 61]
      simp only [List.head?_cons, Option.some.injEq]
      cases decide (c = 61) <;> rfl
  have h2 : ∀ x, lex_sign_2 x = some (cond x (4, 1) (0, 0)) := by
    intro x
    rw [lex_sign_2_eq]; cases x <;> rfl
  have h3 : strings_HasPrefix (b :: t) [60, 62] = some (decide ((b :: t).take 2 = [60, 62])) := by rw [hasPreL]; rfl
  have e : ∀ c : UInt8, decide ((((b :: t).getD 0 0).toNat : Int) = (c.toNat : Int)) = decide (b = c) := fun c => eqD b c
  rw [lex_sign_eq, cT (by simp), h1, h3, Option.bind_some, h2, h2, show decide ((((b :: t).getD 0 0).toNat : Int) = 40) = _ from e 40, show decide ((((b :: t).getD 0 0).toNat : Int) = 41) = _ from e 41, show decide ((((b :: t).getD 0 0).toNat : Int) = 44) = _ from e 44, show decide ((((b :: t).getD 0 0).toNat : Int) = 58) = _ from e 58, show decide ((((b :: t).getD 0 0).toNat : Int) = 33) = _ from e 33, show decide ((((b :: t).getD 0 0).toNat : Int) = 60) = _ from e 60, show decide ((((b :: t).getD 0 0).toNat : Int) = 62) = _ from e 62, show decide ((((b :: t).getD 0 0).toNat : Int) = 43) = _ from e 43, show decide ((((b :: t).getD 0 0).toNat : Int) = 45) = _ from e 45, show decide ((((b :: t).getD 0 0).toNat : Int) = 42) = _ from e 42, show decide ((((b :: t).getD 0 0).toNat : Int) = 47) = _ from e 47, show decide ((((b :: t).getD 0 0).toNat : Int) = 94) = _ from e 94, show decide ((((b :: t).getD 0 0).toNat : Int) = 38) = _ from e 38, show decide ((((b :: t).getD 0 0).toNat : Int) = 61) = _ from e 61, show decide ((((b :: t).getD 0 0).toNat : Int) = 37) = _ from e 37]
  have ht : ∀ x y : UInt8, decide ((b :: t).take 2 = [x, y]) = (decide (b = x) && decide (t.head? = some y)) := by
    intro x y
    cases t with
    | nil => simp
    | cons c t => simp [Bool.decide_and]
  unfold signV
  rw [show (b :: t).getD 0 0 = b from rfl]
  unfold two one
  rw [ht, ht, ht]
  show _ = some (cond _ _ (cond (decide (cond (decide (b = 40)) _ _ = (0 : Int))) _ _))
  by_cases g1 : b = 60
  · subst g1
    by_cases g2 : t.head? = some 62
    · rw [g2]; rfl
    · rw [decide_eq_false g2]
      by_cases g3 : t.head? = some 61
      · rw [g3]; rfl
      · rw [decide_eq_false g3]; rfl
  · by_cases g4 : b = 62
    · subst g4
      by_cases g3 : t.head? = some 61
      · rw [g3]; rfl
      · rw [decide_eq_false g3]; rfl
    · rw [decide_eq_false g1, decide_eq_false g4]
      simp only [cond_false, Bool.false_and, Bool.false_or]
      cases decide (b = 40) <;> cases decide (b = 41) <;> cases decide (b = 44) <;> cases decide (b = 58) <;> cases decide (b = 33) <;> first | rfl | skip
      cases decide (b = 43) <;> cases decide (b = 45) <;> cases decide (b = 42) <;> cases decide (b = 47) <;> first | rfl | skip
      cases decide (b = 94) <;> cases decide (b = 38) <;> cases decide (b = 61) <;> cases decide (b = 37) <;> rfl
theorem sign_le (t : List UInt8) : (signV t).2 = 0 ∨ (signV t).2 = 1 ∨ ((signV t).2 = 2 ∧ two t = true) := by
  unfold signV
  cases two t with
  | true => exact .inr (.inr ⟨rfl, rfl⟩)
  | false =>
    rw [cond_false]
    cases decide (one (t.getD 0 0) = 0)
    · exact .inr (.inl rfl)
    · exact .inl rfl
theorem two_len {t : List UInt8} (h : two t = true) : 2 ≤ t.length := by
  unfold two at h
  simp only [Bool.or_eq_true, decide_eq_true_eq] at h
  rcases h with h | h | h <;> · have := congrArg List.length h; simp at this; omega
/-! ### the one at a place -/
def fin (p : Nat) (t : Tk) (n : Nat) (e : Int) : Tk × Int × Int := cond (decide (e = 0)) (t, ((p + n : Nat) : Int), 0) (zT, (p : Int), e)
def tokAt (s : List UInt8) (p : Nat) : Tk × Int × Int :=
  cond (dig (s.getD p 0)) (fin p (1, sub s p (numL s p), (p : Int), (decV (sub s p (numL s p))).1) (numL s p) (decV (sub s p (numL s p))).2)
    (cond (decide (s.getD p 0 = 34)) (match txt (s.drop (p + 1)) with
      | none => (zT, (p : Int), 10)
      | some x => cond (plainQ x.1) ((2, x.1, (p : Int), false, [], []), ((p + (x.2 + 1) : Nat) : Int), 0) (zT, (p : Int), 10))
      (cond (decide (s.getD p 0 = 35)) (cond (decide (faultL s p = [])) (zT, (p : Int), 10) ((10, faultL s p, (p : Int), false, [], []), ((p + (faultL s p).length : Nat) : Int), 0))
        (cond (wd (s.getD p 0)) ((3, sub s p (leadD wd (s.drop p)), (p : Int), false, [], []), ((p + leadD wd (s.drop p) : Nat) : Int), 0)
          (cond (decide ((signV (s.drop p)).2 = 0)) (zT, (p : Int), 10) (((signV (s.drop p)).1, sub s p (signV (s.drop p)).2.toNat, (p : Int), false, [], []), ((p + (signV (s.drop p)).2.toNat : Nat) : Int), 0)))))
def stand (s : List UInt8) (p : Nat) : Tk × Int × Int := cond (decide (p = s.length)) ((0, [], (p : Int), false, [], []), (p : Int), 0) (tokAt s p)
def skip (s : List UInt8) (a : Nat) : Nat := a + leadD spc (s.drop a)
def nextV (s : List UInt8) (a : Int) : Tk × Int × Int := cond (decide (a < 0) || decide (a > (s.length : Int))) (zT, 0, 2) (stand s (skip s a.toNat))
theorem xNext6 (p : Nat) (n : Nat) (e : Int) (t : Tk) (h : p + n ≤ 1000000) : lex_Next_6 (p : Int) (n : Int) e zT t = some (fin p t n e) := by
  rw [lex_Next_6_eq, wA (by omega), fin]
  cases decide (e = 0) <;> rfl
theorem xTextQ (s : List UInt8) (p : Nat) (hp : p < s.length) (hs : s.length ≤ 100000) : lex_text s (p : Int) = some (textV s p) := by
  refine (top_call ..).trans ?_
  show lexQ (s, (p : Int)) = _
  unfold lexQ
  have h1 : Nat.ble s.length 1000000 = true := Nat.ble_eq_true_of_le (by omega)
  show cond (decide ((0 : Int) ≤ (p : Int)) && (decide ((p : Int) < (s.length : Int)) && Nat.ble s.length 1000000)) _ _ = _
  rw [h1, decide_eq_true (show (p : Int) < (s.length : Int) by omega), decide_eq_true (show (0 : Int) ≤ (p : Int) by omega)]
  rfl
theorem xStand (s : List UInt8) (p : Nat) (hp : p ≤ s.length) (hs : s.length ≤ 100000) (a i : Nat) (hai : a + i = p) (U : List UInt8) (b : Int) : lex_Next_5 U b i false zT zT s 0 a = some (stand s p) := by
  rw [lex_Next_5_eq, cond_false, wA (by omega), hai]
  unfold stand
  by_cases h0 : p = s.length
  · rw [cT (decide_eq_true (by omega)), decide_eq_true h0]; rfl
  rw [cF (decide_eq_false (by omega)), decide_eq_false h0, cond_false, cT (ix (by omega)), Int.toNat_natCast, xLdig, Option.bind_some, tokAt, show decide (((s.getD p 0).toNat : Int) = 34) = _ from eqD _ 34, show decide (((s.getD p 0).toNat : Int) = 35) = _ from eqD _ 35, xWd, Option.bind_some]
  have hnl := numL_le s p hp
  have hwl := leadD_at wd s p hp
  have hfl : (faultL s p).length ≤ (s.drop p).length := faultF_le _ 7 1 [] (Nat.zero_le _)
  rw [List.length_drop] at hfl
  cases dig (s.getD p 0) with
  | true => rw [cond_true, cond_true, xNum s p (by omega) hs, Option.bind_some]; exact xNext6 p _ _ _ (by omega)
  | false =>
    rw [cond_false, cond_false]
    cases decide (s.getD p 0 = 34) with
    | true =>
      rw [cond_true, cond_true, xTextQ s p (by omega) hs, Option.bind_some, textV]
      cases ht : txt (s.drop (p + 1)) with
      | none => exact xNext6 p 0 10 zT (by omega)
      | some x =>
        have hl := Q.txt_len _ _ (Nat.le_refl _) x.1 x.2 ht
        simp at hl
        dsimp only
        cases plainQ x.1 with
        | true => exact xNext6 p (x.2 + 1) 0 _ (by omega)
        | false => exact xNext6 p 0 10 zT (by omega)
    | false =>
      rw [cond_false, cond_false]
      cases decide (s.getD p 0 = 35) with
      | true =>
        rw [cond_true, cond_true, xFault s p hp hs, Option.bind_some]
        cases decide (faultL s p = []) with
        | true => exact xNext6 p 0 10 zT (by omega)
        | false => exact xNext6 p (faultL s p).length 0 _ (by omega)
      | false =>
        rw [cond_false, cond_false]
        cases wd (s.getD p 0) with
        | true =>
          rw [cond_true, cond_true, lex_Next_7_eq]
          have h1 := loop_lead s p wd (fun i => lex_Next_9 s p i zT zT s p 0) (fun i => lex_Next_10 s p i false zT zT s p 0)
            (fun i hi => by
              show lex_Next_9 s p i zT zT s p 0 = _
              rw [lex_Next_9_eq, wA (by omega), cT (decide_eq_true (by omega)), cT (ix hi), Int.toNat_natCast, xWd, Option.bind_some]
              cases wd (s.getD (p + i) 0) with
              | false => rfl
              | true => rw [lex_Next_10_eq, cond_true, wS (by omega)]; rfl)
            (fun i hi => by
              show lex_Next_9 s p i zT zT s p 0 = _
              rw [lex_Next_9_eq, wA (by omega), cF (decide_eq_false (by omega))])
            (s.length - p) 0 (by omega)
          simp only [Nat.zero_add, Nat.add_zero] at h1
          refine Eq.trans h1 ?_
          rw [lex_Next_10_eq, cond_false, wA (by omega), cT (by simp; omega), Int.toNat_natCast, Int.toNat_natCast]
          exact xNext6 p _ 0 _ (by omega)
        | false =>
          rw [cond_false, cond_false, cT (by simp; omega), getD_drop (show p < s.length by omega), xLSign, ← getD_drop (show p < s.length by omega), Option.bind_some]
          have hsl := sign_le (s.drop p)
          have htl : two (s.drop p) = true → p + 2 ≤ s.length := fun h => by have := two_len h; simp at this; omega
          generalize hq : signV (s.drop p) = q at hsl
          by_cases hz : q.2 = 0
          · rw [cT (decide_eq_true hz), decide_eq_true hz, lex_Next_8_eq, cT (by rfl)]; rfl
          · obtain ⟨m, hm⟩ : ∃ m : Nat, q.2 = (m : Int) := ⟨q.2.toNat, by omega⟩
            have hpm : p + m ≤ s.length := by
              rcases hsl with h | h | ⟨h, h2⟩
              · omega
              · omega
              · have := htl h2; omega
            rw [cF (decide_eq_false hz), decide_eq_false hz, cond_false, hm, wA (by omega), cT (by simp; omega), Int.toNat_natCast, Int.toNat_natCast]
            exact xNext6 p m 0 _ (by omega)
theorem xNext (s : List UInt8) (hs : s.length ≤ 100000) (a : Int) : lex_Next s a = some (nextV s a) := by
  have h1 : ∀ b, lex_Next_1 s a 0 b zT zT = cond b (some (zT, 0, 2)) (lex_Next_3 s a 0 zT zT s 0 a) := by
    intro b
    rw [lex_Next_1_eq, lex_Next_2_eq]; rfl
  rw [lex_Next_eq, nextV]
  by_cases h0 : a < 0
  · rw [cT (decide_eq_true h0), decide_eq_true h0]
    exact h1 true
  rw [cF (decide_eq_false h0), decide_eq_false h0, Bool.false_or]
  refine (h1 _).trans ?_
  by_cases h2 : a > (s.length : Int)
  · rw [decide_eq_true h2]; rfl
  rw [decide_eq_false h2, cond_false, cond_false]
  obtain ⟨n, rfl⟩ : ∃ n : Nat, a = (n : Int) := ⟨a.toNat, by omega⟩
  have h3 := loop_lead s n spc (fun i => lex_Next_3 s n i zT zT s 0 n) (fun i => lex_Next_5 s n i false zT zT s 0 n)
    (fun i hi => by
      show lex_Next_3 s n i zT zT s 0 n = _
      rw [lex_Next_3_eq, wA (by omega), cT (decide_eq_true (by omega)), cT (ix hi), Int.toNat_natCast, lex_Next_4_eq, cond_true, show decide (((s.getD (n + i) 0).toNat : Int) = 32) = _ from eqD _ 32]
      show lex_Next_5 s n i (spc (s.getD (n + i) 0)) zT zT s 0 n = _
      cases spc (s.getD (n + i) 0) with
      | false => rfl
      | true => rw [lex_Next_5_eq, cond_true, wS (by omega)]; rfl)
    (fun i hi => by
      show lex_Next_3 s n i zT zT s 0 n = _
      rw [lex_Next_3_eq, wA (by omega), cF (decide_eq_false (by omega))])
    (s.length - n) 0 (by omega)
  simp only [Nat.zero_add, Nat.add_zero] at h3
  refine Eq.trans h3 ?_
  have h4 := leadD_at spc s n (by omega)
  rw [Int.toNat_natCast]
  exact xStand s (skip s n) h4 hs n _ rfl _ _
end Go.Proofs.YtenapomineinbaaGreatDoor.D

/- Tokens: plain Lean; the reference's. -/
set_option linter.unusedVariables false
set_option linter.unusedSimpArgs false
namespace Go.Proofs.YtenapomineinbaaGreatDoor.D
open Go Go.Proofs.YtenapomineinbaaGreatDoor.K
open Go.Proofs.YtenapomineinbaaGreatDoor.P (wS dig)
open Go.Proofs.YtenapomineinbaaGreatDoor.Q (txt txt_none txt_more txt_end posQ posQ_lt plainQ textV lexQ)
theorem yDigB (b : UInt8) : abacistref11_Digit (b.toNat : Int) = some (dig b) := by
  rw [abacistref11_Digit_eq, dig, show decide ((b.toNat : Int) ≥ 48) = _ from geD b 48, show decide ((b.toNat : Int) ≤ 57) = _ from leD b 57]
  cases decide (48 ≤ b.toNat) <;> rfl
theorem yLtrB (b : UInt8) : abacistref11_Letter (b.toNat : Int) = some (ltr b) := by
  rw [abacistref11_Letter_eq, ltr, show decide ((b.toNat : Int) ≥ 65) = _ from geD b 65, show decide ((b.toNat : Int) ≤ 90) = _ from leD b 90, show decide ((b.toNat : Int) ≥ 97) = _ from geD b 97, show decide ((b.toNat : Int) ≤ 122) = _ from leD b 122]
  cases decide (65 ≤ b.toNat) <;> cases decide (b.toNat ≤ 90) <;> cases decide (97 ≤ b.toNat) <;> cases decide (b.toNat ≤ 122) <;> rfl
theorem yWd (b : UInt8) : abacistref12_word (b.toNat : Int) = some (wd b) := by
  rw [abacistref12_word_eq, yLtrB, Option.bind_some, yDigB, Option.bind_some, wd, show decide ((b.toNat : Int) = 36) = _ from eqD b 36, show decide ((b.toNat : Int) = 95) = _ from eqD b 95]
  cases ltr b <;> cases dig b <;> cases decide (b = 36) <;> rfl
theorem yDigRun (s : List UInt8) (a : Nat) (ha : a ≤ s.length) (hs : s.length ≤ 100000) : abacistref12_digits s a = some ((a + leadD dig (s.drop a) : Nat) : Int) := by
  rw [abacistref12_digits_eq]
  have h := loop_lead s a dig (fun i => abacistref12_digits_1 s ((a + i : Nat) : Int)) (fun i => some ((a + i : Nat) : Int))
    (fun i hi => by
      show abacistref12_digits_1 s ((a + i : Nat) : Int) = _
      rw [abacistref12_digits_1_eq, cT (decide_eq_true (by omega)), cT (ix hi), Int.toNat_natCast, yDigB, Option.bind_some, abacistref12_digits_2_eq, wS (by omega)]; rfl)
    (fun i hi => by
      show abacistref12_digits_1 s ((a + i : Nat) : Int) = _
      rw [abacistref12_digits_1_eq, cF (decide_eq_false (by omega)), abacistref12_digits_2_eq, cond_false])
    (s.length - a) 0 (by omega)
  simpa only [Nat.zero_add, Nat.add_zero] using h
theorem yLNum (s : List UInt8) (p : Nat) (hp : p < s.length) (hs : s.length ≤ 100000) : abacistref12_number s p = some (fin p (1, sub s p (numL s p), (p : Int), (decV (sub s p (numL s p))).1) (numL s p) (decV (sub s p (numL s p))).2) := by
  have hn := leadD_at dig s p (by omega)
  have l2 : ∀ n : Nat, p + n ≤ s.length → abacistref12_number_2 s p ((p + n : Nat) : Int) zT = some (fin p (1, sub s p n, (p : Int), (decV (sub s p n)).1) n (decV (sub s p n)).2) := by
    intro n h
    have hl : (sub s p n).length ≤ 100000 := by unfold sub; simp; omega
    rw [abacistref12_number_2_eq, cT (by simp; omega), Int.toNat_natCast, Int.toNat_natCast]
    show (abacistref07_Decimal (sub s p n)).bind _ = _
    rw [yDec _ hl, Option.bind_some, cT (c := decide (0 ≤ (p : Int)) && _) (by simp; omega), fin]
    cases decide ((decV (sub s p n)).2 = 0) <;> rfl
  have hle := numL_le s p (by omega)
  have flag : ∀ b, b = (decide (0 < numK s p) && decide (s.getD (p + leadD dig (s.drop p)) 0 = 46)) → abacistref12_number_1 s p ((p + leadD dig (s.drop p) : Nat) : Int) b zT = some (fin p (1, sub s p (numL s p), (p : Int), (decV (sub s p (numL s p))).1) (numL s p) (decV (sub s p (numL s p))).2) := by
    intro b hb
    rw [abacistref12_number_1_eq]
    unfold numL at hle ⊢
    rw [← hb] at hle ⊢
    cases b with
    | false => rw [cond_false]; rw [cond_false] at hle; exact l2 _ hle
    | true =>
      have hk : 0 < numK s p := by
        have := hb.symm
        rw [Bool.and_eq_true] at this
        exact of_decide_eq_true this.1
      have hlt : p + leadD dig (s.drop p) + 1 ≤ s.length := by
        rcases Nat.lt_or_ge s.length (p + leadD dig (s.drop p) + 1) with h | h
        · unfold numK at hk; rw [leadD_end (by omega)] at hk; omega
        · exact h
      rw [cond_true] at hle ⊢
      rw [wS (by omega), yDigRun _ _ hlt hs, Option.bind_some]
      have := l2 _ hle
      rw [show p + leadD dig (s.drop p) + 1 + leadD dig (s.drop (p + leadD dig (s.drop p) + 1)) = p + (leadD dig (s.drop p) + (1 + numK s p)) by unfold numK; omega]
      exact this
  rw [abacistref12_number_eq, yDigRun _ _ (by omega) hs, Option.bind_some, wS (by omega)]
  by_cases h1 : p + leadD dig (s.drop p) + 1 < s.length
  · have hk : decide (0 < numK s p) = dig (s.getD (p + leadD dig (s.drop p) + 1) 0) := by
      unfold numK
      rw [leadD_drop h1]
      cases dig (s.getD (p + leadD dig (s.drop p) + 1) 0) <;> simp
    rw [cT (decide_eq_true (by omega)), cT (ix (by omega)), Int.toNat_natCast, show decide (((s.getD (p + leadD dig (s.drop p)) 0).toNat : Int) = 46) = _ from eqD _ 46, cT (ix h1), Int.toNat_natCast, yDigB, Option.bind_some]
    cases hd : decide (s.getD (p + leadD dig (s.drop p)) 0 = 46) with
    | true => exact flag _ (by rw [hk, hd, Bool.and_true])
    | false => exact flag _ (by rw [hd, Bool.and_false])
  · rw [cF (decide_eq_false (by omega))]
    exact flag _ (by
      have : numK s p = 0 := by unfold numK; exact leadD_end (by omega)
      rw [this]; rfl)
/-! ### texts -/
theorem txt_nil : txt [] = none := txt_none rfl
theorem txt_two (t : List UInt8) : txt (34 :: 34 :: t) = (txt t).map fun x => (34 :: x.1, 2 + x.2) := by
  rw [txt_more (k := 0) rfl rfl]
  show (txt t).map _ = _
  cases txt t with
  | none => rfl
  | some x => simp
theorem txt_one {t : List UInt8} (h : t.head? ≠ some 34) : txt (34 :: t) = some ([], 1) := by
  rw [txt_end (k := 0) rfl]
  · rfl
  · cases t with
    | nil => rfl
    | cons c t =>
      show ((34 : UInt8) == c && true) = false
      rw [Bool.and_true]
      exact beq_eq_false_iff_ne.2 (fun e => h (by rw [e]; rfl))
theorem txt_other {c : UInt8} {t : List UInt8} (h : c ≠ 34) : txt (c :: t) = (txt t).map fun x => (c :: x.1, 1 + x.2) := by
  have hpos : posQ 34 (c :: t) = (posQ 34 t).map (· + 1) := by simp only [posQ]; rw [if_neg h]
  cases hp : posQ 34 t with
  | none =>
    rw [hp] at hpos
    rw [txt_none hpos, txt_none hp]; rfl
  | some k =>
    rw [hp] at hpos
    cases h2 : [34].isPrefixOf (t.drop (k + 1)) with
    | true =>
      rw [txt_more (k := k + 1) hpos h2, txt_more hp h2]
      show (txt (t.drop (k + 2))).map _ = _
      cases txt (t.drop (k + 2)) with
      | none => rfl
      | some x => simp; omega
    | false =>
      rw [txt_end (k := k + 1) hpos h2, txt_end hp h2]
      simp; omega
def textW (s : List UInt8) (p : Nat) (out : List UInt8) (i : Nat) : Tk × Int × Int := match txt (s.drop i) with
  | none => (zT, (p : Int), 10)
  | some x => cond (plainV (out ++ x.1)) ((2, out ++ x.1, (p : Int), false, [], []), ((i + x.2 : Nat) : Int), 0) (zT, (p : Int), 10)
theorem yText1 (s : List UInt8) (p : Nat) (hs : s.length ≤ 100000) : ∀ (m i : Nat) (out : List UInt8), s.length - i ≤ m → i ≤ s.length → out.length ≤ i → abacistref12_text_1 s p out i zT = some (textW s p out i)
  | m, i, out, h, hi, ho => by
    rw [abacistref12_text_1_eq]
    by_cases h0 : i = s.length
    · rw [cF (decide_eq_false (by omega)), textW, List.drop_of_length_le (by omega), txt_nil]; rfl
    match m with
    | 0 => omega
    | m + 1 =>
    have hlt : i < s.length := by omega
    rw [cT (decide_eq_true (by omega)), cT (ix hlt), Int.toNat_natCast, show decide (((s.getD i 0).toNat : Int) = 34) = _ from eqD _ 34]
    by_cases hc : s.getD i 0 = 34
    · rw [decide_eq_true hc, Bool.not_true, cond_false]
      have hd : s.drop i = 34 :: s.drop (i + 1) := by rw [getD_drop hlt, hc]
      have two : ∀ b, b = decide ((s.drop (i + 1)).head? = some 34) → abacistref12_text_3 s p out i b zT = some (textW s p out i) := by
        intro b hb
        rw [abacistref12_text_3_eq]
        cases b with
        | false =>
          rw [cond_false, yPlain, Option.bind_some, textW, hd, txt_one (of_decide_eq_false hb.symm), wS (by omega)]
          show _ = some (cond (plainV (out ++ [])) _ _)
          rw [List.append_nil]
          cases plainV out <;> rfl
        | true =>
          have h2 := of_decide_eq_true hb.symm
          have hlt2 : i + 1 < s.length := by
            rcases Nat.lt_or_ge (i + 1) s.length with h | h
            · exact h
            · rw [List.drop_of_length_le h] at h2; cases h2
          have hd2 : s.drop (i + 1) = 34 :: s.drop (i + 2) := by
            rw [getD_drop hlt2] at h2 ⊢
            rw [Option.some.inj h2]
          rw [cond_true, cT (Nat.ble_eq_true_of_le (by simp; omega)), abacistref12_text_2_eq, wS (by omega), wS (by omega), yText1 s p hs m (i + 1 + 1) (out ++ [34]) (by omega) (by omega) (by simp; omega), textW, textW, hd, hd2, txt_two]
          rw [show i + 1 + 1 = i + 2 from rfl]
          cases txt (s.drop (i + 2)) with
          | none => rfl
          | some x =>
            simp only [Option.map_some, List.append_assoc, List.cons_append, List.nil_append]
            rw [show i + 2 + x.2 = i + (2 + x.2) by omega]
      rw [wS (by omega)]
      by_cases h1 : i + 1 < s.length
      · rw [cT (decide_eq_true (by omega)), cT (ix h1), Int.toNat_natCast, show decide (((s.getD (i + 1) 0).toNat : Int) = 34) = _ from eqD _ 34]
        exact two _ (by rw [getD_drop h1]; simp)
      · rw [cF (decide_eq_false (by omega))]
        exact two _ (by rw [List.drop_of_length_le (by omega)]; rfl)
    · have e1 : (s.take (i + 1)).drop i = [s.getD i 0] := by
        rw [List.drop_take, getD_drop hlt, show i + 1 - i = 1 by omega]; rfl
      rw [decide_eq_false hc, Bool.not_false, cond_true, wS (by omega), cT (by simp; omega), Int.toNat_natCast, e1, cT (Nat.ble_eq_true_of_le (by simp; omega)), abacistref12_text_2_eq, wS (by omega), yText1 s p hs m (i + 1) (out ++ [s.getD i 0]) (by omega) (by omega) (by simp; omega), textW, textW, getD_drop hlt, txt_other hc]
      cases txt (s.drop (i + 1)) with
      | none => rfl
      | some x =>
        simp only [Option.map_some, List.append_assoc, List.cons_append, List.nil_append]
        rw [show i + 1 + x.2 = i + (1 + x.2) by omega]
/-! ### faults, signs -/
theorem yFault1 (s : List UInt8) (p : Nat) (hp : p ≤ s.length) (hs : s.length ≤ 100000) : ∀ (m i : Nat) (best : List UInt8), i + m = 8 → best.length ≤ 100000 → abacistref12_fault_1 s p best i zT = some (cond (decide (faultF (s.drop p) m i best = [])) (zT, (p : Int), 10) ((10, faultF (s.drop p) m i best, (p : Int), false, [], []), ((p + (faultF (s.drop p) m i best).length : Nat) : Int), 0))
  | 0, i, best, h, hb => by
    rw [abacistref12_fault_1_eq, cF (decide_eq_false (by omega)), faultF, wA (by omega)]
    cases decide (best = []) <;> rfl
  | m + 1, i, best, h, hb => by
    have next : ∀ b : List UInt8, b.length ≤ 100000 → abacistref12_fault_3 s p b i zT = some (cond (decide (faultF (s.drop p) m (i + 1) b = [])) (zT, (p : Int), 10) ((10, faultF (s.drop p) m (i + 1) b, (p : Int), false, [], []), ((p + (faultF (s.drop p) m (i + 1) b).length : Nat) : Int), 0)) := by
      intro b hb
      rw [abacistref12_fault_3_eq, wS (by omega)]
      exact yFault1 s p hp hs m (i + 1) b (by omega) hb
    have hnl : (nameV i).length ≤ 10 := by
      have : i = 1 ∨ i = 2 ∨ i = 3 ∨ i = 4 ∨ i = 5 ∨ i = 6 ∨ i = 7 ∨ i = 0 := by omega
      rcases this with h | h | h | h | h | h | h | h <;> subst h <;> decide
    have l2 : ∀ c, abacistref12_fault_2 s p best i (nameV i) c zT = some (cond (decide (faultF (s.drop p) m (i + 1) (cond c (nameV i) best) = [])) (zT, (p : Int), 10) ((10, faultF (s.drop p) m (i + 1) (cond c (nameV i) best), (p : Int), false, [], []), ((p + (faultF (s.drop p) m (i + 1) (cond c (nameV i) best)).length : Nat) : Int), 0)) := by
      intro c
      rw [abacistref12_fault_2_eq]
      cases c with
      | true => exact next _ (by omega)
      | false => exact next _ hb
    rw [abacistref12_fault_1_eq, cT (decide_eq_true (by omega)), yName, Option.bind_some, faultF]
    by_cases h1 : best.length < (nameV i).length
    · rw [cT (decide_eq_true (by omega)), decide_eq_true h1, Bool.true_and, wA (by omega)]
      by_cases h2 : p + (nameV i).length ≤ s.length
      · rw [cT (decide_eq_true (by omega)), cT (by simp; omega), Int.toNat_natCast, Int.toNat_natCast, List.drop_take, show p + (nameV i).length - p = (nameV i).length by omega]
        exact l2 _
      · have : pre (s.drop p) (nameV i) = false := by
          cases hq : pre (s.drop p) (nameV i) with
          | false => rfl
          | true => have := pre_le hq; simp at this; omega
        rw [cF (decide_eq_false (by omega)), this]
        exact l2 _
    · rw [cF (decide_eq_false (by omega)), decide_eq_false h1, Bool.false_and]
      exact l2 _
theorem yOne (b : UInt8) : abacistref12_sign (b.toNat : Int) = some (one b) := by
  have h2 : ∀ x, abacistref12_sign_1 x = some (cond x 4 0) := by
    intro x
    rw [abacistref12_sign_1_eq]; cases x <;> rfl
  rw [abacistref12_sign_eq, h2, h2, one, show decide ((b.toNat : Int) = 40) = _ from eqD b 40, show decide ((b.toNat : Int) = 41) = _ from eqD b 41, show decide ((b.toNat : Int) = 44) = _ from eqD b 44, show decide ((b.toNat : Int) = 58) = _ from eqD b 58, show decide ((b.toNat : Int) = 33) = _ from eqD b 33, show decide ((b.toNat : Int) = 60) = _ from eqD b 60, show decide ((b.toNat : Int) = 62) = _ from eqD b 62, show decide ((b.toNat : Int) = 43) = _ from eqD b 43, show decide ((b.toNat : Int) = 45) = _ from eqD b 45, show decide ((b.toNat : Int) = 42) = _ from eqD b 42, show decide ((b.toNat : Int) = 47) = _ from eqD b 47, show decide ((b.toNat : Int) = 94) = _ from eqD b 94, show decide ((b.toNat : Int) = 38) = _ from eqD b 38, show decide ((b.toNat : Int) = 61) = _ from eqD b 61, show decide ((b.toNat : Int) = 37) = _ from eqD b 37]
  cases decide (b = 40) <;> cases decide (b = 41) <;> cases decide (b = 44) <;> cases decide (b = 58) <;> cases decide (b = 33) <;> first | rfl | skip
  cases decide (b = 43) <;> cases decide (b = 45) <;> cases decide (b = 42) <;> cases decide (b = 47) <;> first | rfl | skip
  cases decide (b = 94) <;> cases decide (b = 38) <;> cases decide (b = 61) <;> cases decide (b = 60) <;> cases decide (b = 62) <;> cases decide (b = 37) <;> rfl
theorem ySigns (s : List UInt8) (p : Nat) (hp : p < s.length) (hs : s.length ≤ 100000) (b : Bool) (hb : b = two (s.drop p)) : abacistref12_Next_5 s p ((s.getD p 0).toNat : Int) b zT = some (cond (decide ((signV (s.drop p)).2 = 0)) (zT, (p : Int), 10) (((signV (s.drop p)).1, sub s p (signV (s.drop p)).2.toNat, (p : Int), false, [], []), ((p + (signV (s.drop p)).2.toNat : Nat) : Int), 0)) := by
  have hg : (s.drop p).getD 0 0 = s.getD p 0 := by rw [getD_drop hp]; rfl
  rw [abacistref12_Next_5_eq, yOne, Option.bind_some, wS (by omega), signV, hg, ← hb]
  cases b with
  | true =>
    have := two_len hb.symm
    simp at this
    rw [cond_true, wrap64 (n := (p : Int) + 2) (by omega) (by omega), cT (by simp; omega)]; rfl
  | false =>
    rw [cond_false, cond_false]
    by_cases h : one (s.getD p 0) = 0
    · rw [decide_eq_true h]; rfl
    · rw [decide_eq_false h, cond_false, cT (by simp; omega)]; rfl
end Go.Proofs.YtenapomineinbaaGreatDoor.D

/- Tokens: all of a text; the law LexAll. -/
set_option linter.unusedVariables false
set_option linter.unusedSimpArgs false
namespace Go.Proofs.YtenapomineinbaaGreatDoor.D
open Go Go.Proofs.YtenapomineinbaaGreatDoor.K
open Go.Proofs.YtenapomineinbaaGreatDoor.P (wS dig)
open Go.Proofs.YtenapomineinbaaGreatDoor.Q (txt txt_none txt_more txt_end posQ posQ_lt plainQ textV lexQ)
theorem plainQV (s : List UInt8) : plainQ s = plainV s := rfl
theorem yStand (s : List UInt8) (p : Nat) (hp : p ≤ s.length) (hs : s.length ≤ 100000) : abacistref12_Next_3 s p false zT = some (stand s p) := by
  rw [abacistref12_Next_3_eq, cond_false]
  unfold stand
  by_cases h0 : p = s.length
  · rw [cT (decide_eq_true (by omega)), decide_eq_true h0]; rfl
  have hlt : p < s.length := by omega
  rw [cF (decide_eq_false (by omega)), decide_eq_false h0, cond_false, cT (ix hlt), Int.toNat_natCast, yDigB, Option.bind_some, tokAt, show decide (((s.getD p 0).toNat : Int) = 34) = _ from eqD _ 34, show decide (((s.getD p 0).toNat : Int) = 35) = _ from eqD _ 35, yWd, Option.bind_some]
  have hwl := leadD_at wd s p hp
  cases dig (s.getD p 0) with
  | true => rw [cond_true, cond_true, yLNum s p hlt hs]; rfl
  | false =>
    rw [cond_false, cond_false]
    cases decide (s.getD p 0 = 34) with
    | true =>
      rw [cond_true, cond_true, abacistref12_text_eq, wS (by omega)]
      show (abacistref12_text_1 s p [] ((p + 1 : Nat) : Int) zT).bind (fun v3 => some v3) = _
      rw [yText1 s p hs (s.length - (p + 1)) (p + 1) [] (Nat.le_refl _) (by omega) (Nat.zero_le _), Option.bind_some, textW]
      cases txt (s.drop (p + 1)) with
      | none => rfl
      | some x =>
        dsimp only
        rw [List.nil_append, plainQV, show p + 1 + x.2 = p + (x.2 + 1) by omega]
    | false =>
      rw [cond_false, cond_false]
      cases decide (s.getD p 0 = 35) with
      | true =>
        rw [cond_true, cond_true, abacistref12_fault_eq]
        have := yFault1 s p hp hs 7 1 [] rfl (Nat.zero_le _)
        refine (congrArg (fun o => o.bind fun v4 => some v4) this).trans ?_
        rfl
      | false =>
        rw [cond_false, cond_false]
        cases wd (s.getD p 0) with
        | true =>
          rw [cond_true, cond_true]
          have h1 := loop_lead s p wd (fun i => abacistref12_Next_4 s p ((p + i : Nat) : Int) zT) (fun i => some (((3 : Int), sub s p i, (p : Int), false, [], []), ((p + i : Nat) : Int), (0 : Int)))
            (fun i hi => by
              show abacistref12_Next_4 s p ((p + i : Nat) : Int) zT = _
              rw [abacistref12_Next_4_eq, cT (decide_eq_true (by omega)), cT (ix hi), Int.toNat_natCast, yWd, Option.bind_some, abacistref12_Next_6_eq, wS (by omega), cT (c := decide (0 ≤ (p : Int)) && _) (by simp; omega), Int.toNat_natCast]; rfl)
            (fun i hi => by
              show abacistref12_Next_4 s p ((p + i : Nat) : Int) zT = _
              rw [abacistref12_Next_4_eq, cF (decide_eq_false (by omega)), abacistref12_Next_6_eq, cond_false, cT (by simp; omega), Int.toNat_natCast, Int.toNat_natCast]; rfl)
            (s.length - p) 0 (by omega)
          simp only [Nat.zero_add, Nat.add_zero] at h1
          exact h1
        | false =>
          rw [cond_false, cond_false, wrap64 (n := (p : Int) + 2) (by omega) (by omega)]
          have sg := ySigns s p hlt hs
          by_cases h2 : p + 2 ≤ s.length
          · have e2 : (s.take ((p : Int) + 2).toNat).drop p = (s.drop p).take 2 := by
              rw [show ((p : Int) + 2).toNat = p + 2 by omega, List.drop_take, show p + 2 - p = 2 by omega]
            have hin : (decide (0 ≤ (p : Int)) && (decide ((p : Int) ≤ (p : Int) + 2) && decide ((p : Int) + 2 ≤ (s.length : Int)))) = true := by simp; omega
            rw [cT (decide_eq_true (by omega)), cT hin, cT hin, cT hin, e2]
            unfold two at sg
            cases h3 : decide ((s.drop p).take 2 = [60, 62]) with
            | true => exact sg _ (by rw [h3]; rfl)
            | false =>
              rw [cond_false]
              cases h4 : decide ((s.drop p).take 2 = [60, 61]) with
              | true => exact sg _ (by rw [h3, h4]; rfl)
              | false => exact sg _ (by rw [h3, h4]; rfl)
          · rw [cF (decide_eq_false (by omega))]
            refine sg _ ?_
            cases hq : two (s.drop p) with
            | false => rfl
            | true => have := two_len hq; simp at this; omega
theorem yNext (s : List UInt8) (hs : s.length ≤ 100000) (a : Int) : abacistref12_Next s a = some (nextV s a) := by
  rw [abacistref12_Next_eq, nextV]
  by_cases h0 : a < 0
  · rw [cT (decide_eq_true h0), decide_eq_true h0, abacistref12_Next_1_eq]; rfl
  rw [cF (decide_eq_false h0), decide_eq_false h0, Bool.false_or, abacistref12_Next_1_eq]
  by_cases h2 : a > (s.length : Int)
  · rw [decide_eq_true h2]; rfl
  rw [decide_eq_false h2, cond_false, cond_false]
  obtain ⟨n, rfl⟩ : ∃ n : Nat, a = (n : Int) := ⟨a.toNat, by omega⟩
  have h3 := loop_lead s n spc (fun i => abacistref12_Next_2 s ((n + i : Nat) : Int) zT) (fun i => abacistref12_Next_3 s ((n + i : Nat) : Int) false zT)
    (fun i hi => by
      show abacistref12_Next_2 s ((n + i : Nat) : Int) zT = _
      rw [abacistref12_Next_2_eq, cT (decide_eq_true (by omega)), cT (ix hi), Int.toNat_natCast, show decide (((s.getD (n + i) 0).toNat : Int) = 32) = _ from eqD _ 32]
      show abacistref12_Next_3 s ((n + i : Nat) : Int) (spc (s.getD (n + i) 0)) zT = _
      cases spc (s.getD (n + i) 0) with
      | false => rfl
      | true => rw [abacistref12_Next_3_eq, cond_true, wS (by omega)]; rfl)
    (fun i hi => by
      show abacistref12_Next_2 s ((n + i : Nat) : Int) zT = _
      rw [abacistref12_Next_2_eq, cF (decide_eq_false (by omega))])
    (s.length - n) 0 (by omega)
  simp only [Nat.zero_add, Nat.add_zero] at h3
  refine Eq.trans h3 ?_
  rw [Int.toNat_natCast]
  exact yStand s (skip s n) (leadD_at spc s n (by omega)) hs
/-! ### the next one is behind -/
theorem leadD_pos {p : UInt8 → Bool} {s : List UInt8} {i : Nat} (h : i < s.length) (hb : p (s.getD i 0) = true) : 1 ≤ leadD p (s.drop i) := by
  rw [leadD_drop h, if_pos hb]; omega
theorem stand_next (s : List UInt8) (q : Nat) (hq : q ≤ s.length) (he : (stand s q).2.2 = 0) (hk : (stand s q).1.1 ≠ 0) : ∃ p' : Nat, (stand s q).2.1 = (p' : Int) ∧ q < p' ∧ p' ≤ s.length := by
  unfold stand at he hk ⊢
  by_cases h0 : q = s.length
  · rw [decide_eq_true h0] at hk; exact absurd rfl hk
  rw [decide_eq_false h0, cond_false] at he ⊢
  unfold tokAt at he ⊢
  have hlt : q < s.length := by omega
  cases hd : dig (s.getD q 0) with
  | true =>
    rw [hd, cond_true] at he
    rw [cond_true]
    have h1 := leadD_pos hlt hd
    have h2 := numL_le s q hq
    have h3 : 1 ≤ numL s q := by
      unfold numL
      cases (decide (0 < numK s q) && decide (s.getD (q + leadD dig (s.drop q)) 0 = 46))
      · exact h1
      · rw [cond_true]; omega
    unfold fin at he ⊢
    cases hz : decide ((decV (sub s q (numL s q))).2 = 0) with
    | false => rw [hz] at he; exact absurd he (of_decide_eq_false hz)
    | true => exact ⟨q + numL s q, rfl, by omega, h2⟩
  | false =>
    rw [hd, cond_false] at he
    rw [cond_false]
    cases h34 : decide (s.getD q 0 = 34) with
    | true =>
      rw [h34, cond_true] at he
      rw [cond_true]
      cases ht : txt (s.drop (q + 1)) with
      | none => rw [ht] at he; cases he
      | some x =>
        rw [ht] at he
        dsimp only at he ⊢
        have hl := Q.txt_len _ _ (Nat.le_refl _) x.1 x.2 ht
        simp at hl
        cases hp : plainQ x.1 with
        | false => rw [hp] at he; cases he
        | true => exact ⟨q + (x.2 + 1), rfl, by omega, by omega⟩
    | false =>
      rw [h34, cond_false] at he
      rw [cond_false]
      cases h35 : decide (s.getD q 0 = 35) with
      | true =>
        rw [h35, cond_true] at he
        rw [cond_true]
        have hfl : (faultL s q).length ≤ (s.drop q).length := faultF_le _ 7 1 [] (Nat.zero_le _)
        rw [List.length_drop] at hfl
        cases hf : decide (faultL s q = []) with
        | true => rw [hf] at he; cases he
        | false =>
          have : 0 < (faultL s q).length := List.length_pos_iff.2 (of_decide_eq_false hf)
          exact ⟨q + (faultL s q).length, rfl, by omega, by omega⟩
      | false =>
        rw [h35, cond_false] at he
        rw [cond_false]
        cases hw : wd (s.getD q 0) with
        | true =>
          have h1 := leadD_pos hlt hw
          have h2 := leadD_at wd s q hq
          exact ⟨q + leadD wd (s.drop q), rfl, by omega, h2⟩
        | false =>
          rw [hw, cond_false] at he
          rw [cond_false]
          have hsl := sign_le (s.drop q)
          have htl : two (s.drop q) = true → q + 2 ≤ s.length := fun h => by have := two_len h; simp at this; omega
          cases hz : decide ((signV (s.drop q)).2 = 0) with
          | true => rw [hz] at he; cases he
          | false =>
            have hz := of_decide_eq_false hz
            refine ⟨q + (signV (s.drop q)).2.toNat, rfl, ?_, ?_⟩ <;> rcases hsl with h | h | ⟨h, h2⟩ <;> first | exact absurd h hz | (rw [h]; omega) | (rw [h]; have := htl h2; omega) | (rw [h]; show q + 1 ≤ _; omega)
theorem both_all (s : List UInt8) (hs : s.length ≤ 300) : ∀ (n p i : Nat) (l : List Tk), s.length - p ≤ n → p ≤ s.length → i ≤ p → l.length ≤ p → ∃ r : List Tk × Int × Int, lex_All_1 s p l = some r ∧ abacistref12_All_1 s p i l = some r ∧ r.1.length ≤ 400
  | n, p, i, l, h, hp, hi, hl => by
    have hq := leadD_at spc s p hp
    have hn : nextV s (p : Int) = stand s (skip s p) := by
      unfold nextV
      rw [decide_eq_false (show ¬ (p : Int) < 0 by omega), decide_eq_false (show ¬ (p : Int) > (s.length : Int) by omega), Int.toNat_natCast]; rfl
    rw [lex_All_1_eq, abacistref12_All_1_eq, wS (by omega), cT (c := decide ((i : Int) ≤ _)) (decide_eq_true (by omega)), xNext s (by omega), yNext s (by omega), Option.bind_some, Option.bind_some, hn]
    have hsn := stand_next s (skip s p) hq
    generalize stand s (skip s p) = t at hsn
    by_cases he : t.2.2 = 0
    · rw [decide_eq_true he, Bool.not_true, cond_false, cond_false, cT (Nat.ble_eq_true_of_le (by simp; omega)), cT (Nat.ble_eq_true_of_le (by simp; omega))]
      by_cases hk : t.1.1 = 0
      · rw [decide_eq_true hk]
        exact ⟨_, rfl, rfl, by simp; omega⟩
      · rw [decide_eq_false hk, cond_false, cond_false]
        obtain ⟨p', e1, h1, h2⟩ := hsn he hk
        have h3 : p ≤ skip s p := Nat.le_add_right _ _
        rw [e1, wS (by omega)]
        match n with
        | 0 => omega
        | n + 1 => exact both_all s hs n p' (i + 1) (l ++ [t.1]) (by omega) h2 (by omega) (by simp; omega)
    · rw [decide_eq_false he, Bool.not_false, cond_true, cond_true]
      exact ⟨_, rfl, rfl, Nat.zero_le _⟩
def eqTk (a b : Tk) : Bool := (decide (a.1 = b.1)) && ((decide (a.2.1 = b.2.1)) && ((decide (a.2.2.1 = b.2.2.1)) && ((a.2.2.2.1 == b.2.2.2.1) && ((decide (a.2.2.2.2.1 = b.2.2.2.2.1)) && (decide (a.2.2.2.2.2 = b.2.2.2.2.2))))))
theorem eqTk_self (a : Tk) : eqTk a a = true := by simp [eqTk]
theorem taken1 (l : List Tk) (hl : l.length ≤ 400) : ∀ (m i : Nat) (acc : List Tk), i + m = l.length → acc.length = i → abacistlaw12_taken_1 l i acc = some (acc ++ l.drop i)
  | 0, i, acc, h, ha => by
    rw [abacistlaw12_taken_1_eq, cF (decide_eq_false (by omega)), List.drop_of_length_le (by omega), List.append_nil]
  | m + 1, i, acc, h, ha => by
    have hi : i < l.length := by omega
    rw [abacistlaw12_taken_1_eq, cT (decide_eq_true (by omega)), cT (ix hi), cT (Nat.ble_eq_true_of_le (by simp; omega)), wS (by omega), Int.toNat_natCast, taken1 l hl m (i + 1) _ (by omega) (by simp; omega), List.drop_eq_getElem_cons hi, List.append_assoc, List.getD_eq_getElem?_getD, List.getElem?_eq_getElem hi]
    rfl
theorem same1 (l : List Tk) (hl : l.length ≤ 400) : ∀ (m i : Nat), i + m = l.length → abacistref12_Same_1 l l i = some true
  | 0, i, h => by rw [abacistref12_Same_1_eq, cF (decide_eq_false (by omega))]
  | m + 1, i, h => by
    have hi : i < l.length := by omega
    rw [abacistref12_Same_1_eq, cT (decide_eq_true (by omega)), cT (ix hi), cT (ix hi), wS (by omega)]
    show cond (!eqTk (l.getD (i : Int).toNat zT) (l.getD (i : Int).toNat zT)) _ _ = _
    rw [eqTk_self, Bool.not_true, cond_false, same1 l hl m (i + 1) (by omega)]
theorem knownL : abacistlaw12_known = some true := of_depth 600 (by kernel_rfl)
theorem all12 (s : List UInt8) (a : Int) : abacistlaw12_LexAll s a = some true := by
  rw [abacistlaw12_LexAll_eq]
  by_cases h7 : (s.length : Int) > 700
  · rw [cT (decide_eq_true h7), knownL]; rfl
  rw [cF (decide_eq_false h7), xNext s (by omega), Option.bind_some, yNext s (by omega), Option.bind_some]
  show cond (!eqTk (nextV s a).1 (nextV s a).1) _ _ = _
  rw [eqTk_self, Bool.not_true, cond_false, decide_eq_true rfl, Bool.not_true, cond_false, decide_eq_true rfl, Bool.not_true, abacistlaw12_LexAll_1_eq, cond_false]
  obtain ⟨r, h1, h2, h3⟩ : ∃ r : List Tk × Int × Int, lex_All s = some r ∧ abacistref12_All s = some r ∧ r.1.length ≤ 400 := by
    rw [lex_All_eq, abacistref12_All_eq]
    by_cases h300 : (s.length : Int) > 300
    · rw [cT (decide_eq_true h300), cT (decide_eq_true h300)]; exact ⟨_, rfl, rfl, Nat.zero_le _⟩
    · rw [cF (decide_eq_false h300), cF (decide_eq_false h300)]
      exact both_all s (by omega) s.length 0 0 [] (by omega) (Nat.zero_le _) (Nat.le_refl _) (Nat.le_refl _)
  have h4 : abacistlaw12_taken r.1 = some r.1 := by
    rw [abacistlaw12_taken_eq]
    exact taken1 r.1 h3 r.1.length 0 [] (by omega) rfl
  have h5 : abacistref12_Same r.1 r.1 = some true := by
    rw [abacistref12_Same_eq, decide_eq_true rfl, Bool.not_true, cond_false]
    exact same1 r.1 h3 r.1.length 0 (by omega)
  rw [h1, Option.bind_some, h2, Option.bind_some, h4, Option.bind_some, h5, Option.bind_some, cond_true, decide_eq_true rfl, cond_true, decide_eq_true rfl, cond_true, knownL]; rfl
end Go.Proofs.YtenapomineinbaaGreatDoor.D
namespace Go.Proofs.YtenapomineinbaaGreatDoor.K
open Go
theorem LexAll (s : List UInt8) (_ : Wf .str s) (a : Int) (_ : Wf (.int .i64) a) : abacistlaw12_LexAll s a = some true := D.all12 s a
end Go.Proofs.YtenapomineinbaaGreatDoor.K
