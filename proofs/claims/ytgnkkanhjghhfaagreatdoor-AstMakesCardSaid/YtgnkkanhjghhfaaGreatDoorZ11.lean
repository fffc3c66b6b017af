/- Part 11 of the proof: the machine, the tables and the pure laws that the last text joins. -/
import Derived.Test.YtgnkkanhjghhfaaGreatDoorZ10
set_option linter.unusedVariables false
set_option linter.unusedSimpArgs false
namespace Go.Proofs.YtgnkkanhjghhfaaGreatDoor.D
open Go Go.Proofs.YtgnkkanhjghhfaaGreatDoor.K
open Go.Proofs.YtgnkkanhjghhfaaGreatDoor.P (wS)
theorem eqOr_same {α : Type} (a : Option α) : eqOr a a = a := by unfold eqOr; exact if_pos rfl
theorem yTidy3 (f : Fmu) (hf : f.1.length ≤ 400) (hcan : ∀ j, j < f.1.length → canV (nd f j) = true) : ∀ (m i : Nat) (u : Int), i + m = f.1.length → cls f i = some u → 0 ≤ u → u ≤ 20 * (i : Int) → r13_tidy_3 u (i : Int) f = some (decide (cls f f.1.length = some (f.2.length : Int)))
 | 0, i, u, h, hc, _, _ => by
  have : i = f.1.length := by omega
  subst this
  rw [r13_tidy_3_eq, cF (decide_eq_false (by omega)), hc]
  congr 1
  exact decide_eq_decide.2 (by simp)
 | m + 1, i, u, h, hc, h0, h1 => by
  have hi : i < f.1.length := by omega
  have t5 : ∀ u', r13_tidy_5 u' (i : Int) f = r13_tidy_3 u' ((i + 1 : Nat) : Int) f := fun u' => by rw [r13_tidy_5_eq, wS (by omega)]
  have e : r13_tidy_3 u (i : Int) f = cond (callN (nd f i)) (cond (!decide ((nd f i).2.2.1 = u)) (some false) (r13_tidy_3 (IntKind.i64.wrap (u + (nd f i).2.2.2.1)) ((i + 1 : Nat) : Int) f)) (r13_tidy_3 u ((i + 1 : Nat) : Int) f) := by
   rw [r13_tidy_3_eq, cT (decide_eq_true (by omega)), cT (ix hi), Int.toNat_natCast]
   show cond (decide ((nd f i).1 = 9)) (r13_tidy_4 u (i : Int) (decide ((nd f i).2.2.2.1 > 0)) f (nd f i)) (r13_tidy_4 u (i : Int) false f (nd f i)) = _
   rw [r13_tidy_4_eq, r13_tidy_4_eq, t5, t5]
   unfold callN
   cases decide ((nd f i).1 = 9) <;> rfl
  rw [e]
  cases hb : callN (nd f i) with
  | false =>
   exact yTidy3 f hf hcan m (i + 1) u (by omega) (by rw [cls_next hc (fun h => by rw [hb] at h; cases h)]; unfold nextU; rw [hb]; rfl) h0 (by omega)
  | true =>
   have hcb := callN_can (hcan i hi) hb
   rw [cond_true]
   by_cases ha : (nd f i).2.2.1 = u
   ·rw [cF (by rw [decide_eq_true ha]; rfl), w64 (x := u + (nd f i).2.2.2.1) (by omega) (by omega)]
    exact yTidy3 f hf hcan m (i + 1) _ (by omega) (by rw [cls_next hc (fun _ => ha)]; unfold nextU; rw [hb]; rfl) (by omega) (by omega)
   ·rw [cT (by rw [decide_eq_false ha]; rfl)]
    have hn : cls f (i + 1) = none := by simp only [cls, hc, Option.bind_some, hb, cond_true]; rw [decide_eq_false ha]; rfl
    have := cls_none f hn m
    rw [show i + 1 + m = f.1.length by omega] at this
    rw [this]; rfl
theorem yTidy2 (f : Fmu) (l : List Int) (hl : l.length ≤ 1000) : ∀ (m i : Nat), i + m = l.length →
  (r13_tidy_2 l (i : Int) f = r13_tidy_3 0 0 f ∧ ∀ j, i ≤ j → j < l.length → l.getD j 0 = (j : Int)) ∨ (r13_tidy_2 l (i : Int) f = some false ∧ ∃ j, j < l.length ∧ ¬ l.getD j 0 = (j : Int))
 | 0, i, h => .inl ⟨by rw [r13_tidy_2_eq, cF (decide_eq_false (by omega))], fun j h1 h2 => by omega⟩
 | m + 1, i, h => by
  have hi : i < l.length := by omega
  have e : r13_tidy_2 l (i : Int) f = cond (!decide (l.getD i 0 = (i : Int))) (some false) (r13_tidy_2 l ((i + 1 : Nat) : Int) f) := by
   rw [r13_tidy_2_eq, cT (decide_eq_true (by omega)), cT (ix hi), Int.toNat_natCast, wS (by omega)]
  rw [e]
  by_cases hx : l.getD i 0 = (i : Int)
  ·rw [cF (by rw [decide_eq_true hx]; rfl)]
   rcases yTidy2 f l hl m (i + 1) (by omega) with ⟨a, b⟩ | ⟨a, b⟩
   ·refine .inl ⟨a, fun j h1 h2 => ?_⟩
    by_cases hj : j = i
    ·subst hj; exact hx
    ·exact b j (by omega) h2
   ·exact .inr ⟨a, b⟩
  ·exact .inr ⟨by rw [decide_eq_false hx]; rfl, i, hi, hx⟩
theorem yTidy (f : Fmu) (h1 : 1 ≤ f.1.length) (hf : f.1.length ≤ 300) (hA : f.2.length ≤ 1000) (hcan : ∀ j, j < f.1.length → canV (nd f j) = true) : ∃ t, r13_tidy f = some t ∧ (t = true ↔ Good f) := by
 have bad : ∀ l, r13_tidy_1 l true f = some false := fun l => by rw [r13_tidy_1_eq, cond_true]
 have el : IntKind.i64.wrap ((f.1.length : Int) - 1) = ((f.1.length - 1 : Nat) : Int) := by rw [w64 (by omega) (by omega)]; omega
 obtain ⟨z, t, hw, hr⟩ := yWalk f hA (f.1.length - 1) 300 (by omega) (by omega) (by omega)
 have no : ∀ {P : Prop}, (Good f → z = iv 0 f.1.length ∧ t = true) → ¬ (t = true ∧ z = iv 0 f.1.length) → (∃ t', some false = some t' ∧ (t' = true ↔ Good f)) := fun h hn => ⟨false, rfl, ⟨fun h' => (by cases h'), fun g => absurd ⟨(h g).2, (h g).1⟩ hn⟩⟩
 have walkG : Good f → z = iv 0 f.1.length ∧ t = true := fun g => by
  obtain ⟨k, e1, e2, e3⟩ := g.fo.one
  have hk : f.1.length - 1 = k := by omega
  have := yWalkFo f hA g.told (f.1.length - 1) 0 300 (by omega) (by rw [hk]; exact e3) (by omega) (by omega)
  rw [hw] at this
  simp only [Option.some.injEq, Prod.mk.injEq] at this
  rw [show f.1.length - 1 + 1 - 0 = f.1.length by omega] at this
  exact this
 rw [r13_tidy_eq, el, hw, Option.bind_some]
 show ∃ t', cond (!t) (r13_tidy_1 z true f) (r13_tidy_1 z (!decide ((z.length : Int) = (f.1.length : Int))) f) = some t' ∧ _
 rw [bad]
 cases ht : t with
 | false => exact no (P := True) walkG fun h => by rw [ht] at h; cases h.1
 | true =>
  obtain ⟨p1, p2, p3⟩ := hr ht
  rw [Bool.not_true, cond_false]
  by_cases hz : z.length = f.1.length
  ·rw [show (!decide ((z.length : Int) = (f.1.length : Int))) = false by rw [decide_eq_true (by omega)]; rfl, r13_tidy_1_eq, cond_false]
   rcases yTidy2 f z (by omega) z.length 0 (Nat.zero_add _) with ⟨a, b⟩ | ⟨a, j, hj, hne⟩
   ·have hzi : z = iv 0 f.1.length := by
     rw [← hz]
     exact iv_of z 0 fun i hi => by rw [b i (Nat.zero_le _) hi, Nat.zero_add]
    have a : r13_tidy_2 z 0 f = r13_tidy_3 0 0 f := a
    rw [a]
    have t3 := yTidy3 f (by omega) hcan f.1.length 0 0 (Nat.zero_add _) rfl (Int.le_refl _) (by omega)
    refine ⟨_, t3, fun h => ?_, fun g => decide_eq_true g.cl⟩
    have fo := p1.fo 0 f.1.length hzi
    rw [Nat.zero_add] at fo
    refine ⟨h1, hcan, fun j hj => ?_, fo, of_decide_eq_true h⟩
    obtain ⟨j', e, ht'⟩ := p3 (j : Int) (by
     rw [hzi]
     have := iv_get f.1.length 0 j hj
     rw [Nat.zero_add] at this
     rw [← this, List.getD_eq_getElem?_getD, List.getElem?_eq_getElem (by rw [iv_len]; exact hj)]
     exact List.getElem_mem _)
    have : j = j' := by omega
    subst this; exact ht'
   ·have a : r13_tidy_2 z 0 f = some false := a
    rw [a]
    refine no (P := True) walkG fun h => hne ?_
    rw [h.2]
    have := iv_get f.1.length 0 j (by rw [← hz]; exact hj)
    rw [this, Nat.zero_add]
  ·rw [show (!decide ((z.length : Int) = (f.1.length : Int))) = true by rw [decide_eq_false (by omega)]; rfl, bad]
   exact no (P := True) walkG fun h => hz (by rw [h.2, iv_len])
theorem Fo.at {kd : Nat → List Int} {a b : Nat} {ks : List Int} (h : Fo kd a b ks) : ∀ j, a ≤ j → j < b → ∃ a', Fo kd a' j (kd j) := by
 induction h with
 | nil a => intro j h1 h2; omega
 | @cons a k b ks f1 f2 ih1 ih2 =>
  intro j h1 h2
  by_cases hj : j < k
  ·exact ih1 j h1 hj
  ·by_cases he : j = k
   ·subst he; exact ⟨a, f1⟩
   ·exact ih2 j (by omega) h2
theorem Good.kid {f : Fmu} (g : Good f) {i : Nat} (hi : i < f.1.length) {k : Nat} (hk : k < (kd f i).length) : ∃ j : Nat, (kd f i).getD k 0 = (j : Int) ∧ j < i := by
 obtain ⟨a, fo⟩ := g.fo.at i (Nat.zero_le _) hi
 obtain ⟨j, h1, _, h2⟩ := fo.mem ((kd f i).getD k 0) (by rw [List.getD_eq_getElem?_getD, List.getElem?_eq_getElem hk]; exact List.getElem_mem hk)
 exact ⟨j, h1, h2⟩
theorem yBra (f : Fmu) (hA : f.2.length ≤ 1000) (g : Good f) {i : Nat} (hi : i < f.1.length) {k : Nat} (hk : k < (kd f i).length) :
  r13_Bracket f (i : Int) (k : Int) = some (braB f (levV (nd f i)) (decide ((nd f i).1 = 9)) (decide ((nd f i).1 = 8)) k ((kd f i).getD k 0)) := by
 obtain ⟨j, hj, hji⟩ := g.kid hi hk
 have hjl : j < f.1.length := by omega
 have b1 : r13_Bracket_1 (k : Int) (kd f i) false f (nd f i) = some (decide (levV (nd f j) < levV (nd f i)) || (decide ((nd f i).1 = 8) && (decide (k = 1) && decide (levV (nd f j) = levV (nd f i))))) := by
  rw [r13_Bracket_1_eq, cond_false, yLev, Option.bind_some, cT (ix hk), Int.toNat_natCast, hj, cT (ix hjl), Int.toNat_natCast]
  show (r13_Level (nd f j)).bind _ = _
  rw [yLev, Option.bind_some, show decide ((k : Int) = 1) = decide (k = 1) from decide_eq_decide.2 (by omega)]
  cases decide (levV (nd f j) < levV (nd f i)) <;> cases decide ((nd f i).1 = 8) <;> cases decide (k = 1) <;> simp
 have b1t : r13_Bracket_1 (k : Int) (kd f i) true f (nd f i) = some false := by rw [r13_Bracket_1_eq, cond_true]
 rw [r13_Bracket_eq, cT (ix hi), yKids f hA hi, Option.bind_some, Int.toNat_natCast]
 show cond (decide ((nd f i).1 = 9)) (r13_Bracket_1 (k : Int) (kd f i) true f (nd f i)) (r13_Bracket_1 (k : Int) (kd f i) (decide ((k : Int) ≥ ((kd f i).length : Int))) f (nd f i)) = _
 rw [decide_eq_false (show ¬ (k : Int) ≥ ((kd f i).length : Int) by omega), b1, b1t]
 unfold braB
 rw [hj, Int.toNat_natCast]
 cases decide ((nd f i).1 = 9) <;> rfl
theorem yDepths (f : Fmu) (hf : f.1.length ≤ 400) (hA : f.2.length ≤ 1000) (g : Good f) : ∀ (m i : Nat), i + m = f.1.length → r13_depths_1 (i : Int) (dl f i) f = some (dl f f.1.length)
 | 0, i, h => by
  have : i = f.1.length := by omega
  subst this
  rw [r13_depths_1_eq, cF (decide_eq_false (by omega))]
 | m + 1, i, h => by
  have hi : i < f.1.length := by omega
  have hkl := kd_len f hA i
  have d5 : ∀ x : Int, r13_depths_5 (i : Int) x (dl f i) f = r13_depths_1 ((i + 1 : Nat) : Int) (dl f i ++ [x]) f := fun x => by
   have room : Nat.ble (((dl f i).length + [x].length) * 8) 140737488355328 = true := Nat.ble_eq_true_of_le (by rw [dl_len]; simp; omega)
   rw [r13_depths_5_eq, cT room, wS (by omega)]
  have loop : ∀ (m' k : Nat) (d : Int), k + m' = (kd f i).length → 0 ≤ d → d ≤ 2 * (i : Int) + 1 → r13_depths_2 (i : Int) d (kd f i) (k : Int) (dl f i) f (nd f i) =
    r13_depths_1 ((i + 1 : Nat) : Int) (dl f i ++ [cond (decide ((nd f i).1 = 9) || (decide ((nd f i).1 = 7) && decide ((nd f i).2.1 = 13))) (dst f (levV (nd f i)) (decide ((nd f i).1 = 9)) (decide ((nd f i).1 = 8)) (dl f i) k ((kd f i).drop k) d + 1) (dst f (levV (nd f i)) (decide ((nd f i).1 = 9)) (decide ((nd f i).1 = 8)) (dl f i) k ((kd f i).drop k) d)]) f := by
   intro m'
   induction m' with
   | zero =>
    intro k d hk h0 h1
    rw [r13_depths_2_eq, cF (decide_eq_false (by omega)), List.drop_of_length_le (by omega)]
    simp only [r13_depths_4_eq, d5, dst, cond_true, cond_false]
    rw [w64 (x := d + 1) (by omega) (by omega)]
    cases decide ((nd f i).1 = 9) <;> cases decide ((nd f i).1 = 7) <;> cases decide ((nd f i).2.1 = 13) <;> rfl
   | succ m' ih =>
    intro k d hk h0 h1
    have hkk : k < (kd f i).length := by omega
    obtain ⟨j, hj, hji⟩ := g.kid hi hkk
    have hdr : (kd f i).drop k = (kd f i).getD k 0 :: (kd f i).drop (k + 1) := by
     rw [List.drop_eq_getElem_cons hkk, List.getD_eq_getElem?_getD, List.getElem?_eq_getElem hkk]; rfl
    have bd := dl_bd f i j
    have inj : (decide (0 ≤ (j : Int)) && decide ((j : Int) < ((dl f i).length : Int))) = true := by rw [dl_len]; exact ix hji
    rw [r13_depths_2_eq, cT (decide_eq_true (by omega)), cT (ix hkk), Int.toNat_natCast, yBra f hA g hi hkk, Option.bind_some, hj, cT inj, Int.toNat_natCast, r13_depths_3_eq, r13_depths_3_eq, w64 (x := (dl f i).getD j 0 + 1) (by omega) (by omega), wS (by omega), hdr, hj]
    simp only [dst, Int.toNat_natCast]
    cases braB f (levV (nd f i)) (decide ((nd f i).1 = 9)) (decide ((nd f i).1 = 8)) k (j : Int) with
    | false => exact ih (k + 1) _ (by omega) (by first | omega | (simp only [cond_false]; omega)) (by first | omega | (simp only [cond_false]; omega))
    | true => exact ih (k + 1) _ (by omega) (by first | omega | (simp only [cond_true]; omega)) (by first | omega | (simp only [cond_true]; omega))
  rw [r13_depths_1_eq, cT (decide_eq_true (by omega)), cT (ix hi), yKids f hA hi, Option.bind_some, Int.toNat_natCast]
  show r13_depths_2 (i : Int) 0 (kd f i) 0 (dl f i) f (nd f i) = _
  refine (loop (kd f i).length 0 0 (Nat.zero_add _) (Int.le_refl _) (by omega)).trans ?_
  rw [List.drop_zero]
  exact yDepths f hf hA g m (i + 1) (by omega)
def Dp (f : Fmu) : Int := dv f (f.1.length - 1) (dl f (f.1.length - 1))
def Fine (f : Fmu) : Prop := Good f ∧ f.1.length ≤ 300 ∧ Dp f ≤ 24
structure Lt (f : Fmu) : Prop where
 n : f.1.length ≤ 320
 a : f.2.length ≤ 400
 t : ∀ n ∈ f.1, n.2.2.2.2.2.1.length ≤ 9223372036854775807
theorem xWhole (f : Fmu) (hL : Lt f) : ∃ p b, ast_whole f = some (p, b) ∧ (b = true ↔ Fine f) ∧ (b = true → p.2.2.2 = Dp f) := by
 have hn := hL.n
 have ha := hL.a
 rw [ast_whole_eq]
 by_cases h : f.1.length ≤ 300
 ·rw [cF (decide_eq_false (by omega)), xBuilt f (by omega) (by omega) hL.t, Option.bind_some]
  cases hr : finS f (runS f 0 f.1.length [] 0) with
  | mk p b =>
   cases b with
   | false =>
    refine ⟨p, false, rfl, ⟨fun h => (by cases h), fun g => ?_⟩, fun h => (by cases h)⟩
    obtain ⟨q, hq⟩ := of_good g.1
    rw [hr] at hq
    simp at hq
   | true =>
    obtain ⟨g, e1, e2⟩ := good_of hr
    refine ⟨p, decide (p.2.2.2 ≤ 24), rfl, ⟨fun hd => ⟨g, h, ?_⟩, fun hF => decide_eq_true ?_⟩, fun _ => e1⟩
    ·have := of_decide_eq_true hd; rw [e1] at this; exact this
    ·rw [e1]; exact hF.2.2
 ·rw [cT (decide_eq_true (by omega))]
  exact ⟨_, false, rfl, ⟨fun h => (by cases h), fun g => absurd g.2.1 h⟩, fun h => (by cases h)⟩
theorem xRightP (f : Fmu) (hL : Lt f) : ∃ b, ast_Right f = some b ∧ (b = true ↔ Fine f) := by
 obtain ⟨p, b, h1, h2, _⟩ := xWhole f hL
 exact ⟨b, by rw [ast_Right_eq, h1]; rfl, h2⟩
theorem yDeep (f : Fmu) (hf : f.1.length ≤ 400) (hA : f.2.length ≤ 1000) (g : Good f) : r13_depths f = some (dl f f.1.length) := by
 rw [r13_depths_eq]
 exact yDepths f hf hA g f.1.length 0 (Nat.zero_add _)
theorem yRightB (f : Fmu) (hL : Lt f) : ∃ b, r13_Right f = some b ∧ (b = true ↔ Fine f) := by
 have hn := hL.n
 have ha := hL.a
 have bad : r13_Right_1 true f = some false := by rw [r13_Right_1_eq, cond_true]
 have no : ¬ Fine f → ∃ b, some false = some b ∧ (b = true ↔ Fine f) := fun h => ⟨false, rfl, fun h' => (by cases h'), fun g => absurd g h⟩
 rw [r13_Right_eq, bad]
 by_cases h1 : 1 ≤ f.1.length
 case neg =>
  rw [cT (decide_eq_true (by omega))]
  exact no fun g => h1 g.1.one
 rw [cF (decide_eq_false (by omega))]
 by_cases h2 : f.1.length ≤ 300
 case neg =>
  rw [cT (decide_eq_true (by omega))]
  exact no fun g => h2 g.2.1
 rw [cF (decide_eq_false (by omega))]
 by_cases h3 : f.2.length ≤ 300
 case neg =>
  rw [decide_eq_true (by omega), bad]
  exact no fun g => h3 (Nat.le_trans g.1.args h2)
 rw [decide_eq_false (by omega), r13_Right_1_eq, cond_false]
 have loop : ∀ (m i : Nat), i + m = f.1.length → (∀ j, j < i → canV (nd f j) = true) → ∃ b, r13_Right_2 (i : Int) f = some b ∧ (b = true ↔ Fine f) := by
  intro m
  induction m with
  | zero =>
   intro i h hc
   have hi : i = f.1.length := by omega
   subst hi
   obtain ⟨t, ht, htg⟩ := yTidy f h1 h2 (by omega) hc
   rw [r13_Right_2_eq, cF (decide_eq_false (by omega)), ht, Option.bind_some]
   cases t with
   | false => exact no fun g => by have := htg.2 g.1; cases this
   | true =>
    have g := htg.1 rfl
    have el : IntKind.i64.wrap (((dl f f.1.length).length : Int) - 1) = ((f.1.length - 1 : Nat) : Int) := by rw [dl_len, w64 (by omega) (by omega)]; omega
    rw [Bool.not_true, cond_false, yDeep f (by omega) (by omega) g, Option.bind_some, el, cT (by rw [dl_len]; exact ix (by omega)), Int.toNat_natCast, dl_get f (by omega)]
    exact ⟨_, rfl, fun hd => ⟨g, h2, of_decide_eq_true hd⟩, fun hF => decide_eq_true hF.2.2⟩
  | succ m ih =>
   intro i h hc
   have hi : i < f.1.length := by omega
   have hsn := hL.t (nd f i) (by unfold nd; rw [List.getD_eq_getElem?_getD, List.getElem?_eq_getElem hi]; exact List.getElem_mem hi)
   rw [r13_Right_2_eq, cT (decide_eq_true (by omega)), cT (ix hi), Int.toNat_natCast]
   show ∃ b, (r13_may (nd f i)).bind _ = some b ∧ _
   rw [yCan _ hsn, Option.bind_some, wS (by omega)]
   cases hcn : canV (nd f i) with
   | false => exact no fun g => by have := g.1.can i hi; rw [hcn] at this; cases this
   | true =>
    rw [Bool.not_true, cond_false]
    refine ih (i + 1) (by omega) fun j hj => ?_
    by_cases hji : j < i
    ·exact hc j hji
    ·have : j = i := by omega
     subst this; exact hcn
 exact loop f.1.length 0 (Nat.zero_add _) fun j hj => by omega
theorem xRightB (f : Fmu) (hL : Lt f) : ∃ b, ast_Right f = some b ∧ r13_Right f = some b ∧ (b = true ↔ Fine f) := by
 obtain ⟨p, b, h1, h2, _⟩ := xWhole f hL
 obtain ⟨b', h3, h4⟩ := yRightB f hL
 have : b = b' := by rw [Bool.eq_iff_iff, h2, h4]
 subst this
 exact ⟨b, by rw [ast_Right_eq, h1]; rfl, h3, h2⟩
theorem xClone (l : List Int) (hl : l.length ≤ 10000) : slices_Clone_int_int l = some l := by
 have room : Nat.ble ((([] : List Int).length + l.length) * 8) 140737488355328 = true := Nat.ble_eq_true_of_le (by simp; omega)
 rw [slices_Clone_int_int_eq]
 cases l with
 | nil => rw [cF (decide_eq_false (by simp)), slices_Clone_int_int_2_eq]; exact eqOr_same _
 | cons x l => rw [cT (decide_eq_true (by simp)), slices_Clone_int_int_1_eq, cond_false, cT room]; rfl
def eN (a b : List Nd) : Nat → Nat → Bool
 | _, 0 => true
 | i, m + 1 => eqC (a.getD i ZN) (b.getD i ZN) && eN a b (i + 1) m
def eI (a b : List Int) : Nat → Nat → Bool
 | _, 0 => true
 | i, m + 1 => decide (a.getD i 0 = b.getD i 0) && eI a b (i + 1) m
theorem eN_self (a : List Nd) : ∀ m i, eN a a i m = true
 | 0, _ => rfl
 | m + 1, i => by simp only [eN]; rw [(eqC_eq _ _).2 rfl, eN_self a m]; rfl
theorem eI_self (a : List Int) : ∀ m i, eI a a i m = true
 | 0, _ => rfl
 | m + 1, i => by simp only [eI]; rw [eI_self a m]; simp
def sameV (a b : Fmu) : Bool := decide (a.1.length = b.1.length) && (decide (a.2.length = b.2.length) && (eN a.1 b.1 0 a.1.length && eI a.2 b.2 0 a.2.length))
theorem sameV_self (a : Fmu) : sameV a a = true := by unfold sameV; rw [decide_eq_true rfl, decide_eq_true rfl, eN_self, eI_self]; rfl
theorem ySame3 (a b : Fmu) (hl : a.2.length = b.2.length) (h4 : a.2.length ≤ 1000) : ∀ (m i : Nat), i + m = a.2.length → r13_Same_3 (i : Int) a b = some (eI a.2 b.2 i m)
 | 0, i, h => by rw [r13_Same_3_eq, cF (decide_eq_false (by omega))]; rfl
 | m + 1, i, h => by
  have hi : i < a.2.length := by omega
  rw [r13_Same_3_eq, cT (decide_eq_true (by omega)), cT (ix hi), cT (ix (show i < b.2.length by omega)), Int.toNat_natCast, wS (by omega), ySame3 a b hl h4 m (i + 1) (by omega)]
  show cond (!decide (a.2.getD i 0 = b.2.getD i 0)) (some false) _ = some (decide (a.2.getD i 0 = b.2.getD i 0) && _)
  cases decide (a.2.getD i 0 = b.2.getD i 0) <;> rfl
theorem ySame2 (a b : Fmu) (hl : a.1.length = b.1.length) (hl2 : a.2.length = b.2.length) (h4 : a.1.length ≤ 1000) (h5 : a.2.length ≤ 1000) : ∀ (m i : Nat), i + m = a.1.length → r13_Same_2 (i : Int) a b = some (eN a.1 b.1 i m && eI a.2 b.2 0 a.2.length)
 | 0, i, h => by rw [r13_Same_2_eq, cF (decide_eq_false (by omega)), show (0 : Int) = ((0 : Nat) : Int) from rfl, ySame3 a b hl2 h5 a.2.length 0 (Nat.zero_add _)]; rfl
 | m + 1, i, h => by
  have hi : i < a.1.length := by omega
  rw [r13_Same_2_eq, cT (decide_eq_true (by omega)), cT (ix hi), cT (ix (show i < b.1.length by omega)), Int.toNat_natCast, wS (by omega), ySame2 a b hl hl2 h4 h5 m (i + 1) (by omega)]
  show cond (!eqC (a.1.getD i ZN) (b.1.getD i ZN)) (some false) _ = some ((eqC (a.1.getD i ZN) (b.1.getD i ZN) && _) && _)
  cases eqC (a.1.getD i ZN) (b.1.getD i ZN) <;> rfl
theorem ySame (a b : Fmu) (h1 : a.1.length ≤ 1000) (h2 : a.2.length ≤ 1000) : r13_Same a b = some (sameV a b) := by
 have bad : r13_Same_1 true a b = some false := by rw [r13_Same_1_eq, cond_true]
 rw [r13_Same_eq, bad, sameV]
 rw [show decide ((a.1.length : Int) = (b.1.length : Int)) = decide (a.1.length = b.1.length) from decide_eq_decide.2 (by omega), show decide ((a.2.length : Int) = (b.2.length : Int)) = decide (a.2.length = b.2.length) from decide_eq_decide.2 (by omega)]
 by_cases hn : a.1.length = b.1.length
 ·rw [decide_eq_true hn, Bool.not_true, cond_false]
  by_cases hi : a.2.length = b.2.length
  ·rw [decide_eq_true hi, Bool.not_true, r13_Same_1_eq, cond_false, show (0 : Int) = ((0 : Nat) : Int) from rfl, ySame2 a b hn hi h1 h2 a.1.length 0 (Nat.zero_add _)]; rfl
  ·rw [decide_eq_false hi, Bool.not_false, bad]; rfl
 ·rw [decide_eq_false hn]; rfl
end Go.Proofs.YtgnkkanhjghhfaaGreatDoor.D
namespace Go.Proofs.YtgnkkanhjghhfaaGreatDoor.D
open Go Go.Proofs.YtgnkkanhjghhfaaGreatDoor.K
open Go.Proofs.YtgnkkanhjghhfaaGreatDoor.P (wS)
def q1 : Nd := (1, 0, 0, 0, (false, [1], [1]), [], false, ([], 0, 0, false, false), [], 0, 0, false, false)
def q2 : Nd := (1, 0, 0, 0, (false, [2], [1]), [], false, ([], 0, 0, false, false), [], 0, 0, false, false)
def q3 : Nd := (8, 1, 0, 1, (false, [], []), [], false, ([], 0, 0, false, false), [], 0, 0, false, false)
theorem k1 : w13_number 1 = some ([q1], []) := of_depth 400 (by kernel_rfl)
theorem k2 : w13_number 2 = some ([q2], []) := of_depth 400 (by kernel_rfl)
theorem r1 : ast_Right ([q1], []) = some true := of_depth 400 (by kernel_rfl)
theorem r2 : ast_Right ([q2], []) = some true := of_depth 400 (by kernel_rfl)
theorem r3 : ast_Right ([q1, q2, q3], []) = some true := of_depth 400 (by kernel_rfl)
theorem r0 : ast_Right ([], []) = some false := of_depth 400 (by kernel_rfl)
theorem m3 : ast_may q3 = some true := of_depth 400 (by kernel_rfl)
theorem v2 : ast_moved q2 1 0 = some q2 := of_depth 400 (by kernel_rfl)
theorem o1 : r05_Of (-1) = some (true, [1], [1]) := of_depth 400 (by kernel_rfl)
theorem l1 : ast_Leaf (1, 0, 0, 0, (true, [1], [1]), [], false, ([], 0, 0, false, false), [], 0, 0, false, false) = some (([], []), 3) := of_depth 400 (by kernel_rfl)
theorem kClone1 : slices_CloneN [q1] = some [q1] := by
 rw [slices_CloneN_eq, cT (decide_eq_true (by simp)), slices_CloneN_1_eq, cond_false]; rfl
theorem beh : ast_behind ([q1], []) ([q2], []) = some ([q1, q2], []) := by
 rw [ast_behind_eq]
 show (slices_CloneN [q1]).bind (fun v1 => (slices_Clone_int_int []).bind fun v2 => ast_behind_1 [q2] 1 0 v1 v2 ([q1], []) ([q2], []) ([], [])) = _
 rw [kClone1, Option.bind_some, xClone [] (by simp), Option.bind_some, ast_behind_1_eq]
 show (ast_moved q2 1 0).bind (fun v1 => cond (Nat.ble (([q1].length + [v1].length) * 176) 140737488355328) (ast_behind_1 [q2] 1 1 ([q1] ++ [v1]) [] ([q1], []) ([q2], []) ([], [])) none) = _
 rw [v2, Option.bind_some]
 show ast_behind_1 [q2] 1 1 [q1, q2] [] ([q1], []) ([q2], []) ([], []) = _
 rw [ast_behind_1_eq]
 show ast_behind_2 [] 0 0 [q1, q2] [] ([q1], []) ([], []) = _
 rw [ast_behind_2_eq]; rfl
theorem two13 : ast_Two 1 ([q1], []) ([q2], []) = some (([q1, q2, q3], []), 0) := by
 have t2 : ∀ a b c, ast_Two_2 q3 a b c q3 [q1, q2] [] = some (([q1, q2, q3], []), 0) := fun a b c => by
  rw [ast_Two_2_eq]
  show (ast_Right ([q1, q2, q3], [])).bind _ = _
  rw [r3]; rfl
 have t3 : ∀ a b c, ast_Two_3 q3 a b c q3 [q1, q2] [] = some (([q1, q2, q3], []), 0) := fun a b c => by
  rw [ast_Two_3_eq]
  show (ast_Right ([q1, q2, q3], [])).bind _ = _
  rw [r3]; rfl
 have t1 : ast_Two_1 false ([q1], []) ([q2], []) ([], []) q3 = some (([q1, q2, q3], []), 0) := by
  rw [ast_Two_1_eq, cond_false, beh, Option.bind_some, t2, t3, eqOr_same]
 rw [ast_Two_eq, r1, Option.bind_some, r2, Option.bind_some]
 show (ast_may q3).bind (fun v3 => ast_Two_1 (!v3) ([q1], []) ([q2], []) ([], []) q3) = _
 rw [m3, Option.bind_some]
 exact t1
theorem known13 : w13_known = some true := by
 rw [w13_known_eq, k1, Option.bind_some, k2, Option.bind_some, two13, Option.bind_some, o1, Option.bind_some, l1, Option.bind_some]
 show (ast_Right ([q1, q2, q3], [])).bind (fun v6 => cond v6 ((ast_Right ([], [])).bind fun v7 => some (!v7)) (some false)) = _
 rw [r3, r0]; rfl
end Go.Proofs.YtgnkkanhjghhfaaGreatDoor.D
namespace Go.Proofs.YtgnkkanhjghhfaaGreatDoor.K
open Go
abbrev NdTy : Ty := .pair (.int .i64) (.pair (.int .i64) (.pair (.int .i64) (.pair (.int .i64) (.pair (.pair .bool (.pair .str .str)) (.pair .str (.pair .bool (.pair (.pair .str (.pair (.int .i64) (.pair (.int .i64) (.pair .bool .bool)))) (.pair .str (.pair (.int .i64) (.pair (.int .i64) (.pair .bool .bool)))))))))))
end Go.Proofs.YtgnkkanhjghhfaaGreatDoor.K
namespace Go.Proofs.YtgnkkanhjghhfaaGreatDoor.D
open Go Go.Proofs.YtgnkkanhjghhfaaGreatDoor.K
open Go.Proofs.YtgnkkanhjghhfaaGreatDoor.P (wS)
def mv (n : Nd) (a b : Int) : Nd := if n.1 = 8 then (n.1, n.2.1, n.2.2.1 + a, n.2.2.2.1 + a, n.2.2.2.2) else if n.1 = 7 then (n.1, n.2.1, n.2.2.1 + a, n.2.2.2) else if n.1 = 9 ∧ n.2.2.2.1 > 0 then (n.1, n.2.1, n.2.2.1 + b, n.2.2.2) else n
def Sm (n : Nd) : Prop := (n.1 = 7 ∨ n.1 = 8 ∨ (n.1 = 9 ∧ n.2.2.2.1 > 0) → -10000 ≤ n.2.2.1 ∧ n.2.2.1 ≤ 10000) ∧ (n.1 = 8 → -10000 ≤ n.2.2.2.1 ∧ n.2.2.2.1 ≤ 10000)
theorem xMoved {n : Nd} (h : Sm n) {a b : Int} (ha : -10000 ≤ a ∧ a ≤ 10000) (hb : -10000 ≤ b ∧ b ≤ 10000) : ast_moved n a b = some (mv n a b) := by
 rw [ast_moved_eq]
 simp only [ast_moved_1_eq, ast_moved_2_eq]
 unfold mv
 by_cases h8 : n.1 = 8
 ·have h1 := h.1 (.inr (.inl h8))
  have h2 := h.2 h8
  rw [cT (decide_eq_true h8), if_pos h8, w64 (x := n.2.2.1 + a) (by omega) (by omega), w64 (x := n.2.2.2.1 + a) (by omega) (by omega)]
 ·rw [cF (decide_eq_false h8), if_neg h8]
  by_cases h7 : n.1 = 7
  ·have h1 := h.1 (.inl h7)
   rw [cT (decide_eq_true h7), if_pos h7, w64 (x := n.2.2.1 + a) (by omega) (by omega)]
  ·rw [cF (decide_eq_false h7), if_neg h7]
   by_cases h9 : n.1 = 9
   ·rw [cT (decide_eq_true h9)]
    by_cases hp : n.2.2.2.1 > 0
    ·have h1 := h.1 (.inr (.inr ⟨h9, hp⟩))
     rw [cT (decide_eq_true hp), if_pos ⟨h9, hp⟩, w64 (x := n.2.2.1 + b) (by omega) (by omega)]
    ·rw [cF (decide_eq_false hp), if_neg fun h => hp h.2]
   ·rw [cF (decide_eq_false h9), if_neg fun h => h9 h.1]
theorem mv_zero (n : Nd) : mv n 0 0 = n := by
 obtain ⟨k, op, a, b, r⟩ := n
 unfold mv
 simp only [Int.add_zero]
 repeat' (first | rfl | split)
theorem mv_kind (n : Nd) (a b : Int) : (mv n a b).1 = n.1 := by
 unfold mv
 repeat' (first | rfl | split)
theorem mv_num {n : Nd} (h : ¬ n.1 = 8) (a b : Int) : (mv n a b).2.2.2.1 = n.2.2.2.1 := by
 unfold mv
 rw [if_neg h]
 repeat' (first | rfl | split)
theorem mv_text (n : Nd) (a b : Int) : (mv n a b).2.2.2.2.2.1 = n.2.2.2.2.2.1 := by
 unfold mv
 repeat' (first | rfl | split)
theorem callN_mv (n : Nd) (a b : Int) : callN (mv n a b) = callN n := by
 unfold callN
 rw [mv_kind]
 by_cases h8 : n.1 = 8
 ·rw [decide_eq_false (show ¬ n.1 = 9 by omega)]; rfl
 ·rw [mv_num h8]
theorem callN_iff {n : Nd} : callN n = true ↔ n.1 = 9 ∧ n.2.2.2.1 > 0 := by
 unfold callN
 simp
theorem mv_call {n : Nd} (h : callN n = true) (a b : Int) : (mv n a b).2.2.1 = n.2.2.1 + b ∧ (mv n a b).2.2.2.1 = n.2.2.2.1 := by
 obtain ⟨h9, hp⟩ := callN_iff.1 h
 unfold mv
 rw [if_neg (show ¬ n.1 = 8 by omega), if_neg (show ¬ n.1 = 7 by omega), if_pos ⟨h9, hp⟩]
 exact ⟨rfl, rfl⟩
theorem mv_back (n : Nd) (a b b' : Int) (h : callN n = true → b' = b) : mv (mv n a b) (-a) (-b') = n := by
 obtain ⟨k, op, x, y, r⟩ := n
 unfold mv
 by_cases h8 : k = 8
 ·subst h8
  simp only [if_true]
  rw [show x + a + -a = x by omega, show y + a + -a = y by omega]
 ·by_cases h7 : k = 7
  ·subst h7
   simp
   omega
  ·by_cases h9 : k = 9 ∧ y > 0
   ·have := h (callN_iff.2 h9)
    subst this
    simp only [if_neg h8, if_neg h7, if_pos h9]
    rw [show x + b' + -b' = x by omega]
   ·simp only [if_neg h8, if_neg h7, if_neg h9]
theorem kd_un {f : Fmu} {i : Nat} (h : (nd f i).1 = 7) : kd f i = [(nd f i).2.2.1] := by unfold kd kv; rw [decide_eq_true h]; rfl
theorem kd_bin {f : Fmu} {i : Nat} (h : (nd f i).1 = 8) : kd f i = [(nd f i).2.2.1, (nd f i).2.2.2.1] := by unfold kd kv; rw [decide_eq_false (show ¬ (nd f i).1 = 7 by omega), decide_eq_true h]; rfl
theorem kd_call {f : Fmu} {i : Nat} (h : callN (nd f i) = true) (ht : (kv (nd f i) f.2).2 = true) : oddK (nd f i) f.2 = false ∧ kd f i = (f.2.take ((nd f i).2.2.1 + (nd f i).2.2.2.1).toNat).drop (nd f i).2.2.1.toNat := by
 obtain ⟨h9, hp⟩ := callN_iff.1 h
 unfold kd
 unfold kv at ht ⊢
 rw [decide_eq_false (show ¬ (nd f i).1 = 7 by omega), decide_eq_false (show ¬ (nd f i).1 = 8 by omega), decide_eq_true h9, decide_eq_true hp] at ht ⊢
 simp only [cond_true, cond_false] at ht ⊢
 cases ho : oddK (nd f i) f.2 with
 | true => rw [ho] at ht; cases ht
 | false => exact ⟨rfl, rfl⟩
theorem kd_none {f : Fmu} {i : Nat} (h7 : ¬ (nd f i).1 = 7) (h8 : ¬ (nd f i).1 = 8) (hc : callN (nd f i) = false) : kd f i = [] := by
 unfold kd kv
 rw [decide_eq_false h7, decide_eq_false h8]
 unfold callN at hc
 cases h9 : decide ((nd f i).1 = 9)
 ·rfl
 ·rw [h9, Bool.true_and] at hc
  rw [hc]; rfl
theorem Good.sm {f : Fmu} (g : Good f) (hn : f.1.length ≤ 320) (ha : f.2.length ≤ 400) {i : Nat} (hi : i < f.1.length) : Sm (nd f i) := by
 refine ⟨fun h => ?_, fun h8 => ?_⟩
 ·rcases h with h7 | h8 | ⟨h9, hp⟩
  ·obtain ⟨j, e, hj⟩ := g.kid hi (k := 0) (by rw [kd_un h7]; simp)
   rw [kd_un h7] at e
   simp at e; omega
  ·obtain ⟨j, e, hj⟩ := g.kid hi (k := 0) (by rw [kd_bin h8]; simp)
   rw [kd_bin h8] at e
   simp at e; omega
  ·have := oddK_false (kd_call (callN_iff.2 ⟨h9, hp⟩) (g.told i hi)).1
   omega
 ·obtain ⟨j, e, hj⟩ := g.kid hi (k := 1) (by rw [kd_bin h8]; simp)
  rw [kd_bin h8] at e
  simp at e; omega
theorem cls_cover {f : Fmu} : ∀ {m : Nat} {u : Int}, (∀ j, j < m → canV (nd f j) = true) → cls f m = some u → 0 ≤ u ∧ ∀ t : Nat, (t : Int) < u → ∃ j, j < m ∧ callN (nd f j) = true ∧ (nd f j).2.2.1 ≤ (t : Int) ∧ (t : Int) < (nd f j).2.2.1 + (nd f j).2.2.2.1
 | 0, u, _, h => by cases h; exact ⟨Int.le_refl _, fun t h => by omega⟩
 | m + 1, u, hc, h => by
  obtain ⟨v, hv⟩ := cls_pre f h (Nat.le_succ m)
  obtain ⟨i0, ih⟩ := cls_cover (fun j hj => hc j (by omega)) hv
  obtain ⟨b1, rfl⟩ := cls_back hv h
  unfold nextU
  cases hb : callN (nd f m) with
  | false =>
   refine ⟨i0, fun t ht => ?_⟩
   obtain ⟨j, h1, h2⟩ := ih t ht
   exact ⟨j, by omega, h2⟩
  | true =>
   have := callN_can (hc m (by omega)) hb
   have hA := b1 hb
   simp only [cond_true]
   refine ⟨by omega, fun t ht => ?_⟩
   by_cases h1 : (t : Int) < v
   ·obtain ⟨j, h2, h3⟩ := ih t h1
    exact ⟨j, by omega, h3⟩
   ·exact ⟨m, by omega, hb, by omega, by omega⟩
theorem getD_cut {l : List Int} {a b t : Nat} (h1 : a ≤ t) (h2 : t < b) (hl : t < l.length) : ((l.take b).drop a).getD (t - a) 0 = l.getD t 0 ∧ t - a < ((l.take b).drop a).length := by
 have hlen : t - a < ((l.take b).drop a).length := by simp; omega
 refine ⟨?_, hlen⟩
 rw [List.getD_eq_getElem?_getD, List.getD_eq_getElem?_getD, List.getElem?_drop, List.getElem?_take]
 rw [show a + (t - a) = t by omega, if_pos h2]
theorem Good.arg {f : Fmu} (g : Good f) {t : Nat} (ht : t < f.2.length) : ∃ k : Nat, f.2.getD t 0 = (k : Int) ∧ k < f.1.length := by
 obtain ⟨_, hc⟩ := cls_cover g.can g.cl
 obtain ⟨j, hj, hb, h1, h2⟩ := hc t (by omega)
 obtain ⟨ho, hk⟩ := kd_call hb (g.told j hj)
 have := oddK_false ho
 obtain ⟨e1, e2⟩ := getD_cut (l := f.2) (a := (nd f j).2.2.1.toNat) (b := ((nd f j).2.2.1 + (nd f j).2.2.2.1).toNat) (t := t) (by omega) (by omega) ht
 rw [← hk] at e1 e2
 obtain ⟨k, e, hkj⟩ := g.kid hj e2
 exact ⟨k, by rw [← e1]; exact e, by omega⟩
theorem cloneN (l : List Nd) (hl : l.length ≤ 10000) : slices_CloneN l = some l := by
 have room : Nat.ble ((([] : List Nd).length + l.length) * 176) 140737488355328 = true := Nat.ble_eq_true_of_le (by simp; omega)
 rw [slices_CloneN_eq]
 cases l with
 | nil => rw [cF (decide_eq_false (by simp)), slices_CloneN_2_eq]; exact eqOr_same _
 | cons x l => rw [cT (decide_eq_true (by simp)), slices_CloneN_1_eq, cond_false, cT room]; rfl
def bhV (f g : Fmu) : Fmu := (f.1 ++ g.1.map (fun n => mv n (f.1.length : Int) (f.2.length : Int)), f.2 ++ g.2.map (fun x => x + (f.1.length : Int)))
theorem ndrop {l : List Nd} {i : Nat} (h : i < l.length) : l.drop i = l.getD i ZN :: l.drop (i + 1) := by
 rw [List.drop_eq_getElem_cons h, List.getD_eq_getElem?_getD, List.getElem?_eq_getElem h]; rfl
theorem idrop {l : List Int} {i : Nat} (h : i < l.length) : l.drop i = l.getD i 0 :: l.drop (i + 1) := by
 rw [List.drop_eq_getElem_cons h, List.getD_eq_getElem?_getD, List.getElem?_eq_getElem h]; rfl
theorem xBehind (f g : Fmu) (hf1 : f.1.length ≤ 10000) (hf2 : f.2.length ≤ 10000) (gg : Good g) (hg1 : g.1.length ≤ 320) (hg2 : g.2.length ≤ 400) : ast_behind f g = some (bhV f g) := by
 have loop2 : ∀ (m i : Nat) (N : List Nd) (A : List Int), i + m = g.2.length → A.length ≤ 10000 + i → ast_behind_2 g.2 (g.2.length : Int) (i : Int) N A f ([], []) = some (N, A ++ (g.2.drop i).map (fun x => x + (f.1.length : Int))) := by
  intro m
  induction m with
  | zero => intro i N A h _; rw [ast_behind_2_eq, cF (decide_eq_false (by omega)), List.drop_of_length_le (by omega)]; simp
  | succ m ih =>
   intro i N A h hA
   have hi : i < g.2.length := by omega
   obtain ⟨k, hk, hkl⟩ := gg.arg hi
   have room : Nat.ble ((A.length + [IntKind.i64.wrap (g.2.getD i 0 + (f.1.length : Int))].length) * 8) 140737488355328 = true := Nat.ble_eq_true_of_le (by simp; omega)
   rw [ast_behind_2_eq, cT (decide_eq_true (by omega)), cT (ix hi), Int.toNat_natCast, cT room, wS (by omega), w64 (x := g.2.getD i 0 + (f.1.length : Int)) (by rw [hk]; omega) (by rw [hk]; omega), ih (i + 1) N _ (by omega) (by simp; omega), idrop hi]
   simp
 have loop1 : ∀ (m i : Nat) (N : List Nd) (A : List Int), i + m = g.1.length → N.length ≤ 10000 + i → ast_behind_1 g.1 (g.1.length : Int) (i : Int) N A f g ([], []) = ast_behind_2 g.2 (g.2.length : Int) 0 (N ++ (g.1.drop i).map (fun n => mv n (f.1.length : Int) (f.2.length : Int))) A f ([], []) := by
  intro m
  induction m with
  | zero => intro i N A h _; rw [ast_behind_1_eq, cF (decide_eq_false (by omega)), List.drop_of_length_le (by omega)]; simp
  | succ m ih =>
   intro i N A h hN
   have hi : i < g.1.length := by omega
   have sm : Sm (g.1.getD i ZN) := gg.sm hg1 hg2 hi
   have room : Nat.ble ((N.length + [mv (g.1.getD i ZN) (f.1.length : Int) (f.2.length : Int)].length) * 176) 140737488355328 = true := Nat.ble_eq_true_of_le (by simp; omega)
   rw [ast_behind_1_eq, cT (decide_eq_true (by omega)), cT (ix hi), Int.toNat_natCast]
   show (ast_moved (g.1.getD i ZN) (f.1.length : Int) (f.2.length : Int)).bind _ = _
   rw [xMoved sm (by omega) (by omega), Option.bind_some, cT room, wS (by omega), ih (i + 1) _ A (by omega) (by simp; omega), ndrop hi]
   simp
 rw [ast_behind_eq, cloneN _ (by omega), Option.bind_some, xClone _ (by omega), Option.bind_some]
 refine (loop1 g.1.length 0 f.1 f.2 (Nat.zero_add _) (by omega)).trans ?_
 rw [List.drop_zero]
 refine (loop2 g.2.length 0 _ f.2 (Nat.zero_add _) (by omega)).trans ?_
 rw [List.drop_zero]; rfl
theorem bh_nil {g : Fmu} : bhV ([], []) g = g := by
 unfold bhV
 simp [mv_zero]
def fA (F : Fmu) (a : Nat) : Nat → Int → Int
 | 0, x => x
 | n + 1, x => fA F a n (cond (callN (nd F (a + n))) (nd F (a + n)).2.2.1 x)
theorem fA_add (F : Fmu) (a : Nat) : ∀ (m n : Nat) (x : Int), fA F a (n + m) x = fA F a n (fA F (a + n) m x)
 | 0, n, x => rfl
 | m + 1, n, x => by
  rw [← Nat.add_assoc]
  simp only [fA]
  rw [fA_add F a m n, show a + (n + m) = a + n + m by omega]
theorem pStep (F z : Fmu) (hF1 : F.1.length ≤ 320) (hF2 : F.2.length ≤ 400) (g : Good F) (node : Int) {cur : Nat} (hc : cur < F.1.length) {left first args : Int} (h0 : 0 < left) (h1 : left ≤ 1000) :
  ast_Part_4 left (cur : Int) F F z first args node 0 = ast_Part_4 (left + ((kd F cur).length : Int) - 1) ((cur : Int) - 1) F F z (cur : Int) (cond (callN (nd F cur)) (nd F cur).2.2.1 args) node 0 := by
 have hkl := kd_len F (by omega) cur
 have p7 : ∀ q, ast_Part_7 q args (nd F cur) (cur : Int) F F z (cur : Int) (left + ((kd F cur).length : Int) - 1) node 0 = ast_Part_4 (left + ((kd F cur).length : Int) - 1) ((cur : Int) - 1) F F z (cur : Int) (cond q (nd F cur).2.2.1 args) node 0 := fun q => by
  rw [ast_Part_7_eq, ast_Part_9_eq, ast_Part_9_eq, cond_false, cond_false, w64 (x := (cur : Int) - 1) (by omega) (by omega)]
  cases q <;> rfl
 rw [ast_Part_4_eq, cT (decide_eq_true (show left > 0 by omega)), cT (ix hc), Int.toNat_natCast]
 show (ast_kids (nd F cur) F.2).bind _ = _
 rw [xKids _ _ (by omega) (fun h9 => by have := can_arg (g.can cur hc) h9; omega), Option.bind_some]
 show ast_Part_5 node 0 (cur : Int) (cur : Int) F F z first args (IntKind.i64.wrap (left + IntKind.i64.wrap (((kd F cur).length : Int) - 1))) node 0 = _
 rw [w64 (x := ((kd F cur).length : Int) - 1) (by omega) (by omega), w64 (x := left + (((kd F cur).length : Int) - 1)) (by omega) (by omega), show left + (((kd F cur).length : Int) - 1) = left + ((kd F cur).length : Int) - 1 by omega, ast_Part_5_eq, cT (ix hc), Int.toNat_natCast]
 show cond (decide ((nd F cur).1 = 9)) (ast_Part_7 (decide ((nd F cur).2.2.2.1 > 0)) args (nd F cur) (cur : Int) F F z (cur : Int) (left + ((kd F cur).length : Int) - 1) node 0) (ast_Part_7 false args (nd F cur) (cur : Int) F F z (cur : Int) (left + ((kd F cur).length : Int) - 1) node 0) = _
 rw [p7, p7]
 unfold callN
 cases decide ((nd F cur).1 = 9) <;> rfl
theorem pBelow (F z : Fmu) (hF1 : F.1.length ≤ 320) (hF2 : F.2.length ≤ 400) (g : Good F) (node : Int) {a b : Nat} {ks : List Int} (h : Fo (kd F) a b ks) : b ≤ F.1.length → ∀ (r : Nat) (first args : Int), r + (b - a) ≤ 700 →
  ast_Part_4 ((ks.length + r : Nat) : Int) ((b : Int) - 1) F F z first args node 0 = ast_Part_4 (r : Int) ((a : Int) - 1) F F z (if a < b then (a : Int) else first) (fA F a (b - a) args) node 0 := by
 induction h with
 | nil a => intro hb r first args hr; rw [if_neg (Nat.lt_irrefl a), Nat.sub_self]; simp [fA]
 | @cons a k b ks f1 f2 ih1 ih2 =>
  intro hb r first args hr
  have l1 := f1.le
  have l2 := f2.le
  have hkl := f1.len
  have e2 := ih2 hb (1 + r) first args (by omega)
  rw [show ((k : Int) :: ks).length + r = ks.length + (1 + r) by simp; omega, e2, show ((k + 1 : Nat) : Int) - 1 = (k : Int) by omega, pStep F z hF1 hF2 g node (show k < F.1.length by omega) (by omega) (by omega),
   show ((1 + r : Nat) : Int) + ((kd F k).length : Int) - 1 = (((kd F k).length + r : Nat) : Int) by omega, ih1 (by omega) r _ _ (by omega), if_pos (show a < b by omega)]
  congr 1
  ·by_cases hak : a < k
   ·rw [if_pos hak]
   ·rw [if_neg hak]; omega
  ·rw [show b - a = (k - a + 1) + (b - (k + 1)) by omega, fA_add, show a + (k - a + 1) = k + 1 by omega]
   simp only [fA]
   rw [show a + (k - a) = k by omega]
structure In (F X : Fmu) (c d : Nat) : Prop where
 nodes : ∀ j, j < X.1.length → nd F (c + j) = mv (nd X j) (c : Int) (d : Int)
 len : c + X.1.length ≤ F.1.length
 args : ∀ t, t < X.2.length → F.2.getD (d + t) 0 = X.2.getD t 0 + (c : Int)
 alen : d + X.2.length ≤ F.2.length
theorem cls_zero {f : Fmu} : ∀ {m : Nat}, (∀ j, j < m → callN (nd f j) = false) → cls f m = some 0
 | 0, _ => rfl
 | m + 1, h => by
  simp only [cls]
  rw [cls_zero fun j hj => h j (by omega), Option.bind_some, h m (by omega)]; rfl
theorem In.first {F X : Fmu} {c d : Nat} (h : In F X c d) (g : Good X) : ∀ (n : Nat) (x : Int), n ≤ X.1.length → (∃ j, j < n ∧ callN (nd X j) = true) → fA F c n x = (d : Int)
 | 0, x, _, hex => by obtain ⟨j, hj, _⟩ := hex; omega
 | n + 1, x, hn, hex => by
  simp only [fA]
  by_cases hb : ∃ j, j < n ∧ callN (nd X j) = true
  ·exact h.first g n _ (by omega) hb
  ·have no : ∀ j, j < n → callN (nd X j) = false := fun j hj => by
    cases hc : callN (nd X j) with
    | false => rfl
    | true => exact absurd ⟨j, hj, hc⟩ hb
   obtain ⟨j, hj, hc⟩ := hex
   have hjn : j = n := by
    rcases Nat.lt_or_ge j n with h' | h'
    ·rw [no j h'] at hc; cases hc
    ·omega
   subst hjn
   have z := cls_zero no
   obtain ⟨v, hv⟩ := cls_pre X g.cl (show j + 1 ≤ X.1.length by omega)
   have hA := (cls_back z hv).1 hc
   rw [h.nodes j (by omega), callN_mv, hc, cond_true, (mv_call hc _ _).1, hA]
   have all : ∀ (m : Nat) (y : Int), (∀ i, i < m → callN (nd X i) = false) → m ≤ X.1.length → fA F c m y = y := by
    intro m
    induction m with
    | zero => intro y _ _; rfl
    | succ m ihm =>
     intro y hno hm
     simp only [fA]
     rw [h.nodes m (by omega), callN_mv, hno m (by omega), cond_false]
     exact ihm y (fun i hi => hno i (by omega)) (by omega)
   rw [all j _ no (by omega)]; omega
theorem In.kids {F X : Fmu} {c d : Nat} (h : In F X c d) {j : Nat} (htold : (kv (nd X j) X.2).2 = true) (hj : j < X.1.length) : kd F (c + j) = (kd X j).map (fun x => x + (c : Int)) := by
 have hnd := h.nodes j hj
 have hk : (nd F (c + j)).1 = (nd X j).1 := by rw [hnd, mv_kind]
 by_cases h7 : (nd X j).1 = 7
 ·rw [kd_un h7, kd_un (by rw [hk]; exact h7), hnd]
  unfold mv
  rw [if_neg (show ¬ (nd X j).1 = 8 by omega), if_pos h7]; rfl
 ·by_cases h8 : (nd X j).1 = 8
  ·rw [kd_bin h8, kd_bin (by rw [hk]; exact h8), hnd]
   unfold mv
   rw [if_pos h8]; rfl
  ·cases hc : callN (nd X j) with
   | false =>
    rw [kd_none h7 h8 hc, kd_none (by rw [hk]; exact h7) (by rw [hk]; exact h8) (by rw [hnd, callN_mv]; exact hc)]; rfl
   | true =>
    obtain ⟨h9, hp⟩ := callN_iff.1 hc
    obtain ⟨ho, hkd⟩ := kd_call hc htold
    have hb := oddK_false ho
    obtain ⟨e1, e2⟩ := mv_call hc (c : Int) (d : Int)
    have halen := h.alen
    have hoF : oddK (nd F (c + j)) F.2 = false := by
     rw [hnd]; unfold oddK
     rw [e1, e2]
     simp; omega
    have hkF : kd F (c + j) = (F.2.take ((nd X j).2.2.1 + (d : Int) + (nd X j).2.2.2.1).toNat).drop ((nd X j).2.2.1 + (d : Int)).toNat := by
     unfold kd kv
     rw [hoF, hk, decide_eq_false h7, decide_eq_false h8, decide_eq_true h9, hnd, e1, e2, decide_eq_true hp]; rfl
    rw [hkF, hkd]
    obtain ⟨A, hA⟩ : ∃ A : Nat, (nd X j).2.2.1 = (A : Int) := ⟨(nd X j).2.2.1.toNat, by omega⟩
    obtain ⟨B, hB⟩ : ∃ B : Nat, (nd X j).2.2.2.1 = (B : Int) := ⟨(nd X j).2.2.2.1.toNat, by omega⟩
    rw [hA, hB] at hb ⊢
    rw [show ((A : Int) + (d : Int) + (B : Int)).toNat = d + A + B by omega, show ((A : Int) + (d : Int)).toNat = d + A by omega, show ((A : Int) + (B : Int)).toNat = A + B by omega, Int.toNat_natCast]
    refine List.ext_getElem? fun t => ?_
    rw [List.getElem?_map, List.getElem?_drop, List.getElem?_drop, List.getElem?_take, List.getElem?_take]
    by_cases ht : t < B
    ·have := h.args (A + t) (by omega)
     rw [if_pos (by omega), if_pos (by omega)]
     rw [List.getD_eq_getElem?_getD, List.getD_eq_getElem?_getD, List.getElem?_eq_getElem (by omega), List.getElem?_eq_getElem (by omega)] at this
     rw [show d + A + t = d + (A + t) by omega, List.getElem?_eq_getElem (by omega), List.getElem?_eq_getElem (by omega)]
     simpa using this
    ·rw [if_neg (by omega), if_neg (by omega)]; rfl
theorem Fo.shift {kd kd' : Nat → List Int} {c n : Nat} (hk : ∀ j, j < n → kd' (c + j) = (kd j).map (fun x => x + (c : Int))) {a b : Nat} {ks : List Int} (h : Fo kd a b ks) : b ≤ n → Fo kd' (c + a) (c + b) (ks.map (fun x => x + (c : Int))) := by
 induction h with
 | nil a => intro _; exact .nil _
 | @cons a k b ks f1 f2 ih1 ih2 =>
  intro hb
  have l2 := f2.le
  have h1 := ih1 (by omega)
  rw [← hk k (by omega)] at h1
  have h2 := ih2 hb
  rw [List.map_cons, show (k : Int) + (c : Int) = ((c + k : Nat) : Int) by omega]
  exact .cons h1 (by rw [show c + k + 1 = c + (k + 1) by omega]; exact h2)
theorem xPart {F X : Fmu} {c d : Nat} (hL : Lt F) (hF : Fine F) (gX : Good X) (h : In F X c d) (hx : X.1.length ≤ 320) (hxa : X.2.length ≤ 400) : ast_Part F ((c + X.1.length - 1 : Nat) : Int) = some (X, 0) := by
 have hF1 := hL.n
 have hF2 := hL.a
 have g := hF.1
 have hlen := h.len
 have halen := h.alen
 have one := gX.one
 obtain ⟨b, r1, r3⟩ := xRightP F hL
 have hb : b = true := r3.2 hF
 subst hb
 have fo := gX.fo.shift (n := X.1.length) (fun j hj => h.kids (gX.told j hj) hj) (Nat.le_refl _)
 have foF : Fo (kd F) c (c + X.1.length) [((c + X.1.length - 1 : Nat) : Int)] := by
  have e : [((X.1.length - 1 : Nat) : Int)].map (fun x => x + (c : Int)) = [((c + X.1.length - 1 : Nat) : Int)] := by simp; omega
  rw [← e]; exact fo
 have below := pBelow F ([], []) hF1 hF2 g ((c + X.1.length - 1 : Nat) : Int) foF hlen 0 ((c + X.1.length - 1 : Nat) : Int) (F.2.length : Int) (by omega)
 rw [if_pos (show c < c + X.1.length by omega), show c + X.1.length - c = X.1.length by omega, show ((c + X.1.length : Nat) : Int) - 1 = ((c + X.1.length - 1 : Nat) : Int) by omega] at below
 generalize hargs : fA F c X.1.length (F.2.length : Int) = args at below
 have hA : ∀ j, j < X.1.length → callN (nd X j) = true → args = (d : Int) := fun j hj hc => by rw [← hargs]; exact h.first gX X.1.length _ (Nat.le_refl _) ⟨j, hj, hc⟩
 have hAb : -10000 ≤ args ∧ args ≤ 10000 := by
  by_cases hex : ∃ j, j < X.1.length ∧ callN (nd X j) = true
  ·obtain ⟨j, hj, hc⟩ := hex
   have := hA j hj hc
   omega
  ·have no : ∀ (m : Nat) (y : Int), m ≤ X.1.length → fA F c m y = y := by
    intro m
    induction m with
    | zero => intro y _; rfl
    | succ m ihm =>
     intro y hm
     have : callN (nd X m) = false := by
      cases hc : callN (nd X m) with
      | false => rfl
      | true => exact absurd ⟨m, by omega, hc⟩ hex
     simp only [fA]
     rw [h.nodes m (by omega), callN_mv, this, cond_false]
     exact ihm y (by omega)
   rw [← hargs, no _ _ (Nat.le_refl _)]; omega
 have hS : ∀ j, j < X.1.length → ((F.1.take (c + X.1.length)).drop c).getD j ZN = nd F (c + j) := fun j hj => by
  unfold nd
  rw [List.getD_eq_getElem?_getD, List.getD_eq_getElem?_getD, List.getElem?_drop, List.getElem?_take, if_pos (by omega)]
 have hSl : ((F.1.take (c + X.1.length)).drop c).length = X.1.length := by simp; omega
 generalize hSe : (F.1.take (c + X.1.length)).drop c = S at hS hSl
 have wc : IntKind.i64.wrap (0 - (c : Int)) = -(c : Int) := by rw [w64 (by omega) (by omega)]; omega
 have wa : IntKind.i64.wrap (0 - args) = -args := by rw [w64 (by omega) (by omega)]; omega
 have back : ∀ j, j < X.1.length → ast_moved (nd F (c + j)) (-(c : Int)) (-args) = some (nd X j) := fun j hj => by
  have sm := g.sm hF1 hF2 (i := c + j) (by omega)
  rw [xMoved sm (by omega) (by omega), h.nodes j hj, mv_back _ _ _ _ fun hc => hA j hj hc]
 have tk1 : ∀ i, i < X.1.length → X.1.take (i + 1) = X.1.take i ++ [nd X i] := fun i hi => by
  unfold nd
  rw [List.take_succ_eq_append_getElem hi, List.getD_eq_getElem?_getD, List.getElem?_eq_getElem hi]; rfl
 have build : ∀ (m i : Nat) (u : Nat), i + m = X.1.length → cls X i = some (u : Int) → u ≤ X.2.length → ast_Part_6 S (S.length : Int) (i : Int) (X.1.take i) (X.2.take u) F ([], []) (c : Int) args = some (X, 0) := by
  intro m
  induction m with
  | zero =>
   intro i u hi hu hul
   have hie : i = X.1.length := by omega
   subst hie
   have : (u : Int) = (X.2.length : Int) := Option.some.inj (hu.symm.trans gX.cl)
   rw [ast_Part_6_eq, hSl, cF (decide_eq_false (by omega)), List.take_of_length_le (Nat.le_refl _), List.take_of_length_le (by omega)]
  | succ m ih =>
   intro i u hi hu hul
   have hil : i < X.1.length := by omega
   have hid : i < S.length := by omega
   have roomN : ∀ n : Nd, Nat.ble (((X.1.take i).length + [n].length) * 176) 140737488355328 = true := fun n => Nat.ble_eq_true_of_le (by simp; omega)
   obtain ⟨v, hv⟩ := cls_pre X gX.cl (show i + 1 ≤ X.1.length by omega)
   obtain ⟨b1, b2⟩ := cls_back hu hv
   have hul' : v ≤ (X.2.length : Int) := by
    have mono : ∀ (k : Nat) (w : Int), i + 1 + k ≤ X.1.length → cls X (i + 1 + k) = some w → v ≤ w := by
     intro k
     induction k with
     | zero => intro w _ hw; have := Option.some.inj (hv.symm.trans hw); omega
     | succ k ihk =>
      intro w hk hw
      obtain ⟨w', hw'⟩ := cls_pre X hw (show i + 1 + k ≤ i + 1 + (k + 1) by omega)
      have a1 := ihk w' (by omega) hw'
      obtain ⟨_, e⟩ := cls_back hw' hw
      rw [e]; unfold nextU
      cases hb : callN (nd X (i + 1 + k)) with
      | false => exact a1
      | true => have := callN_can (gX.can _ (by omega)) hb; simp only [cond_true]; omega
    have := mono (X.1.length - (i + 1)) (X.2.length : Int) (by omega) (by rw [show i + 1 + (X.1.length - (i + 1)) = X.1.length by omega]; exact gX.cl)
    exact this
   have fin : ∀ w : Nat, (w : Int) = v → (ast_moved (nd F (c + i)) (-(c : Int)) (-args)).bind (fun v1 => cond (Nat.ble (((X.1.take i).length + [v1].length) * 176) 140737488355328) (ast_Part_6 S (S.length : Int) ((i + 1 : Nat) : Int) (X.1.take i ++ [v1]) (X.2.take w) F ([], []) (c : Int) args) none) = some (X, 0) := fun w hw => by
    rw [back i hil, Option.bind_some, cT (roomN _), ← tk1 i hil]
    exact ih (i + 1) w (by omega) (by rw [hw]; exact hv) (by omega)
   rw [ast_Part_6_eq, cT (decide_eq_true (by omega)), cT (ix hid), Int.toNat_natCast]
   show cond (decide ((S.getD i ZN).1 = 9)) (cond (decide (0 ≤ (S.getD i ZN).2.2.1) && (decide ((S.getD i ZN).2.2.1 ≤ IntKind.i64.wrap ((S.getD i ZN).2.2.1 + (S.getD i ZN).2.2.2.1)) && decide (IntKind.i64.wrap ((S.getD i ZN).2.2.1 + (S.getD i ZN).2.2.2.1) ≤ (F.2.length : Int)))) (ast_Part_8 S (S.length : Int) (i : Int) ((F.2.take (IntKind.i64.wrap ((S.getD i ZN).2.2.1 + (S.getD i ZN).2.2.2.1)).toNat).drop (S.getD i ZN).2.2.1.toNat) (((F.2.take (IntKind.i64.wrap ((S.getD i ZN).2.2.1 + (S.getD i ZN).2.2.2.1)).toNat).drop (S.getD i ZN).2.2.1.toNat).length : Int) 0 (X.1.take i) (X.2.take u) F ([], []) (c : Int) args (S.getD i ZN)) none) ((ast_moved (S.getD i ZN) (IntKind.i64.wrap (0 - (c : Int))) (IntKind.i64.wrap (0 - args))).bind fun v1 => cond (Nat.ble (((X.1.take i).length + [v1].length) * 176) 140737488355328) (ast_Part_6 S (S.length : Int) (IntKind.i64.wrap ((i : Int) + 1)) (X.1.take i ++ [v1]) (X.2.take u) F ([], []) (c : Int) args) none) = _
   rw [hS i hil, wc, wa, wS (by omega)]
   by_cases h9 : (nd F (c + i)).1 = 9
   ·have h9X : (nd X i).1 = 9 := by rw [h.nodes i hil, mv_kind] at h9; exact h9
    have hnum : (nd F (c + i)).2.2.2.1 = (nd X i).2.2.2.1 := by rw [h.nodes i hil]; exact mv_num (by omega) _ _
    have hca := can_arg (gX.can i hil) h9X
    obtain ⟨B, hB⟩ : ∃ B : Nat, (nd X i).2.2.2.1 = (B : Int) := ⟨(nd X i).2.2.2.1.toNat, by omega⟩
    have place : ∃ A' : Nat, (nd F (c + i)).2.2.1 = (A' : Int) ∧ A' + B ≤ F.2.length ∧ v = ((u + B : Nat) : Int) ∧ ∀ t, t < B → F.2.getD (A' + t) 0 = X.2.getD (u + t) 0 + (c : Int) := by
     cases hc : callN (nd X i) with
     | false =>
      have hB0 : B = 0 := by
       unfold callN at hc
       rw [decide_eq_true h9X, Bool.true_and] at hc
       have := of_decide_eq_false hc
       omega
      have hA0 : (nd X i).2.2.1 = 0 := by omega
      refine ⟨0, ?_, by omega, ?_, fun t ht => by omega⟩
      ·rw [h.nodes i hil]; unfold mv
       rw [if_neg (by omega), if_neg (by omega), if_neg (by omega), hA0]; rfl
      ·rw [b2]; unfold nextU; rw [hc, hB0]; rfl
     | true =>
      have hAu := b1 hc
      obtain ⟨e1, _⟩ := mv_call hc (c : Int) (d : Int)
      have hvv : v = ((u + B : Nat) : Int) := by rw [b2]; unfold nextU; rw [hc, cond_true, hB]; omega
      refine ⟨d + u, ?_, by omega, hvv, fun t ht => ?_⟩
      ·rw [h.nodes i hil, e1, hAu]; omega
      ·rw [Nat.add_assoc]; exact h.args (u + t) (by omega)
    obtain ⟨A', hA', hAl, hvv, hel⟩ := place
    have wAB : IntKind.i64.wrap ((A' : Int) + (B : Int)) = ((A' + B : Nat) : Int) := by rw [w64 (by omega) (by omega)]; omega
    have inA : (decide (0 ≤ (A' : Int)) && (decide ((A' : Int) ≤ ((A' + B : Nat) : Int)) && decide (((A' + B : Nat) : Int) ≤ (F.2.length : Int)))) = true := by simp; omega
    rw [cT (decide_eq_true h9), hA', hnum, hB, wAB, cT inA, Int.toNat_natCast, Int.toNat_natCast]
    have hQl : ((F.2.take (A' + B)).drop A').length = B := by simp; omega
    have hQ : ∀ t, t < B → ((F.2.take (A' + B)).drop A').getD t 0 = X.2.getD (u + t) 0 + (c : Int) := fun t ht => by
     rw [← hel t ht, List.getD_eq_getElem?_getD, List.getD_eq_getElem?_getD, List.getElem?_drop, List.getElem?_take, if_pos (by omega)]
    generalize (F.2.take (A' + B)).drop A' = Q at hQl hQ
    have tk2 : ∀ t, t < X.2.length → X.2.take (t + 1) = X.2.take t ++ [X.2.getD t 0] := fun t ht => by
     rw [List.take_succ_eq_append_getElem ht, List.getD_eq_getElem?_getD, List.getElem?_eq_getElem ht]; rfl
    have loop8 : ∀ (m' t : Nat), t + m' = B → ast_Part_8 S (S.length : Int) (i : Int) Q (Q.length : Int) (t : Int) (X.1.take i) (X.2.take (u + t)) F ([], []) (c : Int) args (nd F (c + i)) = some (X, 0) := by
     intro m'
     induction m' with
     | zero =>
      intro t ht
      have htB : t = B := by omega
      subst htB
      rw [ast_Part_8_eq, hQl, cF (decide_eq_false (by omega)), wc, wa, wS (by omega)]
      exact fin (u + t) (by rw [hvv])
     | succ m' ih8 =>
      intro t ht
      have htQ : t < Q.length := by omega
      have hut : u + t < X.2.length := by omega
      obtain ⟨k, hk, hkl⟩ := gX.arg hut
      have room : ∀ y : Int, Nat.ble (((X.2.take (u + t)).length + [y].length) * 8) 140737488355328 = true := fun y => Nat.ble_eq_true_of_le (by simp; omega)
      rw [ast_Part_8_eq, cT (decide_eq_true (by omega)), cT (ix htQ), Int.toNat_natCast, cT (room _), wS (by omega), hQ t (by omega), w64 (x := X.2.getD (u + t) 0 + (c : Int) - (c : Int)) (by rw [hk]; omega) (by rw [hk]; omega), show X.2.getD (u + t) 0 + (c : Int) - (c : Int) = X.2.getD (u + t) 0 by omega, ← tk2 _ hut]
      exact ih8 (t + 1) (by omega)
    exact loop8 B 0 (Nat.zero_add _)
   ·rw [cF (decide_eq_false h9)]
    have h9X : ¬ (nd X i).1 = 9 := by rw [h.nodes i hil, mv_kind] at h9; exact h9
    have hcf : callN (nd X i) = false := by unfold callN; rw [decide_eq_false h9X]; rfl
    exact fin u (by rw [b2]; unfold nextU; rw [hcf]; rfl)
 have last : ast_Part_4 0 ((c : Int) - 1) F F ([], []) (c : Int) args ((c + X.1.length - 1 : Nat) : Int) 0 = some (X, 0) := by
  have w1 : IntKind.i64.wrap (((c + X.1.length - 1 : Nat) : Int) + 1) = ((c + X.1.length : Nat) : Int) := by rw [w64 (by omega) (by omega)]; omega
  have inS : (decide (0 ≤ (c : Int)) && (decide ((c : Int) ≤ ((c + X.1.length : Nat) : Int)) && decide (((c + X.1.length : Nat) : Int) ≤ (F.1.length : Int)))) = true := by simp; omega
  rw [ast_Part_4_eq, cF (decide_eq_false (by omega)), w1, cT inS, Int.toNat_natCast, Int.toNat_natCast, hSe]
  exact build X.1.length 0 0 (Nat.zero_add _) rfl (Nat.zero_le _)
 rw [ast_Part_eq, r1, Option.bind_some, Bool.not_true, cond_false, cF (decide_eq_false (by omega)), decide_eq_false (by omega), ast_Part_1_eq, cond_false, ast_Part_2_eq, ast_Part_3_eq]
 refine Eq.trans ?_ last
 exact below
end Go.Proofs.YtgnkkanhjghhfaaGreatDoor.D
namespace Go.Proofs.YtgnkkanhjghhfaaGreatDoor.D
open Go Go.Proofs.YtgnkkanhjghhfaaGreatDoor.K
open Go.Proofs.YtgnkkanhjghhfaaGreatDoor.P (wS)
theorem bh_len (f g : Fmu) : (bhV f g).1.length = f.1.length + g.1.length ∧ (bhV f g).2.length = f.2.length + g.2.length := by simp [bhV]
theorem lt_join {f g : Fmu} (hf : Lt f) (hg : Lt g) (gf : Good f) (gg : Good g) {n : Nd} (hn : n.2.2.2.2.2.1.length ≤ 9223372036854775807) {A : List Int} (hA : A.length ≤ 2) (h3 : f.1.length + g.1.length ≤ 300) : Lt ((bhV f g).1 ++ [n], (bhV f g).2 ++ A) := by
 obtain ⟨l1, l2⟩ := bh_len f g
 have a1 := gf.args
 have a2 := gg.args
 refine ⟨by simp only [List.length_append, l1, List.length_singleton]; omega, by simp only [List.length_append, l2]; omega, fun x hx => ?_⟩
 simp only [List.mem_append, List.mem_singleton] at hx
 rcases hx with hx | rfl
 ·unfold bhV at hx
  simp only [List.mem_append, List.mem_map] at hx
  rcases hx with hx | ⟨y, hy, rfl⟩
  ·exact hf.t x hx
  ·rw [mv_text]; exact hg.t y hy
 ·exact hn
def nT (op : Int) (f g : Fmu) : Nd := (8, op, (f.1.length : Int) - 1, (f.1.length : Int) + (g.1.length : Int) - 1, (false, [], []), [], false, ([], 0, 0, false, false), [], 0, 0, false, false)
end Go.Proofs.YtgnkkanhjghhfaaGreatDoor.D
namespace Go.Proofs.YtgnkkanhjghhfaaGreatDoor.K
open Go
end Go.Proofs.YtgnkkanhjghhfaaGreatDoor.K
namespace Go.Proofs.YtgnkkanhjghhfaaGreatDoor.D
open Go Go.Proofs.YtgnkkanhjghhfaaGreatDoor.K
open Go.Proofs.YtgnkkanhjghhfaaGreatDoor.P (wS)
structure Okf (f : Fmu) : Prop where
 fine : Fine f
 t : ∀ n ∈ f.1, n.2.2.2.2.2.1.length ≤ 9223372036854775807
theorem Okf.lt {f : Fmu} (h : Okf f) : Lt f := by
 have := h.fine.2.1
 have := h.fine.1.args
 exact ⟨by omega, by omega, h.t⟩
inductive Res : Fmu → Int → Prop
 | no {e : Int} (h : e ≠ 0) : Res ([], []) e
 | yes {r : Fmu} (h : Okf r) : Res r 0
theorem Okf.right {f : Fmu} (h : Okf f) : ast_Right f = some true ∧ r13_Right f = some true := by
 obtain ⟨b, h1, h2, h3⟩ := xRightB f h.lt
 have hb : b = true := h3.2 h.fine
 subst hb
 exact ⟨h1, h2⟩
theorem yBehind (f g : Fmu) (hf1 : f.1.length ≤ 10000) (hf2 : f.2.length ≤ 10000) (gg : Good g) (hg1 : g.1.length ≤ 320) (hg2 : g.2.length ≤ 400) : r13_Behind f g = some (bhV f g) := by
 have b7 : ∀ (i : Nat) (N : List Nd) (A : List Int) (n : Nd), i < g.1.length → N.length ≤ 10000 + i → Sm n → r13_Behind_2 (i : Int) (decide (n.1 = 7) || decide (n.1 = 8)) N A f g ([], []) n = r13_Behind_1 ((i + 1 : Nat) : Int) (N ++ [mv n (f.1.length : Int) (f.2.length : Int)]) A f g ([], []) := fun i N A n hi hN sm => by
  have e7 : ∀ n' : Nd, r13_Behind_7 (i : Int) N A f g ([], []) n' = r13_Behind_1 ((i + 1 : Nat) : Int) (N ++ [n']) A f g ([], []) := fun n' => by
   have room : Nat.ble ((N.length + [n'].length) * 176) 140737488355328 = true := Nat.ble_eq_true_of_le (by simp; omega)
   rw [r13_Behind_7_eq, cT room, wS (by omega)]
  rw [r13_Behind_2_eq]
  simp only [r13_Behind_4_eq, r13_Behind_5_eq, r13_Behind_6_eq, e7, cond_true, cond_false]
  unfold mv
  by_cases h8 : n.1 = 8
  ·have h1 := sm.1 (.inr (.inl h8))
   have h2 := sm.2 h8
   rw [cT (by rw [decide_eq_true h8, Bool.or_true]), cT (decide_eq_true h8), cF (decide_eq_false (show ¬ n.1 = 9 by omega)), if_pos h8, w64 (x := n.2.2.1 + (f.1.length : Int)) (by omega) (by omega), w64 (x := n.2.2.2.1 + (f.1.length : Int)) (by omega) (by omega)]
  ·by_cases h7 : n.1 = 7
   ·have h1 := sm.1 (.inl h7)
    rw [cT (by rw [decide_eq_true h7, Bool.true_or]), cF (decide_eq_false h8), cF (decide_eq_false (show ¬ n.1 = 9 by omega)), if_neg h8, if_pos h7, w64 (x := n.2.2.1 + (f.1.length : Int)) (by omega) (by omega)]
   ·rw [cF (by rw [decide_eq_false h7, decide_eq_false h8]; rfl), cF (decide_eq_false h8), if_neg h8, if_neg h7]
    by_cases h9 : n.1 = 9
    ·rw [cT (decide_eq_true h9)]
     by_cases hp : n.2.2.2.1 > 0
     ·have h1 := sm.1 (.inr (.inr ⟨h9, hp⟩))
      rw [cT (decide_eq_true hp), if_pos ⟨h9, hp⟩, w64 (x := n.2.2.1 + (f.2.length : Int)) (by omega) (by omega)]
     ·rw [cF (decide_eq_false hp), if_neg fun h => hp h.2]
    ·rw [cF (decide_eq_false h9), if_neg fun h => h9 h.1]
 have loop2 : ∀ (m i : Nat) (N : List Nd) (A : List Int), i + m = g.2.length → A.length ≤ 10000 + i → r13_Behind_3 (i : Int) N A f g ([], []) = some (N, A ++ (g.2.drop i).map (fun x => x + (f.1.length : Int))) := by
  intro m
  induction m with
  | zero => intro i N A h _; rw [r13_Behind_3_eq, cF (decide_eq_false (by omega)), List.drop_of_length_le (by omega)]; simp
  | succ m ih =>
   intro i N A h hA
   have hi : i < g.2.length := by omega
   obtain ⟨k, hk, hkl⟩ := gg.arg hi
   have room : Nat.ble ((A.length + [IntKind.i64.wrap (g.2.getD i 0 + (f.1.length : Int))].length) * 8) 140737488355328 = true := Nat.ble_eq_true_of_le (by simp; omega)
   rw [r13_Behind_3_eq, cT (decide_eq_true (by omega)), cT (ix hi), Int.toNat_natCast, cT room, wS (by omega), w64 (x := g.2.getD i 0 + (f.1.length : Int)) (by rw [hk]; omega) (by rw [hk]; omega), ih (i + 1) N _ (by omega) (by simp; omega), idrop hi]
   simp
 have loop1 : ∀ (m i : Nat) (N : List Nd) (A : List Int), i + m = g.1.length → N.length ≤ 10000 + i → r13_Behind_1 (i : Int) N A f g ([], []) = r13_Behind_3 0 (N ++ (g.1.drop i).map (fun n => mv n (f.1.length : Int) (f.2.length : Int))) A f g ([], []) := by
  intro m
  induction m with
  | zero => intro i N A h _; rw [r13_Behind_1_eq, cF (decide_eq_false (by omega)), List.drop_of_length_le (by omega)]; simp
  | succ m ih =>
   intro i N A h hN
   have hi : i < g.1.length := by omega
   have sm : Sm (g.1.getD i ZN) := gg.sm hg1 hg2 hi
   rw [r13_Behind_1_eq, cT (decide_eq_true (by omega)), cT (ix hi), Int.toNat_natCast]
   show cond (decide ((g.1.getD i ZN).1 = 7)) (r13_Behind_2 (i : Int) true N A f g ([], []) (g.1.getD i ZN)) (r13_Behind_2 (i : Int) (decide ((g.1.getD i ZN).1 = 8)) N A f g ([], []) (g.1.getD i ZN)) = _
   have e := b7 i N A (g.1.getD i ZN) hi hN sm
   have e' : cond (decide ((g.1.getD i ZN).1 = 7)) (r13_Behind_2 (i : Int) true N A f g ([], []) (g.1.getD i ZN)) (r13_Behind_2 (i : Int) (decide ((g.1.getD i ZN).1 = 8)) N A f g ([], []) (g.1.getD i ZN)) = r13_Behind_2 (i : Int) (decide ((g.1.getD i ZN).1 = 7) || decide ((g.1.getD i ZN).1 = 8)) N A f g ([], []) (g.1.getD i ZN) := by
    cases decide ((g.1.getD i ZN).1 = 7) <;> rfl
   rw [e', e, ih (i + 1) _ A (by omega) (by simp; omega), ndrop hi]
   simp
 have roomN : Nat.ble ((0 + f.1.length) * 176) 140737488355328 = true := Nat.ble_eq_true_of_le (by omega)
 have roomA : Nat.ble ((0 + f.2.length) * 8) 140737488355328 = true := Nat.ble_eq_true_of_le (by omega)
 rw [r13_Behind_eq, cT roomN, cT roomA]
 refine (loop1 g.1.length 0 f.1 f.2 (Nat.zero_add _) (by omega)).trans ?_
 rw [List.drop_zero]
 refine (loop2 g.2.length 0 _ f.2 (Nat.zero_add _) (by omega)).trans ?_
 rw [List.drop_zero]; rfl
noncomputable def topX (h : Fmu) : Option (Fmu × Int) := cond (decide ((h.1.length : Int) > 300)) (some (([], []), 9)) ((ast_Right h).bind fun v1 => cond (!v1) (some (([], []), 8)) (some (h, 0)))
theorem bothTop (h : Fmu) (hl : h.1.length ≤ 300 → Lt h) : ∃ r e, topX h = some (r, e) ∧ r13_done h = some (r, e) ∧ Res r e := by
 unfold topX
 rw [r13_done_eq]
 by_cases h3 : h.1.length ≤ 300
 ·have hL := hl h3
  obtain ⟨b, e1, e2, q⟩ := xRightB h hL
  rw [cF (decide_eq_false (by omega)), cF (decide_eq_false (by omega)), e1, e2, Option.bind_some]
  cases b with
  | false => exact ⟨_, 8, rfl, rfl, .no (by decide)⟩
  | true => exact ⟨h, 0, rfl, rfl, .yes ⟨q.1 rfl, hL.t⟩⟩
 ·rw [cT (decide_eq_true (by omega)), cT (decide_eq_true (by omega))]
  exact ⟨_, 9, rfl, rfl, .no (by decide)⟩
def nO (op : Int) (f : Fmu) : Nd := (7, op, (f.1.length : Int) - 1, 0, (false, [], []), [], false, ([], 0, 0, false, false), [], 0, 0, false, false)
theorem bothOne (f : Fmu) (op : Int) (hf : Okf f) : ∃ r e, ast_One op f = some (r, e) ∧ r13_One op f = some (r, e) ∧ Res r e := by
 have hL := hf.lt
 have f1 := hL.n
 have f2 := hL.a
 have gf := hf.fine.1
 have w1 : IntKind.i64.wrap ((f.1.length : Int) - 1) = (f.1.length : Int) - 1 := w64 (by omega) (by omega)
 have xb : ast_One_1 true f ([], []) (nO op f) = some (([], []), 3) := by rw [ast_One_1_eq, cond_true]
 have yb : r13_One_1 op true f ([], []) = some (([], []), 3) := by rw [r13_One_1_eq, cond_true]
 have no3 : ∃ r e, some (([], []), (3 : Int)) = some (r, e) ∧ some (([], []), (3 : Int)) = some (r, e) ∧ Res r e := ⟨_, _, rfl, rfl, .no (by decide)⟩
 have hcan : canV (nO op f) = (decide (op = 13) || decide (op = 14)) := by
  have : eqC (nO op f) (c7 (nO op f)) = true := (eqC_eq _ _).2 rfl
  show (eqC (nO op f) (c7 (nO op f)) && opsV (nO op f)) = _
  rw [this]; rfl
 have hl : f.1.length ≤ 300 := hf.fine.2.1
 obtain ⟨r, e, t1, t2, t3⟩ := bothTop (f.1 ++ [nO op f], f.2) (fun h3 => ⟨by simp; omega, by omega, fun x hx => by
  simp only [List.mem_append, List.mem_singleton] at hx
  rcases hx with hx | rfl
  ·exact hL.t x hx
  ·simp [nO]⟩)
 have room : Nat.ble ((f.1.length + [nO op f].length) * 176) 140737488355328 = true := Nat.ble_eq_true_of_le (by simp; omega)
 have xg : ast_One_1 false f ([], []) (nO op f) = some (r, e) := by
  rw [ast_One_1_eq, cond_false, xBehind ([], []) f (by simp) (by simp) gf (by omega) (by omega), bh_nil, Option.bind_some, ast_One_2_eq, ast_One_3_eq, eqOr_same, cT room]
  exact t1
 have yg : r13_One_1 op false f ([], []) = some (r, e) := by
  rw [r13_One_1_eq, cond_false, yBehind ([], []) f (by simp) (by simp) gf (by omega) (by omega), bh_nil, Option.bind_some, w1]
  show cond (Nat.ble ((f.1.length + [nO op f].length) * 176) 140737488355328) ((r13_done (f.1 ++ [nO op f], f.2)).bind fun v2 => some v2) none = _
  rw [cT room, t2]; rfl
 rw [ast_One_eq, r13_One_eq, hf.right.1, hf.right.2, Option.bind_some, Option.bind_some, w1, yb, yg]
 show ∃ r e, (ast_may (nO op f)).bind (fun v2 => ast_One_1 (!v2) f ([], []) (nO op f)) = some (r, e) ∧ cond (!decide (op = 13)) (r13_One_1 op (!decide (op = 14)) f ([], [])) (some _) = some (r, e) ∧ _
 rw [xCan (nO op f) (by simp [nO]), Option.bind_some, hcan]
 by_cases h13 : op = 13
 ·rw [decide_eq_true h13]
  exact ⟨r, e, xg, rfl, t3⟩
 ·rw [decide_eq_false h13]
  by_cases h14 : op = 14
  ·rw [decide_eq_true h14]
   exact ⟨r, e, xg, yg, t3⟩
  ·rw [decide_eq_false h14]
   show ∃ r e, ast_One_1 true f ([], []) (nO op f) = some (r, e) ∧ r13_One_1 op true f ([], []) = some (r, e) ∧ _
   rw [xb, yb]; exact no3
theorem bothTwo (f g : Fmu) (op : Int) (hf : Okf f) (hg : Okf g) : ∃ r e, ast_Two op f g = some (r, e) ∧ r13_Two op f g = some (r, e) ∧ Res r e := by
 have hLf := hf.lt
 have hLg := hg.lt
 have f1 := hLf.n
 have f2 := hLf.a
 have g1 := hLg.n
 have g2 := hLg.a
 have gf := hf.fine.1
 have gg := hg.fine.1
 obtain ⟨l1, l2⟩ := bh_len f g
 have w1 : IntKind.i64.wrap ((f.1.length : Int) - 1) = (f.1.length : Int) - 1 := w64 (by omega) (by omega)
 have w2 : IntKind.i64.wrap (IntKind.i64.wrap ((f.1.length : Int) + (g.1.length : Int)) - 1) = (f.1.length : Int) + (g.1.length : Int) - 1 := by rw [w64 (x := (f.1.length : Int) + (g.1.length : Int)) (by omega) (by omega), w64 (by omega) (by omega)]
 have w3 : IntKind.i64.wrap (((bhV f g).1.length : Int) - 1) = (f.1.length : Int) + (g.1.length : Int) - 1 := by rw [l1, w64 (by omega) (by omega)]; omega
 have xb : ast_Two_1 true f g ([], []) (nT op f g) = some (([], []), 3) := by rw [ast_Two_1_eq, cond_true]
 have yb : r13_Two_1 op true f g ([], []) = some (([], []), 3) := by rw [r13_Two_1_eq, cond_true]
 have no3 : ∃ r e, some (([], []), (3 : Int)) = some (r, e) ∧ some (([], []), (3 : Int)) = some (r, e) ∧ Res r e := ⟨_, _, rfl, rfl, .no (by decide)⟩
 have hcan : canV (nT op f g) = (decide (op ≥ 1) && decide (op ≤ 12)) := by
  have : eqC (nT op f g) (c8 (nT op f g)) = true := (eqC_eq _ _).2 rfl
  show (eqC (nT op f g) (c8 (nT op f g)) && binV (nT op f g)) = _
  rw [this]; rfl
 obtain ⟨r, e, t1, t2, t3⟩ := bothTop ((bhV f g).1 ++ [nT op f g], (bhV f g).2) (fun h3 => by
  have := lt_join hLf hLg gf gg (n := nT op f g) (by simp [nT]) (A := []) (by simp) (by simp only [List.length_append, List.length_singleton, l1] at h3; omega)
  rwa [List.append_nil] at this)
 have room : Nat.ble (((bhV f g).1.length + [nT op f g].length) * 176) 140737488355328 = true := Nat.ble_eq_true_of_le (by simp; omega)
 have xg : ast_Two_1 false f g ([], []) (nT op f g) = some (r, e) := by
  rw [ast_Two_1_eq, cond_false, xBehind f g (by omega) (by omega) gg (by omega) (by omega), Option.bind_some, ast_Two_2_eq, ast_Two_3_eq, eqOr_same, cT room]
  exact t1
 have yg : r13_Two_1 op false f g ([], []) = some (r, e) := by
  rw [r13_Two_1_eq, cond_false, yBehind f g (by omega) (by omega) gg (by omega) (by omega), Option.bind_some, w1, w3]
  show cond (Nat.ble (((bhV f g).1.length + [nT op f g].length) * 176) 140737488355328) ((r13_done ((bhV f g).1 ++ [nT op f g], (bhV f g).2)).bind fun v2 => some v2) none = _
  rw [cT room, t2]; rfl
 rw [ast_Two_eq, r13_Two_eq, hf.right.1, hf.right.2, hg.right.1, hg.right.2, w1, w2, yb]
 repeat rw [Option.bind_some]
 show ∃ r e, (ast_may (nT op f g)).bind (fun v2 => ast_Two_1 (!v2) f g ([], []) (nT op f g)) = some (r, e) ∧ cond (decide (op < 1)) (some _) (r13_Two_1 op (decide (op > 12)) f g ([], [])) = some (r, e) ∧ _
 rw [xCan (nT op f g) (by simp [nT]), Option.bind_some, hcan]
 by_cases h1 : op < 1
 ·rw [decide_eq_true h1, decide_eq_false (show ¬ op ≥ 1 by omega)]
  show ∃ r e, ast_Two_1 true f g ([], []) (nT op f g) = some (r, e) ∧ _
  rw [xb]; exact no3
 ·rw [decide_eq_false h1, decide_eq_true (show op ≥ 1 by omega)]
  by_cases h2 : op > 12
  ·rw [decide_eq_true h2, decide_eq_false (show ¬ op ≤ 12 by omega)]
   show ∃ r e, ast_Two_1 true f g ([], []) (nT op f g) = some (r, e) ∧ r13_Two_1 op true f g ([], []) = some (r, e) ∧ _
   rw [xb, yb]; exact no3
  ·rw [decide_eq_false h2, decide_eq_true (show op ≤ 12 by omega)]
   exact ⟨r, e, xg, yg, t3⟩
theorem bothLeaf (n : Nd) (hs : n.2.2.2.2.2.1.length ≤ 9223372036854775807) : ∃ r e, ast_Leaf n = some (r, e) ∧ r13_Leaf n = some (r, e) ∧ Res r e := by
 have xb : ast_Leaf_1 true n ([], []) = some (([], []), 3) := by rw [ast_Leaf_1_eq, cond_true]
 have yb : r13_Leaf_1 true n ([], []) = some (([], []), 3) := by rw [r13_Leaf_1_eq, cond_true]
 have no3 : ∃ r e, some (([], []), (3 : Int)) = some (r, e) ∧ some (([], []), (3 : Int)) = some (r, e) ∧ Res r e := ⟨_, _, rfl, rfl, .no (by decide)⟩
 rw [ast_Leaf_eq, r13_Leaf_eq, xb, yb]
 by_cases h6 : n.1 > 6
 ·rw [cT (decide_eq_true h6), cT (decide_eq_true h6)]; exact no3
 ·rw [cF (decide_eq_false h6), cF (decide_eq_false h6), xCan n hs, yCan n hs, Option.bind_some, Option.bind_some]
  cases hc : canV n with
  | false => rw [Bool.not_false, xb, yb]; exact no3
  | true =>
   rw [Bool.not_true, ast_Leaf_1_eq, r13_Leaf_1_eq, cond_false]
   refine ⟨_, _, rfl, rfl, .yes ⟨⟨⟨by simp, fun j hj => ?_, fun j hj => ?_, ?_, ?_⟩, by simp, ?_⟩, fun x hx => by simp at hx; rw [hx]; exact hs⟩⟩
   all_goals
    have h7 : ¬ (nd ([n], []) 0).1 = 7 := by show ¬ n.1 = 7; omega
    have h8 : ¬ (nd ([n], []) 0).1 = 8 := by show ¬ n.1 = 8; omega
    have h9 : ¬ (nd ([n], []) 0).1 = 9 := by show ¬ n.1 = 9; omega
    have hcl : callN (nd ([n], []) 0) = false := by unfold callN; rw [decide_eq_false h9]; rfl
    have hkd : kd ([n], []) 0 = [] := kd_none h7 h8 hcl
   ·have : j = 0 := by simp at hj; exact hj
    subst this; exact hc
   ·have : j = 0 := by simp at hj; exact hj
    subst this
    unfold kv
    rw [decide_eq_false h7, decide_eq_false h8, decide_eq_false h9]; rfl
   ·exact .cons (k := 0) (by rw [hkd]; exact .nil 0) (.nil 1)
   ·show cls ([n], []) 1 = some 0
    simp only [cls, Option.bind_some, hcl, cond_false]
   ·show dv ([n], []) 0 [] ≤ 24
    unfold dv dvB
    rw [hkd, decide_eq_false h9, decide_eq_false h7]
    simp [dst]
end Go.Proofs.YtgnkkanhjghhfaaGreatDoor.D
namespace Go.Proofs.YtgnkkanhjghhfaaGreatDoor.D
open Go Go.Proofs.YtgnkkanhjghhfaaGreatDoor.K
open Go.Proofs.YtgnkkanhjghhfaaGreatDoor.P (wS)
abbrev Ac := List Int × Fmu
def accV : List Fmu → Ac → Ac
 | [], s => s
 | g :: l, s => accV l (s.1 ++ [((bhV s.2 g).1.length : Int) - 1], bhV s.2 g)
structure AcOk (i : Nat) (s : Ac) : Prop where
 a : s.1.length = i
 n : s.2.1.length ≤ 300 * i
 l : s.2.2.length ≤ s.2.1.length
 t : ∀ x ∈ s.2.1, x.2.2.2.2.2.1.length ≤ 9223372036854775807
theorem AcOk.step {i : Nat} {s : Ac} (h : AcOk i s) {g : Fmu} (hg : Okf g) : AcOk (i + 1) (s.1 ++ [((bhV s.2 g).1.length : Int) - 1], bhV s.2 g) := by
 obtain ⟨l1, l2⟩ := bh_len s.2 g
 have h3 := hg.fine.2.1
 have h4 := hg.fine.1.args
 have := h.a
 have := h.n
 have := h.l
 refine ⟨by simp [h.a], by show (bhV s.2 g).1.length ≤ _; omega, by show (bhV s.2 g).2.length ≤ (bhV s.2 g).1.length; omega, fun x hx => ?_⟩
 have hx : x ∈ (bhV s.2 g).1 := hx
 unfold bhV at hx
 simp only [List.mem_append, List.mem_map] at hx
 rcases hx with hx | ⟨y, hy, rfl⟩
 ·exact h.t x hx
 ·rw [mv_text]; exact hg.t y hy
theorem accOk : ∀ (l : List Fmu) (i : Nat) (s : Ac), AcOk i s → (∀ g ∈ l, Okf g) → AcOk (i + l.length) (accV l s)
 | [], i, s, h, _ => h
 | g :: l, i, s, h, hl => by
  have := accOk l (i + 1) _ (h.step (hl g (by simp))) (fun x hx => hl x (by simp [hx]))
  rw [show i + (g :: l).length = i + 1 + l.length by simp; omega]
  exact this
def nK (name : List UInt8) (L : List Fmu) (s : Ac) : Nd := (9, 0, cond (decide ((L.length : Int) > 0)) (s.2.2.length : Int) 0, (L.length : Int), (false, [], []), name, false, ([], 0, 0, false, false), [], 0, 0, false, false)
theorem fdrop {l : List Fmu} {i : Nat} (h : i < l.length) : l.drop i = l.getD i ([], []) :: l.drop (i + 1) := by
 rw [List.drop_eq_getElem_cons h, List.getD_eq_getElem?_getD, List.getElem?_eq_getElem h]; rfl
theorem getD_in {l : List Fmu} {i : Nat} (h : i < l.length) : l.getD i ([], []) ∈ l := by
 rw [List.getD_eq_getElem?_getD, List.getElem?_eq_getElem h]; exact List.getElem_mem h
theorem xAcc (name : List UInt8) (L : List Fmu) (hL : L.length ≤ 20) (hO : ∀ g ∈ L, Okf g) : ∀ (m i : Nat) (s : Ac), i + m = L.length → AcOk i s → ast_Call_6 name L L (L.length : Int) (i : Int) s.1 s.2.1 s.2.2 ([], []) = ast_Call_7 (accV (L.drop i) s).1 (accV (L.drop i) s).2.1 (accV (L.drop i) s).2.2 ([], []) (nK name L (accV (L.drop i) s))
 | 0, i, s, h, hs => by
  rw [ast_Call_6_eq, cF (decide_eq_false (by omega)), List.drop_of_length_le (by omega)]
  simp only [accV, nK]
  cases decide ((L.length : Int) > 0) <;> rfl
 | m + 1, i, s, h, hs => by
  have hi : i < L.length := by omega
  have hg := hO _ (getD_in hi)
  have h1 := hs.a
  have h2 := hs.n
  have h3 := hs.l
  have hLg := hg.lt
  have g1 := hLg.n
  have g2 := hLg.a
  obtain ⟨l1, l2⟩ := bh_len s.2 (L.getD i ([], []))
  have w : IntKind.i64.wrap (((bhV s.2 (L.getD i ([], []))).1.length : Int) - 1) = ((bhV s.2 (L.getD i ([], []))).1.length : Int) - 1 := w64 (by omega) (by omega)
  have room : ∀ y : Int, Nat.ble ((s.1.length + [y].length) * 8) 140737488355328 = true := fun y => Nat.ble_eq_true_of_le (by simp; omega)
  rw [ast_Call_6_eq, cT (decide_eq_true (by omega)), cT (ix hi), Int.toNat_natCast]
  show (ast_behind s.2 (L.getD i ([], []))).bind _ = _
  rw [xBehind s.2 _ (by omega) (by omega) hg.fine.1 g1 g2, Option.bind_some, w, cT (room _), wS (by omega), fdrop hi]
  exact xAcc name L hL hO m (i + 1) (s.1 ++ [((bhV s.2 (L.getD i ([], []))).1.length : Int) - 1], bhV s.2 (L.getD i ([], []))) (by omega) (hs.step hg)
theorem yAcc (name : List UInt8) (L : List Fmu) (hL : L.length ≤ 20) (hO : ∀ g ∈ L, Okf g) : ∀ (m i : Nat) (s : Ac), i + m = L.length → AcOk i s → r13_Call_2 name L (i : Int) s.1 s.2.1 s.2.2 ([], []) = r13_Call_3 (accV (L.drop i) s).1 (accV (L.drop i) s).2.1 (accV (L.drop i) s).2.2 ([], []) (nK name L (accV (L.drop i) s))
 | 0, i, s, h, hs => by
  rw [r13_Call_2_eq, cF (decide_eq_false (by omega)), List.drop_of_length_le (by omega)]
  simp only [accV, nK]
  cases decide ((L.length : Int) > 0) <;> rfl
 | m + 1, i, s, h, hs => by
  have hi : i < L.length := by omega
  have hg := hO _ (getD_in hi)
  have h1 := hs.a
  have h2 := hs.n
  have h3 := hs.l
  have hLg := hg.lt
  have g1 := hLg.n
  have g2 := hLg.a
  obtain ⟨l1, l2⟩ := bh_len s.2 (L.getD i ([], []))
  have w : IntKind.i64.wrap (((bhV s.2 (L.getD i ([], []))).1.length : Int) - 1) = ((bhV s.2 (L.getD i ([], []))).1.length : Int) - 1 := w64 (by omega) (by omega)
  have room : ∀ y : Int, Nat.ble ((s.1.length + [y].length) * 8) 140737488355328 = true := fun y => Nat.ble_eq_true_of_le (by simp; omega)
  rw [r13_Call_2_eq, cT (decide_eq_true (by omega)), cT (ix hi), Int.toNat_natCast]
  show (r13_Behind s.2 (L.getD i ([], []))).bind _ = _
  rw [yBehind s.2 _ (by omega) (by omega) hg.fine.1 g1 g2, Option.bind_some, w, cT (room _), wS (by omega), fdrop hi]
  exact yAcc name L hL hO m (i + 1) (s.1 ++ [((bhV s.2 (L.getD i ([], []))).1.length : Int) - 1], bhV s.2 (L.getD i ([], []))) (by omega) (hs.step hg)
theorem xAll (name : List UInt8) (L : List Fmu) (hL : L.length ≤ 1000) (hO : ∀ g ∈ L, Okf g) : ∀ (m i : Nat), i + m = L.length → ast_Call_3 L (L.length : Int) (i : Int) [] [] name L = (ast_named name).bind fun v1 => ast_Call_5 name L (!v1) ([], [])
 | 0, i, h => by rw [ast_Call_3_eq, cF (decide_eq_false (by omega))]; rfl
 | m + 1, i, h => by
  have hi : i < L.length := by omega
  have hg := hO _ (getD_in hi)
  rw [ast_Call_3_eq, cT (decide_eq_true (by omega)), cT (ix hi), Int.toNat_natCast, ast_Call_4_eq, hg.right.1, Option.bind_some, Bool.not_true, cond_false, wS (by omega)]
  exact xAll name L hL hO m (i + 1) (by omega)
theorem yAll (name : List UInt8) (L : List Fmu) (hL : L.length ≤ 1000) (hO : ∀ g ∈ L, Okf g) : ∀ (m i : Nat), i + m = L.length → r13_Call_1 name L (i : Int) ([], []) = (r13_Named name).bind fun v2 => cond (!v2) (some (([], []), 3)) (cond (decide ((L.length : Int) > 20)) (some (([], []), 2)) (r13_Call_2 name L 0 [] [] [] ([], [])))
 | 0, i, h => by rw [r13_Call_1_eq, cF (decide_eq_false (by omega))]
 | m + 1, i, h => by
  have hi : i < L.length := by omega
  have hg := hO _ (getD_in hi)
  rw [r13_Call_1_eq, cT (decide_eq_true (by omega)), cT (ix hi), Int.toNat_natCast, hg.right.2, Option.bind_some, Bool.not_true, cond_false, wS (by omega)]
  exact yAll name L hL hO m (i + 1) (by omega)
theorem bothCall (name : List UInt8) (hname : name.length ≤ 9223372036854775807) (L : List Fmu) (hL : L.length ≤ 1000) (hO : ∀ g ∈ L, Okf g) : ∃ r e, ast_Call name L = some (r, e) ∧ r13_Call name L = some (r, e) ∧ Res r e := by
 have xb : ast_Call_5 name L true ([], []) = some (([], []), 3) := by rw [ast_Call_5_eq, cond_true]
 have x0 : ast_Call name L = (ast_named name).bind fun v1 => ast_Call_5 name L (!v1) ([], []) := by
  rw [ast_Call_eq, ast_Call_1_eq, ast_Call_2_eq]
  exact xAll name L hL hO L.length 0 (Nat.zero_add _)
 have y0 := yAll name L hL hO L.length 0 (Nat.zero_add _)
 rw [r13_Call_eq, x0]
 have y0 : r13_Call_1 name L 0 ([], []) = _ := y0
 rw [y0, xNm name hname, yNm name hname, Option.bind_some, Option.bind_some]
 cases nmV name with
 | false => rw [Bool.not_false, xb]; exact ⟨_, _, rfl, rfl, .no (by decide)⟩
 | true =>
  rw [Bool.not_true, cond_false, ast_Call_5_eq, cond_false]
  by_cases h20 : L.length ≤ 20
  ·rw [cF (decide_eq_false (by omega)), cF (decide_eq_false (by omega))]
   have ok0 : AcOk 0 (([], ([], [])) : Ac) := ⟨rfl, by simp, by simp, fun x hx => by cases hx⟩
   have xa := xAcc name L h20 hO L.length 0 ([], ([], [])) (Nat.zero_add _) ok0
   have ya := yAcc name L h20 hO L.length 0 ([], ([], [])) (Nat.zero_add _) ok0
   have ao := accOk L 0 _ ok0 hO
   rw [List.drop_zero] at xa ya
   rw [Nat.zero_add] at ao
   have xa : ast_Call_6 name L L (L.length : Int) 0 [] [] [] ([], []) = _ := xa
   have ya : r13_Call_2 name L 0 [] [] [] ([], []) = _ := ya
   rw [xa, ya]
   generalize accV L ([], ([], [])) = s at ao
   have h1 := ao.a
   have h2 := ao.n
   have h3 := ao.l
   obtain ⟨r, e, t1, t2, t3⟩ := bothTop (s.2.1 ++ [nK name L s], s.2.2 ++ s.1) (fun h => by
    simp only [List.length_append, List.length_singleton] at h
    refine ⟨by simp; omega, by simp; omega, fun x hx => ?_⟩
    simp only [List.mem_append, List.mem_singleton] at hx
    rcases hx with hx | rfl
    ·exact ao.t x hx
    ·exact hname)
   have room7 : Nat.ble ((s.2.2.length + s.1.length) * 8) 140737488355328 = true := Nat.ble_eq_true_of_le (by omega)
   have room8 : Nat.ble ((s.2.1.length + [nK name L s].length) * 176) 140737488355328 = true := Nat.ble_eq_true_of_le (by simp; omega)
   refine ⟨r, e, ?_, ?_, t3⟩
   ·rw [ast_Call_7_eq, cT room7, ast_Call_8_eq, cT room8]; exact t1
   ·rw [r13_Call_3_eq, cT room8, cT room7, t2]; rfl
  ·rw [cT (decide_eq_true (by omega)), cT (decide_eq_true (by omega))]
   exact ⟨_, _, rfl, rfl, .no (by decide)⟩
end Go.Proofs.YtgnkkanhjghhfaaGreatDoor.D
namespace Go.Proofs.YtgnkkanhjghhfaaGreatDoor.D
open Go Go.Proofs.YtgnkkanhjghhfaaGreatDoor.K
open Go.Proofs.YtgnkkanhjghhfaaGreatDoor.P (wS)
theorem can7 {n : Nd} (h : n.1 = 7) : canV n = (eqC n (c7 n) && opsV n) := by unfold canV; rw [h]; rfl
theorem can8 {n : Nd} (h : n.1 = 8) : canV n = (eqC n (c8 n) && binV n) := by unfold canV; rw [h]; rfl
theorem can9 {n : Nd} (h : n.1 = 9) : canV n = (eqC n (c9 n) && (nmV n.2.2.2.2.2.1 && argV n)) := by unfold canV; rw [h]; rfl
theorem can_mv {n : Nd} (h : canV n = true) (a b : Int) : canV (mv n a b) = true := by
 by_cases h8 : n.1 = 8
 ·rw [can8 h8, Bool.and_eq_true] at h
  obtain ⟨e, q⟩ := h
  have e := (eqC_eq _ _).1 e
  have hk : (mv n a b).1 = 8 := by rw [mv_kind, h8]
  rw [can8 hk, Bool.and_eq_true]
  have hm : mv n a b = (n.1, n.2.1, n.2.2.1 + a, n.2.2.2.1 + a, n.2.2.2.2) := by unfold mv; rw [if_pos h8]
  have hr : n.2.2.2.2 = (c8 n).2.2.2.2 := congrArg (fun x : Nd => x.2.2.2.2) e
  refine ⟨(eqC_eq _ _).2 ?_, ?_⟩
  ·rw [hm, hr]; rfl
  ·rw [hm]; exact q
 ·by_cases h7 : n.1 = 7
  ·rw [can7 h7, Bool.and_eq_true] at h
   obtain ⟨e, q⟩ := h
   have e := (eqC_eq _ _).1 e
   have hk : (mv n a b).1 = 7 := by rw [mv_kind, h7]
   rw [can7 hk, Bool.and_eq_true]
   have hm : mv n a b = (n.1, n.2.1, n.2.2.1 + a, n.2.2.2) := by unfold mv; rw [if_neg h8, if_pos h7]
   have hr : n.2.2.2 = (c7 n).2.2.2 := congrArg (fun x : Nd => x.2.2.2) e
   refine ⟨(eqC_eq _ _).2 ?_, ?_⟩
   ·rw [hm, hr]; rfl
   ·rw [hm]; exact q
  ·by_cases hc : n.1 = 9 ∧ n.2.2.2.1 > 0
   ·have h9 := hc.1
    rw [can9 h9, Bool.and_eq_true, Bool.and_eq_true] at h
    obtain ⟨e, q, r⟩ := h
    have e := (eqC_eq _ _).1 e
    have hk : (mv n a b).1 = 9 := by rw [mv_kind, h9]
    rw [can9 hk, Bool.and_eq_true, Bool.and_eq_true]
    have hm : mv n a b = (n.1, n.2.1, n.2.2.1 + b, n.2.2.2) := by unfold mv; rw [if_neg h8, if_neg h7, if_pos hc]
    have ho : n.2.1 = 0 := congrArg (fun x : Nd => x.2.1) e
    have hr : n.2.2.2 = (c9 n).2.2.2 := congrArg (fun x : Nd => x.2.2.2) e
    refine ⟨(eqC_eq _ _).2 ?_, ?_, ?_⟩
    ·rw [hm, hr, ho]; rfl
    ·rw [mv_text]; exact q
    ·rw [hm]
     unfold argV at r ⊢
     simp only [Bool.and_eq_true, Bool.or_eq_true, decide_eq_true_eq] at r ⊢
     exact ⟨r.1, r.2.1, .inl hc.2⟩
   ·have hm : mv n a b = n := by unfold mv; rw [if_neg h8, if_neg h7, if_neg hc]
    rw [hm]; exact h
theorem lev_mv (n : Nd) (a b : Int) : levV (mv n a b) = levV n := by
 have h2 : (mv n a b).2.1 = n.2.1 := by unfold mv; repeat' (first | rfl | split)
 unfold levV
 rw [mv_kind, h2]
theorem kv_told {n : Nd} {A : List Int} (h : callN n = true → oddK n A = false) : (kv n A).2 = true := by
 unfold kv
 unfold callN at h
 cases h7 : decide (n.1 = 7)
 ·cases h8 : decide (n.1 = 8)
  ·cases h9 : decide (n.1 = 9)
   ·rfl
   ·cases hb : decide (n.2.2.2.1 > 0)
    ·rfl
    ·rw [h9, hb] at h
     rw [h rfl]; rfl
  ·rfl
 ·rfl
theorem cls_mono {f : Fmu} {p : Nat} {u : Int} (hu : cls f p = some u) : ∀ (k : Nat) {v : Int}, (∀ j, j < p + k → canV (nd f j) = true) → cls f (p + k) = some v → u ≤ v
 | 0, v, _, hv => by have := Option.some.inj (hu.symm.trans hv); omega
 | k + 1, v, hc, hv => by
  obtain ⟨w, hw⟩ := cls_pre f hv (show p + k ≤ p + (k + 1) by omega)
  have a := cls_mono hu k (fun j hj => hc j (by omega)) hw
  obtain ⟨_, e⟩ := cls_back hw hv
  rw [e]; unfold nextU
  cases hb : callN (nd f (p + k)) with
  | false => exact a
  | true => have := callN_can (hc (p + k) (by omega)) hb; simp only [cond_true]; omega
theorem dst_ge {f : Fmu} {own : Int} {call bin : Bool} {out : List Int} : ∀ (l : List Int) (i : Nat) (d : Int), d ≤ dst f own call bin out i l d ∧ ∀ x ∈ l, out.getD x.toNat 0 ≤ dst f own call bin out i l d
 | [], i, d => ⟨Int.le_refl _, fun x hx => by cases hx⟩
 | y :: l, i, d => by
  simp only [dst]
  have e : out.getD y.toNat 0 ≤ cond (braB f own call bin i y) (out.getD y.toNat 0 + 1) (out.getD y.toNat 0) := by
   cases braB f own call bin i y
   ·exact Int.le_refl _
   ·simp only [cond_true]; omega
  obtain ⟨h1, h2⟩ := dst_ge (f := f) (own := own) (call := call) (bin := bin) (out := out) l (i + 1) (max d (cond (braB f own call bin i y) (out.getD y.toNat 0 + 1) (out.getD y.toNat 0)))
  refine ⟨by omega, fun x hx => ?_⟩
  rcases List.mem_cons.1 hx with rfl | hx
  ·omega
  ·exact h2 x hx
def Df (f : Fmu) (j : Nat) : Int := dv f j (dl f j)
theorem Df_kid {f : Fmu} {k x : Nat} (hx : (x : Int) ∈ kd f k) (hk : x < k) : Df f x ≤ Df f k := by
 have h := (dst_ge (f := f) (own := levV (nd f k)) (call := decide ((nd f k).1 = 9)) (bin := decide ((nd f k).1 = 8)) (out := dl f k) (kd f k) 0 0).2 _ hx
 rw [Int.toNat_natCast, dl_get f hk] at h
 unfold Df
 unfold dv dvB at *
 cases decide ((nd f k).1 = 9) || (decide ((nd f k).1 = 7) && decide ((nd f k).2.1 = 13))
 ·simp only [cond_false]; exact h
 ·simp only [cond_true]
  exact Int.le_trans h (by omega)
theorem Df_up {f : Fmu} {a b : Nat} {ks : List Int} (h : Fo (kd f) a b ks) : ∀ j, a ≤ j → j < b → ∃ k : Nat, (k : Int) ∈ ks ∧ Df f j ≤ Df f k := by
 induction h with
 | nil a => intro j h1 h2; omega
 | @cons a k b ks f1 f2 ih1 ih2 =>
  intro j h1 h2
  by_cases hj : j < k
  ·obtain ⟨x, hx, hle⟩ := ih1 j h1 hj
   obtain ⟨x', e, _, hxk⟩ := f1.mem _ hx
   have : x = x' := Int.ofNat_inj.1 e
   exact ⟨k, List.mem_cons_self .., Int.le_trans hle (Df_kid hx (by omega))⟩
  ·by_cases he : j = k
   ·subst he; exact ⟨j, List.mem_cons_self .., Int.le_refl _⟩
   ·obtain ⟨x, hx, hle⟩ := ih2 j (by omega) h2
    exact ⟨x, List.mem_cons_of_mem _ hx, hle⟩
theorem Fo.unshift {kd kd' : Nat → List Int} {c n : Nat} (hk : ∀ j, j < n → kd' (c + j) = (kd j).map (fun x => x + (c : Int))) {a b : Nat} {ks : List Int} (h : Fo kd' a b ks) : ∀ p q, a = c + p → b = c + q → q ≤ n → Fo kd p q (ks.map (fun x => x - (c : Int))) := by
 induction h with
 | nil a =>
  intro p q h1 h2 _
  have : p = q := by omega
  subst this; exact .nil p
 | @cons a k b ks f1 f2 ih1 ih2 =>
  intro p q h1 h2 hq
  have l1 := f1.le
  have l2 := f2.le
  obtain ⟨k0, rfl⟩ : ∃ k0, k = c + k0 := ⟨k - c, by omega⟩
  have e1 := ih1 p k0 h1 rfl (by omega)
  rw [hk k0 (by omega), List.map_map] at e1
  have : ((fun x : Int => x - (c : Int)) ∘ fun x => x + (c : Int)) = id := by funext x; simp
  rw [this, List.map_id] at e1
  have e2 := ih2 (k0 + 1) q (by omega) h2 hq
  rw [List.map_cons, show ((c + k0 : Nat) : Int) - (c : Int) = (k0 : Int) by omega]
  exact .cons e1 e2
theorem In.deep {F X : Fmu} {c d : Nat} (h : In F X c d) (g : Good X) : ∀ j, j < X.1.length → Df X j = Df F (c + j) := by
 intro j
 induction j using Nat.strongRecOn with
 | _ j ih =>
  intro hj
  have hnd := h.nodes j hj
  have hk := h.kids (g.told j hj) hj
  have hd : ∀ (l : List Int) (i : Nat) (e : Int), (∀ x ∈ l, ∃ k : Nat, x = (k : Int) ∧ k < j) → dst X (levV (nd X j)) (decide ((nd X j).1 = 9)) (decide ((nd X j).1 = 8)) (dl X j) i l e = dst F (levV (nd F (c + j))) (decide ((nd F (c + j)).1 = 9)) (decide ((nd F (c + j)).1 = 8)) (dl F (c + j)) i (l.map (fun x => x + (c : Int))) e := by
   intro l
   induction l with
   | nil => intro i e _; rfl
   | cons x l ihl =>
    intro i e hx
    obtain ⟨k, hk1, hk2⟩ := hx x (by simp)
    have e1 : (dl X j).getD x.toNat 0 = (dl F (c + j)).getD (x + (c : Int)).toNat 0 := by
     rw [hk1, show ((k : Int) + (c : Int)).toNat = c + k by omega, Int.toNat_natCast, dl_get X hk2, dl_get F (by omega)]
     exact ih k hk2 (by omega)
    have e2 : braB X (levV (nd X j)) (decide ((nd X j).1 = 9)) (decide ((nd X j).1 = 8)) i x = braB F (levV (nd F (c + j))) (decide ((nd F (c + j)).1 = 9)) (decide ((nd F (c + j)).1 = 8)) i (x + (c : Int)) := by
     unfold braB
     rw [hk1, show ((k : Int) + (c : Int)).toNat = c + k by omega, Int.toNat_natCast, hnd, h.nodes k (by omega), lev_mv, lev_mv, mv_kind]
    simp only [List.map_cons, dst]
    rw [e1, e2]
    exact ihl (i + 1) _ fun y hy => hx y (by simp [hy])
  unfold Df dv dvB
  have h2 : (nd F (c + j)).2.1 = (nd X j).2.1 := by rw [hnd]; unfold mv; repeat' (first | rfl | split)
  have hkid : ∀ x ∈ kd X j, ∃ k : Nat, x = (k : Int) ∧ k < j := fun x hx => by
   obtain ⟨t, ht, hxt⟩ := List.getElem_of_mem hx
   obtain ⟨k, h3, h4⟩ := g.kid hj ht
   refine ⟨k, ?_, h4⟩
   rw [← h3, List.getD_eq_getElem?_getD, List.getElem?_eq_getElem ht, ← hxt]; rfl
  rw [hd (kd X j) 0 0 hkid, hk, h2, show (nd F (c + j)).1 = (nd X j).1 by rw [hnd, mv_kind]]
theorem partX {F : Fmu} (hF : Okf F) {i : Nat} (hi : i < F.1.length) : ∃ (X : Fmu) (c d : Nat), c + X.1.length = i + 1 ∧ In F X c d ∧ Okf X := by
 have g := hF.fine.1
 obtain ⟨a, fo⟩ := g.fo.at i (Nat.zero_le _) hi
 have hai := fo.le
 have fo1 : Fo (kd F) a (i + 1) [(i : Int)] := .cons fo (.nil (i + 1))
 obtain ⟨u, hu⟩ := cls_pre F g.cl (show a ≤ F.1.length by omega)
 obtain ⟨v, hv⟩ := cls_pre F g.cl (show i + 1 ≤ F.1.length by omega)
 have hu0 : 0 ≤ u := (cls_cover (fun j hj => g.can j (by omega)) hu).1
 have huv : u ≤ v := cls_mono hu (i + 1 - a) (fun j hj => g.can j (by omega)) (by rw [show a + (i + 1 - a) = i + 1 by omega]; exact hv)
 have hvl : v ≤ (F.2.length : Int) := cls_mono hv (F.1.length - (i + 1)) (fun j hj => g.can j (by omega)) (by rw [show i + 1 + (F.1.length - (i + 1)) = F.1.length by omega]; exact g.cl)
 obtain ⟨d, rfl⟩ : ∃ d : Nat, u = (d : Int) := ⟨u.toNat, by omega⟩
 obtain ⟨e, rfl⟩ : ∃ e : Nat, v = (e : Int) := ⟨v.toNat, by omega⟩
 let X : Fmu := (((F.1.drop a).take (i + 1 - a)).map (fun m => mv m (-(a : Int)) (-(d : Int))), ((F.2.drop d).take (e - d)).map (fun x => x - (a : Int)))
 have hX1 : X.1.length = i + 1 - a := by simp [X]; omega
 have hX2 : X.2.length = e - d := by simp [X]; omega
 have hnd : ∀ j, j < X.1.length → nd X j = mv (nd F (a + j)) (-(a : Int)) (-(d : Int)) := fun j hj => by
  unfold nd
  simp only [X]
  rw [List.getD_eq_getElem?_getD, List.getElem?_map, List.getElem?_take, if_pos (by omega), List.getElem?_drop, List.getD_eq_getElem?_getD, List.getElem?_eq_getElem (show a + j < F.1.length by omega)]; rfl
 have hin : In F X a d := by
  refine ⟨fun j hj => ?_, by omega, fun t ht => ?_, by omega⟩
  ·rw [hnd j hj]
   have := mv_back (nd F (a + j)) (-(a : Int)) (-(d : Int)) (-(d : Int)) (fun _ => rfl)
   rw [Int.neg_neg, Int.neg_neg] at this
   exact this.symm
  ·simp only [X]
   rw [List.getD_eq_getElem?_getD, List.getD_eq_getElem?_getD, List.getElem?_map, List.getElem?_take, if_pos (by omega), List.getElem?_drop, List.getElem?_eq_getElem (show d + t < F.2.length by omega)]
   simp
 have hcall : ∀ j, j < X.1.length → callN (nd X j) = callN (nd F (a + j)) := fun j hj => by rw [hnd j hj, callN_mv]
 have told : ∀ j, j < X.1.length → (kv (nd X j) X.2).2 = true := fun j hj => by
  refine kv_told fun hc => ?_
  have hcF : callN (nd F (a + j)) = true := by rw [← hcall j hj]; exact hc
  obtain ⟨w, hw⟩ := cls_pre F g.cl (show a + j ≤ F.1.length by omega)
  obtain ⟨w', hw'⟩ := cls_pre F g.cl (show a + j + 1 ≤ F.1.length by omega)
  obtain ⟨b1, b2⟩ := cls_back hw hw'
  have hA := b1 hcF
  have hB : w' = w + (nd F (a + j)).2.2.2.1 := by rw [b2]; unfold nextU; rw [hcF]; rfl
  have m1 := cls_mono hu j (fun k hk => g.can k (by omega)) hw
  have m2 := cls_mono hw' (i + 1 - (a + j + 1)) (fun k hk => g.can k (by omega)) (by rw [show a + j + 1 + (i + 1 - (a + j + 1)) = i + 1 by omega]; exact hv)
  obtain ⟨e1, e2⟩ := mv_call hcF (-(a : Int)) (-(d : Int))
  have hcn := callN_can (g.can (a + j) (by omega)) hcF
  unfold oddK
  rw [hnd j hj, e1, e2, hX2]
  simp only [Bool.or_eq_false_iff, decide_eq_false_iff_not]
  omega
 have clsX : ∀ m, m ≤ X.1.length → ∃ w, cls F (a + m) = some w ∧ cls X m = some (w - (d : Int)) := by
  intro m
  induction m with
  | zero => intro _; exact ⟨d, hu, by simp [cls]⟩
  | succ m ihm =>
   intro hm
   obtain ⟨w, hw, hx⟩ := ihm (by omega)
   obtain ⟨w', hw'⟩ := cls_pre F g.cl (show a + m + 1 ≤ F.1.length by omega)
   obtain ⟨b1, b2⟩ := cls_back hw hw'
   refine ⟨w', hw', ?_⟩
   have hc := hcall m (by omega)
   rw [cls_next hx (fun h => by
    rw [hc] at h
    have := b1 h
    rw [hnd m (by omega), (mv_call h _ _).1, this]; omega)]
   congr 1
   rw [b2]
   unfold nextU
   rw [hc]
   cases hb : callN (nd F (a + m)) with
   | false => rfl
   | true => rw [hnd m (by omega), (mv_call hb _ _).2]; simp only [cond_true]; omega
 have foX : Fo (kd X) 0 X.1.length [((X.1.length - 1 : Nat) : Int)] := by
  have := Fo.unshift (kd := kd X) (kd' := kd F) (c := a) (n := X.1.length) (fun j hj => hin.kids (told j hj) hj) fo1 0 X.1.length rfl (by omega) (Nat.le_refl _)
  rw [List.map_cons, List.map_nil, show (i : Int) - (a : Int) = ((X.1.length - 1 : Nat) : Int) by omega] at this
  exact this
 have gX : Good X := by
  refine ⟨by omega, fun j hj => ?_, told, foX, ?_⟩
  ·rw [hnd j hj]; exact can_mv (g.can (a + j) (by omega)) _ _
  ·obtain ⟨w, hw, hx⟩ := clsX X.1.length (Nat.le_refl _)
   rw [show a + X.1.length = i + 1 by omega, hv] at hw
   have hw := Option.some.inj hw
   rw [hx, ← hw, hX2]; congr 1; omega
 have h300 := hF.fine.2.1
 refine ⟨X, a, d, by omega, hin, ⟨gX, by omega, ?_⟩, fun x hx => ?_⟩
 ·have e1 := hin.deep gX (X.1.length - 1) (by omega)
  rw [show a + (X.1.length - 1) = i by omega] at e1
  obtain ⟨k, hk, hle⟩ := Df_up g.fo i (Nat.zero_le _) hi
  simp only [List.mem_singleton] at hk
  have hk : k = F.1.length - 1 := Int.ofNat_inj.1 hk
  have h24 : Df F (F.1.length - 1) ≤ 24 := hF.fine.2.2
  rw [hk] at hle
  show Df X (X.1.length - 1) ≤ 24
  rw [e1]
  exact Int.le_trans hle h24
 ·simp only [X, List.mem_map] at hx
  obtain ⟨y, hy, rfl⟩ := hx
  rw [mv_text]
  exact hF.t y (List.mem_of_mem_drop (List.mem_of_mem_take hy))
end Go.Proofs.YtgnkkanhjghhfaaGreatDoor.D
namespace Go.Proofs.YtgnkkanhjghhfaaGreatDoor.D
open Go Go.Proofs.YtgnkkanhjghhfaaGreatDoor.K
open Go.Proofs.YtgnkkanhjghhfaaGreatDoor.P (wS)
theorem ntk1 {l : List Nd} {i : Nat} (h : i < l.length) : l.take (i + 1) = l.take i ++ [l.getD i ZN] := by
 rw [List.take_succ_eq_append_getElem h, List.getD_eq_getElem?_getD, List.getElem?_eq_getElem h]; rfl
theorem yPart {F X : Fmu} {c d : Nat} (hF : Okf F) (gX : Good X) (h : In F X c d) (hx : X.1.length ≤ 300) : r13_Part F ((c + X.1.length - 1 : Nat) : Int) = some (X, 0) := by
 have hL := hF.lt
 have hF1 := hL.n
 have hF2 := hL.a
 have g := hF.fine.1
 have hlen := h.len
 have halen := h.alen
 have one := gX.one
 have hXa := gX.args
 have fo := gX.fo.shift (n := X.1.length) (fun j hj => h.kids (gX.told j hj) hj) (Nat.le_refl _)
 have foF : Fo (kd F) c (c + X.1.length) [((c + X.1.length - 1 : Nat) : Int)] := by
  have e : [((X.1.length - 1 : Nat) : Int)].map (fun x => x + (c : Int)) = [((c + X.1.length - 1 : Nat) : Int)] := by simp; omega
  rw [← e]; exact fo
 obtain ⟨k, hk, hk1, fok⟩ := foF.one
 have hkc : k = c + X.1.length - 1 := by omega
 subst hkc
 have hw := yWalkFo F (by omega) g.told (c + X.1.length - 1) c 300 (by omega) fok (by omega) (by omega)
 rw [show c + X.1.length - 1 + 1 - c = X.1.length by omega] at hw
 have hiv := iv_len X.1.length c
 have hiv0 := iv_get X.1.length c 0 (by omega)
 have wc : ∀ y : Int, -10000 ≤ y → y ≤ 10000 → IntKind.i64.wrap (y + (c : Int) - (c : Int)) = y := fun y h1 h2 => by rw [show y + (c : Int) - (c : Int) = y by omega, w64 (by omega) (by omega)]
 have build : ∀ (m j : Nat) (u : Nat) (at_ : Int), j + m = X.1.length → cls X j = some (u : Int) → u ≤ X.2.length → (at_ = (d : Int) ∨ (at_ = -1 ∧ u = 0)) → r13_Part_2 ((c + X.1.length - 1 : Nat) : Int) (c : Int) at_ ((c + j : Nat) : Int) (X.1.take j) (X.2.take u) F ([], []) = some (X, 0) := by
  intro m
  induction m with
  | zero =>
   intro j u at_ hj hu hul _
   have hje : j = X.1.length := by omega
   subst hje
   have : (u : Int) = (X.2.length : Int) := Option.some.inj (hu.symm.trans gX.cl)
   rw [r13_Part_2_eq, cF (decide_eq_false (by omega)), List.take_of_length_le (Nat.le_refl _), List.take_of_length_le (by omega)]
  | succ m ih =>
   intro j u at_ hj hu hul hat
   have hjl : j < X.1.length := by omega
   have hcan := gX.can j hjl
   have hsm : Sm (nd X j) := gX.sm (by omega) (by omega) hjl
   have hnd := h.nodes j hjl
   have tk := ntk1 hjl
   have room : ∀ n : Nd, Nat.ble (((X.1.take j).length + [n].length) * 176) 140737488355328 = true := fun n => Nat.ble_eq_true_of_le (by simp; omega)
   obtain ⟨v, hv⟩ := cls_pre X gX.cl (show j + 1 ≤ X.1.length by omega)
   obtain ⟨b1, b2⟩ := cls_back hu hv
   have hvl : v ≤ (X.2.length : Int) := cls_mono hv (X.1.length - (j + 1)) (fun i hi => gX.can i (by omega)) (by rw [show j + 1 + (X.1.length - (j + 1)) = X.1.length by omega]; exact gX.cl)
   have plain : callN (nd X j) = false → cond (Nat.ble (((X.1.take j).length + [nd X j].length) * 176) 140737488355328) (r13_Part_2 ((c + X.1.length - 1 : Nat) : Int) (c : Int) at_ (IntKind.i64.wrap (((c + j : Nat) : Int) + 1)) (X.1.take j ++ [nd X j]) (X.2.take u) F ([], [])) none = some (X, 0) := fun hc => by
    rw [cT (room _), wS (by omega), show X.1.take j ++ [nd X j] = X.1.take (j + 1) from tk.symm]
    exact ih (j + 1) u at_ (by omega) (by rw [hv, b2]; unfold nextU; rw [hc]; rfl) hul hat
   rw [r13_Part_2_eq, cT (decide_eq_true (by omega)), cT (ix (show c + j < F.1.length by omega)), Int.toNat_natCast]
   show cond (decide ((nd F (c + j)).1 = 7)) (r13_Part_3 ((c + X.1.length - 1 : Nat) : Int) (c : Int) at_ ((c + j : Nat) : Int) true (X.1.take j) (X.2.take u) F ([], []) (nd F (c + j))) (r13_Part_3 ((c + X.1.length - 1 : Nat) : Int) (c : Int) at_ ((c + j : Nat) : Int) (decide ((nd F (c + j)).1 = 8)) (X.1.take j) (X.2.take u) F ([], []) (nd F (c + j))) = _
   by_cases h8 : (nd X j).1 = 8
   ·have q1 := hsm.1 (.inr (.inl h8))
    have q2 := hsm.2 h8
    have hc : callN (nd X j) = false := by unfold callN; rw [decide_eq_false (show ¬ (nd X j).1 = 9 by omega)]; rfl
    have e : nd F (c + j) = ((nd X j).1, (nd X j).2.1, (nd X j).2.2.1 + (c : Int), (nd X j).2.2.2.1 + (c : Int), (nd X j).2.2.2.2) := by rw [hnd]; unfold mv; rw [if_pos h8]
    rw [e]
    simp only [r13_Part_3_eq, r13_Part_4_eq, r13_Part_5_eq, r13_Part_6_eq]
    rw [cF (decide_eq_false (show ¬ (nd X j).1 = 7 by omega)), cT (decide_eq_true h8), cT (decide_eq_true h8), cF (decide_eq_false (show ¬ (nd X j).1 = 9 by omega)), cond_false, wc _ q1.1 q1.2, wc _ q2.1 q2.2]
    exact plain hc
   ·by_cases h7 : (nd X j).1 = 7
    ·have q1 := hsm.1 (.inl h7)
     have hc : callN (nd X j) = false := by unfold callN; rw [decide_eq_false (show ¬ (nd X j).1 = 9 by omega)]; rfl
     have e : nd F (c + j) = ((nd X j).1, (nd X j).2.1, (nd X j).2.2.1 + (c : Int), (nd X j).2.2.2) := by rw [hnd]; unfold mv; rw [if_neg h8, if_pos h7]
     rw [e]
     simp only [r13_Part_3_eq, r13_Part_4_eq, r13_Part_5_eq, r13_Part_6_eq]
     rw [cT (decide_eq_true h7), cond_true, cF (decide_eq_false h8), cF (decide_eq_false (show ¬ (nd X j).1 = 9 by omega)), cond_false, wc _ q1.1 q1.2]
     exact plain hc
    ·cases hc : callN (nd X j) with
     | false =>
      have e : nd F (c + j) = nd X j := by
       rw [hnd]; unfold mv
       rw [if_neg h8, if_neg h7, if_neg fun hh => by rw [callN_iff.2 hh] at hc; cases hc]
      rw [e]
      simp only [r13_Part_3_eq, r13_Part_4_eq, r13_Part_5_eq]
      rw [cF (decide_eq_false h7), cF (decide_eq_false h8), cF (decide_eq_false h8)]
      have s6 : r13_Part_6 ((c + X.1.length - 1 : Nat) : Int) (c : Int) at_ ((c + j : Nat) : Int) false (X.1.take j) (X.2.take u) F ([], []) (nd X j) = some (X, 0) := by
       rw [r13_Part_6_eq, cond_false]; exact plain hc
      unfold callN at hc
      by_cases h9 : (nd X j).1 = 9
      ·rw [decide_eq_true h9, Bool.true_and] at hc
       rw [cT (decide_eq_true h9), hc]; exact s6
      ·rw [cF (decide_eq_false h9)]; exact s6
     | true =>
      obtain ⟨h9, hp⟩ := callN_iff.1 hc
      have hAu := b1 hc
      have hca := can_arg hcan h9
      obtain ⟨B, hB⟩ : ∃ B : Nat, (nd X j).2.2.2.1 = (B : Int) := ⟨(nd X j).2.2.2.1.toNat, by omega⟩
      have hvv : v = ((u + B : Nat) : Int) := by rw [b2]; unfold nextU; rw [hc, cond_true, hB]; omega
      have e : nd F (c + j) = ((nd X j).1, (nd X j).2.1, ((d + u : Nat) : Int), (B : Int), (nd X j).2.2.2.2) := by
       rw [hnd]; unfold mv
       rw [if_neg h8, if_neg h7, if_pos ⟨h9, hp⟩, hAu, ← hB, show (u : Int) + (d : Int) = ((d + u : Nat) : Int) by omega]
      have back : ((nd X j).1, (nd X j).2.1, (u : Int), (B : Int), (nd X j).2.2.2.2) = nd X j := by rw [← hAu, ← hB]
      have loop8 : ∀ (m' t : Nat), t + m' = B → r13_Part_8 ((c + X.1.length - 1 : Nat) : Int) (c : Int) (d : Int) ((c + j : Nat) : Int) (t : Int) (X.1.take j) (X.2.take (u + t)) F ([], []) ((nd X j).1, (nd X j).2.1, ((d + u : Nat) : Int), (B : Int), (nd X j).2.2.2.2) = some (X, 0) := by
       intro m'
       induction m' with
       | zero =>
        intro t ht
        have htB : t = B := by omega
        subst htB
        have wu : IntKind.i64.wrap (((d + u : Nat) : Int) - (d : Int)) = (u : Int) := by rw [w64 (by omega) (by omega)]; omega
        rw [r13_Part_8_eq, cF (decide_eq_false (Int.lt_irrefl _))]
        show cond (Nat.ble (((X.1.take j).length + [((nd X j).1, (nd X j).2.1, IntKind.i64.wrap (((d + u : Nat) : Int) - (d : Int)), (t : Int), (nd X j).2.2.2.2)].length) * 176) 140737488355328) (r13_Part_2 ((c + X.1.length - 1 : Nat) : Int) (c : Int) (d : Int) (IntKind.i64.wrap (((c + j : Nat) : Int) + 1)) (X.1.take j ++ [((nd X j).1, (nd X j).2.1, IntKind.i64.wrap (((d + u : Nat) : Int) - (d : Int)), (t : Int), (nd X j).2.2.2.2)]) (X.2.take (u + t)) F ([], [])) none = _
        rw [wu, back, cT (room _), wS (by omega), show X.1.take j ++ [nd X j] = X.1.take (j + 1) from tk.symm]
        exact ih (j + 1) (u + t) (d : Int) (by omega) (by rw [hv, hvv]) (by omega) (.inl rfl)
       | succ m' ih8 =>
        intro t ht
        have hut : u + t < X.2.length := by omega
        obtain ⟨k, hk, hkl⟩ := gX.arg hut
        have roomA : ∀ y : Int, Nat.ble (((X.2.take (u + t)).length + [y].length) * 8) 140737488355328 = true := fun y => Nat.ble_eq_true_of_le (by simp; omega)
        have tk2 : X.2.take (u + t + 1) = X.2.take (u + t) ++ [X.2.getD (u + t) 0] := by
         rw [List.take_succ_eq_append_getElem hut, List.getD_eq_getElem?_getD, List.getElem?_eq_getElem hut]; rfl
        have wi : IntKind.i64.wrap (((d + u : Nat) : Int) + (t : Int)) = ((d + (u + t) : Nat) : Int) := by rw [w64 (by omega) (by omega)]; omega
        rw [r13_Part_8_eq, cT (decide_eq_true (show (t : Int) < (B : Int) by omega))]
        show cond (decide (0 ≤ IntKind.i64.wrap (((d + u : Nat) : Int) + (t : Int))) && decide (IntKind.i64.wrap (((d + u : Nat) : Int) + (t : Int)) < (F.2.length : Int))) (cond (Nat.ble (((X.2.take (u + t)).length + [IntKind.i64.wrap (F.2.getD (IntKind.i64.wrap (((d + u : Nat) : Int) + (t : Int))).toNat 0 - (c : Int))].length) * 8) 140737488355328) (r13_Part_8 ((c + X.1.length - 1 : Nat) : Int) (c : Int) (d : Int) ((c + j : Nat) : Int) (IntKind.i64.wrap ((t : Int) + 1)) (X.1.take j) (X.2.take (u + t) ++ [IntKind.i64.wrap (F.2.getD (IntKind.i64.wrap (((d + u : Nat) : Int) + (t : Int))).toNat 0 - (c : Int))]) F ([], []) ((nd X j).1, (nd X j).2.1, ((d + u : Nat) : Int), (B : Int), (nd X j).2.2.2.2)) none) none = _
        rw [wi, cT (ix (show d + (u + t) < F.2.length by omega)), Int.toNat_natCast, cT (roomA _), wS (by omega), h.args (u + t) hut, wc _ (by rw [hk]; omega) (by rw [hk]; omega), ← tk2]
        exact ih8 (t + 1) (by omega)
      rw [e]
      simp only [r13_Part_3_eq, r13_Part_4_eq, r13_Part_5_eq, r13_Part_6_eq, r13_Part_7_eq]
      rw [cF (decide_eq_false h7), cF (decide_eq_false h8), cF (decide_eq_false h8), cT (decide_eq_true h9), cT (decide_eq_true (show (B : Int) > 0 by omega))]
      have l8 := loop8 B 0 (Nat.zero_add _)
      rcases hat with rfl | ⟨rfl, rfl⟩
      ·rw [cF (decide_eq_false (by omega))]; exact l8
      ·rw [cT (decide_eq_true (by omega))]; exact l8
 rw [r13_Part_eq, hF.right.2, Option.bind_some, Bool.not_true, cond_false, cF (decide_eq_false (by omega)), decide_eq_false (by omega), r13_Part_1_eq, cond_false, hw, Option.bind_some]
 show cond (decide ((0 : Int) ≤ 0) && decide (0 < ((iv c X.1.length).length : Int))) (r13_Part_2 ((c + X.1.length - 1 : Nat) : Int) ((iv c X.1.length).getD 0 0) (-1) ((iv c X.1.length).getD 0 0) [] [] F ([], [])) none = _
 rw [cT (by rw [hiv]; simp; omega), hiv0]
 exact build X.1.length 0 0 (-1) (Nat.zero_add _) rfl (Nat.zero_le _) (.inr ⟨rfl, rfl⟩)
theorem bothPart (F : Fmu) (hF : Okf F) (x : Int) : ∃ r e, ast_Part F x = some (r, e) ∧ r13_Part F x = some (r, e) ∧ Res r e := by
 have xb : ast_Part_1 x 0 true F ([], []) = some (([], []), 2) := by rw [ast_Part_1_eq, cond_true]
 have yb : r13_Part_1 x true F ([], []) = some (([], []), 2) := by rw [r13_Part_1_eq, cond_true]
 by_cases hx : 0 ≤ x ∧ x < (F.1.length : Int)
 ·obtain ⟨i, rfl⟩ : ∃ i : Nat, x = (i : Int) := ⟨x.toNat, by omega⟩
  obtain ⟨X, c, d, hci, hin, hX⟩ := partX hF (i := i) (by omega)
  have hL := hX.lt
  have one := hX.fine.1.one
  have p1 := xPart hF.lt hF.fine hX.fine.1 hin hL.n hL.a
  have p2 := yPart hF hX.fine.1 hin hX.fine.2.1
  rw [show c + X.1.length - 1 = i by omega] at p1 p2
  exact ⟨X, 0, p1, p2, .yes hX⟩
 ·refine ⟨([], []), 2, ?_, ?_, .no (by decide)⟩
  ·rw [ast_Part_eq, hF.right.1, Option.bind_some, Bool.not_true, cond_false]
   by_cases h0 : x < 0
   ·rw [cT (decide_eq_true h0)]; exact xb
   ·rw [cF (decide_eq_false h0), decide_eq_true (show x ≥ (F.1.length : Int) by omega)]; exact xb
  ·rw [r13_Part_eq, hF.right.2, Option.bind_some, Bool.not_true, cond_false]
   by_cases h0 : x < 0
   ·rw [cT (decide_eq_true h0)]; exact yb
   ·rw [cF (decide_eq_false h0), decide_eq_true (show x ≥ (F.1.length : Int) by omega)]; exact yb
end Go.Proofs.YtgnkkanhjghhfaaGreatDoor.D
namespace Go.Proofs.YtgnkkanhjghhfaaGreatDoor.D
open Go Go.Proofs.YtgnkkanhjghhfaaGreatDoor.K
open Go.Proofs.YtgnkkanhjghhfaaGreatDoor.P (wS)
abbrev Act := Int × Nd × Int × List UInt8 × Int
def ZA : Act := (0, ZN, 0, [], 0)
theorem Res.small {r : Fmu} {e : Int} (h : Res r e) : r.1.length ≤ 1000 ∧ r.2.length ≤ 1000 := by
 cases h with
 | no h => exact ⟨by simp, by simp⟩
 | yes h => have := h.lt.n; have := h.lt.a; exact ⟨by omega, by omega⟩
theorem makes13 (acts : List Act) (hw : ∀ a ∈ acts, a.2.1.2.2.2.2.2.1.length ≤ 9223372036854775807 ∧ a.2.2.2.1.length ≤ 9223372036854775807) : w13_AstMakes acts = some true := by
 have kn13 : (w13_known.bind fun v1 => some v1) = some true := by rw [known13]; rfl
 rw [w13_AstMakes_eq]
 by_cases h60 : (acts.length : Int) > 60
 ·rw [cT (decide_eq_true h60), kn13]
 rw [cF (decide_eq_false h60)]
 have loop : ∀ (m i : Nat) (pile : List Fmu), i + m = acts.length → (∀ g ∈ pile, Okf g) → pile.length ≤ i → w13_AstMakes_1 acts pile (i : Int) = some true := by
  intro m
  induction m with
  | zero => intro i pile hi _ _; rw [w13_AstMakes_1_eq, cF (decide_eq_false (by omega)), kn13]
  | succ m ih =>
   intro i pile hi hp hpl
   have hil : i < acts.length := by omega
   have ha : acts.getD i ZA ∈ acts := by rw [List.getD_eq_getElem?_getD, List.getElem?_eq_getElem hil]; exact List.getElem_mem hil
   obtain ⟨hn, hname⟩ := hw _ ha
   have t3 : ∀ pile' : List Fmu, (∀ g ∈ pile', Okf g) → pile'.length ≤ i + 1 → w13_AstMakes_3 acts pile' (i : Int) = some true := fun pile' h1 h2 => by
    rw [w13_AstMakes_3_eq, wS (by omega)]; exact ih (i + 1) pile' (by omega) h1 h2
   have t6 : ∀ (e : Int) (r : Fmu) (used : Nat), Res r e → used ≤ pile.length → w13_AstMakes_6 acts pile (i : Int) (pile.length : Int) e (used : Int) false r = some true := fun e r used hr hu => by
    rw [w13_AstMakes_6_eq, cond_false]
    have w : IntKind.i64.wrap ((pile.length : Int) - (used : Int)) = ((pile.length - used : Nat) : Int) := by rw [w64 (by omega) (by omega)]; omega
    cases hr with
    | no h => rw [cF (decide_eq_false h)]; exact t3 pile hp (by omega)
    | yes h =>
     have room1 : Nat.ble ((0 + (pile.take (pile.length - used)).length) * 48) 140737488355328 = true := Nat.ble_eq_true_of_le (by simp; omega)
     have room2 : Nat.ble (((pile.take (pile.length - used)).length + [r].length) * 48) 140737488355328 = true := Nat.ble_eq_true_of_le (by simp; omega)
     rw [cT (decide_eq_true rfl), w, cT (by simp <;> omega), Int.toNat_natCast, cT room1, cT room2]
     refine t3 _ (fun x hx => ?_) (by simp; omega)
     rw [List.mem_append, List.mem_singleton] at hx
     rcases hx with hx | rfl
     ·exact hp x (List.mem_of_mem_take hx)
     ·exact h
   have t4 : ∀ (e : Int) (r : Fmu) (used : Nat), Res r e → used ≤ pile.length → w13_AstMakes_4 acts pile (i : Int) (pile.length : Int) e e (used : Int) r r = some true := fun e r used hr hu => by
    obtain ⟨s1, s2⟩ := hr.small
    rw [w13_AstMakes_4_eq, ySame r r s1 s2, Option.bind_some, sameV_self, Bool.not_true, cond_false, cF (by rw [decide_eq_true rfl]; rfl)]
    have q := t6 e r used hr hu
    cases hr with
    | no h => rw [cF (decide_eq_false h)]; exact q
    | yes h => rw [cT (decide_eq_true rfl), h.right.1, Option.bind_some, Bool.not_true]; exact q
   have t5 : ∀ q : Bool, (q = false → 0 ≤ (acts.getD i ZA).2.2.2.2 ∧ (acts.getD i ZA).2.2.2.2 ≤ (pile.length : Int)) → w13_AstMakes_5 acts pile (i : Int) (pile.length : Int) q (acts.getD i ZA) ([], []) ([], []) = some true := fun q hq => by
    rw [w13_AstMakes_5_eq]
    cases q with
    | true => rw [cond_true]; exact t3 pile hp (by omega)
    | false =>
     obtain ⟨h1, h2⟩ := hq rfl
     obtain ⟨u, hu⟩ : ∃ u : Nat, (acts.getD i ZA).2.2.2.2 = (u : Int) := ⟨(acts.getD i ZA).2.2.2.2.toNat, by omega⟩
     rw [hu] at h1 h2
     rw [cond_false, hu]
     have w : IntKind.i64.wrap ((pile.length : Int) - (u : Int)) = ((pile.length - u : Nat) : Int) := by rw [w64 (by omega) (by omega)]; omega
     have inb : (decide (0 ≤ ((pile.length - u : Nat) : Int)) && decide (((pile.length - u : Nat) : Int) ≤ (pile.length : Int))) = true := by simp <;> omega
     obtain ⟨r, e, e1, e2, e3⟩ := bothCall (acts.getD i ZA).2.2.2.1 hname (pile.drop (pile.length - u)) (by simp; omega) (fun g hg => hp g (List.mem_of_mem_drop hg))
     rw [w, cT inb, Int.toNat_natCast, e1, Option.bind_some, cT inb, e2, Option.bind_some]
     exact t4 e r u e3 (by omega)
   have t2 : ∀ q : Bool, w13_AstMakes_2 acts pile (i : Int) q (acts.getD i ZA) = some true := fun q => by
    rw [w13_AstMakes_2_eq]
    cases q with
    | true => rw [cond_true, kn13]
    | false =>
     rw [cond_false]
     have w1 : 1 ≤ pile.length → IntKind.i64.wrap ((pile.length : Int) - 1) = ((pile.length - 1 : Nat) : Int) := fun h => by rw [w64 (by omega) (by omega)]; omega
     have w2 : 2 ≤ pile.length → IntKind.i64.wrap ((pile.length : Int) - 2) = ((pile.length - 2 : Nat) : Int) := fun h => by rw [w64 (by omega) (by omega)]; omega
     have g1 : ∀ k, k < pile.length → Okf (pile.getD k ([], [])) := fun k hk => hp _ (getD_in hk)
     by_cases k1 : (acts.getD i ZA).1 = 1
     ·rw [cT (decide_eq_true k1)]
      by_cases ht : (pile.length : Int) < 1
      ·rw [cT (decide_eq_true ht)]; exact t3 pile hp (by omega)
      ·obtain ⟨r, e, e1, e2, e3⟩ := bothOne (pile.getD (pile.length - 1) ([], [])) (acts.getD i ZA).2.2.1 (g1 _ (by omega))
       rw [cF (decide_eq_false ht), w1 (by omega), cT (ix (show pile.length - 1 < pile.length by omega)), Int.toNat_natCast, e1, Option.bind_some, cT (ix (show pile.length - 1 < pile.length by omega)), e2, Option.bind_some]
       exact t4 e r 1 e3 (by omega)
     ·rw [cF (decide_eq_false k1)]
      by_cases k2 : (acts.getD i ZA).1 = 2
      ·rw [cT (decide_eq_true k2)]
       by_cases ht : (pile.length : Int) < 2
       ·rw [cT (decide_eq_true ht)]; exact t3 pile hp (by omega)
       ·obtain ⟨r, e, e1, e2, e3⟩ := bothTwo (pile.getD (pile.length - 2) ([], [])) (pile.getD (pile.length - 1) ([], [])) (acts.getD i ZA).2.2.1 (g1 _ (by omega)) (g1 _ (by omega))
        have i1 := ix (show pile.length - 1 < pile.length by omega)
        have i2 := ix (show pile.length - 2 < pile.length by omega)
        rw [cF (decide_eq_false ht), w1 (by omega), w2 (by omega), cT i2, cT i1, Int.toNat_natCast, Int.toNat_natCast, e1, Option.bind_some, cT i2, cT i1, e2, Option.bind_some]
        exact t4 e r 2 e3 (by omega)
      ·rw [cF (decide_eq_false k2)]
       by_cases k3 : (acts.getD i ZA).1 = 3
       ·rw [cT (decide_eq_true k3)]
        by_cases h0 : (acts.getD i ZA).2.2.2.2 < 0
        ·rw [cT (decide_eq_true h0)]; exact t5 true fun h => by cases h
        ·rw [cF (decide_eq_false h0)]
         exact t5 _ fun h => by have := of_decide_eq_false h; omega
       ·rw [cF (decide_eq_false k3)]
        by_cases k4 : (acts.getD i ZA).1 = 4
        ·rw [cT (decide_eq_true k4)]
         by_cases ht : (pile.length : Int) < 1
         ·rw [cT (decide_eq_true ht)]; exact t3 pile hp (by omega)
         ·obtain ⟨r, e, e1, e2, e3⟩ := bothPart (pile.getD (pile.length - 1) ([], [])) (g1 _ (by omega)) (acts.getD i ZA).2.2.2.2
          have i1 := ix (show pile.length - 1 < pile.length by omega)
          rw [cF (decide_eq_false ht), w1 (by omega), cT i1, Int.toNat_natCast, e1, Option.bind_some, cT i1, e2, Option.bind_some]
          exact t4 e r 0 e3 (by omega)
        ·obtain ⟨r, e, e1, e2, e3⟩ := bothLeaf (acts.getD i ZA).2.1 hn
         rw [cF (decide_eq_false k4), e1, Option.bind_some, e2, Option.bind_some]
         exact t4 e r 0 e3 (by omega)
   rw [w13_AstMakes_1_eq, cT (decide_eq_true (by omega)), cT (ix hil), Int.toNat_natCast]
   have t2' : ∀ q : Bool, w13_AstMakes_2 acts pile (i : Int) q (acts.getD i (0, ZN, 0, [], 0)) = some true := t2
   simp only [ZN] at t2'
   simp only [t2', Bool.cond_self]
 exact loop acts.length 0 [] (Nat.zero_add _) (fun g hg => by cases hg) (Nat.le_refl _)
end Go.Proofs.YtgnkkanhjghhfaaGreatDoor.D
namespace Go.Proofs.YtgnkkanhjghhfaaGreatDoor.K
open Go
abbrev AcTy : Ty := .pair (.int .i64) (.pair NdTy (.pair (.int .i64) (.pair .str (.int .i64))))
theorem AstMakes (acts : den (.sl AcTy)) (ha : Wf (.sl AcTy) acts) : w13_AstMakes acts = some true :=
 D.makes13 acts fun a h => ⟨(ha.2 a h).2.1.2.2.2.2.2.1, (ha.2 a h).2.2.2.1⟩
end Go.Proofs.YtgnkkanhjghhfaaGreatDoor.K
