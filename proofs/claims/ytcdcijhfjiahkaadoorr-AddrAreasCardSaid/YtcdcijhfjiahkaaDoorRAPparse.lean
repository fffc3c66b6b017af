/- What the printed readers of addresses answer. -/
import Derived.Test.YtcdcijhfjiahkaaDoorRA1
import Derived.Test.YtcdcijhfjiahkaaDoorRA3
import Derived.Test.YtcdcijhfjiahkaaDoorRAPaddr
namespace Go.Proofs.YtcdcijhfjiahkaaDoorR.AP
open Go.RowKit Go.Proofs.YtcdcijhfjiahkaaDoorRW.PrintWords Go.Proofs.YtcdcijhfjiahkaaDoorRW.PrintMore Go.Proofs.YtcdcijhfjiahkaaDoorR.M Go.Proofs.YtcdcijhfjiahkaaDoorR.P Go.Proofs.YtcdcijhfjiahkaaDoorR.A
set_option linter.unusedVariables false
set_option linter.unusedSimpArgs false
set_option maxHeartbeats 1000000

def cap (b : Nat) : Bool := decide (65 ≤ b) && decide (b ≤ 90)
theorem cap_iff {b : Nat} : cap b = true ↔ 65 ≤ b ∧ b ≤ 90 := by simp [cap]
/-- How many capital letters stand ahead. -/
def caps : List Nat → Nat
  | [] => 0
  | b :: l => if cap b = true then caps l + 1 else 0
theorem caps_le (l : List Nat) : caps l ≤ l.length := by
  induction l with
  | nil => simp [caps]
  | cons b l ih => rw [caps]; split <;> simp <;> omega
theorem getD_drop (l : List Nat) (i : Nat) (b : Nat) (m : List Nat) (h : l.drop i = b :: m) : l.getD i 0 = b ∧ i < l.length ∧ l.drop (i + 1) = m := by
  have hi : i < l.length := by
    apply Classical.byContradiction
    intro hn
    rw [List.drop_of_length_le (by omega)] at h
    cases h
  rw [List.drop_eq_getElem_cons hi] at h
  injection h with h1 h2
  refine ⟨?_, hi, h2⟩
  rw [List.getD_eq_getElem?_getD, List.getElem?_eq_getElem hi]
  exact h1
theorem drop_nil' (l : List Nat) (i : Nat) (hi : i ≤ l.length) (h : l.drop i = []) : i = l.length := by
  have := congrArg List.length h
  simp at this
  omega
theorem split_row (s : ByteArray) (hs : s.size < 9223372036854775807) : ∀ (m : List Nat) (i : Nat), (L s).drop i = m → i ≤ s.size → Ev (fun k => addr_split.l0 k s (i : Int)) (s.extract 0 (i + caps m), s.extract (i + caps m) s.size) := by
  intro m
  induction m with
  | nil =>
    intro i hm hi
    have := drop_nil' _ _ (by rw [L_length]; exact hi) hm
    rw [L_length] at this
    refine Ev.step (fun k => by rw [addr_split.l0]) ?_
    refine Ev.neg (by omega) ?_
    refine Ev.pos (by omega) ?_
    refine Ev.pos (by omega) ?_
    rw [caps, Nat.add_zero, Int.toNat_natCast]
    exact Ev.now _
  | cons b m ih =>
    intro i hm hi
    obtain ⟨h1, h2, h3⟩ := getD_drop _ _ _ _ hm
    rw [L_length] at h2
    have hb : bt s (i : Int) = (b : Int) := by rw [bt_L, h1]
    refine Ev.step (fun k => by rw [addr_split.l0]) ?_
    rw [hb]
    refine Ev.pos (by omega) ?_
    refine Ev.pos (by omega) ?_
    by_cases hc1 : 65 ≤ b
    · refine Ev.pos (by omega) ?_
      by_cases hc2 : b ≤ 90
      · refine Ev.pos (by omega) ?_
        rw [w64_succ i (by omega), caps, if_pos (cap_iff.2 ⟨hc1, hc2⟩), show i + (caps m + 1) = i + 1 + caps m by omega]
        exact ih (i + 1) h3 (by omega)
      · refine Ev.neg (by omega) ?_
        refine Ev.pos (by omega) ?_
        rw [caps, if_neg (fun h => hc2 (cap_iff.1 h).2), Nat.add_zero, Int.toNat_natCast]
        exact Ev.now _
    · refine Ev.neg (by omega) ?_
      refine Ev.pos (by omega) ?_
      rw [caps, if_neg (fun h => hc1 (cap_iff.1 h).1), Nat.add_zero, Int.toNat_natCast]
      exact Ev.now _
theorem addrSplit (s : ByteArray) (hs : s.size < 9223372036854775807) : Ev (fun k => addr_split.f k s) (s.extract 0 (caps (L s)), s.extract (caps (L s)) s.size) := by
  have := split_row s hs (L s) 0 rfl (by omega)
  simpa [addr_split.f] using this
theorem letters_row (s : ByteArray) (hs : s.size < 9223372036854775807) : ∀ (m : List Nat) (i : Nat), (L s).drop i = m → i ≤ s.size → Ev (fun k => abacistref10_Letters.l0 k s (i : Int)) ((i + caps m : Nat) : Int) := by
  intro m
  induction m with
  | nil =>
    intro i hm hi
    have := drop_nil' _ _ (by rw [L_length]; exact hi) hm
    rw [L_length] at this
    refine Ev.step (fun k => by rw [abacistref10_Letters.l0]) ?_
    refine Ev.neg (by omega) ?_
    exact Ev.now _
  | cons b m ih =>
    intro i hm hi
    obtain ⟨h1, h2, h3⟩ := getD_drop _ _ _ _ hm
    rw [L_length] at h2
    have hb : bt s (i : Int) = (b : Int) := by rw [bt_L, h1]
    refine Ev.step (fun k => by rw [abacistref10_Letters.l0]) ?_
    rw [hb]
    refine Ev.pos (by omega) ?_
    refine Ev.pos (by omega) ?_
    by_cases hc1 : 65 ≤ b
    · refine Ev.pos (by omega) ?_
      by_cases hc2 : b ≤ 90
      · refine Ev.pos (by omega) ?_
        rw [w64_succ i (by omega), caps, if_pos (cap_iff.2 ⟨hc1, hc2⟩), show i + (caps m + 1) = i + 1 + caps m by omega]
        exact ih (i + 1) h3 (by omega)
      · refine Ev.neg (by omega) ?_
        rw [caps, if_neg (fun h => hc2 (cap_iff.1 h).2)]
        exact Ev.now _
    · refine Ev.neg (by omega) ?_
      rw [caps, if_neg (fun h => hc1 (cap_iff.1 h).1)]
      exact Ev.now _
theorem refLetters (s : ByteArray) (hs : s.size < 9223372036854775807) : Ev (fun k => abacistref10_Letters.f k s) ((caps (L s) : Nat) : Int) := by
  have := letters_row s hs (L s) 0 rfl (by omega)
  simpa [abacistref10_Letters.f] using this

/-- A number in digits. -/
def numL : List Nat → Nat → Option Nat
  | [], x => some x
  | b :: l, x => if 48 ≤ b ∧ b ≤ 57 then numL l (10 * x + (b - 48)) else none
def numP (l : List Nat) (x : Nat) : Int × Bool := match numL l x with
  | some v => ((v : Int), true)
  | none => (0, false)
theorem number_row (t : List Nat) (hb : ∀ b ∈ t, b < 256) (ht : t.length ≤ 3) : ∀ (m : List Nat) (i x : Nat), t.drop i = m → i ≤ t.length → x < 10 ^ i → Ev (fun k => addr_number.l0 k (x : Int) (t.map fun b : Nat => (b : Int)) (t.length : Int) (i : Int)) (numP m x) := by
  intro m
  induction m with
  | nil =>
    intro i x hm hi hx
    have := drop_nil' _ _ hi hm
    refine Ev.step (fun k => by rw [addr_number.l0]) ?_
    refine Ev.neg (by omega) ?_
    exact Ev.now _
  | cons b m ih =>
    intro i x hm hi hx
    obtain ⟨h1, h2, h3⟩ := getD_drop _ _ _ _ hm
    have hpw : 10 ^ i ≤ 10 ^ 2 := Nat.pow_le_pow_right (by decide) (by omega)
    have hrd : rd (t.map fun b : Nat => (b : Int)) (i : Int) = (b : Int) := by
      rw [rd_nat, List.getD_eq_getElem?_getD, List.getElem?_map, List.getElem?_eq_getElem h2]
      rw [List.getD_eq_getElem?_getD, List.getElem?_eq_getElem h2] at h1
      simp at h1 ⊢
      rw [h1]
    refine Ev.step (fun k => by rw [addr_number.l0]) ?_
    rw [hrd]
    refine Ev.pos (by omega) ?_
    refine Ev.pos (by omega) ?_
    refine Ev.pos (by rw [List.length_map]; omega) ?_
    unfold numP
    rw [numL]
    by_cases hc1 : b < 48
    · refine Ev.pos (by omega) ?_
      rw [if_neg (by omega)]
      exact Ev.now _
    · refine Ev.neg (by omega) ?_
      by_cases hc2 : 57 < b
      · refine Ev.pos (by omega) ?_
        rw [if_neg (by omega)]
        exact Ev.now _
      · refine Ev.neg (by omega) ?_
        rw [if_pos (by omega)]
        have e : wrap64 (wrap64 (10 * (x : Int)) + ((b : Int) - 48) % 256) = ((10 * x + (b - 48) : Nat) : Int) := by
          rw [w64 (x := 10 * (x : Int)) (by omega) (by omega), w64 (by omega) (by omega)]; omega
        rw [e, w64_succ i (by omega)]
        exact ih (i + 1) _ h3 (by omega) (by rw [Nat.pow_succ]; omega)
/-- What a row's text is, and whether. -/
def rowOfL (l : List Nat) : Int × Bool := if l = [] ∨ 3 < l.length ∨ l.head? = some 48 then (0, false) else numP l 0
theorem addrNumber (s : ByteArray) (hs : s.size < 9223372036854775807) : Ev (fun k => addr_number.f k s) (rowOfL (L s)) := by
  unfold addr_number.f
  have hlen := L_length s
  have yes : rowOfL (L s) = (0, false) → Ev (fun k => addr_number.j0 k s true) (rowOfL (L s)) := by
    intro e
    rw [e]
    refine Ev.step (fun k => by rw [addr_number.j0]) ?_
    refine Ev.pos rfl ?_
    exact Ev.now _
  by_cases h0 : s.size = 0
  · refine Ev.pos (toList_nil.2 h0) ?_
    exact yes (if_pos (.inl (List.eq_nil_of_length_eq_zero (by omega))))
  · refine Ev.neg (fun h => h0 (toList_nil.1 h)) ?_
    by_cases h3 : s.size > 3
    · refine Ev.pos (by omega) ?_
      exact yes (if_pos (.inr (.inl (by omega))))
    · refine Ev.neg (by omega) ?_
      refine Ev.pos (by omega) ?_
      have hb0 : bt s 0 = ((L s).getD 0 0 : Nat) := bt_L s 0
      cases hl : L s with
      | nil => rw [hl] at hlen; simp at hlen; omega
      | cons b l =>
        rw [hl] at hb0 hlen
        rw [← hl]
        by_cases h48 : b = 48
        · have : (bt s 0 == 48) = true := by rw [hb0, h48]; rfl
          rw [this]
          exact yes (if_pos (.inr (.inr (by rw [hl, h48]; rfl))))
        · have : (bt s 0 == 48) = false := by
            rw [hb0, beq_eq_false_iff_ne]
            simp only [List.getD_cons_zero]
            omega
          rw [this]
          refine Ev.step (fun k => by rw [addr_number.j0]) ?_
          refine Ev.neg (by decide) ?_
          refine Ev.some (a := (L s).map fun b : Nat => (b : Int)) (by unfold strBytes.f; rw [if_pos (by omega), bytes_L]) ?_
          have hr : rowOfL (L s) = numP (L s) 0 := if_neg (by
            rintro (h | h | h)
            · rw [hl] at h; cases h
            · rw [L_length] at h; omega
            · rw [hl] at h; simp at h; exact h48 h)
          rw [hr]
          have := number_row (L s) (L_lt s) (by rw [L_length]; omega) (L s) 0 0 rfl (by omega) (by decide)
          rw [List.length_map]
          exact this
def parseL (l : List Nat) : Int × Int × Int :=
  let n := caps l
  let d := l.drop n
  if n < 1 ∨ 2 < n ∨ (rowOfL d).2 = false then (0, 0, 10) else if inA (colOfL (l.take n)).1 (rowOfL d).1 = true then (((colOfL (l.take n)).1 : Int), (rowOfL d).1, 0) else (0, 0, 6)
theorem L_cut (s : ByteArray) (n : Nat) : L (s.extract 0 n) = (L s).take n ∧ L (s.extract n s.size) = (L s).drop n := by
  rw [L_extract, L_extract, List.take_of_length_le (l := L s) (i := s.size) (by rw [L_length]; omega)]
  exact ⟨rfl, rfl⟩
theorem addrParse (s : ByteArray) (hs : s.size < 9223372036854775807) : Ev (fun k => addr_Parse.f k s) (parseL (L s)) := by
  unfold addr_Parse.f
  refine Ev.bind (addrSplit s hs) ?_
  have hcl := caps_le (L s)
  obtain ⟨hc1, hc2⟩ := L_cut s (caps (L s))
  have hsz1 : (s.extract 0 (caps (L s))).size = caps (L s) := by rw [← L_length, hc1, List.length_take]; omega
  have hn := addrNumber (s.extract (caps (L s)) s.size) (by rw [← L_length, hc2, List.length_drop, L_length]; omega)
  rw [hc2] at hn
  refine Ev.bind hn ?_
  have hco := addrColOf (s.extract 0 (caps (L s)))
  rw [hc1] at hco
  unfold parseL
  simp only
  have hq0 : (colOfL ((L s).take (caps (L s)))).2 = false → (colOfL ((L s).take (caps (L s)))).1 = 0 := by
    rcases colOfL_range ((L s).take (caps (L s))) with e | ⟨n, _, _, e, _⟩
    · rw [e]; intro _; rfl
    · rw [e]; intro h; cases h
  generalize caps (L s) = n at hsz1 hcl hco hq0 ⊢
  generalize rowOfL ((L s).drop n) = p
  generalize colOfL ((L s).take n) = q at hco hq0 ⊢
  generalize s.extract 0 n = a at hsz1 hco ⊢
  have yes : ∀ r, Ev (fun k => addr_Parse.j0 k r a true) (0, 0, 10) := by
    intro r
    refine Ev.step (fun k => by rw [addr_Parse.j0]) ?_
    refine Ev.pos rfl ?_
    exact Ev.now _
  cases hp : p.2 with
  | false =>
    refine Ev.neg (by simp) ?_
    rw [if_pos (.inr (.inr rfl))]
    exact yes _
  | true =>
    refine Ev.pos rfl ?_
    by_cases h1 : n < 1
    · refine Ev.pos (by omega) ?_
      rw [if_pos (.inl h1)]
      exact yes _
    · refine Ev.neg (by omega) ?_
      by_cases h2 : 2 < n
      · rw [decide_eq_true (by omega), if_pos (.inr (.inl h2))]
        exact yes _
      · rw [decide_eq_false (by omega), if_neg (by simp; omega)]
        refine Ev.step (fun k => by rw [addr_Parse.j0]) ?_
        refine Ev.neg (by decide) ?_
        refine Ev.bind hco ?_
        cases hq : q.2 with
        | false =>
          refine Ev.neg (by show ¬ q.2 = true; rw [hq]; decide) ?_
          rw [hq0 hq, if_neg (by intro h; exact absurd (inA_iff.1 h).1 (by omega))]
          exact Ev.now _
        | true =>
          refine Ev.pos (by show q.2 = true; exact hq) ?_
          refine Ev.some (addrIn _ _) ?_
          by_cases hin : inA (q.1 : Int) p.1 = true
          · refine Ev.pos hin ?_
            rw [if_pos hin]
            exact Ev.now _
          · refine Ev.neg hin ?_
            rw [if_neg hin]
            exact Ev.now _

/-! ### the reference's reader -/
theorem parseL_bad {l : List Nat} (h : caps l < 1 ∨ 2 < caps l ∨ (rowOfL (l.drop (caps l))).2 = false) : parseL l = (0, 0, 10) := if_pos h
theorem refParse_row (s : ByteArray) (d : ByteArray) (n : Nat) (hn : n ≤ s.size) (hs : s.size < 9223372036854775807) (hd3 : d.size ≤ 3) : ∀ (m : List Nat) (i x : Nat), (L d).drop i = m → i ≤ d.size → x < 10 ^ i →
    Ev (fun k => abacistref10_Parse.l0 k s (n : Int) d (x : Int) (i : Int)) (match numL m x with | some v => if inA (colOfL ((L s).take n)).1 (v : Int) = true then (((colOfL ((L s).take n)).1 : Int), (v : Int), 0) else (0, 0, 6) | none => (0, 0, 10)) := by
  intro m
  induction m with
  | nil =>
    intro i x hm hi hx
    have := drop_nil' _ _ (by rw [L_length]; exact hi) hm
    rw [L_length] at this
    refine Ev.step (fun k => by rw [abacistref10_Parse.l0]) ?_
    refine Ev.neg (by omega) ?_
    refine Ev.pos (by omega) ?_
    refine Ev.pos (by omega) ?_
    have hco := refColOf (s.extract 0 n)
    rw [(L_cut s n).1] at hco
    rw [Int.toNat_natCast]
    refine Ev.bind hco ?_
    refine Ev.some (refIn _ _) ?_
    simp only [numL]
    by_cases hin : inA ((colOfL ((L s).take n)).1 : Int) (x : Int) = true
    · refine Ev.pos hin ?_
      rw [if_pos hin]
      exact Ev.now _
    · refine Ev.neg hin ?_
      rw [if_neg hin]
      exact Ev.now _
  | cons b m ih =>
    intro i x hm hi hx
    obtain ⟨h1, h2, h3⟩ := getD_drop _ _ _ _ hm
    rw [L_length] at h2
    have hb : bt d (i : Int) = (b : Int) := by rw [bt_L, h1]
    have hbl : b < 256 := L_lt d b (List.mem_of_mem_drop (by rw [hm]; simp))
    have hpw : 10 ^ i ≤ 10 ^ 2 := Nat.pow_le_pow_right (by decide) (by omega)
    refine Ev.step (fun k => by rw [abacistref10_Parse.l0]) ?_
    rw [hb]
    refine Ev.pos (by omega) ?_
    refine Ev.pos (by omega) ?_
    rw [numL]
    by_cases hc1 : b < 48
    · refine Ev.pos (by omega) ?_
      rw [if_neg (by omega)]
      exact Ev.now _
    · refine Ev.neg (by omega) ?_
      by_cases hc2 : 57 < b
      · refine Ev.pos (by omega) ?_
        rw [if_neg (by omega)]
        exact Ev.now _
      · refine Ev.neg (by omega) ?_
        rw [if_pos (by omega)]
        have e : wrap64 (wrap64 (10 * (x : Int)) + ((b : Int) - 48) % 256) = ((10 * x + (b - 48) : Nat) : Int) := by
          rw [w64 (x := 10 * (x : Int)) (by omega) (by omega), w64 (by omega) (by omega)]; omega
        rw [e, w64_succ i (by omega)]
        exact ih (i + 1) _ h3 (by omega) (by rw [Nat.pow_succ]; omega)
theorem refParse (s : ByteArray) (hs : s.size < 9223372036854775807) : Ev (fun k => abacistref10_Parse.f k s) (parseL (L s)) := by
  unfold abacistref10_Parse.f
  refine Ev.bind (refLetters s hs) ?_
  have hcl := caps_le (L s)
  rw [L_length] at hcl
  obtain ⟨hc1, hc2⟩ := L_cut s (caps (L s))
  have hbad := @parseL_bad (L s)
  have hdef : parseL (L s) = if caps (L s) < 1 ∨ 2 < caps (L s) ∨ (rowOfL ((L s).drop (caps (L s)))).2 = false then (0, 0, 10) else if inA (colOfL ((L s).take (caps (L s)))).1 (rowOfL ((L s).drop (caps (L s)))).1 = true then (((colOfL ((L s).take (caps (L s)))).1 : Int), (rowOfL ((L s).drop (caps (L s)))).1, 0) else (0, 0, 6) := rfl
  generalize parseL (L s) = P at hbad hdef ⊢
  generalize caps (L s) = n at hcl hc1 hc2 hbad hdef ⊢
  rw [Int.toNat_natCast]
  generalize hdd : s.extract n s.size = d at hc2 ⊢
  rw [← hc2] at hbad hdef
  have hlen := L_length d
  have yes : P = (0, 0, 10) → Ev (fun k => abacistref10_Parse.j0 k s (n : Int) d true) P := by
    rintro rfl
    refine Ev.step (fun k => by rw [abacistref10_Parse.j0]) ?_
    refine Ev.pos rfl ?_
    exact Ev.now _
  refine Ev.pos (by omega) ?_
  refine Ev.pos (by omega) ?_
  by_cases h1 : n < 1
  · refine Ev.pos (by omega) ?_
    exact yes (hbad (.inl h1))
  · refine Ev.neg (by omega) ?_
    by_cases h2 : 2 < n
    · refine Ev.pos (by omega) ?_
      exact yes (hbad (.inr (.inl h2)))
    · refine Ev.neg (by omega) ?_
      by_cases h3 : d.size < 1
      · refine Ev.pos (by omega) ?_
        exact yes (hbad (.inr (.inr (by rw [show rowOfL (L d) = (0, false) from if_pos (.inl (List.eq_nil_of_length_eq_zero (by omega)))]))))
      · refine Ev.neg (by omega) ?_
        by_cases h4 : d.size > 3
        · refine Ev.pos (by omega) ?_
          exact yes (hbad (.inr (.inr (by rw [show rowOfL (L d) = (0, false) from if_pos (.inr (.inl (by omega)))]))))
        · refine Ev.neg (by omega) ?_
          refine Ev.pos (by omega) ?_
          have hb0 : bt d 0 = ((L d).getD 0 0 : Nat) := bt_L d 0
          cases hl : L d with
          | nil => rw [hl] at hlen; simp at hlen; omega
          | cons b l =>
            rw [hl] at hb0
            simp only [List.getD_cons_zero] at hb0
            by_cases h48 : b = 48
            · have : (bt d 0 == 48) = true := by rw [hb0, h48]; rfl
              rw [this]
              exact yes (hbad (.inr (.inr (by rw [show rowOfL (L d) = (0, false) from if_pos (.inr (.inr (by rw [hl, h48]; rfl)))]))))
            · have : (bt d 0 == 48) = false := by
                rw [hb0, beq_eq_false_iff_ne]
                omega
              rw [this]
              refine Ev.step (fun k => by rw [abacistref10_Parse.j0]) ?_
              refine Ev.neg (by decide) ?_
              have hr : rowOfL (L d) = numP (L d) 0 := if_neg (by
                rintro (h | h | h)
                · rw [hl] at h; cases h
                · rw [L_length] at h; omega
                · rw [hl] at h; simp at h; exact h48 h)
              have := refParse_row s d n hcl hs (by omega) (L d) 0 0 rfl (by omega) (by decide)
              rw [hr] at hdef
              unfold numP at hdef
              cases hv : numL (L d) 0 with
              | none =>
                rw [hv] at hdef this
                rw [hdef, if_pos (.inr (.inr rfl))]
                exact this
              | some v =>
                rw [hv] at hdef this
                rw [hdef, if_neg (by rintro (h | h | h); exact h1 h; exact h2 h; cases h)]
                exact this

/-! ### an address told, and read back -/
def allBack : Bool := (List.range 52).all fun c => (List.range 99).all fun r => parseL (colL (c + 1) ++ rowL (r + 1)) == (((c + 1 : Nat) : Int), ((r + 1 : Nat) : Int), 0)
theorem allBack_true : allBack = true := by decide +kernel
theorem back {c r : Int} (h : inA c r = true) : parseL (L (textT c r)) = (c, r, 0) := by
  obtain ⟨h1, h2, h3, h4⟩ := inA_iff.1 h
  obtain ⟨n, rfl⟩ := Int.eq_ofNat_of_zero_le (show 0 ≤ c by omega)
  obtain ⟨m, rfl⟩ := Int.eq_ofNat_of_zero_le (show 0 ≤ r by omega)
  unfold textT
  rw [if_pos h, L_append, Int.toNat_natCast, Int.toNat_natCast, L_colT (by omega), L_rowT (by omega)]
  have := allBack_true
  unfold allBack at this
  rw [List.all_eq_true] at this
  have := this (n - 1) (List.mem_range.2 (by omega))
  rw [List.all_eq_true] at this
  have := this (m - 1) (List.mem_range.2 (by omega))
  rw [show n - 1 + 1 = n by omega, show m - 1 + 1 = m by omega] at this
  exact eq_of_beq this
theorem numL_two (x y : Nat) (v : Nat) (h : numL [x, y] 0 = some v) : v = 10 * (x - 48) + (y - 48) ∧ 48 ≤ x ∧ x ≤ 57 ∧ 48 ≤ y ∧ y ≤ 57 := by
  simp only [numL] at h
  split at h
  · split at h
    · have := Option.some.inj h
      omega
    · cases h
  · cases h
theorem numL_three (x y z : Nat) (v : Nat) (h : numL [x, y, z] 0 = some v) : v = 10 * (10 * (x - 48) + (y - 48)) + (z - 48) ∧ 48 ≤ x ∧ x ≤ 57 := by
  simp only [numL] at h
  split at h
  · split at h
    · split at h
      · have := Option.some.inj h
        omega
      · cases h
    · cases h
  · cases h
theorem row_back (l : List Nat) (v : Int) (h : rowOfL l = (v, true)) (h1 : v ≤ 99) : ∃ n : Nat, v = (n : Int) ∧ n < 100 ∧ rowL n = l := by
  unfold rowOfL at h
  split at h
  · cases h
  · rename_i hno
    simp only [not_or] at hno
    obtain ⟨h0, h3, h48⟩ := hno
    unfold numP at h
    split at h
    · rename_i w hw
      have hwv : (w : Int) = v := congrArg Prod.fst h
      subst hwv
      match l with
      | [] => exact absurd rfl h0
      | [x] =>
        simp only [numL] at hw
        split at hw
        · have := Option.some.inj hw
          exact ⟨w, rfl, by omega, by rw [rowL, if_pos (by omega)]; congr 1; omega⟩
        · cases hw
      | [x, y] =>
        obtain ⟨e, hx1, hx2, hy1, hy2⟩ := numL_two x y w hw
        simp at h48
        exact ⟨w, rfl, by omega, by rw [rowL, if_neg (by omega)]; congr 1; omega; congr 1; omega⟩
      | [x, y, z] =>
        obtain ⟨e, hx1, hx2⟩ := numL_three x y z w hw
        simp at h48
        omega
      | x :: y :: z :: u :: m => simp at h3
    · cases h
theorem told (s : ByteArray) (c r : Int) (h : parseL (L s) = (c, r, 0)) : textT c r = s := by
  unfold parseL at h
  simp only at h
  split at h
  · have := congrArg (fun p : Int × Int × Int => p.2.2) h
    simp at this
  · rename_i hno
    simp only [not_or] at hno
    obtain ⟨hn1, hn2, hrow⟩ := hno
    split at h
    · rename_i hin
      have h1 : ((colOfL ((L s).take (caps (L s)))).1 : Int) = c := congrArg Prod.fst h
      have h2 : (rowOfL ((L s).drop (caps (L s)))).1 = r := congrArg (fun p : Int × Int × Int => p.2.1) h
      rw [h1, h2] at hin
      obtain ⟨i1, i2, i3, i4⟩ := inA_iff.1 hin
      obtain ⟨n, hr, hn, hrl⟩ := row_back ((L s).drop (caps (L s))) r (by
        rw [← h2]
        have : (rowOfL ((L s).drop (caps (L s)))).2 = true := by simpa using hrow
        rw [← this]) i4
      rcases colOfL_range ((L s).take (caps (L s))) with e | ⟨m, m1, m2, e, hm⟩
      · rw [e] at h1
        simp at h1
        omega
      · rw [e] at h1
        simp only at h1
        unfold textT
        rw [if_pos hin]
        apply L_inj
        rw [L_append, ← h1, hr, Int.toNat_natCast, Int.toNat_natCast, L_colT m2, L_rowT hn, hrl, ← hm, List.take_append_drop]
    · have := congrArg (fun p : Int × Int × Int => p.2.2) h
      simp at this
end Go.Proofs.YtcdcijhfjiahkaaDoorR.AP
