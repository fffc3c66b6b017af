/- Part 10 of the proof: the machine, the tables and the pure laws that the last text joins. -/
import Derived.Test.YtljapieoihecbaaGreatDoorZ9
/- FlogDoes: any function of any arguments; plain Lean over the equations. -/
set_option linter.unusedVariables false
set_option linter.unusedSimpArgs false
namespace Go.Proofs.YtljapieoihecbaaGreatDoor.D
open Go Go.Proofs.YtljapieoihecbaaGreatDoor.K
open Go.Proofs.YtljapieoihecbaaGreatDoor.P (wS)
def namesL20 : List (List UInt8) := [nIF, nIFERROR, nIFNA, nAND, nOR, nXOR, nNOT, nTRUE, nFALSE, nNA, nISBLANK, nISNUMBER, nISTEXT, nISLOGICAL, nISERROR, nISERR, nISNA, nN, nT, nTYPE, nCHOOSE, nSWITCH]
theorem xNames20 : flog_Names = some namesL20 := flog_Names_eq
theorem yNames20 : abacistref20_Names = some namesL20 := abacistref20_Names_eq
theorem xIndexNo (l : List (List UInt8)) (n : List UInt8) (hl : l.length ≤ 1000) (hn : ∀ x ∈ l, ¬ n = x) : ∀ (m i : Nat), i + m = l.length → slices_Index_string_string_1 l n (l.length : Int) (i : Int) = some (-1)
  | 0, i, h => by rw [slices_Index_string_string_1_eq, cF (decide_eq_false (by omega))]
  | m + 1, i, h => by
    rw [slices_Index_string_string_1_eq, cT (decide_eq_true (by omega)), cT (ix (by omega)), Int.toNat_natCast, cF (decide_eq_false (hn _ (getD_mem [] (by omega)))), wS (by omega)]
    exact xIndexNo l n hl hn m (i + 1) (by omega)
theorem yHasNo (l : List (List UInt8)) (n : List UInt8) (hl : l.length ≤ 1000) (hn : ∀ x ∈ l, ¬ n = x) : ∀ (m i : Nat), i + m = l.length → abacistref18_Has_1 l n (i : Int) = some false
  | 0, i, h => by rw [abacistref18_Has_1_eq, cF (decide_eq_false (by omega))]
  | m + 1, i, h => by
    rw [abacistref18_Has_1_eq, cT (decide_eq_true (by omega)), cT (ix (by omega)), Int.toNat_natCast, cF (decide_eq_false fun e => hn _ (getD_mem [] (by omega)) e.symm), wS (by omega)]
    exact yHasNo l n hl hn m (i + 1) (by omega)
theorem limNo (n : List UInt8) (hn : ∀ x ∈ namesL20, ¬ n = x) : flog_limits n = some (1, 1, false) := by
  have f : ∀ x ∈ namesL20, decide (n = x) = false := fun x hx => decide_eq_false (hn x hx)
  have hc : slices_Contains_string_string namesL20 n = some false := by
    rw [slices_Contains_string_string_eq, slices_Index_string_string_eq]
    have := xIndexNo namesL20 n (by simp [namesL20]) hn namesL20.length 0 (Nat.zero_add _)
    have e : slices_Index_string_string_1 namesL20 n (namesL20.length : Int) 0 = some (-1) := this
    rw [e]; rfl
  have fIF := f nIF (by simp [namesL20])
  have fIFERROR := f nIFERROR (by simp [namesL20])
  have fIFNA := f nIFNA (by simp [namesL20])
  have fAND := f nAND (by simp [namesL20])
  have fOR := f nOR (by simp [namesL20])
  have fXOR := f nXOR (by simp [namesL20])
  have fTRUE := f nTRUE (by simp [namesL20])
  have fFALSE := f nFALSE (by simp [namesL20])
  have fNA := f nNA (by simp [namesL20])
  have fCHOOSE := f nCHOOSE (by simp [namesL20])
  have fSWITCH := f nSWITCH (by simp [namesL20])
  rw [flog_limits_eq]
  show cond (decide (n = nIF)) (some (2, 3, true)) (cond (decide (n = nIFERROR)) (flog_limits_1 n n true) (flog_limits_1 n n (decide (n = nIFNA)))) = _
  rw [fIF, fIFERROR, fIFNA, cond_false, cond_false, flog_limits_1_eq, cond_false]
  show cond (decide (n = nAND)) (flog_limits_2 n n true) (cond (decide (n = nOR)) (flog_limits_2 n n true) (flog_limits_2 n n (decide (n = nXOR)))) = _
  rw [fAND, fOR, fXOR, cond_false, cond_false, flog_limits_2_eq, cond_false]
  show cond (decide (n = nTRUE)) (flog_limits_3 n n true) (cond (decide (n = nFALSE)) (flog_limits_3 n n true) (flog_limits_3 n n (decide (n = nNA)))) = _
  rw [fTRUE, fFALSE, fNA, cond_false, cond_false, flog_limits_3_eq, cond_false]
  show cond (decide (n = nCHOOSE)) (some (2, 20, true)) (cond (decide (n = nSWITCH)) (some (3, 20, true)) ((flog_Names).bind fun v1 => (slices_Contains_string_string v1 n).bind fun v2 => some (1, 1, v2))) = _
  rw [fCHOOSE, fSWITCH, cond_false, cond_false, xNames20, Option.bind_some, hc]; rfl
theorem hasNo (n : List UInt8) (hn : ∀ x ∈ namesL20, ¬ n = x) : abacistref18_Has namesL20 n = some false := by
  rw [abacistref18_Has_eq]
  exact yHasNo namesL20 n (by simp [namesL20]) hn namesL20.length 0 (Nat.zero_add _)
def Good (l : List Ar) : Prop := l.length ≤ 25 ∧ ∀ a ∈ l, short a ∧ a.1.length ≤ 9223372036854775807
def Does (name : List UInt8) (l : List Ar) : Prop := ∃ r, flog_Do name l = some r ∧ abacistref20_Do name l = some r ∧ vRight r = true
theorem go20 (name : List UInt8) (lo hi : Nat) (hx : flog_limits name = some ((lo : Int), (hi : Int), true)) (hm : abacistref20_many name = some ((lo : Int), (hi : Int))) (hh : abacistref18_Has namesL20 name = some true) (l : List Ar) (hg : Good l)
    (ht : (∀ a ∈ l, okA a = true) → lo ≤ l.length → l.length ≤ hi → Tells name l (l.map oneV)) : Does name l := by
  obtain ⟨hl, hs⟩ := hg
  have bx : flog_Do_1 name l true BL = some (vFault 2) := by rw [flog_Do_1_eq, cond_true, xvFault]; rfl
  have by_ : abacistref20_Do_1 name l true BL = some (vFault 2) := by rw [abacistref20_Do_1_eq, cond_true, yvFault]; rfl
  have X : flog_Do name l = cond (decide ((l.length : Int) < (lo : Int))) (flog_Do_1 name l true BL) (cond (decide ((l.length : Int) > (hi : Int))) (flog_Do_1 name l true BL) (flog_Do_2 l BL name l false)) := by
    rw [flog_Do_eq, hx, Option.bind_some]; rfl
  have Y : abacistref20_Do name l = cond (decide ((l.length : Int) < (lo : Int))) (abacistref20_Do_1 name l true BL) (cond (decide ((l.length : Int) > (hi : Int))) (abacistref20_Do_1 name l true BL) ((abacistref19_Mays l).bind fun v5 => abacistref20_Do_1 name l (!v5) BL)) := by
    rw [abacistref20_Do_eq, yNames20, Option.bind_some, hh, Option.bind_some, hm, Option.bind_some]; rfl
  by_cases h1 : l.length < lo
  · exact ⟨vFault 2, by rw [X, cT (decide_eq_true (by omega)), bx], by rw [Y, cT (decide_eq_true (by omega)), by_], rightF _⟩
  by_cases h2 : l.length > hi
  · exact ⟨vFault 2, by rw [X, cF (decide_eq_false (by omega)), cT (decide_eq_true (by omega)), bx], by rw [Y, cF (decide_eq_false (by omega)), cT (decide_eq_true (by omega)), by_], rightF _⟩
  rw [cF (decide_eq_false (by omega)), cF (decide_eq_false (by omega)), flog_Do_2_eq, flog_Do_4_eq] at X
  rw [cF (decide_eq_false (by omega)), cF (decide_eq_false (by omega)), abacistref19_Mays_eq] at Y
  have x6 := xDo6 name l hl hs l.length 0 (Nat.zero_add _)
  have y6 := yMays l hl (fun a ha => (hs a ha).2) l.length 0 (Nat.zero_add _)
  rw [List.drop_zero] at x6 y6
  have X' := X.trans x6
  have Y' := Y.trans (congrArg (fun z => Option.bind z fun v5 => abacistref20_Do_1 name l (!v5) BL) y6)
  by_cases hok : l.all okA = true
  · rw [hok, cond_true, flog_Do_1_eq, cond_false] at X'
    rw [hok] at Y'
    have Y2 : abacistref20_Do name l = abacistref20_Do_1 name l false BL := Y'
    rw [abacistref20_Do_1_eq, cond_false] at Y2
    have ho : ∀ a ∈ l, okA a = true := List.all_eq_true.1 hok
    obtain ⟨r, r1, r2, r3⟩ := ht ho (by omega) (by omega)
    have x3 := xDo3 name l hl ho l.length 0 [] (Nat.zero_add _) rfl
    have y3 := yDo2 name l hl ho l.length 0 [] (Nat.zero_add _) rfl
    rw [List.drop_zero, List.nil_append] at x3 y3
    exact ⟨r, X'.trans (x3.trans r1), Y2.trans (y3.trans r2), r3⟩
  · have hok : l.all okA = false := by cases h : l.all okA with
      | true => exact absurd h hok
      | false => rfl
    rw [hok] at X' Y'
    exact ⟨vFault 2, X', Y'.trans by_, rightF _⟩
theorem map_RL {l : List Ar} (ho : ∀ a ∈ l, okA a = true) : RL (l.map oneV) := fun x hx => by
  obtain ⟨a, ha, rfl⟩ := List.mem_map.1 hx
  exact oneV_right (ho a ha)
theorem dIF (l : List Ar) (hg : Good l) : Does nIF l := go20 nIF 2 3 (of_depth 100 (by kernel_rfl)) (of_depth 100 (by kernel_rfl)) (of_depth 100 (by kernel_rfl)) l hg fun ho h1 h2 => zIF l _ (map_RL ho) (by rw [List.length_map]; omega) (by rw [List.length_map]; omega)
theorem dIFERROR (l : List Ar) (hg : Good l) : Does nIFERROR l := go20 nIFERROR 2 2 (of_depth 100 (by kernel_rfl)) (of_depth 100 (by kernel_rfl)) (of_depth 100 (by kernel_rfl)) l hg fun ho h1 h2 => zIFERROR l _ (map_RL ho) (by rw [List.length_map]; omega)
theorem dIFNA (l : List Ar) (hg : Good l) : Does nIFNA l := go20 nIFNA 2 2 (of_depth 100 (by kernel_rfl)) (of_depth 100 (by kernel_rfl)) (of_depth 100 (by kernel_rfl)) l hg fun ho h1 h2 => zIFNA l _ (map_RL ho) (by rw [List.length_map]; omega)
theorem dAND (l : List Ar) (hg : Good l) : Does nAND l := go20 nAND 1 20 (of_depth 100 (by kernel_rfl)) (of_depth 100 (by kernel_rfl)) (of_depth 100 (by kernel_rfl)) l hg fun ho h1 h2 => zAND l _ hg.1 ho
theorem dOR (l : List Ar) (hg : Good l) : Does nOR l := go20 nOR 1 20 (of_depth 100 (by kernel_rfl)) (of_depth 100 (by kernel_rfl)) (of_depth 100 (by kernel_rfl)) l hg fun ho h1 h2 => zOR l _ hg.1 ho
theorem dXOR (l : List Ar) (hg : Good l) : Does nXOR l := go20 nXOR 1 20 (of_depth 100 (by kernel_rfl)) (of_depth 100 (by kernel_rfl)) (of_depth 100 (by kernel_rfl)) l hg fun ho h1 h2 => zXOR l _ hg.1 ho
theorem dNOT (l : List Ar) (hg : Good l) : Does nNOT l := go20 nNOT 1 1 (of_depth 100 (by kernel_rfl)) (of_depth 100 (by kernel_rfl)) (of_depth 100 (by kernel_rfl)) l hg fun ho h1 h2 => zNOT l _ (map_RL ho) (by rw [List.length_map]; omega)
theorem dTRUE (l : List Ar) (hg : Good l) : Does nTRUE l := go20 nTRUE 0 0 (of_depth 100 (by kernel_rfl)) (of_depth 100 (by kernel_rfl)) (of_depth 100 (by kernel_rfl)) l hg fun ho h1 h2 => zTRUE l _
theorem dFALSE (l : List Ar) (hg : Good l) : Does nFALSE l := go20 nFALSE 0 0 (of_depth 100 (by kernel_rfl)) (of_depth 100 (by kernel_rfl)) (of_depth 100 (by kernel_rfl)) l hg fun ho h1 h2 => zFALSE l _
theorem dNA (l : List Ar) (hg : Good l) : Does nNA l := go20 nNA 0 0 (of_depth 100 (by kernel_rfl)) (of_depth 100 (by kernel_rfl)) (of_depth 100 (by kernel_rfl)) l hg fun ho h1 h2 => zNA l _
theorem dISBLANK (l : List Ar) (hg : Good l) : Does nISBLANK l := go20 nISBLANK 1 1 (of_depth 100 (by kernel_rfl)) (of_depth 100 (by kernel_rfl)) (of_depth 100 (by kernel_rfl)) l hg fun ho h1 h2 => zISBLANK l _ (map_RL ho) (by rw [List.length_map]; omega)
theorem dISNUMBER (l : List Ar) (hg : Good l) : Does nISNUMBER l := go20 nISNUMBER 1 1 (of_depth 100 (by kernel_rfl)) (of_depth 100 (by kernel_rfl)) (of_depth 100 (by kernel_rfl)) l hg fun ho h1 h2 => zISNUMBER l _ (map_RL ho) (by rw [List.length_map]; omega)
theorem dISTEXT (l : List Ar) (hg : Good l) : Does nISTEXT l := go20 nISTEXT 1 1 (of_depth 100 (by kernel_rfl)) (of_depth 100 (by kernel_rfl)) (of_depth 100 (by kernel_rfl)) l hg fun ho h1 h2 => zISTEXT l _ (map_RL ho) (by rw [List.length_map]; omega)
theorem dISLOGICAL (l : List Ar) (hg : Good l) : Does nISLOGICAL l := go20 nISLOGICAL 1 1 (of_depth 100 (by kernel_rfl)) (of_depth 100 (by kernel_rfl)) (of_depth 100 (by kernel_rfl)) l hg fun ho h1 h2 => zISLOGICAL l _ (map_RL ho) (by rw [List.length_map]; omega)
theorem dISERROR (l : List Ar) (hg : Good l) : Does nISERROR l := go20 nISERROR 1 1 (of_depth 100 (by kernel_rfl)) (of_depth 100 (by kernel_rfl)) (of_depth 100 (by kernel_rfl)) l hg fun ho h1 h2 => zISERROR l _ (map_RL ho) (by rw [List.length_map]; omega)
theorem dISERR (l : List Ar) (hg : Good l) : Does nISERR l := go20 nISERR 1 1 (of_depth 100 (by kernel_rfl)) (of_depth 100 (by kernel_rfl)) (of_depth 100 (by kernel_rfl)) l hg fun ho h1 h2 => zISERR l _ (map_RL ho) (by rw [List.length_map]; omega)
theorem dISNA (l : List Ar) (hg : Good l) : Does nISNA l := go20 nISNA 1 1 (of_depth 100 (by kernel_rfl)) (of_depth 100 (by kernel_rfl)) (of_depth 100 (by kernel_rfl)) l hg fun ho h1 h2 => zISNA l _ (map_RL ho) (by rw [List.length_map]; omega)
theorem dN (l : List Ar) (hg : Good l) : Does nN l := go20 nN 1 1 (of_depth 100 (by kernel_rfl)) (of_depth 100 (by kernel_rfl)) (of_depth 100 (by kernel_rfl)) l hg fun ho h1 h2 => zN l _ (map_RL ho) (by rw [List.length_map]; omega)
theorem dT (l : List Ar) (hg : Good l) : Does nT l := go20 nT 1 1 (of_depth 100 (by kernel_rfl)) (of_depth 100 (by kernel_rfl)) (of_depth 100 (by kernel_rfl)) l hg fun ho h1 h2 => zT l _ (map_RL ho) (by rw [List.length_map]; omega)
theorem dTYPE (l : List Ar) (hg : Good l) : Does nTYPE l := go20 nTYPE 1 1 (of_depth 100 (by kernel_rfl)) (of_depth 100 (by kernel_rfl)) (of_depth 100 (by kernel_rfl)) l hg fun ho h1 h2 => zTYPE l _ (map_RL ho) (by rw [List.length_map]; omega)
theorem dCHOOSE (l : List Ar) (hg : Good l) : Does nCHOOSE l := go20 nCHOOSE 2 20 (of_depth 100 (by kernel_rfl)) (of_depth 100 (by kernel_rfl)) (of_depth 100 (by kernel_rfl)) l hg fun ho h1 h2 => zCHOOSE l _ (map_RL ho) (by rw [List.length_map]; omega) (by rw [List.length_map]; omega)
theorem dSWITCH (l : List Ar) (hg : Good l) : Does nSWITCH l := go20 nSWITCH 3 20 (of_depth 100 (by kernel_rfl)) (of_depth 100 (by kernel_rfl)) (of_depth 100 (by kernel_rfl)) l hg fun ho h1 h2 => zSWITCH l _ (map_RL ho) (by rw [List.length_map]; omega) (by rw [List.length_map]; omega)
theorem does20 (name : List UInt8) (l : List Ar) (hg : Good l) : Does name l := by
  by_cases hn : ∀ x ∈ namesL20, ¬ name = x
  · refine ⟨vFault 4, ?_, ?_, rightF _⟩
    · rw [flog_Do_eq, limNo name hn, Option.bind_some]
      show (value_Fault 4).bind _ = _
      rw [xvFault]; rfl
    · rw [abacistref20_Do_eq, yNames20, Option.bind_some, hasNo name hn, Option.bind_some]
      show (abacistref08_Fault 4).bind _ = _
      rw [yvFault]; rfl
  · have hm : name ∈ namesL20 := by
      refine Decidable.byContradiction fun h => hn fun x hx e => h (by rw [e]; exact hx)
    simp only [namesL20, List.mem_cons, List.not_mem_nil, or_false] at hm
    rcases hm with h | h | h | h | h | h | h | h | h | h | h | h | h | h | h | h | h | h | h | h | h | h
    · rw [h]; exact dIF l hg
    · rw [h]; exact dIFERROR l hg
    · rw [h]; exact dIFNA l hg
    · rw [h]; exact dAND l hg
    · rw [h]; exact dOR l hg
    · rw [h]; exact dXOR l hg
    · rw [h]; exact dNOT l hg
    · rw [h]; exact dTRUE l hg
    · rw [h]; exact dFALSE l hg
    · rw [h]; exact dNA l hg
    · rw [h]; exact dISBLANK l hg
    · rw [h]; exact dISNUMBER l hg
    · rw [h]; exact dISTEXT l hg
    · rw [h]; exact dISLOGICAL l hg
    · rw [h]; exact dISERROR l hg
    · rw [h]; exact dISERR l hg
    · rw [h]; exact dISNA l hg
    · rw [h]; exact dN l hg
    · rw [h]; exact dT l hg
    · rw [h]; exact dTYPE l hg
    · rw [h]; exact dCHOOSE l hg
    · rw [h]; exact dSWITCH l hg
theorem doesAll (name : List UInt8) (l : List Ar) (hw : l.length ≤ 9223372036854775807) : abacistlaw20_FlogDoes name l = some true := by
  rw [abacistlaw20_FlogDoes_eq, light l hw, Option.bind_some]
  cases hb : decide (l.length ≤ 25) && l.all la with
  | false => rw [known20]; rfl
  | true =>
    rw [Bool.and_eq_true] at hb
    have hl := of_decide_eq_true hb.1
    have hall := List.all_eq_true.1 hb.2
    have hg : Good l := ⟨hl, fun a ha => by
      have := hall a ha
      unfold la at this
      rw [Bool.and_eq_true] at this
      have h1 := of_decide_eq_true this.1
      have h2 := List.all_eq_true.1 this.2
      refine ⟨fun v hv => ?_, by omega⟩
      have h3 := h2 v hv
      unfold vl at h3
      rw [Bool.and_eq_true] at h3
      have := of_decide_eq_true h3.1
      omega⟩
    obtain ⟨r, h1, h2, h3⟩ := does20 name l hg
    rw [Bool.not_true, cond_false, h1, Option.bind_some, h2, Option.bind_some]
    show cond (eqV r r) ((abacistref08_Right r).bind fun v5 => cond v5 ((abacistlaw20_known).bind fun v6 => some v6) (some false)) (some false) = _
    rw [eqV_eq, decide_eq_true rfl, cond_true, yvRight, Option.bind_some, h3, cond_true, known20]; rfl
end Go.Proofs.YtljapieoihecbaaGreatDoor.D
namespace Go.Proofs.YtljapieoihecbaaGreatDoor.K
open Go
theorem FlogDoes (name : List UInt8) (_ : Wf .str name) (l : List ((List (Int × (Bool × List UInt8 × List UInt8) × List UInt8 × Bool × Int)) × Int × Bool × Int × Int)) (hl : Wf (.sl (.pair (.sl (.pair (.int .i64) (.pair (.pair .bool (.pair .str .str)) (.pair .str (.pair .bool (.int .i64)))))) (.pair (.int .i64) (.pair .bool (.pair (.int .i64) (.int .i64)))))) l) : abacistlaw20_FlogDoes name l = some true := D.doesAll name l hl.1
end Go.Proofs.YtljapieoihecbaaGreatDoor.K
