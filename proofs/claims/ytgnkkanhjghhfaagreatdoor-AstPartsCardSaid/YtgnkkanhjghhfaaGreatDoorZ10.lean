/- Part 10 of the proof: the machine, the tables and the pure laws that the last text joins. -/
import Derived.Test.YtgnkkanhjghhfaaGreatDoorZ9
/- AstTells: the law; plain Lean over the equations. -/
set_option linter.unusedVariables false
set_option linter.unusedSimpArgs false
namespace Go.Proofs.YtgnkkanhjghhfaaGreatDoor.D
open Go Go.Proofs.YtgnkkanhjghhfaaGreatDoor.K
open Go.Proofs.YtgnkkanhjghhfaaGreatDoor.P (wS)
def q1 : Nd := (1, 0, 0, 0, (false, [1], [1]), [], false, ([], 0, 0, false, false), [], 0, 0, false, false)
def q2 : Nd := (1, 0, 0, 0, (false, [2], [1]), [], false, ([], 0, 0, false, false), [], 0, 0, false, false)
def q3 : Nd := (8, 1, 0, 1, (false, [], []), [], false, ([], 0, 0, false, false), [], 0, 0, false, false)
theorem k1 : abacistlaw13_number 1 = some ([q1], []) := of_depth 400 (by kernel_rfl)
theorem k2 : abacistlaw13_number 2 = some ([q2], []) := of_depth 400 (by kernel_rfl)
theorem r1 : ast_Right ([q1], []) = some true := of_depth 400 (by kernel_rfl)
theorem r2 : ast_Right ([q2], []) = some true := of_depth 400 (by kernel_rfl)
theorem r3 : ast_Right ([q1, q2, q3], []) = some true := of_depth 400 (by kernel_rfl)
theorem r0 : ast_Right ([], []) = some false := of_depth 400 (by kernel_rfl)
theorem m3 : ast_may q3 = some true := of_depth 400 (by kernel_rfl)
theorem v2 : ast_moved q2 1 0 = some q2 := of_depth 400 (by kernel_rfl)
theorem o1 : abacistref05_Of (-1) = some (true, [1], [1]) := of_depth 400 (by kernel_rfl)
theorem l1 : ast_Leaf (1, 0, 0, 0, (true, [1], [1]), [], false, ([], 0, 0, false, false), [], 0, 0, false, false) = some (([], []), 3) := of_depth 400 (by kernel_rfl)
theorem kClone1 : slices_Clone_abacist_api_Node_abacist_api_Node [q1] = some [q1] := by
  rw [slices_Clone_abacist_api_Node_abacist_api_Node_eq, cT (decide_eq_true (by simp)), slices_Clone_abacist_api_Node_abacist_api_Node_1_eq, cond_false]; rfl
theorem beh : ast_behind ([q1], []) ([q2], []) = some ([q1, q2], []) := by
  rw [ast_behind_eq]
  show (slices_Clone_abacist_api_Node_abacist_api_Node [q1]).bind (fun v1 => (slices_Clone_int_int []).bind fun v2 => ast_behind_1 [q2] 1 0 v1 v2 ([q1], []) ([q2], []) ([], [])) = _
  rw [kClone1, Option.bind_some, xClone [] (by simp), Option.bind_some, ast_behind_1_eq]
  show (ast_moved q2 1 0).bind (fun v1 => cond (Nat.ble (([q1].length + [v1].length) * 176) 140737488355328) (ast_behind_1 [q2] 1 1 ([q1] ++ [v1]) [] ([q1], []) ([q2], []) ([], [])) none) = _
  rw [v2, Option.bind_some]
  show ast_behind_1 [q2] 1 1 [q1, q2] [] ([q1], []) ([q2], []) ([], []) = _
  rw [ast_behind_1_eq]
  show ast_behind_2 [] 0 0 [q1, q2] [] ([q1], []) ([], []) = _
  rw [ast_behind_2_eq]; rfl
theorem two13 : ast_Two 1 ([q1], []) ([q2], []) = some (([q1, q2, q3], []), 0) := by
  have t2 : ∀ a b c, ast_Two_2 q3 a b c q3 [q1, q2] [] = some (([q1, q2, q3], []), 0) := fun a b c => by
    rw [ast_Two_2_eq]
    show (ast_Right ([q1, q2, q3], [])).bind _ = _
    rw [r3]; rfl
  have t3 : ∀ a b c, ast_Two_3 q3 a b c q3 [q1, q2] [] = some (([q1, q2, q3], []), 0) := fun a b c => by
    rw [ast_Two_3_eq]
    show (ast_Right ([q1, q2, q3], [])).bind _ = _
    rw [r3]; rfl
  have t1 : ast_Two_1 false ([q1], []) ([q2], []) ([], []) q3 = some (([q1, q2, q3], []), 0) := by
    rw [ast_Two_1_eq, cond_false, beh, Option.bind_some, t2, t3, eqOr_same]
  rw [ast_Two_eq, r1, Option.bind_some, r2, Option.bind_some]
  show (ast_may q3).bind (fun v3 => ast_Two_1 (!v3) ([q1], []) ([q2], []) ([], []) q3) = _
  rw [m3, Option.bind_some]
  exact t1
theorem known13 : abacistlaw13_known = some true := by
  rw [abacistlaw13_known_eq, k1, Option.bind_some, k2, Option.bind_some, two13, Option.bind_some, o1, Option.bind_some, l1, Option.bind_some]
  show (ast_Right ([q1, q2, q3], [])).bind (fun v6 => cond v6 ((ast_Right ([], [])).bind fun v7 => some (!v7)) (some false)) = _
  rw [r3, r0]; rfl
theorem light13 (f : Fmu) : ∃ b, abacistlaw13_light f = some b ∧ (b = true → f.1.length ≤ 320 ∧ f.2.length ≤ 400) := by
  have l1t : abacistlaw13_light_1 true f = some false := by rw [abacistlaw13_light_1_eq, cond_true]
  have loop : f.1.length ≤ 320 → ∀ (m i : Nat), i + m = f.1.length → ∃ b, abacistlaw13_light_2 (i : Int) f = some b := by
    intro hf m
    induction m with
    | zero => intro i h; exact ⟨true, by rw [abacistlaw13_light_2_eq, cF (decide_eq_false (by omega))]⟩
    | succ m ih =>
      intro i h
      have hi : i < f.1.length := by omega
      obtain ⟨b, hb⟩ := ih (i + 1) (by omega)
      have l3 : ∀ q, abacistlaw13_light_3 (i : Int) q f = some (cond q false b) := fun q => by
        rw [abacistlaw13_light_3_eq, wS (by omega), hb]; cases q <;> rfl
      have any : ∀ (a1 a2 a3 a4 a5 : Bool) (x : Bool → Option Bool), (∀ q, ∃ r, x q = some r) → ∃ r, cond a1 (x true) (cond a2 (x true) (cond a3 (x true) (cond a4 (x true) (x a5)))) = some r := fun a1 a2 a3 a4 a5 x hx => by
        cases a1
        · cases a2
          · cases a3
            · cases a4
              · exact hx a5
              · exact hx true
            · exact hx true
          · exact hx true
        · exact hx true
      rw [abacistlaw13_light_2_eq, cT (decide_eq_true (by omega)), cT (ix hi)]
      exact any _ _ _ _ _ (fun q => abacistlaw13_light_3 (i : Int) q f) fun q => ⟨_, l3 q⟩
  rw [abacistlaw13_light_eq, l1t]
  by_cases h1 : f.1.length ≤ 320
  · rw [cF (decide_eq_false (by omega))]
    by_cases h2 : f.2.length ≤ 400
    · rw [decide_eq_false (by omega), abacistlaw13_light_1_eq, cond_false]
      obtain ⟨b, hb⟩ := loop h1 f.1.length 0 (Nat.zero_add _)
      exact ⟨b, hb, fun _ => ⟨h1, h2⟩⟩
    · rw [decide_eq_true (by omega), l1t]
      exact ⟨false, rfl, fun h => by cases h⟩
  · rw [cT (decide_eq_true (by omega))]
    exact ⟨false, rfl, fun h => by cases h⟩
end Go.Proofs.YtgnkkanhjghhfaaGreatDoor.D
namespace Go.Proofs.YtgnkkanhjghhfaaGreatDoor.K
open Go
abbrev NdTy : Ty := .pair (.int .i64) (.pair (.int .i64) (.pair (.int .i64) (.pair (.int .i64) (.pair (.pair .bool (.pair .str .str)) (.pair .str (.pair .bool (.pair (.pair .str (.pair (.int .i64) (.pair (.int .i64) (.pair .bool .bool)))) (.pair .str (.pair (.int .i64) (.pair (.int .i64) (.pair .bool .bool)))))))))))
abbrev FmTy : Ty := .pair (.sl NdTy) (.sl (.int .i64))
end Go.Proofs.YtgnkkanhjghhfaaGreatDoor.K
/- AstParts: formulas behind each other, and parts of them; plain Lean over the equations. -/
namespace Go.Proofs.YtgnkkanhjghhfaaGreatDoor.D
open Go Go.Proofs.YtgnkkanhjghhfaaGreatDoor.K
open Go.Proofs.YtgnkkanhjghhfaaGreatDoor.P (wS)
def mv (n : Nd) (a b : Int) : Nd := if n.1 = 8 then (n.1, n.2.1, n.2.2.1 + a, n.2.2.2.1 + a, n.2.2.2.2) else if n.1 = 7 then (n.1, n.2.1, n.2.2.1 + a, n.2.2.2) else if n.1 = 9 ∧ n.2.2.2.1 > 0 then (n.1, n.2.1, n.2.2.1 + b, n.2.2.2) else n
def Sm (n : Nd) : Prop := (n.1 = 7 ∨ n.1 = 8 ∨ (n.1 = 9 ∧ n.2.2.2.1 > 0) → -10000 ≤ n.2.2.1 ∧ n.2.2.1 ≤ 10000) ∧ (n.1 = 8 → -10000 ≤ n.2.2.2.1 ∧ n.2.2.2.1 ≤ 10000)
theorem xMoved {n : Nd} (h : Sm n) {a b : Int} (ha : -10000 ≤ a ∧ a ≤ 10000) (hb : -10000 ≤ b ∧ b ≤ 10000) : ast_moved n a b = some (mv n a b) := by
  rw [ast_moved_eq]
  simp only [ast_moved_1_eq, ast_moved_2_eq]
  unfold mv
  by_cases h8 : n.1 = 8
  · have h1 := h.1 (.inr (.inl h8))
    have h2 := h.2 h8
    rw [cT (decide_eq_true h8), if_pos h8, w64 (x := n.2.2.1 + a) (by omega) (by omega), w64 (x := n.2.2.2.1 + a) (by omega) (by omega)]
  · rw [cF (decide_eq_false h8), if_neg h8]
    by_cases h7 : n.1 = 7
    · have h1 := h.1 (.inl h7)
      rw [cT (decide_eq_true h7), if_pos h7, w64 (x := n.2.2.1 + a) (by omega) (by omega)]
    · rw [cF (decide_eq_false h7), if_neg h7]
      by_cases h9 : n.1 = 9
      · rw [cT (decide_eq_true h9)]
        by_cases hp : n.2.2.2.1 > 0
        · have h1 := h.1 (.inr (.inr ⟨h9, hp⟩))
          rw [cT (decide_eq_true hp), if_pos ⟨h9, hp⟩, w64 (x := n.2.2.1 + b) (by omega) (by omega)]
        · rw [cF (decide_eq_false hp), if_neg fun h => hp h.2]
      · rw [cF (decide_eq_false h9), if_neg fun h => h9 h.1]
theorem mv_zero (n : Nd) : mv n 0 0 = n := by
  obtain ⟨k, op, a, b, r⟩ := n
  unfold mv
  simp only [Int.add_zero]
  repeat' (first | rfl | split)
theorem mv_kind (n : Nd) (a b : Int) : (mv n a b).1 = n.1 := by
  unfold mv
  repeat' (first | rfl | split)
theorem mv_num {n : Nd} (h : ¬ n.1 = 8) (a b : Int) : (mv n a b).2.2.2.1 = n.2.2.2.1 := by
  unfold mv
  rw [if_neg h]
  repeat' (first | rfl | split)
theorem mv_text (n : Nd) (a b : Int) : (mv n a b).2.2.2.2.2.1 = n.2.2.2.2.2.1 := by
  unfold mv
  repeat' (first | rfl | split)
theorem callN_mv (n : Nd) (a b : Int) : callN (mv n a b) = callN n := by
  unfold callN
  rw [mv_kind]
  by_cases h8 : n.1 = 8
  · rw [decide_eq_false (show ¬ n.1 = 9 by omega)]; rfl
  · rw [mv_num h8]
theorem callN_iff {n : Nd} : callN n = true ↔ n.1 = 9 ∧ n.2.2.2.1 > 0 := by
  unfold callN
  simp
theorem mv_call {n : Nd} (h : callN n = true) (a b : Int) : (mv n a b).2.2.1 = n.2.2.1 + b ∧ (mv n a b).2.2.2.1 = n.2.2.2.1 := by
  obtain ⟨h9, hp⟩ := callN_iff.1 h
  unfold mv
  rw [if_neg (show ¬ n.1 = 8 by omega), if_neg (show ¬ n.1 = 7 by omega), if_pos ⟨h9, hp⟩]
  exact ⟨rfl, rfl⟩
theorem mv_back (n : Nd) (a b b' : Int) (h : callN n = true → b' = b) : mv (mv n a b) (-a) (-b') = n := by
  obtain ⟨k, op, x, y, r⟩ := n
  unfold mv
  by_cases h8 : k = 8
  · subst h8
    simp only [if_true]
    rw [show x + a + -a = x by omega, show y + a + -a = y by omega]
  · by_cases h7 : k = 7
    · subst h7
      simp
      omega
    · by_cases h9 : k = 9 ∧ y > 0
      · have := h (callN_iff.2 h9)
        subst this
        simp only [if_neg h8, if_neg h7, if_pos h9]
        rw [show x + b' + -b' = x by omega]
      · simp only [if_neg h8, if_neg h7, if_neg h9]
theorem kd_un {f : Fmu} {i : Nat} (h : (nd f i).1 = 7) : kd f i = [(nd f i).2.2.1] := by unfold kd kv; rw [decide_eq_true h]; rfl
theorem kd_bin {f : Fmu} {i : Nat} (h : (nd f i).1 = 8) : kd f i = [(nd f i).2.2.1, (nd f i).2.2.2.1] := by unfold kd kv; rw [decide_eq_false (show ¬ (nd f i).1 = 7 by omega), decide_eq_true h]; rfl
theorem kd_call {f : Fmu} {i : Nat} (h : callN (nd f i) = true) (ht : (kv (nd f i) f.2).2 = true) : oddK (nd f i) f.2 = false ∧ kd f i = (f.2.take ((nd f i).2.2.1 + (nd f i).2.2.2.1).toNat).drop (nd f i).2.2.1.toNat := by
  obtain ⟨h9, hp⟩ := callN_iff.1 h
  unfold kd
  unfold kv at ht ⊢
  rw [decide_eq_false (show ¬ (nd f i).1 = 7 by omega), decide_eq_false (show ¬ (nd f i).1 = 8 by omega), decide_eq_true h9, decide_eq_true hp] at ht ⊢
  simp only [cond_true, cond_false] at ht ⊢
  cases ho : oddK (nd f i) f.2 with
  | true => rw [ho] at ht; cases ht
  | false => exact ⟨rfl, rfl⟩
theorem kd_none {f : Fmu} {i : Nat} (h7 : ¬ (nd f i).1 = 7) (h8 : ¬ (nd f i).1 = 8) (hc : callN (nd f i) = false) : kd f i = [] := by
  unfold kd kv
  rw [decide_eq_false h7, decide_eq_false h8]
  unfold callN at hc
  cases h9 : decide ((nd f i).1 = 9)
  · rfl
  · rw [h9, Bool.true_and] at hc
    rw [hc]; rfl
theorem Good.sm {f : Fmu} (g : Good f) (hn : f.1.length ≤ 320) (ha : f.2.length ≤ 400) {i : Nat} (hi : i < f.1.length) : Sm (nd f i) := by
  refine ⟨fun h => ?_, fun h8 => ?_⟩
  · rcases h with h7 | h8 | ⟨h9, hp⟩
    · obtain ⟨j, e, hj⟩ := g.kid hi (k := 0) (by rw [kd_un h7]; simp)
      rw [kd_un h7] at e
      simp at e; omega
    · obtain ⟨j, e, hj⟩ := g.kid hi (k := 0) (by rw [kd_bin h8]; simp)
      rw [kd_bin h8] at e
      simp at e; omega
    · have := oddK_false (kd_call (callN_iff.2 ⟨h9, hp⟩) (g.told i hi)).1
      omega
  · obtain ⟨j, e, hj⟩ := g.kid hi (k := 1) (by rw [kd_bin h8]; simp)
    rw [kd_bin h8] at e
    simp at e; omega
theorem cls_cover {f : Fmu} : ∀ {m : Nat} {u : Int}, (∀ j, j < m → canV (nd f j) = true) → cls f m = some u → 0 ≤ u ∧ ∀ t : Nat, (t : Int) < u → ∃ j, j < m ∧ callN (nd f j) = true ∧ (nd f j).2.2.1 ≤ (t : Int) ∧ (t : Int) < (nd f j).2.2.1 + (nd f j).2.2.2.1
  | 0, u, _, h => by cases h; exact ⟨Int.le_refl _, fun t h => by omega⟩
  | m + 1, u, hc, h => by
    obtain ⟨v, hv⟩ := cls_pre f h (Nat.le_succ m)
    obtain ⟨i0, ih⟩ := cls_cover (fun j hj => hc j (by omega)) hv
    obtain ⟨b1, rfl⟩ := cls_back hv h
    unfold nextU
    cases hb : callN (nd f m) with
    | false =>
      refine ⟨i0, fun t ht => ?_⟩
      obtain ⟨j, h1, h2⟩ := ih t ht
      exact ⟨j, by omega, h2⟩
    | true =>
      have := callN_can (hc m (by omega)) hb
      have hA := b1 hb
      simp only [cond_true]
      refine ⟨by omega, fun t ht => ?_⟩
      by_cases h1 : (t : Int) < v
      · obtain ⟨j, h2, h3⟩ := ih t h1
        exact ⟨j, by omega, h3⟩
      · exact ⟨m, by omega, hb, by omega, by omega⟩
theorem getD_cut {l : List Int} {a b t : Nat} (h1 : a ≤ t) (h2 : t < b) (hl : t < l.length) : ((l.take b).drop a).getD (t - a) 0 = l.getD t 0 ∧ t - a < ((l.take b).drop a).length := by
  have hlen : t - a < ((l.take b).drop a).length := by simp; omega
  refine ⟨?_, hlen⟩
  rw [List.getD_eq_getElem?_getD, List.getD_eq_getElem?_getD, List.getElem?_drop, List.getElem?_take]
  rw [show a + (t - a) = t by omega, if_pos h2]
theorem Good.arg {f : Fmu} (g : Good f) {t : Nat} (ht : t < f.2.length) : ∃ k : Nat, f.2.getD t 0 = (k : Int) ∧ k < f.1.length := by
  obtain ⟨_, hc⟩ := cls_cover g.can g.cl
  obtain ⟨j, hj, hb, h1, h2⟩ := hc t (by omega)
  obtain ⟨ho, hk⟩ := kd_call hb (g.told j hj)
  have := oddK_false ho
  obtain ⟨e1, e2⟩ := getD_cut (l := f.2) (a := (nd f j).2.2.1.toNat) (b := ((nd f j).2.2.1 + (nd f j).2.2.2.1).toNat) (t := t) (by omega) (by omega) ht
  rw [← hk] at e1 e2
  obtain ⟨k, e, hkj⟩ := g.kid hj e2
  exact ⟨k, by rw [← e1]; exact e, by omega⟩
theorem cloneN (l : List Nd) (hl : l.length ≤ 1000) : slices_Clone_abacist_api_Node_abacist_api_Node l = some l := by
  have room : Nat.ble ((([] : List Nd).length + l.length) * 176) 140737488355328 = true := Nat.ble_eq_true_of_le (by simp; omega)
  rw [slices_Clone_abacist_api_Node_abacist_api_Node_eq]
  cases l with
  | nil => rw [cF (decide_eq_false (by simp)), slices_Clone_abacist_api_Node_abacist_api_Node_2_eq]; exact eqOr_same _
  | cons x l => rw [cT (decide_eq_true (by simp)), slices_Clone_abacist_api_Node_abacist_api_Node_1_eq, cond_false, cT room]; rfl
def bhV (f g : Fmu) : Fmu := (f.1 ++ g.1.map (fun n => mv n (f.1.length : Int) (f.2.length : Int)), f.2 ++ g.2.map (fun x => x + (f.1.length : Int)))
theorem ndrop {l : List Nd} {i : Nat} (h : i < l.length) : l.drop i = l.getD i ZN :: l.drop (i + 1) := by
  rw [List.drop_eq_getElem_cons h, List.getD_eq_getElem?_getD, List.getElem?_eq_getElem h]; rfl
theorem idrop {l : List Int} {i : Nat} (h : i < l.length) : l.drop i = l.getD i 0 :: l.drop (i + 1) := by
  rw [List.drop_eq_getElem_cons h, List.getD_eq_getElem?_getD, List.getElem?_eq_getElem h]; rfl
theorem xBehind (f g : Fmu) (hf1 : f.1.length ≤ 400) (hf2 : f.2.length ≤ 400) (gg : Good g) (hg1 : g.1.length ≤ 320) (hg2 : g.2.length ≤ 400) : ast_behind f g = some (bhV f g) := by
  have loop2 : ∀ (m i : Nat) (N : List Nd) (A : List Int), i + m = g.2.length → A.length ≤ 400 + i → ast_behind_2 g.2 (g.2.length : Int) (i : Int) N A f ([], []) = some (N, A ++ (g.2.drop i).map (fun x => x + (f.1.length : Int))) := by
    intro m
    induction m with
    | zero => intro i N A h _; rw [ast_behind_2_eq, cF (decide_eq_false (by omega)), List.drop_of_length_le (by omega)]; simp
    | succ m ih =>
      intro i N A h hA
      have hi : i < g.2.length := by omega
      obtain ⟨k, hk, hkl⟩ := gg.arg hi
      have room : Nat.ble ((A.length + [IntKind.i64.wrap (g.2.getD i 0 + (f.1.length : Int))].length) * 8) 140737488355328 = true := Nat.ble_eq_true_of_le (by simp; omega)
      rw [ast_behind_2_eq, cT (decide_eq_true (by omega)), cT (ix hi), Int.toNat_natCast, cT room, wS (by omega), w64 (x := g.2.getD i 0 + (f.1.length : Int)) (by rw [hk]; omega) (by rw [hk]; omega), ih (i + 1) N _ (by omega) (by simp; omega), idrop hi]
      simp
  have loop1 : ∀ (m i : Nat) (N : List Nd) (A : List Int), i + m = g.1.length → N.length ≤ 400 + i → ast_behind_1 g.1 (g.1.length : Int) (i : Int) N A f g ([], []) = ast_behind_2 g.2 (g.2.length : Int) 0 (N ++ (g.1.drop i).map (fun n => mv n (f.1.length : Int) (f.2.length : Int))) A f ([], []) := by
    intro m
    induction m with
    | zero => intro i N A h _; rw [ast_behind_1_eq, cF (decide_eq_false (by omega)), List.drop_of_length_le (by omega)]; simp
    | succ m ih =>
      intro i N A h hN
      have hi : i < g.1.length := by omega
      have sm : Sm (g.1.getD i ZN) := gg.sm hg1 hg2 hi
      have room : Nat.ble ((N.length + [mv (g.1.getD i ZN) (f.1.length : Int) (f.2.length : Int)].length) * 176) 140737488355328 = true := Nat.ble_eq_true_of_le (by simp; omega)
      rw [ast_behind_1_eq, cT (decide_eq_true (by omega)), cT (ix hi), Int.toNat_natCast]
      show (ast_moved (g.1.getD i ZN) (f.1.length : Int) (f.2.length : Int)).bind _ = _
      rw [xMoved sm (by omega) (by omega), Option.bind_some, cT room, wS (by omega), ih (i + 1) _ A (by omega) (by simp; omega), ndrop hi]
      simp
  rw [ast_behind_eq, cloneN _ (by omega), Option.bind_some, xClone _ (by omega), Option.bind_some]
  refine (loop1 g.1.length 0 f.1 f.2 (Nat.zero_add _) (by omega)).trans ?_
  rw [List.drop_zero]
  refine (loop2 g.2.length 0 _ f.2 (Nat.zero_add _) (by omega)).trans ?_
  rw [List.drop_zero]; rfl
theorem bh_nil {g : Fmu} : bhV ([], []) g = g := by
  unfold bhV
  simp [mv_zero]
def fA (F : Fmu) (a : Nat) : Nat → Int → Int
  | 0, x => x
  | n + 1, x => fA F a n (cond (callN (nd F (a + n))) (nd F (a + n)).2.2.1 x)
theorem fA_add (F : Fmu) (a : Nat) : ∀ (m n : Nat) (x : Int), fA F a (n + m) x = fA F a n (fA F (a + n) m x)
  | 0, n, x => rfl
  | m + 1, n, x => by
    rw [← Nat.add_assoc]
    simp only [fA]
    rw [fA_add F a m n, show a + (n + m) = a + n + m by omega]
theorem pStep (F z : Fmu) (hF1 : F.1.length ≤ 320) (hF2 : F.2.length ≤ 400) (g : Good F) (node : Int) {cur : Nat} (hc : cur < F.1.length) {left first args : Int} (h0 : 0 < left) (h1 : left ≤ 1000) :
    ast_Part_4 left (cur : Int) F F z first args node 0 = ast_Part_4 (left + ((kd F cur).length : Int) - 1) ((cur : Int) - 1) F F z (cur : Int) (cond (callN (nd F cur)) (nd F cur).2.2.1 args) node 0 := by
  have hkl := kd_len F (by omega) cur
  have p7 : ∀ q, ast_Part_7 q args (nd F cur) (cur : Int) F F z (cur : Int) (left + ((kd F cur).length : Int) - 1) node 0 = ast_Part_4 (left + ((kd F cur).length : Int) - 1) ((cur : Int) - 1) F F z (cur : Int) (cond q (nd F cur).2.2.1 args) node 0 := fun q => by
    rw [ast_Part_7_eq, ast_Part_9_eq, ast_Part_9_eq, cond_false, cond_false, w64 (x := (cur : Int) - 1) (by omega) (by omega)]
    cases q <;> rfl
  rw [ast_Part_4_eq, cT (decide_eq_true (show left > 0 by omega)), cT (ix hc), Int.toNat_natCast]
  show (ast_kids (nd F cur) F.2).bind _ = _
  rw [xKids _ _ (by omega) (fun h9 => by have := can_arg (g.can cur hc) h9; omega), Option.bind_some]
  show ast_Part_5 node 0 (cur : Int) (cur : Int) F F z first args (IntKind.i64.wrap (left + IntKind.i64.wrap (((kd F cur).length : Int) - 1))) node 0 = _
  rw [w64 (x := ((kd F cur).length : Int) - 1) (by omega) (by omega), w64 (x := left + (((kd F cur).length : Int) - 1)) (by omega) (by omega), show left + (((kd F cur).length : Int) - 1) = left + ((kd F cur).length : Int) - 1 by omega, ast_Part_5_eq, cT (ix hc), Int.toNat_natCast]
  show cond (decide ((nd F cur).1 = 9)) (ast_Part_7 (decide ((nd F cur).2.2.2.1 > 0)) args (nd F cur) (cur : Int) F F z (cur : Int) (left + ((kd F cur).length : Int) - 1) node 0) (ast_Part_7 false args (nd F cur) (cur : Int) F F z (cur : Int) (left + ((kd F cur).length : Int) - 1) node 0) = _
  rw [p7, p7]
  unfold callN
  cases decide ((nd F cur).1 = 9) <;> rfl
theorem pBelow (F z : Fmu) (hF1 : F.1.length ≤ 320) (hF2 : F.2.length ≤ 400) (g : Good F) (node : Int) {a b : Nat} {ks : List Int} (h : Fo (kd F) a b ks) : b ≤ F.1.length → ∀ (r : Nat) (first args : Int), r + (b - a) ≤ 700 →
    ast_Part_4 ((ks.length + r : Nat) : Int) ((b : Int) - 1) F F z first args node 0 = ast_Part_4 (r : Int) ((a : Int) - 1) F F z (if a < b then (a : Int) else first) (fA F a (b - a) args) node 0 := by
  induction h with
  | nil a => intro hb r first args hr; rw [if_neg (Nat.lt_irrefl a), Nat.sub_self]; simp [fA]
  | @cons a k b ks f1 f2 ih1 ih2 =>
    intro hb r first args hr
    have l1 := f1.le
    have l2 := f2.le
    have hkl := f1.len
    have e2 := ih2 hb (1 + r) first args (by omega)
    rw [show ((k : Int) :: ks).length + r = ks.length + (1 + r) by simp; omega, e2, show ((k + 1 : Nat) : Int) - 1 = (k : Int) by omega, pStep F z hF1 hF2 g node (show k < F.1.length by omega) (by omega) (by omega),
      show ((1 + r : Nat) : Int) + ((kd F k).length : Int) - 1 = (((kd F k).length + r : Nat) : Int) by omega, ih1 (by omega) r _ _ (by omega), if_pos (show a < b by omega)]
    congr 1
    · by_cases hak : a < k
      · rw [if_pos hak]
      · rw [if_neg hak]; omega
    · rw [show b - a = (k - a + 1) + (b - (k + 1)) by omega, fA_add, show a + (k - a + 1) = k + 1 by omega]
      simp only [fA]
      rw [show a + (k - a) = k by omega]
structure In (F X : Fmu) (c d : Nat) : Prop where
  nodes : ∀ j, j < X.1.length → nd F (c + j) = mv (nd X j) (c : Int) (d : Int)
  len : c + X.1.length ≤ F.1.length
  args : ∀ t, t < X.2.length → F.2.getD (d + t) 0 = X.2.getD t 0 + (c : Int)
  alen : d + X.2.length ≤ F.2.length
theorem cls_zero {f : Fmu} : ∀ {m : Nat}, (∀ j, j < m → callN (nd f j) = false) → cls f m = some 0
  | 0, _ => rfl
  | m + 1, h => by
    simp only [cls]
    rw [cls_zero fun j hj => h j (by omega), Option.bind_some, h m (by omega)]; rfl
theorem In.first {F X : Fmu} {c d : Nat} (h : In F X c d) (g : Good X) : ∀ (n : Nat) (x : Int), n ≤ X.1.length → (∃ j, j < n ∧ callN (nd X j) = true) → fA F c n x = (d : Int)
  | 0, x, _, hex => by obtain ⟨j, hj, _⟩ := hex; omega
  | n + 1, x, hn, hex => by
    simp only [fA]
    by_cases hb : ∃ j, j < n ∧ callN (nd X j) = true
    · exact h.first g n _ (by omega) hb
    · have no : ∀ j, j < n → callN (nd X j) = false := fun j hj => by
        cases hc : callN (nd X j) with
        | false => rfl
        | true => exact absurd ⟨j, hj, hc⟩ hb
      obtain ⟨j, hj, hc⟩ := hex
      have hjn : j = n := by
        rcases Nat.lt_or_ge j n with h' | h'
        · rw [no j h'] at hc; cases hc
        · omega
      subst hjn
      have z := cls_zero no
      obtain ⟨v, hv⟩ := cls_pre X g.cl (show j + 1 ≤ X.1.length by omega)
      have hA := (cls_back z hv).1 hc
      rw [h.nodes j (by omega), callN_mv, hc, cond_true, (mv_call hc _ _).1, hA]
      have all : ∀ (m : Nat) (y : Int), (∀ i, i < m → callN (nd X i) = false) → m ≤ X.1.length → fA F c m y = y := by
        intro m
        induction m with
        | zero => intro y _ _; rfl
        | succ m ihm =>
          intro y hno hm
          simp only [fA]
          rw [h.nodes m (by omega), callN_mv, hno m (by omega), cond_false]
          exact ihm y (fun i hi => hno i (by omega)) (by omega)
      rw [all j _ no (by omega)]; omega
theorem In.kids {F X : Fmu} {c d : Nat} (h : In F X c d) (g : Good X) {j : Nat} (hj : j < X.1.length) : kd F (c + j) = (kd X j).map (fun x => x + (c : Int)) := by
  have hnd := h.nodes j hj
  have hk : (nd F (c + j)).1 = (nd X j).1 := by rw [hnd, mv_kind]
  by_cases h7 : (nd X j).1 = 7
  · rw [kd_un h7, kd_un (by rw [hk]; exact h7), hnd]
    unfold mv
    rw [if_neg (show ¬ (nd X j).1 = 8 by omega), if_pos h7]; rfl
  · by_cases h8 : (nd X j).1 = 8
    · rw [kd_bin h8, kd_bin (by rw [hk]; exact h8), hnd]
      unfold mv
      rw [if_pos h8]; rfl
    · cases hc : callN (nd X j) with
      | false =>
        rw [kd_none h7 h8 hc, kd_none (by rw [hk]; exact h7) (by rw [hk]; exact h8) (by rw [hnd, callN_mv]; exact hc)]; rfl
      | true =>
        obtain ⟨h9, hp⟩ := callN_iff.1 hc
        obtain ⟨ho, hkd⟩ := kd_call hc (g.told j hj)
        have hb := oddK_false ho
        obtain ⟨e1, e2⟩ := mv_call hc (c : Int) (d : Int)
        have halen := h.alen
        have hoF : oddK (nd F (c + j)) F.2 = false := by
          rw [hnd]; unfold oddK
          rw [e1, e2]
          simp; omega
        have hkF : kd F (c + j) = (F.2.take ((nd X j).2.2.1 + (d : Int) + (nd X j).2.2.2.1).toNat).drop ((nd X j).2.2.1 + (d : Int)).toNat := by
          unfold kd kv
          rw [hoF, hk, decide_eq_false h7, decide_eq_false h8, decide_eq_true h9, hnd, e1, e2, decide_eq_true hp]; rfl
        rw [hkF, hkd]
        obtain ⟨A, hA⟩ : ∃ A : Nat, (nd X j).2.2.1 = (A : Int) := ⟨(nd X j).2.2.1.toNat, by omega⟩
        obtain ⟨B, hB⟩ : ∃ B : Nat, (nd X j).2.2.2.1 = (B : Int) := ⟨(nd X j).2.2.2.1.toNat, by omega⟩
        rw [hA, hB] at hb ⊢
        rw [show ((A : Int) + (d : Int) + (B : Int)).toNat = d + A + B by omega, show ((A : Int) + (d : Int)).toNat = d + A by omega, show ((A : Int) + (B : Int)).toNat = A + B by omega, Int.toNat_natCast]
        refine List.ext_getElem? fun t => ?_
        rw [List.getElem?_map, List.getElem?_drop, List.getElem?_drop, List.getElem?_take, List.getElem?_take]
        by_cases ht : t < B
        · have := h.args (A + t) (by omega)
          rw [if_pos (by omega), if_pos (by omega)]
          rw [List.getD_eq_getElem?_getD, List.getD_eq_getElem?_getD, List.getElem?_eq_getElem (by omega), List.getElem?_eq_getElem (by omega)] at this
          rw [show d + A + t = d + (A + t) by omega, List.getElem?_eq_getElem (by omega), List.getElem?_eq_getElem (by omega)]
          simpa using this
        · rw [if_neg (by omega), if_neg (by omega)]; rfl
theorem Fo.shift {kd kd' : Nat → List Int} {c n : Nat} (hk : ∀ j, j < n → kd' (c + j) = (kd j).map (fun x => x + (c : Int))) {a b : Nat} {ks : List Int} (h : Fo kd a b ks) : b ≤ n → Fo kd' (c + a) (c + b) (ks.map (fun x => x + (c : Int))) := by
  induction h with
  | nil a => intro _; exact .nil _
  | @cons a k b ks f1 f2 ih1 ih2 =>
    intro hb
    have l2 := f2.le
    have h1 := ih1 (by omega)
    rw [← hk k (by omega)] at h1
    have h2 := ih2 hb
    rw [List.map_cons, show (k : Int) + (c : Int) = ((c + k : Nat) : Int) by omega]
    exact .cons h1 (by rw [show c + k + 1 = c + (k + 1) by omega]; exact h2)
theorem xPart {F X : Fmu} {c d : Nat} (hL : Lt F) (hF : Fine F) (gX : Good X) (h : In F X c d) (hx : X.1.length ≤ 320) (hxa : X.2.length ≤ 400) : ast_Part F ((c + X.1.length - 1 : Nat) : Int) = some (X, 0) := by
  have hF1 := hL.n
  have hF2 := hL.a
  have g := hF.1
  have hlen := h.len
  have halen := h.alen
  have one := gX.one
  obtain ⟨b, r1, r3⟩ := xRightP F hL
  have hb : b = true := r3.2 hF
  subst hb
  have fo := gX.fo.shift (n := X.1.length) (fun j hj => h.kids gX hj) (Nat.le_refl _)
  have foF : Fo (kd F) c (c + X.1.length) [((c + X.1.length - 1 : Nat) : Int)] := by
    have e : [((X.1.length - 1 : Nat) : Int)].map (fun x => x + (c : Int)) = [((c + X.1.length - 1 : Nat) : Int)] := by simp; omega
    rw [← e]; exact fo
  have below := pBelow F ([], []) hF1 hF2 g ((c + X.1.length - 1 : Nat) : Int) foF hlen 0 ((c + X.1.length - 1 : Nat) : Int) (F.2.length : Int) (by omega)
  rw [if_pos (show c < c + X.1.length by omega), show c + X.1.length - c = X.1.length by omega, show ((c + X.1.length : Nat) : Int) - 1 = ((c + X.1.length - 1 : Nat) : Int) by omega] at below
  generalize hargs : fA F c X.1.length (F.2.length : Int) = args at below
  have hA : ∀ j, j < X.1.length → callN (nd X j) = true → args = (d : Int) := fun j hj hc => by rw [← hargs]; exact h.first gX X.1.length _ (Nat.le_refl _) ⟨j, hj, hc⟩
  have hAb : -10000 ≤ args ∧ args ≤ 10000 := by
    by_cases hex : ∃ j, j < X.1.length ∧ callN (nd X j) = true
    · obtain ⟨j, hj, hc⟩ := hex
      have := hA j hj hc
      omega
    · have no : ∀ (m : Nat) (y : Int), m ≤ X.1.length → fA F c m y = y := by
        intro m
        induction m with
        | zero => intro y _; rfl
        | succ m ihm =>
          intro y hm
          have : callN (nd X m) = false := by
            cases hc : callN (nd X m) with
            | false => rfl
            | true => exact absurd ⟨m, by omega, hc⟩ hex
          simp only [fA]
          rw [h.nodes m (by omega), callN_mv, this, cond_false]
          exact ihm y (by omega)
      rw [← hargs, no _ _ (Nat.le_refl _)]; omega
  -- the nodes that it is made of
  have hS : ∀ j, j < X.1.length → ((F.1.take (c + X.1.length)).drop c).getD j ZN = nd F (c + j) := fun j hj => by
    unfold nd
    rw [List.getD_eq_getElem?_getD, List.getD_eq_getElem?_getD, List.getElem?_drop, List.getElem?_take, if_pos (by omega)]
  have hSl : ((F.1.take (c + X.1.length)).drop c).length = X.1.length := by simp; omega
  generalize hSe : (F.1.take (c + X.1.length)).drop c = S at hS hSl
  have wc : IntKind.i64.wrap (0 - (c : Int)) = -(c : Int) := by rw [w64 (by omega) (by omega)]; omega
  have wa : IntKind.i64.wrap (0 - args) = -args := by rw [w64 (by omega) (by omega)]; omega
  have back : ∀ j, j < X.1.length → ast_moved (nd F (c + j)) (-(c : Int)) (-args) = some (nd X j) := fun j hj => by
    have sm := g.sm hF1 hF2 (i := c + j) (by omega)
    rw [xMoved sm (by omega) (by omega), h.nodes j hj, mv_back _ _ _ _ fun hc => hA j hj hc]
  have tk1 : ∀ i, i < X.1.length → X.1.take (i + 1) = X.1.take i ++ [nd X i] := fun i hi => by
    unfold nd
    rw [List.take_succ_eq_append_getElem hi, List.getD_eq_getElem?_getD, List.getElem?_eq_getElem hi]; rfl
  have build : ∀ (m i : Nat) (u : Nat), i + m = X.1.length → cls X i = some (u : Int) → u ≤ X.2.length → ast_Part_6 S (S.length : Int) (i : Int) (X.1.take i) (X.2.take u) F ([], []) (c : Int) args = some (X, 0) := by
    intro m
    induction m with
    | zero =>
      intro i u hi hu hul
      have hie : i = X.1.length := by omega
      subst hie
      have : (u : Int) = (X.2.length : Int) := Option.some.inj (hu.symm.trans gX.cl)
      rw [ast_Part_6_eq, hSl, cF (decide_eq_false (by omega)), List.take_of_length_le (Nat.le_refl _), List.take_of_length_le (by omega)]
    | succ m ih =>
      intro i u hi hu hul
      have hil : i < X.1.length := by omega
      have hid : i < S.length := by omega
      have roomN : ∀ n : Nd, Nat.ble (((X.1.take i).length + [n].length) * 176) 140737488355328 = true := fun n => Nat.ble_eq_true_of_le (by simp; omega)
      obtain ⟨v, hv⟩ := cls_pre X gX.cl (show i + 1 ≤ X.1.length by omega)
      obtain ⟨b1, b2⟩ := cls_back hu hv
      have hul' : v ≤ (X.2.length : Int) := by
        -- what is used never falls
        have mono : ∀ (k : Nat) (w : Int), i + 1 + k ≤ X.1.length → cls X (i + 1 + k) = some w → v ≤ w := by
          intro k
          induction k with
          | zero => intro w _ hw; have := Option.some.inj (hv.symm.trans hw); omega
          | succ k ihk =>
            intro w hk hw
            obtain ⟨w', hw'⟩ := cls_pre X hw (show i + 1 + k ≤ i + 1 + (k + 1) by omega)
            have a1 := ihk w' (by omega) hw'
            obtain ⟨_, e⟩ := cls_back hw' hw
            rw [e]; unfold nextU
            cases hb : callN (nd X (i + 1 + k)) with
            | false => exact a1
            | true => have := callN_can (gX.can _ (by omega)) hb; simp only [cond_true]; omega
        have := mono (X.1.length - (i + 1)) (X.2.length : Int) (by omega) (by rw [show i + 1 + (X.1.length - (i + 1)) = X.1.length by omega]; exact gX.cl)
        exact this
      have fin : ∀ w : Nat, (w : Int) = v → (ast_moved (nd F (c + i)) (-(c : Int)) (-args)).bind (fun v1 => cond (Nat.ble (((X.1.take i).length + [v1].length) * 176) 140737488355328) (ast_Part_6 S (S.length : Int) ((i + 1 : Nat) : Int) (X.1.take i ++ [v1]) (X.2.take w) F ([], []) (c : Int) args) none) = some (X, 0) := fun w hw => by
        rw [back i hil, Option.bind_some, cT (roomN _), ← tk1 i hil]
        exact ih (i + 1) w (by omega) (by rw [hw]; exact hv) (by omega)
      rw [ast_Part_6_eq, cT (decide_eq_true (by omega)), cT (ix hid), Int.toNat_natCast]
      show cond (decide ((S.getD i ZN).1 = 9)) (cond (decide (0 ≤ (S.getD i ZN).2.2.1) && (decide ((S.getD i ZN).2.2.1 ≤ IntKind.i64.wrap ((S.getD i ZN).2.2.1 + (S.getD i ZN).2.2.2.1)) && decide (IntKind.i64.wrap ((S.getD i ZN).2.2.1 + (S.getD i ZN).2.2.2.1) ≤ (F.2.length : Int)))) (ast_Part_8 S (S.length : Int) (i : Int) ((F.2.take (IntKind.i64.wrap ((S.getD i ZN).2.2.1 + (S.getD i ZN).2.2.2.1)).toNat).drop (S.getD i ZN).2.2.1.toNat) (((F.2.take (IntKind.i64.wrap ((S.getD i ZN).2.2.1 + (S.getD i ZN).2.2.2.1)).toNat).drop (S.getD i ZN).2.2.1.toNat).length : Int) 0 (X.1.take i) (X.2.take u) F ([], []) (c : Int) args (S.getD i ZN)) none) ((ast_moved (S.getD i ZN) (IntKind.i64.wrap (0 - (c : Int))) (IntKind.i64.wrap (0 - args))).bind fun v1 => cond (Nat.ble (((X.1.take i).length + [v1].length) * 176) 140737488355328) (ast_Part_6 S (S.length : Int) (IntKind.i64.wrap ((i : Int) + 1)) (X.1.take i ++ [v1]) (X.2.take u) F ([], []) (c : Int) args) none) = _
      rw [hS i hil, wc, wa, wS (by omega)]
      by_cases h9 : (nd F (c + i)).1 = 9
      · have h9X : (nd X i).1 = 9 := by rw [h.nodes i hil, mv_kind] at h9; exact h9
        have hnum : (nd F (c + i)).2.2.2.1 = (nd X i).2.2.2.1 := by rw [h.nodes i hil]; exact mv_num (by omega) _ _
        have hca := can_arg (gX.can i hil) h9X
        obtain ⟨B, hB⟩ : ∃ B : Nat, (nd X i).2.2.2.1 = (B : Int) := ⟨(nd X i).2.2.2.1.toNat, by omega⟩
        -- where its arguments lie
        have place : ∃ A' : Nat, (nd F (c + i)).2.2.1 = (A' : Int) ∧ A' + B ≤ F.2.length ∧ v = ((u + B : Nat) : Int) ∧ ∀ t, t < B → F.2.getD (A' + t) 0 = X.2.getD (u + t) 0 + (c : Int) := by
          cases hc : callN (nd X i) with
          | false =>
            have hB0 : B = 0 := by
              unfold callN at hc
              rw [decide_eq_true h9X, Bool.true_and] at hc
              have := of_decide_eq_false hc
              omega
            have hA0 : (nd X i).2.2.1 = 0 := by omega
            refine ⟨0, ?_, by omega, ?_, fun t ht => by omega⟩
            · rw [h.nodes i hil]; unfold mv
              rw [if_neg (by omega), if_neg (by omega), if_neg (by omega), hA0]; rfl
            · rw [b2]; unfold nextU; rw [hc, hB0]; rfl
          | true =>
            have hAu := b1 hc
            obtain ⟨e1, _⟩ := mv_call hc (c : Int) (d : Int)
            have hvv : v = ((u + B : Nat) : Int) := by rw [b2]; unfold nextU; rw [hc, cond_true, hB]; omega
            refine ⟨d + u, ?_, by omega, hvv, fun t ht => ?_⟩
            · rw [h.nodes i hil, e1, hAu]; omega
            · rw [Nat.add_assoc]; exact h.args (u + t) (by omega)
        obtain ⟨A', hA', hAl, hvv, hel⟩ := place
        have wAB : IntKind.i64.wrap ((A' : Int) + (B : Int)) = ((A' + B : Nat) : Int) := by rw [w64 (by omega) (by omega)]; omega
        have inA : (decide (0 ≤ (A' : Int)) && (decide ((A' : Int) ≤ ((A' + B : Nat) : Int)) && decide (((A' + B : Nat) : Int) ≤ (F.2.length : Int)))) = true := by simp; omega
        rw [cT (decide_eq_true h9), hA', hnum, hB, wAB, cT inA, Int.toNat_natCast, Int.toNat_natCast]
        have hQl : ((F.2.take (A' + B)).drop A').length = B := by simp; omega
        have hQ : ∀ t, t < B → ((F.2.take (A' + B)).drop A').getD t 0 = X.2.getD (u + t) 0 + (c : Int) := fun t ht => by
          rw [← hel t ht, List.getD_eq_getElem?_getD, List.getD_eq_getElem?_getD, List.getElem?_drop, List.getElem?_take, if_pos (by omega)]
        generalize (F.2.take (A' + B)).drop A' = Q at hQl hQ
        have tk2 : ∀ t, t < X.2.length → X.2.take (t + 1) = X.2.take t ++ [X.2.getD t 0] := fun t ht => by
          rw [List.take_succ_eq_append_getElem ht, List.getD_eq_getElem?_getD, List.getElem?_eq_getElem ht]; rfl
        have loop8 : ∀ (m' t : Nat), t + m' = B → ast_Part_8 S (S.length : Int) (i : Int) Q (Q.length : Int) (t : Int) (X.1.take i) (X.2.take (u + t)) F ([], []) (c : Int) args (nd F (c + i)) = some (X, 0) := by
          intro m'
          induction m' with
          | zero =>
            intro t ht
            have htB : t = B := by omega
            subst htB
            rw [ast_Part_8_eq, hQl, cF (decide_eq_false (by omega)), wc, wa, wS (by omega)]
            exact fin (u + t) (by rw [hvv])
          | succ m' ih8 =>
            intro t ht
            have htQ : t < Q.length := by omega
            have hut : u + t < X.2.length := by omega
            obtain ⟨k, hk, hkl⟩ := gX.arg hut
            have room : ∀ y : Int, Nat.ble (((X.2.take (u + t)).length + [y].length) * 8) 140737488355328 = true := fun y => Nat.ble_eq_true_of_le (by simp; omega)
            rw [ast_Part_8_eq, cT (decide_eq_true (by omega)), cT (ix htQ), Int.toNat_natCast, cT (room _), wS (by omega), hQ t (by omega), w64 (x := X.2.getD (u + t) 0 + (c : Int) - (c : Int)) (by rw [hk]; omega) (by rw [hk]; omega), show X.2.getD (u + t) 0 + (c : Int) - (c : Int) = X.2.getD (u + t) 0 by omega, ← tk2 _ hut]
            exact ih8 (t + 1) (by omega)
        exact loop8 B 0 (Nat.zero_add _)
      · rw [cF (decide_eq_false h9)]
        have h9X : ¬ (nd X i).1 = 9 := by rw [h.nodes i hil, mv_kind] at h9; exact h9
        have hcf : callN (nd X i) = false := by unfold callN; rw [decide_eq_false h9X]; rfl
        exact fin u (by rw [b2]; unfold nextU; rw [hcf]; rfl)
  have last : ast_Part_4 0 ((c : Int) - 1) F F ([], []) (c : Int) args ((c + X.1.length - 1 : Nat) : Int) 0 = some (X, 0) := by
    have w1 : IntKind.i64.wrap (((c + X.1.length - 1 : Nat) : Int) + 1) = ((c + X.1.length : Nat) : Int) := by rw [w64 (by omega) (by omega)]; omega
    have inS : (decide (0 ≤ (c : Int)) && (decide ((c : Int) ≤ ((c + X.1.length : Nat) : Int)) && decide (((c + X.1.length : Nat) : Int) ≤ (F.1.length : Int)))) = true := by simp; omega
    rw [ast_Part_4_eq, cF (decide_eq_false (by omega)), w1, cT inS, Int.toNat_natCast, Int.toNat_natCast, hSe]
    exact build X.1.length 0 0 (Nat.zero_add _) rfl (Nat.zero_le _)
  rw [ast_Part_eq, r1, Option.bind_some, Bool.not_true, cond_false, cF (decide_eq_false (by omega)), decide_eq_false (by omega), ast_Part_1_eq, cond_false, ast_Part_2_eq, ast_Part_3_eq]
  refine Eq.trans ?_ last
  exact below
end Go.Proofs.YtgnkkanhjghhfaaGreatDoor.D
/- AstParts: the law; plain Lean over the equations. -/
namespace Go.Proofs.YtgnkkanhjghhfaaGreatDoor.D
open Go Go.Proofs.YtgnkkanhjghhfaaGreatDoor.K
open Go.Proofs.YtgnkkanhjghhfaaGreatDoor.P (wS)
theorem nd_left {l r : List Nd} {j : Nat} (h : j < l.length) : (l ++ r).getD j ZN = l.getD j ZN := by
  rw [List.getD_eq_getElem?_getD, List.getD_eq_getElem?_getD, List.getElem?_append_left h]
theorem nd_right {l r : List Nd} {j : Nat} : (l ++ r).getD (l.length + j) ZN = r.getD j ZN := by
  rw [List.getD_eq_getElem?_getD, List.getD_eq_getElem?_getD, List.getElem?_append_right (by omega), show l.length + j - l.length = j by omega]
theorem ig_left {l r : List Int} {j : Nat} (h : j < l.length) : (l ++ r).getD j 0 = l.getD j 0 := by
  rw [List.getD_eq_getElem?_getD, List.getD_eq_getElem?_getD, List.getElem?_append_left h]
theorem ig_right {l r : List Int} {j : Nat} : (l ++ r).getD (l.length + j) 0 = r.getD j 0 := by
  rw [List.getD_eq_getElem?_getD, List.getD_eq_getElem?_getD, List.getElem?_append_right (by omega), show l.length + j - l.length = j by omega]
theorem in_f (f g : Fmu) (N : List Nd) (A : List Int) : In ((bhV f g).1 ++ N, (bhV f g).2 ++ A) f 0 0 := by
  refine ⟨fun j hj => ?_, by simp [bhV] <;> omega, fun t ht => ?_, by simp [bhV] <;> omega⟩
  · unfold nd bhV
    simp only [Nat.zero_add, List.append_assoc]
    rw [nd_left hj]
    exact (mv_zero _).symm
  · unfold bhV
    simp only [Nat.zero_add, List.append_assoc]
    rw [ig_left ht]; simp
theorem in_g (f g : Fmu) (N : List Nd) (A : List Int) : In ((bhV f g).1 ++ N, (bhV f g).2 ++ A) g f.1.length f.2.length := by
  refine ⟨fun j hj => ?_, by simp [bhV] <;> omega, fun t ht => ?_, by simp [bhV] <;> omega⟩
  · unfold nd bhV
    simp only [List.append_assoc]
    rw [nd_right, nd_left (by simp; omega), List.getD_eq_getElem?_getD, List.getElem?_map, List.getD_eq_getElem?_getD, List.getElem?_eq_getElem hj]; rfl
  · unfold bhV
    simp only [List.append_assoc]
    rw [ig_right, ig_left (by simp; omega), List.getD_eq_getElem?_getD, List.getElem?_map, List.getD_eq_getElem?_getD, List.getElem?_eq_getElem ht]; rfl
theorem bh_len (f g : Fmu) : (bhV f g).1.length = f.1.length + g.1.length ∧ (bhV f g).2.length = f.2.length + g.2.length := by simp [bhV]
theorem lt_join {f g : Fmu} (hf : Lt f) (hg : Lt g) (gf : Good f) (gg : Good g) {n : Nd} (hn : n.2.2.2.2.2.1.length ≤ 9223372036854775807) {A : List Int} (hA : A.length ≤ 2) (h3 : f.1.length + g.1.length ≤ 300) : Lt ((bhV f g).1 ++ [n], (bhV f g).2 ++ A) := by
  obtain ⟨l1, l2⟩ := bh_len f g
  have a1 := gf.args
  have a2 := gg.args
  refine ⟨by simp only [List.length_append, l1, List.length_singleton]; omega, by simp only [List.length_append, l2]; omega, fun x hx => ?_⟩
  simp only [List.mem_append, List.mem_singleton] at hx
  rcases hx with hx | rfl
  · unfold bhV at hx
    simp only [List.mem_append, List.mem_map] at hx
    rcases hx with hx | ⟨y, hy, rfl⟩
    · exact hf.t x hx
    · rw [mv_text]; exact hg.t y hy
  · exact hn
def nT (op : Int) (f g : Fmu) : Nd := (8, op, (f.1.length : Int) - 1, (f.1.length : Int) + (g.1.length : Int) - 1, (false, [], []), [], false, ([], 0, 0, false, false), [], 0, 0, false, false)
def nC (name : List UInt8) (f g : Fmu) : Nd := (9, 0, ((bhV f g).2.length : Int), 2, (false, [], []), name, false, ([], 0, 0, false, false), [], 0, 0, false, false)
theorem xTwo (f g : Fmu) (op : Int) (hf : Lt f) (hg : Lt g) : ∃ h e, ast_Two op f g = some (h, e) ∧ (e = 0 → Good f ∧ Good g ∧ h = ((bhV f g).1 ++ [nT op f g], (bhV f g).2 ++ []) ∧ Lt h ∧ Fine h) := by
  have f1 := hf.n
  have f2 := hf.a
  have g1 := hg.n
  have g2 := hg.a
  have w1 : IntKind.i64.wrap ((f.1.length : Int) - 1) = (f.1.length : Int) - 1 := w64 (by omega) (by omega)
  have w2 : IntKind.i64.wrap (IntKind.i64.wrap ((f.1.length : Int) + (g.1.length : Int)) - 1) = (f.1.length : Int) + (g.1.length : Int) - 1 := by rw [w64 (x := (f.1.length : Int) + (g.1.length : Int)) (by omega) (by omega), w64 (by omega) (by omega)]
  obtain ⟨b, e1, q1⟩ := xRightP f hf
  obtain ⟨c, e2, q2⟩ := xRightP g hg
  rw [ast_Two_eq, w1, w2, e1, e2, Option.bind_some, Option.bind_some]
  show ∃ h e, cond (!b) (ast_Two_1 true f g ([], []) (nT op f g)) (cond (!c) (ast_Two_1 true f g ([], []) (nT op f g)) ((ast_may (nT op f g)).bind fun v3 => ast_Two_1 (!v3) f g ([], []) (nT op f g))) = some (h, e) ∧ _
  have bad : ast_Two_1 true f g ([], []) (nT op f g) = some (([], []), 3) := by rw [ast_Two_1_eq, cond_true]
  have no3 : ∃ h e, some (([], []), (3 : Int)) = some (h, e) ∧ (e = 0 → Good f ∧ Good g ∧ h = ((bhV f g).1 ++ [nT op f g], (bhV f g).2 ++ []) ∧ Lt h ∧ Fine h) := ⟨_, _, rfl, fun h => by cases h⟩
  rw [bad, xCan (nT op f g) (by simp [nT]), Option.bind_some]
  cases b with
  | false => exact no3
  | true =>
  cases c with
  | false => exact no3
  | true =>
  cases hc : canV (nT op f g) with
  | false => rw [Bool.not_false, bad]; exact no3
  | true =>
    have gf := (q1.1 rfl).1
    have gg := (q2.1 rfl).1
    obtain ⟨l1, l2⟩ := bh_len f g
    have room : Nat.ble (((bhV f g).1.length + [nT op f g].length) * 176) 140737488355328 = true := Nat.ble_eq_true_of_le (by simp; omega)
    rw [Bool.not_true, cond_false, cond_false, ast_Two_1_eq, cond_false, xBehind f g (by omega) (by omega) gg (by omega) (by omega), Option.bind_some, ast_Two_2_eq, ast_Two_3_eq, eqOr_same, cT room]
    by_cases h3 : f.1.length + g.1.length + 1 ≤ 300
    · have hL := lt_join hf hg gf gg (n := nT op f g) (by simp [nT]) (A := []) (by simp) (by omega)
      rw [List.append_nil] at hL
      obtain ⟨r, e3, q3⟩ := xRightP _ hL
      rw [cF (decide_eq_false (by simp only [List.length_append, List.length_singleton, l1]; omega)), e3, Option.bind_some]
      cases r with
      | false => exact ⟨_, 8, rfl, fun h => by cases h⟩
      | true => exact ⟨_, 0, rfl, fun _ => ⟨gf, gg, by rw [List.append_nil], hL, q3.1 rfl⟩⟩
    · rw [cT (decide_eq_true (by simp only [List.length_append, List.length_singleton, l1]; omega))]
      exact ⟨_, 9, rfl, fun h => by cases h⟩
theorem xCall (f g : Fmu) (name : List UInt8) (hname : name.length ≤ 9223372036854775807) (hf : Lt f) (hg : Lt g) : ∃ h e, ast_Call name [f, g] = some (h, e) ∧ (e = 0 → Good f ∧ Good g ∧ h = ((bhV f g).1 ++ [nC name f g], (bhV f g).2 ++ [(f.1.length : Int) - 1, (f.1.length : Int) + (g.1.length : Int) - 1]) ∧ Lt h ∧ Fine h) := by
  have f1 := hf.n
  have f2 := hf.a
  have g1 := hg.n
  have g2 := hg.a
  obtain ⟨b, e1, q1⟩ := xRightP f hf
  obtain ⟨c, e2, q2⟩ := xRightP g hg
  have bad : ast_Call_5 name [f, g] true ([], []) = some (([], []), 3) := by rw [ast_Call_5_eq, cond_true]
  have no3 : ∃ h e, some (([], []), (3 : Int)) = some (h, e) ∧ (e = 0 → Good f ∧ Good g ∧ h = ((bhV f g).1 ++ [nC name f g], (bhV f g).2 ++ [(f.1.length : Int) - 1, (f.1.length : Int) + (g.1.length : Int) - 1]) ∧ Lt h ∧ Fine h) := ⟨_, _, rfl, fun h => by cases h⟩
  rw [ast_Call_eq, ast_Call_1_eq, ast_Call_2_eq, ast_Call_3_eq]
  show ∃ h e, ast_Call_4 f [] [] [f, g] 0 2 0 name [f, g] = some (h, e) ∧ _
  rw [ast_Call_4_eq, e1, Option.bind_some, bad]
  cases b with
  | false => exact no3
  | true =>
  show ∃ h e, ast_Call_3 [f, g] 2 1 [] [] name [f, g] = some (h, e) ∧ _
  rw [ast_Call_3_eq]
  show ∃ h e, ast_Call_4 g [] [] [f, g] 1 2 1 name [f, g] = some (h, e) ∧ _
  rw [ast_Call_4_eq, e2, Option.bind_some, bad]
  cases c with
  | false => exact no3
  | true =>
  show ∃ h e, ast_Call_3 [f, g] 2 2 [] [] name [f, g] = some (h, e) ∧ _
  rw [ast_Call_3_eq]
  show ∃ h e, (ast_named name).bind (fun v1 => ast_Call_5 name [f, g] (!v1) ([], [])) = some (h, e) ∧ _
  rw [xNm name hname, Option.bind_some]
  cases hm : nmV name with
  | false => rw [Bool.not_false, bad]; exact no3
  | true =>
  have gf := (q1.1 rfl).1
  have gg := (q2.1 rfl).1
  obtain ⟨l1, l2⟩ := bh_len f g
  have w1 : IntKind.i64.wrap ((f.1.length : Int) - 1) = (f.1.length : Int) - 1 := w64 (by omega) (by omega)
  have w2 : IntKind.i64.wrap (((bhV f g).1.length : Int) - 1) = (f.1.length : Int) + (g.1.length : Int) - 1 := by rw [l1, w64 (by omega) (by omega)]; omega
  rw [Bool.not_true, ast_Call_5_eq, cond_false]
  show ∃ h e, ast_Call_6 name [f, g] [f, g] 2 0 [] [] [] ([], []) = some (h, e) ∧ _
  rw [ast_Call_6_eq]
  show ∃ h e, (ast_behind ([], []) f).bind _ = some (h, e) ∧ _
  rw [xBehind ([], []) f (by simp) (by simp) gf (by omega) (by omega), bh_nil, Option.bind_some, w1]
  show ∃ h e, ast_Call_6 name [f, g] [f, g] 2 1 [(f.1.length : Int) - 1] f.1 f.2 ([], []) = some (h, e) ∧ _
  rw [ast_Call_6_eq]
  show ∃ h e, (ast_behind f g).bind _ = some (h, e) ∧ _
  rw [xBehind f g (by omega) (by omega) gg (by omega) (by omega), Option.bind_some, w2]
  show ∃ h e, ast_Call_6 name [f, g] [f, g] 2 2 [(f.1.length : Int) - 1, (f.1.length : Int) + (g.1.length : Int) - 1] (bhV f g).1 (bhV f g).2 ([], []) = some (h, e) ∧ _
  rw [ast_Call_6_eq]
  show ∃ h e, ast_Call_7 [(f.1.length : Int) - 1, (f.1.length : Int) + (g.1.length : Int) - 1] (bhV f g).1 (bhV f g).2 ([], []) (nC name f g) = some (h, e) ∧ _
  have room7 : Nat.ble (((bhV f g).2.length + [(f.1.length : Int) - 1, (f.1.length : Int) + (g.1.length : Int) - 1].length) * 8) 140737488355328 = true := Nat.ble_eq_true_of_le (by simp; omega)
  have room8 : Nat.ble (((bhV f g).1.length + [nC name f g].length) * 176) 140737488355328 = true := Nat.ble_eq_true_of_le (by simp; omega)
  rw [ast_Call_7_eq, cT room7, ast_Call_8_eq, cT room8]
  by_cases h3 : f.1.length + g.1.length + 1 ≤ 300
  · have hL := lt_join hf hg gf gg (n := nC name f g) (by simpa [nC] using hname) (A := [(f.1.length : Int) - 1, (f.1.length : Int) + (g.1.length : Int) - 1]) (by simp) (by omega)
    obtain ⟨r, e3, q3⟩ := xRightP _ hL
    rw [cF (decide_eq_false (by simp only [List.length_append, List.length_singleton, l1]; omega)), e3, Option.bind_some]
    cases r with
    | false => exact ⟨_, 8, rfl, fun h => by cases h⟩
    | true => exact ⟨_, 0, rfl, fun _ => ⟨gf, gg, rfl, hL, q3.1 rfl⟩⟩
  · rw [cT (decide_eq_true (by simp only [List.length_append, List.length_singleton, l1]; omega))]
    exact ⟨_, 9, rfl, fun h => by cases h⟩
theorem xKidsAt {f : Fmu} (hL : Lt f) (hF : Fine f) {k : Nat} (hk : k < f.1.length) : ast_Kids f (k : Int) = some (kd f k) := by
  have ha := hL.a
  have hn := hL.n
  obtain ⟨b, h1, h3⟩ := xRightP f hL
  have hb : b = true := h3.2 hF
  subst hb
  have g := hF.1
  have hkl := kd_len f (by omega) k
  rw [ast_Kids_eq, h1, Option.bind_some, Bool.not_true, cond_false, cF (decide_eq_false (by omega)), decide_eq_false (by omega), ast_Kids_1_eq, cond_false, cT (ix hk), Int.toNat_natCast]
  show (ast_kids (nd f k) f.2).bind _ = _
  rw [xKids _ _ (by omega) (fun h9 => by have := can_arg (g.can k hk) h9; omega), Option.bind_some]
  show (slices_Clone_int_int (kd f k)).bind _ = _
  rw [xClone _ hkl]; rfl
theorem parts13 (f g : Fmu) (op : Int) (name : List UInt8) (hname : name.length ≤ 9223372036854775807) (hf : ∀ n ∈ f.1, n.2.2.2.2.2.1.length ≤ 9223372036854775807) (hg : ∀ n ∈ g.1, n.2.2.2.2.2.1.length ≤ 9223372036854775807) : abacistlaw13_AstParts f g op name = some true := by
  have kn13 : (abacistlaw13_known.bind fun v1 => some v1) = some true := by rw [known13]; rfl
  have t1 : abacistlaw13_AstParts_1 op name true f g = some true := by rw [abacistlaw13_AstParts_1_eq, cond_true, kn13]
  obtain ⟨b, hb, hbl⟩ := light13 f
  obtain ⟨c, hc, hcl⟩ := light13 g
  rw [abacistlaw13_AstParts_eq, hb, Option.bind_some, hc, Option.bind_some, t1]
  cases b with
  | false => rfl
  | true =>
  cases c with
  | false => rfl
  | true =>
  have hLf : Lt f := ⟨(hbl rfl).1, (hbl rfl).2, hf⟩
  have hLg : Lt g := ⟨(hcl rfl).1, (hcl rfl).2, hg⟩
  have f1 := hLf.n
  have f2 := hLf.a
  have g1 := hLg.n
  have g2 := hLg.a
  show abacistlaw13_AstParts_1 op name (decide ((name.length : Int) > 100)) f g = some true
  cases decide ((name.length : Int) > 100) with
  | true => exact t1
  | false =>
  obtain ⟨l1, l2⟩ := bh_len f g
  -- the call
  have call : (ast_Call name [f, g]).bind (fun v1 => cond (!decide (v1.2 = 0)) ((abacistlaw13_known).bind fun v2 => some v2) ((ast_Kids v1.1 (IntKind.i64.wrap ((v1.1.1.length : Int) - 1))).bind fun v3 => cond (!decide ((v3.length : Int) = 2)) (some false) (cond (decide (0 ≤ 0) && decide (0 < (v3.length : Int))) ((ast_Part v1.1 (v3.getD 0 0)).bind fun v4 => cond (decide (0 ≤ 1) && decide (1 < (v3.length : Int))) ((ast_Part v1.1 (v3.getD 1 0)).bind fun v5 => (abacistref13_Same v4.1 f).bind fun v6 => cond v6 (cond (decide (v4.2 = 0)) ((abacistref13_Same v5.1 g).bind fun v7 => cond v7 (cond (decide (v5.2 = 0)) ((abacistlaw13_known).bind fun v8 => some v8) (some false)) (some false)) (some false)) (some false)) none) none))) = some true := by
    obtain ⟨h, e, he, hr⟩ := xCall f g name hname hLf hLg
    rw [he, Option.bind_some]
    by_cases h0 : e = 0
    · obtain ⟨gf, gg, eh, hL, hF⟩ := hr h0
      have of := gf.one
      have og := gg.one
      have hlen : h.1.length = f.1.length + g.1.length + 1 := by rw [eh]; simp only [List.length_append, List.length_singleton, l1]
      have hn := hL.n
      have hlast : nd h (f.1.length + g.1.length) = nC name f g := by
        rw [eh]; unfold nd
        have := nd_right (l := (bhV f g).1) (r := [nC name f g]) (j := 0)
        rw [l1] at this
        exact this
      have hkd : kd h (f.1.length + g.1.length) = [(f.1.length : Int) - 1, (f.1.length : Int) + (g.1.length : Int) - 1] := by
        have hcn : callN (nd h (f.1.length + g.1.length)) = true := by rw [hlast]; rfl
        rw [(kd_call hcn (hF.1.told _ (by omega))).2, hlast, eh]
        show (((bhV f g).2 ++ [(f.1.length : Int) - 1, (f.1.length : Int) + (g.1.length : Int) - 1]).take (((bhV f g).2.length : Int) + 2).toNat).drop (((bhV f g).2.length : Int)).toNat = _
        rw [Int.toNat_natCast, List.take_of_length_le (by simp; omega), List.drop_left]
      have wl : IntKind.i64.wrap ((h.1.length : Int) - 1) = ((f.1.length + g.1.length : Nat) : Int) := by rw [hlen, w64 (by omega) (by omega)]; omega
      have pf := xPart hL hF gf (c := 0) (d := 0) (by rw [eh]; exact in_f f g _ _) f1 f2
      have pg := xPart hL hF gg (c := f.1.length) (d := f.2.length) (by rw [eh]; exact in_g f g _ _) g1 g2
      rw [show ((0 + f.1.length - 1 : Nat) : Int) = (f.1.length : Int) - 1 by omega] at pf
      rw [show ((f.1.length + g.1.length - 1 : Nat) : Int) = (f.1.length : Int) + (g.1.length : Int) - 1 by omega] at pg
      rw [cF (by rw [decide_eq_true h0]; rfl), wl, xKidsAt hL hF (by omega), Option.bind_some, hkd]
      show (ast_Part h ((f.1.length : Int) - 1)).bind (fun v4 => (ast_Part h ((f.1.length : Int) + (g.1.length : Int) - 1)).bind fun v5 => (abacistref13_Same v4.1 f).bind fun v6 => cond v6 (cond (decide (v4.2 = 0)) ((abacistref13_Same v5.1 g).bind fun v7 => cond v7 (cond (decide (v5.2 = 0)) ((abacistlaw13_known).bind fun v8 => some v8) (some false)) (some false)) (some false)) (some false)) = _
      rw [pf, Option.bind_some, pg, Option.bind_some, ySame f f (by omega) (by omega), Option.bind_some, sameV_self, cond_true, cT (decide_eq_true rfl), ySame g g (by omega) (by omega), Option.bind_some, sameV_self, cond_true, cT (decide_eq_true rfl), kn13]
    · rw [cT (by rw [decide_eq_false h0]; rfl), kn13]
  have t2 : abacistlaw13_AstParts_2 name false f g = some true := by rw [abacistlaw13_AstParts_2_eq, cond_false]; exact call
  rw [abacistlaw13_AstParts_1_eq, cond_false]
  obtain ⟨h, e, he, hr⟩ := xTwo f g op hLf hLg
  rw [he, Option.bind_some]
  by_cases h0 : e = 0
  · obtain ⟨gf, gg, eh, hL, hF⟩ := hr h0
    have of := gf.one
    have og := gg.one
    have hlen : h.1.length = f.1.length + g.1.length + 1 := by rw [eh]; simp only [List.length_append, List.length_singleton, l1]
    have pf := xPart hL hF gf (c := 0) (d := 0) (by rw [eh]; exact in_f f g _ _) f1 f2
    have pg := xPart hL hF gg (c := f.1.length) (d := f.2.length) (by rw [eh]; exact in_g f g _ _) g1 g2
    rw [show ((0 + f.1.length - 1 : Nat) : Int) = (f.1.length : Int) - 1 by omega] at pf
    have wf : IntKind.i64.wrap ((f.1.length : Int) - 1) = (f.1.length : Int) - 1 := w64 (by omega) (by omega)
    have wg : IntKind.i64.wrap ((h.1.length : Int) - 2) = ((f.1.length + g.1.length - 1 : Nat) : Int) := by rw [hlen, w64 (by omega) (by omega)]; omega
    rw [cT (decide_eq_true h0), wf, pf, Option.bind_some, wg, pg, Option.bind_some, ySame f f (by omega) (by omega), Option.bind_some, sameV_self, Bool.not_true, cond_false, cF (by rw [decide_eq_true rfl]; rfl), ySame g g (by omega) (by omega), Option.bind_some, sameV_self, Bool.not_true, cond_false, show (!decide ((0 : Int) = 0)) = false from rfl, t2]
  · rw [cF (decide_eq_false h0)]
    exact call
end Go.Proofs.YtgnkkanhjghhfaaGreatDoor.D
namespace Go.Proofs.YtgnkkanhjghhfaaGreatDoor.K
open Go
theorem AstParts (f : den FmTy) (hf : Wf FmTy f) (g : den FmTy) (hg : Wf FmTy g) (op : Int) (_ : Wf (.int .i64) op) (name : List UInt8) (hn : Wf .str name) : abacistlaw13_AstParts f g op name = some true :=
  D.parts13 f g op name hn (fun n hn => (hf.1.2 n hn).2.2.2.2.2.1) (fun n hn => (hg.1.2 n hn).2.2.2.2.2.1)
end Go.Proofs.YtgnkkanhjghhfaaGreatDoor.K
